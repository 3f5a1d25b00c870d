/- Texts of tests: both writers, both readers. -/
import Derived.Test.YtnogaeckmiekdaaDoorTx5
set_option linter.unusedSimpArgs false
set_option linter.unusedVariables false
namespace Go.Proofs.YtnogaeckmiekdaaDoor
open Go.Lib (decDigits)

def top (f : Int) : Int := if f = 0 ∨ f = 1 then 65535 else if f = 2 then 255 else 7
theorem top_le (f : Int) : 7 ≤ top f ∧ top f ≤ 65535 := by unfold top; repeat' split
                                                           all_goals omega
def nm (f : Int) : List UInt8 := if f = 0 then [102, 114, 111, 109] else if f = 1 then [116, 111] else if f = 2 then [112, 111, 114, 116] else [112, 114, 111, 116, 111]
def TV (t : GTest) : Prop := 0 ≤ t.xField ∧ t.xField ≤ 3 ∧ 0 ≤ t.xLo ∧ t.xLo ≤ t.xHi ∧ t.xHi ≤ top t.xField
instance (t : GTest) : Decidable (TV t) := by unfold TV; infer_instance
/-- the part behind the name -/
def rtx (t : GTest) : List UInt8 := decDigits t.xLo.toNat ++ (if t.xHi = t.xLo then [] else 45 :: decDigits t.xHi.toNat)
def btx (t : GTest) : List UInt8 := nm t.xField ++ 32 :: rtx t
def ttx (t : GTest) : List UInt8 := if t.xNot then 110 :: 111 :: 116 :: 32 :: btx t else btx t
def ttext (t : GTest) : List UInt8 := if TV t then ttx t else []
theorem four {f : Int} (h0 : 0 ≤ f) (h1 : f ≤ 3) : f = 0 ∨ f = 1 ∨ f = 2 ∨ f = 3 := by omega
theorem S_shape {n : Int} {κ : GFieldShape → Prop} (h0 : 0 ≤ n) (h1 : n ≤ 3) (h : ∀ e : GFieldShape, e.xName = B (nm n) → e.xTop = top n → κ e) : idxW gl_impl_fieldShapes n κ := by
  rcases four h0 h1 with rfl | rfl | rfl | rfl
  · exact idxW_of 0 rfl (by decide) (h _ rfl rfl)
  · exact idxW_of 1 rfl (by decide) (h _ rfl rfl)
  · exact idxW_of 2 rfl (by decide) (h _ rfl rfl)
  · exact idxW_of 3 rfl (by decide) (h _ rfl rfl)
theorem S_name {n : Int} {κ : ByteArray → Prop} (h0 : 0 ≤ n) (h1 : n ≤ 3) (h : κ (B (nm n))) : idxW [(ByteArray.mk #[102, 114, 111, 109]), (ByteArray.mk #[116, 111]), (ByteArray.mk #[112, 111, 114, 116]), (ByteArray.mk #[112, 114, 111, 116, 111])] n κ := by
  rcases four h0 h1 with rfl | rfl | rfl | rfl
  · exact idxW_of 0 rfl (by decide) h
  · exact idxW_of 1 rfl (by decide) h
  · exact idxW_of 2 rfl (by decide) h
  · exact idxW_of 3 rfl (by decide) h
theorem S_spec_FieldTop {n : Int} {κ : Int → Prop} (h0 : 0 ≤ n) (h1 : n ≤ 3) (h : κ (top n)) : L_spec_FieldTop n κ := by
  unfold L_spec_FieldTop jnW
  rcases four h0 h1 with rfl | rfl | rfl | rfl <;> simpa [top] using h
theorem S_impl_FieldTop {n : Int} {κ : Int → Prop} (h : κ (if 0 ≤ n ∧ n ≤ 3 then top n else -1)) : L_impl_FieldTop n κ := by
  unfold L_impl_FieldTop jnW
  refine ifW_of (fun hc => ?_) (fun hc => ifW_of (fun hc2 => ?_) (fun hc2 => ?_))
  · simp at hc; rw [if_neg (by omega)] at h; simpa using h
  · simp at hc hc2; rw [if_neg (by omega)] at h; exact h
  · simp at hc hc2; rw [if_pos (by omega)] at h
    exact S_shape (by omega) (by omega) (fun e _ he => by rw [he]; exact h)
theorem S_spec_TestValid {t : GTest} {κ : Bool → Prop} (h : κ (decide (TV t))) : L_spec_TestValid t κ := by
  unfold L_spec_TestValid jnW
  refine S_l1In (ifW_of (fun hc => ?_) (fun hc => ?_))
  · simp at hc
    refine S_l1In (ifW_of (fun hc2 => ?_) (fun hc2 => ?_))
    · simp at hc2
      refine S_spec_FieldTop hc.1 hc.2 ?_
      rw [show decide (t.xHi ≤ top t.xField) = decide (TV t) from decide_eq_decide.2 ⟨fun hh => ⟨hc.1, hc.2, hc2.1, hc2.2, hh⟩, fun hh => hh.2.2.2.2⟩]
      exact h
    · simp at hc2
      rw [decide_eq_false (fun hh : TV t => by obtain ⟨a1, a2, a3, a4, _⟩ := hh; omega)] at h; exact h
  · simp at hc
    rw [decide_eq_false (fun hh : TV t => by obtain ⟨a1, a2, a3, a4, _⟩ := hh; omega)] at h; exact h
theorem S_impl_TestValid {t : GTest} {κ : Bool → Prop} (h : κ (decide (TV t))) : L_impl_TestValid t κ := by
  unfold L_impl_TestValid jnW
  have no : ¬ (0 ≤ t.xField ∧ t.xField < 4 ∧ 0 ≤ t.xLo ∧ t.xLo ≤ t.xHi) → κ false := fun hn => by
    rw [decide_eq_false (fun hh : TV t => by obtain ⟨a1, a2, a3, a4, _⟩ := hh; omega)] at h; exact h
  refine ifW_of (fun hc => ifW_of (fun hc2 => ifW_of (fun hc3 => ifW_of (fun hc4 => ?_) (fun hc4 => no (by simp at hc4; omega))) (fun hc3 => no (by simp at hc3; omega))) (fun hc2 => no (by simp at hc2; omega))) (fun hc => no (by simp at hc; omega))
  simp at hc hc2 hc3 hc4
  refine S_impl_FieldTop ?_
  rw [if_pos ⟨hc, by omega⟩]
  rw [show decide (t.xHi ≤ top t.xField) = decide (TV t) from decide_eq_decide.2 ⟨fun hh => ⟨hc, by omega, hc3, hc4, hh⟩, fun hh => hh.2.2.2.2⟩]
  exact h
theorem nm_len (f : Int) : 2 ≤ (nm f).length ∧ (nm f).length ≤ 5 := by unfold nm; repeat' split
                                                                       all_goals simp
theorem rtx_len {t : GTest} (h : TV t) : (rtx t).length ≤ 13 := by
  obtain ⟨a1, a2, a3, a4, a5⟩ := h
  have := top_le t.xField
  have d1 := dec_le (n := t.xLo.toNat) (by omega)
  have d2 := dec_le (n := t.xHi.toNat) (by omega)
  unfold rtx; split <;> simp <;> omega
theorem btx_len {t : GTest} (h : TV t) : (btx t).length ≤ 19 := by
  have h1 := rtx_len h
  have h2 := nm_len t.xField
  unfold btx; simp; omega
theorem ttx_len {t : GTest} (h : TV t) : (ttx t).length ≤ 23 := by
  have h1 := btx_len h
  unfold ttx; split <;> simp <;> omega
theorem ttext_len (t : GTest) : (ttext t).length ≤ 23 := by
  unfold ttext; split
  · rename_i h; exact ttx_len h
  · simp
theorem ttx_not {t : GTest} : ttx t = (if t.xNot then [110, 111, 116, 32] else []) ++ btx t := by unfold ttx; split <;> rfl
theorem S_impl_Test_text {t : GTest} {κ : ByteArray → Prop} (hv : TV t) (h : κ (B (ttx t))) : L_impl_Test_text t κ := by
  obtain ⟨a1, a2, a3, a4, a5⟩ := id hv
  have ht := top_le t.xField
  have hn := nm_len t.xField
  have d1 := dec_le (n := t.xLo.toNat) (by omega)
  have d2 := dec_le (n := t.xHi.toNat) (by omega)
  unfold L_impl_Test_text jnW
  refine S_shape a1 a2 (fun e he _ => ?_)
  rw [he]
  refine catW_B (m := [32]) (by simp; omega) (S_itoa a3 (by omega) (catW_B (by simp; omega) ?_))
  have key : ∀ p : List UInt8, p.length ≤ 4 → ttx t = p ++ btx t → ifW (!(decide (t.xHi = t.xLo))) (L_lib_Itoa t.xHi (fun r71 => catW (ByteArray.mk #[45]) r71 (fun s72 => catW (B (p ++ (nm t.xField ++ [32] ++ decDigits t.xLo.toNat))) s72 (fun s73 => κ s73)))) (κ (B (p ++ (nm t.xField ++ [32] ++ decDigits t.xLo.toNat)))) := by
    intro p hp e
    refine ifW_of (fun hc => ?_) (fun hc => ?_)
    · simp at hc
      refine S_itoa (by omega) (by omega) (catW_B (l := [45]) (by simp; omega) (catW_B (by simp; omega) ?_))
      rw [e] at h
      simpa [btx, rtx, if_neg hc, List.append_assoc] using h
    · simp at hc
      rw [e] at h
      simpa [btx, rtx, if_pos hc, List.append_assoc] using h
  refine ifW_of (fun hc => ?_) (fun hc => ?_)
  · exact catW_B (l := [110, 111, 116, 32]) (by simp; omega) (key [110, 111, 116, 32] (by simp) (by rw [ttx_not, if_pos hc]))
  · exact key [] (by simp) (by rw [ttx_not, if_neg (by simp [hc])])
theorem S_impl_TestText {t : GTest} {κ : ByteArray → Prop} (h : κ (B (ttext t))) : L_impl_TestText t κ := by
  unfold L_impl_TestText
  refine S_impl_TestValid (ifW_of (fun hc => ?_) (fun hc => ?_))
  · simp at hc; rw [ttext, if_neg hc] at h; exact h
  · simp at hc; rw [ttext, if_pos hc] at h; exact S_impl_Test_text hc h
theorem S_spec_TestText {t : GTest} {κ : ByteArray → Prop} (h : κ (B (ttext t))) : L_spec_TestText t κ := by
  unfold L_spec_TestText jnW
  refine S_spec_TestValid (ifW_of (fun hc => ?_) (fun hc => ?_))
  · simp at hc; rw [ttext, if_neg hc] at h; exact h
  · simp at hc; rw [ttext, if_pos hc] at h
    obtain ⟨a1, a2, a3, a4, a5⟩ := id hc
    have ht := top_le t.xField
    have hn := nm_len t.xField
    have d1 := dec_le (n := t.xLo.toNat) (by omega)
    have d2 := dec_le (n := t.xHi.toNat) (by omega)
    have key : ∀ p : List UInt8, p.length ≤ 4 → ttx t = p ++ btx t → ifW (!(decide (t.xHi = t.xLo))) (catW (B (p ++ (nm t.xField ++ [32] ++ decDigits t.xLo.toNat))) (ByteArray.mk #[45]) (fun s83 => L_spec_l3Number t.xHi (fun r84 => catW s83 r84 (fun s85 => κ s85)))) (κ (B (p ++ (nm t.xField ++ [32] ++ decDigits t.xLo.toNat)))) := by
      intro p hp e
      refine ifW_of (fun hc => ?_) (fun hc => ?_)
      · simp at hc
        refine catW_B (m := [45]) (by simp; omega) (S_l3Number (by omega) (by omega) (catW_B (by simp; omega) ?_))
        rw [e] at h
        simpa [btx, rtx, if_neg hc, List.append_assoc] using h
      · simp at hc
        rw [e] at h
        simpa [btx, rtx, if_pos hc, List.append_assoc] using h
    have fin : ifW t.xNot (catW (ByteArray.mk #[110, 111, 116, 32]) (B (nm t.xField ++ [32] ++ decDigits t.xLo.toNat)) (fun s20 => ifW (!(decide (t.xHi = t.xLo))) (catW s20 (ByteArray.mk #[45]) (fun s83 => L_spec_l3Number t.xHi (fun r84 => catW s83 r84 (fun s85 => κ s85)))) (κ s20))) (ifW (!(decide (t.xHi = t.xLo))) (catW (B (nm t.xField ++ [32] ++ decDigits t.xLo.toNat)) (ByteArray.mk #[45]) (fun s83 => L_spec_l3Number t.xHi (fun r84 => catW s83 r84 (fun s85 => κ s85)))) (κ (B (nm t.xField ++ [32] ++ decDigits t.xLo.toNat)))) := by
      refine ifW_of (fun hc => ?_) (fun hc => ?_)
      · exact catW_B (l := [110, 111, 116, 32]) (by simp; omega) (key [110, 111, 116, 32] (by simp) (by rw [ttx_not, if_pos hc]))
      · exact key [] (by simp) (by rw [ttx_not, if_neg (by simp [hc])])
    have z : L_spec_l3Number t.xLo (fun r15 => idxW [(ByteArray.mk #[102, 114, 111, 109]), (ByteArray.mk #[116, 111]), (ByteArray.mk #[112, 111, 114, 116]), (ByteArray.mk #[112, 114, 111, 116, 111])] t.xField (fun e16 => catW e16 (ByteArray.mk #[32]) (fun s13 => catW s13 r15 (fun t4 => ifW t.xNot (catW (ByteArray.mk #[110, 111, 116, 32]) t4 (fun s20 => ifW (!(decide (t.xHi = t.xLo))) (catW s20 (ByteArray.mk #[45]) (fun s83 => L_spec_l3Number t.xHi (fun r84 => catW s83 r84 (fun s85 => κ s85)))) (κ s20))) (ifW (!(decide (t.xHi = t.xLo))) (catW t4 (ByteArray.mk #[45]) (fun s83 => L_spec_l3Number t.xHi (fun r84 => catW s83 r84 (fun s85 => κ s85)))) (κ t4)))))) :=
      S_l3Number a3 (by omega) (S_name a1 a2 (catW_B (m := [32]) (by simp; omega) (catW_B (by simp; omega) fin)))
    exact ⟨⟨S_name a1 a2 ⟨catW_B (m := [32]) (by simp; omega) (S_l3Number a3 (by omega) (catW_B (by simp; omega) fin)), S_l3Number a3 (by omega) (catW_B (m := [32]) (by simp; omega) (catW_B (by simp; omega) fin))⟩, z⟩, z⟩
theorem pureFnExactTestText (t : GTest) : L_laws_FnExactTestText t (fun r => r = true) := by
  unfold L_laws_FnExactTestText L_laws_toTest
  refine S_spec_TestText (S_impl_TestText ?_)
  simp
end Go.Proofs.YtnogaeckmiekdaaDoor
