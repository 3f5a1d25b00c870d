/- Texts of rules: both writers. -/
import Derived.Test.YtnogaeckmiekdaaDoorTx9
set_option linter.unusedSimpArgs false
set_option linter.unusedVariables false
namespace Go.Proofs.YtnogaeckmiekdaaDoor
open Go.Lib (decDigits)

/-- the word of an action -/
def aw (a : Int) : List UInt8 := if a = 1 then [97, 99, 99, 101, 112, 116] else if a = 2 then [100, 114, 111, 112] else if a = 3 then [99, 97, 108, 108] else if a = 4 then [114, 101, 116, 117, 114, 110] else [110, 111, 110, 101]
def TsV (ts : List GTest) : Prop := (∀ t, t ∈ ts → TV t) ∧ ts.length ≤ 6
instance (ts : List GTest) : Decidable (TsV ts) := by unfold TsV; infer_instance
def HV (a c : Int) : Prop := 1 ≤ a ∧ a ≤ 5 ∧ (a = 3 → 0 ≤ c ∧ c ≤ 4) ∧ (a ≠ 3 → c = 0)
instance (a c : Int) : Decidable (HV a c) := by unfold HV; infer_instance
def RV (r : GRule) : Prop := TsV r.xTests ∧ HV r.xAction r.xChain
instance (r : GRule) : Decidable (RV r) := by unfold RV; infer_instance
def hd (a c : Int) : List UInt8 := aw a ++ (if a = 3 then 32 :: decDigits c.toNat else [])
def tl (ts : List GTest) : List UInt8 := ts.flatMap (fun t => 44 :: 32 :: ttx t)
def rtx0 (r : GRule) : List UInt8 := hd r.xAction r.xChain ++ tl r.xTests
def rtext (r : GRule) : List UInt8 := if RV r then rtx0 r else []
theorem five {a : Int} (h0 : 1 ≤ a) (h1 : a ≤ 5) : a = 1 ∨ a = 2 ∨ a = 3 ∨ a = 4 ∨ a = 5 := by omega
theorem tl_nil : tl [] = [] := rfl
theorem tl_cons (t : GTest) (ts : List GTest) : tl (t :: ts) = 44 :: 32 :: (ttx t ++ tl ts) := by simp [tl]
theorem tl_app (a b : List GTest) : tl (a ++ b) = tl a ++ tl b := by simp [tl]
theorem tl_len : ∀ (ts : List GTest), (∀ t, t ∈ ts → TV t) → (tl ts).length ≤ 25 * ts.length
  | [], _ => by simp [tl]
  | t :: ts, h => by
    have h1 := tl_len ts (fun x hx => h x (by simp [hx]))
    have h2 := ttx_len (h t (by simp))
    rw [tl_cons]; simp; omega
theorem aw_len (a : Int) : 4 ≤ (aw a).length ∧ (aw a).length ≤ 6 := by unfold aw; repeat' split
                                                                       all_goals simp
theorem hd_len {a c : Int} (h : HV a c) : (hd a c).length ≤ 13 := by
  have := aw_len a
  unfold hd; split
  · rename_i e
    have hc := h.2.2.1 e
    have := dec_le (n := c.toNat) (by omega)
    simp; omega
  · simp; omega
theorem rtx0_len {r : GRule} (h : RV r) : (rtx0 r).length ≤ 163 := by
  have h1 := hd_len h.2
  have h2 := tl_len _ h.1.1
  have := h.1.2
  simp [rtx0]; omega
theorem rtext_len (r : GRule) : (rtext r).length ≤ 163 := by
  unfold rtext; split
  · rename_i h; exact rtx0_len h
  · simp

theorem S_spec_TestsValid {ts : List GTest} {κ : Bool → Prop} (hl : ts.length ≤ 4294967296) (h : κ (decide (TsV ts))) : L_spec_TestsValid ts κ := by
  unfold L_spec_TestsValid
  refine count_loop ts.length (fun s => s) (fun k s => s = (k : Int) ∧ k ≤ ts.length ∧ ∀ t, t ∈ ts.take k → TV t) (fun k s h => h.1) (fun k s h => h.2.1) ?_ ⟨rfl, Nat.zero_le _, by simp⟩
  rintro k _ next ⟨rfl, hk, he⟩ hn
  refine ifW_of (fun hc => ?_) (fun hc => ?_)
  · have hlt : k < ts.length := by simpa using hc
    refine idxW_of k rfl hlt (S_spec_TestValid (ifW_of (fun hc2 => ?_) (fun hc2 => ?_)))
    · simp at hc2
      rw [decide_eq_false (fun hh : TsV ts => hc2 (hh.1 _ (List.getElem_mem hlt)))] at h; exact h
    · simp at hc2
      refine addW_of (by omega) (by omega) (hn hlt _ ⟨by omega, by omega, fun t ht => ?_⟩)
      rw [List.take_succ_eq_append_getElem hlt] at ht
      rcases List.mem_append.1 ht with ht | ht
      · exact he t ht
      · rw [List.mem_singleton] at ht; subst ht; exact hc2
  · have hge : ts.length ≤ k := by simpa using hc
    rw [List.take_of_length_le hge] at he
    rw [show decide ((ts.length : Int) ≤ 6) = decide (TsV ts) from decide_eq_decide.2 ⟨fun hh => ⟨he, by omega⟩, fun hh => by have := hh.2; omega⟩]
    exact h
theorem S_impl_TestsValid {ts : List GTest} {κ : Bool → Prop} (hl : ts.length ≤ 4294967296) (h : κ (decide (TsV ts))) : L_impl_TestsValid ts κ := by
  unfold L_impl_TestsValid
  refine ifW_of (fun hc => ?_) (fun hc => ?_)
  · rw [decide_eq_false (fun hh : TsV ts => by have := hh.2; simp at hc; omega)] at h; exact h
  simp at hc
  refine count_loop ts.length (fun s => s) (fun k s => s = (k : Int) ∧ k ≤ ts.length ∧ ∀ t, t ∈ ts.take k → TV t) (fun k s h => h.1) (fun k s h => h.2.1) ?_ ⟨rfl, Nat.zero_le _, by simp⟩
  rintro k _ next ⟨rfl, hk, he⟩ hn
  refine ifW_of (fun hc => ?_) (fun hc => ?_)
  · have hlt : k < ts.length := by simpa using hc
    refine idxW_of k rfl hlt (S_impl_TestValid (ifW_of (fun hc2 => ?_) (fun hc2 => ?_)))
    · simp at hc2
      rw [decide_eq_false (fun hh : TsV ts => hc2 (hh.1 _ (List.getElem_mem hlt)))] at h; exact h
    · simp at hc2
      refine addW_of (by omega) (by omega) (hn hlt _ ⟨by omega, by omega, fun t ht => ?_⟩)
      rw [List.take_succ_eq_append_getElem hlt] at ht
      rcases List.mem_append.1 ht with ht | ht
      · exact he t ht
      · rw [List.mem_singleton] at ht; subst ht; exact hc2
  · have hge : ts.length ≤ k := by simpa using hc
    rw [List.take_of_length_le hge] at he
    rw [show decide (TsV ts) = true from decide_eq_true ⟨he, by omega⟩] at h; exact h

theorem S_spec_RuleValid {r : GRule} {κ : Bool → Prop} (hl : r.xTests.length ≤ 4294967296) (h : κ (decide (RV r))) : L_spec_RuleValid r κ := by
  have no : ¬ RV r → κ false := fun hn => by rw [decide_eq_false hn] at h; exact h
  unfold L_spec_RuleValid jnW
  refine S_spec_TestsValid hl (ifW_of (fun h1 => ?_) (fun h1 => no (fun hh => by simp [hh.1] at h1)))
  simp at h1
  refine S_l1In (ifW_of (fun h2 => ?_) (fun h2 => no (fun hh => by simp [hh.2.1, hh.2.2.1] at h2)))
  simp at h2
  refine ifW_of (fun h3 => ?_) (fun h3 => ?_)
  · simp at h3
    refine S_l1In (ifW_of (fun h4 => ?_) (fun h4 => ?_))
    · simp at h4
      rw [show decide (RV r) = true from decide_eq_true ⟨h1, h2.1, h2.2, fun _ => h4, fun e => absurd h3 e⟩] at h; exact h
    · simp at h4
      simp only [h3, decide_true, Bool.not_true, ifW_false]
      exact no (fun hh => by have := hh.2.2.2.1 h3; omega)
  · simp at h3
    simp only [h3, decide_false, Bool.not_false, ifW_true]
    rw [show decide (r.xChain = 0) = decide (RV r) from decide_eq_decide.2 ⟨fun hh => ⟨h1, h2.1, h2.2, fun e => absurd e h3, fun _ => hh⟩, fun hh => hh.2.2.2.2 h3⟩]
    exact h
theorem S_impl_RuleValid {r : GRule} {κ : Bool → Prop} (hl : r.xTests.length ≤ 4294967296) (h : κ (decide (RV r))) : L_impl_RuleValid r κ := by
  have no : ¬ RV r → κ false := fun hn => by rw [decide_eq_false hn] at h; exact h
  unfold L_impl_RuleValid jnW
  refine S_impl_TestsValid hl (ifW_of (fun h1 => no (fun hh => by simp [hh.1] at h1)) (fun h1 => ?_))
  simp at h1
  refine ifW_of (fun h3 => ?_) (fun h3 => ?_)
  · simp at h3
    refine ifW_of (fun h4 => ?_) (fun h4 => no (fun hh => by have := hh.2.2.2.1 h3; simp at h4; omega))
    simp at h4
    rw [show decide (r.xChain < 5) = decide (RV r) from decide_eq_decide.2 ⟨fun hh => ⟨h1, by omega, by omega, fun _ => ⟨h4, by omega⟩, fun e => absurd h3 e⟩, fun hh => by have := hh.2.2.2.1 h3; omega⟩]
    exact h
  · simp at h3
    have yes : 1 ≤ r.xAction → r.xAction ≤ 5 → κ (decide (r.xChain = 0)) := fun a1 a2 => by
      rw [show decide (r.xChain = 0) = decide (RV r) from decide_eq_decide.2 ⟨fun hh => ⟨h1, a1, a2, fun e => absurd e h3, fun _ => hh⟩, fun hh => hh.2.2.2.2 h3⟩]
      exact h
    by_cases e1 : r.xAction = 1
    · simp only [e1, decide_true, ifW_true]; exact yes (by omega) (by omega)
    by_cases e2 : r.xAction = 2
    · simp only [e2, decide_true, ifW_true]; exact ifW_of (fun e => by simp at e) (fun _ => yes (by omega) (by omega))
    by_cases e4 : r.xAction = 4
    · simp only [e4, decide_true, ifW_true]
      exact ifW_of (fun e => by simp at e) (fun _ => ifW_of (fun e => by simp at e) (fun _ => yes (by omega) (by omega)))
    by_cases e5 : r.xAction = 5
    · simp only [e5, decide_true, ifW_true]
      exact ifW_of (fun e => by simp at e) (fun _ => ifW_of (fun e => by simp at e) (fun _ => ifW_of (fun e => by simp at e) (fun _ => yes (by omega) (by omega))))
    simp only [e1, e2, e4, e5, decide_false, ifW_false]
    exact no (fun hh => by have := hh.2.1; have := hh.2.2.1; omega)

/-- the tests behind the action -/
theorem S_itests {ts : List GTest} {acc : List UInt8} {κ : ByteArray → Prop} (hv : ∀ t, t ∈ ts → TV t) (hl : ts.length ≤ 6) (ha : acc.length ≤ 100) (h : κ (B (acc ++ tl ts))) :
    loopW (fun (nx81 : (ByteArray × Int) → Prop) ((t79, t80) : (ByteArray × Int)) => ifW (decide (t80 < (ts.length : Int))) (idxW ts t80 (fun e82 => L_impl_Test_text e82 (fun r86 => catW (ByteArray.mk #[44, 32]) r86 (fun s87 => catW t79 s87 (fun s88 => addW t80 1 (fun t89 => nx81 (s88, t89))))))) (κ t79)) (B acc, 0) := by
  refine count_loop ts.length (fun s => s.2) (fun k s => s = (B (acc ++ tl (ts.take k)), (k : Int)) ∧ k ≤ ts.length) (fun k s h => by rw [h.1]) (fun k s h => h.2) ?_ ⟨by simp [tl], Nat.zero_le _⟩
  rintro k _ next ⟨rfl, hk⟩ hn
  have htl := tl_len (ts.take k) (fun t ht => hv t (List.mem_of_mem_take ht))
  simp only [List.length_take] at htl
  refine ifW_of (fun hc => ?_) (fun hc => ?_)
  · have hlt : k < ts.length := by simpa using hc
    have htv := hv _ (List.getElem_mem hlt)
    have htt := ttx_len htv
    refine idxW_of k rfl hlt (S_impl_Test_text htv (catW_B (l := [44, 32]) (by simp; omega) (catW_B (by simp; omega) (addW_of (by omega) (by omega) (hn hlt _ ⟨?_, by omega⟩)))))
    rw [List.take_succ_eq_append_getElem hlt, tl_app]
    simp [tl]
  · have hge : ts.length ≤ k := by simpa using hc
    rw [List.take_of_length_le hge]; exact h
theorem S_stests {ts : List GTest} {acc : List UInt8} {κ : ByteArray → Prop} (hv : ∀ t, t ∈ ts → TV t) (hl : ts.length ≤ 6) (ha : acc.length ≤ 100) (h : κ (B (acc ++ tl ts))) :
    loopW (fun (nx81 : (ByteArray × Int) → Prop) ((t79, t80) : (ByteArray × Int)) => ifW (decide (t80 < (ts.length : Int))) (catW t79 (ByteArray.mk #[44, 32]) (fun s82 => idxW ts t80 (fun e83 => L_spec_TestText e83 (fun r85 => catW s82 r85 (fun s86 => addW t80 1 (fun t87 => nx81 (s86, t87))))))) (κ t79)) (B acc, 0) := by
  refine count_loop ts.length (fun s => s.2) (fun k s => s = (B (acc ++ tl (ts.take k)), (k : Int)) ∧ k ≤ ts.length) (fun k s h => by rw [h.1]) (fun k s h => h.2) ?_ ⟨by simp [tl], Nat.zero_le _⟩
  rintro k _ next ⟨rfl, hk⟩ hn
  have htl := tl_len (ts.take k) (fun t ht => hv t (List.mem_of_mem_take ht))
  simp only [List.length_take] at htl
  refine ifW_of (fun hc => ?_) (fun hc => ?_)
  · have hlt : k < ts.length := by simpa using hc
    have htv := hv _ (List.getElem_mem hlt)
    have htt := ttx_len htv
    refine catW_B (m := [44, 32]) (by simp; omega) (idxW_of k rfl hlt (S_spec_TestText ?_))
    rw [ttext, if_pos htv]
    refine catW_B (by simp; omega) (addW_of (by omega) (by omega) (hn hlt _ ⟨?_, by omega⟩))
    rw [List.take_succ_eq_append_getElem hlt, tl_app]
    simp [tl]
  · have hge : ts.length ≤ k := by simpa using hc
    rw [List.take_of_length_le hge]; exact h
theorem S_impl_Rule_text {r : GRule} {κ : ByteArray → Prop} (hv : RV r) (h : κ (B (rtx0 r))) : L_impl_Rule_text r κ := by
  obtain ⟨⟨v1, v2⟩, v3, v4, v5, v6⟩ := id hv
  unfold L_impl_Rule_text L_impl_actionOf
  have key : ∀ w : List UInt8, w.length ≤ 30 → hd r.xAction r.xChain = w → loopW (fun (nx81 : (ByteArray × Int) → Prop) ((t79, t80) : (ByteArray × Int)) => ifW (decide (t80 < (r.xTests.length : Int))) (idxW r.xTests t80 (fun e82 => L_impl_Test_text e82 (fun r86 => catW (ByteArray.mk #[44, 32]) r86 (fun s87 => catW t79 s87 (fun s88 => addW t80 1 (fun t89 => nx81 (s88, t89))))))) (κ t79)) (B w, 0) :=
    fun w hw e => S_itests v1 v2 (by omega) (by rw [← e]; exact h)
  rcases five v3 v4 with e | e | e | e | e
  · simp only [e, decide_true, ifW_true, IAction.casesW, L_impl_deciding_word, jnW]
    refine ifW_of (fun x => by simp at x) (fun _ => key [97, 99, 99, 101, 112, 116] (by simp) (by simp [hd, aw, e]))
  · simp only [e, decide_true, ifW_true, IAction.casesW, L_impl_deciding_word, jnW]
    refine ifW_of (fun x => by simp at x) (fun _ => ?_)
    simp only [ifW_false]
    refine ifW_of (fun x => by simp at x) (fun _ => key [100, 114, 111, 112] (by simp) (by simp [hd, aw, e]))
  · have hc := v5 e
    have hd1 := dec_le (n := r.xChain.toNat) (by omega)
    simp only [e, decide_true, ifW_true, IAction.casesW, L_impl_calling_word, jnW]
    refine ifW_of (fun x => by simp at x) (fun _ => ifW_of (fun x => by simp at x) (fun _ => ?_))
    refine S_itoa (by omega) (by omega) (catW_B (l := [32]) (by simp; omega) (catW_B (l := [99, 97, 108, 108]) (by simp; omega) (key ([99, 97, 108, 108] ++ ([32] ++ decDigits r.xChain.toNat)) (by simp; omega) (by simp [hd, aw, e]))))
  · simp only [e, decide_true, ifW_true, IAction.casesW, L_impl_returning_word, jnW]
    refine ifW_of (fun x => by simp at x) (fun _ => ifW_of (fun x => by simp at x) (fun _ => ifW_of (fun x => by simp at x) (fun _ => ?_)))
    refine ifW_of (fun x => by simp at x) (fun _ => key [114, 101, 116, 117, 114, 110] (by simp) (by simp [hd, aw, e]))
  · simp only [e, decide_true, ifW_true, IAction.casesW, L_impl_passing_word, jnW]
    refine ifW_of (fun x => by simp at x) (fun _ => ifW_of (fun x => by simp at x) (fun _ => ifW_of (fun x => by simp at x) (fun _ => ifW_of (fun x => by simp at x) (fun _ => ?_))))
    refine ifW_of (fun x => by simp at x) (fun _ => key [110, 111, 110, 101] (by simp) (by simp [hd, aw, e]))
theorem S_impl_RuleText {r : GRule} {κ : ByteArray → Prop} (hl : r.xTests.length ≤ 4294967296) (h : κ (B (rtext r))) : L_impl_RuleText r κ := by
  unfold L_impl_RuleText
  refine S_impl_RuleValid hl (ifW_of (fun hc => ?_) (fun hc => ?_))
  · simp at hc; rw [rtext, if_neg hc] at h; exact h
  · simp at hc; rw [rtext, if_pos hc] at h; exact S_impl_Rule_text hc h
theorem S_aw {a : Int} {κ : ByteArray → Prop} (h0 : 1 ≤ a) (h1 : a ≤ 5) (h : κ (B (aw a))) : idxW ([(ByteArray.mk #[97, 99, 99, 101, 112, 116]), (ByteArray.mk #[100, 114, 111, 112]), (ByteArray.mk #[99, 97, 108, 108]), (ByteArray.mk #[114, 101, 116, 117, 114, 110]), (ByteArray.mk #[110, 111, 110, 101])]) (a - 1) κ := by
  rcases five h0 h1 with rfl | rfl | rfl | rfl | rfl
  · exact idxW_of 0 rfl (by decide) h
  · exact idxW_of 1 rfl (by decide) h
  · exact idxW_of 2 rfl (by decide) h
  · exact idxW_of 3 rfl (by decide) h
  · exact idxW_of 4 rfl (by decide) h
theorem S_spec_RuleText {r : GRule} {κ : ByteArray → Prop} (hl : r.xTests.length ≤ 4294967296) (h : κ (B (rtext r))) : L_spec_RuleText r κ := by
  unfold L_spec_RuleText
  refine S_spec_RuleValid hl (ifW_of (fun hc => ?_) (fun hc => ?_))
  · simp at hc; rw [rtext, if_neg hc] at h; exact h
  · simp at hc; rw [rtext, if_pos hc] at h
    obtain ⟨⟨v1, v2⟩, v3, v4, v5, v6⟩ := id hc
    have hal := aw_len r.xAction
    refine subW_of (by omega) (by omega) (S_aw v3 v4 ?_)
    unfold jnW
    refine ifW_of (fun hc2 => ?_) (fun hc2 => ?_)
    · simp at hc2
      have hcc := v5 hc2
      have hd1 := dec_le (n := r.xChain.toNat) (by omega)
      refine catW_B (m := [32]) (by simp; omega) (S_l3Number (by omega) (by omega) (catW_B (by simp; omega) (S_stests v1 v2 (by simp; omega) ?_)))
      simpa [rtx0, hd, hc2] using h
    · simp at hc2
      refine S_stests v1 v2 (by omega) ?_
      simpa [rtx0, hd, hc2] using h
end Go.Proofs.YtnogaeckmiekdaaDoor
