/- The reference's reader of tests; the laws of tests. -/
import Derived.Test.YtnogaeckmiekdaaDoorTx7
set_option linter.unusedSimpArgs false
set_option linter.unusedVariables false
namespace Go.Proofs.YtnogaeckmiekdaaDoor
open Go.Lib (decDigits)

theorem mkB' (l : List UInt8) : ByteArray.mk l.toArray = B l := rfl
theorem S_find {x : List UInt8} {κ : Int → Prop} (h : ∀ v : Int, -1 ≤ v → v ≤ 3 → (∀ f : Int, 0 ≤ f → f ≤ 3 → x = nm f → v = f) → κ v) :
    loopW (fun (nx202 : (Int × Int) → Prop) ((t200, t201) : (Int × Int)) => ifW (decide (t201 < (([(ByteArray.mk #[102, 114, 111, 109]), (ByteArray.mk #[116, 111]), (ByteArray.mk #[112, 111, 114, 116]), (ByteArray.mk #[112, 114, 111, 116, 111])]).length : Int))) (jnW (fun (t265 : Int) => addW t201 1 (fun t267 => nx202 (t265, t267))) (fun k266 => idxW ([(ByteArray.mk #[102, 114, 111, 109]), (ByteArray.mk #[116, 111]), (ByteArray.mk #[112, 111, 114, 116]), (ByteArray.mk #[112, 114, 111, 116, 111])]) t201 (fun e203 => ifW (decide (B x = e203)) (k266 t201) (k266 t200)))) (κ t200)) ((-1), 0) := by
  refine count_loop 4 (fun s => s.2) (fun k s => s.2 = (k : Int) ∧ k ≤ 4 ∧ -1 ≤ s.1 ∧ s.1 ≤ 3 ∧ ∀ f : Nat, f < k → x = nm (f : Int) → s.1 = (f : Int)) (fun k s h => h.1) (fun k s h => h.2.1) ?_ ⟨rfl, Nat.zero_le _, by simp, by simp, fun i hi => by omega⟩
  rintro k ⟨v, _⟩ next ⟨rfl, hk, v1, v2, he⟩ hnx
  simp only at v1 v2 he
  refine ifW_of (fun hc => ?_) (fun hc => ?_)
  · have hlt : k < 4 := by simp at hc; omega
    unfold jnW
    refine S_name (by omega) (by omega) ?_
    rw [B_dec]
    refine ifW_of (fun hc2 => ?_) (fun hc2 => ?_)
    · refine addW_of (by omega) (by omega) (hnx hlt _ ⟨by simp, by omega, by simp only; omega, by simp only; omega, fun f hf e => ?_⟩)
      simp at hc2
      exact (nm_inj ⟨by omega, by omega⟩ ⟨by omega, by omega⟩ (hc2.symm.trans e))
    · refine addW_of (by omega) (by omega) (hnx hlt _ ⟨by simp, by omega, v1, v2, fun f hf e => ?_⟩)
      simp at hc2
      by_cases hfk : f = k
      · subst hfk; exact absurd e hc2
      · exact he f (by omega) e
  · have hge : k = 4 := by simp at hc; omega
    subst hge
    refine h v v1 v2 (fun f f0 f1 e => ?_)
    obtain ⟨i, rfl⟩ := Int.eq_ofNat_of_zero_le f0
    exact he i (by omega) e

theorem rest_of {l : List UInt8} {y : List UInt8} {b : Bool} {κ : GTest × Bool → Prop} (hy : y.length ≤ 100000000000) 
    (hK : ∀ f lo hi : Int, -1 ≤ f → f ≤ 3 → -1 ≤ lo → lo ≤ 999999 → -1 ≤ hi → hi ≤ 999999 →
      (∀ t : GTest, TV t → y = btx t → t.xNot = b → GTest.mk f lo hi b = t) →
      L_spec_TestText (GTest.mk f lo hi b) (fun r270 => ifW (!(decide (r270 = B l))) (κ ((GTest.mk 0 0 0 false), false)) (ifW (decide (B l = (ByteArray.mk #[]))) (κ ((GTest.mk 0 0 0 false), false)) (κ ((GTest.mk f lo hi b), true))))) :
    L_spec_l3Cut (B y) (32 : UInt8) (fun (r132, r133) => L_spec_l3Cut r133 (45 : UInt8) (fun (r134, r135) => jnW (fun (t196 : ByteArray) => loopW (fun (nx202 : (Int × Int) → Prop) ((t200, t201) : (Int × Int)) => ifW (decide (t201 < (([(ByteArray.mk #[102, 114, 111, 109]), (ByteArray.mk #[116, 111]), (ByteArray.mk #[112, 111, 114, 116]), (ByteArray.mk #[112, 114, 111, 116, 111])]).length : Int))) (jnW (fun (t265 : Int) => addW t201 1 (fun t267 => nx202 (t265, t267))) (fun k266 => idxW ([(ByteArray.mk #[102, 114, 111, 109]), (ByteArray.mk #[116, 111]), (ByteArray.mk #[112, 111, 114, 116]), (ByteArray.mk #[112, 114, 111, 116, 111])]) t201 (fun e203 => ifW (decide (r132 = e203)) (k266 t201) (k266 t200)))) (L_spec_l3Value r134 (fun r268 => L_spec_l3Value t196 (fun r269 => jnW (fun (t331 : Bool) => ifW t331 (κ ((GTest.mk 0 0 0 false), false)) (κ ((GTest.mk t200 r268 r269 b), true))) (fun k332 => L_spec_TestText (GTest.mk t200 r268 r269 b) (fun r270 => ifW (!(decide (r270 = B l))) (k332 true) (k332 (decide (B l = (ByteArray.mk #[])))))))))) ((-1), 0)) (fun k197 => ifW (decide (r135 = (ByteArray.mk #[]))) (k197 r134) (k197 r135)))) := by
  refine S_cut (by omega) ?_
  have l1 := cut_len (c := 32) y
  refine S_cut (by omega) ?_
  have l2 := cut_len (c := 45) (cut 32 y).2
  have key : ∀ hi : List UInt8, hi.length ≤ 100000000000 → (∀ t : GTest, TV t → y = btx t → hi = decDigits t.xHi.toNat) →
      loopW (fun (nx202 : (Int × Int) → Prop) ((t200, t201) : (Int × Int)) => ifW (decide (t201 < (([(ByteArray.mk #[102, 114, 111, 109]), (ByteArray.mk #[116, 111]), (ByteArray.mk #[112, 111, 114, 116]), (ByteArray.mk #[112, 114, 111, 116, 111])]).length : Int))) (jnW (fun (t265 : Int) => addW t201 1 (fun t267 => nx202 (t265, t267))) (fun k266 => idxW ([(ByteArray.mk #[102, 114, 111, 109]), (ByteArray.mk #[116, 111]), (ByteArray.mk #[112, 111, 114, 116]), (ByteArray.mk #[112, 114, 111, 116, 111])]) t201 (fun e203 => ifW (decide (B (cut 32 y).1 = e203)) (k266 t201) (k266 t200)))) (L_spec_l3Value (B (cut 45 (cut 32 y).2).1) (fun r268 => L_spec_l3Value (B hi) (fun r269 => jnW (fun (t331 : Bool) => ifW t331 (κ ((GTest.mk 0 0 0 false), false)) (κ ((GTest.mk t200 r268 r269 b), true))) (fun k332 => L_spec_TestText (GTest.mk t200 r268 r269 b) (fun r270 => ifW (!(decide (r270 = B l))) (k332 true) (k332 (decide (B l = (ByteArray.mk #[])))))))))) ((-1), 0) := by
    intro hi hhi hhc
    refine S_find (κ := fun t200 => L_spec_l3Value (B (cut 45 (cut 32 y).2).1) (fun r268 => L_spec_l3Value (B hi) (fun r269 => jnW (fun (t331 : Bool) => ifW t331 (κ ((GTest.mk 0 0 0 false), false)) (κ ((GTest.mk t200 r268 r269 b), true))) (fun k332 => L_spec_TestText (GTest.mk t200 r268 r269 b) (fun r270 => ifW (!(decide (r270 = B l))) (k332 true) (k332 (decide (B l = (ByteArray.mk #[]))))))))) (fun f f1 f2 f3 => ?_)
    refine S_value (by omega) (fun v v1 v2 v3 => S_value (by omega) (fun u u1 u2 u3 => ?_))
    unfold jnW
    simp only [ifW_true]
    refine hK f v u f1 f2 v1 v2 u1 u2 (fun t ht e en => ?_)
    obtain ⟨a1, a2, a3, a4, a5⟩ := id ht
    have htop := top_le t.xField
    have n32 : (32 : UInt8) ∉ nm t.xField := by rcases four a1 a2 with e0 | e0 | e0 | e0 <;> rw [e0] <;> decide
    have c1 : cut 32 y = (nm t.xField, rtx t) := by rw [e]; exact cut_app n32
    have ef : f = t.xField := f3 _ a1 a2 (by rw [c1])
    have c2 : (cut 45 (cut 32 y).2).1 = decDigits t.xLo.toNat := by
      rw [c1]
      simp only [rtx]
      by_cases hh : t.xHi = t.xLo
      · rw [if_pos hh, List.append_nil, cut_no (dec_no (by decide))]
      · rw [if_neg hh, cut_app (dec_no (by decide))]
    have ev := v3 _ c2 (by omega)
    have eu := u3 _ (hhc t ht e) (by omega)
    have evv : v = t.xLo := by omega
    have euu : u = t.xHi := by omega
    rw [ef, evv, euu, ← en]
  refine ifW_of (fun hc => ?_) (fun hc => ?_)
  · refine key _ (by omega) (fun t ht e => ?_)
    have n32 : (32 : UInt8) ∉ nm t.xField := by rcases four ht.1 ht.2.1 with e0 | e0 | e0 | e0 <;> rw [e0] <;> decide
    have c1 : cut 32 y = (nm t.xField, rtx t) := by rw [e]; exact cut_app n32
    rw [B_nil, B_dec] at hc
    replace hc := of_decide_eq_true hc
    rw [c1] at hc ⊢
    simp only [rtx] at hc ⊢
    by_cases hh : t.xHi = t.xLo
    · rw [if_pos hh, List.append_nil, cut_no (dec_no (by decide)), hh]
    · rw [if_neg hh, cut_app (dec_no (by decide))] at hc
      simp [dec_pos] at hc
  · refine key _ (by omega) (fun t ht e => ?_)
    have n32 : (32 : UInt8) ∉ nm t.xField := by rcases four ht.1 ht.2.1 with e0 | e0 | e0 | e0 <;> rw [e0] <;> decide
    have c1 : cut 32 y = (nm t.xField, rtx t) := by rw [e]; exact cut_app n32
    rw [B_nil, B_dec] at hc
    replace hc := of_decide_eq_false hc
    rw [c1] at hc ⊢
    simp only [rtx] at hc ⊢
    by_cases hh : t.xHi = t.xLo
    · rw [if_pos hh, List.append_nil, cut_no (dec_no (by decide))] at hc
      simp at hc
    · rw [if_neg hh, cut_app (dec_no (by decide))]

/-- the reference's reader, whole: K is what the test that it found is -/
theorem S_spec_ReadTest0 {l : List UInt8} {κ : GTest × Bool → Prop} (hl : l.length ≤ 10000000000)
    (hK : ∀ t : GTest, (∀ t' : GTest, TV t' → ttx t' = l → t = t') → L_spec_TestText t (fun r270 => ifW (!(decide (r270 = B l))) (κ ((GTest.mk 0 0 0 false), false)) (ifW (decide (B l = (ByteArray.mk #[]))) (κ ((GTest.mk 0 0 0 false), false)) (κ (t, true))))) : L_spec_ReadTest (B l) κ := by
  have nots : ∀ t : GTest, TV t → t.xNot = false → ∀ y, btx t ≠ 110 :: 111 :: 116 :: 32 :: y := by
    intro t ht hn y e
    rcases four ht.1 ht.2.1 with e0 | e0 | e0 | e0 <;> simp [btx, nm, e0] at e
  have plain : (∀ y, l ≠ 110 :: 111 :: 116 :: 32 :: y) ∨ l.length ≤ 4 → ∀ t : GTest, TV t → ttx t = l → t.xNot = false ∧ l = btx t := by
    intro hp t ht e
    have hnl := nm_len t.xField
    by_cases hn : t.xNot = true
    · rw [ttx_not, if_pos hn] at e
      rcases hp with hp | hp
      · exact absurd e.symm (hp _)
      · have := congrArg List.length e
        simp [btx] at this; omega
    · have hf : t.xNot = false := by simpa using hn
      rw [ttx_not, if_neg hn] at e
      exact ⟨hf, e.symm⟩
  unfold L_spec_ReadTest
  have A : ((∀ y, l ≠ 110 :: 111 :: 116 :: 32 :: y) ∨ l.length ≤ 4) → _ := fun hp => rest_of (l := l) (y := l) (b := false) (κ := κ) (by omega) (fun f lo hi _ _ _ _ _ _ hh => hK _ (fun t ht e => hh t ht (plain hp t ht e).2 (plain hp t ht e).1))
  have A2 : ∀ y, l = 110 :: 111 :: 116 :: 32 :: y → _ := fun y hy => rest_of (l := l) (y := y) (b := true) (κ := κ) (by rw [hy] at hl; simp at hl; omega) (fun f lo hi _ _ _ _ _ _ hh => hK _ (fun t ht e => by
    by_cases hn : t.xNot = true
    · rw [ttx_not, if_pos hn, hy] at e
      exact hh t ht (by simpa using e.symm) hn
    · have hf : t.xNot = false := by simpa using hn
      rw [ttx_not, if_neg hn, hy] at e
      exact absurd (by simpa using e) (nots t ht hf y)))
  rw [B_size]
  refine ifW_of (fun hc => ?_) (fun hc => ?_)
  · simp at hc
    refine sliceS_B 0 4 rfl rfl (by omega) (by omega) ?_
    rw [show (ByteArray.mk #[110, 111, 116, 32]) = B [110, 111, 116, 32] from rfl, B_dec]
    refine ifW_of (fun hc2 => ?_) (fun hc2 => ?_)
    · simp at hc2
      have hy : l = 110 :: 111 :: 116 :: 32 :: l.drop 4 := by
        have := (List.take_append_drop 4 l).symm
        rw [hc2] at this; simpa using this
      refine sliceS_B 4 l.length rfl rfl (by omega) (by omega) ?_
      rw [List.take_length]
      exact A2 _ hy
    · simp at hc2
      exact A (.inl fun y e => hc2 (by rw [e]; rfl))
  · simp at hc
    exact ifW_f (A (.inr (by omega)))
theorem T_spec_ReadTest {l : List UInt8} {κ : GTest × Bool → Prop} (hl : l.length ≤ 10000000000) (hz : κ (GTest.mk 0 0 0 false, false)) (h : ∀ t, TV t → ttx t = l → κ (t, true)) : L_spec_ReadTest (B l) κ := by
  refine S_spec_ReadTest0 hl (fun t _ => S_spec_TestText (ifW_of (fun _ => hz) (fun hc => ifW_of (fun _ => hz) (fun hc2 => ?_))))
  rw [B_nil] at hc2
  simp [B_inj] at hc hc2
  by_cases hv : TV t
  · rw [ttext, if_pos hv] at hc; exact h _ hv hc
  · rw [ttext, if_neg hv] at hc; exact absurd hc.symm hc2
theorem ttx_ne (t : GTest) : ttx t ≠ [] := by
  unfold ttx btx; split <;> simp
theorem C_spec_ReadTest {t : GTest} {κ : GTest × Bool → Prop} (ht : TV t) (h : κ (t, true)) : L_spec_ReadTest (B (ttx t)) κ := by
  have hl := ttx_len ht
  refine S_spec_ReadTest0 (by omega) (fun t' ht' => ?_)
  rw [ht' t ht rfl]
  refine S_spec_TestText ?_
  rw [ttext, if_pos ht, B_nil]
  simp [B_inj, ttx_ne]
  exact h
/-! ### the laws -/
theorem eqTest_of {p q : GTest} {κ : Bool → Prop} (h : κ (decide (p = q))) : L_laws_eqTest p q κ := by
  unfold L_laws_eqTest
  by_cases e : p = q
  · subst e; simpa using h
  · rw [decide_eq_false e] at h
    refine ifW_of (fun _ => h) (fun h1 => ifW_of (fun _ => h) (fun h2 => ifW_of (fun _ => h) (fun h3 => ifW_of (fun _ => h) (fun h4 => ?_))))
    exfalso; apply e
    cases p; cases q; simp_all
theorem pureFnExactReadTest (s : ByteArray) : L_laws_FnExactReadTest s (fun r => r = true) := by
  rw [← B_eta s]
  generalize s.data.toList = l
  unfold L_laws_FnExactReadTest jnW
  rw [B_size]
  refine ifW_of (fun _ => rfl) (fun hc => ?_)
  simp at hc
  by_cases he : ∃ q, TV q ∧ ttx q = l
  · obtain ⟨q, hq, rfl⟩ := he
    refine C_spec_ReadTest hq (C_impl_ReadTest hq (eqTest_of ?_))
    simp
  · refine T_spec_ReadTest (by omega) (T_impl_ReadTest (by omega) (eqTest_of ?_) (fun q hq e => absurd ⟨q, hq, e⟩ he)) (fun q hq e => absurd ⟨q, hq, e⟩ he)
    simp
end Go.Proofs.YtnogaeckmiekdaaDoor
