/- The laws of rules. -/
import Derived.Test.YtnogaeckmiekdaaDoorTx12
set_option linter.unusedSimpArgs false
set_option linter.unusedVariables false
namespace Go.Proofs.YtnogaeckmiekdaaDoor
open Go.Lib (decDigits)

theorem eqTestS_self {a : List GTest} {κ : Bool → Prop} (hl : a.length ≤ 4294967296) (h : κ true) : L_laws_eqTestS a a κ := by
  unfold L_laws_eqTestS
  refine ifW_of (fun hc => by simp at hc) (fun _ => ?_)
  refine eq_loop a a rfl hl (fun x y A => L_laws_eqTest x y (fun r11 => ifW (!r11) (κ false) A)) (fun x y A h1 h2 => eqTest_of ?_) (by simpa using h) _ (fun nx t hh => hh)
  by_cases e : x = y
  · rw [decide_eq_true e]; simp only [Bool.not_true, ifW_false]; exact h1 e
  · rw [decide_eq_false e]; simp only [Bool.not_false, ifW_true]; exact h2 e
theorem eqRule_self {r : GRule} {κ : Bool → Prop} (hl : r.xTests.length ≤ 4294967296) (h : κ true) : L_laws_eqRule r r κ := by
  unfold L_laws_eqRule
  refine eqTestS_self hl ?_
  simpa using h
theorem sameRule_self {r : GRule} {κ : Bool → Prop} (hl : r.xTests.length ≤ 4294967296) (h : κ true) : L_laws_sameRule r r κ := by
  unfold L_laws_sameRule jnW
  refine ifW_of (fun hc => by simp at hc) (fun _ => ?_)
  refine count_loop r.xTests.length (fun s => s) (fun k s => s = (k : Int) ∧ k ≤ r.xTests.length) (fun k s h => h.1) (fun k s h => h.2) ?_ ⟨rfl, Nat.zero_le _⟩
  rintro k _ next ⟨rfl, hk⟩ hn
  refine ifW_of (fun hc => ?_) (fun hc => ?_)
  · have hlt : k < r.xTests.length := by simpa using hc
    refine idxW_of k rfl hlt (idxW_of k rfl hlt (ifW_of (fun hc => by simp at hc) (fun _ => addW_of (by omega) (by omega) (hn hlt _ ⟨by omega, by omega⟩))))
  · simpa using h
theorem toTestS_of {a : List GTest} {κ : List GTest → Prop} (hl : a.length ≤ 4294967296) (h : κ a) : L_laws_toTestS a κ := by
  unfold L_laws_toTestS L_laws_toTest
  refine makeW_of a.length rfl (by omega) (by omega) (copy_loop a id hl (fun x ψ => ψ x) (fun x ψ _ hh => hh) (by simpa using h) (by simp) _ (fun nx xs t hh => hh))
theorem toRule_of {r : GRule} {κ : GRule → Prop} (hl : r.xTests.length ≤ 4294967296) (h : κ r) : L_laws_toRule r κ := by
  unfold L_laws_toRule
  exact toTestS_of hl h
theorem pureFnExactRuleText (r : GRule) (hl : r.xTests.length ≤ 9223372036854775807) : L_laws_FnExactRuleText r (fun x => x = true) := by
  unfold L_laws_FnExactRuleText L_laws_szRule L_laws_szTestS
  have small : r.xTests.length ≤ 1048576 → L_laws_toRule r (fun r9 => L_spec_RuleText r9 (fun r12 => L_laws_toRule r (fun r13 => L_impl_RuleText r13 (fun r21 => ifW (!(decide (r21 = r12))) (false = true) (L_laws_toRule r (fun r22 => L_laws_eqRule r13 r22 (fun r25 => ifW (!r25) (false = true) (true = true)))))))) := by
    intro hs
    refine toRule_of (by omega) (S_spec_RuleText (by omega) (toRule_of (by omega) (S_impl_RuleText (by omega) ?_)))
    refine ifW_of (fun hc => by simp at hc) (fun _ => toRule_of (by omega) (eqRule_self (by omega) (by simp)))
  refine subW_of (by omega) (by omega) (ifW_of (fun hc => ?_) (fun hc => ?_))
  · refine ifW_of (fun _ => ?_) (fun hx => by simp at hx)
    exact ifW_of (fun _ => rfl) (fun hx => by simp at hx)
  · simp at hc
    refine ifW_of (fun _ => ?_) (fun _ => ?_)
    · exact ifW_of (fun _ => rfl) (fun hx => by simp at hx)
    · exact ifW_of (fun _ => rfl) (fun _ => small (by omega))

/-- the mark of a test -/
def mkT (k : Int) : GTest := GTest.mk k (k + 1) (k + 2) (decide ((k + 3) % 3 = 0))
theorem markRule_of {ts : List GTest} {a c : Int} {κ : Int × List GTest → Prop} (hl : ts.length ≤ 4294967296) (h : κ (1 + 4 * ts.length, marksN mkT 4 1 ts.length)) : L_laws_markRule ts a c 1 κ := by
  unfold L_laws_markRule L_laws_markTestS
  refine markN_loop mkT 4 ts 1 hl (by decide) (by decide) (by decide) (by decide) (κ := κ) h _ (fun nx xs k t hx k0 k1 ht hf => ?_)
  refine ifW_of (fun hc => ?_) (fun hc => ?_)
  · have hlt : t < xs.length := by simpa using hc
    refine idxW_of t rfl hlt (addW_of (by omega) (by omega) (idxW_set hlt (addW_of (by omega) (by omega) (idxW_set (set_lt hlt) (addW_of (by omega) (by omega) (remW_of (by omega) (by omega) (by omega) (idxW_set (set_lt (set_lt hlt)) (addW_of (by omega) (by omega) (addW_of (by omega) (by omega) ?_)))))))))
    have := ht hlt
    simp only [List.set_set, Int.toNat_natCast]
    have e1 : k + 1 + 1 + 1 + 1 = k + 4 := by omega
    have e2 : k + 1 + 1 + 1 = k + 3 := by omega
    have e3 : k + 1 + 1 = k + 2 := by omega
    rw [e1, e2, e3]
    exact this
  · exact hf (by simpa using hc)
theorem heldRule_of {n : Nat} {a c : Int} {κ : Int → Prop} (hl : n ≤ 4294967296) (h : κ (1 + 4 * n)) : L_laws_heldRule (GRule.mk (marksN mkT 4 1 n) a c) 1 κ := by
  unfold L_laws_heldRule L_laws_heldTestS
  refine heldN_loop mkT 4 1 n hl (by decide) (by decide) (by decide) (by decide) (κ := fun r8 => ifW (decide (r8 < 0)) (κ (-1)) (κ r8)) (ifW_of (fun hc => by simp at hc; omega) (fun _ => h)) _ (fun nx k t hx k0 k1 ht hf => ?_)
  refine ifW_of (fun hc => ?_) (fun hc => ?_)
  · have hlt : t < n := by rw [marksN_length] at hc; simpa using hc
    obtain ⟨hg, hnx⟩ := ht hlt
    have ix : ∀ (ψ : GTest → Prop), ψ (mkT k) → idxW (marksN mkT 4 1 n) (t : Int) ψ := fun ψ hψ => ⟨mkT k, by omega, by simpa using hg, hψ⟩
    have e1 : k + 1 + 1 + 1 + 1 = k + 4 := by omega
    have e2 : k + 1 + 1 + 1 = k + 3 := by omega
    have e3 : k + 1 + 1 = k + 2 := by omega
    refine ix _ (ifW_of (fun hc => by simp [mkT] at hc) (fun _ => addW_of (by omega) (by omega) ?_))
    refine ix _ (ifW_of (fun hc => by simp [mkT] at hc) (fun _ => addW_of (by omega) (by omega) ?_))
    refine ix _ (ifW_of (fun hc => by simp [mkT] at hc; omega) (fun _ => addW_of (by omega) (by omega) ?_))
    refine ix _ (remW_of (by omega) (by omega) (by omega) (ifW_of (fun hc => ?_) (fun _ => addW_of (by omega) (by omega) (addW_of (by omega) (by omega) ?_))))
    · rw [e2] at hc; simp [mkT] at hc
    · rw [e1]; exact hnx
  · refine hf ?_
    rw [marksN_length] at hc; simpa using hc

theorem exactReadRule_of {s : ByteArray} {r : GRule} {ok : Bool} (hl : r.xTests.length ≤ 6) (hR : ∀ κ : GRule × Bool → Prop, κ (r, ok) → L_impl_ReadRule s κ) (hS : ∀ κ : GRule × Bool → Prop, κ (r, ok) → L_spec_ReadRule s κ) : L_laws_FnExactReadRule s (fun x => x = true) := by
  unfold L_laws_FnExactReadRule jnW
  refine ifW_of (fun _ => rfl) (fun _ => hS _ (hR _ (eqRule_self (r := r) (by omega) ?_)))
  simp only [Bool.not_true, ifW_false, decide_true]
  refine markRule_of (by omega) (heldRule_of (by omega) (ifW_of (fun hc => by simp at hc; omega) (fun _ => ?_)))
  simp only [decide_true, Bool.not_true, ifW_false]
  refine hR _ (eqRule_self (r := r) (by omega) ?_)
  simp only [Bool.not_true, ifW_false, decide_true]
  refine heldRule_of (by omega) (ifW_of (fun hc => by simp at hc; omega) (fun _ => ?_))
  simp
theorem exactReadRule_big {s : ByteArray} (hc : decide (1048576 < (s.size : Int)) = true) : L_laws_FnExactReadRule s (fun x => x = true) := by
  unfold L_laws_FnExactReadRule
  exact ifW_of (fun _ => rfl) (fun h => by rw [hc] at h; cases h)
theorem pureFnExactReadRule (s : ByteArray) : L_laws_FnExactReadRule s (fun x => x = true) := by
  by_cases hb : decide (1048576 < (s.size : Int)) = true
  · exact exactReadRule_big hb
  · rw [← B_eta s] at hb ⊢
    generalize s.data.toList = l at *
    rw [B_size] at hb
    simp at hb
    by_cases he : ∃ q, RV q ∧ rtx0 q = l
    · obtain ⟨q, hq, rfl⟩ := he
      exact exactReadRule_of (r := q) (ok := true) hq.1.2 (fun κ h => C_impl_ReadRule hq h) (fun κ h => C_spec_ReadRule hq h)
    · exact exactReadRule_of (r := GRule.mk [] 0 0) (ok := false) (by simp) (fun κ h => T_impl_ReadRule (by omega) h (fun q hq e => absurd ⟨q, hq, e⟩ he)) (fun κ h => T_spec_ReadRule (by omega) h (fun q hq e => absurd ⟨q, hq, e⟩ he))
end Go.Proofs.YtnogaeckmiekdaaDoor
