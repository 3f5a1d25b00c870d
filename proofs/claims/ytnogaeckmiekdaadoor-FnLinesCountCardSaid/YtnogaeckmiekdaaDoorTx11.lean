/- The program's reader of rules. -/
import Derived.Test.YtnogaeckmiekdaaDoorTx10
set_option linter.unusedSimpArgs false
set_option linter.unusedVariables false
namespace Go.Proofs.YtnogaeckmiekdaaDoor
open Go.Lib (decDigits)

theorem S_awOf {a : Int} {K : ByteArray → Prop} (h0 : 1 ≤ a) (h1 : a ≤ 5) (h : K (B (aw a))) : L_impl_actionOf (GRule.mk [] a 0) (fun r10 => IAction.casesW r10 (fun x => L_impl_deciding_word x K) (fun x => L_impl_calling_word x K) (fun x => L_impl_returning_word (GReturning.mk ) K) (fun x => L_impl_passing_word (GPassing.mk ) K)) := by
  unfold L_impl_actionOf
  rcases five h0 h1 with rfl | rfl | rfl | rfl | rfl
  · refine ifW_of (fun _ => ?_) (fun e => by simp at e)
    exact ifW_of (fun _ => h) (fun e => by simp at e)
  · refine ifW_of (fun e => by simp at e) (fun _ => ifW_of (fun _ => ?_) (fun e => by simp at e))
    exact ifW_of (fun e => by simp at e) (fun _ => h)
  · refine ifW_of (fun e => by simp at e) (fun _ => ifW_of (fun e => by simp at e) (fun _ => ifW_of (fun _ => h) (fun e => by simp at e)))
  · refine ifW_of (fun e => by simp at e) (fun _ => ifW_of (fun e => by simp at e) (fun _ => ifW_of (fun e => by simp at e) (fun _ => ifW_of (fun _ => h) (fun e => by simp at e))))
  · refine ifW_of (fun e => by simp at e) (fun _ => ifW_of (fun e => by simp at e) (fun _ => ifW_of (fun e => by simp at e) (fun _ => ifW_of (fun e => by simp at e) (fun _ => h))))
theorem aw_inj {a b : Int} {r s : List UInt8} (ha : 1 ≤ a ∧ a ≤ 5) (hb : 1 ≤ b ∧ b ≤ 5) (h : aw a ++ r = aw b ++ s) : a = b := by
  rcases five ha.1 ha.2 with rfl | rfl | rfl | rfl | rfl <;> rcases five hb.1 hb.2 with rfl | rfl | rfl | rfl | rfl <;> first | rfl | (simp [aw] at h)

theorem S_action {l : List UInt8} {κ : GRule × Bool × Int → Prop} (hl : l.length ≤ 100000000000)
    (h1 : ∀ a : Int, 1 ≤ a → a ≤ 5 → a ≠ 3 → ∀ r, l = aw a ++ r → κ (GRule.mk [] a 0, true, ((aw a).length : Int)))
    (h2 : ∀ r, l = aw 3 ++ 32 :: r → κ (GRule.mk [] 3 (val (run 6 r) : Int), decide (run 6 r ≠ []), (((aw 3).length + 1 + (run 6 r).length : Nat) : Int)))
    (h3 : ∀ r, l = aw 3 ++ r → (∀ r', r ≠ 32 :: r') → κ (GRule.mk [] 3 0, false, ((aw 3).length : Int)))
    (hz : (∀ a : Int, 1 ≤ a → a ≤ 5 → ∀ r, l ≠ aw a ++ r) → κ (GRule.mk [] 0 0, false, 0)) : L_impl_scanner_action (B l) 0 κ := by
  unfold L_impl_scanner_action
  refine count_loop_from 1 6 (fun s => s.2) (fun k s => s = (0, (k : Int)) ∧ 1 ≤ k ∧ k ≤ 6 ∧ ∀ i : Nat, 1 ≤ i → i < k → ∀ r, l ≠ aw (i : Int) ++ r) (fun k s h => by rw [h.1]) (fun k s h => h.2.2.1) ?_ ⟨rfl, Nat.le_refl _, by omega, fun i hi => by omega⟩
  rintro k _ next ⟨rfl, hk1, hk, he⟩ hn
  refine ifW_of (fun hc => ?_) (fun hc => ?_)
  · have hk5 : k ≤ 5 := by simp at hc; omega
    have hal := aw_len (k : Int)
    unfold jnW
    refine S_awOf (by omega) (by omega) (S_word 0 rfl (Nat.zero_le _) (by omega) (by omega) (fun r e => ?_) (fun hno => ?_))
    · simp only [Bool.not_true, ifW_false]
      rw [List.drop_zero] at e
      refine ifW_of (fun h3' => ?_) (fun h3' => ?_)
      · simp at h3'
        have := h1 (k : Int) (by omega) (by omega) (by omega) r e
        simpa using this
      · have e3 : k = 3 := by simp at h3'; omega
        subst e3
        rw [Nat.zero_add]
        have hll : (aw ((3 : Nat) : Int)).length ≤ l.length := by rw [e]; simp
        have dr : l.drop (aw ((3 : Nat) : Int)).length = r := by rw [e]; exact drop_app rfl
        refine S_word (w := [32]) (aw ((3 : Nat) : Int)).length rfl hll (by omega) (by simp) (fun r' e' => ?_) (fun hno => ?_)
        · simp only [ifW_true]
          rw [dr] at e'
          have hm : (aw ((3 : Nat) : Int)).length + ([32] : List UInt8).length ≤ l.length := by rw [e, e']; simp
          refine S_number _ rfl hm (by omega) ?_
          have d2 : l.drop ((aw ((3 : Nat) : Int)).length + ([32] : List UInt8).length) = r' := by rw [← List.drop_drop, dr, e']; rfl
          rw [d2]
          exact h2 r' (by rw [e, e']; rfl)
        · simp only [ifW_false]
          rw [dr] at hno
          exact h3 r e (fun r' e' => hno r' (by simpa using e'))
    · simp only [Bool.not_false, ifW_true]
      refine addW_of (by omega) (by omega) (hn (by omega) _ ⟨by simp, by omega, by omega, fun i i1 i2 r e => ?_⟩)
      by_cases hik : i = k
      · subst hik; exact hno r (by simpa using e)
      · exact he i i1 (by omega) r e
  · have hge : k = 6 := by simp at hc; omega
    subst hge
    refine hz (fun a a1 a2 r e => ?_)
    obtain ⟨i, rfl⟩ := Int.eq_ofNat_of_zero_le (show 0 ≤ a by omega)
    exact he i (by omega) (by omega) r e
theorem T_action {l : List UInt8} {κ : GRule × Bool × Int → Prop} (hl : l.length ≤ 100000000000)
    (h : ∀ (a c : Int) (ok : Bool) (m : Nat), m ≤ l.length → κ (GRule.mk [] a c, ok, (m : Int))) : L_impl_scanner_action (B l) 0 κ := by
  refine S_action hl (fun a a1 a2 a3 r e => h _ _ _ _ (by rw [e]; simp)) (fun r e => h _ _ _ _ ?_) (fun r e _ => h _ _ _ _ (by rw [e]; simp)) (fun _ => h _ _ _ 0 (Nat.zero_le _))
  have := (run_len 6 r).2
  rw [e]; simp; omega
theorem C_action {l r : List UInt8} {a c : Int} {κ : GRule × Bool × Int → Prop} (hv : HV a c) (hr : Ends r) (el : l = hd a c ++ r) (hl : l.length ≤ 100000000000)
    (h : κ (GRule.mk [] a c, true, ((hd a c).length : Int))) : L_impl_scanner_action (B l) 0 κ := by
  obtain ⟨a1, a2, a3, a4⟩ := hv
  have el' : l = aw a ++ ((if a = 3 then 32 :: decDigits c.toNat else []) ++ r) := by rw [el, hd, List.append_assoc]
  refine S_action hl (fun b b1 b2 b3 s e => ?_) (fun s e => ?_) (fun s e hno => ?_) (fun hno => absurd el' (hno a a1 a2 _))
  · have := aw_inj ⟨a1, a2⟩ ⟨b1, b2⟩ (el'.symm.trans e)
    subst this
    rw [a4 b3] at h
    simpa [hd, b3] using h
  · have := aw_inj ⟨a1, a2⟩ ⟨by omega, by omega⟩ (el'.symm.trans e)
    subst this
    rw [el'] at e
    simp only [if_true, List.cons_append, List.append_cancel_left_eq, List.cons.injEq, true_and] at e
    subst e
    have hc := a3 rfl
    rw [run_dec (by omega) hr.dg, decide_eq_true (dec_pos _), dec_val]
    have ec : ((c.toNat : Nat) : Int) = c := by omega
    rw [ec]
    have en : (aw 3).length + 1 + (decDigits c.toNat).length = (hd 3 c).length := by simp [hd]; omega
    rw [en]; exact h
  · have := aw_inj ⟨a1, a2⟩ ⟨by omega, by omega⟩ (el'.symm.trans e)
    subst this
    rw [el'] at e
    simp only [if_true, List.cons_append, List.append_cancel_left_eq] at e
    exact absurd e.symm (hno _)

theorem tl_ends (ts : List GTest) : Ends (tl ts) := by
  intro c m e
  cases ts with
  | nil => cases e
  | cons t ts => rw [tl_cons] at e; cases e; rfl
theorem T_impl_ReadRule {l : List UInt8} {κ : GRule × Bool → Prop} (hl : l.length ≤ 100000000000) (hz : κ (GRule.mk [] 0 0, false)) (h : ∀ r, RV r → rtx0 r = l → κ (r, true)) : L_impl_ReadRule (B l) κ := by
  unfold L_impl_ReadRule
  refine T_action hl (fun a c ok m hm => ifW_of (fun _ => hz) (fun _ => ?_))
  refine loopW_inv (fun s => ∃ (m : Nat), s.2 = (m : Int) ∧ m ≤ l.length ∧ s.1.length ≤ 6) (fun s => 7 - s.1.length) ?_ ⟨m, rfl, hm, by simp⟩
  rintro ⟨xs, _⟩ next ⟨m, rfl, hm, hx⟩ hn
  simp only at hx
  unfold L_impl_scanner_done jnW
  refine ifW_of (fun hc => ?_) (fun hc => ?_)
  · refine ifW_of (fun h6 => by simp only [ifW_true]; exact hz) (fun h6 => ?_)
    simp at h6
    refine S_word (w := [44, 32]) m rfl hm (by omega) (by simp) (fun r e => ?_) (fun _ => by simp only [Bool.not_false, ifW_true]; exact hz)
    have hm2 : m + ([44, 32] : List UInt8).length ≤ l.length := by have := congrArg List.length e; simp at this; simp; omega
    simp only [Bool.not_true, ifW_false]
    refine T_scanner_test _ rfl hm2 hl (fun t m' hf q1 q2 => ?_) (fun m' q1 q2 => by simp only [Bool.not_false, ifW_true]; exact hz)
    simp only [Bool.not_true, ifW_false]
    refine appW_of (by simp; omega) (hn _ ⟨m', rfl, q2, by simp; omega⟩ (by simp; omega))
  · simp only [ifW_true]
    refine S_impl_RuleValid (by simp only; omega) (ifW_of (fun _ => hz) (fun hv => ?_))
    simp at hv
    refine S_impl_Rule_text hv (ifW_of (fun _ => hz) (fun he => ?_))
    simp [B_inj] at he
    exact h _ hv he
theorem C_impl_ReadRule {r : GRule} {κ : GRule × Bool → Prop} (hv : RV r) (h : κ (r, true)) : L_impl_ReadRule (B (rtx0 r)) κ := by
  have hl := rtx0_len hv
  obtain ⟨⟨v1, v2⟩, v3⟩ := id hv
  unfold L_impl_ReadRule
  refine C_action v3 (tl_ends _) rfl (by omega) ?_
  simp only [Bool.not_true, ifW_false]
  refine count_loop r.xTests.length (fun s => (s.1.length : Int)) (fun k s => s = (r.xTests.take k, ((hd r.xAction r.xChain ++ tl (r.xTests.take k)).length : Int)) ∧ k ≤ r.xTests.length) (fun k s h => by rw [h.1]; simp; omega) (fun k s h => h.2) ?_ ⟨by simp [tl], Nat.zero_le _⟩
  rintro k _ next ⟨rfl, hk⟩ hn
  have esplit : rtx0 r = (hd r.xAction r.xChain ++ tl (r.xTests.take k)) ++ tl (r.xTests.drop k) := by
    rw [rtx0, List.append_assoc, ← tl_app, List.take_append_drop]
  have hlen : (rtx0 r).length = (hd r.xAction r.xChain ++ tl (r.xTests.take k)).length + (tl (r.xTests.drop k)).length := by rw [esplit, List.length_append]
  unfold L_impl_scanner_done jnW
  rw [B_size]
  by_cases hlt : k < r.xTests.length
  · have hd1 : r.xTests.drop k = r.xTests[k] :: r.xTests.drop (k + 1) := List.drop_eq_getElem_cons hlt
    have htv := v1 _ (List.getElem_mem hlt)
    have et : tl (r.xTests.drop k) = 44 :: 32 :: (ttx r.xTests[k] ++ tl (r.xTests.drop (k + 1))) := by rw [hd1, tl_cons]
    have hpos : 2 ≤ (tl (r.xTests.drop k)).length := by rw [et]; simp
    refine ifW_of (fun hc => ?_) (fun hc => by simp at hc hlen; omega)
    refine ifW_of (fun h6 => by simp at h6; omega) (fun h6 => ?_)
    refine S_word (w := [44, 32]) _ rfl (by omega) (by omega) (by simp) (fun s e => ?_) (fun hno => absurd (by rw [esplit, drop_app rfl, et]; rfl) (hno (ttx r.xTests[k] ++ tl (r.xTests.drop (k + 1)))))
    simp only [Bool.not_true, ifW_false]
    refine C_scanner_test (p := (hd r.xAction r.xChain ++ tl (r.xTests.take k)) ++ [44, 32]) (r := tl (r.xTests.drop (k + 1))) htv (tl_ends _) (by rw [esplit, et]; simp) (by simp; omega) (by omega) ?_
    simp only [Bool.not_true, ifW_false]
    refine appW_of (by simp; omega) (hn hlt _ ⟨?_, by omega⟩)
    rw [List.take_succ_eq_append_getElem hlt, tl_app, tl_cons]
    simp only [tl_nil, Prod.mk.injEq, true_and, List.length_append, List.length_cons, List.length_nil, List.append_nil]
    omega
  · have hge : r.xTests.length ≤ k := by omega
    have e0 : tl (r.xTests.drop k) = [] := by rw [List.drop_eq_nil_of_le hge]; rfl
    rw [e0] at hlen
    refine ifW_of (fun hc => by simp at hc hlen; omega) (fun hc => ?_)
    rw [List.take_of_length_le hge]
    refine S_impl_RuleValid (r := r) (by omega) (ifW_of (fun hc => absurd hv (by simpa using hc)) (fun _ => S_impl_Rule_text hv (ifW_of (fun hc => by simp at hc) (fun _ => h))))
end Go.Proofs.YtnogaeckmiekdaaDoor
