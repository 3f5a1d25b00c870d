/- The drawn laws of rules. -/
import Derived.Test.YtnogaeckmiekdaaDoorTx13
set_option linter.unusedSimpArgs false
set_option linter.unusedVariables false
namespace Go.Proofs.YtnogaeckmiekdaaDoor
open Go.Lib (decDigits)

theorem S_l20Tests {b : List UInt8} {p n : Int} (hb : b.length ≤ 2000) (h0 : 0 ≤ p) (hp : p ≤ 700000) (hn : n ≤ 4294967296) {κ : List GTest × Int → Prop} (h : ∀ ts p', p ≤ p' → p' ≤ p + 300 → ts.length ≤ 8 → κ (ts, p')) : L_spec_l20Tests b p n κ := by
  have rd : ∀ p', p ≤ p' → p' ≤ p + 300 → RdP b p' := fun p' a c => ⟨hb, by omega, by omega⟩
  unfold L_spec_l20Tests
  refine S_pick (rd p (by omega) (by omega)) (fun v a c => ?_)
  refine loopW_inv (fun s => 0 ≤ s.2.2 ∧ s.2.2 ≤ 3 ∧ p ≤ s.1 ∧ s.1 ≤ p + 1 + 50 * (3 - s.2.2) ∧ s.2.1.length + s.2.2.toNat ≤ 3) (fun s => s.2.2.toNat) ?_ ⟨a, by simp only; omega, by simp only; omega, by simp only; omega, by simp only [List.length_nil]; omega⟩
  rintro ⟨q, xs, k⟩ next ⟨k0, k1, q0, q1, hx⟩ hnx
  simp only at k0 k1 q0 q1 hx
  refine ifW_of (fun hc => ?_) (fun hc => ?_)
  · simp at hc
    refine S_l20Test hb (by omega) (by omega) (by omega) (fun t p' g1 g2 => appW_of (by simp; omega) (subW_of (by omega) (by omega) (hnx _ ⟨by simp only; omega, by simp only; omega, by simp only; omega, by simp only; omega, by simp; omega⟩ (by simp only; omega))))
  · simp at hc
    unfold jnW
    refine S_odd (rd _ (by omega) (by omega)) hn (fun o p1 f1 f2 => ifW_of (fun _ => ?_) (fun _ => h _ _ (by omega) (by omega) (by omega)))
    refine S_pick (rd _ (by omega) (by omega)) (fun v2 a2 c2 => ifW_of (fun _ => ?_) (fun _ => ?_))
    · exact S_l20Test hb (by omega) (by omega) (by omega) (fun t p' g1 g2 => appW_of (by simp; omega) (h _ _ (by omega) (by omega) (by simp; omega)))
    · exact makeW_of 7 rfl (by omega) (by omega) (h _ _ (by omega) (by omega) (by simp))
theorem S_l20Rule {b : List UInt8} {p n first chains : Int} (hb : b.length ≤ 2000) (h0 : 0 ≤ p) (hp : p ≤ 600000) (hn : n ≤ 4294967296) (hf0 : 0 ≤ first) (hf1 : first ≤ 100) (hc0 : 0 ≤ chains) (hc1 : chains ≤ 100) {κ : GRule × Int → Prop} (h : ∀ r p', p ≤ p' → p' ≤ p + 700 → r.xTests.length ≤ 8 → κ (r, p')) : L_spec_l20Rule b p first chains n κ := by
  have rd : ∀ p', p ≤ p' → p' ≤ p + 700 → RdP b p' := fun p' a c => ⟨hb, by omega, by omega⟩
  unfold L_spec_l20Rule
  refine S_l20Tests hb h0 (by omega) (by omega) (fun ts p1 g1 g2 hts => S_pick (rd _ (by omega) (by omega)) (fun v a c => idxW_any (by omega) (by simp; omega) (fun act _ => ?_)))
  unfold jnW
  have fin : ∀ (t86 t87 t88 : Int), p ≤ t88 → t88 ≤ p + 310 → L_spec_l20Rd_odd b t88 n (fun (r90, r91) => ifW r90 (L_spec_l20Rd_pick b r91 3 (fun (r92, r93) => ifW (decide (r92 = 0)) (L_spec_l20Rd_pick b r93 2 (fun (r96, r97) => idxW ([0, 6]) r96 (fun e98 => κ ((GRule.mk ts e98 t87), r97)))) (ifW (decide (r92 = 1)) (L_spec_l20Rd_pick b r93 3 (fun (r102, r103) => idxW ([(-1), 5, 1]) r102 (fun e104 => κ ((GRule.mk ts t86 e104), r103)))) (L_spec_l20Tests b r93 1 (fun (r106, r109) => κ ((GRule.mk r106 t86 t87), r109)))))) (κ ((GRule.mk ts t86 t87), r91))) := by
    intro t86 t87 t88 q1 q2
    refine S_odd (rd _ (by omega) (by omega)) hn (fun o p2 f1 f2 => ifW_of (fun _ => ?_) (fun _ => h _ _ (by omega) (by omega) hts))
    refine S_pick (rd _ (by omega) (by omega)) (fun v2 a2 c2 => ifW_of (fun _ => ?_) (fun _ => ifW_of (fun _ => ?_) (fun _ => ?_)))
    · exact S_pick (rd _ (by omega) (by omega)) (fun v3 a3 c3 => idxW_any (by omega) (by simp; omega) (fun x _ => h _ _ (by omega) (by omega) hts))
    · exact S_pick (rd _ (by omega) (by omega)) (fun v3 a3 c3 => idxW_any (by omega) (by simp; omega) (fun x _ => h _ _ (by omega) (by omega) hts))
    · exact S_l20Tests hb (by omega) (by omega) (by omega) (fun ts2 p3 f3 f4 hts2 => h _ _ (by omega) (by omega) hts2)
  refine ifW_of (fun _ => ifW_of (fun _ => fin _ _ _ (by omega) (by omega)) (fun hc => ?_)) (fun _ => fin _ _ _ (by omega) (by omega))
  simp at hc
  refine subW_of (by omega) (by omega) (S_pick (rd _ (by omega) (by omega)) (fun v2 a2 c2 => addW_of (by omega) (by omega) (fin _ _ _ (by omega) (by omega))))
theorem S_DrawReadRule {code : List UInt8} {κ : ByteArray → Prop} (h : ∀ s : ByteArray, s.size ≤ 1000 → κ s) : L_spec_DrawReadRule code κ := by
  unfold L_spec_DrawReadRule L_spec_l20Line jnW
  refine S_l20Open (fun b hb => S_l20Rule hb (by omega) (by omega) (by omega) (by omega) (by omega) (by omega) (by omega) (fun r p' f1 f2 hr => S_spec_RuleText (by omega) ?_))
  have hl := rtext_len r
  refine S_odd ⟨hb, by omega, by omega⟩ (by omega) (fun c p1 g1 g2 => ifW_of (fun hc => ?_) (fun hc => h _ (by rw [B_size]; omega)))
  refine catW_B (m := [44]) (by simp; omega) (catW_B (m := [44, 32]) (by simp; omega) (catW_B (m := [44, 32, 110, 111, 110, 101]) (by simp; omega) (S_pick ⟨hb, by omega, by omega⟩ (fun v v1 v2 => idxW_any (by omega) (by simp; omega) (fun x hx => h x ?_)))))
  simp only [List.mem_cons, List.not_mem_nil, or_false] at hx
  rcases hx with rfl | rfl | rfl | rfl | rfl | rfl | rfl | rfl | rfl | rfl | rfl
  · rw [B_size]; simp; omega
  · rw [B_size]; simp; omega
  · decide
  · decide
  · decide
  · decide
  · decide
  · decide
  · rw [B_size]; simp; omega
  · decide
  · decide
theorem pureFnReadRule (code : List UInt8) : L_laws_FnReadRule code (fun r => r = true) := by
  unfold L_laws_FnReadRule jnW
  refine ifW_of (fun _ => rfl) (fun hc => ?_)
  refine S_DrawReadRule (fun s hs => ?_)
  rw [← B_eta s] at hs ⊢
  generalize s.data.toList = l at *
  rw [B_size] at hs
  by_cases he : ∃ q, RV q ∧ rtx0 q = l
  · obtain ⟨q, hq, rfl⟩ := he
    have hq6 := hq.1.2
    refine C_impl_ReadRule hq (C_spec_ReadRule hq (sameRule_self (r := q) (by omega) ?_))
    simp only [decide_true, ifW_true, Bool.not_true, ifW_false]
    refine S_impl_RuleText (by omega) ?_
    rw [rtext, if_pos hq]; simp
  · refine T_impl_ReadRule (by omega) (T_spec_ReadRule (by omega) ?_ (fun q hq e => absurd ⟨q, hq, e⟩ he)) (fun q hq e => absurd ⟨q, hq, e⟩ he)
    refine sameRule_self (r := GRule.mk [] 0 0) (by simp) ?_
    simp only [decide_true, ifW_true, Bool.not_true, Bool.not_false, ifW_false]
    refine sameRule_self (r := GRule.mk [] 0 0) (by simp) ?_
    simp only [ifW_true]
    exact S_alive (by simp)
theorem ttx_p9 : ttx (GTest.mk 2 9 9 false) = [112, 111, 114, 116, 32, 57] := by
  have e9 : decDigits 9 = [57] := dec_small (by decide)
  have e : (9 : Int).toNat = 9 := by decide
  simp [ttx, btx, nm, rtx, e, e9]
theorem pureFnRuleText (code : List UInt8) : L_laws_FnRuleText code (fun r => r = true) := by
  unfold L_laws_FnRuleText jnW
  refine ifW_of (fun _ => rfl) (fun hc => ?_)
  unfold L_spec_DrawRuleText
  refine S_l20Open (fun b hb => S_l20Rule hb (by omega) (by omega) (by omega) (by omega) (by omega) (by omega) (by omega) (fun r p' _ _ hr => ?_))
  refine S_impl_RuleText (by omega) (S_spec_RuleText (by omega) ?_)
  refine ifW_of (fun hc => by simp at hc) (fun _ => S_spec_RuleValid (by omega) (ifW_of (fun hc => ?_) (fun hc => ?_)))
  · simp at hc
    rw [rtext, if_neg hc]
    simp only [B_nil, decide_true, ifW_true]
    exact S_alive rfl
  · simp at hc
    rw [rtext, if_pos hc]
    have hl := rtx0_len hc
    refine C_impl_ReadRule hc (appW_of (by simp; omega) (appW_of (by simp; omega) ?_))
    simp only [ifW_true]
    refine sameRule_self (r := r) (by omega) ?_
    simp only [ifW_true]
    refine ifW_of (fun _ => by trivial) (fun h6 => ?_)
    simp at h6
    have hv' : RV (GRule.mk (([] ++ r.xTests) ++ [GTest.mk 2 9 9 false]) r.xAction r.xChain) := by
      refine ⟨⟨fun t ht => ?_, ?_⟩, hc.2⟩
      · simp only [List.nil_append, List.mem_append, List.mem_singleton] at ht
        rcases ht with ht | rfl
        · exact hc.1.1 t ht
        · decide
      · have := hc.1.2
        simp; omega
    refine S_impl_RuleText (by simp; omega) (catW_B (m := [44, 32, 112, 111, 114, 116, 32, 57]) (by simp; omega) ?_)
    rw [rtext, if_pos hv', B_dec]
    simp [rtx0, tl, ttx_p9]
end Go.Proofs.YtnogaeckmiekdaaDoor
