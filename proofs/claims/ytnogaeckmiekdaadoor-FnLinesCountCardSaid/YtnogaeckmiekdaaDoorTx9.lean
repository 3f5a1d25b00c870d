/- The drawn laws of tests. -/
import Derived.Test.YtnogaeckmiekdaaDoorTx8
set_option linter.unusedSimpArgs false
set_option linter.unusedVariables false
namespace Go.Proofs.YtnogaeckmiekdaaDoor
open Go.Lib (decDigits)

theorem w64_64 (x : Int) : -9223372036854775808 ≤ w64 x ∧ w64 x ≤ 9223372036854775807 := by
  simp [w64, IntKind.wrap, IntKind.signed, IntKind.bits]; omega
/-- a draw of a span: whatever it draws, the second end is not the greatest number -/
theorem S_l20Span {b : List UInt8} {p tp n : Int} (hb : b.length ≤ 2000) (h0 : 0 ≤ p) (hp : p ≤ 900000) (ht0 : 7 ≤ tp) (ht : tp ≤ 65535) (hn : n ≤ 4294967296) {κ : GSpan × Int → Prop} (h : ∀ q p', p ≤ p' → p' ≤ p + 20 → -9223372036854775808 ≤ q.xHi → q.xHi ≤ 65536 → κ (q, p')) : L_spec_l20Span b p tp n κ := by
  have rd : ∀ p', p ≤ p' → p' ≤ p + 30 → RdP b p' := fun p' a c => ⟨hb, by omega, by omega⟩
  have B3 : ∀ (t144 t145 : Int), p ≤ t144 → t144 ≤ p + 6 → L_spec_l20Rd_pick b t144 4 (fun (r150, r151) => L_spec_l20Rd_pick b r151 256 (fun (r152, r153) => L_spec_l20Rd_pick b r153 4 (fun (r155, r156) => idxW ([0, r150, r152, 4096]) r155 (fun e157 => L_spec_l20Rd_odd b r156 n (fun (r174, r175) => ifW r174 (L_spec_l20Rd_pick b r175 3 (fun (r181, r182) => idxW ([(GSpan.mk (w64 ((min tp (w64 (t145 + e157))) + 1)) (min tp (w64 (t145 + e157)))), (GSpan.mk (-1) (min tp (w64 (t145 + e157)))), (GSpan.mk t145 (w64 (tp + 1)))]) r181 (fun e183 => κ ((GSpan.mk e183.xLo e183.xHi), r182)))) (κ ((GSpan.mk t145 (min tp (w64 (t145 + e157)))), r175))))))) := by
    intro t144 t145 g1 g2
    refine S_pick (rd _ (by omega) (by omega)) (fun v1 a1 c1 => S_pick (rd _ (by omega) (by omega)) (fun v2 a2 c2 => S_pick (rd _ (by omega) (by omega)) (fun v3 a3 c3 => idxW_any (by omega) (by simp; omega) (fun x _ => ?_))))
    have hm := w64_64 (t145 + x)
    have hw : w64 (tp + 1) = tp + 1 := by simp [w64, IntKind.wrap, IntKind.signed, IntKind.bits]; omega
    refine S_odd (rd _ (by omega) (by omega)) hn (fun c p1 f1 f2 => ifW_of (fun _ => ?_) (fun _ => h _ _ (by omega) (by omega) (by simp only; omega) (by simp only; omega)))
    refine S_pick (rd _ (by omega) (by omega)) (fun v4 a4 c4 => idxW_any (by omega) (by simp; omega) (fun y hy => ?_))
    rw [hw] at hy
    have hb : -9223372036854775808 ≤ y.xHi ∧ y.xHi ≤ 65536 := by rcases mem3 hy with e | e | e <;> subst e <;> simp only <;> omega
    exact h _ _ (by omega) (by omega) hb.1 hb.2
  unfold L_spec_l20Span
  refine addW_of (by omega) (by omega) (S_pick (rd p (by omega) (by omega)) (fun v a c => ?_))
  unfold jnW
  refine ifW_of (fun _ => ?_) (fun _ => ?_)
  · refine S_pick (rd _ (by omega) (by omega)) (fun v5 a5 c5 => ?_)
    refine ifW_of (fun _ => ?_) (fun _ => ?_)
    · exact S_pick (rd _ (by omega) (by omega)) (fun v6 a6 c6 => B3 _ _ (by omega) (by omega))
    · exact B3 _ _ (by omega) (by omega)
  · refine ifW_of (fun e => by cases e) (fun _ => B3 _ _ (by omega) (by omega))
theorem S_l20Test {b : List UInt8} {p n : Int} (hb : b.length ≤ 2000) (h0 : 0 ≤ p) (hp : p ≤ 800000) (hn : n ≤ 4294967296) {κ : GTest × Int → Prop} (h : ∀ q p', p ≤ p' → p' ≤ p + 50 → κ (q, p')) : L_spec_l20Test b p n κ := by
  have rd : ∀ p', p ≤ p' → p' ≤ p + 60 → RdP b p' := fun p' a c => ⟨hb, by omega, by omega⟩
  unfold L_spec_l20Test
  refine S_pick (rd p (by omega) (by omega)) (fun f a1 c1 => S_pick (rd _ (by omega) (by omega)) (fun nt a2 c2 => S_spec_FieldTop (by omega) (by omega) ?_))
  have ht := top_le f
  refine S_l20Span hb (by omega) (by omega) ht.1 ht.2 (by omega) (fun sp p1 g1 g2 s1 s2 => ?_)
  unfold jnW
  have fin : ∀ (t241 t242 t243 : Int), p ≤ t241 → t241 ≤ p + 35 → -9223372036854775808 ≤ t243 → t243 ≤ 65536 → L_spec_l20Rd_odd b t241 n (fun (r245, r246) => ifW r245 (L_spec_l20Rd_pick b r246 3 (fun (r247, r248) => ifW (decide (r247 = 0)) (L_spec_l20Rd_pick b r248 2 (fun (r251, r252) => idxW ([(-1), 4]) r251 (fun e253 => κ ((GTest.mk e253 t242 t243 (decide (nt = 0))), r252)))) (ifW (decide (r247 = 1)) (addW t243 1 (fun t255 => κ ((GTest.mk f t255 t243 (decide (nt = 0))), r248))) (addW (top f) 1 (fun t256 => κ ((GTest.mk f t242 t256 (decide (nt = 0))), r248)))))) (κ ((GTest.mk f t242 t243 (decide (nt = 0))), r246))) := by
    intro t241 t242 t243 q1 q2 q3 q4
    refine S_odd (rd _ (by omega) (by omega)) hn (fun c p1 f1 f2 => ifW_of (fun _ => ?_) (fun _ => h _ _ (by omega) (by omega)))
    refine S_pick (rd _ (by omega) (by omega)) (fun v4 a4 c4 => ifW_of (fun _ => ?_) (fun _ => ifW_of (fun _ => addW_of (by omega) (by omega) (h _ _ (by omega) (by omega))) (fun _ => addW_of (by omega) (by omega) (h _ _ (by omega) (by omega)))))
    exact S_pick (rd _ (by omega) (by omega)) (fun v5 a5 c5 => idxW_any (by omega) (by simp; omega) (fun y _ => h _ _ (by omega) (by omega)))
  have mid : ∀ (t152 t153 t154 : Int), p ≤ t152 → t152 ≤ p + 30 → -9223372036854775808 ≤ t154 → t154 ≤ 65536 → L_spec_l20Rd_pick b t152 8 (fun (r156, r157) => ifW (decide (r156 = 0)) (L_spec_l20Rd_pick b r157 3 (fun (r163, r164) => idxW ([(GSpan.mk 0 (top f)), (GSpan.mk 0 t154), (GSpan.mk t153 (top f))]) r163 (fun e165 => L_spec_l20Rd_odd b r164 n (fun (r245, r246) => ifW r245 (L_spec_l20Rd_pick b r246 3 (fun (r247, r248) => ifW (decide (r247 = 0)) (L_spec_l20Rd_pick b r248 2 (fun (r251, r252) => idxW ([(-1), 4]) r251 (fun e253 => κ ((GTest.mk e253 e165.xLo e165.xHi (decide (nt = 0))), r252)))) (ifW (decide (r247 = 1)) (addW e165.xHi 1 (fun t255 => κ ((GTest.mk f t255 e165.xHi (decide (nt = 0))), r248))) (addW (top f) 1 (fun t256 => κ ((GTest.mk f e165.xLo t256 (decide (nt = 0))), r248)))))) (κ ((GTest.mk f e165.xLo e165.xHi (decide (nt = 0))), r246)))))) (L_spec_l20Rd_odd b r157 n (fun (r245, r246) => ifW r245 (L_spec_l20Rd_pick b r246 3 (fun (r247, r248) => ifW (decide (r247 = 0)) (L_spec_l20Rd_pick b r248 2 (fun (r251, r252) => idxW ([(-1), 4]) r251 (fun e253 => κ ((GTest.mk e253 t153 t154 (decide (nt = 0))), r252)))) (ifW (decide (r247 = 1)) (addW t154 1 (fun t255 => κ ((GTest.mk f t255 t154 (decide (nt = 0))), r248))) (addW (top f) 1 (fun t256 => κ ((GTest.mk f t153 t256 (decide (nt = 0))), r248)))))) (κ ((GTest.mk f t153 t154 (decide (nt = 0))), r246))))) := by
    intro t152 t153 t154 q1 q2 q3 q4
    refine S_pick (rd _ (by omega) (by omega)) (fun v4 a4 c4 => ifW_of (fun _ => ?_) (fun _ => fin _ _ _ (by omega) (by omega) q3 q4))
    refine S_pick (rd _ (by omega) (by omega)) (fun v5 a5 c5 => idxW_any (by omega) (by simp; omega) (fun y hy => ?_))
    have hb : -9223372036854775808 ≤ y.xHi ∧ y.xHi ≤ 65536 := by rcases mem3 hy with e | e | e <;> subst e <;> simp only <;> omega
    exact fin _ _ _ (by omega) (by omega) hb.1 hb.2
  refine ifW_of (fun _ => ?_) (fun _ => ?_)
  · refine S_pick (rd _ (by omega) (by omega)) (fun v a c => ?_)
    refine ifW_of (fun _ => ?_) (fun _ => mid _ _ _ (by omega) (by omega) s1 s2)
    refine S_pick (rd _ (by omega) (by omega)) (fun v2 a2 c2 => S_pick (rd _ (by omega) (by omega)) (fun v3 a3 c3 => ?_))
    have hw : w64 (v2 + v3) = v2 + v3 := w64_small (by omega) (by omega)
    exact mid _ _ _ (by omega) (by omega) (by rw [hw]; omega) (by rw [hw]; omega)
  · exact ifW_of (fun e => by cases e) (fun _ => mid _ _ _ (by omega) (by omega) s1 s2)

theorem S_DrawReadTest {code : List UInt8} {κ : ByteArray → Prop} (h : ∀ s : ByteArray, s.size ≤ 1000 → κ s) : L_spec_DrawReadTest code κ := by
  unfold L_spec_DrawReadTest jnW
  refine S_l20Open (fun b hb => S_l20Test hb (by omega) (by omega) (by omega) (fun p p' f1 f2 => S_spec_TestText ?_))
  have hl := ttext_len p
  refine S_odd ⟨hb, by omega, by omega⟩ (by omega) (fun c p1 g1 g2 => ifW_of (fun hc => ?_) (fun hc => h _ (by rw [B_size]; omega)))
  refine catW_B (m := [32]) (by simp; omega) (catW_B (l := [110, 111, 116, 32, 110, 111, 116, 32]) (by simp; omega) (S_pick ⟨hb, by omega, by omega⟩ (fun v v1 v2 => idxW_any (by omega) (by simp; omega) (fun x hx => h x ?_))))
  simp only [List.mem_cons, List.not_mem_nil, or_false] at hx
  rcases hx with rfl | rfl | rfl | rfl | rfl | rfl | rfl | rfl | rfl | rfl | rfl | rfl
  · rw [B_size]; simp; omega
  · rw [B_size]; simp; omega
  all_goals decide
theorem pureFnReadTest (code : List UInt8) : L_laws_FnReadTest code (fun r => r = true) := by
  unfold L_laws_FnReadTest jnW
  refine ifW_of (fun _ => rfl) (fun hc => ?_)
  refine S_DrawReadTest (fun s hs => ?_)
  rw [← B_eta s] at hs ⊢
  generalize s.data.toList = l at *
  rw [B_size] at hs
  by_cases he : ∃ q, TV q ∧ ttx q = l
  · obtain ⟨q, hq, rfl⟩ := he
    refine C_impl_ReadTest hq (C_spec_ReadTest hq ?_)
    simp only [decide_true, ifW_true, Bool.not_true, ifW_false]
    refine S_impl_TestText ?_
    rw [ttext, if_pos hq]; simp
  · refine T_impl_ReadTest (by omega) (T_spec_ReadTest (by omega) ?_ (fun q hq e => absurd ⟨q, hq, e⟩ he)) (fun q hq e => absurd ⟨q, hq, e⟩ he)
    simp only [decide_true, ifW_true, Bool.not_true, Bool.not_false, ifW_false]
    exact S_alive (by simp)
theorem pureFnTestText (code : List UInt8) : L_laws_FnTestText code (fun r => r = true) := by
  unfold L_laws_FnTestText jnW
  refine ifW_of (fun _ => rfl) (fun hc => ?_)
  unfold L_spec_DrawTestText
  refine S_l20Open (fun b hb => S_l20Test hb (by omega) (by omega) (by omega) (fun t p' _ _ => ?_))
  refine S_impl_TestText (S_spec_TestText ?_)
  refine ifW_of (fun hc => by simp at hc) (fun _ => S_spec_TestValid (ifW_of (fun hc => ?_) (fun hc => ?_)))
  · simp at hc
    rw [ttext, if_neg hc]
    simp only [B_nil, decide_true, ifW_true]
    exact S_alive rfl
  · simp at hc
    rw [ttext, if_pos hc]
    refine C_impl_ReadTest hc (S_impl_TestText ?_)
    have hv' : TV (GTest.mk t.xField t.xLo t.xHi (!t.xNot)) := hc
    have eb : btx (GTest.mk t.xField t.xLo t.xHi (!t.xNot)) = btx t := rfl
    have hl := btx_len hc
    rw [ttext, if_pos hv']
    simp only [decide_true, ifW_true]
    refine ifW_of (fun hn => ?_) (fun hn => ?_)
    · have e1 : ttx t = [110, 111, 116, 32] ++ btx t := by rw [ttx_not, if_pos hn]
      have e2 : ttx (GTest.mk t.xField t.xLo t.xHi (!t.xNot)) = btx t := by rw [ttx_not]; simp [hn]; rfl
      rw [e1, e2]
      refine catW_B (l := [110, 111, 116, 32]) (by simp; omega) (ifW_of (fun _ => by trivial) (fun hx => by simp at hx))
    · have e1 : ttx t = btx t := by rw [ttx_not]; simp [hn]
      have e2 : ttx (GTest.mk t.xField t.xLo t.xHi (!t.xNot)) = [110, 111, 116, 32] ++ btx t := by rw [ttx_not]; simp [hn]; rfl
      rw [e1, e2]
      simp only [hn, Bool.not_false, ifW_true]
      exact catW_B (l := [110, 111, 116, 32]) (by simp; omega) (by simp)
end Go.Proofs.YtnogaeckmiekdaaDoor
