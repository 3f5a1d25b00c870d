/- The drawn laws of prefixes. -/
import Derived.Test.YtnogaeckmiekdaaDoorTx4
set_option linter.unusedSimpArgs false
set_option linter.unusedVariables false
namespace Go.Proofs.YtnogaeckmiekdaaDoor
open Go.Lib (decDigits)

theorem w64_small {x : Int} (h1 : -100 ≤ x) (h2 : x ≤ 100) : w64 x = x := by
  simp [w64, IntKind.wrap, IntKind.signed, IntKind.bits]; omega
theorem two16 {k : Int} (h0 : 0 ≤ k) (h1 : k ≤ 16) : (1 : Int) ≤ 2 ^ k.toNat ∧ (2 : Int) ^ k.toNat ≤ 65536 := pow_bd _ (by omega)
theorem div_bd {x y : Int} (h0 : 0 ≤ x) (h1 : x < 65536) (hy : 1 ≤ y) : 0 ≤ x / y ∧ x / y < 65536 := by
  refine ⟨Int.ediv_nonneg h0 (by omega), ?_⟩
  have := Int.ediv_le_self y h0
  omega
theorem mul_bd {x y : Int} (h0 : 0 ≤ x) (h1 : x < 65536) (hy : 1 ≤ y) (hy2 : y ≤ 65536) : 0 ≤ x * y ∧ x * y ≤ 65536 * 65536 := by
  refine ⟨Int.mul_nonneg h0 (by omega), ?_⟩
  exact Int.mul_le_mul (by omega) hy2 (by omega) (by omega)
theorem mem2 {α : Type} {x a b : α} (h : x ∈ [a, b]) : x = a ∨ x = b := by simpa using h
theorem mem3 {α : Type} {x a b c : α} (h : x ∈ [a, b, c]) : x = a ∨ x = b ∨ x = c := by simpa using h
theorem RdP.step {b : List UInt8} {p p' : Int} {m : Int} (h : RdP b p) (h1 : p ≤ p') (h2 : p' ≤ 1000000) : RdP b p' := ⟨h.1, by have := h.2.1; omega, h2⟩

theorem S_l20Prefix {b : List UInt8} {p n : Int} (hr : RdP b p) (hp : p ≤ 900000) (hn : n ≤ 4294967296) {κ : GPrefix × Int → Prop} (h : ∀ q p', p ≤ p' → p' ≤ p + 20 → κ (q, p')) : L_spec_l20Prefix b p n κ := by
  have hb := hr.1
  have h0 := hr.2.1
  have rd : ∀ p', p ≤ p' → p' ≤ p + 20 → RdP b p' := fun p' a c => ⟨hb, by omega, by omega⟩
  unfold L_spec_l20Prefix jnW
  refine S_pick hr (fun v1 a1 c1 => addW_of (by omega) (by omega) (S_pick (rd _ (by omega) (by omega)) (fun v2 a2 c2 => S_pick (rd _ (by omega) (by omega)) (fun v3 a3 c3 => ?_))))
  refine idxW_any (by omega) (by simp; omega) (fun e16 he => ?_)
  have e1 : 0 ≤ e16 ∧ e16 ≤ 16 := by rcases mem3 he with e | e | e <;> subst e <;> omega
  clear he
  refine S_pick (rd _ (by omega) (by omega)) (fun v4 a4 c4 => mulW_of (by omega) (by omega) (S_pick (rd _ (by omega) (by omega)) (fun v5 a5 c5 => S_pick (rd _ (by omega) (by omega)) (fun v6 a6 c6 => ?_))))
  refine idxW_any (by omega) (by simp; omega) (fun e29 he => ?_)
  have e2 : 1 ≤ e29 ∧ e29 ≤ 64 := by rcases mem2 he with e | e <;> subst e <;> omega
  clear he
  have m1 : 0 ≤ v5 * e29 ∧ v5 * e29 ≤ 256 * 64 := ⟨Int.mul_nonneg (by omega) (by omega), Int.mul_le_mul (by omega) (by omega) (by omega) (by omega)⟩
  refine mulW_of (by omega) (by omega) (addW_of (by omega) (by omega) (remW_lt (by omega) (by omega) (by omega) (fun z z1 z2 => ?_)))
  rw [w64_small (by omega) (by omega)]
  obtain ⟨b1, b2⟩ := two16 (k := 16 - e16) (by omega) (by omega)
  obtain ⟨d1, d2⟩ := div_bd z1 z2 b1
  obtain ⟨u1, u2⟩ := mul_bd d1 d2 b1 b2
  refine ⟨by omega, by omega, by omega, ⟨by omega, by omega⟩, ⟨by omega, by omega, ⟨by omega, by omega⟩, ?_⟩⟩
  refine S_odd (rd _ (by omega) (by omega)) hn (fun c p1 f1 f2 => ifW_of (fun hc => ?_) (fun hc => h _ _ (by omega) (by omega)))
  refine S_pick (rd _ (by omega) (by omega)) (fun v7 a7 c7 => ifW_of (fun _ => ?_) (fun _ => ifW_of (fun _ => ?_) (fun _ => ?_)))
  · exact S_pick (rd _ (by omega) (by omega)) (fun v8 a8 c8 => idxW_any (by omega) (by simp; omega) (fun x _ => h _ _ (by omega) (by omega)))
  · exact S_pick (rd _ (by omega) (by omega)) (fun v8 a8 c8 => h _ _ (by omega) (by omega))
  · exact S_pick (rd _ (by omega) (by omega)) (fun v8 a8 c8 => idxW_any (by omega) (by simp; omega) (fun x _ => h _ _ (by omega) (by omega)))

theorem ptext_len (p : GPrefix) : (ptext p).length ≤ 20 := by
  unfold ptext; split
  · rename_i h; exact ptx_len h
  · simp

theorem pureFnPrefixText (code : List UInt8) : L_laws_FnPrefixText code (fun r => r = true) := by
  unfold L_laws_FnPrefixText jnW
  refine ifW_of (fun _ => rfl) (fun hc => ?_)
  unfold L_spec_DrawPrefixText
  refine S_l20Open (fun b hb => S_l20Prefix ⟨hb, by omega, by omega⟩ (by omega) (by omega) (fun p p' _ _ => ?_))
  refine S_impl_PrefixText (S_spec_PrefixText ?_)
  refine ifW_of (fun hc => by simp at hc) (fun _ => S_spec_PrefixValid (ifW_of (fun hc => ?_) (fun hc => ?_)))
  · simp at hc
    rw [ptext, if_neg hc]
    simp only [B_nil, decide_true, ifW_true]
    exact S_alive rfl
  · simp at hc
    rw [ptext, if_pos hc]
    have hl := ptx_len hc
    refine C_impl_ReadPrefix hc (catW_B (m := [48]) (by simp; omega) (S_impl_ReadPrefix (by simp; omega) ?_))
    simp only [decide_true, ifW_true]
    refine ifW_of (fun _ => by simp) (fun hr => ?_)
    by_cases he : ∃ q, PV q ∧ ptx q = ptx p ++ [48]
    · obtain ⟨q, hq, e⟩ := he
      have h2 := (ptx_inj hc hq (by decide) e).2
      obtain ⟨p1, p2, _⟩ := hc
      obtain ⟨q1, q2, _⟩ := hq
      have hv := congrArg val h2
      rw [dec_val, val_snoc, dec_val] at hv
      have e48 : (48 : UInt8).toNat = 48 := by decide
      rw [e48] at hv
      by_cases hz : p.xLength.toNat = 0
      · rw [hz] at hv h2
        have : q.xLength.toNat = 0 := by omega
        rw [this] at h2
        rw [dec_small (by decide)] at h2
        simp at h2
      · simp; omega
    · rw [rdP_no he] at hr; simp at hr

theorem S_DrawReadPrefix {code : List UInt8} {κ : ByteArray → Prop} (h : ∀ s : ByteArray, s.size ≤ 1000 → κ s) : L_spec_DrawReadPrefix code κ := by
  unfold L_spec_DrawReadPrefix jnW
  refine S_l20Open (fun b hb => S_l20Prefix ⟨hb, by omega, by omega⟩ (by omega) (by omega) (fun p p' f1 f2 => S_spec_PrefixText ?_))
  have hl := ptext_len p
  refine S_odd ⟨hb, by omega, by omega⟩ (by omega) (fun c p1 g1 g2 => ifW_of (fun hc => ?_) (fun hc => h _ (by rw [B_size]; omega)))
  refine catW_B (m := [48]) (by simp; omega) (catW_B (l := [48]) (by simp; omega) (S_pick ⟨hb, by omega, by omega⟩ (fun v v1 v2 => idxW_any (by omega) (by simp; omega) (fun x hx => h x ?_))))
  simp only [List.mem_cons, List.not_mem_nil, or_false] at hx
  rcases hx with rfl | rfl | rfl | rfl | rfl | rfl | rfl | rfl | rfl | rfl
  · rw [B_size]; simp; omega
  · rw [B_size]; simp; omega
  all_goals decide

theorem pureFnReadPrefix (code : List UInt8) : L_laws_FnReadPrefix code (fun r => r = true) := by
  unfold L_laws_FnReadPrefix jnW
  refine ifW_of (fun _ => rfl) (fun hc => ?_)
  refine S_DrawReadPrefix (fun s hs => ?_)
  rw [← B_eta s] at hs ⊢
  generalize s.data.toList = l at *
  rw [B_size] at hs
  by_cases he : ∃ q, PV q ∧ ptx q = l
  · obtain ⟨q, hq, rfl, e⟩ := rdP_ok he
    refine C_impl_ReadPrefix hq (C_spec_ReadPrefix hq ?_)
    simp only [decide_true, ifW_true, Bool.not_true, ifW_false]
    refine S_impl_PrefixText ?_
    rw [ptext, if_pos hq]; simp
  · refine T_impl_ReadPrefix (by omega) (T_spec_ReadPrefix (by omega) ?_ (fun q hq e => absurd ⟨q, hq, e⟩ he)) (fun q hq e => absurd ⟨q, hq, e⟩ he)
    simp only [decide_true, ifW_true, Bool.not_true, Bool.not_false, ifW_false]
    exact S_alive (by simp)
end Go.Proofs.YtnogaeckmiekdaaDoor
