/- The draws of the references' generator, on their pure forms: by their bounds alone. -/
import Derived.Test.YtnogaeckmiekdaaDoorG3Pure
import Derived.Test.YtnogaeckmiekdaaDoorPlib
set_option linter.unusedSimpArgs false
set_option linter.unusedVariables false
namespace Go.Proofs.YtnogaeckmiekdaaDoor

theorem u8_lt (e : UInt8) : (0 : Int) ≤ (e.toNat : Int) ∧ (e.toNat : Int) ≤ 255 := by
  have := e.toNat_lt
  omega
theorem xorW_of {x y : Int} {κ : Int → Prop} (h1 : 0 ≤ x) (h2 : x < 4611686018427387904) (h3 : 0 ≤ y) (h4 : y < 4611686018427387904) (h : ∀ z, 0 ≤ z → z < 4611686018427387904 → κ z) : xorW x y κ := by
  refine ⟨h1, h2, h3, h4, h _ (by omega) ?_⟩
  have : x.toNat ^^^ y.toNat < 2 ^ 62 := Nat.xor_lt_two_pow (by omega) (by omega)
  have e : (2 : Nat) ^ 62 = 4611686018427387904 := by decide
  rw [e] at this
  omega
theorem remW_lt {x y : Int} {κ : Int → Prop} (h1 : 0 ≤ x) (h2 : x ≤ 9223372036854775807) (h3 : 0 < y) (h : ∀ z, 0 ≤ z → z < y → κ z) : remW x y κ :=
  remW_of h1 h2 h3 (h _ (Int.emod_nonneg _ (by omega)) (Int.emod_lt_of_pos _ h3))
theorem quoW_le {x y : Int} {κ : Int → Prop} (h1 : 0 ≤ x) (h2 : x ≤ 9223372036854775807) (h3 : 0 < y) (h : ∀ z, 0 ≤ z → z ≤ x → κ z) : quoW x y κ :=
  quoW_of h1 h2 h3 (h _ (Int.ediv_nonneg h1 (by omega)) (Int.ediv_le_self _ h1))
theorem idxW_any {α : Type} {xs : List α} {i : Int} {κ : α → Prop} (h1 : 0 ≤ i) (h2 : i < xs.length) (h : ∀ x, x ∈ xs → κ x) : idxW xs i κ := by
  obtain ⟨n, rfl⟩ := Int.eq_ofNat_of_zero_le h1
  have hn : n < xs.length := by omega
  exact idxW_of n rfl hn (h _ (List.getElem_mem hn))

/-- the reader stands at p of the bytes b -/
def RdP (b : List UInt8) (p : Int) : Prop := b.length ≤ 2000 ∧ 0 ≤ p ∧ p ≤ 1000000

theorem S_pick {b : List UInt8} {p n : Int} (hr : RdP b p) {κ : Int × Int → Prop} (h : ∀ v, 0 ≤ v → (v = 0 ∨ v < n) → κ (v, p + 1)) : L_spec_l20Rd_pick b p n κ := by
  obtain ⟨hb, h0, h1⟩ := hr
  unfold L_spec_l20Rd_pick jnW
  have hz : κ (0, p + 1) := h 0 (Int.le_refl _) (.inl rfl)
  refine addW_of (by omega) (by omega) (ifW_of (fun hc => ?_) (fun hc => ifW_of (fun hc2 => ?_) (fun hc2 => ?_)))
  · simp only [ifW_true]; exact hz
  · exact hz
  · simp at hc hc2
    have hpos : 0 < (b.length : Int) := by
      cases b with
      | nil => simp at hc2
      | cons x l => simp
    refine subW_of (by omega) (by omega) ?_
    have ep : p + 1 - 1 = p := by omega
    rw [ep]
    refine ifW_of (fun hc3 => ?_) (fun hc3 => ?_)
    · simp at hc3
      refine idxW_any h0 hc3 (fun e _ => ?_)
      have := u8_lt e
      exact remW_lt (by omega) (by omega) (by omega) (fun z z1 z2 => h z z1 (.inr z2))
    · refine remW_lt h0 (by omega) hpos (fun z z1 z2 => idxW_any z1 z2 (fun e _ => ?_))
      have he := u8_lt e
      refine mulW_of (by omega) (by omega) (mulW_of (by omega) (by omega) (addW_of (by omega) (by omega) (remW_lt (by omega) (by omega) hpos (fun y y1 y2 => idxW_any y1 y2 (fun d _ => ?_)))))
      have hd := u8_lt d
      refine mulW_of (by omega) (by omega) (addW_of (by omega) (by omega) (mulW_of (by omega) (by omega) (addW_of (by omega) (by omega) (quoW_le (by omega) (by omega) hpos (fun q q1 q2 => ?_)))))
      refine mulW_of (by omega) (by omega) (addW_of (by omega) (by omega) (quoW_le (by omega) (by omega) (by omega) (fun r r1 r2 => ?_)))
      exact xorW_of (by omega) (by omega) (by omega) (by omega) (fun x x1 x2 => remW_lt x1 (by omega) (by omega) (fun z z1 z2 => h z z1 (.inr z2)))
theorem S_odd {b : List UInt8} {p n : Int} (hr : RdP b p) (hn : n ≤ 4294967296) {κ : Bool × Int → Prop} (h : ∀ c p', p ≤ p' → p' ≤ p + 1 → κ (c, p')) : L_spec_l20Rd_odd b p n κ := by
  unfold L_spec_l20Rd_odd jnW
  refine ifW_of (fun hc => S_pick hr (fun v v1 v2 => subW_of (by simp at hc; omega) (by simp at hc; omega) (h _ _ (by omega) (by omega)))) (fun hc => h _ _ (by omega) (by omega))

theorem S_l20Open {c : List UInt8} {κ : List UInt8 × Int → Prop} (h : ∀ b, b.length ≤ 2000 → κ (b, 0)) : L_spec_l20Open c κ := by
  unfold L_spec_l20Open jnW
  refine ifW_of (fun hc => ?_) (fun hc => ?_)
  · simp at hc
    refine ⟨by omega, by omega, by omega, h _ (by simp; omega)⟩
  · simp at hc
    exact h _ (by omega)
theorem S_alive {κ : Bool → Prop} (h : κ true) : L_laws_alive κ := by
  unfold L_laws_alive L_impl_SpansHave
  refine loopW_inv (fun s => s = 0) (fun s => 0) ?_ rfl
  rintro s next rfl hn
  refine ifW_of (fun _ => idxW_of 0 rfl (by simp) ?_) (fun hc => by simp at hc)
  simp [jnW]
  exact h
end Go.Proofs.YtnogaeckmiekdaaDoor
