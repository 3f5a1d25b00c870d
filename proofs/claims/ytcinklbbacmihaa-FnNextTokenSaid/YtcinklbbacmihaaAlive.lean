/- The laws' fixed answer; the opening of a code; a slice of bytes that came in. -/
import Derived.Test.YtcinklbbacmihaaDraw2
import Derived.LoopN
import Derived.Below
import Derived.ChangeSlices
set_option linter.unusedSimpArgs false
set_option linter.unusedVariables false
namespace Go.Proofs.Ytcinklbbacmihaa
open Go.RowKit

set_option maxHeartbeats 800000 in
theorem alive_any (w : World) : Calls Try.prog 18 #[] w fun e w' => e = .returned (.bool true) ∧ Below w.heap.size w w' := by
  go_enter Try.func18, Try.ntmps18
  go_wp2_with (go_at_call 42; go_in)
  refine wp_loop_rounds 1 ?_
  rw [rounds_succ]
  go_wp2
  go_ret
  exact ⟨rfl, (by repeat (first | exact Below.refl _ _ | (refine below_ext (by first | omega | (repeat (first | exact Nat.le_refl _ | refine le_ext ?_ | refine le_alloc _ ?_ | refine le_set _ _ ?_ | refine Nat.le_add_right_of_le ?_))) ?_) | (refine below_alloc _ (by first | omega | (repeat (first | exact Nat.le_refl _ | refine le_ext ?_ | refine le_alloc _ ?_ | refine le_set _ _ ?_ | refine Nat.le_add_right_of_le ?_))) ?_) | (refine below_setCell _ _ _ (by first | omega | (repeat (first | exact Nat.le_refl _ | refine le_ext ?_ | refine le_alloc _ ?_ | refine le_set _ _ ?_ | refine Nat.le_add_right_of_le ?_))) ?_) | refine Below.drew ?_ | (apply below_after; assumption; exact (by first | omega | (repeat (first | exact Nat.le_refl _ | refine le_ext ?_ | refine le_alloc _ ?_ | refine le_set _ _ ?_ | refine Nat.le_add_right_of_le ?_))))))⟩

/-- what a slice of bytes that came in reads as -/
structure CodeAt (w : World) (a : Option Addr) (len cap : Nat) (f : Nat → Int) : Prop where
  row : len = 0 ∨ ∃ b off, a = some ⟨b, off, none⟩ ∧ b < w.heap.size ∧ ∀ j, j < len → w.cell? ⟨b, off + j, none⟩ = some (.int .u8 (f j))
  bd : ∀ j, 0 ≤ f j ∧ f j ≤ 255
  lc : len ≤ cap
  mx : cap ≤ 9223372036854775807
theorem CodeAt.below {w w' : World} {a : Option Addr} {len cap : Nat} {f : Nat → Int} (h : CodeAt w a len cap f) (hb : Below w.heap.size w w') : CodeAt w' a len cap f := by
  obtain ⟨row, bd, lc, mx⟩ := h
  obtain ⟨hc, hf⟩ := bcell hb
  refine ⟨?_, bd, lc, mx⟩
  rcases row with hr | ⟨b, off, rfl, hbl, hcc⟩
  · exact Or.inl hr
  · exact Or.inr ⟨b, off, rfl, Nat.lt_of_lt_of_le hbl hb.size, fun j hj => by rw [hc _ _ hbl]; exact hcc j hj⟩

theorem code_nil (w : World) : CodeAt w none 0 0 (fun _ => 0) := ⟨Or.inl rfl, fun _ => by omega, by omega, by omega⟩
theorem code_row {w : World} {x : Addr} {len cap : Nat} {zs : List Int} (hl : len ≤ cap) (hm : cap ≤ maxLen) (hz : zs.length = cap) (hcell : ∀ i, i < zs.length → w.cell? (x.add i) = some (.int .u8 (zs.getD i 0)))
    (hwz : ∀ n ∈ zs, (Lit.int .u8 n).wf = true) : CodeAt w (some x) len cap (fun i => zs.getD i 0) := by
  refine ⟨?_, fun j => ?_, hl, by unfold maxLen at hm; omega⟩
  · by_cases h0 : len = 0
    · exact Or.inl h0
    · right
      obtain ⟨b, off, spot⟩ := x
      have hc := hcell 0 (by omega)
      have hspot : spot = none := by simpa [Addr.add] using World.cell?_spot hc
      subst hspot
      refine ⟨b, off, rfl, World.block_lt_of_cell? _ _ (show w.cell? ⟨b, off, none⟩ = _ by simpa [Addr.add] using hc), fun j hj => ?_⟩
      have := hcell j (by omega)
      by_cases hj0 : j = 0
      · subst hj0; simpa [Addr.add] using this
      · simpa [Addr.add, hj0] using this
  · rw [List.getD_eq_getElem?_getD]
    cases hx : zs[j]? with
    | none => exact ⟨by simp, by simp⟩
    | some n =>
      have := hwz n (List.mem_of_getElem? hx)
      simpa [Lit.wf, IntKind.min, IntKind.max, IntKind.signed, IntKind.bits] using this

theorem RdAt.open {w : World} {a : Option Addr} {len cap : Nat} {f : Nat → Int} (h : CodeAt w a len cap f) (n : Nat) (hn : n ≤ len) (hn2 : n ≤ 2000) (T : TypeId) :
    RdAt (w.alloc (.cells #[.slice a n cap, .int .i64 0] T)) w.heap.size a n cap f 0 := by
  obtain ⟨row, bd, lc, mx⟩ := h
  refine ⟨by simp, by simp, by simp, by simp, hn2, by omega, ?_, bd⟩
  rcases row with hr | ⟨b, off, rfl, hbl, hcc⟩
  · exact Or.inl (by omega)
  · refine Or.inr ⟨b, off, rfl, by simp; omega, by omega, fun j hj => ?_⟩
    rw [World.cell?_alloc_past _ b _ hbl]
    exact hcc j (by omega)

theorem RdAt.opened {w W : World} {a : Option Addr} {len cap : Nat} {f : Nat → Int} {n R : Nat} {T : TypeId} (h : CodeAt w a len cap f) (hn : n ≤ len) (hn2 : n ≤ 2000) (hR : R = W.heap.size) (hb : Below w.heap.size w W) :
    RdAt (W.alloc (.cells #[.slice a n cap, .int .i64 0] T)) R a n cap f 0 := by
  subst hR
  exact RdAt.open (h.below hb) n hn hn2 T

set_option maxHeartbeats 800000 in
theorem l20Open_any (w : World) (a : Option Addr) (len cap : Nat) (f : Nat → Int) (h : CodeAt w a len cap f) :
    Calls Try.prog 41 #[.slice a len cap] w fun e w' =>
      ∃ n, n ≤ len ∧ n ≤ 2000 ∧ e = .returned (.pointer (some ⟨w.heap.size, 0, none⟩)) ∧ w' = w.alloc (.cells #[.slice a n cap, .int .i64 0] 66) := by
  obtain ⟨row, bd, lc, mx⟩ := h
  by_cases hl : len ≤ 2000
  · clear row bd
    go_enter Try.func41, Try.ntmps41
    go_wp2
    go_ret
    exact ⟨len, by omega, hl, rfl, rfl⟩
  · rcases row with hr | ⟨b, off, rfl, hbl, hcc⟩
    · omega
    clear bd hcc
    go_enter Try.func41, Try.ntmps41
    go_wp2
    go_ret
    exact ⟨2000, by omega, by omega, rfl, rfl⟩
end Go.Proofs.Ytcinklbbacmihaa
