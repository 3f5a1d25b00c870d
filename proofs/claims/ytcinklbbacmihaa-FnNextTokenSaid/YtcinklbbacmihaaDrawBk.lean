/- The drawn buckets. -/
import Derived.Test.YtcinklbbacmihaaDraw2
set_option linter.unusedSimpArgs false
set_option linter.unusedVariables false
namespace Go.Proofs.Ytcinklbbacmihaa
open Go.RowKit

/-- the number is far from the limits of int -/
def Mid (x : Int) : Prop := -2000000 ≤ x ∧ x ≤ 2000000

theorem mid2 {a b : Int} {i : Nat} (ha : Mid a) (hb : Mid b) : Mid (sel [a, b] i) :=
  sel_all (by unfold Mid; omega) (by simpa using ⟨ha, hb⟩)

/-- what a drawing function does to the world: the reader goes on, new memory is made, nothing else -/
def Drew (w : World) (R : Nat) (p : Int) (k : Int) (w' : World) : Prop := ∃ q, p ≤ q ∧ q ≤ p + k ∧ DrewTo w R q w'

theorem Drew.ext {w w' : World} {R : Nat} {p k : Int} (h : Drew w R p k w') : ∃ q os d, p ≤ q ∧ q ≤ p + k ∧ w' = ext (w.setCell ⟨R, 1, none⟩ (.int .i64 q)) os d := by
  obtain ⟨q, h1, h2, hb⟩ := h
  obtain ⟨os, d, he⟩ := ext_of (w := w.setCell ⟨R, 1, none⟩ (.int .i64 q)) (by unfold DrewTo at hb; simpa using hb)
  exact ⟨q, os, d, h1, h2, he⟩

set_option maxHeartbeats 3200000 in
theorem l20Bucket_any (w : World) (R : Nat) (a : Option Addr) (len cap : Nat) (f : Nat → Int) (p n : Int) (h : RdAt w R a len cap f p) (hp : p ≤ 900000) (hn : 1 ≤ n) (hn2 : n ≤ 1000000) :
    Calls Try.prog 40 #[.pointer (some ⟨R, 0, none⟩), .int .i64 n] w fun e w' =>
      ∃ s ev t l, e = .returned (.agg #[.int .i64 (s), .int .i64 (ev), .int .i64 (t), .int .i64 (l)]) ∧ (Mid s ∧ Mid ev ∧ Mid t ∧ Mid l) ∧ Drew w R p 8 w' := by
  have hR := h.lt; have hp0 := h.hp; have hR1 : R < w.heap.size + 1 := (by omega); have hR2 : R < w.heap.size + 1 + 1 := (by omega); have hR3 : R < w.heap.size + 1 + 1 + 1 := (by omega); have hR4 : R < w.heap.size + 1 + 1 + 1 + 1 := (by omega); have hR5 : R < w.heap.size + 1 + 1 + 1 + 1 + 1 := (by omega); have hR6 : R < w.heap.size + 1 + 1 + 1 + 1 + 1 + 1 := (by omega); have hR7 : R < w.heap.size + 1 + 1 + 1 + 1 + 1 + 1 + 1 := (by omega); have hR8 : R < w.heap.size + 1 + 1 + 1 + 1 + 1 + 1 + 1 + 1 := (by omega)
  go_enter Try.func40, Try.ntmps40
  go_wp2_with (first | (go_at_call 47; refine (pick_lt _ R a len cap f _ _ (by repeat (first | assumption | with_reducible apply RdAt.ext | with_reducible apply RdAt.alloc | with_reducible apply RdAt.drew | (with_reducible apply RdAt.set; (focus omega)))) ?_ ?_).mono ?_; omega; omega; rintro e w1 ⟨v, d, rfl, hv0, hv1, rfl⟩) | (go_at_call 48; refine (odd_any _ R a len cap f _ _ (by repeat (first | assumption | with_reducible apply RdAt.ext | with_reducible apply RdAt.alloc | with_reducible apply RdAt.drew | (with_reducible apply RdAt.set; (focus omega)))) ?_ ?_ ?_).mono ?_; omega; omega; omega; rintro e w1 ⟨ob, d, rfl, rfl⟩))
  all_goals (try (go_region_with (go_at_call 47; refine (pick_lt _ R a len cap f _ _ (by repeat (first | assumption | with_reducible apply RdAt.ext | with_reducible apply RdAt.alloc | with_reducible apply RdAt.drew | (with_reducible apply RdAt.set; (focus omega)))) ?_ ?_).mono ?_; omega; omega; rintro e w1 ⟨v, d, rfl, hv0, hv1, rfl⟩); all_goals go_wp2))
  all_goals refine bodyPost_ret_by (by simp [results, Try.results40, go_sem]; exact ⟨rfl, rfl, rfl, rfl⟩) rfl ⟨_, _, _, _, rfl, ⟨?_, ?_, ?_, ?_⟩, _, ?_, ?_, (by repeat (first | exact Below.refl _ _ | (refine below_ext (by first | omega | (repeat (first | exact Nat.le_refl _ | refine le_ext ?_ | refine le_alloc _ ?_ | refine le_set _ _ ?_ | refine Nat.le_add_right_of_le ?_))) ?_) | (refine below_alloc _ (by first | omega | (repeat (first | exact Nat.le_refl _ | refine le_ext ?_ | refine le_alloc _ ?_ | refine le_set _ _ ?_ | refine Nat.le_add_right_of_le ?_))) ?_) | (refine below_setCell _ _ _ (by first | omega | (repeat (first | exact Nat.le_refl _ | refine le_ext ?_ | refine le_alloc _ ?_ | refine le_set _ _ ?_ | refine Nat.le_add_right_of_le ?_))) ?_) | refine Below.drew ?_ | (apply below_after; assumption; exact (by first | omega | (repeat (first | exact Nat.le_refl _ | refine le_ext ?_ | refine le_alloc _ ?_ | refine le_set _ _ ?_ | refine Nat.le_add_right_of_le ?_))))))⟩
  all_goals first | omega | (unfold Mid; omega) | (refine mid2 ?_ ?_ <;> (unfold Mid; omega))
end Go.Proofs.Ytcinklbbacmihaa
