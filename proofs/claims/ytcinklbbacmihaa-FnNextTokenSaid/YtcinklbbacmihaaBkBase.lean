/- Walks of the bucket functions of the packet filter, each once. -/
import Derived.Test.YtcinklbbacmihaaRows
import Derived.Test.YtcinklbbacmihaaLib
set_option linter.unusedSimpArgs false
set_option linter.unusedVariables false
namespace Go.Proofs.Ytcinklbbacmihaa
open Go.RowKit

/-- the bucket is valid -/
def bv (s e t l : Int) : Bool := decide (1 ≤ s ∧ s ≤ 100 ∧ 1 ≤ e ∧ e ≤ 1000 ∧ 0 ≤ t ∧ t ≤ s ∧ 0 ≤ l ∧ l ≤ 1000000)

theorem specBV (s e t l : Int) (w : World) : Calls Try.prog 14 #[.agg #[.int .i64 s, .int .i64 e, .int .i64 t, .int .i64 l]] w fun en w' =>
    en = .returned (.bool (bv s e t l)) ∧ Below w.heap.size w w' := by
  go_enter Try.func14, Try.ntmps14
  go_wp2
  all_goals (go_ret; exact ⟨rd (by simp only [decide_eq_true_eq, eq_self, Bool.false_eq_true, true_iff, false_iff]; omega), (Below.refl _ _).alloc (Nat.le_refl _) _⟩)

theorem implBV (s e t l : Int) (w : World) : Calls Try.prog 16 #[.agg #[.int .i64 s, .int .i64 e, .int .i64 t, .int .i64 l]] w fun en w' =>
    en = .returned (.bool (bv s e t l)) ∧ Below w.heap.size w w' := by
  go_enter Try.func16, Try.ntmps16
  go_wp2
  all_goals (go_ret; exact ⟨rd (by simp only [decide_eq_true_eq, eq_self, Bool.false_eq_true, true_iff, false_iff]; omega), (Below.refl _ _).alloc (Nat.le_refl _) _⟩)

end Go.Proofs.Ytcinklbbacmihaa
