/- Walks of the bucket functions: BucketAt and what it calls. -/
import Derived.Test.YtcinklbbacmihaaBkBase
set_option linter.unusedSimpArgs false
set_option linter.unusedVariables false
namespace Go.Proofs.Ytcinklbbacmihaa
open Go.RowKit

def atT (s e t l now : Int) : Int := if s ≤ t + (now - l) / e then s else t + (now - l) / e
def atL (s e t l now : Int) : Int := if s ≤ t + (now - l) / e then now else l + (now - l) / e * e

theorem bv_iff {s e t l : Int} : bv s e t l = true ↔ (1 ≤ s ∧ s ≤ 100 ∧ 1 ≤ e ∧ e ≤ 1000 ∧ 0 ≤ t ∧ t ≤ s ∧ 0 ≤ l ∧ l ≤ 1000000) := by
  unfold bv; simp only [decide_eq_true_eq]

theorem mul_bd (a b : Int) (h1 : 0 ≤ a) (h2 : a ≤ 100) (h3 : 1 ≤ b) (h4 : b ≤ 1000) : 0 ≤ a * b ∧ a * b ≤ 100000 :=
  ⟨Int.mul_nonneg h1 (by omega), by have := Int.mul_le_mul h2 h4 (by omega) (by omega); omega⟩

theorem div_bd (x e : Int) (h1 : 0 ≤ x) (h3 : 1 ≤ e) : 0 ≤ x / e ∧ x / e ≤ x ∧ 0 ≤ x / e * e ∧ x / e * e ≤ x := by
  have a := Int.ediv_nonneg h1 (show 0 ≤ e by omega)
  have b : x / e ≤ x := Int.ediv_le_self e h1
  have c := Int.ediv_mul_le x (show e ≠ 0 by omega)
  exact ⟨a, b, Int.mul_nonneg a (by omega), c⟩

theorem full_iff (s e t l now : Int) (h3 : 1 ≤ e) : (s ≤ t + (now - l) / e) ↔ (l + (s - t) * e ≤ now) := by
  have : (s - t ≤ (now - l) / e) ↔ ((s - t) * e ≤ now - l) := Int.le_ediv_iff_mul_le (by omega)
  omega

set_option maxHeartbeats 400000 in
theorem fullAt_any (s e t l : Int) (w : World) (h : bv s e t l = true) : Calls Try.prog 49 #[.agg #[.int .i64 s, .int .i64 e, .int .i64 t, .int .i64 l]] w fun en w' =>
    en = .returned (.int .i64 (l + (s - t) * e)) ∧ Below w.heap.size w w' := by
  obtain ⟨h1, h2, h3, h4, h5, h6, h7, h8⟩ := bv_iff.1 h
  obtain ⟨m1, m2⟩ := mul_bd (s - t) e (by omega) (by omega) h3 h4
  clear h
  go_enter Try.func49, Try.ntmps49
  go_wp2
  go_ret
  exact ⟨rfl, (Below.refl _ _).alloc (Nat.le_refl _) _⟩

set_option maxHeartbeats 400000 in
theorem implAt_any (s e t l now : Int) (w : World) (h : bv s e t l = true) (hn : l ≤ now) (hn2 : now ≤ 2000000) : Calls Try.prog 44 #[.agg #[.int .i64 s, .int .i64 e, .int .i64 t, .int .i64 l], .int .i64 now] w fun en w' =>
    en = .returned (.agg #[.int .i64 s, .int .i64 e, .int .i64 (atT s e t l now), .int .i64 (atL s e t l now)]) ∧ Below w.heap.size w w' := by
  obtain ⟨h1, h2, h3, h4, h5, h6, h7, h8⟩ := bv_iff.1 h
  obtain ⟨m1, m2⟩ := mul_bd (s - t) e (by omega) (by omega) h3 h4
  obtain ⟨d1, d2, d3, d4⟩ := div_bd (now - l) e (by omega) h3
  have hf := full_iff s e t l now h3
  clear h
  by_cases hc : l + (s - t) * e ≤ now
  · have HT : Hid (atT s e t l now = s) := if_pos (hf.2 hc)
    have HL : Hid (atL s e t l now = now) := if_pos (hf.2 hc)
    clear hf
    go_enter Try.func44, Try.ntmps44
    go_wp2
    rw [HT.out, HL.out]
    refine bodyPost_ret (v := .agg #[.int .i64 s, .int .i64 e, .int .i64 s, .int .i64 now]) (by simp [results, Try.results44, go_sem]) rfl ⟨rfl, (by repeat (first | exact Below.refl _ _ | (refine below_ext (by first | omega | (repeat (first | exact Nat.le_refl _ | refine le_ext ?_ | refine le_alloc _ ?_ | refine le_set _ _ ?_ | refine Nat.le_add_right_of_le ?_))) ?_) | (refine below_alloc _ (by first | omega | (repeat (first | exact Nat.le_refl _ | refine le_ext ?_ | refine le_alloc _ ?_ | refine le_set _ _ ?_ | refine Nat.le_add_right_of_le ?_))) ?_) | (refine below_setCell _ _ _ (by first | omega | (repeat (first | exact Nat.le_refl _ | refine le_ext ?_ | refine le_alloc _ ?_ | refine le_set _ _ ?_ | refine Nat.le_add_right_of_le ?_))) ?_) | refine Below.drew ?_ | (apply below_after; assumption; exact (by first | omega | (repeat (first | exact Nat.le_refl _ | refine le_ext ?_ | refine le_alloc _ ?_ | refine le_set _ _ ?_ | refine Nat.le_add_right_of_le ?_))))))⟩
  · have HT : Hid (atT s e t l now = t + (now - l) / e) := if_neg (fun x => hc (hf.1 x))
    have HL : Hid (atL s e t l now = l + (now - l) / e * e) := if_neg (fun x => hc (hf.1 x))
    clear hf
    go_enter Try.func44, Try.ntmps44
    go_wp2
    rw [HT.out, HL.out]
    refine bodyPost_ret (v := .agg #[.int .i64 s, .int .i64 e, .int .i64 (t + (now - l) / e), .int .i64 (l + (now - l) / e * e)]) (by simp [results, Try.results44, go_sem]) rfl ⟨rfl, (by repeat (first | exact Below.refl _ _ | (refine below_ext (by first | omega | (repeat (first | exact Nat.le_refl _ | refine le_ext ?_ | refine le_alloc _ ?_ | refine le_set _ _ ?_ | refine Nat.le_add_right_of_le ?_))) ?_) | (refine below_alloc _ (by first | omega | (repeat (first | exact Nat.le_refl _ | refine le_ext ?_ | refine le_alloc _ ?_ | refine le_set _ _ ?_ | refine Nat.le_add_right_of_le ?_))) ?_) | (refine below_setCell _ _ _ (by first | omega | (repeat (first | exact Nat.le_refl _ | refine le_ext ?_ | refine le_alloc _ ?_ | refine le_set _ _ ?_ | refine Nat.le_add_right_of_le ?_))) ?_) | refine Below.drew ?_ | (apply below_after; assumption; exact (by first | omega | (repeat (first | exact Nat.le_refl _ | refine le_ext ?_ | refine le_alloc _ ?_ | refine le_set _ _ ?_ | refine Nat.le_add_right_of_le ?_))))))⟩

/-- the bucket is valid and can be looked at -/
def cl (s e t l now : Int) : Bool := bv s e t l && decide (l ≤ now) && decide (now ≤ 1000000)
theorem cl_iff {s e t l now : Int} : cl s e t l now = true ↔ (bv s e t l = true ∧ l ≤ now ∧ now ≤ 1000000) := by
  unfold cl; simp only [Bool.and_eq_true, decide_eq_true_eq, and_assoc]

theorem canLook_any (s e t l now : Int) (w : World) : Calls Try.prog 43 #[.agg #[.int .i64 s, .int .i64 e, .int .i64 t, .int .i64 l], .int .i64 now] w fun en w' =>
    en = .returned (.bool (cl s e t l now)) ∧ Below w.heap.size w w' := by
  by_cases h : bv s e t l = true
  · have hcl : Hid (cl s e t l now = (decide (l ≤ now) && decide (now ≤ 1000000))) := by unfold cl; rw [h]; exact congrArg (· && _) (Bool.true_and _)
    go_enter Try.func43, Try.ntmps43
    go_wp2_with (go_at_call 16; refine (implBV _ _ _ _ _).mono ?_; rintro e w1 ⟨rfl, hb⟩; obtain ⟨hc, hf⟩ := bcell hb; have hz := hb.size; simp at hz)
    all_goals (go_ret; exact ⟨by rw [hcl.out]; first | rfl | (simp [*] <;> omega), (by repeat (first | exact Below.refl _ _ | (refine below_ext (by first | omega | (repeat (first | exact Nat.le_refl _ | refine le_ext ?_ | refine le_alloc _ ?_ | refine le_set _ _ ?_ | refine Nat.le_add_right_of_le ?_))) ?_) | (refine below_alloc _ (by first | omega | (repeat (first | exact Nat.le_refl _ | refine le_ext ?_ | refine le_alloc _ ?_ | refine le_set _ _ ?_ | refine Nat.le_add_right_of_le ?_))) ?_) | (refine below_setCell _ _ _ (by first | omega | (repeat (first | exact Nat.le_refl _ | refine le_ext ?_ | refine le_alloc _ ?_ | refine le_set _ _ ?_ | refine Nat.le_add_right_of_le ?_))) ?_) | refine Below.drew ?_ | (apply below_after; assumption; exact (by first | omega | (repeat (first | exact Nat.le_refl _ | refine le_ext ?_ | refine le_alloc _ ?_ | refine le_set _ _ ?_ | refine Nat.le_add_right_of_le ?_))))))⟩)
  · simp only [Bool.not_eq_true] at h
    have hcl : Hid (cl s e t l now = false) := by unfold cl; rw [h]; rfl
    go_enter Try.func43, Try.ntmps43
    go_wp2_with (go_at_call 16; refine (implBV _ _ _ _ _).mono ?_; rintro e w1 ⟨rfl, hb⟩; obtain ⟨hc, hf⟩ := bcell hb; have hz := hb.size; simp at hz)
    all_goals (go_ret; exact ⟨by rw [hcl.out]; rfl, (by repeat (first | exact Below.refl _ _ | (refine below_ext (by first | omega | (repeat (first | exact Nat.le_refl _ | refine le_ext ?_ | refine le_alloc _ ?_ | refine le_set _ _ ?_ | refine Nat.le_add_right_of_le ?_))) ?_) | (refine below_alloc _ (by first | omega | (repeat (first | exact Nat.le_refl _ | refine le_ext ?_ | refine le_alloc _ ?_ | refine le_set _ _ ?_ | refine Nat.le_add_right_of_le ?_))) ?_) | (refine below_setCell _ _ _ (by first | omega | (repeat (first | exact Nat.le_refl _ | refine le_ext ?_ | refine le_alloc _ ?_ | refine le_set _ _ ?_ | refine Nat.le_add_right_of_le ?_))) ?_) | refine Below.drew ?_ | (apply below_after; assumption; exact (by first | omega | (repeat (first | exact Nat.le_refl _ | refine le_ext ?_ | refine le_alloc _ ?_ | refine le_set _ _ ?_ | refine Nat.le_add_right_of_le ?_))))))⟩)
end Go.Proofs.Ytcinklbbacmihaa
