/- Walks of the reference's bucket functions. -/
import Derived.Test.YtcinklbbacmihaaBkTok
set_option linter.unusedSimpArgs false
set_option linter.unusedVariables false
namespace Go.Proofs.Ytcinklbbacmihaa
open Go.RowKit

theorem l1In_yes (n lo hi : Int) (w : World) (h1 : lo ≤ n) (h2 : n ≤ hi) : Calls Try.prog 38 #[.int .i64 n, .int .i64 lo, .int .i64 hi] w fun e w' =>
    e = .returned (.bool true) ∧ w = w' := by
  go_enter Try.func38, Try.ntmps38
  go_wp2
  all_goals (go_ret; exact ⟨by simp [*], rfl⟩)

theorem l1In_no (n lo hi : Int) (w : World) (h : n < lo ∨ hi < n) : Calls Try.prog 38 #[.int .i64 n, .int .i64 lo, .int .i64 hi] w fun e w' =>
    e = .returned (.bool false) ∧ w = w' := by
  by_cases h1 : n < lo
  · clear h
    go_enter Try.func38, Try.ntmps38
    go_wp2
    all_goals (go_ret; exact ⟨by simp [*], rfl⟩)
  · have h2 : hi < n := by omega
    clear h
    go_enter Try.func38, Try.ntmps38
    go_wp2
    all_goals (go_ret; exact ⟨by simp [*], rfl⟩)

theorem cl_no {s e t l now : Int} (h : cl s e t l now = false) : bv s e t l = false ∨ (bv s e t l = true ∧ (now < l ∨ (l ≤ now ∧ 1000000 < now))) := by
  cases hb : bv s e t l
  · exact Or.inl rfl
  · refine Or.inr ⟨rfl, ?_⟩
    have : ¬ (bv s e t l = true ∧ l ≤ now ∧ now ≤ 1000000) := fun k => by rw [cl_iff.2 k] at h; exact absurd h (by decide)
    rw [hb] at this
    by_cases h1 : now < l
    · exact Or.inl h1
    · right
      refine ⟨by omega, ?_⟩
      by_cases h2 : now ≤ 1000000
      · exact absurd ⟨rfl, by omega, h2⟩ this
      · omega

set_option maxHeartbeats 400000 in
theorem specBA_yes (s e t l now : Int) (w : World) (h : cl s e t l now = true) : Calls Try.prog 21 #[.agg #[.int .i64 s, .int .i64 e, .int .i64 t, .int .i64 l], .int .i64 now] w fun en w' =>
    en = .returned (.agg #[.int .i64 (s), .int .i64 (e), .int .i64 (atT s e t l now), .int .i64 (atL s e t l now)]) ∧ Below w.heap.size w w' := by
  obtain ⟨hbv, hl, hn⟩ := cl_iff.1 h
  obtain ⟨h1, h2, h3, h4, h5, h6, h7, h8⟩ := bv_iff.1 hbv
  obtain ⟨d1, d2, d3, d4⟩ := div_bd (now - l) e (by omega) h3
  clear h
  by_cases hc : s ≤ t + (now - l) / e
  · have HT : Hid (atT s e t l now = s) := if_pos hc
    have HL : Hid (atL s e t l now = now) := if_pos hc
    go_enter Try.func21, Try.ntmps21
    go_wp2_with (first | (go_at_call 38; refine (l1In_yes _ _ _ _ (by omega) (by omega)).mono ?_; rintro e w1 ⟨rfl, rfl⟩) | (go_at_call 14; refine (specBV _ _ _ _ _).mono ?_; rintro e w1 ⟨rfl, hb⟩; obtain ⟨os, d, rfl⟩ := ext_of hb; clear hb))
    rw [HT.out, HL.out]
    refine bodyPost_ret (v := .agg #[.int .i64 (s), .int .i64 (e), .int .i64 (s), .int .i64 (now)]) (by simp [results, Try.results21, go_sem, *]) rfl ⟨rfl, ?_⟩
    exact (by repeat (first | exact Below.refl _ _ | (refine below_ext (by first | omega | (repeat (first | exact Nat.le_refl _ | refine le_ext ?_ | refine le_alloc _ ?_ | refine le_set _ _ ?_ | refine Nat.le_add_right_of_le ?_))) ?_) | (refine below_alloc _ (by first | omega | (repeat (first | exact Nat.le_refl _ | refine le_ext ?_ | refine le_alloc _ ?_ | refine le_set _ _ ?_ | refine Nat.le_add_right_of_le ?_))) ?_) | (refine below_setCell _ _ _ (by first | omega | (repeat (first | exact Nat.le_refl _ | refine le_ext ?_ | refine le_alloc _ ?_ | refine le_set _ _ ?_ | refine Nat.le_add_right_of_le ?_))) ?_) | refine Below.drew ?_ | (apply below_after; assumption; exact (by first | omega | (repeat (first | exact Nat.le_refl _ | refine le_ext ?_ | refine le_alloc _ ?_ | refine le_set _ _ ?_ | refine Nat.le_add_right_of_le ?_))))))
  · have HT : Hid (atT s e t l now = t + (now - l) / e) := if_neg hc
    have HL : Hid (atL s e t l now = l + (now - l) / e * e) := if_neg hc
    go_enter Try.func21, Try.ntmps21
    go_wp2_with (first | (go_at_call 38; refine (l1In_yes _ _ _ _ (by omega) (by omega)).mono ?_; rintro e w1 ⟨rfl, rfl⟩) | (go_at_call 14; refine (specBV _ _ _ _ _).mono ?_; rintro e w1 ⟨rfl, hb⟩; obtain ⟨os, d, rfl⟩ := ext_of hb; clear hb))
    rw [HT.out, HL.out]
    refine bodyPost_ret (v := .agg #[.int .i64 (s), .int .i64 (e), .int .i64 (t + (now - l) / e), .int .i64 (l + (now - l) / e * e)]) (by simp [results, Try.results21, go_sem, *]) rfl ⟨rfl, ?_⟩
    exact (by repeat (first | exact Below.refl _ _ | (refine below_ext (by first | omega | (repeat (first | exact Nat.le_refl _ | refine le_ext ?_ | refine le_alloc _ ?_ | refine le_set _ _ ?_ | refine Nat.le_add_right_of_le ?_))) ?_) | (refine below_alloc _ (by first | omega | (repeat (first | exact Nat.le_refl _ | refine le_ext ?_ | refine le_alloc _ ?_ | refine le_set _ _ ?_ | refine Nat.le_add_right_of_le ?_))) ?_) | (refine below_setCell _ _ _ (by first | omega | (repeat (first | exact Nat.le_refl _ | refine le_ext ?_ | refine le_alloc _ ?_ | refine le_set _ _ ?_ | refine Nat.le_add_right_of_le ?_))) ?_) | refine Below.drew ?_ | (apply below_after; assumption; exact (by first | omega | (repeat (first | exact Nat.le_refl _ | refine le_ext ?_ | refine le_alloc _ ?_ | refine le_set _ _ ?_ | refine Nat.le_add_right_of_le ?_))))))

theorem specBA_no (s e t l now : Int) (w : World) (h : cl s e t l now = false) : Calls Try.prog 21 #[.agg #[.int .i64 s, .int .i64 e, .int .i64 t, .int .i64 l], .int .i64 now] w fun en w' =>
    en = .returned (.agg #[.int .i64 0, .int .i64 0, .int .i64 0, .int .i64 0]) ∧ Below w.heap.size w w' := by
  rcases cl_no h with hb | ⟨hb, h1 | ⟨h2, h1⟩⟩
  all_goals
    clear h
    go_enter Try.func21, Try.ntmps21
    go_wp2_with (first | (go_at_call 38; refine (l1In_no _ _ _ _ (by omega)).mono ?_; rintro e w1 ⟨rfl, rfl⟩) | (go_at_call 14; refine (specBV _ _ _ _ _).mono ?_; rintro e w1 ⟨rfl, hb⟩; obtain ⟨os, d, rfl⟩ := ext_of hb; clear hb))
    refine bodyPost_ret (v := .agg #[.int .i64 0, .int .i64 0, .int .i64 0, .int .i64 0]) (by simp [results, Try.results21, go_sem, *]) rfl ⟨rfl, ?_⟩
    exact (by repeat (first | exact Below.refl _ _ | (refine below_ext (by first | omega | (repeat (first | exact Nat.le_refl _ | refine le_ext ?_ | refine le_alloc _ ?_ | refine le_set _ _ ?_ | refine Nat.le_add_right_of_le ?_))) ?_) | (refine below_alloc _ (by first | omega | (repeat (first | exact Nat.le_refl _ | refine le_ext ?_ | refine le_alloc _ ?_ | refine le_set _ _ ?_ | refine Nat.le_add_right_of_le ?_))) ?_) | (refine below_setCell _ _ _ (by first | omega | (repeat (first | exact Nat.le_refl _ | refine le_ext ?_ | refine le_alloc _ ?_ | refine le_set _ _ ?_ | refine Nat.le_add_right_of_le ?_))) ?_) | refine Below.drew ?_ | (apply below_after; assumption; exact (by first | omega | (repeat (first | exact Nat.le_refl _ | refine le_ext ?_ | refine le_alloc _ ?_ | refine le_set _ _ ?_ | refine Nat.le_add_right_of_le ?_))))))

theorem specTT_yes (s e t l now : Int) (w : World) (h : cl s e t l now = true) : Calls Try.prog 24 #[.agg #[.int .i64 s, .int .i64 e, .int .i64 t, .int .i64 l], .int .i64 now] w fun en w' =>
    en = .returned (.tuple #[.agg #[.int .i64 (s), .int .i64 (e), .int .i64 (tkT (atT s e t l now)), .int .i64 (atL s e t l now)], .bool (tkB (atT s e t l now))]) ∧ Below w.heap.size w w' := by
  obtain ⟨hbv, hl, hn⟩ := cl_iff.1 h
  obtain ⟨b1, b2, b3, b4, b5⟩ := at_bd s e t l now hbv hl hn
  have b6 : s ≤ 100 := (bv_iff.1 hbv).2.1
  have Hcl := Lib.hid h; clear h
  by_cases hz : atT s e t l now = 0
  · have e1 : Hid (tkT (atT s e t l now) = atT s e t l now) := by unfold tkT; rw [if_pos hz]; exact hz.symm
    have e2 : Hid (tkB (atT s e t l now) = false) := by unfold tkB; exact decide_eq_false (fun k => k hz)
    have hq : (atT s e t l now == 0) = true := beq_iff_eq.2 hz
    clear hz
    go_enter Try.func24, Try.ntmps24
    go_wp2_with (first | (go_at_call 38; refine (l1In_yes _ _ _ _ (by omega) (by omega)).mono ?_; rintro e w1 ⟨rfl, rfl⟩) | (go_at_call 14; refine (specBV _ _ _ _ _).mono ?_; rintro e w1 ⟨rfl, hb⟩; obtain ⟨os, d, rfl⟩ := ext_of hb; clear hb) | (go_at_call 21; refine (specBA_yes _ _ _ _ _ _ Hcl.out).mono ?_; rintro e w1 ⟨rfl, hb⟩; obtain ⟨os, d, rfl⟩ := ext_of hb; clear hb))
    rw [e1.out, e2.out]
    refine bodyPost_ret (v := .tuple #[.agg #[.int .i64 (s), .int .i64 (e), .int .i64 (atT s e t l now), .int .i64 (atL s e t l now)], .bool false]) (by simp [results, Try.results24, go_sem, *]) rfl ⟨rfl, ?_⟩
    exact (by repeat (first | exact Below.refl _ _ | (refine below_ext (by first | omega | (repeat (first | exact Nat.le_refl _ | refine le_ext ?_ | refine le_alloc _ ?_ | refine le_set _ _ ?_ | refine Nat.le_add_right_of_le ?_))) ?_) | (refine below_alloc _ (by first | omega | (repeat (first | exact Nat.le_refl _ | refine le_ext ?_ | refine le_alloc _ ?_ | refine le_set _ _ ?_ | refine Nat.le_add_right_of_le ?_))) ?_) | (refine below_setCell _ _ _ (by first | omega | (repeat (first | exact Nat.le_refl _ | refine le_ext ?_ | refine le_alloc _ ?_ | refine le_set _ _ ?_ | refine Nat.le_add_right_of_le ?_))) ?_) | refine Below.drew ?_ | (apply below_after; assumption; exact (by first | omega | (repeat (first | exact Nat.le_refl _ | refine le_ext ?_ | refine le_alloc _ ?_ | refine le_set _ _ ?_ | refine Nat.le_add_right_of_le ?_))))))
  · have e1 : Hid (tkT (atT s e t l now) = atT s e t l now - 1) := if_neg hz
    have e2 : Hid (tkB (atT s e t l now) = true) := by unfold tkB; exact decide_eq_true hz
    have hq : (atT s e t l now == 0) = false := beq_eq_false_iff_ne.2 hz
    have hp : 1 ≤ atT s e t l now := by omega
    clear hz
    go_enter Try.func24, Try.ntmps24
    go_wp2_with (first | (go_at_call 38; refine (l1In_yes _ _ _ _ (by omega) (by omega)).mono ?_; rintro e w1 ⟨rfl, rfl⟩) | (go_at_call 14; refine (specBV _ _ _ _ _).mono ?_; rintro e w1 ⟨rfl, hb⟩; obtain ⟨os, d, rfl⟩ := ext_of hb; clear hb) | (go_at_call 21; refine (specBA_yes _ _ _ _ _ _ Hcl.out).mono ?_; rintro e w1 ⟨rfl, hb⟩; obtain ⟨os, d, rfl⟩ := ext_of hb; clear hb))
    rw [e1.out, e2.out]
    refine bodyPost_ret (v := .tuple #[.agg #[.int .i64 (s), .int .i64 (e), .int .i64 (atT s e t l now - 1), .int .i64 (atL s e t l now)], .bool true]) (by simp [results, Try.results24, go_sem, *]) rfl ⟨rfl, ?_⟩
    exact (by repeat (first | exact Below.refl _ _ | (refine below_ext (by first | omega | (repeat (first | exact Nat.le_refl _ | refine le_ext ?_ | refine le_alloc _ ?_ | refine le_set _ _ ?_ | refine Nat.le_add_right_of_le ?_))) ?_) | (refine below_alloc _ (by first | omega | (repeat (first | exact Nat.le_refl _ | refine le_ext ?_ | refine le_alloc _ ?_ | refine le_set _ _ ?_ | refine Nat.le_add_right_of_le ?_))) ?_) | (refine below_setCell _ _ _ (by first | omega | (repeat (first | exact Nat.le_refl _ | refine le_ext ?_ | refine le_alloc _ ?_ | refine le_set _ _ ?_ | refine Nat.le_add_right_of_le ?_))) ?_) | refine Below.drew ?_ | (apply below_after; assumption; exact (by first | omega | (repeat (first | exact Nat.le_refl _ | refine le_ext ?_ | refine le_alloc _ ?_ | refine le_set _ _ ?_ | refine Nat.le_add_right_of_le ?_))))))

theorem specTT_no (s e t l now : Int) (w : World) (h : cl s e t l now = false) : Calls Try.prog 24 #[.agg #[.int .i64 s, .int .i64 e, .int .i64 t, .int .i64 l], .int .i64 now] w fun en w' =>
    en = .returned (.tuple #[.agg #[.int .i64 0, .int .i64 0, .int .i64 0, .int .i64 0], .bool false]) ∧ Below w.heap.size w w' := by
  rcases cl_no h with hb | ⟨hb, h1 | ⟨h2, h1⟩⟩
  all_goals
    clear h
    go_enter Try.func24, Try.ntmps24
    go_wp2_with (first | (go_at_call 38; refine (l1In_no _ _ _ _ (by omega)).mono ?_; rintro e w1 ⟨rfl, rfl⟩) | (go_at_call 14; refine (specBV _ _ _ _ _).mono ?_; rintro e w1 ⟨rfl, hb⟩; obtain ⟨os, d, rfl⟩ := ext_of hb; clear hb))
    refine bodyPost_ret (v := .tuple #[.agg #[.int .i64 0, .int .i64 0, .int .i64 0, .int .i64 0], .bool false]) (by simp [results, Try.results24, go_sem, *]) rfl ⟨rfl, ?_⟩
    exact (by repeat (first | exact Below.refl _ _ | (refine below_ext (by first | omega | (repeat (first | exact Nat.le_refl _ | refine le_ext ?_ | refine le_alloc _ ?_ | refine le_set _ _ ?_ | refine Nat.le_add_right_of_le ?_))) ?_) | (refine below_alloc _ (by first | omega | (repeat (first | exact Nat.le_refl _ | refine le_ext ?_ | refine le_alloc _ ?_ | refine le_set _ _ ?_ | refine Nat.le_add_right_of_le ?_))) ?_) | (refine below_setCell _ _ _ (by first | omega | (repeat (first | exact Nat.le_refl _ | refine le_ext ?_ | refine le_alloc _ ?_ | refine le_set _ _ ?_ | refine Nat.le_add_right_of_le ?_))) ?_) | refine Below.drew ?_ | (apply below_after; assumption; exact (by first | omega | (repeat (first | exact Nat.le_refl _ | refine le_ext ?_ | refine le_alloc _ ?_ | refine le_set _ _ ?_ | refine Nat.le_add_right_of_le ?_))))))

theorem specNT_yes (s e t l now : Int) (w : World) (h : cl s e t l now = true) : Calls Try.prog 19 #[.agg #[.int .i64 s, .int .i64 e, .int .i64 t, .int .i64 l], .int .i64 now] w fun en w' =>
    en = .returned (.int .i64 (ntT s e t l now)) ∧ Below w.heap.size w w' := by
  obtain ⟨hbv, hl, hn⟩ := cl_iff.1 h
  obtain ⟨b1, b2, b3, b4, b5⟩ := at_bd s e t l now hbv hl hn
  obtain ⟨h1, h2, h3, h4, h5, h6, h7, h8⟩ := bv_iff.1 hbv
  have Hcl := Lib.hid h; clear h
  by_cases hz : 0 < atT s e t l now
  · have e1 : Hid (ntT s e t l now = now) := if_pos hz
    go_enter Try.func19, Try.ntmps19
    go_wp2_with (first | (go_at_call 38; refine (l1In_yes _ _ _ _ (by omega) (by omega)).mono ?_; rintro e w1 ⟨rfl, rfl⟩) | (go_at_call 14; refine (specBV _ _ _ _ _).mono ?_; rintro e w1 ⟨rfl, hb⟩; obtain ⟨os, d, rfl⟩ := ext_of hb; clear hb) | (go_at_call 21; refine (specBA_yes _ _ _ _ _ _ Hcl.out).mono ?_; rintro e w1 ⟨rfl, hb⟩; obtain ⟨os, d, rfl⟩ := ext_of hb; clear hb))
    rw [e1.out]
    go_ret
    exact ⟨rfl, (by repeat (first | exact Below.refl _ _ | (refine below_ext (by first | omega | (repeat (first | exact Nat.le_refl _ | refine le_ext ?_ | refine le_alloc _ ?_ | refine le_set _ _ ?_ | refine Nat.le_add_right_of_le ?_))) ?_) | (refine below_alloc _ (by first | omega | (repeat (first | exact Nat.le_refl _ | refine le_ext ?_ | refine le_alloc _ ?_ | refine le_set _ _ ?_ | refine Nat.le_add_right_of_le ?_))) ?_) | (refine below_setCell _ _ _ (by first | omega | (repeat (first | exact Nat.le_refl _ | refine le_ext ?_ | refine le_alloc _ ?_ | refine le_set _ _ ?_ | refine Nat.le_add_right_of_le ?_))) ?_) | refine Below.drew ?_ | (apply below_after; assumption; exact (by first | omega | (repeat (first | exact Nat.le_refl _ | refine le_ext ?_ | refine le_alloc _ ?_ | refine le_set _ _ ?_ | refine Nat.le_add_right_of_le ?_))))))⟩
  · have e1 : Hid (ntT s e t l now = atL s e t l now + e) := if_neg hz
    go_enter Try.func19, Try.ntmps19
    go_wp2_with (first | (go_at_call 38; refine (l1In_yes _ _ _ _ (by omega) (by omega)).mono ?_; rintro e w1 ⟨rfl, rfl⟩) | (go_at_call 14; refine (specBV _ _ _ _ _).mono ?_; rintro e w1 ⟨rfl, hb⟩; obtain ⟨os, d, rfl⟩ := ext_of hb; clear hb) | (go_at_call 21; refine (specBA_yes _ _ _ _ _ _ Hcl.out).mono ?_; rintro e w1 ⟨rfl, hb⟩; obtain ⟨os, d, rfl⟩ := ext_of hb; clear hb))
    rw [e1.out]
    go_ret
    exact ⟨rfl, (by repeat (first | exact Below.refl _ _ | (refine below_ext (by first | omega | (repeat (first | exact Nat.le_refl _ | refine le_ext ?_ | refine le_alloc _ ?_ | refine le_set _ _ ?_ | refine Nat.le_add_right_of_le ?_))) ?_) | (refine below_alloc _ (by first | omega | (repeat (first | exact Nat.le_refl _ | refine le_ext ?_ | refine le_alloc _ ?_ | refine le_set _ _ ?_ | refine Nat.le_add_right_of_le ?_))) ?_) | (refine below_setCell _ _ _ (by first | omega | (repeat (first | exact Nat.le_refl _ | refine le_ext ?_ | refine le_alloc _ ?_ | refine le_set _ _ ?_ | refine Nat.le_add_right_of_le ?_))) ?_) | refine Below.drew ?_ | (apply below_after; assumption; exact (by first | omega | (repeat (first | exact Nat.le_refl _ | refine le_ext ?_ | refine le_alloc _ ?_ | refine le_set _ _ ?_ | refine Nat.le_add_right_of_le ?_))))))⟩

theorem specNT_no (s e t l now : Int) (w : World) (h : cl s e t l now = false) : Calls Try.prog 19 #[.agg #[.int .i64 s, .int .i64 e, .int .i64 t, .int .i64 l], .int .i64 now] w fun en w' =>
    en = .returned (.int .i64 (-1)) ∧ Below w.heap.size w w' := by
  rcases cl_no h with hb | ⟨hb, h1 | ⟨h2, h1⟩⟩
  all_goals
    clear h
    go_enter Try.func19, Try.ntmps19
    go_wp2_with (first | (go_at_call 38; refine (l1In_no _ _ _ _ (by omega)).mono ?_; rintro e w1 ⟨rfl, rfl⟩) | (go_at_call 14; refine (specBV _ _ _ _ _).mono ?_; rintro e w1 ⟨rfl, hb⟩; obtain ⟨os, d, rfl⟩ := ext_of hb; clear hb))
    go_ret
    exact ⟨rfl, (by repeat (first | exact Below.refl _ _ | (refine below_ext (by first | omega | (repeat (first | exact Nat.le_refl _ | refine le_ext ?_ | refine le_alloc _ ?_ | refine le_set _ _ ?_ | refine Nat.le_add_right_of_le ?_))) ?_) | (refine below_alloc _ (by first | omega | (repeat (first | exact Nat.le_refl _ | refine le_ext ?_ | refine le_alloc _ ?_ | refine le_set _ _ ?_ | refine Nat.le_add_right_of_le ?_))) ?_) | (refine below_setCell _ _ _ (by first | omega | (repeat (first | exact Nat.le_refl _ | refine le_ext ?_ | refine le_alloc _ ?_ | refine le_set _ _ ?_ | refine Nat.le_add_right_of_le ?_))) ?_) | refine Below.drew ?_ | (apply below_after; assumption; exact (by first | omega | (repeat (first | exact Nat.le_refl _ | refine le_ext ?_ | refine le_alloc _ ?_ | refine le_set _ _ ?_ | refine Nat.le_add_right_of_le ?_))))))⟩
end Go.Proofs.Ytcinklbbacmihaa
