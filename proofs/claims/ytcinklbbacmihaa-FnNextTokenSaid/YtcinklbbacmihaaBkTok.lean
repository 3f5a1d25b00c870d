/- Walks of the bucket functions: BucketAt, TakeToken, NextToken, of the program and of the reference. -/
import Derived.Test.YtcinklbbacmihaaBkAt
set_option linter.unusedSimpArgs false
set_option linter.unusedVariables false
namespace Go.Proofs.Ytcinklbbacmihaa
open Go.RowKit

theorem at_bd (s e t l now : Int) (h : bv s e t l = true) (h1 : l ≤ now) (h2 : now ≤ 1000000) :
    0 ≤ atT s e t l now ∧ atT s e t l now ≤ s ∧ t ≤ atT s e t l now ∧ l ≤ atL s e t l now ∧ atL s e t l now ≤ now := by
  obtain ⟨h1, h2, h3, h4, h5, h6, h7, h8⟩ := bv_iff.1 h
  obtain ⟨d1, d2, d3, d4⟩ := div_bd (now - l) e (by omega) h3
  unfold atT atL
  split <;> omega

theorem at_bv (s e t l now : Int) (h : bv s e t l = true) (h1 : l ≤ now) (h2 : now ≤ 1000000) :
    bv s e (atT s e t l now) (atL s e t l now) = true := by
  have hb := at_bd s e t l now h h1 h2
  obtain ⟨h1, h2, h3, h4, h5, h6, h7, h8⟩ := bv_iff.1 h
  exact bv_iff.2 (by omega)

theorem implBA_yes (s e t l now : Int) (w : World) (h : cl s e t l now = true) : Calls Try.prog 22 #[.agg #[.int .i64 s, .int .i64 e, .int .i64 t, .int .i64 l], .int .i64 now] w fun en w' =>
    en = .returned (.agg #[.int .i64 s, .int .i64 e, .int .i64 (atT s e t l now), .int .i64 (atL s e t l now)]) ∧ Below w.heap.size w w' := by
  obtain ⟨hbv, hl, hn⟩ := cl_iff.1 h
  have Hbv := Lib.hid hbv; clear hbv
  go_enter Try.func22, Try.ntmps22
  go_wp2_with (first | (go_at_call 43; refine (canLook_any _ _ _ _ _ _).mono ?_; rintro e w1 ⟨rfl, hb⟩; obtain ⟨os, d, rfl⟩ := ext_of hb; clear hb) | (go_at_call 44; refine (implAt_any _ _ _ _ _ _ Hbv.out hl (by omega)).mono ?_; rintro e w1 ⟨rfl, hb⟩; obtain ⟨os, d, rfl⟩ := ext_of hb; clear hb))
  refine bodyPost_ret (v := .agg #[.int .i64 (s), .int .i64 (e), .int .i64 (atT s e t l now), .int .i64 (atL s e t l now)]) (by simp [results, Try.results22, go_sem, *]) rfl ⟨rfl, ?_⟩
  exact (by repeat (first | exact Below.refl _ _ | (refine below_ext (by first | omega | (repeat (first | exact Nat.le_refl _ | refine le_ext ?_ | refine le_alloc _ ?_ | refine le_set _ _ ?_ | refine Nat.le_add_right_of_le ?_))) ?_) | (refine below_alloc _ (by first | omega | (repeat (first | exact Nat.le_refl _ | refine le_ext ?_ | refine le_alloc _ ?_ | refine le_set _ _ ?_ | refine Nat.le_add_right_of_le ?_))) ?_) | (refine below_setCell _ _ _ (by first | omega | (repeat (first | exact Nat.le_refl _ | refine le_ext ?_ | refine le_alloc _ ?_ | refine le_set _ _ ?_ | refine Nat.le_add_right_of_le ?_))) ?_) | refine Below.drew ?_ | (apply below_after; assumption; exact (by first | omega | (repeat (first | exact Nat.le_refl _ | refine le_ext ?_ | refine le_alloc _ ?_ | refine le_set _ _ ?_ | refine Nat.le_add_right_of_le ?_))))))

theorem implBA_no (s e t l now : Int) (w : World) (h : cl s e t l now = false) : Calls Try.prog 22 #[.agg #[.int .i64 s, .int .i64 e, .int .i64 t, .int .i64 l], .int .i64 now] w fun en w' =>
    en = .returned (.agg #[.int .i64 0, .int .i64 0, .int .i64 0, .int .i64 0]) ∧ Below w.heap.size w w' := by
  go_enter Try.func22, Try.ntmps22
  go_wp2_with (go_at_call 43; refine (canLook_any _ _ _ _ _ _).mono ?_; rintro e w1 ⟨rfl, hb⟩; obtain ⟨os, d, rfl⟩ := ext_of hb; clear hb)
  refine bodyPost_ret (v := .agg #[.int .i64 0, .int .i64 0, .int .i64 0, .int .i64 0]) (by simp [results, Try.results22, go_sem, *]) rfl ⟨rfl, ?_⟩
  exact (by repeat (first | exact Below.refl _ _ | (refine below_ext (by first | omega | (repeat (first | exact Nat.le_refl _ | refine le_ext ?_ | refine le_alloc _ ?_ | refine le_set _ _ ?_ | refine Nat.le_add_right_of_le ?_))) ?_) | (refine below_alloc _ (by first | omega | (repeat (first | exact Nat.le_refl _ | refine le_ext ?_ | refine le_alloc _ ?_ | refine le_set _ _ ?_ | refine Nat.le_add_right_of_le ?_))) ?_) | (refine below_setCell _ _ _ (by first | omega | (repeat (first | exact Nat.le_refl _ | refine le_ext ?_ | refine le_alloc _ ?_ | refine le_set _ _ ?_ | refine Nat.le_add_right_of_le ?_))) ?_) | refine Below.drew ?_ | (apply below_after; assumption; exact (by first | omega | (repeat (first | exact Nat.le_refl _ | refine le_ext ?_ | refine le_alloc _ ?_ | refine le_set _ _ ?_ | refine Nat.le_add_right_of_le ?_))))))

/-- the tokens after one was taken, if there is one -/
def tkT (x : Int) : Int := if x = 0 then 0 else x - 1
def tkB (x : Int) : Bool := decide (x ≠ 0)

theorem implTake_any (s e t l now : Int) (w : World) (h : bv s e t l = true) (hl : l ≤ now) (hn : now ≤ 1000000) : Calls Try.prog 45 #[.agg #[.int .i64 s, .int .i64 e, .int .i64 t, .int .i64 l], .int .i64 now] w fun en w' =>
    en = .returned (.tuple #[.agg #[.int .i64 (s), .int .i64 (e), .int .i64 (tkT (atT s e t l now)), .int .i64 (atL s e t l now)], .bool (tkB (atT s e t l now))]) ∧ Below w.heap.size w w' := by
  obtain ⟨b1, b2, b3, b4, b5⟩ := at_bd s e t l now h hl hn
  have b6 : s ≤ 100 := (bv_iff.1 h).2.1
  have Hbv := Lib.hid h; clear h
  by_cases hz : atT s e t l now = 0
  · have e1 : Hid (tkT (atT s e t l now) = atT s e t l now) := by unfold tkT; rw [if_pos hz]; exact hz.symm
    have e2 : Hid (tkB (atT s e t l now) = false) := by unfold tkB; exact decide_eq_false (fun k => k hz)
    have hq : (atT s e t l now == 0) = true := beq_iff_eq.2 hz
    clear hz
    go_enter Try.func45, Try.ntmps45
    go_wp2_with (go_at_call 44; refine (implAt_any _ _ _ _ _ _ Hbv.out hl (by omega)).mono ?_; rintro e w1 ⟨rfl, hb⟩; obtain ⟨os, d, rfl⟩ := ext_of hb; clear hb)
    rw [e1.out, e2.out]
    refine bodyPost_ret (v := .tuple #[.agg #[.int .i64 (s), .int .i64 (e), .int .i64 (atT s e t l now), .int .i64 (atL s e t l now)], .bool false]) (by simp [results, Try.results45, go_sem, *]) rfl ⟨rfl, ?_⟩
    exact (by repeat (first | exact Below.refl _ _ | (refine below_ext (by first | omega | (repeat (first | exact Nat.le_refl _ | refine le_ext ?_ | refine le_alloc _ ?_ | refine le_set _ _ ?_ | refine Nat.le_add_right_of_le ?_))) ?_) | (refine below_alloc _ (by first | omega | (repeat (first | exact Nat.le_refl _ | refine le_ext ?_ | refine le_alloc _ ?_ | refine le_set _ _ ?_ | refine Nat.le_add_right_of_le ?_))) ?_) | (refine below_setCell _ _ _ (by first | omega | (repeat (first | exact Nat.le_refl _ | refine le_ext ?_ | refine le_alloc _ ?_ | refine le_set _ _ ?_ | refine Nat.le_add_right_of_le ?_))) ?_) | refine Below.drew ?_ | (apply below_after; assumption; exact (by first | omega | (repeat (first | exact Nat.le_refl _ | refine le_ext ?_ | refine le_alloc _ ?_ | refine le_set _ _ ?_ | refine Nat.le_add_right_of_le ?_))))))
  · have e1 : Hid (tkT (atT s e t l now) = atT s e t l now - 1) := if_neg hz
    have e2 : Hid (tkB (atT s e t l now) = true) := by unfold tkB; exact decide_eq_true hz
    have hq : (atT s e t l now == 0) = false := beq_eq_false_iff_ne.2 hz
    have hp : 1 ≤ atT s e t l now := by omega
    clear hz
    go_enter Try.func45, Try.ntmps45
    go_wp2_with (go_at_call 44; refine (implAt_any _ _ _ _ _ _ Hbv.out hl (by omega)).mono ?_; rintro e w1 ⟨rfl, hb⟩; obtain ⟨os, d, rfl⟩ := ext_of hb; clear hb)
    rw [e1.out, e2.out]
    refine bodyPost_ret (v := .tuple #[.agg #[.int .i64 (s), .int .i64 (e), .int .i64 (atT s e t l now - 1), .int .i64 (atL s e t l now)], .bool true]) (by simp [results, Try.results45, go_sem, *]) rfl ⟨rfl, ?_⟩
    exact (by repeat (first | exact Below.refl _ _ | (refine below_ext (by first | omega | (repeat (first | exact Nat.le_refl _ | refine le_ext ?_ | refine le_alloc _ ?_ | refine le_set _ _ ?_ | refine Nat.le_add_right_of_le ?_))) ?_) | (refine below_alloc _ (by first | omega | (repeat (first | exact Nat.le_refl _ | refine le_ext ?_ | refine le_alloc _ ?_ | refine le_set _ _ ?_ | refine Nat.le_add_right_of_le ?_))) ?_) | (refine below_setCell _ _ _ (by first | omega | (repeat (first | exact Nat.le_refl _ | refine le_ext ?_ | refine le_alloc _ ?_ | refine le_set _ _ ?_ | refine Nat.le_add_right_of_le ?_))) ?_) | refine Below.drew ?_ | (apply below_after; assumption; exact (by first | omega | (repeat (first | exact Nat.le_refl _ | refine le_ext ?_ | refine le_alloc _ ?_ | refine le_set _ _ ?_ | refine Nat.le_add_right_of_le ?_))))))

theorem implTT_yes (s e t l now : Int) (w : World) (h : cl s e t l now = true) : Calls Try.prog 25 #[.agg #[.int .i64 s, .int .i64 e, .int .i64 t, .int .i64 l], .int .i64 now] w fun en w' =>
    en = .returned (.tuple #[.agg #[.int .i64 (s), .int .i64 (e), .int .i64 (tkT (atT s e t l now)), .int .i64 (atL s e t l now)], .bool (tkB (atT s e t l now))]) ∧ Below w.heap.size w w' := by
  obtain ⟨hbv, hl, hn⟩ := cl_iff.1 h
  have Hbv := Lib.hid hbv; clear hbv
  go_enter Try.func25, Try.ntmps25
  go_wp2_with (first | (go_at_call 43; refine (canLook_any _ _ _ _ _ _).mono ?_; rintro e w1 ⟨rfl, hb⟩; obtain ⟨os, d, rfl⟩ := ext_of hb; clear hb) | (go_at_call 45; refine (implTake_any _ _ _ _ _ _ Hbv.out hl hn).mono ?_; rintro e w1 ⟨rfl, hb⟩; obtain ⟨os, d, rfl⟩ := ext_of hb; clear hb))
  refine bodyPost_ret (v := .tuple #[.agg #[.int .i64 (s), .int .i64 (e), .int .i64 (tkT (atT s e t l now)), .int .i64 (atL s e t l now)], .bool (tkB (atT s e t l now))]) (by simp [results, Try.results25, go_sem, *]) rfl ⟨rfl, ?_⟩
  exact (by repeat (first | exact Below.refl _ _ | (refine below_ext (by first | omega | (repeat (first | exact Nat.le_refl _ | refine le_ext ?_ | refine le_alloc _ ?_ | refine le_set _ _ ?_ | refine Nat.le_add_right_of_le ?_))) ?_) | (refine below_alloc _ (by first | omega | (repeat (first | exact Nat.le_refl _ | refine le_ext ?_ | refine le_alloc _ ?_ | refine le_set _ _ ?_ | refine Nat.le_add_right_of_le ?_))) ?_) | (refine below_setCell _ _ _ (by first | omega | (repeat (first | exact Nat.le_refl _ | refine le_ext ?_ | refine le_alloc _ ?_ | refine le_set _ _ ?_ | refine Nat.le_add_right_of_le ?_))) ?_) | refine Below.drew ?_ | (apply below_after; assumption; exact (by first | omega | (repeat (first | exact Nat.le_refl _ | refine le_ext ?_ | refine le_alloc _ ?_ | refine le_set _ _ ?_ | refine Nat.le_add_right_of_le ?_))))))

theorem implTT_no (s e t l now : Int) (w : World) (h : cl s e t l now = false) : Calls Try.prog 25 #[.agg #[.int .i64 s, .int .i64 e, .int .i64 t, .int .i64 l], .int .i64 now] w fun en w' =>
    en = .returned (.tuple #[.agg #[.int .i64 0, .int .i64 0, .int .i64 0, .int .i64 0], .bool false]) ∧ Below w.heap.size w w' := by
  go_enter Try.func25, Try.ntmps25
  go_wp2_with (go_at_call 43; refine (canLook_any _ _ _ _ _ _).mono ?_; rintro e w1 ⟨rfl, hb⟩; obtain ⟨os, d, rfl⟩ := ext_of hb; clear hb)
  refine bodyPost_ret (v := .tuple #[.agg #[.int .i64 0, .int .i64 0, .int .i64 0, .int .i64 0], .bool false]) (by simp [results, Try.results25, go_sem, *]) rfl ⟨rfl, ?_⟩
  exact (by repeat (first | exact Below.refl _ _ | (refine below_ext (by first | omega | (repeat (first | exact Nat.le_refl _ | refine le_ext ?_ | refine le_alloc _ ?_ | refine le_set _ _ ?_ | refine Nat.le_add_right_of_le ?_))) ?_) | (refine below_alloc _ (by first | omega | (repeat (first | exact Nat.le_refl _ | refine le_ext ?_ | refine le_alloc _ ?_ | refine le_set _ _ ?_ | refine Nat.le_add_right_of_le ?_))) ?_) | (refine below_setCell _ _ _ (by first | omega | (repeat (first | exact Nat.le_refl _ | refine le_ext ?_ | refine le_alloc _ ?_ | refine le_set _ _ ?_ | refine Nat.le_add_right_of_le ?_))) ?_) | refine Below.drew ?_ | (apply below_after; assumption; exact (by first | omega | (repeat (first | exact Nat.le_refl _ | refine le_ext ?_ | refine le_alloc _ ?_ | refine le_set _ _ ?_ | refine Nat.le_add_right_of_le ?_))))))

/-- the time of the next token -/
def ntT (s e t l now : Int) : Int := if 0 < atT s e t l now then now else atL s e t l now + e

theorem implNT_yes (s e t l now : Int) (w : World) (h : cl s e t l now = true) : Calls Try.prog 20 #[.agg #[.int .i64 s, .int .i64 e, .int .i64 t, .int .i64 l], .int .i64 now] w fun en w' =>
    en = .returned (.int .i64 (ntT s e t l now)) ∧ Below w.heap.size w w' := by
  obtain ⟨hbv, hl, hn⟩ := cl_iff.1 h
  obtain ⟨b1, b2, b3, b4, b5⟩ := at_bd s e t l now hbv hl hn
  obtain ⟨h1, h2, h3, h4, h5, h6, h7, h8⟩ := bv_iff.1 hbv
  have Hbv := Lib.hid hbv; clear hbv
  by_cases hz : 0 < atT s e t l now
  · have e1 : Hid (ntT s e t l now = now) := if_pos hz
    go_enter Try.func20, Try.ntmps20
    go_wp2_with (first | (go_at_call 43; refine (canLook_any _ _ _ _ _ _).mono ?_; rintro e w1 ⟨rfl, hb⟩; obtain ⟨os, d, rfl⟩ := ext_of hb; clear hb) | (go_at_call 44; refine (implAt_any _ _ _ _ _ _ Hbv.out hl (by omega)).mono ?_; rintro e w1 ⟨rfl, hb⟩; obtain ⟨os, d, rfl⟩ := ext_of hb; clear hb))
    rw [e1.out]
    go_ret
    exact ⟨rfl, (by repeat (first | exact Below.refl _ _ | (refine below_ext (by first | omega | (repeat (first | exact Nat.le_refl _ | refine le_ext ?_ | refine le_alloc _ ?_ | refine le_set _ _ ?_ | refine Nat.le_add_right_of_le ?_))) ?_) | (refine below_alloc _ (by first | omega | (repeat (first | exact Nat.le_refl _ | refine le_ext ?_ | refine le_alloc _ ?_ | refine le_set _ _ ?_ | refine Nat.le_add_right_of_le ?_))) ?_) | (refine below_setCell _ _ _ (by first | omega | (repeat (first | exact Nat.le_refl _ | refine le_ext ?_ | refine le_alloc _ ?_ | refine le_set _ _ ?_ | refine Nat.le_add_right_of_le ?_))) ?_) | refine Below.drew ?_ | (apply below_after; assumption; exact (by first | omega | (repeat (first | exact Nat.le_refl _ | refine le_ext ?_ | refine le_alloc _ ?_ | refine le_set _ _ ?_ | refine Nat.le_add_right_of_le ?_))))))⟩
  · have e1 : Hid (ntT s e t l now = atL s e t l now + e) := if_neg hz
    go_enter Try.func20, Try.ntmps20
    go_wp2_with (first | (go_at_call 43; refine (canLook_any _ _ _ _ _ _).mono ?_; rintro e w1 ⟨rfl, hb⟩; obtain ⟨os, d, rfl⟩ := ext_of hb; clear hb) | (go_at_call 44; refine (implAt_any _ _ _ _ _ _ Hbv.out hl (by omega)).mono ?_; rintro e w1 ⟨rfl, hb⟩; obtain ⟨os, d, rfl⟩ := ext_of hb; clear hb))
    rw [e1.out]
    go_ret
    exact ⟨rfl, (by repeat (first | exact Below.refl _ _ | (refine below_ext (by first | omega | (repeat (first | exact Nat.le_refl _ | refine le_ext ?_ | refine le_alloc _ ?_ | refine le_set _ _ ?_ | refine Nat.le_add_right_of_le ?_))) ?_) | (refine below_alloc _ (by first | omega | (repeat (first | exact Nat.le_refl _ | refine le_ext ?_ | refine le_alloc _ ?_ | refine le_set _ _ ?_ | refine Nat.le_add_right_of_le ?_))) ?_) | (refine below_setCell _ _ _ (by first | omega | (repeat (first | exact Nat.le_refl _ | refine le_ext ?_ | refine le_alloc _ ?_ | refine le_set _ _ ?_ | refine Nat.le_add_right_of_le ?_))) ?_) | refine Below.drew ?_ | (apply below_after; assumption; exact (by first | omega | (repeat (first | exact Nat.le_refl _ | refine le_ext ?_ | refine le_alloc _ ?_ | refine le_set _ _ ?_ | refine Nat.le_add_right_of_le ?_))))))⟩

theorem implNT_no (s e t l now : Int) (w : World) (h : cl s e t l now = false) : Calls Try.prog 20 #[.agg #[.int .i64 s, .int .i64 e, .int .i64 t, .int .i64 l], .int .i64 now] w fun en w' =>
    en = .returned (.int .i64 (-1)) ∧ Below w.heap.size w w' := by
  go_enter Try.func20, Try.ntmps20
  go_wp2_with (go_at_call 43; refine (canLook_any _ _ _ _ _ _).mono ?_; rintro e w1 ⟨rfl, hb⟩; obtain ⟨os, d, rfl⟩ := ext_of hb; clear hb)
  go_ret
  exact ⟨rfl, (by repeat (first | exact Below.refl _ _ | (refine below_ext (by first | omega | (repeat (first | exact Nat.le_refl _ | refine le_ext ?_ | refine le_alloc _ ?_ | refine le_set _ _ ?_ | refine Nat.le_add_right_of_le ?_))) ?_) | (refine below_alloc _ (by first | omega | (repeat (first | exact Nat.le_refl _ | refine le_ext ?_ | refine le_alloc _ ?_ | refine le_set _ _ ?_ | refine Nat.le_add_right_of_le ?_))) ?_) | (refine below_setCell _ _ _ (by first | omega | (repeat (first | exact Nat.le_refl _ | refine le_ext ?_ | refine le_alloc _ ?_ | refine le_set _ _ ?_ | refine Nat.le_add_right_of_le ?_))) ?_) | refine Below.drew ?_ | (apply below_after; assumption; exact (by first | omega | (repeat (first | exact Nat.le_refl _ | refine le_ext ?_ | refine le_alloc _ ?_ | refine le_set _ _ ?_ | refine Nat.le_add_right_of_le ?_))))))⟩
end Go.Proofs.Ytcinklbbacmihaa
