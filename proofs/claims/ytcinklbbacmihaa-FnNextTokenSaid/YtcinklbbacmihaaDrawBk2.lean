/- The drawn buckets with a time. -/
import Derived.Test.YtcinklbbacmihaaDrawBk
import Derived.Test.YtcinklbbacmihaaDrawInv
set_option linter.unusedSimpArgs false
set_option linter.unusedVariables false
namespace Go.Proofs.Ytcinklbbacmihaa
open Go.RowKit

set_option maxHeartbeats 3200000 in
theorem l20Later_any (w : World) (R : Nat) (a : Option Addr) (len cap : Nat) (f : Nat → Int) (p : Int) (h : RdAt w R a len cap f p) (hp : p ≤ 800000) :
    Calls Try.prog 46 #[.pointer (some ⟨R, 0, none⟩)] w fun e w' =>
      ∃ s ev t l now, e = .returned (.tuple #[.agg #[.int .i64 (s), .int .i64 (ev), .int .i64 (t), .int .i64 (l)], .int .i64 now]) ∧ (Mid s ∧ Mid ev ∧ Mid t ∧ Mid l ∧ -4000000 ≤ now ∧ now ≤ 4000000) ∧ Drew w R p 30 w' := by
  have hR := h.lt; have hp0 := h.hp; have hR1 : R < w.heap.size + 1 := (by omega); have hR2 : R < w.heap.size + 1 + 1 := (by omega); have hR3 : R < w.heap.size + 1 + 1 + 1 := (by omega); have hR4 : R < w.heap.size + 1 + 1 + 1 + 1 := (by omega); have hR5 : R < w.heap.size + 1 + 1 + 1 + 1 + 1 := (by omega); have hR6 : R < w.heap.size + 1 + 1 + 1 + 1 + 1 + 1 := (by omega); have hR7 : R < w.heap.size + 1 + 1 + 1 + 1 + 1 + 1 + 1 := (by omega); have hR8 : R < w.heap.size + 1 + 1 + 1 + 1 + 1 + 1 + 1 + 1 := (by omega)
  go_enter Try.func46, Try.ntmps46
  go_wp2_with fail
  refine (l20Bucket_any _ R a len cap f _ _ (by repeat (first | assumption | with_reducible apply RdAt.ext | with_reducible apply RdAt.alloc | with_reducible apply RdAt.drew | (with_reducible apply RdAt.set; (focus omega)))) ?_ ?_ ?_).mono ?_
  · omega
  · omega
  · omega
  rintro e X ⟨s, ev, t, l, rfl, ⟨m1, m2, m3, m4⟩, q, hq1, hq2, hX⟩
  have hRX := RdAt.to (by repeat (first | assumption | with_reducible apply RdAt.ext | with_reducible apply RdAt.alloc | with_reducible apply RdAt.drew | (with_reducible apply RdAt.set; (focus omega)))) hX (by omega)
  have hz := DrewTo.size hX
  simp at hz
  have c0 := hX.cell (w.heap.size) 0 (by simp) (by omega); have c1 := hX.cell (w.heap.size) 1 (by simp) (by omega); have c2 := hX.cell (w.heap.size) 2 (by simp) (by omega); have c3 := hX.cell (w.heap.size) 3 (by simp) (by omega); simp [go_sem] at c0 c1 c2 c3; have z0 := hX.frozen (w.heap.size) 0 (by simp); have z1 := hX.frozen (w.heap.size) 1 (by simp); have z2 := hX.frozen (w.heap.size) 2 (by simp); have z3 := hX.frozen (w.heap.size) 3 (by simp); simp [go_sem] at z0 z1 z2 z3
  have hW0 : w.heap.size < X.heap.size := (by omega); have hW1 : w.heap.size < X.heap.size + 1 := (by omega); have hW2 : w.heap.size < X.heap.size + 1 + 1 := (by omega); have hW3 : w.heap.size < X.heap.size + 1 + 1 + 1 := (by omega); have hW4 : w.heap.size < X.heap.size + 1 + 1 + 1 + 1 := (by omega); have hW5 : w.heap.size < X.heap.size + 1 + 1 + 1 + 1 + 1 := (by omega); have hW6 : w.heap.size < X.heap.size + 1 + 1 + 1 + 1 + 1 + 1 := (by omega); have hW7 : w.heap.size < X.heap.size + 1 + 1 + 1 + 1 + 1 + 1 + 1 := (by omega)
  have hRX0 : R < X.heap.size := (by omega); have hRX1 : R < X.heap.size + 1 := (by omega); have hRX2 : R < X.heap.size + 1 + 1 := (by omega); have hRX3 : R < X.heap.size + 1 + 1 + 1 := (by omega); have hRX4 : R < X.heap.size + 1 + 1 + 1 + 1 := (by omega); have hRX5 : R < X.heap.size + 1 + 1 + 1 + 1 + 1 := (by omega); have hRX6 : R < X.heap.size + 1 + 1 + 1 + 1 + 1 + 1 := (by omega); have hRX7 : R < X.heap.size + 1 + 1 + 1 + 1 + 1 + 1 + 1 := (by omega)
  have M1 := m4.1
  have M2 := m4.2
  go_wp2_with fail
  clear hR1 hR2 hR3 hR4 hR5 hR6 hR7 hR8 hW1 hW2 hW3 hW4 hW5 hW6 hW7 hRX0 hRX1 hRX2 hRX3 hRX4 hRX5 hRX6 hRX7
  have ha := h.codeLt
  have hX' := hX.of_alloc hR
  refine region_inv (S := fun i v x => match i with
    | 0 => v = .agg #[.int .i64 (s), .int .i64 (ev), .int .i64 (t), .int .i64 (l)]
    | 1 => v = .pointer (some ⟨X.heap.size, 3, none⟩)
    | 2 => v = .int .i64 l
    | 3 => v = .pointer (some ⟨R, 0, none⟩)
    | 4 => InI 0 119 v
    | 5 => InI (-2000000) 2000119 v
    | 6 => v = .pointer (some ⟨X.heap.size, 3, none⟩)
    | 7 => v = .int .i64 l
    | 8 => v = .int .i64 (l - 1)
    | 9 => SlI (X.heap.size + 1) 4 (-2000001) 2000119 v x
    | 10 => SlI (X.heap.size + 1) 8 0 3 v x
    | 11 => v = .pointer (some ⟨R, 0, none⟩)
    | 12 => InI 0 7 v
    | 13 => ElI (X.heap.size + 1) 0 3 v x
    | 14 => InI 0 3 v
    | 15 => ElI (X.heap.size + 1) (-2000001) 2000119 v x
    | 16 => InI (-2000001) 2000119 v
    | 17 => At4 w.heap.size s ev t l x
    | 18 => InI (-2000001) 2000119 v
    | _ => True) (Inv := DInv w (X.alloc (.cells #[.int .i64 s, .int .i64 ev, .int .i64 t, .int .i64 l] 25)).drew R w.heap.size 4 a len cap f q) (D := fun i b => (i = 4 ∨ i = 12) ∧ b = R ∨ i = 17 ∧ b = w.heap.size) (by kernel_rfl) (by kernel_rfl) ?_ ?_ ?_ ?_
  · intro i j v x x' hij hs hu
    have hD : ∀ b, (fun b => (i = 4 ∨ i = 12) ∧ b = R ∨ i = 17 ∧ b = w.heap.size) b → b < X.heap.size + 1 := by
      intro b hb
      rcases hb with ⟨_, rfl⟩ | ⟨_, rfl⟩ <;> omega
    match j, hs with
    | 0, hs => exact hs
    | 1, hs => exact hs
    | 2, hs => exact hs
    | 3, hs => exact hs
    | 4, hs => exact hs
    | 5, hs => exact hs
    | 6, hs => exact hs
    | 7, hs => exact hs
    | 8, hs => exact hs
    | 9, hs => exact SlI.upd hs hu hD
    | 10, hs => exact SlI.upd hs hu hD
    | 11, hs => exact hs
    | 12, hs => exact hs
    | 13, hs => exact ElI.upd hs hu hD
    | 14, hs => exact hs
    | 15, hs => exact ElI.upd hs hu hD
    | 16, hs => exact hs
    | 17, hs => exact At4.upd hs hu (by rintro (⟨_, h⟩ | ⟨h, _⟩) <;> omega)
    | 18, hs => exact hs
    | j + 19, hs => trivial
  · refine ⟨⟨q, by omega, by omega, (hRX.alloc _).drew, ?_⟩, Upd.refl _ _, fun o ho => ?_, fun _ => ?_⟩
    · exact Below.drew (below_alloc _ hX'.size hX')
    · match o, ho with
      | 0, _ => exact ⟨⟨_, by simpa [go_sem, hW0] using c0⟩, by simpa [go_sem, hW0] using z0⟩
      | 1, _ => exact ⟨⟨_, by simpa [go_sem, hW0] using c1⟩, by simpa [go_sem, hW0] using z1⟩
      | 2, _ => exact ⟨⟨_, by simpa [go_sem, hW0] using c2⟩, by simpa [go_sem, hW0] using z2⟩
      | 3, _ => exact ⟨⟨_, by simpa [go_sem, hW0] using c3⟩, by simpa [go_sem, hW0] using z3⟩
    · simp; omega
  · intro k i o hi a' x hI hk hdf hsz hfr hdep
    obtain ⟨⟨q', h1, h2, hrd, hdt⟩, hu, hec, hel⟩ := hI
    have hI : DInv w (X.alloc (.cells #[.int .i64 s, .int .i64 ev, .int .i64 t, .int .i64 l] 25)).drew R w.heap.size 4 a len cap f q k x := ⟨⟨q', h1, h2, hrd, hdt⟩, hu, hec, hel⟩
    have hk' : k < 19 := hk
    have b0 := hu.cell (b := X.heap.size) 0 (by simp) (by omega)
    have b1 := hu.cell (b := X.heap.size) 1 (by simp) (by omega)
    have b2 := hu.cell (b := X.heap.size) 2 (by simp) (by omega)
    have b3 := hu.cell (b := X.heap.size) 3 (by simp) (by omega)
    simp [go_sem] at b0 b1 b2 b3
    match i, hi with
    | 0, hi =>
      have hi0 := hi
      simp only [List.getElem?_toArray, List.getElem?_cons_succ, List.getElem?_cons_zero, Option.some.injEq] at hi
      subst hi
      have f4 : a'.eval (.tmp 4) = .pointer (some ⟨X.heap.size, 0, none⟩) := eval_of ((hfr 4 (by simp)).trans rfl)
      clear hfr hdep hsz
      refine step_val hi0 rfl (v := .agg #[.int .i64 (s), .int .i64 (ev), .int .i64 (t), .int .i64 (l)]) (w' := x) (by simp only [execOp, eval_const, f4]; simp [eval_const, go_sem, *]) ⟨_, rfl, rfl, hI.pure, Upd.refl _ _⟩
    | 1, hi =>
      have hi0 := hi
      simp only [List.getElem?_toArray, List.getElem?_cons_succ, List.getElem?_cons_zero, Option.some.injEq] at hi
      subst hi
      have f4 : a'.eval (.tmp 4) = .pointer (some ⟨X.heap.size, 0, none⟩) := eval_of ((hfr 4 (by simp)).trans rfl)
      clear hfr hdep hsz
      refine step_val hi0 rfl (v := .pointer (some ⟨X.heap.size, 3, none⟩)) (w' := x) (by simp only [execOp, eval_const, f4]; simp [eval_const, go_sem, *]) ⟨_, rfl, rfl, hI.pure, Upd.refl _ _⟩
    | 2, hi =>
      have hi0 := hi
      simp only [List.getElem?_toArray, List.getElem?_cons_succ, List.getElem?_cons_zero, Option.some.injEq] at hi
      subst hi
      obtain ⟨v8, g8, rfl⟩ := hdep ⟨1, .data⟩ (by simp) rfl _ rfl
      have f8 := eval_slot g8
      clear g8
      clear hfr hdep hsz
      refine step_val hi0 rfl (v := .int .i64 l) (w' := x) (by simp only [execOp, eval_const, f8]; simp [eval_const, go_sem, *]) ⟨_, rfl, rfl, hI.pure, Upd.refl _ _⟩
    | 3, hi =>
      have hi0 := hi
      simp only [List.getElem?_toArray, List.getElem?_cons_succ, List.getElem?_cons_zero, Option.some.injEq] at hi
      subst hi
      have f0 : a'.eval (.tmp 0) = .pointer (some ⟨R, 0, none⟩) := eval_of ((hfr 0 (by simp)).trans rfl)
      clear hfr hdep hsz
      refine step_val hi0 rfl (v := .pointer (some ⟨R, 0, none⟩)) (w' := x) (by simp only [execOp, eval_const, f0]; simp [eval_const, go_sem, *]) ⟨_, rfl, rfl, hI.pure, Upd.refl _ _⟩
    | 4, hi =>
      have hi0 := hi
      simp only [List.getElem?_toArray, List.getElem?_cons_succ, List.getElem?_cons_zero, Option.some.injEq] at hi
      subst hi
      obtain ⟨v10, g10, rfl⟩ := hdep ⟨3, .data⟩ (by simp) rfl _ rfl
      have f10 := eval_slot g10
      clear g10
      clear hfr hdep hsz
      refine step_call (f := 47) (vals := #[.pointer (some ⟨R, 0, none⟩), .int .i64 120]) (w' := x) hi0 rfl (by simp only [execOp, eval_const, f10, resolve, List.map_toArray, List.map_cons, List.map_nil]; simp [eval_const, go_sem, *]) ((pick_lt x R a len cap f q' 120 hrd (by omega) (by omega)).mono ?_)
      rintro e x' ⟨n, d, rfl, hn0, hn1, rfl⟩
      exact ⟨_, rfl, _, rfl, ⟨n, rfl, hn0, by omega⟩, hI.pick hrd h1 h2 hdt (by omega) d, (Upd.setCell x R 1 _ (by simp)).trans (Upd.ext _ _ _ _) (fun _ h => h)⟩
    | 5, hi =>
      have hi0 := hi
      simp only [List.getElem?_toArray, List.getElem?_cons_succ, List.getElem?_cons_zero, Option.some.injEq] at hi
      subst hi
      obtain ⟨v9, g9, rfl⟩ := hdep ⟨2, .data⟩ (by simp) rfl _ rfl
      have f9 := eval_slot g9
      clear g9
      obtain ⟨v11, g11, ⟨n, rfl, hn0, hn1⟩⟩ := hdep ⟨4, .data⟩ (by simp) rfl _ rfl
      have f11 := eval_slot g11
      clear g11
      clear hfr hdep hsz
      refine step_val hi0 rfl (v := .int .i64 (l + n)) (w' := x) (by simp only [execOp, eval_const, f9, f11]; simp [eval_const, go_sem, *]; exact IntWalk.i64_in _ (by omega)) ⟨_, rfl, ⟨_, rfl, by omega, by omega⟩, hI.pure, Upd.refl _ _⟩
    | 6, hi =>
      have hi0 := hi
      simp only [List.getElem?_toArray, List.getElem?_cons_succ, List.getElem?_cons_zero, Option.some.injEq] at hi
      subst hi
      have f4 : a'.eval (.tmp 4) = .pointer (some ⟨X.heap.size, 0, none⟩) := eval_of ((hfr 4 (by simp)).trans rfl)
      clear hfr hdep hsz
      refine step_val hi0 rfl (v := .pointer (some ⟨X.heap.size, 3, none⟩)) (w' := x) (by simp only [execOp, eval_const, f4]; simp [eval_const, go_sem, *]) ⟨_, rfl, rfl, hI.pure, Upd.refl _ _⟩
    | 7, hi =>
      have hi0 := hi
      simp only [List.getElem?_toArray, List.getElem?_cons_succ, List.getElem?_cons_zero, Option.some.injEq] at hi
      subst hi
      obtain ⟨v13, g13, rfl⟩ := hdep ⟨6, .data⟩ (by simp) rfl _ rfl
      have f13 := eval_slot g13
      clear g13
      clear hfr hdep hsz
      refine step_val hi0 rfl (v := .int .i64 l) (w' := x) (by simp only [execOp, eval_const, f13]; simp [eval_const, go_sem, *]) ⟨_, rfl, rfl, hI.pure, Upd.refl _ _⟩
    | 8, hi =>
      have hi0 := hi
      simp only [List.getElem?_toArray, List.getElem?_cons_succ, List.getElem?_cons_zero, Option.some.injEq] at hi
      subst hi
      obtain ⟨v14, g14, rfl⟩ := hdep ⟨7, .data⟩ (by simp) rfl _ rfl
      have f14 := eval_slot g14
      clear g14
      clear hfr hdep hsz
      refine step_val hi0 rfl (v := .int .i64 (l - 1)) (w' := x) (by simp only [execOp, eval_const, f14]; simp [eval_const, go_sem, *]; exact IntWalk.i64_in _ (by omega)) ⟨_, rfl, rfl, hI.pure, Upd.refl _ _⟩
    | 9, hi =>
      have hi0 := hi
      simp only [List.getElem?_toArray, List.getElem?_cons_succ, List.getElem?_cons_zero, Option.some.injEq] at hi
      subst hi
      obtain ⟨v12, g12, ⟨n, rfl, hn0, hn1⟩⟩ := hdep ⟨5, .data⟩ (by simp) rfl _ rfl
      have f12 := eval_slot g12
      clear g12
      obtain ⟨v15, g15, rfl⟩ := hdep ⟨8, .data⟩ (by simp) rfl _ rfl
      have f15 := eval_slot g15
      clear g15
      clear hfr hdep hsz
      have hN : X.heap.size + 1 ≤ x.heap.size := by simpa using hu.size
      refine step_val hi0 rfl (v := .slice (some ⟨x.heap.size, 0, none⟩) 4 4) (w' := x.alloc (.cells #[.int .i64 n, .int .i64 (l - 1), .int .i64 1000000, .int .i64 1000001] 3)) (by simp only [execOp, eval_const, f12, f15, List.map_toArray, List.map_cons, List.map_nil]; simp [eval_const, go_sem, *]) ⟨_, rfl, ?_, hI.alloc _, Upd.alloc _ _ _⟩
      refine ⟨x.heap.size, rfl, hN, by simp, fun j hj => ?_⟩
      match j, hj with
      | 0, _ => exact ⟨n, by omega, by omega, by simp⟩
      | 1, _ => exact ⟨l - 1, by omega, by omega, by simp⟩
      | 2, _ => exact ⟨1000000, by omega, by omega, by simp⟩
      | 3, _ => exact ⟨1000001, by omega, by omega, by simp⟩
    | 10, hi =>
      have hi0 := hi
      simp only [List.getElem?_toArray, List.getElem?_cons_succ, List.getElem?_cons_zero, Option.some.injEq] at hi
      subst hi
      clear hfr hdep hsz
      have hN : X.heap.size + 1 ≤ x.heap.size := by simpa using hu.size
      refine step_val hi0 rfl (v := .slice (some ⟨x.heap.size, 0, none⟩) 8 8) (w' := x.alloc (.cells #[.int .i64 0, .int .i64 0, .int .i64 0, .int .i64 0, .int .i64 0, .int .i64 1, .int .i64 2, .int .i64 3] 3)) (by simp only [execOp, eval_const, List.map_toArray, List.map_cons, List.map_nil]; simp [eval_const, go_sem, *]) ⟨_, rfl, ?_, hI.alloc _, Upd.alloc _ _ _⟩
      refine ⟨x.heap.size, rfl, hN, by simp, fun j hj => ?_⟩
      match j, hj with
      | 0, _ => exact ⟨0, by omega, by omega, by simp⟩
      | 1, _ => exact ⟨0, by omega, by omega, by simp⟩
      | 2, _ => exact ⟨0, by omega, by omega, by simp⟩
      | 3, _ => exact ⟨0, by omega, by omega, by simp⟩
      | 4, _ => exact ⟨0, by omega, by omega, by simp⟩
      | 5, _ => exact ⟨1, by omega, by omega, by simp⟩
      | 6, _ => exact ⟨2, by omega, by omega, by simp⟩
      | 7, _ => exact ⟨3, by omega, by omega, by simp⟩
    | 11, hi =>
      have hi0 := hi
      simp only [List.getElem?_toArray, List.getElem?_cons_succ, List.getElem?_cons_zero, Option.some.injEq] at hi
      subst hi
      have f0 : a'.eval (.tmp 0) = .pointer (some ⟨R, 0, none⟩) := eval_of ((hfr 0 (by simp)).trans rfl)
      clear hfr hdep hsz
      refine step_val hi0 rfl (v := .pointer (some ⟨R, 0, none⟩)) (w' := x) (by simp only [execOp, eval_const, f0]; simp [eval_const, go_sem, *]) ⟨_, rfl, rfl, hI.pure, Upd.refl _ _⟩
    | 12, hi =>
      have hi0 := hi
      simp only [List.getElem?_toArray, List.getElem?_cons_succ, List.getElem?_cons_zero, Option.some.injEq] at hi
      subst hi
      obtain ⟨v18, g18, rfl⟩ := hdep ⟨11, .data⟩ (by simp) rfl _ rfl
      have f18 := eval_slot g18
      clear g18
      clear hfr hdep hsz
      refine step_call (f := 47) (vals := #[.pointer (some ⟨R, 0, none⟩), .int .i64 8]) (w' := x) hi0 rfl (by simp only [execOp, eval_const, f18, resolve, List.map_toArray, List.map_cons, List.map_nil]; simp [eval_const, go_sem, *]) ((pick_lt x R a len cap f q' 8 hrd (by omega) (by omega)).mono ?_)
      rintro e x' ⟨n, d, rfl, hn0, hn1, rfl⟩
      exact ⟨_, rfl, _, rfl, ⟨n, rfl, hn0, by omega⟩, hI.pick hrd h1 h2 hdt (by omega) d, (Upd.setCell x R 1 _ (by simp)).trans (Upd.ext _ _ _ _) (fun _ h => h)⟩
    | 13, hi =>
      have hi0 := hi
      simp only [List.getElem?_toArray, List.getElem?_cons_succ, List.getElem?_cons_zero, Option.some.injEq] at hi
      subst hi
      obtain ⟨v17, g17, ⟨b, rfl, hb1, hb2, hb3⟩⟩ := hdep ⟨10, .data⟩ (by simp) rfl _ rfl
      have f17 := eval_slot g17
      clear g17
      obtain ⟨v19, g19, ⟨n, rfl, hn0, hn1⟩⟩ := hdep ⟨12, .data⟩ (by simp) rfl _ rfl
      have f19 := eval_slot g19
      clear g19
      clear hfr hdep hsz
      have hn2 : n < 8 := by omega
      have hn3 := hb3 n.toNat (by omega)
      refine step_val hi0 rfl (v := .pointer (some ⟨b, n.toNat, none⟩)) (w' := x) (by simp only [execOp, eval_const, f17, f19]; simp [eval_const, go_sem, *]) ⟨_, rfl, ⟨b, n.toNat, rfl, hb1, hb2, hn3⟩, hI.pure, Upd.refl _ _⟩
    | 14, hi =>
      have hi0 := hi
      simp only [List.getElem?_toArray, List.getElem?_cons_succ, List.getElem?_cons_zero, Option.some.injEq] at hi
      subst hi
      obtain ⟨v20, g20, ⟨b, j, rfl, hb1, hb2, n, hn0, hn1, hc⟩⟩ := hdep ⟨13, .data⟩ (by simp) rfl _ rfl
      have f20 := eval_slot g20
      clear g20
      clear hfr hdep hsz
      refine step_val hi0 rfl (v := .int .i64 n) (w' := x) (by simp only [execOp, eval_const, f20]; simp [eval_const, go_sem, *]) ⟨_, rfl, ⟨n, rfl, hn0, hn1⟩, hI.pure, Upd.refl _ _⟩
    | 15, hi =>
      have hi0 := hi
      simp only [List.getElem?_toArray, List.getElem?_cons_succ, List.getElem?_cons_zero, Option.some.injEq] at hi
      subst hi
      obtain ⟨v16, g16, ⟨b, rfl, hb1, hb2, hb3⟩⟩ := hdep ⟨9, .data⟩ (by simp) rfl _ rfl
      have f16 := eval_slot g16
      clear g16
      obtain ⟨v21, g21, ⟨n, rfl, hn0, hn1⟩⟩ := hdep ⟨14, .data⟩ (by simp) rfl _ rfl
      have f21 := eval_slot g21
      clear g21
      clear hfr hdep hsz
      have hn2 : n < 4 := by omega
      have hn3 := hb3 n.toNat (by omega)
      refine step_val hi0 rfl (v := .pointer (some ⟨b, n.toNat, none⟩)) (w' := x) (by simp only [execOp, eval_const, f16, f21]; simp [eval_const, go_sem, *]) ⟨_, rfl, ⟨b, n.toNat, rfl, hb1, hb2, hn3⟩, hI.pure, Upd.refl _ _⟩
    | 16, hi =>
      have hi0 := hi
      simp only [List.getElem?_toArray, List.getElem?_cons_succ, List.getElem?_cons_zero, Option.some.injEq] at hi
      subst hi
      obtain ⟨v22, g22, ⟨b, j, rfl, hb1, hb2, n, hn0, hn1, hc⟩⟩ := hdep ⟨15, .data⟩ (by simp) rfl _ rfl
      have f22 := eval_slot g22
      clear g22
      clear hfr hdep hsz
      refine step_val hi0 rfl (v := .int .i64 n) (w' := x) (by simp only [execOp, eval_const, f22]; simp [eval_const, go_sem, *]) ⟨_, rfl, ⟨n, rfl, hn0, hn1⟩, hI.pure, Upd.refl _ _⟩
    | 17, hi =>
      have hi0 := hi
      simp only [List.getElem?_toArray, List.getElem?_cons_succ, List.getElem?_cons_zero, Option.some.injEq] at hi
      subst hi
      have f2 : a'.eval (.tmp 2) = .pointer (some ⟨w.heap.size, 0, none⟩) := eval_of ((hfr 2 (by simp)).trans rfl)
      obtain ⟨v7, g7, rfl⟩ := hdep ⟨0, .data⟩ (by simp) rfl _ rfl
      have f7 := eval_slot g7
      clear g7
      clear hfr hdep hsz
      obtain ⟨⟨u0, k0⟩, y0⟩ := hec 0 (by omega)
      obtain ⟨⟨u1, k1⟩, y1⟩ := hec 1 (by omega)
      obtain ⟨⟨u2, k2⟩, y2⟩ := hec 2 (by omega)
      obtain ⟨⟨u3, k3⟩, y3⟩ := hec 3 (by omega)
      refine step_skip hi0 rfl (w' := (((x.setCell ⟨w.heap.size, 0, none⟩ (.int .i64 s)).setCell ⟨w.heap.size, 1, none⟩ (.int .i64 ev)).setCell ⟨w.heap.size, 2, none⟩ (.int .i64 t)).setCell ⟨w.heap.size, 3, none⟩ (.int .i64 l)) (by simp only [execOp, eval_const, f2, f7]; simp [eval_const, go_sem, *]) ⟨undef, rfl, ?_, ((((hI.store 0 _ (Nat.le_refl _) hR ha).store 1 _ (Nat.le_refl _) hR ha).store 2 _ (Nat.le_refl _) hR ha).store 3 _ (Nat.le_refl _) hR ha).pure, (((Upd.setCell _ _ 0 _ (Or.inr ⟨rfl, rfl⟩)).trans (Upd.setCell _ _ 1 _ (Or.inr ⟨rfl, rfl⟩)) (fun _ h => h)).trans (Upd.setCell _ _ 2 _ (Or.inr ⟨rfl, rfl⟩)) (fun _ h => h)).trans (Upd.setCell _ _ 3 _ (Or.inr ⟨rfl, rfl⟩)) (fun _ h => h)⟩
      exact at4_set k0 k1 k2 k3
    | 18, hi =>
      have hi0 := hi
      simp only [List.getElem?_toArray, List.getElem?_cons_succ, List.getElem?_cons_zero, Option.some.injEq] at hi
      subst hi
      obtain ⟨v23, g23, ⟨n, rfl, hn0, hn1⟩⟩ := hdep ⟨16, .data⟩ (by simp) rfl _ rfl
      have f23 := eval_slot g23
      clear g23
      clear hfr hdep hsz
      refine step_val hi0 rfl (v := .int .i64 n) (w' := x) (by simp only [execOp, eval_const, f23]; simp [eval_const, go_sem, *]) ⟨_, rfl, ⟨n, rfl, hn0, hn1⟩, hI.pure, Upd.refl _ _⟩
    | i + 19, hi => simp at hi
  · intro vs x hI hv
    obtain ⟨⟨q', h1, h2, hrd, hdt⟩, hu, hec, hel⟩ := hI
    obtain ⟨now, e18, n0, n1⟩ := hv 18 (by decide)
    obtain ⟨k0, k1, k2, k3⟩ := hv 17 (by decide)
    clear hv
    simp only [putList, Act.put, List.setIfInBounds_toArray, List.set_cons_succ, List.set_cons_zero, Nat.zero_add, Nat.reduceAdd, e18]
    go_wp2
    refine bodyPost_ret_by (by simp [results, Try.results46, go_sem, k0, k1, k2, k3]) rfl ⟨s, ev, t, l, now, rfl, ⟨m1, m2, m3, m4, by omega, by omega⟩, q', by omega, ?_, hdt⟩
    have : q' ≤ q + 19 := h2
    omega
end Go.Proofs.Ytcinklbbacmihaa
