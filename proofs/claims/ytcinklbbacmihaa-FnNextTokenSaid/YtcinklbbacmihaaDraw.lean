/- The reader of a code: pick and odd. -/
import Derived.Test.YtcinklbbacmihaaLib
import Derived.Test.YtcinklbbacmihaaRows
set_option linter.unusedSimpArgs false
set_option linter.unusedVariables false
namespace Go.Proofs.Ytcinklbbacmihaa
open Go.RowKit

/-- the reader in block R: the code's slice, the place p; every letter of the code is a byte -/
structure RdAt (w : World) (R : Nat) (a : Option Addr) (len cap : Nat) (f : Nat → Int) (p : Int) : Prop where
  lt : R < w.heap.size
  c0 : w.cell? ⟨R, 0, none⟩ = some (.slice a len cap)
  c1 : w.cell? ⟨R, 1, none⟩ = some (.int .i64 p)
  fz : w.frozen? ⟨R, 1, none⟩ = false
  hl : len ≤ 2000
  hp : 0 ≤ p
  row : len = 0 ∨ ∃ b off, a = some ⟨b, off, none⟩ ∧ b < w.heap.size ∧ b ≠ R ∧ ∀ j, j < len → w.cell? ⟨b, off + j, none⟩ = some (.int .u8 (f j))
  bd : ∀ j, 0 ≤ f j ∧ f j ≤ 255

theorem ext_set_same (w : World) (R o : Nat) (x y : Value) : (w.setCell ⟨R, o, none⟩ x).setCell ⟨R, o, none⟩ y = w.setCell ⟨R, o, none⟩ y := by
  unfold World.setCell
  congr 1
  apply Array.ext_getElem?
  intro k
  simp only [Array.getElem?_modify]
  by_cases hk : R = k
  · subst hk
    cases hh : w.heap[R]? with
    | none => simp
    | some v => cases v <;> simp
  · simp [hk]

set_option maxHeartbeats 800000 in
theorem pick_zero (w : World) (R : Nat) (a : Option Addr) (len cap : Nat) (f : Nat → Int) (p n : Int) (h : RdAt w R a len cap f p) (hp : p ≤ 1000000) (hn : n < 1 ∨ (1 ≤ n ∧ len = 0)) :
    Calls Try.prog 47 #[.pointer (some ⟨R, 0, none⟩), .int .i64 n] w fun e w' =>
      e = .returned (.int .i64 0) ∧ w' = w.setCell ⟨R, 1, none⟩ (.int .i64 (p + 1)) := by
  obtain ⟨lt, c0, c1, fz, hl, h0, row, bd⟩ := h
  clear row bd
  rcases hn with hn | ⟨hn, he⟩
  · go_enter Try.func47, Try.ntmps47
    go_wp2
    go_ret
    exact ⟨rfl, rfl⟩
  · have hz : ((len : Int) == 0) = true := by simp [he]
    clear he
    go_enter Try.func47, Try.ntmps47
    go_wp2
    go_ret
    exact ⟨rfl, rfl⟩

set_option maxHeartbeats 800000 in
theorem pick_in (w : World) (R : Nat) (a : Option Addr) (len cap : Nat) (f : Nat → Int) (p : Nat) (n : Int) (h : RdAt w R a len cap f p) (hp : p < len) (hn : 1 ≤ n) :
    Calls Try.prog 47 #[.pointer (some ⟨R, 0, none⟩), .int .i64 n] w fun e w' =>
      e = .returned (.int .i64 (f p % n)) ∧ w' = w.setCell ⟨R, 1, none⟩ (.int .i64 (p + 1)) := by
  obtain ⟨lt, c0, c1, fz, hl, h0, row, bd⟩ := h
  rcases row with hr | ⟨b, off, rfl, hb, hbr, hc⟩
  · omega
  have hc1 := hc p hp
  have hb1 := (bd p).1
  have hb2 := (bd p).2
  clear bd hc
  have hz : ((len : Int) == 0) = false := by simp; omega
  go_enter Try.func47, Try.ntmps47
  go_wp2
  go_ret
  exact ⟨rfl, rfl⟩

set_option maxHeartbeats 1600000 in
theorem pick_out (w : World) (R : Nat) (a : Option Addr) (len cap : Nat) (f : Nat → Int) (p : Nat) (n : Int) (h : RdAt w R a len cap f p) (hp : len ≤ p) (hpb : p ≤ 1000000) (hlen : 1 ≤ len) (hn : 1 ≤ n) :
    Calls Try.prog 47 #[.pointer (some ⟨R, 0, none⟩), .int .i64 n] w fun e w' =>
      ∃ x d, e = .returned (.int .i64 (x % n)) ∧ w' = (w.setCell ⟨R, 1, none⟩ (.int .i64 (p + 1))).drewN d := by
  obtain ⟨lt, c0, c1, fz, hl, h0, row, bd⟩ := h
  rcases row with hr | ⟨b, off, rfl, hb, hbr, hc⟩
  · omega
  have bdr : ∀ j, f j ≤ 255 := fun j => (bd j).2
  have bdl : ∀ j, 0 ≤ f j := fun j => (bd j).1
  have m1 : 0 ≤ (p : Int) % len := Int.emod_nonneg _ (by omega)
  have m2 : (p : Int) % len < len := Int.emod_lt_of_pos _ (by omega)
  have m3 : 0 ≤ ((p : Int) * 7 + 3) % len := Int.emod_nonneg _ (by omega)
  have m4 : ((p : Int) * 7 + 3) % len < len := Int.emod_lt_of_pos _ (by omega)
  have q1 : 0 ≤ (p : Int) / len := Int.ediv_nonneg (by omega) (by omega)
  have q2 : (p : Int) / len ≤ p := Int.ediv_le_self _ (by omega)
  have hc1 := hc ((p : Int) % len).toNat (by omega)
  have hc2 := hc (((p : Int) * 7 + 3) % len).toNat (by omega)
  have u1 := bdl ((p : Int) % len).toNat
  have u2 := bdr ((p : Int) % len).toNat
  have u3 := bdl (((p : Int) * 7 + 3) % len).toNat
  have u4 := bdr (((p : Int) * 7 + 3) % len).toNat
  clear bd bdr bdl hc
  have hz : ((len : Int) == 0) = false := by simp; omega
  have hz2 : ¬ (len : Int) = 0 := by omega
  have hz3 : ¬ len = 0 := by omega
  generalize f ((p : Int) % len).toNat = x at *
  generalize f (((p : Int) * 7 + 3) % len).toNat = y at *
  have e1 : (p : Int).tmod len = (p : Int) % len := Int.tmod_eq_emod_of_nonneg (by omega)
  have e2 : IntKind.i64.wrap ((p : Int) * 7) = (p : Int) * 7 := IntWalk.i64_in _ (by omega)
  have e3 : IntKind.i64.wrap ((p : Int) * 7 + 3) = (p : Int) * 7 + 3 := IntWalk.i64_in _ (by omega)
  have e4 : ((p : Int) * 7 + 3).tmod len = ((p : Int) * 7 + 3) % len := Int.tmod_eq_emod_of_nonneg (by omega)
  have f1 : IntKind.i64.wrap x = x := IntWalk.i64_in _ (by omega)
  have f2 : IntKind.i64.wrap y = y := IntWalk.i64_in _ (by omega)
  have f3 : IntKind.i64.wrap ((p : Int) / len) = (p : Int) / len := IntWalk.i64_in _ (by omega)
  have e5 : IntKind.i64.wrap (x * 131) = x * 131 := IntWalk.i64_in _ (by omega)
  have e6 : IntKind.i64.wrap (y * 1117) = y * 1117 := IntWalk.i64_in _ (by omega)
  have e7 : IntKind.i64.wrap (x * 131 + y * 1117) = x * 131 + y * 1117 := IntWalk.i64_in _ (by omega)
  have e8 : IntKind.i64.wrap ((p : Int) * 29) = (p : Int) * 29 := IntWalk.i64_in _ (by omega)
  have e9 : IntKind.i64.wrap (x * 131 + y * 1117 + (p : Int) * 29) = x * 131 + y * 1117 + (p : Int) * 29 := IntWalk.i64_in _ (by omega)
  have e10 : IntKind.i64.wrap ((p : Int).tdiv len) = (p : Int) / len := by rw [Int.tdiv_eq_ediv_of_nonneg (by omega)]; exact IntWalk.i64_in _ (by omega)
  have e11 : IntKind.i64.wrap ((p : Int) / len * 53) = (p : Int) / len * 53 := IntWalk.i64_in _ (by omega)
  have e12 : IntKind.i64.wrap (x * 131 + y * 1117 + (p : Int) * 29 + (p : Int) / len * 53) = x * 131 + y * 1117 + (p : Int) * 29 + (p : Int) / len * 53 := IntWalk.i64_in _ (by omega)
  go_enter Try.func47, Try.ntmps47
  go_wp2
  go_quiet (fail)
  clear e1 e2 e3 e4 e5 e6 e7 e8 e9 e10 e11 e12 f1 f2 f3
  have X0 : 0 ≤ x * 131 + y * 1117 + (p : Int) * 29 + (p : Int) / len * 53 := by omega
  have X1 : x * 131 + y * 1117 + (p : Int) * 29 + (p : Int) / len * 53 ≤ 100000000 := by omega
  generalize x * 131 + y * 1117 + (p : Int) * 29 + (p : Int) / len * 53 = X at *
  obtain ⟨Z, hZ, HZ⟩ : ∃ Z : Int, 0 ≤ Z ∧ bits .xor .i64 X (X / 64) = Z := ⟨_, xor_nonneg X (X / 64) X0 (by omega) (by omega) (by omega), rfl⟩
  go_wp2
  go_ret
  exact ⟨Z, nq, rfl, rfl⟩
end Go.Proofs.Ytcinklbbacmihaa
