/- The reader of a code, in one form for all uses; and the drawn buckets. -/
import Derived.Test.YtcinklbbacmihaaDraw
set_option linter.unusedSimpArgs false
set_option linter.unusedVariables false
namespace Go.Proofs.Ytcinklbbacmihaa
open Go.RowKit

theorem ext_nil (w : World) (n : Nat) : w.drewN n = ext w #[] (w.drawn + n) := by simp [ext, World.drewN]
theorem ext_zero (w : World) : w = ext w #[] w.drawn := by simp [ext]

namespace RdAt
variable {w : World} {R : Nat} {a : Option Addr} {len cap : Nat} {f : Nat → Int} {p : Int}
theorem set {q' : Int} (q : Int) (hq : 0 ≤ q) (h : RdAt w R a len cap f q') : RdAt (w.setCell ⟨R, 1, none⟩ (.int .i64 q)) R a len cap f q := by
  obtain ⟨lt, c0, c1, fz, hl, h0, row, bd⟩ := h
  refine ⟨by simpa using lt, ?_, cset_same c1, by simpa using fz, hl, hq, ?_, bd⟩
  · rw [cset_other (by simp)]; exact c0
  · rcases row with hr | ⟨b, off, rfl, hb, hbr, hc⟩
    · exact Or.inl hr
    · refine Or.inr ⟨b, off, rfl, by simpa using hb, hbr, fun j hj => ?_⟩
      rw [cset_other (by intro e; exact hbr (congrArg Addr.block e).symm)]
      exact hc j hj
theorem below {w' : World} (h : RdAt w R a len cap f p) (hb : Below w.heap.size w w') : RdAt w' R a len cap f p := by
  obtain ⟨lt, c0, c1, fz, hl, h0, row, bd⟩ := h
  obtain ⟨hc, hf⟩ := bcell hb
  have hs := hb.size
  refine ⟨by omega, by rw [hc _ _ lt]; exact c0, by rw [hc _ _ lt]; exact c1, by rw [hf _ _ lt]; exact fz, hl, h0, ?_, bd⟩
  rcases row with hr | ⟨b, off, rfl, hbl, hbr, hcc⟩
  · exact Or.inl hr
  · exact Or.inr ⟨b, off, rfl, by omega, hbr, fun j hj => by rw [hc _ _ hbl]; exact hcc j hj⟩
theorem alloc (o : Obj) (h : RdAt w R a len cap f p) : RdAt (w.alloc o) R a len cap f p := h.below (below_alloc _ (Nat.le_refl _) (Below.refl _ _))
theorem ext {os : Array Obj} {d : Nat} (h : RdAt w R a len cap f p) : RdAt (ext w os d) R a len cap f p := h.below (below_ext (Nat.le_refl _) (Below.refl _ _))
theorem codeLt (h : RdAt w R a len cap f p) : len = 0 ∨ ∀ b off, a = some ⟨b, off, none⟩ → b < w.heap.size := by
  rcases h.row with hr | ⟨b, off, rfl, hb, _, _⟩
  · exact Or.inl hr
  · exact Or.inr fun b' off' e => by cases e; exact hb
theorem drew (h : RdAt w R a len cap f p) : RdAt w.drew R a len cap f p := h.below ((Below.refl _ _).drew)
theorem other {n o : Nat} {v : Value} (h : RdAt w R a len cap f p) (hn : R < n) (hb : len = 0 ∨ ∀ b off, a = some ⟨b, off, none⟩ → b < n) : RdAt (w.setCell ⟨n, o, none⟩ v) R a len cap f p := by
  obtain ⟨lt, c0, c1, fz, hl, h0, row, bd⟩ := h
  have ne : ∀ x y : Nat, x < n → (⟨n, o, none⟩ : Addr) ≠ ⟨x, y, none⟩ := fun x y hx e => by have := congrArg Addr.block e; simp at this; omega
  refine ⟨by simpa using lt, by rw [cset_other (ne _ _ hn)]; exact c0, by rw [cset_other (ne _ _ hn)]; exact c1, by simpa using fz, hl, h0, ?_, bd⟩
  rcases row with hr | ⟨b, off, rfl, hbl, hbr, hcc⟩
  · exact Or.inl hr
  · rcases hb with hb | hb
    · exact Or.inl hb
    · exact Or.inr ⟨b, off, rfl, by simpa using hbl, hbr, fun j hj => by rw [cset_other (ne _ _ (hb b off rfl))]; exact hcc j hj⟩
end RdAt

attribute [go_sem] ext_set_same

theorem below_both {B R o : Nat} {w X : World} {u u' : Value} (h : Below B (w.setCell ⟨R, o, none⟩ u) X) : Below B (w.setCell ⟨R, o, none⟩ u') (X.setCell ⟨R, o, none⟩ u') := by
  obtain ⟨ho, ht, hu, hs, hk⟩ := h
  refine ⟨ho, ht, hu, by simpa using hs, fun k hkB => ?_⟩
  have e := hk k hkB
  rw [← ext_set_same w R o u u']
  simp only [World.setCell, Array.getElem?_modify] at e ⊢
  rw [e]

/-- the world X is w with the reader's place at q and new memory behind it -/
def DrewTo (w : World) (R : Nat) (q : Int) (X : World) : Prop := Below w.heap.size (w.setCell ⟨R, 1, none⟩ (.int .i64 q)) X

theorem DrewTo.trans {w X Y : World} {R : Nat} {q q' : Int} (h : DrewTo w R q X) (k : Below w.heap.size (X.setCell ⟨R, 1, none⟩ (.int .i64 q')) Y) : DrewTo w R q' Y :=
  (below_both h).trans k
theorem DrewTo.size {w X : World} {R : Nat} {q : Int} (h : DrewTo w R q X) : w.heap.size ≤ X.heap.size := by
  have := Below.size h
  simpa using this
theorem DrewTo.of_alloc {w X : World} {R : Nat} {q : Int} {o : Obj} (h : DrewTo (w.alloc o) R q X) (hR : R < w.heap.size) : DrewTo w R q X := by
  unfold DrewTo at h ⊢
  rw [World.setCell_alloc_past o R 1 _ hR] at h
  exact (below_alloc o (by simp) (Below.refl _ _)).trans (h.mono (by simp))
theorem DrewTo.cell {w X : World} {R : Nat} {q : Int} (h : DrewTo w R q X) (b o : Nat) (hb : b < w.heap.size) (hr : b ≠ R) : X.cell? ⟨b, o, none⟩ = w.cell? ⟨b, o, none⟩ := by
  have e := Below.cell h (p := ⟨b, o, none⟩) hb
  rw [e, cset_other (by intro e; exact hr (congrArg Addr.block e).symm)]
theorem DrewTo.frozen {w X : World} {R : Nat} {q : Int} (h : DrewTo w R q X) (b o : Nat) (hb : b < w.heap.size) : X.frozen? ⟨b, o, none⟩ = w.frozen? ⟨b, o, none⟩ := by
  have e := Below.frozen h (p := ⟨b, o, none⟩) hb
  rw [e, World.frozen?_setCell]
theorem RdAt.to {w X : World} {R : Nat} {a : Option Addr} {len cap : Nat} {f : Nat → Int} {p q : Int} (h : RdAt w R a len cap f p) (k : DrewTo w R q X) (hq : 0 ≤ q) : RdAt X R a len cap f q :=
  (h.set q hq).below (by unfold DrewTo at k; simpa using k)

/-- what one look at the code gives: a number in 0..n-1 (0 if n is below 1); the reader goes on by one -/
def Picked (w : World) (R : Nat) (p n : Int) (e : Ending) (w' : World) : Prop :=
  ∃ v d, e = .returned (.int .i64 v) ∧ 0 ≤ v ∧ (1 ≤ n → v < n) ∧ (n < 1 → v = 0) ∧ w' = ext (w.setCell ⟨R, 1, none⟩ (.int .i64 (p + 1))) #[] d

theorem pick_any (w : World) (R : Nat) (a : Option Addr) (len cap : Nat) (f : Nat → Int) (p n : Int) (h : RdAt w R a len cap f p) (hp : p ≤ 1000000) :
    Calls Try.prog 47 #[.pointer (some ⟨R, 0, none⟩), .int .i64 n] w (Picked w R p n) := by
  have h0 := h.hp
  obtain ⟨q, rfl⟩ := Int.eq_ofNat_of_zero_le h0
  by_cases hn : 1 ≤ n
  · by_cases hl : len = 0
    · exact (pick_zero w R a len cap f q n h hp (Or.inr ⟨hn, hl⟩)).mono fun e w' ⟨he, hw⟩ => ⟨0, _, he, by omega, fun _ => by omega, fun _ => rfl, hw.trans (ext_zero _)⟩
    · have em (x : Int) : 0 ≤ x % n ∧ x % n < n := ⟨Int.emod_nonneg _ (by omega), Int.emod_lt_of_pos _ (by omega)⟩
      by_cases hq : q < len
      · exact (pick_in w R a len cap f q n h hq hn).mono fun e w' ⟨he, hw⟩ => ⟨_, _, he, (em _).1, fun _ => (em _).2, fun k => by omega, hw.trans (ext_zero _)⟩
      · exact (pick_out w R a len cap f q n h (by omega) (by omega) (by omega) hn).mono fun e w' ⟨x, d, he, hw⟩ => ⟨_, _, he, (em _).1, fun _ => (em _).2, fun k => by omega, hw.trans (ext_nil _ _)⟩
  · exact (pick_zero w R a len cap f q n h hp (Or.inl (by omega))).mono fun e w' ⟨he, hw⟩ => ⟨0, _, he, by omega, fun _ => by omega, fun _ => rfl, hw.trans (ext_zero _)⟩

theorem pick_lt (w : World) (R : Nat) (a : Option Addr) (len cap : Nat) (f : Nat → Int) (p n : Int) (h : RdAt w R a len cap f p) (hp : p ≤ 1000000) (hn : 1 ≤ n) :
    Calls Try.prog 47 #[.pointer (some ⟨R, 0, none⟩), .int .i64 n] w fun e w' =>
      ∃ v d, e = .returned (.int .i64 v) ∧ 0 ≤ v ∧ v < n ∧ w' = ext (w.setCell ⟨R, 1, none⟩ (.int .i64 (p + 1))) #[] d :=
  (pick_any w R a len cap f p n h hp).mono fun e w' ⟨v, d, he, h0, h1, _, hw⟩ => ⟨v, d, he, h0, h1 hn, hw⟩

theorem odd_any (w : World) (R : Nat) (a : Option Addr) (len cap : Nat) (f : Nat → Int) (p n : Int) (h : RdAt w R a len cap f p) (hp : p ≤ 1000000) (hn : 1 ≤ n) (hn2 : n ≤ 1000000) :
    Calls Try.prog 48 #[.pointer (some ⟨R, 0, none⟩), .int .i64 n] w fun e w' =>
      ∃ b d, e = .returned (.bool b) ∧ w' = ext (w.setCell ⟨R, 1, none⟩ (.int .i64 (p + 1))) #[] d := by
  go_enter Try.func48, Try.ntmps48
  go_wp2_with (go_at_call 47; refine (pick_lt _ R a len cap f _ _ (by repeat (first | assumption | with_reducible apply RdAt.ext | with_reducible apply RdAt.alloc | with_reducible apply RdAt.drew | (with_reducible apply RdAt.set; (focus omega)))) ?_ ?_).mono ?_; omega; omega; rintro e w1 ⟨v, d, rfl, hv0, hv1, rfl⟩)
  go_ret
  exact ⟨_, _, rfl, rfl⟩

theorem odd_zero (w : World) (R : Nat) : Calls Try.prog 48 #[.pointer (some ⟨R, 0, none⟩), .int .i64 0] w fun e w' => e = .returned (.bool false) ∧ w = w' := by
  go_enter Try.func48, Try.ntmps48
  go_wp2_with fail
  go_ret
  exact ⟨rfl, rfl⟩
end Go.Proofs.Ytcinklbbacmihaa
