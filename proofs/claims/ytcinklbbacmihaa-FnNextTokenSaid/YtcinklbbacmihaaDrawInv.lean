/- What holds of the world all through a region of a drawing function. -/
import Derived.Test.YtcinklbbacmihaaDraw2
import Derived.Test.YtcinklbbacmihaaRegion
set_option linter.unusedSimpArgs false
set_option linter.unusedVariables false
namespace Go.Proofs.Ytcinklbbacmihaa
open Go.RowKit

theorem Upd.refl (D : Nat → Prop) (w : World) : Upd D w w := ⟨rfl, rfl, rfl, Nat.le_refl _, fun _ _ _ => rfl⟩
theorem Upd.trans {D D' : Nat → Prop} {a b c : World} (h : Upd D a b) (k : Upd D' b c) (hD : ∀ x, D' x → D x) : Upd D a c :=
  ⟨k.os.trans h.os, k.tape.trans h.tape, k.output.trans h.output, Nat.le_trans h.size k.size, fun x hx hn =>
    (k.block x (Nat.lt_of_lt_of_le hx h.size) (fun hd => hn (hD x hd))).trans (h.block x hx hn)⟩
theorem Upd.alloc (D : Nat → Prop) (w : World) (o : Obj) : Upd D w (w.alloc o) :=
  ⟨rfl, rfl, rfl, by simp, fun x hx _ => Below.heap_alloc _ _ _ hx⟩
theorem Upd.setCell {D : Nat → Prop} (w : World) (n o : Nat) (v : Value) (h : D n) : Upd D w (w.setCell ⟨n, o, none⟩ v) :=
  ⟨rfl, rfl, rfl, by simp, fun x hx hn => Below.heap_setCell _ _ _ _ (fun e => by
    have e' : x = n := e
    exact hn (e' ▸ h))⟩
theorem Upd.ext (D : Nat → Prop) (w : World) (os : Array Obj) (d : Nat) : Upd D w (ext w os d) :=
  ⟨rfl, rfl, rfl, by rw [size_ext]; omega, fun x hx _ => block_ext hx⟩
theorem Upd.cell {D : Nat → Prop} {w x : World} (h : Upd D w x) {b : Nat} (o : Nat) (hb : b < w.heap.size) (hn : ¬ D b) : x.cell? ⟨b, o, none⟩ = w.cell? ⟨b, o, none⟩ :=
  World.cell?_of_block (w := w) (h.block b hb hn)
theorem Upd.frozen {D : Nat → Prop} {w x : World} (h : Upd D w x) {b : Nat} (o : Nat) (hb : b < w.heap.size) (hn : ¬ D b) : x.frozen? ⟨b, o, none⟩ = w.frozen? ⟨b, o, none⟩ :=
  World.frozen?_of_block (w := w) (h.block b hb hn)

/-- In a region of a drawing function, behind k operations: the world Y0 began it; R is the reader, E the block of ne cells that the region stores into; below B all is as in w but for the reader's place. -/
structure DInv (w Y0 : World) (R E ne : Nat) (a : Option Addr) (len cap : Nat) (f : Nat → Int) (q : Int) (k : Nat) (x : World) : Prop where
  rd : ∃ q', q ≤ q' ∧ q' ≤ q + k ∧ RdAt x R a len cap f q' ∧ DrewTo w R q' x
  upd : Upd (fun b => b = R ∨ b = E) Y0 x
  ecell : ∀ o, o < ne → (∃ u, x.cell? ⟨E, o, none⟩ = some u) ∧ x.frozen? ⟨E, o, none⟩ = false
  elt : 0 < ne → E < x.heap.size

namespace DInv
variable {w Y0 x : World} {R E ne len cap : Nat} {a : Option Addr} {f : Nat → Int} {q : Int} {k : Nat}
theorem pure (h : DInv w Y0 R E ne a len cap f q k x) : DInv w Y0 R E ne a len cap f q (k + 1) x := by
  obtain ⟨⟨q', h1, h2, h3, h4⟩, hu, he, hl⟩ := h
  exact ⟨⟨q', h1, by omega, h3, h4⟩, hu, he, hl⟩
theorem alloc (h : DInv w Y0 R E ne a len cap f q k x) (o : Obj) : DInv w Y0 R E ne a len cap f q (k + 1) (x.alloc o) := by
  obtain ⟨⟨q', h1, h2, h3, h4⟩, hu, he, hl⟩ := h
  refine ⟨⟨q', h1, by omega, h3.alloc o, below_alloc o h4.size h4⟩, hu.trans (Upd.alloc (fun b => b = R ∨ b = E) x o) (fun _ h => h), fun j hj => ?_, fun hn => by have := hl hn; simp; omega⟩
  have hE : E < x.heap.size := hl (by omega)
  rw [World.cell?_alloc_past o E j hE, World.frozen?_alloc_past o E j hE]
  exact he j hj
theorem pick {q' : Int} (h : DInv w Y0 R E ne a len cap f q k x) (hr : RdAt x R a len cap f q') (h1 : q ≤ q') (h2 : q' ≤ q + k) (hd : DrewTo w R q' x) (hRE : R ≠ E) (d : Nat) :
    DInv w Y0 R E ne a len cap f q (k + 1) (ext (x.setCell ⟨R, 1, none⟩ (.int .i64 (q' + 1))) #[] d) := by
  refine ⟨⟨q' + 1, by omega, by omega, (hr.set (q' + 1) (by have := hr.hp; omega)).ext, ?_⟩, ?_, fun j hj => ?_, fun hn => ?_⟩
  · exact hd.trans (below_ext (by simpa using hd.size) (Below.refl _ _))
  · exact (h.upd.trans (Upd.setCell x R 1 _ (Or.inl rfl : R = R ∨ R = E)) (fun _ h => h)).trans (Upd.ext (fun b => b = R ∨ b = E) _ #[] d) (fun _ h => h)
  · rw [cell?_extn, frozen?_extn, cset_other (by intro e; exact hRE (congrArg Addr.block e)), World.frozen?_setCell]
    exact h.ecell j hj
  · rw [size_extn]
    simpa using h.elt hn
theorem store (h : DInv w Y0 R E ne a len cap f q k x) (o : Nat) (v : Value) (hE : w.heap.size ≤ E) (hR : R < w.heap.size) (ha : len = 0 ∨ ∀ b off, a = some ⟨b, off, none⟩ → b < E) :
    DInv w Y0 R E ne a len cap f q k (x.setCell ⟨E, o, none⟩ v) := by
  obtain ⟨⟨q', h1, h2, h3, h4⟩, hu, he, hl⟩ := h
  refine ⟨⟨q', h1, h2, h3.other (by omega) ha, below_setCell E o v hE h4⟩, hu.trans (Upd.setCell x E o v (Or.inr rfl : E = R ∨ E = E)) (fun _ h => h), fun j hj => ?_, fun hn => by simpa using hl hn⟩
  rw [World.frozen?_setCell]
  refine ⟨?_, (he j hj).2⟩
  obtain ⟨u, hu⟩ := (he j hj).1
  by_cases hjo : j = o
  · subst hjo; exact ⟨_, cset_same hu⟩
  · exact ⟨u, by rw [cset_other (by intro e; exact hjo (congrArg Addr.off e).symm)]; exact hu⟩
end DInv

/-- a slice of k numbers in lo..hi, in a block from N on -/
def SlI (N k : Nat) (lo hi : Int) (v : Value) (x : World) : Prop :=
  ∃ b, v = .slice (some ⟨b, 0, none⟩) k k ∧ N ≤ b ∧ b < x.heap.size ∧ ∀ j, j < k → ∃ n, lo ≤ n ∧ n ≤ hi ∧ x.cell? ⟨b, j, none⟩ = some (.int .i64 n)
/-- the address of a number in lo..hi, in a block from N on -/
def ElI (N : Nat) (lo hi : Int) (v : Value) (x : World) : Prop :=
  ∃ b j, v = .pointer (some ⟨b, j, none⟩) ∧ N ≤ b ∧ b < x.heap.size ∧ ∃ n, lo ≤ n ∧ n ≤ hi ∧ x.cell? ⟨b, j, none⟩ = some (.int .i64 n)
/-- a number in lo..hi -/
def InI (lo hi : Int) (v : Value) : Prop := ∃ n, v = .int .i64 n ∧ lo ≤ n ∧ n ≤ hi

theorem SlI.upd {N k : Nat} {lo hi : Int} {v : Value} {D : Nat → Prop} {x y : World} (h : SlI N k lo hi v x) (hu : Upd D x y) (hD : ∀ b, D b → b < N) : SlI N k lo hi v y := by
  obtain ⟨b, h1, h2, h3, h4⟩ := h
  refine ⟨b, h1, h2, Nat.lt_of_lt_of_le h3 hu.size, fun j hj => ?_⟩
  obtain ⟨n, g1, g2, g3⟩ := h4 j hj
  exact ⟨n, g1, g2, by rw [hu.cell j h3 (fun hd => by have := hD b hd; omega)]; exact g3⟩
theorem ElI.upd {N : Nat} {lo hi : Int} {v : Value} {D : Nat → Prop} {x y : World} (h : ElI N lo hi v x) (hu : Upd D x y) (hD : ∀ b, D b → b < N) : ElI N lo hi v y := by
  obtain ⟨b, j, h1, h2, h3, n, g1, g2, g3⟩ := h
  exact ⟨b, j, h1, h2, Nat.lt_of_lt_of_le h3 hu.size, n, g1, g2, by rw [hu.cell j h3 (fun hd => by have := hD b hd; omega)]; exact g3⟩

/-- the four numbers in the block E -/
def At4 (E : Nat) (s ev t l : Int) (x : World) : Prop :=
  x.cell? ⟨E, 0, none⟩ = some (.int .i64 s) ∧ x.cell? ⟨E, 1, none⟩ = some (.int .i64 ev) ∧ x.cell? ⟨E, 2, none⟩ = some (.int .i64 t) ∧ x.cell? ⟨E, 3, none⟩ = some (.int .i64 l)
theorem At4.upd {E : Nat} {s ev t l : Int} {D : Nat → Prop} {x y : World} (h : At4 E s ev t l x) (hu : Upd D x y) (hD : ¬ D E) : At4 E s ev t l y := by
  have hE : E < x.heap.size := World.block_lt_of_cell? _ _ h.1
  obtain ⟨h0, h1, h2, h3⟩ := h
  exact ⟨by rw [hu.cell 0 hE hD]; exact h0, by rw [hu.cell 1 hE hD]; exact h1, by rw [hu.cell 2 hE hD]; exact h2, by rw [hu.cell 3 hE hD]; exact h3⟩
theorem at4_set {E : Nat} {s ev t l : Int} {x : World} {u0 u1 u2 u3 : Value} (h0 : x.cell? ⟨E, 0, none⟩ = some u0) (h1 : x.cell? ⟨E, 1, none⟩ = some u1) (h2 : x.cell? ⟨E, 2, none⟩ = some u2) (h3 : x.cell? ⟨E, 3, none⟩ = some u3) :
    At4 E s ev t l ((((x.setCell ⟨E, 0, none⟩ (.int .i64 s)).setCell ⟨E, 1, none⟩ (.int .i64 ev)).setCell ⟨E, 2, none⟩ (.int .i64 t)).setCell ⟨E, 3, none⟩ (.int .i64 l)) := by
  have ne : ∀ i j : Nat, i ≠ j → (⟨E, i, none⟩ : Addr) ≠ ⟨E, j, none⟩ := fun i j h e => h (congrArg Addr.off e)
  refine ⟨?_, ?_, ?_, ?_⟩
  · rw [cset_other (ne 3 0 (by decide)), cset_other (ne 2 0 (by decide)), cset_other (ne 1 0 (by decide))]
    exact cset_same h0
  · rw [cset_other (ne 3 1 (by decide)), cset_other (ne 2 1 (by decide))]
    exact cset_same (by rw [cset_other (ne 0 1 (by decide))]; exact h1)
  · rw [cset_other (ne 3 2 (by decide))]
    exact cset_same (by rw [cset_other (ne 1 2 (by decide)), cset_other (ne 0 2 (by decide))]; exact h2)
  · exact cset_same (by rw [cset_other (ne 2 3 (by decide)), cset_other (ne 1 3 (by decide)), cset_other (ne 0 3 (by decide))]; exact h3)
end Go.Proofs.Ytcinklbbacmihaa
