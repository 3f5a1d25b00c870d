/- Small lemmas of our own over the kit's worlds, used by all walks of this seat; no program in sight. -/
import Derived.WalkKit
import Derived.WalkSpells
import Derived.Deep.QuietTactic
import Derived.Deep.RegionHeld3
import Derived.Deep.LoopGhost
import Derived.BigQuiet
import Derived.Outline
import Derived.Lib.Hide
set_option linter.unusedSimpArgs false
set_option linter.unusedVariables false
namespace Go.Proofs.Ytcinklbbacmihaa
open Go.RowKit

theorem rd {a : Bool} {P : Prop} [Decidable P] (h : a = true ↔ P) : Ending.returned (.bool a) = .returned (.bool (decide P)) := by
  congr 2
  exact Bool.eq_iff_iff.2 (by simpa using h)

theorem bcell {W w1 : World} (hb : Below W.heap.size W w1) : (∀ b o, b < W.heap.size → w1.cell? ⟨b, o, none⟩ = W.cell? ⟨b, o, none⟩) ∧ (∀ b o, b < W.heap.size → w1.frozen? ⟨b, o, none⟩ = W.frozen? ⟨b, o, none⟩) :=
  ⟨fun b o h => hb.cell (p := ⟨b, o, none⟩) h, fun b o h => hb.frozen (p := ⟨b, o, none⟩) h⟩

theorem below_after {B' B : Nat} {a w w' : World} (k : Below B w w') (hB : B' ≤ B) (h : Below B' a w) : Below B' a w' := h.trans (k.mono hB)

/-- the world with new blocks behind it and draws made -/
def ext (w : World) (os : Array Obj) (d : Nat) : World := { w with heap := w.heap ++ os, drawn := d }

section
variable {w : World} {os : Array Obj} {d n : Nat}
theorem size_ext : (ext w os d).heap.size = w.heap.size + os.size := by simp [ext]
@[go_sem] theorem le_step {n m : Nat} (h : n ≤ m) : n ≤ m + 1 := by omega
@[go_sem] theorem lt_step {n m : Nat} (h : n < m) : n < m + 1 := by omega
@[go_sem] theorem le_2 {n : Nat} : n ≤ n + 1 + 1 := by omega
@[go_sem] theorem le_3 {n : Nat} : n ≤ n + 1 + 1 + 1 := by omega
@[go_sem] theorem le_4 {n : Nat} : n ≤ n + 1 + 1 + 1 + 1 := by omega
@[go_sem] theorem le_5 {n : Nat} : n ≤ n + 1 + 1 + 1 + 1 + 1 := by omega
@[go_sem] theorem le_6 {n : Nat} : n ≤ n + 1 + 1 + 1 + 1 + 1 + 1 := by omega
@[go_sem] theorem le_7 {n : Nat} : n ≤ n + 1 + 1 + 1 + 1 + 1 + 1 + 1 := by omega
@[go_sem] theorem ext_ext (os' : Array Obj) (d' : Nat) : ext (ext w os d) os' d' = ext w (os ++ os') d' := by
  unfold ext
  simp only [World.mk.injEq, and_true]
  exact Array.append_assoc
@[go_sem] theorem lt_ext (h : n < w.heap.size) : n < (ext w os d).heap.size := by rw [size_ext]; omega
@[go_sem] theorem le_ext (h : n ≤ w.heap.size) : n ≤ (ext w os d).heap.size := by rw [size_ext]; omega
theorem block_ext (h : n < w.heap.size) : (ext w os d).heap[n]? = w.heap[n]? := by
  show (w.heap ++ os)[n]? = _
  rw [Array.getElem?_append_left h]
@[go_sem] theorem cell?_ext (o : Nat) (h : n < w.heap.size) : (ext w os d).cell? ⟨n, o, none⟩ = w.cell? ⟨n, o, none⟩ :=
  World.cell?_of_block (w := w) (block_ext h)
@[go_sem] theorem frozen?_ext (o : Nat) (h : n < w.heap.size) : (ext w os d).frozen? ⟨n, o, none⟩ = w.frozen? ⟨n, o, none⟩ :=
  World.frozen?_of_block (w := w) (block_ext h)
@[go_sem] theorem setCell_ext (o : Nat) (v : Value) (h : n < w.heap.size) : (ext w os d).setCell ⟨n, o, none⟩ v = ext (w.setCell ⟨n, o, none⟩ v) os d := by
  unfold ext World.setCell
  congr 1
  apply Array.ext_getElem?
  intro k
  simp only [Array.getElem?_modify, Array.getElem?_append, Array.size_modify]
  by_cases hk : n = k
  · subst hk; simp [h]
  · simp [hk]
@[go_sem] theorem drew_ext : ext w.drew os d = ext w os d := rfl
@[go_sem] theorem tape_ext : (ext w os d).tape = w.tape := rfl
theorem le_alloc (o : Obj) (h : n ≤ w.heap.size) : n ≤ (w.alloc o).heap.size := by rw [World.size_alloc]; omega
theorem le_set (a : Addr) (v : Value) (h : n ≤ w.heap.size) : n ≤ (w.setCell a v).heap.size := by rw [World.size_setCell]; exact h
theorem below_alloc {B : Nat} {a : World} (o : Obj) (hB : B ≤ w.heap.size) (h : Below B a w) : Below B a (w.alloc o) := h.alloc hB o
theorem below_setCell {B : Nat} {a : World} (n o : Nat) (v : Value) (hB : B ≤ n) (h : Below B a w) : Below B a (w.setCell ⟨n, o, none⟩ v) := h.setCell (p := ⟨n, o, none⟩) hB v
theorem below_ext {B : Nat} {a : World} (hB : B ≤ w.heap.size) (h : Below B a w) : Below B a (ext w os d) :=
  h.trans ⟨rfl, rfl, rfl, by rw [size_ext]; omega, fun k hk => block_ext (by omega)⟩
theorem ext_of {w w1 : World} (hb : Below w.heap.size w w1) : ∃ os d, w1 = ext w os d := by
  refine ⟨w1.heap.extract w.heap.size w1.heap.size, w1.drawn, ?_⟩
  obtain ⟨h1, t1, d1, o1, u1⟩ := w1
  obtain ⟨ho, ht, hu, hs, hk⟩ := hb
  simp only at ho ht hu hs hk
  subst ho ht hu
  unfold ext
  simp only [World.mk.injEq, and_true]
  apply Array.ext_getElem?
  intro k
  rw [Array.getElem?_append]
  split
  · rename_i hlt; exact hk k hlt
  · rename_i hge
    rw [Array.getElem?_extract]
    split
    · congr 1; omega
    · rename_i hz; rw [Array.getElem?_eq_none]; omega
end

end Go.Proofs.Ytcinklbbacmihaa
