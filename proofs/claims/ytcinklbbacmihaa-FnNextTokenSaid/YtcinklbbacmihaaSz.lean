/- Sizes of worlds by instances: a bound on a block's number, however deep the world's term. -/
import Derived.Test.YtcinklbbacmihaaLib
set_option linter.unusedVariables false
namespace Go.Proofs.Ytcinklbbacmihaa

class LeSize (n : Nat) (w : World) : Prop where
  out : n ≤ w.heap.size

section
variable {w : World} {n : Nat}
theorem size_alloc' (o : Obj) : (w.alloc o).heap.size = w.heap.size + 1 := by simp [go_sem]
instance LeSize.refl : LeSize w.heap.size w := ⟨Nat.le_refl _⟩
instance LeSize.ext (os : Array Obj) (d : Nat) [h : LeSize n w] : LeSize n (ext w os d) := ⟨le_ext h.out⟩
instance LeSize.set (a : Addr) (v : Value) [h : LeSize n w] : LeSize n (w.setCell a v) := ⟨by have := h.out; simp [World.setCell]; omega⟩
instance (priority := 900) LeSize.alloc (o : Obj) [h : LeSize n w] : LeSize n (w.alloc o) := ⟨by rw [size_alloc' o]; have := h.out; omega⟩
instance LeSize.alloc1 (o : Obj) [h : LeSize n w] : LeSize (n + 1) (w.alloc o) := ⟨by rw [size_alloc' o]; have := h.out; omega⟩
@[go_sem] theorem lt_size [h : LeSize (n + 1) w] : n < w.heap.size := h.out
@[go_sem] theorem le_size [h : LeSize n w] : n ≤ w.heap.size := h.out
end

example (X : World) (o p q : Obj) (os os' : Array Obj) (d d' : Nat) : X.heap.size < (ext ((ext (X.alloc o) os d).alloc p) os' d').heap.size := by
  simp only [go_sem]
example (X : World) (o p q : Obj) (os os' : Array Obj) (d d' : Nat) : X.heap.size + 1 < (ext ((ext ((X.alloc o).alloc q) os d).alloc p) os' d').heap.size := by
  simp only [go_sem]
example (R : Nat) (X : World) [LeSize (R + 1) X] (o p q : Obj) (os os' : Array Obj) (d d' : Nat) : R < (ext ((ext ((X.alloc o).alloc q) os d).alloc p) os' d').heap.size := by
  simp only [go_sem]
end Go.Proofs.Ytcinklbbacmihaa
