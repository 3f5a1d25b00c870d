/- Small lemmas of our own over the kit's worlds, used by all walks of this seat; no program in sight. -/
import Derived.WalkKit
import Derived.WalkSpells
import Derived.Deep.QuietTactic
import Derived.Deep.RegionHeld3
import Derived.Deep.LoopGhost
import Derived.BigQuiet
import Derived.Outline
import Derived.Lib.Hide
set_option linter.unusedSimpArgs false
set_option linter.unusedVariables false
namespace Go.Proofs.Ytcinklbbacmihaa
open Go.RowKit

theorem rd {a : Bool} {P : Prop} [Decidable P] (h : a = true ↔ P) : Ending.returned (.bool a) = .returned (.bool (decide P)) := by
  congr 2
  exact Bool.eq_iff_iff.2 (by simpa using h)

theorem bcell {W w1 : World} (hb : Below W.heap.size W w1) : (∀ b o, b < W.heap.size → w1.cell? ⟨b, o, none⟩ = W.cell? ⟨b, o, none⟩) ∧ (∀ b o, b < W.heap.size → w1.frozen? ⟨b, o, none⟩ = W.frozen? ⟨b, o, none⟩) :=
  ⟨fun b o h => hb.cell (p := ⟨b, o, none⟩) h, fun b o h => hb.frozen (p := ⟨b, o, none⟩) h⟩

theorem below_after {B' B : Nat} {a w w' : World} (k : Below B w w') (hB : B' ≤ B) (h : Below B' a w) : Below B' a w' := h.trans (k.mono hB)

/-- the world with new blocks behind it and draws made -/
def ext (w : World) (os : Array Obj) (d : Nat) : World := { w with heap := w.heap ++ os, drawn := d }

section
variable {w : World} {os : Array Obj} {d n : Nat}
theorem size_ext : (ext w os d).heap.size = w.heap.size + os.size := by simp [ext]
@[go_sem] theorem le_step {n m : Nat} (h : n ≤ m) : n ≤ m + 1 := by omega
@[go_sem] theorem lt_step {n m : Nat} (h : n < m) : n < m + 1 := by omega
@[go_sem] theorem le_2 {n : Nat} : n ≤ n + 1 + 1 := by omega
@[go_sem] theorem le_3 {n : Nat} : n ≤ n + 1 + 1 + 1 := by omega
@[go_sem] theorem le_4 {n : Nat} : n ≤ n + 1 + 1 + 1 + 1 := by omega
@[go_sem] theorem le_5 {n : Nat} : n ≤ n + 1 + 1 + 1 + 1 + 1 := by omega
@[go_sem] theorem le_6 {n : Nat} : n ≤ n + 1 + 1 + 1 + 1 + 1 + 1 := by omega
@[go_sem] theorem le_7 {n : Nat} : n ≤ n + 1 + 1 + 1 + 1 + 1 + 1 + 1 := by omega
@[go_sem] theorem ext_ext (os' : Array Obj) (d' : Nat) : ext (ext w os d) os' d' = ext w (os ++ os') d' := by
  unfold ext
  simp only [World.mk.injEq, and_true]
  exact Array.append_assoc
@[go_sem] theorem alloc_extn (o : Obj) : (ext w #[] d).alloc o = ext (w.alloc o) #[] d := by
  unfold ext World.alloc
  simp
@[go_sem] theorem size_extn : (ext w #[] d).heap.size = w.heap.size := by simp [size_ext]
@[go_sem] theorem ext_extn (d' : Nat) : ext (ext w os d) #[] d' = ext w os d' := by rw [ext_ext]; simp
@[go_sem] theorem extn_ext (d' : Nat) : ext (ext w #[] d) os d' = ext w os d' := by rw [ext_ext]; simp
@[go_sem] theorem setCell_extn (a : Addr) (v : Value) : (ext w #[] d).setCell a v = ext (w.setCell a v) #[] d := by
  unfold ext World.setCell
  simp
@[go_sem] theorem cell?_extn (a : Addr) : (ext w #[] d).cell? a = w.cell? a := by
  unfold ext World.cell?
  simp
@[go_sem] theorem frozen?_extn (a : Addr) : (ext w #[] d).frozen? a = w.frozen? a := by
  unfold ext World.frozen?
  simp
@[go_sem] theorem lt_ext (h : n < w.heap.size) : n < (ext w os d).heap.size := by rw [size_ext]; omega
@[go_sem] theorem le_ext (h : n ≤ w.heap.size) : n ≤ (ext w os d).heap.size := by rw [size_ext]; omega
theorem block_ext (h : n < w.heap.size) : (ext w os d).heap[n]? = w.heap[n]? := by
  show (w.heap ++ os)[n]? = _
  rw [Array.getElem?_append_left h]
@[go_sem] theorem cell?_ext (o : Nat) (h : n < w.heap.size) : (ext w os d).cell? ⟨n, o, none⟩ = w.cell? ⟨n, o, none⟩ :=
  World.cell?_of_block (w := w) (block_ext h)
@[go_sem] theorem frozen?_ext (o : Nat) (h : n < w.heap.size) : (ext w os d).frozen? ⟨n, o, none⟩ = w.frozen? ⟨n, o, none⟩ :=
  World.frozen?_of_block (w := w) (block_ext h)
@[go_sem] theorem setCell_ext (o : Nat) (v : Value) (h : n < w.heap.size) : (ext w os d).setCell ⟨n, o, none⟩ v = ext (w.setCell ⟨n, o, none⟩ v) os d := by
  unfold ext World.setCell
  congr 1
  apply Array.ext_getElem?
  intro k
  simp only [Array.getElem?_modify, Array.getElem?_append, Array.size_modify]
  by_cases hk : n = k
  · subst hk; simp [h]
  · simp [hk]
@[go_sem] theorem drew_ext : ext w.drew os d = ext w os d := rfl
@[go_sem] theorem ext_drew : (ext w os d).drew = ext w os (d + 1) := rfl
@[go_sem] theorem tape_ext : (ext w os d).tape = w.tape := rfl
theorem le_alloc (o : Obj) (h : n ≤ w.heap.size) : n ≤ (w.alloc o).heap.size := by rw [World.size_alloc]; omega
theorem le_set (a : Addr) (v : Value) (h : n ≤ w.heap.size) : n ≤ (w.setCell a v).heap.size := by rw [World.size_setCell]; exact h
theorem below_alloc {B : Nat} {a : World} (o : Obj) (hB : B ≤ w.heap.size) (h : Below B a w) : Below B a (w.alloc o) := h.alloc hB o
theorem below_setCell {B : Nat} {a : World} (n o : Nat) (v : Value) (hB : B ≤ n) (h : Below B a w) : Below B a (w.setCell ⟨n, o, none⟩ v) := h.setCell (p := ⟨n, o, none⟩) hB v
theorem below_ext {B : Nat} {a : World} (hB : B ≤ w.heap.size) (h : Below B a w) : Below B a (ext w os d) :=
  h.trans ⟨rfl, rfl, rfl, by rw [size_ext]; omega, fun k hk => block_ext (by omega)⟩
theorem ext_of {w w1 : World} (hb : Below w.heap.size w w1) : ∃ os d, w1 = ext w os d := by
  refine ⟨w1.heap.extract w.heap.size w1.heap.size, w1.drawn, ?_⟩
  obtain ⟨h1, t1, d1, o1, u1⟩ := w1
  obtain ⟨ho, ht, hu, hs, hk⟩ := hb
  simp only at ho ht hu hs hk
  subst ho ht hu
  unfold ext
  simp only [World.mk.injEq, and_true]
  apply Array.ext_getElem?
  intro k
  rw [Array.getElem?_append]
  split
  · rename_i hlt; exact hk k hlt
  · rename_i hge
    rw [Array.getElem?_extract]
    split
    · congr 1; omega
    · rename_i hz; rw [Array.getElem?_eq_none]; omega
end

/-- the number at a place of a list of numbers -/
def sel (xs : List Int) (i : Nat) : Int := xs.getD i 0
theorem sel_all {P : Int → Prop} {xs : List Int} {i : Nat} (h0 : P 0) (h : ∀ x ∈ xs, P x) : P (sel xs i) := by
  unfold sel
  rw [List.getD_eq_getElem?_getD]
  cases hx : xs[i]? with
  | none => exact h0
  | some x => exact h x (List.mem_of_getElem? hx)
@[go_sem] theorem sel2 {k : IntKind} {a0 a1 : Int} {i : Nat} (h : i < [Value.int k a0, Value.int k a1].length) : [Value.int k a0, Value.int k a1][i]'h = Value.int k (sel [a0, a1] i) := by
  have h' : i < 2 := by simpa using h
  match i, h' with
  | 0, _ => rfl
  | 1, _ => rfl
@[go_sem] theorem sel3 {k : IntKind} {a0 a1 a2 : Int} {i : Nat} (h : i < [Value.int k a0, Value.int k a1, Value.int k a2].length) : [Value.int k a0, Value.int k a1, Value.int k a2][i]'h = Value.int k (sel [a0, a1, a2] i) := by
  have h' : i < 3 := by simpa using h
  match i, h' with
  | 0, _ => rfl
  | 1, _ => rfl
  | 2, _ => rfl
@[go_sem] theorem sel4 {k : IntKind} {a0 a1 a2 a3 : Int} {i : Nat} (h : i < [Value.int k a0, Value.int k a1, Value.int k a2, Value.int k a3].length) : [Value.int k a0, Value.int k a1, Value.int k a2, Value.int k a3][i]'h = Value.int k (sel [a0, a1, a2, a3] i) := by
  have h' : i < 4 := by simpa using h
  match i, h' with
  | 0, _ => rfl
  | 1, _ => rfl
  | 2, _ => rfl
  | 3, _ => rfl
@[go_sem] theorem sel5 {k : IntKind} {a0 a1 a2 a3 a4 : Int} {i : Nat} (h : i < [Value.int k a0, Value.int k a1, Value.int k a2, Value.int k a3, Value.int k a4].length) : [Value.int k a0, Value.int k a1, Value.int k a2, Value.int k a3, Value.int k a4][i]'h = Value.int k (sel [a0, a1, a2, a3, a4] i) := by
  have h' : i < 5 := by simpa using h
  match i, h' with
  | 0, _ => rfl
  | 1, _ => rfl
  | 2, _ => rfl
  | 3, _ => rfl
  | 4, _ => rfl
@[go_sem] theorem sel6 {k : IntKind} {a0 a1 a2 a3 a4 a5 : Int} {i : Nat} (h : i < [Value.int k a0, Value.int k a1, Value.int k a2, Value.int k a3, Value.int k a4, Value.int k a5].length) : [Value.int k a0, Value.int k a1, Value.int k a2, Value.int k a3, Value.int k a4, Value.int k a5][i]'h = Value.int k (sel [a0, a1, a2, a3, a4, a5] i) := by
  have h' : i < 6 := by simpa using h
  match i, h' with
  | 0, _ => rfl
  | 1, _ => rfl
  | 2, _ => rfl
  | 3, _ => rfl
  | 4, _ => rfl
  | 5, _ => rfl
@[go_sem] theorem sel7 {k : IntKind} {a0 a1 a2 a3 a4 a5 a6 : Int} {i : Nat} (h : i < [Value.int k a0, Value.int k a1, Value.int k a2, Value.int k a3, Value.int k a4, Value.int k a5, Value.int k a6].length) : [Value.int k a0, Value.int k a1, Value.int k a2, Value.int k a3, Value.int k a4, Value.int k a5, Value.int k a6][i]'h = Value.int k (sel [a0, a1, a2, a3, a4, a5, a6] i) := by
  have h' : i < 7 := by simpa using h
  match i, h' with
  | 0, _ => rfl
  | 1, _ => rfl
  | 2, _ => rfl
  | 3, _ => rfl
  | 4, _ => rfl
  | 5, _ => rfl
  | 6, _ => rfl
@[go_sem] theorem sel8 {k : IntKind} {a0 a1 a2 a3 a4 a5 a6 a7 : Int} {i : Nat} (h : i < [Value.int k a0, Value.int k a1, Value.int k a2, Value.int k a3, Value.int k a4, Value.int k a5, Value.int k a6, Value.int k a7].length) : [Value.int k a0, Value.int k a1, Value.int k a2, Value.int k a3, Value.int k a4, Value.int k a5, Value.int k a6, Value.int k a7][i]'h = Value.int k (sel [a0, a1, a2, a3, a4, a5, a6, a7] i) := by
  have h' : i < 8 := by simpa using h
  match i, h' with
  | 0, _ => rfl
  | 1, _ => rfl
  | 2, _ => rfl
  | 3, _ => rfl
  | 4, _ => rfl
  | 5, _ => rfl
  | 6, _ => rfl
  | 7, _ => rfl
@[go_sem] theorem sel9 {k : IntKind} {a0 a1 a2 a3 a4 a5 a6 a7 a8 : Int} {i : Nat} (h : i < [Value.int k a0, Value.int k a1, Value.int k a2, Value.int k a3, Value.int k a4, Value.int k a5, Value.int k a6, Value.int k a7, Value.int k a8].length) : [Value.int k a0, Value.int k a1, Value.int k a2, Value.int k a3, Value.int k a4, Value.int k a5, Value.int k a6, Value.int k a7, Value.int k a8][i]'h = Value.int k (sel [a0, a1, a2, a3, a4, a5, a6, a7, a8] i) := by
  have h' : i < 9 := by simpa using h
  match i, h' with
  | 0, _ => rfl
  | 1, _ => rfl
  | 2, _ => rfl
  | 3, _ => rfl
  | 4, _ => rfl
  | 5, _ => rfl
  | 6, _ => rfl
  | 7, _ => rfl
  | 8, _ => rfl
@[go_sem] theorem sel10 {k : IntKind} {a0 a1 a2 a3 a4 a5 a6 a7 a8 a9 : Int} {i : Nat} (h : i < [Value.int k a0, Value.int k a1, Value.int k a2, Value.int k a3, Value.int k a4, Value.int k a5, Value.int k a6, Value.int k a7, Value.int k a8, Value.int k a9].length) : [Value.int k a0, Value.int k a1, Value.int k a2, Value.int k a3, Value.int k a4, Value.int k a5, Value.int k a6, Value.int k a7, Value.int k a8, Value.int k a9][i]'h = Value.int k (sel [a0, a1, a2, a3, a4, a5, a6, a7, a8, a9] i) := by
  have h' : i < 10 := by simpa using h
  match i, h' with
  | 0, _ => rfl
  | 1, _ => rfl
  | 2, _ => rfl
  | 3, _ => rfl
  | 4, _ => rfl
  | 5, _ => rfl
  | 6, _ => rfl
  | 7, _ => rfl
  | 8, _ => rfl
  | 9, _ => rfl
theorem cset_same {w : World} {a : Addr} {v u : Value} (h : w.cell? a = some u) : (w.setCell a v).cell? a = some v := World.cell?_setCell_same w a v h
theorem cset_other {w : World} {a b : Addr} {v : Value} (h : a ≠ b) : (w.setCell a v).cell? b = w.cell? b := World.cell?_setCell_other w a b v h
theorem wraps_i64 (n : Int) (h₀ : 0 ≤ n) (h₁ : n < 2 ^ 62) : IntKind.i64.wrap n = n := by
  have e : (2 : Int) ^ 62 = 4611686018427387904 := by decide
  rw [e] at h₁
  rw [IntKind.wrap_i64]; omega
theorem xor_i64_nat (a b : Nat) (ha : a < 2 ^ 62) (hb : b < 2 ^ 62) : bits .xor .i64 a b = ((a ^^^ b : Nat) : Int) := by
  have hp : 2 ^ 62 ≤ 2 ^ IntKind.i64.bits := by decide
  have ha' : a % 2 ^ IntKind.i64.bits = a := Nat.mod_eq_of_lt (Nat.lt_of_lt_of_le ha hp)
  have hb' : b % 2 ^ IntKind.i64.bits = b := Nat.mod_eq_of_lt (Nat.lt_of_lt_of_le hb hp)
  have cast : ∀ n : Nat, n < 2 ^ 62 → ((n : Nat) : Int) < 2 ^ 62 := fun n h => by exact_mod_cast h
  simp only [bits, BitVec.ofInt_natCast, BitVec.toNat_xor, BitVec.toNat_ofNat, ha', hb']
  exact wraps_i64 _ (Int.natCast_nonneg _) (cast _ (Nat.xor_lt_two_pow ha hb))
theorem xor_nonneg (x y : Int) (h1 : 0 ≤ x) (h2 : x < 4611686018427387904) (h3 : 0 ≤ y) (h4 : y < 4611686018427387904) : 0 ≤ bits .xor .i64 x y := by
  obtain ⟨a, rfl⟩ := Int.eq_ofNat_of_zero_le h1
  obtain ⟨b, rfl⟩ := Int.eq_ofNat_of_zero_le h3
  have e : (2 : Nat) ^ 62 = 4611686018427387904 := by decide
  rw [xor_i64_nat a b (by omega) (by omega)]
  exact Int.natCast_nonneg _

end Go.Proofs.Ytcinklbbacmihaa
