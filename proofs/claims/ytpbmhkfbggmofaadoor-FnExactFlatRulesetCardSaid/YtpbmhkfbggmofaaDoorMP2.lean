/- Texts of this seat, put together. -/
import Derived.Test.YtpbmhkfbggmofaaDoorRows
import Derived.Test.YtpbmhkfbggmofaaDoorMP12
import Derived.Test.YtpbmhkfbggmofaaDoorOpen2
set_option linter.unusedSimpArgs false
set_option linter.unusedVariables false
namespace Go.Proofs.YtpbmhkfbggmofaaDoor
section
open Go.ChangeShapes Go.WideShapes Go.ChangeAt Go.RowKit Go.Joins
theorem opn3 {H : Type} {enc : TypeId × Value → H} {W : World} {sp : Nat → Bool} {held : Bool} {m : Nat} {cs : List Value} {y : DataW H × List MemPlace} (h : DataW.trod enc Tryd.prog W 0 sp held m 3 cs = some y) : ∃ x : Int, cs = encInt x := by
  obtain ⟨n, h1, _, _⟩ := DataW.trod_int Tryd.underlying3 h
  exact ⟨n, h1⟩
set_option maxRecDepth 100000 in
theorem opn191 {H : Type} {enc : TypeId × Value → H} {W : World} {sp : Nat → Bool} {held : Bool} {m : Nat} {cs : List Value} {y : DataW H × List MemPlace} (h : DataW.trod enc Tryd.prog W 0 sp held m 191 cs = some y) : ∃ x : GSpan, cs = encGSpan x := by
  obtain ⟨xs, n, _, _, hl, hlen, hf⟩ := DataW.trod_struct Tryd.underlying191 h
  rw [show Tryd.prog.cellsOf 191 = 2 from by kernel_rfl] at hl
  obtain ⟨v0, v1, rfl⟩ : ∃ v0 v1, cs = [v0, v1] := by
    match cs, hl with
    | [v0, v1], _ => exact ⟨v0, v1, rfl⟩
  obtain ⟨y0, hy0⟩ : ∃ z, xs[0]? = some z := ⟨_, List.getElem?_eq_getElem (by rw [hlen]; decide)⟩
  have e0 := hf 0 _ rfl
  change DataW.trod enc Tryd.prog W 0 sp held n 3 (List.take (Tryd.prog.cellsOf 3) (List.drop 0 [v0, v1])) = xs[0]? at e0
  rw [hy0, show Tryd.prog.cellsOf 3 = 1 from by kernel_rfl] at e0
  obtain ⟨x0, hx0⟩ := opn3 e0
  simp only [encInt, List.drop_succ_cons, List.drop_zero, List.take_succ_cons, List.take_zero, List.cons.injEq, and_true] at hx0
  obtain ⟨y1, hy1⟩ : ∃ z, xs[1]? = some z := ⟨_, List.getElem?_eq_getElem (by rw [hlen]; decide)⟩
  have e1 := hf 1 _ rfl
  change DataW.trod enc Tryd.prog W 0 sp held n 3 (List.take (Tryd.prog.cellsOf 3) (List.drop 1 [v0, v1])) = xs[1]? at e1
  rw [hy1, show Tryd.prog.cellsOf 3 = 1 from by kernel_rfl] at e1
  obtain ⟨x1, hx1⟩ := opn3 e1
  simp only [encInt, List.drop_succ_cons, List.drop_zero, List.take_succ_cons, List.take_zero, List.cons.injEq, and_true] at hx1
  obtain rfl := hx0
  obtain rfl := hx1
  exact ⟨⟨x0, x1⟩, rfl⟩
theorem ops176 {W : World} {F : Nat → Prop} (hF : ∀ b, b < W.heap.size → F b) {H : Type} {enc : TypeId × Value → H} {sp : Nat → Bool} {held : Bool} {m : Nat} {cs : List Value} {y : DataW H × List MemPlace} (h : DataW.trod enc Tryd.prog W 0 sp held m 176 cs = some y) : ∃ v xs, cs = [v] ∧ Sl elGSpan F W v xs ∧ okSl (fun _ => True) xs :=
  open_slQ hF Tryd.underlying176 (by kernel_rfl) (fun m cs y h => (opn191 h).imp fun _ e => ⟨e, trivial⟩) h
theorem ops74 {W : World} {F : Nat → Prop} (hF : ∀ b, b < W.heap.size → F b) {H : Type} {enc : TypeId × Value → H} {sp : Nat → Bool} {held : Bool} {m : Nat} {cs : List Value} {y : DataW H × List MemPlace} (h : DataW.trod enc Tryd.prog W 0 sp held m 74 cs = some y) : ∃ v xs, cs = [v] ∧ Sl (elSl elGSpan) F W v xs ∧ okSl (okSl (fun _ => True)) xs :=
  open_slQ hF Tryd.underlying74 (by kernel_rfl) (fun m cs y h => let ⟨u, xs, a, b, c⟩ := ops176 hF h; ⟨xs, ⟨u, a, b⟩, c⟩) h
/-- the lengths are in range -/
def okGBox (x : GBox) : Prop := okSl (okSl (fun _ => True)) x.xSides
set_option maxRecDepth 100000 in
theorem opn76 {W : World} {F : Nat → Prop} (hF : ∀ b, b < W.heap.size → F b) {H : Type} {enc : TypeId × Value → H} {sp : Nat → Bool} {held : Bool} {m : Nat} {cs : List Value} {y : DataW H × List MemPlace} (h : DataW.trod enc Tryd.prog W 0 sp held m 76 cs = some y) : ∃ x : GBox, elGBox.cells F W x cs ∧ okGBox x := by
  obtain ⟨xs, n, _, _, hl, hlen, hf⟩ := DataW.trod_struct Tryd.underlying76 h
  rw [show Tryd.prog.cellsOf 76 = 1 from by kernel_rfl] at hl
  obtain ⟨v0, rfl⟩ : ∃ v0, cs = [v0] := by
    match cs, hl with
    | [v0], _ => exact ⟨v0, rfl⟩
  obtain ⟨y0, hy0⟩ : ∃ z, xs[0]? = some z := ⟨_, List.getElem?_eq_getElem (by rw [hlen]; decide)⟩
  have e0 := hf 0 _ rfl
  change DataW.trod enc Tryd.prog W 0 sp held n 74 (List.take (Tryd.prog.cellsOf 74) (List.drop 0 [v0])) = xs[0]? at e0
  rw [hy0, show Tryd.prog.cellsOf 74 = 1 from by kernel_rfl] at e0
  obtain ⟨u0, x0, hx0, S0, l0⟩ := ops74 hF e0
  simp only [List.drop_succ_cons, List.drop_zero, List.take_succ_cons, List.take_zero, List.cons.injEq, and_true] at hx0
  obtain rfl := hx0
  exact ⟨⟨x0⟩, ⟨_, rfl, S0⟩, l0⟩
theorem opn4 {H : Type} {enc : TypeId × Value → H} {W : World} {sp : Nat → Bool} {held : Bool} {m : Nat} {cs : List Value} {y : DataW H × List MemPlace} (h : DataW.trod enc Tryd.prog W 0 sp held m 4 cs = some y) : ∃ x : Bool, cs = encBool x := by
  obtain ⟨n, h1, _⟩ := DataW.trod_bool Tryd.underlying4 h
  exact ⟨n, h1⟩
/-- the lengths are in range -/
def okGFlat (x : GFlat) : Prop := okGBox x.xWhere
set_option maxRecDepth 100000 in
theorem opn78 {W : World} {F : Nat → Prop} (hF : ∀ b, b < W.heap.size → F b) {H : Type} {enc : TypeId × Value → H} {sp : Nat → Bool} {held : Bool} {m : Nat} {cs : List Value} {y : DataW H × List MemPlace} (h : DataW.trod enc Tryd.prog W 0 sp held m 78 cs = some y) : ∃ x : GFlat, elGFlat.cells F W x cs ∧ okGFlat x := by
  obtain ⟨xs, n, _, _, hl, hlen, hf⟩ := DataW.trod_struct Tryd.underlying78 h
  rw [show Tryd.prog.cellsOf 78 = 2 from by kernel_rfl] at hl
  obtain ⟨v0, v1, rfl⟩ : ∃ v0 v1, cs = [v0, v1] := by
    match cs, hl with
    | [v0, v1], _ => exact ⟨v0, v1, rfl⟩
  obtain ⟨y0, hy0⟩ : ∃ z, xs[0]? = some z := ⟨_, List.getElem?_eq_getElem (by rw [hlen]; decide)⟩
  have e0 := hf 0 _ rfl
  change DataW.trod enc Tryd.prog W 0 sp held n 76 (List.take (Tryd.prog.cellsOf 76) (List.drop 0 [v0, v1])) = xs[0]? at e0
  rw [hy0, show Tryd.prog.cellsOf 76 = 1 from by kernel_rfl] at e0
  obtain ⟨x0, ⟨u0, hx0, S0⟩, l0⟩ := opn76 hF e0
  simp only [encGBox, List.drop_succ_cons, List.drop_zero, List.take_succ_cons, List.take_zero, List.cons.injEq, and_true] at hx0
  obtain ⟨y1, hy1⟩ : ∃ z, xs[1]? = some z := ⟨_, List.getElem?_eq_getElem (by rw [hlen]; decide)⟩
  have e1 := hf 1 _ rfl
  change DataW.trod enc Tryd.prog W 0 sp held n 4 (List.take (Tryd.prog.cellsOf 4) (List.drop 1 [v0, v1])) = xs[1]? at e1
  rw [hy1, show Tryd.prog.cellsOf 4 = 1 from by kernel_rfl] at e1
  obtain ⟨x1, hx1⟩ := opn4 e1
  simp only [encBool, List.drop_succ_cons, List.drop_zero, List.take_succ_cons, List.take_zero, List.cons.injEq, and_true] at hx1
  obtain rfl := hx0
  obtain rfl := hx1
  exact ⟨⟨x0, x1⟩, ⟨_, rfl, S0⟩, l0⟩
theorem ops32 {W : World} {F : Nat → Prop} (hF : ∀ b, b < W.heap.size → F b) {H : Type} {enc : TypeId × Value → H} {sp : Nat → Bool} {held : Bool} {m : Nat} {cs : List Value} {y : DataW H × List MemPlace} (h : DataW.trod enc Tryd.prog W 0 sp held m 32 cs = some y) : ∃ v xs, cs = [v] ∧ Sl elGFlat F W v xs ∧ okSl okGFlat xs :=
  open_slQ hF Tryd.underlying32 (by kernel_rfl) (fun m cs y h => opn78 hF h) h

end

end Go.Proofs.YtpbmhkfbggmofaaDoor
