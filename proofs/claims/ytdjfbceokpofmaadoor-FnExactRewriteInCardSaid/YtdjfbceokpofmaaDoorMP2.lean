/- Texts of this seat, put together. -/
import Derived.Test.YtdjfbceokpofmaaDoorRows
import Derived.Test.YtdjfbceokpofmaaDoorMP12
import Derived.Test.YtdjfbceokpofmaaDoorOpen2
set_option linter.unusedSimpArgs false
set_option linter.unusedVariables false
namespace Go.Proofs.YtdjfbceokpofmaaDoor
section
open Go.ChangeShapes Go.WideShapes Go.ChangeAt Go.RowKit Go.Joins
theorem opn3 {H : Type} {enc : TypeId × Value → H} {W : World} {sp : Nat → Bool} {held : Bool} {m : Nat} {cs : List Value} {y : DataW H × List MemPlace} (h : DataW.trod enc Tryd.prog W 0 sp held m 3 cs = some y) : ∃ x : Int, cs = encInt x := by
  obtain ⟨n, h1, _, _⟩ := DataW.trod_int Tryd.underlying3 h
  exact ⟨n, h1⟩
set_option maxRecDepth 100000 in
theorem opn58 {H : Type} {enc : TypeId × Value → H} {W : World} {sp : Nat → Bool} {held : Bool} {m : Nat} {cs : List Value} {y : DataW H × List MemPlace} (h : DataW.trod enc Tryd.prog W 0 sp held m 58 cs = some y) : ∃ x : GPrefix, cs = encGPrefix x := by
  obtain ⟨xs, n, _, _, hl, hlen, hf⟩ := DataW.trod_struct Tryd.underlying58 h
  rw [show Tryd.prog.cellsOf 58 = 2 from by kernel_rfl] at hl
  obtain ⟨v0, v1, rfl⟩ : ∃ v0 v1, cs = [v0, v1] := by
    match cs, hl with
    | [v0, v1], _ => exact ⟨v0, v1, rfl⟩
  obtain ⟨y0, hy0⟩ : ∃ z, xs[0]? = some z := ⟨_, List.getElem?_eq_getElem (by rw [hlen]; decide)⟩
  have e0 := hf 0 _ rfl
  change DataW.trod enc Tryd.prog W 0 sp held n 3 (List.take (Tryd.prog.cellsOf 3) (List.drop 0 [v0, v1])) = xs[0]? at e0
  rw [hy0, show Tryd.prog.cellsOf 3 = 1 from by kernel_rfl] at e0
  obtain ⟨x0, hx0⟩ := opn3 e0
  simp only [encInt, List.drop_succ_cons, List.drop_zero, List.take_succ_cons, List.take_zero, List.cons.injEq, and_true] at hx0
  obtain ⟨y1, hy1⟩ : ∃ z, xs[1]? = some z := ⟨_, List.getElem?_eq_getElem (by rw [hlen]; decide)⟩
  have e1 := hf 1 _ rfl
  change DataW.trod enc Tryd.prog W 0 sp held n 3 (List.take (Tryd.prog.cellsOf 3) (List.drop 1 [v0, v1])) = xs[1]? at e1
  rw [hy1, show Tryd.prog.cellsOf 3 = 1 from by kernel_rfl] at e1
  obtain ⟨x1, hx1⟩ := opn3 e1
  simp only [encInt, List.drop_succ_cons, List.drop_zero, List.take_succ_cons, List.take_zero, List.cons.injEq, and_true] at hx1
  obtain rfl := hx0
  obtain rfl := hx1
  exact ⟨⟨x0, x1⟩, rfl⟩
set_option maxRecDepth 100000 in
theorem opn60 {H : Type} {enc : TypeId × Value → H} {W : World} {sp : Nat → Bool} {held : Bool} {m : Nat} {cs : List Value} {y : DataW H × List MemPlace} (h : DataW.trod enc Tryd.prog W 0 sp held m 60 cs = some y) : ∃ x : GRewrite, cs = encGRewrite x := by
  obtain ⟨xs, n, _, _, hl, hlen, hf⟩ := DataW.trod_struct Tryd.underlying60 h
  rw [show Tryd.prog.cellsOf 60 = 4 from by kernel_rfl] at hl
  obtain ⟨v0, v1, v2, v3, rfl⟩ : ∃ v0 v1 v2 v3, cs = [v0, v1, v2, v3] := by
    match cs, hl with
    | [v0, v1, v2, v3], _ => exact ⟨v0, v1, v2, v3, rfl⟩
  obtain ⟨y0, hy0⟩ : ∃ z, xs[0]? = some z := ⟨_, List.getElem?_eq_getElem (by rw [hlen]; decide)⟩
  have e0 := hf 0 _ rfl
  change DataW.trod enc Tryd.prog W 0 sp held n 58 (List.take (Tryd.prog.cellsOf 58) (List.drop 0 [v0, v1, v2, v3])) = xs[0]? at e0
  rw [hy0, show Tryd.prog.cellsOf 58 = 2 from by kernel_rfl] at e0
  obtain ⟨x0, hx0⟩ := opn58 e0
  simp only [encGPrefix, List.drop_succ_cons, List.drop_zero, List.take_succ_cons, List.take_zero, List.cons.injEq, and_true] at hx0
  obtain ⟨y1, hy1⟩ : ∃ z, xs[1]? = some z := ⟨_, List.getElem?_eq_getElem (by rw [hlen]; decide)⟩
  have e1 := hf 1 _ rfl
  change DataW.trod enc Tryd.prog W 0 sp held n 58 (List.take (Tryd.prog.cellsOf 58) (List.drop 2 [v0, v1, v2, v3])) = xs[1]? at e1
  rw [hy1, show Tryd.prog.cellsOf 58 = 2 from by kernel_rfl] at e1
  obtain ⟨x1, hx1⟩ := opn58 e1
  simp only [encGPrefix, List.drop_succ_cons, List.drop_zero, List.take_succ_cons, List.take_zero, List.cons.injEq, and_true] at hx1
  obtain ⟨rfl, rfl⟩ := hx0
  obtain ⟨rfl, rfl⟩ := hx1
  exact ⟨⟨x0, x1⟩, rfl⟩
theorem ops22 {W : World} {F : Nat → Prop} (hF : ∀ b, b < W.heap.size → F b) {H : Type} {enc : TypeId × Value → H} {sp : Nat → Bool} {held : Bool} {m : Nat} {cs : List Value} {y : DataW H × List MemPlace} (h : DataW.trod enc Tryd.prog W 0 sp held m 22 cs = some y) : ∃ v xs, cs = [v] ∧ Sl elGRewrite F W v xs ∧ okSl (fun _ => True) xs :=
  open_slQ hF Tryd.underlying22 (by kernel_rfl) (fun m cs y h => (opn60 h).imp fun _ e => ⟨e, trivial⟩) h
set_option maxRecDepth 100000 in
theorem opn24 {H : Type} {enc : TypeId × Value → H} {W : World} {sp : Nat → Bool} {held : Bool} {m : Nat} {cs : List Value} {y : DataW H × List MemPlace} (h : DataW.trod enc Tryd.prog W 0 sp held m 24 cs = some y) : ∃ x : GPacket, cs = encGPacket x := by
  obtain ⟨xs, n, _, _, hl, hlen, hf⟩ := DataW.trod_struct Tryd.underlying24 h
  rw [show Tryd.prog.cellsOf 24 = 4 from by kernel_rfl] at hl
  obtain ⟨v0, v1, v2, v3, rfl⟩ : ∃ v0 v1 v2 v3, cs = [v0, v1, v2, v3] := by
    match cs, hl with
    | [v0, v1, v2, v3], _ => exact ⟨v0, v1, v2, v3, rfl⟩
  obtain ⟨y0, hy0⟩ : ∃ z, xs[0]? = some z := ⟨_, List.getElem?_eq_getElem (by rw [hlen]; decide)⟩
  have e0 := hf 0 _ rfl
  change DataW.trod enc Tryd.prog W 0 sp held n 3 (List.take (Tryd.prog.cellsOf 3) (List.drop 0 [v0, v1, v2, v3])) = xs[0]? at e0
  rw [hy0, show Tryd.prog.cellsOf 3 = 1 from by kernel_rfl] at e0
  obtain ⟨x0, hx0⟩ := opn3 e0
  simp only [encInt, List.drop_succ_cons, List.drop_zero, List.take_succ_cons, List.take_zero, List.cons.injEq, and_true] at hx0
  obtain ⟨y1, hy1⟩ : ∃ z, xs[1]? = some z := ⟨_, List.getElem?_eq_getElem (by rw [hlen]; decide)⟩
  have e1 := hf 1 _ rfl
  change DataW.trod enc Tryd.prog W 0 sp held n 3 (List.take (Tryd.prog.cellsOf 3) (List.drop 1 [v0, v1, v2, v3])) = xs[1]? at e1
  rw [hy1, show Tryd.prog.cellsOf 3 = 1 from by kernel_rfl] at e1
  obtain ⟨x1, hx1⟩ := opn3 e1
  simp only [encInt, List.drop_succ_cons, List.drop_zero, List.take_succ_cons, List.take_zero, List.cons.injEq, and_true] at hx1
  obtain ⟨y2, hy2⟩ : ∃ z, xs[2]? = some z := ⟨_, List.getElem?_eq_getElem (by rw [hlen]; decide)⟩
  have e2 := hf 2 _ rfl
  change DataW.trod enc Tryd.prog W 0 sp held n 3 (List.take (Tryd.prog.cellsOf 3) (List.drop 2 [v0, v1, v2, v3])) = xs[2]? at e2
  rw [hy2, show Tryd.prog.cellsOf 3 = 1 from by kernel_rfl] at e2
  obtain ⟨x2, hx2⟩ := opn3 e2
  simp only [encInt, List.drop_succ_cons, List.drop_zero, List.take_succ_cons, List.take_zero, List.cons.injEq, and_true] at hx2
  obtain ⟨y3, hy3⟩ : ∃ z, xs[3]? = some z := ⟨_, List.getElem?_eq_getElem (by rw [hlen]; decide)⟩
  have e3 := hf 3 _ rfl
  change DataW.trod enc Tryd.prog W 0 sp held n 3 (List.take (Tryd.prog.cellsOf 3) (List.drop 3 [v0, v1, v2, v3])) = xs[3]? at e3
  rw [hy3, show Tryd.prog.cellsOf 3 = 1 from by kernel_rfl] at e3
  obtain ⟨x3, hx3⟩ := opn3 e3
  simp only [encInt, List.drop_succ_cons, List.drop_zero, List.take_succ_cons, List.take_zero, List.cons.injEq, and_true] at hx3
  obtain rfl := hx0
  obtain rfl := hx1
  obtain rfl := hx2
  obtain rfl := hx3
  exact ⟨⟨x0, x1, x2, x3⟩, rfl⟩
end

end Go.Proofs.YtdjfbceokpofmaaDoor
