/- Texts of this seat, put together. -/
import Derived.Test.YtdjfbceokpofmaaRows
import Derived.Test.YtdjfbceokpofmaaMP12
import Derived.Test.YtdjfbceokpofmaaOpen2
set_option linter.unusedSimpArgs false
set_option linter.unusedVariables false
namespace Go.Proofs.Ytdjfbceokpofmaa
section
open Go.ChangeShapes Go.WideShapes Go.ChangeAt Go.RowKit Go.Joins
theorem opn3 {H : Type} {enc : TypeId × Value → H} {W : World} {sp : Nat → Bool} {held : Bool} {m : Nat} {cs : List Value} {y : DataW H × List MemPlace} (h : DataW.trod enc Try.prog W 0 sp held m 3 cs = some y) : ∃ x : Int, cs = encInt x := by
  obtain ⟨n, h1, _, _⟩ := DataW.trod_int Try.underlying3 h
  exact ⟨n, h1⟩
set_option maxRecDepth 100000 in
theorem opn23 {H : Type} {enc : TypeId × Value → H} {W : World} {sp : Nat → Bool} {held : Bool} {m : Nat} {cs : List Value} {y : DataW H × List MemPlace} (h : DataW.trod enc Try.prog W 0 sp held m 23 cs = some y) : ∃ x : GPrefix, cs = encGPrefix x := by
  obtain ⟨xs, n, _, _, hl, hlen, hf⟩ := DataW.trod_struct Try.underlying23 h
  rw [show Try.prog.cellsOf 23 = 2 from by kernel_rfl] at hl
  obtain ⟨v0, v1, rfl⟩ : ∃ v0 v1, cs = [v0, v1] := by
    match cs, hl with
    | [v0, v1], _ => exact ⟨v0, v1, rfl⟩
  obtain ⟨y0, hy0⟩ : ∃ z, xs[0]? = some z := ⟨_, List.getElem?_eq_getElem (by rw [hlen]; decide)⟩
  have e0 := hf 0 _ rfl
  change DataW.trod enc Try.prog W 0 sp held n 3 (List.take (Try.prog.cellsOf 3) (List.drop 0 [v0, v1])) = xs[0]? at e0
  rw [hy0, show Try.prog.cellsOf 3 = 1 from by kernel_rfl] at e0
  obtain ⟨x0, hx0⟩ := opn3 e0
  simp only [encInt, List.drop_succ_cons, List.drop_zero, List.take_succ_cons, List.take_zero, List.cons.injEq, and_true] at hx0
  obtain ⟨y1, hy1⟩ : ∃ z, xs[1]? = some z := ⟨_, List.getElem?_eq_getElem (by rw [hlen]; decide)⟩
  have e1 := hf 1 _ rfl
  change DataW.trod enc Try.prog W 0 sp held n 3 (List.take (Try.prog.cellsOf 3) (List.drop 1 [v0, v1])) = xs[1]? at e1
  rw [hy1, show Try.prog.cellsOf 3 = 1 from by kernel_rfl] at e1
  obtain ⟨x1, hx1⟩ := opn3 e1
  simp only [encInt, List.drop_succ_cons, List.drop_zero, List.take_succ_cons, List.take_zero, List.cons.injEq, and_true] at hx1
  obtain rfl := hx0
  obtain rfl := hx1
  exact ⟨⟨x0, x1⟩, rfl⟩
set_option maxRecDepth 100000 in
theorem opn25 {H : Type} {enc : TypeId × Value → H} {W : World} {sp : Nat → Bool} {held : Bool} {m : Nat} {cs : List Value} {y : DataW H × List MemPlace} (h : DataW.trod enc Try.prog W 0 sp held m 25 cs = some y) : ∃ x : GRewrite, cs = encGRewrite x := by
  obtain ⟨xs, n, _, _, hl, hlen, hf⟩ := DataW.trod_struct Try.underlying25 h
  rw [show Try.prog.cellsOf 25 = 4 from by kernel_rfl] at hl
  obtain ⟨v0, v1, v2, v3, rfl⟩ : ∃ v0 v1 v2 v3, cs = [v0, v1, v2, v3] := by
    match cs, hl with
    | [v0, v1, v2, v3], _ => exact ⟨v0, v1, v2, v3, rfl⟩
  obtain ⟨y0, hy0⟩ : ∃ z, xs[0]? = some z := ⟨_, List.getElem?_eq_getElem (by rw [hlen]; decide)⟩
  have e0 := hf 0 _ rfl
  change DataW.trod enc Try.prog W 0 sp held n 23 (List.take (Try.prog.cellsOf 23) (List.drop 0 [v0, v1, v2, v3])) = xs[0]? at e0
  rw [hy0, show Try.prog.cellsOf 23 = 2 from by kernel_rfl] at e0
  obtain ⟨x0, hx0⟩ := opn23 e0
  simp only [encGPrefix, List.drop_succ_cons, List.drop_zero, List.take_succ_cons, List.take_zero, List.cons.injEq, and_true] at hx0
  obtain ⟨y1, hy1⟩ : ∃ z, xs[1]? = some z := ⟨_, List.getElem?_eq_getElem (by rw [hlen]; decide)⟩
  have e1 := hf 1 _ rfl
  change DataW.trod enc Try.prog W 0 sp held n 23 (List.take (Try.prog.cellsOf 23) (List.drop 2 [v0, v1, v2, v3])) = xs[1]? at e1
  rw [hy1, show Try.prog.cellsOf 23 = 2 from by kernel_rfl] at e1
  obtain ⟨x1, hx1⟩ := opn23 e1
  simp only [encGPrefix, List.drop_succ_cons, List.drop_zero, List.take_succ_cons, List.take_zero, List.cons.injEq, and_true] at hx1
  obtain ⟨rfl, rfl⟩ := hx0
  obtain ⟨rfl, rfl⟩ := hx1
  exact ⟨⟨x0, x1⟩, rfl⟩
theorem ops34 {W : World} {F : Nat → Prop} (hF : ∀ b, b < W.heap.size → F b) {H : Type} {enc : TypeId × Value → H} {sp : Nat → Bool} {held : Bool} {m : Nat} {cs : List Value} {y : DataW H × List MemPlace} (h : DataW.trod enc Try.prog W 0 sp held m 34 cs = some y) : ∃ v xs, cs = [v] ∧ Sl elGRewrite F W v xs ∧ okSl (fun _ => True) xs :=
  open_slQ hF Try.underlying34 (by kernel_rfl) (fun m cs y h => (opn25 h).imp fun _ e => ⟨e, trivial⟩) h
end

end Go.Proofs.Ytdjfbceokpofmaa
