/- Texts of this seat, put together. -/
import Derived.Test.YtigdghiknfehhaaDoorRows
import Derived.Test.YtigdghiknfehhaaDoorMP13
import Derived.Test.YtigdghiknfehhaaDoorOpen2
set_option linter.unusedSimpArgs false
set_option linter.unusedVariables false
namespace Go.Proofs.YtigdghiknfehhaaDoor
section
open Go.ChangeShapes Go.WideShapes Go.ChangeAt Go.RowKit Go.Joins
theorem opn3 {H : Type} {enc : TypeId × Value → H} {W : World} {sp : Nat → Bool} {held : Bool} {m : Nat} {cs : List Value} {y : DataW H × List MemPlace} (h : DataW.trod enc Tryd.prog W 0 sp held m 3 cs = some y) : ∃ x : Int, cs = encInt x := by
  obtain ⟨n, h1, _, _⟩ := DataW.trod_int Tryd.underlying3 h
  exact ⟨n, h1⟩
theorem opn4 {H : Type} {enc : TypeId × Value → H} {W : World} {sp : Nat → Bool} {held : Bool} {m : Nat} {cs : List Value} {y : DataW H × List MemPlace} (h : DataW.trod enc Tryd.prog W 0 sp held m 4 cs = some y) : ∃ x : Bool, cs = encBool x := by
  obtain ⟨n, h1, _⟩ := DataW.trod_bool Tryd.underlying4 h
  exact ⟨n, h1⟩
set_option maxRecDepth 100000 in
theorem opn191 {H : Type} {enc : TypeId × Value → H} {W : World} {sp : Nat → Bool} {held : Bool} {m : Nat} {cs : List Value} {y : DataW H × List MemPlace} (h : DataW.trod enc Tryd.prog W 0 sp held m 191 cs = some y) : ∃ x : GTest, cs = encGTest x := by
  obtain ⟨xs, n, _, _, hl, hlen, hf⟩ := DataW.trod_struct Tryd.underlying191 h
  rw [show Tryd.prog.cellsOf 191 = 4 from by kernel_rfl] at hl
  obtain ⟨v0, v1, v2, v3, rfl⟩ : ∃ v0 v1 v2 v3, cs = [v0, v1, v2, v3] := by
    match cs, hl with
    | [v0, v1, v2, v3], _ => exact ⟨v0, v1, v2, v3, rfl⟩
  obtain ⟨y0, hy0⟩ : ∃ z, xs[0]? = some z := ⟨_, List.getElem?_eq_getElem (by rw [hlen]; decide)⟩
  have e0 := hf 0 _ rfl
  change DataW.trod enc Tryd.prog W 0 sp held n 3 (List.take (Tryd.prog.cellsOf 3) (List.drop 0 [v0, v1, v2, v3])) = xs[0]? at e0
  rw [hy0, show Tryd.prog.cellsOf 3 = 1 from by kernel_rfl] at e0
  obtain ⟨x0, hx0⟩ := opn3 e0
  simp only [encInt, List.drop_succ_cons, List.drop_zero, List.take_succ_cons, List.take_zero, List.cons.injEq, and_true] at hx0
  obtain ⟨y1, hy1⟩ : ∃ z, xs[1]? = some z := ⟨_, List.getElem?_eq_getElem (by rw [hlen]; decide)⟩
  have e1 := hf 1 _ rfl
  change DataW.trod enc Tryd.prog W 0 sp held n 3 (List.take (Tryd.prog.cellsOf 3) (List.drop 1 [v0, v1, v2, v3])) = xs[1]? at e1
  rw [hy1, show Tryd.prog.cellsOf 3 = 1 from by kernel_rfl] at e1
  obtain ⟨x1, hx1⟩ := opn3 e1
  simp only [encInt, List.drop_succ_cons, List.drop_zero, List.take_succ_cons, List.take_zero, List.cons.injEq, and_true] at hx1
  obtain ⟨y2, hy2⟩ : ∃ z, xs[2]? = some z := ⟨_, List.getElem?_eq_getElem (by rw [hlen]; decide)⟩
  have e2 := hf 2 _ rfl
  change DataW.trod enc Tryd.prog W 0 sp held n 3 (List.take (Tryd.prog.cellsOf 3) (List.drop 2 [v0, v1, v2, v3])) = xs[2]? at e2
  rw [hy2, show Tryd.prog.cellsOf 3 = 1 from by kernel_rfl] at e2
  obtain ⟨x2, hx2⟩ := opn3 e2
  simp only [encInt, List.drop_succ_cons, List.drop_zero, List.take_succ_cons, List.take_zero, List.cons.injEq, and_true] at hx2
  obtain ⟨y3, hy3⟩ : ∃ z, xs[3]? = some z := ⟨_, List.getElem?_eq_getElem (by rw [hlen]; decide)⟩
  have e3 := hf 3 _ rfl
  change DataW.trod enc Tryd.prog W 0 sp held n 4 (List.take (Tryd.prog.cellsOf 4) (List.drop 3 [v0, v1, v2, v3])) = xs[3]? at e3
  rw [hy3, show Tryd.prog.cellsOf 4 = 1 from by kernel_rfl] at e3
  obtain ⟨x3, hx3⟩ := opn4 e3
  simp only [encBool, List.drop_succ_cons, List.drop_zero, List.take_succ_cons, List.take_zero, List.cons.injEq, and_true] at hx3
  obtain rfl := hx0
  obtain rfl := hx1
  obtain rfl := hx2
  obtain rfl := hx3
  exact ⟨⟨x0, x1, x2, x3⟩, rfl⟩
theorem ops163 {W : World} {F : Nat → Prop} (hF : ∀ b, b < W.heap.size → F b) {H : Type} {enc : TypeId × Value → H} {sp : Nat → Bool} {held : Bool} {m : Nat} {cs : List Value} {y : DataW H × List MemPlace} (h : DataW.trod enc Tryd.prog W 0 sp held m 163 cs = some y) : ∃ v xs, cs = [v] ∧ Sl elGTest F W v xs ∧ okSl (fun _ => True) xs :=
  open_slQ hF Tryd.underlying163 (by kernel_rfl) (fun m cs y h => (opn191 h).imp fun _ e => ⟨e, trivial⟩) h
/-- the lengths are in range -/
def okGRule (x : GRule) : Prop := okSl (fun _ => True) x.xTests
set_option maxRecDepth 100000 in
theorem opn165 {W : World} {F : Nat → Prop} (hF : ∀ b, b < W.heap.size → F b) {H : Type} {enc : TypeId × Value → H} {sp : Nat → Bool} {held : Bool} {m : Nat} {cs : List Value} {y : DataW H × List MemPlace} (h : DataW.trod enc Tryd.prog W 0 sp held m 165 cs = some y) : ∃ x : GRule, elGRule.cells F W x cs ∧ okGRule x := by
  obtain ⟨xs, n, _, _, hl, hlen, hf⟩ := DataW.trod_struct Tryd.underlying165 h
  rw [show Tryd.prog.cellsOf 165 = 3 from by kernel_rfl] at hl
  obtain ⟨v0, v1, v2, rfl⟩ : ∃ v0 v1 v2, cs = [v0, v1, v2] := by
    match cs, hl with
    | [v0, v1, v2], _ => exact ⟨v0, v1, v2, rfl⟩
  obtain ⟨y0, hy0⟩ : ∃ z, xs[0]? = some z := ⟨_, List.getElem?_eq_getElem (by rw [hlen]; decide)⟩
  have e0 := hf 0 _ rfl
  change DataW.trod enc Tryd.prog W 0 sp held n 163 (List.take (Tryd.prog.cellsOf 163) (List.drop 0 [v0, v1, v2])) = xs[0]? at e0
  rw [hy0, show Tryd.prog.cellsOf 163 = 1 from by kernel_rfl] at e0
  obtain ⟨u0, x0, hx0, S0, l0⟩ := ops163 hF e0
  simp only [List.drop_succ_cons, List.drop_zero, List.take_succ_cons, List.take_zero, List.cons.injEq, and_true] at hx0
  obtain ⟨y1, hy1⟩ : ∃ z, xs[1]? = some z := ⟨_, List.getElem?_eq_getElem (by rw [hlen]; decide)⟩
  have e1 := hf 1 _ rfl
  change DataW.trod enc Tryd.prog W 0 sp held n 3 (List.take (Tryd.prog.cellsOf 3) (List.drop 1 [v0, v1, v2])) = xs[1]? at e1
  rw [hy1, show Tryd.prog.cellsOf 3 = 1 from by kernel_rfl] at e1
  obtain ⟨x1, hx1⟩ := opn3 e1
  simp only [encInt, List.drop_succ_cons, List.drop_zero, List.take_succ_cons, List.take_zero, List.cons.injEq, and_true] at hx1
  obtain ⟨y2, hy2⟩ : ∃ z, xs[2]? = some z := ⟨_, List.getElem?_eq_getElem (by rw [hlen]; decide)⟩
  have e2 := hf 2 _ rfl
  change DataW.trod enc Tryd.prog W 0 sp held n 3 (List.take (Tryd.prog.cellsOf 3) (List.drop 2 [v0, v1, v2])) = xs[2]? at e2
  rw [hy2, show Tryd.prog.cellsOf 3 = 1 from by kernel_rfl] at e2
  obtain ⟨x2, hx2⟩ := opn3 e2
  simp only [encInt, List.drop_succ_cons, List.drop_zero, List.take_succ_cons, List.take_zero, List.cons.injEq, and_true] at hx2
  obtain rfl := hx0
  obtain rfl := hx1
  obtain rfl := hx2
  exact ⟨⟨x0, x1, x2⟩, ⟨_, rfl, S0⟩, l0⟩
theorem ops136 {W : World} {F : Nat → Prop} (hF : ∀ b, b < W.heap.size → F b) {H : Type} {enc : TypeId × Value → H} {sp : Nat → Bool} {held : Bool} {m : Nat} {cs : List Value} {y : DataW H × List MemPlace} (h : DataW.trod enc Tryd.prog W 0 sp held m 136 cs = some y) : ∃ v xs, cs = [v] ∧ Sl elGRule F W v xs ∧ okSl okGRule xs :=
  open_slQ hF Tryd.underlying136 (by kernel_rfl) (fun m cs y h => opn165 hF h) h
theorem ops32 {W : World} {F : Nat → Prop} (hF : ∀ b, b < W.heap.size → F b) {H : Type} {enc : TypeId × Value → H} {sp : Nat → Bool} {held : Bool} {m : Nat} {cs : List Value} {y : DataW H × List MemPlace} (h : DataW.trod enc Tryd.prog W 0 sp held m 32 cs = some y) : ∃ v xs, cs = [v] ∧ Sl (elSl elGRule) F W v xs ∧ okSl (okSl okGRule) xs :=
  open_slQ hF Tryd.underlying32 (by kernel_rfl) (fun m cs y h => let ⟨u, xs, a, b, c⟩ := ops136 hF h; ⟨xs, ⟨u, a, b⟩, c⟩) h
/-- the lengths are in range -/
def okGRuleset (x : GRuleset) : Prop := okSl (okSl okGRule) x.xChains
set_option maxRecDepth 100000 in
theorem opn34 {W : World} {F : Nat → Prop} (hF : ∀ b, b < W.heap.size → F b) {H : Type} {enc : TypeId × Value → H} {sp : Nat → Bool} {held : Bool} {m : Nat} {cs : List Value} {y : DataW H × List MemPlace} (h : DataW.trod enc Tryd.prog W 0 sp held m 34 cs = some y) : ∃ x : GRuleset, elGRuleset.cells F W x cs ∧ okGRuleset x := by
  obtain ⟨xs, n, _, _, hl, hlen, hf⟩ := DataW.trod_struct Tryd.underlying34 h
  rw [show Tryd.prog.cellsOf 34 = 2 from by kernel_rfl] at hl
  obtain ⟨v0, v1, rfl⟩ : ∃ v0 v1, cs = [v0, v1] := by
    match cs, hl with
    | [v0, v1], _ => exact ⟨v0, v1, rfl⟩
  obtain ⟨y0, hy0⟩ : ∃ z, xs[0]? = some z := ⟨_, List.getElem?_eq_getElem (by rw [hlen]; decide)⟩
  have e0 := hf 0 _ rfl
  change DataW.trod enc Tryd.prog W 0 sp held n 32 (List.take (Tryd.prog.cellsOf 32) (List.drop 0 [v0, v1])) = xs[0]? at e0
  rw [hy0, show Tryd.prog.cellsOf 32 = 1 from by kernel_rfl] at e0
  obtain ⟨u0, x0, hx0, S0, l0⟩ := ops32 hF e0
  simp only [List.drop_succ_cons, List.drop_zero, List.take_succ_cons, List.take_zero, List.cons.injEq, and_true] at hx0
  obtain ⟨y1, hy1⟩ : ∃ z, xs[1]? = some z := ⟨_, List.getElem?_eq_getElem (by rw [hlen]; decide)⟩
  have e1 := hf 1 _ rfl
  change DataW.trod enc Tryd.prog W 0 sp held n 4 (List.take (Tryd.prog.cellsOf 4) (List.drop 1 [v0, v1])) = xs[1]? at e1
  rw [hy1, show Tryd.prog.cellsOf 4 = 1 from by kernel_rfl] at e1
  obtain ⟨x1, hx1⟩ := opn4 e1
  simp only [encBool, List.drop_succ_cons, List.drop_zero, List.take_succ_cons, List.take_zero, List.cons.injEq, and_true] at hx1
  obtain rfl := hx0
  obtain rfl := hx1
  exact ⟨⟨x0, x1⟩, ⟨_, rfl, S0⟩, l0⟩
set_option maxRecDepth 100000 in
theorem opn36 {H : Type} {enc : TypeId × Value → H} {W : World} {sp : Nat → Bool} {held : Bool} {m : Nat} {cs : List Value} {y : DataW H × List MemPlace} (h : DataW.trod enc Tryd.prog W 0 sp held m 36 cs = some y) : ∃ x : GPacket, cs = encGPacket x := by
  obtain ⟨xs, n, _, _, hl, hlen, hf⟩ := DataW.trod_struct Tryd.underlying36 h
  rw [show Tryd.prog.cellsOf 36 = 4 from by kernel_rfl] at hl
  obtain ⟨v0, v1, v2, v3, rfl⟩ : ∃ v0 v1 v2 v3, cs = [v0, v1, v2, v3] := by
    match cs, hl with
    | [v0, v1, v2, v3], _ => exact ⟨v0, v1, v2, v3, rfl⟩
  obtain ⟨y0, hy0⟩ : ∃ z, xs[0]? = some z := ⟨_, List.getElem?_eq_getElem (by rw [hlen]; decide)⟩
  have e0 := hf 0 _ rfl
  change DataW.trod enc Tryd.prog W 0 sp held n 3 (List.take (Tryd.prog.cellsOf 3) (List.drop 0 [v0, v1, v2, v3])) = xs[0]? at e0
  rw [hy0, show Tryd.prog.cellsOf 3 = 1 from by kernel_rfl] at e0
  obtain ⟨x0, hx0⟩ := opn3 e0
  simp only [encInt, List.drop_succ_cons, List.drop_zero, List.take_succ_cons, List.take_zero, List.cons.injEq, and_true] at hx0
  obtain ⟨y1, hy1⟩ : ∃ z, xs[1]? = some z := ⟨_, List.getElem?_eq_getElem (by rw [hlen]; decide)⟩
  have e1 := hf 1 _ rfl
  change DataW.trod enc Tryd.prog W 0 sp held n 3 (List.take (Tryd.prog.cellsOf 3) (List.drop 1 [v0, v1, v2, v3])) = xs[1]? at e1
  rw [hy1, show Tryd.prog.cellsOf 3 = 1 from by kernel_rfl] at e1
  obtain ⟨x1, hx1⟩ := opn3 e1
  simp only [encInt, List.drop_succ_cons, List.drop_zero, List.take_succ_cons, List.take_zero, List.cons.injEq, and_true] at hx1
  obtain ⟨y2, hy2⟩ : ∃ z, xs[2]? = some z := ⟨_, List.getElem?_eq_getElem (by rw [hlen]; decide)⟩
  have e2 := hf 2 _ rfl
  change DataW.trod enc Tryd.prog W 0 sp held n 3 (List.take (Tryd.prog.cellsOf 3) (List.drop 2 [v0, v1, v2, v3])) = xs[2]? at e2
  rw [hy2, show Tryd.prog.cellsOf 3 = 1 from by kernel_rfl] at e2
  obtain ⟨x2, hx2⟩ := opn3 e2
  simp only [encInt, List.drop_succ_cons, List.drop_zero, List.take_succ_cons, List.take_zero, List.cons.injEq, and_true] at hx2
  obtain ⟨y3, hy3⟩ : ∃ z, xs[3]? = some z := ⟨_, List.getElem?_eq_getElem (by rw [hlen]; decide)⟩
  have e3 := hf 3 _ rfl
  change DataW.trod enc Tryd.prog W 0 sp held n 3 (List.take (Tryd.prog.cellsOf 3) (List.drop 3 [v0, v1, v2, v3])) = xs[3]? at e3
  rw [hy3, show Tryd.prog.cellsOf 3 = 1 from by kernel_rfl] at e3
  obtain ⟨x3, hx3⟩ := opn3 e3
  simp only [encInt, List.drop_succ_cons, List.drop_zero, List.take_succ_cons, List.take_zero, List.cons.injEq, and_true] at hx3
  obtain rfl := hx0
  obtain rfl := hx1
  obtain rfl := hx2
  obtain rfl := hx3
  exact ⟨⟨x0, x1, x2, x3⟩, rfl⟩
end

end Go.Proofs.YtigdghiknfehhaaDoor
