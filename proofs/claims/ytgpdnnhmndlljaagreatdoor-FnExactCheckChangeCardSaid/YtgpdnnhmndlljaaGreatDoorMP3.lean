import Derived.Test.YtgpdnnhmndlljaaGreatDoorRows
import Derived.Test.YtgpdnnhmndlljaaGreatDoorMP12
import Derived.Test.YtgpdnnhmndlljaaGreatDoorOpen2
set_option linter.unusedSimpArgs false
set_option linter.unusedVariables false
namespace Go.Proofs.YtgpdnnhmndlljaaGreatDoor
section
open Go.ChangeShapes Go.WideShapes Go.ChangeAt Go.RowKit Go.Joins
theorem zhB {H:Type} {enc:TypeId×Value→H} {W:World} {sp:Nat→Bool} {held:Bool} {m:Nat} {cs:List Value} {y:DataW H×List MemPlace} (h:DataW.trod enc Tryz.prog W 0 sp held m 3 cs=some y):∃ x:Int,cs=yg x:=by
 obtain ⟨n,h1,_,_⟩:=DataW.trod_int Tryz.underlying3 h
 exact ⟨n,h1⟩
theorem zkN {H:Type} {enc:TypeId×Value→H} {W:World} {sp:Nat→Bool} {held:Bool} {m:Nat} {cs:List Value} {y:DataW H×List MemPlace} (h:DataW.trod enc Tryz.prog W 0 sp held m 4 cs=some y):∃ x:Bool,cs=XY x:=by
 obtain ⟨n,h1,_⟩:=DataW.trod_bool Tryz.underlying4 h
 exact ⟨n,h1⟩
set_option maxRecDepth 100000 in
theorem zke {H:Type} {enc:TypeId×Value→H} {W:World} {sp:Nat→Bool} {held:Bool} {m:Nat} {cs:List Value} {y:DataW H×List MemPlace} (h:DataW.trod enc Tryz.prog W 0 sp held m 295 cs=some y):∃ x:jH,cs=yx x:=by
 obtain ⟨xs,n,_,_,hl,hlen,hf⟩:=DataW.trod_struct Tryz.underlying295 h
 rw [show Tryz.prog.cellsOf 295=4 from by kernel_rfl] at hl
 obtain ⟨v0,v1,v2,v3,rfl⟩:∃ v0 v1 v2 v3,cs=[v0,v1,v2,v3]:=by
  match cs,hl with
  | [v0,v1,v2,v3],_=>exact ⟨v0,v1,v2,v3,rfl⟩
 obtain ⟨y0,hy0⟩:∃ z,xs[0]?=some z:=⟨_,List.getElem?_eq_getElem (by rw [hlen];decide)⟩
 have e0:=hf 0 _ rfl
 change DataW.trod enc Tryz.prog W 0 sp held n 3 (List.take (Tryz.prog.cellsOf 3) (List.drop 0 [v0,v1,v2,v3]))=xs[0]? at e0
 rw [hy0,show Tryz.prog.cellsOf 3=1 from by kernel_rfl] at e0
 obtain ⟨x0,hx0⟩:=zhB e0
 simp only [yg,List.drop_succ_cons,List.drop_zero,List.take_succ_cons,List.take_zero,List.cons.injEq,and_true] at hx0
 obtain ⟨y1,hy1⟩:∃ z,xs[1]?=some z:=⟨_,List.getElem?_eq_getElem (by rw [hlen];decide)⟩
 have e1:=hf 1 _ rfl
 change DataW.trod enc Tryz.prog W 0 sp held n 3 (List.take (Tryz.prog.cellsOf 3) (List.drop 1 [v0,v1,v2,v3]))=xs[1]? at e1
 rw [hy1,show Tryz.prog.cellsOf 3=1 from by kernel_rfl] at e1
 obtain ⟨x1,hx1⟩:=zhB e1
 simp only [yg,List.drop_succ_cons,List.drop_zero,List.take_succ_cons,List.take_zero,List.cons.injEq,and_true] at hx1
 obtain ⟨y2,hy2⟩:∃ z,xs[2]?=some z:=⟨_,List.getElem?_eq_getElem (by rw [hlen];decide)⟩
 have e2:=hf 2 _ rfl
 change DataW.trod enc Tryz.prog W 0 sp held n 3 (List.take (Tryz.prog.cellsOf 3) (List.drop 2 [v0,v1,v2,v3]))=xs[2]? at e2
 rw [hy2,show Tryz.prog.cellsOf 3=1 from by kernel_rfl] at e2
 obtain ⟨x2,hx2⟩:=zhB e2
 simp only [yg,List.drop_succ_cons,List.drop_zero,List.take_succ_cons,List.take_zero,List.cons.injEq,and_true] at hx2
 obtain ⟨y3,hy3⟩:∃ z,xs[3]?=some z:=⟨_,List.getElem?_eq_getElem (by rw [hlen];decide)⟩
 have e3:=hf 3 _ rfl
 change DataW.trod enc Tryz.prog W 0 sp held n 4 (List.take (Tryz.prog.cellsOf 4) (List.drop 3 [v0,v1,v2,v3]))=xs[3]? at e3
 rw [hy3,show Tryz.prog.cellsOf 4=1 from by kernel_rfl] at e3
 obtain ⟨x3,hx3⟩:=zkN e3
 simp only [XY,List.drop_succ_cons,List.drop_zero,List.take_succ_cons,List.take_zero,List.cons.injEq,and_true] at hx3
 obtain rfl:=hx0
 obtain rfl:=hx1
 obtain rfl:=hx2
 obtain rfl:=hx3
 exact ⟨⟨x0,x1,x2,x3⟩,rfl⟩
theorem zkd {W:World} {F:Nat→Prop} (hF:∀ b,b<W.heap.size→F b) {H:Type} {enc:TypeId×Value→H} {sp:Nat→Bool} {held:Bool} {m:Nat} {cs:List Value} {y:DataW H×List MemPlace} (h:DataW.trod enc Tryz.prog W 0 sp held m 230 cs=some y):∃ v xs,cs=[v]∧Sl ug F W v xs∧zfd (fun _=>True) xs :=
 zcy hF Tryz.underlying230 (by kernel_rfl) (fun m cs y h=>(zke h).imp fun _ e=>⟨e,trivial⟩) h
def zcs (x:zG):Prop:=zfd (fun _=>True) x.xTests
set_option maxRecDepth 100000 in
theorem zkb {W:World} {F:Nat→Prop} (hF:∀ b,b<W.heap.size→F b) {H:Type} {enc:TypeId×Value→H} {sp:Nat→Bool} {held:Bool} {m:Nat} {cs:List Value} {y:DataW H×List MemPlace} (h:DataW.trod enc Tryz.prog W 0 sp held m 232 cs=some y):∃ x:zG,jK.cells F W x cs∧zcs x:=by
 obtain ⟨xs,n,_,_,hl,hlen,hf⟩:=DataW.trod_struct Tryz.underlying232 h
 rw [show Tryz.prog.cellsOf 232=3 from by kernel_rfl] at hl
 obtain ⟨v0,v1,v2,rfl⟩:∃ v0 v1 v2,cs=[v0,v1,v2]:=by
  match cs,hl with
  | [v0,v1,v2],_=>exact ⟨v0,v1,v2,rfl⟩
 obtain ⟨y0,hy0⟩:∃ z,xs[0]?=some z:=⟨_,List.getElem?_eq_getElem (by rw [hlen];decide)⟩
 have e0:=hf 0 _ rfl
 change DataW.trod enc Tryz.prog W 0 sp held n 230 (List.take (Tryz.prog.cellsOf 230) (List.drop 0 [v0,v1,v2]))=xs[0]? at e0
 rw [hy0,show Tryz.prog.cellsOf 230=1 from by kernel_rfl] at e0
 obtain ⟨u0,x0,hx0,S0,l0⟩:=zkd hF e0
 simp only [List.drop_succ_cons,List.drop_zero,List.take_succ_cons,List.take_zero,List.cons.injEq,and_true] at hx0
 obtain ⟨y1,hy1⟩:∃ z,xs[1]?=some z:=⟨_,List.getElem?_eq_getElem (by rw [hlen];decide)⟩
 have e1:=hf 1 _ rfl
 change DataW.trod enc Tryz.prog W 0 sp held n 3 (List.take (Tryz.prog.cellsOf 3) (List.drop 1 [v0,v1,v2]))=xs[1]? at e1
 rw [hy1,show Tryz.prog.cellsOf 3=1 from by kernel_rfl] at e1
 obtain ⟨x1,hx1⟩:=zhB e1
 simp only [yg,List.drop_succ_cons,List.drop_zero,List.take_succ_cons,List.take_zero,List.cons.injEq,and_true] at hx1
 obtain ⟨y2,hy2⟩:∃ z,xs[2]?=some z:=⟨_,List.getElem?_eq_getElem (by rw [hlen];decide)⟩
 have e2:=hf 2 _ rfl
 change DataW.trod enc Tryz.prog W 0 sp held n 3 (List.take (Tryz.prog.cellsOf 3) (List.drop 2 [v0,v1,v2]))=xs[2]? at e2
 rw [hy2,show Tryz.prog.cellsOf 3=1 from by kernel_rfl] at e2
 obtain ⟨x2,hx2⟩:=zhB e2
 simp only [yg,List.drop_succ_cons,List.drop_zero,List.take_succ_cons,List.take_zero,List.cons.injEq,and_true] at hx2
 obtain rfl:=hx0
 obtain rfl:=hx1
 obtain rfl:=hx2
 exact ⟨⟨x0,x1,x2⟩,⟨_,rfl,S0⟩,l0⟩
theorem zkc {W:World} {F:Nat→Prop} (hF:∀ b,b<W.heap.size→F b) {H:Type} {enc:TypeId×Value→H} {sp:Nat→Bool} {held:Bool} {m:Nat} {cs:List Value} {y:DataW H×List MemPlace} (h:DataW.trod enc Tryz.prog W 0 sp held m 177 cs=some y):∃ v xs,cs=[v]∧Sl jK F W v xs∧zfd zcs xs :=
 zcy hF Tryz.underlying177 (by kernel_rfl) (fun m cs y h=>zkb hF h) h
theorem zkQ {W:World} {F:Nat→Prop} (hF:∀ b,b<W.heap.size→F b) {H:Type} {enc:TypeId×Value→H} {sp:Nat→Bool} {held:Bool} {m:Nat} {cs:List Value} {y:DataW H×List MemPlace} (h:DataW.trod enc Tryz.prog W 0 sp held m 50 cs=some y):∃ v xs,cs=[v]∧Sl (zA jK) F W v xs∧zfd (zfd zcs) xs :=
 zcy hF Tryz.underlying50 (by kernel_rfl) (fun m cs y h=>let ⟨u,xs,a,b,c⟩:=zkc hF h;⟨xs,⟨u,a,b⟩,c⟩) h
def zf8 (x:zM):Prop:=zfd (zfd zcs) x.xChains
set_option maxRecDepth 100000 in
theorem zjm {W:World} {F:Nat→Prop} (hF:∀ b,b<W.heap.size→F b) {H:Type} {enc:TypeId×Value→H} {sp:Nat→Bool} {held:Bool} {m:Nat} {cs:List Value} {y:DataW H×List MemPlace} (h:DataW.trod enc Tryz.prog W 0 sp held m 52 cs=some y):∃ x:zM,zfT.cells F W x cs∧zf8 x:=by
 obtain ⟨xs,n,_,_,hl,hlen,hf⟩:=DataW.trod_struct Tryz.underlying52 h
 rw [show Tryz.prog.cellsOf 52=2 from by kernel_rfl] at hl
 obtain ⟨v0,v1,rfl⟩:∃ v0 v1,cs=[v0,v1]:=by
  match cs,hl with
  | [v0,v1],_=>exact ⟨v0,v1,rfl⟩
 obtain ⟨y0,hy0⟩:∃ z,xs[0]?=some z:=⟨_,List.getElem?_eq_getElem (by rw [hlen];decide)⟩
 have e0:=hf 0 _ rfl
 change DataW.trod enc Tryz.prog W 0 sp held n 50 (List.take (Tryz.prog.cellsOf 50) (List.drop 0 [v0,v1]))=xs[0]? at e0
 rw [hy0,show Tryz.prog.cellsOf 50=1 from by kernel_rfl] at e0
 obtain ⟨u0,x0,hx0,S0,l0⟩:=zkQ hF e0
 simp only [List.drop_succ_cons,List.drop_zero,List.take_succ_cons,List.take_zero,List.cons.injEq,and_true] at hx0
 obtain ⟨y1,hy1⟩:∃ z,xs[1]?=some z:=⟨_,List.getElem?_eq_getElem (by rw [hlen];decide)⟩
 have e1:=hf 1 _ rfl
 change DataW.trod enc Tryz.prog W 0 sp held n 4 (List.take (Tryz.prog.cellsOf 4) (List.drop 1 [v0,v1]))=xs[1]? at e1
 rw [hy1,show Tryz.prog.cellsOf 4=1 from by kernel_rfl] at e1
 obtain ⟨x1,hx1⟩:=zkN e1
 simp only [XY,List.drop_succ_cons,List.drop_zero,List.take_succ_cons,List.take_zero,List.cons.injEq,and_true] at hx1
 obtain rfl:=hx0
 obtain rfl:=hx1
 exact ⟨⟨x0,x1⟩,⟨_,rfl,S0⟩,l0⟩
end
end Go.Proofs.YtgpdnnhmndlljaaGreatDoor
