import Derived.Test.YtgpdnnhmndlljaaGreatDoorRows
import Derived.Test.YtgpdnnhmndlljaaGreatDoorMP12
import Derived.Test.YtgpdnnhmndlljaaGreatDoorOpen2
set_option linter.unusedSimpArgs false
set_option linter.unusedVariables false
namespace Go.Proofs.YtgpdnnhmndlljaaGreatDoor
section
open Go.ChangeShapes Go.WideShapes Go.ChangeAt Go.RowKit Go.Joins
theorem ziM {H:Type} {enc:TypeId×Value→H} {W:World} {sp:Nat→Bool} {held:Bool} {m:Nat} {cs:List Value} {y:DataW H×List MemPlace} (h:DataW.trod enc Tryz.prog W 0 sp held m 3 cs=some y):∃ x:Int,cs=ya x:=by
 obtain ⟨n,h1,_,_⟩:=DataW.trod_int Tryz.underlying3 h
 exact ⟨n,h1⟩
theorem zkF {H:Type} {enc:TypeId×Value→H} {W:World} {sp:Nat→Bool} {held:Bool} {m:Nat} {cs:List Value} {y:DataW H×List MemPlace} (h:DataW.trod enc Tryz.prog W 0 sp held m 4 cs=some y):∃ x:Bool,cs=XV x:=by
 obtain ⟨n,h1,_⟩:=DataW.trod_bool Tryz.underlying4 h
 exact ⟨n,h1⟩
set_option maxRecDepth 100000 in
theorem zks {H:Type} {enc:TypeId×Value→H} {W:World} {sp:Nat→Bool} {held:Bool} {m:Nat} {cs:List Value} {y:DataW H×List MemPlace} (h:DataW.trod enc Tryz.prog W 0 sp held m 295 cs=some y):∃ x:jh,cs=uz x:=by
 obtain ⟨xs,n,_,_,hl,hlen,hf⟩:=DataW.trod_struct Tryz.underlying295 h
 rw [show Tryz.prog.cellsOf 295=4 from by kernel_rfl] at hl
 obtain ⟨v0,v1,v2,v3,rfl⟩:∃ v0 v1 v2 v3,cs=[v0,v1,v2,v3]:=by
  match cs,hl with
  | [v0,v1,v2,v3],_=>exact ⟨v0,v1,v2,v3,rfl⟩
 obtain ⟨y0,hy0⟩:∃ z,xs[0]?=some z:=⟨_,List.getElem?_eq_getElem (by rw [hlen];decide)⟩
 have e0:=hf 0 _ rfl
 change DataW.trod enc Tryz.prog W 0 sp held n 3 (List.take (Tryz.prog.cellsOf 3) (List.drop 0 [v0,v1,v2,v3]))=xs[0]? at e0
 rw [hy0,show Tryz.prog.cellsOf 3=1 from by kernel_rfl] at e0
 obtain ⟨x0,hx0⟩:=ziM e0
 simp only [ya,List.drop_succ_cons,List.drop_zero,List.take_succ_cons,List.take_zero,List.cons.injEq,and_true] at hx0
 obtain ⟨y1,hy1⟩:∃ z,xs[1]?=some z:=⟨_,List.getElem?_eq_getElem (by rw [hlen];decide)⟩
 have e1:=hf 1 _ rfl
 change DataW.trod enc Tryz.prog W 0 sp held n 3 (List.take (Tryz.prog.cellsOf 3) (List.drop 1 [v0,v1,v2,v3]))=xs[1]? at e1
 rw [hy1,show Tryz.prog.cellsOf 3=1 from by kernel_rfl] at e1
 obtain ⟨x1,hx1⟩:=ziM e1
 simp only [ya,List.drop_succ_cons,List.drop_zero,List.take_succ_cons,List.take_zero,List.cons.injEq,and_true] at hx1
 obtain ⟨y2,hy2⟩:∃ z,xs[2]?=some z:=⟨_,List.getElem?_eq_getElem (by rw [hlen];decide)⟩
 have e2:=hf 2 _ rfl
 change DataW.trod enc Tryz.prog W 0 sp held n 3 (List.take (Tryz.prog.cellsOf 3) (List.drop 2 [v0,v1,v2,v3]))=xs[2]? at e2
 rw [hy2,show Tryz.prog.cellsOf 3=1 from by kernel_rfl] at e2
 obtain ⟨x2,hx2⟩:=ziM e2
 simp only [ya,List.drop_succ_cons,List.drop_zero,List.take_succ_cons,List.take_zero,List.cons.injEq,and_true] at hx2
 obtain ⟨y3,hy3⟩:∃ z,xs[3]?=some z:=⟨_,List.getElem?_eq_getElem (by rw [hlen];decide)⟩
 have e3:=hf 3 _ rfl
 change DataW.trod enc Tryz.prog W 0 sp held n 4 (List.take (Tryz.prog.cellsOf 4) (List.drop 3 [v0,v1,v2,v3]))=xs[3]? at e3
 rw [hy3,show Tryz.prog.cellsOf 4=1 from by kernel_rfl] at e3
 obtain ⟨x3,hx3⟩:=zkF e3
 simp only [XV,List.drop_succ_cons,List.drop_zero,List.take_succ_cons,List.take_zero,List.cons.injEq,and_true] at hx3
 obtain rfl:=hx0
 obtain rfl:=hx1
 obtain rfl:=hx2
 obtain rfl:=hx3
 exact ⟨⟨x0,x1,x2,x3⟩,rfl⟩
theorem zki {W:World} {F:Nat→Prop} (hF:∀ b,b<W.heap.size→F b) {H:Type} {enc:TypeId×Value→H} {sp:Nat→Bool} {held:Bool} {m:Nat} {cs:List Value} {y:DataW H×List MemPlace} (h:DataW.trod enc Tryz.prog W 0 sp held m 230 cs=some y):∃ v xs,cs=[v]∧Sl xh F W v xs∧zfO (fun _=>True) xs :=
 zdh hF Tryz.underlying230 (by kernel_rfl) (fun m cs y h=>(zks h).imp fun _ e=>⟨e,trivial⟩) h
def zcz (x:zz):Prop:=zfO (fun _=>True) x.xTests
set_option maxRecDepth 100000 in
theorem zj9 {W:World} {F:Nat→Prop} (hF:∀ b,b<W.heap.size→F b) {H:Type} {enc:TypeId×Value→H} {sp:Nat→Bool} {held:Bool} {m:Nat} {cs:List Value} {y:DataW H×List MemPlace} (h:DataW.trod enc Tryz.prog W 0 sp held m 232 cs=some y):∃ x:zz,jM.cells F W x cs∧zcz x:=by
 obtain ⟨xs,n,_,_,hl,hlen,hf⟩:=DataW.trod_struct Tryz.underlying232 h
 rw [show Tryz.prog.cellsOf 232=3 from by kernel_rfl] at hl
 obtain ⟨v0,v1,v2,rfl⟩:∃ v0 v1 v2,cs=[v0,v1,v2]:=by
  match cs,hl with
  | [v0,v1,v2],_=>exact ⟨v0,v1,v2,rfl⟩
 obtain ⟨y0,hy0⟩:∃ z,xs[0]?=some z:=⟨_,List.getElem?_eq_getElem (by rw [hlen];decide)⟩
 have e0:=hf 0 _ rfl
 change DataW.trod enc Tryz.prog W 0 sp held n 230 (List.take (Tryz.prog.cellsOf 230) (List.drop 0 [v0,v1,v2]))=xs[0]? at e0
 rw [hy0,show Tryz.prog.cellsOf 230=1 from by kernel_rfl] at e0
 obtain ⟨u0,x0,hx0,S0,l0⟩:=zki hF e0
 simp only [List.drop_succ_cons,List.drop_zero,List.take_succ_cons,List.take_zero,List.cons.injEq,and_true] at hx0
 obtain ⟨y1,hy1⟩:∃ z,xs[1]?=some z:=⟨_,List.getElem?_eq_getElem (by rw [hlen];decide)⟩
 have e1:=hf 1 _ rfl
 change DataW.trod enc Tryz.prog W 0 sp held n 3 (List.take (Tryz.prog.cellsOf 3) (List.drop 1 [v0,v1,v2]))=xs[1]? at e1
 rw [hy1,show Tryz.prog.cellsOf 3=1 from by kernel_rfl] at e1
 obtain ⟨x1,hx1⟩:=ziM e1
 simp only [ya,List.drop_succ_cons,List.drop_zero,List.take_succ_cons,List.take_zero,List.cons.injEq,and_true] at hx1
 obtain ⟨y2,hy2⟩:∃ z,xs[2]?=some z:=⟨_,List.getElem?_eq_getElem (by rw [hlen];decide)⟩
 have e2:=hf 2 _ rfl
 change DataW.trod enc Tryz.prog W 0 sp held n 3 (List.take (Tryz.prog.cellsOf 3) (List.drop 2 [v0,v1,v2]))=xs[2]? at e2
 rw [hy2,show Tryz.prog.cellsOf 3=1 from by kernel_rfl] at e2
 obtain ⟨x2,hx2⟩:=ziM e2
 simp only [ya,List.drop_succ_cons,List.drop_zero,List.take_succ_cons,List.take_zero,List.cons.injEq,and_true] at hx2
 obtain rfl:=hx0
 obtain rfl:=hx1
 obtain rfl:=hx2
 exact ⟨⟨x0,x1,x2⟩,⟨_,rfl,S0⟩,l0⟩
theorem zj7 {W:World} {F:Nat→Prop} (hF:∀ b,b<W.heap.size→F b) {H:Type} {enc:TypeId×Value→H} {sp:Nat→Bool} {held:Bool} {m:Nat} {cs:List Value} {y:DataW H×List MemPlace} (h:DataW.trod enc Tryz.prog W 0 sp held m 177 cs=some y):∃ v xs,cs=[v]∧Sl jM F W v xs∧zfO zcz xs :=
 zdh hF Tryz.underlying177 (by kernel_rfl) (fun m cs y h=>zj9 hF h) h
theorem zk8 {W:World} {F:Nat→Prop} (hF:∀ b,b<W.heap.size→F b) {H:Type} {enc:TypeId×Value→H} {sp:Nat→Bool} {held:Bool} {m:Nat} {cs:List Value} {y:DataW H×List MemPlace} (h:DataW.trod enc Tryz.prog W 0 sp held m 50 cs=some y):∃ v xs,cs=[v]∧Sl (zE jM) F W v xs∧zfO (zfO zcz) xs :=
 zdh hF Tryz.underlying50 (by kernel_rfl) (fun m cs y h=>let ⟨u,xs,a,b,c⟩:=zj7 hF h;⟨xs,⟨u,a,b⟩,c⟩) h
def zgs (x:zS):Prop:=zfO (zfO zcz) x.xChains
set_option maxRecDepth 100000 in
theorem zk0 {W:World} {F:Nat→Prop} (hF:∀ b,b<W.heap.size→F b) {H:Type} {enc:TypeId×Value→H} {sp:Nat→Bool} {held:Bool} {m:Nat} {cs:List Value} {y:DataW H×List MemPlace} (h:DataW.trod enc Tryz.prog W 0 sp held m 52 cs=some y):∃ x:zS,zgj.cells F W x cs∧zgs x:=by
 obtain ⟨xs,n,_,_,hl,hlen,hf⟩:=DataW.trod_struct Tryz.underlying52 h
 rw [show Tryz.prog.cellsOf 52=2 from by kernel_rfl] at hl
 obtain ⟨v0,v1,rfl⟩:∃ v0 v1,cs=[v0,v1]:=by
  match cs,hl with
  | [v0,v1],_=>exact ⟨v0,v1,rfl⟩
 obtain ⟨y0,hy0⟩:∃ z,xs[0]?=some z:=⟨_,List.getElem?_eq_getElem (by rw [hlen];decide)⟩
 have e0:=hf 0 _ rfl
 change DataW.trod enc Tryz.prog W 0 sp held n 50 (List.take (Tryz.prog.cellsOf 50) (List.drop 0 [v0,v1]))=xs[0]? at e0
 rw [hy0,show Tryz.prog.cellsOf 50=1 from by kernel_rfl] at e0
 obtain ⟨u0,x0,hx0,S0,l0⟩:=zk8 hF e0
 simp only [List.drop_succ_cons,List.drop_zero,List.take_succ_cons,List.take_zero,List.cons.injEq,and_true] at hx0
 obtain ⟨y1,hy1⟩:∃ z,xs[1]?=some z:=⟨_,List.getElem?_eq_getElem (by rw [hlen];decide)⟩
 have e1:=hf 1 _ rfl
 change DataW.trod enc Tryz.prog W 0 sp held n 4 (List.take (Tryz.prog.cellsOf 4) (List.drop 1 [v0,v1]))=xs[1]? at e1
 rw [hy1,show Tryz.prog.cellsOf 4=1 from by kernel_rfl] at e1
 obtain ⟨x1,hx1⟩:=zkF e1
 simp only [XV,List.drop_succ_cons,List.drop_zero,List.take_succ_cons,List.take_zero,List.cons.injEq,and_true] at hx1
 obtain rfl:=hx0
 obtain rfl:=hx1
 exact ⟨⟨x0,x1⟩,⟨_,rfl,S0⟩,l0⟩
end
end Go.Proofs.YtgpdnnhmndlljaaGreatDoor
