import Derived.Test.YtgpdnnhmndlljaaGreatDoorRows
import Derived.Test.YtgpdnnhmndlljaaGreatDoorTie
import Derived.Test.YtgpdnnhmndlljaaGreatDoorCards
import Derived.Test.YtgpdnnhmndlljaaGreatDoorMP13
import Derived.Test.YtgpdnnhmndlljaaGreatDoorOpen
import Derived.ProofKit
import Derived.LaidMore
import Derived.LaidSub
import Derived.Lib.LaidTab
import Derived.Test.YtgpdnnhmndlljaaGreatDoorLibS
import Derived.OpenShut
import Derived.OpenVars
import Derived.Stop.Joined
import Derived.SevenTiedAt
set_option linter.unusedSimpArgs false
set_option linter.unusedVariables false
namespace Go.Proofs.YtgpdnnhmndlljaaGreatDoor
open Go.ChangeShapes Go.WideShapes Go.ChangeAt Go.RowKit Go.Joins
abbrev zsp:List (String×DataW Unit):=[("loop.example/packetfilter/impl.fieldShapes",Rows.laid_loop_example_packetfilter_impl_fieldShapes)]
abbrev zqi:List (String×DataW Unit):=[("math/bits.deBruijn32tab",Rows.laid_math_bits_deBruijn32tab),("math/bits.deBruijn64tab",Rows.laid_math_bits_deBruijn64tab),("internal/strconv.uint64pow10",Rows.laid_internal_strconv_uint64pow10)]
abbrev ziM:List (String×DataW Unit):=[("math/bits.deBruijn32tab",Rows.laid_math_bits_deBruijn32tab),("math/bits.deBruijn64tab",Rows.laid_math_bits_deBruijn64tab),("internal/strconv.uint64pow10",Rows.laid_internal_strconv_uint64pow10),("loop.example/packetfilter/impl.fieldShapes",Rows.laid_loop_example_packetfilter_impl_fieldShapes)]
theorem zpm:Tryz.prog.globalNamed "loop.example/packetfilter/impl.fieldShapes"=some 0:=by kernel_rfl
theorem zpU:(Tryz.prog.globals[0]?).map (·.type)=some 163:=by kernel_rfl
theorem zrH (os:Os) (args:Array Value):laidMetH Tryz.prog zqi ((World.doorLaid Tryz.prog 400 os).forCall (fun _ _=>0) ⟨#[],args,[]⟩).memory :=
 laidMetH_of_parts3 (fuel:=8) (laidMet_of_run' 8 (by kernel_rfl) (by kernel_rfl)) (by kernel_rfl) (by kernel_rfl)
theorem zng (os:Os) (args:Array Value):laidMetH Tryz.prog ziM ((World.doorLaid Tryz.prog 400 os).forCall (fun _ _=>0) ⟨#[],args,[]⟩).memory :=
 laidMetH_of_parts3 (fuel:=8) (laidMet_of_run' 8 (by kernel_rfl) (by kernel_rfl)) (by kernel_rfl) (by kernel_rfl)
section
variable {H:Type} {enc:TypeId×Value->H} {P:Program} {w:World} {base:Nat} {sp:Nat->Bool} {held:Bool}
theorem zkq {fuel:Nat} {t:TypeId} {k:IntKind} {c:Value} {y:DataW H×List MemPlace} (ht:P.underlying t=some (.int k)) (h:DataW.trod enc P w base sp held fuel t [c]=some y):∃ n,c=.int k n∧y=(.lit (.int k n),[]):=by
 cases fuel with
 | zero=>simp [DataW.trod] at h
 | succ fuel =>
  cases c <;> simp [DataW.trod,ht] at h;rename_i k' n;obtain ⟨⟨rfl,_⟩,rfl⟩:=h;exact ⟨n,rfl,rfl⟩
theorem zkL {fuel:Nat} {t:TypeId} {c:Value} {y:DataW H×List MemPlace} (ht:P.underlying t=some .string) (h:DataW.trod enc P w base sp held fuel t [c]=some y):∃ s,c=.string s∧y=(.lit (.string s.data.toList),[]):=by
 cases fuel with
 | zero=>simp [DataW.trod] at h
 | succ fuel =>
  cases c <;> simp [DataW.trod,ht] at h;rename_i s;obtain ⟨_,rfl⟩:=h;exact ⟨s,rfl,rfl⟩
theorem zix {fuel:Nat} {t ts ti:TypeId} {f0 f1:Field} {a b:Value} {y:DataW H×List MemPlace} (ht:P.underlying t=some (.struct #[f0,f1])) (h0:f0.type=ts∧f0.offset=0) (h1:f1.type=ti∧f1.offset=1) (hs:P.underlying ts=some .string) (hi:P.underlying ti=some (.int .i64)) (cs:P.cellsOf ts=1) (ci:P.cellsOf ti=1)
  (h:DataW.trod enc P w base sp held fuel t [a,b]=some y):∃ s n,a=.string s∧b=.int .i64 n∧y=(.agg [.lit (.string s.data.toList),.lit (.int .i64 n)],[]):=by
 obtain ⟨y0,y1,n,rfl,_,k0,k1⟩:=trod_struct2 ht h;rw [h0.1,h0.2,cs] at k0;rw [h1.1,h1.2,ci] at k1;obtain ⟨s,rfl,rfl⟩:=zkL hs (by simpa using k0);obtain ⟨m,rfl,rfl⟩:=zkq hi (by simpa using k1);exact ⟨s,m,rfl,rfl,rfl⟩
theorem zer {s:ByteArray} {l:List UInt8} (h:s.data.toList=l):s=ByteArray.mk l.toArray:=by
 obtain ⟨d⟩:=s;simp only at h;subst h;simp
end
set_option maxRecDepth 100000 in
theorem zm0 {W:World} (h:laidMetH Tryz.prog zsp W):Sl zU (fun b=>b<W.heap.size∧¬ uv [] b) W (.slice (some ⟨0,0,none⟩) 4 4) zu:=by
 rw [MakeChecks.laidMetH_plain _ _ _ (by kernel_rfl)] at h;obtain ⟨ps,⟨g0,t0,cs0,f0,p0,q0,hg0,ht0,hv0,hd0,_,_⟩,_,_⟩:=h;obtain rfl:=Option.some.inj (zpm.symm.trans hg0);obtain rfl:=Option.some.inj (zpU.symm.trans ht0);obtain ⟨xs,m1,rfl,hx1,hlen,hn3,hel⟩:=DataW.trod_array Tryz.underlying163 hd0;have c1:Tryz.prog.cellsOf 162=2:=by kernel_rfl
 have c2:Tryz.prog.cellsOf 163=8:=by kernel_rfl
 have cs:Tryz.prog.cellsOf 9=1:=by kernel_rfl
 have ci:Tryz.prog.cellsOf 3=1:=by kernel_rfl
 have hcell:∀ k,W.cell? ⟨0,k,none⟩=cs0[k]?:=fun k=>World.var?_cell hg0 hv0 k
 obtain ⟨l⟩:=cs0;rw [c2] at hlen;obtain ⟨v0,v1,v2,v3,v4,v5,v6,v7,rfl⟩:∃ v0 v1 v2 v3 v4 v5 v6 v7,l=[v0,v1,v2,v3,v4,v5,v6,v7]:=by
  match l,hlen with
  | [a,b,c,d,e,f,g,h],_=>exact ⟨a,b,c,d,e,f,g,h,rfl⟩
 obtain ⟨x0,x1,x2,x3,rfl⟩:∃ x0 x1 x2 x3,xs=[x0,x1,x2,x3]:=by
  match xs,hn3 with
  | [a,b,c,d],_=>exact ⟨a,b,c,d,rfl⟩
 have e0:=hel 0 (by decide);have e1:=hel 1 (by decide);have e2:=hel 2 (by decide);have e3:=hel 3 (by decide);rw [c1] at e0 e1 e2 e3;have key:∀ {a b:Value} {y:DataW Unit×List MemPlace} {m:Nat},DataW.trod (fun _=>()) Tryz.prog W 0 (fun _=>true) false m 162 [a,b]=some y->∃ s n,a=.string s∧b=.int .i64 n∧y=(.agg [.lit (.string s.data.toList),.lit (.int .i64 n)],[]):=fun h =>
  zix Tryz.underlying162 ⟨rfl,rfl⟩ ⟨rfl,rfl⟩ Tryz.underlying9 Tryz.underlying3 cs ci h
 obtain ⟨s0,n0,rfl,rfl,rfl⟩:=key (by simpa using e0);obtain ⟨s1,n1,rfl,rfl,rfl⟩:=key (by simpa using e1);obtain ⟨s2,n2,rfl,rfl,rfl⟩:=key (by simpa using e2);obtain ⟨s3,n3,rfl,rfl,rfl⟩:=key (by simpa using e3);simp only [Rows.laid_loop_example_packetfilter_impl_fieldShapes,List.map_cons,List.map_nil,Prod.mk.injEq,DataW.agg.injEq,List.cons.injEq,DataW.lit.injEq,Lit.string.injEq,Lit.int.injEq,true_and,and_true] at hx1;obtain ⟨⟨⟨a0,b0⟩,⟨a1,b1⟩,⟨a2,b2⟩,⟨a3,b3⟩⟩,_⟩:=hx1;obtain rfl:=zer a0.symm;obtain rfl:=zer a1.symm;obtain rfl:=zer a2.symm;obtain rfl:=zer a3.symm;subst b0 b1 b2 b3;refine ⟨some ⟨0,0,none⟩,4,rfl,by decide,fun _=>⟨0,0,rfl,zjd 0 ?_,fun i x hx=>⟨Zl x,(YH _ _ _ _).2 rfl,fun j v hv=>?_⟩⟩⟩
 ·have:=hcell 0;simp at this;exact World.block_lt_of_cell? W _ this
 have hi:i<4:=(List.getElem?_eq_some_iff.1 hx).1;have es:zU.size=2:=rfl;rw [es,hcell];have hj:j<2:=(List.getElem?_eq_some_iff.1 hv).1
 match i,hi,j,hj with
 | 0,_,0,_=>cases hx;cases hv;rfl
 | 0,_,1,_=>cases hx;cases hv;rfl
 | 1,_,0,_=>cases hx;cases hv;rfl
 | 1,_,1,_=>cases hx;cases hv;rfl
 | 2,_,0,_=>cases hx;cases hv;rfl
 | 2,_,1,_=>cases hx;cases hv;rfl
 | 3,_,0,_=>cases hx;cases hv;rfl
 | 3,_,1,_=>cases hx;cases hv;rfl
theorem zpa {W:World} (h:laidMetH Tryz.prog ziM W):Sl zU (fun b=>b<W.heap.size∧¬ uv [] b) W (.slice (some ⟨0,0,none⟩) 4 4) zu :=
 zm0 (h.filter (fun x=>x.1 == "loop.example/packetfilter/impl.fieldShapes"))
theorem zmt {W:World} (h:laidMetH Tryz.prog [("internal/strconv.uint64pow10",Rows.laid_internal_strconv_uint64pow10)] W):Tb (fun b=>b<W.heap.size∧¬ uv [] b) W:=by
 rw [MakeChecks.laidMetH_plain _ _ _ (by kernel_rfl)] at h;have h1:Lib.TabIs Tryz.prog W "internal/strconv.uint64pow10" .u64 Lib.pow10Tab :=
  Lib.tabIs_of_head (zs:=Lib.pow10Tab) (n:=20) tbG (by kernel_rfl) Tryz.underlying310 Tryz.underlying304 (by kernel_rfl) (by kernel_rfl) h
 exact ⟨zjd _ (World.block_lt_of_cell? W _ (h1.cell tbG 0 (by decide))),h1⟩
theorem tb3 {W:World} (h:laidMetH Tryz.prog zqi W):Tb (fun b=>b<W.heap.size∧¬ uv [] b) W:=zmt (h.filter (fun x=>x.1 == "internal/strconv.uint64pow10"))
theorem tb4 {W:World} (h:laidMetH Tryz.prog ziM W):Tb (fun b=>b<W.heap.size∧¬ uv [] b) W:=zmt (h.filter (fun x=>x.1 == "internal/strconv.uint64pow10"))
end Go.Proofs.YtgpdnnhmndlljaaGreatDoor
