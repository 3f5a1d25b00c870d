import Derived.Test.YtgpdnnhmndlljaaGreatDoorMA1
import Derived.RangeFuncMany
import Derived.RangeFuncCalls
import Derived.RangeFuncLeaves
import Derived.TacticsIn
import Derived.Test.YtgpdnnhmndlljaaGreatDoorEls
import Derived.Test.YtgpdnnhmndlljaaGreatDoorMA0
import Derived.Laws.BitsLemmas
set_option linter.unusedSimpArgs false
set_option linter.unusedVariables false
set_option linter.unusedSectionVars false
namespace Go.Proofs.YtgpdnnhmndlljaaGreatDoor
section
open Go.RowKit
section
variable {P:Program} {n:Nat} {G D:Nat→Prop} {w0:World} {Q:Exit→Act→World→Prop} {R:Act→World→Prop} {E:Env} {L M:List Ch} {φ:Prop}
variable {d:Tmp} {ty:TypeId} {pos:String} {aft:Array Edge} {gd:Option (Nat×Bool)} {Tk:Act→World→Prop} {Lr:List Ch} {x y:Operand} {T T' S:TypeId} {e sz by':Nat} {at':Array TypeId}
def uR (b:Nat) (o:Obj):Ch where
 foot:=fun x=>x=b
 holds:=fun _ w=>w.heap[b]?=some o
 keep:=fun _ _ _ _ _ h k=>(h b (.inr rfl)).trans k
def ux {σ:Type} (C:σ→List Ch→Prop) (B:Nat→Prop) (s:σ):Ch where
 foot:=B
 holds:=fun F w=>∃ L,C s L∧(∀ b,xZ L b↔B b)∧(L.Pairwise fun (c d:Ch)=>∀ b,c.foot b→¬ d.foot b)∧∀ c∈L,c.holds F w
 keep:=fun F F' w w' hF hb ⟨L,h1,h2,h3,h4⟩=>⟨L,h1,h2,h3,fun c hc=>c.keep F F' w w' hF (fun b h=>hb b (h.imp id (fun k=>(h2 b).1 ⟨c,hc,k⟩))) (h4 c hc)⟩
theorem zaP {σ:Type} {C:σ→List Ch→Prop} {B:Nat→Prop} {s:σ} {L R:List Ch} {w:World} (h:∀ b,xZ L b↔B b) (b:Nat):fz G (ux C B s :: R) w b↔fz G (L++R) w b:=by
 constructor
 ·rintro ⟨h1,h2,h3⟩
  refine ⟨h1,h2,fun c hc hk=>?_⟩
  rcases List.mem_append.1 hc with e | e
  ·exact h3 _ (List.mem_cons_self ..) ((h b).1 ⟨c,e,hk⟩)
  ·exact h3 c (List.mem_cons_of_mem _ e) hk
 ·rintro ⟨h1,h2,h3⟩
  refine ⟨h1,h2,fun c hc hk=>?_⟩
  rcases List.mem_cons.1 hc with e | e
  ·subst e
   obtain ⟨d,hd,hk'⟩:=(h b).2 hk
   exact h3 d (List.mem_append.2 (.inl hd)) hk'
  ·exact h3 c (List.mem_append.2 (.inr e)) hk
theorem Mem.openC {σ:Type} {C:σ→List Ch→Prop} {B:Nat→Prop} {s:σ} {R:List Ch} {w:World} (m:Mem G D w0 (ux C B s :: R) w):∃ L,C s L∧(∀ b,xZ L b↔B b)∧Mem G D w0 (L++R) w:=by
 obtain ⟨L,h1,h2,h3,h4⟩:=m.hold _ (List.mem_cons_self ..)
 have hr:∀ c∈L,∀ b,c.foot b→(ux C B s).foot b:=fun c hc b hb=>(h2 b).1 ⟨c,hc,hb⟩
 refine ⟨L,h1,h2,m.fresh,m.os,m.tape,m.output,m.size,m.old,fun c hc b hb=>?_,List.pairwise_append.2 ⟨h3,(List.pairwise_cons.1 m.disj).2,fun c hc d hd b k1 k2=>(List.pairwise_cons.1 m.disj).1 d hd b (hr c hc b k1) k2⟩,fun c hc=>?_⟩
 ·rcases List.mem_append.1 hc with e | e
  ·exact m.range _ (List.mem_cons_self ..) b (hr c e b hb)
  ·exact m.range c (List.mem_cons_of_mem _ e) b hb
 ·rcases List.mem_append.1 hc with e | e
  ·exact c.keep _ _ w w (fun b hb=>(zaP h2 b).1 hb) (fun _ _=>rfl) (h4 c e)
  ·exact c.keep _ _ w w (fun b hb=>(zaP h2 b).1 hb) (fun _ _=>rfl) (m.hold c (List.mem_cons_of_mem _ e))
theorem Mem.closeC {σ:Type} {C:σ→List Ch→Prop} {s:σ} {L R:List Ch} {w:World} (m:Mem G D w0 (L++R) w) (h:C s L):Mem G D w0 (ux C (xZ L) s :: R) w:=by
 have inL:∀ c∈L,c∈L++R:=fun c hc=>List.mem_append.2 (.inl hc)
 have inR:∀ c∈R,c∈L++R:=fun c hc=>List.mem_append.2 (.inr hc)
 have hd:=List.pairwise_append.1 m.disj
 refine ⟨m.fresh,m.os,m.tape,m.output,m.size,m.old,fun c hc b hb=>?_,List.pairwise_cons.2 ⟨fun d hd' b ⟨c,hc,k1⟩ k2=>hd.2.2 c hc d hd' b k1 k2,hd.2.1⟩,fun c hc=>?_⟩
 ·rcases List.mem_cons.1 hc with e | e
  ·subst e
   obtain ⟨c,hc,k⟩:=hb
   exact m.range c (inL c hc) b k
  ·exact m.range c (inR c e) b hb
 ·rcases List.mem_cons.1 hc with e | e
  ·subst e
   exact ⟨L,h,fun _=>Iff.rfl,hd.1,fun c hc=>c.keep _ _ w w (fun b hb=>(zaP (fun _=>Iff.rfl) b).2 hb) (fun _ _=>rfl) (m.hold c (inL c hc))⟩
  ·exact c.keep _ _ w w (fun b hb=>(zaP (fun _=>Iff.rfl) b).2 hb) (fun _ _=>rfl) (m.hold c (inR c e))
def zgy {α σ:Type} (P:Program) (l:Nat) (El':El α) (C:σ→List Ch→Prop) (Y:σ→α→Bool→(Bool×σ→Prop)→Prop):Prop :=
 ∀ {G D:Nat→Prop} {w0 w:World} {R L:List Ch} {s:σ} {x:α} {ok:Bool} {cs:List Value} {κ:Bool×σ→Prop} (m:Nat),C s L→Mem G D w0 (L++R) w→El'.cells (fz G (L++R) w) w x cs→Y s x ok κ →
  YieldAt Fence.wide m P l #[.agg cs.toArray,.bool ok] w fun e w'=>∃ b s' L',e=.returned (.bool b)∧C s' L'∧Mem G D w0 (L'++R) w'∧κ (b,s')
theorem zjp {o:Oper} {a:Act} {w:World} {next:Act→World→Prop} {m:Nat} (h:o.wp P a w next Q):o.wpIn Fence.wide m P a w next Q:=by
 refine ⟨fun f _=>trivial,?_⟩
 have h':o.upon P a next Q ((execOp a.eval o).run P w):=h
 show o.uponIn Fence.wide m P a next Q ((execOp a.eval o).run P w)
 revert h'
 generalize (execOp a.eval o).run P w=r
 intro h'
 cases r with
 | ok x w' =>
  cases x <;> first | exact h' | (refine ⟨fun e=>by simp [Fence.wide] at e,?_⟩;exact callsIn_wide.2 h') | (refine ⟨fun e=>by simp [Fence.wide] at e,fun c cs _=>?_⟩;obtain ⟨v,w'',k1,k2⟩:=h' c cs;exact ⟨v,w'',k1,stepsIn_wide.2 k2⟩) | exact False.elim h'
 | halt x w'=>cases x <;> first | exact h' | exact False.elim h'
theorem zbS {id:Nat} {l:List Oper} (h:Nx n G D w0 (wpListIn Fence.wide 3 P l.toArray Q l) E L φ):Nx n G D w0 ((Code.region id l.toArray false).wp P Q) E L φ:=fun a w hE hm hφ=>wpIn_wide.1 (wpIn_region_lit (h a w hE hm hφ))
theorem zcc {ops:Array Oper} {m:Nat} {F:Fence} (h:Nx n G D w0 (Q .normal) E L φ):Nx n G D w0 (wpListIn F m P ops Q []) E L φ:=h
theorem zj5 {m:Nat} {ops:Array Oper} {rest:List Oper} {dst:Option Tmp} {op:Op} (h:Nx n G D w0 (fun a w=>Oper.wp P ⟨dst,op,ty,pos,aft,none⟩ a w (wpListIn Fence.wide m P ops Q rest) Q) E L φ):Nx n G D w0 (wpListIn Fence.wide m P ops Q (⟨dst,op,ty,pos,aft,none⟩ :: rest)) E L φ :=
 fun a w hE hm hφ=>wpListIn_plain rfl fun K hK=>zjp (by
  have:=h a w hE hm hφ
  show Oper.upon _ _ _ _ _ _
  have h':Oper.upon P ⟨dst,op,ty,pos,aft,none⟩ a (wpListIn Fence.wide m P ops Q rest) Q ((execOp a.eval ⟨dst,op,ty,pos,aft,none⟩).run P w):=this
  revert h'
  generalize (execOp a.eval ⟨dst,op,ty,pos,aft,none⟩).run P w=r
  intro h'
  cases r with
  | ok x w' =>
   cases x <;> first | exact hK _ _ h' | (refine Calls.mono h' ?_;intro e w'' hh;cases e <;> first | exact hK _ _ hh | exact hh) | (refine Rows.mono h' ?_;intro e w'' hh;exact hK _ _ hh) | exact False.elim h'
  | halt x w'=>cases x <;> first | exact h' | exact False.elim h')
theorem stY {m:Nat} {ops:Array Oper} {rest:List Oper} {dst:Option Tmp} {op:Op}:ui P n G D w0 E ⟨dst,op,ty,pos,aft,none⟩ (wpListIn Fence.wide m P ops Q (⟨dst,op,ty,pos,aft,none⟩ :: rest)) (wpListIn Fence.wide m P ops Q rest) L L :=
 ⟨fun hd ho hr hψ k=>zj5 (zfR hd ho hr hψ k)⟩
theorem ze3 {α σ:Type} {l m:Nat} {El':El α} {C:σ→List Ch→Prop} {Y:σ→α→Bool→(Bool×σ→Prop)→Prop} (hY:zgy P l El' C Y) {B:Nat→Prop} {s:σ} {z:α} {ok:Bool} {cs:List Value} {κ:Bool×σ→Prop} {f:Operand} {args:List Operand} {ops:Array Oper} {rest:List Oper}
  (hf:oev E f=some (.func (.yield l) #[] #[])) (ha:zdF E args=some [.agg cs.toArray,.bool ok]) (hd:Nat.blt d n=true) (hc:∀ w,Mem G D w0 (ux C B s :: L) w→El'.cells (fz G (ux C B s :: L) w) w z cs)
  (k:∀ b s' B',Nx n G D w0 (wpListIn Fence.wide m P ops Q rest) ((d,.bool b) :: E) (ux C B' s' :: L) (κ (b,s'))) :
  Nx n G D w0 (wpListIn Fence.wide m P ops Q (⟨some d,.call {callee:=.value f,args:=args.toArray,argTypes:=at'},ty,pos,aft,none⟩ :: rest)) E (ux C B s :: L) (Y s z ok κ):=fun a w hE hm hφ=>by
 refine wpListIn_plain rfl fun K hK=>?_
 obtain ⟨Lc,h1,h2,hm'⟩:=hm.openC
 obtain ⟨fn,tmps,assign,body,hy,hR⟩:=hY (m - 1) h1 hm' (El'.keep _ _ w w _ _ (fun b hb=>(zaP h2 b).1 hb) (fun _ _=>rfl) (hc w hm)) hφ
 have hx:=hE.eval hf
 have hargs:=VO (fun x v h=>hE.eval h) ha
 have hrun:(execOp a.eval ⟨some d,.call {callee:=.value f,args:=args.toArray,argTypes:=at'},ty,pos,aft,none⟩).run P w=.ok (.round l fn tmps assign body) w:=by
  simp [execOp,resolve,Deferred.ofValue,hx,invoke,hargs,hy]
 refine ⟨fun f _=>trivial,?_⟩
 change Oper.uponIn Fence.wide m P _ a K Q ((execOp a.eval ⟨some d,.call {callee:=.value f,args:=args.toArray,argTypes:=at'},ty,pos,aft,none⟩).run P w)
 rw [hrun,Oper.uponIn_round]
 refine ⟨fun e=>by simp [Fence.wide] at e,hR.mono ?_⟩
 rintro e w' ⟨b,s',L',rfl,q1,q2,q3⟩
 exact hK _ _ (k b s' _ _ w' (hE.put hd _) (q2.closeC q1) q3)
theorem zhw {o:Oper} {a:Act} {w:World} {next:Act→World→Prop} {m l:Nat} (hnd:∀ c,o.op≠.defer c) (h:o.wp P a w next Q):o.wpIn (Fence.wide.inRound l) m P a w next Q:=by
 refine ⟨fun f _=>trivial,?_⟩
 have h':o.upon P a next Q ((execOp a.eval o).run P w):=h
 show o.uponIn (Fence.wide.inRound l) m P a next Q ((Oper.semAt (some l) a.eval o).run P w)
 rw [Oper.semAt_some l a.eval o hnd]
 revert h'
 generalize (execOp a.eval o).run P w=r
 intro h'
 cases r with
 | ok x w' =>
  cases x <;> first | exact h' | (refine ⟨fun e=>by simp [Fence.wide] at e,?_⟩;exact CallsIn.inRound l (callsIn_wide.2 h')) | (refine ⟨fun e=>by simp [Fence.wide] at e,fun c cs _=>?_⟩;obtain ⟨v,w'',k1,k2⟩:=h' c cs;exact ⟨v,w'',k1,stepsIn_wide.2 k2⟩) | exact False.elim h'
 | halt x w'=>cases x <;> first | exact h' | exact False.elim h'
section
variable {F:Fence} {m l:Nat}
theorem zgQ {x y:Code} (h:Nx n G D w0 (x.wpIn F m P (Exit.then (y.wpIn F m P Q) Q)) E L φ):Nx n G D w0 ((Code.seq x y).wpIn F m P Q) E L φ:=fun a w hE hm hφ=>wpIn_seq (h a w hE hm hφ)
theorem zjs {id:Nat} {c:Code} (h:Nx n G D w0 (c.wpIn F m P (Exit.inBlock id Q)) E L φ):Nx n G D w0 ((Code.block id c).wpIn F m P Q) E L φ:=fun a w hE hm hφ=>wpIn_block (h a w hE hm hφ)
theorem VH {id:Nat} {l:List Oper} (h:Nx n G D w0 (wpListIn F m P l.toArray Q l) E L φ):Nx n G D w0 ((Code.region id l.toArray false).wpIn F m P Q) E L φ:=fun a w hE hm hφ=>wpIn_region_lit (h a w hE hm hφ)
theorem zkt (h:Nx n G D w0 (Q .normal) E L φ):Nx n G D w0 (Code.skip.wpIn F m P Q) E L φ:=fun a w hE hm hφ=>wpIn_skip (h a w hE hm hφ)
theorem zkK (h:Nx n G D w0 (Q .ret) E L φ):Nx n G D w0 (Code.ret.wpIn F m P Q) E L φ:=fun a w hE hm hφ=>wpIn_ret (h a w hE hm hφ)
theorem zjW {c:Operand} {x y:Code} {t:Bool} {A B:Prop} (hc:oev E c=some (.bool t)) (hx:Nx n G D w0 (x.wpIn F m P Q) E L A) (hy:Nx n G D w0 (y.wpIn F m P Q) E L B):Nx n G D w0 ((Code.cond c x y).wpIn F m P Q) E L (ifW t A B) :=
 fun a w hE hm hφ=>wpIn_cond_split (hE.eval hc) (fun h=>hx a w hE hm (hφ.1 h)) (fun h=>hy a w hE hm (hφ.2 h))
theorem zf4 {ops:Array Oper} {rest:List Oper} {dst:Option Tmp} {op:Op} (hnd:∀ c,op≠.defer c) (h:Nx n G D w0 (fun a w=>Oper.wp P ⟨dst,op,ty,pos,aft,none⟩ a w (wpListIn (Fence.wide.inRound l) m P ops Q rest) Q) E L φ):Nx n G D w0 (wpListIn (Fence.wide.inRound l) m P ops Q (⟨dst,op,ty,pos,aft,none⟩ :: rest)) E L φ :=
 fun a w hE hm hφ=>by
  unfold wpListIn
  rw [if_pos (by simp [Region.wanted])]
  exact zhw hnd (h a w hE hm hφ)
theorem stR {ops:Array Oper} {rest:List Oper} {dst:Option Tmp} {op:Op} (hnd:∀ c,op≠.defer c):ui P n G D w0 E ⟨dst,op,ty,pos,aft,none⟩ (wpListIn (Fence.wide.inRound l) m P ops Q (⟨dst,op,ty,pos,aft,none⟩ :: rest)) (wpListIn (Fence.wide.inRound l) m P ops Q rest) L L :=
 ⟨fun hd ho hr hψ k=>zf4 hnd (zfR hd ho hr hψ k)⟩
end
end
end
section
open Go.RowKit
@[ext] structure zd where
 xLo:Int
 xHi:Int
 deriving DecidableEq
def zP (x:zd):List Value:=[(.int .i64 x.xLo),(.int .i64 x.xHi)]
def zb:El zd:=El.flat 2 zP (by decide) (fun _=>rfl) (fun x u h=>by simp only [zP,List.mem_cons,List.not_mem_nil,or_false] at h;rcases h with rfl | rfl <;> rfl)
theorem zr:Ua zb zP:=YN
abbrev jz:DEl zd:=zao zb zP zr
@[ext] structure jh where
 xField:Int
 xLo:Int
 xHi:Int
 xNot:Bool
 deriving DecidableEq
def uz (x:jh):List Value:=[(.int .i64 x.xField),(.int .i64 x.xLo),(.int .i64 x.xHi),(.bool x.xNot)]
def xh:El jh:=El.flat 4 uz (by decide) (fun _=>rfl) (fun x u h=>by simp only [uz,List.mem_cons,List.not_mem_nil,or_false] at h;rcases h with rfl | rfl | rfl | rfl <;> rfl)
theorem xx:Ua xh uz:=YN
abbrev ziI:DEl jh:=zao xh uz xx
@[ext] structure zz where
 xTests:(List jh)
 xAction:Int
 xChain:Int
 deriving DecidableEq
def zdA (u:Value) (x:zz):List Value:=[u,(.int .i64 x.xAction),(.int .i64 x.xChain)]
def jM:El zz where
 size:=3
 cells:=fun F w x cs=>∃ u:Value,cs=zdA u x∧Sl xh F w u x.xTests
 pos:=by decide
 len:=fun F w x cs ⟨u,e,_⟩=>by rw [e];rfl
 one:=fun F w x cs ⟨u,e,h⟩ v hv=>by
  subst e
  simp only [zdA,List.mem_cons,List.not_mem_nil,or_false] at hv
  rcases hv with e | e | e
  ·subst e;exact h.one
  ·subst e;exact rfl
  ·subst e;exact rfl
 keep:=fun F F' w w' x cs hF hb ⟨u,e,h⟩=>⟨u,e,h.keep hF hb⟩
def jW:DEl zz where
 el:=jM
 own:=fun B w x cs=>∃ u:Value,cs=zdA u x∧Dp ziI 165 B w u x.xTests
 read:=fun B w x cs ⟨u,e,h⟩=>⟨u,e,h.sl⟩
 keep:=fun B w w' x cs hk ⟨u,e,h⟩=>⟨u,e,h.keep hk⟩
 lt:=fun B w x cs ⟨u,e,h⟩=>h.lt
@[ext] structure zS where
 xChains:(List (List zz))
 xAccept:Bool
 deriving DecidableEq
def zcf (u:Value) (x:zS):List Value:=[u,(.bool x.xAccept)]
def zgj:El zS where
 size:=2
 cells:=fun F w x cs=>∃ u:Value,cs=zcf u x∧Sl (zE jM) F w u x.xChains
 pos:=by decide
 len:=fun F w x cs ⟨u,e,_⟩=>by rw [e];rfl
 one:=fun F w x cs ⟨u,e,h⟩ v hv=>by
  subst e
  simp only [zcf,List.mem_cons,List.not_mem_nil,or_false] at hv
  rcases hv with e | e
  ·subst e;exact h.one
  ·subst e;exact rfl
 keep:=fun F F' w w' x cs hF hb ⟨u,e,h⟩=>⟨u,e,h.keep hF hb⟩
@[ext] structure zgO where
 x0:Int
 x1:Int
 x2:Int
 x3:Int
 deriving DecidableEq
@[ext] structure uG where
 xFrom:Int
 xTo:Int
 xPort:Int
 xProto:Int
 deriving DecidableEq
@[ext] structure za where
 x0:(List zd)
 x1:(List zd)
 x2:(List zd)
 x3:(List zd)
 deriving DecidableEq
def VR (u:Value×Value×Value×Value) (x:za):List Value:=[u.1,u.2.1,u.2.2.1,u.2.2.2]
def zg:El za where
 size:=4
 cells:=fun F w x cs=>∃ u:Value×Value×Value×Value,cs=VR u x∧Sl zb F w u.1 x.x0∧Sl zb F w u.2.1 x.x1∧Sl zb F w u.2.2.1 x.x2∧Sl zb F w u.2.2.2 x.x3
 pos:=by decide
 len:=fun F w x cs ⟨u,e,_⟩=>by rw [e];rfl
 one:=fun F w x cs ⟨u,e,h⟩ v hv=>by
  subst e
  simp only [VR,List.mem_cons,List.not_mem_nil,or_false] at hv
  rcases hv with e | e | e | e
  ·subst e;exact h.1.one
  ·subst e;exact h.2.1.one
  ·subst e;exact h.2.2.1.one
  ·subst e;exact h.2.2.2.one
 keep:=fun F F' w w' x cs hF hb ⟨u,e,h⟩=>⟨u,e,h.1.keep hF hb,h.2.1.keep hF hb,h.2.2.1.keep hF hb,h.2.2.2.keep hF hb⟩
@[ext] structure uN where
 xAccept:Bool
 deriving DecidableEq
@[ext] structure uM where
 deriving DecidableEq
@[ext] structure yW where
 deriving DecidableEq
@[ext] structure Xe where
 xChain:Int
 deriving DecidableEq
@[ext] structure zl where
 xWhere:za
 xAccept:Bool
 deriving DecidableEq
def zej (u:Value×Value×Value×Value) (x:zl):List Value:=[u.1,u.2.1,u.2.2.1,u.2.2.2,(.bool x.xAccept)]
def zu:El zl where
 size:=5
 cells:=fun F w x cs=>∃ u:Value×Value×Value×Value,cs=zej u x∧Sl zb F w u.1 x.xWhere.x0∧Sl zb F w u.2.1 x.xWhere.x1∧Sl zb F w u.2.2.1 x.xWhere.x2∧Sl zb F w u.2.2.2 x.xWhere.x3
 pos:=by decide
 len:=fun F w x cs ⟨u,e,_⟩=>by rw [e];rfl
 one:=fun F w x cs ⟨u,e,h⟩ v hv=>by
  subst e
  simp only [zej,List.mem_cons,List.not_mem_nil,or_false] at hv
  rcases hv with e | e | e | e | e
  ·subst e;exact h.1.one
  ·subst e;exact h.2.1.one
  ·subst e;exact h.2.2.1.one
  ·subst e;exact h.2.2.2.one
  ·subst e;exact rfl
 keep:=fun F F' w w' x cs hF hb ⟨u,e,h⟩=>⟨u,e,h.1.keep hF hb,h.2.1.keep hF hb,h.2.2.1.keep hF hb,h.2.2.2.keep hF hb⟩
@[ext] structure zU where
 xSides:(List (List zd))
 deriving DecidableEq
def ze0 (u:Value) (x:zU):List Value:=[u]
def jy:El zU where
 size:=1
 cells:=fun F w x cs=>∃ u:Value,cs=ze0 u x∧Sl (zE zb) F w u x.xSides
 pos:=by decide
 len:=fun F w x cs ⟨u,e,_⟩=>by rw [e];rfl
 one:=fun F w x cs ⟨u,e,h⟩ v hv=>by
  subst e
  simp only [ze0,List.mem_cons,List.not_mem_nil,or_false] at hv
  subst hv;exact h.one
 keep:=fun F F' w w' x cs hF hb ⟨u,e,h⟩=>⟨u,e,h.keep hF hb⟩
def xS:DEl zU where
 el:=jy
 own:=fun B w x cs=>∃ u:Value,cs=ze0 u x∧Dp (dSl jz 89) 90 B w u x.xSides
 read:=fun B w x cs ⟨u,e,h⟩=>⟨u,e,h.sl⟩
 keep:=fun B w w' x cs hk ⟨u,e,h⟩=>⟨u,e,h.keep hk⟩
 lt:=fun B w x cs ⟨u,e,h⟩=>h.lt
@[ext] structure zB where
 xWhere:zU
 xAccept:Bool
 deriving DecidableEq
def zdv (u:Value) (x:zB):List Value:=[u,(.bool x.xAccept)]
def zG:El zB where
 size:=2
 cells:=fun F w x cs=>∃ u:Value,cs=zdv u x∧Sl (zE zb) F w u x.xWhere.xSides
 pos:=by decide
 len:=fun F w x cs ⟨u,e,_⟩=>by rw [e];rfl
 one:=fun F w x cs ⟨u,e,h⟩ v hv=>by
  subst e
  simp only [zdv,List.mem_cons,List.not_mem_nil,or_false] at hv
  rcases hv with e | e
  ·subst e;exact h.one
  ·subst e;exact rfl
 keep:=fun F F' w w' x cs hF hb ⟨u,e,h⟩=>⟨u,e,h.keep hF hb⟩
def jS:DEl zB where
 el:=zG
 own:=fun B w x cs=>∃ u:Value,cs=zdv u x∧Dp (dSl jz 89) 90 B w u x.xWhere.xSides
 read:=fun B w x cs ⟨u,e,h⟩=>⟨u,e,h.sl⟩
 keep:=fun B w w' x cs hk ⟨u,e,h⟩=>⟨u,e,h.keep hk⟩
 lt:=fun B w x cs ⟨u,e,h⟩=>h.lt
@[ext] structure Vs where
 xChain:Int
 xNext:Int
 deriving DecidableEq
@[ext] structure Y4 where
 xName:ByteArray
 xTop:Int
 deriving DecidableEq
def Xc (x:Y4):List Value:=[(.string x.xName),(.int .i64 x.xTop)]
def jb:El Y4:=El.flat 2 Xc (by decide) (fun _=>rfl) (fun x u h=>by simp only [Xc,List.mem_cons,List.not_mem_nil,or_false] at h;rcases h with rfl | rfl <;> rfl)
theorem Vw:Ua jb Xc:=YN
inductive ut where
 | kDeciding (x:uN)
 | kCalling (x:Xe)
 | kReturning (x:uM)
 | kPassing (x:yW)
def Uk:ut→Value
 | .kDeciding x=>.iface 262 (.agg #[(.bool x.xAccept)])
 | .kCalling x=>.iface 264 (.agg #[(.int .i64 x.xChain)])
 | .kReturning x=>.iface 266 (.agg #[])
 | .kPassing x=>.iface 267 (.agg #[])
def ut.casesW (a:ut) (p0:uN→Prop) (p1:Xe→Prop) (p2:uM→Prop) (p3:yW→Prop):Prop:=match a with
 | .kDeciding x=>p0 x
 | .kCalling x=>p1 x
 | .kReturning x=>p2 x
 | .kPassing x=>p3 x
def zJ:List Y4:=[⟨(ByteArray.mk #[102,114,111,109]),65535⟩,⟨(ByteArray.mk #[116,111]),65535⟩,⟨(ByteArray.mk #[112,111,114,116]),255⟩,⟨(ByteArray.mk #[112,114,111,116,111]),7⟩]
def x5 (n_0:Int) (κ:Int→Prop):Prop :=
 jnW (fun (t61:Bool)=>ifW t61 (κ 65535) (ifW (decide (n_0=2)) (κ 255) (ifW (decide (n_0=3)) (κ 7) (κ (-1))))) (fun k62=>ifW (decide (n_0=0)) (k62 (decide (n_0=0))) (k62 (decide (n_0=1))))
def zC (n_0:Int) (κ:Int→Prop):Prop :=
 jnW (fun (t61:Bool)=>ifW t61 (κ (-1)) (zI zJ n_0 (fun e63=>κ e63.xTop))) (fun k62=>ifW (decide (n_0<0)) (k62 true) (k62 (decide (4≤n_0))))
def Xq (t_0:jh) (κ:Bool→Prop):Prop :=
 jnW (fun (t64:Bool)=>κ t64) (fun k65=>ifW (decide (0≤t_0.xField)) (ifW (decide (t_0.xField<4)) (ifW (decide (0≤t_0.xLo)) (ifW (decide (t_0.xLo≤t_0.xHi)) (zC t_0.xField (fun r3=>k65 (decide (t_0.xHi≤r3)))) (k65 false)) (k65 false)) (k65 false)) (k65 false))
def ZR (list_0:(List jh)) (κ:Bool→Prop):Prop :=
 ifW (decide (6<(list_0.length:Int))) (κ false) (jd (fun (nx4:Int→Prop) (t3:Int)=>ifW (decide (t3<(list_0.length:Int))) (zI list_0 t3 (fun e5=>Xq e5 (fun r9=>ifW (!r9) (κ false) (jo t3 1 (fun t10=>nx4 t10))))) (κ true)) 0)
def Xx (r_0:zz) (κ:Bool→Prop):Prop :=
 ZR r_0.xTests (fun r8=>ifW (!r8) (κ false) (ifW (decide (r_0.xAction=3)) (jnW (fun (t69:Bool)=>κ t69) (fun k70=>ifW (decide (0≤r_0.xChain)) (k70 (decide (r_0.xChain<5))) (k70 false))) (jnW (fun (t131:Bool)=>ifW t131 (κ (decide (r_0.xChain=0))) (κ false)) (fun k132=>ifW (decide (r_0.xAction=1)) (k132 (decide (r_0.xAction=1))) (ifW (decide (r_0.xAction=2)) (k132 (decide (r_0.xAction=2))) (ifW (decide (r_0.xAction=4)) (k132 (decide (r_0.xAction=4))) (k132 (decide (r_0.xAction=5)))))))))
def Z1 (list_0:(List zz)) (κ:Bool→Prop):Prop :=
 ifW (decide (8<(list_0.length:Int))) (κ false) (jd (fun (nx4:Int→Prop) (t3:Int)=>ifW (decide (t3<(list_0.length:Int))) (zI list_0 t3 (fun e5=>Xx e5 (fun r16=>ifW (!r16) (κ false) (jo t3 1 (fun t17=>nx4 t17))))) (κ true)) 0)
def Z8 (rules_0:(List zz)) (κ:(List Int)→Prop):Prop :=
 jd (fun (nx9:((List Bool)×Int)→Prop) ((xs6,t8):((List Bool)×Int))=>ifW (decide (t8<(rules_0.length:Int))) (jnW (fun (xs84:(List Bool))=>jo t8 1 (fun t87=>nx9 (xs84,t87))) (fun k86=>zI rules_0 t8 (fun e10=>ifW (decide (e10.xAction=3)) (zI xs6 e10.xChain (fun e21=>k86 (xs6.set (e10.xChain).toNat true))) (k86 xs6)))) (zkU xs6 (fun e89 e90 e91 e92 e93=>jd (fun (nx100:((List Int)×Int)→Prop) ((xs96,t99):((List Int)×Int))=>ifW (decide (t99<5)) (jnW (fun (xs166:(List Int))=>jo t99 1 (fun t170=>nx100 (xs166,t170))) (fun k169=>zI ([e89,e90,e91,e92,e93]) t99 (fun e101=>ifW e101 (jG xs96 ([t99]) (fun _=>k169 (xs96++([t99])))) (k169 xs96)))) (κ xs96)) ([],0)))) ([false,false,false,false,false],0)
def ZZ (rec:((List (List zz))→Int→(List Int)→((Bool×(List Int))→Prop)→Prop)) (chains_0:(List (List zz))) (chain_1:Int) (colours_2:(List Int)) (κ:(Bool×(List Int))→Prop):Prop :=
 ifW (decide ((chains_0.length:Int)≤chain_1)) (κ (true,colours_2)) (zI colours_2 chain_1 (fun e5=>ifW (decide (e5=1)) (κ (false,colours_2)) (ifW (decide (e5=2)) (κ (true,colours_2)) (zI colours_2 chain_1 (fun e7=>zI chains_0 chain_1 (fun e10=>Z8 e10 (fun r16=>jd (fun (nx23:((List Int)×Bool×Int)→Prop) ((xs19,t21,t22):((List Int)×Bool×Int))=>ifW (decide (t22<(r16.length:Int))) (jnW (fun ((xs89,t91):((List Int)×Bool))=>jo t22 1 (fun t93=>nx23 (xs89,t91,t93))) (fun k92=>zI r16 t22 (fun e24=>rec chains_0 e24 xs19 (fun (r26,r27)=>ifW (!r26) (k92 (r27,false)) (k92 (r27,t21)))))) (zI xs19 chain_1 (fun e94=>κ (t21,(xs19.set (chain_1).toNat 2))))) ((colours_2.set (chain_1).toNat 1),true,0))))))))
def uD:Nat→(List (List zz))→Int→(List Int)→((Bool×(List Int))→Prop)→Prop
 | 0=>fun _ _ _ _=>False
 | n+1=>ZZ (uD n)
def UD (chains_0:(List (List zz))) (chain_1:Int) (colours_2:(List Int)) (κ:(Bool×(List Int))→Prop):Prop:=∃ n,uD n chains_0 chain_1 colours_2 κ
def Yx (chains_0:(List (List zz))) (κ:Bool→Prop):Prop :=
 jd (fun (nx8:((List Int)×Int)→Prop) ((xs5,t7):((List Int)×Int))=>ifW (decide (t7<(chains_0.length:Int))) (UD chains_0 t7 xs5 (fun (r9,r10)=>ifW (!r9) (κ false) (jo t7 1 (fun t12=>nx8 (r10,t12))))) (κ true)) ([0,0,0,0,0],0)
def yR (s_0:zS) (κ:Bool→Prop):Prop :=
 jnW (fun (t68:Bool)=>ifW t68 (κ false) (jd (fun (nx71:Int→Prop) (t70:Int)=>ifW (decide (t70<(s_0.xChains.length:Int))) (zI s_0.xChains t70 (fun e72=>Z1 e72 (fun r78=>ifW (!r78) (κ false) (jo t70 1 (fun t79=>nx71 t79))))) (jd (fun (nx81:Int→Prop) (t80:Int)=>ifW (decide (t80<(s_0.xChains.length:Int))) (zI s_0.xChains t80 (fun e82=>Z8 e82 (fun r88=>jd (fun (nx92:Int→Prop) (t91:Int)=>ifW (decide (t91<(r88.length:Int))) (zI r88 t91 (fun e93=>ifW (decide ((s_0.xChains.length:Int)≤e93)) (κ false) (jo t91 1 (fun t95=>nx92 t95)))) (jo t80 1 (fun t96=>nx81 t96))) 0))) (Yx s_0.xChains (fun r97=>κ r97))) 0)) 0)) (fun k69=>ifW (decide ((s_0.xChains.length:Int)<1)) (k69 true) (k69 (decide (5<(s_0.xChains.length:Int)))))
def Uc (r_0:zz) (κ:ut→Prop):Prop :=
 ifW (decide (r_0.xAction=1)) (κ (ut.kDeciding (uN.mk true))) (ifW (decide (r_0.xAction=2)) (κ (ut.kDeciding (uN.mk false))) (ifW (decide (r_0.xAction=3)) (κ (ut.kCalling (Xe.mk r_0.xChain))) (ifW (decide (r_0.xAction=4)) (κ (ut.kReturning (uM.mk ))) (κ (ut.kPassing (yW.mk ))))))
def uo (a_0:(List zd)) (b_1:(List zd)) (κ:(Int×Bool)→Prop):Prop :=
 jd (fun (nx7:(Int×Int)→Prop) ((t5,t6):(Int×Int))=>jnW (fun (t68:Bool)=>ifW t68 (zI a_0 t5 (fun e70=>zI b_1 t6 (fun e72=>zI a_0 t5 (fun e74=>zI b_1 t6 (fun e76=>ifW (decide ((max e70.xLo e72.xLo)≤(min e74.xHi e76.xHi))) (κ ((max e70.xLo e72.xLo),true)) (zI a_0 t5 (fun e78=>zI b_1 t6 (fun e80=>ifW (decide (e78.xHi<e80.xHi)) (jo t5 1 (fun t82=>nx7 (t82,t6))) (jo t6 1 (fun t83=>nx7 (t5,t83))))))))))) (κ (0,false))) (fun k69=>ifW (decide (t5<(a_0.length:Int))) (k69 (decide (t6<(b_1.length:Int)))) (k69 false))) (0,0)
def Y8 (fields_0:zgO) (κ:uG→Prop):Prop :=
 zI ([fields_0.x0,fields_0.x1,fields_0.x2,fields_0.x3]) 0 (fun e5=>zI ([fields_0.x0,fields_0.x1,fields_0.x2,fields_0.x3]) 1 (fun e7=>zI ([fields_0.x0,fields_0.x1,fields_0.x2,fields_0.x3]) 2 (fun e9=>zI ([fields_0.x0,fields_0.x1,fields_0.x2,fields_0.x3]) 3 (fun e11=>κ (uG.mk e5 e7 e9 e11)))))
def uQ (s_0:za) (other_1:za) (κ:(uG×Bool)→Prop):Prop :=
 jd (fun (nx52:((List Int)×Int)→Prop) ((xs49,t51):((List Int)×Int))=>ifW (decide (t51<4)) (jnW (fun ((t53,t54):(Int×Bool))=>ifW (!t54) (κ ((uG.mk 0 0 0 0),false)) (zI xs49 t51 (fun e78=>jo t51 1 (fun t81=>nx52 ((xs49.set (t51).toNat t53),t81))))) (fun k55=>zI ([s_0.x0,s_0.x1,s_0.x2,s_0.x3]) t51 (fun e56=>zI ([other_1.x0,other_1.x1,other_1.x2,other_1.x3]) t51 (fun e58=>uo e56 e58 (fun (r68,r69)=>k55 (r68,r69)))))) (ze5 xs49 (fun e82 e83 e84 e85=>Y8 (zgO.mk e82 e83 e84 e85) (fun r87=>κ (r87,true))))) ([0,0,0,0],0)
def uT (s_0:za) (other_1:za) (κ:Bool→Prop):Prop :=
 uQ s_0 other_1 (fun (r75,r76)=>κ r76)
def uZ (list_0:(List zd)) (κ:((List zd)×Bool)→Prop):Prop :=
 ifW (decide (40<(list_0.length:Int))) (κ ([],false)) (κ (list_0,true))
def xY (rest_0:(List zd)) (at_1:Int) (top_2:Int) (κ:(Bool×Int)→Prop):Prop :=
 ifW (decide ((rest_0.length:Int)=0)) (κ (false,top_2)) (zI rest_0 0 (fun e3=>ifW (decide (at_1<e3.xLo)) (zI rest_0 0 (fun e5=>Y6 e5.xLo 1 (fun t7=>κ (false,t7)))) (zI rest_0 0 (fun e8=>κ (true,e8.xHi)))))
def XE (inA_0:Bool) (inB_1:Bool) (κ:Bool→Prop):Prop :=
 jnW (fun (t61:Bool)=>κ t61) (fun k62=>ifW inA_0 (k62 inB_1) (k62 false))
def x7 (a_0:(List zd)) (b_1:(List zd)) (top_2:Int) (κ:(List zd)→Prop):Prop :=
 jd (fun (nx14:((List zd)×Int×Int×Int)→Prop) ((xs8,t11,t12,t13):((List zd)×Int×Int×Int))=>ifW (decide (t13≤top_2)) (jd (fun (nx16:Int→Prop) (t15:Int)=>jnW (fun (t79:Bool)=>ifW t79 (jo t15 1 (fun t81=>nx16 t81)) (jd (fun (nx83:Int→Prop) (t82:Int)=>jnW (fun (t146:Bool)=>ifW t146 (jo t82 1 (fun t148=>nx83 t148)) (yN a_0 t15 (a_0.length:Int) (fun xs150=>xY xs150 t13 top_2 (fun (r153,r154)=>yN b_1 t82 (b_1.length:Int) (fun xs156=>xY xs156 t13 top_2 (fun (r159,r160)=>jnW (fun (xs296:(List zd))=>jo (min r154 r160) 1 (fun t300=>nx14 (xs296,t15,t82,t300))) (fun k299=>XE r153 r159 (fun r161=>ifW r161 (jnW (fun (t226:Bool)=>ifW t226 (Y6 (xs8.length:Int) 1 (fun t228=>zI xs8 t228 (fun e229=>k299 (xs8.set (t228).toNat (zd.mk e229.xLo (min r154 r160)))))) (jG xs8 ([(zd.mk t13 (min r154 r160))]) (fun _=>k299 (xs8++([(zd.mk t13 (min r154 r160))]))))) (fun k227=>ifW (decide (0<(xs8.length:Int))) (Y6 (xs8.length:Int) 1 (fun t162=>zI xs8 t162 (fun e163=>jo e163.xHi 1 (fun t165=>k227 (decide (t165=t13)))))) (k227 false))) (k299 xs8))))))))) (fun k147=>ifW (decide (t82<(b_1.length:Int))) (zI b_1 t82 (fun e84=>k147 (decide (e84.xHi<t13)))) (k147 false))) t12)) (fun k80=>ifW (decide (t15<(a_0.length:Int))) (zI a_0 t15 (fun e17=>k80 (decide (e17.xHi<t13)))) (k80 false))) t11) (κ xs8)) ([],0,0,0)
def zD (a_0:(List zd)) (b_1:(List zd)) (top_2:Int) (κ:((List zd)×Bool)→Prop):Prop :=
 x7 a_0 b_1 top_2 (fun r6=>uZ r6 (fun (r9,r12)=>κ (r9,r12)))
def ZX (s_0:za) (other_1:za) (κ:(za×Bool)→Prop):Prop :=
 jd (fun (nx52:((List (List zd))×Int)→Prop) ((xs49,t51):((List (List zd))×Int))=>ifW (decide (t51<4)) (jnW (fun ((xs53,t56):((List zd)×Bool))=>ifW (!t56) (κ ((za.mk ([]) ([]) ([]) ([])),false)) (zI xs49 t51 (fun e122=>jo t51 1 (fun t128=>nx52 ((xs49.set (t51).toNat xs53),t128))))) (fun k57=>zI ([s_0.x0,s_0.x1,s_0.x2,s_0.x3]) t51 (fun e58=>zI ([other_1.x0,other_1.x1,other_1.x2,other_1.x3]) t51 (fun e60=>zC t51 (fun r70=>zD e58 e60 r70 (fun (r71,r73)=>k57 (r71,r73))))))) (ze5 xs49 (fun e129 e130 e131 e132=>κ ((za.mk e129 e130 e131 e132),true)))) ([[],[],[],[]],0)
def jO (u_0_chains:(List (List zz))) (u_0_flats:(List zl)) (u_0_over:Bool) (boxes_1:(List za)) (κ:((List za)×Bool)→Prop):Prop :=
 jnW (fun (t70:Bool)=>κ (boxes_1,t70)) (fun k71=>ifW (decide (400<(boxes_1.length:Int))) (k71 true) (k71 u_0_over))
def uP (s_0:za) (κ:Bool→Prop):Prop :=
 jd (fun (nx39:Int→Prop) (t38:Int)=>ifW (decide (t38<4)) (zI ([s_0.x0,s_0.x1,s_0.x2,s_0.x3]) t38 (fun e41=>ifW (decide ((e41.length:Int)=0)) (κ true) (jo t38 1 (fun t44=>nx39 t44)))) (κ false)) 0
def ym (inA_0:Bool) (inB_1:Bool) (κ:Bool→Prop):Prop :=
 jnW (fun (t61:Bool)=>κ t61) (fun k62=>ifW inA_0 (k62 (!inB_1)) (k62 false))
def zW (a_0:(List zd)) (b_1:(List zd)) (top_2:Int) (κ:(List zd)→Prop):Prop :=
 jd (fun (nx14:((List zd)×Int×Int×Int)→Prop) ((xs8,t11,t12,t13):((List zd)×Int×Int×Int))=>ifW (decide (t13≤top_2)) (jd (fun (nx16:Int→Prop) (t15:Int)=>jnW (fun (t79:Bool)=>ifW t79 (jo t15 1 (fun t81=>nx16 t81)) (jd (fun (nx83:Int→Prop) (t82:Int)=>jnW (fun (t146:Bool)=>ifW t146 (jo t82 1 (fun t148=>nx83 t148)) (yN a_0 t15 (a_0.length:Int) (fun xs150=>xY xs150 t13 top_2 (fun (r153,r154)=>yN b_1 t82 (b_1.length:Int) (fun xs156=>xY xs156 t13 top_2 (fun (r159,r160)=>jnW (fun (xs296:(List zd))=>jo (min r154 r160) 1 (fun t300=>nx14 (xs296,t15,t82,t300))) (fun k299=>ym r153 r159 (fun r161=>ifW r161 (jnW (fun (t226:Bool)=>ifW t226 (Y6 (xs8.length:Int) 1 (fun t228=>zI xs8 t228 (fun e229=>k299 (xs8.set (t228).toNat (zd.mk e229.xLo (min r154 r160)))))) (jG xs8 ([(zd.mk t13 (min r154 r160))]) (fun _=>k299 (xs8++([(zd.mk t13 (min r154 r160))]))))) (fun k227=>ifW (decide (0<(xs8.length:Int))) (Y6 (xs8.length:Int) 1 (fun t162=>zI xs8 t162 (fun e163=>jo e163.xHi 1 (fun t165=>k227 (decide (t165=t13)))))) (k227 false))) (k299 xs8))))))))) (fun k147=>ifW (decide (t82<(b_1.length:Int))) (zI b_1 t82 (fun e84=>k147 (decide (e84.xHi<t13)))) (k147 false))) t12)) (fun k80=>ifW (decide (t15<(a_0.length:Int))) (zI a_0 t15 (fun e17=>k80 (decide (e17.xHi<t13)))) (k80 false))) t11) (κ xs8)) ([],0,0,0)
def ja (a_0:(List zd)) (b_1:(List zd)) (top_2:Int) (κ:((List zd)×Bool)→Prop):Prop :=
 zW a_0 b_1 top_2 (fun r6=>uZ r6 (fun (r9,r12)=>κ (r9,r12)))
def ZL {σ_:Type} (Y_:σ_→za→Bool→(Bool×σ_→Prop)→Prop) (z_:σ_) (a_1:za) (b_2:za) (κ:σ_→Prop):Prop :=
 uP a_1 (fun r20=>ifW r20 (κ z_) (uT a_1 b_2 (fun r51=>ifW (!r51) (Y_ z_ a_1 true (fun (t67,z68)=>κ z68)) (jd (fun (nx108:((List (List zd))×σ_×Bool×Int)→Prop) ((xs101,z103,t106,t107):((List (List zd))×σ_×Bool×Int))=>ifW (decide (t107<4)) (jnW (fun ((z498,xs501,t503):(σ_×(List (List zd))×Bool))=>jo t107 1 (fun t505=>nx108 (xs501,z498,t503,t505))) (fun k504=>jnW (fun ((xs109,t112):((List zd)×Bool))=>jnW (fun (t232:Bool)=>ifW t232 (Y_ z103 (za.mk ([]) ([]) ([]) ([])) false (fun (t234,z235)=>κ z235)) (jnW (fun ((z363,xs366):(σ_×(List (List zd))))=>jnW (fun ((xs369,t372):((List zd)×Bool))=>zI xs366 t107 (fun e432=>ifW t106 (k504 (z363,(xs366.set (t107).toNat xs369),t372)) (k504 (z363,(xs366.set (t107).toNat xs369),false)))) (fun k373=>(zI ([a_1.x0,a_1.x1,a_1.x2,a_1.x3]) t107 (fun e374=>(zI ([b_2.x0,b_2.x1,b_2.x2,b_2.x3]) t107 (fun e379=>zC t107 (fun r384=>zD e374 e379 r384 (fun (r385,r387)=>k373 (r385,r387)))))∧(zC t107 (fun r388=>zI ([b_2.x0,b_2.x1,b_2.x2,b_2.x3]) t107 (fun e389=>zD e374 e389 r388 (fun (r394,r396)=>k373 (r394,r396)))))))∧(zI ([b_2.x0,b_2.x1,b_2.x2,b_2.x3]) t107 (fun e397=>(zI ([a_1.x0,a_1.x1,a_1.x2,a_1.x3]) t107 (fun e402=>zC t107 (fun r407=>zD e402 e397 r407 (fun (r385,r387)=>k373 (r385,r387)))))∧(zC t107 (fun r408=>zI ([a_1.x0,a_1.x1,a_1.x2,a_1.x3]) t107 (fun e409=>zD e409 e397 r408 (fun (r414,r416)=>k373 (r414,r416)))))))∧(zC t107 (fun r417=>(zI ([a_1.x0,a_1.x1,a_1.x2,a_1.x3]) t107 (fun e418=>zI ([b_2.x0,b_2.x1,b_2.x2,b_2.x3]) t107 (fun e423=>zD e418 e423 r417 (fun (r394,r396)=>k373 (r394,r396)))))∧(zI ([b_2.x0,b_2.x1,b_2.x2,b_2.x3]) t107 (fun e425=>zI ([a_1.x0,a_1.x1,a_1.x2,a_1.x3]) t107 (fun e430=>zD e430 e425 r417 (fun (r414,r416)=>k373 (r414,r416))))))))) (fun k368=>ifW (decide (0<(xs109.length:Int))) (ze5 xs101 (fun e238 e239 e240 e241=>zI ([e238,e239,e240,e241]) t107 (fun e273=>ze5 (([e238,e239,e240,e241]).set (t107).toNat xs109) (fun e279 e280 e281 e282=>Y_ z103 (za.mk e279 e280 e281 e282) true (fun (t299,z300)=>ifW (!t299) (κ z300) (k368 (z300,[e238,e239,e240,e241]))))))) (k368 (z103,xs101))))) (fun k233=>ifW (!t112) (k233 true) (ifW (decide (0<(xs109.length:Int))) (k233 (!t106)) (k233 false)))) (fun k113=>(zI ([a_1.x0,a_1.x1,a_1.x2,a_1.x3]) t107 (fun e114=>(zI ([b_2.x0,b_2.x1,b_2.x2,b_2.x3]) t107 (fun e119=>zC t107 (fun r124=>ja e114 e119 r124 (fun (r125,r127)=>k113 (r125,r127)))))∧(zC t107 (fun r128=>zI ([b_2.x0,b_2.x1,b_2.x2,b_2.x3]) t107 (fun e129=>ja e114 e129 r128 (fun (r134,r136)=>k113 (r134,r136)))))))∧(zI ([b_2.x0,b_2.x1,b_2.x2,b_2.x3]) t107 (fun e137=>(zI ([a_1.x0,a_1.x1,a_1.x2,a_1.x3]) t107 (fun e142=>zC t107 (fun r147=>ja e142 e137 r147 (fun (r125,r127)=>k113 (r125,r127)))))∧(zC t107 (fun r148=>zI ([a_1.x0,a_1.x1,a_1.x2,a_1.x3]) t107 (fun e149=>ja e149 e137 r148 (fun (r154,r156)=>k113 (r154,r156)))))))∧(zC t107 (fun r157=>(zI ([a_1.x0,a_1.x1,a_1.x2,a_1.x3]) t107 (fun e158=>zI ([b_2.x0,b_2.x1,b_2.x2,b_2.x3]) t107 (fun e163=>ja e158 e163 r157 (fun (r134,r136)=>k113 (r134,r136)))))∧(zI ([b_2.x0,b_2.x1,b_2.x2,b_2.x3]) t107 (fun e165=>zI ([a_1.x0,a_1.x1,a_1.x2,a_1.x3]) t107 (fun e170=>ja e170 e165 r157 (fun (r154,r156)=>k113 (r154,r156)))))))))) (κ z103)) ([a_1.x0,a_1.x1,a_1.x2,a_1.x3],z_,true,0)))))
def U6 (z:Option (List za)) (x:za) (ok:Bool) (κ:Bool×Option (List za)→Prop):Prop :=
 match z with
 | none=>False
 | some xs=>ifW ok (jG xs [x] (fun ys=>κ (true,some ys))) (κ (false,none))
def zkq:Option (List za)→List za×Bool
 | some xs=>(xs,true)
 | none=>([],false)
def uL (s_0:za) (other_1:za) (κ:((List za)×Bool)→Prop):Prop :=
 ZL U6 (some []) s_0 other_1 (fun r=>κ (zkq r))
def yf (u_0_chains:(List (List zz))) (u_0_flats:(List zl)) (u_0_over:Bool) (boxes_1:(List za)) (where_2:za) (κ:((List za)×(List za)×Bool)→Prop):Prop :=
 jd (fun (nx42:((List za)×(List za)×Int)→Prop) ((xs34,xs38,t41):((List za)×(List za)×Int))=>ifW (decide (t41<(boxes_1.length:Int))) (zI boxes_1 t41 (fun e43=>jnW (fun (xs252:(List za))=>uL e43 where_2 (fun (r286,r289)=>ifW (!r289) (κ ([],[],true)) (jG xs38 r286 (fun _=>jo t41 1 (fun t294=>nx42 (xs252,(xs38++r286),t294)))))) (fun k255=>uT e43 where_2 (fun r103=>ifW r103 (ZX e43 where_2 (fun (r134,r143)=>ifW (!r143) (κ ([],[],true)) (jG xs34 ([r134]) (fun _=>k255 (xs34++([r134])))))) (k255 xs34))))) (jO u_0_chains u_0_flats u_0_over xs34 (fun (r295,r298)=>jO u_0_chains u_0_flats r298 xs38 (fun (r299,r302)=>κ (r295,r299,r302))))) ([],[],0)
def ZB (κ:za→Prop):Prop :=
 jd (fun (nx8:((List (List zd))×Int)→Prop) ((xs5,t7):((List (List zd))×Int))=>ifW (decide (t7<4)) (zC t7 (fun r9=>zI xs5 t7 (fun e12=>jo t7 1 (fun t18=>nx8 ((xs5.set (t7).toNat ([(zd.mk 0 r9)])),t18))))) (ze5 xs5 (fun e19 e20 e21 e22=>κ (za.mk e19 e20 e21 e22)))) ([[],[],[],[]],0)
def uy (t_0:jh) (κ:(List zd)→Prop):Prop :=
 ifW (!t_0.xNot) (κ ([(zd.mk t_0.xLo t_0.xHi)])) (jnW (fun (xs72:(List zd))=>jnW (fun (xs142:(List zd))=>κ xs142) (fun k145=>zC t_0.xField (fun r76=>ifW (decide (t_0.xHi<r76)) (jo t_0.xHi 1 (fun t77=>jG xs72 ([(zd.mk t77 r76)]) (fun _=>k145 (xs72++([(zd.mk t77 r76)]))))) (k145 xs72)))) (fun k75=>ifW (decide (0<t_0.xLo)) (Y6 t_0.xLo 1 (fun t7=>jG ([]) ([(zd.mk 0 t7)]) (fun _=>k75 (([])++([(zd.mk 0 t7)]))))) (k75 ([]))))
def ZP (list_0:(List jh)) (κ:za→Prop):Prop :=
 ZB (fun r5=>jd (fun (nx32:((List (List zd))×Int)→Prop) ((xs29,t31):((List (List zd))×Int))=>ifW (decide (t31<(list_0.length:Int))) (zI list_0 t31 (fun e33=>jnW (fun (xs37:(List (List zd)))=>jo t31 1 (fun t76=>nx32 (xs37,t76))) (fun k39=>(zI xs29 e33.xField (fun e40=>uy e33 (fun r46=>zC e33.xField (fun r48=>zD e40 r46 r48 (fun (r49,r51)=>zI xs29 e33.xField (fun e52=>k39 (xs29.set (e33.xField).toNat r49)))))))∧(uy e33 (fun r69=>(zI xs29 e33.xField (fun e71=>zC e33.xField (fun r48=>zD e71 r69 r48 (fun (r49,r51)=>zI xs29 e33.xField (fun e52=>k39 (xs29.set (e33.xField).toNat r49))))))∧(zC e33.xField (fun r73=>zI xs29 e33.xField (fun e74=>zD e74 r69 r73 (fun (r49,r51)=>zI xs29 e33.xField (fun e52=>k39 (xs29.set (e33.xField).toNat r49))))))))))) (ze5 xs29 (fun e77 e78 e79 e80=>κ (za.mk e77 e78 e79 e80)))) ([r5.x0,r5.x1,r5.x2,r5.x3],0))
def uk (s_0:(List za)) (n_1:Int) (κ:(List za)→Prop):Prop:=s_0=[]∧0≤n_1∧n_1≤4294967296∧κ []
def jJ (slices_0:(List (List za))) (κ:(List za)→Prop):Prop :=
 jd (fun (nx6:(Int×Int)→Prop) ((t4,t5):(Int×Int))=>ifW (decide (t5<(slices_0.length:Int))) (zI slices_0 t5 (fun e7=>jo t4 (e7.length:Int) (fun t13=>ifW (decide (t13<0)) (False) (jo t5 1 (fun t14=>nx6 (t13,t14)))))) (uk ([]) t4 (fun r15=>jd (fun (nx23:((List za)×Int)→Prop) ((xs19,t22):((List za)×Int))=>ifW (decide (t22<(slices_0.length:Int))) (zI slices_0 t22 (fun e24=>jG xs19 e24 (fun _=>jo t22 1 (fun t32=>nx23 ((xs19++e24),t32))))) (κ xs19)) (r15,0)))) (0,0)
def uA (d_0:uN) (u_1_chains:(List (List zz))) (u_1_flats:(List zl)) (u_1_over:Bool) (__2:(List za)) (fitting_3:(List za)) (missing_4:(List za)) (κ:((List za)×(List zl)×Bool)→Prop):Prop :=
 jd (fun (nx23:((List zl)×Int)→Prop) ((xs19,t22):((List zl)×Int))=>ifW (decide (t22<(fitting_3.length:Int))) (zI fitting_3 t22 (fun e24=>jnW (fun (xs57:(List zl))=>jo t22 1 (fun t113=>nx23 (xs57,t113))) (fun k60=>jG xs19 ([(zl.mk e24 d_0.xAccept)]) (fun _=>k60 (xs19++([(zl.mk e24 d_0.xAccept)])))))) (jnW (fun (t174:Bool)=>κ (missing_4,xs19,t174)) (fun k175=>ifW (decide (60<(xs19.length:Int))) (k175 true) (k175 u_1_over)))) (u_1_flats,0)
def Zf (a_0:uM) (__1_chains:(List (List zz))) (__1_flats:(List zl)) (__1_over:Bool) (left_2:(List za)) (fitting_3:(List za)) (missing_4:(List za)) (κ:((List za)×(List za))→Prop):Prop :=
 jG left_2 fitting_3 (fun _=>κ (missing_4,(left_2++fitting_3)))
def ZN (a_0:yW) (__1_chains:(List (List zz))) (__1_flats:(List zl)) (__1_over:Bool) (__2:(List za)) (fitting_3:(List za)) (missing_4:(List za)) (κ:(List za)→Prop):Prop :=
 jJ ([missing_4,fitting_3]) (fun r26=>κ r26)
def ZJ (rec:(List (List zz))→(List zl)→Bool→Int→(List za)→(((List za)×(List zl)×Bool)→Prop)→Prop) (c_0:Xe) (u_1_chains:(List (List zz))) (u_1_flats:(List zl)) (u_1_over:Bool) (__2:(List za)) (fitting_3:(List za)) (missing_4:(List za)) (κ:((List za)×(List zl)×Bool)→Prop):Prop :=
 rec u_1_chains u_1_flats u_1_over c_0.xChain fitting_3 (fun (r18,r21,r24)=>jJ ([missing_4,r18]) (fun r33=>κ (r33,r21,r24)))
def yw (rec:((List (List zz))→(List zl)→Bool→Int→(List za)→(((List za)×(List zl)×Bool)→Prop)→Prop)) (u_0_chains:(List (List zz))) (u_0_flats:(List zl)) (u_0_over:Bool) (number_1:Int) (boxes_2:(List za)) (κ:((List za)×(List zl)×Bool)→Prop):Prop :=
 ifW (decide ((boxes_2.length:Int)=0)) (κ ([],u_0_flats,u_0_over)) (zI u_0_chains number_1 (fun e14=>jd (fun (nx34:((List za)×(List zl)×Bool×(List za)×Int)→Prop) ((xs21,xs25,t28,xs30,t33):((List za)×(List zl)×Bool×(List za)×Int))=>ifW (decide (t33<(e14.length:Int))) (jnW (fun ((xs171,xs174,t177,xs179):((List zl)×(List za)×Bool×(List za)))=>jo t33 1 (fun t183=>nx34 (xs174,xs171,t177,xs179,t183))) (fun k182=>zI e14 t33 (fun e35=>ZP e35.xTests (fun r46=>yf u_0_chains xs25 t28 xs30 r46 (fun (r55,r58,r61)=>ifW r61 (κ ([],xs25,r61)) (Uc e35 (fun r63=>ut.casesW r63 (fun x64=>uA x64 u_0_chains xs25 r61 xs21 r55 r58 (fun (r68,r71,r74)=>jO u_0_chains r71 r74 r68 (fun (r75,r78)=>ifW r78 (κ ([],r71,r78)) (k182 (r71,xs21,r78,r75))))) (fun x65=>ZJ rec x65 u_0_chains xs25 r61 xs21 r55 r58 (fun (r80,r83,r86)=>jO u_0_chains r83 r86 r80 (fun (r87,r90)=>ifW r90 (κ ([],r83,r90)) (k182 (r83,xs21,r90,r87))))) (fun x66=>Zf (uM.mk ) u_0_chains xs25 r61 xs21 r55 r58 (fun (r92,r95)=>jO u_0_chains xs25 r61 r92 (fun (r98,r101)=>ifW r101 (κ ([],xs25,r101)) (k182 (xs25,r95,r101,r98))))) (fun x67=>ZN (yW.mk ) u_0_chains xs25 r61 xs21 r55 r58 (fun r103=>jO u_0_chains xs25 r61 r103 (fun (r106,r109)=>ifW r109 (κ ([],xs25,r109)) (k182 (xs25,xs21,r109,r106)))))))))))) (jJ ([xs21,xs30]) (fun r192=>jO u_0_chains xs25 t28 r192 (fun (r195,r198)=>κ (r195,xs25,r198))))) ([],u_0_flats,u_0_over,boxes_2,0)))
def xV:Nat→(List (List zz))→(List zl)→Bool→Int→(List za)→(((List za)×(List zl)×Bool)→Prop)→Prop
 | 0=>fun _ _ _ _ _ _=>False
 | n+1=>yw (xV n)
def YH (u_0_chains:(List (List zz))) (u_0_flats:(List zl)) (u_0_over:Bool) (number_1:Int) (boxes_2:(List za)) (κ:((List za)×(List zl)×Bool)→Prop):Prop:=∃ n,xV n u_0_chains u_0_flats u_0_over number_1 boxes_2 κ
def Zq (s_0:zS) (κ:((List zl)×Bool)→Prop):Prop :=
 ZB (fun r11=>YH s_0.xChains ([]) false 0 ([r11]) (fun (r35,r38,r41)=>κ (r38,(!r41))))
def YD (list_0:(List zl)) (rest_1:Bool) (κ:(List zl)→Prop):Prop :=
 jd (fun (nx5:Int→Prop) (t4:Int)=>jnW (fun (t69:Bool)=>ifW t69 (Y6 t4 1 (fun t71=>nx5 t71)) (yN list_0 0 t4 (fun xs73=>κ xs73))) (fun k70=>ifW (decide (0<t4)) (Y6 t4 1 (fun t6=>zI list_0 t6 (fun e7=>k70 (decide (e7.xAccept=rest_1))))) (k70 false))) (list_0.length:Int)
def xL (s_0:(List zl)) (κ:(List zl)→Prop):Prop :=
 zle true s_0 (fun t4=>ifW t4 (κ ([])) (jG ([]) s_0 (fun _=>κ (([])++s_0))))
def ye (s_0:za) (other_1:za) (κ:Bool→Prop):Prop :=
 uP s_0 (fun r60=>ifW r60 (κ true) (jd (fun (nx62:Int→Prop) (t61:Int)=>ifW (decide (t61<4)) (jnW (fun (t63:Bool)=>ifW t63 (κ false) (jo t61 1 (fun t107=>nx62 t107))) (fun k64=>zI ([s_0.x0,s_0.x1,s_0.x2,s_0.x3]) t61 (fun e65=>zI ([other_1.x0,other_1.x1,other_1.x2,other_1.x3]) t61 (fun e67=>zC t61 (fun r77=>zW e65 e67 r77 (fun r78=>k64 (decide (0<(r78.length:Int))))))))) (κ true)) 0))
def jB (s1_0:(List zd)) (s2_1:(List zd)) (κ:Bool→Prop):Prop :=
 ifW (!(decide ((s1_0.length:Int)=(s2_1.length:Int)))) (κ false) (jd (fun (nx6:Int→Prop) (t5:Int)=>ifW (decide (t5<(s1_0.length:Int))) (zI s1_0 t5 (fun e7=>zI s2_1 t5 (fun e9=>ifW (!(decide (e7=e9))) (κ false) (jo t5 1 (fun t11=>nx6 t11))))) (κ true)) 0)
def ZA (inA_0:Bool) (inB_1:Bool) (κ:Bool→Prop):Prop :=
 jnW (fun (t61:Bool)=>κ t61) (fun k62=>ifW inA_0 (k62 true) (k62 inB_1))
def xX (a_0:(List zd)) (b_1:(List zd)) (top_2:Int) (κ:(List zd)→Prop):Prop :=
 jd (fun (nx14:((List zd)×Int×Int×Int)→Prop) ((xs8,t11,t12,t13):((List zd)×Int×Int×Int))=>ifW (decide (t13≤top_2)) (jd (fun (nx16:Int→Prop) (t15:Int)=>jnW (fun (t79:Bool)=>ifW t79 (jo t15 1 (fun t81=>nx16 t81)) (jd (fun (nx83:Int→Prop) (t82:Int)=>jnW (fun (t146:Bool)=>ifW t146 (jo t82 1 (fun t148=>nx83 t148)) (yN a_0 t15 (a_0.length:Int) (fun xs150=>xY xs150 t13 top_2 (fun (r153,r154)=>yN b_1 t82 (b_1.length:Int) (fun xs156=>xY xs156 t13 top_2 (fun (r159,r160)=>jnW (fun (xs296:(List zd))=>jo (min r154 r160) 1 (fun t300=>nx14 (xs296,t15,t82,t300))) (fun k299=>ZA r153 r159 (fun r161=>ifW r161 (jnW (fun (t226:Bool)=>ifW t226 (Y6 (xs8.length:Int) 1 (fun t228=>zI xs8 t228 (fun e229=>k299 (xs8.set (t228).toNat (zd.mk e229.xLo (min r154 r160)))))) (jG xs8 ([(zd.mk t13 (min r154 r160))]) (fun _=>k299 (xs8++([(zd.mk t13 (min r154 r160))]))))) (fun k227=>ifW (decide (0<(xs8.length:Int))) (Y6 (xs8.length:Int) 1 (fun t162=>zI xs8 t162 (fun e163=>jo e163.xHi 1 (fun t165=>k227 (decide (t165=t13)))))) (k227 false))) (k299 xs8))))))))) (fun k147=>ifW (decide (t82<(b_1.length:Int))) (zI b_1 t82 (fun e84=>k147 (decide (e84.xHi<t13)))) (k147 false))) t12)) (fun k80=>ifW (decide (t15<(a_0.length:Int))) (zI a_0 t15 (fun e17=>k80 (decide (e17.xHi<t13)))) (k80 false))) t11) (κ xs8)) ([],0,0,0)
def xt (a_0:(List zd)) (b_1:(List zd)) (top_2:Int) (κ:((List zd)×Bool)→Prop):Prop :=
 xX a_0 b_1 top_2 (fun r6=>uZ r6 (fun (r9,r12)=>κ (r9,r12)))
def uB (a_0:za) (b_1:za) (κ:(za×Bool)→Prop):Prop :=
 ye a_0 b_1 (fun r77=>ifW r77 (κ (b_1,true)) (ye b_1 a_0 (fun r156=>ifW r156 (κ (a_0,true)) (jd (fun (nx208:(Int×Int×Int)→Prop) ((t205,t206,t207):(Int×Int×Int))=>ifW (decide (t207<4)) (jnW (fun ((t293,t294):(Int×Int))=>jo t207 1 (fun t296=>nx208 (t293,t294,t296))) (fun k295=>jnW (fun (t209:Bool)=>ifW t209 (jo t206 1 (fun t232=>k295 (t207,t232))) (k295 (t205,t206))) (fun k210=>zI ([a_0.x0,a_0.x1,a_0.x2,a_0.x3]) t207 (fun e211=>zI ([b_1.x0,b_1.x1,b_1.x2,b_1.x3]) t207 (fun e213=>jB e211 e213 (fun r223=>k210 (!r223))))))) (ifW (!(decide (t206=1))) (κ ((za.mk ([]) ([]) ([]) ([])),false)) (jnW (fun ((xs318,t321):((List zd)×Bool))=>ifW (!t321) (κ ((za.mk ([]) ([]) ([]) ([])),false)) (zI ([a_0.x0,a_0.x1,a_0.x2,a_0.x3]) t205 (fun e417=>ze5 (([a_0.x0,a_0.x1,a_0.x2,a_0.x3]).set (t205).toNat xs318) (fun e423 e424 e425 e426=>κ ((za.mk e423 e424 e425 e426),true))))) (fun k322=>zI ([a_0.x0,a_0.x1,a_0.x2,a_0.x3]) t205 (fun e323=>zI ([b_1.x0,b_1.x1,b_1.x2,b_1.x3]) t205 (fun e325=>zC t205 (fun r335=>xt e323 e325 r335 (fun (r336,r338)=>k322 (r336,r338))))))))) (0,0,0)))))
def xG (s_0:(List zl)) (i_1:Int) (j_2:Int) (κ:(List zl)→Prop):Prop:=0≤i_1∧i_1≤j_2∧j_2≤(s_0.length:Int)∧κ (s_0.take i_1.toNat++s_0.drop j_2.toNat)
def yg (list_0:(List zl)) (κ:(List zl)→Prop):Prop :=
 xL list_0 (fun r4=>jd (fun (nx12:((List zl)×Int)→Prop) ((xs8,t11):((List zl)×Int))=>jo t11 1 (fun t13=>ifW (decide (t13<(xs8.length:Int))) (jnW (fun ((xs149,t151):((List (List zd))×Bool))=>ifW (!t151) (jo t11 1 (fun t153=>nx12 (xs8,t153))) (ze5 xs149 (fun e154 e155 e156 e157=>zI xs8 t11 (fun e174=>jo t11 1 (fun t189=>jo t11 2 (fun t190=>xG (xs8.set (t11).toNat (zl.mk (za.mk e154 e155 e156 e157) e174.xAccept)) t189 t190 (fun r191=>Y6 t11 1 (fun t194=>nx12 (r191,(max t194 0)))))))))) (fun k152=>zI xs8 t11 (fun e17=>jo t11 1 (fun t19=>zI xs8 t19 (fun e20=>ifW (decide (e17.xAccept=e20.xAccept)) (jnW (fun ((xs22,t24):((List (List zd))×Bool))=>k152 (xs22,t24)) (fun k25=>zI xs8 t11 (fun e26=>zI xs8 (w64 (t11+1)) (fun e28=>uB e26.xWhere e28.xWhere (fun (r50,r55)=>k25 ([r50.x0,r50.x1,r50.x2,r50.x3],r55)))))) (k152 ([[],[],[],[]],false))))))) (κ xs8))) (r4,0))
def YS (list_0:(List zl)) (κ:(List za)→Prop):Prop :=
 Vz ((za.mk ([]) ([]) ([]) ([])):za) 0 (list_0.length:Int) (fun xs5=>jd (fun (nx12:((List za)×Int)→Prop) ((xs8,t11):((List za)×Int))=>ifW (decide (t11<(list_0.length:Int))) (zI list_0 t11 (fun e13=>jG xs8 ([e13.xWhere]) (fun _=>jo t11 1 (fun t46=>nx12 ((xs8++([e13.xWhere])),t46))))) (κ xs8)) (xs5,0))
def u5 (s_0:za) (region_1:(List za)) (κ:((List za)×Bool)→Prop):Prop :=
 uP s_0 (fun r41=>ifW r41 (κ ([],true)) (jnW (fun (xs310:(List za))=>κ (xs310,true)) (fun k313=>jd (fun (nx77:((List za)×Int)→Prop) ((xs73,t76):((List za)×Int))=>ifW (decide (t76<(region_1.length:Int))) (zI region_1 t76 (fun e78=>jd (fun (nx114:((List za)×Int)→Prop) ((xs110,t113):((List za)×Int))=>ifW (decide (t113<(xs73.length:Int))) (zI xs73 t113 (fun e115=>uL e115 e78 (fun (r177,r180)=>jnW (fun (t242:Bool)=>ifW t242 (κ ([],false)) (jG xs110 r177 (fun _=>jo t113 1 (fun t247=>nx114 ((xs110++r177),t247))))) (fun k243=>ifW (!r180) (k243 true) (jo (xs110.length:Int) (r177.length:Int) (fun t181=>k243 (decide (400<t181)))))))) (ifW (decide ((xs110.length:Int)=0)) (k313 xs110) (jo t76 1 (fun t248=>nx77 (xs110,t248))))) ([],0))) (k313 xs73)) ([s_0],0))))
def YW (list_0:(List zl)) (n_1:Int) (κ:((List za)×Bool)→Prop):Prop :=
 zI list_0 n_1 (fun e4=>yN list_0 0 n_1 (fun xs20=>YS xs20 (fun r23=>u5 e4.xWhere r23 (fun (r26,r29)=>κ (r26,r29)))))
def YU (list_0:(List zl)) (κ:(List Int)→Prop):Prop :=
 jd (fun (nx10:((List Int)×Int)→Prop) ((xs6,t9):((List Int)×Int))=>ifW (decide (t9<(list_0.length:Int))) (jnW (fun (xs141:(List Int))=>jo t9 1 (fun t145=>nx10 (xs141,t145))) (fun k144=>YW list_0 t9 (fun (r11,r14)=>jnW (fun (t75:Bool)=>ifW t75 (jG xs6 ([t9]) (fun _=>k144 (xs6++([t9])))) (k144 xs6)) (fun k76=>ifW r14 (k76 (decide ((r11.length:Int)=0))) (k76 false))))) (κ xs6)) ([],0)
def Zr (list_0:(List zl)) (κ:(List zl)→Prop):Prop :=
 YU list_0 (fun r4=>Vz ((zl.mk (za.mk ([]) ([]) ([]) ([])) false):zl) 0 (list_0.length:Int) (fun xs8=>jd (fun (nx19:((List Int)×(List zl)×Int)→Prop) ((xs11,xs15,t18):((List Int)×(List zl)×Int))=>ifW (decide (t18<(list_0.length:Int))) (jnW (fun ((xs180,xs184):((List zl)×(List Int)))=>jo t18 1 (fun t188=>nx19 (xs184,xs180,t188))) (fun k187=>zI list_0 t18 (fun e20=>jnW (fun (t111:Bool)=>ifW t111 (yN xs11 1 (xs11.length:Int) (fun xs114=>k187 (xs15,xs114))) (jG xs15 ([e20]) (fun _=>k187 ((xs15++([e20])),xs11)))) (fun k112=>ifW (decide (0<(xs11.length:Int))) (zI xs11 0 (fun e49=>k112 (decide (e49=t18)))) (k112 false))))) (κ xs15)) (r4,xs8,0)))
def ZQ (list_0:(List zl)) (rest_1:Bool) (κ:(List zl)→Prop):Prop :=
 jd (fun (nx8:(List zl)→Prop) (xs5:(List zl))=>Zr xs5 (fun r9=>yg r9 (fun r12=>YD r12 rest_1 (fun r15=>ifW (decide ((r15.length:Int)=(xs5.length:Int))) (κ r15) (nx8 r15))))) list_0
def yT (s_0:zS) (κ:((List zl)×Bool)→Prop):Prop :=
 yR s_0 (fun r9=>ifW (!r9) (κ ([],false)) (Zq s_0 (fun (r11,r14)=>ifW (!r14) (κ ([],false)) (ZQ r11 s_0.xAccept (fun r16=>κ (r16,true))))))
def Xu (x_0:zz) (κ:zz→Prop):Prop :=
 jG ([]) x_0.xTests (fun _=>κ (zz.mk (([])++x_0.xTests) x_0.xAction x_0.xChain))
def yH (list_0:(List zz)) (κ:(List zz)→Prop):Prop :=
 jd (fun (nx13:((List zz)×Int)→Prop) ((xs8,t12):((List zz)×Int))=>ifW (decide (t12<(list_0.length:Int))) (zI list_0 t12 (fun e14=>Xu e14 (fun r20=>jG xs8 ([r20]) (fun _=>jo t12 1 (fun t32=>nx13 ((xs8++([r20])),t32)))))) (κ xs8)) ([],0)
def Xb (list_0:(List (List zz))) (κ:(List (List zz))→Prop):Prop :=
 jd (fun (nx13:((List (List zz))×Int)→Prop) ((xs8,t12):((List (List zz))×Int))=>ifW (decide (t12<(list_0.length:Int))) (zI list_0 t12 (fun e14=>yH e14 (fun r20=>jG xs8 ([r20]) (fun _=>jo t12 1 (fun t33=>nx13 ((xs8++([r20])),t33)))))) (κ xs8)) ([],0)
def yc (x_0:zS) (κ:zS→Prop):Prop :=
 Xb x_0.xChains (fun r12=>κ (zS.mk r12 x_0.xAccept))
def uS (n_0:Int) (lo_1:Int) (hi_2:Int) (κ:Bool→Prop):Prop :=
 jnW (fun (t61:Bool)=>κ t61) (fun k62=>ifW (decide (lo_1≤n_0)) (k62 (decide (n_0≤hi_2))) (k62 false))
def yY (t_0:jh) (κ:Bool→Prop):Prop :=
 jnW (fun (t66:Bool)=>κ t66) (fun k67=>uS t_0.xField 0 3 (fun r3=>ifW r3 (uS t_0.xLo 0 t_0.xHi (fun r4=>ifW r4 (x5 t_0.xField (fun r5=>k67 (decide (t_0.xHi≤r5)))) (k67 false))) (k67 false)))
def yJ (list_0:(List jh)) (κ:Bool→Prop):Prop :=
 jd (fun (nx4:Int→Prop) (t3:Int)=>ifW (decide (t3<(list_0.length:Int))) (zI list_0 t3 (fun e5=>yY e5 (fun r7=>ifW (!r7) (κ false) (jo t3 1 (fun t8=>nx4 t8))))) (κ (decide ((list_0.length:Int)≤6)))) 0
def Xj (r_0:zz) (κ:Bool→Prop):Prop :=
 jnW (fun (t71:Bool)=>κ t71) (fun k72=>yJ r_0.xTests (fun r8=>ifW r8 (uS r_0.xAction 1 5 (fun r9=>ifW r9 (ifW (decide (r_0.xAction=3)) (uS r_0.xChain 0 4 (fun r10=>ifW r10 (k72 true) (ifW (!(decide (r_0.xAction=3))) (k72 (decide (r_0.xChain=0))) (k72 false)))) (ifW (!(decide (r_0.xAction=3))) (k72 (decide (r_0.xChain=0))) (k72 false))) (k72 false))) (k72 false)))
def ZT (list_0:(List zz)) (κ:Bool→Prop):Prop :=
 jd (fun (nx4:Int→Prop) (t3:Int)=>ifW (decide (t3<(list_0.length:Int))) (zI list_0 t3 (fun e5=>Xj e5 (fun r11=>ifW (!r11) (κ false) (jo t3 1 (fun t12=>nx4 t12))))) (κ (decide ((list_0.length:Int)≤8)))) 0
def Yg (s_0:zS) (κ:(List Int)→Prop):Prop :=
 Vz (false:Bool) (s_0.xChains.length:Int) (s_0.xChains.length:Int) (fun xs10=>jd (fun (nx21:((List Bool)×(List Int)×Int)→Prop) ((xs14,xs17,t20):((List Bool)×(List Int)×Int))=>ifW (decide (t20<(s_0.xChains.length:Int))) (jd (fun (nx29:((List Bool)×(List Int)×Int)→Prop) ((xs22,xs25,t28):((List Bool)×(List Int)×Int))=>ifW (decide (t28<(s_0.xChains.length:Int))) (jnW (fun ((xs190,xs192):((List Bool)×(List Int)))=>jo t28 1 (fun t196=>nx29 (xs190,xs192,t196))) (fun k195=>zI xs22 t28 (fun e30=>jd (fun (nx34:(Bool×Int)→Prop) ((t32,t33):(Bool×Int))=>zI s_0.xChains t28 (fun e35=>ifW (decide (t33<(e35.length:Int))) (jnW (fun (t120:Bool)=>jo t33 1 (fun t122=>nx34 (t120,t122))) (fun k121=>zI s_0.xChains t28 (fun e41=>zI e41 t33 (fun e47=>ifW t32 (ifW (!(decide (e47.xAction=3))) (k121 true) (zI xs22 e47.xChain (fun e58=>k121 e58))) (k121 false))))) (ifW t32 (zI xs22 t28 (fun e123=>jG xs25 ([t28]) (fun _=>k195 ((xs22.set (t28).toNat true),(xs25++([t28])))))) (k195 (xs22,xs25))))) ((!e30),0)))) (jo t20 1 (fun t197=>nx21 (xs22,xs25,t197)))) (xs14,xs17,0)) (κ xs17)) (xs10,[],0))
def yS (s_0:zS) (κ:Bool→Prop):Prop :=
 jd (fun (nx9:Int→Prop) (t8:Int)=>ifW (decide (t8<(s_0.xChains.length:Int))) (zI s_0.xChains t8 (fun e10=>ZT e10 (fun r16=>ifW (!r16) (κ false) (jd (fun (nx18:Int→Prop) (t17:Int)=>zI s_0.xChains t8 (fun e19=>ifW (decide (t17<(e19.length:Int))) (zI s_0.xChains t8 (fun e25=>zI e25 t17 (fun e31=>ifW (decide ((s_0.xChains.length:Int)≤e31.xChain)) (κ false) (jo t17 1 (fun t33=>nx18 t33))))) (jo t8 1 (fun t34=>nx9 t34)))) 0)))) (jnW (fun (t99:Bool)=>κ t99) (fun k100=>uS (s_0.xChains.length:Int) 1 5 (fun r35=>ifW r35 (Yg s_0 (fun r36=>k100 (decide ((r36.length:Int)=(s_0.xChains.length:Int))))) (k100 false))))) 0
def xu (a_0:(List zd)) (b_1:(List zd)) (κ:(List zd)→Prop):Prop :=
 jd (fun (nx13:((List zd)×Int)→Prop) ((xs9,t12):((List zd)×Int))=>ifW (decide (t12<(a_0.length:Int))) (jd (fun (nx19:((List zd)×Int)→Prop) ((xs15,t18):((List zd)×Int))=>ifW (decide (t18<(b_1.length:Int))) (jnW (fun (xs92:(List zd))=>jo t18 1 (fun t96=>nx19 (xs92,t96))) (fun k95=>zI a_0 t12 (fun e20=>zI b_1 t18 (fun e22=>zI a_0 t12 (fun e24=>zI b_1 t18 (fun e26=>ifW (decide ((max e20.xLo e22.xLo)≤(min e24.xHi e26.xHi))) (jG xs15 ([(zd.mk (max e20.xLo e22.xLo) (min e24.xHi e26.xHi))]) (fun _=>k95 (xs15++([(zd.mk (max e20.xLo e22.xLo) (min e24.xHi e26.xHi))])))) (k95 xs15))))))) (jo t12 1 (fun t97=>nx13 (xs15,t97)))) (xs9,0)) (κ xs9)) ([],0)
def yZ (a_0:zU) (b_1:zU) (κ:zU→Prop):Prop :=
 jd (fun (nx25:((List (List zd))×Int)→Prop) ((xs20,t24):((List (List zd))×Int))=>ifW (decide (t24<4)) (jnW (fun (xs29:(List (List zd)))=>jo t24 1 (fun t64=>nx25 (xs29,t64))) (fun k33=>zI a_0.xSides t24 (fun e34=>zI b_1.xSides t24 (fun e39=>xu e34 e39 (fun r44=>jG xs20 ([r44]) (fun _=>k33 (xs20++([r44])))))))) (κ (zU.mk xs20))) ([],0)
def u9 (b_0:zU) (κ:Bool→Prop):Prop :=
 jd (fun (nx9:Int→Prop) (t8:Int)=>ifW (decide (t8<(b_0.xSides.length:Int))) (zI b_0.xSides t8 (fun e10=>ifW (decide ((e10.length:Int)=0)) (κ true) (jo t8 1 (fun t16=>nx9 t16)))) (κ false)) 0
def uY (list_0:(List zd)) (top_1:Int) (κ:Bool→Prop):Prop :=
 jd (fun (nx4:Int→Prop) (t3:Int)=>ifW (decide (t3<(list_0.length:Int))) (jnW (fun (t79:Bool)=>ifW t79 (κ false) (jo t3 1 (fun t81=>nx4 t81))) (fun k80=>zI list_0 t3 (fun e5=>zI list_0 t3 (fun e7=>uS e5.xLo 0 e7.xHi (fun r9=>ifW (!r9) (k80 true) (zI list_0 t3 (fun e10=>uS e10.xHi 0 top_1 (fun r12=>ifW (!r12) (k80 true) (ifW (decide (0<t3)) (zI list_0 t3 (fun e13=>Y6 t3 1 (fun t15=>zI list_0 t15 (fun e16=>jo e16.xHi 2 (fun t18=>k80 (decide (e13.xLo<t18))))))) (k80 false)))))))))) (jnW (fun (t143:Bool)=>κ t143) (fun k144=>uS top_1 0 65535 (fun r82=>ifW r82 (k144 (decide ((list_0.length:Int)≤40))) (k144 false))))) 0
def ul (b_0:zU) (κ:Bool→Prop):Prop :=
 jd (fun (nx9:Int→Prop) (t8:Int)=>ifW (decide (t8<(b_0.xSides.length:Int))) (jnW (fun (t78:Bool)=>ifW t78 (κ false) (jo t8 1 (fun t80=>nx9 t80))) (fun k79=>ifW (decide (4≤t8)) (k79 true) (zI b_0.xSides t8 (fun e10=>x5 t8 (fun r16=>uY e10 r16 (fun r17=>k79 (!r17))))))) (κ (decide ((b_0.xSides.length:Int)=4)))) 0
def xd (list_0:(List zU)) (κ:Bool→Prop):Prop :=
 jd (fun (nx4:Int→Prop) (t3:Int)=>ifW (decide (t3<(list_0.length:Int))) (zI list_0 t3 (fun e5=>ul e5 (fun r11=>ifW (!r11) (κ false) (jo t3 1 (fun t12=>nx4 t12))))) (κ (decide ((list_0.length:Int)≤400)))) 0
def XC (κ:zU→Prop):Prop :=
 jd (fun (nx11:((List (List zd))×Int)→Prop) ((xs6,t10):((List (List zd))×Int))=>ifW (decide (t10<4)) (jnW (fun (xs15:(List (List zd)))=>jo t10 1 (fun t41=>nx11 (xs15,t41))) (fun k19=>x5 t10 (fun r20=>jG xs6 ([[(zd.mk 0 r20)]]) (fun _=>k19 (xs6++([[(zd.mk 0 r20)]])))))) (κ (zU.mk xs6))) ([],0)
def Xa (a_0:(List zd)) (top_1:Int) (κ:(List zd)→Prop):Prop :=
 jd (fun (nx12:((List zd)×Int×Int)→Prop) ((xs7,t10,t11):((List zd)×Int×Int))=>ifW (decide (t11<(a_0.length:Int))) (jnW (fun (xs82:(List zd))=>zI a_0 t11 (fun e86=>jo e86.xHi 1 (fun t88=>jo t11 1 (fun t89=>nx12 (xs82,t88,t89))))) (fun k85=>zI a_0 t11 (fun e13=>ifW (decide (t10<e13.xLo)) (zI a_0 t11 (fun e15=>Y6 e15.xLo 1 (fun t17=>jG xs7 ([(zd.mk t10 t17)]) (fun _=>k85 (xs7++([(zd.mk t10 t17)])))))) (k85 xs7)))) (jnW (fun (xs154:(List zd))=>κ xs154) (fun k157=>ifW (decide (t10≤top_1)) (jG xs7 ([(zd.mk t10 top_1)]) (fun _=>k157 (xs7++([(zd.mk t10 top_1)])))) (k157 xs7)))) ([],0,0)
def uO (t_0:jh) (κ:(List zd)→Prop):Prop :=
 yY t_0 (fun r4=>ifW (!r4) (κ ([])) (ifW t_0.xNot (x5 t_0.xField (fun r9=>Xa ([(zd.mk t_0.xLo t_0.xHi)]) r9 (fun r10=>κ r10))) (κ ([(zd.mk t_0.xLo t_0.xHi)]))))
def XR (list_0:(List jh)) (κ:zU→Prop):Prop :=
 yJ list_0 (fun r5=>ifW (!r5) (κ (zU.mk ([]))) (XC (fun r7=>jd (fun (nx21:((List (List zd))×Int)→Prop) ((xs17,t20):((List (List zd))×Int))=>ifW (decide (t20<(list_0.length:Int))) (zI list_0 t20 (fun e22=>jnW (fun (xs27:(List (List zd)))=>jo t20 1 (fun t58=>nx21 (xs27,t58))) (fun k29=>zI list_0 t20 (fun e30=>(zI xs17 e22.xField (fun e32=>uO e30 (fun r38=>xu e32 r38 (fun r40=>zI xs17 e22.xField (fun e42=>k29 (xs17.set (e22.xField).toNat r40))))))∧(uO e30 (fun r54=>zI xs17 e22.xField (fun e56=>xu e56 r54 (fun r40=>zI xs17 e22.xField (fun e42=>k29 (xs17.set (e22.xField).toNat r40)))))))))) (κ (zU.mk xs17))) (r7.xSides,0))))
def xK (list_0:(List (List zd))) (κ:(List (List zd))→Prop):Prop :=
 jd (fun (nx13:((List (List zd))×Int)→Prop) ((xs8,t12):((List (List zd))×Int))=>ifW (decide (t12<(list_0.length:Int))) (zI list_0 t12 (fun e16=>jG ([]) e16 (fun _=>jG xs8 ([(([])++e16)]) (fun _=>jo t12 1 (fun t33=>nx13 ((xs8++([(([])++e16)])),t33)))))) (κ xs8)) ([],0)
def yj (a_0:zU) (b_1:zU) (κ:(List zU)→Prop):Prop :=
 yZ a_0 b_1 (fun r19=>u9 r19 (fun r23=>ifW r23 (jnW (fun (xs89:(List zU))=>κ xs89) (fun k92=>u9 a_0 (fun r24=>ifW (!r24) (jG ([]) ([a_0]) (fun _=>k92 (([])++([a_0])))) (k92 ([]))))) (jd (fun (nx105:((List (List zd))×(List zU)×Int)→Prop) ((xs96,xs100,t104):((List (List zd))×(List zU)×Int))=>ifW (decide (t104<4)) (zI xs96 t104 (fun e115=>zI b_1.xSides t104 (fun e121=>x5 t104 (fun r127=>Xa e121 r127 (fun r128=>xu e115 r128 (fun r131=>zI xs96 t104 (fun e134=>zI b_1.xSides t104 (fun e140=>xu e134 e140 (fun r146=>jnW (fun (xs231:(List zU))=>xK xs96 (fun r236=>zI r236 t104 (fun e245=>jo t104 1 (fun t252=>nx105 ((r236.set (t104).toNat r146),xs231,t252))))) (fun k235=>ifW (decide (0<(r131.length:Int))) (xK xs96 (fun r149=>zI r149 t104 (fun e158=>jG xs100 ([(zU.mk (r149.set (t104).toNat r131))]) (fun _=>k235 (xs100++([(zU.mk (r149.set (t104).toNat r131))])))))) (k235 xs100))))))))))) (κ xs100)) (a_0.xSides,[],0))))
def Ym (rec:(zS→Int→(List zU)→(List zB)→(((List zU)×Bool×(List zB))→Prop)→Prop)) (s_0:zS) (chain_1:Int) (in_2:(List zU)) (out_3:(List zB)) (κ:((List zU)×Bool×(List zB))→Prop):Prop :=
 jd (fun (nx33:((List zB)×(List zU)×(List zU)×Int)→Prop) ((xs20,xs24,xs28,t32):((List zB)×(List zU)×(List zU)×Int))=>zI s_0.xChains chain_1 (fun e34=>ifW (decide (t32<(e34.length:Int))) (zI s_0.xChains chain_1 (fun e40=>zI e40 t32 (fun e46=>XR e46.xTests (fun r63=>jd (fun (nx81:((List zU)×(List zU)×Int)→Prop) ((xs72,xs77,t80):((List zU)×(List zU)×Int))=>ifW (decide (t80<(xs24.length:Int))) (jnW (fun (xs182:(List zU))=>zI xs24 t80 (fun e195=>yj e195 r63 (fun r201=>jG xs77 r201 (fun _=>jo t80 1 (fun t206=>nx81 (xs182,(xs77++r201),t206)))))) (fun k186=>jnW (fun (xs90:(List (List zd)))=>u9 (zU.mk xs90) (fun r112=>ifW (!r112) (jG xs72 ([(zU.mk xs90)]) (fun _=>k186 (xs72++([(zU.mk xs90)])))) (k186 xs72))) (fun k95=>zI xs24 t80 (fun e96=>yZ e96 r63 (fun r101=>k95 r101.xSides))))) (jnW (fun (t269:Bool)=>ifW t269 (κ (xs28,false,xs20)) (jnW (fun ((xs445,xs449,xs453):((List zU)×(List zU)×(List zB)))=>jnW (fun (t519:Bool)=>ifW t519 (κ (xs445,false,xs453)) (jo t32 1 (fun t521=>nx33 (xs453,xs449,xs445,t521)))) (fun k520=>xd xs449 (fun r457=>ifW (!r457) (k520 true) (xd xs445 (fun r458=>ifW (!r458) (k520 true) (k520 (decide (60<(xs453.length:Int))))))))) (fun k456=>jnW (fun (t331:Bool)=>ifW t331 (jd (fun (nx338:((List zB)×Int)→Prop) ((xs334,t337):((List zB)×Int))=>ifW (decide (t337<(xs72.length:Int))) (jnW (fun (xs342:(List zB))=>jo t337 1 (fun t370=>nx338 (xs342,t370))) (fun k345=>zI xs72 t337 (fun e346=>jG xs334 ([(zB.mk e346 (decide (e46.xAction=1)))]) (fun _=>k345 (xs334++([(zB.mk e346 (decide (e46.xAction=1)))])))))) (k456 (xs28,xs77,xs334))) (xs20,0)) (ifW (decide (e46.xAction=4)) (jG xs28 xs72 (fun _=>k456 ((xs28++xs72),xs77,xs20))) (ifW (decide (e46.xAction=3)) (rec s_0 e46.xChain xs72 xs20 (fun (r374,r377,r378)=>ifW (!r377) (κ (xs28,false,r378)) (jG xs77 r374 (fun _=>k456 (xs28,(xs77++r374),r378))))) (jG xs77 xs72 (fun _=>k456 (xs28,(xs77++xs72),xs20)))))) (fun k332=>ifW (decide (e46.xAction=1)) (k332 (decide (e46.xAction=1))) (k332 (decide (e46.xAction=2))))))) (fun k270=>xd xs72 (fun r207=>ifW (!r207) (k270 true) (xd xs77 (fun r208=>k270 (!r208))))))) ([],[],0))))) (jG xs28 xs24 (fun _=>xd (xs28++xs24) (fun r524=>κ ((xs28++xs24),r524,xs20)))))) (out_3,in_2,[],0)
def yo:Nat→zS→Int→(List zU)→(List zB)→(((List zU)×Bool×(List zB))→Prop)→Prop
 | 0=>fun _ _ _ _ _=>False
 | n+1=>Ym (yo n)
def VZ (s_0:zS) (chain_1:Int) (in_2:(List zU)) (out_3:(List zB)) (κ:((List zU)×Bool×(List zB))→Prop):Prop:=∃ n,yo n s_0 chain_1 in_2 out_3 κ
def YR (s_0:zS) (κ:((List zB)×Bool)→Prop):Prop :=
 yc s_0 (fun r9=>yS r9 (fun r24=>ifW (!r24) (κ ([],false)) (XC (fun r25=>VZ r9 0 ([r25]) ([]) (fun (r35,r38,r39)=>ifW (!r38) (κ ([],false)) (κ (r39,true)))))))
def Zz (x_0:zU) (κ:zU→Prop):Prop :=
 xK x_0.xSides (fun r12=>κ (zU.mk r12))
def Xr (x_0:zB) (κ:zB→Prop):Prop :=
 Zz x_0.xWhere (fun r12=>κ (zB.mk r12 x_0.xAccept))
def xJ (list_0:(List zB)) (κ:(List zB)→Prop):Prop :=
 jd (fun (nx13:((List zB)×Int)→Prop) ((xs8,t12):((List zB)×Int))=>ifW (decide (t12<(list_0.length:Int))) (zI list_0 t12 (fun e14=>Xr e14 (fun r20=>jG xs8 ([r20]) (fun _=>jo t12 1 (fun t33=>nx13 ((xs8++([r20])),t33)))))) (κ xs8)) ([],0)
def ug (list_0:(List zB)) (κ:Bool→Prop):Prop :=
 jd (fun (nx4:Int→Prop) (t3:Int)=>ifW (decide (t3<(list_0.length:Int))) (zI list_0 t3 (fun e5=>ul e5.xWhere (fun r11=>ifW (!r11) (κ false) (jo t3 1 (fun t12=>nx4 t12))))) (κ (decide ((list_0.length:Int)≤60)))) 0
def XX (list_0:(List zB)) (rest_1:Bool) (κ:(List zB)→Prop):Prop :=
 xJ list_0 (fun r4=>ug r4 (fun r8=>ifW (!r8) (κ ([])) (jd (fun (nx13:Int→Prop) (t12:Int)=>jnW (fun (t77:Bool)=>ifW t77 (Y6 t12 1 (fun t79=>nx13 t79)) (yN r4 0 t12 (fun xs84=>jG ([]) xs84 (fun _=>κ (([])++xs84))))) (fun k78=>ifW (decide (0<t12)) (Y6 t12 1 (fun t14=>zI r4 t14 (fun e15=>k78 (decide (e15.xAccept=rest_1))))) (k78 false))) (r4.length:Int))))
def Zc (a_0:zU) (b_1:zU) (κ:Bool→Prop):Prop :=
 jnW (fun (t80:Bool)=>κ t80) (fun k81=>ul a_0 (fun r15=>ifW r15 (ul b_1 (fun r16=>ifW r16 (yj a_0 b_1 (fun r17=>k81 (decide ((r17.length:Int)=0)))) (k81 false))) (k81 false)))
def Yl (a_0:(List zd)) (b_1:(List zd)) (κ:Bool→Prop):Prop :=
 ifW (!(decide ((a_0.length:Int)=(b_1.length:Int)))) (κ false) (jd (fun (nx6:Int→Prop) (t5:Int)=>ifW (decide (t5<(a_0.length:Int))) (zI a_0 t5 (fun e7=>zI b_1 t5 (fun e9=>ifW (!(decide (e7=e9))) (κ false) (jo t5 1 (fun t11=>nx6 t11))))) (κ true)) 0)
def Uf (list_0:(List zd)) (s_1:zd) (κ:(List zd)→Prop):Prop :=
 jd (fun (nx16:(Int×Int×(List zd)×Bool×Int)→Prop) ((t8,t9,xs11,t14,t15):(Int×Int×(List zd)×Bool×Int))=>ifW (decide (t15<(list_0.length:Int))) (jnW (fun ((xs160,t163,t164,t165):((List zd)×Int×Int×Bool))=>jo t15 1 (fun t167=>nx16 (t163,t164,xs160,t165,t167))) (fun k166=>zI list_0 t15 (fun e17=>jo e17.xHi 1 (fun t21=>ifW (decide (t21<t8)) (jG xs11 ([e17]) (fun _=>k166 ((xs11++([e17])),t8,t9,t14))) (jo t9 1 (fun t26=>ifW (decide (t26<e17.xLo)) (jnW (fun ((xs91,t94):((List zd)×Bool))=>jG xs91 ([e17]) (fun _=>k166 ((xs91++([e17])),t8,t9,t94))) (fun k95=>ifW (!t14) (jG xs11 ([(zd.mk t8 t9)]) (fun _=>k95 ((xs11++([(zd.mk t8 t9)])),true))) (k95 (xs11,t14)))) (k166 (xs11,(min t8 e17.xLo),(max t9 e17.xHi),t14)))))))) (jnW (fun (xs232:(List zd))=>κ xs232) (fun k235=>ifW (!t14) (jG xs11 ([(zd.mk t8 t9)]) (fun _=>k235 (xs11++([(zd.mk t8 t9)])))) (k235 xs11)))) (s_1.xLo,s_1.xHi,[],false,0)
def Z0 (a_0:(List zd)) (b_1:(List zd)) (top_2:Int) (κ:(List zd)→Prop):Prop :=
 jnW (fun (t68:Bool)=>ifW t68 (κ ([])) (jG ([]) a_0 (fun _=>jd (fun (nx81:((List zd)×Int)→Prop) ((xs77,t80):((List zd)×Int))=>ifW (decide (t80<(b_1.length:Int))) (zI b_1 t80 (fun e82=>Uf xs77 e82 (fun r84=>jo t80 1 (fun t87=>nx81 (r84,t87))))) (ifW (decide (40<(xs77.length:Int))) (κ ([])) (κ xs77))) ((([])++a_0),0)))) (fun k69=>uY a_0 top_2 (fun r6=>ifW (!r6) (k69 true) (uY b_1 top_2 (fun r7=>k69 (!r7)))))
def yG (a_0:zU) (b_1:zU) (κ:(zU×Bool)→Prop):Prop :=
 jnW (fun (t79:Bool)=>ifW t79 (κ ((zU.mk ([])),false)) (Zc a_0 b_1 (fun r82=>ifW r82 (Zz b_1 (fun r83=>κ (r83,true))) (Zc b_1 a_0 (fun r90=>ifW r90 (Zz a_0 (fun r91=>κ (r91,true))) (jd (fun (nx100:(Int×Int)→Prop) ((t98,t99):(Int×Int))=>ifW (decide (t99<4)) (jnW (fun (t174:Int)=>jo t99 1 (fun t176=>nx100 (t174,t176))) (fun k175=>zI a_0.xSides t99 (fun e101=>zI b_1.xSides t99 (fun e107=>Yl e101 e107 (fun r113=>ifW (!r113) (ifW (decide (0≤t98)) (κ ((zU.mk ([])),false)) (k175 t99)) (k175 t98)))))) (xK a_0.xSides (fun r177=>zI a_0.xSides t98 (fun e186=>zI b_1.xSides t98 (fun e192=>x5 t98 (fun r198=>Z0 e186 e192 r198 (fun r199=>zI r177 t98 (fun e202=>zI (r177.set (t98).toNat r199) t98 (fun e209=>ifW (decide ((e209.length:Int)=0)) (κ ((zU.mk ([])),false)) (κ ((zU.mk (r177.set (t98).toNat r199)),true))))))))))) ((-1),0))))))) (fun k80=>ul a_0 (fun r17=>ifW (!r17) (k80 true) (ul b_1 (fun r18=>k80 (!r18)))))
def Yq (list_0:(List zB)) (κ:(Int×zB)→Prop):Prop :=
 jd (fun (nx6:Int→Prop) (t5:Int)=>jo t5 1 (fun t7=>ifW (decide (t7<(list_0.length:Int))) (jnW (fun ((xs8,t12):((List (List zd))×Bool))=>jnW (fun (t103:Bool)=>ifW t103 (zI list_0 t5 (fun e108=>κ (t5,(zB.mk (zU.mk xs8) e108.xAccept)))) (jo t5 1 (fun t110=>nx6 t110))) (fun k104=>ifW t12 (zI list_0 t5 (fun e38=>jo t5 1 (fun t40=>zI list_0 t40 (fun e41=>k104 (decide (e38.xAccept=e41.xAccept)))))) (k104 false))) (fun k13=>zI list_0 t5 (fun e14=>zI list_0 (w64 (t5+1)) (fun e19=>yG e14.xWhere e19.xWhere (fun (r24,r26)=>k13 (r24.xSides,r26)))))) (κ ((-1),(zB.mk (zU.mk ([])) false))))) 0
def ZY (list_0:(List zB)) (κ:(List zB)→Prop):Prop :=
 xJ list_0 (fun r4=>ug r4 (fun r8=>ifW (!r8) (κ ([])) (jG ([]) r4 (fun _=>jd (fun (nx22:(List zB)→Prop) (xs19:(List zB))=>Yq xs19 (fun (r23,r24)=>ifW (decide (r23<0)) (κ xs19) (jo r23 2 (fun t35=>yN xs19 t35 (xs19.length:Int) (fun xs37=>jG ([]) xs37 (fun _=>jnW (fun (xs49:(List zB))=>nx22 xs49) (fun k52=>yN xs19 0 r23 (fun xs56=>jG ([]) xs56 (fun _=>jG (([])++xs56) ([r24]) (fun _=>jG ((([])++xs56)++([r24])) (([])++xs37) (fun _=>k52 (((([])++xs56)++([r24]))++(([])++xs37))))))))))))) (([])++r4)))))
def Yf (b_0:zU) (list_1:(List zU)) (κ:((List zU)×Bool)→Prop):Prop :=
 jnW (fun (xs79:(List zU))=>jd (fun (nx88:((List zU)×Int)→Prop) ((xs84,t87):((List zU)×Int))=>ifW (decide (t87<(list_1.length:Int))) (jd (fun (nx97:((List zU)×Int)→Prop) ((xs93,t96):((List zU)×Int))=>ifW (decide (t96<(xs84.length:Int))) (zI xs84 t96 (fun e98=>zI list_1 t87 (fun e100=>yj e98 e100 (fun r112=>jG xs93 r112 (fun _=>jo t96 1 (fun t117=>nx97 ((xs93++r112),t117))))))) (xd xs93 (fun r118=>ifW (!r118) (κ ([],false)) (jo t87 1 (fun t122=>nx88 (xs93,t122)))))) ([],0)) (κ (xs84,true))) (xs79,0)) (fun k82=>u9 b_0 (fun r14=>ifW (!r14) (jG ([]) ([b_0]) (fun _=>k82 (([])++([b_0])))) (k82 ([]))))
def Xw (list_0:(List zB)) (κ:(List zU)→Prop):Prop :=
 xJ list_0 (fun r4=>jd (fun (nx16:((List zU)×Int)→Prop) ((xs12,t15):((List zU)×Int))=>jnW (fun (t78:Bool)=>ifW t78 (zI r4 t15 (fun e80=>jG xs12 ([e80.xWhere]) (fun _=>jo t15 1 (fun t95=>nx16 ((xs12++([e80.xWhere])),t95))))) (κ xs12)) (fun k79=>ifW (decide (t15<(r4.length:Int))) (ug r4 (fun r17=>k79 r17)) (k79 false))) ([],0))
def Yi (list_0:(List zB)) (k_1:Int) (κ:Bool→Prop):Prop :=
 zI list_0 k_1 (fun e3=>yN list_0 0 k_1 (fun xs10=>Xw xs10 (fun r13=>Yf e3.xWhere r13 (fun (r16,r19)=>jnW (fun (t80:Bool)=>κ t80) (fun k81=>ifW r19 (k81 (decide ((r16.length:Int)=0))) (k81 false))))))
def XQ (list_0:(List zB)) (κ:(List zB)→Prop):Prop :=
 xJ list_0 (fun r4=>jd (fun (nx18:((List zB)×(List zB)×Int)→Prop) ((xs11,xs14,t17):((List zB)×(List zB)×Int))=>jnW (fun (t80:Bool)=>ifW t80 (jnW (fun (xs158:(List zB))=>jo t17 1 (fun t162=>nx18 (xs11,xs158,t162))) (fun k161=>Yi xs11 t17 (fun r82=>ifW (!r82) (zI xs11 t17 (fun e83=>jG xs14 ([e83]) (fun _=>k161 (xs14++([e83]))))) (k161 xs14)))) (κ xs14)) (fun k81=>ifW (decide (t17<(xs11.length:Int))) (ug xs11 (fun r19=>k81 r19)) (k81 false))) (r4,[],0))
def Yn (list_0:(List zB)) (rest_1:Bool) (κ:(List zB)→Prop):Prop :=
 xJ list_0 (fun r4=>ug r4 (fun r8=>ifW (!r8) (κ ([])) (jG ([]) r4 (fun _=>jd (fun (nx22:(List zB)→Prop) (xs19:(List zB))=>XQ xs19 (fun r23=>ZY r23 (fun r26=>XX r26 rest_1 (fun r29=>ifW (decide ((r29.length:Int)=(xs19.length:Int))) (κ r29) (nx22 r29))))) (([])++r4)))))
def Xf (s_0:zS) (κ:((List zB)×Bool)→Prop):Prop :=
 yc s_0 (fun r9=>YR r9 (fun (r16,r19)=>ifW (!r19) (κ ([],false)) (Yn r16 r9.xAccept (fun r23=>κ (r23,true)))))
def yX (s_0:za) (κ:zU→Prop):Prop :=
 Vz ([]:(List zd)) 4 4 (fun xs26=>jd (fun (nx55:((List (List zd))×Int)→Prop) ((xs50,t54):((List (List zd))×Int))=>ifW (decide (t54<4)) (zI ([s_0.x0,s_0.x1,s_0.x2,s_0.x3]) t54 (fun e57=>jG ([]) e57 (fun _=>zI xs50 t54 (fun e66=>jo t54 1 (fun t73=>nx55 ((xs50.set (t54).toNat (([])++e57)),t73)))))) (κ (zU.mk xs50))) (xs26,0))
def XY (list_0:(List zl)) (κ:(List zB)→Prop):Prop :=
 Vz ((zB.mk (zU.mk ([])) false):zB) 0 (list_0.length:Int) (fun xs5=>jd (fun (nx14:((List zB)×Int)→Prop) ((xs9,t13):((List zB)×Int))=>ifW (decide (t13<(list_0.length:Int))) (zI list_0 t13 (fun e15=>yX e15.xWhere (fun r44=>jG xs9 ([(zB.mk r44 e15.xAccept)]) (fun _=>jo t13 1 (fun t57=>nx14 ((xs9++([(zB.mk r44 e15.xAccept)])),t57)))))) (κ xs9)) (xs5,0))
def Zb (s_0:zS) (κ:((List zB)×Bool)→Prop):Prop :=
 yT s_0 (fun (r9,r12)=>ifW (!r12) (κ ([],false)) (XY r9 (fun r14=>κ (r14,true))))
def Ys (a_0:(List jh)) (left_1:Int) (κ:Int→Prop):Prop :=
 Y6 left_1 (a_0.length:Int) (fun t3=>ifW (decide (t3<0)) (κ (-1)) (κ t3))
def YQ (a_0:zz) (left_1:Int) (κ:Int→Prop):Prop :=
 Ys a_0.xTests left_1 (fun r8=>ifW (decide (r8<0)) (κ (-1)) (κ r8))
def Yz (a_0:(List zz)) (left_1:Int) (κ:Int→Prop):Prop :=
 Y6 left_1 (a_0.length:Int) (fun t3=>ifW (decide (t3<0)) (κ (-1)) (jd (fun (nx6:(Int×Int)→Prop) ((t4,t5):(Int×Int))=>ifW (decide (t5<(a_0.length:Int))) (zI a_0 t5 (fun e7=>YQ e7 t4 (fun r13=>ifW (decide (r13<0)) (κ (-1)) (jo t5 1 (fun t14=>nx6 (r13,t14)))))) (κ t4)) (t3,0)))
def XT (a_0:(List (List zz))) (left_1:Int) (κ:Int→Prop):Prop :=
 Y6 left_1 (a_0.length:Int) (fun t3=>ifW (decide (t3<0)) (κ (-1)) (jd (fun (nx6:(Int×Int)→Prop) ((t4,t5):(Int×Int))=>ifW (decide (t5<(a_0.length:Int))) (zI a_0 t5 (fun e7=>Yz e7 t4 (fun r13=>ifW (decide (r13<0)) (κ (-1)) (jo t5 1 (fun t14=>nx6 (r13,t14)))))) (κ t4)) (t3,0)))
def Xk (a_0:zS) (left_1:Int) (κ:Int→Prop):Prop :=
 XT a_0.xChains left_1 (fun r8=>ifW (decide (r8<0)) (κ (-1)) (κ r8))
def UN (a_0:jh) (κ:jh→Prop):Prop :=
 κ a_0
def Yh (a_0:(List jh)) (κ:(List jh)→Prop):Prop :=
 Vz ((jh.mk 0 0 0 false):jh) (a_0.length:Int) (a_0.length:Int) (fun xs5=>jd (fun (nx10:((List jh)×Int)→Prop) ((xs7,t9):((List jh)×Int))=>ifW (decide (t9<(a_0.length:Int))) (zI a_0 t9 (fun e11=>UN e11 (fun r13=>zI xs7 t9 (fun e14=>jo t9 1 (fun t17=>nx10 ((xs7.set (t9).toNat r13),t17)))))) (κ xs7)) (xs5,0))
def XJ (a_0:zz) (κ:zz→Prop):Prop :=
 Yh a_0.xTests (fun r12=>κ (zz.mk r12 a_0.xAction a_0.xChain))
def Xd (a_0:(List zz)) (κ:(List zz)→Prop):Prop :=
 Vz ((zz.mk ([]) 0 0):zz) (a_0.length:Int) (a_0.length:Int) (fun xs5=>jd (fun (nx12:((List zz)×Int)→Prop) ((xs8,t11):((List zz)×Int))=>ifW (decide (t11<(a_0.length:Int))) (zI a_0 t11 (fun e13=>XJ e13 (fun r19=>zI xs8 t11 (fun e22=>jo t11 1 (fun t29=>nx12 ((xs8.set (t11).toNat r19),t29)))))) (κ xs8)) (xs5,0))
def XS (a_0:(List (List zz))) (κ:(List (List zz))→Prop):Prop :=
 Vz ([]:(List zz)) (a_0.length:Int) (a_0.length:Int) (fun xs5=>jd (fun (nx12:((List (List zz))×Int)→Prop) ((xs8,t11):((List (List zz))×Int))=>ifW (decide (t11<(a_0.length:Int))) (zI a_0 t11 (fun e13=>Xd e13 (fun r19=>zI xs8 t11 (fun e23=>jo t11 1 (fun t30=>nx12 ((xs8.set (t11).toNat r19),t30)))))) (κ xs8)) (xs5,0))
def uK (a_0:zS) (κ:zS→Prop):Prop :=
 XS a_0.xChains (fun r12=>κ (zS.mk r12 a_0.xAccept))
def XK (a_0:jh) (b_1:jh) (κ:Bool→Prop):Prop :=
 ifW (!(decide (a_0.xField=b_1.xField))) (κ false) (ifW (!(decide (a_0.xLo=b_1.xLo))) (κ false) (ifW (!(decide (a_0.xHi=b_1.xHi))) (κ false) (ifW (!(decide (a_0.xNot=b_1.xNot))) (κ false) (κ true))))
def Yd (a_0:(List jh)) (b_1:(List jh)) (κ:Bool→Prop):Prop :=
 ifW (!(decide ((a_0.length:Int)=(b_1.length:Int)))) (κ false) (jd (fun (nx6:Int→Prop) (t5:Int)=>ifW (decide (t5<(a_0.length:Int))) (zI a_0 t5 (fun e7=>zI b_1 t5 (fun e9=>XK e7 e9 (fun r11=>ifW (!r11) (κ false) (jo t5 1 (fun t12=>nx6 t12)))))) (κ true)) 0)
def YV (a_0:zz) (b_1:zz) (κ:Bool→Prop):Prop :=
 Yd a_0.xTests b_1.xTests (fun r15=>ifW (!r15) (κ false) (ifW (!(decide (a_0.xAction=b_1.xAction))) (κ false) (ifW (!(decide (a_0.xChain=b_1.xChain))) (κ false) (κ true))))
def Yt (a_0:(List zz)) (b_1:(List zz)) (κ:Bool→Prop):Prop :=
 ifW (!(decide ((a_0.length:Int)=(b_1.length:Int)))) (κ false) (jd (fun (nx6:Int→Prop) (t5:Int)=>ifW (decide (t5<(a_0.length:Int))) (zI a_0 t5 (fun e7=>zI b_1 t5 (fun e13=>YV e7 e13 (fun r19=>ifW (!r19) (κ false) (jo t5 1 (fun t20=>nx6 t20)))))) (κ true)) 0)
def XW (a_0:(List (List zz))) (b_1:(List (List zz))) (κ:Bool→Prop):Prop :=
 ifW (!(decide ((a_0.length:Int)=(b_1.length:Int)))) (κ false) (jd (fun (nx6:Int→Prop) (t5:Int)=>ifW (decide (t5<(a_0.length:Int))) (zI a_0 t5 (fun e7=>zI b_1 t5 (fun e13=>Yt e7 e13 (fun r19=>ifW (!r19) (κ false) (jo t5 1 (fun t20=>nx6 t20)))))) (κ true)) 0)
def Xn (a_0:zS) (b_1:zS) (κ:Bool→Prop):Prop :=
 XW a_0.xChains b_1.xChains (fun r15=>ifW (!r15) (κ false) (ifW (!(decide (a_0.xAccept=b_1.xAccept))) (κ false) (κ true)))
def UW (a_0:zd) (b_1:zd) (κ:Bool→Prop):Prop :=
 ifW (!(decide (a_0.xLo=b_1.xLo))) (κ false) (ifW (!(decide (a_0.xHi=b_1.xHi))) (κ false) (κ true))
def Yc (a_0:(List zd)) (b_1:(List zd)) (κ:Bool→Prop):Prop :=
 ifW (!(decide ((a_0.length:Int)=(b_1.length:Int)))) (κ false) (jd (fun (nx6:Int→Prop) (t5:Int)=>ifW (decide (t5<(a_0.length:Int))) (zI a_0 t5 (fun e7=>zI b_1 t5 (fun e9=>UW e7 e9 (fun r11=>ifW (!r11) (κ false) (jo t5 1 (fun t12=>nx6 t12)))))) (κ true)) 0)
def XU (a_0:(List (List zd))) (b_1:(List (List zd))) (κ:Bool→Prop):Prop :=
 ifW (!(decide ((a_0.length:Int)=(b_1.length:Int)))) (κ false) (jd (fun (nx6:Int→Prop) (t5:Int)=>ifW (decide (t5<(a_0.length:Int))) (zI a_0 t5 (fun e7=>zI b_1 t5 (fun e13=>Yc e7 e13 (fun r19=>ifW (!r19) (κ false) (jo t5 1 (fun t20=>nx6 t20)))))) (κ true)) 0)
def Vq (a_0:zU) (b_1:zU) (κ:Bool→Prop):Prop :=
 XU a_0.xSides b_1.xSides (fun r15=>ifW (!r15) (κ false) (κ true))
def UO (a_0:zB) (b_1:zB) (κ:Bool→Prop):Prop :=
 Vq a_0.xWhere b_1.xWhere (fun r15=>ifW (!r15) (κ false) (ifW (!(decide (a_0.xAccept=b_1.xAccept))) (κ false) (κ true)))
def Zi (a_0:(List zB)) (b_1:(List zB)) (κ:Bool→Prop):Prop :=
 ifW (!(decide ((a_0.length:Int)=(b_1.length:Int)))) (κ false) (jd (fun (nx6:Int→Prop) (t5:Int)=>ifW (decide (t5<(a_0.length:Int))) (zI a_0 t5 (fun e7=>zI b_1 t5 (fun e13=>UO e7 e13 (fun r19=>ifW (!r19) (κ false) (jo t5 1 (fun t20=>nx6 t20)))))) (κ true)) 0)
def Xt (a_0:(List jh)) (k_1:Int) (κ:(Int×(List jh))→Prop):Prop :=
 jd (fun (nx7:((List jh)×Int×Int)→Prop) ((xs3,t5,t6):((List jh)×Int×Int))=>ifW (decide (t6<(xs3.length:Int))) (zI xs3 t6 (fun e8=>jo t5 1 (fun t11=>zI (xs3.set (t6).toNat (jh.mk t5 e8.xLo e8.xHi e8.xNot)) t6 (fun e12=>jo t11 1 (fun t15=>zI ((xs3.set (t6).toNat (jh.mk t5 e8.xLo e8.xHi e8.xNot)).set (t6).toNat (jh.mk e12.xField t11 e12.xHi e12.xNot)) t6 (fun e16=>jo t15 1 (fun t19=>ziF t19 3 (fun t20=>zI (((xs3.set (t6).toNat (jh.mk t5 e8.xLo e8.xHi e8.xNot)).set (t6).toNat (jh.mk e12.xField t11 e12.xHi e12.xNot)).set (t6).toNat (jh.mk e16.xField e16.xLo t15 e16.xNot)) t6 (fun e21=>jo t19 1 (fun t24=>jo t6 1 (fun t25=>nx7 (((((xs3.set (t6).toNat (jh.mk t5 e8.xLo e8.xHi e8.xNot)).set (t6).toNat (jh.mk e12.xField t11 e12.xHi e12.xNot)).set (t6).toNat (jh.mk e16.xField e16.xLo t15 e16.xNot)).set (t6).toNat (jh.mk e21.xField e21.xLo e21.xHi (decide (t20=0)))),t24,t25)))))))))))) (κ (t5,xs3))) (a_0,k_1,0)
def Xp (a_0:(List zz)) (k_1:Int) (κ:(Int×(List zz))→Prop):Prop :=
 jd (fun (nx9:((List zz)×Int×Int)→Prop) ((xs4,t7,t8):((List zz)×Int×Int))=>ifW (decide (t8<(xs4.length:Int))) (zI xs4 t8 (fun e10=>Xt e10.xTests t7 (fun (r16,r17)=>zI (xs4.set (t8).toNat (zz.mk r17 e10.xAction e10.xChain)) t8 (fun e21=>jo r16 1 (fun t24=>zI ((xs4.set (t8).toNat (zz.mk r17 e10.xAction e10.xChain)).set (t8).toNat (zz.mk e21.xTests r16 e21.xChain)) t8 (fun e25=>jo t24 1 (fun t28=>jo t8 1 (fun t29=>nx9 ((((xs4.set (t8).toNat (zz.mk r17 e10.xAction e10.xChain)).set (t8).toNat (zz.mk e21.xTests r16 e21.xChain)).set (t8).toNat (zz.mk e25.xTests e25.xAction t24)),t28,t29))))))))) (κ (t7,xs4))) (a_0,k_1,0)
def ZW (a_0:(List (List zz))) (k_1:Int) (κ:(Int×(List (List zz)))→Prop):Prop :=
 jd (fun (nx9:((List (List zz))×Int×Int)→Prop) ((xs4,t7,t8):((List (List zz))×Int×Int))=>ifW (decide (t8<(xs4.length:Int))) (zI xs4 t8 (fun e10=>Xp e10 t7 (fun (r16,r17)=>jo t8 1 (fun t20=>nx9 ((xs4.set (t8).toNat r17),r16,t20))))) (κ (t7,xs4))) (a_0,k_1,0)
def Zy (a_0_Chains:(List (List zz))) (a_0_Accept:Bool) (k_1:Int) (κ:(Int×(List (List zz)))→Prop):Prop :=
 ZW a_0_Chains k_1 (fun (r6,r7)=>κ (r6,r7))
def Xm (a_0:(List zd)) (k_1:Int) (κ:(Int×(List zd))→Prop):Prop :=
 jd (fun (nx7:((List zd)×Int×Int)→Prop) ((xs3,t5,t6):((List zd)×Int×Int))=>ifW (decide (t6<(xs3.length:Int))) (zI xs3 t6 (fun e8=>jo t5 1 (fun t11=>zI (xs3.set (t6).toNat (zd.mk t5 e8.xHi)) t6 (fun e12=>jo t11 1 (fun t15=>jo t6 1 (fun t16=>nx7 (((xs3.set (t6).toNat (zd.mk t5 e8.xHi)).set (t6).toNat (zd.mk e12.xLo t11)),t15,t16))))))) (κ (t5,xs3))) (a_0,k_1,0)
def ZV (a_0:(List (List zd))) (k_1:Int) (κ:(Int×(List (List zd)))→Prop):Prop :=
 jd (fun (nx9:((List (List zd))×Int×Int)→Prop) ((xs4,t7,t8):((List (List zd))×Int×Int))=>ifW (decide (t8<(xs4.length:Int))) (zI xs4 t8 (fun e10=>Xm e10 t7 (fun (r16,r17)=>jo t8 1 (fun t19=>nx9 ((xs4.set (t8).toNat r17),r16,t19))))) (κ (t7,xs4))) (a_0,k_1,0)
def Xv (a_0:(List zB)) (k_1:Int) (κ:(Int×(List zB))→Prop):Prop :=
 jd (fun (nx9:((List zB)×Int×Int)→Prop) ((xs4,t7,t8):((List zB)×Int×Int))=>ifW (decide (t8<(xs4.length:Int))) (zI xs4 t8 (fun e10=>ZV e10.xWhere.xSides t7 (fun (r16,r17)=>ziF r16 3 (fun t20=>zI (xs4.set (t8).toNat (zB.mk (zU.mk r17) e10.xAccept)) t8 (fun e23=>jo r16 1 (fun t26=>jo t8 1 (fun t27=>nx9 (((xs4.set (t8).toNat (zB.mk (zU.mk r17) e10.xAccept)).set (t8).toNat (zB.mk e23.xWhere (decide (t20=0)))),t26,t27)))))))) (κ (t7,xs4))) (a_0,k_1,0)
def Xs (a_0:(List zd)) (k_1:Int) (κ:Int→Prop):Prop :=
 jd (fun (nx5:(Int×Int)→Prop) ((t3,t4):(Int×Int))=>ifW (decide (t4<(a_0.length:Int))) (zI a_0 t4 (fun e6=>ifW (!(decide (e6.xLo=t3))) (κ (-1)) (jo t3 1 (fun t8=>zI a_0 t4 (fun e9=>ifW (!(decide (e9.xHi=t8))) (κ (-1)) (jo t8 1 (fun t11=>jo t4 1 (fun t12=>nx5 (t11,t12))))))))) (κ t3)) (k_1,0)
def ZO (a_0:(List (List zd))) (k_1:Int) (κ:Int→Prop):Prop :=
 jd (fun (nx5:(Int×Int)→Prop) ((t3,t4):(Int×Int))=>ifW (decide (t4<(a_0.length:Int))) (zI a_0 t4 (fun e6=>Xs e6 t3 (fun r12=>ifW (decide (r12<0)) (κ (-1)) (jo t4 1 (fun t13=>nx5 (r12,t13)))))) (κ t3)) (k_1,0)
def Zd (a_0:(List zB)) (k_1:Int) (κ:Int→Prop):Prop :=
 jd (fun (nx5:(Int×Int)→Prop) ((t3,t4):(Int×Int))=>ifW (decide (t4<(a_0.length:Int))) (zI a_0 t4 (fun e6=>ZO e6.xWhere.xSides t3 (fun r12=>ifW (decide (r12<0)) (κ (-1)) (zI a_0 t4 (fun e13=>ziF r12 3 (fun t15=>ifW (!(decide (e13.xAccept=(decide (t15=0))))) (κ (-1)) (jo r12 1 (fun t16=>jo t4 1 (fun t17=>nx5 (t16,t17)))))))))) (κ t3)) (k_1,0)
def ZM (p0:zS) (κ:Bool→Prop):Prop :=
 Xk p0 1048576 (fun r8=>ifW (decide (r8<0)) (κ true) (uK p0 (fun r9=>Xf r9 (fun (r13,r16)=>uK p0 (fun r17=>Zb r17 (fun (r26,r30)=>jnW (fun (t92:Bool)=>ifW t92 (κ false) (uK p0 (fun r94=>Xn r17 r94 (fun r98=>ifW (!r98) (κ false) (Zy r17.xChains r17.xAccept 1 (fun (r99,r100)=>jnW (fun (t164:Bool)=>ifW t164 (κ false) (Xv r26 1 (fun (r166,r167)=>Zd r167 1 (fun r170=>ifW (decide (r170<0)) (κ false) (ifW (!(decide (r170=r166))) (κ false) (uK p0 (fun r171=>Zb r171 (fun (r175,r179)=>jnW (fun (t241:Bool)=>ifW t241 (κ false) (Zd r167 1 (fun r243=>ifW (decide (r243<0)) (κ false) (ifW (!(decide (r243=r166))) (κ false) (κ true))))) (fun k242=>Zi r175 r13 (fun r180=>ifW (!r180) (k242 true) (k242 (!(decide (r179=r16)))))))))))))) (fun k165=>ifW (decide (r99<0)) (k165 true) (Zi r26 r13 (fun r103=>ifW (!r103) (k165 true) (k165 (!(decide (r30=r16))))))))))))) (fun k93=>Zi r26 r13 (fun r31=>ifW (!r31) (k93 true) (k93 (!(decide (r30=r16))))))))))))
end
section
open Go Go.Proofs
def NF (l:List zd):Prop:=(∀ s∈l,s.xLo≤s.xHi)∧l.Pairwise (fun a b=>a.xHi+1<b.xLo)
def hv (l:List zd) (x:Int):Prop:=∃ s∈l,s.xLo≤x∧x≤s.xHi
theorem zgo:NF []:=⟨by simp,by simp⟩
theorem yn (x:Int):¬ hv [] x:=by simp [hv]
theorem xH (s:zd) (l:List zd) (x:Int):hv (s :: l) x↔(s.xLo≤x∧x≤s.xHi)∨hv l x:=by simp [hv]
theorem UT (l m:List zd) (x:Int):hv (l++m) x↔hv l x∨hv m x:=by
 simp only [hv,List.mem_append]
 constructor
 ·rintro ⟨s,h | h,e⟩
  ·exact .inl ⟨s,h,e⟩
  ·exact .inr ⟨s,h,e⟩
 ·rintro (⟨s,h,e⟩ | ⟨s,h,e⟩)
  ·exact ⟨s,.inl h,e⟩
  ·exact ⟨s,.inr h,e⟩
theorem UJ {s:zd} {l:List zd} (h:NF (s :: l)):NF l:=⟨fun t ht=>h.1 t (List.mem_cons_of_mem _ ht),(List.pairwise_cons.1 h.2).2⟩
theorem zbG {s:zd} {l:List zd} (h:NF (s :: l)) {x:Int} (hx:hv l x):s.xHi+1<x:=by
 obtain ⟨t,ht,e1,_⟩:=hx
 have:=(List.pairwise_cons.1 h.2).1 t ht
 omega
theorem zbm {s:zd} {l:List zd} (h:NF (s :: l)) {x:Int} (hx:hv (s :: l) x):s.xLo≤x:=by
 rcases (xH _ _ _).1 hx with e | e
 ·exact e.1
 ·have:=zbG h e
  have:=h.1 s (by simp)
  omega
theorem UQ {l m:List zd} (hl:NF l) (hm:NF m) (h:∀ s∈l,∀ t∈m,s.xHi+1<t.xLo):NF (l++m) :=
 ⟨fun s hs=>(List.mem_append.1 hs).elim (hl.1 s) (hm.1 s),List.pairwise_append.2 ⟨hl.2,hm.2,h⟩⟩
theorem Uo {s:zd} (h:s.xLo≤s.xHi):NF [s]:=⟨by simpa using h,by simp⟩
theorem zjP:∀ {a b:List zd},NF a→NF b→(∀ x,hv a x↔hv b x)→a=b
 | [],[],_,_,_=>rfl
 | [],t :: b,_,hb,h=>absurd ((h t.xLo).2 ((xH _ _ _).2 (.inl ⟨Int.le_refl _,hb.1 t (by simp)⟩))) (yn _)
 | s :: a,[],ha,_,h=>absurd ((h s.xLo).1 ((xH _ _ _).2 (.inl ⟨Int.le_refl _,ha.1 s (by simp)⟩))) (yn _)
 | s :: a,t :: b,ha,hb,h=>by
  have h1:=ha.1 s (by simp)
  have h2:=hb.1 t (by simp)
  have l1:t.xLo≤s.xLo:=zbm hb ((h _).1 ((xH _ _ _).2 (.inl ⟨Int.le_refl _,h1⟩)))
  have l2:s.xLo≤t.xLo:=zbm ha ((h _).2 ((xH _ _ _).2 (.inl ⟨Int.le_refl _,h2⟩)))
  have u1:¬ s.xHi<t.xHi:=fun hlt=>by
   have:=(h (s.xHi+1)).2 ((xH _ _ _).2 (.inl ⟨by omega,by omega⟩))
   rcases (xH _ _ _).1 this with e | e
   ·omega
   ·have:=zbG ha e;omega
  have u2:¬ t.xHi<s.xHi:=fun hlt=>by
   have:=(h (t.xHi+1)).1 ((xH _ _ _).2 (.inl ⟨by omega,by omega⟩))
   rcases (xH _ _ _).1 this with e | e
   ·omega
   ·have:=zbG hb e;omega
  have e:s=t:=by
   apply zd.ext <;> omega
  subst e
  rw [zjP (UJ ha) (UJ hb) (fun x=>?_)]
  have:=h x
  rw [xH,xH] at this
  constructor
  ·intro hx
   have g:=zbG ha hx
   rcases this.1 (.inr hx) with e | e
   ·omega
   ·exact e
  ·intro hx
   have g:=zbG hb hx
   rcases this.2 (.inr hx) with e | e
   ·omega
   ·exact e
def zkI:List (Int×Int)→List zd→Int→Int→List zd
 | [],out,_,_=>out
 | e :: es,out,d,st=>zkI es (if d+e.2=0 then out++[zd.mk (if d=0 then e.1 else st) (e.1 - 1)] else out) (d+e.2) (if d=0 then e.1 else st)
def stp (l:List (Int×Int)):Int:=(l.map (·.2)).sum
def V1:List zd→zd→List zd→Bool→List zd×zd×Bool
 | [],s,out,pl=>(out,s,pl)
 | x :: xs,s,out,pl =>
  if x.xHi+1<s.xLo then V1 xs s (out++[x]) pl
  else if s.xHi+1<x.xLo then V1 xs s ((if pl then out else out++[s])++[x]) true
  else V1 xs (zd.mk (min s.xLo x.xLo) (max s.xHi x.xHi)) out pl
def zbc (l:List zd) (s:zd):List zd :=
 match V1 l s [] false with
 | (out,s',pl)=>if pl then out else out++[s']
theorem zcQ:∀ (l:List zd) (s:zd) (out:List zd) (pl:Bool),NF l→s.xLo≤s.xHi→NF out →
  (pl=false→(∀ t∈out,t.xHi+1<s.xLo)∧(∀ t∈out,∀ u∈l,t.xHi+1<u.xLo)) →
  (pl=true→(∀ t∈out,∀ u∈l,t.xHi+1<u.xLo)∧(∀ u∈l,s.xHi+1<u.xLo)∧s∈out) →
  NF (match V1 l s out pl with | (o,s',p)=>if p then o else o++[s'])∧∀ x,hv (match V1 l s out pl with | (o,s',p)=>if p then o else o++[s']) x↔hv out x∨hv l x∨(s.xLo≤x∧x≤s.xHi)
 | [],s,out,pl,hl,hs,ho,h0,h1=>by
  simp only [V1]
  cases pl with
  | true =>
   simp only [if_true]
   obtain ⟨_,_,hm⟩:=h1 rfl
   refine ⟨ho,fun x=>⟨.inl,?_⟩⟩
   rintro (q | q | q)
   ·exact q
   ·exact absurd q (yn x)
   ·exact ⟨s,hm,q⟩
  | false =>
   simp only [Bool.false_eq_true,if_false]
   obtain ⟨ha,_⟩:=h0 rfl
   refine ⟨UQ ho (Uo hs) (fun t ht u hu=>by simp at hu;subst hu;exact ha t ht),fun x=>?_⟩
   rw [UT,xH]
   simp [yn]
 | y :: l,s,out,pl,hl,hs,ho,h0,h1=>by
  have hy:=hl.1 y (by simp)
  have hgap:=(List.pairwise_cons.1 hl.2).1
  have hl':=UJ hl
  unfold V1
  by_cases c1:y.xHi+1<s.xLo
  ·rw [if_pos c1]
   have hpl:pl=false:=by
    cases pl with
    | false=>rfl
    | true=>have:=(h1 rfl).2.1 y (by simp);omega
   subst hpl
   obtain ⟨a1,a2⟩:=h0 rfl
   have ih:=zcQ l s (out++[y]) false hl' hs (UQ ho (Uo hy) (fun t ht u hu=>by simp at hu;subst hu;exact a2 t ht u (by simp)))
    (fun _=>⟨fun t ht=>by
     rcases List.mem_append.1 ht with q | q
     ·exact a1 t q
     ·simp at q;subst q;exact c1,fun t ht u hu=>by
     rcases List.mem_append.1 ht with q | q
     ·exact a2 t q u (by simp [hu])
     ·simp at q;subst q;exact hgap u hu⟩) (fun h=>by simp at h)
   refine ⟨ih.1,fun x=>?_⟩
   rw [ih.2 x,UT,xH,xH]
   simp only [yn,or_false]
   constructor
   ·rintro ((q | q) | q | q)
    ·exact .inl q
    ·exact .inr (.inl (.inl q))
    ·exact .inr (.inl (.inr q))
    ·exact .inr (.inr q)
   ·rintro (q | (q | q) | q)
    ·exact .inl (.inl q)
    ·exact .inl (.inr q)
    ·exact .inr (.inl q)
    ·exact .inr (.inr q)
  ·rw [if_neg c1]
   by_cases c2:s.xHi+1<y.xLo
   ·rw [if_pos c2]
    cases pl with
    | true =>
     simp only [if_true]
     obtain ⟨a1,a2,a3⟩:=h1 rfl
     have ih:=zcQ l s (out++[y]) true hl' hs (UQ ho (Uo hy) (fun t ht u hu=>by simp at hu;subst hu;exact a1 t ht u (by simp))) (fun h=>by simp at h)
      (fun _=>⟨fun t ht u hu=>by
       rcases List.mem_append.1 ht with q | q
       ·exact a1 t q u (by simp [hu])
       ·simp at q;subst q;exact hgap u hu,fun u hu=>a2 u (by simp [hu]),by simp [a3]⟩)
     refine ⟨ih.1,fun x=>?_⟩
     rw [ih.2 x,UT,xH,xH]
     simp only [yn,or_false]
     constructor
     ·rintro ((q | q) | q | q)
      ·exact .inl q
      ·exact .inr (.inl (.inl q))
      ·exact .inr (.inl (.inr q))
      ·exact .inr (.inr q)
     ·rintro (q | (q | q) | q)
      ·exact .inl (.inl q)
      ·exact .inl (.inr q)
      ·exact .inr (.inl q)
      ·exact .inr (.inr q)
    | false =>
     simp only [Bool.false_eq_true,if_false]
     obtain ⟨a1,a2⟩:=h0 rfl
     have n1:NF (out++[s]):=UQ ho (Uo hs) (fun t ht u hu=>by simp at hu;subst hu;exact a1 t ht)
     have ih:=zcQ l s ((out++[s])++[y]) true hl' hs (UQ n1 (Uo hy) (fun t ht u hu=>by
       simp at hu;subst hu
       rcases List.mem_append.1 ht with q | q
       ·exact a2 t q u (by simp)
       ·simp at q;subst q;exact c2)) (fun h=>by simp at h)
      (fun _=>⟨fun t ht u hu=>by
       have hg:=hgap u hu
       rcases List.mem_append.1 ht with q | q
       ·rcases List.mem_append.1 q with q | q
        ·exact a2 t q u (by simp [hu])
        ·simp at q;subst q;omega
       ·simp at q;subst q;exact hg,fun u hu=>by have:=hgap u hu;omega,by simp⟩)
     refine ⟨ih.1,fun x=>?_⟩
     rw [ih.2 x,UT,UT,xH,xH,xH]
     simp only [yn,or_false]
     constructor
     ·rintro (((q | q) | q) | q | q)
      ·exact .inl q
      ·exact .inr (.inr q)
      ·exact .inr (.inl (.inl q))
      ·exact .inr (.inl (.inr q))
      ·exact .inr (.inr q)
     ·rintro (q | (q | q) | q)
      ·exact .inl (.inl (.inl q))
      ·exact .inl (.inr q)
      ·exact .inr (.inl q)
      ·exact .inr (.inr q)
   ·rw [if_neg c2]
    have hpl:pl=false:=by
     cases pl with
     | false=>rfl
     | true=>have:=(h1 rfl).2.1 y (by simp);omega
    subst hpl
    obtain ⟨a1,a2⟩:=h0 rfl
    have ih:=zcQ l (zd.mk (min s.xLo y.xLo) (max s.xHi y.xHi)) out false hl' (by simp only;omega) ho
     (fun _=>⟨fun t ht=>by
      have:=a1 t ht;have:=a2 t ht y (by simp)
      simp only;omega,fun t ht u hu=>a2 t ht u (by simp [hu])⟩) (fun h=>by simp at h)
    refine ⟨ih.1,fun x=>?_⟩
    rw [ih.2 x,xH]
    simp only
    constructor
    ·rintro (q | q | q)
     ·exact .inl q
     ·exact .inr (.inl (.inr q))
     ·by_cases c3:y.xLo≤x∧x≤y.xHi
      ·exact .inr (.inl (.inl c3))
      ·exact .inr (.inr (by omega))
    ·rintro (q | (q | q) | q)
     ·exact .inl q
     ·exact .inr (.inr (by omega))
     ·exact .inr (.inl q)
     ·exact .inr (.inr (by omega))
theorem zhz {l:List zd} {s:zd} (hl:NF l) (hs:s.xLo≤s.xHi):NF (zbc l s)∧∀ x,hv (zbc l s) x↔hv l x∨(s.xLo≤x∧x≤s.xHi):=by
 have:=zcQ l s [] false hl hs zgo (fun _=>⟨by simp,by simp⟩) (fun h=>by simp at h)
 refine ⟨this.1,fun x=>?_⟩
 have:=this.2 x
 simp only [yn,false_or] at this
 exact this
theorem VT:∀ (xs l:List zd),NF l→(∀ s∈xs,s.xLo≤s.xHi)→NF (xs.foldl zbc l)∧∀ x,hv (xs.foldl zbc l) x↔hv l x∨hv xs x
 | [],l,hl,_=>⟨hl,fun x=>by simp [yn]⟩
 | s :: xs,l,hl,h=>by
  obtain ⟨n1,e1⟩:=zhz hl (h s (by simp))
  obtain ⟨n2,e2⟩:=VT xs (zbc l s) n1 (fun t ht=>h t (List.mem_cons_of_mem _ ht))
  refine ⟨n2,fun x=>?_⟩
  rw [List.foldl_cons,e2 x,e1 x,xH]
  constructor
  ·rintro ((q | q) | q)
   ·exact .inl q
   ·exact .inr (.inl q)
   ·exact .inr (.inr q)
  ·rintro (q | q | q)
   ·exact .inl (.inl q)
   ·exact .inl (.inr q)
   ·exact .inr q
end
section
theorem jt {A B:Prop} (h:A):ifW true A B:=⟨fun _=>h,(fun e=>by cases e)⟩
theorem jR {A B:Prop} (h:B):ifW false A B:=⟨(fun e=>by cases e),fun _=>h⟩
theorem zm {c:Bool} {A B:Prop} (ht:c=true→A) (hf:c=false→B):ifW c A B:=⟨ht,hf⟩
@[simp] theorem Us {A B:Prop}:ifW true A B=A:=propext ⟨fun h=>h.1 rfl,jt⟩
@[simp] theorem X9 {A B:Prop}:ifW false A B=B:=propext ⟨fun h=>h.2 rfl,jR⟩
theorem zx {x y:Int} {κ:Int→Prop} (h1:-9223372036854775808≤x+y) (h2:x+y≤9223372036854775807) (h:κ (x+y)):jo x y κ:=⟨⟨h1,h2⟩,h⟩
theorem ZU {x y:Int} {κ:Int→Prop} (h1:-9223372036854775808≤x - y) (h2:x - y≤9223372036854775807) (h:κ (x - y)):Y6 x y κ:=⟨⟨h1,h2⟩,h⟩
theorem zfl {x y:Int} {κ:Int→Prop} (h1:0≤x) (h2:x≤9223372036854775807) (h3:0<y) (h:κ (x % y)):ziF x y κ:=⟨h1,h3,⟨by omega,h2⟩,h⟩
theorem zo {α:Type} {xs:List α} {i:Int} {κ:α→Prop} (n:Nat) (hi:i=n) (hn:n<xs.length) (h:κ xs[n]):zI xs i κ:=by
 subst hi
 exact ⟨xs[n],by omega,by simp [hn],h⟩
theorem jj {α:Type} {xs ys:List α} {κ:List α→Prop} (h1:xs.length+ys.length≤4294967296) (h:κ (xs++ys)):jG xs ys κ:=⟨h1,h⟩
theorem Y2 {α:Type} {z:α} {n m:Int} {κ:List α→Prop} (k:Nat) (hn:n=k) (h1:n≤m) (h2:m≤4294967296) (h:κ (List.replicate k z)):Vz z n m κ:=by
 subst hn
 refine ⟨by omega,h1,?_,by simpa using h⟩
 unfold zcg
 omega
theorem zV {σ:Type} {F:(σ→Prop)→σ→Prop} (len:Nat) (pos:σ→Int) (I:Nat→σ→Prop) (hpos:∀ k s,I k s→pos s=k) (hle:∀ k s,I k s→k≤len)
  (h:∀ k s next,I k s→(k<len→∀ s',I (k+1) s'→next s')→F next s) {s:σ} (h0:I 0 s):jd F s:=by
 refine ZG (fun s=>∃ k,I k s) (fun s=>len - (pos s).toNat) (fun s next ⟨k,hk⟩ hn=>?_) ⟨0,h0⟩
 refine h k s next hk (fun hlt s' hs'=>hn s' ⟨k+1,hs'⟩ ?_)
 rw [hpos _ _ hk,hpos _ _ hs']
 omega
theorem zcu {σ:Type} {F:(σ→Prop)→σ→Prop} (k0 len:Nat) (pos:σ→Int) (I:Nat→σ→Prop) (hpos:∀ k s,I k s→pos s=k) (hle:∀ k s,I k s→k≤len)
  (h:∀ k s next,I k s→(k<len→∀ s',I (k+1) s'→next s')→F next s) {s:σ} (h0:I k0 s):jd F s:=by
 refine ZG (fun s=>∃ k,I k s) (fun s=>len - (pos s).toNat) (fun s next ⟨k,hk⟩ hn=>?_) ⟨k0,h0⟩
 refine h k s next hk (fun hlt s' hs'=>hn s' ⟨k+1,hs'⟩ ?_)
 rw [hpos _ _ hk,hpos _ _ hs']
 omega
theorem zb0 {α β:Type} (a:List α) (f:α→β) (hl:a.length≤4294967296) {κ:List β→Prop} (T:α→(β→Prop)→Prop) (hT:∀ x ψ,x∈a→ψ (f x)→T x ψ) (hκ:κ (a.map f)) {xs:List β} (hx:xs.length=a.length)
  (F:(List β×Int→Prop)→List β×Int→Prop)
  (hF:∀ nx xs t,(ifW (decide (t<(a.length:Int))) (zI a t (fun e=>T e (fun r=>zI xs t (fun _=>jo t 1 (fun u=>nx (xs.set t.toNat r,u)))))) (κ xs))→F nx (xs,t)):jd F (xs,0):=by
 refine zV a.length (fun s=>s.2) (fun k s=>s.2=(k:Int)∧k≤a.length∧s.1.length=a.length∧∀ i,i<k→s.1[i]?=(a.map f)[i]?) (fun k s h=>h.1) (fun k s h=>h.2.1) ?_ ⟨rfl,Nat.zero_le _,hx,fun i hi=>by omega⟩
 rintro k ⟨ys,t⟩ next ⟨rfl,hk,hy,hi⟩ hn
 simp only at hy hi
 refine hF _ _ _ (zm (fun hc=>?_) (fun hc=>?_))
 ·have hlt:k<a.length:=by simpa using hc
  refine zo k rfl hlt (hT _ _ (List.getElem_mem hlt) (zo k rfl (by omega) (zx (by omega) (by omega) (hn hlt _ ?_))))
  refine ⟨by simp,by omega,by simpa using hy,fun i hi'=>?_⟩
  simp only [Int.toNat_natCast]
  by_cases e:i=k
  ·subst e
   simp [hy,hlt]
  ·rw [List.getElem?_set_ne (by omega)]
   exact hi i (by omega)
 ·have hge:a.length≤k:=by simpa using hc
  have:ys=a.map f:=by
   apply List.ext_getElem?
   intro i
   by_cases h:i<k
   ·exact hi i h
   ·rw [List.getElem?_eq_none (by omega),List.getElem?_eq_none (by simp;omega)]
  rw [this];exact hκ
theorem zeX {α:Type} [DecidableEq α] (a b:List α) (hab:a.length=b.length) (hl:a.length≤4294967296) {κ:Bool→Prop} (T:α→α→Prop→Prop) (hT:∀ x y A,(x=y→A)→(x≠y→κ false)→T x y A) (hκ:κ (decide (a=b)))
  (F:(Int→Prop)→Int→Prop) (hF:∀ nx t,(ifW (decide (t<(a.length:Int))) (zI a t (fun x=>zI b t (fun y=>T x y (jo t 1 (fun u=>nx u))))) (κ true))→F nx t):jd F 0:=by
 refine zV a.length (fun s=>s) (fun k s=>s=(k:Int)∧k≤a.length∧a.take k=b.take k) (fun k s h=>h.1) (fun k s h=>h.2.1) ?_ ⟨rfl,Nat.zero_le _,by simp⟩
 rintro k _ next ⟨rfl,hk,he⟩ hn
 refine hF _ _ (zm (fun hc=>?_) (fun hc=>?_))
 ·have hlt:k<a.length:=by simpa using hc
  refine zo k rfl hlt (zo k rfl (by omega) (hT _ _ _ (fun e=>zx (by omega) (by omega) (hn hlt _ ⟨by simp,by omega,?_⟩)) (fun e=>?_)))
  ·rw [List.take_succ_eq_append_getElem hlt,List.take_succ_eq_append_getElem (by omega),he,e]
  ·have:a≠b:=fun h=>by subst h;exact e rfl
   rw [decide_eq_false this] at hκ;exact hκ
 ·have hge:a.length≤k:=by simpa using hc
  have:a=b:=by
   rw [List.take_of_length_le hge,List.take_of_length_le (by omega)] at he
   exact he
  rw [decide_eq_true this] at hκ;exact hκ
def zln {α:Type} (f:Int→α) (k:Int) (n:Nat):List α:=(List.range n).map fun (i:Nat)=>f (k+(i:Int))
theorem Ux {α:Type} {xs:List α} {t:Nat} {a:α} {κ:α→Prop} (h:t<xs.length) (hk:κ a):zI (xs.set ((t:Int)).toNat a) (t:Int) κ:=⟨a,by omega,by simp [h],hk⟩
theorem zfk {α:Type} {xs:List α} {t i:Nat} {a:α} (h:t<xs.length):t<(xs.set i a).length:=by rw [List.length_set];exact h
end
section
open Go Go.Proofs
instance (l:List zd) (x:Int):Decidable (hv l x):=by unfold hv;infer_instance
def St (l:List zd) (top:Int):Prop:=NF l∧∀ s∈l,0≤s.xLo∧s.xHi≤top
theorem zkA (top:Int):St [] top:=⟨zgo,by simp⟩
theorem zh5 {a b:List zd} {t u:Int} (ha:St a t) (hb:St b u) (h:∀ x,hv a x↔hv b x):a=b:=zjP ha.1 hb.1 h
theorem Za {l:List zd} {top x:Int} (h:St l top) (hx:hv l x):0≤x∧x≤top:=by
 obtain ⟨s,hs,e1,e2⟩:=hx
 have:=h.2 s hs
 omega
theorem zes:∀ (l:List zd) (top lo:Int),NF l→(∀ s∈l,lo≤s.xLo∧s.xHi≤top)→lo≤top+2→2 * (l.length:Int)≤top+2 - lo
 | [],top,lo,_,_,h=>by simp;omega
 | s :: l,top,lo,hn,hr,h=>by
  have h0:=hr s (by simp)
  have h1:=hn.1 s (by simp)
  have:=zes l top (s.xHi+2) (UJ hn) (fun t ht=>⟨by have:=(List.pairwise_cons.1 hn.2).1 t ht;omega,(hr t (List.mem_cons_of_mem _ ht)).2⟩) (by omega)
  simp only [List.length_cons]
  omega
theorem Un {l:List zd} {top:Int} (h:St l top) (ht:-2≤top):2 * (l.length:Int)≤top+2:=by
 have:=zes l top 0 h.1 h.2 (by omega)
 omega
def YB (x y:zd):List zd:=if max x.xLo y.xLo≤min x.xHi y.xHi then [zd.mk (max x.xLo y.xLo) (min x.xHi y.xHi)] else []
def zR (a b:List zd):List zd:=a.flatMap fun x=>b.flatMap (YB x)
theorem VV {x y t:zd}:t∈YB x y↔max x.xLo y.xLo≤min x.xHi y.xHi∧t=zd.mk (max x.xLo y.xLo) (min x.xHi y.xHi):=by
 unfold YB;split <;> simp [*]
theorem zae {a b:List zd} {t:zd}:t∈zR a b↔∃ x∈a,∃ y∈b,max x.xLo y.xLo≤min x.xHi y.xHi∧t=zd.mk (max x.xLo y.xLo) (min x.xHi y.xHi):=by
 simp only [zR,List.mem_flatMap,VV]
theorem Uu (a b:List zd) (n:Int):hv (zR a b) n↔hv a n∧hv b n:=by
 constructor
 ·rintro ⟨t,ht,h1,h2⟩
  obtain ⟨x,hx,y,hy,_,rfl⟩:=zae.1 ht
  simp only at h1 h2
  exact ⟨⟨x,hx,by omega,by omega⟩,⟨y,hy,by omega,by omega⟩⟩
 ·rintro ⟨⟨x,hx,h1,h2⟩,⟨y,hy,h3,h4⟩⟩
  exact ⟨_,zae.2 ⟨x,hx,y,hy,by omega,rfl⟩,by simp only;omega,by simp only;omega⟩
theorem ziH {x:zd}:∀ {b:List zd},NF b→NF (b.flatMap (YB x))
 | [],_=>by simp [NF]
 | y :: b,h=>by
  rw [List.flatMap_cons]
  have hy:=(List.pairwise_cons.1 h.2).1
  refine UQ ⟨fun t ht=>?_,?_⟩ (ziH (UJ h)) (fun t ht u hu=>?_)
  ·obtain ⟨h1,rfl⟩:=VV.1 ht;exact h1
  ·unfold YB;split <;> simp
  ·obtain ⟨h1,rfl⟩:=VV.1 ht
   obtain ⟨z,hz,hu⟩:=List.mem_flatMap.1 hu
   obtain ⟨h2,rfl⟩:=VV.1 hu
   have:=hy z hz
   simp only;omega
theorem zbk:∀ {a b:List zd},NF a→NF b→NF (zR a b)
 | [],b,_,_=>by simp [zR,NF]
 | x :: a,b,ha,hb=>by
  have e:zR (x :: a) b=b.flatMap (YB x)++zR a b:=by simp [zR]
  rw [e]
  refine UQ (ziH hb) (zbk (UJ ha) hb) (fun t ht u hu=>?_)
  obtain ⟨y,hy,ht⟩:=List.mem_flatMap.1 ht
  obtain ⟨h1,rfl⟩:=VV.1 ht
  obtain ⟨z,hz,y',hy',h2,rfl⟩:=zae.1 hu
  have:=(List.pairwise_cons.1 ha.2).1 z hz
  simp only;omega
theorem ZE {a b:List zd} {top:Int} (ha:St a top) (hb:NF b):St (zR a b) top:=by
 refine ⟨zbk ha.1 hb,fun t ht=>?_⟩
 obtain ⟨x,hx,y,hy,_,rfl⟩:=zae.1 ht
 have:=ha.2 x hx
 have:=hb.1 y hy
 simp only;omega
def YT:List zd→Int→Int→List zd
 | [],at_,top=>if at_≤top then [zd.mk at_ top] else []
 | s :: l,at_,top=>(if at_<s.xLo then [zd.mk at_ (s.xLo - 1)] else [])++YT l (s.xHi+1) top
def yq (a:List zd) (top:Int):List zd:=YT a 0 top
theorem zda:∀ (a:List zd) (c top:Int),NF a→(∀ s∈a,c≤s.xLo∧s.xHi≤top) →
  NF (YT a c top)∧(∀ s∈YT a c top,c≤s.xLo∧s.xHi≤top)∧∀ x,hv (YT a c top) x↔c≤x∧x≤top∧¬ hv a x
 | [],c,top,_,_=>by
  unfold YT
  split
  ·refine ⟨Uo (by simpa using ‹_›),by simp,fun x=>?_⟩
   rw [xH];simp [yn]
  ·refine ⟨zgo,by simp,fun x=>?_⟩
   simp only [yn,false_iff]
   omega
 | s :: l,c,top,hn,hr=>by
  have h0:=hr s (by simp)
  have h1:=hn.1 s (by simp)
  have hg:=(List.pairwise_cons.1 hn.2).1
  obtain ⟨i1,i2,i3⟩:=zda l (s.xHi+1) top (UJ hn) (fun t ht=>⟨by have:=hg t ht;omega,(hr t (List.mem_cons_of_mem _ ht)).2⟩)
  unfold YT
  have hx0:∀ x,x≤s.xHi+1→¬ hv l x:=fun x hx hh=>by have:=zbG hn hh;omega
  split
  ·refine ⟨UQ (Uo (by simp only;omega)) i1 (fun t ht u hu=>by simp at ht;subst ht;have:=i2 u hu;simp only;omega),fun t ht=>?_,fun x=>?_⟩
   ·rcases List.mem_append.1 ht with q | q
    ·simp at q;subst q;simp only;omega
    ·have:=i2 t q;omega
   ·rw [UT,xH,i3,xH]
    simp only [yn,or_false]
    constructor
    ·rintro (q | ⟨q1,q2,q3⟩)
     ·exact ⟨by omega,by omega,fun h=>by
       rcases h with h | h
       ·omega
       ·exact hx0 x (by omega) h⟩
     ·exact ⟨by omega,q2,fun h=>by
       rcases h with h | h
       ·omega
       ·exact q3 h⟩
    ·rintro ⟨q1,q2,q3⟩
     by_cases h:x<s.xLo
     ·exact .inl (by omega)
     ·exact .inr ⟨by
       rcases Int.lt_or_le s.xHi x with g | g
       ·omega
       ·exact absurd (Or.inl ⟨by omega,g⟩) q3,q2,fun h=>q3 (.inr h)⟩
  ·refine ⟨by simpa using i1,fun t ht=>?_,fun x=>?_⟩
   ·have:=i2 t (by simpa using ht);omega
   ·rw [List.nil_append,i3,xH]
    constructor
    ·rintro ⟨q1,q2,q3⟩
     exact ⟨by omega,q2,fun h=>by
       rcases h with h | h
       ·omega
       ·exact q3 h⟩
    ·rintro ⟨q1,q2,q3⟩
     exact ⟨by
       rcases Int.lt_or_le s.xHi x with g | g
       ·omega
       ·exact absurd (Or.inl ⟨by omega,g⟩) q3,q2,fun h=>q3 (.inr h)⟩
theorem X8 {a:List zd} {top:Int} (h:St a top):St (yq a top) top:=by
 obtain ⟨h1,h2,_⟩:=zda a 0 top h.1 h.2
 exact ⟨h1,h2⟩
theorem zew {a:List zd} {top:Int} (h:St a top) (x:Int):hv (yq a top) x↔0≤x∧x≤top∧¬ hv a x:=(zda a 0 top h.1 h.2).2.2 x
def Xh (a b:List zd):List zd:=b.foldl zbc a
theorem zbW {a b:List zd} {top:Int} (ha:St a top) (hb:St b top) (x:Int):hv (Xh a b) x↔hv a x∨hv b x:=(VT b a ha.1 hb.1.1).2 x
theorem UM {l:List zd} {s:zd} (h:NF l) (hs:s∈l):hv l s.xLo∧hv l s.xHi:=⟨⟨s,hs,Int.le_refl _,h.1 s hs⟩,⟨s,hs,h.1 s hs,Int.le_refl _⟩⟩
theorem zbZ {a b:List zd} {top:Int} (ha:St a top) (hb:St b top):St (Xh a b) top:=by
 have hn:NF (Xh a b):=(VT b a ha.1 hb.1.1).1
 refine ⟨hn,fun s hs=>?_⟩
 obtain ⟨e1,e2⟩:=UM hn hs
 rw [zbW ha hb] at e1 e2
 constructor
 ·rcases e1 with e | e
  ·exact (Za ha e).1
  ·exact (Za hb e).1
 ·rcases e2 with e | e
  ·exact (Za ha e).2
  ·exact (Za hb e).2
theorem zhT (a:List zd) (c:Int) (hl:a.length≤4294967296) {i0:Nat} (h0:i0≤a.length) (hb:∀ s∈a.take i0,s.xHi<c) (REST:Int→Prop)
  (hR:∀ i:Nat,i≤a.length→(∀ s∈a.take i,s.xHi<c)→(∀ h:i<a.length,c≤a[i].xHi)→REST i)
  (F:(Int→Prop)→Int→Prop) (hF:∀ nx t,(jnW (fun (b:Bool)=>ifW b (jo t 1 (fun u=>nx u)) (REST t)) (fun k=>ifW (decide (t<(a.length:Int))) (zI a t (fun e=>k (decide (e.xHi<c)))) (k false)))→F nx t):jd F (i0:Int):=by
 refine zcu i0 a.length (fun s=>s) (fun k s=>s=(k:Int)∧k≤a.length∧∀ s∈a.take k,s.xHi<c) (fun k s h=>h.1) (fun k s h=>h.2.1) ?_ ⟨rfl,h0,hb⟩
 rintro k _ next ⟨rfl,hk,he⟩ hn
 refine hF _ _ ?_
 unfold jnW
 refine zm (fun hc=>?_) (fun hc=>?_)
 ·have hlt:k<a.length:=by simpa using hc
  refine zo k rfl hlt (zm (fun hd=>?_) (fun hd=>?_))
  ·refine zx (by omega) (by omega) (hn hlt _ ⟨by simp,by omega,fun s hs=>?_⟩)
   rw [List.take_succ_eq_append_getElem hlt] at hs
   rcases List.mem_append.1 hs with q | q
   ·exact he s q
   ·simp at q;subst q;simpa using hd
  ·exact hR k hk he (fun _=>by simpa using hd)
 ·refine jR (hR k hk he (fun h=>?_))
  have:a.length≤k:=by simpa using hc
  omega
theorem zgU {a:List zd} {i:Nat} {c x:Int} (h:∀ s∈a.take i,s.xHi<c) (hx:c≤x):hv a x↔hv (a.drop i) x:=by
 have e:=UT (a.take i) (a.drop i) x
 rw [List.take_append_drop] at e
 rw [e]
 constructor
 ·rintro (⟨s,hs,q1,q2⟩ | q)
  ·have:=h s hs;omega
  ·exact q
 ·exact .inr
def stF (l:List zd) (c top:Int):Bool×Int :=
 match l with
 | []=>(false,top)
 | s :: _=>if c<s.xLo then (false,s.xLo - 1) else (true,s.xHi)
theorem zeD {l:List zd} {c top:Int} {κ:Bool×Int→Prop} (hb:∀ s∈l,0≤s.xLo∧s.xHi≤9223372036854775807) (hn:NF l) (h:κ (stF l c top)):xY l c top κ:=by
 unfold xY
 cases l with
 | nil=>exact jt h
 | cons s l =>
  have:=hb s (by simp)
  have:=hn.1 s (by simp)
  refine zm (fun e=>by simp at e;omega) (fun _=>zo 0 rfl (by simp) (zm (fun e=>zo 0 rfl (by simp) (ZU (by simp only [List.getElem_cons_zero];omega) (by simp only [List.getElem_cons_zero];omega) ?_)) (fun e=>zo 0 rfl (by simp) ?_)))
  ·simp only [stF] at h
   rw [if_pos (by simpa using e)] at h
   exact h
  ·simp only [stF] at h
   rw [if_neg (by simpa using e)] at h
   exact h
theorem zfT {l:List zd} {c top:Int} (h:NF l) (hb:∀ s∈l,s.xHi≤top) (hc:c≤top) (hf:∀ s∈l.head?,c≤s.xHi) :
  c≤(stF l c top).2∧(stF l c top).2≤top∧∀ x,c≤x→x≤(stF l c top).2→(hv l x↔(stF l c top).1=true):=by
 cases l with
 | nil=>exact ⟨hc,Int.le_refl _,fun x _ _=>by simp [stF,yn]⟩
 | cons s l =>
  have h0:=hb s (by simp)
  have h1:=h.1 s (by simp)
  have h2:=hf s (by simp)
  unfold stF
  simp only
  split
  ·refine ⟨by simp only;omega,by simp only;omega,fun x q1 q2=>?_⟩
   simp only at q2
   simp only [Bool.false_eq_true,iff_false]
   intro hh
   have:=zbm h hh
   omega
  ·refine ⟨h2,h0,fun x q1 q2=>?_⟩
   simp only at q2
   simp only [iff_true]
   exact (xH _ _ _).2 (.inl ⟨by omega,q2⟩)
theorem zbx:∀ {a:List zd} (i:Nat),NF a→NF (a.drop i):=fun {a} i h=>⟨fun s hs=>h.1 s (List.mem_of_mem_drop hs),h.2.drop⟩
theorem zev {a:List zd} {i:Nat} {c:Int} (h:∀ q:i<a.length,c≤a[i].xHi):∀ s∈(a.drop i).head?,c≤s.xHi:=by
 intro s hs
 rw [List.head?_drop] at hs
 obtain ⟨hlt,e⟩:=List.getElem?_eq_some_iff.1 hs
 rw [← e];exact h hlt
theorem zaC (keep:Bool→Bool→Bool) {a b:List zd} {top:Int} (ha:St a top) (hb:St b top) (ht0:-2≤top) (ht:top≤65535) {κ:List zd→Prop}
  (hκ:∀ r,St r top→(∀ x,0≤x→x≤top→(hv r x↔keep (decide (hv a x)) (decide (hv b x))=true))→κ r)
  (K:Bool→Bool→(Bool→Prop)→Prop) (hK:∀ p q φ,φ (keep p q)→K p q φ)
  (F:(List zd×Int×Int×Int→Prop)→List zd×Int×Int×Int→Prop)
  (hF:∀ nx xs8 t11 t12 t13,(ifW (decide (t13≤top)) (jd (fun (nx16:Int→Prop) (t15:Int)=>jnW (fun (t79:Bool)=>ifW t79 (jo t15 1 (fun t81=>nx16 t81)) (jd (fun (nx83:Int→Prop) (t82:Int)=>jnW (fun (t146:Bool)=>ifW t146 (jo t82 1 (fun t148=>nx83 t148)) (yN a t15 (a.length:Int) (fun xs150=>xY xs150 t13 top (fun (r153,r154)=>yN b t82 (b.length:Int) (fun xs156=>xY xs156 t13 top (fun (r159,r160)=>jnW (fun (xs296:(List zd))=>jo (min r154 r160) 1 (fun t300=>nx (xs296,t15,t82,t300))) (fun k299=>K r153 r159 (fun r161=>ifW r161 (jnW (fun (t226:Bool)=>ifW t226 (Y6 (xs8.length:Int) 1 (fun t228=>zI xs8 t228 (fun e229=>k299 (xs8.set (t228).toNat (zd.mk e229.xLo (min r154 r160)))))) (jG xs8 ([(zd.mk t13 (min r154 r160))]) (fun _=>k299 (xs8++([(zd.mk t13 (min r154 r160))]))))) (fun k227=>ifW (decide (0<(xs8.length:Int))) (Y6 (xs8.length:Int) 1 (fun t162=>zI xs8 t162 (fun e163=>jo e163.xHi 1 (fun t165=>k227 (decide (t165=t13)))))) (k227 false))) (k299 xs8))))))))) (fun k147=>ifW (decide (t82<(b.length:Int))) (zI b t82 (fun e84=>k147 (decide (e84.xHi<t13)))) (k147 false))) t12)) (fun k80=>ifW (decide (t15<(a.length:Int))) (zI a t15 (fun e17=>k80 (decide (e17.xHi<t13)))) (k80 false))) t11) (κ xs8))→F nx (xs8,t11,t12,t13)) :
  jd F ([],0,0,0):=by
 have la:=Un ha ht0
 have lb:=Un hb ht0
 refine ZG (fun (s:List zd×Int×Int×Int)=>∃ i j:Nat,s.2.1=i∧s.2.2.1=j∧i≤a.length∧j≤b.length∧0≤s.2.2.2∧(top<s.2.2.2→s.2.2.2=top+1∨s.2.2.2=0)∧(∀ u∈a.take i,u.xHi<s.2.2.2)∧(∀ u∈b.take j,u.xHi<s.2.2.2)∧St s.1 top∧(∀ u∈s.1,u.xHi<s.2.2.2)∧(∀ x,0≤x→x<s.2.2.2→(hv s.1 x↔keep (decide (hv a x)) (decide (hv b x))=true)))
  (fun s=>(top+1 - s.2.2.2).toNat) ?_ ⟨0,0,rfl,rfl,Nat.zero_le _,Nat.zero_le _,Int.le_refl _,fun _=>.inr rfl,by simp,by simp,zkA _,by simp,fun x h1 h2=>by simp only at h2;omega⟩
 rintro ⟨out,_,_,c⟩ next ⟨i,j,rfl,rfl,hi,hj,hc0,hc1,hai,hbj,ho,hoc,hk⟩ hn
 simp only at hc0 hc1 hai hbj ho hoc hk
 have lo:=Un ho ht0
 refine hF _ _ _ _ _ (zm (fun hc=>?_) (fun hc=>?_))
 rotate_left 1
 ·have hc':top<c:=by simpa using hc
  refine hκ out ho (fun x h1 h2=>hk x h1 (by omega))
 have hc':c≤top:=by simpa using hc
 refine zhT a c (by omega) hi hai _ (fun i' hi' hai' hai2=>?_) _ (fun _ _ h=>h)
 refine zhT b c (by omega) hj hbj _ (fun j' hj' hbj' hbj2=>?_) _ (fun _ _ h=>h)
 have mema:∀ s∈a.drop i',0≤s.xLo∧s.xHi≤top:=fun s hs=>ha.2 s (List.mem_of_mem_drop hs)
 have memb:∀ s∈b.drop j',0≤s.xLo∧s.xHi≤top:=fun s hs=>hb.2 s (List.mem_of_mem_drop hs)
 refine ⟨by omega,by omega,by omega,?_⟩
 rw [show (a.take (a.length:Int).toNat).drop (i':Int).toNat=a.drop i' by simp]
 refine zeD (fun s hs=>⟨(mema s hs).1,by have:=(mema s hs).2;omega⟩) (zbx _ ha.1) ?_
 obtain ⟨a1,a2,a3⟩:=zfT (zbx i' ha.1) (fun s hs=>(mema s hs).2) hc' (zev hai2)
 generalize stF (a.drop i') c top=p at a1 a2 a3
 obtain ⟨inA,endA⟩:=p
 simp only at a1 a2 a3 ⊢
 refine ⟨by omega,by omega,by omega,?_⟩
 rw [show (b.take (b.length:Int).toNat).drop (j':Int).toNat=b.drop j' by simp]
 refine zeD (fun s hs=>⟨(memb s hs).1,by have:=(memb s hs).2;omega⟩) (zbx _ hb.1) ?_
 obtain ⟨b1,b2,b3⟩:=zfT (zbx j' hb.1) (fun s hs=>(memb s hs).2) hc' (zev hbj2)
 generalize stF (b.drop j') c top=p at b1 b2 b3
 obtain ⟨inB,endB⟩:=p
 simp only at b1 b2 b3 ⊢
 have hke:∀ x,c≤x→x≤min endA endB→(keep (decide (hv a x)) (decide (hv b x))=keep inA inB):=fun x q1 q2=>by
  have e1:decide (hv a x)=inA:=by
   have:=a3 x q1 (by omega)
   rw [← zgU hai' q1] at this
   cases inA <;> simpa using this
  have e2:decide (hv b x)=inB:=by
   have:=b3 x q1 (by omega)
   rw [← zgU hbj' q1] at this
   cases inB <;> simpa using this
  rw [e1,e2]
 unfold jnW
 generalize hm:min endA endB=m at hke ⊢
 have m1:c≤m:=by omega
 have m2:m≤top:=by omega
 have fin:∀ out',St out' top→(∀ u∈out',u.xHi≤m)→(∀ x,0≤x→x≤m→(hv out' x↔keep (decide (hv a x)) (decide (hv b x))=true))→jo m 1 (fun t300=>next (out',(i':Int),(j':Int),t300)):=fun out' h1 h2 h3 =>
  zx (by omega) (by omega) (hn _ ⟨i',j',rfl,rfl,hi',hj',by simp only;omega,fun _=>.inl (by simp only at *;omega),fun u hu=>by have:=hai' u hu;simp only;omega,fun u hu=>by have:=hbj' u hu;simp only;omega,h1,fun u hu=>by have:=h2 u hu;simp only;omega,fun x q1 q2=>h3 x q1 (by simp only at q2;omega)⟩ (by simp only;omega))
 refine hK _ _ _ (zm (fun hkt=>?_) (fun hkf=>?_))
 ·
  have app:(∀ u∈out,u.xHi+1<c)→jG out ([(zd.mk c m)]) (fun _=>jo m 1 (fun t300=>next (out++[zd.mk c m],(i':Int),(j':Int),t300))):=fun hg =>
   jj (by simp;omega) (fin _ ⟨UQ ho.1 (Uo (by simpa using m1)) (fun s hs t ht=>by simp at ht;subst ht;exact hg s hs),fun s hs=>by
    rcases List.mem_append.1 hs with q | q
    ·exact ho.2 s q
    ·simp at q;subst q;exact ⟨hc0,m2⟩⟩ (fun u hu=>by
    rcases List.mem_append.1 hu with q | q
    ·have:=hoc u q;omega
    ·simp at q;subst q;exact Int.le_refl _) (fun x q1 q2=>by
    rw [UT,xH]
    simp only [yn,or_false]
    by_cases hx:x<c
    ·rw [← hk x q1 hx]
     constructor
     ·rintro (q | q)
      ·exact q
      ·omega
     ·exact .inl
    ·rw [hke x (by omega) q2,hkt]
     simp only [iff_true]
     exact .inr ⟨by omega,q2⟩))
  refine zm (fun hp=>?_) (fun hp=>?_)
  ·
   have hpos:0<out.length:=by simpa using hp
   refine ZU (by omega) (by omega) (zo (out.length - 1) (by omega) (by omega) ?_)
   have hmem:out[out.length - 1]∈out:=List.getElem_mem _
   have hlast:=hoc _ hmem
   have hl0:=ho.2 _ hmem
   have hl1:=ho.1.1 _ hmem
   refine zx (by omega) (by omega) (zm (fun hq=>?_) (fun hq=>?_))
   ·have hq':(out[out.length - 1]).xHi+1=c:=by simpa using hq
    refine ZU (by omega) (by omega) (zo (out.length - 1) (by omega) (by omega) ?_)
    have hsplit:out=out.dropLast++[out[out.length - 1]]:=by
     have:=List.dropLast_concat_getLast (l:=out) (by intro h;rw [h] at hpos;simp at hpos)
     rw [List.getLast_eq_getElem] at this
     exact this.symm
    generalize out[out.length - 1]=z at *
    have hset:out.set ((out.length:Int) - 1).toNat (zd.mk z.xLo m)=out.dropLast++[zd.mk z.xLo m]:=by
     have e1:((out.length:Int) - 1).toNat=out.dropLast.length:=by rw [List.length_dropLast];omega
     rw [e1]
     conv=>lhs;rw [hsplit]
     rw [List.dropLast_concat,List.set_append_right _ _ (Nat.le_refl _)]
     simp
    rw [hset]
    have hd:NF (out.dropLast++[z]):=by rw [← hsplit];exact ho.1
    have hdp:=List.pairwise_append.1 hd.2
    have hdm:∀ u∈out.dropLast,u∈out:=fun u hu=>by rw [hsplit];exact List.mem_append_left _ hu
    refine fin _ ⟨UQ ⟨fun s hs=>ho.1.1 s (hdm s hs),hdp.1⟩ (Uo (by simp only;omega)) (fun s hs t ht=>by simp at ht;subst ht;exact hdp.2.2 s hs z (by simp)),fun s hs=>?_⟩ (fun u hu=>?_) (fun x q1 q2=>?_)
    ·rcases List.mem_append.1 hs with q | q
     ·exact ho.2 s (hdm s q)
     ·simp at q;subst q;exact ⟨hl0.1,m2⟩
    ·rcases List.mem_append.1 hu with q | q
     ·have:=hoc u (hdm u q);omega
     ·simp at q;subst q;exact Int.le_refl _
    ·have hold:hv out x↔hv out.dropLast x∨(z.xLo≤x∧x≤z.xHi):=by
      conv=>lhs;rw [hsplit]
      rw [UT,xH];simp [yn]
     rw [UT,xH]
     simp only [yn,or_false]
     by_cases hx:x<c
     ·rw [← hk x q1 hx,hold]
      constructor
      ·rintro (q | q)
       ·exact .inl q
       ·exact .inr ⟨q.1,by omega⟩
      ·rintro (q | q)
       ·exact .inl q
       ·exact .inr ⟨q.1,by omega⟩
     ·rw [hke x (by omega) q2,hkt]
      simp only [iff_true]
      exact .inr ⟨by omega,q2⟩
   ·have hq':(out[out.length - 1]).xHi+1≠c:=by simpa using hq
    refine app (fun u hu=>?_)
    obtain ⟨t,ht,e⟩:=List.getElem_of_mem hu
    by_cases e0:t=out.length - 1
    ·subst e0;rw [← e];omega
    ·have hpw:=List.pairwise_iff_getElem.1 ho.1.2 t (out.length - 1) ht (by omega) (by omega)
     rw [e] at hpw
     omega
  ·have:out=[]:=by
    have:¬ 0<out.length:=by simpa using hp
    exact List.eq_nil_of_length_eq_zero (by omega)
   subst this
   exact jR (app (by simp))
 ·refine fin out ho (fun u hu=>by have:=hoc u hu;omega) (fun x q1 q2=>?_)
  by_cases hx:x<c
  ·exact hk x q1 hx
  ·rw [hke x (by omega) q2,hkf]
   simp only [Bool.false_eq_true,iff_false]
   rintro ⟨u,hu,r1,r2⟩
   have:=hoc u hu
   omega
end
section
open Go Go.Proofs
theorem ziz {p q:Bool} {κ:Bool→Prop} (h:κ (p && q)):XE p q κ:=by
 unfold XE jnW;cases p <;> simpa using h
theorem zd2 {p q:Bool} {κ:Bool→Prop} (h:κ (p && !q)):ym p q κ:=by
 unfold ym jnW;cases p <;> simpa using h
theorem zgt {p q:Bool} {κ:Bool→Prop} (h:κ (p || q)):ZA p q κ:=by
 unfold ZA jnW;cases p <;> simpa using h
theorem zeG {a b:List zd} {top:Int} (ha:St a top) (hb:St b top) (h0:-2≤top) (ht:top≤65535) {κ:List zd→Prop} (h:κ (zR a b)):x7 a b top κ:=by
 unfold x7
 refine zaC (fun p q=>p && q) ha hb h0 ht (κ:=κ) (fun r hr hk=>?_) (fun p q φ=>XE p q φ) (fun p q φ=>ziz) _ (fun _ _ _ _ _ h=>h)
 rw [zh5 hr (ZE ha hb.1) (fun x=>?_)]
 ·exact h
 ·rw [Uu]
  by_cases hx:0≤x∧x≤top
  ·rw [hk x hx.1 hx.2];simp
  ·exact ⟨fun e=>absurd (Za hr e) hx,fun e=>absurd (Za ha e.1) hx⟩
theorem XL {a b:List zd} {top:Int} (ha:St a top) (hb:St b top) (h0:-2≤top) (ht:top≤65535) {κ:List zd→Prop} (h:κ (zR a (yq b top))):zW a b top κ:=by
 unfold zW
 refine zaC (fun p q=>p && !q) ha hb h0 ht (κ:=κ) (fun r hr hk=>?_) (fun p q φ=>ym p q φ) (fun p q φ=>zd2) _ (fun _ _ _ _ _ h=>h)
 rw [zh5 hr (ZE ha (X8 hb).1) (fun x=>?_)]
 ·exact h
 ·rw [Uu,zew hb]
  by_cases hx:0≤x∧x≤top
  ·rw [hk x hx.1 hx.2];simp [hx.1,hx.2]
  ·exact ⟨fun e=>absurd (Za hr e) hx,fun e=>absurd (Za ha e.1) hx⟩
theorem zdd {a b:List zd} {top:Int} (ha:St a top) (hb:St b top) (h0:-2≤top) (ht:top≤65535) {κ:List zd→Prop} (h:κ (Xh a b)):xX a b top κ:=by
 unfold xX
 refine zaC (fun p q=>p || q) ha hb h0 ht (κ:=κ) (fun r hr hk=>?_) (fun p q φ=>ZA p q φ) (fun p q φ=>zgt) _ (fun _ _ _ _ _ h=>h)
 rw [zh5 hr (zbZ ha hb) (fun x=>?_)]
 ·exact h
 ·rw [zbW ha hb]
  by_cases hx:0≤x∧x≤top
  ·rw [hk x hx.1 hx.2];simp
  ·refine ⟨fun e=>absurd (Za hr e) hx,fun e=>?_⟩
   rcases e with e | e
   ·exact absurd (Za ha e) hx
   ·exact absurd (Za hb e) hx
def lim (l:List zd):List zd×Bool:=if 40<l.length then ([],false) else (l,true)
theorem Vr {l:List zd} {κ:List zd×Bool→Prop} (h:κ (lim l)):uZ l κ:=by
 unfold uZ
 unfold lim at h
 refine zm (fun hc=>?_) (fun hc=>?_)
 ·rw [if_pos (by have:=of_decide_eq_true hc;omega)] at h;exact h
 ·rw [if_neg (by have:=of_decide_eq_false hc;omega)] at h;exact h
theorem X6 {a b:List zd} {top:Int} (ha:St a top) (hb:St b top) (h0:-2≤top) (ht:top≤65535) {κ:List zd×Bool→Prop} (h:κ (lim (zR a b))):zD a b top κ:=by
 unfold zD
 exact zeG ha hb h0 ht (Vr h)
theorem zfH {a b:List zd} {top:Int} (ha:St a top) (hb:St b top) (h0:-2≤top) (ht:top≤65535) {κ:List zd×Bool→Prop} (h:κ (lim (zR a (yq b top)))):ja a b top κ:=by
 unfold ja
 exact XL ha hb h0 ht (Vr h)
theorem zeY {a b:List zd} {top:Int} (ha:St a top) (hb:St b top) (h0:-2≤top) (ht:top≤65535) {κ:List zd×Bool→Prop} (h:κ (lim (Xh a b))):xt a b top κ:=by
 unfold xt
 exact zdd ha hb h0 ht (Vr h)
theorem zgN {x:zd}:∀ (b:List zd),(b.flatMap (YB x)).length≤b.length
 | []=>by simp
 | y :: b=>by
  have:=zgN (x:=x) b
  have h1:(YB x y).length≤1:=by unfold YB;split <;> simp
  simp only [List.flatMap_cons,List.length_append,List.length_cons]
  omega
theorem Zg {a b:List zd} {ta tb:Int} (ha:St a ta) (hb:St b tb) (h0:0≤ta) (ht:ta≤65535) (h1:0≤tb) (hu:tb≤65535) {κ:List zd→Prop} (h:κ (zR a b)):xu a b κ:=by
 have la:=Un ha (by omega)
 have lb:=Un hb (by omega)
 have short:∀ k,2 * ((zR (a.take k) b).length:Int)≤ta+2:=fun k =>
  Un (ZE ⟨⟨fun s hs=>ha.1.1 s (List.mem_of_mem_take hs),ha.1.2.take⟩,fun s hs=>ha.2 s (List.mem_of_mem_take hs)⟩ hb.1) (by omega)
 unfold xu
 refine zV a.length (fun s=>s.2) (fun k s=>s.2=(k:Int)∧k≤a.length∧s.1=zR (a.take k) b) (fun k s h=>h.1) (fun k s h=>h.2.1) ?_ ⟨rfl,Nat.zero_le _,by simp [zR]⟩
 rintro k ⟨xs,t⟩ next ⟨rfl,hk,hx⟩ hn
 simp only at hx
 subst hx
 refine zm (fun hc=>?_) (fun hc=>?_)
 ·have hlt:k<a.length:=by simpa using hc
  have hmem:a[k]∈a:=List.getElem_mem hlt
  have r1:=ha.2 _ hmem
  refine zV b.length (fun s=>s.2) (fun j s=>s.2=(j:Int)∧j≤b.length∧s.1=zR (a.take k) b++(b.take j).flatMap (YB a[k])) (fun k s h=>h.1) (fun k s h=>h.2.1) ?_ ⟨rfl,Nat.zero_le _,by simp⟩
  rintro j ⟨ys,u⟩ next2 ⟨rfl,hj,hy⟩ hn2
  simp only at hy
  subst hy
  refine zm (fun hd=>?_) (fun hd=>?_)
  ·have hlt2:j<b.length:=by simpa using hd
   have hstep:(b.take (j+1)).flatMap (YB a[k])=(b.take j).flatMap (YB a[k])++YB a[k] b[j]:=by
    rw [List.take_succ_eq_append_getElem hlt2,List.flatMap_append];simp
   have hlen:=zgN (x:=a[k]) (b.take j)
   have:=short k
   simp only [List.length_take] at hlen
   unfold jnW
   refine zo k rfl hlt (zo j rfl hlt2 (zo k rfl hlt (zo j rfl hlt2 (zm (fun he=>?_) (fun he=>?_)))))
   ·refine jj (by simp only [List.length_append,List.length_singleton];omega) (zx (by omega) (by omega) (hn2 hlt2 _ ⟨by simp,by omega,?_⟩))
    rw [hstep]
    unfold YB at *
    rw [if_pos (by simpa using he)]
    simp
   ·refine zx (by omega) (by omega) (hn2 hlt2 _ ⟨by simp,by omega,?_⟩)
    rw [hstep]
    have:YB a[k] b[j]=[]:=by unfold YB;rw [if_neg (by simpa using he)]
    rw [this];simp
  ·have hge:b.length≤j:=by simpa using hd
   have e:j=b.length:=by omega
   subst e
   refine zx (by omega) (by omega) (hn hlt _ ⟨by simp,by omega,?_⟩)
   have e2:zR (a.take k++[a[k]]) b=zR (a.take k) b++b.flatMap (YB a[k]):=by simp only [zR,List.flatMap_append,List.flatMap_cons,List.flatMap_nil,List.append_nil]
   show zR (a.take k) b++(b.take b.length).flatMap (YB a[k])=_
   rw [List.take_succ_eq_append_getElem hlt,e2,List.take_length]
 ·have hge:a.length≤k:=by simpa using hc
  rw [List.take_of_length_le hge];exact h
theorem U7 {a:List zd} {top:Int} (ha:St a top) (h0:0≤top) (ht:top≤65535) {κ:List zd→Prop} (h:κ (yq a top)):Xa a top κ:=by
 have la:=Un ha (by omega)
 have lo:=Un (X8 ha) (by omega)
 unfold Xa
 refine zV a.length (fun s=>s.2.2) (fun k s=>s.2.2=(k:Int)∧k≤a.length∧s.1++YT (a.drop k) s.2.1 top=yq a top∧0≤s.2.1∧s.2.1≤65536) (fun k s h=>h.1) (fun k s h=>h.2.1) ?_ ⟨rfl,Nat.zero_le _,by simp [yq],by simp,by simp⟩
 rintro k ⟨xs,c,t⟩ next ⟨rfl,hk,hx,hc0,hc1⟩ hn
 simp only at hx hc0 hc1
 have hlen:xs.length≤(yq a top).length:=by rw [← hx];simp
 refine zm (fun hc=>?_) (fun hc=>?_)
 ·have hlt:k<a.length:=by simpa using hc
  have hmem:a[k]∈a:=List.getElem_mem hlt
  have r1:=ha.2 _ hmem
  have r2:=ha.1.1 _ hmem
  rw [List.drop_eq_getElem_cons hlt] at hx
  simp only [YT] at hx
  unfold jnW
  refine zo k rfl hlt (zm (fun he=>?_) (fun he=>?_))
  ·rw [if_pos (by simpa using he)] at hx
   refine zo k rfl hlt (ZU (by omega) (by omega) (jj (by simp only [List.length_singleton];omega) (zo k rfl hlt (zx (by omega) (by omega) (zx (by omega) (by omega) (hn hlt _ ⟨by simp,by omega,?_,by simp only;omega,by simp only;omega⟩))))))
   simpa [List.append_assoc] using hx
  ·rw [if_neg (by simpa using he)] at hx
   refine zo k rfl hlt (zx (by omega) (by omega) (zx (by omega) (by omega) (hn hlt _ ⟨by simp,by omega,?_,by simp only;omega,by simp only;omega⟩)))
   simpa using hx
 ·have hge:a.length≤k:=by simpa using hc
  rw [List.drop_eq_nil_of_le hge] at hx
  simp only [YT] at hx
  unfold jnW
  refine zm (fun he=>?_) (fun he=>?_)
  ·rw [if_pos (by simpa using he)] at hx
   refine jj (by simp only [List.length_singleton];omega) ?_
   rw [hx];exact h
  ·rw [if_neg (by simpa using he),List.append_nil] at hx
   rw [hx];exact h
def Sm (s:zd):Prop:=-1000000000≤s.xLo∧s.xLo≤1000000000∧-1000000000≤s.xHi∧s.xHi≤1000000000
theorem zi4 {l:List zd} {s:zd} (hl:l.length≤1000000000) (hb:∀ x∈l,Sm x) (hs:Sm s) {κ:List zd→Prop} (h:κ (zbc l s)):Uf l s κ:=by
 unfold Uf
 refine zV l.length (fun s=>s.2.2.2.2) (fun k (st:Int×Int×List zd×Bool×Int)=>st.2.2.2.2=(k:Int)∧k≤l.length∧V1 l s [] false=V1 (l.drop k) (zd.mk st.1 st.2.1) st.2.2.1 st.2.2.2.1∧st.2.2.1.length≤2 * k∧Sm (zd.mk st.1 st.2.1)) (fun k s h=>h.1) (fun k s h=>h.2.1) ?_ ⟨rfl,Nat.zero_le _,by simp,by simp,hs⟩
 rintro k ⟨lo,hi,xs,pl,t⟩ next ⟨rfl,hk,hx,hlen,hsm⟩ hn
 simp only at hx hlen hsm
 obtain ⟨m1,m2,m3,m4⟩:=hsm
 simp only at m1 m2 m3 m4
 refine zm (fun hc=>?_) (fun hc=>?_)
 ·have hlt:k<l.length:=by simpa using hc
  obtain ⟨n1,n2,n3,n4⟩:=hb _ (List.getElem_mem hlt)
  rw [List.drop_eq_getElem_cons hlt] at hx
  simp only [V1] at hx
  unfold jnW
  refine zo k rfl hlt (zx (by omega) (by omega) (zm (fun he=>?_) (fun he=>?_)))
  ·rw [if_pos (by simpa using he)] at hx
   exact jj (by simp only [List.length_singleton];omega) (zx (by omega) (by omega) (hn hlt _ ⟨by simp,by omega,hx,by simp only [List.length_append,List.length_singleton];omega,m1,m2,m3,m4⟩))
  ·rw [if_neg (by simpa using he)] at hx
   refine zx (by omega) (by omega) (zm (fun hf=>?_) (fun hf=>?_))
   ·rw [if_pos (by simpa using hf)] at hx
    cases pl with
    | false =>
     refine jt (jj (by simp only [List.length_singleton];omega) (jj (by simp only [List.length_append,List.length_singleton];omega) (zx (by omega) (by omega) (hn hlt _ ⟨by simp,by omega,hx,by simp only [List.length_append,List.length_singleton];omega,m1,m2,m3,m4⟩))))
    | true =>
     refine jR (jj (by simp only [List.length_singleton];omega) (zx (by omega) (by omega) (hn hlt _ ⟨by simp,by omega,hx,by simp only [List.length_append,List.length_singleton];omega,m1,m2,m3,m4⟩)))
   ·rw [if_neg (by simpa using hf)] at hx
    exact zx (by omega) (by omega) (hn hlt _ ⟨by simp,by omega,hx,by simp only;omega,by simp only;omega,by simp only;omega,by simp only;omega,by simp only;omega⟩)
 ·have hge:l.length≤k:=by simpa using hc
  rw [List.drop_eq_nil_of_le hge] at hx
  simp only [V1] at hx
  unfold zbc at h
  rw [hx] at h
  unfold jnW
  cases pl with
  | false=>exact jt (jj (by simp only [List.length_singleton];omega) (by simpa using h))
  | true=>exact jR (by simpa using h)
end
section
open Go.Lib (decDigits)
def B (l:List UInt8):ByteArray:=ByteArray.mk l.toArray
def dg (c:UInt8):Bool:=decide (48≤c.toNat) && decide (c.toNat≤57)
def val (l:List UInt8):Nat:=l.foldl (fun n c=>10 * n+(c.toNat - 48)) 0
def run:Nat→List UInt8→List UInt8
 | 0,_=>[]
 | _,[]=>[]
 | k+1,c :: l=>if dg c then c :: run k l else []
end
section
theorem zim {α:Type} {xs:List α} {i:Int} {κ:α→Prop} (h1:0≤i) (h2:i<xs.length) (h:∀ x,x∈xs→κ x):zI xs i κ:=by
 obtain ⟨n,rfl⟩:=Int.eq_ofNat_of_zero_le h1
 have hn:n<xs.length:=by omega
 exact zo n rfl hn (h _ (List.getElem_mem hn))
def RdP (b:List UInt8) (p:Int):Prop:=b.length≤2000∧0≤p∧p≤1000000
end
section
open Go.Lib (decDigits)
def cut (c:UInt8):List UInt8→List UInt8×List UInt8
 | []=>([],[])
 | d :: l=>if d=c then ([],l) else (d :: (cut c l).1,(cut c l).2)
end
section
open Go.Lib (decDigits)
theorem VW {n lo hi:Int} {κ:Bool→Prop} (h:κ (decide (lo≤n∧n≤hi))):uS n lo hi κ:=by
 unfold uS jnW
 refine zm (fun hc=>?_) (fun hc=>?_)
 ·simp at hc;simpa [hc] using h
 ·simp at hc
  have:decide (lo≤n∧n≤hi)=false:=by simp;omega
  rw [this] at h;exact h
end
section
open Go.Lib (decDigits)
theorem RdP.step {b:List UInt8} {p p':Int} {m:Int} (h:RdP b p) (h1:p≤p') (h2:p'≤1000000):RdP b p':=⟨h.1,by have:=h.2.1;omega,h2⟩
end
section
open Go.Lib (decDigits)
def top (f:Int):Int:=if f=0∨f=1 then 65535 else if f=2 then 255 else 7
theorem VI (f:Int):7≤top f∧top f≤65535:=by unfold top;repeat' split;all_goals omega
def nm (f:Int):List UInt8:=if f=0 then [102,114,111,109] else if f=1 then [116,111] else if f=2 then [112,111,114,116] else [112,114,111,116,111]
def TV (t:jh):Prop:=0≤t.xField∧t.xField≤3∧0≤t.xLo∧t.xLo≤t.xHi∧t.xHi≤top t.xField
instance (t:jh):Decidable (TV t):=by unfold TV;infer_instance
def rtx (t:jh):List UInt8:=decDigits t.xLo.toNat++(if t.xHi=t.xLo then [] else 45 :: decDigits t.xHi.toNat)
def btx (t:jh):List UInt8:=nm t.xField++32 :: rtx t
def ttx (t:jh):List UInt8:=if t.xNot then 110 :: 111 :: 116 :: 32 :: btx t else btx t
theorem zcZ {f:Int} (h0:0≤f) (h1:f≤3):f=0∨f=1∨f=2∨f=3:=by omega
theorem zju {n:Int} {κ:Y4→Prop} (h0:0≤n) (h1:n≤3) (h:∀ e:Y4,e.xName=B (nm n)→e.xTop=top n→κ e):zI zJ n κ:=by
 rcases zcZ h0 h1 with rfl | rfl | rfl | rfl
 ·exact zo 0 rfl (by decide) (h _ rfl rfl)
 ·exact zo 1 rfl (by decide) (h _ rfl rfl)
 ·exact zo 2 rfl (by decide) (h _ rfl rfl)
 ·exact zo 3 rfl (by decide) (h _ rfl rfl)
theorem xA {n:Int} {κ:Int→Prop} (h0:0≤n) (h1:n≤3) (h:κ (top n)):x5 n κ:=by
 unfold x5 jnW
 rcases zcZ h0 h1 with rfl | rfl | rfl | rfl <;> simpa [top] using h
theorem VA {n:Int} {κ:Int→Prop} (h:κ (if 0≤n∧n≤3 then top n else -1)):zC n κ:=by
 unfold zC jnW
 refine zm (fun hc=>?_) (fun hc=>zm (fun hc2=>?_) (fun hc2=>?_))
 ·simp at hc;rw [if_neg (by omega)] at h;simpa using h
 ·simp at hc hc2;rw [if_neg (by omega)] at h;exact h
 ·simp at hc hc2;rw [if_pos (by omega)] at h
  exact zju (by omega) (by omega) (fun e _ he=>by rw [he];exact h)
theorem U1 {t:jh} {κ:Bool→Prop} (h:κ (decide (TV t))):yY t κ:=by
 unfold yY jnW
 refine VW (zm (fun hc=>?_) (fun hc=>?_))
 ·simp at hc
  refine VW (zm (fun hc2=>?_) (fun hc2=>?_))
  ·simp at hc2
   refine xA hc.1 hc.2 ?_
   rw [show decide (t.xHi≤top t.xField)=decide (TV t) from decide_eq_decide.2 ⟨fun hh=>⟨hc.1,hc.2,hc2.1,hc2.2,hh⟩,fun hh=>hh.2.2.2.2⟩]
   exact h
  ·simp at hc2
   rw [decide_eq_false (fun hh:TV t=>by obtain ⟨a1,a2,a3,a4,_⟩:=hh;omega)] at h;exact h
 ·simp at hc
  rw [decide_eq_false (fun hh:TV t=>by obtain ⟨a1,a2,a3,a4,_⟩:=hh;omega)] at h;exact h
theorem zbM {t:jh} {κ:Bool→Prop} (h:κ (decide (TV t))):Xq t κ:=by
 unfold Xq jnW
 have no:¬ (0≤t.xField∧t.xField<4∧0≤t.xLo∧t.xLo≤t.xHi)→κ false:=fun hn=>by
  rw [decide_eq_false (fun hh:TV t=>by obtain ⟨a1,a2,a3,a4,_⟩:=hh;omega)] at h;exact h
 refine zm (fun hc=>zm (fun hc2=>zm (fun hc3=>zm (fun hc4=>?_) (fun hc4=>no (by simp at hc4;omega))) (fun hc3=>no (by simp at hc3;omega))) (fun hc2=>no (by simp at hc2;omega))) (fun hc=>no (by simp at hc;omega))
 simp at hc hc2 hc3 hc4
 refine VA ?_
 rw [if_pos ⟨hc,by omega⟩]
 rw [show decide (t.xHi≤top t.xField)=decide (TV t) from decide_eq_decide.2 ⟨fun hh=>⟨hc,by omega,hc3,hc4,hh⟩,fun hh=>hh.2.2.2.2⟩]
 exact h
end
section
open Go Go.Proofs
def Zx (a b:List zd):Int×Bool :=
 match zR a b with
 | []=>(0,false)
 | s :: _=>(s.xLo,true)
theorem zg6 {a b:List zd} (ha:NF a) (hb:NF b) {v:Int} (h1:hv a v) (h2:hv b v) (h3:∀ x,hv a x→hv b x→v≤x):Zx a b=(v,true):=by
 have hm:=zbk ha hb
 unfold Zx
 have hv0:=(Uu a b v).2 ⟨h1,h2⟩
 have hall:∀ x,hv (zR a b) x→v≤x:=fun x hx=>by
  obtain ⟨e1,e2⟩:=(Uu a b x).1 hx
  exact h3 x e1 e2
 generalize zR a b=m at hm hv0 hall
 cases m with
 | nil=>exact absurd hv0 (yn v)
 | cons s m =>
  have e1:=hall s.xLo ((xH _ _ _).2 (.inl ⟨Int.le_refl _,hm.1 s (by simp)⟩))
  have e2:=zbm hm hv0
  simp only [Prod.mk.injEq,and_true]
  omega
theorem zf0 {a b:List zd} (h:∀ x,hv a x→hv b x→False) (ha:NF a) (hb:NF b):Zx a b=(0,false):=by
 unfold Zx
 have hm:=zbk ha hb
 have hall:∀ x,¬ hv (zR a b) x:=fun x hx=>by
  obtain ⟨e1,e2⟩:=(Uu a b x).1 hx
  exact h x e1 e2
 generalize zR a b=m at hm hall
 cases m with
 | nil=>rfl
 | cons s m=>exact absurd ((xH s m s.xLo).2 (.inl ⟨Int.le_refl _,hm.1 s (by simp)⟩)) (hall _)
theorem zg3 {a:List zd} {i:Nat} (h:i<a.length) (x:Int):hv (a.drop i) x↔(a[i].xLo≤x∧x≤a[i].xHi)∨hv (a.drop (i+1)) x:=by
 rw [List.drop_eq_getElem_cons h,xH]
theorem zab {a:List zd} {i:Nat} (hn:NF a) (h:i<a.length) {x:Int} (hx:hv (a.drop i) x):a[i].xLo≤x:=by
 have:=zbx i hn
 rw [List.drop_eq_getElem_cons h] at this hx
 exact zbm this hx
theorem YP {a b:List zd} {ta tb:Int} (ha:St a ta) (hb:St b tb) (h0:0≤ta) (ht:ta≤65535) (h1:0≤tb) (hu:tb≤65535) {κ:Int×Bool→Prop} (h:κ (Zx a b)):uo a b κ:=by
 have la:=Un ha (by omega)
 have lb:=Un hb (by omega)
 unfold uo
 refine ZG (fun (s:Int×Int)=>∃ i j:Nat,s.1=i∧s.2=j∧i≤a.length∧j≤b.length∧∀ x,hv a x→hv b x→hv (a.drop i) x∧hv (b.drop j) x) (fun s=>(a.length+b.length - s.1 - s.2).toNat) ?_ ⟨0,0,rfl,rfl,Nat.zero_le _,Nat.zero_le _,fun x q1 q2=>⟨by simpa using q1,by simpa using q2⟩⟩
 rintro ⟨_,_⟩ next ⟨i,j,rfl,rfl,hi,hj,hx⟩ hn
 simp only at hn ⊢
 unfold jnW
 have none:(i=a.length∨j=b.length)→κ (0,false):=fun hh=>by
  rw [zf0 (fun x q1 q2=>?_) ha.1 hb.1] at h
  ·exact h
  ·obtain ⟨r1,r2⟩:=hx x q1 q2
   rcases hh with e | e
   ·subst e;rw [List.drop_length] at r1;exact yn x r1
   ·subst e;rw [List.drop_length] at r2;exact yn x r2
 refine zm (fun hc=>?_) (fun hc=>?_)
 rotate_left 1
 ·have:a.length≤i:=by simpa using hc
  exact jR (none (.inl (by omega)))
 have hi2:i<a.length:=by simpa using hc
 refine zm (fun hd=>?_) (fun hd=>?_)
 rotate_left 1
 ·have:b.length≤j:=by simpa using hd
  exact none (.inr (by omega))
 have hj2:j<b.length:=by simpa using hd
 have a1:=ha.1.1 _ (List.getElem_mem hi2)
 have b1:=hb.1.1 _ (List.getElem_mem hj2)
 have ma:hv a a[i].xLo∧hv a a[i].xHi:=UM ha.1 (List.getElem_mem hi2)
 have mb:hv b b[j].xLo∧hv b b[j].xHi:=UM hb.1 (List.getElem_mem hj2)
 refine zo i rfl hi2 (zo j rfl hj2 (zo i rfl hi2 (zo j rfl hj2 (zm (fun he=>?_) (fun he=>?_)))))
 ·have he':max a[i].xLo b[j].xLo≤min a[i].xHi b[j].xHi:=by simpa using he
  rw [zg6 ha.1 hb.1 (v:=max a[i].xLo b[j].xLo) ⟨a[i],List.getElem_mem hi2,by omega,by omega⟩ ⟨b[j],List.getElem_mem hj2,by omega,by omega⟩ (fun x q1 q2=>?_)] at h
  ·exact h
  ·obtain ⟨r1,r2⟩:=hx x q1 q2
   have:=zab ha.1 hi2 r1
   have:=zab hb.1 hj2 r2
   omega
 ·have he':¬ max a[i].xLo b[j].xLo≤min a[i].xHi b[j].xHi:=by simpa using he
  refine zo i rfl hi2 (zo j rfl hj2 (zm (fun hf=>?_) (fun hf=>?_)))
  ·have hf':a[i].xHi<b[j].xHi:=by simpa using hf
   refine zx (by omega) (by omega) (hn _ ⟨i+1,j,by simp,rfl,by omega,hj,fun x q1 q2=>?_⟩ (by simp only;omega))
   obtain ⟨r1,r2⟩:=hx x q1 q2
   refine ⟨?_,r2⟩
   rcases (zg3 hi2 x).1 r1 with e | e
   ·have:=zab hb.1 hj2 r2;omega
   ·exact e
  ·have hf':¬ a[i].xHi<b[j].xHi:=by simpa using hf
   refine zx (by omega) (by omega) (hn _ ⟨i,j+1,rfl,by simp,hi,by omega,fun x q1 q2=>?_⟩ (by simp only;omega))
   obtain ⟨r1,r2⟩:=hx x q1 q2
   refine ⟨r1,?_⟩
   rcases (zg3 hj2 x).1 r2 with e | e
   ·have:=zab ha.1 hi2 r1;omega
   ·exact e
def B4 (a:za):Prop:=St a.x0 65535∧St a.x1 65535∧St a.x2 255∧St a.x3 7
def F4 (a:za):Prop:=a.x0.length≤40∧a.x1.length≤40∧a.x2.length≤40∧a.x3.length≤40
instance (a:za):Decidable (F4 a):=by unfold F4;infer_instance
def zcb:za:=⟨[],[],[],[]⟩
def ur (a b:za):za:=⟨zR a.x0 b.x0,zR a.x1 b.x1,zR a.x2 b.x2,zR a.x3 b.x3⟩
theorem zfx {a b:za} (ha:B4 a) (hb:B4 b):B4 (ur a b):=⟨ZE ha.1 hb.1.1,ZE ha.2.1 hb.2.1.1,ZE ha.2.2.1 hb.2.2.1.1,ZE ha.2.2.2 hb.2.2.2.1⟩
def em4 (a:za):Bool:=decide (a.x0=[]∨a.x1=[]∨a.x2=[]∨a.x3=[])
def zhR (a:za):za×Bool:=if F4 a then (a,true) else (zcb,false)
def zaF:za:=⟨[⟨0,65535⟩],[⟨0,65535⟩],[⟨0,255⟩],[⟨0,7⟩]⟩
theorem zfb:B4 zaF:=by refine ⟨?_,?_,?_,?_⟩ <;> exact ⟨Uo (by decide),fun s hs=>by simp only [zaF,List.mem_singleton] at hs;subst hs;decide⟩
theorem zdH {a:za} {κ:Bool→Prop} (h:κ (em4 a)):uP a κ:=by
 obtain ⟨x0,x1,x2,x3⟩:=a
 simp only [em4] at h
 unfold uP
 refine ⟨5,?_⟩
 refine jt (zo 0 rfl (by simp) (zm (fun e=>?_) (fun e=>zx (by decide) (by decide) ?_)))
 ·have:x0=[]:=by simpa using e
  subst this;simpa using h
 have e0:x0≠[]:=by simpa using e
 refine jt (zo 1 rfl (by simp) (zm (fun e=>?_) (fun e=>zx (by decide) (by decide) ?_)))
 ·have:x1=[]:=by simpa using e
  subst this;simpa using h
 have e1:x1≠[]:=by simpa using e
 refine jt (zo 2 rfl (by simp) (zm (fun e=>?_) (fun e=>zx (by decide) (by decide) ?_)))
 ·have:x2=[]:=by simpa using e
  subst this;simpa using h
 have e2:x2≠[]:=by simpa using e
 refine jt (zo 3 rfl (by simp) (zm (fun e=>?_) (fun e=>zx (by decide) (by decide) ?_)))
 ·have:x3=[]:=by simpa using e
  subst this;simpa using h
 have e3:x3≠[]:=by simpa using e
 refine jR ?_
 simpa [e0,e1,e2,e3] using h
theorem zkV:top 0=65535:=rfl
theorem zkS:top 1=65535:=rfl
theorem zk4:top 2=255:=rfl
theorem zkJ:top 3=7:=rfl
theorem yP {n:Int} {κ:Int→Prop} (h0:0≤n) (h1:n≤3) (h:κ (top n)):zC n κ:=VA (by rw [if_pos ⟨h0,h1⟩];exact h)
theorem zjb {a b:za} (ha:B4 a) (hb:B4 b) {κ:za×Bool→Prop} (h:κ (zhR (ur a b))):ZX a b κ:=by
 obtain ⟨a0,a1,a2,a3⟩:=a
 obtain ⟨b0,b1,b2,b3⟩:=b
 obtain ⟨p0,p1,p2,p3⟩:=ha
 obtain ⟨q0,q1,q2,q3⟩:=hb
 simp only at p0 p1 p2 p3 q0 q1 q2 q3
 have hT:(zR a0 b0).length≤40→(zR a1 b1).length≤40→(zR a2 b2).length≤40→(zR a3 b3).length≤40→κ (⟨zR a0 b0,zR a1 b1,zR a2 b2,zR a3 b3⟩,true):=fun e0 e1 e2 e3=>by
  have:zhR (ur ⟨a0,a1,a2,a3⟩ ⟨b0,b1,b2,b3⟩)=(ur ⟨a0,a1,a2,a3⟩ ⟨b0,b1,b2,b3⟩,true):=if_pos ⟨e0,e1,e2,e3⟩
  rw [this] at h;exact h
 have hF:¬ ((zR a0 b0).length≤40∧(zR a1 b1).length≤40∧(zR a2 b2).length≤40∧(zR a3 b3).length≤40)→κ (zcb,false):=fun e=>by
  have:zhR (ur ⟨a0,a1,a2,a3⟩ ⟨b0,b1,b2,b3⟩)=(zcb,false):=if_neg e
  rw [this] at h;exact h
 clear h
 unfold ZX
 refine ⟨5,?_⟩
 refine jt ?_
 unfold jnW
 refine zo 0 rfl (by simp) (zo 0 rfl (by simp) (yP (n:=(0:Int)) (by decide) (by decide) (X6 (top:=top 0) p0 q0 (by decide) (by decide) ?_)))
 unfold lim
 by_cases c0:40<(zR a0 b0).length
 ·simp only [List.getElem_cons_zero,c0,if_true]
  exact jt (hF (by omega))
 simp only [List.getElem_cons_zero,c0,if_false]
 refine jR (zo 0 rfl (by simp) (zx (by decide) (by decide) ?_))
 refine jt ?_
 refine zo 1 rfl (by simp) (zo 1 rfl (by simp) (yP (n:=(1:Int)) (by decide) (by decide) (X6 (top:=top 1) p1 q1 (by decide) (by decide) ?_)))
 unfold lim
 by_cases c1:40<(zR a1 b1).length
 ·simp only [List.getElem_cons_zero,List.getElem_cons_succ,c1,if_true]
  exact jt (hF (by omega))
 simp only [List.getElem_cons_zero,List.getElem_cons_succ,c1,if_false]
 refine jR (zo 1 rfl (by simp) (zx (by decide) (by decide) ?_))
 refine jt ?_
 refine zo 2 rfl (by simp) (zo 2 rfl (by simp) (yP (n:=(2:Int)) (by decide) (by decide) (X6 (top:=top 2) p2 q2 (by decide) (by decide) ?_)))
 unfold lim
 by_cases c2:40<(zR a2 b2).length
 ·simp only [List.getElem_cons_zero,List.getElem_cons_succ,c2,if_true]
  exact jt (hF (by omega))
 simp only [List.getElem_cons_zero,List.getElem_cons_succ,c2,if_false]
 refine jR (zo 2 rfl (by simp) (zx (by decide) (by decide) ?_))
 refine jt ?_
 refine zo 3 rfl (by simp) (zo 3 rfl (by simp) (yP (n:=(3:Int)) (by decide) (by decide) (X6 (top:=top 3) p3 q3 (by decide) (by decide) ?_)))
 unfold lim
 by_cases c3:40<(zR a3 b3).length
 ·simp only [List.getElem_cons_zero,List.getElem_cons_succ,c3,if_true]
  exact jt (hF (by omega))
 simp only [List.getElem_cons_zero,List.getElem_cons_succ,c3,if_false]
 refine jR (zo 3 rfl (by simp) (zx (by decide) (by decide) ?_))
 refine jR ?_
 exact ⟨_,_,_,_,rfl,hT (by omega) (by omega) (by omega) (by omega)⟩
end
section
open Go.Lib (decDigits)
def zla (r:List UInt8):Prop:=∀ c m,r=c :: m→c=44
theorem zla.dg {r:List UInt8} (h:zla r):∀ c m,r=c :: m→dg c=false:=fun c m e=>by rw [h c m e];decide
end
section
open Go.Lib (decDigits)
theorem zg9 {p q:jh} {κ:Bool→Prop} (h:κ (decide (p=q))):XK p q κ:=by
 unfold XK
 by_cases e:p=q
 ·subst e;simpa using h
 ·rw [decide_eq_false e] at h
  refine zm (fun _=>h) (fun h1=>zm (fun _=>h) (fun h2=>zm (fun _=>h) (fun h3=>zm (fun _=>h) (fun h4=>?_))))
  exfalso;apply e
  cases p;cases q;simp_all
end
section
open Go.Lib (decDigits)
def aw (a:Int):List UInt8:=if a=1 then [97,99,99,101,112,116] else if a=2 then [100,114,111,112] else if a=3 then [99,97,108,108] else if a=4 then [114,101,116,117,114,110] else [110,111,110,101]
def TsV (ts:List jh):Prop:=(∀ t,t∈ts→TV t)∧ts.length≤6
instance (ts:List jh):Decidable (TsV ts):=by unfold TsV;infer_instance
def HV (a c:Int):Prop:=1≤a∧a≤5∧(a=3→0≤c∧c≤4)∧(a≠3→c=0)
instance (a c:Int):Decidable (HV a c):=by unfold HV;infer_instance
def RV (r:zz):Prop:=TsV r.xTests∧HV r.xAction r.xChain
instance (r:zz):Decidable (RV r):=by unfold RV;infer_instance
def hd (a c:Int):List UInt8:=aw a++(if a=3 then 32 :: decDigits c.toNat else [])
def tl (ts:List jh):List UInt8:=ts.flatMap (fun t=>44 :: 32 :: ttx t)
theorem UI {ts:List jh} {κ:Bool→Prop} (hl:ts.length≤4294967296) (h:κ (decide (TsV ts))):yJ ts κ:=by
 unfold yJ
 refine zV ts.length (fun s=>s) (fun k s=>s=(k:Int)∧k≤ts.length∧∀ t,t∈ts.take k→TV t) (fun k s h=>h.1) (fun k s h=>h.2.1) ?_ ⟨rfl,Nat.zero_le _,by simp⟩
 rintro k _ next ⟨rfl,hk,he⟩ hn
 refine zm (fun hc=>?_) (fun hc=>?_)
 ·have hlt:k<ts.length:=by simpa using hc
  refine zo k rfl hlt (U1 (zm (fun hc2=>?_) (fun hc2=>?_)))
  ·simp at hc2
   rw [decide_eq_false (fun hh:TsV ts=>hc2 (hh.1 _ (List.getElem_mem hlt)))] at h;exact h
  ·simp at hc2
   refine zx (by omega) (by omega) (hn hlt _ ⟨by omega,by omega,fun t ht=>?_⟩)
   rw [List.take_succ_eq_append_getElem hlt] at ht
   rcases List.mem_append.1 ht with ht | ht
   ·exact he t ht
   ·rw [List.mem_singleton] at ht;subst ht;exact hc2
 ·have hge:ts.length≤k:=by simpa using hc
  rw [List.take_of_length_le hge] at he
  rw [show decide ((ts.length:Int)≤6)=decide (TsV ts) from decide_eq_decide.2 ⟨fun hh=>⟨he,by omega⟩,fun hh=>by have:=hh.2;omega⟩]
  exact h
theorem zbf {ts:List jh} {κ:Bool→Prop} (hl:ts.length≤4294967296) (h:κ (decide (TsV ts))):ZR ts κ:=by
 unfold ZR
 refine zm (fun hc=>?_) (fun hc=>?_)
 ·rw [decide_eq_false (fun hh:TsV ts=>by have:=hh.2;simp at hc;omega)] at h;exact h
 simp at hc
 refine zV ts.length (fun s=>s) (fun k s=>s=(k:Int)∧k≤ts.length∧∀ t,t∈ts.take k→TV t) (fun k s h=>h.1) (fun k s h=>h.2.1) ?_ ⟨rfl,Nat.zero_le _,by simp⟩
 rintro k _ next ⟨rfl,hk,he⟩ hn
 refine zm (fun hc=>?_) (fun hc=>?_)
 ·have hlt:k<ts.length:=by simpa using hc
  refine zo k rfl hlt (zbM (zm (fun hc2=>?_) (fun hc2=>?_)))
  ·simp at hc2
   rw [decide_eq_false (fun hh:TsV ts=>hc2 (hh.1 _ (List.getElem_mem hlt)))] at h;exact h
  ·simp at hc2
   refine zx (by omega) (by omega) (hn hlt _ ⟨by omega,by omega,fun t ht=>?_⟩)
   rw [List.take_succ_eq_append_getElem hlt] at ht
   rcases List.mem_append.1 ht with ht | ht
   ·exact he t ht
   ·rw [List.mem_singleton] at ht;subst ht;exact hc2
 ·have hge:ts.length≤k:=by simpa using hc
  rw [List.take_of_length_le hge] at he
  rw [show decide (TsV ts)=true from decide_eq_true ⟨he,by omega⟩] at h;exact h
theorem zbN {r:zz} {κ:Bool→Prop} (hl:r.xTests.length≤4294967296) (h:κ (decide (RV r))):Xj r κ:=by
 have no:¬ RV r→κ false:=fun hn=>by rw [decide_eq_false hn] at h;exact h
 unfold Xj jnW
 refine UI hl (zm (fun h1=>?_) (fun h1=>no (fun hh=>by simp [hh.1] at h1)))
 simp at h1
 refine VW (zm (fun h2=>?_) (fun h2=>no (fun hh=>by simp [hh.2.1,hh.2.2.1] at h2)))
 simp at h2
 refine zm (fun h3=>?_) (fun h3=>?_)
 ·simp at h3
  refine VW (zm (fun h4=>?_) (fun h4=>?_))
  ·simp at h4
   rw [show decide (RV r)=true from decide_eq_true ⟨h1,h2.1,h2.2,fun _=>h4,fun e=>absurd h3 e⟩] at h;exact h
  ·simp at h4
   simp only [h3,decide_true,Bool.not_true,X9]
   exact no (fun hh=>by have:=hh.2.2.2.1 h3;omega)
 ·simp at h3
  simp only [h3,decide_false,Bool.not_false,Us]
  rw [show decide (r.xChain=0)=decide (RV r) from decide_eq_decide.2 ⟨fun hh=>⟨h1,h2.1,h2.2,fun e=>absurd e h3,fun _=>hh⟩,fun hh=>hh.2.2.2.2 h3⟩]
  exact h
theorem zbJ {r:zz} {κ:Bool→Prop} (hl:r.xTests.length≤4294967296) (h:κ (decide (RV r))):Xx r κ:=by
 have no:¬ RV r→κ false:=fun hn=>by rw [decide_eq_false hn] at h;exact h
 unfold Xx jnW
 refine zbf hl (zm (fun h1=>no (fun hh=>by simp [hh.1] at h1)) (fun h1=>?_))
 simp at h1
 refine zm (fun h3=>?_) (fun h3=>?_)
 ·simp at h3
  refine zm (fun h4=>?_) (fun h4=>no (fun hh=>by have:=hh.2.2.2.1 h3;simp at h4;omega))
  simp at h4
  rw [show decide (r.xChain<5)=decide (RV r) from decide_eq_decide.2 ⟨fun hh=>⟨h1,by omega,by omega,fun _=>⟨h4,by omega⟩,fun e=>absurd h3 e⟩,fun hh=>by have:=hh.2.2.2.1 h3;omega⟩]
  exact h
 ·simp at h3
  have yes:1≤r.xAction→r.xAction≤5→κ (decide (r.xChain=0)):=fun a1 a2=>by
   rw [show decide (r.xChain=0)=decide (RV r) from decide_eq_decide.2 ⟨fun hh=>⟨h1,a1,a2,fun e=>absurd e h3,fun _=>hh⟩,fun hh=>hh.2.2.2.2 h3⟩]
   exact h
  by_cases e1:r.xAction=1
  ·simp only [e1,decide_true,Us];exact yes (by omega) (by omega)
  by_cases e2:r.xAction=2
  ·simp only [e2,decide_true,Us];exact zm (fun e=>by simp at e) (fun _=>yes (by omega) (by omega))
  by_cases e4:r.xAction=4
  ·simp only [e4,decide_true,Us]
   exact zm (fun e=>by simp at e) (fun _=>zm (fun e=>by simp at e) (fun _=>yes (by omega) (by omega)))
  by_cases e5:r.xAction=5
  ·simp only [e5,decide_true,Us]
   exact zm (fun e=>by simp at e) (fun _=>zm (fun e=>by simp at e) (fun _=>zm (fun e=>by simp at e) (fun _=>yes (by omega) (by omega))))
  simp only [e1,e2,e4,e5,decide_false,X9]
  exact no (fun hh=>by have:=hh.2.1;have:=hh.2.2.1;omega)
end
section
open Go.Lib (decDigits)
theorem zeW {a:List jh} {κ:Bool→Prop} (hl:a.length≤4294967296) (h:κ true):Yd a a κ:=by
 unfold Yd
 refine zm (fun hc=>by simp at hc) (fun _=>?_)
 refine zeX a a rfl hl (fun x y A=>XK x y (fun r11=>ifW (!r11) (κ false) A)) (fun x y A h1 h2=>zg9 ?_) (by simpa using h) _ (fun nx t hh=>hh)
 by_cases e:x=y
 ·rw [decide_eq_true e];simp only [Bool.not_true,X9];exact h1 e
 ·rw [decide_eq_false e];simp only [Bool.not_false,Us];exact h2 e
theorem zf2 {r:zz} {κ:Bool→Prop} (hl:r.xTests.length≤4294967296) (h:κ true):YV r r κ:=by
 unfold YV
 refine zeW hl ?_
 simpa using h
theorem zge {a:List jh} {κ:List jh→Prop} (hl:a.length≤4294967296) (h:κ a):Yh a κ:=by
 unfold Yh UN
 refine Y2 a.length rfl (by omega) (by omega) (zb0 a id hl (fun x ψ=>ψ x) (fun x ψ _ hh=>hh) (by simpa using h) (by simp) _ (fun nx xs t hh=>hh))
theorem zhq {r:zz} {κ:zz→Prop} (hl:r.xTests.length≤4294967296) (h:κ r):XJ r κ:=by
 unfold XJ
 exact zge hl h
def mkT (k:Int):jh:=jh.mk k (k+1) (k+2) (decide ((k+3) % 3=0))
end
section
def Ca (cs:List (List zz)) (i j:Nat):Prop:=∃ c,cs[i]?=some c∧∃ r,r∈c∧r.xAction=3∧r.xChain=(j:Int)
def Sf (cs:List (List zz)) (i:Nat):Prop:=Acc (fun j i=>Ca cs i j) i
theorem ziE {cs:List (List zz)} {i:Nat} (h:∀ j,Ca cs i j→Sf cs j):Sf cs i:=Acc.intro _ h
inductive Wy (cs:List (List zz)):Nat→Nat→Prop
 | one {i j:Nat}:Ca cs i j→Wy cs i j
 | more {i j k:Nat}:Wy cs i j→Ca cs j k→Wy cs i k
theorem zh1 {cs:List (List zz)} {i k:Nat} (w:Wy cs i k):∃ j,Ca cs i j∧(j=k∨Wy cs j k):=by
 induction w with
 | one h=>exact ⟨_,h,.inl rfl⟩
 | more _ h ih =>
  obtain ⟨j,h1,h2⟩:=ih
  rcases h2 with rfl | h2
  ·exact ⟨_,h1,.inr (.one h)⟩
  ·exact ⟨_,h1,.inr (.more h2 h)⟩
theorem zg2 {cs:List (List zz)} {i:Nat} (hs:Sf cs i):¬ Wy cs i i:=by
 induction hs with
 | intro x _ ih =>
  intro w
  obtain ⟨j,h1,h2⟩:=zh1 w
  rcases h2 with rfl | h2
  ·exact ih _ h1 w
  ·exact ih j h1 (.more h2 h1)
def Tg (cs:List (List zz)):Prop:=cs.length≤5∧∀ c,c∈cs→(c.length≤8∧∀ r,r∈c→RV r∧r.xChain<cs.length)
def Tw (cs:List (List zz)):Prop:=cs.length≤5∧∀ c,c∈cs→(c.length≤8∧∀ r,r∈c→RV r)
theorem Tg.w {cs:List (List zz)} (h:Tg cs):Tw cs:=⟨h.1,fun c hc=>⟨(h.2 c hc).1,fun r hr=>((h.2 c hc).2 r hr).1⟩⟩
theorem zkv {cs:List (List zz)} {j:Nat} (h:cs.length≤j):Sf cs j:=ziE (fun i ⟨c,h1,_⟩=>by have:=(List.getElem?_eq_some_iff.1 h1).1;omega)
theorem zei {rules:List zz} {κ:List Int→Prop} (hl:rules.length≤8) (hv:∀ r,r∈rules→RV r) (h:∀ ys:List Int,ys.length≤5→(∀ x,x∈ys↔∃ r,r∈rules∧r.xAction=3∧r.xChain=x)→κ ys):Z8 rules κ:=by
 unfold Z8
 refine zV rules.length (fun s=>s.2) (fun k s=>s.2=(k:Int)∧k≤rules.length∧s.1.length=5∧∀ i:Nat,i<5→(s.1[i]?=some true↔∃ r,r∈rules.take k∧r.xAction=3∧r.xChain=(i:Int))) (fun k s h=>h.1) (fun k s h=>h.2.1) ?_ ⟨rfl,Nat.zero_le _,rfl,fun i hi=>?_⟩
 ·rintro k ⟨xs,_⟩ next ⟨rfl,hk,hx,he⟩ hn
  simp only at hx he
  refine zm (fun hc=>?_) (fun hc=>?_)
  ·have hlt:k<rules.length:=by simpa using hc
   have hrv:=hv _ (List.getElem_mem hlt)
   have htk:∀ r,r∈rules.take (k+1)↔r∈rules.take k∨r=rules[k]:=fun r=>by
    rw [List.take_succ_eq_append_getElem hlt,List.mem_append,List.mem_singleton]
   unfold jnW
   refine zo k rfl hlt (zm (fun h3=>?_) (fun h3=>?_))
   ·simp at h3
    have hch:=hrv.2.2.2.1 h3
    obtain ⟨m,hm⟩:=Int.eq_ofNat_of_zero_le hch.1
    refine zim hch.1 (by rw [hx];omega) (fun _ _=>zx (by omega) (by omega) (hn hlt _ ⟨by simp,by omega,by simpa using hx,fun i hi=>?_⟩))
    simp only [htk]
    rw [hm,Int.toNat_natCast]
    by_cases e:i=m
    ·subst e
     simp only [List.getElem?_set_self (show i<xs.length by omega),true_iff]
     exact ⟨_,.inr rfl,h3,hm⟩
    ·rw [List.getElem?_set_ne (by omega),he i hi]
     constructor
     ·rintro ⟨r,h1,h2⟩;exact ⟨r,.inl h1,h2⟩
     ·rintro ⟨r,h1 | rfl,h2,h4⟩
      ·exact ⟨r,h1,h2,h4⟩
      ·omega
   ·simp at h3
    refine zx (by omega) (by omega) (hn hlt _ ⟨by simp,by omega,hx,fun i hi=>?_⟩)
    simp only [htk]
    rw [he i hi]
    constructor
    ·rintro ⟨r,h1,h2⟩;exact ⟨r,.inl h1,h2⟩
    ·rintro ⟨r,h1 | rfl,h2,h4⟩
     ·exact ⟨r,h1,h2,h4⟩
     ·exact absurd h2 h3
  ·have hge:rules.length≤k:=by simpa using hc
   rw [List.take_of_length_le hge] at he
   obtain ⟨e0,e1,e2,e3,e4,rfl⟩:∃ a b c d e,xs=[a,b,c,d,e]:=by
    match xs,hx with
    | [a,b,c,d,e],_=>exact ⟨a,b,c,d,e,rfl⟩
   refine ⟨e0,e1,e2,e3,e4,rfl,?_⟩
   refine zV 5 (fun s=>s.2) (fun j s=>s.2=(j:Int)∧j≤5∧s.1.length≤j∧∀ x,x∈s.1↔∃ i:Nat,i<j∧x=(i:Int)∧[e0,e1,e2,e3,e4][i]?=some true) (fun j s h=>h.1) (fun j s h=>h.2.1) ?_ ⟨rfl,Nat.zero_le _,by simp,by simp⟩
   rintro j ⟨ys,_⟩ next2 ⟨rfl,hj,hyl,hy⟩ hn2
   simp only at hyl hy
   refine zm (fun hc2=>?_) (fun hc2=>?_)
   ·have hj5:j<5:=by simp at hc2;omega
    have hjl:j<[e0,e1,e2,e3,e4].length:=by simpa using hj5
    unfold jnW
    refine zo j rfl hjl (zm (fun h3=>?_) (fun h3=>?_))
    ·refine jj (by simp;omega) (zx (by omega) (by omega) (hn2 hj5 _ ⟨by simp,by omega,by simp;omega,fun x=>?_⟩))
     simp only [List.mem_append,List.mem_singleton,hy]
     constructor
     ·rintro (⟨i,h1,h2,h4⟩ | rfl)
      ·exact ⟨i,by omega,h2,h4⟩
      ·exact ⟨j,by omega,rfl,by rw [List.getElem?_eq_getElem hjl,h3]⟩
     ·rintro ⟨i,h1,h2,h4⟩
      by_cases e:i=j
      ·subst e;exact .inr h2
      ·exact .inl ⟨i,by omega,h2,h4⟩
    ·refine zx (by omega) (by omega) (hn2 hj5 _ ⟨by simp,by omega,by simp only;omega,fun x=>?_⟩)
     simp only [hy]
     constructor
     ·rintro ⟨i,h1,h2,h4⟩;exact ⟨i,by omega,h2,h4⟩
     ·rintro ⟨i,h1,h2,h4⟩
      by_cases e:i=j
      ·subst e;rw [List.getElem?_eq_getElem hjl,h3] at h4;simp at h4
      ·exact ⟨i,by omega,h2,h4⟩
   ·have hj5:j=5:=by simp at hc2;omega
    subst hj5
    refine h ys hyl (fun x=>?_)
    rw [hy]
    constructor
    ·rintro ⟨i,h1,rfl,h4⟩;exact (he i h1).1 h4
    ·rintro ⟨r,h1,h2,rfl⟩
     have hch:=(hv r h1).2.2.2.1 h2
     obtain ⟨m,hm⟩:=Int.eq_ofNat_of_zero_le hch.1
     exact ⟨m,by omega,hm,(he m (by omega)).2 ⟨r,h1,h2,hm⟩⟩
 ·constructor
  ·intro hh
   have:i=0∨i=1∨i=2∨i=3∨i=4:=by omega
   rcases this with rfl | rfl | rfl | rfl | rfl <;> simp at hh
  ·rintro ⟨r,h1,_⟩;simp at h1
def Co (cols:List Int):Prop:=cols.length=5∧∀ x,x∈cols→x=0∨x=1∨x=2
theorem zis {cols:List Int} {i:Nat} {v:Int} (h:Co cols) (hv:v=0∨v=1∨v=2):Co (cols.set i v):=⟨by rw [List.length_set];exact h.1,fun x hx=>by
 rcases List.mem_or_eq_of_mem_set hx with hx | rfl
 ·exact h.2 x hx
 ·exact hv⟩
structure Vi (cs:List (List zz)) (c:Nat) (cols:List Int) (ok:Bool) (cols':List Int):Prop where
 co:Co cols'
 black:∀ i:Nat,cols[i]?=some 2→cols'[i]?=some 2
 grey:∀ i:Nat,cols'[i]?=some 1↔cols[i]?=some 1
 white:cols'.count 0≤cols.count 0
 good:ok=true→(∀ i:Nat,cols[i]?=some 2→Sf cs i)→(∀ i:Nat,cols'[i]?=some 2→Sf cs i)∧(c<cs.length→cols'[c]?=some 2)
 bad:ok=false→(∀ g:Nat,cols[g]?=some 1→Wy cs g c)→∃ i,i<cs.length∧¬ Sf cs i
theorem zho {cols:List Int} (h:cols.length=5):cols.count 0≤5:=by have:=List.count_le_length (a:=(0:Int)) (l:=cols);omega
theorem zfM {cs:List (List zz)} (ht:Tw cs):∀ (n c:Nat) (cols:List Int) (κ:Bool×List Int→Prop),Co cols→cols.count 0<n →
  (∀ ok cols',Vi cs c cols ok cols'→κ (ok,cols'))→uD n cs (c:Int) cols κ
 | 0,c,cols,κ,hco,hw,h=>by omega
 | n+1,c,cols,κ,hco,hw,h=>by
  have hn5:=ht.1
  show ZZ (uD n) cs (c:Int) cols κ
  unfold ZZ
  refine zm (fun hx=>h _ _ ⟨hco,fun i hi=>hi,fun i=>Iff.rfl,Nat.le_refl _,fun _ hb=>⟨hb,fun hlt=>by simp at hx;omega⟩,fun e=>by cases e⟩) (fun hx=>?_)
  have hc:c<cs.length:=by simp at hx;omega
  have hcl:c<cols.length:=by rw [hco.1];omega
  refine zo c rfl hcl (zm (fun h1=>?_) (fun h1=>zm (fun h2=>?_) (fun h2=>?_)))
  ·have e1:cols[c]?=some 1:=by rw [List.getElem?_eq_getElem hcl];simpa using h1
   exact h _ _ ⟨hco,fun i hi=>hi,fun i=>Iff.rfl,Nat.le_refl _,fun e=>(by cases e),fun _ hg=>⟨c,hc,fun hs=>zg2 hs (hg c e1)⟩⟩
  ·have e2:cols[c]?=some 2:=by rw [List.getElem?_eq_getElem hcl];simpa using h2
   exact h _ _ ⟨hco,fun i hi=>hi,fun i=>Iff.rfl,Nat.le_refl _,fun _ hb=>⟨hb,fun _=>e2⟩,fun e=>by cases e⟩
  ·have e0:cols[c]=0:=by
    have:=hco.2 _ (List.getElem_mem hcl)
    simp at h1 h2;omega
   have e0':cols[c]?=some 0:=by rw [List.getElem?_eq_getElem hcl,e0]
   have hcs:cs[c]?=some cs[c]:=List.getElem?_eq_getElem hc
   have hch:=ht.2 _ (List.getElem_mem hc)
   refine zo c rfl hcl (zo c rfl hc (zei hch.1 hch.2 (fun ys hyl hys=>?_)))
   have hca:∀ j:Nat,Ca cs c j↔(j:Int)∈ys:=fun j=>by
    rw [hys]
    constructor
    ·rintro ⟨c',h1,r,h2,h3⟩
     rw [hcs] at h1;cases h1
     exact ⟨r,h2,h3⟩
    ·rintro ⟨r,h2,h3⟩;exact ⟨_,hcs,r,h2,h3⟩
   have hcount:(cols.set c 1).count 0+1=cols.count 0:=by
    rw [List.count_set hcl]
    have:0<cols.count 0:=List.count_pos_iff.2 (by rw [← e0];exact List.getElem_mem hcl)
    simp [e0];omega
   have set1:∀ i:Nat,(cols.set c 1)[i]?=if i=c then some 1 else cols[i]?:=fun i=>by
    by_cases e:i=c
    ·subst e;simp [hcl]
    ·rw [List.getElem?_set_ne (by omega),if_neg e]
   refine zV ys.length (fun s=>s.2.2) (fun k s=>s.2.2=(k:Int)∧k≤ys.length∧Co s.1∧(∀ i:Nat,cols[i]?=some 2→s.1[i]?=some 2)∧(∀ i:Nat,s.1[i]?=some 1↔(cols.set c 1)[i]?=some 1)∧s.1.count 0≤(cols.set c 1).count 0 ∧
    (s.2.1=true→(∀ i:Nat,cols[i]?=some 2→Sf cs i)→(∀ i:Nat,s.1[i]?=some 2→Sf cs i)∧∀ j:Nat,(j:Int)∈ys.take k→j<cs.length→s.1[j]?=some 2) ∧
    (s.2.1=false→(∀ g:Nat,cols[g]?=some 1→Wy cs g c)→∃ i,i<cs.length∧¬ Sf cs i)) (fun k s h=>h.1) (fun k s h=>h.2.1) ?_
    ⟨rfl,Nat.zero_le _,zis hco (by simp),fun i hi=>?_,fun i=>Iff.rfl,Nat.le_refl _,fun _ hb=>⟨fun i hi=>?_,by simp⟩,fun e=>by cases e⟩
   ·rintro k ⟨X,ok,_⟩ next ⟨rfl,hk,xco,xb,xg,xw,xgood,xbad⟩ hnx
    simp only at xco xb xg xw xgood xbad
    refine zm (fun hlt=>?_) (fun hlt=>?_)
    ·have hlt:k<ys.length:=by simpa using hlt
     obtain ⟨r,hr,hr3,hrc⟩:=(hys ys[k]).1 (List.getElem_mem hlt)
     have hrv:=hch.2 r hr
     have hcc:=hrv.2.2.2.1 hr3
     obtain ⟨j,hj⟩:=Int.eq_ofNat_of_zero_le hcc.1
     have ej:ys[k]=(j:Int):=by omega
     have hcj:Ca cs c j:=⟨_,hcs,r,hr,hr3,hj⟩
     unfold jnW
     refine zo k rfl hlt ?_
     rw [ej]
     refine zfM ht n j X _ xco (by omega) (fun ok' X' v=>?_)
     have fin:∀ o:Bool,(o=true→ok=true∧ok'=true)→(o=false→ok=false∨ok'=false)→jo (k:Int) 1 (fun t93=>next (X',o,t93)):=by
      intro o ho1 ho2
      refine zx (by omega) (by omega) (hnx hlt _ ⟨by simp,by omega,v.co,fun i hi=>v.black i (xb i hi),fun i=>(v.grey i).trans (xg i),Nat.le_trans v.white xw,fun e hb=>?_,fun e hg=>?_⟩)
      ·obtain ⟨g1,g2⟩:=ho1 e
       obtain ⟨q1,q2⟩:=xgood g1 hb
       obtain ⟨q3,q4⟩:=v.good g2 q1
       refine ⟨q3,fun i hi hil=>?_⟩
       rw [List.take_succ_eq_append_getElem hlt,List.mem_append,List.mem_singleton] at hi
       rcases hi with hi | hi
       ·exact v.black i (q2 i hi hil)
       ·have:i=j:=by omega
        subst this;exact q4 hil
      ·rcases ho2 e with e1 | e1
       ·exact xbad e1 hg
       ·refine v.bad e1 (fun g hgx=>?_)
        rw [xg,set1] at hgx
        by_cases e2:g=c
        ·subst e2;exact .one hcj
        ·rw [if_neg e2] at hgx;exact .more (hg g hgx) hcj
     refine zm (fun e=>fin false (fun e=>by cases e) (fun _=>.inr (by simpa using e))) (fun e=>fin ok (fun e1=>⟨e1,by simpa using e⟩) (fun e1=>.inl e1))
    ·have hge:ys.length≤k:=by simpa using hlt
     rw [List.take_of_length_le hge] at xgood
     have hxl:c<X.length:=by rw [xco.1];omega
     have set2:∀ i:Nat,(X.set c 2)[i]?=if i=c then some 2 else X[i]?:=fun i=>by
      by_cases e:i=c
      ·subst e;simp [hxl]
      ·rw [List.getElem?_set_ne (by omega),if_neg e]
     have xc1:X[c]?=some 1:=by rw [xg,set1,if_pos rfl]
     refine zo c rfl hxl ?_
     rw [Int.toNat_natCast]
     refine h _ _ ⟨zis xco (by simp),fun i hi=>?_,fun i=>?_,?_,fun e hb=>?_,fun e hg=>xbad e hg⟩
     ·rw [set2];split
      ·rfl
      ·exact xb i hi
     ·rw [set2]
      by_cases e:i=c
      ·subst e;rw [if_pos rfl,e0'];simp
      ·rw [if_neg e,xg,set1,if_neg e]
     ·rw [List.count_set hxl]
      have:X[c]=1:=by rw [List.getElem?_eq_getElem hxl] at xc1;exact Option.some.inj xc1
      simp [this];omega
     ·obtain ⟨q1,q2⟩:=xgood e hb
      have sc:Sf cs c:=ziE (fun j hj=>by
       by_cases hjl:j<cs.length
       ·exact q1 j (q2 j ((hca j).1 hj) hjl)
       ·exact zkv (by omega))
      refine ⟨fun i hi=>?_,fun _=>by rw [set2,if_pos rfl]⟩
      rw [set2] at hi
      by_cases e:i=c
      ·subst e;exact sc
      ·rw [if_neg e] at hi;exact q1 i hi
   ·show (cols.set c 1)[i]?=some 2
    rw [set1]
    by_cases e:i=c
    ·subst e;rw [e0'] at hi;simp at hi
    ·rw [if_neg e];exact hi
   ·change (cols.set c 1)[i]?=some 2 at hi
    rw [set1] at hi
    by_cases e:i=c
    ·subst e;simp at hi
    ·rw [if_neg e] at hi;exact hb i hi
theorem zg5 {cs:List (List zz)} {κ:Bool→Prop} (ht:Tw cs) (h1:(∀ i,i<cs.length→Sf cs i)→κ true) (h2:(¬ ∀ i,i<cs.length→Sf cs i)→κ false):Yx cs κ:=by
 unfold Yx
 have hn5:=ht.1
 refine zV cs.length (fun s=>s.2) (fun k s=>s.2=(k:Int)∧k≤cs.length∧Co s.1∧(∀ i:Nat,s.1[i]?≠some 1)∧(∀ i:Nat,s.1[i]?=some 2→Sf cs i)∧(∀ i:Nat,i<k→s.1[i]?=some 2)) (fun k s h=>h.1) (fun k s h=>h.2.1) ?_ ⟨rfl,Nat.zero_le _,⟨rfl,by simp⟩,fun i=>?_,fun i hi=>?_,fun i hi=>by omega⟩
 ·rintro k ⟨X,_⟩ next ⟨rfl,hk,xco,xg,xs,xk⟩ hn
  simp only at xco xg xs xk
  refine zm (fun hc=>?_) (fun hc=>?_)
  ·have hlt:k<cs.length:=by simpa using hc
   refine ⟨6,zfM ht 6 k X _ xco (by have:=zho xco.1;omega) (fun ok X' v=>?_)⟩
   refine zm (fun e=>h2 (fun hall=>?_)) (fun e=>zx (by omega) (by omega) (hn hlt _ ⟨by simp,by omega,v.co,fun i hi=>xg i ((v.grey i).1 hi),(v.good (by simpa using e) xs).1,fun i hi=>?_⟩))
   ·obtain ⟨i,hi,hns⟩:=v.bad (by simpa using e) (fun g hg=>absurd hg (xg g))
    exact hns (hall i hi)
   ·by_cases e2:i=k
    ·subst e2;exact (v.good (by simpa using e) xs).2 hlt
    ·exact v.black i (xk i (by omega))
  ·have hge:cs.length≤k:=by simpa using hc
   exact h1 (fun i hi=>xs i (xk i (by omega)))
 ·have:i=0∨i=1∨i=2∨i=3∨i=4∨5≤i:=by omega
  rcases this with rfl | rfl | rfl | rfl | rfl | h <;> simp
  rw [List.getElem?_eq_none (by simpa using h)];simp
 ·have:i=0∨i=1∨i=2∨i=3∨i=4∨5≤i:=by omega
  rcases this with rfl | rfl | rfl | rfl | rfl | h
  ·simp at hi
  ·simp at hi
  ·simp at hi
  ·simp at hi
  ·simp at hi
  ·rw [List.getElem?_eq_none (by simpa using h)] at hi;cases hi
end
section
def Rdy (cs:List (List zz)) (D:List Bool) (i:Nat):Prop:=∀ j,Ca cs i j→D[j]?=some true
theorem zk1 {cs:List (List zz)} (ht:Tg cs) {i j:Nat} (h:Ca cs i j):i<cs.length∧j<cs.length:=by
 obtain ⟨c,h1,r,h2,h3,h4⟩:=h
 have hm:=List.mem_of_getElem? h1
 have:=(ht.2 c hm).2 r h2
 exact ⟨(List.getElem?_eq_some_iff.1 h1).1,by have:=this.2;omega⟩
theorem zfJ {cs:List (List zz)} (ht:Tg cs) {D:List Bool} (hst:∀ i,i<cs.length→Rdy cs D i→D[i]?=some true) {i:Nat} (hs:Sf cs i):i<cs.length→D[i]?=some true:=by
 induction hs with
 | intro x _ ih=>exact fun hx=>hst x hx (fun j hj=>ih j hj (zk1 ht hj).2)
theorem zhm {D:List Bool} (h:∀ i,i<D.length→D[i]?=some true):D.count true=D.length:=by
 rw [List.count_eq_length]
 intro b hb
 obtain ⟨i,hi⟩:=List.getElem?_of_mem hb
 have:=h i (List.getElem?_eq_some_iff.1 hi).1
 rw [hi] at this;exact (Option.some.inj this).symm
theorem zg8 {D:List Bool} (h:D.count true=D.length) {i:Nat} (hi:i<D.length):D[i]?=some true:=by
 rw [List.getElem?_eq_getElem hi]
 exact congrArg some (List.count_eq_length.1 h _ (List.getElem_mem hi)).symm
theorem zhu {s:zS} {κ:List Int→Prop} (ht:Tg s.xChains) (h1:(∀ i,i<s.xChains.length→Sf s.xChains i)→∀ ys:List Int,ys.length=s.xChains.length→κ ys) (h2:(¬ ∀ i,i<s.xChains.length→Sf s.xChains i)→∀ ys:List Int,ys.length≠s.xChains.length→κ ys):Yg s κ:=by
 have hn5:=ht.1
 generalize hcs:s.xChains=cs at *
 unfold Yg
 rw [hcs]
 refine Y2 cs.length rfl (by omega) (by omega) ?_
 refine zV cs.length (fun s=>s.2.2) (fun k s=>s.2.2=(k:Int)∧k≤cs.length∧s.1.length=cs.length∧s.2.1.length=s.1.count true∧(∀ i:Nat,s.1[i]?=some true→Sf cs i)∧(k≤s.1.count true∨∀ i,i<cs.length→Rdy cs s.1 i→s.1[i]?=some true)) (fun k s h=>h.1) (fun k s h=>h.2.1) ?_
  ⟨rfl,Nat.zero_le _,by simp,by simp [List.count_replicate],fun i hi=>?_,.inl (Nat.zero_le _)⟩
 ·rintro k ⟨D0,ys0,_⟩ next ⟨rfl,hk,hD0,hy0,hs0,hst0⟩ hnx
  simp only at hD0 hy0 hs0 hst0
  refine zm (fun hc=>?_) (fun hc=>?_)
  ·have hltk:k<cs.length:=by simpa using hc
   refine zV cs.length (fun s=>s.2.2) (fun m s=>s.2.2=(m:Int)∧m≤cs.length∧s.1.length=cs.length∧s.2.1.length=s.1.count true∧(∀ i:Nat,s.1[i]?=some true→Sf cs i)∧(∀ i:Nat,D0[i]?=some true→s.1[i]?=some true)∧(s.1=D0∨D0.count true<s.1.count true)∧(∀ i,i<m→Rdy cs D0 i→s.1[i]?=some true)) (fun k s h=>h.1) (fun k s h=>h.2.1) ?_
    ⟨rfl,Nat.zero_le _,hD0,hy0,hs0,fun i hi=>hi,.inl rfl,fun i hi=>by omega⟩
   rintro m ⟨D,ys,_⟩ next2 ⟨rfl,hm,hD,hy,hs,hmono,hcnt,hrd⟩ hn2
   simp only at hD hy hs hmono hcnt hrd
   have hDc:D.count true≤5:=by have:=List.count_le_length (a:=true) (l:=D);omega
   refine zm (fun hc2=>?_) (fun hc2=>?_)
   ·have hlt:m<cs.length:=by simpa using hc2
    have hmD:m<D.length:=by omega
    have hch:=ht.2 _ (List.getElem_mem hlt)
    have hcm:cs[m]?=some cs[m]:=List.getElem?_eq_getElem hlt
    unfold jnW
    refine zo m rfl hmD ?_
    refine zV cs[m].length (fun s=>s.2) (fun j s=>s.2=(j:Int)∧j≤cs[m].length∧(s.1=true↔(D[m]=false∧∀ r,r∈cs[m].take j→r.xAction=3→D[r.xChain.toNat]?=some true))) (fun k s h=>h.1) (fun k s h=>h.2.1) ?_ ⟨rfl,Nat.zero_le _,by simp⟩
    rintro j ⟨fl,_⟩ next3 ⟨rfl,hj,hfl⟩ hn3
    simp only at hfl
    refine zo m rfl hlt (zm (fun hc3=>?_) (fun hc3=>?_))
    ·have hltj:j<cs[m].length:=by simpa using hc3
     have htk:∀ r,r∈cs[m].take (j+1)↔r∈cs[m].take j∨r=cs[m][j]:=fun r=>by
      rw [List.take_succ_eq_append_getElem hltj,List.mem_append,List.mem_singleton]
     have hrv:=hch.2 _ (List.getElem_mem hltj)
     refine zo m rfl hlt (zo j rfl hltj (zm (fun hf=>?_) (fun hf=>?_)))
     ·obtain ⟨f1,f2⟩:=hfl.1 hf
      refine zm (fun h3=>?_) (fun h3=>?_)
      ·refine zx (by omega) (by omega) (hn3 hltj _ ⟨by simp,by omega,⟨fun _=>⟨f1,fun r hr hr3=>?_⟩,fun _=>rfl⟩⟩)
       rcases (htk r).1 hr with hr | rfl
       ·exact f2 r hr hr3
       ·simp at h3;exact absurd hr3 h3
      ·have h3':cs[m][j].xAction=3:=by simpa using h3
       have hcc:=hrv.1.2.2.2.1 h3'
       have hc5:=hrv.2
       obtain ⟨q,hq⟩:=Int.eq_ofNat_of_zero_le hcc.1
       have hqD:q<D.length:=by omega
       refine zo q hq hqD (zx (by omega) (by omega) (hn3 hltj _ ⟨by simp,by omega,⟨fun e=>⟨f1,fun r hr hr3=>?_⟩,fun hh=>?_⟩⟩))
       ·rcases (htk r).1 hr with hr | rfl
        ·exact f2 r hr hr3
        ·rw [hq,Int.toNat_natCast,List.getElem?_eq_getElem hqD];exact congrArg some e
       ·have:=hh.2 _ ((htk _).2 (.inr rfl)) h3'
        rw [hq,Int.toNat_natCast,List.getElem?_eq_getElem hqD] at this
        exact Option.some.inj this
     ·refine zx (by omega) (by omega) (hn3 hltj _ ⟨by simp,by omega,⟨fun e=>(by cases e),fun hh=>?_⟩⟩)
      have:fl=true:=hfl.2 ⟨hh.1,fun r hr hr3=>hh.2 r ((htk r).2 (.inl hr)) hr3⟩
      rw [this] at hf;cases hf
    ·have hge:cs[m].length≤j:=by simpa using hc3
     rw [List.take_of_length_le hge] at hfl
     have rdy_of:∀ D':List Bool,Rdy cs D' m→∀ r,r∈cs[m]→r.xAction=3→D'[r.xChain.toNat]?=some true:=by
      intro D' hh r hr hr3
      have hcc:=(hch.2 r hr).1.2.2.2.1 hr3
      exact hh _ ⟨_,hcm,r,hr,hr3,by omega⟩
     refine zm (fun hf=>?_) (fun hf=>?_)
     ·obtain ⟨f1,f2⟩:=hfl.1 hf
      have hr:Rdy cs D m:=by
       rintro q ⟨c',e1,r,e2,e3,e4⟩
       rw [hcm] at e1;cases e1
       have:=f2 r e2 e3
       rw [e4] at this;simpa using this
      have set1:∀ i:Nat,(D.set m true)[i]?=if i=m then some true else D[i]?:=fun i=>by
       by_cases e:i=m
       ·subst e;simp [hmD]
       ·rw [List.getElem?_set_ne (by omega),if_neg e]
      have hcs':(D.set m true).count true=D.count true+1:=by
       rw [List.count_set hmD];simp [f1]
      refine zo m rfl hmD (jj (by simp;omega) (zx (by omega) (by omega) (hn2 hlt _ ⟨by simp,by omega,by simpa using hD,?_,fun i hi=>?_,fun i hi=>?_,.inr ?_,fun i hi hri=>?_⟩)))
      ·simp only [Int.toNat_natCast,hcs'];simp;omega
      ·simp only [Int.toNat_natCast,set1] at hi
       by_cases e:i=m
       ·subst e;exact ziE (fun j hj=>hs j (hr j hj))
       ·rw [if_neg e] at hi;exact hs i hi
      ·simp only [Int.toNat_natCast,set1];split
       ·rfl
       ·exact hmono i hi
      ·simp only [Int.toNat_natCast,hcs']
       rcases hcnt with rfl | h
       ·omega
       ·omega
      ·simp only [Int.toNat_natCast,set1];split
       ·rfl
       ·exact hrd i (by omega) hri
     ·refine zx (by omega) (by omega) (hn2 hlt _ ⟨by simp,by omega,hD,hy,hs,hmono,hcnt,fun i hi hri=>?_⟩)
      by_cases e:i=m
      ·subst e
       rw [List.getElem?_eq_getElem hmD]
       by_cases hDm:D[i]=false
       ·have:fl=true:=hfl.2 ⟨hDm,fun r hr hr3=>hmono _ (rdy_of D0 hri r hr hr3)⟩
        rw [this] at hf;cases hf
       ·simpa using hDm
      ·exact hrd i (by omega) hri
   ·have hme:m=cs.length:=by simp at hc2;omega
    subst hme
    refine zx (by omega) (by omega) (hnx hltk _ ⟨by simp,by omega,hD,hy,hs,?_⟩)
    rcases hcnt with rfl | hlt2
    ·exact .inr (fun i hi hri=>hrd i hi hri)
    ·rcases hst0 with h0 | h0
     ·exact .inl (by simp only;omega)
     ·refine .inr (fun i hi hri=>?_)
      exfalso
      have hall:∀ i:Nat,D[i]?=some true→D0[i]?=some true:=fun i hi=>zfJ ht h0 (hs i hi) (by have:=(List.getElem?_eq_some_iff.1 hi).1;omega)
      have heq:D=D0:=by
       apply List.ext_getElem?
       intro i
       by_cases hi:i<D.length
       ·rw [List.getElem?_eq_getElem hi,List.getElem?_eq_getElem (show i<D0.length by omega)]
        cases hb:D[i] with
        | true =>
         have:=hall i (by rw [List.getElem?_eq_getElem hi,hb])
         rw [List.getElem?_eq_getElem (show i<D0.length by omega)] at this
         exact this.symm
        | false =>
         cases hb0:D0[i]'(by omega) with
         | false=>rfl
         | true =>
          have:=hmono i (by rw [List.getElem?_eq_getElem (show i<D0.length by omega),hb0])
          rw [List.getElem?_eq_getElem hi,hb] at this
          exact this
       ·rw [List.getElem?_eq_none (by omega),List.getElem?_eq_none (by omega)]
      rw [heq] at hlt2;omega
  ·have hge:k=cs.length:=by simp at hc;omega
   subst hge
   have hle:=List.count_le_length (a:=true) (l:=D0)
   by_cases hcn:D0.count true=cs.length
   ·exact h1 (fun i hi=>hs0 i (zg8 (by omega) (by omega))) ys0 (by omega)
   ·refine h2 (fun hall=>?_) ys0 (by omega)
    rcases hst0 with h0 | h0
    ·omega
    ·exact hcn ((zhm (fun i hi=>zfJ ht h0 (hall i (by omega)) (by omega))).trans hD0)
 ·exfalso
  simp only [List.getElem?_replicate] at hi
  split at hi <;> simp at hi
end
section
open Go.Lib (decDigits)
def RsV (c:List zz):Prop:=c.length≤8∧∀ r,r∈c→RV r
def SV (s:zS):Prop:=Tg s.xChains∧1≤s.xChains.length∧∀ i,i<s.xChains.length→Sf s.xChains i
def Bc (c:List zz):Prop:=c.length≤4294967296∧∀ r,r∈c→r.xTests.length≤4294967296
def Bd (s:zS):Prop:=s.xChains.length≤4294967296∧∀ c,c∈s.xChains→Bc c
theorem Uz {α:Type} {l:List α} {k:Nat} (h:k<l.length) (x:α):x∈l.take (k+1)↔x∈l.take k∨x=l[k]:=by
 rw [List.take_succ_eq_append_getElem h,List.mem_append,List.mem_singleton]
theorem zbA {c:List zz} {κ:Bool→Prop} (hb:Bc c) (h:∀ b,(b=true↔RsV c)→κ b):Z1 c κ:=by
 have hl:=hb.1
 unfold Z1
 refine zm (fun hc=>h _ ⟨fun e=>(by cases e),fun hh=>by have:=hh.1;simp at hc;omega⟩) (fun hc0=>?_)
 simp at hc0
 refine zV c.length (fun s=>s) (fun k s=>s=(k:Int)∧k≤c.length∧∀ r,r∈c.take k→RV r) (fun k s h=>h.1) (fun k s h=>h.2.1) ?_ ⟨rfl,Nat.zero_le _,by simp⟩
 rintro k _ next ⟨rfl,hk,he⟩ hn
 refine zm (fun hc=>?_) (fun hc=>?_)
 ·have hlt:k<c.length:=by simpa using hc
  refine zo k rfl hlt (zbJ (hb.2 _ (List.getElem_mem hlt)) (zm (fun hc2=>?_) (fun hc2=>?_)))
  ·simp at hc2
   exact h _ ⟨fun e=>(by cases e),fun hh=>absurd (hh.2 _ (List.getElem_mem hlt)) hc2⟩
  ·simp at hc2
   refine zx (by omega) (by omega) (hn hlt _ ⟨by omega,by omega,fun r hr=>?_⟩)
   rcases (Uz hlt r).1 hr with hr | rfl
   ·exact he r hr
   ·exact hc2
 ·have hge:c.length≤k:=by simpa using hc
  rw [List.take_of_length_le hge] at he
  exact h _ ⟨fun _=>⟨by omega,he⟩,fun _=>rfl⟩
theorem zbB {c:List zz} {κ:Bool→Prop} (hb:Bc c) (h:∀ b,(b=true↔RsV c)→κ b):ZT c κ:=by
 have hl:=hb.1
 unfold ZT
 refine zV c.length (fun s=>s) (fun k s=>s=(k:Int)∧k≤c.length∧∀ r,r∈c.take k→RV r) (fun k s h=>h.1) (fun k s h=>h.2.1) ?_ ⟨rfl,Nat.zero_le _,by simp⟩
 rintro k _ next ⟨rfl,hk,he⟩ hn
 refine zm (fun hc=>?_) (fun hc=>?_)
 ·have hlt:k<c.length:=by simpa using hc
  refine zo k rfl hlt (zbN (hb.2 _ (List.getElem_mem hlt)) (zm (fun hc2=>?_) (fun hc2=>?_)))
  ·simp at hc2
   exact h _ ⟨fun e=>(by cases e),fun hh=>absurd (hh.2 _ (List.getElem_mem hlt)) hc2⟩
  ·simp at hc2
   refine zx (by omega) (by omega) (hn hlt _ ⟨by omega,by omega,fun r hr=>?_⟩)
   rcases (Uz hlt r).1 hr with hr | rfl
   ·exact he r hr
   ·exact hc2
 ·have hge:c.length≤k:=by simpa using hc
  rw [List.take_of_length_le hge] at he
  exact h _ ⟨fun e=>⟨by simp at e;omega,he⟩,fun hh=>by have:=hh.1;simp;omega⟩
theorem zah {s:zS} {κ:Bool→Prop} (hb:Bd s) (h:∀ b,(b=true↔SV s)→κ b):yS s κ:=by
 have hn:=hb.1
 have no:¬ SV s→κ false:=fun hns=>h _ ⟨fun e=>(by cases e),fun hh=>absurd hh hns⟩
 unfold yS
 refine zV s.xChains.length (fun s=>s) (fun k t=>t=(k:Int)∧k≤s.xChains.length∧∀ c,c∈s.xChains.take k→RsV c∧∀ r,r∈c→r.xChain<s.xChains.length) (fun k s h=>h.1) (fun k s h=>h.2.1) ?_ ⟨rfl,Nat.zero_le _,by simp⟩
 rintro k _ next ⟨rfl,hk,he⟩ hnx
 refine zm (fun hc=>?_) (fun hc=>?_)
 ·have hlt:k<s.xChains.length:=by simpa using hc
  have hmem:=List.getElem_mem hlt
  have hbc:=hb.2 _ hmem
  have hbl:=hbc.1
  refine zo k rfl hlt (zbB hbc (fun b hbv=>zm (fun hf=>no (fun hh=>?_)) (fun hf=>?_)))
  ·have:b=true:=hbv.2 ⟨(hh.1.2 _ hmem).1,fun r hr=>((hh.1.2 _ hmem).2 r hr).1⟩
   rw [this] at hf;cases hf
  ·have hv:RsV s.xChains[k]:=hbv.1 (by simpa using hf)
   refine zV s.xChains[k].length (fun s=>s) (fun j t=>t=(j:Int)∧j≤s.xChains[k].length∧∀ r,r∈s.xChains[k].take j→r.xChain<s.xChains.length) (fun k s h=>h.1) (fun k s h=>h.2.1) ?_ ⟨rfl,Nat.zero_le _,by simp⟩
   rintro j _ next2 ⟨rfl,hj,he2⟩ hn2
   refine zo k rfl hlt (zm (fun hc3=>?_) (fun hc3=>?_))
   ·have hltj:j<s.xChains[k].length:=by simpa using hc3
    refine zo k rfl hlt (zo j rfl hltj (zm (fun h3=>no (fun hh=>?_)) (fun h3=>?_)))
    ·have:=((hh.1.2 _ hmem).2 _ (List.getElem_mem hltj)).2
     simp at h3;omega
    ·simp at h3
     refine zx (by omega) (by omega) (hn2 hltj _ ⟨by omega,by omega,fun r hr=>?_⟩)
     rcases (Uz hltj r).1 hr with hr | rfl
     ·exact he2 r hr
     ·omega
   ·have hge:s.xChains[k].length≤j:=by simpa using hc3
    rw [List.take_of_length_le hge] at he2
    refine zx (by omega) (by omega) (hnx hlt _ ⟨by omega,by omega,fun c hc=>?_⟩)
    rcases (Uz hlt c).1 hc with hc | rfl
    ·exact he c hc
    ·exact ⟨hv,he2⟩
 ·have hge:s.xChains.length≤k:=by simpa using hc
  rw [List.take_of_length_le hge] at he
  unfold jnW
  refine VW (zm (fun h5=>?_) (fun h5=>no (fun hh=>?_)))
  ·simp at h5
   have ht:Tg s.xChains:=⟨by omega,fun c hc=>⟨(he c hc).1.1,fun r hr=>⟨(he c hc).1.2 r hr,(he c hc).2 r hr⟩⟩⟩
   refine zhu ht (fun hall ys hy=>h _ ⟨fun _=>⟨ht,by omega,hall⟩,fun _=>by simp;omega⟩) (fun hall ys hy=>h _ ⟨fun e=>absurd (by simp at e;omega) hy,fun hh=>absurd hh.2.2 hall⟩)
  ·have:=hh.1.1;have:=hh.2.1
   simp at h5;omega
theorem zai {s:zS} {κ:Bool→Prop} (hb:Bd s) (h:∀ b,(b=true↔SV s)→κ b):yR s κ:=by
 have no:¬ SV s→κ false:=fun hns=>h _ ⟨fun e=>(by cases e),fun hh=>absurd hh hns⟩
 unfold yR jnW
 simp only [Us]
 refine zm (fun hc=>no (fun hh=>by have:=hh.2.1;simp at hc;omega)) (fun h1=>zm (fun hc=>no (fun hh=>by have:=hh.1.1;simp at hc;omega)) (fun h5=>?_))
 simp at h1 h5
 refine zV s.xChains.length (fun s=>s) (fun k t=>t=(k:Int)∧k≤s.xChains.length∧∀ c,c∈s.xChains.take k→RsV c) (fun k s h=>h.1) (fun k s h=>h.2.1) ?_ ⟨rfl,Nat.zero_le _,by simp⟩
 rintro k _ next ⟨rfl,hk,he⟩ hnx
 refine zm (fun hc=>?_) (fun hc=>?_)
 ·have hlt:k<s.xChains.length:=by simpa using hc
  have hmem:=List.getElem_mem hlt
  refine zo k rfl hlt (zbA (hb.2 _ hmem) (fun b hbv=>zm (fun hf=>no (fun hh=>?_)) (fun hf=>?_)))
  ·have:b=true:=hbv.2 ⟨(hh.1.2 _ hmem).1,fun r hr=>((hh.1.2 _ hmem).2 r hr).1⟩
   rw [this] at hf;cases hf
  ·refine zx (by omega) (by omega) (hnx hlt _ ⟨by omega,by omega,fun c hc=>?_⟩)
   rcases (Uz hlt c).1 hc with hc | rfl
   ·exact he c hc
   ·exact hbv.1 (by simpa using hf)
 ·have hge:s.xChains.length≤k:=by simpa using hc
  rw [List.take_of_length_le hge] at he
  refine zV s.xChains.length (fun s=>s) (fun k t=>t=(k:Int)∧k≤s.xChains.length∧∀ c,c∈s.xChains.take k→∀ r,r∈c→r.xChain<s.xChains.length) (fun k s h=>h.1) (fun k s h=>h.2.1) ?_ ⟨rfl,Nat.zero_le _,by simp⟩
  rintro m _ next2 ⟨rfl,hm,he2⟩ hn2
  refine zm (fun hc2=>?_) (fun hc2=>?_)
  ·have hlt:m<s.xChains.length:=by simpa using hc2
   have hmem:=List.getElem_mem hlt
   have hv:=he _ hmem
   refine zo m rfl hlt (zei hv.1 hv.2 (fun ys hyl hys=>?_))
   refine zV ys.length (fun s=>s) (fun j t=>t=(j:Int)∧j≤ys.length∧∀ x,x∈ys.take j→x<s.xChains.length) (fun k s h=>h.1) (fun k s h=>h.2.1) ?_ ⟨rfl,Nat.zero_le _,by simp⟩
   rintro j _ next3 ⟨rfl,hj,he3⟩ hn3
   refine zm (fun hc3=>?_) (fun hc3=>?_)
   ·have hltj:j<ys.length:=by simpa using hc3
    refine zo j rfl hltj (zm (fun hx=>no (fun hh=>?_)) (fun hx=>?_))
    ·obtain ⟨r,hr,_,hrc⟩:=(hys _).1 (List.getElem_mem hltj)
     have:=((hh.1.2 _ hmem).2 r hr).2
     simp at hx;omega
    ·simp at hx
     refine zx (by omega) (by omega) (hn3 hltj _ ⟨by omega,by omega,fun x hxx=>?_⟩)
     rcases (Uz hltj x).1 hxx with hxx | rfl
     ·exact he3 x hxx
     ·omega
   ·have hgej:ys.length≤j:=by simpa using hc3
    rw [List.take_of_length_le hgej] at he3
    refine zx (by omega) (by omega) (hn2 hlt _ ⟨by omega,by omega,fun c hc=>?_⟩)
    rcases (Uz hlt c).1 hc with hc | rfl
    ·exact he2 c hc
    ·intro r hr
     by_cases h3:r.xAction=3
     ·exact he3 _ ((hys _).2 ⟨r,hr,h3,rfl⟩)
     ·have:=(hv.2 r hr).2.2.2.2 h3
      omega
  ·have hgem:s.xChains.length≤m:=by simpa using hc2
   rw [List.take_of_length_le hgem] at he2
   have ht:Tg s.xChains:=⟨by omega,fun c hc=>⟨(he c hc).1,fun r hr=>⟨(he c hc).2 r hr,he2 c hc r hr⟩⟩⟩
   exact zg5 ht.w (fun hall=>h _ ⟨fun _=>⟨ht,by omega,hall⟩,fun _=>rfl⟩) (fun hall=>h _ ⟨fun e=>(by cases e),fun hh=>absurd hh.2.2 hall⟩)
end
section
open Go Go.Proofs
theorem Z3 (a b:List zd):(Zx a b).2=false↔zR a b=[]:=by
 unfold Zx
 cases zR a b <;> simp
def fpk (a b:za):uG×Bool:=if em4 (ur a b) then (⟨0,0,0,0⟩,false) else (⟨(Zx a.x0 b.x0).1,(Zx a.x1 b.x1).1,(Zx a.x2 b.x2).1,(Zx a.x3 b.x3).1⟩,true)
theorem zcR {a b:za} (ha:B4 a) (hb:B4 b) {κ:uG×Bool→Prop} (h:κ (fpk a b)):uQ a b κ:=by
 obtain ⟨a0,a1,a2,a3⟩:=a
 obtain ⟨b0,b1,b2,b3⟩:=b
 obtain ⟨p0,p1,p2,p3⟩:=ha
 obtain ⟨q0,q1,q2,q3⟩:=hb
 simp only at p0 p1 p2 p3 q0 q1 q2 q3
 have hF:zR a0 b0=[]∨zR a1 b1=[]∨zR a2 b2=[]∨zR a3 b3=[]→κ (⟨0,0,0,0⟩,false):=fun e=>by
  have:fpk ⟨a0,a1,a2,a3⟩ ⟨b0,b1,b2,b3⟩=(⟨0,0,0,0⟩,false):=if_pos (decide_eq_true e)
  rw [this] at h;exact h
 have hT:¬ (zR a0 b0=[]∨zR a1 b1=[]∨zR a2 b2=[]∨zR a3 b3=[])→κ (⟨(Zx a0 b0).1,(Zx a1 b1).1,(Zx a2 b2).1,(Zx a3 b3).1⟩,true):=fun e=>by
  have:fpk ⟨a0,a1,a2,a3⟩ ⟨b0,b1,b2,b3⟩=(⟨(Zx a0 b0).1,(Zx a1 b1).1,(Zx a2 b2).1,(Zx a3 b3).1⟩,true):=if_neg (by rw [show em4 (ur ⟨a0,a1,a2,a3⟩ ⟨b0,b1,b2,b3⟩)=false from decide_eq_false e];decide)
  rw [this] at h;exact h
 clear h
 unfold uQ
 refine ⟨5,?_⟩
 refine jt ?_
 unfold jnW
 refine zo 0 rfl (by simp) (zo 0 rfl (by simp) (YP p0 q0 (by decide) (by decide) (by decide) (by decide) ?_))
 simp only [List.getElem_cons_zero,List.getElem_cons_succ]
 refine zm (fun e=>hF (.inl ((Z3 _ _).1 (by simpa using e)))) (fun e=>?_)
 have e0:zR a0 b0≠[]:=fun f=>by have:=(Z3 _ _).2 f;simp [this] at e
 refine zo 0 rfl (by simp) (zx (by decide) (by decide) ?_)
 refine jt ?_
 refine zo 1 rfl (by simp) (zo 1 rfl (by simp) (YP p1 q1 (by decide) (by decide) (by decide) (by decide) ?_))
 simp only [List.getElem_cons_zero,List.getElem_cons_succ]
 refine zm (fun e=>hF (.inr (.inl ((Z3 _ _).1 (by simpa using e))))) (fun e=>?_)
 have e1:zR a1 b1≠[]:=fun f=>by have:=(Z3 _ _).2 f;simp [this] at e
 refine zo 1 rfl (by simp) (zx (by decide) (by decide) ?_)
 refine jt ?_
 refine zo 2 rfl (by simp) (zo 2 rfl (by simp) (YP p2 q2 (by decide) (by decide) (by decide) (by decide) ?_))
 simp only [List.getElem_cons_zero,List.getElem_cons_succ]
 refine zm (fun e=>hF (.inr (.inr (.inl ((Z3 _ _).1 (by simpa using e)))))) (fun e=>?_)
 have e2:zR a2 b2≠[]:=fun f=>by have:=(Z3 _ _).2 f;simp [this] at e
 refine zo 2 rfl (by simp) (zx (by decide) (by decide) ?_)
 refine jt ?_
 refine zo 3 rfl (by simp) (zo 3 rfl (by simp) (YP p3 q3 (by decide) (by decide) (by decide) (by decide) ?_))
 simp only [List.getElem_cons_zero,List.getElem_cons_succ]
 refine zm (fun e=>hF (.inr (.inr (.inr ((Z3 _ _).1 (by simpa using e)))))) (fun e=>?_)
 have e3:zR a3 b3≠[]:=fun f=>by have:=(Z3 _ _).2 f;simp [this] at e
 refine zo 3 rfl (by simp) (zx (by decide) (by decide) ?_)
 refine jR ?_
 refine ⟨_,_,_,_,rfl,?_⟩
 unfold Y8
 refine zo 0 rfl (by simp) (zo 1 rfl (by simp) (zo 2 rfl (by simp) (zo 3 rfl (by simp) ?_)))
 exact hT (by rintro (f | f | f | f) <;> contradiction)
theorem zjk (a b:za):(fpk a b).2=!em4 (ur a b):=by
 unfold fpk;cases em4 (ur a b) <;> simp
theorem zex {a b:za} (ha:B4 a) (hb:B4 b) {κ:Bool→Prop} (h:κ (!em4 (ur a b))):uT a b κ:=by
 unfold uT
 refine zcR ha hb ?_
 rw [← zjk] at h;exact h
theorem zcG {κ:za→Prop} (h:κ zaF):ZB κ:=by
 unfold ZB
 refine ⟨5,?_⟩
 refine jt (yP (n:=(0:Int)) (by decide) (by decide) (zo 0 rfl (by simp) (zx (by decide) (by decide) ?_)))
 refine jt (yP (n:=(1:Int)) (by decide) (by decide) (zo 1 rfl (by simp) (zx (by decide) (by decide) ?_)))
 refine jt (yP (n:=(2:Int)) (by decide) (by decide) (zo 2 rfl (by simp) (zx (by decide) (by decide) ?_)))
 refine jt (yP (n:=(3:Int)) (by decide) (by decide) (zo 3 rfl (by simp) (zx (by decide) (by decide) ?_)))
 refine jR ?_
 exact ⟨_,_,_,_,rfl,h⟩
def xi (a b:List zd) (t:Int):List zd:=zR a (yq b t)
def zeo (a b:za):za:=⟨xi a.x0 b.x0 65535,xi a.x1 b.x1 65535,xi a.x2 b.x2 255,xi a.x3 b.x3 7⟩
def in4 (a b:za):Bool:=em4 a || decide (zeo a b=zcb)
theorem zfs {a b:za} (ha:B4 a) (hb:B4 b) {κ:Bool→Prop} (h:κ (in4 a b)):ye a b κ:=by
 unfold ye
 refine zdH (zm (fun e=>?_) (fun e=>?_))
 ·unfold in4 at h;rw [e] at h;exact h
 unfold in4 at h;rw [e,Bool.false_or] at h
 clear e
 obtain ⟨a0,a1,a2,a3⟩:=a
 obtain ⟨b0,b1,b2,b3⟩:=b
 obtain ⟨p0,p1,p2,p3⟩:=ha
 obtain ⟨q0,q1,q2,q3⟩:=hb
 simp only at p0 p1 p2 p3 q0 q1 q2 q3
 have hT:xi a0 b0 65535=[]→xi a1 b1 65535=[]→xi a2 b2 255=[]→xi a3 b3 7=[]→κ true:=fun e0 e1 e2 e3=>by
  rw [decide_eq_true (by simp only [zeo,zcb,e0,e1,e2,e3])] at h;exact h
 have hF:¬ (xi a0 b0 65535=[]∧xi a1 b1 65535=[]∧xi a2 b2 255=[]∧xi a3 b3 7=[])→κ false:=fun e=>by
  rw [decide_eq_false (fun f=>e (by simpa only [zeo,zcb,za.mk.injEq] using f))] at h;exact h
 clear h
 refine ⟨5,?_⟩
 refine jt ?_
 unfold jnW
 refine zo 0 rfl (by simp) (zo 0 rfl (by simp) (yP (n:=(0:Int)) (by decide) (by decide) (XL (top:=top 0) p0 q0 (by decide) (by decide) (zm (fun e=>hF (fun f=>?_)) (fun e=>zx (by decide) (by decide) ?_)))))
 ·have:=f.1;unfold xi at this;simp [this,zkV] at e
 have e0:xi a0 b0 65535=[]:=by simpa [xi,zkV] using e
 refine jt ?_
 refine zo 1 rfl (by simp) (zo 1 rfl (by simp) (yP (n:=(1:Int)) (by decide) (by decide) (XL (top:=top 1) p1 q1 (by decide) (by decide) (zm (fun e=>hF (fun f=>?_)) (fun e=>zx (by decide) (by decide) ?_)))))
 ·have:=f.2.1;unfold xi at this;simp [this,zkS] at e
 have e1:xi a1 b1 65535=[]:=by simpa [xi,zkS] using e
 refine jt ?_
 refine zo 2 rfl (by simp) (zo 2 rfl (by simp) (yP (n:=(2:Int)) (by decide) (by decide) (XL (top:=top 2) p2 q2 (by decide) (by decide) (zm (fun e=>hF (fun f=>?_)) (fun e=>zx (by decide) (by decide) ?_)))))
 ·have:=f.2.2.1;unfold xi at this;simp [this,zk4] at e
 have e2:xi a2 b2 255=[]:=by simpa [xi,zk4] using e
 refine jt ?_
 refine zo 3 rfl (by simp) (zo 3 rfl (by simp) (yP (n:=(3:Int)) (by decide) (by decide) (XL (top:=top 3) p3 q3 (by decide) (by decide) (zm (fun e=>hF (fun f=>?_)) (fun e=>zx (by decide) (by decide) ?_)))))
 ·have:=f.2.2.2;unfold xi at this;simp [this,zkJ] at e
 have e3:xi a3 b3 7=[]:=by simpa [xi,zkJ] using e
 exact jR (hT e0 e1 e2 e3)
end
section
open Go Go.Proofs
instance (l:List zd):Decidable (NF l):=by unfold NF;infer_instance
instance (l:List zd) (t:Int):Decidable (St l t):=by unfold St;infer_instance
theorem zdK:∀ {ys:List zd},(∀ s∈ys,s.xLo≤s.xHi)→(ys.Pairwise (fun a b=>a.xHi+1<b.xLo)↔∀ n,(h:n+1<ys.length)→ys[n].xHi+1<ys[n+1].xLo)
 | [],_=>by simp
 | [s],_=>by simp
 | s :: t :: ys,h=>by
  have ih:=zdK (ys:=t :: ys) (fun u hu=>h u (List.mem_cons_of_mem _ hu))
  rw [List.pairwise_cons,ih]
  constructor
  ·rintro ⟨h1,h2⟩ n hn
   cases n with
   | zero=>exact h1 t (by simp)
   | succ n=>exact h2 n (by simpa using hn)
  ·intro hh
   have h0:=hh 0 (by simp)
   have h2:∀ n,(h:n+1<(t :: ys).length)→(t :: ys)[n].xHi+1<(t :: ys)[n+1].xLo:=fun n hn=>hh (n+1) (by simpa using hn)
   refine ⟨fun u hu=>?_,h2⟩
   rcases List.mem_cons.1 hu with e | e
   ·subst e;exact h0
   ·have:=(List.pairwise_cons.1 (ih.2 h2)).1 u e
    have:=h t (by simp)
    simp only [List.getElem_cons_zero,List.getElem_cons_succ] at h0
    omega
theorem ziq {l:List zd} {top:Int}:St l top↔(∀ n,(h:n<l.length)→0≤l[n].xLo∧l[n].xLo≤l[n].xHi∧l[n].xHi≤top)∧∀ n,(h:n+1<l.length)→l[n].xHi+1<l[n+1].xLo:=by
 constructor
 ·rintro ⟨⟨h1,h2⟩,h3⟩
  exact ⟨fun n hn=>by have:=h1 _ (List.getElem_mem hn);have:=h3 _ (List.getElem_mem hn);omega,(zdK h1).1 h2⟩
 ·rintro ⟨h1,h2⟩
  have h3:∀ s∈l,0≤s.xLo∧s.xLo≤s.xHi∧s.xHi≤top:=fun s hs=>by
   obtain ⟨n,hn,e⟩:=List.getElem_of_mem hs
   rw [← e];exact h1 n hn
  exact ⟨⟨fun s hs=>(h3 s hs).2.1,(zdK (fun s hs=>(h3 s hs).2.1)).2 h2⟩,fun s hs=>⟨(h3 s hs).1,(h3 s hs).2.2⟩⟩
def SpV (l:List zd) (top:Int):Prop:=l.length≤40∧St l top
instance (l:List zd) (t:Int):Decidable (SpV l t):=by unfold SpV;infer_instance
theorem Yu {l:List zd} {top:Int} (hl:l.length≤4294967296) (h0:0≤top) (ht:top≤65535) {κ:Bool→Prop} (h:κ (decide (SpV l top))):uY l top κ:=by
 unfold uY
 refine zV l.length (fun s=>s) (fun k s=>s=(k:Int)∧k≤l.length∧(∀ n,(h:n<l.length)→n<k→0≤l[n].xLo∧l[n].xLo≤l[n].xHi∧l[n].xHi≤top)∧∀ n,(h:n+1<l.length)→n+1<k→l[n].xHi+1<l[n+1].xLo) (fun k s h=>h.1) (fun k s h=>h.2.1) ?_ ⟨rfl,Nat.zero_le _,fun n _ h=>by omega,fun n _ h=>by omega⟩
 rintro k _ next ⟨rfl,hk,h1,h2⟩ hn
 refine zm (fun hc=>?_) (fun hc=>?_)
 ·have hlt:k<l.length:=by simpa using hc
  have no:¬ (0≤l[k].xLo∧l[k].xLo≤l[k].xHi∧l[k].xHi≤top∧∀ j,(hj:j+1<l.length)→j+1=k→l[j].xHi+1<l[j+1].xLo)→κ false:=fun hh=>by
   rw [decide_eq_false (fun hs=>hh ?_)] at h
   ·exact h
   ·obtain ⟨e1,e2⟩:=ziq.1 hs.2
    exact ⟨(e1 k hlt).1,(e1 k hlt).2.1,(e1 k hlt).2.2,fun j hj _=>e2 j hj⟩
  have yes:(0≤l[k].xLo∧l[k].xLo≤l[k].xHi∧l[k].xHi≤top∧∀ j,(hj:j+1<l.length)→j+1=k→l[j].xHi+1<l[j+1].xLo)→jo (k:Int) 1 (fun t=>next t):=fun ⟨q1,q2,q3,q4⟩ =>
   zx (by omega) (by omega) (hn hlt _ ⟨by simp,by omega,fun n hn hnk=>by
    by_cases e:n=k
    ·subst e;exact ⟨q1,q2,q3⟩
    ·exact h1 n hn (by omega),fun n hn hnk=>by
    by_cases e:n+1=k
    ·exact q4 n hn e
    ·exact h2 n hn (by omega)⟩)
  unfold jnW
  refine zo k rfl hlt (zo k rfl hlt (VW (zm (fun e=>jt (no (fun f=>?_))) (fun e=>?_))))
  ·simp at e;omega
  simp at e
  refine zo k rfl hlt (VW (zm (fun e2=>jt (no (fun f=>?_))) (fun e2=>?_)))
  ·simp at e2;omega
  simp at e2
  refine zm (fun e3=>?_) (fun e3=>?_)
  ·have hk0:0<k:=by simpa using e3
   have hp:=h1 (k - 1) (by omega) (by omega)
   refine zo k rfl hlt (ZU (by omega) (by omega) (zo (k - 1) (by omega) (by omega) (zx (by omega) (by omega) (zm (fun e4=>no (fun f=>?_)) (fun e4=>yes ⟨by omega,by omega,by omega,fun j hj hjk=>?_⟩)))))
   ·have:=f.2.2.2 (k - 1) (by omega) (by omega)
    simp at e4
    have ee:k - 1+1=k:=by omega
    simp only [ee] at this
    omega
   ·simp at e4
    obtain rfl:j=k - 1:=by omega
    have ee:k - 1+1=k:=by omega
    simp only [ee]
    omega
  ·have hk0:k=0:=by simpa using e3
   exact jR (yes ⟨by omega,by omega,by omega,fun j hj hjk=>by omega⟩)
 ·have hge:l.length≤k:=by simpa using hc
  have hs:St l top:=ziq.2 ⟨fun n hn=>h1 n hn (by omega),fun n hn=>h2 n hn (by omega)⟩
  unfold jnW
  refine VW (zm (fun e=>?_) (fun e=>by simp at e;omega))
  rw [show decide (SpV l top)=decide ((l.length:Int)≤40) from decide_eq_decide.2 ⟨fun q=>by have:=q.1;omega,fun q=>⟨by omega,hs⟩⟩] at h
  exact h
instance (l:List zd) (x:Int):Decidable (hv l x):=by unfold hv;infer_instance
end
section
open Go Go.Proofs
def bx (a:za):zU:=⟨[a.x0,a.x1,a.x2,a.x3]⟩
theorem Vm {a:za} {κ:Bool→Prop} (h:κ (em4 a)):u9 (bx a) κ:=by
 obtain ⟨x0,x1,x2,x3⟩:=a
 simp only [em4] at h
 unfold u9
 refine ⟨5,?_⟩
 refine jt (zo 0 rfl (by simp [bx]) (zm (fun e=>?_) (fun e=>zx (by decide) (by decide) ?_)))
 ·have:x0=[]:=by simpa [bx] using e
  subst this;simpa using h
 have e0:x0≠[]:=by simpa [bx] using e
 refine jt (zo 1 rfl (by simp [bx]) (zm (fun e=>?_) (fun e=>zx (by decide) (by decide) ?_)))
 ·have:x1=[]:=by simpa [bx] using e
  subst this;simpa using h
 have e1:x1≠[]:=by simpa [bx] using e
 refine jt (zo 2 rfl (by simp [bx]) (zm (fun e=>?_) (fun e=>zx (by decide) (by decide) ?_)))
 ·have:x2=[]:=by simpa [bx] using e
  subst this;simpa using h
 have e2:x2≠[]:=by simpa [bx] using e
 refine jt (zo 3 rfl (by simp [bx]) (zm (fun e=>?_) (fun e=>zx (by decide) (by decide) ?_)))
 ·have:x3=[]:=by simpa [bx] using e
  subst this;simpa using h
 have e3:x3≠[]:=by simpa [bx] using e
 refine jR ?_
 simpa [e0,e1,e2,e3] using h
theorem zeA {a b:za} (ha:B4 a) (hb:B4 b) {κ:zU→Prop} (h:κ (bx (ur a b))):yZ (bx a) (bx b) κ:=by
 obtain ⟨p0,p1,p2,p3⟩:=ha
 obtain ⟨q0,q1,q2,q3⟩:=hb
 unfold yZ
 refine ⟨5,?_⟩
 refine jt ?_
 unfold jnW
 refine zo 0 rfl (by simp [bx]) (zo 0 rfl (by simp [bx]) (Zg p0 q0 (by decide) (by decide) (by decide) (by decide) (jj (by simp) (zx (by decide) (by decide) ?_))))
 refine jt ?_
 refine zo 1 rfl (by simp [bx]) (zo 1 rfl (by simp [bx]) (Zg p1 q1 (by decide) (by decide) (by decide) (by decide) (jj (by simp) (zx (by decide) (by decide) ?_))))
 refine jt ?_
 refine zo 2 rfl (by simp [bx]) (zo 2 rfl (by simp [bx]) (Zg p2 q2 (by decide) (by decide) (by decide) (by decide) (jj (by simp) (zx (by decide) (by decide) ?_))))
 refine jt ?_
 refine zo 3 rfl (by simp [bx]) (zo 3 rfl (by simp [bx]) (Zg p3 q3 (by decide) (by decide) (by decide) (by decide) (jj (by simp) (zx (by decide) (by decide) ?_))))
 exact jR h
theorem zfC {κ:zU→Prop} (h:κ (bx zaF)):XC κ:=by
 unfold XC
 refine ⟨5,?_⟩
 refine jt ?_
 unfold jnW
 refine xA (n:=(0:Int)) (by decide) (by decide) (jj (by simp) (zx (by decide) (by decide) ?_))
 refine jt ?_
 refine xA (n:=(1:Int)) (by decide) (by decide) (jj (by simp) (zx (by decide) (by decide) ?_))
 refine jt ?_
 refine xA (n:=(2:Int)) (by decide) (by decide) (jj (by simp) (zx (by decide) (by decide) ?_))
 refine jt ?_
 refine xA (n:=(3:Int)) (by decide) (by decide) (jj (by simp) (zx (by decide) (by decide) ?_))
 exact jR h
theorem u6 {l:List (List zd)} (hl:l.length≤4294967296) (hl2:∀ x∈l,x.length≤4294967296) {κ:List (List zd)→Prop} (h:κ l):xK l κ:=by
 unfold xK
 refine zV l.length (fun s=>s.2) (fun k s=>s.2=(k:Int)∧k≤l.length∧s.1=l.take k) (fun k s h=>h.1) (fun k s h=>h.2.1) ?_ ⟨rfl,Nat.zero_le _,by simp⟩
 rintro k ⟨xs,t⟩ next ⟨rfl,hk,hx⟩ hn
 simp only at hx
 subst hx
 refine zm (fun hc=>?_) (fun hc=>?_)
 ·have hlt:k<l.length:=by simpa using hc
  have:=hl2 _ (List.getElem_mem hlt)
  refine zo k rfl hlt (jj (by simp;omega) (jj (by simp only [List.length_take,List.length_singleton];omega) (zx (by omega) (by omega) (hn hlt _ ⟨by simp,by omega,?_⟩))))
  rw [List.take_succ_eq_append_getElem hlt];rfl
 ·have hge:l.length≤k:=by simpa using hc
  rw [List.take_of_length_le hge];exact h
end
section
open Go Go.Proofs
def tsp (t:jh):List zd:=if t.xNot then yq [zd.mk t.xLo t.xHi] (top t.xField) else [zd.mk t.xLo t.xHi]
theorem zgg {lo hi t:Int} (h0:0≤lo) (h1:lo≤hi) (h2:hi≤t):St [zd.mk lo hi] t:=⟨Uo h1,fun s hs=>by simp only [List.mem_singleton] at hs;subst hs;exact ⟨h0,h2⟩⟩
theorem zde {t:jh} (h:TV t):St (tsp t) (top t.xField):=by
 obtain ⟨h1,h2,h3,h4,h5⟩:=h
 unfold tsp
 split
 ·exact X8 (zgg h3 h4 h5)
 ·exact zgg h3 h4 h5
theorem zh3 (lo hi t:Int):yq [zd.mk lo hi] t=(if 0<lo then [zd.mk 0 (lo - 1)] else [])++(if hi+1≤t then [zd.mk (hi+1) t] else []):=rfl
theorem zg1 (t:jh):(tsp t).length≤2:=by
 unfold tsp
 split
 ·rw [zh3];simp only [List.length_append]
  split <;> split <;> simp
 ·simp
theorem zeE (a:List zd) (y:zd):(zR a [y]).length≤a.length:=by
 induction a with
 | nil=>simp [zR]
 | cons x a ih =>
  have e:zR (x :: a) [y]=YB x y++zR a [y]:=by simp [zR]
  have h1:(YB x y).length≤1:=by unfold YB;split <;> simp
  rw [e];simp only [List.length_append,List.length_cons];omega
theorem zeq {y1 y2:zd} (hy:y1.xHi<y2.xLo):∀ {a:List zd},NF a→(zR a [y1,y2]).length≤a.length+1
 | [],_=>by simp [zR]
 | x :: a,h=>by
  have e:zR (x :: a) [y1,y2]=YB x y1++YB x y2++zR a [y1,y2]:=by simp [zR]
  have h1:∀ y,(YB x y).length≤1:=fun y=>by unfold YB;split <;> simp
  have ih:=zeq hy (UJ h)
  rw [e];simp only [List.length_append,List.length_cons]
  have i1:=h1 y1
  have i2:=h1 y2
  by_cases c:max x.xLo y2.xLo≤min x.xHi y2.xHi
  ·have hg:=(List.pairwise_cons.1 h.2).1
   have e2:zR a [y1,y2]=zR a [y2]:=by
    have:∀ m:List zd,(∀ z∈m,y1.xHi<z.xLo)→zR m [y1,y2]=zR m [y2]:=by
     intro m
     induction m with
     | nil=>intro _;rfl
     | cons z m ihm =>
      intro hz
      have ez:YB z y1=[]:=by unfold YB;rw [if_neg (by have:=hz z (by simp);omega)]
      have:=ihm (fun u hu=>hz u (by simp [hu]))
      simp only [zR,List.flatMap_cons,List.flatMap_nil,List.append_nil] at this ⊢
      rw [ez,this];simp
    exact this a (fun z hz=>by have:=hg z hz;omega)
   have:=zeE a y2
   rw [e2];omega
  ·have:YB x y2=[]:=by unfold YB;rw [if_neg c]
   rw [this];simp only [List.length_nil];omega
theorem zfW {a b:List zd} (ha:NF a) (hb:NF b) (h:b.length≤2):(zR a b).length≤a.length+1:=by
 match b,h,hb with
 | [],_,_ =>
  have:zR a []=[]:=by simp [zR]
  rw [this];simp
 | [y],_,_=>have:=zeE a y;omega
 | [y1,y2],_,hb =>
  have:=(List.pairwise_cons.1 hb.2).1 y2 (by simp)
  exact zeq (by omega) ha
theorem zba {t:jh} (ht:TV t) {κ:List zd→Prop} (h:κ (tsp t)):uy t κ:=by
 obtain ⟨h1,h2,h3,h4,h5⟩:=ht
 have:=VI t.xField
 unfold tsp at h
 unfold uy
 refine zm (fun e=>?_) (fun e=>?_)
 ·have e':t.xNot=false:=by simpa using e
  rw [e'] at h;simpa using h
 ·have e':t.xNot=true:=by simpa using e
  rw [e',if_pos rfl,zh3] at h
  unfold jnW
  refine zm (fun c=>?_) (fun c=>?_)
  ·have c':0<t.xLo:=by simpa using c
   rw [if_pos c'] at h
   refine ZU (by omega) (by omega) (jj (by simp) (yP h1 h2 (zm (fun d=>?_) (fun d=>?_))))
   ·have d':t.xHi<top t.xField:=by simpa using d
    rw [if_pos (by omega)] at h
    exact zx (by omega) (by omega) (jj (by simp) (by simpa using h))
   ·have d':¬ t.xHi<top t.xField:=by simpa using d
    rw [if_neg (by omega)] at h
    simpa using h
  ·have c':¬ 0<t.xLo:=by simpa using c
   rw [if_neg c'] at h
   refine yP h1 h2 (zm (fun d=>?_) (fun d=>?_))
   ·have d':t.xHi<top t.xField:=by simpa using d
    rw [if_pos (by omega)] at h
    exact zx (by omega) (by omega) (jj (by simp) (by simpa using h))
   ·have d':¬ t.xHi<top t.xField:=by simpa using d
    rw [if_neg (by omega)] at h
    simpa using h
theorem zce {t:jh} (ht:TV t) {κ:List zd→Prop} (h:κ (tsp t)):uO t κ:=by
 have ht':=ht
 obtain ⟨h1,h2,h3,h4,h5⟩:=ht
 have:=VI t.xField
 unfold uO
 refine U1 ?_
 rw [decide_eq_true ht']
 refine jR (zm (fun e=>?_) (fun e=>?_))
 ·unfold tsp at h;rw [if_pos e] at h
  exact xA h1 h2 (U7 (zgg h3 h4 h5) (by omega) (by omega) h)
 ·unfold tsp at h;rw [if_neg (by simpa using e)] at h
  exact h
def L4 (a:za):List (List zd):=[a.x0,a.x1,a.x2,a.x3]
def ud (a:za) (f:Int):List zd:=if f=0 then a.x0 else if f=1 then a.x1 else if f=2 then a.x2 else a.x3
def Yj (a:za) (f:Int) (x:List zd):za:=if f=0 then ⟨x,a.x1,a.x2,a.x3⟩ else if f=1 then ⟨a.x0,x,a.x2,a.x3⟩ else if f=2 then ⟨a.x0,a.x1,x,a.x3⟩ else ⟨a.x0,a.x1,a.x2,x⟩
theorem yx {a:za} {f:Int} {κ:List zd→Prop} (h0:0≤f) (h1:f≤3) (h:κ (ud a f)):zI (L4 a) f κ:=by
 rcases zcZ h0 h1 with rfl | rfl | rfl | rfl
 ·exact zo 0 rfl (by simp [L4]) h
 ·exact zo 1 rfl (by simp [L4]) h
 ·exact zo 2 rfl (by simp [L4]) h
 ·exact zo 3 rfl (by simp [L4]) h
theorem UL {a:za} {f:Int} {x:List zd} (h0:0≤f) (h1:f≤3):(L4 a).set f.toNat x=L4 (Yj a f x):=by
 rcases zcZ h0 h1 with rfl | rfl | rfl | rfl <;> rfl
theorem Yk {a:za} (ha:B4 a) {f:Int} (h0:0≤f) (h1:f≤3):St (ud a f) (top f):=by
 obtain ⟨p0,p1,p2,p3⟩:=ha
 rcases zcZ h0 h1 with rfl | rfl | rfl | rfl
 ·exact p0
 ·exact p1
 ·exact p2
 ·exact p3
theorem zgT {a:za} (ha:B4 a) {f:Int} (h0:0≤f) (h1:f≤3) {x:List zd} (hx:St x (top f)):B4 (Yj a f x):=by
 obtain ⟨p0,p1,p2,p3⟩:=ha
 rcases zcZ h0 h1 with rfl | rfl | rfl | rfl
 ·exact ⟨hx,p1,p2,p3⟩
 ·exact ⟨p0,hx,p2,p3⟩
 ·exact ⟨p0,p1,hx,p3⟩
 ·exact ⟨p0,p1,p2,hx⟩
def le4 (a:za) (n:Nat):Prop:=∀ f,0≤f→f≤3→(ud a f).length≤n
theorem zgM {a:za} {n m:Nat} (h:le4 a n) {f:Int} (h0:0≤f) (h1:f≤3) {x:List zd} (hx:x.length≤m) (hm:n≤m):le4 (Yj a f x) m:=by
 intro g g0 g1
 have k:=h g g0 g1
 rcases zcZ h0 h1 with rfl | rfl | rfl | rfl <;> rcases zcZ g0 g1 with rfl | rfl | rfl | rfl <;> first | exact hx | exact Nat.le_trans k hm
theorem zgl {a:za} (h:le4 a 40):F4 a:=⟨h 0 (by decide) (by decide),h 1 (by decide) (by decide),h 2 (by decide) (by decide),h 3 (by decide) (by decide)⟩
def zh7 (a:za) (t:jh):za:=Yj a t.xField (zR (ud a t.xField) (tsp t))
def Zj (ts:List jh):za:=ts.foldl zh7 zaF
theorem zeP:∀ (ts:List jh) (a:za) (n:Nat),(∀ t∈ts,TV t)→B4 a→le4 a n→B4 (ts.foldl zh7 a)∧le4 (ts.foldl zh7 a) (n+ts.length)
 | [],a,n,_,ha,hn=>⟨ha,hn⟩
 | t :: ts,a,n,h,ha,hn=>by
  have ht:=h t (by simp)
  have hs:=Yk ha ht.1 ht.2.1
  have:=zeP ts (zh7 a t) (n+1) (fun u hu=>h u (by simp [hu])) (zgT ha ht.1 ht.2.1 (ZE hs (zde ht).1))
   (zgM hn ht.1 ht.2.1 (Nat.le_trans (zfW hs.1 (zde ht).1 (zg1 t)) (by have:=hn _ ht.1 ht.2.1;omega)) (by omega))
  refine ⟨this.1,?_⟩
  have e:n+(t :: ts).length=n+1+ts.length:=by simp only [List.length_cons];omega
  rw [e];exact this.2
theorem zfo:le4 zaF 1:=fun f h0 h1=>by
 rcases zcZ h0 h1 with rfl | rfl | rfl | rfl <;> decide
theorem zaO {ts:List jh} (h:∀ t∈ts,TV t):B4 (Zj ts):=(zeP ts zaF 1 h zfb zfo).1
theorem zjf {ts:List jh} (h:∀ t∈ts,TV t):le4 (Zj ts) (1+ts.length):=(zeP ts zaF 1 h zfb zfo).2
theorem zen (ts:List jh) (t:jh):Zj (ts++[t])=zh7 (Zj ts) t:=by simp [Zj]
theorem zeR {ts:List jh} (hts:TsV ts) {κ:za→Prop} (hκ:κ (Zj ts)):ZP ts κ:=by
 have h:=hts.1
 have hl:=hts.2
 unfold ZP
 refine zcG ?_
 refine zV ts.length (fun s=>s.2) (fun k s=>s.2=(k:Int)∧k≤ts.length∧s.1=L4 (Zj (ts.take k))) (fun k s h=>h.1) (fun k s h=>h.2.1) ?_ ⟨rfl,Nat.zero_le _,by simp [Zj,L4]⟩
 rintro k ⟨xs,t⟩ next ⟨rfl,hk,hx⟩ hn
 simp only at hx
 subst hx
 refine zm (fun hc=>?_) (fun hc=>?_)
 ·have hlt:k<ts.length:=by simpa using hc
  have ht:=h _ (List.getElem_mem hlt)
  have hpre:∀ t∈ts.take k,TV t:=fun t ht=>h t (List.mem_of_mem_take ht)
  have hb:=zaO hpre
  have hs:=Yk hb ht.1 ht.2.1
  have hle:=zjf hpre _ ht.1 ht.2.1
  have hml:=zfW hs.1 (zde ht).1 (zg1 ts[k])
  have htop:=VI ts[k].xField
  simp only [List.length_take] at hle
  have hlim:lim (zR (ud (Zj (ts.take k)) ts[k].xField) (tsp ts[k]))=(zR (ud (Zj (ts.take k)) ts[k].xField) (tsp ts[k]),true):=by
   unfold lim;rw [if_neg (by omega)]
  refine zo k rfl hlt ?_
  unfold jnW
  have fin:zD (ud (Zj (ts.take k)) ts[k].xField) (tsp ts[k]) (top ts[k].xField) (fun (r49,r51)=>zI (L4 (Zj (ts.take k))) ts[k].xField (fun e52=>jo (k:Int) 1 (fun t76=>next ((L4 (Zj (ts.take k))).set (ts[k].xField).toNat r49,t76)))):=by
   refine X6 hs (zde ht) (by omega) (by omega) ?_
   rw [hlim]
   refine yx ht.1 ht.2.1 (zx (by omega) (by omega) (hn hlt _ ⟨by simp,by omega,?_⟩))
   simp only
   rw [UL ht.1 ht.2.1,List.take_succ_eq_append_getElem hlt,zen];rfl
  exact ⟨yx ht.1 ht.2.1 (zba ht (yP ht.1 ht.2.1 fin)),zba ht ⟨yx ht.1 ht.2.1 (yP ht.1 ht.2.1 fin),yP ht.1 ht.2.1 (yx ht.1 ht.2.1 fin)⟩⟩
 ·have hge:ts.length≤k:=by simpa using hc
  rw [List.take_of_length_le hge]
  exact ⟨_,_,_,_,rfl,hκ⟩
theorem zgk {ts:List jh} (hts:TsV ts) {κ:zU→Prop} (hκ:κ (bx (Zj ts))):XR ts κ:=by
 have h:=hts.1
 have hl:=hts.2
 unfold XR
 refine UI (by omega) ?_
 rw [decide_eq_true hts]
 refine jR (zfC ?_)
 refine zV ts.length (fun s=>s.2) (fun k s=>s.2=(k:Int)∧k≤ts.length∧s.1=L4 (Zj (ts.take k))) (fun k s h=>h.1) (fun k s h=>h.2.1) ?_ ⟨rfl,Nat.zero_le _,by simp [Zj,L4,bx]⟩
 rintro k ⟨xs,t⟩ next ⟨rfl,hk,hx⟩ hn
 simp only at hx
 subst hx
 refine zm (fun hc=>?_) (fun hc=>?_)
 ·have hlt:k<ts.length:=by simpa using hc
  have ht:=h _ (List.getElem_mem hlt)
  have hpre:∀ t∈ts.take k,TV t:=fun t ht=>h t (List.mem_of_mem_take ht)
  have hb:=zaO hpre
  have hs:=Yk hb ht.1 ht.2.1
  have htop:=VI ts[k].xField
  refine zo k rfl hlt ?_
  unfold jnW
  refine zo k rfl hlt ?_
  have fin:xu (ud (Zj (ts.take k)) ts[k].xField) (tsp ts[k]) (fun r40=>zI (L4 (Zj (ts.take k))) ts[k].xField (fun e42=>jo (k:Int) 1 (fun t58=>next ((L4 (Zj (ts.take k))).set (ts[k].xField).toNat r40,t58)))):=by
   refine Zg hs (zde ht) (by omega) (by omega) (by omega) (by omega) ?_
   refine yx ht.1 ht.2.1 (zx (by omega) (by omega) (hn hlt _ ⟨by simp,by omega,?_⟩))
   simp only
   rw [UL ht.1 ht.2.1,List.take_succ_eq_append_getElem hlt,zen];rfl
  exact ⟨yx ht.1 ht.2.1 (zce ht fin),zce ht (yx ht.1 ht.2.1 fin)⟩
 ·have hge:ts.length≤k:=by simpa using hc
  rw [List.take_of_length_le hge]
  exact hκ
def pc (r:List zd) (a:za):List za:=if r=[] then [] else [a]
def XD (a b:za):List za :=
 if em4 (ur a b) then (if em4 a then [] else [a]) else
 pc (xi a.x0 b.x0 65535) ⟨xi a.x0 b.x0 65535,a.x1,a.x2,a.x3⟩ ++
 pc (xi a.x1 b.x1 65535) ⟨zR a.x0 b.x0,xi a.x1 b.x1 65535,a.x2,a.x3⟩ ++
 pc (xi a.x2 b.x2 255) ⟨zR a.x0 b.x0,zR a.x1 b.x1,xi a.x2 b.x2 255,a.x3⟩ ++
 pc (xi a.x3 b.x3 7) ⟨zR a.x0 b.x0,zR a.x1 b.x1,zR a.x2 b.x2,xi a.x3 b.x3 7⟩
theorem U8 {a b:List zd} {t:Int} (ha:St a t) (hb:St b t):St (xi a b t) t:=ZE ha (X8 hb).1
theorem zi8 {a b:za} (ha:B4 a) (hb:B4 b):∀ c∈XD a b,B4 c:=by
 have hm:=zfx ha hb
 intro c hc
 unfold XD at hc
 split at hc
 ·split at hc
  ·simp at hc
  ·simp only [List.mem_singleton] at hc;subst hc;exact ha
 ·simp only [List.mem_append,or_assoc] at hc
  have pcm:∀ {r:List zd} {d:za},c∈pc r d→c=d:=fun {r d} h=>by unfold pc at h;split at h <;> simp at h;exact h
  rcases hc with h | h | h | h
  ·rw [pcm h];exact ⟨U8 ha.1 hb.1,ha.2.1,ha.2.2.1,ha.2.2.2⟩
  ·rw [pcm h];exact ⟨hm.1,U8 ha.2.1 hb.2.1,ha.2.2.1,ha.2.2.2⟩
  ·rw [pcm h];exact ⟨hm.1,hm.2.1,U8 ha.2.2.1 hb.2.2.1,ha.2.2.2⟩
  ·rw [pcm h];exact ⟨hm.1,hm.2.1,hm.2.2.1,U8 ha.2.2.2 hb.2.2.2⟩
theorem Ur (r:List zd) (a:za):(pc r a).length≤1:=by unfold pc;split <;> simp
theorem VS (a b:za):(XD a b).length≤4:=by
 unfold XD
 split
 ·split <;> simp
 ·simp only [List.length_append]
  have:=Ur (xi a.x0 b.x0 65535) ⟨xi a.x0 b.x0 65535,a.x1,a.x2,a.x3⟩
  have:=Ur (xi a.x1 b.x1 65535) ⟨zR a.x0 b.x0,xi a.x1 b.x1 65535,a.x2,a.x3⟩
  have:=Ur (xi a.x2 b.x2 255) ⟨zR a.x0 b.x0,zR a.x1 b.x1,xi a.x2 b.x2 255,a.x3⟩
  have:=Ur (xi a.x3 b.x3 7) ⟨zR a.x0 b.x0,zR a.x1 b.x1,zR a.x2 b.x2,xi a.x3 b.x3 7⟩
  omega
theorem zfp {l:List zd} {t:Int} (h:St l t) (h0:0≤t) (ht:t≤65535):l.length≤4294967296:=by
 have:=Un h (by omega);omega
theorem zaJ {a:za} (h:B4 a):∀ x∈L4 a,x.length≤4294967296:=by
 obtain ⟨p0,p1,p2,p3⟩:=h
 intro x hx
 simp only [L4,List.mem_cons,List.not_mem_nil,or_false] at hx
 rcases hx with rfl | rfl | rfl | rfl
 ·exact zfp p0 (by decide) (by decide)
 ·exact zfp p1 (by decide) (by decide)
 ·exact zfp p2 (by decide) (by decide)
 ·exact zfp p3 (by decide) (by decide)
theorem xR {σ:Type} {K:σ→Prop} {B:(σ→Prop)→Prop} (h:B K):jnW K B:=h
theorem Vk {a:za} (ha:B4 a) {t:Int} (h0:0≤t) (h1:t≤3) {r:List zd} {out:List zU} (ho:out.length≤1000) {K:List zU→Prop} (h:K (out++(pc r (Yj a t r)).map bx)) :
  jnW K (fun k235=>ifW (decide (0<(r.length:Int))) (xK (L4 a) (fun r149=>zI r149 t (fun _=>jG out ([(zU.mk (r149.set (t).toNat r))]) (fun _=>k235 (out++([(zU.mk (r149.set (t).toNat r))])))))) (k235 out)):=by
 refine zm (fun e=>?_) (fun e=>?_)
 ·have hr:r≠[]:=by intro f;subst f;simp at e
  refine u6 (by simp [L4]) (zaJ ha) (yx h0 h1 (jj (by simp only [List.length_singleton];omega) ?_))
  unfold pc at h
  rw [if_neg hr] at h
  rw [UL h0 h1];exact h
 ·have hr:r=[]:=by simpa using e
  unfold pc at h
  rw [if_pos hr] at h
  simpa using h
theorem zdE {a b:za} (ha:B4 a) (hb:B4 b) {κ:List zU→Prop} (h:κ ((XD a b).map bx)):yj (bx a) (bx b) κ:=by
 unfold yj
 refine zeA ha hb (Vm (zm (fun e=>?_) (fun e=>?_)))
 ·unfold XD at h;rw [if_pos e] at h
  unfold jnW
  refine Vm (zm (fun e2=>?_) (fun e2=>?_))
  ·rw [if_neg (by simpa using e2)] at h;exact jj (by simp) h
  ·rw [if_pos (by simpa using e2)] at h;exact h
 unfold XD at h;rw [if_neg (by simp [e])] at h
 clear e
 obtain ⟨a0,a1,a2,a3⟩:=a
 obtain ⟨b0,b1,b2,b3⟩:=b
 have ha0:=ha
 obtain ⟨p0,p1,p2,p3⟩:=ha
 obtain ⟨q0,q1,q2,q3⟩:=hb
 simp only at p0 p1 p2 p3 q0 q1 q2 q3 h
 have m0:=ZE p0 q0.1
 have m1:=ZE p1 q1.1
 have m2:=ZE p2 q2.1
 refine ⟨5,?_⟩
 refine jt (xR (xR ?_))
 refine zo 0 rfl (by simp [L4,bx]) (zo 0 rfl (by simp [L4,bx]) (xA (n:=(0:Int)) (by decide) (by decide) (U7 (top:=65535) q0 (by decide) (by decide) (Zg p0 (X8 q0) (by decide) (by decide) (by decide) (by decide) ?_))))
 refine zo 0 rfl (by simp [L4,bx]) (zo 0 rfl (by simp [L4,bx]) (Zg p0 q0 (by decide) (by decide) (by decide) (by decide) (Vk (a:=⟨a0,a1,a2,a3⟩) ha0 (t:=(0:Int)) (by decide) (by decide) (by simp) ?_)))
 refine u6 (l:=L4 ⟨a0,a1,a2,a3⟩) (by simp [L4,bx]) (zaJ ha0) (yx (a:=⟨a0,a1,a2,a3⟩) (f:=(0:Int)) (by decide) (by decide) (zx (by decide) (by decide) ?_))
 have c1:B4 ⟨zR a0 b0,a1,a2,a3⟩:=⟨m0,p1,p2,p3⟩
 refine jt (xR (xR ?_))
 refine zo 1 rfl (by simp [L4,bx]) (zo 1 rfl (by simp [L4,bx]) (xA (n:=(1:Int)) (by decide) (by decide) (U7 (top:=65535) q1 (by decide) (by decide) (Zg p1 (X8 q1) (by decide) (by decide) (by decide) (by decide) ?_))))
 refine zo 1 rfl (by simp [L4,bx]) (zo 1 rfl (by simp [L4,bx]) (Zg p1 q1 (by decide) (by decide) (by decide) (by decide) (Vk (a:=⟨zR a0 b0,a1,a2,a3⟩) c1 (t:=(1:Int)) (by decide) (by decide) (by have:=Ur (zR a0 (yq b0 65535)) (Yj ⟨a0,a1,a2,a3⟩ 0 (zR a0 (yq b0 65535)));simp only [List.length_append,List.length_map,List.length_nil];omega) ?_)))
 refine u6 (l:=L4 ⟨zR a0 b0,a1,a2,a3⟩) (by simp [L4,bx]) (zaJ c1) (yx (a:=⟨zR a0 b0,a1,a2,a3⟩) (f:=(1:Int)) (by decide) (by decide) (zx (by decide) (by decide) ?_))
 have c2:B4 ⟨zR a0 b0,zR a1 b1,a2,a3⟩:=⟨m0,m1,p2,p3⟩
 refine jt (xR (xR ?_))
 refine zo 2 rfl (by simp [L4,bx]) (zo 2 rfl (by simp [L4,bx]) (xA (n:=(2:Int)) (by decide) (by decide) (U7 (top:=255) q2 (by decide) (by decide) (Zg p2 (X8 q2) (by decide) (by decide) (by decide) (by decide) ?_))))
 refine zo 2 rfl (by simp [L4,bx]) (zo 2 rfl (by simp [L4,bx]) (Zg p2 q2 (by decide) (by decide) (by decide) (by decide) (Vk (a:=⟨zR a0 b0,zR a1 b1,a2,a3⟩) c2 (t:=(2:Int)) (by decide) (by decide) (by
  have:=Ur (zR a0 (yq b0 65535)) (Yj ⟨a0,a1,a2,a3⟩ 0 (zR a0 (yq b0 65535)))
  have:=Ur (zR a1 (yq b1 65535)) (Yj ⟨zR a0 b0,a1,a2,a3⟩ 1 (zR a1 (yq b1 65535)))
  simp only [List.length_append,List.length_map,List.length_nil];omega) ?_)))
 refine u6 (l:=L4 ⟨zR a0 b0,zR a1 b1,a2,a3⟩) (by simp [L4,bx]) (zaJ c2) (yx (a:=⟨zR a0 b0,zR a1 b1,a2,a3⟩) (f:=(2:Int)) (by decide) (by decide) (zx (by decide) (by decide) ?_))
 have c3:B4 ⟨zR a0 b0,zR a1 b1,zR a2 b2,a3⟩:=⟨m0,m1,m2,p3⟩
 refine jt (xR (xR ?_))
 refine zo 3 rfl (by simp [L4,bx]) (zo 3 rfl (by simp [L4,bx]) (xA (n:=(3:Int)) (by decide) (by decide) (U7 (top:=7) q3 (by decide) (by decide) (Zg p3 (X8 q3) (by decide) (by decide) (by decide) (by decide) ?_))))
 refine zo 3 rfl (by simp [L4,bx]) (zo 3 rfl (by simp [L4,bx]) (Zg p3 q3 (by decide) (by decide) (by decide) (by decide) (Vk (a:=⟨zR a0 b0,zR a1 b1,zR a2 b2,a3⟩) c3 (t:=(3:Int)) (by decide) (by decide) (by
  have:=Ur (zR a0 (yq b0 65535)) (Yj ⟨a0,a1,a2,a3⟩ 0 (zR a0 (yq b0 65535)))
  have:=Ur (zR a1 (yq b1 65535)) (Yj ⟨zR a0 b0,a1,a2,a3⟩ 1 (zR a1 (yq b1 65535)))
  have:=Ur (zR a2 (yq b2 255)) (Yj ⟨zR a0 b0,zR a1 b1,a2,a3⟩ 2 (zR a2 (yq b2 255)))
  simp only [List.length_append,List.length_map,List.length_nil];omega) ?_)))
 refine u6 (l:=L4 ⟨zR a0 b0,zR a1 b1,zR a2 b2,a3⟩) (by simp [L4,bx]) (zaJ c3) (yx (a:=⟨zR a0 b0,zR a1 b1,zR a2 b2,a3⟩) (f:=(3:Int)) (by decide) (by decide) (zx (by decide) (by decide) ?_))
 refine jR ?_
 simp only [List.map_append] at h
 exact h
end
section
open Go Go.Proofs
def hdm (a b:za) (k:Nat):za:=⟨if 0<k then zR a.x0 b.x0 else a.x0,if 1<k then zR a.x1 b.x1 else a.x1,if 2<k then zR a.x2 b.x2 else a.x2,if 3<k then zR a.x3 b.x3 else a.x3⟩
def rst (a b:za) (k:Nat):List zd:=xi (ud a k) (ud b k) (top k)
def mt (a b:za) (k:Nat):List zd:=zR (ud a k) (ud b k)
def pcn (a b:za) (k:Nat):List za:=pc (rst a b k) (Yj (hdm a b k) k (rst a b k))
def pcs (a b:za) (k:Nat):List za:=(List.range k).flatMap (pcn a b)
theorem Uw (a b:za) (k:Nat):pcs a b (k+1)=pcs a b k++pcn a b k:=by simp [pcs,List.range_succ]
theorem ziL (a b:za):pcs a b 4=pc (xi a.x0 b.x0 65535) ⟨xi a.x0 b.x0 65535,a.x1,a.x2,a.x3⟩ ++
 pc (xi a.x1 b.x1 65535) ⟨zR a.x0 b.x0,xi a.x1 b.x1 65535,a.x2,a.x3⟩ ++
 pc (xi a.x2 b.x2 255) ⟨zR a.x0 b.x0,zR a.x1 b.x1,xi a.x2 b.x2 255,a.x3⟩ ++
 pc (xi a.x3 b.x3 7) ⟨zR a.x0 b.x0,zR a.x1 b.x1,zR a.x2 b.x2,xi a.x3 b.x3 7⟩:=by
 rw [Uw,Uw,Uw,Uw];rfl
theorem zh0 {a b:za} (h:em4 (ur a b)=false):XD a b=pcs a b 4:=by
 unfold XD;rw [if_neg (by simp [h]),ziL]
theorem VG {k:Nat} (h:k<4):k=0∨k=1∨k=2∨k=3:=by omega
theorem zjg (a b:za) {k:Nat} (h:k<4):∀ c∈pcn a b k,c∈pcs a b 4:=fun c hc=>by
 unfold pcs;exact List.mem_flatMap.2 ⟨k,by simpa using h,hc⟩
theorem ziT (a b:za) {k:Nat} (h:k<4):Yj (hdm a b k) k (mt a b k)=hdm a b (k+1):=by
 rcases VG h with rfl | rfl | rfl | rfl <;> rfl
theorem zka {a b:za} (ha:F4 a) {k:Nat} (h:k<4) {r:List zd}:F4 (Yj (hdm a b k) k r)↔r.length≤40∧∀ j,j<k→(mt a b j).length≤40:=by
 obtain ⟨h0,h1,h2,h3⟩:=ha
 rcases VG h with rfl | rfl | rfl | rfl
 ·constructor
  ·intro q;exact ⟨q.1,fun j hj=>by omega⟩
  ·intro q;exact ⟨q.1,h1,h2,h3⟩
 ·constructor
  ·intro q
   refine ⟨q.2.1,fun j hj=>?_⟩
   have ej:j=0:=by omega
   subst ej
   exact q.1
  ·intro q;exact ⟨q.2 0 (by omega),q.1,h2,h3⟩
 ·constructor
  ·intro q
   refine ⟨q.2.2.1,fun j hj=>?_⟩
   obtain rfl | rfl:j=0∨j=1:=by omega
   ·exact q.1
   ·exact q.2.1
  ·intro q;exact ⟨q.2 0 (by omega),q.2 1 (by omega),q.1,h3⟩
 ·constructor
  ·intro q
   refine ⟨q.2.2.2,fun j hj=>?_⟩
   obtain rfl | rfl | rfl:j=0∨j=1∨j=2:=by omega
   ·exact q.1
   ·exact q.2.1
   ·exact q.2.2.1
  ·intro q;exact ⟨q.2 0 (by omega),q.2 1 (by omega),q.2 2 (by omega),q.1⟩
theorem zez {σ:Type} {K:σ→Prop} {B:(σ→Prop)→Prop} (P:σ→Prop) (h1:∀ r,P r→K r) (h2:∀ K',(∀ r,P r→K' r)→B K'):jnW K B:=h2 K h1
def zds (a b:za):List za×Bool:=if ∀ c∈XD a b,F4 c then (XD a b,true) else ([],false)
theorem zcT {a b:za} (ha:B4 a) (hb:B4 b) (hf:F4 a) {κ:List za×Bool→Prop} (h:κ (zds a b)):uL a b κ:=by
 have yes:(∀ c∈XD a b,F4 c)→κ (zkq (some (XD a b))):=fun q=>by
  unfold zds at h;rw [if_pos q] at h;exact h
 have no:(¬ ∀ c∈XD a b,F4 c)→κ (zkq none):=fun q=>by
  unfold zds at h;rw [if_neg q] at h;exact h
 clear h
 unfold uL ZL
 refine zdH (zm (fun e=>?_) (fun e=>zex ha hb (zm (fun e2=>?_) (fun e2=>?_))))
 ·have hc:XD a b=[]:=by
   have:em4 (ur a b)=true:=by
    simp only [em4,decide_eq_true_eq,ur] at e ⊢
    rcases e with e | e | e | e <;> simp [e,zR]
   unfold XD;rw [if_pos this,if_pos e]
  rw [hc] at yes;exact yes (by simp)
 ·have hc:XD a b=[a]:=by
   unfold XD;rw [if_pos (by simpa using e2),if_neg (by simp [e])]
  rw [hc] at yes
  refine jt (jj (by simp) ?_)
  exact yes (by simpa using hf)
 have e3:em4 (ur a b)=false:=by simpa using e2
 rw [zh0 e3] at yes no
 clear e e2 e3
 refine zV 4 (fun s=>s.2.2.2) (fun k (s:List (List zd)×Option (List za)×Bool×Int)=>s.2.2.2=(k:Int)∧k≤4∧(∃ hd,s.1=L4 hd∧(s.2.2.1=true→hd=hdm a b k))∧(s.2.2.1=true↔∀ j,j<k→(mt a b j).length≤40)∧s.2.1=some (pcs a b k)∧∀ c∈pcs a b k,F4 c) (fun k s h=>h.1) (fun k s h=>h.2.1) ?_ ⟨rfl,by omega,⟨a,rfl,fun _=>rfl⟩,by simp,rfl,by simp [pcs]⟩
 rintro k ⟨xs,z,fits,_⟩ next ⟨rfl,hk,⟨hd,hxs,hfx⟩,hfit,hz,hpre⟩ hn
 simp only at hxs hfx hfit hz
 subst hxs hz
 refine zm (fun hc=>?_) (fun hc=>?_)
 rotate_left
 ·have hge:4≤(k:Int):=by simpa using hc
  obtain rfl:k=4:=by omega
  exact yes hpre
 have hlt:k<4:=by
  have:(k:Int)<4:=by simpa using hc
  omega
 have k0:(0:Int)≤k:=by omega
 have k3:(k:Int)≤3:=by omega
 have sa:=Yk ha k0 k3
 have sb:=Yk hb k0 k3
 have tl:=VI k
 have fin2:∀ (z':List za) (hd':za),z'=pcs a b (k+1)→(∀ c∈z',F4 c)→(fits=true→hd'=hdm a b k)→∀ l ok,(l,ok)=lim (mt a b k)→zI (L4 hd') k (fun e432=>ifW fits (jo (k:Int) 1 (fun t505=>next ((L4 hd').set (k:Int).toNat l,some z',ok,t505))) (jo (k:Int) 1 (fun t505=>next ((L4 hd').set (k:Int).toNat l,some z',false,t505)))):=by
  intro z' hd' hz' hF hh l ok hl
  subst hz'
  refine yx k0 k3 (zm (fun e=>?_) (fun e=>?_))
  ·refine zx (by omega) (by omega) (hn hlt _ ⟨by simp,by omega,⟨Yj hd' k l,UL k0 k3,fun q=>?_⟩,?_,rfl,hF⟩)
   ·simp only at q
    rw [hh e]
    unfold lim at hl
    split at hl
    ·injection hl with _ h2;rw [q] at h2;cases h2
    ·injection hl with h1 _;rw [h1,ziT a b hlt]
   ·simp only
    unfold lim at hl
    constructor
    ·intro q j hj
     by_cases ej:j=k
     ·subst ej
      split at hl
      ·injection hl with _ h2;rw [q] at h2;cases h2
      ·omega
     ·exact hfit.1 e j (by omega)
    ·intro q
     have:=q k (by omega)
     rw [if_neg (by omega)] at hl
     injection hl
  ·refine zx (by omega) (by omega) (hn hlt _ ⟨by simp,by omega,⟨Yj hd' k l,UL k0 k3,fun q=>by cases q⟩,?_,rfl,hF⟩)
   simp only
   constructor
   ·intro q;cases q
   ·intro q
    have:=hfit.2 (fun j hj=>q j (by omega))
    rw [this] at e;cases e
 have piece:rst a b k≠[]→Yj (hdm a b k) k (rst a b k)∈pcs a b 4:=fun q=>zjg a b hlt _ (by unfold pcn pc;rw [if_neg q];simp)
 refine xR (zez (fun r=>r=lim (rst a b k)) ?_ ?_)
 rotate_left
 ·intro K hK
  have leaf:ja (ud a k) (ud b k) (top k) K:=zfH sa sb (by omega) (by omega) (hK _ rfl)
  refine ⟨yx k0 k3 ⟨?_,?_⟩,yx k0 k3 ⟨?_,?_⟩,yP k0 k3 ⟨?_,?_⟩⟩
  ·exact yx k0 k3 (yP k0 k3 leaf)
  ·exact yP k0 k3 (yx k0 k3 leaf)
  ·exact yx k0 k3 (yP k0 k3 leaf)
  ·exact yP k0 k3 (yx k0 k3 leaf)
  ·exact yx k0 k3 (yx k0 k3 leaf)
  ·exact yx k0 k3 (yx k0 k3 leaf)
 rintro ⟨l,okl⟩ hl
 refine zez (fun t=>t=(!okl || (decide (0<(l.length:Int)) && !fits))) ?_ ?_
 rotate_left
 ·intro K hK
  have hK:=hK _ rfl
  refine zm (fun e=>?_) (fun e=>?_)
  ·have:okl=false:=by simpa using e
   rw [this] at hK;simpa using hK
  ·have:okl=true:=by simpa using e
   rw [this] at hK
   refine zm (fun e=>?_) (fun e=>?_)
   ·rw [e] at hK;simpa using hK
   ·rw [e] at hK;simpa using hK
 rintro t rfl
 refine zm (fun e=>?_) (fun e=>?_)
 ·
  refine jR (no (fun q=>?_))
  unfold lim at hl
  split at hl
  ·rename_i h40
   have hne:rst a b k≠[]:=fun f=>by rw [f] at h40;simp at h40
   have:=((zka hf hlt).1 (q _ (piece hne))).1
   omega
  ·rename_i h40
   injection hl with h1 h2
   subst h1 h2
   have e':0<(rst a b k).length∧fits=false:=by simpa using e
   have hne:rst a b k≠[]:=fun f=>by rw [f] at e';simp at e'
   have:=hfit.2 ((zka hf hlt).1 (q _ (piece hne))).2
   rw [this] at e';simp at e'
 unfold lim at hl
 split at hl
 ·injection hl with h1 h2
  subst h1 h2
  simp at e
 rename_i h40
 injection hl with h1 h2
 subst h1 h2
 have e':rst a b k≠[]→fits=true:=fun q=>by
  cases fits with
  | true=>rfl
  | false =>
   have:0<(rst a b k).length:=List.length_pos_iff.2 q
   simp [this] at e
 clear e
 refine zez (fun s=>s.1=some (pcs a b (k+1))∧(∀ c∈pcs a b (k+1),F4 c)∧∃ hd',s.2=L4 hd'∧(fits=true→hd'=hdm a b k)) ?_ ?_
 ·rintro ⟨z,ys⟩ ⟨hz,hF,hd',hy,hh⟩
  simp only at hz hy
  subst hz hy
  refine zez (fun r=>r=lim (mt a b k)) ?_ ?_
  ·rintro ⟨m,okm⟩ hm
   exact fin2 _ hd' rfl hF hh m okm hm
  ·intro K hK
   have leaf:zD (ud a k) (ud b k) (top k) K:=X6 sa sb (by omega) (by omega) (hK _ rfl)
   refine ⟨yx k0 k3 ⟨?_,?_⟩,yx k0 k3 ⟨?_,?_⟩,yP k0 k3 ⟨?_,?_⟩⟩
   ·exact yx k0 k3 (yP k0 k3 leaf)
   ·exact yP k0 k3 (yx k0 k3 leaf)
   ·exact yx k0 k3 (yP k0 k3 leaf)
   ·exact yP k0 k3 (yx k0 k3 leaf)
   ·exact yx k0 k3 (yx k0 k3 leaf)
   ·exact yx k0 k3 (yx k0 k3 leaf)
 ·intro K hK
  refine zm (fun e=>?_) (fun e=>?_)
  ·have hne:rst a b k≠[]:=fun f=>by rw [f] at e;simp at e
   have hft:=e' hne
   have ed:=hfx hft
   subst ed
   have hpc:pcs a b (k+1)=pcs a b k++[Yj (hdm a b k) k (rst a b k)]:=by
    rw [Uw];unfold pcn pc;rw [if_neg hne]
   refine ⟨_,_,_,_,rfl,yx (a:=hdm a b k) k0 k3 ⟨(Yj (hdm a b k) k (rst a b k)).x0,(Yj (hdm a b k) k (rst a b k)).x1,(Yj (hdm a b k) k (rst a b k)).x2,(Yj (hdm a b k) k (rst a b k)).x3,UL (a:=hdm a b k) k0 k3,?_⟩⟩
   have hl1:(pcs a b k).length≤4:=by
    have h1:∀ n,(pcs a b n).length≤n:=by
     intro n
     induction n with
     | zero=>simp [pcs]
     | succ n ih =>
      have:=Ur (rst a b n) (Yj (hdm a b n) n (rst a b n))
      rw [Uw,List.length_append];unfold pcn;omega
    have:=h1 k;omega
   refine jt (jj (by simp;omega) (jR (hK _ ⟨by rw [hpc],?_,hdm a b k,rfl,fun _=>rfl⟩)))
   intro c hc
   rw [hpc] at hc
   rcases List.mem_append.1 hc with q | q
   ·exact hpre c q
   ·have:c=Yj (hdm a b k) k (rst a b k):=by simpa using q
    rw [this]
    exact (zka hf hlt).2 ⟨by omega,hfit.1 hft⟩
  ·have hnil:rst a b k=[]:=by
    cases hr:rst a b k with
    | nil=>rfl
    | cons x r=>rw [hr] at e;simp at e
   have hpc:pcs a b (k+1)=pcs a b k:=by
    rw [Uw];unfold pcn pc;rw [if_pos hnil];simp
   exact hK _ ⟨by rw [hpc],by rw [hpc];exact hpre,hd,rfl,hfx⟩
end
section
def pv (p:uG):Prop:=(0≤p.xFrom∧p.xFrom≤65535)∧(0≤p.xTo∧p.xTo≤65535)∧(0≤p.xPort∧p.xPort≤255)∧(0≤p.xProto∧p.xProto≤7)
instance (p:uG):Decidable (pv p):=by unfold pv;infer_instance
def tv (t:Int):Prop:=0≤t∧t≤1000000
instance (t:Int):Decidable (tv t):=by unfold tv;infer_instance
def zh4 (p:uG):Nat→Int
 | 0=>p.xFrom
 | 1=>p.xTo
 | 2=>p.xPort
 | _=>p.xProto
def lv (t:Int):Prop:=0≤t∧t≤1000
instance (t:Int):Decidable (lv t):=by unfold lv;infer_instance
end
section
open Go Go.Proofs
def BV (b:zU):Prop:=∃ a,b=bx a∧B4 a∧F4 a
noncomputable instance (b:zU):Decidable (BV b):=Classical.propDecidable _
def sd (b:zU):za:=match b.xSides with | [x0,x1,x2,x3]=>⟨x0,x1,x2,x3⟩ | _=>zcb
theorem BV.eq {b:zU} (h:BV b):b=bx (sd b):=by obtain ⟨a,rfl,_⟩:=h;rfl
theorem BV.b4 {b:zU} (h:BV b):B4 (sd b):=by obtain ⟨a,rfl,h,_⟩:=h;exact h
theorem BV.f4 {b:zU} (h:BV b):F4 (sd b):=by obtain ⟨a,rfl,_,h⟩:=h;exact h
theorem zc9 {a:za}:BV (bx a)↔B4 a∧F4 a:=⟨fun h=>⟨h.b4,h.f4⟩,fun h=>⟨a,rfl,h⟩⟩
theorem zh8 {b:zU} (h:BV b):b.xSides.length=4:=by obtain ⟨a,rfl,_⟩:=h;rfl
theorem zk7 {α:Type} {l:List α} (h:l.length=4):∃ a b c d,l=[a,b,c,d]:=by
 match l,h with
 | [a,b,c,d],_=>exact ⟨a,b,c,d,rfl⟩
theorem zli {b:zU} (h:b.xSides.length=4):b=bx (sd b):=by
 obtain ⟨x0,x1,x2,x3,e⟩:=zk7 h
 obtain ⟨s⟩:=b
 simp only at e
 subst e
 rfl
theorem zie {a:za}:BV (bx a)↔∀ n:Nat,n<4→SpV (ud a n) (top n):=by
 rw [zc9]
 constructor
 ·rintro ⟨⟨b0,b1,b2,b3⟩,f0,f1,f2,f3⟩ n hn
  rcases VG hn with rfl | rfl | rfl | rfl
  ·exact ⟨f0,b0⟩
  ·exact ⟨f1,b1⟩
  ·exact ⟨f2,b2⟩
  ·exact ⟨f3,b3⟩
 ·intro h
  obtain ⟨f0,b0⟩:=h 0 (by decide)
  obtain ⟨f1,b1⟩:=h 1 (by decide)
  obtain ⟨f2,b2⟩:=h 2 (by decide)
  obtain ⟨f3,b3⟩:=h 3 (by decide)
  exact ⟨⟨b0,b1,b2,b3⟩,f0,f1,f2,f3⟩
def Bb (b:zU):Prop:=b.xSides.length≤4294967296∧∀ x∈b.xSides,x.length≤4294967296
def Fb (l:List zB):Prop:=l.length≤4294967296∧∀ f∈l,Bb f.xWhere
theorem BV.bb {b:zU} (h:BV b):Bb b:=by
 obtain ⟨a,rfl,_,f0,f1,f2,f3⟩:=h
 refine ⟨by simp [bx],fun x hx=>?_⟩
 simp only [bx,List.mem_cons,List.not_mem_nil,or_false] at hx
 rcases hx with rfl | rfl | rfl | rfl <;> omega
theorem yB {b:zU} (hb:Bb b) {κ:Bool→Prop} (h:κ (decide (BV b))):ul b κ:=by
 unfold ul
 have h1:=hb.1
 refine zV b.xSides.length (fun s=>s) (fun k s=>s=(k:Int)∧k≤b.xSides.length∧k≤4∧∀ n:Nat,n<k→∀ q:n<b.xSides.length,SpV (b.xSides[n]) (top n)) (fun k s h=>h.1) (fun k s h=>h.2.1) ?_ ⟨rfl,by omega,by omega,fun n h=>by omega⟩
 rintro k _ next ⟨rfl,hk,hk4,hv⟩ hn
 refine zm (fun hc=>?_) (fun hc=>?_)
 ·have hlt:k<b.xSides.length:=by simpa using hc
  refine xR (zm (fun e=>?_) (fun e=>?_))
  ·have e':4≤k:=by
    have:(4:Int)≤k:=by simpa using e
    omega
   rw [decide_eq_false (fun q=>by have:=zh8 q;omega)] at h
   exact jt h
  have e':k<4:=by
   have:¬ (4:Int)≤k:=by simpa using e
   omega
  have k0:(0:Int)≤k:=by omega
  have k3:(k:Int)≤3:=by omega
  have tl:=VI k
  refine zo k rfl hlt (xA k0 k3 (Yu (hb.2 _ (List.getElem_mem hlt)) (by omega) (by omega) (zm (fun e=>?_) (fun e=>?_))))
  ·have no:¬ SpV (b.xSides[k]) (top k):=by simpa using e
   rw [decide_eq_false (fun q=>no ?_)] at h
   ·exact h
   ·obtain ⟨a,rfl,_⟩:=id q
    have:=zie.1 q k e'
    have e2:(bx a).xSides[k]=ud a k:=by rcases VG e' with rfl | rfl | rfl | rfl <;> rfl
    rw [e2];exact this
  ·have yes:SpV (b.xSides[k]) (top k):=by simpa using e
   refine zx (by omega) (by omega) (hn hlt _ ⟨by simp,by omega,by omega,fun n hnk q=>?_⟩)
   by_cases e:n=k
   ·subst e;exact yes
   ·exact hv n (by omega) q
 ·have hge:b.xSides.length=k:=by
   have:b.xSides.length≤k:=by simpa using hc
   omega
  have:decide (BV b)=decide ((b.xSides.length:Int)=4):=decide_eq_decide.2 ⟨fun q=>by have:=zh8 q;omega,fun q=>by
   have e4:b.xSides.length=4:=by omega
   obtain ⟨a,rfl⟩:∃ a,b=bx a:=⟨_,zli e4⟩
   refine zie.2 (fun n hn4=>?_)
   have:=hv n (by omega) (by simpa [bx] using hn4)
   have e2:(bx a).xSides[n]'(by simpa [bx] using hn4)=ud a n:=by rcases VG hn4 with rfl | rfl | rfl | rfl <;> rfl
   rw [e2] at this;exact this⟩
  rw [this] at h;exact h
def FV (l:List zB):Prop:=l.length≤60∧∀ f∈l,BV f.xWhere
noncomputable instance (l:List zB):Decidable (FV l):=Classical.propDecidable _
theorem FV.fb {l:List zB} (h:FV l):Fb l:=⟨by have:=h.1;omega,fun f hf=>(h.2 f hf).bb⟩
theorem yI {l:List zB} (hl:Fb l) {κ:Bool→Prop} (h:κ (decide (FV l))):ug l κ:=by
 unfold ug
 have h1:=hl.1
 refine zV l.length (fun s=>s) (fun k s=>s=(k:Int)∧k≤l.length∧∀ f∈l.take k,BV f.xWhere) (fun k s h=>h.1) (fun k s h=>h.2.1) ?_ ⟨rfl,by omega,by simp⟩
 rintro k _ next ⟨rfl,hk,hv⟩ hn
 refine zm (fun hc=>?_) (fun hc=>?_)
 ·have hlt:k<l.length:=by simpa using hc
  refine zo k rfl hlt (yB (hl.2 _ (List.getElem_mem hlt)) (zm (fun e=>?_) (fun e=>?_)))
  ·have:¬ BV (l[k].xWhere):=by simpa using e
   rw [decide_eq_false (fun q=>this (q.2 _ (List.getElem_mem hlt)))] at h;exact h
  ·have:BV (l[k].xWhere):=by simpa using e
   refine zx (by omega) (by omega) (hn hlt _ ⟨by simp,by omega,fun f hf=>?_⟩)
   rw [List.take_succ_eq_append_getElem hlt] at hf
   rcases List.mem_append.1 hf with q | q
   ·exact hv f q
   ·simp only [List.mem_singleton] at q;rw [q];exact this
 ·have hge:l.length≤k:=by simpa using hc
  rw [List.take_of_length_le hge] at hv
  rw [show decide (FV l)=decide ((l.length:Int)≤60) from decide_eq_decide.2 ⟨fun q=>by have:=q.1;omega,fun q=>⟨by omega,hv⟩⟩] at h;exact h
def fl (f:zB):zl:=⟨sd f.xWhere,f.xAccept⟩
theorem Ul {α β:Type} (a:List α) (f:α→β) (hl:a.length≤4294967296) {κ:List β→Prop} (T:α→(β→Prop)→Prop) (hT:∀ x ψ,x∈a→ψ (f x)→T x ψ) (hκ:κ (a.map f))
  (F:(List β×Int→Prop)→List β×Int→Prop)
  (hF:∀ nx xs t,(ifW (decide (t<(a.length:Int))) (zI a t (fun e=>T e (fun r=>jG xs [r] (fun _=>jo t 1 (fun u=>nx (xs++[r],u)))))) (κ xs))→F nx (xs,t)):jd F ([],0):=by
 refine zV a.length (fun s=>s.2) (fun k s=>s.2=(k:Int)∧k≤a.length∧s.1=(a.take k).map f) (fun k s h=>h.1) (fun k s h=>h.2.1) ?_ ⟨rfl,Nat.zero_le _,by simp⟩
 rintro k ⟨ys,t⟩ next ⟨rfl,hk,hy⟩ hn
 simp only at hy
 subst hy
 refine hF _ _ _ (zm (fun hc=>?_) (fun hc=>?_))
 ·have hlt:k<a.length:=by simpa using hc
  refine zo k rfl hlt (hT _ _ (List.getElem_mem hlt) (jj (by simp;omega) (zx (by omega) (by omega) (hn hlt _ ⟨by simp,by omega,?_⟩))))
  rw [List.take_succ_eq_append_getElem hlt,List.map_append];rfl
 ·have hge:a.length≤k:=by simpa using hc
  rw [List.take_of_length_le hge];exact hκ
theorem zhK {l:List zl} (hl:l.length≤4294967296) {κ:List za→Prop} (h:κ (l.map (·.xWhere))):YS l κ:=by
 unfold YS
 refine Y2 0 rfl (by omega) (by omega) ?_
 exact Ul l (·.xWhere) hl (fun x ψ=>ψ x.xWhere) (fun x ψ hx hψ=>hψ) h _ (fun nx xs t hh=>hh)
theorem zkL {a:za} (hl:∀ x∈L4 a,x.length≤4294967296) {κ:zU→Prop} (h:κ (bx a)):yX a κ:=by
 unfold yX
 refine Y2 4 rfl (by decide) (by decide) ?_
 obtain ⟨x0,x1,x2,x3⟩:=a
 have l0:=hl x0 (by simp [L4])
 have l1:=hl x1 (by simp [L4])
 have l2:=hl x2 (by simp [L4])
 have l3:=hl x3 (by simp [L4])
 refine ⟨5,?_⟩
 refine jt (zo 0 rfl (by simp) (jj (by simpa using l0) (zo 0 rfl (by simp) (zx (by decide) (by decide) ?_))))
 refine jt (zo 1 rfl (by simp) (jj (by simpa using l1) (zo 1 rfl (by simp) (zx (by decide) (by decide) ?_))))
 refine jt (zo 2 rfl (by simp) (jj (by simpa using l2) (zo 2 rfl (by simp) (zx (by decide) (by decide) ?_))))
 refine jt (zo 3 rfl (by simp) (jj (by simpa using l3) (zo 3 rfl (by simp) (zx (by decide) (by decide) ?_))))
 exact jR h
theorem zk9 {a:za} (h:F4 a):∀ x∈L4 a,x.length≤4294967296:=fun x hx=>by
 obtain ⟨f0,f1,f2,f3⟩:=h
 simp only [L4,List.mem_cons,List.not_mem_nil,or_false] at hx
 rcases hx with rfl | rfl | rfl | rfl <;> omega
theorem zat {b:zU} (hb:Bb b) {κ:zU→Prop} (h:κ b):Zz b κ:=u6 hb.1 hb.2 h
theorem zf3 {f:zB} (hb:Bb f.xWhere) {κ:zB→Prop} (h:κ f):Xr f κ:=zat hb h
theorem ZC {l:List zB} (hl:Fb l) {κ:List zB→Prop} (h:κ l):xJ l κ:=by
 unfold xJ
 exact Ul l id hl.1 (fun x ψ=>Xr x ψ) (fun x ψ hx hψ=>zf3 (hl.2 x hx) hψ) (by simpa using h) _ (fun nx xs t hh=>hh)
def hb4 (a:za) (p:uG):Prop:=hv a.x0 p.xFrom∧hv a.x1 p.xTo∧hv a.x2 p.xPort∧hv a.x3 p.xProto
instance (a:za) (p:uG):Decidable (hb4 a p):=by unfold hb4;infer_instance
end
section
open Go Go.Proofs
def UZ (l:List za):Prop:=∀ c∈l,F4 c
instance (l:List za):Decidable (UZ l):=by unfold UZ;infer_instance
def aB (l:List za):Prop:=∀ c∈l,B4 c
theorem zcM:UZ []:=fun c h=>by simp at h
theorem zgw:aB []:=fun c h=>by simp at h
theorem yd {l m:List za}:UZ (l++m)↔UZ l∧UZ m:=by
 unfold UZ
 simp only [List.mem_append]
 exact ⟨fun h=>⟨fun c hc=>h c (.inl hc),fun c hc=>h c (.inr hc)⟩,fun h c hc=>hc.elim (h.1 c) (h.2 c)⟩
theorem Up {l m:List za}:aB (l++m)↔aB l∧aB m:=by
 unfold aB
 simp only [List.mem_append]
 exact ⟨fun h=>⟨fun c hc=>h c (.inl hc),fun c hc=>h c (.inr hc)⟩,fun h c hc=>hc.elim (h.1 c) (h.2 c)⟩
def xy (left:List za) (b:za):List za:=left.flatMap (fun c=>XD c b)
def okR (l:List za):Prop:=UZ l∧l.length≤400
instance (l:List za):Decidable (okR l):=by unfold okR;infer_instance
def lgo:List za→List za→Option (List za)
 | left,[]=>some left
 | left,b :: bs=>if okR (xy left b) then lgo (xy left b) bs else none
def V4 (a:za) (bs:List za):Option (List za):=if em4 a then some [] else lgo [a] bs
def zkX:Option (List za)→List za×Bool
 | some l=>(l,true)
 | none=>([],false)
theorem zeS:∀ (bs:List za),lgo [] bs=some []
 | []=>rfl
 | b :: bs=>by
  have e:xy [] b=[]:=rfl
  unfold lgo
  rw [e,if_pos ⟨zcM,by simp⟩]
  exact zeS bs
theorem ZH (l m:List za) (b:za):xy (l++m) b=xy l b++xy m b:=by simp [xy]
theorem X7 (c b:za):xy [c] b=XD c b:=by simp [xy]
theorem V6 {left:List za} {b:za} (hl:aB left) (hb:B4 b):aB (xy left b):=fun c hc=>by
 obtain ⟨d,hd,hc⟩:=List.mem_flatMap.1 hc
 exact zi8 (hl d hd) hb c hc
def hbs (l:List za) (p:uG):Prop:=∃ c∈l,hb4 c p
instance (l:List za) (p:uG):Decidable (hbs l p):=by unfold hbs;infer_instance
theorem zdJ {a b:List zd} {t x:Int} (ha:St a t) (hb:St b t):hv (xi a b t) x↔hv a x∧¬ hv b x:=by
 unfold xi
 rw [Uu,zew hb]
 exact ⟨fun h=>⟨h.1,h.2.2.2⟩,fun h=>⟨h.1,(Za ha h.1).1,(Za ha h.1).2,h.2⟩⟩
end
end Go.Proofs.YtgpdnnhmndlljaaGreatDoor
