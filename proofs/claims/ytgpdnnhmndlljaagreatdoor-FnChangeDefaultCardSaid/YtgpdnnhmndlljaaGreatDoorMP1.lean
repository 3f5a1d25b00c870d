import Derived.Test.YtgpdnnhmndlljaaGreatDoorMA1
import Derived.RangeFuncMany
import Derived.RangeFuncCalls
import Derived.RangeFuncLeaves
import Derived.TacticsIn
import Derived.Test.YtgpdnnhmndlljaaGreatDoorEls
import Derived.Test.YtgpdnnhmndlljaaGreatDoorMA0
import Derived.Laws.BitsLemmas
set_option linter.unusedSimpArgs false
set_option linter.unusedVariables false
set_option linter.unusedSectionVars false
namespace Go.Proofs.YtgpdnnhmndlljaaGreatDoor
section
open Go.RowKit
section
variable {P:Program} {n:Nat} {G D:Nat→Prop} {w0:World} {Q:Exit→Act→World→Prop} {R:Act→World→Prop} {E:Env} {L M:List Ch} {φ:Prop}
variable {d:Tmp} {ty:TypeId} {pos:String} {aft:Array Edge} {gd:Option (Nat×Bool)} {Tk:Act→World→Prop} {Lr:List Ch} {x y:Operand} {T T' S:TypeId} {e sz by':Nat} {at':Array TypeId}
def yj (b:Nat) (o:Obj):Ch where
 foot:=fun x=>x=b
 holds:=fun _ w=>w.heap[b]?=some o
 keep:=fun _ _ _ _ _ h k=>(h b (.inr rfl)).trans k
def uV {σ:Type} (C:σ→List Ch→Prop) (B:Nat→Prop) (s:σ):Ch where
 foot:=B
 holds:=fun F w=>∃ L,C s L∧(∀ b,uA L b↔B b)∧(L.Pairwise fun (c d:Ch)=>∀ b,c.foot b→¬ d.foot b)∧∀ c∈L,c.holds F w
 keep:=fun F F' w w' hF hb ⟨L,h1,h2,h3,h4⟩=>⟨L,h1,h2,h3,fun c hc=>c.keep F F' w w' hF (fun b h=>hb b (h.imp id (fun k=>(h2 b).1 ⟨c,hc,k⟩))) (h4 c hc)⟩
theorem zcc {σ:Type} {C:σ→List Ch→Prop} {B:Nat→Prop} {s:σ} {L R:List Ch} {w:World} (h:∀ b,uA L b↔B b) (b:Nat):fz G (uV C B s :: R) w b↔fz G (L++R) w b:=by
 constructor
 ·rintro ⟨h1,h2,h3⟩
  refine ⟨h1,h2,fun c hc hk=>?_⟩
  rcases List.mem_append.1 hc with e | e
  ·exact h3 _ (List.mem_cons_self ..) ((h b).1 ⟨c,e,hk⟩)
  ·exact h3 c (List.mem_cons_of_mem _ e) hk
 ·rintro ⟨h1,h2,h3⟩
  refine ⟨h1,h2,fun c hc hk=>?_⟩
  rcases List.mem_cons.1 hc with e | e
  ·subst e
   obtain ⟨d,hd,hk'⟩:=(h b).2 hk
   exact h3 d (List.mem_append.2 (.inl hd)) hk'
  ·exact h3 c (List.mem_append.2 (.inr e)) hk
theorem Mem.openC {σ:Type} {C:σ→List Ch→Prop} {B:Nat→Prop} {s:σ} {R:List Ch} {w:World} (m:Mem G D w0 (uV C B s :: R) w):∃ L,C s L∧(∀ b,uA L b↔B b)∧Mem G D w0 (L++R) w:=by
 obtain ⟨L,h1,h2,h3,h4⟩:=m.hold _ (List.mem_cons_self ..)
 have hr:∀ c∈L,∀ b,c.foot b→(uV C B s).foot b:=fun c hc b hb=>(h2 b).1 ⟨c,hc,hb⟩
 refine ⟨L,h1,h2,m.fresh,m.os,m.tape,m.output,m.size,m.old,fun c hc b hb=>?_,List.pairwise_append.2 ⟨h3,(List.pairwise_cons.1 m.disj).2,fun c hc d hd b k1 k2=>(List.pairwise_cons.1 m.disj).1 d hd b (hr c hc b k1) k2⟩,fun c hc=>?_⟩
 ·rcases List.mem_append.1 hc with e | e
  ·exact m.range _ (List.mem_cons_self ..) b (hr c e b hb)
  ·exact m.range c (List.mem_cons_of_mem _ e) b hb
 ·rcases List.mem_append.1 hc with e | e
  ·exact c.keep _ _ w w (fun b hb=>(zcc h2 b).1 hb) (fun _ _=>rfl) (h4 c e)
  ·exact c.keep _ _ w w (fun b hb=>(zcc h2 b).1 hb) (fun _ _=>rfl) (m.hold c (List.mem_cons_of_mem _ e))
theorem Mem.closeC {σ:Type} {C:σ→List Ch→Prop} {s:σ} {L R:List Ch} {w:World} (m:Mem G D w0 (L++R) w) (h:C s L):Mem G D w0 (uV C (uA L) s :: R) w:=by
 have inL:∀ c∈L,c∈L++R:=fun c hc=>List.mem_append.2 (.inl hc)
 have inR:∀ c∈R,c∈L++R:=fun c hc=>List.mem_append.2 (.inr hc)
 have hd:=List.pairwise_append.1 m.disj
 refine ⟨m.fresh,m.os,m.tape,m.output,m.size,m.old,fun c hc b hb=>?_,List.pairwise_cons.2 ⟨fun d hd' b ⟨c,hc,k1⟩ k2=>hd.2.2 c hc d hd' b k1 k2,hd.2.1⟩,fun c hc=>?_⟩
 ·rcases List.mem_cons.1 hc with e | e
  ·subst e
   obtain ⟨c,hc,k⟩:=hb
   exact m.range c (inL c hc) b k
  ·exact m.range c (inR c e) b hb
 ·rcases List.mem_cons.1 hc with e | e
  ·subst e
   exact ⟨L,h,fun _=>Iff.rfl,hd.1,fun c hc=>c.keep _ _ w w (fun b hb=>(zcc (fun _=>Iff.rfl) b).2 hb) (fun _ _=>rfl) (m.hold c (inL c hc))⟩
  ·exact c.keep _ _ w w (fun b hb=>(zcc (fun _=>Iff.rfl) b).2 hb) (fun _ _=>rfl) (m.hold c (inR c e))
def zgS {α σ:Type} (P:Program) (l:Nat) (El':El α) (C:σ→List Ch→Prop) (Y:σ→α→Bool→(Bool×σ→Prop)→Prop):Prop :=
 ∀ {G D:Nat→Prop} {w0 w:World} {R L:List Ch} {s:σ} {x:α} {ok:Bool} {cs:List Value} {κ:Bool×σ→Prop} (m:Nat),C s L→Mem G D w0 (L++R) w→El'.cells (fz G (L++R) w) w x cs→Y s x ok κ →
  YieldAt Fence.wide m P l #[.agg cs.toArray,.bool ok] w fun e w'=>∃ b s' L',e=.returned (.bool b)∧C s' L'∧Mem G D w0 (L'++R) w'∧κ (b,s')
theorem zkx {o:Oper} {a:Act} {w:World} {next:Act→World→Prop} {m:Nat} (h:o.wp P a w next Q):o.wpIn Fence.wide m P a w next Q:=by
 refine ⟨fun f _=>trivial,?_⟩
 have h':o.upon P a next Q ((execOp a.eval o).run P w):=h
 show o.uponIn Fence.wide m P a next Q ((execOp a.eval o).run P w)
 revert h'
 generalize (execOp a.eval o).run P w=r
 intro h'
 cases r with
 | ok x w' =>
  cases x <;> first | exact h' | (refine ⟨fun e=>by simp [Fence.wide] at e,?_⟩;exact callsIn_wide.2 h') | (refine ⟨fun e=>by simp [Fence.wide] at e,fun c cs _=>?_⟩;obtain ⟨v,w'',k1,k2⟩:=h' c cs;exact ⟨v,w'',k1,stepsIn_wide.2 k2⟩) | exact False.elim h'
 | halt x w'=>cases x <;> first | exact h' | exact False.elim h'
theorem zcD {id:Nat} {l:List Oper} (h:Nx n G D w0 (wpListIn Fence.wide 3 P l.toArray Q l) E L φ):Nx n G D w0 ((Code.region id l.toArray false).wp P Q) E L φ:=fun a w hE hm hφ=>wpIn_wide.1 (wpIn_region_lit (h a w hE hm hφ))
theorem zcY {ops:Array Oper} {m:Nat} {F:Fence} (h:Nx n G D w0 (Q .normal) E L φ):Nx n G D w0 (wpListIn F m P ops Q []) E L φ:=h
theorem zk2 {m:Nat} {ops:Array Oper} {rest:List Oper} {dst:Option Tmp} {op:Op} (h:Nx n G D w0 (fun a w=>Oper.wp P ⟨dst,op,ty,pos,aft,none⟩ a w (wpListIn Fence.wide m P ops Q rest) Q) E L φ):Nx n G D w0 (wpListIn Fence.wide m P ops Q (⟨dst,op,ty,pos,aft,none⟩ :: rest)) E L φ :=
 fun a w hE hm hφ=>wpListIn_plain rfl fun K hK=>zkx (by
  have:=h a w hE hm hφ
  show Oper.upon _ _ _ _ _ _
  have h':Oper.upon P ⟨dst,op,ty,pos,aft,none⟩ a (wpListIn Fence.wide m P ops Q rest) Q ((execOp a.eval ⟨dst,op,ty,pos,aft,none⟩).run P w):=this
  revert h'
  generalize (execOp a.eval ⟨dst,op,ty,pos,aft,none⟩).run P w=r
  intro h'
  cases r with
  | ok x w' =>
   cases x <;> first | exact hK _ _ h' | (refine Calls.mono h' ?_;intro e w'' hh;cases e <;> first | exact hK _ _ hh | exact hh) | (refine Rows.mono h' ?_;intro e w'' hh;exact hK _ _ hh) | exact False.elim h'
  | halt x w'=>cases x <;> first | exact h' | exact False.elim h')
theorem stY {m:Nat} {ops:Array Oper} {rest:List Oper} {dst:Option Tmp} {op:Op}:un P n G D w0 E ⟨dst,op,ty,pos,aft,none⟩ (wpListIn Fence.wide m P ops Q (⟨dst,op,ty,pos,aft,none⟩ :: rest)) (wpListIn Fence.wide m P ops Q rest) L L :=
 ⟨fun hd ho hr hψ k=>zk2 (zgy hd ho hr hψ k)⟩
theorem zfA {α σ:Type} {l m:Nat} {El':El α} {C:σ→List Ch→Prop} {Y:σ→α→Bool→(Bool×σ→Prop)→Prop} (hY:zgS P l El' C Y) {B:Nat→Prop} {s:σ} {z:α} {ok:Bool} {cs:List Value} {κ:Bool×σ→Prop} {f:Operand} {args:List Operand} {ops:Array Oper} {rest:List Oper}
  (hf:oev E f=some (.func (.yield l) #[] #[])) (ha:zdv E args=some [.agg cs.toArray,.bool ok]) (hd:Nat.blt d n=true) (hc:∀ w,Mem G D w0 (uV C B s :: L) w→El'.cells (fz G (uV C B s :: L) w) w z cs)
  (k:∀ b s' B',Nx n G D w0 (wpListIn Fence.wide m P ops Q rest) ((d,.bool b) :: E) (uV C B' s' :: L) (κ (b,s'))) :
  Nx n G D w0 (wpListIn Fence.wide m P ops Q (⟨some d,.call {callee:=.value f,args:=args.toArray,argTypes:=at'},ty,pos,aft,none⟩ :: rest)) E (uV C B s :: L) (Y s z ok κ):=fun a w hE hm hφ=>by
 refine wpListIn_plain rfl fun K hK=>?_
 obtain ⟨Lc,h1,h2,hm'⟩:=hm.openC
 obtain ⟨fn,tmps,assign,body,hy,hR⟩:=hY (m - 1) h1 hm' (El'.keep _ _ w w _ _ (fun b hb=>(zcc h2 b).1 hb) (fun _ _=>rfl) (hc w hm)) hφ
 have hx:=hE.eval hf
 have hargs:=zac (fun x v h=>hE.eval h) ha
 have hrun:(execOp a.eval ⟨some d,.call {callee:=.value f,args:=args.toArray,argTypes:=at'},ty,pos,aft,none⟩).run P w=.ok (.round l fn tmps assign body) w:=by
  simp [execOp,resolve,Deferred.ofValue,hx,invoke,hargs,hy]
 refine ⟨fun f _=>trivial,?_⟩
 change Oper.uponIn Fence.wide m P _ a K Q ((execOp a.eval ⟨some d,.call {callee:=.value f,args:=args.toArray,argTypes:=at'},ty,pos,aft,none⟩).run P w)
 rw [hrun,Oper.uponIn_round]
 refine ⟨fun e=>by simp [Fence.wide] at e,hR.mono ?_⟩
 rintro e w' ⟨b,s',L',rfl,q1,q2,q3⟩
 exact hK _ _ (k b s' _ _ w' (hE.put hd _) (q2.closeC q1) q3)
theorem zjF {o:Oper} {a:Act} {w:World} {next:Act→World→Prop} {m l:Nat} (hnd:∀ c,o.op≠.defer c) (h:o.wp P a w next Q):o.wpIn (Fence.wide.inRound l) m P a w next Q:=by
 refine ⟨fun f _=>trivial,?_⟩
 have h':o.upon P a next Q ((execOp a.eval o).run P w):=h
 show o.uponIn (Fence.wide.inRound l) m P a next Q ((Oper.semAt (some l) a.eval o).run P w)
 rw [Oper.semAt_some l a.eval o hnd]
 revert h'
 generalize (execOp a.eval o).run P w=r
 intro h'
 cases r with
 | ok x w' =>
  cases x <;> first | exact h' | (refine ⟨fun e=>by simp [Fence.wide] at e,?_⟩;exact CallsIn.inRound l (callsIn_wide.2 h')) | (refine ⟨fun e=>by simp [Fence.wide] at e,fun c cs _=>?_⟩;obtain ⟨v,w'',k1,k2⟩:=h' c cs;exact ⟨v,w'',k1,stepsIn_wide.2 k2⟩) | exact False.elim h'
 | halt x w'=>cases x <;> first | exact h' | exact False.elim h'
section
variable {F:Fence} {m l:Nat}
theorem zhL {x y:Code} (h:Nx n G D w0 (x.wpIn F m P (Exit.then (y.wpIn F m P Q) Q)) E L φ):Nx n G D w0 ((Code.seq x y).wpIn F m P Q) E L φ:=fun a w hE hm hφ=>wpIn_seq (h a w hE hm hφ)
theorem zkb {id:Nat} {c:Code} (h:Nx n G D w0 (c.wpIn F m P (Exit.inBlock id Q)) E L φ):Nx n G D w0 ((Code.block id c).wpIn F m P Q) E L φ:=fun a w hE hm hφ=>wpIn_block (h a w hE hm hφ)
theorem zaw {id:Nat} {l:List Oper} (h:Nx n G D w0 (wpListIn F m P l.toArray Q l) E L φ):Nx n G D w0 ((Code.region id l.toArray false).wpIn F m P Q) E L φ:=fun a w hE hm hφ=>wpIn_region_lit (h a w hE hm hφ)
theorem zln (h:Nx n G D w0 (Q .normal) E L φ):Nx n G D w0 (Code.skip.wpIn F m P Q) E L φ:=fun a w hE hm hφ=>wpIn_skip (h a w hE hm hφ)
theorem zl3 (h:Nx n G D w0 (Q .ret) E L φ):Nx n G D w0 (Code.ret.wpIn F m P Q) E L φ:=fun a w hE hm hφ=>wpIn_ret (h a w hE hm hφ)
theorem zlu {c:Operand} {x y:Code} {t:Bool} {A B:Prop} (hc:oev E c=some (.bool t)) (hx:Nx n G D w0 (x.wpIn F m P Q) E L A) (hy:Nx n G D w0 (y.wpIn F m P Q) E L B):Nx n G D w0 ((Code.cond c x y).wpIn F m P Q) E L (ifW t A B) :=
 fun a w hE hm hφ=>wpIn_cond_split (hE.eval hc) (fun h=>hx a w hE hm (hφ.1 h)) (fun h=>hy a w hE hm (hφ.2 h))
theorem zf4 {ops:Array Oper} {rest:List Oper} {dst:Option Tmp} {op:Op} (hnd:∀ c,op≠.defer c) (h:Nx n G D w0 (fun a w=>Oper.wp P ⟨dst,op,ty,pos,aft,none⟩ a w (wpListIn (Fence.wide.inRound l) m P ops Q rest) Q) E L φ):Nx n G D w0 (wpListIn (Fence.wide.inRound l) m P ops Q (⟨dst,op,ty,pos,aft,none⟩ :: rest)) E L φ :=
 fun a w hE hm hφ=>by
  unfold wpListIn
  rw [if_pos (by simp [Region.wanted])]
  exact zjF hnd (h a w hE hm hφ)
theorem stR {ops:Array Oper} {rest:List Oper} {dst:Option Tmp} {op:Op} (hnd:∀ c,op≠.defer c):un P n G D w0 E ⟨dst,op,ty,pos,aft,none⟩ (wpListIn (Fence.wide.inRound l) m P ops Q (⟨dst,op,ty,pos,aft,none⟩ :: rest)) (wpListIn (Fence.wide.inRound l) m P ops Q rest) L L :=
 ⟨fun hd ho hr hψ k=>zf4 hnd (zgy hd ho hr hψ k)⟩
end
end
end
section
open Go.RowKit
@[ext] structure zg where
 xLo:Int
 xHi:Int
 deriving DecidableEq
def z7 (x:zg):List Value:=[(.int .i64 x.xLo),(.int .i64 x.xHi)]
def zb:El zg:=El.flat 2 z7 (by decide) (fun _=>rfl) (fun x u h=>by simp only [z7,List.mem_cons,List.not_mem_nil,or_false] at h;rcases h with rfl | rfl <;> rfl)
theorem zy:Y9 zb z7:=XN
abbrev xn:DEl zg:=zbL zb z7 zy
@[ext] structure xj where
 xField:Int
 xLo:Int
 xHi:Int
 xNot:Bool
 deriving DecidableEq
def XA (x:xj):List Value:=[(.int .i64 x.xField),(.int .i64 x.xLo),(.int .i64 x.xHi),(.bool x.xNot)]
def Xr:El xj:=El.flat 4 XA (by decide) (fun _=>rfl) (fun x u h=>by simp only [XA,List.mem_cons,List.not_mem_nil,or_false] at h;rcases h with rfl | rfl | rfl | rfl <;> rfl)
theorem ZG:Y9 Xr XA:=XN
abbrev zlS:DEl xj:=zbL Xr XA ZG
@[ext] structure zS where
 xTests:(List xj)
 xAction:Int
 xChain:Int
 deriving DecidableEq
def zdn (u:Value) (x:zS):List Value:=[u,(.int .i64 x.xAction),(.int .i64 x.xChain)]
def xM:El zS where
 size:=3
 cells:=fun F w x cs=>∃ u:Value,cs=zdn u x∧Sl Xr F w u x.xTests
 pos:=by decide
 len:=fun F w x cs ⟨u,e,_⟩=>by rw [e];rfl
 one:=fun F w x cs ⟨u,e,h⟩ v hv=>by
  subst e
  simp only [zdn,List.mem_cons,List.not_mem_nil,or_false] at hv
  rcases hv with e | e | e
  ·subst e;exact h.one
  ·subst e;exact rfl
  ·subst e;exact rfl
 keep:=fun F F' w w' x cs hF hb ⟨u,e,h⟩=>⟨u,e,h.keep hF hb⟩
def Zy:DEl zS where
 el:=xM
 own:=fun B w x cs=>∃ u:Value,cs=zdn u x∧Dp zlS 165 B w u x.xTests
 read:=fun B w x cs ⟨u,e,h⟩=>⟨u,e,h.sl⟩
 keep:=fun B w w' x cs hk ⟨u,e,h⟩=>⟨u,e,h.keep hk⟩
 lt:=fun B w x cs ⟨u,e,h⟩=>h.lt
@[ext] structure zL where
 xChains:(List (List zS))
 xAccept:Bool
 deriving DecidableEq
@[ext] structure zc0 where
 x0:Int
 x1:Int
 x2:Int
 x3:Int
 deriving DecidableEq
@[ext] structure zX where
 xFrom:Int
 xTo:Int
 xPort:Int
 xProto:Int
 deriving DecidableEq
@[ext] structure za where
 x0:(List zg)
 x1:(List zg)
 x2:(List zg)
 x3:(List zg)
 deriving DecidableEq
def zai (u:Value×Value×Value×Value) (x:za):List Value:=[u.1,u.2.1,u.2.2.1,u.2.2.2]
def zf:El za where
 size:=4
 cells:=fun F w x cs=>∃ u:Value×Value×Value×Value,cs=zai u x∧Sl zb F w u.1 x.x0∧Sl zb F w u.2.1 x.x1∧Sl zb F w u.2.2.1 x.x2∧Sl zb F w u.2.2.2 x.x3
 pos:=by decide
 len:=fun F w x cs ⟨u,e,_⟩=>by rw [e];rfl
 one:=fun F w x cs ⟨u,e,h⟩ v hv=>by
  subst e
  simp only [zai,List.mem_cons,List.not_mem_nil,or_false] at hv
  rcases hv with e | e | e | e
  ·subst e;exact h.1.one
  ·subst e;exact h.2.1.one
  ·subst e;exact h.2.2.1.one
  ·subst e;exact h.2.2.2.one
 keep:=fun F F' w w' x cs hF hb ⟨u,e,h⟩=>⟨u,e,h.1.keep hF hb,h.2.1.keep hF hb,h.2.2.1.keep hF hb,h.2.2.2.keep hF hb⟩
@[ext] structure uS where
 xAccept:Bool
 deriving DecidableEq
@[ext] structure uh where
 deriving DecidableEq
@[ext] structure ya where
 deriving DecidableEq
@[ext] structure ZH where
 xChain:Int
 deriving DecidableEq
@[ext] structure zk where
 xWhere:za
 xAccept:Bool
 deriving DecidableEq
def zeL (u:Value×Value×Value×Value) (x:zk):List Value:=[u.1,u.2.1,u.2.2.1,u.2.2.2,(.bool x.xAccept)]
def zu:El zk where
 size:=5
 cells:=fun F w x cs=>∃ u:Value×Value×Value×Value,cs=zeL u x∧Sl zb F w u.1 x.xWhere.x0∧Sl zb F w u.2.1 x.xWhere.x1∧Sl zb F w u.2.2.1 x.xWhere.x2∧Sl zb F w u.2.2.2 x.xWhere.x3
 pos:=by decide
 len:=fun F w x cs ⟨u,e,_⟩=>by rw [e];rfl
 one:=fun F w x cs ⟨u,e,h⟩ v hv=>by
  subst e
  simp only [zeL,List.mem_cons,List.not_mem_nil,or_false] at hv
  rcases hv with e | e | e | e | e
  ·subst e;exact h.1.one
  ·subst e;exact h.2.1.one
  ·subst e;exact h.2.2.1.one
  ·subst e;exact h.2.2.2.one
  ·subst e;exact rfl
 keep:=fun F F' w w' x cs hF hb ⟨u,e,h⟩=>⟨u,e,h.1.keep hF hb,h.2.1.keep hF hb,h.2.2.1.keep hF hb,h.2.2.2.keep hF hb⟩
@[ext] structure Zk where
 xAccepted:(List za)
 xDropped:(List za)
 deriving DecidableEq
@[ext] structure zM where
 xSides:(List (List zg))
 deriving DecidableEq
def zfb (u:Value) (x:zM):List Value:=[u]
def jr:El zM where
 size:=1
 cells:=fun F w x cs=>∃ u:Value,cs=zfb u x∧Sl (zC zb) F w u x.xSides
 pos:=by decide
 len:=fun F w x cs ⟨u,e,_⟩=>by rw [e];rfl
 one:=fun F w x cs ⟨u,e,h⟩ v hv=>by
  subst e
  simp only [zfb,List.mem_cons,List.not_mem_nil,or_false] at hv
  subst hv;exact h.one
 keep:=fun F F' w w' x cs hF hb ⟨u,e,h⟩=>⟨u,e,h.keep hF hb⟩
def xp:DEl zM where
 el:=jr
 own:=fun B w x cs=>∃ u:Value,cs=zfb u x∧Dp (dSl xn 89) 90 B w u x.xSides
 read:=fun B w x cs ⟨u,e,h⟩=>⟨u,e,h.sl⟩
 keep:=fun B w w' x cs hk ⟨u,e,h⟩=>⟨u,e,h.keep hk⟩
 lt:=fun B w x cs ⟨u,e,h⟩=>h.lt
@[ext] structure zG where
 xWhere:zM
 xAccept:Bool
 deriving DecidableEq
def zd1 (u:Value) (x:zG):List Value:=[u,(.bool x.xAccept)]
def zD:El zG where
 size:=2
 cells:=fun F w x cs=>∃ u:Value,cs=zd1 u x∧Sl (zC zb) F w u x.xWhere.xSides
 pos:=by decide
 len:=fun F w x cs ⟨u,e,_⟩=>by rw [e];rfl
 one:=fun F w x cs ⟨u,e,h⟩ v hv=>by
  subst e
  simp only [zd1,List.mem_cons,List.not_mem_nil,or_false] at hv
  rcases hv with e | e
  ·subst e;exact h.one
  ·subst e;exact rfl
 keep:=fun F F' w w' x cs hF hb ⟨u,e,h⟩=>⟨u,e,h.keep hF hb⟩
def ue:DEl zG where
 el:=zD
 own:=fun B w x cs=>∃ u:Value,cs=zd1 u x∧Dp (dSl xn 89) 90 B w u x.xWhere.xSides
 read:=fun B w x cs ⟨u,e,h⟩=>⟨u,e,h.sl⟩
 keep:=fun B w w' x cs hk ⟨u,e,h⟩=>⟨u,e,h.keep hk⟩
 lt:=fun B w x cs ⟨u,e,h⟩=>h.lt
@[ext] structure jb where
 xChain:Int
 xNext:Int
 deriving DecidableEq
def yY (x:jb):List Value:=[(.int .i64 x.xChain),(.int .i64 x.xNext)]
def zY:El jb:=El.flat 2 yY (by decide) (fun _=>rfl) (fun x u h=>by simp only [yY,List.mem_cons,List.not_mem_nil,or_false] at h;rcases h with rfl | rfl <;> rfl)
theorem uu:Y9 zY yY:=XN
@[ext] structure xG where
 xChain:Int
 xPlace:Int
 deriving DecidableEq
def Vu (x:xG):List Value:=[(.int .i64 x.xChain),(.int .i64 x.xPlace)]
def je:El xG:=El.flat 2 Vu (by decide) (fun _=>rfl) (fun x u h=>by simp only [Vu,List.mem_cons,List.not_mem_nil,or_false] at h;rcases h with rfl | rfl <;> rfl)
theorem Zm:Y9 je Vu:=XN
@[ext] structure Uq where
 xName:ByteArray
 xTop:Int
 deriving DecidableEq
def XF (x:Uq):List Value:=[(.string x.xName),(.int .i64 x.xTop)]
def jd:El Uq:=El.flat 2 XF (by decide) (fun _=>rfl) (fun x u h=>by simp only [XF,List.mem_cons,List.not_mem_nil,or_false] at h;rcases h with rfl | rfl <;> rfl)
theorem VZ:Y9 jd XF:=XN
inductive xK where
 | kDeciding (x:uS)
 | kCalling (x:ZH)
 | kReturning (x:uh)
 | kPassing (x:ya)
def UK:xK→Value
 | .kDeciding x=>.iface 262 (.agg #[(.bool x.xAccept)])
 | .kCalling x=>.iface 264 (.agg #[(.int .i64 x.xChain)])
 | .kReturning x=>.iface 266 (.agg #[])
 | .kPassing x=>.iface 267 (.agg #[])
def xK.casesW (a:xK) (p0:uS→Prop) (p1:ZH→Prop) (p2:uh→Prop) (p3:ya→Prop):Prop:=match a with
 | .kDeciding x=>p0 x
 | .kCalling x=>p1 x
 | .kReturning x=>p2 x
 | .kPassing x=>p3 x
def zA:List Uq:=[⟨(ByteArray.mk #[102,114,111,109]),65535⟩,⟨(ByteArray.mk #[116,111]),65535⟩,⟨(ByteArray.mk #[112,111,114,116]),255⟩,⟨(ByteArray.mk #[112,114,111,116,111]),7⟩]
def YC (code_0:(List UInt8)) (κ:((List UInt8)×Int)→Prop):Prop :=
 jnW (fun (xs68:(List UInt8))=>κ (xs68,0)) (fun k71=>ifW (decide (2000<(code_0.length:Int))) (uQ code_0 0 2000 (fun xs4=>k71 xs4)) (k71 code_0))
def jk (r_0_b:(List UInt8)) (r_0_p:Int) (n_1:Int) (κ:(Int×Int)→Prop):Prop :=
 jA r_0_p 1 (fun t5=>jnW (fun (t66:Bool)=>ifW t66 (κ (0,t5)) (Un t5 1 (fun t68=>ifW (decide (t68<(r_0_b.length:Int))) (zK r_0_b t68 (fun e69=>zg1 (e69.toNat:Int) n_1 (fun t71=>κ (t71,t5)))) (zg1 t68 (r_0_b.length:Int) (fun t72=>zK r_0_b t72 (fun e73=>zfk (e73.toNat:Int) 131 (fun t75=>zfk t68 7 (fun t76=>jA t76 3 (fun t77=>zg1 t77 (r_0_b.length:Int) (fun t78=>zK r_0_b t78 (fun e79=>zfk (e79.toNat:Int) 1117 (fun t81=>jA t75 t81 (fun t82=>zfk t68 29 (fun t83=>jA t82 t83 (fun t84=>ziK t68 (r_0_b.length:Int) (fun t85=>zfk t85 53 (fun t86=>jA t84 t86 (fun t87=>ziK t87 64 (fun t88=>zlK t87 t88 (fun t89=>zg1 t89 n_1 (fun t90=>κ (t90,t5)))))))))))))))))))))) (fun k67=>ifW (decide (n_1<1)) (k67 true) (k67 (decide ((r_0_b.length:Int)=0)))))
def ZC (r_0_b:(List UInt8)) (r_0_p:Int) (n_1:Int) (κ:(Bool×Int)→Prop):Prop :=
 jnW (fun ((t68,t69):(Int×Bool))=>κ (t69,t68)) (fun k70=>ifW (decide (0<n_1)) (jk r_0_b r_0_p n_1 (fun (r5,r6)=>Un n_1 1 (fun t7=>k70 (r6,(decide (r5=t7)))))) (k70 (r_0_p,false)))
def uz (n_0:Int) (κ:Int→Prop):Prop :=
 jnW (fun (t61:Bool)=>ifW t61 (κ 65535) (ifW (decide (n_0=2)) (κ 255) (ifW (decide (n_0=3)) (κ 7) (κ (-1))))) (fun k62=>ifW (decide (n_0=0)) (k62 (decide (n_0=0))) (k62 (decide (n_0=1))))
def zB (n_0:Int) (κ:Int→Prop):Prop :=
 jnW (fun (t61:Bool)=>ifW t61 (κ (-1)) (zK zA n_0 (fun e63=>κ e63.xTop))) (fun k62=>ifW (decide (n_0<0)) (k62 true) (k62 (decide (4≤n_0))))
def XU (t_0:xj) (κ:Bool→Prop):Prop :=
 jnW (fun (t64:Bool)=>κ t64) (fun k65=>ifW (decide (0≤t_0.xField)) (ifW (decide (t_0.xField<4)) (ifW (decide (0≤t_0.xLo)) (ifW (decide (t_0.xLo≤t_0.xHi)) (zB t_0.xField (fun r3=>k65 (decide (t_0.xHi≤r3)))) (k65 false)) (k65 false)) (k65 false)) (k65 false))
def Xs (list_0:(List xj)) (κ:Bool→Prop):Prop :=
 ifW (decide (6<(list_0.length:Int))) (κ false) (jx (fun (nx4:Int→Prop) (t3:Int)=>ifW (decide (t3<(list_0.length:Int))) (zK list_0 t3 (fun e5=>XU e5 (fun r9=>ifW (!r9) (κ false) (jA t3 1 (fun t10=>nx4 t10))))) (κ true)) 0)
def XR (r_0:zS) (κ:Bool→Prop):Prop :=
 Xs r_0.xTests (fun r8=>ifW (!r8) (κ false) (ifW (decide (r_0.xAction=3)) (jnW (fun (t69:Bool)=>κ t69) (fun k70=>ifW (decide (0≤r_0.xChain)) (k70 (decide (r_0.xChain<5))) (k70 false))) (jnW (fun (t131:Bool)=>ifW t131 (κ (decide (r_0.xChain=0))) (κ false)) (fun k132=>ifW (decide (r_0.xAction=1)) (k132 (decide (r_0.xAction=1))) (ifW (decide (r_0.xAction=2)) (k132 (decide (r_0.xAction=2))) (ifW (decide (r_0.xAction=4)) (k132 (decide (r_0.xAction=4))) (k132 (decide (r_0.xAction=5)))))))))
def Xl (list_0:(List zS)) (κ:Bool→Prop):Prop :=
 ifW (decide (8<(list_0.length:Int))) (κ false) (jx (fun (nx4:Int→Prop) (t3:Int)=>ifW (decide (t3<(list_0.length:Int))) (zK list_0 t3 (fun e5=>XR e5 (fun r16=>ifW (!r16) (κ false) (jA t3 1 (fun t17=>nx4 t17))))) (κ true)) 0)
def Xw (rules_0:(List zS)) (κ:(List Int)→Prop):Prop :=
 jx (fun (nx9:((List Bool)×Int)→Prop) ((xs6,t8):((List Bool)×Int))=>ifW (decide (t8<(rules_0.length:Int))) (jnW (fun (xs84:(List Bool))=>jA t8 1 (fun t87=>nx9 (xs84,t87))) (fun k86=>zK rules_0 t8 (fun e10=>ifW (decide (e10.xAction=3)) (zK xs6 e10.xChain (fun e21=>k86 (xs6.set (e10.xChain).toNat true))) (k86 xs6)))) (zmf xs6 (fun e89 e90 e91 e92 e93=>jx (fun (nx100:((List Int)×Int)→Prop) ((xs96,t99):((List Int)×Int))=>ifW (decide (t99<5)) (jnW (fun (xs166:(List Int))=>jA t99 1 (fun t170=>nx100 (xs166,t170))) (fun k169=>zK ([e89,e90,e91,e92,e93]) t99 (fun e101=>ifW e101 (jJ xs96 ([t99]) (fun _=>k169 (xs96++([t99])))) (k169 xs96)))) (κ xs96)) ([],0)))) ([false,false,false,false,false],0)
def Xi (rec:((List (List zS))→Int→(List Int)→((Bool×(List Int))→Prop)→Prop)) (chains_0:(List (List zS))) (chain_1:Int) (colours_2:(List Int)) (κ:(Bool×(List Int))→Prop):Prop :=
 ifW (decide ((chains_0.length:Int)≤chain_1)) (κ (true,colours_2)) (zK colours_2 chain_1 (fun e5=>ifW (decide (e5=1)) (κ (false,colours_2)) (ifW (decide (e5=2)) (κ (true,colours_2)) (zK colours_2 chain_1 (fun e7=>zK chains_0 chain_1 (fun e10=>Xw e10 (fun r16=>jx (fun (nx23:((List Int)×Bool×Int)→Prop) ((xs19,t21,t22):((List Int)×Bool×Int))=>ifW (decide (t22<(r16.length:Int))) (jnW (fun ((xs89,t91):((List Int)×Bool))=>jA t22 1 (fun t93=>nx23 (xs89,t91,t93))) (fun k92=>zK r16 t22 (fun e24=>rec chains_0 e24 xs19 (fun (r26,r27)=>ifW (!r26) (k92 (r27,false)) (k92 (r27,t21)))))) (zK xs19 chain_1 (fun e94=>κ (t21,(xs19.set (chain_1).toNat 2))))) ((colours_2.set (chain_1).toNat 1),true,0))))))))
def uZ:Nat→(List (List zS))→Int→(List Int)→((Bool×(List Int))→Prop)→Prop
 | 0=>fun _ _ _ _=>False
 | n+1=>Xi (uZ n)
def U6 (chains_0:(List (List zS))) (chain_1:Int) (colours_2:(List Int)) (κ:(Bool×(List Int))→Prop):Prop:=∃ n,uZ n chains_0 chain_1 colours_2 κ
def YM (chains_0:(List (List zS))) (κ:Bool→Prop):Prop :=
 jx (fun (nx8:((List Int)×Int)→Prop) ((xs5,t7):((List Int)×Int))=>ifW (decide (t7<(chains_0.length:Int))) (U6 chains_0 t7 xs5 (fun (r9,r10)=>ifW (!r9) (κ false) (jA t7 1 (fun t12=>nx8 (r10,t12))))) (κ true)) ([0,0,0,0,0],0)
def yC (s_0:zL) (κ:Bool→Prop):Prop :=
 jnW (fun (t68:Bool)=>ifW t68 (κ false) (jx (fun (nx71:Int→Prop) (t70:Int)=>ifW (decide (t70<(s_0.xChains.length:Int))) (zK s_0.xChains t70 (fun e72=>Xl e72 (fun r78=>ifW (!r78) (κ false) (jA t70 1 (fun t79=>nx71 t79))))) (jx (fun (nx81:Int→Prop) (t80:Int)=>ifW (decide (t80<(s_0.xChains.length:Int))) (zK s_0.xChains t80 (fun e82=>Xw e82 (fun r88=>jx (fun (nx92:Int→Prop) (t91:Int)=>ifW (decide (t91<(r88.length:Int))) (zK r88 t91 (fun e93=>ifW (decide ((s_0.xChains.length:Int)≤e93)) (κ false) (jA t91 1 (fun t95=>nx92 t95)))) (jA t80 1 (fun t96=>nx81 t96))) 0))) (YM s_0.xChains (fun r97=>κ r97))) 0)) 0)) (fun k69=>ifW (decide ((s_0.xChains.length:Int)<1)) (k69 true) (k69 (decide (5<(s_0.xChains.length:Int)))))
def yZ (r_0:zS) (κ:xK→Prop):Prop :=
 ifW (decide (r_0.xAction=1)) (κ (xK.kDeciding (uS.mk true))) (ifW (decide (r_0.xAction=2)) (κ (xK.kDeciding (uS.mk false))) (ifW (decide (r_0.xAction=3)) (κ (xK.kCalling (ZH.mk r_0.xChain))) (ifW (decide (r_0.xAction=4)) (κ (xK.kReturning (uh.mk ))) (κ (xK.kPassing (ya.mk ))))))
def uR (a_0:(List zg)) (b_1:(List zg)) (κ:(Int×Bool)→Prop):Prop :=
 jx (fun (nx7:(Int×Int)→Prop) ((t5,t6):(Int×Int))=>jnW (fun (t68:Bool)=>ifW t68 (zK a_0 t5 (fun e70=>zK b_1 t6 (fun e72=>zK a_0 t5 (fun e74=>zK b_1 t6 (fun e76=>ifW (decide ((max e70.xLo e72.xLo)≤(min e74.xHi e76.xHi))) (κ ((max e70.xLo e72.xLo),true)) (zK a_0 t5 (fun e78=>zK b_1 t6 (fun e80=>ifW (decide (e78.xHi<e80.xHi)) (jA t5 1 (fun t82=>nx7 (t82,t6))) (jA t6 1 (fun t83=>nx7 (t5,t83))))))))))) (κ (0,false))) (fun k69=>ifW (decide (t5<(a_0.length:Int))) (k69 (decide (t6<(b_1.length:Int)))) (k69 false))) (0,0)
def Uy (fields_0:zc0) (κ:zX→Prop):Prop :=
 zK ([fields_0.x0,fields_0.x1,fields_0.x2,fields_0.x3]) 0 (fun e5=>zK ([fields_0.x0,fields_0.x1,fields_0.x2,fields_0.x3]) 1 (fun e7=>zK ([fields_0.x0,fields_0.x1,fields_0.x2,fields_0.x3]) 2 (fun e9=>zK ([fields_0.x0,fields_0.x1,fields_0.x2,fields_0.x3]) 3 (fun e11=>κ (zX.mk e5 e7 e9 e11)))))
def yh (s_0:za) (other_1:za) (κ:(zX×Bool)→Prop):Prop :=
 jx (fun (nx52:((List Int)×Int)→Prop) ((xs49,t51):((List Int)×Int))=>ifW (decide (t51<4)) (jnW (fun ((t53,t54):(Int×Bool))=>ifW (!t54) (κ ((zX.mk 0 0 0 0),false)) (zK xs49 t51 (fun e78=>jA t51 1 (fun t81=>nx52 ((xs49.set (t51).toNat t53),t81))))) (fun k55=>zK ([s_0.x0,s_0.x1,s_0.x2,s_0.x3]) t51 (fun e56=>zK ([other_1.x0,other_1.x1,other_1.x2,other_1.x3]) t51 (fun e58=>uR e56 e58 (fun (r68,r69)=>k55 (r68,r69)))))) (zfO xs49 (fun e82 e83 e84 e85=>Uy (zc0.mk e82 e83 e84 e85) (fun r87=>κ (r87,true))))) ([0,0,0,0],0)
def uv (s_0:za) (other_1:za) (κ:Bool→Prop):Prop :=
 yh s_0 other_1 (fun (r75,r76)=>κ r76)
def yw (list_0:(List zg)) (κ:((List zg)×Bool)→Prop):Prop :=
 ifW (decide (40<(list_0.length:Int))) (κ ([],false)) (κ (list_0,true))
def uy (rest_0:(List zg)) (at_1:Int) (top_2:Int) (κ:(Bool×Int)→Prop):Prop :=
 ifW (decide ((rest_0.length:Int)=0)) (κ (false,top_2)) (zK rest_0 0 (fun e3=>ifW (decide (at_1<e3.xLo)) (zK rest_0 0 (fun e5=>Un e5.xLo 1 (fun t7=>κ (false,t7)))) (zK rest_0 0 (fun e8=>κ (true,e8.xHi)))))
def X7 (inA_0:Bool) (inB_1:Bool) (κ:Bool→Prop):Prop :=
 jnW (fun (t61:Bool)=>κ t61) (fun k62=>ifW inA_0 (k62 inB_1) (k62 false))
def uF (a_0:(List zg)) (b_1:(List zg)) (top_2:Int) (κ:(List zg)→Prop):Prop :=
 jx (fun (nx14:((List zg)×Int×Int×Int)→Prop) ((xs8,t11,t12,t13):((List zg)×Int×Int×Int))=>ifW (decide (t13≤top_2)) (jx (fun (nx16:Int→Prop) (t15:Int)=>jnW (fun (t79:Bool)=>ifW t79 (jA t15 1 (fun t81=>nx16 t81)) (jx (fun (nx83:Int→Prop) (t82:Int)=>jnW (fun (t146:Bool)=>ifW t146 (jA t82 1 (fun t148=>nx83 t148)) (uQ a_0 t15 (a_0.length:Int) (fun xs150=>uy xs150 t13 top_2 (fun (r153,r154)=>uQ b_1 t82 (b_1.length:Int) (fun xs156=>uy xs156 t13 top_2 (fun (r159,r160)=>jnW (fun (xs296:(List zg))=>jA (min r154 r160) 1 (fun t300=>nx14 (xs296,t15,t82,t300))) (fun k299=>X7 r153 r159 (fun r161=>ifW r161 (jnW (fun (t226:Bool)=>ifW t226 (Un (xs8.length:Int) 1 (fun t228=>zK xs8 t228 (fun e229=>k299 (xs8.set (t228).toNat (zg.mk e229.xLo (min r154 r160)))))) (jJ xs8 ([(zg.mk t13 (min r154 r160))]) (fun _=>k299 (xs8++([(zg.mk t13 (min r154 r160))]))))) (fun k227=>ifW (decide (0<(xs8.length:Int))) (Un (xs8.length:Int) 1 (fun t162=>zK xs8 t162 (fun e163=>jA e163.xHi 1 (fun t165=>k227 (decide (t165=t13)))))) (k227 false))) (k299 xs8))))))))) (fun k147=>ifW (decide (t82<(b_1.length:Int))) (zK b_1 t82 (fun e84=>k147 (decide (e84.xHi<t13)))) (k147 false))) t12)) (fun k80=>ifW (decide (t15<(a_0.length:Int))) (zK a_0 t15 (fun e17=>k80 (decide (e17.xHi<t13)))) (k80 false))) t11) (κ xs8)) ([],0,0,0)
def zE (a_0:(List zg)) (b_1:(List zg)) (top_2:Int) (κ:((List zg)×Bool)→Prop):Prop :=
 uF a_0 b_1 top_2 (fun r6=>yw r6 (fun (r9,r12)=>κ (r9,r12)))
def yr (s_0:za) (other_1:za) (κ:(za×Bool)→Prop):Prop :=
 jx (fun (nx52:((List (List zg))×Int)→Prop) ((xs49,t51):((List (List zg))×Int))=>ifW (decide (t51<4)) (jnW (fun ((xs53,t56):((List zg)×Bool))=>ifW (!t56) (κ ((za.mk ([]) ([]) ([]) ([])),false)) (zK xs49 t51 (fun e122=>jA t51 1 (fun t128=>nx52 ((xs49.set (t51).toNat xs53),t128))))) (fun k57=>zK ([s_0.x0,s_0.x1,s_0.x2,s_0.x3]) t51 (fun e58=>zK ([other_1.x0,other_1.x1,other_1.x2,other_1.x3]) t51 (fun e60=>zB t51 (fun r70=>zE e58 e60 r70 (fun (r71,r73)=>k57 (r71,r73))))))) (zfO xs49 (fun e129 e130 e131 e132=>κ ((za.mk e129 e130 e131 e132),true)))) ([[],[],[],[]],0)
def xl (u_0_chains:(List (List zS))) (u_0_flats:(List zk)) (u_0_over:Bool) (boxes_1:(List za)) (κ:((List za)×Bool)→Prop):Prop :=
 jnW (fun (t70:Bool)=>κ (boxes_1,t70)) (fun k71=>ifW (decide (400<(boxes_1.length:Int))) (k71 true) (k71 u_0_over))
def yf (s_0:za) (κ:Bool→Prop):Prop :=
 jx (fun (nx39:Int→Prop) (t38:Int)=>ifW (decide (t38<4)) (zK ([s_0.x0,s_0.x1,s_0.x2,s_0.x3]) t38 (fun e41=>ifW (decide ((e41.length:Int)=0)) (κ true) (jA t38 1 (fun t44=>nx39 t44)))) (κ false)) 0
def yP (inA_0:Bool) (inB_1:Bool) (κ:Bool→Prop):Prop :=
 jnW (fun (t61:Bool)=>κ t61) (fun k62=>ifW inA_0 (k62 (!inB_1)) (k62 false))
def z8 (a_0:(List zg)) (b_1:(List zg)) (top_2:Int) (κ:(List zg)→Prop):Prop :=
 jx (fun (nx14:((List zg)×Int×Int×Int)→Prop) ((xs8,t11,t12,t13):((List zg)×Int×Int×Int))=>ifW (decide (t13≤top_2)) (jx (fun (nx16:Int→Prop) (t15:Int)=>jnW (fun (t79:Bool)=>ifW t79 (jA t15 1 (fun t81=>nx16 t81)) (jx (fun (nx83:Int→Prop) (t82:Int)=>jnW (fun (t146:Bool)=>ifW t146 (jA t82 1 (fun t148=>nx83 t148)) (uQ a_0 t15 (a_0.length:Int) (fun xs150=>uy xs150 t13 top_2 (fun (r153,r154)=>uQ b_1 t82 (b_1.length:Int) (fun xs156=>uy xs156 t13 top_2 (fun (r159,r160)=>jnW (fun (xs296:(List zg))=>jA (min r154 r160) 1 (fun t300=>nx14 (xs296,t15,t82,t300))) (fun k299=>yP r153 r159 (fun r161=>ifW r161 (jnW (fun (t226:Bool)=>ifW t226 (Un (xs8.length:Int) 1 (fun t228=>zK xs8 t228 (fun e229=>k299 (xs8.set (t228).toNat (zg.mk e229.xLo (min r154 r160)))))) (jJ xs8 ([(zg.mk t13 (min r154 r160))]) (fun _=>k299 (xs8++([(zg.mk t13 (min r154 r160))]))))) (fun k227=>ifW (decide (0<(xs8.length:Int))) (Un (xs8.length:Int) 1 (fun t162=>zK xs8 t162 (fun e163=>jA e163.xHi 1 (fun t165=>k227 (decide (t165=t13)))))) (k227 false))) (k299 xs8))))))))) (fun k147=>ifW (decide (t82<(b_1.length:Int))) (zK b_1 t82 (fun e84=>k147 (decide (e84.xHi<t13)))) (k147 false))) t12)) (fun k80=>ifW (decide (t15<(a_0.length:Int))) (zK a_0 t15 (fun e17=>k80 (decide (e17.xHi<t13)))) (k80 false))) t11) (κ xs8)) ([],0,0,0)
def jo (a_0:(List zg)) (b_1:(List zg)) (top_2:Int) (κ:((List zg)×Bool)→Prop):Prop :=
 z8 a_0 b_1 top_2 (fun r6=>yw r6 (fun (r9,r12)=>κ (r9,r12)))
def Z6 {σ_:Type} (Y_:σ_→za→Bool→(Bool×σ_→Prop)→Prop) (z_:σ_) (a_1:za) (b_2:za) (κ:σ_→Prop):Prop :=
 yf a_1 (fun r20=>ifW r20 (κ z_) (uv a_1 b_2 (fun r51=>ifW (!r51) (Y_ z_ a_1 true (fun (t67,z68)=>κ z68)) (jx (fun (nx108:((List (List zg))×σ_×Bool×Int)→Prop) ((xs101,z103,t106,t107):((List (List zg))×σ_×Bool×Int))=>ifW (decide (t107<4)) (jnW (fun ((z498,xs501,t503):(σ_×(List (List zg))×Bool))=>jA t107 1 (fun t505=>nx108 (xs501,z498,t503,t505))) (fun k504=>jnW (fun ((xs109,t112):((List zg)×Bool))=>jnW (fun (t232:Bool)=>ifW t232 (Y_ z103 (za.mk ([]) ([]) ([]) ([])) false (fun (t234,z235)=>κ z235)) (jnW (fun ((z363,xs366):(σ_×(List (List zg))))=>jnW (fun ((xs369,t372):((List zg)×Bool))=>zK xs366 t107 (fun e432=>ifW t106 (k504 (z363,(xs366.set (t107).toNat xs369),t372)) (k504 (z363,(xs366.set (t107).toNat xs369),false)))) (fun k373=>(zK ([a_1.x0,a_1.x1,a_1.x2,a_1.x3]) t107 (fun e374=>(zK ([b_2.x0,b_2.x1,b_2.x2,b_2.x3]) t107 (fun e379=>zB t107 (fun r384=>zE e374 e379 r384 (fun (r385,r387)=>k373 (r385,r387)))))∧(zB t107 (fun r388=>zK ([b_2.x0,b_2.x1,b_2.x2,b_2.x3]) t107 (fun e389=>zE e374 e389 r388 (fun (r394,r396)=>k373 (r394,r396)))))))∧(zK ([b_2.x0,b_2.x1,b_2.x2,b_2.x3]) t107 (fun e397=>(zK ([a_1.x0,a_1.x1,a_1.x2,a_1.x3]) t107 (fun e402=>zB t107 (fun r407=>zE e402 e397 r407 (fun (r385,r387)=>k373 (r385,r387)))))∧(zB t107 (fun r408=>zK ([a_1.x0,a_1.x1,a_1.x2,a_1.x3]) t107 (fun e409=>zE e409 e397 r408 (fun (r414,r416)=>k373 (r414,r416)))))))∧(zB t107 (fun r417=>(zK ([a_1.x0,a_1.x1,a_1.x2,a_1.x3]) t107 (fun e418=>zK ([b_2.x0,b_2.x1,b_2.x2,b_2.x3]) t107 (fun e423=>zE e418 e423 r417 (fun (r394,r396)=>k373 (r394,r396)))))∧(zK ([b_2.x0,b_2.x1,b_2.x2,b_2.x3]) t107 (fun e425=>zK ([a_1.x0,a_1.x1,a_1.x2,a_1.x3]) t107 (fun e430=>zE e430 e425 r417 (fun (r414,r416)=>k373 (r414,r416))))))))) (fun k368=>ifW (decide (0<(xs109.length:Int))) (zfO xs101 (fun e238 e239 e240 e241=>zK ([e238,e239,e240,e241]) t107 (fun e273=>zfO (([e238,e239,e240,e241]).set (t107).toNat xs109) (fun e279 e280 e281 e282=>Y_ z103 (za.mk e279 e280 e281 e282) true (fun (t299,z300)=>ifW (!t299) (κ z300) (k368 (z300,[e238,e239,e240,e241]))))))) (k368 (z103,xs101))))) (fun k233=>ifW (!t112) (k233 true) (ifW (decide (0<(xs109.length:Int))) (k233 (!t106)) (k233 false)))) (fun k113=>(zK ([a_1.x0,a_1.x1,a_1.x2,a_1.x3]) t107 (fun e114=>(zK ([b_2.x0,b_2.x1,b_2.x2,b_2.x3]) t107 (fun e119=>zB t107 (fun r124=>jo e114 e119 r124 (fun (r125,r127)=>k113 (r125,r127)))))∧(zB t107 (fun r128=>zK ([b_2.x0,b_2.x1,b_2.x2,b_2.x3]) t107 (fun e129=>jo e114 e129 r128 (fun (r134,r136)=>k113 (r134,r136)))))))∧(zK ([b_2.x0,b_2.x1,b_2.x2,b_2.x3]) t107 (fun e137=>(zK ([a_1.x0,a_1.x1,a_1.x2,a_1.x3]) t107 (fun e142=>zB t107 (fun r147=>jo e142 e137 r147 (fun (r125,r127)=>k113 (r125,r127)))))∧(zB t107 (fun r148=>zK ([a_1.x0,a_1.x1,a_1.x2,a_1.x3]) t107 (fun e149=>jo e149 e137 r148 (fun (r154,r156)=>k113 (r154,r156)))))))∧(zB t107 (fun r157=>(zK ([a_1.x0,a_1.x1,a_1.x2,a_1.x3]) t107 (fun e158=>zK ([b_2.x0,b_2.x1,b_2.x2,b_2.x3]) t107 (fun e163=>jo e158 e163 r157 (fun (r134,r136)=>k113 (r134,r136)))))∧(zK ([b_2.x0,b_2.x1,b_2.x2,b_2.x3]) t107 (fun e165=>zK ([a_1.x0,a_1.x1,a_1.x2,a_1.x3]) t107 (fun e170=>jo e170 e165 r157 (fun (r154,r156)=>k113 (r154,r156)))))))))) (κ z103)) ([a_1.x0,a_1.x1,a_1.x2,a_1.x3],z_,true,0)))))
def VA (z:Option (List za)) (x:za) (ok:Bool) (κ:Bool×Option (List za)→Prop):Prop :=
 match z with
 | none=>False
 | some xs=>ifW ok (jJ xs [x] (fun ys=>κ (true,some ys))) (κ (false,none))
def zlp:Option (List za)→List za×Bool
 | some xs=>(xs,true)
 | none=>([],false)
def ye (s_0:za) (other_1:za) (κ:((List za)×Bool)→Prop):Prop :=
 Z6 VA (some []) s_0 other_1 (fun r=>κ (zlp r))
def yG (u_0_chains:(List (List zS))) (u_0_flats:(List zk)) (u_0_over:Bool) (boxes_1:(List za)) (where_2:za) (κ:((List za)×(List za)×Bool)→Prop):Prop :=
 jx (fun (nx42:((List za)×(List za)×Int)→Prop) ((xs34,xs38,t41):((List za)×(List za)×Int))=>ifW (decide (t41<(boxes_1.length:Int))) (zK boxes_1 t41 (fun e43=>jnW (fun (xs252:(List za))=>ye e43 where_2 (fun (r286,r289)=>ifW (!r289) (κ ([],[],true)) (jJ xs38 r286 (fun _=>jA t41 1 (fun t294=>nx42 (xs252,(xs38++r286),t294)))))) (fun k255=>uv e43 where_2 (fun r103=>ifW r103 (yr e43 where_2 (fun (r134,r143)=>ifW (!r143) (κ ([],[],true)) (jJ xs34 ([r134]) (fun _=>k255 (xs34++([r134])))))) (k255 xs34))))) (xl u_0_chains u_0_flats u_0_over xs34 (fun (r295,r298)=>xl u_0_chains u_0_flats r298 xs38 (fun (r299,r302)=>κ (r295,r299,r302))))) ([],[],0)
def Za (κ:za→Prop):Prop :=
 jx (fun (nx8:((List (List zg))×Int)→Prop) ((xs5,t7):((List (List zg))×Int))=>ifW (decide (t7<4)) (zB t7 (fun r9=>zK xs5 t7 (fun e12=>jA t7 1 (fun t18=>nx8 ((xs5.set (t7).toNat ([(zg.mk 0 r9)])),t18))))) (zfO xs5 (fun e19 e20 e21 e22=>κ (za.mk e19 e20 e21 e22)))) ([[],[],[],[]],0)
def u0 (t_0:xj) (κ:(List zg)→Prop):Prop :=
 ifW (!t_0.xNot) (κ ([(zg.mk t_0.xLo t_0.xHi)])) (jnW (fun (xs72:(List zg))=>jnW (fun (xs142:(List zg))=>κ xs142) (fun k145=>zB t_0.xField (fun r76=>ifW (decide (t_0.xHi<r76)) (jA t_0.xHi 1 (fun t77=>jJ xs72 ([(zg.mk t77 r76)]) (fun _=>k145 (xs72++([(zg.mk t77 r76)]))))) (k145 xs72)))) (fun k75=>ifW (decide (0<t_0.xLo)) (Un t_0.xLo 1 (fun t7=>jJ ([]) ([(zg.mk 0 t7)]) (fun _=>k75 (([])++([(zg.mk 0 t7)]))))) (k75 ([]))))
def Xd (list_0:(List xj)) (κ:za→Prop):Prop :=
 Za (fun r5=>jx (fun (nx32:((List (List zg))×Int)→Prop) ((xs29,t31):((List (List zg))×Int))=>ifW (decide (t31<(list_0.length:Int))) (zK list_0 t31 (fun e33=>jnW (fun (xs37:(List (List zg)))=>jA t31 1 (fun t76=>nx32 (xs37,t76))) (fun k39=>(zK xs29 e33.xField (fun e40=>u0 e33 (fun r46=>zB e33.xField (fun r48=>zE e40 r46 r48 (fun (r49,r51)=>zK xs29 e33.xField (fun e52=>k39 (xs29.set (e33.xField).toNat r49)))))))∧(u0 e33 (fun r69=>(zK xs29 e33.xField (fun e71=>zB e33.xField (fun r48=>zE e71 r69 r48 (fun (r49,r51)=>zK xs29 e33.xField (fun e52=>k39 (xs29.set (e33.xField).toNat r49))))))∧(zB e33.xField (fun r73=>zK xs29 e33.xField (fun e74=>zE e74 r69 r73 (fun (r49,r51)=>zK xs29 e33.xField (fun e52=>k39 (xs29.set (e33.xField).toNat r49))))))))))) (zfO xs29 (fun e77 e78 e79 e80=>κ (za.mk e77 e78 e79 e80)))) ([r5.x0,r5.x1,r5.x2,r5.x3],0))
def uL (s_0:(List za)) (n_1:Int) (κ:(List za)→Prop):Prop:=s_0=[]∧0≤n_1∧n_1≤4294967296∧κ []
def jZ (slices_0:(List (List za))) (κ:(List za)→Prop):Prop :=
 jx (fun (nx6:(Int×Int)→Prop) ((t4,t5):(Int×Int))=>ifW (decide (t5<(slices_0.length:Int))) (zK slices_0 t5 (fun e7=>jA t4 (e7.length:Int) (fun t13=>ifW (decide (t13<0)) (False) (jA t5 1 (fun t14=>nx6 (t13,t14)))))) (uL ([]) t4 (fun r15=>jx (fun (nx23:((List za)×Int)→Prop) ((xs19,t22):((List za)×Int))=>ifW (decide (t22<(slices_0.length:Int))) (zK slices_0 t22 (fun e24=>jJ xs19 e24 (fun _=>jA t22 1 (fun t32=>nx23 ((xs19++e24),t32))))) (κ xs19)) (r15,0)))) (0,0)
def uW (d_0:uS) (u_1_chains:(List (List zS))) (u_1_flats:(List zk)) (u_1_over:Bool) (__2:(List za)) (fitting_3:(List za)) (missing_4:(List za)) (κ:((List za)×(List zk)×Bool)→Prop):Prop :=
 jx (fun (nx23:((List zk)×Int)→Prop) ((xs19,t22):((List zk)×Int))=>ifW (decide (t22<(fitting_3.length:Int))) (zK fitting_3 t22 (fun e24=>jnW (fun (xs57:(List zk))=>jA t22 1 (fun t113=>nx23 (xs57,t113))) (fun k60=>jJ xs19 ([(zk.mk e24 d_0.xAccept)]) (fun _=>k60 (xs19++([(zk.mk e24 d_0.xAccept)])))))) (jnW (fun (t174:Bool)=>κ (missing_4,xs19,t174)) (fun k175=>ifW (decide (60<(xs19.length:Int))) (k175 true) (k175 u_1_over)))) (u_1_flats,0)
def Zz (a_0:uh) (__1_chains:(List (List zS))) (__1_flats:(List zk)) (__1_over:Bool) (left_2:(List za)) (fitting_3:(List za)) (missing_4:(List za)) (κ:((List za)×(List za))→Prop):Prop :=
 jJ left_2 fitting_3 (fun _=>κ (missing_4,(left_2++fitting_3)))
def Z5 (a_0:ya) (__1_chains:(List (List zS))) (__1_flats:(List zk)) (__1_over:Bool) (__2:(List za)) (fitting_3:(List za)) (missing_4:(List za)) (κ:(List za)→Prop):Prop :=
 jZ ([missing_4,fitting_3]) (fun r26=>κ r26)
def Xc (rec:(List (List zS))→(List zk)→Bool→Int→(List za)→(((List za)×(List zk)×Bool)→Prop)→Prop) (c_0:ZH) (u_1_chains:(List (List zS))) (u_1_flats:(List zk)) (u_1_over:Bool) (__2:(List za)) (fitting_3:(List za)) (missing_4:(List za)) (κ:((List za)×(List zk)×Bool)→Prop):Prop :=
 rec u_1_chains u_1_flats u_1_over c_0.xChain fitting_3 (fun (r18,r21,r24)=>jZ ([missing_4,r18]) (fun r33=>κ (r33,r21,r24)))
def yQ (rec:((List (List zS))→(List zk)→Bool→Int→(List za)→(((List za)×(List zk)×Bool)→Prop)→Prop)) (u_0_chains:(List (List zS))) (u_0_flats:(List zk)) (u_0_over:Bool) (number_1:Int) (boxes_2:(List za)) (κ:((List za)×(List zk)×Bool)→Prop):Prop :=
 ifW (decide ((boxes_2.length:Int)=0)) (κ ([],u_0_flats,u_0_over)) (zK u_0_chains number_1 (fun e14=>jx (fun (nx34:((List za)×(List zk)×Bool×(List za)×Int)→Prop) ((xs21,xs25,t28,xs30,t33):((List za)×(List zk)×Bool×(List za)×Int))=>ifW (decide (t33<(e14.length:Int))) (jnW (fun ((xs171,xs174,t177,xs179):((List zk)×(List za)×Bool×(List za)))=>jA t33 1 (fun t183=>nx34 (xs174,xs171,t177,xs179,t183))) (fun k182=>zK e14 t33 (fun e35=>Xd e35.xTests (fun r46=>yG u_0_chains xs25 t28 xs30 r46 (fun (r55,r58,r61)=>ifW r61 (κ ([],xs25,r61)) (yZ e35 (fun r63=>xK.casesW r63 (fun x64=>uW x64 u_0_chains xs25 r61 xs21 r55 r58 (fun (r68,r71,r74)=>xl u_0_chains r71 r74 r68 (fun (r75,r78)=>ifW r78 (κ ([],r71,r78)) (k182 (r71,xs21,r78,r75))))) (fun x65=>Xc rec x65 u_0_chains xs25 r61 xs21 r55 r58 (fun (r80,r83,r86)=>xl u_0_chains r83 r86 r80 (fun (r87,r90)=>ifW r90 (κ ([],r83,r90)) (k182 (r83,xs21,r90,r87))))) (fun x66=>Zz (uh.mk ) u_0_chains xs25 r61 xs21 r55 r58 (fun (r92,r95)=>xl u_0_chains xs25 r61 r92 (fun (r98,r101)=>ifW r101 (κ ([],xs25,r101)) (k182 (xs25,r95,r101,r98))))) (fun x67=>Z5 (ya.mk ) u_0_chains xs25 r61 xs21 r55 r58 (fun r103=>xl u_0_chains xs25 r61 r103 (fun (r106,r109)=>ifW r109 (κ ([],xs25,r109)) (k182 (xs25,xs21,r109,r106)))))))))))) (jZ ([xs21,xs30]) (fun r192=>xl u_0_chains xs25 t28 r192 (fun (r195,r198)=>κ (r195,xs25,r198))))) ([],u_0_flats,u_0_over,boxes_2,0)))
def ui:Nat→(List (List zS))→(List zk)→Bool→Int→(List za)→(((List za)×(List zk)×Bool)→Prop)→Prop
 | 0=>fun _ _ _ _ _ _=>False
 | n+1=>yQ (ui n)
def Y0 (u_0_chains:(List (List zS))) (u_0_flats:(List zk)) (u_0_over:Bool) (number_1:Int) (boxes_2:(List za)) (κ:((List za)×(List zk)×Bool)→Prop):Prop:=∃ n,ui n u_0_chains u_0_flats u_0_over number_1 boxes_2 κ
def ZO (s_0:zL) (κ:((List zk)×Bool)→Prop):Prop :=
 Za (fun r11=>Y0 s_0.xChains ([]) false 0 ([r11]) (fun (r35,r38,r41)=>κ (r38,(!r41))))
def YR (list_0:(List zk)) (rest_1:Bool) (κ:(List zk)→Prop):Prop :=
 jx (fun (nx5:Int→Prop) (t4:Int)=>jnW (fun (t69:Bool)=>ifW t69 (Un t4 1 (fun t71=>nx5 t71)) (uQ list_0 0 t4 (fun xs73=>κ xs73))) (fun k70=>ifW (decide (0<t4)) (Un t4 1 (fun t6=>zK list_0 t6 (fun e7=>k70 (decide (e7.xAccept=rest_1))))) (k70 false))) (list_0.length:Int)
def x7 (s_0:(List zk)) (κ:(List zk)→Prop):Prop :=
 zl8 true s_0 (fun t4=>ifW t4 (κ ([])) (jJ ([]) s_0 (fun _=>κ (([])++s_0))))
def yB (s_0:za) (other_1:za) (κ:Bool→Prop):Prop :=
 yf s_0 (fun r60=>ifW r60 (κ true) (jx (fun (nx62:Int→Prop) (t61:Int)=>ifW (decide (t61<4)) (jnW (fun (t63:Bool)=>ifW t63 (κ false) (jA t61 1 (fun t107=>nx62 t107))) (fun k64=>zK ([s_0.x0,s_0.x1,s_0.x2,s_0.x3]) t61 (fun e65=>zK ([other_1.x0,other_1.x1,other_1.x2,other_1.x3]) t61 (fun e67=>zB t61 (fun r77=>z8 e65 e67 r77 (fun r78=>k64 (decide (0<(r78.length:Int))))))))) (κ true)) 0))
def jS (s1_0:(List zg)) (s2_1:(List zg)) (κ:Bool→Prop):Prop :=
 ifW (!(decide ((s1_0.length:Int)=(s2_1.length:Int)))) (κ false) (jx (fun (nx6:Int→Prop) (t5:Int)=>ifW (decide (t5<(s1_0.length:Int))) (zK s1_0 t5 (fun e7=>zK s2_1 t5 (fun e9=>ifW (!(decide (e7=e9))) (κ false) (jA t5 1 (fun t11=>nx6 t11))))) (κ true)) 0)
def ZX (inA_0:Bool) (inB_1:Bool) (κ:Bool→Prop):Prop :=
 jnW (fun (t61:Bool)=>κ t61) (fun k62=>ifW inA_0 (k62 true) (k62 inB_1))
def uj (a_0:(List zg)) (b_1:(List zg)) (top_2:Int) (κ:(List zg)→Prop):Prop :=
 jx (fun (nx14:((List zg)×Int×Int×Int)→Prop) ((xs8,t11,t12,t13):((List zg)×Int×Int×Int))=>ifW (decide (t13≤top_2)) (jx (fun (nx16:Int→Prop) (t15:Int)=>jnW (fun (t79:Bool)=>ifW t79 (jA t15 1 (fun t81=>nx16 t81)) (jx (fun (nx83:Int→Prop) (t82:Int)=>jnW (fun (t146:Bool)=>ifW t146 (jA t82 1 (fun t148=>nx83 t148)) (uQ a_0 t15 (a_0.length:Int) (fun xs150=>uy xs150 t13 top_2 (fun (r153,r154)=>uQ b_1 t82 (b_1.length:Int) (fun xs156=>uy xs156 t13 top_2 (fun (r159,r160)=>jnW (fun (xs296:(List zg))=>jA (min r154 r160) 1 (fun t300=>nx14 (xs296,t15,t82,t300))) (fun k299=>ZX r153 r159 (fun r161=>ifW r161 (jnW (fun (t226:Bool)=>ifW t226 (Un (xs8.length:Int) 1 (fun t228=>zK xs8 t228 (fun e229=>k299 (xs8.set (t228).toNat (zg.mk e229.xLo (min r154 r160)))))) (jJ xs8 ([(zg.mk t13 (min r154 r160))]) (fun _=>k299 (xs8++([(zg.mk t13 (min r154 r160))]))))) (fun k227=>ifW (decide (0<(xs8.length:Int))) (Un (xs8.length:Int) 1 (fun t162=>zK xs8 t162 (fun e163=>jA e163.xHi 1 (fun t165=>k227 (decide (t165=t13)))))) (k227 false))) (k299 xs8))))))))) (fun k147=>ifW (decide (t82<(b_1.length:Int))) (zK b_1 t82 (fun e84=>k147 (decide (e84.xHi<t13)))) (k147 false))) t12)) (fun k80=>ifW (decide (t15<(a_0.length:Int))) (zK a_0 t15 (fun e17=>k80 (decide (e17.xHi<t13)))) (k80 false))) t11) (κ xs8)) ([],0,0,0)
def xJ (a_0:(List zg)) (b_1:(List zg)) (top_2:Int) (κ:((List zg)×Bool)→Prop):Prop :=
 uj a_0 b_1 top_2 (fun r6=>yw r6 (fun (r9,r12)=>κ (r9,r12)))
def u5 (a_0:za) (b_1:za) (κ:(za×Bool)→Prop):Prop :=
 yB a_0 b_1 (fun r77=>ifW r77 (κ (b_1,true)) (yB b_1 a_0 (fun r156=>ifW r156 (κ (a_0,true)) (jx (fun (nx208:(Int×Int×Int)→Prop) ((t205,t206,t207):(Int×Int×Int))=>ifW (decide (t207<4)) (jnW (fun ((t293,t294):(Int×Int))=>jA t207 1 (fun t296=>nx208 (t293,t294,t296))) (fun k295=>jnW (fun (t209:Bool)=>ifW t209 (jA t206 1 (fun t232=>k295 (t207,t232))) (k295 (t205,t206))) (fun k210=>zK ([a_0.x0,a_0.x1,a_0.x2,a_0.x3]) t207 (fun e211=>zK ([b_1.x0,b_1.x1,b_1.x2,b_1.x3]) t207 (fun e213=>jS e211 e213 (fun r223=>k210 (!r223))))))) (ifW (!(decide (t206=1))) (κ ((za.mk ([]) ([]) ([]) ([])),false)) (jnW (fun ((xs318,t321):((List zg)×Bool))=>ifW (!t321) (κ ((za.mk ([]) ([]) ([]) ([])),false)) (zK ([a_0.x0,a_0.x1,a_0.x2,a_0.x3]) t205 (fun e417=>zfO (([a_0.x0,a_0.x1,a_0.x2,a_0.x3]).set (t205).toNat xs318) (fun e423 e424 e425 e426=>κ ((za.mk e423 e424 e425 e426),true))))) (fun k322=>zK ([a_0.x0,a_0.x1,a_0.x2,a_0.x3]) t205 (fun e323=>zK ([b_1.x0,b_1.x1,b_1.x2,b_1.x3]) t205 (fun e325=>zB t205 (fun r335=>xJ e323 e325 r335 (fun (r336,r338)=>k322 (r336,r338))))))))) (0,0,0)))))
def xW (s_0:(List zk)) (i_1:Int) (j_2:Int) (κ:(List zk)→Prop):Prop:=0≤i_1∧i_1≤j_2∧j_2≤(s_0.length:Int)∧κ (s_0.take i_1.toNat++s_0.drop j_2.toNat)
def yH (list_0:(List zk)) (κ:(List zk)→Prop):Prop :=
 x7 list_0 (fun r4=>jx (fun (nx12:((List zk)×Int)→Prop) ((xs8,t11):((List zk)×Int))=>jA t11 1 (fun t13=>ifW (decide (t13<(xs8.length:Int))) (jnW (fun ((xs149,t151):((List (List zg))×Bool))=>ifW (!t151) (jA t11 1 (fun t153=>nx12 (xs8,t153))) (zfO xs149 (fun e154 e155 e156 e157=>zK xs8 t11 (fun e174=>jA t11 1 (fun t189=>jA t11 2 (fun t190=>xW (xs8.set (t11).toNat (zk.mk (za.mk e154 e155 e156 e157) e174.xAccept)) t189 t190 (fun r191=>Un t11 1 (fun t194=>nx12 (r191,(max t194 0)))))))))) (fun k152=>zK xs8 t11 (fun e17=>jA t11 1 (fun t19=>zK xs8 t19 (fun e20=>ifW (decide (e17.xAccept=e20.xAccept)) (jnW (fun ((xs22,t24):((List (List zg))×Bool))=>k152 (xs22,t24)) (fun k25=>zK xs8 t11 (fun e26=>zK xs8 (w64 (t11+1)) (fun e28=>u5 e26.xWhere e28.xWhere (fun (r50,r55)=>k25 ([r50.x0,r50.x1,r50.x2,r50.x3],r55)))))) (k152 ([[],[],[],[]],false))))))) (κ xs8))) (r4,0))
def X5 (list_0:(List zk)) (κ:(List za)→Prop):Prop :=
 zeO ((za.mk ([]) ([]) ([]) ([])):za) 0 (list_0.length:Int) (fun xs5=>jx (fun (nx12:((List za)×Int)→Prop) ((xs8,t11):((List za)×Int))=>ifW (decide (t11<(list_0.length:Int))) (zK list_0 t11 (fun e13=>jJ xs8 ([e13.xWhere]) (fun _=>jA t11 1 (fun t46=>nx12 ((xs8++([e13.xWhere])),t46))))) (κ xs8)) (xs5,0))
def uT (s_0:za) (region_1:(List za)) (κ:((List za)×Bool)→Prop):Prop :=
 yf s_0 (fun r41=>ifW r41 (κ ([],true)) (jnW (fun (xs310:(List za))=>κ (xs310,true)) (fun k313=>jx (fun (nx77:((List za)×Int)→Prop) ((xs73,t76):((List za)×Int))=>ifW (decide (t76<(region_1.length:Int))) (zK region_1 t76 (fun e78=>jx (fun (nx114:((List za)×Int)→Prop) ((xs110,t113):((List za)×Int))=>ifW (decide (t113<(xs73.length:Int))) (zK xs73 t113 (fun e115=>ye e115 e78 (fun (r177,r180)=>jnW (fun (t242:Bool)=>ifW t242 (κ ([],false)) (jJ xs110 r177 (fun _=>jA t113 1 (fun t247=>nx114 ((xs110++r177),t247))))) (fun k243=>ifW (!r180) (k243 true) (jA (xs110.length:Int) (r177.length:Int) (fun t181=>k243 (decide (400<t181)))))))) (ifW (decide ((xs110.length:Int)=0)) (k313 xs110) (jA t76 1 (fun t248=>nx77 (xs110,t248))))) ([],0))) (k313 xs73)) ([s_0],0))))
def Ya (list_0:(List zk)) (n_1:Int) (κ:((List za)×Bool)→Prop):Prop :=
 zK list_0 n_1 (fun e4=>uQ list_0 0 n_1 (fun xs20=>X5 xs20 (fun r23=>uT e4.xWhere r23 (fun (r26,r29)=>κ (r26,r29)))))
def Uf (list_0:(List zk)) (κ:(List Int)→Prop):Prop :=
 jx (fun (nx10:((List Int)×Int)→Prop) ((xs6,t9):((List Int)×Int))=>ifW (decide (t9<(list_0.length:Int))) (jnW (fun (xs141:(List Int))=>jA t9 1 (fun t145=>nx10 (xs141,t145))) (fun k144=>Ya list_0 t9 (fun (r11,r14)=>jnW (fun (t75:Bool)=>ifW t75 (jJ xs6 ([t9]) (fun _=>k144 (xs6++([t9])))) (k144 xs6)) (fun k76=>ifW r14 (k76 (decide ((r11.length:Int)=0))) (k76 false))))) (κ xs6)) ([],0)
def ZM (list_0:(List zk)) (κ:(List zk)→Prop):Prop :=
 Uf list_0 (fun r4=>zeO ((zk.mk (za.mk ([]) ([]) ([]) ([])) false):zk) 0 (list_0.length:Int) (fun xs8=>jx (fun (nx19:((List Int)×(List zk)×Int)→Prop) ((xs11,xs15,t18):((List Int)×(List zk)×Int))=>ifW (decide (t18<(list_0.length:Int))) (jnW (fun ((xs180,xs184):((List zk)×(List Int)))=>jA t18 1 (fun t188=>nx19 (xs184,xs180,t188))) (fun k187=>zK list_0 t18 (fun e20=>jnW (fun (t111:Bool)=>ifW t111 (uQ xs11 1 (xs11.length:Int) (fun xs114=>k187 (xs15,xs114))) (jJ xs15 ([e20]) (fun _=>k187 ((xs15++([e20])),xs11)))) (fun k112=>ifW (decide (0<(xs11.length:Int))) (zK xs11 0 (fun e49=>k112 (decide (e49=t18)))) (k112 false))))) (κ xs15)) (r4,xs8,0)))
def Xj (list_0:(List zk)) (rest_1:Bool) (κ:(List zk)→Prop):Prop :=
 jx (fun (nx8:(List zk)→Prop) (xs5:(List zk))=>ZM xs5 (fun r9=>yH r9 (fun r12=>YR r12 rest_1 (fun r15=>ifW (decide ((r15.length:Int)=(xs5.length:Int))) (κ r15) (nx8 r15))))) list_0
def u6 (s_0:zL) (κ:((List zk)×Bool)→Prop):Prop :=
 yC s_0 (fun r9=>ifW (!r9) (κ ([],false)) (ZO s_0 (fun (r11,r14)=>ifW (!r14) (κ ([],false)) (Xj r11 s_0.xAccept (fun r16=>κ (r16,true))))))
def yn (f_0_accepted:(List za)) (f_0_dropped:(List za)) (boxes_1:(List za)) (accept_2:Bool) (κ:(Bool×(List za)×(List za))→Prop):Prop :=
 jnW (fun ((xs79,xs82):((List za)×(List za)))=>jA (xs79.length:Int) (xs82.length:Int) (fun t92=>κ ((decide (t92≤400)),xs79,xs82))) (fun k85=>ifW accept_2 (jJ f_0_accepted boxes_1 (fun _=>k85 ((f_0_accepted++boxes_1),f_0_dropped))) (jJ f_0_dropped boxes_1 (fun _=>k85 (f_0_accepted,(f_0_dropped++boxes_1)))))
def Xy (list_0:(List zk)) (rest_1:Bool) (κ:(Zk×Bool)→Prop):Prop :=
 jx (fun (nx16:((List za)×(List za)×Int)→Prop) ((xs8,xs12,t15):((List za)×(List za)×Int))=>ifW (decide (t15<(list_0.length:Int))) (zK list_0 t15 (fun e17=>Ya list_0 t15 (fun (r46,r49)=>jnW (fun ((xs117,xs120,t123):((List za)×(List za)×Bool))=>ifW t123 (κ ((Zk.mk ([]) ([])),false)) (jA t15 1 (fun t127=>nx16 (xs117,xs120,t127)))) (fun k124=>ifW (!r49) (k124 (xs8,xs12,true)) (yn xs8 xs12 r46 e17.xAccept (fun (r50,r51,r54)=>k124 (r51,r54,(!r50)))))))) (Za (fun r128=>X5 list_0 (fun r137=>uT r128 r137 (fun (r140,r143)=>jnW (fun ((xs211,xs214,t217):((List za)×(List za)×Bool))=>ifW t217 (κ ((Zk.mk ([]) ([])),false)) (κ ((Zk.mk xs211 xs214),true))) (fun k218=>ifW (!r143) (k218 (xs8,xs12,true)) (yn xs8 xs12 r140 rest_1 (fun (r144,r145,r148)=>k218 (r145,r148,(!r144)))))))))) ([],[],0)
def Z0 (a_0:(List zk)) (restA_1:Bool) (b_2:(List zk)) (restB_3:Bool) (κ:((List za)×Bool)→Prop):Prop :=
 Xy a_0 restA_1 (fun (r6,r11)=>Xy b_2 restB_3 (fun (r20,r25)=>jnW (fun (t94:Bool)=>ifW t94 (κ ([],false)) (jx (fun (nx103:((List za)×Int)→Prop) ((xs99,t102):((List za)×Int))=>ifW (decide (t102<(r6.xDropped.length:Int))) (zK r6.xDropped t102 (fun e104=>jx (fun (nx141:((List za)×Int)→Prop) ((xs137,t140):((List za)×Int))=>ifW (decide (t140<(r20.xAccepted.length:Int))) (jnW (fun (xs353:(List za))=>jA t140 1 (fun t357=>nx141 (xs353,t357))) (fun k356=>zK r20.xAccepted t140 (fun e142=>uv e104 e142 (fun r204=>ifW (!r204) (k356 xs137) (yr e104 e142 (fun (r235,r244)=>ifW (!r244) (κ ([],false)) (ifW (decide ((xs137.length:Int)=400)) (κ ([],false)) (jJ xs137 ([r235]) (fun _=>k356 (xs137++([r235]))))))))))) (jA t102 1 (fun t358=>nx103 (xs137,t358)))) (xs99,0))) (κ (xs99,true))) ([],0))) (fun k95=>ifW (!r11) (k95 true) (k95 (!r25)))))
def yg (old_0:zL) (next_1:zL) (κ:Int→Prop):Prop :=
 u6 old_0 (fun (r15,r18)=>u6 next_1 (fun (r19,r22)=>jnW (fun (t83:Bool)=>ifW t83 (κ 4) (Z0 r15 old_0.xAccept r19 next_1.xAccept (fun (r85,r88)=>Z0 r19 next_1.xAccept r15 old_0.xAccept (fun (r89,r92)=>jnW (fun (t153:Bool)=>ifW t153 (κ 4) (jnW (fun (t215:Bool)=>ifW t215 (κ 3) (ifW (decide (0<(r85.length:Int))) (κ 2) (ifW (decide (0<(r89.length:Int))) (κ 1) (κ 0)))) (fun k216=>ifW (decide (0<(r85.length:Int))) (k216 (decide (0<(r89.length:Int)))) (k216 false)))) (fun k154=>ifW (!r88) (k154 true) (k154 (!r92))))))) (fun k84=>ifW (!r18) (k84 true) (k84 (!r22)))))
def XS (x_0:zS) (κ:zS→Prop):Prop :=
 jJ ([]) x_0.xTests (fun _=>κ (zS.mk (([])++x_0.xTests) x_0.xAction x_0.xChain))
def Zf (list_0:(List zS)) (κ:(List zS)→Prop):Prop :=
 jx (fun (nx13:((List zS)×Int)→Prop) ((xs8,t12):((List zS)×Int))=>ifW (decide (t12<(list_0.length:Int))) (zK list_0 t12 (fun e14=>XS e14 (fun r20=>jJ xs8 ([r20]) (fun _=>jA t12 1 (fun t32=>nx13 ((xs8++([r20])),t32)))))) (κ xs8)) ([],0)
def Xt (list_0:(List (List zS))) (κ:(List (List zS))→Prop):Prop :=
 jx (fun (nx13:((List (List zS))×Int)→Prop) ((xs8,t12):((List (List zS))×Int))=>ifW (decide (t12<(list_0.length:Int))) (zK list_0 t12 (fun e14=>Zf e14 (fun r20=>jJ xs8 ([r20]) (fun _=>jA t12 1 (fun t33=>nx13 ((xs8++([r20])),t33)))))) (κ xs8)) ([],0)
def yD (x_0:zL) (κ:zL→Prop):Prop :=
 Xt x_0.xChains (fun r12=>κ (zL.mk r12 x_0.xAccept))
def ux (n_0:Int) (lo_1:Int) (hi_2:Int) (κ:Bool→Prop):Prop :=
 jnW (fun (t61:Bool)=>κ t61) (fun k62=>ifW (decide (lo_1≤n_0)) (k62 (decide (n_0≤hi_2))) (k62 false))
def ZA (t_0:xj) (κ:Bool→Prop):Prop :=
 jnW (fun (t66:Bool)=>κ t66) (fun k67=>ux t_0.xField 0 3 (fun r3=>ifW r3 (ux t_0.xLo 0 t_0.xHi (fun r4=>ifW r4 (uz t_0.xField (fun r5=>k67 (decide (t_0.xHi≤r5)))) (k67 false))) (k67 false)))
def Zb (list_0:(List xj)) (κ:Bool→Prop):Prop :=
 jx (fun (nx4:Int→Prop) (t3:Int)=>ifW (decide (t3<(list_0.length:Int))) (zK list_0 t3 (fun e5=>ZA e5 (fun r7=>ifW (!r7) (κ false) (jA t3 1 (fun t8=>nx4 t8))))) (κ (decide ((list_0.length:Int)≤6)))) 0
def XO (r_0:zS) (κ:Bool→Prop):Prop :=
 jnW (fun (t71:Bool)=>κ t71) (fun k72=>Zb r_0.xTests (fun r8=>ifW r8 (ux r_0.xAction 1 5 (fun r9=>ifW r9 (ifW (decide (r_0.xAction=3)) (ux r_0.xChain 0 4 (fun r10=>ifW r10 (k72 true) (ifW (!(decide (r_0.xAction=3))) (k72 (decide (r_0.xChain=0))) (k72 false)))) (ifW (!(decide (r_0.xAction=3))) (k72 (decide (r_0.xChain=0))) (k72 false))) (k72 false))) (k72 false)))
def Xo (list_0:(List zS)) (κ:Bool→Prop):Prop :=
 jx (fun (nx4:Int→Prop) (t3:Int)=>ifW (decide (t3<(list_0.length:Int))) (zK list_0 t3 (fun e5=>XO e5 (fun r11=>ifW (!r11) (κ false) (jA t3 1 (fun t12=>nx4 t12))))) (κ (decide ((list_0.length:Int)≤8)))) 0
def YS (s_0:zL) (κ:(List Int)→Prop):Prop :=
 zeO (false:Bool) (s_0.xChains.length:Int) (s_0.xChains.length:Int) (fun xs10=>jx (fun (nx21:((List Bool)×(List Int)×Int)→Prop) ((xs14,xs17,t20):((List Bool)×(List Int)×Int))=>ifW (decide (t20<(s_0.xChains.length:Int))) (jx (fun (nx29:((List Bool)×(List Int)×Int)→Prop) ((xs22,xs25,t28):((List Bool)×(List Int)×Int))=>ifW (decide (t28<(s_0.xChains.length:Int))) (jnW (fun ((xs190,xs192):((List Bool)×(List Int)))=>jA t28 1 (fun t196=>nx29 (xs190,xs192,t196))) (fun k195=>zK xs22 t28 (fun e30=>jx (fun (nx34:(Bool×Int)→Prop) ((t32,t33):(Bool×Int))=>zK s_0.xChains t28 (fun e35=>ifW (decide (t33<(e35.length:Int))) (jnW (fun (t120:Bool)=>jA t33 1 (fun t122=>nx34 (t120,t122))) (fun k121=>zK s_0.xChains t28 (fun e41=>zK e41 t33 (fun e47=>ifW t32 (ifW (!(decide (e47.xAction=3))) (k121 true) (zK xs22 e47.xChain (fun e58=>k121 e58))) (k121 false))))) (ifW t32 (zK xs22 t28 (fun e123=>jJ xs25 ([t28]) (fun _=>k195 ((xs22.set (t28).toNat true),(xs25++([t28])))))) (k195 (xs22,xs25))))) ((!e30),0)))) (jA t20 1 (fun t197=>nx21 (xs22,xs25,t197)))) (xs14,xs17,0)) (κ xs17)) (xs10,[],0))
def Zt (s_0:zL) (κ:Bool→Prop):Prop :=
 jx (fun (nx9:Int→Prop) (t8:Int)=>ifW (decide (t8<(s_0.xChains.length:Int))) (zK s_0.xChains t8 (fun e10=>Xo e10 (fun r16=>ifW (!r16) (κ false) (jx (fun (nx18:Int→Prop) (t17:Int)=>zK s_0.xChains t8 (fun e19=>ifW (decide (t17<(e19.length:Int))) (zK s_0.xChains t8 (fun e25=>zK e25 t17 (fun e31=>ifW (decide ((s_0.xChains.length:Int)≤e31.xChain)) (κ false) (jA t17 1 (fun t33=>nx18 t33))))) (jA t8 1 (fun t34=>nx9 t34)))) 0)))) (jnW (fun (t99:Bool)=>κ t99) (fun k100=>ux (s_0.xChains.length:Int) 1 5 (fun r35=>ifW r35 (YS s_0 (fun r36=>k100 (decide ((r36.length:Int)=(s_0.xChains.length:Int))))) (k100 false))))) 0
def xO (a_0:(List zg)) (b_1:(List zg)) (κ:(List zg)→Prop):Prop :=
 jx (fun (nx13:((List zg)×Int)→Prop) ((xs9,t12):((List zg)×Int))=>ifW (decide (t12<(a_0.length:Int))) (jx (fun (nx19:((List zg)×Int)→Prop) ((xs15,t18):((List zg)×Int))=>ifW (decide (t18<(b_1.length:Int))) (jnW (fun (xs92:(List zg))=>jA t18 1 (fun t96=>nx19 (xs92,t96))) (fun k95=>zK a_0 t12 (fun e20=>zK b_1 t18 (fun e22=>zK a_0 t12 (fun e24=>zK b_1 t18 (fun e26=>ifW (decide ((max e20.xLo e22.xLo)≤(min e24.xHi e26.xHi))) (jJ xs15 ([(zg.mk (max e20.xLo e22.xLo) (min e24.xHi e26.xHi))]) (fun _=>k95 (xs15++([(zg.mk (max e20.xLo e22.xLo) (min e24.xHi e26.xHi))])))) (k95 xs15))))))) (jA t12 1 (fun t97=>nx13 (xs15,t97)))) (xs9,0)) (κ xs9)) ([],0)
def xD (a_0:zM) (b_1:zM) (κ:zM→Prop):Prop :=
 jx (fun (nx25:((List (List zg))×Int)→Prop) ((xs20,t24):((List (List zg))×Int))=>ifW (decide (t24<4)) (jnW (fun (xs29:(List (List zg)))=>jA t24 1 (fun t64=>nx25 (xs29,t64))) (fun k33=>zK a_0.xSides t24 (fun e34=>zK b_1.xSides t24 (fun e39=>xO e34 e39 (fun r44=>jJ xs20 ([r44]) (fun _=>k33 (xs20++([r44])))))))) (κ (zM.mk xs20))) ([],0)
def uM (b_0:zM) (κ:Bool→Prop):Prop :=
 jx (fun (nx9:Int→Prop) (t8:Int)=>ifW (decide (t8<(b_0.xSides.length:Int))) (zK b_0.xSides t8 (fun e10=>ifW (decide ((e10.length:Int)=0)) (κ true) (jA t8 1 (fun t16=>nx9 t16)))) (κ false)) 0
def yx (list_0:(List zg)) (top_1:Int) (κ:Bool→Prop):Prop :=
 jx (fun (nx4:Int→Prop) (t3:Int)=>ifW (decide (t3<(list_0.length:Int))) (jnW (fun (t79:Bool)=>ifW t79 (κ false) (jA t3 1 (fun t81=>nx4 t81))) (fun k80=>zK list_0 t3 (fun e5=>zK list_0 t3 (fun e7=>ux e5.xLo 0 e7.xHi (fun r9=>ifW (!r9) (k80 true) (zK list_0 t3 (fun e10=>ux e10.xHi 0 top_1 (fun r12=>ifW (!r12) (k80 true) (ifW (decide (0<t3)) (zK list_0 t3 (fun e13=>Un t3 1 (fun t15=>zK list_0 t15 (fun e16=>jA e16.xHi 2 (fun t18=>k80 (decide (e13.xLo<t18))))))) (k80 false)))))))))) (jnW (fun (t143:Bool)=>κ t143) (fun k144=>ux top_1 0 65535 (fun r82=>ifW r82 (k144 (decide ((list_0.length:Int)≤40))) (k144 false))))) 0
def uN (b_0:zM) (κ:Bool→Prop):Prop :=
 jx (fun (nx9:Int→Prop) (t8:Int)=>ifW (decide (t8<(b_0.xSides.length:Int))) (jnW (fun (t78:Bool)=>ifW t78 (κ false) (jA t8 1 (fun t80=>nx9 t80))) (fun k79=>ifW (decide (4≤t8)) (k79 true) (zK b_0.xSides t8 (fun e10=>uz t8 (fun r16=>yx e10 r16 (fun r17=>k79 (!r17))))))) (κ (decide ((b_0.xSides.length:Int)=4)))) 0
def xo (list_0:(List zM)) (κ:Bool→Prop):Prop :=
 jx (fun (nx4:Int→Prop) (t3:Int)=>ifW (decide (t3<(list_0.length:Int))) (zK list_0 t3 (fun e5=>uN e5 (fun r11=>ifW (!r11) (κ false) (jA t3 1 (fun t12=>nx4 t12))))) (κ (decide ((list_0.length:Int)≤400)))) 0
def Z4 (κ:zM→Prop):Prop :=
 jx (fun (nx11:((List (List zg))×Int)→Prop) ((xs6,t10):((List (List zg))×Int))=>ifW (decide (t10<4)) (jnW (fun (xs15:(List (List zg)))=>jA t10 1 (fun t41=>nx11 (xs15,t41))) (fun k19=>uz t10 (fun r20=>jJ xs6 ([[(zg.mk 0 r20)]]) (fun _=>k19 (xs6++([[(zg.mk 0 r20)]])))))) (κ (zM.mk xs6))) ([],0)
def XJ (a_0:(List zg)) (top_1:Int) (κ:(List zg)→Prop):Prop :=
 jx (fun (nx12:((List zg)×Int×Int)→Prop) ((xs7,t10,t11):((List zg)×Int×Int))=>ifW (decide (t11<(a_0.length:Int))) (jnW (fun (xs82:(List zg))=>zK a_0 t11 (fun e86=>jA e86.xHi 1 (fun t88=>jA t11 1 (fun t89=>nx12 (xs82,t88,t89))))) (fun k85=>zK a_0 t11 (fun e13=>ifW (decide (t10<e13.xLo)) (zK a_0 t11 (fun e15=>Un e15.xLo 1 (fun t17=>jJ xs7 ([(zg.mk t10 t17)]) (fun _=>k85 (xs7++([(zg.mk t10 t17)])))))) (k85 xs7)))) (jnW (fun (xs154:(List zg))=>κ xs154) (fun k157=>ifW (decide (t10≤top_1)) (jJ xs7 ([(zg.mk t10 top_1)]) (fun _=>k157 (xs7++([(zg.mk t10 top_1)])))) (k157 xs7)))) ([],0,0)
def yd (t_0:xj) (κ:(List zg)→Prop):Prop :=
 ZA t_0 (fun r4=>ifW (!r4) (κ ([])) (ifW t_0.xNot (uz t_0.xField (fun r9=>XJ ([(zg.mk t_0.xLo t_0.xHi)]) r9 (fun r10=>κ r10))) (κ ([(zg.mk t_0.xLo t_0.xHi)]))))
def Yi (list_0:(List xj)) (κ:zM→Prop):Prop :=
 Zb list_0 (fun r5=>ifW (!r5) (κ (zM.mk ([]))) (Z4 (fun r7=>jx (fun (nx21:((List (List zg))×Int)→Prop) ((xs17,t20):((List (List zg))×Int))=>ifW (decide (t20<(list_0.length:Int))) (zK list_0 t20 (fun e22=>jnW (fun (xs27:(List (List zg)))=>jA t20 1 (fun t58=>nx21 (xs27,t58))) (fun k29=>zK list_0 t20 (fun e30=>(zK xs17 e22.xField (fun e32=>yd e30 (fun r38=>xO e32 r38 (fun r40=>zK xs17 e22.xField (fun e42=>k29 (xs17.set (e22.xField).toNat r40))))))∧(yd e30 (fun r54=>zK xs17 e22.xField (fun e56=>xO e56 r54 (fun r40=>zK xs17 e22.xField (fun e42=>k29 (xs17.set (e22.xField).toNat r40)))))))))) (κ (zM.mk xs17))) (r7.xSides,0))))
def xZ (list_0:(List (List zg))) (κ:(List (List zg))→Prop):Prop :=
 jx (fun (nx13:((List (List zg))×Int)→Prop) ((xs8,t12):((List (List zg))×Int))=>ifW (decide (t12<(list_0.length:Int))) (zK list_0 t12 (fun e16=>jJ ([]) e16 (fun _=>jJ xs8 ([(([])++e16)]) (fun _=>jA t12 1 (fun t33=>nx13 ((xs8++([(([])++e16)])),t33)))))) (κ xs8)) ([],0)
def yI (a_0:zM) (b_1:zM) (κ:(List zM)→Prop):Prop :=
 xD a_0 b_1 (fun r19=>uM r19 (fun r23=>ifW r23 (jnW (fun (xs89:(List zM))=>κ xs89) (fun k92=>uM a_0 (fun r24=>ifW (!r24) (jJ ([]) ([a_0]) (fun _=>k92 (([])++([a_0])))) (k92 ([]))))) (jx (fun (nx105:((List (List zg))×(List zM)×Int)→Prop) ((xs96,xs100,t104):((List (List zg))×(List zM)×Int))=>ifW (decide (t104<4)) (zK xs96 t104 (fun e115=>zK b_1.xSides t104 (fun e121=>uz t104 (fun r127=>XJ e121 r127 (fun r128=>xO e115 r128 (fun r131=>zK xs96 t104 (fun e134=>zK b_1.xSides t104 (fun e140=>xO e134 e140 (fun r146=>jnW (fun (xs231:(List zM))=>xZ xs96 (fun r236=>zK r236 t104 (fun e245=>jA t104 1 (fun t252=>nx105 ((r236.set (t104).toNat r146),xs231,t252))))) (fun k235=>ifW (decide (0<(r131.length:Int))) (xZ xs96 (fun r149=>zK r149 t104 (fun e158=>jJ xs100 ([(zM.mk (r149.set (t104).toNat r131))]) (fun _=>k235 (xs100++([(zM.mk (r149.set (t104).toNat r131))])))))) (k235 xs100))))))))))) (κ xs100)) (a_0.xSides,[],0))))
def YE (rec:(zL→Int→(List zM)→(List zG)→(((List zM)×Bool×(List zG))→Prop)→Prop)) (s_0:zL) (chain_1:Int) (in_2:(List zM)) (out_3:(List zG)) (κ:((List zM)×Bool×(List zG))→Prop):Prop :=
 jx (fun (nx33:((List zG)×(List zM)×(List zM)×Int)→Prop) ((xs20,xs24,xs28,t32):((List zG)×(List zM)×(List zM)×Int))=>zK s_0.xChains chain_1 (fun e34=>ifW (decide (t32<(e34.length:Int))) (zK s_0.xChains chain_1 (fun e40=>zK e40 t32 (fun e46=>Yi e46.xTests (fun r63=>jx (fun (nx81:((List zM)×(List zM)×Int)→Prop) ((xs72,xs77,t80):((List zM)×(List zM)×Int))=>ifW (decide (t80<(xs24.length:Int))) (jnW (fun (xs182:(List zM))=>zK xs24 t80 (fun e195=>yI e195 r63 (fun r201=>jJ xs77 r201 (fun _=>jA t80 1 (fun t206=>nx81 (xs182,(xs77++r201),t206)))))) (fun k186=>jnW (fun (xs90:(List (List zg)))=>uM (zM.mk xs90) (fun r112=>ifW (!r112) (jJ xs72 ([(zM.mk xs90)]) (fun _=>k186 (xs72++([(zM.mk xs90)])))) (k186 xs72))) (fun k95=>zK xs24 t80 (fun e96=>xD e96 r63 (fun r101=>k95 r101.xSides))))) (jnW (fun (t269:Bool)=>ifW t269 (κ (xs28,false,xs20)) (jnW (fun ((xs445,xs449,xs453):((List zM)×(List zM)×(List zG)))=>jnW (fun (t519:Bool)=>ifW t519 (κ (xs445,false,xs453)) (jA t32 1 (fun t521=>nx33 (xs453,xs449,xs445,t521)))) (fun k520=>xo xs449 (fun r457=>ifW (!r457) (k520 true) (xo xs445 (fun r458=>ifW (!r458) (k520 true) (k520 (decide (60<(xs453.length:Int))))))))) (fun k456=>jnW (fun (t331:Bool)=>ifW t331 (jx (fun (nx338:((List zG)×Int)→Prop) ((xs334,t337):((List zG)×Int))=>ifW (decide (t337<(xs72.length:Int))) (jnW (fun (xs342:(List zG))=>jA t337 1 (fun t370=>nx338 (xs342,t370))) (fun k345=>zK xs72 t337 (fun e346=>jJ xs334 ([(zG.mk e346 (decide (e46.xAction=1)))]) (fun _=>k345 (xs334++([(zG.mk e346 (decide (e46.xAction=1)))])))))) (k456 (xs28,xs77,xs334))) (xs20,0)) (ifW (decide (e46.xAction=4)) (jJ xs28 xs72 (fun _=>k456 ((xs28++xs72),xs77,xs20))) (ifW (decide (e46.xAction=3)) (rec s_0 e46.xChain xs72 xs20 (fun (r374,r377,r378)=>ifW (!r377) (κ (xs28,false,r378)) (jJ xs77 r374 (fun _=>k456 (xs28,(xs77++r374),r378))))) (jJ xs77 xs72 (fun _=>k456 (xs28,(xs77++xs72),xs20)))))) (fun k332=>ifW (decide (e46.xAction=1)) (k332 (decide (e46.xAction=1))) (k332 (decide (e46.xAction=2))))))) (fun k270=>xo xs72 (fun r207=>ifW (!r207) (k270 true) (xo xs77 (fun r208=>k270 (!r208))))))) ([],[],0))))) (jJ xs28 xs24 (fun _=>xo (xs28++xs24) (fun r524=>κ ((xs28++xs24),r524,xs20)))))) (out_3,in_2,[],0)
def yN:Nat→zL→Int→(List zM)→(List zG)→(((List zM)×Bool×(List zG))→Prop)→Prop
 | 0=>fun _ _ _ _ _=>False
 | n+1=>YE (yN n)
def zaj (s_0:zL) (chain_1:Int) (in_2:(List zM)) (out_3:(List zG)) (κ:((List zM)×Bool×(List zG))→Prop):Prop:=∃ n,yN n s_0 chain_1 in_2 out_3 κ
def Ue (s_0:zL) (κ:((List zG)×Bool)→Prop):Prop :=
 yD s_0 (fun r9=>Zt r9 (fun r24=>ifW (!r24) (κ ([],false)) (Z4 (fun r25=>zaj r9 0 ([r25]) ([]) (fun (r35,r38,r39)=>ifW (!r38) (κ ([],false)) (κ (r39,true)))))))
def Z1 (x_0:zM) (κ:zM→Prop):Prop :=
 xZ x_0.xSides (fun r12=>κ (zM.mk r12))
def XQ (x_0:zG) (κ:zG→Prop):Prop :=
 Z1 x_0.xWhere (fun r12=>κ (zG.mk r12 x_0.xAccept))
def xr (list_0:(List zG)) (κ:(List zG)→Prop):Prop :=
 jx (fun (nx13:((List zG)×Int)→Prop) ((xs8,t12):((List zG)×Int))=>ifW (decide (t12<(list_0.length:Int))) (zK list_0 t12 (fun e14=>XQ e14 (fun r20=>jJ xs8 ([r20]) (fun _=>jA t12 1 (fun t33=>nx13 ((xs8++([r20])),t33)))))) (κ xs8)) ([],0)
def ul (list_0:(List zG)) (κ:Bool→Prop):Prop :=
 jx (fun (nx4:Int→Prop) (t3:Int)=>ifW (decide (t3<(list_0.length:Int))) (zK list_0 t3 (fun e5=>uN e5.xWhere (fun r11=>ifW (!r11) (κ false) (jA t3 1 (fun t12=>nx4 t12))))) (κ (decide ((list_0.length:Int)≤60)))) 0
def Ye (list_0:(List zG)) (rest_1:Bool) (κ:(List zG)→Prop):Prop :=
 xr list_0 (fun r4=>ul r4 (fun r8=>ifW (!r8) (κ ([])) (jx (fun (nx13:Int→Prop) (t12:Int)=>jnW (fun (t77:Bool)=>ifW t77 (Un t12 1 (fun t79=>nx13 t79)) (uQ r4 0 t12 (fun xs84=>jJ ([]) xs84 (fun _=>κ (([])++xs84))))) (fun k78=>ifW (decide (0<t12)) (Un t12 1 (fun t14=>zK r4 t14 (fun e15=>k78 (decide (e15.xAccept=rest_1))))) (k78 false))) (r4.length:Int))))
def ZF (a_0:zM) (b_1:zM) (κ:Bool→Prop):Prop :=
 jnW (fun (t80:Bool)=>κ t80) (fun k81=>uN a_0 (fun r15=>ifW r15 (uN b_1 (fun r16=>ifW r16 (yI a_0 b_1 (fun r17=>k81 (decide ((r17.length:Int)=0)))) (k81 false))) (k81 false)))
def YT (a_0:(List zg)) (b_1:(List zg)) (κ:Bool→Prop):Prop :=
 ifW (!(decide ((a_0.length:Int)=(b_1.length:Int)))) (κ false) (jx (fun (nx6:Int→Prop) (t5:Int)=>ifW (decide (t5<(a_0.length:Int))) (zK a_0 t5 (fun e7=>zK b_1 t5 (fun e9=>ifW (!(decide (e7=e9))) (κ false) (jA t5 1 (fun t11=>nx6 t11))))) (κ true)) 0)
def UG (list_0:(List zg)) (s_1:zg) (κ:(List zg)→Prop):Prop :=
 jx (fun (nx16:(Int×Int×(List zg)×Bool×Int)→Prop) ((t8,t9,xs11,t14,t15):(Int×Int×(List zg)×Bool×Int))=>ifW (decide (t15<(list_0.length:Int))) (jnW (fun ((xs160,t163,t164,t165):((List zg)×Int×Int×Bool))=>jA t15 1 (fun t167=>nx16 (t163,t164,xs160,t165,t167))) (fun k166=>zK list_0 t15 (fun e17=>jA e17.xHi 1 (fun t21=>ifW (decide (t21<t8)) (jJ xs11 ([e17]) (fun _=>k166 ((xs11++([e17])),t8,t9,t14))) (jA t9 1 (fun t26=>ifW (decide (t26<e17.xLo)) (jnW (fun ((xs91,t94):((List zg)×Bool))=>jJ xs91 ([e17]) (fun _=>k166 ((xs91++([e17])),t8,t9,t94))) (fun k95=>ifW (!t14) (jJ xs11 ([(zg.mk t8 t9)]) (fun _=>k95 ((xs11++([(zg.mk t8 t9)])),true))) (k95 (xs11,t14)))) (k166 (xs11,(min t8 e17.xLo),(max t9 e17.xHi),t14)))))))) (jnW (fun (xs232:(List zg))=>κ xs232) (fun k235=>ifW (!t14) (jJ xs11 ([(zg.mk t8 t9)]) (fun _=>k235 (xs11++([(zg.mk t8 t9)])))) (k235 xs11)))) (s_1.xLo,s_1.xHi,[],false,0)
def Xf (a_0:(List zg)) (b_1:(List zg)) (top_2:Int) (κ:(List zg)→Prop):Prop :=
 jnW (fun (t68:Bool)=>ifW t68 (κ ([])) (jJ ([]) a_0 (fun _=>jx (fun (nx81:((List zg)×Int)→Prop) ((xs77,t80):((List zg)×Int))=>ifW (decide (t80<(b_1.length:Int))) (zK b_1 t80 (fun e82=>UG xs77 e82 (fun r84=>jA t80 1 (fun t87=>nx81 (r84,t87))))) (ifW (decide (40<(xs77.length:Int))) (κ ([])) (κ xs77))) ((([])++a_0),0)))) (fun k69=>yx a_0 top_2 (fun r6=>ifW (!r6) (k69 true) (yx b_1 top_2 (fun r7=>k69 (!r7)))))
def Zg (a_0:zM) (b_1:zM) (κ:(zM×Bool)→Prop):Prop :=
 jnW (fun (t79:Bool)=>ifW t79 (κ ((zM.mk ([])),false)) (ZF a_0 b_1 (fun r82=>ifW r82 (Z1 b_1 (fun r83=>κ (r83,true))) (ZF b_1 a_0 (fun r90=>ifW r90 (Z1 a_0 (fun r91=>κ (r91,true))) (jx (fun (nx100:(Int×Int)→Prop) ((t98,t99):(Int×Int))=>ifW (decide (t99<4)) (jnW (fun (t174:Int)=>jA t99 1 (fun t176=>nx100 (t174,t176))) (fun k175=>zK a_0.xSides t99 (fun e101=>zK b_1.xSides t99 (fun e107=>YT e101 e107 (fun r113=>ifW (!r113) (ifW (decide (0≤t98)) (κ ((zM.mk ([])),false)) (k175 t99)) (k175 t98)))))) (xZ a_0.xSides (fun r177=>zK a_0.xSides t98 (fun e186=>zK b_1.xSides t98 (fun e192=>uz t98 (fun r198=>Xf e186 e192 r198 (fun r199=>zK r177 t98 (fun e202=>zK (r177.set (t98).toNat r199) t98 (fun e209=>ifW (decide ((e209.length:Int)=0)) (κ ((zM.mk ([])),false)) (κ ((zM.mk (r177.set (t98).toNat r199)),true))))))))))) ((-1),0))))))) (fun k80=>uN a_0 (fun r17=>ifW (!r17) (k80 true) (uN b_1 (fun r18=>k80 (!r18)))))
def YD (list_0:(List zG)) (κ:(Int×zG)→Prop):Prop :=
 jx (fun (nx6:Int→Prop) (t5:Int)=>jA t5 1 (fun t7=>ifW (decide (t7<(list_0.length:Int))) (jnW (fun ((xs8,t12):((List (List zg))×Bool))=>jnW (fun (t103:Bool)=>ifW t103 (zK list_0 t5 (fun e108=>κ (t5,(zG.mk (zM.mk xs8) e108.xAccept)))) (jA t5 1 (fun t110=>nx6 t110))) (fun k104=>ifW t12 (zK list_0 t5 (fun e38=>jA t5 1 (fun t40=>zK list_0 t40 (fun e41=>k104 (decide (e38.xAccept=e41.xAccept)))))) (k104 false))) (fun k13=>zK list_0 t5 (fun e14=>zK list_0 (w64 (t5+1)) (fun e19=>Zg e14.xWhere e19.xWhere (fun (r24,r26)=>k13 (r24.xSides,r26)))))) (κ ((-1),(zG.mk (zM.mk ([])) false))))) 0
def Xg (list_0:(List zG)) (κ:(List zG)→Prop):Prop :=
 xr list_0 (fun r4=>ul r4 (fun r8=>ifW (!r8) (κ ([])) (jJ ([]) r4 (fun _=>jx (fun (nx22:(List zG)→Prop) (xs19:(List zG))=>YD xs19 (fun (r23,r24)=>ifW (decide (r23<0)) (κ xs19) (jA r23 2 (fun t35=>uQ xs19 t35 (xs19.length:Int) (fun xs37=>jJ ([]) xs37 (fun _=>jnW (fun (xs49:(List zG))=>nx22 xs49) (fun k52=>uQ xs19 0 r23 (fun xs56=>jJ ([]) xs56 (fun _=>jJ (([])++xs56) ([r24]) (fun _=>jJ ((([])++xs56)++([r24])) (([])++xs37) (fun _=>k52 (((([])++xs56)++([r24]))++(([])++xs37))))))))))))) (([])++r4)))))
def Xu (b_0:zM) (list_1:(List zM)) (κ:((List zM)×Bool)→Prop):Prop :=
 jnW (fun (xs79:(List zM))=>jx (fun (nx88:((List zM)×Int)→Prop) ((xs84,t87):((List zM)×Int))=>ifW (decide (t87<(list_1.length:Int))) (jx (fun (nx97:((List zM)×Int)→Prop) ((xs93,t96):((List zM)×Int))=>ifW (decide (t96<(xs84.length:Int))) (zK xs84 t96 (fun e98=>zK list_1 t87 (fun e100=>yI e98 e100 (fun r112=>jJ xs93 r112 (fun _=>jA t96 1 (fun t117=>nx97 ((xs93++r112),t117))))))) (xo xs93 (fun r118=>ifW (!r118) (κ ([],false)) (jA t87 1 (fun t122=>nx88 (xs93,t122)))))) ([],0)) (κ (xs84,true))) (xs79,0)) (fun k82=>uM b_0 (fun r14=>ifW (!r14) (jJ ([]) ([b_0]) (fun _=>k82 (([])++([b_0])))) (k82 ([]))))
def ZJ (list_0:(List zG)) (κ:(List zM)→Prop):Prop :=
 xr list_0 (fun r4=>jx (fun (nx16:((List zM)×Int)→Prop) ((xs12,t15):((List zM)×Int))=>jnW (fun (t78:Bool)=>ifW t78 (zK r4 t15 (fun e80=>jJ xs12 ([e80.xWhere]) (fun _=>jA t15 1 (fun t95=>nx16 ((xs12++([e80.xWhere])),t95))))) (κ xs12)) (fun k79=>ifW (decide (t15<(r4.length:Int))) (ul r4 (fun r17=>k79 r17)) (k79 false))) ([],0))
def Yy (list_0:(List zG)) (k_1:Int) (κ:Bool→Prop):Prop :=
 zK list_0 k_1 (fun e3=>uQ list_0 0 k_1 (fun xs10=>ZJ xs10 (fun r13=>Xu e3.xWhere r13 (fun (r16,r19)=>jnW (fun (t80:Bool)=>κ t80) (fun k81=>ifW r19 (k81 (decide ((r16.length:Int)=0))) (k81 false))))))
def Yc (list_0:(List zG)) (κ:(List zG)→Prop):Prop :=
 xr list_0 (fun r4=>jx (fun (nx18:((List zG)×(List zG)×Int)→Prop) ((xs11,xs14,t17):((List zG)×(List zG)×Int))=>jnW (fun (t80:Bool)=>ifW t80 (jnW (fun (xs158:(List zG))=>jA t17 1 (fun t162=>nx18 (xs11,xs158,t162))) (fun k161=>Yy xs11 t17 (fun r82=>ifW (!r82) (zK xs11 t17 (fun e83=>jJ xs14 ([e83]) (fun _=>k161 (xs14++([e83]))))) (k161 xs14)))) (κ xs14)) (fun k81=>ifW (decide (t17<(xs11.length:Int))) (ul xs11 (fun r19=>k81 r19)) (k81 false))) (r4,[],0))
def YX (list_0:(List zG)) (rest_1:Bool) (κ:(List zG)→Prop):Prop :=
 xr list_0 (fun r4=>ul r4 (fun r8=>ifW (!r8) (κ ([])) (jJ ([]) r4 (fun _=>jx (fun (nx22:(List zG)→Prop) (xs19:(List zG))=>Yc xs19 (fun r23=>Xg r23 (fun r26=>Ye r26 rest_1 (fun r29=>ifW (decide ((r29.length:Int)=(xs19.length:Int))) (κ r29) (nx22 r29))))) (([])++r4)))))
def ZD (s_0:zL) (κ:((List zG)×Bool)→Prop):Prop :=
 yD s_0 (fun r9=>Ue r9 (fun (r16,r19)=>ifW (!r19) (κ ([],false)) (YX r16 r9.xAccept (fun r23=>κ (r23,true)))))
def YF (list_0:(List zG)) (rest_1:Bool) (κ:((List zG)×Bool)→Prop):Prop :=
 jx (fun (nx12:((List zG)×Int)→Prop) ((xs8,t11):((List zG)×Int))=>ifW (decide (t11≤(list_0.length:Int))) (Z4 (fun r13=>jnW (fun ((xs94,t97):((List (List zg))×Bool))=>uQ list_0 0 t11 (fun xs109=>ZJ xs109 (fun r112=>Xu (zM.mk xs94) r112 (fun (r115,r118)=>ifW (!r118) (κ ([],false)) (jx (fun (nx127:((List zG)×Int)→Prop) ((xs123,t126):((List zG)×Int))=>ifW (decide (t126<(r115.length:Int))) (zK r115 t126 (fun e128=>jJ xs123 ([(zG.mk e128 t97)]) (fun _=>jA t126 1 (fun t143=>nx127 ((xs123++([(zG.mk e128 t97)])),t143))))) (ifW (decide (400<(xs123.length:Int))) (κ ([],false)) (jA t11 1 (fun t147=>nx12 (xs123,t147))))) (xs8,0)))))) (fun k98=>ifW (decide (t11<(list_0.length:Int))) (zK list_0 t11 (fun e22=>zK list_0 t11 (fun e31=>k98 (e22.xWhere.xSides,e31.xAccept)))) (k98 (r13.xSides,rest_1))))) (κ (xs8,true))) ([],0)
def Yg (list_0:(List zG)) (accept_1:Bool) (κ:(List zM)→Prop):Prop :=
 jx (fun (nx12:((List zM)×Int)→Prop) ((xs8,t11):((List zM)×Int))=>ifW (decide (t11<(list_0.length:Int))) (jnW (fun (xs88:(List zM))=>jA t11 1 (fun t92=>nx12 (xs88,t92))) (fun k91=>zK list_0 t11 (fun e13=>ifW (decide (e13.xAccept=accept_1)) (zK list_0 t11 (fun e15=>jJ xs8 ([e15.xWhere]) (fun _=>k91 (xs8++([e15.xWhere]))))) (k91 xs8)))) (κ xs8)) ([],0)
def Zx (list_0:(List zG)) (rest_1:Bool) (accept_2:Bool) (κ:((List zM)×Bool)→Prop):Prop :=
 xr list_0 (fun r4=>ul r4 (fun r8=>ifW (!r8) (κ ([],false)) (YF r4 rest_1 (fun (r12,r15)=>ifW (!r15) (κ ([],false)) (Yg r12 accept_2 (fun r19=>κ (r19,true)))))))
def Zw (a_0:(List zG)) (restA_1:Bool) (b_2:(List zG)) (restB_3:Bool) (κ:((List zM)×Bool)→Prop):Prop :=
 xr a_0 (fun r6=>xr b_2 (fun r10=>Zx r6 restA_1 false (fun (r17,r20)=>Zx r10 restB_3 true (fun (r21,r24)=>jnW (fun (t85:Bool)=>ifW t85 (κ ([],false)) (jx (fun (nx93:((List zM)×Int)→Prop) ((xs88,t92):((List zM)×Int))=>ifW (decide (t92<(r17.length:Int))) (jx (fun (nx100:((List zM)×Int)→Prop) ((xs95,t99):((List zM)×Int))=>ifW (decide (t99<(r21.length:Int))) (jnW (fun (xs227:(List zM))=>jA t99 1 (fun t232=>nx100 (xs227,t232))) (fun k231=>jnW (fun (xs101:(List (List zg)))=>uM (zM.mk xs101) (fun r157=>ifW (!r157) (jJ xs95 ([(zM.mk xs101)]) (fun _=>k231 (xs95++([(zM.mk xs101)])))) (k231 xs95))) (fun k106=>zK r17 t92 (fun e107=>zK r21 t99 (fun e109=>xD e107 e109 (fun r119=>k106 r119.xSides)))))) (jA t92 1 (fun t233=>nx93 (xs95,t233)))) (xs88,0)) (xo xs88 (fun r234=>ifW (!r234) (κ ([],false)) (κ (xs88,true))))) ([],0))) (fun k86=>ifW (!r20) (k86 true) (k86 (!r24)))))))
def ZU (old_0:zL) (next_1:zL) (κ:Int→Prop):Prop :=
 ZD old_0 (fun (r15,r18)=>ZD next_1 (fun (r19,r22)=>jnW (fun (t83:Bool)=>ifW t83 (κ 4) (Zw r15 old_0.xAccept r19 next_1.xAccept (fun (r85,r89)=>Zw r19 next_1.xAccept r15 old_0.xAccept (fun (r90,r94)=>jnW (fun (t155:Bool)=>ifW t155 (κ 4) (jnW (fun (t218:Int)=>jnW (fun (t281:Int)=>κ t281) (fun k282=>ifW (decide (0<(r85.length:Int))) (jA t218 2 (fun t220=>k282 t220)) (k282 t218))) (fun k219=>ifW (decide (0<(r90.length:Int))) (jA 0 1 (fun t157=>k219 t157)) (k219 0)))) (fun k156=>ifW (!r89) (k156 true) (k156 (!r94))))))) (fun k84=>ifW (!r18) (k84 true) (k84 (!r22)))))
def Y8 (list_0:(List zg)) (n_1:Int) (κ:Bool→Prop):Prop :=
 jx (fun (nx4:Int→Prop) (t3:Int)=>ifW (decide (t3<(list_0.length:Int))) (zK list_0 t3 (fun e5=>jnW (fun (t69:Bool)=>ifW t69 (κ true) (jA t3 1 (fun t71=>nx4 t71))) (fun k70=>ifW (decide (e5.xLo≤n_1)) (k70 (decide (n_1≤e5.xHi))) (k70 false)))) (κ false)) 0
def UH (κ:Bool→Prop):Prop :=
 Y8 ([(zg.mk 2 4)]) 3 (fun r3=>κ r3)
def yl (p_0:zX) (κ:zc0→Prop):Prop :=
 κ (zc0.mk p_0.xFrom p_0.xTo p_0.xPort p_0.xProto)
def ZN (p_0:zX) (κ:Bool→Prop):Prop :=
 yl p_0 (fun r3=>jx (fun (nx5:Int→Prop) (t4:Int)=>ifW (decide (t4<4)) (zK ([r3.x0,r3.x1,r3.x2,r3.x3]) t4 (fun e6=>jnW (fun (t68:Bool)=>ifW t68 (κ false) (jA t4 1 (fun t70=>nx5 t70))) (fun k69=>ifW (decide (e6<0)) (k69 true) (zB t4 (fun r7=>k69 (decide (r7<e6))))))) (κ true)) 0)
def Zc (w_0_stack:(List jb)) (w_0_visits:(List xG)) (w_0_decision:Int) (κ:(List jb)→Prop):Prop :=
 jnW (fun (xs7:(List jb))=>κ xs7) (fun k10=>uQ w_0_stack 0 (w64 ((w_0_stack.length:Int) - 1)) (fun xs12=>k10 xs12))
def Xq (t_0:xj) (p_1:zX) (κ:Bool→Prop):Prop :=
 yl p_1 (fun r5=>zK ([r5.x0,r5.x1,r5.x2,r5.x3]) t_0.xField (fun e6=>jnW (fun (t67:Bool)=>κ (!(decide (t67=t_0.xNot)))) (fun k68=>ifW (decide (t_0.xLo≤e6)) (k68 (decide (e6≤t_0.xHi))) (k68 false))))
def YH (list_0:(List xj)) (p_1:zX) (κ:Bool→Prop):Prop :=
 jx (fun (nx6:Int→Prop) (t5:Int)=>ifW (decide (t5<(list_0.length:Int))) (zK list_0 t5 (fun e7=>Xq e7 p_1 (fun r11=>ifW (!r11) (κ false) (jA t5 1 (fun t12=>nx6 t12))))) (κ true)) 0
def yk (d_0:uS) (w_1_stack:(List jb)) (w_1_visits:(List xG)) (w_1_decision:Int) (κ:Int→Prop):Prop :=
 ifW d_0.xAccept (κ 1) (κ 2)
def Zr (c_0:ZH) (w_1_stack:(List jb)) (w_1_visits:(List xG)) (w_1_decision:Int) (κ:(List jb)→Prop):Prop :=
 jnW (fun (xs9:(List jb))=>κ xs9) (fun k12=>jJ w_1_stack ([(jb.mk c_0.xChain 0)]) (fun _=>k12 (w_1_stack++([(jb.mk c_0.xChain 0)]))))
def yR (a_0:uh) (w_1_stack:(List jb)) (w_1_visits:(List xG)) (w_1_decision:Int) (κ:(List jb)→Prop):Prop :=
 Zc w_1_stack w_1_visits w_1_decision (fun r9=>κ r9)
def Zu (a_0:ya) (a_1_stack:(List jb)) (a_1_visits:(List xG)) (a_1_decision:Int) (κ:Unit→Prop):Prop :=
 κ ()
def ZR (s_0:zL) (p_1:zX) (κ:((List jb)×(List xG)×Int)→Prop):Prop :=
 jx (fun (nx26:((List jb)×(List xG)×Int)→Prop) ((xs18,xs22,t25):((List jb)×(List xG)×Int))=>jnW (fun (t87:Bool)=>ifW t87 (Un (xs18.length:Int) 1 (fun t95=>zK xs18 t95 (fun e96=>zK s_0.xChains e96.xChain (fun e98=>ifW (decide (e96.xNext=(e98.length:Int))) (Zc xs18 xs22 t25 (fun r104=>nx26 (r104,xs22,t25))) (jA e96.xNext 1 (fun t107=>zK e98 e96.xNext (fun e109=>YH e109.xTests p_1 (fun r115=>ifW (!r115) (nx26 ((xs18.set (t95).toNat (jb.mk e96.xChain t107)),xs22,t25)) (jnW (fun (xs187:(List xG))=>zK e98 e96.xNext (fun e191=>yZ e191 (fun r197=>xK.casesW r197 (fun x198=>yk x198 (xs18.set (t95).toNat (jb.mk e96.xChain t107)) xs187 t25 (fun r202=>nx26 ((xs18.set (t95).toNat (jb.mk e96.xChain t107)),xs187,r202))) (fun x199=>Zr x199 (xs18.set (t95).toNat (jb.mk e96.xChain t107)) xs187 t25 (fun r203=>nx26 (r203,xs187,t25))) (fun x200=>yR (uh.mk ) (xs18.set (t95).toNat (jb.mk e96.xChain t107)) xs187 t25 (fun r206=>nx26 (r206,xs187,t25))) (fun x201=>Zu (ya.mk ) (xs18.set (t95).toNat (jb.mk e96.xChain t107)) xs187 t25 (fun _=>nx26 ((xs18.set (t95).toNat (jb.mk e96.xChain t107)),xs187,t25)))))) (fun k190=>ifW (decide ((xs22.length:Int)<200)) (jnW (fun (xs116:(List xG))=>k190 xs116) (fun k119=>jJ xs22 ([(xG.mk e96.xChain e96.xNext)]) (fun _=>k119 (xs22++([(xG.mk e96.xChain e96.xNext)]))))) (k190 xs22))))))))))) (κ (xs18,xs22,t25))) (fun k88=>ifW (decide (0<(xs18.length:Int))) (k88 (decide (t25=5))) (k88 false))) ([(jb.mk 0 0)],[],5)
def Xk (s_0:zL) (p_1:zX) (κ:Bool→Prop):Prop :=
 ZR s_0 p_1 (fun (r12,r15,r18)=>ifW (decide (r18=1)) (κ true) (ifW (decide (r18=2)) (κ false) (κ s_0.xAccept)))
def YG (s_0:zL) (p_1:zX) (κ:Bool→Prop):Prop :=
 jnW (fun (t72:Bool)=>ifW t72 (κ false) (Xk s_0 p_1 (fun r74=>κ r74))) (fun k73=>yC s_0 (fun r10=>ifW (!r10) (k73 true) (ZN p_1 (fun r11=>k73 (!r11)))))
def XP (r_0_b:(List UInt8)) (r_0_p:Int) (n_1:Int) (κ:(zX×Int)→Prop):Prop :=
 jk r_0_b r_0_p 20 (fun (r7,r8)=>jk r_0_b r8 20 (fun (r9,r10)=>jk r_0_b r10 256 (fun (r11,r12)=>jk r_0_b r12 8 (fun (r13,r14)=>jnW (fun ((t93,t94,t95,t96):(Int×Int×Int×Int))=>jnW (fun ((t186,t187,t188,t189,t190):(Int×Int×Int×Int×Int))=>κ ((zX.mk t187 t188 t189 t190),t186)) (fun k191=>ZC r_0_b t93 n_1 (fun (r98,r99)=>ifW r98 (jk r_0_b r99 4 (fun (r100,r101)=>ifW (decide (r100=0)) (jk r_0_b r101 2 (fun (r104,r105)=>zK ([(-1),65536]) r104 (fun e106=>k191 (r105,e106,t95,t96,r13)))) (ifW (decide (r100=1)) (jk r_0_b r101 2 (fun (r110,r111)=>zK ([(-1),65536]) r110 (fun e112=>k191 (r111,t94,e112,t96,r13)))) (ifW (decide (r100=2)) (jk r_0_b r101 2 (fun (r116,r117)=>zK ([(-1),256]) r116 (fun e118=>k191 (r117,t94,t95,e118,r13)))) (jk r_0_b r101 2 (fun (r122,r123)=>zK ([(-1),8]) r122 (fun e124=>k191 (r123,t94,t95,t96,e124)))))))) (k191 (r99,t94,t95,t96,r13))))) (fun k97=>jk r_0_b r14 2 (fun (r17,r18)=>ifW (decide (r17=0)) (jk r_0_b r18 256 (fun (r19,r20)=>zfk r19 256 (fun t21=>jk r_0_b r20 256 (fun (r22,r23)=>jA t21 r22 (fun t24=>jk r_0_b r23 4 (fun (r25,r26)=>zfk r25 16384 (fun t27=>jk r_0_b r26 256 (fun (r28,r29)=>jA t27 r28 (fun t30=>jk r_0_b r29 12 (fun (r31,r32)=>k97 (r32,t24,t30,r31))))))))))) (k97 (r18,r7,r9,r11))))))))
def yu (code_0:(List UInt8)) (κ:zX→Prop):Prop :=
 YC code_0 (fun (r7,r10)=>XP r7 r10 6 (fun (r11,r12)=>κ r11))
def ZQ (p_0:zX) (κ:Bool→Prop):Prop :=
 jnW (fun (t67:Bool)=>κ t67) (fun k68=>ux p_0.xFrom 0 65535 (fun r3=>ifW r3 (ux p_0.xTo 0 65535 (fun r4=>ifW r4 (ux p_0.xPort 0 255 (fun r5=>ifW r5 (ux p_0.xProto 0 7 (fun r6=>k68 r6)) (k68 false))) (k68 false))) (k68 false)))
def ZP (code_0:(List UInt8)) (κ:Bool→Prop):Prop :=
 ifW (decide (1048576<(code_0.length:Int))) (κ true) (yu code_0 (fun r31=>jnW (fun (t102:Bool)=>κ t102) (fun k103=>yg (zL.mk ([[]]) false) (zL.mk ([[]]) true) (fun r34=>ZU (zL.mk ([[]]) false) (zL.mk ([[]]) true) (fun r35=>ifW (decide (r34=r35)) (yg (zL.mk ([[]]) false) (zL.mk ([[]]) true) (fun r36=>ifW (decide (r36=2)) (yg (zL.mk ([[]]) true) (zL.mk ([[]]) false) (fun r37=>ifW (decide (r37=1)) (YG (zL.mk ([[]]) true) r31 (fun r38=>ZQ r31 (fun r39=>ifW (decide (r38=r39)) (YG (zL.mk ([[]]) false) r31 (fun r40=>ifW (!r40) (UH (fun r41=>k103 r41)) (k103 false))) (k103 false)))) (k103 false))) (k103 false))) (k103 false))))))
end
section
open Go Go.Proofs
def NF (l:List zg):Prop:=(∀ s∈l,s.xLo≤s.xHi)∧l.Pairwise (fun a b=>a.xHi+1<b.xLo)
def hv (l:List zg) (x:Int):Prop:=∃ s∈l,s.xLo≤x∧x≤s.xHi
theorem zg5:NF []:=⟨by simp,by simp⟩
theorem uP (x:Int):¬ hv [] x:=by simp [hv]
theorem xV (s:zg) (l:List zg) (x:Int):hv (s :: l) x↔(s.xLo≤x∧x≤s.xHi)∨hv l x:=by simp [hv]
theorem Vg (l m:List zg) (x:Int):hv (l++m) x↔hv l x∨hv m x:=by
 simp only [hv,List.mem_append]
 constructor
 ·rintro ⟨s,h | h,e⟩
  ·exact .inl ⟨s,h,e⟩
  ·exact .inr ⟨s,h,e⟩
 ·rintro (⟨s,h,e⟩ | ⟨s,h,e⟩)
  ·exact ⟨s,.inl h,e⟩
  ·exact ⟨s,.inr h,e⟩
theorem UZ {s:zg} {l:List zg} (h:NF (s :: l)):NF l:=⟨fun t ht=>h.1 t (List.mem_cons_of_mem _ ht),(List.pairwise_cons.1 h.2).2⟩
theorem zcu {s:zg} {l:List zg} (h:NF (s :: l)) {x:Int} (hx:hv l x):s.xHi+1<x:=by
 obtain ⟨t,ht,e1,_⟩:=hx
 have:=(List.pairwise_cons.1 h.2).1 t ht
 omega
theorem zcn {s:zg} {l:List zg} (h:NF (s :: l)) {x:Int} (hx:hv (s :: l) x):s.xLo≤x:=by
 rcases (xV _ _ _).1 hx with e | e
 ·exact e.1
 ·have:=zcu h e
  have:=h.1 s (by simp)
  omega
theorem Vh {l m:List zg} (hl:NF l) (hm:NF m) (h:∀ s∈l,∀ t∈m,s.xHi+1<t.xLo):NF (l++m) :=
 ⟨fun s hs=>(List.mem_append.1 hs).elim (hl.1 s) (hm.1 s),List.pairwise_append.2 ⟨hl.2,hm.2,h⟩⟩
theorem UV {s:zg} (h:s.xLo≤s.xHi):NF [s]:=⟨by simpa using h,by simp⟩
theorem zkH:∀ {a b:List zg},NF a→NF b→(∀ x,hv a x↔hv b x)→a=b
 | [],[],_,_,_=>rfl
 | [],t :: b,_,hb,h=>absurd ((h t.xLo).2 ((xV _ _ _).2 (.inl ⟨Int.le_refl _,hb.1 t (by simp)⟩))) (uP _)
 | s :: a,[],ha,_,h=>absurd ((h s.xLo).1 ((xV _ _ _).2 (.inl ⟨Int.le_refl _,ha.1 s (by simp)⟩))) (uP _)
 | s :: a,t :: b,ha,hb,h=>by
  have h1:=ha.1 s (by simp)
  have h2:=hb.1 t (by simp)
  have l1:t.xLo≤s.xLo:=zcn hb ((h _).1 ((xV _ _ _).2 (.inl ⟨Int.le_refl _,h1⟩)))
  have l2:s.xLo≤t.xLo:=zcn ha ((h _).2 ((xV _ _ _).2 (.inl ⟨Int.le_refl _,h2⟩)))
  have u1:¬ s.xHi<t.xHi:=fun hlt=>by
   have:=(h (s.xHi+1)).2 ((xV _ _ _).2 (.inl ⟨by omega,by omega⟩))
   rcases (xV _ _ _).1 this with e | e
   ·omega
   ·have:=zcu ha e;omega
  have u2:¬ t.xHi<s.xHi:=fun hlt=>by
   have:=(h (t.xHi+1)).1 ((xV _ _ _).2 (.inl ⟨by omega,by omega⟩))
   rcases (xV _ _ _).1 this with e | e
   ·omega
   ·have:=zcu hb e;omega
  have e:s=t:=by
   apply zg.ext <;> omega
  subst e
  rw [zkH (UZ ha) (UZ hb) (fun x=>?_)]
  have:=h x
  rw [xV,xV] at this
  constructor
  ·intro hx
   have g:=zcu ha hx
   rcases this.1 (.inr hx) with e | e
   ·omega
   ·exact e
  ·intro hx
   have g:=zcu hb hx
   rcases this.2 (.inr hx) with e | e
   ·omega
   ·exact e
def zmj:List (Int×Int)→List zg→Int→Int→List zg
 | [],out,_,_=>out
 | e :: es,out,d,st=>zmj es (if d+e.2=0 then out++[zg.mk (if d=0 then e.1 else st) (e.1 - 1)] else out) (d+e.2) (if d=0 then e.1 else st)
def stp (l:List (Int×Int)):Int:=(l.map (·.2)).sum
def zat:List zg→zg→List zg→Bool→List zg×zg×Bool
 | [],s,out,pl=>(out,s,pl)
 | x :: xs,s,out,pl =>
  if x.xHi+1<s.xLo then zat xs s (out++[x]) pl
  else if s.xHi+1<x.xLo then zat xs s ((if pl then out else out++[s])++[x]) true
  else zat xs (zg.mk (min s.xLo x.xLo) (max s.xHi x.xHi)) out pl
def zcl (l:List zg) (s:zg):List zg :=
 match zat l s [] false with
 | (out,s',pl)=>if pl then out else out++[s']
theorem zel:∀ (l:List zg) (s:zg) (out:List zg) (pl:Bool),NF l→s.xLo≤s.xHi→NF out →
  (pl=false→(∀ t∈out,t.xHi+1<s.xLo)∧(∀ t∈out,∀ u∈l,t.xHi+1<u.xLo)) →
  (pl=true→(∀ t∈out,∀ u∈l,t.xHi+1<u.xLo)∧(∀ u∈l,s.xHi+1<u.xLo)∧s∈out) →
  NF (match zat l s out pl with | (o,s',p)=>if p then o else o++[s'])∧∀ x,hv (match zat l s out pl with | (o,s',p)=>if p then o else o++[s']) x↔hv out x∨hv l x∨(s.xLo≤x∧x≤s.xHi)
 | [],s,out,pl,hl,hs,ho,h0,h1=>by
  simp only [zat]
  cases pl with
  | true =>
   simp only [if_true]
   obtain ⟨_,_,hm⟩:=h1 rfl
   refine ⟨ho,fun x=>⟨.inl,?_⟩⟩
   rintro (q | q | q)
   ·exact q
   ·exact absurd q (uP x)
   ·exact ⟨s,hm,q⟩
  | false =>
   simp only [Bool.false_eq_true,if_false]
   obtain ⟨ha,_⟩:=h0 rfl
   refine ⟨Vh ho (UV hs) (fun t ht u hu=>by simp at hu;subst hu;exact ha t ht),fun x=>?_⟩
   rw [Vg,xV]
   simp [uP]
 | y :: l,s,out,pl,hl,hs,ho,h0,h1=>by
  have hy:=hl.1 y (by simp)
  have hgap:=(List.pairwise_cons.1 hl.2).1
  have hl':=UZ hl
  unfold zat
  by_cases c1:y.xHi+1<s.xLo
  ·rw [if_pos c1]
   have hpl:pl=false:=by
    cases pl with
    | false=>rfl
    | true=>have:=(h1 rfl).2.1 y (by simp);omega
   subst hpl
   obtain ⟨a1,a2⟩:=h0 rfl
   have ih:=zel l s (out++[y]) false hl' hs (Vh ho (UV hy) (fun t ht u hu=>by simp at hu;subst hu;exact a2 t ht u (by simp)))
    (fun _=>⟨fun t ht=>by
     rcases List.mem_append.1 ht with q | q
     ·exact a1 t q
     ·simp at q;subst q;exact c1,fun t ht u hu=>by
     rcases List.mem_append.1 ht with q | q
     ·exact a2 t q u (by simp [hu])
     ·simp at q;subst q;exact hgap u hu⟩) (fun h=>by simp at h)
   refine ⟨ih.1,fun x=>?_⟩
   rw [ih.2 x,Vg,xV,xV]
   simp only [uP,or_false]
   constructor
   ·rintro ((q | q) | q | q)
    ·exact .inl q
    ·exact .inr (.inl (.inl q))
    ·exact .inr (.inl (.inr q))
    ·exact .inr (.inr q)
   ·rintro (q | (q | q) | q)
    ·exact .inl (.inl q)
    ·exact .inl (.inr q)
    ·exact .inr (.inl q)
    ·exact .inr (.inr q)
  ·rw [if_neg c1]
   by_cases c2:s.xHi+1<y.xLo
   ·rw [if_pos c2]
    cases pl with
    | true =>
     simp only [if_true]
     obtain ⟨a1,a2,a3⟩:=h1 rfl
     have ih:=zel l s (out++[y]) true hl' hs (Vh ho (UV hy) (fun t ht u hu=>by simp at hu;subst hu;exact a1 t ht u (by simp))) (fun h=>by simp at h)
      (fun _=>⟨fun t ht u hu=>by
       rcases List.mem_append.1 ht with q | q
       ·exact a1 t q u (by simp [hu])
       ·simp at q;subst q;exact hgap u hu,fun u hu=>a2 u (by simp [hu]),by simp [a3]⟩)
     refine ⟨ih.1,fun x=>?_⟩
     rw [ih.2 x,Vg,xV,xV]
     simp only [uP,or_false]
     constructor
     ·rintro ((q | q) | q | q)
      ·exact .inl q
      ·exact .inr (.inl (.inl q))
      ·exact .inr (.inl (.inr q))
      ·exact .inr (.inr q)
     ·rintro (q | (q | q) | q)
      ·exact .inl (.inl q)
      ·exact .inl (.inr q)
      ·exact .inr (.inl q)
      ·exact .inr (.inr q)
    | false =>
     simp only [Bool.false_eq_true,if_false]
     obtain ⟨a1,a2⟩:=h0 rfl
     have n1:NF (out++[s]):=Vh ho (UV hs) (fun t ht u hu=>by simp at hu;subst hu;exact a1 t ht)
     have ih:=zel l s ((out++[s])++[y]) true hl' hs (Vh n1 (UV hy) (fun t ht u hu=>by
       simp at hu;subst hu
       rcases List.mem_append.1 ht with q | q
       ·exact a2 t q u (by simp)
       ·simp at q;subst q;exact c2)) (fun h=>by simp at h)
      (fun _=>⟨fun t ht u hu=>by
       have hg:=hgap u hu
       rcases List.mem_append.1 ht with q | q
       ·rcases List.mem_append.1 q with q | q
        ·exact a2 t q u (by simp [hu])
        ·simp at q;subst q;omega
       ·simp at q;subst q;exact hg,fun u hu=>by have:=hgap u hu;omega,by simp⟩)
     refine ⟨ih.1,fun x=>?_⟩
     rw [ih.2 x,Vg,Vg,xV,xV,xV]
     simp only [uP,or_false]
     constructor
     ·rintro (((q | q) | q) | q | q)
      ·exact .inl q
      ·exact .inr (.inr q)
      ·exact .inr (.inl (.inl q))
      ·exact .inr (.inl (.inr q))
      ·exact .inr (.inr q)
     ·rintro (q | (q | q) | q)
      ·exact .inl (.inl (.inl q))
      ·exact .inl (.inr q)
      ·exact .inr (.inl q)
      ·exact .inr (.inr q)
   ·rw [if_neg c2]
    have hpl:pl=false:=by
     cases pl with
     | false=>rfl
     | true=>have:=(h1 rfl).2.1 y (by simp);omega
    subst hpl
    obtain ⟨a1,a2⟩:=h0 rfl
    have ih:=zel l (zg.mk (min s.xLo y.xLo) (max s.xHi y.xHi)) out false hl' (by simp only;omega) ho
     (fun _=>⟨fun t ht=>by
      have:=a1 t ht;have:=a2 t ht y (by simp)
      simp only;omega,fun t ht u hu=>a2 t ht u (by simp [hu])⟩) (fun h=>by simp at h)
    refine ⟨ih.1,fun x=>?_⟩
    rw [ih.2 x,xV]
    simp only
    constructor
    ·rintro (q | q | q)
     ·exact .inl q
     ·exact .inr (.inl (.inr q))
     ·by_cases c3:y.xLo≤x∧x≤y.xHi
      ·exact .inr (.inl (.inl c3))
      ·exact .inr (.inr (by omega))
    ·rintro (q | (q | q) | q)
     ·exact .inl q
     ·exact .inr (.inr (by omega))
     ·exact .inr (.inl q)
     ·exact .inr (.inr (by omega))
theorem zjB {l:List zg} {s:zg} (hl:NF l) (hs:s.xLo≤s.xHi):NF (zcl l s)∧∀ x,hv (zcl l s) x↔hv l x∨(s.xLo≤x∧x≤s.xHi):=by
 have:=zel l s [] false hl hs zg5 (fun _=>⟨by simp,by simp⟩) (fun h=>by simp at h)
 refine ⟨this.1,fun x=>?_⟩
 have:=this.2 x
 simp only [uP,false_or] at this
 exact this
theorem zaz:∀ (xs l:List zg),NF l→(∀ s∈xs,s.xLo≤s.xHi)→NF (xs.foldl zcl l)∧∀ x,hv (xs.foldl zcl l) x↔hv l x∨hv xs x
 | [],l,hl,_=>⟨hl,fun x=>by simp [uP]⟩
 | s :: xs,l,hl,h=>by
  obtain ⟨n1,e1⟩:=zjB hl (h s (by simp))
  obtain ⟨n2,e2⟩:=zaz xs (zcl l s) n1 (fun t ht=>h t (List.mem_cons_of_mem _ ht))
  refine ⟨n2,fun x=>?_⟩
  rw [List.foldl_cons,e2 x,e1 x,xV]
  constructor
  ·rintro ((q | q) | q)
   ·exact .inl q
   ·exact .inr (.inl q)
   ·exact .inr (.inr q)
  ·rintro (q | q | q)
   ·exact .inl (.inl q)
   ·exact .inl (.inr q)
   ·exact .inr q
end
section
theorem jg {A B:Prop} (h:A):ifW true A B:=⟨fun _=>h,(fun e=>by cases e)⟩
theorem jC {A B:Prop} (h:B):ifW false A B:=⟨(fun e=>by cases e),fun _=>h⟩
theorem zn {c:Bool} {A B:Prop} (ht:c=true→A) (hf:c=false→B):ifW c A B:=⟨ht,hf⟩
@[simp] theorem Yx {A B:Prop}:ifW true A B=A:=propext ⟨fun h=>h.1 rfl,jg⟩
@[simp] theorem zcV {A B:Prop}:ifW false A B=B:=propext ⟨fun h=>h.2 rfl,jC⟩
theorem zz {x y:Int} {κ:Int→Prop} (h1:-9223372036854775808≤x+y) (h2:x+y≤9223372036854775807) (h:κ (x+y)):jA x y κ:=⟨⟨h1,h2⟩,h⟩
theorem Xh {x y:Int} {κ:Int→Prop} (h1:-9223372036854775808≤x - y) (h2:x - y≤9223372036854775807) (h:κ (x - y)):Un x y κ:=⟨⟨h1,h2⟩,h⟩
theorem VI {x y:Int} {κ:Int→Prop} (h1:-9223372036854775808≤x * y) (h2:x * y≤9223372036854775807) (h:κ (x * y)):zfk x y κ:=⟨⟨h1,h2⟩,h⟩
theorem zj5 {x y:Int} {κ:Int→Prop} (h1:0≤x) (h2:x≤9223372036854775807) (h3:0<y) (h:κ (x / y)):ziK x y κ:=⟨h3,⟨by omega,h2⟩,by rw [Int.tdiv_eq_ediv_of_nonneg h1];exact h⟩
theorem zkt {x y:Int} {κ:Int→Prop} (h1:0≤x) (h2:x≤9223372036854775807) (h3:0<y) (h:κ (x % y)):zg1 x y κ:=⟨h1,h3,⟨by omega,h2⟩,h⟩
theorem zq {α:Type} {xs:List α} {i:Int} {κ:α→Prop} (n:Nat) (hi:i=n) (hn:n<xs.length) (h:κ xs[n]):zK xs i κ:=by
 subst hi
 exact ⟨xs[n],by omega,by simp [hn],h⟩
theorem js {α:Type} {xs ys:List α} {κ:List α→Prop} (h1:xs.length+ys.length≤4294967296) (h:κ (xs++ys)):jJ xs ys κ:=⟨h1,h⟩
theorem zdT {α:Type} {z:α} {n m:Int} {κ:List α→Prop} (k:Nat) (hn:n=k) (h1:n≤m) (h2:m≤4294967296) (h:κ (List.replicate k z)):zeO z n m κ:=by
 subst hn
 refine ⟨by omega,h1,?_,by simpa using h⟩
 unfold zdI
 omega
theorem zU {σ:Type} {F:(σ→Prop)→σ→Prop} (len:Nat) (pos:σ→Int) (I:Nat→σ→Prop) (hpos:∀ k s,I k s→pos s=k) (hle:∀ k s,I k s→k≤len)
  (h:∀ k s next,I k s→(k<len→∀ s',I (k+1) s'→next s')→F next s) {s:σ} (h0:I 0 s):jx F s:=by
 refine yV (fun s=>∃ k,I k s) (fun s=>len - (pos s).toNat) (fun s next ⟨k,hk⟩ hn=>?_) ⟨0,h0⟩
 refine h k s next hk (fun hlt s' hs'=>hn s' ⟨k+1,hs'⟩ ?_)
 rw [hpos _ _ hk,hpos _ _ hs']
 omega
theorem zc7 {σ:Type} {F:(σ→Prop)→σ→Prop} (k0 len:Nat) (pos:σ→Int) (I:Nat→σ→Prop) (hpos:∀ k s,I k s→pos s=k) (hle:∀ k s,I k s→k≤len)
  (h:∀ k s next,I k s→(k<len→∀ s',I (k+1) s'→next s')→F next s) {s:σ} (h0:I k0 s):jx F s:=by
 refine yV (fun s=>∃ k,I k s) (fun s=>len - (pos s).toNat) (fun s next ⟨k,hk⟩ hn=>?_) ⟨k0,h0⟩
 refine h k s next hk (fun hlt s' hs'=>hn s' ⟨k+1,hs'⟩ ?_)
 rw [hpos _ _ hk,hpos _ _ hs']
 omega
theorem zhy {α:Type} [DecidableEq α] (a b:List α) (hab:a.length=b.length) (hl:a.length≤4294967296) {κ:Bool→Prop} (T:α→α→Prop→Prop) (hT:∀ x y A,(x=y→A)→(x≠y→κ false)→T x y A) (hκ:κ (decide (a=b)))
  (F:(Int→Prop)→Int→Prop) (hF:∀ nx t,(ifW (decide (t<(a.length:Int))) (zK a t (fun x=>zK b t (fun y=>T x y (jA t 1 (fun u=>nx u))))) (κ true))→F nx t):jx F 0:=by
 refine zU a.length (fun s=>s) (fun k s=>s=(k:Int)∧k≤a.length∧a.take k=b.take k) (fun k s h=>h.1) (fun k s h=>h.2.1) ?_ ⟨rfl,Nat.zero_le _,by simp⟩
 rintro k _ next ⟨rfl,hk,he⟩ hn
 refine hF _ _ (zn (fun hc=>?_) (fun hc=>?_))
 ·have hlt:k<a.length:=by simpa using hc
  refine zq k rfl hlt (zq k rfl (by omega) (hT _ _ _ (fun e=>zz (by omega) (by omega) (hn hlt _ ⟨by simp,by omega,?_⟩)) (fun e=>?_)))
  ·rw [List.take_succ_eq_append_getElem hlt,List.take_succ_eq_append_getElem (by omega),he,e]
  ·have:a≠b:=fun h=>by subst h;exact e rfl
   rw [decide_eq_false this] at hκ;exact hκ
 ·have hge:a.length≤k:=by simpa using hc
  have:a=b:=by
   rw [List.take_of_length_le hge,List.take_of_length_le (by omega)] at he
   exact he
  rw [decide_eq_true this] at hκ;exact hκ
def zmw {α:Type} (f:Int→α) (k:Int) (n:Nat):List α:=(List.range n).map fun (i:Nat)=>f (k+(i:Int))
end
section
open Go Go.Proofs
instance (l:List zg) (x:Int):Decidable (hv l x):=by unfold hv;infer_instance
def St (l:List zg) (top:Int):Prop:=NF l∧∀ s∈l,0≤s.xLo∧s.xHi≤top
theorem zk9 (top:Int):St [] top:=⟨zg5,by simp⟩
theorem zi6 {a b:List zg} {t u:Int} (ha:St a t) (hb:St b u) (h:∀ x,hv a x↔hv b x):a=b:=zkH ha.1 hb.1 h
theorem ym {l:List zg} {top x:Int} (h:St l top) (hx:hv l x):0≤x∧x≤top:=by
 obtain ⟨s,hs,e1,e2⟩:=hx
 have:=h.2 s hs
 omega
theorem ze3:∀ (l:List zg) (top lo:Int),NF l→(∀ s∈l,lo≤s.xLo∧s.xHi≤top)→lo≤top+2→2 * (l.length:Int)≤top+2 - lo
 | [],top,lo,_,_,h=>by simp;omega
 | s :: l,top,lo,hn,hr,h=>by
  have h0:=hr s (by simp)
  have h1:=hn.1 s (by simp)
  have:=ze3 l top (s.xHi+2) (UZ hn) (fun t ht=>⟨by have:=(List.pairwise_cons.1 hn.2).1 t ht;omega,(hr t (List.mem_cons_of_mem _ ht)).2⟩) (by omega)
  simp only [List.length_cons]
  omega
theorem UO {l:List zg} {top:Int} (h:St l top) (ht:-2≤top):2 * (l.length:Int)≤top+2:=by
 have:=ze3 l top 0 h.1 h.2 (by omega)
 omega
def YP (x y:zg):List zg:=if max x.xLo y.xLo≤min x.xHi y.xHi then [zg.mk (max x.xLo y.xLo) (min x.xHi y.xHi)] else []
def zZ (a b:List zg):List zg:=a.flatMap fun x=>b.flatMap (YP x)
theorem zag {x y t:zg}:t∈YP x y↔max x.xLo y.xLo≤min x.xHi y.xHi∧t=zg.mk (max x.xLo y.xLo) (min x.xHi y.xHi):=by
 unfold YP;split <;> simp [*]
theorem zaH {a b:List zg} {t:zg}:t∈zZ a b↔∃ x∈a,∃ y∈b,max x.xLo y.xLo≤min x.xHi y.xHi∧t=zg.mk (max x.xLo y.xLo) (min x.xHi y.xHi):=by
 simp only [zZ,List.mem_flatMap,zag]
theorem YO (a b:List zg) (n:Int):hv (zZ a b) n↔hv a n∧hv b n:=by
 constructor
 ·rintro ⟨t,ht,h1,h2⟩
  obtain ⟨x,hx,y,hy,_,rfl⟩:=zaH.1 ht
  simp only at h1 h2
  exact ⟨⟨x,hx,by omega,by omega⟩,⟨y,hy,by omega,by omega⟩⟩
 ·rintro ⟨⟨x,hx,h1,h2⟩,⟨y,hy,h3,h4⟩⟩
  exact ⟨_,zaH.2 ⟨x,hx,y,hy,by omega,rfl⟩,by simp only;omega,by simp only;omega⟩
theorem ziX {x:zg}:∀ {b:List zg},NF b→NF (b.flatMap (YP x))
 | [],_=>by simp [NF]
 | y :: b,h=>by
  rw [List.flatMap_cons]
  have hy:=(List.pairwise_cons.1 h.2).1
  refine Vh ⟨fun t ht=>?_,?_⟩ (ziX (UZ h)) (fun t ht u hu=>?_)
  ·obtain ⟨h1,rfl⟩:=zag.1 ht;exact h1
  ·unfold YP;split <;> simp
  ·obtain ⟨h1,rfl⟩:=zag.1 ht
   obtain ⟨z,hz,hu⟩:=List.mem_flatMap.1 hu
   obtain ⟨h2,rfl⟩:=zag.1 hu
   have:=hy z hz
   simp only;omega
theorem zce:∀ {a b:List zg},NF a→NF b→NF (zZ a b)
 | [],b,_,_=>by simp [zZ,NF]
 | x :: a,b,ha,hb=>by
  have e:zZ (x :: a) b=b.flatMap (YP x)++zZ a b:=by simp [zZ]
  rw [e]
  refine Vh (ziX hb) (zce (UZ ha) hb) (fun t ht u hu=>?_)
  obtain ⟨y,hy,ht⟩:=List.mem_flatMap.1 ht
  obtain ⟨h1,rfl⟩:=zag.1 ht
  obtain ⟨z,hz,y',hy',h2,rfl⟩:=zaH.1 hu
  have:=(List.pairwise_cons.1 ha.2).1 z hz
  simp only;omega
theorem ZZ {a b:List zg} {top:Int} (ha:St a top) (hb:NF b):St (zZ a b) top:=by
 refine ⟨zce ha.1 hb,fun t ht=>?_⟩
 obtain ⟨x,hx,y,hy,_,rfl⟩:=zaH.1 ht
 have:=ha.2 x hx
 have:=hb.1 y hy
 simp only;omega
def Uc:List zg→Int→Int→List zg
 | [],at_,top=>if at_≤top then [zg.mk at_ top] else []
 | s :: l,at_,top=>(if at_<s.xLo then [zg.mk at_ (s.xLo - 1)] else [])++Uc l (s.xHi+1) top
def yO (a:List zg) (top:Int):List zg:=Uc a 0 top
theorem zeb:∀ (a:List zg) (c top:Int),NF a→(∀ s∈a,c≤s.xLo∧s.xHi≤top) →
  NF (Uc a c top)∧(∀ s∈Uc a c top,c≤s.xLo∧s.xHi≤top)∧∀ x,hv (Uc a c top) x↔c≤x∧x≤top∧¬ hv a x
 | [],c,top,_,_=>by
  unfold Uc
  split
  ·refine ⟨UV (by simpa using ‹_›),by simp,fun x=>?_⟩
   rw [xV];simp [uP]
  ·refine ⟨zg5,by simp,fun x=>?_⟩
   simp only [uP,false_iff]
   omega
 | s :: l,c,top,hn,hr=>by
  have h0:=hr s (by simp)
  have h1:=hn.1 s (by simp)
  have hg:=(List.pairwise_cons.1 hn.2).1
  obtain ⟨i1,i2,i3⟩:=zeb l (s.xHi+1) top (UZ hn) (fun t ht=>⟨by have:=hg t ht;omega,(hr t (List.mem_cons_of_mem _ ht)).2⟩)
  unfold Uc
  have hx0:∀ x,x≤s.xHi+1→¬ hv l x:=fun x hx hh=>by have:=zcu hn hh;omega
  split
  ·refine ⟨Vh (UV (by simp only;omega)) i1 (fun t ht u hu=>by simp at ht;subst ht;have:=i2 u hu;simp only;omega),fun t ht=>?_,fun x=>?_⟩
   ·rcases List.mem_append.1 ht with q | q
    ·simp at q;subst q;simp only;omega
    ·have:=i2 t q;omega
   ·rw [Vg,xV,i3,xV]
    simp only [uP,or_false]
    constructor
    ·rintro (q | ⟨q1,q2,q3⟩)
     ·exact ⟨by omega,by omega,fun h=>by
       rcases h with h | h
       ·omega
       ·exact hx0 x (by omega) h⟩
     ·exact ⟨by omega,q2,fun h=>by
       rcases h with h | h
       ·omega
       ·exact q3 h⟩
    ·rintro ⟨q1,q2,q3⟩
     by_cases h:x<s.xLo
     ·exact .inl (by omega)
     ·exact .inr ⟨by
       rcases Int.lt_or_le s.xHi x with g | g
       ·omega
       ·exact absurd (Or.inl ⟨by omega,g⟩) q3,q2,fun h=>q3 (.inr h)⟩
  ·refine ⟨by simpa using i1,fun t ht=>?_,fun x=>?_⟩
   ·have:=i2 t (by simpa using ht);omega
   ·rw [List.nil_append,i3,xV]
    constructor
    ·rintro ⟨q1,q2,q3⟩
     exact ⟨by omega,q2,fun h=>by
       rcases h with h | h
       ·omega
       ·exact q3 h⟩
    ·rintro ⟨q1,q2,q3⟩
     exact ⟨by
       rcases Int.lt_or_le s.xHi x with g | g
       ·omega
       ·exact absurd (Or.inl ⟨by omega,g⟩) q3,q2,fun h=>q3 (.inr h)⟩
theorem Yr {a:List zg} {top:Int} (h:St a top):St (yO a top) top:=by
 obtain ⟨h1,h2,_⟩:=zeb a 0 top h.1 h.2
 exact ⟨h1,h2⟩
theorem zeQ {a:List zg} {top:Int} (h:St a top) (x:Int):hv (yO a top) x↔0≤x∧x≤top∧¬ hv a x:=(zeb a 0 top h.1 h.2).2.2 x
def XK (a b:List zg):List zg:=b.foldl zcl a
theorem zcL {a b:List zg} {top:Int} (ha:St a top) (hb:St b top) (x:Int):hv (XK a b) x↔hv a x∨hv b x:=(zaz b a ha.1 hb.1.1).2 x
theorem U7 {l:List zg} {s:zg} (h:NF l) (hs:s∈l):hv l s.xLo∧hv l s.xHi:=⟨⟨s,hs,Int.le_refl _,h.1 s hs⟩,⟨s,hs,h.1 s hs,Int.le_refl _⟩⟩
theorem zcN {a b:List zg} {top:Int} (ha:St a top) (hb:St b top):St (XK a b) top:=by
 have hn:NF (XK a b):=(zaz b a ha.1 hb.1.1).1
 refine ⟨hn,fun s hs=>?_⟩
 obtain ⟨e1,e2⟩:=U7 hn hs
 rw [zcL ha hb] at e1 e2
 constructor
 ·rcases e1 with e | e
  ·exact (ym ha e).1
  ·exact (ym hb e).1
 ·rcases e2 with e | e
  ·exact (ym ha e).2
  ·exact (ym hb e).2
theorem ziP (a:List zg) (c:Int) (hl:a.length≤4294967296) {i0:Nat} (h0:i0≤a.length) (hb:∀ s∈a.take i0,s.xHi<c) (REST:Int→Prop)
  (hR:∀ i:Nat,i≤a.length→(∀ s∈a.take i,s.xHi<c)→(∀ h:i<a.length,c≤a[i].xHi)→REST i)
  (F:(Int→Prop)→Int→Prop) (hF:∀ nx t,(jnW (fun (b:Bool)=>ifW b (jA t 1 (fun u=>nx u)) (REST t)) (fun k=>ifW (decide (t<(a.length:Int))) (zK a t (fun e=>k (decide (e.xHi<c)))) (k false)))→F nx t):jx F (i0:Int):=by
 refine zc7 i0 a.length (fun s=>s) (fun k s=>s=(k:Int)∧k≤a.length∧∀ s∈a.take k,s.xHi<c) (fun k s h=>h.1) (fun k s h=>h.2.1) ?_ ⟨rfl,h0,hb⟩
 rintro k _ next ⟨rfl,hk,he⟩ hn
 refine hF _ _ ?_
 unfold jnW
 refine zn (fun hc=>?_) (fun hc=>?_)
 ·have hlt:k<a.length:=by simpa using hc
  refine zq k rfl hlt (zn (fun hd=>?_) (fun hd=>?_))
  ·refine zz (by omega) (by omega) (hn hlt _ ⟨by simp,by omega,fun s hs=>?_⟩)
   rw [List.take_succ_eq_append_getElem hlt] at hs
   rcases List.mem_append.1 hs with q | q
   ·exact he s q
   ·simp at q;subst q;simpa using hd
  ·exact hR k hk he (fun _=>by simpa using hd)
 ·refine jC (hR k hk he (fun h=>?_))
  have:a.length≤k:=by simpa using hc
  omega
theorem zhJ {a:List zg} {i:Nat} {c x:Int} (h:∀ s∈a.take i,s.xHi<c) (hx:c≤x):hv a x↔hv (a.drop i) x:=by
 have e:=Vg (a.take i) (a.drop i) x
 rw [List.take_append_drop] at e
 rw [e]
 constructor
 ·rintro (⟨s,hs,q1,q2⟩ | q)
  ·have:=h s hs;omega
  ·exact q
 ·exact .inr
def stF (l:List zg) (c top:Int):Bool×Int :=
 match l with
 | []=>(false,top)
 | s :: _=>if c<s.xLo then (false,s.xLo - 1) else (true,s.xHi)
theorem zeS {l:List zg} {c top:Int} {κ:Bool×Int→Prop} (hb:∀ s∈l,0≤s.xLo∧s.xHi≤9223372036854775807) (hn:NF l) (h:κ (stF l c top)):uy l c top κ:=by
 unfold uy
 cases l with
 | nil=>exact jg h
 | cons s l =>
  have:=hb s (by simp)
  have:=hn.1 s (by simp)
  refine zn (fun e=>by simp at e;omega) (fun _=>zq 0 rfl (by simp) (zn (fun e=>zq 0 rfl (by simp) (Xh (by simp only [List.getElem_cons_zero];omega) (by simp only [List.getElem_cons_zero];omega) ?_)) (fun e=>zq 0 rfl (by simp) ?_)))
  ·simp only [stF] at h
   rw [if_pos (by simpa using e)] at h
   exact h
  ·simp only [stF] at h
   rw [if_neg (by simpa using e)] at h
   exact h
theorem zgF {l:List zg} {c top:Int} (h:NF l) (hb:∀ s∈l,s.xHi≤top) (hc:c≤top) (hf:∀ s∈l.head?,c≤s.xHi) :
  c≤(stF l c top).2∧(stF l c top).2≤top∧∀ x,c≤x→x≤(stF l c top).2→(hv l x↔(stF l c top).1=true):=by
 cases l with
 | nil=>exact ⟨hc,Int.le_refl _,fun x _ _=>by simp [stF,uP]⟩
 | cons s l =>
  have h0:=hb s (by simp)
  have h1:=h.1 s (by simp)
  have h2:=hf s (by simp)
  unfold stF
  simp only
  split
  ·refine ⟨by simp only;omega,by simp only;omega,fun x q1 q2=>?_⟩
   simp only at q2
   simp only [Bool.false_eq_true,iff_false]
   intro hh
   have:=zcn h hh
   omega
  ·refine ⟨h2,h0,fun x q1 q2=>?_⟩
   simp only at q2
   simp only [iff_true]
   exact (xV _ _ _).2 (.inl ⟨by omega,q2⟩)
theorem zbJ:∀ {a:List zg} (i:Nat),NF a→NF (a.drop i):=fun {a} i h=>⟨fun s hs=>h.1 s (List.mem_of_mem_drop hs),h.2.drop⟩
theorem zeM {a:List zg} {i:Nat} {c:Int} (h:∀ q:i<a.length,c≤a[i].xHi):∀ s∈(a.drop i).head?,c≤s.xHi:=by
 intro s hs
 rw [List.head?_drop] at hs
 obtain ⟨hlt,e⟩:=List.getElem?_eq_some_iff.1 hs
 rw [← e];exact h hlt
theorem zbd (keep:Bool→Bool→Bool) {a b:List zg} {top:Int} (ha:St a top) (hb:St b top) (ht0:-2≤top) (ht:top≤65535) {κ:List zg→Prop}
  (hκ:∀ r,St r top→(∀ x,0≤x→x≤top→(hv r x↔keep (decide (hv a x)) (decide (hv b x))=true))→κ r)
  (K:Bool→Bool→(Bool→Prop)→Prop) (hK:∀ p q φ,φ (keep p q)→K p q φ)
  (F:(List zg×Int×Int×Int→Prop)→List zg×Int×Int×Int→Prop)
  (hF:∀ nx xs8 t11 t12 t13,(ifW (decide (t13≤top)) (jx (fun (nx16:Int→Prop) (t15:Int)=>jnW (fun (t79:Bool)=>ifW t79 (jA t15 1 (fun t81=>nx16 t81)) (jx (fun (nx83:Int→Prop) (t82:Int)=>jnW (fun (t146:Bool)=>ifW t146 (jA t82 1 (fun t148=>nx83 t148)) (uQ a t15 (a.length:Int) (fun xs150=>uy xs150 t13 top (fun (r153,r154)=>uQ b t82 (b.length:Int) (fun xs156=>uy xs156 t13 top (fun (r159,r160)=>jnW (fun (xs296:(List zg))=>jA (min r154 r160) 1 (fun t300=>nx (xs296,t15,t82,t300))) (fun k299=>K r153 r159 (fun r161=>ifW r161 (jnW (fun (t226:Bool)=>ifW t226 (Un (xs8.length:Int) 1 (fun t228=>zK xs8 t228 (fun e229=>k299 (xs8.set (t228).toNat (zg.mk e229.xLo (min r154 r160)))))) (jJ xs8 ([(zg.mk t13 (min r154 r160))]) (fun _=>k299 (xs8++([(zg.mk t13 (min r154 r160))]))))) (fun k227=>ifW (decide (0<(xs8.length:Int))) (Un (xs8.length:Int) 1 (fun t162=>zK xs8 t162 (fun e163=>jA e163.xHi 1 (fun t165=>k227 (decide (t165=t13)))))) (k227 false))) (k299 xs8))))))))) (fun k147=>ifW (decide (t82<(b.length:Int))) (zK b t82 (fun e84=>k147 (decide (e84.xHi<t13)))) (k147 false))) t12)) (fun k80=>ifW (decide (t15<(a.length:Int))) (zK a t15 (fun e17=>k80 (decide (e17.xHi<t13)))) (k80 false))) t11) (κ xs8))→F nx (xs8,t11,t12,t13)) :
  jx F ([],0,0,0):=by
 have la:=UO ha ht0
 have lb:=UO hb ht0
 refine yV (fun (s:List zg×Int×Int×Int)=>∃ i j:Nat,s.2.1=i∧s.2.2.1=j∧i≤a.length∧j≤b.length∧0≤s.2.2.2∧(top<s.2.2.2→s.2.2.2=top+1∨s.2.2.2=0)∧(∀ u∈a.take i,u.xHi<s.2.2.2)∧(∀ u∈b.take j,u.xHi<s.2.2.2)∧St s.1 top∧(∀ u∈s.1,u.xHi<s.2.2.2)∧(∀ x,0≤x→x<s.2.2.2→(hv s.1 x↔keep (decide (hv a x)) (decide (hv b x))=true)))
  (fun s=>(top+1 - s.2.2.2).toNat) ?_ ⟨0,0,rfl,rfl,Nat.zero_le _,Nat.zero_le _,Int.le_refl _,fun _=>.inr rfl,by simp,by simp,zk9 _,by simp,fun x h1 h2=>by simp only at h2;omega⟩
 rintro ⟨out,_,_,c⟩ next ⟨i,j,rfl,rfl,hi,hj,hc0,hc1,hai,hbj,ho,hoc,hk⟩ hn
 simp only at hc0 hc1 hai hbj ho hoc hk
 have lo:=UO ho ht0
 refine hF _ _ _ _ _ (zn (fun hc=>?_) (fun hc=>?_))
 rotate_left 1
 ·have hc':top<c:=by simpa using hc
  refine hκ out ho (fun x h1 h2=>hk x h1 (by omega))
 have hc':c≤top:=by simpa using hc
 refine ziP a c (by omega) hi hai _ (fun i' hi' hai' hai2=>?_) _ (fun _ _ h=>h)
 refine ziP b c (by omega) hj hbj _ (fun j' hj' hbj' hbj2=>?_) _ (fun _ _ h=>h)
 have mema:∀ s∈a.drop i',0≤s.xLo∧s.xHi≤top:=fun s hs=>ha.2 s (List.mem_of_mem_drop hs)
 have memb:∀ s∈b.drop j',0≤s.xLo∧s.xHi≤top:=fun s hs=>hb.2 s (List.mem_of_mem_drop hs)
 refine ⟨by omega,by omega,by omega,?_⟩
 rw [show (a.take (a.length:Int).toNat).drop (i':Int).toNat=a.drop i' by simp]
 refine zeS (fun s hs=>⟨(mema s hs).1,by have:=(mema s hs).2;omega⟩) (zbJ _ ha.1) ?_
 obtain ⟨a1,a2,a3⟩:=zgF (zbJ i' ha.1) (fun s hs=>(mema s hs).2) hc' (zeM hai2)
 generalize stF (a.drop i') c top=p at a1 a2 a3
 obtain ⟨inA,endA⟩:=p
 simp only at a1 a2 a3 ⊢
 refine ⟨by omega,by omega,by omega,?_⟩
 rw [show (b.take (b.length:Int).toNat).drop (j':Int).toNat=b.drop j' by simp]
 refine zeS (fun s hs=>⟨(memb s hs).1,by have:=(memb s hs).2;omega⟩) (zbJ _ hb.1) ?_
 obtain ⟨b1,b2,b3⟩:=zgF (zbJ j' hb.1) (fun s hs=>(memb s hs).2) hc' (zeM hbj2)
 generalize stF (b.drop j') c top=p at b1 b2 b3
 obtain ⟨inB,endB⟩:=p
 simp only at b1 b2 b3 ⊢
 have hke:∀ x,c≤x→x≤min endA endB→(keep (decide (hv a x)) (decide (hv b x))=keep inA inB):=fun x q1 q2=>by
  have e1:decide (hv a x)=inA:=by
   have:=a3 x q1 (by omega)
   rw [← zhJ hai' q1] at this
   cases inA <;> simpa using this
  have e2:decide (hv b x)=inB:=by
   have:=b3 x q1 (by omega)
   rw [← zhJ hbj' q1] at this
   cases inB <;> simpa using this
  rw [e1,e2]
 unfold jnW
 generalize hm:min endA endB=m at hke ⊢
 have m1:c≤m:=by omega
 have m2:m≤top:=by omega
 have fin:∀ out',St out' top→(∀ u∈out',u.xHi≤m)→(∀ x,0≤x→x≤m→(hv out' x↔keep (decide (hv a x)) (decide (hv b x))=true))→jA m 1 (fun t300=>next (out',(i':Int),(j':Int),t300)):=fun out' h1 h2 h3 =>
  zz (by omega) (by omega) (hn _ ⟨i',j',rfl,rfl,hi',hj',by simp only;omega,fun _=>.inl (by simp only at *;omega),fun u hu=>by have:=hai' u hu;simp only;omega,fun u hu=>by have:=hbj' u hu;simp only;omega,h1,fun u hu=>by have:=h2 u hu;simp only;omega,fun x q1 q2=>h3 x q1 (by simp only at q2;omega)⟩ (by simp only;omega))
 refine hK _ _ _ (zn (fun hkt=>?_) (fun hkf=>?_))
 ·
  have app:(∀ u∈out,u.xHi+1<c)→jJ out ([(zg.mk c m)]) (fun _=>jA m 1 (fun t300=>next (out++[zg.mk c m],(i':Int),(j':Int),t300))):=fun hg =>
   js (by simp;omega) (fin _ ⟨Vh ho.1 (UV (by simpa using m1)) (fun s hs t ht=>by simp at ht;subst ht;exact hg s hs),fun s hs=>by
    rcases List.mem_append.1 hs with q | q
    ·exact ho.2 s q
    ·simp at q;subst q;exact ⟨hc0,m2⟩⟩ (fun u hu=>by
    rcases List.mem_append.1 hu with q | q
    ·have:=hoc u q;omega
    ·simp at q;subst q;exact Int.le_refl _) (fun x q1 q2=>by
    rw [Vg,xV]
    simp only [uP,or_false]
    by_cases hx:x<c
    ·rw [← hk x q1 hx]
     constructor
     ·rintro (q | q)
      ·exact q
      ·omega
     ·exact .inl
    ·rw [hke x (by omega) q2,hkt]
     simp only [iff_true]
     exact .inr ⟨by omega,q2⟩))
  refine zn (fun hp=>?_) (fun hp=>?_)
  ·
   have hpos:0<out.length:=by simpa using hp
   refine Xh (by omega) (by omega) (zq (out.length - 1) (by omega) (by omega) ?_)
   have hmem:out[out.length - 1]∈out:=List.getElem_mem _
   have hlast:=hoc _ hmem
   have hl0:=ho.2 _ hmem
   have hl1:=ho.1.1 _ hmem
   refine zz (by omega) (by omega) (zn (fun hq=>?_) (fun hq=>?_))
   ·have hq':(out[out.length - 1]).xHi+1=c:=by simpa using hq
    refine Xh (by omega) (by omega) (zq (out.length - 1) (by omega) (by omega) ?_)
    have hsplit:out=out.dropLast++[out[out.length - 1]]:=by
     have:=List.dropLast_concat_getLast (l:=out) (by intro h;rw [h] at hpos;simp at hpos)
     rw [List.getLast_eq_getElem] at this
     exact this.symm
    generalize out[out.length - 1]=z at *
    have hset:out.set ((out.length:Int) - 1).toNat (zg.mk z.xLo m)=out.dropLast++[zg.mk z.xLo m]:=by
     have e1:((out.length:Int) - 1).toNat=out.dropLast.length:=by rw [List.length_dropLast];omega
     rw [e1]
     conv=>lhs;rw [hsplit]
     rw [List.dropLast_concat,List.set_append_right _ _ (Nat.le_refl _)]
     simp
    rw [hset]
    have hd:NF (out.dropLast++[z]):=by rw [← hsplit];exact ho.1
    have hdp:=List.pairwise_append.1 hd.2
    have hdm:∀ u∈out.dropLast,u∈out:=fun u hu=>by rw [hsplit];exact List.mem_append_left _ hu
    refine fin _ ⟨Vh ⟨fun s hs=>ho.1.1 s (hdm s hs),hdp.1⟩ (UV (by simp only;omega)) (fun s hs t ht=>by simp at ht;subst ht;exact hdp.2.2 s hs z (by simp)),fun s hs=>?_⟩ (fun u hu=>?_) (fun x q1 q2=>?_)
    ·rcases List.mem_append.1 hs with q | q
     ·exact ho.2 s (hdm s q)
     ·simp at q;subst q;exact ⟨hl0.1,m2⟩
    ·rcases List.mem_append.1 hu with q | q
     ·have:=hoc u (hdm u q);omega
     ·simp at q;subst q;exact Int.le_refl _
    ·have hold:hv out x↔hv out.dropLast x∨(z.xLo≤x∧x≤z.xHi):=by
      conv=>lhs;rw [hsplit]
      rw [Vg,xV];simp [uP]
     rw [Vg,xV]
     simp only [uP,or_false]
     by_cases hx:x<c
     ·rw [← hk x q1 hx,hold]
      constructor
      ·rintro (q | q)
       ·exact .inl q
       ·exact .inr ⟨q.1,by omega⟩
      ·rintro (q | q)
       ·exact .inl q
       ·exact .inr ⟨q.1,by omega⟩
     ·rw [hke x (by omega) q2,hkt]
      simp only [iff_true]
      exact .inr ⟨by omega,q2⟩
   ·have hq':(out[out.length - 1]).xHi+1≠c:=by simpa using hq
    refine app (fun u hu=>?_)
    obtain ⟨t,ht,e⟩:=List.getElem_of_mem hu
    by_cases e0:t=out.length - 1
    ·subst e0;rw [← e];omega
    ·have hpw:=List.pairwise_iff_getElem.1 ho.1.2 t (out.length - 1) ht (by omega) (by omega)
     rw [e] at hpw
     omega
  ·have:out=[]:=by
    have:¬ 0<out.length:=by simpa using hp
    exact List.eq_nil_of_length_eq_zero (by omega)
   subst this
   exact jC (app (by simp))
 ·refine fin out ho (fun u hu=>by have:=hoc u hu;omega) (fun x q1 q2=>?_)
  by_cases hx:x<c
  ·exact hk x q1 hx
  ·rw [hke x (by omega) q2,hkf]
   simp only [Bool.false_eq_true,iff_false]
   rintro ⟨u,hu,r1,r2⟩
   have:=hoc u hu
   omega
end
section
open Go Go.Proofs
theorem zio {p q:Bool} {κ:Bool→Prop} (h:κ (p && q)):X7 p q κ:=by
 unfold X7 jnW;cases p <;> simpa using h
theorem zeF {p q:Bool} {κ:Bool→Prop} (h:κ (p && !q)):yP p q κ:=by
 unfold yP jnW;cases p <;> simpa using h
theorem zgJ {p q:Bool} {κ:Bool→Prop} (h:κ (p || q)):ZX p q κ:=by
 unfold ZX jnW;cases p <;> simpa using h
theorem zfy {a b:List zg} {top:Int} (ha:St a top) (hb:St b top) (h0:-2≤top) (ht:top≤65535) {κ:List zg→Prop} (h:κ (zZ a b)):uF a b top κ:=by
 unfold uF
 refine zbd (fun p q=>p && q) ha hb h0 ht (κ:=κ) (fun r hr hk=>?_) (fun p q φ=>X7 p q φ) (fun p q φ=>zio) _ (fun _ _ _ _ _ h=>h)
 rw [zi6 hr (ZZ ha hb.1) (fun x=>?_)]
 ·exact h
 ·rw [YO]
  by_cases hx:0≤x∧x≤top
  ·rw [hk x hx.1 hx.2];simp
  ·exact ⟨fun e=>absurd (ym hr e) hx,fun e=>absurd (ym ha e.1) hx⟩
theorem X6 {a b:List zg} {top:Int} (ha:St a top) (hb:St b top) (h0:-2≤top) (ht:top≤65535) {κ:List zg→Prop} (h:κ (zZ a (yO b top))):z8 a b top κ:=by
 unfold z8
 refine zbd (fun p q=>p && !q) ha hb h0 ht (κ:=κ) (fun r hr hk=>?_) (fun p q φ=>yP p q φ) (fun p q φ=>zeF) _ (fun _ _ _ _ _ h=>h)
 rw [zi6 hr (ZZ ha (Yr hb).1) (fun x=>?_)]
 ·exact h
 ·rw [YO,zeQ hb]
  by_cases hx:0≤x∧x≤top
  ·rw [hk x hx.1 hx.2];simp [hx.1,hx.2]
  ·exact ⟨fun e=>absurd (ym hr e) hx,fun e=>absurd (ym ha e.1) hx⟩
theorem zds {a b:List zg} {top:Int} (ha:St a top) (hb:St b top) (h0:-2≤top) (ht:top≤65535) {κ:List zg→Prop} (h:κ (XK a b)):uj a b top κ:=by
 unfold uj
 refine zbd (fun p q=>p || q) ha hb h0 ht (κ:=κ) (fun r hr hk=>?_) (fun p q φ=>ZX p q φ) (fun p q φ=>zgJ) _ (fun _ _ _ _ _ h=>h)
 rw [zi6 hr (zcN ha hb) (fun x=>?_)]
 ·exact h
 ·rw [zcL ha hb]
  by_cases hx:0≤x∧x≤top
  ·rw [hk x hx.1 hx.2];simp
  ·refine ⟨fun e=>absurd (ym hr e) hx,fun e=>?_⟩
   rcases e with e | e
   ·exact absurd (ym ha e) hx
   ·exact absurd (ym hb e) hx
def lim (l:List zg):List zg×Bool:=if 40<l.length then ([],false) else (l,true)
theorem VU {l:List zg} {κ:List zg×Bool→Prop} (h:κ (lim l)):yw l κ:=by
 unfold yw
 unfold lim at h
 refine zn (fun hc=>?_) (fun hc=>?_)
 ·rw [if_pos (by have:=of_decide_eq_true hc;omega)] at h;exact h
 ·rw [if_neg (by have:=of_decide_eq_false hc;omega)] at h;exact h
theorem Yq {a b:List zg} {top:Int} (ha:St a top) (hb:St b top) (h0:-2≤top) (ht:top≤65535) {κ:List zg×Bool→Prop} (h:κ (lim (zZ a b))):zE a b top κ:=by
 unfold zE
 exact zfy ha hb h0 ht (VU h)
theorem zf8 {a b:List zg} {top:Int} (ha:St a top) (hb:St b top) (h0:-2≤top) (ht:top≤65535) {κ:List zg×Bool→Prop} (h:κ (lim (zZ a (yO b top)))):jo a b top κ:=by
 unfold jo
 exact X6 ha hb h0 ht (VU h)
theorem zfP {a b:List zg} {top:Int} (ha:St a top) (hb:St b top) (h0:-2≤top) (ht:top≤65535) {κ:List zg×Bool→Prop} (h:κ (lim (XK a b))):xJ a b top κ:=by
 unfold xJ
 exact zds ha hb h0 ht (VU h)
theorem zhf {x:zg}:∀ (b:List zg),(b.flatMap (YP x)).length≤b.length
 | []=>by simp
 | y :: b=>by
  have:=zhf (x:=x) b
  have h1:(YP x y).length≤1:=by unfold YP;split <;> simp
  simp only [List.flatMap_cons,List.length_append,List.length_cons]
  omega
theorem ZK {a b:List zg} {ta tb:Int} (ha:St a ta) (hb:St b tb) (h0:0≤ta) (ht:ta≤65535) (h1:0≤tb) (hu:tb≤65535) {κ:List zg→Prop} (h:κ (zZ a b)):xO a b κ:=by
 have la:=UO ha (by omega)
 have lb:=UO hb (by omega)
 have short:∀ k,2 * ((zZ (a.take k) b).length:Int)≤ta+2:=fun k =>
  UO (ZZ ⟨⟨fun s hs=>ha.1.1 s (List.mem_of_mem_take hs),ha.1.2.take⟩,fun s hs=>ha.2 s (List.mem_of_mem_take hs)⟩ hb.1) (by omega)
 unfold xO
 refine zU a.length (fun s=>s.2) (fun k s=>s.2=(k:Int)∧k≤a.length∧s.1=zZ (a.take k) b) (fun k s h=>h.1) (fun k s h=>h.2.1) ?_ ⟨rfl,Nat.zero_le _,by simp [zZ]⟩
 rintro k ⟨xs,t⟩ next ⟨rfl,hk,hx⟩ hn
 simp only at hx
 subst hx
 refine zn (fun hc=>?_) (fun hc=>?_)
 ·have hlt:k<a.length:=by simpa using hc
  have hmem:a[k]∈a:=List.getElem_mem hlt
  have r1:=ha.2 _ hmem
  refine zU b.length (fun s=>s.2) (fun j s=>s.2=(j:Int)∧j≤b.length∧s.1=zZ (a.take k) b++(b.take j).flatMap (YP a[k])) (fun k s h=>h.1) (fun k s h=>h.2.1) ?_ ⟨rfl,Nat.zero_le _,by simp⟩
  rintro j ⟨ys,u⟩ next2 ⟨rfl,hj,hy⟩ hn2
  simp only at hy
  subst hy
  refine zn (fun hd=>?_) (fun hd=>?_)
  ·have hlt2:j<b.length:=by simpa using hd
   have hstep:(b.take (j+1)).flatMap (YP a[k])=(b.take j).flatMap (YP a[k])++YP a[k] b[j]:=by
    rw [List.take_succ_eq_append_getElem hlt2,List.flatMap_append];simp
   have hlen:=zhf (x:=a[k]) (b.take j)
   have:=short k
   simp only [List.length_take] at hlen
   unfold jnW
   refine zq k rfl hlt (zq j rfl hlt2 (zq k rfl hlt (zq j rfl hlt2 (zn (fun he=>?_) (fun he=>?_)))))
   ·refine js (by simp only [List.length_append,List.length_singleton];omega) (zz (by omega) (by omega) (hn2 hlt2 _ ⟨by simp,by omega,?_⟩))
    rw [hstep]
    unfold YP at *
    rw [if_pos (by simpa using he)]
    simp
   ·refine zz (by omega) (by omega) (hn2 hlt2 _ ⟨by simp,by omega,?_⟩)
    rw [hstep]
    have:YP a[k] b[j]=[]:=by unfold YP;rw [if_neg (by simpa using he)]
    rw [this];simp
  ·have hge:b.length≤j:=by simpa using hd
   have e:j=b.length:=by omega
   subst e
   refine zz (by omega) (by omega) (hn hlt _ ⟨by simp,by omega,?_⟩)
   have e2:zZ (a.take k++[a[k]]) b=zZ (a.take k) b++b.flatMap (YP a[k]):=by simp only [zZ,List.flatMap_append,List.flatMap_cons,List.flatMap_nil,List.append_nil]
   show zZ (a.take k) b++(b.take b.length).flatMap (YP a[k])=_
   rw [List.take_succ_eq_append_getElem hlt,e2,List.take_length]
 ·have hge:a.length≤k:=by simpa using hc
  rw [List.take_of_length_le hge];exact h
theorem Vx {a:List zg} {top:Int} (ha:St a top) (h0:0≤top) (ht:top≤65535) {κ:List zg→Prop} (h:κ (yO a top)):XJ a top κ:=by
 have la:=UO ha (by omega)
 have lo:=UO (Yr ha) (by omega)
 unfold XJ
 refine zU a.length (fun s=>s.2.2) (fun k s=>s.2.2=(k:Int)∧k≤a.length∧s.1++Uc (a.drop k) s.2.1 top=yO a top∧0≤s.2.1∧s.2.1≤65536) (fun k s h=>h.1) (fun k s h=>h.2.1) ?_ ⟨rfl,Nat.zero_le _,by simp [yO],by simp,by simp⟩
 rintro k ⟨xs,c,t⟩ next ⟨rfl,hk,hx,hc0,hc1⟩ hn
 simp only at hx hc0 hc1
 have hlen:xs.length≤(yO a top).length:=by rw [← hx];simp
 refine zn (fun hc=>?_) (fun hc=>?_)
 ·have hlt:k<a.length:=by simpa using hc
  have hmem:a[k]∈a:=List.getElem_mem hlt
  have r1:=ha.2 _ hmem
  have r2:=ha.1.1 _ hmem
  rw [List.drop_eq_getElem_cons hlt] at hx
  simp only [Uc] at hx
  unfold jnW
  refine zq k rfl hlt (zn (fun he=>?_) (fun he=>?_))
  ·rw [if_pos (by simpa using he)] at hx
   refine zq k rfl hlt (Xh (by omega) (by omega) (js (by simp only [List.length_singleton];omega) (zq k rfl hlt (zz (by omega) (by omega) (zz (by omega) (by omega) (hn hlt _ ⟨by simp,by omega,?_,by simp only;omega,by simp only;omega⟩))))))
   simpa [List.append_assoc] using hx
  ·rw [if_neg (by simpa using he)] at hx
   refine zq k rfl hlt (zz (by omega) (by omega) (zz (by omega) (by omega) (hn hlt _ ⟨by simp,by omega,?_,by simp only;omega,by simp only;omega⟩)))
   simpa using hx
 ·have hge:a.length≤k:=by simpa using hc
  rw [List.drop_eq_nil_of_le hge] at hx
  simp only [Uc] at hx
  unfold jnW
  refine zn (fun he=>?_) (fun he=>?_)
  ·rw [if_pos (by simpa using he)] at hx
   refine js (by simp only [List.length_singleton];omega) ?_
   rw [hx];exact h
  ·rw [if_neg (by simpa using he),List.append_nil] at hx
   rw [hx];exact h
def Sm (s:zg):Prop:=-1000000000≤s.xLo∧s.xLo≤1000000000∧-1000000000≤s.xHi∧s.xHi≤1000000000
theorem zku {l:List zg} {s:zg} (hl:l.length≤1000000000) (hb:∀ x∈l,Sm x) (hs:Sm s) {κ:List zg→Prop} (h:κ (zcl l s)):UG l s κ:=by
 unfold UG
 refine zU l.length (fun s=>s.2.2.2.2) (fun k (st:Int×Int×List zg×Bool×Int)=>st.2.2.2.2=(k:Int)∧k≤l.length∧zat l s [] false=zat (l.drop k) (zg.mk st.1 st.2.1) st.2.2.1 st.2.2.2.1∧st.2.2.1.length≤2 * k∧Sm (zg.mk st.1 st.2.1)) (fun k s h=>h.1) (fun k s h=>h.2.1) ?_ ⟨rfl,Nat.zero_le _,by simp,by simp,hs⟩
 rintro k ⟨lo,hi,xs,pl,t⟩ next ⟨rfl,hk,hx,hlen,hsm⟩ hn
 simp only at hx hlen hsm
 obtain ⟨m1,m2,m3,m4⟩:=hsm
 simp only at m1 m2 m3 m4
 refine zn (fun hc=>?_) (fun hc=>?_)
 ·have hlt:k<l.length:=by simpa using hc
  obtain ⟨n1,n2,n3,n4⟩:=hb _ (List.getElem_mem hlt)
  rw [List.drop_eq_getElem_cons hlt] at hx
  simp only [zat] at hx
  unfold jnW
  refine zq k rfl hlt (zz (by omega) (by omega) (zn (fun he=>?_) (fun he=>?_)))
  ·rw [if_pos (by simpa using he)] at hx
   exact js (by simp only [List.length_singleton];omega) (zz (by omega) (by omega) (hn hlt _ ⟨by simp,by omega,hx,by simp only [List.length_append,List.length_singleton];omega,m1,m2,m3,m4⟩))
  ·rw [if_neg (by simpa using he)] at hx
   refine zz (by omega) (by omega) (zn (fun hf=>?_) (fun hf=>?_))
   ·rw [if_pos (by simpa using hf)] at hx
    cases pl with
    | false =>
     refine jg (js (by simp only [List.length_singleton];omega) (js (by simp only [List.length_append,List.length_singleton];omega) (zz (by omega) (by omega) (hn hlt _ ⟨by simp,by omega,hx,by simp only [List.length_append,List.length_singleton];omega,m1,m2,m3,m4⟩))))
    | true =>
     refine jC (js (by simp only [List.length_singleton];omega) (zz (by omega) (by omega) (hn hlt _ ⟨by simp,by omega,hx,by simp only [List.length_append,List.length_singleton];omega,m1,m2,m3,m4⟩)))
   ·rw [if_neg (by simpa using hf)] at hx
    exact zz (by omega) (by omega) (hn hlt _ ⟨by simp,by omega,hx,by simp only;omega,by simp only;omega,by simp only;omega,by simp only;omega,by simp only;omega⟩)
 ·have hge:l.length≤k:=by simpa using hc
  rw [List.drop_eq_nil_of_le hge] at hx
  simp only [zat] at hx
  unfold zcl at h
  rw [hx] at h
  unfold jnW
  cases pl with
  | false=>exact jg (js (by simp only [List.length_singleton];omega) (by simpa using h))
  | true=>exact jC (by simpa using h)
end
section
open Go.Lib (decDigits)
def B (l:List UInt8):ByteArray:=ByteArray.mk l.toArray
def dg (c:UInt8):Bool:=decide (48≤c.toNat) && decide (c.toNat≤57)
def val (l:List UInt8):Nat:=l.foldl (fun n c=>10 * n+(c.toNat - 48)) 0
def run:Nat→List UInt8→List UInt8
 | 0,_=>[]
 | _,[]=>[]
 | k+1,c :: l=>if dg c then c :: run k l else []
end
section
theorem ziM (e:UInt8):(0:Int)≤(e.toNat:Int)∧(e.toNat:Int)≤255:=by
 have:=e.toNat_lt
 omega
theorem zko {x y:Int} {κ:Int→Prop} (h1:0≤x) (h2:x<4611686018427387904) (h3:0≤y) (h4:y<4611686018427387904) (h:∀ z,0≤z→z<4611686018427387904→κ z):zlK x y κ:=by
 refine ⟨h1,h2,h3,h4,h _ (by omega) ?_⟩
 have:x.toNat ^^^ y.toNat<2 ^ 62:=Nat.xor_lt_two_pow (by omega) (by omega)
 have e:(2:Nat) ^ 62=4611686018427387904:=by decide
 rw [e] at this
 omega
theorem zde {x y:Int} {κ:Int→Prop} (h1:0≤x) (h2:x≤9223372036854775807) (h3:0<y) (h:∀ z,0≤z→z<y→κ z):zg1 x y κ :=
 zkt h1 h2 h3 (h _ (Int.emod_nonneg _ (by omega)) (Int.emod_lt_of_pos _ h3))
theorem zhe {x y:Int} {κ:Int→Prop} (h1:0≤x) (h2:x≤9223372036854775807) (h3:0<y) (h:∀ z,0≤z→z≤x→κ z):ziK x y κ :=
 zj5 h1 h2 h3 (h _ (Int.ediv_nonneg h1 (by omega)) (Int.ediv_le_self _ h1))
theorem zap {α:Type} {xs:List α} {i:Int} {κ:α→Prop} (h1:0≤i) (h2:i<xs.length) (h:∀ x,x∈xs→κ x):zK xs i κ:=by
 obtain ⟨n,rfl⟩:=Int.eq_ofNat_of_zero_le h1
 have hn:n<xs.length:=by omega
 exact zq n rfl hn (h _ (List.getElem_mem hn))
def RdP (b:List UInt8) (p:Int):Prop:=b.length≤2000∧0≤p∧p≤1000000
theorem Y4 {b:List UInt8} {p n:Int} (hr:RdP b p) {κ:Int×Int→Prop} (h:∀ v,0≤v→(v=0∨v<n)→κ (v,p+1)):jk b p n κ:=by
 obtain ⟨hb,h0,h1⟩:=hr
 unfold jk jnW
 have hz:κ (0,p+1):=h 0 (Int.le_refl _) (.inl rfl)
 refine zz (by omega) (by omega) (zn (fun hc=>?_) (fun hc=>zn (fun hc2=>?_) (fun hc2=>?_)))
 ·simp only [Yx];exact hz
 ·exact hz
 ·simp at hc hc2
  have hpos:0<(b.length:Int):=by
   cases b with
   | nil=>simp at hc2
   | cons x l=>simp
  refine Xh (by omega) (by omega) ?_
  have ep:p+1 - 1=p:=by omega
  rw [ep]
  refine zn (fun hc3=>?_) (fun hc3=>?_)
  ·simp at hc3
   refine zap h0 hc3 (fun e _=>?_)
   have:=ziM e
   exact zde (by omega) (by omega) (by omega) (fun z z1 z2=>h z z1 (.inr z2))
  ·refine zde h0 (by omega) hpos (fun z z1 z2=>zap z1 z2 (fun e _=>?_))
   have he:=ziM e
   refine VI (by omega) (by omega) (VI (by omega) (by omega) (zz (by omega) (by omega) (zde (by omega) (by omega) hpos (fun y y1 y2=>zap y1 y2 (fun d _=>?_)))))
   have hd:=ziM d
   refine VI (by omega) (by omega) (zz (by omega) (by omega) (VI (by omega) (by omega) (zz (by omega) (by omega) (zhe (by omega) (by omega) hpos (fun q q1 q2=>?_)))))
   refine VI (by omega) (by omega) (zz (by omega) (by omega) (zhe (by omega) (by omega) (by omega) (fun r r1 r2=>?_)))
   exact zko (by omega) (by omega) (by omega) (by omega) (fun x x1 x2=>zde x1 (by omega) (by omega) (fun z z1 z2=>h z z1 (.inr z2)))
theorem zme {b:List UInt8} {p n:Int} (hr:RdP b p) (hn:n≤4294967296) {κ:Bool×Int→Prop} (h:∀ c p',p≤p'→p'≤p+1→κ (c,p')):ZC b p n κ:=by
 unfold ZC jnW
 refine zn (fun hc=>Y4 hr (fun v v1 v2=>Xh (by simp at hc;omega) (by simp at hc;omega) (h _ _ (by omega) (by omega)))) (fun hc=>h _ _ (by omega) (by omega))
theorem zia {c:List UInt8} {κ:List UInt8×Int→Prop} (h:∀ b,b.length≤2000→κ (b,0)):YC c κ:=by
 unfold YC jnW
 refine zn (fun hc=>?_) (fun hc=>?_)
 ·simp at hc
  refine ⟨by omega,by omega,by omega,h _ (by simp;omega)⟩
 ·simp at hc
  exact h _ (by omega)
theorem zhb {κ:Bool→Prop} (h:κ true):UH κ:=by
 unfold UH Y8
 refine yV (fun s=>s=0) (fun s=>0) ?_ rfl
 rintro s next rfl hn
 refine zn (fun _=>zq 0 rfl (by simp) ?_) (fun hc=>by simp at hc)
 simp [jnW]
 exact h
end
section
open Go.Lib (decDigits)
def cut (c:UInt8):List UInt8→List UInt8×List UInt8
 | []=>([],[])
 | d :: l=>if d=c then ([],l) else (d :: (cut c l).1,(cut c l).2)
end
section
open Go.Lib (decDigits)
theorem Ux {n lo hi:Int} {κ:Bool→Prop} (h:κ (decide (lo≤n∧n≤hi))):ux n lo hi κ:=by
 unfold ux jnW
 refine zn (fun hc=>?_) (fun hc=>?_)
 ·simp at hc;simpa [hc] using h
 ·simp at hc
  have:decide (lo≤n∧n≤hi)=false:=by simp;omega
  rw [this] at h;exact h
end
section
open Go.Lib (decDigits)
theorem zh9 {x:Int} (h1:-100≤x) (h2:x≤100):w64 x=x:=by
 simp [w64,IntKind.wrap,IntKind.signed,IntKind.bits];omega
theorem RdP.step {b:List UInt8} {p p':Int} {m:Int} (h:RdP b p) (h1:p≤p') (h2:p'≤1000000):RdP b p':=⟨h.1,by have:=h.2.1;omega,h2⟩
end
section
open Go.Lib (decDigits)
def top (f:Int):Int:=if f=0∨f=1 then 65535 else if f=2 then 255 else 7
theorem zay (f:Int):7≤top f∧top f≤65535:=by unfold top;repeat' split;all_goals omega
def nm (f:Int):List UInt8:=if f=0 then [102,114,111,109] else if f=1 then [116,111] else if f=2 then [112,111,114,116] else [112,114,111,116,111]
def TV (t:xj):Prop:=0≤t.xField∧t.xField≤3∧0≤t.xLo∧t.xLo≤t.xHi∧t.xHi≤top t.xField
instance (t:xj):Decidable (TV t):=by unfold TV;infer_instance
def rtx (t:xj):List UInt8:=decDigits t.xLo.toNat++(if t.xHi=t.xLo then [] else 45 :: decDigits t.xHi.toNat)
def btx (t:xj):List UInt8:=nm t.xField++32 :: rtx t
def ttx (t:xj):List UInt8:=if t.xNot then 110 :: 111 :: 116 :: 32 :: btx t else btx t
theorem zdO {f:Int} (h0:0≤f) (h1:f≤3):f=0∨f=1∨f=2∨f=3:=by omega
theorem zj2 {n:Int} {κ:Uq→Prop} (h0:0≤n) (h1:n≤3) (h:∀ e:Uq,e.xName=B (nm n)→e.xTop=top n→κ e):zK zA n κ:=by
 rcases zdO h0 h1 with rfl | rfl | rfl | rfl
 ·exact zq 0 rfl (by decide) (h _ rfl rfl)
 ·exact zq 1 rfl (by decide) (h _ rfl rfl)
 ·exact zq 2 rfl (by decide) (h _ rfl rfl)
 ·exact zq 3 rfl (by decide) (h _ rfl rfl)
theorem xS {n:Int} {κ:Int→Prop} (h0:0≤n) (h1:n≤3) (h:κ (top n)):uz n κ:=by
 unfold uz jnW
 rcases zdO h0 h1 with rfl | rfl | rfl | rfl <;> simpa [top] using h
theorem VX {n:Int} {κ:Int→Prop} (h:κ (if 0≤n∧n≤3 then top n else -1)):zB n κ:=by
 unfold zB jnW
 refine zn (fun hc=>?_) (fun hc=>zn (fun hc2=>?_) (fun hc2=>?_))
 ·simp at hc;rw [if_neg (by omega)] at h;simpa using h
 ·simp at hc hc2;rw [if_neg (by omega)] at h;exact h
 ·simp at hc hc2;rw [if_pos (by omega)] at h
  exact zj2 (by omega) (by omega) (fun e _ he=>by rw [he];exact h)
theorem VE {t:xj} {κ:Bool→Prop} (h:κ (decide (TV t))):ZA t κ:=by
 unfold ZA jnW
 refine Ux (zn (fun hc=>?_) (fun hc=>?_))
 ·simp at hc
  refine Ux (zn (fun hc2=>?_) (fun hc2=>?_))
  ·simp at hc2
   refine xS hc.1 hc.2 ?_
   rw [show decide (t.xHi≤top t.xField)=decide (TV t) from decide_eq_decide.2 ⟨fun hh=>⟨hc.1,hc.2,hc2.1,hc2.2,hh⟩,fun hh=>hh.2.2.2.2⟩]
   exact h
  ·simp at hc2
   rw [decide_eq_false (fun hh:TV t=>by obtain ⟨a1,a2,a3,a4,_⟩:=hh;omega)] at h;exact h
 ·simp at hc
  rw [decide_eq_false (fun hh:TV t=>by obtain ⟨a1,a2,a3,a4,_⟩:=hh;omega)] at h;exact h
theorem zcy {t:xj} {κ:Bool→Prop} (h:κ (decide (TV t))):XU t κ:=by
 unfold XU jnW
 have no:¬ (0≤t.xField∧t.xField<4∧0≤t.xLo∧t.xLo≤t.xHi)→κ false:=fun hn=>by
  rw [decide_eq_false (fun hh:TV t=>by obtain ⟨a1,a2,a3,a4,_⟩:=hh;omega)] at h;exact h
 refine zn (fun hc=>zn (fun hc2=>zn (fun hc3=>zn (fun hc4=>?_) (fun hc4=>no (by simp at hc4;omega))) (fun hc3=>no (by simp at hc3;omega))) (fun hc2=>no (by simp at hc2;omega))) (fun hc=>no (by simp at hc;omega))
 simp at hc hc2 hc3 hc4
 refine VX ?_
 rw [if_pos ⟨hc,by omega⟩]
 rw [show decide (t.xHi≤top t.xField)=decide (TV t) from decide_eq_decide.2 ⟨fun hh=>⟨hc,by omega,hc3,hc4,hh⟩,fun hh=>hh.2.2.2.2⟩]
 exact h
end
section
open Go Go.Proofs
def ZS (a b:List zg):Int×Bool :=
 match zZ a b with
 | []=>(0,false)
 | s :: _=>(s.xLo,true)
theorem zh4 {a b:List zg} (ha:NF a) (hb:NF b) {v:Int} (h1:hv a v) (h2:hv b v) (h3:∀ x,hv a x→hv b x→v≤x):ZS a b=(v,true):=by
 have hm:=zce ha hb
 unfold ZS
 have hv0:=(YO a b v).2 ⟨h1,h2⟩
 have hall:∀ x,hv (zZ a b) x→v≤x:=fun x hx=>by
  obtain ⟨e1,e2⟩:=(YO a b x).1 hx
  exact h3 x e1 e2
 generalize zZ a b=m at hm hv0 hall
 cases m with
 | nil=>exact absurd hv0 (uP v)
 | cons s m =>
  have e1:=hall s.xLo ((xV _ _ _).2 (.inl ⟨Int.le_refl _,hm.1 s (by simp)⟩))
  have e2:=zcn hm hv0
  simp only [Prod.mk.injEq,and_true]
  omega
theorem zgf {a b:List zg} (h:∀ x,hv a x→hv b x→False) (ha:NF a) (hb:NF b):ZS a b=(0,false):=by
 unfold ZS
 have hm:=zce ha hb
 have hall:∀ x,¬ hv (zZ a b) x:=fun x hx=>by
  obtain ⟨e1,e2⟩:=(YO a b x).1 hx
  exact h x e1 e2
 generalize zZ a b=m at hm hall
 cases m with
 | nil=>rfl
 | cons s m=>exact absurd ((xV s m s.xLo).2 (.inl ⟨Int.le_refl _,hm.1 s (by simp)⟩)) (hall _)
theorem zhd {a:List zg} {i:Nat} (h:i<a.length) (x:Int):hv (a.drop i) x↔(a[i].xLo≤x∧x≤a[i].xHi)∨hv (a.drop (i+1)) x:=by
 rw [List.drop_eq_getElem_cons h,xV]
theorem zaD {a:List zg} {i:Nat} (hn:NF a) (h:i<a.length) {x:Int} (hx:hv (a.drop i) x):a[i].xLo≤x:=by
 have:=zbJ i hn
 rw [List.drop_eq_getElem_cons h] at this hx
 exact zcn this hx
theorem Ud {a b:List zg} {ta tb:Int} (ha:St a ta) (hb:St b tb) (h0:0≤ta) (ht:ta≤65535) (h1:0≤tb) (hu:tb≤65535) {κ:Int×Bool→Prop} (h:κ (ZS a b)):uR a b κ:=by
 have la:=UO ha (by omega)
 have lb:=UO hb (by omega)
 unfold uR
 refine yV (fun (s:Int×Int)=>∃ i j:Nat,s.1=i∧s.2=j∧i≤a.length∧j≤b.length∧∀ x,hv a x→hv b x→hv (a.drop i) x∧hv (b.drop j) x) (fun s=>(a.length+b.length - s.1 - s.2).toNat) ?_ ⟨0,0,rfl,rfl,Nat.zero_le _,Nat.zero_le _,fun x q1 q2=>⟨by simpa using q1,by simpa using q2⟩⟩
 rintro ⟨_,_⟩ next ⟨i,j,rfl,rfl,hi,hj,hx⟩ hn
 simp only at hn ⊢
 unfold jnW
 have none:(i=a.length∨j=b.length)→κ (0,false):=fun hh=>by
  rw [zgf (fun x q1 q2=>?_) ha.1 hb.1] at h
  ·exact h
  ·obtain ⟨r1,r2⟩:=hx x q1 q2
   rcases hh with e | e
   ·subst e;rw [List.drop_length] at r1;exact uP x r1
   ·subst e;rw [List.drop_length] at r2;exact uP x r2
 refine zn (fun hc=>?_) (fun hc=>?_)
 rotate_left 1
 ·have:a.length≤i:=by simpa using hc
  exact jC (none (.inl (by omega)))
 have hi2:i<a.length:=by simpa using hc
 refine zn (fun hd=>?_) (fun hd=>?_)
 rotate_left 1
 ·have:b.length≤j:=by simpa using hd
  exact none (.inr (by omega))
 have hj2:j<b.length:=by simpa using hd
 have a1:=ha.1.1 _ (List.getElem_mem hi2)
 have b1:=hb.1.1 _ (List.getElem_mem hj2)
 have ma:hv a a[i].xLo∧hv a a[i].xHi:=U7 ha.1 (List.getElem_mem hi2)
 have mb:hv b b[j].xLo∧hv b b[j].xHi:=U7 hb.1 (List.getElem_mem hj2)
 refine zq i rfl hi2 (zq j rfl hj2 (zq i rfl hi2 (zq j rfl hj2 (zn (fun he=>?_) (fun he=>?_)))))
 ·have he':max a[i].xLo b[j].xLo≤min a[i].xHi b[j].xHi:=by simpa using he
  rw [zh4 ha.1 hb.1 (v:=max a[i].xLo b[j].xLo) ⟨a[i],List.getElem_mem hi2,by omega,by omega⟩ ⟨b[j],List.getElem_mem hj2,by omega,by omega⟩ (fun x q1 q2=>?_)] at h
  ·exact h
  ·obtain ⟨r1,r2⟩:=hx x q1 q2
   have:=zaD ha.1 hi2 r1
   have:=zaD hb.1 hj2 r2
   omega
 ·have he':¬ max a[i].xLo b[j].xLo≤min a[i].xHi b[j].xHi:=by simpa using he
  refine zq i rfl hi2 (zq j rfl hj2 (zn (fun hf=>?_) (fun hf=>?_)))
  ·have hf':a[i].xHi<b[j].xHi:=by simpa using hf
   refine zz (by omega) (by omega) (hn _ ⟨i+1,j,by simp,rfl,by omega,hj,fun x q1 q2=>?_⟩ (by simp only;omega))
   obtain ⟨r1,r2⟩:=hx x q1 q2
   refine ⟨?_,r2⟩
   rcases (zhd hi2 x).1 r1 with e | e
   ·have:=zaD hb.1 hj2 r2;omega
   ·exact e
  ·have hf':¬ a[i].xHi<b[j].xHi:=by simpa using hf
   refine zz (by omega) (by omega) (hn _ ⟨i,j+1,rfl,by simp,hi,by omega,fun x q1 q2=>?_⟩ (by simp only;omega))
   obtain ⟨r1,r2⟩:=hx x q1 q2
   refine ⟨r1,?_⟩
   rcases (zhd hj2 x).1 r2 with e | e
   ·have:=zaD ha.1 hi2 r1;omega
   ·exact e
def B4 (a:za):Prop:=St a.x0 65535∧St a.x1 65535∧St a.x2 255∧St a.x3 7
def F4 (a:za):Prop:=a.x0.length≤40∧a.x1.length≤40∧a.x2.length≤40∧a.x3.length≤40
instance (a:za):Decidable (F4 a):=by unfold F4;infer_instance
def zbI:za:=⟨[],[],[],[]⟩
def xt (a b:za):za:=⟨zZ a.x0 b.x0,zZ a.x1 b.x1,zZ a.x2 b.x2,zZ a.x3 b.x3⟩
theorem zbZ {a b:za} (ha:B4 a) (hb:B4 b):B4 (xt a b):=⟨ZZ ha.1 hb.1.1,ZZ ha.2.1 hb.2.1.1,ZZ ha.2.2.1 hb.2.2.1.1,ZZ ha.2.2.2 hb.2.2.2.1⟩
def em4 (a:za):Bool:=decide (a.x0=[]∨a.x1=[]∨a.x2=[]∨a.x3=[])
def zgW (a:za):za×Bool:=if F4 a then (a,true) else (zbI,false)
def Zq:za:=⟨[⟨0,65535⟩],[⟨0,65535⟩],[⟨0,255⟩],[⟨0,7⟩]⟩
theorem zbp:B4 Zq:=by refine ⟨?_,?_,?_,?_⟩ <;> exact ⟨UV (by decide),fun s hs=>by simp only [Zq,List.mem_singleton] at hs;subst hs;decide⟩
theorem zdJ {a:za} {κ:Bool→Prop} (h:κ (em4 a)):yf a κ:=by
 obtain ⟨x0,x1,x2,x3⟩:=a
 simp only [em4] at h
 unfold yf
 refine ⟨5,?_⟩
 refine jg (zq 0 rfl (by simp) (zn (fun e=>?_) (fun e=>zz (by decide) (by decide) ?_)))
 ·have:x0=[]:=by simpa using e
  subst this;simpa using h
 have e0:x0≠[]:=by simpa using e
 refine jg (zq 1 rfl (by simp) (zn (fun e=>?_) (fun e=>zz (by decide) (by decide) ?_)))
 ·have:x1=[]:=by simpa using e
  subst this;simpa using h
 have e1:x1≠[]:=by simpa using e
 refine jg (zq 2 rfl (by simp) (zn (fun e=>?_) (fun e=>zz (by decide) (by decide) ?_)))
 ·have:x2=[]:=by simpa using e
  subst this;simpa using h
 have e2:x2≠[]:=by simpa using e
 refine jg (zq 3 rfl (by simp) (zn (fun e=>?_) (fun e=>zz (by decide) (by decide) ?_)))
 ·have:x3=[]:=by simpa using e
  subst this;simpa using h
 have e3:x3≠[]:=by simpa using e
 refine jC ?_
 simpa [e0,e1,e2,e3] using h
theorem zl7:top 0=65535:=rfl
theorem zma:top 1=65535:=rfl
theorem zl4:top 2=255:=rfl
theorem zlW:top 3=7:=rfl
theorem Zp {n:Int} {κ:Int→Prop} (h0:0≤n) (h1:n≤3) (h:κ (top n)):zB n κ:=VX (by rw [if_pos ⟨h0,h1⟩];exact h)
theorem zhA {a b:za} (ha:B4 a) (hb:B4 b) {κ:za×Bool→Prop} (h:κ (zgW (xt a b))):yr a b κ:=by
 obtain ⟨a0,a1,a2,a3⟩:=a
 obtain ⟨b0,b1,b2,b3⟩:=b
 obtain ⟨p0,p1,p2,p3⟩:=ha
 obtain ⟨q0,q1,q2,q3⟩:=hb
 simp only at p0 p1 p2 p3 q0 q1 q2 q3
 have hT:(zZ a0 b0).length≤40→(zZ a1 b1).length≤40→(zZ a2 b2).length≤40→(zZ a3 b3).length≤40→κ (⟨zZ a0 b0,zZ a1 b1,zZ a2 b2,zZ a3 b3⟩,true):=fun e0 e1 e2 e3=>by
  have:zgW (xt ⟨a0,a1,a2,a3⟩ ⟨b0,b1,b2,b3⟩)=(xt ⟨a0,a1,a2,a3⟩ ⟨b0,b1,b2,b3⟩,true):=if_pos ⟨e0,e1,e2,e3⟩
  rw [this] at h;exact h
 have hF:¬ ((zZ a0 b0).length≤40∧(zZ a1 b1).length≤40∧(zZ a2 b2).length≤40∧(zZ a3 b3).length≤40)→κ (zbI,false):=fun e=>by
  have:zgW (xt ⟨a0,a1,a2,a3⟩ ⟨b0,b1,b2,b3⟩)=(zbI,false):=if_neg e
  rw [this] at h;exact h
 clear h
 unfold yr
 refine ⟨5,?_⟩
 refine jg ?_
 unfold jnW
 refine zq 0 rfl (by simp) (zq 0 rfl (by simp) (Zp (n:=(0:Int)) (by decide) (by decide) (Yq (top:=top 0) p0 q0 (by decide) (by decide) ?_)))
 unfold lim
 by_cases c0:40<(zZ a0 b0).length
 ·simp only [List.getElem_cons_zero,c0,if_true]
  exact jg (hF (by omega))
 simp only [List.getElem_cons_zero,c0,if_false]
 refine jC (zq 0 rfl (by simp) (zz (by decide) (by decide) ?_))
 refine jg ?_
 refine zq 1 rfl (by simp) (zq 1 rfl (by simp) (Zp (n:=(1:Int)) (by decide) (by decide) (Yq (top:=top 1) p1 q1 (by decide) (by decide) ?_)))
 unfold lim
 by_cases c1:40<(zZ a1 b1).length
 ·simp only [List.getElem_cons_zero,List.getElem_cons_succ,c1,if_true]
  exact jg (hF (by omega))
 simp only [List.getElem_cons_zero,List.getElem_cons_succ,c1,if_false]
 refine jC (zq 1 rfl (by simp) (zz (by decide) (by decide) ?_))
 refine jg ?_
 refine zq 2 rfl (by simp) (zq 2 rfl (by simp) (Zp (n:=(2:Int)) (by decide) (by decide) (Yq (top:=top 2) p2 q2 (by decide) (by decide) ?_)))
 unfold lim
 by_cases c2:40<(zZ a2 b2).length
 ·simp only [List.getElem_cons_zero,List.getElem_cons_succ,c2,if_true]
  exact jg (hF (by omega))
 simp only [List.getElem_cons_zero,List.getElem_cons_succ,c2,if_false]
 refine jC (zq 2 rfl (by simp) (zz (by decide) (by decide) ?_))
 refine jg ?_
 refine zq 3 rfl (by simp) (zq 3 rfl (by simp) (Zp (n:=(3:Int)) (by decide) (by decide) (Yq (top:=top 3) p3 q3 (by decide) (by decide) ?_)))
 unfold lim
 by_cases c3:40<(zZ a3 b3).length
 ·simp only [List.getElem_cons_zero,List.getElem_cons_succ,c3,if_true]
  exact jg (hF (by omega))
 simp only [List.getElem_cons_zero,List.getElem_cons_succ,c3,if_false]
 refine jC (zq 3 rfl (by simp) (zz (by decide) (by decide) ?_))
 refine jC ?_
 exact ⟨_,_,_,_,rfl,hT (by omega) (by omega) (by omega) (by omega)⟩
end
section
open Go.Lib (decDigits)
def zlV (r:List UInt8):Prop:=∀ c m,r=c :: m→c=44
theorem zlV.dg {r:List UInt8} (h:zlV r):∀ c m,r=c :: m→dg c=false:=fun c m e=>by rw [h c m e];decide
end
section
open Go.Lib (decDigits)
def aw (a:Int):List UInt8:=if a=1 then [97,99,99,101,112,116] else if a=2 then [100,114,111,112] else if a=3 then [99,97,108,108] else if a=4 then [114,101,116,117,114,110] else [110,111,110,101]
def TsV (ts:List xj):Prop:=(∀ t,t∈ts→TV t)∧ts.length≤6
instance (ts:List xj):Decidable (TsV ts):=by unfold TsV;infer_instance
def HV (a c:Int):Prop:=1≤a∧a≤5∧(a=3→0≤c∧c≤4)∧(a≠3→c=0)
instance (a c:Int):Decidable (HV a c):=by unfold HV;infer_instance
def RV (r:zS):Prop:=TsV r.xTests∧HV r.xAction r.xChain
instance (r:zS):Decidable (RV r):=by unfold RV;infer_instance
def hd (a c:Int):List UInt8:=aw a++(if a=3 then 32 :: decDigits c.toNat else [])
def tl (ts:List xj):List UInt8:=ts.flatMap (fun t=>44 :: 32 :: ttx t)
theorem U4 {ts:List xj} {κ:Bool→Prop} (hl:ts.length≤4294967296) (h:κ (decide (TsV ts))):Zb ts κ:=by
 unfold Zb
 refine zU ts.length (fun s=>s) (fun k s=>s=(k:Int)∧k≤ts.length∧∀ t,t∈ts.take k→TV t) (fun k s h=>h.1) (fun k s h=>h.2.1) ?_ ⟨rfl,Nat.zero_le _,by simp⟩
 rintro k _ next ⟨rfl,hk,he⟩ hn
 refine zn (fun hc=>?_) (fun hc=>?_)
 ·have hlt:k<ts.length:=by simpa using hc
  refine zq k rfl hlt (VE (zn (fun hc2=>?_) (fun hc2=>?_)))
  ·simp at hc2
   rw [decide_eq_false (fun hh:TsV ts=>hc2 (hh.1 _ (List.getElem_mem hlt)))] at h;exact h
  ·simp at hc2
   refine zz (by omega) (by omega) (hn hlt _ ⟨by omega,by omega,fun t ht=>?_⟩)
   rw [List.take_succ_eq_append_getElem hlt] at ht
   rcases List.mem_append.1 ht with ht | ht
   ·exact he t ht
   ·rw [List.mem_singleton] at ht;subst ht;exact hc2
 ·have hge:ts.length≤k:=by simpa using hc
  rw [List.take_of_length_le hge] at he
  rw [show decide ((ts.length:Int)≤6)=decide (TsV ts) from decide_eq_decide.2 ⟨fun hh=>⟨he,by omega⟩,fun hh=>by have:=hh.2;omega⟩]
  exact h
theorem zbW {ts:List xj} {κ:Bool→Prop} (hl:ts.length≤4294967296) (h:κ (decide (TsV ts))):Xs ts κ:=by
 unfold Xs
 refine zn (fun hc=>?_) (fun hc=>?_)
 ·rw [decide_eq_false (fun hh:TsV ts=>by have:=hh.2;simp at hc;omega)] at h;exact h
 simp at hc
 refine zU ts.length (fun s=>s) (fun k s=>s=(k:Int)∧k≤ts.length∧∀ t,t∈ts.take k→TV t) (fun k s h=>h.1) (fun k s h=>h.2.1) ?_ ⟨rfl,Nat.zero_le _,by simp⟩
 rintro k _ next ⟨rfl,hk,he⟩ hn
 refine zn (fun hc=>?_) (fun hc=>?_)
 ·have hlt:k<ts.length:=by simpa using hc
  refine zq k rfl hlt (zcy (zn (fun hc2=>?_) (fun hc2=>?_)))
  ·simp at hc2
   rw [decide_eq_false (fun hh:TsV ts=>hc2 (hh.1 _ (List.getElem_mem hlt)))] at h;exact h
  ·simp at hc2
   refine zz (by omega) (by omega) (hn hlt _ ⟨by omega,by omega,fun t ht=>?_⟩)
   rw [List.take_succ_eq_append_getElem hlt] at ht
   rcases List.mem_append.1 ht with ht | ht
   ·exact he t ht
   ·rw [List.mem_singleton] at ht;subst ht;exact hc2
 ·have hge:ts.length≤k:=by simpa using hc
  rw [List.take_of_length_le hge] at he
  rw [show decide (TsV ts)=true from decide_eq_true ⟨he,by omega⟩] at h;exact h
theorem zcR {r:zS} {κ:Bool→Prop} (hl:r.xTests.length≤4294967296) (h:κ (decide (RV r))):XO r κ:=by
 have no:¬ RV r→κ false:=fun hn=>by rw [decide_eq_false hn] at h;exact h
 unfold XO jnW
 refine U4 hl (zn (fun h1=>?_) (fun h1=>no (fun hh=>by simp [hh.1] at h1)))
 simp at h1
 refine Ux (zn (fun h2=>?_) (fun h2=>no (fun hh=>by simp [hh.2.1,hh.2.2.1] at h2)))
 simp at h2
 refine zn (fun h3=>?_) (fun h3=>?_)
 ·simp at h3
  refine Ux (zn (fun h4=>?_) (fun h4=>?_))
  ·simp at h4
   rw [show decide (RV r)=true from decide_eq_true ⟨h1,h2.1,h2.2,fun _=>h4,fun e=>absurd h3 e⟩] at h;exact h
  ·simp at h4
   simp only [h3,decide_true,Bool.not_true,zcV]
   exact no (fun hh=>by have:=hh.2.2.2.1 h3;omega)
 ·simp at h3
  simp only [h3,decide_false,Bool.not_false,Yx]
  rw [show decide (r.xChain=0)=decide (RV r) from decide_eq_decide.2 ⟨fun hh=>⟨h1,h2.1,h2.2,fun e=>absurd e h3,fun _=>hh⟩,fun hh=>hh.2.2.2.2 h3⟩]
  exact h
theorem zcQ {r:zS} {κ:Bool→Prop} (hl:r.xTests.length≤4294967296) (h:κ (decide (RV r))):XR r κ:=by
 have no:¬ RV r→κ false:=fun hn=>by rw [decide_eq_false hn] at h;exact h
 unfold XR jnW
 refine zbW hl (zn (fun h1=>no (fun hh=>by simp [hh.1] at h1)) (fun h1=>?_))
 simp at h1
 refine zn (fun h3=>?_) (fun h3=>?_)
 ·simp at h3
  refine zn (fun h4=>?_) (fun h4=>no (fun hh=>by have:=hh.2.2.2.1 h3;simp at h4;omega))
  simp at h4
  rw [show decide (r.xChain<5)=decide (RV r) from decide_eq_decide.2 ⟨fun hh=>⟨h1,by omega,by omega,fun _=>⟨h4,by omega⟩,fun e=>absurd h3 e⟩,fun hh=>by have:=hh.2.2.2.1 h3;omega⟩]
  exact h
 ·simp at h3
  have yes:1≤r.xAction→r.xAction≤5→κ (decide (r.xChain=0)):=fun a1 a2=>by
   rw [show decide (r.xChain=0)=decide (RV r) from decide_eq_decide.2 ⟨fun hh=>⟨h1,a1,a2,fun e=>absurd e h3,fun _=>hh⟩,fun hh=>hh.2.2.2.2 h3⟩]
   exact h
  by_cases e1:r.xAction=1
  ·simp only [e1,decide_true,Yx];exact yes (by omega) (by omega)
  by_cases e2:r.xAction=2
  ·simp only [e2,decide_true,Yx];exact zn (fun e=>by simp at e) (fun _=>yes (by omega) (by omega))
  by_cases e4:r.xAction=4
  ·simp only [e4,decide_true,Yx]
   exact zn (fun e=>by simp at e) (fun _=>zn (fun e=>by simp at e) (fun _=>yes (by omega) (by omega)))
  by_cases e5:r.xAction=5
  ·simp only [e5,decide_true,Yx]
   exact zn (fun e=>by simp at e) (fun _=>zn (fun e=>by simp at e) (fun _=>zn (fun e=>by simp at e) (fun _=>yes (by omega) (by omega))))
  simp only [e1,e2,e4,e5,decide_false,zcV]
  exact no (fun hh=>by have:=hh.2.1;have:=hh.2.2.1;omega)
end
section
def Ca (cs:List (List zS)) (i j:Nat):Prop:=∃ c,cs[i]?=some c∧∃ r,r∈c∧r.xAction=3∧r.xChain=(j:Int)
def Sf (cs:List (List zS)) (i:Nat):Prop:=Acc (fun j i=>Ca cs i j) i
theorem zhM {cs:List (List zS)} {i:Nat} (h:∀ j,Ca cs i j→Sf cs j):Sf cs i:=Acc.intro _ h
inductive Wy (cs:List (List zS)):Nat→Nat→Prop
 | one {i j:Nat}:Ca cs i j→Wy cs i j
 | more {i j k:Nat}:Wy cs i j→Ca cs j k→Wy cs i k
theorem zje {cs:List (List zS)} {i k:Nat} (w:Wy cs i k):∃ j,Ca cs i j∧(j=k∨Wy cs j k):=by
 induction w with
 | one h=>exact ⟨_,h,.inl rfl⟩
 | more _ h ih =>
  obtain ⟨j,h1,h2⟩:=ih
  rcases h2 with rfl | h2
  ·exact ⟨_,h1,.inr (.one h)⟩
  ·exact ⟨_,h1,.inr (.more h2 h)⟩
theorem zhT {cs:List (List zS)} {i:Nat} (hs:Sf cs i):¬ Wy cs i i:=by
 induction hs with
 | intro x _ ih =>
  intro w
  obtain ⟨j,h1,h2⟩:=zje w
  rcases h2 with rfl | h2
  ·exact ih _ h1 w
  ·exact ih j h1 (.more h2 h1)
def Tg (cs:List (List zS)):Prop:=cs.length≤5∧∀ c,c∈cs→(c.length≤8∧∀ r,r∈c→RV r∧r.xChain<cs.length)
def Tw (cs:List (List zS)):Prop:=cs.length≤5∧∀ c,c∈cs→(c.length≤8∧∀ r,r∈c→RV r)
theorem Tg.w {cs:List (List zS)} (h:Tg cs):Tw cs:=⟨h.1,fun c hc=>⟨(h.2 c hc).1,fun r hr=>((h.2 c hc).2 r hr).1⟩⟩
theorem zlM {cs:List (List zS)} {j:Nat} (h:cs.length≤j):Sf cs j:=zhM (fun i ⟨c,h1,_⟩=>by have:=(List.getElem?_eq_some_iff.1 h1).1;omega)
theorem zeY {rules:List zS} {κ:List Int→Prop} (hl:rules.length≤8) (hv:∀ r,r∈rules→RV r) (h:∀ ys:List Int,ys.length≤5→(∀ x,x∈ys↔∃ r,r∈rules∧r.xAction=3∧r.xChain=x)→κ ys):Xw rules κ:=by
 unfold Xw
 refine zU rules.length (fun s=>s.2) (fun k s=>s.2=(k:Int)∧k≤rules.length∧s.1.length=5∧∀ i:Nat,i<5→(s.1[i]?=some true↔∃ r,r∈rules.take k∧r.xAction=3∧r.xChain=(i:Int))) (fun k s h=>h.1) (fun k s h=>h.2.1) ?_ ⟨rfl,Nat.zero_le _,rfl,fun i hi=>?_⟩
 ·rintro k ⟨xs,_⟩ next ⟨rfl,hk,hx,he⟩ hn
  simp only at hx he
  refine zn (fun hc=>?_) (fun hc=>?_)
  ·have hlt:k<rules.length:=by simpa using hc
   have hrv:=hv _ (List.getElem_mem hlt)
   have htk:∀ r,r∈rules.take (k+1)↔r∈rules.take k∨r=rules[k]:=fun r=>by
    rw [List.take_succ_eq_append_getElem hlt,List.mem_append,List.mem_singleton]
   unfold jnW
   refine zq k rfl hlt (zn (fun h3=>?_) (fun h3=>?_))
   ·simp at h3
    have hch:=hrv.2.2.2.1 h3
    obtain ⟨m,hm⟩:=Int.eq_ofNat_of_zero_le hch.1
    refine zap hch.1 (by rw [hx];omega) (fun _ _=>zz (by omega) (by omega) (hn hlt _ ⟨by simp,by omega,by simpa using hx,fun i hi=>?_⟩))
    simp only [htk]
    rw [hm,Int.toNat_natCast]
    by_cases e:i=m
    ·subst e
     simp only [List.getElem?_set_self (show i<xs.length by omega),true_iff]
     exact ⟨_,.inr rfl,h3,hm⟩
    ·rw [List.getElem?_set_ne (by omega),he i hi]
     constructor
     ·rintro ⟨r,h1,h2⟩;exact ⟨r,.inl h1,h2⟩
     ·rintro ⟨r,h1 | rfl,h2,h4⟩
      ·exact ⟨r,h1,h2,h4⟩
      ·omega
   ·simp at h3
    refine zz (by omega) (by omega) (hn hlt _ ⟨by simp,by omega,hx,fun i hi=>?_⟩)
    simp only [htk]
    rw [he i hi]
    constructor
    ·rintro ⟨r,h1,h2⟩;exact ⟨r,.inl h1,h2⟩
    ·rintro ⟨r,h1 | rfl,h2,h4⟩
     ·exact ⟨r,h1,h2,h4⟩
     ·exact absurd h2 h3
  ·have hge:rules.length≤k:=by simpa using hc
   rw [List.take_of_length_le hge] at he
   obtain ⟨e0,e1,e2,e3,e4,rfl⟩:∃ a b c d e,xs=[a,b,c,d,e]:=by
    match xs,hx with
    | [a,b,c,d,e],_=>exact ⟨a,b,c,d,e,rfl⟩
   refine ⟨e0,e1,e2,e3,e4,rfl,?_⟩
   refine zU 5 (fun s=>s.2) (fun j s=>s.2=(j:Int)∧j≤5∧s.1.length≤j∧∀ x,x∈s.1↔∃ i:Nat,i<j∧x=(i:Int)∧[e0,e1,e2,e3,e4][i]?=some true) (fun j s h=>h.1) (fun j s h=>h.2.1) ?_ ⟨rfl,Nat.zero_le _,by simp,by simp⟩
   rintro j ⟨ys,_⟩ next2 ⟨rfl,hj,hyl,hy⟩ hn2
   simp only at hyl hy
   refine zn (fun hc2=>?_) (fun hc2=>?_)
   ·have hj5:j<5:=by simp at hc2;omega
    have hjl:j<[e0,e1,e2,e3,e4].length:=by simpa using hj5
    unfold jnW
    refine zq j rfl hjl (zn (fun h3=>?_) (fun h3=>?_))
    ·refine js (by simp;omega) (zz (by omega) (by omega) (hn2 hj5 _ ⟨by simp,by omega,by simp;omega,fun x=>?_⟩))
     simp only [List.mem_append,List.mem_singleton,hy]
     constructor
     ·rintro (⟨i,h1,h2,h4⟩ | rfl)
      ·exact ⟨i,by omega,h2,h4⟩
      ·exact ⟨j,by omega,rfl,by rw [List.getElem?_eq_getElem hjl,h3]⟩
     ·rintro ⟨i,h1,h2,h4⟩
      by_cases e:i=j
      ·subst e;exact .inr h2
      ·exact .inl ⟨i,by omega,h2,h4⟩
    ·refine zz (by omega) (by omega) (hn2 hj5 _ ⟨by simp,by omega,by simp only;omega,fun x=>?_⟩)
     simp only [hy]
     constructor
     ·rintro ⟨i,h1,h2,h4⟩;exact ⟨i,by omega,h2,h4⟩
     ·rintro ⟨i,h1,h2,h4⟩
      by_cases e:i=j
      ·subst e;rw [List.getElem?_eq_getElem hjl,h3] at h4;simp at h4
      ·exact ⟨i,by omega,h2,h4⟩
   ·have hj5:j=5:=by simp at hc2;omega
    subst hj5
    refine h ys hyl (fun x=>?_)
    rw [hy]
    constructor
    ·rintro ⟨i,h1,rfl,h4⟩;exact (he i h1).1 h4
    ·rintro ⟨r,h1,h2,rfl⟩
     have hch:=(hv r h1).2.2.2.1 h2
     obtain ⟨m,hm⟩:=Int.eq_ofNat_of_zero_le hch.1
     exact ⟨m,by omega,hm,(he m (by omega)).2 ⟨r,h1,h2,hm⟩⟩
 ·constructor
  ·intro hh
   have:i=0∨i=1∨i=2∨i=3∨i=4:=by omega
   rcases this with rfl | rfl | rfl | rfl | rfl <;> simp at hh
  ·rintro ⟨r,h1,_⟩;simp at h1
def Co (cols:List Int):Prop:=cols.length=5∧∀ x,x∈cols→x=0∨x=1∨x=2
theorem ziY {cols:List Int} {i:Nat} {v:Int} (h:Co cols) (hv:v=0∨v=1∨v=2):Co (cols.set i v):=⟨by rw [List.length_set];exact h.1,fun x hx=>by
 rcases List.mem_or_eq_of_mem_set hx with hx | rfl
 ·exact h.2 x hx
 ·exact hv⟩
structure Vi (cs:List (List zS)) (c:Nat) (cols:List Int) (ok:Bool) (cols':List Int):Prop where
 co:Co cols'
 black:∀ i:Nat,cols[i]?=some 2→cols'[i]?=some 2
 grey:∀ i:Nat,cols'[i]?=some 1↔cols[i]?=some 1
 white:cols'.count 0≤cols.count 0
 good:ok=true→(∀ i:Nat,cols[i]?=some 2→Sf cs i)→(∀ i:Nat,cols'[i]?=some 2→Sf cs i)∧(c<cs.length→cols'[c]?=some 2)
 bad:ok=false→(∀ g:Nat,cols[g]?=some 1→Wy cs g c)→∃ i,i<cs.length∧¬ Sf cs i
theorem zh1 {cols:List Int} (h:cols.length=5):cols.count 0≤5:=by have:=List.count_le_length (a:=(0:Int)) (l:=cols);omega
theorem zgj {cs:List (List zS)} (ht:Tw cs):∀ (n c:Nat) (cols:List Int) (κ:Bool×List Int→Prop),Co cols→cols.count 0<n →
  (∀ ok cols',Vi cs c cols ok cols'→κ (ok,cols'))→uZ n cs (c:Int) cols κ
 | 0,c,cols,κ,hco,hw,h=>by omega
 | n+1,c,cols,κ,hco,hw,h=>by
  have hn5:=ht.1
  show Xi (uZ n) cs (c:Int) cols κ
  unfold Xi
  refine zn (fun hx=>h _ _ ⟨hco,fun i hi=>hi,fun i=>Iff.rfl,Nat.le_refl _,fun _ hb=>⟨hb,fun hlt=>by simp at hx;omega⟩,fun e=>by cases e⟩) (fun hx=>?_)
  have hc:c<cs.length:=by simp at hx;omega
  have hcl:c<cols.length:=by rw [hco.1];omega
  refine zq c rfl hcl (zn (fun h1=>?_) (fun h1=>zn (fun h2=>?_) (fun h2=>?_)))
  ·have e1:cols[c]?=some 1:=by rw [List.getElem?_eq_getElem hcl];simpa using h1
   exact h _ _ ⟨hco,fun i hi=>hi,fun i=>Iff.rfl,Nat.le_refl _,fun e=>(by cases e),fun _ hg=>⟨c,hc,fun hs=>zhT hs (hg c e1)⟩⟩
  ·have e2:cols[c]?=some 2:=by rw [List.getElem?_eq_getElem hcl];simpa using h2
   exact h _ _ ⟨hco,fun i hi=>hi,fun i=>Iff.rfl,Nat.le_refl _,fun _ hb=>⟨hb,fun _=>e2⟩,fun e=>by cases e⟩
  ·have e0:cols[c]=0:=by
    have:=hco.2 _ (List.getElem_mem hcl)
    simp at h1 h2;omega
   have e0':cols[c]?=some 0:=by rw [List.getElem?_eq_getElem hcl,e0]
   have hcs:cs[c]?=some cs[c]:=List.getElem?_eq_getElem hc
   have hch:=ht.2 _ (List.getElem_mem hc)
   refine zq c rfl hcl (zq c rfl hc (zeY hch.1 hch.2 (fun ys hyl hys=>?_)))
   have hca:∀ j:Nat,Ca cs c j↔(j:Int)∈ys:=fun j=>by
    rw [hys]
    constructor
    ·rintro ⟨c',h1,r,h2,h3⟩
     rw [hcs] at h1;cases h1
     exact ⟨r,h2,h3⟩
    ·rintro ⟨r,h2,h3⟩;exact ⟨_,hcs,r,h2,h3⟩
   have hcount:(cols.set c 1).count 0+1=cols.count 0:=by
    rw [List.count_set hcl]
    have:0<cols.count 0:=List.count_pos_iff.2 (by rw [← e0];exact List.getElem_mem hcl)
    simp [e0];omega
   have set1:∀ i:Nat,(cols.set c 1)[i]?=if i=c then some 1 else cols[i]?:=fun i=>by
    by_cases e:i=c
    ·subst e;simp [hcl]
    ·rw [List.getElem?_set_ne (by omega),if_neg e]
   refine zU ys.length (fun s=>s.2.2) (fun k s=>s.2.2=(k:Int)∧k≤ys.length∧Co s.1∧(∀ i:Nat,cols[i]?=some 2→s.1[i]?=some 2)∧(∀ i:Nat,s.1[i]?=some 1↔(cols.set c 1)[i]?=some 1)∧s.1.count 0≤(cols.set c 1).count 0 ∧
    (s.2.1=true→(∀ i:Nat,cols[i]?=some 2→Sf cs i)→(∀ i:Nat,s.1[i]?=some 2→Sf cs i)∧∀ j:Nat,(j:Int)∈ys.take k→j<cs.length→s.1[j]?=some 2) ∧
    (s.2.1=false→(∀ g:Nat,cols[g]?=some 1→Wy cs g c)→∃ i,i<cs.length∧¬ Sf cs i)) (fun k s h=>h.1) (fun k s h=>h.2.1) ?_
    ⟨rfl,Nat.zero_le _,ziY hco (by simp),fun i hi=>?_,fun i=>Iff.rfl,Nat.le_refl _,fun _ hb=>⟨fun i hi=>?_,by simp⟩,fun e=>by cases e⟩
   ·rintro k ⟨X,ok,_⟩ next ⟨rfl,hk,xco,xb,xg,xw,xgood,xbad⟩ hnx
    simp only at xco xb xg xw xgood xbad
    refine zn (fun hlt=>?_) (fun hlt=>?_)
    ·have hlt:k<ys.length:=by simpa using hlt
     obtain ⟨r,hr,hr3,hrc⟩:=(hys ys[k]).1 (List.getElem_mem hlt)
     have hrv:=hch.2 r hr
     have hcc:=hrv.2.2.2.1 hr3
     obtain ⟨j,hj⟩:=Int.eq_ofNat_of_zero_le hcc.1
     have ej:ys[k]=(j:Int):=by omega
     have hcj:Ca cs c j:=⟨_,hcs,r,hr,hr3,hj⟩
     unfold jnW
     refine zq k rfl hlt ?_
     rw [ej]
     refine zgj ht n j X _ xco (by omega) (fun ok' X' v=>?_)
     have fin:∀ o:Bool,(o=true→ok=true∧ok'=true)→(o=false→ok=false∨ok'=false)→jA (k:Int) 1 (fun t93=>next (X',o,t93)):=by
      intro o ho1 ho2
      refine zz (by omega) (by omega) (hnx hlt _ ⟨by simp,by omega,v.co,fun i hi=>v.black i (xb i hi),fun i=>(v.grey i).trans (xg i),Nat.le_trans v.white xw,fun e hb=>?_,fun e hg=>?_⟩)
      ·obtain ⟨g1,g2⟩:=ho1 e
       obtain ⟨q1,q2⟩:=xgood g1 hb
       obtain ⟨q3,q4⟩:=v.good g2 q1
       refine ⟨q3,fun i hi hil=>?_⟩
       rw [List.take_succ_eq_append_getElem hlt,List.mem_append,List.mem_singleton] at hi
       rcases hi with hi | hi
       ·exact v.black i (q2 i hi hil)
       ·have:i=j:=by omega
        subst this;exact q4 hil
      ·rcases ho2 e with e1 | e1
       ·exact xbad e1 hg
       ·refine v.bad e1 (fun g hgx=>?_)
        rw [xg,set1] at hgx
        by_cases e2:g=c
        ·subst e2;exact .one hcj
        ·rw [if_neg e2] at hgx;exact .more (hg g hgx) hcj
     refine zn (fun e=>fin false (fun e=>by cases e) (fun _=>.inr (by simpa using e))) (fun e=>fin ok (fun e1=>⟨e1,by simpa using e⟩) (fun e1=>.inl e1))
    ·have hge:ys.length≤k:=by simpa using hlt
     rw [List.take_of_length_le hge] at xgood
     have hxl:c<X.length:=by rw [xco.1];omega
     have set2:∀ i:Nat,(X.set c 2)[i]?=if i=c then some 2 else X[i]?:=fun i=>by
      by_cases e:i=c
      ·subst e;simp [hxl]
      ·rw [List.getElem?_set_ne (by omega),if_neg e]
     have xc1:X[c]?=some 1:=by rw [xg,set1,if_pos rfl]
     refine zq c rfl hxl ?_
     rw [Int.toNat_natCast]
     refine h _ _ ⟨ziY xco (by simp),fun i hi=>?_,fun i=>?_,?_,fun e hb=>?_,fun e hg=>xbad e hg⟩
     ·rw [set2];split
      ·rfl
      ·exact xb i hi
     ·rw [set2]
      by_cases e:i=c
      ·subst e;rw [if_pos rfl,e0'];simp
      ·rw [if_neg e,xg,set1,if_neg e]
     ·rw [List.count_set hxl]
      have:X[c]=1:=by rw [List.getElem?_eq_getElem hxl] at xc1;exact Option.some.inj xc1
      simp [this];omega
     ·obtain ⟨q1,q2⟩:=xgood e hb
      have sc:Sf cs c:=zhM (fun j hj=>by
       by_cases hjl:j<cs.length
       ·exact q1 j (q2 j ((hca j).1 hj) hjl)
       ·exact zlM (by omega))
      refine ⟨fun i hi=>?_,fun _=>by rw [set2,if_pos rfl]⟩
      rw [set2] at hi
      by_cases e:i=c
      ·subst e;exact sc
      ·rw [if_neg e] at hi;exact q1 i hi
   ·show (cols.set c 1)[i]?=some 2
    rw [set1]
    by_cases e:i=c
    ·subst e;rw [e0'] at hi;simp at hi
    ·rw [if_neg e];exact hi
   ·change (cols.set c 1)[i]?=some 2 at hi
    rw [set1] at hi
    by_cases e:i=c
    ·subst e;simp at hi
    ·rw [if_neg e] at hi;exact hb i hi
theorem zih {cs:List (List zS)} {κ:Bool→Prop} (ht:Tw cs) (h1:(∀ i,i<cs.length→Sf cs i)→κ true) (h2:(¬ ∀ i,i<cs.length→Sf cs i)→κ false):YM cs κ:=by
 unfold YM
 have hn5:=ht.1
 refine zU cs.length (fun s=>s.2) (fun k s=>s.2=(k:Int)∧k≤cs.length∧Co s.1∧(∀ i:Nat,s.1[i]?≠some 1)∧(∀ i:Nat,s.1[i]?=some 2→Sf cs i)∧(∀ i:Nat,i<k→s.1[i]?=some 2)) (fun k s h=>h.1) (fun k s h=>h.2.1) ?_ ⟨rfl,Nat.zero_le _,⟨rfl,by simp⟩,fun i=>?_,fun i hi=>?_,fun i hi=>by omega⟩
 ·rintro k ⟨X,_⟩ next ⟨rfl,hk,xco,xg,xs,xk⟩ hn
  simp only at xco xg xs xk
  refine zn (fun hc=>?_) (fun hc=>?_)
  ·have hlt:k<cs.length:=by simpa using hc
   refine ⟨6,zgj ht 6 k X _ xco (by have:=zh1 xco.1;omega) (fun ok X' v=>?_)⟩
   refine zn (fun e=>h2 (fun hall=>?_)) (fun e=>zz (by omega) (by omega) (hn hlt _ ⟨by simp,by omega,v.co,fun i hi=>xg i ((v.grey i).1 hi),(v.good (by simpa using e) xs).1,fun i hi=>?_⟩))
   ·obtain ⟨i,hi,hns⟩:=v.bad (by simpa using e) (fun g hg=>absurd hg (xg g))
    exact hns (hall i hi)
   ·by_cases e2:i=k
    ·subst e2;exact (v.good (by simpa using e) xs).2 hlt
    ·exact v.black i (xk i (by omega))
  ·have hge:cs.length≤k:=by simpa using hc
   exact h1 (fun i hi=>xs i (xk i (by omega)))
 ·have:i=0∨i=1∨i=2∨i=3∨i=4∨5≤i:=by omega
  rcases this with rfl | rfl | rfl | rfl | rfl | h <;> simp
  rw [List.getElem?_eq_none (by simpa using h)];simp
 ·have:i=0∨i=1∨i=2∨i=3∨i=4∨5≤i:=by omega
  rcases this with rfl | rfl | rfl | rfl | rfl | h
  ·simp at hi
  ·simp at hi
  ·simp at hi
  ·simp at hi
  ·simp at hi
  ·rw [List.getElem?_eq_none (by simpa using h)] at hi;cases hi
end
section
def Rdy (cs:List (List zS)) (D:List Bool) (i:Nat):Prop:=∀ j,Ca cs i j→D[j]?=some true
theorem zl5 {cs:List (List zS)} (ht:Tg cs) {i j:Nat} (h:Ca cs i j):i<cs.length∧j<cs.length:=by
 obtain ⟨c,h1,r,h2,h3,h4⟩:=h
 have hm:=List.mem_of_getElem? h1
 have:=(ht.2 c hm).2 r h2
 exact ⟨(List.getElem?_eq_some_iff.1 h1).1,by have:=this.2;omega⟩
theorem zf7 {cs:List (List zS)} (ht:Tg cs) {D:List Bool} (hst:∀ i,i<cs.length→Rdy cs D i→D[i]?=some true) {i:Nat} (hs:Sf cs i):i<cs.length→D[i]?=some true:=by
 induction hs with
 | intro x _ ih=>exact fun hx=>hst x hx (fun j hj=>ih j hj (zl5 ht hj).2)
theorem zh6 {D:List Bool} (h:∀ i,i<D.length→D[i]?=some true):D.count true=D.length:=by
 rw [List.count_eq_length]
 intro b hb
 obtain ⟨i,hi⟩:=List.getElem?_of_mem hb
 have:=h i (List.getElem?_eq_some_iff.1 hi).1
 rw [hi] at this;exact (Option.some.inj this).symm
theorem zik {D:List Bool} (h:D.count true=D.length) {i:Nat} (hi:i<D.length):D[i]?=some true:=by
 rw [List.getElem?_eq_getElem hi]
 exact congrArg some (List.count_eq_length.1 h _ (List.getElem_mem hi)).symm
theorem zij {s:zL} {κ:List Int→Prop} (ht:Tg s.xChains) (h1:(∀ i,i<s.xChains.length→Sf s.xChains i)→∀ ys:List Int,ys.length=s.xChains.length→κ ys) (h2:(¬ ∀ i,i<s.xChains.length→Sf s.xChains i)→∀ ys:List Int,ys.length≠s.xChains.length→κ ys):YS s κ:=by
 have hn5:=ht.1
 generalize hcs:s.xChains=cs at *
 unfold YS
 rw [hcs]
 refine zdT cs.length rfl (by omega) (by omega) ?_
 refine zU cs.length (fun s=>s.2.2) (fun k s=>s.2.2=(k:Int)∧k≤cs.length∧s.1.length=cs.length∧s.2.1.length=s.1.count true∧(∀ i:Nat,s.1[i]?=some true→Sf cs i)∧(k≤s.1.count true∨∀ i,i<cs.length→Rdy cs s.1 i→s.1[i]?=some true)) (fun k s h=>h.1) (fun k s h=>h.2.1) ?_
  ⟨rfl,Nat.zero_le _,by simp,by simp [List.count_replicate],fun i hi=>?_,.inl (Nat.zero_le _)⟩
 ·rintro k ⟨D0,ys0,_⟩ next ⟨rfl,hk,hD0,hy0,hs0,hst0⟩ hnx
  simp only at hD0 hy0 hs0 hst0
  refine zn (fun hc=>?_) (fun hc=>?_)
  ·have hltk:k<cs.length:=by simpa using hc
   refine zU cs.length (fun s=>s.2.2) (fun m s=>s.2.2=(m:Int)∧m≤cs.length∧s.1.length=cs.length∧s.2.1.length=s.1.count true∧(∀ i:Nat,s.1[i]?=some true→Sf cs i)∧(∀ i:Nat,D0[i]?=some true→s.1[i]?=some true)∧(s.1=D0∨D0.count true<s.1.count true)∧(∀ i,i<m→Rdy cs D0 i→s.1[i]?=some true)) (fun k s h=>h.1) (fun k s h=>h.2.1) ?_
    ⟨rfl,Nat.zero_le _,hD0,hy0,hs0,fun i hi=>hi,.inl rfl,fun i hi=>by omega⟩
   rintro m ⟨D,ys,_⟩ next2 ⟨rfl,hm,hD,hy,hs,hmono,hcnt,hrd⟩ hn2
   simp only at hD hy hs hmono hcnt hrd
   have hDc:D.count true≤5:=by have:=List.count_le_length (a:=true) (l:=D);omega
   refine zn (fun hc2=>?_) (fun hc2=>?_)
   ·have hlt:m<cs.length:=by simpa using hc2
    have hmD:m<D.length:=by omega
    have hch:=ht.2 _ (List.getElem_mem hlt)
    have hcm:cs[m]?=some cs[m]:=List.getElem?_eq_getElem hlt
    unfold jnW
    refine zq m rfl hmD ?_
    refine zU cs[m].length (fun s=>s.2) (fun j s=>s.2=(j:Int)∧j≤cs[m].length∧(s.1=true↔(D[m]=false∧∀ r,r∈cs[m].take j→r.xAction=3→D[r.xChain.toNat]?=some true))) (fun k s h=>h.1) (fun k s h=>h.2.1) ?_ ⟨rfl,Nat.zero_le _,by simp⟩
    rintro j ⟨fl,_⟩ next3 ⟨rfl,hj,hfl⟩ hn3
    simp only at hfl
    refine zq m rfl hlt (zn (fun hc3=>?_) (fun hc3=>?_))
    ·have hltj:j<cs[m].length:=by simpa using hc3
     have htk:∀ r,r∈cs[m].take (j+1)↔r∈cs[m].take j∨r=cs[m][j]:=fun r=>by
      rw [List.take_succ_eq_append_getElem hltj,List.mem_append,List.mem_singleton]
     have hrv:=hch.2 _ (List.getElem_mem hltj)
     refine zq m rfl hlt (zq j rfl hltj (zn (fun hf=>?_) (fun hf=>?_)))
     ·obtain ⟨f1,f2⟩:=hfl.1 hf
      refine zn (fun h3=>?_) (fun h3=>?_)
      ·refine zz (by omega) (by omega) (hn3 hltj _ ⟨by simp,by omega,⟨fun _=>⟨f1,fun r hr hr3=>?_⟩,fun _=>rfl⟩⟩)
       rcases (htk r).1 hr with hr | rfl
       ·exact f2 r hr hr3
       ·simp at h3;exact absurd hr3 h3
      ·have h3':cs[m][j].xAction=3:=by simpa using h3
       have hcc:=hrv.1.2.2.2.1 h3'
       have hc5:=hrv.2
       obtain ⟨q,hq⟩:=Int.eq_ofNat_of_zero_le hcc.1
       have hqD:q<D.length:=by omega
       refine zq q hq hqD (zz (by omega) (by omega) (hn3 hltj _ ⟨by simp,by omega,⟨fun e=>⟨f1,fun r hr hr3=>?_⟩,fun hh=>?_⟩⟩))
       ·rcases (htk r).1 hr with hr | rfl
        ·exact f2 r hr hr3
        ·rw [hq,Int.toNat_natCast,List.getElem?_eq_getElem hqD];exact congrArg some e
       ·have:=hh.2 _ ((htk _).2 (.inr rfl)) h3'
        rw [hq,Int.toNat_natCast,List.getElem?_eq_getElem hqD] at this
        exact Option.some.inj this
     ·refine zz (by omega) (by omega) (hn3 hltj _ ⟨by simp,by omega,⟨fun e=>(by cases e),fun hh=>?_⟩⟩)
      have:fl=true:=hfl.2 ⟨hh.1,fun r hr hr3=>hh.2 r ((htk r).2 (.inl hr)) hr3⟩
      rw [this] at hf;cases hf
    ·have hge:cs[m].length≤j:=by simpa using hc3
     rw [List.take_of_length_le hge] at hfl
     have rdy_of:∀ D':List Bool,Rdy cs D' m→∀ r,r∈cs[m]→r.xAction=3→D'[r.xChain.toNat]?=some true:=by
      intro D' hh r hr hr3
      have hcc:=(hch.2 r hr).1.2.2.2.1 hr3
      exact hh _ ⟨_,hcm,r,hr,hr3,by omega⟩
     refine zn (fun hf=>?_) (fun hf=>?_)
     ·obtain ⟨f1,f2⟩:=hfl.1 hf
      have hr:Rdy cs D m:=by
       rintro q ⟨c',e1,r,e2,e3,e4⟩
       rw [hcm] at e1;cases e1
       have:=f2 r e2 e3
       rw [e4] at this;simpa using this
      have set1:∀ i:Nat,(D.set m true)[i]?=if i=m then some true else D[i]?:=fun i=>by
       by_cases e:i=m
       ·subst e;simp [hmD]
       ·rw [List.getElem?_set_ne (by omega),if_neg e]
      have hcs':(D.set m true).count true=D.count true+1:=by
       rw [List.count_set hmD];simp [f1]
      refine zq m rfl hmD (js (by simp;omega) (zz (by omega) (by omega) (hn2 hlt _ ⟨by simp,by omega,by simpa using hD,?_,fun i hi=>?_,fun i hi=>?_,.inr ?_,fun i hi hri=>?_⟩)))
      ·simp only [Int.toNat_natCast,hcs'];simp;omega
      ·simp only [Int.toNat_natCast,set1] at hi
       by_cases e:i=m
       ·subst e;exact zhM (fun j hj=>hs j (hr j hj))
       ·rw [if_neg e] at hi;exact hs i hi
      ·simp only [Int.toNat_natCast,set1];split
       ·rfl
       ·exact hmono i hi
      ·simp only [Int.toNat_natCast,hcs']
       rcases hcnt with rfl | h
       ·omega
       ·omega
      ·simp only [Int.toNat_natCast,set1];split
       ·rfl
       ·exact hrd i (by omega) hri
     ·refine zz (by omega) (by omega) (hn2 hlt _ ⟨by simp,by omega,hD,hy,hs,hmono,hcnt,fun i hi hri=>?_⟩)
      by_cases e:i=m
      ·subst e
       rw [List.getElem?_eq_getElem hmD]
       by_cases hDm:D[i]=false
       ·have:fl=true:=hfl.2 ⟨hDm,fun r hr hr3=>hmono _ (rdy_of D0 hri r hr hr3)⟩
        rw [this] at hf;cases hf
       ·simpa using hDm
      ·exact hrd i (by omega) hri
   ·have hme:m=cs.length:=by simp at hc2;omega
    subst hme
    refine zz (by omega) (by omega) (hnx hltk _ ⟨by simp,by omega,hD,hy,hs,?_⟩)
    rcases hcnt with rfl | hlt2
    ·exact .inr (fun i hi hri=>hrd i hi hri)
    ·rcases hst0 with h0 | h0
     ·exact .inl (by simp only;omega)
     ·refine .inr (fun i hi hri=>?_)
      exfalso
      have hall:∀ i:Nat,D[i]?=some true→D0[i]?=some true:=fun i hi=>zf7 ht h0 (hs i hi) (by have:=(List.getElem?_eq_some_iff.1 hi).1;omega)
      have heq:D=D0:=by
       apply List.ext_getElem?
       intro i
       by_cases hi:i<D.length
       ·rw [List.getElem?_eq_getElem hi,List.getElem?_eq_getElem (show i<D0.length by omega)]
        cases hb:D[i] with
        | true =>
         have:=hall i (by rw [List.getElem?_eq_getElem hi,hb])
         rw [List.getElem?_eq_getElem (show i<D0.length by omega)] at this
         exact this.symm
        | false =>
         cases hb0:D0[i]'(by omega) with
         | false=>rfl
         | true =>
          have:=hmono i (by rw [List.getElem?_eq_getElem (show i<D0.length by omega),hb0])
          rw [List.getElem?_eq_getElem hi,hb] at this
          exact this
       ·rw [List.getElem?_eq_none (by omega),List.getElem?_eq_none (by omega)]
      rw [heq] at hlt2;omega
  ·have hge:k=cs.length:=by simp at hc;omega
   subst hge
   have hle:=List.count_le_length (a:=true) (l:=D0)
   by_cases hcn:D0.count true=cs.length
   ·exact h1 (fun i hi=>hs0 i (zik (by omega) (by omega))) ys0 (by omega)
   ·refine h2 (fun hall=>?_) ys0 (by omega)
    rcases hst0 with h0 | h0
    ·omega
    ·exact hcn ((zh6 (fun i hi=>zf7 ht h0 (hall i (by omega)) (by omega))).trans hD0)
 ·exfalso
  simp only [List.getElem?_replicate] at hi
  split at hi <;> simp at hi
end
section
open Go.Lib (decDigits)
def RsV (c:List zS):Prop:=c.length≤8∧∀ r,r∈c→RV r
def SV (s:zL):Prop:=Tg s.xChains∧1≤s.xChains.length∧∀ i,i<s.xChains.length→Sf s.xChains i
def Bc (c:List zS):Prop:=c.length≤4294967296∧∀ r,r∈c→r.xTests.length≤4294967296
def Bd (s:zL):Prop:=s.xChains.length≤4294967296∧∀ c,c∈s.xChains→Bc c
theorem UY {α:Type} {l:List α} {k:Nat} (h:k<l.length) (x:α):x∈l.take (k+1)↔x∈l.take k∨x=l[k]:=by
 rw [List.take_succ_eq_append_getElem h,List.mem_append,List.mem_singleton]
theorem zbX {c:List zS} {κ:Bool→Prop} (hb:Bc c) (h:∀ b,(b=true↔RsV c)→κ b):Xl c κ:=by
 have hl:=hb.1
 unfold Xl
 refine zn (fun hc=>h _ ⟨fun e=>(by cases e),fun hh=>by have:=hh.1;simp at hc;omega⟩) (fun hc0=>?_)
 simp at hc0
 refine zU c.length (fun s=>s) (fun k s=>s=(k:Int)∧k≤c.length∧∀ r,r∈c.take k→RV r) (fun k s h=>h.1) (fun k s h=>h.2.1) ?_ ⟨rfl,Nat.zero_le _,by simp⟩
 rintro k _ next ⟨rfl,hk,he⟩ hn
 refine zn (fun hc=>?_) (fun hc=>?_)
 ·have hlt:k<c.length:=by simpa using hc
  refine zq k rfl hlt (zcQ (hb.2 _ (List.getElem_mem hlt)) (zn (fun hc2=>?_) (fun hc2=>?_)))
  ·simp at hc2
   exact h _ ⟨fun e=>(by cases e),fun hh=>absurd (hh.2 _ (List.getElem_mem hlt)) hc2⟩
  ·simp at hc2
   refine zz (by omega) (by omega) (hn hlt _ ⟨by omega,by omega,fun r hr=>?_⟩)
   rcases (UY hlt r).1 hr with hr | rfl
   ·exact he r hr
   ·exact hc2
 ·have hge:c.length≤k:=by simpa using hc
  rw [List.take_of_length_le hge] at he
  exact h _ ⟨fun _=>⟨by omega,he⟩,fun _=>rfl⟩
theorem zcg {c:List zS} {κ:Bool→Prop} (hb:Bc c) (h:∀ b,(b=true↔RsV c)→κ b):Xo c κ:=by
 have hl:=hb.1
 unfold Xo
 refine zU c.length (fun s=>s) (fun k s=>s=(k:Int)∧k≤c.length∧∀ r,r∈c.take k→RV r) (fun k s h=>h.1) (fun k s h=>h.2.1) ?_ ⟨rfl,Nat.zero_le _,by simp⟩
 rintro k _ next ⟨rfl,hk,he⟩ hn
 refine zn (fun hc=>?_) (fun hc=>?_)
 ·have hlt:k<c.length:=by simpa using hc
  refine zq k rfl hlt (zcR (hb.2 _ (List.getElem_mem hlt)) (zn (fun hc2=>?_) (fun hc2=>?_)))
  ·simp at hc2
   exact h _ ⟨fun e=>(by cases e),fun hh=>absurd (hh.2 _ (List.getElem_mem hlt)) hc2⟩
  ·simp at hc2
   refine zz (by omega) (by omega) (hn hlt _ ⟨by omega,by omega,fun r hr=>?_⟩)
   rcases (UY hlt r).1 hr with hr | rfl
   ·exact he r hr
   ·exact hc2
 ·have hge:c.length≤k:=by simpa using hc
  rw [List.take_of_length_le hge] at he
  exact h _ ⟨fun e=>⟨by simp at e;omega,he⟩,fun hh=>by have:=hh.1;simp;omega⟩
theorem zaP {s:zL} {κ:Bool→Prop} (hb:Bd s) (h:∀ b,(b=true↔SV s)→κ b):Zt s κ:=by
 have hn:=hb.1
 have no:¬ SV s→κ false:=fun hns=>h _ ⟨fun e=>(by cases e),fun hh=>absurd hh hns⟩
 unfold Zt
 refine zU s.xChains.length (fun s=>s) (fun k t=>t=(k:Int)∧k≤s.xChains.length∧∀ c,c∈s.xChains.take k→RsV c∧∀ r,r∈c→r.xChain<s.xChains.length) (fun k s h=>h.1) (fun k s h=>h.2.1) ?_ ⟨rfl,Nat.zero_le _,by simp⟩
 rintro k _ next ⟨rfl,hk,he⟩ hnx
 refine zn (fun hc=>?_) (fun hc=>?_)
 ·have hlt:k<s.xChains.length:=by simpa using hc
  have hmem:=List.getElem_mem hlt
  have hbc:=hb.2 _ hmem
  have hbl:=hbc.1
  refine zq k rfl hlt (zcg hbc (fun b hbv=>zn (fun hf=>no (fun hh=>?_)) (fun hf=>?_)))
  ·have:b=true:=hbv.2 ⟨(hh.1.2 _ hmem).1,fun r hr=>((hh.1.2 _ hmem).2 r hr).1⟩
   rw [this] at hf;cases hf
  ·have hv:RsV s.xChains[k]:=hbv.1 (by simpa using hf)
   refine zU s.xChains[k].length (fun s=>s) (fun j t=>t=(j:Int)∧j≤s.xChains[k].length∧∀ r,r∈s.xChains[k].take j→r.xChain<s.xChains.length) (fun k s h=>h.1) (fun k s h=>h.2.1) ?_ ⟨rfl,Nat.zero_le _,by simp⟩
   rintro j _ next2 ⟨rfl,hj,he2⟩ hn2
   refine zq k rfl hlt (zn (fun hc3=>?_) (fun hc3=>?_))
   ·have hltj:j<s.xChains[k].length:=by simpa using hc3
    refine zq k rfl hlt (zq j rfl hltj (zn (fun h3=>no (fun hh=>?_)) (fun h3=>?_)))
    ·have:=((hh.1.2 _ hmem).2 _ (List.getElem_mem hltj)).2
     simp at h3;omega
    ·simp at h3
     refine zz (by omega) (by omega) (hn2 hltj _ ⟨by omega,by omega,fun r hr=>?_⟩)
     rcases (UY hltj r).1 hr with hr | rfl
     ·exact he2 r hr
     ·omega
   ·have hge:s.xChains[k].length≤j:=by simpa using hc3
    rw [List.take_of_length_le hge] at he2
    refine zz (by omega) (by omega) (hnx hlt _ ⟨by omega,by omega,fun c hc=>?_⟩)
    rcases (UY hlt c).1 hc with hc | rfl
    ·exact he c hc
    ·exact ⟨hv,he2⟩
 ·have hge:s.xChains.length≤k:=by simpa using hc
  rw [List.take_of_length_le hge] at he
  unfold jnW
  refine Ux (zn (fun h5=>?_) (fun h5=>no (fun hh=>?_)))
  ·simp at h5
   have ht:Tg s.xChains:=⟨by omega,fun c hc=>⟨(he c hc).1.1,fun r hr=>⟨(he c hc).1.2 r hr,(he c hc).2 r hr⟩⟩⟩
   refine zij ht (fun hall ys hy=>h _ ⟨fun _=>⟨ht,by omega,hall⟩,fun _=>by simp;omega⟩) (fun hall ys hy=>h _ ⟨fun e=>absurd (by simp at e;omega) hy,fun hh=>absurd hh.2.2 hall⟩)
  ·have:=hh.1.1;have:=hh.2.1
   simp at h5;omega
theorem UD {s:zL} {κ:Bool→Prop} (hb:Bd s) (h:∀ b,(b=true↔SV s)→κ b):yC s κ:=by
 have no:¬ SV s→κ false:=fun hns=>h _ ⟨fun e=>(by cases e),fun hh=>absurd hh hns⟩
 unfold yC jnW
 simp only [Yx]
 refine zn (fun hc=>no (fun hh=>by have:=hh.2.1;simp at hc;omega)) (fun h1=>zn (fun hc=>no (fun hh=>by have:=hh.1.1;simp at hc;omega)) (fun h5=>?_))
 simp at h1 h5
 refine zU s.xChains.length (fun s=>s) (fun k t=>t=(k:Int)∧k≤s.xChains.length∧∀ c,c∈s.xChains.take k→RsV c) (fun k s h=>h.1) (fun k s h=>h.2.1) ?_ ⟨rfl,Nat.zero_le _,by simp⟩
 rintro k _ next ⟨rfl,hk,he⟩ hnx
 refine zn (fun hc=>?_) (fun hc=>?_)
 ·have hlt:k<s.xChains.length:=by simpa using hc
  have hmem:=List.getElem_mem hlt
  refine zq k rfl hlt (zbX (hb.2 _ hmem) (fun b hbv=>zn (fun hf=>no (fun hh=>?_)) (fun hf=>?_)))
  ·have:b=true:=hbv.2 ⟨(hh.1.2 _ hmem).1,fun r hr=>((hh.1.2 _ hmem).2 r hr).1⟩
   rw [this] at hf;cases hf
  ·refine zz (by omega) (by omega) (hnx hlt _ ⟨by omega,by omega,fun c hc=>?_⟩)
   rcases (UY hlt c).1 hc with hc | rfl
   ·exact he c hc
   ·exact hbv.1 (by simpa using hf)
 ·have hge:s.xChains.length≤k:=by simpa using hc
  rw [List.take_of_length_le hge] at he
  refine zU s.xChains.length (fun s=>s) (fun k t=>t=(k:Int)∧k≤s.xChains.length∧∀ c,c∈s.xChains.take k→∀ r,r∈c→r.xChain<s.xChains.length) (fun k s h=>h.1) (fun k s h=>h.2.1) ?_ ⟨rfl,Nat.zero_le _,by simp⟩
  rintro m _ next2 ⟨rfl,hm,he2⟩ hn2
  refine zn (fun hc2=>?_) (fun hc2=>?_)
  ·have hlt:m<s.xChains.length:=by simpa using hc2
   have hmem:=List.getElem_mem hlt
   have hv:=he _ hmem
   refine zq m rfl hlt (zeY hv.1 hv.2 (fun ys hyl hys=>?_))
   refine zU ys.length (fun s=>s) (fun j t=>t=(j:Int)∧j≤ys.length∧∀ x,x∈ys.take j→x<s.xChains.length) (fun k s h=>h.1) (fun k s h=>h.2.1) ?_ ⟨rfl,Nat.zero_le _,by simp⟩
   rintro j _ next3 ⟨rfl,hj,he3⟩ hn3
   refine zn (fun hc3=>?_) (fun hc3=>?_)
   ·have hltj:j<ys.length:=by simpa using hc3
    refine zq j rfl hltj (zn (fun hx=>no (fun hh=>?_)) (fun hx=>?_))
    ·obtain ⟨r,hr,_,hrc⟩:=(hys _).1 (List.getElem_mem hltj)
     have:=((hh.1.2 _ hmem).2 r hr).2
     simp at hx;omega
    ·simp at hx
     refine zz (by omega) (by omega) (hn3 hltj _ ⟨by omega,by omega,fun x hxx=>?_⟩)
     rcases (UY hltj x).1 hxx with hxx | rfl
     ·exact he3 x hxx
     ·omega
   ·have hgej:ys.length≤j:=by simpa using hc3
    rw [List.take_of_length_le hgej] at he3
    refine zz (by omega) (by omega) (hn2 hlt _ ⟨by omega,by omega,fun c hc=>?_⟩)
    rcases (UY hlt c).1 hc with hc | rfl
    ·exact he2 c hc
    ·intro r hr
     by_cases h3:r.xAction=3
     ·exact he3 _ ((hys _).2 ⟨r,hr,h3,rfl⟩)
     ·have:=(hv.2 r hr).2.2.2.2 h3
      omega
  ·have hgem:s.xChains.length≤m:=by simpa using hc2
   rw [List.take_of_length_le hgem] at he2
   have ht:Tg s.xChains:=⟨by omega,fun c hc=>⟨(he c hc).1,fun r hr=>⟨(he c hc).2 r hr,he2 c hc r hr⟩⟩⟩
   exact zih ht.w (fun hall=>h _ ⟨fun _=>⟨ht,by omega,hall⟩,fun _=>rfl⟩) (fun hall=>h _ ⟨fun e=>(by cases e),fun hh=>absurd hh.2.2 hall⟩)
end
section
open Go Go.Proofs
theorem XC (a b:List zg):(ZS a b).2=false↔zZ a b=[]:=by
 unfold ZS
 cases zZ a b <;> simp
def fpk (a b:za):zX×Bool:=if em4 (xt a b) then (⟨0,0,0,0⟩,false) else (⟨(ZS a.x0 b.x0).1,(ZS a.x1 b.x1).1,(ZS a.x2 b.x2).1,(ZS a.x3 b.x3).1⟩,true)
theorem zdV {a b:za} (ha:B4 a) (hb:B4 b) {κ:zX×Bool→Prop} (h:κ (fpk a b)):yh a b κ:=by
 obtain ⟨a0,a1,a2,a3⟩:=a
 obtain ⟨b0,b1,b2,b3⟩:=b
 obtain ⟨p0,p1,p2,p3⟩:=ha
 obtain ⟨q0,q1,q2,q3⟩:=hb
 simp only at p0 p1 p2 p3 q0 q1 q2 q3
 have hF:zZ a0 b0=[]∨zZ a1 b1=[]∨zZ a2 b2=[]∨zZ a3 b3=[]→κ (⟨0,0,0,0⟩,false):=fun e=>by
  have:fpk ⟨a0,a1,a2,a3⟩ ⟨b0,b1,b2,b3⟩=(⟨0,0,0,0⟩,false):=if_pos (decide_eq_true e)
  rw [this] at h;exact h
 have hT:¬ (zZ a0 b0=[]∨zZ a1 b1=[]∨zZ a2 b2=[]∨zZ a3 b3=[])→κ (⟨(ZS a0 b0).1,(ZS a1 b1).1,(ZS a2 b2).1,(ZS a3 b3).1⟩,true):=fun e=>by
  have:fpk ⟨a0,a1,a2,a3⟩ ⟨b0,b1,b2,b3⟩=(⟨(ZS a0 b0).1,(ZS a1 b1).1,(ZS a2 b2).1,(ZS a3 b3).1⟩,true):=if_neg (by rw [show em4 (xt ⟨a0,a1,a2,a3⟩ ⟨b0,b1,b2,b3⟩)=false from decide_eq_false e];decide)
  rw [this] at h;exact h
 clear h
 unfold yh
 refine ⟨5,?_⟩
 refine jg ?_
 unfold jnW
 refine zq 0 rfl (by simp) (zq 0 rfl (by simp) (Ud p0 q0 (by decide) (by decide) (by decide) (by decide) ?_))
 simp only [List.getElem_cons_zero,List.getElem_cons_succ]
 refine zn (fun e=>hF (.inl ((XC _ _).1 (by simpa using e)))) (fun e=>?_)
 have e0:zZ a0 b0≠[]:=fun f=>by have:=(XC _ _).2 f;simp [this] at e
 refine zq 0 rfl (by simp) (zz (by decide) (by decide) ?_)
 refine jg ?_
 refine zq 1 rfl (by simp) (zq 1 rfl (by simp) (Ud p1 q1 (by decide) (by decide) (by decide) (by decide) ?_))
 simp only [List.getElem_cons_zero,List.getElem_cons_succ]
 refine zn (fun e=>hF (.inr (.inl ((XC _ _).1 (by simpa using e))))) (fun e=>?_)
 have e1:zZ a1 b1≠[]:=fun f=>by have:=(XC _ _).2 f;simp [this] at e
 refine zq 1 rfl (by simp) (zz (by decide) (by decide) ?_)
 refine jg ?_
 refine zq 2 rfl (by simp) (zq 2 rfl (by simp) (Ud p2 q2 (by decide) (by decide) (by decide) (by decide) ?_))
 simp only [List.getElem_cons_zero,List.getElem_cons_succ]
 refine zn (fun e=>hF (.inr (.inr (.inl ((XC _ _).1 (by simpa using e)))))) (fun e=>?_)
 have e2:zZ a2 b2≠[]:=fun f=>by have:=(XC _ _).2 f;simp [this] at e
 refine zq 2 rfl (by simp) (zz (by decide) (by decide) ?_)
 refine jg ?_
 refine zq 3 rfl (by simp) (zq 3 rfl (by simp) (Ud p3 q3 (by decide) (by decide) (by decide) (by decide) ?_))
 simp only [List.getElem_cons_zero,List.getElem_cons_succ]
 refine zn (fun e=>hF (.inr (.inr (.inr ((XC _ _).1 (by simpa using e)))))) (fun e=>?_)
 have e3:zZ a3 b3≠[]:=fun f=>by have:=(XC _ _).2 f;simp [this] at e
 refine zq 3 rfl (by simp) (zz (by decide) (by decide) ?_)
 refine jC ?_
 refine ⟨_,_,_,_,rfl,?_⟩
 unfold Uy
 refine zq 0 rfl (by simp) (zq 1 rfl (by simp) (zq 2 rfl (by simp) (zq 3 rfl (by simp) ?_)))
 exact hT (by rintro (f | f | f | f) <;> contradiction)
theorem zkv (a b:za):(fpk a b).2=!em4 (xt a b):=by
 unfold fpk;cases em4 (xt a b) <;> simp
theorem zcS {a b:za} (ha:B4 a) (hb:B4 b) {κ:Bool→Prop} (h:κ (!em4 (xt a b))):uv a b κ:=by
 unfold uv
 refine zdV ha hb ?_
 rw [← zkv] at h;exact h
theorem zbj {κ:za→Prop} (h:κ Zq):Za κ:=by
 unfold Za
 refine ⟨5,?_⟩
 refine jg (Zp (n:=(0:Int)) (by decide) (by decide) (zq 0 rfl (by simp) (zz (by decide) (by decide) ?_)))
 refine jg (Zp (n:=(1:Int)) (by decide) (by decide) (zq 1 rfl (by simp) (zz (by decide) (by decide) ?_)))
 refine jg (Zp (n:=(2:Int)) (by decide) (by decide) (zq 2 rfl (by simp) (zz (by decide) (by decide) ?_)))
 refine jg (Zp (n:=(3:Int)) (by decide) (by decide) (zq 3 rfl (by simp) (zz (by decide) (by decide) ?_)))
 refine jC ?_
 exact ⟨_,_,_,_,rfl,h⟩
def xF (a b:List zg) (t:Int):List zg:=zZ a (yO b t)
def zeN (a b:za):za:=⟨xF a.x0 b.x0 65535,xF a.x1 b.x1 65535,xF a.x2 b.x2 255,xF a.x3 b.x3 7⟩
def in4 (a b:za):Bool:=em4 a || decide (zeN a b=zbI)
theorem zgg {a b:za} (ha:B4 a) (hb:B4 b) {κ:Bool→Prop} (h:κ (in4 a b)):yB a b κ:=by
 unfold yB
 refine zdJ (zn (fun e=>?_) (fun e=>?_))
 ·unfold in4 at h;rw [e] at h;exact h
 unfold in4 at h;rw [e,Bool.false_or] at h
 clear e
 obtain ⟨a0,a1,a2,a3⟩:=a
 obtain ⟨b0,b1,b2,b3⟩:=b
 obtain ⟨p0,p1,p2,p3⟩:=ha
 obtain ⟨q0,q1,q2,q3⟩:=hb
 simp only at p0 p1 p2 p3 q0 q1 q2 q3
 have hT:xF a0 b0 65535=[]→xF a1 b1 65535=[]→xF a2 b2 255=[]→xF a3 b3 7=[]→κ true:=fun e0 e1 e2 e3=>by
  rw [decide_eq_true (by simp only [zeN,zbI,e0,e1,e2,e3])] at h;exact h
 have hF:¬ (xF a0 b0 65535=[]∧xF a1 b1 65535=[]∧xF a2 b2 255=[]∧xF a3 b3 7=[])→κ false:=fun e=>by
  rw [decide_eq_false (fun f=>e (by simpa only [zeN,zbI,za.mk.injEq] using f))] at h;exact h
 clear h
 refine ⟨5,?_⟩
 refine jg ?_
 unfold jnW
 refine zq 0 rfl (by simp) (zq 0 rfl (by simp) (Zp (n:=(0:Int)) (by decide) (by decide) (X6 (top:=top 0) p0 q0 (by decide) (by decide) (zn (fun e=>hF (fun f=>?_)) (fun e=>zz (by decide) (by decide) ?_)))))
 ·have:=f.1;unfold xF at this;simp [this,zl7] at e
 have e0:xF a0 b0 65535=[]:=by simpa [xF,zl7] using e
 refine jg ?_
 refine zq 1 rfl (by simp) (zq 1 rfl (by simp) (Zp (n:=(1:Int)) (by decide) (by decide) (X6 (top:=top 1) p1 q1 (by decide) (by decide) (zn (fun e=>hF (fun f=>?_)) (fun e=>zz (by decide) (by decide) ?_)))))
 ·have:=f.2.1;unfold xF at this;simp [this,zma] at e
 have e1:xF a1 b1 65535=[]:=by simpa [xF,zma] using e
 refine jg ?_
 refine zq 2 rfl (by simp) (zq 2 rfl (by simp) (Zp (n:=(2:Int)) (by decide) (by decide) (X6 (top:=top 2) p2 q2 (by decide) (by decide) (zn (fun e=>hF (fun f=>?_)) (fun e=>zz (by decide) (by decide) ?_)))))
 ·have:=f.2.2.1;unfold xF at this;simp [this,zl4] at e
 have e2:xF a2 b2 255=[]:=by simpa [xF,zl4] using e
 refine jg ?_
 refine zq 3 rfl (by simp) (zq 3 rfl (by simp) (Zp (n:=(3:Int)) (by decide) (by decide) (X6 (top:=top 3) p3 q3 (by decide) (by decide) (zn (fun e=>hF (fun f=>?_)) (fun e=>zz (by decide) (by decide) ?_)))))
 ·have:=f.2.2.2;unfold xF at this;simp [this,zlW] at e
 have e3:xF a3 b3 7=[]:=by simpa [xF,zlW] using e
 exact jC (hT e0 e1 e2 e3)
end
section
open Go Go.Proofs
instance (l:List zg):Decidable (NF l):=by unfold NF;infer_instance
instance (l:List zg) (t:Int):Decidable (St l t):=by unfold St;infer_instance
theorem zdw:∀ {ys:List zg},(∀ s∈ys,s.xLo≤s.xHi)→(ys.Pairwise (fun a b=>a.xHi+1<b.xLo)↔∀ n,(h:n+1<ys.length)→ys[n].xHi+1<ys[n+1].xLo)
 | [],_=>by simp
 | [s],_=>by simp
 | s :: t :: ys,h=>by
  have ih:=zdw (ys:=t :: ys) (fun u hu=>h u (List.mem_cons_of_mem _ hu))
  rw [List.pairwise_cons,ih]
  constructor
  ·rintro ⟨h1,h2⟩ n hn
   cases n with
   | zero=>exact h1 t (by simp)
   | succ n=>exact h2 n (by simpa using hn)
  ·intro hh
   have h0:=hh 0 (by simp)
   have h2:∀ n,(h:n+1<(t :: ys).length)→(t :: ys)[n].xHi+1<(t :: ys)[n+1].xLo:=fun n hn=>hh (n+1) (by simpa using hn)
   refine ⟨fun u hu=>?_,h2⟩
   rcases List.mem_cons.1 hu with e | e
   ·subst e;exact h0
   ·have:=(List.pairwise_cons.1 (ih.2 h2)).1 u e
    have:=h t (by simp)
    simp only [List.getElem_cons_zero,List.getElem_cons_succ] at h0
    omega
theorem zja {l:List zg} {top:Int}:St l top↔(∀ n,(h:n<l.length)→0≤l[n].xLo∧l[n].xLo≤l[n].xHi∧l[n].xHi≤top)∧∀ n,(h:n+1<l.length)→l[n].xHi+1<l[n+1].xLo:=by
 constructor
 ·rintro ⟨⟨h1,h2⟩,h3⟩
  exact ⟨fun n hn=>by have:=h1 _ (List.getElem_mem hn);have:=h3 _ (List.getElem_mem hn);omega,(zdw h1).1 h2⟩
 ·rintro ⟨h1,h2⟩
  have h3:∀ s∈l,0≤s.xLo∧s.xLo≤s.xHi∧s.xHi≤top:=fun s hs=>by
   obtain ⟨n,hn,e⟩:=List.getElem_of_mem hs
   rw [← e];exact h1 n hn
  exact ⟨⟨fun s hs=>(h3 s hs).2.1,(zdw (fun s hs=>(h3 s hs).2.1)).2 h2⟩,fun s hs=>⟨(h3 s hs).1,(h3 s hs).2.2⟩⟩
def SpV (l:List zg) (top:Int):Prop:=l.length≤40∧St l top
instance (l:List zg) (t:Int):Decidable (SpV l t):=by unfold SpV;infer_instance
theorem YA {l:List zg} {top:Int} (hl:l.length≤4294967296) (h0:0≤top) (ht:top≤65535) {κ:Bool→Prop} (h:κ (decide (SpV l top))):yx l top κ:=by
 unfold yx
 refine zU l.length (fun s=>s) (fun k s=>s=(k:Int)∧k≤l.length∧(∀ n,(h:n<l.length)→n<k→0≤l[n].xLo∧l[n].xLo≤l[n].xHi∧l[n].xHi≤top)∧∀ n,(h:n+1<l.length)→n+1<k→l[n].xHi+1<l[n+1].xLo) (fun k s h=>h.1) (fun k s h=>h.2.1) ?_ ⟨rfl,Nat.zero_le _,fun n _ h=>by omega,fun n _ h=>by omega⟩
 rintro k _ next ⟨rfl,hk,h1,h2⟩ hn
 refine zn (fun hc=>?_) (fun hc=>?_)
 ·have hlt:k<l.length:=by simpa using hc
  have no:¬ (0≤l[k].xLo∧l[k].xLo≤l[k].xHi∧l[k].xHi≤top∧∀ j,(hj:j+1<l.length)→j+1=k→l[j].xHi+1<l[j+1].xLo)→κ false:=fun hh=>by
   rw [decide_eq_false (fun hs=>hh ?_)] at h
   ·exact h
   ·obtain ⟨e1,e2⟩:=zja.1 hs.2
    exact ⟨(e1 k hlt).1,(e1 k hlt).2.1,(e1 k hlt).2.2,fun j hj _=>e2 j hj⟩
  have yes:(0≤l[k].xLo∧l[k].xLo≤l[k].xHi∧l[k].xHi≤top∧∀ j,(hj:j+1<l.length)→j+1=k→l[j].xHi+1<l[j+1].xLo)→jA (k:Int) 1 (fun t=>next t):=fun ⟨q1,q2,q3,q4⟩ =>
   zz (by omega) (by omega) (hn hlt _ ⟨by simp,by omega,fun n hn hnk=>by
    by_cases e:n=k
    ·subst e;exact ⟨q1,q2,q3⟩
    ·exact h1 n hn (by omega),fun n hn hnk=>by
    by_cases e:n+1=k
    ·exact q4 n hn e
    ·exact h2 n hn (by omega)⟩)
  unfold jnW
  refine zq k rfl hlt (zq k rfl hlt (Ux (zn (fun e=>jg (no (fun f=>?_))) (fun e=>?_))))
  ·simp at e;omega
  simp at e
  refine zq k rfl hlt (Ux (zn (fun e2=>jg (no (fun f=>?_))) (fun e2=>?_)))
  ·simp at e2;omega
  simp at e2
  refine zn (fun e3=>?_) (fun e3=>?_)
  ·have hk0:0<k:=by simpa using e3
   have hp:=h1 (k - 1) (by omega) (by omega)
   refine zq k rfl hlt (Xh (by omega) (by omega) (zq (k - 1) (by omega) (by omega) (zz (by omega) (by omega) (zn (fun e4=>no (fun f=>?_)) (fun e4=>yes ⟨by omega,by omega,by omega,fun j hj hjk=>?_⟩)))))
   ·have:=f.2.2.2 (k - 1) (by omega) (by omega)
    simp at e4
    have ee:k - 1+1=k:=by omega
    simp only [ee] at this
    omega
   ·simp at e4
    obtain rfl:j=k - 1:=by omega
    have ee:k - 1+1=k:=by omega
    simp only [ee]
    omega
  ·have hk0:k=0:=by simpa using e3
   exact jC (yes ⟨by omega,by omega,by omega,fun j hj hjk=>by omega⟩)
 ·have hge:l.length≤k:=by simpa using hc
  have hs:St l top:=zja.2 ⟨fun n hn=>h1 n hn (by omega),fun n hn=>h2 n hn (by omega)⟩
  unfold jnW
  refine Ux (zn (fun e=>?_) (fun e=>by simp at e;omega))
  rw [show decide (SpV l top)=decide ((l.length:Int)≤40) from decide_eq_decide.2 ⟨fun q=>by have:=q.1;omega,fun q=>⟨by omega,hs⟩⟩] at h
  exact h
instance (l:List zg) (x:Int):Decidable (hv l x):=by unfold hv;infer_instance
end
section
open Go Go.Proofs
def bx (a:za):zM:=⟨[a.x0,a.x1,a.x2,a.x3]⟩
theorem UW {a:za} {κ:Bool→Prop} (h:κ (em4 a)):uM (bx a) κ:=by
 obtain ⟨x0,x1,x2,x3⟩:=a
 simp only [em4] at h
 unfold uM
 refine ⟨5,?_⟩
 refine jg (zq 0 rfl (by simp [bx]) (zn (fun e=>?_) (fun e=>zz (by decide) (by decide) ?_)))
 ·have:x0=[]:=by simpa [bx] using e
  subst this;simpa using h
 have e0:x0≠[]:=by simpa [bx] using e
 refine jg (zq 1 rfl (by simp [bx]) (zn (fun e=>?_) (fun e=>zz (by decide) (by decide) ?_)))
 ·have:x1=[]:=by simpa [bx] using e
  subst this;simpa using h
 have e1:x1≠[]:=by simpa [bx] using e
 refine jg (zq 2 rfl (by simp [bx]) (zn (fun e=>?_) (fun e=>zz (by decide) (by decide) ?_)))
 ·have:x2=[]:=by simpa [bx] using e
  subst this;simpa using h
 have e2:x2≠[]:=by simpa [bx] using e
 refine jg (zq 3 rfl (by simp [bx]) (zn (fun e=>?_) (fun e=>zz (by decide) (by decide) ?_)))
 ·have:x3=[]:=by simpa [bx] using e
  subst this;simpa using h
 have e3:x3≠[]:=by simpa [bx] using e
 refine jC ?_
 simpa [e0,e1,e2,e3] using h
theorem zcP {a b:za} (ha:B4 a) (hb:B4 b) {κ:zM→Prop} (h:κ (bx (xt a b))):xD (bx a) (bx b) κ:=by
 obtain ⟨p0,p1,p2,p3⟩:=ha
 obtain ⟨q0,q1,q2,q3⟩:=hb
 unfold xD
 refine ⟨5,?_⟩
 refine jg ?_
 unfold jnW
 refine zq 0 rfl (by simp [bx]) (zq 0 rfl (by simp [bx]) (ZK p0 q0 (by decide) (by decide) (by decide) (by decide) (js (by simp) (zz (by decide) (by decide) ?_))))
 refine jg ?_
 refine zq 1 rfl (by simp [bx]) (zq 1 rfl (by simp [bx]) (ZK p1 q1 (by decide) (by decide) (by decide) (by decide) (js (by simp) (zz (by decide) (by decide) ?_))))
 refine jg ?_
 refine zq 2 rfl (by simp [bx]) (zq 2 rfl (by simp [bx]) (ZK p2 q2 (by decide) (by decide) (by decide) (by decide) (js (by simp) (zz (by decide) (by decide) ?_))))
 refine jg ?_
 refine zq 3 rfl (by simp [bx]) (zq 3 rfl (by simp [bx]) (ZK p3 q3 (by decide) (by decide) (by decide) (by decide) (js (by simp) (zz (by decide) (by decide) ?_))))
 exact jC h
theorem zdG {κ:zM→Prop} (h:κ (bx Zq)):Z4 κ:=by
 unfold Z4
 refine ⟨5,?_⟩
 refine jg ?_
 unfold jnW
 refine xS (n:=(0:Int)) (by decide) (by decide) (js (by simp) (zz (by decide) (by decide) ?_))
 refine jg ?_
 refine xS (n:=(1:Int)) (by decide) (by decide) (js (by simp) (zz (by decide) (by decide) ?_))
 refine jg ?_
 refine xS (n:=(2:Int)) (by decide) (by decide) (js (by simp) (zz (by decide) (by decide) ?_))
 refine jg ?_
 refine xS (n:=(3:Int)) (by decide) (by decide) (js (by simp) (zz (by decide) (by decide) ?_))
 exact jC h
theorem yy {l:List (List zg)} (hl:l.length≤4294967296) (hl2:∀ x∈l,x.length≤4294967296) {κ:List (List zg)→Prop} (h:κ l):xZ l κ:=by
 unfold xZ
 refine zU l.length (fun s=>s.2) (fun k s=>s.2=(k:Int)∧k≤l.length∧s.1=l.take k) (fun k s h=>h.1) (fun k s h=>h.2.1) ?_ ⟨rfl,Nat.zero_le _,by simp⟩
 rintro k ⟨xs,t⟩ next ⟨rfl,hk,hx⟩ hn
 simp only at hx
 subst hx
 refine zn (fun hc=>?_) (fun hc=>?_)
 ·have hlt:k<l.length:=by simpa using hc
  have:=hl2 _ (List.getElem_mem hlt)
  refine zq k rfl hlt (js (by simp;omega) (js (by simp only [List.length_take,List.length_singleton];omega) (zz (by omega) (by omega) (hn hlt _ ⟨by simp,by omega,?_⟩))))
  rw [List.take_succ_eq_append_getElem hlt];rfl
 ·have hge:l.length≤k:=by simpa using hc
  rw [List.take_of_length_le hge];exact h
end
section
open Go Go.Proofs
def tsp (t:xj):List zg:=if t.xNot then yO [zg.mk t.xLo t.xHi] (top t.xField) else [zg.mk t.xLo t.xHi]
theorem zgL {lo hi t:Int} (h0:0≤lo) (h1:lo≤hi) (h2:hi≤t):St [zg.mk lo hi] t:=⟨UV h1,fun s hs=>by simp only [List.mem_singleton] at hs;subst hs;exact ⟨h0,h2⟩⟩
theorem zd9 {t:xj} (h:TV t):St (tsp t) (top t.xField):=by
 obtain ⟨h1,h2,h3,h4,h5⟩:=h
 unfold tsp
 split
 ·exact Yr (zgL h3 h4 h5)
 ·exact zgL h3 h4 h5
theorem ziN (lo hi t:Int):yO [zg.mk lo hi] t=(if 0<lo then [zg.mk 0 (lo - 1)] else [])++(if hi+1≤t then [zg.mk (hi+1) t] else []):=rfl
theorem zhx (t:xj):(tsp t).length≤2:=by
 unfold tsp
 split
 ·rw [ziN];simp only [List.length_append]
  split <;> split <;> simp
 ·simp
theorem zeP (a:List zg) (y:zg):(zZ a [y]).length≤a.length:=by
 induction a with
 | nil=>simp [zZ]
 | cons x a ih =>
  have e:zZ (x :: a) [y]=YP x y++zZ a [y]:=by simp [zZ]
  have h1:(YP x y).length≤1:=by unfold YP;split <;> simp
  rw [e];simp only [List.length_append,List.length_cons];omega
theorem zeU {y1 y2:zg} (hy:y1.xHi<y2.xLo):∀ {a:List zg},NF a→(zZ a [y1,y2]).length≤a.length+1
 | [],_=>by simp [zZ]
 | x :: a,h=>by
  have e:zZ (x :: a) [y1,y2]=YP x y1++YP x y2++zZ a [y1,y2]:=by simp [zZ]
  have h1:∀ y,(YP x y).length≤1:=fun y=>by unfold YP;split <;> simp
  have ih:=zeU hy (UZ h)
  rw [e];simp only [List.length_append,List.length_cons]
  have i1:=h1 y1
  have i2:=h1 y2
  by_cases c:max x.xLo y2.xLo≤min x.xHi y2.xHi
  ·have hg:=(List.pairwise_cons.1 h.2).1
   have e2:zZ a [y1,y2]=zZ a [y2]:=by
    have:∀ m:List zg,(∀ z∈m,y1.xHi<z.xLo)→zZ m [y1,y2]=zZ m [y2]:=by
     intro m
     induction m with
     | nil=>intro _;rfl
     | cons z m ihm =>
      intro hz
      have ez:YP z y1=[]:=by unfold YP;rw [if_neg (by have:=hz z (by simp);omega)]
      have:=ihm (fun u hu=>hz u (by simp [hu]))
      simp only [zZ,List.flatMap_cons,List.flatMap_nil,List.append_nil] at this ⊢
      rw [ez,this];simp
    exact this a (fun z hz=>by have:=hg z hz;omega)
   have:=zeP a y2
   rw [e2];omega
  ·have:YP x y2=[]:=by unfold YP;rw [if_neg c]
   rw [this];simp only [List.length_nil];omega
theorem zgB {a b:List zg} (ha:NF a) (hb:NF b) (h:b.length≤2):(zZ a b).length≤a.length+1:=by
 match b,h,hb with
 | [],_,_ =>
  have:zZ a []=[]:=by simp [zZ]
  rw [this];simp
 | [y],_,_=>have:=zeP a y;omega
 | [y1,y2],_,hb =>
  have:=(List.pairwise_cons.1 hb.2).1 y2 (by simp)
  exact zeU (by omega) ha
theorem zck {t:xj} (ht:TV t) {κ:List zg→Prop} (h:κ (tsp t)):u0 t κ:=by
 obtain ⟨h1,h2,h3,h4,h5⟩:=ht
 have:=zay t.xField
 unfold tsp at h
 unfold u0
 refine zn (fun e=>?_) (fun e=>?_)
 ·have e':t.xNot=false:=by simpa using e
  rw [e'] at h;simpa using h
 ·have e':t.xNot=true:=by simpa using e
  rw [e',if_pos rfl,ziN] at h
  unfold jnW
  refine zn (fun c=>?_) (fun c=>?_)
  ·have c':0<t.xLo:=by simpa using c
   rw [if_pos c'] at h
   refine Xh (by omega) (by omega) (js (by simp) (Zp h1 h2 (zn (fun d=>?_) (fun d=>?_))))
   ·have d':t.xHi<top t.xField:=by simpa using d
    rw [if_pos (by omega)] at h
    exact zz (by omega) (by omega) (js (by simp) (by simpa using h))
   ·have d':¬ t.xHi<top t.xField:=by simpa using d
    rw [if_neg (by omega)] at h
    simpa using h
  ·have c':¬ 0<t.xLo:=by simpa using c
   rw [if_neg c'] at h
   refine Zp h1 h2 (zn (fun d=>?_) (fun d=>?_))
   ·have d':t.xHi<top t.xField:=by simpa using d
    rw [if_pos (by omega)] at h
    exact zz (by omega) (by omega) (js (by simp) (by simpa using h))
   ·have d':¬ t.xHi<top t.xField:=by simpa using d
    rw [if_neg (by omega)] at h
    simpa using h
theorem zcZ {t:xj} (ht:TV t) {κ:List zg→Prop} (h:κ (tsp t)):yd t κ:=by
 have ht':=ht
 obtain ⟨h1,h2,h3,h4,h5⟩:=ht
 have:=zay t.xField
 unfold yd
 refine VE ?_
 rw [decide_eq_true ht']
 refine jC (zn (fun e=>?_) (fun e=>?_))
 ·unfold tsp at h;rw [if_pos e] at h
  exact xS h1 h2 (Vx (zgL h3 h4 h5) (by omega) (by omega) h)
 ·unfold tsp at h;rw [if_neg (by simpa using e)] at h
  exact h
def L4 (a:za):List (List zg):=[a.x0,a.x1,a.x2,a.x3]
def uq (a:za) (f:Int):List zg:=if f=0 then a.x0 else if f=1 then a.x1 else if f=2 then a.x2 else a.x3
def YK (a:za) (f:Int) (x:List zg):za:=if f=0 then ⟨x,a.x1,a.x2,a.x3⟩ else if f=1 then ⟨a.x0,x,a.x2,a.x3⟩ else if f=2 then ⟨a.x0,a.x1,x,a.x3⟩ else ⟨a.x0,a.x1,a.x2,x⟩
theorem yS {a:za} {f:Int} {κ:List zg→Prop} (h0:0≤f) (h1:f≤3) (h:κ (uq a f)):zK (L4 a) f κ:=by
 rcases zdO h0 h1 with rfl | rfl | rfl | rfl
 ·exact zq 0 rfl (by simp [L4]) h
 ·exact zq 1 rfl (by simp [L4]) h
 ·exact zq 2 rfl (by simp [L4]) h
 ·exact zq 3 rfl (by simp [L4]) h
theorem U9 {a:za} {f:Int} {x:List zg} (h0:0≤f) (h1:f≤3):(L4 a).set f.toNat x=L4 (YK a f x):=by
 rcases zdO h0 h1 with rfl | rfl | rfl | rfl <;> rfl
theorem Yd {a:za} (ha:B4 a) {f:Int} (h0:0≤f) (h1:f≤3):St (uq a f) (top f):=by
 obtain ⟨p0,p1,p2,p3⟩:=ha
 rcases zdO h0 h1 with rfl | rfl | rfl | rfl
 ·exact p0
 ·exact p1
 ·exact p2
 ·exact p3
theorem zhN {a:za} (ha:B4 a) {f:Int} (h0:0≤f) (h1:f≤3) {x:List zg} (hx:St x (top f)):B4 (YK a f x):=by
 obtain ⟨p0,p1,p2,p3⟩:=ha
 rcases zdO h0 h1 with rfl | rfl | rfl | rfl
 ·exact ⟨hx,p1,p2,p3⟩
 ·exact ⟨p0,hx,p2,p3⟩
 ·exact ⟨p0,p1,hx,p3⟩
 ·exact ⟨p0,p1,p2,hx⟩
def le4 (a:za) (n:Nat):Prop:=∀ f,0≤f→f≤3→(uq a f).length≤n
theorem zhl {a:za} {n m:Nat} (h:le4 a n) {f:Int} (h0:0≤f) (h1:f≤3) {x:List zg} (hx:x.length≤m) (hm:n≤m):le4 (YK a f x) m:=by
 intro g g0 g1
 have k:=h g g0 g1
 rcases zdO h0 h1 with rfl | rfl | rfl | rfl <;> rcases zdO g0 g1 with rfl | rfl | rfl | rfl <;> first | exact hx | exact Nat.le_trans k hm
theorem zft {a:za} (h:le4 a 40):F4 a:=⟨h 0 (by decide) (by decide),h 1 (by decide) (by decide),h 2 (by decide) (by decide),h 3 (by decide) (by decide)⟩
def zi8 (a:za) (t:xj):za:=YK a t.xField (zZ (uq a t.xField) (tsp t))
def ZL (ts:List xj):za:=ts.foldl zi8 Zq
theorem zfM:∀ (ts:List xj) (a:za) (n:Nat),(∀ t∈ts,TV t)→B4 a→le4 a n→B4 (ts.foldl zi8 a)∧le4 (ts.foldl zi8 a) (n+ts.length)
 | [],a,n,_,ha,hn=>⟨ha,hn⟩
 | t :: ts,a,n,h,ha,hn=>by
  have ht:=h t (by simp)
  have hs:=Yd ha ht.1 ht.2.1
  have:=zfM ts (zi8 a t) (n+1) (fun u hu=>h u (by simp [hu])) (zhN ha ht.1 ht.2.1 (ZZ hs (zd9 ht).1))
   (zhl hn ht.1 ht.2.1 (Nat.le_trans (zgB hs.1 (zd9 ht).1 (zhx t)) (by have:=hn _ ht.1 ht.2.1;omega)) (by omega))
  refine ⟨this.1,?_⟩
  have e:n+(t :: ts).length=n+1+ts.length:=by simp only [List.length_cons];omega
  rw [e];exact this.2
theorem zdk:le4 Zq 1:=fun f h0 h1=>by
 rcases zdO h0 h1 with rfl | rfl | rfl | rfl <;> decide
theorem zb1 {ts:List xj} (h:∀ t∈ts,TV t):B4 (ZL ts):=(zfM ts Zq 1 h zbp zdk).1
theorem zjU {ts:List xj} (h:∀ t∈ts,TV t):le4 (ZL ts) (1+ts.length):=(zfM ts Zq 1 h zbp zdk).2
theorem ze5 (ts:List xj) (t:xj):ZL (ts++[t])=zi8 (ZL ts) t:=by simp [ZL]
theorem zfs {ts:List xj} (hts:TsV ts) {κ:za→Prop} (hκ:κ (ZL ts)):Xd ts κ:=by
 have h:=hts.1
 have hl:=hts.2
 unfold Xd
 refine zbj ?_
 refine zU ts.length (fun s=>s.2) (fun k s=>s.2=(k:Int)∧k≤ts.length∧s.1=L4 (ZL (ts.take k))) (fun k s h=>h.1) (fun k s h=>h.2.1) ?_ ⟨rfl,Nat.zero_le _,by simp [ZL,L4]⟩
 rintro k ⟨xs,t⟩ next ⟨rfl,hk,hx⟩ hn
 simp only at hx
 subst hx
 refine zn (fun hc=>?_) (fun hc=>?_)
 ·have hlt:k<ts.length:=by simpa using hc
  have ht:=h _ (List.getElem_mem hlt)
  have hpre:∀ t∈ts.take k,TV t:=fun t ht=>h t (List.mem_of_mem_take ht)
  have hb:=zb1 hpre
  have hs:=Yd hb ht.1 ht.2.1
  have hle:=zjU hpre _ ht.1 ht.2.1
  have hml:=zgB hs.1 (zd9 ht).1 (zhx ts[k])
  have htop:=zay ts[k].xField
  simp only [List.length_take] at hle
  have hlim:lim (zZ (uq (ZL (ts.take k)) ts[k].xField) (tsp ts[k]))=(zZ (uq (ZL (ts.take k)) ts[k].xField) (tsp ts[k]),true):=by
   unfold lim;rw [if_neg (by omega)]
  refine zq k rfl hlt ?_
  unfold jnW
  have fin:zE (uq (ZL (ts.take k)) ts[k].xField) (tsp ts[k]) (top ts[k].xField) (fun (r49,r51)=>zK (L4 (ZL (ts.take k))) ts[k].xField (fun e52=>jA (k:Int) 1 (fun t76=>next ((L4 (ZL (ts.take k))).set (ts[k].xField).toNat r49,t76)))):=by
   refine Yq hs (zd9 ht) (by omega) (by omega) ?_
   rw [hlim]
   refine yS ht.1 ht.2.1 (zz (by omega) (by omega) (hn hlt _ ⟨by simp,by omega,?_⟩))
   simp only
   rw [U9 ht.1 ht.2.1,List.take_succ_eq_append_getElem hlt,ze5];rfl
  exact ⟨yS ht.1 ht.2.1 (zck ht (Zp ht.1 ht.2.1 fin)),zck ht ⟨yS ht.1 ht.2.1 (Zp ht.1 ht.2.1 fin),Zp ht.1 ht.2.1 (yS ht.1 ht.2.1 fin)⟩⟩
 ·have hge:ts.length≤k:=by simpa using hc
  rw [List.take_of_length_le hge]
  exact ⟨_,_,_,_,rfl,hκ⟩
theorem zgQ {ts:List xj} (hts:TsV ts) {κ:zM→Prop} (hκ:κ (bx (ZL ts))):Yi ts κ:=by
 have h:=hts.1
 have hl:=hts.2
 unfold Yi
 refine U4 (by omega) ?_
 rw [decide_eq_true hts]
 refine jC (zdG ?_)
 refine zU ts.length (fun s=>s.2) (fun k s=>s.2=(k:Int)∧k≤ts.length∧s.1=L4 (ZL (ts.take k))) (fun k s h=>h.1) (fun k s h=>h.2.1) ?_ ⟨rfl,Nat.zero_le _,by simp [ZL,L4,bx]⟩
 rintro k ⟨xs,t⟩ next ⟨rfl,hk,hx⟩ hn
 simp only at hx
 subst hx
 refine zn (fun hc=>?_) (fun hc=>?_)
 ·have hlt:k<ts.length:=by simpa using hc
  have ht:=h _ (List.getElem_mem hlt)
  have hpre:∀ t∈ts.take k,TV t:=fun t ht=>h t (List.mem_of_mem_take ht)
  have hb:=zb1 hpre
  have hs:=Yd hb ht.1 ht.2.1
  have htop:=zay ts[k].xField
  refine zq k rfl hlt ?_
  unfold jnW
  refine zq k rfl hlt ?_
  have fin:xO (uq (ZL (ts.take k)) ts[k].xField) (tsp ts[k]) (fun r40=>zK (L4 (ZL (ts.take k))) ts[k].xField (fun e42=>jA (k:Int) 1 (fun t58=>next ((L4 (ZL (ts.take k))).set (ts[k].xField).toNat r40,t58)))):=by
   refine ZK hs (zd9 ht) (by omega) (by omega) (by omega) (by omega) ?_
   refine yS ht.1 ht.2.1 (zz (by omega) (by omega) (hn hlt _ ⟨by simp,by omega,?_⟩))
   simp only
   rw [U9 ht.1 ht.2.1,List.take_succ_eq_append_getElem hlt,ze5];rfl
  exact ⟨yS ht.1 ht.2.1 (zcZ ht fin),zcZ ht (yS ht.1 ht.2.1 fin)⟩
 ·have hge:ts.length≤k:=by simpa using hc
  rw [List.take_of_length_le hge]
  exact hκ
def pc (r:List zg) (a:za):List za:=if r=[] then [] else [a]
def XT (a b:za):List za :=
 if em4 (xt a b) then (if em4 a then [] else [a]) else
 pc (xF a.x0 b.x0 65535) ⟨xF a.x0 b.x0 65535,a.x1,a.x2,a.x3⟩ ++
 pc (xF a.x1 b.x1 65535) ⟨zZ a.x0 b.x0,xF a.x1 b.x1 65535,a.x2,a.x3⟩ ++
 pc (xF a.x2 b.x2 255) ⟨zZ a.x0 b.x0,zZ a.x1 b.x1,xF a.x2 b.x2 255,a.x3⟩ ++
 pc (xF a.x3 b.x3 7) ⟨zZ a.x0 b.x0,zZ a.x1 b.x1,zZ a.x2 b.x2,xF a.x3 b.x3 7⟩
theorem Vm {a b:List zg} {t:Int} (ha:St a t) (hb:St b t):St (xF a b t) t:=ZZ ha (Yr hb).1
theorem zkd {a b:za} (ha:B4 a) (hb:B4 b):∀ c∈XT a b,B4 c:=by
 have hm:=zbZ ha hb
 intro c hc
 unfold XT at hc
 split at hc
 ·split at hc
  ·simp at hc
  ·simp only [List.mem_singleton] at hc;subst hc;exact ha
 ·simp only [List.mem_append,or_assoc] at hc
  have pcm:∀ {r:List zg} {d:za},c∈pc r d→c=d:=fun {r d} h=>by unfold pc at h;split at h <;> simp at h;exact h
  rcases hc with h | h | h | h
  ·rw [pcm h];exact ⟨Vm ha.1 hb.1,ha.2.1,ha.2.2.1,ha.2.2.2⟩
  ·rw [pcm h];exact ⟨hm.1,Vm ha.2.1 hb.2.1,ha.2.2.1,ha.2.2.2⟩
  ·rw [pcm h];exact ⟨hm.1,hm.2.1,Vm ha.2.2.1 hb.2.2.1,ha.2.2.2⟩
  ·rw [pcm h];exact ⟨hm.1,hm.2.1,hm.2.2.1,Vm ha.2.2.2 hb.2.2.2⟩
theorem UU (r:List zg) (a:za):(pc r a).length≤1:=by unfold pc;split <;> simp
theorem zan (a b:za):(XT a b).length≤4:=by
 unfold XT
 split
 ·split <;> simp
 ·simp only [List.length_append]
  have:=UU (xF a.x0 b.x0 65535) ⟨xF a.x0 b.x0 65535,a.x1,a.x2,a.x3⟩
  have:=UU (xF a.x1 b.x1 65535) ⟨zZ a.x0 b.x0,xF a.x1 b.x1 65535,a.x2,a.x3⟩
  have:=UU (xF a.x2 b.x2 255) ⟨zZ a.x0 b.x0,zZ a.x1 b.x1,xF a.x2 b.x2 255,a.x3⟩
  have:=UU (xF a.x3 b.x3 7) ⟨zZ a.x0 b.x0,zZ a.x1 b.x1,zZ a.x2 b.x2,xF a.x3 b.x3 7⟩
  omega
theorem zfR {l:List zg} {t:Int} (h:St l t) (h0:0≤t) (ht:t≤65535):l.length≤4294967296:=by
 have:=UO h (by omega);omega
theorem zbn {a:za} (h:B4 a):∀ x∈L4 a,x.length≤4294967296:=by
 obtain ⟨p0,p1,p2,p3⟩:=h
 intro x hx
 simp only [L4,List.mem_cons,List.not_mem_nil,or_false] at hx
 rcases hx with rfl | rfl | rfl | rfl
 ·exact zfR p0 (by decide) (by decide)
 ·exact zfR p1 (by decide) (by decide)
 ·exact zfR p2 (by decide) (by decide)
 ·exact zfR p3 (by decide) (by decide)
theorem jU {σ:Type} {K:σ→Prop} {B:(σ→Prop)→Prop} (h:B K):jnW K B:=h
theorem VT {a:za} (ha:B4 a) {t:Int} (h0:0≤t) (h1:t≤3) {r:List zg} {out:List zM} (ho:out.length≤1000) {K:List zM→Prop} (h:K (out++(pc r (YK a t r)).map bx)) :
  jnW K (fun k235=>ifW (decide (0<(r.length:Int))) (xZ (L4 a) (fun r149=>zK r149 t (fun _=>jJ out ([(zM.mk (r149.set (t).toNat r))]) (fun _=>k235 (out++([(zM.mk (r149.set (t).toNat r))])))))) (k235 out)):=by
 refine zn (fun e=>?_) (fun e=>?_)
 ·have hr:r≠[]:=by intro f;subst f;simp at e
  refine yy (by simp [L4]) (zbn ha) (yS h0 h1 (js (by simp only [List.length_singleton];omega) ?_))
  unfold pc at h
  rw [if_neg hr] at h
  rw [U9 h0 h1];exact h
 ·have hr:r=[]:=by simpa using e
  unfold pc at h
  rw [if_pos hr] at h
  simpa using h
theorem zdU {a b:za} (ha:B4 a) (hb:B4 b) {κ:List zM→Prop} (h:κ ((XT a b).map bx)):yI (bx a) (bx b) κ:=by
 unfold yI
 refine zcP ha hb (UW (zn (fun e=>?_) (fun e=>?_)))
 ·unfold XT at h;rw [if_pos e] at h
  unfold jnW
  refine UW (zn (fun e2=>?_) (fun e2=>?_))
  ·rw [if_neg (by simpa using e2)] at h;exact js (by simp) h
  ·rw [if_pos (by simpa using e2)] at h;exact h
 unfold XT at h;rw [if_neg (by simp [e])] at h
 clear e
 obtain ⟨a0,a1,a2,a3⟩:=a
 obtain ⟨b0,b1,b2,b3⟩:=b
 have ha0:=ha
 obtain ⟨p0,p1,p2,p3⟩:=ha
 obtain ⟨q0,q1,q2,q3⟩:=hb
 simp only at p0 p1 p2 p3 q0 q1 q2 q3 h
 have m0:=ZZ p0 q0.1
 have m1:=ZZ p1 q1.1
 have m2:=ZZ p2 q2.1
 refine ⟨5,?_⟩
 refine jg (jU (jU ?_))
 refine zq 0 rfl (by simp [L4,bx]) (zq 0 rfl (by simp [L4,bx]) (xS (n:=(0:Int)) (by decide) (by decide) (Vx (top:=65535) q0 (by decide) (by decide) (ZK p0 (Yr q0) (by decide) (by decide) (by decide) (by decide) ?_))))
 refine zq 0 rfl (by simp [L4,bx]) (zq 0 rfl (by simp [L4,bx]) (ZK p0 q0 (by decide) (by decide) (by decide) (by decide) (VT (a:=⟨a0,a1,a2,a3⟩) ha0 (t:=(0:Int)) (by decide) (by decide) (by simp) ?_)))
 refine yy (l:=L4 ⟨a0,a1,a2,a3⟩) (by simp [L4,bx]) (zbn ha0) (yS (a:=⟨a0,a1,a2,a3⟩) (f:=(0:Int)) (by decide) (by decide) (zz (by decide) (by decide) ?_))
 have c1:B4 ⟨zZ a0 b0,a1,a2,a3⟩:=⟨m0,p1,p2,p3⟩
 refine jg (jU (jU ?_))
 refine zq 1 rfl (by simp [L4,bx]) (zq 1 rfl (by simp [L4,bx]) (xS (n:=(1:Int)) (by decide) (by decide) (Vx (top:=65535) q1 (by decide) (by decide) (ZK p1 (Yr q1) (by decide) (by decide) (by decide) (by decide) ?_))))
 refine zq 1 rfl (by simp [L4,bx]) (zq 1 rfl (by simp [L4,bx]) (ZK p1 q1 (by decide) (by decide) (by decide) (by decide) (VT (a:=⟨zZ a0 b0,a1,a2,a3⟩) c1 (t:=(1:Int)) (by decide) (by decide) (by have:=UU (zZ a0 (yO b0 65535)) (YK ⟨a0,a1,a2,a3⟩ 0 (zZ a0 (yO b0 65535)));simp only [List.length_append,List.length_map,List.length_nil];omega) ?_)))
 refine yy (l:=L4 ⟨zZ a0 b0,a1,a2,a3⟩) (by simp [L4,bx]) (zbn c1) (yS (a:=⟨zZ a0 b0,a1,a2,a3⟩) (f:=(1:Int)) (by decide) (by decide) (zz (by decide) (by decide) ?_))
 have c2:B4 ⟨zZ a0 b0,zZ a1 b1,a2,a3⟩:=⟨m0,m1,p2,p3⟩
 refine jg (jU (jU ?_))
 refine zq 2 rfl (by simp [L4,bx]) (zq 2 rfl (by simp [L4,bx]) (xS (n:=(2:Int)) (by decide) (by decide) (Vx (top:=255) q2 (by decide) (by decide) (ZK p2 (Yr q2) (by decide) (by decide) (by decide) (by decide) ?_))))
 refine zq 2 rfl (by simp [L4,bx]) (zq 2 rfl (by simp [L4,bx]) (ZK p2 q2 (by decide) (by decide) (by decide) (by decide) (VT (a:=⟨zZ a0 b0,zZ a1 b1,a2,a3⟩) c2 (t:=(2:Int)) (by decide) (by decide) (by
  have:=UU (zZ a0 (yO b0 65535)) (YK ⟨a0,a1,a2,a3⟩ 0 (zZ a0 (yO b0 65535)))
  have:=UU (zZ a1 (yO b1 65535)) (YK ⟨zZ a0 b0,a1,a2,a3⟩ 1 (zZ a1 (yO b1 65535)))
  simp only [List.length_append,List.length_map,List.length_nil];omega) ?_)))
 refine yy (l:=L4 ⟨zZ a0 b0,zZ a1 b1,a2,a3⟩) (by simp [L4,bx]) (zbn c2) (yS (a:=⟨zZ a0 b0,zZ a1 b1,a2,a3⟩) (f:=(2:Int)) (by decide) (by decide) (zz (by decide) (by decide) ?_))
 have c3:B4 ⟨zZ a0 b0,zZ a1 b1,zZ a2 b2,a3⟩:=⟨m0,m1,m2,p3⟩
 refine jg (jU (jU ?_))
 refine zq 3 rfl (by simp [L4,bx]) (zq 3 rfl (by simp [L4,bx]) (xS (n:=(3:Int)) (by decide) (by decide) (Vx (top:=7) q3 (by decide) (by decide) (ZK p3 (Yr q3) (by decide) (by decide) (by decide) (by decide) ?_))))
 refine zq 3 rfl (by simp [L4,bx]) (zq 3 rfl (by simp [L4,bx]) (ZK p3 q3 (by decide) (by decide) (by decide) (by decide) (VT (a:=⟨zZ a0 b0,zZ a1 b1,zZ a2 b2,a3⟩) c3 (t:=(3:Int)) (by decide) (by decide) (by
  have:=UU (zZ a0 (yO b0 65535)) (YK ⟨a0,a1,a2,a3⟩ 0 (zZ a0 (yO b0 65535)))
  have:=UU (zZ a1 (yO b1 65535)) (YK ⟨zZ a0 b0,a1,a2,a3⟩ 1 (zZ a1 (yO b1 65535)))
  have:=UU (zZ a2 (yO b2 255)) (YK ⟨zZ a0 b0,zZ a1 b1,a2,a3⟩ 2 (zZ a2 (yO b2 255)))
  simp only [List.length_append,List.length_map,List.length_nil];omega) ?_)))
 refine yy (l:=L4 ⟨zZ a0 b0,zZ a1 b1,zZ a2 b2,a3⟩) (by simp [L4,bx]) (zbn c3) (yS (a:=⟨zZ a0 b0,zZ a1 b1,zZ a2 b2,a3⟩) (f:=(3:Int)) (by decide) (by decide) (zz (by decide) (by decide) ?_))
 refine jC ?_
 simp only [List.map_append] at h
 exact h
end
section
open Go Go.Proofs
def hdm (a b:za) (k:Nat):za:=⟨if 0<k then zZ a.x0 b.x0 else a.x0,if 1<k then zZ a.x1 b.x1 else a.x1,if 2<k then zZ a.x2 b.x2 else a.x2,if 3<k then zZ a.x3 b.x3 else a.x3⟩
def rst (a b:za) (k:Nat):List zg:=xF (uq a k) (uq b k) (top k)
def mt (a b:za) (k:Nat):List zg:=zZ (uq a k) (uq b k)
def pcn (a b:za) (k:Nat):List za:=pc (rst a b k) (YK (hdm a b k) k (rst a b k))
def pcs (a b:za) (k:Nat):List za:=(List.range k).flatMap (pcn a b)
theorem UT (a b:za) (k:Nat):pcs a b (k+1)=pcs a b k++pcn a b k:=by simp [pcs,List.range_succ]
theorem ziT (a b:za):pcs a b 4=pc (xF a.x0 b.x0 65535) ⟨xF a.x0 b.x0 65535,a.x1,a.x2,a.x3⟩ ++
 pc (xF a.x1 b.x1 65535) ⟨zZ a.x0 b.x0,xF a.x1 b.x1 65535,a.x2,a.x3⟩ ++
 pc (xF a.x2 b.x2 255) ⟨zZ a.x0 b.x0,zZ a.x1 b.x1,xF a.x2 b.x2 255,a.x3⟩ ++
 pc (xF a.x3 b.x3 7) ⟨zZ a.x0 b.x0,zZ a.x1 b.x1,zZ a.x2 b.x2,xF a.x3 b.x3 7⟩:=by
 rw [UT,UT,UT,UT];rfl
theorem zju {a b:za} (h:em4 (xt a b)=false):XT a b=pcs a b 4:=by
 unfold XT;rw [if_neg (by simp [h]),ziT]
theorem US {k:Nat} (h:k<4):k=0∨k=1∨k=2∨k=3:=by omega
theorem zjR (a b:za) {k:Nat} (h:k<4):∀ c∈pcn a b k,c∈pcs a b 4:=fun c hc=>by
 unfold pcs;exact List.mem_flatMap.2 ⟨k,by simpa using h,hc⟩
theorem zjA (a b:za) {k:Nat} (h:k<4):YK (hdm a b k) k (mt a b k)=hdm a b (k+1):=by
 rcases US h with rfl | rfl | rfl | rfl <;> rfl
theorem zld {a b:za} (ha:F4 a) {k:Nat} (h:k<4) {r:List zg}:F4 (YK (hdm a b k) k r)↔r.length≤40∧∀ j,j<k→(mt a b j).length≤40:=by
 obtain ⟨h0,h1,h2,h3⟩:=ha
 rcases US h with rfl | rfl | rfl | rfl
 ·constructor
  ·intro q;exact ⟨q.1,fun j hj=>by omega⟩
  ·intro q;exact ⟨q.1,h1,h2,h3⟩
 ·constructor
  ·intro q
   refine ⟨q.2.1,fun j hj=>?_⟩
   have ej:j=0:=by omega
   subst ej
   exact q.1
  ·intro q;exact ⟨q.2 0 (by omega),q.1,h2,h3⟩
 ·constructor
  ·intro q
   refine ⟨q.2.2.1,fun j hj=>?_⟩
   obtain rfl | rfl:j=0∨j=1:=by omega
   ·exact q.1
   ·exact q.2.1
  ·intro q;exact ⟨q.2 0 (by omega),q.2 1 (by omega),q.1,h3⟩
 ·constructor
  ·intro q
   refine ⟨q.2.2.2,fun j hj=>?_⟩
   obtain rfl | rfl | rfl:j=0∨j=1∨j=2:=by omega
   ·exact q.1
   ·exact q.2.1
   ·exact q.2.2.1
  ·intro q;exact ⟨q.2 0 (by omega),q.2 1 (by omega),q.2 2 (by omega),q.1⟩
theorem zdz {σ:Type} {K:σ→Prop} {B:(σ→Prop)→Prop} (P:σ→Prop) (h1:∀ r,P r→K r) (h2:∀ K',(∀ r,P r→K' r)→B K'):jnW K B:=h2 K h1
def zdW (a b:za):List za×Bool:=if ∀ c∈XT a b,F4 c then (XT a b,true) else ([],false)
theorem zee {a b:za} (ha:B4 a) (hb:B4 b) (hf:F4 a) {κ:List za×Bool→Prop} (h:κ (zdW a b)):ye a b κ:=by
 have yes:(∀ c∈XT a b,F4 c)→κ (zlp (some (XT a b))):=fun q=>by
  unfold zdW at h;rw [if_pos q] at h;exact h
 have no:(¬ ∀ c∈XT a b,F4 c)→κ (zlp none):=fun q=>by
  unfold zdW at h;rw [if_neg q] at h;exact h
 clear h
 unfold ye Z6
 refine zdJ (zn (fun e=>?_) (fun e=>zcS ha hb (zn (fun e2=>?_) (fun e2=>?_))))
 ·have hc:XT a b=[]:=by
   have:em4 (xt a b)=true:=by
    simp only [em4,decide_eq_true_eq,xt] at e ⊢
    rcases e with e | e | e | e <;> simp [e,zZ]
   unfold XT;rw [if_pos this,if_pos e]
  rw [hc] at yes;exact yes (by simp)
 ·have hc:XT a b=[a]:=by
   unfold XT;rw [if_pos (by simpa using e2),if_neg (by simp [e])]
  rw [hc] at yes
  refine jg (js (by simp) ?_)
  exact yes (by simpa using hf)
 have e3:em4 (xt a b)=false:=by simpa using e2
 rw [zju e3] at yes no
 clear e e2 e3
 refine zU 4 (fun s=>s.2.2.2) (fun k (s:List (List zg)×Option (List za)×Bool×Int)=>s.2.2.2=(k:Int)∧k≤4∧(∃ hd,s.1=L4 hd∧(s.2.2.1=true→hd=hdm a b k))∧(s.2.2.1=true↔∀ j,j<k→(mt a b j).length≤40)∧s.2.1=some (pcs a b k)∧∀ c∈pcs a b k,F4 c) (fun k s h=>h.1) (fun k s h=>h.2.1) ?_ ⟨rfl,by omega,⟨a,rfl,fun _=>rfl⟩,by simp,rfl,by simp [pcs]⟩
 rintro k ⟨xs,z,fits,_⟩ next ⟨rfl,hk,⟨hd,hxs,hfx⟩,hfit,hz,hpre⟩ hn
 simp only at hxs hfx hfit hz
 subst hxs hz
 refine zn (fun hc=>?_) (fun hc=>?_)
 rotate_left
 ·have hge:4≤(k:Int):=by simpa using hc
  obtain rfl:k=4:=by omega
  exact yes hpre
 have hlt:k<4:=by
  have:(k:Int)<4:=by simpa using hc
  omega
 have k0:(0:Int)≤k:=by omega
 have k3:(k:Int)≤3:=by omega
 have sa:=Yd ha k0 k3
 have sb:=Yd hb k0 k3
 have tl:=zay k
 have fin2:∀ (z':List za) (hd':za),z'=pcs a b (k+1)→(∀ c∈z',F4 c)→(fits=true→hd'=hdm a b k)→∀ l ok,(l,ok)=lim (mt a b k)→zK (L4 hd') k (fun e432=>ifW fits (jA (k:Int) 1 (fun t505=>next ((L4 hd').set (k:Int).toNat l,some z',ok,t505))) (jA (k:Int) 1 (fun t505=>next ((L4 hd').set (k:Int).toNat l,some z',false,t505)))):=by
  intro z' hd' hz' hF hh l ok hl
  subst hz'
  refine yS k0 k3 (zn (fun e=>?_) (fun e=>?_))
  ·refine zz (by omega) (by omega) (hn hlt _ ⟨by simp,by omega,⟨YK hd' k l,U9 k0 k3,fun q=>?_⟩,?_,rfl,hF⟩)
   ·simp only at q
    rw [hh e]
    unfold lim at hl
    split at hl
    ·injection hl with _ h2;rw [q] at h2;cases h2
    ·injection hl with h1 _;rw [h1,zjA a b hlt]
   ·simp only
    unfold lim at hl
    constructor
    ·intro q j hj
     by_cases ej:j=k
     ·subst ej
      split at hl
      ·injection hl with _ h2;rw [q] at h2;cases h2
      ·omega
     ·exact hfit.1 e j (by omega)
    ·intro q
     have:=q k (by omega)
     rw [if_neg (by omega)] at hl
     injection hl
  ·refine zz (by omega) (by omega) (hn hlt _ ⟨by simp,by omega,⟨YK hd' k l,U9 k0 k3,fun q=>by cases q⟩,?_,rfl,hF⟩)
   simp only
   constructor
   ·intro q;cases q
   ·intro q
    have:=hfit.2 (fun j hj=>q j (by omega))
    rw [this] at e;cases e
 have piece:rst a b k≠[]→YK (hdm a b k) k (rst a b k)∈pcs a b 4:=fun q=>zjR a b hlt _ (by unfold pcn pc;rw [if_neg q];simp)
 refine jU (zdz (fun r=>r=lim (rst a b k)) ?_ ?_)
 rotate_left
 ·intro K hK
  have leaf:jo (uq a k) (uq b k) (top k) K:=zf8 sa sb (by omega) (by omega) (hK _ rfl)
  refine ⟨yS k0 k3 ⟨?_,?_⟩,yS k0 k3 ⟨?_,?_⟩,Zp k0 k3 ⟨?_,?_⟩⟩
  ·exact yS k0 k3 (Zp k0 k3 leaf)
  ·exact Zp k0 k3 (yS k0 k3 leaf)
  ·exact yS k0 k3 (Zp k0 k3 leaf)
  ·exact Zp k0 k3 (yS k0 k3 leaf)
  ·exact yS k0 k3 (yS k0 k3 leaf)
  ·exact yS k0 k3 (yS k0 k3 leaf)
 rintro ⟨l,okl⟩ hl
 refine zdz (fun t=>t=(!okl || (decide (0<(l.length:Int)) && !fits))) ?_ ?_
 rotate_left
 ·intro K hK
  have hK:=hK _ rfl
  refine zn (fun e=>?_) (fun e=>?_)
  ·have:okl=false:=by simpa using e
   rw [this] at hK;simpa using hK
  ·have:okl=true:=by simpa using e
   rw [this] at hK
   refine zn (fun e=>?_) (fun e=>?_)
   ·rw [e] at hK;simpa using hK
   ·rw [e] at hK;simpa using hK
 rintro t rfl
 refine zn (fun e=>?_) (fun e=>?_)
 ·
  refine jC (no (fun q=>?_))
  unfold lim at hl
  split at hl
  ·rename_i h40
   have hne:rst a b k≠[]:=fun f=>by rw [f] at h40;simp at h40
   have:=((zld hf hlt).1 (q _ (piece hne))).1
   omega
  ·rename_i h40
   injection hl with h1 h2
   subst h1 h2
   have e':0<(rst a b k).length∧fits=false:=by simpa using e
   have hne:rst a b k≠[]:=fun f=>by rw [f] at e';simp at e'
   have:=hfit.2 ((zld hf hlt).1 (q _ (piece hne))).2
   rw [this] at e';simp at e'
 unfold lim at hl
 split at hl
 ·injection hl with h1 h2
  subst h1 h2
  simp at e
 rename_i h40
 injection hl with h1 h2
 subst h1 h2
 have e':rst a b k≠[]→fits=true:=fun q=>by
  cases fits with
  | true=>rfl
  | false =>
   have:0<(rst a b k).length:=List.length_pos_iff.2 q
   simp [this] at e
 clear e
 refine zdz (fun s=>s.1=some (pcs a b (k+1))∧(∀ c∈pcs a b (k+1),F4 c)∧∃ hd',s.2=L4 hd'∧(fits=true→hd'=hdm a b k)) ?_ ?_
 ·rintro ⟨z,ys⟩ ⟨hz,hF,hd',hy,hh⟩
  simp only at hz hy
  subst hz hy
  refine zdz (fun r=>r=lim (mt a b k)) ?_ ?_
  ·rintro ⟨m,okm⟩ hm
   exact fin2 _ hd' rfl hF hh m okm hm
  ·intro K hK
   have leaf:zE (uq a k) (uq b k) (top k) K:=Yq sa sb (by omega) (by omega) (hK _ rfl)
   refine ⟨yS k0 k3 ⟨?_,?_⟩,yS k0 k3 ⟨?_,?_⟩,Zp k0 k3 ⟨?_,?_⟩⟩
   ·exact yS k0 k3 (Zp k0 k3 leaf)
   ·exact Zp k0 k3 (yS k0 k3 leaf)
   ·exact yS k0 k3 (Zp k0 k3 leaf)
   ·exact Zp k0 k3 (yS k0 k3 leaf)
   ·exact yS k0 k3 (yS k0 k3 leaf)
   ·exact yS k0 k3 (yS k0 k3 leaf)
 ·intro K hK
  refine zn (fun e=>?_) (fun e=>?_)
  ·have hne:rst a b k≠[]:=fun f=>by rw [f] at e;simp at e
   have hft:=e' hne
   have ed:=hfx hft
   subst ed
   have hpc:pcs a b (k+1)=pcs a b k++[YK (hdm a b k) k (rst a b k)]:=by
    rw [UT];unfold pcn pc;rw [if_neg hne]
   refine ⟨_,_,_,_,rfl,yS (a:=hdm a b k) k0 k3 ⟨(YK (hdm a b k) k (rst a b k)).x0,(YK (hdm a b k) k (rst a b k)).x1,(YK (hdm a b k) k (rst a b k)).x2,(YK (hdm a b k) k (rst a b k)).x3,U9 (a:=hdm a b k) k0 k3,?_⟩⟩
   have hl1:(pcs a b k).length≤4:=by
    have h1:∀ n,(pcs a b n).length≤n:=by
     intro n
     induction n with
     | zero=>simp [pcs]
     | succ n ih =>
      have:=UU (rst a b n) (YK (hdm a b n) n (rst a b n))
      rw [UT,List.length_append];unfold pcn;omega
    have:=h1 k;omega
   refine jg (js (by simp;omega) (jC (hK _ ⟨by rw [hpc],?_,hdm a b k,rfl,fun _=>rfl⟩)))
   intro c hc
   rw [hpc] at hc
   rcases List.mem_append.1 hc with q | q
   ·exact hpre c q
   ·have:c=YK (hdm a b k) k (rst a b k):=by simpa using q
    rw [this]
    exact (zld hf hlt).2 ⟨by omega,hfit.1 hft⟩
  ·have hnil:rst a b k=[]:=by
    cases hr:rst a b k with
    | nil=>rfl
    | cons x r=>rw [hr] at e;simp at e
   have hpc:pcs a b (k+1)=pcs a b k:=by
    rw [UT];unfold pcn pc;rw [if_pos hnil];simp
   exact hK _ ⟨by rw [hpc],by rw [hpc];exact hpre,hd,rfl,hfx⟩
end
section
def pv (p:zX):Prop:=(0≤p.xFrom∧p.xFrom≤65535)∧(0≤p.xTo∧p.xTo≤65535)∧(0≤p.xPort∧p.xPort≤255)∧(0≤p.xProto∧p.xProto≤7)
instance (p:zX):Decidable (pv p):=by unfold pv;infer_instance
def tv (t:Int):Prop:=0≤t∧t≤1000000
instance (t:Int):Decidable (tv t):=by unfold tv;infer_instance
theorem zgM {n:Int} (h0:0≤n) (h1:n<4) {κ:Int→Prop} (h:κ (if n≤1 then 65535 else if n=2 then 255 else 7)):zB n κ:=by
 unfold zB jnW
 refine zn (fun hc=>by simp at hc;omega) (fun _=>zn (fun hc=>by simp at hc;omega) (fun _=>?_))
 have:n=0∨n=1∨n=2∨n=3:=by omega
 rcases this with rfl | rfl | rfl | rfl
 ·exact zq 0 rfl (by simp [zA]) (by simpa [zA] using h)
 ·exact zq 1 rfl (by simp [zA]) (by simpa [zA] using h)
 ·exact zq 2 rfl (by simp [zA]) (by simpa [zA] using h)
 ·exact zq 3 rfl (by simp [zA]) (by simpa [zA] using h)
def Yn (p:zX):Nat→Int
 | 0=>p.xFrom
 | 1=>p.xTo
 | 2=>p.xPort
 | _=>p.xProto
def zkp:Nat→Int
 | 0=>65535
 | 1=>65535
 | 2=>255
 | _=>7
theorem zjt (p:zX):pv p↔∀ i,i<4→0≤Yn p i∧Yn p i≤zkp i:=by
 unfold pv
 constructor
 ·rintro ⟨h0,h1,h2,h3⟩ i hi
  match i,hi with
  | 0,_=>exact h0
  | 1,_=>exact h1
  | 2,_=>exact h2
  | 3,_=>exact h3
 ·intro h
  exact ⟨h 0 (by omega),h 1 (by omega),h 2 (by omega),h 3 (by omega)⟩
theorem zeB {p:zX} {κ:Bool→Prop} (h:κ (decide (pv p))):ZN p κ:=by
 unfold ZN yl
 refine zU 4 (fun s=>s) (fun k s=>s=(k:Int)∧k≤4∧∀ i,i<k→0≤Yn p i∧Yn p i≤zkp i) (fun k s h=>h.1) (fun k s h=>h.2.1) ?_ ⟨rfl,by omega,fun i hi=>by omega⟩
 rintro k _ next ⟨rfl,hk,hi⟩ hn
 refine zn (fun hlt=>?_) (fun hge=>?_)
 ·have hlt:k<4:=by simp at hlt;omega
  have hno:¬ (0≤Yn p k∧Yn p k≤zkp k)→κ false:=fun hno=>by
   rw [decide_eq_false (fun hv=>hno ((zjt p).1 hv k hlt))] at h
   exact h
  refine zq k rfl (by simpa using hlt) ?_
  have e:([p.xFrom,p.xTo,p.xPort,p.xProto]:List Int)[k]'(by simpa using hlt)=Yn p k:=by
   match k,hlt with
   | 0,_=>rfl
   | 1,_=>rfl
   | 2,_=>rfl
   | 3,_=>rfl
  simp only [e]
  unfold jnW
  refine zn (fun hc=>?_) (fun hc=>zgM (by omega) (by omega) ?_)
  ·simp only [Yx];exact hno (by simp at hc;omega)
  ·have et:(if (k:Int)≤1 then (65535:Int) else if (k:Int)=2 then 255 else 7)=zkp k:=by
    match k,hlt with
    | 0,_=>rfl
    | 1,_=>rfl
    | 2,_=>rfl
    | 3,_=>rfl
   rw [et]
   refine zn (fun h2=>hno (by simp at h2;omega)) (fun h2=>zz (by omega) (by omega) (hn hlt _ ⟨by simp,by omega,fun i hi'=>?_⟩))
   by_cases e:i=k
   ·subst e;simp at hc h2;exact ⟨hc,h2⟩
   ·exact hi i (by omega)
 ·have:k=4:=by simp at hge;omega
  subst this
  rw [decide_eq_true ((zjt p).2 hi)] at h
  exact h
theorem U3 {p:zX} {κ:Bool→Prop} (h:κ (decide (pv p))):ZQ p κ:=by
 unfold ZQ jnW
 refine Ux (zn (fun h1=>Ux (zn (fun h2=>Ux (zn (fun h3=>Ux ?_) (fun h3=>?_))) (fun h2=>?_))) (fun h1=>?_))
 all_goals
  refine (congrArg κ ?_).mp h
  clear h
  first
   | (refine decide_eq_decide.2 ?_;simp only [decide_eq_true_eq] at *;unfold pv;constructor <;> (intro k;omega))
   | (refine decide_eq_false ?_;simp only [decide_eq_true_eq,decide_eq_false_iff_not] at *;unfold pv;intro k;omega)
def lv (t:Int):Prop:=0≤t∧t≤1000
instance (t:Int):Decidable (lv t):=by unfold lv;infer_instance
end
section
open Go Go.Proofs
def BV (b:zM):Prop:=∃ a,b=bx a∧B4 a∧F4 a
noncomputable instance (b:zM):Decidable (BV b):=Classical.propDecidable _
def sd (b:zM):za:=match b.xSides with | [x0,x1,x2,x3]=>⟨x0,x1,x2,x3⟩ | _=>zbI
theorem BV.eq {b:zM} (h:BV b):b=bx (sd b):=by obtain ⟨a,rfl,_⟩:=h;rfl
theorem BV.b4 {b:zM} (h:BV b):B4 (sd b):=by obtain ⟨a,rfl,h,_⟩:=h;exact h
theorem BV.f4 {b:zM} (h:BV b):F4 (sd b):=by obtain ⟨a,rfl,_,h⟩:=h;exact h
theorem zdN {a:za}:BV (bx a)↔B4 a∧F4 a:=⟨fun h=>⟨h.b4,h.f4⟩,fun h=>⟨a,rfl,h⟩⟩
theorem zi1 {b:zM} (h:BV b):b.xSides.length=4:=by obtain ⟨a,rfl,_⟩:=h;rfl
theorem zl0 {α:Type} {l:List α} (h:l.length=4):∃ a b c d,l=[a,b,c,d]:=by
 match l,h with
 | [a,b,c,d],_=>exact ⟨a,b,c,d,rfl⟩
theorem zmr {b:zM} (h:b.xSides.length=4):b=bx (sd b):=by
 obtain ⟨x0,x1,x2,x3,e⟩:=zl0 h
 obtain ⟨s⟩:=b
 simp only at e
 subst e
 rfl
theorem zi2 {a:za}:BV (bx a)↔∀ n:Nat,n<4→SpV (uq a n) (top n):=by
 rw [zdN]
 constructor
 ·rintro ⟨⟨b0,b1,b2,b3⟩,f0,f1,f2,f3⟩ n hn
  rcases US hn with rfl | rfl | rfl | rfl
  ·exact ⟨f0,b0⟩
  ·exact ⟨f1,b1⟩
  ·exact ⟨f2,b2⟩
  ·exact ⟨f3,b3⟩
 ·intro h
  obtain ⟨f0,b0⟩:=h 0 (by decide)
  obtain ⟨f1,b1⟩:=h 1 (by decide)
  obtain ⟨f2,b2⟩:=h 2 (by decide)
  obtain ⟨f3,b3⟩:=h 3 (by decide)
  exact ⟨⟨b0,b1,b2,b3⟩,f0,f1,f2,f3⟩
def Bb (b:zM):Prop:=b.xSides.length≤4294967296∧∀ x∈b.xSides,x.length≤4294967296
def Fb (l:List zG):Prop:=l.length≤4294967296∧∀ f∈l,Bb f.xWhere
theorem BV.bb {b:zM} (h:BV b):Bb b:=by
 obtain ⟨a,rfl,_,f0,f1,f2,f3⟩:=h
 refine ⟨by simp [bx],fun x hx=>?_⟩
 simp only [bx,List.mem_cons,List.not_mem_nil,or_false] at hx
 rcases hx with rfl | rfl | rfl | rfl <;> omega
theorem yU {b:zM} (hb:Bb b) {κ:Bool→Prop} (h:κ (decide (BV b))):uN b κ:=by
 unfold uN
 have h1:=hb.1
 refine zU b.xSides.length (fun s=>s) (fun k s=>s=(k:Int)∧k≤b.xSides.length∧k≤4∧∀ n:Nat,n<k→∀ q:n<b.xSides.length,SpV (b.xSides[n]) (top n)) (fun k s h=>h.1) (fun k s h=>h.2.1) ?_ ⟨rfl,by omega,by omega,fun n h=>by omega⟩
 rintro k _ next ⟨rfl,hk,hk4,hv⟩ hn
 refine zn (fun hc=>?_) (fun hc=>?_)
 ·have hlt:k<b.xSides.length:=by simpa using hc
  refine jU (zn (fun e=>?_) (fun e=>?_))
  ·have e':4≤k:=by
    have:(4:Int)≤k:=by simpa using e
    omega
   rw [decide_eq_false (fun q=>by have:=zi1 q;omega)] at h
   exact jg h
  have e':k<4:=by
   have:¬ (4:Int)≤k:=by simpa using e
   omega
  have k0:(0:Int)≤k:=by omega
  have k3:(k:Int)≤3:=by omega
  have tl:=zay k
  refine zq k rfl hlt (xS k0 k3 (YA (hb.2 _ (List.getElem_mem hlt)) (by omega) (by omega) (zn (fun e=>?_) (fun e=>?_))))
  ·have no:¬ SpV (b.xSides[k]) (top k):=by simpa using e
   rw [decide_eq_false (fun q=>no ?_)] at h
   ·exact h
   ·obtain ⟨a,rfl,_⟩:=id q
    have:=zi2.1 q k e'
    have e2:(bx a).xSides[k]=uq a k:=by rcases US e' with rfl | rfl | rfl | rfl <;> rfl
    rw [e2];exact this
  ·have yes:SpV (b.xSides[k]) (top k):=by simpa using e
   refine zz (by omega) (by omega) (hn hlt _ ⟨by simp,by omega,by omega,fun n hnk q=>?_⟩)
   by_cases e:n=k
   ·subst e;exact yes
   ·exact hv n (by omega) q
 ·have hge:b.xSides.length=k:=by
   have:b.xSides.length≤k:=by simpa using hc
   omega
  have:decide (BV b)=decide ((b.xSides.length:Int)=4):=decide_eq_decide.2 ⟨fun q=>by have:=zi1 q;omega,fun q=>by
   have e4:b.xSides.length=4:=by omega
   obtain ⟨a,rfl⟩:∃ a,b=bx a:=⟨_,zmr e4⟩
   refine zi2.2 (fun n hn4=>?_)
   have:=hv n (by omega) (by simpa [bx] using hn4)
   have e2:(bx a).xSides[n]'(by simpa [bx] using hn4)=uq a n:=by rcases US hn4 with rfl | rfl | rfl | rfl <;> rfl
   rw [e2] at this;exact this⟩
  rw [this] at h;exact h
def FV (l:List zG):Prop:=l.length≤60∧∀ f∈l,BV f.xWhere
noncomputable instance (l:List zG):Decidable (FV l):=Classical.propDecidable _
theorem FV.fb {l:List zG} (h:FV l):Fb l:=⟨by have:=h.1;omega,fun f hf=>(h.2 f hf).bb⟩
theorem yt {l:List zG} (hl:Fb l) {κ:Bool→Prop} (h:κ (decide (FV l))):ul l κ:=by
 unfold ul
 have h1:=hl.1
 refine zU l.length (fun s=>s) (fun k s=>s=(k:Int)∧k≤l.length∧∀ f∈l.take k,BV f.xWhere) (fun k s h=>h.1) (fun k s h=>h.2.1) ?_ ⟨rfl,by omega,by simp⟩
 rintro k _ next ⟨rfl,hk,hv⟩ hn
 refine zn (fun hc=>?_) (fun hc=>?_)
 ·have hlt:k<l.length:=by simpa using hc
  refine zq k rfl hlt (yU (hl.2 _ (List.getElem_mem hlt)) (zn (fun e=>?_) (fun e=>?_)))
  ·have:¬ BV (l[k].xWhere):=by simpa using e
   rw [decide_eq_false (fun q=>this (q.2 _ (List.getElem_mem hlt)))] at h;exact h
  ·have:BV (l[k].xWhere):=by simpa using e
   refine zz (by omega) (by omega) (hn hlt _ ⟨by simp,by omega,fun f hf=>?_⟩)
   rw [List.take_succ_eq_append_getElem hlt] at hf
   rcases List.mem_append.1 hf with q | q
   ·exact hv f q
   ·simp only [List.mem_singleton] at q;rw [q];exact this
 ·have hge:l.length≤k:=by simpa using hc
  rw [List.take_of_length_le hge] at hv
  rw [show decide (FV l)=decide ((l.length:Int)≤60) from decide_eq_decide.2 ⟨fun q=>by have:=q.1;omega,fun q=>⟨by omega,hv⟩⟩] at h;exact h
def fl (f:zG):zk:=⟨sd f.xWhere,f.xAccept⟩
theorem VS {α β:Type} (a:List α) (f:α→β) (hl:a.length≤4294967296) {κ:List β→Prop} (T:α→(β→Prop)→Prop) (hT:∀ x ψ,x∈a→ψ (f x)→T x ψ) (hκ:κ (a.map f))
  (F:(List β×Int→Prop)→List β×Int→Prop)
  (hF:∀ nx xs t,(ifW (decide (t<(a.length:Int))) (zK a t (fun e=>T e (fun r=>jJ xs [r] (fun _=>jA t 1 (fun u=>nx (xs++[r],u)))))) (κ xs))→F nx (xs,t)):jx F ([],0):=by
 refine zU a.length (fun s=>s.2) (fun k s=>s.2=(k:Int)∧k≤a.length∧s.1=(a.take k).map f) (fun k s h=>h.1) (fun k s h=>h.2.1) ?_ ⟨rfl,Nat.zero_le _,by simp⟩
 rintro k ⟨ys,t⟩ next ⟨rfl,hk,hy⟩ hn
 simp only at hy
 subst hy
 refine hF _ _ _ (zn (fun hc=>?_) (fun hc=>?_))
 ·have hlt:k<a.length:=by simpa using hc
  refine zq k rfl hlt (hT _ _ (List.getElem_mem hlt) (js (by simp;omega) (zz (by omega) (by omega) (hn hlt _ ⟨by simp,by omega,?_⟩))))
  rw [List.take_succ_eq_append_getElem hlt,List.map_append];rfl
 ·have hge:a.length≤k:=by simpa using hc
  rw [List.take_of_length_le hge];exact hκ
theorem zf0 {l:List zk} (hl:l.length≤4294967296) {κ:List za→Prop} (h:κ (l.map (·.xWhere))):X5 l κ:=by
 unfold X5
 refine zdT 0 rfl (by omega) (by omega) ?_
 exact VS l (·.xWhere) hl (fun x ψ=>ψ x.xWhere) (fun x ψ hx hψ=>hψ) h _ (fun nx xs t hh=>hh)
theorem zbl {b:zM} (hb:Bb b) {κ:zM→Prop} (h:κ b):Z1 b κ:=yy hb.1 hb.2 h
theorem zf2 {f:zG} (hb:Bb f.xWhere) {κ:zG→Prop} (h:κ f):XQ f κ:=zbl hb h
theorem u7 {l:List zG} (hl:Fb l) {κ:List zG→Prop} (h:κ l):xr l κ:=by
 unfold xr
 exact VS l id hl.1 (fun x ψ=>XQ x ψ) (fun x ψ hx hψ=>zf2 (hl.2 x hx) hψ) (by simpa using h) _ (fun nx xs t hh=>hh)
def hb4 (a:za) (p:zX):Prop:=hv a.x0 p.xFrom∧hv a.x1 p.xTo∧hv a.x2 p.xPort∧hv a.x3 p.xProto
instance (a:za) (p:zX):Decidable (hb4 a p):=by unfold hb4;infer_instance
theorem zky (a:za) (p:zX):hb4 a p↔∀ n:Nat,n<4→hv (uq a n) (Yn p n):=by
 constructor
 ·rintro ⟨h0,h1,h2,h3⟩ n hn
  rcases US hn with rfl | rfl | rfl | rfl
  ·exact h0
  ·exact h1
  ·exact h2
  ·exact h3
 ·intro h
  exact ⟨h 0 (by decide),h 1 (by decide),h 2 (by decide),h 3 (by decide)⟩
end
end Go.Proofs.YtgpdnnhmndlljaaGreatDoor
