import Derived.Test.YtgpdnnhmndlljaaGreatDoorMA1
import Derived.RangeFuncMany
import Derived.RangeFuncCalls
import Derived.RangeFuncLeaves
import Derived.TacticsIn
import Derived.Test.YtgpdnnhmndlljaaGreatDoorEls
import Derived.Test.YtgpdnnhmndlljaaGreatDoorMA0
import Derived.Laws.BitsLemmas
set_option linter.unusedSimpArgs false
set_option linter.unusedVariables false
set_option linter.unusedSectionVars false
namespace Go.Proofs.YtgpdnnhmndlljaaGreatDoor
section
open Go.RowKit
section
variable {P:Program} {n:Nat} {G D:Nat→Prop} {w0:World} {Q:Exit→Act→World→Prop} {R:Act→World→Prop} {E:Env} {L M:List Ch} {φ:Prop}
variable {d:Tmp} {ty:TypeId} {pos:String} {aft:Array Edge} {gd:Option (Nat×Bool)} {Tk:Act→World→Prop} {Lr:List Ch} {x y:Operand} {T T' S:TypeId} {e sz by':Nat} {at':Array TypeId}
def uY (b:Nat) (o:Obj):Ch where
 foot:=fun x=>x=b
 holds:=fun _ w=>w.heap[b]?=some o
 keep:=fun _ _ _ _ _ h k=>(h b (.inr rfl)).trans k
def uH {σ:Type} (C:σ→List Ch→Prop) (B:Nat→Prop) (s:σ):Ch where
 foot:=B
 holds:=fun F w=>∃ L,C s L∧(∀ b,ue L b↔B b)∧(L.Pairwise fun (c d:Ch)=>∀ b,c.foot b→¬ d.foot b)∧∀ c∈L,c.holds F w
 keep:=fun F F' w w' hF hb ⟨L,h1,h2,h3,h4⟩=>⟨L,h1,h2,h3,fun c hc=>c.keep F F' w w' hF (fun b h=>hb b (h.imp id (fun k=>(h2 b).1 ⟨c,hc,k⟩))) (h4 c hc)⟩
theorem zbk {σ:Type} {C:σ→List Ch→Prop} {B:Nat→Prop} {s:σ} {L R:List Ch} {w:World} (h:∀ b,ue L b↔B b) (b:Nat):fz G (uH C B s :: R) w b↔fz G (L++R) w b:=by
 constructor
 ·rintro ⟨h1,h2,h3⟩
  refine ⟨h1,h2,fun c hc hk=>?_⟩
  rcases List.mem_append.1 hc with e | e
  ·exact h3 _ (List.mem_cons_self ..) ((h b).1 ⟨c,e,hk⟩)
  ·exact h3 c (List.mem_cons_of_mem _ e) hk
 ·rintro ⟨h1,h2,h3⟩
  refine ⟨h1,h2,fun c hc hk=>?_⟩
  rcases List.mem_cons.1 hc with e | e
  ·subst e
   obtain ⟨d,hd,hk'⟩:=(h b).2 hk
   exact h3 d (List.mem_append.2 (.inl hd)) hk'
  ·exact h3 c (List.mem_append.2 (.inr e)) hk
theorem Mem.openC {σ:Type} {C:σ→List Ch→Prop} {B:Nat→Prop} {s:σ} {R:List Ch} {w:World} (m:Mem G D w0 (uH C B s :: R) w):∃ L,C s L∧(∀ b,ue L b↔B b)∧Mem G D w0 (L++R) w:=by
 obtain ⟨L,h1,h2,h3,h4⟩:=m.hold _ (List.mem_cons_self ..)
 have hr:∀ c∈L,∀ b,c.foot b→(uH C B s).foot b:=fun c hc b hb=>(h2 b).1 ⟨c,hc,hb⟩
 refine ⟨L,h1,h2,m.fresh,m.os,m.tape,m.output,m.size,m.old,fun c hc b hb=>?_,List.pairwise_append.2 ⟨h3,(List.pairwise_cons.1 m.disj).2,fun c hc d hd b k1 k2=>(List.pairwise_cons.1 m.disj).1 d hd b (hr c hc b k1) k2⟩,fun c hc=>?_⟩
 ·rcases List.mem_append.1 hc with e | e
  ·exact m.range _ (List.mem_cons_self ..) b (hr c e b hb)
  ·exact m.range c (List.mem_cons_of_mem _ e) b hb
 ·rcases List.mem_append.1 hc with e | e
  ·exact c.keep _ _ w w (fun b hb=>(zbk h2 b).1 hb) (fun _ _=>rfl) (h4 c e)
  ·exact c.keep _ _ w w (fun b hb=>(zbk h2 b).1 hb) (fun _ _=>rfl) (m.hold c (List.mem_cons_of_mem _ e))
theorem Mem.closeC {σ:Type} {C:σ→List Ch→Prop} {s:σ} {L R:List Ch} {w:World} (m:Mem G D w0 (L++R) w) (h:C s L):Mem G D w0 (uH C (ue L) s :: R) w:=by
 have inL:∀ c∈L,c∈L++R:=fun c hc=>List.mem_append.2 (.inl hc)
 have inR:∀ c∈R,c∈L++R:=fun c hc=>List.mem_append.2 (.inr hc)
 have hd:=List.pairwise_append.1 m.disj
 refine ⟨m.fresh,m.os,m.tape,m.output,m.size,m.old,fun c hc b hb=>?_,List.pairwise_cons.2 ⟨fun d hd' b ⟨c,hc,k1⟩ k2=>hd.2.2 c hc d hd' b k1 k2,hd.2.1⟩,fun c hc=>?_⟩
 ·rcases List.mem_cons.1 hc with e | e
  ·subst e
   obtain ⟨c,hc,k⟩:=hb
   exact m.range c (inL c hc) b k
  ·exact m.range c (inR c e) b hb
 ·rcases List.mem_cons.1 hc with e | e
  ·subst e
   exact ⟨L,h,fun _=>Iff.rfl,hd.1,fun c hc=>c.keep _ _ w w (fun b hb=>(zbk (fun _=>Iff.rfl) b).2 hb) (fun _ _=>rfl) (m.hold c (inL c hc))⟩
  ·exact c.keep _ _ w w (fun b hb=>(zbk (fun _=>Iff.rfl) b).2 hb) (fun _ _=>rfl) (m.hold c (inR c e))
def zfW {α σ:Type} (P:Program) (l:Nat) (El':El α) (C:σ→List Ch→Prop) (Y:σ→α→Bool→(Bool×σ→Prop)→Prop):Prop :=
 ∀ {G D:Nat→Prop} {w0 w:World} {R L:List Ch} {s:σ} {x:α} {ok:Bool} {cs:List Value} {κ:Bool×σ→Prop} (m:Nat),C s L→Mem G D w0 (L++R) w→El'.cells (fz G (L++R) w) w x cs→Y s x ok κ →
  YieldAt Fence.wide m P l #[.agg cs.toArray,.bool ok] w fun e w'=>∃ b s' L',e=.returned (.bool b)∧C s' L'∧Mem G D w0 (L'++R) w'∧κ (b,s')
theorem ziR {o:Oper} {a:Act} {w:World} {next:Act→World→Prop} {m:Nat} (h:o.wp P a w next Q):o.wpIn Fence.wide m P a w next Q:=by
 refine ⟨fun f _=>trivial,?_⟩
 have h':o.upon P a next Q ((execOp a.eval o).run P w):=h
 show o.uponIn Fence.wide m P a next Q ((execOp a.eval o).run P w)
 revert h'
 generalize (execOp a.eval o).run P w=r
 intro h'
 cases r with
 | ok x w' =>
  cases x <;> first | exact h' | (refine ⟨fun e=>by simp [Fence.wide] at e,?_⟩;exact callsIn_wide.2 h') | (refine ⟨fun e=>by simp [Fence.wide] at e,fun c cs _=>?_⟩;obtain ⟨v,w'',k1,k2⟩:=h' c cs;exact ⟨v,w'',k1,stepsIn_wide.2 k2⟩) | exact False.elim h'
 | halt x w'=>cases x <;> first | exact h' | exact False.elim h'
theorem zbS {id:Nat} {l:List Oper} (h:Nx n G D w0 (wpListIn Fence.wide 3 P l.toArray Q l) E L φ):Nx n G D w0 ((Code.region id l.toArray false).wp P Q) E L φ:=fun a w hE hm hφ=>wpIn_wide.1 (wpIn_region_lit (h a w hE hm hφ))
theorem zcb {ops:Array Oper} {m:Nat} {F:Fence} (h:Nx n G D w0 (Q .normal) E L φ):Nx n G D w0 (wpListIn F m P ops Q []) E L φ:=h
theorem zjI {m:Nat} {ops:Array Oper} {rest:List Oper} {dst:Option Tmp} {op:Op} (h:Nx n G D w0 (fun a w=>Oper.wp P ⟨dst,op,ty,pos,aft,none⟩ a w (wpListIn Fence.wide m P ops Q rest) Q) E L φ):Nx n G D w0 (wpListIn Fence.wide m P ops Q (⟨dst,op,ty,pos,aft,none⟩ :: rest)) E L φ :=
 fun a w hE hm hφ=>wpListIn_plain rfl fun K hK=>ziR (by
  have:=h a w hE hm hφ
  show Oper.upon _ _ _ _ _ _
  have h':Oper.upon P ⟨dst,op,ty,pos,aft,none⟩ a (wpListIn Fence.wide m P ops Q rest) Q ((execOp a.eval ⟨dst,op,ty,pos,aft,none⟩).run P w):=this
  revert h'
  generalize (execOp a.eval ⟨dst,op,ty,pos,aft,none⟩).run P w=r
  intro h'
  cases r with
  | ok x w' =>
   cases x <;> first | exact hK _ _ h' | (refine Calls.mono h' ?_;intro e w'' hh;cases e <;> first | exact hK _ _ hh | exact hh) | (refine Rows.mono h' ?_;intro e w'' hh;exact hK _ _ hh) | exact False.elim h'
  | halt x w'=>cases x <;> first | exact h' | exact False.elim h')
theorem stY {m:Nat} {ops:Array Oper} {rest:List Oper} {dst:Option Tmp} {op:Op}:uv P n G D w0 E ⟨dst,op,ty,pos,aft,none⟩ (wpListIn Fence.wide m P ops Q (⟨dst,op,ty,pos,aft,none⟩ :: rest)) (wpListIn Fence.wide m P ops Q rest) L L :=
 ⟨fun hd ho hr hψ k=>zjI (zfi hd ho hr hψ k)⟩
theorem zeN {α σ:Type} {l m:Nat} {El':El α} {C:σ→List Ch→Prop} {Y:σ→α→Bool→(Bool×σ→Prop)→Prop} (hY:zfW P l El' C Y) {B:Nat→Prop} {s:σ} {z:α} {ok:Bool} {cs:List Value} {κ:Bool×σ→Prop} {f:Operand} {args:List Operand} {ops:Array Oper} {rest:List Oper}
  (hf:oev E f=some (.func (.yield l) #[] #[])) (ha:zcz E args=some [.agg cs.toArray,.bool ok]) (hd:Nat.blt d n=true) (hc:∀ w,Mem G D w0 (uH C B s :: L) w→El'.cells (fz G (uH C B s :: L) w) w z cs)
  (k:∀ b s' B',Nx n G D w0 (wpListIn Fence.wide m P ops Q rest) ((d,.bool b) :: E) (uH C B' s' :: L) (κ (b,s'))) :
  Nx n G D w0 (wpListIn Fence.wide m P ops Q (⟨some d,.call {callee:=.value f,args:=args.toArray,argTypes:=at'},ty,pos,aft,none⟩ :: rest)) E (uH C B s :: L) (Y s z ok κ):=fun a w hE hm hφ=>by
 refine wpListIn_plain rfl fun K hK=>?_
 obtain ⟨Lc,h1,h2,hm'⟩:=hm.openC
 obtain ⟨fn,tmps,assign,body,hy,hR⟩:=hY (m - 1) h1 hm' (El'.keep _ _ w w _ _ (fun b hb=>(zbk h2 b).1 hb) (fun _ _=>rfl) (hc w hm)) hφ
 have hx:=hE.eval hf
 have hargs:=VO (fun x v h=>hE.eval h) ha
 have hrun:(execOp a.eval ⟨some d,.call {callee:=.value f,args:=args.toArray,argTypes:=at'},ty,pos,aft,none⟩).run P w=.ok (.round l fn tmps assign body) w:=by
  simp [execOp,resolve,Deferred.ofValue,hx,invoke,hargs,hy]
 refine ⟨fun f _=>trivial,?_⟩
 change Oper.uponIn Fence.wide m P _ a K Q ((execOp a.eval ⟨some d,.call {callee:=.value f,args:=args.toArray,argTypes:=at'},ty,pos,aft,none⟩).run P w)
 rw [hrun,Oper.uponIn_round]
 refine ⟨fun e=>by simp [Fence.wide] at e,hR.mono ?_⟩
 rintro e w' ⟨b,s',L',rfl,q1,q2,q3⟩
 exact hK _ _ (k b s' _ _ w' (hE.put hd _) (q2.closeC q1) q3)
theorem zhN {o:Oper} {a:Act} {w:World} {next:Act→World→Prop} {m l:Nat} (hnd:∀ c,o.op≠.defer c) (h:o.wp P a w next Q):o.wpIn (Fence.wide.inRound l) m P a w next Q:=by
 refine ⟨fun f _=>trivial,?_⟩
 have h':o.upon P a next Q ((execOp a.eval o).run P w):=h
 show o.uponIn (Fence.wide.inRound l) m P a next Q ((Oper.semAt (some l) a.eval o).run P w)
 rw [Oper.semAt_some l a.eval o hnd]
 revert h'
 generalize (execOp a.eval o).run P w=r
 intro h'
 cases r with
 | ok x w' =>
  cases x <;> first | exact h' | (refine ⟨fun e=>by simp [Fence.wide] at e,?_⟩;exact CallsIn.inRound l (callsIn_wide.2 h')) | (refine ⟨fun e=>by simp [Fence.wide] at e,fun c cs _=>?_⟩;obtain ⟨v,w'',k1,k2⟩:=h' c cs;exact ⟨v,w'',k1,stepsIn_wide.2 k2⟩) | exact False.elim h'
 | halt x w'=>cases x <;> first | exact h' | exact False.elim h'
section
variable {F:Fence} {m l:Nat}
theorem zgr {x y:Code} (h:Nx n G D w0 (x.wpIn F m P (Exit.then (y.wpIn F m P Q) Q)) E L φ):Nx n G D w0 ((Code.seq x y).wpIn F m P Q) E L φ:=fun a w hE hm hφ=>wpIn_seq (h a w hE hm hφ)
theorem ziL {id:Nat} {c:Code} (h:Nx n G D w0 (c.wpIn F m P (Exit.inBlock id Q)) E L φ):Nx n G D w0 ((Code.block id c).wpIn F m P Q) E L φ:=fun a w hE hm hφ=>wpIn_block (h a w hE hm hφ)
theorem VD {id:Nat} {l:List Oper} (h:Nx n G D w0 (wpListIn F m P l.toArray Q l) E L φ):Nx n G D w0 ((Code.region id l.toArray false).wpIn F m P Q) E L φ:=fun a w hE hm hφ=>wpIn_region_lit (h a w hE hm hφ)
theorem zj5 (h:Nx n G D w0 (Q .normal) E L φ):Nx n G D w0 (Code.skip.wpIn F m P Q) E L φ:=fun a w hE hm hφ=>wpIn_skip (h a w hE hm hφ)
theorem zkA (h:Nx n G D w0 (Q .ret) E L φ):Nx n G D w0 (Code.ret.wpIn F m P Q) E L φ:=fun a w hE hm hφ=>wpIn_ret (h a w hE hm hφ)
theorem zkk {c:Operand} {x y:Code} {t:Bool} {A B:Prop} (hc:oev E c=some (.bool t)) (hx:Nx n G D w0 (x.wpIn F m P Q) E L A) (hy:Nx n G D w0 (y.wpIn F m P Q) E L B):Nx n G D w0 ((Code.cond c x y).wpIn F m P Q) E L (ifW t A B) :=
 fun a w hE hm hφ=>wpIn_cond_split (hE.eval hc) (fun h=>hx a w hE hm (hφ.1 h)) (fun h=>hy a w hE hm (hφ.2 h))
theorem zfj {ops:Array Oper} {rest:List Oper} {dst:Option Tmp} {op:Op} (hnd:∀ c,op≠.defer c) (h:Nx n G D w0 (fun a w=>Oper.wp P ⟨dst,op,ty,pos,aft,none⟩ a w (wpListIn (Fence.wide.inRound l) m P ops Q rest) Q) E L φ):Nx n G D w0 (wpListIn (Fence.wide.inRound l) m P ops Q (⟨dst,op,ty,pos,aft,none⟩ :: rest)) E L φ :=
 fun a w hE hm hφ=>by
  unfold wpListIn
  rw [if_pos (by simp [Region.wanted])]
  exact zhN hnd (h a w hE hm hφ)
theorem stR {ops:Array Oper} {rest:List Oper} {dst:Option Tmp} {op:Op} (hnd:∀ c,op≠.defer c):uv P n G D w0 E ⟨dst,op,ty,pos,aft,none⟩ (wpListIn (Fence.wide.inRound l) m P ops Q (⟨dst,op,ty,pos,aft,none⟩ :: rest)) (wpListIn (Fence.wide.inRound l) m P ops Q rest) L L :=
 ⟨fun hd ho hr hψ k=>zfj hnd (zfi hd ho hr hψ k)⟩
end
end
end
section
open Go.RowKit
@[ext] structure ze where
 xLo:Int
 xHi:Int
 deriving DecidableEq
def zY (x:ze):List Value:=[(.int .i64 x.xLo),(.int .i64 x.xHi)]
def zb:El ze:=El.flat 2 zY (by decide) (fun _=>rfl) (fun x u h=>by simp only [zY,List.mem_cons,List.not_mem_nil,or_false] at h;rcases h with rfl | rfl <;> rfl)
theorem zx:Uc zb zY:=YQ
abbrev jV:DEl ze:=zbg zb zY zx
@[ext] structure jH where
 xField:Int
 xLo:Int
 xHi:Int
 xNot:Bool
 deriving DecidableEq
def yx (x:jH):List Value:=[(.int .i64 x.xField),(.int .i64 x.xLo),(.int .i64 x.xHi),(.bool x.xNot)]
def ug:El jH:=El.flat 4 yx (by decide) (fun _=>rfl) (fun x u h=>by simp only [yx,List.mem_cons,List.not_mem_nil,or_false] at h;rcases h with rfl | rfl | rfl | rfl <;> rfl)
theorem uq:Uc ug yx:=YQ
abbrev zj8:DEl jH:=zbg ug yx uq
@[ext] structure zG where
 xTests:(List jH)
 xAction:Int
 xChain:Int
 deriving DecidableEq
def zdh (u:Value) (x:zG):List Value:=[u,(.int .i64 x.xAction),(.int .i64 x.xChain)]
def jK:El zG where
 size:=3
 cells:=fun F w x cs=>∃ u:Value,cs=zdh u x∧Sl ug F w u x.xTests
 pos:=by decide
 len:=fun F w x cs ⟨u,e,_⟩=>by rw [e];rfl
 one:=fun F w x cs ⟨u,e,h⟩ v hv=>by
  subst e
  simp only [zdh,List.mem_cons,List.not_mem_nil,or_false] at hv
  rcases hv with e | e | e
  ·subst e;exact h.one
  ·subst e;exact rfl
  ·subst e;exact rfl
 keep:=fun F F' w w' x cs hF hb ⟨u,e,h⟩=>⟨u,e,h.keep hF hb⟩
def uz:DEl zG where
 el:=jK
 own:=fun B w x cs=>∃ u:Value,cs=zdh u x∧Dp zj8 165 B w u x.xTests
 read:=fun B w x cs ⟨u,e,h⟩=>⟨u,e,h.sl⟩
 keep:=fun B w w' x cs hk ⟨u,e,h⟩=>⟨u,e,h.keep hk⟩
 lt:=fun B w x cs ⟨u,e,h⟩=>h.lt
@[ext] structure zM where
 xChains:(List (List zG))
 xAccept:Bool
 deriving DecidableEq
def zb6 (u:Value) (x:zM):List Value:=[u,(.bool x.xAccept)]
def zfT:El zM where
 size:=2
 cells:=fun F w x cs=>∃ u:Value,cs=zb6 u x∧Sl (zA jK) F w u x.xChains
 pos:=by decide
 len:=fun F w x cs ⟨u,e,_⟩=>by rw [e];rfl
 one:=fun F w x cs ⟨u,e,h⟩ v hv=>by
  subst e
  simp only [zb6,List.mem_cons,List.not_mem_nil,or_false] at hv
  rcases hv with e | e
  ·subst e;exact h.one
  ·subst e;exact rfl
 keep:=fun F F' w w' x cs hF hb ⟨u,e,h⟩=>⟨u,e,h.keep hF hb⟩
@[ext] structure zgp where
 x0:Int
 x1:Int
 x2:Int
 x3:Int
 deriving DecidableEq
@[ext] structure uP where
 xFrom:Int
 xTo:Int
 xPort:Int
 xProto:Int
 deriving DecidableEq
@[ext] structure za where
 x0:(List ze)
 x1:(List ze)
 x2:(List ze)
 x3:(List ze)
 deriving DecidableEq
def VV (u:Value×Value×Value×Value) (x:za):List Value:=[u.1,u.2.1,u.2.2.1,u.2.2.2]
def zd:El za where
 size:=4
 cells:=fun F w x cs=>∃ u:Value×Value×Value×Value,cs=VV u x∧Sl zb F w u.1 x.x0∧Sl zb F w u.2.1 x.x1∧Sl zb F w u.2.2.1 x.x2∧Sl zb F w u.2.2.2 x.x3
 pos:=by decide
 len:=fun F w x cs ⟨u,e,_⟩=>by rw [e];rfl
 one:=fun F w x cs ⟨u,e,h⟩ v hv=>by
  subst e
  simp only [VV,List.mem_cons,List.not_mem_nil,or_false] at hv
  rcases hv with e | e | e | e
  ·subst e;exact h.1.one
  ·subst e;exact h.2.1.one
  ·subst e;exact h.2.2.1.one
  ·subst e;exact h.2.2.2.one
 keep:=fun F F' w w' x cs hF hb ⟨u,e,h⟩=>⟨u,e,h.1.keep hF hb,h.2.1.keep hF hb,h.2.2.1.keep hF hb,h.2.2.2.keep hF hb⟩
@[ext] structure uU where
 xAccept:Bool
 deriving DecidableEq
@[ext] structure uV where
 deriving DecidableEq
@[ext] structure Zb where
 deriving DecidableEq
@[ext] structure Z6 where
 xChain:Int
 deriving DecidableEq
@[ext] structure zl where
 xWhere:za
 xAccept:Bool
 deriving DecidableEq
def zd6 (u:Value×Value×Value×Value) (x:zl):List Value:=[u.1,u.2.1,u.2.2.1,u.2.2.2,(.bool x.xAccept)]
def zt:El zl where
 size:=5
 cells:=fun F w x cs=>∃ u:Value×Value×Value×Value,cs=zd6 u x∧Sl zb F w u.1 x.xWhere.x0∧Sl zb F w u.2.1 x.xWhere.x1∧Sl zb F w u.2.2.1 x.xWhere.x2∧Sl zb F w u.2.2.2 x.xWhere.x3
 pos:=by decide
 len:=fun F w x cs ⟨u,e,_⟩=>by rw [e];rfl
 one:=fun F w x cs ⟨u,e,h⟩ v hv=>by
  subst e
  simp only [zd6,List.mem_cons,List.not_mem_nil,or_false] at hv
  rcases hv with e | e | e | e | e
  ·subst e;exact h.1.one
  ·subst e;exact h.2.1.one
  ·subst e;exact h.2.2.1.one
  ·subst e;exact h.2.2.2.one
  ·subst e;exact rfl
 keep:=fun F F' w w' x cs hF hb ⟨u,e,h⟩=>⟨u,e,h.1.keep hF hb,h.2.1.keep hF hb,h.2.2.1.keep hF hb,h.2.2.2.keep hF hb⟩
@[ext] structure yV where
 xAccepted:(List za)
 xDropped:(List za)
 deriving DecidableEq
@[ext] structure zL where
 xSides:(List (List ze))
 deriving DecidableEq
def zet (u:Value) (x:zL):List Value:=[u]
def jh:El zL where
 size:=1
 cells:=fun F w x cs=>∃ u:Value,cs=zet u x∧Sl (zA zb) F w u x.xSides
 pos:=by decide
 len:=fun F w x cs ⟨u,e,_⟩=>by rw [e];rfl
 one:=fun F w x cs ⟨u,e,h⟩ v hv=>by
  subst e
  simp only [zet,List.mem_cons,List.not_mem_nil,or_false] at hv
  subst hv;exact h.one
 keep:=fun F F' w w' x cs hF hb ⟨u,e,h⟩=>⟨u,e,h.keep hF hb⟩
def jY:DEl zL where
 el:=jh
 own:=fun B w x cs=>∃ u:Value,cs=zet u x∧Dp (dSl jV 89) 90 B w u x.xSides
 read:=fun B w x cs ⟨u,e,h⟩=>⟨u,e,h.sl⟩
 keep:=fun B w w' x cs hk ⟨u,e,h⟩=>⟨u,e,h.keep hk⟩
 lt:=fun B w x cs ⟨u,e,h⟩=>h.lt
@[ext] structure zE where
 xWhere:zL
 xAccept:Bool
 deriving DecidableEq
def zcO (u:Value) (x:zE):List Value:=[u,(.bool x.xAccept)]
def zB:El zE where
 size:=2
 cells:=fun F w x cs=>∃ u:Value,cs=zcO u x∧Sl (zA zb) F w u x.xWhere.xSides
 pos:=by decide
 len:=fun F w x cs ⟨u,e,_⟩=>by rw [e];rfl
 one:=fun F w x cs ⟨u,e,h⟩ v hv=>by
  subst e
  simp only [zcO,List.mem_cons,List.not_mem_nil,or_false] at hv
  rcases hv with e | e
  ·subst e;exact h.one
  ·subst e;exact rfl
 keep:=fun F F' w w' x cs hF hb ⟨u,e,h⟩=>⟨u,e,h.keep hF hb⟩
def xT:DEl zE where
 el:=zB
 own:=fun B w x cs=>∃ u:Value,cs=zcO u x∧Dp (dSl jV 89) 90 B w u x.xWhere.xSides
 read:=fun B w x cs ⟨u,e,h⟩=>⟨u,e,h.sl⟩
 keep:=fun B w w' x cs hk ⟨u,e,h⟩=>⟨u,e,h.keep hk⟩
 lt:=fun B w x cs ⟨u,e,h⟩=>h.lt
@[ext] structure Vh where
 xChain:Int
 xNext:Int
 deriving DecidableEq
@[ext] structure Y1 where
 xName:ByteArray
 xTop:Int
 deriving DecidableEq
def Z9 (x:Y1):List Value:=[(.string x.xName),(.int .i64 x.xTop)]
def ja:El Y1:=El.flat 2 Z9 (by decide) (fun _=>rfl) (fun x u h=>by simp only [Z9,List.mem_cons,List.not_mem_nil,or_false] at h;rcases h with rfl | rfl <;> rfl)
theorem Vy:Uc ja Z9:=YQ
inductive uD where
 | kDeciding (x:uU)
 | kCalling (x:Z6)
 | kReturning (x:uV)
 | kPassing (x:Zb)
def Uf:uD→Value
 | .kDeciding x=>.iface 262 (.agg #[(.bool x.xAccept)])
 | .kCalling x=>.iface 264 (.agg #[(.int .i64 x.xChain)])
 | .kReturning x=>.iface 266 (.agg #[])
 | .kPassing x=>.iface 267 (.agg #[])
def uD.casesW (a:uD) (p0:uU→Prop) (p1:Z6→Prop) (p2:uV→Prop) (p3:Zb→Prop):Prop:=match a with
 | .kDeciding x=>p0 x
 | .kCalling x=>p1 x
 | .kReturning x=>p2 x
 | .kPassing x=>p3 x
def zI:List Y1:=[⟨(ByteArray.mk #[102,114,111,109]),65535⟩,⟨(ByteArray.mk #[116,111]),65535⟩,⟨(ByteArray.mk #[112,111,114,116]),255⟩,⟨(ByteArray.mk #[112,114,111,116,111]),7⟩]
def x9 (n_0:Int) (κ:Int→Prop):Prop :=
 jnW (fun (t61:Bool)=>ifW t61 (κ 65535) (ifW (decide (n_0=2)) (κ 255) (ifW (decide (n_0=3)) (κ 7) (κ (-1))))) (fun k62=>ifW (decide (n_0=0)) (k62 (decide (n_0=0))) (k62 (decide (n_0=1))))
def zC (n_0:Int) (κ:Int→Prop):Prop :=
 jnW (fun (t61:Bool)=>ifW t61 (κ (-1)) (zK zI n_0 (fun e63=>κ e63.xTop))) (fun k62=>ifW (decide (n_0<0)) (k62 true) (k62 (decide (4≤n_0))))
def Xo (t_0:jH) (κ:Bool→Prop):Prop :=
 jnW (fun (t64:Bool)=>κ t64) (fun k65=>ifW (decide (0≤t_0.xField)) (ifW (decide (t_0.xField<4)) (ifW (decide (0≤t_0.xLo)) (ifW (decide (t_0.xLo≤t_0.xHi)) (zC t_0.xField (fun r3=>k65 (decide (t_0.xHi≤r3)))) (k65 false)) (k65 false)) (k65 false)) (k65 false))
def ZY (list_0:(List jH)) (κ:Bool→Prop):Prop :=
 ifW (decide (6<(list_0.length:Int))) (κ false) (jk (fun (nx4:Int→Prop) (t3:Int)=>ifW (decide (t3<(list_0.length:Int))) (zK list_0 t3 (fun e5=>Xo e5 (fun r9=>ifW (!r9) (κ false) (jt t3 1 (fun t10=>nx4 t10))))) (κ true)) 0)
def Xn (r_0:zG) (κ:Bool→Prop):Prop :=
 ZY r_0.xTests (fun r8=>ifW (!r8) (κ false) (ifW (decide (r_0.xAction=3)) (jnW (fun (t69:Bool)=>κ t69) (fun k70=>ifW (decide (0≤r_0.xChain)) (k70 (decide (r_0.xChain<5))) (k70 false))) (jnW (fun (t131:Bool)=>ifW t131 (κ (decide (r_0.xChain=0))) (κ false)) (fun k132=>ifW (decide (r_0.xAction=1)) (k132 (decide (r_0.xAction=1))) (ifW (decide (r_0.xAction=2)) (k132 (decide (r_0.xAction=2))) (ifW (decide (r_0.xAction=4)) (k132 (decide (r_0.xAction=4))) (k132 (decide (r_0.xAction=5)))))))))
def Z1 (list_0:(List zG)) (κ:Bool→Prop):Prop :=
 ifW (decide (8<(list_0.length:Int))) (κ false) (jk (fun (nx4:Int→Prop) (t3:Int)=>ifW (decide (t3<(list_0.length:Int))) (zK list_0 t3 (fun e5=>Xn e5 (fun r16=>ifW (!r16) (κ false) (jt t3 1 (fun t17=>nx4 t17))))) (κ true)) 0)
def Xh (rules_0:(List zG)) (κ:(List Int)→Prop):Prop :=
 jk (fun (nx9:((List Bool)×Int)→Prop) ((xs6,t8):((List Bool)×Int))=>ifW (decide (t8<(rules_0.length:Int))) (jnW (fun (xs84:(List Bool))=>jt t8 1 (fun t87=>nx9 (xs84,t87))) (fun k86=>zK rules_0 t8 (fun e10=>ifW (decide (e10.xAction=3)) (zK xs6 e10.xChain (fun e21=>k86 (xs6.set (e10.xChain).toNat true))) (k86 xs6)))) (zkz xs6 (fun e89 e90 e91 e92 e93=>jk (fun (nx100:((List Int)×Int)→Prop) ((xs96,t99):((List Int)×Int))=>ifW (decide (t99<5)) (jnW (fun (xs166:(List Int))=>jt t99 1 (fun t170=>nx100 (xs166,t170))) (fun k169=>zK ([e89,e90,e91,e92,e93]) t99 (fun e101=>ifW e101 (jG xs96 ([t99]) (fun _=>k169 (xs96++([t99])))) (k169 xs96)))) (κ xs96)) ([],0)))) ([false,false,false,false,false],0)
def ZZ (rec:((List (List zG))→Int→(List Int)→((Bool×(List Int))→Prop)→Prop)) (chains_0:(List (List zG))) (chain_1:Int) (colours_2:(List Int)) (κ:(Bool×(List Int))→Prop):Prop :=
 ifW (decide ((chains_0.length:Int)≤chain_1)) (κ (true,colours_2)) (zK colours_2 chain_1 (fun e5=>ifW (decide (e5=1)) (κ (false,colours_2)) (ifW (decide (e5=2)) (κ (true,colours_2)) (zK colours_2 chain_1 (fun e7=>zK chains_0 chain_1 (fun e10=>Xh e10 (fun r16=>jk (fun (nx23:((List Int)×Bool×Int)→Prop) ((xs19,t21,t22):((List Int)×Bool×Int))=>ifW (decide (t22<(r16.length:Int))) (jnW (fun ((xs89,t91):((List Int)×Bool))=>jt t22 1 (fun t93=>nx23 (xs89,t91,t93))) (fun k92=>zK r16 t22 (fun e24=>rec chains_0 e24 xs19 (fun (r26,r27)=>ifW (!r26) (k92 (r27,false)) (k92 (r27,t21)))))) (zK xs19 chain_1 (fun e94=>κ (t21,(xs19.set (chain_1).toNat 2))))) ((colours_2.set (chain_1).toNat 1),true,0))))))))
def uF:Nat→(List (List zG))→Int→(List Int)→((Bool×(List Int))→Prop)→Prop
 | 0=>fun _ _ _ _=>False
 | n+1=>ZZ (uF n)
def Uy (chains_0:(List (List zG))) (chain_1:Int) (colours_2:(List Int)) (κ:(Bool×(List Int))→Prop):Prop:=∃ n,uF n chains_0 chain_1 colours_2 κ
def Ym (chains_0:(List (List zG))) (κ:Bool→Prop):Prop :=
 jk (fun (nx8:((List Int)×Int)→Prop) ((xs5,t7):((List Int)×Int))=>ifW (decide (t7<(chains_0.length:Int))) (Uy chains_0 t7 xs5 (fun (r9,r10)=>ifW (!r9) (κ false) (jt t7 1 (fun t12=>nx8 (r10,t12))))) (κ true)) ([0,0,0,0,0],0)
def yY (s_0:zM) (κ:Bool→Prop):Prop :=
 jnW (fun (t68:Bool)=>ifW t68 (κ false) (jk (fun (nx71:Int→Prop) (t70:Int)=>ifW (decide (t70<(s_0.xChains.length:Int))) (zK s_0.xChains t70 (fun e72=>Z1 e72 (fun r78=>ifW (!r78) (κ false) (jt t70 1 (fun t79=>nx71 t79))))) (jk (fun (nx81:Int→Prop) (t80:Int)=>ifW (decide (t80<(s_0.xChains.length:Int))) (zK s_0.xChains t80 (fun e82=>Xh e82 (fun r88=>jk (fun (nx92:Int→Prop) (t91:Int)=>ifW (decide (t91<(r88.length:Int))) (zK r88 t91 (fun e93=>ifW (decide ((s_0.xChains.length:Int)≤e93)) (κ false) (jt t91 1 (fun t95=>nx92 t95)))) (jt t80 1 (fun t96=>nx81 t96))) 0))) (Ym s_0.xChains (fun r97=>κ r97))) 0)) 0)) (fun k69=>ifW (decide ((s_0.xChains.length:Int)<1)) (k69 true) (k69 (decide (5<(s_0.xChains.length:Int)))))
def Y7 (r_0:zG) (κ:uD→Prop):Prop :=
 ifW (decide (r_0.xAction=1)) (κ (uD.kDeciding (uU.mk true))) (ifW (decide (r_0.xAction=2)) (κ (uD.kDeciding (uU.mk false))) (ifW (decide (r_0.xAction=3)) (κ (uD.kCalling (Z6.mk r_0.xChain))) (ifW (decide (r_0.xAction=4)) (κ (uD.kReturning (uV.mk ))) (κ (uD.kPassing (Zb.mk ))))))
def uB (a_0:(List ze)) (b_1:(List ze)) (κ:(Int×Bool)→Prop):Prop :=
 jk (fun (nx7:(Int×Int)→Prop) ((t5,t6):(Int×Int))=>jnW (fun (t68:Bool)=>ifW t68 (zK a_0 t5 (fun e70=>zK b_1 t6 (fun e72=>zK a_0 t5 (fun e74=>zK b_1 t6 (fun e76=>ifW (decide ((max e70.xLo e72.xLo)≤(min e74.xHi e76.xHi))) (κ ((max e70.xLo e72.xLo),true)) (zK a_0 t5 (fun e78=>zK b_1 t6 (fun e80=>ifW (decide (e78.xHi<e80.xHi)) (jt t5 1 (fun t82=>nx7 (t82,t6))) (jt t6 1 (fun t83=>nx7 (t5,t83))))))))))) (κ (0,false))) (fun k69=>ifW (decide (t5<(a_0.length:Int))) (k69 (decide (t6<(b_1.length:Int)))) (k69 false))) (0,0)
def Y6 (fields_0:zgp) (κ:uP→Prop):Prop :=
 zK ([fields_0.x0,fields_0.x1,fields_0.x2,fields_0.x3]) 0 (fun e5=>zK ([fields_0.x0,fields_0.x1,fields_0.x2,fields_0.x3]) 1 (fun e7=>zK ([fields_0.x0,fields_0.x1,fields_0.x2,fields_0.x3]) 2 (fun e9=>zK ([fields_0.x0,fields_0.x1,fields_0.x2,fields_0.x3]) 3 (fun e11=>κ (uP.mk e5 e7 e9 e11)))))
def uX (s_0:za) (other_1:za) (κ:(uP×Bool)→Prop):Prop :=
 jk (fun (nx52:((List Int)×Int)→Prop) ((xs49,t51):((List Int)×Int))=>ifW (decide (t51<4)) (jnW (fun ((t53,t54):(Int×Bool))=>ifW (!t54) (κ ((uP.mk 0 0 0 0),false)) (zK xs49 t51 (fun e78=>jt t51 1 (fun t81=>nx52 ((xs49.set (t51).toNat t53),t81))))) (fun k55=>zK ([s_0.x0,s_0.x1,s_0.x2,s_0.x3]) t51 (fun e56=>zK ([other_1.x0,other_1.x1,other_1.x2,other_1.x3]) t51 (fun e58=>uB e56 e58 (fun (r68,r69)=>k55 (r68,r69)))))) (zeH xs49 (fun e82 e83 e84 e85=>Y6 (zgp.mk e82 e83 e84 e85) (fun r87=>κ (r87,true))))) ([0,0,0,0],0)
def x6 (s_0:za) (other_1:za) (κ:Bool→Prop):Prop :=
 uX s_0 other_1 (fun (r75,r76)=>κ r76)
def u9 (list_0:(List ze)) (κ:((List ze)×Bool)→Prop):Prop :=
 ifW (decide (40<(list_0.length:Int))) (κ ([],false)) (κ (list_0,true))
def x8 (rest_0:(List ze)) (at_1:Int) (top_2:Int) (κ:(Bool×Int)→Prop):Prop :=
 ifW (decide ((rest_0.length:Int)=0)) (κ (false,top_2)) (zK rest_0 0 (fun e3=>ifW (decide (at_1<e3.xLo)) (zK rest_0 0 (fun e5=>YY e5.xLo 1 (fun t7=>κ (false,t7)))) (zK rest_0 0 (fun e8=>κ (true,e8.xHi)))))
def XH (inA_0:Bool) (inB_1:Bool) (κ:Bool→Prop):Prop :=
 jnW (fun (t61:Bool)=>κ t61) (fun k62=>ifW inA_0 (k62 inB_1) (k62 false))
def ui (a_0:(List ze)) (b_1:(List ze)) (top_2:Int) (κ:(List ze)→Prop):Prop :=
 jk (fun (nx14:((List ze)×Int×Int×Int)→Prop) ((xs8,t11,t12,t13):((List ze)×Int×Int×Int))=>ifW (decide (t13≤top_2)) (jk (fun (nx16:Int→Prop) (t15:Int)=>jnW (fun (t79:Bool)=>ifW t79 (jt t15 1 (fun t81=>nx16 t81)) (jk (fun (nx83:Int→Prop) (t82:Int)=>jnW (fun (t146:Bool)=>ifW t146 (jt t82 1 (fun t148=>nx83 t148)) (yG a_0 t15 (a_0.length:Int) (fun xs150=>x8 xs150 t13 top_2 (fun (r153,r154)=>yG b_1 t82 (b_1.length:Int) (fun xs156=>x8 xs156 t13 top_2 (fun (r159,r160)=>jnW (fun (xs296:(List ze))=>jt (min r154 r160) 1 (fun t300=>nx14 (xs296,t15,t82,t300))) (fun k299=>XH r153 r159 (fun r161=>ifW r161 (jnW (fun (t226:Bool)=>ifW t226 (YY (xs8.length:Int) 1 (fun t228=>zK xs8 t228 (fun e229=>k299 (xs8.set (t228).toNat (ze.mk e229.xLo (min r154 r160)))))) (jG xs8 ([(ze.mk t13 (min r154 r160))]) (fun _=>k299 (xs8++([(ze.mk t13 (min r154 r160))]))))) (fun k227=>ifW (decide (0<(xs8.length:Int))) (YY (xs8.length:Int) 1 (fun t162=>zK xs8 t162 (fun e163=>jt e163.xHi 1 (fun t165=>k227 (decide (t165=t13)))))) (k227 false))) (k299 xs8))))))))) (fun k147=>ifW (decide (t82<(b_1.length:Int))) (zK b_1 t82 (fun e84=>k147 (decide (e84.xHi<t13)))) (k147 false))) t12)) (fun k80=>ifW (decide (t15<(a_0.length:Int))) (zK a_0 t15 (fun e17=>k80 (decide (e17.xHi<t13)))) (k80 false))) t11) (κ xs8)) ([],0,0,0)
def zD (a_0:(List ze)) (b_1:(List ze)) (top_2:Int) (κ:((List ze)×Bool)→Prop):Prop :=
 ui a_0 b_1 top_2 (fun r6=>u9 r6 (fun (r9,r12)=>κ (r9,r12)))
def yc (s_0:za) (other_1:za) (κ:(za×Bool)→Prop):Prop :=
 jk (fun (nx52:((List (List ze))×Int)→Prop) ((xs49,t51):((List (List ze))×Int))=>ifW (decide (t51<4)) (jnW (fun ((xs53,t56):((List ze)×Bool))=>ifW (!t56) (κ ((za.mk ([]) ([]) ([]) ([])),false)) (zK xs49 t51 (fun e122=>jt t51 1 (fun t128=>nx52 ((xs49.set (t51).toNat xs53),t128))))) (fun k57=>zK ([s_0.x0,s_0.x1,s_0.x2,s_0.x3]) t51 (fun e58=>zK ([other_1.x0,other_1.x1,other_1.x2,other_1.x3]) t51 (fun e60=>zC t51 (fun r70=>zD e58 e60 r70 (fun (r71,r73)=>k57 (r71,r73))))))) (zeH xs49 (fun e129 e130 e131 e132=>κ ((za.mk e129 e130 e131 e132),true)))) ([[],[],[],[]],0)
def jU (u_0_chains:(List (List zG))) (u_0_flats:(List zl)) (u_0_over:Bool) (boxes_1:(List za)) (κ:((List za)×Bool)→Prop):Prop :=
 jnW (fun (t70:Bool)=>κ (boxes_1,t70)) (fun k71=>ifW (decide (400<(boxes_1.length:Int))) (k71 true) (k71 u_0_over))
def uT (s_0:za) (κ:Bool→Prop):Prop :=
 jk (fun (nx39:Int→Prop) (t38:Int)=>ifW (decide (t38<4)) (zK ([s_0.x0,s_0.x1,s_0.x2,s_0.x3]) t38 (fun e41=>ifW (decide ((e41.length:Int)=0)) (κ true) (jt t38 1 (fun t44=>nx39 t44)))) (κ false)) 0
def yA (inA_0:Bool) (inB_1:Bool) (κ:Bool→Prop):Prop :=
 jnW (fun (t61:Bool)=>κ t61) (fun k62=>ifW inA_0 (k62 (!inB_1)) (k62 false))
def zX (a_0:(List ze)) (b_1:(List ze)) (top_2:Int) (κ:(List ze)→Prop):Prop :=
 jk (fun (nx14:((List ze)×Int×Int×Int)→Prop) ((xs8,t11,t12,t13):((List ze)×Int×Int×Int))=>ifW (decide (t13≤top_2)) (jk (fun (nx16:Int→Prop) (t15:Int)=>jnW (fun (t79:Bool)=>ifW t79 (jt t15 1 (fun t81=>nx16 t81)) (jk (fun (nx83:Int→Prop) (t82:Int)=>jnW (fun (t146:Bool)=>ifW t146 (jt t82 1 (fun t148=>nx83 t148)) (yG a_0 t15 (a_0.length:Int) (fun xs150=>x8 xs150 t13 top_2 (fun (r153,r154)=>yG b_1 t82 (b_1.length:Int) (fun xs156=>x8 xs156 t13 top_2 (fun (r159,r160)=>jnW (fun (xs296:(List ze))=>jt (min r154 r160) 1 (fun t300=>nx14 (xs296,t15,t82,t300))) (fun k299=>yA r153 r159 (fun r161=>ifW r161 (jnW (fun (t226:Bool)=>ifW t226 (YY (xs8.length:Int) 1 (fun t228=>zK xs8 t228 (fun e229=>k299 (xs8.set (t228).toNat (ze.mk e229.xLo (min r154 r160)))))) (jG xs8 ([(ze.mk t13 (min r154 r160))]) (fun _=>k299 (xs8++([(ze.mk t13 (min r154 r160))]))))) (fun k227=>ifW (decide (0<(xs8.length:Int))) (YY (xs8.length:Int) 1 (fun t162=>zK xs8 t162 (fun e163=>jt e163.xHi 1 (fun t165=>k227 (decide (t165=t13)))))) (k227 false))) (k299 xs8))))))))) (fun k147=>ifW (decide (t82<(b_1.length:Int))) (zK b_1 t82 (fun e84=>k147 (decide (e84.xHi<t13)))) (k147 false))) t12)) (fun k80=>ifW (decide (t15<(a_0.length:Int))) (zK a_0 t15 (fun e17=>k80 (decide (e17.xHi<t13)))) (k80 false))) t11) (κ xs8)) ([],0,0,0)
def jf (a_0:(List ze)) (b_1:(List ze)) (top_2:Int) (κ:((List ze)×Bool)→Prop):Prop :=
 zX a_0 b_1 top_2 (fun r6=>u9 r6 (fun (r9,r12)=>κ (r9,r12)))
def ZN {σ_:Type} (Y_:σ_→za→Bool→(Bool×σ_→Prop)→Prop) (z_:σ_) (a_1:za) (b_2:za) (κ:σ_→Prop):Prop :=
 uT a_1 (fun r20=>ifW r20 (κ z_) (x6 a_1 b_2 (fun r51=>ifW (!r51) (Y_ z_ a_1 true (fun (t67,z68)=>κ z68)) (jk (fun (nx108:((List (List ze))×σ_×Bool×Int)→Prop) ((xs101,z103,t106,t107):((List (List ze))×σ_×Bool×Int))=>ifW (decide (t107<4)) (jnW (fun ((z498,xs501,t503):(σ_×(List (List ze))×Bool))=>jt t107 1 (fun t505=>nx108 (xs501,z498,t503,t505))) (fun k504=>jnW (fun ((xs109,t112):((List ze)×Bool))=>jnW (fun (t232:Bool)=>ifW t232 (Y_ z103 (za.mk ([]) ([]) ([]) ([])) false (fun (t234,z235)=>κ z235)) (jnW (fun ((z363,xs366):(σ_×(List (List ze))))=>jnW (fun ((xs369,t372):((List ze)×Bool))=>zK xs366 t107 (fun e432=>ifW t106 (k504 (z363,(xs366.set (t107).toNat xs369),t372)) (k504 (z363,(xs366.set (t107).toNat xs369),false)))) (fun k373=>(zK ([a_1.x0,a_1.x1,a_1.x2,a_1.x3]) t107 (fun e374=>(zK ([b_2.x0,b_2.x1,b_2.x2,b_2.x3]) t107 (fun e379=>zC t107 (fun r384=>zD e374 e379 r384 (fun (r385,r387)=>k373 (r385,r387)))))∧(zC t107 (fun r388=>zK ([b_2.x0,b_2.x1,b_2.x2,b_2.x3]) t107 (fun e389=>zD e374 e389 r388 (fun (r394,r396)=>k373 (r394,r396)))))))∧(zK ([b_2.x0,b_2.x1,b_2.x2,b_2.x3]) t107 (fun e397=>(zK ([a_1.x0,a_1.x1,a_1.x2,a_1.x3]) t107 (fun e402=>zC t107 (fun r407=>zD e402 e397 r407 (fun (r385,r387)=>k373 (r385,r387)))))∧(zC t107 (fun r408=>zK ([a_1.x0,a_1.x1,a_1.x2,a_1.x3]) t107 (fun e409=>zD e409 e397 r408 (fun (r414,r416)=>k373 (r414,r416)))))))∧(zC t107 (fun r417=>(zK ([a_1.x0,a_1.x1,a_1.x2,a_1.x3]) t107 (fun e418=>zK ([b_2.x0,b_2.x1,b_2.x2,b_2.x3]) t107 (fun e423=>zD e418 e423 r417 (fun (r394,r396)=>k373 (r394,r396)))))∧(zK ([b_2.x0,b_2.x1,b_2.x2,b_2.x3]) t107 (fun e425=>zK ([a_1.x0,a_1.x1,a_1.x2,a_1.x3]) t107 (fun e430=>zD e430 e425 r417 (fun (r414,r416)=>k373 (r414,r416))))))))) (fun k368=>ifW (decide (0<(xs109.length:Int))) (zeH xs101 (fun e238 e239 e240 e241=>zK ([e238,e239,e240,e241]) t107 (fun e273=>zeH (([e238,e239,e240,e241]).set (t107).toNat xs109) (fun e279 e280 e281 e282=>Y_ z103 (za.mk e279 e280 e281 e282) true (fun (t299,z300)=>ifW (!t299) (κ z300) (k368 (z300,[e238,e239,e240,e241]))))))) (k368 (z103,xs101))))) (fun k233=>ifW (!t112) (k233 true) (ifW (decide (0<(xs109.length:Int))) (k233 (!t106)) (k233 false)))) (fun k113=>(zK ([a_1.x0,a_1.x1,a_1.x2,a_1.x3]) t107 (fun e114=>(zK ([b_2.x0,b_2.x1,b_2.x2,b_2.x3]) t107 (fun e119=>zC t107 (fun r124=>jf e114 e119 r124 (fun (r125,r127)=>k113 (r125,r127)))))∧(zC t107 (fun r128=>zK ([b_2.x0,b_2.x1,b_2.x2,b_2.x3]) t107 (fun e129=>jf e114 e129 r128 (fun (r134,r136)=>k113 (r134,r136)))))))∧(zK ([b_2.x0,b_2.x1,b_2.x2,b_2.x3]) t107 (fun e137=>(zK ([a_1.x0,a_1.x1,a_1.x2,a_1.x3]) t107 (fun e142=>zC t107 (fun r147=>jf e142 e137 r147 (fun (r125,r127)=>k113 (r125,r127)))))∧(zC t107 (fun r148=>zK ([a_1.x0,a_1.x1,a_1.x2,a_1.x3]) t107 (fun e149=>jf e149 e137 r148 (fun (r154,r156)=>k113 (r154,r156)))))))∧(zC t107 (fun r157=>(zK ([a_1.x0,a_1.x1,a_1.x2,a_1.x3]) t107 (fun e158=>zK ([b_2.x0,b_2.x1,b_2.x2,b_2.x3]) t107 (fun e163=>jf e158 e163 r157 (fun (r134,r136)=>k113 (r134,r136)))))∧(zK ([b_2.x0,b_2.x1,b_2.x2,b_2.x3]) t107 (fun e165=>zK ([a_1.x0,a_1.x1,a_1.x2,a_1.x3]) t107 (fun e170=>jf e170 e165 r157 (fun (r154,r156)=>k113 (r154,r156)))))))))) (κ z103)) ([a_1.x0,a_1.x1,a_1.x2,a_1.x3],z_,true,0)))))
def U9 (z:Option (List za)) (x:za) (ok:Bool) (κ:Bool×Option (List za)→Prop):Prop :=
 match z with
 | none=>False
 | some xs=>ifW ok (jG xs [x] (fun ys=>κ (true,some ys))) (κ (false,none))
def zjR:Option (List za)→List za×Bool
 | some xs=>(xs,true)
 | none=>([],false)
def uS (s_0:za) (other_1:za) (κ:((List za)×Bool)→Prop):Prop :=
 ZN U9 (some []) s_0 other_1 (fun r=>κ (zjR r))
def yl (u_0_chains:(List (List zG))) (u_0_flats:(List zl)) (u_0_over:Bool) (boxes_1:(List za)) (where_2:za) (κ:((List za)×(List za)×Bool)→Prop):Prop :=
 jk (fun (nx42:((List za)×(List za)×Int)→Prop) ((xs34,xs38,t41):((List za)×(List za)×Int))=>ifW (decide (t41<(boxes_1.length:Int))) (zK boxes_1 t41 (fun e43=>jnW (fun (xs252:(List za))=>uS e43 where_2 (fun (r286,r289)=>ifW (!r289) (κ ([],[],true)) (jG xs38 r286 (fun _=>jt t41 1 (fun t294=>nx42 (xs252,(xs38++r286),t294)))))) (fun k255=>x6 e43 where_2 (fun r103=>ifW r103 (yc e43 where_2 (fun (r134,r143)=>ifW (!r143) (κ ([],[],true)) (jG xs34 ([r134]) (fun _=>k255 (xs34++([r134])))))) (k255 xs34))))) (jU u_0_chains u_0_flats u_0_over xs34 (fun (r295,r298)=>jU u_0_chains u_0_flats r298 xs38 (fun (r299,r302)=>κ (r295,r299,r302))))) ([],[],0)
def yJ (κ:za→Prop):Prop :=
 jk (fun (nx8:((List (List ze))×Int)→Prop) ((xs5,t7):((List (List ze))×Int))=>ifW (decide (t7<4)) (zC t7 (fun r9=>zK xs5 t7 (fun e12=>jt t7 1 (fun t18=>nx8 ((xs5.set (t7).toNat ([(ze.mk 0 r9)])),t18))))) (zeH xs5 (fun e19 e20 e21 e22=>κ (za.mk e19 e20 e21 e22)))) ([[],[],[],[]],0)
def uI (t_0:jH) (κ:(List ze)→Prop):Prop :=
 ifW (!t_0.xNot) (κ ([(ze.mk t_0.xLo t_0.xHi)])) (jnW (fun (xs72:(List ze))=>jnW (fun (xs142:(List ze))=>κ xs142) (fun k145=>zC t_0.xField (fun r76=>ifW (decide (t_0.xHi<r76)) (jt t_0.xHi 1 (fun t77=>jG xs72 ([(ze.mk t77 r76)]) (fun _=>k145 (xs72++([(ze.mk t77 r76)]))))) (k145 xs72)))) (fun k75=>ifW (decide (0<t_0.xLo)) (YY t_0.xLo 1 (fun t7=>jG ([]) ([(ze.mk 0 t7)]) (fun _=>k75 (([])++([(ze.mk 0 t7)]))))) (k75 ([]))))
def ZX (list_0:(List jH)) (κ:za→Prop):Prop :=
 yJ (fun r5=>jk (fun (nx32:((List (List ze))×Int)→Prop) ((xs29,t31):((List (List ze))×Int))=>ifW (decide (t31<(list_0.length:Int))) (zK list_0 t31 (fun e33=>jnW (fun (xs37:(List (List ze)))=>jt t31 1 (fun t76=>nx32 (xs37,t76))) (fun k39=>(zK xs29 e33.xField (fun e40=>uI e33 (fun r46=>zC e33.xField (fun r48=>zD e40 r46 r48 (fun (r49,r51)=>zK xs29 e33.xField (fun e52=>k39 (xs29.set (e33.xField).toNat r49)))))))∧(uI e33 (fun r69=>(zK xs29 e33.xField (fun e71=>zC e33.xField (fun r48=>zD e71 r69 r48 (fun (r49,r51)=>zK xs29 e33.xField (fun e52=>k39 (xs29.set (e33.xField).toNat r49))))))∧(zC e33.xField (fun r73=>zK xs29 e33.xField (fun e74=>zD e74 r69 r73 (fun (r49,r51)=>zK xs29 e33.xField (fun e52=>k39 (xs29.set (e33.xField).toNat r49))))))))))) (zeH xs29 (fun e77 e78 e79 e80=>κ (za.mk e77 e78 e79 e80)))) ([r5.x0,r5.x1,r5.x2,r5.x3],0))
def uu (s_0:(List za)) (n_1:Int) (κ:(List za)→Prop):Prop:=s_0=[]∧0≤n_1∧n_1≤4294967296∧κ []
def jO (slices_0:(List (List za))) (κ:(List za)→Prop):Prop :=
 jk (fun (nx6:(Int×Int)→Prop) ((t4,t5):(Int×Int))=>ifW (decide (t5<(slices_0.length:Int))) (zK slices_0 t5 (fun e7=>jt t4 (e7.length:Int) (fun t13=>ifW (decide (t13<0)) (False) (jt t5 1 (fun t14=>nx6 (t13,t14)))))) (uu ([]) t4 (fun r15=>jk (fun (nx23:((List za)×Int)→Prop) ((xs19,t22):((List za)×Int))=>ifW (decide (t22<(slices_0.length:Int))) (zK slices_0 t22 (fun e24=>jG xs19 e24 (fun _=>jt t22 1 (fun t32=>nx23 ((xs19++e24),t32))))) (κ xs19)) (r15,0)))) (0,0)
def uJ (d_0:uU) (u_1_chains:(List (List zG))) (u_1_flats:(List zl)) (u_1_over:Bool) (__2:(List za)) (fitting_3:(List za)) (missing_4:(List za)) (κ:((List za)×(List zl)×Bool)→Prop):Prop :=
 jk (fun (nx23:((List zl)×Int)→Prop) ((xs19,t22):((List zl)×Int))=>ifW (decide (t22<(fitting_3.length:Int))) (zK fitting_3 t22 (fun e24=>jnW (fun (xs57:(List zl))=>jt t22 1 (fun t113=>nx23 (xs57,t113))) (fun k60=>jG xs19 ([(zl.mk e24 d_0.xAccept)]) (fun _=>k60 (xs19++([(zl.mk e24 d_0.xAccept)])))))) (jnW (fun (t174:Bool)=>κ (missing_4,xs19,t174)) (fun k175=>ifW (decide (60<(xs19.length:Int))) (k175 true) (k175 u_1_over)))) (u_1_flats,0)
def Zq (a_0:uV) (__1_chains:(List (List zG))) (__1_flats:(List zl)) (__1_over:Bool) (left_2:(List za)) (fitting_3:(List za)) (missing_4:(List za)) (κ:((List za)×(List za))→Prop):Prop :=
 jG left_2 fitting_3 (fun _=>κ (missing_4,(left_2++fitting_3)))
def ZP (a_0:Zb) (__1_chains:(List (List zG))) (__1_flats:(List zl)) (__1_over:Bool) (__2:(List za)) (fitting_3:(List za)) (missing_4:(List za)) (κ:(List za)→Prop):Prop :=
 jO ([missing_4,fitting_3]) (fun r26=>κ r26)
def ZM (rec:(List (List zG))→(List zl)→Bool→Int→(List za)→(((List za)×(List zl)×Bool)→Prop)→Prop) (c_0:Z6) (u_1_chains:(List (List zG))) (u_1_flats:(List zl)) (u_1_over:Bool) (__2:(List za)) (fitting_3:(List za)) (missing_4:(List za)) (κ:((List za)×(List zl)×Bool)→Prop):Prop :=
 rec u_1_chains u_1_flats u_1_over c_0.xChain fitting_3 (fun (r18,r21,r24)=>jO ([missing_4,r18]) (fun r33=>κ (r33,r21,r24)))
def yC (rec:((List (List zG))→(List zl)→Bool→Int→(List za)→(((List za)×(List zl)×Bool)→Prop)→Prop)) (u_0_chains:(List (List zG))) (u_0_flats:(List zl)) (u_0_over:Bool) (number_1:Int) (boxes_2:(List za)) (κ:((List za)×(List zl)×Bool)→Prop):Prop :=
 ifW (decide ((boxes_2.length:Int)=0)) (κ ([],u_0_flats,u_0_over)) (zK u_0_chains number_1 (fun e14=>jk (fun (nx34:((List za)×(List zl)×Bool×(List za)×Int)→Prop) ((xs21,xs25,t28,xs30,t33):((List za)×(List zl)×Bool×(List za)×Int))=>ifW (decide (t33<(e14.length:Int))) (jnW (fun ((xs171,xs174,t177,xs179):((List zl)×(List za)×Bool×(List za)))=>jt t33 1 (fun t183=>nx34 (xs174,xs171,t177,xs179,t183))) (fun k182=>zK e14 t33 (fun e35=>ZX e35.xTests (fun r46=>yl u_0_chains xs25 t28 xs30 r46 (fun (r55,r58,r61)=>ifW r61 (κ ([],xs25,r61)) (Y7 e35 (fun r63=>uD.casesW r63 (fun x64=>uJ x64 u_0_chains xs25 r61 xs21 r55 r58 (fun (r68,r71,r74)=>jU u_0_chains r71 r74 r68 (fun (r75,r78)=>ifW r78 (κ ([],r71,r78)) (k182 (r71,xs21,r78,r75))))) (fun x65=>ZM rec x65 u_0_chains xs25 r61 xs21 r55 r58 (fun (r80,r83,r86)=>jU u_0_chains r83 r86 r80 (fun (r87,r90)=>ifW r90 (κ ([],r83,r90)) (k182 (r83,xs21,r90,r87))))) (fun x66=>Zq (uV.mk ) u_0_chains xs25 r61 xs21 r55 r58 (fun (r92,r95)=>jU u_0_chains xs25 r61 r92 (fun (r98,r101)=>ifW r101 (κ ([],xs25,r101)) (k182 (xs25,r95,r101,r98))))) (fun x67=>ZP (Zb.mk ) u_0_chains xs25 r61 xs21 r55 r58 (fun r103=>jU u_0_chains xs25 r61 r103 (fun (r106,r109)=>ifW r109 (κ ([],xs25,r109)) (k182 (xs25,xs21,r109,r106)))))))))))) (jO ([xs21,xs30]) (fun r192=>jU u_0_chains xs25 t28 r192 (fun (r195,r198)=>κ (r195,xs25,r198))))) ([],u_0_flats,u_0_over,boxes_2,0)))
def xU:Nat→(List (List zG))→(List zl)→Bool→Int→(List za)→(((List za)×(List zl)×Bool)→Prop)→Prop
 | 0=>fun _ _ _ _ _ _=>False
 | n+1=>yC (xU n)
def YG (u_0_chains:(List (List zG))) (u_0_flats:(List zl)) (u_0_over:Bool) (number_1:Int) (boxes_2:(List za)) (κ:((List za)×(List zl)×Bool)→Prop):Prop:=∃ n,xU n u_0_chains u_0_flats u_0_over number_1 boxes_2 κ
def Zw (s_0:zM) (κ:((List zl)×Bool)→Prop):Prop :=
 yJ (fun r11=>YG s_0.xChains ([]) false 0 ([r11]) (fun (r35,r38,r41)=>κ (r38,(!r41))))
def Yj (list_0:(List zl)) (rest_1:Bool) (κ:(List zl)→Prop):Prop :=
 jk (fun (nx5:Int→Prop) (t4:Int)=>jnW (fun (t69:Bool)=>ifW t69 (YY t4 1 (fun t71=>nx5 t71)) (yG list_0 0 t4 (fun xs73=>κ xs73))) (fun k70=>ifW (decide (0<t4)) (YY t4 1 (fun t6=>zK list_0 t6 (fun e7=>k70 (decide (e7.xAccept=rest_1))))) (k70 false))) (list_0.length:Int)
def xL (s_0:(List zl)) (κ:(List zl)→Prop):Prop :=
 zku true s_0 (fun t4=>ifW t4 (κ ([])) (jG ([]) s_0 (fun _=>κ (([])++s_0))))
def yk (s_0:za) (other_1:za) (κ:Bool→Prop):Prop :=
 uT s_0 (fun r60=>ifW r60 (κ true) (jk (fun (nx62:Int→Prop) (t61:Int)=>ifW (decide (t61<4)) (jnW (fun (t63:Bool)=>ifW t63 (κ false) (jt t61 1 (fun t107=>nx62 t107))) (fun k64=>zK ([s_0.x0,s_0.x1,s_0.x2,s_0.x3]) t61 (fun e65=>zK ([other_1.x0,other_1.x1,other_1.x2,other_1.x3]) t61 (fun e67=>zC t61 (fun r77=>zX e65 e67 r77 (fun r78=>k64 (decide (0<(r78.length:Int))))))))) (κ true)) 0))
def jJ (s1_0:(List ze)) (s2_1:(List ze)) (κ:Bool→Prop):Prop :=
 ifW (!(decide ((s1_0.length:Int)=(s2_1.length:Int)))) (κ false) (jk (fun (nx6:Int→Prop) (t5:Int)=>ifW (decide (t5<(s1_0.length:Int))) (zK s1_0 t5 (fun e7=>zK s2_1 t5 (fun e9=>ifW (!(decide (e7=e9))) (κ false) (jt t5 1 (fun t11=>nx6 t11))))) (κ true)) 0)
def ZB (inA_0:Bool) (inB_1:Bool) (κ:Bool→Prop):Prop :=
 jnW (fun (t61:Bool)=>κ t61) (fun k62=>ifW inA_0 (k62 true) (k62 inB_1))
def xW (a_0:(List ze)) (b_1:(List ze)) (top_2:Int) (κ:(List ze)→Prop):Prop :=
 jk (fun (nx14:((List ze)×Int×Int×Int)→Prop) ((xs8,t11,t12,t13):((List ze)×Int×Int×Int))=>ifW (decide (t13≤top_2)) (jk (fun (nx16:Int→Prop) (t15:Int)=>jnW (fun (t79:Bool)=>ifW t79 (jt t15 1 (fun t81=>nx16 t81)) (jk (fun (nx83:Int→Prop) (t82:Int)=>jnW (fun (t146:Bool)=>ifW t146 (jt t82 1 (fun t148=>nx83 t148)) (yG a_0 t15 (a_0.length:Int) (fun xs150=>x8 xs150 t13 top_2 (fun (r153,r154)=>yG b_1 t82 (b_1.length:Int) (fun xs156=>x8 xs156 t13 top_2 (fun (r159,r160)=>jnW (fun (xs296:(List ze))=>jt (min r154 r160) 1 (fun t300=>nx14 (xs296,t15,t82,t300))) (fun k299=>ZB r153 r159 (fun r161=>ifW r161 (jnW (fun (t226:Bool)=>ifW t226 (YY (xs8.length:Int) 1 (fun t228=>zK xs8 t228 (fun e229=>k299 (xs8.set (t228).toNat (ze.mk e229.xLo (min r154 r160)))))) (jG xs8 ([(ze.mk t13 (min r154 r160))]) (fun _=>k299 (xs8++([(ze.mk t13 (min r154 r160))]))))) (fun k227=>ifW (decide (0<(xs8.length:Int))) (YY (xs8.length:Int) 1 (fun t162=>zK xs8 t162 (fun e163=>jt e163.xHi 1 (fun t165=>k227 (decide (t165=t13)))))) (k227 false))) (k299 xs8))))))))) (fun k147=>ifW (decide (t82<(b_1.length:Int))) (zK b_1 t82 (fun e84=>k147 (decide (e84.xHi<t13)))) (k147 false))) t12)) (fun k80=>ifW (decide (t15<(a_0.length:Int))) (zK a_0 t15 (fun e17=>k80 (decide (e17.xHi<t13)))) (k80 false))) t11) (κ xs8)) ([],0,0,0)
def xu (a_0:(List ze)) (b_1:(List ze)) (top_2:Int) (κ:((List ze)×Bool)→Prop):Prop :=
 xW a_0 b_1 top_2 (fun r6=>u9 r6 (fun (r9,r12)=>κ (r9,r12)))
def uK (a_0:za) (b_1:za) (κ:(za×Bool)→Prop):Prop :=
 yk a_0 b_1 (fun r77=>ifW r77 (κ (b_1,true)) (yk b_1 a_0 (fun r156=>ifW r156 (κ (a_0,true)) (jk (fun (nx208:(Int×Int×Int)→Prop) ((t205,t206,t207):(Int×Int×Int))=>ifW (decide (t207<4)) (jnW (fun ((t293,t294):(Int×Int))=>jt t207 1 (fun t296=>nx208 (t293,t294,t296))) (fun k295=>jnW (fun (t209:Bool)=>ifW t209 (jt t206 1 (fun t232=>k295 (t207,t232))) (k295 (t205,t206))) (fun k210=>zK ([a_0.x0,a_0.x1,a_0.x2,a_0.x3]) t207 (fun e211=>zK ([b_1.x0,b_1.x1,b_1.x2,b_1.x3]) t207 (fun e213=>jJ e211 e213 (fun r223=>k210 (!r223))))))) (ifW (!(decide (t206=1))) (κ ((za.mk ([]) ([]) ([]) ([])),false)) (jnW (fun ((xs318,t321):((List ze)×Bool))=>ifW (!t321) (κ ((za.mk ([]) ([]) ([]) ([])),false)) (zK ([a_0.x0,a_0.x1,a_0.x2,a_0.x3]) t205 (fun e417=>zeH (([a_0.x0,a_0.x1,a_0.x2,a_0.x3]).set (t205).toNat xs318) (fun e423 e424 e425 e426=>κ ((za.mk e423 e424 e425 e426),true))))) (fun k322=>zK ([a_0.x0,a_0.x1,a_0.x2,a_0.x3]) t205 (fun e323=>zK ([b_1.x0,b_1.x1,b_1.x2,b_1.x3]) t205 (fun e325=>zC t205 (fun r335=>xu e323 e325 r335 (fun (r336,r338)=>k322 (r336,r338))))))))) (0,0,0)))))
def xE (s_0:(List zl)) (i_1:Int) (j_2:Int) (κ:(List zl)→Prop):Prop:=0≤i_1∧i_1≤j_2∧j_2≤(s_0.length:Int)∧κ (s_0.take i_1.toNat++s_0.drop j_2.toNat)
def ym (list_0:(List zl)) (κ:(List zl)→Prop):Prop :=
 xL list_0 (fun r4=>jk (fun (nx12:((List zl)×Int)→Prop) ((xs8,t11):((List zl)×Int))=>jt t11 1 (fun t13=>ifW (decide (t13<(xs8.length:Int))) (jnW (fun ((xs149,t151):((List (List ze))×Bool))=>ifW (!t151) (jt t11 1 (fun t153=>nx12 (xs8,t153))) (zeH xs149 (fun e154 e155 e156 e157=>zK xs8 t11 (fun e174=>jt t11 1 (fun t189=>jt t11 2 (fun t190=>xE (xs8.set (t11).toNat (zl.mk (za.mk e154 e155 e156 e157) e174.xAccept)) t189 t190 (fun r191=>YY t11 1 (fun t194=>nx12 (r191,(max t194 0)))))))))) (fun k152=>zK xs8 t11 (fun e17=>jt t11 1 (fun t19=>zK xs8 t19 (fun e20=>ifW (decide (e17.xAccept=e20.xAccept)) (jnW (fun ((xs22,t24):((List (List ze))×Bool))=>k152 (xs22,t24)) (fun k25=>zK xs8 t11 (fun e26=>zK xs8 (w64 (t11+1)) (fun e28=>uK e26.xWhere e28.xWhere (fun (r50,r55)=>k25 ([r50.x0,r50.x1,r50.x2,r50.x3],r55)))))) (k152 ([[],[],[],[]],false))))))) (κ xs8))) (r4,0))
def XJ (list_0:(List zl)) (κ:(List za)→Prop):Prop :=
 zaj ((za.mk ([]) ([]) ([]) ([])):za) 0 (list_0.length:Int) (fun xs5=>jk (fun (nx12:((List za)×Int)→Prop) ((xs8,t11):((List za)×Int))=>ifW (decide (t11<(list_0.length:Int))) (zK list_0 t11 (fun e13=>jG xs8 ([e13.xWhere]) (fun _=>jt t11 1 (fun t46=>nx12 ((xs8++([e13.xWhere])),t46))))) (κ xs8)) (xs5,0))
def uC (s_0:za) (region_1:(List za)) (κ:((List za)×Bool)→Prop):Prop :=
 uT s_0 (fun r41=>ifW r41 (κ ([],true)) (jnW (fun (xs310:(List za))=>κ (xs310,true)) (fun k313=>jk (fun (nx77:((List za)×Int)→Prop) ((xs73,t76):((List za)×Int))=>ifW (decide (t76<(region_1.length:Int))) (zK region_1 t76 (fun e78=>jk (fun (nx114:((List za)×Int)→Prop) ((xs110,t113):((List za)×Int))=>ifW (decide (t113<(xs73.length:Int))) (zK xs73 t113 (fun e115=>uS e115 e78 (fun (r177,r180)=>jnW (fun (t242:Bool)=>ifW t242 (κ ([],false)) (jG xs110 r177 (fun _=>jt t113 1 (fun t247=>nx114 ((xs110++r177),t247))))) (fun k243=>ifW (!r180) (k243 true) (jt (xs110.length:Int) (r177.length:Int) (fun t181=>k243 (decide (400<t181)))))))) (ifW (decide ((xs110.length:Int)=0)) (k313 xs110) (jt t76 1 (fun t248=>nx77 (xs110,t248))))) ([],0))) (k313 xs73)) ([s_0],0))))
def XF (list_0:(List zl)) (n_1:Int) (κ:((List za)×Bool)→Prop):Prop :=
 zK list_0 n_1 (fun e4=>yG list_0 0 n_1 (fun xs20=>XJ xs20 (fun r23=>uC e4.xWhere r23 (fun (r26,r29)=>κ (r26,r29)))))
def YV (list_0:(List zl)) (κ:(List Int)→Prop):Prop :=
 jk (fun (nx10:((List Int)×Int)→Prop) ((xs6,t9):((List Int)×Int))=>ifW (decide (t9<(list_0.length:Int))) (jnW (fun (xs141:(List Int))=>jt t9 1 (fun t145=>nx10 (xs141,t145))) (fun k144=>XF list_0 t9 (fun (r11,r14)=>jnW (fun (t75:Bool)=>ifW t75 (jG xs6 ([t9]) (fun _=>k144 (xs6++([t9])))) (k144 xs6)) (fun k76=>ifW r14 (k76 (decide ((r11.length:Int)=0))) (k76 false))))) (κ xs6)) ([],0)
def Zz (list_0:(List zl)) (κ:(List zl)→Prop):Prop :=
 YV list_0 (fun r4=>zaj ((zl.mk (za.mk ([]) ([]) ([]) ([])) false):zl) 0 (list_0.length:Int) (fun xs8=>jk (fun (nx19:((List Int)×(List zl)×Int)→Prop) ((xs11,xs15,t18):((List Int)×(List zl)×Int))=>ifW (decide (t18<(list_0.length:Int))) (jnW (fun ((xs180,xs184):((List zl)×(List Int)))=>jt t18 1 (fun t188=>nx19 (xs184,xs180,t188))) (fun k187=>zK list_0 t18 (fun e20=>jnW (fun (t111:Bool)=>ifW t111 (yG xs11 1 (xs11.length:Int) (fun xs114=>k187 (xs15,xs114))) (jG xs15 ([e20]) (fun _=>k187 ((xs15++([e20])),xs11)))) (fun k112=>ifW (decide (0<(xs11.length:Int))) (zK xs11 0 (fun e49=>k112 (decide (e49=t18)))) (k112 false))))) (κ xs15)) (r4,xs8,0)))
def ZV (list_0:(List zl)) (rest_1:Bool) (κ:(List zl)→Prop):Prop :=
 jk (fun (nx8:(List zl)→Prop) (xs5:(List zl))=>Zz xs5 (fun r9=>ym r9 (fun r12=>Yj r12 rest_1 (fun r15=>ifW (decide ((r15.length:Int)=(xs5.length:Int))) (κ r15) (nx8 r15))))) list_0
def uM (s_0:zM) (κ:((List zl)×Bool)→Prop):Prop :=
 yY s_0 (fun r9=>ifW (!r9) (κ ([],false)) (Zw s_0 (fun (r11,r14)=>ifW (!r14) (κ ([],false)) (ZV r11 s_0.xAccept (fun r16=>κ (r16,true))))))
def u6 (f_0_accepted:(List za)) (f_0_dropped:(List za)) (boxes_1:(List za)) (accept_2:Bool) (κ:(Bool×(List za)×(List za))→Prop):Prop :=
 jnW (fun ((xs79,xs82):((List za)×(List za)))=>jt (xs79.length:Int) (xs82.length:Int) (fun t92=>κ ((decide (t92≤400)),xs79,xs82))) (fun k85=>ifW accept_2 (jG f_0_accepted boxes_1 (fun _=>k85 ((f_0_accepted++boxes_1),f_0_dropped))) (jG f_0_dropped boxes_1 (fun _=>k85 (f_0_accepted,(f_0_dropped++boxes_1)))))
def Z8 (list_0:(List zl)) (rest_1:Bool) (κ:(yV×Bool)→Prop):Prop :=
 jk (fun (nx16:((List za)×(List za)×Int)→Prop) ((xs8,xs12,t15):((List za)×(List za)×Int))=>ifW (decide (t15<(list_0.length:Int))) (zK list_0 t15 (fun e17=>XF list_0 t15 (fun (r46,r49)=>jnW (fun ((xs117,xs120,t123):((List za)×(List za)×Bool))=>ifW t123 (κ ((yV.mk ([]) ([])),false)) (jt t15 1 (fun t127=>nx16 (xs117,xs120,t127)))) (fun k124=>ifW (!r49) (k124 (xs8,xs12,true)) (u6 xs8 xs12 r46 e17.xAccept (fun (r50,r51,r54)=>k124 (r51,r54,(!r50)))))))) (yJ (fun r128=>XJ list_0 (fun r137=>uC r128 r137 (fun (r140,r143)=>jnW (fun ((xs211,xs214,t217):((List za)×(List za)×Bool))=>ifW t217 (κ ((yV.mk ([]) ([])),false)) (κ ((yV.mk xs211 xs214),true))) (fun k218=>ifW (!r143) (k218 (xs8,xs12,true)) (u6 xs8 xs12 r140 rest_1 (fun (r144,r145,r148)=>k218 (r145,r148,(!r144)))))))))) ([],[],0)
def ZA (a_0:(List zl)) (restA_1:Bool) (b_2:(List zl)) (restB_3:Bool) (κ:((List za)×Bool)→Prop):Prop :=
 Z8 a_0 restA_1 (fun (r6,r11)=>Z8 b_2 restB_3 (fun (r20,r25)=>jnW (fun (t94:Bool)=>ifW t94 (κ ([],false)) (jk (fun (nx103:((List za)×Int)→Prop) ((xs99,t102):((List za)×Int))=>ifW (decide (t102<(r6.xDropped.length:Int))) (zK r6.xDropped t102 (fun e104=>jk (fun (nx141:((List za)×Int)→Prop) ((xs137,t140):((List za)×Int))=>ifW (decide (t140<(r20.xAccepted.length:Int))) (jnW (fun (xs353:(List za))=>jt t140 1 (fun t357=>nx141 (xs353,t357))) (fun k356=>zK r20.xAccepted t140 (fun e142=>x6 e104 e142 (fun r204=>ifW (!r204) (k356 xs137) (yc e104 e142 (fun (r235,r244)=>ifW (!r244) (κ ([],false)) (ifW (decide ((xs137.length:Int)=400)) (κ ([],false)) (jG xs137 ([r235]) (fun _=>k356 (xs137++([r235]))))))))))) (jt t102 1 (fun t358=>nx103 (xs137,t358)))) (xs99,0))) (κ (xs99,true))) ([],0))) (fun k95=>ifW (!r11) (k95 true) (k95 (!r25)))))
def Zv (old_0:zM) (next_1:zM) (κ:Int→Prop):Prop :=
 uM old_0 (fun (r15,r18)=>uM next_1 (fun (r19,r22)=>jnW (fun (t83:Bool)=>ifW t83 (κ 4) (ZA r15 old_0.xAccept r19 next_1.xAccept (fun (r85,r88)=>ZA r19 next_1.xAccept r15 old_0.xAccept (fun (r89,r92)=>jnW (fun (t153:Bool)=>ifW t153 (κ 4) (jnW (fun (t215:Bool)=>ifW t215 (κ 3) (ifW (decide (0<(r85.length:Int))) (κ 2) (ifW (decide (0<(r89.length:Int))) (κ 1) (κ 0)))) (fun k216=>ifW (decide (0<(r85.length:Int))) (k216 (decide (0<(r89.length:Int)))) (k216 false)))) (fun k154=>ifW (!r88) (k154 true) (k154 (!r92))))))) (fun k84=>ifW (!r18) (k84 true) (k84 (!r22)))))
def Xq (x_0:zG) (κ:zG→Prop):Prop :=
 jG ([]) x_0.xTests (fun _=>κ (zG.mk (([])++x_0.xTests) x_0.xAction x_0.xChain))
def yT (list_0:(List zG)) (κ:(List zG)→Prop):Prop :=
 jk (fun (nx13:((List zG)×Int)→Prop) ((xs8,t12):((List zG)×Int))=>ifW (decide (t12<(list_0.length:Int))) (zK list_0 t12 (fun e14=>Xq e14 (fun r20=>jG xs8 ([r20]) (fun _=>jt t12 1 (fun t32=>nx13 ((xs8++([r20])),t32)))))) (κ xs8)) ([],0)
def Xj (list_0:(List (List zG))) (κ:(List (List zG))→Prop):Prop :=
 jk (fun (nx13:((List (List zG))×Int)→Prop) ((xs8,t12):((List (List zG))×Int))=>ifW (decide (t12<(list_0.length:Int))) (zK list_0 t12 (fun e14=>yT e14 (fun r20=>jG xs8 ([r20]) (fun _=>jt t12 1 (fun t33=>nx13 ((xs8++([r20])),t33)))))) (κ xs8)) ([],0)
def yj (x_0:zM) (κ:zM→Prop):Prop :=
 Xj x_0.xChains (fun r12=>κ (zM.mk r12 x_0.xAccept))
def uZ (n_0:Int) (lo_1:Int) (hi_2:Int) (κ:Bool→Prop):Prop :=
 jnW (fun (t61:Bool)=>κ t61) (fun k62=>ifW (decide (lo_1≤n_0)) (k62 (decide (n_0≤hi_2))) (k62 false))
def Zn (t_0:jH) (κ:Bool→Prop):Prop :=
 jnW (fun (t66:Bool)=>κ t66) (fun k67=>uZ t_0.xField 0 3 (fun r3=>ifW r3 (uZ t_0.xLo 0 t_0.xHi (fun r4=>ifW r4 (x9 t_0.xField (fun r5=>k67 (decide (t_0.xHi≤r5)))) (k67 false))) (k67 false)))
def yR (list_0:(List jH)) (κ:Bool→Prop):Prop :=
 jk (fun (nx4:Int→Prop) (t3:Int)=>ifW (decide (t3<(list_0.length:Int))) (zK list_0 t3 (fun e5=>Zn e5 (fun r7=>ifW (!r7) (κ false) (jt t3 1 (fun t8=>nx4 t8))))) (κ (decide ((list_0.length:Int)≤6)))) 0
def Xw (r_0:zG) (κ:Bool→Prop):Prop :=
 jnW (fun (t71:Bool)=>κ t71) (fun k72=>yR r_0.xTests (fun r8=>ifW r8 (uZ r_0.xAction 1 5 (fun r9=>ifW r9 (ifW (decide (r_0.xAction=3)) (uZ r_0.xChain 0 4 (fun r10=>ifW r10 (k72 true) (ifW (!(decide (r_0.xAction=3))) (k72 (decide (r_0.xChain=0))) (k72 false)))) (ifW (!(decide (r_0.xAction=3))) (k72 (decide (r_0.xChain=0))) (k72 false))) (k72 false))) (k72 false)))
def Z0 (list_0:(List zG)) (κ:Bool→Prop):Prop :=
 jk (fun (nx4:Int→Prop) (t3:Int)=>ifW (decide (t3<(list_0.length:Int))) (zK list_0 t3 (fun e5=>Xw e5 (fun r11=>ifW (!r11) (κ false) (jt t3 1 (fun t12=>nx4 t12))))) (κ (decide ((list_0.length:Int)≤8)))) 0
def YA (s_0:zM) (κ:(List Int)→Prop):Prop :=
 zaj (false:Bool) (s_0.xChains.length:Int) (s_0.xChains.length:Int) (fun xs10=>jk (fun (nx21:((List Bool)×(List Int)×Int)→Prop) ((xs14,xs17,t20):((List Bool)×(List Int)×Int))=>ifW (decide (t20<(s_0.xChains.length:Int))) (jk (fun (nx29:((List Bool)×(List Int)×Int)→Prop) ((xs22,xs25,t28):((List Bool)×(List Int)×Int))=>ifW (decide (t28<(s_0.xChains.length:Int))) (jnW (fun ((xs190,xs192):((List Bool)×(List Int)))=>jt t28 1 (fun t196=>nx29 (xs190,xs192,t196))) (fun k195=>zK xs22 t28 (fun e30=>jk (fun (nx34:(Bool×Int)→Prop) ((t32,t33):(Bool×Int))=>zK s_0.xChains t28 (fun e35=>ifW (decide (t33<(e35.length:Int))) (jnW (fun (t120:Bool)=>jt t33 1 (fun t122=>nx34 (t120,t122))) (fun k121=>zK s_0.xChains t28 (fun e41=>zK e41 t33 (fun e47=>ifW t32 (ifW (!(decide (e47.xAction=3))) (k121 true) (zK xs22 e47.xChain (fun e58=>k121 e58))) (k121 false))))) (ifW t32 (zK xs22 t28 (fun e123=>jG xs25 ([t28]) (fun _=>k195 ((xs22.set (t28).toNat true),(xs25++([t28])))))) (k195 (xs22,xs25))))) ((!e30),0)))) (jt t20 1 (fun t197=>nx21 (xs22,xs25,t197)))) (xs14,xs17,0)) (κ xs17)) (xs10,[],0))
def yZ (s_0:zM) (κ:Bool→Prop):Prop :=
 jk (fun (nx9:Int→Prop) (t8:Int)=>ifW (decide (t8<(s_0.xChains.length:Int))) (zK s_0.xChains t8 (fun e10=>Z0 e10 (fun r16=>ifW (!r16) (κ false) (jk (fun (nx18:Int→Prop) (t17:Int)=>zK s_0.xChains t8 (fun e19=>ifW (decide (t17<(e19.length:Int))) (zK s_0.xChains t8 (fun e25=>zK e25 t17 (fun e31=>ifW (decide ((s_0.xChains.length:Int)≤e31.xChain)) (κ false) (jt t17 1 (fun t33=>nx18 t33))))) (jt t8 1 (fun t34=>nx9 t34)))) 0)))) (jnW (fun (t99:Bool)=>κ t99) (fun k100=>uZ (s_0.xChains.length:Int) 1 5 (fun r35=>ifW r35 (YA s_0 (fun r36=>k100 (decide ((r36.length:Int)=(s_0.xChains.length:Int))))) (k100 false))))) 0
def xx (a_0:(List ze)) (b_1:(List ze)) (κ:(List ze)→Prop):Prop :=
 jk (fun (nx13:((List ze)×Int)→Prop) ((xs9,t12):((List ze)×Int))=>ifW (decide (t12<(a_0.length:Int))) (jk (fun (nx19:((List ze)×Int)→Prop) ((xs15,t18):((List ze)×Int))=>ifW (decide (t18<(b_1.length:Int))) (jnW (fun (xs92:(List ze))=>jt t18 1 (fun t96=>nx19 (xs92,t96))) (fun k95=>zK a_0 t12 (fun e20=>zK b_1 t18 (fun e22=>zK a_0 t12 (fun e24=>zK b_1 t18 (fun e26=>ifW (decide ((max e20.xLo e22.xLo)≤(min e24.xHi e26.xHi))) (jG xs15 ([(ze.mk (max e20.xLo e22.xLo) (min e24.xHi e26.xHi))]) (fun _=>k95 (xs15++([(ze.mk (max e20.xLo e22.xLo) (min e24.xHi e26.xHi))])))) (k95 xs15))))))) (jt t12 1 (fun t97=>nx13 (xs15,t97)))) (xs9,0)) (κ xs9)) ([],0)
def xq (a_0:zL) (b_1:zL) (κ:zL→Prop):Prop :=
 jk (fun (nx25:((List (List ze))×Int)→Prop) ((xs20,t24):((List (List ze))×Int))=>ifW (decide (t24<4)) (jnW (fun (xs29:(List (List ze)))=>jt t24 1 (fun t64=>nx25 (xs29,t64))) (fun k33=>zK a_0.xSides t24 (fun e34=>zK b_1.xSides t24 (fun e39=>xx e34 e39 (fun r44=>jG xs20 ([r44]) (fun _=>k33 (xs20++([r44])))))))) (κ (zL.mk xs20))) ([],0)
def ux (b_0:zL) (κ:Bool→Prop):Prop :=
 jk (fun (nx9:Int→Prop) (t8:Int)=>ifW (decide (t8<(b_0.xSides.length:Int))) (zK b_0.xSides t8 (fun e10=>ifW (decide ((e10.length:Int)=0)) (κ true) (jt t8 1 (fun t16=>nx9 t16)))) (κ false)) 0
def yb (list_0:(List ze)) (top_1:Int) (κ:Bool→Prop):Prop :=
 jk (fun (nx4:Int→Prop) (t3:Int)=>ifW (decide (t3<(list_0.length:Int))) (jnW (fun (t79:Bool)=>ifW t79 (κ false) (jt t3 1 (fun t81=>nx4 t81))) (fun k80=>zK list_0 t3 (fun e5=>zK list_0 t3 (fun e7=>uZ e5.xLo 0 e7.xHi (fun r9=>ifW (!r9) (k80 true) (zK list_0 t3 (fun e10=>uZ e10.xHi 0 top_1 (fun r12=>ifW (!r12) (k80 true) (ifW (decide (0<t3)) (zK list_0 t3 (fun e13=>YY t3 1 (fun t15=>zK list_0 t15 (fun e16=>jt e16.xHi 2 (fun t18=>k80 (decide (e13.xLo<t18))))))) (k80 false)))))))))) (jnW (fun (t143:Bool)=>κ t143) (fun k144=>uZ top_1 0 65535 (fun r82=>ifW r82 (k144 (decide ((list_0.length:Int)≤40))) (k144 false))))) 0
def uw (b_0:zL) (κ:Bool→Prop):Prop :=
 jk (fun (nx9:Int→Prop) (t8:Int)=>ifW (decide (t8<(b_0.xSides.length:Int))) (jnW (fun (t78:Bool)=>ifW t78 (κ false) (jt t8 1 (fun t80=>nx9 t80))) (fun k79=>ifW (decide (4≤t8)) (k79 true) (zK b_0.xSides t8 (fun e10=>x9 t8 (fun r16=>yb e10 r16 (fun r17=>k79 (!r17))))))) (κ (decide ((b_0.xSides.length:Int)=4)))) 0
def jW (list_0:(List zL)) (κ:Bool→Prop):Prop :=
 jk (fun (nx4:Int→Prop) (t3:Int)=>ifW (decide (t3<(list_0.length:Int))) (zK list_0 t3 (fun e5=>uw e5 (fun r11=>ifW (!r11) (κ false) (jt t3 1 (fun t12=>nx4 t12))))) (κ (decide ((list_0.length:Int)≤400)))) 0
def ZI (κ:zL→Prop):Prop :=
 jk (fun (nx11:((List (List ze))×Int)→Prop) ((xs6,t10):((List (List ze))×Int))=>ifW (decide (t10<4)) (jnW (fun (xs15:(List (List ze)))=>jt t10 1 (fun t41=>nx11 (xs15,t41))) (fun k19=>x9 t10 (fun r20=>jG xs6 ([[(ze.mk 0 r20)]]) (fun _=>k19 (xs6++([[(ze.mk 0 r20)]])))))) (κ (zL.mk xs6))) ([],0)
def Xc (a_0:(List ze)) (top_1:Int) (κ:(List ze)→Prop):Prop :=
 jk (fun (nx12:((List ze)×Int×Int)→Prop) ((xs7,t10,t11):((List ze)×Int×Int))=>ifW (decide (t11<(a_0.length:Int))) (jnW (fun (xs82:(List ze))=>zK a_0 t11 (fun e86=>jt e86.xHi 1 (fun t88=>jt t11 1 (fun t89=>nx12 (xs82,t88,t89))))) (fun k85=>zK a_0 t11 (fun e13=>ifW (decide (t10<e13.xLo)) (zK a_0 t11 (fun e15=>YY e15.xLo 1 (fun t17=>jG xs7 ([(ze.mk t10 t17)]) (fun _=>k85 (xs7++([(ze.mk t10 t17)])))))) (k85 xs7)))) (jnW (fun (xs154:(List ze))=>κ xs154) (fun k157=>ifW (decide (t10≤top_1)) (jG xs7 ([(ze.mk t10 top_1)]) (fun _=>k157 (xs7++([(ze.mk t10 top_1)])))) (k157 xs7)))) ([],0,0)
def uW (t_0:jH) (κ:(List ze)→Prop):Prop :=
 Zn t_0 (fun r4=>ifW (!r4) (κ ([])) (ifW t_0.xNot (x9 t_0.xField (fun r9=>Xc ([(ze.mk t_0.xLo t_0.xHi)]) r9 (fun r10=>κ r10))) (κ ([(ze.mk t_0.xLo t_0.xHi)]))))
def XS (list_0:(List jH)) (κ:zL→Prop):Prop :=
 yR list_0 (fun r5=>ifW (!r5) (κ (zL.mk ([]))) (ZI (fun r7=>jk (fun (nx21:((List (List ze))×Int)→Prop) ((xs17,t20):((List (List ze))×Int))=>ifW (decide (t20<(list_0.length:Int))) (zK list_0 t20 (fun e22=>jnW (fun (xs27:(List (List ze)))=>jt t20 1 (fun t58=>nx21 (xs27,t58))) (fun k29=>zK list_0 t20 (fun e30=>(zK xs17 e22.xField (fun e32=>uW e30 (fun r38=>xx e32 r38 (fun r40=>zK xs17 e22.xField (fun e42=>k29 (xs17.set (e22.xField).toNat r40))))))∧(uW e30 (fun r54=>zK xs17 e22.xField (fun e56=>xx e56 r54 (fun r40=>zK xs17 e22.xField (fun e42=>k29 (xs17.set (e22.xField).toNat r40)))))))))) (κ (zL.mk xs17))) (r7.xSides,0))))
def xI (list_0:(List (List ze))) (κ:(List (List ze))→Prop):Prop :=
 jk (fun (nx13:((List (List ze))×Int)→Prop) ((xs8,t12):((List (List ze))×Int))=>ifW (decide (t12<(list_0.length:Int))) (zK list_0 t12 (fun e16=>jG ([]) e16 (fun _=>jG xs8 ([(([])++e16)]) (fun _=>jt t12 1 (fun t33=>nx13 ((xs8++([(([])++e16)])),t33)))))) (κ xs8)) ([],0)
def yn (a_0:zL) (b_1:zL) (κ:(List zL)→Prop):Prop :=
 xq a_0 b_1 (fun r19=>ux r19 (fun r23=>ifW r23 (jnW (fun (xs89:(List zL))=>κ xs89) (fun k92=>ux a_0 (fun r24=>ifW (!r24) (jG ([]) ([a_0]) (fun _=>k92 (([])++([a_0])))) (k92 ([]))))) (jk (fun (nx105:((List (List ze))×(List zL)×Int)→Prop) ((xs96,xs100,t104):((List (List ze))×(List zL)×Int))=>ifW (decide (t104<4)) (zK xs96 t104 (fun e115=>zK b_1.xSides t104 (fun e121=>x9 t104 (fun r127=>Xc e121 r127 (fun r128=>xx e115 r128 (fun r131=>zK xs96 t104 (fun e134=>zK b_1.xSides t104 (fun e140=>xx e134 e140 (fun r146=>jnW (fun (xs231:(List zL))=>xI xs96 (fun r236=>zK r236 t104 (fun e245=>jt t104 1 (fun t252=>nx105 ((r236.set (t104).toNat r146),xs231,t252))))) (fun k235=>ifW (decide (0<(r131.length:Int))) (xI xs96 (fun r149=>zK r149 t104 (fun e158=>jG xs100 ([(zL.mk (r149.set (t104).toNat r131))]) (fun _=>k235 (xs100++([(zL.mk (r149.set (t104).toNat r131))])))))) (k235 xs100))))))))))) (κ xs100)) (a_0.xSides,[],0))))
def Yo (rec:(zM→Int→(List zL)→(List zE)→(((List zL)×Bool×(List zE))→Prop)→Prop)) (s_0:zM) (chain_1:Int) (in_2:(List zL)) (out_3:(List zE)) (κ:((List zL)×Bool×(List zE))→Prop):Prop :=
 jk (fun (nx33:((List zE)×(List zL)×(List zL)×Int)→Prop) ((xs20,xs24,xs28,t32):((List zE)×(List zL)×(List zL)×Int))=>zK s_0.xChains chain_1 (fun e34=>ifW (decide (t32<(e34.length:Int))) (zK s_0.xChains chain_1 (fun e40=>zK e40 t32 (fun e46=>XS e46.xTests (fun r63=>jk (fun (nx81:((List zL)×(List zL)×Int)→Prop) ((xs72,xs77,t80):((List zL)×(List zL)×Int))=>ifW (decide (t80<(xs24.length:Int))) (jnW (fun (xs182:(List zL))=>zK xs24 t80 (fun e195=>yn e195 r63 (fun r201=>jG xs77 r201 (fun _=>jt t80 1 (fun t206=>nx81 (xs182,(xs77++r201),t206)))))) (fun k186=>jnW (fun (xs90:(List (List ze)))=>ux (zL.mk xs90) (fun r112=>ifW (!r112) (jG xs72 ([(zL.mk xs90)]) (fun _=>k186 (xs72++([(zL.mk xs90)])))) (k186 xs72))) (fun k95=>zK xs24 t80 (fun e96=>xq e96 r63 (fun r101=>k95 r101.xSides))))) (jnW (fun (t269:Bool)=>ifW t269 (κ (xs28,false,xs20)) (jnW (fun ((xs445,xs449,xs453):((List zL)×(List zL)×(List zE)))=>jnW (fun (t519:Bool)=>ifW t519 (κ (xs445,false,xs453)) (jt t32 1 (fun t521=>nx33 (xs453,xs449,xs445,t521)))) (fun k520=>jW xs449 (fun r457=>ifW (!r457) (k520 true) (jW xs445 (fun r458=>ifW (!r458) (k520 true) (k520 (decide (60<(xs453.length:Int))))))))) (fun k456=>jnW (fun (t331:Bool)=>ifW t331 (jk (fun (nx338:((List zE)×Int)→Prop) ((xs334,t337):((List zE)×Int))=>ifW (decide (t337<(xs72.length:Int))) (jnW (fun (xs342:(List zE))=>jt t337 1 (fun t370=>nx338 (xs342,t370))) (fun k345=>zK xs72 t337 (fun e346=>jG xs334 ([(zE.mk e346 (decide (e46.xAction=1)))]) (fun _=>k345 (xs334++([(zE.mk e346 (decide (e46.xAction=1)))])))))) (k456 (xs28,xs77,xs334))) (xs20,0)) (ifW (decide (e46.xAction=4)) (jG xs28 xs72 (fun _=>k456 ((xs28++xs72),xs77,xs20))) (ifW (decide (e46.xAction=3)) (rec s_0 e46.xChain xs72 xs20 (fun (r374,r377,r378)=>ifW (!r377) (κ (xs28,false,r378)) (jG xs77 r374 (fun _=>k456 (xs28,(xs77++r374),r378))))) (jG xs77 xs72 (fun _=>k456 (xs28,(xs77++xs72),xs20)))))) (fun k332=>ifW (decide (e46.xAction=1)) (k332 (decide (e46.xAction=1))) (k332 (decide (e46.xAction=2))))))) (fun k270=>jW xs72 (fun r207=>ifW (!r207) (k270 true) (jW xs77 (fun r208=>k270 (!r208))))))) ([],[],0))))) (jG xs28 xs24 (fun _=>jW (xs28++xs24) (fun r524=>κ ((xs28++xs24),r524,xs20)))))) (out_3,in_2,[],0)
def yu:Nat→zM→Int→(List zL)→(List zE)→(((List zL)×Bool×(List zE))→Prop)→Prop
 | 0=>fun _ _ _ _ _=>False
 | n+1=>Yo (yu n)
def V0 (s_0:zM) (chain_1:Int) (in_2:(List zL)) (out_3:(List zE)) (κ:((List zL)×Bool×(List zE))→Prop):Prop:=∃ n,yu n s_0 chain_1 in_2 out_3 κ
def YX (s_0:zM) (κ:((List zE)×Bool)→Prop):Prop :=
 yj s_0 (fun r9=>yZ r9 (fun r24=>ifW (!r24) (κ ([],false)) (ZI (fun r25=>V0 r9 0 ([r25]) ([]) (fun (r35,r38,r39)=>ifW (!r38) (κ ([],false)) (κ (r39,true)))))))
def ZC (x_0:zL) (κ:zL→Prop):Prop :=
 xI x_0.xSides (fun r12=>κ (zL.mk r12))
def Xu (x_0:zE) (κ:zE→Prop):Prop :=
 ZC x_0.xWhere (fun r12=>κ (zE.mk r12 x_0.xAccept))
def xc (list_0:(List zE)) (κ:(List zE)→Prop):Prop :=
 jk (fun (nx13:((List zE)×Int)→Prop) ((xs8,t12):((List zE)×Int))=>ifW (decide (t12<(list_0.length:Int))) (zK list_0 t12 (fun e14=>Xu e14 (fun r20=>jG xs8 ([r20]) (fun _=>jt t12 1 (fun t33=>nx13 ((xs8++([r20])),t33)))))) (κ xs8)) ([],0)
def xX (list_0:(List zE)) (κ:Bool→Prop):Prop :=
 jk (fun (nx4:Int→Prop) (t3:Int)=>ifW (decide (t3<(list_0.length:Int))) (zK list_0 t3 (fun e5=>uw e5.xWhere (fun r11=>ifW (!r11) (κ false) (jt t3 1 (fun t12=>nx4 t12))))) (κ (decide ((list_0.length:Int)≤60)))) 0
def XX (list_0:(List zE)) (rest_1:Bool) (κ:(List zE)→Prop):Prop :=
 xc list_0 (fun r4=>xX r4 (fun r8=>ifW (!r8) (κ ([])) (jk (fun (nx13:Int→Prop) (t12:Int)=>jnW (fun (t77:Bool)=>ifW t77 (YY t12 1 (fun t79=>nx13 t79)) (yG r4 0 t12 (fun xs84=>jG ([]) xs84 (fun _=>κ (([])++xs84))))) (fun k78=>ifW (decide (0<t12)) (YY t12 1 (fun t14=>zK r4 t14 (fun e15=>k78 (decide (e15.xAccept=rest_1))))) (k78 false))) (r4.length:Int))))
def Zl (a_0:zL) (b_1:zL) (κ:Bool→Prop):Prop :=
 jnW (fun (t80:Bool)=>κ t80) (fun k81=>uw a_0 (fun r15=>ifW r15 (uw b_1 (fun r16=>ifW r16 (yn a_0 b_1 (fun r17=>k81 (decide ((r17.length:Int)=0)))) (k81 false))) (k81 false)))
def Yz (a_0:(List ze)) (b_1:(List ze)) (κ:Bool→Prop):Prop :=
 ifW (!(decide ((a_0.length:Int)=(b_1.length:Int)))) (κ false) (jk (fun (nx6:Int→Prop) (t5:Int)=>ifW (decide (t5<(a_0.length:Int))) (zK a_0 t5 (fun e7=>zK b_1 t5 (fun e9=>ifW (!(decide (e7=e9))) (κ false) (jt t5 1 (fun t11=>nx6 t11))))) (κ true)) 0)
def Ud (list_0:(List ze)) (s_1:ze) (κ:(List ze)→Prop):Prop :=
 jk (fun (nx16:(Int×Int×(List ze)×Bool×Int)→Prop) ((t8,t9,xs11,t14,t15):(Int×Int×(List ze)×Bool×Int))=>ifW (decide (t15<(list_0.length:Int))) (jnW (fun ((xs160,t163,t164,t165):((List ze)×Int×Int×Bool))=>jt t15 1 (fun t167=>nx16 (t163,t164,xs160,t165,t167))) (fun k166=>zK list_0 t15 (fun e17=>jt e17.xHi 1 (fun t21=>ifW (decide (t21<t8)) (jG xs11 ([e17]) (fun _=>k166 ((xs11++([e17])),t8,t9,t14))) (jt t9 1 (fun t26=>ifW (decide (t26<e17.xLo)) (jnW (fun ((xs91,t94):((List ze)×Bool))=>jG xs91 ([e17]) (fun _=>k166 ((xs91++([e17])),t8,t9,t94))) (fun k95=>ifW (!t14) (jG xs11 ([(ze.mk t8 t9)]) (fun _=>k95 ((xs11++([(ze.mk t8 t9)])),true))) (k95 (xs11,t14)))) (k166 (xs11,(min t8 e17.xLo),(max t9 e17.xHi),t14)))))))) (jnW (fun (xs232:(List ze))=>κ xs232) (fun k235=>ifW (!t14) (jG xs11 ([(ze.mk t8 t9)]) (fun _=>k235 (xs11++([(ze.mk t8 t9)])))) (k235 xs11)))) (s_1.xLo,s_1.xHi,[],false,0)
def Z2 (a_0:(List ze)) (b_1:(List ze)) (top_2:Int) (κ:(List ze)→Prop):Prop :=
 jnW (fun (t68:Bool)=>ifW t68 (κ ([])) (jG ([]) a_0 (fun _=>jk (fun (nx81:((List ze)×Int)→Prop) ((xs77,t80):((List ze)×Int))=>ifW (decide (t80<(b_1.length:Int))) (zK b_1 t80 (fun e82=>Ud xs77 e82 (fun r84=>jt t80 1 (fun t87=>nx81 (r84,t87))))) (ifW (decide (40<(xs77.length:Int))) (κ ([])) (κ xs77))) ((([])++a_0),0)))) (fun k69=>yb a_0 top_2 (fun r6=>ifW (!r6) (k69 true) (yb b_1 top_2 (fun r7=>k69 (!r7)))))
def yN (a_0:zL) (b_1:zL) (κ:(zL×Bool)→Prop):Prop :=
 jnW (fun (t79:Bool)=>ifW t79 (κ ((zL.mk ([])),false)) (Zl a_0 b_1 (fun r82=>ifW r82 (ZC b_1 (fun r83=>κ (r83,true))) (Zl b_1 a_0 (fun r90=>ifW r90 (ZC a_0 (fun r91=>κ (r91,true))) (jk (fun (nx100:(Int×Int)→Prop) ((t98,t99):(Int×Int))=>ifW (decide (t99<4)) (jnW (fun (t174:Int)=>jt t99 1 (fun t176=>nx100 (t174,t176))) (fun k175=>zK a_0.xSides t99 (fun e101=>zK b_1.xSides t99 (fun e107=>Yz e101 e107 (fun r113=>ifW (!r113) (ifW (decide (0≤t98)) (κ ((zL.mk ([])),false)) (k175 t99)) (k175 t98)))))) (xI a_0.xSides (fun r177=>zK a_0.xSides t98 (fun e186=>zK b_1.xSides t98 (fun e192=>x9 t98 (fun r198=>Z2 e186 e192 r198 (fun r199=>zK r177 t98 (fun e202=>zK (r177.set (t98).toNat r199) t98 (fun e209=>ifW (decide ((e209.length:Int)=0)) (κ ((zL.mk ([])),false)) (κ ((zL.mk (r177.set (t98).toNat r199)),true))))))))))) ((-1),0))))))) (fun k80=>uw a_0 (fun r17=>ifW (!r17) (k80 true) (uw b_1 (fun r18=>k80 (!r18)))))
def Yu (list_0:(List zE)) (κ:(Int×zE)→Prop):Prop :=
 jk (fun (nx6:Int→Prop) (t5:Int)=>jt t5 1 (fun t7=>ifW (decide (t7<(list_0.length:Int))) (jnW (fun ((xs8,t12):((List (List ze))×Bool))=>jnW (fun (t103:Bool)=>ifW t103 (zK list_0 t5 (fun e108=>κ (t5,(zE.mk (zL.mk xs8) e108.xAccept)))) (jt t5 1 (fun t110=>nx6 t110))) (fun k104=>ifW t12 (zK list_0 t5 (fun e38=>jt t5 1 (fun t40=>zK list_0 t40 (fun e41=>k104 (decide (e38.xAccept=e41.xAccept)))))) (k104 false))) (fun k13=>zK list_0 t5 (fun e14=>zK list_0 (w64 (t5+1)) (fun e19=>yN e14.xWhere e19.xWhere (fun (r24,r26)=>k13 (r24.xSides,r26)))))) (κ ((-1),(zE.mk (zL.mk ([])) false))))) 0
def ZT (list_0:(List zE)) (κ:(List zE)→Prop):Prop :=
 xc list_0 (fun r4=>xX r4 (fun r8=>ifW (!r8) (κ ([])) (jG ([]) r4 (fun _=>jk (fun (nx22:(List zE)→Prop) (xs19:(List zE))=>Yu xs19 (fun (r23,r24)=>ifW (decide (r23<0)) (κ xs19) (jt r23 2 (fun t35=>yG xs19 t35 (xs19.length:Int) (fun xs37=>jG ([]) xs37 (fun _=>jnW (fun (xs49:(List zE))=>nx22 xs49) (fun k52=>yG xs19 0 r23 (fun xs56=>jG ([]) xs56 (fun _=>jG (([])++xs56) ([r24]) (fun _=>jG ((([])++xs56)++([r24])) (([])++xs37) (fun _=>k52 (((([])++xs56)++([r24]))++(([])++xs37))))))))))))) (([])++r4)))))
def Xl (b_0:zL) (list_1:(List zL)) (κ:((List zL)×Bool)→Prop):Prop :=
 jnW (fun (xs79:(List zL))=>jk (fun (nx88:((List zL)×Int)→Prop) ((xs84,t87):((List zL)×Int))=>ifW (decide (t87<(list_1.length:Int))) (jk (fun (nx97:((List zL)×Int)→Prop) ((xs93,t96):((List zL)×Int))=>ifW (decide (t96<(xs84.length:Int))) (zK xs84 t96 (fun e98=>zK list_1 t87 (fun e100=>yn e98 e100 (fun r112=>jG xs93 r112 (fun _=>jt t96 1 (fun t117=>nx97 ((xs93++r112),t117))))))) (jW xs93 (fun r118=>ifW (!r118) (κ ([],false)) (jt t87 1 (fun t122=>nx88 (xs93,t122)))))) ([],0)) (κ (xs84,true))) (xs79,0)) (fun k82=>ux b_0 (fun r14=>ifW (!r14) (jG ([]) ([b_0]) (fun _=>k82 (([])++([b_0])))) (k82 ([]))))
def Ze (list_0:(List zE)) (κ:(List zL)→Prop):Prop :=
 xc list_0 (fun r4=>jk (fun (nx16:((List zL)×Int)→Prop) ((xs12,t15):((List zL)×Int))=>jnW (fun (t78:Bool)=>ifW t78 (zK r4 t15 (fun e80=>jG xs12 ([e80.xWhere]) (fun _=>jt t15 1 (fun t95=>nx16 ((xs12++([e80.xWhere])),t95))))) (κ xs12)) (fun k79=>ifW (decide (t15<(r4.length:Int))) (xX r4 (fun r17=>k79 r17)) (k79 false))) ([],0))
def Yh (list_0:(List zE)) (k_1:Int) (κ:Bool→Prop):Prop :=
 zK list_0 k_1 (fun e3=>yG list_0 0 k_1 (fun xs10=>Ze xs10 (fun r13=>Xl e3.xWhere r13 (fun (r16,r19)=>jnW (fun (t80:Bool)=>κ t80) (fun k81=>ifW r19 (k81 (decide ((r16.length:Int)=0))) (k81 false))))))
def XP (list_0:(List zE)) (κ:(List zE)→Prop):Prop :=
 xc list_0 (fun r4=>jk (fun (nx18:((List zE)×(List zE)×Int)→Prop) ((xs11,xs14,t17):((List zE)×(List zE)×Int))=>jnW (fun (t80:Bool)=>ifW t80 (jnW (fun (xs158:(List zE))=>jt t17 1 (fun t162=>nx18 (xs11,xs158,t162))) (fun k161=>Yh xs11 t17 (fun r82=>ifW (!r82) (zK xs11 t17 (fun e83=>jG xs14 ([e83]) (fun _=>k161 (xs14++([e83]))))) (k161 xs14)))) (κ xs14)) (fun k81=>ifW (decide (t17<(xs11.length:Int))) (xX xs11 (fun r19=>k81 r19)) (k81 false))) (r4,[],0))
def Yv (list_0:(List zE)) (rest_1:Bool) (κ:(List zE)→Prop):Prop :=
 xc list_0 (fun r4=>xX r4 (fun r8=>ifW (!r8) (κ ([])) (jG ([]) r4 (fun _=>jk (fun (nx22:(List zE)→Prop) (xs19:(List zE))=>XP xs19 (fun r23=>ZT r23 (fun r26=>XX r26 rest_1 (fun r29=>ifW (decide ((r29.length:Int)=(xs19.length:Int))) (κ r29) (nx22 r29))))) (([])++r4)))))
def Zk (s_0:zM) (κ:((List zE)×Bool)→Prop):Prop :=
 yj s_0 (fun r9=>YX r9 (fun (r16,r19)=>ifW (!r19) (κ ([],false)) (Yv r16 r9.xAccept (fun r23=>κ (r23,true)))))
def Ye (list_0:(List zE)) (rest_1:Bool) (κ:((List zE)×Bool)→Prop):Prop :=
 jk (fun (nx12:((List zE)×Int)→Prop) ((xs8,t11):((List zE)×Int))=>ifW (decide (t11≤(list_0.length:Int))) (ZI (fun r13=>jnW (fun ((xs94,t97):((List (List ze))×Bool))=>yG list_0 0 t11 (fun xs109=>Ze xs109 (fun r112=>Xl (zL.mk xs94) r112 (fun (r115,r118)=>ifW (!r118) (κ ([],false)) (jk (fun (nx127:((List zE)×Int)→Prop) ((xs123,t126):((List zE)×Int))=>ifW (decide (t126<(r115.length:Int))) (zK r115 t126 (fun e128=>jG xs123 ([(zE.mk e128 t97)]) (fun _=>jt t126 1 (fun t143=>nx127 ((xs123++([(zE.mk e128 t97)])),t143))))) (ifW (decide (400<(xs123.length:Int))) (κ ([],false)) (jt t11 1 (fun t147=>nx12 (xs123,t147))))) (xs8,0)))))) (fun k98=>ifW (decide (t11<(list_0.length:Int))) (zK list_0 t11 (fun e22=>zK list_0 t11 (fun e31=>k98 (e22.xWhere.xSides,e31.xAccept)))) (k98 (r13.xSides,rest_1))))) (κ (xs8,true))) ([],0)
def XQ (list_0:(List zE)) (accept_1:Bool) (κ:(List zL)→Prop):Prop :=
 jk (fun (nx12:((List zL)×Int)→Prop) ((xs8,t11):((List zL)×Int))=>ifW (decide (t11<(list_0.length:Int))) (jnW (fun (xs88:(List zL))=>jt t11 1 (fun t92=>nx12 (xs88,t92))) (fun k91=>zK list_0 t11 (fun e13=>ifW (decide (e13.xAccept=accept_1)) (zK list_0 t11 (fun e15=>jG xs8 ([e15.xWhere]) (fun _=>k91 (xs8++([e15.xWhere]))))) (k91 xs8)))) (κ xs8)) ([],0)
def Zr (list_0:(List zE)) (rest_1:Bool) (accept_2:Bool) (κ:((List zL)×Bool)→Prop):Prop :=
 xc list_0 (fun r4=>xX r4 (fun r8=>ifW (!r8) (κ ([],false)) (Ye r4 rest_1 (fun (r12,r15)=>ifW (!r15) (κ ([],false)) (XQ r12 accept_2 (fun r19=>κ (r19,true)))))))
def Zp (a_0:(List zE)) (restA_1:Bool) (b_2:(List zE)) (restB_3:Bool) (κ:((List zL)×Bool)→Prop):Prop :=
 xc a_0 (fun r6=>xc b_2 (fun r10=>Zr r6 restA_1 false (fun (r17,r20)=>Zr r10 restB_3 true (fun (r21,r24)=>jnW (fun (t85:Bool)=>ifW t85 (κ ([],false)) (jk (fun (nx93:((List zL)×Int)→Prop) ((xs88,t92):((List zL)×Int))=>ifW (decide (t92<(r17.length:Int))) (jk (fun (nx100:((List zL)×Int)→Prop) ((xs95,t99):((List zL)×Int))=>ifW (decide (t99<(r21.length:Int))) (jnW (fun (xs227:(List zL))=>jt t99 1 (fun t232=>nx100 (xs227,t232))) (fun k231=>jnW (fun (xs101:(List (List ze)))=>ux (zL.mk xs101) (fun r157=>ifW (!r157) (jG xs95 ([(zL.mk xs101)]) (fun _=>k231 (xs95++([(zL.mk xs101)])))) (k231 xs95))) (fun k106=>zK r17 t92 (fun e107=>zK r21 t99 (fun e109=>xq e107 e109 (fun r119=>k106 r119.xSides)))))) (jt t92 1 (fun t233=>nx93 (xs95,t233)))) (xs88,0)) (jW xs88 (fun r234=>ifW (!r234) (κ ([],false)) (κ (xs88,true))))) ([],0))) (fun k86=>ifW (!r20) (k86 true) (k86 (!r24)))))))
def Zx (old_0:zM) (next_1:zM) (κ:Int→Prop):Prop :=
 Zk old_0 (fun (r15,r18)=>Zk next_1 (fun (r19,r22)=>jnW (fun (t83:Bool)=>ifW t83 (κ 4) (Zp r15 old_0.xAccept r19 next_1.xAccept (fun (r85,r89)=>Zp r19 next_1.xAccept r15 old_0.xAccept (fun (r90,r94)=>jnW (fun (t155:Bool)=>ifW t155 (κ 4) (jnW (fun (t218:Int)=>jnW (fun (t281:Int)=>κ t281) (fun k282=>ifW (decide (0<(r85.length:Int))) (jt t218 2 (fun t220=>k282 t220)) (k282 t218))) (fun k219=>ifW (decide (0<(r90.length:Int))) (jt 0 1 (fun t157=>k219 t157)) (k219 0)))) (fun k156=>ifW (!r89) (k156 true) (k156 (!r94))))))) (fun k84=>ifW (!r18) (k84 true) (k84 (!r22)))))
def Yi (a_0:(List jH)) (left_1:Int) (κ:Int→Prop):Prop :=
 YY left_1 (a_0.length:Int) (fun t3=>ifW (decide (t3<0)) (κ (-1)) (κ t3))
def YU (a_0:zG) (left_1:Int) (κ:Int→Prop):Prop :=
 Yi a_0.xTests left_1 (fun r8=>ifW (decide (r8<0)) (κ (-1)) (κ r8))
def Yn (a_0:(List zG)) (left_1:Int) (κ:Int→Prop):Prop :=
 YY left_1 (a_0.length:Int) (fun t3=>ifW (decide (t3<0)) (κ (-1)) (jk (fun (nx6:(Int×Int)→Prop) ((t4,t5):(Int×Int))=>ifW (decide (t5<(a_0.length:Int))) (zK a_0 t5 (fun e7=>YU e7 t4 (fun r13=>ifW (decide (r13<0)) (κ (-1)) (jt t5 1 (fun t14=>nx6 (r13,t14)))))) (κ t4)) (t3,0)))
def XT (a_0:(List (List zG))) (left_1:Int) (κ:Int→Prop):Prop :=
 YY left_1 (a_0.length:Int) (fun t3=>ifW (decide (t3<0)) (κ (-1)) (jk (fun (nx6:(Int×Int)→Prop) ((t4,t5):(Int×Int))=>ifW (decide (t5<(a_0.length:Int))) (zK a_0 t5 (fun e7=>Yn e7 t4 (fun r13=>ifW (decide (r13<0)) (κ (-1)) (jt t5 1 (fun t14=>nx6 (r13,t14)))))) (κ t4)) (t3,0)))
def Zj (a_0:zM) (left_1:Int) (κ:Int→Prop):Prop :=
 XT a_0.xChains left_1 (fun r8=>ifW (decide (r8<0)) (κ (-1)) (κ r8))
def UG (a_0:jH) (κ:jH→Prop):Prop :=
 κ a_0
def Yd (a_0:(List jH)) (κ:(List jH)→Prop):Prop :=
 zaj ((jH.mk 0 0 0 false):jH) (a_0.length:Int) (a_0.length:Int) (fun xs5=>jk (fun (nx10:((List jH)×Int)→Prop) ((xs7,t9):((List jH)×Int))=>ifW (decide (t9<(a_0.length:Int))) (zK a_0 t9 (fun e11=>UG e11 (fun r13=>zK xs7 t9 (fun e14=>jt t9 1 (fun t17=>nx10 ((xs7.set (t9).toNat r13),t17)))))) (κ xs7)) (xs5,0))
def XK (a_0:zG) (κ:zG→Prop):Prop :=
 Yd a_0.xTests (fun r12=>κ (zG.mk r12 a_0.xAction a_0.xChain))
def Xf (a_0:(List zG)) (κ:(List zG)→Prop):Prop :=
 zaj ((zG.mk ([]) 0 0):zG) (a_0.length:Int) (a_0.length:Int) (fun xs5=>jk (fun (nx12:((List zG)×Int)→Prop) ((xs8,t11):((List zG)×Int))=>ifW (decide (t11<(a_0.length:Int))) (zK a_0 t11 (fun e13=>XK e13 (fun r19=>zK xs8 t11 (fun e22=>jt t11 1 (fun t29=>nx12 ((xs8.set (t11).toNat r19),t29)))))) (κ xs8)) (xs5,0))
def XO (a_0:(List (List zG))) (κ:(List (List zG))→Prop):Prop :=
 zaj ([]:(List zG)) (a_0.length:Int) (a_0.length:Int) (fun xs5=>jk (fun (nx12:((List (List zG))×Int)→Prop) ((xs8,t11):((List (List zG))×Int))=>ifW (decide (t11<(a_0.length:Int))) (zK a_0 t11 (fun e13=>Xf e13 (fun r19=>zK xs8 t11 (fun e23=>jt t11 1 (fun t30=>nx12 ((xs8.set (t11).toNat r19),t30)))))) (κ xs8)) (xs5,0))
def uj (a_0:zM) (κ:zM→Prop):Prop :=
 XO a_0.xChains (fun r12=>κ (zM.mk r12 a_0.xAccept))
def XI (a_0:jH) (b_1:jH) (κ:Bool→Prop):Prop :=
 ifW (!(decide (a_0.xField=b_1.xField))) (κ false) (ifW (!(decide (a_0.xLo=b_1.xLo))) (κ false) (ifW (!(decide (a_0.xHi=b_1.xHi))) (κ false) (ifW (!(decide (a_0.xNot=b_1.xNot))) (κ false) (κ true))))
def Ys (a_0:(List jH)) (b_1:(List jH)) (κ:Bool→Prop):Prop :=
 ifW (!(decide ((a_0.length:Int)=(b_1.length:Int)))) (κ false) (jk (fun (nx6:Int→Prop) (t5:Int)=>ifW (decide (t5<(a_0.length:Int))) (zK a_0 t5 (fun e7=>zK b_1 t5 (fun e9=>XI e7 e9 (fun r11=>ifW (!r11) (κ false) (jt t5 1 (fun t12=>nx6 t12)))))) (κ true)) 0)
def YT (a_0:zG) (b_1:zG) (κ:Bool→Prop):Prop :=
 Ys a_0.xTests b_1.xTests (fun r15=>ifW (!r15) (κ false) (ifW (!(decide (a_0.xAction=b_1.xAction))) (κ false) (ifW (!(decide (a_0.xChain=b_1.xChain))) (κ false) (κ true))))
def Yp (a_0:(List zG)) (b_1:(List zG)) (κ:Bool→Prop):Prop :=
 ifW (!(decide ((a_0.length:Int)=(b_1.length:Int)))) (κ false) (jk (fun (nx6:Int→Prop) (t5:Int)=>ifW (decide (t5<(a_0.length:Int))) (zK a_0 t5 (fun e7=>zK b_1 t5 (fun e13=>YT e7 e13 (fun r19=>ifW (!r19) (κ false) (jt t5 1 (fun t20=>nx6 t20)))))) (κ true)) 0)
def XV (a_0:(List (List zG))) (b_1:(List (List zG))) (κ:Bool→Prop):Prop :=
 ifW (!(decide ((a_0.length:Int)=(b_1.length:Int)))) (κ false) (jk (fun (nx6:Int→Prop) (t5:Int)=>ifW (decide (t5<(a_0.length:Int))) (zK a_0 t5 (fun e7=>zK b_1 t5 (fun e13=>Yp e7 e13 (fun r19=>ifW (!r19) (κ false) (jt t5 1 (fun t20=>nx6 t20)))))) (κ true)) 0)
def Zi (a_0:zM) (b_1:zM) (κ:Bool→Prop):Prop :=
 XV a_0.xChains b_1.xChains (fun r15=>ifW (!r15) (κ false) (ifW (!(decide (a_0.xAccept=b_1.xAccept))) (κ false) (κ true)))
def yH (p0:zM) (p1:zM) (κ:Bool→Prop):Prop :=
 Zj p0 1048576 (fun r15=>ifW (decide (r15<0)) (κ true) (Zj p1 r15 (fun r16=>ifW (decide (r16<0)) (κ true) (uj p0 (fun r17=>uj p1 (fun r21=>Zx r17 r21 (fun r25=>uj p0 (fun r26=>uj p1 (fun r35=>Zv r26 r35 (fun r44=>ifW (!(decide (r44=r25))) (κ false) (uj p0 (fun r45=>Zi r26 r45 (fun r49=>ifW (!r49) (κ false) (uj p1 (fun r50=>Zi r35 r50 (fun r54=>ifW (!r54) (κ false) (κ true)))))))))))))))))
end
section
open Go Go.Proofs
def NF (l:List ze):Prop:=(∀ s∈l,s.xLo≤s.xHi)∧l.Pairwise (fun a b=>a.xHi+1<b.xLo)
def hv (l:List ze) (x:Int):Prop:=∃ s∈l,s.xLo≤x∧x≤s.xHi
theorem zf6:NF []:=⟨by simp,by simp⟩
theorem yv (x:Int):¬ hv [] x:=by simp [hv]
theorem xC (s:ze) (l:List ze) (x:Int):hv (s :: l) x↔(s.xLo≤x∧x≤s.xHi)∨hv l x:=by simp [hv]
theorem UH (l m:List ze) (x:Int):hv (l++m) x↔hv l x∨hv m x:=by
 simp only [hv,List.mem_append]
 constructor
 ·rintro ⟨s,h | h,e⟩
  ·exact .inl ⟨s,h,e⟩
  ·exact .inr ⟨s,h,e⟩
 ·rintro (⟨s,h,e⟩ | ⟨s,h,e⟩)
  ·exact ⟨s,.inl h,e⟩
  ·exact ⟨s,.inr h,e⟩
theorem Uz {s:ze} {l:List ze} (h:NF (s :: l)):NF l:=⟨fun t ht=>h.1 t (List.mem_cons_of_mem _ ht),(List.pairwise_cons.1 h.2).2⟩
theorem zbX {s:ze} {l:List ze} (h:NF (s :: l)) {x:Int} (hx:hv l x):s.xHi+1<x:=by
 obtain ⟨t,ht,e1,_⟩:=hx
 have:=(List.pairwise_cons.1 h.2).1 t ht
 omega
theorem za2 {s:ze} {l:List ze} (h:NF (s :: l)) {x:Int} (hx:hv (s :: l) x):s.xLo≤x:=by
 rcases (xC _ _ _).1 hx with e | e
 ·exact e.1
 ·have:=zbX h e
  have:=h.1 s (by simp)
  omega
theorem UP {l m:List ze} (hl:NF l) (hm:NF m) (h:∀ s∈l,∀ t∈m,s.xHi+1<t.xLo):NF (l++m) :=
 ⟨fun s hs=>(List.mem_append.1 hs).elim (hl.1 s) (hm.1 s),List.pairwise_append.2 ⟨hl.2,hm.2,h⟩⟩
theorem Uo {s:ze} (h:s.xLo≤s.xHi):NF [s]:=⟨by simpa using h,by simp⟩
theorem zjn:∀ {a b:List ze},NF a→NF b→(∀ x,hv a x↔hv b x)→a=b
 | [],[],_,_,_=>rfl
 | [],t :: b,_,hb,h=>absurd ((h t.xLo).2 ((xC _ _ _).2 (.inl ⟨Int.le_refl _,hb.1 t (by simp)⟩))) (yv _)
 | s :: a,[],ha,_,h=>absurd ((h s.xLo).1 ((xC _ _ _).2 (.inl ⟨Int.le_refl _,ha.1 s (by simp)⟩))) (yv _)
 | s :: a,t :: b,ha,hb,h=>by
  have h1:=ha.1 s (by simp)
  have h2:=hb.1 t (by simp)
  have l1:t.xLo≤s.xLo:=za2 hb ((h _).1 ((xC _ _ _).2 (.inl ⟨Int.le_refl _,h1⟩)))
  have l2:s.xLo≤t.xLo:=za2 ha ((h _).2 ((xC _ _ _).2 (.inl ⟨Int.le_refl _,h2⟩)))
  have u1:¬ s.xHi<t.xHi:=fun hlt=>by
   have:=(h (s.xHi+1)).2 ((xC _ _ _).2 (.inl ⟨by omega,by omega⟩))
   rcases (xC _ _ _).1 this with e | e
   ·omega
   ·have:=zbX ha e;omega
  have u2:¬ t.xHi<s.xHi:=fun hlt=>by
   have:=(h (t.xHi+1)).1 ((xC _ _ _).2 (.inl ⟨by omega,by omega⟩))
   rcases (xC _ _ _).1 this with e | e
   ·omega
   ·have:=zbX hb e;omega
  have e:s=t:=by
   apply ze.ext <;> omega
  subst e
  rw [zjn (Uz ha) (Uz hb) (fun x=>?_)]
  have:=h x
  rw [xC,xC] at this
  constructor
  ·intro hx
   have g:=zbX ha hx
   rcases this.1 (.inr hx) with e | e
   ·omega
   ·exact e
  ·intro hx
   have g:=zbX hb hx
   rcases this.2 (.inr hx) with e | e
   ·omega
   ·exact e
def zkT:List (Int×Int)→List ze→Int→Int→List ze
 | [],out,_,_=>out
 | e :: es,out,d,st=>zkT es (if d+e.2=0 then out++[ze.mk (if d=0 then e.1 else st) (e.1 - 1)] else out) (d+e.2) (if d=0 then e.1 else st)
def stp (l:List (Int×Int)):Int:=(l.map (·.2)).sum
def VU:List ze→ze→List ze→Bool→List ze×ze×Bool
 | [],s,out,pl=>(out,s,pl)
 | x :: xs,s,out,pl =>
  if x.xHi+1<s.xLo then VU xs s (out++[x]) pl
  else if s.xHi+1<x.xLo then VU xs s ((if pl then out else out++[s])++[x]) true
  else VU xs (ze.mk (min s.xLo x.xLo) (max s.xHi x.xHi)) out pl
def zaO (l:List ze) (s:ze):List ze :=
 match VU l s [] false with
 | (out,s',pl)=>if pl then out else out++[s']
theorem zdd:∀ (l:List ze) (s:ze) (out:List ze) (pl:Bool),NF l→s.xLo≤s.xHi→NF out →
  (pl=false→(∀ t∈out,t.xHi+1<s.xLo)∧(∀ t∈out,∀ u∈l,t.xHi+1<u.xLo)) →
  (pl=true→(∀ t∈out,∀ u∈l,t.xHi+1<u.xLo)∧(∀ u∈l,s.xHi+1<u.xLo)∧s∈out) →
  NF (match VU l s out pl with | (o,s',p)=>if p then o else o++[s'])∧∀ x,hv (match VU l s out pl with | (o,s',p)=>if p then o else o++[s']) x↔hv out x∨hv l x∨(s.xLo≤x∧x≤s.xHi)
 | [],s,out,pl,hl,hs,ho,h0,h1=>by
  simp only [VU]
  cases pl with
  | true =>
   simp only [if_true]
   obtain ⟨_,_,hm⟩:=h1 rfl
   refine ⟨ho,fun x=>⟨.inl,?_⟩⟩
   rintro (q | q | q)
   ·exact q
   ·exact absurd q (yv x)
   ·exact ⟨s,hm,q⟩
  | false =>
   simp only [Bool.false_eq_true,if_false]
   obtain ⟨ha,_⟩:=h0 rfl
   refine ⟨UP ho (Uo hs) (fun t ht u hu=>by simp at hu;subst hu;exact ha t ht),fun x=>?_⟩
   rw [UH,xC]
   simp [yv]
 | y :: l,s,out,pl,hl,hs,ho,h0,h1=>by
  have hy:=hl.1 y (by simp)
  have hgap:=(List.pairwise_cons.1 hl.2).1
  have hl':=Uz hl
  unfold VU
  by_cases c1:y.xHi+1<s.xLo
  ·rw [if_pos c1]
   have hpl:pl=false:=by
    cases pl with
    | false=>rfl
    | true=>have:=(h1 rfl).2.1 y (by simp);omega
   subst hpl
   obtain ⟨a1,a2⟩:=h0 rfl
   have ih:=zdd l s (out++[y]) false hl' hs (UP ho (Uo hy) (fun t ht u hu=>by simp at hu;subst hu;exact a2 t ht u (by simp)))
    (fun _=>⟨fun t ht=>by
     rcases List.mem_append.1 ht with q | q
     ·exact a1 t q
     ·simp at q;subst q;exact c1,fun t ht u hu=>by
     rcases List.mem_append.1 ht with q | q
     ·exact a2 t q u (by simp [hu])
     ·simp at q;subst q;exact hgap u hu⟩) (fun h=>by simp at h)
   refine ⟨ih.1,fun x=>?_⟩
   rw [ih.2 x,UH,xC,xC]
   simp only [yv,or_false]
   constructor
   ·rintro ((q | q) | q | q)
    ·exact .inl q
    ·exact .inr (.inl (.inl q))
    ·exact .inr (.inl (.inr q))
    ·exact .inr (.inr q)
   ·rintro (q | (q | q) | q)
    ·exact .inl (.inl q)
    ·exact .inl (.inr q)
    ·exact .inr (.inl q)
    ·exact .inr (.inr q)
  ·rw [if_neg c1]
   by_cases c2:s.xHi+1<y.xLo
   ·rw [if_pos c2]
    cases pl with
    | true =>
     simp only [if_true]
     obtain ⟨a1,a2,a3⟩:=h1 rfl
     have ih:=zdd l s (out++[y]) true hl' hs (UP ho (Uo hy) (fun t ht u hu=>by simp at hu;subst hu;exact a1 t ht u (by simp))) (fun h=>by simp at h)
      (fun _=>⟨fun t ht u hu=>by
       rcases List.mem_append.1 ht with q | q
       ·exact a1 t q u (by simp [hu])
       ·simp at q;subst q;exact hgap u hu,fun u hu=>a2 u (by simp [hu]),by simp [a3]⟩)
     refine ⟨ih.1,fun x=>?_⟩
     rw [ih.2 x,UH,xC,xC]
     simp only [yv,or_false]
     constructor
     ·rintro ((q | q) | q | q)
      ·exact .inl q
      ·exact .inr (.inl (.inl q))
      ·exact .inr (.inl (.inr q))
      ·exact .inr (.inr q)
     ·rintro (q | (q | q) | q)
      ·exact .inl (.inl q)
      ·exact .inl (.inr q)
      ·exact .inr (.inl q)
      ·exact .inr (.inr q)
    | false =>
     simp only [Bool.false_eq_true,if_false]
     obtain ⟨a1,a2⟩:=h0 rfl
     have n1:NF (out++[s]):=UP ho (Uo hs) (fun t ht u hu=>by simp at hu;subst hu;exact a1 t ht)
     have ih:=zdd l s ((out++[s])++[y]) true hl' hs (UP n1 (Uo hy) (fun t ht u hu=>by
       simp at hu;subst hu
       rcases List.mem_append.1 ht with q | q
       ·exact a2 t q u (by simp)
       ·simp at q;subst q;exact c2)) (fun h=>by simp at h)
      (fun _=>⟨fun t ht u hu=>by
       have hg:=hgap u hu
       rcases List.mem_append.1 ht with q | q
       ·rcases List.mem_append.1 q with q | q
        ·exact a2 t q u (by simp [hu])
        ·simp at q;subst q;omega
       ·simp at q;subst q;exact hg,fun u hu=>by have:=hgap u hu;omega,by simp⟩)
     refine ⟨ih.1,fun x=>?_⟩
     rw [ih.2 x,UH,UH,xC,xC,xC]
     simp only [yv,or_false]
     constructor
     ·rintro (((q | q) | q) | q | q)
      ·exact .inl q
      ·exact .inr (.inr q)
      ·exact .inr (.inl (.inl q))
      ·exact .inr (.inl (.inr q))
      ·exact .inr (.inr q)
     ·rintro (q | (q | q) | q)
      ·exact .inl (.inl (.inl q))
      ·exact .inl (.inr q)
      ·exact .inr (.inl q)
      ·exact .inr (.inr q)
   ·rw [if_neg c2]
    have hpl:pl=false:=by
     cases pl with
     | false=>rfl
     | true=>have:=(h1 rfl).2.1 y (by simp);omega
    subst hpl
    obtain ⟨a1,a2⟩:=h0 rfl
    have ih:=zdd l (ze.mk (min s.xLo y.xLo) (max s.xHi y.xHi)) out false hl' (by simp only;omega) ho
     (fun _=>⟨fun t ht=>by
      have:=a1 t ht;have:=a2 t ht y (by simp)
      simp only;omega,fun t ht u hu=>a2 t ht u (by simp [hu])⟩) (fun h=>by simp at h)
    refine ⟨ih.1,fun x=>?_⟩
    rw [ih.2 x,xC]
    simp only
    constructor
    ·rintro (q | q | q)
     ·exact .inl q
     ·exact .inr (.inl (.inr q))
     ·by_cases c3:y.xLo≤x∧x≤y.xHi
      ·exact .inr (.inl (.inl c3))
      ·exact .inr (.inr (by omega))
    ·rintro (q | (q | q) | q)
     ·exact .inl q
     ·exact .inr (.inr (by omega))
     ·exact .inr (.inl q)
     ·exact .inr (.inr (by omega))
theorem ziw {l:List ze} {s:ze} (hl:NF l) (hs:s.xLo≤s.xHi):NF (zaO l s)∧∀ x,hv (zaO l s) x↔hv l x∨(s.xLo≤x∧x≤s.xHi):=by
 have:=zdd l s [] false hl hs zf6 (fun _=>⟨by simp,by simp⟩) (fun h=>by simp at h)
 refine ⟨this.1,fun x=>?_⟩
 have:=this.2 x
 simp only [yv,false_or] at this
 exact this
theorem V1:∀ (xs l:List ze),NF l→(∀ s∈xs,s.xLo≤s.xHi)→NF (xs.foldl zaO l)∧∀ x,hv (xs.foldl zaO l) x↔hv l x∨hv xs x
 | [],l,hl,_=>⟨hl,fun x=>by simp [yv]⟩
 | s :: xs,l,hl,h=>by
  obtain ⟨n1,e1⟩:=ziw hl (h s (by simp))
  obtain ⟨n2,e2⟩:=V1 xs (zaO l s) n1 (fun t ht=>h t (List.mem_cons_of_mem _ ht))
  refine ⟨n2,fun x=>?_⟩
  rw [List.foldl_cons,e2 x,e1 x,xC]
  constructor
  ·rintro ((q | q) | q)
   ·exact .inl q
   ·exact .inr (.inl q)
   ·exact .inr (.inr q)
  ·rintro (q | q | q)
   ·exact .inl (.inl q)
   ·exact .inl (.inr q)
   ·exact .inr q
end
section
theorem z7 {A B:Prop} (h:A):ifW true A B:=⟨fun _=>h,(fun e=>by cases e)⟩
theorem ju {A B:Prop} (h:B):ifW false A B:=⟨(fun e=>by cases e),fun _=>h⟩
theorem zn {c:Bool} {A B:Prop} (ht:c=true→A) (hf:c=false→B):ifW c A B:=⟨ht,hf⟩
@[simp] theorem YZ {A B:Prop}:ifW true A B=A:=propext ⟨fun h=>h.1 rfl,z7⟩
@[simp] theorem YL {A B:Prop}:ifW false A B=B:=propext ⟨fun h=>h.2 rfl,ju⟩
theorem zz {x y:Int} {κ:Int→Prop} (h1:-9223372036854775808≤x+y) (h2:x+y≤9223372036854775807) (h:κ (x+y)):jt x y κ:=⟨⟨h1,h2⟩,h⟩
theorem Z3 {x y:Int} {κ:Int→Prop} (h1:-9223372036854775808≤x - y) (h2:x - y≤9223372036854775807) (h:κ (x - y)):YY x y κ:=⟨⟨h1,h2⟩,h⟩
theorem zp {α:Type} {xs:List α} {i:Int} {κ:α→Prop} (n:Nat) (hi:i=n) (hn:n<xs.length) (h:κ xs[n]):zK xs i κ:=by
 subst hi
 exact ⟨xs[n],by omega,by simp [hn],h⟩
theorem jm {α:Type} {xs ys:List α} {κ:List α→Prop} (h1:xs.length+ys.length≤4294967296) (h:κ (xs++ys)):jG xs ys κ:=⟨h1,h⟩
theorem Vc {α:Type} {z:α} {n m:Int} {κ:List α→Prop} (k:Nat) (hn:n=k) (h1:n≤m) (h2:m≤4294967296) (h:κ (List.replicate k z)):zaj z n m κ:=by
 subst hn
 refine ⟨by omega,h1,?_,by simpa using h⟩
 unfold zb7
 omega
theorem zQ {σ:Type} {F:(σ→Prop)→σ→Prop} (len:Nat) (pos:σ→Int) (I:Nat→σ→Prop) (hpos:∀ k s,I k s→pos s=k) (hle:∀ k s,I k s→k≤len)
  (h:∀ k s next,I k s→(k<len→∀ s',I (k+1) s'→next s')→F next s) {s:σ} (h0:I 0 s):jk F s:=by
 refine ZK (fun s=>∃ k,I k s) (fun s=>len - (pos s).toNat) (fun s next ⟨k,hk⟩ hn=>?_) ⟨0,h0⟩
 refine h k s next hk (fun hlt s' hs'=>hn s' ⟨k+1,hs'⟩ ?_)
 rw [hpos _ _ hk,hpos _ _ hs']
 omega
theorem zcg {σ:Type} {F:(σ→Prop)→σ→Prop} (k0 len:Nat) (pos:σ→Int) (I:Nat→σ→Prop) (hpos:∀ k s,I k s→pos s=k) (hle:∀ k s,I k s→k≤len)
  (h:∀ k s next,I k s→(k<len→∀ s',I (k+1) s'→next s')→F next s) {s:σ} (h0:I k0 s):jk F s:=by
 refine ZK (fun s=>∃ k,I k s) (fun s=>len - (pos s).toNat) (fun s next ⟨k,hk⟩ hn=>?_) ⟨k0,h0⟩
 refine h k s next hk (fun hlt s' hs'=>hn s' ⟨k+1,hs'⟩ ?_)
 rw [hpos _ _ hk,hpos _ _ hs']
 omega
theorem zbM {α β:Type} (a:List α) (f:α→β) (hl:a.length≤4294967296) {κ:List β→Prop} (T:α→(β→Prop)→Prop) (hT:∀ x ψ,x∈a→ψ (f x)→T x ψ) (hκ:κ (a.map f)) {xs:List β} (hx:xs.length=a.length)
  (F:(List β×Int→Prop)→List β×Int→Prop)
  (hF:∀ nx xs t,(ifW (decide (t<(a.length:Int))) (zK a t (fun e=>T e (fun r=>zK xs t (fun _=>jt t 1 (fun u=>nx (xs.set t.toNat r,u)))))) (κ xs))→F nx (xs,t)):jk F (xs,0):=by
 refine zQ a.length (fun s=>s.2) (fun k s=>s.2=(k:Int)∧k≤a.length∧s.1.length=a.length∧∀ i,i<k→s.1[i]?=(a.map f)[i]?) (fun k s h=>h.1) (fun k s h=>h.2.1) ?_ ⟨rfl,Nat.zero_le _,hx,fun i hi=>by omega⟩
 rintro k ⟨ys,t⟩ next ⟨rfl,hk,hy,hi⟩ hn
 simp only at hy hi
 refine hF _ _ _ (zn (fun hc=>?_) (fun hc=>?_))
 ·have hlt:k<a.length:=by simpa using hc
  refine zp k rfl hlt (hT _ _ (List.getElem_mem hlt) (zp k rfl (by omega) (zz (by omega) (by omega) (hn hlt _ ?_))))
  refine ⟨by simp,by omega,by simpa using hy,fun i hi'=>?_⟩
  simp only [Int.toNat_natCast]
  by_cases e:i=k
  ·subst e
   simp [hy,hlt]
  ·rw [List.getElem?_set_ne (by omega)]
   exact hi i (by omega)
 ·have hge:a.length≤k:=by simpa using hc
  have:ys=a.map f:=by
   apply List.ext_getElem?
   intro i
   by_cases h:i<k
   ·exact hi i h
   ·rw [List.getElem?_eq_none (by omega),List.getElem?_eq_none (by simp;omega)]
  rw [this];exact hκ
theorem zeV {α:Type} [DecidableEq α] (a b:List α) (hab:a.length=b.length) (hl:a.length≤4294967296) {κ:Bool→Prop} (T:α→α→Prop→Prop) (hT:∀ x y A,(x=y→A)→(x≠y→κ false)→T x y A) (hκ:κ (decide (a=b)))
  (F:(Int→Prop)→Int→Prop) (hF:∀ nx t,(ifW (decide (t<(a.length:Int))) (zK a t (fun x=>zK b t (fun y=>T x y (jt t 1 (fun u=>nx u))))) (κ true))→F nx t):jk F 0:=by
 refine zQ a.length (fun s=>s) (fun k s=>s=(k:Int)∧k≤a.length∧a.take k=b.take k) (fun k s h=>h.1) (fun k s h=>h.2.1) ?_ ⟨rfl,Nat.zero_le _,by simp⟩
 rintro k _ next ⟨rfl,hk,he⟩ hn
 refine hF _ _ (zn (fun hc=>?_) (fun hc=>?_))
 ·have hlt:k<a.length:=by simpa using hc
  refine zp k rfl hlt (zp k rfl (by omega) (hT _ _ _ (fun e=>zz (by omega) (by omega) (hn hlt _ ⟨by simp,by omega,?_⟩)) (fun e=>?_)))
  ·rw [List.take_succ_eq_append_getElem hlt,List.take_succ_eq_append_getElem (by omega),he,e]
  ·have:a≠b:=fun h=>by subst h;exact e rfl
   rw [decide_eq_false this] at hκ;exact hκ
 ·have hge:a.length≤k:=by simpa using hc
  have:a=b:=by
   rw [List.take_of_length_le hge,List.take_of_length_le (by omega)] at he
   exact he
  rw [decide_eq_true this] at hκ;exact hκ
def zk6 {α:Type} (f:Int→α) (k:Int) (n:Nat):List α:=(List.range n).map fun (i:Nat)=>f (k+(i:Int))
end
section
open Go Go.Proofs
instance (l:List ze) (x:Int):Decidable (hv l x):=by unfold hv;infer_instance
def St (l:List ze) (top:Int):Prop:=NF l∧∀ s∈l,0≤s.xLo∧s.xHi≤top
theorem zj4 (top:Int):St [] top:=⟨zf6,by simp⟩
theorem zh0 {a b:List ze} {t u:Int} (ha:St a t) (hb:St b u) (h:∀ x,hv a x↔hv b x):a=b:=zjn ha.1 hb.1 h
theorem Zc {l:List ze} {top x:Int} (h:St l top) (hx:hv l x):0≤x∧x≤top:=by
 obtain ⟨s,hs,e1,e2⟩:=hx
 have:=h.2 s hs
 omega
theorem zd9:∀ (l:List ze) (top lo:Int),NF l→(∀ s∈l,lo≤s.xLo∧s.xHi≤top)→lo≤top+2→2 * (l.length:Int)≤top+2 - lo
 | [],top,lo,_,_,h=>by simp;omega
 | s :: l,top,lo,hn,hr,h=>by
  have h0:=hr s (by simp)
  have h1:=hn.1 s (by simp)
  have:=zd9 l top (s.xHi+2) (Uz hn) (fun t ht=>⟨by have:=(List.pairwise_cons.1 hn.2).1 t ht;omega,(hr t (List.mem_cons_of_mem _ ht)).2⟩) (by omega)
  simp only [List.length_cons]
  omega
theorem Ui {l:List ze} {top:Int} (h:St l top) (ht:-2≤top):2 * (l.length:Int)≤top+2:=by
 have:=zd9 l top 0 h.1 h.2 (by omega)
 omega
def Yg (x y:ze):List ze:=if max x.xLo y.xLo≤min x.xHi y.xHi then [ze.mk (max x.xLo y.xLo) (min x.xHi y.xHi)] else []
def zU (a b:List ze):List ze:=a.flatMap fun x=>b.flatMap (Yg x)
theorem VZ {x y t:ze}:t∈Yg x y↔max x.xLo y.xLo≤min x.xHi y.xHi∧t=ze.mk (max x.xLo y.xLo) (min x.xHi y.xHi):=by
 unfold Yg;split <;> simp [*]
theorem V9 {a b:List ze} {t:ze}:t∈zU a b↔∃ x∈a,∃ y∈b,max x.xLo y.xLo≤min x.xHi y.xHi∧t=ze.mk (max x.xLo y.xLo) (min x.xHi y.xHi):=by
 simp only [zU,List.mem_flatMap,VZ]
theorem Ug (a b:List ze) (n:Int):hv (zU a b) n↔hv a n∧hv b n:=by
 constructor
 ·rintro ⟨t,ht,h1,h2⟩
  obtain ⟨x,hx,y,hy,_,rfl⟩:=V9.1 ht
  simp only at h1 h2
  exact ⟨⟨x,hx,by omega,by omega⟩,⟨y,hy,by omega,by omega⟩⟩
 ·rintro ⟨⟨x,hx,h1,h2⟩,⟨y,hy,h3,h4⟩⟩
  exact ⟨_,V9.2 ⟨x,hx,y,hy,by omega,rfl⟩,by simp only;omega,by simp only;omega⟩
theorem zhk {x:ze}:∀ {b:List ze},NF b→NF (b.flatMap (Yg x))
 | [],_=>by simp [NF]
 | y :: b,h=>by
  rw [List.flatMap_cons]
  have hy:=(List.pairwise_cons.1 h.2).1
  refine UP ⟨fun t ht=>?_,?_⟩ (zhk (Uz h)) (fun t ht u hu=>?_)
  ·obtain ⟨h1,rfl⟩:=VZ.1 ht;exact h1
  ·unfold Yg;split <;> simp
  ·obtain ⟨h1,rfl⟩:=VZ.1 ht
   obtain ⟨z,hz,hu⟩:=List.mem_flatMap.1 hu
   obtain ⟨h2,rfl⟩:=VZ.1 hu
   have:=hy z hz
   simp only;omega
theorem zbm:∀ {a b:List ze},NF a→NF b→NF (zU a b)
 | [],b,_,_=>by simp [zU,NF]
 | x :: a,b,ha,hb=>by
  have e:zU (x :: a) b=b.flatMap (Yg x)++zU a b:=by simp [zU]
  rw [e]
  refine UP (zhk hb) (zbm (Uz ha) hb) (fun t ht u hu=>?_)
  obtain ⟨y,hy,ht⟩:=List.mem_flatMap.1 ht
  obtain ⟨h1,rfl⟩:=VZ.1 ht
  obtain ⟨z,hz,y',hy',h2,rfl⟩:=V9.1 hu
  have:=(List.pairwise_cons.1 ha.2).1 z hz
  simp only;omega
theorem ZD {a b:List ze} {top:Int} (ha:St a top) (hb:NF b):St (zU a b) top:=by
 refine ⟨zbm ha.1 hb,fun t ht=>?_⟩
 obtain ⟨x,hx,y,hy,_,rfl⟩:=V9.1 ht
 have:=ha.2 x hx
 have:=hb.1 y hy
 simp only;omega
def YS:List ze→Int→Int→List ze
 | [],at_,top=>if at_≤top then [ze.mk at_ top] else []
 | s :: l,at_,top=>(if at_<s.xLo then [ze.mk at_ (s.xLo - 1)] else [])++YS l (s.xHi+1) top
def yw (a:List ze) (top:Int):List ze:=YS a 0 top
theorem zcK:∀ (a:List ze) (c top:Int),NF a→(∀ s∈a,c≤s.xLo∧s.xHi≤top) →
  NF (YS a c top)∧(∀ s∈YS a c top,c≤s.xLo∧s.xHi≤top)∧∀ x,hv (YS a c top) x↔c≤x∧x≤top∧¬ hv a x
 | [],c,top,_,_=>by
  unfold YS
  split
  ·refine ⟨Uo (by simpa using ‹_›),by simp,fun x=>?_⟩
   rw [xC];simp [yv]
  ·refine ⟨zf6,by simp,fun x=>?_⟩
   simp only [yv,false_iff]
   omega
 | s :: l,c,top,hn,hr=>by
  have h0:=hr s (by simp)
  have h1:=hn.1 s (by simp)
  have hg:=(List.pairwise_cons.1 hn.2).1
  obtain ⟨i1,i2,i3⟩:=zcK l (s.xHi+1) top (Uz hn) (fun t ht=>⟨by have:=hg t ht;omega,(hr t (List.mem_cons_of_mem _ ht)).2⟩)
  unfold YS
  have hx0:∀ x,x≤s.xHi+1→¬ hv l x:=fun x hx hh=>by have:=zbX hn hh;omega
  split
  ·refine ⟨UP (Uo (by simp only;omega)) i1 (fun t ht u hu=>by simp at ht;subst ht;have:=i2 u hu;simp only;omega),fun t ht=>?_,fun x=>?_⟩
   ·rcases List.mem_append.1 ht with q | q
    ·simp at q;subst q;simp only;omega
    ·have:=i2 t q;omega
   ·rw [UH,xC,i3,xC]
    simp only [yv,or_false]
    constructor
    ·rintro (q | ⟨q1,q2,q3⟩)
     ·exact ⟨by omega,by omega,fun h=>by
       rcases h with h | h
       ·omega
       ·exact hx0 x (by omega) h⟩
     ·exact ⟨by omega,q2,fun h=>by
       rcases h with h | h
       ·omega
       ·exact q3 h⟩
    ·rintro ⟨q1,q2,q3⟩
     by_cases h:x<s.xLo
     ·exact .inl (by omega)
     ·exact .inr ⟨by
       rcases Int.lt_or_le s.xHi x with g | g
       ·omega
       ·exact absurd (Or.inl ⟨by omega,g⟩) q3,q2,fun h=>q3 (.inr h)⟩
  ·refine ⟨by simpa using i1,fun t ht=>?_,fun x=>?_⟩
   ·have:=i2 t (by simpa using ht);omega
   ·rw [List.nil_append,i3,xC]
    constructor
    ·rintro ⟨q1,q2,q3⟩
     exact ⟨by omega,q2,fun h=>by
       rcases h with h | h
       ·omega
       ·exact q3 h⟩
    ·rintro ⟨q1,q2,q3⟩
     exact ⟨by
       rcases Int.lt_or_le s.xHi x with g | g
       ·omega
       ·exact absurd (Or.inl ⟨by omega,g⟩) q3,q2,fun h=>q3 (.inr h)⟩
theorem Yb {a:List ze} {top:Int} (h:St a top):St (yw a top) top:=by
 obtain ⟨h1,h2,_⟩:=zcK a 0 top h.1 h.2
 exact ⟨h1,h2⟩
theorem zee {a:List ze} {top:Int} (h:St a top) (x:Int):hv (yw a top) x↔0≤x∧x≤top∧¬ hv a x:=(zcK a 0 top h.1 h.2).2.2 x
def Xb (a b:List ze):List ze:=b.foldl zaO a
theorem zb2 {a b:List ze} {top:Int} (ha:St a top) (hb:St b top) (x:Int):hv (Xb a b) x↔hv a x∨hv b x:=(V1 b a ha.1 hb.1.1).2 x
theorem Uv {l:List ze} {s:ze} (h:NF l) (hs:s∈l):hv l s.xLo∧hv l s.xHi:=⟨⟨s,hs,Int.le_refl _,h.1 s hs⟩,⟨s,hs,h.1 s hs,Int.le_refl _⟩⟩
theorem zbO {a b:List ze} {top:Int} (ha:St a top) (hb:St b top):St (Xb a b) top:=by
 have hn:NF (Xb a b):=(V1 b a ha.1 hb.1.1).1
 refine ⟨hn,fun s hs=>?_⟩
 obtain ⟨e1,e2⟩:=Uv hn hs
 rw [zb2 ha hb] at e1 e2
 constructor
 ·rcases e1 with e | e
  ·exact (Zc ha e).1
  ·exact (Zc hb e).1
 ·rcases e2 with e | e
  ·exact (Zc ha e).2
  ·exact (Zc hb e).2
theorem ziu (a:List ze) (c:Int) (hl:a.length≤4294967296) {i0:Nat} (h0:i0≤a.length) (hb:∀ s∈a.take i0,s.xHi<c) (REST:Int→Prop)
  (hR:∀ i:Nat,i≤a.length→(∀ s∈a.take i,s.xHi<c)→(∀ h:i<a.length,c≤a[i].xHi)→REST i)
  (F:(Int→Prop)→Int→Prop) (hF:∀ nx t,(jnW (fun (b:Bool)=>ifW b (jt t 1 (fun u=>nx u)) (REST t)) (fun k=>ifW (decide (t<(a.length:Int))) (zK a t (fun e=>k (decide (e.xHi<c)))) (k false)))→F nx t):jk F (i0:Int):=by
 refine zcg i0 a.length (fun s=>s) (fun k s=>s=(k:Int)∧k≤a.length∧∀ s∈a.take k,s.xHi<c) (fun k s h=>h.1) (fun k s h=>h.2.1) ?_ ⟨rfl,h0,hb⟩
 rintro k _ next ⟨rfl,hk,he⟩ hn
 refine hF _ _ ?_
 unfold jnW
 refine zn (fun hc=>?_) (fun hc=>?_)
 ·have hlt:k<a.length:=by simpa using hc
  refine zp k rfl hlt (zn (fun hd=>?_) (fun hd=>?_))
  ·refine zz (by omega) (by omega) (hn hlt _ ⟨by simp,by omega,fun s hs=>?_⟩)
   rw [List.take_succ_eq_append_getElem hlt] at hs
   rcases List.mem_append.1 hs with q | q
   ·exact he s q
   ·simp at q;subst q;simpa using hd
  ·exact hR k hk he (fun _=>by simpa using hd)
 ·refine ju (hR k hk he (fun h=>?_))
  have:a.length≤k:=by simpa using hc
  omega
theorem zgq {a:List ze} {i:Nat} {c x:Int} (h:∀ s∈a.take i,s.xHi<c) (hx:c≤x):hv a x↔hv (a.drop i) x:=by
 have e:=UH (a.take i) (a.drop i) x
 rw [List.take_append_drop] at e
 rw [e]
 constructor
 ·rintro (⟨s,hs,q1,q2⟩ | q)
  ·have:=h s hs;omega
  ·exact q
 ·exact .inr
def stF (l:List ze) (c top:Int):Bool×Int :=
 match l with
 | []=>(false,top)
 | s :: _=>if c<s.xLo then (false,s.xLo - 1) else (true,s.xHi)
theorem zd7 {l:List ze} {c top:Int} {κ:Bool×Int→Prop} (hb:∀ s∈l,0≤s.xLo∧s.xHi≤9223372036854775807) (hn:NF l) (h:κ (stF l c top)):x8 l c top κ:=by
 unfold x8
 cases l with
 | nil=>exact z7 h
 | cons s l =>
  have:=hb s (by simp)
  have:=hn.1 s (by simp)
  refine zn (fun e=>by simp at e;omega) (fun _=>zp 0 rfl (by simp) (zn (fun e=>zp 0 rfl (by simp) (Z3 (by simp only [List.getElem_cons_zero];omega) (by simp only [List.getElem_cons_zero];omega) ?_)) (fun e=>zp 0 rfl (by simp) ?_)))
  ·simp only [stF] at h
   rw [if_pos (by simpa using e)] at h
   exact h
  ·simp only [stF] at h
   rw [if_neg (by simpa using e)] at h
   exact h
theorem ze5 {l:List ze} {c top:Int} (h:NF l) (hb:∀ s∈l,s.xHi≤top) (hc:c≤top) (hf:∀ s∈l.head?,c≤s.xHi) :
  c≤(stF l c top).2∧(stF l c top).2≤top∧∀ x,c≤x→x≤(stF l c top).2→(hv l x↔(stF l c top).1=true):=by
 cases l with
 | nil=>exact ⟨hc,Int.le_refl _,fun x _ _=>by simp [stF,yv]⟩
 | cons s l =>
  have h0:=hb s (by simp)
  have h1:=h.1 s (by simp)
  have h2:=hf s (by simp)
  unfold stF
  simp only
  split
  ·refine ⟨by simp only;omega,by simp only;omega,fun x q1 q2=>?_⟩
   simp only at q2
   simp only [Bool.false_eq_true,iff_false]
   intro hh
   have:=za2 h hh
   omega
  ·refine ⟨h2,h0,fun x q1 q2=>?_⟩
   simp only at q2
   simp only [iff_true]
   exact (xC _ _ _).2 (.inl ⟨by omega,q2⟩)
theorem zaR:∀ {a:List ze} (i:Nat),NF a→NF (a.drop i):=fun {a} i h=>⟨fun s hs=>h.1 s (List.mem_of_mem_drop hs),h.2.drop⟩
theorem zdY {a:List ze} {i:Nat} {c:Int} (h:∀ q:i<a.length,c≤a[i].xHi):∀ s∈(a.drop i).head?,c≤s.xHi:=by
 intro s hs
 rw [List.head?_drop] at hs
 obtain ⟨hlt,e⟩:=List.getElem?_eq_some_iff.1 hs
 rw [← e];exact h hlt
theorem zay (keep:Bool→Bool→Bool) {a b:List ze} {top:Int} (ha:St a top) (hb:St b top) (ht0:-2≤top) (ht:top≤65535) {κ:List ze→Prop}
  (hκ:∀ r,St r top→(∀ x,0≤x→x≤top→(hv r x↔keep (decide (hv a x)) (decide (hv b x))=true))→κ r)
  (K:Bool→Bool→(Bool→Prop)→Prop) (hK:∀ p q φ,φ (keep p q)→K p q φ)
  (F:(List ze×Int×Int×Int→Prop)→List ze×Int×Int×Int→Prop)
  (hF:∀ nx xs8 t11 t12 t13,(ifW (decide (t13≤top)) (jk (fun (nx16:Int→Prop) (t15:Int)=>jnW (fun (t79:Bool)=>ifW t79 (jt t15 1 (fun t81=>nx16 t81)) (jk (fun (nx83:Int→Prop) (t82:Int)=>jnW (fun (t146:Bool)=>ifW t146 (jt t82 1 (fun t148=>nx83 t148)) (yG a t15 (a.length:Int) (fun xs150=>x8 xs150 t13 top (fun (r153,r154)=>yG b t82 (b.length:Int) (fun xs156=>x8 xs156 t13 top (fun (r159,r160)=>jnW (fun (xs296:(List ze))=>jt (min r154 r160) 1 (fun t300=>nx (xs296,t15,t82,t300))) (fun k299=>K r153 r159 (fun r161=>ifW r161 (jnW (fun (t226:Bool)=>ifW t226 (YY (xs8.length:Int) 1 (fun t228=>zK xs8 t228 (fun e229=>k299 (xs8.set (t228).toNat (ze.mk e229.xLo (min r154 r160)))))) (jG xs8 ([(ze.mk t13 (min r154 r160))]) (fun _=>k299 (xs8++([(ze.mk t13 (min r154 r160))]))))) (fun k227=>ifW (decide (0<(xs8.length:Int))) (YY (xs8.length:Int) 1 (fun t162=>zK xs8 t162 (fun e163=>jt e163.xHi 1 (fun t165=>k227 (decide (t165=t13)))))) (k227 false))) (k299 xs8))))))))) (fun k147=>ifW (decide (t82<(b.length:Int))) (zK b t82 (fun e84=>k147 (decide (e84.xHi<t13)))) (k147 false))) t12)) (fun k80=>ifW (decide (t15<(a.length:Int))) (zK a t15 (fun e17=>k80 (decide (e17.xHi<t13)))) (k80 false))) t11) (κ xs8))→F nx (xs8,t11,t12,t13)) :
  jk F ([],0,0,0):=by
 have la:=Ui ha ht0
 have lb:=Ui hb ht0
 refine ZK (fun (s:List ze×Int×Int×Int)=>∃ i j:Nat,s.2.1=i∧s.2.2.1=j∧i≤a.length∧j≤b.length∧0≤s.2.2.2∧(top<s.2.2.2→s.2.2.2=top+1∨s.2.2.2=0)∧(∀ u∈a.take i,u.xHi<s.2.2.2)∧(∀ u∈b.take j,u.xHi<s.2.2.2)∧St s.1 top∧(∀ u∈s.1,u.xHi<s.2.2.2)∧(∀ x,0≤x→x<s.2.2.2→(hv s.1 x↔keep (decide (hv a x)) (decide (hv b x))=true)))
  (fun s=>(top+1 - s.2.2.2).toNat) ?_ ⟨0,0,rfl,rfl,Nat.zero_le _,Nat.zero_le _,Int.le_refl _,fun _=>.inr rfl,by simp,by simp,zj4 _,by simp,fun x h1 h2=>by simp only at h2;omega⟩
 rintro ⟨out,_,_,c⟩ next ⟨i,j,rfl,rfl,hi,hj,hc0,hc1,hai,hbj,ho,hoc,hk⟩ hn
 simp only at hc0 hc1 hai hbj ho hoc hk
 have lo:=Ui ho ht0
 refine hF _ _ _ _ _ (zn (fun hc=>?_) (fun hc=>?_))
 rotate_left 1
 ·have hc':top<c:=by simpa using hc
  refine hκ out ho (fun x h1 h2=>hk x h1 (by omega))
 have hc':c≤top:=by simpa using hc
 refine ziu a c (by omega) hi hai _ (fun i' hi' hai' hai2=>?_) _ (fun _ _ h=>h)
 refine ziu b c (by omega) hj hbj _ (fun j' hj' hbj' hbj2=>?_) _ (fun _ _ h=>h)
 have mema:∀ s∈a.drop i',0≤s.xLo∧s.xHi≤top:=fun s hs=>ha.2 s (List.mem_of_mem_drop hs)
 have memb:∀ s∈b.drop j',0≤s.xLo∧s.xHi≤top:=fun s hs=>hb.2 s (List.mem_of_mem_drop hs)
 refine ⟨by omega,by omega,by omega,?_⟩
 rw [show (a.take (a.length:Int).toNat).drop (i':Int).toNat=a.drop i' by simp]
 refine zd7 (fun s hs=>⟨(mema s hs).1,by have:=(mema s hs).2;omega⟩) (zaR _ ha.1) ?_
 obtain ⟨a1,a2,a3⟩:=ze5 (zaR i' ha.1) (fun s hs=>(mema s hs).2) hc' (zdY hai2)
 generalize stF (a.drop i') c top=p at a1 a2 a3
 obtain ⟨inA,endA⟩:=p
 simp only at a1 a2 a3 ⊢
 refine ⟨by omega,by omega,by omega,?_⟩
 rw [show (b.take (b.length:Int).toNat).drop (j':Int).toNat=b.drop j' by simp]
 refine zd7 (fun s hs=>⟨(memb s hs).1,by have:=(memb s hs).2;omega⟩) (zaR _ hb.1) ?_
 obtain ⟨b1,b2,b3⟩:=ze5 (zaR j' hb.1) (fun s hs=>(memb s hs).2) hc' (zdY hbj2)
 generalize stF (b.drop j') c top=p at b1 b2 b3
 obtain ⟨inB,endB⟩:=p
 simp only at b1 b2 b3 ⊢
 have hke:∀ x,c≤x→x≤min endA endB→(keep (decide (hv a x)) (decide (hv b x))=keep inA inB):=fun x q1 q2=>by
  have e1:decide (hv a x)=inA:=by
   have:=a3 x q1 (by omega)
   rw [← zgq hai' q1] at this
   cases inA <;> simpa using this
  have e2:decide (hv b x)=inB:=by
   have:=b3 x q1 (by omega)
   rw [← zgq hbj' q1] at this
   cases inB <;> simpa using this
  rw [e1,e2]
 unfold jnW
 generalize hm:min endA endB=m at hke ⊢
 have m1:c≤m:=by omega
 have m2:m≤top:=by omega
 have fin:∀ out',St out' top→(∀ u∈out',u.xHi≤m)→(∀ x,0≤x→x≤m→(hv out' x↔keep (decide (hv a x)) (decide (hv b x))=true))→jt m 1 (fun t300=>next (out',(i':Int),(j':Int),t300)):=fun out' h1 h2 h3 =>
  zz (by omega) (by omega) (hn _ ⟨i',j',rfl,rfl,hi',hj',by simp only;omega,fun _=>.inl (by simp only at *;omega),fun u hu=>by have:=hai' u hu;simp only;omega,fun u hu=>by have:=hbj' u hu;simp only;omega,h1,fun u hu=>by have:=h2 u hu;simp only;omega,fun x q1 q2=>h3 x q1 (by simp only at q2;omega)⟩ (by simp only;omega))
 refine hK _ _ _ (zn (fun hkt=>?_) (fun hkf=>?_))
 ·
  have app:(∀ u∈out,u.xHi+1<c)→jG out ([(ze.mk c m)]) (fun _=>jt m 1 (fun t300=>next (out++[ze.mk c m],(i':Int),(j':Int),t300))):=fun hg =>
   jm (by simp;omega) (fin _ ⟨UP ho.1 (Uo (by simpa using m1)) (fun s hs t ht=>by simp at ht;subst ht;exact hg s hs),fun s hs=>by
    rcases List.mem_append.1 hs with q | q
    ·exact ho.2 s q
    ·simp at q;subst q;exact ⟨hc0,m2⟩⟩ (fun u hu=>by
    rcases List.mem_append.1 hu with q | q
    ·have:=hoc u q;omega
    ·simp at q;subst q;exact Int.le_refl _) (fun x q1 q2=>by
    rw [UH,xC]
    simp only [yv,or_false]
    by_cases hx:x<c
    ·rw [← hk x q1 hx]
     constructor
     ·rintro (q | q)
      ·exact q
      ·omega
     ·exact .inl
    ·rw [hke x (by omega) q2,hkt]
     simp only [iff_true]
     exact .inr ⟨by omega,q2⟩))
  refine zn (fun hp=>?_) (fun hp=>?_)
  ·
   have hpos:0<out.length:=by simpa using hp
   refine Z3 (by omega) (by omega) (zp (out.length - 1) (by omega) (by omega) ?_)
   have hmem:out[out.length - 1]∈out:=List.getElem_mem _
   have hlast:=hoc _ hmem
   have hl0:=ho.2 _ hmem
   have hl1:=ho.1.1 _ hmem
   refine zz (by omega) (by omega) (zn (fun hq=>?_) (fun hq=>?_))
   ·have hq':(out[out.length - 1]).xHi+1=c:=by simpa using hq
    refine Z3 (by omega) (by omega) (zp (out.length - 1) (by omega) (by omega) ?_)
    have hsplit:out=out.dropLast++[out[out.length - 1]]:=by
     have:=List.dropLast_concat_getLast (l:=out) (by intro h;rw [h] at hpos;simp at hpos)
     rw [List.getLast_eq_getElem] at this
     exact this.symm
    generalize out[out.length - 1]=z at *
    have hset:out.set ((out.length:Int) - 1).toNat (ze.mk z.xLo m)=out.dropLast++[ze.mk z.xLo m]:=by
     have e1:((out.length:Int) - 1).toNat=out.dropLast.length:=by rw [List.length_dropLast];omega
     rw [e1]
     conv=>lhs;rw [hsplit]
     rw [List.dropLast_concat,List.set_append_right _ _ (Nat.le_refl _)]
     simp
    rw [hset]
    have hd:NF (out.dropLast++[z]):=by rw [← hsplit];exact ho.1
    have hdp:=List.pairwise_append.1 hd.2
    have hdm:∀ u∈out.dropLast,u∈out:=fun u hu=>by rw [hsplit];exact List.mem_append_left _ hu
    refine fin _ ⟨UP ⟨fun s hs=>ho.1.1 s (hdm s hs),hdp.1⟩ (Uo (by simp only;omega)) (fun s hs t ht=>by simp at ht;subst ht;exact hdp.2.2 s hs z (by simp)),fun s hs=>?_⟩ (fun u hu=>?_) (fun x q1 q2=>?_)
    ·rcases List.mem_append.1 hs with q | q
     ·exact ho.2 s (hdm s q)
     ·simp at q;subst q;exact ⟨hl0.1,m2⟩
    ·rcases List.mem_append.1 hu with q | q
     ·have:=hoc u (hdm u q);omega
     ·simp at q;subst q;exact Int.le_refl _
    ·have hold:hv out x↔hv out.dropLast x∨(z.xLo≤x∧x≤z.xHi):=by
      conv=>lhs;rw [hsplit]
      rw [UH,xC];simp [yv]
     rw [UH,xC]
     simp only [yv,or_false]
     by_cases hx:x<c
     ·rw [← hk x q1 hx,hold]
      constructor
      ·rintro (q | q)
       ·exact .inl q
       ·exact .inr ⟨q.1,by omega⟩
      ·rintro (q | q)
       ·exact .inl q
       ·exact .inr ⟨q.1,by omega⟩
     ·rw [hke x (by omega) q2,hkt]
      simp only [iff_true]
      exact .inr ⟨by omega,q2⟩
   ·have hq':(out[out.length - 1]).xHi+1≠c:=by simpa using hq
    refine app (fun u hu=>?_)
    obtain ⟨t,ht,e⟩:=List.getElem_of_mem hu
    by_cases e0:t=out.length - 1
    ·subst e0;rw [← e];omega
    ·have hpw:=List.pairwise_iff_getElem.1 ho.1.2 t (out.length - 1) ht (by omega) (by omega)
     rw [e] at hpw
     omega
  ·have:out=[]:=by
    have:¬ 0<out.length:=by simpa using hp
    exact List.eq_nil_of_length_eq_zero (by omega)
   subst this
   exact ju (app (by simp))
 ·refine fin out ho (fun u hu=>by have:=hoc u hu;omega) (fun x q1 q2=>?_)
  by_cases hx:x<c
  ·exact hk x q1 hx
  ·rw [hke x (by omega) q2,hkf]
   simp only [Bool.false_eq_true,iff_false]
   rintro ⟨u,hu,r1,r2⟩
   have:=hoc u hu
   omega
end
section
open Go Go.Proofs
theorem zhj {p q:Bool} {κ:Bool→Prop} (h:κ (p && q)):XH p q κ:=by
 unfold XH jnW;cases p <;> simpa using h
theorem zdT {p q:Bool} {κ:Bool→Prop} (h:κ (p && !q)):yA p q κ:=by
 unfold yA jnW;cases p <;> simpa using h
theorem zfU {p q:Bool} {κ:Bool→Prop} (h:κ (p || q)):ZB p q κ:=by
 unfold ZB jnW;cases p <;> simpa using h
theorem zeG {a b:List ze} {top:Int} (ha:St a top) (hb:St b top) (h0:-2≤top) (ht:top≤65535) {κ:List ze→Prop} (h:κ (zU a b)):ui a b top κ:=by
 unfold ui
 refine zay (fun p q=>p && q) ha hb h0 ht (κ:=κ) (fun r hr hk=>?_) (fun p q φ=>XH p q φ) (fun p q φ=>zhj) _ (fun _ _ _ _ _ h=>h)
 rw [zh0 hr (ZD ha hb.1) (fun x=>?_)]
 ·exact h
 ·rw [Ug]
  by_cases hx:0≤x∧x≤top
  ·rw [hk x hx.1 hx.2];simp
  ·exact ⟨fun e=>absurd (Zc hr e) hx,fun e=>absurd (Zc ha e.1) hx⟩
theorem XG {a b:List ze} {top:Int} (ha:St a top) (hb:St b top) (h0:-2≤top) (ht:top≤65535) {κ:List ze→Prop} (h:κ (zU a (yw b top))):zX a b top κ:=by
 unfold zX
 refine zay (fun p q=>p && !q) ha hb h0 ht (κ:=κ) (fun r hr hk=>?_) (fun p q φ=>yA p q φ) (fun p q φ=>zdT) _ (fun _ _ _ _ _ h=>h)
 rw [zh0 hr (ZD ha (Yb hb).1) (fun x=>?_)]
 ·exact h
 ·rw [Ug,zee hb]
  by_cases hx:0≤x∧x≤top
  ·rw [hk x hx.1 hx.2];simp [hx.1,hx.2]
  ·exact ⟨fun e=>absurd (Zc hr e) hx,fun e=>absurd (Zc ha e.1) hx⟩
theorem zdu {a b:List ze} {top:Int} (ha:St a top) (hb:St b top) (h0:-2≤top) (ht:top≤65535) {κ:List ze→Prop} (h:κ (Xb a b)):xW a b top κ:=by
 unfold xW
 refine zay (fun p q=>p || q) ha hb h0 ht (κ:=κ) (fun r hr hk=>?_) (fun p q φ=>ZB p q φ) (fun p q φ=>zfU) _ (fun _ _ _ _ _ h=>h)
 rw [zh0 hr (zbO ha hb) (fun x=>?_)]
 ·exact h
 ·rw [zb2 ha hb]
  by_cases hx:0≤x∧x≤top
  ·rw [hk x hx.1 hx.2];simp
  ·refine ⟨fun e=>absurd (Zc hr e) hx,fun e=>?_⟩
   rcases e with e | e
   ·exact absurd (Zc ha e) hx
   ·exact absurd (Zc hb e) hx
def lim (l:List ze):List ze×Bool:=if 40<l.length then ([],false) else (l,true)
theorem Vt {l:List ze} {κ:List ze×Bool→Prop} (h:κ (lim l)):u9 l κ:=by
 unfold u9
 unfold lim at h
 refine zn (fun hc=>?_) (fun hc=>?_)
 ·rw [if_pos (by have:=of_decide_eq_true hc;omega)] at h;exact h
 ·rw [if_neg (by have:=of_decide_eq_false hc;omega)] at h;exact h
theorem Ya {a b:List ze} {top:Int} (ha:St a top) (hb:St b top) (h0:-2≤top) (ht:top≤65535) {κ:List ze×Bool→Prop} (h:κ (lim (zU a b))):zD a b top κ:=by
 unfold zD
 exact zeG ha hb h0 ht (Vt h)
theorem zfD {a b:List ze} {top:Int} (ha:St a top) (hb:St b top) (h0:-2≤top) (ht:top≤65535) {κ:List ze×Bool→Prop} (h:κ (lim (zU a (yw b top)))):jf a b top κ:=by
 unfold jf
 exact XG ha hb h0 ht (Vt h)
theorem zeA {a b:List ze} {top:Int} (ha:St a top) (hb:St b top) (h0:-2≤top) (ht:top≤65535) {κ:List ze×Bool→Prop} (h:κ (lim (Xb a b))):xu a b top κ:=by
 unfold xu
 exact zdu ha hb h0 ht (Vt h)
theorem zgF {x:ze}:∀ (b:List ze),(b.flatMap (Yg x)).length≤b.length
 | []=>by simp
 | y :: b=>by
  have:=zgF (x:=x) b
  have h1:(Yg x y).length≤1:=by unfold Yg;split <;> simp
  simp only [List.flatMap_cons,List.length_append,List.length_cons]
  omega
theorem Za {a b:List ze} {ta tb:Int} (ha:St a ta) (hb:St b tb) (h0:0≤ta) (ht:ta≤65535) (h1:0≤tb) (hu:tb≤65535) {κ:List ze→Prop} (h:κ (zU a b)):xx a b κ:=by
 have la:=Ui ha (by omega)
 have lb:=Ui hb (by omega)
 have short:∀ k,2 * ((zU (a.take k) b).length:Int)≤ta+2:=fun k =>
  Ui (ZD ⟨⟨fun s hs=>ha.1.1 s (List.mem_of_mem_take hs),ha.1.2.take⟩,fun s hs=>ha.2 s (List.mem_of_mem_take hs)⟩ hb.1) (by omega)
 unfold xx
 refine zQ a.length (fun s=>s.2) (fun k s=>s.2=(k:Int)∧k≤a.length∧s.1=zU (a.take k) b) (fun k s h=>h.1) (fun k s h=>h.2.1) ?_ ⟨rfl,Nat.zero_le _,by simp [zU]⟩
 rintro k ⟨xs,t⟩ next ⟨rfl,hk,hx⟩ hn
 simp only at hx
 subst hx
 refine zn (fun hc=>?_) (fun hc=>?_)
 ·have hlt:k<a.length:=by simpa using hc
  have hmem:a[k]∈a:=List.getElem_mem hlt
  have r1:=ha.2 _ hmem
  refine zQ b.length (fun s=>s.2) (fun j s=>s.2=(j:Int)∧j≤b.length∧s.1=zU (a.take k) b++(b.take j).flatMap (Yg a[k])) (fun k s h=>h.1) (fun k s h=>h.2.1) ?_ ⟨rfl,Nat.zero_le _,by simp⟩
  rintro j ⟨ys,u⟩ next2 ⟨rfl,hj,hy⟩ hn2
  simp only at hy
  subst hy
  refine zn (fun hd=>?_) (fun hd=>?_)
  ·have hlt2:j<b.length:=by simpa using hd
   have hstep:(b.take (j+1)).flatMap (Yg a[k])=(b.take j).flatMap (Yg a[k])++Yg a[k] b[j]:=by
    rw [List.take_succ_eq_append_getElem hlt2,List.flatMap_append];simp
   have hlen:=zgF (x:=a[k]) (b.take j)
   have:=short k
   simp only [List.length_take] at hlen
   unfold jnW
   refine zp k rfl hlt (zp j rfl hlt2 (zp k rfl hlt (zp j rfl hlt2 (zn (fun he=>?_) (fun he=>?_)))))
   ·refine jm (by simp only [List.length_append,List.length_singleton];omega) (zz (by omega) (by omega) (hn2 hlt2 _ ⟨by simp,by omega,?_⟩))
    rw [hstep]
    unfold Yg at *
    rw [if_pos (by simpa using he)]
    simp
   ·refine zz (by omega) (by omega) (hn2 hlt2 _ ⟨by simp,by omega,?_⟩)
    rw [hstep]
    have:Yg a[k] b[j]=[]:=by unfold Yg;rw [if_neg (by simpa using he)]
    rw [this];simp
  ·have hge:b.length≤j:=by simpa using hd
   have e:j=b.length:=by omega
   subst e
   refine zz (by omega) (by omega) (hn hlt _ ⟨by simp,by omega,?_⟩)
   have e2:zU (a.take k++[a[k]]) b=zU (a.take k) b++b.flatMap (Yg a[k]):=by simp only [zU,List.flatMap_append,List.flatMap_cons,List.flatMap_nil,List.append_nil]
   show zU (a.take k) b++(b.take b.length).flatMap (Yg a[k])=_
   rw [List.take_succ_eq_append_getElem hlt,e2,List.take_length]
 ·have hge:a.length≤k:=by simpa using hc
  rw [List.take_of_length_le hge];exact h
theorem U8 {a:List ze} {top:Int} (ha:St a top) (h0:0≤top) (ht:top≤65535) {κ:List ze→Prop} (h:κ (yw a top)):Xc a top κ:=by
 have la:=Ui ha (by omega)
 have lo:=Ui (Yb ha) (by omega)
 unfold Xc
 refine zQ a.length (fun s=>s.2.2) (fun k s=>s.2.2=(k:Int)∧k≤a.length∧s.1++YS (a.drop k) s.2.1 top=yw a top∧0≤s.2.1∧s.2.1≤65536) (fun k s h=>h.1) (fun k s h=>h.2.1) ?_ ⟨rfl,Nat.zero_le _,by simp [yw],by simp,by simp⟩
 rintro k ⟨xs,c,t⟩ next ⟨rfl,hk,hx,hc0,hc1⟩ hn
 simp only at hx hc0 hc1
 have hlen:xs.length≤(yw a top).length:=by rw [← hx];simp
 refine zn (fun hc=>?_) (fun hc=>?_)
 ·have hlt:k<a.length:=by simpa using hc
  have hmem:a[k]∈a:=List.getElem_mem hlt
  have r1:=ha.2 _ hmem
  have r2:=ha.1.1 _ hmem
  rw [List.drop_eq_getElem_cons hlt] at hx
  simp only [YS] at hx
  unfold jnW
  refine zp k rfl hlt (zn (fun he=>?_) (fun he=>?_))
  ·rw [if_pos (by simpa using he)] at hx
   refine zp k rfl hlt (Z3 (by omega) (by omega) (jm (by simp only [List.length_singleton];omega) (zp k rfl hlt (zz (by omega) (by omega) (zz (by omega) (by omega) (hn hlt _ ⟨by simp,by omega,?_,by simp only;omega,by simp only;omega⟩))))))
   simpa [List.append_assoc] using hx
  ·rw [if_neg (by simpa using he)] at hx
   refine zp k rfl hlt (zz (by omega) (by omega) (zz (by omega) (by omega) (hn hlt _ ⟨by simp,by omega,?_,by simp only;omega,by simp only;omega⟩)))
   simpa using hx
 ·have hge:a.length≤k:=by simpa using hc
  rw [List.drop_eq_nil_of_le hge] at hx
  simp only [YS] at hx
  unfold jnW
  refine zn (fun he=>?_) (fun he=>?_)
  ·rw [if_pos (by simpa using he)] at hx
   refine jm (by simp only [List.length_singleton];omega) ?_
   rw [hx];exact h
  ·rw [if_neg (by simpa using he),List.append_nil] at hx
   rw [hx];exact h
def Sm (s:ze):Prop:=-1000000000≤s.xLo∧s.xLo≤1000000000∧-1000000000≤s.xHi∧s.xHi≤1000000000
theorem zi5 {l:List ze} {s:ze} (hl:l.length≤1000000000) (hb:∀ x∈l,Sm x) (hs:Sm s) {κ:List ze→Prop} (h:κ (zaO l s)):Ud l s κ:=by
 unfold Ud
 refine zQ l.length (fun s=>s.2.2.2.2) (fun k (st:Int×Int×List ze×Bool×Int)=>st.2.2.2.2=(k:Int)∧k≤l.length∧VU l s [] false=VU (l.drop k) (ze.mk st.1 st.2.1) st.2.2.1 st.2.2.2.1∧st.2.2.1.length≤2 * k∧Sm (ze.mk st.1 st.2.1)) (fun k s h=>h.1) (fun k s h=>h.2.1) ?_ ⟨rfl,Nat.zero_le _,by simp,by simp,hs⟩
 rintro k ⟨lo,hi,xs,pl,t⟩ next ⟨rfl,hk,hx,hlen,hsm⟩ hn
 simp only at hx hlen hsm
 obtain ⟨m1,m2,m3,m4⟩:=hsm
 simp only at m1 m2 m3 m4
 refine zn (fun hc=>?_) (fun hc=>?_)
 ·have hlt:k<l.length:=by simpa using hc
  obtain ⟨n1,n2,n3,n4⟩:=hb _ (List.getElem_mem hlt)
  rw [List.drop_eq_getElem_cons hlt] at hx
  simp only [VU] at hx
  unfold jnW
  refine zp k rfl hlt (zz (by omega) (by omega) (zn (fun he=>?_) (fun he=>?_)))
  ·rw [if_pos (by simpa using he)] at hx
   exact jm (by simp only [List.length_singleton];omega) (zz (by omega) (by omega) (hn hlt _ ⟨by simp,by omega,hx,by simp only [List.length_append,List.length_singleton];omega,m1,m2,m3,m4⟩))
  ·rw [if_neg (by simpa using he)] at hx
   refine zz (by omega) (by omega) (zn (fun hf=>?_) (fun hf=>?_))
   ·rw [if_pos (by simpa using hf)] at hx
    cases pl with
    | false =>
     refine z7 (jm (by simp only [List.length_singleton];omega) (jm (by simp only [List.length_append,List.length_singleton];omega) (zz (by omega) (by omega) (hn hlt _ ⟨by simp,by omega,hx,by simp only [List.length_append,List.length_singleton];omega,m1,m2,m3,m4⟩))))
    | true =>
     refine ju (jm (by simp only [List.length_singleton];omega) (zz (by omega) (by omega) (hn hlt _ ⟨by simp,by omega,hx,by simp only [List.length_append,List.length_singleton];omega,m1,m2,m3,m4⟩)))
   ·rw [if_neg (by simpa using hf)] at hx
    exact zz (by omega) (by omega) (hn hlt _ ⟨by simp,by omega,hx,by simp only;omega,by simp only;omega,by simp only;omega,by simp only;omega,by simp only;omega⟩)
 ·have hge:l.length≤k:=by simpa using hc
  rw [List.drop_eq_nil_of_le hge] at hx
  simp only [VU] at hx
  unfold zaO at h
  rw [hx] at h
  unfold jnW
  cases pl with
  | false=>exact z7 (jm (by simp only [List.length_singleton];omega) (by simpa using h))
  | true=>exact ju (by simpa using h)
end
section
open Go.Lib (decDigits)
def B (l:List UInt8):ByteArray:=ByteArray.mk l.toArray
def dg (c:UInt8):Bool:=decide (48≤c.toNat) && decide (c.toNat≤57)
def val (l:List UInt8):Nat:=l.foldl (fun n c=>10 * n+(c.toNat - 48)) 0
def run:Nat→List UInt8→List UInt8
 | 0,_=>[]
 | _,[]=>[]
 | k+1,c :: l=>if dg c then c :: run k l else []
end
section
theorem zie {α:Type} {xs:List α} {i:Int} {κ:α→Prop} (h1:0≤i) (h2:i<xs.length) (h:∀ x,x∈xs→κ x):zK xs i κ:=by
 obtain ⟨n,rfl⟩:=Int.eq_ofNat_of_zero_le h1
 have hn:n<xs.length:=by omega
 exact zp n rfl hn (h _ (List.getElem_mem hn))
def RdP (b:List UInt8) (p:Int):Prop:=b.length≤2000∧0≤p∧p≤1000000
end
section
open Go.Lib (decDigits)
def cut (c:UInt8):List UInt8→List UInt8×List UInt8
 | []=>([],[])
 | d :: l=>if d=c then ([],l) else (d :: (cut c l).1,(cut c l).2)
end
section
open Go.Lib (decDigits)
theorem VP {n lo hi:Int} {κ:Bool→Prop} (h:κ (decide (lo≤n∧n≤hi))):uZ n lo hi κ:=by
 unfold uZ jnW
 refine zn (fun hc=>?_) (fun hc=>?_)
 ·simp at hc;simpa [hc] using h
 ·simp at hc
  have:decide (lo≤n∧n≤hi)=false:=by simp;omega
  rw [this] at h;exact h
end
section
open Go.Lib (decDigits)
theorem RdP.step {b:List UInt8} {p p':Int} {m:Int} (h:RdP b p) (h1:p≤p') (h2:p'≤1000000):RdP b p':=⟨h.1,by have:=h.2.1;omega,h2⟩
end
section
open Go.Lib (decDigits)
def top (f:Int):Int:=if f=0∨f=1 then 65535 else if f=2 then 255 else 7
theorem VW (f:Int):7≤top f∧top f≤65535:=by unfold top;repeat' split;all_goals omega
def nm (f:Int):List UInt8:=if f=0 then [102,114,111,109] else if f=1 then [116,111] else if f=2 then [112,111,114,116] else [112,114,111,116,111]
def TV (t:jH):Prop:=0≤t.xField∧t.xField≤3∧0≤t.xLo∧t.xLo≤t.xHi∧t.xHi≤top t.xField
instance (t:jH):Decidable (TV t):=by unfold TV;infer_instance
def rtx (t:jH):List UInt8:=decDigits t.xLo.toNat++(if t.xHi=t.xLo then [] else 45 :: decDigits t.xHi.toNat)
def btx (t:jH):List UInt8:=nm t.xField++32 :: rtx t
def ttx (t:jH):List UInt8:=if t.xNot then 110 :: 111 :: 116 :: 32 :: btx t else btx t
theorem zcP {f:Int} (h0:0≤f) (h1:f≤3):f=0∨f=1∨f=2∨f=3:=by omega
theorem ziP {n:Int} {κ:Y1→Prop} (h0:0≤n) (h1:n≤3) (h:∀ e:Y1,e.xName=B (nm n)→e.xTop=top n→κ e):zK zI n κ:=by
 rcases zcP h0 h1 with rfl | rfl | rfl | rfl
 ·exact zp 0 rfl (by decide) (h _ rfl rfl)
 ·exact zp 1 rfl (by decide) (h _ rfl rfl)
 ·exact zp 2 rfl (by decide) (h _ rfl rfl)
 ·exact zp 3 rfl (by decide) (h _ rfl rfl)
theorem xA {n:Int} {κ:Int→Prop} (h0:0≤n) (h1:n≤3) (h:κ (top n)):x9 n κ:=by
 unfold x9 jnW
 rcases zcP h0 h1 with rfl | rfl | rfl | rfl <;> simpa [top] using h
theorem Vu {n:Int} {κ:Int→Prop} (h:κ (if 0≤n∧n≤3 then top n else -1)):zC n κ:=by
 unfold zC jnW
 refine zn (fun hc=>?_) (fun hc=>zn (fun hc2=>?_) (fun hc2=>?_))
 ·simp at hc;rw [if_neg (by omega)] at h;simpa using h
 ·simp at hc hc2;rw [if_neg (by omega)] at h;exact h
 ·simp at hc hc2;rw [if_pos (by omega)] at h
  exact ziP (by omega) (by omega) (fun e _ he=>by rw [he];exact h)
theorem U0 {t:jH} {κ:Bool→Prop} (h:κ (decide (TV t))):Zn t κ:=by
 unfold Zn jnW
 refine VP (zn (fun hc=>?_) (fun hc=>?_))
 ·simp at hc
  refine VP (zn (fun hc2=>?_) (fun hc2=>?_))
  ·simp at hc2
   refine xA hc.1 hc.2 ?_
   rw [show decide (t.xHi≤top t.xField)=decide (TV t) from decide_eq_decide.2 ⟨fun hh=>⟨hc.1,hc.2,hc2.1,hc2.2,hh⟩,fun hh=>hh.2.2.2.2⟩]
   exact h
  ·simp at hc2
   rw [decide_eq_false (fun hh:TV t=>by obtain ⟨a1,a2,a3,a4,_⟩:=hh;omega)] at h;exact h
 ·simp at hc
  rw [decide_eq_false (fun hh:TV t=>by obtain ⟨a1,a2,a3,a4,_⟩:=hh;omega)] at h;exact h
theorem zbC {t:jH} {κ:Bool→Prop} (h:κ (decide (TV t))):Xo t κ:=by
 unfold Xo jnW
 have no:¬ (0≤t.xField∧t.xField<4∧0≤t.xLo∧t.xLo≤t.xHi)→κ false:=fun hn=>by
  rw [decide_eq_false (fun hh:TV t=>by obtain ⟨a1,a2,a3,a4,_⟩:=hh;omega)] at h;exact h
 refine zn (fun hc=>zn (fun hc2=>zn (fun hc3=>zn (fun hc4=>?_) (fun hc4=>no (by simp at hc4;omega))) (fun hc3=>no (by simp at hc3;omega))) (fun hc2=>no (by simp at hc2;omega))) (fun hc=>no (by simp at hc;omega))
 simp at hc hc2 hc3 hc4
 refine Vu ?_
 rw [if_pos ⟨hc,by omega⟩]
 rw [show decide (t.xHi≤top t.xField)=decide (TV t) from decide_eq_decide.2 ⟨fun hh=>⟨hc,by omega,hc3,hc4,hh⟩,fun hh=>hh.2.2.2.2⟩]
 exact h
end
section
open Go Go.Proofs
def Zy (a b:List ze):Int×Bool :=
 match zU a b with
 | []=>(0,false)
 | s :: _=>(s.xLo,true)
theorem zg7 {a b:List ze} (ha:NF a) (hb:NF b) {v:Int} (h1:hv a v) (h2:hv b v) (h3:∀ x,hv a x→hv b x→v≤x):Zy a b=(v,true):=by
 have hm:=zbm ha hb
 unfold Zy
 have hv0:=(Ug a b v).2 ⟨h1,h2⟩
 have hall:∀ x,hv (zU a b) x→v≤x:=fun x hx=>by
  obtain ⟨e1,e2⟩:=(Ug a b x).1 hx
  exact h3 x e1 e2
 generalize zU a b=m at hm hv0 hall
 cases m with
 | nil=>exact absurd hv0 (yv v)
 | cons s m =>
  have e1:=hall s.xLo ((xC _ _ _).2 (.inl ⟨Int.le_refl _,hm.1 s (by simp)⟩))
  have e2:=za2 hm hv0
  simp only [Prod.mk.injEq,and_true]
  omega
theorem zfb {a b:List ze} (h:∀ x,hv a x→hv b x→False) (ha:NF a) (hb:NF b):Zy a b=(0,false):=by
 unfold Zy
 have hm:=zbm ha hb
 have hall:∀ x,¬ hv (zU a b) x:=fun x hx=>by
  obtain ⟨e1,e2⟩:=(Ug a b x).1 hx
  exact h x e1 e2
 generalize zU a b=m at hm hall
 cases m with
 | nil=>rfl
 | cons s m=>exact absurd ((xC s m s.xLo).2 (.inl ⟨Int.le_refl _,hm.1 s (by simp)⟩)) (hall _)
theorem zgj {a:List ze} {i:Nat} (h:i<a.length) (x:Int):hv (a.drop i) x↔(a[i].xLo≤x∧x≤a[i].xHi)∨hv (a.drop (i+1)) x:=by
 rw [List.drop_eq_getElem_cons h,xC]
theorem V7 {a:List ze} {i:Nat} (hn:NF a) (h:i<a.length) {x:Int} (hx:hv (a.drop i) x):a[i].xLo≤x:=by
 have:=zaR i hn
 rw [List.drop_eq_getElem_cons h] at this hx
 exact za2 this hx
theorem YR {a b:List ze} {ta tb:Int} (ha:St a ta) (hb:St b tb) (h0:0≤ta) (ht:ta≤65535) (h1:0≤tb) (hu:tb≤65535) {κ:Int×Bool→Prop} (h:κ (Zy a b)):uB a b κ:=by
 have la:=Ui ha (by omega)
 have lb:=Ui hb (by omega)
 unfold uB
 refine ZK (fun (s:Int×Int)=>∃ i j:Nat,s.1=i∧s.2=j∧i≤a.length∧j≤b.length∧∀ x,hv a x→hv b x→hv (a.drop i) x∧hv (b.drop j) x) (fun s=>(a.length+b.length - s.1 - s.2).toNat) ?_ ⟨0,0,rfl,rfl,Nat.zero_le _,Nat.zero_le _,fun x q1 q2=>⟨by simpa using q1,by simpa using q2⟩⟩
 rintro ⟨_,_⟩ next ⟨i,j,rfl,rfl,hi,hj,hx⟩ hn
 simp only at hn ⊢
 unfold jnW
 have none:(i=a.length∨j=b.length)→κ (0,false):=fun hh=>by
  rw [zfb (fun x q1 q2=>?_) ha.1 hb.1] at h
  ·exact h
  ·obtain ⟨r1,r2⟩:=hx x q1 q2
   rcases hh with e | e
   ·subst e;rw [List.drop_length] at r1;exact yv x r1
   ·subst e;rw [List.drop_length] at r2;exact yv x r2
 refine zn (fun hc=>?_) (fun hc=>?_)
 rotate_left 1
 ·have:a.length≤i:=by simpa using hc
  exact ju (none (.inl (by omega)))
 have hi2:i<a.length:=by simpa using hc
 refine zn (fun hd=>?_) (fun hd=>?_)
 rotate_left 1
 ·have:b.length≤j:=by simpa using hd
  exact none (.inr (by omega))
 have hj2:j<b.length:=by simpa using hd
 have a1:=ha.1.1 _ (List.getElem_mem hi2)
 have b1:=hb.1.1 _ (List.getElem_mem hj2)
 have ma:hv a a[i].xLo∧hv a a[i].xHi:=Uv ha.1 (List.getElem_mem hi2)
 have mb:hv b b[j].xLo∧hv b b[j].xHi:=Uv hb.1 (List.getElem_mem hj2)
 refine zp i rfl hi2 (zp j rfl hj2 (zp i rfl hi2 (zp j rfl hj2 (zn (fun he=>?_) (fun he=>?_)))))
 ·have he':max a[i].xLo b[j].xLo≤min a[i].xHi b[j].xHi:=by simpa using he
  rw [zg7 ha.1 hb.1 (v:=max a[i].xLo b[j].xLo) ⟨a[i],List.getElem_mem hi2,by omega,by omega⟩ ⟨b[j],List.getElem_mem hj2,by omega,by omega⟩ (fun x q1 q2=>?_)] at h
  ·exact h
  ·obtain ⟨r1,r2⟩:=hx x q1 q2
   have:=V7 ha.1 hi2 r1
   have:=V7 hb.1 hj2 r2
   omega
 ·have he':¬ max a[i].xLo b[j].xLo≤min a[i].xHi b[j].xHi:=by simpa using he
  refine zp i rfl hi2 (zp j rfl hj2 (zn (fun hf=>?_) (fun hf=>?_)))
  ·have hf':a[i].xHi<b[j].xHi:=by simpa using hf
   refine zz (by omega) (by omega) (hn _ ⟨i+1,j,by simp,rfl,by omega,hj,fun x q1 q2=>?_⟩ (by simp only;omega))
   obtain ⟨r1,r2⟩:=hx x q1 q2
   refine ⟨?_,r2⟩
   rcases (zgj hi2 x).1 r1 with e | e
   ·have:=V7 hb.1 hj2 r2;omega
   ·exact e
  ·have hf':¬ a[i].xHi<b[j].xHi:=by simpa using hf
   refine zz (by omega) (by omega) (hn _ ⟨i,j+1,rfl,by simp,hi,by omega,fun x q1 q2=>?_⟩ (by simp only;omega))
   obtain ⟨r1,r2⟩:=hx x q1 q2
   refine ⟨r1,?_⟩
   rcases (zgj hj2 x).1 r2 with e | e
   ·have:=V7 ha.1 hi2 r1;omega
   ·exact e
def B4 (a:za):Prop:=St a.x0 65535∧St a.x1 65535∧St a.x2 255∧St a.x3 7
def F4 (a:za):Prop:=a.x0.length≤40∧a.x1.length≤40∧a.x2.length≤40∧a.x3.length≤40
instance (a:za):Decidable (F4 a):=by unfold F4;infer_instance
def za4:za:=⟨[],[],[],[]⟩
def xl (a b:za):za:=⟨zU a.x0 b.x0,zU a.x1 b.x1,zU a.x2 b.x2,zU a.x3 b.x3⟩
theorem zcV {a b:za} (ha:B4 a) (hb:B4 b):B4 (xl a b):=⟨ZD ha.1 hb.1.1,ZD ha.2.1 hb.2.1.1,ZD ha.2.2.1 hb.2.2.1.1,ZD ha.2.2.2 hb.2.2.2.1⟩
def em4 (a:za):Bool:=decide (a.x0=[]∨a.x1=[]∨a.x2=[]∨a.x3=[])
def zfS (a:za):za×Bool:=if F4 a then (a,true) else (za4,false)
def UO:za:=⟨[⟨0,65535⟩],[⟨0,65535⟩],[⟨0,255⟩],[⟨0,7⟩]⟩
theorem zcw:B4 UO:=by refine ⟨?_,?_,?_,?_⟩ <;> exact ⟨Uo (by decide),fun s hs=>by simp only [UO,List.mem_singleton] at hs;subst hs;decide⟩
theorem zcW {a:za} {κ:Bool→Prop} (h:κ (em4 a)):uT a κ:=by
 obtain ⟨x0,x1,x2,x3⟩:=a
 simp only [em4] at h
 unfold uT
 refine ⟨5,?_⟩
 refine z7 (zp 0 rfl (by simp) (zn (fun e=>?_) (fun e=>zz (by decide) (by decide) ?_)))
 ·have:x0=[]:=by simpa using e
  subst this;simpa using h
 have e0:x0≠[]:=by simpa using e
 refine z7 (zp 1 rfl (by simp) (zn (fun e=>?_) (fun e=>zz (by decide) (by decide) ?_)))
 ·have:x1=[]:=by simpa using e
  subst this;simpa using h
 have e1:x1≠[]:=by simpa using e
 refine z7 (zp 2 rfl (by simp) (zn (fun e=>?_) (fun e=>zz (by decide) (by decide) ?_)))
 ·have:x2=[]:=by simpa using e
  subst this;simpa using h
 have e2:x2≠[]:=by simpa using e
 refine z7 (zp 3 rfl (by simp) (zn (fun e=>?_) (fun e=>zz (by decide) (by decide) ?_)))
 ·have:x3=[]:=by simpa using e
  subst this;simpa using h
 have e3:x3≠[]:=by simpa using e
 refine ju ?_
 simpa [e0,e1,e2,e3] using h
theorem zkX:top 0=65535:=rfl
theorem zkW:top 1=65535:=rfl
theorem zky:top 2=255:=rfl
theorem zkF:top 3=7:=rfl
theorem yX {n:Int} {κ:Int→Prop} (h0:0≤n) (h1:n≤3) (h:κ (top n)):zC n κ:=Vu (by rw [if_pos ⟨h0,h1⟩];exact h)
theorem zgA {a b:za} (ha:B4 a) (hb:B4 b) {κ:za×Bool→Prop} (h:κ (zfS (xl a b))):yc a b κ:=by
 obtain ⟨a0,a1,a2,a3⟩:=a
 obtain ⟨b0,b1,b2,b3⟩:=b
 obtain ⟨p0,p1,p2,p3⟩:=ha
 obtain ⟨q0,q1,q2,q3⟩:=hb
 simp only at p0 p1 p2 p3 q0 q1 q2 q3
 have hT:(zU a0 b0).length≤40→(zU a1 b1).length≤40→(zU a2 b2).length≤40→(zU a3 b3).length≤40→κ (⟨zU a0 b0,zU a1 b1,zU a2 b2,zU a3 b3⟩,true):=fun e0 e1 e2 e3=>by
  have:zfS (xl ⟨a0,a1,a2,a3⟩ ⟨b0,b1,b2,b3⟩)=(xl ⟨a0,a1,a2,a3⟩ ⟨b0,b1,b2,b3⟩,true):=if_pos ⟨e0,e1,e2,e3⟩
  rw [this] at h;exact h
 have hF:¬ ((zU a0 b0).length≤40∧(zU a1 b1).length≤40∧(zU a2 b2).length≤40∧(zU a3 b3).length≤40)→κ (za4,false):=fun e=>by
  have:zfS (xl ⟨a0,a1,a2,a3⟩ ⟨b0,b1,b2,b3⟩)=(za4,false):=if_neg e
  rw [this] at h;exact h
 clear h
 unfold yc
 refine ⟨5,?_⟩
 refine z7 ?_
 unfold jnW
 refine zp 0 rfl (by simp) (zp 0 rfl (by simp) (yX (n:=(0:Int)) (by decide) (by decide) (Ya (top:=top 0) p0 q0 (by decide) (by decide) ?_)))
 unfold lim
 by_cases c0:40<(zU a0 b0).length
 ·simp only [List.getElem_cons_zero,c0,if_true]
  exact z7 (hF (by omega))
 simp only [List.getElem_cons_zero,c0,if_false]
 refine ju (zp 0 rfl (by simp) (zz (by decide) (by decide) ?_))
 refine z7 ?_
 refine zp 1 rfl (by simp) (zp 1 rfl (by simp) (yX (n:=(1:Int)) (by decide) (by decide) (Ya (top:=top 1) p1 q1 (by decide) (by decide) ?_)))
 unfold lim
 by_cases c1:40<(zU a1 b1).length
 ·simp only [List.getElem_cons_zero,List.getElem_cons_succ,c1,if_true]
  exact z7 (hF (by omega))
 simp only [List.getElem_cons_zero,List.getElem_cons_succ,c1,if_false]
 refine ju (zp 1 rfl (by simp) (zz (by decide) (by decide) ?_))
 refine z7 ?_
 refine zp 2 rfl (by simp) (zp 2 rfl (by simp) (yX (n:=(2:Int)) (by decide) (by decide) (Ya (top:=top 2) p2 q2 (by decide) (by decide) ?_)))
 unfold lim
 by_cases c2:40<(zU a2 b2).length
 ·simp only [List.getElem_cons_zero,List.getElem_cons_succ,c2,if_true]
  exact z7 (hF (by omega))
 simp only [List.getElem_cons_zero,List.getElem_cons_succ,c2,if_false]
 refine ju (zp 2 rfl (by simp) (zz (by decide) (by decide) ?_))
 refine z7 ?_
 refine zp 3 rfl (by simp) (zp 3 rfl (by simp) (yX (n:=(3:Int)) (by decide) (by decide) (Ya (top:=top 3) p3 q3 (by decide) (by decide) ?_)))
 unfold lim
 by_cases c3:40<(zU a3 b3).length
 ·simp only [List.getElem_cons_zero,List.getElem_cons_succ,c3,if_true]
  exact z7 (hF (by omega))
 simp only [List.getElem_cons_zero,List.getElem_cons_succ,c3,if_false]
 refine ju (zp 3 rfl (by simp) (zz (by decide) (by decide) ?_))
 refine ju ?_
 exact ⟨_,_,_,_,rfl,hT (by omega) (by omega) (by omega) (by omega)⟩
end
section
open Go.Lib (decDigits)
def zkG (r:List UInt8):Prop:=∀ c m,r=c :: m→c=44
theorem zkG.dg {r:List UInt8} (h:zkG r):∀ c m,r=c :: m→dg c=false:=fun c m e=>by rw [h c m e];decide
end
section
open Go.Lib (decDigits)
theorem zg4 {p q:jH} {κ:Bool→Prop} (h:κ (decide (p=q))):XI p q κ:=by
 unfold XI
 by_cases e:p=q
 ·subst e;simpa using h
 ·rw [decide_eq_false e] at h
  refine zn (fun _=>h) (fun h1=>zn (fun _=>h) (fun h2=>zn (fun _=>h) (fun h3=>zn (fun _=>h) (fun h4=>?_))))
  exfalso;apply e
  cases p;cases q;simp_all
end
section
open Go.Lib (decDigits)
def aw (a:Int):List UInt8:=if a=1 then [97,99,99,101,112,116] else if a=2 then [100,114,111,112] else if a=3 then [99,97,108,108] else if a=4 then [114,101,116,117,114,110] else [110,111,110,101]
def TsV (ts:List jH):Prop:=(∀ t,t∈ts→TV t)∧ts.length≤6
instance (ts:List jH):Decidable (TsV ts):=by unfold TsV;infer_instance
def HV (a c:Int):Prop:=1≤a∧a≤5∧(a=3→0≤c∧c≤4)∧(a≠3→c=0)
instance (a c:Int):Decidable (HV a c):=by unfold HV;infer_instance
def RV (r:zG):Prop:=TsV r.xTests∧HV r.xAction r.xChain
instance (r:zG):Decidable (RV r):=by unfold RV;infer_instance
def hd (a c:Int):List UInt8:=aw a++(if a=3 then 32 :: decDigits c.toNat else [])
def tl (ts:List jH):List UInt8:=ts.flatMap (fun t=>44 :: 32 :: ttx t)
theorem UE {ts:List jH} {κ:Bool→Prop} (hl:ts.length≤4294967296) (h:κ (decide (TsV ts))):yR ts κ:=by
 unfold yR
 refine zQ ts.length (fun s=>s) (fun k s=>s=(k:Int)∧k≤ts.length∧∀ t,t∈ts.take k→TV t) (fun k s h=>h.1) (fun k s h=>h.2.1) ?_ ⟨rfl,Nat.zero_le _,by simp⟩
 rintro k _ next ⟨rfl,hk,he⟩ hn
 refine zn (fun hc=>?_) (fun hc=>?_)
 ·have hlt:k<ts.length:=by simpa using hc
  refine zp k rfl hlt (U0 (zn (fun hc2=>?_) (fun hc2=>?_)))
  ·simp at hc2
   rw [decide_eq_false (fun hh:TsV ts=>hc2 (hh.1 _ (List.getElem_mem hlt)))] at h;exact h
  ·simp at hc2
   refine zz (by omega) (by omega) (hn hlt _ ⟨by omega,by omega,fun t ht=>?_⟩)
   rw [List.take_succ_eq_append_getElem hlt] at ht
   rcases List.mem_append.1 ht with ht | ht
   ·exact he t ht
   ·rw [List.mem_singleton] at ht;subst ht;exact hc2
 ·have hge:ts.length≤k:=by simpa using hc
  rw [List.take_of_length_le hge] at he
  rw [show decide ((ts.length:Int)≤6)=decide (TsV ts) from decide_eq_decide.2 ⟨fun hh=>⟨he,by omega⟩,fun hh=>by have:=hh.2;omega⟩]
  exact h
theorem zaP {ts:List jH} {κ:Bool→Prop} (hl:ts.length≤4294967296) (h:κ (decide (TsV ts))):ZY ts κ:=by
 unfold ZY
 refine zn (fun hc=>?_) (fun hc=>?_)
 ·rw [decide_eq_false (fun hh:TsV ts=>by have:=hh.2;simp at hc;omega)] at h;exact h
 simp at hc
 refine zQ ts.length (fun s=>s) (fun k s=>s=(k:Int)∧k≤ts.length∧∀ t,t∈ts.take k→TV t) (fun k s h=>h.1) (fun k s h=>h.2.1) ?_ ⟨rfl,Nat.zero_le _,by simp⟩
 rintro k _ next ⟨rfl,hk,he⟩ hn
 refine zn (fun hc=>?_) (fun hc=>?_)
 ·have hlt:k<ts.length:=by simpa using hc
  refine zp k rfl hlt (zbC (zn (fun hc2=>?_) (fun hc2=>?_)))
  ·simp at hc2
   rw [decide_eq_false (fun hh:TsV ts=>hc2 (hh.1 _ (List.getElem_mem hlt)))] at h;exact h
  ·simp at hc2
   refine zz (by omega) (by omega) (hn hlt _ ⟨by omega,by omega,fun t ht=>?_⟩)
   rw [List.take_succ_eq_append_getElem hlt] at ht
   rcases List.mem_append.1 ht with ht | ht
   ·exact he t ht
   ·rw [List.mem_singleton] at ht;subst ht;exact hc2
 ·have hge:ts.length≤k:=by simpa using hc
  rw [List.take_of_length_le hge] at he
  rw [show decide (TsV ts)=true from decide_eq_true ⟨he,by omega⟩] at h;exact h
theorem zb0 {r:zG} {κ:Bool→Prop} (hl:r.xTests.length≤4294967296) (h:κ (decide (RV r))):Xw r κ:=by
 have no:¬ RV r→κ false:=fun hn=>by rw [decide_eq_false hn] at h;exact h
 unfold Xw jnW
 refine UE hl (zn (fun h1=>?_) (fun h1=>no (fun hh=>by simp [hh.1] at h1)))
 simp at h1
 refine VP (zn (fun h2=>?_) (fun h2=>no (fun hh=>by simp [hh.2.1,hh.2.2.1] at h2)))
 simp at h2
 refine zn (fun h3=>?_) (fun h3=>?_)
 ·simp at h3
  refine VP (zn (fun h4=>?_) (fun h4=>?_))
  ·simp at h4
   rw [show decide (RV r)=true from decide_eq_true ⟨h1,h2.1,h2.2,fun _=>h4,fun e=>absurd h3 e⟩] at h;exact h
  ·simp at h4
   simp only [h3,decide_true,Bool.not_true,YL]
   exact no (fun hh=>by have:=hh.2.2.2.1 h3;omega)
 ·simp at h3
  simp only [h3,decide_false,Bool.not_false,YZ]
  rw [show decide (r.xChain=0)=decide (RV r) from decide_eq_decide.2 ⟨fun hh=>⟨h1,h2.1,h2.2,fun e=>absurd e h3,fun _=>hh⟩,fun hh=>hh.2.2.2.2 h3⟩]
  exact h
theorem zbH {r:zG} {κ:Bool→Prop} (hl:r.xTests.length≤4294967296) (h:κ (decide (RV r))):Xn r κ:=by
 have no:¬ RV r→κ false:=fun hn=>by rw [decide_eq_false hn] at h;exact h
 unfold Xn jnW
 refine zaP hl (zn (fun h1=>no (fun hh=>by simp [hh.1] at h1)) (fun h1=>?_))
 simp at h1
 refine zn (fun h3=>?_) (fun h3=>?_)
 ·simp at h3
  refine zn (fun h4=>?_) (fun h4=>no (fun hh=>by have:=hh.2.2.2.1 h3;simp at h4;omega))
  simp at h4
  rw [show decide (r.xChain<5)=decide (RV r) from decide_eq_decide.2 ⟨fun hh=>⟨h1,by omega,by omega,fun _=>⟨h4,by omega⟩,fun e=>absurd h3 e⟩,fun hh=>by have:=hh.2.2.2.1 h3;omega⟩]
  exact h
 ·simp at h3
  have yes:1≤r.xAction→r.xAction≤5→κ (decide (r.xChain=0)):=fun a1 a2=>by
   rw [show decide (r.xChain=0)=decide (RV r) from decide_eq_decide.2 ⟨fun hh=>⟨h1,a1,a2,fun e=>absurd e h3,fun _=>hh⟩,fun hh=>hh.2.2.2.2 h3⟩]
   exact h
  by_cases e1:r.xAction=1
  ·simp only [e1,decide_true,YZ];exact yes (by omega) (by omega)
  by_cases e2:r.xAction=2
  ·simp only [e2,decide_true,YZ];exact zn (fun e=>by simp at e) (fun _=>yes (by omega) (by omega))
  by_cases e4:r.xAction=4
  ·simp only [e4,decide_true,YZ]
   exact zn (fun e=>by simp at e) (fun _=>zn (fun e=>by simp at e) (fun _=>yes (by omega) (by omega)))
  by_cases e5:r.xAction=5
  ·simp only [e5,decide_true,YZ]
   exact zn (fun e=>by simp at e) (fun _=>zn (fun e=>by simp at e) (fun _=>zn (fun e=>by simp at e) (fun _=>yes (by omega) (by omega))))
  simp only [e1,e2,e4,e5,decide_false,YL]
  exact no (fun hh=>by have:=hh.2.1;have:=hh.2.2.1;omega)
end
section
open Go.Lib (decDigits)
theorem zeS {a:List jH} {κ:Bool→Prop} (hl:a.length≤4294967296) (h:κ true):Ys a a κ:=by
 unfold Ys
 refine zn (fun hc=>by simp at hc) (fun _=>?_)
 refine zeV a a rfl hl (fun x y A=>XI x y (fun r11=>ifW (!r11) (κ false) A)) (fun x y A h1 h2=>zg4 ?_) (by simpa using h) _ (fun nx t hh=>hh)
 by_cases e:x=y
 ·rw [decide_eq_true e];simp only [Bool.not_true,YL];exact h1 e
 ·rw [decide_eq_false e];simp only [Bool.not_false,YZ];exact h2 e
theorem ze6 {r:zG} {κ:Bool→Prop} (hl:r.xTests.length≤4294967296) (h:κ true):YT r r κ:=by
 unfold YT
 refine zeS hl ?_
 simpa using h
theorem zf4 {a:List jH} {κ:List jH→Prop} (hl:a.length≤4294967296) (h:κ a):Yd a κ:=by
 unfold Yd UG
 refine Vc a.length rfl (by omega) (by omega) (zbM a id hl (fun x ψ=>ψ x) (fun x ψ _ hh=>hh) (by simpa using h) (by simp) _ (fun nx xs t hh=>hh))
theorem zhb {r:zG} {κ:zG→Prop} (hl:r.xTests.length≤4294967296) (h:κ r):XK r κ:=by
 unfold XK
 exact zf4 hl h
end
section
def Ca (cs:List (List zG)) (i j:Nat):Prop:=∃ c,cs[i]?=some c∧∃ r,r∈c∧r.xAction=3∧r.xChain=(j:Int)
def Sf (cs:List (List zG)) (i:Nat):Prop:=Acc (fun j i=>Ca cs i j) i
theorem zhG {cs:List (List zG)} {i:Nat} (h:∀ j,Ca cs i j→Sf cs j):Sf cs i:=Acc.intro _ h
inductive Wy (cs:List (List zG)):Nat→Nat→Prop
 | one {i j:Nat}:Ca cs i j→Wy cs i j
 | more {i j k:Nat}:Wy cs i j→Ca cs j k→Wy cs i k
theorem zh2 {cs:List (List zG)} {i k:Nat} (w:Wy cs i k):∃ j,Ca cs i j∧(j=k∨Wy cs j k):=by
 induction w with
 | one h=>exact ⟨_,h,.inl rfl⟩
 | more _ h ih =>
  obtain ⟨j,h1,h2⟩:=ih
  rcases h2 with rfl | h2
  ·exact ⟨_,h1,.inr (.one h)⟩
  ·exact ⟨_,h1,.inr (.more h2 h)⟩
theorem zgE {cs:List (List zG)} {i:Nat} (hs:Sf cs i):¬ Wy cs i i:=by
 induction hs with
 | intro x _ ih =>
  intro w
  obtain ⟨j,h1,h2⟩:=zh2 w
  rcases h2 with rfl | h2
  ·exact ih _ h1 w
  ·exact ih j h1 (.more h2 h1)
def Tg (cs:List (List zG)):Prop:=cs.length≤5∧∀ c,c∈cs→(c.length≤8∧∀ r,r∈c→RV r∧r.xChain<cs.length)
def Tw (cs:List (List zG)):Prop:=cs.length≤5∧∀ c,c∈cs→(c.length≤8∧∀ r,r∈c→RV r)
theorem Tg.w {cs:List (List zG)} (h:Tg cs):Tw cs:=⟨h.1,fun c hc=>⟨(h.2 c hc).1,fun r hr=>((h.2 c hc).2 r hr).1⟩⟩
theorem zjS {cs:List (List zG)} {j:Nat} (h:cs.length≤j):Sf cs j:=zhG (fun i ⟨c,h1,_⟩=>by have:=(List.getElem?_eq_some_iff.1 h1).1;omega)
theorem zd1 {rules:List zG} {κ:List Int→Prop} (hl:rules.length≤8) (hv:∀ r,r∈rules→RV r) (h:∀ ys:List Int,ys.length≤5→(∀ x,x∈ys↔∃ r,r∈rules∧r.xAction=3∧r.xChain=x)→κ ys):Xh rules κ:=by
 unfold Xh
 refine zQ rules.length (fun s=>s.2) (fun k s=>s.2=(k:Int)∧k≤rules.length∧s.1.length=5∧∀ i:Nat,i<5→(s.1[i]?=some true↔∃ r,r∈rules.take k∧r.xAction=3∧r.xChain=(i:Int))) (fun k s h=>h.1) (fun k s h=>h.2.1) ?_ ⟨rfl,Nat.zero_le _,rfl,fun i hi=>?_⟩
 ·rintro k ⟨xs,_⟩ next ⟨rfl,hk,hx,he⟩ hn
  simp only at hx he
  refine zn (fun hc=>?_) (fun hc=>?_)
  ·have hlt:k<rules.length:=by simpa using hc
   have hrv:=hv _ (List.getElem_mem hlt)
   have htk:∀ r,r∈rules.take (k+1)↔r∈rules.take k∨r=rules[k]:=fun r=>by
    rw [List.take_succ_eq_append_getElem hlt,List.mem_append,List.mem_singleton]
   unfold jnW
   refine zp k rfl hlt (zn (fun h3=>?_) (fun h3=>?_))
   ·simp at h3
    have hch:=hrv.2.2.2.1 h3
    obtain ⟨m,hm⟩:=Int.eq_ofNat_of_zero_le hch.1
    refine zie hch.1 (by rw [hx];omega) (fun _ _=>zz (by omega) (by omega) (hn hlt _ ⟨by simp,by omega,by simpa using hx,fun i hi=>?_⟩))
    simp only [htk]
    rw [hm,Int.toNat_natCast]
    by_cases e:i=m
    ·subst e
     simp only [List.getElem?_set_self (show i<xs.length by omega),true_iff]
     exact ⟨_,.inr rfl,h3,hm⟩
    ·rw [List.getElem?_set_ne (by omega),he i hi]
     constructor
     ·rintro ⟨r,h1,h2⟩;exact ⟨r,.inl h1,h2⟩
     ·rintro ⟨r,h1 | rfl,h2,h4⟩
      ·exact ⟨r,h1,h2,h4⟩
      ·omega
   ·simp at h3
    refine zz (by omega) (by omega) (hn hlt _ ⟨by simp,by omega,hx,fun i hi=>?_⟩)
    simp only [htk]
    rw [he i hi]
    constructor
    ·rintro ⟨r,h1,h2⟩;exact ⟨r,.inl h1,h2⟩
    ·rintro ⟨r,h1 | rfl,h2,h4⟩
     ·exact ⟨r,h1,h2,h4⟩
     ·exact absurd h2 h3
  ·have hge:rules.length≤k:=by simpa using hc
   rw [List.take_of_length_le hge] at he
   obtain ⟨e0,e1,e2,e3,e4,rfl⟩:∃ a b c d e,xs=[a,b,c,d,e]:=by
    match xs,hx with
    | [a,b,c,d,e],_=>exact ⟨a,b,c,d,e,rfl⟩
   refine ⟨e0,e1,e2,e3,e4,rfl,?_⟩
   refine zQ 5 (fun s=>s.2) (fun j s=>s.2=(j:Int)∧j≤5∧s.1.length≤j∧∀ x,x∈s.1↔∃ i:Nat,i<j∧x=(i:Int)∧[e0,e1,e2,e3,e4][i]?=some true) (fun j s h=>h.1) (fun j s h=>h.2.1) ?_ ⟨rfl,Nat.zero_le _,by simp,by simp⟩
   rintro j ⟨ys,_⟩ next2 ⟨rfl,hj,hyl,hy⟩ hn2
   simp only at hyl hy
   refine zn (fun hc2=>?_) (fun hc2=>?_)
   ·have hj5:j<5:=by simp at hc2;omega
    have hjl:j<[e0,e1,e2,e3,e4].length:=by simpa using hj5
    unfold jnW
    refine zp j rfl hjl (zn (fun h3=>?_) (fun h3=>?_))
    ·refine jm (by simp;omega) (zz (by omega) (by omega) (hn2 hj5 _ ⟨by simp,by omega,by simp;omega,fun x=>?_⟩))
     simp only [List.mem_append,List.mem_singleton,hy]
     constructor
     ·rintro (⟨i,h1,h2,h4⟩ | rfl)
      ·exact ⟨i,by omega,h2,h4⟩
      ·exact ⟨j,by omega,rfl,by rw [List.getElem?_eq_getElem hjl,h3]⟩
     ·rintro ⟨i,h1,h2,h4⟩
      by_cases e:i=j
      ·subst e;exact .inr h2
      ·exact .inl ⟨i,by omega,h2,h4⟩
    ·refine zz (by omega) (by omega) (hn2 hj5 _ ⟨by simp,by omega,by simp only;omega,fun x=>?_⟩)
     simp only [hy]
     constructor
     ·rintro ⟨i,h1,h2,h4⟩;exact ⟨i,by omega,h2,h4⟩
     ·rintro ⟨i,h1,h2,h4⟩
      by_cases e:i=j
      ·subst e;rw [List.getElem?_eq_getElem hjl,h3] at h4;simp at h4
      ·exact ⟨i,by omega,h2,h4⟩
   ·have hj5:j=5:=by simp at hc2;omega
    subst hj5
    refine h ys hyl (fun x=>?_)
    rw [hy]
    constructor
    ·rintro ⟨i,h1,rfl,h4⟩;exact (he i h1).1 h4
    ·rintro ⟨r,h1,h2,rfl⟩
     have hch:=(hv r h1).2.2.2.1 h2
     obtain ⟨m,hm⟩:=Int.eq_ofNat_of_zero_le hch.1
     exact ⟨m,by omega,hm,(he m (by omega)).2 ⟨r,h1,h2,hm⟩⟩
 ·constructor
  ·intro hh
   have:i=0∨i=1∨i=2∨i=3∨i=4:=by omega
   rcases this with rfl | rfl | rfl | rfl | rfl <;> simp at hh
  ·rintro ⟨r,h1,_⟩;simp at h1
def Co (cols:List Int):Prop:=cols.length=5∧∀ x,x∈cols→x=0∨x=1∨x=2
theorem zho {cols:List Int} {i:Nat} {v:Int} (h:Co cols) (hv:v=0∨v=1∨v=2):Co (cols.set i v):=⟨by rw [List.length_set];exact h.1,fun x hx=>by
 rcases List.mem_or_eq_of_mem_set hx with hx | rfl
 ·exact h.2 x hx
 ·exact hv⟩
structure Vi (cs:List (List zG)) (c:Nat) (cols:List Int) (ok:Bool) (cols':List Int):Prop where
 co:Co cols'
 black:∀ i:Nat,cols[i]?=some 2→cols'[i]?=some 2
 grey:∀ i:Nat,cols'[i]?=some 1↔cols[i]?=some 1
 white:cols'.count 0≤cols.count 0
 good:ok=true→(∀ i:Nat,cols[i]?=some 2→Sf cs i)→(∀ i:Nat,cols'[i]?=some 2→Sf cs i)∧(c<cs.length→cols'[c]?=some 2)
 bad:ok=false→(∀ g:Nat,cols[g]?=some 1→Wy cs g c)→∃ i,i<cs.length∧¬ Sf cs i
theorem zhd {cols:List Int} (h:cols.length=5):cols.count 0≤5:=by have:=List.count_le_length (a:=(0:Int)) (l:=cols);omega
theorem zfG {cs:List (List zG)} (ht:Tw cs):∀ (n c:Nat) (cols:List Int) (κ:Bool×List Int→Prop),Co cols→cols.count 0<n →
  (∀ ok cols',Vi cs c cols ok cols'→κ (ok,cols'))→uF n cs (c:Int) cols κ
 | 0,c,cols,κ,hco,hw,h=>by omega
 | n+1,c,cols,κ,hco,hw,h=>by
  have hn5:=ht.1
  show ZZ (uF n) cs (c:Int) cols κ
  unfold ZZ
  refine zn (fun hx=>h _ _ ⟨hco,fun i hi=>hi,fun i=>Iff.rfl,Nat.le_refl _,fun _ hb=>⟨hb,fun hlt=>by simp at hx;omega⟩,fun e=>by cases e⟩) (fun hx=>?_)
  have hc:c<cs.length:=by simp at hx;omega
  have hcl:c<cols.length:=by rw [hco.1];omega
  refine zp c rfl hcl (zn (fun h1=>?_) (fun h1=>zn (fun h2=>?_) (fun h2=>?_)))
  ·have e1:cols[c]?=some 1:=by rw [List.getElem?_eq_getElem hcl];simpa using h1
   exact h _ _ ⟨hco,fun i hi=>hi,fun i=>Iff.rfl,Nat.le_refl _,fun e=>(by cases e),fun _ hg=>⟨c,hc,fun hs=>zgE hs (hg c e1)⟩⟩
  ·have e2:cols[c]?=some 2:=by rw [List.getElem?_eq_getElem hcl];simpa using h2
   exact h _ _ ⟨hco,fun i hi=>hi,fun i=>Iff.rfl,Nat.le_refl _,fun _ hb=>⟨hb,fun _=>e2⟩,fun e=>by cases e⟩
  ·have e0:cols[c]=0:=by
    have:=hco.2 _ (List.getElem_mem hcl)
    simp at h1 h2;omega
   have e0':cols[c]?=some 0:=by rw [List.getElem?_eq_getElem hcl,e0]
   have hcs:cs[c]?=some cs[c]:=List.getElem?_eq_getElem hc
   have hch:=ht.2 _ (List.getElem_mem hc)
   refine zp c rfl hcl (zp c rfl hc (zd1 hch.1 hch.2 (fun ys hyl hys=>?_)))
   have hca:∀ j:Nat,Ca cs c j↔(j:Int)∈ys:=fun j=>by
    rw [hys]
    constructor
    ·rintro ⟨c',h1,r,h2,h3⟩
     rw [hcs] at h1;cases h1
     exact ⟨r,h2,h3⟩
    ·rintro ⟨r,h2,h3⟩;exact ⟨_,hcs,r,h2,h3⟩
   have hcount:(cols.set c 1).count 0+1=cols.count 0:=by
    rw [List.count_set hcl]
    have:0<cols.count 0:=List.count_pos_iff.2 (by rw [← e0];exact List.getElem_mem hcl)
    simp [e0];omega
   have set1:∀ i:Nat,(cols.set c 1)[i]?=if i=c then some 1 else cols[i]?:=fun i=>by
    by_cases e:i=c
    ·subst e;simp [hcl]
    ·rw [List.getElem?_set_ne (by omega),if_neg e]
   refine zQ ys.length (fun s=>s.2.2) (fun k s=>s.2.2=(k:Int)∧k≤ys.length∧Co s.1∧(∀ i:Nat,cols[i]?=some 2→s.1[i]?=some 2)∧(∀ i:Nat,s.1[i]?=some 1↔(cols.set c 1)[i]?=some 1)∧s.1.count 0≤(cols.set c 1).count 0 ∧
    (s.2.1=true→(∀ i:Nat,cols[i]?=some 2→Sf cs i)→(∀ i:Nat,s.1[i]?=some 2→Sf cs i)∧∀ j:Nat,(j:Int)∈ys.take k→j<cs.length→s.1[j]?=some 2) ∧
    (s.2.1=false→(∀ g:Nat,cols[g]?=some 1→Wy cs g c)→∃ i,i<cs.length∧¬ Sf cs i)) (fun k s h=>h.1) (fun k s h=>h.2.1) ?_
    ⟨rfl,Nat.zero_le _,zho hco (by simp),fun i hi=>?_,fun i=>Iff.rfl,Nat.le_refl _,fun _ hb=>⟨fun i hi=>?_,by simp⟩,fun e=>by cases e⟩
   ·rintro k ⟨X,ok,_⟩ next ⟨rfl,hk,xco,xb,xg,xw,xgood,xbad⟩ hnx
    simp only at xco xb xg xw xgood xbad
    refine zn (fun hlt=>?_) (fun hlt=>?_)
    ·have hlt:k<ys.length:=by simpa using hlt
     obtain ⟨r,hr,hr3,hrc⟩:=(hys ys[k]).1 (List.getElem_mem hlt)
     have hrv:=hch.2 r hr
     have hcc:=hrv.2.2.2.1 hr3
     obtain ⟨j,hj⟩:=Int.eq_ofNat_of_zero_le hcc.1
     have ej:ys[k]=(j:Int):=by omega
     have hcj:Ca cs c j:=⟨_,hcs,r,hr,hr3,hj⟩
     unfold jnW
     refine zp k rfl hlt ?_
     rw [ej]
     refine zfG ht n j X _ xco (by omega) (fun ok' X' v=>?_)
     have fin:∀ o:Bool,(o=true→ok=true∧ok'=true)→(o=false→ok=false∨ok'=false)→jt (k:Int) 1 (fun t93=>next (X',o,t93)):=by
      intro o ho1 ho2
      refine zz (by omega) (by omega) (hnx hlt _ ⟨by simp,by omega,v.co,fun i hi=>v.black i (xb i hi),fun i=>(v.grey i).trans (xg i),Nat.le_trans v.white xw,fun e hb=>?_,fun e hg=>?_⟩)
      ·obtain ⟨g1,g2⟩:=ho1 e
       obtain ⟨q1,q2⟩:=xgood g1 hb
       obtain ⟨q3,q4⟩:=v.good g2 q1
       refine ⟨q3,fun i hi hil=>?_⟩
       rw [List.take_succ_eq_append_getElem hlt,List.mem_append,List.mem_singleton] at hi
       rcases hi with hi | hi
       ·exact v.black i (q2 i hi hil)
       ·have:i=j:=by omega
        subst this;exact q4 hil
      ·rcases ho2 e with e1 | e1
       ·exact xbad e1 hg
       ·refine v.bad e1 (fun g hgx=>?_)
        rw [xg,set1] at hgx
        by_cases e2:g=c
        ·subst e2;exact .one hcj
        ·rw [if_neg e2] at hgx;exact .more (hg g hgx) hcj
     refine zn (fun e=>fin false (fun e=>by cases e) (fun _=>.inr (by simpa using e))) (fun e=>fin ok (fun e1=>⟨e1,by simpa using e⟩) (fun e1=>.inl e1))
    ·have hge:ys.length≤k:=by simpa using hlt
     rw [List.take_of_length_le hge] at xgood
     have hxl:c<X.length:=by rw [xco.1];omega
     have set2:∀ i:Nat,(X.set c 2)[i]?=if i=c then some 2 else X[i]?:=fun i=>by
      by_cases e:i=c
      ·subst e;simp [hxl]
      ·rw [List.getElem?_set_ne (by omega),if_neg e]
     have xc1:X[c]?=some 1:=by rw [xg,set1,if_pos rfl]
     refine zp c rfl hxl ?_
     rw [Int.toNat_natCast]
     refine h _ _ ⟨zho xco (by simp),fun i hi=>?_,fun i=>?_,?_,fun e hb=>?_,fun e hg=>xbad e hg⟩
     ·rw [set2];split
      ·rfl
      ·exact xb i hi
     ·rw [set2]
      by_cases e:i=c
      ·subst e;rw [if_pos rfl,e0'];simp
      ·rw [if_neg e,xg,set1,if_neg e]
     ·rw [List.count_set hxl]
      have:X[c]=1:=by rw [List.getElem?_eq_getElem hxl] at xc1;exact Option.some.inj xc1
      simp [this];omega
     ·obtain ⟨q1,q2⟩:=xgood e hb
      have sc:Sf cs c:=zhG (fun j hj=>by
       by_cases hjl:j<cs.length
       ·exact q1 j (q2 j ((hca j).1 hj) hjl)
       ·exact zjS (by omega))
      refine ⟨fun i hi=>?_,fun _=>by rw [set2,if_pos rfl]⟩
      rw [set2] at hi
      by_cases e:i=c
      ·subst e;exact sc
      ·rw [if_neg e] at hi;exact q1 i hi
   ·show (cols.set c 1)[i]?=some 2
    rw [set1]
    by_cases e:i=c
    ·subst e;rw [e0'] at hi;simp at hi
    ·rw [if_neg e];exact hi
   ·change (cols.set c 1)[i]?=some 2 at hi
    rw [set1] at hi
    by_cases e:i=c
    ·subst e;simp at hi
    ·rw [if_neg e] at hi;exact hb i hi
theorem zg1 {cs:List (List zG)} {κ:Bool→Prop} (ht:Tw cs) (h1:(∀ i,i<cs.length→Sf cs i)→κ true) (h2:(¬ ∀ i,i<cs.length→Sf cs i)→κ false):Ym cs κ:=by
 unfold Ym
 have hn5:=ht.1
 refine zQ cs.length (fun s=>s.2) (fun k s=>s.2=(k:Int)∧k≤cs.length∧Co s.1∧(∀ i:Nat,s.1[i]?≠some 1)∧(∀ i:Nat,s.1[i]?=some 2→Sf cs i)∧(∀ i:Nat,i<k→s.1[i]?=some 2)) (fun k s h=>h.1) (fun k s h=>h.2.1) ?_ ⟨rfl,Nat.zero_le _,⟨rfl,by simp⟩,fun i=>?_,fun i hi=>?_,fun i hi=>by omega⟩
 ·rintro k ⟨X,_⟩ next ⟨rfl,hk,xco,xg,xs,xk⟩ hn
  simp only at xco xg xs xk
  refine zn (fun hc=>?_) (fun hc=>?_)
  ·have hlt:k<cs.length:=by simpa using hc
   refine ⟨6,zfG ht 6 k X _ xco (by have:=zhd xco.1;omega) (fun ok X' v=>?_)⟩
   refine zn (fun e=>h2 (fun hall=>?_)) (fun e=>zz (by omega) (by omega) (hn hlt _ ⟨by simp,by omega,v.co,fun i hi=>xg i ((v.grey i).1 hi),(v.good (by simpa using e) xs).1,fun i hi=>?_⟩))
   ·obtain ⟨i,hi,hns⟩:=v.bad (by simpa using e) (fun g hg=>absurd hg (xg g))
    exact hns (hall i hi)
   ·by_cases e2:i=k
    ·subst e2;exact (v.good (by simpa using e) xs).2 hlt
    ·exact v.black i (xk i (by omega))
  ·have hge:cs.length≤k:=by simpa using hc
   exact h1 (fun i hi=>xs i (xk i (by omega)))
 ·have:i=0∨i=1∨i=2∨i=3∨i=4∨5≤i:=by omega
  rcases this with rfl | rfl | rfl | rfl | rfl | h <;> simp
  rw [List.getElem?_eq_none (by simpa using h)];simp
 ·have:i=0∨i=1∨i=2∨i=3∨i=4∨5≤i:=by omega
  rcases this with rfl | rfl | rfl | rfl | rfl | h
  ·simp at hi
  ·simp at hi
  ·simp at hi
  ·simp at hi
  ·simp at hi
  ·rw [List.getElem?_eq_none (by simpa using h)] at hi;cases hi
end
section
def Rdy (cs:List (List zG)) (D:List Bool) (i:Nat):Prop:=∀ j,Ca cs i j→D[j]?=some true
theorem zkJ {cs:List (List zG)} (ht:Tg cs) {i j:Nat} (h:Ca cs i j):i<cs.length∧j<cs.length:=by
 obtain ⟨c,h1,r,h2,h3,h4⟩:=h
 have hm:=List.mem_of_getElem? h1
 have:=(ht.2 c hm).2 r h2
 exact ⟨(List.getElem?_eq_some_iff.1 h1).1,by have:=this.2;omega⟩
theorem zfh {cs:List (List zG)} (ht:Tg cs) {D:List Bool} (hst:∀ i,i<cs.length→Rdy cs D i→D[i]?=some true) {i:Nat} (hs:Sf cs i):i<cs.length→D[i]?=some true:=by
 induction hs with
 | intro x _ ih=>exact fun hx=>hst x hx (fun j hj=>ih j hj (zkJ ht hj).2)
theorem zhc {D:List Bool} (h:∀ i,i<D.length→D[i]?=some true):D.count true=D.length:=by
 rw [List.count_eq_length]
 intro b hb
 obtain ⟨i,hi⟩:=List.getElem?_of_mem hb
 have:=h i (List.getElem?_eq_some_iff.1 hi).1
 rw [hi] at this;exact (Option.some.inj this).symm
theorem zgN {D:List Bool} (h:D.count true=D.length) {i:Nat} (hi:i<D.length):D[i]?=some true:=by
 rw [List.getElem?_eq_getElem hi]
 exact congrArg some (List.count_eq_length.1 h _ (List.getElem_mem hi)).symm
theorem zgO {s:zM} {κ:List Int→Prop} (ht:Tg s.xChains) (h1:(∀ i,i<s.xChains.length→Sf s.xChains i)→∀ ys:List Int,ys.length=s.xChains.length→κ ys) (h2:(¬ ∀ i,i<s.xChains.length→Sf s.xChains i)→∀ ys:List Int,ys.length≠s.xChains.length→κ ys):YA s κ:=by
 have hn5:=ht.1
 generalize hcs:s.xChains=cs at *
 unfold YA
 rw [hcs]
 refine Vc cs.length rfl (by omega) (by omega) ?_
 refine zQ cs.length (fun s=>s.2.2) (fun k s=>s.2.2=(k:Int)∧k≤cs.length∧s.1.length=cs.length∧s.2.1.length=s.1.count true∧(∀ i:Nat,s.1[i]?=some true→Sf cs i)∧(k≤s.1.count true∨∀ i,i<cs.length→Rdy cs s.1 i→s.1[i]?=some true)) (fun k s h=>h.1) (fun k s h=>h.2.1) ?_
  ⟨rfl,Nat.zero_le _,by simp,by simp [List.count_replicate],fun i hi=>?_,.inl (Nat.zero_le _)⟩
 ·rintro k ⟨D0,ys0,_⟩ next ⟨rfl,hk,hD0,hy0,hs0,hst0⟩ hnx
  simp only at hD0 hy0 hs0 hst0
  refine zn (fun hc=>?_) (fun hc=>?_)
  ·have hltk:k<cs.length:=by simpa using hc
   refine zQ cs.length (fun s=>s.2.2) (fun m s=>s.2.2=(m:Int)∧m≤cs.length∧s.1.length=cs.length∧s.2.1.length=s.1.count true∧(∀ i:Nat,s.1[i]?=some true→Sf cs i)∧(∀ i:Nat,D0[i]?=some true→s.1[i]?=some true)∧(s.1=D0∨D0.count true<s.1.count true)∧(∀ i,i<m→Rdy cs D0 i→s.1[i]?=some true)) (fun k s h=>h.1) (fun k s h=>h.2.1) ?_
    ⟨rfl,Nat.zero_le _,hD0,hy0,hs0,fun i hi=>hi,.inl rfl,fun i hi=>by omega⟩
   rintro m ⟨D,ys,_⟩ next2 ⟨rfl,hm,hD,hy,hs,hmono,hcnt,hrd⟩ hn2
   simp only at hD hy hs hmono hcnt hrd
   have hDc:D.count true≤5:=by have:=List.count_le_length (a:=true) (l:=D);omega
   refine zn (fun hc2=>?_) (fun hc2=>?_)
   ·have hlt:m<cs.length:=by simpa using hc2
    have hmD:m<D.length:=by omega
    have hch:=ht.2 _ (List.getElem_mem hlt)
    have hcm:cs[m]?=some cs[m]:=List.getElem?_eq_getElem hlt
    unfold jnW
    refine zp m rfl hmD ?_
    refine zQ cs[m].length (fun s=>s.2) (fun j s=>s.2=(j:Int)∧j≤cs[m].length∧(s.1=true↔(D[m]=false∧∀ r,r∈cs[m].take j→r.xAction=3→D[r.xChain.toNat]?=some true))) (fun k s h=>h.1) (fun k s h=>h.2.1) ?_ ⟨rfl,Nat.zero_le _,by simp⟩
    rintro j ⟨fl,_⟩ next3 ⟨rfl,hj,hfl⟩ hn3
    simp only at hfl
    refine zp m rfl hlt (zn (fun hc3=>?_) (fun hc3=>?_))
    ·have hltj:j<cs[m].length:=by simpa using hc3
     have htk:∀ r,r∈cs[m].take (j+1)↔r∈cs[m].take j∨r=cs[m][j]:=fun r=>by
      rw [List.take_succ_eq_append_getElem hltj,List.mem_append,List.mem_singleton]
     have hrv:=hch.2 _ (List.getElem_mem hltj)
     refine zp m rfl hlt (zp j rfl hltj (zn (fun hf=>?_) (fun hf=>?_)))
     ·obtain ⟨f1,f2⟩:=hfl.1 hf
      refine zn (fun h3=>?_) (fun h3=>?_)
      ·refine zz (by omega) (by omega) (hn3 hltj _ ⟨by simp,by omega,⟨fun _=>⟨f1,fun r hr hr3=>?_⟩,fun _=>rfl⟩⟩)
       rcases (htk r).1 hr with hr | rfl
       ·exact f2 r hr hr3
       ·simp at h3;exact absurd hr3 h3
      ·have h3':cs[m][j].xAction=3:=by simpa using h3
       have hcc:=hrv.1.2.2.2.1 h3'
       have hc5:=hrv.2
       obtain ⟨q,hq⟩:=Int.eq_ofNat_of_zero_le hcc.1
       have hqD:q<D.length:=by omega
       refine zp q hq hqD (zz (by omega) (by omega) (hn3 hltj _ ⟨by simp,by omega,⟨fun e=>⟨f1,fun r hr hr3=>?_⟩,fun hh=>?_⟩⟩))
       ·rcases (htk r).1 hr with hr | rfl
        ·exact f2 r hr hr3
        ·rw [hq,Int.toNat_natCast,List.getElem?_eq_getElem hqD];exact congrArg some e
       ·have:=hh.2 _ ((htk _).2 (.inr rfl)) h3'
        rw [hq,Int.toNat_natCast,List.getElem?_eq_getElem hqD] at this
        exact Option.some.inj this
     ·refine zz (by omega) (by omega) (hn3 hltj _ ⟨by simp,by omega,⟨fun e=>(by cases e),fun hh=>?_⟩⟩)
      have:fl=true:=hfl.2 ⟨hh.1,fun r hr hr3=>hh.2 r ((htk r).2 (.inl hr)) hr3⟩
      rw [this] at hf;cases hf
    ·have hge:cs[m].length≤j:=by simpa using hc3
     rw [List.take_of_length_le hge] at hfl
     have rdy_of:∀ D':List Bool,Rdy cs D' m→∀ r,r∈cs[m]→r.xAction=3→D'[r.xChain.toNat]?=some true:=by
      intro D' hh r hr hr3
      have hcc:=(hch.2 r hr).1.2.2.2.1 hr3
      exact hh _ ⟨_,hcm,r,hr,hr3,by omega⟩
     refine zn (fun hf=>?_) (fun hf=>?_)
     ·obtain ⟨f1,f2⟩:=hfl.1 hf
      have hr:Rdy cs D m:=by
       rintro q ⟨c',e1,r,e2,e3,e4⟩
       rw [hcm] at e1;cases e1
       have:=f2 r e2 e3
       rw [e4] at this;simpa using this
      have set1:∀ i:Nat,(D.set m true)[i]?=if i=m then some true else D[i]?:=fun i=>by
       by_cases e:i=m
       ·subst e;simp [hmD]
       ·rw [List.getElem?_set_ne (by omega),if_neg e]
      have hcs':(D.set m true).count true=D.count true+1:=by
       rw [List.count_set hmD];simp [f1]
      refine zp m rfl hmD (jm (by simp;omega) (zz (by omega) (by omega) (hn2 hlt _ ⟨by simp,by omega,by simpa using hD,?_,fun i hi=>?_,fun i hi=>?_,.inr ?_,fun i hi hri=>?_⟩)))
      ·simp only [Int.toNat_natCast,hcs'];simp;omega
      ·simp only [Int.toNat_natCast,set1] at hi
       by_cases e:i=m
       ·subst e;exact zhG (fun j hj=>hs j (hr j hj))
       ·rw [if_neg e] at hi;exact hs i hi
      ·simp only [Int.toNat_natCast,set1];split
       ·rfl
       ·exact hmono i hi
      ·simp only [Int.toNat_natCast,hcs']
       rcases hcnt with rfl | h
       ·omega
       ·omega
      ·simp only [Int.toNat_natCast,set1];split
       ·rfl
       ·exact hrd i (by omega) hri
     ·refine zz (by omega) (by omega) (hn2 hlt _ ⟨by simp,by omega,hD,hy,hs,hmono,hcnt,fun i hi hri=>?_⟩)
      by_cases e:i=m
      ·subst e
       rw [List.getElem?_eq_getElem hmD]
       by_cases hDm:D[i]=false
       ·have:fl=true:=hfl.2 ⟨hDm,fun r hr hr3=>hmono _ (rdy_of D0 hri r hr hr3)⟩
        rw [this] at hf;cases hf
       ·simpa using hDm
      ·exact hrd i (by omega) hri
   ·have hme:m=cs.length:=by simp at hc2;omega
    subst hme
    refine zz (by omega) (by omega) (hnx hltk _ ⟨by simp,by omega,hD,hy,hs,?_⟩)
    rcases hcnt with rfl | hlt2
    ·exact .inr (fun i hi hri=>hrd i hi hri)
    ·rcases hst0 with h0 | h0
     ·exact .inl (by simp only;omega)
     ·refine .inr (fun i hi hri=>?_)
      exfalso
      have hall:∀ i:Nat,D[i]?=some true→D0[i]?=some true:=fun i hi=>zfh ht h0 (hs i hi) (by have:=(List.getElem?_eq_some_iff.1 hi).1;omega)
      have heq:D=D0:=by
       apply List.ext_getElem?
       intro i
       by_cases hi:i<D.length
       ·rw [List.getElem?_eq_getElem hi,List.getElem?_eq_getElem (show i<D0.length by omega)]
        cases hb:D[i] with
        | true =>
         have:=hall i (by rw [List.getElem?_eq_getElem hi,hb])
         rw [List.getElem?_eq_getElem (show i<D0.length by omega)] at this
         exact this.symm
        | false =>
         cases hb0:D0[i]'(by omega) with
         | false=>rfl
         | true =>
          have:=hmono i (by rw [List.getElem?_eq_getElem (show i<D0.length by omega),hb0])
          rw [List.getElem?_eq_getElem hi,hb] at this
          exact this
       ·rw [List.getElem?_eq_none (by omega),List.getElem?_eq_none (by omega)]
      rw [heq] at hlt2;omega
  ·have hge:k=cs.length:=by simp at hc;omega
   subst hge
   have hle:=List.count_le_length (a:=true) (l:=D0)
   by_cases hcn:D0.count true=cs.length
   ·exact h1 (fun i hi=>hs0 i (zgN (by omega) (by omega))) ys0 (by omega)
   ·refine h2 (fun hall=>?_) ys0 (by omega)
    rcases hst0 with h0 | h0
    ·omega
    ·exact hcn ((zhc (fun i hi=>zfh ht h0 (hall i (by omega)) (by omega))).trans hD0)
 ·exfalso
  simp only [List.getElem?_replicate] at hi
  split at hi <;> simp at hi
end
section
open Go.Lib (decDigits)
def RsV (c:List zG):Prop:=c.length≤8∧∀ r,r∈c→RV r
def SV (s:zM):Prop:=Tg s.xChains∧1≤s.xChains.length∧∀ i,i<s.xChains.length→Sf s.xChains i
def Bc (c:List zG):Prop:=c.length≤4294967296∧∀ r,r∈c→r.xTests.length≤4294967296
def Bd (s:zM):Prop:=s.xChains.length≤4294967296∧∀ c,c∈s.xChains→Bc c
theorem Uj {α:Type} {l:List α} {k:Nat} (h:k<l.length) (x:α):x∈l.take (k+1)↔x∈l.take k∨x=l[k]:=by
 rw [List.take_succ_eq_append_getElem h,List.mem_append,List.mem_singleton]
theorem zbe {c:List zG} {κ:Bool→Prop} (hb:Bc c) (h:∀ b,(b=true↔RsV c)→κ b):Z1 c κ:=by
 have hl:=hb.1
 unfold Z1
 refine zn (fun hc=>h _ ⟨fun e=>(by cases e),fun hh=>by have:=hh.1;simp at hc;omega⟩) (fun hc0=>?_)
 simp at hc0
 refine zQ c.length (fun s=>s) (fun k s=>s=(k:Int)∧k≤c.length∧∀ r,r∈c.take k→RV r) (fun k s h=>h.1) (fun k s h=>h.2.1) ?_ ⟨rfl,Nat.zero_le _,by simp⟩
 rintro k _ next ⟨rfl,hk,he⟩ hn
 refine zn (fun hc=>?_) (fun hc=>?_)
 ·have hlt:k<c.length:=by simpa using hc
  refine zp k rfl hlt (zbH (hb.2 _ (List.getElem_mem hlt)) (zn (fun hc2=>?_) (fun hc2=>?_)))
  ·simp at hc2
   exact h _ ⟨fun e=>(by cases e),fun hh=>absurd (hh.2 _ (List.getElem_mem hlt)) hc2⟩
  ·simp at hc2
   refine zz (by omega) (by omega) (hn hlt _ ⟨by omega,by omega,fun r hr=>?_⟩)
   rcases (Uj hlt r).1 hr with hr | rfl
   ·exact he r hr
   ·exact hc2
 ·have hge:c.length≤k:=by simpa using hc
  rw [List.take_of_length_le hge] at he
  exact h _ ⟨fun _=>⟨by omega,he⟩,fun _=>rfl⟩
theorem za6 {c:List zG} {κ:Bool→Prop} (hb:Bc c) (h:∀ b,(b=true↔RsV c)→κ b):Z0 c κ:=by
 have hl:=hb.1
 unfold Z0
 refine zQ c.length (fun s=>s) (fun k s=>s=(k:Int)∧k≤c.length∧∀ r,r∈c.take k→RV r) (fun k s h=>h.1) (fun k s h=>h.2.1) ?_ ⟨rfl,Nat.zero_le _,by simp⟩
 rintro k _ next ⟨rfl,hk,he⟩ hn
 refine zn (fun hc=>?_) (fun hc=>?_)
 ·have hlt:k<c.length:=by simpa using hc
  refine zp k rfl hlt (zb0 (hb.2 _ (List.getElem_mem hlt)) (zn (fun hc2=>?_) (fun hc2=>?_)))
  ·simp at hc2
   exact h _ ⟨fun e=>(by cases e),fun hh=>absurd (hh.2 _ (List.getElem_mem hlt)) hc2⟩
  ·simp at hc2
   refine zz (by omega) (by omega) (hn hlt _ ⟨by omega,by omega,fun r hr=>?_⟩)
   rcases (Uj hlt r).1 hr with hr | rfl
   ·exact he r hr
   ·exact hc2
 ·have hge:c.length≤k:=by simpa using hc
  rw [List.take_of_length_le hge] at he
  exact h _ ⟨fun e=>⟨by simp at e;omega,he⟩,fun hh=>by have:=hh.1;simp;omega⟩
theorem zae {s:zM} {κ:Bool→Prop} (hb:Bd s) (h:∀ b,(b=true↔SV s)→κ b):yZ s κ:=by
 have hn:=hb.1
 have no:¬ SV s→κ false:=fun hns=>h _ ⟨fun e=>(by cases e),fun hh=>absurd hh hns⟩
 unfold yZ
 refine zQ s.xChains.length (fun s=>s) (fun k t=>t=(k:Int)∧k≤s.xChains.length∧∀ c,c∈s.xChains.take k→RsV c∧∀ r,r∈c→r.xChain<s.xChains.length) (fun k s h=>h.1) (fun k s h=>h.2.1) ?_ ⟨rfl,Nat.zero_le _,by simp⟩
 rintro k _ next ⟨rfl,hk,he⟩ hnx
 refine zn (fun hc=>?_) (fun hc=>?_)
 ·have hlt:k<s.xChains.length:=by simpa using hc
  have hmem:=List.getElem_mem hlt
  have hbc:=hb.2 _ hmem
  have hbl:=hbc.1
  refine zp k rfl hlt (za6 hbc (fun b hbv=>zn (fun hf=>no (fun hh=>?_)) (fun hf=>?_)))
  ·have:b=true:=hbv.2 ⟨(hh.1.2 _ hmem).1,fun r hr=>((hh.1.2 _ hmem).2 r hr).1⟩
   rw [this] at hf;cases hf
  ·have hv:RsV s.xChains[k]:=hbv.1 (by simpa using hf)
   refine zQ s.xChains[k].length (fun s=>s) (fun j t=>t=(j:Int)∧j≤s.xChains[k].length∧∀ r,r∈s.xChains[k].take j→r.xChain<s.xChains.length) (fun k s h=>h.1) (fun k s h=>h.2.1) ?_ ⟨rfl,Nat.zero_le _,by simp⟩
   rintro j _ next2 ⟨rfl,hj,he2⟩ hn2
   refine zp k rfl hlt (zn (fun hc3=>?_) (fun hc3=>?_))
   ·have hltj:j<s.xChains[k].length:=by simpa using hc3
    refine zp k rfl hlt (zp j rfl hltj (zn (fun h3=>no (fun hh=>?_)) (fun h3=>?_)))
    ·have:=((hh.1.2 _ hmem).2 _ (List.getElem_mem hltj)).2
     simp at h3;omega
    ·simp at h3
     refine zz (by omega) (by omega) (hn2 hltj _ ⟨by omega,by omega,fun r hr=>?_⟩)
     rcases (Uj hltj r).1 hr with hr | rfl
     ·exact he2 r hr
     ·omega
   ·have hge:s.xChains[k].length≤j:=by simpa using hc3
    rw [List.take_of_length_le hge] at he2
    refine zz (by omega) (by omega) (hnx hlt _ ⟨by omega,by omega,fun c hc=>?_⟩)
    rcases (Uj hlt c).1 hc with hc | rfl
    ·exact he c hc
    ·exact ⟨hv,he2⟩
 ·have hge:s.xChains.length≤k:=by simpa using hc
  rw [List.take_of_length_le hge] at he
  unfold jnW
  refine VP (zn (fun h5=>?_) (fun h5=>no (fun hh=>?_)))
  ·simp at h5
   have ht:Tg s.xChains:=⟨by omega,fun c hc=>⟨(he c hc).1.1,fun r hr=>⟨(he c hc).1.2 r hr,(he c hc).2 r hr⟩⟩⟩
   refine zgO ht (fun hall ys hy=>h _ ⟨fun _=>⟨ht,by omega,hall⟩,fun _=>by simp;omega⟩) (fun hall ys hy=>h _ ⟨fun e=>absurd (by simp at e;omega) hy,fun hh=>absurd hh.2.2 hall⟩)
  ·have:=hh.1.1;have:=hh.2.1
   simp at h5;omega
theorem zah {s:zM} {κ:Bool→Prop} (hb:Bd s) (h:∀ b,(b=true↔SV s)→κ b):yY s κ:=by
 have no:¬ SV s→κ false:=fun hns=>h _ ⟨fun e=>(by cases e),fun hh=>absurd hh hns⟩
 unfold yY jnW
 simp only [YZ]
 refine zn (fun hc=>no (fun hh=>by have:=hh.2.1;simp at hc;omega)) (fun h1=>zn (fun hc=>no (fun hh=>by have:=hh.1.1;simp at hc;omega)) (fun h5=>?_))
 simp at h1 h5
 refine zQ s.xChains.length (fun s=>s) (fun k t=>t=(k:Int)∧k≤s.xChains.length∧∀ c,c∈s.xChains.take k→RsV c) (fun k s h=>h.1) (fun k s h=>h.2.1) ?_ ⟨rfl,Nat.zero_le _,by simp⟩
 rintro k _ next ⟨rfl,hk,he⟩ hnx
 refine zn (fun hc=>?_) (fun hc=>?_)
 ·have hlt:k<s.xChains.length:=by simpa using hc
  have hmem:=List.getElem_mem hlt
  refine zp k rfl hlt (zbe (hb.2 _ hmem) (fun b hbv=>zn (fun hf=>no (fun hh=>?_)) (fun hf=>?_)))
  ·have:b=true:=hbv.2 ⟨(hh.1.2 _ hmem).1,fun r hr=>((hh.1.2 _ hmem).2 r hr).1⟩
   rw [this] at hf;cases hf
  ·refine zz (by omega) (by omega) (hnx hlt _ ⟨by omega,by omega,fun c hc=>?_⟩)
   rcases (Uj hlt c).1 hc with hc | rfl
   ·exact he c hc
   ·exact hbv.1 (by simpa using hf)
 ·have hge:s.xChains.length≤k:=by simpa using hc
  rw [List.take_of_length_le hge] at he
  refine zQ s.xChains.length (fun s=>s) (fun k t=>t=(k:Int)∧k≤s.xChains.length∧∀ c,c∈s.xChains.take k→∀ r,r∈c→r.xChain<s.xChains.length) (fun k s h=>h.1) (fun k s h=>h.2.1) ?_ ⟨rfl,Nat.zero_le _,by simp⟩
  rintro m _ next2 ⟨rfl,hm,he2⟩ hn2
  refine zn (fun hc2=>?_) (fun hc2=>?_)
  ·have hlt:m<s.xChains.length:=by simpa using hc2
   have hmem:=List.getElem_mem hlt
   have hv:=he _ hmem
   refine zp m rfl hlt (zd1 hv.1 hv.2 (fun ys hyl hys=>?_))
   refine zQ ys.length (fun s=>s) (fun j t=>t=(j:Int)∧j≤ys.length∧∀ x,x∈ys.take j→x<s.xChains.length) (fun k s h=>h.1) (fun k s h=>h.2.1) ?_ ⟨rfl,Nat.zero_le _,by simp⟩
   rintro j _ next3 ⟨rfl,hj,he3⟩ hn3
   refine zn (fun hc3=>?_) (fun hc3=>?_)
   ·have hltj:j<ys.length:=by simpa using hc3
    refine zp j rfl hltj (zn (fun hx=>no (fun hh=>?_)) (fun hx=>?_))
    ·obtain ⟨r,hr,_,hrc⟩:=(hys _).1 (List.getElem_mem hltj)
     have:=((hh.1.2 _ hmem).2 r hr).2
     simp at hx;omega
    ·simp at hx
     refine zz (by omega) (by omega) (hn3 hltj _ ⟨by omega,by omega,fun x hxx=>?_⟩)
     rcases (Uj hltj x).1 hxx with hxx | rfl
     ·exact he3 x hxx
     ·omega
   ·have hgej:ys.length≤j:=by simpa using hc3
    rw [List.take_of_length_le hgej] at he3
    refine zz (by omega) (by omega) (hn2 hlt _ ⟨by omega,by omega,fun c hc=>?_⟩)
    rcases (Uj hlt c).1 hc with hc | rfl
    ·exact he2 c hc
    ·intro r hr
     by_cases h3:r.xAction=3
     ·exact he3 _ ((hys _).2 ⟨r,hr,h3,rfl⟩)
     ·have:=(hv.2 r hr).2.2.2.2 h3
      omega
  ·have hgem:s.xChains.length≤m:=by simpa using hc2
   rw [List.take_of_length_le hgem] at he2
   have ht:Tg s.xChains:=⟨by omega,fun c hc=>⟨(he c hc).1,fun r hr=>⟨(he c hc).2 r hr,he2 c hc r hr⟩⟩⟩
   exact zg1 ht.w (fun hall=>h _ ⟨fun _=>⟨ht,by omega,hall⟩,fun _=>rfl⟩) (fun hall=>h _ ⟨fun e=>(by cases e),fun hh=>absurd hh.2.2 hall⟩)
end
section
open Go Go.Proofs
theorem Z5 (a b:List ze):(Zy a b).2=false↔zU a b=[]:=by
 unfold Zy
 cases zU a b <;> simp
def fpk (a b:za):uP×Bool:=if em4 (xl a b) then (⟨0,0,0,0⟩,false) else (⟨(Zy a.x0 b.x0).1,(Zy a.x1 b.x1).1,(Zy a.x2 b.x2).1,(Zy a.x3 b.x3).1⟩,true)
theorem zdB {a b:za} (ha:B4 a) (hb:B4 b) {κ:uP×Bool→Prop} (h:κ (fpk a b)):uX a b κ:=by
 obtain ⟨a0,a1,a2,a3⟩:=a
 obtain ⟨b0,b1,b2,b3⟩:=b
 obtain ⟨p0,p1,p2,p3⟩:=ha
 obtain ⟨q0,q1,q2,q3⟩:=hb
 simp only at p0 p1 p2 p3 q0 q1 q2 q3
 have hF:zU a0 b0=[]∨zU a1 b1=[]∨zU a2 b2=[]∨zU a3 b3=[]→κ (⟨0,0,0,0⟩,false):=fun e=>by
  have:fpk ⟨a0,a1,a2,a3⟩ ⟨b0,b1,b2,b3⟩=(⟨0,0,0,0⟩,false):=if_pos (decide_eq_true e)
  rw [this] at h;exact h
 have hT:¬ (zU a0 b0=[]∨zU a1 b1=[]∨zU a2 b2=[]∨zU a3 b3=[])→κ (⟨(Zy a0 b0).1,(Zy a1 b1).1,(Zy a2 b2).1,(Zy a3 b3).1⟩,true):=fun e=>by
  have:fpk ⟨a0,a1,a2,a3⟩ ⟨b0,b1,b2,b3⟩=(⟨(Zy a0 b0).1,(Zy a1 b1).1,(Zy a2 b2).1,(Zy a3 b3).1⟩,true):=if_neg (by rw [show em4 (xl ⟨a0,a1,a2,a3⟩ ⟨b0,b1,b2,b3⟩)=false from decide_eq_false e];decide)
  rw [this] at h;exact h
 clear h
 unfold uX
 refine ⟨5,?_⟩
 refine z7 ?_
 unfold jnW
 refine zp 0 rfl (by simp) (zp 0 rfl (by simp) (YR p0 q0 (by decide) (by decide) (by decide) (by decide) ?_))
 simp only [List.getElem_cons_zero,List.getElem_cons_succ]
 refine zn (fun e=>hF (.inl ((Z5 _ _).1 (by simpa using e)))) (fun e=>?_)
 have e0:zU a0 b0≠[]:=fun f=>by have:=(Z5 _ _).2 f;simp [this] at e
 refine zp 0 rfl (by simp) (zz (by decide) (by decide) ?_)
 refine z7 ?_
 refine zp 1 rfl (by simp) (zp 1 rfl (by simp) (YR p1 q1 (by decide) (by decide) (by decide) (by decide) ?_))
 simp only [List.getElem_cons_zero,List.getElem_cons_succ]
 refine zn (fun e=>hF (.inr (.inl ((Z5 _ _).1 (by simpa using e))))) (fun e=>?_)
 have e1:zU a1 b1≠[]:=fun f=>by have:=(Z5 _ _).2 f;simp [this] at e
 refine zp 1 rfl (by simp) (zz (by decide) (by decide) ?_)
 refine z7 ?_
 refine zp 2 rfl (by simp) (zp 2 rfl (by simp) (YR p2 q2 (by decide) (by decide) (by decide) (by decide) ?_))
 simp only [List.getElem_cons_zero,List.getElem_cons_succ]
 refine zn (fun e=>hF (.inr (.inr (.inl ((Z5 _ _).1 (by simpa using e)))))) (fun e=>?_)
 have e2:zU a2 b2≠[]:=fun f=>by have:=(Z5 _ _).2 f;simp [this] at e
 refine zp 2 rfl (by simp) (zz (by decide) (by decide) ?_)
 refine z7 ?_
 refine zp 3 rfl (by simp) (zp 3 rfl (by simp) (YR p3 q3 (by decide) (by decide) (by decide) (by decide) ?_))
 simp only [List.getElem_cons_zero,List.getElem_cons_succ]
 refine zn (fun e=>hF (.inr (.inr (.inr ((Z5 _ _).1 (by simpa using e)))))) (fun e=>?_)
 have e3:zU a3 b3≠[]:=fun f=>by have:=(Z5 _ _).2 f;simp [this] at e
 refine zp 3 rfl (by simp) (zz (by decide) (by decide) ?_)
 refine ju ?_
 refine ⟨_,_,_,_,rfl,?_⟩
 unfold Y6
 refine zp 0 rfl (by simp) (zp 1 rfl (by simp) (zp 2 rfl (by simp) (zp 3 rfl (by simp) ?_)))
 exact hT (by rintro (f | f | f | f) <;> contradiction)
theorem ziA (a b:za):(fpk a b).2=!em4 (xl a b):=by
 unfold fpk;cases em4 (xl a b) <;> simp
theorem zbJ {a b:za} (ha:B4 a) (hb:B4 b) {κ:Bool→Prop} (h:κ (!em4 (xl a b))):x6 a b κ:=by
 unfold x6
 refine zdB ha hb ?_
 rw [← ziA] at h;exact h
theorem zaw {κ:za→Prop} (h:κ UO):yJ κ:=by
 unfold yJ
 refine ⟨5,?_⟩
 refine z7 (yX (n:=(0:Int)) (by decide) (by decide) (zp 0 rfl (by simp) (zz (by decide) (by decide) ?_)))
 refine z7 (yX (n:=(1:Int)) (by decide) (by decide) (zp 1 rfl (by simp) (zz (by decide) (by decide) ?_)))
 refine z7 (yX (n:=(2:Int)) (by decide) (by decide) (zp 2 rfl (by simp) (zz (by decide) (by decide) ?_)))
 refine z7 (yX (n:=(3:Int)) (by decide) (by decide) (zp 3 rfl (by simp) (zz (by decide) (by decide) ?_)))
 refine ju ?_
 exact ⟨_,_,_,_,rfl,h⟩
def xr (a b:List ze) (t:Int):List ze:=zU a (yw b t)
def zd0 (a b:za):za:=⟨xr a.x0 b.x0 65535,xr a.x1 b.x1 65535,xr a.x2 b.x2 255,xr a.x3 b.x3 7⟩
def in4 (a b:za):Bool:=em4 a || decide (zd0 a b=za4)
theorem zfH {a b:za} (ha:B4 a) (hb:B4 b) {κ:Bool→Prop} (h:κ (in4 a b)):yk a b κ:=by
 unfold yk
 refine zcW (zn (fun e=>?_) (fun e=>?_))
 ·unfold in4 at h;rw [e] at h;exact h
 unfold in4 at h;rw [e,Bool.false_or] at h
 clear e
 obtain ⟨a0,a1,a2,a3⟩:=a
 obtain ⟨b0,b1,b2,b3⟩:=b
 obtain ⟨p0,p1,p2,p3⟩:=ha
 obtain ⟨q0,q1,q2,q3⟩:=hb
 simp only at p0 p1 p2 p3 q0 q1 q2 q3
 have hT:xr a0 b0 65535=[]→xr a1 b1 65535=[]→xr a2 b2 255=[]→xr a3 b3 7=[]→κ true:=fun e0 e1 e2 e3=>by
  rw [decide_eq_true (by simp only [zd0,za4,e0,e1,e2,e3])] at h;exact h
 have hF:¬ (xr a0 b0 65535=[]∧xr a1 b1 65535=[]∧xr a2 b2 255=[]∧xr a3 b3 7=[])→κ false:=fun e=>by
  rw [decide_eq_false (fun f=>e (by simpa only [zd0,za4,za.mk.injEq] using f))] at h;exact h
 clear h
 refine ⟨5,?_⟩
 refine z7 ?_
 unfold jnW
 refine zp 0 rfl (by simp) (zp 0 rfl (by simp) (yX (n:=(0:Int)) (by decide) (by decide) (XG (top:=top 0) p0 q0 (by decide) (by decide) (zn (fun e=>hF (fun f=>?_)) (fun e=>zz (by decide) (by decide) ?_)))))
 ·have:=f.1;unfold xr at this;simp [this,zkX] at e
 have e0:xr a0 b0 65535=[]:=by simpa [xr,zkX] using e
 refine z7 ?_
 refine zp 1 rfl (by simp) (zp 1 rfl (by simp) (yX (n:=(1:Int)) (by decide) (by decide) (XG (top:=top 1) p1 q1 (by decide) (by decide) (zn (fun e=>hF (fun f=>?_)) (fun e=>zz (by decide) (by decide) ?_)))))
 ·have:=f.2.1;unfold xr at this;simp [this,zkW] at e
 have e1:xr a1 b1 65535=[]:=by simpa [xr,zkW] using e
 refine z7 ?_
 refine zp 2 rfl (by simp) (zp 2 rfl (by simp) (yX (n:=(2:Int)) (by decide) (by decide) (XG (top:=top 2) p2 q2 (by decide) (by decide) (zn (fun e=>hF (fun f=>?_)) (fun e=>zz (by decide) (by decide) ?_)))))
 ·have:=f.2.2.1;unfold xr at this;simp [this,zky] at e
 have e2:xr a2 b2 255=[]:=by simpa [xr,zky] using e
 refine z7 ?_
 refine zp 3 rfl (by simp) (zp 3 rfl (by simp) (yX (n:=(3:Int)) (by decide) (by decide) (XG (top:=top 3) p3 q3 (by decide) (by decide) (zn (fun e=>hF (fun f=>?_)) (fun e=>zz (by decide) (by decide) ?_)))))
 ·have:=f.2.2.2;unfold xr at this;simp [this,zkF] at e
 have e3:xr a3 b3 7=[]:=by simpa [xr,zkF] using e
 exact ju (hT e0 e1 e2 e3)
end
section
open Go Go.Proofs
instance (l:List ze):Decidable (NF l):=by unfold NF;infer_instance
instance (l:List ze) (t:Int):Decidable (St l t):=by unfold St;infer_instance
theorem zdw:∀ {ys:List ze},(∀ s∈ys,s.xLo≤s.xHi)→(ys.Pairwise (fun a b=>a.xHi+1<b.xLo)↔∀ n,(h:n+1<ys.length)→ys[n].xHi+1<ys[n+1].xLo)
 | [],_=>by simp
 | [s],_=>by simp
 | s :: t :: ys,h=>by
  have ih:=zdw (ys:=t :: ys) (fun u hu=>h u (List.mem_cons_of_mem _ hu))
  rw [List.pairwise_cons,ih]
  constructor
  ·rintro ⟨h1,h2⟩ n hn
   cases n with
   | zero=>exact h1 t (by simp)
   | succ n=>exact h2 n (by simpa using hn)
  ·intro hh
   have h0:=hh 0 (by simp)
   have h2:∀ n,(h:n+1<(t :: ys).length)→(t :: ys)[n].xHi+1<(t :: ys)[n+1].xLo:=fun n hn=>hh (n+1) (by simpa using hn)
   refine ⟨fun u hu=>?_,h2⟩
   rcases List.mem_cons.1 hu with e | e
   ·subst e;exact h0
   ·have:=(List.pairwise_cons.1 (ih.2 h2)).1 u e
    have:=h t (by simp)
    simp only [List.getElem_cons_zero,List.getElem_cons_succ] at h0
    omega
theorem zhs {l:List ze} {top:Int}:St l top↔(∀ n,(h:n<l.length)→0≤l[n].xLo∧l[n].xLo≤l[n].xHi∧l[n].xHi≤top)∧∀ n,(h:n+1<l.length)→l[n].xHi+1<l[n+1].xLo:=by
 constructor
 ·rintro ⟨⟨h1,h2⟩,h3⟩
  exact ⟨fun n hn=>by have:=h1 _ (List.getElem_mem hn);have:=h3 _ (List.getElem_mem hn);omega,(zdw h1).1 h2⟩
 ·rintro ⟨h1,h2⟩
  have h3:∀ s∈l,0≤s.xLo∧s.xLo≤s.xHi∧s.xHi≤top:=fun s hs=>by
   obtain ⟨n,hn,e⟩:=List.getElem_of_mem hs
   rw [← e];exact h1 n hn
  exact ⟨⟨fun s hs=>(h3 s hs).2.1,(zdw (fun s hs=>(h3 s hs).2.1)).2 h2⟩,fun s hs=>⟨(h3 s hs).1,(h3 s hs).2.2⟩⟩
def SpV (l:List ze) (top:Int):Prop:=l.length≤40∧St l top
instance (l:List ze) (t:Int):Decidable (SpV l t):=by unfold SpV;infer_instance
theorem YB {l:List ze} {top:Int} (hl:l.length≤4294967296) (h0:0≤top) (ht:top≤65535) {κ:Bool→Prop} (h:κ (decide (SpV l top))):yb l top κ:=by
 unfold yb
 refine zQ l.length (fun s=>s) (fun k s=>s=(k:Int)∧k≤l.length∧(∀ n,(h:n<l.length)→n<k→0≤l[n].xLo∧l[n].xLo≤l[n].xHi∧l[n].xHi≤top)∧∀ n,(h:n+1<l.length)→n+1<k→l[n].xHi+1<l[n+1].xLo) (fun k s h=>h.1) (fun k s h=>h.2.1) ?_ ⟨rfl,Nat.zero_le _,fun n _ h=>by omega,fun n _ h=>by omega⟩
 rintro k _ next ⟨rfl,hk,h1,h2⟩ hn
 refine zn (fun hc=>?_) (fun hc=>?_)
 ·have hlt:k<l.length:=by simpa using hc
  have no:¬ (0≤l[k].xLo∧l[k].xLo≤l[k].xHi∧l[k].xHi≤top∧∀ j,(hj:j+1<l.length)→j+1=k→l[j].xHi+1<l[j+1].xLo)→κ false:=fun hh=>by
   rw [decide_eq_false (fun hs=>hh ?_)] at h
   ·exact h
   ·obtain ⟨e1,e2⟩:=zhs.1 hs.2
    exact ⟨(e1 k hlt).1,(e1 k hlt).2.1,(e1 k hlt).2.2,fun j hj _=>e2 j hj⟩
  have yes:(0≤l[k].xLo∧l[k].xLo≤l[k].xHi∧l[k].xHi≤top∧∀ j,(hj:j+1<l.length)→j+1=k→l[j].xHi+1<l[j+1].xLo)→jt (k:Int) 1 (fun t=>next t):=fun ⟨q1,q2,q3,q4⟩ =>
   zz (by omega) (by omega) (hn hlt _ ⟨by simp,by omega,fun n hn hnk=>by
    by_cases e:n=k
    ·subst e;exact ⟨q1,q2,q3⟩
    ·exact h1 n hn (by omega),fun n hn hnk=>by
    by_cases e:n+1=k
    ·exact q4 n hn e
    ·exact h2 n hn (by omega)⟩)
  unfold jnW
  refine zp k rfl hlt (zp k rfl hlt (VP (zn (fun e=>z7 (no (fun f=>?_))) (fun e=>?_))))
  ·simp at e;omega
  simp at e
  refine zp k rfl hlt (VP (zn (fun e2=>z7 (no (fun f=>?_))) (fun e2=>?_)))
  ·simp at e2;omega
  simp at e2
  refine zn (fun e3=>?_) (fun e3=>?_)
  ·have hk0:0<k:=by simpa using e3
   have hp:=h1 (k - 1) (by omega) (by omega)
   refine zp k rfl hlt (Z3 (by omega) (by omega) (zp (k - 1) (by omega) (by omega) (zz (by omega) (by omega) (zn (fun e4=>no (fun f=>?_)) (fun e4=>yes ⟨by omega,by omega,by omega,fun j hj hjk=>?_⟩)))))
   ·have:=f.2.2.2 (k - 1) (by omega) (by omega)
    simp at e4
    have ee:k - 1+1=k:=by omega
    simp only [ee] at this
    omega
   ·simp at e4
    obtain rfl:j=k - 1:=by omega
    have ee:k - 1+1=k:=by omega
    simp only [ee]
    omega
  ·have hk0:k=0:=by simpa using e3
   exact ju (yes ⟨by omega,by omega,by omega,fun j hj hjk=>by omega⟩)
 ·have hge:l.length≤k:=by simpa using hc
  have hs:St l top:=zhs.2 ⟨fun n hn=>h1 n hn (by omega),fun n hn=>h2 n hn (by omega)⟩
  unfold jnW
  refine VP (zn (fun e=>?_) (fun e=>by simp at e;omega))
  rw [show decide (SpV l top)=decide ((l.length:Int)≤40) from decide_eq_decide.2 ⟨fun q=>by have:=q.1;omega,fun q=>⟨by omega,hs⟩⟩] at h
  exact h
instance (l:List ze) (x:Int):Decidable (hv l x):=by unfold hv;infer_instance
end
section
open Go Go.Proofs
def bx (a:za):zL:=⟨[a.x0,a.x1,a.x2,a.x3]⟩
theorem Uk {a:za} {κ:Bool→Prop} (h:κ (em4 a)):ux (bx a) κ:=by
 obtain ⟨x0,x1,x2,x3⟩:=a
 simp only [em4] at h
 unfold ux
 refine ⟨5,?_⟩
 refine z7 (zp 0 rfl (by simp [bx]) (zn (fun e=>?_) (fun e=>zz (by decide) (by decide) ?_)))
 ·have:x0=[]:=by simpa [bx] using e
  subst this;simpa using h
 have e0:x0≠[]:=by simpa [bx] using e
 refine z7 (zp 1 rfl (by simp [bx]) (zn (fun e=>?_) (fun e=>zz (by decide) (by decide) ?_)))
 ·have:x1=[]:=by simpa [bx] using e
  subst this;simpa using h
 have e1:x1≠[]:=by simpa [bx] using e
 refine z7 (zp 2 rfl (by simp [bx]) (zn (fun e=>?_) (fun e=>zz (by decide) (by decide) ?_)))
 ·have:x2=[]:=by simpa [bx] using e
  subst this;simpa using h
 have e2:x2≠[]:=by simpa [bx] using e
 refine z7 (zp 3 rfl (by simp [bx]) (zn (fun e=>?_) (fun e=>zz (by decide) (by decide) ?_)))
 ·have:x3=[]:=by simpa [bx] using e
  subst this;simpa using h
 have e3:x3≠[]:=by simpa [bx] using e
 refine ju ?_
 simpa [e0,e1,e2,e3] using h
theorem zbP {a b:za} (ha:B4 a) (hb:B4 b) {κ:zL→Prop} (h:κ (bx (xl a b))):xq (bx a) (bx b) κ:=by
 obtain ⟨p0,p1,p2,p3⟩:=ha
 obtain ⟨q0,q1,q2,q3⟩:=hb
 unfold xq
 refine ⟨5,?_⟩
 refine z7 ?_
 unfold jnW
 refine zp 0 rfl (by simp [bx]) (zp 0 rfl (by simp [bx]) (Za p0 q0 (by decide) (by decide) (by decide) (by decide) (jm (by simp) (zz (by decide) (by decide) ?_))))
 refine z7 ?_
 refine zp 1 rfl (by simp [bx]) (zp 1 rfl (by simp [bx]) (Za p1 q1 (by decide) (by decide) (by decide) (by decide) (jm (by simp) (zz (by decide) (by decide) ?_))))
 refine z7 ?_
 refine zp 2 rfl (by simp [bx]) (zp 2 rfl (by simp [bx]) (Za p2 q2 (by decide) (by decide) (by decide) (by decide) (jm (by simp) (zz (by decide) (by decide) ?_))))
 refine z7 ?_
 refine zp 3 rfl (by simp [bx]) (zp 3 rfl (by simp [bx]) (Za p3 q3 (by decide) (by decide) (by decide) (by decide) (jm (by simp) (zz (by decide) (by decide) ?_))))
 exact ju h
theorem zcL {κ:zL→Prop} (h:κ (bx UO)):ZI κ:=by
 unfold ZI
 refine ⟨5,?_⟩
 refine z7 ?_
 unfold jnW
 refine xA (n:=(0:Int)) (by decide) (by decide) (jm (by simp) (zz (by decide) (by decide) ?_))
 refine z7 ?_
 refine xA (n:=(1:Int)) (by decide) (by decide) (jm (by simp) (zz (by decide) (by decide) ?_))
 refine z7 ?_
 refine xA (n:=(2:Int)) (by decide) (by decide) (jm (by simp) (zz (by decide) (by decide) ?_))
 refine z7 ?_
 refine xA (n:=(3:Int)) (by decide) (by decide) (jm (by simp) (zz (by decide) (by decide) ?_))
 exact ju h
theorem ye {l:List (List ze)} (hl:l.length≤4294967296) (hl2:∀ x∈l,x.length≤4294967296) {κ:List (List ze)→Prop} (h:κ l):xI l κ:=by
 unfold xI
 refine zQ l.length (fun s=>s.2) (fun k s=>s.2=(k:Int)∧k≤l.length∧s.1=l.take k) (fun k s h=>h.1) (fun k s h=>h.2.1) ?_ ⟨rfl,Nat.zero_le _,by simp⟩
 rintro k ⟨xs,t⟩ next ⟨rfl,hk,hx⟩ hn
 simp only at hx
 subst hx
 refine zn (fun hc=>?_) (fun hc=>?_)
 ·have hlt:k<l.length:=by simpa using hc
  have:=hl2 _ (List.getElem_mem hlt)
  refine zp k rfl hlt (jm (by simp;omega) (jm (by simp only [List.length_take,List.length_singleton];omega) (zz (by omega) (by omega) (hn hlt _ ⟨by simp,by omega,?_⟩))))
  rw [List.take_succ_eq_append_getElem hlt];rfl
 ·have hge:l.length≤k:=by simpa using hc
  rw [List.take_of_length_le hge];exact h
end
section
open Go Go.Proofs
def tsp (t:jH):List ze:=if t.xNot then yw [ze.mk t.xLo t.xHi] (top t.xField) else [ze.mk t.xLo t.xHi]
theorem zfY {lo hi t:Int} (h0:0≤lo) (h1:lo≤hi) (h2:hi≤t):St [ze.mk lo hi] t:=⟨Uo h1,fun s hs=>by simp only [List.mem_singleton] at hs;subst hs;exact ⟨h0,h2⟩⟩
theorem zdy {t:jH} (h:TV t):St (tsp t) (top t.xField):=by
 obtain ⟨h1,h2,h3,h4,h5⟩:=h
 unfold tsp
 split
 ·exact Yb (zfY h3 h4 h5)
 ·exact zfY h3 h4 h5
theorem zhF (lo hi t:Int):yw [ze.mk lo hi] t=(if 0<lo then [ze.mk 0 (lo - 1)] else [])++(if hi+1≤t then [ze.mk (hi+1) t] else []):=rfl
theorem zgC (t:jH):(tsp t).length≤2:=by
 unfold tsp
 split
 ·rw [zhF];simp only [List.length_append]
  split <;> split <;> simp
 ·simp
theorem zea (a:List ze) (y:ze):(zU a [y]).length≤a.length:=by
 induction a with
 | nil=>simp [zU]
 | cons x a ih =>
  have e:zU (x :: a) [y]=Yg x y++zU a [y]:=by simp [zU]
  have h1:(Yg x y).length≤1:=by unfold Yg;split <;> simp
  rw [e];simp only [List.length_append,List.length_cons];omega
theorem zef {y1 y2:ze} (hy:y1.xHi<y2.xLo):∀ {a:List ze},NF a→(zU a [y1,y2]).length≤a.length+1
 | [],_=>by simp [zU]
 | x :: a,h=>by
  have e:zU (x :: a) [y1,y2]=Yg x y1++Yg x y2++zU a [y1,y2]:=by simp [zU]
  have h1:∀ y,(Yg x y).length≤1:=fun y=>by unfold Yg;split <;> simp
  have ih:=zef hy (Uz h)
  rw [e];simp only [List.length_append,List.length_cons]
  have i1:=h1 y1
  have i2:=h1 y2
  by_cases c:max x.xLo y2.xLo≤min x.xHi y2.xHi
  ·have hg:=(List.pairwise_cons.1 h.2).1
   have e2:zU a [y1,y2]=zU a [y2]:=by
    have:∀ m:List ze,(∀ z∈m,y1.xHi<z.xLo)→zU m [y1,y2]=zU m [y2]:=by
     intro m
     induction m with
     | nil=>intro _;rfl
     | cons z m ihm =>
      intro hz
      have ez:Yg z y1=[]:=by unfold Yg;rw [if_neg (by have:=hz z (by simp);omega)]
      have:=ihm (fun u hu=>hz u (by simp [hu]))
      simp only [zU,List.flatMap_cons,List.flatMap_nil,List.append_nil] at this ⊢
      rw [ez,this];simp
    exact this a (fun z hz=>by have:=hg z hz;omega)
   have:=zea a y2
   rw [e2];omega
  ·have:Yg x y2=[]:=by unfold Yg;rw [if_neg c]
   rw [this];simp only [List.length_nil];omega
theorem zfx {a b:List ze} (ha:NF a) (hb:NF b) (h:b.length≤2):(zU a b).length≤a.length+1:=by
 match b,h,hb with
 | [],_,_ =>
  have:zU a []=[]:=by simp [zU]
  rw [this];simp
 | [y],_,_=>have:=zea a y;omega
 | [y1,y2],_,hb =>
  have:=(List.pairwise_cons.1 hb.2).1 y2 (by simp)
  exact zef (by omega) ha
theorem zbj {t:jH} (ht:TV t) {κ:List ze→Prop} (h:κ (tsp t)):uI t κ:=by
 obtain ⟨h1,h2,h3,h4,h5⟩:=ht
 have:=VW t.xField
 unfold tsp at h
 unfold uI
 refine zn (fun e=>?_) (fun e=>?_)
 ·have e':t.xNot=false:=by simpa using e
  rw [e'] at h;simpa using h
 ·have e':t.xNot=true:=by simpa using e
  rw [e',if_pos rfl,zhF] at h
  unfold jnW
  refine zn (fun c=>?_) (fun c=>?_)
  ·have c':0<t.xLo:=by simpa using c
   rw [if_pos c'] at h
   refine Z3 (by omega) (by omega) (jm (by simp) (yX h1 h2 (zn (fun d=>?_) (fun d=>?_))))
   ·have d':t.xHi<top t.xField:=by simpa using d
    rw [if_pos (by omega)] at h
    exact zz (by omega) (by omega) (jm (by simp) (by simpa using h))
   ·have d':¬ t.xHi<top t.xField:=by simpa using d
    rw [if_neg (by omega)] at h
    simpa using h
  ·have c':¬ 0<t.xLo:=by simpa using c
   rw [if_neg c'] at h
   refine yX h1 h2 (zn (fun d=>?_) (fun d=>?_))
   ·have d':t.xHi<top t.xField:=by simpa using d
    rw [if_pos (by omega)] at h
    exact zz (by omega) (by omega) (jm (by simp) (by simpa using h))
   ·have d':¬ t.xHi<top t.xField:=by simpa using d
    rw [if_neg (by omega)] at h
    simpa using h
theorem zca {t:jH} (ht:TV t) {κ:List ze→Prop} (h:κ (tsp t)):uW t κ:=by
 have ht':=ht
 obtain ⟨h1,h2,h3,h4,h5⟩:=ht
 have:=VW t.xField
 unfold uW
 refine U0 ?_
 rw [decide_eq_true ht']
 refine ju (zn (fun e=>?_) (fun e=>?_))
 ·unfold tsp at h;rw [if_pos e] at h
  exact xA h1 h2 (U8 (zfY h3 h4 h5) (by omega) (by omega) h)
 ·unfold tsp at h;rw [if_neg (by simpa using e)] at h
  exact h
def L4 (a:za):List (List ze):=[a.x0,a.x1,a.x2,a.x3]
def ul (a:za) (f:Int):List ze:=if f=0 then a.x0 else if f=1 then a.x1 else if f=2 then a.x2 else a.x3
def Yf (a:za) (f:Int) (x:List ze):za:=if f=0 then ⟨x,a.x1,a.x2,a.x3⟩ else if f=1 then ⟨a.x0,x,a.x2,a.x3⟩ else if f=2 then ⟨a.x0,a.x1,x,a.x3⟩ else ⟨a.x0,a.x1,a.x2,x⟩
theorem yE {a:za} {f:Int} {κ:List ze→Prop} (h0:0≤f) (h1:f≤3) (h:κ (ul a f)):zK (L4 a) f κ:=by
 rcases zcP h0 h1 with rfl | rfl | rfl | rfl
 ·exact zp 0 rfl (by simp [L4]) h
 ·exact zp 1 rfl (by simp [L4]) h
 ·exact zp 2 rfl (by simp [L4]) h
 ·exact zp 3 rfl (by simp [L4]) h
theorem Uw {a:za} {f:Int} {x:List ze} (h0:0≤f) (h1:f≤3):(L4 a).set f.toNat x=L4 (Yf a f x):=by
 rcases zcP h0 h1 with rfl | rfl | rfl | rfl <;> rfl
theorem Yt {a:za} (ha:B4 a) {f:Int} (h0:0≤f) (h1:f≤3):St (ul a f) (top f):=by
 obtain ⟨p0,p1,p2,p3⟩:=ha
 rcases zcP h0 h1 with rfl | rfl | rfl | rfl
 ·exact p0
 ·exact p1
 ·exact p2
 ·exact p3
theorem zgt {a:za} (ha:B4 a) {f:Int} (h0:0≤f) (h1:f≤3) {x:List ze} (hx:St x (top f)):B4 (Yf a f x):=by
 obtain ⟨p0,p1,p2,p3⟩:=ha
 rcases zcP h0 h1 with rfl | rfl | rfl | rfl
 ·exact ⟨hx,p1,p2,p3⟩
 ·exact ⟨p0,hx,p2,p3⟩
 ·exact ⟨p0,p1,hx,p3⟩
 ·exact ⟨p0,p1,p2,hx⟩
def le4 (a:za) (n:Nat):Prop:=∀ f,0≤f→f≤3→(ul a f).length≤n
theorem zgG {a:za} {n m:Nat} (h:le4 a n) {f:Int} (h0:0≤f) (h1:f≤3) {x:List ze} (hx:x.length≤m) (hm:n≤m):le4 (Yf a f x) m:=by
 intro g g0 g1
 have k:=h g g0 g1
 rcases zcP h0 h1 with rfl | rfl | rfl | rfl <;> rcases zcP g0 g1 with rfl | rfl | rfl | rfl <;> first | exact hx | exact Nat.le_trans k hm
theorem zex {a:za} (h:le4 a 40):F4 a:=⟨h 0 (by decide) (by decide),h 1 (by decide) (by decide),h 2 (by decide) (by decide),h 3 (by decide) (by decide)⟩
def zhY (a:za) (t:jH):za:=Yf a t.xField (zU (ul a t.xField) (tsp t))
def Zt (ts:List jH):za:=ts.foldl zhY UO
theorem zeW:∀ (ts:List jH) (a:za) (n:Nat),(∀ t∈ts,TV t)→B4 a→le4 a n→B4 (ts.foldl zhY a)∧le4 (ts.foldl zhY a) (n+ts.length)
 | [],a,n,_,ha,hn=>⟨ha,hn⟩
 | t :: ts,a,n,h,ha,hn=>by
  have ht:=h t (by simp)
  have hs:=Yt ha ht.1 ht.2.1
  have:=zeW ts (zhY a t) (n+1) (fun u hu=>h u (by simp [hu])) (zgt ha ht.1 ht.2.1 (ZD hs (zdy ht).1))
   (zgG hn ht.1 ht.2.1 (Nat.le_trans (zfx hs.1 (zdy ht).1 (zgC t)) (by have:=hn _ ht.1 ht.2.1;omega)) (by omega))
  refine ⟨this.1,?_⟩
  have e:n+(t :: ts).length=n+1+ts.length:=by simp only [List.length_cons];omega
  rw [e];exact this.2
theorem zcv:le4 UO 1:=fun f h0 h1=>by
 rcases zcP h0 h1 with rfl | rfl | rfl | rfl <;> decide
theorem zaX {ts:List jH} (h:∀ t∈ts,TV t):B4 (Zt ts):=(zeW ts UO 1 h zcw zcv).1
theorem zi8 {ts:List jH} (h:∀ t∈ts,TV t):le4 (Zt ts) (1+ts.length):=(zeW ts UO 1 h zcw zcv).2
theorem zek (ts:List jH) (t:jH):Zt (ts++[t])=zhY (Zt ts) t:=by simp [Zt]
theorem zeR {ts:List jH} (hts:TsV ts) {κ:za→Prop} (hκ:κ (Zt ts)):ZX ts κ:=by
 have h:=hts.1
 have hl:=hts.2
 unfold ZX
 refine zaw ?_
 refine zQ ts.length (fun s=>s.2) (fun k s=>s.2=(k:Int)∧k≤ts.length∧s.1=L4 (Zt (ts.take k))) (fun k s h=>h.1) (fun k s h=>h.2.1) ?_ ⟨rfl,Nat.zero_le _,by simp [Zt,L4]⟩
 rintro k ⟨xs,t⟩ next ⟨rfl,hk,hx⟩ hn
 simp only at hx
 subst hx
 refine zn (fun hc=>?_) (fun hc=>?_)
 ·have hlt:k<ts.length:=by simpa using hc
  have ht:=h _ (List.getElem_mem hlt)
  have hpre:∀ t∈ts.take k,TV t:=fun t ht=>h t (List.mem_of_mem_take ht)
  have hb:=zaX hpre
  have hs:=Yt hb ht.1 ht.2.1
  have hle:=zi8 hpre _ ht.1 ht.2.1
  have hml:=zfx hs.1 (zdy ht).1 (zgC ts[k])
  have htop:=VW ts[k].xField
  simp only [List.length_take] at hle
  have hlim:lim (zU (ul (Zt (ts.take k)) ts[k].xField) (tsp ts[k]))=(zU (ul (Zt (ts.take k)) ts[k].xField) (tsp ts[k]),true):=by
   unfold lim;rw [if_neg (by omega)]
  refine zp k rfl hlt ?_
  unfold jnW
  have fin:zD (ul (Zt (ts.take k)) ts[k].xField) (tsp ts[k]) (top ts[k].xField) (fun (r49,r51)=>zK (L4 (Zt (ts.take k))) ts[k].xField (fun e52=>jt (k:Int) 1 (fun t76=>next ((L4 (Zt (ts.take k))).set (ts[k].xField).toNat r49,t76)))):=by
   refine Ya hs (zdy ht) (by omega) (by omega) ?_
   rw [hlim]
   refine yE ht.1 ht.2.1 (zz (by omega) (by omega) (hn hlt _ ⟨by simp,by omega,?_⟩))
   simp only
   rw [Uw ht.1 ht.2.1,List.take_succ_eq_append_getElem hlt,zek];rfl
  exact ⟨yE ht.1 ht.2.1 (zbj ht (yX ht.1 ht.2.1 fin)),zbj ht ⟨yE ht.1 ht.2.1 (yX ht.1 ht.2.1 fin),yX ht.1 ht.2.1 (yE ht.1 ht.2.1 fin)⟩⟩
 ·have hge:ts.length≤k:=by simpa using hc
  rw [List.take_of_length_le hge]
  exact ⟨_,_,_,_,rfl,hκ⟩
theorem zfX {ts:List jH} (hts:TsV ts) {κ:zL→Prop} (hκ:κ (bx (Zt ts))):XS ts κ:=by
 have h:=hts.1
 have hl:=hts.2
 unfold XS
 refine UE (by omega) ?_
 rw [decide_eq_true hts]
 refine ju (zcL ?_)
 refine zQ ts.length (fun s=>s.2) (fun k s=>s.2=(k:Int)∧k≤ts.length∧s.1=L4 (Zt (ts.take k))) (fun k s h=>h.1) (fun k s h=>h.2.1) ?_ ⟨rfl,Nat.zero_le _,by simp [Zt,L4,bx]⟩
 rintro k ⟨xs,t⟩ next ⟨rfl,hk,hx⟩ hn
 simp only at hx
 subst hx
 refine zn (fun hc=>?_) (fun hc=>?_)
 ·have hlt:k<ts.length:=by simpa using hc
  have ht:=h _ (List.getElem_mem hlt)
  have hpre:∀ t∈ts.take k,TV t:=fun t ht=>h t (List.mem_of_mem_take ht)
  have hb:=zaX hpre
  have hs:=Yt hb ht.1 ht.2.1
  have htop:=VW ts[k].xField
  refine zp k rfl hlt ?_
  unfold jnW
  refine zp k rfl hlt ?_
  have fin:xx (ul (Zt (ts.take k)) ts[k].xField) (tsp ts[k]) (fun r40=>zK (L4 (Zt (ts.take k))) ts[k].xField (fun e42=>jt (k:Int) 1 (fun t58=>next ((L4 (Zt (ts.take k))).set (ts[k].xField).toNat r40,t58)))):=by
   refine Za hs (zdy ht) (by omega) (by omega) (by omega) (by omega) ?_
   refine yE ht.1 ht.2.1 (zz (by omega) (by omega) (hn hlt _ ⟨by simp,by omega,?_⟩))
   simp only
   rw [Uw ht.1 ht.2.1,List.take_succ_eq_append_getElem hlt,zek];rfl
  exact ⟨yE ht.1 ht.2.1 (zca ht fin),zca ht (yE ht.1 ht.2.1 fin)⟩
 ·have hge:ts.length≤k:=by simpa using hc
  rw [List.take_of_length_le hge]
  exact hκ
def pc (r:List ze) (a:za):List za:=if r=[] then [] else [a]
def XE (a b:za):List za :=
 if em4 (xl a b) then (if em4 a then [] else [a]) else
 pc (xr a.x0 b.x0 65535) ⟨xr a.x0 b.x0 65535,a.x1,a.x2,a.x3⟩ ++
 pc (xr a.x1 b.x1 65535) ⟨zU a.x0 b.x0,xr a.x1 b.x1 65535,a.x2,a.x3⟩ ++
 pc (xr a.x2 b.x2 255) ⟨zU a.x0 b.x0,zU a.x1 b.x1,xr a.x2 b.x2 255,a.x3⟩ ++
 pc (xr a.x3 b.x3 7) ⟨zU a.x0 b.x0,zU a.x1 b.x1,zU a.x2 b.x2,xr a.x3 b.x3 7⟩
theorem U4 {a b:List ze} {t:Int} (ha:St a t) (hb:St b t):St (xr a b t) t:=ZD ha (Yb hb).1
theorem ziU {a b:za} (ha:B4 a) (hb:B4 b):∀ c∈XE a b,B4 c:=by
 have hm:=zcV ha hb
 intro c hc
 unfold XE at hc
 split at hc
 ·split at hc
  ·simp at hc
  ·simp only [List.mem_singleton] at hc;subst hc;exact ha
 ·simp only [List.mem_append,or_assoc] at hc
  have pcm:∀ {r:List ze} {d:za},c∈pc r d→c=d:=fun {r d} h=>by unfold pc at h;split at h <;> simp at h;exact h
  rcases hc with h | h | h | h
  ·rw [pcm h];exact ⟨U4 ha.1 hb.1,ha.2.1,ha.2.2.1,ha.2.2.2⟩
  ·rw [pcm h];exact ⟨hm.1,U4 ha.2.1 hb.2.1,ha.2.2.1,ha.2.2.2⟩
  ·rw [pcm h];exact ⟨hm.1,hm.2.1,U4 ha.2.2.1 hb.2.2.1,ha.2.2.2⟩
  ·rw [pcm h];exact ⟨hm.1,hm.2.1,hm.2.2.1,U4 ha.2.2.2 hb.2.2.2⟩
theorem Ul (r:List ze) (a:za):(pc r a).length≤1:=by unfold pc;split <;> simp
theorem VH (a b:za):(XE a b).length≤4:=by
 unfold XE
 split
 ·split <;> simp
 ·simp only [List.length_append]
  have:=Ul (xr a.x0 b.x0 65535) ⟨xr a.x0 b.x0 65535,a.x1,a.x2,a.x3⟩
  have:=Ul (xr a.x1 b.x1 65535) ⟨zU a.x0 b.x0,xr a.x1 b.x1 65535,a.x2,a.x3⟩
  have:=Ul (xr a.x2 b.x2 255) ⟨zU a.x0 b.x0,zU a.x1 b.x1,xr a.x2 b.x2 255,a.x3⟩
  have:=Ul (xr a.x3 b.x3 7) ⟨zU a.x0 b.x0,zU a.x1 b.x1,zU a.x2 b.x2,xr a.x3 b.x3 7⟩
  omega
theorem ze1 {l:List ze} {t:Int} (h:St l t) (h0:0≤t) (ht:t≤65535):l.length≤4294967296:=by
 have:=Ui h (by omega);omega
theorem zaG {a:za} (h:B4 a):∀ x∈L4 a,x.length≤4294967296:=by
 obtain ⟨p0,p1,p2,p3⟩:=h
 intro x hx
 simp only [L4,List.mem_cons,List.not_mem_nil,or_false] at hx
 rcases hx with rfl | rfl | rfl | rfl
 ·exact ze1 p0 (by decide) (by decide)
 ·exact ze1 p1 (by decide) (by decide)
 ·exact ze1 p2 (by decide) (by decide)
 ·exact ze1 p3 (by decide) (by decide)
theorem jL {σ:Type} {K:σ→Prop} {B:(σ→Prop)→Prop} (h:B K):jnW K B:=h
theorem Vg {a:za} (ha:B4 a) {t:Int} (h0:0≤t) (h1:t≤3) {r:List ze} {out:List zL} (ho:out.length≤1000) {K:List zL→Prop} (h:K (out++(pc r (Yf a t r)).map bx)) :
  jnW K (fun k235=>ifW (decide (0<(r.length:Int))) (xI (L4 a) (fun r149=>zK r149 t (fun _=>jG out ([(zL.mk (r149.set (t).toNat r))]) (fun _=>k235 (out++([(zL.mk (r149.set (t).toNat r))])))))) (k235 out)):=by
 refine zn (fun e=>?_) (fun e=>?_)
 ·have hr:r≠[]:=by intro f;subst f;simp at e
  refine ye (by simp [L4]) (zaG ha) (yE h0 h1 (jm (by simp only [List.length_singleton];omega) ?_))
  unfold pc at h
  rw [if_neg hr] at h
  rw [Uw h0 h1];exact h
 ·have hr:r=[]:=by simpa using e
  unfold pc at h
  rw [if_pos hr] at h
  simpa using h
theorem zcY {a b:za} (ha:B4 a) (hb:B4 b) {κ:List zL→Prop} (h:κ ((XE a b).map bx)):yn (bx a) (bx b) κ:=by
 unfold yn
 refine zbP ha hb (Uk (zn (fun e=>?_) (fun e=>?_)))
 ·unfold XE at h;rw [if_pos e] at h
  unfold jnW
  refine Uk (zn (fun e2=>?_) (fun e2=>?_))
  ·rw [if_neg (by simpa using e2)] at h;exact jm (by simp) h
  ·rw [if_pos (by simpa using e2)] at h;exact h
 unfold XE at h;rw [if_neg (by simp [e])] at h
 clear e
 obtain ⟨a0,a1,a2,a3⟩:=a
 obtain ⟨b0,b1,b2,b3⟩:=b
 have ha0:=ha
 obtain ⟨p0,p1,p2,p3⟩:=ha
 obtain ⟨q0,q1,q2,q3⟩:=hb
 simp only at p0 p1 p2 p3 q0 q1 q2 q3 h
 have m0:=ZD p0 q0.1
 have m1:=ZD p1 q1.1
 have m2:=ZD p2 q2.1
 refine ⟨5,?_⟩
 refine z7 (jL (jL ?_))
 refine zp 0 rfl (by simp [L4,bx]) (zp 0 rfl (by simp [L4,bx]) (xA (n:=(0:Int)) (by decide) (by decide) (U8 (top:=65535) q0 (by decide) (by decide) (Za p0 (Yb q0) (by decide) (by decide) (by decide) (by decide) ?_))))
 refine zp 0 rfl (by simp [L4,bx]) (zp 0 rfl (by simp [L4,bx]) (Za p0 q0 (by decide) (by decide) (by decide) (by decide) (Vg (a:=⟨a0,a1,a2,a3⟩) ha0 (t:=(0:Int)) (by decide) (by decide) (by simp) ?_)))
 refine ye (l:=L4 ⟨a0,a1,a2,a3⟩) (by simp [L4,bx]) (zaG ha0) (yE (a:=⟨a0,a1,a2,a3⟩) (f:=(0:Int)) (by decide) (by decide) (zz (by decide) (by decide) ?_))
 have c1:B4 ⟨zU a0 b0,a1,a2,a3⟩:=⟨m0,p1,p2,p3⟩
 refine z7 (jL (jL ?_))
 refine zp 1 rfl (by simp [L4,bx]) (zp 1 rfl (by simp [L4,bx]) (xA (n:=(1:Int)) (by decide) (by decide) (U8 (top:=65535) q1 (by decide) (by decide) (Za p1 (Yb q1) (by decide) (by decide) (by decide) (by decide) ?_))))
 refine zp 1 rfl (by simp [L4,bx]) (zp 1 rfl (by simp [L4,bx]) (Za p1 q1 (by decide) (by decide) (by decide) (by decide) (Vg (a:=⟨zU a0 b0,a1,a2,a3⟩) c1 (t:=(1:Int)) (by decide) (by decide) (by have:=Ul (zU a0 (yw b0 65535)) (Yf ⟨a0,a1,a2,a3⟩ 0 (zU a0 (yw b0 65535)));simp only [List.length_append,List.length_map,List.length_nil];omega) ?_)))
 refine ye (l:=L4 ⟨zU a0 b0,a1,a2,a3⟩) (by simp [L4,bx]) (zaG c1) (yE (a:=⟨zU a0 b0,a1,a2,a3⟩) (f:=(1:Int)) (by decide) (by decide) (zz (by decide) (by decide) ?_))
 have c2:B4 ⟨zU a0 b0,zU a1 b1,a2,a3⟩:=⟨m0,m1,p2,p3⟩
 refine z7 (jL (jL ?_))
 refine zp 2 rfl (by simp [L4,bx]) (zp 2 rfl (by simp [L4,bx]) (xA (n:=(2:Int)) (by decide) (by decide) (U8 (top:=255) q2 (by decide) (by decide) (Za p2 (Yb q2) (by decide) (by decide) (by decide) (by decide) ?_))))
 refine zp 2 rfl (by simp [L4,bx]) (zp 2 rfl (by simp [L4,bx]) (Za p2 q2 (by decide) (by decide) (by decide) (by decide) (Vg (a:=⟨zU a0 b0,zU a1 b1,a2,a3⟩) c2 (t:=(2:Int)) (by decide) (by decide) (by
  have:=Ul (zU a0 (yw b0 65535)) (Yf ⟨a0,a1,a2,a3⟩ 0 (zU a0 (yw b0 65535)))
  have:=Ul (zU a1 (yw b1 65535)) (Yf ⟨zU a0 b0,a1,a2,a3⟩ 1 (zU a1 (yw b1 65535)))
  simp only [List.length_append,List.length_map,List.length_nil];omega) ?_)))
 refine ye (l:=L4 ⟨zU a0 b0,zU a1 b1,a2,a3⟩) (by simp [L4,bx]) (zaG c2) (yE (a:=⟨zU a0 b0,zU a1 b1,a2,a3⟩) (f:=(2:Int)) (by decide) (by decide) (zz (by decide) (by decide) ?_))
 have c3:B4 ⟨zU a0 b0,zU a1 b1,zU a2 b2,a3⟩:=⟨m0,m1,m2,p3⟩
 refine z7 (jL (jL ?_))
 refine zp 3 rfl (by simp [L4,bx]) (zp 3 rfl (by simp [L4,bx]) (xA (n:=(3:Int)) (by decide) (by decide) (U8 (top:=7) q3 (by decide) (by decide) (Za p3 (Yb q3) (by decide) (by decide) (by decide) (by decide) ?_))))
 refine zp 3 rfl (by simp [L4,bx]) (zp 3 rfl (by simp [L4,bx]) (Za p3 q3 (by decide) (by decide) (by decide) (by decide) (Vg (a:=⟨zU a0 b0,zU a1 b1,zU a2 b2,a3⟩) c3 (t:=(3:Int)) (by decide) (by decide) (by
  have:=Ul (zU a0 (yw b0 65535)) (Yf ⟨a0,a1,a2,a3⟩ 0 (zU a0 (yw b0 65535)))
  have:=Ul (zU a1 (yw b1 65535)) (Yf ⟨zU a0 b0,a1,a2,a3⟩ 1 (zU a1 (yw b1 65535)))
  have:=Ul (zU a2 (yw b2 255)) (Yf ⟨zU a0 b0,zU a1 b1,a2,a3⟩ 2 (zU a2 (yw b2 255)))
  simp only [List.length_append,List.length_map,List.length_nil];omega) ?_)))
 refine ye (l:=L4 ⟨zU a0 b0,zU a1 b1,zU a2 b2,a3⟩) (by simp [L4,bx]) (zaG c3) (yE (a:=⟨zU a0 b0,zU a1 b1,zU a2 b2,a3⟩) (f:=(3:Int)) (by decide) (by decide) (zz (by decide) (by decide) ?_))
 refine ju ?_
 simp only [List.map_append] at h
 exact h
end
section
open Go Go.Proofs
def hdm (a b:za) (k:Nat):za:=⟨if 0<k then zU a.x0 b.x0 else a.x0,if 1<k then zU a.x1 b.x1 else a.x1,if 2<k then zU a.x2 b.x2 else a.x2,if 3<k then zU a.x3 b.x3 else a.x3⟩
def rst (a b:za) (k:Nat):List ze:=xr (ul a k) (ul b k) (top k)
def mt (a b:za) (k:Nat):List ze:=zU (ul a k) (ul b k)
def pcn (a b:za) (k:Nat):List za:=pc (rst a b k) (Yf (hdm a b k) k (rst a b k))
def pcs (a b:za) (k:Nat):List za:=(List.range k).flatMap (pcn a b)
theorem Us (a b:za) (k:Nat):pcs a b (k+1)=pcs a b k++pcn a b k:=by simp [pcs,List.range_succ]
theorem zhJ (a b:za):pcs a b 4=pc (xr a.x0 b.x0 65535) ⟨xr a.x0 b.x0 65535,a.x1,a.x2,a.x3⟩ ++
 pc (xr a.x1 b.x1 65535) ⟨zU a.x0 b.x0,xr a.x1 b.x1 65535,a.x2,a.x3⟩ ++
 pc (xr a.x2 b.x2 255) ⟨zU a.x0 b.x0,zU a.x1 b.x1,xr a.x2 b.x2 255,a.x3⟩ ++
 pc (xr a.x3 b.x3 7) ⟨zU a.x0 b.x0,zU a.x1 b.x1,zU a.x2 b.x2,xr a.x3 b.x3 7⟩:=by
 rw [Us,Us,Us,Us];rfl
theorem zix {a b:za} (h:em4 (xl a b)=false):XE a b=pcs a b 4:=by
 unfold XE;rw [if_neg (by simp [h]),zhJ]
theorem VG {k:Nat} (h:k<4):k=0∨k=1∨k=2∨k=3:=by omega
theorem ziQ (a b:za) {k:Nat} (h:k<4):∀ c∈pcn a b k,c∈pcs a b 4:=fun c hc=>by
 unfold pcs;exact List.mem_flatMap.2 ⟨k,by simpa using h,hc⟩
theorem zhC (a b:za) {k:Nat} (h:k<4):Yf (hdm a b k) k (mt a b k)=hdm a b (k+1):=by
 rcases VG h with rfl | rfl | rfl | rfl <;> rfl
theorem zjT {a b:za} (ha:F4 a) {k:Nat} (h:k<4) {r:List ze}:F4 (Yf (hdm a b k) k r)↔r.length≤40∧∀ j,j<k→(mt a b j).length≤40:=by
 obtain ⟨h0,h1,h2,h3⟩:=ha
 rcases VG h with rfl | rfl | rfl | rfl
 ·constructor
  ·intro q;exact ⟨q.1,fun j hj=>by omega⟩
  ·intro q;exact ⟨q.1,h1,h2,h3⟩
 ·constructor
  ·intro q
   refine ⟨q.2.1,fun j hj=>?_⟩
   have ej:j=0:=by omega
   subst ej
   exact q.1
  ·intro q;exact ⟨q.2 0 (by omega),q.1,h2,h3⟩
 ·constructor
  ·intro q
   refine ⟨q.2.2.1,fun j hj=>?_⟩
   obtain rfl | rfl:j=0∨j=1:=by omega
   ·exact q.1
   ·exact q.2.1
  ·intro q;exact ⟨q.2 0 (by omega),q.2 1 (by omega),q.1,h3⟩
 ·constructor
  ·intro q
   refine ⟨q.2.2.2,fun j hj=>?_⟩
   obtain rfl | rfl | rfl:j=0∨j=1∨j=2:=by omega
   ·exact q.1
   ·exact q.2.1
   ·exact q.2.2.1
  ·intro q;exact ⟨q.2 0 (by omega),q.2 1 (by omega),q.2 2 (by omega),q.1⟩
theorem zdl {σ:Type} {K:σ→Prop} {B:(σ→Prop)→Prop} (P:σ→Prop) (h1:∀ r,P r→K r) (h2:∀ K',(∀ r,P r→K' r)→B K'):jnW K B:=h2 K h1
def zcQ (a b:za):List za×Bool:=if ∀ c∈XE a b,F4 c then (XE a b,true) else ([],false)
theorem zdb {a b:za} (ha:B4 a) (hb:B4 b) (hf:F4 a) {κ:List za×Bool→Prop} (h:κ (zcQ a b)):uS a b κ:=by
 have yes:(∀ c∈XE a b,F4 c)→κ (zjR (some (XE a b))):=fun q=>by
  unfold zcQ at h;rw [if_pos q] at h;exact h
 have no:(¬ ∀ c∈XE a b,F4 c)→κ (zjR none):=fun q=>by
  unfold zcQ at h;rw [if_neg q] at h;exact h
 clear h
 unfold uS ZN
 refine zcW (zn (fun e=>?_) (fun e=>zbJ ha hb (zn (fun e2=>?_) (fun e2=>?_))))
 ·have hc:XE a b=[]:=by
   have:em4 (xl a b)=true:=by
    simp only [em4,decide_eq_true_eq,xl] at e ⊢
    rcases e with e | e | e | e <;> simp [e,zU]
   unfold XE;rw [if_pos this,if_pos e]
  rw [hc] at yes;exact yes (by simp)
 ·have hc:XE a b=[a]:=by
   unfold XE;rw [if_pos (by simpa using e2),if_neg (by simp [e])]
  rw [hc] at yes
  refine z7 (jm (by simp) ?_)
  exact yes (by simpa using hf)
 have e3:em4 (xl a b)=false:=by simpa using e2
 rw [zix e3] at yes no
 clear e e2 e3
 refine zQ 4 (fun s=>s.2.2.2) (fun k (s:List (List ze)×Option (List za)×Bool×Int)=>s.2.2.2=(k:Int)∧k≤4∧(∃ hd,s.1=L4 hd∧(s.2.2.1=true→hd=hdm a b k))∧(s.2.2.1=true↔∀ j,j<k→(mt a b j).length≤40)∧s.2.1=some (pcs a b k)∧∀ c∈pcs a b k,F4 c) (fun k s h=>h.1) (fun k s h=>h.2.1) ?_ ⟨rfl,by omega,⟨a,rfl,fun _=>rfl⟩,by simp,rfl,by simp [pcs]⟩
 rintro k ⟨xs,z,fits,_⟩ next ⟨rfl,hk,⟨hd,hxs,hfx⟩,hfit,hz,hpre⟩ hn
 simp only at hxs hfx hfit hz
 subst hxs hz
 refine zn (fun hc=>?_) (fun hc=>?_)
 rotate_left
 ·have hge:4≤(k:Int):=by simpa using hc
  obtain rfl:k=4:=by omega
  exact yes hpre
 have hlt:k<4:=by
  have:(k:Int)<4:=by simpa using hc
  omega
 have k0:(0:Int)≤k:=by omega
 have k3:(k:Int)≤3:=by omega
 have sa:=Yt ha k0 k3
 have sb:=Yt hb k0 k3
 have tl:=VW k
 have fin2:∀ (z':List za) (hd':za),z'=pcs a b (k+1)→(∀ c∈z',F4 c)→(fits=true→hd'=hdm a b k)→∀ l ok,(l,ok)=lim (mt a b k)→zK (L4 hd') k (fun e432=>ifW fits (jt (k:Int) 1 (fun t505=>next ((L4 hd').set (k:Int).toNat l,some z',ok,t505))) (jt (k:Int) 1 (fun t505=>next ((L4 hd').set (k:Int).toNat l,some z',false,t505)))):=by
  intro z' hd' hz' hF hh l ok hl
  subst hz'
  refine yE k0 k3 (zn (fun e=>?_) (fun e=>?_))
  ·refine zz (by omega) (by omega) (hn hlt _ ⟨by simp,by omega,⟨Yf hd' k l,Uw k0 k3,fun q=>?_⟩,?_,rfl,hF⟩)
   ·simp only at q
    rw [hh e]
    unfold lim at hl
    split at hl
    ·injection hl with _ h2;rw [q] at h2;cases h2
    ·injection hl with h1 _;rw [h1,zhC a b hlt]
   ·simp only
    unfold lim at hl
    constructor
    ·intro q j hj
     by_cases ej:j=k
     ·subst ej
      split at hl
      ·injection hl with _ h2;rw [q] at h2;cases h2
      ·omega
     ·exact hfit.1 e j (by omega)
    ·intro q
     have:=q k (by omega)
     rw [if_neg (by omega)] at hl
     injection hl
  ·refine zz (by omega) (by omega) (hn hlt _ ⟨by simp,by omega,⟨Yf hd' k l,Uw k0 k3,fun q=>by cases q⟩,?_,rfl,hF⟩)
   simp only
   constructor
   ·intro q;cases q
   ·intro q
    have:=hfit.2 (fun j hj=>q j (by omega))
    rw [this] at e;cases e
 have piece:rst a b k≠[]→Yf (hdm a b k) k (rst a b k)∈pcs a b 4:=fun q=>ziQ a b hlt _ (by unfold pcn pc;rw [if_neg q];simp)
 refine jL (zdl (fun r=>r=lim (rst a b k)) ?_ ?_)
 rotate_left
 ·intro K hK
  have leaf:jf (ul a k) (ul b k) (top k) K:=zfD sa sb (by omega) (by omega) (hK _ rfl)
  refine ⟨yE k0 k3 ⟨?_,?_⟩,yE k0 k3 ⟨?_,?_⟩,yX k0 k3 ⟨?_,?_⟩⟩
  ·exact yE k0 k3 (yX k0 k3 leaf)
  ·exact yX k0 k3 (yE k0 k3 leaf)
  ·exact yE k0 k3 (yX k0 k3 leaf)
  ·exact yX k0 k3 (yE k0 k3 leaf)
  ·exact yE k0 k3 (yE k0 k3 leaf)
  ·exact yE k0 k3 (yE k0 k3 leaf)
 rintro ⟨l,okl⟩ hl
 refine zdl (fun t=>t=(!okl || (decide (0<(l.length:Int)) && !fits))) ?_ ?_
 rotate_left
 ·intro K hK
  have hK:=hK _ rfl
  refine zn (fun e=>?_) (fun e=>?_)
  ·have:okl=false:=by simpa using e
   rw [this] at hK;simpa using hK
  ·have:okl=true:=by simpa using e
   rw [this] at hK
   refine zn (fun e=>?_) (fun e=>?_)
   ·rw [e] at hK;simpa using hK
   ·rw [e] at hK;simpa using hK
 rintro t rfl
 refine zn (fun e=>?_) (fun e=>?_)
 ·
  refine ju (no (fun q=>?_))
  unfold lim at hl
  split at hl
  ·rename_i h40
   have hne:rst a b k≠[]:=fun f=>by rw [f] at h40;simp at h40
   have:=((zjT hf hlt).1 (q _ (piece hne))).1
   omega
  ·rename_i h40
   injection hl with h1 h2
   subst h1 h2
   have e':0<(rst a b k).length∧fits=false:=by simpa using e
   have hne:rst a b k≠[]:=fun f=>by rw [f] at e';simp at e'
   have:=hfit.2 ((zjT hf hlt).1 (q _ (piece hne))).2
   rw [this] at e';simp at e'
 unfold lim at hl
 split at hl
 ·injection hl with h1 h2
  subst h1 h2
  simp at e
 rename_i h40
 injection hl with h1 h2
 subst h1 h2
 have e':rst a b k≠[]→fits=true:=fun q=>by
  cases fits with
  | true=>rfl
  | false =>
   have:0<(rst a b k).length:=List.length_pos_iff.2 q
   simp [this] at e
 clear e
 refine zdl (fun s=>s.1=some (pcs a b (k+1))∧(∀ c∈pcs a b (k+1),F4 c)∧∃ hd',s.2=L4 hd'∧(fits=true→hd'=hdm a b k)) ?_ ?_
 ·rintro ⟨z,ys⟩ ⟨hz,hF,hd',hy,hh⟩
  simp only at hz hy
  subst hz hy
  refine zdl (fun r=>r=lim (mt a b k)) ?_ ?_
  ·rintro ⟨m,okm⟩ hm
   exact fin2 _ hd' rfl hF hh m okm hm
  ·intro K hK
   have leaf:zD (ul a k) (ul b k) (top k) K:=Ya sa sb (by omega) (by omega) (hK _ rfl)
   refine ⟨yE k0 k3 ⟨?_,?_⟩,yE k0 k3 ⟨?_,?_⟩,yX k0 k3 ⟨?_,?_⟩⟩
   ·exact yE k0 k3 (yX k0 k3 leaf)
   ·exact yX k0 k3 (yE k0 k3 leaf)
   ·exact yE k0 k3 (yX k0 k3 leaf)
   ·exact yX k0 k3 (yE k0 k3 leaf)
   ·exact yE k0 k3 (yE k0 k3 leaf)
   ·exact yE k0 k3 (yE k0 k3 leaf)
 ·intro K hK
  refine zn (fun e=>?_) (fun e=>?_)
  ·have hne:rst a b k≠[]:=fun f=>by rw [f] at e;simp at e
   have hft:=e' hne
   have ed:=hfx hft
   subst ed
   have hpc:pcs a b (k+1)=pcs a b k++[Yf (hdm a b k) k (rst a b k)]:=by
    rw [Us];unfold pcn pc;rw [if_neg hne]
   refine ⟨_,_,_,_,rfl,yE (a:=hdm a b k) k0 k3 ⟨(Yf (hdm a b k) k (rst a b k)).x0,(Yf (hdm a b k) k (rst a b k)).x1,(Yf (hdm a b k) k (rst a b k)).x2,(Yf (hdm a b k) k (rst a b k)).x3,Uw (a:=hdm a b k) k0 k3,?_⟩⟩
   have hl1:(pcs a b k).length≤4:=by
    have h1:∀ n,(pcs a b n).length≤n:=by
     intro n
     induction n with
     | zero=>simp [pcs]
     | succ n ih =>
      have:=Ul (rst a b n) (Yf (hdm a b n) n (rst a b n))
      rw [Us,List.length_append];unfold pcn;omega
    have:=h1 k;omega
   refine z7 (jm (by simp;omega) (ju (hK _ ⟨by rw [hpc],?_,hdm a b k,rfl,fun _=>rfl⟩)))
   intro c hc
   rw [hpc] at hc
   rcases List.mem_append.1 hc with q | q
   ·exact hpre c q
   ·have:c=Yf (hdm a b k) k (rst a b k):=by simpa using q
    rw [this]
    exact (zjT hf hlt).2 ⟨by omega,hfit.1 hft⟩
  ·have hnil:rst a b k=[]:=by
    cases hr:rst a b k with
    | nil=>rfl
    | cons x r=>rw [hr] at e;simp at e
   have hpc:pcs a b (k+1)=pcs a b k:=by
    rw [Us];unfold pcn pc;rw [if_pos hnil];simp
   exact hK _ ⟨by rw [hpc],by rw [hpc];exact hpre,hd,rfl,hfx⟩
end
section
def pv (p:uP):Prop:=(0≤p.xFrom∧p.xFrom≤65535)∧(0≤p.xTo∧p.xTo≤65535)∧(0≤p.xPort∧p.xPort≤255)∧(0≤p.xProto∧p.xProto≤7)
instance (p:uP):Decidable (pv p):=by unfold pv;infer_instance
def tv (t:Int):Prop:=0≤t∧t≤1000000
instance (t:Int):Decidable (tv t):=by unfold tv;infer_instance
def zh5 (p:uP):Nat→Int
 | 0=>p.xFrom
 | 1=>p.xTo
 | 2=>p.xPort
 | _=>p.xProto
def lv (t:Int):Prop:=0≤t∧t≤1000
instance (t:Int):Decidable (lv t):=by unfold lv;infer_instance
end
section
open Go Go.Proofs
def BV (b:zL):Prop:=∃ a,b=bx a∧B4 a∧F4 a
noncomputable instance (b:zL):Decidable (BV b):=Classical.propDecidable _
def sd (b:zL):za:=match b.xSides with | [x0,x1,x2,x3]=>⟨x0,x1,x2,x3⟩ | _=>za4
theorem BV.eq {b:zL} (h:BV b):b=bx (sd b):=by obtain ⟨a,rfl,_⟩:=h;rfl
theorem BV.b4 {b:zL} (h:BV b):B4 (sd b):=by obtain ⟨a,rfl,h,_⟩:=h;exact h
theorem BV.f4 {b:zL} (h:BV b):F4 (sd b):=by obtain ⟨a,rfl,_,h⟩:=h;exact h
theorem zcM {a:za}:BV (bx a)↔B4 a∧F4 a:=⟨fun h=>⟨h.b4,h.f4⟩,fun h=>⟨a,rfl,h⟩⟩
theorem zii {b:zL} (h:BV b):b.xSides.length=4:=by obtain ⟨a,rfl,_⟩:=h;rfl
theorem zkE {α:Type} {l:List α} (h:l.length=4):∃ a b c d,l=[a,b,c,d]:=by
 match l,h with
 | [a,b,c,d],_=>exact ⟨a,b,c,d,rfl⟩
theorem zkY {b:zL} (h:b.xSides.length=4):b=bx (sd b):=by
 obtain ⟨x0,x1,x2,x3,e⟩:=zkE h
 obtain ⟨s⟩:=b
 simp only at e
 subst e
 rfl
theorem zhi {a:za}:BV (bx a)↔∀ n:Nat,n<4→SpV (ul a n) (top n):=by
 rw [zcM]
 constructor
 ·rintro ⟨⟨b0,b1,b2,b3⟩,f0,f1,f2,f3⟩ n hn
  rcases VG hn with rfl | rfl | rfl | rfl
  ·exact ⟨f0,b0⟩
  ·exact ⟨f1,b1⟩
  ·exact ⟨f2,b2⟩
  ·exact ⟨f3,b3⟩
 ·intro h
  obtain ⟨f0,b0⟩:=h 0 (by decide)
  obtain ⟨f1,b1⟩:=h 1 (by decide)
  obtain ⟨f2,b2⟩:=h 2 (by decide)
  obtain ⟨f3,b3⟩:=h 3 (by decide)
  exact ⟨⟨b0,b1,b2,b3⟩,f0,f1,f2,f3⟩
def Bb (b:zL):Prop:=b.xSides.length≤4294967296∧∀ x∈b.xSides,x.length≤4294967296
def Fb (l:List zE):Prop:=l.length≤4294967296∧∀ f∈l,Bb f.xWhere
theorem BV.bb {b:zL} (h:BV b):Bb b:=by
 obtain ⟨a,rfl,_,f0,f1,f2,f3⟩:=h
 refine ⟨by simp [bx],fun x hx=>?_⟩
 simp only [bx,List.mem_cons,List.not_mem_nil,or_false] at hx
 rcases hx with rfl | rfl | rfl | rfl <;> omega
theorem yK {b:zL} (hb:Bb b) {κ:Bool→Prop} (h:κ (decide (BV b))):uw b κ:=by
 unfold uw
 have h1:=hb.1
 refine zQ b.xSides.length (fun s=>s) (fun k s=>s=(k:Int)∧k≤b.xSides.length∧k≤4∧∀ n:Nat,n<k→∀ q:n<b.xSides.length,SpV (b.xSides[n]) (top n)) (fun k s h=>h.1) (fun k s h=>h.2.1) ?_ ⟨rfl,by omega,by omega,fun n h=>by omega⟩
 rintro k _ next ⟨rfl,hk,hk4,hv⟩ hn
 refine zn (fun hc=>?_) (fun hc=>?_)
 ·have hlt:k<b.xSides.length:=by simpa using hc
  refine jL (zn (fun e=>?_) (fun e=>?_))
  ·have e':4≤k:=by
    have:(4:Int)≤k:=by simpa using e
    omega
   rw [decide_eq_false (fun q=>by have:=zii q;omega)] at h
   exact z7 h
  have e':k<4:=by
   have:¬ (4:Int)≤k:=by simpa using e
   omega
  have k0:(0:Int)≤k:=by omega
  have k3:(k:Int)≤3:=by omega
  have tl:=VW k
  refine zp k rfl hlt (xA k0 k3 (YB (hb.2 _ (List.getElem_mem hlt)) (by omega) (by omega) (zn (fun e=>?_) (fun e=>?_))))
  ·have no:¬ SpV (b.xSides[k]) (top k):=by simpa using e
   rw [decide_eq_false (fun q=>no ?_)] at h
   ·exact h
   ·obtain ⟨a,rfl,_⟩:=id q
    have:=zhi.1 q k e'
    have e2:(bx a).xSides[k]=ul a k:=by rcases VG e' with rfl | rfl | rfl | rfl <;> rfl
    rw [e2];exact this
  ·have yes:SpV (b.xSides[k]) (top k):=by simpa using e
   refine zz (by omega) (by omega) (hn hlt _ ⟨by simp,by omega,by omega,fun n hnk q=>?_⟩)
   by_cases e:n=k
   ·subst e;exact yes
   ·exact hv n (by omega) q
 ·have hge:b.xSides.length=k:=by
   have:b.xSides.length≤k:=by simpa using hc
   omega
  have:decide (BV b)=decide ((b.xSides.length:Int)=4):=decide_eq_decide.2 ⟨fun q=>by have:=zii q;omega,fun q=>by
   have e4:b.xSides.length=4:=by omega
   obtain ⟨a,rfl⟩:∃ a,b=bx a:=⟨_,zkY e4⟩
   refine zhi.2 (fun n hn4=>?_)
   have:=hv n (by omega) (by simpa [bx] using hn4)
   have e2:(bx a).xSides[n]'(by simpa [bx] using hn4)=ul a n:=by rcases VG hn4 with rfl | rfl | rfl | rfl <;> rfl
   rw [e2] at this;exact this⟩
  rw [this] at h;exact h
def FV (l:List zE):Prop:=l.length≤60∧∀ f∈l,BV f.xWhere
noncomputable instance (l:List zE):Decidable (FV l):=Classical.propDecidable _
theorem FV.fb {l:List zE} (h:FV l):Fb l:=⟨by have:=h.1;omega,fun f hf=>(h.2 f hf).bb⟩
theorem ya {l:List zE} (hl:Fb l) {κ:Bool→Prop} (h:κ (decide (FV l))):xX l κ:=by
 unfold xX
 have h1:=hl.1
 refine zQ l.length (fun s=>s) (fun k s=>s=(k:Int)∧k≤l.length∧∀ f∈l.take k,BV f.xWhere) (fun k s h=>h.1) (fun k s h=>h.2.1) ?_ ⟨rfl,by omega,by simp⟩
 rintro k _ next ⟨rfl,hk,hv⟩ hn
 refine zn (fun hc=>?_) (fun hc=>?_)
 ·have hlt:k<l.length:=by simpa using hc
  refine zp k rfl hlt (yK (hl.2 _ (List.getElem_mem hlt)) (zn (fun e=>?_) (fun e=>?_)))
  ·have:¬ BV (l[k].xWhere):=by simpa using e
   rw [decide_eq_false (fun q=>this (q.2 _ (List.getElem_mem hlt)))] at h;exact h
  ·have:BV (l[k].xWhere):=by simpa using e
   refine zz (by omega) (by omega) (hn hlt _ ⟨by simp,by omega,fun f hf=>?_⟩)
   rw [List.take_succ_eq_append_getElem hlt] at hf
   rcases List.mem_append.1 hf with q | q
   ·exact hv f q
   ·simp only [List.mem_singleton] at q;rw [q];exact this
 ·have hge:l.length≤k:=by simpa using hc
  rw [List.take_of_length_le hge] at hv
  rw [show decide (FV l)=decide ((l.length:Int)≤60) from decide_eq_decide.2 ⟨fun q=>by have:=q.1;omega,fun q=>⟨by omega,hv⟩⟩] at h;exact h
def fl (f:zE):zl:=⟨sd f.xWhere,f.xAccept⟩
theorem Vm {α β:Type} (a:List α) (f:α→β) (hl:a.length≤4294967296) {κ:List β→Prop} (T:α→(β→Prop)→Prop) (hT:∀ x ψ,x∈a→ψ (f x)→T x ψ) (hκ:κ (a.map f))
  (F:(List β×Int→Prop)→List β×Int→Prop)
  (hF:∀ nx xs t,(ifW (decide (t<(a.length:Int))) (zK a t (fun e=>T e (fun r=>jG xs [r] (fun _=>jt t 1 (fun u=>nx (xs++[r],u)))))) (κ xs))→F nx (xs,t)):jk F ([],0):=by
 refine zQ a.length (fun s=>s.2) (fun k s=>s.2=(k:Int)∧k≤a.length∧s.1=(a.take k).map f) (fun k s h=>h.1) (fun k s h=>h.2.1) ?_ ⟨rfl,Nat.zero_le _,by simp⟩
 rintro k ⟨ys,t⟩ next ⟨rfl,hk,hy⟩ hn
 simp only at hy
 subst hy
 refine hF _ _ _ (zn (fun hc=>?_) (fun hc=>?_))
 ·have hlt:k<a.length:=by simpa using hc
  refine zp k rfl hlt (hT _ _ (List.getElem_mem hlt) (jm (by simp;omega) (zz (by omega) (by omega) (hn hlt _ ⟨by simp,by omega,?_⟩))))
  rw [List.take_succ_eq_append_getElem hlt,List.map_append];rfl
 ·have hge:a.length≤k:=by simpa using hc
  rw [List.take_of_length_le hge];exact hκ
theorem zfn {l:List zl} (hl:l.length≤4294967296) {κ:List za→Prop} (h:κ (l.map (·.xWhere))):XJ l κ:=by
 unfold XJ
 refine Vc 0 rfl (by omega) (by omega) ?_
 exact Vm l (·.xWhere) hl (fun x ψ=>ψ x.xWhere) (fun x ψ hx hψ=>hψ) h _ (fun nx xs t hh=>hh)
theorem zaA {b:zL} (hb:Bb b) {κ:zL→Prop} (h:κ b):ZC b κ:=ye hb.1 hb.2 h
theorem zfe {f:zE} (hb:Bb f.xWhere) {κ:zE→Prop} (h:κ f):Xu f κ:=zaA hb h
theorem uN {l:List zE} (hl:Fb l) {κ:List zE→Prop} (h:κ l):xc l κ:=by
 unfold xc
 exact Vm l id hl.1 (fun x ψ=>Xu x ψ) (fun x ψ hx hψ=>zfe (hl.2 x hx) hψ) (by simpa using h) _ (fun nx xs t hh=>hh)
def hb4 (a:za) (p:uP):Prop:=hv a.x0 p.xFrom∧hv a.x1 p.xTo∧hv a.x2 p.xPort∧hv a.x3 p.xProto
instance (a:za) (p:uP):Decidable (hb4 a p):=by unfold hb4;infer_instance
end
section
open Go Go.Proofs
def UM (l:List za):Prop:=∀ c∈l,F4 c
instance (l:List za):Decidable (UM l):=by unfold UM;infer_instance
def aB (l:List za):Prop:=∀ c∈l,B4 c
theorem zbi:UM []:=fun c h=>by simp at h
theorem zeK:aB []:=fun c h=>by simp at h
theorem u5 {l m:List za}:UM (l++m)↔UM l∧UM m:=by
 unfold UM
 simp only [List.mem_append]
 exact ⟨fun h=>⟨fun c hc=>h c (.inl hc),fun c hc=>h c (.inr hc)⟩,fun h c hc=>hc.elim (h.1 c) (h.2 c)⟩
theorem Uh {l m:List za}:aB (l++m)↔aB l∧aB m:=by
 unfold aB
 simp only [List.mem_append]
 exact ⟨fun h=>⟨fun c hc=>h c (.inl hc),fun c hc=>h c (.inr hc)⟩,fun h c hc=>hc.elim (h.1 c) (h.2 c)⟩
def xz (left:List za) (b:za):List za:=left.flatMap (fun c=>XE c b)
def okR (l:List za):Prop:=UM l∧l.length≤400
instance (l:List za):Decidable (okR l):=by unfold okR;infer_instance
def lgo:List za→List za→Option (List za)
 | left,[]=>some left
 | left,b :: bs=>if okR (xz left b) then lgo (xz left b) bs else none
def Yl (a:za) (bs:List za):Option (List za):=if em4 a then some [] else lgo [a] bs
def ziS:Option (List za)→List za×Bool
 | some l=>(l,true)
 | none=>([],false)
theorem zez:∀ (bs:List za),lgo [] bs=some []
 | []=>rfl
 | b :: bs=>by
  have e:xz [] b=[]:=rfl
  unfold lgo
  rw [e,if_pos ⟨zbi,by simp⟩]
  exact zez bs
theorem ZJ (l m:List za) (b:za):xz (l++m) b=xz l b++xz m b:=by simp [xz]
theorem X7 (c b:za):xz [c] b=XE c b:=by simp [xz]
theorem Vr {left:List za} {b:za} (hl:aB left) (hb:B4 b):aB (xz left b):=fun c hc=>by
 obtain ⟨d,hd,hc⟩:=List.mem_flatMap.1 hc
 exact ziU (hl d hd) hb c hc
theorem zjy:∀ {bs left r:List za},aB left→aB bs→lgo left bs=some r→aB r
 | [],left,r,hl,hb,h=>by simp only [lgo,Option.some.injEq] at h;rw [← h];exact hl
 | b :: bs,left,r,hl,hb,h=>by
  unfold lgo at h
  split at h
  ·exact zjy (Vr hl (hb b (by simp))) (fun c hc=>hb c (by simp [hc])) h
  ·cases h
theorem zh4:∀ {bs left r:List za},okR left→lgo left bs=some r→okR r
 | [],left,r,hl,h=>by simp only [lgo,Option.some.injEq] at h;rw [← h];exact hl
 | b :: bs,left,r,hl,h=>by
  unfold lgo at h
  split at h
  ·rename_i q;exact zh4 q h
  ·cases h
theorem zbx {a:za} {bs r:List za} (ha:B4 a) (hf:F4 a) (hb:aB bs) (h:Yl a bs=some r):aB r∧okR r:=by
 unfold Yl at h
 split at h
 ·injection h with h;subst h;exact ⟨zeK,zbi,by simp⟩
 ·exact ⟨zjy (fun c hc=>by simp only [List.mem_singleton] at hc;subst hc;exact ha) hb h,zh4 ⟨fun c hc=>by simp only [List.mem_singleton] at hc;subst hc;exact hf,by simp⟩ h⟩
def hbs (l:List za) (p:uP):Prop:=∃ c∈l,hb4 c p
instance (l:List za) (p:uP):Decidable (hbs l p):=by unfold hbs;infer_instance
theorem zdx {a b:List ze} {t x:Int} (ha:St a t) (hb:St b t):hv (xr a b t) x↔hv a x∧¬ hv b x:=by
 unfold xr
 rw [Ug,zee hb]
 exact ⟨fun h=>⟨h.1,h.2.2.2⟩,fun h=>⟨h.1,(Zc ha h.1).1,(Zc ha h.1).2,h.2⟩⟩
theorem zb3 {a:za} {bs:List za} (ha:B4 a) (hf:F4 a) (hb:aB bs) (hl:bs.length≤4294967296) {κ:List za×Bool→Prop} (h:κ (ziS (Yl a bs))):uC a bs κ:=by
 unfold uC
 refine zcW (zn (fun e=>?_) (fun e=>?_))
 ·unfold Yl at h;rw [if_pos e] at h;exact h
 unfold Yl at h;rw [if_neg (by simp [e])] at h
 refine jL ?_
 refine zQ bs.length (fun s=>s.2) (fun k (s:List za×Int)=>s.2=(k:Int)∧k≤bs.length∧aB s.1∧okR s.1∧lgo [a] bs=lgo s.1 (bs.drop k)) (fun k s h=>h.1) (fun k s h=>h.2.1) ?_ ⟨rfl,by omega,fun c hc=>by simp only [List.mem_singleton] at hc;subst hc;exact ha,⟨fun c hc=>by simp only [List.mem_singleton] at hc;subst hc;exact hf,by simp⟩,rfl⟩
 rintro k ⟨left,_⟩ next ⟨rfl,hk,hB,hO,he⟩ hn
 simp only at hB hO he
 refine zn (fun hc=>?_) (fun hc=>?_)
 rotate_left
 ·have hge:bs.length≤k:=by simpa using hc
  rw [he,List.drop_of_length_le hge] at h
  exact h
 have hlt:k<bs.length:=by simpa using hc
 rw [List.drop_eq_getElem_cons hlt] at he
 have hbk:=hb _ (List.getElem_mem hlt)
 have no:¬ okR (xz left bs[k])→κ ([],false):=fun q=>by
  rw [he] at h;unfold lgo at h;rw [if_neg q] at h;exact h
 refine zp k rfl hlt ?_
 have hlen:=hO.2
 refine zQ left.length (fun s=>s.2) (fun j (s:List za×Int)=>s.2=(j:Int)∧j≤left.length∧s.1=xz (left.take j) bs[k]∧okR (xz (left.take j) bs[k])) (fun k s h=>h.1) (fun k s h=>h.2.1) ?_ ⟨rfl,by omega,by simp [xz],by simp [xz,okR,UM]⟩
 rintro j ⟨_,_⟩ next2 ⟨rfl,hj,hx,hok⟩ hn2
 simp only at hx
 subst hx
 refine zn (fun hc2=>?_) (fun hc2=>?_)
 ·have hjl:j<left.length:=by simpa using hc2
  have hcB:=hB _ (List.getElem_mem hjl)
  have hcF:=hO.1 _ (List.getElem_mem hjl)
  have hl4:=VH left[j] bs[k]
  have hl2:=hok.2
  have split3:xz left bs[k]=xz (left.take j) bs[k]++(XE left[j] bs[k]++xz (left.drop (j+1)) bs[k]):=by
   have:=List.take_append_drop j left
   rw [List.drop_eq_getElem_cons hjl] at this
   have e2:=congrArg (fun l=>xz l bs[k]) this
   simp only [ZJ] at e2
   rw [← e2]
   rw [show left[j] :: left.drop (j+1)=[left[j]]++left.drop (j+1) from rfl,ZJ,X7]
  refine zp j rfl hjl (zdb hcB hbk hcF ?_)
  by_cases hFc:∀ c∈XE left[j] bs[k],F4 c
  ·rw [show zcQ left[j] bs[k]=(XE left[j] bs[k],true) from if_pos hFc]
   refine jL (ju (zz (by omega) (by omega) (zn (fun e=>no (fun q=>?_)) (fun e=>?_))))
   ·have:=q.2
    rw [split3] at this
    simp only [List.length_append] at this
    simp at e
    omega
   ·have e':(xz (left.take j) bs[k]).length+(XE left[j] bs[k]).length≤400:=by simp at e;omega
    refine jm (by omega) (zz (by omega) (by omega) (hn2 hjl _ ⟨by simp,by omega,?_,?_⟩))
    ·rw [List.take_succ_eq_append_getElem hjl,ZJ,X7]
    ·rw [List.take_succ_eq_append_getElem hjl,ZJ,X7]
     exact ⟨u5.2 ⟨hok.1,hFc⟩,by rw [List.length_append];exact e'⟩
  ·rw [show zcQ left[j] bs[k]=([],false) from if_neg hFc]
   refine jL (z7 (z7 (no (fun q=>hFc ?_))))
   have:=q.1
   rw [split3] at this
   exact (u5.1 (u5.1 this).2).1
 ·have hjge:left.length≤j:=by simpa using hc2
  rw [List.take_of_length_le hjge] at hok ⊢
  have he2:lgo [a] bs=lgo (xz left bs[k]) (bs.drop (k+1)):=by
   rw [he];conv=>lhs;unfold lgo
   rw [if_pos hok]
  refine zn (fun e=>?_) (fun e=>?_)
  ·have:xz left bs[k]=[]:=by
    have:(xz left bs[k]).length=0:=by
     have:((xz left bs[k]).length:Int)=0:=by simpa using e
     omega
    exact List.length_eq_zero_iff.1 this
   rw [this] at he2 ⊢
   rw [he2,zez] at h
   exact h
  ·exact zz (by omega) (by omega) (hn hlt _ ⟨by simp,by omega,Vr hB hbk,hok,he2⟩)
def IV (l:List zl):Prop:=∀ f∈l,B4 f.xWhere∧F4 f.xWhere
theorem FV.iv {l:List zE} (h:FV l):IV (l.map fl):=fun f hf=>by
 obtain ⟨g,hg,rfl⟩:=List.mem_map.1 hf
 exact ⟨(h.2 g hg).b4,(h.2 g hg).f4⟩
def whs (l:List zl):List za:=l.map (·.xWhere)
theorem IV.aB {l:List zl} (h:IV l):aB (whs l):=fun c hc=>by
 obtain ⟨f,hf,rfl⟩:=List.mem_map.1 hc
 exact (h f hf).1
theorem IV.take {l:List zl} (h:IV l) (n:Nat):IV (l.take n):=fun f hf=>h f (List.mem_of_mem_take hf)
def zg3 (l:List zl) (n:Nat) (h:n<l.length):Option (List za):=Yl l[n].xWhere (whs (l.take n))
end
end Go.Proofs.YtgpdnnhmndlljaaGreatDoor
