import Derived.Test.YtgpdnnhmndlljaaGreatDoorMA1
import Derived.RangeFuncMany
import Derived.RangeFuncCalls
import Derived.RangeFuncLeaves
import Derived.TacticsIn
import Derived.Test.YtgpdnnhmndlljaaGreatDoorEls
import Derived.Test.YtgpdnnhmndlljaaGreatDoorMA0
import Derived.Laws.BitsLemmas
set_option linter.unusedSimpArgs false
set_option linter.unusedVariables false
set_option linter.unusedSectionVars false
namespace Go.Proofs.YtgpdnnhmndlljaaGreatDoor
section
open Go.RowKit
def zmL {α:Type} (xs:List α) (κ:α→α→α→α→Prop):Prop:=∃ a b c d r,xs=a :: b :: c :: d :: r∧κ a b c d
theorem za6 {w:World} {b o:Nat} {cs ds:List Value} (h:w.rangeAt b o cs) (k:w.rangeAt b (o+cs.length) ds):w.rangeAt b o (cs++ds):=fun j v hv=>by
 rw [List.getElem?_append] at hv
 split at hv
 ·exact h j v hv
 ·have:=k (j - cs.length) v hv
  rwa [show o+cs.length+(j - cs.length)=o+j by omega] at this
theorem zkb {α:Type} {E':El α} {F0:Nat→Prop} {wr:World} {v:Value} {xs:List α} {a b c d:α} (S:Sl E' F0 wr v xs) (h:∃ r,xs=a :: b :: c :: d :: r) :
  ∃ c0 c1 c2 c3,E'.cells F0 wr a c0∧E'.cells F0 wr b c1∧E'.cells F0 wr c c2∧E'.cells F0 wr d c3∧zhu wr F0 v 0 E'.size (c0++(c1++(c2++c3))):=by
 obtain ⟨r,rfl⟩:=h
 obtain ⟨p,cap,rfl,hc,hr⟩:=S
 obtain ⟨g,off,rfl,hfb,hx⟩:=hr (by simp)
 obtain ⟨c0,h0,k0⟩:=hx 0 a rfl
 obtain ⟨c1,h1,k1⟩:=hx 1 b rfl
 obtain ⟨c2,h2,k2⟩:=hx 2 c rfl
 obtain ⟨c3,h3,k3⟩:=hx 3 d rfl
 have l0:=E'.len _ _ _ _ h0
 have l1:=E'.len _ _ _ _ h1
 have l2:=E'.len _ _ _ _ h2
 refine ⟨c0,c1,c2,c3,h0,h1,h2,h3,g,off,_,cap,rfl,hfb,?_⟩
 have e0:off+(0:Int).toNat * E'.size=off:=by simp
 rw [e0]
 refine za6 (by simpa using k0) (za6 ?_ (za6 ?_ ?_))
 ·rw [l0];simpa using k1
 ·rw [l0,l1,show off+E'.size+E'.size=off+2 * E'.size by omega];exact k2
 ·rw [l0,l1,l2,show off+E'.size+E'.size+E'.size=off+3 * E'.size by omega];exact k3
section
variable {P:Program} {n:Nat} {G D:Nat→Prop} {w0:World} {Q:Exit→Act→World→Prop} {R:Act→World→Prop} {E:Env} {L M:List Ch} {φ:Prop}
variable {d:Tmp} {ty:TypeId} {pos:String} {aft:Array Edge} {gd:Option (Nat×Bool)} {Tk:Act→World→Prop} {Lr:List Ch} {x y:Operand} {T T' S:TypeId} {e sz by':Nat} {at':Array TypeId}
theorem zmX {α:Type} {El':El α} {v:Value} {xs:List α} {ch:Ch} {κ:α→α→α→α→Prop} {e' s:Nat} {r:Bool} (M:uk P n G D w0 E ⟨some d,.sliceToArrayPointer T x,ty,pos,aft,gd⟩ Tk R Lr L) (i:Nat) (hi:xz Lr i=some ch) (hc:YD ch El' v xs) (hx:oev E x=some v) (hd:Nat.blt d n=true)
  (hT:zeb P T=some (4,e',r,s)) (hes:El'.size=1) (k:∀ p q s t,(∃ r,xs=p :: q :: s :: t :: r)→Nx n G D w0 R ((d,pEl v 0 1 0) :: E) L (κ p q s t)):Nx n G D w0 Tk E L (zmL xs κ):=fun a w hE hm hφ=>by
 obtain ⟨p,q,s,t,r,hxs,hκ⟩:=hφ
 refine M.val (v:=pEl v 0 1 0) (φ:=κ p q s t) (ψ:=κ p q s t) hd rfl (fun ρ w hE hm _=>?_) id (k p q s t ⟨r,hxs⟩) a w hE hm hκ
 obtain ⟨g,cap,rfl,hcap,hr⟩:=hc _ _ (hm.get hi)
 obtain ⟨b,off,rfl,_⟩:=hr (by rw [hxs];simp)
 have hl:¬ xs.length<4:=by rw [hxs];simp
 have hu:=(zgb hT).1
 simp [execOp,hE _ _ hx,Instr.arrayAt,run_underlying hu,hl,u5]
def yl (b:Nat) (o:Obj):Ch where
 foot:=fun x=>x=b
 holds:=fun _ w=>w.heap[b]?=some o
 keep:=fun _ _ _ _ _ h k=>(h b (.inr rfl)).trans k
def Zb {σ:Type} (C:σ→List Ch→Prop) (B:Nat→Prop) (s:σ):Ch where
 foot:=B
 holds:=fun F w=>∃ L,C s L∧(∀ b,ut L b↔B b)∧(L.Pairwise fun (c d:Ch)=>∀ b,c.foot b→¬ d.foot b)∧∀ c∈L,c.holds F w
 keep:=fun F F' w w' hF hb ⟨L,h1,h2,h3,h4⟩=>⟨L,h1,h2,h3,fun c hc=>c.keep F F' w w' hF (fun b h=>hb b (h.imp id (fun k=>(h2 b).1 ⟨c,hc,k⟩))) (h4 c hc)⟩
theorem zco {σ:Type} {C:σ→List Ch→Prop} {B:Nat→Prop} {s:σ} {L R:List Ch} {w:World} (h:∀ b,ut L b↔B b) (b:Nat):fz G (Zb C B s :: R) w b↔fz G (L++R) w b:=by
 constructor
 ·rintro ⟨h1,h2,h3⟩
  refine ⟨h1,h2,fun c hc hk=>?_⟩
  rcases List.mem_append.1 hc with e | e
  ·exact h3 _ (List.mem_cons_self ..) ((h b).1 ⟨c,e,hk⟩)
  ·exact h3 c (List.mem_cons_of_mem _ e) hk
 ·rintro ⟨h1,h2,h3⟩
  refine ⟨h1,h2,fun c hc hk=>?_⟩
  rcases List.mem_cons.1 hc with e | e
  ·subst e
   obtain ⟨d,hd,hk'⟩:=(h b).2 hk
   exact h3 d (List.mem_append.2 (.inl hd)) hk'
  ·exact h3 c (List.mem_append.2 (.inr e)) hk
theorem Mem.openC {σ:Type} {C:σ→List Ch→Prop} {B:Nat→Prop} {s:σ} {R:List Ch} {w:World} (m:Mem G D w0 (Zb C B s :: R) w):∃ L,C s L∧(∀ b,ut L b↔B b)∧Mem G D w0 (L++R) w:=by
 obtain ⟨L,h1,h2,h3,h4⟩:=m.hold _ (List.mem_cons_self ..)
 have hr:∀ c∈L,∀ b,c.foot b→(Zb C B s).foot b:=fun c hc b hb=>(h2 b).1 ⟨c,hc,hb⟩
 refine ⟨L,h1,h2,m.fresh,m.os,m.tape,m.output,m.size,m.old,fun c hc b hb=>?_,List.pairwise_append.2 ⟨h3,(List.pairwise_cons.1 m.disj).2,fun c hc d hd b k1 k2=>(List.pairwise_cons.1 m.disj).1 d hd b (hr c hc b k1) k2⟩,fun c hc=>?_⟩
 ·rcases List.mem_append.1 hc with e | e
  ·exact m.range _ (List.mem_cons_self ..) b (hr c e b hb)
  ·exact m.range c (List.mem_cons_of_mem _ e) b hb
 ·rcases List.mem_append.1 hc with e | e
  ·exact c.keep _ _ w w (fun b hb=>(zco h2 b).1 hb) (fun _ _=>rfl) (h4 c e)
  ·exact c.keep _ _ w w (fun b hb=>(zco h2 b).1 hb) (fun _ _=>rfl) (m.hold c (List.mem_cons_of_mem _ e))
theorem Mem.closeC {σ:Type} {C:σ→List Ch→Prop} {s:σ} {L R:List Ch} {w:World} (m:Mem G D w0 (L++R) w) (h:C s L):Mem G D w0 (Zb C (ut L) s :: R) w:=by
 have inL:∀ c∈L,c∈L++R:=fun c hc=>List.mem_append.2 (.inl hc)
 have inR:∀ c∈R,c∈L++R:=fun c hc=>List.mem_append.2 (.inr hc)
 have hd:=List.pairwise_append.1 m.disj
 refine ⟨m.fresh,m.os,m.tape,m.output,m.size,m.old,fun c hc b hb=>?_,List.pairwise_cons.2 ⟨fun d hd' b ⟨c,hc,k1⟩ k2=>hd.2.2 c hc d hd' b k1 k2,hd.2.1⟩,fun c hc=>?_⟩
 ·rcases List.mem_cons.1 hc with e | e
  ·subst e
   obtain ⟨c,hc,k⟩:=hb
   exact m.range c (inL c hc) b k
  ·exact m.range c (inR c e) b hb
 ·rcases List.mem_cons.1 hc with e | e
  ·subst e
   exact ⟨L,h,fun _=>Iff.rfl,hd.1,fun c hc=>c.keep _ _ w w (fun b hb=>(zco (fun _=>Iff.rfl) b).2 hb) (fun _ _=>rfl) (m.hold c (inL c hc))⟩
  ·exact c.keep _ _ w w (fun b hb=>(zco (fun _=>Iff.rfl) b).2 hb) (fun _ _=>rfl) (m.hold c (inR c e))
def zh4 {α σ:Type} (P:Program) (l:Nat) (El':El α) (C:σ→List Ch→Prop) (Y:σ→α→Bool→(Bool×σ→Prop)→Prop):Prop :=
 ∀ {G D:Nat→Prop} {w0 w:World} {R L:List Ch} {s:σ} {x:α} {ok:Bool} {cs:List Value} {κ:Bool×σ→Prop} (m:Nat),C s L→Mem G D w0 (L++R) w→El'.cells (fz G (L++R) w) w x cs→Y s x ok κ →
  YieldAt Fence.wide m P l #[.agg cs.toArray,.bool ok] w fun e w'=>∃ b s' L',e=.returned (.bool b)∧C s' L'∧Mem G D w0 (L'++R) w'∧κ (b,s')
theorem zlk {o:Oper} {a:Act} {w:World} {next:Act→World→Prop} {m:Nat} (h:o.wp P a w next Q):o.wpIn Fence.wide m P a w next Q:=by
 refine ⟨fun f _=>trivial,?_⟩
 have h':o.upon P a next Q ((execOp a.eval o).run P w):=h
 show o.uponIn Fence.wide m P a next Q ((execOp a.eval o).run P w)
 revert h'
 generalize (execOp a.eval o).run P w=r
 intro h'
 cases r with
 | ok x w' =>
  cases x <;> first | exact h' | (refine ⟨fun e=>by simp [Fence.wide] at e,?_⟩;exact callsIn_wide.2 h') | (refine ⟨fun e=>by simp [Fence.wide] at e,fun c cs _=>?_⟩;obtain ⟨v,w'',k1,k2⟩:=h' c cs;exact ⟨v,w'',k1,stepsIn_wide.2 k2⟩) | exact False.elim h'
 | halt x w'=>cases x <;> first | exact h' | exact False.elim h'
theorem zdm {id:Nat} {l:List Oper} (h:Nx n G D w0 (wpListIn Fence.wide 3 P l.toArray Q l) E L φ):Nx n G D w0 ((Code.region id l.toArray false).wp P Q) E L φ:=fun a w hE hm hφ=>wpIn_wide.1 (wpIn_region_lit (h a w hE hm hφ))
theorem zdv {ops:Array Oper} {m:Nat} {F:Fence} (h:Nx n G D w0 (Q .normal) E L φ):Nx n G D w0 (wpListIn F m P ops Q []) E L φ:=h
theorem zmd {m:Nat} {ops:Array Oper} {rest:List Oper} {dst:Option Tmp} {op:Op} (h:Nx n G D w0 (fun a w=>Oper.wp P ⟨dst,op,ty,pos,aft,none⟩ a w (wpListIn Fence.wide m P ops Q rest) Q) E L φ):Nx n G D w0 (wpListIn Fence.wide m P ops Q (⟨dst,op,ty,pos,aft,none⟩ :: rest)) E L φ :=
 fun a w hE hm hφ=>wpListIn_plain rfl fun K hK=>zlk (by
  have:=h a w hE hm hφ
  show Oper.upon _ _ _ _ _ _
  have h':Oper.upon P ⟨dst,op,ty,pos,aft,none⟩ a (wpListIn Fence.wide m P ops Q rest) Q ((execOp a.eval ⟨dst,op,ty,pos,aft,none⟩).run P w):=this
  revert h'
  generalize (execOp a.eval ⟨dst,op,ty,pos,aft,none⟩).run P w=r
  intro h'
  cases r with
  | ok x w' =>
   cases x <;> first | exact hK _ _ h' | (refine Calls.mono h' ?_;intro e w'' hh;cases e <;> first | exact hK _ _ hh | exact hh) | (refine Rows.mono h' ?_;intro e w'' hh;exact hK _ _ hh) | exact False.elim h'
  | halt x w'=>cases x <;> first | exact h' | exact False.elim h')
theorem stY {m:Nat} {ops:Array Oper} {rest:List Oper} {dst:Option Tmp} {op:Op}:uk P n G D w0 E ⟨dst,op,ty,pos,aft,none⟩ (wpListIn Fence.wide m P ops Q (⟨dst,op,ty,pos,aft,none⟩ :: rest)) (wpListIn Fence.wide m P ops Q rest) L L :=
 ⟨fun hd ho hr hψ k=>zmd (zhf hd ho hr hψ k)⟩
theorem zf5 {α σ:Type} {l m:Nat} {El':El α} {C:σ→List Ch→Prop} {Y:σ→α→Bool→(Bool×σ→Prop)→Prop} (hY:zh4 P l El' C Y) {B:Nat→Prop} {s:σ} {z:α} {ok:Bool} {cs:List Value} {κ:Bool×σ→Prop} {f:Operand} {args:List Operand} {ops:Array Oper} {rest:List Oper}
  (hf:oev E f=some (.func (.yield l) #[] #[])) (ha:zec E args=some [.agg cs.toArray,.bool ok]) (hd:Nat.blt d n=true) (hc:∀ w,Mem G D w0 (Zb C B s :: L) w→El'.cells (fz G (Zb C B s :: L) w) w z cs)
  (k:∀ b s' B',Nx n G D w0 (wpListIn Fence.wide m P ops Q rest) ((d,.bool b) :: E) (Zb C B' s' :: L) (κ (b,s'))) :
  Nx n G D w0 (wpListIn Fence.wide m P ops Q (⟨some d,.call {callee:=.value f,args:=args.toArray,argTypes:=at'},ty,pos,aft,none⟩ :: rest)) E (Zb C B s :: L) (Y s z ok κ):=fun a w hE hm hφ=>by
 refine wpListIn_plain rfl fun K hK=>?_
 obtain ⟨Lc,h1,h2,hm'⟩:=hm.openC
 obtain ⟨fn,tmps,assign,body,hy,hR⟩:=hY (m - 1) h1 hm' (El'.keep _ _ w w _ _ (fun b hb=>(zco h2 b).1 hb) (fun _ _=>rfl) (hc w hm)) hφ
 have hx:=hE.eval hf
 have hargs:=zaZ (fun x v h=>hE.eval h) ha
 have hrun:(execOp a.eval ⟨some d,.call {callee:=.value f,args:=args.toArray,argTypes:=at'},ty,pos,aft,none⟩).run P w=.ok (.round l fn tmps assign body) w:=by
  simp [execOp,resolve,Deferred.ofValue,hx,invoke,hargs,hy]
 refine ⟨fun f _=>trivial,?_⟩
 change Oper.uponIn Fence.wide m P _ a K Q ((execOp a.eval ⟨some d,.call {callee:=.value f,args:=args.toArray,argTypes:=at'},ty,pos,aft,none⟩).run P w)
 rw [hrun,Oper.uponIn_round]
 refine ⟨fun e=>by simp [Fence.wide] at e,hR.mono ?_⟩
 rintro e w' ⟨b,s',L',rfl,q1,q2,q3⟩
 exact hK _ _ (k b s' _ _ w' (hE.put hd _) (q2.closeC q1) q3)
theorem zj2 {o:Oper} {a:Act} {w:World} {next:Act→World→Prop} {m l:Nat} (hnd:∀ c,o.op≠.defer c) (h:o.wp P a w next Q):o.wpIn (Fence.wide.inRound l) m P a w next Q:=by
 refine ⟨fun f _=>trivial,?_⟩
 have h':o.upon P a next Q ((execOp a.eval o).run P w):=h
 show o.uponIn (Fence.wide.inRound l) m P a next Q ((Oper.semAt (some l) a.eval o).run P w)
 rw [Oper.semAt_some l a.eval o hnd]
 revert h'
 generalize (execOp a.eval o).run P w=r
 intro h'
 cases r with
 | ok x w' =>
  cases x <;> first | exact h' | (refine ⟨fun e=>by simp [Fence.wide] at e,?_⟩;exact CallsIn.inRound l (callsIn_wide.2 h')) | (refine ⟨fun e=>by simp [Fence.wide] at e,fun c cs _=>?_⟩;obtain ⟨v,w'',k1,k2⟩:=h' c cs;exact ⟨v,w'',k1,stepsIn_wide.2 k2⟩) | exact False.elim h'
 | halt x w'=>cases x <;> first | exact h' | exact False.elim h'
section
variable {F:Fence} {m l:Nat}
theorem zix {x y:Code} (h:Nx n G D w0 (x.wpIn F m P (Exit.then (y.wpIn F m P Q) Q)) E L φ):Nx n G D w0 ((Code.seq x y).wpIn F m P Q) E L φ:=fun a w hE hm hφ=>wpIn_seq (h a w hE hm hφ)
theorem zkK {id:Nat} {c:Code} (h:Nx n G D w0 (c.wpIn F m P (Exit.inBlock id Q)) E L φ):Nx n G D w0 ((Code.block id c).wpIn F m P Q) E L φ:=fun a w hE hm hφ=>wpIn_block (h a w hE hm hφ)
theorem zaR {id:Nat} {l:List Oper} (h:Nx n G D w0 (wpListIn F m P l.toArray Q l) E L φ):Nx n G D w0 ((Code.region id l.toArray false).wpIn F m P Q) E L φ:=fun a w hE hm hφ=>wpIn_region_lit (h a w hE hm hφ)
theorem zlZ (h:Nx n G D w0 (Q .normal) E L φ):Nx n G D w0 (Code.skip.wpIn F m P Q) E L φ:=fun a w hE hm hφ=>wpIn_skip (h a w hE hm hφ)
theorem zmY (h:Nx n G D w0 (Q .ret) E L φ):Nx n G D w0 (Code.ret.wpIn F m P Q) E L φ:=fun a w hE hm hφ=>wpIn_ret (h a w hE hm hφ)
theorem zl8 {c:Operand} {x y:Code} {t:Bool} {A B:Prop} (hc:oev E c=some (.bool t)) (hx:Nx n G D w0 (x.wpIn F m P Q) E L A) (hy:Nx n G D w0 (y.wpIn F m P Q) E L B):Nx n G D w0 ((Code.cond c x y).wpIn F m P Q) E L (ifW t A B) :=
 fun a w hE hm hφ=>wpIn_cond_split (hE.eval hc) (fun h=>hx a w hE hm (hφ.1 h)) (fun h=>hy a w hE hm (hφ.2 h))
theorem zhh {ops:Array Oper} {rest:List Oper} {dst:Option Tmp} {op:Op} (hnd:∀ c,op≠.defer c) (h:Nx n G D w0 (fun a w=>Oper.wp P ⟨dst,op,ty,pos,aft,none⟩ a w (wpListIn (Fence.wide.inRound l) m P ops Q rest) Q) E L φ):Nx n G D w0 (wpListIn (Fence.wide.inRound l) m P ops Q (⟨dst,op,ty,pos,aft,none⟩ :: rest)) E L φ :=
 fun a w hE hm hφ=>by
  unfold wpListIn
  rw [if_pos (by simp [Region.wanted])]
  exact zj2 hnd (h a w hE hm hφ)
theorem stR {ops:Array Oper} {rest:List Oper} {dst:Option Tmp} {op:Op} (hnd:∀ c,op≠.defer c):uk P n G D w0 E ⟨dst,op,ty,pos,aft,none⟩ (wpListIn (Fence.wide.inRound l) m P ops Q (⟨dst,op,ty,pos,aft,none⟩ :: rest)) (wpListIn (Fence.wide.inRound l) m P ops Q rest) L L :=
 ⟨fun hd ho hr hψ k=>zhh hnd (zhf hd ho hr hψ k)⟩
end
end
end
section
open Go.RowKit
@[ext] structure zg where
 xLo:Int
 xHi:Int
 deriving DecidableEq
def zW (x:zg):List Value:=[(.int .i64 x.xLo),(.int .i64 x.xHi)]
def zd:El zg:=El.flat 2 zW (by decide) (fun _=>rfl) (fun x u h=>by simp only [zW,List.mem_cons,List.not_mem_nil,or_false] at h;rcases h with rfl | rfl <;> rfl)
theorem zy:UC zd zW:=Ye
abbrev uB:DEl zg:=zb3 zd zW zy
@[ext] structure jJ where
 xField:Int
 xLo:Int
 xHi:Int
 xNot:Bool
 deriving DecidableEq
def ZF (x:jJ):List Value:=[(.int .i64 x.xField),(.int .i64 x.xLo),(.int .i64 x.xHi),(.bool x.xNot)]
def uY:El jJ:=El.flat 4 ZF (by decide) (fun _=>rfl) (fun x u h=>by simp only [ZF,List.mem_cons,List.not_mem_nil,or_false] at h;rcases h with rfl | rfl | rfl | rfl <;> rfl)
theorem x6:UC uY ZF:=Ye
abbrev zmw:DEl jJ:=zb3 uY ZF x6
@[ext] structure zE where
 xTests:(List jJ)
 xAction:Int
 xChain:Int
 deriving DecidableEq
def ze2 (u:Value) (x:zE):List Value:=[u,(.int .i64 x.xAction),(.int .i64 x.xChain)]
def xH:El zE where
 size:=3
 cells:=fun F w x cs=>∃ u:Value,cs=ze2 u x∧Sl uY F w u x.xTests
 pos:=by decide
 len:=fun F w x cs ⟨u,e,_⟩=>by rw [e];rfl
 one:=fun F w x cs ⟨u,e,h⟩ v hv=>by
  subst e
  simp only [ze2,List.mem_cons,List.not_mem_nil,or_false] at hv
  rcases hv with e | e | e
  ·subst e;exact h.one
  ·subst e;exact rfl
  ·subst e;exact rfl
 keep:=fun F F' w w' x cs hF hb ⟨u,e,h⟩=>⟨u,e,h.keep hF hb⟩
def jL:DEl zE where
 el:=xH
 own:=fun B w x cs=>∃ u:Value,cs=ze2 u x∧Dp zmw 165 B w u x.xTests
 read:=fun B w x cs ⟨u,e,h⟩=>⟨u,e,h.sl⟩
 keep:=fun B w w' x cs hk ⟨u,e,h⟩=>⟨u,e,h.keep hk⟩
 lt:=fun B w x cs ⟨u,e,h⟩=>h.lt
@[ext] structure zQ where
 xChains:(List (List zE))
 xAccept:Bool
 deriving DecidableEq
@[ext] structure zdu where
 x0:Int
 x1:Int
 x2:Int
 x3:Int
 deriving DecidableEq
@[ext] structure zI where
 xFrom:Int
 xTo:Int
 xPort:Int
 xProto:Int
 deriving DecidableEq
@[ext] structure za where
 x0:(List zg)
 x1:(List zg)
 x2:(List zg)
 x3:(List zg)
 deriving DecidableEq
def zaT (u:Value×Value×Value×Value) (x:za):List Value:=[u.1,u.2.1,u.2.2.1,u.2.2.2]
def zi:El za where
 size:=4
 cells:=fun F w x cs=>∃ u:Value×Value×Value×Value,cs=zaT u x∧Sl zd F w u.1 x.x0∧Sl zd F w u.2.1 x.x1∧Sl zd F w u.2.2.1 x.x2∧Sl zd F w u.2.2.2 x.x3
 pos:=by decide
 len:=fun F w x cs ⟨u,e,_⟩=>by rw [e];rfl
 one:=fun F w x cs ⟨u,e,h⟩ v hv=>by
  subst e
  simp only [zaT,List.mem_cons,List.not_mem_nil,or_false] at hv
  rcases hv with e | e | e | e
  ·subst e;exact h.1.one
  ·subst e;exact h.2.1.one
  ·subst e;exact h.2.2.1.one
  ·subst e;exact h.2.2.2.one
 keep:=fun F F' w w' x cs hF hb ⟨u,e,h⟩=>⟨u,e,h.1.keep hF hb,h.2.1.keep hF hb,h.2.2.1.keep hF hb,h.2.2.2.keep hF hb⟩
@[ext] structure uU where
 xAccept:Bool
 deriving DecidableEq
@[ext] structure uo where
 deriving DecidableEq
@[ext] structure yc where
 deriving DecidableEq
@[ext] structure Z2 where
 xChain:Int
 deriving DecidableEq
@[ext] structure zn where
 xWhere:za
 xAccept:Bool
 deriving DecidableEq
def zfO (u:Value×Value×Value×Value) (x:zn):List Value:=[u.1,u.2.1,u.2.2.1,u.2.2.2,(.bool x.xAccept)]
def zD:El zn where
 size:=5
 cells:=fun F w x cs=>∃ u:Value×Value×Value×Value,cs=zfO u x∧Sl zd F w u.1 x.xWhere.x0∧Sl zd F w u.2.1 x.xWhere.x1∧Sl zd F w u.2.2.1 x.xWhere.x2∧Sl zd F w u.2.2.2 x.xWhere.x3
 pos:=by decide
 len:=fun F w x cs ⟨u,e,_⟩=>by rw [e];rfl
 one:=fun F w x cs ⟨u,e,h⟩ v hv=>by
  subst e
  simp only [zfO,List.mem_cons,List.not_mem_nil,or_false] at hv
  rcases hv with e | e | e | e | e
  ·subst e;exact h.1.one
  ·subst e;exact h.2.1.one
  ·subst e;exact h.2.2.1.one
  ·subst e;exact h.2.2.2.one
  ·subst e;exact rfl
 keep:=fun F F' w w' x cs hF hb ⟨u,e,h⟩=>⟨u,e,h.1.keep hF hb,h.2.1.keep hF hb,h.2.2.1.keep hF hb,h.2.2.2.keep hF hb⟩
@[ext] structure ji where
 xSides:(List (List zg))
 deriving DecidableEq
def zga (u:Value) (x:ji):List Value:=[u]
def xA:El ji where
 size:=1
 cells:=fun F w x cs=>∃ u:Value,cs=zga u x∧Sl (zY zd) F w u x.xSides
 pos:=by decide
 len:=fun F w x cs ⟨u,e,_⟩=>by rw [e];rfl
 one:=fun F w x cs ⟨u,e,h⟩ v hv=>by
  subst e
  simp only [zga,List.mem_cons,List.not_mem_nil,or_false] at hv
  subst hv;exact h.one
 keep:=fun F F' w w' x cs hF hb ⟨u,e,h⟩=>⟨u,e,h.keep hF hb⟩
def um:DEl ji where
 el:=xA
 own:=fun B w x cs=>∃ u:Value,cs=zga u x∧Dp (dSl uB 89) 90 B w u x.xSides
 read:=fun B w x cs ⟨u,e,h⟩=>⟨u,e,h.sl⟩
 keep:=fun B w w' x cs hk ⟨u,e,h⟩=>⟨u,e,h.keep hk⟩
 lt:=fun B w x cs ⟨u,e,h⟩=>h.lt
@[ext] structure zV where
 xWhere:ji
 xAccept:Bool
 deriving DecidableEq
def zeq (u:Value) (x:zV):List Value:=[u,(.bool x.xAccept)]
def jd:El zV where
 size:=2
 cells:=fun F w x cs=>∃ u:Value,cs=zeq u x∧Sl (zY zd) F w u x.xWhere.xSides
 pos:=by decide
 len:=fun F w x cs ⟨u,e,_⟩=>by rw [e];rfl
 one:=fun F w x cs ⟨u,e,h⟩ v hv=>by
  subst e
  simp only [zeq,List.mem_cons,List.not_mem_nil,or_false] at hv
  rcases hv with e | e
  ·subst e;exact h.one
  ·subst e;exact rfl
 keep:=fun F F' w w' x cs hF hb ⟨u,e,h⟩=>⟨u,e,h.keep hF hb⟩
def xE:DEl zV where
 el:=jd
 own:=fun B w x cs=>∃ u:Value,cs=zeq u x∧Dp (dSl uB 89) 90 B w u x.xWhere.xSides
 read:=fun B w x cs ⟨u,e,h⟩=>⟨u,e,h.sl⟩
 keep:=fun B w w' x cs hk ⟨u,e,h⟩=>⟨u,e,h.keep hk⟩
 lt:=fun B w x cs ⟨u,e,h⟩=>h.lt
@[ext] structure jx where
 xChain:Int
 xNext:Int
 deriving DecidableEq
def Zp (x:jx):List Value:=[(.int .i64 x.xChain),(.int .i64 x.xNext)]
def jz:El jx:=El.flat 2 Zp (by decide) (fun _=>rfl) (fun x u h=>by simp only [Zp,List.mem_cons,List.not_mem_nil,or_false] at h;rcases h with rfl | rfl <;> rfl)
theorem uy:UC jz Zp:=Ye
@[ext] structure uP where
 xChain:Int
 xPlace:Int
 deriving DecidableEq
def zab (x:uP):List Value:=[(.int .i64 x.xChain),(.int .i64 x.xPlace)]
def jy:El uP:=El.flat 2 zab (by decide) (fun _=>rfl) (fun x u h=>by simp only [zab,List.mem_cons,List.not_mem_nil,or_false] at h;rcases h with rfl | rfl <;> rfl)
theorem Za:UC jy zab:=Ye
@[ext] structure UP where
 xName:ByteArray
 xTop:Int
 deriving DecidableEq
def XQ (x:UP):List Value:=[(.string x.xName),(.int .i64 x.xTop)]
def jb:El UP:=El.flat 2 XQ (by decide) (fun _=>rfl) (fun x u h=>by simp only [XQ,List.mem_cons,List.not_mem_nil,or_false] at h;rcases h with rfl | rfl <;> rfl)
theorem zaC:UC jb XQ:=Ye
inductive xS where
 | kDeciding (x:uU)
 | kCalling (x:Z2)
 | kReturning (x:uo)
 | kPassing (x:yc)
def Ve:xS→Value
 | .kDeciding x=>.iface 262 (.agg #[(.bool x.xAccept)])
 | .kCalling x=>.iface 264 (.agg #[(.int .i64 x.xChain)])
 | .kReturning x=>.iface 266 (.agg #[])
 | .kPassing x=>.iface 267 (.agg #[])
def xS.casesW (a:xS) (p0:uU→Prop) (p1:Z2→Prop) (p2:uo→Prop) (p3:yc→Prop):Prop:=match a with
 | .kDeciding x=>p0 x
 | .kCalling x=>p1 x
 | .kReturning x=>p2 x
 | .kPassing x=>p3 x
def zB:List UP:=[⟨(ByteArray.mk #[102,114,111,109]),65535⟩,⟨(ByteArray.mk #[116,111]),65535⟩,⟨(ByteArray.mk #[112,111,114,116]),255⟩,⟨(ByteArray.mk #[112,114,111,116,111]),7⟩]
def X1 (code_0:(List UInt8)) (κ:((List UInt8)×Int)→Prop):Prop :=
 jnW (fun (xs68:(List UInt8))=>κ (xs68,0)) (fun k71=>ifW (decide (2000<(code_0.length:Int))) (Zk code_0 0 2000 (fun xs4=>k71 xs4)) (k71 code_0))
def zq (r_0_b:(List UInt8)) (r_0_p:Int) (n_1:Int) (κ:(Int×Int)→Prop):Prop :=
 js r_0_p 1 (fun t5=>jnW (fun (t66:Bool)=>ifW t66 (κ (0,t5)) (YU t5 1 (fun t68=>ifW (decide (t68<(r_0_b.length:Int))) (zH r_0_b t68 (fun e69=>zbz (e69.toNat:Int) n_1 (fun t71=>κ (t71,t5)))) (zbz t68 (r_0_b.length:Int) (fun t72=>zH r_0_b t72 (fun e73=>zgD (e73.toNat:Int) 131 (fun t75=>zgD t68 7 (fun t76=>js t76 3 (fun t77=>zbz t77 (r_0_b.length:Int) (fun t78=>zH r_0_b t78 (fun e79=>zgD (e79.toNat:Int) 1117 (fun t81=>js t75 t81 (fun t82=>zgD t68 29 (fun t83=>js t82 t83 (fun t84=>zjb t68 (r_0_b.length:Int) (fun t85=>zgD t85 53 (fun t86=>js t84 t86 (fun t87=>zjb t87 64 (fun t88=>zmi t87 t88 (fun t89=>zbz t89 n_1 (fun t90=>κ (t90,t5)))))))))))))))))))))) (fun k67=>ifW (decide (n_1<1)) (k67 true) (k67 (decide ((r_0_b.length:Int)=0)))))
def xc (r_0_b:(List UInt8)) (r_0_p:Int) (n_1:Int) (κ:(Bool×Int)→Prop):Prop :=
 jnW (fun ((t68,t69):(Int×Bool))=>κ (t69,t68)) (fun k70=>ifW (decide (0<n_1)) (zq r_0_b r_0_p n_1 (fun (r5,r6)=>YU n_1 1 (fun t7=>k70 (r6,(decide (r5=t7)))))) (k70 (r_0_p,false)))
def uz (n_0:Int) (κ:Int→Prop):Prop :=
 jnW (fun (t61:Bool)=>ifW t61 (κ 65535) (ifW (decide (n_0=2)) (κ 255) (ifW (decide (n_0=3)) (κ 7) (κ (-1))))) (fun k62=>ifW (decide (n_0=0)) (k62 (decide (n_0=0))) (k62 (decide (n_0=1))))
def Ud (r_0_b:(List UInt8)) (r_0_p:Int) (top_1:Int) (n_2:Int) (κ:(zg×Int)→Prop):Prop :=
 js top_1 1 (fun t7=>zq r_0_b r_0_p (min 256 t7) (fun (r8,r9)=>jnW (fun ((t144,t145):(Int×Int))=>jnW (fun ((t147,t148):(Int×Int))=>xc r_0_b t147 n_2 (fun (r174,r175)=>ifW r174 (jnW (fun ((t176,t177,t178):(Int×Int×Int))=>κ ((zg.mk t177 t178),t176)) (fun k179=>zq r_0_b r175 3 (fun (r181,r182)=>zH ([(zg.mk (w64 (t148+1)) t148),(zg.mk (-1) t148),(zg.mk t145 (w64 (top_1+1)))]) r181 (fun e183=>k179 (r182,e183.xLo,e183.xHi))))) (κ ((zg.mk t145 t148),r175)))) (fun k149=>zq r_0_b t144 4 (fun (r150,r151)=>zq r_0_b r151 256 (fun (r152,r153)=>zq r_0_b r153 4 (fun (r155,r156)=>zH ([0,r150,r152,4096]) r155 (fun e157=>k149 (r156,(min top_1 (w64 (t145+e157)))))))))) (fun k146=>jnW (fun ((t74,t75):(Int×Bool))=>ifW t75 (jnW (fun ((t77,t78):(Int×Int))=>k146 (t77,t78)) (fun k79=>zq r_0_b t74 256 (fun (r80,r81)=>k79 (r81,(min top_1 (w64 ((w64 (r8 * 256))+r80))))))) (k146 (t74,r8))) (fun k76=>ifW (decide (255<top_1)) (zq r_0_b r9 2 (fun (r12,r13)=>k76 (r13,(decide (r12=0))))) (k76 (r9,false))))))
def X2 (r_0_b:(List UInt8)) (r_0_p:Int) (n_1:Int) (κ:(jJ×Int)→Prop):Prop :=
 zq r_0_b r_0_p 4 (fun (r7,r8)=>zq r_0_b r8 4 (fun (r9,r10)=>uz r7 (fun r13=>Ud r_0_b r10 r13 0 (fun (r14,r15)=>jnW (fun ((t152,t153,t154):(Int×Int×Int))=>jnW (fun ((t241,t242,t243):(Int×Int×Int))=>jnW (fun ((t317,t318,t319,t320):(Int×Int×Int×Int))=>κ ((jJ.mk t318 t319 t320 (decide (r9=0))),t317)) (fun k321=>xc r_0_b t241 n_1 (fun (r245,r246)=>ifW r245 (zq r_0_b r246 3 (fun (r247,r248)=>ifW (decide (r247=0)) (zq r_0_b r248 2 (fun (r251,r252)=>zH ([(-1),4]) r251 (fun e253=>k321 (r252,e253,t242,t243)))) (ifW (decide (r247=1)) (js t243 1 (fun t255=>k321 (r248,r7,t255,t243))) (js r13 1 (fun t256=>k321 (r248,r7,t242,t256)))))) (k321 (r246,r7,t242,t243))))) (fun k244=>zq r_0_b t152 8 (fun (r156,r157)=>ifW (decide (r156=0)) (jnW (fun ((t158,t159,t160):(Int×Int×Int))=>k244 (t158,t159,t160)) (fun k161=>zq r_0_b r157 3 (fun (r163,r164)=>zH ([(zg.mk 0 r13),(zg.mk 0 t154),(zg.mk t153 r13)]) r163 (fun e165=>k161 (r164,e165.xLo,e165.xHi))))) (k244 (r157,t153,t154))))) (fun k155=>jnW (fun ((t80,t81):(Int×Bool))=>ifW t81 (zq r_0_b t80 20 (fun (r83,r84)=>jnW (fun ((t85,t86):(Int×Int))=>k155 (t85,r83,t86)) (fun k87=>zq r_0_b r84 8 (fun (r88,r89)=>k87 (r89,(w64 (r83+r88))))))) (k155 (t80,r14.xLo,r14.xHi))) (fun k82=>ifW (decide (r7<2)) (zq r_0_b r15 2 (fun (r18,r19)=>k82 (r19,(decide (r18=0))))) (k82 (r15,false))))))))
def Zq (r_0_b:(List UInt8)) (r_0_p:Int) (n_1:Int) (κ:((List jJ)×Int)→Prop):Prop :=
 zq r_0_b r_0_p 4 (fun (r8,r9)=>jt (fun (nx16:(Int×(List jJ)×Int)→Prop) ((t10,xs12,t15):(Int×(List jJ)×Int))=>ifW (decide (0<t15)) (X2 r_0_b t10 0 (fun (r17,r18)=>xm xs12 ([r17]) (fun _=>YU t15 1 (fun t23=>nx16 (r18,(xs12++([r17])),t23))))) (jnW (fun ((t97,xs99):(Int×(List jJ)))=>κ (xs99,t97)) (fun k102=>xc r_0_b t10 n_1 (fun (r24,r25)=>ifW r24 (zq r_0_b r25 2 (fun (r26,r27)=>ifW (decide (r26=0)) (X2 r_0_b r27 1 (fun (r28,r29)=>xm xs12 ([r28]) (fun _=>k102 (r29,(xs12++([r28])))))) (zav ((jJ.mk 0 0 0 false):jJ) 7 7 (fun xs35=>k102 (r27,xs35))))) (k102 (r25,xs12)))))) (r9,[],r8))
def XW (r_0_b:(List UInt8)) (r_0_p:Int) (first_1:Int) (chains_2:Int) (n_3:Int) (κ:(zE×Int)→Prop):Prop :=
 Zq r_0_b r_0_p 0 (fun (r7,r10)=>zq r_0_b r10 8 (fun (r13,r14)=>zH ([1,1,2,2,3,3,4,5]) r13 (fun e15=>jnW (fun ((t86,t87,t88):(Int×Int×Int))=>jnW (fun ((t173,xs175,t178,t179):(Int×(List jJ)×Int×Int))=>κ ((zE.mk xs175 t178 t179),t173)) (fun k180=>xc r_0_b t88 n_3 (fun (r90,r91)=>ifW r90 (zq r_0_b r91 3 (fun (r92,r93)=>ifW (decide (r92=0)) (zq r_0_b r93 2 (fun (r96,r97)=>zH ([0,6]) r96 (fun e98=>k180 (r97,r7,e98,t87)))) (ifW (decide (r92=1)) (zq r_0_b r93 3 (fun (r102,r103)=>zH ([(-1),5,1]) r102 (fun e104=>k180 (r103,r7,t86,e104)))) (Zq r_0_b r93 1 (fun (r106,r109)=>k180 (r109,r106,t86,t87)))))) (k180 (r91,r7,t86,t87))))) (fun k89=>ifW (decide (e15=3)) (ifW (decide (chains_2≤first_1)) (k89 (2,0,r14)) (YU chains_2 first_1 (fun t22=>zq r_0_b r14 t22 (fun (r23,r24)=>js first_1 r23 (fun t25=>k89 (e15,t25,r24)))))) (k89 (e15,0,r14))))))
def Xp (r_0_b:(List UInt8)) (r_0_p:Int) (first_1:Int) (chains_2:Int) (n_3:Int) (κ:((List zE)×Int)→Prop):Prop :=
 zq r_0_b r_0_p 5 (fun (r9,r10)=>jt (fun (nx18:(Int×(List zE)×Int)→Prop) ((t11,xs13,t17):(Int×(List zE)×Int))=>ifW (decide (0<t17)) (XW r_0_b t11 first_1 chains_2 0 (fun (r19,r22)=>xm xs13 ([r19]) (fun _=>YU t17 1 (fun t32=>nx18 (r22,(xs13++([r19])),t32))))) (jnW (fun ((t122,xs124):(Int×(List zE)))=>κ (xs124,t122)) (fun k128=>xc r_0_b t11 n_3 (fun (r33,r34)=>ifW r33 (zq r_0_b r34 2 (fun (r35,r36)=>ifW (decide (r35=0)) (XW r_0_b r36 first_1 chains_2 1 (fun (r37,r40)=>xm xs13 ([r37]) (fun _=>k128 (r40,(xs13++([r37])))))) (jt (fun (nx55:(List zE)→Prop) (xs51:(List zE))=>ifW (decide ((xs51.length:Int)≤8)) (xm xs51 ([(zE.mk ([]) 5 0)]) (fun _=>nx55 (xs51++([(zE.mk ([]) 5 0)])))) (k128 (r36,xs51))) xs13))) (k128 (r34,xs13)))))) (r10,[],r9))
def ZE (r_0_b:(List UInt8)) (r_0_p:Int) (n_1:Int) (κ:(zQ×Int)→Prop):Prop :=
 zq r_0_b r_0_p 2 (fun (r7,r8)=>zq r_0_b r8 3 (fun (r11,r12)=>js 1 r11 (fun t13=>jt (fun (nx21:(Int×(List (List zE))×Int)→Prop) ((t14,xs16,t20):(Int×(List (List zE))×Int))=>ifW (decide (t20<t13)) (jnW (fun ((xs25,t29):((List (List zE))×Int))=>js t20 1 (fun t55=>nx21 (t29,xs25,t55))) (fun k30=>Xp r_0_b t14 (w64 (t20+1)) t13 0 (fun (r31,r34)=>xm xs16 ([r31]) (fun _=>k30 ((xs16++([r31])),r34))))) (jnW (fun ((t253,xs255):(Int×(List (List zE))))=>κ ((zQ.mk xs255 (decide (r7=0))),t253)) (fun k259=>xc r_0_b t14 n_1 (fun (r56,r57)=>ifW r56 (zq r_0_b r57 4 (fun (r58,r59)=>ifW (decide (r58=0)) (k259 (r59,[])) (ifW (decide (r58=1)) (jnW (fun ((xs69,t72):((List (List zE))×Int))=>k259 (t72,xs69)) (fun k73=>(zH xs16 0 (fun e74=>zq r_0_b r59 2 (fun (r80,r81)=>zH ([0,t13]) r80 (fun e82=>xm e74 ([(zE.mk ([]) 3 e82)]) (fun _=>zH xs16 0 (fun e89=>k73 ((xs16.set (0:Int).toNat (e74++([(zE.mk ([]) 3 e82)]))),r81)))))))∧((zH xs16 0 (fun e130=>zq r_0_b r59 2 (fun (r80,r81)=>zH ([0,t13]) r80 (fun e82=>xm e130 ([(zE.mk ([]) 3 e82)]) (fun _=>zH xs16 0 (fun e89=>k73 ((xs16.set (0:Int).toNat (e130++([(zE.mk ([]) 3 e82)]))),r81)))))))∧(zq r_0_b r59 2 (fun (r132,r133)=>(zH xs16 0 (fun e134=>zH ([0,t13]) r132 (fun e82=>xm e134 ([(zE.mk ([]) 3 e82)]) (fun _=>zH xs16 0 (fun e89=>k73 ((xs16.set (0:Int).toNat (e134++([(zE.mk ([]) 3 e82)]))),r133))))))∧(zH ([0,t13]) r132 (fun e136=>zH xs16 0 (fun e138=>xm e138 ([(zE.mk ([]) 3 e136)]) (fun _=>zH xs16 0 (fun e89=>k73 ((xs16.set (0:Int).toNat (e138++([(zE.mk ([]) 3 e136)]))),r133)))))))))∧(zq r_0_b r59 2 (fun (r151,r152)=>(zH xs16 0 (fun e153=>zH ([0,t13]) r151 (fun e82=>xm e153 ([(zE.mk ([]) 3 e82)]) (fun _=>zH xs16 0 (fun e89=>k73 ((xs16.set (0:Int).toNat (e153++([(zE.mk ([]) 3 e82)]))),r152))))))∧((zH xs16 0 (fun e134=>zH ([0,t13]) r151 (fun e82=>xm e134 ([(zE.mk ([]) 3 e82)]) (fun _=>zH xs16 0 (fun e89=>k73 ((xs16.set (0:Int).toNat (e134++([(zE.mk ([]) 3 e82)]))),r152))))))∧(zH ([0,t13]) r151 (fun e136=>zH xs16 0 (fun e138=>xm e138 ([(zE.mk ([]) 3 e136)]) (fun _=>zH xs16 0 (fun e89=>k73 ((xs16.set (0:Int).toNat (e138++([(zE.mk ([]) 3 e136)]))),r152))))))))))) (ifW (decide (r58=2)) (YU t13 1 (fun t156=>zH xs16 t156 (fun e160=>YU t13 1 (fun t167=>zH (xs16.set (t156).toNat ([(zE.mk ([]) 3 0)])) 0 (fun e171=>k259 (r59,((xs16.set (t156).toNat ([(zE.mk ([]) 3 0)])).set (0:Int).toNat ([(zE.mk ([]) 3 t167)])))))))) (Xp r_0_b r59 1 t13 1 (fun (r181,r185)=>zH xs16 0 (fun e186=>k259 (r185,(xs16.set (0:Int).toNat r181))))))))) (k259 (r57,xs16)))))) (r12,[],0))))
def jn (n_0:Int) (κ:Int→Prop):Prop :=
 jnW (fun (t61:Bool)=>ifW t61 (κ (-1)) (zH zB n_0 (fun e63=>κ e63.xTop))) (fun k62=>ifW (decide (n_0<0)) (k62 true) (k62 (decide (4≤n_0))))
def Yi (t_0:jJ) (κ:Bool→Prop):Prop :=
 jnW (fun (t64:Bool)=>κ t64) (fun k65=>ifW (decide (0≤t_0.xField)) (ifW (decide (t_0.xField<4)) (ifW (decide (0≤t_0.xLo)) (ifW (decide (t_0.xLo≤t_0.xHi)) (jn t_0.xField (fun r3=>k65 (decide (t_0.xHi≤r3)))) (k65 false)) (k65 false)) (k65 false)) (k65 false))
def XM (list_0:(List jJ)) (κ:Bool→Prop):Prop :=
 ifW (decide (6<(list_0.length:Int))) (κ false) (jt (fun (nx4:Int→Prop) (t3:Int)=>ifW (decide (t3<(list_0.length:Int))) (zH list_0 t3 (fun e5=>Yi e5 (fun r9=>ifW (!r9) (κ false) (js t3 1 (fun t10=>nx4 t10))))) (κ true)) 0)
def X9 (r_0:zE) (κ:Bool→Prop):Prop :=
 XM r_0.xTests (fun r8=>ifW (!r8) (κ false) (ifW (decide (r_0.xAction=3)) (jnW (fun (t69:Bool)=>κ t69) (fun k70=>ifW (decide (0≤r_0.xChain)) (k70 (decide (r_0.xChain<5))) (k70 false))) (jnW (fun (t131:Bool)=>ifW t131 (κ (decide (r_0.xChain=0))) (κ false)) (fun k132=>ifW (decide (r_0.xAction=1)) (k132 (decide (r_0.xAction=1))) (ifW (decide (r_0.xAction=2)) (k132 (decide (r_0.xAction=2))) (ifW (decide (r_0.xAction=4)) (k132 (decide (r_0.xAction=4))) (k132 (decide (r_0.xAction=5)))))))))
def XE (list_0:(List zE)) (κ:Bool→Prop):Prop :=
 ifW (decide (8<(list_0.length:Int))) (κ false) (jt (fun (nx4:Int→Prop) (t3:Int)=>ifW (decide (t3<(list_0.length:Int))) (zH list_0 t3 (fun e5=>X9 e5 (fun r16=>ifW (!r16) (κ false) (js t3 1 (fun t17=>nx4 t17))))) (κ true)) 0)
def XO (rules_0:(List zE)) (κ:(List Int)→Prop):Prop :=
 jt (fun (nx9:((List Bool)×Int)→Prop) ((xs6,t8):((List Bool)×Int))=>ifW (decide (t8<(rules_0.length:Int))) (jnW (fun (xs84:(List Bool))=>js t8 1 (fun t87=>nx9 (xs84,t87))) (fun k86=>zH rules_0 t8 (fun e10=>ifW (decide (e10.xAction=3)) (zH xs6 e10.xChain (fun e21=>k86 (xs6.set (e10.xChain).toNat true))) (k86 xs6)))) (zne xs6 (fun e89 e90 e91 e92 e93=>jt (fun (nx100:((List Int)×Int)→Prop) ((xs96,t99):((List Int)×Int))=>ifW (decide (t99<5)) (jnW (fun (xs166:(List Int))=>js t99 1 (fun t170=>nx100 (xs166,t170))) (fun k169=>zH ([e89,e90,e91,e92,e93]) t99 (fun e101=>ifW e101 (xm xs96 ([t99]) (fun _=>k169 (xs96++([t99])))) (k169 xs96)))) (κ xs96)) ([],0)))) ([false,false,false,false,false],0)
def XG (rec:((List (List zE))→Int→(List Int)→((Bool×(List Int))→Prop)→Prop)) (chains_0:(List (List zE))) (chain_1:Int) (colours_2:(List Int)) (κ:(Bool×(List Int))→Prop):Prop :=
 ifW (decide ((chains_0.length:Int)≤chain_1)) (κ (true,colours_2)) (zH colours_2 chain_1 (fun e5=>ifW (decide (e5=1)) (κ (false,colours_2)) (ifW (decide (e5=2)) (κ (true,colours_2)) (zH colours_2 chain_1 (fun e7=>zH chains_0 chain_1 (fun e10=>XO e10 (fun r16=>jt (fun (nx23:((List Int)×Bool×Int)→Prop) ((xs19,t21,t22):((List Int)×Bool×Int))=>ifW (decide (t22<(r16.length:Int))) (jnW (fun ((xs89,t91):((List Int)×Bool))=>js t22 1 (fun t93=>nx23 (xs89,t91,t93))) (fun k92=>zH r16 t22 (fun e24=>rec chains_0 e24 xs19 (fun (r26,r27)=>ifW (!r26) (k92 (r27,false)) (k92 (r27,t21)))))) (zH xs19 chain_1 (fun e94=>κ (t21,(xs19.set (chain_1).toNat 2))))) ((colours_2.set (chain_1).toNat 1),true,0))))))))
def uX:Nat→(List (List zE))→Int→(List Int)→((Bool×(List Int))→Prop)→Prop
 | 0=>fun _ _ _ _=>False
 | n+1=>XG (uX n)
def VH (chains_0:(List (List zE))) (chain_1:Int) (colours_2:(List Int)) (κ:(Bool×(List Int))→Prop):Prop:=∃ n,uX n chains_0 chain_1 colours_2 κ
def Y7 (chains_0:(List (List zE))) (κ:Bool→Prop):Prop :=
 jt (fun (nx8:((List Int)×Int)→Prop) ((xs5,t7):((List Int)×Int))=>ifW (decide (t7<(chains_0.length:Int))) (VH chains_0 t7 xs5 (fun (r9,r10)=>ifW (!r9) (κ false) (js t7 1 (fun t12=>nx8 (r10,t12))))) (κ true)) ([0,0,0,0,0],0)
def u0 (s_0:zQ) (κ:Bool→Prop):Prop :=
 jnW (fun (t68:Bool)=>ifW t68 (κ false) (jt (fun (nx71:Int→Prop) (t70:Int)=>ifW (decide (t70<(s_0.xChains.length:Int))) (zH s_0.xChains t70 (fun e72=>XE e72 (fun r78=>ifW (!r78) (κ false) (js t70 1 (fun t79=>nx71 t79))))) (jt (fun (nx81:Int→Prop) (t80:Int)=>ifW (decide (t80<(s_0.xChains.length:Int))) (zH s_0.xChains t80 (fun e82=>XO e82 (fun r88=>jt (fun (nx92:Int→Prop) (t91:Int)=>ifW (decide (t91<(r88.length:Int))) (zH r88 t91 (fun e93=>ifW (decide ((s_0.xChains.length:Int)≤e93)) (κ false) (js t91 1 (fun t95=>nx92 t95)))) (js t80 1 (fun t96=>nx81 t96))) 0))) (Y7 s_0.xChains (fun r97=>κ r97))) 0)) 0)) (fun k69=>ifW (decide ((s_0.xChains.length:Int)<1)) (k69 true) (k69 (decide (5<(s_0.xChains.length:Int)))))
def Zn (r_0:zE) (κ:xS→Prop):Prop :=
 ifW (decide (r_0.xAction=1)) (κ (xS.kDeciding (uU.mk true))) (ifW (decide (r_0.xAction=2)) (κ (xS.kDeciding (uU.mk false))) (ifW (decide (r_0.xAction=3)) (κ (xS.kCalling (Z2.mk r_0.xChain))) (ifW (decide (r_0.xAction=4)) (κ (xS.kReturning (uo.mk ))) (κ (xS.kPassing (yc.mk ))))))
def Xc (a_0:(List zg)) (b_1:(List zg)) (κ:(Int×Bool)→Prop):Prop :=
 jt (fun (nx7:(Int×Int)→Prop) ((t5,t6):(Int×Int))=>jnW (fun (t68:Bool)=>ifW t68 (zH a_0 t5 (fun e70=>zH b_1 t6 (fun e72=>zH a_0 t5 (fun e74=>zH b_1 t6 (fun e76=>ifW (decide ((max e70.xLo e72.xLo)≤(min e74.xHi e76.xHi))) (κ ((max e70.xLo e72.xLo),true)) (zH a_0 t5 (fun e78=>zH b_1 t6 (fun e80=>ifW (decide (e78.xHi<e80.xHi)) (js t5 1 (fun t82=>nx7 (t82,t6))) (js t6 1 (fun t83=>nx7 (t5,t83))))))))))) (κ (0,false))) (fun k69=>ifW (decide (t5<(a_0.length:Int))) (k69 (decide (t6<(b_1.length:Int)))) (k69 false))) (0,0)
def UZ (fields_0:zdu) (κ:zI→Prop):Prop :=
 zH ([fields_0.x0,fields_0.x1,fields_0.x2,fields_0.x3]) 0 (fun e5=>zH ([fields_0.x0,fields_0.x1,fields_0.x2,fields_0.x3]) 1 (fun e7=>zH ([fields_0.x0,fields_0.x1,fields_0.x2,fields_0.x3]) 2 (fun e9=>zH ([fields_0.x0,fields_0.x1,fields_0.x2,fields_0.x3]) 3 (fun e11=>κ (zI.mk e5 e7 e9 e11)))))
def yj (s_0:za) (other_1:za) (κ:(zI×Bool)→Prop):Prop :=
 jt (fun (nx52:((List Int)×Int)→Prop) ((xs49,t51):((List Int)×Int))=>ifW (decide (t51<4)) (jnW (fun ((t53,t54):(Int×Bool))=>ifW (!t54) (κ ((zI.mk 0 0 0 0),false)) (zH xs49 t51 (fun e78=>js t51 1 (fun t81=>nx52 ((xs49.set (t51).toNat t53),t81))))) (fun k55=>zH ([s_0.x0,s_0.x1,s_0.x2,s_0.x3]) t51 (fun e56=>zH ([other_1.x0,other_1.x1,other_1.x2,other_1.x3]) t51 (fun e58=>Xc e56 e58 (fun (r68,r69)=>k55 (r68,r69)))))) (zgA xs49 (fun e82 e83 e84 e85=>UZ (zdu.mk e82 e83 e84 e85) (fun r87=>κ (r87,true))))) ([0,0,0,0],0)
def yk (s_0:za) (other_1:za) (κ:Bool→Prop):Prop :=
 yj s_0 other_1 (fun (r75,r76)=>κ r76)
def yu (list_0:(List zg)) (κ:((List zg)×Bool)→Prop):Prop :=
 ifW (decide (40<(list_0.length:Int))) (κ ([],false)) (κ (list_0,true))
def uw (rest_0:(List zg)) (at_1:Int) (top_2:Int) (κ:(Bool×Int)→Prop):Prop :=
 ifW (decide ((rest_0.length:Int)=0)) (κ (false,top_2)) (zH rest_0 0 (fun e3=>ifW (decide (at_1<e3.xLo)) (zH rest_0 0 (fun e5=>YU e5.xLo 1 (fun t7=>κ (false,t7)))) (zH rest_0 0 (fun e8=>κ (true,e8.xHi)))))
def YF (inA_0:Bool) (inB_1:Bool) (κ:Bool→Prop):Prop :=
 jnW (fun (t61:Bool)=>κ t61) (fun k62=>ifW inA_0 (k62 inB_1) (k62 false))
def uD (a_0:(List zg)) (b_1:(List zg)) (top_2:Int) (κ:(List zg)→Prop):Prop :=
 jt (fun (nx14:((List zg)×Int×Int×Int)→Prop) ((xs8,t11,t12,t13):((List zg)×Int×Int×Int))=>ifW (decide (t13≤top_2)) (jt (fun (nx16:Int→Prop) (t15:Int)=>jnW (fun (t79:Bool)=>ifW t79 (js t15 1 (fun t81=>nx16 t81)) (jt (fun (nx83:Int→Prop) (t82:Int)=>jnW (fun (t146:Bool)=>ifW t146 (js t82 1 (fun t148=>nx83 t148)) (Zk a_0 t15 (a_0.length:Int) (fun xs150=>uw xs150 t13 top_2 (fun (r153,r154)=>Zk b_1 t82 (b_1.length:Int) (fun xs156=>uw xs156 t13 top_2 (fun (r159,r160)=>jnW (fun (xs296:(List zg))=>js (min r154 r160) 1 (fun t300=>nx14 (xs296,t15,t82,t300))) (fun k299=>YF r153 r159 (fun r161=>ifW r161 (jnW (fun (t226:Bool)=>ifW t226 (YU (xs8.length:Int) 1 (fun t228=>zH xs8 t228 (fun e229=>k299 (xs8.set (t228).toNat (zg.mk e229.xLo (min r154 r160)))))) (xm xs8 ([(zg.mk t13 (min r154 r160))]) (fun _=>k299 (xs8++([(zg.mk t13 (min r154 r160))]))))) (fun k227=>ifW (decide (0<(xs8.length:Int))) (YU (xs8.length:Int) 1 (fun t162=>zH xs8 t162 (fun e163=>js e163.xHi 1 (fun t165=>k227 (decide (t165=t13)))))) (k227 false))) (k299 xs8))))))))) (fun k147=>ifW (decide (t82<(b_1.length:Int))) (zH b_1 t82 (fun e84=>k147 (decide (e84.xHi<t13)))) (k147 false))) t12)) (fun k80=>ifW (decide (t15<(a_0.length:Int))) (zH a_0 t15 (fun e17=>k80 (decide (e17.xHi<t13)))) (k80 false))) t11) (κ xs8)) ([],0,0,0)
def jS (a_0:(List zg)) (b_1:(List zg)) (top_2:Int) (κ:((List zg)×Bool)→Prop):Prop :=
 uD a_0 b_1 top_2 (fun r6=>yu r6 (fun (r9,r12)=>κ (r9,r12)))
def XF (s_0:za) (other_1:za) (κ:(za×Bool)→Prop):Prop :=
 jt (fun (nx52:((List (List zg))×Int)→Prop) ((xs49,t51):((List (List zg))×Int))=>ifW (decide (t51<4)) (jnW (fun ((xs53,t56):((List zg)×Bool))=>ifW (!t56) (κ ((za.mk ([]) ([]) ([]) ([])),false)) (zH xs49 t51 (fun e122=>js t51 1 (fun t128=>nx52 ((xs49.set (t51).toNat xs53),t128))))) (fun k57=>zH ([s_0.x0,s_0.x1,s_0.x2,s_0.x3]) t51 (fun e58=>zH ([other_1.x0,other_1.x1,other_1.x2,other_1.x3]) t51 (fun e60=>jn t51 (fun r70=>jS e58 e60 r70 (fun (r71,r73)=>k57 (r71,r73))))))) (zgA xs49 (fun e129 e130 e131 e132=>κ ((za.mk e129 e130 e131 e132),true)))) ([[],[],[],[]],0)
def xl (u_0_chains:(List (List zE))) (u_0_flats:(List zn)) (u_0_over:Bool) (boxes_1:(List za)) (κ:((List za)×Bool)→Prop):Prop :=
 jnW (fun (t70:Bool)=>κ (boxes_1,t70)) (fun k71=>ifW (decide (400<(boxes_1.length:Int))) (k71 true) (k71 u_0_over))
def yg (s_0:za) (κ:Bool→Prop):Prop :=
 jt (fun (nx39:Int→Prop) (t38:Int)=>ifW (decide (t38<4)) (zH ([s_0.x0,s_0.x1,s_0.x2,s_0.x3]) t38 (fun e41=>ifW (decide ((e41.length:Int)=0)) (κ true) (js t38 1 (fun t44=>nx39 t44)))) (κ false)) 0
def yS (inA_0:Bool) (inB_1:Bool) (κ:Bool→Prop):Prop :=
 jnW (fun (t61:Bool)=>κ t61) (fun k62=>ifW inA_0 (k62 (!inB_1)) (k62 false))
def xj (a_0:(List zg)) (b_1:(List zg)) (top_2:Int) (κ:(List zg)→Prop):Prop :=
 jt (fun (nx14:((List zg)×Int×Int×Int)→Prop) ((xs8,t11,t12,t13):((List zg)×Int×Int×Int))=>ifW (decide (t13≤top_2)) (jt (fun (nx16:Int→Prop) (t15:Int)=>jnW (fun (t79:Bool)=>ifW t79 (js t15 1 (fun t81=>nx16 t81)) (jt (fun (nx83:Int→Prop) (t82:Int)=>jnW (fun (t146:Bool)=>ifW t146 (js t82 1 (fun t148=>nx83 t148)) (Zk a_0 t15 (a_0.length:Int) (fun xs150=>uw xs150 t13 top_2 (fun (r153,r154)=>Zk b_1 t82 (b_1.length:Int) (fun xs156=>uw xs156 t13 top_2 (fun (r159,r160)=>jnW (fun (xs296:(List zg))=>js (min r154 r160) 1 (fun t300=>nx14 (xs296,t15,t82,t300))) (fun k299=>yS r153 r159 (fun r161=>ifW r161 (jnW (fun (t226:Bool)=>ifW t226 (YU (xs8.length:Int) 1 (fun t228=>zH xs8 t228 (fun e229=>k299 (xs8.set (t228).toNat (zg.mk e229.xLo (min r154 r160)))))) (xm xs8 ([(zg.mk t13 (min r154 r160))]) (fun _=>k299 (xs8++([(zg.mk t13 (min r154 r160))]))))) (fun k227=>ifW (decide (0<(xs8.length:Int))) (YU (xs8.length:Int) 1 (fun t162=>zH xs8 t162 (fun e163=>js e163.xHi 1 (fun t165=>k227 (decide (t165=t13)))))) (k227 false))) (k299 xs8))))))))) (fun k147=>ifW (decide (t82<(b_1.length:Int))) (zH b_1 t82 (fun e84=>k147 (decide (e84.xHi<t13)))) (k147 false))) t12)) (fun k80=>ifW (decide (t15<(a_0.length:Int))) (zH a_0 t15 (fun e17=>k80 (decide (e17.xHi<t13)))) (k80 false))) t11) (κ xs8)) ([],0,0,0)
def ul (a_0:(List zg)) (b_1:(List zg)) (top_2:Int) (κ:((List zg)×Bool)→Prop):Prop :=
 xj a_0 b_1 top_2 (fun r6=>yu r6 (fun (r9,r12)=>κ (r9,r12)))
def XA {σ_:Type} (Y_:σ_→za→Bool→(Bool×σ_→Prop)→Prop) (z_:σ_) (a_1:za) (b_2:za) (κ:σ_→Prop):Prop :=
 yg a_1 (fun r20=>ifW r20 (κ z_) (yk a_1 b_2 (fun r51=>ifW (!r51) (Y_ z_ a_1 true (fun (t67,z68)=>κ z68)) (jt (fun (nx108:((List (List zg))×σ_×Bool×Int)→Prop) ((xs101,z103,t106,t107):((List (List zg))×σ_×Bool×Int))=>ifW (decide (t107<4)) (jnW (fun ((z498,xs501,t503):(σ_×(List (List zg))×Bool))=>js t107 1 (fun t505=>nx108 (xs501,z498,t503,t505))) (fun k504=>jnW (fun ((xs109,t112):((List zg)×Bool))=>jnW (fun (t232:Bool)=>ifW t232 (Y_ z103 (za.mk ([]) ([]) ([]) ([])) false (fun (t234,z235)=>κ z235)) (jnW (fun ((z363,xs366):(σ_×(List (List zg))))=>jnW (fun ((xs369,t372):((List zg)×Bool))=>zH xs366 t107 (fun e432=>ifW t106 (k504 (z363,(xs366.set (t107).toNat xs369),t372)) (k504 (z363,(xs366.set (t107).toNat xs369),false)))) (fun k373=>(zH ([a_1.x0,a_1.x1,a_1.x2,a_1.x3]) t107 (fun e374=>(zH ([b_2.x0,b_2.x1,b_2.x2,b_2.x3]) t107 (fun e379=>jn t107 (fun r384=>jS e374 e379 r384 (fun (r385,r387)=>k373 (r385,r387)))))∧(jn t107 (fun r388=>zH ([b_2.x0,b_2.x1,b_2.x2,b_2.x3]) t107 (fun e389=>jS e374 e389 r388 (fun (r394,r396)=>k373 (r394,r396)))))))∧(zH ([b_2.x0,b_2.x1,b_2.x2,b_2.x3]) t107 (fun e397=>(zH ([a_1.x0,a_1.x1,a_1.x2,a_1.x3]) t107 (fun e402=>jn t107 (fun r407=>jS e402 e397 r407 (fun (r385,r387)=>k373 (r385,r387)))))∧(jn t107 (fun r408=>zH ([a_1.x0,a_1.x1,a_1.x2,a_1.x3]) t107 (fun e409=>jS e409 e397 r408 (fun (r414,r416)=>k373 (r414,r416)))))))∧(jn t107 (fun r417=>(zH ([a_1.x0,a_1.x1,a_1.x2,a_1.x3]) t107 (fun e418=>zH ([b_2.x0,b_2.x1,b_2.x2,b_2.x3]) t107 (fun e423=>jS e418 e423 r417 (fun (r394,r396)=>k373 (r394,r396)))))∧(zH ([b_2.x0,b_2.x1,b_2.x2,b_2.x3]) t107 (fun e425=>zH ([a_1.x0,a_1.x1,a_1.x2,a_1.x3]) t107 (fun e430=>jS e430 e425 r417 (fun (r414,r416)=>k373 (r414,r416))))))))) (fun k368=>ifW (decide (0<(xs109.length:Int))) (zgA xs101 (fun e238 e239 e240 e241=>zH ([e238,e239,e240,e241]) t107 (fun e273=>zgA (([e238,e239,e240,e241]).set (t107).toNat xs109) (fun e279 e280 e281 e282=>Y_ z103 (za.mk e279 e280 e281 e282) true (fun (t299,z300)=>ifW (!t299) (κ z300) (k368 (z300,[e238,e239,e240,e241]))))))) (k368 (z103,xs101))))) (fun k233=>ifW (!t112) (k233 true) (ifW (decide (0<(xs109.length:Int))) (k233 (!t106)) (k233 false)))) (fun k113=>(zH ([a_1.x0,a_1.x1,a_1.x2,a_1.x3]) t107 (fun e114=>(zH ([b_2.x0,b_2.x1,b_2.x2,b_2.x3]) t107 (fun e119=>jn t107 (fun r124=>ul e114 e119 r124 (fun (r125,r127)=>k113 (r125,r127)))))∧(jn t107 (fun r128=>zH ([b_2.x0,b_2.x1,b_2.x2,b_2.x3]) t107 (fun e129=>ul e114 e129 r128 (fun (r134,r136)=>k113 (r134,r136)))))))∧(zH ([b_2.x0,b_2.x1,b_2.x2,b_2.x3]) t107 (fun e137=>(zH ([a_1.x0,a_1.x1,a_1.x2,a_1.x3]) t107 (fun e142=>jn t107 (fun r147=>ul e142 e137 r147 (fun (r125,r127)=>k113 (r125,r127)))))∧(jn t107 (fun r148=>zH ([a_1.x0,a_1.x1,a_1.x2,a_1.x3]) t107 (fun e149=>ul e149 e137 r148 (fun (r154,r156)=>k113 (r154,r156)))))))∧(jn t107 (fun r157=>(zH ([a_1.x0,a_1.x1,a_1.x2,a_1.x3]) t107 (fun e158=>zH ([b_2.x0,b_2.x1,b_2.x2,b_2.x3]) t107 (fun e163=>ul e158 e163 r157 (fun (r134,r136)=>k113 (r134,r136)))))∧(zH ([b_2.x0,b_2.x1,b_2.x2,b_2.x3]) t107 (fun e165=>zH ([a_1.x0,a_1.x1,a_1.x2,a_1.x3]) t107 (fun e170=>ul e170 e165 r157 (fun (r154,r156)=>k113 (r154,r156)))))))))) (κ z103)) ([a_1.x0,a_1.x1,a_1.x2,a_1.x3],z_,true,0)))))
def zac (z:Option (List za)) (x:za) (ok:Bool) (κ:Bool×Option (List za)→Prop):Prop :=
 match z with
 | none=>False
 | some xs=>ifW ok (xm xs [x] (fun ys=>κ (true,some ys))) (κ (false,none))
def zl9:Option (List za)→List za×Bool
 | some xs=>(xs,true)
 | none=>([],false)
def yh (s_0:za) (other_1:za) (κ:((List za)×Bool)→Prop):Prop :=
 XA zac (some []) s_0 other_1 (fun r=>κ (zl9 r))
def yE (u_0_chains:(List (List zE))) (u_0_flats:(List zn)) (u_0_over:Bool) (boxes_1:(List za)) (where_2:za) (κ:((List za)×(List za)×Bool)→Prop):Prop :=
 jt (fun (nx42:((List za)×(List za)×Int)→Prop) ((xs34,xs38,t41):((List za)×(List za)×Int))=>ifW (decide (t41<(boxes_1.length:Int))) (zH boxes_1 t41 (fun e43=>jnW (fun (xs252:(List za))=>yh e43 where_2 (fun (r286,r289)=>ifW (!r289) (κ ([],[],true)) (xm xs38 r286 (fun _=>js t41 1 (fun t294=>nx42 (xs252,(xs38++r286),t294)))))) (fun k255=>yk e43 where_2 (fun r103=>ifW r103 (XF e43 where_2 (fun (r134,r143)=>ifW (!r143) (κ ([],[],true)) (xm xs34 ([r134]) (fun _=>k255 (xs34++([r134])))))) (k255 xs34))))) (xl u_0_chains u_0_flats u_0_over xs34 (fun (r295,r298)=>xl u_0_chains u_0_flats r298 xs38 (fun (r299,r302)=>κ (r295,r299,r302))))) ([],[],0)
def Xq (κ:za→Prop):Prop :=
 jt (fun (nx8:((List (List zg))×Int)→Prop) ((xs5,t7):((List (List zg))×Int))=>ifW (decide (t7<4)) (jn t7 (fun r9=>zH xs5 t7 (fun e12=>js t7 1 (fun t18=>nx8 ((xs5.set (t7).toNat ([(zg.mk 0 r9)])),t18))))) (zgA xs5 (fun e19 e20 e21 e22=>κ (za.mk e19 e20 e21 e22)))) ([[],[],[],[]],0)
def ZI (t_0:jJ) (κ:(List zg)→Prop):Prop :=
 ifW (!t_0.xNot) (κ ([(zg.mk t_0.xLo t_0.xHi)])) (jnW (fun (xs72:(List zg))=>jnW (fun (xs142:(List zg))=>κ xs142) (fun k145=>jn t_0.xField (fun r76=>ifW (decide (t_0.xHi<r76)) (js t_0.xHi 1 (fun t77=>xm xs72 ([(zg.mk t77 r76)]) (fun _=>k145 (xs72++([(zg.mk t77 r76)]))))) (k145 xs72)))) (fun k75=>ifW (decide (0<t_0.xLo)) (YU t_0.xLo 1 (fun t7=>xm ([]) ([(zg.mk 0 t7)]) (fun _=>k75 (([])++([(zg.mk 0 t7)]))))) (k75 ([]))))
def XK (list_0:(List jJ)) (κ:za→Prop):Prop :=
 Xq (fun r5=>jt (fun (nx32:((List (List zg))×Int)→Prop) ((xs29,t31):((List (List zg))×Int))=>ifW (decide (t31<(list_0.length:Int))) (zH list_0 t31 (fun e33=>jnW (fun (xs37:(List (List zg)))=>js t31 1 (fun t76=>nx32 (xs37,t76))) (fun k39=>(zH xs29 e33.xField (fun e40=>ZI e33 (fun r46=>jn e33.xField (fun r48=>jS e40 r46 r48 (fun (r49,r51)=>zH xs29 e33.xField (fun e52=>k39 (xs29.set (e33.xField).toNat r49)))))))∧(ZI e33 (fun r69=>(zH xs29 e33.xField (fun e71=>jn e33.xField (fun r48=>jS e71 r69 r48 (fun (r49,r51)=>zH xs29 e33.xField (fun e52=>k39 (xs29.set (e33.xField).toNat r49))))))∧(jn e33.xField (fun r73=>zH xs29 e33.xField (fun e74=>jS e74 r69 r73 (fun (r49,r51)=>zH xs29 e33.xField (fun e52=>k39 (xs29.set (e33.xField).toNat r49))))))))))) (zgA xs29 (fun e77 e78 e79 e80=>κ (za.mk e77 e78 e79 e80)))) ([r5.x0,r5.x1,r5.x2,r5.x3],0))
def uO (s_0:(List za)) (n_1:Int) (κ:(List za)→Prop):Prop:=s_0=[]∧0≤n_1∧n_1≤4294967296∧κ []
def jZ (slices_0:(List (List za))) (κ:(List za)→Prop):Prop :=
 jt (fun (nx6:(Int×Int)→Prop) ((t4,t5):(Int×Int))=>ifW (decide (t5<(slices_0.length:Int))) (zH slices_0 t5 (fun e7=>js t4 (e7.length:Int) (fun t13=>ifW (decide (t13<0)) (False) (js t5 1 (fun t14=>nx6 (t13,t14)))))) (uO ([]) t4 (fun r15=>jt (fun (nx23:((List za)×Int)→Prop) ((xs19,t22):((List za)×Int))=>ifW (decide (t22<(slices_0.length:Int))) (zH slices_0 t22 (fun e24=>xm xs19 e24 (fun _=>js t22 1 (fun t32=>nx23 ((xs19++e24),t32))))) (κ xs19)) (r15,0)))) (0,0)
def uZ (d_0:uU) (u_1_chains:(List (List zE))) (u_1_flats:(List zn)) (u_1_over:Bool) (__2:(List za)) (fitting_3:(List za)) (missing_4:(List za)) (κ:((List za)×(List zn)×Bool)→Prop):Prop :=
 jt (fun (nx23:((List zn)×Int)→Prop) ((xs19,t22):((List zn)×Int))=>ifW (decide (t22<(fitting_3.length:Int))) (zH fitting_3 t22 (fun e24=>jnW (fun (xs57:(List zn))=>js t22 1 (fun t113=>nx23 (xs57,t113))) (fun k60=>xm xs19 ([(zn.mk e24 d_0.xAccept)]) (fun _=>k60 (xs19++([(zn.mk e24 d_0.xAccept)])))))) (jnW (fun (t174:Bool)=>κ (missing_4,xs19,t174)) (fun k175=>ifW (decide (60<(xs19.length:Int))) (k175 true) (k175 u_1_over)))) (u_1_flats,0)
def ZY (a_0:uo) (__1_chains:(List (List zE))) (__1_flats:(List zn)) (__1_over:Bool) (left_2:(List za)) (fitting_3:(List za)) (missing_4:(List za)) (κ:((List za)×(List za))→Prop):Prop :=
 xm left_2 fitting_3 (fun _=>κ (missing_4,(left_2++fitting_3)))
def Xt (a_0:yc) (__1_chains:(List (List zE))) (__1_flats:(List zn)) (__1_over:Bool) (__2:(List za)) (fitting_3:(List za)) (missing_4:(List za)) (κ:(List za)→Prop):Prop :=
 jZ ([missing_4,fitting_3]) (fun r26=>κ r26)
def Xs (rec:(List (List zE))→(List zn)→Bool→Int→(List za)→(((List za)×(List zn)×Bool)→Prop)→Prop) (c_0:Z2) (u_1_chains:(List (List zE))) (u_1_flats:(List zn)) (u_1_over:Bool) (__2:(List za)) (fitting_3:(List za)) (missing_4:(List za)) (κ:((List za)×(List zn)×Bool)→Prop):Prop :=
 rec u_1_chains u_1_flats u_1_over c_0.xChain fitting_3 (fun (r18,r21,r24)=>jZ ([missing_4,r18]) (fun r33=>κ (r33,r21,r24)))
def Zh (rec:((List (List zE))→(List zn)→Bool→Int→(List za)→(((List za)×(List zn)×Bool)→Prop)→Prop)) (u_0_chains:(List (List zE))) (u_0_flats:(List zn)) (u_0_over:Bool) (number_1:Int) (boxes_2:(List za)) (κ:((List za)×(List zn)×Bool)→Prop):Prop :=
 ifW (decide ((boxes_2.length:Int)=0)) (κ ([],u_0_flats,u_0_over)) (zH u_0_chains number_1 (fun e14=>jt (fun (nx34:((List za)×(List zn)×Bool×(List za)×Int)→Prop) ((xs21,xs25,t28,xs30,t33):((List za)×(List zn)×Bool×(List za)×Int))=>ifW (decide (t33<(e14.length:Int))) (jnW (fun ((xs171,xs174,t177,xs179):((List zn)×(List za)×Bool×(List za)))=>js t33 1 (fun t183=>nx34 (xs174,xs171,t177,xs179,t183))) (fun k182=>zH e14 t33 (fun e35=>XK e35.xTests (fun r46=>yE u_0_chains xs25 t28 xs30 r46 (fun (r55,r58,r61)=>ifW r61 (κ ([],xs25,r61)) (Zn e35 (fun r63=>xS.casesW r63 (fun x64=>uZ x64 u_0_chains xs25 r61 xs21 r55 r58 (fun (r68,r71,r74)=>xl u_0_chains r71 r74 r68 (fun (r75,r78)=>ifW r78 (κ ([],r71,r78)) (k182 (r71,xs21,r78,r75))))) (fun x65=>Xs rec x65 u_0_chains xs25 r61 xs21 r55 r58 (fun (r80,r83,r86)=>xl u_0_chains r83 r86 r80 (fun (r87,r90)=>ifW r90 (κ ([],r83,r90)) (k182 (r83,xs21,r90,r87))))) (fun x66=>ZY (uo.mk ) u_0_chains xs25 r61 xs21 r55 r58 (fun (r92,r95)=>xl u_0_chains xs25 r61 r92 (fun (r98,r101)=>ifW r101 (κ ([],xs25,r101)) (k182 (xs25,r95,r101,r98))))) (fun x67=>Xt (yc.mk ) u_0_chains xs25 r61 xs21 r55 r58 (fun r103=>xl u_0_chains xs25 r61 r103 (fun (r106,r109)=>ifW r109 (κ ([],xs25,r109)) (k182 (xs25,xs21,r109,r106)))))))))))) (jZ ([xs21,xs30]) (fun r192=>xl u_0_chains xs25 t28 r192 (fun (r195,r198)=>κ (r195,xs25,r198))))) ([],u_0_flats,u_0_over,boxes_2,0)))
def uq:Nat→(List (List zE))→(List zn)→Bool→Int→(List za)→(((List za)×(List zn)×Bool)→Prop)→Prop
 | 0=>fun _ _ _ _ _ _=>False
 | n+1=>Zh (uq n)
def Us (u_0_chains:(List (List zE))) (u_0_flats:(List zn)) (u_0_over:Bool) (number_1:Int) (boxes_2:(List za)) (κ:((List za)×(List zn)×Bool)→Prop):Prop:=∃ n,uq n u_0_chains u_0_flats u_0_over number_1 boxes_2 κ
def Zc (s_0:zQ) (κ:((List zn)×Bool)→Prop):Prop :=
 Xq (fun r11=>Us s_0.xChains ([]) false 0 ([r11]) (fun (r35,r38,r41)=>κ (r38,(!r41))))
def Y5 (list_0:(List zn)) (rest_1:Bool) (κ:(List zn)→Prop):Prop :=
 jt (fun (nx5:Int→Prop) (t4:Int)=>jnW (fun (t69:Bool)=>ifW t69 (YU t4 1 (fun t71=>nx5 t71)) (Zk list_0 0 t4 (fun xs73=>κ xs73))) (fun k70=>ifW (decide (0<t4)) (YU t4 1 (fun t6=>zH list_0 t6 (fun e7=>k70 (decide (e7.xAccept=rest_1))))) (k70 false))) (list_0.length:Int)
def ug (s_0:(List zn)) (κ:(List zn)→Prop):Prop :=
 znb true s_0 (fun t4=>ifW t4 (κ ([])) (xm ([]) s_0 (fun _=>κ (([])++s_0))))
def yB (s_0:za) (other_1:za) (κ:Bool→Prop):Prop :=
 yg s_0 (fun r60=>ifW r60 (κ true) (jt (fun (nx62:Int→Prop) (t61:Int)=>ifW (decide (t61<4)) (jnW (fun (t63:Bool)=>ifW t63 (κ false) (js t61 1 (fun t107=>nx62 t107))) (fun k64=>zH ([s_0.x0,s_0.x1,s_0.x2,s_0.x3]) t61 (fun e65=>zH ([other_1.x0,other_1.x1,other_1.x2,other_1.x3]) t61 (fun e67=>jn t61 (fun r77=>xj e65 e67 r77 (fun r78=>k64 (decide (0<(r78.length:Int))))))))) (κ true)) 0))
def uh (s1_0:(List zg)) (s2_1:(List zg)) (κ:Bool→Prop):Prop :=
 ifW (!(decide ((s1_0.length:Int)=(s2_1.length:Int)))) (κ false) (jt (fun (nx6:Int→Prop) (t5:Int)=>ifW (decide (t5<(s1_0.length:Int))) (zH s1_0 t5 (fun e7=>zH s2_1 t5 (fun e9=>ifW (!(decide (e7=e9))) (κ false) (js t5 1 (fun t11=>nx6 t11))))) (κ true)) 0)
def Xi (inA_0:Bool) (inB_1:Bool) (κ:Bool→Prop):Prop :=
 jnW (fun (t61:Bool)=>κ t61) (fun k62=>ifW inA_0 (k62 true) (k62 inB_1))
def ur (a_0:(List zg)) (b_1:(List zg)) (top_2:Int) (κ:(List zg)→Prop):Prop :=
 jt (fun (nx14:((List zg)×Int×Int×Int)→Prop) ((xs8,t11,t12,t13):((List zg)×Int×Int×Int))=>ifW (decide (t13≤top_2)) (jt (fun (nx16:Int→Prop) (t15:Int)=>jnW (fun (t79:Bool)=>ifW t79 (js t15 1 (fun t81=>nx16 t81)) (jt (fun (nx83:Int→Prop) (t82:Int)=>jnW (fun (t146:Bool)=>ifW t146 (js t82 1 (fun t148=>nx83 t148)) (Zk a_0 t15 (a_0.length:Int) (fun xs150=>uw xs150 t13 top_2 (fun (r153,r154)=>Zk b_1 t82 (b_1.length:Int) (fun xs156=>uw xs156 t13 top_2 (fun (r159,r160)=>jnW (fun (xs296:(List zg))=>js (min r154 r160) 1 (fun t300=>nx14 (xs296,t15,t82,t300))) (fun k299=>Xi r153 r159 (fun r161=>ifW r161 (jnW (fun (t226:Bool)=>ifW t226 (YU (xs8.length:Int) 1 (fun t228=>zH xs8 t228 (fun e229=>k299 (xs8.set (t228).toNat (zg.mk e229.xLo (min r154 r160)))))) (xm xs8 ([(zg.mk t13 (min r154 r160))]) (fun _=>k299 (xs8++([(zg.mk t13 (min r154 r160))]))))) (fun k227=>ifW (decide (0<(xs8.length:Int))) (YU (xs8.length:Int) 1 (fun t162=>zH xs8 t162 (fun e163=>js e163.xHi 1 (fun t165=>k227 (decide (t165=t13)))))) (k227 false))) (k299 xs8))))))))) (fun k147=>ifW (decide (t82<(b_1.length:Int))) (zH b_1 t82 (fun e84=>k147 (decide (e84.xHi<t13)))) (k147 false))) t12)) (fun k80=>ifW (decide (t15<(a_0.length:Int))) (zH a_0 t15 (fun e17=>k80 (decide (e17.xHi<t13)))) (k80 false))) t11) (κ xs8)) ([],0,0,0)
def Zx (a_0:(List zg)) (b_1:(List zg)) (top_2:Int) (κ:((List zg)×Bool)→Prop):Prop :=
 ur a_0 b_1 top_2 (fun r6=>yu r6 (fun (r9,r12)=>κ (r9,r12)))
def Zu (a_0:za) (b_1:za) (κ:(za×Bool)→Prop):Prop :=
 yB a_0 b_1 (fun r77=>ifW r77 (κ (b_1,true)) (yB b_1 a_0 (fun r156=>ifW r156 (κ (a_0,true)) (jt (fun (nx208:(Int×Int×Int)→Prop) ((t205,t206,t207):(Int×Int×Int))=>ifW (decide (t207<4)) (jnW (fun ((t293,t294):(Int×Int))=>js t207 1 (fun t296=>nx208 (t293,t294,t296))) (fun k295=>jnW (fun (t209:Bool)=>ifW t209 (js t206 1 (fun t232=>k295 (t207,t232))) (k295 (t205,t206))) (fun k210=>zH ([a_0.x0,a_0.x1,a_0.x2,a_0.x3]) t207 (fun e211=>zH ([b_1.x0,b_1.x1,b_1.x2,b_1.x3]) t207 (fun e213=>uh e211 e213 (fun r223=>k210 (!r223))))))) (ifW (!(decide (t206=1))) (κ ((za.mk ([]) ([]) ([]) ([])),false)) (jnW (fun ((xs318,t321):((List zg)×Bool))=>ifW (!t321) (κ ((za.mk ([]) ([]) ([]) ([])),false)) (zH ([a_0.x0,a_0.x1,a_0.x2,a_0.x3]) t205 (fun e417=>zgA (([a_0.x0,a_0.x1,a_0.x2,a_0.x3]).set (t205).toNat xs318) (fun e423 e424 e425 e426=>κ ((za.mk e423 e424 e425 e426),true))))) (fun k322=>zH ([a_0.x0,a_0.x1,a_0.x2,a_0.x3]) t205 (fun e323=>zH ([b_1.x0,b_1.x1,b_1.x2,b_1.x3]) t205 (fun e325=>jn t205 (fun r335=>Zx e323 e325 r335 (fun (r336,r338)=>k322 (r336,r338))))))))) (0,0,0)))))
def x9 (s_0:(List zn)) (i_1:Int) (j_2:Int) (κ:(List zn)→Prop):Prop:=0≤i_1∧i_1≤j_2∧j_2≤(s_0.length:Int)∧κ (s_0.take i_1.toNat++s_0.drop j_2.toNat)
def yI (list_0:(List zn)) (κ:(List zn)→Prop):Prop :=
 ug list_0 (fun r4=>jt (fun (nx12:((List zn)×Int)→Prop) ((xs8,t11):((List zn)×Int))=>js t11 1 (fun t13=>ifW (decide (t13<(xs8.length:Int))) (jnW (fun ((xs149,t151):((List (List zg))×Bool))=>ifW (!t151) (js t11 1 (fun t153=>nx12 (xs8,t153))) (zgA xs149 (fun e154 e155 e156 e157=>zH xs8 t11 (fun e174=>js t11 1 (fun t189=>js t11 2 (fun t190=>x9 (xs8.set (t11).toNat (zn.mk (za.mk e154 e155 e156 e157) e174.xAccept)) t189 t190 (fun r191=>YU t11 1 (fun t194=>nx12 (r191,(max t194 0)))))))))) (fun k152=>zH xs8 t11 (fun e17=>js t11 1 (fun t19=>zH xs8 t19 (fun e20=>ifW (decide (e17.xAccept=e20.xAccept)) (jnW (fun ((xs22,t24):((List (List zg))×Bool))=>k152 (xs22,t24)) (fun k25=>zH xs8 t11 (fun e26=>zH xs8 (w64 (t11+1)) (fun e28=>Zu e26.xWhere e28.xWhere (fun (r50,r55)=>k25 ([r50.x0,r50.x1,r50.x2,r50.x3],r55)))))) (k152 ([[],[],[],[]],false))))))) (κ xs8))) (r4,0))
def YE (list_0:(List zn)) (κ:(List za)→Prop):Prop :=
 zav ((za.mk ([]) ([]) ([]) ([])):za) 0 (list_0.length:Int) (fun xs5=>jt (fun (nx12:((List za)×Int)→Prop) ((xs8,t11):((List za)×Int))=>ifW (decide (t11<(list_0.length:Int))) (zH list_0 t11 (fun e13=>xm xs8 ([e13.xWhere]) (fun _=>js t11 1 (fun t46=>nx12 ((xs8++([e13.xWhere])),t46))))) (κ xs8)) (xs5,0))
def yr (s_0:za) (region_1:(List za)) (κ:((List za)×Bool)→Prop):Prop :=
 yg s_0 (fun r41=>ifW r41 (κ ([],true)) (jnW (fun (xs310:(List za))=>κ (xs310,true)) (fun k313=>jt (fun (nx77:((List za)×Int)→Prop) ((xs73,t76):((List za)×Int))=>ifW (decide (t76<(region_1.length:Int))) (zH region_1 t76 (fun e78=>jt (fun (nx114:((List za)×Int)→Prop) ((xs110,t113):((List za)×Int))=>ifW (decide (t113<(xs73.length:Int))) (zH xs73 t113 (fun e115=>yh e115 e78 (fun (r177,r180)=>jnW (fun (t242:Bool)=>ifW t242 (κ ([],false)) (xm xs110 r177 (fun _=>js t113 1 (fun t247=>nx114 ((xs110++r177),t247))))) (fun k243=>ifW (!r180) (k243 true) (js (xs110.length:Int) (r177.length:Int) (fun t181=>k243 (decide (400<t181)))))))) (ifW (decide ((xs110.length:Int)=0)) (k313 xs110) (js t76 1 (fun t248=>nx77 (xs110,t248))))) ([],0))) (k313 xs73)) ([s_0],0))))
def UJ (list_0:(List zn)) (n_1:Int) (κ:((List za)×Bool)→Prop):Prop :=
 zH list_0 n_1 (fun e4=>Zk list_0 0 n_1 (fun xs20=>YE xs20 (fun r23=>yr e4.xWhere r23 (fun (r26,r29)=>κ (r26,r29)))))
def UF (list_0:(List zn)) (κ:(List Int)→Prop):Prop :=
 jt (fun (nx10:((List Int)×Int)→Prop) ((xs6,t9):((List Int)×Int))=>ifW (decide (t9<(list_0.length:Int))) (jnW (fun (xs141:(List Int))=>js t9 1 (fun t145=>nx10 (xs141,t145))) (fun k144=>UJ list_0 t9 (fun (r11,r14)=>jnW (fun (t75:Bool)=>ifW t75 (xm xs6 ([t9]) (fun _=>k144 (xs6++([t9])))) (k144 xs6)) (fun k76=>ifW r14 (k76 (decide ((r11.length:Int)=0))) (k76 false))))) (κ xs6)) ([],0)
def Xg (list_0:(List zn)) (κ:(List zn)→Prop):Prop :=
 UF list_0 (fun r4=>zav ((zn.mk (za.mk ([]) ([]) ([]) ([])) false):zn) 0 (list_0.length:Int) (fun xs8=>jt (fun (nx19:((List Int)×(List zn)×Int)→Prop) ((xs11,xs15,t18):((List Int)×(List zn)×Int))=>ifW (decide (t18<(list_0.length:Int))) (jnW (fun ((xs180,xs184):((List zn)×(List Int)))=>js t18 1 (fun t188=>nx19 (xs184,xs180,t188))) (fun k187=>zH list_0 t18 (fun e20=>jnW (fun (t111:Bool)=>ifW t111 (Zk xs11 1 (xs11.length:Int) (fun xs114=>k187 (xs15,xs114))) (xm xs15 ([e20]) (fun _=>k187 ((xs15++([e20])),xs11)))) (fun k112=>ifW (decide (0<(xs11.length:Int))) (zH xs11 0 (fun e49=>k112 (decide (e49=t18)))) (k112 false))))) (κ xs15)) (r4,xs8,0)))
def XI (list_0:(List zn)) (rest_1:Bool) (κ:(List zn)→Prop):Prop :=
 jt (fun (nx8:(List zn)→Prop) (xs5:(List zn))=>Xg xs5 (fun r9=>yI r9 (fun r12=>Y5 r12 rest_1 (fun r15=>ifW (decide ((r15.length:Int)=(xs5.length:Int))) (κ r15) (nx8 r15))))) list_0
def ZU (s_0:zQ) (κ:((List zn)×Bool)→Prop):Prop :=
 u0 s_0 (fun r9=>ifW (!r9) (κ ([],false)) (Zc s_0 (fun (r11,r14)=>ifW (!r14) (κ ([],false)) (XI r11 s_0.xAccept (fun r16=>κ (r16,true))))))
def Ym (x_0:zE) (κ:zE→Prop):Prop :=
 xm ([]) x_0.xTests (fun _=>κ (zE.mk (([])++x_0.xTests) x_0.xAction x_0.xChain))
def ZG (list_0:(List zE)) (κ:(List zE)→Prop):Prop :=
 jt (fun (nx13:((List zE)×Int)→Prop) ((xs8,t12):((List zE)×Int))=>ifW (decide (t12<(list_0.length:Int))) (zH list_0 t12 (fun e14=>Ym e14 (fun r20=>xm xs8 ([r20]) (fun _=>js t12 1 (fun t32=>nx13 ((xs8++([r20])),t32)))))) (κ xs8)) ([],0)
def XR (list_0:(List (List zE))) (κ:(List (List zE))→Prop):Prop :=
 jt (fun (nx13:((List (List zE))×Int)→Prop) ((xs8,t12):((List (List zE))×Int))=>ifW (decide (t12<(list_0.length:Int))) (zH list_0 t12 (fun e14=>ZG e14 (fun r20=>xm xs8 ([r20]) (fun _=>js t12 1 (fun t33=>nx13 ((xs8++([r20])),t33)))))) (κ xs8)) ([],0)
def yz (x_0:zQ) (κ:zQ→Prop):Prop :=
 XR x_0.xChains (fun r12=>κ (zQ.mk r12 x_0.xAccept))
def yq (n_0:Int) (lo_1:Int) (hi_2:Int) (κ:Bool→Prop):Prop :=
 jnW (fun (t61:Bool)=>κ t61) (fun k62=>ifW (decide (lo_1≤n_0)) (k62 (decide (n_0≤hi_2))) (k62 false))
def Z3 (t_0:jJ) (κ:Bool→Prop):Prop :=
 jnW (fun (t66:Bool)=>κ t66) (fun k67=>yq t_0.xField 0 3 (fun r3=>ifW r3 (yq t_0.xLo 0 t_0.xHi (fun r4=>ifW r4 (uz t_0.xField (fun r5=>k67 (decide (t_0.xHi≤r5)))) (k67 false))) (k67 false)))
def ZL (list_0:(List jJ)) (κ:Bool→Prop):Prop :=
 jt (fun (nx4:Int→Prop) (t3:Int)=>ifW (decide (t3<(list_0.length:Int))) (zH list_0 t3 (fun e5=>Z3 e5 (fun r7=>ifW (!r7) (κ false) (js t3 1 (fun t8=>nx4 t8))))) (κ (decide ((list_0.length:Int)≤6)))) 0
def Yk (r_0:zE) (κ:Bool→Prop):Prop :=
 jnW (fun (t71:Bool)=>κ t71) (fun k72=>ZL r_0.xTests (fun r8=>ifW r8 (yq r_0.xAction 1 5 (fun r9=>ifW r9 (ifW (decide (r_0.xAction=3)) (yq r_0.xChain 0 4 (fun r10=>ifW r10 (k72 true) (ifW (!(decide (r_0.xAction=3))) (k72 (decide (r_0.xChain=0))) (k72 false)))) (ifW (!(decide (r_0.xAction=3))) (k72 (decide (r_0.xChain=0))) (k72 false))) (k72 false))) (k72 false)))
def XD (list_0:(List zE)) (κ:Bool→Prop):Prop :=
 jt (fun (nx4:Int→Prop) (t3:Int)=>ifW (decide (t3<(list_0.length:Int))) (zH list_0 t3 (fun e5=>Yk e5 (fun r11=>ifW (!r11) (κ false) (js t3 1 (fun t12=>nx4 t12))))) (κ (decide ((list_0.length:Int)≤8)))) 0
def Y9 (s_0:zQ) (κ:(List Int)→Prop):Prop :=
 zav (false:Bool) (s_0.xChains.length:Int) (s_0.xChains.length:Int) (fun xs10=>jt (fun (nx21:((List Bool)×(List Int)×Int)→Prop) ((xs14,xs17,t20):((List Bool)×(List Int)×Int))=>ifW (decide (t20<(s_0.xChains.length:Int))) (jt (fun (nx29:((List Bool)×(List Int)×Int)→Prop) ((xs22,xs25,t28):((List Bool)×(List Int)×Int))=>ifW (decide (t28<(s_0.xChains.length:Int))) (jnW (fun ((xs190,xs192):((List Bool)×(List Int)))=>js t28 1 (fun t196=>nx29 (xs190,xs192,t196))) (fun k195=>zH xs22 t28 (fun e30=>jt (fun (nx34:(Bool×Int)→Prop) ((t32,t33):(Bool×Int))=>zH s_0.xChains t28 (fun e35=>ifW (decide (t33<(e35.length:Int))) (jnW (fun (t120:Bool)=>js t33 1 (fun t122=>nx34 (t120,t122))) (fun k121=>zH s_0.xChains t28 (fun e41=>zH e41 t33 (fun e47=>ifW t32 (ifW (!(decide (e47.xAction=3))) (k121 true) (zH xs22 e47.xChain (fun e58=>k121 e58))) (k121 false))))) (ifW t32 (zH xs22 t28 (fun e123=>xm xs25 ([t28]) (fun _=>k195 ((xs22.set (t28).toNat true),(xs25++([t28])))))) (k195 (xs22,xs25))))) ((!e30),0)))) (js t20 1 (fun t197=>nx21 (xs22,xs25,t197)))) (xs14,xs17,0)) (κ xs17)) (xs10,[],0))
def ZX (s_0:zQ) (κ:Bool→Prop):Prop :=
 jt (fun (nx9:Int→Prop) (t8:Int)=>ifW (decide (t8<(s_0.xChains.length:Int))) (zH s_0.xChains t8 (fun e10=>XD e10 (fun r16=>ifW (!r16) (κ false) (jt (fun (nx18:Int→Prop) (t17:Int)=>zH s_0.xChains t8 (fun e19=>ifW (decide (t17<(e19.length:Int))) (zH s_0.xChains t8 (fun e25=>zH e25 t17 (fun e31=>ifW (decide ((s_0.xChains.length:Int)≤e31.xChain)) (κ false) (js t17 1 (fun t33=>nx18 t33))))) (js t8 1 (fun t34=>nx9 t34)))) 0)))) (jnW (fun (t99:Bool)=>κ t99) (fun k100=>yq (s_0.xChains.length:Int) 1 5 (fun r35=>ifW r35 (Y9 s_0 (fun r36=>k100 (decide ((r36.length:Int)=(s_0.xChains.length:Int))))) (k100 false))))) 0
def uV (a_0:(List zg)) (b_1:(List zg)) (κ:(List zg)→Prop):Prop :=
 jt (fun (nx13:((List zg)×Int)→Prop) ((xs9,t12):((List zg)×Int))=>ifW (decide (t12<(a_0.length:Int))) (jt (fun (nx19:((List zg)×Int)→Prop) ((xs15,t18):((List zg)×Int))=>ifW (decide (t18<(b_1.length:Int))) (jnW (fun (xs92:(List zg))=>js t18 1 (fun t96=>nx19 (xs92,t96))) (fun k95=>zH a_0 t12 (fun e20=>zH b_1 t18 (fun e22=>zH a_0 t12 (fun e24=>zH b_1 t18 (fun e26=>ifW (decide ((max e20.xLo e22.xLo)≤(min e24.xHi e26.xHi))) (xm xs15 ([(zg.mk (max e20.xLo e22.xLo) (min e24.xHi e26.xHi))]) (fun _=>k95 (xs15++([(zg.mk (max e20.xLo e22.xLo) (min e24.xHi e26.xHi))])))) (k95 xs15))))))) (js t12 1 (fun t97=>nx13 (xs15,t97)))) (xs9,0)) (κ xs9)) ([],0)
def XP (a_0:ji) (b_1:ji) (κ:ji→Prop):Prop :=
 jt (fun (nx25:((List (List zg))×Int)→Prop) ((xs20,t24):((List (List zg))×Int))=>ifW (decide (t24<4)) (jnW (fun (xs29:(List (List zg)))=>js t24 1 (fun t64=>nx25 (xs29,t64))) (fun k33=>zH a_0.xSides t24 (fun e34=>zH b_1.xSides t24 (fun e39=>uV e34 e39 (fun r44=>xm xs20 ([r44]) (fun _=>k33 (xs20++([r44])))))))) (κ (ji.mk xs20))) ([],0)
def yy (b_0:ji) (κ:Bool→Prop):Prop :=
 jt (fun (nx9:Int→Prop) (t8:Int)=>ifW (decide (t8<(b_0.xSides.length:Int))) (zH b_0.xSides t8 (fun e10=>ifW (decide ((e10.length:Int)=0)) (κ true) (js t8 1 (fun t16=>nx9 t16)))) (κ false)) 0
def yv (list_0:(List zg)) (top_1:Int) (κ:Bool→Prop):Prop :=
 jt (fun (nx4:Int→Prop) (t3:Int)=>ifW (decide (t3<(list_0.length:Int))) (jnW (fun (t79:Bool)=>ifW t79 (κ false) (js t3 1 (fun t81=>nx4 t81))) (fun k80=>zH list_0 t3 (fun e5=>zH list_0 t3 (fun e7=>yq e5.xLo 0 e7.xHi (fun r9=>ifW (!r9) (k80 true) (zH list_0 t3 (fun e10=>yq e10.xHi 0 top_1 (fun r12=>ifW (!r12) (k80 true) (ifW (decide (0<t3)) (zH list_0 t3 (fun e13=>YU t3 1 (fun t15=>zH list_0 t15 (fun e16=>js e16.xHi 2 (fun t18=>k80 (decide (e13.xLo<t18))))))) (k80 false)))))))))) (jnW (fun (t143:Bool)=>κ t143) (fun k144=>yq top_1 0 65535 (fun r82=>ifW r82 (k144 (decide ((list_0.length:Int)≤40))) (k144 false))))) 0
def uR (b_0:ji) (κ:Bool→Prop):Prop :=
 jt (fun (nx9:Int→Prop) (t8:Int)=>ifW (decide (t8<(b_0.xSides.length:Int))) (jnW (fun (t78:Bool)=>ifW t78 (κ false) (js t8 1 (fun t80=>nx9 t80))) (fun k79=>ifW (decide (4≤t8)) (k79 true) (zH b_0.xSides t8 (fun e10=>uz t8 (fun r16=>yv e10 r16 (fun r17=>k79 (!r17))))))) (κ (decide ((b_0.xSides.length:Int)=4)))) 0
def xG (list_0:(List ji)) (κ:Bool→Prop):Prop :=
 jt (fun (nx4:Int→Prop) (t3:Int)=>ifW (decide (t3<(list_0.length:Int))) (zH list_0 t3 (fun e5=>uR e5 (fun r11=>ifW (!r11) (κ false) (js t3 1 (fun t12=>nx4 t12))))) (κ (decide ((list_0.length:Int)≤400)))) 0
def Yy (κ:ji→Prop):Prop :=
 jt (fun (nx11:((List (List zg))×Int)→Prop) ((xs6,t10):((List (List zg))×Int))=>ifW (decide (t10<4)) (jnW (fun (xs15:(List (List zg)))=>js t10 1 (fun t41=>nx11 (xs15,t41))) (fun k19=>uz t10 (fun r20=>xm xs6 ([[(zg.mk 0 r20)]]) (fun _=>k19 (xs6++([[(zg.mk 0 r20)]])))))) (κ (ji.mk xs6))) ([],0)
def XZ (a_0:(List zg)) (top_1:Int) (κ:(List zg)→Prop):Prop :=
 jt (fun (nx12:((List zg)×Int×Int)→Prop) ((xs7,t10,t11):((List zg)×Int×Int))=>ifW (decide (t11<(a_0.length:Int))) (jnW (fun (xs82:(List zg))=>zH a_0 t11 (fun e86=>js e86.xHi 1 (fun t88=>js t11 1 (fun t89=>nx12 (xs82,t88,t89))))) (fun k85=>zH a_0 t11 (fun e13=>ifW (decide (t10<e13.xLo)) (zH a_0 t11 (fun e15=>YU e15.xLo 1 (fun t17=>xm xs7 ([(zg.mk t10 t17)]) (fun _=>k85 (xs7++([(zg.mk t10 t17)])))))) (k85 xs7)))) (jnW (fun (xs154:(List zg))=>κ xs154) (fun k157=>ifW (decide (t10≤top_1)) (xm xs7 ([(zg.mk t10 top_1)]) (fun _=>k157 (xs7++([(zg.mk t10 top_1)])))) (k157 xs7)))) ([],0,0)
def Z7 (t_0:jJ) (κ:(List zg)→Prop):Prop :=
 Z3 t_0 (fun r4=>ifW (!r4) (κ ([])) (ifW t_0.xNot (uz t_0.xField (fun r9=>XZ ([(zg.mk t_0.xLo t_0.xHi)]) r9 (fun r10=>κ r10))) (κ ([(zg.mk t_0.xLo t_0.xHi)]))))
def YM (list_0:(List jJ)) (κ:ji→Prop):Prop :=
 ZL list_0 (fun r5=>ifW (!r5) (κ (ji.mk ([]))) (Yy (fun r7=>jt (fun (nx21:((List (List zg))×Int)→Prop) ((xs17,t20):((List (List zg))×Int))=>ifW (decide (t20<(list_0.length:Int))) (zH list_0 t20 (fun e22=>jnW (fun (xs27:(List (List zg)))=>js t20 1 (fun t58=>nx21 (xs27,t58))) (fun k29=>zH list_0 t20 (fun e30=>(zH xs17 e22.xField (fun e32=>Z7 e30 (fun r38=>uV e32 r38 (fun r40=>zH xs17 e22.xField (fun e42=>k29 (xs17.set (e22.xField).toNat r40))))))∧(Z7 e30 (fun r54=>zH xs17 e22.xField (fun e56=>uV e56 r54 (fun r40=>zH xs17 e22.xField (fun e42=>k29 (xs17.set (e22.xField).toNat r40)))))))))) (κ (ji.mk xs17))) (r7.xSides,0))))
def ud (list_0:(List (List zg))) (κ:(List (List zg))→Prop):Prop :=
 jt (fun (nx13:((List (List zg))×Int)→Prop) ((xs8,t12):((List (List zg))×Int))=>ifW (decide (t12<(list_0.length:Int))) (zH list_0 t12 (fun e16=>xm ([]) e16 (fun _=>xm xs8 ([(([])++e16)]) (fun _=>js t12 1 (fun t33=>nx13 ((xs8++([(([])++e16)])),t33)))))) (κ xs8)) ([],0)
def yM (a_0:ji) (b_1:ji) (κ:(List ji)→Prop):Prop :=
 XP a_0 b_1 (fun r19=>yy r19 (fun r23=>ifW r23 (jnW (fun (xs89:(List ji))=>κ xs89) (fun k92=>yy a_0 (fun r24=>ifW (!r24) (xm ([]) ([a_0]) (fun _=>k92 (([])++([a_0])))) (k92 ([]))))) (jt (fun (nx105:((List (List zg))×(List ji)×Int)→Prop) ((xs96,xs100,t104):((List (List zg))×(List ji)×Int))=>ifW (decide (t104<4)) (zH xs96 t104 (fun e115=>zH b_1.xSides t104 (fun e121=>uz t104 (fun r127=>XZ e121 r127 (fun r128=>uV e115 r128 (fun r131=>zH xs96 t104 (fun e134=>zH b_1.xSides t104 (fun e140=>uV e134 e140 (fun r146=>jnW (fun (xs231:(List ji))=>ud xs96 (fun r236=>zH r236 t104 (fun e245=>js t104 1 (fun t252=>nx105 ((r236.set (t104).toNat r146),xs231,t252))))) (fun k235=>ifW (decide (0<(r131.length:Int))) (ud xs96 (fun r149=>zH r149 t104 (fun e158=>xm xs100 ([(ji.mk (r149.set (t104).toNat r131))]) (fun _=>k235 (xs100++([(ji.mk (r149.set (t104).toNat r131))])))))) (k235 xs100))))))))))) (κ xs100)) (a_0.xSides,[],0))))
def Ul (rec:(zQ→Int→(List ji)→(List zV)→(((List ji)×Bool×(List zV))→Prop)→Prop)) (s_0:zQ) (chain_1:Int) (in_2:(List ji)) (out_3:(List zV)) (κ:((List ji)×Bool×(List zV))→Prop):Prop :=
 jt (fun (nx33:((List zV)×(List ji)×(List ji)×Int)→Prop) ((xs20,xs24,xs28,t32):((List zV)×(List ji)×(List ji)×Int))=>zH s_0.xChains chain_1 (fun e34=>ifW (decide (t32<(e34.length:Int))) (zH s_0.xChains chain_1 (fun e40=>zH e40 t32 (fun e46=>YM e46.xTests (fun r63=>jt (fun (nx81:((List ji)×(List ji)×Int)→Prop) ((xs72,xs77,t80):((List ji)×(List ji)×Int))=>ifW (decide (t80<(xs24.length:Int))) (jnW (fun (xs182:(List ji))=>zH xs24 t80 (fun e195=>yM e195 r63 (fun r201=>xm xs77 r201 (fun _=>js t80 1 (fun t206=>nx81 (xs182,(xs77++r201),t206)))))) (fun k186=>jnW (fun (xs90:(List (List zg)))=>yy (ji.mk xs90) (fun r112=>ifW (!r112) (xm xs72 ([(ji.mk xs90)]) (fun _=>k186 (xs72++([(ji.mk xs90)])))) (k186 xs72))) (fun k95=>zH xs24 t80 (fun e96=>XP e96 r63 (fun r101=>k95 r101.xSides))))) (jnW (fun (t269:Bool)=>ifW t269 (κ (xs28,false,xs20)) (jnW (fun ((xs445,xs449,xs453):((List ji)×(List ji)×(List zV)))=>jnW (fun (t519:Bool)=>ifW t519 (κ (xs445,false,xs453)) (js t32 1 (fun t521=>nx33 (xs453,xs449,xs445,t521)))) (fun k520=>xG xs449 (fun r457=>ifW (!r457) (k520 true) (xG xs445 (fun r458=>ifW (!r458) (k520 true) (k520 (decide (60<(xs453.length:Int))))))))) (fun k456=>jnW (fun (t331:Bool)=>ifW t331 (jt (fun (nx338:((List zV)×Int)→Prop) ((xs334,t337):((List zV)×Int))=>ifW (decide (t337<(xs72.length:Int))) (jnW (fun (xs342:(List zV))=>js t337 1 (fun t370=>nx338 (xs342,t370))) (fun k345=>zH xs72 t337 (fun e346=>xm xs334 ([(zV.mk e346 (decide (e46.xAction=1)))]) (fun _=>k345 (xs334++([(zV.mk e346 (decide (e46.xAction=1)))])))))) (k456 (xs28,xs77,xs334))) (xs20,0)) (ifW (decide (e46.xAction=4)) (xm xs28 xs72 (fun _=>k456 ((xs28++xs72),xs77,xs20))) (ifW (decide (e46.xAction=3)) (rec s_0 e46.xChain xs72 xs20 (fun (r374,r377,r378)=>ifW (!r377) (κ (xs28,false,r378)) (xm xs77 r374 (fun _=>k456 (xs28,(xs77++r374),r378))))) (xm xs77 xs72 (fun _=>k456 (xs28,(xs77++xs72),xs20)))))) (fun k332=>ifW (decide (e46.xAction=1)) (k332 (decide (e46.xAction=1))) (k332 (decide (e46.xAction=2))))))) (fun k270=>xG xs72 (fun r207=>ifW (!r207) (k270 true) (xG xs77 (fun r208=>k270 (!r208))))))) ([],[],0))))) (xm xs28 xs24 (fun _=>xG (xs28++xs24) (fun r524=>κ ((xs28++xs24),r524,xs20)))))) (out_3,in_2,[],0)
def yU:Nat→zQ→Int→(List ji)→(List zV)→(((List ji)×Bool×(List zV))→Prop)→Prop
 | 0=>fun _ _ _ _ _=>False
 | n+1=>Ul (yU n)
def za0 (s_0:zQ) (chain_1:Int) (in_2:(List ji)) (out_3:(List zV)) (κ:((List ji)×Bool×(List zV))→Prop):Prop:=∃ n,yU n s_0 chain_1 in_2 out_3 κ
def UI (s_0:zQ) (κ:((List zV)×Bool)→Prop):Prop :=
 yz s_0 (fun r9=>ZX r9 (fun r24=>ifW (!r24) (κ ([],false)) (Yy (fun r25=>za0 r9 0 ([r25]) ([]) (fun (r35,r38,r39)=>ifW (!r38) (κ ([],false)) (κ (r39,true)))))))
def Xm (x_0:ji) (κ:ji→Prop):Prop :=
 ud x_0.xSides (fun r12=>κ (ji.mk r12))
def Yp (x_0:zV) (κ:zV→Prop):Prop :=
 Xm x_0.xWhere (fun r12=>κ (zV.mk r12 x_0.xAccept))
def ub (list_0:(List zV)) (κ:(List zV)→Prop):Prop :=
 jt (fun (nx13:((List zV)×Int)→Prop) ((xs8,t12):((List zV)×Int))=>ifW (decide (t12<(list_0.length:Int))) (zH list_0 t12 (fun e14=>Yp e14 (fun r20=>xm xs8 ([r20]) (fun _=>js t12 1 (fun t33=>nx13 ((xs8++([r20])),t33)))))) (κ xs8)) ([],0)
def uJ (list_0:(List zV)) (κ:Bool→Prop):Prop :=
 jt (fun (nx4:Int→Prop) (t3:Int)=>ifW (decide (t3<(list_0.length:Int))) (zH list_0 t3 (fun e5=>uR e5.xWhere (fun r11=>ifW (!r11) (κ false) (js t3 1 (fun t12=>nx4 t12))))) (κ (decide ((list_0.length:Int)≤60)))) 0
def YP (list_0:(List zV)) (rest_1:Bool) (κ:(List zV)→Prop):Prop :=
 ub list_0 (fun r4=>uJ r4 (fun r8=>ifW (!r8) (κ ([])) (jt (fun (nx13:Int→Prop) (t12:Int)=>jnW (fun (t77:Bool)=>ifW t77 (YU t12 1 (fun t79=>nx13 t79)) (Zk r4 0 t12 (fun xs84=>xm ([]) xs84 (fun _=>κ (([])++xs84))))) (fun k78=>ifW (decide (0<t12)) (YU t12 1 (fun t14=>zH r4 t14 (fun e15=>k78 (decide (e15.xAccept=rest_1))))) (k78 false))) (r4.length:Int))))
def Z0 (a_0:ji) (b_1:ji) (κ:Bool→Prop):Prop :=
 jnW (fun (t80:Bool)=>κ t80) (fun k81=>uR a_0 (fun r15=>ifW r15 (uR b_1 (fun r16=>ifW r16 (yM a_0 b_1 (fun r17=>k81 (decide ((r17.length:Int)=0)))) (k81 false))) (k81 false)))
def Uj (a_0:(List zg)) (b_1:(List zg)) (κ:Bool→Prop):Prop :=
 ifW (!(decide ((a_0.length:Int)=(b_1.length:Int)))) (κ false) (jt (fun (nx6:Int→Prop) (t5:Int)=>ifW (decide (t5<(a_0.length:Int))) (zH a_0 t5 (fun e7=>zH b_1 t5 (fun e9=>ifW (!(decide (e7=e9))) (κ false) (js t5 1 (fun t11=>nx6 t11))))) (κ true)) 0)
def Vd (list_0:(List zg)) (s_1:zg) (κ:(List zg)→Prop):Prop :=
 jt (fun (nx16:(Int×Int×(List zg)×Bool×Int)→Prop) ((t8,t9,xs11,t14,t15):(Int×Int×(List zg)×Bool×Int))=>ifW (decide (t15<(list_0.length:Int))) (jnW (fun ((xs160,t163,t164,t165):((List zg)×Int×Int×Bool))=>js t15 1 (fun t167=>nx16 (t163,t164,xs160,t165,t167))) (fun k166=>zH list_0 t15 (fun e17=>js e17.xHi 1 (fun t21=>ifW (decide (t21<t8)) (xm xs11 ([e17]) (fun _=>k166 ((xs11++([e17])),t8,t9,t14))) (js t9 1 (fun t26=>ifW (decide (t26<e17.xLo)) (jnW (fun ((xs91,t94):((List zg)×Bool))=>xm xs91 ([e17]) (fun _=>k166 ((xs91++([e17])),t8,t9,t94))) (fun k95=>ifW (!t14) (xm xs11 ([(zg.mk t8 t9)]) (fun _=>k95 ((xs11++([(zg.mk t8 t9)])),true))) (k95 (xs11,t14)))) (k166 (xs11,(min t8 e17.xLo),(max t9 e17.xHi),t14)))))))) (jnW (fun (xs232:(List zg))=>κ xs232) (fun k235=>ifW (!t14) (xm xs11 ([(zg.mk t8 t9)]) (fun _=>k235 (xs11++([(zg.mk t8 t9)])))) (k235 xs11)))) (s_1.xLo,s_1.xHi,[],false,0)
def XL (a_0:(List zg)) (b_1:(List zg)) (top_2:Int) (κ:(List zg)→Prop):Prop :=
 jnW (fun (t68:Bool)=>ifW t68 (κ ([])) (xm ([]) a_0 (fun _=>jt (fun (nx81:((List zg)×Int)→Prop) ((xs77,t80):((List zg)×Int))=>ifW (decide (t80<(b_1.length:Int))) (zH b_1 t80 (fun e82=>Vd xs77 e82 (fun r84=>js t80 1 (fun t87=>nx81 (r84,t87))))) (ifW (decide (40<(xs77.length:Int))) (κ ([])) (κ xs77))) ((([])++a_0),0)))) (fun k69=>yv a_0 top_2 (fun r6=>ifW (!r6) (k69 true) (yv b_1 top_2 (fun r7=>k69 (!r7)))))
def XN (a_0:ji) (b_1:ji) (κ:(ji×Bool)→Prop):Prop :=
 jnW (fun (t79:Bool)=>ifW t79 (κ ((ji.mk ([])),false)) (Z0 a_0 b_1 (fun r82=>ifW r82 (Xm b_1 (fun r83=>κ (r83,true))) (Z0 b_1 a_0 (fun r90=>ifW r90 (Xm a_0 (fun r91=>κ (r91,true))) (jt (fun (nx100:(Int×Int)→Prop) ((t98,t99):(Int×Int))=>ifW (decide (t99<4)) (jnW (fun (t174:Int)=>js t99 1 (fun t176=>nx100 (t174,t176))) (fun k175=>zH a_0.xSides t99 (fun e101=>zH b_1.xSides t99 (fun e107=>Uj e101 e107 (fun r113=>ifW (!r113) (ifW (decide (0≤t98)) (κ ((ji.mk ([])),false)) (k175 t99)) (k175 t98)))))) (ud a_0.xSides (fun r177=>zH a_0.xSides t98 (fun e186=>zH b_1.xSides t98 (fun e192=>uz t98 (fun r198=>XL e186 e192 r198 (fun r199=>zH r177 t98 (fun e202=>zH (r177.set (t98).toNat r199) t98 (fun e209=>ifW (decide ((e209.length:Int)=0)) (κ ((ji.mk ([])),false)) (κ ((ji.mk (r177.set (t98).toNat r199)),true))))))))))) ((-1),0))))))) (fun k80=>uR a_0 (fun r17=>ifW (!r17) (k80 true) (uR b_1 (fun r18=>k80 (!r18)))))
def Uq (list_0:(List zV)) (κ:(Int×zV)→Prop):Prop :=
 jt (fun (nx6:Int→Prop) (t5:Int)=>js t5 1 (fun t7=>ifW (decide (t7<(list_0.length:Int))) (jnW (fun ((xs8,t12):((List (List zg))×Bool))=>jnW (fun (t103:Bool)=>ifW t103 (zH list_0 t5 (fun e108=>κ (t5,(zV.mk (ji.mk xs8) e108.xAccept)))) (js t5 1 (fun t110=>nx6 t110))) (fun k104=>ifW t12 (zH list_0 t5 (fun e38=>js t5 1 (fun t40=>zH list_0 t40 (fun e41=>k104 (decide (e38.xAccept=e41.xAccept)))))) (k104 false))) (fun k13=>zH list_0 t5 (fun e14=>zH list_0 (w64 (t5+1)) (fun e19=>XN e14.xWhere e19.xWhere (fun (r24,r26)=>k13 (r24.xSides,r26)))))) (κ ((-1),(zV.mk (ji.mk ([])) false))))) 0
def XJ (list_0:(List zV)) (κ:(List zV)→Prop):Prop :=
 ub list_0 (fun r4=>uJ r4 (fun r8=>ifW (!r8) (κ ([])) (xm ([]) r4 (fun _=>jt (fun (nx22:(List zV)→Prop) (xs19:(List zV))=>Uq xs19 (fun (r23,r24)=>ifW (decide (r23<0)) (κ xs19) (js r23 2 (fun t35=>Zk xs19 t35 (xs19.length:Int) (fun xs37=>xm ([]) xs37 (fun _=>jnW (fun (xs49:(List zV))=>nx22 xs49) (fun k52=>Zk xs19 0 r23 (fun xs56=>xm ([]) xs56 (fun _=>xm (([])++xs56) ([r24]) (fun _=>xm ((([])++xs56)++([r24])) (([])++xs37) (fun _=>k52 (((([])++xs56)++([r24]))++(([])++xs37))))))))))))) (([])++r4)))))
def Uo (b_0:ji) (list_1:(List ji)) (κ:((List ji)×Bool)→Prop):Prop :=
 jnW (fun (xs79:(List ji))=>jt (fun (nx88:((List ji)×Int)→Prop) ((xs84,t87):((List ji)×Int))=>ifW (decide (t87<(list_1.length:Int))) (jt (fun (nx97:((List ji)×Int)→Prop) ((xs93,t96):((List ji)×Int))=>ifW (decide (t96<(xs84.length:Int))) (zH xs84 t96 (fun e98=>zH list_1 t87 (fun e100=>yM e98 e100 (fun r112=>xm xs93 r112 (fun _=>js t96 1 (fun t117=>nx97 ((xs93++r112),t117))))))) (xG xs93 (fun r118=>ifW (!r118) (κ ([],false)) (js t87 1 (fun t122=>nx88 (xs93,t122)))))) ([],0)) (κ (xs84,true))) (xs79,0)) (fun k82=>yy b_0 (fun r14=>ifW (!r14) (xm ([]) ([b_0]) (fun _=>k82 (([])++([b_0])))) (k82 ([]))))
def Yo (list_0:(List zV)) (κ:(List ji)→Prop):Prop :=
 ub list_0 (fun r4=>jt (fun (nx16:((List ji)×Int)→Prop) ((xs12,t15):((List ji)×Int))=>jnW (fun (t78:Bool)=>ifW t78 (zH r4 t15 (fun e80=>xm xs12 ([e80.xWhere]) (fun _=>js t15 1 (fun t95=>nx16 ((xs12++([e80.xWhere])),t95))))) (κ xs12)) (fun k79=>ifW (decide (t15<(r4.length:Int))) (uJ r4 (fun r17=>k79 r17)) (k79 false))) ([],0))
def Ue (list_0:(List zV)) (k_1:Int) (κ:Bool→Prop):Prop :=
 zH list_0 k_1 (fun e3=>Zk list_0 0 k_1 (fun xs10=>Yo xs10 (fun r13=>Uo e3.xWhere r13 (fun (r16,r19)=>jnW (fun (t80:Bool)=>κ t80) (fun k81=>ifW r19 (k81 (decide ((r16.length:Int)=0))) (k81 false))))))
def YI (list_0:(List zV)) (κ:(List zV)→Prop):Prop :=
 ub list_0 (fun r4=>jt (fun (nx18:((List zV)×(List zV)×Int)→Prop) ((xs11,xs14,t17):((List zV)×(List zV)×Int))=>jnW (fun (t80:Bool)=>ifW t80 (jnW (fun (xs158:(List zV))=>js t17 1 (fun t162=>nx18 (xs11,xs158,t162))) (fun k161=>Ue xs11 t17 (fun r82=>ifW (!r82) (zH xs11 t17 (fun e83=>xm xs14 ([e83]) (fun _=>k161 (xs14++([e83]))))) (k161 xs14)))) (κ xs14)) (fun k81=>ifW (decide (t17<(xs11.length:Int))) (uJ xs11 (fun r19=>k81 r19)) (k81 false))) (r4,[],0))
def Up (list_0:(List zV)) (rest_1:Bool) (κ:(List zV)→Prop):Prop :=
 ub list_0 (fun r4=>uJ r4 (fun r8=>ifW (!r8) (κ ([])) (xm ([]) r4 (fun _=>jt (fun (nx22:(List zV)→Prop) (xs19:(List zV))=>YI xs19 (fun r23=>XJ r23 (fun r26=>YP r26 rest_1 (fun r29=>ifW (decide ((r29.length:Int)=(xs19.length:Int))) (κ r29) (nx22 r29))))) (([])++r4)))))
def X5 (s_0:zQ) (κ:((List zV)×Bool)→Prop):Prop :=
 yz s_0 (fun r9=>UI r9 (fun (r16,r19)=>ifW (!r19) (κ ([],false)) (Up r16 r9.xAccept (fun r23=>κ (r23,true)))))
def yO (list_0:(List zg)) (n_1:Int) (κ:Bool→Prop):Prop :=
 jt (fun (nx4:Int→Prop) (t3:Int)=>ifW (decide (t3<(list_0.length:Int))) (zH list_0 t3 (fun e5=>jnW (fun (t69:Bool)=>ifW t69 (κ true) (js t3 1 (fun t71=>nx4 t71))) (fun k70=>ifW (decide (e5.xLo≤n_1)) (k70 (decide (n_1≤e5.xHi))) (k70 false)))) (κ false)) 0
def Vb (κ:Bool→Prop):Prop :=
 yO ([(zg.mk 2 4)]) 3 (fun r3=>κ r3)
def yi (s_0:za) (κ:ji→Prop):Prop :=
 zav ([]:(List zg)) 4 4 (fun xs26=>jt (fun (nx55:((List (List zg))×Int)→Prop) ((xs50,t54):((List (List zg))×Int))=>ifW (decide (t54<4)) (zH ([s_0.x0,s_0.x1,s_0.x2,s_0.x3]) t54 (fun e57=>xm ([]) e57 (fun _=>zH xs50 t54 (fun e66=>js t54 1 (fun t73=>nx55 ((xs50.set (t54).toNat (([])++e57)),t73)))))) (κ (ji.mk xs50))) (xs26,0))
def Xl (list_0:(List zn)) (κ:(List zV)→Prop):Prop :=
 zav ((zV.mk (ji.mk ([])) false):zV) 0 (list_0.length:Int) (fun xs5=>jt (fun (nx14:((List zV)×Int)→Prop) ((xs9,t13):((List zV)×Int))=>ifW (decide (t13<(list_0.length:Int))) (zH list_0 t13 (fun e15=>yi e15.xWhere (fun r44=>xm xs9 ([(zV.mk r44 e15.xAccept)]) (fun _=>js t13 1 (fun t57=>nx14 ((xs9++([(zV.mk r44 e15.xAccept)])),t57)))))) (κ xs9)) (xs5,0))
def X4 (s_0:zQ) (κ:((List zV)×Bool)→Prop):Prop :=
 ZU s_0 (fun (r9,r12)=>ifW (!r12) (κ ([],false)) (Xl r9 (fun r14=>κ (r14,true))))
def U8 (list_0:(List ji)) (seed_1:Int) (κ:zI→Prop):Prop :=
 zbz seed_1 65536 (fun t5=>zjb seed_1 3 (fun t6=>zbz t6 65536 (fun t7=>zbz seed_1 256 (fun t8=>zbz seed_1 8 (fun t9=>jt (fun (nx17:((List Int)×Int)→Prop) ((xs14,t16):((List Int)×Int))=>ifW (decide (t16<(list_0.length:Int))) (jt (fun (nx21:((List Int)×Int)→Prop) ((xs18,t20):((List Int)×Int))=>jnW (fun (t88:Bool)=>ifW t88 (jnW (fun (xs241:(List Int))=>js t20 1 (fun t244=>nx21 (xs241,t244))) (fun k243=>zH list_0 t16 (fun e90=>zH e90.xSides t20 (fun e96=>jnW (fun (t165:Bool)=>ifW t165 (k243 xs18) (js seed_1 t20 (fun t167=>zbz t167 (e96.length:Int) (fun t168=>zH e96 t168 (fun e169=>zH xs18 t20 (fun e173=>js seed_1 t16 (fun t176=>zbz t176 2 (fun t177=>ifW (decide (t177=0)) (zH (xs18.set (t20).toNat e169.xLo) t20 (fun e178=>k243 ((xs18.set (t20).toNat e169.xLo).set (t20).toNat e169.xHi))) (k243 (xs18.set (t20).toNat e169.xLo)))))))))) (fun k166=>ifW (decide ((e96.length:Int)=0)) (k166 true) (js seed_1 t16 (fun t102=>js t102 t20 (fun t103=>zbz t103 3 (fun t104=>k166 (decide (t104=0))))))))))) (js t16 1 (fun t245=>nx17 (xs18,t245)))) (fun k89=>ifW (decide (t20<4)) (zH list_0 t16 (fun e22=>k89 (decide (t20<(e22.xSides.length:Int))))) (k89 false))) (xs14,0)) (zH xs14 0 (fun e246=>zH xs14 1 (fun e248=>zH xs14 2 (fun e250=>zH xs14 3 (fun e252=>κ (zI.mk e246 e248 e250 e252))))))) ([t5,t7,t8,t9],0))))))
def YK (top_0:Int) (κ:Bool→Prop):Prop :=
 jnW (fun (t61:Bool)=>κ t61) (fun k62=>ifW (decide (0≤top_0)) (k62 (decide (top_0≤65535))) (k62 false))
def XB (list_0:(List zg)) (top_1:Int) (κ:Bool→Prop):Prop :=
 jnW (fun (t64:Bool)=>ifW t64 (κ false) (jt (fun (nx68:(Int×Int)→Prop) ((t66,t67):(Int×Int))=>ifW (decide (t67<(list_0.length:Int))) (zH list_0 t67 (fun e69=>jnW (fun (t134:Bool)=>ifW t134 (κ false) (js t67 1 (fun t136=>nx68 (e69.xHi,t136)))) (fun k135=>js t66 1 (fun t73=>ifW (decide (e69.xLo≤t73)) (k135 true) (ifW (decide (e69.xHi<e69.xLo)) (k135 true) (k135 (decide (top_1<e69.xHi)))))))) (κ true)) ((-2),0))) (fun k65=>YK top_1 (fun r3=>ifW (!r3) (k65 true) (k65 (decide (40<(list_0.length:Int))))))
def YJ (b_0:ji) (κ:Bool→Prop):Prop :=
 ifW (!(decide ((b_0.xSides.length:Int)=4))) (κ false) (jt (fun (nx9:Int→Prop) (t8:Int)=>ifW (decide (t8<(b_0.xSides.length:Int))) (zH b_0.xSides t8 (fun e10=>jn t8 (fun r16=>XB e10 r16 (fun r17=>ifW (!r17) (κ false) (js t8 1 (fun t18=>nx9 t18)))))) (κ true)) 0)
def Zw (list_0:(List zV)) (κ:Bool→Prop):Prop :=
 ifW (decide (60<(list_0.length:Int))) (κ false) (jt (fun (nx4:Int→Prop) (t3:Int)=>ifW (decide (t3<(list_0.length:Int))) (zH list_0 t3 (fun e5=>YJ e5.xWhere (fun r16=>ifW (!r16) (κ false) (js t3 1 (fun t17=>nx4 t17))))) (κ true)) 0)
def Un (list_0:(List za)) (κ:(List ji)→Prop):Prop :=
 zav ((ji.mk ([])):ji) 0 (list_0.length:Int) (fun xs5=>jt (fun (nx14:((List ji)×Int)→Prop) ((xs9,t13):((List ji)×Int))=>ifW (decide (t13<(list_0.length:Int))) (zH list_0 t13 (fun e15=>yi e15 (fun r60=>xm xs9 ([r60]) (fun _=>js t13 1 (fun t73=>nx14 ((xs9++([r60])),t73)))))) (κ xs9)) (xs5,0))
def Y6 (b_0:ji) (κ:za→Prop):Prop :=
 zmL b_0.xSides (fun e10 e11 e12 e13=>κ (za.mk e10 e11 e12 e13))
def X7 (list_0:(List zV)) (κ:(List zn)→Prop):Prop :=
 zav ((zn.mk (za.mk ([]) ([]) ([]) ([])) false):zn) 0 (list_0.length:Int) (fun xs5=>jt (fun (nx12:((List zn)×Int)→Prop) ((xs8,t11):((List zn)×Int))=>ifW (decide (t11<(list_0.length:Int))) (zH list_0 t11 (fun e13=>Y6 e13.xWhere (fun r24=>xm xs8 ([(zn.mk r24 e13.xAccept)]) (fun _=>js t11 1 (fun t49=>nx12 ((xs8++([(zn.mk r24 e13.xAccept)])),t49)))))) (κ xs8)) (xs5,0))
def Yc (list_0:(List zV)) (κ:(List ji)→Prop):Prop :=
 Zw list_0 (fun r4=>ifW (!r4) (κ ([])) (X7 list_0 (fun r6=>YE r6 (fun r9=>Un r9 (fun r12=>κ r12)))))
def ux (p_0:zI) (κ:zdu→Prop):Prop :=
 κ (zdu.mk p_0.xFrom p_0.xTo p_0.xPort p_0.xProto)
def yY (p_0:zI) (κ:Bool→Prop):Prop :=
 ux p_0 (fun r3=>jt (fun (nx5:Int→Prop) (t4:Int)=>ifW (decide (t4<4)) (zH ([r3.x0,r3.x1,r3.x2,r3.x3]) t4 (fun e6=>jnW (fun (t68:Bool)=>ifW t68 (κ false) (js t4 1 (fun t70=>nx5 t70))) (fun k69=>ifW (decide (e6<0)) (k69 true) (jn t4 (fun r7=>k69 (decide (r7<e6))))))) (κ true)) 0)
def ZD (w_0_stack:(List jx)) (w_0_visits:(List uP)) (w_0_decision:Int) (κ:(List jx)→Prop):Prop :=
 jnW (fun (xs7:(List jx))=>κ xs7) (fun k10=>Zk w_0_stack 0 (w64 ((w_0_stack.length:Int) - 1)) (fun xs12=>k10 xs12))
def XH (t_0:jJ) (p_1:zI) (κ:Bool→Prop):Prop :=
 ux p_1 (fun r5=>zH ([r5.x0,r5.x1,r5.x2,r5.x3]) t_0.xField (fun e6=>jnW (fun (t67:Bool)=>κ (!(decide (t67=t_0.xNot)))) (fun k68=>ifW (decide (t_0.xLo≤e6)) (k68 (decide (e6≤t_0.xHi))) (k68 false))))
def Uf (list_0:(List jJ)) (p_1:zI) (κ:Bool→Prop):Prop :=
 jt (fun (nx6:Int→Prop) (t5:Int)=>ifW (decide (t5<(list_0.length:Int))) (zH list_0 t5 (fun e7=>XH e7 p_1 (fun r11=>ifW (!r11) (κ false) (js t5 1 (fun t12=>nx6 t12))))) (κ true)) 0
def yo (d_0:uU) (w_1_stack:(List jx)) (w_1_visits:(List uP)) (w_1_decision:Int) (κ:Int→Prop):Prop :=
 ifW d_0.xAccept (κ 1) (κ 2)
def ZW (c_0:Z2) (w_1_stack:(List jx)) (w_1_visits:(List uP)) (w_1_decision:Int) (κ:(List jx)→Prop):Prop :=
 jnW (fun (xs9:(List jx))=>κ xs9) (fun k12=>xm w_1_stack ([(jx.mk c_0.xChain 0)]) (fun _=>k12 (w_1_stack++([(jx.mk c_0.xChain 0)]))))
def Zg (a_0:uo) (w_1_stack:(List jx)) (w_1_visits:(List uP)) (w_1_decision:Int) (κ:(List jx)→Prop):Prop :=
 ZD w_1_stack w_1_visits w_1_decision (fun r9=>κ r9)
def ZS (a_0:yc) (a_1_stack:(List jx)) (a_1_visits:(List uP)) (a_1_decision:Int) (κ:Unit→Prop):Prop :=
 κ ()
def Xa (s_0:zQ) (p_1:zI) (κ:((List jx)×(List uP)×Int)→Prop):Prop :=
 jt (fun (nx26:((List jx)×(List uP)×Int)→Prop) ((xs18,xs22,t25):((List jx)×(List uP)×Int))=>jnW (fun (t87:Bool)=>ifW t87 (YU (xs18.length:Int) 1 (fun t95=>zH xs18 t95 (fun e96=>zH s_0.xChains e96.xChain (fun e98=>ifW (decide (e96.xNext=(e98.length:Int))) (ZD xs18 xs22 t25 (fun r104=>nx26 (r104,xs22,t25))) (js e96.xNext 1 (fun t107=>zH e98 e96.xNext (fun e109=>Uf e109.xTests p_1 (fun r115=>ifW (!r115) (nx26 ((xs18.set (t95).toNat (jx.mk e96.xChain t107)),xs22,t25)) (jnW (fun (xs187:(List uP))=>zH e98 e96.xNext (fun e191=>Zn e191 (fun r197=>xS.casesW r197 (fun x198=>yo x198 (xs18.set (t95).toNat (jx.mk e96.xChain t107)) xs187 t25 (fun r202=>nx26 ((xs18.set (t95).toNat (jx.mk e96.xChain t107)),xs187,r202))) (fun x199=>ZW x199 (xs18.set (t95).toNat (jx.mk e96.xChain t107)) xs187 t25 (fun r203=>nx26 (r203,xs187,t25))) (fun x200=>Zg (uo.mk ) (xs18.set (t95).toNat (jx.mk e96.xChain t107)) xs187 t25 (fun r206=>nx26 (r206,xs187,t25))) (fun x201=>ZS (yc.mk ) (xs18.set (t95).toNat (jx.mk e96.xChain t107)) xs187 t25 (fun _=>nx26 ((xs18.set (t95).toNat (jx.mk e96.xChain t107)),xs187,t25)))))) (fun k190=>ifW (decide ((xs22.length:Int)<200)) (jnW (fun (xs116:(List uP))=>k190 xs116) (fun k119=>xm xs22 ([(uP.mk e96.xChain e96.xNext)]) (fun _=>k119 (xs22++([(uP.mk e96.xChain e96.xNext)]))))) (k190 xs22))))))))))) (κ (xs18,xs22,t25))) (fun k88=>ifW (decide (0<(xs18.length:Int))) (k88 (decide (t25=5))) (k88 false))) ([(jx.mk 0 0)],[],5)
def XC (s_0:zQ) (p_1:zI) (κ:Bool→Prop):Prop :=
 Xa s_0 p_1 (fun (r12,r15,r18)=>ifW (decide (r18=1)) (κ true) (ifW (decide (r18=2)) (κ false) (κ s_0.xAccept)))
def Zy (s_0:zQ) (p_1:zI) (κ:Bool→Prop):Prop :=
 jnW (fun (t72:Bool)=>ifW t72 (κ false) (XC s_0 p_1 (fun r74=>κ r74))) (fun k73=>u0 s_0 (fun r10=>ifW (!r10) (k73 true) (yY p_1 (fun r11=>k73 (!r11)))))
def UK (s_0:zQ) (κ:((List zV)×Bool)→Prop):Prop :=
 u0 s_0 (fun r9=>ifW (!r9) (κ ([],false)) (Zc s_0 (fun (r11,r14)=>ifW (!r14) (κ ([],false)) (Xl r11 (fun r16=>κ (r16,true))))))
def Yf (r_0_b:(List UInt8)) (r_0_p:Int) (n_1:Int) (κ:(zI×Int)→Prop):Prop :=
 zq r_0_b r_0_p 20 (fun (r7,r8)=>zq r_0_b r8 20 (fun (r9,r10)=>zq r_0_b r10 256 (fun (r11,r12)=>zq r_0_b r12 8 (fun (r13,r14)=>jnW (fun ((t93,t94,t95,t96):(Int×Int×Int×Int))=>jnW (fun ((t186,t187,t188,t189,t190):(Int×Int×Int×Int×Int))=>κ ((zI.mk t187 t188 t189 t190),t186)) (fun k191=>xc r_0_b t93 n_1 (fun (r98,r99)=>ifW r98 (zq r_0_b r99 4 (fun (r100,r101)=>ifW (decide (r100=0)) (zq r_0_b r101 2 (fun (r104,r105)=>zH ([(-1),65536]) r104 (fun e106=>k191 (r105,e106,t95,t96,r13)))) (ifW (decide (r100=1)) (zq r_0_b r101 2 (fun (r110,r111)=>zH ([(-1),65536]) r110 (fun e112=>k191 (r111,t94,e112,t96,r13)))) (ifW (decide (r100=2)) (zq r_0_b r101 2 (fun (r116,r117)=>zH ([(-1),256]) r116 (fun e118=>k191 (r117,t94,t95,e118,r13)))) (zq r_0_b r101 2 (fun (r122,r123)=>zH ([(-1),8]) r122 (fun e124=>k191 (r123,t94,t95,t96,e124)))))))) (k191 (r99,t94,t95,t96,r13))))) (fun k97=>zq r_0_b r14 2 (fun (r17,r18)=>ifW (decide (r17=0)) (zq r_0_b r18 256 (fun (r19,r20)=>zgD r19 256 (fun t21=>zq r_0_b r20 256 (fun (r22,r23)=>js t21 r22 (fun t24=>zq r_0_b r23 4 (fun (r25,r26)=>zgD r25 16384 (fun t27=>zq r_0_b r26 256 (fun (r28,r29)=>js t27 r28 (fun t30=>zq r_0_b r29 12 (fun (r31,r32)=>k97 (r32,t24,t30,r31))))))))))) (k97 (r18,r7,r9,r11))))))))
def yt (code_0:(List UInt8)) (κ:zI→Prop):Prop :=
 X1 code_0 (fun (r7,r10)=>Yf r7 r10 6 (fun (r11,r12)=>κ r11))
def YT (code_0:(List UInt8)) (κ:zQ→Prop):Prop :=
 X1 code_0 (fun (r7,r10)=>ZE r7 r10 14 (fun (r11,r15)=>κ r11))
def Yh (a_0:(List zg)) (b_1:(List zg)) (κ:Bool→Prop):Prop :=
 ifW (!(decide ((a_0.length:Int)=(b_1.length:Int)))) (κ false) (jt (fun (nx6:Int→Prop) (t5:Int)=>ifW (decide (t5<(a_0.length:Int))) (zH a_0 t5 (fun e7=>zH b_1 t5 (fun e9=>ifW (!(decide (e7=e9))) (κ false) (js t5 1 (fun t11=>nx6 t11))))) (κ true)) 0)
def Ub (a_0:ji) (b_1:ji) (κ:Bool→Prop):Prop :=
 ifW (!(decide ((a_0.xSides.length:Int)=(b_1.xSides.length:Int)))) (κ false) (jt (fun (nx16:Int→Prop) (t15:Int)=>ifW (decide (t15<(a_0.xSides.length:Int))) (zH a_0.xSides t15 (fun e17=>zH b_1.xSides t15 (fun e23=>Yh e17 e23 (fun r29=>ifW (!r29) (κ false) (js t15 1 (fun t30=>nx16 t30)))))) (κ true)) 0)
def Yd (a_0:(List zV)) (b_1:(List zV)) (κ:Bool→Prop):Prop :=
 ifW (!(decide ((a_0.length:Int)=(b_1.length:Int)))) (κ false) (jt (fun (nx6:Int→Prop) (t5:Int)=>ifW (decide (t5<(a_0.length:Int))) (jnW (fun (t84:Bool)=>ifW t84 (κ false) (js t5 1 (fun t86=>nx6 t86))) (fun k85=>zH a_0 t5 (fun e7=>zH b_1 t5 (fun e9=>ifW (!(decide (e7.xAccept=e9.xAccept))) (k85 true) (zH a_0 t5 (fun e11=>zH b_1 t5 (fun e17=>Ub e11.xWhere e17.xWhere (fun r23=>k85 (!r23))))))))) (κ true)) 0)
def Yn (s_0:za) (p_1:zI) (κ:Bool→Prop):Prop :=
 ux p_1 (fun r25=>jt (fun (nx27:Int→Prop) (t26:Int)=>ifW (decide (t26<4)) (zH ([r25.x0,r25.x1,r25.x2,r25.x3]) t26 (fun e28=>zH ([s_0.x0,s_0.x1,s_0.x2,s_0.x3]) t26 (fun e29=>yO e29 e28 (fun r37=>ifW (!r37) (κ false) (js t26 1 (fun t38=>nx27 t38)))))) (κ true)) 0)
def YY (f_0:zn) (a_1_From:Int) (a_1_To:Int) (a_1_Port:Int) (a_1_Proto:Int) (κ:Bool→Prop):Prop :=
 Yn f_0.xWhere (zI.mk a_1_From a_1_To a_1_Port a_1_Proto) (fun r25=>κ r25)
def xq (s_0:(List zn)) (c0_1_From:Int) (c0_1_To:Int) (c0_1_Port:Int) (c0_1_Proto:Int) (κ:Int→Prop):Prop :=
 jt (fun (nx6:Int→Prop) (t5:Int)=>ifW (decide (t5<(s_0.length:Int))) (zH s_0 t5 (fun e7=>YY e7 c0_1_From c0_1_To c0_1_Port c0_1_Proto (fun r22=>ifW r22 (κ t5) (js t5 1 (fun t23=>nx6 t23))))) (κ (-1))) 0
def Yq (list_0:(List zn)) (p_1:zI) (κ:Int→Prop):Prop :=
 xq list_0 p_1.xFrom p_1.xTo p_1.xPort p_1.xProto (fun r5=>κ r5)
def uT (list_0:(List zV)) (rest_1:Bool) (p_2:zI) (κ:Bool→Prop):Prop :=
 jnW (fun (t67:Bool)=>ifW t67 (κ false) (X7 list_0 (fun r69=>Yq r69 p_2 (fun r72=>ifW (decide (0≤r72)) (zH list_0 r72 (fun e73=>κ e73.xAccept)) (κ rest_1))))) (fun k68=>Zw list_0 (fun r5=>ifW (!r5) (k68 true) (yY p_2 (fun r6=>k68 (!r6)))))
def Ux (code_0:(List UInt8)) (p1:(List UInt8)) (κ:Bool→Prop):Prop :=
 jnW (fun (t65:Bool)=>ifW t65 (κ true) (YT code_0 (fun r67=>X4 r67 (fun (r76,r80)=>X5 r67 (fun (r81,r84)=>jnW (fun (t146:Bool)=>ifW t146 (κ false) (ifW (!r80) (jnW (fun (t209:Bool)=>κ t209) (fun k210=>ifW (decide ((r76.length:Int)=0)) (Vb (fun r148=>k210 r148)) (k210 false))) (UK r67 (fun (r211,r215)=>Yc r211 (fun r216=>U8 r216 (p1.length:Int) (fun r220=>yt p1 (fun r223=>jnW (fun (t296:Bool)=>κ t296) (fun k297=>ifW (decide ((r76.length:Int)≤(r211.length:Int))) (uT r76 r67.xAccept r220 (fun r232=>Zy r67 r220 (fun r233=>ifW (decide (r232=r233)) (uT r76 r67.xAccept r223 (fun r234=>Zy r67 r223 (fun r235=>k297 (decide (r234=r235))))) (k297 false)))) (k297 false))))))))) (fun k147=>Yd r76 r81 (fun r85=>ifW (!r85) (k147 true) (k147 (!(decide (r80=r84))))))))))) (fun k66=>ifW (decide (1048576<(code_0.length:Int))) (k66 true) (k66 (decide (1048576<(p1.length:Int)))))
end
section
open Go Go.Proofs
def NF (l:List zg):Prop:=(∀ s∈l,s.xLo≤s.xHi)∧l.Pairwise (fun a b=>a.xHi+1<b.xLo)
def hv (l:List zg) (x:Int):Prop:=∃ s∈l,s.xLo≤x∧x≤s.xHi
theorem zhX:NF []:=⟨by simp,by simp⟩
theorem uN (x:Int):¬ hv [] x:=by simp [hv]
theorem xY (s:zg) (l:List zg) (x:Int):hv (s :: l) x↔(s.xLo≤x∧x≤s.xHi)∨hv l x:=by simp [hv]
theorem Vh (l m:List zg) (x:Int):hv (l++m) x↔hv l x∨hv m x:=by
 simp only [hv,List.mem_append]
 constructor
 ·rintro ⟨s,h | h,e⟩
  ·exact .inl ⟨s,h,e⟩
  ·exact .inr ⟨s,h,e⟩
 ·rintro (⟨s,h,e⟩ | ⟨s,h,e⟩)
  ·exact ⟨s,.inl h,e⟩
  ·exact ⟨s,.inr h,e⟩
theorem VM {s:zg} {l:List zg} (h:NF (s :: l)):NF l:=⟨fun t ht=>h.1 t (List.mem_cons_of_mem _ ht),(List.pairwise_cons.1 h.2).2⟩
theorem zdc {s:zg} {l:List zg} (h:NF (s :: l)) {x:Int} (hx:hv l x):s.xHi+1<x:=by
 obtain ⟨t,ht,e1,_⟩:=hx
 have:=(List.pairwise_cons.1 h.2).1 t ht
 omega
theorem zb9 {s:zg} {l:List zg} (h:NF (s :: l)) {x:Int} (hx:hv (s :: l) x):s.xLo≤x:=by
 rcases (xY _ _ _).1 hx with e | e
 ·exact e.1
 ·have:=zdc h e
  have:=h.1 s (by simp)
  omega
theorem VX {l m:List zg} (hl:NF l) (hm:NF m) (h:∀ s∈l,∀ t∈m,s.xHi+1<t.xLo):NF (l++m) :=
 ⟨fun s hs=>(List.mem_append.1 hs).elim (hl.1 s) (hm.1 s),List.pairwise_append.2 ⟨hl.2,hm.2,h⟩⟩
theorem Vl {s:zg} (h:s.xLo≤s.xHi):NF [s]:=⟨by simpa using h,by simp⟩
theorem zlu:∀ {a b:List zg},NF a→NF b→(∀ x,hv a x↔hv b x)→a=b
 | [],[],_,_,_=>rfl
 | [],t :: b,_,hb,h=>absurd ((h t.xLo).2 ((xY _ _ _).2 (.inl ⟨Int.le_refl _,hb.1 t (by simp)⟩))) (uN _)
 | s :: a,[],ha,_,h=>absurd ((h s.xLo).1 ((xY _ _ _).2 (.inl ⟨Int.le_refl _,ha.1 s (by simp)⟩))) (uN _)
 | s :: a,t :: b,ha,hb,h=>by
  have h1:=ha.1 s (by simp)
  have h2:=hb.1 t (by simp)
  have l1:t.xLo≤s.xLo:=zb9 hb ((h _).1 ((xY _ _ _).2 (.inl ⟨Int.le_refl _,h1⟩)))
  have l2:s.xLo≤t.xLo:=zb9 ha ((h _).2 ((xY _ _ _).2 (.inl ⟨Int.le_refl _,h2⟩)))
  have u1:¬ s.xHi<t.xHi:=fun hlt=>by
   have:=(h (s.xHi+1)).2 ((xY _ _ _).2 (.inl ⟨by omega,by omega⟩))
   rcases (xY _ _ _).1 this with e | e
   ·omega
   ·have:=zdc ha e;omega
  have u2:¬ t.xHi<s.xHi:=fun hlt=>by
   have:=(h (t.xHi+1)).1 ((xY _ _ _).2 (.inl ⟨by omega,by omega⟩))
   rcases (xY _ _ _).1 this with e | e
   ·omega
   ·have:=zdc hb e;omega
  have e:s=t:=by
   apply zg.ext <;> omega
  subst e
  rw [zlu (VM ha) (VM hb) (fun x=>?_)]
  have:=h x
  rw [xY,xY] at this
  constructor
  ·intro hx
   have g:=zdc ha hx
   rcases this.1 (.inr hx) with e | e
   ·omega
   ·exact e
  ·intro hx
   have g:=zdc hb hx
   rcases this.2 (.inr hx) with e | e
   ·omega
   ·exact e
def zmI:List (Int×Int)→List zg→Int→Int→List zg
 | [],out,_,_=>out
 | e :: es,out,d,st=>zmI es (if d+e.2=0 then out++[zg.mk (if d=0 then e.1 else st) (e.1 - 1)] else out) (d+e.2) (if d=0 then e.1 else st)
def stp (l:List (Int×Int)):Int:=(l.map (·.2)).sum
def zaS:List zg→zg→List zg→Bool→List zg×zg×Bool
 | [],s,out,pl=>(out,s,pl)
 | x :: xs,s,out,pl =>
  if x.xHi+1<s.xLo then zaS xs s (out++[x]) pl
  else if s.xHi+1<x.xLo then zaS xs s ((if pl then out else out++[s])++[x]) true
  else zaS xs (zg.mk (min s.xLo x.xLo) (max s.xHi x.xHi)) out pl
def zci (l:List zg) (s:zg):List zg :=
 match zaS l s [] false with
 | (out,s',pl)=>if pl then out else out++[s']
theorem zeX:∀ (l:List zg) (s:zg) (out:List zg) (pl:Bool),NF l→s.xLo≤s.xHi→NF out →
  (pl=false→(∀ t∈out,t.xHi+1<s.xLo)∧(∀ t∈out,∀ u∈l,t.xHi+1<u.xLo)) →
  (pl=true→(∀ t∈out,∀ u∈l,t.xHi+1<u.xLo)∧(∀ u∈l,s.xHi+1<u.xLo)∧s∈out) →
  NF (match zaS l s out pl with | (o,s',p)=>if p then o else o++[s'])∧∀ x,hv (match zaS l s out pl with | (o,s',p)=>if p then o else o++[s']) x↔hv out x∨hv l x∨(s.xLo≤x∧x≤s.xHi)
 | [],s,out,pl,hl,hs,ho,h0,h1=>by
  simp only [zaS]
  cases pl with
  | true =>
   simp only [if_true]
   obtain ⟨_,_,hm⟩:=h1 rfl
   refine ⟨ho,fun x=>⟨.inl,?_⟩⟩
   rintro (q | q | q)
   ·exact q
   ·exact absurd q (uN x)
   ·exact ⟨s,hm,q⟩
  | false =>
   simp only [Bool.false_eq_true,if_false]
   obtain ⟨ha,_⟩:=h0 rfl
   refine ⟨VX ho (Vl hs) (fun t ht u hu=>by simp at hu;subst hu;exact ha t ht),fun x=>?_⟩
   rw [Vh,xY]
   simp [uN]
 | y :: l,s,out,pl,hl,hs,ho,h0,h1=>by
  have hy:=hl.1 y (by simp)
  have hgap:=(List.pairwise_cons.1 hl.2).1
  have hl':=VM hl
  unfold zaS
  by_cases c1:y.xHi+1<s.xLo
  ·rw [if_pos c1]
   have hpl:pl=false:=by
    cases pl with
    | false=>rfl
    | true=>have:=(h1 rfl).2.1 y (by simp);omega
   subst hpl
   obtain ⟨a1,a2⟩:=h0 rfl
   have ih:=zeX l s (out++[y]) false hl' hs (VX ho (Vl hy) (fun t ht u hu=>by simp at hu;subst hu;exact a2 t ht u (by simp)))
    (fun _=>⟨fun t ht=>by
     rcases List.mem_append.1 ht with q | q
     ·exact a1 t q
     ·simp at q;subst q;exact c1,fun t ht u hu=>by
     rcases List.mem_append.1 ht with q | q
     ·exact a2 t q u (by simp [hu])
     ·simp at q;subst q;exact hgap u hu⟩) (fun h=>by simp at h)
   refine ⟨ih.1,fun x=>?_⟩
   rw [ih.2 x,Vh,xY,xY]
   simp only [uN,or_false]
   constructor
   ·rintro ((q | q) | q | q)
    ·exact .inl q
    ·exact .inr (.inl (.inl q))
    ·exact .inr (.inl (.inr q))
    ·exact .inr (.inr q)
   ·rintro (q | (q | q) | q)
    ·exact .inl (.inl q)
    ·exact .inl (.inr q)
    ·exact .inr (.inl q)
    ·exact .inr (.inr q)
  ·rw [if_neg c1]
   by_cases c2:s.xHi+1<y.xLo
   ·rw [if_pos c2]
    cases pl with
    | true =>
     simp only [if_true]
     obtain ⟨a1,a2,a3⟩:=h1 rfl
     have ih:=zeX l s (out++[y]) true hl' hs (VX ho (Vl hy) (fun t ht u hu=>by simp at hu;subst hu;exact a1 t ht u (by simp))) (fun h=>by simp at h)
      (fun _=>⟨fun t ht u hu=>by
       rcases List.mem_append.1 ht with q | q
       ·exact a1 t q u (by simp [hu])
       ·simp at q;subst q;exact hgap u hu,fun u hu=>a2 u (by simp [hu]),by simp [a3]⟩)
     refine ⟨ih.1,fun x=>?_⟩
     rw [ih.2 x,Vh,xY,xY]
     simp only [uN,or_false]
     constructor
     ·rintro ((q | q) | q | q)
      ·exact .inl q
      ·exact .inr (.inl (.inl q))
      ·exact .inr (.inl (.inr q))
      ·exact .inr (.inr q)
     ·rintro (q | (q | q) | q)
      ·exact .inl (.inl q)
      ·exact .inl (.inr q)
      ·exact .inr (.inl q)
      ·exact .inr (.inr q)
    | false =>
     simp only [Bool.false_eq_true,if_false]
     obtain ⟨a1,a2⟩:=h0 rfl
     have n1:NF (out++[s]):=VX ho (Vl hs) (fun t ht u hu=>by simp at hu;subst hu;exact a1 t ht)
     have ih:=zeX l s ((out++[s])++[y]) true hl' hs (VX n1 (Vl hy) (fun t ht u hu=>by
       simp at hu;subst hu
       rcases List.mem_append.1 ht with q | q
       ·exact a2 t q u (by simp)
       ·simp at q;subst q;exact c2)) (fun h=>by simp at h)
      (fun _=>⟨fun t ht u hu=>by
       have hg:=hgap u hu
       rcases List.mem_append.1 ht with q | q
       ·rcases List.mem_append.1 q with q | q
        ·exact a2 t q u (by simp [hu])
        ·simp at q;subst q;omega
       ·simp at q;subst q;exact hg,fun u hu=>by have:=hgap u hu;omega,by simp⟩)
     refine ⟨ih.1,fun x=>?_⟩
     rw [ih.2 x,Vh,Vh,xY,xY,xY]
     simp only [uN,or_false]
     constructor
     ·rintro (((q | q) | q) | q | q)
      ·exact .inl q
      ·exact .inr (.inr q)
      ·exact .inr (.inl (.inl q))
      ·exact .inr (.inl (.inr q))
      ·exact .inr (.inr q)
     ·rintro (q | (q | q) | q)
      ·exact .inl (.inl (.inl q))
      ·exact .inl (.inr q)
      ·exact .inr (.inl q)
      ·exact .inr (.inr q)
   ·rw [if_neg c2]
    have hpl:pl=false:=by
     cases pl with
     | false=>rfl
     | true=>have:=(h1 rfl).2.1 y (by simp);omega
    subst hpl
    obtain ⟨a1,a2⟩:=h0 rfl
    have ih:=zeX l (zg.mk (min s.xLo y.xLo) (max s.xHi y.xHi)) out false hl' (by simp only;omega) ho
     (fun _=>⟨fun t ht=>by
      have:=a1 t ht;have:=a2 t ht y (by simp)
      simp only;omega,fun t ht u hu=>a2 t ht u (by simp [hu])⟩) (fun h=>by simp at h)
    refine ⟨ih.1,fun x=>?_⟩
    rw [ih.2 x,xY]
    simp only
    constructor
    ·rintro (q | q | q)
     ·exact .inl q
     ·exact .inr (.inl (.inr q))
     ·by_cases c3:y.xLo≤x∧x≤y.xHi
      ·exact .inr (.inl (.inl c3))
      ·exact .inr (.inr (by omega))
    ·rintro (q | (q | q) | q)
     ·exact .inl q
     ·exact .inr (.inr (by omega))
     ·exact .inr (.inl q)
     ·exact .inr (.inr (by omega))
theorem zjC {l:List zg} {s:zg} (hl:NF l) (hs:s.xLo≤s.xHi):NF (zci l s)∧∀ x,hv (zci l s) x↔hv l x∨(s.xLo≤x∧x≤s.xHi):=by
 have:=zeX l s [] false hl hs zhX (fun _=>⟨by simp,by simp⟩) (fun h=>by simp at h)
 refine ⟨this.1,fun x=>?_⟩
 have:=this.2 x
 simp only [uN,false_or] at this
 exact this
theorem za5:∀ (xs l:List zg),NF l→(∀ s∈xs,s.xLo≤s.xHi)→NF (xs.foldl zci l)∧∀ x,hv (xs.foldl zci l) x↔hv l x∨hv xs x
 | [],l,hl,_=>⟨hl,fun x=>by simp [uN]⟩
 | s :: xs,l,hl,h=>by
  obtain ⟨n1,e1⟩:=zjC hl (h s (by simp))
  obtain ⟨n2,e2⟩:=za5 xs (zci l s) n1 (fun t ht=>h t (List.mem_cons_of_mem _ ht))
  refine ⟨n2,fun x=>?_⟩
  rw [List.foldl_cons,e2 x,e1 x,xY]
  constructor
  ·rintro ((q | q) | q)
   ·exact .inl q
   ·exact .inr (.inl q)
   ·exact .inr (.inr q)
  ·rintro (q | q | q)
   ·exact .inl (.inl q)
   ·exact .inl (.inr q)
   ·exact .inr q
end
section
theorem jA {A B:Prop} (h:A):ifW true A B:=⟨fun _=>h,(fun e=>by cases e)⟩
theorem xi {A B:Prop} (h:B):ifW false A B:=⟨(fun e=>by cases e),fun _=>h⟩
theorem zo {c:Bool} {A B:Prop} (ht:c=true→A) (hf:c=false→B):ifW c A B:=⟨ht,hf⟩
@[simp] theorem UU {A B:Prop}:ifW true A B=A:=propext ⟨fun h=>h.1 rfl,jA⟩
@[simp] theorem zfA {A B:Prop}:ifW false A B=B:=propext ⟨fun h=>h.2 rfl,xi⟩
theorem zC {x y:Int} {κ:Int→Prop} (h1:-9223372036854775808≤x+y) (h2:x+y≤9223372036854775807) (h:κ (x+y)):js x y κ:=⟨⟨h1,h2⟩,h⟩
theorem yJ {x y:Int} {κ:Int→Prop} (h1:-9223372036854775808≤x - y) (h2:x - y≤9223372036854775807) (h:κ (x - y)):YU x y κ:=⟨⟨h1,h2⟩,h⟩
theorem zah {x y:Int} {κ:Int→Prop} (h1:-9223372036854775808≤x * y) (h2:x * y≤9223372036854775807) (h:κ (x * y)):zgD x y κ:=⟨⟨h1,h2⟩,h⟩
theorem zkS {x y:Int} {κ:Int→Prop} (h1:0≤x) (h2:x≤9223372036854775807) (h3:0<y) (h:κ (x / y)):zjb x y κ:=⟨h3,⟨by omega,h2⟩,by rw [Int.tdiv_eq_ediv_of_nonneg h1];exact h⟩
theorem zkv {x y:Int} {κ:Int→Prop} (h1:0≤x) (h2:x≤9223372036854775807) (h3:0<y) (h:κ (x % y)):zbz x y κ:=⟨h1,h3,⟨by omega,h2⟩,h⟩
theorem zp {α:Type} {xs:List α} {i:Int} {κ:α→Prop} (n:Nat) (hi:i=n) (hn:n<xs.length) (h:κ xs[n]):zH xs i κ:=by
 subst hi
 exact ⟨xs[n],by omega,by simp [hn],h⟩
theorem jo {α:Type} {xs ys:List α} {κ:List α→Prop} (h1:xs.length+ys.length≤4294967296) (h:κ (xs++ys)):xm xs ys κ:=⟨h1,h⟩
theorem UX {α:Type} {z:α} {n m:Int} {κ:List α→Prop} (k:Nat) (hn:n=k) (h1:n≤m) (h2:m≤4294967296) (h:κ (List.replicate k z)):zav z n m κ:=by
 subst hn
 refine ⟨by omega,h1,?_,by simpa using h⟩
 unfold zds
 omega
theorem z6 {σ:Type} {F:(σ→Prop)→σ→Prop} (len:Nat) (pos:σ→Int) (I:Nat→σ→Prop) (hpos:∀ k s,I k s→pos s=k) (hle:∀ k s,I k s→k≤len)
  (h:∀ k s next,I k s→(k<len→∀ s',I (k+1) s'→next s')→F next s) {s:σ} (h0:I 0 s):jt F s:=by
 refine u6 (fun s=>∃ k,I k s) (fun s=>len - (pos s).toNat) (fun s next ⟨k,hk⟩ hn=>?_) ⟨0,h0⟩
 refine h k s next hk (fun hlt s' hs'=>hn s' ⟨k+1,hs'⟩ ?_)
 rw [hpos _ _ hk,hpos _ _ hs']
 omega
theorem zdK {σ:Type} {F:(σ→Prop)→σ→Prop} (k0 len:Nat) (pos:σ→Int) (I:Nat→σ→Prop) (hpos:∀ k s,I k s→pos s=k) (hle:∀ k s,I k s→k≤len)
  (h:∀ k s next,I k s→(k<len→∀ s',I (k+1) s'→next s')→F next s) {s:σ} (h0:I k0 s):jt F s:=by
 refine u6 (fun s=>∃ k,I k s) (fun s=>len - (pos s).toNat) (fun s next ⟨k,hk⟩ hn=>?_) ⟨k0,h0⟩
 refine h k s next hk (fun hlt s' hs'=>hn s' ⟨k+1,hs'⟩ ?_)
 rw [hpos _ _ hk,hpos _ _ hs']
 omega
theorem ziQ {α:Type} [DecidableEq α] (a b:List α) (hab:a.length=b.length) (hl:a.length≤4294967296) {κ:Bool→Prop} (T:α→α→Prop→Prop) (hT:∀ x y A,(x=y→A)→(x≠y→κ false)→T x y A) (hκ:κ (decide (a=b)))
  (F:(Int→Prop)→Int→Prop) (hF:∀ nx t,(ifW (decide (t<(a.length:Int))) (zH a t (fun x=>zH b t (fun y=>T x y (js t 1 (fun u=>nx u))))) (κ true))→F nx t):jt F 0:=by
 refine z6 a.length (fun s=>s) (fun k s=>s=(k:Int)∧k≤a.length∧a.take k=b.take k) (fun k s h=>h.1) (fun k s h=>h.2.1) ?_ ⟨rfl,Nat.zero_le _,by simp⟩
 rintro k _ next ⟨rfl,hk,he⟩ hn
 refine hF _ _ (zo (fun hc=>?_) (fun hc=>?_))
 ·have hlt:k<a.length:=by simpa using hc
  refine zp k rfl hlt (zp k rfl (by omega) (hT _ _ _ (fun e=>zC (by omega) (by omega) (hn hlt _ ⟨by simp,by omega,?_⟩)) (fun e=>?_)))
  ·rw [List.take_succ_eq_append_getElem hlt,List.take_succ_eq_append_getElem (by omega),he,e]
  ·have:a≠b:=fun h=>by subst h;exact e rfl
   rw [decide_eq_false this] at hκ;exact hκ
 ·have hge:a.length≤k:=by simpa using hc
  have:a=b:=by
   rw [List.take_of_length_le hge,List.take_of_length_le (by omega)] at he
   exact he
  rw [decide_eq_true this] at hκ;exact hκ
def zno {α:Type} (f:Int→α) (k:Int) (n:Nat):List α:=(List.range n).map fun (i:Nat)=>f (k+(i:Int))
theorem zjM {α:Type} {xs:List α} {t:Nat} {a:α} {κ:α→Prop} (h:t<xs.length) (hk:κ a):zH (xs.set ((t:Int)).toNat a) (t:Int) κ:=⟨a,by omega,by simp [h],hk⟩
end
section
open Go Go.Proofs
instance (l:List zg) (x:Int):Decidable (hv l x):=by unfold hv;infer_instance
def St (l:List zg) (top:Int):Prop:=NF l∧∀ s∈l,0≤s.xLo∧s.xHi≤top
theorem zmp (top:Int):St [] top:=⟨zhX,by simp⟩
theorem zkl {a b:List zg} {t u:Int} (ha:St a t) (hb:St b u) (h:∀ x,hv a x↔hv b x):a=b:=zlu ha.1 hb.1 h
theorem Z4 {l:List zg} {top x:Int} (h:St l top) (hx:hv l x):0≤x∧x≤top:=by
 obtain ⟨s,hs,e1,e2⟩:=hx
 have:=h.2 s hs
 omega
theorem zfD:∀ (l:List zg) (top lo:Int),NF l→(∀ s∈l,lo≤s.xLo∧s.xHi≤top)→lo≤top+2→2 * (l.length:Int)≤top+2 - lo
 | [],top,lo,_,_,h=>by simp;omega
 | s :: l,top,lo,hn,hr,h=>by
  have h0:=hr s (by simp)
  have h1:=hn.1 s (by simp)
  have:=zfD l top (s.xHi+2) (VM hn) (fun t ht=>⟨by have:=(List.pairwise_cons.1 hn.2).1 t ht;omega,(hr t (List.mem_cons_of_mem _ ht)).2⟩) (by omega)
  simp only [List.length_cons]
  omega
theorem Vk {l:List zg} {top:Int} (h:St l top) (ht:-2≤top):2 * (l.length:Int)≤top+2:=by
 have:=zfD l top 0 h.1 h.2 (by omega)
 omega
def YQ (x y:zg):List zg:=if max x.xLo y.xLo≤min x.xHi y.xHi then [zg.mk (max x.xLo y.xLo) (min x.xHi y.xHi)] else []
def ja (a b:List zg):List zg:=a.flatMap fun x=>b.flatMap (YQ x)
theorem za4 {x y t:zg}:t∈YQ x y↔max x.xLo y.xLo≤min x.xHi y.xHi∧t=zg.mk (max x.xLo y.xLo) (min x.xHi y.xHi):=by
 unfold YQ;split <;> simp [*]
theorem zbn {a b:List zg} {t:zg}:t∈ja a b↔∃ x∈a,∃ y∈b,max x.xLo y.xLo≤min x.xHi y.xHi∧t=zg.mk (max x.xLo y.xLo) (min x.xHi y.xHi):=by
 simp only [ja,List.mem_flatMap,za4]
theorem XT (a b:List zg) (n:Int):hv (ja a b) n↔hv a n∧hv b n:=by
 constructor
 ·rintro ⟨t,ht,h1,h2⟩
  obtain ⟨x,hx,y,hy,_,rfl⟩:=zbn.1 ht
  simp only at h1 h2
  exact ⟨⟨x,hx,by omega,by omega⟩,⟨y,hy,by omega,by omega⟩⟩
 ·rintro ⟨⟨x,hx,h1,h2⟩,⟨y,hy,h3,h4⟩⟩
  exact ⟨_,zbn.2 ⟨x,hx,y,hy,by omega,rfl⟩,by simp only;omega,by simp only;omega⟩
theorem zjA {x:zg}:∀ {b:List zg},NF b→NF (b.flatMap (YQ x))
 | [],_=>by simp [NF]
 | y :: b,h=>by
  rw [List.flatMap_cons]
  have hy:=(List.pairwise_cons.1 h.2).1
  refine VX ⟨fun t ht=>?_,?_⟩ (zjA (VM h)) (fun t ht u hu=>?_)
  ·obtain ⟨h1,rfl⟩:=za4.1 ht;exact h1
  ·unfold YQ;split <;> simp
  ·obtain ⟨h1,rfl⟩:=za4.1 ht
   obtain ⟨z,hz,hu⟩:=List.mem_flatMap.1 hu
   obtain ⟨h2,rfl⟩:=za4.1 hu
   have:=hy z hz
   simp only;omega
theorem zcQ:∀ {a b:List zg},NF a→NF b→NF (ja a b)
 | [],b,_,_=>by simp [ja,NF]
 | x :: a,b,ha,hb=>by
  have e:ja (x :: a) b=b.flatMap (YQ x)++ja a b:=by simp [ja]
  rw [e]
  refine VX (zjA hb) (zcQ (VM ha) hb) (fun t ht u hu=>?_)
  obtain ⟨y,hy,ht⟩:=List.mem_flatMap.1 ht
  obtain ⟨h1,rfl⟩:=za4.1 ht
  obtain ⟨z,hz,y',hy',h2,rfl⟩:=zbn.1 hu
  have:=(List.pairwise_cons.1 ha.2).1 z hz
  simp only;omega
theorem Xj {a b:List zg} {top:Int} (ha:St a top) (hb:NF b):St (ja a b) top:=by
 refine ⟨zcQ ha.1 hb,fun t ht=>?_⟩
 obtain ⟨x,hx,y,hy,_,rfl⟩:=zbn.1 ht
 have:=ha.2 x hx
 have:=hb.1 y hy
 simp only;omega
def UG:List zg→Int→Int→List zg
 | [],at_,top=>if at_≤top then [zg.mk at_ top] else []
 | s :: l,at_,top=>(if at_<s.xLo then [zg.mk at_ (s.xLo - 1)] else [])++UG l (s.xHi+1) top
def yV (a:List zg) (top:Int):List zg:=UG a 0 top
theorem zd3:∀ (a:List zg) (c top:Int),NF a→(∀ s∈a,c≤s.xLo∧s.xHi≤top) →
  NF (UG a c top)∧(∀ s∈UG a c top,c≤s.xLo∧s.xHi≤top)∧∀ x,hv (UG a c top) x↔c≤x∧x≤top∧¬ hv a x
 | [],c,top,_,_=>by
  unfold UG
  split
  ·refine ⟨Vl (by simpa using ‹_›),by simp,fun x=>?_⟩
   rw [xY];simp [uN]
  ·refine ⟨zhX,by simp,fun x=>?_⟩
   simp only [uN,false_iff]
   omega
 | s :: l,c,top,hn,hr=>by
  have h0:=hr s (by simp)
  have h1:=hn.1 s (by simp)
  have hg:=(List.pairwise_cons.1 hn.2).1
  obtain ⟨i1,i2,i3⟩:=zd3 l (s.xHi+1) top (VM hn) (fun t ht=>⟨by have:=hg t ht;omega,(hr t (List.mem_cons_of_mem _ ht)).2⟩)
  unfold UG
  have hx0:∀ x,x≤s.xHi+1→¬ hv l x:=fun x hx hh=>by have:=zdc hn hh;omega
  split
  ·refine ⟨VX (Vl (by simp only;omega)) i1 (fun t ht u hu=>by simp at ht;subst ht;have:=i2 u hu;simp only;omega),fun t ht=>?_,fun x=>?_⟩
   ·rcases List.mem_append.1 ht with q | q
    ·simp at q;subst q;simp only;omega
    ·have:=i2 t q;omega
   ·rw [Vh,xY,i3,xY]
    simp only [uN,or_false]
    constructor
    ·rintro (q | ⟨q1,q2,q3⟩)
     ·exact ⟨by omega,by omega,fun h=>by
       rcases h with h | h
       ·omega
       ·exact hx0 x (by omega) h⟩
     ·exact ⟨by omega,q2,fun h=>by
       rcases h with h | h
       ·omega
       ·exact q3 h⟩
    ·rintro ⟨q1,q2,q3⟩
     by_cases h:x<s.xLo
     ·exact .inl (by omega)
     ·exact .inr ⟨by
       rcases Int.lt_or_le s.xHi x with g | g
       ·omega
       ·exact absurd (Or.inl ⟨by omega,g⟩) q3,q2,fun h=>q3 (.inr h)⟩
  ·refine ⟨by simpa using i1,fun t ht=>?_,fun x=>?_⟩
   ·have:=i2 t (by simpa using ht);omega
   ·rw [List.nil_append,i3,xY]
    constructor
    ·rintro ⟨q1,q2,q3⟩
     exact ⟨by omega,q2,fun h=>by
       rcases h with h | h
       ·omega
       ·exact q3 h⟩
    ·rintro ⟨q1,q2,q3⟩
     exact ⟨by
       rcases Int.lt_or_le s.xHi x with g | g
       ·omega
       ·exact absurd (Or.inl ⟨by omega,g⟩) q3,q2,fun h=>q3 (.inr h)⟩
theorem Y2 {a:List zg} {top:Int} (h:St a top):St (yV a top) top:=by
 obtain ⟨h1,h2,_⟩:=zd3 a 0 top h.1 h.2
 exact ⟨h1,h2⟩
theorem zc4 {a:List zg} {top:Int} (h:St a top) (x:Int):hv (yV a top) x↔0≤x∧x≤top∧¬ hv a x:=(zd3 a 0 top h.1 h.2).2.2 x
def X3 (a b:List zg):List zg:=b.foldl zci a
theorem zbr {a b:List zg} {top:Int} (ha:St a top) (hb:St b top) (x:Int):hv (X3 a b) x↔hv a x∨hv b x:=(za5 b a ha.1 hb.1.1).2 x
theorem VI {l:List zg} {s:zg} (h:NF l) (hs:s∈l):hv l s.xLo∧hv l s.xHi:=⟨⟨s,hs,Int.le_refl _,h.1 s hs⟩,⟨s,hs,h.1 s hs,Int.le_refl _⟩⟩
theorem zdn {a b:List zg} {top:Int} (ha:St a top) (hb:St b top):St (X3 a b) top:=by
 have hn:NF (X3 a b):=(za5 b a ha.1 hb.1.1).1
 refine ⟨hn,fun s hs=>?_⟩
 obtain ⟨e1,e2⟩:=VI hn hs
 rw [zbr ha hb] at e1 e2
 constructor
 ·rcases e1 with e | e
  ·exact (Z4 ha e).1
  ·exact (Z4 hb e).1
 ·rcases e2 with e | e
  ·exact (Z4 ha e).2
  ·exact (Z4 hb e).2
theorem zjp (a:List zg) (c:Int) (hl:a.length≤4294967296) {i0:Nat} (h0:i0≤a.length) (hb:∀ s∈a.take i0,s.xHi<c) (REST:Int→Prop)
  (hR:∀ i:Nat,i≤a.length→(∀ s∈a.take i,s.xHi<c)→(∀ h:i<a.length,c≤a[i].xHi)→REST i)
  (F:(Int→Prop)→Int→Prop) (hF:∀ nx t,(jnW (fun (b:Bool)=>ifW b (js t 1 (fun u=>nx u)) (REST t)) (fun k=>ifW (decide (t<(a.length:Int))) (zH a t (fun e=>k (decide (e.xHi<c)))) (k false)))→F nx t):jt F (i0:Int):=by
 refine zdK i0 a.length (fun s=>s) (fun k s=>s=(k:Int)∧k≤a.length∧∀ s∈a.take k,s.xHi<c) (fun k s h=>h.1) (fun k s h=>h.2.1) ?_ ⟨rfl,h0,hb⟩
 rintro k _ next ⟨rfl,hk,he⟩ hn
 refine hF _ _ ?_
 unfold jnW
 refine zo (fun hc=>?_) (fun hc=>?_)
 ·have hlt:k<a.length:=by simpa using hc
  refine zp k rfl hlt (zo (fun hd=>?_) (fun hd=>?_))
  ·refine zC (by omega) (by omega) (hn hlt _ ⟨by simp,by omega,fun s hs=>?_⟩)
   rw [List.take_succ_eq_append_getElem hlt] at hs
   rcases List.mem_append.1 hs with q | q
   ·exact he s q
   ·simp at q;subst q;simpa using hd
  ·exact hR k hk he (fun _=>by simpa using hd)
 ·refine xi (hR k hk he (fun h=>?_))
  have:a.length≤k:=by simpa using hc
  omega
theorem zis {a:List zg} {i:Nat} {c x:Int} (h:∀ s∈a.take i,s.xHi<c) (hx:c≤x):hv a x↔hv (a.drop i) x:=by
 have e:=Vh (a.take i) (a.drop i) x
 rw [List.take_append_drop] at e
 rw [e]
 constructor
 ·rintro (⟨s,hs,q1,q2⟩ | q)
  ·have:=h s hs;omega
  ·exact q
 ·exact .inr
def stF (l:List zg) (c top:Int):Bool×Int :=
 match l with
 | []=>(false,top)
 | s :: _=>if c<s.xLo then (false,s.xLo - 1) else (true,s.xHi)
theorem zfM {l:List zg} {c top:Int} {κ:Bool×Int→Prop} (hb:∀ s∈l,0≤s.xLo∧s.xHi≤9223372036854775807) (hn:NF l) (h:κ (stF l c top)):uw l c top κ:=by
 unfold uw
 cases l with
 | nil=>exact jA h
 | cons s l =>
  have:=hb s (by simp)
  have:=hn.1 s (by simp)
  refine zo (fun e=>by simp at e;omega) (fun _=>zp 0 rfl (by simp) (zo (fun e=>zp 0 rfl (by simp) (yJ (by simp only [List.getElem_cons_zero];omega) (by simp only [List.getElem_cons_zero];omega) ?_)) (fun e=>zp 0 rfl (by simp) ?_)))
  ·simp only [stF] at h
   rw [if_pos (by simpa using e)] at h
   exact h
  ·simp only [stF] at h
   rw [if_neg (by simpa using e)] at h
   exact h
theorem zha {l:List zg} {c top:Int} (h:NF l) (hb:∀ s∈l,s.xHi≤top) (hc:c≤top) (hf:∀ s∈l.head?,c≤s.xHi) :
  c≤(stF l c top).2∧(stF l c top).2≤top∧∀ x,c≤x→x≤(stF l c top).2→(hv l x↔(stF l c top).1=true):=by
 cases l with
 | nil=>exact ⟨hc,Int.le_refl _,fun x _ _=>by simp [stF,uN]⟩
 | cons s l =>
  have h0:=hb s (by simp)
  have h1:=h.1 s (by simp)
  have h2:=hf s (by simp)
  unfold stF
  simp only
  split
  ·refine ⟨by simp only;omega,by simp only;omega,fun x q1 q2=>?_⟩
   simp only at q2
   simp only [Bool.false_eq_true,iff_false]
   intro hh
   have:=zb9 h hh
   omega
  ·refine ⟨h2,h0,fun x q1 q2=>?_⟩
   simp only at q2
   simp only [iff_true]
   exact (xY _ _ _).2 (.inl ⟨by omega,q2⟩)
theorem zcL:∀ {a:List zg} (i:Nat),NF a→NF (a.drop i):=fun {a} i h=>⟨fun s hs=>h.1 s (List.mem_of_mem_drop hs),h.2.drop⟩
theorem zfv {a:List zg} {i:Nat} {c:Int} (h:∀ q:i<a.length,c≤a[i].xHi):∀ s∈(a.drop i).head?,c≤s.xHi:=by
 intro s hs
 rw [List.head?_drop] at hs
 obtain ⟨hlt,e⟩:=List.getElem?_eq_some_iff.1 hs
 rw [← e];exact h hlt
theorem zbL (keep:Bool→Bool→Bool) {a b:List zg} {top:Int} (ha:St a top) (hb:St b top) (ht0:-2≤top) (ht:top≤65535) {κ:List zg→Prop}
  (hκ:∀ r,St r top→(∀ x,0≤x→x≤top→(hv r x↔keep (decide (hv a x)) (decide (hv b x))=true))→κ r)
  (K:Bool→Bool→(Bool→Prop)→Prop) (hK:∀ p q φ,φ (keep p q)→K p q φ)
  (F:(List zg×Int×Int×Int→Prop)→List zg×Int×Int×Int→Prop)
  (hF:∀ nx xs8 t11 t12 t13,(ifW (decide (t13≤top)) (jt (fun (nx16:Int→Prop) (t15:Int)=>jnW (fun (t79:Bool)=>ifW t79 (js t15 1 (fun t81=>nx16 t81)) (jt (fun (nx83:Int→Prop) (t82:Int)=>jnW (fun (t146:Bool)=>ifW t146 (js t82 1 (fun t148=>nx83 t148)) (Zk a t15 (a.length:Int) (fun xs150=>uw xs150 t13 top (fun (r153,r154)=>Zk b t82 (b.length:Int) (fun xs156=>uw xs156 t13 top (fun (r159,r160)=>jnW (fun (xs296:(List zg))=>js (min r154 r160) 1 (fun t300=>nx (xs296,t15,t82,t300))) (fun k299=>K r153 r159 (fun r161=>ifW r161 (jnW (fun (t226:Bool)=>ifW t226 (YU (xs8.length:Int) 1 (fun t228=>zH xs8 t228 (fun e229=>k299 (xs8.set (t228).toNat (zg.mk e229.xLo (min r154 r160)))))) (xm xs8 ([(zg.mk t13 (min r154 r160))]) (fun _=>k299 (xs8++([(zg.mk t13 (min r154 r160))]))))) (fun k227=>ifW (decide (0<(xs8.length:Int))) (YU (xs8.length:Int) 1 (fun t162=>zH xs8 t162 (fun e163=>js e163.xHi 1 (fun t165=>k227 (decide (t165=t13)))))) (k227 false))) (k299 xs8))))))))) (fun k147=>ifW (decide (t82<(b.length:Int))) (zH b t82 (fun e84=>k147 (decide (e84.xHi<t13)))) (k147 false))) t12)) (fun k80=>ifW (decide (t15<(a.length:Int))) (zH a t15 (fun e17=>k80 (decide (e17.xHi<t13)))) (k80 false))) t11) (κ xs8))→F nx (xs8,t11,t12,t13)) :
  jt F ([],0,0,0):=by
 have la:=Vk ha ht0
 have lb:=Vk hb ht0
 refine u6 (fun (s:List zg×Int×Int×Int)=>∃ i j:Nat,s.2.1=i∧s.2.2.1=j∧i≤a.length∧j≤b.length∧0≤s.2.2.2∧(top<s.2.2.2→s.2.2.2=top+1∨s.2.2.2=0)∧(∀ u∈a.take i,u.xHi<s.2.2.2)∧(∀ u∈b.take j,u.xHi<s.2.2.2)∧St s.1 top∧(∀ u∈s.1,u.xHi<s.2.2.2)∧(∀ x,0≤x→x<s.2.2.2→(hv s.1 x↔keep (decide (hv a x)) (decide (hv b x))=true)))
  (fun s=>(top+1 - s.2.2.2).toNat) ?_ ⟨0,0,rfl,rfl,Nat.zero_le _,Nat.zero_le _,Int.le_refl _,fun _=>.inr rfl,by simp,by simp,zmp _,by simp,fun x h1 h2=>by simp only at h2;omega⟩
 rintro ⟨out,_,_,c⟩ next ⟨i,j,rfl,rfl,hi,hj,hc0,hc1,hai,hbj,ho,hoc,hk⟩ hn
 simp only at hc0 hc1 hai hbj ho hoc hk
 have lo:=Vk ho ht0
 refine hF _ _ _ _ _ (zo (fun hc=>?_) (fun hc=>?_))
 rotate_left 1
 ·have hc':top<c:=by simpa using hc
  refine hκ out ho (fun x h1 h2=>hk x h1 (by omega))
 have hc':c≤top:=by simpa using hc
 refine zjp a c (by omega) hi hai _ (fun i' hi' hai' hai2=>?_) _ (fun _ _ h=>h)
 refine zjp b c (by omega) hj hbj _ (fun j' hj' hbj' hbj2=>?_) _ (fun _ _ h=>h)
 have mema:∀ s∈a.drop i',0≤s.xLo∧s.xHi≤top:=fun s hs=>ha.2 s (List.mem_of_mem_drop hs)
 have memb:∀ s∈b.drop j',0≤s.xLo∧s.xHi≤top:=fun s hs=>hb.2 s (List.mem_of_mem_drop hs)
 refine ⟨by omega,by omega,by omega,?_⟩
 rw [show (a.take (a.length:Int).toNat).drop (i':Int).toNat=a.drop i' by simp]
 refine zfM (fun s hs=>⟨(mema s hs).1,by have:=(mema s hs).2;omega⟩) (zcL _ ha.1) ?_
 obtain ⟨a1,a2,a3⟩:=zha (zcL i' ha.1) (fun s hs=>(mema s hs).2) hc' (zfv hai2)
 generalize stF (a.drop i') c top=p at a1 a2 a3
 obtain ⟨inA,endA⟩:=p
 simp only at a1 a2 a3 ⊢
 refine ⟨by omega,by omega,by omega,?_⟩
 rw [show (b.take (b.length:Int).toNat).drop (j':Int).toNat=b.drop j' by simp]
 refine zfM (fun s hs=>⟨(memb s hs).1,by have:=(memb s hs).2;omega⟩) (zcL _ hb.1) ?_
 obtain ⟨b1,b2,b3⟩:=zha (zcL j' hb.1) (fun s hs=>(memb s hs).2) hc' (zfv hbj2)
 generalize stF (b.drop j') c top=p at b1 b2 b3
 obtain ⟨inB,endB⟩:=p
 simp only at b1 b2 b3 ⊢
 have hke:∀ x,c≤x→x≤min endA endB→(keep (decide (hv a x)) (decide (hv b x))=keep inA inB):=fun x q1 q2=>by
  have e1:decide (hv a x)=inA:=by
   have:=a3 x q1 (by omega)
   rw [← zis hai' q1] at this
   cases inA <;> simpa using this
  have e2:decide (hv b x)=inB:=by
   have:=b3 x q1 (by omega)
   rw [← zis hbj' q1] at this
   cases inB <;> simpa using this
  rw [e1,e2]
 unfold jnW
 generalize hm:min endA endB=m at hke ⊢
 have m1:c≤m:=by omega
 have m2:m≤top:=by omega
 have fin:∀ out',St out' top→(∀ u∈out',u.xHi≤m)→(∀ x,0≤x→x≤m→(hv out' x↔keep (decide (hv a x)) (decide (hv b x))=true))→js m 1 (fun t300=>next (out',(i':Int),(j':Int),t300)):=fun out' h1 h2 h3 =>
  zC (by omega) (by omega) (hn _ ⟨i',j',rfl,rfl,hi',hj',by simp only;omega,fun _=>.inl (by simp only at *;omega),fun u hu=>by have:=hai' u hu;simp only;omega,fun u hu=>by have:=hbj' u hu;simp only;omega,h1,fun u hu=>by have:=h2 u hu;simp only;omega,fun x q1 q2=>h3 x q1 (by simp only at q2;omega)⟩ (by simp only;omega))
 refine hK _ _ _ (zo (fun hkt=>?_) (fun hkf=>?_))
 ·
  have app:(∀ u∈out,u.xHi+1<c)→xm out ([(zg.mk c m)]) (fun _=>js m 1 (fun t300=>next (out++[zg.mk c m],(i':Int),(j':Int),t300))):=fun hg =>
   jo (by simp;omega) (fin _ ⟨VX ho.1 (Vl (by simpa using m1)) (fun s hs t ht=>by simp at ht;subst ht;exact hg s hs),fun s hs=>by
    rcases List.mem_append.1 hs with q | q
    ·exact ho.2 s q
    ·simp at q;subst q;exact ⟨hc0,m2⟩⟩ (fun u hu=>by
    rcases List.mem_append.1 hu with q | q
    ·have:=hoc u q;omega
    ·simp at q;subst q;exact Int.le_refl _) (fun x q1 q2=>by
    rw [Vh,xY]
    simp only [uN,or_false]
    by_cases hx:x<c
    ·rw [← hk x q1 hx]
     constructor
     ·rintro (q | q)
      ·exact q
      ·omega
     ·exact .inl
    ·rw [hke x (by omega) q2,hkt]
     simp only [iff_true]
     exact .inr ⟨by omega,q2⟩))
  refine zo (fun hp=>?_) (fun hp=>?_)
  ·
   have hpos:0<out.length:=by simpa using hp
   refine yJ (by omega) (by omega) (zp (out.length - 1) (by omega) (by omega) ?_)
   have hmem:out[out.length - 1]∈out:=List.getElem_mem _
   have hlast:=hoc _ hmem
   have hl0:=ho.2 _ hmem
   have hl1:=ho.1.1 _ hmem
   refine zC (by omega) (by omega) (zo (fun hq=>?_) (fun hq=>?_))
   ·have hq':(out[out.length - 1]).xHi+1=c:=by simpa using hq
    refine yJ (by omega) (by omega) (zp (out.length - 1) (by omega) (by omega) ?_)
    have hsplit:out=out.dropLast++[out[out.length - 1]]:=by
     have:=List.dropLast_concat_getLast (l:=out) (by intro h;rw [h] at hpos;simp at hpos)
     rw [List.getLast_eq_getElem] at this
     exact this.symm
    generalize out[out.length - 1]=z at *
    have hset:out.set ((out.length:Int) - 1).toNat (zg.mk z.xLo m)=out.dropLast++[zg.mk z.xLo m]:=by
     have e1:((out.length:Int) - 1).toNat=out.dropLast.length:=by rw [List.length_dropLast];omega
     rw [e1]
     conv=>lhs;rw [hsplit]
     rw [List.dropLast_concat,List.set_append_right _ _ (Nat.le_refl _)]
     simp
    rw [hset]
    have hd:NF (out.dropLast++[z]):=by rw [← hsplit];exact ho.1
    have hdp:=List.pairwise_append.1 hd.2
    have hdm:∀ u∈out.dropLast,u∈out:=fun u hu=>by rw [hsplit];exact List.mem_append_left _ hu
    refine fin _ ⟨VX ⟨fun s hs=>ho.1.1 s (hdm s hs),hdp.1⟩ (Vl (by simp only;omega)) (fun s hs t ht=>by simp at ht;subst ht;exact hdp.2.2 s hs z (by simp)),fun s hs=>?_⟩ (fun u hu=>?_) (fun x q1 q2=>?_)
    ·rcases List.mem_append.1 hs with q | q
     ·exact ho.2 s (hdm s q)
     ·simp at q;subst q;exact ⟨hl0.1,m2⟩
    ·rcases List.mem_append.1 hu with q | q
     ·have:=hoc u (hdm u q);omega
     ·simp at q;subst q;exact Int.le_refl _
    ·have hold:hv out x↔hv out.dropLast x∨(z.xLo≤x∧x≤z.xHi):=by
      conv=>lhs;rw [hsplit]
      rw [Vh,xY];simp [uN]
     rw [Vh,xY]
     simp only [uN,or_false]
     by_cases hx:x<c
     ·rw [← hk x q1 hx,hold]
      constructor
      ·rintro (q | q)
       ·exact .inl q
       ·exact .inr ⟨q.1,by omega⟩
      ·rintro (q | q)
       ·exact .inl q
       ·exact .inr ⟨q.1,by omega⟩
     ·rw [hke x (by omega) q2,hkt]
      simp only [iff_true]
      exact .inr ⟨by omega,q2⟩
   ·have hq':(out[out.length - 1]).xHi+1≠c:=by simpa using hq
    refine app (fun u hu=>?_)
    obtain ⟨t,ht,e⟩:=List.getElem_of_mem hu
    by_cases e0:t=out.length - 1
    ·subst e0;rw [← e];omega
    ·have hpw:=List.pairwise_iff_getElem.1 ho.1.2 t (out.length - 1) ht (by omega) (by omega)
     rw [e] at hpw
     omega
  ·have:out=[]:=by
    have:¬ 0<out.length:=by simpa using hp
    exact List.eq_nil_of_length_eq_zero (by omega)
   subst this
   exact xi (app (by simp))
 ·refine fin out ho (fun u hu=>by have:=hoc u hu;omega) (fun x q1 q2=>?_)
  by_cases hx:x<c
  ·exact hk x q1 hx
  ·rw [hke x (by omega) q2,hkf]
   simp only [Bool.false_eq_true,iff_false]
   rintro ⟨u,hu,r1,r2⟩
   have:=hoc u hu
   omega
end
section
open Go Go.Proofs
theorem zj4 {p q:Bool} {κ:Bool→Prop} (h:κ (p && q)):YF p q κ:=by
 unfold YF jnW;cases p <;> simpa using h
theorem zfq {p q:Bool} {κ:Bool→Prop} (h:κ (p && !q)):yS p q κ:=by
 unfold yS jnW;cases p <;> simpa using h
theorem zhT {p q:Bool} {κ:Bool→Prop} (h:κ (p || q)):Xi p q κ:=by
 unfold Xi jnW;cases p <;> simpa using h
theorem zgl {a b:List zg} {top:Int} (ha:St a top) (hb:St b top) (h0:-2≤top) (ht:top≤65535) {κ:List zg→Prop} (h:κ (ja a b)):uD a b top κ:=by
 unfold uD
 refine zbL (fun p q=>p && q) ha hb h0 ht (κ:=κ) (fun r hr hk=>?_) (fun p q φ=>YF p q φ) (fun p q φ=>zj4) _ (fun _ _ _ _ _ h=>h)
 rw [zkl hr (Xj ha hb.1) (fun x=>?_)]
 ·exact h
 ·rw [XT]
  by_cases hx:0≤x∧x≤top
  ·rw [hk x hx.1 hx.2];simp
  ·exact ⟨fun e=>absurd (Z4 hr e) hx,fun e=>absurd (Z4 ha e.1) hx⟩
theorem YH {a b:List zg} {top:Int} (ha:St a top) (hb:St b top) (h0:-2≤top) (ht:top≤65535) {κ:List zg→Prop} (h:κ (ja a (yV b top))):xj a b top κ:=by
 unfold xj
 refine zbL (fun p q=>p && !q) ha hb h0 ht (κ:=κ) (fun r hr hk=>?_) (fun p q φ=>yS p q φ) (fun p q φ=>zfq) _ (fun _ _ _ _ _ h=>h)
 rw [zkl hr (Xj ha (Y2 hb).1) (fun x=>?_)]
 ·exact h
 ·rw [XT,zc4 hb]
  by_cases hx:0≤x∧x≤top
  ·rw [hk x hx.1 hx.2];simp [hx.1,hx.2]
  ·exact ⟨fun e=>absurd (Z4 hr e) hx,fun e=>absurd (Z4 ha e.1) hx⟩
theorem zeS {a b:List zg} {top:Int} (ha:St a top) (hb:St b top) (h0:-2≤top) (ht:top≤65535) {κ:List zg→Prop} (h:κ (X3 a b)):ur a b top κ:=by
 unfold ur
 refine zbL (fun p q=>p || q) ha hb h0 ht (κ:=κ) (fun r hr hk=>?_) (fun p q φ=>Xi p q φ) (fun p q φ=>zhT) _ (fun _ _ _ _ _ h=>h)
 rw [zkl hr (zdn ha hb) (fun x=>?_)]
 ·exact h
 ·rw [zbr ha hb]
  by_cases hx:0≤x∧x≤top
  ·rw [hk x hx.1 hx.2];simp
  ·refine ⟨fun e=>absurd (Z4 hr e) hx,fun e=>?_⟩
   rcases e with e | e
   ·exact absurd (Z4 ha e) hx
   ·exact absurd (Z4 hb e) hx
def lim (l:List zg):List zg×Bool:=if 40<l.length then ([],false) else (l,true)
theorem zai {l:List zg} {κ:List zg×Bool→Prop} (h:κ (lim l)):yu l κ:=by
 unfold yu
 unfold lim at h
 refine zo (fun hc=>?_) (fun hc=>?_)
 ·rw [if_pos (by have:=of_decide_eq_true hc;omega)] at h;exact h
 ·rw [if_neg (by have:=of_decide_eq_false hc;omega)] at h;exact h
theorem Y0 {a b:List zg} {top:Int} (ha:St a top) (hb:St b top) (h0:-2≤top) (ht:top≤65535) {κ:List zg×Bool→Prop} (h:κ (lim (ja a b))):jS a b top κ:=by
 unfold jS
 exact zgl ha hb h0 ht (zai h)
theorem zgW {a b:List zg} {top:Int} (ha:St a top) (hb:St b top) (h0:-2≤top) (ht:top≤65535) {κ:List zg×Bool→Prop} (h:κ (lim (ja a (yV b top)))):ul a b top κ:=by
 unfold ul
 exact YH ha hb h0 ht (zai h)
theorem zgJ {a b:List zg} {top:Int} (ha:St a top) (hb:St b top) (h0:-2≤top) (ht:top≤65535) {κ:List zg×Bool→Prop} (h:κ (lim (X3 a b))):Zx a b top κ:=by
 unfold Zx
 exact zeS ha hb h0 ht (zai h)
theorem ziJ {x:zg}:∀ (b:List zg),(b.flatMap (YQ x)).length≤b.length
 | []=>by simp
 | y :: b=>by
  have:=ziJ (x:=x) b
  have h1:(YQ x y).length≤1:=by unfold YQ;split <;> simp
  simp only [List.flatMap_cons,List.length_append,List.length_cons]
  omega
theorem Z6 {a b:List zg} {ta tb:Int} (ha:St a ta) (hb:St b tb) (h0:0≤ta) (ht:ta≤65535) (h1:0≤tb) (hu:tb≤65535) {κ:List zg→Prop} (h:κ (ja a b)):uV a b κ:=by
 have la:=Vk ha (by omega)
 have lb:=Vk hb (by omega)
 have short:∀ k,2 * ((ja (a.take k) b).length:Int)≤ta+2:=fun k =>
  Vk (Xj ⟨⟨fun s hs=>ha.1.1 s (List.mem_of_mem_take hs),ha.1.2.take⟩,fun s hs=>ha.2 s (List.mem_of_mem_take hs)⟩ hb.1) (by omega)
 unfold uV
 refine z6 a.length (fun s=>s.2) (fun k s=>s.2=(k:Int)∧k≤a.length∧s.1=ja (a.take k) b) (fun k s h=>h.1) (fun k s h=>h.2.1) ?_ ⟨rfl,Nat.zero_le _,by simp [ja]⟩
 rintro k ⟨xs,t⟩ next ⟨rfl,hk,hx⟩ hn
 simp only at hx
 subst hx
 refine zo (fun hc=>?_) (fun hc=>?_)
 ·have hlt:k<a.length:=by simpa using hc
  have hmem:a[k]∈a:=List.getElem_mem hlt
  have r1:=ha.2 _ hmem
  refine z6 b.length (fun s=>s.2) (fun j s=>s.2=(j:Int)∧j≤b.length∧s.1=ja (a.take k) b++(b.take j).flatMap (YQ a[k])) (fun k s h=>h.1) (fun k s h=>h.2.1) ?_ ⟨rfl,Nat.zero_le _,by simp⟩
  rintro j ⟨ys,u⟩ next2 ⟨rfl,hj,hy⟩ hn2
  simp only at hy
  subst hy
  refine zo (fun hd=>?_) (fun hd=>?_)
  ·have hlt2:j<b.length:=by simpa using hd
   have hstep:(b.take (j+1)).flatMap (YQ a[k])=(b.take j).flatMap (YQ a[k])++YQ a[k] b[j]:=by
    rw [List.take_succ_eq_append_getElem hlt2,List.flatMap_append];simp
   have hlen:=ziJ (x:=a[k]) (b.take j)
   have:=short k
   simp only [List.length_take] at hlen
   unfold jnW
   refine zp k rfl hlt (zp j rfl hlt2 (zp k rfl hlt (zp j rfl hlt2 (zo (fun he=>?_) (fun he=>?_)))))
   ·refine jo (by simp only [List.length_append,List.length_singleton];omega) (zC (by omega) (by omega) (hn2 hlt2 _ ⟨by simp,by omega,?_⟩))
    rw [hstep]
    unfold YQ at *
    rw [if_pos (by simpa using he)]
    simp
   ·refine zC (by omega) (by omega) (hn2 hlt2 _ ⟨by simp,by omega,?_⟩)
    rw [hstep]
    have:YQ a[k] b[j]=[]:=by unfold YQ;rw [if_neg (by simpa using he)]
    rw [this];simp
  ·have hge:b.length≤j:=by simpa using hd
   have e:j=b.length:=by omega
   subst e
   refine zC (by omega) (by omega) (hn hlt _ ⟨by simp,by omega,?_⟩)
   have e2:ja (a.take k++[a[k]]) b=ja (a.take k) b++b.flatMap (YQ a[k]):=by simp only [ja,List.flatMap_append,List.flatMap_cons,List.flatMap_nil,List.append_nil]
   show ja (a.take k) b++(b.take b.length).flatMap (YQ a[k])=_
   rw [List.take_succ_eq_append_getElem hlt,e2,List.take_length]
 ·have hge:a.length≤k:=by simpa using hc
  rw [List.take_of_length_le hge];exact h
theorem zaa {a:List zg} {top:Int} (ha:St a top) (h0:0≤top) (ht:top≤65535) {κ:List zg→Prop} (h:κ (yV a top)):XZ a top κ:=by
 have la:=Vk ha (by omega)
 have lo:=Vk (Y2 ha) (by omega)
 unfold XZ
 refine z6 a.length (fun s=>s.2.2) (fun k s=>s.2.2=(k:Int)∧k≤a.length∧s.1++UG (a.drop k) s.2.1 top=yV a top∧0≤s.2.1∧s.2.1≤65536) (fun k s h=>h.1) (fun k s h=>h.2.1) ?_ ⟨rfl,Nat.zero_le _,by simp [yV],by simp,by simp⟩
 rintro k ⟨xs,c,t⟩ next ⟨rfl,hk,hx,hc0,hc1⟩ hn
 simp only at hx hc0 hc1
 have hlen:xs.length≤(yV a top).length:=by rw [← hx];simp
 refine zo (fun hc=>?_) (fun hc=>?_)
 ·have hlt:k<a.length:=by simpa using hc
  have hmem:a[k]∈a:=List.getElem_mem hlt
  have r1:=ha.2 _ hmem
  have r2:=ha.1.1 _ hmem
  rw [List.drop_eq_getElem_cons hlt] at hx
  simp only [UG] at hx
  unfold jnW
  refine zp k rfl hlt (zo (fun he=>?_) (fun he=>?_))
  ·rw [if_pos (by simpa using he)] at hx
   refine zp k rfl hlt (yJ (by omega) (by omega) (jo (by simp only [List.length_singleton];omega) (zp k rfl hlt (zC (by omega) (by omega) (zC (by omega) (by omega) (hn hlt _ ⟨by simp,by omega,?_,by simp only;omega,by simp only;omega⟩))))))
   simpa [List.append_assoc] using hx
  ·rw [if_neg (by simpa using he)] at hx
   refine zp k rfl hlt (zC (by omega) (by omega) (zC (by omega) (by omega) (hn hlt _ ⟨by simp,by omega,?_,by simp only;omega,by simp only;omega⟩)))
   simpa using hx
 ·have hge:a.length≤k:=by simpa using hc
  rw [List.drop_eq_nil_of_le hge] at hx
  simp only [UG] at hx
  unfold jnW
  refine zo (fun he=>?_) (fun he=>?_)
  ·rw [if_pos (by simpa using he)] at hx
   refine jo (by simp only [List.length_singleton];omega) ?_
   rw [hx];exact h
  ·rw [if_neg (by simpa using he),List.append_nil] at hx
   rw [hx];exact h
def Sm (s:zg):Prop:=-1000000000≤s.xLo∧s.xLo≤1000000000∧-1000000000≤s.xHi∧s.xHi≤1000000000
theorem zk4 {l:List zg} {s:zg} (hl:l.length≤1000000000) (hb:∀ x∈l,Sm x) (hs:Sm s) {κ:List zg→Prop} (h:κ (zci l s)):Vd l s κ:=by
 unfold Vd
 refine z6 l.length (fun s=>s.2.2.2.2) (fun k (st:Int×Int×List zg×Bool×Int)=>st.2.2.2.2=(k:Int)∧k≤l.length∧zaS l s [] false=zaS (l.drop k) (zg.mk st.1 st.2.1) st.2.2.1 st.2.2.2.1∧st.2.2.1.length≤2 * k∧Sm (zg.mk st.1 st.2.1)) (fun k s h=>h.1) (fun k s h=>h.2.1) ?_ ⟨rfl,Nat.zero_le _,by simp,by simp,hs⟩
 rintro k ⟨lo,hi,xs,pl,t⟩ next ⟨rfl,hk,hx,hlen,hsm⟩ hn
 simp only at hx hlen hsm
 obtain ⟨m1,m2,m3,m4⟩:=hsm
 simp only at m1 m2 m3 m4
 refine zo (fun hc=>?_) (fun hc=>?_)
 ·have hlt:k<l.length:=by simpa using hc
  obtain ⟨n1,n2,n3,n4⟩:=hb _ (List.getElem_mem hlt)
  rw [List.drop_eq_getElem_cons hlt] at hx
  simp only [zaS] at hx
  unfold jnW
  refine zp k rfl hlt (zC (by omega) (by omega) (zo (fun he=>?_) (fun he=>?_)))
  ·rw [if_pos (by simpa using he)] at hx
   exact jo (by simp only [List.length_singleton];omega) (zC (by omega) (by omega) (hn hlt _ ⟨by simp,by omega,hx,by simp only [List.length_append,List.length_singleton];omega,m1,m2,m3,m4⟩))
  ·rw [if_neg (by simpa using he)] at hx
   refine zC (by omega) (by omega) (zo (fun hf=>?_) (fun hf=>?_))
   ·rw [if_pos (by simpa using hf)] at hx
    cases pl with
    | false =>
     refine jA (jo (by simp only [List.length_singleton];omega) (jo (by simp only [List.length_append,List.length_singleton];omega) (zC (by omega) (by omega) (hn hlt _ ⟨by simp,by omega,hx,by simp only [List.length_append,List.length_singleton];omega,m1,m2,m3,m4⟩))))
    | true =>
     refine xi (jo (by simp only [List.length_singleton];omega) (zC (by omega) (by omega) (hn hlt _ ⟨by simp,by omega,hx,by simp only [List.length_append,List.length_singleton];omega,m1,m2,m3,m4⟩)))
   ·rw [if_neg (by simpa using hf)] at hx
    exact zC (by omega) (by omega) (hn hlt _ ⟨by simp,by omega,hx,by simp only;omega,by simp only;omega,by simp only;omega,by simp only;omega,by simp only;omega⟩)
 ·have hge:l.length≤k:=by simpa using hc
  rw [List.drop_eq_nil_of_le hge] at hx
  simp only [zaS] at hx
  unfold zci at h
  rw [hx] at h
  unfold jnW
  cases pl with
  | false=>exact jA (jo (by simp only [List.length_singleton];omega) (by simpa using h))
  | true=>exact xi (by simpa using h)
end
section
open Go.Lib (decDigits)
def B (l:List UInt8):ByteArray:=ByteArray.mk l.toArray
def dg (c:UInt8):Bool:=decide (48≤c.toNat) && decide (c.toNat≤57)
def val (l:List UInt8):Nat:=l.foldl (fun n c=>10 * n+(c.toNat - 48)) 0
def run:Nat→List UInt8→List UInt8
 | 0,_=>[]
 | _,[]=>[]
 | k+1,c :: l=>if dg c then c :: run k l else []
end
section
theorem zkp (e:UInt8):(0:Int)≤(e.toNat:Int)∧(e.toNat:Int)≤255:=by
 have:=e.toNat_lt
 omega
theorem zla {x y:Int} {κ:Int→Prop} (h1:0≤x) (h2:x<4611686018427387904) (h3:0≤y) (h4:y<4611686018427387904) (h:∀ z,0≤z→z<4611686018427387904→κ z):zmi x y κ:=by
 refine ⟨h1,h2,h3,h4,h _ (by omega) ?_⟩
 have:x.toNat ^^^ y.toNat<2 ^ 62:=Nat.xor_lt_two_pow (by omega) (by omega)
 have e:(2:Nat) ^ 62=4611686018427387904:=by decide
 rw [e] at this
 omega
theorem Ui {x y:Int} {κ:Int→Prop} (h1:0≤x) (h2:x≤9223372036854775807) (h3:0<y) (h:∀ z,0≤z→z<y→κ z):zbz x y κ :=
 zkv h1 h2 h3 (h _ (Int.emod_nonneg _ (by omega)) (Int.emod_lt_of_pos _ h3))
theorem zgC {x y:Int} {κ:Int→Prop} (h1:0≤x) (h2:x≤9223372036854775807) (h3:0<y) (h:∀ z,0≤z→z≤x→κ z):zjb x y κ :=
 zkS h1 h2 h3 (h _ (Int.ediv_nonneg h1 (by omega)) (Int.ediv_le_self _ h1))
theorem yC {α:Type} {xs:List α} {i:Int} {κ:α→Prop} (h1:0≤i) (h2:i<xs.length) (h:∀ x,x∈xs→κ x):zH xs i κ:=by
 obtain ⟨n,rfl⟩:=Int.eq_ofNat_of_zero_le h1
 have hn:n<xs.length:=by omega
 exact zp n rfl hn (h _ (List.getElem_mem hn))
def RdP (b:List UInt8) (p:Int):Prop:=b.length≤2000∧0≤p∧p≤1000000
theorem xM {b:List UInt8} {p n:Int} (hr:RdP b p) {κ:Int×Int→Prop} (h:∀ v,0≤v→(v=0∨v<n)→κ (v,p+1)):zq b p n κ:=by
 obtain ⟨hb,h0,h1⟩:=hr
 unfold zq jnW
 have hz:κ (0,p+1):=h 0 (Int.le_refl _) (.inl rfl)
 refine zC (by omega) (by omega) (zo (fun hc=>?_) (fun hc=>zo (fun hc2=>?_) (fun hc2=>?_)))
 ·simp only [UU];exact hz
 ·exact hz
 ·simp at hc hc2
  have hpos:0<(b.length:Int):=by
   cases b with
   | nil=>simp at hc2
   | cons x l=>simp
  refine yJ (by omega) (by omega) ?_
  have ep:p+1 - 1=p:=by omega
  rw [ep]
  refine zo (fun hc3=>?_) (fun hc3=>?_)
  ·simp at hc3
   refine yC h0 hc3 (fun e _=>?_)
   have:=zkp e
   exact Ui (by omega) (by omega) (by omega) (fun z z1 z2=>h z z1 (.inr z2))
  ·refine Ui h0 (by omega) hpos (fun z z1 z2=>yC z1 z2 (fun e _=>?_))
   have he:=zkp e
   refine zah (by omega) (by omega) (zah (by omega) (by omega) (zC (by omega) (by omega) (Ui (by omega) (by omega) hpos (fun y y1 y2=>yC y1 y2 (fun d _=>?_)))))
   have hd:=zkp d
   refine zah (by omega) (by omega) (zC (by omega) (by omega) (zah (by omega) (by omega) (zC (by omega) (by omega) (zgC (by omega) (by omega) hpos (fun q q1 q2=>?_)))))
   refine zah (by omega) (by omega) (zC (by omega) (by omega) (zgC (by omega) (by omega) (by omega) (fun r r1 r2=>?_)))
   exact zla (by omega) (by omega) (by omega) (by omega) (fun x x1 x2=>Ui x1 (by omega) (by omega) (fun z z1 z2=>h z z1 (.inr z2)))
theorem zd1 {b:List UInt8} {p n:Int} (hr:RdP b p) (hn:n≤4294967296) {κ:Bool×Int→Prop} (h:∀ c p',p≤p'→p'≤p+1→κ (c,p')):xc b p n κ:=by
 unfold xc jnW
 refine zo (fun hc=>xM hr (fun v v1 v2=>yJ (by simp at hc;omega) (by simp at hc;omega) (h _ _ (by omega) (by omega)))) (fun hc=>h _ _ (by omega) (by omega))
theorem zft {c:List UInt8} {κ:List UInt8×Int→Prop} (h:∀ b,b.length≤2000→κ (b,0)):X1 c κ:=by
 unfold X1 jnW
 refine zo (fun hc=>?_) (fun hc=>?_)
 ·simp at hc
  refine ⟨by omega,by omega,by omega,h _ (by simp;omega)⟩
 ·simp at hc
  exact h _ (by omega)
theorem zli {κ:Bool→Prop} (h:κ true):Vb κ:=by
 unfold Vb yO
 refine u6 (fun s=>s=0) (fun s=>0) ?_ rfl
 rintro s next rfl hn
 refine zo (fun _=>zp 0 rfl (by simp) ?_) (fun hc=>by simp at hc)
 simp [jnW]
 exact h
end
section
open Go.Lib (decDigits)
def cut (c:UInt8):List UInt8→List UInt8×List UInt8
 | []=>([],[])
 | d :: l=>if d=c then ([],l) else (d :: (cut c l).1,(cut c l).2)
end
section
open Go.Lib (decDigits)
theorem zaP {n lo hi:Int} {κ:Bool→Prop} (h:κ (decide (lo≤n∧n≤hi))):yq n lo hi κ:=by
 unfold yq jnW
 refine zo (fun hc=>?_) (fun hc=>?_)
 ·simp at hc;simpa [hc] using h
 ·simp at hc
  have:decide (lo≤n∧n≤hi)=false:=by simp;omega
  rw [this] at h;exact h
end
section
open Go.Lib (decDigits)
theorem zc1 {x:Int} (h1:-100≤x) (h2:x≤100):w64 x=x:=by
 simp [w64,IntKind.wrap,IntKind.signed,IntKind.bits];omega
theorem zm4 {α:Type} {x a b c:α} (h:x∈[a,b,c]):x=a∨x=b∨x=c:=by simpa using h
theorem RdP.step {b:List UInt8} {p p':Int} {m:Int} (h:RdP b p) (h1:p≤p') (h2:p'≤1000000):RdP b p':=⟨h.1,by have:=h.2.1;omega,h2⟩
end
section
open Go.Lib (decDigits)
def top (f:Int):Int:=if f=0∨f=1 then 65535 else if f=2 then 255 else 7
theorem VS (f:Int):7≤top f∧top f≤65535:=by unfold top;repeat' split;all_goals omega
def nm (f:Int):List UInt8:=if f=0 then [102,114,111,109] else if f=1 then [116,111] else if f=2 then [112,111,114,116] else [112,114,111,116,111]
def TV (t:jJ):Prop:=0≤t.xField∧t.xField≤3∧0≤t.xLo∧t.xLo≤t.xHi∧t.xHi≤top t.xField
instance (t:jJ):Decidable (TV t):=by unfold TV;infer_instance
def rtx (t:jJ):List UInt8:=decDigits t.xLo.toNat++(if t.xHi=t.xLo then [] else 45 :: decDigits t.xHi.toNat)
def btx (t:jJ):List UInt8:=nm t.xField++32 :: rtx t
def ttx (t:jJ):List UInt8:=if t.xNot then 110 :: 111 :: 116 :: 32 :: btx t else btx t
theorem zfb {f:Int} (h0:0≤f) (h1:f≤3):f=0∨f=1∨f=2∨f=3:=by omega
theorem zkY {n:Int} {κ:UP→Prop} (h0:0≤n) (h1:n≤3) (h:∀ e:UP,e.xName=B (nm n)→e.xTop=top n→κ e):zH zB n κ:=by
 rcases zfb h0 h1 with rfl | rfl | rfl | rfl
 ·exact zp 0 rfl (by decide) (h _ rfl rfl)
 ·exact zp 1 rfl (by decide) (h _ rfl rfl)
 ·exact zp 2 rfl (by decide) (h _ rfl rfl)
 ·exact zp 3 rfl (by decide) (h _ rfl rfl)
theorem xO {n:Int} {κ:Int→Prop} (h0:0≤n) (h1:n≤3) (h:κ (top n)):uz n κ:=by
 unfold uz jnW
 rcases zfb h0 h1 with rfl | rfl | rfl | rfl <;> simpa [top] using h
theorem zay {n:Int} {κ:Int→Prop} (h:κ (if 0≤n∧n≤3 then top n else -1)):jn n κ:=by
 unfold jn jnW
 refine zo (fun hc=>?_) (fun hc=>zo (fun hc2=>?_) (fun hc2=>?_))
 ·simp at hc;rw [if_neg (by omega)] at h;simpa using h
 ·simp at hc hc2;rw [if_neg (by omega)] at h;exact h
 ·simp at hc hc2;rw [if_pos (by omega)] at h
  exact zkY (by omega) (by omega) (fun e _ he=>by rw [he];exact h)
theorem V2 {t:jJ} {κ:Bool→Prop} (h:κ (decide (TV t))):Z3 t κ:=by
 unfold Z3 jnW
 refine zaP (zo (fun hc=>?_) (fun hc=>?_))
 ·simp at hc
  refine zaP (zo (fun hc2=>?_) (fun hc2=>?_))
  ·simp at hc2
   refine xO hc.1 hc.2 ?_
   rw [show decide (t.xHi≤top t.xField)=decide (TV t) from decide_eq_decide.2 ⟨fun hh=>⟨hc.1,hc.2,hc2.1,hc2.2,hh⟩,fun hh=>hh.2.2.2.2⟩]
   exact h
  ·simp at hc2
   rw [decide_eq_false (fun hh:TV t=>by obtain ⟨a1,a2,a3,a4,_⟩:=hh;omega)] at h;exact h
 ·simp at hc
  rw [decide_eq_false (fun hh:TV t=>by obtain ⟨a1,a2,a3,a4,_⟩:=hh;omega)] at h;exact h
theorem zcV {t:jJ} {κ:Bool→Prop} (h:κ (decide (TV t))):Yi t κ:=by
 unfold Yi jnW
 have no:¬ (0≤t.xField∧t.xField<4∧0≤t.xLo∧t.xLo≤t.xHi)→κ false:=fun hn=>by
  rw [decide_eq_false (fun hh:TV t=>by obtain ⟨a1,a2,a3,a4,_⟩:=hh;omega)] at h;exact h
 refine zo (fun hc=>zo (fun hc2=>zo (fun hc3=>zo (fun hc4=>?_) (fun hc4=>no (by simp at hc4;omega))) (fun hc3=>no (by simp at hc3;omega))) (fun hc2=>no (by simp at hc2;omega))) (fun hc=>no (by simp at hc;omega))
 simp at hc hc2 hc3 hc4
 refine zay ?_
 rw [if_pos ⟨hc,by omega⟩]
 rw [show decide (t.xHi≤top t.xField)=decide (TV t) from decide_eq_decide.2 ⟨fun hh=>⟨hc,by omega,hc3,hc4,hh⟩,fun hh=>hh.2.2.2.2⟩]
 exact h
end
section
open Go Go.Proofs
def Xf (a b:List zg):Int×Bool :=
 match ja a b with
 | []=>(0,false)
 | s :: _=>(s.xLo,true)
theorem zi6 {a b:List zg} (ha:NF a) (hb:NF b) {v:Int} (h1:hv a v) (h2:hv b v) (h3:∀ x,hv a x→hv b x→v≤x):Xf a b=(v,true):=by
 have hm:=zcQ ha hb
 unfold Xf
 have hv0:=(XT a b v).2 ⟨h1,h2⟩
 have hall:∀ x,hv (ja a b) x→v≤x:=fun x hx=>by
  obtain ⟨e1,e2⟩:=(XT a b x).1 hx
  exact h3 x e1 e2
 generalize ja a b=m at hm hv0 hall
 cases m with
 | nil=>exact absurd hv0 (uN v)
 | cons s m =>
  have e1:=hall s.xLo ((xY _ _ _).2 (.inl ⟨Int.le_refl _,hm.1 s (by simp)⟩))
  have e2:=zb9 hm hv0
  simp only [Prod.mk.injEq,and_true]
  omega
theorem zhD {a b:List zg} (h:∀ x,hv a x→hv b x→False) (ha:NF a) (hb:NF b):Xf a b=(0,false):=by
 unfold Xf
 have hm:=zcQ ha hb
 have hall:∀ x,¬ hv (ja a b) x:=fun x hx=>by
  obtain ⟨e1,e2⟩:=(XT a b x).1 hx
  exact h x e1 e2
 generalize ja a b=m at hm hall
 cases m with
 | nil=>rfl
 | cons s m=>exact absurd ((xY s m s.xLo).2 (.inl ⟨Int.le_refl _,hm.1 s (by simp)⟩)) (hall _)
theorem zid {a:List zg} {i:Nat} (h:i<a.length) (x:Int):hv (a.drop i) x↔(a[i].xLo≤x∧x≤a[i].xHi)∨hv (a.drop (i+1)) x:=by
 rw [List.drop_eq_getElem_cons h,xY]
theorem zbi {a:List zg} {i:Nat} (hn:NF a) (h:i<a.length) {x:Int} (hx:hv (a.drop i) x):a[i].xLo≤x:=by
 have:=zcL i hn
 rw [List.drop_eq_getElem_cons h] at this hx
 exact zb9 this hx
theorem UL {a b:List zg} {ta tb:Int} (ha:St a ta) (hb:St b tb) (h0:0≤ta) (ht:ta≤65535) (h1:0≤tb) (hu:tb≤65535) {κ:Int×Bool→Prop} (h:κ (Xf a b)):Xc a b κ:=by
 have la:=Vk ha (by omega)
 have lb:=Vk hb (by omega)
 unfold Xc
 refine u6 (fun (s:Int×Int)=>∃ i j:Nat,s.1=i∧s.2=j∧i≤a.length∧j≤b.length∧∀ x,hv a x→hv b x→hv (a.drop i) x∧hv (b.drop j) x) (fun s=>(a.length+b.length - s.1 - s.2).toNat) ?_ ⟨0,0,rfl,rfl,Nat.zero_le _,Nat.zero_le _,fun x q1 q2=>⟨by simpa using q1,by simpa using q2⟩⟩
 rintro ⟨_,_⟩ next ⟨i,j,rfl,rfl,hi,hj,hx⟩ hn
 simp only at hn ⊢
 unfold jnW
 have none:(i=a.length∨j=b.length)→κ (0,false):=fun hh=>by
  rw [zhD (fun x q1 q2=>?_) ha.1 hb.1] at h
  ·exact h
  ·obtain ⟨r1,r2⟩:=hx x q1 q2
   rcases hh with e | e
   ·subst e;rw [List.drop_length] at r1;exact uN x r1
   ·subst e;rw [List.drop_length] at r2;exact uN x r2
 refine zo (fun hc=>?_) (fun hc=>?_)
 rotate_left 1
 ·have:a.length≤i:=by simpa using hc
  exact xi (none (.inl (by omega)))
 have hi2:i<a.length:=by simpa using hc
 refine zo (fun hd=>?_) (fun hd=>?_)
 rotate_left 1
 ·have:b.length≤j:=by simpa using hd
  exact none (.inr (by omega))
 have hj2:j<b.length:=by simpa using hd
 have a1:=ha.1.1 _ (List.getElem_mem hi2)
 have b1:=hb.1.1 _ (List.getElem_mem hj2)
 have ma:hv a a[i].xLo∧hv a a[i].xHi:=VI ha.1 (List.getElem_mem hi2)
 have mb:hv b b[j].xLo∧hv b b[j].xHi:=VI hb.1 (List.getElem_mem hj2)
 refine zp i rfl hi2 (zp j rfl hj2 (zp i rfl hi2 (zp j rfl hj2 (zo (fun he=>?_) (fun he=>?_)))))
 ·have he':max a[i].xLo b[j].xLo≤min a[i].xHi b[j].xHi:=by simpa using he
  rw [zi6 ha.1 hb.1 (v:=max a[i].xLo b[j].xLo) ⟨a[i],List.getElem_mem hi2,by omega,by omega⟩ ⟨b[j],List.getElem_mem hj2,by omega,by omega⟩ (fun x q1 q2=>?_)] at h
  ·exact h
  ·obtain ⟨r1,r2⟩:=hx x q1 q2
   have:=zbi ha.1 hi2 r1
   have:=zbi hb.1 hj2 r2
   omega
 ·have he':¬ max a[i].xLo b[j].xLo≤min a[i].xHi b[j].xHi:=by simpa using he
  refine zp i rfl hi2 (zp j rfl hj2 (zo (fun hf=>?_) (fun hf=>?_)))
  ·have hf':a[i].xHi<b[j].xHi:=by simpa using hf
   refine zC (by omega) (by omega) (hn _ ⟨i+1,j,by simp,rfl,by omega,hj,fun x q1 q2=>?_⟩ (by simp only;omega))
   obtain ⟨r1,r2⟩:=hx x q1 q2
   refine ⟨?_,r2⟩
   rcases (zid hi2 x).1 r1 with e | e
   ·have:=zbi hb.1 hj2 r2;omega
   ·exact e
  ·have hf':¬ a[i].xHi<b[j].xHi:=by simpa using hf
   refine zC (by omega) (by omega) (hn _ ⟨i,j+1,rfl,by simp,hi,by omega,fun x q1 q2=>?_⟩ (by simp only;omega))
   obtain ⟨r1,r2⟩:=hx x q1 q2
   refine ⟨r1,?_⟩
   rcases (zid hj2 x).1 r2 with e | e
   ·have:=zbi ha.1 hi2 r1;omega
   ·exact e
def B4 (a:za):Prop:=St a.x0 65535∧St a.x1 65535∧St a.x2 255∧St a.x3 7
def F4 (a:za):Prop:=a.x0.length≤40∧a.x1.length≤40∧a.x2.length≤40∧a.x3.length≤40
instance (a:za):Decidable (F4 a):=by unfold F4;infer_instance
def zda:za:=⟨[],[],[],[]⟩
def uL (a b:za):za:=⟨ja a.x0 b.x0,ja a.x1 b.x1,ja a.x2 b.x2,ja a.x3 b.x3⟩
theorem zg9 {a b:za} (ha:B4 a) (hb:B4 b):B4 (uL a b):=⟨Xj ha.1 hb.1.1,Xj ha.2.1 hb.2.1.1,Xj ha.2.2.1 hb.2.2.1.1,Xj ha.2.2.2 hb.2.2.2.1⟩
def em4 (a:za):Bool:=decide (a.x0=[]∨a.x1=[]∨a.x2=[]∨a.x3=[])
def zkj (a:za):za×Bool:=if F4 a then (a,true) else (zda,false)
def za8:za:=⟨[⟨0,65535⟩],[⟨0,65535⟩],[⟨0,255⟩],[⟨0,7⟩]⟩
theorem zgu:B4 za8:=by refine ⟨?_,?_,?_,?_⟩ <;> exact ⟨Vl (by decide),fun s hs=>by simp only [za8,List.mem_singleton] at hs;subst hs;decide⟩
theorem zex {a:za} {κ:Bool→Prop} (h:κ (em4 a)):yg a κ:=by
 obtain ⟨x0,x1,x2,x3⟩:=a
 simp only [em4] at h
 unfold yg
 refine ⟨5,?_⟩
 refine jA (zp 0 rfl (by simp) (zo (fun e=>?_) (fun e=>zC (by decide) (by decide) ?_)))
 ·have:x0=[]:=by simpa using e
  subst this;simpa using h
 have e0:x0≠[]:=by simpa using e
 refine jA (zp 1 rfl (by simp) (zo (fun e=>?_) (fun e=>zC (by decide) (by decide) ?_)))
 ·have:x1=[]:=by simpa using e
  subst this;simpa using h
 have e1:x1≠[]:=by simpa using e
 refine jA (zp 2 rfl (by simp) (zo (fun e=>?_) (fun e=>zC (by decide) (by decide) ?_)))
 ·have:x2=[]:=by simpa using e
  subst this;simpa using h
 have e2:x2≠[]:=by simpa using e
 refine jA (zp 3 rfl (by simp) (zo (fun e=>?_) (fun e=>zC (by decide) (by decide) ?_)))
 ·have:x3=[]:=by simpa using e
  subst this;simpa using h
 have e3:x3≠[]:=by simpa using e
 refine xi ?_
 simpa [e0,e1,e2,e3] using h
theorem zm8:top 0=65535:=rfl
theorem zmK:top 1=65535:=rfl
theorem zmS:top 2=255:=rfl
theorem zmR:top 3=7:=rfl
theorem ZH {n:Int} {κ:Int→Prop} (h0:0≤n) (h1:n≤3) (h:κ (top n)):jn n κ:=zay (by rw [if_pos ⟨h0,h1⟩];exact h)
theorem zkT {a b:za} (ha:B4 a) (hb:B4 b) {κ:za×Bool→Prop} (h:κ (zkj (uL a b))):XF a b κ:=by
 obtain ⟨a0,a1,a2,a3⟩:=a
 obtain ⟨b0,b1,b2,b3⟩:=b
 obtain ⟨p0,p1,p2,p3⟩:=ha
 obtain ⟨q0,q1,q2,q3⟩:=hb
 simp only at p0 p1 p2 p3 q0 q1 q2 q3
 have hT:(ja a0 b0).length≤40→(ja a1 b1).length≤40→(ja a2 b2).length≤40→(ja a3 b3).length≤40→κ (⟨ja a0 b0,ja a1 b1,ja a2 b2,ja a3 b3⟩,true):=fun e0 e1 e2 e3=>by
  have:zkj (uL ⟨a0,a1,a2,a3⟩ ⟨b0,b1,b2,b3⟩)=(uL ⟨a0,a1,a2,a3⟩ ⟨b0,b1,b2,b3⟩,true):=if_pos ⟨e0,e1,e2,e3⟩
  rw [this] at h;exact h
 have hF:¬ ((ja a0 b0).length≤40∧(ja a1 b1).length≤40∧(ja a2 b2).length≤40∧(ja a3 b3).length≤40)→κ (zda,false):=fun e=>by
  have:zkj (uL ⟨a0,a1,a2,a3⟩ ⟨b0,b1,b2,b3⟩)=(zda,false):=if_neg e
  rw [this] at h;exact h
 clear h
 unfold XF
 refine ⟨5,?_⟩
 refine jA ?_
 unfold jnW
 refine zp 0 rfl (by simp) (zp 0 rfl (by simp) (ZH (n:=(0:Int)) (by decide) (by decide) (Y0 (top:=top 0) p0 q0 (by decide) (by decide) ?_)))
 unfold lim
 by_cases c0:40<(ja a0 b0).length
 ·simp only [List.getElem_cons_zero,c0,if_true]
  exact jA (hF (by omega))
 simp only [List.getElem_cons_zero,c0,if_false]
 refine xi (zp 0 rfl (by simp) (zC (by decide) (by decide) ?_))
 refine jA ?_
 refine zp 1 rfl (by simp) (zp 1 rfl (by simp) (ZH (n:=(1:Int)) (by decide) (by decide) (Y0 (top:=top 1) p1 q1 (by decide) (by decide) ?_)))
 unfold lim
 by_cases c1:40<(ja a1 b1).length
 ·simp only [List.getElem_cons_zero,List.getElem_cons_succ,c1,if_true]
  exact jA (hF (by omega))
 simp only [List.getElem_cons_zero,List.getElem_cons_succ,c1,if_false]
 refine xi (zp 1 rfl (by simp) (zC (by decide) (by decide) ?_))
 refine jA ?_
 refine zp 2 rfl (by simp) (zp 2 rfl (by simp) (ZH (n:=(2:Int)) (by decide) (by decide) (Y0 (top:=top 2) p2 q2 (by decide) (by decide) ?_)))
 unfold lim
 by_cases c2:40<(ja a2 b2).length
 ·simp only [List.getElem_cons_zero,List.getElem_cons_succ,c2,if_true]
  exact jA (hF (by omega))
 simp only [List.getElem_cons_zero,List.getElem_cons_succ,c2,if_false]
 refine xi (zp 2 rfl (by simp) (zC (by decide) (by decide) ?_))
 refine jA ?_
 refine zp 3 rfl (by simp) (zp 3 rfl (by simp) (ZH (n:=(3:Int)) (by decide) (by decide) (Y0 (top:=top 3) p3 q3 (by decide) (by decide) ?_)))
 unfold lim
 by_cases c3:40<(ja a3 b3).length
 ·simp only [List.getElem_cons_zero,List.getElem_cons_succ,c3,if_true]
  exact jA (hF (by omega))
 simp only [List.getElem_cons_zero,List.getElem_cons_succ,c3,if_false]
 refine xi (zp 3 rfl (by simp) (zC (by decide) (by decide) ?_))
 refine xi ?_
 exact ⟨_,_,_,_,rfl,hT (by omega) (by omega) (by omega) (by omega)⟩
end
section
open Go.Lib (decDigits)
def zm6 (r:List UInt8):Prop:=∀ c m,r=c :: m→c=44
theorem zm6.dg {r:List UInt8} (h:zm6 r):∀ c m,r=c :: m→dg c=false:=fun c m e=>by rw [h c m e];decide
end
section
open Go.Lib (decDigits)
theorem zlX (x:Int):-9223372036854775808≤w64 x∧w64 x≤9223372036854775807:=by
 simp [w64,IntKind.wrap,IntKind.signed,IntKind.bits];omega
theorem ziZ {b:List UInt8} {p tp n:Int} (hb:b.length≤2000) (h0:0≤p) (hp:p≤900000) (ht0:7≤tp) (ht:tp≤65535) (hn:n≤4294967296) {κ:zg×Int→Prop} (h:∀ q p',p≤p'→p'≤p+20→-9223372036854775808≤q.xHi→q.xHi≤65536→κ (q,p')):Ud b p tp n κ:=by
 have rd:∀ p',p≤p'→p'≤p+30→RdP b p':=fun p' a c=>⟨hb,by omega,by omega⟩
 have B3:∀ (t144 t145:Int),p≤t144→t144≤p+6→zq b t144 4 (fun (r150,r151)=>zq b r151 256 (fun (r152,r153)=>zq b r153 4 (fun (r155,r156)=>zH ([0,r150,r152,4096]) r155 (fun e157=>xc b r156 n (fun (r174,r175)=>ifW r174 (zq b r175 3 (fun (r181,r182)=>zH ([(zg.mk (w64 ((min tp (w64 (t145+e157)))+1)) (min tp (w64 (t145+e157)))),(zg.mk (-1) (min tp (w64 (t145+e157)))),(zg.mk t145 (w64 (tp+1)))]) r181 (fun e183=>κ ((zg.mk e183.xLo e183.xHi),r182)))) (κ ((zg.mk t145 (min tp (w64 (t145+e157)))),r175))))))):=by
  intro t144 t145 g1 g2
  refine xM (rd _ (by omega) (by omega)) (fun v1 a1 c1=>xM (rd _ (by omega) (by omega)) (fun v2 a2 c2=>xM (rd _ (by omega) (by omega)) (fun v3 a3 c3=>yC (by omega) (by simp;omega) (fun x _=>?_))))
  have hm:=zlX (t145+x)
  have hw:w64 (tp+1)=tp+1:=by simp [w64,IntKind.wrap,IntKind.signed,IntKind.bits];omega
  refine zd1 (rd _ (by omega) (by omega)) hn (fun c p1 f1 f2=>zo (fun _=>?_) (fun _=>h _ _ (by omega) (by omega) (by simp only;omega) (by simp only;omega)))
  refine xM (rd _ (by omega) (by omega)) (fun v4 a4 c4=>yC (by omega) (by simp;omega) (fun y hy=>?_))
  rw [hw] at hy
  have hb:-9223372036854775808≤y.xHi∧y.xHi≤65536:=by rcases zm4 hy with e | e | e <;> subst e <;> simp only <;> omega
  exact h _ _ (by omega) (by omega) hb.1 hb.2
 unfold Ud
 refine zC (by omega) (by omega) (xM (rd p (by omega) (by omega)) (fun v a c=>?_))
 unfold jnW
 refine zo (fun _=>?_) (fun _=>?_)
 ·refine xM (rd _ (by omega) (by omega)) (fun v5 a5 c5=>?_)
  refine zo (fun _=>?_) (fun _=>?_)
  ·exact xM (rd _ (by omega) (by omega)) (fun v6 a6 c6=>B3 _ _ (by omega) (by omega))
  ·exact B3 _ _ (by omega) (by omega)
 ·refine zo (fun e=>by cases e) (fun _=>B3 _ _ (by omega) (by omega))
theorem zfx {b:List UInt8} {p n:Int} (hb:b.length≤2000) (h0:0≤p) (hp:p≤800000) (hn:n≤4294967296) {κ:jJ×Int→Prop} (h:∀ q p',p≤p'→p'≤p+50→κ (q,p')):X2 b p n κ:=by
 have rd:∀ p',p≤p'→p'≤p+60→RdP b p':=fun p' a c=>⟨hb,by omega,by omega⟩
 unfold X2
 refine xM (rd p (by omega) (by omega)) (fun f a1 c1=>xM (rd _ (by omega) (by omega)) (fun nt a2 c2=>xO (by omega) (by omega) ?_))
 have ht:=VS f
 refine ziZ hb (by omega) (by omega) ht.1 ht.2 (by omega) (fun sp p1 g1 g2 s1 s2=>?_)
 unfold jnW
 have fin:∀ (t241 t242 t243:Int),p≤t241→t241≤p+35→-9223372036854775808≤t243→t243≤65536→xc b t241 n (fun (r245,r246)=>ifW r245 (zq b r246 3 (fun (r247,r248)=>ifW (decide (r247=0)) (zq b r248 2 (fun (r251,r252)=>zH ([(-1),4]) r251 (fun e253=>κ ((jJ.mk e253 t242 t243 (decide (nt=0))),r252)))) (ifW (decide (r247=1)) (js t243 1 (fun t255=>κ ((jJ.mk f t255 t243 (decide (nt=0))),r248))) (js (top f) 1 (fun t256=>κ ((jJ.mk f t242 t256 (decide (nt=0))),r248)))))) (κ ((jJ.mk f t242 t243 (decide (nt=0))),r246))):=by
  intro t241 t242 t243 q1 q2 q3 q4
  refine zd1 (rd _ (by omega) (by omega)) hn (fun c p1 f1 f2=>zo (fun _=>?_) (fun _=>h _ _ (by omega) (by omega)))
  refine xM (rd _ (by omega) (by omega)) (fun v4 a4 c4=>zo (fun _=>?_) (fun _=>zo (fun _=>zC (by omega) (by omega) (h _ _ (by omega) (by omega))) (fun _=>zC (by omega) (by omega) (h _ _ (by omega) (by omega)))))
  exact xM (rd _ (by omega) (by omega)) (fun v5 a5 c5=>yC (by omega) (by simp;omega) (fun y _=>h _ _ (by omega) (by omega)))
 have mid:∀ (t152 t153 t154:Int),p≤t152→t152≤p+30→-9223372036854775808≤t154→t154≤65536→zq b t152 8 (fun (r156,r157)=>ifW (decide (r156=0)) (zq b r157 3 (fun (r163,r164)=>zH ([(zg.mk 0 (top f)),(zg.mk 0 t154),(zg.mk t153 (top f))]) r163 (fun e165=>xc b r164 n (fun (r245,r246)=>ifW r245 (zq b r246 3 (fun (r247,r248)=>ifW (decide (r247=0)) (zq b r248 2 (fun (r251,r252)=>zH ([(-1),4]) r251 (fun e253=>κ ((jJ.mk e253 e165.xLo e165.xHi (decide (nt=0))),r252)))) (ifW (decide (r247=1)) (js e165.xHi 1 (fun t255=>κ ((jJ.mk f t255 e165.xHi (decide (nt=0))),r248))) (js (top f) 1 (fun t256=>κ ((jJ.mk f e165.xLo t256 (decide (nt=0))),r248)))))) (κ ((jJ.mk f e165.xLo e165.xHi (decide (nt=0))),r246)))))) (xc b r157 n (fun (r245,r246)=>ifW r245 (zq b r246 3 (fun (r247,r248)=>ifW (decide (r247=0)) (zq b r248 2 (fun (r251,r252)=>zH ([(-1),4]) r251 (fun e253=>κ ((jJ.mk e253 t153 t154 (decide (nt=0))),r252)))) (ifW (decide (r247=1)) (js t154 1 (fun t255=>κ ((jJ.mk f t255 t154 (decide (nt=0))),r248))) (js (top f) 1 (fun t256=>κ ((jJ.mk f t153 t256 (decide (nt=0))),r248)))))) (κ ((jJ.mk f t153 t154 (decide (nt=0))),r246))))):=by
  intro t152 t153 t154 q1 q2 q3 q4
  refine xM (rd _ (by omega) (by omega)) (fun v4 a4 c4=>zo (fun _=>?_) (fun _=>fin _ _ _ (by omega) (by omega) q3 q4))
  refine xM (rd _ (by omega) (by omega)) (fun v5 a5 c5=>yC (by omega) (by simp;omega) (fun y hy=>?_))
  have hb:-9223372036854775808≤y.xHi∧y.xHi≤65536:=by rcases zm4 hy with e | e | e <;> subst e <;> simp only <;> omega
  exact fin _ _ _ (by omega) (by omega) hb.1 hb.2
 refine zo (fun _=>?_) (fun _=>?_)
 ·refine xM (rd _ (by omega) (by omega)) (fun v a c=>?_)
  refine zo (fun _=>?_) (fun _=>mid _ _ _ (by omega) (by omega) s1 s2)
  refine xM (rd _ (by omega) (by omega)) (fun v2 a2 c2=>xM (rd _ (by omega) (by omega)) (fun v3 a3 c3=>?_))
  have hw:w64 (v2+v3)=v2+v3:=zc1 (by omega) (by omega)
  exact mid _ _ _ (by omega) (by omega) (by rw [hw];omega) (by rw [hw];omega)
 ·exact zo (fun e=>by cases e) (fun _=>mid _ _ _ (by omega) (by omega) s1 s2)
end
section
open Go.Lib (decDigits)
def aw (a:Int):List UInt8:=if a=1 then [97,99,99,101,112,116] else if a=2 then [100,114,111,112] else if a=3 then [99,97,108,108] else if a=4 then [114,101,116,117,114,110] else [110,111,110,101]
def TsV (ts:List jJ):Prop:=(∀ t,t∈ts→TV t)∧ts.length≤6
instance (ts:List jJ):Decidable (TsV ts):=by unfold TsV;infer_instance
def HV (a c:Int):Prop:=1≤a∧a≤5∧(a=3→0≤c∧c≤4)∧(a≠3→c=0)
instance (a c:Int):Decidable (HV a c):=by unfold HV;infer_instance
def RV (r:zE):Prop:=TsV r.xTests∧HV r.xAction r.xChain
instance (r:zE):Decidable (RV r):=by unfold RV;infer_instance
def hd (a c:Int):List UInt8:=aw a++(if a=3 then 32 :: decDigits c.toNat else [])
def tl (ts:List jJ):List UInt8:=ts.flatMap (fun t=>44 :: 32 :: ttx t)
theorem VD {ts:List jJ} {κ:Bool→Prop} (hl:ts.length≤4294967296) (h:κ (decide (TsV ts))):ZL ts κ:=by
 unfold ZL
 refine z6 ts.length (fun s=>s) (fun k s=>s=(k:Int)∧k≤ts.length∧∀ t,t∈ts.take k→TV t) (fun k s h=>h.1) (fun k s h=>h.2.1) ?_ ⟨rfl,Nat.zero_le _,by simp⟩
 rintro k _ next ⟨rfl,hk,he⟩ hn
 refine zo (fun hc=>?_) (fun hc=>?_)
 ·have hlt:k<ts.length:=by simpa using hc
  refine zp k rfl hlt (V2 (zo (fun hc2=>?_) (fun hc2=>?_)))
  ·simp at hc2
   rw [decide_eq_false (fun hh:TsV ts=>hc2 (hh.1 _ (List.getElem_mem hlt)))] at h;exact h
  ·simp at hc2
   refine zC (by omega) (by omega) (hn hlt _ ⟨by omega,by omega,fun t ht=>?_⟩)
   rw [List.take_succ_eq_append_getElem hlt] at ht
   rcases List.mem_append.1 ht with ht | ht
   ·exact he t ht
   ·rw [List.mem_singleton] at ht;subst ht;exact hc2
 ·have hge:ts.length≤k:=by simpa using hc
  rw [List.take_of_length_le hge] at he
  rw [show decide ((ts.length:Int)≤6)=decide (TsV ts) from decide_eq_decide.2 ⟨fun hh=>⟨he,by omega⟩,fun hh=>by have:=hh.2;omega⟩]
  exact h
theorem zcK {ts:List jJ} {κ:Bool→Prop} (hl:ts.length≤4294967296) (h:κ (decide (TsV ts))):XM ts κ:=by
 unfold XM
 refine zo (fun hc=>?_) (fun hc=>?_)
 ·rw [decide_eq_false (fun hh:TsV ts=>by have:=hh.2;simp at hc;omega)] at h;exact h
 simp at hc
 refine z6 ts.length (fun s=>s) (fun k s=>s=(k:Int)∧k≤ts.length∧∀ t,t∈ts.take k→TV t) (fun k s h=>h.1) (fun k s h=>h.2.1) ?_ ⟨rfl,Nat.zero_le _,by simp⟩
 rintro k _ next ⟨rfl,hk,he⟩ hn
 refine zo (fun hc=>?_) (fun hc=>?_)
 ·have hlt:k<ts.length:=by simpa using hc
  refine zp k rfl hlt (zcV (zo (fun hc2=>?_) (fun hc2=>?_)))
  ·simp at hc2
   rw [decide_eq_false (fun hh:TsV ts=>hc2 (hh.1 _ (List.getElem_mem hlt)))] at h;exact h
  ·simp at hc2
   refine zC (by omega) (by omega) (hn hlt _ ⟨by omega,by omega,fun t ht=>?_⟩)
   rw [List.take_succ_eq_append_getElem hlt] at ht
   rcases List.mem_append.1 ht with ht | ht
   ·exact he t ht
   ·rw [List.mem_singleton] at ht;subst ht;exact hc2
 ·have hge:ts.length≤k:=by simpa using hc
  rw [List.take_of_length_le hge] at he
  rw [show decide (TsV ts)=true from decide_eq_true ⟨he,by omega⟩] at h;exact h
theorem zdg {r:zE} {κ:Bool→Prop} (hl:r.xTests.length≤4294967296) (h:κ (decide (RV r))):Yk r κ:=by
 have no:¬ RV r→κ false:=fun hn=>by rw [decide_eq_false hn] at h;exact h
 unfold Yk jnW
 refine VD hl (zo (fun h1=>?_) (fun h1=>no (fun hh=>by simp [hh.1] at h1)))
 simp at h1
 refine zaP (zo (fun h2=>?_) (fun h2=>no (fun hh=>by simp [hh.2.1,hh.2.2.1] at h2)))
 simp at h2
 refine zo (fun h3=>?_) (fun h3=>?_)
 ·simp at h3
  refine zaP (zo (fun h4=>?_) (fun h4=>?_))
  ·simp at h4
   rw [show decide (RV r)=true from decide_eq_true ⟨h1,h2.1,h2.2,fun _=>h4,fun e=>absurd h3 e⟩] at h;exact h
  ·simp at h4
   simp only [h3,decide_true,Bool.not_true,zfA]
   exact no (fun hh=>by have:=hh.2.2.2.1 h3;omega)
 ·simp at h3
  simp only [h3,decide_false,Bool.not_false,UU]
  rw [show decide (r.xChain=0)=decide (RV r) from decide_eq_decide.2 ⟨fun hh=>⟨h1,h2.1,h2.2,fun e=>absurd e h3,fun _=>hh⟩,fun hh=>hh.2.2.2.2 h3⟩]
  exact h
theorem zc3 {r:zE} {κ:Bool→Prop} (hl:r.xTests.length≤4294967296) (h:κ (decide (RV r))):X9 r κ:=by
 have no:¬ RV r→κ false:=fun hn=>by rw [decide_eq_false hn] at h;exact h
 unfold X9 jnW
 refine zcK hl (zo (fun h1=>no (fun hh=>by simp [hh.1] at h1)) (fun h1=>?_))
 simp at h1
 refine zo (fun h3=>?_) (fun h3=>?_)
 ·simp at h3
  refine zo (fun h4=>?_) (fun h4=>no (fun hh=>by have:=hh.2.2.2.1 h3;simp at h4;omega))
  simp at h4
  rw [show decide (r.xChain<5)=decide (RV r) from decide_eq_decide.2 ⟨fun hh=>⟨h1,by omega,by omega,fun _=>⟨h4,by omega⟩,fun e=>absurd h3 e⟩,fun hh=>by have:=hh.2.2.2.1 h3;omega⟩]
  exact h
 ·simp at h3
  have yes:1≤r.xAction→r.xAction≤5→κ (decide (r.xChain=0)):=fun a1 a2=>by
   rw [show decide (r.xChain=0)=decide (RV r) from decide_eq_decide.2 ⟨fun hh=>⟨h1,a1,a2,fun e=>absurd e h3,fun _=>hh⟩,fun hh=>hh.2.2.2.2 h3⟩]
   exact h
  by_cases e1:r.xAction=1
  ·simp only [e1,decide_true,UU];exact yes (by omega) (by omega)
  by_cases e2:r.xAction=2
  ·simp only [e2,decide_true,UU];exact zo (fun e=>by simp at e) (fun _=>yes (by omega) (by omega))
  by_cases e4:r.xAction=4
  ·simp only [e4,decide_true,UU]
   exact zo (fun e=>by simp at e) (fun _=>zo (fun e=>by simp at e) (fun _=>yes (by omega) (by omega)))
  by_cases e5:r.xAction=5
  ·simp only [e5,decide_true,UU]
   exact zo (fun e=>by simp at e) (fun _=>zo (fun e=>by simp at e) (fun _=>zo (fun e=>by simp at e) (fun _=>yes (by omega) (by omega))))
  simp only [e1,e2,e4,e5,decide_false,zfA]
  exact no (fun hh=>by have:=hh.2.1;have:=hh.2.2.1;omega)
end
section
open Go.Lib (decDigits)
theorem ze5 {b:List UInt8} {p n:Int} (hb:b.length≤2000) (h0:0≤p) (hp:p≤700000) (hn:n≤4294967296) {κ:List jJ×Int→Prop} (h:∀ ts p',p≤p'→p'≤p+300→ts.length≤8→κ (ts,p')):Zq b p n κ:=by
 have rd:∀ p',p≤p'→p'≤p+300→RdP b p':=fun p' a c=>⟨hb,by omega,by omega⟩
 unfold Zq
 refine xM (rd p (by omega) (by omega)) (fun v a c=>?_)
 refine u6 (fun s=>0≤s.2.2∧s.2.2≤3∧p≤s.1∧s.1≤p+1+50 * (3 - s.2.2)∧s.2.1.length+s.2.2.toNat≤3) (fun s=>s.2.2.toNat) ?_ ⟨a,by simp only;omega,by simp only;omega,by simp only;omega,by simp only [List.length_nil];omega⟩
 rintro ⟨q,xs,k⟩ next ⟨k0,k1,q0,q1,hx⟩ hnx
 simp only at k0 k1 q0 q1 hx
 refine zo (fun hc=>?_) (fun hc=>?_)
 ·simp at hc
  refine zfx hb (by omega) (by omega) (by omega) (fun t p' g1 g2=>jo (by simp;omega) (yJ (by omega) (by omega) (hnx _ ⟨by simp only;omega,by simp only;omega,by simp only;omega,by simp only;omega,by simp;omega⟩ (by simp only;omega))))
 ·simp at hc
  unfold jnW
  refine zd1 (rd _ (by omega) (by omega)) hn (fun o p1 f1 f2=>zo (fun _=>?_) (fun _=>h _ _ (by omega) (by omega) (by omega)))
  refine xM (rd _ (by omega) (by omega)) (fun v2 a2 c2=>zo (fun _=>?_) (fun _=>?_))
  ·exact zfx hb (by omega) (by omega) (by omega) (fun t p' g1 g2=>jo (by simp;omega) (h _ _ (by omega) (by omega) (by simp;omega)))
  ·exact UX 7 rfl (by omega) (by omega) (h _ _ (by omega) (by omega) (by simp))
theorem zfG {b:List UInt8} {p n first chains:Int} (hb:b.length≤2000) (h0:0≤p) (hp:p≤600000) (hn:n≤4294967296) (hf0:0≤first) (hf1:first≤100) (hc0:0≤chains) (hc1:chains≤100) {κ:zE×Int→Prop} (h:∀ r p',p≤p'→p'≤p+700→r.xTests.length≤8→κ (r,p')):XW b p first chains n κ:=by
 have rd:∀ p',p≤p'→p'≤p+700→RdP b p':=fun p' a c=>⟨hb,by omega,by omega⟩
 unfold XW
 refine ze5 hb h0 (by omega) (by omega) (fun ts p1 g1 g2 hts=>xM (rd _ (by omega) (by omega)) (fun v a c=>yC (by omega) (by simp;omega) (fun act _=>?_)))
 unfold jnW
 have fin:∀ (t86 t87 t88:Int),p≤t88→t88≤p+310→xc b t88 n (fun (r90,r91)=>ifW r90 (zq b r91 3 (fun (r92,r93)=>ifW (decide (r92=0)) (zq b r93 2 (fun (r96,r97)=>zH ([0,6]) r96 (fun e98=>κ ((zE.mk ts e98 t87),r97)))) (ifW (decide (r92=1)) (zq b r93 3 (fun (r102,r103)=>zH ([(-1),5,1]) r102 (fun e104=>κ ((zE.mk ts t86 e104),r103)))) (Zq b r93 1 (fun (r106,r109)=>κ ((zE.mk r106 t86 t87),r109)))))) (κ ((zE.mk ts t86 t87),r91))):=by
  intro t86 t87 t88 q1 q2
  refine zd1 (rd _ (by omega) (by omega)) hn (fun o p2 f1 f2=>zo (fun _=>?_) (fun _=>h _ _ (by omega) (by omega) hts))
  refine xM (rd _ (by omega) (by omega)) (fun v2 a2 c2=>zo (fun _=>?_) (fun _=>zo (fun _=>?_) (fun _=>?_)))
  ·exact xM (rd _ (by omega) (by omega)) (fun v3 a3 c3=>yC (by omega) (by simp;omega) (fun x _=>h _ _ (by omega) (by omega) hts))
  ·exact xM (rd _ (by omega) (by omega)) (fun v3 a3 c3=>yC (by omega) (by simp;omega) (fun x _=>h _ _ (by omega) (by omega) hts))
  ·exact ze5 hb (by omega) (by omega) (by omega) (fun ts2 p3 f3 f4 hts2=>h _ _ (by omega) (by omega) hts2)
 refine zo (fun _=>zo (fun _=>fin _ _ _ (by omega) (by omega)) (fun hc=>?_)) (fun _=>fin _ _ _ (by omega) (by omega))
 simp at hc
 refine yJ (by omega) (by omega) (xM (rd _ (by omega) (by omega)) (fun v2 a2 c2=>zC (by omega) (by omega) (fin _ _ _ (by omega) (by omega))))
end
section
def Ca (cs:List (List zE)) (i j:Nat):Prop:=∃ c,cs[i]?=some c∧∃ r,r∈c∧r.xAction=3∧r.xChain=(j:Int)
def Sf (cs:List (List zE)) (i:Nat):Prop:=Acc (fun j i=>Ca cs i j) i
theorem zjB {cs:List (List zE)} {i:Nat} (h:∀ j,Ca cs i j→Sf cs j):Sf cs i:=Acc.intro _ h
inductive Wy (cs:List (List zE)):Nat→Nat→Prop
 | one {i j:Nat}:Ca cs i j→Wy cs i j
 | more {i j k:Nat}:Wy cs i j→Ca cs j k→Wy cs i k
theorem zjU {cs:List (List zE)} {i k:Nat} (w:Wy cs i k):∃ j,Ca cs i j∧(j=k∨Wy cs j k):=by
 induction w with
 | one h=>exact ⟨_,h,.inl rfl⟩
 | more _ h ih =>
  obtain ⟨j,h1,h2⟩:=ih
  rcases h2 with rfl | h2
  ·exact ⟨_,h1,.inr (.one h)⟩
  ·exact ⟨_,h1,.inr (.more h2 h)⟩
theorem zii {cs:List (List zE)} {i:Nat} (hs:Sf cs i):¬ Wy cs i i:=by
 induction hs with
 | intro x _ ih =>
  intro w
  obtain ⟨j,h1,h2⟩:=zjU w
  rcases h2 with rfl | h2
  ·exact ih _ h1 w
  ·exact ih j h1 (.more h2 h1)
def Tg (cs:List (List zE)):Prop:=cs.length≤5∧∀ c,c∈cs→(c.length≤8∧∀ r,r∈c→RV r∧r.xChain<cs.length)
def Tw (cs:List (List zE)):Prop:=cs.length≤5∧∀ c,c∈cs→(c.length≤8∧∀ r,r∈c→RV r)
theorem Tg.w {cs:List (List zE)} (h:Tg cs):Tw cs:=⟨h.1,fun c hc=>⟨(h.2 c hc).1,fun r hr=>((h.2 c hc).2 r hr).1⟩⟩
theorem zmt {cs:List (List zE)} {j:Nat} (h:cs.length≤j):Sf cs j:=zjB (fun i ⟨c,h1,_⟩=>by have:=(List.getElem?_eq_some_iff.1 h1).1;omega)
theorem zfz {rules:List zE} {κ:List Int→Prop} (hl:rules.length≤8) (hv:∀ r,r∈rules→RV r) (h:∀ ys:List Int,ys.length≤5→(∀ x,x∈ys↔∃ r,r∈rules∧r.xAction=3∧r.xChain=x)→κ ys):XO rules κ:=by
 unfold XO
 refine z6 rules.length (fun s=>s.2) (fun k s=>s.2=(k:Int)∧k≤rules.length∧s.1.length=5∧∀ i:Nat,i<5→(s.1[i]?=some true↔∃ r,r∈rules.take k∧r.xAction=3∧r.xChain=(i:Int))) (fun k s h=>h.1) (fun k s h=>h.2.1) ?_ ⟨rfl,Nat.zero_le _,rfl,fun i hi=>?_⟩
 ·rintro k ⟨xs,_⟩ next ⟨rfl,hk,hx,he⟩ hn
  simp only at hx he
  refine zo (fun hc=>?_) (fun hc=>?_)
  ·have hlt:k<rules.length:=by simpa using hc
   have hrv:=hv _ (List.getElem_mem hlt)
   have htk:∀ r,r∈rules.take (k+1)↔r∈rules.take k∨r=rules[k]:=fun r=>by
    rw [List.take_succ_eq_append_getElem hlt,List.mem_append,List.mem_singleton]
   unfold jnW
   refine zp k rfl hlt (zo (fun h3=>?_) (fun h3=>?_))
   ·simp at h3
    have hch:=hrv.2.2.2.1 h3
    obtain ⟨m,hm⟩:=Int.eq_ofNat_of_zero_le hch.1
    refine yC hch.1 (by rw [hx];omega) (fun _ _=>zC (by omega) (by omega) (hn hlt _ ⟨by simp,by omega,by simpa using hx,fun i hi=>?_⟩))
    simp only [htk]
    rw [hm,Int.toNat_natCast]
    by_cases e:i=m
    ·subst e
     simp only [List.getElem?_set_self (show i<xs.length by omega),true_iff]
     exact ⟨_,.inr rfl,h3,hm⟩
    ·rw [List.getElem?_set_ne (by omega),he i hi]
     constructor
     ·rintro ⟨r,h1,h2⟩;exact ⟨r,.inl h1,h2⟩
     ·rintro ⟨r,h1 | rfl,h2,h4⟩
      ·exact ⟨r,h1,h2,h4⟩
      ·omega
   ·simp at h3
    refine zC (by omega) (by omega) (hn hlt _ ⟨by simp,by omega,hx,fun i hi=>?_⟩)
    simp only [htk]
    rw [he i hi]
    constructor
    ·rintro ⟨r,h1,h2⟩;exact ⟨r,.inl h1,h2⟩
    ·rintro ⟨r,h1 | rfl,h2,h4⟩
     ·exact ⟨r,h1,h2,h4⟩
     ·exact absurd h2 h3
  ·have hge:rules.length≤k:=by simpa using hc
   rw [List.take_of_length_le hge] at he
   obtain ⟨e0,e1,e2,e3,e4,rfl⟩:∃ a b c d e,xs=[a,b,c,d,e]:=by
    match xs,hx with
    | [a,b,c,d,e],_=>exact ⟨a,b,c,d,e,rfl⟩
   refine ⟨e0,e1,e2,e3,e4,rfl,?_⟩
   refine z6 5 (fun s=>s.2) (fun j s=>s.2=(j:Int)∧j≤5∧s.1.length≤j∧∀ x,x∈s.1↔∃ i:Nat,i<j∧x=(i:Int)∧[e0,e1,e2,e3,e4][i]?=some true) (fun j s h=>h.1) (fun j s h=>h.2.1) ?_ ⟨rfl,Nat.zero_le _,by simp,by simp⟩
   rintro j ⟨ys,_⟩ next2 ⟨rfl,hj,hyl,hy⟩ hn2
   simp only at hyl hy
   refine zo (fun hc2=>?_) (fun hc2=>?_)
   ·have hj5:j<5:=by simp at hc2;omega
    have hjl:j<[e0,e1,e2,e3,e4].length:=by simpa using hj5
    unfold jnW
    refine zp j rfl hjl (zo (fun h3=>?_) (fun h3=>?_))
    ·refine jo (by simp;omega) (zC (by omega) (by omega) (hn2 hj5 _ ⟨by simp,by omega,by simp;omega,fun x=>?_⟩))
     simp only [List.mem_append,List.mem_singleton,hy]
     constructor
     ·rintro (⟨i,h1,h2,h4⟩ | rfl)
      ·exact ⟨i,by omega,h2,h4⟩
      ·exact ⟨j,by omega,rfl,by rw [List.getElem?_eq_getElem hjl,h3]⟩
     ·rintro ⟨i,h1,h2,h4⟩
      by_cases e:i=j
      ·subst e;exact .inr h2
      ·exact .inl ⟨i,by omega,h2,h4⟩
    ·refine zC (by omega) (by omega) (hn2 hj5 _ ⟨by simp,by omega,by simp only;omega,fun x=>?_⟩)
     simp only [hy]
     constructor
     ·rintro ⟨i,h1,h2,h4⟩;exact ⟨i,by omega,h2,h4⟩
     ·rintro ⟨i,h1,h2,h4⟩
      by_cases e:i=j
      ·subst e;rw [List.getElem?_eq_getElem hjl,h3] at h4;simp at h4
      ·exact ⟨i,by omega,h2,h4⟩
   ·have hj5:j=5:=by simp at hc2;omega
    subst hj5
    refine h ys hyl (fun x=>?_)
    rw [hy]
    constructor
    ·rintro ⟨i,h1,rfl,h4⟩;exact (he i h1).1 h4
    ·rintro ⟨r,h1,h2,rfl⟩
     have hch:=(hv r h1).2.2.2.1 h2
     obtain ⟨m,hm⟩:=Int.eq_ofNat_of_zero_le hch.1
     exact ⟨m,by omega,hm,(he m (by omega)).2 ⟨r,h1,h2,hm⟩⟩
 ·constructor
  ·intro hh
   have:i=0∨i=1∨i=2∨i=3∨i=4:=by omega
   rcases this with rfl | rfl | rfl | rfl | rfl <;> simp at hh
  ·rintro ⟨r,h1,_⟩;simp at h1
def Co (cols:List Int):Prop:=cols.length=5∧∀ x,x∈cols→x=0∨x=1∨x=2
theorem zjS {cols:List Int} {i:Nat} {v:Int} (h:Co cols) (hv:v=0∨v=1∨v=2):Co (cols.set i v):=⟨by rw [List.length_set];exact h.1,fun x hx=>by
 rcases List.mem_or_eq_of_mem_set hx with hx | rfl
 ·exact h.2 x hx
 ·exact hv⟩
structure Vi (cs:List (List zE)) (c:Nat) (cols:List Int) (ok:Bool) (cols':List Int):Prop where
 co:Co cols'
 black:∀ i:Nat,cols[i]?=some 2→cols'[i]?=some 2
 grey:∀ i:Nat,cols'[i]?=some 1↔cols[i]?=some 1
 white:cols'.count 0≤cols.count 0
 good:ok=true→(∀ i:Nat,cols[i]?=some 2→Sf cs i)→(∀ i:Nat,cols'[i]?=some 2→Sf cs i)∧(c<cs.length→cols'[c]?=some 2)
 bad:ok=false→(∀ g:Nat,cols[g]?=some 1→Wy cs g c)→∃ i,i<cs.length∧¬ Sf cs i
theorem zjf {cols:List Int} (h:cols.length=5):cols.count 0≤5:=by have:=List.count_le_length (a:=(0:Int)) (l:=cols);omega
theorem zgV {cs:List (List zE)} (ht:Tw cs):∀ (n c:Nat) (cols:List Int) (κ:Bool×List Int→Prop),Co cols→cols.count 0<n →
  (∀ ok cols',Vi cs c cols ok cols'→κ (ok,cols'))→uX n cs (c:Int) cols κ
 | 0,c,cols,κ,hco,hw,h=>by omega
 | n+1,c,cols,κ,hco,hw,h=>by
  have hn5:=ht.1
  show XG (uX n) cs (c:Int) cols κ
  unfold XG
  refine zo (fun hx=>h _ _ ⟨hco,fun i hi=>hi,fun i=>Iff.rfl,Nat.le_refl _,fun _ hb=>⟨hb,fun hlt=>by simp at hx;omega⟩,fun e=>by cases e⟩) (fun hx=>?_)
  have hc:c<cs.length:=by simp at hx;omega
  have hcl:c<cols.length:=by rw [hco.1];omega
  refine zp c rfl hcl (zo (fun h1=>?_) (fun h1=>zo (fun h2=>?_) (fun h2=>?_)))
  ·have e1:cols[c]?=some 1:=by rw [List.getElem?_eq_getElem hcl];simpa using h1
   exact h _ _ ⟨hco,fun i hi=>hi,fun i=>Iff.rfl,Nat.le_refl _,fun e=>(by cases e),fun _ hg=>⟨c,hc,fun hs=>zii hs (hg c e1)⟩⟩
  ·have e2:cols[c]?=some 2:=by rw [List.getElem?_eq_getElem hcl];simpa using h2
   exact h _ _ ⟨hco,fun i hi=>hi,fun i=>Iff.rfl,Nat.le_refl _,fun _ hb=>⟨hb,fun _=>e2⟩,fun e=>by cases e⟩
  ·have e0:cols[c]=0:=by
    have:=hco.2 _ (List.getElem_mem hcl)
    simp at h1 h2;omega
   have e0':cols[c]?=some 0:=by rw [List.getElem?_eq_getElem hcl,e0]
   have hcs:cs[c]?=some cs[c]:=List.getElem?_eq_getElem hc
   have hch:=ht.2 _ (List.getElem_mem hc)
   refine zp c rfl hcl (zp c rfl hc (zfz hch.1 hch.2 (fun ys hyl hys=>?_)))
   have hca:∀ j:Nat,Ca cs c j↔(j:Int)∈ys:=fun j=>by
    rw [hys]
    constructor
    ·rintro ⟨c',h1,r,h2,h3⟩
     rw [hcs] at h1;cases h1
     exact ⟨r,h2,h3⟩
    ·rintro ⟨r,h2,h3⟩;exact ⟨_,hcs,r,h2,h3⟩
   have hcount:(cols.set c 1).count 0+1=cols.count 0:=by
    rw [List.count_set hcl]
    have:0<cols.count 0:=List.count_pos_iff.2 (by rw [← e0];exact List.getElem_mem hcl)
    simp [e0];omega
   have set1:∀ i:Nat,(cols.set c 1)[i]?=if i=c then some 1 else cols[i]?:=fun i=>by
    by_cases e:i=c
    ·subst e;simp [hcl]
    ·rw [List.getElem?_set_ne (by omega),if_neg e]
   refine z6 ys.length (fun s=>s.2.2) (fun k s=>s.2.2=(k:Int)∧k≤ys.length∧Co s.1∧(∀ i:Nat,cols[i]?=some 2→s.1[i]?=some 2)∧(∀ i:Nat,s.1[i]?=some 1↔(cols.set c 1)[i]?=some 1)∧s.1.count 0≤(cols.set c 1).count 0 ∧
    (s.2.1=true→(∀ i:Nat,cols[i]?=some 2→Sf cs i)→(∀ i:Nat,s.1[i]?=some 2→Sf cs i)∧∀ j:Nat,(j:Int)∈ys.take k→j<cs.length→s.1[j]?=some 2) ∧
    (s.2.1=false→(∀ g:Nat,cols[g]?=some 1→Wy cs g c)→∃ i,i<cs.length∧¬ Sf cs i)) (fun k s h=>h.1) (fun k s h=>h.2.1) ?_
    ⟨rfl,Nat.zero_le _,zjS hco (by simp),fun i hi=>?_,fun i=>Iff.rfl,Nat.le_refl _,fun _ hb=>⟨fun i hi=>?_,by simp⟩,fun e=>by cases e⟩
   ·rintro k ⟨X,ok,_⟩ next ⟨rfl,hk,xco,xb,xg,xw,xgood,xbad⟩ hnx
    simp only at xco xb xg xw xgood xbad
    refine zo (fun hlt=>?_) (fun hlt=>?_)
    ·have hlt:k<ys.length:=by simpa using hlt
     obtain ⟨r,hr,hr3,hrc⟩:=(hys ys[k]).1 (List.getElem_mem hlt)
     have hrv:=hch.2 r hr
     have hcc:=hrv.2.2.2.1 hr3
     obtain ⟨j,hj⟩:=Int.eq_ofNat_of_zero_le hcc.1
     have ej:ys[k]=(j:Int):=by omega
     have hcj:Ca cs c j:=⟨_,hcs,r,hr,hr3,hj⟩
     unfold jnW
     refine zp k rfl hlt ?_
     rw [ej]
     refine zgV ht n j X _ xco (by omega) (fun ok' X' v=>?_)
     have fin:∀ o:Bool,(o=true→ok=true∧ok'=true)→(o=false→ok=false∨ok'=false)→js (k:Int) 1 (fun t93=>next (X',o,t93)):=by
      intro o ho1 ho2
      refine zC (by omega) (by omega) (hnx hlt _ ⟨by simp,by omega,v.co,fun i hi=>v.black i (xb i hi),fun i=>(v.grey i).trans (xg i),Nat.le_trans v.white xw,fun e hb=>?_,fun e hg=>?_⟩)
      ·obtain ⟨g1,g2⟩:=ho1 e
       obtain ⟨q1,q2⟩:=xgood g1 hb
       obtain ⟨q3,q4⟩:=v.good g2 q1
       refine ⟨q3,fun i hi hil=>?_⟩
       rw [List.take_succ_eq_append_getElem hlt,List.mem_append,List.mem_singleton] at hi
       rcases hi with hi | hi
       ·exact v.black i (q2 i hi hil)
       ·have:i=j:=by omega
        subst this;exact q4 hil
      ·rcases ho2 e with e1 | e1
       ·exact xbad e1 hg
       ·refine v.bad e1 (fun g hgx=>?_)
        rw [xg,set1] at hgx
        by_cases e2:g=c
        ·subst e2;exact .one hcj
        ·rw [if_neg e2] at hgx;exact .more (hg g hgx) hcj
     refine zo (fun e=>fin false (fun e=>by cases e) (fun _=>.inr (by simpa using e))) (fun e=>fin ok (fun e1=>⟨e1,by simpa using e⟩) (fun e1=>.inl e1))
    ·have hge:ys.length≤k:=by simpa using hlt
     rw [List.take_of_length_le hge] at xgood
     have hxl:c<X.length:=by rw [xco.1];omega
     have set2:∀ i:Nat,(X.set c 2)[i]?=if i=c then some 2 else X[i]?:=fun i=>by
      by_cases e:i=c
      ·subst e;simp [hxl]
      ·rw [List.getElem?_set_ne (by omega),if_neg e]
     have xc1:X[c]?=some 1:=by rw [xg,set1,if_pos rfl]
     refine zp c rfl hxl ?_
     rw [Int.toNat_natCast]
     refine h _ _ ⟨zjS xco (by simp),fun i hi=>?_,fun i=>?_,?_,fun e hb=>?_,fun e hg=>xbad e hg⟩
     ·rw [set2];split
      ·rfl
      ·exact xb i hi
     ·rw [set2]
      by_cases e:i=c
      ·subst e;rw [if_pos rfl,e0'];simp
      ·rw [if_neg e,xg,set1,if_neg e]
     ·rw [List.count_set hxl]
      have:X[c]=1:=by rw [List.getElem?_eq_getElem hxl] at xc1;exact Option.some.inj xc1
      simp [this];omega
     ·obtain ⟨q1,q2⟩:=xgood e hb
      have sc:Sf cs c:=zjB (fun j hj=>by
       by_cases hjl:j<cs.length
       ·exact q1 j (q2 j ((hca j).1 hj) hjl)
       ·exact zmt (by omega))
      refine ⟨fun i hi=>?_,fun _=>by rw [set2,if_pos rfl]⟩
      rw [set2] at hi
      by_cases e:i=c
      ·subst e;exact sc
      ·rw [if_neg e] at hi;exact q1 i hi
   ·show (cols.set c 1)[i]?=some 2
    rw [set1]
    by_cases e:i=c
    ·subst e;rw [e0'] at hi;simp at hi
    ·rw [if_neg e];exact hi
   ·change (cols.set c 1)[i]?=some 2 at hi
    rw [set1] at hi
    by_cases e:i=c
    ·subst e;simp at hi
    ·rw [if_neg e] at hi;exact hb i hi
theorem zi7 {cs:List (List zE)} {κ:Bool→Prop} (ht:Tw cs) (h1:(∀ i,i<cs.length→Sf cs i)→κ true) (h2:(¬ ∀ i,i<cs.length→Sf cs i)→κ false):Y7 cs κ:=by
 unfold Y7
 have hn5:=ht.1
 refine z6 cs.length (fun s=>s.2) (fun k s=>s.2=(k:Int)∧k≤cs.length∧Co s.1∧(∀ i:Nat,s.1[i]?≠some 1)∧(∀ i:Nat,s.1[i]?=some 2→Sf cs i)∧(∀ i:Nat,i<k→s.1[i]?=some 2)) (fun k s h=>h.1) (fun k s h=>h.2.1) ?_ ⟨rfl,Nat.zero_le _,⟨rfl,by simp⟩,fun i=>?_,fun i hi=>?_,fun i hi=>by omega⟩
 ·rintro k ⟨X,_⟩ next ⟨rfl,hk,xco,xg,xs,xk⟩ hn
  simp only at xco xg xs xk
  refine zo (fun hc=>?_) (fun hc=>?_)
  ·have hlt:k<cs.length:=by simpa using hc
   refine ⟨6,zgV ht 6 k X _ xco (by have:=zjf xco.1;omega) (fun ok X' v=>?_)⟩
   refine zo (fun e=>h2 (fun hall=>?_)) (fun e=>zC (by omega) (by omega) (hn hlt _ ⟨by simp,by omega,v.co,fun i hi=>xg i ((v.grey i).1 hi),(v.good (by simpa using e) xs).1,fun i hi=>?_⟩))
   ·obtain ⟨i,hi,hns⟩:=v.bad (by simpa using e) (fun g hg=>absurd hg (xg g))
    exact hns (hall i hi)
   ·by_cases e2:i=k
    ·subst e2;exact (v.good (by simpa using e) xs).2 hlt
    ·exact v.black i (xk i (by omega))
  ·have hge:cs.length≤k:=by simpa using hc
   exact h1 (fun i hi=>xs i (xk i (by omega)))
 ·have:i=0∨i=1∨i=2∨i=3∨i=4∨5≤i:=by omega
  rcases this with rfl | rfl | rfl | rfl | rfl | h <;> simp
  rw [List.getElem?_eq_none (by simpa using h)];simp
 ·have:i=0∨i=1∨i=2∨i=3∨i=4∨5≤i:=by omega
  rcases this with rfl | rfl | rfl | rfl | rfl | h
  ·simp at hi
  ·simp at hi
  ·simp at hi
  ·simp at hi
  ·simp at hi
  ·rw [List.getElem?_eq_none (by simpa using h)] at hi;cases hi
end
section
def Rdy (cs:List (List zE)) (D:List Bool) (i:Nat):Prop:=∀ j,Ca cs i j→D[j]?=some true
theorem zm5 {cs:List (List zE)} (ht:Tg cs) {i j:Nat} (h:Ca cs i j):i<cs.length∧j<cs.length:=by
 obtain ⟨c,h1,r,h2,h3,h4⟩:=h
 have hm:=List.mem_of_getElem? h1
 have:=(ht.2 c hm).2 r h2
 exact ⟨(List.getElem?_eq_some_iff.1 h1).1,by have:=this.2;omega⟩
theorem zhd {cs:List (List zE)} (ht:Tg cs) {D:List Bool} (hst:∀ i,i<cs.length→Rdy cs D i→D[i]?=some true) {i:Nat} (hs:Sf cs i):i<cs.length→D[i]?=some true:=by
 induction hs with
 | intro x _ ih=>exact fun hx=>hst x hx (fun j hj=>ih j hj (zm5 ht hj).2)
theorem zjc {D:List Bool} (h:∀ i,i<D.length→D[i]?=some true):D.count true=D.length:=by
 rw [List.count_eq_length]
 intro b hb
 obtain ⟨i,hi⟩:=List.getElem?_of_mem hb
 have:=h i (List.getElem?_eq_some_iff.1 hi).1
 rw [hi] at this;exact (Option.some.inj this).symm
theorem zjj {D:List Bool} (h:D.count true=D.length) {i:Nat} (hi:i<D.length):D[i]?=some true:=by
 rw [List.getElem?_eq_getElem hi]
 exact congrArg some (List.count_eq_length.1 h _ (List.getElem_mem hi)).symm
theorem zji {s:zQ} {κ:List Int→Prop} (ht:Tg s.xChains) (h1:(∀ i,i<s.xChains.length→Sf s.xChains i)→∀ ys:List Int,ys.length=s.xChains.length→κ ys) (h2:(¬ ∀ i,i<s.xChains.length→Sf s.xChains i)→∀ ys:List Int,ys.length≠s.xChains.length→κ ys):Y9 s κ:=by
 have hn5:=ht.1
 generalize hcs:s.xChains=cs at *
 unfold Y9
 rw [hcs]
 refine UX cs.length rfl (by omega) (by omega) ?_
 refine z6 cs.length (fun s=>s.2.2) (fun k s=>s.2.2=(k:Int)∧k≤cs.length∧s.1.length=cs.length∧s.2.1.length=s.1.count true∧(∀ i:Nat,s.1[i]?=some true→Sf cs i)∧(k≤s.1.count true∨∀ i,i<cs.length→Rdy cs s.1 i→s.1[i]?=some true)) (fun k s h=>h.1) (fun k s h=>h.2.1) ?_
  ⟨rfl,Nat.zero_le _,by simp,by simp [List.count_replicate],fun i hi=>?_,.inl (Nat.zero_le _)⟩
 ·rintro k ⟨D0,ys0,_⟩ next ⟨rfl,hk,hD0,hy0,hs0,hst0⟩ hnx
  simp only at hD0 hy0 hs0 hst0
  refine zo (fun hc=>?_) (fun hc=>?_)
  ·have hltk:k<cs.length:=by simpa using hc
   refine z6 cs.length (fun s=>s.2.2) (fun m s=>s.2.2=(m:Int)∧m≤cs.length∧s.1.length=cs.length∧s.2.1.length=s.1.count true∧(∀ i:Nat,s.1[i]?=some true→Sf cs i)∧(∀ i:Nat,D0[i]?=some true→s.1[i]?=some true)∧(s.1=D0∨D0.count true<s.1.count true)∧(∀ i,i<m→Rdy cs D0 i→s.1[i]?=some true)) (fun k s h=>h.1) (fun k s h=>h.2.1) ?_
    ⟨rfl,Nat.zero_le _,hD0,hy0,hs0,fun i hi=>hi,.inl rfl,fun i hi=>by omega⟩
   rintro m ⟨D,ys,_⟩ next2 ⟨rfl,hm,hD,hy,hs,hmono,hcnt,hrd⟩ hn2
   simp only at hD hy hs hmono hcnt hrd
   have hDc:D.count true≤5:=by have:=List.count_le_length (a:=true) (l:=D);omega
   refine zo (fun hc2=>?_) (fun hc2=>?_)
   ·have hlt:m<cs.length:=by simpa using hc2
    have hmD:m<D.length:=by omega
    have hch:=ht.2 _ (List.getElem_mem hlt)
    have hcm:cs[m]?=some cs[m]:=List.getElem?_eq_getElem hlt
    unfold jnW
    refine zp m rfl hmD ?_
    refine z6 cs[m].length (fun s=>s.2) (fun j s=>s.2=(j:Int)∧j≤cs[m].length∧(s.1=true↔(D[m]=false∧∀ r,r∈cs[m].take j→r.xAction=3→D[r.xChain.toNat]?=some true))) (fun k s h=>h.1) (fun k s h=>h.2.1) ?_ ⟨rfl,Nat.zero_le _,by simp⟩
    rintro j ⟨fl,_⟩ next3 ⟨rfl,hj,hfl⟩ hn3
    simp only at hfl
    refine zp m rfl hlt (zo (fun hc3=>?_) (fun hc3=>?_))
    ·have hltj:j<cs[m].length:=by simpa using hc3
     have htk:∀ r,r∈cs[m].take (j+1)↔r∈cs[m].take j∨r=cs[m][j]:=fun r=>by
      rw [List.take_succ_eq_append_getElem hltj,List.mem_append,List.mem_singleton]
     have hrv:=hch.2 _ (List.getElem_mem hltj)
     refine zp m rfl hlt (zp j rfl hltj (zo (fun hf=>?_) (fun hf=>?_)))
     ·obtain ⟨f1,f2⟩:=hfl.1 hf
      refine zo (fun h3=>?_) (fun h3=>?_)
      ·refine zC (by omega) (by omega) (hn3 hltj _ ⟨by simp,by omega,⟨fun _=>⟨f1,fun r hr hr3=>?_⟩,fun _=>rfl⟩⟩)
       rcases (htk r).1 hr with hr | rfl
       ·exact f2 r hr hr3
       ·simp at h3;exact absurd hr3 h3
      ·have h3':cs[m][j].xAction=3:=by simpa using h3
       have hcc:=hrv.1.2.2.2.1 h3'
       have hc5:=hrv.2
       obtain ⟨q,hq⟩:=Int.eq_ofNat_of_zero_le hcc.1
       have hqD:q<D.length:=by omega
       refine zp q hq hqD (zC (by omega) (by omega) (hn3 hltj _ ⟨by simp,by omega,⟨fun e=>⟨f1,fun r hr hr3=>?_⟩,fun hh=>?_⟩⟩))
       ·rcases (htk r).1 hr with hr | rfl
        ·exact f2 r hr hr3
        ·rw [hq,Int.toNat_natCast,List.getElem?_eq_getElem hqD];exact congrArg some e
       ·have:=hh.2 _ ((htk _).2 (.inr rfl)) h3'
        rw [hq,Int.toNat_natCast,List.getElem?_eq_getElem hqD] at this
        exact Option.some.inj this
     ·refine zC (by omega) (by omega) (hn3 hltj _ ⟨by simp,by omega,⟨fun e=>(by cases e),fun hh=>?_⟩⟩)
      have:fl=true:=hfl.2 ⟨hh.1,fun r hr hr3=>hh.2 r ((htk r).2 (.inl hr)) hr3⟩
      rw [this] at hf;cases hf
    ·have hge:cs[m].length≤j:=by simpa using hc3
     rw [List.take_of_length_le hge] at hfl
     have rdy_of:∀ D':List Bool,Rdy cs D' m→∀ r,r∈cs[m]→r.xAction=3→D'[r.xChain.toNat]?=some true:=by
      intro D' hh r hr hr3
      have hcc:=(hch.2 r hr).1.2.2.2.1 hr3
      exact hh _ ⟨_,hcm,r,hr,hr3,by omega⟩
     refine zo (fun hf=>?_) (fun hf=>?_)
     ·obtain ⟨f1,f2⟩:=hfl.1 hf
      have hr:Rdy cs D m:=by
       rintro q ⟨c',e1,r,e2,e3,e4⟩
       rw [hcm] at e1;cases e1
       have:=f2 r e2 e3
       rw [e4] at this;simpa using this
      have set1:∀ i:Nat,(D.set m true)[i]?=if i=m then some true else D[i]?:=fun i=>by
       by_cases e:i=m
       ·subst e;simp [hmD]
       ·rw [List.getElem?_set_ne (by omega),if_neg e]
      have hcs':(D.set m true).count true=D.count true+1:=by
       rw [List.count_set hmD];simp [f1]
      refine zp m rfl hmD (jo (by simp;omega) (zC (by omega) (by omega) (hn2 hlt _ ⟨by simp,by omega,by simpa using hD,?_,fun i hi=>?_,fun i hi=>?_,.inr ?_,fun i hi hri=>?_⟩)))
      ·simp only [Int.toNat_natCast,hcs'];simp;omega
      ·simp only [Int.toNat_natCast,set1] at hi
       by_cases e:i=m
       ·subst e;exact zjB (fun j hj=>hs j (hr j hj))
       ·rw [if_neg e] at hi;exact hs i hi
      ·simp only [Int.toNat_natCast,set1];split
       ·rfl
       ·exact hmono i hi
      ·simp only [Int.toNat_natCast,hcs']
       rcases hcnt with rfl | h
       ·omega
       ·omega
      ·simp only [Int.toNat_natCast,set1];split
       ·rfl
       ·exact hrd i (by omega) hri
     ·refine zC (by omega) (by omega) (hn2 hlt _ ⟨by simp,by omega,hD,hy,hs,hmono,hcnt,fun i hi hri=>?_⟩)
      by_cases e:i=m
      ·subst e
       rw [List.getElem?_eq_getElem hmD]
       by_cases hDm:D[i]=false
       ·have:fl=true:=hfl.2 ⟨hDm,fun r hr hr3=>hmono _ (rdy_of D0 hri r hr hr3)⟩
        rw [this] at hf;cases hf
       ·simpa using hDm
      ·exact hrd i (by omega) hri
   ·have hme:m=cs.length:=by simp at hc2;omega
    subst hme
    refine zC (by omega) (by omega) (hnx hltk _ ⟨by simp,by omega,hD,hy,hs,?_⟩)
    rcases hcnt with rfl | hlt2
    ·exact .inr (fun i hi hri=>hrd i hi hri)
    ·rcases hst0 with h0 | h0
     ·exact .inl (by simp only;omega)
     ·refine .inr (fun i hi hri=>?_)
      exfalso
      have hall:∀ i:Nat,D[i]?=some true→D0[i]?=some true:=fun i hi=>zhd ht h0 (hs i hi) (by have:=(List.getElem?_eq_some_iff.1 hi).1;omega)
      have heq:D=D0:=by
       apply List.ext_getElem?
       intro i
       by_cases hi:i<D.length
       ·rw [List.getElem?_eq_getElem hi,List.getElem?_eq_getElem (show i<D0.length by omega)]
        cases hb:D[i] with
        | true =>
         have:=hall i (by rw [List.getElem?_eq_getElem hi,hb])
         rw [List.getElem?_eq_getElem (show i<D0.length by omega)] at this
         exact this.symm
        | false =>
         cases hb0:D0[i]'(by omega) with
         | false=>rfl
         | true =>
          have:=hmono i (by rw [List.getElem?_eq_getElem (show i<D0.length by omega),hb0])
          rw [List.getElem?_eq_getElem hi,hb] at this
          exact this
       ·rw [List.getElem?_eq_none (by omega),List.getElem?_eq_none (by omega)]
      rw [heq] at hlt2;omega
  ·have hge:k=cs.length:=by simp at hc;omega
   subst hge
   have hle:=List.count_le_length (a:=true) (l:=D0)
   by_cases hcn:D0.count true=cs.length
   ·exact h1 (fun i hi=>hs0 i (zjj (by omega) (by omega))) ys0 (by omega)
   ·refine h2 (fun hall=>?_) ys0 (by omega)
    rcases hst0 with h0 | h0
    ·omega
    ·exact hcn ((zjc (fun i hi=>zhd ht h0 (hall i (by omega)) (by omega))).trans hD0)
 ·exfalso
  simp only [List.getElem?_replicate] at hi
  split at hi <;> simp at hi
end
section
open Go.Lib (decDigits)
def RsV (c:List zE):Prop:=c.length≤8∧∀ r,r∈c→RV r
def SV (s:zQ):Prop:=Tg s.xChains∧1≤s.xChains.length∧∀ i,i<s.xChains.length→Sf s.xChains i
def Bc (c:List zE):Prop:=c.length≤4294967296∧∀ r,r∈c→r.xTests.length≤4294967296
def Bd (s:zQ):Prop:=s.xChains.length≤4294967296∧∀ c,c∈s.xChains→Bc c
theorem Vx {α:Type} {l:List α} {k:Nat} (h:k<l.length) (x:α):x∈l.take (k+1)↔x∈l.take k∨x=l[k]:=by
 rw [List.take_succ_eq_append_getElem h,List.mem_append,List.mem_singleton]
theorem zcJ {c:List zE} {κ:Bool→Prop} (hb:Bc c) (h:∀ b,(b=true↔RsV c)→κ b):XE c κ:=by
 have hl:=hb.1
 unfold XE
 refine zo (fun hc=>h _ ⟨fun e=>(by cases e),fun hh=>by have:=hh.1;simp at hc;omega⟩) (fun hc0=>?_)
 simp at hc0
 refine z6 c.length (fun s=>s) (fun k s=>s=(k:Int)∧k≤c.length∧∀ r,r∈c.take k→RV r) (fun k s h=>h.1) (fun k s h=>h.2.1) ?_ ⟨rfl,Nat.zero_le _,by simp⟩
 rintro k _ next ⟨rfl,hk,he⟩ hn
 refine zo (fun hc=>?_) (fun hc=>?_)
 ·have hlt:k<c.length:=by simpa using hc
  refine zp k rfl hlt (zc3 (hb.2 _ (List.getElem_mem hlt)) (zo (fun hc2=>?_) (fun hc2=>?_)))
  ·simp at hc2
   exact h _ ⟨fun e=>(by cases e),fun hh=>absurd (hh.2 _ (List.getElem_mem hlt)) hc2⟩
  ·simp at hc2
   refine zC (by omega) (by omega) (hn hlt _ ⟨by omega,by omega,fun r hr=>?_⟩)
   rcases (Vx hlt r).1 hr with hr | rfl
   ·exact he r hr
   ·exact hc2
 ·have hge:c.length≤k:=by simpa using hc
  rw [List.take_of_length_le hge] at he
  exact h _ ⟨fun _=>⟨by omega,he⟩,fun _=>rfl⟩
theorem zcr {c:List zE} {κ:Bool→Prop} (hb:Bc c) (h:∀ b,(b=true↔RsV c)→κ b):XD c κ:=by
 have hl:=hb.1
 unfold XD
 refine z6 c.length (fun s=>s) (fun k s=>s=(k:Int)∧k≤c.length∧∀ r,r∈c.take k→RV r) (fun k s h=>h.1) (fun k s h=>h.2.1) ?_ ⟨rfl,Nat.zero_le _,by simp⟩
 rintro k _ next ⟨rfl,hk,he⟩ hn
 refine zo (fun hc=>?_) (fun hc=>?_)
 ·have hlt:k<c.length:=by simpa using hc
  refine zp k rfl hlt (zdg (hb.2 _ (List.getElem_mem hlt)) (zo (fun hc2=>?_) (fun hc2=>?_)))
  ·simp at hc2
   exact h _ ⟨fun e=>(by cases e),fun hh=>absurd (hh.2 _ (List.getElem_mem hlt)) hc2⟩
  ·simp at hc2
   refine zC (by omega) (by omega) (hn hlt _ ⟨by omega,by omega,fun r hr=>?_⟩)
   rcases (Vx hlt r).1 hr with hr | rfl
   ·exact he r hr
   ·exact hc2
 ·have hge:c.length≤k:=by simpa using hc
  rw [List.take_of_length_le hge] at he
  exact h _ ⟨fun e=>⟨by simp at e;omega,he⟩,fun hh=>by have:=hh.1;simp;omega⟩
theorem zby {s:zQ} {κ:Bool→Prop} (hb:Bd s) (h:∀ b,(b=true↔SV s)→κ b):ZX s κ:=by
 have hn:=hb.1
 have no:¬ SV s→κ false:=fun hns=>h _ ⟨fun e=>(by cases e),fun hh=>absurd hh hns⟩
 unfold ZX
 refine z6 s.xChains.length (fun s=>s) (fun k t=>t=(k:Int)∧k≤s.xChains.length∧∀ c,c∈s.xChains.take k→RsV c∧∀ r,r∈c→r.xChain<s.xChains.length) (fun k s h=>h.1) (fun k s h=>h.2.1) ?_ ⟨rfl,Nat.zero_le _,by simp⟩
 rintro k _ next ⟨rfl,hk,he⟩ hnx
 refine zo (fun hc=>?_) (fun hc=>?_)
 ·have hlt:k<s.xChains.length:=by simpa using hc
  have hmem:=List.getElem_mem hlt
  have hbc:=hb.2 _ hmem
  have hbl:=hbc.1
  refine zp k rfl hlt (zcr hbc (fun b hbv=>zo (fun hf=>no (fun hh=>?_)) (fun hf=>?_)))
  ·have:b=true:=hbv.2 ⟨(hh.1.2 _ hmem).1,fun r hr=>((hh.1.2 _ hmem).2 r hr).1⟩
   rw [this] at hf;cases hf
  ·have hv:RsV s.xChains[k]:=hbv.1 (by simpa using hf)
   refine z6 s.xChains[k].length (fun s=>s) (fun j t=>t=(j:Int)∧j≤s.xChains[k].length∧∀ r,r∈s.xChains[k].take j→r.xChain<s.xChains.length) (fun k s h=>h.1) (fun k s h=>h.2.1) ?_ ⟨rfl,Nat.zero_le _,by simp⟩
   rintro j _ next2 ⟨rfl,hj,he2⟩ hn2
   refine zp k rfl hlt (zo (fun hc3=>?_) (fun hc3=>?_))
   ·have hltj:j<s.xChains[k].length:=by simpa using hc3
    refine zp k rfl hlt (zp j rfl hltj (zo (fun h3=>no (fun hh=>?_)) (fun h3=>?_)))
    ·have:=((hh.1.2 _ hmem).2 _ (List.getElem_mem hltj)).2
     simp at h3;omega
    ·simp at h3
     refine zC (by omega) (by omega) (hn2 hltj _ ⟨by omega,by omega,fun r hr=>?_⟩)
     rcases (Vx hltj r).1 hr with hr | rfl
     ·exact he2 r hr
     ·omega
   ·have hge:s.xChains[k].length≤j:=by simpa using hc3
    rw [List.take_of_length_le hge] at he2
    refine zC (by omega) (by omega) (hnx hlt _ ⟨by omega,by omega,fun c hc=>?_⟩)
    rcases (Vx hlt c).1 hc with hc | rfl
    ·exact he c hc
    ·exact ⟨hv,he2⟩
 ·have hge:s.xChains.length≤k:=by simpa using hc
  rw [List.take_of_length_le hge] at he
  unfold jnW
  refine zaP (zo (fun h5=>?_) (fun h5=>no (fun hh=>?_)))
  ·simp at h5
   have ht:Tg s.xChains:=⟨by omega,fun c hc=>⟨(he c hc).1.1,fun r hr=>⟨(he c hc).1.2 r hr,(he c hc).2 r hr⟩⟩⟩
   refine zji ht (fun hall ys hy=>h _ ⟨fun _=>⟨ht,by omega,hall⟩,fun _=>by simp;omega⟩) (fun hall ys hy=>h _ ⟨fun e=>absurd (by simp at e;omega) hy,fun hh=>absurd hh.2.2 hall⟩)
  ·have:=hh.1.1;have:=hh.2.1
   simp at h5;omega
theorem Yw {s:zQ} {κ:Bool→Prop} (hb:Bd s) (h:∀ b,(b=true↔SV s)→κ b):u0 s κ:=by
 have no:¬ SV s→κ false:=fun hns=>h _ ⟨fun e=>(by cases e),fun hh=>absurd hh hns⟩
 unfold u0 jnW
 simp only [UU]
 refine zo (fun hc=>no (fun hh=>by have:=hh.2.1;simp at hc;omega)) (fun h1=>zo (fun hc=>no (fun hh=>by have:=hh.1.1;simp at hc;omega)) (fun h5=>?_))
 simp at h1 h5
 refine z6 s.xChains.length (fun s=>s) (fun k t=>t=(k:Int)∧k≤s.xChains.length∧∀ c,c∈s.xChains.take k→RsV c) (fun k s h=>h.1) (fun k s h=>h.2.1) ?_ ⟨rfl,Nat.zero_le _,by simp⟩
 rintro k _ next ⟨rfl,hk,he⟩ hnx
 refine zo (fun hc=>?_) (fun hc=>?_)
 ·have hlt:k<s.xChains.length:=by simpa using hc
  have hmem:=List.getElem_mem hlt
  refine zp k rfl hlt (zcJ (hb.2 _ hmem) (fun b hbv=>zo (fun hf=>no (fun hh=>?_)) (fun hf=>?_)))
  ·have:b=true:=hbv.2 ⟨(hh.1.2 _ hmem).1,fun r hr=>((hh.1.2 _ hmem).2 r hr).1⟩
   rw [this] at hf;cases hf
  ·refine zC (by omega) (by omega) (hnx hlt _ ⟨by omega,by omega,fun c hc=>?_⟩)
   rcases (Vx hlt c).1 hc with hc | rfl
   ·exact he c hc
   ·exact hbv.1 (by simpa using hf)
 ·have hge:s.xChains.length≤k:=by simpa using hc
  rw [List.take_of_length_le hge] at he
  refine z6 s.xChains.length (fun s=>s) (fun k t=>t=(k:Int)∧k≤s.xChains.length∧∀ c,c∈s.xChains.take k→∀ r,r∈c→r.xChain<s.xChains.length) (fun k s h=>h.1) (fun k s h=>h.2.1) ?_ ⟨rfl,Nat.zero_le _,by simp⟩
  rintro m _ next2 ⟨rfl,hm,he2⟩ hn2
  refine zo (fun hc2=>?_) (fun hc2=>?_)
  ·have hlt:m<s.xChains.length:=by simpa using hc2
   have hmem:=List.getElem_mem hlt
   have hv:=he _ hmem
   refine zp m rfl hlt (zfz hv.1 hv.2 (fun ys hyl hys=>?_))
   refine z6 ys.length (fun s=>s) (fun j t=>t=(j:Int)∧j≤ys.length∧∀ x,x∈ys.take j→x<s.xChains.length) (fun k s h=>h.1) (fun k s h=>h.2.1) ?_ ⟨rfl,Nat.zero_le _,by simp⟩
   rintro j _ next3 ⟨rfl,hj,he3⟩ hn3
   refine zo (fun hc3=>?_) (fun hc3=>?_)
   ·have hltj:j<ys.length:=by simpa using hc3
    refine zp j rfl hltj (zo (fun hx=>no (fun hh=>?_)) (fun hx=>?_))
    ·obtain ⟨r,hr,_,hrc⟩:=(hys _).1 (List.getElem_mem hltj)
     have:=((hh.1.2 _ hmem).2 r hr).2
     simp at hx;omega
    ·simp at hx
     refine zC (by omega) (by omega) (hn3 hltj _ ⟨by omega,by omega,fun x hxx=>?_⟩)
     rcases (Vx hltj x).1 hxx with hxx | rfl
     ·exact he3 x hxx
     ·omega
   ·have hgej:ys.length≤j:=by simpa using hc3
    rw [List.take_of_length_le hgej] at he3
    refine zC (by omega) (by omega) (hn2 hlt _ ⟨by omega,by omega,fun c hc=>?_⟩)
    rcases (Vx hlt c).1 hc with hc | rfl
    ·exact he2 c hc
    ·intro r hr
     by_cases h3:r.xAction=3
     ·exact he3 _ ((hys _).2 ⟨r,hr,h3,rfl⟩)
     ·have:=(hv.2 r hr).2.2.2.2 h3
      omega
  ·have hgem:s.xChains.length≤m:=by simpa using hc2
   rw [List.take_of_length_le hgem] at he2
   have ht:Tg s.xChains:=⟨by omega,fun c hc=>⟨(he c hc).1,fun r hr=>⟨(he c hc).2 r hr,he2 c hc r hr⟩⟩⟩
   exact zi7 ht.w (fun hall=>h _ ⟨fun _=>⟨ht,by omega,hall⟩,fun _=>rfl⟩) (fun hall=>h _ ⟨fun e=>(by cases e),fun hh=>absurd hh.2.2 hall⟩)
end
section
open Go Go.Proofs
theorem X6 (a b:List zg):(Xf a b).2=false↔ja a b=[]:=by
 unfold Xf
 cases ja a b <;> simp
def fpk (a b:za):zI×Bool:=if em4 (uL a b) then (⟨0,0,0,0⟩,false) else (⟨(Xf a.x0 b.x0).1,(Xf a.x1 b.x1).1,(Xf a.x2 b.x2).1,(Xf a.x3 b.x3).1⟩,true)
theorem zd9 {a b:za} (ha:B4 a) (hb:B4 b) {κ:zI×Bool→Prop} (h:κ (fpk a b)):yj a b κ:=by
 obtain ⟨a0,a1,a2,a3⟩:=a
 obtain ⟨b0,b1,b2,b3⟩:=b
 obtain ⟨p0,p1,p2,p3⟩:=ha
 obtain ⟨q0,q1,q2,q3⟩:=hb
 simp only at p0 p1 p2 p3 q0 q1 q2 q3
 have hF:ja a0 b0=[]∨ja a1 b1=[]∨ja a2 b2=[]∨ja a3 b3=[]→κ (⟨0,0,0,0⟩,false):=fun e=>by
  have:fpk ⟨a0,a1,a2,a3⟩ ⟨b0,b1,b2,b3⟩=(⟨0,0,0,0⟩,false):=if_pos (decide_eq_true e)
  rw [this] at h;exact h
 have hT:¬ (ja a0 b0=[]∨ja a1 b1=[]∨ja a2 b2=[]∨ja a3 b3=[])→κ (⟨(Xf a0 b0).1,(Xf a1 b1).1,(Xf a2 b2).1,(Xf a3 b3).1⟩,true):=fun e=>by
  have:fpk ⟨a0,a1,a2,a3⟩ ⟨b0,b1,b2,b3⟩=(⟨(Xf a0 b0).1,(Xf a1 b1).1,(Xf a2 b2).1,(Xf a3 b3).1⟩,true):=if_neg (by rw [show em4 (uL ⟨a0,a1,a2,a3⟩ ⟨b0,b1,b2,b3⟩)=false from decide_eq_false e];decide)
  rw [this] at h;exact h
 clear h
 unfold yj
 refine ⟨5,?_⟩
 refine jA ?_
 unfold jnW
 refine zp 0 rfl (by simp) (zp 0 rfl (by simp) (UL p0 q0 (by decide) (by decide) (by decide) (by decide) ?_))
 simp only [List.getElem_cons_zero,List.getElem_cons_succ]
 refine zo (fun e=>hF (.inl ((X6 _ _).1 (by simpa using e)))) (fun e=>?_)
 have e0:ja a0 b0≠[]:=fun f=>by have:=(X6 _ _).2 f;simp [this] at e
 refine zp 0 rfl (by simp) (zC (by decide) (by decide) ?_)
 refine jA ?_
 refine zp 1 rfl (by simp) (zp 1 rfl (by simp) (UL p1 q1 (by decide) (by decide) (by decide) (by decide) ?_))
 simp only [List.getElem_cons_zero,List.getElem_cons_succ]
 refine zo (fun e=>hF (.inr (.inl ((X6 _ _).1 (by simpa using e))))) (fun e=>?_)
 have e1:ja a1 b1≠[]:=fun f=>by have:=(X6 _ _).2 f;simp [this] at e
 refine zp 1 rfl (by simp) (zC (by decide) (by decide) ?_)
 refine jA ?_
 refine zp 2 rfl (by simp) (zp 2 rfl (by simp) (UL p2 q2 (by decide) (by decide) (by decide) (by decide) ?_))
 simp only [List.getElem_cons_zero,List.getElem_cons_succ]
 refine zo (fun e=>hF (.inr (.inr (.inl ((X6 _ _).1 (by simpa using e)))))) (fun e=>?_)
 have e2:ja a2 b2≠[]:=fun f=>by have:=(X6 _ _).2 f;simp [this] at e
 refine zp 2 rfl (by simp) (zC (by decide) (by decide) ?_)
 refine jA ?_
 refine zp 3 rfl (by simp) (zp 3 rfl (by simp) (UL p3 q3 (by decide) (by decide) (by decide) (by decide) ?_))
 simp only [List.getElem_cons_zero,List.getElem_cons_succ]
 refine zo (fun e=>hF (.inr (.inr (.inr ((X6 _ _).1 (by simpa using e)))))) (fun e=>?_)
 have e3:ja a3 b3≠[]:=fun f=>by have:=(X6 _ _).2 f;simp [this] at e
 refine zp 3 rfl (by simp) (zC (by decide) (by decide) ?_)
 refine xi ?_
 refine ⟨_,_,_,_,rfl,?_⟩
 unfold UZ
 refine zp 0 rfl (by simp) (zp 1 rfl (by simp) (zp 2 rfl (by simp) (zp 3 rfl (by simp) ?_)))
 exact hT (by rintro (f | f | f | f) <;> contradiction)
theorem zkG (a b:za):(fpk a b).2=!em4 (uL a b):=by
 unfold fpk;cases em4 (uL a b) <;> simp
theorem zfU {a b:za} (ha:B4 a) (hb:B4 b) {κ:Bool→Prop} (h:κ (!em4 (uL a b))):yk a b κ:=by
 unfold yk
 refine zd9 ha hb ?_
 rw [← zkG] at h;exact h
theorem zeD {κ:za→Prop} (h:κ za8):Xq κ:=by
 unfold Xq
 refine ⟨5,?_⟩
 refine jA (ZH (n:=(0:Int)) (by decide) (by decide) (zp 0 rfl (by simp) (zC (by decide) (by decide) ?_)))
 refine jA (ZH (n:=(1:Int)) (by decide) (by decide) (zp 1 rfl (by simp) (zC (by decide) (by decide) ?_)))
 refine jA (ZH (n:=(2:Int)) (by decide) (by decide) (zp 2 rfl (by simp) (zC (by decide) (by decide) ?_)))
 refine jA (ZH (n:=(3:Int)) (by decide) (by decide) (zp 3 rfl (by simp) (zC (by decide) (by decide) ?_)))
 refine xi ?_
 exact ⟨_,_,_,_,rfl,h⟩
def xJ (a b:List zg) (t:Int):List zg:=ja a (yV b t)
def zfy (a b:za):za:=⟨xJ a.x0 b.x0 65535,xJ a.x1 b.x1 65535,xJ a.x2 b.x2 255,xJ a.x3 b.x3 7⟩
def in4 (a b:za):Bool:=em4 a || decide (zfy a b=zda)
theorem zhj {a b:za} (ha:B4 a) (hb:B4 b) {κ:Bool→Prop} (h:κ (in4 a b)):yB a b κ:=by
 unfold yB
 refine zex (zo (fun e=>?_) (fun e=>?_))
 ·unfold in4 at h;rw [e] at h;exact h
 unfold in4 at h;rw [e,Bool.false_or] at h
 clear e
 obtain ⟨a0,a1,a2,a3⟩:=a
 obtain ⟨b0,b1,b2,b3⟩:=b
 obtain ⟨p0,p1,p2,p3⟩:=ha
 obtain ⟨q0,q1,q2,q3⟩:=hb
 simp only at p0 p1 p2 p3 q0 q1 q2 q3
 have hT:xJ a0 b0 65535=[]→xJ a1 b1 65535=[]→xJ a2 b2 255=[]→xJ a3 b3 7=[]→κ true:=fun e0 e1 e2 e3=>by
  rw [decide_eq_true (by simp only [zfy,zda,e0,e1,e2,e3])] at h;exact h
 have hF:¬ (xJ a0 b0 65535=[]∧xJ a1 b1 65535=[]∧xJ a2 b2 255=[]∧xJ a3 b3 7=[])→κ false:=fun e=>by
  rw [decide_eq_false (fun f=>e (by simpa only [zfy,zda,za.mk.injEq] using f))] at h;exact h
 clear h
 refine ⟨5,?_⟩
 refine jA ?_
 unfold jnW
 refine zp 0 rfl (by simp) (zp 0 rfl (by simp) (ZH (n:=(0:Int)) (by decide) (by decide) (YH (top:=top 0) p0 q0 (by decide) (by decide) (zo (fun e=>hF (fun f=>?_)) (fun e=>zC (by decide) (by decide) ?_)))))
 ·have:=f.1;unfold xJ at this;simp [this,zm8] at e
 have e0:xJ a0 b0 65535=[]:=by simpa [xJ,zm8] using e
 refine jA ?_
 refine zp 1 rfl (by simp) (zp 1 rfl (by simp) (ZH (n:=(1:Int)) (by decide) (by decide) (YH (top:=top 1) p1 q1 (by decide) (by decide) (zo (fun e=>hF (fun f=>?_)) (fun e=>zC (by decide) (by decide) ?_)))))
 ·have:=f.2.1;unfold xJ at this;simp [this,zmK] at e
 have e1:xJ a1 b1 65535=[]:=by simpa [xJ,zmK] using e
 refine jA ?_
 refine zp 2 rfl (by simp) (zp 2 rfl (by simp) (ZH (n:=(2:Int)) (by decide) (by decide) (YH (top:=top 2) p2 q2 (by decide) (by decide) (zo (fun e=>hF (fun f=>?_)) (fun e=>zC (by decide) (by decide) ?_)))))
 ·have:=f.2.2.1;unfold xJ at this;simp [this,zmS] at e
 have e2:xJ a2 b2 255=[]:=by simpa [xJ,zmS] using e
 refine jA ?_
 refine zp 3 rfl (by simp) (zp 3 rfl (by simp) (ZH (n:=(3:Int)) (by decide) (by decide) (YH (top:=top 3) p3 q3 (by decide) (by decide) (zo (fun e=>hF (fun f=>?_)) (fun e=>zC (by decide) (by decide) ?_)))))
 ·have:=f.2.2.2;unfold xJ at this;simp [this,zmR] at e
 have e3:xJ a3 b3 7=[]:=by simpa [xJ,zmR] using e
 exact xi (hT e0 e1 e2 e3)
end
section
open Go Go.Proofs
instance (l:List zg):Decidable (NF l):=by unfold NF;infer_instance
instance (l:List zg) (t:Int):Decidable (St l t):=by unfold St;infer_instance
theorem zeF:∀ {ys:List zg},(∀ s∈ys,s.xLo≤s.xHi)→(ys.Pairwise (fun a b=>a.xHi+1<b.xLo)↔∀ n,(h:n+1<ys.length)→ys[n].xHi+1<ys[n+1].xLo)
 | [],_=>by simp
 | [s],_=>by simp
 | s :: t :: ys,h=>by
  have ih:=zeF (ys:=t :: ys) (fun u hu=>h u (List.mem_cons_of_mem _ hu))
  rw [List.pairwise_cons,ih]
  constructor
  ·rintro ⟨h1,h2⟩ n hn
   cases n with
   | zero=>exact h1 t (by simp)
   | succ n=>exact h2 n (by simpa using hn)
  ·intro hh
   have h0:=hh 0 (by simp)
   have h2:∀ n,(h:n+1<(t :: ys).length)→(t :: ys)[n].xHi+1<(t :: ys)[n+1].xLo:=fun n hn=>hh (n+1) (by simpa using hn)
   refine ⟨fun u hu=>?_,h2⟩
   rcases List.mem_cons.1 hu with e | e
   ·subst e;exact h0
   ·have:=(List.pairwise_cons.1 (ih.2 h2)).1 u e
    have:=h t (by simp)
    simp only [List.getElem_cons_zero,List.getElem_cons_succ] at h0
    omega
theorem zgP {l:List zg} {top:Int}:St l top↔(∀ n,(h:n<l.length)→0≤l[n].xLo∧l[n].xLo≤l[n].xHi∧l[n].xHi≤top)∧∀ n,(h:n+1<l.length)→l[n].xHi+1<l[n+1].xLo:=by
 constructor
 ·rintro ⟨⟨h1,h2⟩,h3⟩
  exact ⟨fun n hn=>by have:=h1 _ (List.getElem_mem hn);have:=h3 _ (List.getElem_mem hn);omega,(zeF h1).1 h2⟩
 ·rintro ⟨h1,h2⟩
  have h3:∀ s∈l,0≤s.xLo∧s.xLo≤s.xHi∧s.xHi≤top:=fun s hs=>by
   obtain ⟨n,hn,e⟩:=List.getElem_of_mem hs
   rw [← e];exact h1 n hn
  exact ⟨⟨fun s hs=>(h3 s hs).2.1,(zeF (fun s hs=>(h3 s hs).2.1)).2 h2⟩,fun s hs=>⟨(h3 s hs).1,(h3 s hs).2.2⟩⟩
def SpV (l:List zg) (top:Int):Prop:=l.length≤40∧St l top
instance (l:List zg) (t:Int):Decidable (SpV l t):=by unfold SpV;infer_instance
theorem Uc {l:List zg} {top:Int} (hl:l.length≤4294967296) (h0:0≤top) (ht:top≤65535) {κ:Bool→Prop} (h:κ (decide (SpV l top))):yv l top κ:=by
 unfold yv
 refine z6 l.length (fun s=>s) (fun k s=>s=(k:Int)∧k≤l.length∧(∀ n,(h:n<l.length)→n<k→0≤l[n].xLo∧l[n].xLo≤l[n].xHi∧l[n].xHi≤top)∧∀ n,(h:n+1<l.length)→n+1<k→l[n].xHi+1<l[n+1].xLo) (fun k s h=>h.1) (fun k s h=>h.2.1) ?_ ⟨rfl,Nat.zero_le _,fun n _ h=>by omega,fun n _ h=>by omega⟩
 rintro k _ next ⟨rfl,hk,h1,h2⟩ hn
 refine zo (fun hc=>?_) (fun hc=>?_)
 ·have hlt:k<l.length:=by simpa using hc
  have no:¬ (0≤l[k].xLo∧l[k].xLo≤l[k].xHi∧l[k].xHi≤top∧∀ j,(hj:j+1<l.length)→j+1=k→l[j].xHi+1<l[j+1].xLo)→κ false:=fun hh=>by
   rw [decide_eq_false (fun hs=>hh ?_)] at h
   ·exact h
   ·obtain ⟨e1,e2⟩:=zgP.1 hs.2
    exact ⟨(e1 k hlt).1,(e1 k hlt).2.1,(e1 k hlt).2.2,fun j hj _=>e2 j hj⟩
  have yes:(0≤l[k].xLo∧l[k].xLo≤l[k].xHi∧l[k].xHi≤top∧∀ j,(hj:j+1<l.length)→j+1=k→l[j].xHi+1<l[j+1].xLo)→js (k:Int) 1 (fun t=>next t):=fun ⟨q1,q2,q3,q4⟩ =>
   zC (by omega) (by omega) (hn hlt _ ⟨by simp,by omega,fun n hn hnk=>by
    by_cases e:n=k
    ·subst e;exact ⟨q1,q2,q3⟩
    ·exact h1 n hn (by omega),fun n hn hnk=>by
    by_cases e:n+1=k
    ·exact q4 n hn e
    ·exact h2 n hn (by omega)⟩)
  unfold jnW
  refine zp k rfl hlt (zp k rfl hlt (zaP (zo (fun e=>jA (no (fun f=>?_))) (fun e=>?_))))
  ·simp at e;omega
  simp at e
  refine zp k rfl hlt (zaP (zo (fun e2=>jA (no (fun f=>?_))) (fun e2=>?_)))
  ·simp at e2;omega
  simp at e2
  refine zo (fun e3=>?_) (fun e3=>?_)
  ·have hk0:0<k:=by simpa using e3
   have hp:=h1 (k - 1) (by omega) (by omega)
   refine zp k rfl hlt (yJ (by omega) (by omega) (zp (k - 1) (by omega) (by omega) (zC (by omega) (by omega) (zo (fun e4=>no (fun f=>?_)) (fun e4=>yes ⟨by omega,by omega,by omega,fun j hj hjk=>?_⟩)))))
   ·have:=f.2.2.2 (k - 1) (by omega) (by omega)
    simp at e4
    have ee:k - 1+1=k:=by omega
    simp only [ee] at this
    omega
   ·simp at e4
    obtain rfl:j=k - 1:=by omega
    have ee:k - 1+1=k:=by omega
    simp only [ee]
    omega
  ·have hk0:k=0:=by simpa using e3
   exact xi (yes ⟨by omega,by omega,by omega,fun j hj hjk=>by omega⟩)
 ·have hge:l.length≤k:=by simpa using hc
  have hs:St l top:=zgP.2 ⟨fun n hn=>h1 n hn (by omega),fun n hn=>h2 n hn (by omega)⟩
  unfold jnW
  refine zaP (zo (fun e=>?_) (fun e=>by simp at e;omega))
  rw [show decide (SpV l top)=decide ((l.length:Int)≤40) from decide_eq_decide.2 ⟨fun q=>by have:=q.1;omega,fun q=>⟨by omega,hs⟩⟩] at h
  exact h
theorem zeT {t:Int} {κ:Bool→Prop} (h0:0≤t) (ht:t≤65535) (h:κ true):YK t κ:=by
 unfold YK jnW
 rw [decide_eq_true h0,decide_eq_true ht]
 exact jA h
theorem zch {l:List zg} {top:Int} (hl:l.length≤9223372036854775807) (h0:0≤top) (ht:top≤65535) {κ:Bool→Prop} (h:κ (decide (SpV l top))):XB l top κ:=by
 unfold XB jnW
 refine zeT h0 ht (xi (zo (fun e=>?_) (fun e=>?_)))
 ·rw [decide_eq_false (fun q=>by have:=q.1;simp at e;omega)] at h;exact h
 have h40:l.length≤40:=by simp at e;omega
 refine z6 l.length (fun s=>s.2) (fun k (s:Int×Int)=>s.2=(k:Int)∧k≤l.length∧(∀ n,(h:n<l.length)→n<k→0≤l[n].xLo∧l[n].xLo≤l[n].xHi∧l[n].xHi≤top)∧(∀ n,(h:n+1<l.length)→n+1<k→l[n].xHi+1<l[n+1].xLo)∧(k=0→s.1=-2)∧(∀ n,(h:n<l.length)→n+1=k→s.1=l[n].xHi)) (fun k s h=>h.1) (fun k s h=>h.2.1) ?_ ⟨rfl,Nat.zero_le _,fun n _ h=>by omega,fun n _ h=>by omega,fun _=>rfl,fun n _ h=>by omega⟩
 rintro k ⟨a,_⟩ next ⟨rfl,hk,h1,h2,h3,h4⟩ hn
 simp only at h3 h4
 have ha:-2≤a∧a≤65535:=by
  by_cases e:k=0
  ·have:=h3 e;omega
  ·have:=h4 (k - 1) (by omega) (by omega);have:=h1 (k - 1) (by omega) (by omega);omega
 refine zo (fun hc=>?_) (fun hc=>?_)
 ·have hlt:k<l.length:=by simpa using hc
  have no:¬ (a+1<l[k].xLo∧l[k].xLo≤l[k].xHi∧l[k].xHi≤top)→κ false:=fun hh=>by
   rw [decide_eq_false (fun hs=>hh ?_)] at h
   ·exact h
   ·obtain ⟨e1,e2⟩:=zgP.1 hs.2
    have q:=e1 k hlt
    refine ⟨?_,q.2.1,q.2.2⟩
    by_cases e:k=0
    ·have:=h3 e;omega
    ·obtain ⟨j,rfl⟩:∃ j,k=j+1:=⟨k - 1,by omega⟩
     have:=h4 j (by omega) rfl
     have:=e2 j hlt
     omega
  refine zp k rfl hlt (zC (by omega) (by omega) (zo (fun e=>jA (no (fun f=>by simp at e;omega))) (fun e=>zo (fun e2=>jA (no (fun f=>by simp at e2;omega))) (fun e2=>zo (fun e3=>no (fun f=>by simp at e3;omega)) (fun e3=>?_)))))
  simp at e e2 e3
  have lo:0≤l[k].xLo:=by
   by_cases q:k=0
   ·have:=h3 q;omega
   ·have:=h4 (k - 1) (by omega) (by omega);have:=h1 (k - 1) (by omega) (by omega);omega
  refine zC (by omega) (by omega) (hn hlt _ ⟨by simp,by omega,fun n hn hnk=>?_,fun n hn hnk=>?_,fun f=>by omega,fun n hn hnk=>?_⟩)
  ·by_cases q:n=k
   ·subst q;exact ⟨lo,e2,e3⟩
   ·exact h1 n hn (by omega)
  ·by_cases q:n+1=k
   ·subst q
    have:=h4 n (by omega) rfl
    omega
   ·exact h2 n hn (by omega)
  ·obtain rfl:n=k:=by omega
   rfl
 ·have hge:l.length≤k:=by simpa using hc
  have hs:St l top:=zgP.2 ⟨fun n hn=>h1 n hn (by omega),fun n hn=>h2 n hn (by omega)⟩
  rw [decide_eq_true (show SpV l top from ⟨h40,hs⟩)] at h
  exact h
instance (l:List zg) (x:Int):Decidable (hv l x):=by unfold hv;infer_instance
theorem zdh {l:List zg} {x:Int} (hl:l.length≤4294967296) {κ:Bool→Prop} (h:κ (decide (hv l x))):yO l x κ:=by
 unfold yO
 refine z6 l.length (fun s=>s) (fun k s=>s=(k:Int)∧k≤l.length∧¬ hv (l.take k) x) (fun k s h=>h.1) (fun k s h=>h.2.1) ?_ ⟨rfl,Nat.zero_le _,by simp [hv]⟩
 rintro k _ next ⟨rfl,hk,hno⟩ hn
 refine zo (fun hc=>?_) (fun hc=>?_)
 ·have hlt:k<l.length:=by simpa using hc
  unfold jnW
  have go:¬ (l[k].xLo≤x∧x≤l[k].xHi)→js (k:Int) 1 (fun t=>next t):=fun hh=>zC (by omega) (by omega) (hn hlt _ ⟨by simp,by omega,by
   rw [List.take_succ_eq_append_getElem hlt,Vh,xY]
   rintro (q | q | q)
   ·exact hno q
   ·exact hh q
   ·exact uN _ q⟩)
  refine zp k rfl hlt (zo (fun e=>zo (fun e2=>?_) (fun e2=>go (fun f=>by simp [f.2] at e2))) (fun e=>xi (go (fun f=>by simp [f.1] at e))))
  rw [decide_eq_true (show hv l x from ⟨_,List.getElem_mem hlt,by simpa using e,by simpa using e2⟩)] at h
  exact h
 ·have hge:l.length≤k:=by simpa using hc
  rw [List.take_of_length_le hge] at hno
  rw [decide_eq_false hno] at h;exact h
end
section
open Go Go.Proofs
def bx (a:za):ji:=⟨[a.x0,a.x1,a.x2,a.x3]⟩
theorem zak {a:za} {κ:Bool→Prop} (h:κ (em4 a)):yy (bx a) κ:=by
 obtain ⟨x0,x1,x2,x3⟩:=a
 simp only [em4] at h
 unfold yy
 refine ⟨5,?_⟩
 refine jA (zp 0 rfl (by simp [bx]) (zo (fun e=>?_) (fun e=>zC (by decide) (by decide) ?_)))
 ·have:x0=[]:=by simpa [bx] using e
  subst this;simpa using h
 have e0:x0≠[]:=by simpa [bx] using e
 refine jA (zp 1 rfl (by simp [bx]) (zo (fun e=>?_) (fun e=>zC (by decide) (by decide) ?_)))
 ·have:x1=[]:=by simpa [bx] using e
  subst this;simpa using h
 have e1:x1≠[]:=by simpa [bx] using e
 refine jA (zp 2 rfl (by simp [bx]) (zo (fun e=>?_) (fun e=>zC (by decide) (by decide) ?_)))
 ·have:x2=[]:=by simpa [bx] using e
  subst this;simpa using h
 have e2:x2≠[]:=by simpa [bx] using e
 refine jA (zp 3 rfl (by simp [bx]) (zo (fun e=>?_) (fun e=>zC (by decide) (by decide) ?_)))
 ·have:x3=[]:=by simpa [bx] using e
  subst this;simpa using h
 have e3:x3≠[]:=by simpa [bx] using e
 refine xi ?_
 simpa [e0,e1,e2,e3] using h
theorem zfS {a b:za} (ha:B4 a) (hb:B4 b) {κ:ji→Prop} (h:κ (bx (uL a b))):XP (bx a) (bx b) κ:=by
 obtain ⟨p0,p1,p2,p3⟩:=ha
 obtain ⟨q0,q1,q2,q3⟩:=hb
 unfold XP
 refine ⟨5,?_⟩
 refine jA ?_
 unfold jnW
 refine zp 0 rfl (by simp [bx]) (zp 0 rfl (by simp [bx]) (Z6 p0 q0 (by decide) (by decide) (by decide) (by decide) (jo (by simp) (zC (by decide) (by decide) ?_))))
 refine jA ?_
 refine zp 1 rfl (by simp [bx]) (zp 1 rfl (by simp [bx]) (Z6 p1 q1 (by decide) (by decide) (by decide) (by decide) (jo (by simp) (zC (by decide) (by decide) ?_))))
 refine jA ?_
 refine zp 2 rfl (by simp [bx]) (zp 2 rfl (by simp [bx]) (Z6 p2 q2 (by decide) (by decide) (by decide) (by decide) (jo (by simp) (zC (by decide) (by decide) ?_))))
 refine jA ?_
 refine zp 3 rfl (by simp [bx]) (zp 3 rfl (by simp [bx]) (Z6 p3 q3 (by decide) (by decide) (by decide) (by decide) (jo (by simp) (zC (by decide) (by decide) ?_))))
 exact xi h
theorem zhk {κ:ji→Prop} (h:κ (bx za8)):Yy κ:=by
 unfold Yy
 refine ⟨5,?_⟩
 refine jA ?_
 unfold jnW
 refine xO (n:=(0:Int)) (by decide) (by decide) (jo (by simp) (zC (by decide) (by decide) ?_))
 refine jA ?_
 refine xO (n:=(1:Int)) (by decide) (by decide) (jo (by simp) (zC (by decide) (by decide) ?_))
 refine jA ?_
 refine xO (n:=(2:Int)) (by decide) (by decide) (jo (by simp) (zC (by decide) (by decide) ?_))
 refine jA ?_
 refine xO (n:=(3:Int)) (by decide) (by decide) (jo (by simp) (zC (by decide) (by decide) ?_))
 exact xi h
theorem yx {l:List (List zg)} (hl:l.length≤4294967296) (hl2:∀ x∈l,x.length≤4294967296) {κ:List (List zg)→Prop} (h:κ l):ud l κ:=by
 unfold ud
 refine z6 l.length (fun s=>s.2) (fun k s=>s.2=(k:Int)∧k≤l.length∧s.1=l.take k) (fun k s h=>h.1) (fun k s h=>h.2.1) ?_ ⟨rfl,Nat.zero_le _,by simp⟩
 rintro k ⟨xs,t⟩ next ⟨rfl,hk,hx⟩ hn
 simp only at hx
 subst hx
 refine zo (fun hc=>?_) (fun hc=>?_)
 ·have hlt:k<l.length:=by simpa using hc
  have:=hl2 _ (List.getElem_mem hlt)
  refine zp k rfl hlt (jo (by simp;omega) (jo (by simp only [List.length_take,List.length_singleton];omega) (zC (by omega) (by omega) (hn hlt _ ⟨by simp,by omega,?_⟩))))
  rw [List.take_succ_eq_append_getElem hlt];rfl
 ·have hge:l.length≤k:=by simpa using hc
  rw [List.take_of_length_le hge];exact h
end
section
open Go Go.Proofs
def tsp (t:jJ):List zg:=if t.xNot then yV [zg.mk t.xLo t.xHi] (top t.xField) else [zg.mk t.xLo t.xHi]
theorem zf7 {lo hi t:Int} (h0:0≤lo) (h1:lo≤hi) (h2:hi≤t):St [zg.mk lo hi] t:=⟨Vl h1,fun s hs=>by simp only [List.mem_singleton] at hs;subst hs;exact ⟨h0,h2⟩⟩
theorem zew {t:jJ} (h:TV t):St (tsp t) (top t.xField):=by
 obtain ⟨h1,h2,h3,h4,h5⟩:=h
 unfold tsp
 split
 ·exact Y2 (zf7 h3 h4 h5)
 ·exact zf7 h3 h4 h5
theorem zkc (lo hi t:Int):yV [zg.mk lo hi] t=(if 0<lo then [zg.mk 0 (lo - 1)] else [])++(if hi+1≤t then [zg.mk (hi+1) t] else []):=rfl
theorem ziq (t:jJ):(tsp t).length≤2:=by
 unfold tsp
 split
 ·rw [zkc];simp only [List.length_append]
  split <;> split <;> simp
 ·simp
theorem zfJ (a:List zg) (y:zg):(ja a [y]).length≤a.length:=by
 induction a with
 | nil=>simp [ja]
 | cons x a ih =>
  have e:ja (x :: a) [y]=YQ x y++ja a [y]:=by simp [ja]
  have h1:(YQ x y).length≤1:=by unfold YQ;split <;> simp
  rw [e];simp only [List.length_append,List.length_cons];omega
theorem zfI {y1 y2:zg} (hy:y1.xHi<y2.xLo):∀ {a:List zg},NF a→(ja a [y1,y2]).length≤a.length+1
 | [],_=>by simp [ja]
 | x :: a,h=>by
  have e:ja (x :: a) [y1,y2]=YQ x y1++YQ x y2++ja a [y1,y2]:=by simp [ja]
  have h1:∀ y,(YQ x y).length≤1:=fun y=>by unfold YQ;split <;> simp
  have ih:=zfI hy (VM h)
  rw [e];simp only [List.length_append,List.length_cons]
  have i1:=h1 y1
  have i2:=h1 y2
  by_cases c:max x.xLo y2.xLo≤min x.xHi y2.xHi
  ·have hg:=(List.pairwise_cons.1 h.2).1
   have e2:ja a [y1,y2]=ja a [y2]:=by
    have:∀ m:List zg,(∀ z∈m,y1.xHi<z.xLo)→ja m [y1,y2]=ja m [y2]:=by
     intro m
     induction m with
     | nil=>intro _;rfl
     | cons z m ihm =>
      intro hz
      have ez:YQ z y1=[]:=by unfold YQ;rw [if_neg (by have:=hz z (by simp);omega)]
      have:=ihm (fun u hu=>hz u (by simp [hu]))
      simp only [ja,List.flatMap_cons,List.flatMap_nil,List.append_nil] at this ⊢
      rw [ez,this];simp
    exact this a (fun z hz=>by have:=hg z hz;omega)
   have:=zfJ a y2
   rw [e2];omega
  ·have:YQ x y2=[]:=by unfold YQ;rw [if_neg c]
   rw [this];simp only [List.length_nil];omega
theorem zhF {a b:List zg} (ha:NF a) (hb:NF b) (h:b.length≤2):(ja a b).length≤a.length+1:=by
 match b,h,hb with
 | [],_,_ =>
  have:ja a []=[]:=by simp [ja]
  rw [this];simp
 | [y],_,_=>have:=zfJ a y;omega
 | [y1,y2],_,hb =>
  have:=(List.pairwise_cons.1 hb.2).1 y2 (by simp)
  exact zfI (by omega) ha
theorem zcc {t:jJ} (ht:TV t) {κ:List zg→Prop} (h:κ (tsp t)):ZI t κ:=by
 obtain ⟨h1,h2,h3,h4,h5⟩:=ht
 have:=VS t.xField
 unfold tsp at h
 unfold ZI
 refine zo (fun e=>?_) (fun e=>?_)
 ·have e':t.xNot=false:=by simpa using e
  rw [e'] at h;simpa using h
 ·have e':t.xNot=true:=by simpa using e
  rw [e',if_pos rfl,zkc] at h
  unfold jnW
  refine zo (fun c=>?_) (fun c=>?_)
  ·have c':0<t.xLo:=by simpa using c
   rw [if_pos c'] at h
   refine yJ (by omega) (by omega) (jo (by simp) (ZH h1 h2 (zo (fun d=>?_) (fun d=>?_))))
   ·have d':t.xHi<top t.xField:=by simpa using d
    rw [if_pos (by omega)] at h
    exact zC (by omega) (by omega) (jo (by simp) (by simpa using h))
   ·have d':¬ t.xHi<top t.xField:=by simpa using d
    rw [if_neg (by omega)] at h
    simpa using h
  ·have c':¬ 0<t.xLo:=by simpa using c
   rw [if_neg c'] at h
   refine ZH h1 h2 (zo (fun d=>?_) (fun d=>?_))
   ·have d':t.xHi<top t.xField:=by simpa using d
    rw [if_pos (by omega)] at h
    exact zC (by omega) (by omega) (jo (by simp) (by simpa using h))
   ·have d':¬ t.xHi<top t.xField:=by simpa using d
    rw [if_neg (by omega)] at h
    simpa using h
theorem zdy {t:jJ} (ht:TV t) {κ:List zg→Prop} (h:κ (tsp t)):Z7 t κ:=by
 have ht':=ht
 obtain ⟨h1,h2,h3,h4,h5⟩:=ht
 have:=VS t.xField
 unfold Z7
 refine V2 ?_
 rw [decide_eq_true ht']
 refine xi (zo (fun e=>?_) (fun e=>?_))
 ·unfold tsp at h;rw [if_pos e] at h
  exact xO h1 h2 (zaa (zf7 h3 h4 h5) (by omega) (by omega) h)
 ·unfold tsp at h;rw [if_neg (by simpa using e)] at h
  exact h
def L4 (a:za):List (List zg):=[a.x0,a.x1,a.x2,a.x3]
def xX (a:za) (f:Int):List zg:=if f=0 then a.x0 else if f=1 then a.x1 else if f=2 then a.x2 else a.x3
def Y3 (a:za) (f:Int) (x:List zg):za:=if f=0 then ⟨x,a.x1,a.x2,a.x3⟩ else if f=1 then ⟨a.x0,x,a.x2,a.x3⟩ else if f=2 then ⟨a.x0,a.x1,x,a.x3⟩ else ⟨a.x0,a.x1,a.x2,x⟩
theorem yF {a:za} {f:Int} {κ:List zg→Prop} (h0:0≤f) (h1:f≤3) (h:κ (xX a f)):zH (L4 a) f κ:=by
 rcases zfb h0 h1 with rfl | rfl | rfl | rfl
 ·exact zp 0 rfl (by simp [L4]) h
 ·exact zp 1 rfl (by simp [L4]) h
 ·exact zp 2 rfl (by simp [L4]) h
 ·exact zp 3 rfl (by simp [L4]) h
theorem VJ {a:za} {f:Int} {x:List zg} (h0:0≤f) (h1:f≤3):(L4 a).set f.toNat x=L4 (Y3 a f x):=by
 rcases zfb h0 h1 with rfl | rfl | rfl | rfl <;> rfl
theorem Yl {a:za} (ha:B4 a) {f:Int} (h0:0≤f) (h1:f≤3):St (xX a f) (top f):=by
 obtain ⟨p0,p1,p2,p3⟩:=ha
 rcases zfb h0 h1 with rfl | rfl | rfl | rfl
 ·exact p0
 ·exact p1
 ·exact p2
 ·exact p3
theorem zic {a:za} (ha:B4 a) {f:Int} (h0:0≤f) (h1:f≤3) {x:List zg} (hx:St x (top f)):B4 (Y3 a f x):=by
 obtain ⟨p0,p1,p2,p3⟩:=ha
 rcases zfb h0 h1 with rfl | rfl | rfl | rfl
 ·exact ⟨hx,p1,p2,p3⟩
 ·exact ⟨p0,hx,p2,p3⟩
 ·exact ⟨p0,p1,hx,p3⟩
 ·exact ⟨p0,p1,p2,hx⟩
def le4 (a:za) (n:Nat):Prop:=∀ f,0≤f→f≤3→(xX a f).length≤n
theorem ziL {a:za} {n m:Nat} (h:le4 a n) {f:Int} (h0:0≤f) (h1:f≤3) {x:List zg} (hx:x.length≤m) (hm:n≤m):le4 (Y3 a f x) m:=by
 intro g g0 g1
 have k:=h g g0 g1
 rcases zfb h0 h1 with rfl | rfl | rfl | rfl <;> rcases zfb g0 g1 with rfl | rfl | rfl | rfl <;> first | exact hx | exact Nat.le_trans k hm
theorem zhG {a:za} (h:le4 a 40):F4 a:=⟨h 0 (by decide) (by decide),h 1 (by decide) (by decide),h 2 (by decide) (by decide),h 3 (by decide) (by decide)⟩
def zhz (a:za) (t:jJ):za:=Y3 a t.xField (ja (xX a t.xField) (tsp t))
def ZC (ts:List jJ):za:=ts.foldl zhz za8
theorem zgB:∀ (ts:List jJ) (a:za) (n:Nat),(∀ t∈ts,TV t)→B4 a→le4 a n→B4 (ts.foldl zhz a)∧le4 (ts.foldl zhz a) (n+ts.length)
 | [],a,n,_,ha,hn=>⟨ha,hn⟩
 | t :: ts,a,n,h,ha,hn=>by
  have ht:=h t (by simp)
  have hs:=Yl ha ht.1 ht.2.1
  have:=zgB ts (zhz a t) (n+1) (fun u hu=>h u (by simp [hu])) (zic ha ht.1 ht.2.1 (Xj hs (zew ht).1))
   (ziL hn ht.1 ht.2.1 (Nat.le_trans (zhF hs.1 (zew ht).1 (ziq t)) (by have:=hn _ ht.1 ht.2.1;omega)) (by omega))
  refine ⟨this.1,?_⟩
  have e:n+(t :: ts).length=n+1+ts.length:=by simp only [List.length_cons];omega
  rw [e];exact this.2
theorem zgy:le4 za8 1:=fun f h0 h1=>by
 rcases zfb h0 h1 with rfl | rfl | rfl | rfl <;> decide
theorem zbl {ts:List jJ} (h:∀ t∈ts,TV t):B4 (ZC ts):=(zgB ts za8 1 h zgu zgy).1
theorem zk1 {ts:List jJ} (h:∀ t∈ts,TV t):le4 (ZC ts) (1+ts.length):=(zgB ts za8 1 h zgu zgy).2
theorem zfW (ts:List jJ) (t:jJ):ZC (ts++[t])=zhz (ZC ts) t:=by simp [ZC]
theorem zf8 {ts:List jJ} (hts:TsV ts) {κ:za→Prop} (hκ:κ (ZC ts)):XK ts κ:=by
 have h:=hts.1
 have hl:=hts.2
 unfold XK
 refine zeD ?_
 refine z6 ts.length (fun s=>s.2) (fun k s=>s.2=(k:Int)∧k≤ts.length∧s.1=L4 (ZC (ts.take k))) (fun k s h=>h.1) (fun k s h=>h.2.1) ?_ ⟨rfl,Nat.zero_le _,by simp [ZC,L4]⟩
 rintro k ⟨xs,t⟩ next ⟨rfl,hk,hx⟩ hn
 simp only at hx
 subst hx
 refine zo (fun hc=>?_) (fun hc=>?_)
 ·have hlt:k<ts.length:=by simpa using hc
  have ht:=h _ (List.getElem_mem hlt)
  have hpre:∀ t∈ts.take k,TV t:=fun t ht=>h t (List.mem_of_mem_take ht)
  have hb:=zbl hpre
  have hs:=Yl hb ht.1 ht.2.1
  have hle:=zk1 hpre _ ht.1 ht.2.1
  have hml:=zhF hs.1 (zew ht).1 (ziq ts[k])
  have htop:=VS ts[k].xField
  simp only [List.length_take] at hle
  have hlim:lim (ja (xX (ZC (ts.take k)) ts[k].xField) (tsp ts[k]))=(ja (xX (ZC (ts.take k)) ts[k].xField) (tsp ts[k]),true):=by
   unfold lim;rw [if_neg (by omega)]
  refine zp k rfl hlt ?_
  unfold jnW
  have fin:jS (xX (ZC (ts.take k)) ts[k].xField) (tsp ts[k]) (top ts[k].xField) (fun (r49,r51)=>zH (L4 (ZC (ts.take k))) ts[k].xField (fun e52=>js (k:Int) 1 (fun t76=>next ((L4 (ZC (ts.take k))).set (ts[k].xField).toNat r49,t76)))):=by
   refine Y0 hs (zew ht) (by omega) (by omega) ?_
   rw [hlim]
   refine yF ht.1 ht.2.1 (zC (by omega) (by omega) (hn hlt _ ⟨by simp,by omega,?_⟩))
   simp only
   rw [VJ ht.1 ht.2.1,List.take_succ_eq_append_getElem hlt,zfW];rfl
  exact ⟨yF ht.1 ht.2.1 (zcc ht (ZH ht.1 ht.2.1 fin)),zcc ht ⟨yF ht.1 ht.2.1 (ZH ht.1 ht.2.1 fin),ZH ht.1 ht.2.1 (yF ht.1 ht.2.1 fin)⟩⟩
 ·have hge:ts.length≤k:=by simpa using hc
  rw [List.take_of_length_le hge]
  exact ⟨_,_,_,_,rfl,hκ⟩
theorem zh2 {ts:List jJ} (hts:TsV ts) {κ:ji→Prop} (hκ:κ (bx (ZC ts))):YM ts κ:=by
 have h:=hts.1
 have hl:=hts.2
 unfold YM
 refine VD (by omega) ?_
 rw [decide_eq_true hts]
 refine xi (zhk ?_)
 refine z6 ts.length (fun s=>s.2) (fun k s=>s.2=(k:Int)∧k≤ts.length∧s.1=L4 (ZC (ts.take k))) (fun k s h=>h.1) (fun k s h=>h.2.1) ?_ ⟨rfl,Nat.zero_le _,by simp [ZC,L4,bx]⟩
 rintro k ⟨xs,t⟩ next ⟨rfl,hk,hx⟩ hn
 simp only at hx
 subst hx
 refine zo (fun hc=>?_) (fun hc=>?_)
 ·have hlt:k<ts.length:=by simpa using hc
  have ht:=h _ (List.getElem_mem hlt)
  have hpre:∀ t∈ts.take k,TV t:=fun t ht=>h t (List.mem_of_mem_take ht)
  have hb:=zbl hpre
  have hs:=Yl hb ht.1 ht.2.1
  have htop:=VS ts[k].xField
  refine zp k rfl hlt ?_
  unfold jnW
  refine zp k rfl hlt ?_
  have fin:uV (xX (ZC (ts.take k)) ts[k].xField) (tsp ts[k]) (fun r40=>zH (L4 (ZC (ts.take k))) ts[k].xField (fun e42=>js (k:Int) 1 (fun t58=>next ((L4 (ZC (ts.take k))).set (ts[k].xField).toNat r40,t58)))):=by
   refine Z6 hs (zew ht) (by omega) (by omega) (by omega) (by omega) ?_
   refine yF ht.1 ht.2.1 (zC (by omega) (by omega) (hn hlt _ ⟨by simp,by omega,?_⟩))
   simp only
   rw [VJ ht.1 ht.2.1,List.take_succ_eq_append_getElem hlt,zfW];rfl
  exact ⟨yF ht.1 ht.2.1 (zdy ht fin),zdy ht (yF ht.1 ht.2.1 fin)⟩
 ·have hge:ts.length≤k:=by simpa using hc
  rw [List.take_of_length_le hge]
  exact hκ
def pc (r:List zg) (a:za):List za:=if r=[] then [] else [a]
def Yj (a b:za):List za :=
 if em4 (uL a b) then (if em4 a then [] else [a]) else
 pc (xJ a.x0 b.x0 65535) ⟨xJ a.x0 b.x0 65535,a.x1,a.x2,a.x3⟩ ++
 pc (xJ a.x1 b.x1 65535) ⟨ja a.x0 b.x0,xJ a.x1 b.x1 65535,a.x2,a.x3⟩ ++
 pc (xJ a.x2 b.x2 255) ⟨ja a.x0 b.x0,ja a.x1 b.x1,xJ a.x2 b.x2 255,a.x3⟩ ++
 pc (xJ a.x3 b.x3 7) ⟨ja a.x0 b.x0,ja a.x1 b.x1,ja a.x2 b.x2,xJ a.x3 b.x3 7⟩
theorem V5 {a b:List zg} {t:Int} (ha:St a t) (hb:St b t):St (xJ a b t) t:=Xj ha (Y2 hb).1
theorem zkx {a b:za} (ha:B4 a) (hb:B4 b):∀ c∈Yj a b,B4 c:=by
 have hm:=zg9 ha hb
 intro c hc
 unfold Yj at hc
 split at hc
 ·split at hc
  ·simp at hc
  ·simp only [List.mem_singleton] at hc;subst hc;exact ha
 ·simp only [List.mem_append,or_assoc] at hc
  have pcm:∀ {r:List zg} {d:za},c∈pc r d→c=d:=fun {r d} h=>by unfold pc at h;split at h <;> simp at h;exact h
  rcases hc with h | h | h | h
  ·rw [pcm h];exact ⟨V5 ha.1 hb.1,ha.2.1,ha.2.2.1,ha.2.2.2⟩
  ·rw [pcm h];exact ⟨hm.1,V5 ha.2.1 hb.2.1,ha.2.2.1,ha.2.2.2⟩
  ·rw [pcm h];exact ⟨hm.1,hm.2.1,V5 ha.2.2.1 hb.2.2.1,ha.2.2.2⟩
  ·rw [pcm h];exact ⟨hm.1,hm.2.1,hm.2.2.1,V5 ha.2.2.2 hb.2.2.2⟩
theorem Vn (r:List zg) (a:za):(pc r a).length≤1:=by unfold pc;split <;> simp
theorem zaQ (a b:za):(Yj a b).length≤4:=by
 unfold Yj
 split
 ·split <;> simp
 ·simp only [List.length_append]
  have:=Vn (xJ a.x0 b.x0 65535) ⟨xJ a.x0 b.x0 65535,a.x1,a.x2,a.x3⟩
  have:=Vn (xJ a.x1 b.x1 65535) ⟨ja a.x0 b.x0,xJ a.x1 b.x1 65535,a.x2,a.x3⟩
  have:=Vn (xJ a.x2 b.x2 255) ⟨ja a.x0 b.x0,ja a.x1 b.x1,xJ a.x2 b.x2 255,a.x3⟩
  have:=Vn (xJ a.x3 b.x3 7) ⟨ja a.x0 b.x0,ja a.x1 b.x1,ja a.x2 b.x2,xJ a.x3 b.x3 7⟩
  omega
theorem zf0 {l:List zg} {t:Int} (h:St l t) (h0:0≤t) (ht:t≤65535):l.length≤4294967296:=by
 have:=Vk h (by omega);omega
theorem zbP {a:za} (h:B4 a):∀ x∈L4 a,x.length≤4294967296:=by
 obtain ⟨p0,p1,p2,p3⟩:=h
 intro x hx
 simp only [L4,List.mem_cons,List.not_mem_nil,or_false] at hx
 rcases hx with rfl | rfl | rfl | rfl
 ·exact zf0 p0 (by decide) (by decide)
 ·exact zf0 p1 (by decide) (by decide)
 ·exact zf0 p2 (by decide) (by decide)
 ·exact zf0 p3 (by decide) (by decide)
theorem xQ {σ:Type} {K:σ→Prop} {B:(σ→Prop)→Prop} (h:B K):jnW K B:=h
theorem zar {a:za} (ha:B4 a) {t:Int} (h0:0≤t) (h1:t≤3) {r:List zg} {out:List ji} (ho:out.length≤1000) {K:List ji→Prop} (h:K (out++(pc r (Y3 a t r)).map bx)) :
  jnW K (fun k235=>ifW (decide (0<(r.length:Int))) (ud (L4 a) (fun r149=>zH r149 t (fun _=>xm out ([(ji.mk (r149.set (t).toNat r))]) (fun _=>k235 (out++([(ji.mk (r149.set (t).toNat r))])))))) (k235 out)):=by
 refine zo (fun e=>?_) (fun e=>?_)
 ·have hr:r≠[]:=by intro f;subst f;simp at e
  refine yx (by simp [L4]) (zbP ha) (yF h0 h1 (jo (by simp only [List.length_singleton];omega) ?_))
  unfold pc at h
  rw [if_neg hr] at h
  rw [VJ h0 h1];exact h
 ·have hr:r=[]:=by simpa using e
  unfold pc at h
  rw [if_pos hr] at h
  simpa using h
end
end Go.Proofs.YtgpdnnhmndlljaaGreatDoor
