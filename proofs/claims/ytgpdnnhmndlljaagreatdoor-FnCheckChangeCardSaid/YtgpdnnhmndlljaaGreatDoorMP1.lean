import Derived.Test.YtgpdnnhmndlljaaGreatDoorMA1
import Derived.RangeFuncMany
import Derived.RangeFuncCalls
import Derived.RangeFuncLeaves
import Derived.TacticsIn
import Derived.Test.YtgpdnnhmndlljaaGreatDoorEls
import Derived.Test.YtgpdnnhmndlljaaGreatDoorMA0
import Derived.Laws.BitsLemmas
set_option linter.unusedSimpArgs false
set_option linter.unusedVariables false
set_option linter.unusedSectionVars false
namespace Go.Proofs.YtgpdnnhmndlljaaGreatDoor
section
open Go.RowKit
def znL {α:Type} (xs:List α) (κ:α→α→α→α→Prop):Prop:=∃ a b c d r,xs=a :: b :: c :: d :: r∧κ a b c d
theorem zbx {w:World} {b o:Nat} {cs ds:List Value} (h:w.rangeAt b o cs) (k:w.rangeAt b (o+cs.length) ds):w.rangeAt b o (cs++ds):=fun j v hv=>by
 rw [List.getElem?_append] at hv
 split at hv
 ·exact h j v hv
 ·have:=k (j - cs.length) v hv
  rwa [show o+cs.length+(j - cs.length)=o+j by omega] at this
theorem zlm {α:Type} {E':El α} {F0:Nat→Prop} {wr:World} {v:Value} {xs:List α} {a b c d:α} (S:Sl E' F0 wr v xs) (h:∃ r,xs=a :: b :: c :: d :: r) :
  ∃ c0 c1 c2 c3,E'.cells F0 wr a c0∧E'.cells F0 wr b c1∧E'.cells F0 wr c c2∧E'.cells F0 wr d c3∧VZ wr F0 v 0 E'.size (c0++(c1++(c2++c3))):=by
 obtain ⟨r,rfl⟩:=h
 obtain ⟨p,cap,rfl,hc,hr⟩:=S
 obtain ⟨g,off,rfl,hfb,hx⟩:=hr (by simp)
 obtain ⟨c0,h0,k0⟩:=hx 0 a rfl
 obtain ⟨c1,h1,k1⟩:=hx 1 b rfl
 obtain ⟨c2,h2,k2⟩:=hx 2 c rfl
 obtain ⟨c3,h3,k3⟩:=hx 3 d rfl
 have l0:=E'.len _ _ _ _ h0
 have l1:=E'.len _ _ _ _ h1
 have l2:=E'.len _ _ _ _ h2
 refine ⟨c0,c1,c2,c3,h0,h1,h2,h3,g,off,_,cap,rfl,hfb,?_⟩
 have e0:off+(0:Int).toNat * E'.size=off:=by simp
 rw [e0]
 refine zbx (by simpa using k0) (zbx ?_ (zbx ?_ ?_))
 ·rw [l0];simpa using k1
 ·rw [l0,l1,show off+E'.size+E'.size=off+2 * E'.size by omega];exact k2
 ·rw [l0,l1,l2,show off+E'.size+E'.size+E'.size=off+3 * E'.size by omega];exact k3
section
variable {P:Program} {n:Nat} {G D:Nat→Prop} {w0:World} {Q:Exit→Act→World→Prop} {R:Act→World→Prop} {E:Env} {L M:List Ch} {φ:Prop}
variable {d:Tmp} {ty:TypeId} {pos:String} {aft:Array Edge} {gd:Option (Nat×Bool)} {Tk:Act→World→Prop} {Lr:List Ch} {x y:Operand} {T T' S:TypeId} {e sz by':Nat} {at':Array TypeId}
theorem znJ {α:Type} {El':El α} {v:Value} {xs:List α} {ch:Ch} {κ:α→α→α→α→Prop} {e' s:Nat} {r:Bool} (M:uu P n G D w0 E ⟨some d,.sliceToArrayPointer T x,ty,pos,aft,gd⟩ Tk R Lr L) (i:Nat) (hi:xO Lr i=some ch) (hc:YF ch El' v xs) (hx:oev E x=some v) (hd:Nat.blt d n=true)
  (hT:zfI P T=some (4,e',r,s)) (hes:El'.size=1) (k:∀ p q s t,(∃ r,xs=p :: q :: s :: t :: r)→Nx n G D w0 R ((d,pEl v 0 1 0) :: E) L (κ p q s t)):Nx n G D w0 Tk E L (znL xs κ):=fun a w hE hm hφ=>by
 obtain ⟨p,q,s,t,r,hxs,hκ⟩:=hφ
 refine M.val (v:=pEl v 0 1 0) (φ:=κ p q s t) (ψ:=κ p q s t) hd rfl (fun ρ w hE hm _=>?_) id (k p q s t ⟨r,hxs⟩) a w hE hm hκ
 obtain ⟨g,cap,rfl,hcap,hr⟩:=hc _ _ (hm.get hi)
 obtain ⟨b,off,rfl,_⟩:=hr (by rw [hxs];simp)
 have hl:¬ xs.length<4:=by rw [hxs];simp
 have hu:=(zgv hT).1
 simp [execOp,hE _ _ hx,Instr.arrayAt,run_underlying hu,hl,yg]
def yE (b:Nat) (o:Obj):Ch where
 foot:=fun x=>x=b
 holds:=fun _ w=>w.heap[b]?=some o
 keep:=fun _ _ _ _ _ h k=>(h b (.inr rfl)).trans k
def Zl {σ:Type} (C:σ→List Ch→Prop) (B:Nat→Prop) (s:σ):Ch where
 foot:=B
 holds:=fun F w=>∃ L,C s L∧(∀ b,uy L b↔B b)∧(L.Pairwise fun (c d:Ch)=>∀ b,c.foot b→¬ d.foot b)∧∀ c∈L,c.holds F w
 keep:=fun F F' w w' hF hb ⟨L,h1,h2,h3,h4⟩=>⟨L,h1,h2,h3,fun c hc=>c.keep F F' w w' hF (fun b h=>hb b (h.imp id (fun k=>(h2 b).1 ⟨c,hc,k⟩))) (h4 c hc)⟩
theorem zdd {σ:Type} {C:σ→List Ch→Prop} {B:Nat→Prop} {s:σ} {L R:List Ch} {w:World} (h:∀ b,uy L b↔B b) (b:Nat):fz G (Zl C B s :: R) w b↔fz G (L++R) w b:=by
 constructor
 ·rintro ⟨h1,h2,h3⟩
  refine ⟨h1,h2,fun c hc hk=>?_⟩
  rcases List.mem_append.1 hc with e | e
  ·exact h3 _ (List.mem_cons_self ..) ((h b).1 ⟨c,e,hk⟩)
  ·exact h3 c (List.mem_cons_of_mem _ e) hk
 ·rintro ⟨h1,h2,h3⟩
  refine ⟨h1,h2,fun c hc hk=>?_⟩
  rcases List.mem_cons.1 hc with e | e
  ·subst e
   obtain ⟨d,hd,hk'⟩:=(h b).2 hk
   exact h3 d (List.mem_append.2 (.inl hd)) hk'
  ·exact h3 c (List.mem_append.2 (.inr e)) hk
theorem Mem.openC {σ:Type} {C:σ→List Ch→Prop} {B:Nat→Prop} {s:σ} {R:List Ch} {w:World} (m:Mem G D w0 (Zl C B s :: R) w):∃ L,C s L∧(∀ b,uy L b↔B b)∧Mem G D w0 (L++R) w:=by
 obtain ⟨L,h1,h2,h3,h4⟩:=m.hold _ (List.mem_cons_self ..)
 have hr:∀ c∈L,∀ b,c.foot b→(Zl C B s).foot b:=fun c hc b hb=>(h2 b).1 ⟨c,hc,hb⟩
 refine ⟨L,h1,h2,m.fresh,m.os,m.tape,m.output,m.size,m.old,fun c hc b hb=>?_,List.pairwise_append.2 ⟨h3,(List.pairwise_cons.1 m.disj).2,fun c hc d hd b k1 k2=>(List.pairwise_cons.1 m.disj).1 d hd b (hr c hc b k1) k2⟩,fun c hc=>?_⟩
 ·rcases List.mem_append.1 hc with e | e
  ·exact m.range _ (List.mem_cons_self ..) b (hr c e b hb)
  ·exact m.range c (List.mem_cons_of_mem _ e) b hb
 ·rcases List.mem_append.1 hc with e | e
  ·exact c.keep _ _ w w (fun b hb=>(zdd h2 b).1 hb) (fun _ _=>rfl) (h4 c e)
  ·exact c.keep _ _ w w (fun b hb=>(zdd h2 b).1 hb) (fun _ _=>rfl) (m.hold c (List.mem_cons_of_mem _ e))
theorem Mem.closeC {σ:Type} {C:σ→List Ch→Prop} {s:σ} {L R:List Ch} {w:World} (m:Mem G D w0 (L++R) w) (h:C s L):Mem G D w0 (Zl C (uy L) s :: R) w:=by
 have inL:∀ c∈L,c∈L++R:=fun c hc=>List.mem_append.2 (.inl hc)
 have inR:∀ c∈R,c∈L++R:=fun c hc=>List.mem_append.2 (.inr hc)
 have hd:=List.pairwise_append.1 m.disj
 refine ⟨m.fresh,m.os,m.tape,m.output,m.size,m.old,fun c hc b hb=>?_,List.pairwise_cons.2 ⟨fun d hd' b ⟨c,hc,k1⟩ k2=>hd.2.2 c hc d hd' b k1 k2,hd.2.1⟩,fun c hc=>?_⟩
 ·rcases List.mem_cons.1 hc with e | e
  ·subst e
   obtain ⟨c,hc,k⟩:=hb
   exact m.range c (inL c hc) b k
  ·exact m.range c (inR c e) b hb
 ·rcases List.mem_cons.1 hc with e | e
  ·subst e
   exact ⟨L,h,fun _=>Iff.rfl,hd.1,fun c hc=>c.keep _ _ w w (fun b hb=>(zdd (fun _=>Iff.rfl) b).2 hb) (fun _ _=>rfl) (m.hold c (inL c hc))⟩
  ·exact c.keep _ _ w w (fun b hb=>(zdd (fun _=>Iff.rfl) b).2 hb) (fun _ _=>rfl) (m.hold c (inR c e))
def ziG {α σ:Type} (P:Program) (l:Nat) (El':El α) (C:σ→List Ch→Prop) (Y:σ→α→Bool→(Bool×σ→Prop)→Prop):Prop :=
 ∀ {G D:Nat→Prop} {w0 w:World} {R L:List Ch} {s:σ} {x:α} {ok:Bool} {cs:List Value} {κ:Bool×σ→Prop} (m:Nat),C s L→Mem G D w0 (L++R) w→El'.cells (fz G (L++R) w) w x cs→Y s x ok κ →
  YieldAt Fence.wide m P l #[.agg cs.toArray,.bool ok] w fun e w'=>∃ b s' L',e=.returned (.bool b)∧C s' L'∧Mem G D w0 (L'++R) w'∧κ (b,s')
theorem zlR {o:Oper} {a:Act} {w:World} {next:Act→World→Prop} {m:Nat} (h:o.wp P a w next Q):o.wpIn Fence.wide m P a w next Q:=by
 refine ⟨fun f _=>trivial,?_⟩
 have h':o.upon P a next Q ((execOp a.eval o).run P w):=h
 show o.uponIn Fence.wide m P a next Q ((execOp a.eval o).run P w)
 revert h'
 generalize (execOp a.eval o).run P w=r
 intro h'
 cases r with
 | ok x w' =>
  cases x <;> first | exact h' | (refine ⟨fun e=>by simp [Fence.wide] at e,?_⟩;exact callsIn_wide.2 h') | (refine ⟨fun e=>by simp [Fence.wide] at e,fun c cs _=>?_⟩;obtain ⟨v,w'',k1,k2⟩:=h' c cs;exact ⟨v,w'',k1,stepsIn_wide.2 k2⟩) | exact False.elim h'
 | halt x w'=>cases x <;> first | exact h' | exact False.elim h'
theorem zdL {id:Nat} {l:List Oper} (h:Nx n G D w0 (wpListIn Fence.wide 3 P l.toArray Q l) E L φ):Nx n G D w0 ((Code.region id l.toArray false).wp P Q) E L φ:=fun a w hE hm hφ=>wpIn_wide.1 (wpIn_region_lit (h a w hE hm hφ))
theorem zd9 {ops:Array Oper} {m:Nat} {F:Fence} (h:Nx n G D w0 (Q .normal) E L φ):Nx n G D w0 (wpListIn F m P ops Q []) E L φ:=h
theorem znd {m:Nat} {ops:Array Oper} {rest:List Oper} {dst:Option Tmp} {op:Op} (h:Nx n G D w0 (fun a w=>Oper.wp P ⟨dst,op,ty,pos,aft,none⟩ a w (wpListIn Fence.wide m P ops Q rest) Q) E L φ):Nx n G D w0 (wpListIn Fence.wide m P ops Q (⟨dst,op,ty,pos,aft,none⟩ :: rest)) E L φ :=
 fun a w hE hm hφ=>wpListIn_plain rfl fun K hK=>zlR (by
  have:=h a w hE hm hφ
  show Oper.upon _ _ _ _ _ _
  have h':Oper.upon P ⟨dst,op,ty,pos,aft,none⟩ a (wpListIn Fence.wide m P ops Q rest) Q ((execOp a.eval ⟨dst,op,ty,pos,aft,none⟩).run P w):=this
  revert h'
  generalize (execOp a.eval ⟨dst,op,ty,pos,aft,none⟩).run P w=r
  intro h'
  cases r with
  | ok x w' =>
   cases x <;> first | exact hK _ _ h' | (refine Calls.mono h' ?_;intro e w'' hh;cases e <;> first | exact hK _ _ hh | exact hh) | (refine Rows.mono h' ?_;intro e w'' hh;exact hK _ _ hh) | exact False.elim h'
  | halt x w'=>cases x <;> first | exact h' | exact False.elim h')
theorem stY {m:Nat} {ops:Array Oper} {rest:List Oper} {dst:Option Tmp} {op:Op}:uu P n G D w0 E ⟨dst,op,ty,pos,aft,none⟩ (wpListIn Fence.wide m P ops Q (⟨dst,op,ty,pos,aft,none⟩ :: rest)) (wpListIn Fence.wide m P ops Q rest) L L :=
 ⟨fun hd ho hr hψ k=>znd (zia hd ho hr hψ k)⟩
theorem zhk {α σ:Type} {l m:Nat} {El':El α} {C:σ→List Ch→Prop} {Y:σ→α→Bool→(Bool×σ→Prop)→Prop} (hY:ziG P l El' C Y) {B:Nat→Prop} {s:σ} {z:α} {ok:Bool} {cs:List Value} {κ:Bool×σ→Prop} {f:Operand} {args:List Operand} {ops:Array Oper} {rest:List Oper}
  (hf:oev E f=some (.func (.yield l) #[] #[])) (ha:ze5 E args=some [.agg cs.toArray,.bool ok]) (hd:Nat.blt d n=true) (hc:∀ w,Mem G D w0 (Zl C B s :: L) w→El'.cells (fz G (Zl C B s :: L) w) w z cs)
  (k:∀ b s' B',Nx n G D w0 (wpListIn Fence.wide m P ops Q rest) ((d,.bool b) :: E) (Zl C B' s' :: L) (κ (b,s'))) :
  Nx n G D w0 (wpListIn Fence.wide m P ops Q (⟨some d,.call {callee:=.value f,args:=args.toArray,argTypes:=at'},ty,pos,aft,none⟩ :: rest)) E (Zl C B s :: L) (Y s z ok κ):=fun a w hE hm hφ=>by
 refine wpListIn_plain rfl fun K hK=>?_
 obtain ⟨Lc,h1,h2,hm'⟩:=hm.openC
 obtain ⟨fn,tmps,assign,body,hy,hR⟩:=hY (m - 1) h1 hm' (El'.keep _ _ w w _ _ (fun b hb=>(zdd h2 b).1 hb) (fun _ _=>rfl) (hc w hm)) hφ
 have hx:=hE.eval hf
 have hargs:=zbE (fun x v h=>hE.eval h) ha
 have hrun:(execOp a.eval ⟨some d,.call {callee:=.value f,args:=args.toArray,argTypes:=at'},ty,pos,aft,none⟩).run P w=.ok (.round l fn tmps assign body) w:=by
  simp [execOp,resolve,Deferred.ofValue,hx,invoke,hargs,hy]
 refine ⟨fun f _=>trivial,?_⟩
 change Oper.uponIn Fence.wide m P _ a K Q ((execOp a.eval ⟨some d,.call {callee:=.value f,args:=args.toArray,argTypes:=at'},ty,pos,aft,none⟩).run P w)
 rw [hrun,Oper.uponIn_round]
 refine ⟨fun e=>by simp [Fence.wide] at e,hR.mono ?_⟩
 rintro e w' ⟨b,s',L',rfl,q1,q2,q3⟩
 exact hK _ _ (k b s' _ _ w' (hE.put hd _) (q2.closeC q1) q3)
theorem zlg {o:Oper} {a:Act} {w:World} {next:Act→World→Prop} {m l:Nat} (hnd:∀ c,o.op≠.defer c) (h:o.wp P a w next Q):o.wpIn (Fence.wide.inRound l) m P a w next Q:=by
 refine ⟨fun f _=>trivial,?_⟩
 have h':o.upon P a next Q ((execOp a.eval o).run P w):=h
 show o.uponIn (Fence.wide.inRound l) m P a next Q ((Oper.semAt (some l) a.eval o).run P w)
 rw [Oper.semAt_some l a.eval o hnd]
 revert h'
 generalize (execOp a.eval o).run P w=r
 intro h'
 cases r with
 | ok x w' =>
  cases x <;> first | exact h' | (refine ⟨fun e=>by simp [Fence.wide] at e,?_⟩;exact CallsIn.inRound l (callsIn_wide.2 h')) | (refine ⟨fun e=>by simp [Fence.wide] at e,fun c cs _=>?_⟩;obtain ⟨v,w'',k1,k2⟩:=h' c cs;exact ⟨v,w'',k1,stepsIn_wide.2 k2⟩) | exact False.elim h'
 | halt x w'=>cases x <;> first | exact h' | exact False.elim h'
section
variable {F:Fence} {m l:Nat}
theorem zjm {x y:Code} (h:Nx n G D w0 (x.wpIn F m P (Exit.then (y.wpIn F m P Q) Q)) E L φ):Nx n G D w0 ((Code.seq x y).wpIn F m P Q) E L φ:=fun a w hE hm hφ=>wpIn_seq (h a w hE hm hφ)
theorem zlK {id:Nat} {c:Code} (h:Nx n G D w0 (c.wpIn F m P (Exit.inBlock id Q)) E L φ):Nx n G D w0 ((Code.block id c).wpIn F m P Q) E L φ:=fun a w hE hm hφ=>wpIn_block (h a w hE hm hφ)
theorem zbp {id:Nat} {l:List Oper} (h:Nx n G D w0 (wpListIn F m P l.toArray Q l) E L φ):Nx n G D w0 ((Code.region id l.toArray false).wpIn F m P Q) E L φ:=fun a w hE hm hφ=>wpIn_region_lit (h a w hE hm hφ)
theorem znw (h:Nx n G D w0 (Q .normal) E L φ):Nx n G D w0 (Code.skip.wpIn F m P Q) E L φ:=fun a w hE hm hφ=>wpIn_skip (h a w hE hm hφ)
theorem znY (h:Nx n G D w0 (Q .ret) E L φ):Nx n G D w0 (Code.ret.wpIn F m P Q) E L φ:=fun a w hE hm hφ=>wpIn_ret (h a w hE hm hφ)
theorem zm4 {c:Operand} {x y:Code} {t:Bool} {A B:Prop} (hc:oev E c=some (.bool t)) (hx:Nx n G D w0 (x.wpIn F m P Q) E L A) (hy:Nx n G D w0 (y.wpIn F m P Q) E L B):Nx n G D w0 ((Code.cond c x y).wpIn F m P Q) E L (ifW t A B) :=
 fun a w hE hm hφ=>wpIn_cond_split (hE.eval hc) (fun h=>hx a w hE hm (hφ.1 h)) (fun h=>hy a w hE hm (hφ.2 h))
theorem zh7 {ops:Array Oper} {rest:List Oper} {dst:Option Tmp} {op:Op} (hnd:∀ c,op≠.defer c) (h:Nx n G D w0 (fun a w=>Oper.wp P ⟨dst,op,ty,pos,aft,none⟩ a w (wpListIn (Fence.wide.inRound l) m P ops Q rest) Q) E L φ):Nx n G D w0 (wpListIn (Fence.wide.inRound l) m P ops Q (⟨dst,op,ty,pos,aft,none⟩ :: rest)) E L φ :=
 fun a w hE hm hφ=>by
  unfold wpListIn
  rw [if_pos (by simp [Region.wanted])]
  exact zlg hnd (h a w hE hm hφ)
theorem stR {ops:Array Oper} {rest:List Oper} {dst:Option Tmp} {op:Op} (hnd:∀ c,op≠.defer c):uu P n G D w0 E ⟨dst,op,ty,pos,aft,none⟩ (wpListIn (Fence.wide.inRound l) m P ops Q (⟨dst,op,ty,pos,aft,none⟩ :: rest)) (wpListIn (Fence.wide.inRound l) m P ops Q rest) L L :=
 ⟨fun hd ho hr hψ k=>zh7 hnd (zia hd ho hr hψ k)⟩
end
end
end
section
open Go.RowKit
@[ext] structure zh where
 xLo:Int
 xHi:Int
 deriving DecidableEq
def z6 (x:zh):List Value:=[(.int .i64 x.xLo),(.int .i64 x.xHi)]
def zd:El zh:=El.flat 2 z6 (by decide) (fun _=>rfl) (fun x u h=>by simp only [z6,List.mem_cons,List.not_mem_nil,or_false] at h;rcases h with rfl | rfl <;> rfl)
theorem zx:Up zd z6:=XK
abbrev uE:DEl zh:=zbb zd z6 zx
@[ext] structure jY where
 xField:Int
 xLo:Int
 xHi:Int
 xNot:Bool
 deriving DecidableEq
def ZP (x:jY):List Value:=[(.int .i64 x.xField),(.int .i64 x.xLo),(.int .i64 x.xHi),(.bool x.xNot)]
def uS:El jY:=El.flat 4 ZP (by decide) (fun _=>rfl) (fun x u h=>by simp only [ZP,List.mem_cons,List.not_mem_nil,or_false] at h;rcases h with rfl | rfl | rfl | rfl <;> rfl)
theorem xU:Up uS ZP:=XK
abbrev zmN:DEl jY:=zbb uS ZP xU
@[ext] structure zD where
 xTests:(List jY)
 xAction:Int
 xChain:Int
 deriving DecidableEq
def ze9 (u:Value) (x:zD):List Value:=[u,(.int .i64 x.xAction),(.int .i64 x.xChain)]
def xt:El zD where
 size:=3
 cells:=fun F w x cs=>∃ u:Value,cs=ze9 u x∧Sl uS F w u x.xTests
 pos:=by decide
 len:=fun F w x cs ⟨u,e,_⟩=>by rw [e];rfl
 one:=fun F w x cs ⟨u,e,h⟩ v hv=>by
  subst e
  simp only [ze9,List.mem_cons,List.not_mem_nil,or_false] at hv
  rcases hv with e | e | e
  ·subst e;exact h.one
  ·subst e;exact rfl
  ·subst e;exact rfl
 keep:=fun F F' w w' x cs hF hb ⟨u,e,h⟩=>⟨u,e,h.keep hF hb⟩
def xd:DEl zD where
 el:=xt
 own:=fun B w x cs=>∃ u:Value,cs=ze9 u x∧Dp zmN 165 B w u x.xTests
 read:=fun B w x cs ⟨u,e,h⟩=>⟨u,e,h.sl⟩
 keep:=fun B w w' x cs hk ⟨u,e,h⟩=>⟨u,e,h.keep hk⟩
 lt:=fun B w x cs ⟨u,e,h⟩=>h.lt
@[ext] structure zN where
 xChains:(List (List zD))
 xAccept:Bool
 deriving DecidableEq
@[ext] structure zd3 where
 x0:Int
 x1:Int
 x2:Int
 x3:Int
 deriving DecidableEq
@[ext] structure zW where
 xFrom:Int
 xTo:Int
 xPort:Int
 xProto:Int
 deriving DecidableEq
@[ext] structure za where
 x0:(List zh)
 x1:(List zh)
 x2:(List zh)
 x3:(List zh)
 deriving DecidableEq
def zbj (u:Value×Value×Value×Value) (x:za):List Value:=[u.1,u.2.1,u.2.2.1,u.2.2.2]
def ze:El za where
 size:=4
 cells:=fun F w x cs=>∃ u:Value×Value×Value×Value,cs=zbj u x∧Sl zd F w u.1 x.x0∧Sl zd F w u.2.1 x.x1∧Sl zd F w u.2.2.1 x.x2∧Sl zd F w u.2.2.2 x.x3
 pos:=by decide
 len:=fun F w x cs ⟨u,e,_⟩=>by rw [e];rfl
 one:=fun F w x cs ⟨u,e,h⟩ v hv=>by
  subst e
  simp only [zbj,List.mem_cons,List.not_mem_nil,or_false] at hv
  rcases hv with e | e | e | e
  ·subst e;exact h.1.one
  ·subst e;exact h.2.1.one
  ·subst e;exact h.2.2.1.one
  ·subst e;exact h.2.2.2.one
 keep:=fun F F' w w' x cs hF hb ⟨u,e,h⟩=>⟨u,e,h.1.keep hF hb,h.2.1.keep hF hb,h.2.2.1.keep hF hb,h.2.2.2.keep hF hb⟩
@[ext] structure u9 where
 xAccept:Bool
 deriving DecidableEq
@[ext] structure uA where
 deriving DecidableEq
@[ext] structure yl where
 deriving DecidableEq
@[ext] structure Z8 where
 xChain:Int
 deriving DecidableEq
@[ext] structure zn where
 xWhere:za
 xAccept:Bool
 deriving DecidableEq
def zgh (u:Value×Value×Value×Value) (x:zn):List Value:=[u.1,u.2.1,u.2.2.1,u.2.2.2,(.bool x.xAccept)]
def zB:El zn where
 size:=5
 cells:=fun F w x cs=>∃ u:Value×Value×Value×Value,cs=zgh u x∧Sl zd F w u.1 x.xWhere.x0∧Sl zd F w u.2.1 x.xWhere.x1∧Sl zd F w u.2.2.1 x.xWhere.x2∧Sl zd F w u.2.2.2 x.xWhere.x3
 pos:=by decide
 len:=fun F w x cs ⟨u,e,_⟩=>by rw [e];rfl
 one:=fun F w x cs ⟨u,e,h⟩ v hv=>by
  subst e
  simp only [zgh,List.mem_cons,List.not_mem_nil,or_false] at hv
  rcases hv with e | e | e | e | e
  ·subst e;exact h.1.one
  ·subst e;exact h.2.1.one
  ·subst e;exact h.2.2.1.one
  ·subst e;exact h.2.2.2.one
  ·subst e;exact rfl
 keep:=fun F F' w w' x cs hF hb ⟨u,e,h⟩=>⟨u,e,h.1.keep hF hb,h.2.1.keep hF hb,h.2.2.1.keep hF hb,h.2.2.2.keep hF hb⟩
@[ext] structure ZX where
 xAccepted:(List za)
 xDropped:(List za)
 deriving DecidableEq
@[ext] structure z8 where
 xSides:(List (List zh))
 deriving DecidableEq
def zhq (u:Value) (x:z8):List Value:=[u]
def jT:El z8 where
 size:=1
 cells:=fun F w x cs=>∃ u:Value,cs=zhq u x∧Sl (zQ zd) F w u x.xSides
 pos:=by decide
 len:=fun F w x cs ⟨u,e,_⟩=>by rw [e];rfl
 one:=fun F w x cs ⟨u,e,h⟩ v hv=>by
  subst e
  simp only [zhq,List.mem_cons,List.not_mem_nil,or_false] at hv
  subst hv;exact h.one
 keep:=fun F F' w w' x cs hF hb ⟨u,e,h⟩=>⟨u,e,h.keep hF hb⟩
def xK:DEl z8 where
 el:=jT
 own:=fun B w x cs=>∃ u:Value,cs=zhq u x∧Dp (dSl uE 89) 90 B w u x.xSides
 read:=fun B w x cs ⟨u,e,h⟩=>⟨u,e,h.sl⟩
 keep:=fun B w w' x cs hk ⟨u,e,h⟩=>⟨u,e,h.keep hk⟩
 lt:=fun B w x cs ⟨u,e,h⟩=>h.lt
@[ext] structure zS where
 xWhere:z8
 xAccept:Bool
 deriving DecidableEq
def zeK (u:Value) (x:zS):List Value:=[u,(.bool x.xAccept)]
def z7:El zS where
 size:=2
 cells:=fun F w x cs=>∃ u:Value,cs=zeK u x∧Sl (zQ zd) F w u x.xWhere.xSides
 pos:=by decide
 len:=fun F w x cs ⟨u,e,_⟩=>by rw [e];rfl
 one:=fun F w x cs ⟨u,e,h⟩ v hv=>by
  subst e
  simp only [zeK,List.mem_cons,List.not_mem_nil,or_false] at hv
  rcases hv with e | e
  ·subst e;exact h.one
  ·subst e;exact rfl
 keep:=fun F F' w w' x cs hF hb ⟨u,e,h⟩=>⟨u,e,h.keep hF hb⟩
def x7:DEl zS where
 el:=z7
 own:=fun B w x cs=>∃ u:Value,cs=zeK u x∧Dp (dSl uE 89) 90 B w u x.xWhere.xSides
 read:=fun B w x cs ⟨u,e,h⟩=>⟨u,e,h.sl⟩
 keep:=fun B w w' x cs hk ⟨u,e,h⟩=>⟨u,e,h.keep hk⟩
 lt:=fun B w x cs ⟨u,e,h⟩=>h.lt
@[ext] structure jF where
 xChain:Int
 xNext:Int
 deriving DecidableEq
def ZG (x:jF):List Value:=[(.int .i64 x.xChain),(.int .i64 x.xNext)]
def jL:El jF:=El.flat 2 ZG (by decide) (fun _=>rfl) (fun x u h=>by simp only [ZG,List.mem_cons,List.not_mem_nil,or_false] at h;rcases h with rfl | rfl <;> rfl)
theorem uK:Up jL ZG:=XK
@[ext] structure uX where
 xChain:Int
 xPlace:Int
 deriving DecidableEq
def zaA (x:uX):List Value:=[(.int .i64 x.xChain),(.int .i64 x.xPlace)]
def jH:El uX:=El.flat 2 zaA (by decide) (fun _=>rfl) (fun x u h=>by simp only [zaA,List.mem_cons,List.not_mem_nil,or_false] at h;rcases h with rfl | rfl <;> rfl)
theorem Zm:Up jH zaA:=XK
@[ext] structure Vc where
 xName:ByteArray
 xTop:Int
 deriving DecidableEq
def Yg (x:Vc):List Value:=[(.string x.xName),(.int .i64 x.xTop)]
def ji:El Vc:=El.flat 2 Yg (by decide) (fun _=>rfl) (fun x u h=>by simp only [Yg,List.mem_cons,List.not_mem_nil,or_false] at h;rcases h with rfl | rfl <;> rfl)
theorem zaX:Up ji Yg:=XK
inductive x9 where
 | kDeciding (x:u9)
 | kCalling (x:Z8)
 | kReturning (x:uA)
 | kPassing (x:yl)
def VA:x9→Value
 | .kDeciding x=>.iface 262 (.agg #[(.bool x.xAccept)])
 | .kCalling x=>.iface 264 (.agg #[(.int .i64 x.xChain)])
 | .kReturning x=>.iface 266 (.agg #[])
 | .kPassing x=>.iface 267 (.agg #[])
def x9.casesW (a:x9) (p0:u9→Prop) (p1:Z8→Prop) (p2:uA→Prop) (p3:yl→Prop):Prop:=match a with
 | .kDeciding x=>p0 x
 | .kCalling x=>p1 x
 | .kReturning x=>p2 x
 | .kPassing x=>p3 x
def zA:List Vc:=[⟨(ByteArray.mk #[102,114,111,109]),65535⟩,⟨(ByteArray.mk #[116,111]),65535⟩,⟨(ByteArray.mk #[112,111,114,116]),255⟩,⟨(ByteArray.mk #[112,114,111,116,111]),7⟩]
def UA (code_0:(List UInt8)) (κ:((List UInt8)×Int)→Prop):Prop :=
 jnW (fun (xs68:(List UInt8))=>κ (xs68,0)) (fun k71=>ifW (decide (2000<(code_0.length:Int))) (yZ code_0 0 2000 (fun xs4=>k71 xs4)) (k71 code_0))
def zC (r_0_b:(List UInt8)) (r_0_p:Int) (n_1:Int) (κ:(Int×Int)→Prop):Prop :=
 jx r_0_p 1 (fun t5=>jnW (fun (t66:Bool)=>ifW t66 (κ (0,t5)) (Y5 t5 1 (fun t68=>ifW (decide (t68<(r_0_b.length:Int))) (zJ r_0_b t68 (fun e69=>zbX (e69.toNat:Int) n_1 (fun t71=>κ (t71,t5)))) (zbX t68 (r_0_b.length:Int) (fun t72=>zJ r_0_b t72 (fun e73=>zis (e73.toNat:Int) 131 (fun t75=>zis t68 7 (fun t76=>jx t76 3 (fun t77=>zbX t77 (r_0_b.length:Int) (fun t78=>zJ r_0_b t78 (fun e79=>zis (e79.toNat:Int) 1117 (fun t81=>jx t75 t81 (fun t82=>zis t68 29 (fun t83=>jx t82 t83 (fun t84=>zjy t68 (r_0_b.length:Int) (fun t85=>zis t85 53 (fun t86=>jx t84 t86 (fun t87=>zjy t87 64 (fun t88=>zmX t87 t88 (fun t89=>zbX t89 n_1 (fun t90=>κ (t90,t5)))))))))))))))))))))) (fun k67=>ifW (decide (n_1<1)) (k67 true) (k67 (decide ((r_0_b.length:Int)=0)))))
def xN (r_0_b:(List UInt8)) (r_0_p:Int) (n_1:Int) (κ:(Bool×Int)→Prop):Prop :=
 jnW (fun ((t68,t69):(Int×Bool))=>κ (t69,t68)) (fun k70=>ifW (decide (0<n_1)) (zC r_0_b r_0_p n_1 (fun (r5,r6)=>Y5 n_1 1 (fun t7=>k70 (r6,(decide (r5=t7)))))) (k70 (r_0_p,false)))
def uL (n_0:Int) (κ:Int→Prop):Prop :=
 jnW (fun (t61:Bool)=>ifW t61 (κ 65535) (ifW (decide (n_0=2)) (κ 255) (ifW (decide (n_0=3)) (κ 7) (κ (-1))))) (fun k62=>ifW (decide (n_0=0)) (k62 (decide (n_0=0))) (k62 (decide (n_0=1))))
def UI (r_0_b:(List UInt8)) (r_0_p:Int) (top_1:Int) (n_2:Int) (κ:(zh×Int)→Prop):Prop :=
 jx top_1 1 (fun t7=>zC r_0_b r_0_p (min 256 t7) (fun (r8,r9)=>jnW (fun ((t144,t145):(Int×Int))=>jnW (fun ((t147,t148):(Int×Int))=>xN r_0_b t147 n_2 (fun (r174,r175)=>ifW r174 (jnW (fun ((t176,t177,t178):(Int×Int×Int))=>κ ((zh.mk t177 t178),t176)) (fun k179=>zC r_0_b r175 3 (fun (r181,r182)=>zJ ([(zh.mk (w64 (t148+1)) t148),(zh.mk (-1) t148),(zh.mk t145 (w64 (top_1+1)))]) r181 (fun e183=>k179 (r182,e183.xLo,e183.xHi))))) (κ ((zh.mk t145 t148),r175)))) (fun k149=>zC r_0_b t144 4 (fun (r150,r151)=>zC r_0_b r151 256 (fun (r152,r153)=>zC r_0_b r153 4 (fun (r155,r156)=>zJ ([0,r150,r152,4096]) r155 (fun e157=>k149 (r156,(min top_1 (w64 (t145+e157)))))))))) (fun k146=>jnW (fun ((t74,t75):(Int×Bool))=>ifW t75 (jnW (fun ((t77,t78):(Int×Int))=>k146 (t77,t78)) (fun k79=>zC r_0_b t74 256 (fun (r80,r81)=>k79 (r81,(min top_1 (w64 ((w64 (r8 * 256))+r80))))))) (k146 (t74,r8))) (fun k76=>ifW (decide (255<top_1)) (zC r_0_b r9 2 (fun (r12,r13)=>k76 (r13,(decide (r12=0))))) (k76 (r9,false))))))
def Yf (r_0_b:(List UInt8)) (r_0_p:Int) (n_1:Int) (κ:(jY×Int)→Prop):Prop :=
 zC r_0_b r_0_p 4 (fun (r7,r8)=>zC r_0_b r8 4 (fun (r9,r10)=>uL r7 (fun r13=>UI r_0_b r10 r13 0 (fun (r14,r15)=>jnW (fun ((t152,t153,t154):(Int×Int×Int))=>jnW (fun ((t241,t242,t243):(Int×Int×Int))=>jnW (fun ((t317,t318,t319,t320):(Int×Int×Int×Int))=>κ ((jY.mk t318 t319 t320 (decide (r9=0))),t317)) (fun k321=>xN r_0_b t241 n_1 (fun (r245,r246)=>ifW r245 (zC r_0_b r246 3 (fun (r247,r248)=>ifW (decide (r247=0)) (zC r_0_b r248 2 (fun (r251,r252)=>zJ ([(-1),4]) r251 (fun e253=>k321 (r252,e253,t242,t243)))) (ifW (decide (r247=1)) (jx t243 1 (fun t255=>k321 (r248,r7,t255,t243))) (jx r13 1 (fun t256=>k321 (r248,r7,t242,t256)))))) (k321 (r246,r7,t242,t243))))) (fun k244=>zC r_0_b t152 8 (fun (r156,r157)=>ifW (decide (r156=0)) (jnW (fun ((t158,t159,t160):(Int×Int×Int))=>k244 (t158,t159,t160)) (fun k161=>zC r_0_b r157 3 (fun (r163,r164)=>zJ ([(zh.mk 0 r13),(zh.mk 0 t154),(zh.mk t153 r13)]) r163 (fun e165=>k161 (r164,e165.xLo,e165.xHi))))) (k244 (r157,t153,t154))))) (fun k155=>jnW (fun ((t80,t81):(Int×Bool))=>ifW t81 (zC r_0_b t80 20 (fun (r83,r84)=>jnW (fun ((t85,t86):(Int×Int))=>k155 (t85,r83,t86)) (fun k87=>zC r_0_b r84 8 (fun (r88,r89)=>k87 (r89,(w64 (r83+r88))))))) (k155 (t80,r14.xLo,r14.xHi))) (fun k82=>ifW (decide (r7<2)) (zC r_0_b r15 2 (fun (r18,r19)=>k82 (r19,(decide (r18=0))))) (k82 (r15,false))))))))
def ZE (r_0_b:(List UInt8)) (r_0_p:Int) (n_1:Int) (κ:((List jY)×Int)→Prop):Prop :=
 zC r_0_b r_0_p 4 (fun (r8,r9)=>jw (fun (nx16:(Int×(List jY)×Int)→Prop) ((t10,xs12,t15):(Int×(List jY)×Int))=>ifW (decide (0<t15)) (Yf r_0_b t10 0 (fun (r17,r18)=>jU xs12 ([r17]) (fun _=>Y5 t15 1 (fun t23=>nx16 (r18,(xs12++([r17])),t23))))) (jnW (fun ((t97,xs99):(Int×(List jY)))=>κ (xs99,t97)) (fun k102=>xN r_0_b t10 n_1 (fun (r24,r25)=>ifW r24 (zC r_0_b r25 2 (fun (r26,r27)=>ifW (decide (r26=0)) (Yf r_0_b r27 1 (fun (r28,r29)=>jU xs12 ([r28]) (fun _=>k102 (r29,(xs12++([r28])))))) (zaV ((jY.mk 0 0 0 false):jY) 7 7 (fun xs35=>k102 (r27,xs35))))) (k102 (r25,xs12)))))) (r9,[],r8))
def Zj (r_0_b:(List UInt8)) (r_0_p:Int) (first_1:Int) (chains_2:Int) (n_3:Int) (κ:(zD×Int)→Prop):Prop :=
 ZE r_0_b r_0_p 0 (fun (r7,r10)=>zC r_0_b r10 8 (fun (r13,r14)=>zJ ([1,1,2,2,3,3,4,5]) r13 (fun e15=>jnW (fun ((t86,t87,t88):(Int×Int×Int))=>jnW (fun ((t173,xs175,t178,t179):(Int×(List jY)×Int×Int))=>κ ((zD.mk xs175 t178 t179),t173)) (fun k180=>xN r_0_b t88 n_3 (fun (r90,r91)=>ifW r90 (zC r_0_b r91 3 (fun (r92,r93)=>ifW (decide (r92=0)) (zC r_0_b r93 2 (fun (r96,r97)=>zJ ([0,6]) r96 (fun e98=>k180 (r97,r7,e98,t87)))) (ifW (decide (r92=1)) (zC r_0_b r93 3 (fun (r102,r103)=>zJ ([(-1),5,1]) r102 (fun e104=>k180 (r103,r7,t86,e104)))) (ZE r_0_b r93 1 (fun (r106,r109)=>k180 (r109,r106,t86,t87)))))) (k180 (r91,r7,t86,t87))))) (fun k89=>ifW (decide (e15=3)) (ifW (decide (chains_2≤first_1)) (k89 (2,0,r14)) (Y5 chains_2 first_1 (fun t22=>zC r_0_b r14 t22 (fun (r23,r24)=>jx first_1 r23 (fun t25=>k89 (e15,t25,r24)))))) (k89 (e15,0,r14))))))
def XB (r_0_b:(List UInt8)) (r_0_p:Int) (first_1:Int) (chains_2:Int) (n_3:Int) (κ:((List zD)×Int)→Prop):Prop :=
 zC r_0_b r_0_p 5 (fun (r9,r10)=>jw (fun (nx18:(Int×(List zD)×Int)→Prop) ((t11,xs13,t17):(Int×(List zD)×Int))=>ifW (decide (0<t17)) (Zj r_0_b t11 first_1 chains_2 0 (fun (r19,r22)=>jU xs13 ([r19]) (fun _=>Y5 t17 1 (fun t32=>nx18 (r22,(xs13++([r19])),t32))))) (jnW (fun ((t122,xs124):(Int×(List zD)))=>κ (xs124,t122)) (fun k128=>xN r_0_b t11 n_3 (fun (r33,r34)=>ifW r33 (zC r_0_b r34 2 (fun (r35,r36)=>ifW (decide (r35=0)) (Zj r_0_b r36 first_1 chains_2 1 (fun (r37,r40)=>jU xs13 ([r37]) (fun _=>k128 (r40,(xs13++([r37])))))) (jw (fun (nx55:(List zD)→Prop) (xs51:(List zD))=>ifW (decide ((xs51.length:Int)≤8)) (jU xs51 ([(zD.mk ([]) 5 0)]) (fun _=>nx55 (xs51++([(zD.mk ([]) 5 0)])))) (k128 (r36,xs51))) xs13))) (k128 (r34,xs13)))))) (r10,[],r9))
def X5 (r_0_b:(List UInt8)) (r_0_p:Int) (n_1:Int) (κ:(zN×Int)→Prop):Prop :=
 zC r_0_b r_0_p 2 (fun (r7,r8)=>zC r_0_b r8 3 (fun (r11,r12)=>jx 1 r11 (fun t13=>jw (fun (nx21:(Int×(List (List zD))×Int)→Prop) ((t14,xs16,t20):(Int×(List (List zD))×Int))=>ifW (decide (t20<t13)) (jnW (fun ((xs25,t29):((List (List zD))×Int))=>jx t20 1 (fun t55=>nx21 (t29,xs25,t55))) (fun k30=>XB r_0_b t14 (w64 (t20+1)) t13 0 (fun (r31,r34)=>jU xs16 ([r31]) (fun _=>k30 ((xs16++([r31])),r34))))) (jnW (fun ((t253,xs255):(Int×(List (List zD))))=>κ ((zN.mk xs255 (decide (r7=0))),t253)) (fun k259=>xN r_0_b t14 n_1 (fun (r56,r57)=>ifW r56 (zC r_0_b r57 4 (fun (r58,r59)=>ifW (decide (r58=0)) (k259 (r59,[])) (ifW (decide (r58=1)) (jnW (fun ((xs69,t72):((List (List zD))×Int))=>k259 (t72,xs69)) (fun k73=>(zJ xs16 0 (fun e74=>zC r_0_b r59 2 (fun (r80,r81)=>zJ ([0,t13]) r80 (fun e82=>jU e74 ([(zD.mk ([]) 3 e82)]) (fun _=>zJ xs16 0 (fun e89=>k73 ((xs16.set (0:Int).toNat (e74++([(zD.mk ([]) 3 e82)]))),r81)))))))∧((zJ xs16 0 (fun e130=>zC r_0_b r59 2 (fun (r80,r81)=>zJ ([0,t13]) r80 (fun e82=>jU e130 ([(zD.mk ([]) 3 e82)]) (fun _=>zJ xs16 0 (fun e89=>k73 ((xs16.set (0:Int).toNat (e130++([(zD.mk ([]) 3 e82)]))),r81)))))))∧(zC r_0_b r59 2 (fun (r132,r133)=>(zJ xs16 0 (fun e134=>zJ ([0,t13]) r132 (fun e82=>jU e134 ([(zD.mk ([]) 3 e82)]) (fun _=>zJ xs16 0 (fun e89=>k73 ((xs16.set (0:Int).toNat (e134++([(zD.mk ([]) 3 e82)]))),r133))))))∧(zJ ([0,t13]) r132 (fun e136=>zJ xs16 0 (fun e138=>jU e138 ([(zD.mk ([]) 3 e136)]) (fun _=>zJ xs16 0 (fun e89=>k73 ((xs16.set (0:Int).toNat (e138++([(zD.mk ([]) 3 e136)]))),r133)))))))))∧(zC r_0_b r59 2 (fun (r151,r152)=>(zJ xs16 0 (fun e153=>zJ ([0,t13]) r151 (fun e82=>jU e153 ([(zD.mk ([]) 3 e82)]) (fun _=>zJ xs16 0 (fun e89=>k73 ((xs16.set (0:Int).toNat (e153++([(zD.mk ([]) 3 e82)]))),r152))))))∧((zJ xs16 0 (fun e134=>zJ ([0,t13]) r151 (fun e82=>jU e134 ([(zD.mk ([]) 3 e82)]) (fun _=>zJ xs16 0 (fun e89=>k73 ((xs16.set (0:Int).toNat (e134++([(zD.mk ([]) 3 e82)]))),r152))))))∧(zJ ([0,t13]) r151 (fun e136=>zJ xs16 0 (fun e138=>jU e138 ([(zD.mk ([]) 3 e136)]) (fun _=>zJ xs16 0 (fun e89=>k73 ((xs16.set (0:Int).toNat (e138++([(zD.mk ([]) 3 e136)]))),r152))))))))))) (ifW (decide (r58=2)) (Y5 t13 1 (fun t156=>zJ xs16 t156 (fun e160=>Y5 t13 1 (fun t167=>zJ (xs16.set (t156).toNat ([(zD.mk ([]) 3 0)])) 0 (fun e171=>k259 (r59,((xs16.set (t156).toNat ([(zD.mk ([]) 3 0)])).set (0:Int).toNat ([(zD.mk ([]) 3 t167)])))))))) (XB r_0_b r59 1 t13 1 (fun (r181,r185)=>zJ xs16 0 (fun e186=>k259 (r185,(xs16.set (0:Int).toNat r181))))))))) (k259 (r57,xs16)))))) (r12,[],0))))
def js (n_0:Int) (κ:Int→Prop):Prop :=
 jnW (fun (t61:Bool)=>ifW t61 (κ (-1)) (zJ zA n_0 (fun e63=>κ e63.xTop))) (fun k62=>ifW (decide (n_0<0)) (k62 true) (k62 (decide (4≤n_0))))
def YB (t_0:jY) (κ:Bool→Prop):Prop :=
 jnW (fun (t64:Bool)=>κ t64) (fun k65=>ifW (decide (0≤t_0.xField)) (ifW (decide (t_0.xField<4)) (ifW (decide (0≤t_0.xLo)) (ifW (decide (t_0.xLo≤t_0.xHi)) (js t_0.xField (fun r3=>k65 (decide (t_0.xHi≤r3)))) (k65 false)) (k65 false)) (k65 false)) (k65 false))
def XV (list_0:(List jY)) (κ:Bool→Prop):Prop :=
 ifW (decide (6<(list_0.length:Int))) (κ false) (jw (fun (nx4:Int→Prop) (t3:Int)=>ifW (decide (t3<(list_0.length:Int))) (zJ list_0 t3 (fun e5=>YB e5 (fun r9=>ifW (!r9) (κ false) (jx t3 1 (fun t10=>nx4 t10))))) (κ true)) 0)
def Yz (r_0:zD) (κ:Bool→Prop):Prop :=
 XV r_0.xTests (fun r8=>ifW (!r8) (κ false) (ifW (decide (r_0.xAction=3)) (jnW (fun (t69:Bool)=>κ t69) (fun k70=>ifW (decide (0≤r_0.xChain)) (k70 (decide (r_0.xChain<5))) (k70 false))) (jnW (fun (t131:Bool)=>ifW t131 (κ (decide (r_0.xChain=0))) (κ false)) (fun k132=>ifW (decide (r_0.xAction=1)) (k132 (decide (r_0.xAction=1))) (ifW (decide (r_0.xAction=2)) (k132 (decide (r_0.xAction=2))) (ifW (decide (r_0.xAction=4)) (k132 (decide (r_0.xAction=4))) (k132 (decide (r_0.xAction=5)))))))))
def X3 (list_0:(List zD)) (κ:Bool→Prop):Prop :=
 ifW (decide (8<(list_0.length:Int))) (κ false) (jw (fun (nx4:Int→Prop) (t3:Int)=>ifW (decide (t3<(list_0.length:Int))) (zJ list_0 t3 (fun e5=>Yz e5 (fun r16=>ifW (!r16) (κ false) (jx t3 1 (fun t17=>nx4 t17))))) (κ true)) 0)
def Yh (rules_0:(List zD)) (κ:(List Int)→Prop):Prop :=
 jw (fun (nx9:((List Bool)×Int)→Prop) ((xs6,t8):((List Bool)×Int))=>ifW (decide (t8<(rules_0.length:Int))) (jnW (fun (xs84:(List Bool))=>jx t8 1 (fun t87=>nx9 (xs84,t87))) (fun k86=>zJ rules_0 t8 (fun e10=>ifW (decide (e10.xAction=3)) (zJ xs6 e10.xChain (fun e21=>k86 (xs6.set (e10.xChain).toNat true))) (k86 xs6)))) (znK xs6 (fun e89 e90 e91 e92 e93=>jw (fun (nx100:((List Int)×Int)→Prop) ((xs96,t99):((List Int)×Int))=>ifW (decide (t99<5)) (jnW (fun (xs166:(List Int))=>jx t99 1 (fun t170=>nx100 (xs166,t170))) (fun k169=>zJ ([e89,e90,e91,e92,e93]) t99 (fun e101=>ifW e101 (jU xs96 ([t99]) (fun _=>k169 (xs96++([t99])))) (k169 xs96)))) (κ xs96)) ([],0)))) ([false,false,false,false,false],0)
def X7 (rec:((List (List zD))→Int→(List Int)→((Bool×(List Int))→Prop)→Prop)) (chains_0:(List (List zD))) (chain_1:Int) (colours_2:(List Int)) (κ:(Bool×(List Int))→Prop):Prop :=
 ifW (decide ((chains_0.length:Int)≤chain_1)) (κ (true,colours_2)) (zJ colours_2 chain_1 (fun e5=>ifW (decide (e5=1)) (κ (false,colours_2)) (ifW (decide (e5=2)) (κ (true,colours_2)) (zJ colours_2 chain_1 (fun e7=>zJ chains_0 chain_1 (fun e10=>Yh e10 (fun r16=>jw (fun (nx23:((List Int)×Bool×Int)→Prop) ((xs19,t21,t22):((List Int)×Bool×Int))=>ifW (decide (t22<(r16.length:Int))) (jnW (fun ((xs89,t91):((List Int)×Bool))=>jx t22 1 (fun t93=>nx23 (xs89,t91,t93))) (fun k92=>zJ r16 t22 (fun e24=>rec chains_0 e24 xs19 (fun (r26,r27)=>ifW (!r26) (k92 (r27,false)) (k92 (r27,t21)))))) (zJ xs19 chain_1 (fun e94=>κ (t21,(xs19.set (chain_1).toNat 2))))) ((colours_2.set (chain_1).toNat 1),true,0))))))))
def yd:Nat→(List (List zD))→Int→(List Int)→((Bool×(List Int))→Prop)→Prop
 | 0=>fun _ _ _ _=>False
 | n+1=>X7 (yd n)
def VX (chains_0:(List (List zD))) (chain_1:Int) (colours_2:(List Int)) (κ:(Bool×(List Int))→Prop):Prop:=∃ n,yd n chains_0 chain_1 colours_2 κ
def Un (chains_0:(List (List zD))) (κ:Bool→Prop):Prop :=
 jw (fun (nx8:((List Int)×Int)→Prop) ((xs5,t7):((List Int)×Int))=>ifW (decide (t7<(chains_0.length:Int))) (VX chains_0 t7 xs5 (fun (r9,r10)=>ifW (!r9) (κ false) (jx t7 1 (fun t12=>nx8 (r10,t12))))) (κ true)) ([0,0,0,0,0],0)
def yP (s_0:zN) (κ:Bool→Prop):Prop :=
 jnW (fun (t68:Bool)=>ifW t68 (κ false) (jw (fun (nx71:Int→Prop) (t70:Int)=>ifW (decide (t70<(s_0.xChains.length:Int))) (zJ s_0.xChains t70 (fun e72=>X3 e72 (fun r78=>ifW (!r78) (κ false) (jx t70 1 (fun t79=>nx71 t79))))) (jw (fun (nx81:Int→Prop) (t80:Int)=>ifW (decide (t80<(s_0.xChains.length:Int))) (zJ s_0.xChains t80 (fun e82=>Yh e82 (fun r88=>jw (fun (nx92:Int→Prop) (t91:Int)=>ifW (decide (t91<(r88.length:Int))) (zJ r88 t91 (fun e93=>ifW (decide ((s_0.xChains.length:Int)≤e93)) (κ false) (jx t91 1 (fun t95=>nx92 t95)))) (jx t80 1 (fun t96=>nx81 t96))) 0))) (Un s_0.xChains (fun r97=>κ r97))) 0)) 0)) (fun k69=>ifW (decide ((s_0.xChains.length:Int)<1)) (k69 true) (k69 (decide (5<(s_0.xChains.length:Int)))))
def ZI (r_0:zD) (κ:x9→Prop):Prop :=
 ifW (decide (r_0.xAction=1)) (κ (x9.kDeciding (u9.mk true))) (ifW (decide (r_0.xAction=2)) (κ (x9.kDeciding (u9.mk false))) (ifW (decide (r_0.xAction=3)) (κ (x9.kCalling (Z8.mk r_0.xChain))) (ifW (decide (r_0.xAction=4)) (κ (x9.kReturning (uA.mk ))) (κ (x9.kPassing (yl.mk ))))))
def Xw (a_0:(List zh)) (b_1:(List zh)) (κ:(Int×Bool)→Prop):Prop :=
 jw (fun (nx7:(Int×Int)→Prop) ((t5,t6):(Int×Int))=>jnW (fun (t68:Bool)=>ifW t68 (zJ a_0 t5 (fun e70=>zJ b_1 t6 (fun e72=>zJ a_0 t5 (fun e74=>zJ b_1 t6 (fun e76=>ifW (decide ((max e70.xLo e72.xLo)≤(min e74.xHi e76.xHi))) (κ ((max e70.xLo e72.xLo),true)) (zJ a_0 t5 (fun e78=>zJ b_1 t6 (fun e80=>ifW (decide (e78.xHi<e80.xHi)) (jx t5 1 (fun t82=>nx7 (t82,t6))) (jx t6 1 (fun t83=>nx7 (t5,t83))))))))))) (κ (0,false))) (fun k69=>ifW (decide (t5<(a_0.length:Int))) (k69 (decide (t6<(b_1.length:Int)))) (k69 false))) (0,0)
def Vf (fields_0:zd3) (κ:zW→Prop):Prop :=
 zJ ([fields_0.x0,fields_0.x1,fields_0.x2,fields_0.x3]) 0 (fun e5=>zJ ([fields_0.x0,fields_0.x1,fields_0.x2,fields_0.x3]) 1 (fun e7=>zJ ([fields_0.x0,fields_0.x1,fields_0.x2,fields_0.x3]) 2 (fun e9=>zJ ([fields_0.x0,fields_0.x1,fields_0.x2,fields_0.x3]) 3 (fun e11=>κ (zW.mk e5 e7 e9 e11)))))
def yt (s_0:za) (other_1:za) (κ:(zW×Bool)→Prop):Prop :=
 jw (fun (nx52:((List Int)×Int)→Prop) ((xs49,t51):((List Int)×Int))=>ifW (decide (t51<4)) (jnW (fun ((t53,t54):(Int×Bool))=>ifW (!t54) (κ ((zW.mk 0 0 0 0),false)) (zJ xs49 t51 (fun e78=>jx t51 1 (fun t81=>nx52 ((xs49.set (t51).toNat t53),t81))))) (fun k55=>zJ ([s_0.x0,s_0.x1,s_0.x2,s_0.x3]) t51 (fun e56=>zJ ([other_1.x0,other_1.x1,other_1.x2,other_1.x3]) t51 (fun e58=>Xw e56 e58 (fun (r68,r69)=>k55 (r68,r69)))))) (zgB xs49 (fun e82 e83 e84 e85=>Vf (zd3.mk e82 e83 e84 e85) (fun r87=>κ (r87,true))))) ([0,0,0,0],0)
def uJ (s_0:za) (other_1:za) (κ:Bool→Prop):Prop :=
 yt s_0 other_1 (fun (r75,r76)=>κ r76)
def yH (list_0:(List zh)) (κ:((List zh)×Bool)→Prop):Prop :=
 ifW (decide (40<(list_0.length:Int))) (κ ([],false)) (κ (list_0,true))
def uI (rest_0:(List zh)) (at_1:Int) (top_2:Int) (κ:(Bool×Int)→Prop):Prop :=
 ifW (decide ((rest_0.length:Int)=0)) (κ (false,top_2)) (zJ rest_0 0 (fun e3=>ifW (decide (at_1<e3.xLo)) (zJ rest_0 0 (fun e5=>Y5 e5.xLo 1 (fun t7=>κ (false,t7)))) (zJ rest_0 0 (fun e8=>κ (true,e8.xHi)))))
def YT (inA_0:Bool) (inB_1:Bool) (κ:Bool→Prop):Prop :=
 jnW (fun (t61:Bool)=>κ t61) (fun k62=>ifW inA_0 (k62 inB_1) (k62 false))
def uR (a_0:(List zh)) (b_1:(List zh)) (top_2:Int) (κ:(List zh)→Prop):Prop :=
 jw (fun (nx14:((List zh)×Int×Int×Int)→Prop) ((xs8,t11,t12,t13):((List zh)×Int×Int×Int))=>ifW (decide (t13≤top_2)) (jw (fun (nx16:Int→Prop) (t15:Int)=>jnW (fun (t79:Bool)=>ifW t79 (jx t15 1 (fun t81=>nx16 t81)) (jw (fun (nx83:Int→Prop) (t82:Int)=>jnW (fun (t146:Bool)=>ifW t146 (jx t82 1 (fun t148=>nx83 t148)) (yZ a_0 t15 (a_0.length:Int) (fun xs150=>uI xs150 t13 top_2 (fun (r153,r154)=>yZ b_1 t82 (b_1.length:Int) (fun xs156=>uI xs156 t13 top_2 (fun (r159,r160)=>jnW (fun (xs296:(List zh))=>jx (min r154 r160) 1 (fun t300=>nx14 (xs296,t15,t82,t300))) (fun k299=>YT r153 r159 (fun r161=>ifW r161 (jnW (fun (t226:Bool)=>ifW t226 (Y5 (xs8.length:Int) 1 (fun t228=>zJ xs8 t228 (fun e229=>k299 (xs8.set (t228).toNat (zh.mk e229.xLo (min r154 r160)))))) (jU xs8 ([(zh.mk t13 (min r154 r160))]) (fun _=>k299 (xs8++([(zh.mk t13 (min r154 r160))]))))) (fun k227=>ifW (decide (0<(xs8.length:Int))) (Y5 (xs8.length:Int) 1 (fun t162=>zJ xs8 t162 (fun e163=>jx e163.xHi 1 (fun t165=>k227 (decide (t165=t13)))))) (k227 false))) (k299 xs8))))))))) (fun k147=>ifW (decide (t82<(b_1.length:Int))) (zJ b_1 t82 (fun e84=>k147 (decide (e84.xHi<t13)))) (k147 false))) t12)) (fun k80=>ifW (decide (t15<(a_0.length:Int))) (zJ a_0 t15 (fun e17=>k80 (decide (e17.xHi<t13)))) (k80 false))) t11) (κ xs8)) ([],0,0,0)
def xj (a_0:(List zh)) (b_1:(List zh)) (top_2:Int) (κ:((List zh)×Bool)→Prop):Prop :=
 uR a_0 b_1 top_2 (fun r6=>yH r6 (fun (r9,r12)=>κ (r9,r12)))
def yJ (s_0:za) (other_1:za) (κ:(za×Bool)→Prop):Prop :=
 jw (fun (nx52:((List (List zh))×Int)→Prop) ((xs49,t51):((List (List zh))×Int))=>ifW (decide (t51<4)) (jnW (fun ((xs53,t56):((List zh)×Bool))=>ifW (!t56) (κ ((za.mk ([]) ([]) ([]) ([])),false)) (zJ xs49 t51 (fun e122=>jx t51 1 (fun t128=>nx52 ((xs49.set (t51).toNat xs53),t128))))) (fun k57=>zJ ([s_0.x0,s_0.x1,s_0.x2,s_0.x3]) t51 (fun e58=>zJ ([other_1.x0,other_1.x1,other_1.x2,other_1.x3]) t51 (fun e60=>js t51 (fun r70=>xj e58 e60 r70 (fun (r71,r73)=>k57 (r71,r73))))))) (zgB xs49 (fun e129 e130 e131 e132=>κ ((za.mk e129 e130 e131 e132),true)))) ([[],[],[],[]],0)
def xA (u_0_chains:(List (List zD))) (u_0_flats:(List zn)) (u_0_over:Bool) (boxes_1:(List za)) (κ:((List za)×Bool)→Prop):Prop :=
 jnW (fun (t70:Bool)=>κ (boxes_1,t70)) (fun k71=>ifW (decide (400<(boxes_1.length:Int))) (k71 true) (k71 u_0_over))
def yp (s_0:za) (κ:Bool→Prop):Prop :=
 jw (fun (nx39:Int→Prop) (t38:Int)=>ifW (decide (t38<4)) (zJ ([s_0.x0,s_0.x1,s_0.x2,s_0.x3]) t38 (fun e41=>ifW (decide ((e41.length:Int)=0)) (κ true) (jx t38 1 (fun t44=>nx39 t44)))) (κ false)) 0
def Zo (inA_0:Bool) (inB_1:Bool) (κ:Bool→Prop):Prop :=
 jnW (fun (t61:Bool)=>κ t61) (fun k62=>ifW inA_0 (k62 (!inB_1)) (k62 false))
def xx (a_0:(List zh)) (b_1:(List zh)) (top_2:Int) (κ:(List zh)→Prop):Prop :=
 jw (fun (nx14:((List zh)×Int×Int×Int)→Prop) ((xs8,t11,t12,t13):((List zh)×Int×Int×Int))=>ifW (decide (t13≤top_2)) (jw (fun (nx16:Int→Prop) (t15:Int)=>jnW (fun (t79:Bool)=>ifW t79 (jx t15 1 (fun t81=>nx16 t81)) (jw (fun (nx83:Int→Prop) (t82:Int)=>jnW (fun (t146:Bool)=>ifW t146 (jx t82 1 (fun t148=>nx83 t148)) (yZ a_0 t15 (a_0.length:Int) (fun xs150=>uI xs150 t13 top_2 (fun (r153,r154)=>yZ b_1 t82 (b_1.length:Int) (fun xs156=>uI xs156 t13 top_2 (fun (r159,r160)=>jnW (fun (xs296:(List zh))=>jx (min r154 r160) 1 (fun t300=>nx14 (xs296,t15,t82,t300))) (fun k299=>Zo r153 r159 (fun r161=>ifW r161 (jnW (fun (t226:Bool)=>ifW t226 (Y5 (xs8.length:Int) 1 (fun t228=>zJ xs8 t228 (fun e229=>k299 (xs8.set (t228).toNat (zh.mk e229.xLo (min r154 r160)))))) (jU xs8 ([(zh.mk t13 (min r154 r160))]) (fun _=>k299 (xs8++([(zh.mk t13 (min r154 r160))]))))) (fun k227=>ifW (decide (0<(xs8.length:Int))) (Y5 (xs8.length:Int) 1 (fun t162=>zJ xs8 t162 (fun e163=>jx e163.xHi 1 (fun t165=>k227 (decide (t165=t13)))))) (k227 false))) (k299 xs8))))))))) (fun k147=>ifW (decide (t82<(b_1.length:Int))) (zJ b_1 t82 (fun e84=>k147 (decide (e84.xHi<t13)))) (k147 false))) t12)) (fun k80=>ifW (decide (t15<(a_0.length:Int))) (zJ a_0 t15 (fun e17=>k80 (decide (e17.xHi<t13)))) (k80 false))) t11) (κ xs8)) ([],0,0,0)
def ut (a_0:(List zh)) (b_1:(List zh)) (top_2:Int) (κ:((List zh)×Bool)→Prop):Prop :=
 xx a_0 b_1 top_2 (fun r6=>yH r6 (fun (r9,r12)=>κ (r9,r12)))
def XP {σ_:Type} (Y_:σ_→za→Bool→(Bool×σ_→Prop)→Prop) (z_:σ_) (a_1:za) (b_2:za) (κ:σ_→Prop):Prop :=
 yp a_1 (fun r20=>ifW r20 (κ z_) (uJ a_1 b_2 (fun r51=>ifW (!r51) (Y_ z_ a_1 true (fun (t67,z68)=>κ z68)) (jw (fun (nx108:((List (List zh))×σ_×Bool×Int)→Prop) ((xs101,z103,t106,t107):((List (List zh))×σ_×Bool×Int))=>ifW (decide (t107<4)) (jnW (fun ((z498,xs501,t503):(σ_×(List (List zh))×Bool))=>jx t107 1 (fun t505=>nx108 (xs501,z498,t503,t505))) (fun k504=>jnW (fun ((xs109,t112):((List zh)×Bool))=>jnW (fun (t232:Bool)=>ifW t232 (Y_ z103 (za.mk ([]) ([]) ([]) ([])) false (fun (t234,z235)=>κ z235)) (jnW (fun ((z363,xs366):(σ_×(List (List zh))))=>jnW (fun ((xs369,t372):((List zh)×Bool))=>zJ xs366 t107 (fun e432=>ifW t106 (k504 (z363,(xs366.set (t107).toNat xs369),t372)) (k504 (z363,(xs366.set (t107).toNat xs369),false)))) (fun k373=>(zJ ([a_1.x0,a_1.x1,a_1.x2,a_1.x3]) t107 (fun e374=>(zJ ([b_2.x0,b_2.x1,b_2.x2,b_2.x3]) t107 (fun e379=>js t107 (fun r384=>xj e374 e379 r384 (fun (r385,r387)=>k373 (r385,r387)))))∧(js t107 (fun r388=>zJ ([b_2.x0,b_2.x1,b_2.x2,b_2.x3]) t107 (fun e389=>xj e374 e389 r388 (fun (r394,r396)=>k373 (r394,r396)))))))∧(zJ ([b_2.x0,b_2.x1,b_2.x2,b_2.x3]) t107 (fun e397=>(zJ ([a_1.x0,a_1.x1,a_1.x2,a_1.x3]) t107 (fun e402=>js t107 (fun r407=>xj e402 e397 r407 (fun (r385,r387)=>k373 (r385,r387)))))∧(js t107 (fun r408=>zJ ([a_1.x0,a_1.x1,a_1.x2,a_1.x3]) t107 (fun e409=>xj e409 e397 r408 (fun (r414,r416)=>k373 (r414,r416)))))))∧(js t107 (fun r417=>(zJ ([a_1.x0,a_1.x1,a_1.x2,a_1.x3]) t107 (fun e418=>zJ ([b_2.x0,b_2.x1,b_2.x2,b_2.x3]) t107 (fun e423=>xj e418 e423 r417 (fun (r394,r396)=>k373 (r394,r396)))))∧(zJ ([b_2.x0,b_2.x1,b_2.x2,b_2.x3]) t107 (fun e425=>zJ ([a_1.x0,a_1.x1,a_1.x2,a_1.x3]) t107 (fun e430=>xj e430 e425 r417 (fun (r414,r416)=>k373 (r414,r416))))))))) (fun k368=>ifW (decide (0<(xs109.length:Int))) (zgB xs101 (fun e238 e239 e240 e241=>zJ ([e238,e239,e240,e241]) t107 (fun e273=>zgB (([e238,e239,e240,e241]).set (t107).toNat xs109) (fun e279 e280 e281 e282=>Y_ z103 (za.mk e279 e280 e281 e282) true (fun (t299,z300)=>ifW (!t299) (κ z300) (k368 (z300,[e238,e239,e240,e241]))))))) (k368 (z103,xs101))))) (fun k233=>ifW (!t112) (k233 true) (ifW (decide (0<(xs109.length:Int))) (k233 (!t106)) (k233 false)))) (fun k113=>(zJ ([a_1.x0,a_1.x1,a_1.x2,a_1.x3]) t107 (fun e114=>(zJ ([b_2.x0,b_2.x1,b_2.x2,b_2.x3]) t107 (fun e119=>js t107 (fun r124=>ut e114 e119 r124 (fun (r125,r127)=>k113 (r125,r127)))))∧(js t107 (fun r128=>zJ ([b_2.x0,b_2.x1,b_2.x2,b_2.x3]) t107 (fun e129=>ut e114 e129 r128 (fun (r134,r136)=>k113 (r134,r136)))))))∧(zJ ([b_2.x0,b_2.x1,b_2.x2,b_2.x3]) t107 (fun e137=>(zJ ([a_1.x0,a_1.x1,a_1.x2,a_1.x3]) t107 (fun e142=>js t107 (fun r147=>ut e142 e137 r147 (fun (r125,r127)=>k113 (r125,r127)))))∧(js t107 (fun r148=>zJ ([a_1.x0,a_1.x1,a_1.x2,a_1.x3]) t107 (fun e149=>ut e149 e137 r148 (fun (r154,r156)=>k113 (r154,r156)))))))∧(js t107 (fun r157=>(zJ ([a_1.x0,a_1.x1,a_1.x2,a_1.x3]) t107 (fun e158=>zJ ([b_2.x0,b_2.x1,b_2.x2,b_2.x3]) t107 (fun e163=>ut e158 e163 r157 (fun (r134,r136)=>k113 (r134,r136)))))∧(zJ ([b_2.x0,b_2.x1,b_2.x2,b_2.x3]) t107 (fun e165=>zJ ([a_1.x0,a_1.x1,a_1.x2,a_1.x3]) t107 (fun e170=>ut e170 e165 r157 (fun (r154,r156)=>k113 (r154,r156)))))))))) (κ z103)) ([a_1.x0,a_1.x1,a_1.x2,a_1.x3],z_,true,0)))))
def zaC (z:Option (List za)) (x:za) (ok:Bool) (κ:Bool×Option (List za)→Prop):Prop :=
 match z with
 | none=>False
 | some xs=>ifW ok (jU xs [x] (fun ys=>κ (true,some ys))) (κ (false,none))
def znf:Option (List za)→List za×Bool
 | some xs=>(xs,true)
 | none=>([],false)
def yq (s_0:za) (other_1:za) (κ:((List za)×Bool)→Prop):Prop :=
 XP zaC (some []) s_0 other_1 (fun r=>κ (znf r))
def yW (u_0_chains:(List (List zD))) (u_0_flats:(List zn)) (u_0_over:Bool) (boxes_1:(List za)) (where_2:za) (κ:((List za)×(List za)×Bool)→Prop):Prop :=
 jw (fun (nx42:((List za)×(List za)×Int)→Prop) ((xs34,xs38,t41):((List za)×(List za)×Int))=>ifW (decide (t41<(boxes_1.length:Int))) (zJ boxes_1 t41 (fun e43=>jnW (fun (xs252:(List za))=>yq e43 where_2 (fun (r286,r289)=>ifW (!r289) (κ ([],[],true)) (jU xs38 r286 (fun _=>jx t41 1 (fun t294=>nx42 (xs252,(xs38++r286),t294)))))) (fun k255=>uJ e43 where_2 (fun r103=>ifW r103 (yJ e43 where_2 (fun (r134,r143)=>ifW (!r143) (κ ([],[],true)) (jU xs34 ([r134]) (fun _=>k255 (xs34++([r134])))))) (k255 xs34))))) (xA u_0_chains u_0_flats u_0_over xs34 (fun (r295,r298)=>xA u_0_chains u_0_flats r298 xs38 (fun (r299,r302)=>κ (r295,r299,r302))))) ([],[],0)
def ZF (κ:za→Prop):Prop :=
 jw (fun (nx8:((List (List zh))×Int)→Prop) ((xs5,t7):((List (List zh))×Int))=>ifW (decide (t7<4)) (js t7 (fun r9=>zJ xs5 t7 (fun e12=>jx t7 1 (fun t18=>nx8 ((xs5.set (t7).toNat ([(zh.mk 0 r9)])),t18))))) (zgB xs5 (fun e19 e20 e21 e22=>κ (za.mk e19 e20 e21 e22)))) ([[],[],[],[]],0)
def ZN (t_0:jY) (κ:(List zh)→Prop):Prop :=
 ifW (!t_0.xNot) (κ ([(zh.mk t_0.xLo t_0.xHi)])) (jnW (fun (xs72:(List zh))=>jnW (fun (xs142:(List zh))=>κ xs142) (fun k145=>js t_0.xField (fun r76=>ifW (decide (t_0.xHi<r76)) (jx t_0.xHi 1 (fun t77=>jU xs72 ([(zh.mk t77 r76)]) (fun _=>k145 (xs72++([(zh.mk t77 r76)]))))) (k145 xs72)))) (fun k75=>ifW (decide (0<t_0.xLo)) (Y5 t_0.xLo 1 (fun t7=>jU ([]) ([(zh.mk 0 t7)]) (fun _=>k75 (([])++([(zh.mk 0 t7)]))))) (k75 ([]))))
def XZ (list_0:(List jY)) (κ:za→Prop):Prop :=
 ZF (fun r5=>jw (fun (nx32:((List (List zh))×Int)→Prop) ((xs29,t31):((List (List zh))×Int))=>ifW (decide (t31<(list_0.length:Int))) (zJ list_0 t31 (fun e33=>jnW (fun (xs37:(List (List zh)))=>jx t31 1 (fun t76=>nx32 (xs37,t76))) (fun k39=>(zJ xs29 e33.xField (fun e40=>ZN e33 (fun r46=>js e33.xField (fun r48=>xj e40 r46 r48 (fun (r49,r51)=>zJ xs29 e33.xField (fun e52=>k39 (xs29.set (e33.xField).toNat r49)))))))∧(ZN e33 (fun r69=>(zJ xs29 e33.xField (fun e71=>js e33.xField (fun r48=>xj e71 r69 r48 (fun (r49,r51)=>zJ xs29 e33.xField (fun e52=>k39 (xs29.set (e33.xField).toNat r49))))))∧(js e33.xField (fun r73=>zJ xs29 e33.xField (fun e74=>xj e74 r69 r73 (fun (r49,r51)=>zJ xs29 e33.xField (fun e52=>k39 (xs29.set (e33.xField).toNat r49))))))))))) (zgB xs29 (fun e77 e78 e79 e80=>κ (za.mk e77 e78 e79 e80)))) ([r5.x0,r5.x1,r5.x2,r5.x3],0))
def uV (s_0:(List za)) (n_1:Int) (κ:(List za)→Prop):Prop:=s_0=[]∧0≤n_1∧n_1≤4294967296∧κ []
def xn (slices_0:(List (List za))) (κ:(List za)→Prop):Prop :=
 jw (fun (nx6:(Int×Int)→Prop) ((t4,t5):(Int×Int))=>ifW (decide (t5<(slices_0.length:Int))) (zJ slices_0 t5 (fun e7=>jx t4 (e7.length:Int) (fun t13=>ifW (decide (t13<0)) (False) (jx t5 1 (fun t14=>nx6 (t13,t14)))))) (uV ([]) t4 (fun r15=>jw (fun (nx23:((List za)×Int)→Prop) ((xs19,t22):((List za)×Int))=>ifW (decide (t22<(slices_0.length:Int))) (zJ slices_0 t22 (fun e24=>jU xs19 e24 (fun _=>jx t22 1 (fun t32=>nx23 ((xs19++e24),t32))))) (κ xs19)) (r15,0)))) (0,0)
def ye (d_0:u9) (u_1_chains:(List (List zD))) (u_1_flats:(List zn)) (u_1_over:Bool) (__2:(List za)) (fitting_3:(List za)) (missing_4:(List za)) (κ:((List za)×(List zn)×Bool)→Prop):Prop :=
 jw (fun (nx23:((List zn)×Int)→Prop) ((xs19,t22):((List zn)×Int))=>ifW (decide (t22<(fitting_3.length:Int))) (zJ fitting_3 t22 (fun e24=>jnW (fun (xs57:(List zn))=>jx t22 1 (fun t113=>nx23 (xs57,t113))) (fun k60=>jU xs19 ([(zn.mk e24 d_0.xAccept)]) (fun _=>k60 (xs19++([(zn.mk e24 d_0.xAccept)])))))) (jnW (fun (t174:Bool)=>κ (missing_4,xs19,t174)) (fun k175=>ifW (decide (60<(xs19.length:Int))) (k175 true) (k175 u_1_over)))) (u_1_flats,0)
def Xh (a_0:uA) (__1_chains:(List (List zD))) (__1_flats:(List zn)) (__1_over:Bool) (left_2:(List za)) (fitting_3:(List za)) (missing_4:(List za)) (κ:((List za)×(List za))→Prop):Prop :=
 jU left_2 fitting_3 (fun _=>κ (missing_4,(left_2++fitting_3)))
def XS (a_0:yl) (__1_chains:(List (List zD))) (__1_flats:(List zn)) (__1_over:Bool) (__2:(List za)) (fitting_3:(List za)) (missing_4:(List za)) (κ:(List za)→Prop):Prop :=
 xn ([missing_4,fitting_3]) (fun r26=>κ r26)
def XT (rec:(List (List zD))→(List zn)→Bool→Int→(List za)→(((List za)×(List zn)×Bool)→Prop)→Prop) (c_0:Z8) (u_1_chains:(List (List zD))) (u_1_flats:(List zn)) (u_1_over:Bool) (__2:(List za)) (fitting_3:(List za)) (missing_4:(List za)) (κ:((List za)×(List zn)×Bool)→Prop):Prop :=
 rec u_1_chains u_1_flats u_1_over c_0.xChain fitting_3 (fun (r18,r21,r24)=>xn ([missing_4,r18]) (fun r33=>κ (r33,r21,r24)))
def ZA (rec:((List (List zD))→(List zn)→Bool→Int→(List za)→(((List za)×(List zn)×Bool)→Prop)→Prop)) (u_0_chains:(List (List zD))) (u_0_flats:(List zn)) (u_0_over:Bool) (number_1:Int) (boxes_2:(List za)) (κ:((List za)×(List zn)×Bool)→Prop):Prop :=
 ifW (decide ((boxes_2.length:Int)=0)) (κ ([],u_0_flats,u_0_over)) (zJ u_0_chains number_1 (fun e14=>jw (fun (nx34:((List za)×(List zn)×Bool×(List za)×Int)→Prop) ((xs21,xs25,t28,xs30,t33):((List za)×(List zn)×Bool×(List za)×Int))=>ifW (decide (t33<(e14.length:Int))) (jnW (fun ((xs171,xs174,t177,xs179):((List zn)×(List za)×Bool×(List za)))=>jx t33 1 (fun t183=>nx34 (xs174,xs171,t177,xs179,t183))) (fun k182=>zJ e14 t33 (fun e35=>XZ e35.xTests (fun r46=>yW u_0_chains xs25 t28 xs30 r46 (fun (r55,r58,r61)=>ifW r61 (κ ([],xs25,r61)) (ZI e35 (fun r63=>x9.casesW r63 (fun x64=>ye x64 u_0_chains xs25 r61 xs21 r55 r58 (fun (r68,r71,r74)=>xA u_0_chains r71 r74 r68 (fun (r75,r78)=>ifW r78 (κ ([],r71,r78)) (k182 (r71,xs21,r78,r75))))) (fun x65=>XT rec x65 u_0_chains xs25 r61 xs21 r55 r58 (fun (r80,r83,r86)=>xA u_0_chains r83 r86 r80 (fun (r87,r90)=>ifW r90 (κ ([],r83,r90)) (k182 (r83,xs21,r90,r87))))) (fun x66=>Xh (uA.mk ) u_0_chains xs25 r61 xs21 r55 r58 (fun (r92,r95)=>xA u_0_chains xs25 r61 r92 (fun (r98,r101)=>ifW r101 (κ ([],xs25,r101)) (k182 (xs25,r95,r101,r98))))) (fun x67=>XS (yl.mk ) u_0_chains xs25 r61 xs21 r55 r58 (fun r103=>xA u_0_chains xs25 r61 r103 (fun (r106,r109)=>ifW r109 (κ ([],xs25,r109)) (k182 (xs25,xs21,r109,r106)))))))))))) (xn ([xs21,xs30]) (fun r192=>xA u_0_chains xs25 t28 r192 (fun (r195,r198)=>κ (r195,xs25,r198))))) ([],u_0_flats,u_0_over,boxes_2,0)))
def uz:Nat→(List (List zD))→(List zn)→Bool→Int→(List za)→(((List za)×(List zn)×Bool)→Prop)→Prop
 | 0=>fun _ _ _ _ _ _=>False
 | n+1=>ZA (uz n)
def UQ (u_0_chains:(List (List zD))) (u_0_flats:(List zn)) (u_0_over:Bool) (number_1:Int) (boxes_2:(List za)) (κ:((List za)×(List zn)×Bool)→Prop):Prop:=∃ n,uz n u_0_chains u_0_flats u_0_over number_1 boxes_2 κ
def Xr (s_0:zN) (κ:((List zn)×Bool)→Prop):Prop :=
 ZF (fun r11=>UQ s_0.xChains ([]) false 0 ([r11]) (fun (r35,r38,r41)=>κ (r38,(!r41))))
def UC (list_0:(List zn)) (rest_1:Bool) (κ:(List zn)→Prop):Prop :=
 jw (fun (nx5:Int→Prop) (t4:Int)=>jnW (fun (t69:Bool)=>ifW t69 (Y5 t4 1 (fun t71=>nx5 t71)) (yZ list_0 0 t4 (fun xs73=>κ xs73))) (fun k70=>ifW (decide (0<t4)) (Y5 t4 1 (fun t6=>zJ list_0 t6 (fun e7=>k70 (decide (e7.xAccept=rest_1))))) (k70 false))) (list_0.length:Int)
def um (s_0:(List zn)) (κ:(List zn)→Prop):Prop :=
 zof true s_0 (fun t4=>ifW t4 (κ ([])) (jU ([]) s_0 (fun _=>κ (([])++s_0))))
def yS (s_0:za) (other_1:za) (κ:Bool→Prop):Prop :=
 yp s_0 (fun r60=>ifW r60 (κ true) (jw (fun (nx62:Int→Prop) (t61:Int)=>ifW (decide (t61<4)) (jnW (fun (t63:Bool)=>ifW t63 (κ false) (jx t61 1 (fun t107=>nx62 t107))) (fun k64=>zJ ([s_0.x0,s_0.x1,s_0.x2,s_0.x3]) t61 (fun e65=>zJ ([other_1.x0,other_1.x1,other_1.x2,other_1.x3]) t61 (fun e67=>js t61 (fun r77=>xx e65 e67 r77 (fun r78=>k64 (decide (0<(r78.length:Int))))))))) (κ true)) 0))
def ul (s1_0:(List zh)) (s2_1:(List zh)) (κ:Bool→Prop):Prop :=
 ifW (!(decide ((s1_0.length:Int)=(s2_1.length:Int)))) (κ false) (jw (fun (nx6:Int→Prop) (t5:Int)=>ifW (decide (t5<(s1_0.length:Int))) (zJ s1_0 t5 (fun e7=>zJ s2_1 t5 (fun e9=>ifW (!(decide (e7=e9))) (κ false) (jx t5 1 (fun t11=>nx6 t11))))) (κ true)) 0)
def XG (inA_0:Bool) (inB_1:Bool) (κ:Bool→Prop):Prop :=
 jnW (fun (t61:Bool)=>κ t61) (fun k62=>ifW inA_0 (k62 true) (k62 inB_1))
def uC (a_0:(List zh)) (b_1:(List zh)) (top_2:Int) (κ:(List zh)→Prop):Prop :=
 jw (fun (nx14:((List zh)×Int×Int×Int)→Prop) ((xs8,t11,t12,t13):((List zh)×Int×Int×Int))=>ifW (decide (t13≤top_2)) (jw (fun (nx16:Int→Prop) (t15:Int)=>jnW (fun (t79:Bool)=>ifW t79 (jx t15 1 (fun t81=>nx16 t81)) (jw (fun (nx83:Int→Prop) (t82:Int)=>jnW (fun (t146:Bool)=>ifW t146 (jx t82 1 (fun t148=>nx83 t148)) (yZ a_0 t15 (a_0.length:Int) (fun xs150=>uI xs150 t13 top_2 (fun (r153,r154)=>yZ b_1 t82 (b_1.length:Int) (fun xs156=>uI xs156 t13 top_2 (fun (r159,r160)=>jnW (fun (xs296:(List zh))=>jx (min r154 r160) 1 (fun t300=>nx14 (xs296,t15,t82,t300))) (fun k299=>XG r153 r159 (fun r161=>ifW r161 (jnW (fun (t226:Bool)=>ifW t226 (Y5 (xs8.length:Int) 1 (fun t228=>zJ xs8 t228 (fun e229=>k299 (xs8.set (t228).toNat (zh.mk e229.xLo (min r154 r160)))))) (jU xs8 ([(zh.mk t13 (min r154 r160))]) (fun _=>k299 (xs8++([(zh.mk t13 (min r154 r160))]))))) (fun k227=>ifW (decide (0<(xs8.length:Int))) (Y5 (xs8.length:Int) 1 (fun t162=>zJ xs8 t162 (fun e163=>jx e163.xHi 1 (fun t165=>k227 (decide (t165=t13)))))) (k227 false))) (k299 xs8))))))))) (fun k147=>ifW (decide (t82<(b_1.length:Int))) (zJ b_1 t82 (fun e84=>k147 (decide (e84.xHi<t13)))) (k147 false))) t12)) (fun k80=>ifW (decide (t15<(a_0.length:Int))) (zJ a_0 t15 (fun e17=>k80 (decide (e17.xHi<t13)))) (k80 false))) t11) (κ xs8)) ([],0,0,0)
def ZT (a_0:(List zh)) (b_1:(List zh)) (top_2:Int) (κ:((List zh)×Bool)→Prop):Prop :=
 uC a_0 b_1 top_2 (fun r6=>yH r6 (fun (r9,r12)=>κ (r9,r12)))
def ZS (a_0:za) (b_1:za) (κ:(za×Bool)→Prop):Prop :=
 yS a_0 b_1 (fun r77=>ifW r77 (κ (b_1,true)) (yS b_1 a_0 (fun r156=>ifW r156 (κ (a_0,true)) (jw (fun (nx208:(Int×Int×Int)→Prop) ((t205,t206,t207):(Int×Int×Int))=>ifW (decide (t207<4)) (jnW (fun ((t293,t294):(Int×Int))=>jx t207 1 (fun t296=>nx208 (t293,t294,t296))) (fun k295=>jnW (fun (t209:Bool)=>ifW t209 (jx t206 1 (fun t232=>k295 (t207,t232))) (k295 (t205,t206))) (fun k210=>zJ ([a_0.x0,a_0.x1,a_0.x2,a_0.x3]) t207 (fun e211=>zJ ([b_1.x0,b_1.x1,b_1.x2,b_1.x3]) t207 (fun e213=>ul e211 e213 (fun r223=>k210 (!r223))))))) (ifW (!(decide (t206=1))) (κ ((za.mk ([]) ([]) ([]) ([])),false)) (jnW (fun ((xs318,t321):((List zh)×Bool))=>ifW (!t321) (κ ((za.mk ([]) ([]) ([]) ([])),false)) (zJ ([a_0.x0,a_0.x1,a_0.x2,a_0.x3]) t205 (fun e417=>zgB (([a_0.x0,a_0.x1,a_0.x2,a_0.x3]).set (t205).toNat xs318) (fun e423 e424 e425 e426=>κ ((za.mk e423 e424 e425 e426),true))))) (fun k322=>zJ ([a_0.x0,a_0.x1,a_0.x2,a_0.x3]) t205 (fun e323=>zJ ([b_1.x0,b_1.x1,b_1.x2,b_1.x3]) t205 (fun e325=>js t205 (fun r335=>ZT e323 e325 r335 (fun (r336,r338)=>k322 (r336,r338))))))))) (0,0,0)))))
def uh (s_0:(List zn)) (i_1:Int) (j_2:Int) (κ:(List zn)→Prop):Prop:=0≤i_1∧i_1≤j_2∧j_2≤(s_0.length:Int)∧κ (s_0.take i_1.toNat++s_0.drop j_2.toNat)
def Za (list_0:(List zn)) (κ:(List zn)→Prop):Prop :=
 um list_0 (fun r4=>jw (fun (nx12:((List zn)×Int)→Prop) ((xs8,t11):((List zn)×Int))=>jx t11 1 (fun t13=>ifW (decide (t13<(xs8.length:Int))) (jnW (fun ((xs149,t151):((List (List zh))×Bool))=>ifW (!t151) (jx t11 1 (fun t153=>nx12 (xs8,t153))) (zgB xs149 (fun e154 e155 e156 e157=>zJ xs8 t11 (fun e174=>jx t11 1 (fun t189=>jx t11 2 (fun t190=>uh (xs8.set (t11).toNat (zn.mk (za.mk e154 e155 e156 e157) e174.xAccept)) t189 t190 (fun r191=>Y5 t11 1 (fun t194=>nx12 (r191,(max t194 0)))))))))) (fun k152=>zJ xs8 t11 (fun e17=>jx t11 1 (fun t19=>zJ xs8 t19 (fun e20=>ifW (decide (e17.xAccept=e20.xAccept)) (jnW (fun ((xs22,t24):((List (List zh))×Bool))=>k152 (xs22,t24)) (fun k25=>zJ xs8 t11 (fun e26=>zJ xs8 (w64 (t11+1)) (fun e28=>ZS e26.xWhere e28.xWhere (fun (r50,r55)=>k25 ([r50.x0,r50.x1,r50.x2,r50.x3],r55)))))) (k152 ([[],[],[],[]],false))))))) (κ xs8))) (r4,0))
def XN (list_0:(List zn)) (κ:(List za)→Prop):Prop :=
 zaV ((za.mk ([]) ([]) ([]) ([])):za) 0 (list_0.length:Int) (fun xs5=>jw (fun (nx12:((List za)×Int)→Prop) ((xs8,t11):((List za)×Int))=>ifW (decide (t11<(list_0.length:Int))) (zJ list_0 t11 (fun e13=>jU xs8 ([e13.xWhere]) (fun _=>jx t11 1 (fun t46=>nx12 ((xs8++([e13.xWhere])),t46))))) (κ xs8)) (xs5,0))
def u6 (s_0:za) (region_1:(List za)) (κ:((List za)×Bool)→Prop):Prop :=
 yp s_0 (fun r41=>ifW r41 (κ ([],true)) (jnW (fun (xs310:(List za))=>κ (xs310,true)) (fun k313=>jw (fun (nx77:((List za)×Int)→Prop) ((xs73,t76):((List za)×Int))=>ifW (decide (t76<(region_1.length:Int))) (zJ region_1 t76 (fun e78=>jw (fun (nx114:((List za)×Int)→Prop) ((xs110,t113):((List za)×Int))=>ifW (decide (t113<(xs73.length:Int))) (zJ xs73 t113 (fun e115=>yq e115 e78 (fun (r177,r180)=>jnW (fun (t242:Bool)=>ifW t242 (κ ([],false)) (jU xs110 r177 (fun _=>jx t113 1 (fun t247=>nx114 ((xs110++r177),t247))))) (fun k243=>ifW (!r180) (k243 true) (jx (xs110.length:Int) (r177.length:Int) (fun t181=>k243 (decide (400<t181)))))))) (ifW (decide ((xs110.length:Int)=0)) (k313 xs110) (jx t76 1 (fun t248=>nx77 (xs110,t248))))) ([],0))) (k313 xs73)) ([s_0],0))))
def YS (list_0:(List zn)) (n_1:Int) (κ:((List za)×Bool)→Prop):Prop :=
 zJ list_0 n_1 (fun e4=>yZ list_0 0 n_1 (fun xs20=>XN xs20 (fun r23=>u6 e4.xWhere r23 (fun (r26,r29)=>κ (r26,r29)))))
def UZ (list_0:(List zn)) (κ:(List Int)→Prop):Prop :=
 jw (fun (nx10:((List Int)×Int)→Prop) ((xs6,t9):((List Int)×Int))=>ifW (decide (t9<(list_0.length:Int))) (jnW (fun (xs141:(List Int))=>jx t9 1 (fun t145=>nx10 (xs141,t145))) (fun k144=>YS list_0 t9 (fun (r11,r14)=>jnW (fun (t75:Bool)=>ifW t75 (jU xs6 ([t9]) (fun _=>k144 (xs6++([t9])))) (k144 xs6)) (fun k76=>ifW r14 (k76 (decide ((r11.length:Int)=0))) (k76 false))))) (κ xs6)) ([],0)
def Xy (list_0:(List zn)) (κ:(List zn)→Prop):Prop :=
 UZ list_0 (fun r4=>zaV ((zn.mk (za.mk ([]) ([]) ([]) ([])) false):zn) 0 (list_0.length:Int) (fun xs8=>jw (fun (nx19:((List Int)×(List zn)×Int)→Prop) ((xs11,xs15,t18):((List Int)×(List zn)×Int))=>ifW (decide (t18<(list_0.length:Int))) (jnW (fun ((xs180,xs184):((List zn)×(List Int)))=>jx t18 1 (fun t188=>nx19 (xs184,xs180,t188))) (fun k187=>zJ list_0 t18 (fun e20=>jnW (fun (t111:Bool)=>ifW t111 (yZ xs11 1 (xs11.length:Int) (fun xs114=>k187 (xs15,xs114))) (jU xs15 ([e20]) (fun _=>k187 ((xs15++([e20])),xs11)))) (fun k112=>ifW (decide (0<(xs11.length:Int))) (zJ xs11 0 (fun e49=>k112 (decide (e49=t18)))) (k112 false))))) (κ xs15)) (r4,xs8,0)))
def X4 (list_0:(List zn)) (rest_1:Bool) (κ:(List zn)→Prop):Prop :=
 jw (fun (nx8:(List zn)→Prop) (xs5:(List zn))=>Xy xs5 (fun r9=>Za r9 (fun r12=>UC r12 rest_1 (fun r15=>ifW (decide ((r15.length:Int)=(xs5.length:Int))) (κ r15) (nx8 r15))))) list_0
def uT (s_0:zN) (κ:((List zn)×Bool)→Prop):Prop :=
 yP s_0 (fun r9=>ifW (!r9) (κ ([],false)) (Xr s_0 (fun (r11,r14)=>ifW (!r14) (κ ([],false)) (X4 r11 s_0.xAccept (fun r16=>κ (r16,true))))))
def yw (f_0_accepted:(List za)) (f_0_dropped:(List za)) (boxes_1:(List za)) (accept_2:Bool) (κ:(Bool×(List za)×(List za))→Prop):Prop :=
 jnW (fun ((xs79,xs82):((List za)×(List za)))=>jx (xs79.length:Int) (xs82.length:Int) (fun t92=>κ ((decide (t92≤400)),xs79,xs82))) (fun k85=>ifW accept_2 (jU f_0_accepted boxes_1 (fun _=>k85 ((f_0_accepted++boxes_1),f_0_dropped))) (jU f_0_dropped boxes_1 (fun _=>k85 (f_0_accepted,(f_0_dropped++boxes_1)))))
def Yo (list_0:(List zn)) (rest_1:Bool) (κ:(ZX×Bool)→Prop):Prop :=
 jw (fun (nx16:((List za)×(List za)×Int)→Prop) ((xs8,xs12,t15):((List za)×(List za)×Int))=>ifW (decide (t15<(list_0.length:Int))) (zJ list_0 t15 (fun e17=>YS list_0 t15 (fun (r46,r49)=>jnW (fun ((xs117,xs120,t123):((List za)×(List za)×Bool))=>ifW t123 (κ ((ZX.mk ([]) ([])),false)) (jx t15 1 (fun t127=>nx16 (xs117,xs120,t127)))) (fun k124=>ifW (!r49) (k124 (xs8,xs12,true)) (yw xs8 xs12 r46 e17.xAccept (fun (r50,r51,r54)=>k124 (r51,r54,(!r50)))))))) (ZF (fun r128=>XN list_0 (fun r137=>u6 r128 r137 (fun (r140,r143)=>jnW (fun ((xs211,xs214,t217):((List za)×(List za)×Bool))=>ifW t217 (κ ((ZX.mk ([]) ([])),false)) (κ ((ZX.mk xs211 xs214),true))) (fun k218=>ifW (!r143) (k218 (xs8,xs12,true)) (yw xs8 xs12 r140 rest_1 (fun (r144,r145,r148)=>k218 (r145,r148,(!r144)))))))))) ([],[],0)
def XH (a_0:(List zn)) (restA_1:Bool) (b_2:(List zn)) (restB_3:Bool) (κ:((List za)×Bool)→Prop):Prop :=
 Yo a_0 restA_1 (fun (r6,r11)=>Yo b_2 restB_3 (fun (r20,r25)=>jnW (fun (t94:Bool)=>ifW t94 (κ ([],false)) (jw (fun (nx103:((List za)×Int)→Prop) ((xs99,t102):((List za)×Int))=>ifW (decide (t102<(r6.xDropped.length:Int))) (zJ r6.xDropped t102 (fun e104=>jw (fun (nx141:((List za)×Int)→Prop) ((xs137,t140):((List za)×Int))=>ifW (decide (t140<(r20.xAccepted.length:Int))) (jnW (fun (xs353:(List za))=>jx t140 1 (fun t357=>nx141 (xs353,t357))) (fun k356=>zJ r20.xAccepted t140 (fun e142=>uJ e104 e142 (fun r204=>ifW (!r204) (k356 xs137) (yJ e104 e142 (fun (r235,r244)=>ifW (!r244) (κ ([],false)) (ifW (decide ((xs137.length:Int)=400)) (κ ([],false)) (jU xs137 ([r235]) (fun _=>k356 (xs137++([r235]))))))))))) (jx t102 1 (fun t358=>nx103 (xs137,t358)))) (xs99,0))) (κ (xs99,true))) ([],0))) (fun k95=>ifW (!r11) (k95 true) (k95 (!r25)))))
def yn (old_0:zN) (next_1:zN) (κ:Int→Prop):Prop :=
 uT old_0 (fun (r15,r18)=>uT next_1 (fun (r19,r22)=>jnW (fun (t83:Bool)=>ifW t83 (κ 4) (XH r15 old_0.xAccept r19 next_1.xAccept (fun (r85,r88)=>XH r19 next_1.xAccept r15 old_0.xAccept (fun (r89,r92)=>jnW (fun (t153:Bool)=>ifW t153 (κ 4) (jnW (fun (t215:Bool)=>ifW t215 (κ 3) (ifW (decide (0<(r85.length:Int))) (κ 2) (ifW (decide (0<(r89.length:Int))) (κ 1) (κ 0)))) (fun k216=>ifW (decide (0<(r85.length:Int))) (k216 (decide (0<(r89.length:Int)))) (k216 false)))) (fun k154=>ifW (!r88) (k154 true) (k154 (!r92))))))) (fun k84=>ifW (!r18) (k84 true) (k84 (!r22)))))
def Yx (x_0:zD) (κ:zD→Prop):Prop :=
 jU ([]) x_0.xTests (fun _=>κ (zD.mk (([])++x_0.xTests) x_0.xAction x_0.xChain))
def ZU (list_0:(List zD)) (κ:(List zD)→Prop):Prop :=
 jw (fun (nx13:((List zD)×Int)→Prop) ((xs8,t12):((List zD)×Int))=>ifW (decide (t12<(list_0.length:Int))) (zJ list_0 t12 (fun e14=>Yx e14 (fun r20=>jU xs8 ([r20]) (fun _=>jx t12 1 (fun t32=>nx13 ((xs8++([r20])),t32)))))) (κ xs8)) ([],0)
def Yj (list_0:(List (List zD))) (κ:(List (List zD))→Prop):Prop :=
 jw (fun (nx13:((List (List zD))×Int)→Prop) ((xs8,t12):((List (List zD))×Int))=>ifW (decide (t12<(list_0.length:Int))) (zJ list_0 t12 (fun e14=>ZU e14 (fun r20=>jU xs8 ([r20]) (fun _=>jx t12 1 (fun t33=>nx13 ((xs8++([r20])),t33)))))) (κ xs8)) ([],0)
def yQ (x_0:zN) (κ:zN→Prop):Prop :=
 Yj x_0.xChains (fun r12=>κ (zN.mk r12 x_0.xAccept))
def yy (n_0:Int) (lo_1:Int) (hi_2:Int) (κ:Bool→Prop):Prop :=
 jnW (fun (t61:Bool)=>κ t61) (fun k62=>ifW (decide (lo_1≤n_0)) (k62 (decide (n_0≤hi_2))) (k62 false))
def Xm (t_0:jY) (κ:Bool→Prop):Prop :=
 jnW (fun (t66:Bool)=>κ t66) (fun k67=>yy t_0.xField 0 3 (fun r3=>ifW r3 (yy t_0.xLo 0 t_0.xHi (fun r4=>ifW r4 (uL t_0.xField (fun r5=>k67 (decide (t_0.xHi≤r5)))) (k67 false))) (k67 false)))
def ZW (list_0:(List jY)) (κ:Bool→Prop):Prop :=
 jw (fun (nx4:Int→Prop) (t3:Int)=>ifW (decide (t3<(list_0.length:Int))) (zJ list_0 t3 (fun e5=>Xm e5 (fun r7=>ifW (!r7) (κ false) (jx t3 1 (fun t8=>nx4 t8))))) (κ (decide ((list_0.length:Int)≤6)))) 0
def Yw (r_0:zD) (κ:Bool→Prop):Prop :=
 jnW (fun (t71:Bool)=>κ t71) (fun k72=>ZW r_0.xTests (fun r8=>ifW r8 (yy r_0.xAction 1 5 (fun r9=>ifW r9 (ifW (decide (r_0.xAction=3)) (yy r_0.xChain 0 4 (fun r10=>ifW r10 (k72 true) (ifW (!(decide (r_0.xAction=3))) (k72 (decide (r_0.xChain=0))) (k72 false)))) (ifW (!(decide (r_0.xAction=3))) (k72 (decide (r_0.xChain=0))) (k72 false))) (k72 false))) (k72 false)))
def X9 (list_0:(List zD)) (κ:Bool→Prop):Prop :=
 jw (fun (nx4:Int→Prop) (t3:Int)=>ifW (decide (t3<(list_0.length:Int))) (zJ list_0 t3 (fun e5=>Yw e5 (fun r11=>ifW (!r11) (κ false) (jx t3 1 (fun t12=>nx4 t12))))) (κ (decide ((list_0.length:Int)≤8)))) 0
def Uy (s_0:zN) (κ:(List Int)→Prop):Prop :=
 zaV (false:Bool) (s_0.xChains.length:Int) (s_0.xChains.length:Int) (fun xs10=>jw (fun (nx21:((List Bool)×(List Int)×Int)→Prop) ((xs14,xs17,t20):((List Bool)×(List Int)×Int))=>ifW (decide (t20<(s_0.xChains.length:Int))) (jw (fun (nx29:((List Bool)×(List Int)×Int)→Prop) ((xs22,xs25,t28):((List Bool)×(List Int)×Int))=>ifW (decide (t28<(s_0.xChains.length:Int))) (jnW (fun ((xs190,xs192):((List Bool)×(List Int)))=>jx t28 1 (fun t196=>nx29 (xs190,xs192,t196))) (fun k195=>zJ xs22 t28 (fun e30=>jw (fun (nx34:(Bool×Int)→Prop) ((t32,t33):(Bool×Int))=>zJ s_0.xChains t28 (fun e35=>ifW (decide (t33<(e35.length:Int))) (jnW (fun (t120:Bool)=>jx t33 1 (fun t122=>nx34 (t120,t122))) (fun k121=>zJ s_0.xChains t28 (fun e41=>zJ e41 t33 (fun e47=>ifW t32 (ifW (!(decide (e47.xAction=3))) (k121 true) (zJ xs22 e47.xChain (fun e58=>k121 e58))) (k121 false))))) (ifW t32 (zJ xs22 t28 (fun e123=>jU xs25 ([t28]) (fun _=>k195 ((xs22.set (t28).toNat true),(xs25++([t28])))))) (k195 (xs22,xs25))))) ((!e30),0)))) (jx t20 1 (fun t197=>nx21 (xs22,xs25,t197)))) (xs14,xs17,0)) (κ xs17)) (xs10,[],0))
def Z3 (s_0:zN) (κ:Bool→Prop):Prop :=
 jw (fun (nx9:Int→Prop) (t8:Int)=>ifW (decide (t8<(s_0.xChains.length:Int))) (zJ s_0.xChains t8 (fun e10=>X9 e10 (fun r16=>ifW (!r16) (κ false) (jw (fun (nx18:Int→Prop) (t17:Int)=>zJ s_0.xChains t8 (fun e19=>ifW (decide (t17<(e19.length:Int))) (zJ s_0.xChains t8 (fun e25=>zJ e25 t17 (fun e31=>ifW (decide ((s_0.xChains.length:Int)≤e31.xChain)) (κ false) (jx t17 1 (fun t33=>nx18 t33))))) (jx t8 1 (fun t34=>nx9 t34)))) 0)))) (jnW (fun (t99:Bool)=>κ t99) (fun k100=>yy (s_0.xChains.length:Int) 1 5 (fun r35=>ifW r35 (Uy s_0 (fun r36=>k100 (decide ((r36.length:Int)=(s_0.xChains.length:Int))))) (k100 false))))) 0
def yb (a_0:(List zh)) (b_1:(List zh)) (κ:(List zh)→Prop):Prop :=
 jw (fun (nx13:((List zh)×Int)→Prop) ((xs9,t12):((List zh)×Int))=>ifW (decide (t12<(a_0.length:Int))) (jw (fun (nx19:((List zh)×Int)→Prop) ((xs15,t18):((List zh)×Int))=>ifW (decide (t18<(b_1.length:Int))) (jnW (fun (xs92:(List zh))=>jx t18 1 (fun t96=>nx19 (xs92,t96))) (fun k95=>zJ a_0 t12 (fun e20=>zJ b_1 t18 (fun e22=>zJ a_0 t12 (fun e24=>zJ b_1 t18 (fun e26=>ifW (decide ((max e20.xLo e22.xLo)≤(min e24.xHi e26.xHi))) (jU xs15 ([(zh.mk (max e20.xLo e22.xLo) (min e24.xHi e26.xHi))]) (fun _=>k95 (xs15++([(zh.mk (max e20.xLo e22.xLo) (min e24.xHi e26.xHi))])))) (k95 xs15))))))) (jx t12 1 (fun t97=>nx13 (xs15,t97)))) (xs9,0)) (κ xs9)) ([],0)
def yc (a_0:z8) (b_1:z8) (κ:z8→Prop):Prop :=
 jw (fun (nx25:((List (List zh))×Int)→Prop) ((xs20,t24):((List (List zh))×Int))=>ifW (decide (t24<4)) (jnW (fun (xs29:(List (List zh)))=>jx t24 1 (fun t64=>nx25 (xs29,t64))) (fun k33=>zJ a_0.xSides t24 (fun e34=>zJ b_1.xSides t24 (fun e39=>yb e34 e39 (fun r44=>jU xs20 ([r44]) (fun _=>k33 (xs20++([r44])))))))) (κ (z8.mk xs20))) ([],0)
def uZ (b_0:z8) (κ:Bool→Prop):Prop :=
 jw (fun (nx9:Int→Prop) (t8:Int)=>ifW (decide (t8<(b_0.xSides.length:Int))) (zJ b_0.xSides t8 (fun e10=>ifW (decide ((e10.length:Int)=0)) (κ true) (jx t8 1 (fun t16=>nx9 t16)))) (κ false)) 0
def yL (list_0:(List zh)) (top_1:Int) (κ:Bool→Prop):Prop :=
 jw (fun (nx4:Int→Prop) (t3:Int)=>ifW (decide (t3<(list_0.length:Int))) (jnW (fun (t79:Bool)=>ifW t79 (κ false) (jx t3 1 (fun t81=>nx4 t81))) (fun k80=>zJ list_0 t3 (fun e5=>zJ list_0 t3 (fun e7=>yy e5.xLo 0 e7.xHi (fun r9=>ifW (!r9) (k80 true) (zJ list_0 t3 (fun e10=>yy e10.xHi 0 top_1 (fun r12=>ifW (!r12) (k80 true) (ifW (decide (0<t3)) (zJ list_0 t3 (fun e13=>Y5 t3 1 (fun t15=>zJ list_0 t15 (fun e16=>jx e16.xHi 2 (fun t18=>k80 (decide (e13.xLo<t18))))))) (k80 false)))))))))) (jnW (fun (t143:Bool)=>κ t143) (fun k144=>yy top_1 0 65535 (fun r82=>ifW r82 (k144 (decide ((list_0.length:Int)≤40))) (k144 false))))) 0
def uY (b_0:z8) (κ:Bool→Prop):Prop :=
 jw (fun (nx9:Int→Prop) (t8:Int)=>ifW (decide (t8<(b_0.xSides.length:Int))) (jnW (fun (t78:Bool)=>ifW t78 (κ false) (jx t8 1 (fun t80=>nx9 t80))) (fun k79=>ifW (decide (4≤t8)) (k79 true) (zJ b_0.xSides t8 (fun e10=>uL t8 (fun r16=>yL e10 r16 (fun r17=>k79 (!r17))))))) (κ (decide ((b_0.xSides.length:Int)=4)))) 0
def xE (list_0:(List z8)) (κ:Bool→Prop):Prop :=
 jw (fun (nx4:Int→Prop) (t3:Int)=>ifW (decide (t3<(list_0.length:Int))) (zJ list_0 t3 (fun e5=>uY e5 (fun r11=>ifW (!r11) (κ false) (jx t3 1 (fun t12=>nx4 t12))))) (κ (decide ((list_0.length:Int)≤400)))) 0
def XL (κ:z8→Prop):Prop :=
 jw (fun (nx11:((List (List zh))×Int)→Prop) ((xs6,t10):((List (List zh))×Int))=>ifW (decide (t10<4)) (jnW (fun (xs15:(List (List zh)))=>jx t10 1 (fun t41=>nx11 (xs15,t41))) (fun k19=>uL t10 (fun r20=>jU xs6 ([[(zh.mk 0 r20)]]) (fun _=>k19 (xs6++([[(zh.mk 0 r20)]])))))) (κ (z8.mk xs6))) ([],0)
def Ym (a_0:(List zh)) (top_1:Int) (κ:(List zh)→Prop):Prop :=
 jw (fun (nx12:((List zh)×Int×Int)→Prop) ((xs7,t10,t11):((List zh)×Int×Int))=>ifW (decide (t11<(a_0.length:Int))) (jnW (fun (xs82:(List zh))=>zJ a_0 t11 (fun e86=>jx e86.xHi 1 (fun t88=>jx t11 1 (fun t89=>nx12 (xs82,t88,t89))))) (fun k85=>zJ a_0 t11 (fun e13=>ifW (decide (t10<e13.xLo)) (zJ a_0 t11 (fun e15=>Y5 e15.xLo 1 (fun t17=>jU xs7 ([(zh.mk t10 t17)]) (fun _=>k85 (xs7++([(zh.mk t10 t17)])))))) (k85 xs7)))) (jnW (fun (xs154:(List zh))=>κ xs154) (fun k157=>ifW (decide (t10≤top_1)) (jU xs7 ([(zh.mk t10 top_1)]) (fun _=>k157 (xs7++([(zh.mk t10 top_1)])))) (k157 xs7)))) ([],0,0)
def Xk (t_0:jY) (κ:(List zh)→Prop):Prop :=
 Xm t_0 (fun r4=>ifW (!r4) (κ ([])) (ifW t_0.xNot (uL t_0.xField (fun r9=>Ym ([(zh.mk t_0.xLo t_0.xHi)]) r9 (fun r10=>κ r10))) (κ ([(zh.mk t_0.xLo t_0.xHi)]))))
def YX (list_0:(List jY)) (κ:z8→Prop):Prop :=
 ZW list_0 (fun r5=>ifW (!r5) (κ (z8.mk ([]))) (XL (fun r7=>jw (fun (nx21:((List (List zh))×Int)→Prop) ((xs17,t20):((List (List zh))×Int))=>ifW (decide (t20<(list_0.length:Int))) (zJ list_0 t20 (fun e22=>jnW (fun (xs27:(List (List zh)))=>jx t20 1 (fun t58=>nx21 (xs27,t58))) (fun k29=>zJ list_0 t20 (fun e30=>(zJ xs17 e22.xField (fun e32=>Xk e30 (fun r38=>yb e32 r38 (fun r40=>zJ xs17 e22.xField (fun e42=>k29 (xs17.set (e22.xField).toNat r40))))))∧(Xk e30 (fun r54=>zJ xs17 e22.xField (fun e56=>yb e56 r54 (fun r40=>zJ xs17 e22.xField (fun e42=>k29 (xs17.set (e22.xField).toNat r40)))))))))) (κ (z8.mk xs17))) (r7.xSides,0))))
def ui (list_0:(List (List zh))) (κ:(List (List zh))→Prop):Prop :=
 jw (fun (nx13:((List (List zh))×Int)→Prop) ((xs8,t12):((List (List zh))×Int))=>ifW (decide (t12<(list_0.length:Int))) (zJ list_0 t12 (fun e16=>jU ([]) e16 (fun _=>jU xs8 ([(([])++e16)]) (fun _=>jx t12 1 (fun t33=>nx13 ((xs8++([(([])++e16)])),t33)))))) (κ xs8)) ([],0)
def Ze (a_0:z8) (b_1:z8) (κ:(List z8)→Prop):Prop :=
 yc a_0 b_1 (fun r19=>uZ r19 (fun r23=>ifW r23 (jnW (fun (xs89:(List z8))=>κ xs89) (fun k92=>uZ a_0 (fun r24=>ifW (!r24) (jU ([]) ([a_0]) (fun _=>k92 (([])++([a_0])))) (k92 ([]))))) (jw (fun (nx105:((List (List zh))×(List z8)×Int)→Prop) ((xs96,xs100,t104):((List (List zh))×(List z8)×Int))=>ifW (decide (t104<4)) (zJ xs96 t104 (fun e115=>zJ b_1.xSides t104 (fun e121=>uL t104 (fun r127=>Ym e121 r127 (fun r128=>yb e115 r128 (fun r131=>zJ xs96 t104 (fun e134=>zJ b_1.xSides t104 (fun e140=>yb e134 e140 (fun r146=>jnW (fun (xs231:(List z8))=>ui xs96 (fun r236=>zJ r236 t104 (fun e245=>jx t104 1 (fun t252=>nx105 ((r236.set (t104).toNat r146),xs231,t252))))) (fun k235=>ifW (decide (0<(r131.length:Int))) (ui xs96 (fun r149=>zJ r149 t104 (fun e158=>jU xs100 ([(z8.mk (r149.set (t104).toNat r131))]) (fun _=>k235 (xs100++([(z8.mk (r149.set (t104).toNat r131))])))))) (k235 xs100))))))))))) (κ xs100)) (a_0.xSides,[],0))))
def Ut (rec:(zN→Int→(List z8)→(List zS)→(((List z8)×Bool×(List zS))→Prop)→Prop)) (s_0:zN) (chain_1:Int) (in_2:(List z8)) (out_3:(List zS)) (κ:((List z8)×Bool×(List zS))→Prop):Prop :=
 jw (fun (nx33:((List zS)×(List z8)×(List z8)×Int)→Prop) ((xs20,xs24,xs28,t32):((List zS)×(List z8)×(List z8)×Int))=>zJ s_0.xChains chain_1 (fun e34=>ifW (decide (t32<(e34.length:Int))) (zJ s_0.xChains chain_1 (fun e40=>zJ e40 t32 (fun e46=>YX e46.xTests (fun r63=>jw (fun (nx81:((List z8)×(List z8)×Int)→Prop) ((xs72,xs77,t80):((List z8)×(List z8)×Int))=>ifW (decide (t80<(xs24.length:Int))) (jnW (fun (xs182:(List z8))=>zJ xs24 t80 (fun e195=>Ze e195 r63 (fun r201=>jU xs77 r201 (fun _=>jx t80 1 (fun t206=>nx81 (xs182,(xs77++r201),t206)))))) (fun k186=>jnW (fun (xs90:(List (List zh)))=>uZ (z8.mk xs90) (fun r112=>ifW (!r112) (jU xs72 ([(z8.mk xs90)]) (fun _=>k186 (xs72++([(z8.mk xs90)])))) (k186 xs72))) (fun k95=>zJ xs24 t80 (fun e96=>yc e96 r63 (fun r101=>k95 r101.xSides))))) (jnW (fun (t269:Bool)=>ifW t269 (κ (xs28,false,xs20)) (jnW (fun ((xs445,xs449,xs453):((List z8)×(List z8)×(List zS)))=>jnW (fun (t519:Bool)=>ifW t519 (κ (xs445,false,xs453)) (jx t32 1 (fun t521=>nx33 (xs453,xs449,xs445,t521)))) (fun k520=>xE xs449 (fun r457=>ifW (!r457) (k520 true) (xE xs445 (fun r458=>ifW (!r458) (k520 true) (k520 (decide (60<(xs453.length:Int))))))))) (fun k456=>jnW (fun (t331:Bool)=>ifW t331 (jw (fun (nx338:((List zS)×Int)→Prop) ((xs334,t337):((List zS)×Int))=>ifW (decide (t337<(xs72.length:Int))) (jnW (fun (xs342:(List zS))=>jx t337 1 (fun t370=>nx338 (xs342,t370))) (fun k345=>zJ xs72 t337 (fun e346=>jU xs334 ([(zS.mk e346 (decide (e46.xAction=1)))]) (fun _=>k345 (xs334++([(zS.mk e346 (decide (e46.xAction=1)))])))))) (k456 (xs28,xs77,xs334))) (xs20,0)) (ifW (decide (e46.xAction=4)) (jU xs28 xs72 (fun _=>k456 ((xs28++xs72),xs77,xs20))) (ifW (decide (e46.xAction=3)) (rec s_0 e46.xChain xs72 xs20 (fun (r374,r377,r378)=>ifW (!r377) (κ (xs28,false,r378)) (jU xs77 r374 (fun _=>k456 (xs28,(xs77++r374),r378))))) (jU xs77 xs72 (fun _=>k456 (xs28,(xs77++xs72),xs20)))))) (fun k332=>ifW (decide (e46.xAction=1)) (k332 (decide (e46.xAction=1))) (k332 (decide (e46.xAction=2))))))) (fun k270=>xE xs72 (fun r207=>ifW (!r207) (k270 true) (xE xs77 (fun r208=>k270 (!r208))))))) ([],[],0))))) (jU xs28 xs24 (fun _=>xE (xs28++xs24) (fun r524=>κ ((xs28++xs24),r524,xs20)))))) (out_3,in_2,[],0)
def Zk:Nat→zN→Int→(List z8)→(List zS)→(((List z8)×Bool×(List zS))→Prop)→Prop
 | 0=>fun _ _ _ _ _=>False
 | n+1=>Ut (Zk n)
def zbm (s_0:zN) (chain_1:Int) (in_2:(List z8)) (out_3:(List zS)) (κ:((List z8)×Bool×(List zS))→Prop):Prop:=∃ n,Zk n s_0 chain_1 in_2 out_3 κ
def U2 (s_0:zN) (κ:((List zS)×Bool)→Prop):Prop :=
 yQ s_0 (fun r9=>Z3 r9 (fun r24=>ifW (!r24) (κ ([],false)) (XL (fun r25=>zbm r9 0 ([r25]) ([]) (fun (r35,r38,r39)=>ifW (!r38) (κ ([],false)) (κ (r39,true)))))))
def XF (x_0:z8) (κ:z8→Prop):Prop :=
 ui x_0.xSides (fun r12=>κ (z8.mk r12))
def YA (x_0:zS) (κ:zS→Prop):Prop :=
 XF x_0.xWhere (fun r12=>κ (zS.mk r12 x_0.xAccept))
def xJ (list_0:(List zS)) (κ:(List zS)→Prop):Prop :=
 jw (fun (nx13:((List zS)×Int)→Prop) ((xs8,t12):((List zS)×Int))=>ifW (decide (t12<(list_0.length:Int))) (zJ list_0 t12 (fun e14=>YA e14 (fun r20=>jU xs8 ([r20]) (fun _=>jx t12 1 (fun t33=>nx13 ((xs8++([r20])),t33)))))) (κ xs8)) ([],0)
def uB (list_0:(List zS)) (κ:Bool→Prop):Prop :=
 jw (fun (nx4:Int→Prop) (t3:Int)=>ifW (decide (t3<(list_0.length:Int))) (zJ list_0 t3 (fun e5=>uY e5.xWhere (fun r11=>ifW (!r11) (κ false) (jx t3 1 (fun t12=>nx4 t12))))) (κ (decide ((list_0.length:Int)≤60)))) 0
def YY (list_0:(List zS)) (rest_1:Bool) (κ:(List zS)→Prop):Prop :=
 xJ list_0 (fun r4=>uB r4 (fun r8=>ifW (!r8) (κ ([])) (jw (fun (nx13:Int→Prop) (t12:Int)=>jnW (fun (t77:Bool)=>ifW t77 (Y5 t12 1 (fun t79=>nx13 t79)) (yZ r4 0 t12 (fun xs84=>jU ([]) xs84 (fun _=>κ (([])++xs84))))) (fun k78=>ifW (decide (0<t12)) (Y5 t12 1 (fun t14=>zJ r4 t14 (fun e15=>k78 (decide (e15.xAccept=rest_1))))) (k78 false))) (r4.length:Int))))
def Xe (a_0:z8) (b_1:z8) (κ:Bool→Prop):Prop :=
 jnW (fun (t80:Bool)=>κ t80) (fun k81=>uY a_0 (fun r15=>ifW r15 (uY b_1 (fun r16=>ifW r16 (Ze a_0 b_1 (fun r17=>k81 (decide ((r17.length:Int)=0)))) (k81 false))) (k81 false)))
def Ul (a_0:(List zh)) (b_1:(List zh)) (κ:Bool→Prop):Prop :=
 ifW (!(decide ((a_0.length:Int)=(b_1.length:Int)))) (κ false) (jw (fun (nx6:Int→Prop) (t5:Int)=>ifW (decide (t5<(a_0.length:Int))) (zJ a_0 t5 (fun e7=>zJ b_1 t5 (fun e9=>ifW (!(decide (e7=e9))) (κ false) (jx t5 1 (fun t11=>nx6 t11))))) (κ true)) 0)
def Vv (list_0:(List zh)) (s_1:zh) (κ:(List zh)→Prop):Prop :=
 jw (fun (nx16:(Int×Int×(List zh)×Bool×Int)→Prop) ((t8,t9,xs11,t14,t15):(Int×Int×(List zh)×Bool×Int))=>ifW (decide (t15<(list_0.length:Int))) (jnW (fun ((xs160,t163,t164,t165):((List zh)×Int×Int×Bool))=>jx t15 1 (fun t167=>nx16 (t163,t164,xs160,t165,t167))) (fun k166=>zJ list_0 t15 (fun e17=>jx e17.xHi 1 (fun t21=>ifW (decide (t21<t8)) (jU xs11 ([e17]) (fun _=>k166 ((xs11++([e17])),t8,t9,t14))) (jx t9 1 (fun t26=>ifW (decide (t26<e17.xLo)) (jnW (fun ((xs91,t94):((List zh)×Bool))=>jU xs91 ([e17]) (fun _=>k166 ((xs91++([e17])),t8,t9,t94))) (fun k95=>ifW (!t14) (jU xs11 ([(zh.mk t8 t9)]) (fun _=>k95 ((xs11++([(zh.mk t8 t9)])),true))) (k95 (xs11,t14)))) (k166 (xs11,(min t8 e17.xLo),(max t9 e17.xHi),t14)))))))) (jnW (fun (xs232:(List zh))=>κ xs232) (fun k235=>ifW (!t14) (jU xs11 ([(zh.mk t8 t9)]) (fun _=>k235 (xs11++([(zh.mk t8 t9)])))) (k235 xs11)))) (s_1.xLo,s_1.xHi,[],false,0)
def X0 (a_0:(List zh)) (b_1:(List zh)) (top_2:Int) (κ:(List zh)→Prop):Prop :=
 jnW (fun (t68:Bool)=>ifW t68 (κ ([])) (jU ([]) a_0 (fun _=>jw (fun (nx81:((List zh)×Int)→Prop) ((xs77,t80):((List zh)×Int))=>ifW (decide (t80<(b_1.length:Int))) (zJ b_1 t80 (fun e82=>Vv xs77 e82 (fun r84=>jx t80 1 (fun t87=>nx81 (r84,t87))))) (ifW (decide (40<(xs77.length:Int))) (κ ([])) (κ xs77))) ((([])++a_0),0)))) (fun k69=>yL a_0 top_2 (fun r6=>ifW (!r6) (k69 true) (yL b_1 top_2 (fun r7=>k69 (!r7)))))
def X1 (a_0:z8) (b_1:z8) (κ:(z8×Bool)→Prop):Prop :=
 jnW (fun (t79:Bool)=>ifW t79 (κ ((z8.mk ([])),false)) (Xe a_0 b_1 (fun r82=>ifW r82 (XF b_1 (fun r83=>κ (r83,true))) (Xe b_1 a_0 (fun r90=>ifW r90 (XF a_0 (fun r91=>κ (r91,true))) (jw (fun (nx100:(Int×Int)→Prop) ((t98,t99):(Int×Int))=>ifW (decide (t99<4)) (jnW (fun (t174:Int)=>jx t99 1 (fun t176=>nx100 (t174,t176))) (fun k175=>zJ a_0.xSides t99 (fun e101=>zJ b_1.xSides t99 (fun e107=>Ul e101 e107 (fun r113=>ifW (!r113) (ifW (decide (0≤t98)) (κ ((z8.mk ([])),false)) (k175 t99)) (k175 t98)))))) (ui a_0.xSides (fun r177=>zJ a_0.xSides t98 (fun e186=>zJ b_1.xSides t98 (fun e192=>uL t98 (fun r198=>X0 e186 e192 r198 (fun r199=>zJ r177 t98 (fun e202=>zJ (r177.set (t98).toNat r199) t98 (fun e209=>ifW (decide ((e209.length:Int)=0)) (κ ((z8.mk ([])),false)) (κ ((z8.mk (r177.set (t98).toNat r199)),true))))))))))) ((-1),0))))))) (fun k80=>uY a_0 (fun r17=>ifW (!r17) (k80 true) (uY b_1 (fun r18=>k80 (!r18)))))
def UL (list_0:(List zS)) (κ:(Int×zS)→Prop):Prop :=
 jw (fun (nx6:Int→Prop) (t5:Int)=>jx t5 1 (fun t7=>ifW (decide (t7<(list_0.length:Int))) (jnW (fun ((xs8,t12):((List (List zh))×Bool))=>jnW (fun (t103:Bool)=>ifW t103 (zJ list_0 t5 (fun e108=>κ (t5,(zS.mk (z8.mk xs8) e108.xAccept)))) (jx t5 1 (fun t110=>nx6 t110))) (fun k104=>ifW t12 (zJ list_0 t5 (fun e38=>jx t5 1 (fun t40=>zJ list_0 t40 (fun e41=>k104 (decide (e38.xAccept=e41.xAccept)))))) (k104 false))) (fun k13=>zJ list_0 t5 (fun e14=>zJ list_0 (w64 (t5+1)) (fun e19=>X1 e14.xWhere e19.xWhere (fun (r24,r26)=>k13 (r24.xSides,r26)))))) (κ ((-1),(zS.mk (z8.mk ([])) false))))) 0
def XW (list_0:(List zS)) (κ:(List zS)→Prop):Prop :=
 xJ list_0 (fun r4=>uB r4 (fun r8=>ifW (!r8) (κ ([])) (jU ([]) r4 (fun _=>jw (fun (nx22:(List zS)→Prop) (xs19:(List zS))=>UL xs19 (fun (r23,r24)=>ifW (decide (r23<0)) (κ xs19) (jx r23 2 (fun t35=>yZ xs19 t35 (xs19.length:Int) (fun xs37=>jU ([]) xs37 (fun _=>jnW (fun (xs49:(List zS))=>nx22 xs49) (fun k52=>yZ xs19 0 r23 (fun xs56=>jU ([]) xs56 (fun _=>jU (([])++xs56) ([r24]) (fun _=>jU ((([])++xs56)++([r24])) (([])++xs37) (fun _=>k52 (((([])++xs56)++([r24]))++(([])++xs37))))))))))))) (([])++r4)))))
def Ys (b_0:z8) (list_1:(List z8)) (κ:((List z8)×Bool)→Prop):Prop :=
 jnW (fun (xs79:(List z8))=>jw (fun (nx88:((List z8)×Int)→Prop) ((xs84,t87):((List z8)×Int))=>ifW (decide (t87<(list_1.length:Int))) (jw (fun (nx97:((List z8)×Int)→Prop) ((xs93,t96):((List z8)×Int))=>ifW (decide (t96<(xs84.length:Int))) (zJ xs84 t96 (fun e98=>zJ list_1 t87 (fun e100=>Ze e98 e100 (fun r112=>jU xs93 r112 (fun _=>jx t96 1 (fun t117=>nx97 ((xs93++r112),t117))))))) (xE xs93 (fun r118=>ifW (!r118) (κ ([],false)) (jx t87 1 (fun t122=>nx88 (xs93,t122)))))) ([],0)) (κ (xs84,true))) (xs79,0)) (fun k82=>uZ b_0 (fun r14=>ifW (!r14) (jU ([]) ([b_0]) (fun _=>k82 (([])++([b_0])))) (k82 ([]))))
def Z7 (list_0:(List zS)) (κ:(List z8)→Prop):Prop :=
 xJ list_0 (fun r4=>jw (fun (nx16:((List z8)×Int)→Prop) ((xs12,t15):((List z8)×Int))=>jnW (fun (t78:Bool)=>ifW t78 (zJ r4 t15 (fun e80=>jU xs12 ([e80.xWhere]) (fun _=>jx t15 1 (fun t95=>nx16 ((xs12++([e80.xWhere])),t95))))) (κ xs12)) (fun k79=>ifW (decide (t15<(r4.length:Int))) (uB r4 (fun r17=>k79 r17)) (k79 false))) ([],0))
def UO (list_0:(List zS)) (k_1:Int) (κ:Bool→Prop):Prop :=
 zJ list_0 k_1 (fun e3=>yZ list_0 0 k_1 (fun xs10=>Z7 xs10 (fun r13=>Ys e3.xWhere r13 (fun (r16,r19)=>jnW (fun (t80:Bool)=>κ t80) (fun k81=>ifW r19 (k81 (decide ((r16.length:Int)=0))) (k81 false))))))
def YV (list_0:(List zS)) (κ:(List zS)→Prop):Prop :=
 xJ list_0 (fun r4=>jw (fun (nx18:((List zS)×(List zS)×Int)→Prop) ((xs11,xs14,t17):((List zS)×(List zS)×Int))=>jnW (fun (t80:Bool)=>ifW t80 (jnW (fun (xs158:(List zS))=>jx t17 1 (fun t162=>nx18 (xs11,xs158,t162))) (fun k161=>UO xs11 t17 (fun r82=>ifW (!r82) (zJ xs11 t17 (fun e83=>jU xs14 ([e83]) (fun _=>k161 (xs14++([e83]))))) (k161 xs14)))) (κ xs14)) (fun k81=>ifW (decide (t17<(xs11.length:Int))) (uB xs11 (fun r19=>k81 r19)) (k81 false))) (r4,[],0))
def UK (list_0:(List zS)) (rest_1:Bool) (κ:(List zS)→Prop):Prop :=
 xJ list_0 (fun r4=>uB r4 (fun r8=>ifW (!r8) (κ ([])) (jU ([]) r4 (fun _=>jw (fun (nx22:(List zS)→Prop) (xs19:(List zS))=>YV xs19 (fun r23=>XW r23 (fun r26=>YY r26 rest_1 (fun r29=>ifW (decide ((r29.length:Int)=(xs19.length:Int))) (κ r29) (nx22 r29))))) (([])++r4)))))
def Z6 (s_0:zN) (κ:((List zS)×Bool)→Prop):Prop :=
 yQ s_0 (fun r9=>U2 r9 (fun (r16,r19)=>ifW (!r19) (κ ([],false)) (UK r16 r9.xAccept (fun r23=>κ (r23,true)))))
def Uv (list_0:(List zS)) (rest_1:Bool) (κ:((List zS)×Bool)→Prop):Prop :=
 jw (fun (nx12:((List zS)×Int)→Prop) ((xs8,t11):((List zS)×Int))=>ifW (decide (t11≤(list_0.length:Int))) (XL (fun r13=>jnW (fun ((xs94,t97):((List (List zh))×Bool))=>yZ list_0 0 t11 (fun xs109=>Z7 xs109 (fun r112=>Ys (z8.mk xs94) r112 (fun (r115,r118)=>ifW (!r118) (κ ([],false)) (jw (fun (nx127:((List zS)×Int)→Prop) ((xs123,t126):((List zS)×Int))=>ifW (decide (t126<(r115.length:Int))) (zJ r115 t126 (fun e128=>jU xs123 ([(zS.mk e128 t97)]) (fun _=>jx t126 1 (fun t143=>nx127 ((xs123++([(zS.mk e128 t97)])),t143))))) (ifW (decide (400<(xs123.length:Int))) (κ ([],false)) (jx t11 1 (fun t147=>nx12 (xs123,t147))))) (xs8,0)))))) (fun k98=>ifW (decide (t11<(list_0.length:Int))) (zJ list_0 t11 (fun e22=>zJ list_0 t11 (fun e31=>k98 (e22.xWhere.xSides,e31.xAccept)))) (k98 (r13.xSides,rest_1))))) (κ (xs8,true))) ([],0)
def YZ (list_0:(List zS)) (accept_1:Bool) (κ:(List z8)→Prop):Prop :=
 jw (fun (nx12:((List z8)×Int)→Prop) ((xs8,t11):((List z8)×Int))=>ifW (decide (t11<(list_0.length:Int))) (jnW (fun (xs88:(List z8))=>jx t11 1 (fun t92=>nx12 (xs88,t92))) (fun k91=>zJ list_0 t11 (fun e13=>ifW (decide (e13.xAccept=accept_1)) (zJ list_0 t11 (fun e15=>jU xs8 ([e15.xWhere]) (fun _=>k91 (xs8++([e15.xWhere]))))) (k91 xs8)))) (κ xs8)) ([],0)
def Xf (list_0:(List zS)) (rest_1:Bool) (accept_2:Bool) (κ:((List z8)×Bool)→Prop):Prop :=
 xJ list_0 (fun r4=>uB r4 (fun r8=>ifW (!r8) (κ ([],false)) (Uv r4 rest_1 (fun (r12,r15)=>ifW (!r15) (κ ([],false)) (YZ r12 accept_2 (fun r19=>κ (r19,true)))))))
def Xl (a_0:(List zS)) (restA_1:Bool) (b_2:(List zS)) (restB_3:Bool) (κ:((List z8)×Bool)→Prop):Prop :=
 xJ a_0 (fun r6=>xJ b_2 (fun r10=>Xf r6 restA_1 false (fun (r17,r20)=>Xf r10 restB_3 true (fun (r21,r24)=>jnW (fun (t85:Bool)=>ifW t85 (κ ([],false)) (jw (fun (nx93:((List z8)×Int)→Prop) ((xs88,t92):((List z8)×Int))=>ifW (decide (t92<(r17.length:Int))) (jw (fun (nx100:((List z8)×Int)→Prop) ((xs95,t99):((List z8)×Int))=>ifW (decide (t99<(r21.length:Int))) (jnW (fun (xs227:(List z8))=>jx t99 1 (fun t232=>nx100 (xs227,t232))) (fun k231=>jnW (fun (xs101:(List (List zh)))=>uZ (z8.mk xs101) (fun r157=>ifW (!r157) (jU xs95 ([(z8.mk xs101)]) (fun _=>k231 (xs95++([(z8.mk xs101)])))) (k231 xs95))) (fun k106=>zJ r17 t92 (fun e107=>zJ r21 t99 (fun e109=>yc e107 e109 (fun r119=>k106 r119.xSides)))))) (jx t92 1 (fun t233=>nx93 (xs95,t233)))) (xs88,0)) (xE xs88 (fun r234=>ifW (!r234) (κ ([],false)) (κ (xs88,true))))) ([],0))) (fun k86=>ifW (!r20) (k86 true) (k86 (!r24)))))))
def Xu (old_0:zN) (next_1:zN) (κ:Int→Prop):Prop :=
 Z6 old_0 (fun (r15,r18)=>Z6 next_1 (fun (r19,r22)=>jnW (fun (t83:Bool)=>ifW t83 (κ 4) (Xl r15 old_0.xAccept r19 next_1.xAccept (fun (r85,r89)=>Xl r19 next_1.xAccept r15 old_0.xAccept (fun (r90,r94)=>jnW (fun (t155:Bool)=>ifW t155 (κ 4) (jnW (fun (t218:Int)=>jnW (fun (t281:Int)=>κ t281) (fun k282=>ifW (decide (0<(r85.length:Int))) (jx t218 2 (fun t220=>k282 t220)) (k282 t218))) (fun k219=>ifW (decide (0<(r90.length:Int))) (jx 0 1 (fun t157=>k219 t157)) (k219 0)))) (fun k156=>ifW (!r89) (k156 true) (k156 (!r94))))))) (fun k84=>ifW (!r18) (k84 true) (k84 (!r22)))))
def UW (list_0:(List zh)) (n_1:Int) (κ:Bool→Prop):Prop :=
 jw (fun (nx4:Int→Prop) (t3:Int)=>ifW (decide (t3<(list_0.length:Int))) (zJ list_0 t3 (fun e5=>jnW (fun (t69:Bool)=>ifW t69 (κ true) (jx t3 1 (fun t71=>nx4 t71))) (fun k70=>ifW (decide (e5.xLo≤n_1)) (k70 (decide (n_1≤e5.xHi))) (k70 false)))) (κ false)) 0
def Vx (κ:Bool→Prop):Prop :=
 UW ([(zh.mk 2 4)]) 3 (fun r3=>κ r3)
def yo (s_0:za) (κ:z8→Prop):Prop :=
 zaV ([]:(List zh)) 4 4 (fun xs26=>jw (fun (nx55:((List (List zh))×Int)→Prop) ((xs50,t54):((List (List zh))×Int))=>ifW (decide (t54<4)) (zJ ([s_0.x0,s_0.x1,s_0.x2,s_0.x3]) t54 (fun e57=>jU ([]) e57 (fun _=>zJ xs50 t54 (fun e66=>jx t54 1 (fun t73=>nx55 ((xs50.set (t54).toNat (([])++e57)),t73)))))) (κ (z8.mk xs50))) (xs26,0))
def Y2 (list_0:(List zn)) (κ:(List zS)→Prop):Prop :=
 zaV ((zS.mk (z8.mk ([])) false):zS) 0 (list_0.length:Int) (fun xs5=>jw (fun (nx14:((List zS)×Int)→Prop) ((xs9,t13):((List zS)×Int))=>ifW (decide (t13<(list_0.length:Int))) (zJ list_0 t13 (fun e15=>yo e15.xWhere (fun r44=>jU xs9 ([(zS.mk r44 e15.xAccept)]) (fun _=>jx t13 1 (fun t57=>nx14 ((xs9++([(zS.mk r44 e15.xAccept)])),t57)))))) (κ xs9)) (xs5,0))
def Z4 (s_0:zN) (κ:((List zS)×Bool)→Prop):Prop :=
 uT s_0 (fun (r9,r12)=>ifW (!r12) (κ ([],false)) (Y2 r9 (fun r14=>κ (r14,true))))
def Vs (list_0:(List z8)) (seed_1:Int) (κ:zW→Prop):Prop :=
 zbX seed_1 65536 (fun t5=>zjy seed_1 3 (fun t6=>zbX t6 65536 (fun t7=>zbX seed_1 256 (fun t8=>zbX seed_1 8 (fun t9=>jw (fun (nx17:((List Int)×Int)→Prop) ((xs14,t16):((List Int)×Int))=>ifW (decide (t16<(list_0.length:Int))) (jw (fun (nx21:((List Int)×Int)→Prop) ((xs18,t20):((List Int)×Int))=>jnW (fun (t88:Bool)=>ifW t88 (jnW (fun (xs241:(List Int))=>jx t20 1 (fun t244=>nx21 (xs241,t244))) (fun k243=>zJ list_0 t16 (fun e90=>zJ e90.xSides t20 (fun e96=>jnW (fun (t165:Bool)=>ifW t165 (k243 xs18) (jx seed_1 t20 (fun t167=>zbX t167 (e96.length:Int) (fun t168=>zJ e96 t168 (fun e169=>zJ xs18 t20 (fun e173=>jx seed_1 t16 (fun t176=>zbX t176 2 (fun t177=>ifW (decide (t177=0)) (zJ (xs18.set (t20).toNat e169.xLo) t20 (fun e178=>k243 ((xs18.set (t20).toNat e169.xLo).set (t20).toNat e169.xHi))) (k243 (xs18.set (t20).toNat e169.xLo)))))))))) (fun k166=>ifW (decide ((e96.length:Int)=0)) (k166 true) (jx seed_1 t16 (fun t102=>jx t102 t20 (fun t103=>zbX t103 3 (fun t104=>k166 (decide (t104=0))))))))))) (jx t16 1 (fun t245=>nx17 (xs18,t245)))) (fun k89=>ifW (decide (t20<4)) (zJ list_0 t16 (fun e22=>k89 (decide (t20<(e22.xSides.length:Int))))) (k89 false))) (xs14,0)) (zJ xs14 0 (fun e246=>zJ xs14 1 (fun e248=>zJ xs14 2 (fun e250=>zJ xs14 3 (fun e252=>κ (zW.mk e246 e248 e250 e252))))))) ([t5,t7,t8,t9],0))))))
def Y3 (top_0:Int) (κ:Bool→Prop):Prop :=
 jnW (fun (t61:Bool)=>κ t61) (fun k62=>ifW (decide (0≤top_0)) (k62 (decide (top_0≤65535))) (k62 false))
def XU (list_0:(List zh)) (top_1:Int) (κ:Bool→Prop):Prop :=
 jnW (fun (t64:Bool)=>ifW t64 (κ false) (jw (fun (nx68:(Int×Int)→Prop) ((t66,t67):(Int×Int))=>ifW (decide (t67<(list_0.length:Int))) (zJ list_0 t67 (fun e69=>jnW (fun (t134:Bool)=>ifW t134 (κ false) (jx t67 1 (fun t136=>nx68 (e69.xHi,t136)))) (fun k135=>jx t66 1 (fun t73=>ifW (decide (e69.xLo≤t73)) (k135 true) (ifW (decide (e69.xHi<e69.xLo)) (k135 true) (k135 (decide (top_1<e69.xHi)))))))) (κ true)) ((-2),0))) (fun k65=>Y3 top_1 (fun r3=>ifW (!r3) (k65 true) (k65 (decide (40<(list_0.length:Int))))))
def Y0 (b_0:z8) (κ:Bool→Prop):Prop :=
 ifW (!(decide ((b_0.xSides.length:Int)=4))) (κ false) (jw (fun (nx9:Int→Prop) (t8:Int)=>ifW (decide (t8<(b_0.xSides.length:Int))) (zJ b_0.xSides t8 (fun e10=>js t8 (fun r16=>XU e10 r16 (fun r17=>ifW (!r17) (κ false) (jx t8 1 (fun t18=>nx9 t18)))))) (κ true)) 0)
def X8 (list_0:(List zS)) (κ:Bool→Prop):Prop :=
 ifW (decide (60<(list_0.length:Int))) (κ false) (jw (fun (nx4:Int→Prop) (t3:Int)=>ifW (decide (t3<(list_0.length:Int))) (zJ list_0 t3 (fun e5=>Y0 e5.xWhere (fun r16=>ifW (!r16) (κ false) (jx t3 1 (fun t17=>nx4 t17))))) (κ true)) 0)
def Us (list_0:(List za)) (κ:(List z8)→Prop):Prop :=
 zaV ((z8.mk ([])):z8) 0 (list_0.length:Int) (fun xs5=>jw (fun (nx14:((List z8)×Int)→Prop) ((xs9,t13):((List z8)×Int))=>ifW (decide (t13<(list_0.length:Int))) (zJ list_0 t13 (fun e15=>yo e15 (fun r60=>jU xs9 ([r60]) (fun _=>jx t13 1 (fun t73=>nx14 ((xs9++([r60])),t73)))))) (κ xs9)) (xs5,0))
def UJ (b_0:z8) (κ:za→Prop):Prop :=
 znL b_0.xSides (fun e10 e11 e12 e13=>κ (za.mk e10 e11 e12 e13))
def UN (list_0:(List zS)) (κ:(List zn)→Prop):Prop :=
 zaV ((zn.mk (za.mk ([]) ([]) ([]) ([])) false):zn) 0 (list_0.length:Int) (fun xs5=>jw (fun (nx12:((List zn)×Int)→Prop) ((xs8,t11):((List zn)×Int))=>ifW (decide (t11<(list_0.length:Int))) (zJ list_0 t11 (fun e13=>UJ e13.xWhere (fun r24=>jU xs8 ([(zn.mk r24 e13.xAccept)]) (fun _=>jx t11 1 (fun t49=>nx12 ((xs8++([(zn.mk r24 e13.xAccept)])),t49)))))) (κ xs8)) (xs5,0))
def Xb (list_0:(List zS)) (κ:(List z8)→Prop):Prop :=
 X8 list_0 (fun r4=>ifW (!r4) (κ ([])) (UN list_0 (fun r6=>XN r6 (fun r9=>Us r9 (fun r12=>κ r12)))))
def yA (p_0:zW) (κ:zd3→Prop):Prop :=
 κ (zd3.mk p_0.xFrom p_0.xTo p_0.xPort p_0.xProto)
def Xp (p_0:zW) (κ:Bool→Prop):Prop :=
 yA p_0 (fun r3=>jw (fun (nx5:Int→Prop) (t4:Int)=>ifW (decide (t4<4)) (zJ ([r3.x0,r3.x1,r3.x2,r3.x3]) t4 (fun e6=>jnW (fun (t68:Bool)=>ifW t68 (κ false) (jx t4 1 (fun t70=>nx5 t70))) (fun k69=>ifW (decide (e6<0)) (k69 true) (js t4 (fun r7=>k69 (decide (r7<e6))))))) (κ true)) 0)
def ZJ (w_0_stack:(List jF)) (w_0_visits:(List uX)) (w_0_decision:Int) (κ:(List jF)→Prop):Prop :=
 jnW (fun (xs7:(List jF))=>κ xs7) (fun k10=>yZ w_0_stack 0 (w64 ((w_0_stack.length:Int) - 1)) (fun xs12=>k10 xs12))
def XY (t_0:jY) (p_1:zW) (κ:Bool→Prop):Prop :=
 yA p_1 (fun r5=>zJ ([r5.x0,r5.x1,r5.x2,r5.x3]) t_0.xField (fun e6=>jnW (fun (t67:Bool)=>κ (!(decide (t67=t_0.xNot)))) (fun k68=>ifW (decide (t_0.xLo≤e6)) (k68 (decide (e6≤t_0.xHi))) (k68 false))))
def UF (list_0:(List jY)) (p_1:zW) (κ:Bool→Prop):Prop :=
 jw (fun (nx6:Int→Prop) (t5:Int)=>ifW (decide (t5<(list_0.length:Int))) (zJ list_0 t5 (fun e7=>XY e7 p_1 (fun r11=>ifW (!r11) (κ false) (jx t5 1 (fun t12=>nx6 t12))))) (κ true)) 0
def yx (d_0:u9) (w_1_stack:(List jF)) (w_1_visits:(List uX)) (w_1_decision:Int) (κ:Int→Prop):Prop :=
 ifW d_0.xAccept (κ 1) (κ 2)
def Z1 (c_0:Z8) (w_1_stack:(List jF)) (w_1_visits:(List uX)) (w_1_decision:Int) (κ:(List jF)→Prop):Prop :=
 jnW (fun (xs9:(List jF))=>κ xs9) (fun k12=>jU w_1_stack ([(jF.mk c_0.xChain 0)]) (fun _=>k12 (w_1_stack++([(jF.mk c_0.xChain 0)]))))
def Zz (a_0:uA) (w_1_stack:(List jF)) (w_1_visits:(List uX)) (w_1_decision:Int) (κ:(List jF)→Prop):Prop :=
 ZJ w_1_stack w_1_visits w_1_decision (fun r9=>κ r9)
def Z2 (a_0:yl) (a_1_stack:(List jF)) (a_1_visits:(List uX)) (a_1_decision:Int) (κ:Unit→Prop):Prop :=
 κ ()
def Xx (s_0:zN) (p_1:zW) (κ:((List jF)×(List uX)×Int)→Prop):Prop :=
 jw (fun (nx26:((List jF)×(List uX)×Int)→Prop) ((xs18,xs22,t25):((List jF)×(List uX)×Int))=>jnW (fun (t87:Bool)=>ifW t87 (Y5 (xs18.length:Int) 1 (fun t95=>zJ xs18 t95 (fun e96=>zJ s_0.xChains e96.xChain (fun e98=>ifW (decide (e96.xNext=(e98.length:Int))) (ZJ xs18 xs22 t25 (fun r104=>nx26 (r104,xs22,t25))) (jx e96.xNext 1 (fun t107=>zJ e98 e96.xNext (fun e109=>UF e109.xTests p_1 (fun r115=>ifW (!r115) (nx26 ((xs18.set (t95).toNat (jF.mk e96.xChain t107)),xs22,t25)) (jnW (fun (xs187:(List uX))=>zJ e98 e96.xNext (fun e191=>ZI e191 (fun r197=>x9.casesW r197 (fun x198=>yx x198 (xs18.set (t95).toNat (jF.mk e96.xChain t107)) xs187 t25 (fun r202=>nx26 ((xs18.set (t95).toNat (jF.mk e96.xChain t107)),xs187,r202))) (fun x199=>Z1 x199 (xs18.set (t95).toNat (jF.mk e96.xChain t107)) xs187 t25 (fun r203=>nx26 (r203,xs187,t25))) (fun x200=>Zz (uA.mk ) (xs18.set (t95).toNat (jF.mk e96.xChain t107)) xs187 t25 (fun r206=>nx26 (r206,xs187,t25))) (fun x201=>Z2 (yl.mk ) (xs18.set (t95).toNat (jF.mk e96.xChain t107)) xs187 t25 (fun _=>nx26 ((xs18.set (t95).toNat (jF.mk e96.xChain t107)),xs187,t25)))))) (fun k190=>ifW (decide ((xs22.length:Int)<200)) (jnW (fun (xs116:(List uX))=>k190 xs116) (fun k119=>jU xs22 ([(uX.mk e96.xChain e96.xNext)]) (fun _=>k119 (xs22++([(uX.mk e96.xChain e96.xNext)]))))) (k190 xs22))))))))))) (κ (xs18,xs22,t25))) (fun k88=>ifW (decide (0<(xs18.length:Int))) (k88 (decide (t25=5))) (k88 false))) ([(jF.mk 0 0)],[],5)
def XX (s_0:zN) (p_1:zW) (κ:Bool→Prop):Prop :=
 Xx s_0 p_1 (fun (r12,r15,r18)=>ifW (decide (r18=1)) (κ true) (ifW (decide (r18=2)) (κ false) (κ s_0.xAccept)))
def yV (s_0:zN) (p_1:zW) (κ:Bool→Prop):Prop :=
 jnW (fun (t72:Bool)=>ifW t72 (κ false) (XX s_0 p_1 (fun r74=>κ r74))) (fun k73=>yP s_0 (fun r10=>ifW (!r10) (k73 true) (Xp p_1 (fun r11=>k73 (!r11)))))
end
section
open Go Go.Proofs
def NF (l:List zh):Prop:=(∀ s∈l,s.xLo≤s.xHi)∧l.Pairwise (fun a b=>a.xHi+1<b.xLo)
def hv (l:List zh) (x:Int):Prop:=∃ s∈l,s.xLo≤x∧x≤s.xHi
theorem ziz:NF []:=⟨by simp,by simp⟩
theorem u5 (x:Int):¬ hv [] x:=by simp [hv]
theorem ug (s:zh) (l:List zh) (x:Int):hv (s :: l) x↔(s.xLo≤x∧x≤s.xHi)∨hv l x:=by simp [hv]
theorem zae (l m:List zh) (x:Int):hv (l++m) x↔hv l x∨hv m x:=by
 simp only [hv,List.mem_append]
 constructor
 ·rintro ⟨s,h | h,e⟩
  ·exact .inl ⟨s,h,e⟩
  ·exact .inr ⟨s,h,e⟩
 ·rintro (⟨s,h,e⟩ | ⟨s,h,e⟩)
  ·exact ⟨s,.inl h,e⟩
  ·exact ⟨s,.inr h,e⟩
theorem VV {s:zh} {l:List zh} (h:NF (s :: l)):NF l:=⟨fun t ht=>h.1 t (List.mem_cons_of_mem _ ht),(List.pairwise_cons.1 h.2).2⟩
theorem zdD {s:zh} {l:List zh} (h:NF (s :: l)) {x:Int} (hx:hv l x):s.xHi+1<x:=by
 obtain ⟨t,ht,e1,_⟩:=hx
 have:=(List.pairwise_cons.1 h.2).1 t ht
 omega
theorem zdt {s:zh} {l:List zh} (h:NF (s :: l)) {x:Int} (hx:hv (s :: l) x):s.xLo≤x:=by
 rcases (ug _ _ _).1 hx with e | e
 ·exact e.1
 ·have:=zdD h e
  have:=h.1 s (by simp)
  omega
theorem zag {l m:List zh} (hl:NF l) (hm:NF m) (h:∀ s∈l,∀ t∈m,s.xHi+1<t.xLo):NF (l++m) :=
 ⟨fun s hs=>(List.mem_append.1 hs).elim (hl.1 s) (hm.1 s),List.pairwise_append.2 ⟨hl.2,hm.2,h⟩⟩
theorem VK {s:zh} (h:s.xLo≤s.xHi):NF [s]:=⟨by simpa using h,by simp⟩
theorem zmp:∀ {a b:List zh},NF a→NF b→(∀ x,hv a x↔hv b x)→a=b
 | [],[],_,_,_=>rfl
 | [],t :: b,_,hb,h=>absurd ((h t.xLo).2 ((ug _ _ _).2 (.inl ⟨Int.le_refl _,hb.1 t (by simp)⟩))) (u5 _)
 | s :: a,[],ha,_,h=>absurd ((h s.xLo).1 ((ug _ _ _).2 (.inl ⟨Int.le_refl _,ha.1 s (by simp)⟩))) (u5 _)
 | s :: a,t :: b,ha,hb,h=>by
  have h1:=ha.1 s (by simp)
  have h2:=hb.1 t (by simp)
  have l1:t.xLo≤s.xLo:=zdt hb ((h _).1 ((ug _ _ _).2 (.inl ⟨Int.le_refl _,h1⟩)))
  have l2:s.xLo≤t.xLo:=zdt ha ((h _).2 ((ug _ _ _).2 (.inl ⟨Int.le_refl _,h2⟩)))
  have u1:¬ s.xHi<t.xHi:=fun hlt=>by
   have:=(h (s.xHi+1)).2 ((ug _ _ _).2 (.inl ⟨by omega,by omega⟩))
   rcases (ug _ _ _).1 this with e | e
   ·omega
   ·have:=zdD ha e;omega
  have u2:¬ t.xHi<s.xHi:=fun hlt=>by
   have:=(h (t.xHi+1)).1 ((ug _ _ _).2 (.inl ⟨by omega,by omega⟩))
   rcases (ug _ _ _).1 this with e | e
   ·omega
   ·have:=zdD hb e;omega
  have e:s=t:=by
   apply zh.ext <;> omega
  subst e
  rw [zmp (VV ha) (VV hb) (fun x=>?_)]
  have:=h x
  rw [ug,ug] at this
  constructor
  ·intro hx
   have g:=zdD ha hx
   rcases this.1 (.inr hx) with e | e
   ·omega
   ·exact e
  ·intro hx
   have g:=zdD hb hx
   rcases this.2 (.inr hx) with e | e
   ·omega
   ·exact e
def znX:List (Int×Int)→List zh→Int→Int→List zh
 | [],out,_,_=>out
 | e :: es,out,d,st=>znX es (if d+e.2=0 then out++[zh.mk (if d=0 then e.1 else st) (e.1 - 1)] else out) (d+e.2) (if d=0 then e.1 else st)
def stp (l:List (Int×Int)):Int:=(l.map (·.2)).sum
def zbs:List zh→zh→List zh→Bool→List zh×zh×Bool
 | [],s,out,pl=>(out,s,pl)
 | x :: xs,s,out,pl =>
  if x.xHi+1<s.xLo then zbs xs s (out++[x]) pl
  else if s.xHi+1<x.xLo then zbs xs s ((if pl then out else out++[s])++[x]) true
  else zbs xs (zh.mk (min s.xLo x.xLo) (max s.xHi x.xHi)) out pl
def zcP (l:List zh) (s:zh):List zh :=
 match zbs l s [] false with
 | (out,s',pl)=>if pl then out else out++[s']
theorem zfD:∀ (l:List zh) (s:zh) (out:List zh) (pl:Bool),NF l→s.xLo≤s.xHi→NF out →
  (pl=false→(∀ t∈out,t.xHi+1<s.xLo)∧(∀ t∈out,∀ u∈l,t.xHi+1<u.xLo)) →
  (pl=true→(∀ t∈out,∀ u∈l,t.xHi+1<u.xLo)∧(∀ u∈l,s.xHi+1<u.xLo)∧s∈out) →
  NF (match zbs l s out pl with | (o,s',p)=>if p then o else o++[s'])∧∀ x,hv (match zbs l s out pl with | (o,s',p)=>if p then o else o++[s']) x↔hv out x∨hv l x∨(s.xLo≤x∧x≤s.xHi)
 | [],s,out,pl,hl,hs,ho,h0,h1=>by
  simp only [zbs]
  cases pl with
  | true =>
   simp only [if_true]
   obtain ⟨_,_,hm⟩:=h1 rfl
   refine ⟨ho,fun x=>⟨.inl,?_⟩⟩
   rintro (q | q | q)
   ·exact q
   ·exact absurd q (u5 x)
   ·exact ⟨s,hm,q⟩
  | false =>
   simp only [Bool.false_eq_true,if_false]
   obtain ⟨ha,_⟩:=h0 rfl
   refine ⟨zag ho (VK hs) (fun t ht u hu=>by simp at hu;subst hu;exact ha t ht),fun x=>?_⟩
   rw [zae,ug]
   simp [u5]
 | y :: l,s,out,pl,hl,hs,ho,h0,h1=>by
  have hy:=hl.1 y (by simp)
  have hgap:=(List.pairwise_cons.1 hl.2).1
  have hl':=VV hl
  unfold zbs
  by_cases c1:y.xHi+1<s.xLo
  ·rw [if_pos c1]
   have hpl:pl=false:=by
    cases pl with
    | false=>rfl
    | true=>have:=(h1 rfl).2.1 y (by simp);omega
   subst hpl
   obtain ⟨a1,a2⟩:=h0 rfl
   have ih:=zfD l s (out++[y]) false hl' hs (zag ho (VK hy) (fun t ht u hu=>by simp at hu;subst hu;exact a2 t ht u (by simp)))
    (fun _=>⟨fun t ht=>by
     rcases List.mem_append.1 ht with q | q
     ·exact a1 t q
     ·simp at q;subst q;exact c1,fun t ht u hu=>by
     rcases List.mem_append.1 ht with q | q
     ·exact a2 t q u (by simp [hu])
     ·simp at q;subst q;exact hgap u hu⟩) (fun h=>by simp at h)
   refine ⟨ih.1,fun x=>?_⟩
   rw [ih.2 x,zae,ug,ug]
   simp only [u5,or_false]
   constructor
   ·rintro ((q | q) | q | q)
    ·exact .inl q
    ·exact .inr (.inl (.inl q))
    ·exact .inr (.inl (.inr q))
    ·exact .inr (.inr q)
   ·rintro (q | (q | q) | q)
    ·exact .inl (.inl q)
    ·exact .inl (.inr q)
    ·exact .inr (.inl q)
    ·exact .inr (.inr q)
  ·rw [if_neg c1]
   by_cases c2:s.xHi+1<y.xLo
   ·rw [if_pos c2]
    cases pl with
    | true =>
     simp only [if_true]
     obtain ⟨a1,a2,a3⟩:=h1 rfl
     have ih:=zfD l s (out++[y]) true hl' hs (zag ho (VK hy) (fun t ht u hu=>by simp at hu;subst hu;exact a1 t ht u (by simp))) (fun h=>by simp at h)
      (fun _=>⟨fun t ht u hu=>by
       rcases List.mem_append.1 ht with q | q
       ·exact a1 t q u (by simp [hu])
       ·simp at q;subst q;exact hgap u hu,fun u hu=>a2 u (by simp [hu]),by simp [a3]⟩)
     refine ⟨ih.1,fun x=>?_⟩
     rw [ih.2 x,zae,ug,ug]
     simp only [u5,or_false]
     constructor
     ·rintro ((q | q) | q | q)
      ·exact .inl q
      ·exact .inr (.inl (.inl q))
      ·exact .inr (.inl (.inr q))
      ·exact .inr (.inr q)
     ·rintro (q | (q | q) | q)
      ·exact .inl (.inl q)
      ·exact .inl (.inr q)
      ·exact .inr (.inl q)
      ·exact .inr (.inr q)
    | false =>
     simp only [Bool.false_eq_true,if_false]
     obtain ⟨a1,a2⟩:=h0 rfl
     have n1:NF (out++[s]):=zag ho (VK hs) (fun t ht u hu=>by simp at hu;subst hu;exact a1 t ht)
     have ih:=zfD l s ((out++[s])++[y]) true hl' hs (zag n1 (VK hy) (fun t ht u hu=>by
       simp at hu;subst hu
       rcases List.mem_append.1 ht with q | q
       ·exact a2 t q u (by simp)
       ·simp at q;subst q;exact c2)) (fun h=>by simp at h)
      (fun _=>⟨fun t ht u hu=>by
       have hg:=hgap u hu
       rcases List.mem_append.1 ht with q | q
       ·rcases List.mem_append.1 q with q | q
        ·exact a2 t q u (by simp [hu])
        ·simp at q;subst q;omega
       ·simp at q;subst q;exact hg,fun u hu=>by have:=hgap u hu;omega,by simp⟩)
     refine ⟨ih.1,fun x=>?_⟩
     rw [ih.2 x,zae,zae,ug,ug,ug]
     simp only [u5,or_false]
     constructor
     ·rintro (((q | q) | q) | q | q)
      ·exact .inl q
      ·exact .inr (.inr q)
      ·exact .inr (.inl (.inl q))
      ·exact .inr (.inl (.inr q))
      ·exact .inr (.inr q)
     ·rintro (q | (q | q) | q)
      ·exact .inl (.inl (.inl q))
      ·exact .inl (.inr q)
      ·exact .inr (.inl q)
      ·exact .inr (.inr q)
   ·rw [if_neg c2]
    have hpl:pl=false:=by
     cases pl with
     | false=>rfl
     | true=>have:=(h1 rfl).2.1 y (by simp);omega
    subst hpl
    obtain ⟨a1,a2⟩:=h0 rfl
    have ih:=zfD l (zh.mk (min s.xLo y.xLo) (max s.xHi y.xHi)) out false hl' (by simp only;omega) ho
     (fun _=>⟨fun t ht=>by
      have:=a1 t ht;have:=a2 t ht y (by simp)
      simp only;omega,fun t ht u hu=>a2 t ht u (by simp [hu])⟩) (fun h=>by simp at h)
    refine ⟨ih.1,fun x=>?_⟩
    rw [ih.2 x,ug]
    simp only
    constructor
    ·rintro (q | q | q)
     ·exact .inl q
     ·exact .inr (.inl (.inr q))
     ·by_cases c3:y.xLo≤x∧x≤y.xHi
      ·exact .inr (.inl (.inl c3))
      ·exact .inr (.inr (by omega))
    ·rintro (q | (q | q) | q)
     ·exact .inl q
     ·exact .inr (.inr (by omega))
     ·exact .inr (.inl q)
     ·exact .inr (.inr (by omega))
theorem zlf {l:List zh} {s:zh} (hl:NF l) (hs:s.xLo≤s.xHi):NF (zcP l s)∧∀ x,hv (zcP l s) x↔hv l x∨(s.xLo≤x∧x≤s.xHi):=by
 have:=zfD l s [] false hl hs ziz (fun _=>⟨by simp,by simp⟩) (fun h=>by simp at h)
 refine ⟨this.1,fun x=>?_⟩
 have:=this.2 x
 simp only [u5,false_or] at this
 exact this
theorem zbe:∀ (xs l:List zh),NF l→(∀ s∈xs,s.xLo≤s.xHi)→NF (xs.foldl zcP l)∧∀ x,hv (xs.foldl zcP l) x↔hv l x∨hv xs x
 | [],l,hl,_=>⟨hl,fun x=>by simp [u5]⟩
 | s :: xs,l,hl,h=>by
  obtain ⟨n1,e1⟩:=zlf hl (h s (by simp))
  obtain ⟨n2,e2⟩:=zbe xs (zcP l s) n1 (fun t ht=>h t (List.mem_cons_of_mem _ ht))
  refine ⟨n2,fun x=>?_⟩
  rw [List.foldl_cons,e2 x,e1 x,ug]
  constructor
  ·rintro ((q | q) | q)
   ·exact .inl q
   ·exact .inr (.inl q)
   ·exact .inr (.inr q)
  ·rintro (q | q | q)
   ·exact .inl (.inl q)
   ·exact .inl (.inr q)
   ·exact .inr q
end
section
theorem jo {A B:Prop} (h:A):ifW true A B:=⟨fun _=>h,(fun e=>by cases e)⟩
theorem jK {A B:Prop} (h:B):ifW false A B:=⟨(fun e=>by cases e),fun _=>h⟩
theorem zo {c:Bool} {A B:Prop} (ht:c=true→A) (hf:c=false→B):ifW c A B:=⟨ht,hf⟩
@[simp] theorem UB {A B:Prop}:ifW true A B=A:=propext ⟨fun h=>h.1 rfl,jo⟩
@[simp] theorem zdy {A B:Prop}:ifW false A B=B:=propext ⟨fun h=>h.2 rfl,jK⟩
theorem zy {x y:Int} {κ:Int→Prop} (h1:-9223372036854775808≤x+y) (h2:x+y≤9223372036854775807) (h:κ (x+y)):jx x y κ:=⟨⟨h1,h2⟩,h⟩
theorem yU {x y:Int} {κ:Int→Prop} (h1:-9223372036854775808≤x - y) (h2:x - y≤9223372036854775807) (h:κ (x - y)):Y5 x y κ:=⟨⟨h1,h2⟩,h⟩
theorem zdi {x y:Int} {κ:Int→Prop} (h1:-9223372036854775808≤x * y) (h2:x * y≤9223372036854775807) (h:κ (x * y)):zis x y κ:=⟨⟨h1,h2⟩,h⟩
theorem zlU {x y:Int} {κ:Int→Prop} (h1:0≤x) (h2:x≤9223372036854775807) (h3:0<y) (h:κ (x / y)):zjy x y κ:=⟨h3,⟨by omega,h2⟩,by rw [Int.tdiv_eq_ediv_of_nonneg h1];exact h⟩
theorem zlo {x y:Int} {κ:Int→Prop} (h1:0≤x) (h2:x≤9223372036854775807) (h3:0<y) (h:κ (x % y)):zbX x y κ:=⟨h1,h3,⟨by omega,h2⟩,h⟩
theorem zq {α:Type} {xs:List α} {i:Int} {κ:α→Prop} (n:Nat) (hi:i=n) (hn:n<xs.length) (h:κ xs[n]):zJ xs i κ:=by
 subst hi
 exact ⟨xs[n],by omega,by simp [hn],h⟩
theorem jk {α:Type} {xs ys:List α} {κ:List α→Prop} (h1:xs.length+ys.length≤4294967296) (h:κ (xs++ys)):jU xs ys κ:=⟨h1,h⟩
theorem U4 {α:Type} {z:α} {n m:Int} {κ:List α→Prop} (k:Nat) (hn:n=k) (h1:n≤m) (h2:m≤4294967296) (h:κ (List.replicate k z)):zaV z n m κ:=by
 subst hn
 refine ⟨by omega,h1,?_,by simpa using h⟩
 unfold zd8
 omega
theorem zX {σ:Type} {F:(σ→Prop)→σ→Prop} (len:Nat) (pos:σ→Int) (I:Nat→σ→Prop) (hpos:∀ k s,I k s→pos s=k) (hle:∀ k s,I k s→k≤len)
  (h:∀ k s next,I k s→(k<len→∀ s',I (k+1) s'→next s')→F next s) {s:σ} (h0:I 0 s):jw F s:=by
 refine yi (fun s=>∃ k,I k s) (fun s=>len - (pos s).toNat) (fun s next ⟨k,hk⟩ hn=>?_) ⟨0,h0⟩
 refine h k s next hk (fun hlt s' hs'=>hn s' ⟨k+1,hs'⟩ ?_)
 rw [hpos _ _ hk,hpos _ _ hs']
 omega
theorem zem {σ:Type} {F:(σ→Prop)→σ→Prop} (k0 len:Nat) (pos:σ→Int) (I:Nat→σ→Prop) (hpos:∀ k s,I k s→pos s=k) (hle:∀ k s,I k s→k≤len)
  (h:∀ k s next,I k s→(k<len→∀ s',I (k+1) s'→next s')→F next s) {s:σ} (h0:I k0 s):jw F s:=by
 refine yi (fun s=>∃ k,I k s) (fun s=>len - (pos s).toNat) (fun s next ⟨k,hk⟩ hn=>?_) ⟨k0,h0⟩
 refine h k s next hk (fun hlt s' hs'=>hn s' ⟨k+1,hs'⟩ ?_)
 rw [hpos _ _ hk,hpos _ _ hs']
 omega
theorem ziV {α:Type} [DecidableEq α] (a b:List α) (hab:a.length=b.length) (hl:a.length≤4294967296) {κ:Bool→Prop} (T:α→α→Prop→Prop) (hT:∀ x y A,(x=y→A)→(x≠y→κ false)→T x y A) (hκ:κ (decide (a=b)))
  (F:(Int→Prop)→Int→Prop) (hF:∀ nx t,(ifW (decide (t<(a.length:Int))) (zJ a t (fun x=>zJ b t (fun y=>T x y (jx t 1 (fun u=>nx u))))) (κ true))→F nx t):jw F 0:=by
 refine zX a.length (fun s=>s) (fun k s=>s=(k:Int)∧k≤a.length∧a.take k=b.take k) (fun k s h=>h.1) (fun k s h=>h.2.1) ?_ ⟨rfl,Nat.zero_le _,by simp⟩
 rintro k _ next ⟨rfl,hk,he⟩ hn
 refine hF _ _ (zo (fun hc=>?_) (fun hc=>?_))
 ·have hlt:k<a.length:=by simpa using hc
  refine zq k rfl hlt (zq k rfl (by omega) (hT _ _ _ (fun e=>zy (by omega) (by omega) (hn hlt _ ⟨by simp,by omega,?_⟩)) (fun e=>?_)))
  ·rw [List.take_succ_eq_append_getElem hlt,List.take_succ_eq_append_getElem (by omega),he,e]
  ·have:a≠b:=fun h=>by subst h;exact e rfl
   rw [decide_eq_false this] at hκ;exact hκ
 ·have hge:a.length≤k:=by simpa using hc
  have:a=b:=by
   rw [List.take_of_length_le hge,List.take_of_length_le (by omega)] at he
   exact he
  rw [decide_eq_true this] at hκ;exact hκ
def zon {α:Type} (f:Int→α) (k:Int) (n:Nat):List α:=(List.range n).map fun (i:Nat)=>f (k+(i:Int))
theorem zkB {α:Type} {xs:List α} {t:Nat} {a:α} {κ:α→Prop} (h:t<xs.length) (hk:κ a):zJ (xs.set ((t:Int)).toNat a) (t:Int) κ:=⟨a,by omega,by simp [h],hk⟩
end
section
open Go Go.Proofs
instance (l:List zh) (x:Int):Decidable (hv l x):=by unfold hv;infer_instance
def St (l:List zh) (top:Int):Prop:=NF l∧∀ s∈l,0≤s.xLo∧s.xHi≤top
theorem zns (top:Int):St [] top:=⟨ziz,by simp⟩
theorem zkQ {a b:List zh} {t u:Int} (ha:St a t) (hb:St b u) (h:∀ x,hv a x↔hv b x):a=b:=zmp ha.1 hb.1 h
theorem yD {l:List zh} {top x:Int} (h:St l top) (hx:hv l x):0≤x∧x≤top:=by
 obtain ⟨s,hs,e1,e2⟩:=hx
 have:=h.2 s hs
 omega
theorem zgp:∀ (l:List zh) (top lo:Int),NF l→(∀ s∈l,lo≤s.xLo∧s.xHi≤top)→lo≤top+2→2 * (l.length:Int)≤top+2 - lo
 | [],top,lo,_,_,h=>by simp;omega
 | s :: l,top,lo,hn,hr,h=>by
  have h0:=hr s (by simp)
  have h1:=hn.1 s (by simp)
  have:=zgp l top (s.xHi+2) (VV hn) (fun t ht=>⟨by have:=(List.pairwise_cons.1 hn.2).1 t ht;omega,(hr t (List.mem_cons_of_mem _ ht)).2⟩) (by omega)
  simp only [List.length_cons]
  omega
theorem VL {l:List zh} {top:Int} (h:St l top) (ht:-2≤top):2 * (l.length:Int)≤top+2:=by
 have:=zgp l top 0 h.1 h.2 (by omega)
 omega
def Ua (x y:zh):List zh:=if max x.xLo y.xLo≤min x.xHi y.xHi then [zh.mk (max x.xLo y.xLo) (min x.xHi y.xHi)] else []
def jj (a b:List zh):List zh:=a.flatMap fun x=>b.flatMap (Ua x)
theorem zbw {x y t:zh}:t∈Ua x y↔max x.xLo y.xLo≤min x.xHi y.xHi∧t=zh.mk (max x.xLo y.xLo) (min x.xHi y.xHi):=by
 unfold Ua;split <;> simp [*]
theorem zbQ {a b:List zh} {t:zh}:t∈jj a b↔∃ x∈a,∃ y∈b,max x.xLo y.xLo≤min x.xHi y.xHi∧t=zh.mk (max x.xLo y.xLo) (min x.xHi y.xHi):=by
 simp only [jj,List.mem_flatMap,zbw]
theorem Ye (a b:List zh) (n:Int):hv (jj a b) n↔hv a n∧hv b n:=by
 constructor
 ·rintro ⟨t,ht,h1,h2⟩
  obtain ⟨x,hx,y,hy,_,rfl⟩:=zbQ.1 ht
  simp only at h1 h2
  exact ⟨⟨x,hx,by omega,by omega⟩,⟨y,hy,by omega,by omega⟩⟩
 ·rintro ⟨⟨x,hx,h1,h2⟩,⟨y,hy,h3,h4⟩⟩
  exact ⟨_,zbQ.2 ⟨x,hx,y,hy,by omega,rfl⟩,by simp only;omega,by simp only;omega⟩
theorem zkC {x:zh}:∀ {b:List zh},NF b→NF (b.flatMap (Ua x))
 | [],_=>by simp [NF]
 | y :: b,h=>by
  rw [List.flatMap_cons]
  have hy:=(List.pairwise_cons.1 h.2).1
  refine zag ⟨fun t ht=>?_,?_⟩ (zkC (VV h)) (fun t ht u hu=>?_)
  ·obtain ⟨h1,rfl⟩:=zbw.1 ht;exact h1
  ·unfold Ua;split <;> simp
  ·obtain ⟨h1,rfl⟩:=zbw.1 ht
   obtain ⟨z,hz,hu⟩:=List.mem_flatMap.1 hu
   obtain ⟨h2,rfl⟩:=zbw.1 hu
   have:=hy z hz
   simp only;omega
theorem zcI:∀ {a b:List zh},NF a→NF b→NF (jj a b)
 | [],b,_,_=>by simp [jj,NF]
 | x :: a,b,ha,hb=>by
  have e:jj (x :: a) b=b.flatMap (Ua x)++jj a b:=by simp [jj]
  rw [e]
  refine zag (zkC hb) (zcI (VV ha) hb) (fun t ht u hu=>?_)
  obtain ⟨y,hy,ht⟩:=List.mem_flatMap.1 ht
  obtain ⟨h1,rfl⟩:=zbw.1 ht
  obtain ⟨z,hz,y',hy',h2,rfl⟩:=zbQ.1 hu
  have:=(List.pairwise_cons.1 ha.2).1 z hz
  simp only;omega
theorem XC {a b:List zh} {top:Int} (ha:St a top) (hb:NF b):St (jj a b) top:=by
 refine ⟨zcI ha.1 hb,fun t ht=>?_⟩
 obtain ⟨x,hx,y,hy,_,rfl⟩:=zbQ.1 ht
 have:=ha.2 x hx
 have:=hb.1 y hy
 simp only;omega
def UX:List zh→Int→Int→List zh
 | [],at_,top=>if at_≤top then [zh.mk at_ top] else []
 | s :: l,at_,top=>(if at_<s.xLo then [zh.mk at_ (s.xLo - 1)] else [])++UX l (s.xHi+1) top
def Zu (a:List zh) (top:Int):List zh:=UX a 0 top
theorem zeH:∀ (a:List zh) (c top:Int),NF a→(∀ s∈a,c≤s.xLo∧s.xHi≤top) →
  NF (UX a c top)∧(∀ s∈UX a c top,c≤s.xLo∧s.xHi≤top)∧∀ x,hv (UX a c top) x↔c≤x∧x≤top∧¬ hv a x
 | [],c,top,_,_=>by
  unfold UX
  split
  ·refine ⟨VK (by simpa using ‹_›),by simp,fun x=>?_⟩
   rw [ug];simp [u5]
  ·refine ⟨ziz,by simp,fun x=>?_⟩
   simp only [u5,false_iff]
   omega
 | s :: l,c,top,hn,hr=>by
  have h0:=hr s (by simp)
  have h1:=hn.1 s (by simp)
  have hg:=(List.pairwise_cons.1 hn.2).1
  obtain ⟨i1,i2,i3⟩:=zeH l (s.xHi+1) top (VV hn) (fun t ht=>⟨by have:=hg t ht;omega,(hr t (List.mem_cons_of_mem _ ht)).2⟩)
  unfold UX
  have hx0:∀ x,x≤s.xHi+1→¬ hv l x:=fun x hx hh=>by have:=zdD hn hh;omega
  split
  ·refine ⟨zag (VK (by simp only;omega)) i1 (fun t ht u hu=>by simp at ht;subst ht;have:=i2 u hu;simp only;omega),fun t ht=>?_,fun x=>?_⟩
   ·rcases List.mem_append.1 ht with q | q
    ·simp at q;subst q;simp only;omega
    ·have:=i2 t q;omega
   ·rw [zae,ug,i3,ug]
    simp only [u5,or_false]
    constructor
    ·rintro (q | ⟨q1,q2,q3⟩)
     ·exact ⟨by omega,by omega,fun h=>by
       rcases h with h | h
       ·omega
       ·exact hx0 x (by omega) h⟩
     ·exact ⟨by omega,q2,fun h=>by
       rcases h with h | h
       ·omega
       ·exact q3 h⟩
    ·rintro ⟨q1,q2,q3⟩
     by_cases h:x<s.xLo
     ·exact .inl (by omega)
     ·exact .inr ⟨by
       rcases Int.lt_or_le s.xHi x with g | g
       ·omega
       ·exact absurd (Or.inl ⟨by omega,g⟩) q3,q2,fun h=>q3 (.inr h)⟩
  ·refine ⟨by simpa using i1,fun t ht=>?_,fun x=>?_⟩
   ·have:=i2 t (by simpa using ht);omega
   ·rw [List.nil_append,i3,ug]
    constructor
    ·rintro ⟨q1,q2,q3⟩
     exact ⟨by omega,q2,fun h=>by
       rcases h with h | h
       ·omega
       ·exact q3 h⟩
    ·rintro ⟨q1,q2,q3⟩
     exact ⟨by
       rcases Int.lt_or_le s.xHi x with g | g
       ·omega
       ·exact absurd (Or.inl ⟨by omega,g⟩) q3,q2,fun h=>q3 (.inr h)⟩
theorem Uh {a:List zh} {top:Int} (h:St a top):St (Zu a top) top:=by
 obtain ⟨h1,h2,_⟩:=zeH a 0 top h.1 h.2
 exact ⟨h1,h2⟩
theorem zdM {a:List zh} {top:Int} (h:St a top) (x:Int):hv (Zu a top) x↔0≤x∧x≤top∧¬ hv a x:=(zeH a 0 top h.1 h.2).2.2 x
def Yb (a b:List zh):List zh:=b.foldl zcP a
theorem zbO {a b:List zh} {top:Int} (ha:St a top) (hb:St b top) (x:Int):hv (Yb a b) x↔hv a x∨hv b x:=(zbe b a ha.1 hb.1.1).2 x
theorem V3 {l:List zh} {s:zh} (h:NF l) (hs:s∈l):hv l s.xLo∧hv l s.xHi:=⟨⟨s,hs,Int.le_refl _,h.1 s hs⟩,⟨s,hs,h.1 s hs,Int.le_refl _⟩⟩
theorem zdA {a b:List zh} {top:Int} (ha:St a top) (hb:St b top):St (Yb a b) top:=by
 have hn:NF (Yb a b):=(zbe b a ha.1 hb.1.1).1
 refine ⟨hn,fun s hs=>?_⟩
 obtain ⟨e1,e2⟩:=V3 hn hs
 rw [zbO ha hb] at e1 e2
 constructor
 ·rcases e1 with e | e
  ·exact (yD ha e).1
  ·exact (yD hb e).1
 ·rcases e2 with e | e
  ·exact (yD ha e).2
  ·exact (yD hb e).2
theorem zk8 (a:List zh) (c:Int) (hl:a.length≤4294967296) {i0:Nat} (h0:i0≤a.length) (hb:∀ s∈a.take i0,s.xHi<c) (REST:Int→Prop)
  (hR:∀ i:Nat,i≤a.length→(∀ s∈a.take i,s.xHi<c)→(∀ h:i<a.length,c≤a[i].xHi)→REST i)
  (F:(Int→Prop)→Int→Prop) (hF:∀ nx t,(jnW (fun (b:Bool)=>ifW b (jx t 1 (fun u=>nx u)) (REST t)) (fun k=>ifW (decide (t<(a.length:Int))) (zJ a t (fun e=>k (decide (e.xHi<c)))) (k false)))→F nx t):jw F (i0:Int):=by
 refine zem i0 a.length (fun s=>s) (fun k s=>s=(k:Int)∧k≤a.length∧∀ s∈a.take k,s.xHi<c) (fun k s h=>h.1) (fun k s h=>h.2.1) ?_ ⟨rfl,h0,hb⟩
 rintro k _ next ⟨rfl,hk,he⟩ hn
 refine hF _ _ ?_
 unfold jnW
 refine zo (fun hc=>?_) (fun hc=>?_)
 ·have hlt:k<a.length:=by simpa using hc
  refine zq k rfl hlt (zo (fun hd=>?_) (fun hd=>?_))
  ·refine zy (by omega) (by omega) (hn hlt _ ⟨by simp,by omega,fun s hs=>?_⟩)
   rw [List.take_succ_eq_append_getElem hlt] at hs
   rcases List.mem_append.1 hs with q | q
   ·exact he s q
   ·simp at q;subst q;simpa using hd
  ·exact hR k hk he (fun _=>by simpa using hd)
 ·refine jK (hR k hk he (fun h=>?_))
  have:a.length≤k:=by simpa using hc
  omega
theorem zjs {a:List zh} {i:Nat} {c x:Int} (h:∀ s∈a.take i,s.xHi<c) (hx:c≤x):hv a x↔hv (a.drop i) x:=by
 have e:=zae (a.take i) (a.drop i) x
 rw [List.take_append_drop] at e
 rw [e]
 constructor
 ·rintro (⟨s,hs,q1,q2⟩ | q)
  ·have:=h s hs;omega
  ·exact q
 ·exact .inr
def stF (l:List zh) (c top:Int):Bool×Int :=
 match l with
 | []=>(false,top)
 | s :: _=>if c<s.xLo then (false,s.xLo - 1) else (true,s.xHi)
theorem zga {l:List zh} {c top:Int} {κ:Bool×Int→Prop} (hb:∀ s∈l,0≤s.xLo∧s.xHi≤9223372036854775807) (hn:NF l) (h:κ (stF l c top)):uI l c top κ:=by
 unfold uI
 cases l with
 | nil=>exact jo h
 | cons s l =>
  have:=hb s (by simp)
  have:=hn.1 s (by simp)
  refine zo (fun e=>by simp at e;omega) (fun _=>zq 0 rfl (by simp) (zo (fun e=>zq 0 rfl (by simp) (yU (by simp only [List.getElem_cons_zero];omega) (by simp only [List.getElem_cons_zero];omega) ?_)) (fun e=>zq 0 rfl (by simp) ?_)))
  ·simp only [stF] at h
   rw [if_pos (by simpa using e)] at h
   exact h
  ·simp only [stF] at h
   rw [if_neg (by simpa using e)] at h
   exact h
theorem zib {l:List zh} {c top:Int} (h:NF l) (hb:∀ s∈l,s.xHi≤top) (hc:c≤top) (hf:∀ s∈l.head?,c≤s.xHi) :
  c≤(stF l c top).2∧(stF l c top).2≤top∧∀ x,c≤x→x≤(stF l c top).2→(hv l x↔(stF l c top).1=true):=by
 cases l with
 | nil=>exact ⟨hc,Int.le_refl _,fun x _ _=>by simp [stF,u5]⟩
 | cons s l =>
  have h0:=hb s (by simp)
  have h1:=h.1 s (by simp)
  have h2:=hf s (by simp)
  unfold stF
  simp only
  split
  ·refine ⟨by simp only;omega,by simp only;omega,fun x q1 q2=>?_⟩
   simp only at q2
   simp only [Bool.false_eq_true,iff_false]
   intro hh
   have:=zdt h hh
   omega
  ·refine ⟨h2,h0,fun x q1 q2=>?_⟩
   simp only at q2
   simp only [iff_true]
   exact (ug _ _ _).2 (.inl ⟨by omega,q2⟩)
theorem zdx:∀ {a:List zh} (i:Nat),NF a→NF (a.drop i):=fun {a} i h=>⟨fun s hs=>h.1 s (List.mem_of_mem_drop hs),h.2.drop⟩
theorem zgo {a:List zh} {i:Nat} {c:Int} (h:∀ q:i<a.length,c≤a[i].xHi):∀ s∈(a.drop i).head?,c≤s.xHi:=by
 intro s hs
 rw [List.head?_drop] at hs
 obtain ⟨hlt,e⟩:=List.getElem?_eq_some_iff.1 hs
 rw [← e];exact h hlt
theorem zcp (keep:Bool→Bool→Bool) {a b:List zh} {top:Int} (ha:St a top) (hb:St b top) (ht0:-2≤top) (ht:top≤65535) {κ:List zh→Prop}
  (hκ:∀ r,St r top→(∀ x,0≤x→x≤top→(hv r x↔keep (decide (hv a x)) (decide (hv b x))=true))→κ r)
  (K:Bool→Bool→(Bool→Prop)→Prop) (hK:∀ p q φ,φ (keep p q)→K p q φ)
  (F:(List zh×Int×Int×Int→Prop)→List zh×Int×Int×Int→Prop)
  (hF:∀ nx xs8 t11 t12 t13,(ifW (decide (t13≤top)) (jw (fun (nx16:Int→Prop) (t15:Int)=>jnW (fun (t79:Bool)=>ifW t79 (jx t15 1 (fun t81=>nx16 t81)) (jw (fun (nx83:Int→Prop) (t82:Int)=>jnW (fun (t146:Bool)=>ifW t146 (jx t82 1 (fun t148=>nx83 t148)) (yZ a t15 (a.length:Int) (fun xs150=>uI xs150 t13 top (fun (r153,r154)=>yZ b t82 (b.length:Int) (fun xs156=>uI xs156 t13 top (fun (r159,r160)=>jnW (fun (xs296:(List zh))=>jx (min r154 r160) 1 (fun t300=>nx (xs296,t15,t82,t300))) (fun k299=>K r153 r159 (fun r161=>ifW r161 (jnW (fun (t226:Bool)=>ifW t226 (Y5 (xs8.length:Int) 1 (fun t228=>zJ xs8 t228 (fun e229=>k299 (xs8.set (t228).toNat (zh.mk e229.xLo (min r154 r160)))))) (jU xs8 ([(zh.mk t13 (min r154 r160))]) (fun _=>k299 (xs8++([(zh.mk t13 (min r154 r160))]))))) (fun k227=>ifW (decide (0<(xs8.length:Int))) (Y5 (xs8.length:Int) 1 (fun t162=>zJ xs8 t162 (fun e163=>jx e163.xHi 1 (fun t165=>k227 (decide (t165=t13)))))) (k227 false))) (k299 xs8))))))))) (fun k147=>ifW (decide (t82<(b.length:Int))) (zJ b t82 (fun e84=>k147 (decide (e84.xHi<t13)))) (k147 false))) t12)) (fun k80=>ifW (decide (t15<(a.length:Int))) (zJ a t15 (fun e17=>k80 (decide (e17.xHi<t13)))) (k80 false))) t11) (κ xs8))→F nx (xs8,t11,t12,t13)) :
  jw F ([],0,0,0):=by
 have la:=VL ha ht0
 have lb:=VL hb ht0
 refine yi (fun (s:List zh×Int×Int×Int)=>∃ i j:Nat,s.2.1=i∧s.2.2.1=j∧i≤a.length∧j≤b.length∧0≤s.2.2.2∧(top<s.2.2.2→s.2.2.2=top+1∨s.2.2.2=0)∧(∀ u∈a.take i,u.xHi<s.2.2.2)∧(∀ u∈b.take j,u.xHi<s.2.2.2)∧St s.1 top∧(∀ u∈s.1,u.xHi<s.2.2.2)∧(∀ x,0≤x→x<s.2.2.2→(hv s.1 x↔keep (decide (hv a x)) (decide (hv b x))=true)))
  (fun s=>(top+1 - s.2.2.2).toNat) ?_ ⟨0,0,rfl,rfl,Nat.zero_le _,Nat.zero_le _,Int.le_refl _,fun _=>.inr rfl,by simp,by simp,zns _,by simp,fun x h1 h2=>by simp only at h2;omega⟩
 rintro ⟨out,_,_,c⟩ next ⟨i,j,rfl,rfl,hi,hj,hc0,hc1,hai,hbj,ho,hoc,hk⟩ hn
 simp only at hc0 hc1 hai hbj ho hoc hk
 have lo:=VL ho ht0
 refine hF _ _ _ _ _ (zo (fun hc=>?_) (fun hc=>?_))
 rotate_left 1
 ·have hc':top<c:=by simpa using hc
  refine hκ out ho (fun x h1 h2=>hk x h1 (by omega))
 have hc':c≤top:=by simpa using hc
 refine zk8 a c (by omega) hi hai _ (fun i' hi' hai' hai2=>?_) _ (fun _ _ h=>h)
 refine zk8 b c (by omega) hj hbj _ (fun j' hj' hbj' hbj2=>?_) _ (fun _ _ h=>h)
 have mema:∀ s∈a.drop i',0≤s.xLo∧s.xHi≤top:=fun s hs=>ha.2 s (List.mem_of_mem_drop hs)
 have memb:∀ s∈b.drop j',0≤s.xLo∧s.xHi≤top:=fun s hs=>hb.2 s (List.mem_of_mem_drop hs)
 refine ⟨by omega,by omega,by omega,?_⟩
 rw [show (a.take (a.length:Int).toNat).drop (i':Int).toNat=a.drop i' by simp]
 refine zga (fun s hs=>⟨(mema s hs).1,by have:=(mema s hs).2;omega⟩) (zdx _ ha.1) ?_
 obtain ⟨a1,a2,a3⟩:=zib (zdx i' ha.1) (fun s hs=>(mema s hs).2) hc' (zgo hai2)
 generalize stF (a.drop i') c top=p at a1 a2 a3
 obtain ⟨inA,endA⟩:=p
 simp only at a1 a2 a3 ⊢
 refine ⟨by omega,by omega,by omega,?_⟩
 rw [show (b.take (b.length:Int).toNat).drop (j':Int).toNat=b.drop j' by simp]
 refine zga (fun s hs=>⟨(memb s hs).1,by have:=(memb s hs).2;omega⟩) (zdx _ hb.1) ?_
 obtain ⟨b1,b2,b3⟩:=zib (zdx j' hb.1) (fun s hs=>(memb s hs).2) hc' (zgo hbj2)
 generalize stF (b.drop j') c top=p at b1 b2 b3
 obtain ⟨inB,endB⟩:=p
 simp only at b1 b2 b3 ⊢
 have hke:∀ x,c≤x→x≤min endA endB→(keep (decide (hv a x)) (decide (hv b x))=keep inA inB):=fun x q1 q2=>by
  have e1:decide (hv a x)=inA:=by
   have:=a3 x q1 (by omega)
   rw [← zjs hai' q1] at this
   cases inA <;> simpa using this
  have e2:decide (hv b x)=inB:=by
   have:=b3 x q1 (by omega)
   rw [← zjs hbj' q1] at this
   cases inB <;> simpa using this
  rw [e1,e2]
 unfold jnW
 generalize hm:min endA endB=m at hke ⊢
 have m1:c≤m:=by omega
 have m2:m≤top:=by omega
 have fin:∀ out',St out' top→(∀ u∈out',u.xHi≤m)→(∀ x,0≤x→x≤m→(hv out' x↔keep (decide (hv a x)) (decide (hv b x))=true))→jx m 1 (fun t300=>next (out',(i':Int),(j':Int),t300)):=fun out' h1 h2 h3 =>
  zy (by omega) (by omega) (hn _ ⟨i',j',rfl,rfl,hi',hj',by simp only;omega,fun _=>.inl (by simp only at *;omega),fun u hu=>by have:=hai' u hu;simp only;omega,fun u hu=>by have:=hbj' u hu;simp only;omega,h1,fun u hu=>by have:=h2 u hu;simp only;omega,fun x q1 q2=>h3 x q1 (by simp only at q2;omega)⟩ (by simp only;omega))
 refine hK _ _ _ (zo (fun hkt=>?_) (fun hkf=>?_))
 ·
  have app:(∀ u∈out,u.xHi+1<c)→jU out ([(zh.mk c m)]) (fun _=>jx m 1 (fun t300=>next (out++[zh.mk c m],(i':Int),(j':Int),t300))):=fun hg =>
   jk (by simp;omega) (fin _ ⟨zag ho.1 (VK (by simpa using m1)) (fun s hs t ht=>by simp at ht;subst ht;exact hg s hs),fun s hs=>by
    rcases List.mem_append.1 hs with q | q
    ·exact ho.2 s q
    ·simp at q;subst q;exact ⟨hc0,m2⟩⟩ (fun u hu=>by
    rcases List.mem_append.1 hu with q | q
    ·have:=hoc u q;omega
    ·simp at q;subst q;exact Int.le_refl _) (fun x q1 q2=>by
    rw [zae,ug]
    simp only [u5,or_false]
    by_cases hx:x<c
    ·rw [← hk x q1 hx]
     constructor
     ·rintro (q | q)
      ·exact q
      ·omega
     ·exact .inl
    ·rw [hke x (by omega) q2,hkt]
     simp only [iff_true]
     exact .inr ⟨by omega,q2⟩))
  refine zo (fun hp=>?_) (fun hp=>?_)
  ·
   have hpos:0<out.length:=by simpa using hp
   refine yU (by omega) (by omega) (zq (out.length - 1) (by omega) (by omega) ?_)
   have hmem:out[out.length - 1]∈out:=List.getElem_mem _
   have hlast:=hoc _ hmem
   have hl0:=ho.2 _ hmem
   have hl1:=ho.1.1 _ hmem
   refine zy (by omega) (by omega) (zo (fun hq=>?_) (fun hq=>?_))
   ·have hq':(out[out.length - 1]).xHi+1=c:=by simpa using hq
    refine yU (by omega) (by omega) (zq (out.length - 1) (by omega) (by omega) ?_)
    have hsplit:out=out.dropLast++[out[out.length - 1]]:=by
     have:=List.dropLast_concat_getLast (l:=out) (by intro h;rw [h] at hpos;simp at hpos)
     rw [List.getLast_eq_getElem] at this
     exact this.symm
    generalize out[out.length - 1]=z at *
    have hset:out.set ((out.length:Int) - 1).toNat (zh.mk z.xLo m)=out.dropLast++[zh.mk z.xLo m]:=by
     have e1:((out.length:Int) - 1).toNat=out.dropLast.length:=by rw [List.length_dropLast];omega
     rw [e1]
     conv=>lhs;rw [hsplit]
     rw [List.dropLast_concat,List.set_append_right _ _ (Nat.le_refl _)]
     simp
    rw [hset]
    have hd:NF (out.dropLast++[z]):=by rw [← hsplit];exact ho.1
    have hdp:=List.pairwise_append.1 hd.2
    have hdm:∀ u∈out.dropLast,u∈out:=fun u hu=>by rw [hsplit];exact List.mem_append_left _ hu
    refine fin _ ⟨zag ⟨fun s hs=>ho.1.1 s (hdm s hs),hdp.1⟩ (VK (by simp only;omega)) (fun s hs t ht=>by simp at ht;subst ht;exact hdp.2.2 s hs z (by simp)),fun s hs=>?_⟩ (fun u hu=>?_) (fun x q1 q2=>?_)
    ·rcases List.mem_append.1 hs with q | q
     ·exact ho.2 s (hdm s q)
     ·simp at q;subst q;exact ⟨hl0.1,m2⟩
    ·rcases List.mem_append.1 hu with q | q
     ·have:=hoc u (hdm u q);omega
     ·simp at q;subst q;exact Int.le_refl _
    ·have hold:hv out x↔hv out.dropLast x∨(z.xLo≤x∧x≤z.xHi):=by
      conv=>lhs;rw [hsplit]
      rw [zae,ug];simp [u5]
     rw [zae,ug]
     simp only [u5,or_false]
     by_cases hx:x<c
     ·rw [← hk x q1 hx,hold]
      constructor
      ·rintro (q | q)
       ·exact .inl q
       ·exact .inr ⟨q.1,by omega⟩
      ·rintro (q | q)
       ·exact .inl q
       ·exact .inr ⟨q.1,by omega⟩
     ·rw [hke x (by omega) q2,hkt]
      simp only [iff_true]
      exact .inr ⟨by omega,q2⟩
   ·have hq':(out[out.length - 1]).xHi+1≠c:=by simpa using hq
    refine app (fun u hu=>?_)
    obtain ⟨t,ht,e⟩:=List.getElem_of_mem hu
    by_cases e0:t=out.length - 1
    ·subst e0;rw [← e];omega
    ·have hpw:=List.pairwise_iff_getElem.1 ho.1.2 t (out.length - 1) ht (by omega) (by omega)
     rw [e] at hpw
     omega
  ·have:out=[]:=by
    have:¬ 0<out.length:=by simpa using hp
    exact List.eq_nil_of_length_eq_zero (by omega)
   subst this
   exact jK (app (by simp))
 ·refine fin out ho (fun u hu=>by have:=hoc u hu;omega) (fun x q1 q2=>?_)
  by_cases hx:x<c
  ·exact hk x q1 hx
  ·rw [hke x (by omega) q2,hkf]
   simp only [Bool.false_eq_true,iff_false]
   rintro ⟨u,hu,r1,r2⟩
   have:=hoc u hu
   omega
end
section
open Go Go.Proofs
theorem zk5 {p q:Bool} {κ:Bool→Prop} (h:κ (p && q)):YT p q κ:=by
 unfold YT jnW;cases p <;> simpa using h
theorem zf2 {p q:Bool} {κ:Bool→Prop} (h:κ (p && !q)):Zo p q κ:=by
 unfold Zo jnW;cases p <;> simpa using h
theorem ziD {p q:Bool} {κ:Bool→Prop} (h:κ (p || q)):XG p q κ:=by
 unfold XG jnW;cases p <;> simpa using h
theorem zhs {a b:List zh} {top:Int} (ha:St a top) (hb:St b top) (h0:-2≤top) (ht:top≤65535) {κ:List zh→Prop} (h:κ (jj a b)):uR a b top κ:=by
 unfold uR
 refine zcp (fun p q=>p && q) ha hb h0 ht (κ:=κ) (fun r hr hk=>?_) (fun p q φ=>YT p q φ) (fun p q φ=>zk5) _ (fun _ _ _ _ _ h=>h)
 rw [zkQ hr (XC ha hb.1) (fun x=>?_)]
 ·exact h
 ·rw [Ye]
  by_cases hx:0≤x∧x≤top
  ·rw [hk x hx.1 hx.2];simp
  ·exact ⟨fun e=>absurd (yD hr e) hx,fun e=>absurd (yD ha e.1) hx⟩
theorem YO {a b:List zh} {top:Int} (ha:St a top) (hb:St b top) (h0:-2≤top) (ht:top≤65535) {κ:List zh→Prop} (h:κ (jj a (Zu b top))):xx a b top κ:=by
 unfold xx
 refine zcp (fun p q=>p && !q) ha hb h0 ht (κ:=κ) (fun r hr hk=>?_) (fun p q φ=>Zo p q φ) (fun p q φ=>zf2) _ (fun _ _ _ _ _ h=>h)
 rw [zkQ hr (XC ha (Uh hb).1) (fun x=>?_)]
 ·exact h
 ·rw [Ye,zdM hb]
  by_cases hx:0≤x∧x≤top
  ·rw [hk x hx.1 hx.2];simp [hx.1,hx.2]
  ·exact ⟨fun e=>absurd (yD hr e) hx,fun e=>absurd (yD ha e.1) hx⟩
theorem zfK {a b:List zh} {top:Int} (ha:St a top) (hb:St b top) (h0:-2≤top) (ht:top≤65535) {κ:List zh→Prop} (h:κ (Yb a b)):uC a b top κ:=by
 unfold uC
 refine zcp (fun p q=>p || q) ha hb h0 ht (κ:=κ) (fun r hr hk=>?_) (fun p q φ=>XG p q φ) (fun p q φ=>ziD) _ (fun _ _ _ _ _ h=>h)
 rw [zkQ hr (zdA ha hb) (fun x=>?_)]
 ·exact h
 ·rw [zbO ha hb]
  by_cases hx:0≤x∧x≤top
  ·rw [hk x hx.1 hx.2];simp
  ·refine ⟨fun e=>absurd (yD hr e) hx,fun e=>?_⟩
   rcases e with e | e
   ·exact absurd (yD ha e) hx
   ·exact absurd (yD hb e) hx
def lim (l:List zh):List zh×Bool:=if 40<l.length then ([],false) else (l,true)
theorem zaJ {l:List zh} {κ:List zh×Bool→Prop} (h:κ (lim l)):yH l κ:=by
 unfold yH
 unfold lim at h
 refine zo (fun hc=>?_) (fun hc=>?_)
 ·rw [if_pos (by have:=of_decide_eq_true hc;omega)] at h;exact h
 ·rw [if_neg (by have:=of_decide_eq_false hc;omega)] at h;exact h
theorem Ue {a b:List zh} {top:Int} (ha:St a top) (hb:St b top) (h0:-2≤top) (ht:top≤65535) {κ:List zh×Bool→Prop} (h:κ (lim (jj a b))):xj a b top κ:=by
 unfold xj
 exact zhs ha hb h0 ht (zaJ h)
theorem zh1 {a b:List zh} {top:Int} (ha:St a top) (hb:St b top) (h0:-2≤top) (ht:top≤65535) {κ:List zh×Bool→Prop} (h:κ (lim (jj a (Zu b top)))):ut a b top κ:=by
 unfold ut
 exact YO ha hb h0 ht (zaJ h)
theorem zgI {a b:List zh} {top:Int} (ha:St a top) (hb:St b top) (h0:-2≤top) (ht:top≤65535) {κ:List zh×Bool→Prop} (h:κ (lim (Yb a b))):ZT a b top κ:=by
 unfold ZT
 exact zfK ha hb h0 ht (zaJ h)
theorem zjp {x:zh}:∀ (b:List zh),(b.flatMap (Ua x)).length≤b.length
 | []=>by simp
 | y :: b=>by
  have:=zjp (x:=x) b
  have h1:(Ua x y).length≤1:=by unfold Ua;split <;> simp
  simp only [List.flatMap_cons,List.length_append,List.length_cons]
  omega
theorem Xa {a b:List zh} {ta tb:Int} (ha:St a ta) (hb:St b tb) (h0:0≤ta) (ht:ta≤65535) (h1:0≤tb) (hu:tb≤65535) {κ:List zh→Prop} (h:κ (jj a b)):yb a b κ:=by
 have la:=VL ha (by omega)
 have lb:=VL hb (by omega)
 have short:∀ k,2 * ((jj (a.take k) b).length:Int)≤ta+2:=fun k =>
  VL (XC ⟨⟨fun s hs=>ha.1.1 s (List.mem_of_mem_take hs),ha.1.2.take⟩,fun s hs=>ha.2 s (List.mem_of_mem_take hs)⟩ hb.1) (by omega)
 unfold yb
 refine zX a.length (fun s=>s.2) (fun k s=>s.2=(k:Int)∧k≤a.length∧s.1=jj (a.take k) b) (fun k s h=>h.1) (fun k s h=>h.2.1) ?_ ⟨rfl,Nat.zero_le _,by simp [jj]⟩
 rintro k ⟨xs,t⟩ next ⟨rfl,hk,hx⟩ hn
 simp only at hx
 subst hx
 refine zo (fun hc=>?_) (fun hc=>?_)
 ·have hlt:k<a.length:=by simpa using hc
  have hmem:a[k]∈a:=List.getElem_mem hlt
  have r1:=ha.2 _ hmem
  refine zX b.length (fun s=>s.2) (fun j s=>s.2=(j:Int)∧j≤b.length∧s.1=jj (a.take k) b++(b.take j).flatMap (Ua a[k])) (fun k s h=>h.1) (fun k s h=>h.2.1) ?_ ⟨rfl,Nat.zero_le _,by simp⟩
  rintro j ⟨ys,u⟩ next2 ⟨rfl,hj,hy⟩ hn2
  simp only at hy
  subst hy
  refine zo (fun hd=>?_) (fun hd=>?_)
  ·have hlt2:j<b.length:=by simpa using hd
   have hstep:(b.take (j+1)).flatMap (Ua a[k])=(b.take j).flatMap (Ua a[k])++Ua a[k] b[j]:=by
    rw [List.take_succ_eq_append_getElem hlt2,List.flatMap_append];simp
   have hlen:=zjp (x:=a[k]) (b.take j)
   have:=short k
   simp only [List.length_take] at hlen
   unfold jnW
   refine zq k rfl hlt (zq j rfl hlt2 (zq k rfl hlt (zq j rfl hlt2 (zo (fun he=>?_) (fun he=>?_)))))
   ·refine jk (by simp only [List.length_append,List.length_singleton];omega) (zy (by omega) (by omega) (hn2 hlt2 _ ⟨by simp,by omega,?_⟩))
    rw [hstep]
    unfold Ua at *
    rw [if_pos (by simpa using he)]
    simp
   ·refine zy (by omega) (by omega) (hn2 hlt2 _ ⟨by simp,by omega,?_⟩)
    rw [hstep]
    have:Ua a[k] b[j]=[]:=by unfold Ua;rw [if_neg (by simpa using he)]
    rw [this];simp
  ·have hge:b.length≤j:=by simpa using hd
   have e:j=b.length:=by omega
   subst e
   refine zy (by omega) (by omega) (hn hlt _ ⟨by simp,by omega,?_⟩)
   have e2:jj (a.take k++[a[k]]) b=jj (a.take k) b++b.flatMap (Ua a[k]):=by simp only [jj,List.flatMap_append,List.flatMap_cons,List.flatMap_nil,List.append_nil]
   show jj (a.take k) b++(b.take b.length).flatMap (Ua a[k])=_
   rw [List.take_succ_eq_append_getElem hlt,e2,List.take_length]
 ·have hge:a.length≤k:=by simpa using hc
  rw [List.take_of_length_le hge];exact h
theorem zaw {a:List zh} {top:Int} (ha:St a top) (h0:0≤top) (ht:top≤65535) {κ:List zh→Prop} (h:κ (Zu a top)):Ym a top κ:=by
 have la:=VL ha (by omega)
 have lo:=VL (Uh ha) (by omega)
 unfold Ym
 refine zX a.length (fun s=>s.2.2) (fun k s=>s.2.2=(k:Int)∧k≤a.length∧s.1++UX (a.drop k) s.2.1 top=Zu a top∧0≤s.2.1∧s.2.1≤65536) (fun k s h=>h.1) (fun k s h=>h.2.1) ?_ ⟨rfl,Nat.zero_le _,by simp [Zu],by simp,by simp⟩
 rintro k ⟨xs,c,t⟩ next ⟨rfl,hk,hx,hc0,hc1⟩ hn
 simp only at hx hc0 hc1
 have hlen:xs.length≤(Zu a top).length:=by rw [← hx];simp
 refine zo (fun hc=>?_) (fun hc=>?_)
 ·have hlt:k<a.length:=by simpa using hc
  have hmem:a[k]∈a:=List.getElem_mem hlt
  have r1:=ha.2 _ hmem
  have r2:=ha.1.1 _ hmem
  rw [List.drop_eq_getElem_cons hlt] at hx
  simp only [UX] at hx
  unfold jnW
  refine zq k rfl hlt (zo (fun he=>?_) (fun he=>?_))
  ·rw [if_pos (by simpa using he)] at hx
   refine zq k rfl hlt (yU (by omega) (by omega) (jk (by simp only [List.length_singleton];omega) (zq k rfl hlt (zy (by omega) (by omega) (zy (by omega) (by omega) (hn hlt _ ⟨by simp,by omega,?_,by simp only;omega,by simp only;omega⟩))))))
   simpa [List.append_assoc] using hx
  ·rw [if_neg (by simpa using he)] at hx
   refine zq k rfl hlt (zy (by omega) (by omega) (zy (by omega) (by omega) (hn hlt _ ⟨by simp,by omega,?_,by simp only;omega,by simp only;omega⟩)))
   simpa using hx
 ·have hge:a.length≤k:=by simpa using hc
  rw [List.drop_eq_nil_of_le hge] at hx
  simp only [UX] at hx
  unfold jnW
  refine zo (fun he=>?_) (fun he=>?_)
  ·rw [if_pos (by simpa using he)] at hx
   refine jk (by simp only [List.length_singleton];omega) ?_
   rw [hx];exact h
  ·rw [if_neg (by simpa using he),List.append_nil] at hx
   rw [hx];exact h
def Sm (s:zh):Prop:=-1000000000≤s.xLo∧s.xLo≤1000000000∧-1000000000≤s.xHi∧s.xHi≤1000000000
theorem zlq {l:List zh} {s:zh} (hl:l.length≤1000000000) (hb:∀ x∈l,Sm x) (hs:Sm s) {κ:List zh→Prop} (h:κ (zcP l s)):Vv l s κ:=by
 unfold Vv
 refine zX l.length (fun s=>s.2.2.2.2) (fun k (st:Int×Int×List zh×Bool×Int)=>st.2.2.2.2=(k:Int)∧k≤l.length∧zbs l s [] false=zbs (l.drop k) (zh.mk st.1 st.2.1) st.2.2.1 st.2.2.2.1∧st.2.2.1.length≤2 * k∧Sm (zh.mk st.1 st.2.1)) (fun k s h=>h.1) (fun k s h=>h.2.1) ?_ ⟨rfl,Nat.zero_le _,by simp,by simp,hs⟩
 rintro k ⟨lo,hi,xs,pl,t⟩ next ⟨rfl,hk,hx,hlen,hsm⟩ hn
 simp only at hx hlen hsm
 obtain ⟨m1,m2,m3,m4⟩:=hsm
 simp only at m1 m2 m3 m4
 refine zo (fun hc=>?_) (fun hc=>?_)
 ·have hlt:k<l.length:=by simpa using hc
  obtain ⟨n1,n2,n3,n4⟩:=hb _ (List.getElem_mem hlt)
  rw [List.drop_eq_getElem_cons hlt] at hx
  simp only [zbs] at hx
  unfold jnW
  refine zq k rfl hlt (zy (by omega) (by omega) (zo (fun he=>?_) (fun he=>?_)))
  ·rw [if_pos (by simpa using he)] at hx
   exact jk (by simp only [List.length_singleton];omega) (zy (by omega) (by omega) (hn hlt _ ⟨by simp,by omega,hx,by simp only [List.length_append,List.length_singleton];omega,m1,m2,m3,m4⟩))
  ·rw [if_neg (by simpa using he)] at hx
   refine zy (by omega) (by omega) (zo (fun hf=>?_) (fun hf=>?_))
   ·rw [if_pos (by simpa using hf)] at hx
    cases pl with
    | false =>
     refine jo (jk (by simp only [List.length_singleton];omega) (jk (by simp only [List.length_append,List.length_singleton];omega) (zy (by omega) (by omega) (hn hlt _ ⟨by simp,by omega,hx,by simp only [List.length_append,List.length_singleton];omega,m1,m2,m3,m4⟩))))
    | true =>
     refine jK (jk (by simp only [List.length_singleton];omega) (zy (by omega) (by omega) (hn hlt _ ⟨by simp,by omega,hx,by simp only [List.length_append,List.length_singleton];omega,m1,m2,m3,m4⟩)))
   ·rw [if_neg (by simpa using hf)] at hx
    exact zy (by omega) (by omega) (hn hlt _ ⟨by simp,by omega,hx,by simp only;omega,by simp only;omega,by simp only;omega,by simp only;omega,by simp only;omega⟩)
 ·have hge:l.length≤k:=by simpa using hc
  rw [List.drop_eq_nil_of_le hge] at hx
  simp only [zbs] at hx
  unfold zcP at h
  rw [hx] at h
  unfold jnW
  cases pl with
  | false=>exact jo (jk (by simp only [List.length_singleton];omega) (by simpa using h))
  | true=>exact jK (by simpa using h)
end
section
open Go.Lib (decDigits)
def B (l:List UInt8):ByteArray:=ByteArray.mk l.toArray
def dg (c:UInt8):Bool:=decide (48≤c.toNat) && decide (c.toNat≤57)
def val (l:List UInt8):Nat:=l.foldl (fun n c=>10 * n+(c.toNat - 48)) 0
def run:Nat→List UInt8→List UInt8
 | 0,_=>[]
 | _,[]=>[]
 | k+1,c :: l=>if dg c then c :: run k l else []
end
section
theorem zkc (e:UInt8):(0:Int)≤(e.toNat:Int)∧(e.toNat:Int)≤255:=by
 have:=e.toNat_lt
 omega
theorem zlE {x y:Int} {κ:Int→Prop} (h1:0≤x) (h2:x<4611686018427387904) (h3:0≤y) (h4:y<4611686018427387904) (h:∀ z,0≤z→z<4611686018427387904→κ z):zmX x y κ:=by
 refine ⟨h1,h2,h3,h4,h _ (by omega) ?_⟩
 have:x.toNat ^^^ y.toNat<2 ^ 62:=Nat.xor_lt_two_pow (by omega) (by omega)
 have e:(2:Nat) ^ 62=4611686018427387904:=by decide
 rw [e] at this
 omega
theorem UE {x y:Int} {κ:Int→Prop} (h1:0≤x) (h2:x≤9223372036854775807) (h3:0<y) (h:∀ z,0≤z→z<y→κ z):zbX x y κ :=
 zlo h1 h2 h3 (h _ (Int.emod_nonneg _ (by omega)) (Int.emod_lt_of_pos _ h3))
theorem zgX {x y:Int} {κ:Int→Prop} (h1:0≤x) (h2:x≤9223372036854775807) (h3:0<y) (h:∀ z,0≤z→z≤x→κ z):zjy x y κ :=
 zlU h1 h2 h3 (h _ (Int.ediv_nonneg h1 (by omega)) (Int.ediv_le_self _ h1))
theorem Zq {α:Type} {xs:List α} {i:Int} {κ:α→Prop} (h1:0≤i) (h2:i<xs.length) (h:∀ x,x∈xs→κ x):zJ xs i κ:=by
 obtain ⟨n,rfl⟩:=Int.eq_ofNat_of_zero_le h1
 have hn:n<xs.length:=by omega
 exact zq n rfl hn (h _ (List.getElem_mem hn))
def RdP (b:List UInt8) (p:Int):Prop:=b.length≤2000∧0≤p∧p≤1000000
theorem uO {b:List UInt8} {p n:Int} (hr:RdP b p) {κ:Int×Int→Prop} (h:∀ v,0≤v→(v=0∨v<n)→κ (v,p+1)):zC b p n κ:=by
 obtain ⟨hb,h0,h1⟩:=hr
 unfold zC jnW
 have hz:κ (0,p+1):=h 0 (Int.le_refl _) (.inl rfl)
 refine zy (by omega) (by omega) (zo (fun hc=>?_) (fun hc=>zo (fun hc2=>?_) (fun hc2=>?_)))
 ·simp only [UB];exact hz
 ·exact hz
 ·simp at hc hc2
  have hpos:0<(b.length:Int):=by
   cases b with
   | nil=>simp at hc2
   | cons x l=>simp
  refine yU (by omega) (by omega) ?_
  have ep:p+1 - 1=p:=by omega
  rw [ep]
  refine zo (fun hc3=>?_) (fun hc3=>?_)
  ·simp at hc3
   refine Zq h0 hc3 (fun e _=>?_)
   have:=zkc e
   exact UE (by omega) (by omega) (by omega) (fun z z1 z2=>h z z1 (.inr z2))
  ·refine UE h0 (by omega) hpos (fun z z1 z2=>Zq z1 z2 (fun e _=>?_))
   have he:=zkc e
   refine zdi (by omega) (by omega) (zdi (by omega) (by omega) (zy (by omega) (by omega) (UE (by omega) (by omega) hpos (fun y y1 y2=>Zq y1 y2 (fun d _=>?_)))))
   have hd:=zkc d
   refine zdi (by omega) (by omega) (zy (by omega) (by omega) (zdi (by omega) (by omega) (zy (by omega) (by omega) (zgX (by omega) (by omega) hpos (fun q q1 q2=>?_)))))
   refine zdi (by omega) (by omega) (zy (by omega) (by omega) (zgX (by omega) (by omega) (by omega) (fun r r1 r2=>?_)))
   exact zlE (by omega) (by omega) (by omega) (by omega) (fun x x1 x2=>UE x1 (by omega) (by omega) (fun z z1 z2=>h z z1 (.inr z2)))
theorem zf9 {b:List UInt8} {p n:Int} (hr:RdP b p) (hn:n≤4294967296) {κ:Bool×Int→Prop} (h:∀ c p',p≤p'→p'≤p+1→κ (c,p')):xN b p n κ:=by
 unfold xN jnW
 refine zo (fun hc=>uO hr (fun v v1 v2=>yU (by simp at hc;omega) (by simp at hc;omega) (h _ _ (by omega) (by omega)))) (fun hc=>h _ _ (by omega) (by omega))
theorem zjH {c:List UInt8} {κ:List UInt8×Int→Prop} (h:∀ b,b.length≤2000→κ (b,0)):UA c κ:=by
 unfold UA jnW
 refine zo (fun hc=>?_) (fun hc=>?_)
 ·simp at hc
  refine ⟨by omega,by omega,by omega,h _ (by simp;omega)⟩
 ·simp at hc
  exact h _ (by omega)
theorem zlx {κ:Bool→Prop} (h:κ true):Vx κ:=by
 unfold Vx UW
 refine yi (fun s=>s=0) (fun s=>0) ?_ rfl
 rintro s next rfl hn
 refine zo (fun _=>zq 0 rfl (by simp) ?_) (fun hc=>by simp at hc)
 simp [jnW]
 exact h
end
section
open Go.Lib (decDigits)
def cut (c:UInt8):List UInt8→List UInt8×List UInt8
 | []=>([],[])
 | d :: l=>if d=c then ([],l) else (d :: (cut c l).1,(cut c l).2)
end
section
open Go.Lib (decDigits)
theorem zbz {n lo hi:Int} {κ:Bool→Prop} (h:κ (decide (lo≤n∧n≤hi))):yy n lo hi κ:=by
 unfold yy jnW
 refine zo (fun hc=>?_) (fun hc=>?_)
 ·simp at hc;simpa [hc] using h
 ·simp at hc
  have:decide (lo≤n∧n≤hi)=false:=by simp;omega
  rw [this] at h;exact h
end
section
open Go.Lib (decDigits)
theorem zd1 {x:Int} (h1:-100≤x) (h2:x≤100):w64 x=x:=by
 simp [w64,IntKind.wrap,IntKind.signed,IntKind.bits];omega
theorem zn3 {α:Type} {x a b c:α} (h:x∈[a,b,c]):x=a∨x=b∨x=c:=by simpa using h
theorem RdP.step {b:List UInt8} {p p':Int} {m:Int} (h:RdP b p) (h1:p≤p') (h2:p'≤1000000):RdP b p':=⟨h.1,by have:=h.2.1;omega,h2⟩
end
section
open Go.Lib (decDigits)
def top (f:Int):Int:=if f=0∨f=1 then 65535 else if f=2 then 255 else 7
theorem zab (f:Int):7≤top f∧top f≤65535:=by unfold top;repeat' split;all_goals omega
def nm (f:Int):List UInt8:=if f=0 then [102,114,111,109] else if f=1 then [116,111] else if f=2 then [112,111,114,116] else [112,114,111,116,111]
def TV (t:jY):Prop:=0≤t.xField∧t.xField≤3∧0≤t.xLo∧t.xLo≤t.xHi∧t.xHi≤top t.xField
instance (t:jY):Decidable (TV t):=by unfold TV;infer_instance
def rtx (t:jY):List UInt8:=decDigits t.xLo.toNat++(if t.xHi=t.xLo then [] else 45 :: decDigits t.xHi.toNat)
def btx (t:jY):List UInt8:=nm t.xField++32 :: rtx t
def ttx (t:jY):List UInt8:=if t.xNot then 110 :: 111 :: 116 :: 32 :: btx t else btx t
theorem zeI {f:Int} (h0:0≤f) (h1:f≤3):f=0∨f=1∨f=2∨f=3:=by omega
theorem zl5 {n:Int} {κ:Vc→Prop} (h0:0≤n) (h1:n≤3) (h:∀ e:Vc,e.xName=B (nm n)→e.xTop=top n→κ e):zJ zA n κ:=by
 rcases zeI h0 h1 with rfl | rfl | rfl | rfl
 ·exact zq 0 rfl (by decide) (h _ rfl rfl)
 ·exact zq 1 rfl (by decide) (h _ rfl rfl)
 ·exact zq 2 rfl (by decide) (h _ rfl rfl)
 ·exact zq 3 rfl (by decide) (h _ rfl rfl)
theorem x5 {n:Int} {κ:Int→Prop} (h0:0≤n) (h1:n≤3) (h:κ (top n)):uL n κ:=by
 unfold uL jnW
 rcases zeI h0 h1 with rfl | rfl | rfl | rfl <;> simpa [top] using h
theorem za1 {n:Int} {κ:Int→Prop} (h:κ (if 0≤n∧n≤3 then top n else -1)):js n κ:=by
 unfold js jnW
 refine zo (fun hc=>?_) (fun hc=>zo (fun hc2=>?_) (fun hc2=>?_))
 ·simp at hc;rw [if_neg (by omega)] at h;simpa using h
 ·simp at hc hc2;rw [if_neg (by omega)] at h;exact h
 ·simp at hc hc2;rw [if_pos (by omega)] at h
  exact zl5 (by omega) (by omega) (fun e _ he=>by rw [he];exact h)
theorem zax {t:jY} {κ:Bool→Prop} (h:κ (decide (TV t))):Xm t κ:=by
 unfold Xm jnW
 refine zbz (zo (fun hc=>?_) (fun hc=>?_))
 ·simp at hc
  refine zbz (zo (fun hc2=>?_) (fun hc2=>?_))
  ·simp at hc2
   refine x5 hc.1 hc.2 ?_
   rw [show decide (t.xHi≤top t.xField)=decide (TV t) from decide_eq_decide.2 ⟨fun hh=>⟨hc.1,hc.2,hc2.1,hc2.2,hh⟩,fun hh=>hh.2.2.2.2⟩]
   exact h
  ·simp at hc2
   rw [decide_eq_false (fun hh:TV t=>by obtain ⟨a1,a2,a3,a4,_⟩:=hh;omega)] at h;exact h
 ·simp at hc
  rw [decide_eq_false (fun hh:TV t=>by obtain ⟨a1,a2,a3,a4,_⟩:=hh;omega)] at h;exact h
theorem zdB {t:jY} {κ:Bool→Prop} (h:κ (decide (TV t))):YB t κ:=by
 unfold YB jnW
 have no:¬ (0≤t.xField∧t.xField<4∧0≤t.xLo∧t.xLo≤t.xHi)→κ false:=fun hn=>by
  rw [decide_eq_false (fun hh:TV t=>by obtain ⟨a1,a2,a3,a4,_⟩:=hh;omega)] at h;exact h
 refine zo (fun hc=>zo (fun hc2=>zo (fun hc3=>zo (fun hc4=>?_) (fun hc4=>no (by simp at hc4;omega))) (fun hc3=>no (by simp at hc3;omega))) (fun hc2=>no (by simp at hc2;omega))) (fun hc=>no (by simp at hc;omega))
 simp at hc hc2 hc3 hc4
 refine za1 ?_
 rw [if_pos ⟨hc,by omega⟩]
 rw [show decide (t.xHi≤top t.xField)=decide (TV t) from decide_eq_decide.2 ⟨fun hh=>⟨hc,by omega,hc3,hc4,hh⟩,fun hh=>hh.2.2.2.2⟩]
 exact h
end
section
open Go Go.Proofs
def Xo (a b:List zh):Int×Bool :=
 match jj a b with
 | []=>(0,false)
 | s :: _=>(s.xLo,true)
theorem zjM {a b:List zh} (ha:NF a) (hb:NF b) {v:Int} (h1:hv a v) (h2:hv b v) (h3:∀ x,hv a x→hv b x→v≤x):Xo a b=(v,true):=by
 have hm:=zcI ha hb
 unfold Xo
 have hv0:=(Ye a b v).2 ⟨h1,h2⟩
 have hall:∀ x,hv (jj a b) x→v≤x:=fun x hx=>by
  obtain ⟨e1,e2⟩:=(Ye a b x).1 hx
  exact h3 x e1 e2
 generalize jj a b=m at hm hv0 hall
 cases m with
 | nil=>exact absurd hv0 (u5 v)
 | cons s m =>
  have e1:=hall s.xLo ((ug _ _ _).2 (.inl ⟨Int.le_refl _,hm.1 s (by simp)⟩))
  have e2:=zdt hm hv0
  simp only [Prod.mk.injEq,and_true]
  omega
theorem zhP {a b:List zh} (h:∀ x,hv a x→hv b x→False) (ha:NF a) (hb:NF b):Xo a b=(0,false):=by
 unfold Xo
 have hm:=zcI ha hb
 have hall:∀ x,¬ hv (jj a b) x:=fun x hx=>by
  obtain ⟨e1,e2⟩:=(Ye a b x).1 hx
  exact h x e1 e2
 generalize jj a b=m at hm hall
 cases m with
 | nil=>rfl
 | cons s m=>exact absurd ((ug s m s.xLo).2 (.inl ⟨Int.le_refl _,hm.1 s (by simp)⟩)) (hall _)
theorem zi1 {a:List zh} {i:Nat} (h:i<a.length) (x:Int):hv (a.drop i) x↔(a[i].xLo≤x∧x≤a[i].xHi)∨hv (a.drop (i+1)) x:=by
 rw [List.drop_eq_getElem_cons h,ug]
theorem zbU {a:List zh} {i:Nat} (hn:NF a) (h:i<a.length) {x:Int} (hx:hv (a.drop i) x):a[i].xLo≤x:=by
 have:=zdx i hn
 rw [List.drop_eq_getElem_cons h] at this hx
 exact zdt this hx
theorem U1 {a b:List zh} {ta tb:Int} (ha:St a ta) (hb:St b tb) (h0:0≤ta) (ht:ta≤65535) (h1:0≤tb) (hu:tb≤65535) {κ:Int×Bool→Prop} (h:κ (Xo a b)):Xw a b κ:=by
 have la:=VL ha (by omega)
 have lb:=VL hb (by omega)
 unfold Xw
 refine yi (fun (s:Int×Int)=>∃ i j:Nat,s.1=i∧s.2=j∧i≤a.length∧j≤b.length∧∀ x,hv a x→hv b x→hv (a.drop i) x∧hv (b.drop j) x) (fun s=>(a.length+b.length - s.1 - s.2).toNat) ?_ ⟨0,0,rfl,rfl,Nat.zero_le _,Nat.zero_le _,fun x q1 q2=>⟨by simpa using q1,by simpa using q2⟩⟩
 rintro ⟨_,_⟩ next ⟨i,j,rfl,rfl,hi,hj,hx⟩ hn
 simp only at hn ⊢
 unfold jnW
 have none:(i=a.length∨j=b.length)→κ (0,false):=fun hh=>by
  rw [zhP (fun x q1 q2=>?_) ha.1 hb.1] at h
  ·exact h
  ·obtain ⟨r1,r2⟩:=hx x q1 q2
   rcases hh with e | e
   ·subst e;rw [List.drop_length] at r1;exact u5 x r1
   ·subst e;rw [List.drop_length] at r2;exact u5 x r2
 refine zo (fun hc=>?_) (fun hc=>?_)
 rotate_left 1
 ·have:a.length≤i:=by simpa using hc
  exact jK (none (.inl (by omega)))
 have hi2:i<a.length:=by simpa using hc
 refine zo (fun hd=>?_) (fun hd=>?_)
 rotate_left 1
 ·have:b.length≤j:=by simpa using hd
  exact none (.inr (by omega))
 have hj2:j<b.length:=by simpa using hd
 have a1:=ha.1.1 _ (List.getElem_mem hi2)
 have b1:=hb.1.1 _ (List.getElem_mem hj2)
 have ma:hv a a[i].xLo∧hv a a[i].xHi:=V3 ha.1 (List.getElem_mem hi2)
 have mb:hv b b[j].xLo∧hv b b[j].xHi:=V3 hb.1 (List.getElem_mem hj2)
 refine zq i rfl hi2 (zq j rfl hj2 (zq i rfl hi2 (zq j rfl hj2 (zo (fun he=>?_) (fun he=>?_)))))
 ·have he':max a[i].xLo b[j].xLo≤min a[i].xHi b[j].xHi:=by simpa using he
  rw [zjM ha.1 hb.1 (v:=max a[i].xLo b[j].xLo) ⟨a[i],List.getElem_mem hi2,by omega,by omega⟩ ⟨b[j],List.getElem_mem hj2,by omega,by omega⟩ (fun x q1 q2=>?_)] at h
  ·exact h
  ·obtain ⟨r1,r2⟩:=hx x q1 q2
   have:=zbU ha.1 hi2 r1
   have:=zbU hb.1 hj2 r2
   omega
 ·have he':¬ max a[i].xLo b[j].xLo≤min a[i].xHi b[j].xHi:=by simpa using he
  refine zq i rfl hi2 (zq j rfl hj2 (zo (fun hf=>?_) (fun hf=>?_)))
  ·have hf':a[i].xHi<b[j].xHi:=by simpa using hf
   refine zy (by omega) (by omega) (hn _ ⟨i+1,j,by simp,rfl,by omega,hj,fun x q1 q2=>?_⟩ (by simp only;omega))
   obtain ⟨r1,r2⟩:=hx x q1 q2
   refine ⟨?_,r2⟩
   rcases (zi1 hi2 x).1 r1 with e | e
   ·have:=zbU hb.1 hj2 r2;omega
   ·exact e
  ·have hf':¬ a[i].xHi<b[j].xHi:=by simpa using hf
   refine zy (by omega) (by omega) (hn _ ⟨i,j+1,rfl,by simp,hi,by omega,fun x q1 q2=>?_⟩ (by simp only;omega))
   obtain ⟨r1,r2⟩:=hx x q1 q2
   refine ⟨r1,?_⟩
   rcases (zi1 hj2 x).1 r2 with e | e
   ·have:=zbU ha.1 hi2 r1;omega
   ·exact e
def B4 (a:za):Prop:=St a.x0 65535∧St a.x1 65535∧St a.x2 255∧St a.x3 7
def F4 (a:za):Prop:=a.x0.length≤40∧a.x1.length≤40∧a.x2.length≤40∧a.x3.length≤40
instance (a:za):Decidable (F4 a):=by unfold F4;infer_instance
def zdu:za:=⟨[],[],[],[]⟩
def xM (a b:za):za:=⟨jj a.x0 b.x0,jj a.x1 b.x1,jj a.x2 b.x2,jj a.x3 b.x3⟩
theorem zc6 {a b:za} (ha:B4 a) (hb:B4 b):B4 (xM a b):=⟨XC ha.1 hb.1.1,XC ha.2.1 hb.2.1.1,XC ha.2.2.1 hb.2.2.1.1,XC ha.2.2.2 hb.2.2.2.1⟩
def em4 (a:za):Bool:=decide (a.x0=[]∨a.x1=[]∨a.x2=[]∨a.x3=[])
def ziA (a:za):za×Bool:=if F4 a then (a,true) else (zdu,false)
def VN:za:=⟨[⟨0,65535⟩],[⟨0,65535⟩],[⟨0,255⟩],[⟨0,7⟩]⟩
theorem zcZ:B4 VN:=by refine ⟨?_,?_,?_,?_⟩ <;> exact ⟨VK (by decide),fun s hs=>by simp only [VN,List.mem_singleton] at hs;subst hs;decide⟩
theorem zeJ {a:za} {κ:Bool→Prop} (h:κ (em4 a)):yp a κ:=by
 obtain ⟨x0,x1,x2,x3⟩:=a
 simp only [em4] at h
 unfold yp
 refine ⟨5,?_⟩
 refine jo (zq 0 rfl (by simp) (zo (fun e=>?_) (fun e=>zy (by decide) (by decide) ?_)))
 ·have:x0=[]:=by simpa using e
  subst this;simpa using h
 have e0:x0≠[]:=by simpa using e
 refine jo (zq 1 rfl (by simp) (zo (fun e=>?_) (fun e=>zy (by decide) (by decide) ?_)))
 ·have:x1=[]:=by simpa using e
  subst this;simpa using h
 have e1:x1≠[]:=by simpa using e
 refine jo (zq 2 rfl (by simp) (zo (fun e=>?_) (fun e=>zy (by decide) (by decide) ?_)))
 ·have:x2=[]:=by simpa using e
  subst this;simpa using h
 have e2:x2≠[]:=by simpa using e
 refine jo (zq 3 rfl (by simp) (zo (fun e=>?_) (fun e=>zy (by decide) (by decide) ?_)))
 ·have:x3=[]:=by simpa using e
  subst this;simpa using h
 have e3:x3≠[]:=by simpa using e
 refine jK ?_
 simpa [e0,e1,e2,e3] using h
theorem zn7:top 0=65535:=rfl
theorem zn6:top 1=65535:=rfl
theorem zn5:top 2=255:=rfl
theorem znR:top 3=7:=rfl
theorem ZR {n:Int} {κ:Int→Prop} (h0:0≤n) (h1:n≤3) (h:κ (top n)):js n κ:=za1 (by rw [if_pos ⟨h0,h1⟩];exact h)
theorem ziX {a b:za} (ha:B4 a) (hb:B4 b) {κ:za×Bool→Prop} (h:κ (ziA (xM a b))):yJ a b κ:=by
 obtain ⟨a0,a1,a2,a3⟩:=a
 obtain ⟨b0,b1,b2,b3⟩:=b
 obtain ⟨p0,p1,p2,p3⟩:=ha
 obtain ⟨q0,q1,q2,q3⟩:=hb
 simp only at p0 p1 p2 p3 q0 q1 q2 q3
 have hT:(jj a0 b0).length≤40→(jj a1 b1).length≤40→(jj a2 b2).length≤40→(jj a3 b3).length≤40→κ (⟨jj a0 b0,jj a1 b1,jj a2 b2,jj a3 b3⟩,true):=fun e0 e1 e2 e3=>by
  have:ziA (xM ⟨a0,a1,a2,a3⟩ ⟨b0,b1,b2,b3⟩)=(xM ⟨a0,a1,a2,a3⟩ ⟨b0,b1,b2,b3⟩,true):=if_pos ⟨e0,e1,e2,e3⟩
  rw [this] at h;exact h
 have hF:¬ ((jj a0 b0).length≤40∧(jj a1 b1).length≤40∧(jj a2 b2).length≤40∧(jj a3 b3).length≤40)→κ (zdu,false):=fun e=>by
  have:ziA (xM ⟨a0,a1,a2,a3⟩ ⟨b0,b1,b2,b3⟩)=(zdu,false):=if_neg e
  rw [this] at h;exact h
 clear h
 unfold yJ
 refine ⟨5,?_⟩
 refine jo ?_
 unfold jnW
 refine zq 0 rfl (by simp) (zq 0 rfl (by simp) (ZR (n:=(0:Int)) (by decide) (by decide) (Ue (top:=top 0) p0 q0 (by decide) (by decide) ?_)))
 unfold lim
 by_cases c0:40<(jj a0 b0).length
 ·simp only [List.getElem_cons_zero,c0,if_true]
  exact jo (hF (by omega))
 simp only [List.getElem_cons_zero,c0,if_false]
 refine jK (zq 0 rfl (by simp) (zy (by decide) (by decide) ?_))
 refine jo ?_
 refine zq 1 rfl (by simp) (zq 1 rfl (by simp) (ZR (n:=(1:Int)) (by decide) (by decide) (Ue (top:=top 1) p1 q1 (by decide) (by decide) ?_)))
 unfold lim
 by_cases c1:40<(jj a1 b1).length
 ·simp only [List.getElem_cons_zero,List.getElem_cons_succ,c1,if_true]
  exact jo (hF (by omega))
 simp only [List.getElem_cons_zero,List.getElem_cons_succ,c1,if_false]
 refine jK (zq 1 rfl (by simp) (zy (by decide) (by decide) ?_))
 refine jo ?_
 refine zq 2 rfl (by simp) (zq 2 rfl (by simp) (ZR (n:=(2:Int)) (by decide) (by decide) (Ue (top:=top 2) p2 q2 (by decide) (by decide) ?_)))
 unfold lim
 by_cases c2:40<(jj a2 b2).length
 ·simp only [List.getElem_cons_zero,List.getElem_cons_succ,c2,if_true]
  exact jo (hF (by omega))
 simp only [List.getElem_cons_zero,List.getElem_cons_succ,c2,if_false]
 refine jK (zq 2 rfl (by simp) (zy (by decide) (by decide) ?_))
 refine jo ?_
 refine zq 3 rfl (by simp) (zq 3 rfl (by simp) (ZR (n:=(3:Int)) (by decide) (by decide) (Ue (top:=top 3) p3 q3 (by decide) (by decide) ?_)))
 unfold lim
 by_cases c3:40<(jj a3 b3).length
 ·simp only [List.getElem_cons_zero,List.getElem_cons_succ,c3,if_true]
  exact jo (hF (by omega))
 simp only [List.getElem_cons_zero,List.getElem_cons_succ,c3,if_false]
 refine jK (zq 3 rfl (by simp) (zy (by decide) (by decide) ?_))
 refine jK ?_
 exact ⟨_,_,_,_,rfl,hT (by omega) (by omega) (by omega) (by omega)⟩
end
section
open Go.Lib (decDigits)
def zob (r:List UInt8):Prop:=∀ c m,r=c :: m→c=44
theorem zob.dg {r:List UInt8} (h:zob r):∀ c m,r=c :: m→dg c=false:=fun c m e=>by rw [h c m e];decide
end
section
open Go.Lib (decDigits)
theorem znI (x:Int):-9223372036854775808≤w64 x∧w64 x≤9223372036854775807:=by
 simp [w64,IntKind.wrap,IntKind.signed,IntKind.bits];omega
theorem zjP {b:List UInt8} {p tp n:Int} (hb:b.length≤2000) (h0:0≤p) (hp:p≤900000) (ht0:7≤tp) (ht:tp≤65535) (hn:n≤4294967296) {κ:zh×Int→Prop} (h:∀ q p',p≤p'→p'≤p+20→-9223372036854775808≤q.xHi→q.xHi≤65536→κ (q,p')):UI b p tp n κ:=by
 have rd:∀ p',p≤p'→p'≤p+30→RdP b p':=fun p' a c=>⟨hb,by omega,by omega⟩
 have B3:∀ (t144 t145:Int),p≤t144→t144≤p+6→zC b t144 4 (fun (r150,r151)=>zC b r151 256 (fun (r152,r153)=>zC b r153 4 (fun (r155,r156)=>zJ ([0,r150,r152,4096]) r155 (fun e157=>xN b r156 n (fun (r174,r175)=>ifW r174 (zC b r175 3 (fun (r181,r182)=>zJ ([(zh.mk (w64 ((min tp (w64 (t145+e157)))+1)) (min tp (w64 (t145+e157)))),(zh.mk (-1) (min tp (w64 (t145+e157)))),(zh.mk t145 (w64 (tp+1)))]) r181 (fun e183=>κ ((zh.mk e183.xLo e183.xHi),r182)))) (κ ((zh.mk t145 (min tp (w64 (t145+e157)))),r175))))))):=by
  intro t144 t145 g1 g2
  refine uO (rd _ (by omega) (by omega)) (fun v1 a1 c1=>uO (rd _ (by omega) (by omega)) (fun v2 a2 c2=>uO (rd _ (by omega) (by omega)) (fun v3 a3 c3=>Zq (by omega) (by simp;omega) (fun x _=>?_))))
  have hm:=znI (t145+x)
  have hw:w64 (tp+1)=tp+1:=by simp [w64,IntKind.wrap,IntKind.signed,IntKind.bits];omega
  refine zf9 (rd _ (by omega) (by omega)) hn (fun c p1 f1 f2=>zo (fun _=>?_) (fun _=>h _ _ (by omega) (by omega) (by simp only;omega) (by simp only;omega)))
  refine uO (rd _ (by omega) (by omega)) (fun v4 a4 c4=>Zq (by omega) (by simp;omega) (fun y hy=>?_))
  rw [hw] at hy
  have hb:-9223372036854775808≤y.xHi∧y.xHi≤65536:=by rcases zn3 hy with e | e | e <;> subst e <;> simp only <;> omega
  exact h _ _ (by omega) (by omega) hb.1 hb.2
 unfold UI
 refine zy (by omega) (by omega) (uO (rd p (by omega) (by omega)) (fun v a c=>?_))
 unfold jnW
 refine zo (fun _=>?_) (fun _=>?_)
 ·refine uO (rd _ (by omega) (by omega)) (fun v5 a5 c5=>?_)
  refine zo (fun _=>?_) (fun _=>?_)
  ·exact uO (rd _ (by omega) (by omega)) (fun v6 a6 c6=>B3 _ _ (by omega) (by omega))
  ·exact B3 _ _ (by omega) (by omega)
 ·refine zo (fun e=>by cases e) (fun _=>B3 _ _ (by omega) (by omega))
theorem zgf {b:List UInt8} {p n:Int} (hb:b.length≤2000) (h0:0≤p) (hp:p≤800000) (hn:n≤4294967296) {κ:jY×Int→Prop} (h:∀ q p',p≤p'→p'≤p+50→κ (q,p')):Yf b p n κ:=by
 have rd:∀ p',p≤p'→p'≤p+60→RdP b p':=fun p' a c=>⟨hb,by omega,by omega⟩
 unfold Yf
 refine uO (rd p (by omega) (by omega)) (fun f a1 c1=>uO (rd _ (by omega) (by omega)) (fun nt a2 c2=>x5 (by omega) (by omega) ?_))
 have ht:=zab f
 refine zjP hb (by omega) (by omega) ht.1 ht.2 (by omega) (fun sp p1 g1 g2 s1 s2=>?_)
 unfold jnW
 have fin:∀ (t241 t242 t243:Int),p≤t241→t241≤p+35→-9223372036854775808≤t243→t243≤65536→xN b t241 n (fun (r245,r246)=>ifW r245 (zC b r246 3 (fun (r247,r248)=>ifW (decide (r247=0)) (zC b r248 2 (fun (r251,r252)=>zJ ([(-1),4]) r251 (fun e253=>κ ((jY.mk e253 t242 t243 (decide (nt=0))),r252)))) (ifW (decide (r247=1)) (jx t243 1 (fun t255=>κ ((jY.mk f t255 t243 (decide (nt=0))),r248))) (jx (top f) 1 (fun t256=>κ ((jY.mk f t242 t256 (decide (nt=0))),r248)))))) (κ ((jY.mk f t242 t243 (decide (nt=0))),r246))):=by
  intro t241 t242 t243 q1 q2 q3 q4
  refine zf9 (rd _ (by omega) (by omega)) hn (fun c p1 f1 f2=>zo (fun _=>?_) (fun _=>h _ _ (by omega) (by omega)))
  refine uO (rd _ (by omega) (by omega)) (fun v4 a4 c4=>zo (fun _=>?_) (fun _=>zo (fun _=>zy (by omega) (by omega) (h _ _ (by omega) (by omega))) (fun _=>zy (by omega) (by omega) (h _ _ (by omega) (by omega)))))
  exact uO (rd _ (by omega) (by omega)) (fun v5 a5 c5=>Zq (by omega) (by simp;omega) (fun y _=>h _ _ (by omega) (by omega)))
 have mid:∀ (t152 t153 t154:Int),p≤t152→t152≤p+30→-9223372036854775808≤t154→t154≤65536→zC b t152 8 (fun (r156,r157)=>ifW (decide (r156=0)) (zC b r157 3 (fun (r163,r164)=>zJ ([(zh.mk 0 (top f)),(zh.mk 0 t154),(zh.mk t153 (top f))]) r163 (fun e165=>xN b r164 n (fun (r245,r246)=>ifW r245 (zC b r246 3 (fun (r247,r248)=>ifW (decide (r247=0)) (zC b r248 2 (fun (r251,r252)=>zJ ([(-1),4]) r251 (fun e253=>κ ((jY.mk e253 e165.xLo e165.xHi (decide (nt=0))),r252)))) (ifW (decide (r247=1)) (jx e165.xHi 1 (fun t255=>κ ((jY.mk f t255 e165.xHi (decide (nt=0))),r248))) (jx (top f) 1 (fun t256=>κ ((jY.mk f e165.xLo t256 (decide (nt=0))),r248)))))) (κ ((jY.mk f e165.xLo e165.xHi (decide (nt=0))),r246)))))) (xN b r157 n (fun (r245,r246)=>ifW r245 (zC b r246 3 (fun (r247,r248)=>ifW (decide (r247=0)) (zC b r248 2 (fun (r251,r252)=>zJ ([(-1),4]) r251 (fun e253=>κ ((jY.mk e253 t153 t154 (decide (nt=0))),r252)))) (ifW (decide (r247=1)) (jx t154 1 (fun t255=>κ ((jY.mk f t255 t154 (decide (nt=0))),r248))) (jx (top f) 1 (fun t256=>κ ((jY.mk f t153 t256 (decide (nt=0))),r248)))))) (κ ((jY.mk f t153 t154 (decide (nt=0))),r246))))):=by
  intro t152 t153 t154 q1 q2 q3 q4
  refine uO (rd _ (by omega) (by omega)) (fun v4 a4 c4=>zo (fun _=>?_) (fun _=>fin _ _ _ (by omega) (by omega) q3 q4))
  refine uO (rd _ (by omega) (by omega)) (fun v5 a5 c5=>Zq (by omega) (by simp;omega) (fun y hy=>?_))
  have hb:-9223372036854775808≤y.xHi∧y.xHi≤65536:=by rcases zn3 hy with e | e | e <;> subst e <;> simp only <;> omega
  exact fin _ _ _ (by omega) (by omega) hb.1 hb.2
 refine zo (fun _=>?_) (fun _=>?_)
 ·refine uO (rd _ (by omega) (by omega)) (fun v a c=>?_)
  refine zo (fun _=>?_) (fun _=>mid _ _ _ (by omega) (by omega) s1 s2)
  refine uO (rd _ (by omega) (by omega)) (fun v2 a2 c2=>uO (rd _ (by omega) (by omega)) (fun v3 a3 c3=>?_))
  have hw:w64 (v2+v3)=v2+v3:=zd1 (by omega) (by omega)
  exact mid _ _ _ (by omega) (by omega) (by rw [hw];omega) (by rw [hw];omega)
 ·exact zo (fun e=>by cases e) (fun _=>mid _ _ _ (by omega) (by omega) s1 s2)
end
section
open Go.Lib (decDigits)
def aw (a:Int):List UInt8:=if a=1 then [97,99,99,101,112,116] else if a=2 then [100,114,111,112] else if a=3 then [99,97,108,108] else if a=4 then [114,101,116,117,114,110] else [110,111,110,101]
def TsV (ts:List jY):Prop:=(∀ t,t∈ts→TV t)∧ts.length≤6
instance (ts:List jY):Decidable (TsV ts):=by unfold TsV;infer_instance
def HV (a c:Int):Prop:=1≤a∧a≤5∧(a=3→0≤c∧c≤4)∧(a≠3→c=0)
instance (a c:Int):Decidable (HV a c):=by unfold HV;infer_instance
def RV (r:zD):Prop:=TsV r.xTests∧HV r.xAction r.xChain
instance (r:zD):Decidable (RV r):=by unfold RV;infer_instance
def hd (a c:Int):List UInt8:=aw a++(if a=3 then 32 :: decDigits c.toNat else [])
def tl (ts:List jY):List UInt8:=ts.flatMap (fun t=>44 :: 32 :: ttx t)
theorem V1 {ts:List jY} {κ:Bool→Prop} (hl:ts.length≤4294967296) (h:κ (decide (TsV ts))):ZW ts κ:=by
 unfold ZW
 refine zX ts.length (fun s=>s) (fun k s=>s=(k:Int)∧k≤ts.length∧∀ t,t∈ts.take k→TV t) (fun k s h=>h.1) (fun k s h=>h.2.1) ?_ ⟨rfl,Nat.zero_le _,by simp⟩
 rintro k _ next ⟨rfl,hk,he⟩ hn
 refine zo (fun hc=>?_) (fun hc=>?_)
 ·have hlt:k<ts.length:=by simpa using hc
  refine zq k rfl hlt (zax (zo (fun hc2=>?_) (fun hc2=>?_)))
  ·simp at hc2
   rw [decide_eq_false (fun hh:TsV ts=>hc2 (hh.1 _ (List.getElem_mem hlt)))] at h;exact h
  ·simp at hc2
   refine zy (by omega) (by omega) (hn hlt _ ⟨by omega,by omega,fun t ht=>?_⟩)
   rw [List.take_succ_eq_append_getElem hlt] at ht
   rcases List.mem_append.1 ht with ht | ht
   ·exact he t ht
   ·rw [List.mem_singleton] at ht;subst ht;exact hc2
 ·have hge:ts.length≤k:=by simpa using hc
  rw [List.take_of_length_le hge] at he
  rw [show decide ((ts.length:Int)≤6)=decide (TsV ts) from decide_eq_decide.2 ⟨fun hh=>⟨he,by omega⟩,fun hh=>by have:=hh.2;omega⟩]
  exact h
theorem zcL {ts:List jY} {κ:Bool→Prop} (hl:ts.length≤4294967296) (h:κ (decide (TsV ts))):XV ts κ:=by
 unfold XV
 refine zo (fun hc=>?_) (fun hc=>?_)
 ·rw [decide_eq_false (fun hh:TsV ts=>by have:=hh.2;simp at hc;omega)] at h;exact h
 simp at hc
 refine zX ts.length (fun s=>s) (fun k s=>s=(k:Int)∧k≤ts.length∧∀ t,t∈ts.take k→TV t) (fun k s h=>h.1) (fun k s h=>h.2.1) ?_ ⟨rfl,Nat.zero_le _,by simp⟩
 rintro k _ next ⟨rfl,hk,he⟩ hn
 refine zo (fun hc=>?_) (fun hc=>?_)
 ·have hlt:k<ts.length:=by simpa using hc
  refine zq k rfl hlt (zdB (zo (fun hc2=>?_) (fun hc2=>?_)))
  ·simp at hc2
   rw [decide_eq_false (fun hh:TsV ts=>hc2 (hh.1 _ (List.getElem_mem hlt)))] at h;exact h
  ·simp at hc2
   refine zy (by omega) (by omega) (hn hlt _ ⟨by omega,by omega,fun t ht=>?_⟩)
   rw [List.take_succ_eq_append_getElem hlt] at ht
   rcases List.mem_append.1 ht with ht | ht
   ·exact he t ht
   ·rw [List.mem_singleton] at ht;subst ht;exact hc2
 ·have hge:ts.length≤k:=by simpa using hc
  rw [List.take_of_length_le hge] at he
  rw [show decide (TsV ts)=true from decide_eq_true ⟨he,by omega⟩] at h;exact h
theorem zdO {r:zD} {κ:Bool→Prop} (hl:r.xTests.length≤4294967296) (h:κ (decide (RV r))):Yw r κ:=by
 have no:¬ RV r→κ false:=fun hn=>by rw [decide_eq_false hn] at h;exact h
 unfold Yw jnW
 refine V1 hl (zo (fun h1=>?_) (fun h1=>no (fun hh=>by simp [hh.1] at h1)))
 simp at h1
 refine zbz (zo (fun h2=>?_) (fun h2=>no (fun hh=>by simp [hh.2.1,hh.2.2.1] at h2)))
 simp at h2
 refine zo (fun h3=>?_) (fun h3=>?_)
 ·simp at h3
  refine zbz (zo (fun h4=>?_) (fun h4=>?_))
  ·simp at h4
   rw [show decide (RV r)=true from decide_eq_true ⟨h1,h2.1,h2.2,fun _=>h4,fun e=>absurd h3 e⟩] at h;exact h
  ·simp at h4
   simp only [h3,decide_true,Bool.not_true,zdy]
   exact no (fun hh=>by have:=hh.2.2.2.1 h3;omega)
 ·simp at h3
  simp only [h3,decide_false,Bool.not_false,UB]
  rw [show decide (r.xChain=0)=decide (RV r) from decide_eq_decide.2 ⟨fun hh=>⟨h1,h2.1,h2.2,fun e=>absurd e h3,fun _=>hh⟩,fun hh=>hh.2.2.2.2 h3⟩]
  exact h
theorem zdN {r:zD} {κ:Bool→Prop} (hl:r.xTests.length≤4294967296) (h:κ (decide (RV r))):Yz r κ:=by
 have no:¬ RV r→κ false:=fun hn=>by rw [decide_eq_false hn] at h;exact h
 unfold Yz jnW
 refine zcL hl (zo (fun h1=>no (fun hh=>by simp [hh.1] at h1)) (fun h1=>?_))
 simp at h1
 refine zo (fun h3=>?_) (fun h3=>?_)
 ·simp at h3
  refine zo (fun h4=>?_) (fun h4=>no (fun hh=>by have:=hh.2.2.2.1 h3;simp at h4;omega))
  simp at h4
  rw [show decide (r.xChain<5)=decide (RV r) from decide_eq_decide.2 ⟨fun hh=>⟨h1,by omega,by omega,fun _=>⟨h4,by omega⟩,fun e=>absurd h3 e⟩,fun hh=>by have:=hh.2.2.2.1 h3;omega⟩]
  exact h
 ·simp at h3
  have yes:1≤r.xAction→r.xAction≤5→κ (decide (r.xChain=0)):=fun a1 a2=>by
   rw [show decide (r.xChain=0)=decide (RV r) from decide_eq_decide.2 ⟨fun hh=>⟨h1,a1,a2,fun e=>absurd e h3,fun _=>hh⟩,fun hh=>hh.2.2.2.2 h3⟩]
   exact h
  by_cases e1:r.xAction=1
  ·simp only [e1,decide_true,UB];exact yes (by omega) (by omega)
  by_cases e2:r.xAction=2
  ·simp only [e2,decide_true,UB];exact zo (fun e=>by simp at e) (fun _=>yes (by omega) (by omega))
  by_cases e4:r.xAction=4
  ·simp only [e4,decide_true,UB]
   exact zo (fun e=>by simp at e) (fun _=>zo (fun e=>by simp at e) (fun _=>yes (by omega) (by omega)))
  by_cases e5:r.xAction=5
  ·simp only [e5,decide_true,UB]
   exact zo (fun e=>by simp at e) (fun _=>zo (fun e=>by simp at e) (fun _=>zo (fun e=>by simp at e) (fun _=>yes (by omega) (by omega))))
  simp only [e1,e2,e4,e5,decide_false,zdy]
  exact no (fun hh=>by have:=hh.2.1;have:=hh.2.2.1;omega)
end
section
open Go.Lib (decDigits)
theorem zfH {b:List UInt8} {p n:Int} (hb:b.length≤2000) (h0:0≤p) (hp:p≤700000) (hn:n≤4294967296) {κ:List jY×Int→Prop} (h:∀ ts p',p≤p'→p'≤p+300→ts.length≤8→κ (ts,p')):ZE b p n κ:=by
 have rd:∀ p',p≤p'→p'≤p+300→RdP b p':=fun p' a c=>⟨hb,by omega,by omega⟩
 unfold ZE
 refine uO (rd p (by omega) (by omega)) (fun v a c=>?_)
 refine yi (fun s=>0≤s.2.2∧s.2.2≤3∧p≤s.1∧s.1≤p+1+50 * (3 - s.2.2)∧s.2.1.length+s.2.2.toNat≤3) (fun s=>s.2.2.toNat) ?_ ⟨a,by simp only;omega,by simp only;omega,by simp only;omega,by simp only [List.length_nil];omega⟩
 rintro ⟨q,xs,k⟩ next ⟨k0,k1,q0,q1,hx⟩ hnx
 simp only at k0 k1 q0 q1 hx
 refine zo (fun hc=>?_) (fun hc=>?_)
 ·simp at hc
  refine zgf hb (by omega) (by omega) (by omega) (fun t p' g1 g2=>jk (by simp;omega) (yU (by omega) (by omega) (hnx _ ⟨by simp only;omega,by simp only;omega,by simp only;omega,by simp only;omega,by simp;omega⟩ (by simp only;omega))))
 ·simp at hc
  unfold jnW
  refine zf9 (rd _ (by omega) (by omega)) hn (fun o p1 f1 f2=>zo (fun _=>?_) (fun _=>h _ _ (by omega) (by omega) (by omega)))
  refine uO (rd _ (by omega) (by omega)) (fun v2 a2 c2=>zo (fun _=>?_) (fun _=>?_))
  ·exact zgf hb (by omega) (by omega) (by omega) (fun t p' g1 g2=>jk (by simp;omega) (h _ _ (by omega) (by omega) (by simp;omega)))
  ·exact U4 7 rfl (by omega) (by omega) (h _ _ (by omega) (by omega) (by simp))
theorem zdR {b:List UInt8} {p n first chains:Int} (hb:b.length≤2000) (h0:0≤p) (hp:p≤600000) (hn:n≤4294967296) (hf0:0≤first) (hf1:first≤100) (hc0:0≤chains) (hc1:chains≤100) {κ:zD×Int→Prop} (h:∀ r p',p≤p'→p'≤p+700→r.xTests.length≤8→κ (r,p')):Zj b p first chains n κ:=by
 have rd:∀ p',p≤p'→p'≤p+700→RdP b p':=fun p' a c=>⟨hb,by omega,by omega⟩
 unfold Zj
 refine zfH hb h0 (by omega) (by omega) (fun ts p1 g1 g2 hts=>uO (rd _ (by omega) (by omega)) (fun v a c=>Zq (by omega) (by simp;omega) (fun act _=>?_)))
 unfold jnW
 have fin:∀ (t86 t87 t88:Int),p≤t88→t88≤p+310→xN b t88 n (fun (r90,r91)=>ifW r90 (zC b r91 3 (fun (r92,r93)=>ifW (decide (r92=0)) (zC b r93 2 (fun (r96,r97)=>zJ ([0,6]) r96 (fun e98=>κ ((zD.mk ts e98 t87),r97)))) (ifW (decide (r92=1)) (zC b r93 3 (fun (r102,r103)=>zJ ([(-1),5,1]) r102 (fun e104=>κ ((zD.mk ts t86 e104),r103)))) (ZE b r93 1 (fun (r106,r109)=>κ ((zD.mk r106 t86 t87),r109)))))) (κ ((zD.mk ts t86 t87),r91))):=by
  intro t86 t87 t88 q1 q2
  refine zf9 (rd _ (by omega) (by omega)) hn (fun o p2 f1 f2=>zo (fun _=>?_) (fun _=>h _ _ (by omega) (by omega) hts))
  refine uO (rd _ (by omega) (by omega)) (fun v2 a2 c2=>zo (fun _=>?_) (fun _=>zo (fun _=>?_) (fun _=>?_)))
  ·exact uO (rd _ (by omega) (by omega)) (fun v3 a3 c3=>Zq (by omega) (by simp;omega) (fun x _=>h _ _ (by omega) (by omega) hts))
  ·exact uO (rd _ (by omega) (by omega)) (fun v3 a3 c3=>Zq (by omega) (by simp;omega) (fun x _=>h _ _ (by omega) (by omega) hts))
  ·exact zfH hb (by omega) (by omega) (by omega) (fun ts2 p3 f3 f4 hts2=>h _ _ (by omega) (by omega) hts2)
 refine zo (fun _=>zo (fun _=>fin _ _ _ (by omega) (by omega)) (fun hc=>?_)) (fun _=>fin _ _ _ (by omega) (by omega))
 simp at hc
 refine yU (by omega) (by omega) (uO (rd _ (by omega) (by omega)) (fun v2 a2 c2=>zy (by omega) (by omega) (fin _ _ _ (by omega) (by omega))))
end
section
def Ca (cs:List (List zD)) (i j:Nat):Prop:=∃ c,cs[i]?=some c∧∃ r,r∈c∧r.xAction=3∧r.xChain=(j:Int)
def Sf (cs:List (List zD)) (i:Nat):Prop:=Acc (fun j i=>Ca cs i j) i
theorem zki {cs:List (List zD)} {i:Nat} (h:∀ j,Ca cs i j→Sf cs j):Sf cs i:=Acc.intro _ h
inductive Wy (cs:List (List zD)):Nat→Nat→Prop
 | one {i j:Nat}:Ca cs i j→Wy cs i j
 | more {i j k:Nat}:Wy cs i j→Ca cs j k→Wy cs i k
theorem zlk {cs:List (List zD)} {i k:Nat} (w:Wy cs i k):∃ j,Ca cs i j∧(j=k∨Wy cs j k):=by
 induction w with
 | one h=>exact ⟨_,h,.inl rfl⟩
 | more _ h ih =>
  obtain ⟨j,h1,h2⟩:=ih
  rcases h2 with rfl | h2
  ·exact ⟨_,h1,.inr (.one h)⟩
  ·exact ⟨_,h1,.inr (.more h2 h)⟩
theorem ziP {cs:List (List zD)} {i:Nat} (hs:Sf cs i):¬ Wy cs i i:=by
 induction hs with
 | intro x _ ih =>
  intro w
  obtain ⟨j,h1,h2⟩:=zlk w
  rcases h2 with rfl | h2
  ·exact ih _ h1 w
  ·exact ih j h1 (.more h2 h1)
def Tg (cs:List (List zD)):Prop:=cs.length≤5∧∀ c,c∈cs→(c.length≤8∧∀ r,r∈c→RV r∧r.xChain<cs.length)
def Tw (cs:List (List zD)):Prop:=cs.length≤5∧∀ c,c∈cs→(c.length≤8∧∀ r,r∈c→RV r)
theorem Tg.w {cs:List (List zD)} (h:Tg cs):Tw cs:=⟨h.1,fun c hc=>⟨(h.2 c hc).1,fun r hr=>((h.2 c hc).2 r hr).1⟩⟩
theorem zna {cs:List (List zD)} {j:Nat} (h:cs.length≤j):Sf cs j:=zki (fun i ⟨c,h1,_⟩=>by have:=(List.getElem?_eq_some_iff.1 h1).1;omega)
theorem zge {rules:List zD} {κ:List Int→Prop} (hl:rules.length≤8) (hv:∀ r,r∈rules→RV r) (h:∀ ys:List Int,ys.length≤5→(∀ x,x∈ys↔∃ r,r∈rules∧r.xAction=3∧r.xChain=x)→κ ys):Yh rules κ:=by
 unfold Yh
 refine zX rules.length (fun s=>s.2) (fun k s=>s.2=(k:Int)∧k≤rules.length∧s.1.length=5∧∀ i:Nat,i<5→(s.1[i]?=some true↔∃ r,r∈rules.take k∧r.xAction=3∧r.xChain=(i:Int))) (fun k s h=>h.1) (fun k s h=>h.2.1) ?_ ⟨rfl,Nat.zero_le _,rfl,fun i hi=>?_⟩
 ·rintro k ⟨xs,_⟩ next ⟨rfl,hk,hx,he⟩ hn
  simp only at hx he
  refine zo (fun hc=>?_) (fun hc=>?_)
  ·have hlt:k<rules.length:=by simpa using hc
   have hrv:=hv _ (List.getElem_mem hlt)
   have htk:∀ r,r∈rules.take (k+1)↔r∈rules.take k∨r=rules[k]:=fun r=>by
    rw [List.take_succ_eq_append_getElem hlt,List.mem_append,List.mem_singleton]
   unfold jnW
   refine zq k rfl hlt (zo (fun h3=>?_) (fun h3=>?_))
   ·simp at h3
    have hch:=hrv.2.2.2.1 h3
    obtain ⟨m,hm⟩:=Int.eq_ofNat_of_zero_le hch.1
    refine Zq hch.1 (by rw [hx];omega) (fun _ _=>zy (by omega) (by omega) (hn hlt _ ⟨by simp,by omega,by simpa using hx,fun i hi=>?_⟩))
    simp only [htk]
    rw [hm,Int.toNat_natCast]
    by_cases e:i=m
    ·subst e
     simp only [List.getElem?_set_self (show i<xs.length by omega),true_iff]
     exact ⟨_,.inr rfl,h3,hm⟩
    ·rw [List.getElem?_set_ne (by omega),he i hi]
     constructor
     ·rintro ⟨r,h1,h2⟩;exact ⟨r,.inl h1,h2⟩
     ·rintro ⟨r,h1 | rfl,h2,h4⟩
      ·exact ⟨r,h1,h2,h4⟩
      ·omega
   ·simp at h3
    refine zy (by omega) (by omega) (hn hlt _ ⟨by simp,by omega,hx,fun i hi=>?_⟩)
    simp only [htk]
    rw [he i hi]
    constructor
    ·rintro ⟨r,h1,h2⟩;exact ⟨r,.inl h1,h2⟩
    ·rintro ⟨r,h1 | rfl,h2,h4⟩
     ·exact ⟨r,h1,h2,h4⟩
     ·exact absurd h2 h3
  ·have hge:rules.length≤k:=by simpa using hc
   rw [List.take_of_length_le hge] at he
   obtain ⟨e0,e1,e2,e3,e4,rfl⟩:∃ a b c d e,xs=[a,b,c,d,e]:=by
    match xs,hx with
    | [a,b,c,d,e],_=>exact ⟨a,b,c,d,e,rfl⟩
   refine ⟨e0,e1,e2,e3,e4,rfl,?_⟩
   refine zX 5 (fun s=>s.2) (fun j s=>s.2=(j:Int)∧j≤5∧s.1.length≤j∧∀ x,x∈s.1↔∃ i:Nat,i<j∧x=(i:Int)∧[e0,e1,e2,e3,e4][i]?=some true) (fun j s h=>h.1) (fun j s h=>h.2.1) ?_ ⟨rfl,Nat.zero_le _,by simp,by simp⟩
   rintro j ⟨ys,_⟩ next2 ⟨rfl,hj,hyl,hy⟩ hn2
   simp only at hyl hy
   refine zo (fun hc2=>?_) (fun hc2=>?_)
   ·have hj5:j<5:=by simp at hc2;omega
    have hjl:j<[e0,e1,e2,e3,e4].length:=by simpa using hj5
    unfold jnW
    refine zq j rfl hjl (zo (fun h3=>?_) (fun h3=>?_))
    ·refine jk (by simp;omega) (zy (by omega) (by omega) (hn2 hj5 _ ⟨by simp,by omega,by simp;omega,fun x=>?_⟩))
     simp only [List.mem_append,List.mem_singleton,hy]
     constructor
     ·rintro (⟨i,h1,h2,h4⟩ | rfl)
      ·exact ⟨i,by omega,h2,h4⟩
      ·exact ⟨j,by omega,rfl,by rw [List.getElem?_eq_getElem hjl,h3]⟩
     ·rintro ⟨i,h1,h2,h4⟩
      by_cases e:i=j
      ·subst e;exact .inr h2
      ·exact .inl ⟨i,by omega,h2,h4⟩
    ·refine zy (by omega) (by omega) (hn2 hj5 _ ⟨by simp,by omega,by simp only;omega,fun x=>?_⟩)
     simp only [hy]
     constructor
     ·rintro ⟨i,h1,h2,h4⟩;exact ⟨i,by omega,h2,h4⟩
     ·rintro ⟨i,h1,h2,h4⟩
      by_cases e:i=j
      ·subst e;rw [List.getElem?_eq_getElem hjl,h3] at h4;simp at h4
      ·exact ⟨i,by omega,h2,h4⟩
   ·have hj5:j=5:=by simp at hc2;omega
    subst hj5
    refine h ys hyl (fun x=>?_)
    rw [hy]
    constructor
    ·rintro ⟨i,h1,rfl,h4⟩;exact (he i h1).1 h4
    ·rintro ⟨r,h1,h2,rfl⟩
     have hch:=(hv r h1).2.2.2.1 h2
     obtain ⟨m,hm⟩:=Int.eq_ofNat_of_zero_le hch.1
     exact ⟨m,by omega,hm,(he m (by omega)).2 ⟨r,h1,h2,hm⟩⟩
 ·constructor
  ·intro hh
   have:i=0∨i=1∨i=2∨i=3∨i=4:=by omega
   rcases this with rfl | rfl | rfl | rfl | rfl <;> simp at hh
  ·rintro ⟨r,h1,_⟩;simp at h1
def Co (cols:List Int):Prop:=cols.length=5∧∀ x,x∈cols→x=0∨x=1∨x=2
theorem zk3 {cols:List Int} {i:Nat} {v:Int} (h:Co cols) (hv:v=0∨v=1∨v=2):Co (cols.set i v):=⟨by rw [List.length_set];exact h.1,fun x hx=>by
 rcases List.mem_or_eq_of_mem_set hx with hx | rfl
 ·exact h.2 x hx
 ·exact hv⟩
structure Vi (cs:List (List zD)) (c:Nat) (cols:List Int) (ok:Bool) (cols':List Int):Prop where
 co:Co cols'
 black:∀ i:Nat,cols[i]?=some 2→cols'[i]?=some 2
 grey:∀ i:Nat,cols'[i]?=some 1↔cols[i]?=some 1
 white:cols'.count 0≤cols.count 0
 good:ok=true→(∀ i:Nat,cols[i]?=some 2→Sf cs i)→(∀ i:Nat,cols'[i]?=some 2→Sf cs i)∧(c<cs.length→cols'[c]?=some 2)
 bad:ok=false→(∀ g:Nat,cols[g]?=some 1→Wy cs g c)→∃ i,i<cs.length∧¬ Sf cs i
theorem zjO {cols:List Int} (h:cols.length=5):cols.count 0≤5:=by have:=List.count_le_length (a:=(0:Int)) (l:=cols);omega
theorem zh0 {cs:List (List zD)} (ht:Tw cs):∀ (n c:Nat) (cols:List Int) (κ:Bool×List Int→Prop),Co cols→cols.count 0<n →
  (∀ ok cols',Vi cs c cols ok cols'→κ (ok,cols'))→yd n cs (c:Int) cols κ
 | 0,c,cols,κ,hco,hw,h=>by omega
 | n+1,c,cols,κ,hco,hw,h=>by
  have hn5:=ht.1
  show X7 (yd n) cs (c:Int) cols κ
  unfold X7
  refine zo (fun hx=>h _ _ ⟨hco,fun i hi=>hi,fun i=>Iff.rfl,Nat.le_refl _,fun _ hb=>⟨hb,fun hlt=>by simp at hx;omega⟩,fun e=>by cases e⟩) (fun hx=>?_)
  have hc:c<cs.length:=by simp at hx;omega
  have hcl:c<cols.length:=by rw [hco.1];omega
  refine zq c rfl hcl (zo (fun h1=>?_) (fun h1=>zo (fun h2=>?_) (fun h2=>?_)))
  ·have e1:cols[c]?=some 1:=by rw [List.getElem?_eq_getElem hcl];simpa using h1
   exact h _ _ ⟨hco,fun i hi=>hi,fun i=>Iff.rfl,Nat.le_refl _,fun e=>(by cases e),fun _ hg=>⟨c,hc,fun hs=>ziP hs (hg c e1)⟩⟩
  ·have e2:cols[c]?=some 2:=by rw [List.getElem?_eq_getElem hcl];simpa using h2
   exact h _ _ ⟨hco,fun i hi=>hi,fun i=>Iff.rfl,Nat.le_refl _,fun _ hb=>⟨hb,fun _=>e2⟩,fun e=>by cases e⟩
  ·have e0:cols[c]=0:=by
    have:=hco.2 _ (List.getElem_mem hcl)
    simp at h1 h2;omega
   have e0':cols[c]?=some 0:=by rw [List.getElem?_eq_getElem hcl,e0]
   have hcs:cs[c]?=some cs[c]:=List.getElem?_eq_getElem hc
   have hch:=ht.2 _ (List.getElem_mem hc)
   refine zq c rfl hcl (zq c rfl hc (zge hch.1 hch.2 (fun ys hyl hys=>?_)))
   have hca:∀ j:Nat,Ca cs c j↔(j:Int)∈ys:=fun j=>by
    rw [hys]
    constructor
    ·rintro ⟨c',h1,r,h2,h3⟩
     rw [hcs] at h1;cases h1
     exact ⟨r,h2,h3⟩
    ·rintro ⟨r,h2,h3⟩;exact ⟨_,hcs,r,h2,h3⟩
   have hcount:(cols.set c 1).count 0+1=cols.count 0:=by
    rw [List.count_set hcl]
    have:0<cols.count 0:=List.count_pos_iff.2 (by rw [← e0];exact List.getElem_mem hcl)
    simp [e0];omega
   have set1:∀ i:Nat,(cols.set c 1)[i]?=if i=c then some 1 else cols[i]?:=fun i=>by
    by_cases e:i=c
    ·subst e;simp [hcl]
    ·rw [List.getElem?_set_ne (by omega),if_neg e]
   refine zX ys.length (fun s=>s.2.2) (fun k s=>s.2.2=(k:Int)∧k≤ys.length∧Co s.1∧(∀ i:Nat,cols[i]?=some 2→s.1[i]?=some 2)∧(∀ i:Nat,s.1[i]?=some 1↔(cols.set c 1)[i]?=some 1)∧s.1.count 0≤(cols.set c 1).count 0 ∧
    (s.2.1=true→(∀ i:Nat,cols[i]?=some 2→Sf cs i)→(∀ i:Nat,s.1[i]?=some 2→Sf cs i)∧∀ j:Nat,(j:Int)∈ys.take k→j<cs.length→s.1[j]?=some 2) ∧
    (s.2.1=false→(∀ g:Nat,cols[g]?=some 1→Wy cs g c)→∃ i,i<cs.length∧¬ Sf cs i)) (fun k s h=>h.1) (fun k s h=>h.2.1) ?_
    ⟨rfl,Nat.zero_le _,zk3 hco (by simp),fun i hi=>?_,fun i=>Iff.rfl,Nat.le_refl _,fun _ hb=>⟨fun i hi=>?_,by simp⟩,fun e=>by cases e⟩
   ·rintro k ⟨X,ok,_⟩ next ⟨rfl,hk,xco,xb,xg,xw,xgood,xbad⟩ hnx
    simp only at xco xb xg xw xgood xbad
    refine zo (fun hlt=>?_) (fun hlt=>?_)
    ·have hlt:k<ys.length:=by simpa using hlt
     obtain ⟨r,hr,hr3,hrc⟩:=(hys ys[k]).1 (List.getElem_mem hlt)
     have hrv:=hch.2 r hr
     have hcc:=hrv.2.2.2.1 hr3
     obtain ⟨j,hj⟩:=Int.eq_ofNat_of_zero_le hcc.1
     have ej:ys[k]=(j:Int):=by omega
     have hcj:Ca cs c j:=⟨_,hcs,r,hr,hr3,hj⟩
     unfold jnW
     refine zq k rfl hlt ?_
     rw [ej]
     refine zh0 ht n j X _ xco (by omega) (fun ok' X' v=>?_)
     have fin:∀ o:Bool,(o=true→ok=true∧ok'=true)→(o=false→ok=false∨ok'=false)→jx (k:Int) 1 (fun t93=>next (X',o,t93)):=by
      intro o ho1 ho2
      refine zy (by omega) (by omega) (hnx hlt _ ⟨by simp,by omega,v.co,fun i hi=>v.black i (xb i hi),fun i=>(v.grey i).trans (xg i),Nat.le_trans v.white xw,fun e hb=>?_,fun e hg=>?_⟩)
      ·obtain ⟨g1,g2⟩:=ho1 e
       obtain ⟨q1,q2⟩:=xgood g1 hb
       obtain ⟨q3,q4⟩:=v.good g2 q1
       refine ⟨q3,fun i hi hil=>?_⟩
       rw [List.take_succ_eq_append_getElem hlt,List.mem_append,List.mem_singleton] at hi
       rcases hi with hi | hi
       ·exact v.black i (q2 i hi hil)
       ·have:i=j:=by omega
        subst this;exact q4 hil
      ·rcases ho2 e with e1 | e1
       ·exact xbad e1 hg
       ·refine v.bad e1 (fun g hgx=>?_)
        rw [xg,set1] at hgx
        by_cases e2:g=c
        ·subst e2;exact .one hcj
        ·rw [if_neg e2] at hgx;exact .more (hg g hgx) hcj
     refine zo (fun e=>fin false (fun e=>by cases e) (fun _=>.inr (by simpa using e))) (fun e=>fin ok (fun e1=>⟨e1,by simpa using e⟩) (fun e1=>.inl e1))
    ·have hge:ys.length≤k:=by simpa using hlt
     rw [List.take_of_length_le hge] at xgood
     have hxl:c<X.length:=by rw [xco.1];omega
     have set2:∀ i:Nat,(X.set c 2)[i]?=if i=c then some 2 else X[i]?:=fun i=>by
      by_cases e:i=c
      ·subst e;simp [hxl]
      ·rw [List.getElem?_set_ne (by omega),if_neg e]
     have xc1:X[c]?=some 1:=by rw [xg,set1,if_pos rfl]
     refine zq c rfl hxl ?_
     rw [Int.toNat_natCast]
     refine h _ _ ⟨zk3 xco (by simp),fun i hi=>?_,fun i=>?_,?_,fun e hb=>?_,fun e hg=>xbad e hg⟩
     ·rw [set2];split
      ·rfl
      ·exact xb i hi
     ·rw [set2]
      by_cases e:i=c
      ·subst e;rw [if_pos rfl,e0'];simp
      ·rw [if_neg e,xg,set1,if_neg e]
     ·rw [List.count_set hxl]
      have:X[c]=1:=by rw [List.getElem?_eq_getElem hxl] at xc1;exact Option.some.inj xc1
      simp [this];omega
     ·obtain ⟨q1,q2⟩:=xgood e hb
      have sc:Sf cs c:=zki (fun j hj=>by
       by_cases hjl:j<cs.length
       ·exact q1 j (q2 j ((hca j).1 hj) hjl)
       ·exact zna (by omega))
      refine ⟨fun i hi=>?_,fun _=>by rw [set2,if_pos rfl]⟩
      rw [set2] at hi
      by_cases e:i=c
      ·subst e;exact sc
      ·rw [if_neg e] at hi;exact q1 i hi
   ·show (cols.set c 1)[i]?=some 2
    rw [set1]
    by_cases e:i=c
    ·subst e;rw [e0'] at hi;simp at hi
    ·rw [if_neg e];exact hi
   ·change (cols.set c 1)[i]?=some 2 at hi
    rw [set1] at hi
    by_cases e:i=c
    ·subst e;simp at hi
    ·rw [if_neg e] at hi;exact hb i hi
theorem zjI {cs:List (List zD)} {κ:Bool→Prop} (ht:Tw cs) (h1:(∀ i,i<cs.length→Sf cs i)→κ true) (h2:(¬ ∀ i,i<cs.length→Sf cs i)→κ false):Un cs κ:=by
 unfold Un
 have hn5:=ht.1
 refine zX cs.length (fun s=>s.2) (fun k s=>s.2=(k:Int)∧k≤cs.length∧Co s.1∧(∀ i:Nat,s.1[i]?≠some 1)∧(∀ i:Nat,s.1[i]?=some 2→Sf cs i)∧(∀ i:Nat,i<k→s.1[i]?=some 2)) (fun k s h=>h.1) (fun k s h=>h.2.1) ?_ ⟨rfl,Nat.zero_le _,⟨rfl,by simp⟩,fun i=>?_,fun i hi=>?_,fun i hi=>by omega⟩
 ·rintro k ⟨X,_⟩ next ⟨rfl,hk,xco,xg,xs,xk⟩ hn
  simp only at xco xg xs xk
  refine zo (fun hc=>?_) (fun hc=>?_)
  ·have hlt:k<cs.length:=by simpa using hc
   refine ⟨6,zh0 ht 6 k X _ xco (by have:=zjO xco.1;omega) (fun ok X' v=>?_)⟩
   refine zo (fun e=>h2 (fun hall=>?_)) (fun e=>zy (by omega) (by omega) (hn hlt _ ⟨by simp,by omega,v.co,fun i hi=>xg i ((v.grey i).1 hi),(v.good (by simpa using e) xs).1,fun i hi=>?_⟩))
   ·obtain ⟨i,hi,hns⟩:=v.bad (by simpa using e) (fun g hg=>absurd hg (xg g))
    exact hns (hall i hi)
   ·by_cases e2:i=k
    ·subst e2;exact (v.good (by simpa using e) xs).2 hlt
    ·exact v.black i (xk i (by omega))
  ·have hge:cs.length≤k:=by simpa using hc
   exact h1 (fun i hi=>xs i (xk i (by omega)))
 ·have:i=0∨i=1∨i=2∨i=3∨i=4∨5≤i:=by omega
  rcases this with rfl | rfl | rfl | rfl | rfl | h <;> simp
  rw [List.getElem?_eq_none (by simpa using h)];simp
 ·have:i=0∨i=1∨i=2∨i=3∨i=4∨5≤i:=by omega
  rcases this with rfl | rfl | rfl | rfl | rfl | h
  ·simp at hi
  ·simp at hi
  ·simp at hi
  ·simp at hi
  ·simp at hi
  ·rw [List.getElem?_eq_none (by simpa using h)] at hi;cases hi
end
section
def Rdy (cs:List (List zD)) (D:List Bool) (i:Nat):Prop:=∀ j,Ca cs i j→D[j]?=some true
theorem znV {cs:List (List zD)} (ht:Tg cs) {i j:Nat} (h:Ca cs i j):i<cs.length∧j<cs.length:=by
 obtain ⟨c,h1,r,h2,h3,h4⟩:=h
 have hm:=List.mem_of_getElem? h1
 have:=(ht.2 c hm).2 r h2
 exact ⟨(List.getElem?_eq_some_iff.1 h1).1,by have:=this.2;omega⟩
theorem zhU {cs:List (List zD)} (ht:Tg cs) {D:List Bool} (hst:∀ i,i<cs.length→Rdy cs D i→D[i]?=some true) {i:Nat} (hs:Sf cs i):i<cs.length→D[i]?=some true:=by
 induction hs with
 | intro x _ ih=>exact fun hx=>hst x hx (fun j hj=>ih j hj (znV ht hj).2)
theorem zjY {D:List Bool} (h:∀ i,i<D.length→D[i]?=some true):D.count true=D.length:=by
 rw [List.count_eq_length]
 intro b hb
 obtain ⟨i,hi⟩:=List.getElem?_of_mem hb
 have:=h i (List.getElem?_eq_some_iff.1 hi).1
 rw [hi] at this;exact (Option.some.inj this).symm
theorem zjZ {D:List Bool} (h:D.count true=D.length) {i:Nat} (hi:i<D.length):D[i]?=some true:=by
 rw [List.getElem?_eq_getElem hi]
 exact congrArg some (List.count_eq_length.1 h _ (List.getElem_mem hi)).symm
theorem zjK {s:zN} {κ:List Int→Prop} (ht:Tg s.xChains) (h1:(∀ i,i<s.xChains.length→Sf s.xChains i)→∀ ys:List Int,ys.length=s.xChains.length→κ ys) (h2:(¬ ∀ i,i<s.xChains.length→Sf s.xChains i)→∀ ys:List Int,ys.length≠s.xChains.length→κ ys):Uy s κ:=by
 have hn5:=ht.1
 generalize hcs:s.xChains=cs at *
 unfold Uy
 rw [hcs]
 refine U4 cs.length rfl (by omega) (by omega) ?_
 refine zX cs.length (fun s=>s.2.2) (fun k s=>s.2.2=(k:Int)∧k≤cs.length∧s.1.length=cs.length∧s.2.1.length=s.1.count true∧(∀ i:Nat,s.1[i]?=some true→Sf cs i)∧(k≤s.1.count true∨∀ i,i<cs.length→Rdy cs s.1 i→s.1[i]?=some true)) (fun k s h=>h.1) (fun k s h=>h.2.1) ?_
  ⟨rfl,Nat.zero_le _,by simp,by simp [List.count_replicate],fun i hi=>?_,.inl (Nat.zero_le _)⟩
 ·rintro k ⟨D0,ys0,_⟩ next ⟨rfl,hk,hD0,hy0,hs0,hst0⟩ hnx
  simp only at hD0 hy0 hs0 hst0
  refine zo (fun hc=>?_) (fun hc=>?_)
  ·have hltk:k<cs.length:=by simpa using hc
   refine zX cs.length (fun s=>s.2.2) (fun m s=>s.2.2=(m:Int)∧m≤cs.length∧s.1.length=cs.length∧s.2.1.length=s.1.count true∧(∀ i:Nat,s.1[i]?=some true→Sf cs i)∧(∀ i:Nat,D0[i]?=some true→s.1[i]?=some true)∧(s.1=D0∨D0.count true<s.1.count true)∧(∀ i,i<m→Rdy cs D0 i→s.1[i]?=some true)) (fun k s h=>h.1) (fun k s h=>h.2.1) ?_
    ⟨rfl,Nat.zero_le _,hD0,hy0,hs0,fun i hi=>hi,.inl rfl,fun i hi=>by omega⟩
   rintro m ⟨D,ys,_⟩ next2 ⟨rfl,hm,hD,hy,hs,hmono,hcnt,hrd⟩ hn2
   simp only at hD hy hs hmono hcnt hrd
   have hDc:D.count true≤5:=by have:=List.count_le_length (a:=true) (l:=D);omega
   refine zo (fun hc2=>?_) (fun hc2=>?_)
   ·have hlt:m<cs.length:=by simpa using hc2
    have hmD:m<D.length:=by omega
    have hch:=ht.2 _ (List.getElem_mem hlt)
    have hcm:cs[m]?=some cs[m]:=List.getElem?_eq_getElem hlt
    unfold jnW
    refine zq m rfl hmD ?_
    refine zX cs[m].length (fun s=>s.2) (fun j s=>s.2=(j:Int)∧j≤cs[m].length∧(s.1=true↔(D[m]=false∧∀ r,r∈cs[m].take j→r.xAction=3→D[r.xChain.toNat]?=some true))) (fun k s h=>h.1) (fun k s h=>h.2.1) ?_ ⟨rfl,Nat.zero_le _,by simp⟩
    rintro j ⟨fl,_⟩ next3 ⟨rfl,hj,hfl⟩ hn3
    simp only at hfl
    refine zq m rfl hlt (zo (fun hc3=>?_) (fun hc3=>?_))
    ·have hltj:j<cs[m].length:=by simpa using hc3
     have htk:∀ r,r∈cs[m].take (j+1)↔r∈cs[m].take j∨r=cs[m][j]:=fun r=>by
      rw [List.take_succ_eq_append_getElem hltj,List.mem_append,List.mem_singleton]
     have hrv:=hch.2 _ (List.getElem_mem hltj)
     refine zq m rfl hlt (zq j rfl hltj (zo (fun hf=>?_) (fun hf=>?_)))
     ·obtain ⟨f1,f2⟩:=hfl.1 hf
      refine zo (fun h3=>?_) (fun h3=>?_)
      ·refine zy (by omega) (by omega) (hn3 hltj _ ⟨by simp,by omega,⟨fun _=>⟨f1,fun r hr hr3=>?_⟩,fun _=>rfl⟩⟩)
       rcases (htk r).1 hr with hr | rfl
       ·exact f2 r hr hr3
       ·simp at h3;exact absurd hr3 h3
      ·have h3':cs[m][j].xAction=3:=by simpa using h3
       have hcc:=hrv.1.2.2.2.1 h3'
       have hc5:=hrv.2
       obtain ⟨q,hq⟩:=Int.eq_ofNat_of_zero_le hcc.1
       have hqD:q<D.length:=by omega
       refine zq q hq hqD (zy (by omega) (by omega) (hn3 hltj _ ⟨by simp,by omega,⟨fun e=>⟨f1,fun r hr hr3=>?_⟩,fun hh=>?_⟩⟩))
       ·rcases (htk r).1 hr with hr | rfl
        ·exact f2 r hr hr3
        ·rw [hq,Int.toNat_natCast,List.getElem?_eq_getElem hqD];exact congrArg some e
       ·have:=hh.2 _ ((htk _).2 (.inr rfl)) h3'
        rw [hq,Int.toNat_natCast,List.getElem?_eq_getElem hqD] at this
        exact Option.some.inj this
     ·refine zy (by omega) (by omega) (hn3 hltj _ ⟨by simp,by omega,⟨fun e=>(by cases e),fun hh=>?_⟩⟩)
      have:fl=true:=hfl.2 ⟨hh.1,fun r hr hr3=>hh.2 r ((htk r).2 (.inl hr)) hr3⟩
      rw [this] at hf;cases hf
    ·have hge:cs[m].length≤j:=by simpa using hc3
     rw [List.take_of_length_le hge] at hfl
     have rdy_of:∀ D':List Bool,Rdy cs D' m→∀ r,r∈cs[m]→r.xAction=3→D'[r.xChain.toNat]?=some true:=by
      intro D' hh r hr hr3
      have hcc:=(hch.2 r hr).1.2.2.2.1 hr3
      exact hh _ ⟨_,hcm,r,hr,hr3,by omega⟩
     refine zo (fun hf=>?_) (fun hf=>?_)
     ·obtain ⟨f1,f2⟩:=hfl.1 hf
      have hr:Rdy cs D m:=by
       rintro q ⟨c',e1,r,e2,e3,e4⟩
       rw [hcm] at e1;cases e1
       have:=f2 r e2 e3
       rw [e4] at this;simpa using this
      have set1:∀ i:Nat,(D.set m true)[i]?=if i=m then some true else D[i]?:=fun i=>by
       by_cases e:i=m
       ·subst e;simp [hmD]
       ·rw [List.getElem?_set_ne (by omega),if_neg e]
      have hcs':(D.set m true).count true=D.count true+1:=by
       rw [List.count_set hmD];simp [f1]
      refine zq m rfl hmD (jk (by simp;omega) (zy (by omega) (by omega) (hn2 hlt _ ⟨by simp,by omega,by simpa using hD,?_,fun i hi=>?_,fun i hi=>?_,.inr ?_,fun i hi hri=>?_⟩)))
      ·simp only [Int.toNat_natCast,hcs'];simp;omega
      ·simp only [Int.toNat_natCast,set1] at hi
       by_cases e:i=m
       ·subst e;exact zki (fun j hj=>hs j (hr j hj))
       ·rw [if_neg e] at hi;exact hs i hi
      ·simp only [Int.toNat_natCast,set1];split
       ·rfl
       ·exact hmono i hi
      ·simp only [Int.toNat_natCast,hcs']
       rcases hcnt with rfl | h
       ·omega
       ·omega
      ·simp only [Int.toNat_natCast,set1];split
       ·rfl
       ·exact hrd i (by omega) hri
     ·refine zy (by omega) (by omega) (hn2 hlt _ ⟨by simp,by omega,hD,hy,hs,hmono,hcnt,fun i hi hri=>?_⟩)
      by_cases e:i=m
      ·subst e
       rw [List.getElem?_eq_getElem hmD]
       by_cases hDm:D[i]=false
       ·have:fl=true:=hfl.2 ⟨hDm,fun r hr hr3=>hmono _ (rdy_of D0 hri r hr hr3)⟩
        rw [this] at hf;cases hf
       ·simpa using hDm
      ·exact hrd i (by omega) hri
   ·have hme:m=cs.length:=by simp at hc2;omega
    subst hme
    refine zy (by omega) (by omega) (hnx hltk _ ⟨by simp,by omega,hD,hy,hs,?_⟩)
    rcases hcnt with rfl | hlt2
    ·exact .inr (fun i hi hri=>hrd i hi hri)
    ·rcases hst0 with h0 | h0
     ·exact .inl (by simp only;omega)
     ·refine .inr (fun i hi hri=>?_)
      exfalso
      have hall:∀ i:Nat,D[i]?=some true→D0[i]?=some true:=fun i hi=>zhU ht h0 (hs i hi) (by have:=(List.getElem?_eq_some_iff.1 hi).1;omega)
      have heq:D=D0:=by
       apply List.ext_getElem?
       intro i
       by_cases hi:i<D.length
       ·rw [List.getElem?_eq_getElem hi,List.getElem?_eq_getElem (show i<D0.length by omega)]
        cases hb:D[i] with
        | true =>
         have:=hall i (by rw [List.getElem?_eq_getElem hi,hb])
         rw [List.getElem?_eq_getElem (show i<D0.length by omega)] at this
         exact this.symm
        | false =>
         cases hb0:D0[i]'(by omega) with
         | false=>rfl
         | true =>
          have:=hmono i (by rw [List.getElem?_eq_getElem (show i<D0.length by omega),hb0])
          rw [List.getElem?_eq_getElem hi,hb] at this
          exact this
       ·rw [List.getElem?_eq_none (by omega),List.getElem?_eq_none (by omega)]
      rw [heq] at hlt2;omega
  ·have hge:k=cs.length:=by simp at hc;omega
   subst hge
   have hle:=List.count_le_length (a:=true) (l:=D0)
   by_cases hcn:D0.count true=cs.length
   ·exact h1 (fun i hi=>hs0 i (zjZ (by omega) (by omega))) ys0 (by omega)
   ·refine h2 (fun hall=>?_) ys0 (by omega)
    rcases hst0 with h0 | h0
    ·omega
    ·exact hcn ((zjY (fun i hi=>zhU ht h0 (hall i (by omega)) (by omega))).trans hD0)
 ·exfalso
  simp only [List.getElem?_replicate] at hi
  split at hi <;> simp at hi
end
section
open Go.Lib (decDigits)
def RsV (c:List zD):Prop:=c.length≤8∧∀ r,r∈c→RV r
def SV (s:zN):Prop:=Tg s.xChains∧1≤s.xChains.length∧∀ i,i<s.xChains.length→Sf s.xChains i
def Bc (c:List zD):Prop:=c.length≤4294967296∧∀ r,r∈c→r.xTests.length≤4294967296
def Bd (s:zN):Prop:=s.xChains.length≤4294967296∧∀ c,c∈s.xChains→Bc c
theorem VP {α:Type} {l:List α} {k:Nat} (h:k<l.length) (x:α):x∈l.take (k+1)↔x∈l.take k∨x=l[k]:=by
 rw [List.take_succ_eq_append_getElem h,List.mem_append,List.mem_singleton]
theorem zcS {c:List zD} {κ:Bool→Prop} (hb:Bc c) (h:∀ b,(b=true↔RsV c)→κ b):X3 c κ:=by
 have hl:=hb.1
 unfold X3
 refine zo (fun hc=>h _ ⟨fun e=>(by cases e),fun hh=>by have:=hh.1;simp at hc;omega⟩) (fun hc0=>?_)
 simp at hc0
 refine zX c.length (fun s=>s) (fun k s=>s=(k:Int)∧k≤c.length∧∀ r,r∈c.take k→RV r) (fun k s h=>h.1) (fun k s h=>h.2.1) ?_ ⟨rfl,Nat.zero_le _,by simp⟩
 rintro k _ next ⟨rfl,hk,he⟩ hn
 refine zo (fun hc=>?_) (fun hc=>?_)
 ·have hlt:k<c.length:=by simpa using hc
  refine zq k rfl hlt (zdN (hb.2 _ (List.getElem_mem hlt)) (zo (fun hc2=>?_) (fun hc2=>?_)))
  ·simp at hc2
   exact h _ ⟨fun e=>(by cases e),fun hh=>absurd (hh.2 _ (List.getElem_mem hlt)) hc2⟩
  ·simp at hc2
   refine zy (by omega) (by omega) (hn hlt _ ⟨by omega,by omega,fun r hr=>?_⟩)
   rcases (VP hlt r).1 hr with hr | rfl
   ·exact he r hr
   ·exact hc2
 ·have hge:c.length≤k:=by simpa using hc
  rw [List.take_of_length_le hge] at he
  exact h _ ⟨fun _=>⟨by omega,he⟩,fun _=>rfl⟩
theorem zc5 {c:List zD} {κ:Bool→Prop} (hb:Bc c) (h:∀ b,(b=true↔RsV c)→κ b):X9 c κ:=by
 have hl:=hb.1
 unfold X9
 refine zX c.length (fun s=>s) (fun k s=>s=(k:Int)∧k≤c.length∧∀ r,r∈c.take k→RV r) (fun k s h=>h.1) (fun k s h=>h.2.1) ?_ ⟨rfl,Nat.zero_le _,by simp⟩
 rintro k _ next ⟨rfl,hk,he⟩ hn
 refine zo (fun hc=>?_) (fun hc=>?_)
 ·have hlt:k<c.length:=by simpa using hc
  refine zq k rfl hlt (zdO (hb.2 _ (List.getElem_mem hlt)) (zo (fun hc2=>?_) (fun hc2=>?_)))
  ·simp at hc2
   exact h _ ⟨fun e=>(by cases e),fun hh=>absurd (hh.2 _ (List.getElem_mem hlt)) hc2⟩
  ·simp at hc2
   refine zy (by omega) (by omega) (hn hlt _ ⟨by omega,by omega,fun r hr=>?_⟩)
   rcases (VP hlt r).1 hr with hr | rfl
   ·exact he r hr
   ·exact hc2
 ·have hge:c.length≤k:=by simpa using hc
  rw [List.take_of_length_le hge] at he
  exact h _ ⟨fun e=>⟨by simp at e;omega,he⟩,fun hh=>by have:=hh.1;simp;omega⟩
theorem zbY {s:zN} {κ:Bool→Prop} (hb:Bd s) (h:∀ b,(b=true↔SV s)→κ b):Z3 s κ:=by
 have hn:=hb.1
 have no:¬ SV s→κ false:=fun hns=>h _ ⟨fun e=>(by cases e),fun hh=>absurd hh hns⟩
 unfold Z3
 refine zX s.xChains.length (fun s=>s) (fun k t=>t=(k:Int)∧k≤s.xChains.length∧∀ c,c∈s.xChains.take k→RsV c∧∀ r,r∈c→r.xChain<s.xChains.length) (fun k s h=>h.1) (fun k s h=>h.2.1) ?_ ⟨rfl,Nat.zero_le _,by simp⟩
 rintro k _ next ⟨rfl,hk,he⟩ hnx
 refine zo (fun hc=>?_) (fun hc=>?_)
 ·have hlt:k<s.xChains.length:=by simpa using hc
  have hmem:=List.getElem_mem hlt
  have hbc:=hb.2 _ hmem
  have hbl:=hbc.1
  refine zq k rfl hlt (zc5 hbc (fun b hbv=>zo (fun hf=>no (fun hh=>?_)) (fun hf=>?_)))
  ·have:b=true:=hbv.2 ⟨(hh.1.2 _ hmem).1,fun r hr=>((hh.1.2 _ hmem).2 r hr).1⟩
   rw [this] at hf;cases hf
  ·have hv:RsV s.xChains[k]:=hbv.1 (by simpa using hf)
   refine zX s.xChains[k].length (fun s=>s) (fun j t=>t=(j:Int)∧j≤s.xChains[k].length∧∀ r,r∈s.xChains[k].take j→r.xChain<s.xChains.length) (fun k s h=>h.1) (fun k s h=>h.2.1) ?_ ⟨rfl,Nat.zero_le _,by simp⟩
   rintro j _ next2 ⟨rfl,hj,he2⟩ hn2
   refine zq k rfl hlt (zo (fun hc3=>?_) (fun hc3=>?_))
   ·have hltj:j<s.xChains[k].length:=by simpa using hc3
    refine zq k rfl hlt (zq j rfl hltj (zo (fun h3=>no (fun hh=>?_)) (fun h3=>?_)))
    ·have:=((hh.1.2 _ hmem).2 _ (List.getElem_mem hltj)).2
     simp at h3;omega
    ·simp at h3
     refine zy (by omega) (by omega) (hn2 hltj _ ⟨by omega,by omega,fun r hr=>?_⟩)
     rcases (VP hltj r).1 hr with hr | rfl
     ·exact he2 r hr
     ·omega
   ·have hge:s.xChains[k].length≤j:=by simpa using hc3
    rw [List.take_of_length_le hge] at he2
    refine zy (by omega) (by omega) (hnx hlt _ ⟨by omega,by omega,fun c hc=>?_⟩)
    rcases (VP hlt c).1 hc with hc | rfl
    ·exact he c hc
    ·exact ⟨hv,he2⟩
 ·have hge:s.xChains.length≤k:=by simpa using hc
  rw [List.take_of_length_le hge] at he
  unfold jnW
  refine zbz (zo (fun h5=>?_) (fun h5=>no (fun hh=>?_)))
  ·simp at h5
   have ht:Tg s.xChains:=⟨by omega,fun c hc=>⟨(he c hc).1.1,fun r hr=>⟨(he c hc).1.2 r hr,(he c hc).2 r hr⟩⟩⟩
   refine zjK ht (fun hall ys hy=>h _ ⟨fun _=>⟨ht,by omega,hall⟩,fun _=>by simp;omega⟩) (fun hall ys hy=>h _ ⟨fun e=>absurd (by simp at e;omega) hy,fun hh=>absurd hh.2.2 hall⟩)
  ·have:=hh.1.1;have:=hh.2.1
   simp at h5;omega
theorem Vm {s:zN} {κ:Bool→Prop} (hb:Bd s) (h:∀ b,(b=true↔SV s)→κ b):yP s κ:=by
 have no:¬ SV s→κ false:=fun hns=>h _ ⟨fun e=>(by cases e),fun hh=>absurd hh hns⟩
 unfold yP jnW
 simp only [UB]
 refine zo (fun hc=>no (fun hh=>by have:=hh.2.1;simp at hc;omega)) (fun h1=>zo (fun hc=>no (fun hh=>by have:=hh.1.1;simp at hc;omega)) (fun h5=>?_))
 simp at h1 h5
 refine zX s.xChains.length (fun s=>s) (fun k t=>t=(k:Int)∧k≤s.xChains.length∧∀ c,c∈s.xChains.take k→RsV c) (fun k s h=>h.1) (fun k s h=>h.2.1) ?_ ⟨rfl,Nat.zero_le _,by simp⟩
 rintro k _ next ⟨rfl,hk,he⟩ hnx
 refine zo (fun hc=>?_) (fun hc=>?_)
 ·have hlt:k<s.xChains.length:=by simpa using hc
  have hmem:=List.getElem_mem hlt
  refine zq k rfl hlt (zcS (hb.2 _ hmem) (fun b hbv=>zo (fun hf=>no (fun hh=>?_)) (fun hf=>?_)))
  ·have:b=true:=hbv.2 ⟨(hh.1.2 _ hmem).1,fun r hr=>((hh.1.2 _ hmem).2 r hr).1⟩
   rw [this] at hf;cases hf
  ·refine zy (by omega) (by omega) (hnx hlt _ ⟨by omega,by omega,fun c hc=>?_⟩)
   rcases (VP hlt c).1 hc with hc | rfl
   ·exact he c hc
   ·exact hbv.1 (by simpa using hf)
 ·have hge:s.xChains.length≤k:=by simpa using hc
  rw [List.take_of_length_le hge] at he
  refine zX s.xChains.length (fun s=>s) (fun k t=>t=(k:Int)∧k≤s.xChains.length∧∀ c,c∈s.xChains.take k→∀ r,r∈c→r.xChain<s.xChains.length) (fun k s h=>h.1) (fun k s h=>h.2.1) ?_ ⟨rfl,Nat.zero_le _,by simp⟩
  rintro m _ next2 ⟨rfl,hm,he2⟩ hn2
  refine zo (fun hc2=>?_) (fun hc2=>?_)
  ·have hlt:m<s.xChains.length:=by simpa using hc2
   have hmem:=List.getElem_mem hlt
   have hv:=he _ hmem
   refine zq m rfl hlt (zge hv.1 hv.2 (fun ys hyl hys=>?_))
   refine zX ys.length (fun s=>s) (fun j t=>t=(j:Int)∧j≤ys.length∧∀ x,x∈ys.take j→x<s.xChains.length) (fun k s h=>h.1) (fun k s h=>h.2.1) ?_ ⟨rfl,Nat.zero_le _,by simp⟩
   rintro j _ next3 ⟨rfl,hj,he3⟩ hn3
   refine zo (fun hc3=>?_) (fun hc3=>?_)
   ·have hltj:j<ys.length:=by simpa using hc3
    refine zq j rfl hltj (zo (fun hx=>no (fun hh=>?_)) (fun hx=>?_))
    ·obtain ⟨r,hr,_,hrc⟩:=(hys _).1 (List.getElem_mem hltj)
     have:=((hh.1.2 _ hmem).2 r hr).2
     simp at hx;omega
    ·simp at hx
     refine zy (by omega) (by omega) (hn3 hltj _ ⟨by omega,by omega,fun x hxx=>?_⟩)
     rcases (VP hltj x).1 hxx with hxx | rfl
     ·exact he3 x hxx
     ·omega
   ·have hgej:ys.length≤j:=by simpa using hc3
    rw [List.take_of_length_le hgej] at he3
    refine zy (by omega) (by omega) (hn2 hlt _ ⟨by omega,by omega,fun c hc=>?_⟩)
    rcases (VP hlt c).1 hc with hc | rfl
    ·exact he2 c hc
    ·intro r hr
     by_cases h3:r.xAction=3
     ·exact he3 _ ((hys _).2 ⟨r,hr,h3,rfl⟩)
     ·have:=(hv.2 r hr).2.2.2.2 h3
      omega
  ·have hgem:s.xChains.length≤m:=by simpa using hc2
   rw [List.take_of_length_le hgem] at he2
   have ht:Tg s.xChains:=⟨by omega,fun c hc=>⟨(he c hc).1,fun r hr=>⟨(he c hc).2 r hr,he2 c hc r hr⟩⟩⟩
   exact zjI ht.w (fun hall=>h _ ⟨fun _=>⟨ht,by omega,hall⟩,fun _=>rfl⟩) (fun hall=>h _ ⟨fun e=>(by cases e),fun hh=>absurd hh.2.2 hall⟩)
end
section
open Go Go.Proofs
theorem Yc (a b:List zh):(Xo a b).2=false↔jj a b=[]:=by
 unfold Xo
 cases jj a b <;> simp
def fpk (a b:za):zW×Bool:=if em4 (xM a b) then (⟨0,0,0,0⟩,false) else (⟨(Xo a.x0 b.x0).1,(Xo a.x1 b.x1).1,(Xo a.x2 b.x2).1,(Xo a.x3 b.x3).1⟩,true)
theorem zfi {a b:za} (ha:B4 a) (hb:B4 b) {κ:zW×Bool→Prop} (h:κ (fpk a b)):yt a b κ:=by
 obtain ⟨a0,a1,a2,a3⟩:=a
 obtain ⟨b0,b1,b2,b3⟩:=b
 obtain ⟨p0,p1,p2,p3⟩:=ha
 obtain ⟨q0,q1,q2,q3⟩:=hb
 simp only at p0 p1 p2 p3 q0 q1 q2 q3
 have hF:jj a0 b0=[]∨jj a1 b1=[]∨jj a2 b2=[]∨jj a3 b3=[]→κ (⟨0,0,0,0⟩,false):=fun e=>by
  have:fpk ⟨a0,a1,a2,a3⟩ ⟨b0,b1,b2,b3⟩=(⟨0,0,0,0⟩,false):=if_pos (decide_eq_true e)
  rw [this] at h;exact h
 have hT:¬ (jj a0 b0=[]∨jj a1 b1=[]∨jj a2 b2=[]∨jj a3 b3=[])→κ (⟨(Xo a0 b0).1,(Xo a1 b1).1,(Xo a2 b2).1,(Xo a3 b3).1⟩,true):=fun e=>by
  have:fpk ⟨a0,a1,a2,a3⟩ ⟨b0,b1,b2,b3⟩=(⟨(Xo a0 b0).1,(Xo a1 b1).1,(Xo a2 b2).1,(Xo a3 b3).1⟩,true):=if_neg (by rw [show em4 (xM ⟨a0,a1,a2,a3⟩ ⟨b0,b1,b2,b3⟩)=false from decide_eq_false e];decide)
  rw [this] at h;exact h
 clear h
 unfold yt
 refine ⟨5,?_⟩
 refine jo ?_
 unfold jnW
 refine zq 0 rfl (by simp) (zq 0 rfl (by simp) (U1 p0 q0 (by decide) (by decide) (by decide) (by decide) ?_))
 simp only [List.getElem_cons_zero,List.getElem_cons_succ]
 refine zo (fun e=>hF (.inl ((Yc _ _).1 (by simpa using e)))) (fun e=>?_)
 have e0:jj a0 b0≠[]:=fun f=>by have:=(Yc _ _).2 f;simp [this] at e
 refine zq 0 rfl (by simp) (zy (by decide) (by decide) ?_)
 refine jo ?_
 refine zq 1 rfl (by simp) (zq 1 rfl (by simp) (U1 p1 q1 (by decide) (by decide) (by decide) (by decide) ?_))
 simp only [List.getElem_cons_zero,List.getElem_cons_succ]
 refine zo (fun e=>hF (.inr (.inl ((Yc _ _).1 (by simpa using e))))) (fun e=>?_)
 have e1:jj a1 b1≠[]:=fun f=>by have:=(Yc _ _).2 f;simp [this] at e
 refine zq 1 rfl (by simp) (zy (by decide) (by decide) ?_)
 refine jo ?_
 refine zq 2 rfl (by simp) (zq 2 rfl (by simp) (U1 p2 q2 (by decide) (by decide) (by decide) (by decide) ?_))
 simp only [List.getElem_cons_zero,List.getElem_cons_succ]
 refine zo (fun e=>hF (.inr (.inr (.inl ((Yc _ _).1 (by simpa using e)))))) (fun e=>?_)
 have e2:jj a2 b2≠[]:=fun f=>by have:=(Yc _ _).2 f;simp [this] at e
 refine zq 2 rfl (by simp) (zy (by decide) (by decide) ?_)
 refine jo ?_
 refine zq 3 rfl (by simp) (zq 3 rfl (by simp) (U1 p3 q3 (by decide) (by decide) (by decide) (by decide) ?_))
 simp only [List.getElem_cons_zero,List.getElem_cons_succ]
 refine zo (fun e=>hF (.inr (.inr (.inr ((Yc _ _).1 (by simpa using e)))))) (fun e=>?_)
 have e3:jj a3 b3≠[]:=fun f=>by have:=(Yc _ _).2 f;simp [this] at e
 refine zq 3 rfl (by simp) (zy (by decide) (by decide) ?_)
 refine jK ?_
 refine ⟨_,_,_,_,rfl,?_⟩
 unfold Vf
 refine zq 0 rfl (by simp) (zq 1 rfl (by simp) (zq 2 rfl (by simp) (zq 3 rfl (by simp) ?_)))
 exact hT (by rintro (f | f | f | f) <;> contradiction)
theorem zl1 (a b:za):(fpk a b).2=!em4 (xM a b):=by
 unfold fpk;cases em4 (xM a b) <;> simp
theorem zdP {a b:za} (ha:B4 a) (hb:B4 b) {κ:Bool→Prop} (h:κ (!em4 (xM a b))):uJ a b κ:=by
 unfold uJ
 refine zfi ha hb ?_
 rw [← zl1] at h;exact h
theorem zci {κ:za→Prop} (h:κ VN):ZF κ:=by
 unfold ZF
 refine ⟨5,?_⟩
 refine jo (ZR (n:=(0:Int)) (by decide) (by decide) (zq 0 rfl (by simp) (zy (by decide) (by decide) ?_)))
 refine jo (ZR (n:=(1:Int)) (by decide) (by decide) (zq 1 rfl (by simp) (zy (by decide) (by decide) ?_)))
 refine jo (ZR (n:=(2:Int)) (by decide) (by decide) (zq 2 rfl (by simp) (zy (by decide) (by decide) ?_)))
 refine jo (ZR (n:=(3:Int)) (by decide) (by decide) (zq 3 rfl (by simp) (zy (by decide) (by decide) ?_)))
 refine jK ?_
 exact ⟨_,_,_,_,rfl,h⟩
def xV (a b:List zh) (t:Int):List zh:=jj a (Zu b t)
def zgc (a b:za):za:=⟨xV a.x0 b.x0 65535,xV a.x1 b.x1 65535,xV a.x2 b.x2 255,xV a.x3 b.x3 7⟩
def in4 (a b:za):Bool:=em4 a || decide (zgc a b=zdu)
theorem zhW {a b:za} (ha:B4 a) (hb:B4 b) {κ:Bool→Prop} (h:κ (in4 a b)):yS a b κ:=by
 unfold yS
 refine zeJ (zo (fun e=>?_) (fun e=>?_))
 ·unfold in4 at h;rw [e] at h;exact h
 unfold in4 at h;rw [e,Bool.false_or] at h
 clear e
 obtain ⟨a0,a1,a2,a3⟩:=a
 obtain ⟨b0,b1,b2,b3⟩:=b
 obtain ⟨p0,p1,p2,p3⟩:=ha
 obtain ⟨q0,q1,q2,q3⟩:=hb
 simp only at p0 p1 p2 p3 q0 q1 q2 q3
 have hT:xV a0 b0 65535=[]→xV a1 b1 65535=[]→xV a2 b2 255=[]→xV a3 b3 7=[]→κ true:=fun e0 e1 e2 e3=>by
  rw [decide_eq_true (by simp only [zgc,zdu,e0,e1,e2,e3])] at h;exact h
 have hF:¬ (xV a0 b0 65535=[]∧xV a1 b1 65535=[]∧xV a2 b2 255=[]∧xV a3 b3 7=[])→κ false:=fun e=>by
  rw [decide_eq_false (fun f=>e (by simpa only [zgc,zdu,za.mk.injEq] using f))] at h;exact h
 clear h
 refine ⟨5,?_⟩
 refine jo ?_
 unfold jnW
 refine zq 0 rfl (by simp) (zq 0 rfl (by simp) (ZR (n:=(0:Int)) (by decide) (by decide) (YO (top:=top 0) p0 q0 (by decide) (by decide) (zo (fun e=>hF (fun f=>?_)) (fun e=>zy (by decide) (by decide) ?_)))))
 ·have:=f.1;unfold xV at this;simp [this,zn7] at e
 have e0:xV a0 b0 65535=[]:=by simpa [xV,zn7] using e
 refine jo ?_
 refine zq 1 rfl (by simp) (zq 1 rfl (by simp) (ZR (n:=(1:Int)) (by decide) (by decide) (YO (top:=top 1) p1 q1 (by decide) (by decide) (zo (fun e=>hF (fun f=>?_)) (fun e=>zy (by decide) (by decide) ?_)))))
 ·have:=f.2.1;unfold xV at this;simp [this,zn6] at e
 have e1:xV a1 b1 65535=[]:=by simpa [xV,zn6] using e
 refine jo ?_
 refine zq 2 rfl (by simp) (zq 2 rfl (by simp) (ZR (n:=(2:Int)) (by decide) (by decide) (YO (top:=top 2) p2 q2 (by decide) (by decide) (zo (fun e=>hF (fun f=>?_)) (fun e=>zy (by decide) (by decide) ?_)))))
 ·have:=f.2.2.1;unfold xV at this;simp [this,zn5] at e
 have e2:xV a2 b2 255=[]:=by simpa [xV,zn5] using e
 refine jo ?_
 refine zq 3 rfl (by simp) (zq 3 rfl (by simp) (ZR (n:=(3:Int)) (by decide) (by decide) (YO (top:=top 3) p3 q3 (by decide) (by decide) (zo (fun e=>hF (fun f=>?_)) (fun e=>zy (by decide) (by decide) ?_)))))
 ·have:=f.2.2.2;unfold xV at this;simp [this,znR] at e
 have e3:xV a3 b3 7=[]:=by simpa [xV,znR] using e
 exact jK (hT e0 e1 e2 e3)
end
section
open Go Go.Proofs
instance (l:List zh):Decidable (NF l):=by unfold NF;infer_instance
instance (l:List zh) (t:Int):Decidable (St l t):=by unfold St;infer_instance
theorem zeU:∀ {ys:List zh},(∀ s∈ys,s.xLo≤s.xHi)→(ys.Pairwise (fun a b=>a.xHi+1<b.xLo)↔∀ n,(h:n+1<ys.length)→ys[n].xHi+1<ys[n+1].xLo)
 | [],_=>by simp
 | [s],_=>by simp
 | s :: t :: ys,h=>by
  have ih:=zeU (ys:=t :: ys) (fun u hu=>h u (List.mem_cons_of_mem _ hu))
  rw [List.pairwise_cons,ih]
  constructor
  ·rintro ⟨h1,h2⟩ n hn
   cases n with
   | zero=>exact h1 t (by simp)
   | succ n=>exact h2 n (by simpa using hn)
  ·intro hh
   have h0:=hh 0 (by simp)
   have h2:∀ n,(h:n+1<(t :: ys).length)→(t :: ys)[n].xHi+1<(t :: ys)[n+1].xLo:=fun n hn=>hh (n+1) (by simpa using hn)
   refine ⟨fun u hu=>?_,h2⟩
   rcases List.mem_cons.1 hu with e | e
   ·subst e;exact h0
   ·have:=(List.pairwise_cons.1 (ih.2 h2)).1 u e
    have:=h t (by simp)
    simp only [List.getElem_cons_zero,List.getElem_cons_succ] at h0
    omega
theorem zg0 {l:List zh} {top:Int}:St l top↔(∀ n,(h:n<l.length)→0≤l[n].xLo∧l[n].xLo≤l[n].xHi∧l[n].xHi≤top)∧∀ n,(h:n+1<l.length)→l[n].xHi+1<l[n+1].xLo:=by
 constructor
 ·rintro ⟨⟨h1,h2⟩,h3⟩
  exact ⟨fun n hn=>by have:=h1 _ (List.getElem_mem hn);have:=h3 _ (List.getElem_mem hn);omega,(zeU h1).1 h2⟩
 ·rintro ⟨h1,h2⟩
  have h3:∀ s∈l,0≤s.xLo∧s.xLo≤s.xHi∧s.xHi≤top:=fun s hs=>by
   obtain ⟨n,hn,e⟩:=List.getElem_of_mem hs
   rw [← e];exact h1 n hn
  exact ⟨⟨fun s hs=>(h3 s hs).2.1,(zeU (fun s hs=>(h3 s hs).2.1)).2 h2⟩,fun s hs=>⟨(h3 s hs).1,(h3 s hs).2.2⟩⟩
def SpV (l:List zh) (top:Int):Prop:=l.length≤40∧St l top
instance (l:List zh) (t:Int):Decidable (SpV l t):=by unfold SpV;infer_instance
theorem UH {l:List zh} {top:Int} (hl:l.length≤4294967296) (h0:0≤top) (ht:top≤65535) {κ:Bool→Prop} (h:κ (decide (SpV l top))):yL l top κ:=by
 unfold yL
 refine zX l.length (fun s=>s) (fun k s=>s=(k:Int)∧k≤l.length∧(∀ n,(h:n<l.length)→n<k→0≤l[n].xLo∧l[n].xLo≤l[n].xHi∧l[n].xHi≤top)∧∀ n,(h:n+1<l.length)→n+1<k→l[n].xHi+1<l[n+1].xLo) (fun k s h=>h.1) (fun k s h=>h.2.1) ?_ ⟨rfl,Nat.zero_le _,fun n _ h=>by omega,fun n _ h=>by omega⟩
 rintro k _ next ⟨rfl,hk,h1,h2⟩ hn
 refine zo (fun hc=>?_) (fun hc=>?_)
 ·have hlt:k<l.length:=by simpa using hc
  have no:¬ (0≤l[k].xLo∧l[k].xLo≤l[k].xHi∧l[k].xHi≤top∧∀ j,(hj:j+1<l.length)→j+1=k→l[j].xHi+1<l[j+1].xLo)→κ false:=fun hh=>by
   rw [decide_eq_false (fun hs=>hh ?_)] at h
   ·exact h
   ·obtain ⟨e1,e2⟩:=zg0.1 hs.2
    exact ⟨(e1 k hlt).1,(e1 k hlt).2.1,(e1 k hlt).2.2,fun j hj _=>e2 j hj⟩
  have yes:(0≤l[k].xLo∧l[k].xLo≤l[k].xHi∧l[k].xHi≤top∧∀ j,(hj:j+1<l.length)→j+1=k→l[j].xHi+1<l[j+1].xLo)→jx (k:Int) 1 (fun t=>next t):=fun ⟨q1,q2,q3,q4⟩ =>
   zy (by omega) (by omega) (hn hlt _ ⟨by simp,by omega,fun n hn hnk=>by
    by_cases e:n=k
    ·subst e;exact ⟨q1,q2,q3⟩
    ·exact h1 n hn (by omega),fun n hn hnk=>by
    by_cases e:n+1=k
    ·exact q4 n hn e
    ·exact h2 n hn (by omega)⟩)
  unfold jnW
  refine zq k rfl hlt (zq k rfl hlt (zbz (zo (fun e=>jo (no (fun f=>?_))) (fun e=>?_))))
  ·simp at e;omega
  simp at e
  refine zq k rfl hlt (zbz (zo (fun e2=>jo (no (fun f=>?_))) (fun e2=>?_)))
  ·simp at e2;omega
  simp at e2
  refine zo (fun e3=>?_) (fun e3=>?_)
  ·have hk0:0<k:=by simpa using e3
   have hp:=h1 (k - 1) (by omega) (by omega)
   refine zq k rfl hlt (yU (by omega) (by omega) (zq (k - 1) (by omega) (by omega) (zy (by omega) (by omega) (zo (fun e4=>no (fun f=>?_)) (fun e4=>yes ⟨by omega,by omega,by omega,fun j hj hjk=>?_⟩)))))
   ·have:=f.2.2.2 (k - 1) (by omega) (by omega)
    simp at e4
    have ee:k - 1+1=k:=by omega
    simp only [ee] at this
    omega
   ·simp at e4
    obtain rfl:j=k - 1:=by omega
    have ee:k - 1+1=k:=by omega
    simp only [ee]
    omega
  ·have hk0:k=0:=by simpa using e3
   exact jK (yes ⟨by omega,by omega,by omega,fun j hj hjk=>by omega⟩)
 ·have hge:l.length≤k:=by simpa using hc
  have hs:St l top:=zg0.2 ⟨fun n hn=>h1 n hn (by omega),fun n hn=>h2 n hn (by omega)⟩
  unfold jnW
  refine zbz (zo (fun e=>?_) (fun e=>by simp at e;omega))
  rw [show decide (SpV l top)=decide ((l.length:Int)≤40) from decide_eq_decide.2 ⟨fun q=>by have:=q.1;omega,fun q=>⟨by omega,hs⟩⟩] at h
  exact h
theorem ze2 {t:Int} {κ:Bool→Prop} (h0:0≤t) (ht:t≤65535) (h:κ true):Y3 t κ:=by
 unfold Y3 jnW
 rw [decide_eq_true h0,decide_eq_true ht]
 exact jo h
theorem zcu {l:List zh} {top:Int} (hl:l.length≤9223372036854775807) (h0:0≤top) (ht:top≤65535) {κ:Bool→Prop} (h:κ (decide (SpV l top))):XU l top κ:=by
 unfold XU jnW
 refine ze2 h0 ht (jK (zo (fun e=>?_) (fun e=>?_)))
 ·rw [decide_eq_false (fun q=>by have:=q.1;simp at e;omega)] at h;exact h
 have h40:l.length≤40:=by simp at e;omega
 refine zX l.length (fun s=>s.2) (fun k (s:Int×Int)=>s.2=(k:Int)∧k≤l.length∧(∀ n,(h:n<l.length)→n<k→0≤l[n].xLo∧l[n].xLo≤l[n].xHi∧l[n].xHi≤top)∧(∀ n,(h:n+1<l.length)→n+1<k→l[n].xHi+1<l[n+1].xLo)∧(k=0→s.1=-2)∧(∀ n,(h:n<l.length)→n+1=k→s.1=l[n].xHi)) (fun k s h=>h.1) (fun k s h=>h.2.1) ?_ ⟨rfl,Nat.zero_le _,fun n _ h=>by omega,fun n _ h=>by omega,fun _=>rfl,fun n _ h=>by omega⟩
 rintro k ⟨a,_⟩ next ⟨rfl,hk,h1,h2,h3,h4⟩ hn
 simp only at h3 h4
 have ha:-2≤a∧a≤65535:=by
  by_cases e:k=0
  ·have:=h3 e;omega
  ·have:=h4 (k - 1) (by omega) (by omega);have:=h1 (k - 1) (by omega) (by omega);omega
 refine zo (fun hc=>?_) (fun hc=>?_)
 ·have hlt:k<l.length:=by simpa using hc
  have no:¬ (a+1<l[k].xLo∧l[k].xLo≤l[k].xHi∧l[k].xHi≤top)→κ false:=fun hh=>by
   rw [decide_eq_false (fun hs=>hh ?_)] at h
   ·exact h
   ·obtain ⟨e1,e2⟩:=zg0.1 hs.2
    have q:=e1 k hlt
    refine ⟨?_,q.2.1,q.2.2⟩
    by_cases e:k=0
    ·have:=h3 e;omega
    ·obtain ⟨j,rfl⟩:∃ j,k=j+1:=⟨k - 1,by omega⟩
     have:=h4 j (by omega) rfl
     have:=e2 j hlt
     omega
  refine zq k rfl hlt (zy (by omega) (by omega) (zo (fun e=>jo (no (fun f=>by simp at e;omega))) (fun e=>zo (fun e2=>jo (no (fun f=>by simp at e2;omega))) (fun e2=>zo (fun e3=>no (fun f=>by simp at e3;omega)) (fun e3=>?_)))))
  simp at e e2 e3
  have lo:0≤l[k].xLo:=by
   by_cases q:k=0
   ·have:=h3 q;omega
   ·have:=h4 (k - 1) (by omega) (by omega);have:=h1 (k - 1) (by omega) (by omega);omega
  refine zy (by omega) (by omega) (hn hlt _ ⟨by simp,by omega,fun n hn hnk=>?_,fun n hn hnk=>?_,fun f=>by omega,fun n hn hnk=>?_⟩)
  ·by_cases q:n=k
   ·subst q;exact ⟨lo,e2,e3⟩
   ·exact h1 n hn (by omega)
  ·by_cases q:n+1=k
   ·subst q
    have:=h4 n (by omega) rfl
    omega
   ·exact h2 n hn (by omega)
  ·obtain rfl:n=k:=by omega
   rfl
 ·have hge:l.length≤k:=by simpa using hc
  have hs:St l top:=zg0.2 ⟨fun n hn=>h1 n hn (by omega),fun n hn=>h2 n hn (by omega)⟩
  rw [decide_eq_true (show SpV l top from ⟨h40,hs⟩)] at h
  exact h
instance (l:List zh) (x:Int):Decidable (hv l x):=by unfold hv;infer_instance
end
section
open Go Go.Proofs
def bx (a:za):z8:=⟨[a.x0,a.x1,a.x2,a.x3]⟩
theorem VH {a:za} {κ:Bool→Prop} (h:κ (em4 a)):uZ (bx a) κ:=by
 obtain ⟨x0,x1,x2,x3⟩:=a
 simp only [em4] at h
 unfold uZ
 refine ⟨5,?_⟩
 refine jo (zq 0 rfl (by simp [bx]) (zo (fun e=>?_) (fun e=>zy (by decide) (by decide) ?_)))
 ·have:x0=[]:=by simpa [bx] using e
  subst this;simpa using h
 have e0:x0≠[]:=by simpa [bx] using e
 refine jo (zq 1 rfl (by simp [bx]) (zo (fun e=>?_) (fun e=>zy (by decide) (by decide) ?_)))
 ·have:x1=[]:=by simpa [bx] using e
  subst this;simpa using h
 have e1:x1≠[]:=by simpa [bx] using e
 refine jo (zq 2 rfl (by simp [bx]) (zo (fun e=>?_) (fun e=>zy (by decide) (by decide) ?_)))
 ·have:x2=[]:=by simpa [bx] using e
  subst this;simpa using h
 have e2:x2≠[]:=by simpa [bx] using e
 refine jo (zq 3 rfl (by simp [bx]) (zo (fun e=>?_) (fun e=>zy (by decide) (by decide) ?_)))
 ·have:x3=[]:=by simpa [bx] using e
  subst this;simpa using h
 have e3:x3≠[]:=by simpa [bx] using e
 refine jK ?_
 simpa [e0,e1,e2,e3] using h
theorem zdG {a b:za} (ha:B4 a) (hb:B4 b) {κ:z8→Prop} (h:κ (bx (xM a b))):yc (bx a) (bx b) κ:=by
 obtain ⟨p0,p1,p2,p3⟩:=ha
 obtain ⟨q0,q1,q2,q3⟩:=hb
 unfold yc
 refine ⟨5,?_⟩
 refine jo ?_
 unfold jnW
 refine zq 0 rfl (by simp [bx]) (zq 0 rfl (by simp [bx]) (Xa p0 q0 (by decide) (by decide) (by decide) (by decide) (jk (by simp) (zy (by decide) (by decide) ?_))))
 refine jo ?_
 refine zq 1 rfl (by simp [bx]) (zq 1 rfl (by simp [bx]) (Xa p1 q1 (by decide) (by decide) (by decide) (by decide) (jk (by simp) (zy (by decide) (by decide) ?_))))
 refine jo ?_
 refine zq 2 rfl (by simp [bx]) (zq 2 rfl (by simp [bx]) (Xa p2 q2 (by decide) (by decide) (by decide) (by decide) (jk (by simp) (zy (by decide) (by decide) ?_))))
 refine jo ?_
 refine zq 3 rfl (by simp [bx]) (zq 3 rfl (by simp [bx]) (Xa p3 q3 (by decide) (by decide) (by decide) (by decide) (jk (by simp) (zy (by decide) (by decide) ?_))))
 exact jK h
theorem zfa {κ:z8→Prop} (h:κ (bx VN)):XL κ:=by
 unfold XL
 refine ⟨5,?_⟩
 refine jo ?_
 unfold jnW
 refine x5 (n:=(0:Int)) (by decide) (by decide) (jk (by simp) (zy (by decide) (by decide) ?_))
 refine jo ?_
 refine x5 (n:=(1:Int)) (by decide) (by decide) (jk (by simp) (zy (by decide) (by decide) ?_))
 refine jo ?_
 refine x5 (n:=(2:Int)) (by decide) (by decide) (jk (by simp) (zy (by decide) (by decide) ?_))
 refine jo ?_
 refine x5 (n:=(3:Int)) (by decide) (by decide) (jk (by simp) (zy (by decide) (by decide) ?_))
 exact jK h
theorem yN {l:List (List zh)} (hl:l.length≤4294967296) (hl2:∀ x∈l,x.length≤4294967296) {κ:List (List zh)→Prop} (h:κ l):ui l κ:=by
 unfold ui
 refine zX l.length (fun s=>s.2) (fun k s=>s.2=(k:Int)∧k≤l.length∧s.1=l.take k) (fun k s h=>h.1) (fun k s h=>h.2.1) ?_ ⟨rfl,Nat.zero_le _,by simp⟩
 rintro k ⟨xs,t⟩ next ⟨rfl,hk,hx⟩ hn
 simp only at hx
 subst hx
 refine zo (fun hc=>?_) (fun hc=>?_)
 ·have hlt:k<l.length:=by simpa using hc
  have:=hl2 _ (List.getElem_mem hlt)
  refine zq k rfl hlt (jk (by simp;omega) (jk (by simp only [List.length_take,List.length_singleton];omega) (zy (by omega) (by omega) (hn hlt _ ⟨by simp,by omega,?_⟩))))
  rw [List.take_succ_eq_append_getElem hlt];rfl
 ·have hge:l.length≤k:=by simpa using hc
  rw [List.take_of_length_le hge];exact h
end
section
open Go Go.Proofs
def tsp (t:jY):List zh:=if t.xNot then Zu [zh.mk t.xLo t.xHi] (top t.xField) else [zh.mk t.xLo t.xHi]
theorem zgx {lo hi t:Int} (h0:0≤lo) (h1:lo≤hi) (h2:hi≤t):St [zh.mk lo hi] t:=⟨VK h1,fun s hs=>by simp only [List.mem_singleton] at hs;subst hs;exact ⟨h0,h2⟩⟩
theorem zfn {t:jY} (h:TV t):St (tsp t) (top t.xField):=by
 obtain ⟨h1,h2,h3,h4,h5⟩:=h
 unfold tsp
 split
 ·exact Uh (zgx h3 h4 h5)
 ·exact zgx h3 h4 h5
theorem zj9 (lo hi t:Int):Zu [zh.mk lo hi] t=(if 0<lo then [zh.mk 0 (lo - 1)] else [])++(if hi+1≤t then [zh.mk (hi+1) t] else []):=rfl
theorem zjo (t:jY):(tsp t).length≤2:=by
 unfold tsp
 split
 ·rw [zj9];simp only [List.length_append]
  split <;> split <;> simp
 ·simp
theorem zgs (a:List zh) (y:zh):(jj a [y]).length≤a.length:=by
 induction a with
 | nil=>simp [jj]
 | cons x a ih =>
  have e:jj (x :: a) [y]=Ua x y++jj a [y]:=by simp [jj]
  have h1:(Ua x y).length≤1:=by unfold Ua;split <;> simp
  rw [e];simp only [List.length_append,List.length_cons];omega
theorem zf3 {y1 y2:zh} (hy:y1.xHi<y2.xLo):∀ {a:List zh},NF a→(jj a [y1,y2]).length≤a.length+1
 | [],_=>by simp [jj]
 | x :: a,h=>by
  have e:jj (x :: a) [y1,y2]=Ua x y1++Ua x y2++jj a [y1,y2]:=by simp [jj]
  have h1:∀ y,(Ua x y).length≤1:=fun y=>by unfold Ua;split <;> simp
  have ih:=zf3 hy (VV h)
  rw [e];simp only [List.length_append,List.length_cons]
  have i1:=h1 y1
  have i2:=h1 y2
  by_cases c:max x.xLo y2.xLo≤min x.xHi y2.xHi
  ·have hg:=(List.pairwise_cons.1 h.2).1
   have e2:jj a [y1,y2]=jj a [y2]:=by
    have:∀ m:List zh,(∀ z∈m,y1.xHi<z.xLo)→jj m [y1,y2]=jj m [y2]:=by
     intro m
     induction m with
     | nil=>intro _;rfl
     | cons z m ihm =>
      intro hz
      have ez:Ua z y1=[]:=by unfold Ua;rw [if_neg (by have:=hz z (by simp);omega)]
      have:=ihm (fun u hu=>hz u (by simp [hu]))
      simp only [jj,List.flatMap_cons,List.flatMap_nil,List.append_nil] at this ⊢
      rw [ez,this];simp
    exact this a (fun z hz=>by have:=hg z hz;omega)
   have:=zgs a y2
   rw [e2];omega
  ·have:Ua x y2=[]:=by unfold Ua;rw [if_neg c]
   rw [this];simp only [List.length_nil];omega
theorem zhX {a b:List zh} (ha:NF a) (hb:NF b) (h:b.length≤2):(jj a b).length≤a.length+1:=by
 match b,h,hb with
 | [],_,_ =>
  have:jj a []=[]:=by simp [jj]
  rw [this];simp
 | [y],_,_=>have:=zgs a y;omega
 | [y1,y2],_,hb =>
  have:=(List.pairwise_cons.1 hb.2).1 y2 (by simp)
  exact zf3 (by omega) ha
theorem zdo {t:jY} (ht:TV t) {κ:List zh→Prop} (h:κ (tsp t)):ZN t κ:=by
 obtain ⟨h1,h2,h3,h4,h5⟩:=ht
 have:=zab t.xField
 unfold tsp at h
 unfold ZN
 refine zo (fun e=>?_) (fun e=>?_)
 ·have e':t.xNot=false:=by simpa using e
  rw [e'] at h;simpa using h
 ·have e':t.xNot=true:=by simpa using e
  rw [e',if_pos rfl,zj9] at h
  unfold jnW
  refine zo (fun c=>?_) (fun c=>?_)
  ·have c':0<t.xLo:=by simpa using c
   rw [if_pos c'] at h
   refine yU (by omega) (by omega) (jk (by simp) (ZR h1 h2 (zo (fun d=>?_) (fun d=>?_))))
   ·have d':t.xHi<top t.xField:=by simpa using d
    rw [if_pos (by omega)] at h
    exact zy (by omega) (by omega) (jk (by simp) (by simpa using h))
   ·have d':¬ t.xHi<top t.xField:=by simpa using d
    rw [if_neg (by omega)] at h
    simpa using h
  ·have c':¬ 0<t.xLo:=by simpa using c
   rw [if_neg c'] at h
   refine ZR h1 h2 (zo (fun d=>?_) (fun d=>?_))
   ·have d':t.xHi<top t.xField:=by simpa using d
    rw [if_pos (by omega)] at h
    exact zy (by omega) (by omega) (jk (by simp) (by simpa using h))
   ·have d':¬ t.xHi<top t.xField:=by simpa using d
    rw [if_neg (by omega)] at h
    simpa using h
theorem zd6 {t:jY} (ht:TV t) {κ:List zh→Prop} (h:κ (tsp t)):Xk t κ:=by
 have ht':=ht
 obtain ⟨h1,h2,h3,h4,h5⟩:=ht
 have:=zab t.xField
 unfold Xk
 refine zax ?_
 rw [decide_eq_true ht']
 refine jK (zo (fun e=>?_) (fun e=>?_))
 ·unfold tsp at h;rw [if_pos e] at h
  exact x5 h1 h2 (zaw (zgx h3 h4 h5) (by omega) (by omega) h)
 ·unfold tsp at h;rw [if_neg (by simpa using e)] at h
  exact h
def L4 (a:za):List (List zh):=[a.x0,a.x1,a.x2,a.x3]
def ue (a:za) (f:Int):List zh:=if f=0 then a.x0 else if f=1 then a.x1 else if f=2 then a.x2 else a.x3
def Uj (a:za) (f:Int) (x:List zh):za:=if f=0 then ⟨x,a.x1,a.x2,a.x3⟩ else if f=1 then ⟨a.x0,x,a.x2,a.x3⟩ else if f=2 then ⟨a.x0,a.x1,x,a.x3⟩ else ⟨a.x0,a.x1,a.x2,x⟩
theorem Zf {a:za} {f:Int} {κ:List zh→Prop} (h0:0≤f) (h1:f≤3) (h:κ (ue a f)):zJ (L4 a) f κ:=by
 rcases zeI h0 h1 with rfl | rfl | rfl | rfl
 ·exact zq 0 rfl (by simp [L4]) h
 ·exact zq 1 rfl (by simp [L4]) h
 ·exact zq 2 rfl (by simp [L4]) h
 ·exact zq 3 rfl (by simp [L4]) h
theorem V0 {a:za} {f:Int} {x:List zh} (h0:0≤f) (h1:f≤3):(L4 a).set f.toNat x=L4 (Uj a f x):=by
 rcases zeI h0 h1 with rfl | rfl | rfl | rfl <;> rfl
theorem Yv {a:za} (ha:B4 a) {f:Int} (h0:0≤f) (h1:f≤3):St (ue a f) (top f):=by
 obtain ⟨p0,p1,p2,p3⟩:=ha
 rcases zeI h0 h1 with rfl | rfl | rfl | rfl
 ·exact p0
 ·exact p1
 ·exact p2
 ·exact p3
theorem zi9 {a:za} (ha:B4 a) {f:Int} (h0:0≤f) (h1:f≤3) {x:List zh} (hx:St x (top f)):B4 (Uj a f x):=by
 obtain ⟨p0,p1,p2,p3⟩:=ha
 rcases zeI h0 h1 with rfl | rfl | rfl | rfl
 ·exact ⟨hx,p1,p2,p3⟩
 ·exact ⟨p0,hx,p2,p3⟩
 ·exact ⟨p0,p1,hx,p3⟩
 ·exact ⟨p0,p1,p2,hx⟩
def le4 (a:za) (n:Nat):Prop:=∀ f,0≤f→f≤3→(ue a f).length≤n
theorem ziU {a:za} {n m:Nat} (h:le4 a n) {f:Int} (h0:0≤f) (h1:f≤3) {x:List zh} (hx:x.length≤m) (hm:n≤m):le4 (Uj a f x) m:=by
 intro g g0 g1
 have k:=h g g0 g1
 rcases zeI h0 h1 with rfl | rfl | rfl | rfl <;> rcases zeI g0 g1 with rfl | rfl | rfl | rfl <;> first | exact hx | exact Nat.le_trans k hm
theorem zgO {a:za} (h:le4 a 40):F4 a:=⟨h 0 (by decide) (by decide),h 1 (by decide) (by decide),h 2 (by decide) (by decide),h 3 (by decide) (by decide)⟩
def zhS (a:za) (t:jY):za:=Uj a t.xField (jj (ue a t.xField) (tsp t))
def ZL (ts:List jY):za:=ts.foldl zhS VN
theorem zgS:∀ (ts:List jY) (a:za) (n:Nat),(∀ t∈ts,TV t)→B4 a→le4 a n→B4 (ts.foldl zhS a)∧le4 (ts.foldl zhS a) (n+ts.length)
 | [],a,n,_,ha,hn=>⟨ha,hn⟩
 | t :: ts,a,n,h,ha,hn=>by
  have ht:=h t (by simp)
  have hs:=Yv ha ht.1 ht.2.1
  have:=zgS ts (zhS a t) (n+1) (fun u hu=>h u (by simp [hu])) (zi9 ha ht.1 ht.2.1 (XC hs (zfn ht).1))
   (ziU hn ht.1 ht.2.1 (Nat.le_trans (zhX hs.1 (zfn ht).1 (zjo t)) (by have:=hn _ ht.1 ht.2.1;omega)) (by omega))
  refine ⟨this.1,?_⟩
  have e:n+(t :: ts).length=n+1+ts.length:=by simp only [List.length_cons];omega
  rw [e];exact this.2
theorem zey:le4 VN 1:=fun f h0 h1=>by
 rcases zeI h0 h1 with rfl | rfl | rfl | rfl <;> decide
theorem zbP {ts:List jY} (h:∀ t∈ts,TV t):B4 (ZL ts):=(zgS ts VN 1 h zcZ zey).1
theorem zls {ts:List jY} (h:∀ t∈ts,TV t):le4 (ZL ts) (1+ts.length):=(zgS ts VN 1 h zcZ zey).2
theorem zgl (ts:List jY) (t:jY):ZL (ts++[t])=zhS (ZL ts) t:=by simp [ZL]
theorem zgR {ts:List jY} (hts:TsV ts) {κ:za→Prop} (hκ:κ (ZL ts)):XZ ts κ:=by
 have h:=hts.1
 have hl:=hts.2
 unfold XZ
 refine zci ?_
 refine zX ts.length (fun s=>s.2) (fun k s=>s.2=(k:Int)∧k≤ts.length∧s.1=L4 (ZL (ts.take k))) (fun k s h=>h.1) (fun k s h=>h.2.1) ?_ ⟨rfl,Nat.zero_le _,by simp [ZL,L4]⟩
 rintro k ⟨xs,t⟩ next ⟨rfl,hk,hx⟩ hn
 simp only at hx
 subst hx
 refine zo (fun hc=>?_) (fun hc=>?_)
 ·have hlt:k<ts.length:=by simpa using hc
  have ht:=h _ (List.getElem_mem hlt)
  have hpre:∀ t∈ts.take k,TV t:=fun t ht=>h t (List.mem_of_mem_take ht)
  have hb:=zbP hpre
  have hs:=Yv hb ht.1 ht.2.1
  have hle:=zls hpre _ ht.1 ht.2.1
  have hml:=zhX hs.1 (zfn ht).1 (zjo ts[k])
  have htop:=zab ts[k].xField
  simp only [List.length_take] at hle
  have hlim:lim (jj (ue (ZL (ts.take k)) ts[k].xField) (tsp ts[k]))=(jj (ue (ZL (ts.take k)) ts[k].xField) (tsp ts[k]),true):=by
   unfold lim;rw [if_neg (by omega)]
  refine zq k rfl hlt ?_
  unfold jnW
  have fin:xj (ue (ZL (ts.take k)) ts[k].xField) (tsp ts[k]) (top ts[k].xField) (fun (r49,r51)=>zJ (L4 (ZL (ts.take k))) ts[k].xField (fun e52=>jx (k:Int) 1 (fun t76=>next ((L4 (ZL (ts.take k))).set (ts[k].xField).toNat r49,t76)))):=by
   refine Ue hs (zfn ht) (by omega) (by omega) ?_
   rw [hlim]
   refine Zf ht.1 ht.2.1 (zy (by omega) (by omega) (hn hlt _ ⟨by simp,by omega,?_⟩))
   simp only
   rw [V0 ht.1 ht.2.1,List.take_succ_eq_append_getElem hlt,zgl];rfl
  exact ⟨Zf ht.1 ht.2.1 (zdo ht (ZR ht.1 ht.2.1 fin)),zdo ht ⟨Zf ht.1 ht.2.1 (ZR ht.1 ht.2.1 fin),ZR ht.1 ht.2.1 (Zf ht.1 ht.2.1 fin)⟩⟩
 ·have hge:ts.length≤k:=by simpa using hc
  rw [List.take_of_length_le hge]
  exact ⟨_,_,_,_,rfl,hκ⟩
theorem zik {ts:List jY} (hts:TsV ts) {κ:z8→Prop} (hκ:κ (bx (ZL ts))):YX ts κ:=by
 have h:=hts.1
 have hl:=hts.2
 unfold YX
 refine V1 (by omega) ?_
 rw [decide_eq_true hts]
 refine jK (zfa ?_)
 refine zX ts.length (fun s=>s.2) (fun k s=>s.2=(k:Int)∧k≤ts.length∧s.1=L4 (ZL (ts.take k))) (fun k s h=>h.1) (fun k s h=>h.2.1) ?_ ⟨rfl,Nat.zero_le _,by simp [ZL,L4,bx]⟩
 rintro k ⟨xs,t⟩ next ⟨rfl,hk,hx⟩ hn
 simp only at hx
 subst hx
 refine zo (fun hc=>?_) (fun hc=>?_)
 ·have hlt:k<ts.length:=by simpa using hc
  have ht:=h _ (List.getElem_mem hlt)
  have hpre:∀ t∈ts.take k,TV t:=fun t ht=>h t (List.mem_of_mem_take ht)
  have hb:=zbP hpre
  have hs:=Yv hb ht.1 ht.2.1
  have htop:=zab ts[k].xField
  refine zq k rfl hlt ?_
  unfold jnW
  refine zq k rfl hlt ?_
  have fin:yb (ue (ZL (ts.take k)) ts[k].xField) (tsp ts[k]) (fun r40=>zJ (L4 (ZL (ts.take k))) ts[k].xField (fun e42=>jx (k:Int) 1 (fun t58=>next ((L4 (ZL (ts.take k))).set (ts[k].xField).toNat r40,t58)))):=by
   refine Xa hs (zfn ht) (by omega) (by omega) (by omega) (by omega) ?_
   refine Zf ht.1 ht.2.1 (zy (by omega) (by omega) (hn hlt _ ⟨by simp,by omega,?_⟩))
   simp only
   rw [V0 ht.1 ht.2.1,List.take_succ_eq_append_getElem hlt,zgl];rfl
  exact ⟨Zf ht.1 ht.2.1 (zd6 ht fin),zd6 ht (Zf ht.1 ht.2.1 fin)⟩
 ·have hge:ts.length≤k:=by simpa using hc
  rw [List.take_of_length_le hge]
  exact hκ
def pc (r:List zh) (a:za):List za:=if r=[] then [] else [a]
def YC (a b:za):List za :=
 if em4 (xM a b) then (if em4 a then [] else [a]) else
 pc (xV a.x0 b.x0 65535) ⟨xV a.x0 b.x0 65535,a.x1,a.x2,a.x3⟩ ++
 pc (xV a.x1 b.x1 65535) ⟨jj a.x0 b.x0,xV a.x1 b.x1 65535,a.x2,a.x3⟩ ++
 pc (xV a.x2 b.x2 255) ⟨jj a.x0 b.x0,jj a.x1 b.x1,xV a.x2 b.x2 255,a.x3⟩ ++
 pc (xV a.x3 b.x3 7) ⟨jj a.x0 b.x0,jj a.x1 b.x1,jj a.x2 b.x2,xV a.x3 b.x3 7⟩
theorem zan {a b:List zh} {t:Int} (ha:St a t) (hb:St b t):St (xV a b t) t:=XC ha (Uh hb).1
theorem zmf {a b:za} (ha:B4 a) (hb:B4 b):∀ c∈YC a b,B4 c:=by
 have hm:=zc6 ha hb
 intro c hc
 unfold YC at hc
 split at hc
 ·split at hc
  ·simp at hc
  ·simp only [List.mem_singleton] at hc;subst hc;exact ha
 ·simp only [List.mem_append,or_assoc] at hc
  have pcm:∀ {r:List zh} {d:za},c∈pc r d→c=d:=fun {r d} h=>by unfold pc at h;split at h <;> simp at h;exact h
  rcases hc with h | h | h | h
  ·rw [pcm h];exact ⟨zan ha.1 hb.1,ha.2.1,ha.2.2.1,ha.2.2.2⟩
  ·rw [pcm h];exact ⟨hm.1,zan ha.2.1 hb.2.1,ha.2.2.1,ha.2.2.2⟩
  ·rw [pcm h];exact ⟨hm.1,hm.2.1,zan ha.2.2.1 hb.2.2.1,ha.2.2.2⟩
  ·rw [pcm h];exact ⟨hm.1,hm.2.1,hm.2.2.1,zan ha.2.2.2 hb.2.2.2⟩
theorem VJ (r:List zh) (a:za):(pc r a).length≤1:=by unfold pc;split <;> simp
theorem zbd (a b:za):(YC a b).length≤4:=by
 unfold YC
 split
 ·split <;> simp
 ·simp only [List.length_append]
  have:=VJ (xV a.x0 b.x0 65535) ⟨xV a.x0 b.x0 65535,a.x1,a.x2,a.x3⟩
  have:=VJ (xV a.x1 b.x1 65535) ⟨jj a.x0 b.x0,xV a.x1 b.x1 65535,a.x2,a.x3⟩
  have:=VJ (xV a.x2 b.x2 255) ⟨jj a.x0 b.x0,jj a.x1 b.x1,xV a.x2 b.x2 255,a.x3⟩
  have:=VJ (xV a.x3 b.x3 7) ⟨jj a.x0 b.x0,jj a.x1 b.x1,jj a.x2 b.x2,xV a.x3 b.x3 7⟩
  omega
theorem zgE {l:List zh} {t:Int} (h:St l t) (h0:0≤t) (ht:t≤65535):l.length≤4294967296:=by
 have:=VL h (by omega);omega
theorem zcq {a:za} (h:B4 a):∀ x∈L4 a,x.length≤4294967296:=by
 obtain ⟨p0,p1,p2,p3⟩:=h
 intro x hx
 simp only [L4,List.mem_cons,List.not_mem_nil,or_false] at hx
 rcases hx with rfl | rfl | rfl | rfl
 ·exact zgE p0 (by decide) (by decide)
 ·exact zgE p1 (by decide) (by decide)
 ·exact zgE p2 (by decide) (by decide)
 ·exact zgE p3 (by decide) (by decide)
theorem jQ {σ:Type} {K:σ→Prop} {B:(σ→Prop)→Prop} (h:B K):jnW K B:=h
theorem zaU {a:za} (ha:B4 a) {t:Int} (h0:0≤t) (h1:t≤3) {r:List zh} {out:List z8} (ho:out.length≤1000) {K:List z8→Prop} (h:K (out++(pc r (Uj a t r)).map bx)) :
  jnW K (fun k235=>ifW (decide (0<(r.length:Int))) (ui (L4 a) (fun r149=>zJ r149 t (fun _=>jU out ([(z8.mk (r149.set (t).toNat r))]) (fun _=>k235 (out++([(z8.mk (r149.set (t).toNat r))])))))) (k235 out)):=by
 refine zo (fun e=>?_) (fun e=>?_)
 ·have hr:r≠[]:=by intro f;subst f;simp at e
  refine yN (by simp [L4]) (zcq ha) (Zf h0 h1 (jk (by simp only [List.length_singleton];omega) ?_))
  unfold pc at h
  rw [if_neg hr] at h
  rw [V0 h0 h1];exact h
 ·have hr:r=[]:=by simpa using e
  unfold pc at h
  rw [if_pos hr] at h
  simpa using h
end
end Go.Proofs.YtgpdnnhmndlljaaGreatDoor
