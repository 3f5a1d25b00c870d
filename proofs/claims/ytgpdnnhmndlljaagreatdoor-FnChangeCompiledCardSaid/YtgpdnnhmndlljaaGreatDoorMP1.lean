import Derived.Test.YtgpdnnhmndlljaaGreatDoorMA1
import Derived.RangeFuncMany
import Derived.RangeFuncCalls
import Derived.RangeFuncLeaves
import Derived.TacticsIn
import Derived.Test.YtgpdnnhmndlljaaGreatDoorEls
import Derived.Test.YtgpdnnhmndlljaaGreatDoorMA0
import Derived.Laws.BitsLemmas
set_option linter.unusedSimpArgs false
set_option linter.unusedVariables false
set_option linter.unusedSectionVars false
namespace Go.Proofs.YtgpdnnhmndlljaaGreatDoor
section
open Go.RowKit
def zmo {α:Type} (xs:List α) (κ:α→α→α→α→Prop):Prop:=∃ a b c d r,xs=a :: b :: c :: d :: r∧κ a b c d
theorem zaq {w:World} {b o:Nat} {cs ds:List Value} (h:w.rangeAt b o cs) (k:w.rangeAt b (o+cs.length) ds):w.rangeAt b o (cs++ds):=fun j v hv=>by
 rw [List.getElem?_append] at hv
 split at hv
 ·exact h j v hv
 ·have:=k (j - cs.length) v hv
  rwa [show o+cs.length+(j - cs.length)=o+j by omega] at this
theorem zi2 {α:Type} {E':El α} {F0:Nat→Prop} {wr:World} {v:Value} {xs:List α} {a b c d:α} (S:Sl E' F0 wr v xs) (h:∃ r,xs=a :: b :: c :: d :: r) :
  ∃ c0 c1 c2 c3,E'.cells F0 wr a c0∧E'.cells F0 wr b c1∧E'.cells F0 wr c c2∧E'.cells F0 wr d c3∧ui wr F0 v 0 E'.size (c0++(c1++(c2++c3))):=by
 obtain ⟨r,rfl⟩:=h
 obtain ⟨p,cap,rfl,hc,hr⟩:=S
 obtain ⟨g,off,rfl,hfb,hx⟩:=hr (by simp)
 obtain ⟨c0,h0,k0⟩:=hx 0 a rfl
 obtain ⟨c1,h1,k1⟩:=hx 1 b rfl
 obtain ⟨c2,h2,k2⟩:=hx 2 c rfl
 obtain ⟨c3,h3,k3⟩:=hx 3 d rfl
 have l0:=E'.len _ _ _ _ h0
 have l1:=E'.len _ _ _ _ h1
 have l2:=E'.len _ _ _ _ h2
 refine ⟨c0,c1,c2,c3,h0,h1,h2,h3,g,off,_,cap,rfl,hfb,?_⟩
 have e0:off+(0:Int).toNat * E'.size=off:=by simp
 rw [e0]
 refine zaq (by simpa using k0) (zaq ?_ (zaq ?_ ?_))
 ·rw [l0];simpa using k1
 ·rw [l0,l1,show off+E'.size+E'.size=off+2 * E'.size by omega];exact k2
 ·rw [l0,l1,l2,show off+E'.size+E'.size+E'.size=off+3 * E'.size by omega];exact k3
section
variable {P:Program} {n:Nat} {G D:Nat→Prop} {w0:World} {Q:Exit→Act→World→Prop} {R:Act→World→Prop} {E:Env} {L M:List Ch} {φ:Prop}
variable {d:Tmp} {ty:TypeId} {pos:String} {aft:Array Edge} {gd:Option (Nat×Bool)} {Tk:Act→World→Prop} {Lr:List Ch} {x y:Operand} {T T' S:TypeId} {e sz by':Nat} {at':Array TypeId}
theorem zmd {α:Type} {El':El α} {v:Value} {xs:List α} {ch:Ch} {κ:α→α→α→α→Prop} {e' s:Nat} {r:Bool} (M:uv P n G D w0 E ⟨some d,.sliceToArrayPointer T x,ty,pos,aft,gd⟩ Tk R Lr L) (i:Nat) (hi:xD Lr i=some ch) (hc:YE ch El' v xs) (hx:oev E x=some v) (hd:Nat.blt d n=true)
  (hT:zdC P T=some (4,e',r,s)) (hes:El'.size=1) (k:∀ p q s t,(∃ r,xs=p :: q :: s :: t :: r)→Nx n G D w0 R ((d,pEl v 0 1 0) :: E) L (κ p q s t)):Nx n G D w0 Tk E L (zmo xs κ):=fun a w hE hm hφ=>by
 obtain ⟨p,q,s,t,r,hxs,hκ⟩:=hφ
 refine M.val (v:=pEl v 0 1 0) (φ:=κ p q s t) (ψ:=κ p q s t) hd rfl (fun ρ w hE hm _=>?_) id (k p q s t ⟨r,hxs⟩) a w hE hm hκ
 obtain ⟨g,cap,rfl,hcap,hr⟩:=hc _ _ (hm.get hi)
 obtain ⟨b,off,rfl,_⟩:=hr (by rw [hxs];simp)
 have hl:¬ xs.length<4:=by rw [hxs];simp
 have hu:=(zfF hT).1
 simp [execOp,hE _ _ hx,Instr.arrayAt,run_underlying hu,hl,yp]
def yi (b:Nat) (o:Obj):Ch where
 foot:=fun x=>x=b
 holds:=fun _ w=>w.heap[b]?=some o
 keep:=fun _ _ _ _ _ h k=>(h b (.inr rfl)).trans k
def uW {σ:Type} (C:σ→List Ch→Prop) (B:Nat→Prop) (s:σ):Ch where
 foot:=B
 holds:=fun F w=>∃ L,C s L∧(∀ b,uy L b↔B b)∧(L.Pairwise fun (c d:Ch)=>∀ b,c.foot b→¬ d.foot b)∧∀ c∈L,c.holds F w
 keep:=fun F F' w w' hF hb ⟨L,h1,h2,h3,h4⟩=>⟨L,h1,h2,h3,fun c hc=>c.keep F F' w w' hF (fun b h=>hb b (h.imp id (fun k=>(h2 b).1 ⟨c,hc,k⟩))) (h4 c hc)⟩
theorem zb0 {σ:Type} {C:σ→List Ch→Prop} {B:Nat→Prop} {s:σ} {L R:List Ch} {w:World} (h:∀ b,uy L b↔B b) (b:Nat):fz G (uW C B s :: R) w b↔fz G (L++R) w b:=by
 constructor
 ·rintro ⟨h1,h2,h3⟩
  refine ⟨h1,h2,fun c hc hk=>?_⟩
  rcases List.mem_append.1 hc with e | e
  ·exact h3 _ (List.mem_cons_self ..) ((h b).1 ⟨c,e,hk⟩)
  ·exact h3 c (List.mem_cons_of_mem _ e) hk
 ·rintro ⟨h1,h2,h3⟩
  refine ⟨h1,h2,fun c hc hk=>?_⟩
  rcases List.mem_cons.1 hc with e | e
  ·subst e
   obtain ⟨d,hd,hk'⟩:=(h b).2 hk
   exact h3 d (List.mem_append.2 (.inl hd)) hk'
  ·exact h3 c (List.mem_append.2 (.inr e)) hk
theorem Mem.openC {σ:Type} {C:σ→List Ch→Prop} {B:Nat→Prop} {s:σ} {R:List Ch} {w:World} (m:Mem G D w0 (uW C B s :: R) w):∃ L,C s L∧(∀ b,uy L b↔B b)∧Mem G D w0 (L++R) w:=by
 obtain ⟨L,h1,h2,h3,h4⟩:=m.hold _ (List.mem_cons_self ..)
 have hr:∀ c∈L,∀ b,c.foot b→(uW C B s).foot b:=fun c hc b hb=>(h2 b).1 ⟨c,hc,hb⟩
 refine ⟨L,h1,h2,m.fresh,m.os,m.tape,m.output,m.size,m.old,fun c hc b hb=>?_,List.pairwise_append.2 ⟨h3,(List.pairwise_cons.1 m.disj).2,fun c hc d hd b k1 k2=>(List.pairwise_cons.1 m.disj).1 d hd b (hr c hc b k1) k2⟩,fun c hc=>?_⟩
 ·rcases List.mem_append.1 hc with e | e
  ·exact m.range _ (List.mem_cons_self ..) b (hr c e b hb)
  ·exact m.range c (List.mem_cons_of_mem _ e) b hb
 ·rcases List.mem_append.1 hc with e | e
  ·exact c.keep _ _ w w (fun b hb=>(zb0 h2 b).1 hb) (fun _ _=>rfl) (h4 c e)
  ·exact c.keep _ _ w w (fun b hb=>(zb0 h2 b).1 hb) (fun _ _=>rfl) (m.hold c (List.mem_cons_of_mem _ e))
theorem Mem.closeC {σ:Type} {C:σ→List Ch→Prop} {s:σ} {L R:List Ch} {w:World} (m:Mem G D w0 (L++R) w) (h:C s L):Mem G D w0 (uW C (uy L) s :: R) w:=by
 have inL:∀ c∈L,c∈L++R:=fun c hc=>List.mem_append.2 (.inl hc)
 have inR:∀ c∈R,c∈L++R:=fun c hc=>List.mem_append.2 (.inr hc)
 have hd:=List.pairwise_append.1 m.disj
 refine ⟨m.fresh,m.os,m.tape,m.output,m.size,m.old,fun c hc b hb=>?_,List.pairwise_cons.2 ⟨fun d hd' b ⟨c,hc,k1⟩ k2=>hd.2.2 c hc d hd' b k1 k2,hd.2.1⟩,fun c hc=>?_⟩
 ·rcases List.mem_cons.1 hc with e | e
  ·subst e
   obtain ⟨c,hc,k⟩:=hb
   exact m.range c (inL c hc) b k
  ·exact m.range c (inR c e) b hb
 ·rcases List.mem_cons.1 hc with e | e
  ·subst e
   exact ⟨L,h,fun _=>Iff.rfl,hd.1,fun c hc=>c.keep _ _ w w (fun b hb=>(zb0 (fun _=>Iff.rfl) b).2 hb) (fun _ _=>rfl) (m.hold c (inL c hc))⟩
  ·exact c.keep _ _ w w (fun b hb=>(zb0 (fun _=>Iff.rfl) b).2 hb) (fun _ _=>rfl) (m.hold c (inR c e))
def zgW {α σ:Type} (P:Program) (l:Nat) (El':El α) (C:σ→List Ch→Prop) (Y:σ→α→Bool→(Bool×σ→Prop)→Prop):Prop :=
 ∀ {G D:Nat→Prop} {w0 w:World} {R L:List Ch} {s:σ} {x:α} {ok:Bool} {cs:List Value} {κ:Bool×σ→Prop} (m:Nat),C s L→Mem G D w0 (L++R) w→El'.cells (fz G (L++R) w) w x cs→Y s x ok κ →
  YieldAt Fence.wide m P l #[.agg cs.toArray,.bool ok] w fun e w'=>∃ b s' L',e=.returned (.bool b)∧C s' L'∧Mem G D w0 (L'++R) w'∧κ (b,s')
theorem zjZ {o:Oper} {a:Act} {w:World} {next:Act→World→Prop} {m:Nat} (h:o.wp P a w next Q):o.wpIn Fence.wide m P a w next Q:=by
 refine ⟨fun f _=>trivial,?_⟩
 have h':o.upon P a next Q ((execOp a.eval o).run P w):=h
 show o.uponIn Fence.wide m P a next Q ((execOp a.eval o).run P w)
 revert h'
 generalize (execOp a.eval o).run P w=r
 intro h'
 cases r with
 | ok x w' =>
  cases x <;> first | exact h' | (refine ⟨fun e=>by simp [Fence.wide] at e,?_⟩;exact callsIn_wide.2 h') | (refine ⟨fun e=>by simp [Fence.wide] at e,fun c cs _=>?_⟩;obtain ⟨v,w'',k1,k2⟩:=h' c cs;exact ⟨v,w'',k1,stepsIn_wide.2 k2⟩) | exact False.elim h'
 | halt x w'=>cases x <;> first | exact h' | exact False.elim h'
theorem zcB {id:Nat} {l:List Oper} (h:Nx n G D w0 (wpListIn Fence.wide 3 P l.toArray Q l) E L φ):Nx n G D w0 ((Code.region id l.toArray false).wp P Q) E L φ:=fun a w hE hm hφ=>wpIn_wide.1 (wpIn_region_lit (h a w hE hm hφ))
theorem zcL {ops:Array Oper} {m:Nat} {F:Fence} (h:Nx n G D w0 (Q .normal) E L φ):Nx n G D w0 (wpListIn F m P ops Q []) E L φ:=h
theorem zlq {m:Nat} {ops:Array Oper} {rest:List Oper} {dst:Option Tmp} {op:Op} (h:Nx n G D w0 (fun a w=>Oper.wp P ⟨dst,op,ty,pos,aft,none⟩ a w (wpListIn Fence.wide m P ops Q rest) Q) E L φ):Nx n G D w0 (wpListIn Fence.wide m P ops Q (⟨dst,op,ty,pos,aft,none⟩ :: rest)) E L φ :=
 fun a w hE hm hφ=>wpListIn_plain rfl fun K hK=>zjZ (by
  have:=h a w hE hm hφ
  show Oper.upon _ _ _ _ _ _
  have h':Oper.upon P ⟨dst,op,ty,pos,aft,none⟩ a (wpListIn Fence.wide m P ops Q rest) Q ((execOp a.eval ⟨dst,op,ty,pos,aft,none⟩).run P w):=this
  revert h'
  generalize (execOp a.eval ⟨dst,op,ty,pos,aft,none⟩).run P w=r
  intro h'
  cases r with
  | ok x w' =>
   cases x <;> first | exact hK _ _ h' | (refine Calls.mono h' ?_;intro e w'' hh;cases e <;> first | exact hK _ _ hh | exact hh) | (refine Rows.mono h' ?_;intro e w'' hh;exact hK _ _ hh) | exact False.elim h'
  | halt x w'=>cases x <;> first | exact h' | exact False.elim h')
theorem stY {m:Nat} {ops:Array Oper} {rest:List Oper} {dst:Option Tmp} {op:Op}:uv P n G D w0 E ⟨dst,op,ty,pos,aft,none⟩ (wpListIn Fence.wide m P ops Q (⟨dst,op,ty,pos,aft,none⟩ :: rest)) (wpListIn Fence.wide m P ops Q rest) L L :=
 ⟨fun hd ho hr hψ k=>zlq (zgr hd ho hr hψ k)⟩
theorem zfo {α σ:Type} {l m:Nat} {El':El α} {C:σ→List Ch→Prop} {Y:σ→α→Bool→(Bool×σ→Prop)→Prop} (hY:zgW P l El' C Y) {B:Nat→Prop} {s:σ} {z:α} {ok:Bool} {cs:List Value} {κ:Bool×σ→Prop} {f:Operand} {args:List Operand} {ops:Array Oper} {rest:List Oper}
  (hf:oev E f=some (.func (.yield l) #[] #[])) (ha:zdy E args=some [.agg cs.toArray,.bool ok]) (hd:Nat.blt d n=true) (hc:∀ w,Mem G D w0 (uW C B s :: L) w→El'.cells (fz G (uW C B s :: L) w) w z cs)
  (k:∀ b s' B',Nx n G D w0 (wpListIn Fence.wide m P ops Q rest) ((d,.bool b) :: E) (uW C B' s' :: L) (κ (b,s'))) :
  Nx n G D w0 (wpListIn Fence.wide m P ops Q (⟨some d,.call {callee:=.value f,args:=args.toArray,argTypes:=at'},ty,pos,aft,none⟩ :: rest)) E (uW C B s :: L) (Y s z ok κ):=fun a w hE hm hφ=>by
 refine wpListIn_plain rfl fun K hK=>?_
 obtain ⟨Lc,h1,h2,hm'⟩:=hm.openC
 obtain ⟨fn,tmps,assign,body,hy,hR⟩:=hY (m - 1) h1 hm' (El'.keep _ _ w w _ _ (fun b hb=>(zb0 h2 b).1 hb) (fun _ _=>rfl) (hc w hm)) hφ
 have hx:=hE.eval hf
 have hargs:=zah (fun x v h=>hE.eval h) ha
 have hrun:(execOp a.eval ⟨some d,.call {callee:=.value f,args:=args.toArray,argTypes:=at'},ty,pos,aft,none⟩).run P w=.ok (.round l fn tmps assign body) w:=by
  simp [execOp,resolve,Deferred.ofValue,hx,invoke,hargs,hy]
 refine ⟨fun f _=>trivial,?_⟩
 change Oper.uponIn Fence.wide m P _ a K Q ((execOp a.eval ⟨some d,.call {callee:=.value f,args:=args.toArray,argTypes:=at'},ty,pos,aft,none⟩).run P w)
 rw [hrun,Oper.uponIn_round]
 refine ⟨fun e=>by simp [Fence.wide] at e,hR.mono ?_⟩
 rintro e w' ⟨b,s',L',rfl,q1,q2,q3⟩
 exact hK _ _ (k b s' _ _ w' (hE.put hd _) (q2.closeC q1) q3)
theorem zjB {o:Oper} {a:Act} {w:World} {next:Act→World→Prop} {m l:Nat} (hnd:∀ c,o.op≠.defer c) (h:o.wp P a w next Q):o.wpIn (Fence.wide.inRound l) m P a w next Q:=by
 refine ⟨fun f _=>trivial,?_⟩
 have h':o.upon P a next Q ((execOp a.eval o).run P w):=h
 show o.uponIn (Fence.wide.inRound l) m P a next Q ((Oper.semAt (some l) a.eval o).run P w)
 rw [Oper.semAt_some l a.eval o hnd]
 revert h'
 generalize (execOp a.eval o).run P w=r
 intro h'
 cases r with
 | ok x w' =>
  cases x <;> first | exact h' | (refine ⟨fun e=>by simp [Fence.wide] at e,?_⟩;exact CallsIn.inRound l (callsIn_wide.2 h')) | (refine ⟨fun e=>by simp [Fence.wide] at e,fun c cs _=>?_⟩;obtain ⟨v,w'',k1,k2⟩:=h' c cs;exact ⟨v,w'',k1,stepsIn_wide.2 k2⟩) | exact False.elim h'
 | halt x w'=>cases x <;> first | exact h' | exact False.elim h'
section
variable {F:Fence} {m l:Nat}
theorem zhF {x y:Code} (h:Nx n G D w0 (x.wpIn F m P (Exit.then (y.wpIn F m P Q) Q)) E L φ):Nx n G D w0 ((Code.seq x y).wpIn F m P Q) E L φ:=fun a w hE hm hφ=>wpIn_seq (h a w hE hm hφ)
theorem zjS {id:Nat} {c:Code} (h:Nx n G D w0 (c.wpIn F m P (Exit.inBlock id Q)) E L φ):Nx n G D w0 ((Code.block id c).wpIn F m P Q) E L φ:=fun a w hE hm hφ=>wpIn_block (h a w hE hm hφ)
theorem V7 {id:Nat} {l:List Oper} (h:Nx n G D w0 (wpListIn F m P l.toArray Q l) E L φ):Nx n G D w0 ((Code.region id l.toArray false).wpIn F m P Q) E L φ:=fun a w hE hm hφ=>wpIn_region_lit (h a w hE hm hφ)
theorem zk0 (h:Nx n G D w0 (Q .normal) E L φ):Nx n G D w0 (Code.skip.wpIn F m P Q) E L φ:=fun a w hE hm hφ=>wpIn_skip (h a w hE hm hφ)
theorem zl2 (h:Nx n G D w0 (Q .ret) E L φ):Nx n G D w0 (Code.ret.wpIn F m P Q) E L φ:=fun a w hE hm hφ=>wpIn_ret (h a w hE hm hφ)
theorem zkZ {c:Operand} {x y:Code} {t:Bool} {A B:Prop} (hc:oev E c=some (.bool t)) (hx:Nx n G D w0 (x.wpIn F m P Q) E L A) (hy:Nx n G D w0 (y.wpIn F m P Q) E L B):Nx n G D w0 ((Code.cond c x y).wpIn F m P Q) E L (ifW t A B) :=
 fun a w hE hm hφ=>wpIn_cond_split (hE.eval hc) (fun h=>hx a w hE hm (hφ.1 h)) (fun h=>hy a w hE hm (hφ.2 h))
theorem zgc {ops:Array Oper} {rest:List Oper} {dst:Option Tmp} {op:Op} (hnd:∀ c,op≠.defer c) (h:Nx n G D w0 (fun a w=>Oper.wp P ⟨dst,op,ty,pos,aft,none⟩ a w (wpListIn (Fence.wide.inRound l) m P ops Q rest) Q) E L φ):Nx n G D w0 (wpListIn (Fence.wide.inRound l) m P ops Q (⟨dst,op,ty,pos,aft,none⟩ :: rest)) E L φ :=
 fun a w hE hm hφ=>by
  unfold wpListIn
  rw [if_pos (by simp [Region.wanted])]
  exact zjB hnd (h a w hE hm hφ)
theorem stR {ops:Array Oper} {rest:List Oper} {dst:Option Tmp} {op:Op} (hnd:∀ c,op≠.defer c):uv P n G D w0 E ⟨dst,op,ty,pos,aft,none⟩ (wpListIn (Fence.wide.inRound l) m P ops Q (⟨dst,op,ty,pos,aft,none⟩ :: rest)) (wpListIn (Fence.wide.inRound l) m P ops Q rest) L L :=
 ⟨fun hd ho hr hψ k=>zgc hnd (zgr hd ho hr hψ k)⟩
end
end
end
section
open Go.RowKit
@[ext] structure ze where
 xLo:Int
 xHi:Int
 deriving DecidableEq
def zQ (x:ze):List Value:=[(.int .i64 x.xLo),(.int .i64 x.xHi)]
def zc:El ze:=El.flat 2 zQ (by decide) (fun _=>rfl) (fun x u h=>by simp only [zQ,List.mem_cons,List.not_mem_nil,or_false] at h;rcases h with rfl | rfl <;> rfl)
theorem zx:UA zc zQ:=Y8
abbrev xl:DEl ze:=zb4 zc zQ zx
@[ext] structure jk where
 xField:Int
 xLo:Int
 xHi:Int
 xNot:Bool
 deriving DecidableEq
def yR (x:jk):List Value:=[(.int .i64 x.xField),(.int .i64 x.xLo),(.int .i64 x.xHi),(.bool x.xNot)]
def xT:El jk:=El.flat 4 yR (by decide) (fun _=>rfl) (fun x u h=>by simp only [yR,List.mem_cons,List.not_mem_nil,or_false] at h;rcases h with rfl | rfl | rfl | rfl <;> rfl)
theorem xy:UA xT yR:=Y8
abbrev zlC:DEl jk:=zb4 xT yR xy
@[ext] structure zt where
 xTests:(List jk)
 xAction:Int
 xChain:Int
 deriving DecidableEq
def zdM (u:Value) (x:zt):List Value:=[u,(.int .i64 x.xAction),(.int .i64 x.xChain)]
def xX:El zt where
 size:=3
 cells:=fun F w x cs=>∃ u:Value,cs=zdM u x∧Sl xT F w u x.xTests
 pos:=by decide
 len:=fun F w x cs ⟨u,e,_⟩=>by rw [e];rfl
 one:=fun F w x cs ⟨u,e,h⟩ v hv=>by
  subst e
  simp only [zdM,List.mem_cons,List.not_mem_nil,or_false] at hv
  rcases hv with e | e | e
  ·subst e;exact h.one
  ·subst e;exact rfl
  ·subst e;exact rfl
 keep:=fun F F' w w' x cs hF hb ⟨u,e,h⟩=>⟨u,e,h.keep hF hb⟩
def ja:DEl zt where
 el:=xX
 own:=fun B w x cs=>∃ u:Value,cs=zdM u x∧Dp zlC 165 B w u x.xTests
 read:=fun B w x cs ⟨u,e,h⟩=>⟨u,e,h.sl⟩
 keep:=fun B w w' x cs hk ⟨u,e,h⟩=>⟨u,e,h.keep hk⟩
 lt:=fun B w x cs ⟨u,e,h⟩=>h.lt
@[ext] structure zR where
 xChains:(List (List zt))
 xAccept:Bool
 deriving DecidableEq
@[ext] structure zhM where
 x0:Int
 x1:Int
 x2:Int
 x3:Int
 deriving DecidableEq
@[ext] structure js where
 xFrom:Int
 xTo:Int
 xPort:Int
 xProto:Int
 deriving DecidableEq
@[ext] structure za where
 x0:(List ze)
 x1:(List ze)
 x2:(List ze)
 x3:(List ze)
 deriving DecidableEq
def zai (u:Value×Value×Value×Value) (x:za):List Value:=[u.1,u.2.1,u.2.2.1,u.2.2.2]
def zf:El za where
 size:=4
 cells:=fun F w x cs=>∃ u:Value×Value×Value×Value,cs=zai u x∧Sl zc F w u.1 x.x0∧Sl zc F w u.2.1 x.x1∧Sl zc F w u.2.2.1 x.x2∧Sl zc F w u.2.2.2 x.x3
 pos:=by decide
 len:=fun F w x cs ⟨u,e,_⟩=>by rw [e];rfl
 one:=fun F w x cs ⟨u,e,h⟩ v hv=>by
  subst e
  simp only [zai,List.mem_cons,List.not_mem_nil,or_false] at hv
  rcases hv with e | e | e | e
  ·subst e;exact h.1.one
  ·subst e;exact h.2.1.one
  ·subst e;exact h.2.2.1.one
  ·subst e;exact h.2.2.2.one
 keep:=fun F F' w w' x cs hF hb ⟨u,e,h⟩=>⟨u,e,h.1.keep hF hb,h.2.1.keep hF hb,h.2.2.1.keep hF hb,h.2.2.2.keep hF hb⟩
@[ext] structure yb where
 xAccept:Bool
 deriving DecidableEq
@[ext] structure yc where
 deriving DecidableEq
@[ext] structure ZJ where
 deriving DecidableEq
@[ext] structure XA where
 xChain:Int
 deriving DecidableEq
@[ext] structure zj where
 xWhere:za
 xAccept:Bool
 deriving DecidableEq
def zeQ (u:Value×Value×Value×Value) (x:zj):List Value:=[u.1,u.2.1,u.2.2.1,u.2.2.2,(.bool x.xAccept)]
def zA:El zj where
 size:=5
 cells:=fun F w x cs=>∃ u:Value×Value×Value×Value,cs=zeQ u x∧Sl zc F w u.1 x.xWhere.x0∧Sl zc F w u.2.1 x.xWhere.x1∧Sl zc F w u.2.2.1 x.xWhere.x2∧Sl zc F w u.2.2.2 x.xWhere.x3
 pos:=by decide
 len:=fun F w x cs ⟨u,e,_⟩=>by rw [e];rfl
 one:=fun F w x cs ⟨u,e,h⟩ v hv=>by
  subst e
  simp only [zeQ,List.mem_cons,List.not_mem_nil,or_false] at hv
  rcases hv with e | e | e | e | e
  ·subst e;exact h.1.one
  ·subst e;exact h.2.1.one
  ·subst e;exact h.2.2.1.one
  ·subst e;exact h.2.2.2.one
  ·subst e;exact rfl
 keep:=fun F F' w w' x cs hF hb ⟨u,e,h⟩=>⟨u,e,h.1.keep hF hb,h.2.1.keep hF hb,h.2.2.1.keep hF hb,h.2.2.2.keep hF hb⟩
@[ext] structure Zt where
 xAccepted:(List za)
 xDropped:(List za)
 deriving DecidableEq
@[ext] structure jd where
 xSides:(List (List ze))
 deriving DecidableEq
def zfJ (u:Value) (x:jd):List Value:=[u]
def jT:El jd where
 size:=1
 cells:=fun F w x cs=>∃ u:Value,cs=zfJ u x∧Sl (zI zc) F w u x.xSides
 pos:=by decide
 len:=fun F w x cs ⟨u,e,_⟩=>by rw [e];rfl
 one:=fun F w x cs ⟨u,e,h⟩ v hv=>by
  subst e
  simp only [zfJ,List.mem_cons,List.not_mem_nil,or_false] at hv
  subst hv;exact h.one
 keep:=fun F F' w w' x cs hF hb ⟨u,e,h⟩=>⟨u,e,h.keep hF hb⟩
def uh:DEl jd where
 el:=jT
 own:=fun B w x cs=>∃ u:Value,cs=zfJ u x∧Dp (dSl xl 89) 90 B w u x.xSides
 read:=fun B w x cs ⟨u,e,h⟩=>⟨u,e,h.sl⟩
 keep:=fun B w w' x cs hk ⟨u,e,h⟩=>⟨u,e,h.keep hk⟩
 lt:=fun B w x cs ⟨u,e,h⟩=>h.lt
@[ext] structure zJ where
 xWhere:jd
 xAccept:Bool
 deriving DecidableEq
def zep (u:Value) (x:zJ):List Value:=[u,(.bool x.xAccept)]
def zM:El zJ where
 size:=2
 cells:=fun F w x cs=>∃ u:Value,cs=zep u x∧Sl (zI zc) F w u x.xWhere.xSides
 pos:=by decide
 len:=fun F w x cs ⟨u,e,_⟩=>by rw [e];rfl
 one:=fun F w x cs ⟨u,e,h⟩ v hv=>by
  subst e
  simp only [zep,List.mem_cons,List.not_mem_nil,or_false] at hv
  rcases hv with e | e
  ·subst e;exact h.one
  ·subst e;exact rfl
 keep:=fun F F' w w' x cs hF hb ⟨u,e,h⟩=>⟨u,e,h.keep hF hb⟩
def xU:DEl zJ where
 el:=zM
 own:=fun B w x cs=>∃ u:Value,cs=zep u x∧Dp (dSl xl 89) 90 B w u x.xWhere.xSides
 read:=fun B w x cs ⟨u,e,h⟩=>⟨u,e,h.sl⟩
 keep:=fun B w w' x cs hk ⟨u,e,h⟩=>⟨u,e,h.keep hk⟩
 lt:=fun B w x cs ⟨u,e,h⟩=>h.lt
@[ext] structure VH where
 xChain:Int
 xNext:Int
 deriving DecidableEq
@[ext] structure XH where
 xName:ByteArray
 xTop:Int
 deriving DecidableEq
def ZB (x:XH):List Value:=[(.string x.xName),(.int .i64 x.xTop)]
def je:El XH:=El.flat 2 ZB (by decide) (fun _=>rfl) (fun x u h=>by simp only [ZB,List.mem_cons,List.not_mem_nil,or_false] at h;rcases h with rfl | rfl <;> rfl)
theorem Uq:UA je ZB:=Y8
inductive uT where
 | kDeciding (x:yb)
 | kCalling (x:XA)
 | kReturning (x:yc)
 | kPassing (x:ZJ)
def UK:uT→Value
 | .kDeciding x=>.iface 262 (.agg #[(.bool x.xAccept)])
 | .kCalling x=>.iface 264 (.agg #[(.int .i64 x.xChain)])
 | .kReturning x=>.iface 266 (.agg #[])
 | .kPassing x=>.iface 267 (.agg #[])
def uT.casesW (a:uT) (p0:yb→Prop) (p1:XA→Prop) (p2:yc→Prop) (p3:ZJ→Prop):Prop:=match a with
 | .kDeciding x=>p0 x
 | .kCalling x=>p1 x
 | .kReturning x=>p2 x
 | .kPassing x=>p3 x
def zE:List XH:=[⟨(ByteArray.mk #[102,114,111,109]),65535⟩,⟨(ByteArray.mk #[116,111]),65535⟩,⟨(ByteArray.mk #[112,111,114,116]),255⟩,⟨(ByteArray.mk #[112,114,111,116,111]),7⟩]
def YO (code_0:(List UInt8)) (κ:((List UInt8)×Int)→Prop):Prop :=
 jnW (fun (xs68:(List UInt8))=>κ (xs68,0)) (fun k71=>ifW (decide (2000<(code_0.length:Int))) (yY code_0 0 2000 (fun xs4=>k71 xs4)) (k71 code_0))
def zo (r_0_b:(List UInt8)) (r_0_p:Int) (n_1:Int) (κ:(Int×Int)→Prop):Prop :=
 jz r_0_p 1 (fun t5=>jnW (fun (t66:Bool)=>ifW t66 (κ (0,t5)) (Yi t5 1 (fun t68=>ifW (decide (t68<(r_0_b.length:Int))) (zB r_0_b t68 (fun e69=>zg5 (e69.toNat:Int) n_1 (fun t71=>κ (t71,t5)))) (zg5 t68 (r_0_b.length:Int) (fun t72=>zB r_0_b t72 (fun e73=>zhg (e73.toNat:Int) 131 (fun t75=>zhg t68 7 (fun t76=>jz t76 3 (fun t77=>zg5 t77 (r_0_b.length:Int) (fun t78=>zB r_0_b t78 (fun e79=>zhg (e79.toNat:Int) 1117 (fun t81=>jz t75 t81 (fun t82=>zhg t68 29 (fun t83=>jz t82 t83 (fun t84=>ziL t68 (r_0_b.length:Int) (fun t85=>zhg t85 53 (fun t86=>jz t84 t86 (fun t87=>ziL t87 64 (fun t88=>zk5 t87 t88 (fun t89=>zg5 t89 n_1 (fun t90=>κ (t90,t5)))))))))))))))))))))) (fun k67=>ifW (decide (n_1<1)) (k67 true) (k67 (decide ((r_0_b.length:Int)=0)))))
def xp (r_0_b:(List UInt8)) (r_0_p:Int) (n_1:Int) (κ:(Bool×Int)→Prop):Prop :=
 jnW (fun ((t68,t69):(Int×Bool))=>κ (t69,t68)) (fun k70=>ifW (decide (0<n_1)) (zo r_0_b r_0_p n_1 (fun (r5,r6)=>Yi n_1 1 (fun t7=>k70 (r6,(decide (r5=t7)))))) (k70 (r_0_p,false)))
def uj (n_0:Int) (κ:Int→Prop):Prop :=
 jnW (fun (t61:Bool)=>ifW t61 (κ 65535) (ifW (decide (n_0=2)) (κ 255) (ifW (decide (n_0=3)) (κ 7) (κ (-1))))) (fun k62=>ifW (decide (n_0=0)) (k62 (decide (n_0=0))) (k62 (decide (n_0=1))))
def YR (r_0_b:(List UInt8)) (r_0_p:Int) (top_1:Int) (n_2:Int) (κ:(ze×Int)→Prop):Prop :=
 jz top_1 1 (fun t7=>zo r_0_b r_0_p (min 256 t7) (fun (r8,r9)=>jnW (fun ((t144,t145):(Int×Int))=>jnW (fun ((t147,t148):(Int×Int))=>xp r_0_b t147 n_2 (fun (r174,r175)=>ifW r174 (jnW (fun ((t176,t177,t178):(Int×Int×Int))=>κ ((ze.mk t177 t178),t176)) (fun k179=>zo r_0_b r175 3 (fun (r181,r182)=>zB ([(ze.mk (w64 (t148+1)) t148),(ze.mk (-1) t148),(ze.mk t145 (w64 (top_1+1)))]) r181 (fun e183=>k179 (r182,e183.xLo,e183.xHi))))) (κ ((ze.mk t145 t148),r175)))) (fun k149=>zo r_0_b t144 4 (fun (r150,r151)=>zo r_0_b r151 256 (fun (r152,r153)=>zo r_0_b r153 4 (fun (r155,r156)=>zB ([0,r150,r152,4096]) r155 (fun e157=>k149 (r156,(min top_1 (w64 (t145+e157)))))))))) (fun k146=>jnW (fun ((t74,t75):(Int×Bool))=>ifW t75 (jnW (fun ((t77,t78):(Int×Int))=>k146 (t77,t78)) (fun k79=>zo r_0_b t74 256 (fun (r80,r81)=>k79 (r81,(min top_1 (w64 ((w64 (r8 * 256))+r80))))))) (k146 (t74,r8))) (fun k76=>ifW (decide (255<top_1)) (zo r_0_b r9 2 (fun (r12,r13)=>k76 (r13,(decide (r12=0))))) (k76 (r9,false))))))
def Xw (r_0_b:(List UInt8)) (r_0_p:Int) (n_1:Int) (κ:(jk×Int)→Prop):Prop :=
 zo r_0_b r_0_p 4 (fun (r7,r8)=>zo r_0_b r8 4 (fun (r9,r10)=>uj r7 (fun r13=>YR r_0_b r10 r13 0 (fun (r14,r15)=>jnW (fun ((t152,t153,t154):(Int×Int×Int))=>jnW (fun ((t241,t242,t243):(Int×Int×Int))=>jnW (fun ((t317,t318,t319,t320):(Int×Int×Int×Int))=>κ ((jk.mk t318 t319 t320 (decide (r9=0))),t317)) (fun k321=>xp r_0_b t241 n_1 (fun (r245,r246)=>ifW r245 (zo r_0_b r246 3 (fun (r247,r248)=>ifW (decide (r247=0)) (zo r_0_b r248 2 (fun (r251,r252)=>zB ([(-1),4]) r251 (fun e253=>k321 (r252,e253,t242,t243)))) (ifW (decide (r247=1)) (jz t243 1 (fun t255=>k321 (r248,r7,t255,t243))) (jz r13 1 (fun t256=>k321 (r248,r7,t242,t256)))))) (k321 (r246,r7,t242,t243))))) (fun k244=>zo r_0_b t152 8 (fun (r156,r157)=>ifW (decide (r156=0)) (jnW (fun ((t158,t159,t160):(Int×Int×Int))=>k244 (t158,t159,t160)) (fun k161=>zo r_0_b r157 3 (fun (r163,r164)=>zB ([(ze.mk 0 r13),(ze.mk 0 t154),(ze.mk t153 r13)]) r163 (fun e165=>k161 (r164,e165.xLo,e165.xHi))))) (k244 (r157,t153,t154))))) (fun k155=>jnW (fun ((t80,t81):(Int×Bool))=>ifW t81 (zo r_0_b t80 20 (fun (r83,r84)=>jnW (fun ((t85,t86):(Int×Int))=>k155 (t85,r83,t86)) (fun k87=>zo r_0_b r84 8 (fun (r88,r89)=>k87 (r89,(w64 (r83+r88))))))) (k155 (t80,r14.xLo,r14.xHi))) (fun k82=>ifW (decide (r7<2)) (zo r_0_b r15 2 (fun (r18,r19)=>k82 (r19,(decide (r18=0))))) (k82 (r15,false))))))))
def Zd (r_0_b:(List UInt8)) (r_0_p:Int) (n_1:Int) (κ:((List jk)×Int)→Prop):Prop :=
 zo r_0_b r_0_p 4 (fun (r8,r9)=>jy (fun (nx16:(Int×(List jk)×Int)→Prop) ((t10,xs12,t15):(Int×(List jk)×Int))=>ifW (decide (0<t15)) (Xw r_0_b t10 0 (fun (r17,r18)=>jw xs12 ([r17]) (fun _=>Yi t15 1 (fun t23=>nx16 (r18,(xs12++([r17])),t23))))) (jnW (fun ((t97,xs99):(Int×(List jk)))=>κ (xs99,t97)) (fun k102=>xp r_0_b t10 n_1 (fun (r24,r25)=>ifW r24 (zo r_0_b r25 2 (fun (r26,r27)=>ifW (decide (r26=0)) (Xw r_0_b r27 1 (fun (r28,r29)=>jw xs12 ([r28]) (fun _=>k102 (r29,(xs12++([r28])))))) (V6 ((jk.mk 0 0 0 false):jk) 7 7 (fun xs35=>k102 (r27,xs35))))) (k102 (r25,xs12)))))) (r9,[],r8))
def XL (r_0_b:(List UInt8)) (r_0_p:Int) (first_1:Int) (chains_2:Int) (n_3:Int) (κ:(zt×Int)→Prop):Prop :=
 Zd r_0_b r_0_p 0 (fun (r7,r10)=>zo r_0_b r10 8 (fun (r13,r14)=>zB ([1,1,2,2,3,3,4,5]) r13 (fun e15=>jnW (fun ((t86,t87,t88):(Int×Int×Int))=>jnW (fun ((t173,xs175,t178,t179):(Int×(List jk)×Int×Int))=>κ ((zt.mk xs175 t178 t179),t173)) (fun k180=>xp r_0_b t88 n_3 (fun (r90,r91)=>ifW r90 (zo r_0_b r91 3 (fun (r92,r93)=>ifW (decide (r92=0)) (zo r_0_b r93 2 (fun (r96,r97)=>zB ([0,6]) r96 (fun e98=>k180 (r97,r7,e98,t87)))) (ifW (decide (r92=1)) (zo r_0_b r93 3 (fun (r102,r103)=>zB ([(-1),5,1]) r102 (fun e104=>k180 (r103,r7,t86,e104)))) (Zd r_0_b r93 1 (fun (r106,r109)=>k180 (r109,r106,t86,t87)))))) (k180 (r91,r7,t86,t87))))) (fun k89=>ifW (decide (e15=3)) (ifW (decide (chains_2≤first_1)) (k89 (2,0,r14)) (Yi chains_2 first_1 (fun t22=>zo r_0_b r14 t22 (fun (r23,r24)=>jz first_1 r23 (fun t25=>k89 (e15,t25,r24)))))) (k89 (e15,0,r14))))))
def Za (r_0_b:(List UInt8)) (r_0_p:Int) (first_1:Int) (chains_2:Int) (n_3:Int) (κ:((List zt)×Int)→Prop):Prop :=
 zo r_0_b r_0_p 5 (fun (r9,r10)=>jy (fun (nx18:(Int×(List zt)×Int)→Prop) ((t11,xs13,t17):(Int×(List zt)×Int))=>ifW (decide (0<t17)) (XL r_0_b t11 first_1 chains_2 0 (fun (r19,r22)=>jw xs13 ([r19]) (fun _=>Yi t17 1 (fun t32=>nx18 (r22,(xs13++([r19])),t32))))) (jnW (fun ((t122,xs124):(Int×(List zt)))=>κ (xs124,t122)) (fun k128=>xp r_0_b t11 n_3 (fun (r33,r34)=>ifW r33 (zo r_0_b r34 2 (fun (r35,r36)=>ifW (decide (r35=0)) (XL r_0_b r36 first_1 chains_2 1 (fun (r37,r40)=>jw xs13 ([r37]) (fun _=>k128 (r40,(xs13++([r37])))))) (jy (fun (nx55:(List zt)→Prop) (xs51:(List zt))=>ifW (decide ((xs51.length:Int)≤8)) (jw xs51 ([(zt.mk ([]) 5 0)]) (fun _=>nx55 (xs51++([(zt.mk ([]) 5 0)])))) (k128 (r36,xs51))) xs13))) (k128 (r34,xs13)))))) (r10,[],r9))
def Zn (r_0_b:(List UInt8)) (r_0_p:Int) (n_1:Int) (κ:(zR×Int)→Prop):Prop :=
 zo r_0_b r_0_p 2 (fun (r7,r8)=>zo r_0_b r8 3 (fun (r11,r12)=>jz 1 r11 (fun t13=>jy (fun (nx21:(Int×(List (List zt))×Int)→Prop) ((t14,xs16,t20):(Int×(List (List zt))×Int))=>ifW (decide (t20<t13)) (jnW (fun ((xs25,t29):((List (List zt))×Int))=>jz t20 1 (fun t55=>nx21 (t29,xs25,t55))) (fun k30=>Za r_0_b t14 (w64 (t20+1)) t13 0 (fun (r31,r34)=>jw xs16 ([r31]) (fun _=>k30 ((xs16++([r31])),r34))))) (jnW (fun ((t253,xs255):(Int×(List (List zt))))=>κ ((zR.mk xs255 (decide (r7=0))),t253)) (fun k259=>xp r_0_b t14 n_1 (fun (r56,r57)=>ifW r56 (zo r_0_b r57 4 (fun (r58,r59)=>ifW (decide (r58=0)) (k259 (r59,[])) (ifW (decide (r58=1)) (jnW (fun ((xs69,t72):((List (List zt))×Int))=>k259 (t72,xs69)) (fun k73=>(zB xs16 0 (fun e74=>zo r_0_b r59 2 (fun (r80,r81)=>zB ([0,t13]) r80 (fun e82=>jw e74 ([(zt.mk ([]) 3 e82)]) (fun _=>zB xs16 0 (fun e89=>k73 ((xs16.set (0:Int).toNat (e74++([(zt.mk ([]) 3 e82)]))),r81)))))))∧((zB xs16 0 (fun e130=>zo r_0_b r59 2 (fun (r80,r81)=>zB ([0,t13]) r80 (fun e82=>jw e130 ([(zt.mk ([]) 3 e82)]) (fun _=>zB xs16 0 (fun e89=>k73 ((xs16.set (0:Int).toNat (e130++([(zt.mk ([]) 3 e82)]))),r81)))))))∧(zo r_0_b r59 2 (fun (r132,r133)=>(zB xs16 0 (fun e134=>zB ([0,t13]) r132 (fun e82=>jw e134 ([(zt.mk ([]) 3 e82)]) (fun _=>zB xs16 0 (fun e89=>k73 ((xs16.set (0:Int).toNat (e134++([(zt.mk ([]) 3 e82)]))),r133))))))∧(zB ([0,t13]) r132 (fun e136=>zB xs16 0 (fun e138=>jw e138 ([(zt.mk ([]) 3 e136)]) (fun _=>zB xs16 0 (fun e89=>k73 ((xs16.set (0:Int).toNat (e138++([(zt.mk ([]) 3 e136)]))),r133)))))))))∧(zo r_0_b r59 2 (fun (r151,r152)=>(zB xs16 0 (fun e153=>zB ([0,t13]) r151 (fun e82=>jw e153 ([(zt.mk ([]) 3 e82)]) (fun _=>zB xs16 0 (fun e89=>k73 ((xs16.set (0:Int).toNat (e153++([(zt.mk ([]) 3 e82)]))),r152))))))∧((zB xs16 0 (fun e134=>zB ([0,t13]) r151 (fun e82=>jw e134 ([(zt.mk ([]) 3 e82)]) (fun _=>zB xs16 0 (fun e89=>k73 ((xs16.set (0:Int).toNat (e134++([(zt.mk ([]) 3 e82)]))),r152))))))∧(zB ([0,t13]) r151 (fun e136=>zB xs16 0 (fun e138=>jw e138 ([(zt.mk ([]) 3 e136)]) (fun _=>zB xs16 0 (fun e89=>k73 ((xs16.set (0:Int).toNat (e138++([(zt.mk ([]) 3 e136)]))),r152))))))))))) (ifW (decide (r58=2)) (Yi t13 1 (fun t156=>zB xs16 t156 (fun e160=>Yi t13 1 (fun t167=>zB (xs16.set (t156).toNat ([(zt.mk ([]) 3 0)])) 0 (fun e171=>k259 (r59,((xs16.set (t156).toNat ([(zt.mk ([]) 3 0)])).set (0:Int).toNat ([(zt.mk ([]) 3 t167)])))))))) (Za r_0_b r59 1 t13 1 (fun (r181,r185)=>zB xs16 0 (fun e186=>k259 (r185,(xs16.set (0:Int).toNat r181))))))))) (k259 (r57,xs16)))))) (r12,[],0))))
def zG (n_0:Int) (κ:Int→Prop):Prop :=
 jnW (fun (t61:Bool)=>ifW t61 (κ (-1)) (zB zE n_0 (fun e63=>κ e63.xTop))) (fun k62=>ifW (decide (n_0<0)) (k62 true) (k62 (decide (4≤n_0))))
def X0 (t_0:jk) (κ:Bool→Prop):Prop :=
 jnW (fun (t64:Bool)=>κ t64) (fun k65=>ifW (decide (0≤t_0.xField)) (ifW (decide (t_0.xField<4)) (ifW (decide (0≤t_0.xLo)) (ifW (decide (t_0.xLo≤t_0.xHi)) (zG t_0.xField (fun r3=>k65 (decide (t_0.xHi≤r3)))) (k65 false)) (k65 false)) (k65 false)) (k65 false))
def Xh (list_0:(List jk)) (κ:Bool→Prop):Prop :=
 ifW (decide (6<(list_0.length:Int))) (κ false) (jy (fun (nx4:Int→Prop) (t3:Int)=>ifW (decide (t3<(list_0.length:Int))) (zB list_0 t3 (fun e5=>X0 e5 (fun r9=>ifW (!r9) (κ false) (jz t3 1 (fun t10=>nx4 t10))))) (κ true)) 0)
def XS (r_0:zt) (κ:Bool→Prop):Prop :=
 Xh r_0.xTests (fun r8=>ifW (!r8) (κ false) (ifW (decide (r_0.xAction=3)) (jnW (fun (t69:Bool)=>κ t69) (fun k70=>ifW (decide (0≤r_0.xChain)) (k70 (decide (r_0.xChain<5))) (k70 false))) (jnW (fun (t131:Bool)=>ifW t131 (κ (decide (r_0.xChain=0))) (κ false)) (fun k132=>ifW (decide (r_0.xAction=1)) (k132 (decide (r_0.xAction=1))) (ifW (decide (r_0.xAction=2)) (k132 (decide (r_0.xAction=2))) (ifW (decide (r_0.xAction=4)) (k132 (decide (r_0.xAction=4))) (k132 (decide (r_0.xAction=5)))))))))
def Xq (list_0:(List zt)) (κ:Bool→Prop):Prop :=
 ifW (decide (8<(list_0.length:Int))) (κ false) (jy (fun (nx4:Int→Prop) (t3:Int)=>ifW (decide (t3<(list_0.length:Int))) (zB list_0 t3 (fun e5=>XS e5 (fun r16=>ifW (!r16) (κ false) (jz t3 1 (fun t17=>nx4 t17))))) (κ true)) 0)
def XC (rules_0:(List zt)) (κ:(List Int)→Prop):Prop :=
 jy (fun (nx9:((List Bool)×Int)→Prop) ((xs6,t8):((List Bool)×Int))=>ifW (decide (t8<(rules_0.length:Int))) (jnW (fun (xs84:(List Bool))=>jz t8 1 (fun t87=>nx9 (xs84,t87))) (fun k86=>zB rules_0 t8 (fun e10=>ifW (decide (e10.xAction=3)) (zB xs6 e10.xChain (fun e21=>k86 (xs6.set (e10.xChain).toNat true))) (k86 xs6)))) (zme xs6 (fun e89 e90 e91 e92 e93=>jy (fun (nx100:((List Int)×Int)→Prop) ((xs96,t99):((List Int)×Int))=>ifW (decide (t99<5)) (jnW (fun (xs166:(List Int))=>jz t99 1 (fun t170=>nx100 (xs166,t170))) (fun k169=>zB ([e89,e90,e91,e92,e93]) t99 (fun e101=>ifW e101 (jw xs96 ([t99]) (fun _=>k169 (xs96++([t99])))) (k169 xs96)))) (κ xs96)) ([],0)))) ([false,false,false,false,false],0)
def Xo (rec:((List (List zt))→Int→(List Int)→((Bool×(List Int))→Prop)→Prop)) (chains_0:(List (List zt))) (chain_1:Int) (colours_2:(List Int)) (κ:(Bool×(List Int))→Prop):Prop :=
 ifW (decide ((chains_0.length:Int)≤chain_1)) (κ (true,colours_2)) (zB colours_2 chain_1 (fun e5=>ifW (decide (e5=1)) (κ (false,colours_2)) (ifW (decide (e5=2)) (κ (true,colours_2)) (zB colours_2 chain_1 (fun e7=>zB chains_0 chain_1 (fun e10=>XC e10 (fun r16=>jy (fun (nx23:((List Int)×Bool×Int)→Prop) ((xs19,t21,t22):((List Int)×Bool×Int))=>ifW (decide (t22<(r16.length:Int))) (jnW (fun ((xs89,t91):((List Int)×Bool))=>jz t22 1 (fun t93=>nx23 (xs89,t91,t93))) (fun k92=>zB r16 t22 (fun e24=>rec chains_0 e24 xs19 (fun (r26,r27)=>ifW (!r26) (k92 (r27,false)) (k92 (r27,t21)))))) (zB xs19 chain_1 (fun e94=>κ (t21,(xs19.set (chain_1).toNat 2))))) ((colours_2.set (chain_1).toNat 1),true,0))))))))
def uX:Nat→(List (List zt))→Int→(List Int)→((Bool×(List Int))→Prop)→Prop
 | 0=>fun _ _ _ _=>False
 | n+1=>Xo (uX n)
def Vd (chains_0:(List (List zt))) (chain_1:Int) (colours_2:(List Int)) (κ:(Bool×(List Int))→Prop):Prop:=∃ n,uX n chains_0 chain_1 colours_2 κ
def YP (chains_0:(List (List zt))) (κ:Bool→Prop):Prop :=
 jy (fun (nx8:((List Int)×Int)→Prop) ((xs5,t7):((List Int)×Int))=>ifW (decide (t7<(chains_0.length:Int))) (Vd chains_0 t7 xs5 (fun (r9,r10)=>ifW (!r9) (κ false) (jz t7 1 (fun t12=>nx8 (r10,t12))))) (κ true)) ([0,0,0,0,0],0)
def Zy (s_0:zR) (κ:Bool→Prop):Prop :=
 jnW (fun (t68:Bool)=>ifW t68 (κ false) (jy (fun (nx71:Int→Prop) (t70:Int)=>ifW (decide (t70<(s_0.xChains.length:Int))) (zB s_0.xChains t70 (fun e72=>Xq e72 (fun r78=>ifW (!r78) (κ false) (jz t70 1 (fun t79=>nx71 t79))))) (jy (fun (nx81:Int→Prop) (t80:Int)=>ifW (decide (t80<(s_0.xChains.length:Int))) (zB s_0.xChains t80 (fun e82=>XC e82 (fun r88=>jy (fun (nx92:Int→Prop) (t91:Int)=>ifW (decide (t91<(r88.length:Int))) (zB r88 t91 (fun e93=>ifW (decide ((s_0.xChains.length:Int)≤e93)) (κ false) (jz t91 1 (fun t95=>nx92 t95)))) (jz t80 1 (fun t96=>nx81 t96))) 0))) (YP s_0.xChains (fun r97=>κ r97))) 0)) 0)) (fun k69=>ifW (decide ((s_0.xChains.length:Int)<1)) (k69 true) (k69 (decide (5<(s_0.xChains.length:Int)))))
def Ut (r_0:zt) (κ:uT→Prop):Prop :=
 ifW (decide (r_0.xAction=1)) (κ (uT.kDeciding (yb.mk true))) (ifW (decide (r_0.xAction=2)) (κ (uT.kDeciding (yb.mk false))) (ifW (decide (r_0.xAction=3)) (κ (uT.kCalling (XA.mk r_0.xChain))) (ifW (decide (r_0.xAction=4)) (κ (uT.kReturning (yc.mk ))) (κ (uT.kPassing (ZJ.mk ))))))
def uQ (a_0:(List ze)) (b_1:(List ze)) (κ:(Int×Bool)→Prop):Prop :=
 jy (fun (nx7:(Int×Int)→Prop) ((t5,t6):(Int×Int))=>jnW (fun (t68:Bool)=>ifW t68 (zB a_0 t5 (fun e70=>zB b_1 t6 (fun e72=>zB a_0 t5 (fun e74=>zB b_1 t6 (fun e76=>ifW (decide ((max e70.xLo e72.xLo)≤(min e74.xHi e76.xHi))) (κ ((max e70.xLo e72.xLo),true)) (zB a_0 t5 (fun e78=>zB b_1 t6 (fun e80=>ifW (decide (e78.xHi<e80.xHi)) (jz t5 1 (fun t82=>nx7 (t82,t6))) (jz t6 1 (fun t83=>nx7 (t5,t83))))))))))) (κ (0,false))) (fun k69=>ifW (decide (t5<(a_0.length:Int))) (k69 (decide (t6<(b_1.length:Int)))) (k69 false))) (0,0)
def Uw (fields_0:zhM) (κ:js→Prop):Prop :=
 zB ([fields_0.x0,fields_0.x1,fields_0.x2,fields_0.x3]) 0 (fun e5=>zB ([fields_0.x0,fields_0.x1,fields_0.x2,fields_0.x3]) 1 (fun e7=>zB ([fields_0.x0,fields_0.x1,fields_0.x2,fields_0.x3]) 2 (fun e9=>zB ([fields_0.x0,fields_0.x1,fields_0.x2,fields_0.x3]) 3 (fun e11=>κ (js.mk e5 e7 e9 e11)))))
def yg (s_0:za) (other_1:za) (κ:(js×Bool)→Prop):Prop :=
 jy (fun (nx52:((List Int)×Int)→Prop) ((xs49,t51):((List Int)×Int))=>ifW (decide (t51<4)) (jnW (fun ((t53,t54):(Int×Bool))=>ifW (!t54) (κ ((js.mk 0 0 0 0),false)) (zB xs49 t51 (fun e78=>jz t51 1 (fun t81=>nx52 ((xs49.set (t51).toNat t53),t81))))) (fun k55=>zB ([s_0.x0,s_0.x1,s_0.x2,s_0.x3]) t51 (fun e56=>zB ([other_1.x0,other_1.x1,other_1.x2,other_1.x3]) t51 (fun e58=>uQ e56 e58 (fun (r68,r69)=>k55 (r68,r69)))))) (zfK xs49 (fun e82 e83 e84 e85=>Uw (zhM.mk e82 e83 e84 e85) (fun r87=>κ (r87,true))))) ([0,0,0,0],0)
def uA (s_0:za) (other_1:za) (κ:Bool→Prop):Prop :=
 yg s_0 other_1 (fun (r75,r76)=>κ r76)
def yt (list_0:(List ze)) (κ:((List ze)×Bool)→Prop):Prop :=
 ifW (decide (40<(list_0.length:Int))) (κ ([],false)) (κ (list_0,true))
def uB (rest_0:(List ze)) (at_1:Int) (top_2:Int) (κ:(Bool×Int)→Prop):Prop :=
 ifW (decide ((rest_0.length:Int)=0)) (κ (false,top_2)) (zB rest_0 0 (fun e3=>ifW (decide (at_1<e3.xLo)) (zB rest_0 0 (fun e5=>Yi e5.xLo 1 (fun t7=>κ (false,t7)))) (zB rest_0 0 (fun e8=>κ (true,e8.xHi)))))
def Ye (inA_0:Bool) (inB_1:Bool) (κ:Bool→Prop):Prop :=
 jnW (fun (t61:Bool)=>κ t61) (fun k62=>ifW inA_0 (k62 inB_1) (k62 false))
def uF (a_0:(List ze)) (b_1:(List ze)) (top_2:Int) (κ:(List ze)→Prop):Prop :=
 jy (fun (nx14:((List ze)×Int×Int×Int)→Prop) ((xs8,t11,t12,t13):((List ze)×Int×Int×Int))=>ifW (decide (t13≤top_2)) (jy (fun (nx16:Int→Prop) (t15:Int)=>jnW (fun (t79:Bool)=>ifW t79 (jz t15 1 (fun t81=>nx16 t81)) (jy (fun (nx83:Int→Prop) (t82:Int)=>jnW (fun (t146:Bool)=>ifW t146 (jz t82 1 (fun t148=>nx83 t148)) (yY a_0 t15 (a_0.length:Int) (fun xs150=>uB xs150 t13 top_2 (fun (r153,r154)=>yY b_1 t82 (b_1.length:Int) (fun xs156=>uB xs156 t13 top_2 (fun (r159,r160)=>jnW (fun (xs296:(List ze))=>jz (min r154 r160) 1 (fun t300=>nx14 (xs296,t15,t82,t300))) (fun k299=>Ye r153 r159 (fun r161=>ifW r161 (jnW (fun (t226:Bool)=>ifW t226 (Yi (xs8.length:Int) 1 (fun t228=>zB xs8 t228 (fun e229=>k299 (xs8.set (t228).toNat (ze.mk e229.xLo (min r154 r160)))))) (jw xs8 ([(ze.mk t13 (min r154 r160))]) (fun _=>k299 (xs8++([(ze.mk t13 (min r154 r160))]))))) (fun k227=>ifW (decide (0<(xs8.length:Int))) (Yi (xs8.length:Int) 1 (fun t162=>zB xs8 t162 (fun e163=>jz e163.xHi 1 (fun t165=>k227 (decide (t165=t13)))))) (k227 false))) (k299 xs8))))))))) (fun k147=>ifW (decide (t82<(b_1.length:Int))) (zB b_1 t82 (fun e84=>k147 (decide (e84.xHi<t13)))) (k147 false))) t12)) (fun k80=>ifW (decide (t15<(a_0.length:Int))) (zB a_0 t15 (fun e17=>k80 (decide (e17.xHi<t13)))) (k80 false))) t11) (κ xs8)) ([],0,0,0)
def zH (a_0:(List ze)) (b_1:(List ze)) (top_2:Int) (κ:((List ze)×Bool)→Prop):Prop :=
 uF a_0 b_1 top_2 (fun r6=>yt r6 (fun (r9,r12)=>κ (r9,r12)))
def yr (s_0:za) (other_1:za) (κ:(za×Bool)→Prop):Prop :=
 jy (fun (nx52:((List (List ze))×Int)→Prop) ((xs49,t51):((List (List ze))×Int))=>ifW (decide (t51<4)) (jnW (fun ((xs53,t56):((List ze)×Bool))=>ifW (!t56) (κ ((za.mk ([]) ([]) ([]) ([])),false)) (zB xs49 t51 (fun e122=>jz t51 1 (fun t128=>nx52 ((xs49.set (t51).toNat xs53),t128))))) (fun k57=>zB ([s_0.x0,s_0.x1,s_0.x2,s_0.x3]) t51 (fun e58=>zB ([other_1.x0,other_1.x1,other_1.x2,other_1.x3]) t51 (fun e60=>zG t51 (fun r70=>zH e58 e60 r70 (fun (r71,r73)=>k57 (r71,r73))))))) (zfK xs49 (fun e129 e130 e131 e132=>κ ((za.mk e129 e130 e131 e132),true)))) ([[],[],[],[]],0)
def xi (u_0_chains:(List (List zt))) (u_0_flats:(List zj)) (u_0_over:Bool) (boxes_1:(List za)) (κ:((List za)×Bool)→Prop):Prop :=
 jnW (fun (t70:Bool)=>κ (boxes_1,t70)) (fun k71=>ifW (decide (400<(boxes_1.length:Int))) (k71 true) (k71 u_0_over))
def uR (s_0:za) (κ:Bool→Prop):Prop :=
 jy (fun (nx39:Int→Prop) (t38:Int)=>ifW (decide (t38<4)) (zB ([s_0.x0,s_0.x1,s_0.x2,s_0.x3]) t38 (fun e41=>ifW (decide ((e41.length:Int)=0)) (κ true) (jz t38 1 (fun t44=>nx39 t44)))) (κ false)) 0
def yN (inA_0:Bool) (inB_1:Bool) (κ:Bool→Prop):Prop :=
 jnW (fun (t61:Bool)=>κ t61) (fun k62=>ifW inA_0 (k62 (!inB_1)) (k62 false))
def jh (a_0:(List ze)) (b_1:(List ze)) (top_2:Int) (κ:(List ze)→Prop):Prop :=
 jy (fun (nx14:((List ze)×Int×Int×Int)→Prop) ((xs8,t11,t12,t13):((List ze)×Int×Int×Int))=>ifW (decide (t13≤top_2)) (jy (fun (nx16:Int→Prop) (t15:Int)=>jnW (fun (t79:Bool)=>ifW t79 (jz t15 1 (fun t81=>nx16 t81)) (jy (fun (nx83:Int→Prop) (t82:Int)=>jnW (fun (t146:Bool)=>ifW t146 (jz t82 1 (fun t148=>nx83 t148)) (yY a_0 t15 (a_0.length:Int) (fun xs150=>uB xs150 t13 top_2 (fun (r153,r154)=>yY b_1 t82 (b_1.length:Int) (fun xs156=>uB xs156 t13 top_2 (fun (r159,r160)=>jnW (fun (xs296:(List ze))=>jz (min r154 r160) 1 (fun t300=>nx14 (xs296,t15,t82,t300))) (fun k299=>yN r153 r159 (fun r161=>ifW r161 (jnW (fun (t226:Bool)=>ifW t226 (Yi (xs8.length:Int) 1 (fun t228=>zB xs8 t228 (fun e229=>k299 (xs8.set (t228).toNat (ze.mk e229.xLo (min r154 r160)))))) (jw xs8 ([(ze.mk t13 (min r154 r160))]) (fun _=>k299 (xs8++([(ze.mk t13 (min r154 r160))]))))) (fun k227=>ifW (decide (0<(xs8.length:Int))) (Yi (xs8.length:Int) 1 (fun t162=>zB xs8 t162 (fun e163=>jz e163.xHi 1 (fun t165=>k227 (decide (t165=t13)))))) (k227 false))) (k299 xs8))))))))) (fun k147=>ifW (decide (t82<(b_1.length:Int))) (zB b_1 t82 (fun e84=>k147 (decide (e84.xHi<t13)))) (k147 false))) t12)) (fun k80=>ifW (decide (t15<(a_0.length:Int))) (zB a_0 t15 (fun e17=>k80 (decide (e17.xHi<t13)))) (k80 false))) t11) (κ xs8)) ([],0,0,0)
def ju (a_0:(List ze)) (b_1:(List ze)) (top_2:Int) (κ:((List ze)×Bool)→Prop):Prop :=
 jh a_0 b_1 top_2 (fun r6=>yt r6 (fun (r9,r12)=>κ (r9,r12)))
def Xd {σ_:Type} (Y_:σ_→za→Bool→(Bool×σ_→Prop)→Prop) (z_:σ_) (a_1:za) (b_2:za) (κ:σ_→Prop):Prop :=
 uR a_1 (fun r20=>ifW r20 (κ z_) (uA a_1 b_2 (fun r51=>ifW (!r51) (Y_ z_ a_1 true (fun (t67,z68)=>κ z68)) (jy (fun (nx108:((List (List ze))×σ_×Bool×Int)→Prop) ((xs101,z103,t106,t107):((List (List ze))×σ_×Bool×Int))=>ifW (decide (t107<4)) (jnW (fun ((z498,xs501,t503):(σ_×(List (List ze))×Bool))=>jz t107 1 (fun t505=>nx108 (xs501,z498,t503,t505))) (fun k504=>jnW (fun ((xs109,t112):((List ze)×Bool))=>jnW (fun (t232:Bool)=>ifW t232 (Y_ z103 (za.mk ([]) ([]) ([]) ([])) false (fun (t234,z235)=>κ z235)) (jnW (fun ((z363,xs366):(σ_×(List (List ze))))=>jnW (fun ((xs369,t372):((List ze)×Bool))=>zB xs366 t107 (fun e432=>ifW t106 (k504 (z363,(xs366.set (t107).toNat xs369),t372)) (k504 (z363,(xs366.set (t107).toNat xs369),false)))) (fun k373=>(zB ([a_1.x0,a_1.x1,a_1.x2,a_1.x3]) t107 (fun e374=>(zB ([b_2.x0,b_2.x1,b_2.x2,b_2.x3]) t107 (fun e379=>zG t107 (fun r384=>zH e374 e379 r384 (fun (r385,r387)=>k373 (r385,r387)))))∧(zG t107 (fun r388=>zB ([b_2.x0,b_2.x1,b_2.x2,b_2.x3]) t107 (fun e389=>zH e374 e389 r388 (fun (r394,r396)=>k373 (r394,r396)))))))∧(zB ([b_2.x0,b_2.x1,b_2.x2,b_2.x3]) t107 (fun e397=>(zB ([a_1.x0,a_1.x1,a_1.x2,a_1.x3]) t107 (fun e402=>zG t107 (fun r407=>zH e402 e397 r407 (fun (r385,r387)=>k373 (r385,r387)))))∧(zG t107 (fun r408=>zB ([a_1.x0,a_1.x1,a_1.x2,a_1.x3]) t107 (fun e409=>zH e409 e397 r408 (fun (r414,r416)=>k373 (r414,r416)))))))∧(zG t107 (fun r417=>(zB ([a_1.x0,a_1.x1,a_1.x2,a_1.x3]) t107 (fun e418=>zB ([b_2.x0,b_2.x1,b_2.x2,b_2.x3]) t107 (fun e423=>zH e418 e423 r417 (fun (r394,r396)=>k373 (r394,r396)))))∧(zB ([b_2.x0,b_2.x1,b_2.x2,b_2.x3]) t107 (fun e425=>zB ([a_1.x0,a_1.x1,a_1.x2,a_1.x3]) t107 (fun e430=>zH e430 e425 r417 (fun (r414,r416)=>k373 (r414,r416))))))))) (fun k368=>ifW (decide (0<(xs109.length:Int))) (zfK xs101 (fun e238 e239 e240 e241=>zB ([e238,e239,e240,e241]) t107 (fun e273=>zfK (([e238,e239,e240,e241]).set (t107).toNat xs109) (fun e279 e280 e281 e282=>Y_ z103 (za.mk e279 e280 e281 e282) true (fun (t299,z300)=>ifW (!t299) (κ z300) (k368 (z300,[e238,e239,e240,e241]))))))) (k368 (z103,xs101))))) (fun k233=>ifW (!t112) (k233 true) (ifW (decide (0<(xs109.length:Int))) (k233 (!t106)) (k233 false)))) (fun k113=>(zB ([a_1.x0,a_1.x1,a_1.x2,a_1.x3]) t107 (fun e114=>(zB ([b_2.x0,b_2.x1,b_2.x2,b_2.x3]) t107 (fun e119=>zG t107 (fun r124=>ju e114 e119 r124 (fun (r125,r127)=>k113 (r125,r127)))))∧(zG t107 (fun r128=>zB ([b_2.x0,b_2.x1,b_2.x2,b_2.x3]) t107 (fun e129=>ju e114 e129 r128 (fun (r134,r136)=>k113 (r134,r136)))))))∧(zB ([b_2.x0,b_2.x1,b_2.x2,b_2.x3]) t107 (fun e137=>(zB ([a_1.x0,a_1.x1,a_1.x2,a_1.x3]) t107 (fun e142=>zG t107 (fun r147=>ju e142 e137 r147 (fun (r125,r127)=>k113 (r125,r127)))))∧(zG t107 (fun r148=>zB ([a_1.x0,a_1.x1,a_1.x2,a_1.x3]) t107 (fun e149=>ju e149 e137 r148 (fun (r154,r156)=>k113 (r154,r156)))))))∧(zG t107 (fun r157=>(zB ([a_1.x0,a_1.x1,a_1.x2,a_1.x3]) t107 (fun e158=>zB ([b_2.x0,b_2.x1,b_2.x2,b_2.x3]) t107 (fun e163=>ju e158 e163 r157 (fun (r134,r136)=>k113 (r134,r136)))))∧(zB ([b_2.x0,b_2.x1,b_2.x2,b_2.x3]) t107 (fun e165=>zB ([a_1.x0,a_1.x1,a_1.x2,a_1.x3]) t107 (fun e170=>ju e170 e165 r157 (fun (r154,r156)=>k113 (r154,r156)))))))))) (κ z103)) ([a_1.x0,a_1.x1,a_1.x2,a_1.x3],z_,true,0)))))
def Vx (z:Option (List za)) (x:za) (ok:Bool) (κ:Bool×Option (List za)→Prop):Prop :=
 match z with
 | none=>False
 | some xs=>ifW ok (jw xs [x] (fun ys=>κ (true,some ys))) (κ (false,none))
def zlV:Option (List za)→List za×Bool
 | some xs=>(xs,true)
 | none=>([],false)
def yd (s_0:za) (other_1:za) (κ:((List za)×Bool)→Prop):Prop :=
 Xd Vx (some []) s_0 other_1 (fun r=>κ (zlV r))
def yB (u_0_chains:(List (List zt))) (u_0_flats:(List zj)) (u_0_over:Bool) (boxes_1:(List za)) (where_2:za) (κ:((List za)×(List za)×Bool)→Prop):Prop :=
 jy (fun (nx42:((List za)×(List za)×Int)→Prop) ((xs34,xs38,t41):((List za)×(List za)×Int))=>ifW (decide (t41<(boxes_1.length:Int))) (zB boxes_1 t41 (fun e43=>jnW (fun (xs252:(List za))=>yd e43 where_2 (fun (r286,r289)=>ifW (!r289) (κ ([],[],true)) (jw xs38 r286 (fun _=>jz t41 1 (fun t294=>nx42 (xs252,(xs38++r286),t294)))))) (fun k255=>uA e43 where_2 (fun r103=>ifW r103 (yr e43 where_2 (fun (r134,r143)=>ifW (!r143) (κ ([],[],true)) (jw xs34 ([r134]) (fun _=>k255 (xs34++([r134])))))) (k255 xs34))))) (xi u_0_chains u_0_flats u_0_over xs34 (fun (r295,r298)=>xi u_0_chains u_0_flats r298 xs38 (fun (r299,r302)=>κ (r295,r299,r302))))) ([],[],0)
def Zc (κ:za→Prop):Prop :=
 jy (fun (nx8:((List (List ze))×Int)→Prop) ((xs5,t7):((List (List ze))×Int))=>ifW (decide (t7<4)) (zG t7 (fun r9=>zB xs5 t7 (fun e12=>jz t7 1 (fun t18=>nx8 ((xs5.set (t7).toNat ([(ze.mk 0 r9)])),t18))))) (zfK xs5 (fun e19 e20 e21 e22=>κ (za.mk e19 e20 e21 e22)))) ([[],[],[],[]],0)
def uZ (t_0:jk) (κ:(List ze)→Prop):Prop :=
 ifW (!t_0.xNot) (κ ([(ze.mk t_0.xLo t_0.xHi)])) (jnW (fun (xs72:(List ze))=>jnW (fun (xs142:(List ze))=>κ xs142) (fun k145=>zG t_0.xField (fun r76=>ifW (decide (t_0.xHi<r76)) (jz t_0.xHi 1 (fun t77=>jw xs72 ([(ze.mk t77 r76)]) (fun _=>k145 (xs72++([(ze.mk t77 r76)]))))) (k145 xs72)))) (fun k75=>ifW (decide (0<t_0.xLo)) (Yi t_0.xLo 1 (fun t7=>jw ([]) ([(ze.mk 0 t7)]) (fun _=>k75 (([])++([(ze.mk 0 t7)]))))) (k75 ([]))))
def Xj (list_0:(List jk)) (κ:za→Prop):Prop :=
 Zc (fun r5=>jy (fun (nx32:((List (List ze))×Int)→Prop) ((xs29,t31):((List (List ze))×Int))=>ifW (decide (t31<(list_0.length:Int))) (zB list_0 t31 (fun e33=>jnW (fun (xs37:(List (List ze)))=>jz t31 1 (fun t76=>nx32 (xs37,t76))) (fun k39=>(zB xs29 e33.xField (fun e40=>uZ e33 (fun r46=>zG e33.xField (fun r48=>zH e40 r46 r48 (fun (r49,r51)=>zB xs29 e33.xField (fun e52=>k39 (xs29.set (e33.xField).toNat r49)))))))∧(uZ e33 (fun r69=>(zB xs29 e33.xField (fun e71=>zG e33.xField (fun r48=>zH e71 r69 r48 (fun (r49,r51)=>zB xs29 e33.xField (fun e52=>k39 (xs29.set (e33.xField).toNat r49))))))∧(zG e33.xField (fun r73=>zB xs29 e33.xField (fun e74=>zH e74 r69 r73 (fun (r49,r51)=>zB xs29 e33.xField (fun e52=>k39 (xs29.set (e33.xField).toNat r49))))))))))) (zfK xs29 (fun e77 e78 e79 e80=>κ (za.mk e77 e78 e79 e80)))) ([r5.x0,r5.x1,r5.x2,r5.x3],0))
def uM (s_0:(List za)) (n_1:Int) (κ:(List za)→Prop):Prop:=s_0=[]∧0≤n_1∧n_1≤4294967296∧κ []
def xd (slices_0:(List (List za))) (κ:(List za)→Prop):Prop :=
 jy (fun (nx6:(Int×Int)→Prop) ((t4,t5):(Int×Int))=>ifW (decide (t5<(slices_0.length:Int))) (zB slices_0 t5 (fun e7=>jz t4 (e7.length:Int) (fun t13=>ifW (decide (t13<0)) (False) (jz t5 1 (fun t14=>nx6 (t13,t14)))))) (uM ([]) t4 (fun r15=>jy (fun (nx23:((List za)×Int)→Prop) ((xs19,t22):((List za)×Int))=>ifW (decide (t22<(slices_0.length:Int))) (zB slices_0 t22 (fun e24=>jw xs19 e24 (fun _=>jz t22 1 (fun t32=>nx23 ((xs19++e24),t32))))) (κ xs19)) (r15,0)))) (0,0)
def uY (d_0:yb) (u_1_chains:(List (List zt))) (u_1_flats:(List zj)) (u_1_over:Bool) (__2:(List za)) (fitting_3:(List za)) (missing_4:(List za)) (κ:((List za)×(List zj)×Bool)→Prop):Prop :=
 jy (fun (nx23:((List zj)×Int)→Prop) ((xs19,t22):((List zj)×Int))=>ifW (decide (t22<(fitting_3.length:Int))) (zB fitting_3 t22 (fun e24=>jnW (fun (xs57:(List zj))=>jz t22 1 (fun t113=>nx23 (xs57,t113))) (fun k60=>jw xs19 ([(zj.mk e24 d_0.xAccept)]) (fun _=>k60 (xs19++([(zj.mk e24 d_0.xAccept)])))))) (jnW (fun (t174:Bool)=>κ (missing_4,xs19,t174)) (fun k175=>ifW (decide (60<(xs19.length:Int))) (k175 true) (k175 u_1_over)))) (u_1_flats,0)
def ZC (a_0:yc) (__1_chains:(List (List zt))) (__1_flats:(List zj)) (__1_over:Bool) (left_2:(List za)) (fitting_3:(List za)) (missing_4:(List za)) (κ:((List za)×(List za))→Prop):Prop :=
 jw left_2 fitting_3 (fun _=>κ (missing_4,(left_2++fitting_3)))
def Xa (a_0:ZJ) (__1_chains:(List (List zt))) (__1_flats:(List zj)) (__1_over:Bool) (__2:(List za)) (fitting_3:(List za)) (missing_4:(List za)) (κ:(List za)→Prop):Prop :=
 xd ([missing_4,fitting_3]) (fun r26=>κ r26)
def Xg (rec:(List (List zt))→(List zj)→Bool→Int→(List za)→(((List za)×(List zj)×Bool)→Prop)→Prop) (c_0:XA) (u_1_chains:(List (List zt))) (u_1_flats:(List zj)) (u_1_over:Bool) (__2:(List za)) (fitting_3:(List za)) (missing_4:(List za)) (κ:((List za)×(List zj)×Bool)→Prop):Prop :=
 rec u_1_chains u_1_flats u_1_over c_0.xChain fitting_3 (fun (r18,r21,r24)=>xd ([missing_4,r18]) (fun r33=>κ (r33,r21,r24)))
def yS (rec:((List (List zt))→(List zj)→Bool→Int→(List za)→(((List za)×(List zj)×Bool)→Prop)→Prop)) (u_0_chains:(List (List zt))) (u_0_flats:(List zj)) (u_0_over:Bool) (number_1:Int) (boxes_2:(List za)) (κ:((List za)×(List zj)×Bool)→Prop):Prop :=
 ifW (decide ((boxes_2.length:Int)=0)) (κ ([],u_0_flats,u_0_over)) (zB u_0_chains number_1 (fun e14=>jy (fun (nx34:((List za)×(List zj)×Bool×(List za)×Int)→Prop) ((xs21,xs25,t28,xs30,t33):((List za)×(List zj)×Bool×(List za)×Int))=>ifW (decide (t33<(e14.length:Int))) (jnW (fun ((xs171,xs174,t177,xs179):((List zj)×(List za)×Bool×(List za)))=>jz t33 1 (fun t183=>nx34 (xs174,xs171,t177,xs179,t183))) (fun k182=>zB e14 t33 (fun e35=>Xj e35.xTests (fun r46=>yB u_0_chains xs25 t28 xs30 r46 (fun (r55,r58,r61)=>ifW r61 (κ ([],xs25,r61)) (Ut e35 (fun r63=>uT.casesW r63 (fun x64=>uY x64 u_0_chains xs25 r61 xs21 r55 r58 (fun (r68,r71,r74)=>xi u_0_chains r71 r74 r68 (fun (r75,r78)=>ifW r78 (κ ([],r71,r78)) (k182 (r71,xs21,r78,r75))))) (fun x65=>Xg rec x65 u_0_chains xs25 r61 xs21 r55 r58 (fun (r80,r83,r86)=>xi u_0_chains r83 r86 r80 (fun (r87,r90)=>ifW r90 (κ ([],r83,r90)) (k182 (r83,xs21,r90,r87))))) (fun x66=>ZC (yc.mk ) u_0_chains xs25 r61 xs21 r55 r58 (fun (r92,r95)=>xi u_0_chains xs25 r61 r92 (fun (r98,r101)=>ifW r101 (κ ([],xs25,r101)) (k182 (xs25,r95,r101,r98))))) (fun x67=>Xa (ZJ.mk ) u_0_chains xs25 r61 xs21 r55 r58 (fun r103=>xi u_0_chains xs25 r61 r103 (fun (r106,r109)=>ifW r109 (κ ([],xs25,r109)) (k182 (xs25,xs21,r109,r106)))))))))))) (xd ([xs21,xs30]) (fun r192=>xi u_0_chains xs25 t28 r192 (fun (r195,r198)=>κ (r195,xs25,r198))))) ([],u_0_flats,u_0_over,boxes_2,0)))
def un:Nat→(List (List zt))→(List zj)→Bool→Int→(List za)→(((List za)×(List zj)×Bool)→Prop)→Prop
 | 0=>fun _ _ _ _ _ _=>False
 | n+1=>yS (un n)
def Y5 (u_0_chains:(List (List zt))) (u_0_flats:(List zj)) (u_0_over:Bool) (number_1:Int) (boxes_2:(List za)) (κ:((List za)×(List zj)×Bool)→Prop):Prop:=∃ n,un n u_0_chains u_0_flats u_0_over number_1 boxes_2 κ
def ZW (s_0:zR) (κ:((List zj)×Bool)→Prop):Prop :=
 Zc (fun r11=>Y5 s_0.xChains ([]) false 0 ([r11]) (fun (r35,r38,r41)=>κ (r38,(!r41))))
def YU (list_0:(List zj)) (rest_1:Bool) (κ:(List zj)→Prop):Prop :=
 jy (fun (nx5:Int→Prop) (t4:Int)=>jnW (fun (t69:Bool)=>ifW t69 (Yi t4 1 (fun t71=>nx5 t71)) (yY list_0 0 t4 (fun xs73=>κ xs73))) (fun k70=>ifW (decide (0<t4)) (Yi t4 1 (fun t6=>zB list_0 t6 (fun e7=>k70 (decide (e7.xAccept=rest_1))))) (k70 false))) (list_0.length:Int)
def ug (s_0:(List zj)) (κ:(List zj)→Prop):Prop :=
 zmv true s_0 (fun t4=>ifW t4 (κ ([])) (jw ([]) s_0 (fun _=>κ (([])++s_0))))
def yy (s_0:za) (other_1:za) (κ:Bool→Prop):Prop :=
 uR s_0 (fun r60=>ifW r60 (κ true) (jy (fun (nx62:Int→Prop) (t61:Int)=>ifW (decide (t61<4)) (jnW (fun (t63:Bool)=>ifW t63 (κ false) (jz t61 1 (fun t107=>nx62 t107))) (fun k64=>zB ([s_0.x0,s_0.x1,s_0.x2,s_0.x3]) t61 (fun e65=>zB ([other_1.x0,other_1.x1,other_1.x2,other_1.x3]) t61 (fun e67=>zG t61 (fun r77=>jh e65 e67 r77 (fun r78=>k64 (decide (0<(r78.length:Int))))))))) (κ true)) 0))
def jY (s1_0:(List ze)) (s2_1:(List ze)) (κ:Bool→Prop):Prop :=
 ifW (!(decide ((s1_0.length:Int)=(s2_1.length:Int)))) (κ false) (jy (fun (nx6:Int→Prop) (t5:Int)=>ifW (decide (t5<(s1_0.length:Int))) (zB s1_0 t5 (fun e7=>zB s2_1 t5 (fun e9=>ifW (!(decide (e7=e9))) (κ false) (jz t5 1 (fun t11=>nx6 t11))))) (κ true)) 0)
def Z1 (inA_0:Bool) (inB_1:Bool) (κ:Bool→Prop):Prop :=
 jnW (fun (t61:Bool)=>κ t61) (fun k62=>ifW inA_0 (k62 true) (k62 inB_1))
def uo (a_0:(List ze)) (b_1:(List ze)) (top_2:Int) (κ:(List ze)→Prop):Prop :=
 jy (fun (nx14:((List ze)×Int×Int×Int)→Prop) ((xs8,t11,t12,t13):((List ze)×Int×Int×Int))=>ifW (decide (t13≤top_2)) (jy (fun (nx16:Int→Prop) (t15:Int)=>jnW (fun (t79:Bool)=>ifW t79 (jz t15 1 (fun t81=>nx16 t81)) (jy (fun (nx83:Int→Prop) (t82:Int)=>jnW (fun (t146:Bool)=>ifW t146 (jz t82 1 (fun t148=>nx83 t148)) (yY a_0 t15 (a_0.length:Int) (fun xs150=>uB xs150 t13 top_2 (fun (r153,r154)=>yY b_1 t82 (b_1.length:Int) (fun xs156=>uB xs156 t13 top_2 (fun (r159,r160)=>jnW (fun (xs296:(List ze))=>jz (min r154 r160) 1 (fun t300=>nx14 (xs296,t15,t82,t300))) (fun k299=>Z1 r153 r159 (fun r161=>ifW r161 (jnW (fun (t226:Bool)=>ifW t226 (Yi (xs8.length:Int) 1 (fun t228=>zB xs8 t228 (fun e229=>k299 (xs8.set (t228).toNat (ze.mk e229.xLo (min r154 r160)))))) (jw xs8 ([(ze.mk t13 (min r154 r160))]) (fun _=>k299 (xs8++([(ze.mk t13 (min r154 r160))]))))) (fun k227=>ifW (decide (0<(xs8.length:Int))) (Yi (xs8.length:Int) 1 (fun t162=>zB xs8 t162 (fun e163=>jz e163.xHi 1 (fun t165=>k227 (decide (t165=t13)))))) (k227 false))) (k299 xs8))))))))) (fun k147=>ifW (decide (t82<(b_1.length:Int))) (zB b_1 t82 (fun e84=>k147 (decide (e84.xHi<t13)))) (k147 false))) t12)) (fun k80=>ifW (decide (t15<(a_0.length:Int))) (zB a_0 t15 (fun e17=>k80 (decide (e17.xHi<t13)))) (k80 false))) t11) (κ xs8)) ([],0,0,0)
def xQ (a_0:(List ze)) (b_1:(List ze)) (top_2:Int) (κ:((List ze)×Bool)→Prop):Prop :=
 uo a_0 b_1 top_2 (fun r6=>yt r6 (fun (r9,r12)=>κ (r9,r12)))
def u0 (a_0:za) (b_1:za) (κ:(za×Bool)→Prop):Prop :=
 yy a_0 b_1 (fun r77=>ifW r77 (κ (b_1,true)) (yy b_1 a_0 (fun r156=>ifW r156 (κ (a_0,true)) (jy (fun (nx208:(Int×Int×Int)→Prop) ((t205,t206,t207):(Int×Int×Int))=>ifW (decide (t207<4)) (jnW (fun ((t293,t294):(Int×Int))=>jz t207 1 (fun t296=>nx208 (t293,t294,t296))) (fun k295=>jnW (fun (t209:Bool)=>ifW t209 (jz t206 1 (fun t232=>k295 (t207,t232))) (k295 (t205,t206))) (fun k210=>zB ([a_0.x0,a_0.x1,a_0.x2,a_0.x3]) t207 (fun e211=>zB ([b_1.x0,b_1.x1,b_1.x2,b_1.x3]) t207 (fun e213=>jY e211 e213 (fun r223=>k210 (!r223))))))) (ifW (!(decide (t206=1))) (κ ((za.mk ([]) ([]) ([]) ([])),false)) (jnW (fun ((xs318,t321):((List ze)×Bool))=>ifW (!t321) (κ ((za.mk ([]) ([]) ([]) ([])),false)) (zB ([a_0.x0,a_0.x1,a_0.x2,a_0.x3]) t205 (fun e417=>zfK (([a_0.x0,a_0.x1,a_0.x2,a_0.x3]).set (t205).toNat xs318) (fun e423 e424 e425 e426=>κ ((za.mk e423 e424 e425 e426),true))))) (fun k322=>zB ([a_0.x0,a_0.x1,a_0.x2,a_0.x3]) t205 (fun e323=>zB ([b_1.x0,b_1.x1,b_1.x2,b_1.x3]) t205 (fun e325=>zG t205 (fun r335=>xQ e323 e325 r335 (fun (r336,r338)=>k322 (r336,r338))))))))) (0,0,0)))))
def x8 (s_0:(List zj)) (i_1:Int) (j_2:Int) (κ:(List zj)→Prop):Prop:=0≤i_1∧i_1≤j_2∧j_2≤(s_0.length:Int)∧κ (s_0.take i_1.toNat++s_0.drop j_2.toNat)
def yz (list_0:(List zj)) (κ:(List zj)→Prop):Prop :=
 ug list_0 (fun r4=>jy (fun (nx12:((List zj)×Int)→Prop) ((xs8,t11):((List zj)×Int))=>jz t11 1 (fun t13=>ifW (decide (t13<(xs8.length:Int))) (jnW (fun ((xs149,t151):((List (List ze))×Bool))=>ifW (!t151) (jz t11 1 (fun t153=>nx12 (xs8,t153))) (zfK xs149 (fun e154 e155 e156 e157=>zB xs8 t11 (fun e174=>jz t11 1 (fun t189=>jz t11 2 (fun t190=>x8 (xs8.set (t11).toNat (zj.mk (za.mk e154 e155 e156 e157) e174.xAccept)) t189 t190 (fun r191=>Yi t11 1 (fun t194=>nx12 (r191,(max t194 0)))))))))) (fun k152=>zB xs8 t11 (fun e17=>jz t11 1 (fun t19=>zB xs8 t19 (fun e20=>ifW (decide (e17.xAccept=e20.xAccept)) (jnW (fun ((xs22,t24):((List (List ze))×Bool))=>k152 (xs22,t24)) (fun k25=>zB xs8 t11 (fun e26=>zB xs8 (w64 (t11+1)) (fun e28=>u0 e26.xWhere e28.xWhere (fun (r50,r55)=>k25 ([r50.x0,r50.x1,r50.x2,r50.x3],r55)))))) (k152 ([[],[],[],[]],false))))))) (κ xs8))) (r4,0))
def X8 (list_0:(List zj)) (κ:(List za)→Prop):Prop :=
 V6 ((za.mk ([]) ([]) ([]) ([])):za) 0 (list_0.length:Int) (fun xs5=>jy (fun (nx12:((List za)×Int)→Prop) ((xs8,t11):((List za)×Int))=>ifW (decide (t11<(list_0.length:Int))) (zB list_0 t11 (fun e13=>jw xs8 ([e13.xWhere]) (fun _=>jz t11 1 (fun t46=>nx12 ((xs8++([e13.xWhere])),t46))))) (κ xs8)) (xs5,0))
def uS (s_0:za) (region_1:(List za)) (κ:((List za)×Bool)→Prop):Prop :=
 uR s_0 (fun r41=>ifW r41 (κ ([],true)) (jnW (fun (xs310:(List za))=>κ (xs310,true)) (fun k313=>jy (fun (nx77:((List za)×Int)→Prop) ((xs73,t76):((List za)×Int))=>ifW (decide (t76<(region_1.length:Int))) (zB region_1 t76 (fun e78=>jy (fun (nx114:((List za)×Int)→Prop) ((xs110,t113):((List za)×Int))=>ifW (decide (t113<(xs73.length:Int))) (zB xs73 t113 (fun e115=>yd e115 e78 (fun (r177,r180)=>jnW (fun (t242:Bool)=>ifW t242 (κ ([],false)) (jw xs110 r177 (fun _=>jz t113 1 (fun t247=>nx114 ((xs110++r177),t247))))) (fun k243=>ifW (!r180) (k243 true) (jz (xs110.length:Int) (r177.length:Int) (fun t181=>k243 (decide (400<t181)))))))) (ifW (decide ((xs110.length:Int)=0)) (k313 xs110) (jz t76 1 (fun t248=>nx77 (xs110,t248))))) ([],0))) (k313 xs73)) ([s_0],0))))
def X9 (list_0:(List zj)) (n_1:Int) (κ:((List za)×Bool)→Prop):Prop :=
 zB list_0 n_1 (fun e4=>yY list_0 0 n_1 (fun xs20=>X8 xs20 (fun r23=>uS e4.xWhere r23 (fun (r26,r29)=>κ (r26,r29)))))
def Uh (list_0:(List zj)) (κ:(List Int)→Prop):Prop :=
 jy (fun (nx10:((List Int)×Int)→Prop) ((xs6,t9):((List Int)×Int))=>ifW (decide (t9<(list_0.length:Int))) (jnW (fun (xs141:(List Int))=>jz t9 1 (fun t145=>nx10 (xs141,t145))) (fun k144=>X9 list_0 t9 (fun (r11,r14)=>jnW (fun (t75:Bool)=>ifW t75 (jw xs6 ([t9]) (fun _=>k144 (xs6++([t9])))) (k144 xs6)) (fun k76=>ifW r14 (k76 (decide ((r11.length:Int)=0))) (k76 false))))) (κ xs6)) ([],0)
def Z0 (list_0:(List zj)) (κ:(List zj)→Prop):Prop :=
 Uh list_0 (fun r4=>V6 ((zj.mk (za.mk ([]) ([]) ([]) ([])) false):zj) 0 (list_0.length:Int) (fun xs8=>jy (fun (nx19:((List Int)×(List zj)×Int)→Prop) ((xs11,xs15,t18):((List Int)×(List zj)×Int))=>ifW (decide (t18<(list_0.length:Int))) (jnW (fun ((xs180,xs184):((List zj)×(List Int)))=>jz t18 1 (fun t188=>nx19 (xs184,xs180,t188))) (fun k187=>zB list_0 t18 (fun e20=>jnW (fun (t111:Bool)=>ifW t111 (yY xs11 1 (xs11.length:Int) (fun xs114=>k187 (xs15,xs114))) (jw xs15 ([e20]) (fun _=>k187 ((xs15++([e20])),xs11)))) (fun k112=>ifW (decide (0<(xs11.length:Int))) (zB xs11 0 (fun e49=>k112 (decide (e49=t18)))) (k112 false))))) (κ xs15)) (r4,xs8,0)))
def Xp (list_0:(List zj)) (rest_1:Bool) (κ:(List zj)→Prop):Prop :=
 jy (fun (nx8:(List zj)→Prop) (xs5:(List zj))=>Z0 xs5 (fun r9=>yz r9 (fun r12=>YU r12 rest_1 (fun r15=>ifW (decide ((r15.length:Int)=(xs5.length:Int))) (κ r15) (nx8 r15))))) list_0
def uG (s_0:zR) (κ:((List zj)×Bool)→Prop):Prop :=
 Zy s_0 (fun r9=>ifW (!r9) (κ ([],false)) (ZW s_0 (fun (r11,r14)=>ifW (!r14) (κ ([],false)) (Xp r11 s_0.xAccept (fun r16=>κ (r16,true))))))
def yl (f_0_accepted:(List za)) (f_0_dropped:(List za)) (boxes_1:(List za)) (accept_2:Bool) (κ:(Bool×(List za)×(List za))→Prop):Prop :=
 jnW (fun ((xs79,xs82):((List za)×(List za)))=>jz (xs79.length:Int) (xs82.length:Int) (fun t92=>κ ((decide (t92≤400)),xs79,xs82))) (fun k85=>ifW accept_2 (jw f_0_accepted boxes_1 (fun _=>k85 ((f_0_accepted++boxes_1),f_0_dropped))) (jw f_0_dropped boxes_1 (fun _=>k85 (f_0_accepted,(f_0_dropped++boxes_1)))))
def Xx (list_0:(List zj)) (rest_1:Bool) (κ:(Zt×Bool)→Prop):Prop :=
 jy (fun (nx16:((List za)×(List za)×Int)→Prop) ((xs8,xs12,t15):((List za)×(List za)×Int))=>ifW (decide (t15<(list_0.length:Int))) (zB list_0 t15 (fun e17=>X9 list_0 t15 (fun (r46,r49)=>jnW (fun ((xs117,xs120,t123):((List za)×(List za)×Bool))=>ifW t123 (κ ((Zt.mk ([]) ([])),false)) (jz t15 1 (fun t127=>nx16 (xs117,xs120,t127)))) (fun k124=>ifW (!r49) (k124 (xs8,xs12,true)) (yl xs8 xs12 r46 e17.xAccept (fun (r50,r51,r54)=>k124 (r51,r54,(!r50)))))))) (Zc (fun r128=>X8 list_0 (fun r137=>uS r128 r137 (fun (r140,r143)=>jnW (fun ((xs211,xs214,t217):((List za)×(List za)×Bool))=>ifW t217 (κ ((Zt.mk ([]) ([])),false)) (κ ((Zt.mk xs211 xs214),true))) (fun k218=>ifW (!r143) (k218 (xs8,xs12,true)) (yl xs8 xs12 r140 rest_1 (fun (r144,r145,r148)=>k218 (r145,r148,(!r144)))))))))) ([],[],0)
def Z3 (a_0:(List zj)) (restA_1:Bool) (b_2:(List zj)) (restB_3:Bool) (κ:((List za)×Bool)→Prop):Prop :=
 Xx a_0 restA_1 (fun (r6,r11)=>Xx b_2 restB_3 (fun (r20,r25)=>jnW (fun (t94:Bool)=>ifW t94 (κ ([],false)) (jy (fun (nx103:((List za)×Int)→Prop) ((xs99,t102):((List za)×Int))=>ifW (decide (t102<(r6.xDropped.length:Int))) (zB r6.xDropped t102 (fun e104=>jy (fun (nx141:((List za)×Int)→Prop) ((xs137,t140):((List za)×Int))=>ifW (decide (t140<(r20.xAccepted.length:Int))) (jnW (fun (xs353:(List za))=>jz t140 1 (fun t357=>nx141 (xs353,t357))) (fun k356=>zB r20.xAccepted t140 (fun e142=>uA e104 e142 (fun r204=>ifW (!r204) (k356 xs137) (yr e104 e142 (fun (r235,r244)=>ifW (!r244) (κ ([],false)) (ifW (decide ((xs137.length:Int)=400)) (κ ([],false)) (jw xs137 ([r235]) (fun _=>k356 (xs137++([r235]))))))))))) (jz t102 1 (fun t358=>nx103 (xs137,t358)))) (xs99,0))) (κ (xs99,true))) ([],0))) (fun k95=>ifW (!r11) (k95 true) (k95 (!r25)))))
def ZX (old_0:zR) (next_1:zR) (κ:Int→Prop):Prop :=
 uG old_0 (fun (r15,r18)=>uG next_1 (fun (r19,r22)=>jnW (fun (t83:Bool)=>ifW t83 (κ 4) (Z3 r15 old_0.xAccept r19 next_1.xAccept (fun (r85,r88)=>Z3 r19 next_1.xAccept r15 old_0.xAccept (fun (r89,r92)=>jnW (fun (t153:Bool)=>ifW t153 (κ 4) (jnW (fun (t215:Bool)=>ifW t215 (κ 3) (ifW (decide (0<(r85.length:Int))) (κ 2) (ifW (decide (0<(r89.length:Int))) (κ 1) (κ 0)))) (fun k216=>ifW (decide (0<(r85.length:Int))) (k216 (decide (0<(r89.length:Int)))) (k216 false)))) (fun k154=>ifW (!r88) (k154 true) (k154 (!r92))))))) (fun k84=>ifW (!r18) (k84 true) (k84 (!r22)))))
def XZ (x_0:zt) (κ:zt→Prop):Prop :=
 jw ([]) x_0.xTests (fun _=>κ (zt.mk (([])++x_0.xTests) x_0.xAction x_0.xChain))
def Zi (list_0:(List zt)) (κ:(List zt)→Prop):Prop :=
 jy (fun (nx13:((List zt)×Int)→Prop) ((xs8,t12):((List zt)×Int))=>ifW (decide (t12<(list_0.length:Int))) (zB list_0 t12 (fun e14=>XZ e14 (fun r20=>jw xs8 ([r20]) (fun _=>jz t12 1 (fun t32=>nx13 ((xs8++([r20])),t32)))))) (κ xs8)) ([],0)
def XI (list_0:(List (List zt))) (κ:(List (List zt))→Prop):Prop :=
 jy (fun (nx13:((List (List zt))×Int)→Prop) ((xs8,t12):((List (List zt))×Int))=>ifW (decide (t12<(list_0.length:Int))) (zB list_0 t12 (fun e14=>Zi e14 (fun r20=>jw xs8 ([r20]) (fun _=>jz t12 1 (fun t33=>nx13 ((xs8++([r20])),t33)))))) (κ xs8)) ([],0)
def yw (x_0:zR) (κ:zR→Prop):Prop :=
 XI x_0.xChains (fun r12=>κ (zR.mk r12 x_0.xAccept))
def yj (n_0:Int) (lo_1:Int) (hi_2:Int) (κ:Bool→Prop):Prop :=
 jnW (fun (t61:Bool)=>κ t61) (fun k62=>ifW (decide (lo_1≤n_0)) (k62 (decide (n_0≤hi_2))) (k62 false))
def ZD (t_0:jk) (κ:Bool→Prop):Prop :=
 jnW (fun (t66:Bool)=>κ t66) (fun k67=>yj t_0.xField 0 3 (fun r3=>ifW r3 (yj t_0.xLo 0 t_0.xHi (fun r4=>ifW r4 (uj t_0.xField (fun r5=>k67 (decide (t_0.xHi≤r5)))) (k67 false))) (k67 false)))
def Zp (list_0:(List jk)) (κ:Bool→Prop):Prop :=
 jy (fun (nx4:Int→Prop) (t3:Int)=>ifW (decide (t3<(list_0.length:Int))) (zB list_0 t3 (fun e5=>ZD e5 (fun r7=>ifW (!r7) (κ false) (jz t3 1 (fun t8=>nx4 t8))))) (κ (decide ((list_0.length:Int)≤6)))) 0
def XX (r_0:zt) (κ:Bool→Prop):Prop :=
 jnW (fun (t71:Bool)=>κ t71) (fun k72=>Zp r_0.xTests (fun r8=>ifW r8 (yj r_0.xAction 1 5 (fun r9=>ifW r9 (ifW (decide (r_0.xAction=3)) (yj r_0.xChain 0 4 (fun r10=>ifW r10 (k72 true) (ifW (!(decide (r_0.xAction=3))) (k72 (decide (r_0.xChain=0))) (k72 false)))) (ifW (!(decide (r_0.xAction=3))) (k72 (decide (r_0.xChain=0))) (k72 false))) (k72 false))) (k72 false)))
def Xk (list_0:(List zt)) (κ:Bool→Prop):Prop :=
 jy (fun (nx4:Int→Prop) (t3:Int)=>ifW (decide (t3<(list_0.length:Int))) (zB list_0 t3 (fun e5=>XX e5 (fun r11=>ifW (!r11) (κ false) (jz t3 1 (fun t12=>nx4 t12))))) (κ (decide ((list_0.length:Int)≤8)))) 0
def YZ (s_0:zR) (κ:(List Int)→Prop):Prop :=
 V6 (false:Bool) (s_0.xChains.length:Int) (s_0.xChains.length:Int) (fun xs10=>jy (fun (nx21:((List Bool)×(List Int)×Int)→Prop) ((xs14,xs17,t20):((List Bool)×(List Int)×Int))=>ifW (decide (t20<(s_0.xChains.length:Int))) (jy (fun (nx29:((List Bool)×(List Int)×Int)→Prop) ((xs22,xs25,t28):((List Bool)×(List Int)×Int))=>ifW (decide (t28<(s_0.xChains.length:Int))) (jnW (fun ((xs190,xs192):((List Bool)×(List Int)))=>jz t28 1 (fun t196=>nx29 (xs190,xs192,t196))) (fun k195=>zB xs22 t28 (fun e30=>jy (fun (nx34:(Bool×Int)→Prop) ((t32,t33):(Bool×Int))=>zB s_0.xChains t28 (fun e35=>ifW (decide (t33<(e35.length:Int))) (jnW (fun (t120:Bool)=>jz t33 1 (fun t122=>nx34 (t120,t122))) (fun k121=>zB s_0.xChains t28 (fun e41=>zB e41 t33 (fun e47=>ifW t32 (ifW (!(decide (e47.xAction=3))) (k121 true) (zB xs22 e47.xChain (fun e58=>k121 e58))) (k121 false))))) (ifW t32 (zB xs22 t28 (fun e123=>jw xs25 ([t28]) (fun _=>k195 ((xs22.set (t28).toNat true),(xs25++([t28])))))) (k195 (xs22,xs25))))) ((!e30),0)))) (jz t20 1 (fun t197=>nx21 (xs22,xs25,t197)))) (xs14,xs17,0)) (κ xs17)) (xs10,[],0))
def Zz (s_0:zR) (κ:Bool→Prop):Prop :=
 jy (fun (nx9:Int→Prop) (t8:Int)=>ifW (decide (t8<(s_0.xChains.length:Int))) (zB s_0.xChains t8 (fun e10=>Xk e10 (fun r16=>ifW (!r16) (κ false) (jy (fun (nx18:Int→Prop) (t17:Int)=>zB s_0.xChains t8 (fun e19=>ifW (decide (t17<(e19.length:Int))) (zB s_0.xChains t8 (fun e25=>zB e25 t17 (fun e31=>ifW (decide ((s_0.xChains.length:Int)≤e31.xChain)) (κ false) (jz t17 1 (fun t33=>nx18 t33))))) (jz t8 1 (fun t34=>nx9 t34)))) 0)))) (jnW (fun (t99:Bool)=>κ t99) (fun k100=>yj (s_0.xChains.length:Int) 1 5 (fun r35=>ifW r35 (YZ s_0 (fun r36=>k100 (decide ((r36.length:Int)=(s_0.xChains.length:Int))))) (k100 false))))) 0
def xS (a_0:(List ze)) (b_1:(List ze)) (κ:(List ze)→Prop):Prop :=
 jy (fun (nx13:((List ze)×Int)→Prop) ((xs9,t12):((List ze)×Int))=>ifW (decide (t12<(a_0.length:Int))) (jy (fun (nx19:((List ze)×Int)→Prop) ((xs15,t18):((List ze)×Int))=>ifW (decide (t18<(b_1.length:Int))) (jnW (fun (xs92:(List ze))=>jz t18 1 (fun t96=>nx19 (xs92,t96))) (fun k95=>zB a_0 t12 (fun e20=>zB b_1 t18 (fun e22=>zB a_0 t12 (fun e24=>zB b_1 t18 (fun e26=>ifW (decide ((max e20.xLo e22.xLo)≤(min e24.xHi e26.xHi))) (jw xs15 ([(ze.mk (max e20.xLo e22.xLo) (min e24.xHi e26.xHi))]) (fun _=>k95 (xs15++([(ze.mk (max e20.xLo e22.xLo) (min e24.xHi e26.xHi))])))) (k95 xs15))))))) (jz t12 1 (fun t97=>nx13 (xs15,t97)))) (xs9,0)) (κ xs9)) ([],0)
def ZG (a_0:jd) (b_1:jd) (κ:jd→Prop):Prop :=
 jy (fun (nx25:((List (List ze))×Int)→Prop) ((xs20,t24):((List (List ze))×Int))=>ifW (decide (t24<4)) (jnW (fun (xs29:(List (List ze)))=>jz t24 1 (fun t64=>nx25 (xs29,t64))) (fun k33=>zB a_0.xSides t24 (fun e34=>zB b_1.xSides t24 (fun e39=>xS e34 e39 (fun r44=>jw xs20 ([r44]) (fun _=>k33 (xs20++([r44])))))))) (κ (jd.mk xs20))) ([],0)
def yv (b_0:jd) (κ:Bool→Prop):Prop :=
 jy (fun (nx9:Int→Prop) (t8:Int)=>ifW (decide (t8<(b_0.xSides.length:Int))) (zB b_0.xSides t8 (fun e10=>ifW (decide ((e10.length:Int)=0)) (κ true) (jz t8 1 (fun t16=>nx9 t16)))) (κ false)) 0
def yq (list_0:(List ze)) (top_1:Int) (κ:Bool→Prop):Prop :=
 jy (fun (nx4:Int→Prop) (t3:Int)=>ifW (decide (t3<(list_0.length:Int))) (jnW (fun (t79:Bool)=>ifW t79 (κ false) (jz t3 1 (fun t81=>nx4 t81))) (fun k80=>zB list_0 t3 (fun e5=>zB list_0 t3 (fun e7=>yj e5.xLo 0 e7.xHi (fun r9=>ifW (!r9) (k80 true) (zB list_0 t3 (fun e10=>yj e10.xHi 0 top_1 (fun r12=>ifW (!r12) (k80 true) (ifW (decide (0<t3)) (zB list_0 t3 (fun e13=>Yi t3 1 (fun t15=>zB list_0 t15 (fun e16=>jz e16.xHi 2 (fun t18=>k80 (decide (e13.xLo<t18))))))) (k80 false)))))))))) (jnW (fun (t143:Bool)=>κ t143) (fun k144=>yj top_1 0 65535 (fun r82=>ifW r82 (k144 (decide ((list_0.length:Int)≤40))) (k144 false))))) 0
def uN (b_0:jd) (κ:Bool→Prop):Prop :=
 jy (fun (nx9:Int→Prop) (t8:Int)=>ifW (decide (t8<(b_0.xSides.length:Int))) (jnW (fun (t78:Bool)=>ifW t78 (κ false) (jz t8 1 (fun t80=>nx9 t80))) (fun k79=>ifW (decide (4≤t8)) (k79 true) (zB b_0.xSides t8 (fun e10=>uj t8 (fun r16=>yq e10 r16 (fun r17=>k79 (!r17))))))) (κ (decide ((b_0.xSides.length:Int)=4)))) 0
def xE (list_0:(List jd)) (κ:Bool→Prop):Prop :=
 jy (fun (nx4:Int→Prop) (t3:Int)=>ifW (decide (t3<(list_0.length:Int))) (zB list_0 t3 (fun e5=>uN e5 (fun r11=>ifW (!r11) (κ false) (jz t3 1 (fun t12=>nx4 t12))))) (κ (decide ((list_0.length:Int)≤400)))) 0
def Yd (κ:jd→Prop):Prop :=
 jy (fun (nx11:((List (List ze))×Int)→Prop) ((xs6,t10):((List (List ze))×Int))=>ifW (decide (t10<4)) (jnW (fun (xs15:(List (List ze)))=>jz t10 1 (fun t41=>nx11 (xs15,t41))) (fun k19=>uj t10 (fun r20=>jw xs6 ([[(ze.mk 0 r20)]]) (fun _=>k19 (xs6++([[(ze.mk 0 r20)]])))))) (κ (jd.mk xs6))) ([],0)
def XD (a_0:(List ze)) (top_1:Int) (κ:(List ze)→Prop):Prop :=
 jy (fun (nx12:((List ze)×Int×Int)→Prop) ((xs7,t10,t11):((List ze)×Int×Int))=>ifW (decide (t11<(a_0.length:Int))) (jnW (fun (xs82:(List ze))=>zB a_0 t11 (fun e86=>jz e86.xHi 1 (fun t88=>jz t11 1 (fun t89=>nx12 (xs82,t88,t89))))) (fun k85=>zB a_0 t11 (fun e13=>ifW (decide (t10<e13.xLo)) (zB a_0 t11 (fun e15=>Yi e15.xLo 1 (fun t17=>jw xs7 ([(ze.mk t10 t17)]) (fun _=>k85 (xs7++([(ze.mk t10 t17)])))))) (k85 xs7)))) (jnW (fun (xs154:(List ze))=>κ xs154) (fun k157=>ifW (decide (t10≤top_1)) (jw xs7 ([(ze.mk t10 top_1)]) (fun _=>k157 (xs7++([(ze.mk t10 top_1)])))) (k157 xs7)))) ([],0,0)
def yf (t_0:jk) (κ:(List ze)→Prop):Prop :=
 ZD t_0 (fun r4=>ifW (!r4) (κ ([])) (ifW t_0.xNot (uj t_0.xField (fun r9=>XD ([(ze.mk t_0.xLo t_0.xHi)]) r9 (fun r10=>κ r10))) (κ ([(ze.mk t_0.xLo t_0.xHi)]))))
def Yl (list_0:(List jk)) (κ:jd→Prop):Prop :=
 Zp list_0 (fun r5=>ifW (!r5) (κ (jd.mk ([]))) (Yd (fun r7=>jy (fun (nx21:((List (List ze))×Int)→Prop) ((xs17,t20):((List (List ze))×Int))=>ifW (decide (t20<(list_0.length:Int))) (zB list_0 t20 (fun e22=>jnW (fun (xs27:(List (List ze)))=>jz t20 1 (fun t58=>nx21 (xs27,t58))) (fun k29=>zB list_0 t20 (fun e30=>(zB xs17 e22.xField (fun e32=>yf e30 (fun r38=>xS e32 r38 (fun r40=>zB xs17 e22.xField (fun e42=>k29 (xs17.set (e22.xField).toNat r40))))))∧(yf e30 (fun r54=>zB xs17 e22.xField (fun e56=>xS e56 r54 (fun r40=>zB xs17 e22.xField (fun e42=>k29 (xs17.set (e22.xField).toNat r40)))))))))) (κ (jd.mk xs17))) (r7.xSides,0))))
def ua (list_0:(List (List ze))) (κ:(List (List ze))→Prop):Prop :=
 jy (fun (nx13:((List (List ze))×Int)→Prop) ((xs8,t12):((List (List ze))×Int))=>ifW (decide (t12<(list_0.length:Int))) (zB list_0 t12 (fun e16=>jw ([]) e16 (fun _=>jw xs8 ([(([])++e16)]) (fun _=>jz t12 1 (fun t33=>nx13 ((xs8++([(([])++e16)])),t33)))))) (κ xs8)) ([],0)
def yE (a_0:jd) (b_1:jd) (κ:(List jd)→Prop):Prop :=
 ZG a_0 b_1 (fun r19=>yv r19 (fun r23=>ifW r23 (jnW (fun (xs89:(List jd))=>κ xs89) (fun k92=>yv a_0 (fun r24=>ifW (!r24) (jw ([]) ([a_0]) (fun _=>k92 (([])++([a_0])))) (k92 ([]))))) (jy (fun (nx105:((List (List ze))×(List jd)×Int)→Prop) ((xs96,xs100,t104):((List (List ze))×(List jd)×Int))=>ifW (decide (t104<4)) (zB xs96 t104 (fun e115=>zB b_1.xSides t104 (fun e121=>uj t104 (fun r127=>XD e121 r127 (fun r128=>xS e115 r128 (fun r131=>zB xs96 t104 (fun e134=>zB b_1.xSides t104 (fun e140=>xS e134 e140 (fun r146=>jnW (fun (xs231:(List jd))=>ua xs96 (fun r236=>zB r236 t104 (fun e245=>jz t104 1 (fun t252=>nx105 ((r236.set (t104).toNat r146),xs231,t252))))) (fun k235=>ifW (decide (0<(r131.length:Int))) (ua xs96 (fun r149=>zB r149 t104 (fun e158=>jw xs100 ([(jd.mk (r149.set (t104).toNat r131))]) (fun _=>k235 (xs100++([(jd.mk (r149.set (t104).toNat r131))])))))) (k235 xs100))))))))))) (κ xs100)) (a_0.xSides,[],0))))
def YK (rec:(zR→Int→(List jd)→(List zJ)→(((List jd)×Bool×(List zJ))→Prop)→Prop)) (s_0:zR) (chain_1:Int) (in_2:(List jd)) (out_3:(List zJ)) (κ:((List jd)×Bool×(List zJ))→Prop):Prop :=
 jy (fun (nx33:((List zJ)×(List jd)×(List jd)×Int)→Prop) ((xs20,xs24,xs28,t32):((List zJ)×(List jd)×(List jd)×Int))=>zB s_0.xChains chain_1 (fun e34=>ifW (decide (t32<(e34.length:Int))) (zB s_0.xChains chain_1 (fun e40=>zB e40 t32 (fun e46=>Yl e46.xTests (fun r63=>jy (fun (nx81:((List jd)×(List jd)×Int)→Prop) ((xs72,xs77,t80):((List jd)×(List jd)×Int))=>ifW (decide (t80<(xs24.length:Int))) (jnW (fun (xs182:(List jd))=>zB xs24 t80 (fun e195=>yE e195 r63 (fun r201=>jw xs77 r201 (fun _=>jz t80 1 (fun t206=>nx81 (xs182,(xs77++r201),t206)))))) (fun k186=>jnW (fun (xs90:(List (List ze)))=>yv (jd.mk xs90) (fun r112=>ifW (!r112) (jw xs72 ([(jd.mk xs90)]) (fun _=>k186 (xs72++([(jd.mk xs90)])))) (k186 xs72))) (fun k95=>zB xs24 t80 (fun e96=>ZG e96 r63 (fun r101=>k95 r101.xSides))))) (jnW (fun (t269:Bool)=>ifW t269 (κ (xs28,false,xs20)) (jnW (fun ((xs445,xs449,xs453):((List jd)×(List jd)×(List zJ)))=>jnW (fun (t519:Bool)=>ifW t519 (κ (xs445,false,xs453)) (jz t32 1 (fun t521=>nx33 (xs453,xs449,xs445,t521)))) (fun k520=>xE xs449 (fun r457=>ifW (!r457) (k520 true) (xE xs445 (fun r458=>ifW (!r458) (k520 true) (k520 (decide (60<(xs453.length:Int))))))))) (fun k456=>jnW (fun (t331:Bool)=>ifW t331 (jy (fun (nx338:((List zJ)×Int)→Prop) ((xs334,t337):((List zJ)×Int))=>ifW (decide (t337<(xs72.length:Int))) (jnW (fun (xs342:(List zJ))=>jz t337 1 (fun t370=>nx338 (xs342,t370))) (fun k345=>zB xs72 t337 (fun e346=>jw xs334 ([(zJ.mk e346 (decide (e46.xAction=1)))]) (fun _=>k345 (xs334++([(zJ.mk e346 (decide (e46.xAction=1)))])))))) (k456 (xs28,xs77,xs334))) (xs20,0)) (ifW (decide (e46.xAction=4)) (jw xs28 xs72 (fun _=>k456 ((xs28++xs72),xs77,xs20))) (ifW (decide (e46.xAction=3)) (rec s_0 e46.xChain xs72 xs20 (fun (r374,r377,r378)=>ifW (!r377) (κ (xs28,false,r378)) (jw xs77 r374 (fun _=>k456 (xs28,(xs77++r374),r378))))) (jw xs77 xs72 (fun _=>k456 (xs28,(xs77++xs72),xs20)))))) (fun k332=>ifW (decide (e46.xAction=1)) (k332 (decide (e46.xAction=1))) (k332 (decide (e46.xAction=2))))))) (fun k270=>xE xs72 (fun r207=>ifW (!r207) (k270 true) (xE xs77 (fun r208=>k270 (!r208))))))) ([],[],0))))) (jw xs28 xs24 (fun _=>xE (xs28++xs24) (fun r524=>κ ((xs28++xs24),r524,xs20)))))) (out_3,in_2,[],0)
def yM:Nat→zR→Int→(List jd)→(List zJ)→(((List jd)×Bool×(List zJ))→Prop)→Prop
 | 0=>fun _ _ _ _ _=>False
 | n+1=>YK (yM n)
def zaC (s_0:zR) (chain_1:Int) (in_2:(List jd)) (out_3:(List zJ)) (κ:((List jd)×Bool×(List zJ))→Prop):Prop:=∃ n,yM n s_0 chain_1 in_2 out_3 κ
def Uj (s_0:zR) (κ:((List zJ)×Bool)→Prop):Prop :=
 yw s_0 (fun r9=>Zz r9 (fun r24=>ifW (!r24) (κ ([],false)) (Yd (fun r25=>zaC r9 0 ([r25]) ([]) (fun (r35,r38,r39)=>ifW (!r38) (κ ([],false)) (κ (r39,true)))))))
def Z2 (x_0:jd) (κ:jd→Prop):Prop :=
 ua x_0.xSides (fun r12=>κ (jd.mk r12))
def XR (x_0:zJ) (κ:zJ→Prop):Prop :=
 Z2 x_0.xWhere (fun r12=>κ (zJ.mk r12 x_0.xAccept))
def ub (list_0:(List zJ)) (κ:(List zJ)→Prop):Prop :=
 jy (fun (nx13:((List zJ)×Int)→Prop) ((xs8,t12):((List zJ)×Int))=>ifW (decide (t12<(list_0.length:Int))) (zB list_0 t12 (fun e14=>XR e14 (fun r20=>jw xs8 ([r20]) (fun _=>jz t12 1 (fun t33=>nx13 ((xs8++([r20])),t33)))))) (κ xs8)) ([],0)
def uI (list_0:(List zJ)) (κ:Bool→Prop):Prop :=
 jy (fun (nx4:Int→Prop) (t3:Int)=>ifW (decide (t3<(list_0.length:Int))) (zB list_0 t3 (fun e5=>uN e5.xWhere (fun r11=>ifW (!r11) (κ false) (jz t3 1 (fun t12=>nx4 t12))))) (κ (decide ((list_0.length:Int)≤60)))) 0
def Yr (list_0:(List zJ)) (rest_1:Bool) (κ:(List zJ)→Prop):Prop :=
 ub list_0 (fun r4=>uI r4 (fun r8=>ifW (!r8) (κ ([])) (jy (fun (nx13:Int→Prop) (t12:Int)=>jnW (fun (t77:Bool)=>ifW t77 (Yi t12 1 (fun t79=>nx13 t79)) (yY r4 0 t12 (fun xs84=>jw ([]) xs84 (fun _=>κ (([])++xs84))))) (fun k78=>ifW (decide (0<t12)) (Yi t12 1 (fun t14=>zB r4 t14 (fun e15=>k78 (decide (e15.xAccept=rest_1))))) (k78 false))) (r4.length:Int))))
def ZK (a_0:jd) (b_1:jd) (κ:Bool→Prop):Prop :=
 jnW (fun (t80:Bool)=>κ t80) (fun k81=>uN a_0 (fun r15=>ifW r15 (uN b_1 (fun r16=>ifW r16 (yE a_0 b_1 (fun r17=>k81 (decide ((r17.length:Int)=0)))) (k81 false))) (k81 false)))
def YM (a_0:(List ze)) (b_1:(List ze)) (κ:Bool→Prop):Prop :=
 ifW (!(decide ((a_0.length:Int)=(b_1.length:Int)))) (κ false) (jy (fun (nx6:Int→Prop) (t5:Int)=>ifW (decide (t5<(a_0.length:Int))) (zB a_0 t5 (fun e7=>zB b_1 t5 (fun e9=>ifW (!(decide (e7=e9))) (κ false) (jz t5 1 (fun t11=>nx6 t11))))) (κ true)) 0)
def UJ (list_0:(List ze)) (s_1:ze) (κ:(List ze)→Prop):Prop :=
 jy (fun (nx16:(Int×Int×(List ze)×Bool×Int)→Prop) ((t8,t9,xs11,t14,t15):(Int×Int×(List ze)×Bool×Int))=>ifW (decide (t15<(list_0.length:Int))) (jnW (fun ((xs160,t163,t164,t165):((List ze)×Int×Int×Bool))=>jz t15 1 (fun t167=>nx16 (t163,t164,xs160,t165,t167))) (fun k166=>zB list_0 t15 (fun e17=>jz e17.xHi 1 (fun t21=>ifW (decide (t21<t8)) (jw xs11 ([e17]) (fun _=>k166 ((xs11++([e17])),t8,t9,t14))) (jz t9 1 (fun t26=>ifW (decide (t26<e17.xLo)) (jnW (fun ((xs91,t94):((List ze)×Bool))=>jw xs91 ([e17]) (fun _=>k166 ((xs91++([e17])),t8,t9,t94))) (fun k95=>ifW (!t14) (jw xs11 ([(ze.mk t8 t9)]) (fun _=>k95 ((xs11++([(ze.mk t8 t9)])),true))) (k95 (xs11,t14)))) (k166 (xs11,(min t8 e17.xLo),(max t9 e17.xHi),t14)))))))) (jnW (fun (xs232:(List ze))=>κ xs232) (fun k235=>ifW (!t14) (jw xs11 ([(ze.mk t8 t9)]) (fun _=>k235 (xs11++([(ze.mk t8 t9)])))) (k235 xs11)))) (s_1.xLo,s_1.xHi,[],false,0)
def Xn (a_0:(List ze)) (b_1:(List ze)) (top_2:Int) (κ:(List ze)→Prop):Prop :=
 jnW (fun (t68:Bool)=>ifW t68 (κ ([])) (jw ([]) a_0 (fun _=>jy (fun (nx81:((List ze)×Int)→Prop) ((xs77,t80):((List ze)×Int))=>ifW (decide (t80<(b_1.length:Int))) (zB b_1 t80 (fun e82=>UJ xs77 e82 (fun r84=>jz t80 1 (fun t87=>nx81 (r84,t87))))) (ifW (decide (40<(xs77.length:Int))) (κ ([])) (κ xs77))) ((([])++a_0),0)))) (fun k69=>yq a_0 top_2 (fun r6=>ifW (!r6) (k69 true) (yq b_1 top_2 (fun r7=>k69 (!r7)))))
def Zf (a_0:jd) (b_1:jd) (κ:(jd×Bool)→Prop):Prop :=
 jnW (fun (t79:Bool)=>ifW t79 (κ ((jd.mk ([])),false)) (ZK a_0 b_1 (fun r82=>ifW r82 (Z2 b_1 (fun r83=>κ (r83,true))) (ZK b_1 a_0 (fun r90=>ifW r90 (Z2 a_0 (fun r91=>κ (r91,true))) (jy (fun (nx100:(Int×Int)→Prop) ((t98,t99):(Int×Int))=>ifW (decide (t99<4)) (jnW (fun (t174:Int)=>jz t99 1 (fun t176=>nx100 (t174,t176))) (fun k175=>zB a_0.xSides t99 (fun e101=>zB b_1.xSides t99 (fun e107=>YM e101 e107 (fun r113=>ifW (!r113) (ifW (decide (0≤t98)) (κ ((jd.mk ([])),false)) (k175 t99)) (k175 t98)))))) (ua a_0.xSides (fun r177=>zB a_0.xSides t98 (fun e186=>zB b_1.xSides t98 (fun e192=>uj t98 (fun r198=>Xn e186 e192 r198 (fun r199=>zB r177 t98 (fun e202=>zB (r177.set (t98).toNat r199) t98 (fun e209=>ifW (decide ((e209.length:Int)=0)) (κ ((jd.mk ([])),false)) (κ ((jd.mk (r177.set (t98).toNat r199)),true))))))))))) ((-1),0))))))) (fun k80=>uN a_0 (fun r17=>ifW (!r17) (k80 true) (uN b_1 (fun r18=>k80 (!r18)))))
def YT (list_0:(List zJ)) (κ:(Int×zJ)→Prop):Prop :=
 jy (fun (nx6:Int→Prop) (t5:Int)=>jz t5 1 (fun t7=>ifW (decide (t7<(list_0.length:Int))) (jnW (fun ((xs8,t12):((List (List ze))×Bool))=>jnW (fun (t103:Bool)=>ifW t103 (zB list_0 t5 (fun e108=>κ (t5,(zJ.mk (jd.mk xs8) e108.xAccept)))) (jz t5 1 (fun t110=>nx6 t110))) (fun k104=>ifW t12 (zB list_0 t5 (fun e38=>jz t5 1 (fun t40=>zB list_0 t40 (fun e41=>k104 (decide (e38.xAccept=e41.xAccept)))))) (k104 false))) (fun k13=>zB list_0 t5 (fun e14=>zB list_0 (w64 (t5+1)) (fun e19=>Zf e14.xWhere e19.xWhere (fun (r24,r26)=>k13 (r24.xSides,r26)))))) (κ ((-1),(zJ.mk (jd.mk ([])) false))))) 0
def Xi (list_0:(List zJ)) (κ:(List zJ)→Prop):Prop :=
 ub list_0 (fun r4=>uI r4 (fun r8=>ifW (!r8) (κ ([])) (jw ([]) r4 (fun _=>jy (fun (nx22:(List zJ)→Prop) (xs19:(List zJ))=>YT xs19 (fun (r23,r24)=>ifW (decide (r23<0)) (κ xs19) (jz r23 2 (fun t35=>yY xs19 t35 (xs19.length:Int) (fun xs37=>jw ([]) xs37 (fun _=>jnW (fun (xs49:(List zJ))=>nx22 xs49) (fun k52=>yY xs19 0 r23 (fun xs56=>jw ([]) xs56 (fun _=>jw (([])++xs56) ([r24]) (fun _=>jw ((([])++xs56)++([r24])) (([])++xs37) (fun _=>k52 (((([])++xs56)++([r24]))++(([])++xs37))))))))))))) (([])++r4)))))
def YQ (b_0:jd) (list_1:(List jd)) (κ:((List jd)×Bool)→Prop):Prop :=
 jnW (fun (xs79:(List jd))=>jy (fun (nx88:((List jd)×Int)→Prop) ((xs84,t87):((List jd)×Int))=>ifW (decide (t87<(list_1.length:Int))) (jy (fun (nx97:((List jd)×Int)→Prop) ((xs93,t96):((List jd)×Int))=>ifW (decide (t96<(xs84.length:Int))) (zB xs84 t96 (fun e98=>zB list_1 t87 (fun e100=>yE e98 e100 (fun r112=>jw xs93 r112 (fun _=>jz t96 1 (fun t117=>nx97 ((xs93++r112),t117))))))) (xE xs93 (fun r118=>ifW (!r118) (κ ([],false)) (jz t87 1 (fun t122=>nx88 (xs93,t122)))))) ([],0)) (κ (xs84,true))) (xs79,0)) (fun k82=>yv b_0 (fun r14=>ifW (!r14) (jw ([]) ([b_0]) (fun _=>k82 (([])++([b_0])))) (k82 ([]))))
def XW (list_0:(List zJ)) (κ:(List jd)→Prop):Prop :=
 ub list_0 (fun r4=>jy (fun (nx16:((List jd)×Int)→Prop) ((xs12,t15):((List jd)×Int))=>jnW (fun (t78:Bool)=>ifW t78 (zB r4 t15 (fun e80=>jw xs12 ([e80.xWhere]) (fun _=>jz t15 1 (fun t95=>nx16 ((xs12++([e80.xWhere])),t95))))) (κ xs12)) (fun k79=>ifW (decide (t15<(r4.length:Int))) (uI r4 (fun r17=>k79 r17)) (k79 false))) ([],0))
def Y2 (list_0:(List zJ)) (k_1:Int) (κ:Bool→Prop):Prop :=
 zB list_0 k_1 (fun e3=>yY list_0 0 k_1 (fun xs10=>XW xs10 (fun r13=>YQ e3.xWhere r13 (fun (r16,r19)=>jnW (fun (t80:Bool)=>κ t80) (fun k81=>ifW r19 (k81 (decide ((r16.length:Int)=0))) (k81 false))))))
def Yo (list_0:(List zJ)) (κ:(List zJ)→Prop):Prop :=
 ub list_0 (fun r4=>jy (fun (nx18:((List zJ)×(List zJ)×Int)→Prop) ((xs11,xs14,t17):((List zJ)×(List zJ)×Int))=>jnW (fun (t80:Bool)=>ifW t80 (jnW (fun (xs158:(List zJ))=>jz t17 1 (fun t162=>nx18 (xs11,xs158,t162))) (fun k161=>Y2 xs11 t17 (fun r82=>ifW (!r82) (zB xs11 t17 (fun e83=>jw xs14 ([e83]) (fun _=>k161 (xs14++([e83]))))) (k161 xs14)))) (κ xs14)) (fun k81=>ifW (decide (t17<(xs11.length:Int))) (uI xs11 (fun r19=>k81 r19)) (k81 false))) (r4,[],0))
def YY (list_0:(List zJ)) (rest_1:Bool) (κ:(List zJ)→Prop):Prop :=
 ub list_0 (fun r4=>uI r4 (fun r8=>ifW (!r8) (κ ([])) (jw ([]) r4 (fun _=>jy (fun (nx22:(List zJ)→Prop) (xs19:(List zJ))=>Yo xs19 (fun r23=>Xi r23 (fun r26=>Yr r26 rest_1 (fun r29=>ifW (decide ((r29.length:Int)=(xs19.length:Int))) (κ r29) (nx22 r29))))) (([])++r4)))))
def XE (s_0:zR) (κ:((List zJ)×Bool)→Prop):Prop :=
 yw s_0 (fun r9=>Uj r9 (fun (r16,r19)=>ifW (!r19) (κ ([],false)) (YY r16 r9.xAccept (fun r23=>κ (r23,true)))))
def Uc (list_0:(List ze)) (n_1:Int) (κ:Bool→Prop):Prop :=
 jy (fun (nx4:Int→Prop) (t3:Int)=>ifW (decide (t3<(list_0.length:Int))) (zB list_0 t3 (fun e5=>jnW (fun (t69:Bool)=>ifW t69 (κ true) (jz t3 1 (fun t71=>nx4 t71))) (fun k70=>ifW (decide (e5.xLo≤n_1)) (k70 (decide (n_1≤e5.xHi))) (k70 false)))) (κ false)) 0
def UD (κ:Bool→Prop):Prop :=
 Uc ([(ze.mk 2 4)]) 3 (fun r3=>κ r3)
def ZI (s_0:za) (κ:jd→Prop):Prop :=
 V6 ([]:(List ze)) 4 4 (fun xs26=>jy (fun (nx55:((List (List ze))×Int)→Prop) ((xs50,t54):((List (List ze))×Int))=>ifW (decide (t54<4)) (zB ([s_0.x0,s_0.x1,s_0.x2,s_0.x3]) t54 (fun e57=>jw ([]) e57 (fun _=>zB xs50 t54 (fun e66=>jz t54 1 (fun t73=>nx55 ((xs50.set (t54).toNat (([])++e57)),t73)))))) (κ (jd.mk xs50))) (xs26,0))
def Ym (list_0:(List zj)) (κ:(List zJ)→Prop):Prop :=
 V6 ((zJ.mk (jd.mk ([])) false):zJ) 0 (list_0.length:Int) (fun xs5=>jy (fun (nx14:((List zJ)×Int)→Prop) ((xs9,t13):((List zJ)×Int))=>ifW (decide (t13<(list_0.length:Int))) (zB list_0 t13 (fun e15=>ZI e15.xWhere (fun r44=>jw xs9 ([(zJ.mk r44 e15.xAccept)]) (fun _=>jz t13 1 (fun t57=>nx14 ((xs9++([(zJ.mk r44 e15.xAccept)])),t57)))))) (κ xs9)) (xs5,0))
def Xz (s_0:zR) (κ:((List zJ)×Bool)→Prop):Prop :=
 uG s_0 (fun (r9,r12)=>ifW (!r12) (κ ([],false)) (Ym r9 (fun r14=>κ (r14,true))))
def Yk (top_0:Int) (κ:Bool→Prop):Prop :=
 jnW (fun (t61:Bool)=>κ t61) (fun k62=>ifW (decide (0≤top_0)) (k62 (decide (top_0≤65535))) (k62 false))
def Xr (list_0:(List ze)) (top_1:Int) (κ:Bool→Prop):Prop :=
 jnW (fun (t64:Bool)=>ifW t64 (κ false) (jy (fun (nx68:(Int×Int)→Prop) ((t66,t67):(Int×Int))=>ifW (decide (t67<(list_0.length:Int))) (zB list_0 t67 (fun e69=>jnW (fun (t134:Bool)=>ifW t134 (κ false) (jz t67 1 (fun t136=>nx68 (e69.xHi,t136)))) (fun k135=>jz t66 1 (fun t73=>ifW (decide (e69.xLo≤t73)) (k135 true) (ifW (decide (e69.xHi<e69.xLo)) (k135 true) (k135 (decide (top_1<e69.xHi)))))))) (κ true)) ((-2),0))) (fun k65=>Yk top_1 (fun r3=>ifW (!r3) (k65 true) (k65 (decide (40<(list_0.length:Int))))))
def Z6 (b_0:jd) (κ:Bool→Prop):Prop :=
 ifW (!(decide ((b_0.xSides.length:Int)=4))) (κ false) (jy (fun (nx9:Int→Prop) (t8:Int)=>ifW (decide (t8<(b_0.xSides.length:Int))) (zB b_0.xSides t8 (fun e10=>zG t8 (fun r16=>Xr e10 r16 (fun r17=>ifW (!r17) (κ false) (jz t8 1 (fun t18=>nx9 t18)))))) (κ true)) 0)
def Xt (list_0:(List zJ)) (κ:Bool→Prop):Prop :=
 ifW (decide (60<(list_0.length:Int))) (κ false) (jy (fun (nx4:Int→Prop) (t3:Int)=>ifW (decide (t3<(list_0.length:Int))) (zB list_0 t3 (fun e5=>Z6 e5.xWhere (fun r16=>ifW (!r16) (κ false) (jz t3 1 (fun t17=>nx4 t17))))) (κ true)) 0)
def UY (b_0:jd) (κ:za→Prop):Prop :=
 zmo b_0.xSides (fun e10 e11 e12 e13=>κ (za.mk e10 e11 e12 e13))
def Yn (b_0:jd) (κ:((List jk)×Bool)→Prop):Prop :=
 jnW (fun (t80:Bool)=>ifW t80 (κ ([],false)) (jy (fun (nx89:((List jk)×Int)→Prop) ((xs85,t88):((List jk)×Int))=>ifW (decide (t88<(b_0.xSides.length:Int))) (jnW (fun (xs307:(List jk))=>jz t88 1 (fun t311=>nx89 (xs307,t311))) (fun k310=>zB b_0.xSides t88 (fun e90=>zB zE t88 (fun e96=>jnW (fun (t160:Bool)=>ifW t160 (k310 xs85) (ifW (decide ((e90.length:Int)=1)) (zB e90 0 (fun e162=>zB e90 0 (fun e164=>jw xs85 ([(jk.mk t88 e162.xLo e164.xHi false)]) (fun _=>k310 (xs85++([(jk.mk t88 e162.xLo e164.xHi false)])))))) (jnW (fun (t234:Bool)=>ifW t234 (zB e90 0 (fun e236=>jz e236.xHi 1 (fun t238=>zB e90 1 (fun e239=>Yi e239.xLo 1 (fun t241=>jw xs85 ([(jk.mk t88 t238 t241 true)]) (fun _=>k310 (xs85++([(jk.mk t88 t238 t241 true)])))))))) (κ ([],false))) (fun k235=>ifW (decide ((e90.length:Int)=2)) (zB e90 0 (fun e170=>ifW (decide (e170.xLo=0)) (zB e90 1 (fun e172=>k235 (decide (e172.xHi=e96.xTop)))) (k235 false))) (k235 false))))) (fun k161=>ifW (decide ((e90.length:Int)=1)) (zB e90 0 (fun e98=>k161 (decide (e98=(ze.mk 0 e96.xTop))))) (k161 false)))))) (κ (xs85,true))) ([],0))) (fun k81=>Z6 b_0 (fun r9=>ifW (!r9) (k81 true) (UY b_0 (fun r10=>uR r10 (fun r19=>k81 r19)))))
def ZU (list_0:(List zJ)) (rest_1:Bool) (κ:(zR×Bool)→Prop):Prop :=
 jnW (fun (t66:Bool)=>ifW t66 (κ ((zR.mk ([]) false),false)) (V6 ((zt.mk ([]) 0 0):zt) 0 (list_0.length:Int) (fun xs70=>jy (fun (nx79:((List zt)×Int)→Prop) ((xs74,t78):((List zt)×Int))=>ifW (decide (t78<(list_0.length:Int))) (zB list_0 t78 (fun e80=>Yn e80.xWhere (fun (r91,r94)=>jnW (fun (t155:Bool)=>ifW t155 (κ ((zR.mk ([]) false),false)) (jnW (fun (t218:Int)=>jw xs74 ([(zt.mk r91 t218 0)]) (fun _=>jz t78 1 (fun t229=>nx79 ((xs74++([(zt.mk r91 t218 0)])),t229)))) (fun k219=>ifW e80.xAccept (k219 1) (k219 2)))) (fun k156=>ifW (!r94) (k156 true) (k156 (decide (6<(r91.length:Int)))))))) (κ ((zR.mk ([xs74]) rest_1),true))) (xs70,0)))) (fun k67=>ifW (decide (8<(list_0.length:Int))) (k67 true) (Xt list_0 (fun r5=>k67 (!r5))))
def Ys (code_0:(List UInt8)) (κ:zR→Prop):Prop :=
 YO code_0 (fun (r7,r10)=>Zn r7 r10 14 (fun (r11,r15)=>κ r11))
def XY (a_0:(List ze)) (b_1:(List ze)) (κ:Bool→Prop):Prop :=
 ifW (!(decide ((a_0.length:Int)=(b_1.length:Int)))) (κ false) (jy (fun (nx6:Int→Prop) (t5:Int)=>ifW (decide (t5<(a_0.length:Int))) (zB a_0 t5 (fun e7=>zB b_1 t5 (fun e9=>ifW (!(decide (e7=e9))) (κ false) (jz t5 1 (fun t11=>nx6 t11))))) (κ true)) 0)
def YX (a_0:jd) (b_1:jd) (κ:Bool→Prop):Prop :=
 ifW (!(decide ((a_0.xSides.length:Int)=(b_1.xSides.length:Int)))) (κ false) (jy (fun (nx16:Int→Prop) (t15:Int)=>ifW (decide (t15<(a_0.xSides.length:Int))) (zB a_0.xSides t15 (fun e17=>zB b_1.xSides t15 (fun e23=>XY e17 e23 (fun r29=>ifW (!r29) (κ false) (jz t15 1 (fun t30=>nx16 t30)))))) (κ true)) 0)
def XO (a_0:(List zJ)) (b_1:(List zJ)) (κ:Bool→Prop):Prop :=
 ifW (!(decide ((a_0.length:Int)=(b_1.length:Int)))) (κ false) (jy (fun (nx6:Int→Prop) (t5:Int)=>ifW (decide (t5<(a_0.length:Int))) (jnW (fun (t84:Bool)=>ifW t84 (κ false) (jz t5 1 (fun t86=>nx6 t86))) (fun k85=>zB a_0 t5 (fun e7=>zB b_1 t5 (fun e9=>ifW (!(decide (e7.xAccept=e9.xAccept))) (k85 true) (zB a_0 t5 (fun e11=>zB b_1 t5 (fun e17=>YX e11.xWhere e17.xWhere (fun r23=>k85 (!r23))))))))) (κ true)) 0)
def ZN (code_0:(List UInt8)) (κ:Bool→Prop):Prop :=
 ifW (decide (1048576<(code_0.length:Int))) (κ true) (Ys code_0 (fun r3=>Xz r3 (fun (r12,r16)=>XE r3 (fun (r17,r20)=>jnW (fun (t82:Bool)=>ifW t82 (κ false) (ZU r12 r3.xAccept (fun (r84,r88)=>jnW (fun (t154:Bool)=>ifW t154 (UD (fun r156=>κ r156)) (ZX r3 r84 (fun r157=>jnW (fun (t218:Bool)=>κ t218) (fun k219=>ifW (decide (r157=0)) (k219 true) (k219 (decide (r157=4))))))) (fun k155=>ifW (!r16) (k155 true) (k155 (!r88)))))) (fun k83=>XO r12 r17 (fun r21=>ifW (!r21) (k83 true) (k83 (!(decide (r16=r20))))))))))
end
section
open Go Go.Proofs
def NF (l:List ze):Prop:=(∀ s∈l,s.xLo≤s.xHi)∧l.Pairwise (fun a b=>a.xHi+1<b.xLo)
def hv (l:List ze) (x:Int):Prop:=∃ s∈l,s.xLo≤x∧x≤s.xHi
theorem zhd:NF []:=⟨by simp,by simp⟩
theorem uP (x:Int):¬ hv [] x:=by simp [hv]
theorem x7 (s:ze) (l:List ze) (x:Int):hv (s :: l) x↔(s.xLo≤x∧x≤s.xHi)∨hv l x:=by simp [hv]
theorem Vj (l m:List ze) (x:Int):hv (l++m) x↔hv l x∨hv m x:=by
 simp only [hv,List.mem_append]
 constructor
 ·rintro ⟨s,h | h,e⟩
  ·exact .inl ⟨s,h,e⟩
  ·exact .inr ⟨s,h,e⟩
 ·rintro (⟨s,h,e⟩ | ⟨s,h,e⟩)
  ·exact ⟨s,.inl h,e⟩
  ·exact ⟨s,.inr h,e⟩
theorem U7 {s:ze} {l:List ze} (h:NF (s :: l)):NF l:=⟨fun t ht=>h.1 t (List.mem_cons_of_mem _ ht),(List.pairwise_cons.1 h.2).2⟩
theorem zcF {s:ze} {l:List ze} (h:NF (s :: l)) {x:Int} (hx:hv l x):s.xHi+1<x:=by
 obtain ⟨t,ht,e1,_⟩:=hx
 have:=(List.pairwise_cons.1 h.2).1 t ht
 omega
theorem zbG {s:ze} {l:List ze} (h:NF (s :: l)) {x:Int} (hx:hv (s :: l) x):s.xLo≤x:=by
 rcases (x7 _ _ _).1 hx with e | e
 ·exact e.1
 ·have:=zcF h e
  have:=h.1 s (by simp)
  omega
theorem Vf {l m:List ze} (hl:NF l) (hm:NF m) (h:∀ s∈l,∀ t∈m,s.xHi+1<t.xLo):NF (l++m) :=
 ⟨fun s hs=>(List.mem_append.1 hs).elim (hl.1 s) (hm.1 s),List.pairwise_append.2 ⟨hl.2,hm.2,h⟩⟩
theorem UL {s:ze} (h:s.xLo≤s.xHi):NF [s]:=⟨by simpa using h,by simp⟩
theorem zkJ:∀ {a b:List ze},NF a→NF b→(∀ x,hv a x↔hv b x)→a=b
 | [],[],_,_,_=>rfl
 | [],t :: b,_,hb,h=>absurd ((h t.xLo).2 ((x7 _ _ _).2 (.inl ⟨Int.le_refl _,hb.1 t (by simp)⟩))) (uP _)
 | s :: a,[],ha,_,h=>absurd ((h s.xLo).1 ((x7 _ _ _).2 (.inl ⟨Int.le_refl _,ha.1 s (by simp)⟩))) (uP _)
 | s :: a,t :: b,ha,hb,h=>by
  have h1:=ha.1 s (by simp)
  have h2:=hb.1 t (by simp)
  have l1:t.xLo≤s.xLo:=zbG hb ((h _).1 ((x7 _ _ _).2 (.inl ⟨Int.le_refl _,h1⟩)))
  have l2:s.xLo≤t.xLo:=zbG ha ((h _).2 ((x7 _ _ _).2 (.inl ⟨Int.le_refl _,h2⟩)))
  have u1:¬ s.xHi<t.xHi:=fun hlt=>by
   have:=(h (s.xHi+1)).2 ((x7 _ _ _).2 (.inl ⟨by omega,by omega⟩))
   rcases (x7 _ _ _).1 this with e | e
   ·omega
   ·have:=zcF ha e;omega
  have u2:¬ t.xHi<s.xHi:=fun hlt=>by
   have:=(h (t.xHi+1)).1 ((x7 _ _ _).2 (.inl ⟨by omega,by omega⟩))
   rcases (x7 _ _ _).1 this with e | e
   ·omega
   ·have:=zcF hb e;omega
  have e:s=t:=by
   apply ze.ext <;> omega
  subst e
  rw [zkJ (U7 ha) (U7 hb) (fun x=>?_)]
  have:=h x
  rw [x7,x7] at this
  constructor
  ·intro hx
   have g:=zcF ha hx
   rcases this.1 (.inr hx) with e | e
   ·omega
   ·exact e
  ·intro hx
   have g:=zcF hb hx
   rcases this.2 (.inr hx) with e | e
   ·omega
   ·exact e
def zmm:List (Int×Int)→List ze→Int→Int→List ze
 | [],out,_,_=>out
 | e :: es,out,d,st=>zmm es (if d+e.2=0 then out++[ze.mk (if d=0 then e.1 else st) (e.1 - 1)] else out) (d+e.2) (if d=0 then e.1 else st)
def stp (l:List (Int×Int)):Int:=(l.map (·.2)).sum
def zaA:List ze→ze→List ze→Bool→List ze×ze×Bool
 | [],s,out,pl=>(out,s,pl)
 | x :: xs,s,out,pl =>
  if x.xHi+1<s.xLo then zaA xs s (out++[x]) pl
  else if s.xHi+1<x.xLo then zaA xs s ((if pl then out else out++[s])++[x]) true
  else zaA xs (ze.mk (min s.xLo x.xLo) (max s.xHi x.xHi)) out pl
def zbA (l:List ze) (s:ze):List ze :=
 match zaA l s [] false with
 | (out,s',pl)=>if pl then out else out++[s']
theorem zdD:∀ (l:List ze) (s:ze) (out:List ze) (pl:Bool),NF l→s.xLo≤s.xHi→NF out →
  (pl=false→(∀ t∈out,t.xHi+1<s.xLo)∧(∀ t∈out,∀ u∈l,t.xHi+1<u.xLo)) →
  (pl=true→(∀ t∈out,∀ u∈l,t.xHi+1<u.xLo)∧(∀ u∈l,s.xHi+1<u.xLo)∧s∈out) →
  NF (match zaA l s out pl with | (o,s',p)=>if p then o else o++[s'])∧∀ x,hv (match zaA l s out pl with | (o,s',p)=>if p then o else o++[s']) x↔hv out x∨hv l x∨(s.xLo≤x∧x≤s.xHi)
 | [],s,out,pl,hl,hs,ho,h0,h1=>by
  simp only [zaA]
  cases pl with
  | true =>
   simp only [if_true]
   obtain ⟨_,_,hm⟩:=h1 rfl
   refine ⟨ho,fun x=>⟨.inl,?_⟩⟩
   rintro (q | q | q)
   ·exact q
   ·exact absurd q (uP x)
   ·exact ⟨s,hm,q⟩
  | false =>
   simp only [Bool.false_eq_true,if_false]
   obtain ⟨ha,_⟩:=h0 rfl
   refine ⟨Vf ho (UL hs) (fun t ht u hu=>by simp at hu;subst hu;exact ha t ht),fun x=>?_⟩
   rw [Vj,x7]
   simp [uP]
 | y :: l,s,out,pl,hl,hs,ho,h0,h1=>by
  have hy:=hl.1 y (by simp)
  have hgap:=(List.pairwise_cons.1 hl.2).1
  have hl':=U7 hl
  unfold zaA
  by_cases c1:y.xHi+1<s.xLo
  ·rw [if_pos c1]
   have hpl:pl=false:=by
    cases pl with
    | false=>rfl
    | true=>have:=(h1 rfl).2.1 y (by simp);omega
   subst hpl
   obtain ⟨a1,a2⟩:=h0 rfl
   have ih:=zdD l s (out++[y]) false hl' hs (Vf ho (UL hy) (fun t ht u hu=>by simp at hu;subst hu;exact a2 t ht u (by simp)))
    (fun _=>⟨fun t ht=>by
     rcases List.mem_append.1 ht with q | q
     ·exact a1 t q
     ·simp at q;subst q;exact c1,fun t ht u hu=>by
     rcases List.mem_append.1 ht with q | q
     ·exact a2 t q u (by simp [hu])
     ·simp at q;subst q;exact hgap u hu⟩) (fun h=>by simp at h)
   refine ⟨ih.1,fun x=>?_⟩
   rw [ih.2 x,Vj,x7,x7]
   simp only [uP,or_false]
   constructor
   ·rintro ((q | q) | q | q)
    ·exact .inl q
    ·exact .inr (.inl (.inl q))
    ·exact .inr (.inl (.inr q))
    ·exact .inr (.inr q)
   ·rintro (q | (q | q) | q)
    ·exact .inl (.inl q)
    ·exact .inl (.inr q)
    ·exact .inr (.inl q)
    ·exact .inr (.inr q)
  ·rw [if_neg c1]
   by_cases c2:s.xHi+1<y.xLo
   ·rw [if_pos c2]
    cases pl with
    | true =>
     simp only [if_true]
     obtain ⟨a1,a2,a3⟩:=h1 rfl
     have ih:=zdD l s (out++[y]) true hl' hs (Vf ho (UL hy) (fun t ht u hu=>by simp at hu;subst hu;exact a1 t ht u (by simp))) (fun h=>by simp at h)
      (fun _=>⟨fun t ht u hu=>by
       rcases List.mem_append.1 ht with q | q
       ·exact a1 t q u (by simp [hu])
       ·simp at q;subst q;exact hgap u hu,fun u hu=>a2 u (by simp [hu]),by simp [a3]⟩)
     refine ⟨ih.1,fun x=>?_⟩
     rw [ih.2 x,Vj,x7,x7]
     simp only [uP,or_false]
     constructor
     ·rintro ((q | q) | q | q)
      ·exact .inl q
      ·exact .inr (.inl (.inl q))
      ·exact .inr (.inl (.inr q))
      ·exact .inr (.inr q)
     ·rintro (q | (q | q) | q)
      ·exact .inl (.inl q)
      ·exact .inl (.inr q)
      ·exact .inr (.inl q)
      ·exact .inr (.inr q)
    | false =>
     simp only [Bool.false_eq_true,if_false]
     obtain ⟨a1,a2⟩:=h0 rfl
     have n1:NF (out++[s]):=Vf ho (UL hs) (fun t ht u hu=>by simp at hu;subst hu;exact a1 t ht)
     have ih:=zdD l s ((out++[s])++[y]) true hl' hs (Vf n1 (UL hy) (fun t ht u hu=>by
       simp at hu;subst hu
       rcases List.mem_append.1 ht with q | q
       ·exact a2 t q u (by simp)
       ·simp at q;subst q;exact c2)) (fun h=>by simp at h)
      (fun _=>⟨fun t ht u hu=>by
       have hg:=hgap u hu
       rcases List.mem_append.1 ht with q | q
       ·rcases List.mem_append.1 q with q | q
        ·exact a2 t q u (by simp [hu])
        ·simp at q;subst q;omega
       ·simp at q;subst q;exact hg,fun u hu=>by have:=hgap u hu;omega,by simp⟩)
     refine ⟨ih.1,fun x=>?_⟩
     rw [ih.2 x,Vj,Vj,x7,x7,x7]
     simp only [uP,or_false]
     constructor
     ·rintro (((q | q) | q) | q | q)
      ·exact .inl q
      ·exact .inr (.inr q)
      ·exact .inr (.inl (.inl q))
      ·exact .inr (.inl (.inr q))
      ·exact .inr (.inr q)
     ·rintro (q | (q | q) | q)
      ·exact .inl (.inl (.inl q))
      ·exact .inl (.inr q)
      ·exact .inr (.inl q)
      ·exact .inr (.inr q)
   ·rw [if_neg c2]
    have hpl:pl=false:=by
     cases pl with
     | false=>rfl
     | true=>have:=(h1 rfl).2.1 y (by simp);omega
    subst hpl
    obtain ⟨a1,a2⟩:=h0 rfl
    have ih:=zdD l (ze.mk (min s.xLo y.xLo) (max s.xHi y.xHi)) out false hl' (by simp only;omega) ho
     (fun _=>⟨fun t ht=>by
      have:=a1 t ht;have:=a2 t ht y (by simp)
      simp only;omega,fun t ht u hu=>a2 t ht u (by simp [hu])⟩) (fun h=>by simp at h)
    refine ⟨ih.1,fun x=>?_⟩
    rw [ih.2 x,x7]
    simp only
    constructor
    ·rintro (q | q | q)
     ·exact .inl q
     ·exact .inr (.inl (.inr q))
     ·by_cases c3:y.xLo≤x∧x≤y.xHi
      ·exact .inr (.inl (.inl c3))
      ·exact .inr (.inr (by omega))
    ·rintro (q | (q | q) | q)
     ·exact .inl q
     ·exact .inr (.inr (by omega))
     ·exact .inr (.inl q)
     ·exact .inr (.inr (by omega))
theorem ziR {l:List ze} {s:ze} (hl:NF l) (hs:s.xLo≤s.xHi):NF (zbA l s)∧∀ x,hv (zbA l s) x↔hv l x∨(s.xLo≤x∧x≤s.xHi):=by
 have:=zdD l s [] false hl hs zhd (fun _=>⟨by simp,by simp⟩) (fun h=>by simp at h)
 refine ⟨this.1,fun x=>?_⟩
 have:=this.2 x
 simp only [uP,false_or] at this
 exact this
theorem zaB:∀ (xs l:List ze),NF l→(∀ s∈xs,s.xLo≤s.xHi)→NF (xs.foldl zbA l)∧∀ x,hv (xs.foldl zbA l) x↔hv l x∨hv xs x
 | [],l,hl,_=>⟨hl,fun x=>by simp [uP]⟩
 | s :: xs,l,hl,h=>by
  obtain ⟨n1,e1⟩:=ziR hl (h s (by simp))
  obtain ⟨n2,e2⟩:=zaB xs (zbA l s) n1 (fun t ht=>h t (List.mem_cons_of_mem _ ht))
  refine ⟨n2,fun x=>?_⟩
  rw [List.foldl_cons,e2 x,e1 x,x7]
  constructor
  ·rintro ((q | q) | q)
   ·exact .inl q
   ·exact .inr (.inl q)
   ·exact .inr (.inr q)
  ·rintro (q | q | q)
   ·exact .inl (.inl q)
   ·exact .inl (.inr q)
   ·exact .inr q
end
section
theorem jq {A B:Prop} (h:A):ifW true A B:=⟨fun _=>h,(fun e=>by cases e)⟩
theorem jG {A B:Prop} (h:B):ifW false A B:=⟨(fun e=>by cases e),fun _=>h⟩
theorem zp {c:Bool} {A B:Prop} (ht:c=true→A) (hf:c=false→B):ifW c A B:=⟨ht,hf⟩
@[simp] theorem Un {A B:Prop}:ifW true A B=A:=propext ⟨fun h=>h.1 rfl,jq⟩
@[simp] theorem zcG {A B:Prop}:ifW false A B=B:=propext ⟨fun h=>h.2 rfl,jG⟩
theorem zC {x y:Int} {κ:Int→Prop} (h1:-9223372036854775808≤x+y) (h2:x+y≤9223372036854775807) (h:κ (x+y)):jz x y κ:=⟨⟨h1,h2⟩,h⟩
theorem yC {x y:Int} {κ:Int→Prop} (h1:-9223372036854775808≤x - y) (h2:x - y≤9223372036854775807) (h:κ (x - y)):Yi x y κ:=⟨⟨h1,h2⟩,h⟩
theorem zbN {x y:Int} {κ:Int→Prop} (h1:-9223372036854775808≤x * y) (h2:x * y≤9223372036854775807) (h:κ (x * y)):zhg x y κ:=⟨⟨h1,h2⟩,h⟩
theorem zky {x y:Int} {κ:Int→Prop} (h1:0≤x) (h2:x≤9223372036854775807) (h3:0<y) (h:κ (x / y)):ziL x y κ:=⟨h3,⟨by omega,h2⟩,by rw [Int.tdiv_eq_ediv_of_nonneg h1];exact h⟩
theorem zkc {x y:Int} {κ:Int→Prop} (h1:0≤x) (h2:x≤9223372036854775807) (h3:0<y) (h:κ (x % y)):zg5 x y κ:=⟨h1,h3,⟨by omega,h2⟩,h⟩
theorem zr {α:Type} {xs:List α} {i:Int} {κ:α→Prop} (n:Nat) (hi:i=n) (hn:n<xs.length) (h:κ xs[n]):zB xs i κ:=by
 subst hi
 exact ⟨xs[n],by omega,by simp [hn],h⟩
theorem jn {α:Type} {xs ys:List α} {κ:List α→Prop} (h1:xs.length+ys.length≤4294967296) (h:κ (xs++ys)):jw xs ys κ:=⟨h1,h⟩
theorem UU {α:Type} {z:α} {n m:Int} {κ:List α→Prop} (k:Nat) (hn:n=k) (h1:n≤m) (h2:m≤4294967296) (h:κ (List.replicate k z)):V6 z n m κ:=by
 subst hn
 refine ⟨by omega,h1,?_,by simpa using h⟩
 unfold zcH
 omega
theorem z6 {σ:Type} {F:(σ→Prop)→σ→Prop} (len:Nat) (pos:σ→Int) (I:Nat→σ→Prop) (hpos:∀ k s,I k s→pos s=k) (hle:∀ k s,I k s→k≤len)
  (h:∀ k s next,I k s→(k<len→∀ s',I (k+1) s'→next s')→F next s) {s:σ} (h0:I 0 s):jy F s:=by
 refine ye (fun s=>∃ k,I k s) (fun s=>len - (pos s).toNat) (fun s next ⟨k,hk⟩ hn=>?_) ⟨0,h0⟩
 refine h k s next hk (fun hlt s' hs'=>hn s' ⟨k+1,hs'⟩ ?_)
 rw [hpos _ _ hk,hpos _ _ hs']
 omega
theorem zcR {σ:Type} {F:(σ→Prop)→σ→Prop} (k0 len:Nat) (pos:σ→Int) (I:Nat→σ→Prop) (hpos:∀ k s,I k s→pos s=k) (hle:∀ k s,I k s→k≤len)
  (h:∀ k s next,I k s→(k<len→∀ s',I (k+1) s'→next s')→F next s) {s:σ} (h0:I k0 s):jy F s:=by
 refine ye (fun s=>∃ k,I k s) (fun s=>len - (pos s).toNat) (fun s next ⟨k,hk⟩ hn=>?_) ⟨k0,h0⟩
 refine h k s next hk (fun hlt s' hs'=>hn s' ⟨k+1,hs'⟩ ?_)
 rw [hpos _ _ hk,hpos _ _ hs']
 omega
theorem zhy {α:Type} [DecidableEq α] (a b:List α) (hab:a.length=b.length) (hl:a.length≤4294967296) {κ:Bool→Prop} (T:α→α→Prop→Prop) (hT:∀ x y A,(x=y→A)→(x≠y→κ false)→T x y A) (hκ:κ (decide (a=b)))
  (F:(Int→Prop)→Int→Prop) (hF:∀ nx t,(ifW (decide (t<(a.length:Int))) (zB a t (fun x=>zB b t (fun y=>T x y (jz t 1 (fun u=>nx u))))) (κ true))→F nx t):jy F 0:=by
 refine z6 a.length (fun s=>s) (fun k s=>s=(k:Int)∧k≤a.length∧a.take k=b.take k) (fun k s h=>h.1) (fun k s h=>h.2.1) ?_ ⟨rfl,Nat.zero_le _,by simp⟩
 rintro k _ next ⟨rfl,hk,he⟩ hn
 refine hF _ _ (zp (fun hc=>?_) (fun hc=>?_))
 ·have hlt:k<a.length:=by simpa using hc
  refine zr k rfl hlt (zr k rfl (by omega) (hT _ _ _ (fun e=>zC (by omega) (by omega) (hn hlt _ ⟨by simp,by omega,?_⟩)) (fun e=>?_)))
  ·rw [List.take_succ_eq_append_getElem hlt,List.take_succ_eq_append_getElem (by omega),he,e]
  ·have:a≠b:=fun h=>by subst h;exact e rfl
   rw [decide_eq_false this] at hκ;exact hκ
 ·have hge:a.length≤k:=by simpa using hc
  have:a=b:=by
   rw [List.take_of_length_le hge,List.take_of_length_le (by omega)] at he
   exact he
  rw [decide_eq_true this] at hκ;exact hκ
def zmH {α:Type} (f:Int→α) (k:Int) (n:Nat):List α:=(List.range n).map fun (i:Nat)=>f (k+(i:Int))
end
section
open Go Go.Proofs
instance (l:List ze) (x:Int):Decidable (hv l x):=by unfold hv;infer_instance
def St (l:List ze) (top:Int):Prop:=NF l∧∀ s∈l,0≤s.xLo∧s.xHi≤top
theorem zk6 (top:Int):St [] top:=⟨zhd,by simp⟩
theorem zjx {a b:List ze} {t u:Int} (ha:St a t) (hb:St b u) (h:∀ x,hv a x↔hv b x):a=b:=zkJ ha.1 hb.1 h
theorem ym {l:List ze} {top x:Int} (h:St l top) (hx:hv l x):0≤x∧x≤top:=by
 obtain ⟨s,hs,e1,e2⟩:=hx
 have:=h.2 s hs
 omega
theorem zeZ:∀ (l:List ze) (top lo:Int),NF l→(∀ s∈l,lo≤s.xLo∧s.xHi≤top)→lo≤top+2→2 * (l.length:Int)≤top+2 - lo
 | [],top,lo,_,_,h=>by simp;omega
 | s :: l,top,lo,hn,hr,h=>by
  have h0:=hr s (by simp)
  have h1:=hn.1 s (by simp)
  have:=zeZ l top (s.xHi+2) (U7 hn) (fun t ht=>⟨by have:=(List.pairwise_cons.1 hn.2).1 t ht;omega,(hr t (List.mem_cons_of_mem _ ht)).2⟩) (by omega)
  simp only [List.length_cons]
  omega
theorem UZ {l:List ze} {top:Int} (h:St l top) (ht:-2≤top):2 * (l.length:Int)≤top+2:=by
 have:=zeZ l top 0 h.1 h.2 (by omega)
 omega
def YW (x y:ze):List ze:=if max x.xLo y.xLo≤min x.xHi y.xHi then [ze.mk (max x.xLo y.xLo) (min x.xHi y.xHi)] else []
def jb (a b:List ze):List ze:=a.flatMap fun x=>b.flatMap (YW x)
theorem zab {x y t:ze}:t∈YW x y↔max x.xLo y.xLo≤min x.xHi y.xHi∧t=ze.mk (max x.xLo y.xLo) (min x.xHi y.xHi):=by
 unfold YW;split <;> simp [*]
theorem zaJ {a b:List ze} {t:ze}:t∈jb a b↔∃ x∈a,∃ y∈b,max x.xLo y.xLo≤min x.xHi y.xHi∧t=ze.mk (max x.xLo y.xLo) (min x.xHi y.xHi):=by
 simp only [jb,List.mem_flatMap,zab]
theorem XM (a b:List ze) (n:Int):hv (jb a b) n↔hv a n∧hv b n:=by
 constructor
 ·rintro ⟨t,ht,h1,h2⟩
  obtain ⟨x,hx,y,hy,_,rfl⟩:=zaJ.1 ht
  simp only at h1 h2
  exact ⟨⟨x,hx,by omega,by omega⟩,⟨y,hy,by omega,by omega⟩⟩
 ·rintro ⟨⟨x,hx,h1,h2⟩,⟨y,hy,h3,h4⟩⟩
  exact ⟨_,zaJ.2 ⟨x,hx,y,hy,by omega,rfl⟩,by simp only;omega,by simp only;omega⟩
theorem zi6 {x:ze}:∀ {b:List ze},NF b→NF (b.flatMap (YW x))
 | [],_=>by simp [NF]
 | y :: b,h=>by
  rw [List.flatMap_cons]
  have hy:=(List.pairwise_cons.1 h.2).1
  refine Vf ⟨fun t ht=>?_,?_⟩ (zi6 (U7 h)) (fun t ht u hu=>?_)
  ·obtain ⟨h1,rfl⟩:=zab.1 ht;exact h1
  ·unfold YW;split <;> simp
  ·obtain ⟨h1,rfl⟩:=zab.1 ht
   obtain ⟨z,hz,hu⟩:=List.mem_flatMap.1 hu
   obtain ⟨h2,rfl⟩:=zab.1 hu
   have:=hy z hz
   simp only;omega
theorem zbI:∀ {a b:List ze},NF a→NF b→NF (jb a b)
 | [],b,_,_=>by simp [jb,NF]
 | x :: a,b,ha,hb=>by
  have e:jb (x :: a) b=b.flatMap (YW x)++jb a b:=by simp [jb]
  rw [e]
  refine Vf (zi6 hb) (zbI (U7 ha) hb) (fun t ht u hu=>?_)
  obtain ⟨y,hy,ht⟩:=List.mem_flatMap.1 ht
  obtain ⟨h1,rfl⟩:=zab.1 ht
  obtain ⟨z,hz,y',hy',h2,rfl⟩:=zaJ.1 hu
  have:=(List.pairwise_cons.1 ha.2).1 z hz
  simp only;omega
theorem Z5 {a b:List ze} {top:Int} (ha:St a top) (hb:NF b):St (jb a b) top:=by
 refine ⟨zbI ha.1 hb,fun t ht=>?_⟩
 obtain ⟨x,hx,y,hy,_,rfl⟩:=zaJ.1 ht
 have:=ha.2 x hx
 have:=hb.1 y hy
 simp only;omega
def Ug:List ze→Int→Int→List ze
 | [],at_,top=>if at_≤top then [ze.mk at_ top] else []
 | s :: l,at_,top=>(if at_<s.xLo then [ze.mk at_ (s.xLo - 1)] else [])++Ug l (s.xHi+1) top
def yL (a:List ze) (top:Int):List ze:=Ug a 0 top
theorem zdS:∀ (a:List ze) (c top:Int),NF a→(∀ s∈a,c≤s.xLo∧s.xHi≤top) →
  NF (Ug a c top)∧(∀ s∈Ug a c top,c≤s.xLo∧s.xHi≤top)∧∀ x,hv (Ug a c top) x↔c≤x∧x≤top∧¬ hv a x
 | [],c,top,_,_=>by
  unfold Ug
  split
  ·refine ⟨UL (by simpa using ‹_›),by simp,fun x=>?_⟩
   rw [x7];simp [uP]
  ·refine ⟨zhd,by simp,fun x=>?_⟩
   simp only [uP,false_iff]
   omega
 | s :: l,c,top,hn,hr=>by
  have h0:=hr s (by simp)
  have h1:=hn.1 s (by simp)
  have hg:=(List.pairwise_cons.1 hn.2).1
  obtain ⟨i1,i2,i3⟩:=zdS l (s.xHi+1) top (U7 hn) (fun t ht=>⟨by have:=hg t ht;omega,(hr t (List.mem_cons_of_mem _ ht)).2⟩)
  unfold Ug
  have hx0:∀ x,x≤s.xHi+1→¬ hv l x:=fun x hx hh=>by have:=zcF hn hh;omega
  split
  ·refine ⟨Vf (UL (by simp only;omega)) i1 (fun t ht u hu=>by simp at ht;subst ht;have:=i2 u hu;simp only;omega),fun t ht=>?_,fun x=>?_⟩
   ·rcases List.mem_append.1 ht with q | q
    ·simp at q;subst q;simp only;omega
    ·have:=i2 t q;omega
   ·rw [Vj,x7,i3,x7]
    simp only [uP,or_false]
    constructor
    ·rintro (q | ⟨q1,q2,q3⟩)
     ·exact ⟨by omega,by omega,fun h=>by
       rcases h with h | h
       ·omega
       ·exact hx0 x (by omega) h⟩
     ·exact ⟨by omega,q2,fun h=>by
       rcases h with h | h
       ·omega
       ·exact q3 h⟩
    ·rintro ⟨q1,q2,q3⟩
     by_cases h:x<s.xLo
     ·exact .inl (by omega)
     ·exact .inr ⟨by
       rcases Int.lt_or_le s.xHi x with g | g
       ·omega
       ·exact absurd (Or.inl ⟨by omega,g⟩) q3,q2,fun h=>q3 (.inr h)⟩
  ·refine ⟨by simpa using i1,fun t ht=>?_,fun x=>?_⟩
   ·have:=i2 t (by simpa using ht);omega
   ·rw [List.nil_append,i3,x7]
    constructor
    ·rintro ⟨q1,q2,q3⟩
     exact ⟨by omega,q2,fun h=>by
       rcases h with h | h
       ·omega
       ·exact q3 h⟩
    ·rintro ⟨q1,q2,q3⟩
     exact ⟨by
       rcases Int.lt_or_le s.xHi x with g | g
       ·omega
       ·exact absurd (Or.inl ⟨by omega,g⟩) q3,q2,fun h=>q3 (.inr h)⟩
theorem YB {a:List ze} {top:Int} (h:St a top):St (yL a top) top:=by
 obtain ⟨h1,h2,_⟩:=zdS a 0 top h.1 h.2
 exact ⟨h1,h2⟩
theorem zcf {a:List ze} {top:Int} (h:St a top) (x:Int):hv (yL a top) x↔0≤x∧x≤top∧¬ hv a x:=(zdS a 0 top h.1 h.2).2.2 x
def XG (a b:List ze):List ze:=b.foldl zbA a
theorem zaN {a b:List ze} {top:Int} (ha:St a top) (hb:St b top) (x:Int):hv (XG a b) x↔hv a x∨hv b x:=(zaB b a ha.1 hb.1.1).2 x
theorem Va {l:List ze} {s:ze} (h:NF l) (hs:s∈l):hv l s.xLo∧hv l s.xHi:=⟨⟨s,hs,Int.le_refl _,h.1 s hs⟩,⟨s,hs,h.1 s hs,Int.le_refl _⟩⟩
theorem zcn {a b:List ze} {top:Int} (ha:St a top) (hb:St b top):St (XG a b) top:=by
 have hn:NF (XG a b):=(zaB b a ha.1 hb.1.1).1
 refine ⟨hn,fun s hs=>?_⟩
 obtain ⟨e1,e2⟩:=Va hn hs
 rw [zaN ha hb] at e1 e2
 constructor
 ·rcases e1 with e | e
  ·exact (ym ha e).1
  ·exact (ym hb e).1
 ·rcases e2 with e | e
  ·exact (ym ha e).2
  ·exact (ym hb e).2
theorem zi4 (a:List ze) (c:Int) (hl:a.length≤4294967296) {i0:Nat} (h0:i0≤a.length) (hb:∀ s∈a.take i0,s.xHi<c) (REST:Int→Prop)
  (hR:∀ i:Nat,i≤a.length→(∀ s∈a.take i,s.xHi<c)→(∀ h:i<a.length,c≤a[i].xHi)→REST i)
  (F:(Int→Prop)→Int→Prop) (hF:∀ nx t,(jnW (fun (b:Bool)=>ifW b (jz t 1 (fun u=>nx u)) (REST t)) (fun k=>ifW (decide (t<(a.length:Int))) (zB a t (fun e=>k (decide (e.xHi<c)))) (k false)))→F nx t):jy F (i0:Int):=by
 refine zcR i0 a.length (fun s=>s) (fun k s=>s=(k:Int)∧k≤a.length∧∀ s∈a.take k,s.xHi<c) (fun k s h=>h.1) (fun k s h=>h.2.1) ?_ ⟨rfl,h0,hb⟩
 rintro k _ next ⟨rfl,hk,he⟩ hn
 refine hF _ _ ?_
 unfold jnW
 refine zp (fun hc=>?_) (fun hc=>?_)
 ·have hlt:k<a.length:=by simpa using hc
  refine zr k rfl hlt (zp (fun hd=>?_) (fun hd=>?_))
  ·refine zC (by omega) (by omega) (hn hlt _ ⟨by simp,by omega,fun s hs=>?_⟩)
   rw [List.take_succ_eq_append_getElem hlt] at hs
   rcases List.mem_append.1 hs with q | q
   ·exact he s q
   ·simp at q;subst q;simpa using hd
  ·exact hR k hk he (fun _=>by simpa using hd)
 ·refine jG (hR k hk he (fun h=>?_))
  have:a.length≤k:=by simpa using hc
  omega
theorem zhn {a:List ze} {i:Nat} {c x:Int} (h:∀ s∈a.take i,s.xHi<c) (hx:c≤x):hv a x↔hv (a.drop i) x:=by
 have e:=Vj (a.take i) (a.drop i) x
 rw [List.take_append_drop] at e
 rw [e]
 constructor
 ·rintro (⟨s,hs,q1,q2⟩ | q)
  ·have:=h s hs;omega
  ·exact q
 ·exact .inr
def stF (l:List ze) (c top:Int):Bool×Int :=
 match l with
 | []=>(false,top)
 | s :: _=>if c<s.xLo then (false,s.xLo - 1) else (true,s.xHi)
theorem zeR {l:List ze} {c top:Int} {κ:Bool×Int→Prop} (hb:∀ s∈l,0≤s.xLo∧s.xHi≤9223372036854775807) (hn:NF l) (h:κ (stF l c top)):uB l c top κ:=by
 unfold uB
 cases l with
 | nil=>exact jq h
 | cons s l =>
  have:=hb s (by simp)
  have:=hn.1 s (by simp)
  refine zp (fun e=>by simp at e;omega) (fun _=>zr 0 rfl (by simp) (zp (fun e=>zr 0 rfl (by simp) (yC (by simp only [List.getElem_cons_zero];omega) (by simp only [List.getElem_cons_zero];omega) ?_)) (fun e=>zr 0 rfl (by simp) ?_)))
  ·simp only [stF] at h
   rw [if_pos (by simpa using e)] at h
   exact h
  ·simp only [stF] at h
   rw [if_neg (by simpa using e)] at h
   exact h
theorem zgA {l:List ze} {c top:Int} (h:NF l) (hb:∀ s∈l,s.xHi≤top) (hc:c≤top) (hf:∀ s∈l.head?,c≤s.xHi) :
  c≤(stF l c top).2∧(stF l c top).2≤top∧∀ x,c≤x→x≤(stF l c top).2→(hv l x↔(stF l c top).1=true):=by
 cases l with
 | nil=>exact ⟨hc,Int.le_refl _,fun x _ _=>by simp [stF,uP]⟩
 | cons s l =>
  have h0:=hb s (by simp)
  have h1:=h.1 s (by simp)
  have h2:=hf s (by simp)
  unfold stF
  simp only
  split
  ·refine ⟨by simp only;omega,by simp only;omega,fun x q1 q2=>?_⟩
   simp only at q2
   simp only [Bool.false_eq_true,iff_false]
   intro hh
   have:=zbG h hh
   omega
  ·refine ⟨h2,h0,fun x q1 q2=>?_⟩
   simp only at q2
   simp only [iff_true]
   exact (x7 _ _ _).2 (.inl ⟨by omega,q2⟩)
theorem zbF:∀ {a:List ze} (i:Nat),NF a→NF (a.drop i):=fun {a} i h=>⟨fun s hs=>h.1 s (List.mem_of_mem_drop hs),h.2.drop⟩
theorem zeI {a:List ze} {i:Nat} {c:Int} (h:∀ q:i<a.length,c≤a[i].xHi):∀ s∈(a.drop i).head?,c≤s.xHi:=by
 intro s hs
 rw [List.head?_drop] at hs
 obtain ⟨hlt,e⟩:=List.getElem?_eq_some_iff.1 hs
 rw [← e];exact h hlt
theorem zbf (keep:Bool→Bool→Bool) {a b:List ze} {top:Int} (ha:St a top) (hb:St b top) (ht0:-2≤top) (ht:top≤65535) {κ:List ze→Prop}
  (hκ:∀ r,St r top→(∀ x,0≤x→x≤top→(hv r x↔keep (decide (hv a x)) (decide (hv b x))=true))→κ r)
  (K:Bool→Bool→(Bool→Prop)→Prop) (hK:∀ p q φ,φ (keep p q)→K p q φ)
  (F:(List ze×Int×Int×Int→Prop)→List ze×Int×Int×Int→Prop)
  (hF:∀ nx xs8 t11 t12 t13,(ifW (decide (t13≤top)) (jy (fun (nx16:Int→Prop) (t15:Int)=>jnW (fun (t79:Bool)=>ifW t79 (jz t15 1 (fun t81=>nx16 t81)) (jy (fun (nx83:Int→Prop) (t82:Int)=>jnW (fun (t146:Bool)=>ifW t146 (jz t82 1 (fun t148=>nx83 t148)) (yY a t15 (a.length:Int) (fun xs150=>uB xs150 t13 top (fun (r153,r154)=>yY b t82 (b.length:Int) (fun xs156=>uB xs156 t13 top (fun (r159,r160)=>jnW (fun (xs296:(List ze))=>jz (min r154 r160) 1 (fun t300=>nx (xs296,t15,t82,t300))) (fun k299=>K r153 r159 (fun r161=>ifW r161 (jnW (fun (t226:Bool)=>ifW t226 (Yi (xs8.length:Int) 1 (fun t228=>zB xs8 t228 (fun e229=>k299 (xs8.set (t228).toNat (ze.mk e229.xLo (min r154 r160)))))) (jw xs8 ([(ze.mk t13 (min r154 r160))]) (fun _=>k299 (xs8++([(ze.mk t13 (min r154 r160))]))))) (fun k227=>ifW (decide (0<(xs8.length:Int))) (Yi (xs8.length:Int) 1 (fun t162=>zB xs8 t162 (fun e163=>jz e163.xHi 1 (fun t165=>k227 (decide (t165=t13)))))) (k227 false))) (k299 xs8))))))))) (fun k147=>ifW (decide (t82<(b.length:Int))) (zB b t82 (fun e84=>k147 (decide (e84.xHi<t13)))) (k147 false))) t12)) (fun k80=>ifW (decide (t15<(a.length:Int))) (zB a t15 (fun e17=>k80 (decide (e17.xHi<t13)))) (k80 false))) t11) (κ xs8))→F nx (xs8,t11,t12,t13)) :
  jy F ([],0,0,0):=by
 have la:=UZ ha ht0
 have lb:=UZ hb ht0
 refine ye (fun (s:List ze×Int×Int×Int)=>∃ i j:Nat,s.2.1=i∧s.2.2.1=j∧i≤a.length∧j≤b.length∧0≤s.2.2.2∧(top<s.2.2.2→s.2.2.2=top+1∨s.2.2.2=0)∧(∀ u∈a.take i,u.xHi<s.2.2.2)∧(∀ u∈b.take j,u.xHi<s.2.2.2)∧St s.1 top∧(∀ u∈s.1,u.xHi<s.2.2.2)∧(∀ x,0≤x→x<s.2.2.2→(hv s.1 x↔keep (decide (hv a x)) (decide (hv b x))=true)))
  (fun s=>(top+1 - s.2.2.2).toNat) ?_ ⟨0,0,rfl,rfl,Nat.zero_le _,Nat.zero_le _,Int.le_refl _,fun _=>.inr rfl,by simp,by simp,zk6 _,by simp,fun x h1 h2=>by simp only at h2;omega⟩
 rintro ⟨out,_,_,c⟩ next ⟨i,j,rfl,rfl,hi,hj,hc0,hc1,hai,hbj,ho,hoc,hk⟩ hn
 simp only at hc0 hc1 hai hbj ho hoc hk
 have lo:=UZ ho ht0
 refine hF _ _ _ _ _ (zp (fun hc=>?_) (fun hc=>?_))
 rotate_left 1
 ·have hc':top<c:=by simpa using hc
  refine hκ out ho (fun x h1 h2=>hk x h1 (by omega))
 have hc':c≤top:=by simpa using hc
 refine zi4 a c (by omega) hi hai _ (fun i' hi' hai' hai2=>?_) _ (fun _ _ h=>h)
 refine zi4 b c (by omega) hj hbj _ (fun j' hj' hbj' hbj2=>?_) _ (fun _ _ h=>h)
 have mema:∀ s∈a.drop i',0≤s.xLo∧s.xHi≤top:=fun s hs=>ha.2 s (List.mem_of_mem_drop hs)
 have memb:∀ s∈b.drop j',0≤s.xLo∧s.xHi≤top:=fun s hs=>hb.2 s (List.mem_of_mem_drop hs)
 refine ⟨by omega,by omega,by omega,?_⟩
 rw [show (a.take (a.length:Int).toNat).drop (i':Int).toNat=a.drop i' by simp]
 refine zeR (fun s hs=>⟨(mema s hs).1,by have:=(mema s hs).2;omega⟩) (zbF _ ha.1) ?_
 obtain ⟨a1,a2,a3⟩:=zgA (zbF i' ha.1) (fun s hs=>(mema s hs).2) hc' (zeI hai2)
 generalize stF (a.drop i') c top=p at a1 a2 a3
 obtain ⟨inA,endA⟩:=p
 simp only at a1 a2 a3 ⊢
 refine ⟨by omega,by omega,by omega,?_⟩
 rw [show (b.take (b.length:Int).toNat).drop (j':Int).toNat=b.drop j' by simp]
 refine zeR (fun s hs=>⟨(memb s hs).1,by have:=(memb s hs).2;omega⟩) (zbF _ hb.1) ?_
 obtain ⟨b1,b2,b3⟩:=zgA (zbF j' hb.1) (fun s hs=>(memb s hs).2) hc' (zeI hbj2)
 generalize stF (b.drop j') c top=p at b1 b2 b3
 obtain ⟨inB,endB⟩:=p
 simp only at b1 b2 b3 ⊢
 have hke:∀ x,c≤x→x≤min endA endB→(keep (decide (hv a x)) (decide (hv b x))=keep inA inB):=fun x q1 q2=>by
  have e1:decide (hv a x)=inA:=by
   have:=a3 x q1 (by omega)
   rw [← zhn hai' q1] at this
   cases inA <;> simpa using this
  have e2:decide (hv b x)=inB:=by
   have:=b3 x q1 (by omega)
   rw [← zhn hbj' q1] at this
   cases inB <;> simpa using this
  rw [e1,e2]
 unfold jnW
 generalize hm:min endA endB=m at hke ⊢
 have m1:c≤m:=by omega
 have m2:m≤top:=by omega
 have fin:∀ out',St out' top→(∀ u∈out',u.xHi≤m)→(∀ x,0≤x→x≤m→(hv out' x↔keep (decide (hv a x)) (decide (hv b x))=true))→jz m 1 (fun t300=>next (out',(i':Int),(j':Int),t300)):=fun out' h1 h2 h3 =>
  zC (by omega) (by omega) (hn _ ⟨i',j',rfl,rfl,hi',hj',by simp only;omega,fun _=>.inl (by simp only at *;omega),fun u hu=>by have:=hai' u hu;simp only;omega,fun u hu=>by have:=hbj' u hu;simp only;omega,h1,fun u hu=>by have:=h2 u hu;simp only;omega,fun x q1 q2=>h3 x q1 (by simp only at q2;omega)⟩ (by simp only;omega))
 refine hK _ _ _ (zp (fun hkt=>?_) (fun hkf=>?_))
 ·
  have app:(∀ u∈out,u.xHi+1<c)→jw out ([(ze.mk c m)]) (fun _=>jz m 1 (fun t300=>next (out++[ze.mk c m],(i':Int),(j':Int),t300))):=fun hg =>
   jn (by simp;omega) (fin _ ⟨Vf ho.1 (UL (by simpa using m1)) (fun s hs t ht=>by simp at ht;subst ht;exact hg s hs),fun s hs=>by
    rcases List.mem_append.1 hs with q | q
    ·exact ho.2 s q
    ·simp at q;subst q;exact ⟨hc0,m2⟩⟩ (fun u hu=>by
    rcases List.mem_append.1 hu with q | q
    ·have:=hoc u q;omega
    ·simp at q;subst q;exact Int.le_refl _) (fun x q1 q2=>by
    rw [Vj,x7]
    simp only [uP,or_false]
    by_cases hx:x<c
    ·rw [← hk x q1 hx]
     constructor
     ·rintro (q | q)
      ·exact q
      ·omega
     ·exact .inl
    ·rw [hke x (by omega) q2,hkt]
     simp only [iff_true]
     exact .inr ⟨by omega,q2⟩))
  refine zp (fun hp=>?_) (fun hp=>?_)
  ·
   have hpos:0<out.length:=by simpa using hp
   refine yC (by omega) (by omega) (zr (out.length - 1) (by omega) (by omega) ?_)
   have hmem:out[out.length - 1]∈out:=List.getElem_mem _
   have hlast:=hoc _ hmem
   have hl0:=ho.2 _ hmem
   have hl1:=ho.1.1 _ hmem
   refine zC (by omega) (by omega) (zp (fun hq=>?_) (fun hq=>?_))
   ·have hq':(out[out.length - 1]).xHi+1=c:=by simpa using hq
    refine yC (by omega) (by omega) (zr (out.length - 1) (by omega) (by omega) ?_)
    have hsplit:out=out.dropLast++[out[out.length - 1]]:=by
     have:=List.dropLast_concat_getLast (l:=out) (by intro h;rw [h] at hpos;simp at hpos)
     rw [List.getLast_eq_getElem] at this
     exact this.symm
    generalize out[out.length - 1]=z at *
    have hset:out.set ((out.length:Int) - 1).toNat (ze.mk z.xLo m)=out.dropLast++[ze.mk z.xLo m]:=by
     have e1:((out.length:Int) - 1).toNat=out.dropLast.length:=by rw [List.length_dropLast];omega
     rw [e1]
     conv=>lhs;rw [hsplit]
     rw [List.dropLast_concat,List.set_append_right _ _ (Nat.le_refl _)]
     simp
    rw [hset]
    have hd:NF (out.dropLast++[z]):=by rw [← hsplit];exact ho.1
    have hdp:=List.pairwise_append.1 hd.2
    have hdm:∀ u∈out.dropLast,u∈out:=fun u hu=>by rw [hsplit];exact List.mem_append_left _ hu
    refine fin _ ⟨Vf ⟨fun s hs=>ho.1.1 s (hdm s hs),hdp.1⟩ (UL (by simp only;omega)) (fun s hs t ht=>by simp at ht;subst ht;exact hdp.2.2 s hs z (by simp)),fun s hs=>?_⟩ (fun u hu=>?_) (fun x q1 q2=>?_)
    ·rcases List.mem_append.1 hs with q | q
     ·exact ho.2 s (hdm s q)
     ·simp at q;subst q;exact ⟨hl0.1,m2⟩
    ·rcases List.mem_append.1 hu with q | q
     ·have:=hoc u (hdm u q);omega
     ·simp at q;subst q;exact Int.le_refl _
    ·have hold:hv out x↔hv out.dropLast x∨(z.xLo≤x∧x≤z.xHi):=by
      conv=>lhs;rw [hsplit]
      rw [Vj,x7];simp [uP]
     rw [Vj,x7]
     simp only [uP,or_false]
     by_cases hx:x<c
     ·rw [← hk x q1 hx,hold]
      constructor
      ·rintro (q | q)
       ·exact .inl q
       ·exact .inr ⟨q.1,by omega⟩
      ·rintro (q | q)
       ·exact .inl q
       ·exact .inr ⟨q.1,by omega⟩
     ·rw [hke x (by omega) q2,hkt]
      simp only [iff_true]
      exact .inr ⟨by omega,q2⟩
   ·have hq':(out[out.length - 1]).xHi+1≠c:=by simpa using hq
    refine app (fun u hu=>?_)
    obtain ⟨t,ht,e⟩:=List.getElem_of_mem hu
    by_cases e0:t=out.length - 1
    ·subst e0;rw [← e];omega
    ·have hpw:=List.pairwise_iff_getElem.1 ho.1.2 t (out.length - 1) ht (by omega) (by omega)
     rw [e] at hpw
     omega
  ·have:out=[]:=by
    have:¬ 0<out.length:=by simpa using hp
    exact List.eq_nil_of_length_eq_zero (by omega)
   subst this
   exact jG (app (by simp))
 ·refine fin out ho (fun u hu=>by have:=hoc u hu;omega) (fun x q1 q2=>?_)
  by_cases hx:x<c
  ·exact hk x q1 hx
  ·rw [hke x (by omega) q2,hkf]
   simp only [Bool.false_eq_true,iff_false]
   rintro ⟨u,hu,r1,r2⟩
   have:=hoc u hu
   omega
end
section
open Go Go.Proofs
theorem zjq {p q:Bool} {κ:Bool→Prop} (h:κ (p && q)):Ye p q κ:=by
 unfold Ye jnW;cases p <;> simpa using h
theorem zez {p q:Bool} {κ:Bool→Prop} (h:κ (p && !q)):yN p q κ:=by
 unfold yN jnW;cases p <;> simpa using h
theorem zhc {p q:Bool} {κ:Bool→Prop} (h:κ (p || q)):Z1 p q κ:=by
 unfold Z1 jnW;cases p <;> simpa using h
theorem zfO {a b:List ze} {top:Int} (ha:St a top) (hb:St b top) (h0:-2≤top) (ht:top≤65535) {κ:List ze→Prop} (h:κ (jb a b)):uF a b top κ:=by
 unfold uF
 refine zbf (fun p q=>p && q) ha hb h0 ht (κ:=κ) (fun r hr hk=>?_) (fun p q φ=>Ye p q φ) (fun p q φ=>zjq) _ (fun _ _ _ _ _ h=>h)
 rw [zjx hr (Z5 ha hb.1) (fun x=>?_)]
 ·exact h
 ·rw [XM]
  by_cases hx:0≤x∧x≤top
  ·rw [hk x hx.1 hx.2];simp
  ·exact ⟨fun e=>absurd (ym hr e) hx,fun e=>absurd (ym ha e.1) hx⟩
theorem Ya {a b:List ze} {top:Int} (ha:St a top) (hb:St b top) (h0:-2≤top) (ht:top≤65535) {κ:List ze→Prop} (h:κ (jb a (yL b top))):jh a b top κ:=by
 unfold jh
 refine zbf (fun p q=>p && !q) ha hb h0 ht (κ:=κ) (fun r hr hk=>?_) (fun p q φ=>yN p q φ) (fun p q φ=>zez) _ (fun _ _ _ _ _ h=>h)
 rw [zjx hr (Z5 ha (YB hb).1) (fun x=>?_)]
 ·exact h
 ·rw [XM,zcf hb]
  by_cases hx:0≤x∧x≤top
  ·rw [hk x hx.1 hx.2];simp [hx.1,hx.2]
  ·exact ⟨fun e=>absurd (ym hr e) hx,fun e=>absurd (ym ha e.1) hx⟩
theorem zdY {a b:List ze} {top:Int} (ha:St a top) (hb:St b top) (h0:-2≤top) (ht:top≤65535) {κ:List ze→Prop} (h:κ (XG a b)):uo a b top κ:=by
 unfold uo
 refine zbf (fun p q=>p || q) ha hb h0 ht (κ:=κ) (fun r hr hk=>?_) (fun p q φ=>Z1 p q φ) (fun p q φ=>zhc) _ (fun _ _ _ _ _ h=>h)
 rw [zjx hr (zcn ha hb) (fun x=>?_)]
 ·exact h
 ·rw [zaN ha hb]
  by_cases hx:0≤x∧x≤top
  ·rw [hk x hx.1 hx.2];simp
  ·refine ⟨fun e=>absurd (ym hr e) hx,fun e=>?_⟩
   rcases e with e | e
   ·exact absurd (ym ha e) hx
   ·exact absurd (ym hb e) hx
def lim (l:List ze):List ze×Bool:=if 40<l.length then ([],false) else (l,true)
theorem VF {l:List ze} {κ:List ze×Bool→Prop} (h:κ (lim l)):yt l κ:=by
 unfold yt
 unfold lim at h
 refine zp (fun hc=>?_) (fun hc=>?_)
 ·rw [if_pos (by have:=of_decide_eq_true hc;omega)] at h;exact h
 ·rw [if_neg (by have:=of_decide_eq_false hc;omega)] at h;exact h
theorem Yz {a b:List ze} {top:Int} (ha:St a top) (hb:St b top) (h0:-2≤top) (ht:top≤65535) {κ:List ze×Bool→Prop} (h:κ (lim (jb a b))):zH a b top κ:=by
 unfold zH
 exact zfO ha hb h0 ht (VF h)
theorem zgI {a b:List ze} {top:Int} (ha:St a top) (hb:St b top) (h0:-2≤top) (ht:top≤65535) {κ:List ze×Bool→Prop} (h:κ (lim (jb a (yL b top)))):ju a b top κ:=by
 unfold ju
 exact Ya ha hb h0 ht (VF h)
theorem zfy {a b:List ze} {top:Int} (ha:St a top) (hb:St b top) (h0:-2≤top) (ht:top≤65535) {κ:List ze×Bool→Prop} (h:κ (lim (XG a b))):xQ a b top κ:=by
 unfold xQ
 exact zdY ha hb h0 ht (VF h)
theorem zhJ {x:ze}:∀ (b:List ze),(b.flatMap (YW x)).length≤b.length
 | []=>by simp
 | y :: b=>by
  have:=zhJ (x:=x) b
  have h1:(YW x y).length≤1:=by unfold YW;split <;> simp
  simp only [List.flatMap_cons,List.length_append,List.length_cons]
  omega
theorem ZE {a b:List ze} {ta tb:Int} (ha:St a ta) (hb:St b tb) (h0:0≤ta) (ht:ta≤65535) (h1:0≤tb) (hu:tb≤65535) {κ:List ze→Prop} (h:κ (jb a b)):xS a b κ:=by
 have la:=UZ ha (by omega)
 have lb:=UZ hb (by omega)
 have short:∀ k,2 * ((jb (a.take k) b).length:Int)≤ta+2:=fun k =>
  UZ (Z5 ⟨⟨fun s hs=>ha.1.1 s (List.mem_of_mem_take hs),ha.1.2.take⟩,fun s hs=>ha.2 s (List.mem_of_mem_take hs)⟩ hb.1) (by omega)
 unfold xS
 refine z6 a.length (fun s=>s.2) (fun k s=>s.2=(k:Int)∧k≤a.length∧s.1=jb (a.take k) b) (fun k s h=>h.1) (fun k s h=>h.2.1) ?_ ⟨rfl,Nat.zero_le _,by simp [jb]⟩
 rintro k ⟨xs,t⟩ next ⟨rfl,hk,hx⟩ hn
 simp only at hx
 subst hx
 refine zp (fun hc=>?_) (fun hc=>?_)
 ·have hlt:k<a.length:=by simpa using hc
  have hmem:a[k]∈a:=List.getElem_mem hlt
  have r1:=ha.2 _ hmem
  refine z6 b.length (fun s=>s.2) (fun j s=>s.2=(j:Int)∧j≤b.length∧s.1=jb (a.take k) b++(b.take j).flatMap (YW a[k])) (fun k s h=>h.1) (fun k s h=>h.2.1) ?_ ⟨rfl,Nat.zero_le _,by simp⟩
  rintro j ⟨ys,u⟩ next2 ⟨rfl,hj,hy⟩ hn2
  simp only at hy
  subst hy
  refine zp (fun hd=>?_) (fun hd=>?_)
  ·have hlt2:j<b.length:=by simpa using hd
   have hstep:(b.take (j+1)).flatMap (YW a[k])=(b.take j).flatMap (YW a[k])++YW a[k] b[j]:=by
    rw [List.take_succ_eq_append_getElem hlt2,List.flatMap_append];simp
   have hlen:=zhJ (x:=a[k]) (b.take j)
   have:=short k
   simp only [List.length_take] at hlen
   unfold jnW
   refine zr k rfl hlt (zr j rfl hlt2 (zr k rfl hlt (zr j rfl hlt2 (zp (fun he=>?_) (fun he=>?_)))))
   ·refine jn (by simp only [List.length_append,List.length_singleton];omega) (zC (by omega) (by omega) (hn2 hlt2 _ ⟨by simp,by omega,?_⟩))
    rw [hstep]
    unfold YW at *
    rw [if_pos (by simpa using he)]
    simp
   ·refine zC (by omega) (by omega) (hn2 hlt2 _ ⟨by simp,by omega,?_⟩)
    rw [hstep]
    have:YW a[k] b[j]=[]:=by unfold YW;rw [if_neg (by simpa using he)]
    rw [this];simp
  ·have hge:b.length≤j:=by simpa using hd
   have e:j=b.length:=by omega
   subst e
   refine zC (by omega) (by omega) (hn hlt _ ⟨by simp,by omega,?_⟩)
   have e2:jb (a.take k++[a[k]]) b=jb (a.take k) b++b.flatMap (YW a[k]):=by simp only [jb,List.flatMap_append,List.flatMap_cons,List.flatMap_nil,List.append_nil]
   show jb (a.take k) b++(b.take b.length).flatMap (YW a[k])=_
   rw [List.take_succ_eq_append_getElem hlt,e2,List.take_length]
 ·have hge:a.length≤k:=by simpa using hc
  rw [List.take_of_length_le hge];exact h
theorem Vr {a:List ze} {top:Int} (ha:St a top) (h0:0≤top) (ht:top≤65535) {κ:List ze→Prop} (h:κ (yL a top)):XD a top κ:=by
 have la:=UZ ha (by omega)
 have lo:=UZ (YB ha) (by omega)
 unfold XD
 refine z6 a.length (fun s=>s.2.2) (fun k s=>s.2.2=(k:Int)∧k≤a.length∧s.1++Ug (a.drop k) s.2.1 top=yL a top∧0≤s.2.1∧s.2.1≤65536) (fun k s h=>h.1) (fun k s h=>h.2.1) ?_ ⟨rfl,Nat.zero_le _,by simp [yL],by simp,by simp⟩
 rintro k ⟨xs,c,t⟩ next ⟨rfl,hk,hx,hc0,hc1⟩ hn
 simp only at hx hc0 hc1
 have hlen:xs.length≤(yL a top).length:=by rw [← hx];simp
 refine zp (fun hc=>?_) (fun hc=>?_)
 ·have hlt:k<a.length:=by simpa using hc
  have hmem:a[k]∈a:=List.getElem_mem hlt
  have r1:=ha.2 _ hmem
  have r2:=ha.1.1 _ hmem
  rw [List.drop_eq_getElem_cons hlt] at hx
  simp only [Ug] at hx
  unfold jnW
  refine zr k rfl hlt (zp (fun he=>?_) (fun he=>?_))
  ·rw [if_pos (by simpa using he)] at hx
   refine zr k rfl hlt (yC (by omega) (by omega) (jn (by simp only [List.length_singleton];omega) (zr k rfl hlt (zC (by omega) (by omega) (zC (by omega) (by omega) (hn hlt _ ⟨by simp,by omega,?_,by simp only;omega,by simp only;omega⟩))))))
   simpa [List.append_assoc] using hx
  ·rw [if_neg (by simpa using he)] at hx
   refine zr k rfl hlt (zC (by omega) (by omega) (zC (by omega) (by omega) (hn hlt _ ⟨by simp,by omega,?_,by simp only;omega,by simp only;omega⟩)))
   simpa using hx
 ·have hge:a.length≤k:=by simpa using hc
  rw [List.drop_eq_nil_of_le hge] at hx
  simp only [Ug] at hx
  unfold jnW
  refine zp (fun he=>?_) (fun he=>?_)
  ·rw [if_pos (by simpa using he)] at hx
   refine jn (by simp only [List.length_singleton];omega) ?_
   rw [hx];exact h
  ·rw [if_neg (by simpa using he),List.append_nil] at hx
   rw [hx];exact h
def Sm (s:ze):Prop:=-1000000000≤s.xLo∧s.xLo≤1000000000∧-1000000000≤s.xHi∧s.xHi≤1000000000
theorem zkh {l:List ze} {s:ze} (hl:l.length≤1000000000) (hb:∀ x∈l,Sm x) (hs:Sm s) {κ:List ze→Prop} (h:κ (zbA l s)):UJ l s κ:=by
 unfold UJ
 refine z6 l.length (fun s=>s.2.2.2.2) (fun k (st:Int×Int×List ze×Bool×Int)=>st.2.2.2.2=(k:Int)∧k≤l.length∧zaA l s [] false=zaA (l.drop k) (ze.mk st.1 st.2.1) st.2.2.1 st.2.2.2.1∧st.2.2.1.length≤2 * k∧Sm (ze.mk st.1 st.2.1)) (fun k s h=>h.1) (fun k s h=>h.2.1) ?_ ⟨rfl,Nat.zero_le _,by simp,by simp,hs⟩
 rintro k ⟨lo,hi,xs,pl,t⟩ next ⟨rfl,hk,hx,hlen,hsm⟩ hn
 simp only at hx hlen hsm
 obtain ⟨m1,m2,m3,m4⟩:=hsm
 simp only at m1 m2 m3 m4
 refine zp (fun hc=>?_) (fun hc=>?_)
 ·have hlt:k<l.length:=by simpa using hc
  obtain ⟨n1,n2,n3,n4⟩:=hb _ (List.getElem_mem hlt)
  rw [List.drop_eq_getElem_cons hlt] at hx
  simp only [zaA] at hx
  unfold jnW
  refine zr k rfl hlt (zC (by omega) (by omega) (zp (fun he=>?_) (fun he=>?_)))
  ·rw [if_pos (by simpa using he)] at hx
   exact jn (by simp only [List.length_singleton];omega) (zC (by omega) (by omega) (hn hlt _ ⟨by simp,by omega,hx,by simp only [List.length_append,List.length_singleton];omega,m1,m2,m3,m4⟩))
  ·rw [if_neg (by simpa using he)] at hx
   refine zC (by omega) (by omega) (zp (fun hf=>?_) (fun hf=>?_))
   ·rw [if_pos (by simpa using hf)] at hx
    cases pl with
    | false =>
     refine jq (jn (by simp only [List.length_singleton];omega) (jn (by simp only [List.length_append,List.length_singleton];omega) (zC (by omega) (by omega) (hn hlt _ ⟨by simp,by omega,hx,by simp only [List.length_append,List.length_singleton];omega,m1,m2,m3,m4⟩))))
    | true =>
     refine jG (jn (by simp only [List.length_singleton];omega) (zC (by omega) (by omega) (hn hlt _ ⟨by simp,by omega,hx,by simp only [List.length_append,List.length_singleton];omega,m1,m2,m3,m4⟩)))
   ·rw [if_neg (by simpa using hf)] at hx
    exact zC (by omega) (by omega) (hn hlt _ ⟨by simp,by omega,hx,by simp only;omega,by simp only;omega,by simp only;omega,by simp only;omega,by simp only;omega⟩)
 ·have hge:l.length≤k:=by simpa using hc
  rw [List.drop_eq_nil_of_le hge] at hx
  simp only [zaA] at hx
  unfold zbA at h
  rw [hx] at h
  unfold jnW
  cases pl with
  | false=>exact jq (jn (by simp only [List.length_singleton];omega) (by simpa using h))
  | true=>exact jG (by simpa using h)
end
section
open Go.Lib (decDigits)
def B (l:List UInt8):ByteArray:=ByteArray.mk l.toArray
def dg (c:UInt8):Bool:=decide (48≤c.toNat) && decide (c.toNat≤57)
def val (l:List UInt8):Nat:=l.foldl (fun n c=>10 * n+(c.toNat - 48)) 0
def run:Nat→List UInt8→List UInt8
 | 0,_=>[]
 | _,[]=>[]
 | k+1,c :: l=>if dg c then c :: run k l else []
end
section
theorem ziF (e:UInt8):(0:Int)≤(e.toNat:Int)∧(e.toNat:Int)≤255:=by
 have:=e.toNat_lt
 omega
theorem zkB {x y:Int} {κ:Int→Prop} (h1:0≤x) (h2:x<4611686018427387904) (h3:0≤y) (h4:y<4611686018427387904) (h:∀ z,0≤z→z<4611686018427387904→κ z):zk5 x y κ:=by
 refine ⟨h1,h2,h3,h4,h _ (by omega) ?_⟩
 have:x.toNat ^^^ y.toNat<2 ^ 62:=Nat.xor_lt_two_pow (by omega) (by omega)
 have e:(2:Nat) ^ 62=4611686018427387904:=by decide
 rw [e] at this
 omega
theorem zc6 {x y:Int} {κ:Int→Prop} (h1:0≤x) (h2:x≤9223372036854775807) (h3:0<y) (h:∀ z,0≤z→z<y→κ z):zg5 x y κ :=
 zkc h1 h2 h3 (h _ (Int.emod_nonneg _ (by omega)) (Int.emod_lt_of_pos _ h3))
theorem zh2 {x y:Int} {κ:Int→Prop} (h1:0≤x) (h2:x≤9223372036854775807) (h3:0<y) (h:∀ z,0≤z→z≤x→κ z):ziL x y κ :=
 zky h1 h2 h3 (h _ (Int.ediv_nonneg h1 (by omega)) (Int.ediv_le_self _ h1))
theorem Zo {α:Type} {xs:List α} {i:Int} {κ:α→Prop} (h1:0≤i) (h2:i<xs.length) (h:∀ x,x∈xs→κ x):zB xs i κ:=by
 obtain ⟨n,rfl⟩:=Int.eq_ofNat_of_zero_le h1
 have hn:n<xs.length:=by omega
 exact zr n rfl hn (h _ (List.getElem_mem hn))
def RdP (b:List UInt8) (p:Int):Prop:=b.length≤2000∧0≤p∧p≤1000000
theorem uH {b:List UInt8} {p n:Int} (hr:RdP b p) {κ:Int×Int→Prop} (h:∀ v,0≤v→(v=0∨v<n)→κ (v,p+1)):zo b p n κ:=by
 obtain ⟨hb,h0,h1⟩:=hr
 unfold zo jnW
 have hz:κ (0,p+1):=h 0 (Int.le_refl _) (.inl rfl)
 refine zC (by omega) (by omega) (zp (fun hc=>?_) (fun hc=>zp (fun hc2=>?_) (fun hc2=>?_)))
 ·simp only [Un];exact hz
 ·exact hz
 ·simp at hc hc2
  have hpos:0<(b.length:Int):=by
   cases b with
   | nil=>simp at hc2
   | cons x l=>simp
  refine yC (by omega) (by omega) ?_
  have ep:p+1 - 1=p:=by omega
  rw [ep]
  refine zp (fun hc3=>?_) (fun hc3=>?_)
  ·simp at hc3
   refine Zo h0 hc3 (fun e _=>?_)
   have:=ziF e
   exact zc6 (by omega) (by omega) (by omega) (fun z z1 z2=>h z z1 (.inr z2))
  ·refine zc6 h0 (by omega) hpos (fun z z1 z2=>Zo z1 z2 (fun e _=>?_))
   have he:=ziF e
   refine zbN (by omega) (by omega) (zbN (by omega) (by omega) (zC (by omega) (by omega) (zc6 (by omega) (by omega) hpos (fun y y1 y2=>Zo y1 y2 (fun d _=>?_)))))
   have hd:=ziF d
   refine zbN (by omega) (by omega) (zC (by omega) (by omega) (zbN (by omega) (by omega) (zC (by omega) (by omega) (zh2 (by omega) (by omega) hpos (fun q q1 q2=>?_)))))
   refine zbN (by omega) (by omega) (zC (by omega) (by omega) (zh2 (by omega) (by omega) (by omega) (fun r r1 r2=>?_)))
   exact zkB (by omega) (by omega) (by omega) (by omega) (fun x x1 x2=>zc6 x1 (by omega) (by omega) (fun z z1 z2=>h z z1 (.inr z2)))
theorem zeH {b:List UInt8} {p n:Int} (hr:RdP b p) (hn:n≤4294967296) {κ:Bool×Int→Prop} (h:∀ c p',p≤p'→p'≤p+1→κ (c,p')):xp b p n κ:=by
 unfold xp jnW
 refine zp (fun hc=>uH hr (fun v v1 v2=>yC (by simp at hc;omega) (by simp at hc;omega) (h _ _ (by omega) (by omega)))) (fun hc=>h _ _ (by omega) (by omega))
theorem zij {c:List UInt8} {κ:List UInt8×Int→Prop} (h:∀ b,b.length≤2000→κ (b,0)):YO c κ:=by
 unfold YO jnW
 refine zp (fun hc=>?_) (fun hc=>?_)
 ·simp at hc
  refine ⟨by omega,by omega,by omega,h _ (by simp;omega)⟩
 ·simp at hc
  exact h _ (by omega)
theorem zfV {κ:Bool→Prop} (h:κ true):UD κ:=by
 unfold UD Uc
 refine ye (fun s=>s=0) (fun s=>0) ?_ rfl
 rintro s next rfl hn
 refine zp (fun _=>zr 0 rfl (by simp) ?_) (fun hc=>by simp at hc)
 simp [jnW]
 exact h
end
section
open Go.Lib (decDigits)
def cut (c:UInt8):List UInt8→List UInt8×List UInt8
 | []=>([],[])
 | d :: l=>if d=c then ([],l) else (d :: (cut c l).1,(cut c l).2)
end
section
open Go.Lib (decDigits)
theorem zac {n lo hi:Int} {κ:Bool→Prop} (h:κ (decide (lo≤n∧n≤hi))):yj n lo hi κ:=by
 unfold yj jnW
 refine zp (fun hc=>?_) (fun hc=>?_)
 ·simp at hc;simpa [hc] using h
 ·simp at hc
  have:decide (lo≤n∧n≤hi)=false:=by simp;omega
  rw [this] at h;exact h
end
section
open Go.Lib (decDigits)
theorem zeT {x:Int} (h1:-100≤x) (h2:x≤100):w64 x=x:=by
 simp [w64,IntKind.wrap,IntKind.signed,IntKind.bits];omega
theorem zmj {α:Type} {x a b c:α} (h:x∈[a,b,c]):x=a∨x=b∨x=c:=by simpa using h
theorem RdP.step {b:List UInt8} {p p':Int} {m:Int} (h:RdP b p) (h1:p≤p') (h2:p'≤1000000):RdP b p':=⟨h.1,by have:=h.2.1;omega,h2⟩
end
section
open Go.Lib (decDigits)
def top (f:Int):Int:=if f=0∨f=1 then 65535 else if f=2 then 255 else 7
theorem UM (f:Int):7≤top f∧top f≤65535:=by unfold top;repeat' split;all_goals omega
def nm (f:Int):List UInt8:=if f=0 then [102,114,111,109] else if f=1 then [116,111] else if f=2 then [112,111,114,116] else [112,114,111,116,111]
def TV (t:jk):Prop:=0≤t.xField∧t.xField≤3∧0≤t.xLo∧t.xLo≤t.xHi∧t.xHi≤top t.xField
instance (t:jk):Decidable (TV t):=by unfold TV;infer_instance
def rtx (t:jk):List UInt8:=decDigits t.xLo.toNat++(if t.xHi=t.xLo then [] else 45 :: decDigits t.xHi.toNat)
def btx (t:jk):List UInt8:=nm t.xField++32 :: rtx t
def ttx (t:jk):List UInt8:=if t.xNot then 110 :: 111 :: 116 :: 32 :: btx t else btx t
theorem zd6 {f:Int} (h0:0≤f) (h1:f≤3):f=0∨f=1∨f=2∨f=3:=by omega
theorem zhK {n:Int} {κ:XH→Prop} (h0:0≤n) (h1:n≤3) (h:∀ e:XH,e.xName=B (nm n)→e.xTop=top n→κ e):zB zE n κ:=by
 rcases zd6 h0 h1 with rfl | rfl | rfl | rfl
 ·exact zr 0 rfl (by decide) (h _ rfl rfl)
 ·exact zr 1 rfl (by decide) (h _ rfl rfl)
 ·exact zr 2 rfl (by decide) (h _ rfl rfl)
 ·exact zr 3 rfl (by decide) (h _ rfl rfl)
theorem xO {n:Int} {κ:Int→Prop} (h0:0≤n) (h1:n≤3) (h:κ (top n)):uj n κ:=by
 unfold uj jnW
 rcases zd6 h0 h1 with rfl | rfl | rfl | rfl <;> simpa [top] using h
theorem VU {n:Int} {κ:Int→Prop} (h:κ (if 0≤n∧n≤3 then top n else -1)):zG n κ:=by
 unfold zG jnW
 refine zp (fun hc=>?_) (fun hc=>zp (fun hc2=>?_) (fun hc2=>?_))
 ·simp at hc;rw [if_neg (by omega)] at h;simpa using h
 ·simp at hc hc2;rw [if_neg (by omega)] at h;exact h
 ·simp at hc hc2;rw [if_pos (by omega)] at h
  exact zhK (by omega) (by omega) (fun e _ he=>by rw [he];exact h)
theorem Vs {t:jk} {κ:Bool→Prop} (h:κ (decide (TV t))):ZD t κ:=by
 unfold ZD jnW
 refine zac (zp (fun hc=>?_) (fun hc=>?_))
 ·simp at hc
  refine zac (zp (fun hc2=>?_) (fun hc2=>?_))
  ·simp at hc2
   refine xO hc.1 hc.2 ?_
   rw [show decide (t.xHi≤top t.xField)=decide (TV t) from decide_eq_decide.2 ⟨fun hh=>⟨hc.1,hc.2,hc2.1,hc2.2,hh⟩,fun hh=>hh.2.2.2.2⟩]
   exact h
  ·simp at hc2
   rw [decide_eq_false (fun hh:TV t=>by obtain ⟨a1,a2,a3,a4,_⟩:=hh;omega)] at h;exact h
 ·simp at hc
  rw [decide_eq_false (fun hh:TV t=>by obtain ⟨a1,a2,a3,a4,_⟩:=hh;omega)] at h;exact h
theorem zcs {t:jk} {κ:Bool→Prop} (h:κ (decide (TV t))):X0 t κ:=by
 unfold X0 jnW
 have no:¬ (0≤t.xField∧t.xField<4∧0≤t.xLo∧t.xLo≤t.xHi)→κ false:=fun hn=>by
  rw [decide_eq_false (fun hh:TV t=>by obtain ⟨a1,a2,a3,a4,_⟩:=hh;omega)] at h;exact h
 refine zp (fun hc=>zp (fun hc2=>zp (fun hc3=>zp (fun hc4=>?_) (fun hc4=>no (by simp at hc4;omega))) (fun hc3=>no (by simp at hc3;omega))) (fun hc2=>no (by simp at hc2;omega))) (fun hc=>no (by simp at hc;omega))
 simp at hc hc2 hc3 hc4
 refine VU ?_
 rw [if_pos ⟨hc,by omega⟩]
 rw [show decide (t.xHi≤top t.xField)=decide (TV t) from decide_eq_decide.2 ⟨fun hh=>⟨hc,by omega,hc3,hc4,hh⟩,fun hh=>hh.2.2.2.2⟩]
 exact h
end
section
open Go Go.Proofs
def ZQ (a b:List ze):Int×Bool :=
 match jb a b with
 | []=>(0,false)
 | s :: _=>(s.xLo,true)
theorem ziw {a b:List ze} (ha:NF a) (hb:NF b) {v:Int} (h1:hv a v) (h2:hv b v) (h3:∀ x,hv a x→hv b x→v≤x):ZQ a b=(v,true):=by
 have hm:=zbI ha hb
 unfold ZQ
 have hv0:=(XM a b v).2 ⟨h1,h2⟩
 have hall:∀ x,hv (jb a b) x→v≤x:=fun x hx=>by
  obtain ⟨e1,e2⟩:=(XM a b x).1 hx
  exact h3 x e1 e2
 generalize jb a b=m at hm hv0 hall
 cases m with
 | nil=>exact absurd hv0 (uP v)
 | cons s m =>
  have e1:=hall s.xLo ((x7 _ _ _).2 (.inl ⟨Int.le_refl _,hm.1 s (by simp)⟩))
  have e2:=zbG hm hv0
  simp only [Prod.mk.injEq,and_true]
  omega
theorem zga {a b:List ze} (h:∀ x,hv a x→hv b x→False) (ha:NF a) (hb:NF b):ZQ a b=(0,false):=by
 unfold ZQ
 have hm:=zbI ha hb
 have hall:∀ x,¬ hv (jb a b) x:=fun x hx=>by
  obtain ⟨e1,e2⟩:=(XM a b x).1 hx
  exact h x e1 e2
 generalize jb a b=m at hm hall
 cases m with
 | nil=>rfl
 | cons s m=>exact absurd ((x7 s m s.xLo).2 (.inl ⟨Int.le_refl _,hm.1 s (by simp)⟩)) (hall _)
theorem zhD {a:List ze} {i:Nat} (h:i<a.length) (x:Int):hv (a.drop i) x↔(a[i].xLo≤x∧x≤a[i].xHi)∨hv (a.drop (i+1)) x:=by
 rw [List.drop_eq_getElem_cons h,x7]
theorem zaF {a:List ze} {i:Nat} (hn:NF a) (h:i<a.length) {x:Int} (hx:hv (a.drop i) x):a[i].xLo≤x:=by
 have:=zbF i hn
 rw [List.drop_eq_getElem_cons h] at this hx
 exact zbG this hx
theorem Ui {a b:List ze} {ta tb:Int} (ha:St a ta) (hb:St b tb) (h0:0≤ta) (ht:ta≤65535) (h1:0≤tb) (hu:tb≤65535) {κ:Int×Bool→Prop} (h:κ (ZQ a b)):uQ a b κ:=by
 have la:=UZ ha (by omega)
 have lb:=UZ hb (by omega)
 unfold uQ
 refine ye (fun (s:Int×Int)=>∃ i j:Nat,s.1=i∧s.2=j∧i≤a.length∧j≤b.length∧∀ x,hv a x→hv b x→hv (a.drop i) x∧hv (b.drop j) x) (fun s=>(a.length+b.length - s.1 - s.2).toNat) ?_ ⟨0,0,rfl,rfl,Nat.zero_le _,Nat.zero_le _,fun x q1 q2=>⟨by simpa using q1,by simpa using q2⟩⟩
 rintro ⟨_,_⟩ next ⟨i,j,rfl,rfl,hi,hj,hx⟩ hn
 simp only at hn ⊢
 unfold jnW
 have none:(i=a.length∨j=b.length)→κ (0,false):=fun hh=>by
  rw [zga (fun x q1 q2=>?_) ha.1 hb.1] at h
  ·exact h
  ·obtain ⟨r1,r2⟩:=hx x q1 q2
   rcases hh with e | e
   ·subst e;rw [List.drop_length] at r1;exact uP x r1
   ·subst e;rw [List.drop_length] at r2;exact uP x r2
 refine zp (fun hc=>?_) (fun hc=>?_)
 rotate_left 1
 ·have:a.length≤i:=by simpa using hc
  exact jG (none (.inl (by omega)))
 have hi2:i<a.length:=by simpa using hc
 refine zp (fun hd=>?_) (fun hd=>?_)
 rotate_left 1
 ·have:b.length≤j:=by simpa using hd
  exact none (.inr (by omega))
 have hj2:j<b.length:=by simpa using hd
 have a1:=ha.1.1 _ (List.getElem_mem hi2)
 have b1:=hb.1.1 _ (List.getElem_mem hj2)
 have ma:hv a a[i].xLo∧hv a a[i].xHi:=Va ha.1 (List.getElem_mem hi2)
 have mb:hv b b[j].xLo∧hv b b[j].xHi:=Va hb.1 (List.getElem_mem hj2)
 refine zr i rfl hi2 (zr j rfl hj2 (zr i rfl hi2 (zr j rfl hj2 (zp (fun he=>?_) (fun he=>?_)))))
 ·have he':max a[i].xLo b[j].xLo≤min a[i].xHi b[j].xHi:=by simpa using he
  rw [ziw ha.1 hb.1 (v:=max a[i].xLo b[j].xLo) ⟨a[i],List.getElem_mem hi2,by omega,by omega⟩ ⟨b[j],List.getElem_mem hj2,by omega,by omega⟩ (fun x q1 q2=>?_)] at h
  ·exact h
  ·obtain ⟨r1,r2⟩:=hx x q1 q2
   have:=zaF ha.1 hi2 r1
   have:=zaF hb.1 hj2 r2
   omega
 ·have he':¬ max a[i].xLo b[j].xLo≤min a[i].xHi b[j].xHi:=by simpa using he
  refine zr i rfl hi2 (zr j rfl hj2 (zp (fun hf=>?_) (fun hf=>?_)))
  ·have hf':a[i].xHi<b[j].xHi:=by simpa using hf
   refine zC (by omega) (by omega) (hn _ ⟨i+1,j,by simp,rfl,by omega,hj,fun x q1 q2=>?_⟩ (by simp only;omega))
   obtain ⟨r1,r2⟩:=hx x q1 q2
   refine ⟨?_,r2⟩
   rcases (zhD hi2 x).1 r1 with e | e
   ·have:=zaF hb.1 hj2 r2;omega
   ·exact e
  ·have hf':¬ a[i].xHi<b[j].xHi:=by simpa using hf
   refine zC (by omega) (by omega) (hn _ ⟨i,j+1,rfl,by simp,hi,by omega,fun x q1 q2=>?_⟩ (by simp only;omega))
   obtain ⟨r1,r2⟩:=hx x q1 q2
   refine ⟨r1,?_⟩
   rcases (zhD hj2 x).1 r2 with e | e
   ·have:=zaF ha.1 hi2 r1;omega
   ·exact e
def B4 (a:za):Prop:=St a.x0 65535∧St a.x1 65535∧St a.x2 255∧St a.x3 7
def F4 (a:za):Prop:=a.x0.length≤40∧a.x1.length≤40∧a.x2.length≤40∧a.x3.length≤40
instance (a:za):Decidable (F4 a):=by unfold F4;infer_instance
def zca:za:=⟨[],[],[],[]⟩
def xJ (a b:za):za:=⟨jb a.x0 b.x0,jb a.x1 b.x1,jb a.x2 b.x2,jb a.x3 b.x3⟩
theorem zdz {a b:za} (ha:B4 a) (hb:B4 b):B4 (xJ a b):=⟨Z5 ha.1 hb.1.1,Z5 ha.2.1 hb.2.1.1,Z5 ha.2.2.1 hb.2.2.1.1,Z5 ha.2.2.2 hb.2.2.2.1⟩
def em4 (a:za):Bool:=decide (a.x0=[]∨a.x1=[]∨a.x2=[]∨a.x3=[])
def zgU (a:za):za×Bool:=if F4 a then (a,true) else (zca,false)
def US:za:=⟨[⟨0,65535⟩],[⟨0,65535⟩],[⟨0,255⟩],[⟨0,7⟩]⟩
theorem zbU:B4 US:=by refine ⟨?_,?_,?_,?_⟩ <;> exact ⟨UL (by decide),fun s hs=>by simp only [US,List.mem_singleton] at hs;subst hs;decide⟩
theorem zb5 {a:za} {κ:Bool→Prop} (h:κ (em4 a)):uR a κ:=by
 obtain ⟨x0,x1,x2,x3⟩:=a
 simp only [em4] at h
 unfold uR
 refine ⟨5,?_⟩
 refine jq (zr 0 rfl (by simp) (zp (fun e=>?_) (fun e=>zC (by decide) (by decide) ?_)))
 ·have:x0=[]:=by simpa using e
  subst this;simpa using h
 have e0:x0≠[]:=by simpa using e
 refine jq (zr 1 rfl (by simp) (zp (fun e=>?_) (fun e=>zC (by decide) (by decide) ?_)))
 ·have:x1=[]:=by simpa using e
  subst this;simpa using h
 have e1:x1≠[]:=by simpa using e
 refine jq (zr 2 rfl (by simp) (zp (fun e=>?_) (fun e=>zC (by decide) (by decide) ?_)))
 ·have:x2=[]:=by simpa using e
  subst this;simpa using h
 have e2:x2≠[]:=by simpa using e
 refine jq (zr 3 rfl (by simp) (zp (fun e=>?_) (fun e=>zC (by decide) (by decide) ?_)))
 ·have:x3=[]:=by simpa using e
  subst this;simpa using h
 have e3:x3≠[]:=by simpa using e
 refine jG ?_
 simpa [e0,e1,e2,e3] using h
theorem zmy:top 0=65535:=rfl
theorem zms:top 1=65535:=rfl
theorem zmf:top 2=255:=rfl
theorem zmg:top 3=7:=rfl
theorem Zh {n:Int} {κ:Int→Prop} (h0:0≤n) (h1:n≤3) (h:κ (top n)):zG n κ:=VU (by rw [if_pos ⟨h0,h1⟩];exact h)
theorem zhI {a b:za} (ha:B4 a) (hb:B4 b) {κ:za×Bool→Prop} (h:κ (zgU (xJ a b))):yr a b κ:=by
 obtain ⟨a0,a1,a2,a3⟩:=a
 obtain ⟨b0,b1,b2,b3⟩:=b
 obtain ⟨p0,p1,p2,p3⟩:=ha
 obtain ⟨q0,q1,q2,q3⟩:=hb
 simp only at p0 p1 p2 p3 q0 q1 q2 q3
 have hT:(jb a0 b0).length≤40→(jb a1 b1).length≤40→(jb a2 b2).length≤40→(jb a3 b3).length≤40→κ (⟨jb a0 b0,jb a1 b1,jb a2 b2,jb a3 b3⟩,true):=fun e0 e1 e2 e3=>by
  have:zgU (xJ ⟨a0,a1,a2,a3⟩ ⟨b0,b1,b2,b3⟩)=(xJ ⟨a0,a1,a2,a3⟩ ⟨b0,b1,b2,b3⟩,true):=if_pos ⟨e0,e1,e2,e3⟩
  rw [this] at h;exact h
 have hF:¬ ((jb a0 b0).length≤40∧(jb a1 b1).length≤40∧(jb a2 b2).length≤40∧(jb a3 b3).length≤40)→κ (zca,false):=fun e=>by
  have:zgU (xJ ⟨a0,a1,a2,a3⟩ ⟨b0,b1,b2,b3⟩)=(zca,false):=if_neg e
  rw [this] at h;exact h
 clear h
 unfold yr
 refine ⟨5,?_⟩
 refine jq ?_
 unfold jnW
 refine zr 0 rfl (by simp) (zr 0 rfl (by simp) (Zh (n:=(0:Int)) (by decide) (by decide) (Yz (top:=top 0) p0 q0 (by decide) (by decide) ?_)))
 unfold lim
 by_cases c0:40<(jb a0 b0).length
 ·simp only [List.getElem_cons_zero,c0,if_true]
  exact jq (hF (by omega))
 simp only [List.getElem_cons_zero,c0,if_false]
 refine jG (zr 0 rfl (by simp) (zC (by decide) (by decide) ?_))
 refine jq ?_
 refine zr 1 rfl (by simp) (zr 1 rfl (by simp) (Zh (n:=(1:Int)) (by decide) (by decide) (Yz (top:=top 1) p1 q1 (by decide) (by decide) ?_)))
 unfold lim
 by_cases c1:40<(jb a1 b1).length
 ·simp only [List.getElem_cons_zero,List.getElem_cons_succ,c1,if_true]
  exact jq (hF (by omega))
 simp only [List.getElem_cons_zero,List.getElem_cons_succ,c1,if_false]
 refine jG (zr 1 rfl (by simp) (zC (by decide) (by decide) ?_))
 refine jq ?_
 refine zr 2 rfl (by simp) (zr 2 rfl (by simp) (Zh (n:=(2:Int)) (by decide) (by decide) (Yz (top:=top 2) p2 q2 (by decide) (by decide) ?_)))
 unfold lim
 by_cases c2:40<(jb a2 b2).length
 ·simp only [List.getElem_cons_zero,List.getElem_cons_succ,c2,if_true]
  exact jq (hF (by omega))
 simp only [List.getElem_cons_zero,List.getElem_cons_succ,c2,if_false]
 refine jG (zr 2 rfl (by simp) (zC (by decide) (by decide) ?_))
 refine jq ?_
 refine zr 3 rfl (by simp) (zr 3 rfl (by simp) (Zh (n:=(3:Int)) (by decide) (by decide) (Yz (top:=top 3) p3 q3 (by decide) (by decide) ?_)))
 unfold lim
 by_cases c3:40<(jb a3 b3).length
 ·simp only [List.getElem_cons_zero,List.getElem_cons_succ,c3,if_true]
  exact jq (hF (by omega))
 simp only [List.getElem_cons_zero,List.getElem_cons_succ,c3,if_false]
 refine jG (zr 3 rfl (by simp) (zC (by decide) (by decide) ?_))
 refine jG ?_
 exact ⟨_,_,_,_,rfl,hT (by omega) (by omega) (by omega) (by omega)⟩
end
section
open Go.Lib (decDigits)
def zmc (r:List UInt8):Prop:=∀ c m,r=c :: m→c=44
theorem zmc.dg {r:List UInt8} (h:zmc r):∀ c m,r=c :: m→dg c=false:=fun c m e=>by rw [h c m e];decide
end
section
open Go.Lib (decDigits)
theorem zlI (x:Int):-9223372036854775808≤w64 x∧w64 x≤9223372036854775807:=by
 simp [w64,IntKind.wrap,IntKind.signed,IntKind.bits];omega
theorem zim {b:List UInt8} {p tp n:Int} (hb:b.length≤2000) (h0:0≤p) (hp:p≤900000) (ht0:7≤tp) (ht:tp≤65535) (hn:n≤4294967296) {κ:ze×Int→Prop} (h:∀ q p',p≤p'→p'≤p+20→-9223372036854775808≤q.xHi→q.xHi≤65536→κ (q,p')):YR b p tp n κ:=by
 have rd:∀ p',p≤p'→p'≤p+30→RdP b p':=fun p' a c=>⟨hb,by omega,by omega⟩
 have B3:∀ (t144 t145:Int),p≤t144→t144≤p+6→zo b t144 4 (fun (r150,r151)=>zo b r151 256 (fun (r152,r153)=>zo b r153 4 (fun (r155,r156)=>zB ([0,r150,r152,4096]) r155 (fun e157=>xp b r156 n (fun (r174,r175)=>ifW r174 (zo b r175 3 (fun (r181,r182)=>zB ([(ze.mk (w64 ((min tp (w64 (t145+e157)))+1)) (min tp (w64 (t145+e157)))),(ze.mk (-1) (min tp (w64 (t145+e157)))),(ze.mk t145 (w64 (tp+1)))]) r181 (fun e183=>κ ((ze.mk e183.xLo e183.xHi),r182)))) (κ ((ze.mk t145 (min tp (w64 (t145+e157)))),r175))))))):=by
  intro t144 t145 g1 g2
  refine uH (rd _ (by omega) (by omega)) (fun v1 a1 c1=>uH (rd _ (by omega) (by omega)) (fun v2 a2 c2=>uH (rd _ (by omega) (by omega)) (fun v3 a3 c3=>Zo (by omega) (by simp;omega) (fun x _=>?_))))
  have hm:=zlI (t145+x)
  have hw:w64 (tp+1)=tp+1:=by simp [w64,IntKind.wrap,IntKind.signed,IntKind.bits];omega
  refine zeH (rd _ (by omega) (by omega)) hn (fun c p1 f1 f2=>zp (fun _=>?_) (fun _=>h _ _ (by omega) (by omega) (by simp only;omega) (by simp only;omega)))
  refine uH (rd _ (by omega) (by omega)) (fun v4 a4 c4=>Zo (by omega) (by simp;omega) (fun y hy=>?_))
  rw [hw] at hy
  have hb:-9223372036854775808≤y.xHi∧y.xHi≤65536:=by rcases zmj hy with e | e | e <;> subst e <;> simp only <;> omega
  exact h _ _ (by omega) (by omega) hb.1 hb.2
 unfold YR
 refine zC (by omega) (by omega) (uH (rd p (by omega) (by omega)) (fun v a c=>?_))
 unfold jnW
 refine zp (fun _=>?_) (fun _=>?_)
 ·refine uH (rd _ (by omega) (by omega)) (fun v5 a5 c5=>?_)
  refine zp (fun _=>?_) (fun _=>?_)
  ·exact uH (rd _ (by omega) (by omega)) (fun v6 a6 c6=>B3 _ _ (by omega) (by omega))
  ·exact B3 _ _ (by omega) (by omega)
 ·refine zp (fun e=>by cases e) (fun _=>B3 _ _ (by omega) (by omega))
theorem zeJ {b:List UInt8} {p n:Int} (hb:b.length≤2000) (h0:0≤p) (hp:p≤800000) (hn:n≤4294967296) {κ:jk×Int→Prop} (h:∀ q p',p≤p'→p'≤p+50→κ (q,p')):Xw b p n κ:=by
 have rd:∀ p',p≤p'→p'≤p+60→RdP b p':=fun p' a c=>⟨hb,by omega,by omega⟩
 unfold Xw
 refine uH (rd p (by omega) (by omega)) (fun f a1 c1=>uH (rd _ (by omega) (by omega)) (fun nt a2 c2=>xO (by omega) (by omega) ?_))
 have ht:=UM f
 refine zim hb (by omega) (by omega) ht.1 ht.2 (by omega) (fun sp p1 g1 g2 s1 s2=>?_)
 unfold jnW
 have fin:∀ (t241 t242 t243:Int),p≤t241→t241≤p+35→-9223372036854775808≤t243→t243≤65536→xp b t241 n (fun (r245,r246)=>ifW r245 (zo b r246 3 (fun (r247,r248)=>ifW (decide (r247=0)) (zo b r248 2 (fun (r251,r252)=>zB ([(-1),4]) r251 (fun e253=>κ ((jk.mk e253 t242 t243 (decide (nt=0))),r252)))) (ifW (decide (r247=1)) (jz t243 1 (fun t255=>κ ((jk.mk f t255 t243 (decide (nt=0))),r248))) (jz (top f) 1 (fun t256=>κ ((jk.mk f t242 t256 (decide (nt=0))),r248)))))) (κ ((jk.mk f t242 t243 (decide (nt=0))),r246))):=by
  intro t241 t242 t243 q1 q2 q3 q4
  refine zeH (rd _ (by omega) (by omega)) hn (fun c p1 f1 f2=>zp (fun _=>?_) (fun _=>h _ _ (by omega) (by omega)))
  refine uH (rd _ (by omega) (by omega)) (fun v4 a4 c4=>zp (fun _=>?_) (fun _=>zp (fun _=>zC (by omega) (by omega) (h _ _ (by omega) (by omega))) (fun _=>zC (by omega) (by omega) (h _ _ (by omega) (by omega)))))
  exact uH (rd _ (by omega) (by omega)) (fun v5 a5 c5=>Zo (by omega) (by simp;omega) (fun y _=>h _ _ (by omega) (by omega)))
 have mid:∀ (t152 t153 t154:Int),p≤t152→t152≤p+30→-9223372036854775808≤t154→t154≤65536→zo b t152 8 (fun (r156,r157)=>ifW (decide (r156=0)) (zo b r157 3 (fun (r163,r164)=>zB ([(ze.mk 0 (top f)),(ze.mk 0 t154),(ze.mk t153 (top f))]) r163 (fun e165=>xp b r164 n (fun (r245,r246)=>ifW r245 (zo b r246 3 (fun (r247,r248)=>ifW (decide (r247=0)) (zo b r248 2 (fun (r251,r252)=>zB ([(-1),4]) r251 (fun e253=>κ ((jk.mk e253 e165.xLo e165.xHi (decide (nt=0))),r252)))) (ifW (decide (r247=1)) (jz e165.xHi 1 (fun t255=>κ ((jk.mk f t255 e165.xHi (decide (nt=0))),r248))) (jz (top f) 1 (fun t256=>κ ((jk.mk f e165.xLo t256 (decide (nt=0))),r248)))))) (κ ((jk.mk f e165.xLo e165.xHi (decide (nt=0))),r246)))))) (xp b r157 n (fun (r245,r246)=>ifW r245 (zo b r246 3 (fun (r247,r248)=>ifW (decide (r247=0)) (zo b r248 2 (fun (r251,r252)=>zB ([(-1),4]) r251 (fun e253=>κ ((jk.mk e253 t153 t154 (decide (nt=0))),r252)))) (ifW (decide (r247=1)) (jz t154 1 (fun t255=>κ ((jk.mk f t255 t154 (decide (nt=0))),r248))) (jz (top f) 1 (fun t256=>κ ((jk.mk f t153 t256 (decide (nt=0))),r248)))))) (κ ((jk.mk f t153 t154 (decide (nt=0))),r246))))):=by
  intro t152 t153 t154 q1 q2 q3 q4
  refine uH (rd _ (by omega) (by omega)) (fun v4 a4 c4=>zp (fun _=>?_) (fun _=>fin _ _ _ (by omega) (by omega) q3 q4))
  refine uH (rd _ (by omega) (by omega)) (fun v5 a5 c5=>Zo (by omega) (by simp;omega) (fun y hy=>?_))
  have hb:-9223372036854775808≤y.xHi∧y.xHi≤65536:=by rcases zmj hy with e | e | e <;> subst e <;> simp only <;> omega
  exact fin _ _ _ (by omega) (by omega) hb.1 hb.2
 refine zp (fun _=>?_) (fun _=>?_)
 ·refine uH (rd _ (by omega) (by omega)) (fun v a c=>?_)
  refine zp (fun _=>?_) (fun _=>mid _ _ _ (by omega) (by omega) s1 s2)
  refine uH (rd _ (by omega) (by omega)) (fun v2 a2 c2=>uH (rd _ (by omega) (by omega)) (fun v3 a3 c3=>?_))
  have hw:w64 (v2+v3)=v2+v3:=zeT (by omega) (by omega)
  exact mid _ _ _ (by omega) (by omega) (by rw [hw];omega) (by rw [hw];omega)
 ·exact zp (fun e=>by cases e) (fun _=>mid _ _ _ (by omega) (by omega) s1 s2)
end
section
open Go.Lib (decDigits)
def aw (a:Int):List UInt8:=if a=1 then [97,99,99,101,112,116] else if a=2 then [100,114,111,112] else if a=3 then [99,97,108,108] else if a=4 then [114,101,116,117,114,110] else [110,111,110,101]
def TsV (ts:List jk):Prop:=(∀ t,t∈ts→TV t)∧ts.length≤6
instance (ts:List jk):Decidable (TsV ts):=by unfold TsV;infer_instance
def HV (a c:Int):Prop:=1≤a∧a≤5∧(a=3→0≤c∧c≤4)∧(a≠3→c=0)
instance (a c:Int):Decidable (HV a c):=by unfold HV;infer_instance
def RV (r:zt):Prop:=TsV r.xTests∧HV r.xAction r.xChain
instance (r:zt):Decidable (RV r):=by unfold RV;infer_instance
def hd (a c:Int):List UInt8:=aw a++(if a=3 then 32 :: decDigits c.toNat else [])
def tl (ts:List jk):List UInt8:=ts.flatMap (fun t=>44 :: 32 :: ttx t)
theorem Vb {ts:List jk} {κ:Bool→Prop} (hl:ts.length≤4294967296) (h:κ (decide (TsV ts))):Zp ts κ:=by
 unfold Zp
 refine z6 ts.length (fun s=>s) (fun k s=>s=(k:Int)∧k≤ts.length∧∀ t,t∈ts.take k→TV t) (fun k s h=>h.1) (fun k s h=>h.2.1) ?_ ⟨rfl,Nat.zero_le _,by simp⟩
 rintro k _ next ⟨rfl,hk,he⟩ hn
 refine zp (fun hc=>?_) (fun hc=>?_)
 ·have hlt:k<ts.length:=by simpa using hc
  refine zr k rfl hlt (Vs (zp (fun hc2=>?_) (fun hc2=>?_)))
  ·simp at hc2
   rw [decide_eq_false (fun hh:TsV ts=>hc2 (hh.1 _ (List.getElem_mem hlt)))] at h;exact h
  ·simp at hc2
   refine zC (by omega) (by omega) (hn hlt _ ⟨by omega,by omega,fun t ht=>?_⟩)
   rw [List.take_succ_eq_append_getElem hlt] at ht
   rcases List.mem_append.1 ht with ht | ht
   ·exact he t ht
   ·rw [List.mem_singleton] at ht;subst ht;exact hc2
 ·have hge:ts.length≤k:=by simpa using hc
  rw [List.take_of_length_le hge] at he
  rw [show decide ((ts.length:Int)≤6)=decide (TsV ts) from decide_eq_decide.2 ⟨fun hh=>⟨he,by omega⟩,fun hh=>by have:=hh.2;omega⟩]
  exact h
theorem zb3 {ts:List jk} {κ:Bool→Prop} (hl:ts.length≤4294967296) (h:κ (decide (TsV ts))):Xh ts κ:=by
 unfold Xh
 refine zp (fun hc=>?_) (fun hc=>?_)
 ·rw [decide_eq_false (fun hh:TsV ts=>by have:=hh.2;simp at hc;omega)] at h;exact h
 simp at hc
 refine z6 ts.length (fun s=>s) (fun k s=>s=(k:Int)∧k≤ts.length∧∀ t,t∈ts.take k→TV t) (fun k s h=>h.1) (fun k s h=>h.2.1) ?_ ⟨rfl,Nat.zero_le _,by simp⟩
 rintro k _ next ⟨rfl,hk,he⟩ hn
 refine zp (fun hc=>?_) (fun hc=>?_)
 ·have hlt:k<ts.length:=by simpa using hc
  refine zr k rfl hlt (zcs (zp (fun hc2=>?_) (fun hc2=>?_)))
  ·simp at hc2
   rw [decide_eq_false (fun hh:TsV ts=>hc2 (hh.1 _ (List.getElem_mem hlt)))] at h;exact h
  ·simp at hc2
   refine zC (by omega) (by omega) (hn hlt _ ⟨by omega,by omega,fun t ht=>?_⟩)
   rw [List.take_succ_eq_append_getElem hlt] at ht
   rcases List.mem_append.1 ht with ht | ht
   ·exact he t ht
   ·rw [List.mem_singleton] at ht;subst ht;exact hc2
 ·have hge:ts.length≤k:=by simpa using hc
  rw [List.take_of_length_le hge] at he
  rw [show decide (TsV ts)=true from decide_eq_true ⟨he,by omega⟩] at h;exact h
theorem zcz {r:zt} {κ:Bool→Prop} (hl:r.xTests.length≤4294967296) (h:κ (decide (RV r))):XX r κ:=by
 have no:¬ RV r→κ false:=fun hn=>by rw [decide_eq_false hn] at h;exact h
 unfold XX jnW
 refine Vb hl (zp (fun h1=>?_) (fun h1=>no (fun hh=>by simp [hh.1] at h1)))
 simp at h1
 refine zac (zp (fun h2=>?_) (fun h2=>no (fun hh=>by simp [hh.2.1,hh.2.2.1] at h2)))
 simp at h2
 refine zp (fun h3=>?_) (fun h3=>?_)
 ·simp at h3
  refine zac (zp (fun h4=>?_) (fun h4=>?_))
  ·simp at h4
   rw [show decide (RV r)=true from decide_eq_true ⟨h1,h2.1,h2.2,fun _=>h4,fun e=>absurd h3 e⟩] at h;exact h
  ·simp at h4
   simp only [h3,decide_true,Bool.not_true,zcG]
   exact no (fun hh=>by have:=hh.2.2.2.1 h3;omega)
 ·simp at h3
  simp only [h3,decide_false,Bool.not_false,Un]
  rw [show decide (r.xChain=0)=decide (RV r) from decide_eq_decide.2 ⟨fun hh=>⟨h1,h2.1,h2.2,fun e=>absurd e h3,fun _=>hh⟩,fun hh=>hh.2.2.2.2 h3⟩]
  exact h
theorem zck {r:zt} {κ:Bool→Prop} (hl:r.xTests.length≤4294967296) (h:κ (decide (RV r))):XS r κ:=by
 have no:¬ RV r→κ false:=fun hn=>by rw [decide_eq_false hn] at h;exact h
 unfold XS jnW
 refine zb3 hl (zp (fun h1=>no (fun hh=>by simp [hh.1] at h1)) (fun h1=>?_))
 simp at h1
 refine zp (fun h3=>?_) (fun h3=>?_)
 ·simp at h3
  refine zp (fun h4=>?_) (fun h4=>no (fun hh=>by have:=hh.2.2.2.1 h3;simp at h4;omega))
  simp at h4
  rw [show decide (r.xChain<5)=decide (RV r) from decide_eq_decide.2 ⟨fun hh=>⟨h1,by omega,by omega,fun _=>⟨h4,by omega⟩,fun e=>absurd h3 e⟩,fun hh=>by have:=hh.2.2.2.1 h3;omega⟩]
  exact h
 ·simp at h3
  have yes:1≤r.xAction→r.xAction≤5→κ (decide (r.xChain=0)):=fun a1 a2=>by
   rw [show decide (r.xChain=0)=decide (RV r) from decide_eq_decide.2 ⟨fun hh=>⟨h1,a1,a2,fun e=>absurd e h3,fun _=>hh⟩,fun hh=>hh.2.2.2.2 h3⟩]
   exact h
  by_cases e1:r.xAction=1
  ·simp only [e1,decide_true,Un];exact yes (by omega) (by omega)
  by_cases e2:r.xAction=2
  ·simp only [e2,decide_true,Un];exact zp (fun e=>by simp at e) (fun _=>yes (by omega) (by omega))
  by_cases e4:r.xAction=4
  ·simp only [e4,decide_true,Un]
   exact zp (fun e=>by simp at e) (fun _=>zp (fun e=>by simp at e) (fun _=>yes (by omega) (by omega)))
  by_cases e5:r.xAction=5
  ·simp only [e5,decide_true,Un]
   exact zp (fun e=>by simp at e) (fun _=>zp (fun e=>by simp at e) (fun _=>zp (fun e=>by simp at e) (fun _=>yes (by omega) (by omega))))
  simp only [e1,e2,e4,e5,decide_false,zcG]
  exact no (fun hh=>by have:=hh.2.1;have:=hh.2.2.1;omega)
end
section
open Go.Lib (decDigits)
theorem zdP {b:List UInt8} {p n:Int} (hb:b.length≤2000) (h0:0≤p) (hp:p≤700000) (hn:n≤4294967296) {κ:List jk×Int→Prop} (h:∀ ts p',p≤p'→p'≤p+300→ts.length≤8→κ (ts,p')):Zd b p n κ:=by
 have rd:∀ p',p≤p'→p'≤p+300→RdP b p':=fun p' a c=>⟨hb,by omega,by omega⟩
 unfold Zd
 refine uH (rd p (by omega) (by omega)) (fun v a c=>?_)
 refine ye (fun s=>0≤s.2.2∧s.2.2≤3∧p≤s.1∧s.1≤p+1+50 * (3 - s.2.2)∧s.2.1.length+s.2.2.toNat≤3) (fun s=>s.2.2.toNat) ?_ ⟨a,by simp only;omega,by simp only;omega,by simp only;omega,by simp only [List.length_nil];omega⟩
 rintro ⟨q,xs,k⟩ next ⟨k0,k1,q0,q1,hx⟩ hnx
 simp only at k0 k1 q0 q1 hx
 refine zp (fun hc=>?_) (fun hc=>?_)
 ·simp at hc
  refine zeJ hb (by omega) (by omega) (by omega) (fun t p' g1 g2=>jn (by simp;omega) (yC (by omega) (by omega) (hnx _ ⟨by simp only;omega,by simp only;omega,by simp only;omega,by simp only;omega,by simp;omega⟩ (by simp only;omega))))
 ·simp at hc
  unfold jnW
  refine zeH (rd _ (by omega) (by omega)) hn (fun o p1 f1 f2=>zp (fun _=>?_) (fun _=>h _ _ (by omega) (by omega) (by omega)))
  refine uH (rd _ (by omega) (by omega)) (fun v2 a2 c2=>zp (fun _=>?_) (fun _=>?_))
  ·exact zeJ hb (by omega) (by omega) (by omega) (fun t p' g1 g2=>jn (by simp;omega) (h _ _ (by omega) (by omega) (by simp;omega)))
  ·exact UU 7 rfl (by omega) (by omega) (h _ _ (by omega) (by omega) (by simp))
theorem zeK {b:List UInt8} {p n first chains:Int} (hb:b.length≤2000) (h0:0≤p) (hp:p≤600000) (hn:n≤4294967296) (hf0:0≤first) (hf1:first≤100) (hc0:0≤chains) (hc1:chains≤100) {κ:zt×Int→Prop} (h:∀ r p',p≤p'→p'≤p+700→r.xTests.length≤8→κ (r,p')):XL b p first chains n κ:=by
 have rd:∀ p',p≤p'→p'≤p+700→RdP b p':=fun p' a c=>⟨hb,by omega,by omega⟩
 unfold XL
 refine zdP hb h0 (by omega) (by omega) (fun ts p1 g1 g2 hts=>uH (rd _ (by omega) (by omega)) (fun v a c=>Zo (by omega) (by simp;omega) (fun act _=>?_)))
 unfold jnW
 have fin:∀ (t86 t87 t88:Int),p≤t88→t88≤p+310→xp b t88 n (fun (r90,r91)=>ifW r90 (zo b r91 3 (fun (r92,r93)=>ifW (decide (r92=0)) (zo b r93 2 (fun (r96,r97)=>zB ([0,6]) r96 (fun e98=>κ ((zt.mk ts e98 t87),r97)))) (ifW (decide (r92=1)) (zo b r93 3 (fun (r102,r103)=>zB ([(-1),5,1]) r102 (fun e104=>κ ((zt.mk ts t86 e104),r103)))) (Zd b r93 1 (fun (r106,r109)=>κ ((zt.mk r106 t86 t87),r109)))))) (κ ((zt.mk ts t86 t87),r91))):=by
  intro t86 t87 t88 q1 q2
  refine zeH (rd _ (by omega) (by omega)) hn (fun o p2 f1 f2=>zp (fun _=>?_) (fun _=>h _ _ (by omega) (by omega) hts))
  refine uH (rd _ (by omega) (by omega)) (fun v2 a2 c2=>zp (fun _=>?_) (fun _=>zp (fun _=>?_) (fun _=>?_)))
  ·exact uH (rd _ (by omega) (by omega)) (fun v3 a3 c3=>Zo (by omega) (by simp;omega) (fun x _=>h _ _ (by omega) (by omega) hts))
  ·exact uH (rd _ (by omega) (by omega)) (fun v3 a3 c3=>Zo (by omega) (by simp;omega) (fun x _=>h _ _ (by omega) (by omega) hts))
  ·exact zdP hb (by omega) (by omega) (by omega) (fun ts2 p3 f3 f4 hts2=>h _ _ (by omega) (by omega) hts2)
 refine zp (fun _=>zp (fun _=>fin _ _ _ (by omega) (by omega)) (fun hc=>?_)) (fun _=>fin _ _ _ (by omega) (by omega))
 simp at hc
 refine yC (by omega) (by omega) (uH (rd _ (by omega) (by omega)) (fun v2 a2 c2=>zC (by omega) (by omega) (fin _ _ _ (by omega) (by omega))))
end
section
def Ca (cs:List (List zt)) (i j:Nat):Prop:=∃ c,cs[i]?=some c∧∃ r,r∈c∧r.xAction=3∧r.xChain=(j:Int)
def Sf (cs:List (List zt)) (i:Nat):Prop:=Acc (fun j i=>Ca cs i j) i
theorem zhX {cs:List (List zt)} {i:Nat} (h:∀ j,Ca cs i j→Sf cs j):Sf cs i:=Acc.intro _ h
inductive Wy (cs:List (List zt)):Nat→Nat→Prop
 | one {i j:Nat}:Ca cs i j→Wy cs i j
 | more {i j k:Nat}:Wy cs i j→Ca cs j k→Wy cs i k
theorem zjc {cs:List (List zt)} {i k:Nat} (w:Wy cs i k):∃ j,Ca cs i j∧(j=k∨Wy cs j k):=by
 induction w with
 | one h=>exact ⟨_,h,.inl rfl⟩
 | more _ h ih =>
  obtain ⟨j,h1,h2⟩:=ih
  rcases h2 with rfl | h2
  ·exact ⟨_,h1,.inr (.one h)⟩
  ·exact ⟨_,h1,.inr (.more h2 h)⟩
theorem zhl {cs:List (List zt)} {i:Nat} (hs:Sf cs i):¬ Wy cs i i:=by
 induction hs with
 | intro x _ ih =>
  intro w
  obtain ⟨j,h1,h2⟩:=zjc w
  rcases h2 with rfl | h2
  ·exact ih _ h1 w
  ·exact ih j h1 (.more h2 h1)
def Tg (cs:List (List zt)):Prop:=cs.length≤5∧∀ c,c∈cs→(c.length≤8∧∀ r,r∈c→RV r∧r.xChain<cs.length)
def Tw (cs:List (List zt)):Prop:=cs.length≤5∧∀ c,c∈cs→(c.length≤8∧∀ r,r∈c→RV r)
theorem Tg.w {cs:List (List zt)} (h:Tg cs):Tw cs:=⟨h.1,fun c hc=>⟨(h.2 c hc).1,fun r hr=>((h.2 c hc).2 r hr).1⟩⟩
theorem zlz {cs:List (List zt)} {j:Nat} (h:cs.length≤j):Sf cs j:=zhX (fun i ⟨c,h1,_⟩=>by have:=(List.getElem?_eq_some_iff.1 h1).1;omega)
theorem zeU {rules:List zt} {κ:List Int→Prop} (hl:rules.length≤8) (hv:∀ r,r∈rules→RV r) (h:∀ ys:List Int,ys.length≤5→(∀ x,x∈ys↔∃ r,r∈rules∧r.xAction=3∧r.xChain=x)→κ ys):XC rules κ:=by
 unfold XC
 refine z6 rules.length (fun s=>s.2) (fun k s=>s.2=(k:Int)∧k≤rules.length∧s.1.length=5∧∀ i:Nat,i<5→(s.1[i]?=some true↔∃ r,r∈rules.take k∧r.xAction=3∧r.xChain=(i:Int))) (fun k s h=>h.1) (fun k s h=>h.2.1) ?_ ⟨rfl,Nat.zero_le _,rfl,fun i hi=>?_⟩
 ·rintro k ⟨xs,_⟩ next ⟨rfl,hk,hx,he⟩ hn
  simp only at hx he
  refine zp (fun hc=>?_) (fun hc=>?_)
  ·have hlt:k<rules.length:=by simpa using hc
   have hrv:=hv _ (List.getElem_mem hlt)
   have htk:∀ r,r∈rules.take (k+1)↔r∈rules.take k∨r=rules[k]:=fun r=>by
    rw [List.take_succ_eq_append_getElem hlt,List.mem_append,List.mem_singleton]
   unfold jnW
   refine zr k rfl hlt (zp (fun h3=>?_) (fun h3=>?_))
   ·simp at h3
    have hch:=hrv.2.2.2.1 h3
    obtain ⟨m,hm⟩:=Int.eq_ofNat_of_zero_le hch.1
    refine Zo hch.1 (by rw [hx];omega) (fun _ _=>zC (by omega) (by omega) (hn hlt _ ⟨by simp,by omega,by simpa using hx,fun i hi=>?_⟩))
    simp only [htk]
    rw [hm,Int.toNat_natCast]
    by_cases e:i=m
    ·subst e
     simp only [List.getElem?_set_self (show i<xs.length by omega),true_iff]
     exact ⟨_,.inr rfl,h3,hm⟩
    ·rw [List.getElem?_set_ne (by omega),he i hi]
     constructor
     ·rintro ⟨r,h1,h2⟩;exact ⟨r,.inl h1,h2⟩
     ·rintro ⟨r,h1 | rfl,h2,h4⟩
      ·exact ⟨r,h1,h2,h4⟩
      ·omega
   ·simp at h3
    refine zC (by omega) (by omega) (hn hlt _ ⟨by simp,by omega,hx,fun i hi=>?_⟩)
    simp only [htk]
    rw [he i hi]
    constructor
    ·rintro ⟨r,h1,h2⟩;exact ⟨r,.inl h1,h2⟩
    ·rintro ⟨r,h1 | rfl,h2,h4⟩
     ·exact ⟨r,h1,h2,h4⟩
     ·exact absurd h2 h3
  ·have hge:rules.length≤k:=by simpa using hc
   rw [List.take_of_length_le hge] at he
   obtain ⟨e0,e1,e2,e3,e4,rfl⟩:∃ a b c d e,xs=[a,b,c,d,e]:=by
    match xs,hx with
    | [a,b,c,d,e],_=>exact ⟨a,b,c,d,e,rfl⟩
   refine ⟨e0,e1,e2,e3,e4,rfl,?_⟩
   refine z6 5 (fun s=>s.2) (fun j s=>s.2=(j:Int)∧j≤5∧s.1.length≤j∧∀ x,x∈s.1↔∃ i:Nat,i<j∧x=(i:Int)∧[e0,e1,e2,e3,e4][i]?=some true) (fun j s h=>h.1) (fun j s h=>h.2.1) ?_ ⟨rfl,Nat.zero_le _,by simp,by simp⟩
   rintro j ⟨ys,_⟩ next2 ⟨rfl,hj,hyl,hy⟩ hn2
   simp only at hyl hy
   refine zp (fun hc2=>?_) (fun hc2=>?_)
   ·have hj5:j<5:=by simp at hc2;omega
    have hjl:j<[e0,e1,e2,e3,e4].length:=by simpa using hj5
    unfold jnW
    refine zr j rfl hjl (zp (fun h3=>?_) (fun h3=>?_))
    ·refine jn (by simp;omega) (zC (by omega) (by omega) (hn2 hj5 _ ⟨by simp,by omega,by simp;omega,fun x=>?_⟩))
     simp only [List.mem_append,List.mem_singleton,hy]
     constructor
     ·rintro (⟨i,h1,h2,h4⟩ | rfl)
      ·exact ⟨i,by omega,h2,h4⟩
      ·exact ⟨j,by omega,rfl,by rw [List.getElem?_eq_getElem hjl,h3]⟩
     ·rintro ⟨i,h1,h2,h4⟩
      by_cases e:i=j
      ·subst e;exact .inr h2
      ·exact .inl ⟨i,by omega,h2,h4⟩
    ·refine zC (by omega) (by omega) (hn2 hj5 _ ⟨by simp,by omega,by simp only;omega,fun x=>?_⟩)
     simp only [hy]
     constructor
     ·rintro ⟨i,h1,h2,h4⟩;exact ⟨i,by omega,h2,h4⟩
     ·rintro ⟨i,h1,h2,h4⟩
      by_cases e:i=j
      ·subst e;rw [List.getElem?_eq_getElem hjl,h3] at h4;simp at h4
      ·exact ⟨i,by omega,h2,h4⟩
   ·have hj5:j=5:=by simp at hc2;omega
    subst hj5
    refine h ys hyl (fun x=>?_)
    rw [hy]
    constructor
    ·rintro ⟨i,h1,rfl,h4⟩;exact (he i h1).1 h4
    ·rintro ⟨r,h1,h2,rfl⟩
     have hch:=(hv r h1).2.2.2.1 h2
     obtain ⟨m,hm⟩:=Int.eq_ofNat_of_zero_le hch.1
     exact ⟨m,by omega,hm,(he m (by omega)).2 ⟨r,h1,h2,hm⟩⟩
 ·constructor
  ·intro hh
   have:i=0∨i=1∨i=2∨i=3∨i=4:=by omega
   rcases this with rfl | rfl | rfl | rfl | rfl <;> simp at hh
  ·rintro ⟨r,h1,_⟩;simp at h1
def Co (cols:List Int):Prop:=cols.length=5∧∀ x,x∈cols→x=0∨x=1∨x=2
theorem ziX {cols:List Int} {i:Nat} {v:Int} (h:Co cols) (hv:v=0∨v=1∨v=2):Co (cols.set i v):=⟨by rw [List.length_set];exact h.1,fun x hx=>by
 rcases List.mem_or_eq_of_mem_set hx with hx | rfl
 ·exact h.2 x hx
 ·exact hv⟩
structure Vi (cs:List (List zt)) (c:Nat) (cols:List Int) (ok:Bool) (cols':List Int):Prop where
 co:Co cols'
 black:∀ i:Nat,cols[i]?=some 2→cols'[i]?=some 2
 grey:∀ i:Nat,cols'[i]?=some 1↔cols[i]?=some 1
 white:cols'.count 0≤cols.count 0
 good:ok=true→(∀ i:Nat,cols[i]?=some 2→Sf cs i)→(∀ i:Nat,cols'[i]?=some 2→Sf cs i)∧(c<cs.length→cols'[c]?=some 2)
 bad:ok=false→(∀ g:Nat,cols[g]?=some 1→Wy cs g c)→∃ i,i<cs.length∧¬ Sf cs i
theorem ziv {cols:List Int} (h:cols.length=5):cols.count 0≤5:=by have:=List.count_le_length (a:=(0:Int)) (l:=cols);omega
theorem zgu {cs:List (List zt)} (ht:Tw cs):∀ (n c:Nat) (cols:List Int) (κ:Bool×List Int→Prop),Co cols→cols.count 0<n →
  (∀ ok cols',Vi cs c cols ok cols'→κ (ok,cols'))→uX n cs (c:Int) cols κ
 | 0,c,cols,κ,hco,hw,h=>by omega
 | n+1,c,cols,κ,hco,hw,h=>by
  have hn5:=ht.1
  show Xo (uX n) cs (c:Int) cols κ
  unfold Xo
  refine zp (fun hx=>h _ _ ⟨hco,fun i hi=>hi,fun i=>Iff.rfl,Nat.le_refl _,fun _ hb=>⟨hb,fun hlt=>by simp at hx;omega⟩,fun e=>by cases e⟩) (fun hx=>?_)
  have hc:c<cs.length:=by simp at hx;omega
  have hcl:c<cols.length:=by rw [hco.1];omega
  refine zr c rfl hcl (zp (fun h1=>?_) (fun h1=>zp (fun h2=>?_) (fun h2=>?_)))
  ·have e1:cols[c]?=some 1:=by rw [List.getElem?_eq_getElem hcl];simpa using h1
   exact h _ _ ⟨hco,fun i hi=>hi,fun i=>Iff.rfl,Nat.le_refl _,fun e=>(by cases e),fun _ hg=>⟨c,hc,fun hs=>zhl hs (hg c e1)⟩⟩
  ·have e2:cols[c]?=some 2:=by rw [List.getElem?_eq_getElem hcl];simpa using h2
   exact h _ _ ⟨hco,fun i hi=>hi,fun i=>Iff.rfl,Nat.le_refl _,fun _ hb=>⟨hb,fun _=>e2⟩,fun e=>by cases e⟩
  ·have e0:cols[c]=0:=by
    have:=hco.2 _ (List.getElem_mem hcl)
    simp at h1 h2;omega
   have e0':cols[c]?=some 0:=by rw [List.getElem?_eq_getElem hcl,e0]
   have hcs:cs[c]?=some cs[c]:=List.getElem?_eq_getElem hc
   have hch:=ht.2 _ (List.getElem_mem hc)
   refine zr c rfl hcl (zr c rfl hc (zeU hch.1 hch.2 (fun ys hyl hys=>?_)))
   have hca:∀ j:Nat,Ca cs c j↔(j:Int)∈ys:=fun j=>by
    rw [hys]
    constructor
    ·rintro ⟨c',h1,r,h2,h3⟩
     rw [hcs] at h1;cases h1
     exact ⟨r,h2,h3⟩
    ·rintro ⟨r,h2,h3⟩;exact ⟨_,hcs,r,h2,h3⟩
   have hcount:(cols.set c 1).count 0+1=cols.count 0:=by
    rw [List.count_set hcl]
    have:0<cols.count 0:=List.count_pos_iff.2 (by rw [← e0];exact List.getElem_mem hcl)
    simp [e0];omega
   have set1:∀ i:Nat,(cols.set c 1)[i]?=if i=c then some 1 else cols[i]?:=fun i=>by
    by_cases e:i=c
    ·subst e;simp [hcl]
    ·rw [List.getElem?_set_ne (by omega),if_neg e]
   refine z6 ys.length (fun s=>s.2.2) (fun k s=>s.2.2=(k:Int)∧k≤ys.length∧Co s.1∧(∀ i:Nat,cols[i]?=some 2→s.1[i]?=some 2)∧(∀ i:Nat,s.1[i]?=some 1↔(cols.set c 1)[i]?=some 1)∧s.1.count 0≤(cols.set c 1).count 0 ∧
    (s.2.1=true→(∀ i:Nat,cols[i]?=some 2→Sf cs i)→(∀ i:Nat,s.1[i]?=some 2→Sf cs i)∧∀ j:Nat,(j:Int)∈ys.take k→j<cs.length→s.1[j]?=some 2) ∧
    (s.2.1=false→(∀ g:Nat,cols[g]?=some 1→Wy cs g c)→∃ i,i<cs.length∧¬ Sf cs i)) (fun k s h=>h.1) (fun k s h=>h.2.1) ?_
    ⟨rfl,Nat.zero_le _,ziX hco (by simp),fun i hi=>?_,fun i=>Iff.rfl,Nat.le_refl _,fun _ hb=>⟨fun i hi=>?_,by simp⟩,fun e=>by cases e⟩
   ·rintro k ⟨X,ok,_⟩ next ⟨rfl,hk,xco,xb,xg,xw,xgood,xbad⟩ hnx
    simp only at xco xb xg xw xgood xbad
    refine zp (fun hlt=>?_) (fun hlt=>?_)
    ·have hlt:k<ys.length:=by simpa using hlt
     obtain ⟨r,hr,hr3,hrc⟩:=(hys ys[k]).1 (List.getElem_mem hlt)
     have hrv:=hch.2 r hr
     have hcc:=hrv.2.2.2.1 hr3
     obtain ⟨j,hj⟩:=Int.eq_ofNat_of_zero_le hcc.1
     have ej:ys[k]=(j:Int):=by omega
     have hcj:Ca cs c j:=⟨_,hcs,r,hr,hr3,hj⟩
     unfold jnW
     refine zr k rfl hlt ?_
     rw [ej]
     refine zgu ht n j X _ xco (by omega) (fun ok' X' v=>?_)
     have fin:∀ o:Bool,(o=true→ok=true∧ok'=true)→(o=false→ok=false∨ok'=false)→jz (k:Int) 1 (fun t93=>next (X',o,t93)):=by
      intro o ho1 ho2
      refine zC (by omega) (by omega) (hnx hlt _ ⟨by simp,by omega,v.co,fun i hi=>v.black i (xb i hi),fun i=>(v.grey i).trans (xg i),Nat.le_trans v.white xw,fun e hb=>?_,fun e hg=>?_⟩)
      ·obtain ⟨g1,g2⟩:=ho1 e
       obtain ⟨q1,q2⟩:=xgood g1 hb
       obtain ⟨q3,q4⟩:=v.good g2 q1
       refine ⟨q3,fun i hi hil=>?_⟩
       rw [List.take_succ_eq_append_getElem hlt,List.mem_append,List.mem_singleton] at hi
       rcases hi with hi | hi
       ·exact v.black i (q2 i hi hil)
       ·have:i=j:=by omega
        subst this;exact q4 hil
      ·rcases ho2 e with e1 | e1
       ·exact xbad e1 hg
       ·refine v.bad e1 (fun g hgx=>?_)
        rw [xg,set1] at hgx
        by_cases e2:g=c
        ·subst e2;exact .one hcj
        ·rw [if_neg e2] at hgx;exact .more (hg g hgx) hcj
     refine zp (fun e=>fin false (fun e=>by cases e) (fun _=>.inr (by simpa using e))) (fun e=>fin ok (fun e1=>⟨e1,by simpa using e⟩) (fun e1=>.inl e1))
    ·have hge:ys.length≤k:=by simpa using hlt
     rw [List.take_of_length_le hge] at xgood
     have hxl:c<X.length:=by rw [xco.1];omega
     have set2:∀ i:Nat,(X.set c 2)[i]?=if i=c then some 2 else X[i]?:=fun i=>by
      by_cases e:i=c
      ·subst e;simp [hxl]
      ·rw [List.getElem?_set_ne (by omega),if_neg e]
     have xc1:X[c]?=some 1:=by rw [xg,set1,if_pos rfl]
     refine zr c rfl hxl ?_
     rw [Int.toNat_natCast]
     refine h _ _ ⟨ziX xco (by simp),fun i hi=>?_,fun i=>?_,?_,fun e hb=>?_,fun e hg=>xbad e hg⟩
     ·rw [set2];split
      ·rfl
      ·exact xb i hi
     ·rw [set2]
      by_cases e:i=c
      ·subst e;rw [if_pos rfl,e0'];simp
      ·rw [if_neg e,xg,set1,if_neg e]
     ·rw [List.count_set hxl]
      have:X[c]=1:=by rw [List.getElem?_eq_getElem hxl] at xc1;exact Option.some.inj xc1
      simp [this];omega
     ·obtain ⟨q1,q2⟩:=xgood e hb
      have sc:Sf cs c:=zhX (fun j hj=>by
       by_cases hjl:j<cs.length
       ·exact q1 j (q2 j ((hca j).1 hj) hjl)
       ·exact zlz (by omega))
      refine ⟨fun i hi=>?_,fun _=>by rw [set2,if_pos rfl]⟩
      rw [set2] at hi
      by_cases e:i=c
      ·subst e;exact sc
      ·rw [if_neg e] at hi;exact q1 i hi
   ·show (cols.set c 1)[i]?=some 2
    rw [set1]
    by_cases e:i=c
    ·subst e;rw [e0'] at hi;simp at hi
    ·rw [if_neg e];exact hi
   ·change (cols.set c 1)[i]?=some 2 at hi
    rw [set1] at hi
    by_cases e:i=c
    ·subst e;simp at hi
    ·rw [if_neg e] at hi;exact hb i hi
theorem zia {cs:List (List zt)} {κ:Bool→Prop} (ht:Tw cs) (h1:(∀ i,i<cs.length→Sf cs i)→κ true) (h2:(¬ ∀ i,i<cs.length→Sf cs i)→κ false):YP cs κ:=by
 unfold YP
 have hn5:=ht.1
 refine z6 cs.length (fun s=>s.2) (fun k s=>s.2=(k:Int)∧k≤cs.length∧Co s.1∧(∀ i:Nat,s.1[i]?≠some 1)∧(∀ i:Nat,s.1[i]?=some 2→Sf cs i)∧(∀ i:Nat,i<k→s.1[i]?=some 2)) (fun k s h=>h.1) (fun k s h=>h.2.1) ?_ ⟨rfl,Nat.zero_le _,⟨rfl,by simp⟩,fun i=>?_,fun i hi=>?_,fun i hi=>by omega⟩
 ·rintro k ⟨X,_⟩ next ⟨rfl,hk,xco,xg,xs,xk⟩ hn
  simp only at xco xg xs xk
  refine zp (fun hc=>?_) (fun hc=>?_)
  ·have hlt:k<cs.length:=by simpa using hc
   refine ⟨6,zgu ht 6 k X _ xco (by have:=ziv xco.1;omega) (fun ok X' v=>?_)⟩
   refine zp (fun e=>h2 (fun hall=>?_)) (fun e=>zC (by omega) (by omega) (hn hlt _ ⟨by simp,by omega,v.co,fun i hi=>xg i ((v.grey i).1 hi),(v.good (by simpa using e) xs).1,fun i hi=>?_⟩))
   ·obtain ⟨i,hi,hns⟩:=v.bad (by simpa using e) (fun g hg=>absurd hg (xg g))
    exact hns (hall i hi)
   ·by_cases e2:i=k
    ·subst e2;exact (v.good (by simpa using e) xs).2 hlt
    ·exact v.black i (xk i (by omega))
  ·have hge:cs.length≤k:=by simpa using hc
   exact h1 (fun i hi=>xs i (xk i (by omega)))
 ·have:i=0∨i=1∨i=2∨i=3∨i=4∨5≤i:=by omega
  rcases this with rfl | rfl | rfl | rfl | rfl | h <;> simp
  rw [List.getElem?_eq_none (by simpa using h)];simp
 ·have:i=0∨i=1∨i=2∨i=3∨i=4∨5≤i:=by omega
  rcases this with rfl | rfl | rfl | rfl | rfl | h
  ·simp at hi
  ·simp at hi
  ·simp at hi
  ·simp at hi
  ·simp at hi
  ·rw [List.getElem?_eq_none (by simpa using h)] at hi;cases hi
end
section
def Rdy (cs:List (List zt)) (D:List Bool) (i:Nat):Prop:=∀ j,Ca cs i j→D[j]?=some true
theorem zmh {cs:List (List zt)} (ht:Tg cs) {i j:Nat} (h:Ca cs i j):i<cs.length∧j<cs.length:=by
 obtain ⟨c,h1,r,h2,h3,h4⟩:=h
 have hm:=List.mem_of_getElem? h1
 have:=(ht.2 c hm).2 r h2
 exact ⟨(List.getElem?_eq_some_iff.1 h1).1,by have:=this.2;omega⟩
theorem zgx {cs:List (List zt)} (ht:Tg cs) {D:List Bool} (hst:∀ i,i<cs.length→Rdy cs D i→D[i]?=some true) {i:Nat} (hs:Sf cs i):i<cs.length→D[i]?=some true:=by
 induction hs with
 | intro x _ ih=>exact fun hx=>hst x hx (fun j hj=>ih j hj (zmh ht hj).2)
theorem zio {D:List Bool} (h:∀ i,i<D.length→D[i]?=some true):D.count true=D.length:=by
 rw [List.count_eq_length]
 intro b hb
 obtain ⟨i,hi⟩:=List.getElem?_of_mem hb
 have:=h i (List.getElem?_eq_some_iff.1 hi).1
 rw [hi] at this;exact (Option.some.inj this).symm
theorem zh6 {D:List Bool} (h:D.count true=D.length) {i:Nat} (hi:i<D.length):D[i]?=some true:=by
 rw [List.getElem?_eq_getElem hi]
 exact congrArg some (List.count_eq_length.1 h _ (List.getElem_mem hi)).symm
theorem zih {s:zR} {κ:List Int→Prop} (ht:Tg s.xChains) (h1:(∀ i,i<s.xChains.length→Sf s.xChains i)→∀ ys:List Int,ys.length=s.xChains.length→κ ys) (h2:(¬ ∀ i,i<s.xChains.length→Sf s.xChains i)→∀ ys:List Int,ys.length≠s.xChains.length→κ ys):YZ s κ:=by
 have hn5:=ht.1
 generalize hcs:s.xChains=cs at *
 unfold YZ
 rw [hcs]
 refine UU cs.length rfl (by omega) (by omega) ?_
 refine z6 cs.length (fun s=>s.2.2) (fun k s=>s.2.2=(k:Int)∧k≤cs.length∧s.1.length=cs.length∧s.2.1.length=s.1.count true∧(∀ i:Nat,s.1[i]?=some true→Sf cs i)∧(k≤s.1.count true∨∀ i,i<cs.length→Rdy cs s.1 i→s.1[i]?=some true)) (fun k s h=>h.1) (fun k s h=>h.2.1) ?_
  ⟨rfl,Nat.zero_le _,by simp,by simp [List.count_replicate],fun i hi=>?_,.inl (Nat.zero_le _)⟩
 ·rintro k ⟨D0,ys0,_⟩ next ⟨rfl,hk,hD0,hy0,hs0,hst0⟩ hnx
  simp only at hD0 hy0 hs0 hst0
  refine zp (fun hc=>?_) (fun hc=>?_)
  ·have hltk:k<cs.length:=by simpa using hc
   refine z6 cs.length (fun s=>s.2.2) (fun m s=>s.2.2=(m:Int)∧m≤cs.length∧s.1.length=cs.length∧s.2.1.length=s.1.count true∧(∀ i:Nat,s.1[i]?=some true→Sf cs i)∧(∀ i:Nat,D0[i]?=some true→s.1[i]?=some true)∧(s.1=D0∨D0.count true<s.1.count true)∧(∀ i,i<m→Rdy cs D0 i→s.1[i]?=some true)) (fun k s h=>h.1) (fun k s h=>h.2.1) ?_
    ⟨rfl,Nat.zero_le _,hD0,hy0,hs0,fun i hi=>hi,.inl rfl,fun i hi=>by omega⟩
   rintro m ⟨D,ys,_⟩ next2 ⟨rfl,hm,hD,hy,hs,hmono,hcnt,hrd⟩ hn2
   simp only at hD hy hs hmono hcnt hrd
   have hDc:D.count true≤5:=by have:=List.count_le_length (a:=true) (l:=D);omega
   refine zp (fun hc2=>?_) (fun hc2=>?_)
   ·have hlt:m<cs.length:=by simpa using hc2
    have hmD:m<D.length:=by omega
    have hch:=ht.2 _ (List.getElem_mem hlt)
    have hcm:cs[m]?=some cs[m]:=List.getElem?_eq_getElem hlt
    unfold jnW
    refine zr m rfl hmD ?_
    refine z6 cs[m].length (fun s=>s.2) (fun j s=>s.2=(j:Int)∧j≤cs[m].length∧(s.1=true↔(D[m]=false∧∀ r,r∈cs[m].take j→r.xAction=3→D[r.xChain.toNat]?=some true))) (fun k s h=>h.1) (fun k s h=>h.2.1) ?_ ⟨rfl,Nat.zero_le _,by simp⟩
    rintro j ⟨fl,_⟩ next3 ⟨rfl,hj,hfl⟩ hn3
    simp only at hfl
    refine zr m rfl hlt (zp (fun hc3=>?_) (fun hc3=>?_))
    ·have hltj:j<cs[m].length:=by simpa using hc3
     have htk:∀ r,r∈cs[m].take (j+1)↔r∈cs[m].take j∨r=cs[m][j]:=fun r=>by
      rw [List.take_succ_eq_append_getElem hltj,List.mem_append,List.mem_singleton]
     have hrv:=hch.2 _ (List.getElem_mem hltj)
     refine zr m rfl hlt (zr j rfl hltj (zp (fun hf=>?_) (fun hf=>?_)))
     ·obtain ⟨f1,f2⟩:=hfl.1 hf
      refine zp (fun h3=>?_) (fun h3=>?_)
      ·refine zC (by omega) (by omega) (hn3 hltj _ ⟨by simp,by omega,⟨fun _=>⟨f1,fun r hr hr3=>?_⟩,fun _=>rfl⟩⟩)
       rcases (htk r).1 hr with hr | rfl
       ·exact f2 r hr hr3
       ·simp at h3;exact absurd hr3 h3
      ·have h3':cs[m][j].xAction=3:=by simpa using h3
       have hcc:=hrv.1.2.2.2.1 h3'
       have hc5:=hrv.2
       obtain ⟨q,hq⟩:=Int.eq_ofNat_of_zero_le hcc.1
       have hqD:q<D.length:=by omega
       refine zr q hq hqD (zC (by omega) (by omega) (hn3 hltj _ ⟨by simp,by omega,⟨fun e=>⟨f1,fun r hr hr3=>?_⟩,fun hh=>?_⟩⟩))
       ·rcases (htk r).1 hr with hr | rfl
        ·exact f2 r hr hr3
        ·rw [hq,Int.toNat_natCast,List.getElem?_eq_getElem hqD];exact congrArg some e
       ·have:=hh.2 _ ((htk _).2 (.inr rfl)) h3'
        rw [hq,Int.toNat_natCast,List.getElem?_eq_getElem hqD] at this
        exact Option.some.inj this
     ·refine zC (by omega) (by omega) (hn3 hltj _ ⟨by simp,by omega,⟨fun e=>(by cases e),fun hh=>?_⟩⟩)
      have:fl=true:=hfl.2 ⟨hh.1,fun r hr hr3=>hh.2 r ((htk r).2 (.inl hr)) hr3⟩
      rw [this] at hf;cases hf
    ·have hge:cs[m].length≤j:=by simpa using hc3
     rw [List.take_of_length_le hge] at hfl
     have rdy_of:∀ D':List Bool,Rdy cs D' m→∀ r,r∈cs[m]→r.xAction=3→D'[r.xChain.toNat]?=some true:=by
      intro D' hh r hr hr3
      have hcc:=(hch.2 r hr).1.2.2.2.1 hr3
      exact hh _ ⟨_,hcm,r,hr,hr3,by omega⟩
     refine zp (fun hf=>?_) (fun hf=>?_)
     ·obtain ⟨f1,f2⟩:=hfl.1 hf
      have hr:Rdy cs D m:=by
       rintro q ⟨c',e1,r,e2,e3,e4⟩
       rw [hcm] at e1;cases e1
       have:=f2 r e2 e3
       rw [e4] at this;simpa using this
      have set1:∀ i:Nat,(D.set m true)[i]?=if i=m then some true else D[i]?:=fun i=>by
       by_cases e:i=m
       ·subst e;simp [hmD]
       ·rw [List.getElem?_set_ne (by omega),if_neg e]
      have hcs':(D.set m true).count true=D.count true+1:=by
       rw [List.count_set hmD];simp [f1]
      refine zr m rfl hmD (jn (by simp;omega) (zC (by omega) (by omega) (hn2 hlt _ ⟨by simp,by omega,by simpa using hD,?_,fun i hi=>?_,fun i hi=>?_,.inr ?_,fun i hi hri=>?_⟩)))
      ·simp only [Int.toNat_natCast,hcs'];simp;omega
      ·simp only [Int.toNat_natCast,set1] at hi
       by_cases e:i=m
       ·subst e;exact zhX (fun j hj=>hs j (hr j hj))
       ·rw [if_neg e] at hi;exact hs i hi
      ·simp only [Int.toNat_natCast,set1];split
       ·rfl
       ·exact hmono i hi
      ·simp only [Int.toNat_natCast,hcs']
       rcases hcnt with rfl | h
       ·omega
       ·omega
      ·simp only [Int.toNat_natCast,set1];split
       ·rfl
       ·exact hrd i (by omega) hri
     ·refine zC (by omega) (by omega) (hn2 hlt _ ⟨by simp,by omega,hD,hy,hs,hmono,hcnt,fun i hi hri=>?_⟩)
      by_cases e:i=m
      ·subst e
       rw [List.getElem?_eq_getElem hmD]
       by_cases hDm:D[i]=false
       ·have:fl=true:=hfl.2 ⟨hDm,fun r hr hr3=>hmono _ (rdy_of D0 hri r hr hr3)⟩
        rw [this] at hf;cases hf
       ·simpa using hDm
      ·exact hrd i (by omega) hri
   ·have hme:m=cs.length:=by simp at hc2;omega
    subst hme
    refine zC (by omega) (by omega) (hnx hltk _ ⟨by simp,by omega,hD,hy,hs,?_⟩)
    rcases hcnt with rfl | hlt2
    ·exact .inr (fun i hi hri=>hrd i hi hri)
    ·rcases hst0 with h0 | h0
     ·exact .inl (by simp only;omega)
     ·refine .inr (fun i hi hri=>?_)
      exfalso
      have hall:∀ i:Nat,D[i]?=some true→D0[i]?=some true:=fun i hi=>zgx ht h0 (hs i hi) (by have:=(List.getElem?_eq_some_iff.1 hi).1;omega)
      have heq:D=D0:=by
       apply List.ext_getElem?
       intro i
       by_cases hi:i<D.length
       ·rw [List.getElem?_eq_getElem hi,List.getElem?_eq_getElem (show i<D0.length by omega)]
        cases hb:D[i] with
        | true =>
         have:=hall i (by rw [List.getElem?_eq_getElem hi,hb])
         rw [List.getElem?_eq_getElem (show i<D0.length by omega)] at this
         exact this.symm
        | false =>
         cases hb0:D0[i]'(by omega) with
         | false=>rfl
         | true =>
          have:=hmono i (by rw [List.getElem?_eq_getElem (show i<D0.length by omega),hb0])
          rw [List.getElem?_eq_getElem hi,hb] at this
          exact this
       ·rw [List.getElem?_eq_none (by omega),List.getElem?_eq_none (by omega)]
      rw [heq] at hlt2;omega
  ·have hge:k=cs.length:=by simp at hc;omega
   subst hge
   have hle:=List.count_le_length (a:=true) (l:=D0)
   by_cases hcn:D0.count true=cs.length
   ·exact h1 (fun i hi=>hs0 i (zh6 (by omega) (by omega))) ys0 (by omega)
   ·refine h2 (fun hall=>?_) ys0 (by omega)
    rcases hst0 with h0 | h0
    ·omega
    ·exact hcn ((zio (fun i hi=>zgx ht h0 (hall i (by omega)) (by omega))).trans hD0)
 ·exfalso
  simp only [List.getElem?_replicate] at hi
  split at hi <;> simp at hi
end
section
open Go.Lib (decDigits)
def RsV (c:List zt):Prop:=c.length≤8∧∀ r,r∈c→RV r
def SV (s:zR):Prop:=Tg s.xChains∧1≤s.xChains.length∧∀ i,i<s.xChains.length→Sf s.xChains i
def Bc (c:List zt):Prop:=c.length≤4294967296∧∀ r,r∈c→r.xTests.length≤4294967296
def Bd (s:zR):Prop:=s.xChains.length≤4294967296∧∀ c,c∈s.xChains→Bc c
theorem UW {α:Type} {l:List α} {k:Nat} (h:k<l.length) (x:α):x∈l.take (k+1)↔x∈l.take k∨x=l[k]:=by
 rw [List.take_succ_eq_append_getElem h,List.mem_append,List.mem_singleton]
theorem zb2 {c:List zt} {κ:Bool→Prop} (hb:Bc c) (h:∀ b,(b=true↔RsV c)→κ b):Xq c κ:=by
 have hl:=hb.1
 unfold Xq
 refine zp (fun hc=>h _ ⟨fun e=>(by cases e),fun hh=>by have:=hh.1;simp at hc;omega⟩) (fun hc0=>?_)
 simp at hc0
 refine z6 c.length (fun s=>s) (fun k s=>s=(k:Int)∧k≤c.length∧∀ r,r∈c.take k→RV r) (fun k s h=>h.1) (fun k s h=>h.2.1) ?_ ⟨rfl,Nat.zero_le _,by simp⟩
 rintro k _ next ⟨rfl,hk,he⟩ hn
 refine zp (fun hc=>?_) (fun hc=>?_)
 ·have hlt:k<c.length:=by simpa using hc
  refine zr k rfl hlt (zck (hb.2 _ (List.getElem_mem hlt)) (zp (fun hc2=>?_) (fun hc2=>?_)))
  ·simp at hc2
   exact h _ ⟨fun e=>(by cases e),fun hh=>absurd (hh.2 _ (List.getElem_mem hlt)) hc2⟩
  ·simp at hc2
   refine zC (by omega) (by omega) (hn hlt _ ⟨by omega,by omega,fun r hr=>?_⟩)
   rcases (UW hlt r).1 hr with hr | rfl
   ·exact he r hr
   ·exact hc2
 ·have hge:c.length≤k:=by simpa using hc
  rw [List.take_of_length_le hge] at he
  exact h _ ⟨fun _=>⟨by omega,he⟩,fun _=>rfl⟩
theorem zb8 {c:List zt} {κ:Bool→Prop} (hb:Bc c) (h:∀ b,(b=true↔RsV c)→κ b):Xk c κ:=by
 have hl:=hb.1
 unfold Xk
 refine z6 c.length (fun s=>s) (fun k s=>s=(k:Int)∧k≤c.length∧∀ r,r∈c.take k→RV r) (fun k s h=>h.1) (fun k s h=>h.2.1) ?_ ⟨rfl,Nat.zero_le _,by simp⟩
 rintro k _ next ⟨rfl,hk,he⟩ hn
 refine zp (fun hc=>?_) (fun hc=>?_)
 ·have hlt:k<c.length:=by simpa using hc
  refine zr k rfl hlt (zcz (hb.2 _ (List.getElem_mem hlt)) (zp (fun hc2=>?_) (fun hc2=>?_)))
  ·simp at hc2
   exact h _ ⟨fun e=>(by cases e),fun hh=>absurd (hh.2 _ (List.getElem_mem hlt)) hc2⟩
  ·simp at hc2
   refine zC (by omega) (by omega) (hn hlt _ ⟨by omega,by omega,fun r hr=>?_⟩)
   rcases (UW hlt r).1 hr with hr | rfl
   ·exact he r hr
   ·exact hc2
 ·have hge:c.length≤k:=by simpa using hc
  rw [List.take_of_length_le hge] at he
  exact h _ ⟨fun e=>⟨by simp at e;omega,he⟩,fun hh=>by have:=hh.1;simp;omega⟩
theorem zaQ {s:zR} {κ:Bool→Prop} (hb:Bd s) (h:∀ b,(b=true↔SV s)→κ b):Zz s κ:=by
 have hn:=hb.1
 have no:¬ SV s→κ false:=fun hns=>h _ ⟨fun e=>(by cases e),fun hh=>absurd hh hns⟩
 unfold Zz
 refine z6 s.xChains.length (fun s=>s) (fun k t=>t=(k:Int)∧k≤s.xChains.length∧∀ c,c∈s.xChains.take k→RsV c∧∀ r,r∈c→r.xChain<s.xChains.length) (fun k s h=>h.1) (fun k s h=>h.2.1) ?_ ⟨rfl,Nat.zero_le _,by simp⟩
 rintro k _ next ⟨rfl,hk,he⟩ hnx
 refine zp (fun hc=>?_) (fun hc=>?_)
 ·have hlt:k<s.xChains.length:=by simpa using hc
  have hmem:=List.getElem_mem hlt
  have hbc:=hb.2 _ hmem
  have hbl:=hbc.1
  refine zr k rfl hlt (zb8 hbc (fun b hbv=>zp (fun hf=>no (fun hh=>?_)) (fun hf=>?_)))
  ·have:b=true:=hbv.2 ⟨(hh.1.2 _ hmem).1,fun r hr=>((hh.1.2 _ hmem).2 r hr).1⟩
   rw [this] at hf;cases hf
  ·have hv:RsV s.xChains[k]:=hbv.1 (by simpa using hf)
   refine z6 s.xChains[k].length (fun s=>s) (fun j t=>t=(j:Int)∧j≤s.xChains[k].length∧∀ r,r∈s.xChains[k].take j→r.xChain<s.xChains.length) (fun k s h=>h.1) (fun k s h=>h.2.1) ?_ ⟨rfl,Nat.zero_le _,by simp⟩
   rintro j _ next2 ⟨rfl,hj,he2⟩ hn2
   refine zr k rfl hlt (zp (fun hc3=>?_) (fun hc3=>?_))
   ·have hltj:j<s.xChains[k].length:=by simpa using hc3
    refine zr k rfl hlt (zr j rfl hltj (zp (fun h3=>no (fun hh=>?_)) (fun h3=>?_)))
    ·have:=((hh.1.2 _ hmem).2 _ (List.getElem_mem hltj)).2
     simp at h3;omega
    ·simp at h3
     refine zC (by omega) (by omega) (hn2 hltj _ ⟨by omega,by omega,fun r hr=>?_⟩)
     rcases (UW hltj r).1 hr with hr | rfl
     ·exact he2 r hr
     ·omega
   ·have hge:s.xChains[k].length≤j:=by simpa using hc3
    rw [List.take_of_length_le hge] at he2
    refine zC (by omega) (by omega) (hnx hlt _ ⟨by omega,by omega,fun c hc=>?_⟩)
    rcases (UW hlt c).1 hc with hc | rfl
    ·exact he c hc
    ·exact ⟨hv,he2⟩
 ·have hge:s.xChains.length≤k:=by simpa using hc
  rw [List.take_of_length_le hge] at he
  unfold jnW
  refine zac (zp (fun h5=>?_) (fun h5=>no (fun hh=>?_)))
  ·simp at h5
   have ht:Tg s.xChains:=⟨by omega,fun c hc=>⟨(he c hc).1.1,fun r hr=>⟨(he c hc).1.2 r hr,(he c hc).2 r hr⟩⟩⟩
   refine zih ht (fun hall ys hy=>h _ ⟨fun _=>⟨ht,by omega,hall⟩,fun _=>by simp;omega⟩) (fun hall ys hy=>h _ ⟨fun e=>absurd (by simp at e;omega) hy,fun hh=>absurd hh.2.2 hall⟩)
  ·have:=hh.1.1;have:=hh.2.1
   simp at h5;omega
theorem zaS {s:zR} {κ:Bool→Prop} (hb:Bd s) (h:∀ b,(b=true↔SV s)→κ b):Zy s κ:=by
 have no:¬ SV s→κ false:=fun hns=>h _ ⟨fun e=>(by cases e),fun hh=>absurd hh hns⟩
 unfold Zy jnW
 simp only [Un]
 refine zp (fun hc=>no (fun hh=>by have:=hh.2.1;simp at hc;omega)) (fun h1=>zp (fun hc=>no (fun hh=>by have:=hh.1.1;simp at hc;omega)) (fun h5=>?_))
 simp at h1 h5
 refine z6 s.xChains.length (fun s=>s) (fun k t=>t=(k:Int)∧k≤s.xChains.length∧∀ c,c∈s.xChains.take k→RsV c) (fun k s h=>h.1) (fun k s h=>h.2.1) ?_ ⟨rfl,Nat.zero_le _,by simp⟩
 rintro k _ next ⟨rfl,hk,he⟩ hnx
 refine zp (fun hc=>?_) (fun hc=>?_)
 ·have hlt:k<s.xChains.length:=by simpa using hc
  have hmem:=List.getElem_mem hlt
  refine zr k rfl hlt (zb2 (hb.2 _ hmem) (fun b hbv=>zp (fun hf=>no (fun hh=>?_)) (fun hf=>?_)))
  ·have:b=true:=hbv.2 ⟨(hh.1.2 _ hmem).1,fun r hr=>((hh.1.2 _ hmem).2 r hr).1⟩
   rw [this] at hf;cases hf
  ·refine zC (by omega) (by omega) (hnx hlt _ ⟨by omega,by omega,fun c hc=>?_⟩)
   rcases (UW hlt c).1 hc with hc | rfl
   ·exact he c hc
   ·exact hbv.1 (by simpa using hf)
 ·have hge:s.xChains.length≤k:=by simpa using hc
  rw [List.take_of_length_le hge] at he
  refine z6 s.xChains.length (fun s=>s) (fun k t=>t=(k:Int)∧k≤s.xChains.length∧∀ c,c∈s.xChains.take k→∀ r,r∈c→r.xChain<s.xChains.length) (fun k s h=>h.1) (fun k s h=>h.2.1) ?_ ⟨rfl,Nat.zero_le _,by simp⟩
  rintro m _ next2 ⟨rfl,hm,he2⟩ hn2
  refine zp (fun hc2=>?_) (fun hc2=>?_)
  ·have hlt:m<s.xChains.length:=by simpa using hc2
   have hmem:=List.getElem_mem hlt
   have hv:=he _ hmem
   refine zr m rfl hlt (zeU hv.1 hv.2 (fun ys hyl hys=>?_))
   refine z6 ys.length (fun s=>s) (fun j t=>t=(j:Int)∧j≤ys.length∧∀ x,x∈ys.take j→x<s.xChains.length) (fun k s h=>h.1) (fun k s h=>h.2.1) ?_ ⟨rfl,Nat.zero_le _,by simp⟩
   rintro j _ next3 ⟨rfl,hj,he3⟩ hn3
   refine zp (fun hc3=>?_) (fun hc3=>?_)
   ·have hltj:j<ys.length:=by simpa using hc3
    refine zr j rfl hltj (zp (fun hx=>no (fun hh=>?_)) (fun hx=>?_))
    ·obtain ⟨r,hr,_,hrc⟩:=(hys _).1 (List.getElem_mem hltj)
     have:=((hh.1.2 _ hmem).2 r hr).2
     simp at hx;omega
    ·simp at hx
     refine zC (by omega) (by omega) (hn3 hltj _ ⟨by omega,by omega,fun x hxx=>?_⟩)
     rcases (UW hltj x).1 hxx with hxx | rfl
     ·exact he3 x hxx
     ·omega
   ·have hgej:ys.length≤j:=by simpa using hc3
    rw [List.take_of_length_le hgej] at he3
    refine zC (by omega) (by omega) (hn2 hlt _ ⟨by omega,by omega,fun c hc=>?_⟩)
    rcases (UW hlt c).1 hc with hc | rfl
    ·exact he2 c hc
    ·intro r hr
     by_cases h3:r.xAction=3
     ·exact he3 _ ((hys _).2 ⟨r,hr,h3,rfl⟩)
     ·have:=(hv.2 r hr).2.2.2.2 h3
      omega
  ·have hgem:s.xChains.length≤m:=by simpa using hc2
   rw [List.take_of_length_le hgem] at he2
   have ht:Tg s.xChains:=⟨by omega,fun c hc=>⟨(he c hc).1,fun r hr=>⟨(he c hc).2 r hr,he2 c hc r hr⟩⟩⟩
   exact zia ht.w (fun hall=>h _ ⟨fun _=>⟨ht,by omega,hall⟩,fun _=>rfl⟩) (fun hall=>h _ ⟨fun e=>(by cases e),fun hh=>absurd hh.2.2 hall⟩)
end
section
open Go Go.Proofs
theorem XF (a b:List ze):(ZQ a b).2=false↔jb a b=[]:=by
 unfold ZQ
 cases jb a b <;> simp
def fpk (a b:za):js×Bool:=if em4 (xJ a b) then (⟨0,0,0,0⟩,false) else (⟨(ZQ a.x0 b.x0).1,(ZQ a.x1 b.x1).1,(ZQ a.x2 b.x2).1,(ZQ a.x3 b.x3).1⟩,true)
theorem zdn {a b:za} (ha:B4 a) (hb:B4 b) {κ:js×Bool→Prop} (h:κ (fpk a b)):yg a b κ:=by
 obtain ⟨a0,a1,a2,a3⟩:=a
 obtain ⟨b0,b1,b2,b3⟩:=b
 obtain ⟨p0,p1,p2,p3⟩:=ha
 obtain ⟨q0,q1,q2,q3⟩:=hb
 simp only at p0 p1 p2 p3 q0 q1 q2 q3
 have hF:jb a0 b0=[]∨jb a1 b1=[]∨jb a2 b2=[]∨jb a3 b3=[]→κ (⟨0,0,0,0⟩,false):=fun e=>by
  have:fpk ⟨a0,a1,a2,a3⟩ ⟨b0,b1,b2,b3⟩=(⟨0,0,0,0⟩,false):=if_pos (decide_eq_true e)
  rw [this] at h;exact h
 have hT:¬ (jb a0 b0=[]∨jb a1 b1=[]∨jb a2 b2=[]∨jb a3 b3=[])→κ (⟨(ZQ a0 b0).1,(ZQ a1 b1).1,(ZQ a2 b2).1,(ZQ a3 b3).1⟩,true):=fun e=>by
  have:fpk ⟨a0,a1,a2,a3⟩ ⟨b0,b1,b2,b3⟩=(⟨(ZQ a0 b0).1,(ZQ a1 b1).1,(ZQ a2 b2).1,(ZQ a3 b3).1⟩,true):=if_neg (by rw [show em4 (xJ ⟨a0,a1,a2,a3⟩ ⟨b0,b1,b2,b3⟩)=false from decide_eq_false e];decide)
  rw [this] at h;exact h
 clear h
 unfold yg
 refine ⟨5,?_⟩
 refine jq ?_
 unfold jnW
 refine zr 0 rfl (by simp) (zr 0 rfl (by simp) (Ui p0 q0 (by decide) (by decide) (by decide) (by decide) ?_))
 simp only [List.getElem_cons_zero,List.getElem_cons_succ]
 refine zp (fun e=>hF (.inl ((XF _ _).1 (by simpa using e)))) (fun e=>?_)
 have e0:jb a0 b0≠[]:=fun f=>by have:=(XF _ _).2 f;simp [this] at e
 refine zr 0 rfl (by simp) (zC (by decide) (by decide) ?_)
 refine jq ?_
 refine zr 1 rfl (by simp) (zr 1 rfl (by simp) (Ui p1 q1 (by decide) (by decide) (by decide) (by decide) ?_))
 simp only [List.getElem_cons_zero,List.getElem_cons_succ]
 refine zp (fun e=>hF (.inr (.inl ((XF _ _).1 (by simpa using e))))) (fun e=>?_)
 have e1:jb a1 b1≠[]:=fun f=>by have:=(XF _ _).2 f;simp [this] at e
 refine zr 1 rfl (by simp) (zC (by decide) (by decide) ?_)
 refine jq ?_
 refine zr 2 rfl (by simp) (zr 2 rfl (by simp) (Ui p2 q2 (by decide) (by decide) (by decide) (by decide) ?_))
 simp only [List.getElem_cons_zero,List.getElem_cons_succ]
 refine zp (fun e=>hF (.inr (.inr (.inl ((XF _ _).1 (by simpa using e)))))) (fun e=>?_)
 have e2:jb a2 b2≠[]:=fun f=>by have:=(XF _ _).2 f;simp [this] at e
 refine zr 2 rfl (by simp) (zC (by decide) (by decide) ?_)
 refine jq ?_
 refine zr 3 rfl (by simp) (zr 3 rfl (by simp) (Ui p3 q3 (by decide) (by decide) (by decide) (by decide) ?_))
 simp only [List.getElem_cons_zero,List.getElem_cons_succ]
 refine zp (fun e=>hF (.inr (.inr (.inr ((XF _ _).1 (by simpa using e)))))) (fun e=>?_)
 have e3:jb a3 b3≠[]:=fun f=>by have:=(XF _ _).2 f;simp [this] at e
 refine zr 3 rfl (by simp) (zC (by decide) (by decide) ?_)
 refine jG ?_
 refine ⟨_,_,_,_,rfl,?_⟩
 unfold Uw
 refine zr 0 rfl (by simp) (zr 1 rfl (by simp) (zr 2 rfl (by simp) (zr 3 rfl (by simp) ?_)))
 exact hT (by rintro (f | f | f | f) <;> contradiction)
theorem zjR (a b:za):(fpk a b).2=!em4 (xJ a b):=by
 unfold fpk;cases em4 (xJ a b) <;> simp
theorem zcu {a b:za} (ha:B4 a) (hb:B4 b) {κ:Bool→Prop} (h:κ (!em4 (xJ a b))):uA a b κ:=by
 unfold uA
 refine zdn ha hb ?_
 rw [← zjR] at h;exact h
theorem zbc {κ:za→Prop} (h:κ US):Zc κ:=by
 unfold Zc
 refine ⟨5,?_⟩
 refine jq (Zh (n:=(0:Int)) (by decide) (by decide) (zr 0 rfl (by simp) (zC (by decide) (by decide) ?_)))
 refine jq (Zh (n:=(1:Int)) (by decide) (by decide) (zr 1 rfl (by simp) (zC (by decide) (by decide) ?_)))
 refine jq (Zh (n:=(2:Int)) (by decide) (by decide) (zr 2 rfl (by simp) (zC (by decide) (by decide) ?_)))
 refine jq (Zh (n:=(3:Int)) (by decide) (by decide) (zr 3 rfl (by simp) (zC (by decide) (by decide) ?_)))
 refine jG ?_
 exact ⟨_,_,_,_,rfl,h⟩
def xI (a b:List ze) (t:Int):List ze:=jb a (yL b t)
def ze7 (a b:za):za:=⟨xI a.x0 b.x0 65535,xI a.x1 b.x1 65535,xI a.x2 b.x2 255,xI a.x3 b.x3 7⟩
def in4 (a b:za):Bool:=em4 a || decide (ze7 a b=zca)
theorem zgf {a b:za} (ha:B4 a) (hb:B4 b) {κ:Bool→Prop} (h:κ (in4 a b)):yy a b κ:=by
 unfold yy
 refine zb5 (zp (fun e=>?_) (fun e=>?_))
 ·unfold in4 at h;rw [e] at h;exact h
 unfold in4 at h;rw [e,Bool.false_or] at h
 clear e
 obtain ⟨a0,a1,a2,a3⟩:=a
 obtain ⟨b0,b1,b2,b3⟩:=b
 obtain ⟨p0,p1,p2,p3⟩:=ha
 obtain ⟨q0,q1,q2,q3⟩:=hb
 simp only at p0 p1 p2 p3 q0 q1 q2 q3
 have hT:xI a0 b0 65535=[]→xI a1 b1 65535=[]→xI a2 b2 255=[]→xI a3 b3 7=[]→κ true:=fun e0 e1 e2 e3=>by
  rw [decide_eq_true (by simp only [ze7,zca,e0,e1,e2,e3])] at h;exact h
 have hF:¬ (xI a0 b0 65535=[]∧xI a1 b1 65535=[]∧xI a2 b2 255=[]∧xI a3 b3 7=[])→κ false:=fun e=>by
  rw [decide_eq_false (fun f=>e (by simpa only [ze7,zca,za.mk.injEq] using f))] at h;exact h
 clear h
 refine ⟨5,?_⟩
 refine jq ?_
 unfold jnW
 refine zr 0 rfl (by simp) (zr 0 rfl (by simp) (Zh (n:=(0:Int)) (by decide) (by decide) (Ya (top:=top 0) p0 q0 (by decide) (by decide) (zp (fun e=>hF (fun f=>?_)) (fun e=>zC (by decide) (by decide) ?_)))))
 ·have:=f.1;unfold xI at this;simp [this,zmy] at e
 have e0:xI a0 b0 65535=[]:=by simpa [xI,zmy] using e
 refine jq ?_
 refine zr 1 rfl (by simp) (zr 1 rfl (by simp) (Zh (n:=(1:Int)) (by decide) (by decide) (Ya (top:=top 1) p1 q1 (by decide) (by decide) (zp (fun e=>hF (fun f=>?_)) (fun e=>zC (by decide) (by decide) ?_)))))
 ·have:=f.2.1;unfold xI at this;simp [this,zms] at e
 have e1:xI a1 b1 65535=[]:=by simpa [xI,zms] using e
 refine jq ?_
 refine zr 2 rfl (by simp) (zr 2 rfl (by simp) (Zh (n:=(2:Int)) (by decide) (by decide) (Ya (top:=top 2) p2 q2 (by decide) (by decide) (zp (fun e=>hF (fun f=>?_)) (fun e=>zC (by decide) (by decide) ?_)))))
 ·have:=f.2.2.1;unfold xI at this;simp [this,zmf] at e
 have e2:xI a2 b2 255=[]:=by simpa [xI,zmf] using e
 refine jq ?_
 refine zr 3 rfl (by simp) (zr 3 rfl (by simp) (Zh (n:=(3:Int)) (by decide) (by decide) (Ya (top:=top 3) p3 q3 (by decide) (by decide) (zp (fun e=>hF (fun f=>?_)) (fun e=>zC (by decide) (by decide) ?_)))))
 ·have:=f.2.2.2;unfold xI at this;simp [this,zmg] at e
 have e3:xI a3 b3 7=[]:=by simpa [xI,zmg] using e
 exact jG (hT e0 e1 e2 e3)
end
section
open Go Go.Proofs
instance (l:List ze):Decidable (NF l):=by unfold NF;infer_instance
instance (l:List ze) (t:Int):Decidable (St l t):=by unfold St;infer_instance
theorem zdi:∀ {ys:List ze},(∀ s∈ys,s.xLo≤s.xHi)→(ys.Pairwise (fun a b=>a.xHi+1<b.xLo)↔∀ n,(h:n+1<ys.length)→ys[n].xHi+1<ys[n+1].xLo)
 | [],_=>by simp
 | [s],_=>by simp
 | s :: t :: ys,h=>by
  have ih:=zdi (ys:=t :: ys) (fun u hu=>h u (List.mem_cons_of_mem _ hu))
  rw [List.pairwise_cons,ih]
  constructor
  ·rintro ⟨h1,h2⟩ n hn
   cases n with
   | zero=>exact h1 t (by simp)
   | succ n=>exact h2 n (by simpa using hn)
  ·intro hh
   have h0:=hh 0 (by simp)
   have h2:∀ n,(h:n+1<(t :: ys).length)→(t :: ys)[n].xHi+1<(t :: ys)[n+1].xLo:=fun n hn=>hh (n+1) (by simpa using hn)
   refine ⟨fun u hu=>?_,h2⟩
   rcases List.mem_cons.1 hu with e | e
   ·subst e;exact h0
   ·have:=(List.pairwise_cons.1 (ih.2 h2)).1 u e
    have:=h t (by simp)
    simp only [List.getElem_cons_zero,List.getElem_cons_succ] at h0
    omega
theorem zfh {l:List ze} {top:Int}:St l top↔(∀ n,(h:n<l.length)→0≤l[n].xLo∧l[n].xLo≤l[n].xHi∧l[n].xHi≤top)∧∀ n,(h:n+1<l.length)→l[n].xHi+1<l[n+1].xLo:=by
 constructor
 ·rintro ⟨⟨h1,h2⟩,h3⟩
  exact ⟨fun n hn=>by have:=h1 _ (List.getElem_mem hn);have:=h3 _ (List.getElem_mem hn);omega,(zdi h1).1 h2⟩
 ·rintro ⟨h1,h2⟩
  have h3:∀ s∈l,0≤s.xLo∧s.xLo≤s.xHi∧s.xHi≤top:=fun s hs=>by
   obtain ⟨n,hn,e⟩:=List.getElem_of_mem hs
   rw [← e];exact h1 n hn
  exact ⟨⟨fun s hs=>(h3 s hs).2.1,(zdi (fun s hs=>(h3 s hs).2.1)).2 h2⟩,fun s hs=>⟨(h3 s hs).1,(h3 s hs).2.2⟩⟩
def SpV (l:List ze) (top:Int):Prop:=l.length≤40∧St l top
instance (l:List ze) (t:Int):Decidable (SpV l t):=by unfold SpV;infer_instance
theorem Y3 {l:List ze} {top:Int} (hl:l.length≤4294967296) (h0:0≤top) (ht:top≤65535) {κ:Bool→Prop} (h:κ (decide (SpV l top))):yq l top κ:=by
 unfold yq
 refine z6 l.length (fun s=>s) (fun k s=>s=(k:Int)∧k≤l.length∧(∀ n,(h:n<l.length)→n<k→0≤l[n].xLo∧l[n].xLo≤l[n].xHi∧l[n].xHi≤top)∧∀ n,(h:n+1<l.length)→n+1<k→l[n].xHi+1<l[n+1].xLo) (fun k s h=>h.1) (fun k s h=>h.2.1) ?_ ⟨rfl,Nat.zero_le _,fun n _ h=>by omega,fun n _ h=>by omega⟩
 rintro k _ next ⟨rfl,hk,h1,h2⟩ hn
 refine zp (fun hc=>?_) (fun hc=>?_)
 ·have hlt:k<l.length:=by simpa using hc
  have no:¬ (0≤l[k].xLo∧l[k].xLo≤l[k].xHi∧l[k].xHi≤top∧∀ j,(hj:j+1<l.length)→j+1=k→l[j].xHi+1<l[j+1].xLo)→κ false:=fun hh=>by
   rw [decide_eq_false (fun hs=>hh ?_)] at h
   ·exact h
   ·obtain ⟨e1,e2⟩:=zfh.1 hs.2
    exact ⟨(e1 k hlt).1,(e1 k hlt).2.1,(e1 k hlt).2.2,fun j hj _=>e2 j hj⟩
  have yes:(0≤l[k].xLo∧l[k].xLo≤l[k].xHi∧l[k].xHi≤top∧∀ j,(hj:j+1<l.length)→j+1=k→l[j].xHi+1<l[j+1].xLo)→jz (k:Int) 1 (fun t=>next t):=fun ⟨q1,q2,q3,q4⟩ =>
   zC (by omega) (by omega) (hn hlt _ ⟨by simp,by omega,fun n hn hnk=>by
    by_cases e:n=k
    ·subst e;exact ⟨q1,q2,q3⟩
    ·exact h1 n hn (by omega),fun n hn hnk=>by
    by_cases e:n+1=k
    ·exact q4 n hn e
    ·exact h2 n hn (by omega)⟩)
  unfold jnW
  refine zr k rfl hlt (zr k rfl hlt (zac (zp (fun e=>jq (no (fun f=>?_))) (fun e=>?_))))
  ·simp at e;omega
  simp at e
  refine zr k rfl hlt (zac (zp (fun e2=>jq (no (fun f=>?_))) (fun e2=>?_)))
  ·simp at e2;omega
  simp at e2
  refine zp (fun e3=>?_) (fun e3=>?_)
  ·have hk0:0<k:=by simpa using e3
   have hp:=h1 (k - 1) (by omega) (by omega)
   refine zr k rfl hlt (yC (by omega) (by omega) (zr (k - 1) (by omega) (by omega) (zC (by omega) (by omega) (zp (fun e4=>no (fun f=>?_)) (fun e4=>yes ⟨by omega,by omega,by omega,fun j hj hjk=>?_⟩)))))
   ·have:=f.2.2.2 (k - 1) (by omega) (by omega)
    simp at e4
    have ee:k - 1+1=k:=by omega
    simp only [ee] at this
    omega
   ·simp at e4
    obtain rfl:j=k - 1:=by omega
    have ee:k - 1+1=k:=by omega
    simp only [ee]
    omega
  ·have hk0:k=0:=by simpa using e3
   exact jG (yes ⟨by omega,by omega,by omega,fun j hj hjk=>by omega⟩)
 ·have hge:l.length≤k:=by simpa using hc
  have hs:St l top:=zfh.2 ⟨fun n hn=>h1 n hn (by omega),fun n hn=>h2 n hn (by omega)⟩
  unfold jnW
  refine zac (zp (fun e=>?_) (fun e=>by simp at e;omega))
  rw [show decide (SpV l top)=decide ((l.length:Int)≤40) from decide_eq_decide.2 ⟨fun q=>by have:=q.1;omega,fun q=>⟨by omega,hs⟩⟩] at h
  exact h
theorem zef {t:Int} {κ:Bool→Prop} (h0:0≤t) (ht:t≤65535) (h:κ true):Yk t κ:=by
 unfold Yk jnW
 rw [decide_eq_true h0,decide_eq_true ht]
 exact jq h
theorem zbo {l:List ze} {top:Int} (hl:l.length≤9223372036854775807) (h0:0≤top) (ht:top≤65535) {κ:Bool→Prop} (h:κ (decide (SpV l top))):Xr l top κ:=by
 unfold Xr jnW
 refine zef h0 ht (jG (zp (fun e=>?_) (fun e=>?_)))
 ·rw [decide_eq_false (fun q=>by have:=q.1;simp at e;omega)] at h;exact h
 have h40:l.length≤40:=by simp at e;omega
 refine z6 l.length (fun s=>s.2) (fun k (s:Int×Int)=>s.2=(k:Int)∧k≤l.length∧(∀ n,(h:n<l.length)→n<k→0≤l[n].xLo∧l[n].xLo≤l[n].xHi∧l[n].xHi≤top)∧(∀ n,(h:n+1<l.length)→n+1<k→l[n].xHi+1<l[n+1].xLo)∧(k=0→s.1=-2)∧(∀ n,(h:n<l.length)→n+1=k→s.1=l[n].xHi)) (fun k s h=>h.1) (fun k s h=>h.2.1) ?_ ⟨rfl,Nat.zero_le _,fun n _ h=>by omega,fun n _ h=>by omega,fun _=>rfl,fun n _ h=>by omega⟩
 rintro k ⟨a,_⟩ next ⟨rfl,hk,h1,h2,h3,h4⟩ hn
 simp only at h3 h4
 have ha:-2≤a∧a≤65535:=by
  by_cases e:k=0
  ·have:=h3 e;omega
  ·have:=h4 (k - 1) (by omega) (by omega);have:=h1 (k - 1) (by omega) (by omega);omega
 refine zp (fun hc=>?_) (fun hc=>?_)
 ·have hlt:k<l.length:=by simpa using hc
  have no:¬ (a+1<l[k].xLo∧l[k].xLo≤l[k].xHi∧l[k].xHi≤top)→κ false:=fun hh=>by
   rw [decide_eq_false (fun hs=>hh ?_)] at h
   ·exact h
   ·obtain ⟨e1,e2⟩:=zfh.1 hs.2
    have q:=e1 k hlt
    refine ⟨?_,q.2.1,q.2.2⟩
    by_cases e:k=0
    ·have:=h3 e;omega
    ·obtain ⟨j,rfl⟩:∃ j,k=j+1:=⟨k - 1,by omega⟩
     have:=h4 j (by omega) rfl
     have:=e2 j hlt
     omega
  refine zr k rfl hlt (zC (by omega) (by omega) (zp (fun e=>jq (no (fun f=>by simp at e;omega))) (fun e=>zp (fun e2=>jq (no (fun f=>by simp at e2;omega))) (fun e2=>zp (fun e3=>no (fun f=>by simp at e3;omega)) (fun e3=>?_)))))
  simp at e e2 e3
  have lo:0≤l[k].xLo:=by
   by_cases q:k=0
   ·have:=h3 q;omega
   ·have:=h4 (k - 1) (by omega) (by omega);have:=h1 (k - 1) (by omega) (by omega);omega
  refine zC (by omega) (by omega) (hn hlt _ ⟨by simp,by omega,fun n hn hnk=>?_,fun n hn hnk=>?_,fun f=>by omega,fun n hn hnk=>?_⟩)
  ·by_cases q:n=k
   ·subst q;exact ⟨lo,e2,e3⟩
   ·exact h1 n hn (by omega)
  ·by_cases q:n+1=k
   ·subst q
    have:=h4 n (by omega) rfl
    omega
   ·exact h2 n hn (by omega)
  ·obtain rfl:n=k:=by omega
   rfl
 ·have hge:l.length≤k:=by simpa using hc
  have hs:St l top:=zfh.2 ⟨fun n hn=>h1 n hn (by omega),fun n hn=>h2 n hn (by omega)⟩
  rw [decide_eq_true (show SpV l top from ⟨h40,hs⟩)] at h
  exact h
instance (l:List ze) (x:Int):Decidable (hv l x):=by unfold hv;infer_instance
end
section
open Go Go.Proofs
def bx (a:za):jd:=⟨[a.x0,a.x1,a.x2,a.x3]⟩
theorem VN {a:za} {κ:Bool→Prop} (h:κ (em4 a)):yv (bx a) κ:=by
 obtain ⟨x0,x1,x2,x3⟩:=a
 simp only [em4] at h
 unfold yv
 refine ⟨5,?_⟩
 refine jq (zr 0 rfl (by simp [bx]) (zp (fun e=>?_) (fun e=>zC (by decide) (by decide) ?_)))
 ·have:x0=[]:=by simpa [bx] using e
  subst this;simpa using h
 have e0:x0≠[]:=by simpa [bx] using e
 refine jq (zr 1 rfl (by simp [bx]) (zp (fun e=>?_) (fun e=>zC (by decide) (by decide) ?_)))
 ·have:x1=[]:=by simpa [bx] using e
  subst this;simpa using h
 have e1:x1≠[]:=by simpa [bx] using e
 refine jq (zr 2 rfl (by simp [bx]) (zp (fun e=>?_) (fun e=>zC (by decide) (by decide) ?_)))
 ·have:x2=[]:=by simpa [bx] using e
  subst this;simpa using h
 have e2:x2≠[]:=by simpa [bx] using e
 refine jq (zr 3 rfl (by simp [bx]) (zp (fun e=>?_) (fun e=>zC (by decide) (by decide) ?_)))
 ·have:x3=[]:=by simpa [bx] using e
  subst this;simpa using h
 have e3:x3≠[]:=by simpa [bx] using e
 refine jG ?_
 simpa [e0,e1,e2,e3] using h
theorem zeM {a b:za} (ha:B4 a) (hb:B4 b) {κ:jd→Prop} (h:κ (bx (xJ a b))):ZG (bx a) (bx b) κ:=by
 obtain ⟨p0,p1,p2,p3⟩:=ha
 obtain ⟨q0,q1,q2,q3⟩:=hb
 unfold ZG
 refine ⟨5,?_⟩
 refine jq ?_
 unfold jnW
 refine zr 0 rfl (by simp [bx]) (zr 0 rfl (by simp [bx]) (ZE p0 q0 (by decide) (by decide) (by decide) (by decide) (jn (by simp) (zC (by decide) (by decide) ?_))))
 refine jq ?_
 refine zr 1 rfl (by simp [bx]) (zr 1 rfl (by simp [bx]) (ZE p1 q1 (by decide) (by decide) (by decide) (by decide) (jn (by simp) (zC (by decide) (by decide) ?_))))
 refine jq ?_
 refine zr 2 rfl (by simp [bx]) (zr 2 rfl (by simp [bx]) (ZE p2 q2 (by decide) (by decide) (by decide) (by decide) (jn (by simp) (zC (by decide) (by decide) ?_))))
 refine jq ?_
 refine zr 3 rfl (by simp [bx]) (zr 3 rfl (by simp [bx]) (ZE p3 q3 (by decide) (by decide) (by decide) (by decide) (jn (by simp) (zC (by decide) (by decide) ?_))))
 exact jG h
theorem zge {κ:jd→Prop} (h:κ (bx US)):Yd κ:=by
 unfold Yd
 refine ⟨5,?_⟩
 refine jq ?_
 unfold jnW
 refine xO (n:=(0:Int)) (by decide) (by decide) (jn (by simp) (zC (by decide) (by decide) ?_))
 refine jq ?_
 refine xO (n:=(1:Int)) (by decide) (by decide) (jn (by simp) (zC (by decide) (by decide) ?_))
 refine jq ?_
 refine xO (n:=(2:Int)) (by decide) (by decide) (jn (by simp) (zC (by decide) (by decide) ?_))
 refine jq ?_
 refine xO (n:=(3:Int)) (by decide) (by decide) (jn (by simp) (zC (by decide) (by decide) ?_))
 exact jG h
theorem yu {l:List (List ze)} (hl:l.length≤4294967296) (hl2:∀ x∈l,x.length≤4294967296) {κ:List (List ze)→Prop} (h:κ l):ua l κ:=by
 unfold ua
 refine z6 l.length (fun s=>s.2) (fun k s=>s.2=(k:Int)∧k≤l.length∧s.1=l.take k) (fun k s h=>h.1) (fun k s h=>h.2.1) ?_ ⟨rfl,Nat.zero_le _,by simp⟩
 rintro k ⟨xs,t⟩ next ⟨rfl,hk,hx⟩ hn
 simp only at hx
 subst hx
 refine zp (fun hc=>?_) (fun hc=>?_)
 ·have hlt:k<l.length:=by simpa using hc
  have:=hl2 _ (List.getElem_mem hlt)
  refine zr k rfl hlt (jn (by simp;omega) (jn (by simp only [List.length_take,List.length_singleton];omega) (zC (by omega) (by omega) (hn hlt _ ⟨by simp,by omega,?_⟩))))
  rw [List.take_succ_eq_append_getElem hlt];rfl
 ·have hge:l.length≤k:=by simpa using hc
  rw [List.take_of_length_le hge];exact h
end
section
open Go Go.Proofs
def tsp (t:jk):List ze:=if t.xNot then yL [ze.mk t.xLo t.xHi] (top t.xField) else [ze.mk t.xLo t.xHi]
theorem zfY {lo hi t:Int} (h0:0≤lo) (h1:lo≤hi) (h2:hi≤t):St [ze.mk lo hi] t:=⟨UL h1,fun s hs=>by simp only [List.mem_singleton] at hs;subst hs;exact ⟨h0,h2⟩⟩
theorem zeg {t:jk} (h:TV t):St (tsp t) (top t.xField):=by
 obtain ⟨h1,h2,h3,h4,h5⟩:=h
 unfold tsp
 split
 ·exact YB (zfY h3 h4 h5)
 ·exact zfY h3 h4 h5
theorem zjC (lo hi t:Int):yL [ze.mk lo hi] t=(if 0<lo then [ze.mk 0 (lo - 1)] else [])++(if hi+1≤t then [ze.mk (hi+1) t] else []):=rfl
theorem zhj (t:jk):(tsp t).length≤2:=by
 unfold tsp
 split
 ·rw [zjC];simp only [List.length_append]
  split <;> split <;> simp
 ·simp
theorem zeW (a:List ze) (y:ze):(jb a [y]).length≤a.length:=by
 induction a with
 | nil=>simp [jb]
 | cons x a ih =>
  have e:jb (x :: a) [y]=YW x y++jb a [y]:=by simp [jb]
  have h1:(YW x y).length≤1:=by unfold YW;split <;> simp
  rw [e];simp only [List.length_append,List.length_cons];omega
theorem ze6 {y1 y2:ze} (hy:y1.xHi<y2.xLo):∀ {a:List ze},NF a→(jb a [y1,y2]).length≤a.length+1
 | [],_=>by simp [jb]
 | x :: a,h=>by
  have e:jb (x :: a) [y1,y2]=YW x y1++YW x y2++jb a [y1,y2]:=by simp [jb]
  have h1:∀ y,(YW x y).length≤1:=fun y=>by unfold YW;split <;> simp
  have ih:=ze6 hy (U7 h)
  rw [e];simp only [List.length_append,List.length_cons]
  have i1:=h1 y1
  have i2:=h1 y2
  by_cases c:max x.xLo y2.xLo≤min x.xHi y2.xHi
  ·have hg:=(List.pairwise_cons.1 h.2).1
   have e2:jb a [y1,y2]=jb a [y2]:=by
    have:∀ m:List ze,(∀ z∈m,y1.xHi<z.xLo)→jb m [y1,y2]=jb m [y2]:=by
     intro m
     induction m with
     | nil=>intro _;rfl
     | cons z m ihm =>
      intro hz
      have ez:YW z y1=[]:=by unfold YW;rw [if_neg (by have:=hz z (by simp);omega)]
      have:=ihm (fun u hu=>hz u (by simp [hu]))
      simp only [jb,List.flatMap_cons,List.flatMap_nil,List.append_nil] at this ⊢
      rw [ez,this];simp
    exact this a (fun z hz=>by have:=hg z hz;omega)
   have:=zeW a y2
   rw [e2];omega
  ·have:YW x y2=[]:=by unfold YW;rw [if_neg c]
   rw [this];simp only [List.length_nil];omega
theorem zgF {a b:List ze} (ha:NF a) (hb:NF b) (h:b.length≤2):(jb a b).length≤a.length+1:=by
 match b,h,hb with
 | [],_,_ =>
  have:jb a []=[]:=by simp [jb]
  rw [this];simp
 | [y],_,_=>have:=zeW a y;omega
 | [y1,y2],_,hb =>
  have:=(List.pairwise_cons.1 hb.2).1 y2 (by simp)
  exact ze6 (by omega) ha
theorem zbm {t:jk} (ht:TV t) {κ:List ze→Prop} (h:κ (tsp t)):uZ t κ:=by
 obtain ⟨h1,h2,h3,h4,h5⟩:=ht
 have:=UM t.xField
 unfold tsp at h
 unfold uZ
 refine zp (fun e=>?_) (fun e=>?_)
 ·have e':t.xNot=false:=by simpa using e
  rw [e'] at h;simpa using h
 ·have e':t.xNot=true:=by simpa using e
  rw [e',if_pos rfl,zjC] at h
  unfold jnW
  refine zp (fun c=>?_) (fun c=>?_)
  ·have c':0<t.xLo:=by simpa using c
   rw [if_pos c'] at h
   refine yC (by omega) (by omega) (jn (by simp) (Zh h1 h2 (zp (fun d=>?_) (fun d=>?_))))
   ·have d':t.xHi<top t.xField:=by simpa using d
    rw [if_pos (by omega)] at h
    exact zC (by omega) (by omega) (jn (by simp) (by simpa using h))
   ·have d':¬ t.xHi<top t.xField:=by simpa using d
    rw [if_neg (by omega)] at h
    simpa using h
  ·have c':¬ 0<t.xLo:=by simpa using c
   rw [if_neg c'] at h
   refine Zh h1 h2 (zp (fun d=>?_) (fun d=>?_))
   ·have d':t.xHi<top t.xField:=by simpa using d
    rw [if_pos (by omega)] at h
    exact zC (by omega) (by omega) (jn (by simp) (by simpa using h))
   ·have d':¬ t.xHi<top t.xField:=by simpa using d
    rw [if_neg (by omega)] at h
    simpa using h
theorem zcJ {t:jk} (ht:TV t) {κ:List ze→Prop} (h:κ (tsp t)):yf t κ:=by
 have ht':=ht
 obtain ⟨h1,h2,h3,h4,h5⟩:=ht
 have:=UM t.xField
 unfold yf
 refine Vs ?_
 rw [decide_eq_true ht']
 refine jG (zp (fun e=>?_) (fun e=>?_))
 ·unfold tsp at h;rw [if_pos e] at h
  exact xO h1 h2 (Vr (zfY h3 h4 h5) (by omega) (by omega) h)
 ·unfold tsp at h;rw [if_neg (by simpa using e)] at h
  exact h
def L4 (a:za):List (List ze):=[a.x0,a.x1,a.x2,a.x3]
def xG (a:za) (f:Int):List ze:=if f=0 then a.x0 else if f=1 then a.x1 else if f=2 then a.x2 else a.x3
def YH (a:za) (f:Int) (x:List ze):za:=if f=0 then ⟨x,a.x1,a.x2,a.x3⟩ else if f=1 then ⟨a.x0,x,a.x2,a.x3⟩ else if f=2 then ⟨a.x0,a.x1,x,a.x3⟩ else ⟨a.x0,a.x1,a.x2,x⟩
theorem yJ {a:za} {f:Int} {κ:List ze→Prop} (h0:0≤f) (h1:f≤3) (h:κ (xG a f)):zB (L4 a) f κ:=by
 rcases zd6 h0 h1 with rfl | rfl | rfl | rfl
 ·exact zr 0 rfl (by simp [L4]) h
 ·exact zr 1 rfl (by simp [L4]) h
 ·exact zr 2 rfl (by simp [L4]) h
 ·exact zr 3 rfl (by simp [L4]) h
theorem U6 {a:za} {f:Int} {x:List ze} (h0:0≤f) (h1:f≤3):(L4 a).set f.toNat x=L4 (YH a f x):=by
 rcases zd6 h0 h1 with rfl | rfl | rfl | rfl <;> rfl
theorem ZV {a:za} (ha:B4 a) {f:Int} (h0:0≤f) (h1:f≤3):St (xG a f) (top f):=by
 obtain ⟨p0,p1,p2,p3⟩:=ha
 rcases zd6 h0 h1 with rfl | rfl | rfl | rfl
 ·exact p0
 ·exact p1
 ·exact p2
 ·exact p3
theorem zhv {a:za} (ha:B4 a) {f:Int} (h0:0≤f) (h1:f≤3) {x:List ze} (hx:St x (top f)):B4 (YH a f x):=by
 obtain ⟨p0,p1,p2,p3⟩:=ha
 rcases zd6 h0 h1 with rfl | rfl | rfl | rfl
 ·exact ⟨hx,p1,p2,p3⟩
 ·exact ⟨p0,hx,p2,p3⟩
 ·exact ⟨p0,p1,hx,p3⟩
 ·exact ⟨p0,p1,p2,hx⟩
def le4 (a:za) (n:Nat):Prop:=∀ f,0≤f→f≤3→(xG a f).length≤n
theorem zhx {a:za} {n m:Nat} (h:le4 a n) {f:Int} (h0:0≤f) (h1:f≤3) {x:List ze} (hx:x.length≤m) (hm:n≤m):le4 (YH a f x) m:=by
 intro g g0 g1
 have k:=h g g0 g1
 rcases zd6 h0 h1 with rfl | rfl | rfl | rfl <;> rcases zd6 g0 g1 with rfl | rfl | rfl | rfl <;> first | exact hx | exact Nat.le_trans k hm
theorem zfQ {a:za} (h:le4 a 40):F4 a:=⟨h 0 (by decide) (by decide),h 1 (by decide) (by decide),h 2 (by decide) (by decide),h 3 (by decide) (by decide)⟩
def zgv (a:za) (t:jk):za:=YH a t.xField (jb (xG a t.xField) (tsp t))
def Zj (ts:List jk):za:=ts.foldl zgv US
theorem zff:∀ (ts:List jk) (a:za) (n:Nat),(∀ t∈ts,TV t)→B4 a→le4 a n→B4 (ts.foldl zgv a)∧le4 (ts.foldl zgv a) (n+ts.length)
 | [],a,n,_,ha,hn=>⟨ha,hn⟩
 | t :: ts,a,n,h,ha,hn=>by
  have ht:=h t (by simp)
  have hs:=ZV ha ht.1 ht.2.1
  have:=zff ts (zgv a t) (n+1) (fun u hu=>h u (by simp [hu])) (zhv ha ht.1 ht.2.1 (Z5 hs (zeg ht).1))
   (zhx hn ht.1 ht.2.1 (Nat.le_trans (zgF hs.1 (zeg ht).1 (zhj t)) (by have:=hn _ ht.1 ht.2.1;omega)) (by omega))
  refine ⟨this.1,?_⟩
  have e:n+(t :: ts).length=n+1+ts.length:=by simp only [List.length_cons];omega
  rw [e];exact this.2
theorem zdd:le4 US 1:=fun f h0 h1=>by
 rcases zd6 h0 h1 with rfl | rfl | rfl | rfl <;> decide
theorem zaM {ts:List jk} (h:∀ t∈ts,TV t):B4 (Zj ts):=(zff ts US 1 h zbU zdd).1
theorem zjY {ts:List jk} (h:∀ t∈ts,TV t):le4 (Zj ts) (1+ts.length):=(zff ts US 1 h zbU zdd).2
theorem zeG (ts:List jk) (t:jk):Zj (ts++[t])=zgv (Zj ts) t:=by simp [Zj]
theorem zfs {ts:List jk} (hts:TsV ts) {κ:za→Prop} (hκ:κ (Zj ts)):Xj ts κ:=by
 have h:=hts.1
 have hl:=hts.2
 unfold Xj
 refine zbc ?_
 refine z6 ts.length (fun s=>s.2) (fun k s=>s.2=(k:Int)∧k≤ts.length∧s.1=L4 (Zj (ts.take k))) (fun k s h=>h.1) (fun k s h=>h.2.1) ?_ ⟨rfl,Nat.zero_le _,by simp [Zj,L4]⟩
 rintro k ⟨xs,t⟩ next ⟨rfl,hk,hx⟩ hn
 simp only at hx
 subst hx
 refine zp (fun hc=>?_) (fun hc=>?_)
 ·have hlt:k<ts.length:=by simpa using hc
  have ht:=h _ (List.getElem_mem hlt)
  have hpre:∀ t∈ts.take k,TV t:=fun t ht=>h t (List.mem_of_mem_take ht)
  have hb:=zaM hpre
  have hs:=ZV hb ht.1 ht.2.1
  have hle:=zjY hpre _ ht.1 ht.2.1
  have hml:=zgF hs.1 (zeg ht).1 (zhj ts[k])
  have htop:=UM ts[k].xField
  simp only [List.length_take] at hle
  have hlim:lim (jb (xG (Zj (ts.take k)) ts[k].xField) (tsp ts[k]))=(jb (xG (Zj (ts.take k)) ts[k].xField) (tsp ts[k]),true):=by
   unfold lim;rw [if_neg (by omega)]
  refine zr k rfl hlt ?_
  unfold jnW
  have fin:zH (xG (Zj (ts.take k)) ts[k].xField) (tsp ts[k]) (top ts[k].xField) (fun (r49,r51)=>zB (L4 (Zj (ts.take k))) ts[k].xField (fun e52=>jz (k:Int) 1 (fun t76=>next ((L4 (Zj (ts.take k))).set (ts[k].xField).toNat r49,t76)))):=by
   refine Yz hs (zeg ht) (by omega) (by omega) ?_
   rw [hlim]
   refine yJ ht.1 ht.2.1 (zC (by omega) (by omega) (hn hlt _ ⟨by simp,by omega,?_⟩))
   simp only
   rw [U6 ht.1 ht.2.1,List.take_succ_eq_append_getElem hlt,zeG];rfl
  exact ⟨yJ ht.1 ht.2.1 (zbm ht (Zh ht.1 ht.2.1 fin)),zbm ht ⟨yJ ht.1 ht.2.1 (Zh ht.1 ht.2.1 fin),Zh ht.1 ht.2.1 (yJ ht.1 ht.2.1 fin)⟩⟩
 ·have hge:ts.length≤k:=by simpa using hc
  rw [List.take_of_length_le hge]
  exact ⟨_,_,_,_,rfl,hκ⟩
theorem zg1 {ts:List jk} (hts:TsV ts) {κ:jd→Prop} (hκ:κ (bx (Zj ts))):Yl ts κ:=by
 have h:=hts.1
 have hl:=hts.2
 unfold Yl
 refine Vb (by omega) ?_
 rw [decide_eq_true hts]
 refine jG (zge ?_)
 refine z6 ts.length (fun s=>s.2) (fun k s=>s.2=(k:Int)∧k≤ts.length∧s.1=L4 (Zj (ts.take k))) (fun k s h=>h.1) (fun k s h=>h.2.1) ?_ ⟨rfl,Nat.zero_le _,by simp [Zj,L4,bx]⟩
 rintro k ⟨xs,t⟩ next ⟨rfl,hk,hx⟩ hn
 simp only at hx
 subst hx
 refine zp (fun hc=>?_) (fun hc=>?_)
 ·have hlt:k<ts.length:=by simpa using hc
  have ht:=h _ (List.getElem_mem hlt)
  have hpre:∀ t∈ts.take k,TV t:=fun t ht=>h t (List.mem_of_mem_take ht)
  have hb:=zaM hpre
  have hs:=ZV hb ht.1 ht.2.1
  have htop:=UM ts[k].xField
  refine zr k rfl hlt ?_
  unfold jnW
  refine zr k rfl hlt ?_
  have fin:xS (xG (Zj (ts.take k)) ts[k].xField) (tsp ts[k]) (fun r40=>zB (L4 (Zj (ts.take k))) ts[k].xField (fun e42=>jz (k:Int) 1 (fun t58=>next ((L4 (Zj (ts.take k))).set (ts[k].xField).toNat r40,t58)))):=by
   refine ZE hs (zeg ht) (by omega) (by omega) (by omega) (by omega) ?_
   refine yJ ht.1 ht.2.1 (zC (by omega) (by omega) (hn hlt _ ⟨by simp,by omega,?_⟩))
   simp only
   rw [U6 ht.1 ht.2.1,List.take_succ_eq_append_getElem hlt,zeG];rfl
  exact ⟨yJ ht.1 ht.2.1 (zcJ ht fin),zcJ ht (yJ ht.1 ht.2.1 fin)⟩
 ·have hge:ts.length≤k:=by simpa using hc
  rw [List.take_of_length_le hge]
  exact hκ
def pc (r:List ze) (a:za):List za:=if r=[] then [] else [a]
def XV (a b:za):List za :=
 if em4 (xJ a b) then (if em4 a then [] else [a]) else
 pc (xI a.x0 b.x0 65535) ⟨xI a.x0 b.x0 65535,a.x1,a.x2,a.x3⟩ ++
 pc (xI a.x1 b.x1 65535) ⟨jb a.x0 b.x0,xI a.x1 b.x1 65535,a.x2,a.x3⟩ ++
 pc (xI a.x2 b.x2 255) ⟨jb a.x0 b.x0,jb a.x1 b.x1,xI a.x2 b.x2 255,a.x3⟩ ++
 pc (xI a.x3 b.x3 7) ⟨jb a.x0 b.x0,jb a.x1 b.x1,jb a.x2 b.x2,xI a.x3 b.x3 7⟩
theorem Vw {a b:List ze} {t:Int} (ha:St a t) (hb:St b t):St (xI a b t) t:=Z5 ha (YB hb).1
theorem zj6 {a b:za} (ha:B4 a) (hb:B4 b):∀ c∈XV a b,B4 c:=by
 have hm:=zdz ha hb
 intro c hc
 unfold XV at hc
 split at hc
 ·split at hc
  ·simp at hc
  ·simp only [List.mem_singleton] at hc;subst hc;exact ha
 ·simp only [List.mem_append,or_assoc] at hc
  have pcm:∀ {r:List ze} {d:za},c∈pc r d→c=d:=fun {r d} h=>by unfold pc at h;split at h <;> simp at h;exact h
  rcases hc with h | h | h | h
  ·rw [pcm h];exact ⟨Vw ha.1 hb.1,ha.2.1,ha.2.2.1,ha.2.2.2⟩
  ·rw [pcm h];exact ⟨hm.1,Vw ha.2.1 hb.2.1,ha.2.2.1,ha.2.2.2⟩
  ·rw [pcm h];exact ⟨hm.1,hm.2.1,Vw ha.2.2.1 hb.2.2.1,ha.2.2.2⟩
  ·rw [pcm h];exact ⟨hm.1,hm.2.1,hm.2.2.1,Vw ha.2.2.2 hb.2.2.2⟩
theorem U0 (r:List ze) (a:za):(pc r a).length≤1:=by unfold pc;split <;> simp
theorem zar (a b:za):(XV a b).length≤4:=by
 unfold XV
 split
 ·split <;> simp
 ·simp only [List.length_append]
  have:=U0 (xI a.x0 b.x0 65535) ⟨xI a.x0 b.x0 65535,a.x1,a.x2,a.x3⟩
  have:=U0 (xI a.x1 b.x1 65535) ⟨jb a.x0 b.x0,xI a.x1 b.x1 65535,a.x2,a.x3⟩
  have:=U0 (xI a.x2 b.x2 255) ⟨jb a.x0 b.x0,jb a.x1 b.x1,xI a.x2 b.x2 255,a.x3⟩
  have:=U0 (xI a.x3 b.x3 7) ⟨jb a.x0 b.x0,jb a.x1 b.x1,jb a.x2 b.x2,xI a.x3 b.x3 7⟩
  omega
theorem zfM {l:List ze} {t:Int} (h:St l t) (h0:0≤t) (ht:t≤65535):l.length≤4294967296:=by
 have:=UZ h (by omega);omega
theorem za7 {a:za} (h:B4 a):∀ x∈L4 a,x.length≤4294967296:=by
 obtain ⟨p0,p1,p2,p3⟩:=h
 intro x hx
 simp only [L4,List.mem_cons,List.not_mem_nil,or_false] at hx
 rcases hx with rfl | rfl | rfl | rfl
 ·exact zfM p0 (by decide) (by decide)
 ·exact zfM p1 (by decide) (by decide)
 ·exact zfM p2 (by decide) (by decide)
 ·exact zfM p3 (by decide) (by decide)
theorem jW {σ:Type} {K:σ→Prop} {B:(σ→Prop)→Prop} (h:B K):jnW K B:=h
theorem VP {a:za} (ha:B4 a) {t:Int} (h0:0≤t) (h1:t≤3) {r:List ze} {out:List jd} (ho:out.length≤1000) {K:List jd→Prop} (h:K (out++(pc r (YH a t r)).map bx)) :
  jnW K (fun k235=>ifW (decide (0<(r.length:Int))) (ua (L4 a) (fun r149=>zB r149 t (fun _=>jw out ([(jd.mk (r149.set (t).toNat r))]) (fun _=>k235 (out++([(jd.mk (r149.set (t).toNat r))])))))) (k235 out)):=by
 refine zp (fun e=>?_) (fun e=>?_)
 ·have hr:r≠[]:=by intro f;subst f;simp at e
  refine yu (by simp [L4]) (za7 ha) (yJ h0 h1 (jn (by simp only [List.length_singleton];omega) ?_))
  unfold pc at h
  rw [if_neg hr] at h
  rw [U6 h0 h1];exact h
 ·have hr:r=[]:=by simpa using e
  unfold pc at h
  rw [if_pos hr] at h
  simpa using h
theorem zdK {a b:za} (ha:B4 a) (hb:B4 b) {κ:List jd→Prop} (h:κ ((XV a b).map bx)):yE (bx a) (bx b) κ:=by
 unfold yE
 refine zeM ha hb (VN (zp (fun e=>?_) (fun e=>?_)))
 ·unfold XV at h;rw [if_pos e] at h
  unfold jnW
  refine VN (zp (fun e2=>?_) (fun e2=>?_))
  ·rw [if_neg (by simpa using e2)] at h;exact jn (by simp) h
  ·rw [if_pos (by simpa using e2)] at h;exact h
 unfold XV at h;rw [if_neg (by simp [e])] at h
 clear e
 obtain ⟨a0,a1,a2,a3⟩:=a
 obtain ⟨b0,b1,b2,b3⟩:=b
 have ha0:=ha
 obtain ⟨p0,p1,p2,p3⟩:=ha
 obtain ⟨q0,q1,q2,q3⟩:=hb
 simp only at p0 p1 p2 p3 q0 q1 q2 q3 h
 have m0:=Z5 p0 q0.1
 have m1:=Z5 p1 q1.1
 have m2:=Z5 p2 q2.1
 refine ⟨5,?_⟩
 refine jq (jW (jW ?_))
 refine zr 0 rfl (by simp [L4,bx]) (zr 0 rfl (by simp [L4,bx]) (xO (n:=(0:Int)) (by decide) (by decide) (Vr (top:=65535) q0 (by decide) (by decide) (ZE p0 (YB q0) (by decide) (by decide) (by decide) (by decide) ?_))))
 refine zr 0 rfl (by simp [L4,bx]) (zr 0 rfl (by simp [L4,bx]) (ZE p0 q0 (by decide) (by decide) (by decide) (by decide) (VP (a:=⟨a0,a1,a2,a3⟩) ha0 (t:=(0:Int)) (by decide) (by decide) (by simp) ?_)))
 refine yu (l:=L4 ⟨a0,a1,a2,a3⟩) (by simp [L4,bx]) (za7 ha0) (yJ (a:=⟨a0,a1,a2,a3⟩) (f:=(0:Int)) (by decide) (by decide) (zC (by decide) (by decide) ?_))
 have c1:B4 ⟨jb a0 b0,a1,a2,a3⟩:=⟨m0,p1,p2,p3⟩
 refine jq (jW (jW ?_))
 refine zr 1 rfl (by simp [L4,bx]) (zr 1 rfl (by simp [L4,bx]) (xO (n:=(1:Int)) (by decide) (by decide) (Vr (top:=65535) q1 (by decide) (by decide) (ZE p1 (YB q1) (by decide) (by decide) (by decide) (by decide) ?_))))
 refine zr 1 rfl (by simp [L4,bx]) (zr 1 rfl (by simp [L4,bx]) (ZE p1 q1 (by decide) (by decide) (by decide) (by decide) (VP (a:=⟨jb a0 b0,a1,a2,a3⟩) c1 (t:=(1:Int)) (by decide) (by decide) (by have:=U0 (jb a0 (yL b0 65535)) (YH ⟨a0,a1,a2,a3⟩ 0 (jb a0 (yL b0 65535)));simp only [List.length_append,List.length_map,List.length_nil];omega) ?_)))
 refine yu (l:=L4 ⟨jb a0 b0,a1,a2,a3⟩) (by simp [L4,bx]) (za7 c1) (yJ (a:=⟨jb a0 b0,a1,a2,a3⟩) (f:=(1:Int)) (by decide) (by decide) (zC (by decide) (by decide) ?_))
 have c2:B4 ⟨jb a0 b0,jb a1 b1,a2,a3⟩:=⟨m0,m1,p2,p3⟩
 refine jq (jW (jW ?_))
 refine zr 2 rfl (by simp [L4,bx]) (zr 2 rfl (by simp [L4,bx]) (xO (n:=(2:Int)) (by decide) (by decide) (Vr (top:=255) q2 (by decide) (by decide) (ZE p2 (YB q2) (by decide) (by decide) (by decide) (by decide) ?_))))
 refine zr 2 rfl (by simp [L4,bx]) (zr 2 rfl (by simp [L4,bx]) (ZE p2 q2 (by decide) (by decide) (by decide) (by decide) (VP (a:=⟨jb a0 b0,jb a1 b1,a2,a3⟩) c2 (t:=(2:Int)) (by decide) (by decide) (by
  have:=U0 (jb a0 (yL b0 65535)) (YH ⟨a0,a1,a2,a3⟩ 0 (jb a0 (yL b0 65535)))
  have:=U0 (jb a1 (yL b1 65535)) (YH ⟨jb a0 b0,a1,a2,a3⟩ 1 (jb a1 (yL b1 65535)))
  simp only [List.length_append,List.length_map,List.length_nil];omega) ?_)))
 refine yu (l:=L4 ⟨jb a0 b0,jb a1 b1,a2,a3⟩) (by simp [L4,bx]) (za7 c2) (yJ (a:=⟨jb a0 b0,jb a1 b1,a2,a3⟩) (f:=(2:Int)) (by decide) (by decide) (zC (by decide) (by decide) ?_))
 have c3:B4 ⟨jb a0 b0,jb a1 b1,jb a2 b2,a3⟩:=⟨m0,m1,m2,p3⟩
 refine jq (jW (jW ?_))
 refine zr 3 rfl (by simp [L4,bx]) (zr 3 rfl (by simp [L4,bx]) (xO (n:=(3:Int)) (by decide) (by decide) (Vr (top:=7) q3 (by decide) (by decide) (ZE p3 (YB q3) (by decide) (by decide) (by decide) (by decide) ?_))))
 refine zr 3 rfl (by simp [L4,bx]) (zr 3 rfl (by simp [L4,bx]) (ZE p3 q3 (by decide) (by decide) (by decide) (by decide) (VP (a:=⟨jb a0 b0,jb a1 b1,jb a2 b2,a3⟩) c3 (t:=(3:Int)) (by decide) (by decide) (by
  have:=U0 (jb a0 (yL b0 65535)) (YH ⟨a0,a1,a2,a3⟩ 0 (jb a0 (yL b0 65535)))
  have:=U0 (jb a1 (yL b1 65535)) (YH ⟨jb a0 b0,a1,a2,a3⟩ 1 (jb a1 (yL b1 65535)))
  have:=U0 (jb a2 (yL b2 255)) (YH ⟨jb a0 b0,jb a1 b1,a2,a3⟩ 2 (jb a2 (yL b2 255)))
  simp only [List.length_append,List.length_map,List.length_nil];omega) ?_)))
 refine yu (l:=L4 ⟨jb a0 b0,jb a1 b1,jb a2 b2,a3⟩) (by simp [L4,bx]) (za7 c3) (yJ (a:=⟨jb a0 b0,jb a1 b1,jb a2 b2,a3⟩) (f:=(3:Int)) (by decide) (by decide) (zC (by decide) (by decide) ?_))
 refine jG ?_
 simp only [List.map_append] at h
 exact h
end
section
open Go Go.Proofs
def hdm (a b:za) (k:Nat):za:=⟨if 0<k then jb a.x0 b.x0 else a.x0,if 1<k then jb a.x1 b.x1 else a.x1,if 2<k then jb a.x2 b.x2 else a.x2,if 3<k then jb a.x3 b.x3 else a.x3⟩
def rst (a b:za) (k:Nat):List ze:=xI (xG a k) (xG b k) (top k)
def mt (a b:za) (k:Nat):List ze:=jb (xG a k) (xG b k)
def pcn (a b:za) (k:Nat):List za:=pc (rst a b k) (YH (hdm a b k) k (rst a b k))
def pcs (a b:za) (k:Nat):List za:=(List.range k).flatMap (pcn a b)
theorem UO (a b:za) (k:Nat):pcs a b (k+1)=pcs a b k++pcn a b k:=by simp [pcs,List.range_succ]
theorem zi7 (a b:za):pcs a b 4=pc (xI a.x0 b.x0 65535) ⟨xI a.x0 b.x0 65535,a.x1,a.x2,a.x3⟩ ++
 pc (xI a.x1 b.x1 65535) ⟨jb a.x0 b.x0,xI a.x1 b.x1 65535,a.x2,a.x3⟩ ++
 pc (xI a.x2 b.x2 255) ⟨jb a.x0 b.x0,jb a.x1 b.x1,xI a.x2 b.x2 255,a.x3⟩ ++
 pc (xI a.x3 b.x3 7) ⟨jb a.x0 b.x0,jb a.x1 b.x1,jb a.x2 b.x2,xI a.x3 b.x3 7⟩:=by
 rw [UO,UO,UO,UO];rfl
theorem zjL {a b:za} (h:em4 (xJ a b)=false):XV a b=pcs a b 4:=by
 unfold XV;rw [if_neg (by simp [h]),zi7]
theorem XB {k:Nat} (h:k<4):k=0∨k=1∨k=2∨k=3:=by omega
theorem zjU (a b:za) {k:Nat} (h:k<4):∀ c∈pcn a b k,c∈pcs a b 4:=fun c hc=>by
 unfold pcs;exact List.mem_flatMap.2 ⟨k,by simpa using h,hc⟩
theorem zi5 (a b:za) {k:Nat} (h:k<4):YH (hdm a b k) k (mt a b k)=hdm a b (k+1):=by
 rcases XB h with rfl | rfl | rfl | rfl <;> rfl
theorem zlM {a b:za} (ha:F4 a) {k:Nat} (h:k<4) {r:List ze}:F4 (YH (hdm a b k) k r)↔r.length≤40∧∀ j,j<k→(mt a b j).length≤40:=by
 obtain ⟨h0,h1,h2,h3⟩:=ha
 rcases XB h with rfl | rfl | rfl | rfl
 ·constructor
  ·intro q;exact ⟨q.1,fun j hj=>by omega⟩
  ·intro q;exact ⟨q.1,h1,h2,h3⟩
 ·constructor
  ·intro q
   refine ⟨q.2.1,fun j hj=>?_⟩
   have ej:j=0:=by omega
   subst ej
   exact q.1
  ·intro q;exact ⟨q.2 0 (by omega),q.1,h2,h3⟩
 ·constructor
  ·intro q
   refine ⟨q.2.2.1,fun j hj=>?_⟩
   obtain rfl | rfl:j=0∨j=1:=by omega
   ·exact q.1
   ·exact q.2.1
  ·intro q;exact ⟨q.2 0 (by omega),q.2 1 (by omega),q.1,h3⟩
 ·constructor
  ·intro q
   refine ⟨q.2.2.2,fun j hj=>?_⟩
   obtain rfl | rfl | rfl:j=0∨j=1∨j=2:=by omega
   ·exact q.1
   ·exact q.2.1
   ·exact q.2.2.1
  ·intro q;exact ⟨q.2 0 (by omega),q.2 1 (by omega),q.2 2 (by omega),q.1⟩
theorem zeN {σ:Type} {K:σ→Prop} {B:(σ→Prop)→Prop} (P:σ→Prop) (h1:∀ r,P r→K r) (h2:∀ K',(∀ r,P r→K' r)→B K'):jnW K B:=h2 K h1
def zdU (a b:za):List za×Bool:=if ∀ c∈XV a b,F4 c then (XV a b,true) else ([],false)
end
end Go.Proofs.YtgpdnnhmndlljaaGreatDoor
