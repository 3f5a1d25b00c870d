import Derived.Test.YtgpdnnhmndlljaaGreatDoorMA1
import Derived.RangeFuncMany
import Derived.RangeFuncCalls
import Derived.RangeFuncLeaves
import Derived.TacticsIn
import Derived.Test.YtgpdnnhmndlljaaGreatDoorEls
import Derived.Test.YtgpdnnhmndlljaaGreatDoorMA0
import Derived.Laws.BitsLemmas
set_option linter.unusedSimpArgs false
set_option linter.unusedVariables false
set_option linter.unusedSectionVars false
namespace Go.Proofs.YtgpdnnhmndlljaaGreatDoor
section
open Go.RowKit
def ziF {α:Type} (xs:List α) (κ:α→α→α→α→Prop):Prop:=∃ a b c d r,xs=a :: b :: c :: d :: r∧κ a b c d
theorem UD {w:World} {b o:Nat} {cs ds:List Value} (h:w.rangeAt b o cs) (k:w.rangeAt b (o+cs.length) ds):w.rangeAt b o (cs++ds):=fun j v hv=>by
 rw [List.getElem?_append] at hv
 split at hv
 ·exact h j v hv
 ·have:=k (j - cs.length) v hv
  rwa [show o+cs.length+(j - cs.length)=o+j by omega] at this
theorem zf4 {α:Type} {E':El α} {F0:Nat→Prop} {wr:World} {v:Value} {xs:List α} {a b c d:α} (S:Sl E' F0 wr v xs) (h:∃ r,xs=a :: b :: c :: d :: r) :
  ∃ c0 c1 c2 c3,E'.cells F0 wr a c0∧E'.cells F0 wr b c1∧E'.cells F0 wr c c2∧E'.cells F0 wr d c3∧yY wr F0 v 0 E'.size (c0++(c1++(c2++c3))):=by
 obtain ⟨r,rfl⟩:=h
 obtain ⟨p,cap,rfl,hc,hr⟩:=S
 obtain ⟨g,off,rfl,hfb,hx⟩:=hr (by simp)
 obtain ⟨c0,h0,k0⟩:=hx 0 a rfl
 obtain ⟨c1,h1,k1⟩:=hx 1 b rfl
 obtain ⟨c2,h2,k2⟩:=hx 2 c rfl
 obtain ⟨c3,h3,k3⟩:=hx 3 d rfl
 have l0:=E'.len _ _ _ _ h0
 have l1:=E'.len _ _ _ _ h1
 have l2:=E'.len _ _ _ _ h2
 refine ⟨c0,c1,c2,c3,h0,h1,h2,h3,g,off,_,cap,rfl,hfb,?_⟩
 have e0:off+(0:Int).toNat * E'.size=off:=by simp
 rw [e0]
 refine UD (by simpa using k0) (UD ?_ (UD ?_ ?_))
 ·rw [l0];simpa using k1
 ·rw [l0,l1,show off+E'.size+E'.size=off+2 * E'.size by omega];exact k2
 ·rw [l0,l1,l2,show off+E'.size+E'.size+E'.size=off+3 * E'.size by omega];exact k3
section
variable {P:Program} {n:Nat} {G D:Nat→Prop} {w0:World} {Q:Exit→Act→World→Prop} {R:Act→World→Prop} {E:Env} {L M:List Ch} {φ:Prop}
variable {d:Tmp} {ty:TypeId} {pos:String} {aft:Array Edge} {gd:Option (Nat×Bool)} {Tk:Act→World→Prop} {Lr:List Ch} {x y:Operand} {T T' S:TypeId} {e sz by':Nat} {at':Array TypeId}
theorem zic {α:Type} {El':El α} {v:Value} {xs:List α} {ch:Ch} {κ:α→α→α→α→Prop} {e' s:Nat} {r:Bool} (M:xL P n G D w0 E ⟨some d,.sliceToArrayPointer T x,ty,pos,aft,gd⟩ Tk R Lr L) (i:Nat) (hi:jX Lr i=some ch) (hc:Xp ch El' v xs) (hx:oev E x=some v) (hd:Nat.blt d n=true)
  (hT:za8 P T=some (4,e',r,s)) (hes:El'.size=1) (k:∀ p q s t,(∃ r,xs=p :: q :: s :: t :: r)→Nx n G D w0 R ((d,pEl v 0 1 0) :: E) L (κ p q s t)):Nx n G D w0 Tk E L (ziF xs κ):=fun a w hE hm hφ=>by
 obtain ⟨p,q,s,t,r,hxs,hκ⟩:=hφ
 refine M.val (v:=pEl v 0 1 0) (φ:=κ p q s t) (ψ:=κ p q s t) hd rfl (fun ρ w hE hm _=>?_) id (k p q s t ⟨r,hxs⟩) a w hE hm hκ
 obtain ⟨g,cap,rfl,hcap,hr⟩:=hc _ _ (hm.get hi)
 obtain ⟨b,off,rfl,_⟩:=hr (by rw [hxs];simp)
 have hl:¬ xs.length<4:=by rw [hxs];simp
 have hu:=(zdc hT).1
 simp [execOp,hE _ _ hx,Instr.arrayAt,run_underlying hu,hl,yh]
def uw (b:Nat) (o:Obj):Ch where
 foot:=fun x=>x=b
 holds:=fun _ w=>w.heap[b]?=some o
 keep:=fun _ _ _ _ _ h k=>(h b (.inr rfl)).trans k
def ue {σ:Type} (C:σ→List Ch→Prop) (B:Nat→Prop) (s:σ):Ch where
 foot:=B
 holds:=fun F w=>∃ L,C s L∧(∀ b,xF L b↔B b)∧(L.Pairwise fun (c d:Ch)=>∀ b,c.foot b→¬ d.foot b)∧∀ c∈L,c.holds F w
 keep:=fun F F' w w' hF hb ⟨L,h1,h2,h3,h4⟩=>⟨L,h1,h2,h3,fun c hc=>c.keep F F' w w' hF (fun b h=>hb b (h.imp id (fun k=>(h2 b).1 ⟨c,hc,k⟩))) (h4 c hc)⟩
theorem Vz {σ:Type} {C:σ→List Ch→Prop} {B:Nat→Prop} {s:σ} {L R:List Ch} {w:World} (h:∀ b,xF L b↔B b) (b:Nat):fz G (ue C B s :: R) w b↔fz G (L++R) w b:=by
 constructor
 ·rintro ⟨h1,h2,h3⟩
  refine ⟨h1,h2,fun c hc hk=>?_⟩
  rcases List.mem_append.1 hc with e | e
  ·exact h3 _ (List.mem_cons_self ..) ((h b).1 ⟨c,e,hk⟩)
  ·exact h3 c (List.mem_cons_of_mem _ e) hk
 ·rintro ⟨h1,h2,h3⟩
  refine ⟨h1,h2,fun c hc hk=>?_⟩
  rcases List.mem_cons.1 hc with e | e
  ·subst e
   obtain ⟨d,hd,hk'⟩:=(h b).2 hk
   exact h3 d (List.mem_append.2 (.inl hd)) hk'
  ·exact h3 c (List.mem_append.2 (.inr e)) hk
theorem Mem.openC {σ:Type} {C:σ→List Ch→Prop} {B:Nat→Prop} {s:σ} {R:List Ch} {w:World} (m:Mem G D w0 (ue C B s :: R) w):∃ L,C s L∧(∀ b,xF L b↔B b)∧Mem G D w0 (L++R) w:=by
 obtain ⟨L,h1,h2,h3,h4⟩:=m.hold _ (List.mem_cons_self ..)
 have hr:∀ c∈L,∀ b,c.foot b→(ue C B s).foot b:=fun c hc b hb=>(h2 b).1 ⟨c,hc,hb⟩
 refine ⟨L,h1,h2,m.fresh,m.os,m.tape,m.output,m.size,m.old,fun c hc b hb=>?_,List.pairwise_append.2 ⟨h3,(List.pairwise_cons.1 m.disj).2,fun c hc d hd b k1 k2=>(List.pairwise_cons.1 m.disj).1 d hd b (hr c hc b k1) k2⟩,fun c hc=>?_⟩
 ·rcases List.mem_append.1 hc with e | e
  ·exact m.range _ (List.mem_cons_self ..) b (hr c e b hb)
  ·exact m.range c (List.mem_cons_of_mem _ e) b hb
 ·rcases List.mem_append.1 hc with e | e
  ·exact c.keep _ _ w w (fun b hb=>(Vz h2 b).1 hb) (fun _ _=>rfl) (h4 c e)
  ·exact c.keep _ _ w w (fun b hb=>(Vz h2 b).1 hb) (fun _ _=>rfl) (m.hold c (List.mem_cons_of_mem _ e))
theorem Mem.closeC {σ:Type} {C:σ→List Ch→Prop} {s:σ} {L R:List Ch} {w:World} (m:Mem G D w0 (L++R) w) (h:C s L):Mem G D w0 (ue C (xF L) s :: R) w:=by
 have inL:∀ c∈L,c∈L++R:=fun c hc=>List.mem_append.2 (.inl hc)
 have inR:∀ c∈R,c∈L++R:=fun c hc=>List.mem_append.2 (.inr hc)
 have hd:=List.pairwise_append.1 m.disj
 refine ⟨m.fresh,m.os,m.tape,m.output,m.size,m.old,fun c hc b hb=>?_,List.pairwise_cons.2 ⟨fun d hd' b ⟨c,hc,k1⟩ k2=>hd.2.2 c hc d hd' b k1 k2,hd.2.1⟩,fun c hc=>?_⟩
 ·rcases List.mem_cons.1 hc with e | e
  ·subst e
   obtain ⟨c,hc,k⟩:=hb
   exact m.range c (inL c hc) b k
  ·exact m.range c (inR c e) b hb
 ·rcases List.mem_cons.1 hc with e | e
  ·subst e
   exact ⟨L,h,fun _=>Iff.rfl,hd.1,fun c hc=>c.keep _ _ w w (fun b hb=>(Vz (fun _=>Iff.rfl) b).2 hb) (fun _ _=>rfl) (m.hold c (inL c hc))⟩
  ·exact c.keep _ _ w w (fun b hb=>(Vz (fun _=>Iff.rfl) b).2 hb) (fun _ _=>rfl) (m.hold c (inR c e))
def zeb {α σ:Type} (P:Program) (l:Nat) (El':El α) (C:σ→List Ch→Prop) (Y:σ→α→Bool→(Bool×σ→Prop)→Prop):Prop :=
 ∀ {G D:Nat→Prop} {w0 w:World} {R L:List Ch} {s:σ} {x:α} {ok:Bool} {cs:List Value} {κ:Bool×σ→Prop} (m:Nat),C s L→Mem G D w0 (L++R) w→El'.cells (fz G (L++R) w) w x cs→Y s x ok κ →
  YieldAt Fence.wide m P l #[.agg cs.toArray,.bool ok] w fun e w'=>∃ b s' L',e=.returned (.bool b)∧C s' L'∧Mem G D w0 (L'++R) w'∧κ (b,s')
theorem zgF {o:Oper} {a:Act} {w:World} {next:Act→World→Prop} {m:Nat} (h:o.wp P a w next Q):o.wpIn Fence.wide m P a w next Q:=by
 refine ⟨fun f _=>trivial,?_⟩
 have h':o.upon P a next Q ((execOp a.eval o).run P w):=h
 show o.uponIn Fence.wide m P a next Q ((execOp a.eval o).run P w)
 revert h'
 generalize (execOp a.eval o).run P w=r
 intro h'
 cases r with
 | ok x w' =>
  cases x <;> first | exact h' | (refine ⟨fun e=>by simp [Fence.wide] at e,?_⟩;exact callsIn_wide.2 h') | (refine ⟨fun e=>by simp [Fence.wide] at e,fun c cs _=>?_⟩;obtain ⟨v,w'',k1,k2⟩:=h' c cs;exact ⟨v,w'',k1,stepsIn_wide.2 k2⟩) | exact False.elim h'
 | halt x w'=>cases x <;> first | exact h' | exact False.elim h'
theorem zai {id:Nat} {l:List Oper} (h:Nx n G D w0 (wpListIn Fence.wide 3 P l.toArray Q l) E L φ):Nx n G D w0 ((Code.region id l.toArray false).wp P Q) E L φ:=fun a w hE hm hφ=>wpIn_wide.1 (wpIn_region_lit (h a w hE hm hφ))
theorem zaC {ops:Array Oper} {m:Nat} {F:Fence} (h:Nx n G D w0 (Q .normal) E L φ):Nx n G D w0 (wpListIn F m P ops Q []) E L φ:=h
theorem zhz {m:Nat} {ops:Array Oper} {rest:List Oper} {dst:Option Tmp} {op:Op} (h:Nx n G D w0 (fun a w=>Oper.wp P ⟨dst,op,ty,pos,aft,none⟩ a w (wpListIn Fence.wide m P ops Q rest) Q) E L φ):Nx n G D w0 (wpListIn Fence.wide m P ops Q (⟨dst,op,ty,pos,aft,none⟩ :: rest)) E L φ :=
 fun a w hE hm hφ=>wpListIn_plain rfl fun K hK=>zgF (by
  have:=h a w hE hm hφ
  show Oper.upon _ _ _ _ _ _
  have h':Oper.upon P ⟨dst,op,ty,pos,aft,none⟩ a (wpListIn Fence.wide m P ops Q rest) Q ((execOp a.eval ⟨dst,op,ty,pos,aft,none⟩).run P w):=this
  revert h'
  generalize (execOp a.eval ⟨dst,op,ty,pos,aft,none⟩).run P w=r
  intro h'
  cases r with
  | ok x w' =>
   cases x <;> first | exact hK _ _ h' | (refine Calls.mono h' ?_;intro e w'' hh;cases e <;> first | exact hK _ _ hh | exact hh) | (refine Rows.mono h' ?_;intro e w'' hh;exact hK _ _ hh) | exact False.elim h'
  | halt x w'=>cases x <;> first | exact h' | exact False.elim h')
theorem stY {m:Nat} {ops:Array Oper} {rest:List Oper} {dst:Option Tmp} {op:Op}:xL P n G D w0 E ⟨dst,op,ty,pos,aft,none⟩ (wpListIn Fence.wide m P ops Q (⟨dst,op,ty,pos,aft,none⟩ :: rest)) (wpListIn Fence.wide m P ops Q rest) L L :=
 ⟨fun hd ho hr hψ k=>zhz (zdI hd ho hr hψ k)⟩
theorem zcQ {α σ:Type} {l m:Nat} {El':El α} {C:σ→List Ch→Prop} {Y:σ→α→Bool→(Bool×σ→Prop)→Prop} (hY:zeb P l El' C Y) {B:Nat→Prop} {s:σ} {z:α} {ok:Bool} {cs:List Value} {κ:Bool×σ→Prop} {f:Operand} {args:List Operand} {ops:Array Oper} {rest:List Oper}
  (hf:oev E f=some (.func (.yield l) #[] #[])) (ha:zbD E args=some [.agg cs.toArray,.bool ok]) (hd:Nat.blt d n=true) (hc:∀ w,Mem G D w0 (ue C B s :: L) w→El'.cells (fz G (ue C B s :: L) w) w z cs)
  (k:∀ b s' B',Nx n G D w0 (wpListIn Fence.wide m P ops Q rest) ((d,.bool b) :: E) (ue C B' s' :: L) (κ (b,s'))) :
  Nx n G D w0 (wpListIn Fence.wide m P ops Q (⟨some d,.call {callee:=.value f,args:=args.toArray,argTypes:=at'},ty,pos,aft,none⟩ :: rest)) E (ue C B s :: L) (Y s z ok κ):=fun a w hE hm hφ=>by
 refine wpListIn_plain rfl fun K hK=>?_
 obtain ⟨Lc,h1,h2,hm'⟩:=hm.openC
 obtain ⟨fn,tmps,assign,body,hy,hR⟩:=hY (m - 1) h1 hm' (El'.keep _ _ w w _ _ (fun b hb=>(Vz h2 b).1 hb) (fun _ _=>rfl) (hc w hm)) hφ
 have hx:=hE.eval hf
 have hargs:=Uf (fun x v h=>hE.eval h) ha
 have hrun:(execOp a.eval ⟨some d,.call {callee:=.value f,args:=args.toArray,argTypes:=at'},ty,pos,aft,none⟩).run P w=.ok (.round l fn tmps assign body) w:=by
  simp [execOp,resolve,Deferred.ofValue,hx,invoke,hargs,hy]
 refine ⟨fun f _=>trivial,?_⟩
 change Oper.uponIn Fence.wide m P _ a K Q ((execOp a.eval ⟨some d,.call {callee:=.value f,args:=args.toArray,argTypes:=at'},ty,pos,aft,none⟩).run P w)
 rw [hrun,Oper.uponIn_round]
 refine ⟨fun e=>by simp [Fence.wide] at e,hR.mono ?_⟩
 rintro e w' ⟨b,s',L',rfl,q1,q2,q3⟩
 exact hK _ _ (k b s' _ _ w' (hE.put hd _) (q2.closeC q1) q3)
theorem zfy {o:Oper} {a:Act} {w:World} {next:Act→World→Prop} {m l:Nat} (hnd:∀ c,o.op≠.defer c) (h:o.wp P a w next Q):o.wpIn (Fence.wide.inRound l) m P a w next Q:=by
 refine ⟨fun f _=>trivial,?_⟩
 have h':o.upon P a next Q ((execOp a.eval o).run P w):=h
 show o.uponIn (Fence.wide.inRound l) m P a next Q ((Oper.semAt (some l) a.eval o).run P w)
 rw [Oper.semAt_some l a.eval o hnd]
 revert h'
 generalize (execOp a.eval o).run P w=r
 intro h'
 cases r with
 | ok x w' =>
  cases x <;> first | exact h' | (refine ⟨fun e=>by simp [Fence.wide] at e,?_⟩;exact CallsIn.inRound l (callsIn_wide.2 h')) | (refine ⟨fun e=>by simp [Fence.wide] at e,fun c cs _=>?_⟩;obtain ⟨v,w'',k1,k2⟩:=h' c cs;exact ⟨v,w'',k1,stepsIn_wide.2 k2⟩) | exact False.elim h'
 | halt x w'=>cases x <;> first | exact h' | exact False.elim h'
section
variable {F:Fence} {m l:Nat}
theorem zeH {x y:Code} (h:Nx n G D w0 (x.wpIn F m P (Exit.then (y.wpIn F m P Q) Q)) E L φ):Nx n G D w0 ((Code.seq x y).wpIn F m P Q) E L φ:=fun a w hE hm hφ=>wpIn_seq (h a w hE hm hφ)
theorem zgS {id:Nat} {c:Code} (h:Nx n G D w0 (c.wpIn F m P (Exit.inBlock id Q)) E L φ):Nx n G D w0 ((Code.block id c).wpIn F m P Q) E L φ:=fun a w hE hm hφ=>wpIn_block (h a w hE hm hφ)
theorem UE {id:Nat} {l:List Oper} (h:Nx n G D w0 (wpListIn F m P l.toArray Q l) E L φ):Nx n G D w0 ((Code.region id l.toArray false).wpIn F m P Q) E L φ:=fun a w hE hm hφ=>wpIn_region_lit (h a w hE hm hφ)
theorem zhI (h:Nx n G D w0 (Q .normal) E L φ):Nx n G D w0 (Code.skip.wpIn F m P Q) E L φ:=fun a w hE hm hφ=>wpIn_skip (h a w hE hm hφ)
theorem zik (h:Nx n G D w0 (Q .ret) E L φ):Nx n G D w0 (Code.ret.wpIn F m P Q) E L φ:=fun a w hE hm hφ=>wpIn_ret (h a w hE hm hφ)
theorem zhr {c:Operand} {x y:Code} {t:Bool} {A B:Prop} (hc:oev E c=some (.bool t)) (hx:Nx n G D w0 (x.wpIn F m P Q) E L A) (hy:Nx n G D w0 (y.wpIn F m P Q) E L B):Nx n G D w0 ((Code.cond c x y).wpIn F m P Q) E L (ifW t A B) :=
 fun a w hE hm hφ=>wpIn_cond_split (hE.eval hc) (fun h=>hx a w hE hm (hφ.1 h)) (fun h=>hy a w hE hm (hφ.2 h))
theorem zdg {ops:Array Oper} {rest:List Oper} {dst:Option Tmp} {op:Op} (hnd:∀ c,op≠.defer c) (h:Nx n G D w0 (fun a w=>Oper.wp P ⟨dst,op,ty,pos,aft,none⟩ a w (wpListIn (Fence.wide.inRound l) m P ops Q rest) Q) E L φ):Nx n G D w0 (wpListIn (Fence.wide.inRound l) m P ops Q (⟨dst,op,ty,pos,aft,none⟩ :: rest)) E L φ :=
 fun a w hE hm hφ=>by
  unfold wpListIn
  rw [if_pos (by simp [Region.wanted])]
  exact zfy hnd (h a w hE hm hφ)
theorem stR {ops:Array Oper} {rest:List Oper} {dst:Option Tmp} {op:Op} (hnd:∀ c,op≠.defer c):xL P n G D w0 E ⟨dst,op,ty,pos,aft,none⟩ (wpListIn (Fence.wide.inRound l) m P ops Q (⟨dst,op,ty,pos,aft,none⟩ :: rest)) (wpListIn (Fence.wide.inRound l) m P ops Q rest) L L :=
 ⟨fun hd ho hr hψ k=>zdg hnd (zdI hd ho hr hψ k)⟩
end
end
end
section
open Go.RowKit
@[ext] structure zd where
 xLo:Int
 xHi:Int
 deriving DecidableEq
def zE (x:zd):List Value:=[(.int .i64 x.xLo),(.int .i64 x.xHi)]
def ze:El zd:=El.flat 2 zE (by decide) (fun _=>rfl) (fun x u h=>by simp only [zE,List.mem_cons,List.not_mem_nil,or_false] at h;rcases h with rfl | rfl <;> rfl)
theorem zl:XU ze zE:=Xw
abbrev xG:DEl zd:=Vw ze zE zl
@[ext] structure zI where
 xField:Int
 xLo:Int
 xHi:Int
 xNot:Bool
 deriving DecidableEq
def xV (x:zI):List Value:=[(.int .i64 x.xField),(.int .i64 x.xLo),(.int .i64 x.xHi),(.bool x.xNot)]
def jS:El zI:=El.flat 4 xV (by decide) (fun _=>rfl) (fun x u h=>by simp only [xV,List.mem_cons,List.not_mem_nil,or_false] at h;rcases h with rfl | rfl | rfl | rfl <;> rfl)
theorem jL:XU jS xV:=Xw
abbrev zh2:DEl zI:=Vw jS xV jL
@[ext] structure zK where
 xTests:(List zI)
 xAction:Int
 xChain:Int
 deriving DecidableEq
def zbL (u:Value) (x:zK):List Value:=[u,(.int .i64 x.xAction),(.int .i64 x.xChain)]
def uz:El zK where
 size:=3
 cells:=fun F w x cs=>∃ u:Value,cs=zbL u x∧Sl jS F w u x.xTests
 pos:=by decide
 len:=fun F w x cs ⟨u,e,_⟩=>by rw [e];rfl
 one:=fun F w x cs ⟨u,e,h⟩ v hv=>by
  subst e
  simp only [zbL,List.mem_cons,List.not_mem_nil,or_false] at hv
  rcases hv with e | e | e
  ·subst e;exact h.one
  ·subst e;exact rfl
  ·subst e;exact rfl
 keep:=fun F F' w w' x cs hF hb ⟨u,e,h⟩=>⟨u,e,h.keep hF hb⟩
def yj:DEl zK where
 el:=uz
 own:=fun B w x cs=>∃ u:Value,cs=zbL u x∧Dp zh2 165 B w u x.xTests
 read:=fun B w x cs ⟨u,e,h⟩=>⟨u,e,h.sl⟩
 keep:=fun B w w' x cs hk ⟨u,e,h⟩=>⟨u,e,h.keep hk⟩
 lt:=fun B w x cs ⟨u,e,h⟩=>h.lt
@[ext] structure jm where
 xChains:(List (List zK))
 xAccept:Bool
 deriving DecidableEq
@[ext] structure zeQ where
 x0:Int
 x1:Int
 x2:Int
 x3:Int
 deriving DecidableEq
@[ext] structure z7 where
 xFrom:Int
 xTo:Int
 xPort:Int
 xProto:Int
 deriving DecidableEq
@[ext] structure za where
 x0:(List zd)
 x1:(List zd)
 x2:(List zd)
 x3:(List zd)
 deriving DecidableEq
def Uq (u:Value×Value×Value×Value) (x:za):List Value:=[u.1,u.2.1,u.2.2.1,u.2.2.2]
def zf:El za where
 size:=4
 cells:=fun F w x cs=>∃ u:Value×Value×Value×Value,cs=Uq u x∧Sl ze F w u.1 x.x0∧Sl ze F w u.2.1 x.x1∧Sl ze F w u.2.2.1 x.x2∧Sl ze F w u.2.2.2 x.x3
 pos:=by decide
 len:=fun F w x cs ⟨u,e,_⟩=>by rw [e];rfl
 one:=fun F w x cs ⟨u,e,h⟩ v hv=>by
  subst e
  simp only [Uq,List.mem_cons,List.not_mem_nil,or_false] at hv
  rcases hv with e | e | e | e
  ·subst e;exact h.1.one
  ·subst e;exact h.2.1.one
  ·subst e;exact h.2.2.1.one
  ·subst e;exact h.2.2.2.one
 keep:=fun F F' w w' x cs hF hb ⟨u,e,h⟩=>⟨u,e,h.1.keep hF hb,h.2.1.keep hF hb,h.2.2.1.keep hF hb,h.2.2.2.keep hF hb⟩
@[ext] structure uq where
 xAccept:Bool
 deriving DecidableEq
@[ext] structure um where
 deriving DecidableEq
@[ext] structure yk where
 deriving DecidableEq
@[ext] structure Zf where
 xChain:Int
 deriving DecidableEq
@[ext] structure zo where
 xWhere:za
 xAccept:Bool
 deriving DecidableEq
def zcA (u:Value×Value×Value×Value) (x:zo):List Value:=[u.1,u.2.1,u.2.2.1,u.2.2.2,(.bool x.xAccept)]
def zB:El zo where
 size:=5
 cells:=fun F w x cs=>∃ u:Value×Value×Value×Value,cs=zcA u x∧Sl ze F w u.1 x.xWhere.x0∧Sl ze F w u.2.1 x.xWhere.x1∧Sl ze F w u.2.2.1 x.xWhere.x2∧Sl ze F w u.2.2.2 x.xWhere.x3
 pos:=by decide
 len:=fun F w x cs ⟨u,e,_⟩=>by rw [e];rfl
 one:=fun F w x cs ⟨u,e,h⟩ v hv=>by
  subst e
  simp only [zcA,List.mem_cons,List.not_mem_nil,or_false] at hv
  rcases hv with e | e | e | e | e
  ·subst e;exact h.1.one
  ·subst e;exact h.2.1.one
  ·subst e;exact h.2.2.1.one
  ·subst e;exact h.2.2.2.one
  ·subst e;exact rfl
 keep:=fun F F' w w' x cs hF hb ⟨u,e,h⟩=>⟨u,e,h.1.keep hF hb,h.2.1.keep hF hb,h.2.2.1.keep hF hb,h.2.2.2.keep hF hb⟩
@[ext] structure uo where
 xAccepted:(List za)
 xDropped:(List za)
 deriving DecidableEq
@[ext] structure xv where
 xSides:(List (List zd))
 deriving DecidableEq
@[ext] structure z8 where
 xWhere:xv
 xAccept:Bool
 deriving DecidableEq
def zbo (u:Value) (x:z8):List Value:=[u,(.bool x.xAccept)]
def uh:El z8 where
 size:=2
 cells:=fun F w x cs=>∃ u:Value,cs=zbo u x∧Sl (zT ze) F w u x.xWhere.xSides
 pos:=by decide
 len:=fun F w x cs ⟨u,e,_⟩=>by rw [e];rfl
 one:=fun F w x cs ⟨u,e,h⟩ v hv=>by
  subst e
  simp only [zbo,List.mem_cons,List.not_mem_nil,or_false] at hv
  rcases hv with e | e
  ·subst e;exact h.one
  ·subst e;exact rfl
 keep:=fun F F' w w' x cs hF hb ⟨u,e,h⟩=>⟨u,e,h.keep hF hb⟩
def u7:DEl z8 where
 el:=uh
 own:=fun B w x cs=>∃ u:Value,cs=zbo u x∧Dp (dSl xG 89) 90 B w u x.xWhere.xSides
 read:=fun B w x cs ⟨u,e,h⟩=>⟨u,e,h.sl⟩
 keep:=fun B w w' x cs hk ⟨u,e,h⟩=>⟨u,e,h.keep hk⟩
 lt:=fun B w x cs ⟨u,e,h⟩=>h.lt
@[ext] structure YH where
 xChain:Int
 xNext:Int
 deriving DecidableEq
@[ext] structure yW where
 xName:ByteArray
 xTop:Int
 deriving DecidableEq
def yd (x:yW):List Value:=[(.string x.xName),(.int .i64 x.xTop)]
def zY:El yW:=El.flat 2 yd (by decide) (fun _=>rfl) (fun x u h=>by simp only [yd,List.mem_cons,List.not_mem_nil,or_false] at h;rcases h with rfl | rfl <;> rfl)
theorem XS:XU zY yd:=Xw
inductive xY where
 | kDeciding (x:uq)
 | kCalling (x:Zf)
 | kReturning (x:um)
 | kPassing (x:yk)
def XW:xY→Value
 | .kDeciding x=>.iface 262 (.agg #[(.bool x.xAccept)])
 | .kCalling x=>.iface 264 (.agg #[(.int .i64 x.xChain)])
 | .kReturning x=>.iface 266 (.agg #[])
 | .kPassing x=>.iface 267 (.agg #[])
def xY.casesW (a:xY) (p0:uq→Prop) (p1:Zf→Prop) (p2:um→Prop) (p3:yk→Prop):Prop:=match a with
 | .kDeciding x=>p0 x
 | .kCalling x=>p1 x
 | .kReturning x=>p2 x
 | .kPassing x=>p3 x
def zC:List yW:=[⟨(ByteArray.mk #[102,114,111,109]),65535⟩,⟨(ByteArray.mk #[116,111]),65535⟩,⟨(ByteArray.mk #[112,111,114,116]),255⟩,⟨(ByteArray.mk #[112,114,111,116,111]),7⟩]
def Xc (code_0:(List UInt8)) (κ:((List UInt8)×Int)→Prop):Prop :=
 jnW (fun (xs68:(List UInt8))=>κ (xs68,0)) (fun k71=>ifW (decide (2000<(code_0.length:Int))) (Yq code_0 0 2000 (fun xs4=>k71 xs4)) (k71 code_0))
def zk (r_0_b:(List UInt8)) (r_0_p:Int) (n_1:Int) (κ:(Int×Int)→Prop):Prop :=
 jy r_0_p 1 (fun t5=>jnW (fun (t66:Bool)=>ifW t66 (κ (0,t5)) (XK t5 1 (fun t68=>ifW (decide (t68<(r_0_b.length:Int))) (zF r_0_b t68 (fun e69=>zd6 (e69.toNat:Int) n_1 (fun t71=>κ (t71,t5)))) (zd6 t68 (r_0_b.length:Int) (fun t72=>zF r_0_b t72 (fun e73=>zee (e73.toNat:Int) 131 (fun t75=>zee t68 7 (fun t76=>jy t76 3 (fun t77=>zd6 t77 (r_0_b.length:Int) (fun t78=>zF r_0_b t78 (fun e79=>zee (e79.toNat:Int) 1117 (fun t81=>jy t75 t81 (fun t82=>zee t68 29 (fun t83=>jy t82 t83 (fun t84=>zf7 t68 (r_0_b.length:Int) (fun t85=>zee t85 53 (fun t86=>jy t84 t86 (fun t87=>zf7 t87 64 (fun t88=>zhL t87 t88 (fun t89=>zd6 t89 n_1 (fun t90=>κ (t90,t5)))))))))))))))))))))) (fun k67=>ifW (decide (n_1<1)) (k67 true) (k67 (decide ((r_0_b.length:Int)=0)))))
def jD (r_0_b:(List UInt8)) (r_0_p:Int) (n_1:Int) (κ:(Bool×Int)→Prop):Prop :=
 jnW (fun ((t68,t69):(Int×Bool))=>κ (t69,t68)) (fun k70=>ifW (decide (0<n_1)) (zk r_0_b r_0_p n_1 (fun (r5,r6)=>XK n_1 1 (fun t7=>k70 (r6,(decide (r5=t7)))))) (k70 (r_0_p,false)))
def xc (n_0:Int) (κ:Int→Prop):Prop :=
 jnW (fun (t61:Bool)=>ifW t61 (κ 65535) (ifW (decide (n_0=2)) (κ 255) (ifW (decide (n_0=3)) (κ 7) (κ (-1))))) (fun k62=>ifW (decide (n_0=0)) (k62 (decide (n_0=0))) (k62 (decide (n_0=1))))
def yo (r_0_b:(List UInt8)) (r_0_p:Int) (top_1:Int) (n_2:Int) (κ:(zd×Int)→Prop):Prop :=
 jy top_1 1 (fun t7=>zk r_0_b r_0_p (min 256 t7) (fun (r8,r9)=>jnW (fun ((t144,t145):(Int×Int))=>jnW (fun ((t147,t148):(Int×Int))=>jD r_0_b t147 n_2 (fun (r174,r175)=>ifW r174 (jnW (fun ((t176,t177,t178):(Int×Int×Int))=>κ ((zd.mk t177 t178),t176)) (fun k179=>zk r_0_b r175 3 (fun (r181,r182)=>zF ([(zd.mk (w64 (t148+1)) t148),(zd.mk (-1) t148),(zd.mk t145 (w64 (top_1+1)))]) r181 (fun e183=>k179 (r182,e183.xLo,e183.xHi))))) (κ ((zd.mk t145 t148),r175)))) (fun k149=>zk r_0_b t144 4 (fun (r150,r151)=>zk r_0_b r151 256 (fun (r152,r153)=>zk r_0_b r153 4 (fun (r155,r156)=>zF ([0,r150,r152,4096]) r155 (fun e157=>k149 (r156,(min top_1 (w64 (t145+e157)))))))))) (fun k146=>jnW (fun ((t74,t75):(Int×Bool))=>ifW t75 (jnW (fun ((t77,t78):(Int×Int))=>k146 (t77,t78)) (fun k79=>zk r_0_b t74 256 (fun (r80,r81)=>k79 (r81,(min top_1 (w64 ((w64 (r8 * 256))+r80))))))) (k146 (t74,r8))) (fun k76=>ifW (decide (255<top_1)) (zk r_0_b r9 2 (fun (r12,r13)=>k76 (r13,(decide (r12=0))))) (k76 (r9,false))))))
def Za (r_0_b:(List UInt8)) (r_0_p:Int) (n_1:Int) (κ:(zI×Int)→Prop):Prop :=
 zk r_0_b r_0_p 4 (fun (r7,r8)=>zk r_0_b r8 4 (fun (r9,r10)=>xc r7 (fun r13=>yo r_0_b r10 r13 0 (fun (r14,r15)=>jnW (fun ((t152,t153,t154):(Int×Int×Int))=>jnW (fun ((t241,t242,t243):(Int×Int×Int))=>jnW (fun ((t317,t318,t319,t320):(Int×Int×Int×Int))=>κ ((zI.mk t318 t319 t320 (decide (r9=0))),t317)) (fun k321=>jD r_0_b t241 n_1 (fun (r245,r246)=>ifW r245 (zk r_0_b r246 3 (fun (r247,r248)=>ifW (decide (r247=0)) (zk r_0_b r248 2 (fun (r251,r252)=>zF ([(-1),4]) r251 (fun e253=>k321 (r252,e253,t242,t243)))) (ifW (decide (r247=1)) (jy t243 1 (fun t255=>k321 (r248,r7,t255,t243))) (jy r13 1 (fun t256=>k321 (r248,r7,t242,t256)))))) (k321 (r246,r7,t242,t243))))) (fun k244=>zk r_0_b t152 8 (fun (r156,r157)=>ifW (decide (r156=0)) (jnW (fun ((t158,t159,t160):(Int×Int×Int))=>k244 (t158,t159,t160)) (fun k161=>zk r_0_b r157 3 (fun (r163,r164)=>zF ([(zd.mk 0 r13),(zd.mk 0 t154),(zd.mk t153 r13)]) r163 (fun e165=>k161 (r164,e165.xLo,e165.xHi))))) (k244 (r157,t153,t154))))) (fun k155=>jnW (fun ((t80,t81):(Int×Bool))=>ifW t81 (zk r_0_b t80 20 (fun (r83,r84)=>jnW (fun ((t85,t86):(Int×Int))=>k155 (t85,r83,t86)) (fun k87=>zk r_0_b r84 8 (fun (r88,r89)=>k87 (r89,(w64 (r83+r88))))))) (k155 (t80,r14.xLo,r14.xHi))) (fun k82=>ifW (decide (r7<2)) (zk r_0_b r15 2 (fun (r18,r19)=>k82 (r19,(decide (r18=0))))) (k82 (r15,false))))))))
def ZM (r_0_b:(List UInt8)) (r_0_p:Int) (n_1:Int) (κ:((List zI)×Int)→Prop):Prop :=
 zk r_0_b r_0_p 4 (fun (r8,r9)=>jB (fun (nx16:(Int×(List zI)×Int)→Prop) ((t10,xs12,t15):(Int×(List zI)×Int))=>ifW (decide (0<t15)) (Za r_0_b t10 0 (fun (r17,r18)=>xu xs12 ([r17]) (fun _=>XK t15 1 (fun t23=>nx16 (r18,(xs12++([r17])),t23))))) (jnW (fun ((t97,xs99):(Int×(List zI)))=>κ (xs99,t97)) (fun k102=>jD r_0_b t10 n_1 (fun (r24,r25)=>ifW r24 (zk r_0_b r25 2 (fun (r26,r27)=>ifW (decide (r26=0)) (Za r_0_b r27 1 (fun (r28,r29)=>xu xs12 ([r28]) (fun _=>k102 (r29,(xs12++([r28])))))) (UA ((zI.mk 0 0 0 false):zI) 7 7 (fun xs35=>k102 (r27,xs35))))) (k102 (r25,xs12)))))) (r9,[],r8))
def zD (n_0:Int) (κ:Int→Prop):Prop :=
 jnW (fun (t61:Bool)=>ifW t61 (κ (-1)) (zF zC n_0 (fun e63=>κ e63.xTop))) (fun k62=>ifW (decide (n_0<0)) (k62 true) (k62 (decide (4≤n_0))))
def Zk (t_0:zI) (κ:Bool→Prop):Prop :=
 jnW (fun (t64:Bool)=>κ t64) (fun k65=>ifW (decide (0≤t_0.xField)) (ifW (decide (t_0.xField<4)) (ifW (decide (0≤t_0.xLo)) (ifW (decide (t_0.xLo≤t_0.xHi)) (zD t_0.xField (fun r3=>k65 (decide (t_0.xHi≤r3)))) (k65 false)) (k65 false)) (k65 false)) (k65 false))
def yL (list_0:(List zI)) (κ:Bool→Prop):Prop :=
 ifW (decide (6<(list_0.length:Int))) (κ false) (jB (fun (nx4:Int→Prop) (t3:Int)=>ifW (decide (t3<(list_0.length:Int))) (zF list_0 t3 (fun e5=>Zk e5 (fun r9=>ifW (!r9) (κ false) (jy t3 1 (fun t10=>nx4 t10))))) (κ true)) 0)
def Zq (r_0:zK) (κ:Bool→Prop):Prop :=
 yL r_0.xTests (fun r8=>ifW (!r8) (κ false) (ifW (decide (r_0.xAction=3)) (jnW (fun (t69:Bool)=>κ t69) (fun k70=>ifW (decide (0≤r_0.xChain)) (k70 (decide (r_0.xChain<5))) (k70 false))) (jnW (fun (t131:Bool)=>ifW t131 (κ (decide (r_0.xChain=0))) (κ false)) (fun k132=>ifW (decide (r_0.xAction=1)) (k132 (decide (r_0.xAction=1))) (ifW (decide (r_0.xAction=2)) (k132 (decide (r_0.xAction=2))) (ifW (decide (r_0.xAction=4)) (k132 (decide (r_0.xAction=4))) (k132 (decide (r_0.xAction=5)))))))))
def yQ (list_0:(List zK)) (κ:Bool→Prop):Prop :=
 ifW (decide (8<(list_0.length:Int))) (κ false) (jB (fun (nx4:Int→Prop) (t3:Int)=>ifW (decide (t3<(list_0.length:Int))) (zF list_0 t3 (fun e5=>Zq e5 (fun r16=>ifW (!r16) (κ false) (jy t3 1 (fun t17=>nx4 t17))))) (κ true)) 0)
def Ze (rules_0:(List zK)) (κ:(List Int)→Prop):Prop :=
 jB (fun (nx9:((List Bool)×Int)→Prop) ((xs6,t8):((List Bool)×Int))=>ifW (decide (t8<(rules_0.length:Int))) (jnW (fun (xs84:(List Bool))=>jy t8 1 (fun t87=>nx9 (xs84,t87))) (fun k86=>zF rules_0 t8 (fun e10=>ifW (decide (e10.xAction=3)) (zF xs6 e10.xChain (fun e21=>k86 (xs6.set (e10.xChain).toNat true))) (k86 xs6)))) (zid xs6 (fun e89 e90 e91 e92 e93=>jB (fun (nx100:((List Int)×Int)→Prop) ((xs96,t99):((List Int)×Int))=>ifW (decide (t99<5)) (jnW (fun (xs166:(List Int))=>jy t99 1 (fun t170=>nx100 (xs166,t170))) (fun k169=>zF ([e89,e90,e91,e92,e93]) t99 (fun e101=>ifW e101 (xu xs96 ([t99]) (fun _=>k169 (xs96++([t99])))) (k169 xs96)))) (κ xs96)) ([],0)))) ([false,false,false,false,false],0)
def yO (rec:((List (List zK))→Int→(List Int)→((Bool×(List Int))→Prop)→Prop)) (chains_0:(List (List zK))) (chain_1:Int) (colours_2:(List Int)) (κ:(Bool×(List Int))→Prop):Prop :=
 ifW (decide ((chains_0.length:Int)≤chain_1)) (κ (true,colours_2)) (zF colours_2 chain_1 (fun e5=>ifW (decide (e5=1)) (κ (false,colours_2)) (ifW (decide (e5=2)) (κ (true,colours_2)) (zF colours_2 chain_1 (fun e7=>zF chains_0 chain_1 (fun e10=>Ze e10 (fun r16=>jB (fun (nx23:((List Int)×Bool×Int)→Prop) ((xs19,t21,t22):((List Int)×Bool×Int))=>ifW (decide (t22<(r16.length:Int))) (jnW (fun ((xs89,t91):((List Int)×Bool))=>jy t22 1 (fun t93=>nx23 (xs89,t91,t93))) (fun k92=>zF r16 t22 (fun e24=>rec chains_0 e24 xs19 (fun (r26,r27)=>ifW (!r26) (k92 (r27,false)) (k92 (r27,t21)))))) (zF xs19 chain_1 (fun e94=>κ (t21,(xs19.set (chain_1).toNat 2))))) ((colours_2.set (chain_1).toNat 1),true,0))))))))
def x7:Nat→(List (List zK))→Int→(List Int)→((Bool×(List Int))→Prop)→Prop
 | 0=>fun _ _ _ _=>False
 | n+1=>yO (x7 n)
def Yg (chains_0:(List (List zK))) (chain_1:Int) (colours_2:(List Int)) (κ:(Bool×(List Int))→Prop):Prop:=∃ n,x7 n chains_0 chain_1 colours_2 κ
def Z6 (chains_0:(List (List zK))) (κ:Bool→Prop):Prop :=
 jB (fun (nx8:((List Int)×Int)→Prop) ((xs5,t7):((List Int)×Int))=>ifW (decide (t7<(chains_0.length:Int))) (Yg chains_0 t7 xs5 (fun (r9,r10)=>ifW (!r9) (κ false) (jy t7 1 (fun t12=>nx8 (r10,t12))))) (κ true)) ([0,0,0,0,0],0)
def yb (s_0:jm) (κ:Bool→Prop):Prop :=
 jnW (fun (t68:Bool)=>ifW t68 (κ false) (jB (fun (nx71:Int→Prop) (t70:Int)=>ifW (decide (t70<(s_0.xChains.length:Int))) (zF s_0.xChains t70 (fun e72=>yQ e72 (fun r78=>ifW (!r78) (κ false) (jy t70 1 (fun t79=>nx71 t79))))) (jB (fun (nx81:Int→Prop) (t80:Int)=>ifW (decide (t80<(s_0.xChains.length:Int))) (zF s_0.xChains t80 (fun e82=>Ze e82 (fun r88=>jB (fun (nx92:Int→Prop) (t91:Int)=>ifW (decide (t91<(r88.length:Int))) (zF r88 t91 (fun e93=>ifW (decide ((s_0.xChains.length:Int)≤e93)) (κ false) (jy t91 1 (fun t95=>nx92 t95)))) (jy t80 1 (fun t96=>nx81 t96))) 0))) (Z6 s_0.xChains (fun r97=>κ r97))) 0)) 0)) (fun k69=>ifW (decide ((s_0.xChains.length:Int)<1)) (k69 true) (k69 (decide (5<(s_0.xChains.length:Int)))))
def XM (r_0:zK) (κ:xY→Prop):Prop :=
 ifW (decide (r_0.xAction=1)) (κ (xY.kDeciding (uq.mk true))) (ifW (decide (r_0.xAction=2)) (κ (xY.kDeciding (uq.mk false))) (ifW (decide (r_0.xAction=3)) (κ (xY.kCalling (Zf.mk r_0.xChain))) (ifW (decide (r_0.xAction=4)) (κ (xY.kReturning (um.mk ))) (κ (xY.kPassing (yk.mk ))))))
def xU (a_0:(List zd)) (b_1:(List zd)) (κ:(Int×Bool)→Prop):Prop :=
 jB (fun (nx7:(Int×Int)→Prop) ((t5,t6):(Int×Int))=>jnW (fun (t68:Bool)=>ifW t68 (zF a_0 t5 (fun e70=>zF b_1 t6 (fun e72=>zF a_0 t5 (fun e74=>zF b_1 t6 (fun e76=>ifW (decide ((max e70.xLo e72.xLo)≤(min e74.xHi e76.xHi))) (κ ((max e70.xLo e72.xLo),true)) (zF a_0 t5 (fun e78=>zF b_1 t6 (fun e80=>ifW (decide (e78.xHi<e80.xHi)) (jy t5 1 (fun t82=>nx7 (t82,t6))) (jy t6 1 (fun t83=>nx7 (t5,t83))))))))))) (κ (0,false))) (fun k69=>ifW (decide (t5<(a_0.length:Int))) (k69 (decide (t6<(b_1.length:Int)))) (k69 false))) (0,0)
def XQ (fields_0:zeQ) (κ:z7→Prop):Prop :=
 zF ([fields_0.x0,fields_0.x1,fields_0.x2,fields_0.x3]) 0 (fun e5=>zF ([fields_0.x0,fields_0.x1,fields_0.x2,fields_0.x3]) 1 (fun e7=>zF ([fields_0.x0,fields_0.x1,fields_0.x2,fields_0.x3]) 2 (fun e9=>zF ([fields_0.x0,fields_0.x1,fields_0.x2,fields_0.x3]) 3 (fun e11=>κ (z7.mk e5 e7 e9 e11)))))
def xP (s_0:za) (other_1:za) (κ:(z7×Bool)→Prop):Prop :=
 jB (fun (nx52:((List Int)×Int)→Prop) ((xs49,t51):((List Int)×Int))=>ifW (decide (t51<4)) (jnW (fun ((t53,t54):(Int×Bool))=>ifW (!t54) (κ ((z7.mk 0 0 0 0),false)) (zF xs49 t51 (fun e78=>jy t51 1 (fun t81=>nx52 ((xs49.set (t51).toNat t53),t81))))) (fun k55=>zF ([s_0.x0,s_0.x1,s_0.x2,s_0.x3]) t51 (fun e56=>zF ([other_1.x0,other_1.x1,other_1.x2,other_1.x3]) t51 (fun e58=>xU e56 e58 (fun (r68,r69)=>k55 (r68,r69)))))) (zeq xs49 (fun e82 e83 e84 e85=>XQ (zeQ.mk e82 e83 e84 e85) (fun r87=>κ (r87,true))))) ([0,0,0,0],0)
def ux (s_0:za) (other_1:za) (κ:Bool→Prop):Prop :=
 xP s_0 other_1 (fun (r75,r76)=>κ r76)
def uZ (list_0:(List zd)) (κ:((List zd)×Bool)→Prop):Prop :=
 ifW (decide (40<(list_0.length:Int))) (κ ([],false)) (κ (list_0,true))
def x9 (rest_0:(List zd)) (at_1:Int) (top_2:Int) (κ:(Bool×Int)→Prop):Prop :=
 ifW (decide ((rest_0.length:Int)=0)) (κ (false,top_2)) (zF rest_0 0 (fun e3=>ifW (decide (at_1<e3.xLo)) (zF rest_0 0 (fun e5=>XK e5.xLo 1 (fun t7=>κ (false,t7)))) (zF rest_0 0 (fun e8=>κ (true,e8.xHi)))))
def ZK (inA_0:Bool) (inB_1:Bool) (κ:Bool→Prop):Prop :=
 jnW (fun (t61:Bool)=>κ t61) (fun k62=>ifW inA_0 (k62 inB_1) (k62 false))
def xC (a_0:(List zd)) (b_1:(List zd)) (top_2:Int) (κ:(List zd)→Prop):Prop :=
 jB (fun (nx14:((List zd)×Int×Int×Int)→Prop) ((xs8,t11,t12,t13):((List zd)×Int×Int×Int))=>ifW (decide (t13≤top_2)) (jB (fun (nx16:Int→Prop) (t15:Int)=>jnW (fun (t79:Bool)=>ifW t79 (jy t15 1 (fun t81=>nx16 t81)) (jB (fun (nx83:Int→Prop) (t82:Int)=>jnW (fun (t146:Bool)=>ifW t146 (jy t82 1 (fun t148=>nx83 t148)) (Yq a_0 t15 (a_0.length:Int) (fun xs150=>x9 xs150 t13 top_2 (fun (r153,r154)=>Yq b_1 t82 (b_1.length:Int) (fun xs156=>x9 xs156 t13 top_2 (fun (r159,r160)=>jnW (fun (xs296:(List zd))=>jy (min r154 r160) 1 (fun t300=>nx14 (xs296,t15,t82,t300))) (fun k299=>ZK r153 r159 (fun r161=>ifW r161 (jnW (fun (t226:Bool)=>ifW t226 (XK (xs8.length:Int) 1 (fun t228=>zF xs8 t228 (fun e229=>k299 (xs8.set (t228).toNat (zd.mk e229.xLo (min r154 r160)))))) (xu xs8 ([(zd.mk t13 (min r154 r160))]) (fun _=>k299 (xs8++([(zd.mk t13 (min r154 r160))]))))) (fun k227=>ifW (decide (0<(xs8.length:Int))) (XK (xs8.length:Int) 1 (fun t162=>zF xs8 t162 (fun e163=>jy e163.xHi 1 (fun t165=>k227 (decide (t165=t13)))))) (k227 false))) (k299 xs8))))))))) (fun k147=>ifW (decide (t82<(b_1.length:Int))) (zF b_1 t82 (fun e84=>k147 (decide (e84.xHi<t13)))) (k147 false))) t12)) (fun k80=>ifW (decide (t15<(a_0.length:Int))) (zF a_0 t15 (fun e17=>k80 (decide (e17.xHi<t13)))) (k80 false))) t11) (κ xs8)) ([],0,0,0)
def zz (a_0:(List zd)) (b_1:(List zd)) (top_2:Int) (κ:((List zd)×Bool)→Prop):Prop :=
 xC a_0 b_1 top_2 (fun r6=>uZ r6 (fun (r9,r12)=>κ (r9,r12)))
def yK (s_0:za) (other_1:za) (κ:(za×Bool)→Prop):Prop :=
 jB (fun (nx52:((List (List zd))×Int)→Prop) ((xs49,t51):((List (List zd))×Int))=>ifW (decide (t51<4)) (jnW (fun ((xs53,t56):((List zd)×Bool))=>ifW (!t56) (κ ((za.mk ([]) ([]) ([]) ([])),false)) (zF xs49 t51 (fun e122=>jy t51 1 (fun t128=>nx52 ((xs49.set (t51).toNat xs53),t128))))) (fun k57=>zF ([s_0.x0,s_0.x1,s_0.x2,s_0.x3]) t51 (fun e58=>zF ([other_1.x0,other_1.x1,other_1.x2,other_1.x3]) t51 (fun e60=>zD t51 (fun r70=>zz e58 e60 r70 (fun (r71,r73)=>k57 (r71,r73))))))) (zeq xs49 (fun e129 e130 e131 e132=>κ ((za.mk e129 e130 e131 e132),true)))) ([[],[],[],[]],0)
def jz (u_0_chains:(List (List zK))) (u_0_flats:(List zo)) (u_0_over:Bool) (boxes_1:(List za)) (κ:((List za)×Bool)→Prop):Prop :=
 jnW (fun (t70:Bool)=>κ (boxes_1,t70)) (fun k71=>ifW (decide (400<(boxes_1.length:Int))) (k71 true) (k71 u_0_over))
def uk (s_0:za) (κ:Bool→Prop):Prop :=
 jB (fun (nx39:Int→Prop) (t38:Int)=>ifW (decide (t38<4)) (zF ([s_0.x0,s_0.x1,s_0.x2,s_0.x3]) t38 (fun e41=>ifW (decide ((e41.length:Int)=0)) (κ true) (jy t38 1 (fun t44=>nx39 t44)))) (κ false)) 0
def uO (inA_0:Bool) (inB_1:Bool) (κ:Bool→Prop):Prop :=
 jnW (fun (t61:Bool)=>κ t61) (fun k62=>ifW inA_0 (k62 (!inB_1)) (k62 false))
def xe (a_0:(List zd)) (b_1:(List zd)) (top_2:Int) (κ:(List zd)→Prop):Prop :=
 jB (fun (nx14:((List zd)×Int×Int×Int)→Prop) ((xs8,t11,t12,t13):((List zd)×Int×Int×Int))=>ifW (decide (t13≤top_2)) (jB (fun (nx16:Int→Prop) (t15:Int)=>jnW (fun (t79:Bool)=>ifW t79 (jy t15 1 (fun t81=>nx16 t81)) (jB (fun (nx83:Int→Prop) (t82:Int)=>jnW (fun (t146:Bool)=>ifW t146 (jy t82 1 (fun t148=>nx83 t148)) (Yq a_0 t15 (a_0.length:Int) (fun xs150=>x9 xs150 t13 top_2 (fun (r153,r154)=>Yq b_1 t82 (b_1.length:Int) (fun xs156=>x9 xs156 t13 top_2 (fun (r159,r160)=>jnW (fun (xs296:(List zd))=>jy (min r154 r160) 1 (fun t300=>nx14 (xs296,t15,t82,t300))) (fun k299=>uO r153 r159 (fun r161=>ifW r161 (jnW (fun (t226:Bool)=>ifW t226 (XK (xs8.length:Int) 1 (fun t228=>zF xs8 t228 (fun e229=>k299 (xs8.set (t228).toNat (zd.mk e229.xLo (min r154 r160)))))) (xu xs8 ([(zd.mk t13 (min r154 r160))]) (fun _=>k299 (xs8++([(zd.mk t13 (min r154 r160))]))))) (fun k227=>ifW (decide (0<(xs8.length:Int))) (XK (xs8.length:Int) 1 (fun t162=>zF xs8 t162 (fun e163=>jy e163.xHi 1 (fun t165=>k227 (decide (t165=t13)))))) (k227 false))) (k299 xs8))))))))) (fun k147=>ifW (decide (t82<(b_1.length:Int))) (zF b_1 t82 (fun e84=>k147 (decide (e84.xHi<t13)))) (k147 false))) t12)) (fun k80=>ifW (decide (t15<(a_0.length:Int))) (zF a_0 t15 (fun e17=>k80 (decide (e17.xHi<t13)))) (k80 false))) t11) (κ xs8)) ([],0,0,0)
def zV (a_0:(List zd)) (b_1:(List zd)) (top_2:Int) (κ:((List zd)×Bool)→Prop):Prop :=
 xe a_0 b_1 top_2 (fun r6=>uZ r6 (fun (r9,r12)=>κ (r9,r12)))
def yH {σ_:Type} (Y_:σ_→za→Bool→(Bool×σ_→Prop)→Prop) (z_:σ_) (a_1:za) (b_2:za) (κ:σ_→Prop):Prop :=
 uk a_1 (fun r20=>ifW r20 (κ z_) (ux a_1 b_2 (fun r51=>ifW (!r51) (Y_ z_ a_1 true (fun (t67,z68)=>κ z68)) (jB (fun (nx108:((List (List zd))×σ_×Bool×Int)→Prop) ((xs101,z103,t106,t107):((List (List zd))×σ_×Bool×Int))=>ifW (decide (t107<4)) (jnW (fun ((z498,xs501,t503):(σ_×(List (List zd))×Bool))=>jy t107 1 (fun t505=>nx108 (xs501,z498,t503,t505))) (fun k504=>jnW (fun ((xs109,t112):((List zd)×Bool))=>jnW (fun (t232:Bool)=>ifW t232 (Y_ z103 (za.mk ([]) ([]) ([]) ([])) false (fun (t234,z235)=>κ z235)) (jnW (fun ((z363,xs366):(σ_×(List (List zd))))=>jnW (fun ((xs369,t372):((List zd)×Bool))=>zF xs366 t107 (fun e432=>ifW t106 (k504 (z363,(xs366.set (t107).toNat xs369),t372)) (k504 (z363,(xs366.set (t107).toNat xs369),false)))) (fun k373=>(zF ([a_1.x0,a_1.x1,a_1.x2,a_1.x3]) t107 (fun e374=>(zF ([b_2.x0,b_2.x1,b_2.x2,b_2.x3]) t107 (fun e379=>zD t107 (fun r384=>zz e374 e379 r384 (fun (r385,r387)=>k373 (r385,r387)))))∧(zD t107 (fun r388=>zF ([b_2.x0,b_2.x1,b_2.x2,b_2.x3]) t107 (fun e389=>zz e374 e389 r388 (fun (r394,r396)=>k373 (r394,r396)))))))∧(zF ([b_2.x0,b_2.x1,b_2.x2,b_2.x3]) t107 (fun e397=>(zF ([a_1.x0,a_1.x1,a_1.x2,a_1.x3]) t107 (fun e402=>zD t107 (fun r407=>zz e402 e397 r407 (fun (r385,r387)=>k373 (r385,r387)))))∧(zD t107 (fun r408=>zF ([a_1.x0,a_1.x1,a_1.x2,a_1.x3]) t107 (fun e409=>zz e409 e397 r408 (fun (r414,r416)=>k373 (r414,r416)))))))∧(zD t107 (fun r417=>(zF ([a_1.x0,a_1.x1,a_1.x2,a_1.x3]) t107 (fun e418=>zF ([b_2.x0,b_2.x1,b_2.x2,b_2.x3]) t107 (fun e423=>zz e418 e423 r417 (fun (r394,r396)=>k373 (r394,r396)))))∧(zF ([b_2.x0,b_2.x1,b_2.x2,b_2.x3]) t107 (fun e425=>zF ([a_1.x0,a_1.x1,a_1.x2,a_1.x3]) t107 (fun e430=>zz e430 e425 r417 (fun (r414,r416)=>k373 (r414,r416))))))))) (fun k368=>ifW (decide (0<(xs109.length:Int))) (zeq xs101 (fun e238 e239 e240 e241=>zF ([e238,e239,e240,e241]) t107 (fun e273=>zeq (([e238,e239,e240,e241]).set (t107).toNat xs109) (fun e279 e280 e281 e282=>Y_ z103 (za.mk e279 e280 e281 e282) true (fun (t299,z300)=>ifW (!t299) (κ z300) (k368 (z300,[e238,e239,e240,e241]))))))) (k368 (z103,xs101))))) (fun k233=>ifW (!t112) (k233 true) (ifW (decide (0<(xs109.length:Int))) (k233 (!t106)) (k233 false)))) (fun k113=>(zF ([a_1.x0,a_1.x1,a_1.x2,a_1.x3]) t107 (fun e114=>(zF ([b_2.x0,b_2.x1,b_2.x2,b_2.x3]) t107 (fun e119=>zD t107 (fun r124=>zV e114 e119 r124 (fun (r125,r127)=>k113 (r125,r127)))))∧(zD t107 (fun r128=>zF ([b_2.x0,b_2.x1,b_2.x2,b_2.x3]) t107 (fun e129=>zV e114 e129 r128 (fun (r134,r136)=>k113 (r134,r136)))))))∧(zF ([b_2.x0,b_2.x1,b_2.x2,b_2.x3]) t107 (fun e137=>(zF ([a_1.x0,a_1.x1,a_1.x2,a_1.x3]) t107 (fun e142=>zD t107 (fun r147=>zV e142 e137 r147 (fun (r125,r127)=>k113 (r125,r127)))))∧(zD t107 (fun r148=>zF ([a_1.x0,a_1.x1,a_1.x2,a_1.x3]) t107 (fun e149=>zV e149 e137 r148 (fun (r154,r156)=>k113 (r154,r156)))))))∧(zD t107 (fun r157=>(zF ([a_1.x0,a_1.x1,a_1.x2,a_1.x3]) t107 (fun e158=>zF ([b_2.x0,b_2.x1,b_2.x2,b_2.x3]) t107 (fun e163=>zV e158 e163 r157 (fun (r134,r136)=>k113 (r134,r136)))))∧(zF ([b_2.x0,b_2.x1,b_2.x2,b_2.x3]) t107 (fun e165=>zF ([a_1.x0,a_1.x1,a_1.x2,a_1.x3]) t107 (fun e170=>zV e170 e165 r157 (fun (r154,r156)=>k113 (r154,r156)))))))))) (κ z103)) ([a_1.x0,a_1.x1,a_1.x2,a_1.x3],z_,true,0)))))
def YG (z:Option (List za)) (x:za) (ok:Bool) (κ:Bool×Option (List za)→Prop):Prop :=
 match z with
 | none=>False
 | some xs=>ifW ok (xu xs [x] (fun ys=>κ (true,some ys))) (κ (false,none))
def zhO:Option (List za)→List za×Bool
 | some xs=>(xs,true)
 | none=>([],false)
def un (s_0:za) (other_1:za) (κ:((List za)×Bool)→Prop):Prop :=
 yH YG (some []) s_0 other_1 (fun r=>κ (zhO r))
def uE (u_0_chains:(List (List zK))) (u_0_flats:(List zo)) (u_0_over:Bool) (boxes_1:(List za)) (where_2:za) (κ:((List za)×(List za)×Bool)→Prop):Prop :=
 jB (fun (nx42:((List za)×(List za)×Int)→Prop) ((xs34,xs38,t41):((List za)×(List za)×Int))=>ifW (decide (t41<(boxes_1.length:Int))) (zF boxes_1 t41 (fun e43=>jnW (fun (xs252:(List za))=>un e43 where_2 (fun (r286,r289)=>ifW (!r289) (κ ([],[],true)) (xu xs38 r286 (fun _=>jy t41 1 (fun t294=>nx42 (xs252,(xs38++r286),t294)))))) (fun k255=>ux e43 where_2 (fun r103=>ifW r103 (yK e43 where_2 (fun (r134,r143)=>ifW (!r143) (κ ([],[],true)) (xu xs34 ([r134]) (fun _=>k255 (xs34++([r134])))))) (k255 xs34))))) (jz u_0_chains u_0_flats u_0_over xs34 (fun (r295,r298)=>jz u_0_chains u_0_flats r298 xs38 (fun (r299,r302)=>κ (r295,r299,r302))))) ([],[],0)
def uT (κ:za→Prop):Prop :=
 jB (fun (nx8:((List (List zd))×Int)→Prop) ((xs5,t7):((List (List zd))×Int))=>ifW (decide (t7<4)) (zD t7 (fun r9=>zF xs5 t7 (fun e12=>jy t7 1 (fun t18=>nx8 ((xs5.set (t7).toNat ([(zd.mk 0 r9)])),t18))))) (zeq xs5 (fun e19 e20 e21 e22=>κ (za.mk e19 e20 e21 e22)))) ([[],[],[],[]],0)
def x6 (t_0:zI) (κ:(List zd)→Prop):Prop :=
 ifW (!t_0.xNot) (κ ([(zd.mk t_0.xLo t_0.xHi)])) (jnW (fun (xs72:(List zd))=>jnW (fun (xs142:(List zd))=>κ xs142) (fun k145=>zD t_0.xField (fun r76=>ifW (decide (t_0.xHi<r76)) (jy t_0.xHi 1 (fun t77=>xu xs72 ([(zd.mk t77 r76)]) (fun _=>k145 (xs72++([(zd.mk t77 r76)]))))) (k145 xs72)))) (fun k75=>ifW (decide (0<t_0.xLo)) (XK t_0.xLo 1 (fun t7=>xu ([]) ([(zd.mk 0 t7)]) (fun _=>k75 (([])++([(zd.mk 0 t7)]))))) (k75 ([]))))
def yR (list_0:(List zI)) (κ:za→Prop):Prop :=
 uT (fun r5=>jB (fun (nx32:((List (List zd))×Int)→Prop) ((xs29,t31):((List (List zd))×Int))=>ifW (decide (t31<(list_0.length:Int))) (zF list_0 t31 (fun e33=>jnW (fun (xs37:(List (List zd)))=>jy t31 1 (fun t76=>nx32 (xs37,t76))) (fun k39=>(zF xs29 e33.xField (fun e40=>x6 e33 (fun r46=>zD e33.xField (fun r48=>zz e40 r46 r48 (fun (r49,r51)=>zF xs29 e33.xField (fun e52=>k39 (xs29.set (e33.xField).toNat r49)))))))∧(x6 e33 (fun r69=>(zF xs29 e33.xField (fun e71=>zD e33.xField (fun r48=>zz e71 r69 r48 (fun (r49,r51)=>zF xs29 e33.xField (fun e52=>k39 (xs29.set (e33.xField).toNat r49))))))∧(zD e33.xField (fun r73=>zF xs29 e33.xField (fun e74=>zz e74 r69 r73 (fun (r49,r51)=>zF xs29 e33.xField (fun e52=>k39 (xs29.set (e33.xField).toNat r49))))))))))) (zeq xs29 (fun e77 e78 e79 e80=>κ (za.mk e77 e78 e79 e80)))) ([r5.x0,r5.x1,r5.x2,r5.x3],0))
def xN (s_0:(List za)) (n_1:Int) (κ:(List za)→Prop):Prop:=s_0=[]∧0≤n_1∧n_1≤4294967296∧κ []
def jw (slices_0:(List (List za))) (κ:(List za)→Prop):Prop :=
 jB (fun (nx6:(Int×Int)→Prop) ((t4,t5):(Int×Int))=>ifW (decide (t5<(slices_0.length:Int))) (zF slices_0 t5 (fun e7=>jy t4 (e7.length:Int) (fun t13=>ifW (decide (t13<0)) (False) (jy t5 1 (fun t14=>nx6 (t13,t14)))))) (xN ([]) t4 (fun r15=>jB (fun (nx23:((List za)×Int)→Prop) ((xs19,t22):((List za)×Int))=>ifW (decide (t22<(slices_0.length:Int))) (zF slices_0 t22 (fun e24=>xu xs19 e24 (fun _=>jy t22 1 (fun t32=>nx23 ((xs19++e24),t32))))) (κ xs19)) (r15,0)))) (0,0)
def x8 (d_0:uq) (u_1_chains:(List (List zK))) (u_1_flats:(List zo)) (u_1_over:Bool) (__2:(List za)) (fitting_3:(List za)) (missing_4:(List za)) (κ:((List za)×(List zo)×Bool)→Prop):Prop :=
 jB (fun (nx23:((List zo)×Int)→Prop) ((xs19,t22):((List zo)×Int))=>ifW (decide (t22<(fitting_3.length:Int))) (zF fitting_3 t22 (fun e24=>jnW (fun (xs57:(List zo))=>jy t22 1 (fun t113=>nx23 (xs57,t113))) (fun k60=>xu xs19 ([(zo.mk e24 d_0.xAccept)]) (fun _=>k60 (xs19++([(zo.mk e24 d_0.xAccept)])))))) (jnW (fun (t174:Bool)=>κ (missing_4,xs19,t174)) (fun k175=>ifW (decide (60<(xs19.length:Int))) (k175 true) (k175 u_1_over)))) (u_1_flats,0)
def yg (a_0:um) (__1_chains:(List (List zK))) (__1_flats:(List zo)) (__1_over:Bool) (left_2:(List za)) (fitting_3:(List za)) (missing_4:(List za)) (κ:((List za)×(List za))→Prop):Prop :=
 xu left_2 fitting_3 (fun _=>κ (missing_4,(left_2++fitting_3)))
def yF (a_0:yk) (__1_chains:(List (List zK))) (__1_flats:(List zo)) (__1_over:Bool) (__2:(List za)) (fitting_3:(List za)) (missing_4:(List za)) (κ:(List za)→Prop):Prop :=
 jw ([missing_4,fitting_3]) (fun r26=>κ r26)
def yI (rec:(List (List zK))→(List zo)→Bool→Int→(List za)→(((List za)×(List zo)×Bool)→Prop)→Prop) (c_0:Zf) (u_1_chains:(List (List zK))) (u_1_flats:(List zo)) (u_1_over:Bool) (__2:(List za)) (fitting_3:(List za)) (missing_4:(List za)) (κ:((List za)×(List zo)×Bool)→Prop):Prop :=
 rec u_1_chains u_1_flats u_1_over c_0.xChain fitting_3 (fun (r18,r21,r24)=>jw ([missing_4,r18]) (fun r33=>κ (r33,r21,r24)))
def uP (rec:((List (List zK))→(List zo)→Bool→Int→(List za)→(((List za)×(List zo)×Bool)→Prop)→Prop)) (u_0_chains:(List (List zK))) (u_0_flats:(List zo)) (u_0_over:Bool) (number_1:Int) (boxes_2:(List za)) (κ:((List za)×(List zo)×Bool)→Prop):Prop :=
 ifW (decide ((boxes_2.length:Int)=0)) (κ ([],u_0_flats,u_0_over)) (zF u_0_chains number_1 (fun e14=>jB (fun (nx34:((List za)×(List zo)×Bool×(List za)×Int)→Prop) ((xs21,xs25,t28,xs30,t33):((List za)×(List zo)×Bool×(List za)×Int))=>ifW (decide (t33<(e14.length:Int))) (jnW (fun ((xs171,xs174,t177,xs179):((List zo)×(List za)×Bool×(List za)))=>jy t33 1 (fun t183=>nx34 (xs174,xs171,t177,xs179,t183))) (fun k182=>zF e14 t33 (fun e35=>yR e35.xTests (fun r46=>uE u_0_chains xs25 t28 xs30 r46 (fun (r55,r58,r61)=>ifW r61 (κ ([],xs25,r61)) (XM e35 (fun r63=>xY.casesW r63 (fun x64=>x8 x64 u_0_chains xs25 r61 xs21 r55 r58 (fun (r68,r71,r74)=>jz u_0_chains r71 r74 r68 (fun (r75,r78)=>ifW r78 (κ ([],r71,r78)) (k182 (r71,xs21,r78,r75))))) (fun x65=>yI rec x65 u_0_chains xs25 r61 xs21 r55 r58 (fun (r80,r83,r86)=>jz u_0_chains r83 r86 r80 (fun (r87,r90)=>ifW r90 (κ ([],r83,r90)) (k182 (r83,xs21,r90,r87))))) (fun x66=>yg (um.mk ) u_0_chains xs25 r61 xs21 r55 r58 (fun (r92,r95)=>jz u_0_chains xs25 r61 r92 (fun (r98,r101)=>ifW r101 (κ ([],xs25,r101)) (k182 (xs25,r95,r101,r98))))) (fun x67=>yF (yk.mk ) u_0_chains xs25 r61 xs21 r55 r58 (fun r103=>jz u_0_chains xs25 r61 r103 (fun (r106,r109)=>ifW r109 (κ ([],xs25,r109)) (k182 (xs25,xs21,r109,r106)))))))))))) (jw ([xs21,xs30]) (fun r192=>jz u_0_chains xs25 t28 r192 (fun (r195,r198)=>κ (r195,xs25,r198))))) ([],u_0_flats,u_0_over,boxes_2,0)))
def xp:Nat→(List (List zK))→(List zo)→Bool→Int→(List za)→(((List za)×(List zo)×Bool)→Prop)→Prop
 | 0=>fun _ _ _ _ _ _=>False
 | n+1=>uP (xp n)
def Xq (u_0_chains:(List (List zK))) (u_0_flats:(List zo)) (u_0_over:Bool) (number_1:Int) (boxes_2:(List za)) (κ:((List za)×(List zo)×Bool)→Prop):Prop:=∃ n,xp n u_0_chains u_0_flats u_0_over number_1 boxes_2 κ
def yu (s_0:jm) (κ:((List zo)×Bool)→Prop):Prop :=
 uT (fun r11=>Xq s_0.xChains ([]) false 0 ([r11]) (fun (r35,r38,r41)=>κ (r38,(!r41))))
def ZJ (list_0:(List zo)) (κ:(List za)→Prop):Prop :=
 UA ((za.mk ([]) ([]) ([]) ([])):za) 0 (list_0.length:Int) (fun xs5=>jB (fun (nx12:((List za)×Int)→Prop) ((xs8,t11):((List za)×Int))=>ifW (decide (t11<(list_0.length:Int))) (zF list_0 t11 (fun e13=>xu xs8 ([e13.xWhere]) (fun _=>jy t11 1 (fun t46=>nx12 ((xs8++([e13.xWhere])),t46))))) (κ xs8)) (xs5,0))
def xX (s_0:za) (region_1:(List za)) (κ:((List za)×Bool)→Prop):Prop :=
 uk s_0 (fun r41=>ifW r41 (κ ([],true)) (jnW (fun (xs310:(List za))=>κ (xs310,true)) (fun k313=>jB (fun (nx77:((List za)×Int)→Prop) ((xs73,t76):((List za)×Int))=>ifW (decide (t76<(region_1.length:Int))) (zF region_1 t76 (fun e78=>jB (fun (nx114:((List za)×Int)→Prop) ((xs110,t113):((List za)×Int))=>ifW (decide (t113<(xs73.length:Int))) (zF xs73 t113 (fun e115=>un e115 e78 (fun (r177,r180)=>jnW (fun (t242:Bool)=>ifW t242 (κ ([],false)) (xu xs110 r177 (fun _=>jy t113 1 (fun t247=>nx114 ((xs110++r177),t247))))) (fun k243=>ifW (!r180) (k243 true) (jy (xs110.length:Int) (r177.length:Int) (fun t181=>k243 (decide (400<t181)))))))) (ifW (decide ((xs110.length:Int)=0)) (k313 xs110) (jy t76 1 (fun t248=>nx77 (xs110,t248))))) ([],0))) (k313 xs73)) ([s_0],0))))
def XG (list_0:(List zo)) (n_1:Int) (κ:((List za)×Bool)→Prop):Prop :=
 zF list_0 n_1 (fun e4=>Yq list_0 0 n_1 (fun xs20=>ZJ xs20 (fun r23=>xX e4.xWhere r23 (fun (r26,r29)=>κ (r26,r29)))))
def uu (f_0_accepted:(List za)) (f_0_dropped:(List za)) (boxes_1:(List za)) (accept_2:Bool) (κ:(Bool×(List za)×(List za))→Prop):Prop :=
 jnW (fun ((xs79,xs82):((List za)×(List za)))=>jy (xs79.length:Int) (xs82.length:Int) (fun t92=>κ ((decide (t92≤400)),xs79,xs82))) (fun k85=>ifW accept_2 (xu f_0_accepted boxes_1 (fun _=>k85 ((f_0_accepted++boxes_1),f_0_dropped))) (xu f_0_dropped boxes_1 (fun _=>k85 (f_0_accepted,(f_0_dropped++boxes_1)))))
def yX (list_0:(List zo)) (rest_1:Bool) (κ:(uo×Bool)→Prop):Prop :=
 jB (fun (nx16:((List za)×(List za)×Int)→Prop) ((xs8,xs12,t15):((List za)×(List za)×Int))=>ifW (decide (t15<(list_0.length:Int))) (zF list_0 t15 (fun e17=>XG list_0 t15 (fun (r46,r49)=>jnW (fun ((xs117,xs120,t123):((List za)×(List za)×Bool))=>ifW t123 (κ ((uo.mk ([]) ([])),false)) (jy t15 1 (fun t127=>nx16 (xs117,xs120,t127)))) (fun k124=>ifW (!r49) (k124 (xs8,xs12,true)) (uu xs8 xs12 r46 e17.xAccept (fun (r50,r51,r54)=>k124 (r51,r54,(!r50)))))))) (uT (fun r128=>ZJ list_0 (fun r137=>xX r128 r137 (fun (r140,r143)=>jnW (fun ((xs211,xs214,t217):((List za)×(List za)×Bool))=>ifW t217 (κ ((uo.mk ([]) ([])),false)) (κ ((uo.mk xs211 xs214),true))) (fun k218=>ifW (!r143) (k218 (xs8,xs12,true)) (uu xs8 xs12 r140 rest_1 (fun (r144,r145,r148)=>k218 (r145,r148,(!r144)))))))))) ([],[],0)
def uv (n_0:Int) (lo_1:Int) (hi_2:Int) (κ:Bool→Prop):Prop :=
 jnW (fun (t61:Bool)=>κ t61) (fun k62=>ifW (decide (lo_1≤n_0)) (k62 (decide (n_0≤hi_2))) (k62 false))
def yc (t_0:zI) (κ:Bool→Prop):Prop :=
 jnW (fun (t66:Bool)=>κ t66) (fun k67=>uv t_0.xField 0 3 (fun r3=>ifW r3 (uv t_0.xLo 0 t_0.xHi (fun r4=>ifW r4 (xc t_0.xField (fun r5=>k67 (decide (t_0.xHi≤r5)))) (k67 false))) (k67 false)))
def yN (list_0:(List zI)) (κ:Bool→Prop):Prop :=
 jB (fun (nx4:Int→Prop) (t3:Int)=>ifW (decide (t3<(list_0.length:Int))) (zF list_0 t3 (fun e5=>yc e5 (fun r7=>ifW (!r7) (κ false) (jy t3 1 (fun t8=>nx4 t8))))) (κ (decide ((list_0.length:Int)≤6)))) 0
def xM (a_0:(List zd)) (b_1:(List zd)) (κ:(List zd)→Prop):Prop :=
 jB (fun (nx13:((List zd)×Int)→Prop) ((xs9,t12):((List zd)×Int))=>ifW (decide (t12<(a_0.length:Int))) (jB (fun (nx19:((List zd)×Int)→Prop) ((xs15,t18):((List zd)×Int))=>ifW (decide (t18<(b_1.length:Int))) (jnW (fun (xs92:(List zd))=>jy t18 1 (fun t96=>nx19 (xs92,t96))) (fun k95=>zF a_0 t12 (fun e20=>zF b_1 t18 (fun e22=>zF a_0 t12 (fun e24=>zF b_1 t18 (fun e26=>ifW (decide ((max e20.xLo e22.xLo)≤(min e24.xHi e26.xHi))) (xu xs15 ([(zd.mk (max e20.xLo e22.xLo) (min e24.xHi e26.xHi))]) (fun _=>k95 (xs15++([(zd.mk (max e20.xLo e22.xLo) (min e24.xHi e26.xHi))])))) (k95 xs15))))))) (jy t12 1 (fun t97=>nx13 (xs15,t97)))) (xs9,0)) (κ xs9)) ([],0)
def ZW (b_0:xv) (κ:Bool→Prop):Prop :=
 jB (fun (nx9:Int→Prop) (t8:Int)=>ifW (decide (t8<(b_0.xSides.length:Int))) (zF b_0.xSides t8 (fun e10=>ifW (decide ((e10.length:Int)=0)) (κ true) (jy t8 1 (fun t16=>nx9 t16)))) (κ false)) 0
def yS (list_0:(List zd)) (top_1:Int) (κ:Bool→Prop):Prop :=
 jB (fun (nx4:Int→Prop) (t3:Int)=>ifW (decide (t3<(list_0.length:Int))) (jnW (fun (t79:Bool)=>ifW t79 (κ false) (jy t3 1 (fun t81=>nx4 t81))) (fun k80=>zF list_0 t3 (fun e5=>zF list_0 t3 (fun e7=>uv e5.xLo 0 e7.xHi (fun r9=>ifW (!r9) (k80 true) (zF list_0 t3 (fun e10=>uv e10.xHi 0 top_1 (fun r12=>ifW (!r12) (k80 true) (ifW (decide (0<t3)) (zF list_0 t3 (fun e13=>XK t3 1 (fun t15=>zF list_0 t15 (fun e16=>jy e16.xHi 2 (fun t18=>k80 (decide (e13.xLo<t18))))))) (k80 false)))))))))) (jnW (fun (t143:Bool)=>κ t143) (fun k144=>uv top_1 0 65535 (fun r82=>ifW r82 (k144 (decide ((list_0.length:Int)≤40))) (k144 false))))) 0
def yC (b_0:xv) (κ:Bool→Prop):Prop :=
 jB (fun (nx9:Int→Prop) (t8:Int)=>ifW (decide (t8<(b_0.xSides.length:Int))) (jnW (fun (t78:Bool)=>ifW t78 (κ false) (jy t8 1 (fun t80=>nx9 t80))) (fun k79=>ifW (decide (4≤t8)) (k79 true) (zF b_0.xSides t8 (fun e10=>xc t8 (fun r16=>yS e10 r16 (fun r17=>k79 (!r17))))))) (κ (decide ((b_0.xSides.length:Int)=4)))) 0
def ZI (κ:xv→Prop):Prop :=
 jB (fun (nx11:((List (List zd))×Int)→Prop) ((xs6,t10):((List (List zd))×Int))=>ifW (decide (t10<4)) (jnW (fun (xs15:(List (List zd)))=>jy t10 1 (fun t41=>nx11 (xs15,t41))) (fun k19=>xc t10 (fun r20=>xu xs6 ([[(zd.mk 0 r20)]]) (fun _=>k19 (xs6++([[(zd.mk 0 r20)]])))))) (κ (xv.mk xs6))) ([],0)
def Z8 (a_0:(List zd)) (top_1:Int) (κ:(List zd)→Prop):Prop :=
 jB (fun (nx12:((List zd)×Int×Int)→Prop) ((xs7,t10,t11):((List zd)×Int×Int))=>ifW (decide (t11<(a_0.length:Int))) (jnW (fun (xs82:(List zd))=>zF a_0 t11 (fun e86=>jy e86.xHi 1 (fun t88=>jy t11 1 (fun t89=>nx12 (xs82,t88,t89))))) (fun k85=>zF a_0 t11 (fun e13=>ifW (decide (t10<e13.xLo)) (zF a_0 t11 (fun e15=>XK e15.xLo 1 (fun t17=>xu xs7 ([(zd.mk t10 t17)]) (fun _=>k85 (xs7++([(zd.mk t10 t17)])))))) (k85 xs7)))) (jnW (fun (xs154:(List zd))=>κ xs154) (fun k157=>ifW (decide (t10≤top_1)) (xu xs7 ([(zd.mk t10 top_1)]) (fun _=>k157 (xs7++([(zd.mk t10 top_1)])))) (k157 xs7)))) ([],0,0)
def ul (t_0:zI) (κ:(List zd)→Prop):Prop :=
 yc t_0 (fun r4=>ifW (!r4) (κ ([])) (ifW t_0.xNot (xc t_0.xField (fun r9=>Z8 ([(zd.mk t_0.xLo t_0.xHi)]) r9 (fun r10=>κ r10))) (κ ([(zd.mk t_0.xLo t_0.xHi)]))))
def ZT (list_0:(List zI)) (κ:xv→Prop):Prop :=
 yN list_0 (fun r5=>ifW (!r5) (κ (xv.mk ([]))) (ZI (fun r7=>jB (fun (nx21:((List (List zd))×Int)→Prop) ((xs17,t20):((List (List zd))×Int))=>ifW (decide (t20<(list_0.length:Int))) (zF list_0 t20 (fun e22=>jnW (fun (xs27:(List (List zd)))=>jy t20 1 (fun t58=>nx21 (xs27,t58))) (fun k29=>zF list_0 t20 (fun e30=>(zF xs17 e22.xField (fun e32=>ul e30 (fun r38=>xM e32 r38 (fun r40=>zF xs17 e22.xField (fun e42=>k29 (xs17.set (e22.xField).toNat r40))))))∧(ul e30 (fun r54=>zF xs17 e22.xField (fun e56=>xM e56 r54 (fun r40=>zF xs17 e22.xField (fun e42=>k29 (xs17.set (e22.xField).toNat r40)))))))))) (κ (xv.mk xs17))) (r7.xSides,0))))
def uU (list_0:(List (List zd))) (κ:(List (List zd))→Prop):Prop :=
 jB (fun (nx13:((List (List zd))×Int)→Prop) ((xs8,t12):((List (List zd))×Int))=>ifW (decide (t12<(list_0.length:Int))) (zF list_0 t12 (fun e16=>xu ([]) e16 (fun _=>xu xs8 ([(([])++e16)]) (fun _=>jy t12 1 (fun t33=>nx13 ((xs8++([(([])++e16)])),t33)))))) (κ xs8)) ([],0)
def XP (x_0:xv) (κ:xv→Prop):Prop :=
 uU x_0.xSides (fun r12=>κ (xv.mk r12))
def Zl (x_0:z8) (κ:z8→Prop):Prop :=
 XP x_0.xWhere (fun r12=>κ (z8.mk r12 x_0.xAccept))
def u5 (list_0:(List z8)) (κ:(List z8)→Prop):Prop :=
 jB (fun (nx13:((List z8)×Int)→Prop) ((xs8,t12):((List z8)×Int))=>ifW (decide (t12<(list_0.length:Int))) (zF list_0 t12 (fun e14=>Zl e14 (fun r20=>xu xs8 ([r20]) (fun _=>jy t12 1 (fun t33=>nx13 ((xs8++([r20])),t33)))))) (κ xs8)) ([],0)
def yT (list_0:(List z8)) (κ:Bool→Prop):Prop :=
 jB (fun (nx4:Int→Prop) (t3:Int)=>ifW (decide (t3<(list_0.length:Int))) (zF list_0 t3 (fun e5=>yC e5.xWhere (fun r11=>ifW (!r11) (κ false) (jy t3 1 (fun t12=>nx4 t12))))) (κ (decide ((list_0.length:Int)≤60)))) 0
def XV (list_0:(List zd)) (s_1:zd) (κ:(List zd)→Prop):Prop :=
 jB (fun (nx16:(Int×Int×(List zd)×Bool×Int)→Prop) ((t8,t9,xs11,t14,t15):(Int×Int×(List zd)×Bool×Int))=>ifW (decide (t15<(list_0.length:Int))) (jnW (fun ((xs160,t163,t164,t165):((List zd)×Int×Int×Bool))=>jy t15 1 (fun t167=>nx16 (t163,t164,xs160,t165,t167))) (fun k166=>zF list_0 t15 (fun e17=>jy e17.xHi 1 (fun t21=>ifW (decide (t21<t8)) (xu xs11 ([e17]) (fun _=>k166 ((xs11++([e17])),t8,t9,t14))) (jy t9 1 (fun t26=>ifW (decide (t26<e17.xLo)) (jnW (fun ((xs91,t94):((List zd)×Bool))=>xu xs91 ([e17]) (fun _=>k166 ((xs91++([e17])),t8,t9,t94))) (fun k95=>ifW (!t14) (xu xs11 ([(zd.mk t8 t9)]) (fun _=>k95 ((xs11++([(zd.mk t8 t9)])),true))) (k95 (xs11,t14)))) (k166 (xs11,(min t8 e17.xLo),(max t9 e17.xHi),t14)))))))) (jnW (fun (xs232:(List zd))=>κ xs232) (fun k235=>ifW (!t14) (xu xs11 ([(zd.mk t8 t9)]) (fun _=>k235 (xs11++([(zd.mk t8 t9)])))) (k235 xs11)))) (s_1.xLo,s_1.xHi,[],false,0)
def Xy (list_0:(List zd)) (n_1:Int) (κ:Bool→Prop):Prop :=
 jB (fun (nx4:Int→Prop) (t3:Int)=>ifW (decide (t3<(list_0.length:Int))) (zF list_0 t3 (fun e5=>jnW (fun (t69:Bool)=>ifW t69 (κ true) (jy t3 1 (fun t71=>nx4 t71))) (fun k70=>ifW (decide (e5.xLo≤n_1)) (k70 (decide (n_1≤e5.xHi))) (k70 false)))) (κ false)) 0
def Zr (κ:Bool→Prop):Prop :=
 Xy ([(zd.mk 2 4)]) 3 (fun r3=>κ r3)
def yn (s_0:za) (κ:xv→Prop):Prop :=
 UA ([]:(List zd)) 4 4 (fun xs26=>jB (fun (nx55:((List (List zd))×Int)→Prop) ((xs50,t54):((List (List zd))×Int))=>ifW (decide (t54<4)) (zF ([s_0.x0,s_0.x1,s_0.x2,s_0.x3]) t54 (fun e57=>xu ([]) e57 (fun _=>zF xs50 t54 (fun e66=>jy t54 1 (fun t73=>nx55 ((xs50.set (t54).toNat (([])++e57)),t73)))))) (κ (xv.mk xs50))) (xs26,0))
def ZR (list_0:(List zo)) (κ:(List z8)→Prop):Prop :=
 UA ((z8.mk (xv.mk ([])) false):z8) 0 (list_0.length:Int) (fun xs5=>jB (fun (nx14:((List z8)×Int)→Prop) ((xs9,t13):((List z8)×Int))=>ifW (decide (t13<(list_0.length:Int))) (zF list_0 t13 (fun e15=>yn e15.xWhere (fun r44=>xu xs9 ([(z8.mk r44 e15.xAccept)]) (fun _=>jy t13 1 (fun t57=>nx14 ((xs9++([(z8.mk r44 e15.xAccept)])),t57)))))) (κ xs9)) (xs5,0))
def ZO (top_0:Int) (κ:Bool→Prop):Prop :=
 jnW (fun (t61:Bool)=>κ t61) (fun k62=>ifW (decide (0≤top_0)) (k62 (decide (top_0≤65535))) (k62 false))
def yM (list_0:(List zd)) (top_1:Int) (κ:Bool→Prop):Prop :=
 jnW (fun (t64:Bool)=>ifW t64 (κ false) (jB (fun (nx68:(Int×Int)→Prop) ((t66,t67):(Int×Int))=>ifW (decide (t67<(list_0.length:Int))) (zF list_0 t67 (fun e69=>jnW (fun (t134:Bool)=>ifW t134 (κ false) (jy t67 1 (fun t136=>nx68 (e69.xHi,t136)))) (fun k135=>jy t66 1 (fun t73=>ifW (decide (e69.xLo≤t73)) (k135 true) (ifW (decide (e69.xHi<e69.xLo)) (k135 true) (k135 (decide (top_1<e69.xHi)))))))) (κ true)) ((-2),0))) (fun k65=>ZO top_1 (fun r3=>ifW (!r3) (k65 true) (k65 (decide (40<(list_0.length:Int))))))
def yB (b_0:xv) (κ:Bool→Prop):Prop :=
 ifW (!(decide ((b_0.xSides.length:Int)=4))) (κ false) (jB (fun (nx9:Int→Prop) (t8:Int)=>ifW (decide (t8<(b_0.xSides.length:Int))) (zF b_0.xSides t8 (fun e10=>zD t8 (fun r16=>yM e10 r16 (fun r17=>ifW (!r17) (κ false) (jy t8 1 (fun t18=>nx9 t18)))))) (κ true)) 0)
def uB (list_0:(List z8)) (κ:Bool→Prop):Prop :=
 ifW (decide (60<(list_0.length:Int))) (κ false) (jB (fun (nx4:Int→Prop) (t3:Int)=>ifW (decide (t3<(list_0.length:Int))) (zF list_0 t3 (fun e5=>yB e5.xWhere (fun r16=>ifW (!r16) (κ false) (jy t3 1 (fun t17=>nx4 t17))))) (κ true)) 0)
def Zc (b_0:xv) (κ:za→Prop):Prop :=
 ziF b_0.xSides (fun e10 e11 e12 e13=>κ (za.mk e10 e11 e12 e13))
def Zb (list_0:(List z8)) (κ:(List zo)→Prop):Prop :=
 UA ((zo.mk (za.mk ([]) ([]) ([]) ([])) false):zo) 0 (list_0.length:Int) (fun xs5=>jB (fun (nx12:((List zo)×Int)→Prop) ((xs8,t11):((List zo)×Int))=>ifW (decide (t11<(list_0.length:Int))) (zF list_0 t11 (fun e13=>Zc e13.xWhere (fun r24=>xu xs8 ([(zo.mk r24 e13.xAccept)]) (fun _=>jy t11 1 (fun t49=>nx12 ((xs8++([(zo.mk r24 e13.xAccept)])),t49)))))) (κ xs8)) (xs5,0))
def Xf (list_0:(List zd)) (top_1:Int) (κ:(List zd)→Prop):Prop :=
 jnW (fun (t67:Bool)=>ifW t67 (κ ([])) (jB (fun (nx74:((List zd)×Int)→Prop) ((xs70,t73):((List zd)×Int))=>ifW (decide (t73<(list_0.length:Int))) (jnW (fun (t143:Bool)=>ifW t143 (κ ([])) (zF list_0 t73 (fun e147=>XV xs70 e147 (fun r149=>jy t73 1 (fun t152=>nx74 (r149,t152)))))) (fun k144=>zF list_0 t73 (fun e75=>zF list_0 t73 (fun e77=>uv e75.xLo 0 e77.xHi (fun r79=>ifW (!r79) (k144 true) (zF list_0 t73 (fun e80=>uv e80.xHi 0 top_1 (fun r82=>k144 (!r82))))))))) (κ xs70)) ([],0))) (fun k68=>uv top_1 0 65535 (fun r6=>ifW (!r6) (k68 true) (k68 (decide (40<(list_0.length:Int))))))
def XB (r_0_b:(List UInt8)) (r_0_p:Int) (top_1:Int) (n_2:Int) (κ:((List zd)×Int)→Prop):Prop :=
 zk r_0_b r_0_p 6 (fun (r8,r9)=>jB (fun (nx16:(Int×(List zd)×Int)→Prop) ((t10,xs12,t15):(Int×(List zd)×Int))=>ifW (decide (0<t15)) (yo r_0_b t10 top_1 n_2 (fun (r17,r18)=>xu xs12 ([r17]) (fun _=>XK t15 1 (fun t23=>nx16 (r18,(xs12++([r17])),t23))))) (κ (xs12,t10))) (r9,[],r8))
def ZB (r_0_b:(List UInt8)) (r_0_p:Int) (top_1:Int) (n_2:Int) (κ:((List zd)×Int)→Prop):Prop :=
 XB r_0_b r_0_p top_1 0 (fun (r6,r9)=>Xf r6 top_1 (fun r10=>jnW (fun ((t90,xs92):(Int×(List zd)))=>κ (xs92,t90)) (fun k95=>jD r_0_b r9 n_2 (fun (r13,r14)=>ifW r13 (zk r_0_b r14 3 (fun (r15,r16)=>ifW (decide (r15=0)) (yo r_0_b r16 top_1 1 (fun (r17,r18)=>xu r10 ([r17]) (fun _=>k95 (r18,(r10++([r17])))))) (ifW (decide (r15=1)) (xu r10 ([(zd.mk 1 2),(zd.mk 3 3)]) (fun _=>k95 (r16,(r10++([(zd.mk 1 2),(zd.mk 3 3)]))))) (UA ((zd.mk 0 0):zd) 41 41 (fun xs28=>k95 (r16,xs28)))))) (k95 (r14,r10))))))
def XC (r_0_b:(List UInt8)) (r_0_p:Int) (n_1:Int) (κ:(xv×Int)→Prop):Prop :=
 ZM r_0_b r_0_p 0 (fun (r7,r10)=>ZT r7 (fun r11=>jnW (fun ((xs94,t96):((List (List zd))×Int))=>jnW (fun ((t189,xs191):(Int×(List (List zd))))=>κ ((xv.mk xs191),t189)) (fun k194=>jD r_0_b t96 n_1 (fun (r98,r99)=>ifW r98 (zk r_0_b r99 3 (fun (r100,r101)=>ifW (decide (r100=0)) (Yq xs94 1 (xs94.length:Int) (fun xs103=>k194 (r101,xs103))) (ifW (decide (r100=1)) (zF xs94 3 (fun e110=>k194 (r101,(xs94.set (3:Int).toNat ([(zd.mk 0 8)]))))) (xu xs94 ([[]]) (fun _=>k194 (r101,(xs94++([[]])))))))) (k194 (r99,xs94))))) (fun k97=>zk r_0_b r10 3 (fun (r19,r20)=>ifW (decide (r19=0)) (zk r_0_b r20 4 (fun (r21,r22)=>xc r21 (fun r23=>ZB r_0_b r22 r23 0 (fun (r24,r27)=>zF r11.xSides r21 (fun e28=>k97 ((r11.xSides.set (r21).toNat r24),r27)))))) (k97 (r11.xSides,r20))))))
def ZU (r_0_b:(List UInt8)) (r_0_p:Int) (n_1:Int) (κ:((List z8)×Int)→Prop):Prop :=
 zk r_0_b r_0_p 7 (fun (r9,r10)=>jB (fun (nx17:(Int×(List z8)×Int)→Prop) ((t11,xs13,t16):(Int×(List z8)×Int))=>ifW (decide (0<t16)) (XC r_0_b t11 0 (fun (r18,r21)=>zk r_0_b r21 2 (fun (r22,r23)=>jnW (fun ((t187,xs189,t192):(Int×(List (List zd))×Bool))=>xu xs13 ([(z8.mk (xv.mk xs189) t192)]) (fun _=>XK t16 1 (fun t201=>nx17 (t187,(xs13++([(z8.mk (xv.mk xs189) t192)])),t201)))) (fun k193=>jnW (fun ((t91,t92):(Int×Bool))=>ifW t92 (XK (xs13.length:Int) 1 (fun t97=>zF xs13 t97 (fun e98=>xu ([]) e98.xWhere.xSides (fun _=>zk r_0_b t91 4 (fun (r111,r112)=>xc r111 (fun r113=>ZB r_0_b r112 r113 0 (fun (r114,r117)=>zF (([])++e98.xWhere.xSides) r111 (fun e118=>XK (xs13.length:Int) 1 (fun t124=>zF xs13 t124 (fun e125=>k193 (r117,(List.set (([])++e98.xWhere.xSides) (r111).toNat r114),e125.xAccept))))))))))) (k193 (t91,r18.xSides,(decide (r22=0))))) (fun k93=>ifW (decide (0<(xs13.length:Int))) (zk r_0_b r23 3 (fun (r29,r30)=>k93 (r30,(decide (r29=0))))) (k93 (r23,false))))))) (jnW (fun ((t288,xs290):(Int×(List z8)))=>κ (xs290,t288)) (fun k293=>jD r_0_b t11 n_1 (fun (r202,r203)=>ifW r202 (zk r_0_b r203 2 (fun (r204,r205)=>ifW (decide (r204=0)) (xu xs13 ([(z8.mk (xv.mk ([])) false)]) (fun _=>k293 (r205,(xs13++([(z8.mk (xv.mk ([])) false)]))))) (jB (fun (nx215:(List z8)→Prop) (xs212:(List z8))=>ifW (decide ((xs212.length:Int)≤60)) (ZI (fun r216=>xu xs212 ([(z8.mk r216 false)]) (fun _=>nx215 (xs212++([(z8.mk r216 false)]))))) (k293 (r205,xs212))) xs13))) (k293 (r203,xs13)))))) (r10,[],r9))
def Zv (code_0:(List UInt8)) (κ:((List z8)×Bool)→Prop):Prop :=
 Xc code_0 (fun (r6,r9)=>ZU r6 r9 12 (fun (r10,r13)=>zk r6 r13 2 (fun (r14,r15)=>κ (r10,(decide (r14=0))))))
def yz (code_0:(List UInt8)) (κ:((List z8)×Bool)→Prop):Prop :=
 Zv code_0 (fun (r4,r7)=>κ (r4,r7))
def ZV (b_0:xv) (κ:((List zI)×Bool)→Prop):Prop :=
 jnW (fun (t80:Bool)=>ifW t80 (κ ([],false)) (jB (fun (nx89:((List zI)×Int)→Prop) ((xs85,t88):((List zI)×Int))=>ifW (decide (t88<(b_0.xSides.length:Int))) (jnW (fun (xs307:(List zI))=>jy t88 1 (fun t311=>nx89 (xs307,t311))) (fun k310=>zF b_0.xSides t88 (fun e90=>zF zC t88 (fun e96=>jnW (fun (t160:Bool)=>ifW t160 (k310 xs85) (ifW (decide ((e90.length:Int)=1)) (zF e90 0 (fun e162=>zF e90 0 (fun e164=>xu xs85 ([(zI.mk t88 e162.xLo e164.xHi false)]) (fun _=>k310 (xs85++([(zI.mk t88 e162.xLo e164.xHi false)])))))) (jnW (fun (t234:Bool)=>ifW t234 (zF e90 0 (fun e236=>jy e236.xHi 1 (fun t238=>zF e90 1 (fun e239=>XK e239.xLo 1 (fun t241=>xu xs85 ([(zI.mk t88 t238 t241 true)]) (fun _=>k310 (xs85++([(zI.mk t88 t238 t241 true)])))))))) (κ ([],false))) (fun k235=>ifW (decide ((e90.length:Int)=2)) (zF e90 0 (fun e170=>ifW (decide (e170.xLo=0)) (zF e90 1 (fun e172=>k235 (decide (e172.xHi=e96.xTop)))) (k235 false))) (k235 false))))) (fun k161=>ifW (decide ((e90.length:Int)=1)) (zF e90 0 (fun e98=>k161 (decide (e98=(zd.mk 0 e96.xTop))))) (k161 false)))))) (κ (xs85,true))) ([],0))) (fun k81=>yB b_0 (fun r9=>ifW (!r9) (k81 true) (Zc b_0 (fun r10=>uk r10 (fun r19=>k81 r19)))))
def yw (list_0:(List z8)) (rest_1:Bool) (κ:(jm×Bool)→Prop):Prop :=
 jnW (fun (t66:Bool)=>ifW t66 (κ ((jm.mk ([]) false),false)) (UA ((zK.mk ([]) 0 0):zK) 0 (list_0.length:Int) (fun xs70=>jB (fun (nx79:((List zK)×Int)→Prop) ((xs74,t78):((List zK)×Int))=>ifW (decide (t78<(list_0.length:Int))) (zF list_0 t78 (fun e80=>ZV e80.xWhere (fun (r91,r94)=>jnW (fun (t155:Bool)=>ifW t155 (κ ((jm.mk ([]) false),false)) (jnW (fun (t218:Int)=>xu xs74 ([(zK.mk r91 t218 0)]) (fun _=>jy t78 1 (fun t229=>nx79 ((xs74++([(zK.mk r91 t218 0)])),t229)))) (fun k219=>ifW e80.xAccept (k219 1) (k219 2)))) (fun k156=>ifW (!r94) (k156 true) (k156 (decide (6<(r91.length:Int)))))))) (κ ((jm.mk ([xs74]) rest_1),true))) (xs70,0)))) (fun k67=>ifW (decide (8<(list_0.length:Int))) (k67 true) (uB list_0 (fun r5=>k67 (!r5))))
def ZP (b_0:xv) (κ:((List zI)×Bool)→Prop):Prop :=
 jnW (fun (t73:Bool)=>ifW t73 (κ ([],false)) (jB (fun (nx80:((List zI)×Int)→Prop) ((xs76,t79):((List zI)×Int))=>ifW (decide (t79<4)) (jnW (fun (xs298:(List zI))=>jy t79 1 (fun t302=>nx80 (xs298,t302))) (fun k301=>zF b_0.xSides t79 (fun e81=>xc t79 (fun r87=>jnW (fun (t150:Bool)=>ifW t150 (k301 xs76) (ifW (decide ((e81.length:Int)=1)) (zF e81 0 (fun e152=>zF e81 0 (fun e154=>xu xs76 ([(zI.mk t79 e152.xLo e154.xHi false)]) (fun _=>k301 (xs76++([(zI.mk t79 e152.xLo e154.xHi false)])))))) (jnW (fun (t224:Bool)=>ifW t224 (zF e81 0 (fun e226=>jy e226.xHi 1 (fun t228=>zF e81 1 (fun e229=>XK e229.xLo 1 (fun t231=>xu xs76 ([(zI.mk t79 t228 t231 true)]) (fun _=>k301 (xs76++([(zI.mk t79 t228 t231 true)])))))))) (κ ([],false))) (fun k225=>ifW (decide ((e81.length:Int)=2)) (zF e81 0 (fun e160=>ifW (decide (e160.xLo=0)) (zF e81 1 (fun e162=>k225 (decide (e162.xHi=r87)))) (k225 false))) (k225 false))))) (fun k151=>ifW (decide ((e81.length:Int)=1)) (zF e81 0 (fun e88=>k151 (decide (e88=(zd.mk 0 r87))))) (k151 false)))))) (κ (xs76,true))) ([],0))) (fun k74=>yC b_0 (fun r11=>ifW (!r11) (k74 true) (ZW b_0 (fun r12=>k74 r12))))
def yt (list_0:(List z8)) (rest_1:Bool) (κ:(jm×Bool)→Prop):Prop :=
 u5 list_0 (fun r5=>jnW (fun (t70:Bool)=>ifW t70 (κ ((jm.mk ([]) false),false)) (jB (fun (nx82:((List zK)×Int)→Prop) ((xs77,t81):((List zK)×Int))=>ifW (decide (t81<(r5.length:Int))) (zF r5 t81 (fun e83=>ZP e83.xWhere (fun (r91,r94)=>ifW (!r94) (κ ((jm.mk ([]) false),false)) (jnW (fun (t163:Int)=>xu xs77 ([(zK.mk r91 t163 0)]) (fun _=>jy t81 1 (fun t171=>nx82 ((xs77++([(zK.mk r91 t163 0)])),t171)))) (fun k164=>zF r5 t81 (fun e101=>ifW e101.xAccept (k164 1) (k164 2))))))) (κ ((jm.mk ([xs77]) rest_1),true))) ([],0))) (fun k71=>yT r5 (fun r9=>ifW (!r9) (k71 true) (k71 (decide (8<(r5.length:Int)))))))
def ZX (a_0:zK) (b_1:zK) (κ:Bool→Prop):Prop :=
 ifW (!(decide ((a_0.xTests.length:Int)=(b_1.xTests.length:Int)))) (κ false) (jB (fun (nx16:Int→Prop) (t15:Int)=>ifW (decide (t15<(a_0.xTests.length:Int))) (zF a_0.xTests t15 (fun e17=>zF b_1.xTests t15 (fun e19=>ifW (!(decide (e17=e19))) (κ false) (jy t15 1 (fun t21=>nx16 t21))))) (jnW (fun (t82:Bool)=>κ t82) (fun k83=>ifW (decide (a_0.xAction=b_1.xAction)) (k83 (decide (a_0.xChain=b_1.xChain))) (k83 false)))) 0)
def yy (a_0:jm) (b_1:jm) (κ:Bool→Prop):Prop :=
 ifW (!(decide ((a_0.xChains.length:Int)=(b_1.xChains.length:Int)))) (κ false) (jB (fun (nx16:Int→Prop) (t15:Int)=>ifW (decide (t15<(a_0.xChains.length:Int))) (zF a_0.xChains t15 (fun e17=>zF b_1.xChains t15 (fun e23=>ifW (!(decide ((e17.length:Int)=(e23.length:Int)))) (κ false) (jB (fun (nx30:Int→Prop) (t29:Int)=>zF a_0.xChains t15 (fun e31=>ifW (decide (t29<(e31.length:Int))) (zF a_0.xChains t15 (fun e37=>zF e37 t29 (fun e43=>zF b_1.xChains t15 (fun e49=>zF e49 t29 (fun e55=>ZX e43 e55 (fun r61=>ifW (!r61) (κ false) (jy t29 1 (fun t62=>nx30 t62)))))))) (jy t15 1 (fun t63=>nx16 t63)))) 0)))) (κ (decide (a_0.xAccept=b_1.xAccept)))) 0)
def XA (s_0:jm) (κ:((List z8)×Bool)→Prop):Prop :=
 yb s_0 (fun r9=>ifW (!r9) (κ ([],false)) (yu s_0 (fun (r11,r14)=>ifW (!r14) (κ ([],false)) (ZR r11 (fun r16=>κ (r16,true))))))
def uX (a_0:(List za)) (b_1:(List za)) (κ:(z7×Bool)→Prop):Prop :=
 jB (fun (nx8:Int→Prop) (t7:Int)=>ifW (decide (t7<(a_0.length:Int))) (zF a_0 t7 (fun e9=>jB (fun (nx40:Int→Prop) (t39:Int)=>ifW (decide (t39<(b_1.length:Int))) (zF b_1 t39 (fun e41=>xP e9 e41 (fun (r101,r102)=>ifW r102 (κ (r101,true)) (jy t39 1 (fun t105=>nx40 t105))))) (jy t7 1 (fun t106=>nx8 t106))) 0)) (κ ((z7.mk 0 0 0 0),false))) 0
def u9 (f_0:uo) (other_1:uo) (κ:(z7×Bool)→Prop):Prop :=
 uX f_0.xAccepted other_1.xDropped (fun (r27,r28)=>ifW r28 (κ (r27,true)) (uX f_0.xDropped other_1.xAccepted (fun (r31,r32)=>κ (r31,r32))))
def Zn (a_0:(List z8)) (restA_1:Bool) (b_2:(List z8)) (restB_3:Bool) (κ:Int→Prop):Prop :=
 jnW (fun (t67:Bool)=>ifW t67 (κ (-1)) (Zb a_0 (fun r69=>yX r69 restA_1 (fun (r72,r77)=>Zb b_2 (fun r86=>yX r86 restB_3 (fun (r89,r94)=>jnW (fun (t163:Bool)=>ifW t163 (κ (-1)) (u9 r72 r89 (fun (r165,r166)=>ifW r166 (κ 0) (κ 1)))) (fun k164=>ifW (!r77) (k164 true) (k164 (!r94))))))))) (fun k68=>uB a_0 (fun r5=>ifW (!r5) (k68 true) (uB b_2 (fun r6=>k68 (!r6)))))
def Zy (code_0:(List UInt8)) (κ:Bool→Prop):Prop :=
 ifW (decide (1048576<(code_0.length:Int))) (κ true) (yz code_0 (fun (r3,r6)=>yw r3 r6 (fun (r7,r11)=>yt r3 r6 (fun (r17,r21)=>jnW (fun (t88:Bool)=>ifW t88 (κ false) (XA r7 (fun (r90,r94)=>jnW (fun (t159:Bool)=>κ t159) (fun k160=>ifW (!r11) (Zr (fun r95=>k160 r95)) (ifW (!r94) (Zr (fun r96=>k160 r96)) (Zn r3 r6 r90 r6 (fun r97=>ifW (!(decide (r97=0))) (Zr (fun r98=>k160 r98)) (k160 false)))))))) (fun k89=>yy r7 r17 (fun r27=>ifW (!r27) (k89 true) (k89 (!(decide (r11=r21))))))))))
end
section
open Go Go.Proofs
def NF (l:List zd):Prop:=(∀ s∈l,s.xLo≤s.xHi)∧l.Pairwise (fun a b=>a.xHi+1<b.xLo)
def hv (l:List zd) (x:Int):Prop:=∃ s∈l,s.xLo≤x∧x≤s.xHi
theorem zcN:NF []:=⟨by simp,by simp⟩
theorem ug (x:Int):¬ hv [] x:=by simp [hv]
theorem xd (s:zd) (l:List zd) (x:Int):hv (s :: l) x↔(s.xLo≤x∧x≤s.xHi)∨hv l x:=by simp [hv]
theorem Yj (l m:List zd) (x:Int):hv (l++m) x↔hv l x∨hv m x:=by
 simp only [hv,List.mem_append]
 constructor
 ·rintro ⟨s,h | h,e⟩
  ·exact .inl ⟨s,h,e⟩
  ·exact .inr ⟨s,h,e⟩
 ·rintro (⟨s,h,e⟩ | ⟨s,h,e⟩)
  ·exact ⟨s,.inl h,e⟩
  ·exact ⟨s,.inr h,e⟩
theorem Yd {s:zd} {l:List zd} (h:NF (s :: l)):NF l:=⟨fun t ht=>h.1 t (List.mem_cons_of_mem _ ht),(List.pairwise_cons.1 h.2).2⟩
theorem zaq {s:zd} {l:List zd} (h:NF (s :: l)) {x:Int} (hx:hv l x):s.xHi+1<x:=by
 obtain ⟨t,ht,e1,_⟩:=hx
 have:=(List.pairwise_cons.1 h.2).1 t ht
 omega
theorem VY {s:zd} {l:List zd} (h:NF (s :: l)) {x:Int} (hx:hv (s :: l) x):s.xLo≤x:=by
 rcases (xd _ _ _).1 hx with e | e
 ·exact e.1
 ·have:=zaq h e
  have:=h.1 s (by simp)
  omega
theorem Yu {l m:List zd} (hl:NF l) (hm:NF m) (h:∀ s∈l,∀ t∈m,s.xHi+1<t.xLo):NF (l++m) :=
 ⟨fun s hs=>(List.mem_append.1 hs).elim (hl.1 s) (hm.1 s),List.pairwise_append.2 ⟨hl.2,hm.2,h⟩⟩
theorem X0 {s:zd} (h:s.xLo≤s.xHi):NF [s]:=⟨by simpa using h,by simp⟩
theorem zhc:∀ {a b:List zd},NF a→NF b→(∀ x,hv a x↔hv b x)→a=b
 | [],[],_,_,_=>rfl
 | [],t :: b,_,hb,h=>absurd ((h t.xLo).2 ((xd _ _ _).2 (.inl ⟨Int.le_refl _,hb.1 t (by simp)⟩))) (ug _)
 | s :: a,[],ha,_,h=>absurd ((h s.xLo).1 ((xd _ _ _).2 (.inl ⟨Int.le_refl _,ha.1 s (by simp)⟩))) (ug _)
 | s :: a,t :: b,ha,hb,h=>by
  have h1:=ha.1 s (by simp)
  have h2:=hb.1 t (by simp)
  have l1:t.xLo≤s.xLo:=VY hb ((h _).1 ((xd _ _ _).2 (.inl ⟨Int.le_refl _,h1⟩)))
  have l2:s.xLo≤t.xLo:=VY ha ((h _).2 ((xd _ _ _).2 (.inl ⟨Int.le_refl _,h2⟩)))
  have u1:¬ s.xHi<t.xHi:=fun hlt=>by
   have:=(h (s.xHi+1)).2 ((xd _ _ _).2 (.inl ⟨by omega,by omega⟩))
   rcases (xd _ _ _).1 this with e | e
   ·omega
   ·have:=zaq ha e;omega
  have u2:¬ t.xHi<s.xHi:=fun hlt=>by
   have:=(h (t.xHi+1)).1 ((xd _ _ _).2 (.inl ⟨by omega,by omega⟩))
   rcases (xd _ _ _).1 this with e | e
   ·omega
   ·have:=zaq hb e;omega
  have e:s=t:=by
   apply zd.ext <;> omega
  subst e
  rw [zhc (Yd ha) (Yd hb) (fun x=>?_)]
  have:=h x
  rw [xd,xd] at this
  constructor
  ·intro hx
   have g:=zaq ha hx
   rcases this.1 (.inr hx) with e | e
   ·omega
   ·exact e
  ·intro hx
   have g:=zaq hb hx
   rcases this.2 (.inr hx) with e | e
   ·omega
   ·exact e
def ziq:List (Int×Int)→List zd→Int→Int→List zd
 | [],out,_,_=>out
 | e :: es,out,d,st=>ziq es (if d+e.2=0 then out++[zd.mk (if d=0 then e.1 else st) (e.1 - 1)] else out) (d+e.2) (if d=0 then e.1 else st)
def Uu:List zd→zd→List zd→Bool→List zd×zd×Bool
 | [],s,out,pl=>(out,s,pl)
 | x :: xs,s,out,pl =>
  if x.xHi+1<s.xLo then Uu xs s (out++[x]) pl
  else if s.xHi+1<x.xLo then Uu xs s ((if pl then out else out++[s])++[x]) true
  else Uu xs (zd.mk (min s.xLo x.xLo) (max s.xHi x.xHi)) out pl
def Vj (l:List zd) (s:zd):List zd :=
 match Uu l s [] false with
 | (out,s',pl)=>if pl then out else out++[s']
theorem zbU:∀ (l:List zd) (s:zd) (out:List zd) (pl:Bool),NF l→s.xLo≤s.xHi→NF out →
  (pl=false→(∀ t∈out,t.xHi+1<s.xLo)∧(∀ t∈out,∀ u∈l,t.xHi+1<u.xLo)) →
  (pl=true→(∀ t∈out,∀ u∈l,t.xHi+1<u.xLo)∧(∀ u∈l,s.xHi+1<u.xLo)∧s∈out) →
  NF (match Uu l s out pl with | (o,s',p)=>if p then o else o++[s'])∧∀ x,hv (match Uu l s out pl with | (o,s',p)=>if p then o else o++[s']) x↔hv out x∨hv l x∨(s.xLo≤x∧x≤s.xHi)
 | [],s,out,pl,hl,hs,ho,h0,h1=>by
  simp only [Uu]
  cases pl with
  | true =>
   simp only [if_true]
   obtain ⟨_,_,hm⟩:=h1 rfl
   refine ⟨ho,fun x=>⟨.inl,?_⟩⟩
   rintro (q | q | q)
   ·exact q
   ·exact absurd q (ug x)
   ·exact ⟨s,hm,q⟩
  | false =>
   simp only [Bool.false_eq_true,if_false]
   obtain ⟨ha,_⟩:=h0 rfl
   refine ⟨Yu ho (X0 hs) (fun t ht u hu=>by simp at hu;subst hu;exact ha t ht),fun x=>?_⟩
   rw [Yj,xd]
   simp [ug]
 | y :: l,s,out,pl,hl,hs,ho,h0,h1=>by
  have hy:=hl.1 y (by simp)
  have hgap:=(List.pairwise_cons.1 hl.2).1
  have hl':=Yd hl
  unfold Uu
  by_cases c1:y.xHi+1<s.xLo
  ·rw [if_pos c1]
   have hpl:pl=false:=by
    cases pl with
    | false=>rfl
    | true=>have:=(h1 rfl).2.1 y (by simp);omega
   subst hpl
   obtain ⟨a1,a2⟩:=h0 rfl
   have ih:=zbU l s (out++[y]) false hl' hs (Yu ho (X0 hy) (fun t ht u hu=>by simp at hu;subst hu;exact a2 t ht u (by simp)))
    (fun _=>⟨fun t ht=>by
     rcases List.mem_append.1 ht with q | q
     ·exact a1 t q
     ·simp at q;subst q;exact c1,fun t ht u hu=>by
     rcases List.mem_append.1 ht with q | q
     ·exact a2 t q u (by simp [hu])
     ·simp at q;subst q;exact hgap u hu⟩) (fun h=>by simp at h)
   refine ⟨ih.1,fun x=>?_⟩
   rw [ih.2 x,Yj,xd,xd]
   simp only [ug,or_false]
   constructor
   ·rintro ((q | q) | q | q)
    ·exact .inl q
    ·exact .inr (.inl (.inl q))
    ·exact .inr (.inl (.inr q))
    ·exact .inr (.inr q)
   ·rintro (q | (q | q) | q)
    ·exact .inl (.inl q)
    ·exact .inl (.inr q)
    ·exact .inr (.inl q)
    ·exact .inr (.inr q)
  ·rw [if_neg c1]
   by_cases c2:s.xHi+1<y.xLo
   ·rw [if_pos c2]
    cases pl with
    | true =>
     simp only [if_true]
     obtain ⟨a1,a2,a3⟩:=h1 rfl
     have ih:=zbU l s (out++[y]) true hl' hs (Yu ho (X0 hy) (fun t ht u hu=>by simp at hu;subst hu;exact a1 t ht u (by simp))) (fun h=>by simp at h)
      (fun _=>⟨fun t ht u hu=>by
       rcases List.mem_append.1 ht with q | q
       ·exact a1 t q u (by simp [hu])
       ·simp at q;subst q;exact hgap u hu,fun u hu=>a2 u (by simp [hu]),by simp [a3]⟩)
     refine ⟨ih.1,fun x=>?_⟩
     rw [ih.2 x,Yj,xd,xd]
     simp only [ug,or_false]
     constructor
     ·rintro ((q | q) | q | q)
      ·exact .inl q
      ·exact .inr (.inl (.inl q))
      ·exact .inr (.inl (.inr q))
      ·exact .inr (.inr q)
     ·rintro (q | (q | q) | q)
      ·exact .inl (.inl q)
      ·exact .inl (.inr q)
      ·exact .inr (.inl q)
      ·exact .inr (.inr q)
    | false =>
     simp only [Bool.false_eq_true,if_false]
     obtain ⟨a1,a2⟩:=h0 rfl
     have n1:NF (out++[s]):=Yu ho (X0 hs) (fun t ht u hu=>by simp at hu;subst hu;exact a1 t ht)
     have ih:=zbU l s ((out++[s])++[y]) true hl' hs (Yu n1 (X0 hy) (fun t ht u hu=>by
       simp at hu;subst hu
       rcases List.mem_append.1 ht with q | q
       ·exact a2 t q u (by simp)
       ·simp at q;subst q;exact c2)) (fun h=>by simp at h)
      (fun _=>⟨fun t ht u hu=>by
       have hg:=hgap u hu
       rcases List.mem_append.1 ht with q | q
       ·rcases List.mem_append.1 q with q | q
        ·exact a2 t q u (by simp [hu])
        ·simp at q;subst q;omega
       ·simp at q;subst q;exact hg,fun u hu=>by have:=hgap u hu;omega,by simp⟩)
     refine ⟨ih.1,fun x=>?_⟩
     rw [ih.2 x,Yj,Yj,xd,xd,xd]
     simp only [ug,or_false]
     constructor
     ·rintro (((q | q) | q) | q | q)
      ·exact .inl q
      ·exact .inr (.inr q)
      ·exact .inr (.inl (.inl q))
      ·exact .inr (.inl (.inr q))
      ·exact .inr (.inr q)
     ·rintro (q | (q | q) | q)
      ·exact .inl (.inl (.inl q))
      ·exact .inl (.inr q)
      ·exact .inr (.inl q)
      ·exact .inr (.inr q)
   ·rw [if_neg c2]
    have hpl:pl=false:=by
     cases pl with
     | false=>rfl
     | true=>have:=(h1 rfl).2.1 y (by simp);omega
    subst hpl
    obtain ⟨a1,a2⟩:=h0 rfl
    have ih:=zbU l (zd.mk (min s.xLo y.xLo) (max s.xHi y.xHi)) out false hl' (by simp only;omega) ho
     (fun _=>⟨fun t ht=>by
      have:=a1 t ht;have:=a2 t ht y (by simp)
      simp only;omega,fun t ht u hu=>a2 t ht u (by simp [hu])⟩) (fun h=>by simp at h)
    refine ⟨ih.1,fun x=>?_⟩
    rw [ih.2 x,xd]
    simp only
    constructor
    ·rintro (q | q | q)
     ·exact .inl q
     ·exact .inr (.inl (.inr q))
     ·by_cases c3:y.xLo≤x∧x≤y.xHi
      ·exact .inr (.inl (.inl c3))
      ·exact .inr (.inr (by omega))
    ·rintro (q | (q | q) | q)
     ·exact .inl q
     ·exact .inr (.inr (by omega))
     ·exact .inr (.inl q)
     ·exact .inr (.inr (by omega))
theorem zfo {l:List zd} {s:zd} (hl:NF l) (hs:s.xLo≤s.xHi):NF (Vj l s)∧∀ x,hv (Vj l s) x↔hv l x∨(s.xLo≤x∧x≤s.xHi):=by
 have:=zbU l s [] false hl hs zcN (fun _=>⟨by simp,by simp⟩) (fun h=>by simp at h)
 refine ⟨this.1,fun x=>?_⟩
 have:=this.2 x
 simp only [ug,false_or] at this
 exact this
theorem zaB:∀ (xs l:List zd),NF l→(∀ s∈xs,s.xLo≤s.xHi)→NF (xs.foldl Vj l)∧∀ x,hv (xs.foldl Vj l) x↔hv l x∨hv xs x
 | [],l,hl,_=>⟨hl,fun x=>by simp [ug]⟩
 | s :: xs,l,hl,h=>by
  obtain ⟨n1,e1⟩:=zfo hl (h s (by simp))
  obtain ⟨n2,e2⟩:=zaB xs (Vj l s) n1 (fun t ht=>h t (List.mem_cons_of_mem _ ht))
  refine ⟨n2,fun x=>?_⟩
  rw [List.foldl_cons,e2 x,e1 x,xd]
  constructor
  ·rintro ((q | q) | q)
   ·exact .inl q
   ·exact .inr (.inl q)
   ·exact .inr (.inr q)
  ·rintro (q | q | q)
   ·exact .inl (.inl q)
   ·exact .inl (.inr q)
   ·exact .inr q
end
section
theorem jt {A B:Prop} (h:A):ifW true A B:=⟨fun _=>h,(fun e=>by cases e)⟩
theorem jO {A B:Prop} (h:B):ifW false A B:=⟨(fun e=>by cases e),fun _=>h⟩
theorem zr {c:Bool} {A B:Prop} (ht:c=true→A) (hf:c=false→B):ifW c A B:=⟨ht,hf⟩
@[simp] theorem YA {A B:Prop}:ifW true A B=A:=propext ⟨fun h=>h.1 rfl,jt⟩
@[simp] theorem zcq {A B:Prop}:ifW false A B=B:=propext ⟨fun h=>h.2 rfl,jO⟩
theorem zG {x y:Int} {κ:Int→Prop} (h1:-9223372036854775808≤x+y) (h2:x+y≤9223372036854775807) (h:κ (x+y)):jy x y κ:=⟨⟨h1,h2⟩,h⟩
theorem yP {x y:Int} {κ:Int→Prop} (h1:-9223372036854775808≤x - y) (h2:x - y≤9223372036854775807) (h:κ (x - y)):XK x y κ:=⟨⟨h1,h2⟩,h⟩
theorem VM {x y:Int} {κ:Int→Prop} (h1:-9223372036854775808≤x * y) (h2:x * y≤9223372036854775807) (h:κ (x * y)):zee x y κ:=⟨⟨h1,h2⟩,h⟩
theorem zgI {x y:Int} {κ:Int→Prop} (h1:0≤x) (h2:x≤9223372036854775807) (h3:0<y) (h:κ (x / y)):zf7 x y κ:=⟨h3,⟨by omega,h2⟩,by rw [Int.tdiv_eq_ediv_of_nonneg h1];exact h⟩
theorem zgX {x y:Int} {κ:Int→Prop} (h1:0≤x) (h2:x≤9223372036854775807) (h3:0<y) (h:κ (x % y)):zd6 x y κ:=⟨h1,h3,⟨by omega,h2⟩,h⟩
theorem zt {α:Type} {xs:List α} {i:Int} {κ:α→Prop} (n:Nat) (hi:i=n) (hn:n<xs.length) (h:κ xs[n]):zF xs i κ:=by
 subst hi
 exact ⟨xs[n],by omega,by simp [hn],h⟩
theorem jx {α:Type} {xs ys:List α} {κ:List α→Prop} (h1:xs.length+ys.length≤4294967296) (h:κ (xs++ys)):xu xs ys κ:=⟨h1,h⟩
theorem Un {α:Type} {z:α} {n m:Int} {κ:List α→Prop} (k:Nat) (hn:n=k) (h1:n≤m) (h2:m≤4294967296) (h:κ (List.replicate k z)):UA z n m κ:=by
 subst hn
 refine ⟨by omega,h1,?_,by simpa using h⟩
 unfold zaD
 omega
theorem jb {σ:Type} {F:(σ→Prop)→σ→Prop} (len:Nat) (pos:σ→Int) (I:Nat→σ→Prop) (hpos:∀ k s,I k s→pos s=k) (hle:∀ k s,I k s→k≤len)
  (h:∀ k s next,I k s→(k<len→∀ s',I (k+1) s'→next s')→F next s) {s:σ} (h0:I 0 s):jB F s:=by
 refine Zo (fun s=>∃ k,I k s) (fun s=>len - (pos s).toNat) (fun s next ⟨k,hk⟩ hn=>?_) ⟨0,h0⟩
 refine h k s next hk (fun hlt s' hs'=>hn s' ⟨k+1,hs'⟩ ?_)
 rw [hpos _ _ hk,hpos _ _ hs']
 omega
theorem zaT {σ:Type} {F:(σ→Prop)→σ→Prop} (k0 len:Nat) (pos:σ→Int) (I:Nat→σ→Prop) (hpos:∀ k s,I k s→pos s=k) (hle:∀ k s,I k s→k≤len)
  (h:∀ k s next,I k s→(k<len→∀ s',I (k+1) s'→next s')→F next s) {s:σ} (h0:I k0 s):jB F s:=by
 refine Zo (fun s=>∃ k,I k s) (fun s=>len - (pos s).toNat) (fun s next ⟨k,hk⟩ hn=>?_) ⟨k0,h0⟩
 refine h k s next hk (fun hlt s' hs'=>hn s' ⟨k+1,hs'⟩ ?_)
 rw [hpos _ _ hk,hpos _ _ hs']
 omega
def ziR {α:Type} (f:Int→α) (k:Int) (n:Nat):List α:=(List.range n).map fun (i:Nat)=>f (k+(i:Int))
end
section
open Go Go.Proofs
instance (l:List zd) (x:Int):Decidable (hv l x):=by unfold hv;infer_instance
def St (l:List zd) (top:Int):Prop:=NF l∧∀ s∈l,0≤s.xLo∧s.xHi≤top
theorem zhS (top:Int):St [] top:=⟨zcN,by simp⟩
theorem zhf {a b:List zd} {t u:Int} (ha:St a t) (hb:St b u) (h:∀ x,hv a x↔hv b x):a=b:=zhc ha.1 hb.1 h
theorem ZH {l:List zd} {top x:Int} (h:St l top) (hx:hv l x):0≤x∧x≤top:=by
 obtain ⟨s,hs,e1,e2⟩:=hx
 have:=h.2 s hs
 omega
theorem zcz:∀ (l:List zd) (top lo:Int),NF l→(∀ s∈l,lo≤s.xLo∧s.xHi≤top)→lo≤top+2→2 * (l.length:Int)≤top+2 - lo
 | [],top,lo,_,_,h=>by simp;omega
 | s :: l,top,lo,hn,hr,h=>by
  have h0:=hr s (by simp)
  have h1:=hn.1 s (by simp)
  have:=zcz l top (s.xHi+2) (Yd hn) (fun t ht=>⟨by have:=(List.pairwise_cons.1 hn.2).1 t ht;omega,(hr t (List.mem_cons_of_mem _ ht)).2⟩) (by omega)
  simp only [List.length_cons]
  omega
theorem Yt {l:List zd} {top:Int} (h:St l top) (ht:-2≤top):2 * (l.length:Int)≤top+2:=by
 have:=zcz l top 0 h.1 h.2 (by omega)
 omega
def Xi (x y:zd):List zd:=if max x.xLo y.xLo≤min x.xHi y.xHi then [zd.mk (max x.xLo y.xLo) (min x.xHi y.xHi)] else []
def jd (a b:List zd):List zd:=a.flatMap fun x=>b.flatMap (Xi x)
theorem Uj {x y t:zd}:t∈Xi x y↔max x.xLo y.xLo≤min x.xHi y.xHi∧t=zd.mk (max x.xLo y.xLo) (min x.xHi y.xHi):=by
 unfold Xi;split <;> simp [*]
theorem UV {a b:List zd} {t:zd}:t∈jd a b↔∃ x∈a,∃ y∈b,max x.xLo y.xLo≤min x.xHi y.xHi∧t=zd.mk (max x.xLo y.xLo) (min x.xHi y.xHi):=by
 simp only [jd,List.mem_flatMap,Uj]
theorem Zz (a b:List zd) (n:Int):hv (jd a b) n↔hv a n∧hv b n:=by
 constructor
 ·rintro ⟨t,ht,h1,h2⟩
  obtain ⟨x,hx,y,hy,_,rfl⟩:=UV.1 ht
  simp only at h1 h2
  exact ⟨⟨x,hx,by omega,by omega⟩,⟨y,hy,by omega,by omega⟩⟩
 ·rintro ⟨⟨x,hx,h1,h2⟩,⟨y,hy,h3,h4⟩⟩
  exact ⟨_,UV.2 ⟨x,hx,y,hy,by omega,rfl⟩,by simp only;omega,by simp only;omega⟩
theorem zfQ {x:zd}:∀ {b:List zd},NF b→NF (b.flatMap (Xi x))
 | [],_=>by simp [NF]
 | y :: b,h=>by
  rw [List.flatMap_cons]
  have hy:=(List.pairwise_cons.1 h.2).1
  refine Yu ⟨fun t ht=>?_,?_⟩ (zfQ (Yd h)) (fun t ht u hu=>?_)
  ·obtain ⟨h1,rfl⟩:=Uj.1 ht;exact h1
  ·unfold Xi;split <;> simp
  ·obtain ⟨h1,rfl⟩:=Uj.1 ht
   obtain ⟨z,hz,hu⟩:=List.mem_flatMap.1 hu
   obtain ⟨h2,rfl⟩:=Uj.1 hu
   have:=hy z hz
   simp only;omega
theorem VN:∀ {a b:List zd},NF a→NF b→NF (jd a b)
 | [],b,_,_=>by simp [jd,NF]
 | x :: a,b,ha,hb=>by
  have e:jd (x :: a) b=b.flatMap (Xi x)++jd a b:=by simp [jd]
  rw [e]
  refine Yu (zfQ hb) (VN (Yd ha) hb) (fun t ht u hu=>?_)
  obtain ⟨y,hy,ht⟩:=List.mem_flatMap.1 ht
  obtain ⟨h1,rfl⟩:=Uj.1 ht
  obtain ⟨z,hz,y',hy',h2,rfl⟩:=UV.1 hu
  have:=(List.pairwise_cons.1 ha.2).1 z hz
  simp only;omega
theorem Xg {a b:List zd} {top:Int} (ha:St a top) (hb:NF b):St (jd a b) top:=by
 refine ⟨VN ha.1 hb,fun t ht=>?_⟩
 obtain ⟨x,hx,y,hy,_,rfl⟩:=UV.1 ht
 have:=ha.2 x hx
 have:=hb.1 y hy
 simp only;omega
def XF:List zd→Int→Int→List zd
 | [],at_,top=>if at_≤top then [zd.mk at_ top] else []
 | s :: l,at_,top=>(if at_<s.xLo then [zd.mk at_ (s.xLo - 1)] else [])++XF l (s.xHi+1) top
def X9 (a:List zd) (top:Int):List zd:=XF a 0 top
theorem zbI:∀ (a:List zd) (c top:Int),NF a→(∀ s∈a,c≤s.xLo∧s.xHi≤top) →
  NF (XF a c top)∧(∀ s∈XF a c top,c≤s.xLo∧s.xHi≤top)∧∀ x,hv (XF a c top) x↔c≤x∧x≤top∧¬ hv a x
 | [],c,top,_,_=>by
  unfold XF
  split
  ·refine ⟨X0 (by simpa using ‹_›),by simp,fun x=>?_⟩
   rw [xd];simp [ug]
  ·refine ⟨zcN,by simp,fun x=>?_⟩
   simp only [ug,false_iff]
   omega
 | s :: l,c,top,hn,hr=>by
  have h0:=hr s (by simp)
  have h1:=hn.1 s (by simp)
  have hg:=(List.pairwise_cons.1 hn.2).1
  obtain ⟨i1,i2,i3⟩:=zbI l (s.xHi+1) top (Yd hn) (fun t ht=>⟨by have:=hg t ht;omega,(hr t (List.mem_cons_of_mem _ ht)).2⟩)
  unfold XF
  have hx0:∀ x,x≤s.xHi+1→¬ hv l x:=fun x hx hh=>by have:=zaq hn hh;omega
  split
  ·refine ⟨Yu (X0 (by simp only;omega)) i1 (fun t ht u hu=>by simp at ht;subst ht;have:=i2 u hu;simp only;omega),fun t ht=>?_,fun x=>?_⟩
   ·rcases List.mem_append.1 ht with q | q
    ·simp at q;subst q;simp only;omega
    ·have:=i2 t q;omega
   ·rw [Yj,xd,i3,xd]
    simp only [ug,or_false]
    constructor
    ·rintro (q | ⟨q1,q2,q3⟩)
     ·exact ⟨by omega,by omega,fun h=>by
       rcases h with h | h
       ·omega
       ·exact hx0 x (by omega) h⟩
     ·exact ⟨by omega,q2,fun h=>by
       rcases h with h | h
       ·omega
       ·exact q3 h⟩
    ·rintro ⟨q1,q2,q3⟩
     by_cases h:x<s.xLo
     ·exact .inl (by omega)
     ·exact .inr ⟨by
       rcases Int.lt_or_le s.xHi x with g | g
       ·omega
       ·exact absurd (Or.inl ⟨by omega,g⟩) q3,q2,fun h=>q3 (.inr h)⟩
  ·refine ⟨by simpa using i1,fun t ht=>?_,fun x=>?_⟩
   ·have:=i2 t (by simpa using ht);omega
   ·rw [List.nil_append,i3,xd]
    constructor
    ·rintro ⟨q1,q2,q3⟩
     exact ⟨by omega,q2,fun h=>by
       rcases h with h | h
       ·omega
       ·exact q3 h⟩
    ·rintro ⟨q1,q2,q3⟩
     exact ⟨by
       rcases Int.lt_or_le s.xHi x with g | g
       ·omega
       ·exact absurd (Or.inl ⟨by omega,g⟩) q3,q2,fun h=>q3 (.inr h)⟩
theorem UK {a:List zd} {top:Int} (h:St a top):St (X9 a top) top:=by
 obtain ⟨h1,h2,_⟩:=zbI a 0 top h.1 h.2
 exact ⟨h1,h2⟩
theorem zaw {a:List zd} {top:Int} (h:St a top) (x:Int):hv (X9 a top) x↔0≤x∧x≤top∧¬ hv a x:=(zbI a 0 top h.1 h.2).2.2 x
def zhq (a b:List zd):List zd:=b.foldl Vj a
theorem za3 {l:List zd} {s:zd} (h:NF l) (hs:s∈l):hv l s.xLo∧hv l s.xHi:=⟨⟨s,hs,Int.le_refl _,h.1 s hs⟩,⟨s,hs,h.1 s hs,Int.le_refl _⟩⟩
theorem zfB (a:List zd) (c:Int) (hl:a.length≤4294967296) {i0:Nat} (h0:i0≤a.length) (hb:∀ s∈a.take i0,s.xHi<c) (REST:Int→Prop)
  (hR:∀ i:Nat,i≤a.length→(∀ s∈a.take i,s.xHi<c)→(∀ h:i<a.length,c≤a[i].xHi)→REST i)
  (F:(Int→Prop)→Int→Prop) (hF:∀ nx t,(jnW (fun (b:Bool)=>ifW b (jy t 1 (fun u=>nx u)) (REST t)) (fun k=>ifW (decide (t<(a.length:Int))) (zF a t (fun e=>k (decide (e.xHi<c)))) (k false)))→F nx t):jB F (i0:Int):=by
 refine zaT i0 a.length (fun s=>s) (fun k s=>s=(k:Int)∧k≤a.length∧∀ s∈a.take k,s.xHi<c) (fun k s h=>h.1) (fun k s h=>h.2.1) ?_ ⟨rfl,h0,hb⟩
 rintro k _ next ⟨rfl,hk,he⟩ hn
 refine hF _ _ ?_
 unfold jnW
 refine zr (fun hc=>?_) (fun hc=>?_)
 ·have hlt:k<a.length:=by simpa using hc
  refine zt k rfl hlt (zr (fun hd=>?_) (fun hd=>?_))
  ·refine zG (by omega) (by omega) (hn hlt _ ⟨by simp,by omega,fun s hs=>?_⟩)
   rw [List.take_succ_eq_append_getElem hlt] at hs
   rcases List.mem_append.1 hs with q | q
   ·exact he s q
   ·simp at q;subst q;simpa using hd
  ·exact hR k hk he (fun _=>by simpa using hd)
 ·refine jO (hR k hk he (fun h=>?_))
  have:a.length≤k:=by simpa using hc
  omega
theorem zex {a:List zd} {i:Nat} {c x:Int} (h:∀ s∈a.take i,s.xHi<c) (hx:c≤x):hv a x↔hv (a.drop i) x:=by
 have e:=Yj (a.take i) (a.drop i) x
 rw [List.take_append_drop] at e
 rw [e]
 constructor
 ·rintro (⟨s,hs,q1,q2⟩ | q)
  ·have:=h s hs;omega
  ·exact q
 ·exact .inr
def stF (l:List zd) (c top:Int):Bool×Int :=
 match l with
 | []=>(false,top)
 | s :: _=>if c<s.xLo then (false,s.xLo - 1) else (true,s.xHi)
theorem zcf {l:List zd} {c top:Int} {κ:Bool×Int→Prop} (hb:∀ s∈l,0≤s.xLo∧s.xHi≤9223372036854775807) (hn:NF l) (h:κ (stF l c top)):x9 l c top κ:=by
 unfold x9
 cases l with
 | nil=>exact jt h
 | cons s l =>
  have:=hb s (by simp)
  have:=hn.1 s (by simp)
  refine zr (fun e=>by simp at e;omega) (fun _=>zt 0 rfl (by simp) (zr (fun e=>zt 0 rfl (by simp) (yP (by simp only [List.getElem_cons_zero];omega) (by simp only [List.getElem_cons_zero];omega) ?_)) (fun e=>zt 0 rfl (by simp) ?_)))
  ·simp only [stF] at h
   rw [if_pos (by simpa using e)] at h
   exact h
  ·simp only [stF] at h
   rw [if_neg (by simpa using e)] at h
   exact h
theorem zdW {l:List zd} {c top:Int} (h:NF l) (hb:∀ s∈l,s.xHi≤top) (hc:c≤top) (hf:∀ s∈l.head?,c≤s.xHi) :
  c≤(stF l c top).2∧(stF l c top).2≤top∧∀ x,c≤x→x≤(stF l c top).2→(hv l x↔(stF l c top).1=true):=by
 cases l with
 | nil=>exact ⟨hc,Int.le_refl _,fun x _ _=>by simp [stF,ug]⟩
 | cons s l =>
  have h0:=hb s (by simp)
  have h1:=h.1 s (by simp)
  have h2:=hf s (by simp)
  unfold stF
  simp only
  split
  ·refine ⟨by simp only;omega,by simp only;omega,fun x q1 q2=>?_⟩
   simp only at q2
   simp only [Bool.false_eq_true,iff_false]
   intro hh
   have:=VY h hh
   omega
  ·refine ⟨h2,h0,fun x q1 q2=>?_⟩
   simp only at q2
   simp only [iff_true]
   exact (xd _ _ _).2 (.inl ⟨by omega,q2⟩)
theorem VH:∀ {a:List zd} (i:Nat),NF a→NF (a.drop i):=fun {a} i h=>⟨fun s hs=>h.1 s (List.mem_of_mem_drop hs),h.2.drop⟩
theorem zcH {a:List zd} {i:Nat} {c:Int} (h:∀ q:i<a.length,c≤a[i].xHi):∀ s∈(a.drop i).head?,c≤s.xHi:=by
 intro s hs
 rw [List.head?_drop] at hs
 obtain ⟨hlt,e⟩:=List.getElem?_eq_some_iff.1 hs
 rw [← e];exact h hlt
theorem zbO (keep:Bool→Bool→Bool) {a b:List zd} {top:Int} (ha:St a top) (hb:St b top) (ht0:-2≤top) (ht:top≤65535) {κ:List zd→Prop}
  (hκ:∀ r,St r top→(∀ x,0≤x→x≤top→(hv r x↔keep (decide (hv a x)) (decide (hv b x))=true))→κ r)
  (K:Bool→Bool→(Bool→Prop)→Prop) (hK:∀ p q φ,φ (keep p q)→K p q φ)
  (F:(List zd×Int×Int×Int→Prop)→List zd×Int×Int×Int→Prop)
  (hF:∀ nx xs8 t11 t12 t13,(ifW (decide (t13≤top)) (jB (fun (nx16:Int→Prop) (t15:Int)=>jnW (fun (t79:Bool)=>ifW t79 (jy t15 1 (fun t81=>nx16 t81)) (jB (fun (nx83:Int→Prop) (t82:Int)=>jnW (fun (t146:Bool)=>ifW t146 (jy t82 1 (fun t148=>nx83 t148)) (Yq a t15 (a.length:Int) (fun xs150=>x9 xs150 t13 top (fun (r153,r154)=>Yq b t82 (b.length:Int) (fun xs156=>x9 xs156 t13 top (fun (r159,r160)=>jnW (fun (xs296:(List zd))=>jy (min r154 r160) 1 (fun t300=>nx (xs296,t15,t82,t300))) (fun k299=>K r153 r159 (fun r161=>ifW r161 (jnW (fun (t226:Bool)=>ifW t226 (XK (xs8.length:Int) 1 (fun t228=>zF xs8 t228 (fun e229=>k299 (xs8.set (t228).toNat (zd.mk e229.xLo (min r154 r160)))))) (xu xs8 ([(zd.mk t13 (min r154 r160))]) (fun _=>k299 (xs8++([(zd.mk t13 (min r154 r160))]))))) (fun k227=>ifW (decide (0<(xs8.length:Int))) (XK (xs8.length:Int) 1 (fun t162=>zF xs8 t162 (fun e163=>jy e163.xHi 1 (fun t165=>k227 (decide (t165=t13)))))) (k227 false))) (k299 xs8))))))))) (fun k147=>ifW (decide (t82<(b.length:Int))) (zF b t82 (fun e84=>k147 (decide (e84.xHi<t13)))) (k147 false))) t12)) (fun k80=>ifW (decide (t15<(a.length:Int))) (zF a t15 (fun e17=>k80 (decide (e17.xHi<t13)))) (k80 false))) t11) (κ xs8))→F nx (xs8,t11,t12,t13)) :
  jB F ([],0,0,0):=by
 have la:=Yt ha ht0
 have lb:=Yt hb ht0
 refine Zo (fun (s:List zd×Int×Int×Int)=>∃ i j:Nat,s.2.1=i∧s.2.2.1=j∧i≤a.length∧j≤b.length∧0≤s.2.2.2∧(top<s.2.2.2→s.2.2.2=top+1∨s.2.2.2=0)∧(∀ u∈a.take i,u.xHi<s.2.2.2)∧(∀ u∈b.take j,u.xHi<s.2.2.2)∧St s.1 top∧(∀ u∈s.1,u.xHi<s.2.2.2)∧(∀ x,0≤x→x<s.2.2.2→(hv s.1 x↔keep (decide (hv a x)) (decide (hv b x))=true)))
  (fun s=>(top+1 - s.2.2.2).toNat) ?_ ⟨0,0,rfl,rfl,Nat.zero_le _,Nat.zero_le _,Int.le_refl _,fun _=>.inr rfl,by simp,by simp,zhS _,by simp,fun x h1 h2=>by simp only at h2;omega⟩
 rintro ⟨out,_,_,c⟩ next ⟨i,j,rfl,rfl,hi,hj,hc0,hc1,hai,hbj,ho,hoc,hk⟩ hn
 simp only at hc0 hc1 hai hbj ho hoc hk
 have lo:=Yt ho ht0
 refine hF _ _ _ _ _ (zr (fun hc=>?_) (fun hc=>?_))
 rotate_left 1
 ·have hc':top<c:=by simpa using hc
  refine hκ out ho (fun x h1 h2=>hk x h1 (by omega))
 have hc':c≤top:=by simpa using hc
 refine zfB a c (by omega) hi hai _ (fun i' hi' hai' hai2=>?_) _ (fun _ _ h=>h)
 refine zfB b c (by omega) hj hbj _ (fun j' hj' hbj' hbj2=>?_) _ (fun _ _ h=>h)
 have mema:∀ s∈a.drop i',0≤s.xLo∧s.xHi≤top:=fun s hs=>ha.2 s (List.mem_of_mem_drop hs)
 have memb:∀ s∈b.drop j',0≤s.xLo∧s.xHi≤top:=fun s hs=>hb.2 s (List.mem_of_mem_drop hs)
 refine ⟨by omega,by omega,by omega,?_⟩
 rw [show (a.take (a.length:Int).toNat).drop (i':Int).toNat=a.drop i' by simp]
 refine zcf (fun s hs=>⟨(mema s hs).1,by have:=(mema s hs).2;omega⟩) (VH _ ha.1) ?_
 obtain ⟨a1,a2,a3⟩:=zdW (VH i' ha.1) (fun s hs=>(mema s hs).2) hc' (zcH hai2)
 generalize stF (a.drop i') c top=p at a1 a2 a3
 obtain ⟨inA,endA⟩:=p
 simp only at a1 a2 a3 ⊢
 refine ⟨by omega,by omega,by omega,?_⟩
 rw [show (b.take (b.length:Int).toNat).drop (j':Int).toNat=b.drop j' by simp]
 refine zcf (fun s hs=>⟨(memb s hs).1,by have:=(memb s hs).2;omega⟩) (VH _ hb.1) ?_
 obtain ⟨b1,b2,b3⟩:=zdW (VH j' hb.1) (fun s hs=>(memb s hs).2) hc' (zcH hbj2)
 generalize stF (b.drop j') c top=p at b1 b2 b3
 obtain ⟨inB,endB⟩:=p
 simp only at b1 b2 b3 ⊢
 have hke:∀ x,c≤x→x≤min endA endB→(keep (decide (hv a x)) (decide (hv b x))=keep inA inB):=fun x q1 q2=>by
  have e1:decide (hv a x)=inA:=by
   have:=a3 x q1 (by omega)
   rw [← zex hai' q1] at this
   cases inA <;> simpa using this
  have e2:decide (hv b x)=inB:=by
   have:=b3 x q1 (by omega)
   rw [← zex hbj' q1] at this
   cases inB <;> simpa using this
  rw [e1,e2]
 unfold jnW
 generalize hm:min endA endB=m at hke ⊢
 have m1:c≤m:=by omega
 have m2:m≤top:=by omega
 have fin:∀ out',St out' top→(∀ u∈out',u.xHi≤m)→(∀ x,0≤x→x≤m→(hv out' x↔keep (decide (hv a x)) (decide (hv b x))=true))→jy m 1 (fun t300=>next (out',(i':Int),(j':Int),t300)):=fun out' h1 h2 h3 =>
  zG (by omega) (by omega) (hn _ ⟨i',j',rfl,rfl,hi',hj',by simp only;omega,fun _=>.inl (by simp only at *;omega),fun u hu=>by have:=hai' u hu;simp only;omega,fun u hu=>by have:=hbj' u hu;simp only;omega,h1,fun u hu=>by have:=h2 u hu;simp only;omega,fun x q1 q2=>h3 x q1 (by simp only at q2;omega)⟩ (by simp only;omega))
 refine hK _ _ _ (zr (fun hkt=>?_) (fun hkf=>?_))
 ·
  have app:(∀ u∈out,u.xHi+1<c)→xu out ([(zd.mk c m)]) (fun _=>jy m 1 (fun t300=>next (out++[zd.mk c m],(i':Int),(j':Int),t300))):=fun hg =>
   jx (by simp;omega) (fin _ ⟨Yu ho.1 (X0 (by simpa using m1)) (fun s hs t ht=>by simp at ht;subst ht;exact hg s hs),fun s hs=>by
    rcases List.mem_append.1 hs with q | q
    ·exact ho.2 s q
    ·simp at q;subst q;exact ⟨hc0,m2⟩⟩ (fun u hu=>by
    rcases List.mem_append.1 hu with q | q
    ·have:=hoc u q;omega
    ·simp at q;subst q;exact Int.le_refl _) (fun x q1 q2=>by
    rw [Yj,xd]
    simp only [ug,or_false]
    by_cases hx:x<c
    ·rw [← hk x q1 hx]
     constructor
     ·rintro (q | q)
      ·exact q
      ·omega
     ·exact .inl
    ·rw [hke x (by omega) q2,hkt]
     simp only [iff_true]
     exact .inr ⟨by omega,q2⟩))
  refine zr (fun hp=>?_) (fun hp=>?_)
  ·
   have hpos:0<out.length:=by simpa using hp
   refine yP (by omega) (by omega) (zt (out.length - 1) (by omega) (by omega) ?_)
   have hmem:out[out.length - 1]∈out:=List.getElem_mem _
   have hlast:=hoc _ hmem
   have hl0:=ho.2 _ hmem
   have hl1:=ho.1.1 _ hmem
   refine zG (by omega) (by omega) (zr (fun hq=>?_) (fun hq=>?_))
   ·have hq':(out[out.length - 1]).xHi+1=c:=by simpa using hq
    refine yP (by omega) (by omega) (zt (out.length - 1) (by omega) (by omega) ?_)
    have hsplit:out=out.dropLast++[out[out.length - 1]]:=by
     have:=List.dropLast_concat_getLast (l:=out) (by intro h;rw [h] at hpos;simp at hpos)
     rw [List.getLast_eq_getElem] at this
     exact this.symm
    generalize out[out.length - 1]=z at *
    have hset:out.set ((out.length:Int) - 1).toNat (zd.mk z.xLo m)=out.dropLast++[zd.mk z.xLo m]:=by
     have e1:((out.length:Int) - 1).toNat=out.dropLast.length:=by rw [List.length_dropLast];omega
     rw [e1]
     conv=>lhs;rw [hsplit]
     rw [List.dropLast_concat,List.set_append_right _ _ (Nat.le_refl _)]
     simp
    rw [hset]
    have hd:NF (out.dropLast++[z]):=by rw [← hsplit];exact ho.1
    have hdp:=List.pairwise_append.1 hd.2
    have hdm:∀ u∈out.dropLast,u∈out:=fun u hu=>by rw [hsplit];exact List.mem_append_left _ hu
    refine fin _ ⟨Yu ⟨fun s hs=>ho.1.1 s (hdm s hs),hdp.1⟩ (X0 (by simp only;omega)) (fun s hs t ht=>by simp at ht;subst ht;exact hdp.2.2 s hs z (by simp)),fun s hs=>?_⟩ (fun u hu=>?_) (fun x q1 q2=>?_)
    ·rcases List.mem_append.1 hs with q | q
     ·exact ho.2 s (hdm s q)
     ·simp at q;subst q;exact ⟨hl0.1,m2⟩
    ·rcases List.mem_append.1 hu with q | q
     ·have:=hoc u (hdm u q);omega
     ·simp at q;subst q;exact Int.le_refl _
    ·have hold:hv out x↔hv out.dropLast x∨(z.xLo≤x∧x≤z.xHi):=by
      conv=>lhs;rw [hsplit]
      rw [Yj,xd];simp [ug]
     rw [Yj,xd]
     simp only [ug,or_false]
     by_cases hx:x<c
     ·rw [← hk x q1 hx,hold]
      constructor
      ·rintro (q | q)
       ·exact .inl q
       ·exact .inr ⟨q.1,by omega⟩
      ·rintro (q | q)
       ·exact .inl q
       ·exact .inr ⟨q.1,by omega⟩
     ·rw [hke x (by omega) q2,hkt]
      simp only [iff_true]
      exact .inr ⟨by omega,q2⟩
   ·have hq':(out[out.length - 1]).xHi+1≠c:=by simpa using hq
    refine app (fun u hu=>?_)
    obtain ⟨t,ht,e⟩:=List.getElem_of_mem hu
    by_cases e0:t=out.length - 1
    ·subst e0;rw [← e];omega
    ·have hpw:=List.pairwise_iff_getElem.1 ho.1.2 t (out.length - 1) ht (by omega) (by omega)
     rw [e] at hpw
     omega
  ·have:out=[]:=by
    have:¬ 0<out.length:=by simpa using hp
    exact List.eq_nil_of_length_eq_zero (by omega)
   subst this
   exact jO (app (by simp))
 ·refine fin out ho (fun u hu=>by have:=hoc u hu;omega) (fun x q1 q2=>?_)
  by_cases hx:x<c
  ·exact hk x q1 hx
  ·rw [hke x (by omega) q2,hkf]
   simp only [Bool.false_eq_true,iff_false]
   rintro ⟨u,hu,r1,r2⟩
   have:=hoc u hu
   omega
end
section
open Go Go.Proofs
theorem zfX {p q:Bool} {κ:Bool→Prop} (h:κ (p && q)):ZK p q κ:=by
 unfold ZK jnW;cases p <;> simpa using h
theorem zb6 {p q:Bool} {κ:Bool→Prop} (h:κ (p && !q)):uO p q κ:=by
 unfold uO jnW;cases p <;> simpa using h
theorem zc6 {a b:List zd} {top:Int} (ha:St a top) (hb:St b top) (h0:-2≤top) (ht:top≤65535) {κ:List zd→Prop} (h:κ (jd a b)):xC a b top κ:=by
 unfold xC
 refine zbO (fun p q=>p && q) ha hb h0 ht (κ:=κ) (fun r hr hk=>?_) (fun p q φ=>ZK p q φ) (fun p q φ=>zfX) _ (fun _ _ _ _ _ h=>h)
 rw [zhf hr (Xg ha hb.1) (fun x=>?_)]
 ·exact h
 ·rw [Zz]
  by_cases hx:0≤x∧x≤top
  ·rw [hk x hx.1 hx.2];simp
  ·exact ⟨fun e=>absurd (ZH hr e) hx,fun e=>absurd (ZH ha e.1) hx⟩
theorem zb0 {a b:List zd} {top:Int} (ha:St a top) (hb:St b top) (h0:-2≤top) (ht:top≤65535) {κ:List zd→Prop} (h:κ (jd a (X9 b top))):xe a b top κ:=by
 unfold xe
 refine zbO (fun p q=>p && !q) ha hb h0 ht (κ:=κ) (fun r hr hk=>?_) (fun p q φ=>uO p q φ) (fun p q φ=>zb6) _ (fun _ _ _ _ _ h=>h)
 rw [zhf hr (Xg ha (UK hb).1) (fun x=>?_)]
 ·exact h
 ·rw [Zz,zaw hb]
  by_cases hx:0≤x∧x≤top
  ·rw [hk x hx.1 hx.2];simp [hx.1,hx.2]
  ·exact ⟨fun e=>absurd (ZH hr e) hx,fun e=>absurd (ZH ha e.1) hx⟩
def lim (l:List zd):List zd×Bool:=if 40<l.length then ([],false) else (l,true)
theorem Vs {l:List zd} {κ:List zd×Bool→Prop} (h:κ (lim l)):uZ l κ:=by
 unfold uZ
 unfold lim at h
 refine zr (fun hc=>?_) (fun hc=>?_)
 ·rw [if_pos (by have:=of_decide_eq_true hc;omega)] at h;exact h
 ·rw [if_neg (by have:=of_decide_eq_false hc;omega)] at h;exact h
theorem Z4 {a b:List zd} {top:Int} (ha:St a top) (hb:St b top) (h0:-2≤top) (ht:top≤65535) {κ:List zd×Bool→Prop} (h:κ (lim (jd a b))):zz a b top κ:=by
 unfold zz
 exact zc6 ha hb h0 ht (Vs h)
theorem zdn {a b:List zd} {top:Int} (ha:St a top) (hb:St b top) (h0:-2≤top) (ht:top≤65535) {κ:List zd×Bool→Prop} (h:κ (lim (jd a (X9 b top)))):zV a b top κ:=by
 unfold zV
 exact zb0 ha hb h0 ht (Vs h)
theorem ze2 {x:zd}:∀ (b:List zd),(b.flatMap (Xi x)).length≤b.length
 | []=>by simp
 | y :: b=>by
  have:=ze2 (x:=x) b
  have h1:(Xi x y).length≤1:=by unfold Xi;split <;> simp
  simp only [List.flatMap_cons,List.length_append,List.length_cons]
  omega
theorem zgh {a b:List zd} {ta tb:Int} (ha:St a ta) (hb:St b tb) (h0:0≤ta) (ht:ta≤65535) (h1:0≤tb) (hu:tb≤65535) {κ:List zd→Prop} (h:κ (jd a b)):xM a b κ:=by
 have la:=Yt ha (by omega)
 have lb:=Yt hb (by omega)
 have short:∀ k,2 * ((jd (a.take k) b).length:Int)≤ta+2:=fun k =>
  Yt (Xg ⟨⟨fun s hs=>ha.1.1 s (List.mem_of_mem_take hs),ha.1.2.take⟩,fun s hs=>ha.2 s (List.mem_of_mem_take hs)⟩ hb.1) (by omega)
 unfold xM
 refine jb a.length (fun s=>s.2) (fun k s=>s.2=(k:Int)∧k≤a.length∧s.1=jd (a.take k) b) (fun k s h=>h.1) (fun k s h=>h.2.1) ?_ ⟨rfl,Nat.zero_le _,by simp [jd]⟩
 rintro k ⟨xs,t⟩ next ⟨rfl,hk,hx⟩ hn
 simp only at hx
 subst hx
 refine zr (fun hc=>?_) (fun hc=>?_)
 ·have hlt:k<a.length:=by simpa using hc
  have hmem:a[k]∈a:=List.getElem_mem hlt
  have r1:=ha.2 _ hmem
  refine jb b.length (fun s=>s.2) (fun j s=>s.2=(j:Int)∧j≤b.length∧s.1=jd (a.take k) b++(b.take j).flatMap (Xi a[k])) (fun k s h=>h.1) (fun k s h=>h.2.1) ?_ ⟨rfl,Nat.zero_le _,by simp⟩
  rintro j ⟨ys,u⟩ next2 ⟨rfl,hj,hy⟩ hn2
  simp only at hy
  subst hy
  refine zr (fun hd=>?_) (fun hd=>?_)
  ·have hlt2:j<b.length:=by simpa using hd
   have hstep:(b.take (j+1)).flatMap (Xi a[k])=(b.take j).flatMap (Xi a[k])++Xi a[k] b[j]:=by
    rw [List.take_succ_eq_append_getElem hlt2,List.flatMap_append];simp
   have hlen:=ze2 (x:=a[k]) (b.take j)
   have:=short k
   simp only [List.length_take] at hlen
   unfold jnW
   refine zt k rfl hlt (zt j rfl hlt2 (zt k rfl hlt (zt j rfl hlt2 (zr (fun he=>?_) (fun he=>?_)))))
   ·refine jx (by simp only [List.length_append,List.length_singleton];omega) (zG (by omega) (by omega) (hn2 hlt2 _ ⟨by simp,by omega,?_⟩))
    rw [hstep]
    unfold Xi at *
    rw [if_pos (by simpa using he)]
    simp
   ·refine zG (by omega) (by omega) (hn2 hlt2 _ ⟨by simp,by omega,?_⟩)
    rw [hstep]
    have:Xi a[k] b[j]=[]:=by unfold Xi;rw [if_neg (by simpa using he)]
    rw [this];simp
  ·have hge:b.length≤j:=by simpa using hd
   have e:j=b.length:=by omega
   subst e
   refine zG (by omega) (by omega) (hn hlt _ ⟨by simp,by omega,?_⟩)
   have e2:jd (a.take k++[a[k]]) b=jd (a.take k) b++b.flatMap (Xi a[k]):=by simp only [jd,List.flatMap_append,List.flatMap_cons,List.flatMap_nil,List.append_nil]
   show jd (a.take k) b++(b.take b.length).flatMap (Xi a[k])=_
   rw [List.take_succ_eq_append_getElem hlt,e2,List.take_length]
 ·have hge:a.length≤k:=by simpa using hc
  rw [List.take_of_length_le hge];exact h
theorem ze7 {a:List zd} {top:Int} (ha:St a top) (h0:0≤top) (ht:top≤65535) {κ:List zd→Prop} (h:κ (X9 a top)):Z8 a top κ:=by
 have la:=Yt ha (by omega)
 have lo:=Yt (UK ha) (by omega)
 unfold Z8
 refine jb a.length (fun s=>s.2.2) (fun k s=>s.2.2=(k:Int)∧k≤a.length∧s.1++XF (a.drop k) s.2.1 top=X9 a top∧0≤s.2.1∧s.2.1≤65536) (fun k s h=>h.1) (fun k s h=>h.2.1) ?_ ⟨rfl,Nat.zero_le _,by simp [X9],by simp,by simp⟩
 rintro k ⟨xs,c,t⟩ next ⟨rfl,hk,hx,hc0,hc1⟩ hn
 simp only at hx hc0 hc1
 have hlen:xs.length≤(X9 a top).length:=by rw [← hx];simp
 refine zr (fun hc=>?_) (fun hc=>?_)
 ·have hlt:k<a.length:=by simpa using hc
  have hmem:a[k]∈a:=List.getElem_mem hlt
  have r1:=ha.2 _ hmem
  have r2:=ha.1.1 _ hmem
  rw [List.drop_eq_getElem_cons hlt] at hx
  simp only [XF] at hx
  unfold jnW
  refine zt k rfl hlt (zr (fun he=>?_) (fun he=>?_))
  ·rw [if_pos (by simpa using he)] at hx
   refine zt k rfl hlt (yP (by omega) (by omega) (jx (by simp only [List.length_singleton];omega) (zt k rfl hlt (zG (by omega) (by omega) (zG (by omega) (by omega) (hn hlt _ ⟨by simp,by omega,?_,by simp only;omega,by simp only;omega⟩))))))
   simpa [List.append_assoc] using hx
  ·rw [if_neg (by simpa using he)] at hx
   refine zt k rfl hlt (zG (by omega) (by omega) (zG (by omega) (by omega) (hn hlt _ ⟨by simp,by omega,?_,by simp only;omega,by simp only;omega⟩)))
   simpa using hx
 ·have hge:a.length≤k:=by simpa using hc
  rw [List.drop_eq_nil_of_le hge] at hx
  simp only [XF] at hx
  unfold jnW
  refine zr (fun he=>?_) (fun he=>?_)
  ·rw [if_pos (by simpa using he)] at hx
   refine jx (by simp only [List.length_singleton];omega) ?_
   rw [hx];exact h
  ·rw [if_neg (by simpa using he),List.append_nil] at hx
   rw [hx];exact h
def Sm (s:zd):Prop:=-1000000000≤s.xLo∧s.xLo≤1000000000∧-1000000000≤s.xHi∧s.xHi≤1000000000
theorem zgB {l:List zd} {s:zd} (hl:l.length≤1000000000) (hb:∀ x∈l,Sm x) (hs:Sm s) {κ:List zd→Prop} (h:κ (Vj l s)):XV l s κ:=by
 unfold XV
 refine jb l.length (fun s=>s.2.2.2.2) (fun k (st:Int×Int×List zd×Bool×Int)=>st.2.2.2.2=(k:Int)∧k≤l.length∧Uu l s [] false=Uu (l.drop k) (zd.mk st.1 st.2.1) st.2.2.1 st.2.2.2.1∧st.2.2.1.length≤2 * k∧Sm (zd.mk st.1 st.2.1)) (fun k s h=>h.1) (fun k s h=>h.2.1) ?_ ⟨rfl,Nat.zero_le _,by simp,by simp,hs⟩
 rintro k ⟨lo,hi,xs,pl,t⟩ next ⟨rfl,hk,hx,hlen,hsm⟩ hn
 simp only at hx hlen hsm
 obtain ⟨m1,m2,m3,m4⟩:=hsm
 simp only at m1 m2 m3 m4
 refine zr (fun hc=>?_) (fun hc=>?_)
 ·have hlt:k<l.length:=by simpa using hc
  obtain ⟨n1,n2,n3,n4⟩:=hb _ (List.getElem_mem hlt)
  rw [List.drop_eq_getElem_cons hlt] at hx
  simp only [Uu] at hx
  unfold jnW
  refine zt k rfl hlt (zG (by omega) (by omega) (zr (fun he=>?_) (fun he=>?_)))
  ·rw [if_pos (by simpa using he)] at hx
   exact jx (by simp only [List.length_singleton];omega) (zG (by omega) (by omega) (hn hlt _ ⟨by simp,by omega,hx,by simp only [List.length_append,List.length_singleton];omega,m1,m2,m3,m4⟩))
  ·rw [if_neg (by simpa using he)] at hx
   refine zG (by omega) (by omega) (zr (fun hf=>?_) (fun hf=>?_))
   ·rw [if_pos (by simpa using hf)] at hx
    cases pl with
    | false =>
     refine jt (jx (by simp only [List.length_singleton];omega) (jx (by simp only [List.length_append,List.length_singleton];omega) (zG (by omega) (by omega) (hn hlt _ ⟨by simp,by omega,hx,by simp only [List.length_append,List.length_singleton];omega,m1,m2,m3,m4⟩))))
    | true =>
     refine jO (jx (by simp only [List.length_singleton];omega) (zG (by omega) (by omega) (hn hlt _ ⟨by simp,by omega,hx,by simp only [List.length_append,List.length_singleton];omega,m1,m2,m3,m4⟩)))
   ·rw [if_neg (by simpa using hf)] at hx
    exact zG (by omega) (by omega) (hn hlt _ ⟨by simp,by omega,hx,by simp only;omega,by simp only;omega,by simp only;omega,by simp only;omega,by simp only;omega⟩)
 ·have hge:l.length≤k:=by simpa using hc
  rw [List.drop_eq_nil_of_le hge] at hx
  simp only [Uu] at hx
  unfold Vj at h
  rw [hx] at h
  unfold jnW
  cases pl with
  | false=>exact jt (jx (by simp only [List.length_singleton];omega) (by simpa using h))
  | true=>exact jO (by simpa using h)
end
section
open Go.Lib (decDigits)
def B (l:List UInt8):ByteArray:=ByteArray.mk l.toArray
def dg (c:UInt8):Bool:=decide (48≤c.toNat) && decide (c.toNat≤57)
def val (l:List UInt8):Nat:=l.foldl (fun n c=>10 * n+(c.toNat - 48)) 0
def run:Nat→List UInt8→List UInt8
 | 0,_=>[]
 | _,[]=>[]
 | k+1,c :: l=>if dg c then c :: run k l else []
end
section
theorem zfp (e:UInt8):(0:Int)≤(e.toNat:Int)∧(e.toNat:Int)≤255:=by
 have:=e.toNat_lt
 omega
theorem zgz {x y:Int} {κ:Int→Prop} (h1:0≤x) (h2:x<4611686018427387904) (h3:0≤y) (h4:y<4611686018427387904) (h:∀ z,0≤z→z<4611686018427387904→κ z):zhL x y κ:=by
 refine ⟨h1,h2,h3,h4,h _ (by omega) ?_⟩
 have:x.toNat ^^^ y.toNat<2 ^ 62:=Nat.xor_lt_two_pow (by omega) (by omega)
 have e:(2:Nat) ^ 62=4611686018427387904:=by decide
 rw [e] at this
 omega
theorem za6 {x y:Int} {κ:Int→Prop} (h1:0≤x) (h2:x≤9223372036854775807) (h3:0<y) (h:∀ z,0≤z→z<y→κ z):zd6 x y κ :=
 zgX h1 h2 h3 (h _ (Int.emod_nonneg _ (by omega)) (Int.emod_lt_of_pos _ h3))
theorem zeE {x y:Int} {κ:Int→Prop} (h1:0≤x) (h2:x≤9223372036854775807) (h3:0<y) (h:∀ z,0≤z→z≤x→κ z):zf7 x y κ :=
 zgI h1 h2 h3 (h _ (Int.ediv_nonneg h1 (by omega)) (Int.ediv_le_self _ h1))
theorem Yz {α:Type} {xs:List α} {i:Int} {κ:α→Prop} (h1:0≤i) (h2:i<xs.length) (h:∀ x,x∈xs→κ x):zF xs i κ:=by
 obtain ⟨n,rfl⟩:=Int.eq_ofNat_of_zero_le h1
 have hn:n<xs.length:=by omega
 exact zt n rfl hn (h _ (List.getElem_mem hn))
def RdP (b:List UInt8) (p:Int):Prop:=b.length≤2000∧0≤p∧p≤1000000
theorem uG {b:List UInt8} {p n:Int} (hr:RdP b p) {κ:Int×Int→Prop} (h:∀ v,0≤v→(v=0∨v<n)→κ (v,p+1)):zk b p n κ:=by
 obtain ⟨hb,h0,h1⟩:=hr
 unfold zk jnW
 have hz:κ (0,p+1):=h 0 (Int.le_refl _) (.inl rfl)
 refine zG (by omega) (by omega) (zr (fun hc=>?_) (fun hc=>zr (fun hc2=>?_) (fun hc2=>?_)))
 ·simp only [YA];exact hz
 ·exact hz
 ·simp at hc hc2
  have hpos:0<(b.length:Int):=by
   cases b with
   | nil=>simp at hc2
   | cons x l=>simp
  refine yP (by omega) (by omega) ?_
  have ep:p+1 - 1=p:=by omega
  rw [ep]
  refine zr (fun hc3=>?_) (fun hc3=>?_)
  ·simp at hc3
   refine Yz h0 hc3 (fun e _=>?_)
   have:=zfp e
   exact za6 (by omega) (by omega) (by omega) (fun z z1 z2=>h z z1 (.inr z2))
  ·refine za6 h0 (by omega) hpos (fun z z1 z2=>Yz z1 z2 (fun e _=>?_))
   have he:=zfp e
   refine VM (by omega) (by omega) (VM (by omega) (by omega) (zG (by omega) (by omega) (za6 (by omega) (by omega) hpos (fun y y1 y2=>Yz y1 y2 (fun d _=>?_)))))
   have hd:=zfp d
   refine VM (by omega) (by omega) (zG (by omega) (by omega) (VM (by omega) (by omega) (zG (by omega) (by omega) (zeE (by omega) (by omega) hpos (fun q q1 q2=>?_)))))
   refine VM (by omega) (by omega) (zG (by omega) (by omega) (zeE (by omega) (by omega) (by omega) (fun r r1 r2=>?_)))
   exact zgz (by omega) (by omega) (by omega) (by omega) (fun x x1 x2=>za6 x1 (by omega) (by omega) (fun z z1 z2=>h z z1 (.inr z2)))
theorem zio {b:List UInt8} {p n:Int} (hr:RdP b p) (hn:n≤4294967296) {κ:Bool×Int→Prop} (h:∀ c p',p≤p'→p'≤p+1→κ (c,p')):jD b p n κ:=by
 unfold jD jnW
 refine zr (fun hc=>uG hr (fun v v1 v2=>yP (by simp at hc;omega) (by simp at hc;omega) (h _ _ (by omega) (by omega)))) (fun hc=>h _ _ (by omega) (by omega))
theorem zfl {c:List UInt8} {κ:List UInt8×Int→Prop} (h:∀ b,b.length≤2000→κ (b,0)):Xc c κ:=by
 unfold Xc jnW
 refine zr (fun hc=>?_) (fun hc=>?_)
 ·simp at hc
  refine ⟨by omega,by omega,by omega,h _ (by simp;omega)⟩
 ·simp at hc
  exact h _ (by omega)
theorem VJ {κ:Bool→Prop} (h:κ true):Zr κ:=by
 unfold Zr Xy
 refine Zo (fun s=>s=0) (fun s=>0) ?_ rfl
 rintro s next rfl hn
 refine zr (fun _=>zt 0 rfl (by simp) ?_) (fun hc=>by simp at hc)
 simp [jnW]
 exact h
end
section
open Go.Lib (decDigits)
def cut (c:UInt8):List UInt8→List UInt8×List UInt8
 | []=>([],[])
 | d :: l=>if d=c then ([],l) else (d :: (cut c l).1,(cut c l).2)
end
section
open Go.Lib (decDigits)
theorem Uh {n lo hi:Int} {κ:Bool→Prop} (h:κ (decide (lo≤n∧n≤hi))):uv n lo hi κ:=by
 unfold uv jnW
 refine zr (fun hc=>?_) (fun hc=>?_)
 ·simp at hc;simpa [hc] using h
 ·simp at hc
  have:decide (lo≤n∧n≤hi)=false:=by simp;omega
  rw [this] at h;exact h
end
section
open Go.Lib (decDigits)
theorem zfc {x:Int} (h1:-100≤x) (h2:x≤100):w64 x=x:=by
 simp [w64,IntKind.wrap,IntKind.signed,IntKind.bits];omega
theorem ziO {α:Type} {x a b c:α} (h:x∈[a,b,c]):x=a∨x=b∨x=c:=by simpa using h
theorem RdP.step {b:List UInt8} {p p':Int} {m:Int} (h:RdP b p) (h1:p≤p') (h2:p'≤1000000):RdP b p':=⟨h.1,by have:=h.2.1;omega,h2⟩
end
section
open Go.Lib (decDigits)
def top (f:Int):Int:=if f=0∨f=1 then 65535 else if f=2 then 255 else 7
theorem X5 (f:Int):7≤top f∧top f≤65535:=by unfold top;repeat' split;all_goals omega
def nm (f:Int):List UInt8:=if f=0 then [102,114,111,109] else if f=1 then [116,111] else if f=2 then [112,111,114,116] else [112,114,111,116,111]
def TV (t:zI):Prop:=0≤t.xField∧t.xField≤3∧0≤t.xLo∧t.xLo≤t.xHi∧t.xHi≤top t.xField
instance (t:zI):Decidable (TV t):=by unfold TV;infer_instance
def rtx (t:zI):List UInt8:=decDigits t.xLo.toNat++(if t.xHi=t.xLo then [] else 45 :: decDigits t.xHi.toNat)
def btx (t:zI):List UInt8:=nm t.xField++32 :: rtx t
def ttx (t:zI):List UInt8:=if t.xNot then 110 :: 111 :: 116 :: 32 :: btx t else btx t
theorem zcd {f:Int} (h0:0≤f) (h1:f≤3):f=0∨f=1∨f=2∨f=3:=by omega
theorem zet {n:Int} {κ:yW→Prop} (h0:0≤n) (h1:n≤3) (h:∀ e:yW,e.xName=B (nm n)→e.xTop=top n→κ e):zF zC n κ:=by
 rcases zcd h0 h1 with rfl | rfl | rfl | rfl
 ·exact zt 0 rfl (by decide) (h _ rfl rfl)
 ·exact zt 1 rfl (by decide) (h _ rfl rfl)
 ·exact zt 2 rfl (by decide) (h _ rfl rfl)
 ·exact zt 3 rfl (by decide) (h _ rfl rfl)
theorem xl {n:Int} {κ:Int→Prop} (h0:0≤n) (h1:n≤3) (h:κ (top n)):xc n κ:=by
 unfold xc jnW
 rcases zcd h0 h1 with rfl | rfl | rfl | rfl <;> simpa [top] using h
theorem Y0 {n:Int} {κ:Int→Prop} (h:κ (if 0≤n∧n≤3 then top n else -1)):zD n κ:=by
 unfold zD jnW
 refine zr (fun hc=>?_) (fun hc=>zr (fun hc2=>?_) (fun hc2=>?_))
 ·simp at hc;rw [if_neg (by omega)] at h;simpa using h
 ·simp at hc hc2;rw [if_neg (by omega)] at h;exact h
 ·simp at hc hc2;rw [if_pos (by omega)] at h
  exact zet (by omega) (by omega) (fun e _ he=>by rw [he];exact h)
theorem YC {t:zI} {κ:Bool→Prop} (h:κ (decide (TV t))):yc t κ:=by
 unfold yc jnW
 refine Uh (zr (fun hc=>?_) (fun hc=>?_))
 ·simp at hc
  refine Uh (zr (fun hc2=>?_) (fun hc2=>?_))
  ·simp at hc2
   refine xl hc.1 hc.2 ?_
   rw [show decide (t.xHi≤top t.xField)=decide (TV t) from decide_eq_decide.2 ⟨fun hh=>⟨hc.1,hc.2,hc2.1,hc2.2,hh⟩,fun hh=>hh.2.2.2.2⟩]
   exact h
  ·simp at hc2
   rw [decide_eq_false (fun hh:TV t=>by obtain ⟨a1,a2,a3,a4,_⟩:=hh;omega)] at h;exact h
 ·simp at hc
  rw [decide_eq_false (fun hh:TV t=>by obtain ⟨a1,a2,a3,a4,_⟩:=hh;omega)] at h;exact h
theorem zah {t:zI} {κ:Bool→Prop} (h:κ (decide (TV t))):Zk t κ:=by
 unfold Zk jnW
 have no:¬ (0≤t.xField∧t.xField<4∧0≤t.xLo∧t.xLo≤t.xHi)→κ false:=fun hn=>by
  rw [decide_eq_false (fun hh:TV t=>by obtain ⟨a1,a2,a3,a4,_⟩:=hh;omega)] at h;exact h
 refine zr (fun hc=>zr (fun hc2=>zr (fun hc3=>zr (fun hc4=>?_) (fun hc4=>no (by simp at hc4;omega))) (fun hc3=>no (by simp at hc3;omega))) (fun hc2=>no (by simp at hc2;omega))) (fun hc=>no (by simp at hc;omega))
 simp at hc hc2 hc3 hc4
 refine Y0 ?_
 rw [if_pos ⟨hc,by omega⟩]
 rw [show decide (t.xHi≤top t.xField)=decide (TV t) from decide_eq_decide.2 ⟨fun hh=>⟨hc,by omega,hc3,hc4,hh⟩,fun hh=>hh.2.2.2.2⟩]
 exact h
end
section
open Go Go.Proofs
def yr (a b:List zd):Int×Bool :=
 match jd a b with
 | []=>(0,false)
 | s :: _=>(s.xLo,true)
theorem zfi {a b:List zd} (ha:NF a) (hb:NF b) {v:Int} (h1:hv a v) (h2:hv b v) (h3:∀ x,hv a x→hv b x→v≤x):yr a b=(v,true):=by
 have hm:=VN ha hb
 unfold yr
 have hv0:=(Zz a b v).2 ⟨h1,h2⟩
 have hall:∀ x,hv (jd a b) x→v≤x:=fun x hx=>by
  obtain ⟨e1,e2⟩:=(Zz a b x).1 hx
  exact h3 x e1 e2
 generalize jd a b=m at hm hv0 hall
 cases m with
 | nil=>exact absurd hv0 (ug v)
 | cons s m =>
  have e1:=hall s.xLo ((xd _ _ _).2 (.inl ⟨Int.le_refl _,hm.1 s (by simp)⟩))
  have e2:=VY hm hv0
  simp only [Prod.mk.injEq,and_true]
  omega
theorem zdj {a b:List zd} (h:∀ x,hv a x→hv b x→False) (ha:NF a) (hb:NF b):yr a b=(0,false):=by
 unfold yr
 have hm:=VN ha hb
 have hall:∀ x,¬ hv (jd a b) x:=fun x hx=>by
  obtain ⟨e1,e2⟩:=(Zz a b x).1 hx
  exact h x e1 e2
 generalize jd a b=m at hm hall
 cases m with
 | nil=>rfl
 | cons s m=>exact absurd ((xd s m s.xLo).2 (.inl ⟨Int.le_refl _,hm.1 s (by simp)⟩)) (hall _)
theorem ze4 {a:List zd} {i:Nat} (h:i<a.length) (x:Int):hv (a.drop i) x↔(a[i].xLo≤x∧x≤a[i].xHi)∨hv (a.drop (i+1)) x:=by
 rw [List.drop_eq_getElem_cons h,xd]
theorem UU {a:List zd} {i:Nat} (hn:NF a) (h:i<a.length) {x:Int} (hx:hv (a.drop i) x):a[i].xLo≤x:=by
 have:=VH i hn
 rw [List.drop_eq_getElem_cons h] at this hx
 exact VY this hx
theorem XD {a b:List zd} {ta tb:Int} (ha:St a ta) (hb:St b tb) (h0:0≤ta) (ht:ta≤65535) (h1:0≤tb) (hu:tb≤65535) {κ:Int×Bool→Prop} (h:κ (yr a b)):xU a b κ:=by
 have la:=Yt ha (by omega)
 have lb:=Yt hb (by omega)
 unfold xU
 refine Zo (fun (s:Int×Int)=>∃ i j:Nat,s.1=i∧s.2=j∧i≤a.length∧j≤b.length∧∀ x,hv a x→hv b x→hv (a.drop i) x∧hv (b.drop j) x) (fun s=>(a.length+b.length - s.1 - s.2).toNat) ?_ ⟨0,0,rfl,rfl,Nat.zero_le _,Nat.zero_le _,fun x q1 q2=>⟨by simpa using q1,by simpa using q2⟩⟩
 rintro ⟨_,_⟩ next ⟨i,j,rfl,rfl,hi,hj,hx⟩ hn
 simp only at hn ⊢
 unfold jnW
 have none:(i=a.length∨j=b.length)→κ (0,false):=fun hh=>by
  rw [zdj (fun x q1 q2=>?_) ha.1 hb.1] at h
  ·exact h
  ·obtain ⟨r1,r2⟩:=hx x q1 q2
   rcases hh with e | e
   ·subst e;rw [List.drop_length] at r1;exact ug x r1
   ·subst e;rw [List.drop_length] at r2;exact ug x r2
 refine zr (fun hc=>?_) (fun hc=>?_)
 rotate_left 1
 ·have:a.length≤i:=by simpa using hc
  exact jO (none (.inl (by omega)))
 have hi2:i<a.length:=by simpa using hc
 refine zr (fun hd=>?_) (fun hd=>?_)
 rotate_left 1
 ·have:b.length≤j:=by simpa using hd
  exact none (.inr (by omega))
 have hj2:j<b.length:=by simpa using hd
 have a1:=ha.1.1 _ (List.getElem_mem hi2)
 have b1:=hb.1.1 _ (List.getElem_mem hj2)
 have ma:hv a a[i].xLo∧hv a a[i].xHi:=za3 ha.1 (List.getElem_mem hi2)
 have mb:hv b b[j].xLo∧hv b b[j].xHi:=za3 hb.1 (List.getElem_mem hj2)
 refine zt i rfl hi2 (zt j rfl hj2 (zt i rfl hi2 (zt j rfl hj2 (zr (fun he=>?_) (fun he=>?_)))))
 ·have he':max a[i].xLo b[j].xLo≤min a[i].xHi b[j].xHi:=by simpa using he
  rw [zfi ha.1 hb.1 (v:=max a[i].xLo b[j].xLo) ⟨a[i],List.getElem_mem hi2,by omega,by omega⟩ ⟨b[j],List.getElem_mem hj2,by omega,by omega⟩ (fun x q1 q2=>?_)] at h
  ·exact h
  ·obtain ⟨r1,r2⟩:=hx x q1 q2
   have:=UU ha.1 hi2 r1
   have:=UU hb.1 hj2 r2
   omega
 ·have he':¬ max a[i].xLo b[j].xLo≤min a[i].xHi b[j].xHi:=by simpa using he
  refine zt i rfl hi2 (zt j rfl hj2 (zr (fun hf=>?_) (fun hf=>?_)))
  ·have hf':a[i].xHi<b[j].xHi:=by simpa using hf
   refine zG (by omega) (by omega) (hn _ ⟨i+1,j,by simp,rfl,by omega,hj,fun x q1 q2=>?_⟩ (by simp only;omega))
   obtain ⟨r1,r2⟩:=hx x q1 q2
   refine ⟨?_,r2⟩
   rcases (ze4 hi2 x).1 r1 with e | e
   ·have:=UU hb.1 hj2 r2;omega
   ·exact e
  ·have hf':¬ a[i].xHi<b[j].xHi:=by simpa using hf
   refine zG (by omega) (by omega) (hn _ ⟨i,j+1,rfl,by simp,hi,by omega,fun x q1 q2=>?_⟩ (by simp only;omega))
   obtain ⟨r1,r2⟩:=hx x q1 q2
   refine ⟨r1,?_⟩
   rcases (ze4 hj2 x).1 r2 with e | e
   ·have:=UU ha.1 hi2 r1;omega
   ·exact e
def B4 (a:za):Prop:=St a.x0 65535∧St a.x1 65535∧St a.x2 255∧St a.x3 7
def F4 (a:za):Prop:=a.x0.length≤40∧a.x1.length≤40∧a.x2.length≤40∧a.x3.length≤40
instance (a:za):Decidable (F4 a):=by unfold F4;infer_instance
def zfb:za:=⟨[],[],[],[]⟩
def ut (a b:za):za:=⟨jd a.x0 b.x0,jd a.x1 b.x1,jd a.x2 b.x2,jd a.x3 b.x3⟩
theorem zbF {a b:za} (ha:B4 a) (hb:B4 b):B4 (ut a b):=⟨Xg ha.1 hb.1.1,Xg ha.2.1 hb.2.1.1,Xg ha.2.2.1 hb.2.2.1.1,Xg ha.2.2.2 hb.2.2.2.1⟩
def em4 (a:za):Bool:=decide (a.x0=[]∨a.x1=[]∨a.x2=[]∨a.x3=[])
def zf9 (a:za):za×Bool:=if F4 a then (a,true) else (zfb,false)
def Yv:za:=⟨[⟨0,65535⟩],[⟨0,65535⟩],[⟨0,255⟩],[⟨0,7⟩]⟩
theorem UH:B4 Yv:=by refine ⟨?_,?_,?_,?_⟩ <;> exact ⟨X0 (by decide),fun s hs=>by simp only [Yv,List.mem_singleton] at hs;subst hs;decide⟩
theorem zbE {a:za} {κ:Bool→Prop} (h:κ (em4 a)):uk a κ:=by
 obtain ⟨x0,x1,x2,x3⟩:=a
 simp only [em4] at h
 unfold uk
 refine ⟨5,?_⟩
 refine jt (zt 0 rfl (by simp) (zr (fun e=>?_) (fun e=>zG (by decide) (by decide) ?_)))
 ·have:x0=[]:=by simpa using e
  subst this;simpa using h
 have e0:x0≠[]:=by simpa using e
 refine jt (zt 1 rfl (by simp) (zr (fun e=>?_) (fun e=>zG (by decide) (by decide) ?_)))
 ·have:x1=[]:=by simpa using e
  subst this;simpa using h
 have e1:x1≠[]:=by simpa using e
 refine jt (zt 2 rfl (by simp) (zr (fun e=>?_) (fun e=>zG (by decide) (by decide) ?_)))
 ·have:x2=[]:=by simpa using e
  subst this;simpa using h
 have e2:x2≠[]:=by simpa using e
 refine jt (zt 3 rfl (by simp) (zr (fun e=>?_) (fun e=>zG (by decide) (by decide) ?_)))
 ·have:x3=[]:=by simpa using e
  subst this;simpa using h
 have e3:x3≠[]:=by simpa using e
 refine jO ?_
 simpa [e0,e1,e2,e3] using h
theorem yJ {n:Int} {κ:Int→Prop} (h0:0≤n) (h1:n≤3) (h:κ (top n)):zD n κ:=Y0 (by rw [if_pos ⟨h0,h1⟩];exact h)
theorem zg7 {a b:za} (ha:B4 a) (hb:B4 b) {κ:za×Bool→Prop} (h:κ (zf9 (ut a b))):yK a b κ:=by
 obtain ⟨a0,a1,a2,a3⟩:=a
 obtain ⟨b0,b1,b2,b3⟩:=b
 obtain ⟨p0,p1,p2,p3⟩:=ha
 obtain ⟨q0,q1,q2,q3⟩:=hb
 simp only at p0 p1 p2 p3 q0 q1 q2 q3
 have hT:(jd a0 b0).length≤40→(jd a1 b1).length≤40→(jd a2 b2).length≤40→(jd a3 b3).length≤40→κ (⟨jd a0 b0,jd a1 b1,jd a2 b2,jd a3 b3⟩,true):=fun e0 e1 e2 e3=>by
  have:zf9 (ut ⟨a0,a1,a2,a3⟩ ⟨b0,b1,b2,b3⟩)=(ut ⟨a0,a1,a2,a3⟩ ⟨b0,b1,b2,b3⟩,true):=if_pos ⟨e0,e1,e2,e3⟩
  rw [this] at h;exact h
 have hF:¬ ((jd a0 b0).length≤40∧(jd a1 b1).length≤40∧(jd a2 b2).length≤40∧(jd a3 b3).length≤40)→κ (zfb,false):=fun e=>by
  have:zf9 (ut ⟨a0,a1,a2,a3⟩ ⟨b0,b1,b2,b3⟩)=(zfb,false):=if_neg e
  rw [this] at h;exact h
 clear h
 unfold yK
 refine ⟨5,?_⟩
 refine jt ?_
 unfold jnW
 refine zt 0 rfl (by simp) (zt 0 rfl (by simp) (yJ (n:=(0:Int)) (by decide) (by decide) (Z4 (top:=top 0) p0 q0 (by decide) (by decide) ?_)))
 unfold lim
 by_cases c0:40<(jd a0 b0).length
 ·simp only [List.getElem_cons_zero,c0,if_true]
  exact jt (hF (by omega))
 simp only [List.getElem_cons_zero,c0,if_false]
 refine jO (zt 0 rfl (by simp) (zG (by decide) (by decide) ?_))
 refine jt ?_
 refine zt 1 rfl (by simp) (zt 1 rfl (by simp) (yJ (n:=(1:Int)) (by decide) (by decide) (Z4 (top:=top 1) p1 q1 (by decide) (by decide) ?_)))
 unfold lim
 by_cases c1:40<(jd a1 b1).length
 ·simp only [List.getElem_cons_zero,List.getElem_cons_succ,c1,if_true]
  exact jt (hF (by omega))
 simp only [List.getElem_cons_zero,List.getElem_cons_succ,c1,if_false]
 refine jO (zt 1 rfl (by simp) (zG (by decide) (by decide) ?_))
 refine jt ?_
 refine zt 2 rfl (by simp) (zt 2 rfl (by simp) (yJ (n:=(2:Int)) (by decide) (by decide) (Z4 (top:=top 2) p2 q2 (by decide) (by decide) ?_)))
 unfold lim
 by_cases c2:40<(jd a2 b2).length
 ·simp only [List.getElem_cons_zero,List.getElem_cons_succ,c2,if_true]
  exact jt (hF (by omega))
 simp only [List.getElem_cons_zero,List.getElem_cons_succ,c2,if_false]
 refine jO (zt 2 rfl (by simp) (zG (by decide) (by decide) ?_))
 refine jt ?_
 refine zt 3 rfl (by simp) (zt 3 rfl (by simp) (yJ (n:=(3:Int)) (by decide) (by decide) (Z4 (top:=top 3) p3 q3 (by decide) (by decide) ?_)))
 unfold lim
 by_cases c3:40<(jd a3 b3).length
 ·simp only [List.getElem_cons_zero,List.getElem_cons_succ,c3,if_true]
  exact jt (hF (by omega))
 simp only [List.getElem_cons_zero,List.getElem_cons_succ,c3,if_false]
 refine jO (zt 3 rfl (by simp) (zG (by decide) (by decide) ?_))
 refine jO ?_
 exact ⟨_,_,_,_,rfl,hT (by omega) (by omega) (by omega) (by omega)⟩
end
section
open Go.Lib (decDigits)
def zig (r:List UInt8):Prop:=∀ c m,r=c :: m→c=44
theorem zig.dg {r:List UInt8} (h:zig r):∀ c m,r=c :: m→dg c=false:=fun c m e=>by rw [h c m e];decide
end
section
open Go.Lib (decDigits)
def aw (a:Int):List UInt8:=if a=1 then [97,99,99,101,112,116] else if a=2 then [100,114,111,112] else if a=3 then [99,97,108,108] else if a=4 then [114,101,116,117,114,110] else [110,111,110,101]
def TsV (ts:List zI):Prop:=(∀ t,t∈ts→TV t)∧ts.length≤6
instance (ts:List zI):Decidable (TsV ts):=by unfold TsV;infer_instance
def HV (a c:Int):Prop:=1≤a∧a≤5∧(a=3→0≤c∧c≤4)∧(a≠3→c=0)
instance (a c:Int):Decidable (HV a c):=by unfold HV;infer_instance
def RV (r:zK):Prop:=TsV r.xTests∧HV r.xAction r.xChain
instance (r:zK):Decidable (RV r):=by unfold RV;infer_instance
def hd (a c:Int):List UInt8:=aw a++(if a=3 then 32 :: decDigits c.toNat else [])
def tl (ts:List zI):List UInt8:=ts.flatMap (fun t=>44 :: 32 :: ttx t)
def ziK (r:zK):List UInt8:=hd r.xAction r.xChain++tl r.xTests
theorem Vu {ts:List zI} {κ:Bool→Prop} (hl:ts.length≤4294967296) (h:κ (decide (TsV ts))):yN ts κ:=by
 unfold yN
 refine jb ts.length (fun s=>s) (fun k s=>s=(k:Int)∧k≤ts.length∧∀ t,t∈ts.take k→TV t) (fun k s h=>h.1) (fun k s h=>h.2.1) ?_ ⟨rfl,Nat.zero_le _,by simp⟩
 rintro k _ next ⟨rfl,hk,he⟩ hn
 refine zr (fun hc=>?_) (fun hc=>?_)
 ·have hlt:k<ts.length:=by simpa using hc
  refine zt k rfl hlt (YC (zr (fun hc2=>?_) (fun hc2=>?_)))
  ·simp at hc2
   rw [decide_eq_false (fun hh:TsV ts=>hc2 (hh.1 _ (List.getElem_mem hlt)))] at h;exact h
  ·simp at hc2
   refine zG (by omega) (by omega) (hn hlt _ ⟨by omega,by omega,fun t ht=>?_⟩)
   rw [List.take_succ_eq_append_getElem hlt] at ht
   rcases List.mem_append.1 ht with ht | ht
   ·exact he t ht
   ·rw [List.mem_singleton] at ht;subst ht;exact hc2
 ·have hge:ts.length≤k:=by simpa using hc
  rw [List.take_of_length_le hge] at he
  rw [show decide ((ts.length:Int)≤6)=decide (TsV ts) from decide_eq_decide.2 ⟨fun hh=>⟨he,by omega⟩,fun hh=>by have:=hh.2;omega⟩]
  exact h
theorem VC {ts:List zI} {κ:Bool→Prop} (hl:ts.length≤4294967296) (h:κ (decide (TsV ts))):yL ts κ:=by
 unfold yL
 refine zr (fun hc=>?_) (fun hc=>?_)
 ·rw [decide_eq_false (fun hh:TsV ts=>by have:=hh.2;simp at hc;omega)] at h;exact h
 simp at hc
 refine jb ts.length (fun s=>s) (fun k s=>s=(k:Int)∧k≤ts.length∧∀ t,t∈ts.take k→TV t) (fun k s h=>h.1) (fun k s h=>h.2.1) ?_ ⟨rfl,Nat.zero_le _,by simp⟩
 rintro k _ next ⟨rfl,hk,he⟩ hn
 refine zr (fun hc=>?_) (fun hc=>?_)
 ·have hlt:k<ts.length:=by simpa using hc
  refine zt k rfl hlt (zah (zr (fun hc2=>?_) (fun hc2=>?_)))
  ·simp at hc2
   rw [decide_eq_false (fun hh:TsV ts=>hc2 (hh.1 _ (List.getElem_mem hlt)))] at h;exact h
  ·simp at hc2
   refine zG (by omega) (by omega) (hn hlt _ ⟨by omega,by omega,fun t ht=>?_⟩)
   rw [List.take_succ_eq_append_getElem hlt] at ht
   rcases List.mem_append.1 ht with ht | ht
   ·exact he t ht
   ·rw [List.mem_singleton] at ht;subst ht;exact hc2
 ·have hge:ts.length≤k:=by simpa using hc
  rw [List.take_of_length_le hge] at he
  rw [show decide (TsV ts)=true from decide_eq_true ⟨he,by omega⟩] at h;exact h
theorem zap {r:zK} {κ:Bool→Prop} (hl:r.xTests.length≤4294967296) (h:κ (decide (RV r))):Zq r κ:=by
 have no:¬ RV r→κ false:=fun hn=>by rw [decide_eq_false hn] at h;exact h
 unfold Zq jnW
 refine VC hl (zr (fun h1=>no (fun hh=>by simp [hh.1] at h1)) (fun h1=>?_))
 simp at h1
 refine zr (fun h3=>?_) (fun h3=>?_)
 ·simp at h3
  refine zr (fun h4=>?_) (fun h4=>no (fun hh=>by have:=hh.2.2.2.1 h3;simp at h4;omega))
  simp at h4
  rw [show decide (r.xChain<5)=decide (RV r) from decide_eq_decide.2 ⟨fun hh=>⟨h1,by omega,by omega,fun _=>⟨h4,by omega⟩,fun e=>absurd h3 e⟩,fun hh=>by have:=hh.2.2.2.1 h3;omega⟩]
  exact h
 ·simp at h3
  have yes:1≤r.xAction→r.xAction≤5→κ (decide (r.xChain=0)):=fun a1 a2=>by
   rw [show decide (r.xChain=0)=decide (RV r) from decide_eq_decide.2 ⟨fun hh=>⟨h1,a1,a2,fun e=>absurd e h3,fun _=>hh⟩,fun hh=>hh.2.2.2.2 h3⟩]
   exact h
  by_cases e1:r.xAction=1
  ·simp only [e1,decide_true,YA];exact yes (by omega) (by omega)
  by_cases e2:r.xAction=2
  ·simp only [e2,decide_true,YA];exact zr (fun e=>by simp at e) (fun _=>yes (by omega) (by omega))
  by_cases e4:r.xAction=4
  ·simp only [e4,decide_true,YA]
   exact zr (fun e=>by simp at e) (fun _=>zr (fun e=>by simp at e) (fun _=>yes (by omega) (by omega)))
  by_cases e5:r.xAction=5
  ·simp only [e5,decide_true,YA]
   exact zr (fun e=>by simp at e) (fun _=>zr (fun e=>by simp at e) (fun _=>zr (fun e=>by simp at e) (fun _=>yes (by omega) (by omega))))
  simp only [e1,e2,e4,e5,decide_false,zcq]
  exact no (fun hh=>by have:=hh.2.1;have:=hh.2.2.1;omega)
end
section
open Go.Lib (decDigits)
theorem zb9 {r:zK} {κ:Bool→Prop} (hl:r.xTests.length≤4294967296) (h:κ true):ZX r r κ:=by
 unfold ZX jnW
 refine zr (fun hc=>by simp at hc) (fun _=>?_)
 refine jb r.xTests.length (fun s=>s) (fun k s=>s=(k:Int)∧k≤r.xTests.length) (fun k s h=>h.1) (fun k s h=>h.2) ?_ ⟨rfl,Nat.zero_le _⟩
 rintro k _ next ⟨rfl,hk⟩ hn
 refine zr (fun hc=>?_) (fun hc=>?_)
 ·have hlt:k<r.xTests.length:=by simpa using hc
  refine zt k rfl hlt (zt k rfl hlt (zr (fun hc=>by simp at hc) (fun _=>zG (by omega) (by omega) (hn hlt _ ⟨by omega,by omega⟩))))
 ·simpa using h
end
section
def Ca (cs:List (List zK)) (i j:Nat):Prop:=∃ c,cs[i]?=some c∧∃ r,r∈c∧r.xAction=3∧r.xChain=(j:Int)
def Sf (cs:List (List zK)) (i:Nat):Prop:=Acc (fun j i=>Ca cs i j) i
theorem zfx {cs:List (List zK)} {i:Nat} (h:∀ j,Ca cs i j→Sf cs j):Sf cs i:=Acc.intro _ h
inductive Wy (cs:List (List zK)):Nat→Nat→Prop
 | one {i j:Nat}:Ca cs i j→Wy cs i j
 | more {i j k:Nat}:Wy cs i j→Ca cs j k→Wy cs i k
theorem zgp {cs:List (List zK)} {i k:Nat} (w:Wy cs i k):∃ j,Ca cs i j∧(j=k∨Wy cs j k):=by
 induction w with
 | one h=>exact ⟨_,h,.inl rfl⟩
 | more _ h ih =>
  obtain ⟨j,h1,h2⟩:=ih
  rcases h2 with rfl | h2
  ·exact ⟨_,h1,.inr (.one h)⟩
  ·exact ⟨_,h1,.inr (.more h2 h)⟩
theorem zeC {cs:List (List zK)} {i:Nat} (hs:Sf cs i):¬ Wy cs i i:=by
 induction hs with
 | intro x _ ih =>
  intro w
  obtain ⟨j,h1,h2⟩:=zgp w
  rcases h2 with rfl | h2
  ·exact ih _ h1 w
  ·exact ih j h1 (.more h2 h1)
def Tg (cs:List (List zK)):Prop:=cs.length≤5∧∀ c,c∈cs→(c.length≤8∧∀ r,r∈c→RV r∧r.xChain<cs.length)
def Tw (cs:List (List zK)):Prop:=cs.length≤5∧∀ c,c∈cs→(c.length≤8∧∀ r,r∈c→RV r)
theorem Tg.w {cs:List (List zK)} (h:Tg cs):Tw cs:=⟨h.1,fun c hc=>⟨(h.2 c hc).1,fun r hr=>((h.2 c hc).2 r hr).1⟩⟩
theorem zhV {cs:List (List zK)} {j:Nat} (h:cs.length≤j):Sf cs j:=zfx (fun i ⟨c,h1,_⟩=>by have:=(List.getElem?_eq_some_iff.1 h1).1;omega)
theorem zck {rules:List zK} {κ:List Int→Prop} (hl:rules.length≤8) (hv:∀ r,r∈rules→RV r) (h:∀ ys:List Int,ys.length≤5→(∀ x,x∈ys↔∃ r,r∈rules∧r.xAction=3∧r.xChain=x)→κ ys):Ze rules κ:=by
 unfold Ze
 refine jb rules.length (fun s=>s.2) (fun k s=>s.2=(k:Int)∧k≤rules.length∧s.1.length=5∧∀ i:Nat,i<5→(s.1[i]?=some true↔∃ r,r∈rules.take k∧r.xAction=3∧r.xChain=(i:Int))) (fun k s h=>h.1) (fun k s h=>h.2.1) ?_ ⟨rfl,Nat.zero_le _,rfl,fun i hi=>?_⟩
 ·rintro k ⟨xs,_⟩ next ⟨rfl,hk,hx,he⟩ hn
  simp only at hx he
  refine zr (fun hc=>?_) (fun hc=>?_)
  ·have hlt:k<rules.length:=by simpa using hc
   have hrv:=hv _ (List.getElem_mem hlt)
   have htk:∀ r,r∈rules.take (k+1)↔r∈rules.take k∨r=rules[k]:=fun r=>by
    rw [List.take_succ_eq_append_getElem hlt,List.mem_append,List.mem_singleton]
   unfold jnW
   refine zt k rfl hlt (zr (fun h3=>?_) (fun h3=>?_))
   ·simp at h3
    have hch:=hrv.2.2.2.1 h3
    obtain ⟨m,hm⟩:=Int.eq_ofNat_of_zero_le hch.1
    refine Yz hch.1 (by rw [hx];omega) (fun _ _=>zG (by omega) (by omega) (hn hlt _ ⟨by simp,by omega,by simpa using hx,fun i hi=>?_⟩))
    simp only [htk]
    rw [hm,Int.toNat_natCast]
    by_cases e:i=m
    ·subst e
     simp only [List.getElem?_set_self (show i<xs.length by omega),true_iff]
     exact ⟨_,.inr rfl,h3,hm⟩
    ·rw [List.getElem?_set_ne (by omega),he i hi]
     constructor
     ·rintro ⟨r,h1,h2⟩;exact ⟨r,.inl h1,h2⟩
     ·rintro ⟨r,h1 | rfl,h2,h4⟩
      ·exact ⟨r,h1,h2,h4⟩
      ·omega
   ·simp at h3
    refine zG (by omega) (by omega) (hn hlt _ ⟨by simp,by omega,hx,fun i hi=>?_⟩)
    simp only [htk]
    rw [he i hi]
    constructor
    ·rintro ⟨r,h1,h2⟩;exact ⟨r,.inl h1,h2⟩
    ·rintro ⟨r,h1 | rfl,h2,h4⟩
     ·exact ⟨r,h1,h2,h4⟩
     ·exact absurd h2 h3
  ·have hge:rules.length≤k:=by simpa using hc
   rw [List.take_of_length_le hge] at he
   obtain ⟨e0,e1,e2,e3,e4,rfl⟩:∃ a b c d e,xs=[a,b,c,d,e]:=by
    match xs,hx with
    | [a,b,c,d,e],_=>exact ⟨a,b,c,d,e,rfl⟩
   refine ⟨e0,e1,e2,e3,e4,rfl,?_⟩
   refine jb 5 (fun s=>s.2) (fun j s=>s.2=(j:Int)∧j≤5∧s.1.length≤j∧∀ x,x∈s.1↔∃ i:Nat,i<j∧x=(i:Int)∧[e0,e1,e2,e3,e4][i]?=some true) (fun j s h=>h.1) (fun j s h=>h.2.1) ?_ ⟨rfl,Nat.zero_le _,by simp,by simp⟩
   rintro j ⟨ys,_⟩ next2 ⟨rfl,hj,hyl,hy⟩ hn2
   simp only at hyl hy
   refine zr (fun hc2=>?_) (fun hc2=>?_)
   ·have hj5:j<5:=by simp at hc2;omega
    have hjl:j<[e0,e1,e2,e3,e4].length:=by simpa using hj5
    unfold jnW
    refine zt j rfl hjl (zr (fun h3=>?_) (fun h3=>?_))
    ·refine jx (by simp;omega) (zG (by omega) (by omega) (hn2 hj5 _ ⟨by simp,by omega,by simp;omega,fun x=>?_⟩))
     simp only [List.mem_append,List.mem_singleton,hy]
     constructor
     ·rintro (⟨i,h1,h2,h4⟩ | rfl)
      ·exact ⟨i,by omega,h2,h4⟩
      ·exact ⟨j,by omega,rfl,by rw [List.getElem?_eq_getElem hjl,h3]⟩
     ·rintro ⟨i,h1,h2,h4⟩
      by_cases e:i=j
      ·subst e;exact .inr h2
      ·exact .inl ⟨i,by omega,h2,h4⟩
    ·refine zG (by omega) (by omega) (hn2 hj5 _ ⟨by simp,by omega,by simp only;omega,fun x=>?_⟩)
     simp only [hy]
     constructor
     ·rintro ⟨i,h1,h2,h4⟩;exact ⟨i,by omega,h2,h4⟩
     ·rintro ⟨i,h1,h2,h4⟩
      by_cases e:i=j
      ·subst e;rw [List.getElem?_eq_getElem hjl,h3] at h4;simp at h4
      ·exact ⟨i,by omega,h2,h4⟩
   ·have hj5:j=5:=by simp at hc2;omega
    subst hj5
    refine h ys hyl (fun x=>?_)
    rw [hy]
    constructor
    ·rintro ⟨i,h1,rfl,h4⟩;exact (he i h1).1 h4
    ·rintro ⟨r,h1,h2,rfl⟩
     have hch:=(hv r h1).2.2.2.1 h2
     obtain ⟨m,hm⟩:=Int.eq_ofNat_of_zero_le hch.1
     exact ⟨m,by omega,hm,(he m (by omega)).2 ⟨r,h1,h2,hm⟩⟩
 ·constructor
  ·intro hh
   have:i=0∨i=1∨i=2∨i=3∨i=4:=by omega
   rcases this with rfl | rfl | rfl | rfl | rfl <;> simp at hh
  ·rintro ⟨r,h1,_⟩;simp at h1
def Co (cols:List Int):Prop:=cols.length=5∧∀ x,x∈cols→x=0∨x=1∨x=2
theorem zfA {cols:List Int} {i:Nat} {v:Int} (h:Co cols) (hv:v=0∨v=1∨v=2):Co (cols.set i v):=⟨by rw [List.length_set];exact h.1,fun x hx=>by
 rcases List.mem_or_eq_of_mem_set hx with hx | rfl
 ·exact h.2 x hx
 ·exact hv⟩
structure Vi (cs:List (List zK)) (c:Nat) (cols:List Int) (ok:Bool) (cols':List Int):Prop where
 co:Co cols'
 black:∀ i:Nat,cols[i]?=some 2→cols'[i]?=some 2
 grey:∀ i:Nat,cols'[i]?=some 1↔cols[i]?=some 1
 white:cols'.count 0≤cols.count 0
 good:ok=true→(∀ i:Nat,cols[i]?=some 2→Sf cs i)→(∀ i:Nat,cols'[i]?=some 2→Sf cs i)∧(c<cs.length→cols'[c]?=some 2)
 bad:ok=false→(∀ g:Nat,cols[g]?=some 1→Wy cs g c)→∃ i,i<cs.length∧¬ Sf cs i
theorem ze8 {cols:List Int} (h:cols.length=5):cols.count 0≤5:=by have:=List.count_le_length (a:=(0:Int)) (l:=cols);omega
theorem zdr {cs:List (List zK)} (ht:Tw cs):∀ (n c:Nat) (cols:List Int) (κ:Bool×List Int→Prop),Co cols→cols.count 0<n →
  (∀ ok cols',Vi cs c cols ok cols'→κ (ok,cols'))→x7 n cs (c:Int) cols κ
 | 0,c,cols,κ,hco,hw,h=>by omega
 | n+1,c,cols,κ,hco,hw,h=>by
  have hn5:=ht.1
  show yO (x7 n) cs (c:Int) cols κ
  unfold yO
  refine zr (fun hx=>h _ _ ⟨hco,fun i hi=>hi,fun i=>Iff.rfl,Nat.le_refl _,fun _ hb=>⟨hb,fun hlt=>by simp at hx;omega⟩,fun e=>by cases e⟩) (fun hx=>?_)
  have hc:c<cs.length:=by simp at hx;omega
  have hcl:c<cols.length:=by rw [hco.1];omega
  refine zt c rfl hcl (zr (fun h1=>?_) (fun h1=>zr (fun h2=>?_) (fun h2=>?_)))
  ·have e1:cols[c]?=some 1:=by rw [List.getElem?_eq_getElem hcl];simpa using h1
   exact h _ _ ⟨hco,fun i hi=>hi,fun i=>Iff.rfl,Nat.le_refl _,fun e=>(by cases e),fun _ hg=>⟨c,hc,fun hs=>zeC hs (hg c e1)⟩⟩
  ·have e2:cols[c]?=some 2:=by rw [List.getElem?_eq_getElem hcl];simpa using h2
   exact h _ _ ⟨hco,fun i hi=>hi,fun i=>Iff.rfl,Nat.le_refl _,fun _ hb=>⟨hb,fun _=>e2⟩,fun e=>by cases e⟩
  ·have e0:cols[c]=0:=by
    have:=hco.2 _ (List.getElem_mem hcl)
    simp at h1 h2;omega
   have e0':cols[c]?=some 0:=by rw [List.getElem?_eq_getElem hcl,e0]
   have hcs:cs[c]?=some cs[c]:=List.getElem?_eq_getElem hc
   have hch:=ht.2 _ (List.getElem_mem hc)
   refine zt c rfl hcl (zt c rfl hc (zck hch.1 hch.2 (fun ys hyl hys=>?_)))
   have hca:∀ j:Nat,Ca cs c j↔(j:Int)∈ys:=fun j=>by
    rw [hys]
    constructor
    ·rintro ⟨c',h1,r,h2,h3⟩
     rw [hcs] at h1;cases h1
     exact ⟨r,h2,h3⟩
    ·rintro ⟨r,h2,h3⟩;exact ⟨_,hcs,r,h2,h3⟩
   have hcount:(cols.set c 1).count 0+1=cols.count 0:=by
    rw [List.count_set hcl]
    have:0<cols.count 0:=List.count_pos_iff.2 (by rw [← e0];exact List.getElem_mem hcl)
    simp [e0];omega
   have set1:∀ i:Nat,(cols.set c 1)[i]?=if i=c then some 1 else cols[i]?:=fun i=>by
    by_cases e:i=c
    ·subst e;simp [hcl]
    ·rw [List.getElem?_set_ne (by omega),if_neg e]
   refine jb ys.length (fun s=>s.2.2) (fun k s=>s.2.2=(k:Int)∧k≤ys.length∧Co s.1∧(∀ i:Nat,cols[i]?=some 2→s.1[i]?=some 2)∧(∀ i:Nat,s.1[i]?=some 1↔(cols.set c 1)[i]?=some 1)∧s.1.count 0≤(cols.set c 1).count 0 ∧
    (s.2.1=true→(∀ i:Nat,cols[i]?=some 2→Sf cs i)→(∀ i:Nat,s.1[i]?=some 2→Sf cs i)∧∀ j:Nat,(j:Int)∈ys.take k→j<cs.length→s.1[j]?=some 2) ∧
    (s.2.1=false→(∀ g:Nat,cols[g]?=some 1→Wy cs g c)→∃ i,i<cs.length∧¬ Sf cs i)) (fun k s h=>h.1) (fun k s h=>h.2.1) ?_
    ⟨rfl,Nat.zero_le _,zfA hco (by simp),fun i hi=>?_,fun i=>Iff.rfl,Nat.le_refl _,fun _ hb=>⟨fun i hi=>?_,by simp⟩,fun e=>by cases e⟩
   ·rintro k ⟨X,ok,_⟩ next ⟨rfl,hk,xco,xb,xg,xw,xgood,xbad⟩ hnx
    simp only at xco xb xg xw xgood xbad
    refine zr (fun hlt=>?_) (fun hlt=>?_)
    ·have hlt:k<ys.length:=by simpa using hlt
     obtain ⟨r,hr,hr3,hrc⟩:=(hys ys[k]).1 (List.getElem_mem hlt)
     have hrv:=hch.2 r hr
     have hcc:=hrv.2.2.2.1 hr3
     obtain ⟨j,hj⟩:=Int.eq_ofNat_of_zero_le hcc.1
     have ej:ys[k]=(j:Int):=by omega
     have hcj:Ca cs c j:=⟨_,hcs,r,hr,hr3,hj⟩
     unfold jnW
     refine zt k rfl hlt ?_
     rw [ej]
     refine zdr ht n j X _ xco (by omega) (fun ok' X' v=>?_)
     have fin:∀ o:Bool,(o=true→ok=true∧ok'=true)→(o=false→ok=false∨ok'=false)→jy (k:Int) 1 (fun t93=>next (X',o,t93)):=by
      intro o ho1 ho2
      refine zG (by omega) (by omega) (hnx hlt _ ⟨by simp,by omega,v.co,fun i hi=>v.black i (xb i hi),fun i=>(v.grey i).trans (xg i),Nat.le_trans v.white xw,fun e hb=>?_,fun e hg=>?_⟩)
      ·obtain ⟨g1,g2⟩:=ho1 e
       obtain ⟨q1,q2⟩:=xgood g1 hb
       obtain ⟨q3,q4⟩:=v.good g2 q1
       refine ⟨q3,fun i hi hil=>?_⟩
       rw [List.take_succ_eq_append_getElem hlt,List.mem_append,List.mem_singleton] at hi
       rcases hi with hi | hi
       ·exact v.black i (q2 i hi hil)
       ·have:i=j:=by omega
        subst this;exact q4 hil
      ·rcases ho2 e with e1 | e1
       ·exact xbad e1 hg
       ·refine v.bad e1 (fun g hgx=>?_)
        rw [xg,set1] at hgx
        by_cases e2:g=c
        ·subst e2;exact .one hcj
        ·rw [if_neg e2] at hgx;exact .more (hg g hgx) hcj
     refine zr (fun e=>fin false (fun e=>by cases e) (fun _=>.inr (by simpa using e))) (fun e=>fin ok (fun e1=>⟨e1,by simpa using e⟩) (fun e1=>.inl e1))
    ·have hge:ys.length≤k:=by simpa using hlt
     rw [List.take_of_length_le hge] at xgood
     have hxl:c<X.length:=by rw [xco.1];omega
     have set2:∀ i:Nat,(X.set c 2)[i]?=if i=c then some 2 else X[i]?:=fun i=>by
      by_cases e:i=c
      ·subst e;simp [hxl]
      ·rw [List.getElem?_set_ne (by omega),if_neg e]
     have xc1:X[c]?=some 1:=by rw [xg,set1,if_pos rfl]
     refine zt c rfl hxl ?_
     rw [Int.toNat_natCast]
     refine h _ _ ⟨zfA xco (by simp),fun i hi=>?_,fun i=>?_,?_,fun e hb=>?_,fun e hg=>xbad e hg⟩
     ·rw [set2];split
      ·rfl
      ·exact xb i hi
     ·rw [set2]
      by_cases e:i=c
      ·subst e;rw [if_pos rfl,e0'];simp
      ·rw [if_neg e,xg,set1,if_neg e]
     ·rw [List.count_set hxl]
      have:X[c]=1:=by rw [List.getElem?_eq_getElem hxl] at xc1;exact Option.some.inj xc1
      simp [this];omega
     ·obtain ⟨q1,q2⟩:=xgood e hb
      have sc:Sf cs c:=zfx (fun j hj=>by
       by_cases hjl:j<cs.length
       ·exact q1 j (q2 j ((hca j).1 hj) hjl)
       ·exact zhV (by omega))
      refine ⟨fun i hi=>?_,fun _=>by rw [set2,if_pos rfl]⟩
      rw [set2] at hi
      by_cases e:i=c
      ·subst e;exact sc
      ·rw [if_neg e] at hi;exact q1 i hi
   ·show (cols.set c 1)[i]?=some 2
    rw [set1]
    by_cases e:i=c
    ·subst e;rw [e0'] at hi;simp at hi
    ·rw [if_neg e];exact hi
   ·change (cols.set c 1)[i]?=some 2 at hi
    rw [set1] at hi
    by_cases e:i=c
    ·subst e;simp at hi
    ·rw [if_neg e] at hi;exact hb i hi
theorem zff {cs:List (List zK)} {κ:Bool→Prop} (ht:Tw cs) (h1:(∀ i,i<cs.length→Sf cs i)→κ true) (h2:(¬ ∀ i,i<cs.length→Sf cs i)→κ false):Z6 cs κ:=by
 unfold Z6
 have hn5:=ht.1
 refine jb cs.length (fun s=>s.2) (fun k s=>s.2=(k:Int)∧k≤cs.length∧Co s.1∧(∀ i:Nat,s.1[i]?≠some 1)∧(∀ i:Nat,s.1[i]?=some 2→Sf cs i)∧(∀ i:Nat,i<k→s.1[i]?=some 2)) (fun k s h=>h.1) (fun k s h=>h.2.1) ?_ ⟨rfl,Nat.zero_le _,⟨rfl,by simp⟩,fun i=>?_,fun i hi=>?_,fun i hi=>by omega⟩
 ·rintro k ⟨X,_⟩ next ⟨rfl,hk,xco,xg,xs,xk⟩ hn
  simp only at xco xg xs xk
  refine zr (fun hc=>?_) (fun hc=>?_)
  ·have hlt:k<cs.length:=by simpa using hc
   refine ⟨6,zdr ht 6 k X _ xco (by have:=ze8 xco.1;omega) (fun ok X' v=>?_)⟩
   refine zr (fun e=>h2 (fun hall=>?_)) (fun e=>zG (by omega) (by omega) (hn hlt _ ⟨by simp,by omega,v.co,fun i hi=>xg i ((v.grey i).1 hi),(v.good (by simpa using e) xs).1,fun i hi=>?_⟩))
   ·obtain ⟨i,hi,hns⟩:=v.bad (by simpa using e) (fun g hg=>absurd hg (xg g))
    exact hns (hall i hi)
   ·by_cases e2:i=k
    ·subst e2;exact (v.good (by simpa using e) xs).2 hlt
    ·exact v.black i (xk i (by omega))
  ·have hge:cs.length≤k:=by simpa using hc
   exact h1 (fun i hi=>xs i (xk i (by omega)))
 ·have:i=0∨i=1∨i=2∨i=3∨i=4∨5≤i:=by omega
  rcases this with rfl | rfl | rfl | rfl | rfl | h <;> simp
  rw [List.getElem?_eq_none (by simpa using h)];simp
 ·have:i=0∨i=1∨i=2∨i=3∨i=4∨5≤i:=by omega
  rcases this with rfl | rfl | rfl | rfl | rfl | h
  ·simp at hi
  ·simp at hi
  ·simp at hi
  ·simp at hi
  ·simp at hi
  ·rw [List.getElem?_eq_none (by simpa using h)] at hi;cases hi
end
section
open Go.Lib (decDigits)
def RsV (c:List zK):Prop:=c.length≤8∧∀ r,r∈c→RV r
def SV (s:jm):Prop:=Tg s.xChains∧1≤s.xChains.length∧∀ i,i<s.xChains.length→Sf s.xChains i
def Bc (c:List zK):Prop:=c.length≤4294967296∧∀ r,r∈c→r.xTests.length≤4294967296
def Bd (s:jm):Prop:=s.xChains.length≤4294967296∧∀ c,c∈s.xChains→Bc c
theorem V5 {α:Type} {l:List α} {k:Nat} (h:k<l.length) (x:α):x∈l.take (k+1)↔x∈l.take k∨x=l[k]:=by
 rw [List.take_succ_eq_append_getElem h,List.mem_append,List.mem_singleton]
theorem VT {c:List zK} {κ:Bool→Prop} (hb:Bc c) (h:∀ b,(b=true↔RsV c)→κ b):yQ c κ:=by
 have hl:=hb.1
 unfold yQ
 refine zr (fun hc=>h _ ⟨fun e=>(by cases e),fun hh=>by have:=hh.1;simp at hc;omega⟩) (fun hc0=>?_)
 simp at hc0
 refine jb c.length (fun s=>s) (fun k s=>s=(k:Int)∧k≤c.length∧∀ r,r∈c.take k→RV r) (fun k s h=>h.1) (fun k s h=>h.2.1) ?_ ⟨rfl,Nat.zero_le _,by simp⟩
 rintro k _ next ⟨rfl,hk,he⟩ hn
 refine zr (fun hc=>?_) (fun hc=>?_)
 ·have hlt:k<c.length:=by simpa using hc
  refine zt k rfl hlt (zap (hb.2 _ (List.getElem_mem hlt)) (zr (fun hc2=>?_) (fun hc2=>?_)))
  ·simp at hc2
   exact h _ ⟨fun e=>(by cases e),fun hh=>absurd (hh.2 _ (List.getElem_mem hlt)) hc2⟩
  ·simp at hc2
   refine zG (by omega) (by omega) (hn hlt _ ⟨by omega,by omega,fun r hr=>?_⟩)
   rcases (V5 hlt r).1 hr with hr | rfl
   ·exact he r hr
   ·exact hc2
 ·have hge:c.length≤k:=by simpa using hc
  rw [List.take_of_length_le hge] at he
  exact h _ ⟨fun _=>⟨by omega,he⟩,fun _=>rfl⟩
theorem UX {s:jm} {κ:Bool→Prop} (hb:Bd s) (h:∀ b,(b=true↔SV s)→κ b):yb s κ:=by
 have no:¬ SV s→κ false:=fun hns=>h _ ⟨fun e=>(by cases e),fun hh=>absurd hh hns⟩
 unfold yb jnW
 simp only [YA]
 refine zr (fun hc=>no (fun hh=>by have:=hh.2.1;simp at hc;omega)) (fun h1=>zr (fun hc=>no (fun hh=>by have:=hh.1.1;simp at hc;omega)) (fun h5=>?_))
 simp at h1 h5
 refine jb s.xChains.length (fun s=>s) (fun k t=>t=(k:Int)∧k≤s.xChains.length∧∀ c,c∈s.xChains.take k→RsV c) (fun k s h=>h.1) (fun k s h=>h.2.1) ?_ ⟨rfl,Nat.zero_le _,by simp⟩
 rintro k _ next ⟨rfl,hk,he⟩ hnx
 refine zr (fun hc=>?_) (fun hc=>?_)
 ·have hlt:k<s.xChains.length:=by simpa using hc
  have hmem:=List.getElem_mem hlt
  refine zt k rfl hlt (VT (hb.2 _ hmem) (fun b hbv=>zr (fun hf=>no (fun hh=>?_)) (fun hf=>?_)))
  ·have:b=true:=hbv.2 ⟨(hh.1.2 _ hmem).1,fun r hr=>((hh.1.2 _ hmem).2 r hr).1⟩
   rw [this] at hf;cases hf
  ·refine zG (by omega) (by omega) (hnx hlt _ ⟨by omega,by omega,fun c hc=>?_⟩)
   rcases (V5 hlt c).1 hc with hc | rfl
   ·exact he c hc
   ·exact hbv.1 (by simpa using hf)
 ·have hge:s.xChains.length≤k:=by simpa using hc
  rw [List.take_of_length_le hge] at he
  refine jb s.xChains.length (fun s=>s) (fun k t=>t=(k:Int)∧k≤s.xChains.length∧∀ c,c∈s.xChains.take k→∀ r,r∈c→r.xChain<s.xChains.length) (fun k s h=>h.1) (fun k s h=>h.2.1) ?_ ⟨rfl,Nat.zero_le _,by simp⟩
  rintro m _ next2 ⟨rfl,hm,he2⟩ hn2
  refine zr (fun hc2=>?_) (fun hc2=>?_)
  ·have hlt:m<s.xChains.length:=by simpa using hc2
   have hmem:=List.getElem_mem hlt
   have hv:=he _ hmem
   refine zt m rfl hlt (zck hv.1 hv.2 (fun ys hyl hys=>?_))
   refine jb ys.length (fun s=>s) (fun j t=>t=(j:Int)∧j≤ys.length∧∀ x,x∈ys.take j→x<s.xChains.length) (fun k s h=>h.1) (fun k s h=>h.2.1) ?_ ⟨rfl,Nat.zero_le _,by simp⟩
   rintro j _ next3 ⟨rfl,hj,he3⟩ hn3
   refine zr (fun hc3=>?_) (fun hc3=>?_)
   ·have hltj:j<ys.length:=by simpa using hc3
    refine zt j rfl hltj (zr (fun hx=>no (fun hh=>?_)) (fun hx=>?_))
    ·obtain ⟨r,hr,_,hrc⟩:=(hys _).1 (List.getElem_mem hltj)
     have:=((hh.1.2 _ hmem).2 r hr).2
     simp at hx;omega
    ·simp at hx
     refine zG (by omega) (by omega) (hn3 hltj _ ⟨by omega,by omega,fun x hxx=>?_⟩)
     rcases (V5 hltj x).1 hxx with hxx | rfl
     ·exact he3 x hxx
     ·omega
   ·have hgej:ys.length≤j:=by simpa using hc3
    rw [List.take_of_length_le hgej] at he3
    refine zG (by omega) (by omega) (hn2 hlt _ ⟨by omega,by omega,fun c hc=>?_⟩)
    rcases (V5 hlt c).1 hc with hc | rfl
    ·exact he2 c hc
    ·intro r hr
     by_cases h3:r.xAction=3
     ·exact he3 _ ((hys _).2 ⟨r,hr,h3,rfl⟩)
     ·have:=(hv.2 r hr).2.2.2.2 h3
      omega
  ·have hgem:s.xChains.length≤m:=by simpa using hc2
   rw [List.take_of_length_le hgem] at he2
   have ht:Tg s.xChains:=⟨by omega,fun c hc=>⟨(he c hc).1,fun r hr=>⟨(he c hc).2 r hr,he2 c hc r hr⟩⟩⟩
   exact zff ht.w (fun hall=>h _ ⟨fun _=>⟨ht,by omega,hall⟩,fun _=>rfl⟩) (fun hall=>h _ ⟨fun e=>(by cases e),fun hh=>absurd hh.2.2 hall⟩)
end
section
open Go Go.Proofs
theorem Zj (a b:List zd):(yr a b).2=false↔jd a b=[]:=by
 unfold yr
 cases jd a b <;> simp
def fpk (a b:za):z7×Bool:=if em4 (ut a b) then (⟨0,0,0,0⟩,false) else (⟨(yr a.x0 b.x0).1,(yr a.x1 b.x1).1,(yr a.x2 b.x2).1,(yr a.x3 b.x3).1⟩,true)
theorem Ui {a b:za} (ha:B4 a) (hb:B4 b) {κ:z7×Bool→Prop} (h:κ (fpk a b)):xP a b κ:=by
 obtain ⟨a0,a1,a2,a3⟩:=a
 obtain ⟨b0,b1,b2,b3⟩:=b
 obtain ⟨p0,p1,p2,p3⟩:=ha
 obtain ⟨q0,q1,q2,q3⟩:=hb
 simp only at p0 p1 p2 p3 q0 q1 q2 q3
 have hF:jd a0 b0=[]∨jd a1 b1=[]∨jd a2 b2=[]∨jd a3 b3=[]→κ (⟨0,0,0,0⟩,false):=fun e=>by
  have:fpk ⟨a0,a1,a2,a3⟩ ⟨b0,b1,b2,b3⟩=(⟨0,0,0,0⟩,false):=if_pos (decide_eq_true e)
  rw [this] at h;exact h
 have hT:¬ (jd a0 b0=[]∨jd a1 b1=[]∨jd a2 b2=[]∨jd a3 b3=[])→κ (⟨(yr a0 b0).1,(yr a1 b1).1,(yr a2 b2).1,(yr a3 b3).1⟩,true):=fun e=>by
  have:fpk ⟨a0,a1,a2,a3⟩ ⟨b0,b1,b2,b3⟩=(⟨(yr a0 b0).1,(yr a1 b1).1,(yr a2 b2).1,(yr a3 b3).1⟩,true):=if_neg (by rw [show em4 (ut ⟨a0,a1,a2,a3⟩ ⟨b0,b1,b2,b3⟩)=false from decide_eq_false e];decide)
  rw [this] at h;exact h
 clear h
 unfold xP
 refine ⟨5,?_⟩
 refine jt ?_
 unfold jnW
 refine zt 0 rfl (by simp) (zt 0 rfl (by simp) (XD p0 q0 (by decide) (by decide) (by decide) (by decide) ?_))
 simp only [List.getElem_cons_zero,List.getElem_cons_succ]
 refine zr (fun e=>hF (.inl ((Zj _ _).1 (by simpa using e)))) (fun e=>?_)
 have e0:jd a0 b0≠[]:=fun f=>by have:=(Zj _ _).2 f;simp [this] at e
 refine zt 0 rfl (by simp) (zG (by decide) (by decide) ?_)
 refine jt ?_
 refine zt 1 rfl (by simp) (zt 1 rfl (by simp) (XD p1 q1 (by decide) (by decide) (by decide) (by decide) ?_))
 simp only [List.getElem_cons_zero,List.getElem_cons_succ]
 refine zr (fun e=>hF (.inr (.inl ((Zj _ _).1 (by simpa using e))))) (fun e=>?_)
 have e1:jd a1 b1≠[]:=fun f=>by have:=(Zj _ _).2 f;simp [this] at e
 refine zt 1 rfl (by simp) (zG (by decide) (by decide) ?_)
 refine jt ?_
 refine zt 2 rfl (by simp) (zt 2 rfl (by simp) (XD p2 q2 (by decide) (by decide) (by decide) (by decide) ?_))
 simp only [List.getElem_cons_zero,List.getElem_cons_succ]
 refine zr (fun e=>hF (.inr (.inr (.inl ((Zj _ _).1 (by simpa using e)))))) (fun e=>?_)
 have e2:jd a2 b2≠[]:=fun f=>by have:=(Zj _ _).2 f;simp [this] at e
 refine zt 2 rfl (by simp) (zG (by decide) (by decide) ?_)
 refine jt ?_
 refine zt 3 rfl (by simp) (zt 3 rfl (by simp) (XD p3 q3 (by decide) (by decide) (by decide) (by decide) ?_))
 simp only [List.getElem_cons_zero,List.getElem_cons_succ]
 refine zr (fun e=>hF (.inr (.inr (.inr ((Zj _ _).1 (by simpa using e)))))) (fun e=>?_)
 have e3:jd a3 b3≠[]:=fun f=>by have:=(Zj _ _).2 f;simp [this] at e
 refine zt 3 rfl (by simp) (zG (by decide) (by decide) ?_)
 refine jO ?_
 refine ⟨_,_,_,_,rfl,?_⟩
 unfold XQ
 refine zt 0 rfl (by simp) (zt 1 rfl (by simp) (zt 2 rfl (by simp) (zt 3 rfl (by simp) ?_)))
 exact hT (by rintro (f | f | f | f) <;> contradiction)
theorem zgW (a b:za):(fpk a b).2=!em4 (ut a b):=by
 unfold fpk;cases em4 (ut a b) <;> simp
theorem zcB {a b:za} (ha:B4 a) (hb:B4 b) {κ:Bool→Prop} (h:κ (!em4 (ut a b))):ux a b κ:=by
 unfold ux
 refine Ui ha hb ?_
 rw [← zgW] at h;exact h
theorem Vm {κ:za→Prop} (h:κ Yv):uT κ:=by
 unfold uT
 refine ⟨5,?_⟩
 refine jt (yJ (n:=(0:Int)) (by decide) (by decide) (zt 0 rfl (by simp) (zG (by decide) (by decide) ?_)))
 refine jt (yJ (n:=(1:Int)) (by decide) (by decide) (zt 1 rfl (by simp) (zG (by decide) (by decide) ?_)))
 refine jt (yJ (n:=(2:Int)) (by decide) (by decide) (zt 2 rfl (by simp) (zG (by decide) (by decide) ?_)))
 refine jt (yJ (n:=(3:Int)) (by decide) (by decide) (zt 3 rfl (by simp) (zG (by decide) (by decide) ?_)))
 refine jO ?_
 exact ⟨_,_,_,_,rfl,h⟩
def uK (a b:List zd) (t:Int):List zd:=jd a (X9 b t)
def ziw (a b:za):za:=⟨uK a.x0 b.x0 65535,uK a.x1 b.x1 65535,uK a.x2 b.x2 255,uK a.x3 b.x3 7⟩
def in4 (a b:za):Bool:=em4 a || decide (ziw a b=zfb)
end
section
open Go Go.Proofs
instance (l:List zd):Decidable (NF l):=by unfold NF;infer_instance
instance (l:List zd) (t:Int):Decidable (St l t):=by unfold St;infer_instance
theorem zbQ:∀ {ys:List zd},(∀ s∈ys,s.xLo≤s.xHi)→(ys.Pairwise (fun a b=>a.xHi+1<b.xLo)↔∀ n,(h:n+1<ys.length)→ys[n].xHi+1<ys[n+1].xLo)
 | [],_=>by simp
 | [s],_=>by simp
 | s :: t :: ys,h=>by
  have ih:=zbQ (ys:=t :: ys) (fun u hu=>h u (List.mem_cons_of_mem _ hu))
  rw [List.pairwise_cons,ih]
  constructor
  ·rintro ⟨h1,h2⟩ n hn
   cases n with
   | zero=>exact h1 t (by simp)
   | succ n=>exact h2 n (by simpa using hn)
  ·intro hh
   have h0:=hh 0 (by simp)
   have h2:∀ n,(h:n+1<(t :: ys).length)→(t :: ys)[n].xHi+1<(t :: ys)[n+1].xLo:=fun n hn=>hh (n+1) (by simpa using hn)
   refine ⟨fun u hu=>?_,h2⟩
   rcases List.mem_cons.1 hu with e | e
   ·subst e;exact h0
   ·have:=(List.pairwise_cons.1 (ih.2 h2)).1 u e
    have:=h t (by simp)
    simp only [List.getElem_cons_zero,List.getElem_cons_succ] at h0
    omega
theorem zc9 {l:List zd} {top:Int}:St l top↔(∀ n,(h:n<l.length)→0≤l[n].xLo∧l[n].xLo≤l[n].xHi∧l[n].xHi≤top)∧∀ n,(h:n+1<l.length)→l[n].xHi+1<l[n+1].xLo:=by
 constructor
 ·rintro ⟨⟨h1,h2⟩,h3⟩
  exact ⟨fun n hn=>by have:=h1 _ (List.getElem_mem hn);have:=h3 _ (List.getElem_mem hn);omega,(zbQ h1).1 h2⟩
 ·rintro ⟨h1,h2⟩
  have h3:∀ s∈l,0≤s.xLo∧s.xLo≤s.xHi∧s.xHi≤top:=fun s hs=>by
   obtain ⟨n,hn,e⟩:=List.getElem_of_mem hs
   rw [← e];exact h1 n hn
  exact ⟨⟨fun s hs=>(h3 s hs).2.1,(zbQ (fun s hs=>(h3 s hs).2.1)).2 h2⟩,fun s hs=>⟨(h3 s hs).1,(h3 s hs).2.2⟩⟩
def SpV (l:List zd) (top:Int):Prop:=l.length≤40∧St l top
instance (l:List zd) (t:Int):Decidable (SpV l t):=by unfold SpV;infer_instance
theorem Vp {l:List zd} {top:Int} (hl:l.length≤4294967296) (h0:0≤top) (ht:top≤65535) {κ:Bool→Prop} (h:κ (decide (SpV l top))):yS l top κ:=by
 unfold yS
 refine jb l.length (fun s=>s) (fun k s=>s=(k:Int)∧k≤l.length∧(∀ n,(h:n<l.length)→n<k→0≤l[n].xLo∧l[n].xLo≤l[n].xHi∧l[n].xHi≤top)∧∀ n,(h:n+1<l.length)→n+1<k→l[n].xHi+1<l[n+1].xLo) (fun k s h=>h.1) (fun k s h=>h.2.1) ?_ ⟨rfl,Nat.zero_le _,fun n _ h=>by omega,fun n _ h=>by omega⟩
 rintro k _ next ⟨rfl,hk,h1,h2⟩ hn
 refine zr (fun hc=>?_) (fun hc=>?_)
 ·have hlt:k<l.length:=by simpa using hc
  have no:¬ (0≤l[k].xLo∧l[k].xLo≤l[k].xHi∧l[k].xHi≤top∧∀ j,(hj:j+1<l.length)→j+1=k→l[j].xHi+1<l[j+1].xLo)→κ false:=fun hh=>by
   rw [decide_eq_false (fun hs=>hh ?_)] at h
   ·exact h
   ·obtain ⟨e1,e2⟩:=zc9.1 hs.2
    exact ⟨(e1 k hlt).1,(e1 k hlt).2.1,(e1 k hlt).2.2,fun j hj _=>e2 j hj⟩
  have yes:(0≤l[k].xLo∧l[k].xLo≤l[k].xHi∧l[k].xHi≤top∧∀ j,(hj:j+1<l.length)→j+1=k→l[j].xHi+1<l[j+1].xLo)→jy (k:Int) 1 (fun t=>next t):=fun ⟨q1,q2,q3,q4⟩ =>
   zG (by omega) (by omega) (hn hlt _ ⟨by simp,by omega,fun n hn hnk=>by
    by_cases e:n=k
    ·subst e;exact ⟨q1,q2,q3⟩
    ·exact h1 n hn (by omega),fun n hn hnk=>by
    by_cases e:n+1=k
    ·exact q4 n hn e
    ·exact h2 n hn (by omega)⟩)
  unfold jnW
  refine zt k rfl hlt (zt k rfl hlt (Uh (zr (fun e=>jt (no (fun f=>?_))) (fun e=>?_))))
  ·simp at e;omega
  simp at e
  refine zt k rfl hlt (Uh (zr (fun e2=>jt (no (fun f=>?_))) (fun e2=>?_)))
  ·simp at e2;omega
  simp at e2
  refine zr (fun e3=>?_) (fun e3=>?_)
  ·have hk0:0<k:=by simpa using e3
   have hp:=h1 (k - 1) (by omega) (by omega)
   refine zt k rfl hlt (yP (by omega) (by omega) (zt (k - 1) (by omega) (by omega) (zG (by omega) (by omega) (zr (fun e4=>no (fun f=>?_)) (fun e4=>yes ⟨by omega,by omega,by omega,fun j hj hjk=>?_⟩)))))
   ·have:=f.2.2.2 (k - 1) (by omega) (by omega)
    simp at e4
    have ee:k - 1+1=k:=by omega
    simp only [ee] at this
    omega
   ·simp at e4
    obtain rfl:j=k - 1:=by omega
    have ee:k - 1+1=k:=by omega
    simp only [ee]
    omega
  ·have hk0:k=0:=by simpa using e3
   exact jO (yes ⟨by omega,by omega,by omega,fun j hj hjk=>by omega⟩)
 ·have hge:l.length≤k:=by simpa using hc
  have hs:St l top:=zc9.2 ⟨fun n hn=>h1 n hn (by omega),fun n hn=>h2 n hn (by omega)⟩
  unfold jnW
  refine Uh (zr (fun e=>?_) (fun e=>by simp at e;omega))
  rw [show decide (SpV l top)=decide ((l.length:Int)≤40) from decide_eq_decide.2 ⟨fun q=>by have:=q.1;omega,fun q=>⟨by omega,hs⟩⟩] at h
  exact h
theorem zbM {t:Int} {κ:Bool→Prop} (h0:0≤t) (ht:t≤65535) (h:κ true):ZO t κ:=by
 unfold ZO jnW
 rw [decide_eq_true h0,decide_eq_true ht]
 exact jt h
theorem Vv {l:List zd} {top:Int} (hl:l.length≤9223372036854775807) (h0:0≤top) (ht:top≤65535) {κ:Bool→Prop} (h:κ (decide (SpV l top))):yM l top κ:=by
 unfold yM jnW
 refine zbM h0 ht (jO (zr (fun e=>?_) (fun e=>?_)))
 ·rw [decide_eq_false (fun q=>by have:=q.1;simp at e;omega)] at h;exact h
 have h40:l.length≤40:=by simp at e;omega
 refine jb l.length (fun s=>s.2) (fun k (s:Int×Int)=>s.2=(k:Int)∧k≤l.length∧(∀ n,(h:n<l.length)→n<k→0≤l[n].xLo∧l[n].xLo≤l[n].xHi∧l[n].xHi≤top)∧(∀ n,(h:n+1<l.length)→n+1<k→l[n].xHi+1<l[n+1].xLo)∧(k=0→s.1=-2)∧(∀ n,(h:n<l.length)→n+1=k→s.1=l[n].xHi)) (fun k s h=>h.1) (fun k s h=>h.2.1) ?_ ⟨rfl,Nat.zero_le _,fun n _ h=>by omega,fun n _ h=>by omega,fun _=>rfl,fun n _ h=>by omega⟩
 rintro k ⟨a,_⟩ next ⟨rfl,hk,h1,h2,h3,h4⟩ hn
 simp only at h3 h4
 have ha:-2≤a∧a≤65535:=by
  by_cases e:k=0
  ·have:=h3 e;omega
  ·have:=h4 (k - 1) (by omega) (by omega);have:=h1 (k - 1) (by omega) (by omega);omega
 refine zr (fun hc=>?_) (fun hc=>?_)
 ·have hlt:k<l.length:=by simpa using hc
  have no:¬ (a+1<l[k].xLo∧l[k].xLo≤l[k].xHi∧l[k].xHi≤top)→κ false:=fun hh=>by
   rw [decide_eq_false (fun hs=>hh ?_)] at h
   ·exact h
   ·obtain ⟨e1,e2⟩:=zc9.1 hs.2
    have q:=e1 k hlt
    refine ⟨?_,q.2.1,q.2.2⟩
    by_cases e:k=0
    ·have:=h3 e;omega
    ·obtain ⟨j,rfl⟩:∃ j,k=j+1:=⟨k - 1,by omega⟩
     have:=h4 j (by omega) rfl
     have:=e2 j hlt
     omega
  refine zt k rfl hlt (zG (by omega) (by omega) (zr (fun e=>jt (no (fun f=>by simp at e;omega))) (fun e=>zr (fun e2=>jt (no (fun f=>by simp at e2;omega))) (fun e2=>zr (fun e3=>no (fun f=>by simp at e3;omega)) (fun e3=>?_)))))
  simp at e e2 e3
  have lo:0≤l[k].xLo:=by
   by_cases q:k=0
   ·have:=h3 q;omega
   ·have:=h4 (k - 1) (by omega) (by omega);have:=h1 (k - 1) (by omega) (by omega);omega
  refine zG (by omega) (by omega) (hn hlt _ ⟨by simp,by omega,fun n hn hnk=>?_,fun n hn hnk=>?_,fun f=>by omega,fun n hn hnk=>?_⟩)
  ·by_cases q:n=k
   ·subst q;exact ⟨lo,e2,e3⟩
   ·exact h1 n hn (by omega)
  ·by_cases q:n+1=k
   ·subst q
    have:=h4 n (by omega) rfl
    omega
   ·exact h2 n hn (by omega)
  ·obtain rfl:n=k:=by omega
   rfl
 ·have hge:l.length≤k:=by simpa using hc
  have hs:St l top:=zc9.2 ⟨fun n hn=>h1 n hn (by omega),fun n hn=>h2 n hn (by omega)⟩
  rw [decide_eq_true (show SpV l top from ⟨h40,hs⟩)] at h
  exact h
instance (l:List zd) (x:Int):Decidable (hv l x):=by unfold hv;infer_instance
end
section
open Go Go.Proofs
def bx (a:za):xv:=⟨[a.x0,a.x1,a.x2,a.x3]⟩
theorem zep {a:za} {κ:Bool→Prop} (h:κ (em4 a)):ZW (bx a) κ:=by
 obtain ⟨x0,x1,x2,x3⟩:=a
 simp only [em4] at h
 unfold ZW
 refine ⟨5,?_⟩
 refine jt (zt 0 rfl (by simp [bx]) (zr (fun e=>?_) (fun e=>zG (by decide) (by decide) ?_)))
 ·have:x0=[]:=by simpa [bx] using e
  subst this;simpa using h
 have e0:x0≠[]:=by simpa [bx] using e
 refine jt (zt 1 rfl (by simp [bx]) (zr (fun e=>?_) (fun e=>zG (by decide) (by decide) ?_)))
 ·have:x1=[]:=by simpa [bx] using e
  subst this;simpa using h
 have e1:x1≠[]:=by simpa [bx] using e
 refine jt (zt 2 rfl (by simp [bx]) (zr (fun e=>?_) (fun e=>zG (by decide) (by decide) ?_)))
 ·have:x2=[]:=by simpa [bx] using e
  subst this;simpa using h
 have e2:x2≠[]:=by simpa [bx] using e
 refine jt (zt 3 rfl (by simp [bx]) (zr (fun e=>?_) (fun e=>zG (by decide) (by decide) ?_)))
 ·have:x3=[]:=by simpa [bx] using e
  subst this;simpa using h
 have e3:x3≠[]:=by simpa [bx] using e
 refine jO ?_
 simpa [e0,e1,e2,e3] using h
theorem zdO {κ:xv→Prop} (h:κ (bx Yv)):ZI κ:=by
 unfold ZI
 refine ⟨5,?_⟩
 refine jt ?_
 unfold jnW
 refine xl (n:=(0:Int)) (by decide) (by decide) (jx (by simp) (zG (by decide) (by decide) ?_))
 refine jt ?_
 refine xl (n:=(1:Int)) (by decide) (by decide) (jx (by simp) (zG (by decide) (by decide) ?_))
 refine jt ?_
 refine xl (n:=(2:Int)) (by decide) (by decide) (jx (by simp) (zG (by decide) (by decide) ?_))
 refine jt ?_
 refine xl (n:=(3:Int)) (by decide) (by decide) (jx (by simp) (zG (by decide) (by decide) ?_))
 exact jO h
theorem zaX {l:List (List zd)} (hl:l.length≤4294967296) (hl2:∀ x∈l,x.length≤4294967296) {κ:List (List zd)→Prop} (h:κ l):uU l κ:=by
 unfold uU
 refine jb l.length (fun s=>s.2) (fun k s=>s.2=(k:Int)∧k≤l.length∧s.1=l.take k) (fun k s h=>h.1) (fun k s h=>h.2.1) ?_ ⟨rfl,Nat.zero_le _,by simp⟩
 rintro k ⟨xs,t⟩ next ⟨rfl,hk,hx⟩ hn
 simp only at hx
 subst hx
 refine zr (fun hc=>?_) (fun hc=>?_)
 ·have hlt:k<l.length:=by simpa using hc
  have:=hl2 _ (List.getElem_mem hlt)
  refine zt k rfl hlt (jx (by simp;omega) (jx (by simp only [List.length_take,List.length_singleton];omega) (zG (by omega) (by omega) (hn hlt _ ⟨by simp,by omega,?_⟩))))
  rw [List.take_succ_eq_append_getElem hlt];rfl
 ·have hge:l.length≤k:=by simpa using hc
  rw [List.take_of_length_le hge];exact h
end
section
open Go Go.Proofs
def tsp (t:zI):List zd:=if t.xNot then X9 [zd.mk t.xLo t.xHi] (top t.xField) else [zd.mk t.xLo t.xHi]
theorem zcI {lo hi t:Int} (h0:0≤lo) (h1:lo≤hi) (h2:hi≤t):St [zd.mk lo hi] t:=⟨X0 h1,fun s hs=>by simp only [List.mem_singleton] at hs;subst hs;exact ⟨h0,h2⟩⟩
theorem zbY {t:zI} (h:TV t):St (tsp t) (top t.xField):=by
 obtain ⟨h1,h2,h3,h4,h5⟩:=h
 unfold tsp
 split
 ·exact UK (zcI h3 h4 h5)
 ·exact zcI h3 h4 h5
theorem zfw (lo hi t:Int):X9 [zd.mk lo hi] t=(if 0<lo then [zd.mk 0 (lo - 1)] else [])++(if hi+1≤t then [zd.mk (hi+1) t] else []):=rfl
theorem zeO (t:zI):(tsp t).length≤2:=by
 unfold tsp
 split
 ·rw [zfw];simp only [List.length_append]
  split <;> split <;> simp
 ·simp
theorem zce (a:List zd) (y:zd):(jd a [y]).length≤a.length:=by
 induction a with
 | nil=>simp [jd]
 | cons x a ih =>
  have e:jd (x :: a) [y]=Xi x y++jd a [y]:=by simp [jd]
  have h1:(Xi x y).length≤1:=by unfold Xi;split <;> simp
  rw [e];simp only [List.length_append,List.length_cons];omega
theorem zcr {y1 y2:zd} (hy:y1.xHi<y2.xLo):∀ {a:List zd},NF a→(jd a [y1,y2]).length≤a.length+1
 | [],_=>by simp [jd]
 | x :: a,h=>by
  have e:jd (x :: a) [y1,y2]=Xi x y1++Xi x y2++jd a [y1,y2]:=by simp [jd]
  have h1:∀ y,(Xi x y).length≤1:=fun y=>by unfold Xi;split <;> simp
  have ih:=zcr hy (Yd h)
  rw [e];simp only [List.length_append,List.length_cons]
  have i1:=h1 y1
  have i2:=h1 y2
  by_cases c:max x.xLo y2.xLo≤min x.xHi y2.xHi
  ·have hg:=(List.pairwise_cons.1 h.2).1
   have e2:jd a [y1,y2]=jd a [y2]:=by
    have:∀ m:List zd,(∀ z∈m,y1.xHi<z.xLo)→jd m [y1,y2]=jd m [y2]:=by
     intro m
     induction m with
     | nil=>intro _;rfl
     | cons z m ihm =>
      intro hz
      have ez:Xi z y1=[]:=by unfold Xi;rw [if_neg (by have:=hz z (by simp);omega)]
      have:=ihm (fun u hu=>hz u (by simp [hu]))
      simp only [jd,List.flatMap_cons,List.flatMap_nil,List.append_nil] at this ⊢
      rw [ez,this];simp
    exact this a (fun z hz=>by have:=hg z hz;omega)
   have:=zce a y2
   rw [e2];omega
  ·have:Xi x y2=[]:=by unfold Xi;rw [if_neg c]
   rw [this];simp only [List.length_nil];omega
theorem zdM {a b:List zd} (ha:NF a) (hb:NF b) (h:b.length≤2):(jd a b).length≤a.length+1:=by
 match b,h,hb with
 | [],_,_ =>
  have:jd a []=[]:=by simp [jd]
  rw [this];simp
 | [y],_,_=>have:=zce a y;omega
 | [y1,y2],_,hb =>
  have:=(List.pairwise_cons.1 hb.2).1 y2 (by simp)
  exact zcr (by omega) ha
theorem zaa {t:zI} (ht:TV t) {κ:List zd→Prop} (h:κ (tsp t)):x6 t κ:=by
 obtain ⟨h1,h2,h3,h4,h5⟩:=ht
 have:=X5 t.xField
 unfold tsp at h
 unfold x6
 refine zr (fun e=>?_) (fun e=>?_)
 ·have e':t.xNot=false:=by simpa using e
  rw [e'] at h;simpa using h
 ·have e':t.xNot=true:=by simpa using e
  rw [e',if_pos rfl,zfw] at h
  unfold jnW
  refine zr (fun c=>?_) (fun c=>?_)
  ·have c':0<t.xLo:=by simpa using c
   rw [if_pos c'] at h
   refine yP (by omega) (by omega) (jx (by simp) (yJ h1 h2 (zr (fun d=>?_) (fun d=>?_))))
   ·have d':t.xHi<top t.xField:=by simpa using d
    rw [if_pos (by omega)] at h
    exact zG (by omega) (by omega) (jx (by simp) (by simpa using h))
   ·have d':¬ t.xHi<top t.xField:=by simpa using d
    rw [if_neg (by omega)] at h
    simpa using h
  ·have c':¬ 0<t.xLo:=by simpa using c
   rw [if_neg c'] at h
   refine yJ h1 h2 (zr (fun d=>?_) (fun d=>?_))
   ·have d':t.xHi<top t.xField:=by simpa using d
    rw [if_pos (by omega)] at h
    exact zG (by omega) (by omega) (jx (by simp) (by simpa using h))
   ·have d':¬ t.xHi<top t.xField:=by simpa using d
    rw [if_neg (by omega)] at h
    simpa using h
theorem zaz {t:zI} (ht:TV t) {κ:List zd→Prop} (h:κ (tsp t)):ul t κ:=by
 have ht':=ht
 obtain ⟨h1,h2,h3,h4,h5⟩:=ht
 have:=X5 t.xField
 unfold ul
 refine YC ?_
 rw [decide_eq_true ht']
 refine jO (zr (fun e=>?_) (fun e=>?_))
 ·unfold tsp at h;rw [if_pos e] at h
  exact xl h1 h2 (ze7 (zcI h3 h4 h5) (by omega) (by omega) h)
 ·unfold tsp at h;rw [if_neg (by simpa using e)] at h
  exact h
def L4 (a:za):List (List zd):=[a.x0,a.x1,a.x2,a.x3]
def uR (a:za) (f:Int):List zd:=if f=0 then a.x0 else if f=1 then a.x1 else if f=2 then a.x2 else a.x3
def Yb (a:za) (f:Int) (x:List zd):za:=if f=0 then ⟨x,a.x1,a.x2,a.x3⟩ else if f=1 then ⟨a.x0,x,a.x2,a.x3⟩ else if f=2 then ⟨a.x0,a.x1,x,a.x3⟩ else ⟨a.x0,a.x1,a.x2,x⟩
theorem Zp {a:za} {f:Int} {κ:List zd→Prop} (h0:0≤f) (h1:f≤3) (h:κ (uR a f)):zF (L4 a) f κ:=by
 rcases zcd h0 h1 with rfl | rfl | rfl | rfl
 ·exact zt 0 rfl (by simp [L4]) h
 ·exact zt 1 rfl (by simp [L4]) h
 ·exact zt 2 rfl (by simp [L4]) h
 ·exact zt 3 rfl (by simp [L4]) h
theorem YI {a:za} {f:Int} {x:List zd} (h0:0≤f) (h1:f≤3):(L4 a).set f.toNat x=L4 (Yb a f x):=by
 rcases zcd h0 h1 with rfl | rfl | rfl | rfl <;> rfl
theorem YU {a:za} (ha:B4 a) {f:Int} (h0:0≤f) (h1:f≤3):St (uR a f) (top f):=by
 obtain ⟨p0,p1,p2,p3⟩:=ha
 rcases zcd h0 h1 with rfl | rfl | rfl | rfl
 ·exact p0
 ·exact p1
 ·exact p2
 ·exact p3
theorem zez {a:za} (ha:B4 a) {f:Int} (h0:0≤f) (h1:f≤3) {x:List zd} (hx:St x (top f)):B4 (Yb a f x):=by
 obtain ⟨p0,p1,p2,p3⟩:=ha
 rcases zcd h0 h1 with rfl | rfl | rfl | rfl
 ·exact ⟨hx,p1,p2,p3⟩
 ·exact ⟨p0,hx,p2,p3⟩
 ·exact ⟨p0,p1,hx,p3⟩
 ·exact ⟨p0,p1,p2,hx⟩
def le4 (a:za) (n:Nat):Prop:=∀ f,0≤f→f≤3→(uR a f).length≤n
theorem zeW {a:za} {n m:Nat} (h:le4 a n) {f:Int} (h0:0≤f) (h1:f≤3) {x:List zd} (hx:x.length≤m) (hm:n≤m):le4 (Yb a f x) m:=by
 intro g g0 g1
 have k:=h g g0 g1
 rcases zcd h0 h1 with rfl | rfl | rfl | rfl <;> rcases zcd g0 g1 with rfl | rfl | rfl | rfl <;> first | exact hx | exact Nat.le_trans k hm
theorem zaf {a:za} (h:le4 a 40):F4 a:=⟨h 0 (by decide) (by decide),h 1 (by decide) (by decide),h 2 (by decide) (by decide),h 3 (by decide) (by decide)⟩
def zdl (a:za) (t:zI):za:=Yb a t.xField (jd (uR a t.xField) (tsp t))
def uQ (ts:List zI):za:=ts.foldl zdl Yv
theorem zcK:∀ (ts:List zI) (a:za) (n:Nat),(∀ t∈ts,TV t)→B4 a→le4 a n→B4 (ts.foldl zdl a)∧le4 (ts.foldl zdl a) (n+ts.length)
 | [],a,n,_,ha,hn=>⟨ha,hn⟩
 | t :: ts,a,n,h,ha,hn=>by
  have ht:=h t (by simp)
  have hs:=YU ha ht.1 ht.2.1
  have:=zcK ts (zdl a t) (n+1) (fun u hu=>h u (by simp [hu])) (zez ha ht.1 ht.2.1 (Xg hs (zbY ht).1))
   (zeW hn ht.1 ht.2.1 (Nat.le_trans (zdM hs.1 (zbY ht).1 (zeO t)) (by have:=hn _ ht.1 ht.2.1;omega)) (by omega))
  refine ⟨this.1,?_⟩
  have e:n+(t :: ts).length=n+1+ts.length:=by simp only [List.length_cons];omega
  rw [e];exact this.2
theorem Vr:le4 Yv 1:=fun f h0 h1=>by
 rcases zcd h0 h1 with rfl | rfl | rfl | rfl <;> decide
theorem UG {ts:List zI} (h:∀ t∈ts,TV t):B4 (uQ ts):=(zcK ts Yv 1 h UH Vr).1
theorem zeU {ts:List zI} (h:∀ t∈ts,TV t):le4 (uQ ts) (1+ts.length):=(zcK ts Yv 1 h UH Vr).2
theorem zcs (ts:List zI) (t:zI):uQ (ts++[t])=zdl (uQ ts) t:=by simp [uQ]
theorem zc8 {ts:List zI} (hts:TsV ts) {κ:za→Prop} (hκ:κ (uQ ts)):yR ts κ:=by
 have h:=hts.1
 have hl:=hts.2
 unfold yR
 refine Vm ?_
 refine jb ts.length (fun s=>s.2) (fun k s=>s.2=(k:Int)∧k≤ts.length∧s.1=L4 (uQ (ts.take k))) (fun k s h=>h.1) (fun k s h=>h.2.1) ?_ ⟨rfl,Nat.zero_le _,by simp [uQ,L4]⟩
 rintro k ⟨xs,t⟩ next ⟨rfl,hk,hx⟩ hn
 simp only at hx
 subst hx
 refine zr (fun hc=>?_) (fun hc=>?_)
 ·have hlt:k<ts.length:=by simpa using hc
  have ht:=h _ (List.getElem_mem hlt)
  have hpre:∀ t∈ts.take k,TV t:=fun t ht=>h t (List.mem_of_mem_take ht)
  have hb:=UG hpre
  have hs:=YU hb ht.1 ht.2.1
  have hle:=zeU hpre _ ht.1 ht.2.1
  have hml:=zdM hs.1 (zbY ht).1 (zeO ts[k])
  have htop:=X5 ts[k].xField
  simp only [List.length_take] at hle
  have hlim:lim (jd (uR (uQ (ts.take k)) ts[k].xField) (tsp ts[k]))=(jd (uR (uQ (ts.take k)) ts[k].xField) (tsp ts[k]),true):=by
   unfold lim;rw [if_neg (by omega)]
  refine zt k rfl hlt ?_
  unfold jnW
  have fin:zz (uR (uQ (ts.take k)) ts[k].xField) (tsp ts[k]) (top ts[k].xField) (fun (r49,r51)=>zF (L4 (uQ (ts.take k))) ts[k].xField (fun e52=>jy (k:Int) 1 (fun t76=>next ((L4 (uQ (ts.take k))).set (ts[k].xField).toNat r49,t76)))):=by
   refine Z4 hs (zbY ht) (by omega) (by omega) ?_
   rw [hlim]
   refine Zp ht.1 ht.2.1 (zG (by omega) (by omega) (hn hlt _ ⟨by simp,by omega,?_⟩))
   simp only
   rw [YI ht.1 ht.2.1,List.take_succ_eq_append_getElem hlt,zcs];rfl
  exact ⟨Zp ht.1 ht.2.1 (zaa ht (yJ ht.1 ht.2.1 fin)),zaa ht ⟨Zp ht.1 ht.2.1 (yJ ht.1 ht.2.1 fin),yJ ht.1 ht.2.1 (Zp ht.1 ht.2.1 fin)⟩⟩
 ·have hge:ts.length≤k:=by simpa using hc
  rw [List.take_of_length_le hge]
  exact ⟨_,_,_,_,rfl,hκ⟩
theorem zem {ts:List zI} (hts:TsV ts) {κ:xv→Prop} (hκ:κ (bx (uQ ts))):ZT ts κ:=by
 have h:=hts.1
 have hl:=hts.2
 unfold ZT
 refine Vu (by omega) ?_
 rw [decide_eq_true hts]
 refine jO (zdO ?_)
 refine jb ts.length (fun s=>s.2) (fun k s=>s.2=(k:Int)∧k≤ts.length∧s.1=L4 (uQ (ts.take k))) (fun k s h=>h.1) (fun k s h=>h.2.1) ?_ ⟨rfl,Nat.zero_le _,by simp [uQ,L4,bx]⟩
 rintro k ⟨xs,t⟩ next ⟨rfl,hk,hx⟩ hn
 simp only at hx
 subst hx
 refine zr (fun hc=>?_) (fun hc=>?_)
 ·have hlt:k<ts.length:=by simpa using hc
  have ht:=h _ (List.getElem_mem hlt)
  have hpre:∀ t∈ts.take k,TV t:=fun t ht=>h t (List.mem_of_mem_take ht)
  have hb:=UG hpre
  have hs:=YU hb ht.1 ht.2.1
  have htop:=X5 ts[k].xField
  refine zt k rfl hlt ?_
  unfold jnW
  refine zt k rfl hlt ?_
  have fin:xM (uR (uQ (ts.take k)) ts[k].xField) (tsp ts[k]) (fun r40=>zF (L4 (uQ (ts.take k))) ts[k].xField (fun e42=>jy (k:Int) 1 (fun t58=>next ((L4 (uQ (ts.take k))).set (ts[k].xField).toNat r40,t58)))):=by
   refine zgh hs (zbY ht) (by omega) (by omega) (by omega) (by omega) ?_
   refine Zp ht.1 ht.2.1 (zG (by omega) (by omega) (hn hlt _ ⟨by simp,by omega,?_⟩))
   simp only
   rw [YI ht.1 ht.2.1,List.take_succ_eq_append_getElem hlt,zcs];rfl
  exact ⟨Zp ht.1 ht.2.1 (zaz ht fin),zaz ht (Zp ht.1 ht.2.1 fin)⟩
 ·have hge:ts.length≤k:=by simpa using hc
  rw [List.take_of_length_le hge]
  exact hκ
def pc (r:List zd) (a:za):List za:=if r=[] then [] else [a]
def XL (a b:za):List za :=
 if em4 (ut a b) then (if em4 a then [] else [a]) else
 pc (uK a.x0 b.x0 65535) ⟨uK a.x0 b.x0 65535,a.x1,a.x2,a.x3⟩ ++
 pc (uK a.x1 b.x1 65535) ⟨jd a.x0 b.x0,uK a.x1 b.x1 65535,a.x2,a.x3⟩ ++
 pc (uK a.x2 b.x2 255) ⟨jd a.x0 b.x0,jd a.x1 b.x1,uK a.x2 b.x2 255,a.x3⟩ ++
 pc (uK a.x3 b.x3 7) ⟨jd a.x0 b.x0,jd a.x1 b.x1,jd a.x2 b.x2,uK a.x3 b.x3 7⟩
theorem VB {a b:List zd} {t:Int} (ha:St a t) (hb:St b t):St (uK a b t) t:=Xg ha (UK hb).1
theorem zgY {a b:za} (ha:B4 a) (hb:B4 b):∀ c∈XL a b,B4 c:=by
 have hm:=zbF ha hb
 intro c hc
 unfold XL at hc
 split at hc
 ·split at hc
  ·simp at hc
  ·simp only [List.mem_singleton] at hc;subst hc;exact ha
 ·simp only [List.mem_append,or_assoc] at hc
  have pcm:∀ {r:List zd} {d:za},c∈pc r d→c=d:=fun {r d} h=>by unfold pc at h;split at h <;> simp at h;exact h
  rcases hc with h | h | h | h
  ·rw [pcm h];exact ⟨VB ha.1 hb.1,ha.2.1,ha.2.2.1,ha.2.2.2⟩
  ·rw [pcm h];exact ⟨hm.1,VB ha.2.1 hb.2.1,ha.2.2.1,ha.2.2.2⟩
  ·rw [pcm h];exact ⟨hm.1,hm.2.1,VB ha.2.2.1 hb.2.2.1,ha.2.2.2⟩
  ·rw [pcm h];exact ⟨hm.1,hm.2.1,hm.2.2.1,VB ha.2.2.2 hb.2.2.2⟩
theorem zbv (r:List zd) (a:za):(pc r a).length≤1:=by unfold pc;split <;> simp
theorem zbB (a b:za):(XL a b).length≤4:=by
 unfold XL
 split
 ·split <;> simp
 ·simp only [List.length_append]
  have:=zbv (uK a.x0 b.x0 65535) ⟨uK a.x0 b.x0 65535,a.x1,a.x2,a.x3⟩
  have:=zbv (uK a.x1 b.x1 65535) ⟨jd a.x0 b.x0,uK a.x1 b.x1 65535,a.x2,a.x3⟩
  have:=zbv (uK a.x2 b.x2 255) ⟨jd a.x0 b.x0,jd a.x1 b.x1,uK a.x2 b.x2 255,a.x3⟩
  have:=zbv (uK a.x3 b.x3 7) ⟨jd a.x0 b.x0,jd a.x1 b.x1,jd a.x2 b.x2,uK a.x3 b.x3 7⟩
  omega
theorem xx {σ:Type} {K:σ→Prop} {B:(σ→Prop)→Prop} (h:B K):jnW K B:=h
end
section
open Go Go.Proofs
def hdm (a b:za) (k:Nat):za:=⟨if 0<k then jd a.x0 b.x0 else a.x0,if 1<k then jd a.x1 b.x1 else a.x1,if 2<k then jd a.x2 b.x2 else a.x2,if 3<k then jd a.x3 b.x3 else a.x3⟩
def rst (a b:za) (k:Nat):List zd:=uK (uR a k) (uR b k) (top k)
def mt (a b:za) (k:Nat):List zd:=jd (uR a k) (uR b k)
def pcn (a b:za) (k:Nat):List za:=pc (rst a b k) (Yb (hdm a b k) k (rst a b k))
def pcs (a b:za) (k:Nat):List za:=(List.range k).flatMap (pcn a b)
theorem X4 (a b:za) (k:Nat):pcs a b (k+1)=pcs a b k++pcn a b k:=by simp [pcs,List.range_succ]
theorem zf2 (a b:za):pcs a b 4=pc (uK a.x0 b.x0 65535) ⟨uK a.x0 b.x0 65535,a.x1,a.x2,a.x3⟩ ++
 pc (uK a.x1 b.x1 65535) ⟨jd a.x0 b.x0,uK a.x1 b.x1 65535,a.x2,a.x3⟩ ++
 pc (uK a.x2 b.x2 255) ⟨jd a.x0 b.x0,jd a.x1 b.x1,uK a.x2 b.x2 255,a.x3⟩ ++
 pc (uK a.x3 b.x3 7) ⟨jd a.x0 b.x0,jd a.x1 b.x1,jd a.x2 b.x2,uK a.x3 b.x3 7⟩:=by
 rw [X4,X4,X4,X4];rfl
theorem zgq {a b:za} (h:em4 (ut a b)=false):XL a b=pcs a b 4:=by
 unfold XL;rw [if_neg (by simp [h]),zf2]
theorem Zi {k:Nat} (h:k<4):k=0∨k=1∨k=2∨k=3:=by omega
theorem zgM (a b:za) {k:Nat} (h:k<4):∀ c∈pcn a b k,c∈pcs a b 4:=fun c hc=>by
 unfold pcs;exact List.mem_flatMap.2 ⟨k,by simpa using h,hc⟩
theorem zfZ (a b:za) {k:Nat} (h:k<4):Yb (hdm a b k) k (mt a b k)=hdm a b (k+1):=by
 rcases Zi h with rfl | rfl | rfl | rfl <;> rfl
theorem zhs {a b:za} (ha:F4 a) {k:Nat} (h:k<4) {r:List zd}:F4 (Yb (hdm a b k) k r)↔r.length≤40∧∀ j,j<k→(mt a b j).length≤40:=by
 obtain ⟨h0,h1,h2,h3⟩:=ha
 rcases Zi h with rfl | rfl | rfl | rfl
 ·constructor
  ·intro q;exact ⟨q.1,fun j hj=>by omega⟩
  ·intro q;exact ⟨q.1,h1,h2,h3⟩
 ·constructor
  ·intro q
   refine ⟨q.2.1,fun j hj=>?_⟩
   have ej:j=0:=by omega
   subst ej
   exact q.1
  ·intro q;exact ⟨q.2 0 (by omega),q.1,h2,h3⟩
 ·constructor
  ·intro q
   refine ⟨q.2.2.1,fun j hj=>?_⟩
   obtain rfl | rfl:j=0∨j=1:=by omega
   ·exact q.1
   ·exact q.2.1
  ·intro q;exact ⟨q.2 0 (by omega),q.2 1 (by omega),q.1,h3⟩
 ·constructor
  ·intro q
   refine ⟨q.2.2.2,fun j hj=>?_⟩
   obtain rfl | rfl | rfl:j=0∨j=1∨j=2:=by omega
   ·exact q.1
   ·exact q.2.1
   ·exact q.2.2.1
  ·intro q;exact ⟨q.2 0 (by omega),q.2 1 (by omega),q.2 2 (by omega),q.1⟩
theorem zeD {σ:Type} {K:σ→Prop} {B:(σ→Prop)→Prop} (P:σ→Prop) (h1:∀ r,P r→K r) (h2:∀ K',(∀ r,P r→K' r)→B K'):jnW K B:=h2 K h1
def zbX (a b:za):List za×Bool:=if ∀ c∈XL a b,F4 c then (XL a b,true) else ([],false)
theorem zbh {a b:za} (ha:B4 a) (hb:B4 b) (hf:F4 a) {κ:List za×Bool→Prop} (h:κ (zbX a b)):un a b κ:=by
 have yes:(∀ c∈XL a b,F4 c)→κ (zhO (some (XL a b))):=fun q=>by
  unfold zbX at h;rw [if_pos q] at h;exact h
 have no:(¬ ∀ c∈XL a b,F4 c)→κ (zhO none):=fun q=>by
  unfold zbX at h;rw [if_neg q] at h;exact h
 clear h
 unfold un yH
 refine zbE (zr (fun e=>?_) (fun e=>zcB ha hb (zr (fun e2=>?_) (fun e2=>?_))))
 ·have hc:XL a b=[]:=by
   have:em4 (ut a b)=true:=by
    simp only [em4,decide_eq_true_eq,ut] at e ⊢
    rcases e with e | e | e | e <;> simp [e,jd]
   unfold XL;rw [if_pos this,if_pos e]
  rw [hc] at yes;exact yes (by simp)
 ·have hc:XL a b=[a]:=by
   unfold XL;rw [if_pos (by simpa using e2),if_neg (by simp [e])]
  rw [hc] at yes
  refine jt (jx (by simp) ?_)
  exact yes (by simpa using hf)
 have e3:em4 (ut a b)=false:=by simpa using e2
 rw [zgq e3] at yes no
 clear e e2 e3
 refine jb 4 (fun s=>s.2.2.2) (fun k (s:List (List zd)×Option (List za)×Bool×Int)=>s.2.2.2=(k:Int)∧k≤4∧(∃ hd,s.1=L4 hd∧(s.2.2.1=true→hd=hdm a b k))∧(s.2.2.1=true↔∀ j,j<k→(mt a b j).length≤40)∧s.2.1=some (pcs a b k)∧∀ c∈pcs a b k,F4 c) (fun k s h=>h.1) (fun k s h=>h.2.1) ?_ ⟨rfl,by omega,⟨a,rfl,fun _=>rfl⟩,by simp,rfl,by simp [pcs]⟩
 rintro k ⟨xs,z,fits,_⟩ next ⟨rfl,hk,⟨hd,hxs,hfx⟩,hfit,hz,hpre⟩ hn
 simp only at hxs hfx hfit hz
 subst hxs hz
 refine zr (fun hc=>?_) (fun hc=>?_)
 rotate_left
 ·have hge:4≤(k:Int):=by simpa using hc
  obtain rfl:k=4:=by omega
  exact yes hpre
 have hlt:k<4:=by
  have:(k:Int)<4:=by simpa using hc
  omega
 have k0:(0:Int)≤k:=by omega
 have k3:(k:Int)≤3:=by omega
 have sa:=YU ha k0 k3
 have sb:=YU hb k0 k3
 have tl:=X5 k
 have fin2:∀ (z':List za) (hd':za),z'=pcs a b (k+1)→(∀ c∈z',F4 c)→(fits=true→hd'=hdm a b k)→∀ l ok,(l,ok)=lim (mt a b k)→zF (L4 hd') k (fun e432=>ifW fits (jy (k:Int) 1 (fun t505=>next ((L4 hd').set (k:Int).toNat l,some z',ok,t505))) (jy (k:Int) 1 (fun t505=>next ((L4 hd').set (k:Int).toNat l,some z',false,t505)))):=by
  intro z' hd' hz' hF hh l ok hl
  subst hz'
  refine Zp k0 k3 (zr (fun e=>?_) (fun e=>?_))
  ·refine zG (by omega) (by omega) (hn hlt _ ⟨by simp,by omega,⟨Yb hd' k l,YI k0 k3,fun q=>?_⟩,?_,rfl,hF⟩)
   ·simp only at q
    rw [hh e]
    unfold lim at hl
    split at hl
    ·injection hl with _ h2;rw [q] at h2;cases h2
    ·injection hl with h1 _;rw [h1,zfZ a b hlt]
   ·simp only
    unfold lim at hl
    constructor
    ·intro q j hj
     by_cases ej:j=k
     ·subst ej
      split at hl
      ·injection hl with _ h2;rw [q] at h2;cases h2
      ·omega
     ·exact hfit.1 e j (by omega)
    ·intro q
     have:=q k (by omega)
     rw [if_neg (by omega)] at hl
     injection hl
  ·refine zG (by omega) (by omega) (hn hlt _ ⟨by simp,by omega,⟨Yb hd' k l,YI k0 k3,fun q=>by cases q⟩,?_,rfl,hF⟩)
   simp only
   constructor
   ·intro q;cases q
   ·intro q
    have:=hfit.2 (fun j hj=>q j (by omega))
    rw [this] at e;cases e
 have piece:rst a b k≠[]→Yb (hdm a b k) k (rst a b k)∈pcs a b 4:=fun q=>zgM a b hlt _ (by unfold pcn pc;rw [if_neg q];simp)
 refine xx (zeD (fun r=>r=lim (rst a b k)) ?_ ?_)
 rotate_left
 ·intro K hK
  have leaf:zV (uR a k) (uR b k) (top k) K:=zdn sa sb (by omega) (by omega) (hK _ rfl)
  refine ⟨Zp k0 k3 ⟨?_,?_⟩,Zp k0 k3 ⟨?_,?_⟩,yJ k0 k3 ⟨?_,?_⟩⟩
  ·exact Zp k0 k3 (yJ k0 k3 leaf)
  ·exact yJ k0 k3 (Zp k0 k3 leaf)
  ·exact Zp k0 k3 (yJ k0 k3 leaf)
  ·exact yJ k0 k3 (Zp k0 k3 leaf)
  ·exact Zp k0 k3 (Zp k0 k3 leaf)
  ·exact Zp k0 k3 (Zp k0 k3 leaf)
 rintro ⟨l,okl⟩ hl
 refine zeD (fun t=>t=(!okl || (decide (0<(l.length:Int)) && !fits))) ?_ ?_
 rotate_left
 ·intro K hK
  have hK:=hK _ rfl
  refine zr (fun e=>?_) (fun e=>?_)
  ·have:okl=false:=by simpa using e
   rw [this] at hK;simpa using hK
  ·have:okl=true:=by simpa using e
   rw [this] at hK
   refine zr (fun e=>?_) (fun e=>?_)
   ·rw [e] at hK;simpa using hK
   ·rw [e] at hK;simpa using hK
 rintro t rfl
 refine zr (fun e=>?_) (fun e=>?_)
 ·
  refine jO (no (fun q=>?_))
  unfold lim at hl
  split at hl
  ·rename_i h40
   have hne:rst a b k≠[]:=fun f=>by rw [f] at h40;simp at h40
   have:=((zhs hf hlt).1 (q _ (piece hne))).1
   omega
  ·rename_i h40
   injection hl with h1 h2
   subst h1 h2
   have e':0<(rst a b k).length∧fits=false:=by simpa using e
   have hne:rst a b k≠[]:=fun f=>by rw [f] at e';simp at e'
   have:=hfit.2 ((zhs hf hlt).1 (q _ (piece hne))).2
   rw [this] at e';simp at e'
 unfold lim at hl
 split at hl
 ·injection hl with h1 h2
  subst h1 h2
  simp at e
 rename_i h40
 injection hl with h1 h2
 subst h1 h2
 have e':rst a b k≠[]→fits=true:=fun q=>by
  cases fits with
  | true=>rfl
  | false =>
   have:0<(rst a b k).length:=List.length_pos_iff.2 q
   simp [this] at e
 clear e
 refine zeD (fun s=>s.1=some (pcs a b (k+1))∧(∀ c∈pcs a b (k+1),F4 c)∧∃ hd',s.2=L4 hd'∧(fits=true→hd'=hdm a b k)) ?_ ?_
 ·rintro ⟨z,ys⟩ ⟨hz,hF,hd',hy,hh⟩
  simp only at hz hy
  subst hz hy
  refine zeD (fun r=>r=lim (mt a b k)) ?_ ?_
  ·rintro ⟨m,okm⟩ hm
   exact fin2 _ hd' rfl hF hh m okm hm
  ·intro K hK
   have leaf:zz (uR a k) (uR b k) (top k) K:=Z4 sa sb (by omega) (by omega) (hK _ rfl)
   refine ⟨Zp k0 k3 ⟨?_,?_⟩,Zp k0 k3 ⟨?_,?_⟩,yJ k0 k3 ⟨?_,?_⟩⟩
   ·exact Zp k0 k3 (yJ k0 k3 leaf)
   ·exact yJ k0 k3 (Zp k0 k3 leaf)
   ·exact Zp k0 k3 (yJ k0 k3 leaf)
   ·exact yJ k0 k3 (Zp k0 k3 leaf)
   ·exact Zp k0 k3 (Zp k0 k3 leaf)
   ·exact Zp k0 k3 (Zp k0 k3 leaf)
 ·intro K hK
  refine zr (fun e=>?_) (fun e=>?_)
  ·have hne:rst a b k≠[]:=fun f=>by rw [f] at e;simp at e
   have hft:=e' hne
   have ed:=hfx hft
   subst ed
   have hpc:pcs a b (k+1)=pcs a b k++[Yb (hdm a b k) k (rst a b k)]:=by
    rw [X4];unfold pcn pc;rw [if_neg hne]
   refine ⟨_,_,_,_,rfl,Zp (a:=hdm a b k) k0 k3 ⟨(Yb (hdm a b k) k (rst a b k)).x0,(Yb (hdm a b k) k (rst a b k)).x1,(Yb (hdm a b k) k (rst a b k)).x2,(Yb (hdm a b k) k (rst a b k)).x3,YI (a:=hdm a b k) k0 k3,?_⟩⟩
   have hl1:(pcs a b k).length≤4:=by
    have h1:∀ n,(pcs a b n).length≤n:=by
     intro n
     induction n with
     | zero=>simp [pcs]
     | succ n ih =>
      have:=zbv (rst a b n) (Yb (hdm a b n) n (rst a b n))
      rw [X4,List.length_append];unfold pcn;omega
    have:=h1 k;omega
   refine jt (jx (by simp;omega) (jO (hK _ ⟨by rw [hpc],?_,hdm a b k,rfl,fun _=>rfl⟩)))
   intro c hc
   rw [hpc] at hc
   rcases List.mem_append.1 hc with q | q
   ·exact hpre c q
   ·have:c=Yb (hdm a b k) k (rst a b k):=by simpa using q
    rw [this]
    exact (zhs hf hlt).2 ⟨by omega,hfit.1 hft⟩
  ·have hnil:rst a b k=[]:=by
    cases hr:rst a b k with
    | nil=>rfl
    | cons x r=>rw [hr] at e;simp at e
   have hpc:pcs a b (k+1)=pcs a b k:=by
    rw [X4];unfold pcn pc;rw [if_pos hnil];simp
   exact hK _ ⟨by rw [hpc],by rw [hpc];exact hpre,hd,rfl,hfx⟩
end
section
def pv (p:z7):Prop:=(0≤p.xFrom∧p.xFrom≤65535)∧(0≤p.xTo∧p.xTo≤65535)∧(0≤p.xPort∧p.xPort≤255)∧(0≤p.xProto∧p.xProto≤7)
instance (p:z7):Decidable (pv p):=by unfold pv;infer_instance
def tv (t:Int):Prop:=0≤t∧t≤1000000
instance (t:Int):Decidable (tv t):=by unfold tv;infer_instance
def XR (p:z7):Nat→Int
 | 0=>p.xFrom
 | 1=>p.xTo
 | 2=>p.xPort
 | _=>p.xProto
def lv (t:Int):Prop:=0≤t∧t≤1000
instance (t:Int):Decidable (lv t):=by unfold lv;infer_instance
end
section
open Go Go.Proofs
def BV (b:xv):Prop:=∃ a,b=bx a∧B4 a∧F4 a
noncomputable instance (b:xv):Decidable (BV b):=Classical.propDecidable _
def sd (b:xv):za:=match b.xSides with | [x0,x1,x2,x3]=>⟨x0,x1,x2,x3⟩ | _=>zfb
theorem zf8 (a:za):sd (bx a)=a:=rfl
theorem BV.eq {b:xv} (h:BV b):b=bx (sd b):=by obtain ⟨a,rfl,_⟩:=h;rfl
theorem BV.b4 {b:xv} (h:BV b):B4 (sd b):=by obtain ⟨a,rfl,h,_⟩:=h;exact h
theorem BV.f4 {b:xv} (h:BV b):F4 (sd b):=by obtain ⟨a,rfl,_,h⟩:=h;exact h
theorem zdz {a:za}:BV (bx a)↔B4 a∧F4 a:=⟨fun h=>⟨h.b4,h.f4⟩,fun h=>⟨a,rfl,h⟩⟩
theorem Vf {b:xv} (h:BV b):b.xSides.length=4:=by obtain ⟨a,rfl,_⟩:=h;rfl
theorem ziB {α:Type} {l:List α} (h:l.length=4):∃ a b c d,l=[a,b,c,d]:=by
 match l,h with
 | [a,b,c,d],_=>exact ⟨a,b,c,d,rfl⟩
theorem zhT {b:xv} (h:b.xSides.length=4):b=bx (sd b):=by
 obtain ⟨x0,x1,x2,x3,e⟩:=ziB h
 obtain ⟨s⟩:=b
 simp only at e
 subst e
 rfl
theorem zcL {a:za}:BV (bx a)↔∀ n:Nat,n<4→SpV (uR a n) (top n):=by
 rw [zdz]
 constructor
 ·rintro ⟨⟨b0,b1,b2,b3⟩,f0,f1,f2,f3⟩ n hn
  rcases Zi hn with rfl | rfl | rfl | rfl
  ·exact ⟨f0,b0⟩
  ·exact ⟨f1,b1⟩
  ·exact ⟨f2,b2⟩
  ·exact ⟨f3,b3⟩
 ·intro h
  obtain ⟨f0,b0⟩:=h 0 (by decide)
  obtain ⟨f1,b1⟩:=h 1 (by decide)
  obtain ⟨f2,b2⟩:=h 2 (by decide)
  obtain ⟨f3,b3⟩:=h 3 (by decide)
  exact ⟨⟨b0,b1,b2,b3⟩,f0,f1,f2,f3⟩
def Bb (b:xv):Prop:=b.xSides.length≤4294967296∧∀ x∈b.xSides,x.length≤4294967296
def Fb (l:List z8):Prop:=l.length≤4294967296∧∀ f∈l,Bb f.xWhere
theorem BV.bb {b:xv} (h:BV b):Bb b:=by
 obtain ⟨a,rfl,_,f0,f1,f2,f3⟩:=h
 refine ⟨by simp [bx],fun x hx=>?_⟩
 simp only [bx,List.mem_cons,List.not_mem_nil,or_false] at hx
 rcases hx with rfl | rfl | rfl | rfl <;> omega
theorem zfu (a:za) {n:Nat} (h:n<4):uR a n∈(bx a).xSides:=by
 rcases Zi h with rfl | rfl | rfl | rfl <;> simp [uR,bx]
theorem Y5 {b:xv} (hb:Bb b) {κ:Bool→Prop} (h:κ (decide (BV b))):yB b κ:=by
 unfold yB
 have h1:=hb.1
 refine zr (fun e=>?_) (fun e=>?_)
 ·have e':¬ b.xSides.length=4:=fun q=>by rw [q] at e;simp at e
  rw [decide_eq_false (fun q=>e' (Vf q))] at h;exact h
 have e4:b.xSides.length=4:=by
  have:(b.xSides.length:Int)=4:=by simpa using e
  omega
 obtain ⟨a,rfl⟩:∃ a,b=bx a:=⟨_,zhT e4⟩
 clear e e4
 refine jb 4 (fun s=>s) (fun k s=>s=(k:Int)∧k≤4∧∀ n:Nat,n<k→SpV (uR a n) (top n)) (fun k s h=>h.1) (fun k s h=>h.2.1) ?_ ⟨rfl,by omega,fun n h=>by omega⟩
 rintro k _ next ⟨rfl,hk,hv⟩ hn
 refine zr (fun hc=>?_) (fun hc=>?_)
 ·have hlt:k<4:=by
   have:(k:Int)<4:=by simpa [bx] using hc
   omega
  have k0:(0:Int)≤k:=by omega
  have k3:(k:Int)≤3:=by omega
  have tl:=X5 k
  refine Zp k0 k3 (yJ k0 k3 (Vv (by have:=hb.2 _ (zfu a hlt);omega) (by omega) (by omega) (zr (fun e=>?_) (fun e=>?_))))
  ·have:¬ SpV (uR a k) (top k):=by simpa using e
   rw [decide_eq_false (fun q=>this (zcL.1 q k hlt))] at h;exact h
  ·have:SpV (uR a k) (top k):=by simpa using e
   refine zG (by omega) (by omega) (hn hlt _ ⟨by simp,by omega,fun n hnk=>?_⟩)
   by_cases q:n=k
   ·subst q;exact this
   ·exact hv n (by omega)
 ·have hge:k=4:=by
   have:(4:Int)≤k:=by simpa [bx] using hc
   omega
  subst hge
  rw [decide_eq_true (zcL.2 hv)] at h;exact h
theorem Y3 {b:xv} (hb:Bb b) {κ:Bool→Prop} (h:κ (decide (BV b))):yC b κ:=by
 unfold yC
 have h1:=hb.1
 refine jb b.xSides.length (fun s=>s) (fun k s=>s=(k:Int)∧k≤b.xSides.length∧k≤4∧∀ n:Nat,n<k→∀ q:n<b.xSides.length,SpV (b.xSides[n]) (top n)) (fun k s h=>h.1) (fun k s h=>h.2.1) ?_ ⟨rfl,by omega,by omega,fun n h=>by omega⟩
 rintro k _ next ⟨rfl,hk,hk4,hv⟩ hn
 refine zr (fun hc=>?_) (fun hc=>?_)
 ·have hlt:k<b.xSides.length:=by simpa using hc
  refine xx (zr (fun e=>?_) (fun e=>?_))
  ·have e':4≤k:=by
    have:(4:Int)≤k:=by simpa using e
    omega
   rw [decide_eq_false (fun q=>by have:=Vf q;omega)] at h
   exact jt h
  have e':k<4:=by
   have:¬ (4:Int)≤k:=by simpa using e
   omega
  have k0:(0:Int)≤k:=by omega
  have k3:(k:Int)≤3:=by omega
  have tl:=X5 k
  refine zt k rfl hlt (xl k0 k3 (Vp (hb.2 _ (List.getElem_mem hlt)) (by omega) (by omega) (zr (fun e=>?_) (fun e=>?_))))
  ·have no:¬ SpV (b.xSides[k]) (top k):=by simpa using e
   rw [decide_eq_false (fun q=>no ?_)] at h
   ·exact h
   ·obtain ⟨a,rfl,_⟩:=id q
    have:=zcL.1 q k e'
    have e2:(bx a).xSides[k]=uR a k:=by rcases Zi e' with rfl | rfl | rfl | rfl <;> rfl
    rw [e2];exact this
  ·have yes:SpV (b.xSides[k]) (top k):=by simpa using e
   refine zG (by omega) (by omega) (hn hlt _ ⟨by simp,by omega,by omega,fun n hnk q=>?_⟩)
   by_cases e:n=k
   ·subst e;exact yes
   ·exact hv n (by omega) q
 ·have hge:b.xSides.length=k:=by
   have:b.xSides.length≤k:=by simpa using hc
   omega
  have:decide (BV b)=decide ((b.xSides.length:Int)=4):=decide_eq_decide.2 ⟨fun q=>by have:=Vf q;omega,fun q=>by
   have e4:b.xSides.length=4:=by omega
   obtain ⟨a,rfl⟩:∃ a,b=bx a:=⟨_,zhT e4⟩
   refine zcL.2 (fun n hn4=>?_)
   have:=hv n (by omega) (by simpa [bx] using hn4)
   have e2:(bx a).xSides[n]'(by simpa [bx] using hn4)=uR a n:=by rcases Zi hn4 with rfl | rfl | rfl | rfl <;> rfl
   rw [e2] at this;exact this⟩
  rw [this] at h;exact h
def FV (l:List z8):Prop:=l.length≤60∧∀ f∈l,BV f.xWhere
noncomputable instance (l:List z8):Decidable (FV l):=Classical.propDecidable _
theorem FV.fb {l:List z8} (h:FV l):Fb l:=⟨by have:=h.1;omega,fun f hf=>(h.2 f hf).bb⟩
theorem Xa {l:List z8} (hl:Fb l) {κ:Bool→Prop} (h:κ (decide (FV l))):uB l κ:=by
 unfold uB
 have h1:=hl.1
 refine zr (fun e=>?_) (fun e=>?_)
 ·rw [decide_eq_false (fun q=>by have:=q.1;simp at e;omega)] at h;exact h
 have h60:l.length≤60:=by simp at e;omega
 refine jb l.length (fun s=>s) (fun k s=>s=(k:Int)∧k≤l.length∧∀ f∈l.take k,BV f.xWhere) (fun k s h=>h.1) (fun k s h=>h.2.1) ?_ ⟨rfl,by omega,by simp⟩
 rintro k _ next ⟨rfl,hk,hv⟩ hn
 refine zr (fun hc=>?_) (fun hc=>?_)
 ·have hlt:k<l.length:=by simpa using hc
  refine zt k rfl hlt (Y5 (hl.2 _ (List.getElem_mem hlt)) (zr (fun e=>?_) (fun e=>?_)))
  ·have:¬ BV (l[k].xWhere):=by simpa using e
   rw [decide_eq_false (fun q=>this (q.2 _ (List.getElem_mem hlt)))] at h;exact h
  ·have:BV (l[k].xWhere):=by simpa using e
   refine zG (by omega) (by omega) (hn hlt _ ⟨by simp,by omega,fun f hf=>?_⟩)
   rw [List.take_succ_eq_append_getElem hlt] at hf
   rcases List.mem_append.1 hf with q | q
   ·exact hv f q
   ·simp only [List.mem_singleton] at q;rw [q];exact this
 ·have hge:l.length≤k:=by simpa using hc
  rw [List.take_of_length_le hge] at hv
  rw [decide_eq_true (show FV l from ⟨h60,hv⟩)] at h;exact h
theorem Vq {l:List z8} (hl:Fb l) {κ:Bool→Prop} (h:κ (decide (FV l))):yT l κ:=by
 unfold yT
 have h1:=hl.1
 refine jb l.length (fun s=>s) (fun k s=>s=(k:Int)∧k≤l.length∧∀ f∈l.take k,BV f.xWhere) (fun k s h=>h.1) (fun k s h=>h.2.1) ?_ ⟨rfl,by omega,by simp⟩
 rintro k _ next ⟨rfl,hk,hv⟩ hn
 refine zr (fun hc=>?_) (fun hc=>?_)
 ·have hlt:k<l.length:=by simpa using hc
  refine zt k rfl hlt (Y3 (hl.2 _ (List.getElem_mem hlt)) (zr (fun e=>?_) (fun e=>?_)))
  ·have:¬ BV (l[k].xWhere):=by simpa using e
   rw [decide_eq_false (fun q=>this (q.2 _ (List.getElem_mem hlt)))] at h;exact h
  ·have:BV (l[k].xWhere):=by simpa using e
   refine zG (by omega) (by omega) (hn hlt _ ⟨by simp,by omega,fun f hf=>?_⟩)
   rw [List.take_succ_eq_append_getElem hlt] at hf
   rcases List.mem_append.1 hf with q | q
   ·exact hv f q
   ·simp only [List.mem_singleton] at q;rw [q];exact this
 ·have hge:l.length≤k:=by simpa using hc
  rw [List.take_of_length_le hge] at hv
  rw [show decide (FV l)=decide ((l.length:Int)≤60) from decide_eq_decide.2 ⟨fun q=>by have:=q.1;omega,fun q=>⟨by omega,hv⟩⟩] at h;exact h
theorem zcG {b:xv} (hb:b.xSides.length=4) {κ:za→Prop} (h:κ (sd b)):Zc b κ:=by
 have e:=zhT hb
 rw [e] at h ⊢
 exact ⟨_,_,_,_,[],rfl,h⟩
def fl (f:z8):zo:=⟨sd f.xWhere,f.xAccept⟩
theorem YJ {α β:Type} (a:List α) (f:α→β) (hl:a.length≤4294967296) {κ:List β→Prop} (T:α→(β→Prop)→Prop) (hT:∀ x ψ,x∈a→ψ (f x)→T x ψ) (hκ:κ (a.map f))
  (F:(List β×Int→Prop)→List β×Int→Prop)
  (hF:∀ nx xs t,(ifW (decide (t<(a.length:Int))) (zF a t (fun e=>T e (fun r=>xu xs [r] (fun _=>jy t 1 (fun u=>nx (xs++[r],u)))))) (κ xs))→F nx (xs,t)):jB F ([],0):=by
 refine jb a.length (fun s=>s.2) (fun k s=>s.2=(k:Int)∧k≤a.length∧s.1=(a.take k).map f) (fun k s h=>h.1) (fun k s h=>h.2.1) ?_ ⟨rfl,Nat.zero_le _,by simp⟩
 rintro k ⟨ys,t⟩ next ⟨rfl,hk,hy⟩ hn
 simp only at hy
 subst hy
 refine hF _ _ _ (zr (fun hc=>?_) (fun hc=>?_))
 ·have hlt:k<a.length:=by simpa using hc
  refine zt k rfl hlt (hT _ _ (List.getElem_mem hlt) (jx (by simp;omega) (zG (by omega) (by omega) (hn hlt _ ⟨by simp,by omega,?_⟩))))
  rw [List.take_succ_eq_append_getElem hlt,List.map_append];rfl
 ·have hge:a.length≤k:=by simpa using hc
  rw [List.take_of_length_le hge];exact hκ
theorem zcn {l:List z8} (hl:l.length≤4294967296) (h4:∀ f∈l,f.xWhere.xSides.length=4) {κ:List zo→Prop} (h:κ (l.map fl)):Zb l κ:=by
 unfold Zb
 refine Un 0 rfl (by omega) (by omega) ?_
 exact YJ l fl hl (fun x ψ=>Zc x.xWhere (fun r=>ψ (zo.mk r x.xAccept))) (fun x ψ hx hψ=>zcG (h4 x hx) hψ) h _ (fun nx xs t hh=>hh)
theorem zds {l:List zo} (hl:l.length≤4294967296) {κ:List za→Prop} (h:κ (l.map (·.xWhere))):ZJ l κ:=by
 unfold ZJ
 refine Un 0 rfl (by omega) (by omega) ?_
 exact YJ l (·.xWhere) hl (fun x ψ=>ψ x.xWhere) (fun x ψ hx hψ=>hψ) h _ (fun nx xs t hh=>hh)
theorem zis {a:za} (hl:∀ x∈L4 a,x.length≤4294967296) {κ:xv→Prop} (h:κ (bx a)):yn a κ:=by
 unfold yn
 refine Un 4 rfl (by decide) (by decide) ?_
 obtain ⟨x0,x1,x2,x3⟩:=a
 have l0:=hl x0 (by simp [L4])
 have l1:=hl x1 (by simp [L4])
 have l2:=hl x2 (by simp [L4])
 have l3:=hl x3 (by simp [L4])
 refine ⟨5,?_⟩
 refine jt (zt 0 rfl (by simp) (jx (by simpa using l0) (zt 0 rfl (by simp) (zG (by decide) (by decide) ?_))))
 refine jt (zt 1 rfl (by simp) (jx (by simpa using l1) (zt 1 rfl (by simp) (zG (by decide) (by decide) ?_))))
 refine jt (zt 2 rfl (by simp) (jx (by simpa using l2) (zt 2 rfl (by simp) (zG (by decide) (by decide) ?_))))
 refine jt (zt 3 rfl (by simp) (jx (by simpa using l3) (zt 3 rfl (by simp) (zG (by decide) (by decide) ?_))))
 exact jO h
theorem zii {a:za} (h:F4 a):∀ x∈L4 a,x.length≤4294967296:=fun x hx=>by
 obtain ⟨f0,f1,f2,f3⟩:=h
 simp only [L4,List.mem_cons,List.not_mem_nil,or_false] at hx
 rcases hx with rfl | rfl | rfl | rfl <;> omega
theorem zd5 {b:xv} (hb:Bb b) {κ:xv→Prop} (h:κ b):XP b κ:=zaX hb.1 hb.2 h
theorem zdh {f:z8} (hb:Bb f.xWhere) {κ:z8→Prop} (h:κ f):Zl f κ:=zd5 hb h
theorem zaF {l:List z8} (hl:Fb l) {κ:List z8→Prop} (h:κ l):u5 l κ:=by
 unfold u5
 exact YJ l id hl.1 (fun x ψ=>Zl x ψ) (fun x ψ hx hψ=>zdh (hl.2 x hx) hψ) (by simpa using h) _ (fun nx xs t hh=>hh)
def hb4 (a:za) (p:z7):Prop:=hv a.x0 p.xFrom∧hv a.x1 p.xTo∧hv a.x2 p.xPort∧hv a.x3 p.xProto
instance (a:za) (p:z7):Decidable (hb4 a p):=by unfold hb4;infer_instance
theorem zcY (a:za) (p:z7):hb4 a p↔∀ n:Nat,n<4→hv (uR a n) (XR p n):=by
 constructor
 ·rintro ⟨h0,h1,h2,h3⟩ n hn
  rcases Zi hn with rfl | rfl | rfl | rfl
  ·exact h0
  ·exact h1
  ·exact h2
  ·exact h3
 ·intro h
  exact ⟨h 0 (by decide),h 1 (by decide),h 2 (by decide),h 3 (by decide)⟩
end
section
open Go Go.Proofs
def Y7 (l:List za):Prop:=∀ c∈l,F4 c
instance (l:List za):Decidable (Y7 l):=by unfold Y7;infer_instance
def aB (l:List za):Prop:=∀ c∈l,B4 c
theorem VA:Y7 []:=fun c h=>by simp at h
theorem zd2:aB []:=fun c h=>by simp at h
theorem ym {l m:List za}:Y7 (l++m)↔Y7 l∧Y7 m:=by
 unfold Y7
 simp only [List.mem_append]
 exact ⟨fun h=>⟨fun c hc=>h c (.inl hc),fun c hc=>h c (.inr hc)⟩,fun h c hc=>hc.elim (h.1 c) (h.2 c)⟩
theorem X1 {l m:List za}:aB (l++m)↔aB l∧aB m:=by
 unfold aB
 simp only [List.mem_append]
 exact ⟨fun h=>⟨fun c hc=>h c (.inl hc),fun c hc=>h c (.inr hc)⟩,fun h c hc=>hc.elim (h.1 c) (h.2 c)⟩
def xq (left:List za) (b:za):List za:=left.flatMap (fun c=>XL c b)
def okR (l:List za):Prop:=Y7 l∧l.length≤400
instance (l:List za):Decidable (okR l):=by unfold okR;infer_instance
def lgo:List za→List za→Option (List za)
 | left,[]=>some left
 | left,b :: bs=>if okR (xq left b) then lgo (xq left b) bs else none
def Ye (a:za) (bs:List za):Option (List za):=if em4 a then some [] else lgo [a] bs
def zib:Option (List za)→List za×Bool
 | some l=>(l,true)
 | none=>([],false)
theorem zeP:∀ (bs:List za),lgo [] bs=some []
 | []=>rfl
 | b :: bs=>by
  have e:xq [] b=[]:=rfl
  unfold lgo
  rw [e,if_pos ⟨VA,by simp⟩]
  exact zeP bs
theorem Z1 (l m:List za) (b:za):xq (l++m) b=xq l b++xq m b:=by simp [xq]
theorem XX (c b:za):xq [c] b=XL c b:=by simp [xq]
theorem UT {left:List za} {b:za} (hl:aB left) (hb:B4 b):aB (xq left b):=fun c hc=>by
 obtain ⟨d,hd,hc⟩:=List.mem_flatMap.1 hc
 exact zgY (hl d hd) hb c hc
theorem zhe:∀ {bs left r:List za},aB left→aB bs→lgo left bs=some r→aB r
 | [],left,r,hl,hb,h=>by simp only [lgo,Option.some.injEq] at h;rw [← h];exact hl
 | b :: bs,left,r,hl,hb,h=>by
  unfold lgo at h
  split at h
  ·exact zhe (UT hl (hb b (by simp))) (fun c hc=>hb c (by simp [hc])) h
  ·cases h
theorem zfJ:∀ {bs left r:List za},okR left→lgo left bs=some r→okR r
 | [],left,r,hl,h=>by simp only [lgo,Option.some.injEq] at h;rw [← h];exact hl
 | b :: bs,left,r,hl,h=>by
  unfold lgo at h
  split at h
  ·rename_i q;exact zfJ q h
  ·cases h
theorem zbd {a:za} {bs r:List za} (ha:B4 a) (hf:F4 a) (hb:aB bs) (h:Ye a bs=some r):aB r∧okR r:=by
 unfold Ye at h
 split at h
 ·injection h with h;subst h;exact ⟨zd2,VA,by simp⟩
 ·exact ⟨zhe (fun c hc=>by simp only [List.mem_singleton] at hc;subst hc;exact ha) hb h,zfJ ⟨fun c hc=>by simp only [List.mem_singleton] at hc;subst hc;exact hf,by simp⟩ h⟩
def hbs (l:List za) (p:z7):Prop:=∃ c∈l,hb4 c p
instance (l:List za) (p:z7):Decidable (hbs l p):=by unfold hbs;infer_instance
theorem Xh (p:z7):¬ hbs [] p:=by simp [hbs]
theorem yx (l m:List za) (p:z7):hbs (l++m) p↔hbs l p∨hbs m p:=by
 unfold hbs
 simp only [List.mem_append]
 constructor
 ·rintro ⟨c,h | h,k⟩
  ·exact .inl ⟨c,h,k⟩
  ·exact .inr ⟨c,h,k⟩
 ·rintro (⟨c,h,k⟩ | ⟨c,h,k⟩)
  ·exact ⟨c,.inl h,k⟩
  ·exact ⟨c,.inr h,k⟩
theorem YM (c:za) (p:z7):hbs [c] p↔hb4 c p:=by simp [hbs]
theorem V7 {a b:List zd} {t x:Int} (ha:St a t) (hb:St b t):hv (uK a b t) x↔hv a x∧¬ hv b x:=by
 unfold uK
 rw [Zz,zaw hb]
 exact ⟨fun h=>⟨h.1,h.2.2.2⟩,fun h=>⟨h.1,(ZH ha h.1).1,(ZH ha h.1).2,h.2⟩⟩
theorem Uk (a b:za) (p:z7):hb4 (ut a b) p↔hb4 a p∧hb4 b p:=by
 unfold hb4 ut
 simp only [Zz]
 exact ⟨fun ⟨⟨a0,b0⟩,⟨a1,b1⟩,⟨a2,b2⟩,a3,b3⟩=>⟨⟨a0,a1,a2,a3⟩,b0,b1,b2,b3⟩,fun ⟨⟨a0,a1,a2,a3⟩,b0,b1,b2,b3⟩=>⟨⟨a0,b0⟩,⟨a1,b1⟩,⟨a2,b2⟩,a3,b3⟩⟩
theorem zc0 {a:za} (h:em4 a=true) (p:z7):¬ hb4 a p:=by
 rintro ⟨h0,h1,h2,h3⟩
 simp only [em4,decide_eq_true_eq] at h
 rcases h with e | e | e | e
 ·rw [e] at h0;exact ug _ h0
 ·rw [e] at h1;exact ug _ h1
 ·rw [e] at h2;exact ug _ h2
 ·rw [e] at h3;exact ug _ h3
theorem zcR {r:List zd} {c:za} {p:z7} (h:r=[]→¬ hb4 c p):hbs (pc r c) p↔hb4 c p:=by
 unfold pc
 split
 ·rename_i e;exact ⟨fun q=>absurd q (Xh p),fun q=>absurd q (h e)⟩
 ·exact YM c p
theorem zeT {a b:za} (ha:B4 a) (hb:B4 b) (p:z7):hbs (XL a b) p↔hb4 a p∧¬ hb4 b p:=by
 unfold XL
 split
 ·rename_i e
  have no:=zc0 e p
  rw [Uk] at no
  split
  ·rename_i e2;exact ⟨fun q=>absurd q (Xh p),fun q=>absurd q.1 (zc0 e2 p)⟩
  ·rw [YM];exact ⟨fun q=>⟨q,fun r=>no ⟨q,r⟩⟩,fun q=>q.1⟩
 ·obtain ⟨p0,p1,p2,p3⟩:=ha
  obtain ⟨q0,q1,q2,q3⟩:=hb
  rw [yx,yx,yx]
  rw [zcR (fun e q=>ug _ (e ▸ q.1)),zcR (fun e q=>ug _ (e ▸ q.2.1)),zcR (fun e q=>ug _ (e ▸ q.2.2.1)),zcR (fun e q=>ug _ (e ▸ q.2.2.2))]
  simp only [hb4,Zz,V7 p0 q0,V7 p1 q1,V7 p2 q2,V7 p3 q3]
  by_cases c0:hv b.x0 p.xFrom <;> by_cases c1:hv b.x1 p.xTo <;> by_cases c2:hv b.x2 p.xPort <;> by_cases c3:hv b.x3 p.xProto <;> simp only [c0,c1,c2,c3,not_true,not_false_eq_true,and_true,and_false,true_and,false_and,or_false,false_or,iff_self,and_self,or_self]
theorem zdu {left:List za} {b:za} (hl:aB left) (hb:B4 b) (p:z7):hbs (xq left b) p↔hbs left p∧¬ hb4 b p:=by
 constructor
 ·rintro ⟨c,hc,k⟩
  obtain ⟨d,hd,hc⟩:=List.mem_flatMap.1 hc
  have:=(zeT (hl d hd) hb p).1 ⟨c,hc,k⟩
  exact ⟨⟨d,hd,this.1⟩,this.2⟩
 ·rintro ⟨⟨d,hd,k⟩,hn⟩
  obtain ⟨c,hc,k⟩:=(zeT (hl d hd) hb p).2 ⟨k,hn⟩
  exact ⟨c,List.mem_flatMap.2 ⟨d,hd,hc⟩,k⟩
theorem zgg:∀ {bs left r:List za},aB left→aB bs→lgo left bs=some r→∀ p,hbs r p↔hbs left p∧¬ hbs bs p
 | [],left,r,hl,hb,h,p=>by
  simp only [lgo,Option.some.injEq] at h;rw [← h]
  exact ⟨fun q=>⟨q,Xh p⟩,fun q=>q.1⟩
 | b :: bs,left,r,hl,hb,h,p=>by
  unfold lgo at h
  split at h
  ·have hb0:=hb b (by simp)
   rw [zgg (UT hl hb0) (fun c hc=>hb c (by simp [hc])) h p,zdu hl hb0]
   have e:hbs (b :: bs) p↔hb4 b p∨hbs bs p:=by
    have:=yx [b] bs p
    rw [YM] at this
    exact this
   rw [e]
   exact ⟨fun q=>⟨q.1.1,fun r=>r.elim q.1.2 q.2⟩,fun q=>⟨⟨q.1,fun r=>q.2 (.inl r)⟩,fun r=>q.2 (.inr r)⟩⟩
  ·cases h
theorem zdv {a:za} {bs r:List za} (ha:B4 a) (hb:aB bs) (h:Ye a bs=some r) (p:z7):hbs r p↔hb4 a p∧¬ hbs bs p:=by
 unfold Ye at h
 split at h
 ·rename_i e
  injection h with h;subst h
  exact ⟨fun q=>absurd q (Xh p),fun q=>absurd q.1 (zc0 e p)⟩
 ·rw [zgg (fun c hc=>by simp only [List.mem_singleton] at hc;subst hc;exact ha) hb h p,YM]
theorem zaA {a:za} {bs:List za} (ha:B4 a) (hf:F4 a) (hb:aB bs) (hl:bs.length≤4294967296) {κ:List za×Bool→Prop} (h:κ (zib (Ye a bs))):xX a bs κ:=by
 unfold xX
 refine zbE (zr (fun e=>?_) (fun e=>?_))
 ·unfold Ye at h;rw [if_pos e] at h;exact h
 unfold Ye at h;rw [if_neg (by simp [e])] at h
 refine xx ?_
 refine jb bs.length (fun s=>s.2) (fun k (s:List za×Int)=>s.2=(k:Int)∧k≤bs.length∧aB s.1∧okR s.1∧lgo [a] bs=lgo s.1 (bs.drop k)) (fun k s h=>h.1) (fun k s h=>h.2.1) ?_ ⟨rfl,by omega,fun c hc=>by simp only [List.mem_singleton] at hc;subst hc;exact ha,⟨fun c hc=>by simp only [List.mem_singleton] at hc;subst hc;exact hf,by simp⟩,rfl⟩
 rintro k ⟨left,_⟩ next ⟨rfl,hk,hB,hO,he⟩ hn
 simp only at hB hO he
 refine zr (fun hc=>?_) (fun hc=>?_)
 rotate_left
 ·have hge:bs.length≤k:=by simpa using hc
  rw [he,List.drop_of_length_le hge] at h
  exact h
 have hlt:k<bs.length:=by simpa using hc
 rw [List.drop_eq_getElem_cons hlt] at he
 have hbk:=hb _ (List.getElem_mem hlt)
 have no:¬ okR (xq left bs[k])→κ ([],false):=fun q=>by
  rw [he] at h;unfold lgo at h;rw [if_neg q] at h;exact h
 refine zt k rfl hlt ?_
 have hlen:=hO.2
 refine jb left.length (fun s=>s.2) (fun j (s:List za×Int)=>s.2=(j:Int)∧j≤left.length∧s.1=xq (left.take j) bs[k]∧okR (xq (left.take j) bs[k])) (fun k s h=>h.1) (fun k s h=>h.2.1) ?_ ⟨rfl,by omega,by simp [xq],by simp [xq,okR,Y7]⟩
 rintro j ⟨_,_⟩ next2 ⟨rfl,hj,hx,hok⟩ hn2
 simp only at hx
 subst hx
 refine zr (fun hc2=>?_) (fun hc2=>?_)
 ·have hjl:j<left.length:=by simpa using hc2
  have hcB:=hB _ (List.getElem_mem hjl)
  have hcF:=hO.1 _ (List.getElem_mem hjl)
  have hl4:=zbB left[j] bs[k]
  have hl2:=hok.2
  have split3:xq left bs[k]=xq (left.take j) bs[k]++(XL left[j] bs[k]++xq (left.drop (j+1)) bs[k]):=by
   have:=List.take_append_drop j left
   rw [List.drop_eq_getElem_cons hjl] at this
   have e2:=congrArg (fun l=>xq l bs[k]) this
   simp only [Z1] at e2
   rw [← e2]
   rw [show left[j] :: left.drop (j+1)=[left[j]]++left.drop (j+1) from rfl,Z1,XX]
  refine zt j rfl hjl (zbh hcB hbk hcF ?_)
  by_cases hFc:∀ c∈XL left[j] bs[k],F4 c
  ·rw [show zbX left[j] bs[k]=(XL left[j] bs[k],true) from if_pos hFc]
   refine xx (jO (zG (by omega) (by omega) (zr (fun e=>no (fun q=>?_)) (fun e=>?_))))
   ·have:=q.2
    rw [split3] at this
    simp only [List.length_append] at this
    simp at e
    omega
   ·have e':(xq (left.take j) bs[k]).length+(XL left[j] bs[k]).length≤400:=by simp at e;omega
    refine jx (by omega) (zG (by omega) (by omega) (hn2 hjl _ ⟨by simp,by omega,?_,?_⟩))
    ·rw [List.take_succ_eq_append_getElem hjl,Z1,XX]
    ·rw [List.take_succ_eq_append_getElem hjl,Z1,XX]
     exact ⟨ym.2 ⟨hok.1,hFc⟩,by rw [List.length_append];exact e'⟩
  ·rw [show zbX left[j] bs[k]=([],false) from if_neg hFc]
   refine xx (jt (jt (no (fun q=>hFc ?_))))
   have:=q.1
   rw [split3] at this
   exact (ym.1 (ym.1 this).2).1
 ·have hjge:left.length≤j:=by simpa using hc2
  rw [List.take_of_length_le hjge] at hok ⊢
  have he2:lgo [a] bs=lgo (xq left bs[k]) (bs.drop (k+1)):=by
   rw [he];conv=>lhs;unfold lgo
   rw [if_pos hok]
  refine zr (fun e=>?_) (fun e=>?_)
  ·have:xq left bs[k]=[]:=by
    have:(xq left bs[k]).length=0:=by
     have:((xq left bs[k]).length:Int)=0:=by simpa using e
     omega
    exact List.length_eq_zero_iff.1 this
   rw [this] at he2 ⊢
   rw [he2,zeP] at h
   exact h
  ·exact zG (by omega) (by omega) (hn hlt _ ⟨by simp,by omega,UT hB hbk,hok,he2⟩)
def IV (l:List zo):Prop:=∀ f∈l,B4 f.xWhere∧F4 f.xWhere
theorem FV.iv {l:List z8} (h:FV l):IV (l.map fl):=fun f hf=>by
 obtain ⟨g,hg,rfl⟩:=List.mem_map.1 hf
 exact ⟨(h.2 g hg).b4,(h.2 g hg).f4⟩
def whs (l:List zo):List za:=l.map (·.xWhere)
theorem IV.aB {l:List zo} (h:IV l):aB (whs l):=fun c hc=>by
 obtain ⟨f,hf,rfl⟩:=List.mem_map.1 hc
 exact (h f hf).1
theorem IV.take {l:List zo} (h:IV l) (n:Nat):IV (l.take n):=fun f hf=>h f (List.mem_of_mem_take hf)
def zia (l:List zo) (n:Nat) (h:n<l.length):Option (List za):=Ye l[n].xWhere (whs (l.take n))
theorem zfD {l:List zo} (hl:l.length≤100000) (hv:IV l) {n:Nat} (hn:n<l.length) {κ:List za×Bool→Prop} (h:κ (zib (zia l n hn))):XG l n κ:=by
 unfold XG
 refine zt n rfl hn ⟨by omega,by omega,by omega,?_⟩
 have e:(l.take (n:Int).toNat).drop (0:Int).toNat=l.take n:=by simp
 rw [e]
 have hv2:=hv _ (List.getElem_mem hn)
 refine zds (by simp;omega) (zaA hv2.1 hv2.2 (hv.take n).aB (by unfold whs;rw [List.length_map,List.length_take];omega) ?_)
 exact h
def dd (l:List zo) (n:Nat):Bool:=match h:l[n]? with | some f=>decide (Ye f.xWhere (whs (l.take n))=some []) | none=>false
def fw (l:List zo) (p:z7):Nat:=l.findIdx (fun f=>decide (hb4 f.xWhere p))
end
section
open Go.Lib (decDigits)
open Classical in
noncomputable def rdr (l:List UInt8):Option zK:=if h:∃ r,RV r∧ziK r=l then some h.choose else none
def Le (cs ds:List (List zK)):Prop:=cs.length≤ds.length∧∀ (i:Nat) (c:List zK),cs[i]?=some c→∃ e,ds[i]?=some (c++e)
theorem Le.refl (cs:List (List zK)):Le cs cs:=⟨Nat.le_refl _,fun i c h=>⟨[],by simpa using h⟩⟩
theorem Le.trans {a b c:List (List zK)} (h:Le a b) (h':Le b c):Le a c:=⟨Nat.le_trans h.1 h'.1,fun i x hx=>by
 obtain ⟨e,he⟩:=h.2 i x hx
 obtain ⟨e',he'⟩:=h'.2 i _ he
 exact ⟨e++e',by rw [he',List.append_assoc]⟩⟩
end
section
theorem zdk {α:Type} (a:List α) (hl:a.length≤4294967296) {κ:Bool→Prop} (hκ:κ true) (F:(Int→Prop)→Int→Prop)
  (hF:∀ (nx:Int→Prop) (t:Nat),t≤a.length→(∀ x,a[t]?=some x→x∈a∧nx ((t:Int)+1))→(¬ t<a.length→κ true)→F nx (t:Int)):jB F 0:=by
 refine jb a.length (fun s=>s) (fun k s=>s=(k:Int)∧k≤a.length) (fun k s h=>h.1) (fun k s h=>h.2) ?_ ⟨rfl,Nat.zero_le _⟩
 rintro k _ next ⟨rfl,hk⟩ hn
 refine hF _ _ hk (fun x hx=>?_) (fun _=>hκ)
 obtain ⟨e1,e2⟩:=List.getElem?_eq_some_iff.1 hx
 exact ⟨e2 ▸ List.getElem_mem e1,hn e1 _ ⟨by omega,by omega⟩⟩
end
section
open Go.Lib (decDigits)
def Br (r:zK):Prop:=r.xTests.length≤1048576
def Bq (c:List zK):Prop:=c.length≤1048576∧∀ r,r∈c→Br r
def Bs (cs:List (List zK)):Prop:=cs.length≤1048576∧∀ c,c∈cs→Bq c
theorem Bs.bd {s:jm} (h:Bs s.xChains):Bd s:=⟨by have:=h.1;omega,fun c hc=>⟨by have:=(h.2 c hc).1;omega,fun r hr=>by have:r.xTests.length≤1048576:=(h.2 c hc).2 r hr;omega⟩⟩
theorem SV.bs {s:jm} (h:SV s):Bs s.xChains:=⟨by have:=h.1.1;omega,fun c hc=>⟨by have:=(h.1.2 c hc).1;omega,fun r hr=>by have:r.xTests.length≤6:=((h.1.2 c hc).2 r hr).1.1.2;unfold Br;omega⟩⟩
theorem zh9:Bs []:=⟨by simp,fun c hc=>by simp at hc⟩
theorem YD {s:jm} {κ:Bool→Prop} (hb:Bs s.xChains) (h:κ true):yy s s κ:=by
 unfold yy
 have:=hb.1
 refine zr (fun hc=>by simp at hc) (fun _=>zdk s.xChains (by omega) (κ:=fun _=>κ (decide (s.xAccept=s.xAccept))) (by simpa using h) _ (fun nx t g ht hf=>zr (fun hc=>?_) (fun hc=>hf (by simpa using hc))))
 have hlt:t<s.xChains.length:=by simpa using hc
 obtain ⟨hm,hn⟩:=ht s.xChains[t] (by simp [hlt])
 have hbq:=hb.2 _ hm
 have h3:=hbq.1
 refine zt t rfl hlt (zt t rfl hlt (zr (fun hc=>by simp at hc) (fun _=>?_)))
 refine zdk s.xChains[t] (by omega) (κ:=fun _=>jy (t:Int) 1 (fun t63=>nx t63)) (zG (by omega) (by omega) hn) _ (fun nx2 t2 g2 ht2 hf2=>?_)
 refine zt t rfl hlt (zr (fun hc=>?_) (fun hc=>hf2 (by simpa using hc)))
 have hlt2:t2<s.xChains[t].length:=by simpa using hc
 obtain ⟨hm2,hn2⟩:=ht2 s.xChains[t][t2] (by simp [hlt2])
 refine zt t rfl hlt (zt t2 rfl hlt2 (zt t rfl hlt (zt t2 rfl hlt2 (zb9 (by have:s.xChains[t][t2].xTests.length≤1048576:=hbq.2 _ hm2;omega) ?_))))
 simp only [Bool.not_true,zcq]
 exact zG (by omega) (by omega) hn2
end
section
open Go.Lib (decDigits)
theorem zej {x:Int} (h1:-9223372036854775808≤x) (h2:x≤9223372036854775807):w64 x=x:=by
 simp [w64,IntKind.wrap,IntKind.signed,IntKind.bits];omega
def Bl (ls:List (List UInt8)):Prop:=ls.length≤3000000∧∀ l,l∈ls→l.length≤10000000
theorem Bl.take {ls:List (List UInt8)} (h:Bl ls) (n:Nat):Bl (ls.take n):=⟨by have:=h.1;simp;omega,fun l hl=>h.2 l (List.mem_of_mem_take hl)⟩
def Zs (k:Nat) (cs:List (List zK)):Prop:=cs.length≤k∧∀ c,c∈cs→c.length≤k∧∀ r,r∈c→RV r
theorem Zs.bd {k:Nat} {cs:List (List zK)} {a:Bool} (h:Zs k cs) (hk:k≤4000000):Bd ⟨cs,a⟩:=⟨by have:=h.1;simp only;omega,fun c hc=>⟨by have:=(h.2 c hc).1;omega,fun r hr=>by have:r.xTests.length≤6:=((h.2 c hc).2 r hr).1.2;omega⟩⟩
end
section
open Go.Lib (decDigits)
theorem zam {b:List UInt8} {p:Int} {κ:Bool×Int→Prop} (h:κ (false,p)):jD b p 0 κ:=by
 unfold jD jnW
 exact zr (fun hx=>by simp at hx) (fun _=>h)
def SpW (tp:Int) (q:zd):Prop:=0≤q.xLo∧q.xLo≤q.xHi∧q.xHi≤tp
theorem zbK {b:List UInt8} {p tp:Int} (hb:b.length≤2000) (h0:0≤p) (hp:p≤900000) (ht0:7≤tp) (ht:tp≤65535) {κ:zd×Int→Prop} (h:∀ q p',p≤p'→p'≤p+20→SpW tp q→κ (q,p')):yo b p tp 0 κ:=by
 have rdr:∀ p',p≤p'→p'≤p+30→RdP b p':=fun p' a c=>⟨hb,by omega,by omega⟩
 have B3:∀ (t144 t145:Int),p≤t144→t144≤p+6→0≤t145→t145≤tp→zk b t144 4 (fun (r150,r151)=>zk b r151 256 (fun (r152,r153)=>zk b r153 4 (fun (r155,r156)=>zF ([0,r150,r152,4096]) r155 (fun e157=>jD b r156 0 (fun (r174,r175)=>ifW r174 (zk b r175 3 (fun (r181,r182)=>zF ([(zd.mk (w64 ((min tp (w64 (t145+e157)))+1)) (min tp (w64 (t145+e157)))),(zd.mk (-1) (min tp (w64 (t145+e157)))),(zd.mk t145 (w64 (tp+1)))]) r181 (fun e183=>κ ((zd.mk e183.xLo e183.xHi),r182)))) (κ ((zd.mk t145 (min tp (w64 (t145+e157)))),r175))))))):=by
  intro t144 t145 g1 g2 g3 g4
  refine uG (rdr _ (by omega) (by omega)) (fun v1 a1 c1=>uG (rdr _ (by omega) (by omega)) (fun v2 a2 c2=>uG (rdr _ (by omega) (by omega)) (fun v3 a3 c3=>Yz (by omega) (by simp;omega) (fun x hx=>?_))))
  have hx2:0≤x∧x≤4096:=by
   simp only [List.mem_cons,List.not_mem_nil,or_false] at hx
   rcases hx with e | e | e | e <;> subst e <;> omega
  have hw:w64 (t145+x)=t145+x:=zej (by omega) (by omega)
  refine zam (zr (fun hx=>by simp at hx) (fun _=>h _ _ (by omega) (by omega) ?_))
  rw [hw]
  refine ⟨g3,?_,?_⟩ <;> simp only <;> omega
 unfold yo
 refine zG (by omega) (by omega) (uG (rdr p (by omega) (by omega)) (fun v a c=>?_))
 unfold jnW
 refine zr (fun _=>?_) (fun _=>?_)
 ·refine uG (rdr _ (by omega) (by omega)) (fun v5 a5 c5=>?_)
  refine zr (fun _=>?_) (fun _=>?_)
  ·refine uG (rdr _ (by omega) (by omega)) (fun v6 a6 c6=>?_)
   have hw1:w64 (v * 256)=v * 256:=zej (by omega) (by omega)
   have hw2:w64 (v * 256+v6)=v * 256+v6:=zej (by omega) (by omega)
   refine B3 _ _ (by omega) (by omega) ?_ ?_ <;> rw [hw1,hw2] <;> omega
  ·exact B3 _ _ (by omega) (by omega) (by omega) (by omega)
 ·refine zr (fun e=>by cases e) (fun _=>B3 _ _ (by omega) (by omega) (by omega) (by omega))
theorem zea {b:List UInt8} {p:Int} (hb:b.length≤2000) (h0:0≤p) (hp:p≤800000) {κ:zI×Int→Prop} (h:∀ q p',p≤p'→p'≤p+50→TV q→κ (q,p')):Za b p 0 κ:=by
 have rdr:∀ p',p≤p'→p'≤p+60→RdP b p':=fun p' a c=>⟨hb,by omega,by omega⟩
 unfold Za
 refine uG (rdr p (by omega) (by omega)) (fun f a1 c1=>uG (rdr _ (by omega) (by omega)) (fun nt a2 c2=>xl (by omega) (by omega) ?_))
 have ht:=X5 f
 refine zbK hb (by omega) (by omega) ht.1 ht.2 (fun sp p1 g1 g2 hsp=>?_)
 unfold jnW
 have fin:∀ (t241 t242 t243:Int),p≤t241→t241≤p+35→0≤t242→t242≤t243→t243≤top f→jD b t241 0 (fun (r245,r246)=>ifW r245 (zk b r246 3 (fun (r247,r248)=>ifW (decide (r247=0)) (zk b r248 2 (fun (r251,r252)=>zF ([(-1),4]) r251 (fun e253=>κ ((zI.mk e253 t242 t243 (decide (nt=0))),r252)))) (ifW (decide (r247=1)) (jy t243 1 (fun t255=>κ ((zI.mk f t255 t243 (decide (nt=0))),r248))) (jy (top f) 1 (fun t256=>κ ((zI.mk f t242 t256 (decide (nt=0))),r248)))))) (κ ((zI.mk f t242 t243 (decide (nt=0))),r246))):=by
  intro t241 t242 t243 q1 q2 q3 q4 q5
  exact zam (zr (fun hx=>by simp at hx) (fun _=>h _ _ (by omega) (by omega) ⟨a1,by simp only;omega,q3,q4,q5⟩))
 have mid:∀ (t152 t153 t154:Int),p≤t152→t152≤p+30→0≤t153→t153≤t154→t154≤top f→zk b t152 8 (fun (r156,r157)=>ifW (decide (r156=0)) (zk b r157 3 (fun (r163,r164)=>zF ([(zd.mk 0 (top f)),(zd.mk 0 t154),(zd.mk t153 (top f))]) r163 (fun e165=>jD b r164 0 (fun (r245,r246)=>ifW r245 (zk b r246 3 (fun (r247,r248)=>ifW (decide (r247=0)) (zk b r248 2 (fun (r251,r252)=>zF ([(-1),4]) r251 (fun e253=>κ ((zI.mk e253 e165.xLo e165.xHi (decide (nt=0))),r252)))) (ifW (decide (r247=1)) (jy e165.xHi 1 (fun t255=>κ ((zI.mk f t255 e165.xHi (decide (nt=0))),r248))) (jy (top f) 1 (fun t256=>κ ((zI.mk f e165.xLo t256 (decide (nt=0))),r248)))))) (κ ((zI.mk f e165.xLo e165.xHi (decide (nt=0))),r246)))))) (jD b r157 0 (fun (r245,r246)=>ifW r245 (zk b r246 3 (fun (r247,r248)=>ifW (decide (r247=0)) (zk b r248 2 (fun (r251,r252)=>zF ([(-1),4]) r251 (fun e253=>κ ((zI.mk e253 t153 t154 (decide (nt=0))),r252)))) (ifW (decide (r247=1)) (jy t154 1 (fun t255=>κ ((zI.mk f t255 t154 (decide (nt=0))),r248))) (jy (top f) 1 (fun t256=>κ ((zI.mk f t153 t256 (decide (nt=0))),r248)))))) (κ ((zI.mk f t153 t154 (decide (nt=0))),r246))))):=by
  intro t152 t153 t154 q1 q2 q3 q4 q5
  refine uG (rdr _ (by omega) (by omega)) (fun v4 a4 c4=>zr (fun _=>?_) (fun _=>fin _ _ _ (by omega) (by omega) q3 q4 q5))
  refine uG (rdr _ (by omega) (by omega)) (fun v5 a5 c5=>Yz (by omega) (by simp;omega) (fun y hy=>?_))
  have hb:0≤y.xLo∧y.xLo≤y.xHi∧y.xHi≤top f:=by rcases ziO hy with e | e | e <;> subst e <;> simp only <;> omega
  exact fin _ _ _ (by omega) (by omega) hb.1 hb.2.1 hb.2.2
 refine zr (fun hf=>?_) (fun _=>?_)
 ·have htf:top f=65535:=by simp at hf;unfold top;rw [if_pos (by omega)]
  refine uG (rdr _ (by omega) (by omega)) (fun v a c=>?_)
  refine zr (fun _=>?_) (fun _=>mid _ _ _ (by omega) (by omega) hsp.1 hsp.2.1 hsp.2.2)
  refine uG (rdr _ (by omega) (by omega)) (fun v2 a2 c2=>uG (rdr _ (by omega) (by omega)) (fun v3 a3 c3=>?_))
  have hw:w64 (v2+v3)=v2+v3:=zfc (by omega) (by omega)
  exact mid _ _ _ (by omega) (by omega) (by omega) (by rw [hw];omega) (by rw [hw];omega)
 ·exact zr (fun e=>by cases e) (fun _=>mid _ _ _ (by omega) (by omega) hsp.1 hsp.2.1 hsp.2.2)
theorem zdB {b:List UInt8} {p:Int} (hb:b.length≤2000) (h0:0≤p) (hp:p≤700000) {κ:List zI×Int→Prop} (h:∀ ts p',p≤p'→p'≤p+300→TsV ts→κ (ts,p')):ZM b p 0 κ:=by
 have rdr:∀ p',p≤p'→p'≤p+300→RdP b p':=fun p' a c=>⟨hb,by omega,by omega⟩
 unfold ZM
 refine uG (rdr p (by omega) (by omega)) (fun v a c=>?_)
 refine Zo (fun s=>0≤s.2.2∧s.2.2≤3∧p≤s.1∧s.1≤p+1+50 * (3 - s.2.2)∧s.2.1.length+s.2.2.toNat≤3∧∀ t,t∈s.2.1→TV t) (fun s=>s.2.2.toNat) ?_ ⟨a,by simp only;omega,by simp only;omega,by simp only;omega,by simp only [List.length_nil];omega,by simp⟩
 rintro ⟨q,xs,k⟩ next ⟨k0,k1,q0,q1,hx,hv⟩ hnx
 simp only at k0 k1 q0 q1 hx hv
 refine zr (fun hc=>?_) (fun hc=>?_)
 ·simp at hc
  refine zea hb (by omega) (by omega) (fun t p' g1 g2 tv=>jx (by simp;omega) (yP (by omega) (by omega) (hnx _ ⟨by simp only;omega,by simp only;omega,by simp only;omega,by simp only;omega,by simp;omega,fun y hy=>?_⟩ (by simp only;omega))))
  rcases List.mem_append.1 hy with hy | hy
  ·exact hv y hy
  ·rw [List.mem_singleton] at hy;subst hy;exact tv
 ·simp at hc
  unfold jnW
  exact zam (zr (fun hx=>by simp at hx) (fun _=>h _ _ (by omega) (by omega) ⟨hv,by omega⟩))
end
section
def th (t:zI) (p:z7):Bool:=decide (t.xLo≤XR p t.xField.toNat∧XR p t.xField.toNat≤t.xHi) != t.xNot
def ft (l:List zI) (p:z7):Bool:=l.all (fun t=>th t p)
def Hh (cs:List (List zK)):Nat→Nat→Prop
 | 0,_=>False
 | n+1,i=>∀ j,Ca cs i j→Hh cs n j
theorem za2 {cs:List (List zK)}:∀ {n i:Nat},Hh cs n i→Hh cs (n+1) i
 | 0,i,h=>h.elim
 | n+1,i,h=>fun j hj=>za2 (h j hj)
theorem zha {cs:List (List zK)} {n m i:Nat} (h:Hh cs n i) (hm:n≤m):Hh cs m i:=by
 induction hm with
 | refl=>exact h
 | step _ ih=>exact za2 ih
theorem zef {cs:List (List zK)} {Q:Nat→Prop}:∀ (k:Nat),(∀ j,j<k→Q j→∃ n,Hh cs n j)→∃ N,∀ j,j<k→Q j→Hh cs N j
 | 0,_=>⟨0,fun j hj=>by omega⟩
 | k+1,h=>by
  obtain ⟨N,hN⟩:=zef k (fun j hj hq=>h j (by omega) hq)
  by_cases hq:Q k
  ·obtain ⟨n,hn⟩:=h k (by omega) hq
   refine ⟨max N n,fun j hj hqj=>?_⟩
   by_cases e:j=k
   ·subst e;exact zha hn (by omega)
   ·exact zha (hN j (by omega) hqj) (by omega)
  ·refine ⟨N,fun j hj hqj=>?_⟩
   by_cases e:j=k
   ·subst e;exact absurd hqj hq
   ·exact hN j (by omega) hqj
theorem zf1 {cs:List (List zK)} {i:Nat} (hs:Sf cs i):∃ n,Hh cs n i:=by
 induction hs with
 | intro x hx ih =>
  obtain ⟨N,hN⟩:=zef (cs:=cs) (Q:=fun j=>Ca cs x j) cs.length (fun j _ hq=>ih j hq)
  refine ⟨N+1+1,fun j hj=>?_⟩
  by_cases hl:j<cs.length
  ·exact za2 (hN j hl hj)
  ·exact fun k hk=>by
    obtain ⟨c,h1,_⟩:=hk
    have:=(List.getElem?_eq_some_iff.1 h1).1
    omega
theorem ziv {cs:List (List zK)} (hs:∀ i,i<cs.length→Sf cs i):∃ N,∀ i,Hh cs (N+1) i:=by
 obtain ⟨N,hN⟩:=zef (cs:=cs) (Q:=fun _=>True) cs.length (fun j hj _=>zf1 (hs j hj))
 refine ⟨N,fun i=>?_⟩
 by_cases hl:i<cs.length
 ·exact za2 (hN i hl trivial)
 ·exact fun k hk=>by
   obtain ⟨c,h1,_⟩:=hk
   have:=(List.getElem?_eq_some_iff.1 h1).1
   omega
def jl (p:z7) (call:Nat→Int):List zK→Int
 | []=>5
 | r :: l=>if ft r.xTests p=true then
   (if r.xAction=1 then 1 else if r.xAction=2 then 2 else if r.xAction=4 then 5 else if r.xAction=3 then (if call r.xChain.toNat=5 then jl p call l else call r.xChain.toNat) else jl p call l)
   else jl p call l
def chn (cs:List (List zK)) (i:Nat):List zK:=cs[i]?.getD []
def jc (cs:List (List zK)) (p:z7):Nat→Nat→Int
 | 0,_=>5
 | n+1,i=>jl p (jc cs p n) (chn cs i)
theorem zdR {p:z7} {f g:Nat→Int}:∀ {l:List zK},(∀ r,r∈l→r.xAction=3→f r.xChain.toNat=g r.xChain.toNat)→jl p f l=jl p g l
 | [],_=>rfl
 | r :: l,h=>by
  have ih:=zdR (p:=p) (l:=l) (fun x hx=>h x (by simp [hx]))
  simp only [jl]
  rw [ih]
  by_cases h3:r.xAction=3
  ·rw [h r (by simp) h3]
  ·simp only [h3,if_false]
theorem zcP {cs:List (List zK)} {i:Nat} {r:zK} (hr:r∈chn cs i) (h3:r.xAction=3) (h0:0≤r.xChain):Ca cs i r.xChain.toNat:=by
 unfold chn at hr
 cases h:cs[i]? with
 | none=>rw [h] at hr;simp at hr
 | some c=>rw [h] at hr;exact ⟨c,h,r,hr,h3,by omega⟩
def Cn (cs:List (List zK)):Prop:=∀ i r,r∈chn cs i→r.xAction=3→0≤r.xChain
theorem zeR {cs:List (List zK)} {p:z7} (hc:Cn cs):∀ {n i:Nat},Hh cs n i→jc cs p (n+1) i=jc cs p n i
 | 0,i,h=>h.elim
 | n+1,i,h=>zdR (fun r hr h3=>zeR hc (h _ (zcP hr h3 (hc i r hr h3))))
open Classical in
noncomputable def jN (cs:List (List zK)):Nat:=if h:∃ N,∀ i,Hh cs (N+1) i then h.choose else 0
theorem zeY {cs:List (List zK)} (hs:∀ i,i<cs.length→Sf cs i) (i:Nat):Hh cs (jN cs+1) i:=by
 have h:=ziv hs
 unfold jN
 rw [dif_pos h]
 exact h.choose_spec i
noncomputable def J (cs:List (List zK)) (p:z7) (i:Nat):Int:=jc cs p (jN cs+1) i
theorem zil {cs:List (List zK)} {p:z7} (hc:Cn cs) (hs:∀ i,i<cs.length→Sf cs i) (i:Nat):J cs p i=jl p (J cs p) (chn cs i):=by
 unfold J
 rw [← zeR hc (zeY hs i)]
 rfl
theorem SV.cn {s:jm} (h:SV s):Cn s.xChains:=by
 intro i r hr h3
 unfold chn at hr
 cases e:s.xChains[i]? with
 | none=>rw [e] at hr;simp at hr
 | some c =>
  rw [e] at hr
  exact (((h.1.2 c (List.mem_of_getElem? e)).2 r hr).1.2.2.2.1 h3).1
theorem ze1 {cs:List (List zK)} {i:Nat} (h:i<cs.length):chn cs i=cs[i]:=by simp [chn,h]
theorem ze3 {p:z7} {f:Nat→Int} (hf:∀ i,f i=1∨f i=2∨f i=5):∀ l,jl p f l=1∨jl p f l=2∨jl p f l=5
 | []=>by simp [jl]
 | r :: l=>by
  have ih:=ze3 (p:=p) hf l
  have:=hf r.xChain.toNat
  simp only [jl]
  repeat' split
  all_goals omega
theorem zc3 {cs:List (List zK)} {p:z7}:∀ n i,jc cs p n i=1∨jc cs p n i=2∨jc cs p n i=5
 | 0,i=>by simp [jc]
 | n+1,i=>ze3 (zc3 n) _
theorem zhY (cs:List (List zK)) (p:z7) (i:Nat):J cs p i=1∨J cs p i=2∨J cs p i=5:=zc3 _ _
noncomputable def jdg (s:jm) (p:z7):Bool:=if J s.xChains p 0=1 then true else if J s.xChains p 0=2 then false else s.xAccept
end
section
theorem zav:∀ (n:Nat) (l:List Nat),l.Nodup→(∀ x,x∈l→x<n)→l.length≤n
 | 0,[],_,_=>by simp
 | 0,x :: l,_,h=>by have:=h x (by simp);omega
 | n+1,l,hd,h=>by
  by_cases hm:n∈l
  ·obtain ⟨s,t,rfl⟩:=List.append_of_mem hm
   have hnd:(s++t).Nodup∧n ∉ s++t:=by
    rw [List.nodup_append] at hd ⊢
    simp only [List.nodup_cons,List.mem_cons] at hd
    obtain ⟨h1,⟨h2,h3⟩,h4⟩:=hd
    refine ⟨⟨h1,h3,fun a ha b hb=>h4 a ha b (.inr hb)⟩,fun hmem=>?_⟩
    rcases List.mem_append.1 hmem with hs | ht
    ·exact h4 n hs n (.inl rfl) rfl
    ·exact h2 ht
   have:=zav n (s++t) hnd.1 (fun x hx=>by
    have h1:=h x (by
     rcases List.mem_append.1 hx with hx | hx
     ·exact List.mem_append.2 (.inl hx)
     ·exact List.mem_append.2 (.inr (List.mem_cons_of_mem _ hx)))
    have h2:x≠n:=fun e=>hnd.2 (e ▸ hx)
    omega)
   simp at this ⊢;omega
  ·have:=zav n l hd (fun x hx=>by
    have h1:=h x hx
    have h2:x≠n:=fun e=>hm (e ▸ hx)
    omega)
   omega
def okP (cs:List (List zK)) (q:YH):Prop:=0≤q.xChain∧q.xChain.toNat<cs.length∧0≤q.xNext∧q.xNext.toNat≤(chn cs q.xChain.toNat).length
def Stk (cs:List (List zK)) (xs:List YH):Prop:=(∀ q,q∈xs→okP cs q)∧xs.Pairwise (fun a b=>Wy cs a.xChain.toNat b.xChain.toNat)
theorem Stk.len {cs:List (List zK)} {xs:List YH} (hs:∀ i,i<cs.length→Sf cs i) (h:Stk cs xs):xs.length≤cs.length:=by
 have hn:(xs.map (fun q=>q.xChain.toNat)).Nodup:=by
  rw [List.Nodup,List.pairwise_map]
  refine List.Pairwise.imp_of_mem (fun {a b} ha hb hw e=>?_) h.2
  rw [← e] at hw
  exact zeC (hs _ (h.1 a ha).2.1) hw
 have:=zav cs.length _ hn (fun x hx=>by
  obtain ⟨q,hq,rfl⟩:=List.mem_map.1 hx
  exact (h.1 q hq).2.1)
 simpa using this
theorem Stk.drop {cs:List (List zK)} {ys:List YH} {q:YH} (h:Stk cs (ys++[q])):Stk cs ys:=⟨fun x hx=>h.1 x (List.mem_append.2 (.inl hx)),(List.pairwise_append.1 h.2).1⟩
theorem Stk.move {cs:List (List zK)} {ys:List YH} {q q':YH} (h:Stk cs (ys++[q])) (hq:okP cs q') (hc:q'.xChain=q.xChain):Stk cs (ys++[q']):=by
 refine ⟨fun x hx=>?_,?_⟩
 ·rcases List.mem_append.1 hx with hx | hx
  ·exact h.1 x (List.mem_append.2 (.inl hx))
  ·rw [List.mem_singleton] at hx;subst hx;exact hq
 ·obtain ⟨h1,_,h3⟩:=List.pairwise_append.1 h.2
  refine List.pairwise_append.2 ⟨h1,by simp,fun a ha b hb=>?_⟩
  rw [List.mem_singleton] at hb
  subst hb
  rw [hc]
  exact h3 a ha q (by simp)
theorem Stk.push {cs:List (List zK)} {ys:List YH} {q q':YH} (h:Stk cs (ys++[q])) (hq:okP cs q') (hc:Ca cs q.xChain.toNat q'.xChain.toNat):Stk cs (ys++[q]++[q']):=by
 refine ⟨fun x hx=>?_,?_⟩
 ·rcases List.mem_append.1 hx with hx | hx
  ·exact h.1 x hx
  ·rw [List.mem_singleton] at hx;subst hx;exact hq
 ·refine List.pairwise_append.2 ⟨h.2,by simp,fun a ha b hb=>?_⟩
  rw [List.mem_singleton] at hb
  subst hb
  rcases List.mem_append.1 ha with ha | ha
  ·exact .more ((List.pairwise_append.1 h.2).2.2 a ha q (by simp)) hc
  ·rw [List.mem_singleton] at ha;subst ha;exact .one hc
end
section
open Go Go.Proofs
theorem UQ:∀ (l:List zd) (s:zd) (out:List zd) (pl:Bool),(Uu l s out pl).1.length+(if (Uu l s out pl).2.2 then 0 else 1)≤out.length+l.length+(if pl then 0 else 1)
 | [],s,out,pl=>by cases pl <;> simp [Uu]
 | x :: xs,s,out,pl=>by
  unfold Uu
  by_cases c1:x.xHi+1<s.xLo
  ·rw [if_pos c1]
   have:=UQ xs s (out++[x]) pl
   simp only [List.length_append,List.length_cons,List.length_nil] at this ⊢
   omega
  ·rw [if_neg c1]
   by_cases c2:s.xHi+1<x.xLo
   ·rw [if_pos c2]
    have:=UQ xs s ((if pl then out else out++[s])++[x]) true
    cases pl <;> simp only [List.length_append,List.length_cons,List.length_nil,Bool.false_eq_true,if_true,if_false] at this ⊢ <;> omega
   ·rw [if_neg c2]
    have:=UQ xs (zd.mk (min s.xLo x.xLo) (max s.xHi x.xHi)) out pl
    simp only [List.length_cons]
    omega
theorem zfk (l:List zd) (s:zd):(Vj l s).length≤l.length+1:=by
 have:=UQ l s [] false
 unfold Vj
 generalize Uu l s [] false=r at *
 obtain ⟨o,s',pl⟩:=r
 cases pl <;> simp at this ⊢ <;> omega
theorem Ue:∀ (xs a:List zd),(xs.foldl Vj a).length≤a.length+xs.length
 | [],a=>by simp
 | s :: xs,a=>by
  have h1:=Ue xs (Vj a s)
  have h2:=zfk a s
  simp only [List.foldl_cons,List.length_cons]
  omega
theorem zbl {tp:Int} {xs:List zd} (h:∀ s∈xs,SpW tp s):St (xs.foldl Vj []) tp:=by
 obtain ⟨hn,he⟩:=zaB xs [] zcN (fun s hs=>(h s hs).2.1)
 have hr:∀ x,hv xs x→0≤x∧x≤tp:=fun x ⟨s,hs,q1,q2⟩=>by
  have:=h s hs;unfold SpW at this;omega
 refine ⟨hn,fun s hs=>?_⟩
 obtain ⟨e1,e2⟩:=za3 hn hs
 rw [he] at e1 e2
 exact ⟨(hr _ (e1.resolve_left (ug _))).1,(hr _ (e2.resolve_left (ug _))).2⟩
theorem zaG {tp:Int} (h0:0≤tp) (h1:tp≤65535) {xs:List zd} (hl:xs.length≤40) (hr:∀ s∈xs,SpW tp s) {κ:List zd→Prop} (h:κ (xs.foldl Vj [])):Xf xs tp κ:=by
 unfold Xf jnW
 refine Uh (zr (fun e=>by simp at e;omega) (fun _=>zr (fun e=>by simp at e;omega) (fun _=>?_)))
 refine jb xs.length (fun s=>s.2) (fun k s=>s.2=(k:Int)∧k≤xs.length∧s.1=(xs.take k).foldl Vj []) (fun k s h=>h.1) (fun k s h=>h.2.1) ?_ ⟨rfl,Nat.zero_le _,by simp⟩
 rintro k ⟨es,t⟩ next ⟨rfl,hk,hx⟩ hn
 simp only at hx
 subst hx
 refine zr (fun hc=>?_) (fun hc=>?_)
 ·have hlt:k<xs.length:=by simpa using hc
  have hin:=hr _ (List.getElem_mem hlt)
  unfold SpW at hin
  have hrt:∀ s∈xs.take k,SpW tp s:=fun s hs=>hr s (List.mem_of_mem_take hs)
  have hst:=zbl hrt
  have hln:=Ue (xs.take k) []
  refine zt k rfl hlt (zt k rfl hlt (Uh (zr (fun e=>by simp at e;omega) (fun _=>zt k rfl hlt (Uh (zr (fun e=>by simp at e;omega) (fun _=>?_)))))))
  refine zt k rfl hlt (zgB (by simp only [List.length_take,List.length_nil] at hln;omega) (fun s hs=>?_) ?_ (zG (by omega) (by omega) (hn hlt _ ⟨by simp,by omega,?_⟩)))
  ·have q1:=hst.2 s hs
   have q2:=hst.1.1 s hs
   unfold Sm;omega
  ·unfold Sm;omega
  ·rw [List.take_succ_eq_append_getElem hlt,List.foldl_append];rfl
 ·have hge:xs.length≤k:=by simpa using hc
  rw [List.take_of_length_le hge];exact h
end
end Go.Proofs.YtgpdnnhmndlljaaGreatDoor
