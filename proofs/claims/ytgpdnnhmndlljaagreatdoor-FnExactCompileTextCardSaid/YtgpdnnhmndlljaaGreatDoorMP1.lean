import Derived.Test.YtgpdnnhmndlljaaGreatDoorMA1
import Derived.RangeFuncMany
import Derived.RangeFuncCalls
import Derived.RangeFuncLeaves
import Derived.TacticsIn
import Derived.Test.YtgpdnnhmndlljaaGreatDoorEls
import Derived.Test.YtgpdnnhmndlljaaGreatDoorMA0
import Derived.Laws.BitsLemmas
set_option linter.unusedSimpArgs false
set_option linter.unusedVariables false
set_option linter.unusedSectionVars false
namespace Go.Proofs.YtgpdnnhmndlljaaGreatDoor
section
open Go.RowKit
def zoN {α:Type} (xs:List α) (κ:α→α→α→α→Prop):Prop:=∃ a b c d r,xs=a :: b :: c :: d :: r∧κ a b c d
theorem zbJ {w:World} {b o:Nat} {cs ds:List Value} (h:w.rangeAt b o cs) (k:w.rangeAt b (o+cs.length) ds):w.rangeAt b o (cs++ds):=fun j v hv=>by
 rw [List.getElem?_append] at hv
 split at hv
 ·exact h j v hv
 ·have:=k (j - cs.length) v hv
  rwa [show o+cs.length+(j - cs.length)=o+j by omega] at this
theorem zlE {α:Type} {E':El α} {F0:Nat→Prop} {wr:World} {v:Value} {xs:List α} {a b c d:α} (S:Sl E' F0 wr v xs) (h:∃ r,xs=a :: b :: c :: d :: r) :
  ∃ c0 c1 c2 c3,E'.cells F0 wr a c0∧E'.cells F0 wr b c1∧E'.cells F0 wr c c2∧E'.cells F0 wr d c3∧zh1 wr F0 v 0 E'.size (c0++(c1++(c2++c3))):=by
 obtain ⟨r,rfl⟩:=h
 obtain ⟨p,cap,rfl,hc,hr⟩:=S
 obtain ⟨g,off,rfl,hfb,hx⟩:=hr (by simp)
 obtain ⟨c0,h0,k0⟩:=hx 0 a rfl
 obtain ⟨c1,h1,k1⟩:=hx 1 b rfl
 obtain ⟨c2,h2,k2⟩:=hx 2 c rfl
 obtain ⟨c3,h3,k3⟩:=hx 3 d rfl
 have l0:=E'.len _ _ _ _ h0
 have l1:=E'.len _ _ _ _ h1
 have l2:=E'.len _ _ _ _ h2
 refine ⟨c0,c1,c2,c3,h0,h1,h2,h3,g,off,_,cap,rfl,hfb,?_⟩
 have e0:off+(0:Int).toNat * E'.size=off:=by simp
 rw [e0]
 refine zbJ (by simpa using k0) (zbJ ?_ (zbJ ?_ ?_))
 ·rw [l0];simpa using k1
 ·rw [l0,l1,show off+E'.size+E'.size=off+2 * E'.size by omega];exact k2
 ·rw [l0,l1,l2,show off+E'.size+E'.size+E'.size=off+3 * E'.size by omega];exact k3
section
variable {P:Program} {n:Nat} {G D:Nat→Prop} {w0:World} {Q:Exit→Act→World→Prop} {R:Act→World→Prop} {E:Env} {L M:List Ch} {φ:Prop}
variable {d:Tmp} {ty:TypeId} {pos:String} {aft:Array Edge} {gd:Option (Nat×Bool)} {Tk:Act→World→Prop} {Lr:List Ch} {x y:Operand} {T T' S:TypeId} {e sz by':Nat} {at':Array TypeId}
theorem zoE {α:Type} {El':El α} {v:Value} {xs:List α} {ch:Ch} {κ:α→α→α→α→Prop} {e' s:Nat} {r:Bool} (M:xV P n G D w0 E ⟨some d,.sliceToArrayPointer T x,ty,pos,aft,gd⟩ Tk R Lr L) (i:Nat) (hi:xl Lr i=some ch) (hc:YL ch El' v xs) (hx:oev E x=some v) (hd:Nat.blt d n=true)
  (hT:ze7 P T=some (4,e',r,s)) (hes:El'.size=1) (k:∀ p q s t,(∃ r,xs=p :: q :: s :: t :: r)→Nx n G D w0 R ((d,pEl v 0 1 0) :: E) L (κ p q s t)):Nx n G D w0 Tk E L (zoN xs κ):=fun a w hE hm hφ=>by
 obtain ⟨p,q,s,t,r,hxs,hκ⟩:=hφ
 refine M.val (v:=pEl v 0 1 0) (φ:=κ p q s t) (ψ:=κ p q s t) hd rfl (fun ρ w hE hm _=>?_) id (k p q s t ⟨r,hxs⟩) a w hE hm hκ
 obtain ⟨g,cap,rfl,hcap,hr⟩:=hc _ _ (hm.get hi)
 obtain ⟨b,off,rfl,_⟩:=hr (by rw [hxs];simp)
 have hl:¬ xs.length<4:=by rw [hxs];simp
 have hu:=(zhi hT).1
 simp [execOp,hE _ _ hx,Instr.arrayAt,run_underlying hu,hl,uQ]
def yO (b:Nat) (o:Obj):Ch where
 foot:=fun x=>x=b
 holds:=fun _ w=>w.heap[b]?=some o
 keep:=fun _ _ _ _ _ h k=>(h b (.inr rfl)).trans k
def ZI {σ:Type} (C:σ→List Ch→Prop) (B:Nat→Prop) (s:σ):Ch where
 foot:=B
 holds:=fun F w=>∃ L,C s L∧(∀ b,uq L b↔B b)∧(L.Pairwise fun (c d:Ch)=>∀ b,c.foot b→¬ d.foot b)∧∀ c∈L,c.holds F w
 keep:=fun F F' w w' hF hb ⟨L,h1,h2,h3,h4⟩=>⟨L,h1,h2,h3,fun c hc=>c.keep F F' w w' hF (fun b h=>hb b (h.imp id (fun k=>(h2 b).1 ⟨c,hc,k⟩))) (h4 c hc)⟩
theorem zdh {σ:Type} {C:σ→List Ch→Prop} {B:Nat→Prop} {s:σ} {L R:List Ch} {w:World} (h:∀ b,uq L b↔B b) (b:Nat):fz G (ZI C B s :: R) w b↔fz G (L++R) w b:=by
 constructor
 ·rintro ⟨h1,h2,h3⟩
  refine ⟨h1,h2,fun c hc hk=>?_⟩
  rcases List.mem_append.1 hc with e | e
  ·exact h3 _ (List.mem_cons_self ..) ((h b).1 ⟨c,e,hk⟩)
  ·exact h3 c (List.mem_cons_of_mem _ e) hk
 ·rintro ⟨h1,h2,h3⟩
  refine ⟨h1,h2,fun c hc hk=>?_⟩
  rcases List.mem_cons.1 hc with e | e
  ·subst e
   obtain ⟨d,hd,hk'⟩:=(h b).2 hk
   exact h3 d (List.mem_append.2 (.inl hd)) hk'
  ·exact h3 c (List.mem_append.2 (.inr e)) hk
theorem Mem.openC {σ:Type} {C:σ→List Ch→Prop} {B:Nat→Prop} {s:σ} {R:List Ch} {w:World} (m:Mem G D w0 (ZI C B s :: R) w):∃ L,C s L∧(∀ b,uq L b↔B b)∧Mem G D w0 (L++R) w:=by
 obtain ⟨L,h1,h2,h3,h4⟩:=m.hold _ (List.mem_cons_self ..)
 have hr:∀ c∈L,∀ b,c.foot b→(ZI C B s).foot b:=fun c hc b hb=>(h2 b).1 ⟨c,hc,hb⟩
 refine ⟨L,h1,h2,m.fresh,m.os,m.tape,m.output,m.size,m.old,fun c hc b hb=>?_,List.pairwise_append.2 ⟨h3,(List.pairwise_cons.1 m.disj).2,fun c hc d hd b k1 k2=>(List.pairwise_cons.1 m.disj).1 d hd b (hr c hc b k1) k2⟩,fun c hc=>?_⟩
 ·rcases List.mem_append.1 hc with e | e
  ·exact m.range _ (List.mem_cons_self ..) b (hr c e b hb)
  ·exact m.range c (List.mem_cons_of_mem _ e) b hb
 ·rcases List.mem_append.1 hc with e | e
  ·exact c.keep _ _ w w (fun b hb=>(zdh h2 b).1 hb) (fun _ _=>rfl) (h4 c e)
  ·exact c.keep _ _ w w (fun b hb=>(zdh h2 b).1 hb) (fun _ _=>rfl) (m.hold c (List.mem_cons_of_mem _ e))
theorem Mem.closeC {σ:Type} {C:σ→List Ch→Prop} {s:σ} {L R:List Ch} {w:World} (m:Mem G D w0 (L++R) w) (h:C s L):Mem G D w0 (ZI C (uq L) s :: R) w:=by
 have inL:∀ c∈L,c∈L++R:=fun c hc=>List.mem_append.2 (.inl hc)
 have inR:∀ c∈R,c∈L++R:=fun c hc=>List.mem_append.2 (.inr hc)
 have hd:=List.pairwise_append.1 m.disj
 refine ⟨m.fresh,m.os,m.tape,m.output,m.size,m.old,fun c hc b hb=>?_,List.pairwise_cons.2 ⟨fun d hd' b ⟨c,hc,k1⟩ k2=>hd.2.2 c hc d hd' b k1 k2,hd.2.1⟩,fun c hc=>?_⟩
 ·rcases List.mem_cons.1 hc with e | e
  ·subst e
   obtain ⟨c,hc,k⟩:=hb
   exact m.range c (inL c hc) b k
  ·exact m.range c (inR c e) b hb
 ·rcases List.mem_cons.1 hc with e | e
  ·subst e
   exact ⟨L,h,fun _=>Iff.rfl,hd.1,fun c hc=>c.keep _ _ w w (fun b hb=>(zdh (fun _=>Iff.rfl) b).2 hb) (fun _ _=>rfl) (m.hold c (inL c hc))⟩
  ·exact c.keep _ _ w w (fun b hb=>(zdh (fun _=>Iff.rfl) b).2 hb) (fun _ _=>rfl) (m.hold c (inR c e))
def ziF {α σ:Type} (P:Program) (l:Nat) (El':El α) (C:σ→List Ch→Prop) (Y:σ→α→Bool→(Bool×σ→Prop)→Prop):Prop :=
 ∀ {G D:Nat→Prop} {w0 w:World} {R L:List Ch} {s:σ} {x:α} {ok:Bool} {cs:List Value} {κ:Bool×σ→Prop} (m:Nat),C s L→Mem G D w0 (L++R) w→El'.cells (fz G (L++R) w) w x cs→Y s x ok κ →
  YieldAt Fence.wide m P l #[.agg cs.toArray,.bool ok] w fun e w'=>∃ b s' L',e=.returned (.bool b)∧C s' L'∧Mem G D w0 (L'++R) w'∧κ (b,s')
theorem zmJ {o:Oper} {a:Act} {w:World} {next:Act→World→Prop} {m:Nat} (h:o.wp P a w next Q):o.wpIn Fence.wide m P a w next Q:=by
 refine ⟨fun f _=>trivial,?_⟩
 have h':o.upon P a next Q ((execOp a.eval o).run P w):=h
 show o.uponIn Fence.wide m P a next Q ((execOp a.eval o).run P w)
 revert h'
 generalize (execOp a.eval o).run P w=r
 intro h'
 cases r with
 | ok x w' =>
  cases x <;> first | exact h' | (refine ⟨fun e=>by simp [Fence.wide] at e,?_⟩;exact callsIn_wide.2 h') | (refine ⟨fun e=>by simp [Fence.wide] at e,fun c cs _=>?_⟩;obtain ⟨v,w'',k1,k2⟩:=h' c cs;exact ⟨v,w'',k1,stepsIn_wide.2 k2⟩) | exact False.elim h'
 | halt x w'=>cases x <;> first | exact h' | exact False.elim h'
theorem zeg {id:Nat} {l:List Oper} (h:Nx n G D w0 (wpListIn Fence.wide 3 P l.toArray Q l) E L φ):Nx n G D w0 ((Code.region id l.toArray false).wp P Q) E L φ:=fun a w hE hm hφ=>wpIn_wide.1 (wpIn_region_lit (h a w hE hm hφ))
theorem zeo {ops:Array Oper} {m:Nat} {F:Fence} (h:Nx n G D w0 (Q .normal) E L φ):Nx n G D w0 (wpListIn F m P ops Q []) E L φ:=h
theorem znW {m:Nat} {ops:Array Oper} {rest:List Oper} {dst:Option Tmp} {op:Op} (h:Nx n G D w0 (fun a w=>Oper.wp P ⟨dst,op,ty,pos,aft,none⟩ a w (wpListIn Fence.wide m P ops Q rest) Q) E L φ):Nx n G D w0 (wpListIn Fence.wide m P ops Q (⟨dst,op,ty,pos,aft,none⟩ :: rest)) E L φ :=
 fun a w hE hm hφ=>wpListIn_plain rfl fun K hK=>zmJ (by
  have:=h a w hE hm hφ
  show Oper.upon _ _ _ _ _ _
  have h':Oper.upon P ⟨dst,op,ty,pos,aft,none⟩ a (wpListIn Fence.wide m P ops Q rest) Q ((execOp a.eval ⟨dst,op,ty,pos,aft,none⟩).run P w):=this
  revert h'
  generalize (execOp a.eval ⟨dst,op,ty,pos,aft,none⟩).run P w=r
  intro h'
  cases r with
  | ok x w' =>
   cases x <;> first | exact hK _ _ h' | (refine Calls.mono h' ?_;intro e w'' hh;cases e <;> first | exact hK _ _ hh | exact hh) | (refine Rows.mono h' ?_;intro e w'' hh;exact hK _ _ hh) | exact False.elim h'
  | halt x w'=>cases x <;> first | exact h' | exact False.elim h')
theorem stY {m:Nat} {ops:Array Oper} {rest:List Oper} {dst:Option Tmp} {op:Op}:xV P n G D w0 E ⟨dst,op,ty,pos,aft,none⟩ (wpListIn Fence.wide m P ops Q (⟨dst,op,ty,pos,aft,none⟩ :: rest)) (wpListIn Fence.wide m P ops Q rest) L L :=
 ⟨fun hd ho hr hψ k=>znW (zim hd ho hr hψ k)⟩
theorem zhC {α σ:Type} {l m:Nat} {El':El α} {C:σ→List Ch→Prop} {Y:σ→α→Bool→(Bool×σ→Prop)→Prop} (hY:ziF P l El' C Y) {B:Nat→Prop} {s:σ} {z:α} {ok:Bool} {cs:List Value} {κ:Bool×σ→Prop} {f:Operand} {args:List Operand} {ops:Array Oper} {rest:List Oper}
  (hf:oev E f=some (.func (.yield l) #[] #[])) (ha:zfU E args=some [.agg cs.toArray,.bool ok]) (hd:Nat.blt d n=true) (hc:∀ w,Mem G D w0 (ZI C B s :: L) w→El'.cells (fz G (ZI C B s :: L) w) w z cs)
  (k:∀ b s' B',Nx n G D w0 (wpListIn Fence.wide m P ops Q rest) ((d,.bool b) :: E) (ZI C B' s' :: L) (κ (b,s'))) :
  Nx n G D w0 (wpListIn Fence.wide m P ops Q (⟨some d,.call {callee:=.value f,args:=args.toArray,argTypes:=at'},ty,pos,aft,none⟩ :: rest)) E (ZI C B s :: L) (Y s z ok κ):=fun a w hE hm hφ=>by
 refine wpListIn_plain rfl fun K hK=>?_
 obtain ⟨Lc,h1,h2,hm'⟩:=hm.openC
 obtain ⟨fn,tmps,assign,body,hy,hR⟩:=hY (m - 1) h1 hm' (El'.keep _ _ w w _ _ (fun b hb=>(zdh h2 b).1 hb) (fun _ _=>rfl) (hc w hm)) hφ
 have hx:=hE.eval hf
 have hargs:=zbu (fun x v h=>hE.eval h) ha
 have hrun:(execOp a.eval ⟨some d,.call {callee:=.value f,args:=args.toArray,argTypes:=at'},ty,pos,aft,none⟩).run P w=.ok (.round l fn tmps assign body) w:=by
  simp [execOp,resolve,Deferred.ofValue,hx,invoke,hargs,hy]
 refine ⟨fun f _=>trivial,?_⟩
 change Oper.uponIn Fence.wide m P _ a K Q ((execOp a.eval ⟨some d,.call {callee:=.value f,args:=args.toArray,argTypes:=at'},ty,pos,aft,none⟩).run P w)
 rw [hrun,Oper.uponIn_round]
 refine ⟨fun e=>by simp [Fence.wide] at e,hR.mono ?_⟩
 rintro e w' ⟨b,s',L',rfl,q1,q2,q3⟩
 exact hK _ _ (k b s' _ _ w' (hE.put hd _) (q2.closeC q1) q3)
theorem zl3 {o:Oper} {a:Act} {w:World} {next:Act→World→Prop} {m l:Nat} (hnd:∀ c,o.op≠.defer c) (h:o.wp P a w next Q):o.wpIn (Fence.wide.inRound l) m P a w next Q:=by
 refine ⟨fun f _=>trivial,?_⟩
 have h':o.upon P a next Q ((execOp a.eval o).run P w):=h
 show o.uponIn (Fence.wide.inRound l) m P a next Q ((Oper.semAt (some l) a.eval o).run P w)
 rw [Oper.semAt_some l a.eval o hnd]
 revert h'
 generalize (execOp a.eval o).run P w=r
 intro h'
 cases r with
 | ok x w' =>
  cases x <;> first | exact h' | (refine ⟨fun e=>by simp [Fence.wide] at e,?_⟩;exact CallsIn.inRound l (callsIn_wide.2 h')) | (refine ⟨fun e=>by simp [Fence.wide] at e,fun c cs _=>?_⟩;obtain ⟨v,w'',k1,k2⟩:=h' c cs;exact ⟨v,w'',k1,stepsIn_wide.2 k2⟩) | exact False.elim h'
 | halt x w'=>cases x <;> first | exact h' | exact False.elim h'
section
variable {F:Fence} {m l:Nat}
theorem zjs {x y:Code} (h:Nx n G D w0 (x.wpIn F m P (Exit.then (y.wpIn F m P Q) Q)) E L φ):Nx n G D w0 ((Code.seq x y).wpIn F m P Q) E L φ:=fun a w hE hm hφ=>wpIn_seq (h a w hE hm hφ)
theorem zmi {id:Nat} {c:Code} (h:Nx n G D w0 (c.wpIn F m P (Exit.inBlock id Q)) E L φ):Nx n G D w0 ((Code.block id c).wpIn F m P Q) E L φ:=fun a w hE hm hφ=>wpIn_block (h a w hE hm hφ)
theorem zbp {id:Nat} {l:List Oper} (h:Nx n G D w0 (wpListIn F m P l.toArray Q l) E L φ):Nx n G D w0 ((Code.region id l.toArray false).wpIn F m P Q) E L φ:=fun a w hE hm hφ=>wpIn_region_lit (h a w hE hm hφ)
theorem zof (h:Nx n G D w0 (Q .normal) E L φ):Nx n G D w0 (Code.skip.wpIn F m P Q) E L φ:=fun a w hE hm hφ=>wpIn_skip (h a w hE hm hφ)
theorem zo7 (h:Nx n G D w0 (Q .ret) E L φ):Nx n G D w0 (Code.ret.wpIn F m P Q) E L φ:=fun a w hE hm hφ=>wpIn_ret (h a w hE hm hφ)
theorem zoc {c:Operand} {x y:Code} {t:Bool} {A B:Prop} (hc:oev E c=some (.bool t)) (hx:Nx n G D w0 (x.wpIn F m P Q) E L A) (hy:Nx n G D w0 (y.wpIn F m P Q) E L B):Nx n G D w0 ((Code.cond c x y).wpIn F m P Q) E L (ifW t A B) :=
 fun a w hE hm hφ=>wpIn_cond_split (hE.eval hc) (fun h=>hx a w hE hm (hφ.1 h)) (fun h=>hy a w hE hm (hφ.2 h))
theorem ziu {ops:Array Oper} {rest:List Oper} {dst:Option Tmp} {op:Op} (hnd:∀ c,op≠.defer c) (h:Nx n G D w0 (fun a w=>Oper.wp P ⟨dst,op,ty,pos,aft,none⟩ a w (wpListIn (Fence.wide.inRound l) m P ops Q rest) Q) E L φ):Nx n G D w0 (wpListIn (Fence.wide.inRound l) m P ops Q (⟨dst,op,ty,pos,aft,none⟩ :: rest)) E L φ :=
 fun a w hE hm hφ=>by
  unfold wpListIn
  rw [if_pos (by simp [Region.wanted])]
  exact zl3 hnd (h a w hE hm hφ)
theorem stR {ops:Array Oper} {rest:List Oper} {dst:Option Tmp} {op:Op} (hnd:∀ c,op≠.defer c):xV P n G D w0 E ⟨dst,op,ty,pos,aft,none⟩ (wpListIn (Fence.wide.inRound l) m P ops Q (⟨dst,op,ty,pos,aft,none⟩ :: rest)) (wpListIn (Fence.wide.inRound l) m P ops Q rest) L L :=
 ⟨fun hd ho hr hψ k=>ziu hnd (zim hd ho hr hψ k)⟩
end
end
end
section
open Go.RowKit
@[ext] structure zj where
 xLo:Int
 xHi:Int
 deriving DecidableEq
def zW (x:zj):List Value:=[(.int .i64 x.xLo),(.int .i64 x.xHi)]
def zc:El zj:=El.flat 2 zW (by decide) (fun _=>rfl) (fun x u h=>by simp only [zW,List.mem_cons,List.not_mem_nil,or_false] at h;rcases h with rfl | rfl <;> rfl)
theorem zy:Vp zc zW:=UU
abbrev uW:DEl zj:=zdz zc zW zy
@[ext] structure zL where
 xField:Int
 xLo:Int
 xHi:Int
 xNot:Bool
 deriving DecidableEq
def uE (x:zL):List Value:=[(.int .i64 x.xField),(.int .i64 x.xLo),(.int .i64 x.xHi),(.bool x.xNot)]
def jk:El zL:=El.flat 4 uE (by decide) (fun _=>rfl) (fun x u h=>by simp only [uE,List.mem_cons,List.not_mem_nil,or_false] at h;rcases h with rfl | rfl | rfl | rfl <;> rfl)
theorem jq:Vp jk uE:=UU
abbrev zoa:DEl zL:=zdz jk uE jq
@[ext] structure zr where
 xTests:(List zL)
 xAction:Int
 xChain:Int
 deriving DecidableEq
def zfZ (u:Value) (x:zr):List Value:=[u,(.int .i64 x.xAction),(.int .i64 x.xChain)]
def ui:El zr where
 size:=3
 cells:=fun F w x cs=>∃ u:Value,cs=zfZ u x∧Sl jk F w u x.xTests
 pos:=by decide
 len:=fun F w x cs ⟨u,e,_⟩=>by rw [e];rfl
 one:=fun F w x cs ⟨u,e,h⟩ v hv=>by
  subst e
  simp only [zfZ,List.mem_cons,List.not_mem_nil,or_false] at hv
  rcases hv with e | e | e
  ·subst e;exact h.one
  ·subst e;exact rfl
  ·subst e;exact rfl
 keep:=fun F F' w w' x cs hF hb ⟨u,e,h⟩=>⟨u,e,h.keep hF hb⟩
def zU:DEl zr where
 el:=ui
 own:=fun B w x cs=>∃ u:Value,cs=zfZ u x∧Dp zoa 165 B w u x.xTests
 read:=fun B w x cs ⟨u,e,h⟩=>⟨u,e,h.sl⟩
 keep:=fun B w w' x cs hk ⟨u,e,h⟩=>⟨u,e,h.keep hk⟩
 lt:=fun B w x cs ⟨u,e,h⟩=>h.lt
@[ext] structure zD where
 xChains:(List (List zr))
 xAccept:Bool
 deriving DecidableEq
@[ext] structure zjU where
 x0:Int
 x1:Int
 x2:Int
 x3:Int
 deriving DecidableEq
@[ext] structure yn where
 xFrom:Int
 xTo:Int
 xPort:Int
 xProto:Int
 deriving DecidableEq
@[ext] structure za where
 x0:(List zj)
 x1:(List zj)
 x2:(List zj)
 x3:(List zj)
 deriving DecidableEq
def zbE (u:Value×Value×Value×Value) (x:za):List Value:=[u.1,u.2.1,u.2.2.1,u.2.2.2]
def zk:El za where
 size:=4
 cells:=fun F w x cs=>∃ u:Value×Value×Value×Value,cs=zbE u x∧Sl zc F w u.1 x.x0∧Sl zc F w u.2.1 x.x1∧Sl zc F w u.2.2.1 x.x2∧Sl zc F w u.2.2.2 x.x3
 pos:=by decide
 len:=fun F w x cs ⟨u,e,_⟩=>by rw [e];rfl
 one:=fun F w x cs ⟨u,e,h⟩ v hv=>by
  subst e
  simp only [zbE,List.mem_cons,List.not_mem_nil,or_false] at hv
  rcases hv with e | e | e | e
  ·subst e;exact h.1.one
  ·subst e;exact h.2.1.one
  ·subst e;exact h.2.2.1.one
  ·subst e;exact h.2.2.2.one
 keep:=fun F F' w w' x cs hF hb ⟨u,e,h⟩=>⟨u,e,h.1.keep hF hb,h.2.1.keep hF hb,h.2.2.1.keep hF hb,h.2.2.2.keep hF hb⟩
@[ext] structure yg where
 xAccept:Bool
 deriving DecidableEq
@[ext] structure xZ where
 deriving DecidableEq
@[ext] structure yd where
 deriving DecidableEq
@[ext] structure Xn where
 xChain:Int
 deriving DecidableEq
@[ext] structure zq where
 xWhere:za
 xAccept:Bool
 deriving DecidableEq
def zgD (u:Value×Value×Value×Value) (x:zq):List Value:=[u.1,u.2.1,u.2.2.1,u.2.2.2,(.bool x.xAccept)]
def zB:El zq where
 size:=5
 cells:=fun F w x cs=>∃ u:Value×Value×Value×Value,cs=zgD u x∧Sl zc F w u.1 x.xWhere.x0∧Sl zc F w u.2.1 x.xWhere.x1∧Sl zc F w u.2.2.1 x.xWhere.x2∧Sl zc F w u.2.2.2 x.xWhere.x3
 pos:=by decide
 len:=fun F w x cs ⟨u,e,_⟩=>by rw [e];rfl
 one:=fun F w x cs ⟨u,e,h⟩ v hv=>by
  subst e
  simp only [zgD,List.mem_cons,List.not_mem_nil,or_false] at hv
  rcases hv with e | e | e | e | e
  ·subst e;exact h.1.one
  ·subst e;exact h.2.1.one
  ·subst e;exact h.2.2.1.one
  ·subst e;exact h.2.2.2.one
  ·subst e;exact rfl
 keep:=fun F F' w w' x cs hF hb ⟨u,e,h⟩=>⟨u,e,h.1.keep hF hb,h.2.1.keep hF hb,h.2.2.1.keep hF hb,h.2.2.2.keep hF hb⟩
@[ext] structure jm where
 xSides:(List (List zj))
 deriving DecidableEq
def zhs (u:Value) (x:jm):List Value:=[u]
def xt:El jm where
 size:=1
 cells:=fun F w x cs=>∃ u:Value,cs=zhs u x∧Sl (z1 zc) F w u x.xSides
 pos:=by decide
 len:=fun F w x cs ⟨u,e,_⟩=>by rw [e];rfl
 one:=fun F w x cs ⟨u,e,h⟩ v hv=>by
  subst e
  simp only [zhs,List.mem_cons,List.not_mem_nil,or_false] at hv
  subst hv;exact h.one
 keep:=fun F F' w w' x cs hF hb ⟨u,e,h⟩=>⟨u,e,h.keep hF hb⟩
def yh:DEl jm where
 el:=xt
 own:=fun B w x cs=>∃ u:Value,cs=zhs u x∧Dp (dSl uW 89) 90 B w u x.xSides
 read:=fun B w x cs ⟨u,e,h⟩=>⟨u,e,h.sl⟩
 keep:=fun B w w' x cs hk ⟨u,e,h⟩=>⟨u,e,h.keep hk⟩
 lt:=fun B w x cs ⟨u,e,h⟩=>h.lt
@[ext] structure zX where
 xWhere:jm
 xAccept:Bool
 deriving DecidableEq
def zfd (u:Value) (x:zX):List Value:=[u,(.bool x.xAccept)]
def jd:El zX where
 size:=2
 cells:=fun F w x cs=>∃ u:Value,cs=zfd u x∧Sl (z1 zc) F w u x.xWhere.xSides
 pos:=by decide
 len:=fun F w x cs ⟨u,e,_⟩=>by rw [e];rfl
 one:=fun F w x cs ⟨u,e,h⟩ v hv=>by
  subst e
  simp only [zfd,List.mem_cons,List.not_mem_nil,or_false] at hv
  rcases hv with e | e
  ·subst e;exact h.one
  ·subst e;exact rfl
 keep:=fun F F' w w' x cs hF hb ⟨u,e,h⟩=>⟨u,e,h.keep hF hb⟩
def x7:DEl zX where
 el:=jd
 own:=fun B w x cs=>∃ u:Value,cs=zfd u x∧Dp (dSl uW 89) 90 B w u x.xWhere.xSides
 read:=fun B w x cs ⟨u,e,h⟩=>⟨u,e,h.sl⟩
 keep:=fun B w w' x cs hk ⟨u,e,h⟩=>⟨u,e,h.keep hk⟩
 lt:=fun B w x cs ⟨u,e,h⟩=>h.lt
@[ext] structure za5 where
 xChain:Int
 xNext:Int
 deriving DecidableEq
@[ext] structure Ym where
 xName:ByteArray
 xTop:Int
 deriving DecidableEq
def yN (x:Ym):List Value:=[(.string x.xName),(.int .i64 x.xTop)]
def zS:El Ym:=El.flat 2 yN (by decide) (fun _=>rfl) (fun x u h=>by simp only [yN,List.mem_cons,List.not_mem_nil,or_false] at h;rcases h with rfl | rfl <;> rfl)
theorem XQ:Vp zS yN:=UU
inductive xn where
 | kDeciding (x:yg)
 | kCalling (x:Xn)
 | kReturning (x:xZ)
 | kPassing (x:yd)
def VJ:xn→Value
 | .kDeciding x=>.iface 262 (.agg #[(.bool x.xAccept)])
 | .kCalling x=>.iface 264 (.agg #[(.int .i64 x.xChain)])
 | .kReturning x=>.iface 266 (.agg #[])
 | .kPassing x=>.iface 267 (.agg #[])
def xn.casesW (a:xn) (p0:yg→Prop) (p1:Xn→Prop) (p2:xZ→Prop) (p3:yd→Prop):Prop:=match a with
 | .kDeciding x=>p0 x
 | .kCalling x=>p1 x
 | .kReturning x=>p2 x
 | .kPassing x=>p3 x
def zx:List Ym:=[⟨(ByteArray.mk #[102,114,111,109]),65535⟩,⟨(ByteArray.mk #[116,111]),65535⟩,⟨(ByteArray.mk #[112,111,114,116]),255⟩,⟨(ByteArray.mk #[112,114,111,116,111]),7⟩]
def uM (n_0:Int) (κ:Int→Prop):Prop :=
 jnW (fun (t61:Bool)=>ifW t61 (κ 65535) (ifW (decide (n_0=2)) (κ 255) (ifW (decide (n_0=3)) (κ 7) (κ (-1))))) (fun k62=>ifW (decide (n_0=0)) (k62 (decide (n_0=0))) (k62 (decide (n_0=1))))
def jw (n_0:Int) (κ:Int→Prop):Prop :=
 jnW (fun (t61:Bool)=>ifW t61 (κ (-1)) (zI zx n_0 (fun e63=>κ e63.xTop))) (fun k62=>ifW (decide (n_0<0)) (k62 true) (k62 (decide (4≤n_0))))
def YE (t_0:zL) (κ:Bool→Prop):Prop :=
 jnW (fun (t64:Bool)=>κ t64) (fun k65=>ifW (decide (0≤t_0.xField)) (ifW (decide (t_0.xField<4)) (ifW (decide (0≤t_0.xLo)) (ifW (decide (t_0.xLo≤t_0.xHi)) (jw t_0.xField (fun r3=>k65 (decide (t_0.xHi≤r3)))) (k65 false)) (k65 false)) (k65 false)) (k65 false))
def Yc (list_0:(List zL)) (κ:Bool→Prop):Prop :=
 ifW (decide (6<(list_0.length:Int))) (κ false) (z8 (fun (nx4:Int→Prop) (t3:Int)=>ifW (decide (t3<(list_0.length:Int))) (zI list_0 t3 (fun e5=>YE e5 (fun r9=>ifW (!r9) (κ false) (jh t3 1 (fun t10=>nx4 t10))))) (κ true)) 0)
def Xj (r_0:zr) (κ:Bool→Prop):Prop :=
 Yc r_0.xTests (fun r8=>ifW (!r8) (κ false) (ifW (decide (r_0.xAction=3)) (jnW (fun (t69:Bool)=>κ t69) (fun k70=>ifW (decide (0≤r_0.xChain)) (k70 (decide (r_0.xChain<5))) (k70 false))) (jnW (fun (t131:Bool)=>ifW t131 (κ (decide (r_0.xChain=0))) (κ false)) (fun k132=>ifW (decide (r_0.xAction=1)) (k132 (decide (r_0.xAction=1))) (ifW (decide (r_0.xAction=2)) (k132 (decide (r_0.xAction=2))) (ifW (decide (r_0.xAction=4)) (k132 (decide (r_0.xAction=4))) (k132 (decide (r_0.xAction=5)))))))))
def Yd (list_0:(List zr)) (κ:Bool→Prop):Prop :=
 ifW (decide (8<(list_0.length:Int))) (κ false) (z8 (fun (nx4:Int→Prop) (t3:Int)=>ifW (decide (t3<(list_0.length:Int))) (zI list_0 t3 (fun e5=>Xj e5 (fun r16=>ifW (!r16) (κ false) (jh t3 1 (fun t17=>nx4 t17))))) (κ true)) 0)
def Yv (rules_0:(List zr)) (κ:(List Int)→Prop):Prop :=
 z8 (fun (nx9:((List Bool)×Int)→Prop) ((xs6,t8):((List Bool)×Int))=>ifW (decide (t8<(rules_0.length:Int))) (jnW (fun (xs84:(List Bool))=>jh t8 1 (fun t87=>nx9 (xs84,t87))) (fun k86=>zI rules_0 t8 (fun e10=>ifW (decide (e10.xAction=3)) (zI xs6 e10.xChain (fun e21=>k86 (xs6.set (e10.xChain).toNat true))) (k86 xs6)))) (zoC xs6 (fun e89 e90 e91 e92 e93=>z8 (fun (nx100:((List Int)×Int)→Prop) ((xs96,t99):((List Int)×Int))=>ifW (decide (t99<5)) (jnW (fun (xs166:(List Int))=>jh t99 1 (fun t170=>nx100 (xs166,t170))) (fun k169=>zI ([e89,e90,e91,e92,e93]) t99 (fun e101=>ifW e101 (jW xs96 ([t99]) (fun _=>k169 (xs96++([t99])))) (k169 xs96)))) (κ xs96)) ([],0)))) ([false,false,false,false,false],0)
def X8 (rec:((List (List zr))→Int→(List Int)→((Bool×(List Int))→Prop)→Prop)) (chains_0:(List (List zr))) (chain_1:Int) (colours_2:(List Int)) (κ:(Bool×(List Int))→Prop):Prop :=
 ifW (decide ((chains_0.length:Int)≤chain_1)) (κ (true,colours_2)) (zI colours_2 chain_1 (fun e5=>ifW (decide (e5=1)) (κ (false,colours_2)) (ifW (decide (e5=2)) (κ (true,colours_2)) (zI colours_2 chain_1 (fun e7=>zI chains_0 chain_1 (fun e10=>Yv e10 (fun r16=>z8 (fun (nx23:((List Int)×Bool×Int)→Prop) ((xs19,t21,t22):((List Int)×Bool×Int))=>ifW (decide (t22<(r16.length:Int))) (jnW (fun ((xs89,t91):((List Int)×Bool))=>jh t22 1 (fun t93=>nx23 (xs89,t91,t93))) (fun k92=>zI r16 t22 (fun e24=>rec chains_0 e24 xs19 (fun (r26,r27)=>ifW (!r26) (k92 (r27,false)) (k92 (r27,t21)))))) (zI xs19 chain_1 (fun e94=>κ (t21,(xs19.set (chain_1).toNat 2))))) ((colours_2.set (chain_1).toNat 1),true,0))))))))
def yl:Nat→(List (List zr))→Int→(List Int)→((Bool×(List Int))→Prop)→Prop
 | 0=>fun _ _ _ _=>False
 | n+1=>X8 (yl n)
def zal (chains_0:(List (List zr))) (chain_1:Int) (colours_2:(List Int)) (κ:(Bool×(List Int))→Prop):Prop:=∃ n,yl n chains_0 chain_1 colours_2 κ
def Yw (chains_0:(List (List zr))) (κ:Bool→Prop):Prop :=
 z8 (fun (nx8:((List Int)×Int)→Prop) ((xs5,t7):((List Int)×Int))=>ifW (decide (t7<(chains_0.length:Int))) (zal chains_0 t7 xs5 (fun (r9,r10)=>ifW (!r9) (κ false) (jh t7 1 (fun t12=>nx8 (r10,t12))))) (κ true)) ([0,0,0,0,0],0)
def yr (s_0:zD) (κ:Bool→Prop):Prop :=
 jnW (fun (t68:Bool)=>ifW t68 (κ false) (z8 (fun (nx71:Int→Prop) (t70:Int)=>ifW (decide (t70<(s_0.xChains.length:Int))) (zI s_0.xChains t70 (fun e72=>Yd e72 (fun r78=>ifW (!r78) (κ false) (jh t70 1 (fun t79=>nx71 t79))))) (z8 (fun (nx81:Int→Prop) (t80:Int)=>ifW (decide (t80<(s_0.xChains.length:Int))) (zI s_0.xChains t80 (fun e82=>Yv e82 (fun r88=>z8 (fun (nx92:Int→Prop) (t91:Int)=>ifW (decide (t91<(r88.length:Int))) (zI r88 t91 (fun e93=>ifW (decide ((s_0.xChains.length:Int)≤e93)) (κ false) (jh t91 1 (fun t95=>nx92 t95)))) (jh t80 1 (fun t96=>nx81 t96))) 0))) (Yw s_0.xChains (fun r97=>κ r97))) 0)) 0)) (fun k69=>ifW (decide ((s_0.xChains.length:Int)<1)) (k69 true) (k69 (decide (5<(s_0.xChains.length:Int)))))
def yv (r_0:zr) (κ:xn→Prop):Prop :=
 ifW (decide (r_0.xAction=1)) (κ (xn.kDeciding (yg.mk true))) (ifW (decide (r_0.xAction=2)) (κ (xn.kDeciding (yg.mk false))) (ifW (decide (r_0.xAction=3)) (κ (xn.kCalling (Xn.mk r_0.xChain))) (ifW (decide (r_0.xAction=4)) (κ (xn.kReturning (xZ.mk ))) (κ (xn.kPassing (yd.mk ))))))
def XG (a_0:(List zj)) (b_1:(List zj)) (κ:(Int×Bool)→Prop):Prop :=
 z8 (fun (nx7:(Int×Int)→Prop) ((t5,t6):(Int×Int))=>jnW (fun (t68:Bool)=>ifW t68 (zI a_0 t5 (fun e70=>zI b_1 t6 (fun e72=>zI a_0 t5 (fun e74=>zI b_1 t6 (fun e76=>ifW (decide ((max e70.xLo e72.xLo)≤(min e74.xHi e76.xHi))) (κ ((max e70.xLo e72.xLo),true)) (zI a_0 t5 (fun e78=>zI b_1 t6 (fun e80=>ifW (decide (e78.xHi<e80.xHi)) (jh t5 1 (fun t82=>nx7 (t82,t6))) (jh t6 1 (fun t83=>nx7 (t5,t83))))))))))) (κ (0,false))) (fun k69=>ifW (decide (t5<(a_0.length:Int))) (k69 (decide (t6<(b_1.length:Int)))) (k69 false))) (0,0)
def Vm (fields_0:zjU) (κ:yn→Prop):Prop :=
 zI ([fields_0.x0,fields_0.x1,fields_0.x2,fields_0.x3]) 0 (fun e5=>zI ([fields_0.x0,fields_0.x1,fields_0.x2,fields_0.x3]) 1 (fun e7=>zI ([fields_0.x0,fields_0.x1,fields_0.x2,fields_0.x3]) 2 (fun e9=>zI ([fields_0.x0,fields_0.x1,fields_0.x2,fields_0.x3]) 3 (fun e11=>κ (yn.mk e5 e7 e9 e11)))))
def yH (s_0:za) (other_1:za) (κ:(yn×Bool)→Prop):Prop :=
 z8 (fun (nx52:((List Int)×Int)→Prop) ((xs49,t51):((List Int)×Int))=>ifW (decide (t51<4)) (jnW (fun ((t53,t54):(Int×Bool))=>ifW (!t54) (κ ((yn.mk 0 0 0 0),false)) (zI xs49 t51 (fun e78=>jh t51 1 (fun t81=>nx52 ((xs49.set (t51).toNat t53),t81))))) (fun k55=>zI ([s_0.x0,s_0.x1,s_0.x2,s_0.x3]) t51 (fun e56=>zI ([other_1.x0,other_1.x1,other_1.x2,other_1.x3]) t51 (fun e58=>XG e56 e58 (fun (r68,r69)=>k55 (r68,r69)))))) (zhq xs49 (fun e82 e83 e84 e85=>Vm (zjU.mk e82 e83 e84 e85) (fun r87=>κ (r87,true))))) ([0,0,0,0],0)
def yJ (s_0:za) (other_1:za) (κ:Bool→Prop):Prop :=
 yH s_0 other_1 (fun (r75,r76)=>κ r76)
def yV (list_0:(List zj)) (κ:((List zj)×Bool)→Prop):Prop :=
 ifW (decide (40<(list_0.length:Int))) (κ ([],false)) (κ (list_0,true))
def uI (rest_0:(List zj)) (at_1:Int) (top_2:Int) (κ:(Bool×Int)→Prop):Prop :=
 ifW (decide ((rest_0.length:Int)=0)) (κ (false,top_2)) (zI rest_0 0 (fun e3=>ifW (decide (at_1<e3.xLo)) (zI rest_0 0 (fun e5=>Ur e5.xLo 1 (fun t7=>κ (false,t7)))) (zI rest_0 0 (fun e8=>κ (true,e8.xHi)))))
def Y2 (inA_0:Bool) (inB_1:Bool) (κ:Bool→Prop):Prop :=
 jnW (fun (t61:Bool)=>κ t61) (fun k62=>ifW inA_0 (k62 inB_1) (k62 false))
def uP (a_0:(List zj)) (b_1:(List zj)) (top_2:Int) (κ:(List zj)→Prop):Prop :=
 z8 (fun (nx14:((List zj)×Int×Int×Int)→Prop) ((xs8,t11,t12,t13):((List zj)×Int×Int×Int))=>ifW (decide (t13≤top_2)) (z8 (fun (nx16:Int→Prop) (t15:Int)=>jnW (fun (t79:Bool)=>ifW t79 (jh t15 1 (fun t81=>nx16 t81)) (z8 (fun (nx83:Int→Prop) (t82:Int)=>jnW (fun (t146:Bool)=>ifW t146 (jh t82 1 (fun t148=>nx83 t148)) (X3 a_0 t15 (a_0.length:Int) (fun xs150=>uI xs150 t13 top_2 (fun (r153,r154)=>X3 b_1 t82 (b_1.length:Int) (fun xs156=>uI xs156 t13 top_2 (fun (r159,r160)=>jnW (fun (xs296:(List zj))=>jh (min r154 r160) 1 (fun t300=>nx14 (xs296,t15,t82,t300))) (fun k299=>Y2 r153 r159 (fun r161=>ifW r161 (jnW (fun (t226:Bool)=>ifW t226 (Ur (xs8.length:Int) 1 (fun t228=>zI xs8 t228 (fun e229=>k299 (xs8.set (t228).toNat (zj.mk e229.xLo (min r154 r160)))))) (jW xs8 ([(zj.mk t13 (min r154 r160))]) (fun _=>k299 (xs8++([(zj.mk t13 (min r154 r160))]))))) (fun k227=>ifW (decide (0<(xs8.length:Int))) (Ur (xs8.length:Int) 1 (fun t162=>zI xs8 t162 (fun e163=>jh e163.xHi 1 (fun t165=>k227 (decide (t165=t13)))))) (k227 false))) (k299 xs8))))))))) (fun k147=>ifW (decide (t82<(b_1.length:Int))) (zI b_1 t82 (fun e84=>k147 (decide (e84.xHi<t13)))) (k147 false))) t12)) (fun k80=>ifW (decide (t15<(a_0.length:Int))) (zI a_0 t15 (fun e17=>k80 (decide (e17.xHi<t13)))) (k80 false))) t11) (κ xs8)) ([],0,0,0)
def jO (a_0:(List zj)) (b_1:(List zj)) (top_2:Int) (κ:((List zj)×Bool)→Prop):Prop :=
 uP a_0 b_1 top_2 (fun r6=>yV r6 (fun (r9,r12)=>κ (r9,r12)))
def Yf (s_0:za) (other_1:za) (κ:(za×Bool)→Prop):Prop :=
 z8 (fun (nx52:((List (List zj))×Int)→Prop) ((xs49,t51):((List (List zj))×Int))=>ifW (decide (t51<4)) (jnW (fun ((xs53,t56):((List zj)×Bool))=>ifW (!t56) (κ ((za.mk ([]) ([]) ([]) ([])),false)) (zI xs49 t51 (fun e122=>jh t51 1 (fun t128=>nx52 ((xs49.set (t51).toNat xs53),t128))))) (fun k57=>zI ([s_0.x0,s_0.x1,s_0.x2,s_0.x3]) t51 (fun e58=>zI ([other_1.x0,other_1.x1,other_1.x2,other_1.x3]) t51 (fun e60=>jw t51 (fun r70=>jO e58 e60 r70 (fun (r71,r73)=>k57 (r71,r73))))))) (zhq xs49 (fun e129 e130 e131 e132=>κ ((za.mk e129 e130 e131 e132),true)))) ([[],[],[],[]],0)
def xe (u_0_chains:(List (List zr))) (u_0_flats:(List zq)) (u_0_over:Bool) (boxes_1:(List za)) (κ:((List za)×Bool)→Prop):Prop :=
 jnW (fun (t70:Bool)=>κ (boxes_1,t70)) (fun k71=>ifW (decide (400<(boxes_1.length:Int))) (k71 true) (k71 u_0_over))
def u7 (s_0:za) (κ:Bool→Prop):Prop :=
 z8 (fun (nx39:Int→Prop) (t38:Int)=>ifW (decide (t38<4)) (zI ([s_0.x0,s_0.x1,s_0.x2,s_0.x3]) t38 (fun e41=>ifW (decide ((e41.length:Int)=0)) (κ true) (jh t38 1 (fun t44=>nx39 t44)))) (κ false)) 0
def ZG (inA_0:Bool) (inB_1:Bool) (κ:Bool→Prop):Prop :=
 jnW (fun (t61:Bool)=>κ t61) (fun k62=>ifW inA_0 (k62 (!inB_1)) (k62 false))
def xc (a_0:(List zj)) (b_1:(List zj)) (top_2:Int) (κ:(List zj)→Prop):Prop :=
 z8 (fun (nx14:((List zj)×Int×Int×Int)→Prop) ((xs8,t11,t12,t13):((List zj)×Int×Int×Int))=>ifW (decide (t13≤top_2)) (z8 (fun (nx16:Int→Prop) (t15:Int)=>jnW (fun (t79:Bool)=>ifW t79 (jh t15 1 (fun t81=>nx16 t81)) (z8 (fun (nx83:Int→Prop) (t82:Int)=>jnW (fun (t146:Bool)=>ifW t146 (jh t82 1 (fun t148=>nx83 t148)) (X3 a_0 t15 (a_0.length:Int) (fun xs150=>uI xs150 t13 top_2 (fun (r153,r154)=>X3 b_1 t82 (b_1.length:Int) (fun xs156=>uI xs156 t13 top_2 (fun (r159,r160)=>jnW (fun (xs296:(List zj))=>jh (min r154 r160) 1 (fun t300=>nx14 (xs296,t15,t82,t300))) (fun k299=>ZG r153 r159 (fun r161=>ifW r161 (jnW (fun (t226:Bool)=>ifW t226 (Ur (xs8.length:Int) 1 (fun t228=>zI xs8 t228 (fun e229=>k299 (xs8.set (t228).toNat (zj.mk e229.xLo (min r154 r160)))))) (jW xs8 ([(zj.mk t13 (min r154 r160))]) (fun _=>k299 (xs8++([(zj.mk t13 (min r154 r160))]))))) (fun k227=>ifW (decide (0<(xs8.length:Int))) (Ur (xs8.length:Int) 1 (fun t162=>zI xs8 t162 (fun e163=>jh e163.xHi 1 (fun t165=>k227 (decide (t165=t13)))))) (k227 false))) (k299 xs8))))))))) (fun k147=>ifW (decide (t82<(b_1.length:Int))) (zI b_1 t82 (fun e84=>k147 (decide (e84.xHi<t13)))) (k147 false))) t12)) (fun k80=>ifW (decide (t15<(a_0.length:Int))) (zI a_0 t15 (fun e17=>k80 (decide (e17.xHi<t13)))) (k80 false))) t11) (κ xs8)) ([],0,0,0)
def ur (a_0:(List zj)) (b_1:(List zj)) (top_2:Int) (κ:((List zj)×Bool)→Prop):Prop :=
 xc a_0 b_1 top_2 (fun r6=>yV r6 (fun (r9,r12)=>κ (r9,r12)))
def XY {σ_:Type} (Y_:σ_→za→Bool→(Bool×σ_→Prop)→Prop) (z_:σ_) (a_1:za) (b_2:za) (κ:σ_→Prop):Prop :=
 u7 a_1 (fun r20=>ifW r20 (κ z_) (yJ a_1 b_2 (fun r51=>ifW (!r51) (Y_ z_ a_1 true (fun (t67,z68)=>κ z68)) (z8 (fun (nx108:((List (List zj))×σ_×Bool×Int)→Prop) ((xs101,z103,t106,t107):((List (List zj))×σ_×Bool×Int))=>ifW (decide (t107<4)) (jnW (fun ((z498,xs501,t503):(σ_×(List (List zj))×Bool))=>jh t107 1 (fun t505=>nx108 (xs501,z498,t503,t505))) (fun k504=>jnW (fun ((xs109,t112):((List zj)×Bool))=>jnW (fun (t232:Bool)=>ifW t232 (Y_ z103 (za.mk ([]) ([]) ([]) ([])) false (fun (t234,z235)=>κ z235)) (jnW (fun ((z363,xs366):(σ_×(List (List zj))))=>jnW (fun ((xs369,t372):((List zj)×Bool))=>zI xs366 t107 (fun e432=>ifW t106 (k504 (z363,(xs366.set (t107).toNat xs369),t372)) (k504 (z363,(xs366.set (t107).toNat xs369),false)))) (fun k373=>(zI ([a_1.x0,a_1.x1,a_1.x2,a_1.x3]) t107 (fun e374=>(zI ([b_2.x0,b_2.x1,b_2.x2,b_2.x3]) t107 (fun e379=>jw t107 (fun r384=>jO e374 e379 r384 (fun (r385,r387)=>k373 (r385,r387)))))∧(jw t107 (fun r388=>zI ([b_2.x0,b_2.x1,b_2.x2,b_2.x3]) t107 (fun e389=>jO e374 e389 r388 (fun (r394,r396)=>k373 (r394,r396)))))))∧(zI ([b_2.x0,b_2.x1,b_2.x2,b_2.x3]) t107 (fun e397=>(zI ([a_1.x0,a_1.x1,a_1.x2,a_1.x3]) t107 (fun e402=>jw t107 (fun r407=>jO e402 e397 r407 (fun (r385,r387)=>k373 (r385,r387)))))∧(jw t107 (fun r408=>zI ([a_1.x0,a_1.x1,a_1.x2,a_1.x3]) t107 (fun e409=>jO e409 e397 r408 (fun (r414,r416)=>k373 (r414,r416)))))))∧(jw t107 (fun r417=>(zI ([a_1.x0,a_1.x1,a_1.x2,a_1.x3]) t107 (fun e418=>zI ([b_2.x0,b_2.x1,b_2.x2,b_2.x3]) t107 (fun e423=>jO e418 e423 r417 (fun (r394,r396)=>k373 (r394,r396)))))∧(zI ([b_2.x0,b_2.x1,b_2.x2,b_2.x3]) t107 (fun e425=>zI ([a_1.x0,a_1.x1,a_1.x2,a_1.x3]) t107 (fun e430=>jO e430 e425 r417 (fun (r414,r416)=>k373 (r414,r416))))))))) (fun k368=>ifW (decide (0<(xs109.length:Int))) (zhq xs101 (fun e238 e239 e240 e241=>zI ([e238,e239,e240,e241]) t107 (fun e273=>zhq (([e238,e239,e240,e241]).set (t107).toNat xs109) (fun e279 e280 e281 e282=>Y_ z103 (za.mk e279 e280 e281 e282) true (fun (t299,z300)=>ifW (!t299) (κ z300) (k368 (z300,[e238,e239,e240,e241]))))))) (k368 (z103,xs101))))) (fun k233=>ifW (!t112) (k233 true) (ifW (decide (0<(xs109.length:Int))) (k233 (!t106)) (k233 false)))) (fun k113=>(zI ([a_1.x0,a_1.x1,a_1.x2,a_1.x3]) t107 (fun e114=>(zI ([b_2.x0,b_2.x1,b_2.x2,b_2.x3]) t107 (fun e119=>jw t107 (fun r124=>ur e114 e119 r124 (fun (r125,r127)=>k113 (r125,r127)))))∧(jw t107 (fun r128=>zI ([b_2.x0,b_2.x1,b_2.x2,b_2.x3]) t107 (fun e129=>ur e114 e129 r128 (fun (r134,r136)=>k113 (r134,r136)))))))∧(zI ([b_2.x0,b_2.x1,b_2.x2,b_2.x3]) t107 (fun e137=>(zI ([a_1.x0,a_1.x1,a_1.x2,a_1.x3]) t107 (fun e142=>jw t107 (fun r147=>ur e142 e137 r147 (fun (r125,r127)=>k113 (r125,r127)))))∧(jw t107 (fun r148=>zI ([a_1.x0,a_1.x1,a_1.x2,a_1.x3]) t107 (fun e149=>ur e149 e137 r148 (fun (r154,r156)=>k113 (r154,r156)))))))∧(jw t107 (fun r157=>(zI ([a_1.x0,a_1.x1,a_1.x2,a_1.x3]) t107 (fun e158=>zI ([b_2.x0,b_2.x1,b_2.x2,b_2.x3]) t107 (fun e163=>ur e158 e163 r157 (fun (r134,r136)=>k113 (r134,r136)))))∧(zI ([b_2.x0,b_2.x1,b_2.x2,b_2.x3]) t107 (fun e165=>zI ([a_1.x0,a_1.x1,a_1.x2,a_1.x3]) t107 (fun e170=>ur e170 e165 r157 (fun (r154,r156)=>k113 (r154,r156)))))))))) (κ z103)) ([a_1.x0,a_1.x1,a_1.x2,a_1.x3],z_,true,0)))))
def zaF (z:Option (List za)) (x:za) (ok:Bool) (κ:Bool×Option (List za)→Prop):Prop :=
 match z with
 | none=>False
 | some xs=>ifW ok (jW xs [x] (fun ys=>κ (true,some ys))) (κ (false,none))
def znD:Option (List za)→List za×Bool
 | some xs=>(xs,true)
 | none=>([],false)
def yF (s_0:za) (other_1:za) (κ:((List za)×Bool)→Prop):Prop :=
 XY zaF (some []) s_0 other_1 (fun r=>κ (znD r))
def Zn (u_0_chains:(List (List zr))) (u_0_flats:(List zq)) (u_0_over:Bool) (boxes_1:(List za)) (where_2:za) (κ:((List za)×(List za)×Bool)→Prop):Prop :=
 z8 (fun (nx42:((List za)×(List za)×Int)→Prop) ((xs34,xs38,t41):((List za)×(List za)×Int))=>ifW (decide (t41<(boxes_1.length:Int))) (zI boxes_1 t41 (fun e43=>jnW (fun (xs252:(List za))=>yF e43 where_2 (fun (r286,r289)=>ifW (!r289) (κ ([],[],true)) (jW xs38 r286 (fun _=>jh t41 1 (fun t294=>nx42 (xs252,(xs38++r286),t294)))))) (fun k255=>yJ e43 where_2 (fun r103=>ifW r103 (Yf e43 where_2 (fun (r134,r143)=>ifW (!r143) (κ ([],[],true)) (jW xs34 ([r134]) (fun _=>k255 (xs34++([r134])))))) (k255 xs34))))) (xe u_0_chains u_0_flats u_0_over xs34 (fun (r295,r298)=>xe u_0_chains u_0_flats r298 xs38 (fun (r299,r302)=>κ (r295,r299,r302))))) ([],[],0)
def XV (κ:za→Prop):Prop :=
 z8 (fun (nx8:((List (List zj))×Int)→Prop) ((xs5,t7):((List (List zj))×Int))=>ifW (decide (t7<4)) (jw t7 (fun r9=>zI xs5 t7 (fun e12=>jh t7 1 (fun t18=>nx8 ((xs5.set (t7).toNat ([(zj.mk 0 r9)])),t18))))) (zhq xs5 (fun e19 e20 e21 e22=>κ (za.mk e19 e20 e21 e22)))) ([[],[],[],[]],0)
def ZS (t_0:zL) (κ:(List zj)→Prop):Prop :=
 ifW (!t_0.xNot) (κ ([(zj.mk t_0.xLo t_0.xHi)])) (jnW (fun (xs72:(List zj))=>jnW (fun (xs142:(List zj))=>κ xs142) (fun k145=>jw t_0.xField (fun r76=>ifW (decide (t_0.xHi<r76)) (jh t_0.xHi 1 (fun t77=>jW xs72 ([(zj.mk t77 r76)]) (fun _=>k145 (xs72++([(zj.mk t77 r76)]))))) (k145 xs72)))) (fun k75=>ifW (decide (0<t_0.xLo)) (Ur t_0.xLo 1 (fun t7=>jW ([]) ([(zj.mk 0 t7)]) (fun _=>k75 (([])++([(zj.mk 0 t7)]))))) (k75 ([]))))
def X5 (list_0:(List zL)) (κ:za→Prop):Prop :=
 XV (fun r5=>z8 (fun (nx32:((List (List zj))×Int)→Prop) ((xs29,t31):((List (List zj))×Int))=>ifW (decide (t31<(list_0.length:Int))) (zI list_0 t31 (fun e33=>jnW (fun (xs37:(List (List zj)))=>jh t31 1 (fun t76=>nx32 (xs37,t76))) (fun k39=>(zI xs29 e33.xField (fun e40=>ZS e33 (fun r46=>jw e33.xField (fun r48=>jO e40 r46 r48 (fun (r49,r51)=>zI xs29 e33.xField (fun e52=>k39 (xs29.set (e33.xField).toNat r49)))))))∧(ZS e33 (fun r69=>(zI xs29 e33.xField (fun e71=>jw e33.xField (fun r48=>jO e71 r69 r48 (fun (r49,r51)=>zI xs29 e33.xField (fun e52=>k39 (xs29.set (e33.xField).toNat r49))))))∧(jw e33.xField (fun r73=>zI xs29 e33.xField (fun e74=>jO e74 r69 r73 (fun (r49,r51)=>zI xs29 e33.xField (fun e52=>k39 (xs29.set (e33.xField).toNat r49))))))))))) (zhq xs29 (fun e77 e78 e79 e80=>κ (za.mk e77 e78 e79 e80)))) ([r5.x0,r5.x1,r5.x2,r5.x3],0))
def uZ (s_0:(List za)) (n_1:Int) (κ:(List za)→Prop):Prop:=s_0=[]∧0≤n_1∧n_1≤4294967296∧κ []
def jV (slices_0:(List (List za))) (κ:(List za)→Prop):Prop :=
 z8 (fun (nx6:(Int×Int)→Prop) ((t4,t5):(Int×Int))=>ifW (decide (t5<(slices_0.length:Int))) (zI slices_0 t5 (fun e7=>jh t4 (e7.length:Int) (fun t13=>ifW (decide (t13<0)) (False) (jh t5 1 (fun t14=>nx6 (t13,t14)))))) (uZ ([]) t4 (fun r15=>z8 (fun (nx23:((List za)×Int)→Prop) ((xs19,t22):((List za)×Int))=>ifW (decide (t22<(slices_0.length:Int))) (zI slices_0 t22 (fun e24=>jW xs19 e24 (fun _=>jh t22 1 (fun t32=>nx23 ((xs19++e24),t32))))) (κ xs19)) (r15,0)))) (0,0)
def ym (d_0:yg) (u_1_chains:(List (List zr))) (u_1_flats:(List zq)) (u_1_over:Bool) (__2:(List za)) (fitting_3:(List za)) (missing_4:(List za)) (κ:((List za)×(List zq)×Bool)→Prop):Prop :=
 z8 (fun (nx23:((List zq)×Int)→Prop) ((xs19,t22):((List zq)×Int))=>ifW (decide (t22<(fitting_3.length:Int))) (zI fitting_3 t22 (fun e24=>jnW (fun (xs57:(List zq))=>jh t22 1 (fun t113=>nx23 (xs57,t113))) (fun k60=>jW xs19 ([(zq.mk e24 d_0.xAccept)]) (fun _=>k60 (xs19++([(zq.mk e24 d_0.xAccept)])))))) (jnW (fun (t174:Bool)=>κ (missing_4,xs19,t174)) (fun k175=>ifW (decide (60<(xs19.length:Int))) (k175 true) (k175 u_1_over)))) (u_1_flats,0)
def Xr (a_0:xZ) (__1_chains:(List (List zr))) (__1_flats:(List zq)) (__1_over:Bool) (left_2:(List za)) (fitting_3:(List za)) (missing_4:(List za)) (κ:((List za)×(List za))→Prop):Prop :=
 jW left_2 fitting_3 (fun _=>κ (missing_4,(left_2++fitting_3)))
def X2 (a_0:yd) (__1_chains:(List (List zr))) (__1_flats:(List zq)) (__1_over:Bool) (__2:(List za)) (fitting_3:(List za)) (missing_4:(List za)) (κ:(List za)→Prop):Prop :=
 jV ([missing_4,fitting_3]) (fun r26=>κ r26)
def XZ (rec:(List (List zr))→(List zq)→Bool→Int→(List za)→(((List za)×(List zq)×Bool)→Prop)→Prop) (c_0:Xn) (u_1_chains:(List (List zr))) (u_1_flats:(List zq)) (u_1_over:Bool) (__2:(List za)) (fitting_3:(List za)) (missing_4:(List za)) (κ:((List za)×(List zq)×Bool)→Prop):Prop :=
 rec u_1_chains u_1_flats u_1_over c_0.xChain fitting_3 (fun (r18,r21,r24)=>jV ([missing_4,r18]) (fun r33=>κ (r33,r21,r24)))
def ZO (rec:((List (List zr))→(List zq)→Bool→Int→(List za)→(((List za)×(List zq)×Bool)→Prop)→Prop)) (u_0_chains:(List (List zr))) (u_0_flats:(List zq)) (u_0_over:Bool) (number_1:Int) (boxes_2:(List za)) (κ:((List za)×(List zq)×Bool)→Prop):Prop :=
 ifW (decide ((boxes_2.length:Int)=0)) (κ ([],u_0_flats,u_0_over)) (zI u_0_chains number_1 (fun e14=>z8 (fun (nx34:((List za)×(List zq)×Bool×(List za)×Int)→Prop) ((xs21,xs25,t28,xs30,t33):((List za)×(List zq)×Bool×(List za)×Int))=>ifW (decide (t33<(e14.length:Int))) (jnW (fun ((xs171,xs174,t177,xs179):((List zq)×(List za)×Bool×(List za)))=>jh t33 1 (fun t183=>nx34 (xs174,xs171,t177,xs179,t183))) (fun k182=>zI e14 t33 (fun e35=>X5 e35.xTests (fun r46=>Zn u_0_chains xs25 t28 xs30 r46 (fun (r55,r58,r61)=>ifW r61 (κ ([],xs25,r61)) (yv e35 (fun r63=>xn.casesW r63 (fun x64=>ym x64 u_0_chains xs25 r61 xs21 r55 r58 (fun (r68,r71,r74)=>xe u_0_chains r71 r74 r68 (fun (r75,r78)=>ifW r78 (κ ([],r71,r78)) (k182 (r71,xs21,r78,r75))))) (fun x65=>XZ rec x65 u_0_chains xs25 r61 xs21 r55 r58 (fun (r80,r83,r86)=>xe u_0_chains r83 r86 r80 (fun (r87,r90)=>ifW r90 (κ ([],r83,r90)) (k182 (r83,xs21,r90,r87))))) (fun x66=>Xr (xZ.mk ) u_0_chains xs25 r61 xs21 r55 r58 (fun (r92,r95)=>xe u_0_chains xs25 r61 r92 (fun (r98,r101)=>ifW r101 (κ ([],xs25,r101)) (k182 (xs25,r95,r101,r98))))) (fun x67=>X2 (yd.mk ) u_0_chains xs25 r61 xs21 r55 r58 (fun r103=>xe u_0_chains xs25 r61 r103 (fun (r106,r109)=>ifW r109 (κ ([],xs25,r109)) (k182 (xs25,xs21,r109,r106)))))))))))) (jV ([xs21,xs30]) (fun r192=>xe u_0_chains xs25 t28 r192 (fun (r195,r198)=>κ (r195,xs25,r198))))) ([],u_0_flats,u_0_over,boxes_2,0)))
def uw:Nat→(List (List zr))→(List zq)→Bool→Int→(List za)→(((List za)×(List zq)×Bool)→Prop)→Prop
 | 0=>fun _ _ _ _ _ _=>False
 | n+1=>ZO (uw n)
def UP (u_0_chains:(List (List zr))) (u_0_flats:(List zq)) (u_0_over:Bool) (number_1:Int) (boxes_2:(List za)) (κ:((List za)×(List zq)×Bool)→Prop):Prop:=∃ n,uw n u_0_chains u_0_flats u_0_over number_1 boxes_2 κ
def XM (s_0:zD) (κ:((List zq)×Bool)→Prop):Prop :=
 XV (fun r11=>UP s_0.xChains ([]) false 0 ([r11]) (fun (r35,r38,r41)=>κ (r38,(!r41))))
def UE (list_0:(List zq)) (rest_1:Bool) (κ:(List zq)→Prop):Prop :=
 z8 (fun (nx5:Int→Prop) (t4:Int)=>jnW (fun (t69:Bool)=>ifW t69 (Ur t4 1 (fun t71=>nx5 t71)) (X3 list_0 0 t4 (fun xs73=>κ xs73))) (fun k70=>ifW (decide (0<t4)) (Ur t4 1 (fun t6=>zI list_0 t6 (fun e7=>k70 (decide (e7.xAccept=rest_1))))) (k70 false))) (list_0.length:Int)
def uh (s_0:(List zq)) (κ:(List zq)→Prop):Prop :=
 zoS true s_0 (fun t4=>ifW t4 (κ ([])) (jW ([]) s_0 (fun _=>κ (([])++s_0))))
def Zh (s_0:za) (other_1:za) (κ:Bool→Prop):Prop :=
 u7 s_0 (fun r60=>ifW r60 (κ true) (z8 (fun (nx62:Int→Prop) (t61:Int)=>ifW (decide (t61<4)) (jnW (fun (t63:Bool)=>ifW t63 (κ false) (jh t61 1 (fun t107=>nx62 t107))) (fun k64=>zI ([s_0.x0,s_0.x1,s_0.x2,s_0.x3]) t61 (fun e65=>zI ([other_1.x0,other_1.x1,other_1.x2,other_1.x3]) t61 (fun e67=>jw t61 (fun r77=>xc e65 e67 r77 (fun r78=>k64 (decide (0<(r78.length:Int))))))))) (κ true)) 0))
def uj (s1_0:(List zj)) (s2_1:(List zj)) (κ:Bool→Prop):Prop :=
 ifW (!(decide ((s1_0.length:Int)=(s2_1.length:Int)))) (κ false) (z8 (fun (nx6:Int→Prop) (t5:Int)=>ifW (decide (t5<(s1_0.length:Int))) (zI s1_0 t5 (fun e7=>zI s2_1 t5 (fun e9=>ifW (!(decide (e7=e9))) (κ false) (jh t5 1 (fun t11=>nx6 t11))))) (κ true)) 0)
def XP (inA_0:Bool) (inB_1:Bool) (κ:Bool→Prop):Prop :=
 jnW (fun (t61:Bool)=>κ t61) (fun k62=>ifW inA_0 (k62 true) (k62 inB_1))
def uA (a_0:(List zj)) (b_1:(List zj)) (top_2:Int) (κ:(List zj)→Prop):Prop :=
 z8 (fun (nx14:((List zj)×Int×Int×Int)→Prop) ((xs8,t11,t12,t13):((List zj)×Int×Int×Int))=>ifW (decide (t13≤top_2)) (z8 (fun (nx16:Int→Prop) (t15:Int)=>jnW (fun (t79:Bool)=>ifW t79 (jh t15 1 (fun t81=>nx16 t81)) (z8 (fun (nx83:Int→Prop) (t82:Int)=>jnW (fun (t146:Bool)=>ifW t146 (jh t82 1 (fun t148=>nx83 t148)) (X3 a_0 t15 (a_0.length:Int) (fun xs150=>uI xs150 t13 top_2 (fun (r153,r154)=>X3 b_1 t82 (b_1.length:Int) (fun xs156=>uI xs156 t13 top_2 (fun (r159,r160)=>jnW (fun (xs296:(List zj))=>jh (min r154 r160) 1 (fun t300=>nx14 (xs296,t15,t82,t300))) (fun k299=>XP r153 r159 (fun r161=>ifW r161 (jnW (fun (t226:Bool)=>ifW t226 (Ur (xs8.length:Int) 1 (fun t228=>zI xs8 t228 (fun e229=>k299 (xs8.set (t228).toNat (zj.mk e229.xLo (min r154 r160)))))) (jW xs8 ([(zj.mk t13 (min r154 r160))]) (fun _=>k299 (xs8++([(zj.mk t13 (min r154 r160))]))))) (fun k227=>ifW (decide (0<(xs8.length:Int))) (Ur (xs8.length:Int) 1 (fun t162=>zI xs8 t162 (fun e163=>jh e163.xHi 1 (fun t165=>k227 (decide (t165=t13)))))) (k227 false))) (k299 xs8))))))))) (fun k147=>ifW (decide (t82<(b_1.length:Int))) (zI b_1 t82 (fun e84=>k147 (decide (e84.xHi<t13)))) (k147 false))) t12)) (fun k80=>ifW (decide (t15<(a_0.length:Int))) (zI a_0 t15 (fun e17=>k80 (decide (e17.xHi<t13)))) (k80 false))) t11) (κ xs8)) ([],0,0,0)
def ZT (a_0:(List zj)) (b_1:(List zj)) (top_2:Int) (κ:((List zj)×Bool)→Prop):Prop :=
 uA a_0 b_1 top_2 (fun r6=>yV r6 (fun (r9,r12)=>κ (r9,r12)))
def Z1 (a_0:za) (b_1:za) (κ:(za×Bool)→Prop):Prop :=
 Zh a_0 b_1 (fun r77=>ifW r77 (κ (b_1,true)) (Zh b_1 a_0 (fun r156=>ifW r156 (κ (a_0,true)) (z8 (fun (nx208:(Int×Int×Int)→Prop) ((t205,t206,t207):(Int×Int×Int))=>ifW (decide (t207<4)) (jnW (fun ((t293,t294):(Int×Int))=>jh t207 1 (fun t296=>nx208 (t293,t294,t296))) (fun k295=>jnW (fun (t209:Bool)=>ifW t209 (jh t206 1 (fun t232=>k295 (t207,t232))) (k295 (t205,t206))) (fun k210=>zI ([a_0.x0,a_0.x1,a_0.x2,a_0.x3]) t207 (fun e211=>zI ([b_1.x0,b_1.x1,b_1.x2,b_1.x3]) t207 (fun e213=>uj e211 e213 (fun r223=>k210 (!r223))))))) (ifW (!(decide (t206=1))) (κ ((za.mk ([]) ([]) ([]) ([])),false)) (jnW (fun ((xs318,t321):((List zj)×Bool))=>ifW (!t321) (κ ((za.mk ([]) ([]) ([]) ([])),false)) (zI ([a_0.x0,a_0.x1,a_0.x2,a_0.x3]) t205 (fun e417=>zhq (([a_0.x0,a_0.x1,a_0.x2,a_0.x3]).set (t205).toNat xs318) (fun e423 e424 e425 e426=>κ ((za.mk e423 e424 e425 e426),true))))) (fun k322=>zI ([a_0.x0,a_0.x1,a_0.x2,a_0.x3]) t205 (fun e323=>zI ([b_1.x0,b_1.x1,b_1.x2,b_1.x3]) t205 (fun e325=>jw t205 (fun r335=>ZT e323 e325 r335 (fun (r336,r338)=>k322 (r336,r338))))))))) (0,0,0)))))
def ud (s_0:(List zq)) (i_1:Int) (j_2:Int) (κ:(List zq)→Prop):Prop:=0≤i_1∧i_1≤j_2∧j_2≤(s_0.length:Int)∧κ (s_0.take i_1.toNat++s_0.drop j_2.toNat)
def Zm (list_0:(List zq)) (κ:(List zq)→Prop):Prop :=
 uh list_0 (fun r4=>z8 (fun (nx12:((List zq)×Int)→Prop) ((xs8,t11):((List zq)×Int))=>jh t11 1 (fun t13=>ifW (decide (t13<(xs8.length:Int))) (jnW (fun ((xs149,t151):((List (List zj))×Bool))=>ifW (!t151) (jh t11 1 (fun t153=>nx12 (xs8,t153))) (zhq xs149 (fun e154 e155 e156 e157=>zI xs8 t11 (fun e174=>jh t11 1 (fun t189=>jh t11 2 (fun t190=>ud (xs8.set (t11).toNat (zq.mk (za.mk e154 e155 e156 e157) e174.xAccept)) t189 t190 (fun r191=>Ur t11 1 (fun t194=>nx12 (r191,(max t194 0)))))))))) (fun k152=>zI xs8 t11 (fun e17=>jh t11 1 (fun t19=>zI xs8 t19 (fun e20=>ifW (decide (e17.xAccept=e20.xAccept)) (jnW (fun ((xs22,t24):((List (List zj))×Bool))=>k152 (xs22,t24)) (fun k25=>zI xs8 t11 (fun e26=>zI xs8 (w64 (t11+1)) (fun e28=>Z1 e26.xWhere e28.xWhere (fun (r50,r55)=>k25 ([r50.x0,r50.x1,r50.x2,r50.x3],r55)))))) (k152 ([[],[],[],[]],false))))))) (κ xs8))) (r4,0))
def U6 (list_0:(List zq)) (κ:(List za)→Prop):Prop :=
 zbO ((za.mk ([]) ([]) ([]) ([])):za) 0 (list_0.length:Int) (fun xs5=>z8 (fun (nx12:((List za)×Int)→Prop) ((xs8,t11):((List za)×Int))=>ifW (decide (t11<(list_0.length:Int))) (zI list_0 t11 (fun e13=>jW xs8 ([e13.xWhere]) (fun _=>jh t11 1 (fun t46=>nx12 ((xs8++([e13.xWhere])),t46))))) (κ xs8)) (xs5,0))
def yX (s_0:za) (region_1:(List za)) (κ:((List za)×Bool)→Prop):Prop :=
 u7 s_0 (fun r41=>ifW r41 (κ ([],true)) (jnW (fun (xs310:(List za))=>κ (xs310,true)) (fun k313=>z8 (fun (nx77:((List za)×Int)→Prop) ((xs73,t76):((List za)×Int))=>ifW (decide (t76<(region_1.length:Int))) (zI region_1 t76 (fun e78=>z8 (fun (nx114:((List za)×Int)→Prop) ((xs110,t113):((List za)×Int))=>ifW (decide (t113<(xs73.length:Int))) (zI xs73 t113 (fun e115=>yF e115 e78 (fun (r177,r180)=>jnW (fun (t242:Bool)=>ifW t242 (κ ([],false)) (jW xs110 r177 (fun _=>jh t113 1 (fun t247=>nx114 ((xs110++r177),t247))))) (fun k243=>ifW (!r180) (k243 true) (jh (xs110.length:Int) (r177.length:Int) (fun t181=>k243 (decide (400<t181)))))))) (ifW (decide ((xs110.length:Int)=0)) (k313 xs110) (jh t76 1 (fun t248=>nx77 (xs110,t248))))) ([],0))) (k313 xs73)) ([s_0],0))))
def Va (list_0:(List zq)) (n_1:Int) (κ:((List za)×Bool)→Prop):Prop :=
 zI list_0 n_1 (fun e4=>X3 list_0 0 n_1 (fun xs20=>U6 xs20 (fun r23=>yX e4.xWhere r23 (fun (r26,r29)=>κ (r26,r29)))))
def U9 (list_0:(List zq)) (κ:(List Int)→Prop):Prop :=
 z8 (fun (nx10:((List Int)×Int)→Prop) ((xs6,t9):((List Int)×Int))=>ifW (decide (t9<(list_0.length:Int))) (jnW (fun (xs141:(List Int))=>jh t9 1 (fun t145=>nx10 (xs141,t145))) (fun k144=>Va list_0 t9 (fun (r11,r14)=>jnW (fun (t75:Bool)=>ifW t75 (jW xs6 ([t9]) (fun _=>k144 (xs6++([t9])))) (k144 xs6)) (fun k76=>ifW r14 (k76 (decide ((r11.length:Int)=0))) (k76 false))))) (κ xs6)) ([],0)
def XA (list_0:(List zq)) (κ:(List zq)→Prop):Prop :=
 U9 list_0 (fun r4=>zbO ((zq.mk (za.mk ([]) ([]) ([]) ([])) false):zq) 0 (list_0.length:Int) (fun xs8=>z8 (fun (nx19:((List Int)×(List zq)×Int)→Prop) ((xs11,xs15,t18):((List Int)×(List zq)×Int))=>ifW (decide (t18<(list_0.length:Int))) (jnW (fun ((xs180,xs184):((List zq)×(List Int)))=>jh t18 1 (fun t188=>nx19 (xs184,xs180,t188))) (fun k187=>zI list_0 t18 (fun e20=>jnW (fun (t111:Bool)=>ifW t111 (X3 xs11 1 (xs11.length:Int) (fun xs114=>k187 (xs15,xs114))) (jW xs15 ([e20]) (fun _=>k187 ((xs15++([e20])),xs11)))) (fun k112=>ifW (decide (0<(xs11.length:Int))) (zI xs11 0 (fun e49=>k112 (decide (e49=t18)))) (k112 false))))) (κ xs15)) (r4,xs8,0)))
def X9 (list_0:(List zq)) (rest_1:Bool) (κ:(List zq)→Prop):Prop :=
 z8 (fun (nx8:(List zq)→Prop) (xs5:(List zq))=>XA xs5 (fun r9=>Zm r9 (fun r12=>UE r12 rest_1 (fun r15=>ifW (decide ((r15.length:Int)=(xs5.length:Int))) (κ r15) (nx8 r15))))) list_0
def Xf (s_0:zD) (κ:((List zq)×Bool)→Prop):Prop :=
 yr s_0 (fun r9=>ifW (!r9) (κ ([],false)) (XM s_0 (fun (r11,r14)=>ifW (!r14) (κ ([],false)) (X9 r11 s_0.xAccept (fun r16=>κ (r16,true))))))
def YA (x_0:zr) (κ:zr→Prop):Prop :=
 jW ([]) x_0.xTests (fun _=>κ (zr.mk (([])++x_0.xTests) x_0.xAction x_0.xChain))
def Z3 (list_0:(List zr)) (κ:(List zr)→Prop):Prop :=
 z8 (fun (nx13:((List zr)×Int)→Prop) ((xs8,t12):((List zr)×Int))=>ifW (decide (t12<(list_0.length:Int))) (zI list_0 t12 (fun e14=>YA e14 (fun r20=>jW xs8 ([r20]) (fun _=>jh t12 1 (fun t32=>nx13 ((xs8++([r20])),t32)))))) (κ xs8)) ([],0)
def Yq (list_0:(List (List zr))) (κ:(List (List zr))→Prop):Prop :=
 z8 (fun (nx13:((List (List zr))×Int)→Prop) ((xs8,t12):((List (List zr))×Int))=>ifW (decide (t12<(list_0.length:Int))) (zI list_0 t12 (fun e14=>Z3 e14 (fun r20=>jW xs8 ([r20]) (fun _=>jh t12 1 (fun t33=>nx13 ((xs8++([r20])),t33)))))) (κ xs8)) ([],0)
def Zg (x_0:zD) (κ:zD→Prop):Prop :=
 Yq x_0.xChains (fun r12=>κ (zD.mk r12 x_0.xAccept))
def yM (n_0:Int) (lo_1:Int) (hi_2:Int) (κ:Bool→Prop):Prop :=
 jnW (fun (t61:Bool)=>κ t61) (fun k62=>ifW (decide (lo_1≤n_0)) (k62 (decide (n_0≤hi_2))) (k62 false))
def Zx (t_0:zL) (κ:Bool→Prop):Prop :=
 jnW (fun (t66:Bool)=>κ t66) (fun k67=>yM t_0.xField 0 3 (fun r3=>ifW r3 (yM t_0.xLo 0 t_0.xHi (fun r4=>ifW r4 (uM t_0.xField (fun r5=>k67 (decide (t_0.xHi≤r5)))) (k67 false))) (k67 false)))
def ZV (list_0:(List zL)) (κ:Bool→Prop):Prop :=
 z8 (fun (nx4:Int→Prop) (t3:Int)=>ifW (decide (t3<(list_0.length:Int))) (zI list_0 t3 (fun e5=>Zx e5 (fun r7=>ifW (!r7) (κ false) (jh t3 1 (fun t8=>nx4 t8))))) (κ (decide ((list_0.length:Int)≤6)))) 0
def Xl (r_0:zr) (κ:Bool→Prop):Prop :=
 jnW (fun (t71:Bool)=>κ t71) (fun k72=>ZV r_0.xTests (fun r8=>ifW r8 (yM r_0.xAction 1 5 (fun r9=>ifW r9 (ifW (decide (r_0.xAction=3)) (yM r_0.xChain 0 4 (fun r10=>ifW r10 (k72 true) (ifW (!(decide (r_0.xAction=3))) (k72 (decide (r_0.xChain=0))) (k72 false)))) (ifW (!(decide (r_0.xAction=3))) (k72 (decide (r_0.xChain=0))) (k72 false))) (k72 false))) (k72 false)))
def Ye (list_0:(List zr)) (κ:Bool→Prop):Prop :=
 z8 (fun (nx4:Int→Prop) (t3:Int)=>ifW (decide (t3<(list_0.length:Int))) (zI list_0 t3 (fun e5=>Xl e5 (fun r11=>ifW (!r11) (κ false) (jh t3 1 (fun t12=>nx4 t12))))) (κ (decide ((list_0.length:Int)≤8)))) 0
def Uz (s_0:zD) (κ:(List Int)→Prop):Prop :=
 zbO (false:Bool) (s_0.xChains.length:Int) (s_0.xChains.length:Int) (fun xs10=>z8 (fun (nx21:((List Bool)×(List Int)×Int)→Prop) ((xs14,xs17,t20):((List Bool)×(List Int)×Int))=>ifW (decide (t20<(s_0.xChains.length:Int))) (z8 (fun (nx29:((List Bool)×(List Int)×Int)→Prop) ((xs22,xs25,t28):((List Bool)×(List Int)×Int))=>ifW (decide (t28<(s_0.xChains.length:Int))) (jnW (fun ((xs190,xs192):((List Bool)×(List Int)))=>jh t28 1 (fun t196=>nx29 (xs190,xs192,t196))) (fun k195=>zI xs22 t28 (fun e30=>z8 (fun (nx34:(Bool×Int)→Prop) ((t32,t33):(Bool×Int))=>zI s_0.xChains t28 (fun e35=>ifW (decide (t33<(e35.length:Int))) (jnW (fun (t120:Bool)=>jh t33 1 (fun t122=>nx34 (t120,t122))) (fun k121=>zI s_0.xChains t28 (fun e41=>zI e41 t33 (fun e47=>ifW t32 (ifW (!(decide (e47.xAction=3))) (k121 true) (zI xs22 e47.xChain (fun e58=>k121 e58))) (k121 false))))) (ifW t32 (zI xs22 t28 (fun e123=>jW xs25 ([t28]) (fun _=>k195 ((xs22.set (t28).toNat true),(xs25++([t28])))))) (k195 (xs22,xs25))))) ((!e30),0)))) (jh t20 1 (fun t197=>nx21 (xs22,xs25,t197)))) (xs14,xs17,0)) (κ xs17)) (xs10,[],0))
def uU (s_0:zD) (κ:Bool→Prop):Prop :=
 z8 (fun (nx9:Int→Prop) (t8:Int)=>ifW (decide (t8<(s_0.xChains.length:Int))) (zI s_0.xChains t8 (fun e10=>Ye e10 (fun r16=>ifW (!r16) (κ false) (z8 (fun (nx18:Int→Prop) (t17:Int)=>zI s_0.xChains t8 (fun e19=>ifW (decide (t17<(e19.length:Int))) (zI s_0.xChains t8 (fun e25=>zI e25 t17 (fun e31=>ifW (decide ((s_0.xChains.length:Int)≤e31.xChain)) (κ false) (jh t17 1 (fun t33=>nx18 t33))))) (jh t8 1 (fun t34=>nx9 t34)))) 0)))) (jnW (fun (t99:Bool)=>κ t99) (fun k100=>yM (s_0.xChains.length:Int) 1 5 (fun r35=>ifW r35 (Uz s_0 (fun r36=>k100 (decide ((r36.length:Int)=(s_0.xChains.length:Int))))) (k100 false))))) 0
def yk (a_0:(List zj)) (b_1:(List zj)) (κ:(List zj)→Prop):Prop :=
 z8 (fun (nx13:((List zj)×Int)→Prop) ((xs9,t12):((List zj)×Int))=>ifW (decide (t12<(a_0.length:Int))) (z8 (fun (nx19:((List zj)×Int)→Prop) ((xs15,t18):((List zj)×Int))=>ifW (decide (t18<(b_1.length:Int))) (jnW (fun (xs92:(List zj))=>jh t18 1 (fun t96=>nx19 (xs92,t96))) (fun k95=>zI a_0 t12 (fun e20=>zI b_1 t18 (fun e22=>zI a_0 t12 (fun e24=>zI b_1 t18 (fun e26=>ifW (decide ((max e20.xLo e22.xLo)≤(min e24.xHi e26.xHi))) (jW xs15 ([(zj.mk (max e20.xLo e22.xLo) (min e24.xHi e26.xHi))]) (fun _=>k95 (xs15++([(zj.mk (max e20.xLo e22.xLo) (min e24.xHi e26.xHi))])))) (k95 xs15))))))) (jh t12 1 (fun t97=>nx13 (xs15,t97)))) (xs9,0)) (κ xs9)) ([],0)
def Yu (a_0:jm) (b_1:jm) (κ:jm→Prop):Prop :=
 z8 (fun (nx25:((List (List zj))×Int)→Prop) ((xs20,t24):((List (List zj))×Int))=>ifW (decide (t24<4)) (jnW (fun (xs29:(List (List zj)))=>jh t24 1 (fun t64=>nx25 (xs29,t64))) (fun k33=>zI a_0.xSides t24 (fun e34=>zI b_1.xSides t24 (fun e39=>yk e34 e39 (fun r44=>jW xs20 ([r44]) (fun _=>k33 (xs20++([r44])))))))) (κ (jm.mk xs20))) ([],0)
def yw (b_0:jm) (κ:Bool→Prop):Prop :=
 z8 (fun (nx9:Int→Prop) (t8:Int)=>ifW (decide (t8<(b_0.xSides.length:Int))) (zI b_0.xSides t8 (fun e10=>ifW (decide ((e10.length:Int)=0)) (κ true) (jh t8 1 (fun t16=>nx9 t16)))) (κ false)) 0
def yT (list_0:(List zj)) (top_1:Int) (κ:Bool→Prop):Prop :=
 z8 (fun (nx4:Int→Prop) (t3:Int)=>ifW (decide (t3<(list_0.length:Int))) (jnW (fun (t79:Bool)=>ifW t79 (κ false) (jh t3 1 (fun t81=>nx4 t81))) (fun k80=>zI list_0 t3 (fun e5=>zI list_0 t3 (fun e7=>yM e5.xLo 0 e7.xHi (fun r9=>ifW (!r9) (k80 true) (zI list_0 t3 (fun e10=>yM e10.xHi 0 top_1 (fun r12=>ifW (!r12) (k80 true) (ifW (decide (0<t3)) (zI list_0 t3 (fun e13=>Ur t3 1 (fun t15=>zI list_0 t15 (fun e16=>jh e16.xHi 2 (fun t18=>k80 (decide (e13.xLo<t18))))))) (k80 false)))))))))) (jnW (fun (t143:Bool)=>κ t143) (fun k144=>yM top_1 0 65535 (fun r82=>ifW r82 (k144 (decide ((list_0.length:Int)≤40))) (k144 false))))) 0
def uL (b_0:jm) (κ:Bool→Prop):Prop :=
 z8 (fun (nx9:Int→Prop) (t8:Int)=>ifW (decide (t8<(b_0.xSides.length:Int))) (jnW (fun (t78:Bool)=>ifW t78 (κ false) (jh t8 1 (fun t80=>nx9 t80))) (fun k79=>ifW (decide (4≤t8)) (k79 true) (zI b_0.xSides t8 (fun e10=>uM t8 (fun r16=>yT e10 r16 (fun r17=>k79 (!r17))))))) (κ (decide ((b_0.xSides.length:Int)=4)))) 0
def xx (list_0:(List jm)) (κ:Bool→Prop):Prop :=
 z8 (fun (nx4:Int→Prop) (t3:Int)=>ifW (decide (t3<(list_0.length:Int))) (zI list_0 t3 (fun e5=>uL e5 (fun r11=>ifW (!r11) (κ false) (jh t3 1 (fun t12=>nx4 t12))))) (κ (decide ((list_0.length:Int)≤400)))) 0
def YZ (κ:jm→Prop):Prop :=
 z8 (fun (nx11:((List (List zj))×Int)→Prop) ((xs6,t10):((List (List zj))×Int))=>ifW (decide (t10<4)) (jnW (fun (xs15:(List (List zj)))=>jh t10 1 (fun t41=>nx11 (xs15,t41))) (fun k19=>uM t10 (fun r20=>jW xs6 ([[(zj.mk 0 r20)]]) (fun _=>k19 (xs6++([[(zj.mk 0 r20)]])))))) (κ (jm.mk xs6))) ([],0)
def Yo (a_0:(List zj)) (top_1:Int) (κ:(List zj)→Prop):Prop :=
 z8 (fun (nx12:((List zj)×Int×Int)→Prop) ((xs7,t10,t11):((List zj)×Int×Int))=>ifW (decide (t11<(a_0.length:Int))) (jnW (fun (xs82:(List zj))=>zI a_0 t11 (fun e86=>jh e86.xHi 1 (fun t88=>jh t11 1 (fun t89=>nx12 (xs82,t88,t89))))) (fun k85=>zI a_0 t11 (fun e13=>ifW (decide (t10<e13.xLo)) (zI a_0 t11 (fun e15=>Ur e15.xLo 1 (fun t17=>jW xs7 ([(zj.mk t10 t17)]) (fun _=>k85 (xs7++([(zj.mk t10 t17)])))))) (k85 xs7)))) (jnW (fun (xs154:(List zj))=>κ xs154) (fun k157=>ifW (decide (t10≤top_1)) (jW xs7 ([(zj.mk t10 top_1)]) (fun _=>k157 (xs7++([(zj.mk t10 top_1)])))) (k157 xs7)))) ([],0,0)
def Xm (t_0:zL) (κ:(List zj)→Prop):Prop :=
 Zx t_0 (fun r4=>ifW (!r4) (κ ([])) (ifW t_0.xNot (uM t_0.xField (fun r9=>Yo ([(zj.mk t_0.xLo t_0.xHi)]) r9 (fun r10=>κ r10))) (κ ([(zj.mk t_0.xLo t_0.xHi)]))))
def Y5 (list_0:(List zL)) (κ:jm→Prop):Prop :=
 ZV list_0 (fun r5=>ifW (!r5) (κ (jm.mk ([]))) (YZ (fun r7=>z8 (fun (nx21:((List (List zj))×Int)→Prop) ((xs17,t20):((List (List zj))×Int))=>ifW (decide (t20<(list_0.length:Int))) (zI list_0 t20 (fun e22=>jnW (fun (xs27:(List (List zj)))=>jh t20 1 (fun t58=>nx21 (xs27,t58))) (fun k29=>zI list_0 t20 (fun e30=>(zI xs17 e22.xField (fun e32=>Xm e30 (fun r38=>yk e32 r38 (fun r40=>zI xs17 e22.xField (fun e42=>k29 (xs17.set (e22.xField).toNat r40))))))∧(Xm e30 (fun r54=>zI xs17 e22.xField (fun e56=>yk e56 r54 (fun r40=>zI xs17 e22.xField (fun e42=>k29 (xs17.set (e22.xField).toNat r40)))))))))) (κ (jm.mk xs17))) (r7.xSides,0))))
def ug (list_0:(List (List zj))) (κ:(List (List zj))→Prop):Prop :=
 z8 (fun (nx13:((List (List zj))×Int)→Prop) ((xs8,t12):((List (List zj))×Int))=>ifW (decide (t12<(list_0.length:Int))) (zI list_0 t12 (fun e16=>jW ([]) e16 (fun _=>jW xs8 ([(([])++e16)]) (fun _=>jh t12 1 (fun t33=>nx13 ((xs8++([(([])++e16)])),t33)))))) (κ xs8)) ([],0)
def Zt (a_0:jm) (b_1:jm) (κ:(List jm)→Prop):Prop :=
 Yu a_0 b_1 (fun r19=>yw r19 (fun r23=>ifW r23 (jnW (fun (xs89:(List jm))=>κ xs89) (fun k92=>yw a_0 (fun r24=>ifW (!r24) (jW ([]) ([a_0]) (fun _=>k92 (([])++([a_0])))) (k92 ([]))))) (z8 (fun (nx105:((List (List zj))×(List jm)×Int)→Prop) ((xs96,xs100,t104):((List (List zj))×(List jm)×Int))=>ifW (decide (t104<4)) (zI xs96 t104 (fun e115=>zI b_1.xSides t104 (fun e121=>uM t104 (fun r127=>Yo e121 r127 (fun r128=>yk e115 r128 (fun r131=>zI xs96 t104 (fun e134=>zI b_1.xSides t104 (fun e140=>yk e134 e140 (fun r146=>jnW (fun (xs231:(List jm))=>ug xs96 (fun r236=>zI r236 t104 (fun e245=>jh t104 1 (fun t252=>nx105 ((r236.set (t104).toNat r146),xs231,t252))))) (fun k235=>ifW (decide (0<(r131.length:Int))) (ug xs96 (fun r149=>zI r149 t104 (fun e158=>jW xs100 ([(jm.mk (r149.set (t104).toNat r131))]) (fun _=>k235 (xs100++([(jm.mk (r149.set (t104).toNat r131))])))))) (k235 xs100))))))))))) (κ xs100)) (a_0.xSides,[],0))))
def Ut (rec:(zD→Int→(List jm)→(List zX)→(((List jm)×Bool×(List zX))→Prop)→Prop)) (s_0:zD) (chain_1:Int) (in_2:(List jm)) (out_3:(List zX)) (κ:((List jm)×Bool×(List zX))→Prop):Prop :=
 z8 (fun (nx33:((List zX)×(List jm)×(List jm)×Int)→Prop) ((xs20,xs24,xs28,t32):((List zX)×(List jm)×(List jm)×Int))=>zI s_0.xChains chain_1 (fun e34=>ifW (decide (t32<(e34.length:Int))) (zI s_0.xChains chain_1 (fun e40=>zI e40 t32 (fun e46=>Y5 e46.xTests (fun r63=>z8 (fun (nx81:((List jm)×(List jm)×Int)→Prop) ((xs72,xs77,t80):((List jm)×(List jm)×Int))=>ifW (decide (t80<(xs24.length:Int))) (jnW (fun (xs182:(List jm))=>zI xs24 t80 (fun e195=>Zt e195 r63 (fun r201=>jW xs77 r201 (fun _=>jh t80 1 (fun t206=>nx81 (xs182,(xs77++r201),t206)))))) (fun k186=>jnW (fun (xs90:(List (List zj)))=>yw (jm.mk xs90) (fun r112=>ifW (!r112) (jW xs72 ([(jm.mk xs90)]) (fun _=>k186 (xs72++([(jm.mk xs90)])))) (k186 xs72))) (fun k95=>zI xs24 t80 (fun e96=>Yu e96 r63 (fun r101=>k95 r101.xSides))))) (jnW (fun (t269:Bool)=>ifW t269 (κ (xs28,false,xs20)) (jnW (fun ((xs445,xs449,xs453):((List jm)×(List jm)×(List zX)))=>jnW (fun (t519:Bool)=>ifW t519 (κ (xs445,false,xs453)) (jh t32 1 (fun t521=>nx33 (xs453,xs449,xs445,t521)))) (fun k520=>xx xs449 (fun r457=>ifW (!r457) (k520 true) (xx xs445 (fun r458=>ifW (!r458) (k520 true) (k520 (decide (60<(xs453.length:Int))))))))) (fun k456=>jnW (fun (t331:Bool)=>ifW t331 (z8 (fun (nx338:((List zX)×Int)→Prop) ((xs334,t337):((List zX)×Int))=>ifW (decide (t337<(xs72.length:Int))) (jnW (fun (xs342:(List zX))=>jh t337 1 (fun t370=>nx338 (xs342,t370))) (fun k345=>zI xs72 t337 (fun e346=>jW xs334 ([(zX.mk e346 (decide (e46.xAction=1)))]) (fun _=>k345 (xs334++([(zX.mk e346 (decide (e46.xAction=1)))])))))) (k456 (xs28,xs77,xs334))) (xs20,0)) (ifW (decide (e46.xAction=4)) (jW xs28 xs72 (fun _=>k456 ((xs28++xs72),xs77,xs20))) (ifW (decide (e46.xAction=3)) (rec s_0 e46.xChain xs72 xs20 (fun (r374,r377,r378)=>ifW (!r377) (κ (xs28,false,r378)) (jW xs77 r374 (fun _=>k456 (xs28,(xs77++r374),r378))))) (jW xs77 xs72 (fun _=>k456 (xs28,(xs77++xs72),xs20)))))) (fun k332=>ifW (decide (e46.xAction=1)) (k332 (decide (e46.xAction=1))) (k332 (decide (e46.xAction=2))))))) (fun k270=>xx xs72 (fun r207=>ifW (!r207) (k270 true) (xx xs77 (fun r208=>k270 (!r208))))))) ([],[],0))))) (jW xs28 xs24 (fun _=>xx (xs28++xs24) (fun r524=>κ ((xs28++xs24),r524,xs20)))))) (out_3,in_2,[],0)
def ZH:Nat→zD→Int→(List jm)→(List zX)→(((List jm)×Bool×(List zX))→Prop)→Prop
 | 0=>fun _ _ _ _ _=>False
 | n+1=>Ut (ZH n)
def zbI (s_0:zD) (chain_1:Int) (in_2:(List jm)) (out_3:(List zX)) (κ:((List jm)×Bool×(List zX))→Prop):Prop:=∃ n,ZH n s_0 chain_1 in_2 out_3 κ
def U5 (s_0:zD) (κ:((List zX)×Bool)→Prop):Prop :=
 Zg s_0 (fun r9=>uU r9 (fun r24=>ifW (!r24) (κ ([],false)) (YZ (fun r25=>zbI r9 0 ([r25]) ([]) (fun (r35,r38,r39)=>ifW (!r38) (κ ([],false)) (κ (r39,true)))))))
def XR (x_0:jm) (κ:jm→Prop):Prop :=
 ug x_0.xSides (fun r12=>κ (jm.mk r12))
def YG (x_0:zX) (κ:zX→Prop):Prop :=
 XR x_0.xWhere (fun r12=>κ (zX.mk r12 x_0.xAccept))
def xK (list_0:(List zX)) (κ:(List zX)→Prop):Prop :=
 z8 (fun (nx13:((List zX)×Int)→Prop) ((xs8,t12):((List zX)×Int))=>ifW (decide (t12<(list_0.length:Int))) (zI list_0 t12 (fun e14=>YG e14 (fun r20=>jW xs8 ([r20]) (fun _=>jh t12 1 (fun t33=>nx13 ((xs8++([r20])),t33)))))) (κ xs8)) ([],0)
def uz (list_0:(List zX)) (κ:Bool→Prop):Prop :=
 z8 (fun (nx4:Int→Prop) (t3:Int)=>ifW (decide (t3<(list_0.length:Int))) (zI list_0 t3 (fun e5=>uL e5.xWhere (fun r11=>ifW (!r11) (κ false) (jh t3 1 (fun t12=>nx4 t12))))) (κ (decide ((list_0.length:Int)≤60)))) 0
def Ue (list_0:(List zX)) (rest_1:Bool) (κ:(List zX)→Prop):Prop :=
 xK list_0 (fun r4=>uz r4 (fun r8=>ifW (!r8) (κ ([])) (z8 (fun (nx13:Int→Prop) (t12:Int)=>jnW (fun (t77:Bool)=>ifW t77 (Ur t12 1 (fun t79=>nx13 t79)) (X3 r4 0 t12 (fun xs84=>jW ([]) xs84 (fun _=>κ (([])++xs84))))) (fun k78=>ifW (decide (0<t12)) (Ur t12 1 (fun t14=>zI r4 t14 (fun e15=>k78 (decide (e15.xAccept=rest_1))))) (k78 false))) (r4.length:Int))))
def Xi (a_0:jm) (b_1:jm) (κ:Bool→Prop):Prop :=
 jnW (fun (t80:Bool)=>κ t80) (fun k81=>uL a_0 (fun r15=>ifW r15 (uL b_1 (fun r16=>ifW r16 (Zt a_0 b_1 (fun r17=>k81 (decide ((r17.length:Int)=0)))) (k81 false))) (k81 false)))
def UA (a_0:(List zj)) (b_1:(List zj)) (κ:Bool→Prop):Prop :=
 ifW (!(decide ((a_0.length:Int)=(b_1.length:Int)))) (κ false) (z8 (fun (nx6:Int→Prop) (t5:Int)=>ifW (decide (t5<(a_0.length:Int))) (zI a_0 t5 (fun e7=>zI b_1 t5 (fun e9=>ifW (!(decide (e7=e9))) (κ false) (jh t5 1 (fun t11=>nx6 t11))))) (κ true)) 0)
def VB (list_0:(List zj)) (s_1:zj) (κ:(List zj)→Prop):Prop :=
 z8 (fun (nx16:(Int×Int×(List zj)×Bool×Int)→Prop) ((t8,t9,xs11,t14,t15):(Int×Int×(List zj)×Bool×Int))=>ifW (decide (t15<(list_0.length:Int))) (jnW (fun ((xs160,t163,t164,t165):((List zj)×Int×Int×Bool))=>jh t15 1 (fun t167=>nx16 (t163,t164,xs160,t165,t167))) (fun k166=>zI list_0 t15 (fun e17=>jh e17.xHi 1 (fun t21=>ifW (decide (t21<t8)) (jW xs11 ([e17]) (fun _=>k166 ((xs11++([e17])),t8,t9,t14))) (jh t9 1 (fun t26=>ifW (decide (t26<e17.xLo)) (jnW (fun ((xs91,t94):((List zj)×Bool))=>jW xs91 ([e17]) (fun _=>k166 ((xs91++([e17])),t8,t9,t94))) (fun k95=>ifW (!t14) (jW xs11 ([(zj.mk t8 t9)]) (fun _=>k95 ((xs11++([(zj.mk t8 t9)])),true))) (k95 (xs11,t14)))) (k166 (xs11,(min t8 e17.xLo),(max t9 e17.xHi),t14)))))))) (jnW (fun (xs232:(List zj))=>κ xs232) (fun k235=>ifW (!t14) (jW xs11 ([(zj.mk t8 t9)]) (fun _=>k235 (xs11++([(zj.mk t8 t9)])))) (k235 xs11)))) (s_1.xLo,s_1.xHi,[],false,0)
def Ya (a_0:(List zj)) (b_1:(List zj)) (top_2:Int) (κ:(List zj)→Prop):Prop :=
 jnW (fun (t68:Bool)=>ifW t68 (κ ([])) (jW ([]) a_0 (fun _=>z8 (fun (nx81:((List zj)×Int)→Prop) ((xs77,t80):((List zj)×Int))=>ifW (decide (t80<(b_1.length:Int))) (zI b_1 t80 (fun e82=>VB xs77 e82 (fun r84=>jh t80 1 (fun t87=>nx81 (r84,t87))))) (ifW (decide (40<(xs77.length:Int))) (κ ([])) (κ xs77))) ((([])++a_0),0)))) (fun k69=>yT a_0 top_2 (fun r6=>ifW (!r6) (k69 true) (yT b_1 top_2 (fun r7=>k69 (!r7)))))
def X6 (a_0:jm) (b_1:jm) (κ:(jm×Bool)→Prop):Prop :=
 jnW (fun (t79:Bool)=>ifW t79 (κ ((jm.mk ([])),false)) (Xi a_0 b_1 (fun r82=>ifW r82 (XR b_1 (fun r83=>κ (r83,true))) (Xi b_1 a_0 (fun r90=>ifW r90 (XR a_0 (fun r91=>κ (r91,true))) (z8 (fun (nx100:(Int×Int)→Prop) ((t98,t99):(Int×Int))=>ifW (decide (t99<4)) (jnW (fun (t174:Int)=>jh t99 1 (fun t176=>nx100 (t174,t176))) (fun k175=>zI a_0.xSides t99 (fun e101=>zI b_1.xSides t99 (fun e107=>UA e101 e107 (fun r113=>ifW (!r113) (ifW (decide (0≤t98)) (κ ((jm.mk ([])),false)) (k175 t99)) (k175 t98)))))) (ug a_0.xSides (fun r177=>zI a_0.xSides t98 (fun e186=>zI b_1.xSides t98 (fun e192=>uM t98 (fun r198=>Ya e186 e192 r198 (fun r199=>zI r177 t98 (fun e202=>zI (r177.set (t98).toNat r199) t98 (fun e209=>ifW (decide ((e209.length:Int)=0)) (κ ((jm.mk ([])),false)) (κ ((jm.mk (r177.set (t98).toNat r199)),true))))))))))) ((-1),0))))))) (fun k80=>uL a_0 (fun r17=>ifW (!r17) (k80 true) (uL b_1 (fun r18=>k80 (!r18)))))
def UB (list_0:(List zX)) (κ:(Int×zX)→Prop):Prop :=
 z8 (fun (nx6:Int→Prop) (t5:Int)=>jh t5 1 (fun t7=>ifW (decide (t7<(list_0.length:Int))) (jnW (fun ((xs8,t12):((List (List zj))×Bool))=>jnW (fun (t103:Bool)=>ifW t103 (zI list_0 t5 (fun e108=>κ (t5,(zX.mk (jm.mk xs8) e108.xAccept)))) (jh t5 1 (fun t110=>nx6 t110))) (fun k104=>ifW t12 (zI list_0 t5 (fun e38=>jh t5 1 (fun t40=>zI list_0 t40 (fun e41=>k104 (decide (e38.xAccept=e41.xAccept)))))) (k104 false))) (fun k13=>zI list_0 t5 (fun e14=>zI list_0 (w64 (t5+1)) (fun e19=>X6 e14.xWhere e19.xWhere (fun (r24,r26)=>k13 (r24.xSides,r26)))))) (κ ((-1),(zX.mk (jm.mk ([])) false))))) 0
def Yb (list_0:(List zX)) (κ:(List zX)→Prop):Prop :=
 xK list_0 (fun r4=>uz r4 (fun r8=>ifW (!r8) (κ ([])) (jW ([]) r4 (fun _=>z8 (fun (nx22:(List zX)→Prop) (xs19:(List zX))=>UB xs19 (fun (r23,r24)=>ifW (decide (r23<0)) (κ xs19) (jh r23 2 (fun t35=>X3 xs19 t35 (xs19.length:Int) (fun xs37=>jW ([]) xs37 (fun _=>jnW (fun (xs49:(List zX))=>nx22 xs49) (fun k52=>X3 xs19 0 r23 (fun xs56=>jW ([]) xs56 (fun _=>jW (([])++xs56) ([r24]) (fun _=>jW ((([])++xs56)++([r24])) (([])++xs37) (fun _=>k52 (((([])++xs56)++([r24]))++(([])++xs37))))))))))))) (([])++r4)))))
def UL (b_0:jm) (list_1:(List jm)) (κ:((List jm)×Bool)→Prop):Prop :=
 jnW (fun (xs79:(List jm))=>z8 (fun (nx88:((List jm)×Int)→Prop) ((xs84,t87):((List jm)×Int))=>ifW (decide (t87<(list_1.length:Int))) (z8 (fun (nx97:((List jm)×Int)→Prop) ((xs93,t96):((List jm)×Int))=>ifW (decide (t96<(xs84.length:Int))) (zI xs84 t96 (fun e98=>zI list_1 t87 (fun e100=>Zt e98 e100 (fun r112=>jW xs93 r112 (fun _=>jh t96 1 (fun t117=>nx97 ((xs93++r112),t117))))))) (xx xs93 (fun r118=>ifW (!r118) (κ ([],false)) (jh t87 1 (fun t122=>nx88 (xs93,t122)))))) ([],0)) (κ (xs84,true))) (xs79,0)) (fun k82=>yw b_0 (fun r14=>ifW (!r14) (jW ([]) ([b_0]) (fun _=>k82 (([])++([b_0])))) (k82 ([]))))
def YB (list_0:(List zX)) (κ:(List jm)→Prop):Prop :=
 xK list_0 (fun r4=>z8 (fun (nx16:((List jm)×Int)→Prop) ((xs12,t15):((List jm)×Int))=>jnW (fun (t78:Bool)=>ifW t78 (zI r4 t15 (fun e80=>jW xs12 ([e80.xWhere]) (fun _=>jh t15 1 (fun t95=>nx16 ((xs12++([e80.xWhere])),t95))))) (κ xs12)) (fun k79=>ifW (decide (t15<(r4.length:Int))) (uz r4 (fun r17=>k79 r17)) (k79 false))) ([],0))
def UK (list_0:(List zX)) (k_1:Int) (κ:Bool→Prop):Prop :=
 zI list_0 k_1 (fun e3=>X3 list_0 0 k_1 (fun xs10=>YB xs10 (fun r13=>UL e3.xWhere r13 (fun (r16,r19)=>jnW (fun (t80:Bool)=>κ t80) (fun k81=>ifW r19 (k81 (decide ((r16.length:Int)=0))) (k81 false))))))
def Y6 (list_0:(List zX)) (κ:(List zX)→Prop):Prop :=
 xK list_0 (fun r4=>z8 (fun (nx18:((List zX)×(List zX)×Int)→Prop) ((xs11,xs14,t17):((List zX)×(List zX)×Int))=>jnW (fun (t80:Bool)=>ifW t80 (jnW (fun (xs158:(List zX))=>jh t17 1 (fun t162=>nx18 (xs11,xs158,t162))) (fun k161=>UK xs11 t17 (fun r82=>ifW (!r82) (zI xs11 t17 (fun e83=>jW xs14 ([e83]) (fun _=>k161 (xs14++([e83]))))) (k161 xs14)))) (κ xs14)) (fun k81=>ifW (decide (t17<(xs11.length:Int))) (uz xs11 (fun r19=>k81 r19)) (k81 false))) (r4,[],0))
def UG (list_0:(List zX)) (rest_1:Bool) (κ:(List zX)→Prop):Prop :=
 xK list_0 (fun r4=>uz r4 (fun r8=>ifW (!r8) (κ ([])) (jW ([]) r4 (fun _=>z8 (fun (nx22:(List zX)→Prop) (xs19:(List zX))=>Y6 xs19 (fun r23=>Yb r23 (fun r26=>Ue r26 rest_1 (fun r29=>ifW (decide ((r29.length:Int)=(xs19.length:Int))) (κ r29) (nx22 r29))))) (([])++r4)))))
def Yi (s_0:zD) (κ:((List zX)×Bool)→Prop):Prop :=
 Zg s_0 (fun r9=>U5 r9 (fun (r16,r19)=>ifW (!r19) (κ ([],false)) (UG r16 r9.xAccept (fun r23=>κ (r23,true)))))
def Xq (s_0:za) (κ:jm→Prop):Prop :=
 zbO ([]:(List zj)) 4 4 (fun xs26=>z8 (fun (nx55:((List (List zj))×Int)→Prop) ((xs50,t54):((List (List zj))×Int))=>ifW (decide (t54<4)) (zI ([s_0.x0,s_0.x1,s_0.x2,s_0.x3]) t54 (fun e57=>jW ([]) e57 (fun _=>zI xs50 t54 (fun e66=>jh t54 1 (fun t73=>nx55 ((xs50.set (t54).toNat (([])++e57)),t73)))))) (κ (jm.mk xs50))) (xs26,0))
def Ug (list_0:(List zq)) (κ:(List zX)→Prop):Prop :=
 zbO ((zX.mk (jm.mk ([])) false):zX) 0 (list_0.length:Int) (fun xs5=>z8 (fun (nx14:((List zX)×Int)→Prop) ((xs9,t13):((List zX)×Int))=>ifW (decide (t13<(list_0.length:Int))) (zI list_0 t13 (fun e15=>Xq e15.xWhere (fun r44=>jW xs9 ([(zX.mk r44 e15.xAccept)]) (fun _=>jh t13 1 (fun t57=>nx14 ((xs9++([(zX.mk r44 e15.xAccept)])),t57)))))) (κ xs9)) (xs5,0))
def Yx (s_0:zD) (κ:((List zX)×Bool)→Prop):Prop :=
 Xf s_0 (fun (r9,r12)=>ifW (!r12) (κ ([],false)) (Ug r9 (fun r14=>κ (r14,true))))
def Ua (top_0:Int) (κ:Bool→Prop):Prop :=
 jnW (fun (t61:Bool)=>κ t61) (fun k62=>ifW (decide (0≤top_0)) (k62 (decide (top_0≤65535))) (k62 false))
def X7 (list_0:(List zj)) (top_1:Int) (κ:Bool→Prop):Prop :=
 jnW (fun (t64:Bool)=>ifW t64 (κ false) (z8 (fun (nx68:(Int×Int)→Prop) ((t66,t67):(Int×Int))=>ifW (decide (t67<(list_0.length:Int))) (zI list_0 t67 (fun e69=>jnW (fun (t134:Bool)=>ifW t134 (κ false) (jh t67 1 (fun t136=>nx68 (e69.xHi,t136)))) (fun k135=>jh t66 1 (fun t73=>ifW (decide (e69.xLo≤t73)) (k135 true) (ifW (decide (e69.xHi<e69.xLo)) (k135 true) (k135 (decide (top_1<e69.xHi)))))))) (κ true)) ((-2),0))) (fun k65=>Ua top_1 (fun r3=>ifW (!r3) (k65 true) (k65 (decide (40<(list_0.length:Int))))))
def XW (b_0:jm) (κ:Bool→Prop):Prop :=
 ifW (!(decide ((b_0.xSides.length:Int)=4))) (κ false) (z8 (fun (nx9:Int→Prop) (t8:Int)=>ifW (decide (t8<(b_0.xSides.length:Int))) (zI b_0.xSides t8 (fun e10=>jw t8 (fun r16=>X7 e10 r16 (fun r17=>ifW (!r17) (κ false) (jh t8 1 (fun t18=>nx9 t18)))))) (κ true)) 0)
def X4 (list_0:(List zX)) (κ:Bool→Prop):Prop :=
 ifW (decide (60<(list_0.length:Int))) (κ false) (z8 (fun (nx4:Int→Prop) (t3:Int)=>ifW (decide (t3<(list_0.length:Int))) (zI list_0 t3 (fun e5=>XW e5.xWhere (fun r16=>ifW (!r16) (κ false) (jh t3 1 (fun t17=>nx4 t17))))) (κ true)) 0)
def VN (b_0:jm) (κ:za→Prop):Prop :=
 zoN b_0.xSides (fun e10 e11 e12 e13=>κ (za.mk e10 e11 e12 e13))
def Uc (b_0:jm) (κ:((List zL)×Bool)→Prop):Prop :=
 jnW (fun (t80:Bool)=>ifW t80 (κ ([],false)) (z8 (fun (nx89:((List zL)×Int)→Prop) ((xs85,t88):((List zL)×Int))=>ifW (decide (t88<(b_0.xSides.length:Int))) (jnW (fun (xs307:(List zL))=>jh t88 1 (fun t311=>nx89 (xs307,t311))) (fun k310=>zI b_0.xSides t88 (fun e90=>zI zx t88 (fun e96=>jnW (fun (t160:Bool)=>ifW t160 (k310 xs85) (ifW (decide ((e90.length:Int)=1)) (zI e90 0 (fun e162=>zI e90 0 (fun e164=>jW xs85 ([(zL.mk t88 e162.xLo e164.xHi false)]) (fun _=>k310 (xs85++([(zL.mk t88 e162.xLo e164.xHi false)])))))) (jnW (fun (t234:Bool)=>ifW t234 (zI e90 0 (fun e236=>jh e236.xHi 1 (fun t238=>zI e90 1 (fun e239=>Ur e239.xLo 1 (fun t241=>jW xs85 ([(zL.mk t88 t238 t241 true)]) (fun _=>k310 (xs85++([(zL.mk t88 t238 t241 true)])))))))) (κ ([],false))) (fun k235=>ifW (decide ((e90.length:Int)=2)) (zI e90 0 (fun e170=>ifW (decide (e170.xLo=0)) (zI e90 1 (fun e172=>k235 (decide (e172.xHi=e96.xTop)))) (k235 false))) (k235 false))))) (fun k161=>ifW (decide ((e90.length:Int)=1)) (zI e90 0 (fun e98=>k161 (decide (e98=(zj.mk 0 e96.xTop))))) (k161 false)))))) (κ (xs85,true))) ([],0))) (fun k81=>XW b_0 (fun r9=>ifW (!r9) (k81 true) (VN b_0 (fun r10=>u7 r10 (fun r19=>k81 r19)))))
def XI (list_0:(List zX)) (rest_1:Bool) (κ:(zD×Bool)→Prop):Prop :=
 jnW (fun (t66:Bool)=>ifW t66 (κ ((zD.mk ([]) false),false)) (zbO ((zr.mk ([]) 0 0):zr) 0 (list_0.length:Int) (fun xs70=>z8 (fun (nx79:((List zr)×Int)→Prop) ((xs74,t78):((List zr)×Int))=>ifW (decide (t78<(list_0.length:Int))) (zI list_0 t78 (fun e80=>Uc e80.xWhere (fun (r91,r94)=>jnW (fun (t155:Bool)=>ifW t155 (κ ((zD.mk ([]) false),false)) (jnW (fun (t218:Int)=>jW xs74 ([(zr.mk r91 t218 0)]) (fun _=>jh t78 1 (fun t229=>nx79 ((xs74++([(zr.mk r91 t218 0)])),t229)))) (fun k219=>ifW e80.xAccept (k219 1) (k219 2)))) (fun k156=>ifW (!r94) (k156 true) (k156 (decide (6<(r91.length:Int)))))))) (κ ((zD.mk ([xs74]) rest_1),true))) (xs70,0)))) (fun k67=>ifW (decide (8<(list_0.length:Int))) (k67 true) (X4 list_0 (fun r5=>k67 (!r5))))
def Y8 (b_0:jm) (κ:((List zL)×Bool)→Prop):Prop :=
 jnW (fun (t73:Bool)=>ifW t73 (κ ([],false)) (z8 (fun (nx80:((List zL)×Int)→Prop) ((xs76,t79):((List zL)×Int))=>ifW (decide (t79<4)) (jnW (fun (xs298:(List zL))=>jh t79 1 (fun t302=>nx80 (xs298,t302))) (fun k301=>zI b_0.xSides t79 (fun e81=>uM t79 (fun r87=>jnW (fun (t150:Bool)=>ifW t150 (k301 xs76) (ifW (decide ((e81.length:Int)=1)) (zI e81 0 (fun e152=>zI e81 0 (fun e154=>jW xs76 ([(zL.mk t79 e152.xLo e154.xHi false)]) (fun _=>k301 (xs76++([(zL.mk t79 e152.xLo e154.xHi false)])))))) (jnW (fun (t224:Bool)=>ifW t224 (zI e81 0 (fun e226=>jh e226.xHi 1 (fun t228=>zI e81 1 (fun e229=>Ur e229.xLo 1 (fun t231=>jW xs76 ([(zL.mk t79 t228 t231 true)]) (fun _=>k301 (xs76++([(zL.mk t79 t228 t231 true)])))))))) (κ ([],false))) (fun k225=>ifW (decide ((e81.length:Int)=2)) (zI e81 0 (fun e160=>ifW (decide (e160.xLo=0)) (zI e81 1 (fun e162=>k225 (decide (e162.xHi=r87)))) (k225 false))) (k225 false))))) (fun k151=>ifW (decide ((e81.length:Int)=1)) (zI e81 0 (fun e88=>k151 (decide (e88=(zj.mk 0 r87))))) (k151 false)))))) (κ (xs76,true))) ([],0))) (fun k74=>uL b_0 (fun r11=>ifW (!r11) (k74 true) (yw b_0 (fun r12=>k74 r12))))
def Xv (list_0:(List zX)) (rest_1:Bool) (κ:(zD×Bool)→Prop):Prop :=
 xK list_0 (fun r5=>jnW (fun (t70:Bool)=>ifW t70 (κ ((zD.mk ([]) false),false)) (z8 (fun (nx82:((List zr)×Int)→Prop) ((xs77,t81):((List zr)×Int))=>ifW (decide (t81<(r5.length:Int))) (zI r5 t81 (fun e83=>Y8 e83.xWhere (fun (r91,r94)=>ifW (!r94) (κ ((zD.mk ([]) false),false)) (jnW (fun (t163:Int)=>jW xs77 ([(zr.mk r91 t163 0)]) (fun _=>jh t81 1 (fun t171=>nx82 ((xs77++([(zr.mk r91 t163 0)])),t171)))) (fun k164=>zI r5 t81 (fun e101=>ifW e101.xAccept (k164 1) (k164 2))))))) (κ ((zD.mk ([xs77]) rest_1),true))) ([],0))) (fun k71=>uz r5 (fun r9=>ifW (!r9) (k71 true) (k71 (decide (8<(r5.length:Int)))))))
def YI (a_0:(List ByteArray)) (left_1:Int) (κ:Int→Prop):Prop :=
 Ur left_1 (a_0.length:Int) (fun t3=>ifW (decide (t3<0)) (κ (-1)) (z8 (fun (nx6:(Int×Int)→Prop) ((t4,t5):(Int×Int))=>ifW (decide (t5<(a_0.length:Int))) (zI a_0 t5 (fun e7=>Ur t4 (e7.size:Int) (fun t9=>ifW (decide (t9<0)) (κ (-1)) (jh t5 1 (fun t10=>nx6 (t9,t10)))))) (κ t4)) (t3,0)))
def jH (n_0:Int) (κ:ByteArray→Prop):Prop :=
 zkO n_0 10 (fun t1=>jh 48 t1 (fun t2=>zhS t2 (fun t3=>z8 (fun (nx8:(Int×ByteArray)→Prop) ((t6,t7):(Int×ByteArray))=>ifW (decide (9<t6)) (zmu t6 10 (fun t9=>zkO t9 10 (fun t10=>jh 48 t10 (fun t11=>zhS t11 (fun t12=>uS (ByteArray.mk ([t12]).toArray) t7 (fun s15=>nx8 (t9,s15))))))) (κ t7)) (n_0,(ByteArray.mk ([t3]).toArray)))))
def un (t_0:zL) (κ:ByteArray→Prop):Prop :=
 Zx t_0 (fun r3=>ifW (!r3) (κ (ByteArray.mk #[])) (jnW (fun (t4:ByteArray)=>jnW (fun (t81:ByteArray)=>jnW (fun (t146:ByteArray)=>κ t146) (fun k147=>ifW (!(decide (t_0.xHi=t_0.xLo))) (uS t81 (ByteArray.mk #[45]) (fun s83=>jH t_0.xHi (fun r84=>uS s83 r84 (fun s85=>k147 s85)))) (k147 t81))) (fun k82=>ifW t_0.xNot (uS (ByteArray.mk #[110,111,116,32]) t4 (fun s20=>k82 s20)) (k82 t4))) (fun k5=>((zI ([(ByteArray.mk #[102,114,111,109]),(ByteArray.mk #[116,111]),(ByteArray.mk #[112,111,114,116]),(ByteArray.mk #[112,114,111,116,111])]) t_0.xField (fun e7=>(uS e7 (ByteArray.mk #[32]) (fun s9=>jH t_0.xLo (fun r10=>uS s9 r10 (fun s11=>k5 s11))))∧(jH t_0.xLo (fun r12=>uS e7 (ByteArray.mk #[32]) (fun s13=>uS s13 r12 (fun s14=>k5 s14))))))∧(jH t_0.xLo (fun r15=>zI ([(ByteArray.mk #[102,114,111,109]),(ByteArray.mk #[116,111]),(ByteArray.mk #[112,111,114,116]),(ByteArray.mk #[112,114,111,116,111])]) t_0.xField (fun e16=>uS e16 (ByteArray.mk #[32]) (fun s13=>uS s13 r15 (fun s14=>k5 s14))))))∧(jH t_0.xLo (fun r18=>zI ([(ByteArray.mk #[102,114,111,109]),(ByteArray.mk #[116,111]),(ByteArray.mk #[112,111,114,116]),(ByteArray.mk #[112,114,111,116,111])]) t_0.xField (fun e16=>uS e16 (ByteArray.mk #[32]) (fun s13=>uS s13 r18 (fun s14=>k5 s14))))))))
def uK (r_0:zr) (κ:ByteArray→Prop):Prop :=
 Xl r_0 (fun r8=>ifW (!r8) (κ (ByteArray.mk #[])) (Ur r_0.xAction 1 (fun t11=>zI ([(ByteArray.mk #[97,99,99,101,112,116]),(ByteArray.mk #[100,114,111,112]),(ByteArray.mk #[99,97,108,108]),(ByteArray.mk #[114,101,116,117,114,110]),(ByteArray.mk #[110,111,110,101])]) t11 (fun e12=>jnW (fun (t77:ByteArray)=>z8 (fun (nx81:(ByteArray×Int)→Prop) ((t79,t80):(ByteArray×Int))=>ifW (decide (t80<(r_0.xTests.length:Int))) (uS t79 (ByteArray.mk #[44,32]) (fun s82=>zI r_0.xTests t80 (fun e83=>un e83 (fun r85=>uS s82 r85 (fun s86=>jh t80 1 (fun t87=>nx81 (s86,t87))))))) (κ t79)) (t77,0)) (fun k78=>ifW (decide (r_0.xAction=3)) (uS e12 (ByteArray.mk #[32]) (fun s14=>jH r_0.xChain (fun r15=>uS s14 r15 (fun s16=>k78 s16)))) (k78 e12))))))
def Zi (s_0:ByteArray) (c_1:UInt8) (κ:(ByteArray×ByteArray)→Prop):Prop :=
 z8 (fun (nx2:Int→Prop) (t1:Int)=>ifW (decide (t1<(s_0.size:Int))) (zI s_0.data.toList t1 (fun e3=>ifW (decide ((e3.toNat:Int)=(c_1.toNat:Int))) (zbF s_0 0 t1 (fun s4=>jh t1 1 (fun t5=>zbF s_0 t5 (s_0.size:Int) (fun s6=>κ (s4,s6))))) (jh t1 1 (fun t7=>nx2 t7)))) (κ (s_0,(ByteArray.mk #[])))) 0
def uG (s_0:ByteArray) (κ:Int→Prop):Prop :=
 z8 (fun (nx3:(Int×Int)→Prop) ((t1,t2):(Int×Int))=>jnW (fun (t64:Bool)=>ifW t64 (jnW (fun (t128:Bool)=>ifW t128 (κ (-1)) (zlh 10 t1 (fun t130=>zI s_0.data.toList t2 (fun e131=>zjL (e131.toNat:Int) 48 (fun t132=>zir t132 (fun _=>jh t130 t132 (fun t133=>jh t2 1 (fun t134=>nx3 (t133,t134))))))))) (fun k129=>zI s_0.data.toList t2 (fun e66=>ifW (decide ((e66.toNat:Int)<48)) (k129 true) (zI s_0.data.toList t2 (fun e67=>k129 (decide (57<(e67.toNat:Int)))))))) (jnW (fun (t196:Bool)=>ifW t196 (κ (-1)) (κ t1)) (fun k197=>ifW (decide (5<(s_0.size:Int))) (k197 true) (jH t1 (fun r135=>k197 (!(decide (r135=s_0)))))))) (fun k65=>ifW (decide (t2<(s_0.size:Int))) (k65 (decide (t2<6))) (k65 false))) (0,0)
def yY (s_0:ByteArray) (κ:(zL×Bool)→Prop):Prop :=
 jnW (fun ((t129,t130):(Bool×ByteArray))=>Zi t130 (32:UInt8) (fun (r132,r133)=>Zi r133 (45:UInt8) (fun (r134,r135)=>jnW (fun (t196:ByteArray)=>z8 (fun (nx202:(Int×Int)→Prop) ((t200,t201):(Int×Int))=>ifW (decide (t201<(([(ByteArray.mk #[102,114,111,109]),(ByteArray.mk #[116,111]),(ByteArray.mk #[112,111,114,116]),(ByteArray.mk #[112,114,111,116,111])]).length:Int))) (jnW (fun (t265:Int)=>jh t201 1 (fun t267=>nx202 (t265,t267))) (fun k266=>zI ([(ByteArray.mk #[102,114,111,109]),(ByteArray.mk #[116,111]),(ByteArray.mk #[112,111,114,116]),(ByteArray.mk #[112,114,111,116,111])]) t201 (fun e203=>ifW (decide (r132=e203)) (k266 t201) (k266 t200)))) (uG r134 (fun r268=>uG t196 (fun r269=>jnW (fun (t331:Bool)=>ifW t331 (κ ((zL.mk 0 0 0 false),false)) (κ ((zL.mk t200 r268 r269 t129),true))) (fun k332=>un (zL.mk t200 r268 r269 t129) (fun r270=>ifW (!(decide (r270=s_0))) (k332 true) (k332 (decide (s_0=(ByteArray.mk #[])))))))))) ((-1),0)) (fun k197=>ifW (decide (r135=(ByteArray.mk #[]))) (k197 r134) (k197 r135))))) (fun k131=>jnW (fun (t66:Bool)=>ifW t66 (zbF s_0 4 (s_0.size:Int) (fun s68=>k131 (true,s68))) (k131 (false,s_0))) (fun k67=>ifW (decide (4<(s_0.size:Int))) (zbF s_0 0 4 (fun s5=>k67 (decide (s5=(ByteArray.mk #[110,111,116,32]))))) (k67 false)))
def yt (s_0:ByteArray) (κ:(zr×Bool)→Prop):Prop :=
 Zi s_0 (44:UInt8) (fun (r5,r6)=>z8 (fun (nx10:(Int×Int×Int)→Prop) ((t7,t8,t9):(Int×Int×Int))=>ifW (decide (t9≤5)) (z8 (fun (nx14:(Int×Int×Int)→Prop) ((t11,t12,t13):(Int×Int×Int))=>ifW (decide (t13<5)) (jnW (fun ((t140,t141):(Int×Int))=>jh t13 1 (fun t143=>nx14 (t140,t141,t143))) (fun k142=>jnW (fun (t77:Int)=>uK (zr.mk ([]) t9 t77) (fun r79=>ifW (decide (r79=r5)) (k142 (t9,t77)) (k142 (t11,t12)))) (fun k78=>ifW (decide (t9=3)) (k78 t13) (k78 0)))) (jh t9 1 (fun t144=>nx10 (t11,t12,t144)))) (t7,t8,0)) (z8 (fun (nx151:((List zL)×ByteArray×Int)→Prop) ((xs146,t149,t150):((List zL)×ByteArray×Int))=>jnW (fun (t212:Bool)=>ifW t212 (Zi t149 (44:UInt8) (fun (r214,r215)=>jnW (fun (t277:Bool)=>ifW t277 (κ ((zr.mk ([]) 0 0),false)) (zbF r214 1 (r214.size:Int) (fun s280=>yY s280 (fun (r281,r282)=>ifW (!r282) (κ ((zr.mk ([]) 0 0),false)) (jW xs146 ([r281]) (fun _=>jh t150 1 (fun t293=>nx151 ((xs146++([r281])),r215,t293)))))))) (fun k278=>ifW (decide (r214=(ByteArray.mk #[]))) (k278 true) (zI r214.data.toList 0 (fun e216=>k278 (!(decide ((e216.toNat:Int)=32)))))))) (jnW (fun (t355:Bool)=>ifW t355 (κ ((zr.mk ([]) 0 0),false)) (κ ((zr.mk xs146 t7 t8),true))) (fun k356=>uK (zr.mk xs146 t7 t8) (fun r294=>ifW (!(decide (r294=s_0))) (k356 true) (k356 (decide (s_0=(ByteArray.mk #[])))))))) (fun k213=>ifW (!(decide (t149=(ByteArray.mk #[])))) (k213 (decide (t150≤6))) (k213 false))) ([],r6,0))) (0,0,1))
def ZJ (lines_0:(List ByteArray)) (κ:(zD×Bool)→Prop):Prop :=
 jnW (fun (t71:Bool)=>ifW t71 (κ ((zD.mk ([]) false),false)) (zI lines_0 0 (fun e74=>z8 (fun (nx87:((List (List zr))×(List (List zr))×Int)→Prop) ((xs77,xs82,t86):((List (List zr))×(List (List zr))×Int))=>ifW (decide (t86<(lines_0.length:Int))) (jnW (fun (xs321:(List (List zr)))=>jh t86 1 (fun t326=>nx87 (xs321,xs82,t326))) (fun k325=>zI lines_0 t86 (fun e91=>jH (xs77.length:Int) (fun r93=>uS (ByteArray.mk #[99,104,97,105,110,32]) r93 (fun s94=>ifW (decide (e91=s94)) (jW xs77 ([[]]) (fun _=>k325 (xs77++([[]])))) (zI lines_0 t86 (fun e110=>yt e110 (fun (r112,r115)=>jnW (fun (t181:Bool)=>ifW t181 (κ ((zD.mk ([]) false),false)) (jnW (fun (xs184:(List (List zr)))=>k325 xs184) (fun k187=>zI xs77 (w64 ((xs77.length:Int) - 1)) (fun e188=>jW e188 ([r112]) (fun _=>zI xs77 (w64 ((xs77.length:Int) - 1)) (fun e198=>k187 (xs77.set ((w64 ((xs77.length:Int) - 1))).toNat (e188++([r112]))))))))) (fun k182=>ifW (!r115) (k182 true) (k182 (decide ((xs77.length:Int)=0)))))))))))) (uU (zD.mk xs77 (decide (e74=(ByteArray.mk #[100,101,102,97,117,108,116,32,97,99,99,101,112,116])))) (fun r327=>ifW (!r327) (κ ((zD.mk ([]) false),false)) (κ ((zD.mk xs77 (decide (e74=(ByteArray.mk #[100,101,102,97,117,108,116,32,97,99,99,101,112,116])))),true))))) ([],[],1)))) (fun k72=>ifW (decide ((lines_0.length:Int)=0)) (k72 true) (zI lines_0 0 (fun e7=>ifW (!(decide (e7=(ByteArray.mk #[100,101,102,97,117,108,116,32,97,99,99,101,112,116])))) (zI lines_0 0 (fun e9=>k72 (!(decide (e9=(ByteArray.mk #[100,101,102,97,117,108,116,32,100,114,111,112])))))) (k72 false))))
def XD (s_0:zD) (κ:(List ByteArray)→Prop):Prop :=
 uU s_0 (fun r11=>ifW (!r11) (κ ([])) (jnW (fun (xs80:(List ByteArray))=>z8 (fun (nx89:((List ByteArray)×Int)→Prop) ((xs85,t88):((List ByteArray)×Int))=>ifW (decide (t88<(s_0.xChains.length:Int))) (jH t88 (fun r90=>uS (ByteArray.mk #[99,104,97,105,110,32]) r90 (fun s91=>jW xs85 ([s91]) (fun _=>z8 (fun (nx101:((List ByteArray)×Int)→Prop) ((xs97,t100):((List ByteArray)×Int))=>zI s_0.xChains t88 (fun e102=>ifW (decide (t100<(e102.length:Int))) (zI s_0.xChains t88 (fun e108=>zI e108 t100 (fun e114=>uK e114 (fun r120=>jW xs97 ([r120]) (fun _=>jh t100 1 (fun t125=>nx101 ((xs97++([r120])),t125))))))) (jh t88 1 (fun t126=>nx89 (xs97,t126))))) ((xs85++([s91])),0))))) (κ xs85)) (xs80,0)) (fun k83=>ifW s_0.xAccept (jW ([]) ([(ByteArray.mk #[100,101,102,97,117,108,116,32,97,99,99,101,112,116])]) (fun _=>k83 (([])++([(ByteArray.mk #[100,101,102,97,117,108,116,32,97,99,99,101,112,116])])))) (jW ([]) ([(ByteArray.mk #[100,101,102,97,117,108,116,32,100,114,111,112])]) (fun _=>k83 (([])++([(ByteArray.mk #[100,101,102,97,117,108,116,32,100,114,111,112])])))))))
def ZF (lines_0:(List ByteArray)) (κ:((List ByteArray)×Bool)→Prop):Prop :=
 ZJ lines_0 (fun (r4,r8)=>ifW (!r8) (κ ([],false)) (Yi r4 (fun (r16,r19)=>Xv r16 r4.xAccept (fun (r20,r24)=>jnW (fun (t90:Bool)=>ifW t90 (κ ([],false)) (XD r20 (fun r94=>κ (r94,true)))) (fun k91=>ifW (!r19) (k91 true) (k91 (!r24)))))))
def yD (a_0:(List ByteArray)) (κ:(List ByteArray)→Prop):Prop :=
 zbO ((ByteArray.mk #[]):ByteArray) (a_0.length:Int) (a_0.length:Int) (fun xs5=>z8 (fun (nx10:((List ByteArray)×Int)→Prop) ((xs7,t9):((List ByteArray)×Int))=>ifW (decide (t9<(a_0.length:Int))) (zI a_0 t9 (fun e11=>zI xs7 t9 (fun e13=>jh t9 1 (fun t16=>nx10 ((xs7.set (t9).toNat e11),t16))))) (κ xs7)) (xs5,0))
def Zu (number_0:Int) (κ:ByteArray→Prop):Prop :=
 Z9 number_0 (fun r1=>uS (ByteArray.mk #[99,104,97,105,110,32]) r1 (fun s2=>κ s2))
def yf (in_0_state:Int) (in_0_set_Chains:(List (List zr))) (in_0_set_Accept:Bool) (line_1:ByteArray) (κ:(Bool×(List (List zr)))→Prop):Prop :=
 jnW (fun (t67:Bool)=>ifW t67 (κ (false,in_0_set_Chains)) (jW in_0_set_Chains ([[]]) (fun _=>κ (true,(in_0_set_Chains++([[]])))))) (fun k68=>ifW (decide ((in_0_set_Chains.length:Int)=5)) (k68 true) (Zu (in_0_set_Chains.length:Int) (fun r6=>k68 (!(decide (line_1=r6))))))
def uR (t_0:zL) (κ:ByteArray→Prop):Prop :=
 zI zx t_0.xField (fun e3=>uS e3.xName (ByteArray.mk #[32]) (fun s5=>Z9 t_0.xLo (fun r6=>uS s5 r6 (fun s7=>jnW (fun (t69:ByteArray)=>jnW (fun (t134:ByteArray)=>κ t134) (fun k135=>ifW (!(decide (t_0.xHi=t_0.xLo))) (Z9 t_0.xHi (fun r71=>uS (ByteArray.mk #[45]) r71 (fun s72=>uS t69 s72 (fun s73=>k135 s73)))) (k135 t69))) (fun k70=>ifW t_0.xNot (uS (ByteArray.mk #[110,111,116,32]) s7 (fun s8=>k70 s8)) (k70 s7))))))
def u9 (d_0:yg) (κ:ByteArray→Prop):Prop :=
 ifW d_0.xAccept (κ (ByteArray.mk #[97,99,99,101,112,116])) (κ (ByteArray.mk #[100,114,111,112]))
def Zf (a_0:Xn) (κ:ByteArray→Prop):Prop :=
 κ (ByteArray.mk #[99,97,108,108])
def yz (a_0:xZ) (κ:ByteArray→Prop):Prop :=
 κ (ByteArray.mk #[114,101,116,117,114,110])
def Ze (a_0:yd) (κ:ByteArray→Prop):Prop :=
 κ (ByteArray.mk #[110,111,110,101])
def Zw (r_0:zr) (κ:ByteArray→Prop):Prop :=
 yv r_0 (fun r8=>xn.casesW r8 (fun x9=>u9 x9 (fun r13=>jnW (fun (t77:ByteArray)=>z8 (fun (nx81:(ByteArray×Int)→Prop) ((t79,t80):(ByteArray×Int))=>ifW (decide (t80<(r_0.xTests.length:Int))) (zI r_0.xTests t80 (fun e82=>uR e82 (fun r86=>uS (ByteArray.mk #[44,32]) r86 (fun s87=>uS t79 s87 (fun s88=>jh t80 1 (fun t89=>nx81 (s88,t89))))))) (κ t79)) (t77,0)) (fun k78=>ifW (decide (r_0.xAction=3)) (Z9 r_0.xChain (fun r14=>uS (ByteArray.mk #[32]) r14 (fun s15=>uS r13 s15 (fun s16=>k78 s16)))) (k78 r13)))) (fun x10=>Zf x10 (fun r90=>jnW (fun (t154:ByteArray)=>z8 (fun (nx158:(ByteArray×Int)→Prop) ((t156,t157):(ByteArray×Int))=>ifW (decide (t157<(r_0.xTests.length:Int))) (zI r_0.xTests t157 (fun e159=>uR e159 (fun r163=>uS (ByteArray.mk #[44,32]) r163 (fun s164=>uS t156 s164 (fun s165=>jh t157 1 (fun t166=>nx158 (s165,t166))))))) (κ t156)) (t154,0)) (fun k155=>ifW (decide (r_0.xAction=3)) (Z9 r_0.xChain (fun r91=>uS (ByteArray.mk #[32]) r91 (fun s92=>uS r90 s92 (fun s93=>k155 s93)))) (k155 r90)))) (fun x11=>yz (xZ.mk ) (fun r167=>jnW (fun (t231:ByteArray)=>z8 (fun (nx235:(ByteArray×Int)→Prop) ((t233,t234):(ByteArray×Int))=>ifW (decide (t234<(r_0.xTests.length:Int))) (zI r_0.xTests t234 (fun e236=>uR e236 (fun r240=>uS (ByteArray.mk #[44,32]) r240 (fun s241=>uS t233 s241 (fun s242=>jh t234 1 (fun t243=>nx235 (s242,t243))))))) (κ t233)) (t231,0)) (fun k232=>ifW (decide (r_0.xAction=3)) (Z9 r_0.xChain (fun r168=>uS (ByteArray.mk #[32]) r168 (fun s169=>uS r167 s169 (fun s170=>k232 s170)))) (k232 r167)))) (fun x12=>Ze (yd.mk ) (fun r244=>jnW (fun (t308:ByteArray)=>z8 (fun (nx312:(ByteArray×Int)→Prop) ((t310,t311):(ByteArray×Int))=>ifW (decide (t311<(r_0.xTests.length:Int))) (zI r_0.xTests t311 (fun e313=>uR e313 (fun r317=>uS (ByteArray.mk #[44,32]) r317 (fun s318=>uS t310 s318 (fun s319=>jh t311 1 (fun t320=>nx312 (s319,t320))))))) (κ t310)) (t308,0)) (fun k309=>ifW (decide (r_0.xAction=3)) (Z9 r_0.xChain (fun r245=>uS (ByteArray.mk #[32]) r245 (fun s246=>uS r244 s246 (fun s247=>k309 s247)))) (k309 r244)))))
def jL (in_0_text:ByteArray) (in_0_at:Int) (w_1:ByteArray) (κ:(Bool×Int)→Prop):Prop :=
 zbF in_0_text in_0_at (in_0_text.size:Int) (fun s3=>Uf s3 w_1 (fun r4=>ifW (!r4) (κ (false,in_0_at)) (jh in_0_at (w_1.size:Int) (fun t5=>κ (true,t5)))))
def yp (in_0_text:ByteArray) (in_0_at:Int) (κ:Bool→Prop):Prop :=
 κ (decide (in_0_at=(in_0_text.size:Int)))
def xj (in_0_text:ByteArray) (in_0_at:Int) (κ:(Int×Bool×Int)→Prop):Prop :=
 jnW (fun ((t197,t198):(Int×Int))=>κ (t198,(decide (in_0_at<t197)),t197)) (fun k199=>z8 (fun (nx5:(Int×Int)→Prop) ((t3,t4):(Int×Int))=>jnW (fun (t68:Bool)=>ifW t68 (zI in_0_text.data.toList t3 (fun e70=>jnW (fun (t131:Bool)=>ifW t131 (k199 (t3,t4)) (zlh 10 t4 (fun t133=>zjL (e70.toNat:Int) 48 (fun t134=>zir t134 (fun _=>jh t133 t134 (fun t135=>jh t3 1 (fun t136=>nx5 (t136,t135)))))))) (fun k132=>ifW (decide ((e70.toNat:Int)<48)) (k132 true) (k132 (decide (57<(e70.toNat:Int))))))) (k199 (t3,t4))) (fun k69=>yp in_0_text t3 (fun r6=>ifW (!r6) (jh in_0_at 6 (fun t7=>k69 (decide (t3<t7)))) (k69 false)))) (in_0_at,0))
def uX (in_0_text:ByteArray) (in_0_at:Int) (κ:(zr×Bool×Int)→Prop):Prop :=
 z8 (fun (nx7:(Int×Int)→Prop) ((t5,t6):(Int×Int))=>ifW (decide (t6≤5)) (jnW (fun (t218:Int)=>jh t6 1 (fun t220=>nx7 (t218,t220))) (fun k219=>jnW (fun (t87:Int)=>ifW (!(decide (t6=3))) (κ ((zr.mk ([]) t6 0),true,t87)) (jL in_0_text t87 (ByteArray.mk #[32]) (fun (r90,r91)=>jnW (fun ((t155,t156,t157):(Int×Int×Bool))=>κ ((zr.mk ([]) t6 t156),t157,t155)) (fun k158=>ifW r90 (xj in_0_text r91 (fun (r92,r93,r94)=>k158 (r94,r92,r93))) (k158 (r91,0,r90)))))) (fun k88=>yv (zr.mk ([]) t6 0) (fun r10=>xn.casesW r10 (fun x11=>u9 x11 (fun r15=>jL in_0_text t5 r15 (fun (r16,r17)=>ifW (!r16) (k219 r17) (k88 r17)))) (fun x12=>Zf x12 (fun r18=>jL in_0_text t5 r18 (fun (r19,r20)=>ifW (!r19) (k219 r20) (k88 r20)))) (fun x13=>yz (xZ.mk ) (fun r21=>jL in_0_text t5 r21 (fun (r22,r23)=>ifW (!r22) (k219 r23) (k88 r23)))) (fun x14=>Ze (yd.mk ) (fun r24=>jL in_0_text t5 r24 (fun (r25,r26)=>ifW (!r25) (k219 r26) (k88 r26)))))))) (κ ((zr.mk ([]) 0 0),false,t5))) (in_0_at,1)
def ye (in_0_text:ByteArray) (in_0_at:Int) (κ:(Int×Bool×Int)→Prop):Prop :=
 z8 (fun (nx5:(Int×Int)→Prop) ((t3,t4):(Int×Int))=>ifW (decide (t4<4)) (zI zx t4 (fun e6=>uS e6.xName (ByteArray.mk #[32]) (fun s8=>jL in_0_text t3 s8 (fun (r9,r10)=>ifW r9 (κ (t4,true,r10)) (jh t4 1 (fun t11=>nx5 (r10,t11))))))) (κ (0,false,t3))) (in_0_at,0)
def yq (in_0_text:ByteArray) (in_0_at:Int) (κ:(zL×Bool×Int)→Prop):Prop :=
 jL in_0_text in_0_at (ByteArray.mk #[110,111,116,32]) (fun (r7,r8)=>ye in_0_text r8 (fun (r9,r10,r11)=>ifW (!r10) (κ ((zL.mk 0 0 0 false),false,r11)) (xj in_0_text r11 (fun (r12,r13,r14)=>ifW (!r13) (κ ((zL.mk 0 0 0 false),false,r14)) (jnW (fun ((t80,t81):(Int×Int))=>κ ((zL.mk r9 r12 t81 r7),true,t80)) (fun k82=>jL in_0_text r14 (ByteArray.mk #[45]) (fun (r15,r16)=>ifW r15 (xj in_0_text r16 (fun (r17,r18,r19)=>ifW (!r18) (κ ((zL.mk 0 0 0 false),false,r19)) (k82 (r19,r17)))) (k82 (r16,r12)))))))))
def Zc (s_0:ByteArray) (κ:(zr×Bool)→Prop):Prop :=
 uX s_0 0 (fun (r5,r8,r9)=>ifW (!r8) (κ ((zr.mk ([]) 0 0),false)) (z8 (fun (nx21:((List zL)×Int)→Prop) ((xs17,t20):((List zL)×Int))=>yp s_0 t20 (fun r22=>ifW (!r22) (jnW (fun ((t85,t86):(Int×Bool))=>ifW t86 (κ ((zr.mk ([]) 0 0),false)) (yq s_0 t85 (fun (r89,r90,r91)=>ifW (!r90) (κ ((zr.mk ([]) 0 0),false)) (jW xs17 ([r89]) (fun _=>nx21 ((xs17++([r89])),r91)))))) (fun k87=>ifW (decide ((xs17.length:Int)=6)) (k87 (t20,true)) (jL s_0 t20 (ByteArray.mk #[44,32]) (fun (r23,r24)=>k87 (r24,(!r23)))))) (jnW (fun (t164:Bool)=>ifW t164 (κ ((zr.mk ([]) 0 0),false)) (κ ((zr.mk xs17 r5.xAction r5.xChain),true))) (fun k165=>Xj (zr.mk xs17 r5.xAction r5.xChain) (fun r102=>ifW (!r102) (k165 true) (Zw (zr.mk xs17 r5.xAction r5.xChain) (fun r103=>k165 (!(decide (r103=s_0)))))))))) (r5.xTests,r9)))
def Zp (in_0_state:Int) (in_0_set_Chains:(List (List zr))) (in_0_set_Accept:Bool) (line_1:ByteArray) (κ:(Bool×(List (List zr)))→Prop):Prop :=
 Zc line_1 (fun (r6,r9)=>Ur (in_0_set_Chains.length:Int) 1 (fun t15=>zI in_0_set_Chains t15 (fun e16=>ifW (!r9) (κ (false,in_0_set_Chains)) (ifW (decide ((e16.length:Int)=8)) (κ (false,(in_0_set_Chains.set (t15).toNat e16))) (jnW (fun (_:Unit)=>Yw (in_0_set_Chains.set (t15).toNat (e16++([r6]))) (fun r40=>κ (r40,(in_0_set_Chains.set (t15).toNat (e16++([r6])))))) (fun k25=>jW e16 ([r6]) (fun _=>k25 ())))))))
def Xw (in_0_state:Int) (in_0_set_Chains:(List (List zr))) (in_0_set_Accept:Bool) (line_1:ByteArray) (κ:(Bool×Int×(List (List zr))×Bool)→Prop):Prop :=
 ifW (decide (in_0_state=0)) (jnW (fun (t66:Bool)=>κ (t66,1,in_0_set_Chains,(decide (line_1=(ByteArray.mk #[100,101,102,97,117,108,116,32,97,99,99,101,112,116]))))) (fun k67=>ifW (decide (line_1=(ByteArray.mk #[100,101,102,97,117,108,116,32,97,99,99,101,112,116]))) (k67 true) (k67 (decide (line_1=(ByteArray.mk #[100,101,102,97,117,108,116,32,100,114,111,112])))))) (ifW (decide (in_0_state=1)) (yf 2 in_0_set_Chains in_0_set_Accept line_1 (fun (r68,r69)=>κ (r68,2,r69,in_0_set_Accept))) (jnW (fun ((xs143,t147):((List (List zr))×Bool))=>κ (t147,in_0_state,xs143,in_0_set_Accept)) (fun k148=>yf in_0_state in_0_set_Chains in_0_set_Accept line_1 (fun (r73,r74)=>ifW r73 (k148 (r74,true)) (Zp in_0_state r74 in_0_set_Accept line_1 (fun (r78,r79)=>k148 (r79,r78)))))))
def ZM (lines_0:(List ByteArray)) (κ:(zD×Bool)→Prop):Prop :=
 z8 (fun (nx15:(Int×(List (List zr))×Bool×Int)→Prop) ((t7,xs9,t13,t14):(Int×(List (List zr))×Bool×Int))=>ifW (decide (t14<(lines_0.length:Int))) (zI lines_0 t14 (fun e16=>Xw t7 xs9 t13 e16 (fun (r18,r19,r20,r24)=>ifW (!r18) (κ ((zD.mk ([]) false),false)) (jh t14 1 (fun t26=>nx15 (r19,r20,r24,t26)))))) (yr (zD.mk xs9 t13) (fun r27=>ifW (!r27) (κ ((zD.mk ([]) false),false)) (κ ((zD.mk xs9 t13),true))))) (0,[],false,0)
def XC (s_0:zD) (κ:(List ByteArray)→Prop):Prop :=
 yr s_0 (fun r9=>ifW (!r9) (κ ([])) (jnW (fun (t71:ByteArray)=>z8 (fun (nx80:((List ByteArray)×Int)→Prop) ((xs76,t79):((List ByteArray)×Int))=>ifW (decide (t79<(s_0.xChains.length:Int))) (zI s_0.xChains t79 (fun e81=>Zu t79 (fun r87=>jW xs76 ([r87]) (fun _=>z8 (fun (nx97:((List ByteArray)×Int)→Prop) ((xs93,t96):((List ByteArray)×Int))=>ifW (decide (t96<(e81.length:Int))) (zI e81 t96 (fun e98=>Zw e98 (fun r109=>jW xs93 ([r109]) (fun _=>jh t96 1 (fun t114=>nx97 ((xs93++([r109])),t114)))))) (jh t79 1 (fun t115=>nx80 (xs93,t115)))) ((xs76++([r87])),0))))) (κ xs76)) ([t71],0)) (fun k72=>ifW s_0.xAccept (k72 (ByteArray.mk #[100,101,102,97,117,108,116,32,97,99,99,101,112,116])) (k72 (ByteArray.mk #[100,101,102,97,117,108,116,32,100,114,111,112])))))
def yC (lines_0:(List ByteArray)) (κ:((List ByteArray)×Bool)→Prop):Prop :=
 ZM lines_0 (fun (r4,r8)=>ifW (!r8) (κ ([],false)) (Yx r4 (fun (r15,r19)=>ifW (!r19) (κ ([],false)) (XI r15 r4.xAccept (fun (r21,r25)=>ifW (!r25) (κ ([],false)) (XC r21 (fun r32=>κ (r32,true))))))))
def yB (a_0:(List ByteArray)) (b_1:(List ByteArray)) (κ:Bool→Prop):Prop :=
 ifW (!(decide ((a_0.length:Int)=(b_1.length:Int)))) (κ false) (z8 (fun (nx6:Int→Prop) (t5:Int)=>ifW (decide (t5<(a_0.length:Int))) (zI a_0 t5 (fun e7=>zI b_1 t5 (fun e9=>ifW (!(decide (e7=e9))) (κ false) (jh t5 1 (fun t11=>nx6 t11))))) (κ true)) 0)
def XT (k_0:Int) (κ:ByteArray→Prop):Prop :=
 ifW (decide (k_0≤0)) (κ (ByteArray.mk #[109,48])) (z8 (fun (nx3:(Int×ByteArray)→Prop) ((t1,t2):(Int×ByteArray))=>ifW (decide (0<t1)) (zkO t1 10 (fun t4=>jh 48 t4 (fun t5=>zhS t5 (fun t6=>uS (ByteArray.mk ([t6]).toArray) t2 (fun s9=>zmu t1 10 (fun t10=>nx3 (t10,s9))))))) (uS (ByteArray.mk #[109]) t2 (fun s11=>κ s11))) (k_0,(ByteArray.mk #[])))
def ZA (a_0:(List ByteArray)) (k_1:Int) (κ:(Int×(List ByteArray))→Prop):Prop :=
 z8 (fun (nx7:((List ByteArray)×Int×Int)→Prop) ((xs3,t5,t6):((List ByteArray)×Int×Int))=>ifW (decide (t6<(xs3.length:Int))) (XT t5 (fun r8=>zI xs3 t6 (fun e9=>jh t5 1 (fun t12=>jh t6 1 (fun t13=>nx7 ((xs3.set (t6).toNat r8),t12,t13)))))) (κ (t5,xs3))) (a_0,k_1,0)
def yG (a_0:(List ByteArray)) (k_1:Int) (κ:Int→Prop):Prop :=
 z8 (fun (nx5:(Int×Int)→Prop) ((t3,t4):(Int×Int))=>ifW (decide (t4<(a_0.length:Int))) (zI a_0 t4 (fun e6=>XT t3 (fun r8=>ifW (!(decide (e6=r8))) (κ (-1)) (jh t3 1 (fun t9=>jh t4 1 (fun t10=>nx5 (t9,t10))))))) (κ t3)) (k_1,0)
def ZP (p0:(List ByteArray)) (κ:Bool→Prop):Prop :=
 YI p0 1048576 (fun r3=>ifW (decide (r3<0)) (κ true) (yD p0 (fun r4=>ZF r4 (fun (r7,r10)=>yD p0 (fun r11=>yC r11 (fun (r14,r17)=>jnW (fun (t79:Bool)=>ifW t79 (κ false) (yD p0 (fun r81=>yB r11 r81 (fun r84=>ifW (!r84) (κ false) (ZA r11 1 (fun (r85,r86)=>jnW (fun (t149:Bool)=>ifW t149 (κ false) (ZA r14 1 (fun (r151,r152)=>yG r152 1 (fun r154=>ifW (decide (r154<0)) (κ false) (ifW (!(decide (r154=r151))) (κ false) (yD p0 (fun r155=>yC r155 (fun (r158,r161)=>jnW (fun (t223:Bool)=>ifW t223 (κ false) (yG r152 1 (fun r225=>ifW (decide (r225<0)) (κ false) (ifW (!(decide (r225=r151))) (κ false) (κ true))))) (fun k224=>yB r158 r7 (fun r162=>ifW (!r162) (k224 true) (k224 (!(decide (r161=r10)))))))))))))) (fun k150=>ifW (decide (r85<0)) (k150 true) (yB r14 r7 (fun r88=>ifW (!r88) (k150 true) (k150 (!(decide (r17=r10))))))))))))) (fun k80=>yB r14 r7 (fun r18=>ifW (!r18) (k80 true) (k80 (!(decide (r17=r10))))))))))))
end
section
open Go Go.Proofs
def NF (l:List zj):Prop:=(∀ s∈l,s.xLo≤s.xHi)∧l.Pairwise (fun a b=>a.xHi+1<b.xLo)
def hv (l:List zj) (x:Int):Prop:=∃ s∈l,s.xLo≤x∧x≤s.xHi
theorem ziQ:NF []:=⟨by simp,by simp⟩
theorem ZE (x:Int):¬ hv [] x:=by simp [hv]
theorem ub (s:zj) (l:List zj) (x:Int):hv (s :: l) x↔(s.xLo≤x∧x≤s.xHi)∨hv l x:=by simp [hv]
theorem zaz (l m:List zj) (x:Int):hv (l++m) x↔hv l x∨hv m x:=by
 simp only [hv,List.mem_append]
 constructor
 ·rintro ⟨s,h | h,e⟩
  ·exact .inl ⟨s,h,e⟩
  ·exact .inr ⟨s,h,e⟩
 ·rintro (⟨s,h,e⟩ | ⟨s,h,e⟩)
  ·exact ⟨s,.inl h,e⟩
  ·exact ⟨s,.inr h,e⟩
theorem zaj {s:zj} {l:List zj} (h:NF (s :: l)):NF l:=⟨fun t ht=>h.1 t (List.mem_cons_of_mem _ ht),(List.pairwise_cons.1 h.2).2⟩
theorem zd5 {s:zj} {l:List zj} (h:NF (s :: l)) {x:Int} (hx:hv l x):s.xHi+1<x:=by
 obtain ⟨t,ht,e1,_⟩:=hx
 have:=(List.pairwise_cons.1 h.2).1 t ht
 omega
theorem zdH {s:zj} {l:List zj} (h:NF (s :: l)) {x:Int} (hx:hv (s :: l) x):s.xLo≤x:=by
 rcases (ub _ _ _).1 hx with e | e
 ·exact e.1
 ·have:=zd5 h e
  have:=h.1 s (by simp)
  omega
theorem zav {l m:List zj} (hl:NF l) (hm:NF m) (h:∀ s∈l,∀ t∈m,s.xHi+1<t.xLo):NF (l++m) :=
 ⟨fun s hs=>(List.mem_append.1 hs).elim (hl.1 s) (hm.1 s),List.pairwise_append.2 ⟨hl.2,hm.2,h⟩⟩
theorem VY {s:zj} (h:s.xLo≤s.xHi):NF [s]:=⟨by simpa using h,by simp⟩
theorem zne:∀ {a b:List zj},NF a→NF b→(∀ x,hv a x↔hv b x)→a=b
 | [],[],_,_,_=>rfl
 | [],t :: b,_,hb,h=>absurd ((h t.xLo).2 ((ub _ _ _).2 (.inl ⟨Int.le_refl _,hb.1 t (by simp)⟩))) (ZE _)
 | s :: a,[],ha,_,h=>absurd ((h s.xLo).1 ((ub _ _ _).2 (.inl ⟨Int.le_refl _,ha.1 s (by simp)⟩))) (ZE _)
 | s :: a,t :: b,ha,hb,h=>by
  have h1:=ha.1 s (by simp)
  have h2:=hb.1 t (by simp)
  have l1:t.xLo≤s.xLo:=zdH hb ((h _).1 ((ub _ _ _).2 (.inl ⟨Int.le_refl _,h1⟩)))
  have l2:s.xLo≤t.xLo:=zdH ha ((h _).2 ((ub _ _ _).2 (.inl ⟨Int.le_refl _,h2⟩)))
  have u1:¬ s.xHi<t.xHi:=fun hlt=>by
   have:=(h (s.xHi+1)).2 ((ub _ _ _).2 (.inl ⟨by omega,by omega⟩))
   rcases (ub _ _ _).1 this with e | e
   ·omega
   ·have:=zd5 ha e;omega
  have u2:¬ t.xHi<s.xHi:=fun hlt=>by
   have:=(h (t.xHi+1)).1 ((ub _ _ _).2 (.inl ⟨by omega,by omega⟩))
   rcases (ub _ _ _).1 this with e | e
   ·omega
   ·have:=zd5 hb e;omega
  have e:s=t:=by
   apply zj.ext <;> omega
  subst e
  rw [zne (zaj ha) (zaj hb) (fun x=>?_)]
  have:=h x
  rw [ub,ub] at this
  constructor
  ·intro hx
   have g:=zd5 ha hx
   rcases this.1 (.inr hx) with e | e
   ·omega
   ·exact e
  ·intro hx
   have g:=zd5 hb hx
   rcases this.2 (.inr hx) with e | e
   ·omega
   ·exact e
def zow:List (Int×Int)→List zj→Int→Int→List zj
 | [],out,_,_=>out
 | e :: es,out,d,st=>zow es (if d+e.2=0 then out++[zj.mk (if d=0 then e.1 else st) (e.1 - 1)] else out) (d+e.2) (if d=0 then e.1 else st)
def stp (l:List (Int×Int)):Int:=(l.map (·.2)).sum
def zbv:List zj→zj→List zj→Bool→List zj×zj×Bool
 | [],s,out,pl=>(out,s,pl)
 | x :: xs,s,out,pl =>
  if x.xHi+1<s.xLo then zbv xs s (out++[x]) pl
  else if s.xHi+1<x.xLo then zbv xs s ((if pl then out else out++[s])++[x]) true
  else zbv xs (zj.mk (min s.xLo x.xLo) (max s.xHi x.xHi)) out pl
def zdq (l:List zj) (s:zj):List zj :=
 match zbv l s [] false with
 | (out,s',pl)=>if pl then out else out++[s']
theorem zfA:∀ (l:List zj) (s:zj) (out:List zj) (pl:Bool),NF l→s.xLo≤s.xHi→NF out →
  (pl=false→(∀ t∈out,t.xHi+1<s.xLo)∧(∀ t∈out,∀ u∈l,t.xHi+1<u.xLo)) →
  (pl=true→(∀ t∈out,∀ u∈l,t.xHi+1<u.xLo)∧(∀ u∈l,s.xHi+1<u.xLo)∧s∈out) →
  NF (match zbv l s out pl with | (o,s',p)=>if p then o else o++[s'])∧∀ x,hv (match zbv l s out pl with | (o,s',p)=>if p then o else o++[s']) x↔hv out x∨hv l x∨(s.xLo≤x∧x≤s.xHi)
 | [],s,out,pl,hl,hs,ho,h0,h1=>by
  simp only [zbv]
  cases pl with
  | true =>
   simp only [if_true]
   obtain ⟨_,_,hm⟩:=h1 rfl
   refine ⟨ho,fun x=>⟨.inl,?_⟩⟩
   rintro (q | q | q)
   ·exact q
   ·exact absurd q (ZE x)
   ·exact ⟨s,hm,q⟩
  | false =>
   simp only [Bool.false_eq_true,if_false]
   obtain ⟨ha,_⟩:=h0 rfl
   refine ⟨zav ho (VY hs) (fun t ht u hu=>by simp at hu;subst hu;exact ha t ht),fun x=>?_⟩
   rw [zaz,ub]
   simp [ZE]
 | y :: l,s,out,pl,hl,hs,ho,h0,h1=>by
  have hy:=hl.1 y (by simp)
  have hgap:=(List.pairwise_cons.1 hl.2).1
  have hl':=zaj hl
  unfold zbv
  by_cases c1:y.xHi+1<s.xLo
  ·rw [if_pos c1]
   have hpl:pl=false:=by
    cases pl with
    | false=>rfl
    | true=>have:=(h1 rfl).2.1 y (by simp);omega
   subst hpl
   obtain ⟨a1,a2⟩:=h0 rfl
   have ih:=zfA l s (out++[y]) false hl' hs (zav ho (VY hy) (fun t ht u hu=>by simp at hu;subst hu;exact a2 t ht u (by simp)))
    (fun _=>⟨fun t ht=>by
     rcases List.mem_append.1 ht with q | q
     ·exact a1 t q
     ·simp at q;subst q;exact c1,fun t ht u hu=>by
     rcases List.mem_append.1 ht with q | q
     ·exact a2 t q u (by simp [hu])
     ·simp at q;subst q;exact hgap u hu⟩) (fun h=>by simp at h)
   refine ⟨ih.1,fun x=>?_⟩
   rw [ih.2 x,zaz,ub,ub]
   simp only [ZE,or_false]
   constructor
   ·rintro ((q | q) | q | q)
    ·exact .inl q
    ·exact .inr (.inl (.inl q))
    ·exact .inr (.inl (.inr q))
    ·exact .inr (.inr q)
   ·rintro (q | (q | q) | q)
    ·exact .inl (.inl q)
    ·exact .inl (.inr q)
    ·exact .inr (.inl q)
    ·exact .inr (.inr q)
  ·rw [if_neg c1]
   by_cases c2:s.xHi+1<y.xLo
   ·rw [if_pos c2]
    cases pl with
    | true =>
     simp only [if_true]
     obtain ⟨a1,a2,a3⟩:=h1 rfl
     have ih:=zfA l s (out++[y]) true hl' hs (zav ho (VY hy) (fun t ht u hu=>by simp at hu;subst hu;exact a1 t ht u (by simp))) (fun h=>by simp at h)
      (fun _=>⟨fun t ht u hu=>by
       rcases List.mem_append.1 ht with q | q
       ·exact a1 t q u (by simp [hu])
       ·simp at q;subst q;exact hgap u hu,fun u hu=>a2 u (by simp [hu]),by simp [a3]⟩)
     refine ⟨ih.1,fun x=>?_⟩
     rw [ih.2 x,zaz,ub,ub]
     simp only [ZE,or_false]
     constructor
     ·rintro ((q | q) | q | q)
      ·exact .inl q
      ·exact .inr (.inl (.inl q))
      ·exact .inr (.inl (.inr q))
      ·exact .inr (.inr q)
     ·rintro (q | (q | q) | q)
      ·exact .inl (.inl q)
      ·exact .inl (.inr q)
      ·exact .inr (.inl q)
      ·exact .inr (.inr q)
    | false =>
     simp only [Bool.false_eq_true,if_false]
     obtain ⟨a1,a2⟩:=h0 rfl
     have n1:NF (out++[s]):=zav ho (VY hs) (fun t ht u hu=>by simp at hu;subst hu;exact a1 t ht)
     have ih:=zfA l s ((out++[s])++[y]) true hl' hs (zav n1 (VY hy) (fun t ht u hu=>by
       simp at hu;subst hu
       rcases List.mem_append.1 ht with q | q
       ·exact a2 t q u (by simp)
       ·simp at q;subst q;exact c2)) (fun h=>by simp at h)
      (fun _=>⟨fun t ht u hu=>by
       have hg:=hgap u hu
       rcases List.mem_append.1 ht with q | q
       ·rcases List.mem_append.1 q with q | q
        ·exact a2 t q u (by simp [hu])
        ·simp at q;subst q;omega
       ·simp at q;subst q;exact hg,fun u hu=>by have:=hgap u hu;omega,by simp⟩)
     refine ⟨ih.1,fun x=>?_⟩
     rw [ih.2 x,zaz,zaz,ub,ub,ub]
     simp only [ZE,or_false]
     constructor
     ·rintro (((q | q) | q) | q | q)
      ·exact .inl q
      ·exact .inr (.inr q)
      ·exact .inr (.inl (.inl q))
      ·exact .inr (.inl (.inr q))
      ·exact .inr (.inr q)
     ·rintro (q | (q | q) | q)
      ·exact .inl (.inl (.inl q))
      ·exact .inl (.inr q)
      ·exact .inr (.inl q)
      ·exact .inr (.inr q)
   ·rw [if_neg c2]
    have hpl:pl=false:=by
     cases pl with
     | false=>rfl
     | true=>have:=(h1 rfl).2.1 y (by simp);omega
    subst hpl
    obtain ⟨a1,a2⟩:=h0 rfl
    have ih:=zfA l (zj.mk (min s.xLo y.xLo) (max s.xHi y.xHi)) out false hl' (by simp only;omega) ho
     (fun _=>⟨fun t ht=>by
      have:=a1 t ht;have:=a2 t ht y (by simp)
      simp only;omega,fun t ht u hu=>a2 t ht u (by simp [hu])⟩) (fun h=>by simp at h)
    refine ⟨ih.1,fun x=>?_⟩
    rw [ih.2 x,ub]
    simp only
    constructor
    ·rintro (q | q | q)
     ·exact .inl q
     ·exact .inr (.inl (.inr q))
     ·by_cases c3:y.xLo≤x∧x≤y.xHi
      ·exact .inr (.inl (.inl c3))
      ·exact .inr (.inr (by omega))
    ·rintro (q | (q | q) | q)
     ·exact .inl q
     ·exact .inr (.inr (by omega))
     ·exact .inr (.inl q)
     ·exact .inr (.inr (by omega))
theorem zl8 {l:List zj} {s:zj} (hl:NF l) (hs:s.xLo≤s.xHi):NF (zdq l s)∧∀ x,hv (zdq l s) x↔hv l x∨(s.xLo≤x∧x≤s.xHi):=by
 have:=zfA l s [] false hl hs ziQ (fun _=>⟨by simp,by simp⟩) (fun h=>by simp at h)
 refine ⟨this.1,fun x=>?_⟩
 have:=this.2 x
 simp only [ZE,false_or] at this
 exact this
theorem zbx:∀ (xs l:List zj),NF l→(∀ s∈xs,s.xLo≤s.xHi)→NF (xs.foldl zdq l)∧∀ x,hv (xs.foldl zdq l) x↔hv l x∨hv xs x
 | [],l,hl,_=>⟨hl,fun x=>by simp [ZE]⟩
 | s :: xs,l,hl,h=>by
  obtain ⟨n1,e1⟩:=zl8 hl (h s (by simp))
  obtain ⟨n2,e2⟩:=zbx xs (zdq l s) n1 (fun t ht=>h t (List.mem_cons_of_mem _ ht))
  refine ⟨n2,fun x=>?_⟩
  rw [List.foldl_cons,e2 x,e1 x,ub]
  constructor
  ·rintro ((q | q) | q)
   ·exact .inl q
   ·exact .inr (.inl q)
   ·exact .inr (.inr q)
  ·rintro (q | q | q)
   ·exact .inl (.inl q)
   ·exact .inl (.inr q)
   ·exact .inr q
end
section
theorem jt {A B:Prop} (h:A):ifW true A B:=⟨fun _=>h,(fun e=>by cases e)⟩
theorem jK {A B:Prop} (h:B):ifW false A B:=⟨(fun e=>by cases e),fun _=>h⟩
theorem zi {c:Bool} {A B:Prop} (ht:c=true→A) (hf:c=false→B):ifW c A B:=⟨ht,hf⟩
@[simp] theorem xS {A B:Prop}:ifW true A B=A:=propext ⟨fun h=>h.1 rfl,jt⟩
@[simp] theorem xB {A B:Prop}:ifW false A B=B:=propext ⟨fun h=>h.2 rfl,jK⟩
theorem zz {x y:Int} {κ:Int→Prop} (h1:-9223372036854775808≤x+y) (h2:x+y≤9223372036854775807) (h:κ (x+y)):jh x y κ:=⟨⟨h1,h2⟩,h⟩
theorem ZY {x y:Int} {κ:Int→Prop} (h1:-9223372036854775808≤x - y) (h2:x - y≤9223372036854775807) (h:κ (x - y)):Ur x y κ:=⟨⟨h1,h2⟩,h⟩
theorem zjD {x y:Int} {κ:Int→Prop} (h1:-9223372036854775808≤x * y) (h2:x * y≤9223372036854775807) (h:κ (x * y)):zlh x y κ:=⟨⟨h1,h2⟩,h⟩
theorem zjr {x y:Int} {κ:Int→Prop} (h1:0≤x) (h2:x≤9223372036854775807) (h3:0<y) (h:κ (x / y)):zmu x y κ:=⟨h3,⟨by omega,h2⟩,by rw [Int.tdiv_eq_ediv_of_nonneg h1];exact h⟩
theorem zhG {x y:Int} {κ:Int→Prop} (h1:0≤x) (h2:x≤9223372036854775807) (h3:0<y) (h:κ (x % y)):zkO x y κ:=⟨h1,h3,⟨by omega,h2⟩,h⟩
theorem zp {α:Type} {xs:List α} {i:Int} {κ:α→Prop} (n:Nat) (hi:i=n) (hn:n<xs.length) (h:κ xs[n]):zI xs i κ:=by
 subst hi
 exact ⟨xs[n],by omega,by simp [hn],h⟩
theorem jj {α:Type} {xs ys:List α} {κ:List α→Prop} (h1:xs.length+ys.length≤4294967296) (h:κ (xs++ys)):jW xs ys κ:=⟨h1,h⟩
theorem V6 {α:Type} {z:α} {n m:Int} {κ:List α→Prop} (k:Nat) (hn:n=k) (h1:n≤m) (h2:m≤4294967296) (h:κ (List.replicate k z)):zbO z n m κ:=by
 subst hn
 refine ⟨by omega,h1,?_,by simpa using h⟩
 unfold zel
 omega
theorem zK {σ:Type} {F:(σ→Prop)→σ→Prop} (len:Nat) (pos:σ→Int) (I:Nat→σ→Prop) (hpos:∀ k s,I k s→pos s=k) (hle:∀ k s,I k s→k≤len)
  (h:∀ k s next,I k s→(k<len→∀ s',I (k+1) s'→next s')→F next s) {s:σ} (h0:I 0 s):z8 F s:=by
 refine yE (fun s=>∃ k,I k s) (fun s=>len - (pos s).toNat) (fun s next ⟨k,hk⟩ hn=>?_) ⟨0,h0⟩
 refine h k s next hk (fun hlt s' hs'=>hn s' ⟨k+1,hs'⟩ ?_)
 rw [hpos _ _ hk,hpos _ _ hs']
 omega
theorem Ud {σ:Type} {F:(σ→Prop)→σ→Prop} (k0 len:Nat) (pos:σ→Int) (I:Nat→σ→Prop) (hpos:∀ k s,I k s→pos s=k) (hle:∀ k s,I k s→k≤len)
  (h:∀ k s next,I k s→(k<len→∀ s',I (k+1) s'→next s')→F next s) {s:σ} (h0:I k0 s):z8 F s:=by
 refine yE (fun s=>∃ k,I k s) (fun s=>len - (pos s).toNat) (fun s next ⟨k,hk⟩ hn=>?_) ⟨k0,h0⟩
 refine h k s next hk (fun hlt s' hs'=>hn s' ⟨k+1,hs'⟩ ?_)
 rw [hpos _ _ hk,hpos _ _ hs']
 omega
theorem zky {α β:Type} (a:List α) (f:α→β) (hl:a.length≤4294967296) {κ:List β→Prop} (T:α→(β→Prop)→Prop) (hT:∀ x ψ,x∈a→ψ (f x)→T x ψ) (hκ:κ (a.map f)) {xs:List β} (hx:xs.length=a.length)
  (F:(List β×Int→Prop)→List β×Int→Prop)
  (hF:∀ nx xs t,(ifW (decide (t<(a.length:Int))) (zI a t (fun e=>T e (fun r=>zI xs t (fun _=>jh t 1 (fun u=>nx (xs.set t.toNat r,u)))))) (κ xs))→F nx (xs,t)):z8 F (xs,0):=by
 refine zK a.length (fun s=>s.2) (fun k s=>s.2=(k:Int)∧k≤a.length∧s.1.length=a.length∧∀ i,i<k→s.1[i]?=(a.map f)[i]?) (fun k s h=>h.1) (fun k s h=>h.2.1) ?_ ⟨rfl,Nat.zero_le _,hx,fun i hi=>by omega⟩
 rintro k ⟨ys,t⟩ next ⟨rfl,hk,hy,hi⟩ hn
 simp only at hy hi
 refine hF _ _ _ (zi (fun hc=>?_) (fun hc=>?_))
 ·have hlt:k<a.length:=by simpa using hc
  refine zp k rfl hlt (hT _ _ (List.getElem_mem hlt) (zp k rfl (by omega) (zz (by omega) (by omega) (hn hlt _ ?_))))
  refine ⟨by simp,by omega,by simpa using hy,fun i hi'=>?_⟩
  simp only [Int.toNat_natCast]
  by_cases e:i=k
  ·subst e
   simp [hy,hlt]
  ·rw [List.getElem?_set_ne (by omega)]
   exact hi i (by omega)
 ·have hge:a.length≤k:=by simpa using hc
  have:ys=a.map f:=by
   apply List.ext_getElem?
   intro i
   by_cases h:i<k
   ·exact hi i h
   ·rw [List.getElem?_eq_none (by omega),List.getElem?_eq_none (by simp;omega)]
  rw [this];exact hκ
theorem zjQ {α:Type} [DecidableEq α] (a b:List α) (hab:a.length=b.length) (hl:a.length≤4294967296) {κ:Bool→Prop} (T:α→α→Prop→Prop) (hT:∀ x y A,(x=y→A)→(x≠y→κ false)→T x y A) (hκ:κ (decide (a=b)))
  (F:(Int→Prop)→Int→Prop) (hF:∀ nx t,(ifW (decide (t<(a.length:Int))) (zI a t (fun x=>zI b t (fun y=>T x y (jh t 1 (fun u=>nx u))))) (κ true))→F nx t):z8 F 0:=by
 refine zK a.length (fun s=>s) (fun k s=>s=(k:Int)∧k≤a.length∧a.take k=b.take k) (fun k s h=>h.1) (fun k s h=>h.2.1) ?_ ⟨rfl,Nat.zero_le _,by simp⟩
 rintro k _ next ⟨rfl,hk,he⟩ hn
 refine hF _ _ (zi (fun hc=>?_) (fun hc=>?_))
 ·have hlt:k<a.length:=by simpa using hc
  refine zp k rfl hlt (zp k rfl (by omega) (hT _ _ _ (fun e=>zz (by omega) (by omega) (hn hlt _ ⟨by simp,by omega,?_⟩)) (fun e=>?_)))
  ·rw [List.take_succ_eq_append_getElem hlt,List.take_succ_eq_append_getElem (by omega),he,e]
  ·have:a≠b:=fun h=>by subst h;exact e rfl
   rw [decide_eq_false this] at hκ;exact hκ
 ·have hge:a.length≤k:=by simpa using hc
  have:a=b:=by
   rw [List.take_of_length_le hge,List.take_of_length_le (by omega)] at he
   exact he
  rw [decide_eq_true this] at hκ;exact hκ
def zpl {α:Type} (f:Int→α) (k:Int) (n:Nat):List α:=(List.range n).map fun (i:Nat)=>f (k+(i:Int))
end
section
open Go Go.Proofs
instance (l:List zj) (x:Int):Decidable (hv l x):=by unfold hv;infer_instance
def St (l:List zj) (top:Int):Prop:=NF l∧∀ s∈l,0≤s.xLo∧s.xHi≤top
theorem znC (top:Int):St [] top:=⟨ziQ,by simp⟩
theorem zmc {a b:List zj} {t u:Int} (ha:St a t) (hb:St b u) (h:∀ x,hv a x↔hv b x):a=b:=zne ha.1 hb.1 h
theorem Xh {l:List zj} {top x:Int} (h:St l top) (hx:hv l x):0≤x∧x≤top:=by
 obtain ⟨s,hs,e1,e2⟩:=hx
 have:=h.2 s hs
 omega
theorem zgw:∀ (l:List zj) (top lo:Int),NF l→(∀ s∈l,lo≤s.xLo∧s.xHi≤top)→lo≤top+2→2 * (l.length:Int)≤top+2 - lo
 | [],top,lo,_,_,h=>by simp;omega
 | s :: l,top,lo,hn,hr,h=>by
  have h0:=hr s (by simp)
  have h1:=hn.1 s (by simp)
  have:=zgw l top (s.xHi+2) (zaj hn) (fun t ht=>⟨by have:=(List.pairwise_cons.1 hn.2).1 t ht;omega,(hr t (List.mem_cons_of_mem _ ht)).2⟩) (by omega)
  simp only [List.length_cons]
  omega
theorem VU {l:List zj} {top:Int} (h:St l top) (ht:-2≤top):2 * (l.length:Int)≤top+2:=by
 have:=zgw l top 0 h.1 h.2 (by omega)
 omega
def UI (x y:zj):List zj:=if max x.xLo y.xLo≤min x.xHi y.xHi then [zj.mk (max x.xLo y.xLo) (min x.xHi y.xHi)] else []
def ja (a b:List zj):List zj:=a.flatMap fun x=>b.flatMap (UI x)
theorem zbr {x y t:zj}:t∈UI x y↔max x.xLo y.xLo≤min x.xHi y.xHi∧t=zj.mk (max x.xLo y.xLo) (min x.xHi y.xHi):=by
 unfold UI;split <;> simp [*]
theorem zb4 {a b:List zj} {t:zj}:t∈ja a b↔∃ x∈a,∃ y∈b,max x.xLo y.xLo≤min x.xHi y.xHi∧t=zj.mk (max x.xLo y.xLo) (min x.xHi y.xHi):=by
 simp only [ja,List.mem_flatMap,zbr]
theorem VM (a b:List zj) (n:Int):hv (ja a b) n↔hv a n∧hv b n:=by
 constructor
 ·rintro ⟨t,ht,h1,h2⟩
  obtain ⟨x,hx,y,hy,_,rfl⟩:=zb4.1 ht
  simp only at h1 h2
  exact ⟨⟨x,hx,by omega,by omega⟩,⟨y,hy,by omega,by omega⟩⟩
 ·rintro ⟨⟨x,hx,h1,h2⟩,⟨y,hy,h3,h4⟩⟩
  exact ⟨_,zb4.2 ⟨x,hx,y,hy,by omega,rfl⟩,by simp only;omega,by simp only;omega⟩
theorem zlO {x:zj}:∀ {b:List zj},NF b→NF (b.flatMap (UI x))
 | [],_=>by simp [NF]
 | y :: b,h=>by
  rw [List.flatMap_cons]
  have hy:=(List.pairwise_cons.1 h.2).1
  refine zav ⟨fun t ht=>?_,?_⟩ (zlO (zaj h)) (fun t ht u hu=>?_)
  ·obtain ⟨h1,rfl⟩:=zbr.1 ht;exact h1
  ·unfold UI;split <;> simp
  ·obtain ⟨h1,rfl⟩:=zbr.1 ht
   obtain ⟨z,hz,hu⟩:=List.mem_flatMap.1 hu
   obtain ⟨h2,rfl⟩:=zbr.1 hu
   have:=hy z hz
   simp only;omega
theorem zdr:∀ {a b:List zj},NF a→NF b→NF (ja a b)
 | [],b,_,_=>by simp [ja,NF]
 | x :: a,b,ha,hb=>by
  have e:ja (x :: a) b=b.flatMap (UI x)++ja a b:=by simp [ja]
  rw [e]
  refine zav (zlO hb) (zdr (zaj ha) hb) (fun t ht u hu=>?_)
  obtain ⟨y,hy,ht⟩:=List.mem_flatMap.1 ht
  obtain ⟨h1,rfl⟩:=zbr.1 ht
  obtain ⟨z,hz,y',hy',h2,rfl⟩:=zb4.1 hu
  have:=(List.pairwise_cons.1 ha.2).1 z hz
  simp only;omega
theorem XN {a b:List zj} {top:Int} (ha:St a top) (hb:NF b):St (ja a b) top:=by
 refine ⟨zdr ha.1 hb,fun t ht=>?_⟩
 obtain ⟨x,hx,y,hy,_,rfl⟩:=zb4.1 ht
 have:=ha.2 x hx
 have:=hb.1 y hy
 simp only;omega
def U1:List zj→Int→Int→List zj
 | [],at_,top=>if at_≤top then [zj.mk at_ top] else []
 | s :: l,at_,top=>(if at_<s.xLo then [zj.mk at_ (s.xLo - 1)] else [])++U1 l (s.xHi+1) top
def ZL (a:List zj) (top:Int):List zj:=U1 a 0 top
theorem zf5:∀ (a:List zj) (c top:Int),NF a→(∀ s∈a,c≤s.xLo∧s.xHi≤top) →
  NF (U1 a c top)∧(∀ s∈U1 a c top,c≤s.xLo∧s.xHi≤top)∧∀ x,hv (U1 a c top) x↔c≤x∧x≤top∧¬ hv a x
 | [],c,top,_,_=>by
  unfold U1
  split
  ·refine ⟨VY (by simpa using ‹_›),by simp,fun x=>?_⟩
   rw [ub];simp [ZE]
  ·refine ⟨ziQ,by simp,fun x=>?_⟩
   simp only [ZE,false_iff]
   omega
 | s :: l,c,top,hn,hr=>by
  have h0:=hr s (by simp)
  have h1:=hn.1 s (by simp)
  have hg:=(List.pairwise_cons.1 hn.2).1
  obtain ⟨i1,i2,i3⟩:=zf5 l (s.xHi+1) top (zaj hn) (fun t ht=>⟨by have:=hg t ht;omega,(hr t (List.mem_cons_of_mem _ ht)).2⟩)
  unfold U1
  have hx0:∀ x,x≤s.xHi+1→¬ hv l x:=fun x hx hh=>by have:=zd5 hn hh;omega
  split
  ·refine ⟨zav (VY (by simp only;omega)) i1 (fun t ht u hu=>by simp at ht;subst ht;have:=i2 u hu;simp only;omega),fun t ht=>?_,fun x=>?_⟩
   ·rcases List.mem_append.1 ht with q | q
    ·simp at q;subst q;simp only;omega
    ·have:=i2 t q;omega
   ·rw [zaz,ub,i3,ub]
    simp only [ZE,or_false]
    constructor
    ·rintro (q | ⟨q1,q2,q3⟩)
     ·exact ⟨by omega,by omega,fun h=>by
       rcases h with h | h
       ·omega
       ·exact hx0 x (by omega) h⟩
     ·exact ⟨by omega,q2,fun h=>by
       rcases h with h | h
       ·omega
       ·exact q3 h⟩
    ·rintro ⟨q1,q2,q3⟩
     by_cases h:x<s.xLo
     ·exact .inl (by omega)
     ·exact .inr ⟨by
       rcases Int.lt_or_le s.xHi x with g | g
       ·omega
       ·exact absurd (Or.inl ⟨by omega,g⟩) q3,q2,fun h=>q3 (.inr h)⟩
  ·refine ⟨by simpa using i1,fun t ht=>?_,fun x=>?_⟩
   ·have:=i2 t (by simpa using ht);omega
   ·rw [List.nil_append,i3,ub]
    constructor
    ·rintro ⟨q1,q2,q3⟩
     exact ⟨by omega,q2,fun h=>by
       rcases h with h | h
       ·omega
       ·exact q3 h⟩
    ·rintro ⟨q1,q2,q3⟩
     exact ⟨by
       rcases Int.lt_or_le s.xHi x with g | g
       ·omega
       ·exact absurd (Or.inl ⟨by omega,g⟩) q3,q2,fun h=>q3 (.inr h)⟩
theorem Uq {a:List zj} {top:Int} (h:St a top):St (ZL a top) top:=by
 obtain ⟨h1,h2,_⟩:=zf5 a 0 top h.1 h.2
 exact ⟨h1,h2⟩
theorem zgv {a:List zj} {top:Int} (h:St a top) (x:Int):hv (ZL a top) x↔0≤x∧x≤top∧¬ hv a x:=(zf5 a 0 top h.1 h.2).2.2 x
def Yy (a b:List zj):List zj:=b.foldl zdq a
theorem zdZ {a b:List zj} {top:Int} (ha:St a top) (hb:St b top) (x:Int):hv (Yy a b) x↔hv a x∨hv b x:=(zbx b a ha.1 hb.1.1).2 x
theorem zap {l:List zj} {s:zj} (h:NF l) (hs:s∈l):hv l s.xLo∧hv l s.xHi:=⟨⟨s,hs,Int.le_refl _,h.1 s hs⟩,⟨s,hs,h.1 s hs,Int.le_refl _⟩⟩
theorem zd8 {a b:List zj} {top:Int} (ha:St a top) (hb:St b top):St (Yy a b) top:=by
 have hn:NF (Yy a b):=(zbx b a ha.1 hb.1.1).1
 refine ⟨hn,fun s hs=>?_⟩
 obtain ⟨e1,e2⟩:=zap hn hs
 rw [zdZ ha hb] at e1 e2
 constructor
 ·rcases e1 with e | e
  ·exact (Xh ha e).1
  ·exact (Xh hb e).1
 ·rcases e2 with e | e
  ·exact (Xh ha e).2
  ·exact (Xh hb e).2
theorem zly (a:List zj) (c:Int) (hl:a.length≤4294967296) {i0:Nat} (h0:i0≤a.length) (hb:∀ s∈a.take i0,s.xHi<c) (REST:Int→Prop)
  (hR:∀ i:Nat,i≤a.length→(∀ s∈a.take i,s.xHi<c)→(∀ h:i<a.length,c≤a[i].xHi)→REST i)
  (F:(Int→Prop)→Int→Prop) (hF:∀ nx t,(jnW (fun (b:Bool)=>ifW b (jh t 1 (fun u=>nx u)) (REST t)) (fun k=>ifW (decide (t<(a.length:Int))) (zI a t (fun e=>k (decide (e.xHi<c)))) (k false)))→F nx t):z8 F (i0:Int):=by
 refine Ud i0 a.length (fun s=>s) (fun k s=>s=(k:Int)∧k≤a.length∧∀ s∈a.take k,s.xHi<c) (fun k s h=>h.1) (fun k s h=>h.2.1) ?_ ⟨rfl,h0,hb⟩
 rintro k _ next ⟨rfl,hk,he⟩ hn
 refine hF _ _ ?_
 unfold jnW
 refine zi (fun hc=>?_) (fun hc=>?_)
 ·have hlt:k<a.length:=by simpa using hc
  refine zp k rfl hlt (zi (fun hd=>?_) (fun hd=>?_))
  ·refine zz (by omega) (by omega) (hn hlt _ ⟨by simp,by omega,fun s hs=>?_⟩)
   rw [List.take_succ_eq_append_getElem hlt] at hs
   rcases List.mem_append.1 hs with q | q
   ·exact he s q
   ·simp at q;subst q;simpa using hd
  ·exact hR k hk he (fun _=>by simpa using hd)
 ·refine jK (hR k hk he (fun h=>?_))
  have:a.length≤k:=by simpa using hc
  omega
theorem zjk {a:List zj} {i:Nat} {c x:Int} (h:∀ s∈a.take i,s.xHi<c) (hx:c≤x):hv a x↔hv (a.drop i) x:=by
 have e:=zaz (a.take i) (a.drop i) x
 rw [List.take_append_drop] at e
 rw [e]
 constructor
 ·rintro (⟨s,hs,q1,q2⟩ | q)
  ·have:=h s hs;omega
  ·exact q
 ·exact .inr
def stF (l:List zj) (c top:Int):Bool×Int :=
 match l with
 | []=>(false,top)
 | s :: _=>if c<s.xLo then (false,s.xLo - 1) else (true,s.xHi)
theorem zgH {l:List zj} {c top:Int} {κ:Bool×Int→Prop} (hb:∀ s∈l,0≤s.xLo∧s.xHi≤9223372036854775807) (hn:NF l) (h:κ (stF l c top)):uI l c top κ:=by
 unfold uI
 cases l with
 | nil=>exact jt h
 | cons s l =>
  have:=hb s (by simp)
  have:=hn.1 s (by simp)
  refine zi (fun e=>by simp at e;omega) (fun _=>zp 0 rfl (by simp) (zi (fun e=>zp 0 rfl (by simp) (ZY (by simp only [List.getElem_cons_zero];omega) (by simp only [List.getElem_cons_zero];omega) ?_)) (fun e=>zp 0 rfl (by simp) ?_)))
  ·simp only [stF] at h
   rw [if_pos (by simpa using e)] at h
   exact h
  ·simp only [stF] at h
   rw [if_neg (by simpa using e)] at h
   exact h
theorem zia {l:List zj} {c top:Int} (h:NF l) (hb:∀ s∈l,s.xHi≤top) (hc:c≤top) (hf:∀ s∈l.head?,c≤s.xHi) :
  c≤(stF l c top).2∧(stF l c top).2≤top∧∀ x,c≤x→x≤(stF l c top).2→(hv l x↔(stF l c top).1=true):=by
 cases l with
 | nil=>exact ⟨hc,Int.le_refl _,fun x _ _=>by simp [stF,ZE]⟩
 | cons s l =>
  have h0:=hb s (by simp)
  have h1:=h.1 s (by simp)
  have h2:=hf s (by simp)
  unfold stF
  simp only
  split
  ·refine ⟨by simp only;omega,by simp only;omega,fun x q1 q2=>?_⟩
   simp only at q2
   simp only [Bool.false_eq_true,iff_false]
   intro hh
   have:=zdH h hh
   omega
  ·refine ⟨h2,h0,fun x q1 q2=>?_⟩
   simp only at q2
   simp only [iff_true]
   exact (ub _ _ _).2 (.inl ⟨by omega,q2⟩)
theorem zcN:∀ {a:List zj} (i:Nat),NF a→NF (a.drop i):=fun {a} i h=>⟨fun s hs=>h.1 s (List.mem_of_mem_drop hs),h.2.drop⟩
theorem zgV {a:List zj} {i:Nat} {c:Int} (h:∀ q:i<a.length,c≤a[i].xHi):∀ s∈(a.drop i).head?,c≤s.xHi:=by
 intro s hs
 rw [List.head?_drop] at hs
 obtain ⟨hlt,e⟩:=List.getElem?_eq_some_iff.1 hs
 rw [← e];exact h hlt
theorem zcr (keep:Bool→Bool→Bool) {a b:List zj} {top:Int} (ha:St a top) (hb:St b top) (ht0:-2≤top) (ht:top≤65535) {κ:List zj→Prop}
  (hκ:∀ r,St r top→(∀ x,0≤x→x≤top→(hv r x↔keep (decide (hv a x)) (decide (hv b x))=true))→κ r)
  (K:Bool→Bool→(Bool→Prop)→Prop) (hK:∀ p q φ,φ (keep p q)→K p q φ)
  (F:(List zj×Int×Int×Int→Prop)→List zj×Int×Int×Int→Prop)
  (hF:∀ nx xs8 t11 t12 t13,(ifW (decide (t13≤top)) (z8 (fun (nx16:Int→Prop) (t15:Int)=>jnW (fun (t79:Bool)=>ifW t79 (jh t15 1 (fun t81=>nx16 t81)) (z8 (fun (nx83:Int→Prop) (t82:Int)=>jnW (fun (t146:Bool)=>ifW t146 (jh t82 1 (fun t148=>nx83 t148)) (X3 a t15 (a.length:Int) (fun xs150=>uI xs150 t13 top (fun (r153,r154)=>X3 b t82 (b.length:Int) (fun xs156=>uI xs156 t13 top (fun (r159,r160)=>jnW (fun (xs296:(List zj))=>jh (min r154 r160) 1 (fun t300=>nx (xs296,t15,t82,t300))) (fun k299=>K r153 r159 (fun r161=>ifW r161 (jnW (fun (t226:Bool)=>ifW t226 (Ur (xs8.length:Int) 1 (fun t228=>zI xs8 t228 (fun e229=>k299 (xs8.set (t228).toNat (zj.mk e229.xLo (min r154 r160)))))) (jW xs8 ([(zj.mk t13 (min r154 r160))]) (fun _=>k299 (xs8++([(zj.mk t13 (min r154 r160))]))))) (fun k227=>ifW (decide (0<(xs8.length:Int))) (Ur (xs8.length:Int) 1 (fun t162=>zI xs8 t162 (fun e163=>jh e163.xHi 1 (fun t165=>k227 (decide (t165=t13)))))) (k227 false))) (k299 xs8))))))))) (fun k147=>ifW (decide (t82<(b.length:Int))) (zI b t82 (fun e84=>k147 (decide (e84.xHi<t13)))) (k147 false))) t12)) (fun k80=>ifW (decide (t15<(a.length:Int))) (zI a t15 (fun e17=>k80 (decide (e17.xHi<t13)))) (k80 false))) t11) (κ xs8))→F nx (xs8,t11,t12,t13)) :
  z8 F ([],0,0,0):=by
 have la:=VU ha ht0
 have lb:=VU hb ht0
 refine yE (fun (s:List zj×Int×Int×Int)=>∃ i j:Nat,s.2.1=i∧s.2.2.1=j∧i≤a.length∧j≤b.length∧0≤s.2.2.2∧(top<s.2.2.2→s.2.2.2=top+1∨s.2.2.2=0)∧(∀ u∈a.take i,u.xHi<s.2.2.2)∧(∀ u∈b.take j,u.xHi<s.2.2.2)∧St s.1 top∧(∀ u∈s.1,u.xHi<s.2.2.2)∧(∀ x,0≤x→x<s.2.2.2→(hv s.1 x↔keep (decide (hv a x)) (decide (hv b x))=true)))
  (fun s=>(top+1 - s.2.2.2).toNat) ?_ ⟨0,0,rfl,rfl,Nat.zero_le _,Nat.zero_le _,Int.le_refl _,fun _=>.inr rfl,by simp,by simp,znC _,by simp,fun x h1 h2=>by simp only at h2;omega⟩
 rintro ⟨out,_,_,c⟩ next ⟨i,j,rfl,rfl,hi,hj,hc0,hc1,hai,hbj,ho,hoc,hk⟩ hn
 simp only at hc0 hc1 hai hbj ho hoc hk
 have lo:=VU ho ht0
 refine hF _ _ _ _ _ (zi (fun hc=>?_) (fun hc=>?_))
 rotate_left 1
 ·have hc':top<c:=by simpa using hc
  refine hκ out ho (fun x h1 h2=>hk x h1 (by omega))
 have hc':c≤top:=by simpa using hc
 refine zly a c (by omega) hi hai _ (fun i' hi' hai' hai2=>?_) _ (fun _ _ h=>h)
 refine zly b c (by omega) hj hbj _ (fun j' hj' hbj' hbj2=>?_) _ (fun _ _ h=>h)
 have mema:∀ s∈a.drop i',0≤s.xLo∧s.xHi≤top:=fun s hs=>ha.2 s (List.mem_of_mem_drop hs)
 have memb:∀ s∈b.drop j',0≤s.xLo∧s.xHi≤top:=fun s hs=>hb.2 s (List.mem_of_mem_drop hs)
 refine ⟨by omega,by omega,by omega,?_⟩
 rw [show (a.take (a.length:Int).toNat).drop (i':Int).toNat=a.drop i' by simp]
 refine zgH (fun s hs=>⟨(mema s hs).1,by have:=(mema s hs).2;omega⟩) (zcN _ ha.1) ?_
 obtain ⟨a1,a2,a3⟩:=zia (zcN i' ha.1) (fun s hs=>(mema s hs).2) hc' (zgV hai2)
 generalize stF (a.drop i') c top=p at a1 a2 a3
 obtain ⟨inA,endA⟩:=p
 simp only at a1 a2 a3 ⊢
 refine ⟨by omega,by omega,by omega,?_⟩
 rw [show (b.take (b.length:Int).toNat).drop (j':Int).toNat=b.drop j' by simp]
 refine zgH (fun s hs=>⟨(memb s hs).1,by have:=(memb s hs).2;omega⟩) (zcN _ hb.1) ?_
 obtain ⟨b1,b2,b3⟩:=zia (zcN j' hb.1) (fun s hs=>(memb s hs).2) hc' (zgV hbj2)
 generalize stF (b.drop j') c top=p at b1 b2 b3
 obtain ⟨inB,endB⟩:=p
 simp only at b1 b2 b3 ⊢
 have hke:∀ x,c≤x→x≤min endA endB→(keep (decide (hv a x)) (decide (hv b x))=keep inA inB):=fun x q1 q2=>by
  have e1:decide (hv a x)=inA:=by
   have:=a3 x q1 (by omega)
   rw [← zjk hai' q1] at this
   cases inA <;> simpa using this
  have e2:decide (hv b x)=inB:=by
   have:=b3 x q1 (by omega)
   rw [← zjk hbj' q1] at this
   cases inB <;> simpa using this
  rw [e1,e2]
 unfold jnW
 generalize hm:min endA endB=m at hke ⊢
 have m1:c≤m:=by omega
 have m2:m≤top:=by omega
 have fin:∀ out',St out' top→(∀ u∈out',u.xHi≤m)→(∀ x,0≤x→x≤m→(hv out' x↔keep (decide (hv a x)) (decide (hv b x))=true))→jh m 1 (fun t300=>next (out',(i':Int),(j':Int),t300)):=fun out' h1 h2 h3 =>
  zz (by omega) (by omega) (hn _ ⟨i',j',rfl,rfl,hi',hj',by simp only;omega,fun _=>.inl (by simp only at *;omega),fun u hu=>by have:=hai' u hu;simp only;omega,fun u hu=>by have:=hbj' u hu;simp only;omega,h1,fun u hu=>by have:=h2 u hu;simp only;omega,fun x q1 q2=>h3 x q1 (by simp only at q2;omega)⟩ (by simp only;omega))
 refine hK _ _ _ (zi (fun hkt=>?_) (fun hkf=>?_))
 ·
  have app:(∀ u∈out,u.xHi+1<c)→jW out ([(zj.mk c m)]) (fun _=>jh m 1 (fun t300=>next (out++[zj.mk c m],(i':Int),(j':Int),t300))):=fun hg =>
   jj (by simp;omega) (fin _ ⟨zav ho.1 (VY (by simpa using m1)) (fun s hs t ht=>by simp at ht;subst ht;exact hg s hs),fun s hs=>by
    rcases List.mem_append.1 hs with q | q
    ·exact ho.2 s q
    ·simp at q;subst q;exact ⟨hc0,m2⟩⟩ (fun u hu=>by
    rcases List.mem_append.1 hu with q | q
    ·have:=hoc u q;omega
    ·simp at q;subst q;exact Int.le_refl _) (fun x q1 q2=>by
    rw [zaz,ub]
    simp only [ZE,or_false]
    by_cases hx:x<c
    ·rw [← hk x q1 hx]
     constructor
     ·rintro (q | q)
      ·exact q
      ·omega
     ·exact .inl
    ·rw [hke x (by omega) q2,hkt]
     simp only [iff_true]
     exact .inr ⟨by omega,q2⟩))
  refine zi (fun hp=>?_) (fun hp=>?_)
  ·
   have hpos:0<out.length:=by simpa using hp
   refine ZY (by omega) (by omega) (zp (out.length - 1) (by omega) (by omega) ?_)
   have hmem:out[out.length - 1]∈out:=List.getElem_mem _
   have hlast:=hoc _ hmem
   have hl0:=ho.2 _ hmem
   have hl1:=ho.1.1 _ hmem
   refine zz (by omega) (by omega) (zi (fun hq=>?_) (fun hq=>?_))
   ·have hq':(out[out.length - 1]).xHi+1=c:=by simpa using hq
    refine ZY (by omega) (by omega) (zp (out.length - 1) (by omega) (by omega) ?_)
    have hsplit:out=out.dropLast++[out[out.length - 1]]:=by
     have:=List.dropLast_concat_getLast (l:=out) (by intro h;rw [h] at hpos;simp at hpos)
     rw [List.getLast_eq_getElem] at this
     exact this.symm
    generalize out[out.length - 1]=z at *
    have hset:out.set ((out.length:Int) - 1).toNat (zj.mk z.xLo m)=out.dropLast++[zj.mk z.xLo m]:=by
     have e1:((out.length:Int) - 1).toNat=out.dropLast.length:=by rw [List.length_dropLast];omega
     rw [e1]
     conv=>lhs;rw [hsplit]
     rw [List.dropLast_concat,List.set_append_right _ _ (Nat.le_refl _)]
     simp
    rw [hset]
    have hd:NF (out.dropLast++[z]):=by rw [← hsplit];exact ho.1
    have hdp:=List.pairwise_append.1 hd.2
    have hdm:∀ u∈out.dropLast,u∈out:=fun u hu=>by rw [hsplit];exact List.mem_append_left _ hu
    refine fin _ ⟨zav ⟨fun s hs=>ho.1.1 s (hdm s hs),hdp.1⟩ (VY (by simp only;omega)) (fun s hs t ht=>by simp at ht;subst ht;exact hdp.2.2 s hs z (by simp)),fun s hs=>?_⟩ (fun u hu=>?_) (fun x q1 q2=>?_)
    ·rcases List.mem_append.1 hs with q | q
     ·exact ho.2 s (hdm s q)
     ·simp at q;subst q;exact ⟨hl0.1,m2⟩
    ·rcases List.mem_append.1 hu with q | q
     ·have:=hoc u (hdm u q);omega
     ·simp at q;subst q;exact Int.le_refl _
    ·have hold:hv out x↔hv out.dropLast x∨(z.xLo≤x∧x≤z.xHi):=by
      conv=>lhs;rw [hsplit]
      rw [zaz,ub];simp [ZE]
     rw [zaz,ub]
     simp only [ZE,or_false]
     by_cases hx:x<c
     ·rw [← hk x q1 hx,hold]
      constructor
      ·rintro (q | q)
       ·exact .inl q
       ·exact .inr ⟨q.1,by omega⟩
      ·rintro (q | q)
       ·exact .inl q
       ·exact .inr ⟨q.1,by omega⟩
     ·rw [hke x (by omega) q2,hkt]
      simp only [iff_true]
      exact .inr ⟨by omega,q2⟩
   ·have hq':(out[out.length - 1]).xHi+1≠c:=by simpa using hq
    refine app (fun u hu=>?_)
    obtain ⟨t,ht,e⟩:=List.getElem_of_mem hu
    by_cases e0:t=out.length - 1
    ·subst e0;rw [← e];omega
    ·have hpw:=List.pairwise_iff_getElem.1 ho.1.2 t (out.length - 1) ht (by omega) (by omega)
     rw [e] at hpw
     omega
  ·have:out=[]:=by
    have:¬ 0<out.length:=by simpa using hp
    exact List.eq_nil_of_length_eq_zero (by omega)
   subst this
   exact jK (app (by simp))
 ·refine fin out ho (fun u hu=>by have:=hoc u hu;omega) (fun x q1 q2=>?_)
  by_cases hx:x<c
  ·exact hk x q1 hx
  ·rw [hke x (by omega) q2,hkf]
   simp only [Bool.false_eq_true,iff_false]
   rintro ⟨u,hu,r1,r2⟩
   have:=hoc u hu
   omega
end
section
open Go Go.Proofs
theorem zk6 {p q:Bool} {κ:Bool→Prop} (h:κ (p && q)):Y2 p q κ:=by
 unfold Y2 jnW;cases p <;> simpa using h
theorem zgg {p q:Bool} {κ:Bool→Prop} (h:κ (p && !q)):ZG p q κ:=by
 unfold ZG jnW;cases p <;> simpa using h
theorem ziO {p q:Bool} {κ:Bool→Prop} (h:κ (p || q)):XP p q κ:=by
 unfold XP jnW;cases p <;> simpa using h
theorem zg4 {a b:List zj} {top:Int} (ha:St a top) (hb:St b top) (h0:-2≤top) (ht:top≤65535) {κ:List zj→Prop} (h:κ (ja a b)):uP a b top κ:=by
 unfold uP
 refine zcr (fun p q=>p && q) ha hb h0 ht (κ:=κ) (fun r hr hk=>?_) (fun p q φ=>Y2 p q φ) (fun p q φ=>zk6) _ (fun _ _ _ _ _ h=>h)
 rw [zmc hr (XN ha hb.1) (fun x=>?_)]
 ·exact h
 ·rw [VM]
  by_cases hx:0≤x∧x≤top
  ·rw [hk x hx.1 hx.2];simp
  ·exact ⟨fun e=>absurd (Xh hr e) hx,fun e=>absurd (Xh ha e.1) hx⟩
theorem YV {a b:List zj} {top:Int} (ha:St a top) (hb:St b top) (h0:-2≤top) (ht:top≤65535) {κ:List zj→Prop} (h:κ (ja a (ZL b top))):xc a b top κ:=by
 unfold xc
 refine zcr (fun p q=>p && !q) ha hb h0 ht (κ:=κ) (fun r hr hk=>?_) (fun p q φ=>ZG p q φ) (fun p q φ=>zgg) _ (fun _ _ _ _ _ h=>h)
 rw [zmc hr (XN ha (Uq hb).1) (fun x=>?_)]
 ·exact h
 ·rw [VM,zgv hb]
  by_cases hx:0≤x∧x≤top
  ·rw [hk x hx.1 hx.2];simp [hx.1,hx.2]
  ·exact ⟨fun e=>absurd (Xh hr e) hx,fun e=>absurd (Xh ha e.1) hx⟩
theorem zfP {a b:List zj} {top:Int} (ha:St a top) (hb:St b top) (h0:-2≤top) (ht:top≤65535) {κ:List zj→Prop} (h:κ (Yy a b)):uA a b top κ:=by
 unfold uA
 refine zcr (fun p q=>p || q) ha hb h0 ht (κ:=κ) (fun r hr hk=>?_) (fun p q φ=>XP p q φ) (fun p q φ=>ziO) _ (fun _ _ _ _ _ h=>h)
 rw [zmc hr (zd8 ha hb) (fun x=>?_)]
 ·exact h
 ·rw [zdZ ha hb]
  by_cases hx:0≤x∧x≤top
  ·rw [hk x hx.1 hx.2];simp
  ·refine ⟨fun e=>absurd (Xh hr e) hx,fun e=>?_⟩
   rcases e with e | e
   ·exact absurd (Xh ha e) hx
   ·exact absurd (Xh hb e) hx
def lim (l:List zj):List zj×Bool:=if 40<l.length then ([],false) else (l,true)
theorem za9 {l:List zj} {κ:List zj×Bool→Prop} (h:κ (lim l)):yV l κ:=by
 unfold yV
 unfold lim at h
 refine zi (fun hc=>?_) (fun hc=>?_)
 ·rw [if_pos (by have:=of_decide_eq_true hc;omega)] at h;exact h
 ·rw [if_neg (by have:=of_decide_eq_false hc;omega)] at h;exact h
theorem Up {a b:List zj} {top:Int} (ha:St a top) (hb:St b top) (h0:-2≤top) (ht:top≤65535) {κ:List zj×Bool→Prop} (h:κ (lim (ja a b))):jO a b top κ:=by
 unfold jO
 exact zg4 ha hb h0 ht (za9 h)
theorem zh3 {a b:List zj} {top:Int} (ha:St a top) (hb:St b top) (h0:-2≤top) (ht:top≤65535) {κ:List zj×Bool→Prop} (h:κ (lim (ja a (ZL b top)))):ur a b top κ:=by
 unfold ur
 exact YV ha hb h0 ht (za9 h)
theorem zho {a b:List zj} {top:Int} (ha:St a top) (hb:St b top) (h0:-2≤top) (ht:top≤65535) {κ:List zj×Bool→Prop} (h:κ (lim (Yy a b))):ZT a b top κ:=by
 unfold ZT
 exact zfP ha hb h0 ht (za9 h)
theorem zjJ {x:zj}:∀ (b:List zj),(b.flatMap (UI x)).length≤b.length
 | []=>by simp
 | y :: b=>by
  have:=zjJ (x:=x) b
  have h1:(UI x y).length≤1:=by unfold UI;split <;> simp
  simp only [List.flatMap_cons,List.length_append,List.length_cons]
  omega
theorem Xo {a b:List zj} {ta tb:Int} (ha:St a ta) (hb:St b tb) (h0:0≤ta) (ht:ta≤65535) (h1:0≤tb) (hu:tb≤65535) {κ:List zj→Prop} (h:κ (ja a b)):yk a b κ:=by
 have la:=VU ha (by omega)
 have lb:=VU hb (by omega)
 have short:∀ k,2 * ((ja (a.take k) b).length:Int)≤ta+2:=fun k =>
  VU (XN ⟨⟨fun s hs=>ha.1.1 s (List.mem_of_mem_take hs),ha.1.2.take⟩,fun s hs=>ha.2 s (List.mem_of_mem_take hs)⟩ hb.1) (by omega)
 unfold yk
 refine zK a.length (fun s=>s.2) (fun k s=>s.2=(k:Int)∧k≤a.length∧s.1=ja (a.take k) b) (fun k s h=>h.1) (fun k s h=>h.2.1) ?_ ⟨rfl,Nat.zero_le _,by simp [ja]⟩
 rintro k ⟨xs,t⟩ next ⟨rfl,hk,hx⟩ hn
 simp only at hx
 subst hx
 refine zi (fun hc=>?_) (fun hc=>?_)
 ·have hlt:k<a.length:=by simpa using hc
  have hmem:a[k]∈a:=List.getElem_mem hlt
  have r1:=ha.2 _ hmem
  refine zK b.length (fun s=>s.2) (fun j s=>s.2=(j:Int)∧j≤b.length∧s.1=ja (a.take k) b++(b.take j).flatMap (UI a[k])) (fun k s h=>h.1) (fun k s h=>h.2.1) ?_ ⟨rfl,Nat.zero_le _,by simp⟩
  rintro j ⟨ys,u⟩ next2 ⟨rfl,hj,hy⟩ hn2
  simp only at hy
  subst hy
  refine zi (fun hd=>?_) (fun hd=>?_)
  ·have hlt2:j<b.length:=by simpa using hd
   have hstep:(b.take (j+1)).flatMap (UI a[k])=(b.take j).flatMap (UI a[k])++UI a[k] b[j]:=by
    rw [List.take_succ_eq_append_getElem hlt2,List.flatMap_append];simp
   have hlen:=zjJ (x:=a[k]) (b.take j)
   have:=short k
   simp only [List.length_take] at hlen
   unfold jnW
   refine zp k rfl hlt (zp j rfl hlt2 (zp k rfl hlt (zp j rfl hlt2 (zi (fun he=>?_) (fun he=>?_)))))
   ·refine jj (by simp only [List.length_append,List.length_singleton];omega) (zz (by omega) (by omega) (hn2 hlt2 _ ⟨by simp,by omega,?_⟩))
    rw [hstep]
    unfold UI at *
    rw [if_pos (by simpa using he)]
    simp
   ·refine zz (by omega) (by omega) (hn2 hlt2 _ ⟨by simp,by omega,?_⟩)
    rw [hstep]
    have:UI a[k] b[j]=[]:=by unfold UI;rw [if_neg (by simpa using he)]
    rw [this];simp
  ·have hge:b.length≤j:=by simpa using hd
   have e:j=b.length:=by omega
   subst e
   refine zz (by omega) (by omega) (hn hlt _ ⟨by simp,by omega,?_⟩)
   have e2:ja (a.take k++[a[k]]) b=ja (a.take k) b++b.flatMap (UI a[k]):=by simp only [ja,List.flatMap_append,List.flatMap_cons,List.flatMap_nil,List.append_nil]
   show ja (a.take k) b++(b.take b.length).flatMap (UI a[k])=_
   rw [List.take_succ_eq_append_getElem hlt,e2,List.take_length]
 ·have hge:a.length≤k:=by simpa using hc
  rw [List.take_of_length_le hge];exact h
theorem zaH {a:List zj} {top:Int} (ha:St a top) (h0:0≤top) (ht:top≤65535) {κ:List zj→Prop} (h:κ (ZL a top)):Yo a top κ:=by
 have la:=VU ha (by omega)
 have lo:=VU (Uq ha) (by omega)
 unfold Yo
 refine zK a.length (fun s=>s.2.2) (fun k s=>s.2.2=(k:Int)∧k≤a.length∧s.1++U1 (a.drop k) s.2.1 top=ZL a top∧0≤s.2.1∧s.2.1≤65536) (fun k s h=>h.1) (fun k s h=>h.2.1) ?_ ⟨rfl,Nat.zero_le _,by simp [ZL],by simp,by simp⟩
 rintro k ⟨xs,c,t⟩ next ⟨rfl,hk,hx,hc0,hc1⟩ hn
 simp only at hx hc0 hc1
 have hlen:xs.length≤(ZL a top).length:=by rw [← hx];simp
 refine zi (fun hc=>?_) (fun hc=>?_)
 ·have hlt:k<a.length:=by simpa using hc
  have hmem:a[k]∈a:=List.getElem_mem hlt
  have r1:=ha.2 _ hmem
  have r2:=ha.1.1 _ hmem
  rw [List.drop_eq_getElem_cons hlt] at hx
  simp only [U1] at hx
  unfold jnW
  refine zp k rfl hlt (zi (fun he=>?_) (fun he=>?_))
  ·rw [if_pos (by simpa using he)] at hx
   refine zp k rfl hlt (ZY (by omega) (by omega) (jj (by simp only [List.length_singleton];omega) (zp k rfl hlt (zz (by omega) (by omega) (zz (by omega) (by omega) (hn hlt _ ⟨by simp,by omega,?_,by simp only;omega,by simp only;omega⟩))))))
   simpa [List.append_assoc] using hx
  ·rw [if_neg (by simpa using he)] at hx
   refine zp k rfl hlt (zz (by omega) (by omega) (zz (by omega) (by omega) (hn hlt _ ⟨by simp,by omega,?_,by simp only;omega,by simp only;omega⟩)))
   simpa using hx
 ·have hge:a.length≤k:=by simpa using hc
  rw [List.drop_eq_nil_of_le hge] at hx
  simp only [U1] at hx
  unfold jnW
  refine zi (fun he=>?_) (fun he=>?_)
  ·rw [if_pos (by simpa using he)] at hx
   refine jj (by simp only [List.length_singleton];omega) ?_
   rw [hx];exact h
  ·rw [if_neg (by simpa using he),List.append_nil] at hx
   rw [hx];exact h
def Sm (s:zj):Prop:=-1000000000≤s.xLo∧s.xLo≤1000000000∧-1000000000≤s.xHi∧s.xHi≤1000000000
theorem zmP {l:List zj} {s:zj} (hl:l.length≤1000000000) (hb:∀ x∈l,Sm x) (hs:Sm s) {κ:List zj→Prop} (h:κ (zdq l s)):VB l s κ:=by
 unfold VB
 refine zK l.length (fun s=>s.2.2.2.2) (fun k (st:Int×Int×List zj×Bool×Int)=>st.2.2.2.2=(k:Int)∧k≤l.length∧zbv l s [] false=zbv (l.drop k) (zj.mk st.1 st.2.1) st.2.2.1 st.2.2.2.1∧st.2.2.1.length≤2 * k∧Sm (zj.mk st.1 st.2.1)) (fun k s h=>h.1) (fun k s h=>h.2.1) ?_ ⟨rfl,Nat.zero_le _,by simp,by simp,hs⟩
 rintro k ⟨lo,hi,xs,pl,t⟩ next ⟨rfl,hk,hx,hlen,hsm⟩ hn
 simp only at hx hlen hsm
 obtain ⟨m1,m2,m3,m4⟩:=hsm
 simp only at m1 m2 m3 m4
 refine zi (fun hc=>?_) (fun hc=>?_)
 ·have hlt:k<l.length:=by simpa using hc
  obtain ⟨n1,n2,n3,n4⟩:=hb _ (List.getElem_mem hlt)
  rw [List.drop_eq_getElem_cons hlt] at hx
  simp only [zbv] at hx
  unfold jnW
  refine zp k rfl hlt (zz (by omega) (by omega) (zi (fun he=>?_) (fun he=>?_)))
  ·rw [if_pos (by simpa using he)] at hx
   exact jj (by simp only [List.length_singleton];omega) (zz (by omega) (by omega) (hn hlt _ ⟨by simp,by omega,hx,by simp only [List.length_append,List.length_singleton];omega,m1,m2,m3,m4⟩))
  ·rw [if_neg (by simpa using he)] at hx
   refine zz (by omega) (by omega) (zi (fun hf=>?_) (fun hf=>?_))
   ·rw [if_pos (by simpa using hf)] at hx
    cases pl with
    | false =>
     refine jt (jj (by simp only [List.length_singleton];omega) (jj (by simp only [List.length_append,List.length_singleton];omega) (zz (by omega) (by omega) (hn hlt _ ⟨by simp,by omega,hx,by simp only [List.length_append,List.length_singleton];omega,m1,m2,m3,m4⟩))))
    | true =>
     refine jK (jj (by simp only [List.length_singleton];omega) (zz (by omega) (by omega) (hn hlt _ ⟨by simp,by omega,hx,by simp only [List.length_append,List.length_singleton];omega,m1,m2,m3,m4⟩)))
   ·rw [if_neg (by simpa using hf)] at hx
    exact zz (by omega) (by omega) (hn hlt _ ⟨by simp,by omega,hx,by simp only;omega,by simp only;omega,by simp only;omega,by simp only;omega,by simp only;omega⟩)
 ·have hge:l.length≤k:=by simpa using hc
  rw [List.drop_eq_nil_of_le hge] at hx
  simp only [zbv] at hx
  unfold zdq at h
  rw [hx] at h
  unfold jnW
  cases pl with
  | false=>exact jt (jj (by simp only [List.length_singleton];omega) (by simpa using h))
  | true=>exact jK (by simpa using h)
end
section
open Go.Lib (decDigits)
def B (l:List UInt8):ByteArray:=ByteArray.mk l.toArray
theorem zhw (l:List UInt8):(B l).data.toList=l:=by simp [B]
theorem zoG (s:ByteArray):B s.data.toList=s:=by cases s;simp [B]
theorem zgY {l m:List UInt8}:B l=B m↔l=m:=⟨fun h=>by have:=congrArg (fun s=>s.data.toList) h;simpa [B] using this,fun h=>by rw [h]⟩
theorem zoB (l m:List UInt8):B l++B m=B (l++m):=by
 apply ByteArray.ext;simp [B,ByteArray.data_append]
theorem YO (l:List UInt8):(B l).size=l.length:=by simp [B,ByteArray.size]
theorem zpb (l:List UInt8) (a b:Nat):(B l).extract a b=B ((l.take b).drop a):=by
 apply ByteArray.ext
 simp [B,ByteArray.data_extract,List.extract_eq_take_drop]
 exact List.drop_take.symm
theorem zak (l m:List UInt8):decide (B l=B m)=decide (l=m):=by simp [zgY]
theorem yj {l m:List UInt8} {κ:ByteArray→Prop} (h:l.length+m.length≤9223372036854775807) (hk:κ (B (l++m))):uS (B l) (B m) κ:=⟨by rw [YO,YO];exact h,by rw [zoB];exact hk⟩
theorem V5 {l:List UInt8} {lo hi:Int} {κ:ByteArray→Prop} (a b:Nat) (ha:lo=a) (hb:hi=b) (h1:a≤b) (h2:b≤l.length) (hk:κ (B ((l.take b).drop a))):zbF (B l) lo hi κ:=by
 subst ha hb
 exact ⟨by omega,by omega,by rw [YO];omega,by rw [Int.toNat_natCast,Int.toNat_natCast,zpb];exact hk⟩
def dg (c:UInt8):Bool:=decide (48≤c.toNat) && decide (c.toNat≤57)
def val (l:List UInt8):Nat:=l.foldl (fun n c=>10 * n+(c.toNat - 48)) 0
theorem zfX (l:List UInt8) (c:UInt8):val (l++[c])=10 * val l+(c.toNat - 48):=by simp [val]
theorem VI {u:Nat} (h:u<10):decDigits u=[UInt8.ofNat (48+u)]:=by rw [decDigits,dif_pos h]
theorem zda {u:Nat} (h:¬ u<10):decDigits u=decDigits (u / 10)++[UInt8.ofNat (48+u % 10)]:=by rw [decDigits,dif_neg h]
theorem zns {n:Nat} (h:n<10):dg (UInt8.ofNat (48+n))=true:=by
 have:(UInt8.ofNat (48+n)).toNat=48+n:=by simp;omega
 simp [dg,this];omega
theorem zna {n:Nat} (h:n<10):(UInt8.ofNat (48+n)).toNat - 48=n:=by
 have:(UInt8.ofNat (48+n)).toNat=48+n:=by simp;omega
 omega
theorem ziR (u:Nat):∀ c∈decDigits u,dg c=true:=by
 induction u using Nat.strongRecOn with
 | _ u ih =>
  by_cases h:u<10
  ·rw [VI h];intro c hc;rw [List.mem_singleton] at hc;subst hc;exact zns h
  ·rw [zda h];intro c hc
   rcases List.mem_append.1 hc with hc | hc
   ·exact ih (u / 10) (by omega) c hc
   ·rw [List.mem_singleton] at hc;subst hc;exact zns (by omega)
theorem zai (u:Nat):val (decDigits u)=u:=by
 induction u using Nat.strongRecOn with
 | _ u ih =>
  by_cases h:u<10
  ·rw [VI h];simp only [val,List.foldl];rw [zna h];omega
  ·rw [zda h,zfX,ih (u / 10) (by omega),zna (by omega)];omega
theorem zm0 {a b:Nat} (h:decDigits a=decDigits b):a=b:=by rw [← zai a,← zai b,h]
theorem zag:∀ (k u:Nat),u<10 ^ (k+1)→(decDigits u).length≤k+1
 | 0,u,h=>by rw [VI (by simpa using h)];simp
 | k+1,u,h=>by
  by_cases h':u<10
  ·rw [VI h'];simp
  ·rw [zda h'];have:=zag k (u / 10) (by rw [Nat.pow_succ] at h;omega);simp;omega
theorem zdE (u:Nat):decDigits u≠[]:=by
 by_cases h:u<10
 ·rw [VI h];simp
 ·rw [zda h];simp
theorem zau {u:Nat} {c:UInt8} (h:dg c=false):c ∉ decDigits u:=fun hc=>by rw [ziR u c hc] at h;cases h
theorem zkl {n:Int} (h:0≤n):zl1 n=B (decDigits n.toNat):=by
 unfold zl1 Lib.itoa;rw [if_neg (by omega)];rfl
theorem ze1 {n:Int} {κ:ByteArray→Prop} (h0:0≤n) (h1:n≤9223372036854775807) (h:κ (B (decDigits n.toNat))):Z9 n κ:=⟨⟨by omega,h1⟩,by rw [zkl h0];exact h⟩
theorem zjI:∀ (l:List UInt8) (n:Nat),(∀ c∈l,dg c=true)→l.foldl (fun n c=>10 * n+(c.toNat - 48)) n+1≤(n+1) * 10 ^ l.length
 | [],n,_=>by simp
 | c :: l,n,h=>by
  have h1:=zjI l (10 * n+(c.toNat - 48)) (fun x hx=>h x (by simp [hx]))
  have h2:=h c (by simp)
  simp [dg] at h2
  simp only [List.foldl,List.length_cons,Nat.pow_succ]
  refine Nat.le_trans h1 ?_
  rw [show (n+1) * (10 ^ l.length * 10)=((n+1) * 10) * 10 ^ l.length by rw [Nat.mul_assoc,Nat.mul_comm 10]]
  exact Nat.mul_le_mul_right _ (by omega)
theorem zom (l:List UInt8) (h:∀ c∈l,dg c=true):val l<10 ^ l.length:=by
 have:=zjI l 0 h
 simp at this
 unfold val;omega
theorem zlT {l:List UInt8} (h:∀ c∈l,dg c=true) (hl:l.length≤6):val l≤999999:=by
 have h1:=zom l h
 have h2:10 ^ l.length≤10 ^ 6:=Nat.pow_le_pow_right (by decide) hl
 have e:(10:Nat) ^ 6=1000000:=by decide
 omega
def run:Nat→List UInt8→List UInt8
 | 0,_=>[]
 | _,[]=>[]
 | k+1,c :: l=>if dg c then c :: run k l else []
theorem ziY:∀ k l,∀ c∈run k l,dg c=true
 | 0,l=>by simp [run]
 | k+1,[]=>by simp [run]
 | k+1,c :: l=>by
  simp only [run];split
  ·rename_i h;intro x hx;rcases List.mem_cons.1 hx with rfl | hx
   ·exact h
   ·exact ziY k l x hx
  ·simp
theorem zdv:∀ k l,(run k l).length≤k∧(run k l).length≤l.length
 | 0,l=>by simp [run]
 | k+1,[]=>by simp [run]
 | k+1,c :: l=>by
  simp only [run];split
  ·have:=zdv k l;simp;omega
  ·simp
theorem zjZ:∀ (k:Nat) (a r:List UInt8),(∀ c∈a,dg c=true)→a.length≤k→(∀ c l,r=c :: l→dg c=false)→run k (a++r)=a
 | 0,[],r,_,_,h=>by simp [run]
 | 0,x :: a,r,_,hl,_=>by simp at hl
 | k+1,[],[],_,_,_=>by simp [run]
 | k+1,[],c :: l,_,_,h=>by simp [run,h c l rfl]
 | k+1,x :: a,r,h1,hl,h=>by
  simp only [List.cons_append,run]
  rw [if_pos (h1 x (by simp)),zjZ k a r (fun c hc=>h1 c (by simp [hc])) (by simpa using hl) h]
theorem zj7:∀ (k:Nat) (l:List UInt8),(∃ r,l=run k l++r∧((run k l).length=k∨∀ c m,r=c :: m→dg c=false))
 | 0,l=>⟨l,by simp [run],.inl (by simp [run])⟩
 | k+1,[]=>⟨[],by simp [run],.inr (by simp)⟩
 | k+1,c :: l=>by
  obtain ⟨r,h1,h2⟩:=zj7 k l
  simp only [run];split
  ·exact ⟨r,by simpa using h1,h2.elim (fun h2=>.inl (by simpa using h2)) .inr⟩
  ·rename_i h
   exact ⟨c :: l,rfl,.inr (fun d m e=>by cases e;simpa using h)⟩
theorem zi5 (p r:List UInt8):zfL (B (p++r)) (B p)=true:=by simp [zfL,Lib.hasPrefix,zhw]
theorem ziW (s p:List UInt8):zfL (B s) (B p)=true↔∃ r,s=p++r:=by
 simp only [zfL,Lib.hasPrefix,zhw,List.isPrefixOf_iff_prefix]
 exact ⟨fun ⟨r,h⟩=>⟨r,h.symm⟩,fun ⟨r,h⟩=>⟨r,h.symm⟩⟩
end
section
theorem zln {α:Type} {xs:List α} {i:Int} {κ:α→Prop} (h1:0≤i) (h2:i<xs.length) (h:∀ x,x∈xs→κ x):zI xs i κ:=by
 obtain ⟨n,rfl⟩:=Int.eq_ofNat_of_zero_le h1
 have hn:n<xs.length:=by omega
 exact zp n rfl hn (h _ (List.getElem_mem hn))
def RdP (b:List UInt8) (p:Int):Prop:=b.length≤2000∧0≤p∧p≤1000000
end
section
open Go.Lib (decDigits)
theorem zfI {n:Int} {κ:UInt8→Prop} (m:Nat) (e:n=m) (h:m≤255) (hk:κ (UInt8.ofNat m)):zhS n κ:=by
 subst e;exact ⟨by omega,by omega,by simpa using hk⟩
def zeZ (m:Nat):List UInt8:=if m<10 then [] else decDigits (m / 10)
theorem zdK {m:Nat}:decDigits m=zeZ m++[UInt8.ofNat (48+m % 10)]:=by
 unfold zeZ;split
 ·rename_i h;rw [VI h,Nat.mod_eq_of_lt h];rfl
 ·rename_i h;exact zda h
theorem Yg {n:Int} {κ:ByteArray→Prop} (h0:0≤n) (h1:n≤1000000000000000000) (h:κ (B (decDigits n.toNat))):jH n κ:=by
 obtain ⟨n,rfl⟩:=Int.eq_ofNat_of_zero_le h0
 rw [Int.toNat_natCast] at h
 have hlen:(decDigits n).length≤20:=zag 19 n (Nat.lt_of_le_of_lt (show n≤1000000000000000000 by omega) (by decide))
 unfold jH
 refine zhG (by omega) (by omega) (by omega) (zz (by omega) (by omega) (zfI (48+n % 10) (by omega) (by omega) ?_))
 refine yE (fun s=>∃ (m:Nat) (l:List UInt8),s=((m:Int),B l)∧m≤n∧decDigits n=zeZ m++l) (fun s=>s.1.toNat) ?_ ⟨n,[UInt8.ofNat (48+n % 10)],rfl,Nat.le_refl _,zdK⟩
 rintro _ next ⟨m,l,rfl,hm,he⟩ hn
 have hl:l.length≤20:=by have:=congrArg List.length he;simp at this;omega
 refine zi (fun hc=>?_) (fun hc=>?_)
 ·simp at hc
  refine zjr (by omega) (by omega) (by omega) (zhG (by omega) (by omega) (by omega) (zz (by omega) (by omega) (zfI (48+m / 10 % 10) (by omega) (by omega) ?_)))
  refine yj (l:=[UInt8.ofNat (48+m / 10 % 10)]) (by simp;omega) ?_
  refine hn _ ⟨m / 10,_,by rw [show ((m:Int) / 10)=((m / 10:Nat):Int) by omega],by omega,?_⟩ (by simp;omega)
  rw [he,show zeZ m=decDigits (m / 10) by unfold zeZ;rw [if_neg (by omega)],zdK (m:=m / 10)]
  simp
 ·simp at hc
  rw [show zeZ m=[] by unfold zeZ;rw [if_pos (by omega)]] at he
  rw [he] at h;exact h
theorem VT {l w:List UInt8} {a:Int} {κ:Bool×Int→Prop} (n:Nat) (ea:a=n) (hn:n≤l.length) (hl:l.length≤1000000000000) (hw:w.length≤1000)
  (ht:∀ r,l.drop n=w++r→κ (true,((n+w.length:Nat):Int))) (hf:(∀ r,l.drop n≠w++r)→κ (false,(n:Int))):jL (B l) a (B w) κ:=by
 subst ea
 first | unfold jL jnW Uf | unfold jL Uf
 refine V5 n l.length rfl (by rw [YO]) hn (Nat.le_refl _) ?_
 rw [List.take_length]
 refine zi (fun hc=>?_) (fun hc=>?_)
 ·refine hf (fun r e=>?_)
  rw [e,zi5] at hc;cases hc
 ·obtain ⟨r,e⟩:=(ziW (l.drop n) w).1 (by simpa using hc)
  rw [YO]
  exact zz (by omega) (by omega) (by have:=ht r e;simpa using this)
theorem zjj {c:UInt8}:dg c=true↔48≤c.toNat∧c.toNat≤57:=by simp [dg]
theorem zfg {l:List UInt8} {i:Int} {κ:UInt8→Prop} (n:Nat) (hi:i=n) (hn:n<l.length) (h:κ l[n]):zI (B l).data.toList i κ:=by
 rw [zhw];exact zp n hi hn h
theorem zbL {l:List UInt8} {a:Int} {κ:Int×Bool×Int→Prop} (n:Nat) (ea:a=n) (hn:n≤l.length) (hl:l.length≤1000000000000)
  (h:κ ((val (run 6 (l.drop n)):Int),decide (run 6 (l.drop n)≠[]),((n+(run 6 (l.drop n)).length:Nat):Int))):xj (B l) a κ:=by
 subst ea
 obtain ⟨r,he,hend⟩:=zj7 6 (l.drop n)
 have hdg:=ziY 6 (l.drop n)
 have hlen:=(zdv 6 (l.drop n)).1
 generalize run 6 (l.drop n)=R at *
 have hll:l=l.take n++(R++r):=by rw [← he];simp
 have hsz:l.length=n+(R.length+r.length):=by
  have:=congrArg List.length he;simp at this;omega
 have hget:∀ k (hk:k<R.length),l[n+k]?=some R[k]:=by
  intro k hk
  have:(l.drop n)[k]?=some R[k]:=by rw [he,List.getElem?_append_left hk];simp [hk]
  rw [List.getElem?_drop] at this;exact this
 unfold xj jnW
 refine yE (fun s=>∃ k,k≤R.length∧s=(((n+k:Nat):Int),(val (R.take k):Int))) (fun s=>R.length+n - s.1.toNat) ?_ ⟨0,by omega,by simp [val]⟩
 rintro _ next ⟨k,hk,rfl⟩ hnx
 have hv:val (R.take k)≤999999:=zlT (fun c hc=>hdg c (List.mem_of_mem_take hc)) (by simp;omega)
 have hstop:k=R.length→κ ((val (R.take k):Int),decide ((n:Int)<((n+k:Nat):Int)),((n+k:Nat):Int)):=by
  intro e
  subst e
  rw [List.take_length]
  rw [show decide ((n:Int)<((n+R.length:Nat):Int))=decide (R≠[]) by
   apply decide_eq_decide.2
   cases R with
   | nil=>simp
   | cons x xs=>simp;omega]
  exact h
 simp only [yp,YO]
 refine zi (fun hc=>?_) (fun hc=>?_)
 ·simp at hc
  refine zz (by omega) (by omega) (zi (fun hc2=>?_) (fun hc2=>?_))
  ·simp at hc2
   have hlt:n+k<l.length:=by omega
   refine zfg (n+k) rfl hlt ?_
   by_cases hkr:k<R.length
   ·have hg:=hget k hkr
    rw [List.getElem?_eq_getElem hlt] at hg
    obtain hg:=Option.some.inj hg
    rw [hg]
    obtain ⟨d1,d2⟩:=zjj.1 (hdg R[k] (List.getElem_mem hkr))
    have hgo:zlh 10 ↑(val (List.take k R)) (fun t135=>zjL (R[k].toNat:Int) 48 (fun t136=>zir t136 (fun _=>jh t135 t136 (fun t137=>jh ((n+k:Nat):Int) 1 (fun t138=>next (t138,t137)))))):=by
     refine zjD (by omega) (by omega) ⟨by omega,by omega,by omega,⟨by omega,by omega,zz (by omega) (by omega) (zz (by omega) (by omega) (hnx _ ⟨k+1,by omega,?_⟩ (by simp;omega)))⟩⟩
     rw [List.take_succ_eq_append_getElem hkr,zfX]
     simp only [Prod.mk.injEq]
     omega
    refine zi (fun hc3=>?_) (fun hc3=>?_)
    ·simp at hc3;omega
    ·refine zi (fun hc4=>?_) (fun hc4=>hgo)
     simp at hc4;omega
   ·have e:k=R.length:=by omega
    rcases hend with h6 | hnd
    ·omega
    ·cases r with
     | nil=>simp at hsz;omega
     | cons c m =>
      have hcn:=hnd c m rfl
      have hg:l[n+k]=c:=by
       have:(l.drop n)[k]?=some c:=by rw [he,e,List.getElem?_append_right (Nat.le_refl _)];simp
       rw [List.getElem?_drop,List.getElem?_eq_getElem hlt] at this
       exact Option.some.inj this
      rw [hg]
      have hnot:¬ (48≤c.toNat∧c.toNat≤57):=fun hh=>by rw [zjj.2 hh] at hcn;cases hcn
      refine zi (fun hc3=>?_) (fun hc3=>?_)
      ·simp only [xS];exact hstop e
      ·refine zi (fun hc4=>hstop e) (fun hc4=>?_)
       simp at hc3 hc4;omega
  ·simp at hc2
   exact hstop (by omega)
 ·simp at hc
  simp only [xB]
  exact hstop (by omega)
def cut (c:UInt8):List UInt8→List UInt8×List UInt8
 | []=>([],[])
 | d :: l=>if d=c then ([],l) else (d :: (cut c l).1,(cut c l).2)
theorem zas {c:UInt8}:∀ {x y:List UInt8},c ∉ x→cut c (x++c :: y)=(x,y)
 | [],y,_=>by simp [cut]
 | d :: x,y,h=>by
  simp only [List.mem_cons,not_or] at h
  simp only [List.cons_append,cut]
  rw [if_neg (fun e=>h.1 e.symm),zas h.2]
theorem zfb {c:UInt8}:∀ {x:List UInt8},c ∉ x→cut c x=(x,[])
 | [],_=>rfl
 | d :: x,h=>by
  simp only [List.mem_cons,not_or] at h
  simp only [cut]
  rw [if_neg (fun e=>h.1 e.symm),zfb h.2]
theorem zdy {c:UInt8}:∀ (x:List UInt8),(cut c x).1.length+(cut c x).2.length≤x.length
 | []=>by simp [cut]
 | d :: x=>by
  have:=zdy (c:=c) x
  simp only [cut];split <;> simp <;> omega
theorem zgR {l:List UInt8} {c:UInt8} {κ:ByteArray×ByteArray→Prop} (hl:l.length≤1000000000000) (h:κ (B (cut c l).1,B (cut c l).2)):Zi (B l) c κ:=by
 unfold Zi
 refine zK l.length (fun s=>s) (fun k s=>s=(k:Int)∧k≤l.length∧cut c l=(l.take k++(cut c (l.drop k)).1,(cut c (l.drop k)).2)) (fun k s h=>h.1) (fun k s h=>h.2.1) ?_ ⟨rfl,Nat.zero_le _,by simp⟩
 rintro k _ next ⟨rfl,hk,he⟩ hn
 rw [YO]
 refine zi (fun hc=>?_) (fun hc=>?_)
 ·have hlt:k<l.length:=by simpa using hc
  have hd:l.drop k=l[k] :: l.drop (k+1):=List.drop_eq_getElem_cons hlt
  refine zfg k rfl hlt (zi (fun hc2=>?_) (fun hc2=>?_))
  ·have e:l[k]=c:=by
    simp at hc2;exact UInt8.toNat_inj.1 (by omega)
   rw [hd] at he
   simp only [cut,if_pos e,List.append_nil] at he
   refine V5 0 k rfl rfl (by omega) (by omega) (zz (by omega) (by omega) (V5 (k+1) l.length (by omega) rfl (by omega) (by omega) ?_))
   rw [he] at h
   simpa using h
  ·have e:l[k]≠c:=by
    intro e;rw [e] at hc2;simp at hc2
   refine zz (by omega) (by omega) (hn hlt _ ⟨by omega,by omega,?_⟩)
   rw [he,hd]
   simp only [cut,if_neg e,List.take_succ_eq_append_getElem hlt,List.append_assoc,List.singleton_append]
 ·have hge:l.length≤k:=by simpa using hc
  rw [List.drop_eq_nil_of_le hge,List.take_of_length_le hge] at he
  simp only [cut,List.append_nil] at he
  rw [he] at h;exact h
theorem zjP {l:List UInt8} {κ:Int→Prop} (hl:l.length≤1000000000000) (h:∀ v:Int,-1≤v→v≤999999→(∀ n:Nat,l=decDigits n→n<100000→v=n)→κ v):uG (B l) κ:=by
 unfold uG jnW
 refine zK (min 6 l.length) (fun s=>s.2) (fun k s=>s=((val (l.take k):Int),(k:Int))∧k≤min 6 l.length∧∀ c∈l.take k,dg c=true) (fun k s h=>by rw [h.1]) (fun k s h=>h.2.1) ?_ ⟨by simp [val],Nat.zero_le _,by simp⟩
 rintro k _ next ⟨rfl,hk,hd⟩ hn
 have hv:val (l.take k)≤999999:=zlT hd (by simp;omega)
 have hend:¬ k<min 6 l.length→ifW (decide (5<(l.length:Int))) (ifW true (κ (-1)) (κ (val (l.take k):Int))) (jH (val (l.take k):Int) (fun r135=>ifW (!(decide (r135=B l))) (κ (-1)) (κ (val (l.take k):Int)))):=by
  intro hge
  refine zi (fun hc=>?_) (fun hc=>?_)
  ·simp at hc
   rw [xS]
   refine h _ (by omega) (by omega) (fun n e hn=>?_)
   have:=zag 4 n (by simpa using hn)
   rw [← e] at this;omega
  ·simp at hc
   have hkl:k=l.length:=by omega
   subst hkl
   rw [List.take_length] at hv ⊢
   refine Yg (by omega) (by omega) ?_
   rw [Int.toNat_natCast,zak]
   refine zi (fun hc2=>?_) (fun hc2=>?_)
   ·refine h _ (by omega) (by omega) (fun n e hn=>?_)
    rw [e,zai] at hc2;simp at hc2
   ·exact h _ (by omega) (by omega) (fun n e hn=>by rw [e,zai])
 rw [YO]
 refine zi (fun hc=>?_) (fun hc=>?_)
 ·simp at hc
  refine zi (fun hc2=>?_) (fun hc2=>?_)
  ·simp at hc2
   have hlt:k<l.length:=by omega
   have hbad:dg l[k]=false→κ (-1):=fun hb=>h _ (by omega) (by omega) (fun n e hn=>by
    subst e
    rw [ziR n _ (List.getElem_mem hlt)] at hb;cases hb)
   refine zfg k rfl hlt (zi (fun hc3=>?_) (fun hc3=>?_))
   ·simp only [xS];exact hbad (by simp [dg] at hc3 ⊢;omega)
   ·refine zfg k rfl hlt (zi (fun hc4=>hbad ?_) (fun hc4=>?_))
    ·simp [dg] at hc4 ⊢;omega
    ·have hdk:dg l[k]=true:=by simp [dg] at hc3 hc4 ⊢;omega
     obtain ⟨d1,d2⟩:=zjj.1 hdk
     refine zjD (by omega) (by omega) (zfg k rfl hlt ⟨by omega,by omega,by omega,⟨by omega,by omega,zz (by omega) (by omega) (zz (by omega) (by omega) (hn (by omega) _ ⟨?_,by omega,?_⟩))⟩⟩)
     ·rw [List.take_succ_eq_append_getElem hlt,zfX]
      simp only [Prod.mk.injEq]
      omega
     ·rw [List.take_succ_eq_append_getElem hlt]
      intro c hc
      rcases List.mem_append.1 hc with hc | hc
      ·exact hd c hc
      ·rw [List.mem_singleton] at hc;subst hc;exact hdk
  ·simp at hc2
   simp only [xB]
   exact hend (by omega)
 ·simp at hc
  simp only [xB]
  exact hend (by omega)
end
section
open Go.Lib (decDigits)
theorem zbS {n lo hi:Int} {κ:Bool→Prop} (h:κ (decide (lo≤n∧n≤hi))):yM n lo hi κ:=by
 unfold yM jnW
 refine zi (fun hc=>?_) (fun hc=>?_)
 ·simp at hc;simpa [hc] using h
 ·simp at hc
  have:decide (lo≤n∧n≤hi)=false:=by simp;omega
  rw [this] at h;exact h
theorem Vo {n:Nat} (h:n≤100000):(decDigits n).length≤6:=zag 5 n (Nat.lt_of_le_of_lt h (by decide))
theorem zcf:ByteArray.mk #[]=B []:=rfl
theorem zeO {n:Nat} {r:List UInt8} (h:n≤100000) (hr:∀ c l,r=c :: l→dg c=false):run 6 (decDigits n++r)=decDigits n:=zjZ 6 _ _ (ziR n) (Vo h) hr
end
section
open Go.Lib (decDigits)
theorem Vd {l m:List UInt8} {n:Nat} (h:n=l.length):(l++m).drop n=m:=by subst h;simp
theorem zhQ {d:UInt8} {r:List UInt8} (h:dg d=false):∀ c l,d :: r=c :: l→dg c=false:=fun c l e=>by cases e;exact h
end
section
open Go.Lib (decDigits)
theorem RdP.step {b:List UInt8} {p p':Int} {m:Int} (h:RdP b p) (h1:p≤p') (h2:p'≤1000000):RdP b p':=⟨h.1,by have:=h.2.1;omega,h2⟩
end
section
open Go.Lib (decDigits)
def top (f:Int):Int:=if f=0∨f=1 then 65535 else if f=2 then 255 else 7
theorem Uk (f:Int):7≤top f∧top f≤65535:=by unfold top;(repeat' split);all_goals omega
def nm (f:Int):List UInt8:=if f=0 then [102,114,111,109] else if f=1 then [116,111] else if f=2 then [112,111,114,116] else [112,114,111,116,111]
def TV (t:zL):Prop:=0≤t.xField∧t.xField≤3∧0≤t.xLo∧t.xLo≤t.xHi∧t.xHi≤top t.xField
instance (t:zL):Decidable (TV t):=by unfold TV;infer_instance
def rtx (t:zL):List UInt8:=decDigits t.xLo.toNat++(if t.xHi=t.xLo then [] else 45 :: decDigits t.xHi.toNat)
def btx (t:zL):List UInt8:=nm t.xField++32 :: rtx t
def ttx (t:zL):List UInt8:=if t.xNot then 110 :: 111 :: 116 :: 32 :: btx t else btx t
def zff (t:zL):List UInt8:=if TV t then ttx t else []
theorem zaf {f:Int} (h0:0≤f) (h1:f≤3):f=0∨f=1∨f=2∨f=3:=by omega
theorem zeS {n:Int} {κ:Ym→Prop} (h0:0≤n) (h1:n≤3) (h:∀ e:Ym,e.xName=B (nm n)→e.xTop=top n→κ e):zI zx n κ:=by
 rcases zaf h0 h1 with rfl | rfl | rfl | rfl
 ·exact zp 0 rfl (by decide) (h _ rfl rfl)
 ·exact zp 1 rfl (by decide) (h _ rfl rfl)
 ·exact zp 2 rfl (by decide) (h _ rfl rfl)
 ·exact zp 3 rfl (by decide) (h _ rfl rfl)
theorem zjc {n:Int} {κ:ByteArray→Prop} (h0:0≤n) (h1:n≤3) (h:κ (B (nm n))):zI [(ByteArray.mk #[102,114,111,109]),(ByteArray.mk #[116,111]),(ByteArray.mk #[112,111,114,116]),(ByteArray.mk #[112,114,111,116,111])] n κ:=by
 rcases zaf h0 h1 with rfl | rfl | rfl | rfl
 ·exact zp 0 rfl (by decide) h
 ·exact zp 1 rfl (by decide) h
 ·exact zp 2 rfl (by decide) h
 ·exact zp 3 rfl (by decide) h
theorem xJ {n:Int} {κ:Int→Prop} (h0:0≤n) (h1:n≤3) (h:κ (top n)):uM n κ:=by
 unfold uM jnW
 rcases zaf h0 h1 with rfl | rfl | rfl | rfl <;> simpa [top] using h
theorem zbg {n:Int} {κ:Int→Prop} (h:κ (if 0≤n∧n≤3 then top n else -1)):jw n κ:=by
 unfold jw jnW
 refine zi (fun hc=>?_) (fun hc=>zi (fun hc2=>?_) (fun hc2=>?_))
 ·simp at hc;rw [if_neg (by omega)] at h;simpa using h
 ·simp at hc hc2;rw [if_neg (by omega)] at h;exact h
 ·simp at hc hc2;rw [if_pos (by omega)] at h
  exact zeS (by omega) (by omega) (fun e _ he=>by rw [he];exact h)
theorem UV {t:zL} {κ:Bool→Prop} (h:κ (decide (TV t))):Zx t κ:=by
 unfold Zx jnW
 refine zbS (zi (fun hc=>?_) (fun hc=>?_))
 ·simp at hc
  refine zbS (zi (fun hc2=>?_) (fun hc2=>?_))
  ·simp at hc2
   refine xJ hc.1 hc.2 ?_
   rw [show decide (t.xHi≤top t.xField)=decide (TV t) from decide_eq_decide.2 ⟨fun hh=>⟨hc.1,hc.2,hc2.1,hc2.2,hh⟩,fun hh=>hh.2.2.2.2⟩]
   exact h
  ·simp at hc2
   rw [decide_eq_false (fun hh:TV t=>by obtain ⟨a1,a2,a3,a4,_⟩:=hh;omega)] at h;exact h
 ·simp at hc
  rw [decide_eq_false (fun hh:TV t=>by obtain ⟨a1,a2,a3,a4,_⟩:=hh;omega)] at h;exact h
theorem zdR {t:zL} {κ:Bool→Prop} (h:κ (decide (TV t))):YE t κ:=by
 unfold YE jnW
 have no:¬ (0≤t.xField∧t.xField<4∧0≤t.xLo∧t.xLo≤t.xHi)→κ false:=fun hn=>by
  rw [decide_eq_false (fun hh:TV t=>by obtain ⟨a1,a2,a3,a4,_⟩:=hh;omega)] at h;exact h
 refine zi (fun hc=>zi (fun hc2=>zi (fun hc3=>zi (fun hc4=>?_) (fun hc4=>no (by simp at hc4;omega))) (fun hc3=>no (by simp at hc3;omega))) (fun hc2=>no (by simp at hc2;omega))) (fun hc=>no (by simp at hc;omega))
 simp at hc hc2 hc3 hc4
 refine zbg ?_
 rw [if_pos ⟨hc,by omega⟩]
 rw [show decide (t.xHi≤top t.xField)=decide (TV t) from decide_eq_decide.2 ⟨fun hh=>⟨hc,by omega,hc3,hc4,hh⟩,fun hh=>hh.2.2.2.2⟩]
 exact h
theorem zea (f:Int):2≤(nm f).length∧(nm f).length≤5:=by unfold nm;(repeat' split);all_goals simp
theorem zmQ {t:zL} (h:TV t):(rtx t).length≤13:=by
 obtain ⟨a1,a2,a3,a4,a5⟩:=h
 have:=Uk t.xField
 have d1:=Vo (n:=t.xLo.toNat) (by omega)
 have d2:=Vo (n:=t.xHi.toNat) (by omega)
 unfold rtx;split <;> simp <;> omega
theorem zmk {t:zL} (h:TV t):(btx t).length≤19:=by
 have h1:=zmQ h
 have h2:=zea t.xField
 unfold btx;simp;omega
theorem zcV {t:zL} (h:TV t):(ttx t).length≤23:=by
 have h1:=zmk h
 unfold ttx;split <;> simp <;> omega
theorem U4 {t:zL}:ttx t=(if t.xNot then [110,111,116,32] else [])++btx t:=by unfold ttx;split <;> rfl
theorem zd9 {t:zL} {κ:ByteArray→Prop} (hv:TV t) (h:κ (B (ttx t))):uR t κ:=by
 obtain ⟨a1,a2,a3,a4,a5⟩:=id hv
 have ht:=Uk t.xField
 have hn:=zea t.xField
 have d1:=Vo (n:=t.xLo.toNat) (by omega)
 have d2:=Vo (n:=t.xHi.toNat) (by omega)
 unfold uR jnW
 refine zeS a1 a2 (fun e he _=>?_)
 rw [he]
 refine yj (m:=[32]) (by simp;omega) (ze1 a3 (by omega) (yj (by simp;omega) ?_))
 have key:∀ p:List UInt8,p.length≤4→ttx t=p++btx t→ifW (!(decide (t.xHi=t.xLo))) (Z9 t.xHi (fun r71=>uS (ByteArray.mk #[45]) r71 (fun s72=>uS (B (p++(nm t.xField++[32]++decDigits t.xLo.toNat))) s72 (fun s73=>κ s73)))) (κ (B (p++(nm t.xField++[32]++decDigits t.xLo.toNat)))):=by
  intro p hp e
  refine zi (fun hc=>?_) (fun hc=>?_)
  ·simp at hc
   refine ze1 (by omega) (by omega) (yj (l:=[45]) (by simp;omega) (yj (by simp;omega) ?_))
   rw [e] at h
   simpa [btx,rtx,if_neg hc,List.append_assoc] using h
  ·simp at hc
   rw [e] at h
   simpa [btx,rtx,if_pos hc,List.append_assoc] using h
 refine zi (fun hc=>?_) (fun hc=>?_)
 ·exact yj (l:=[110,111,116,32]) (by simp;omega) (key [110,111,116,32] (by simp) (by rw [U4,if_pos hc]))
 ·exact key [] (by simp) (by rw [U4,if_neg (by simp [hc])])
theorem Vs {t:zL} {κ:ByteArray→Prop} (h:κ (B (zff t))):un t κ:=by
 unfold un jnW
 refine UV (zi (fun hc=>?_) (fun hc=>?_))
 ·simp at hc;rw [zff,if_neg hc] at h;exact h
 ·simp at hc;rw [zff,if_pos hc] at h
  obtain ⟨a1,a2,a3,a4,a5⟩:=id hc
  have ht:=Uk t.xField
  have hn:=zea t.xField
  have d1:=Vo (n:=t.xLo.toNat) (by omega)
  have d2:=Vo (n:=t.xHi.toNat) (by omega)
  have key:∀ p:List UInt8,p.length≤4→ttx t=p++btx t→ifW (!(decide (t.xHi=t.xLo))) (uS (B (p++(nm t.xField++[32]++decDigits t.xLo.toNat))) (ByteArray.mk #[45]) (fun s83=>jH t.xHi (fun r84=>uS s83 r84 (fun s85=>κ s85)))) (κ (B (p++(nm t.xField++[32]++decDigits t.xLo.toNat)))):=by
   intro p hp e
   refine zi (fun hc=>?_) (fun hc=>?_)
   ·simp at hc
    refine yj (m:=[45]) (by simp;omega) (Yg (by omega) (by omega) (yj (by simp;omega) ?_))
    rw [e] at h
    simpa [btx,rtx,if_neg hc,List.append_assoc] using h
   ·simp at hc
    rw [e] at h
    simpa [btx,rtx,if_pos hc,List.append_assoc] using h
  have fin:ifW t.xNot (uS (ByteArray.mk #[110,111,116,32]) (B (nm t.xField++[32]++decDigits t.xLo.toNat)) (fun s20=>ifW (!(decide (t.xHi=t.xLo))) (uS s20 (ByteArray.mk #[45]) (fun s83=>jH t.xHi (fun r84=>uS s83 r84 (fun s85=>κ s85)))) (κ s20))) (ifW (!(decide (t.xHi=t.xLo))) (uS (B (nm t.xField++[32]++decDigits t.xLo.toNat)) (ByteArray.mk #[45]) (fun s83=>jH t.xHi (fun r84=>uS s83 r84 (fun s85=>κ s85)))) (κ (B (nm t.xField++[32]++decDigits t.xLo.toNat)))):=by
   refine zi (fun hc=>?_) (fun hc=>?_)
   ·exact yj (l:=[110,111,116,32]) (by simp;omega) (key [110,111,116,32] (by simp) (by rw [U4,if_pos hc]))
   ·exact key [] (by simp) (by rw [U4,if_neg (by simp [hc])])
  have z:jH t.xLo (fun r15=>zI [(ByteArray.mk #[102,114,111,109]),(ByteArray.mk #[116,111]),(ByteArray.mk #[112,111,114,116]),(ByteArray.mk #[112,114,111,116,111])] t.xField (fun e16=>uS e16 (ByteArray.mk #[32]) (fun s13=>uS s13 r15 (fun t4=>ifW t.xNot (uS (ByteArray.mk #[110,111,116,32]) t4 (fun s20=>ifW (!(decide (t.xHi=t.xLo))) (uS s20 (ByteArray.mk #[45]) (fun s83=>jH t.xHi (fun r84=>uS s83 r84 (fun s85=>κ s85)))) (κ s20))) (ifW (!(decide (t.xHi=t.xLo))) (uS t4 (ByteArray.mk #[45]) (fun s83=>jH t.xHi (fun r84=>uS s83 r84 (fun s85=>κ s85)))) (κ t4)))))) :=
   Yg a3 (by omega) (zjc a1 a2 (yj (m:=[32]) (by simp;omega) (yj (by simp;omega) fin)))
  exact ⟨⟨zjc a1 a2 ⟨yj (m:=[32]) (by simp;omega) (Yg a3 (by omega) (yj (by simp;omega) fin)),Yg a3 (by omega) (yj (m:=[32]) (by simp;omega) (yj (by simp;omega) fin))⟩,z⟩,z⟩
end
section
open Go Go.Proofs
def XE (a b:List zj):Int×Bool :=
 match ja a b with
 | []=>(0,false)
 | s :: _=>(s.xLo,true)
theorem zkr {a b:List zj} (ha:NF a) (hb:NF b) {v:Int} (h1:hv a v) (h2:hv b v) (h3:∀ x,hv a x→hv b x→v≤x):XE a b=(v,true):=by
 have hm:=zdr ha hb
 unfold XE
 have hv0:=(VM a b v).2 ⟨h1,h2⟩
 have hall:∀ x,hv (ja a b) x→v≤x:=fun x hx=>by
  obtain ⟨e1,e2⟩:=(VM a b x).1 hx
  exact h3 x e1 e2
 generalize ja a b=m at hm hv0 hall
 cases m with
 | nil=>exact absurd hv0 (ZE v)
 | cons s m =>
  have e1:=hall s.xLo ((ub _ _ _).2 (.inl ⟨Int.le_refl _,hm.1 s (by simp)⟩))
  have e2:=zdH hm hv0
  simp only [Prod.mk.injEq,and_true]
  omega
theorem ziv {a b:List zj} (h:∀ x,hv a x→hv b x→False) (ha:NF a) (hb:NF b):XE a b=(0,false):=by
 unfold XE
 have hm:=zdr ha hb
 have hall:∀ x,¬ hv (ja a b) x:=fun x hx=>by
  obtain ⟨e1,e2⟩:=(VM a b x).1 hx
  exact h x e1 e2
 generalize ja a b=m at hm hall
 cases m with
 | nil=>rfl
 | cons s m=>exact absurd ((ub s m s.xLo).2 (.inl ⟨Int.le_refl _,hm.1 s (by simp)⟩)) (hall _)
theorem zjp {a:List zj} {i:Nat} (h:i<a.length) (x:Int):hv (a.drop i) x↔(a[i].xLo≤x∧x≤a[i].xHi)∨hv (a.drop (i+1)) x:=by
 rw [List.drop_eq_getElem_cons h,ub]
theorem zbV {a:List zj} {i:Nat} (hn:NF a) (h:i<a.length) {x:Int} (hx:hv (a.drop i) x):a[i].xLo≤x:=by
 have:=zcN i hn
 rw [List.drop_eq_getElem_cons h] at this hx
 exact zdH this hx
theorem U8 {a b:List zj} {ta tb:Int} (ha:St a ta) (hb:St b tb) (h0:0≤ta) (ht:ta≤65535) (h1:0≤tb) (hu:tb≤65535) {κ:Int×Bool→Prop} (h:κ (XE a b)):XG a b κ:=by
 have la:=VU ha (by omega)
 have lb:=VU hb (by omega)
 unfold XG
 refine yE (fun (s:Int×Int)=>∃ i j:Nat,s.1=i∧s.2=j∧i≤a.length∧j≤b.length∧∀ x,hv a x→hv b x→hv (a.drop i) x∧hv (b.drop j) x) (fun s=>(a.length+b.length - s.1 - s.2).toNat) ?_ ⟨0,0,rfl,rfl,Nat.zero_le _,Nat.zero_le _,fun x q1 q2=>⟨by simpa using q1,by simpa using q2⟩⟩
 rintro ⟨_,_⟩ next ⟨i,j,rfl,rfl,hi,hj,hx⟩ hn
 simp only at hn ⊢
 unfold jnW
 have none:(i=a.length∨j=b.length)→κ (0,false):=fun hh=>by
  rw [ziv (fun x q1 q2=>?_) ha.1 hb.1] at h
  ·exact h
  ·obtain ⟨r1,r2⟩:=hx x q1 q2
   rcases hh with e | e
   ·subst e;rw [List.drop_length] at r1;exact ZE x r1
   ·subst e;rw [List.drop_length] at r2;exact ZE x r2
 refine zi (fun hc=>?_) (fun hc=>?_)
 rotate_left 1
 ·have:a.length≤i:=by simpa using hc
  exact jK (none (.inl (by omega)))
 have hi2:i<a.length:=by simpa using hc
 refine zi (fun hd=>?_) (fun hd=>?_)
 rotate_left 1
 ·have:b.length≤j:=by simpa using hd
  exact none (.inr (by omega))
 have hj2:j<b.length:=by simpa using hd
 have a1:=ha.1.1 _ (List.getElem_mem hi2)
 have b1:=hb.1.1 _ (List.getElem_mem hj2)
 have ma:hv a a[i].xLo∧hv a a[i].xHi:=zap ha.1 (List.getElem_mem hi2)
 have mb:hv b b[j].xLo∧hv b b[j].xHi:=zap hb.1 (List.getElem_mem hj2)
 refine zp i rfl hi2 (zp j rfl hj2 (zp i rfl hi2 (zp j rfl hj2 (zi (fun he=>?_) (fun he=>?_)))))
 ·have he':max a[i].xLo b[j].xLo≤min a[i].xHi b[j].xHi:=by simpa using he
  rw [zkr ha.1 hb.1 (v:=max a[i].xLo b[j].xLo) ⟨a[i],List.getElem_mem hi2,by omega,by omega⟩ ⟨b[j],List.getElem_mem hj2,by omega,by omega⟩ (fun x q1 q2=>?_)] at h
  ·exact h
  ·obtain ⟨r1,r2⟩:=hx x q1 q2
   have:=zbV ha.1 hi2 r1
   have:=zbV hb.1 hj2 r2
   omega
 ·have he':¬ max a[i].xLo b[j].xLo≤min a[i].xHi b[j].xHi:=by simpa using he
  refine zp i rfl hi2 (zp j rfl hj2 (zi (fun hf=>?_) (fun hf=>?_)))
  ·have hf':a[i].xHi<b[j].xHi:=by simpa using hf
   refine zz (by omega) (by omega) (hn _ ⟨i+1,j,by simp,rfl,by omega,hj,fun x q1 q2=>?_⟩ (by simp only;omega))
   obtain ⟨r1,r2⟩:=hx x q1 q2
   refine ⟨?_,r2⟩
   rcases (zjp hi2 x).1 r1 with e | e
   ·have:=zbV hb.1 hj2 r2;omega
   ·exact e
  ·have hf':¬ a[i].xHi<b[j].xHi:=by simpa using hf
   refine zz (by omega) (by omega) (hn _ ⟨i,j+1,rfl,by simp,hi,by omega,fun x q1 q2=>?_⟩ (by simp only;omega))
   obtain ⟨r1,r2⟩:=hx x q1 q2
   refine ⟨r1,?_⟩
   rcases (zjp hj2 x).1 r2 with e | e
   ·have:=zbV ha.1 hi2 r1;omega
   ·exact e
def B4 (a:za):Prop:=St a.x0 65535∧St a.x1 65535∧St a.x2 255∧St a.x3 7
def F4 (a:za):Prop:=a.x0.length≤40∧a.x1.length≤40∧a.x2.length≤40∧a.x3.length≤40
instance (a:za):Decidable (F4 a):=by unfold F4;infer_instance
def zd4:za:=⟨[],[],[],[]⟩
def yc (a b:za):za:=⟨ja a.x0 b.x0,ja a.x1 b.x1,ja a.x2 b.x2,ja a.x3 b.x3⟩
theorem zh6 {a b:za} (ha:B4 a) (hb:B4 b):B4 (yc a b):=⟨XN ha.1 hb.1.1,XN ha.2.1 hb.2.1.1,XN ha.2.2.1 hb.2.2.1.1,XN ha.2.2.2 hb.2.2.2.1⟩
def em4 (a:za):Bool:=decide (a.x0=[]∨a.x1=[]∨a.x2=[]∨a.x3=[])
def zkV (a:za):za×Bool:=if F4 a then (a,true) else (zd4,false)
def zcE:za:=⟨[⟨0,65535⟩],[⟨0,65535⟩],[⟨0,255⟩],[⟨0,7⟩]⟩
theorem zhg:B4 zcE:=by refine ⟨?_,?_,?_,?_⟩ <;> exact ⟨VY (by decide),fun s hs=>by simp only [zcE,List.mem_singleton] at hs;subst hs;decide⟩
theorem zdC {a:za} {κ:Bool→Prop} (h:κ (em4 a)):u7 a κ:=by
 obtain ⟨x0,x1,x2,x3⟩:=a
 simp only [em4] at h
 unfold u7
 refine ⟨5,?_⟩
 refine jt (zp 0 rfl (by simp) (zi (fun e=>?_) (fun e=>zz (by decide) (by decide) ?_)))
 ·have:x0=[]:=by simpa using e
  subst this;simpa using h
 have e0:x0≠[]:=by simpa using e
 refine jt (zp 1 rfl (by simp) (zi (fun e=>?_) (fun e=>zz (by decide) (by decide) ?_)))
 ·have:x1=[]:=by simpa using e
  subst this;simpa using h
 have e1:x1≠[]:=by simpa using e
 refine jt (zp 2 rfl (by simp) (zi (fun e=>?_) (fun e=>zz (by decide) (by decide) ?_)))
 ·have:x2=[]:=by simpa using e
  subst this;simpa using h
 have e2:x2≠[]:=by simpa using e
 refine jt (zp 3 rfl (by simp) (zi (fun e=>?_) (fun e=>zz (by decide) (by decide) ?_)))
 ·have:x3=[]:=by simpa using e
  subst this;simpa using h
 have e3:x3≠[]:=by simpa using e
 refine jK ?_
 simpa [e0,e1,e2,e3] using h
theorem zo3:top 0=65535:=rfl
theorem zoF:top 1=65535:=rfl
theorem zoU:top 2=255:=rfl
theorem zoo:top 3=7:=rfl
theorem ZR {n:Int} {κ:Int→Prop} (h0:0≤n) (h1:n≤3) (h:κ (top n)):jw n κ:=zbg (by rw [if_pos ⟨h0,h1⟩];exact h)
theorem zmE {a b:za} (ha:B4 a) (hb:B4 b) {κ:za×Bool→Prop} (h:κ (zkV (yc a b))):Yf a b κ:=by
 obtain ⟨a0,a1,a2,a3⟩:=a
 obtain ⟨b0,b1,b2,b3⟩:=b
 obtain ⟨p0,p1,p2,p3⟩:=ha
 obtain ⟨q0,q1,q2,q3⟩:=hb
 simp only at p0 p1 p2 p3 q0 q1 q2 q3
 have hT:(ja a0 b0).length≤40→(ja a1 b1).length≤40→(ja a2 b2).length≤40→(ja a3 b3).length≤40→κ (⟨ja a0 b0,ja a1 b1,ja a2 b2,ja a3 b3⟩,true):=fun e0 e1 e2 e3=>by
  have:zkV (yc ⟨a0,a1,a2,a3⟩ ⟨b0,b1,b2,b3⟩)=(yc ⟨a0,a1,a2,a3⟩ ⟨b0,b1,b2,b3⟩,true):=if_pos ⟨e0,e1,e2,e3⟩
  rw [this] at h;exact h
 have hF:¬ ((ja a0 b0).length≤40∧(ja a1 b1).length≤40∧(ja a2 b2).length≤40∧(ja a3 b3).length≤40)→κ (zd4,false):=fun e=>by
  have:zkV (yc ⟨a0,a1,a2,a3⟩ ⟨b0,b1,b2,b3⟩)=(zd4,false):=if_neg e
  rw [this] at h;exact h
 clear h
 unfold Yf
 refine ⟨5,?_⟩
 refine jt ?_
 unfold jnW
 refine zp 0 rfl (by simp) (zp 0 rfl (by simp) (ZR (n:=(0:Int)) (by decide) (by decide) (Up (top:=top 0) p0 q0 (by decide) (by decide) ?_)))
 unfold lim
 by_cases c0:40<(ja a0 b0).length
 ·simp only [List.getElem_cons_zero,c0,if_true]
  exact jt (hF (by omega))
 simp only [List.getElem_cons_zero,c0,if_false]
 refine jK (zp 0 rfl (by simp) (zz (by decide) (by decide) ?_))
 refine jt ?_
 refine zp 1 rfl (by simp) (zp 1 rfl (by simp) (ZR (n:=(1:Int)) (by decide) (by decide) (Up (top:=top 1) p1 q1 (by decide) (by decide) ?_)))
 unfold lim
 by_cases c1:40<(ja a1 b1).length
 ·simp only [List.getElem_cons_zero,List.getElem_cons_succ,c1,if_true]
  exact jt (hF (by omega))
 simp only [List.getElem_cons_zero,List.getElem_cons_succ,c1,if_false]
 refine jK (zp 1 rfl (by simp) (zz (by decide) (by decide) ?_))
 refine jt ?_
 refine zp 2 rfl (by simp) (zp 2 rfl (by simp) (ZR (n:=(2:Int)) (by decide) (by decide) (Up (top:=top 2) p2 q2 (by decide) (by decide) ?_)))
 unfold lim
 by_cases c2:40<(ja a2 b2).length
 ·simp only [List.getElem_cons_zero,List.getElem_cons_succ,c2,if_true]
  exact jt (hF (by omega))
 simp only [List.getElem_cons_zero,List.getElem_cons_succ,c2,if_false]
 refine jK (zp 2 rfl (by simp) (zz (by decide) (by decide) ?_))
 refine jt ?_
 refine zp 3 rfl (by simp) (zp 3 rfl (by simp) (ZR (n:=(3:Int)) (by decide) (by decide) (Up (top:=top 3) p3 q3 (by decide) (by decide) ?_)))
 unfold lim
 by_cases c3:40<(ja a3 b3).length
 ·simp only [List.getElem_cons_zero,List.getElem_cons_succ,c3,if_true]
  exact jt (hF (by omega))
 simp only [List.getElem_cons_zero,List.getElem_cons_succ,c3,if_false]
 refine jK (zp 3 rfl (by simp) (zz (by decide) (by decide) ?_))
 refine jK ?_
 exact ⟨_,_,_,_,rfl,hT (by omega) (by omega) (by omega) (by omega)⟩
end
section
open Go.Lib (decDigits)
def zpd (t:zL):Prop:=0≤t.xField∧t.xField≤3∧0≤t.xLo∧t.xLo≤999999∧0≤t.xHi∧t.xHi≤999999
theorem zn5 {a b:Int} (ha:0≤a∧a≤3) (hb:0≤b∧b≤3) (h:nm a=nm b):a=b:=by
 rcases zaf ha.1 ha.2 with rfl | rfl | rfl | rfl <;> rcases zaf hb.1 hb.2 with rfl | rfl | rfl | rfl <;> first | rfl | (exact absurd h (by decide))
theorem zoR {a b:Int} {r s:List UInt8} (ha:0≤a∧a≤3) (hb:0≤b∧b≤3) (h:nm a++32 :: r=(nm b++[32])++s):a=b:=by
 rcases zaf ha.1 ha.2 with rfl | rfl | rfl | rfl <;> rcases zaf hb.1 hb.2 with rfl | rfl | rfl | rfl <;> first | rfl | (simp [nm] at h)
theorem zjC {l:List UInt8} {a:Int} {κ:Int×Bool×Int→Prop} (n:Nat) (ea:a=n) (hn:n≤l.length) (hl:l.length≤100000000000)
  (hok:∀ f:Int,0≤f→f≤3→∀ r,l.drop n=nm f++32 :: r→κ (f,true,((n+(nm f).length+1:Nat):Int))) (hno:(¬ ∃ f:Int,0≤f∧f≤3∧∃ r,l.drop n=nm f++32 :: r)→κ (0,false,(n:Int))):ye (B l) a κ:=by
 subst ea
 unfold ye
 refine zK 4 (fun s=>s.2) (fun k s=>s=((n:Int),(k:Int))∧k≤4∧∀ i:Nat,i<k→∀ r,l.drop n≠(nm (i:Int)++[32])++r) (fun k s h=>by rw [h.1]) (fun k s h=>h.2.1) ?_ ⟨rfl,Nat.zero_le _,fun i hi=>by omega⟩
 rintro k _ next ⟨rfl,hk,he⟩ hnx
 refine zi (fun hc=>?_) (fun hc=>?_)
 ·have hlt:k<4:=by simp at hc;omega
  refine zeS (by omega) (by omega) (fun e en _=>?_)
  have hnl:=zea (k:Int)
  rw [en]
  refine yj (m:=[32]) (by simp;omega) ?_
  refine VT n rfl hn (by omega) (by simp;omega) (fun r e=>?_) (fun hne=>?_)
  ·simp only [xS]
   have:=hok (k:Int) (by omega) (by omega) r (by simpa using e)
   simpa [Nat.add_assoc] using this
  ·simp only [xB]
   refine zz (by omega) (by omega) (hnx hlt _ ⟨by simp,by omega,fun i hi r e=>?_⟩)
   by_cases hik:i=k
   ·subst hik;exact hne r e
   ·exact he i (by omega) r e
 ·have hge:k=4:=by simp at hc;omega
  subst hge
  refine hno (fun ⟨f,f0,f1,r,e⟩=>?_)
  obtain ⟨i,rfl⟩:=Int.eq_ofNat_of_zero_le f0
  exact he i (by omega) r (by simpa using e)
theorem zfK {l:List UInt8} {a:Int} {κ:zL×Bool×Int→Prop} (n:Nat) (ea:a=n) (hn:n≤l.length) (hl:l.length≤100000000000)
  (h:∀ t m,zpd t→n<m→m≤l.length→κ (t,true,(m:Int))) (hz:∀ m:Nat,n≤m→m≤l.length→κ (zL.mk 0 0 0 false,false,(m:Int))):yq (B l) a κ:=by
 have six:∀ n,val (run 6 (l.drop n))≤999999:=fun n=>zlT (ziY 6 _) (zdv 6 _).1
 have rl:∀ n,n≤l.length→n+(run 6 (l.drop n)).length≤l.length:=fun n hn=>by have:=(zdv 6 (l.drop n)).2;simp at this;omega
 have wl:∀ (n:Nat) (w r:List UInt8),n≤l.length→l.drop n=w++r→n+w.length≤l.length:=fun n w r hn e=>by have:=congrArg List.length e;simp at this;omega
 have rest:∀ (b:Bool) (m0:Nat),n≤m0→m0≤l.length→ye (B l) (m0:Int) (fun (r9,r10,r11)=>ifW (!r10) (κ ((zL.mk 0 0 0 false),false,r11)) (xj (B l) r11 (fun (r12,r13,r14)=>ifW (!r13) (κ ((zL.mk 0 0 0 false),false,r14)) (jL (B l) r14 (ByteArray.mk #[45]) (fun (r15,r16)=>ifW r15 (xj (B l) r16 (fun (r17,r18,r19)=>ifW (!r18) (κ ((zL.mk 0 0 0 false),false,r19)) (κ ((zL.mk r9 r12 r17 b),true,r19)))) (κ ((zL.mk r9 r12 r12 b),true,r16))))))):=by
  intro b m0 h0 h1
  refine zjC m0 rfl h1 hl (fun f f0 f1 r e=>?_) (fun _=>?_)
  ·have hm:=wl m0 (nm f++[32]) r h1 (by simpa using e)
   simp only [List.length_append,List.length_singleton] at hm
   simp only [Bool.not_true,xB]
   refine zbL (m0+(nm f).length+1) rfl (by omega) (by omega) ?_
   have hv:=six (m0+(nm f).length+1)
   have hr:=rl (m0+(nm f).length+1) (by omega)
   generalize run 6 (l.drop (m0+(nm f).length+1))=R at *
   refine zi (fun _=>hz _ (by omega) hr) (fun _=>?_)
   refine VT (w:=[45]) (m0+(nm f).length+1+R.length) rfl hr (by omega) (by simp) (fun r2 e2=>?_) (fun _=>?_)
   ·have hm2:=wl _ _ _ hr e2
    simp only [xS]
    refine zbL _ rfl hm2 (by omega) ?_
    have hv2:=six (m0+(nm f).length+1+R.length+([45]:List UInt8).length)
    have hr2:=rl _ hm2
    generalize run 6 (l.drop (m0+(nm f).length+1+R.length+([45]:List UInt8).length))=R2 at *
    refine zi (fun _=>hz _ (by omega) hr2) (fun _=>h _ _ ⟨f0,f1,by simp,by simp;omega,by simp,by simp;omega⟩ (by omega) hr2)
   ·simp only [xB]
    exact h _ _ ⟨f0,f1,by simp,by simp;omega,by simp,by simp;omega⟩ (by omega) hr
  ·simp only [Bool.not_false,xS]
   exact hz _ h0 h1
 subst ea
 unfold yq jnW
 refine VT (w:=[110,111,116,32]) n rfl hn (by omega) (by simp) (fun r e=>?_) (fun _=>?_)
 ·exact rest true _ (by omega) (wl _ _ _ hn e)
 ·exact rest false _ (by omega) hn
def zlM (r:List UInt8):Prop:=∀ c m,r=c :: m→c=44
theorem zlM.dg {r:List UInt8} (h:zlM r):∀ c m,r=c :: m→dg c=false:=fun c m e=>by rw [h c m e];decide
theorem zfq {l p r:List UInt8} {t:zL} {a:Int} {κ:zL×Bool×Int→Prop} (ht:TV t) (hr:zlM r) (el:l=p++(ttx t++r)) (ea:a=(p.length:Nat)) (hl:l.length≤100000000000)
  (h:κ (t,true,((p.length+(ttx t).length:Nat):Int))):yq (B l) a κ:=by
 obtain ⟨a1,a2,a3,a4,a5⟩:=id ht
 have htop:=Uk t.xField
 have hnl:=zea t.xField
 have rest:∀ (q:List UInt8),l=q++(btx t++r)→κ (t,true,((q.length+(btx t).length:Nat):Int))→ye (B l) (q.length:Int) (fun (r9,r10,r11)=>ifW (!r10) (κ ((zL.mk 0 0 0 false),false,r11)) (xj (B l) r11 (fun (r12,r13,r14)=>ifW (!r13) (κ ((zL.mk 0 0 0 false),false,r14)) (jL (B l) r14 (ByteArray.mk #[45]) (fun (r15,r16)=>ifW r15 (xj (B l) r16 (fun (r17,r18,r19)=>ifW (!r18) (κ ((zL.mk 0 0 0 false),false,r19)) (κ ((zL.mk r9 r12 r17 t.xNot),true,r19)))) (κ ((zL.mk r9 r12 r12 t.xNot),true,r16))))))):=by
  intro q eq hq
  have hlen:l.length=q.length+((btx t).length+r.length):=by rw [eq];simp
  have hbl:(btx t).length=(nm t.xField).length+1+(rtx t).length:=by simp [btx];omega
  have d0:l.drop q.length=nm t.xField++32 :: (rtx t++r):=by rw [eq,Vd rfl];simp [btx]
  have d1:l.drop (q.length+(nm t.xField).length+1)=rtx t++r:=by
   rw [Nat.add_assoc,← List.drop_drop,d0,← List.drop_drop,Vd rfl];rfl
  refine zjC q.length rfl (by omega) hl (fun f f0 f1 s e=>?_) (fun hno=>absurd ⟨_,a1,a2,_,d0⟩ hno)
  have ef:t.xField=f:=zoR (s:=s) ⟨a1,a2⟩ ⟨f0,f1⟩ (by rw [← d0,e];simp)
  subst ef
  simp only [Bool.not_true,xB]
  refine zbL (q.length+(nm t.xField).length+1) rfl (by omega) (by omega) ?_
  rw [d1]
  have el:((t.xLo.toNat:Nat):Int)=t.xLo:=by omega
  have eh:((t.xHi.toNat:Nat):Int)=t.xHi:=by omega
  by_cases hlh:t.xHi=t.xLo
  ·have e1:rtx t=decDigits t.xLo.toNat:=by simp [rtx,hlh]
   have hll:(rtx t).length=(decDigits t.xLo.toNat).length:=by rw [e1]
   rw [e1,zeO (by omega) hr.dg,decide_eq_true (zdE _),zai]
   simp only [Bool.not_true,xB]
   have d2:l.drop (q.length+(nm t.xField).length+1+(decDigits t.xLo.toNat).length)=r:=by rw [← List.drop_drop,d1,e1,Vd rfl]
   refine VT (w:=[45]) _ rfl (by omega) (by omega) (by simp) (fun s es=>?_) (fun _=>?_)
   ·rw [d2] at es
    exact absurd (hr 45 s (by simpa using es)) (by decide)
   ·simp only [xB]
    have et:zL.mk t.xField t.xLo t.xLo t.xNot=t:=by cases t;simp_all
    rw [el,et]
    have en:q.length+(nm t.xField).length+1+(decDigits t.xLo.toNat).length=q.length+(btx t).length:=by omega
    rw [en];exact hq
  ·have e1:rtx t=decDigits t.xLo.toNat++45 :: decDigits t.xHi.toNat:=by simp [rtx,hlh]
   have hll:(rtx t).length=(decDigits t.xLo.toNat).length+1+(decDigits t.xHi.toNat).length:=by rw [e1];simp;omega
   rw [e1,List.append_assoc,List.cons_append,zeO (by omega) (zhQ (by decide)),decide_eq_true (zdE _),zai]
   simp only [Bool.not_true,xB]
   have d2:l.drop (q.length+(nm t.xField).length+1+(decDigits t.xLo.toNat).length)=45 :: (decDigits t.xHi.toNat++r):=by
    rw [← List.drop_drop,d1,e1,List.append_assoc,Vd rfl];rfl
   have d3:l.drop (q.length+(nm t.xField).length+1+(decDigits t.xLo.toNat).length+([45]:List UInt8).length)=decDigits t.xHi.toNat++r:=by
    rw [← List.drop_drop,d2];rfl
   refine VT (w:=[45]) _ rfl (by omega) (by omega) (by simp) (fun s es=>?_) (fun hno=>absurd (by rw [d2];rfl) (hno (decDigits t.xHi.toNat++r)))
   simp only [xS]
   refine zbL _ rfl (by simp;omega) (by omega) ?_
   rw [d3,zeO (by omega) hr.dg,decide_eq_true (zdE _),zai]
   simp only [Bool.not_true,xB]
   have et:zL.mk t.xField t.xLo t.xHi t.xNot=t:=by cases t;rfl
   rw [el,eh,et]
   have en:q.length+(nm t.xField).length+1+(decDigits t.xLo.toNat).length+([45]:List UInt8).length+(decDigits t.xHi.toNat).length=q.length+(btx t).length:=by simp;omega
   rw [en];exact hq
 subst ea
 have hlen:l.length=p.length+((ttx t).length+r.length):=by rw [el];simp
 unfold yq jnW
 by_cases hn:t.xNot=true
 ·have e:ttx t=[110,111,116,32]++btx t:=by rw [U4,if_pos hn]
  have e':l=(p++[110,111,116,32])++(btx t++r):=by rw [el,e];simp
  refine VT (w:=[110,111,116,32]) p.length rfl (by omega) (by omega) (by simp) (fun s es=>?_) (fun hno=>absurd (by rw [el,Vd rfl,e,List.append_assoc]) (hno (btx t++r)))
  have e3:(p++([110,111,116,32]:List UInt8)).length+(btx t).length=p.length+(ttx t).length:=by rw [e];simp;omega
  have:=rest (p++[110,111,116,32]) e' (by rw [e3];exact h)
  rw [hn] at this
  simpa using this
 ·have hf:t.xNot=false:=by simpa using hn
  have e:ttx t=btx t:=by rw [U4,if_neg hn];rfl
  refine VT (w:=[110,111,116,32]) p.length rfl (by omega) (by omega) (by simp) (fun s es=>?_) (fun _=>?_)
  ·rw [el,Vd rfl,e] at es
   exfalso
   rcases zaf a1 a2 with e0 | e0 | e0 | e0 <;> simp [btx,nm,e0] at es
  ·have:=rest p (by rw [el,e]) (by rw [e] at h;exact h)
   rw [hf] at this
   exact this
end
section
open Go.Lib (decDigits)
theorem zn2 {x:List UInt8} {κ:Int→Prop} (h:∀ v:Int,-1≤v→v≤3→(∀ f:Int,0≤f→f≤3→x=nm f→v=f)→κ v) :
  z8 (fun (nx202:(Int×Int)→Prop) ((t200,t201):(Int×Int))=>ifW (decide (t201<(([(ByteArray.mk #[102,114,111,109]),(ByteArray.mk #[116,111]),(ByteArray.mk #[112,111,114,116]),(ByteArray.mk #[112,114,111,116,111])]).length:Int))) (jnW (fun (t265:Int)=>jh t201 1 (fun t267=>nx202 (t265,t267))) (fun k266=>zI ([(ByteArray.mk #[102,114,111,109]),(ByteArray.mk #[116,111]),(ByteArray.mk #[112,111,114,116]),(ByteArray.mk #[112,114,111,116,111])]) t201 (fun e203=>ifW (decide (B x=e203)) (k266 t201) (k266 t200)))) (κ t200)) ((-1),0):=by
 refine zK 4 (fun s=>s.2) (fun k s=>s.2=(k:Int)∧k≤4∧-1≤s.1∧s.1≤3∧∀ f:Nat,f<k→x=nm (f:Int)→s.1=(f:Int)) (fun k s h=>h.1) (fun k s h=>h.2.1) ?_ ⟨rfl,Nat.zero_le _,by simp,by simp,fun i hi=>by omega⟩
 rintro k ⟨v,_⟩ next ⟨rfl,hk,v1,v2,he⟩ hnx
 simp only at v1 v2 he
 refine zi (fun hc=>?_) (fun hc=>?_)
 ·have hlt:k<4:=by simp at hc;omega
  unfold jnW
  refine zjc (by omega) (by omega) ?_
  rw [zak]
  refine zi (fun hc2=>?_) (fun hc2=>?_)
  ·refine zz (by omega) (by omega) (hnx hlt _ ⟨by simp,by omega,by simp only;omega,by simp only;omega,fun f hf e=>?_⟩)
   simp at hc2
   exact (zn5 ⟨by omega,by omega⟩ ⟨by omega,by omega⟩ (hc2.symm.trans e))
  ·refine zz (by omega) (by omega) (hnx hlt _ ⟨by simp,by omega,v1,v2,fun f hf e=>?_⟩)
   simp at hc2
   by_cases hfk:f=k
   ·subst hfk;exact absurd e hc2
   ·exact he f (by omega) e
 ·have hge:k=4:=by simp at hc;omega
  subst hge
  refine h v v1 v2 (fun f f0 f1 e=>?_)
  obtain ⟨i,rfl⟩:=Int.eq_ofNat_of_zero_le f0
  exact he i (by omega) e
theorem zjW {l:List UInt8} {y:List UInt8} {b:Bool} {κ:zL×Bool→Prop} (hy:y.length≤100000000000)
  (hK:∀ f lo hi:Int,-1≤f→f≤3→-1≤lo→lo≤999999→-1≤hi→hi≤999999 →
   (∀ t:zL,TV t→y=btx t→t.xNot=b→zL.mk f lo hi b=t) →
   un (zL.mk f lo hi b) (fun r270=>ifW (!(decide (r270=B l))) (κ ((zL.mk 0 0 0 false),false)) (ifW (decide (B l=(ByteArray.mk #[]))) (κ ((zL.mk 0 0 0 false),false)) (κ ((zL.mk f lo hi b),true))))) :
  Zi (B y) (32:UInt8) (fun (r132,r133)=>Zi r133 (45:UInt8) (fun (r134,r135)=>jnW (fun (t196:ByteArray)=>z8 (fun (nx202:(Int×Int)→Prop) ((t200,t201):(Int×Int))=>ifW (decide (t201<(([(ByteArray.mk #[102,114,111,109]),(ByteArray.mk #[116,111]),(ByteArray.mk #[112,111,114,116]),(ByteArray.mk #[112,114,111,116,111])]).length:Int))) (jnW (fun (t265:Int)=>jh t201 1 (fun t267=>nx202 (t265,t267))) (fun k266=>zI ([(ByteArray.mk #[102,114,111,109]),(ByteArray.mk #[116,111]),(ByteArray.mk #[112,111,114,116]),(ByteArray.mk #[112,114,111,116,111])]) t201 (fun e203=>ifW (decide (r132=e203)) (k266 t201) (k266 t200)))) (uG r134 (fun r268=>uG t196 (fun r269=>jnW (fun (t331:Bool)=>ifW t331 (κ ((zL.mk 0 0 0 false),false)) (κ ((zL.mk t200 r268 r269 b),true))) (fun k332=>un (zL.mk t200 r268 r269 b) (fun r270=>ifW (!(decide (r270=B l))) (k332 true) (k332 (decide (B l=(ByteArray.mk #[])))))))))) ((-1),0)) (fun k197=>ifW (decide (r135=(ByteArray.mk #[]))) (k197 r134) (k197 r135)))):=by
 refine zgR (by omega) ?_
 have l1:=zdy (c:=32) y
 refine zgR (by omega) ?_
 have l2:=zdy (c:=45) (cut 32 y).2
 have key:∀ hi:List UInt8,hi.length≤100000000000→(∀ t:zL,TV t→y=btx t→hi=decDigits t.xHi.toNat) →
   z8 (fun (nx202:(Int×Int)→Prop) ((t200,t201):(Int×Int))=>ifW (decide (t201<(([(ByteArray.mk #[102,114,111,109]),(ByteArray.mk #[116,111]),(ByteArray.mk #[112,111,114,116]),(ByteArray.mk #[112,114,111,116,111])]).length:Int))) (jnW (fun (t265:Int)=>jh t201 1 (fun t267=>nx202 (t265,t267))) (fun k266=>zI ([(ByteArray.mk #[102,114,111,109]),(ByteArray.mk #[116,111]),(ByteArray.mk #[112,111,114,116]),(ByteArray.mk #[112,114,111,116,111])]) t201 (fun e203=>ifW (decide (B (cut 32 y).1=e203)) (k266 t201) (k266 t200)))) (uG (B (cut 45 (cut 32 y).2).1) (fun r268=>uG (B hi) (fun r269=>jnW (fun (t331:Bool)=>ifW t331 (κ ((zL.mk 0 0 0 false),false)) (κ ((zL.mk t200 r268 r269 b),true))) (fun k332=>un (zL.mk t200 r268 r269 b) (fun r270=>ifW (!(decide (r270=B l))) (k332 true) (k332 (decide (B l=(ByteArray.mk #[])))))))))) ((-1),0):=by
  intro hi hhi hhc
  refine zn2 (κ:=fun t200=>uG (B (cut 45 (cut 32 y).2).1) (fun r268=>uG (B hi) (fun r269=>jnW (fun (t331:Bool)=>ifW t331 (κ ((zL.mk 0 0 0 false),false)) (κ ((zL.mk t200 r268 r269 b),true))) (fun k332=>un (zL.mk t200 r268 r269 b) (fun r270=>ifW (!(decide (r270=B l))) (k332 true) (k332 (decide (B l=(ByteArray.mk #[]))))))))) (fun f f1 f2 f3=>?_)
  refine zjP (by omega) (fun v v1 v2 v3=>zjP (by omega) (fun u u1 u2 u3=>?_))
  unfold jnW
  simp only [xS]
  refine hK f v u f1 f2 v1 v2 u1 u2 (fun t ht e en=>?_)
  obtain ⟨a1,a2,a3,a4,a5⟩:=id ht
  have htop:=Uk t.xField
  have n32:(32:UInt8) ∉ nm t.xField:=by rcases zaf a1 a2 with e0 | e0 | e0 | e0 <;> rw [e0] <;> decide
  have c1:cut 32 y=(nm t.xField,rtx t):=by rw [e];exact zas n32
  have ef:f=t.xField:=f3 _ a1 a2 (by rw [c1])
  have c2:(cut 45 (cut 32 y).2).1=decDigits t.xLo.toNat:=by
   rw [c1]
   simp only [rtx]
   by_cases hh:t.xHi=t.xLo
   ·rw [if_pos hh,List.append_nil,zfb (zau (by decide))]
   ·rw [if_neg hh,zas (zau (by decide))]
  have ev:=v3 _ c2 (by omega)
  have eu:=u3 _ (hhc t ht e) (by omega)
  have evv:v=t.xLo:=by omega
  have euu:u=t.xHi:=by omega
  rw [ef,evv,euu,← en]
 refine zi (fun hc=>?_) (fun hc=>?_)
 ·refine key _ (by omega) (fun t ht e=>?_)
  have n32:(32:UInt8) ∉ nm t.xField:=by rcases zaf ht.1 ht.2.1 with e0 | e0 | e0 | e0 <;> rw [e0] <;> decide
  have c1:cut 32 y=(nm t.xField,rtx t):=by rw [e];exact zas n32
  rw [zcf,zak] at hc
  replace hc:=of_decide_eq_true hc
  rw [c1] at hc ⊢
  simp only [rtx] at hc ⊢
  by_cases hh:t.xHi=t.xLo
  ·rw [if_pos hh,List.append_nil,zfb (zau (by decide)),hh]
  ·rw [if_neg hh,zas (zau (by decide))] at hc
   simp [zdE] at hc
 ·refine key _ (by omega) (fun t ht e=>?_)
  have n32:(32:UInt8) ∉ nm t.xField:=by rcases zaf ht.1 ht.2.1 with e0 | e0 | e0 | e0 <;> rw [e0] <;> decide
  have c1:cut 32 y=(nm t.xField,rtx t):=by rw [e];exact zas n32
  rw [zcf,zak] at hc
  replace hc:=of_decide_eq_false hc
  rw [c1] at hc ⊢
  simp only [rtx] at hc ⊢
  by_cases hh:t.xHi=t.xLo
  ·rw [if_pos hh,List.append_nil,zfb (zau (by decide))] at hc
   simp at hc
  ·rw [if_neg hh,zas (zau (by decide))]
theorem zaL {l:List UInt8} {κ:zL×Bool→Prop} (hl:l.length≤10000000000)
  (hK:∀ t:zL,(∀ t':zL,TV t'→ttx t'=l→t=t')→un t (fun r270=>ifW (!(decide (r270=B l))) (κ ((zL.mk 0 0 0 false),false)) (ifW (decide (B l=(ByteArray.mk #[]))) (κ ((zL.mk 0 0 0 false),false)) (κ (t,true))))):yY (B l) κ:=by
 have nots:∀ t:zL,TV t→t.xNot=false→∀ y,btx t≠110 :: 111 :: 116 :: 32 :: y:=by
  intro t ht hn y e
  rcases zaf ht.1 ht.2.1 with e0 | e0 | e0 | e0 <;> simp [btx,nm,e0] at e
 have plain:(∀ y,l≠110 :: 111 :: 116 :: 32 :: y)∨l.length≤4→∀ t:zL,TV t→ttx t=l→t.xNot=false∧l=btx t:=by
  intro hp t ht e
  have hnl:=zea t.xField
  by_cases hn:t.xNot=true
  ·rw [U4,if_pos hn] at e
   rcases hp with hp | hp
   ·exact absurd e.symm (hp _)
   ·have:=congrArg List.length e
    simp [btx] at this;omega
  ·have hf:t.xNot=false:=by simpa using hn
   rw [U4,if_neg hn] at e
   exact ⟨hf,e.symm⟩
 unfold yY
 have A:((∀ y,l≠110 :: 111 :: 116 :: 32 :: y)∨l.length≤4)→_:=fun hp=>zjW (l:=l) (y:=l) (b:=false) (κ:=κ) (by omega) (fun f lo hi _ _ _ _ _ _ hh=>hK _ (fun t ht e=>hh t ht (plain hp t ht e).2 (plain hp t ht e).1))
 have A2:∀ y,l=110 :: 111 :: 116 :: 32 :: y→_:=fun y hy=>zjW (l:=l) (y:=y) (b:=true) (κ:=κ) (by rw [hy] at hl;simp at hl;omega) (fun f lo hi _ _ _ _ _ _ hh=>hK _ (fun t ht e=>by
  by_cases hn:t.xNot=true
  ·rw [U4,if_pos hn,hy] at e
   exact hh t ht (by simpa using e.symm) hn
  ·have hf:t.xNot=false:=by simpa using hn
   rw [U4,if_neg hn,hy] at e
   exact absurd (by simpa using e) (nots t ht hf y)))
 rw [YO]
 refine zi (fun hc=>?_) (fun hc=>?_)
 ·simp at hc
  refine V5 0 4 rfl rfl (by omega) (by omega) ?_
  rw [show (ByteArray.mk #[110,111,116,32])=B [110,111,116,32] from rfl,zak]
  refine zi (fun hc2=>?_) (fun hc2=>?_)
  ·simp at hc2
   have hy:l=110 :: 111 :: 116 :: 32 :: l.drop 4:=by
    have:=(List.take_append_drop 4 l).symm
    rw [hc2] at this;simpa using this
   refine V5 4 l.length rfl rfl (by omega) (by omega) ?_
   rw [List.take_length]
   exact A2 _ hy
  ·simp at hc2
   exact A (.inl fun y e=>hc2 (by rw [e];rfl))
 ·simp at hc
  exact jK (A (.inr (by omega)))
theorem zey {l:List UInt8} {κ:zL×Bool→Prop} (hl:l.length≤10000000000) (hz:κ (zL.mk 0 0 0 false,false)) (h:∀ t,TV t→ttx t=l→κ (t,true)):yY (B l) κ:=by
 refine zaL hl (fun t _=>Vs (zi (fun _=>hz) (fun hc=>zi (fun _=>hz) (fun hc2=>?_))))
 rw [zcf] at hc2
 simp [zgY] at hc hc2
 by_cases hv:TV t
 ·rw [zff,if_pos hv] at hc;exact h _ hv hc
 ·rw [zff,if_neg hv] at hc;exact absurd hc.symm hc2
theorem znV (t:zL):ttx t≠[]:=by
 unfold ttx btx;split <;> simp
theorem zeM {t:zL} {κ:zL×Bool→Prop} (ht:TV t) (h:κ (t,true)):yY (B (ttx t)) κ:=by
 have hl:=zcV ht
 refine zaL (by omega) (fun t' ht'=>?_)
 rw [ht' t ht rfl]
 refine Vs ?_
 rw [zff,if_pos ht,zcf]
 simp [zgY,znV]
 exact h
end
section
open Go.Lib (decDigits)
def aw (a:Int):List UInt8:=if a=1 then [97,99,99,101,112,116] else if a=2 then [100,114,111,112] else if a=3 then [99,97,108,108] else if a=4 then [114,101,116,117,114,110] else [110,111,110,101]
def TsV (ts:List zL):Prop:=(∀ t,t∈ts→TV t)∧ts.length≤6
instance (ts:List zL):Decidable (TsV ts):=by unfold TsV;infer_instance
def HV (a c:Int):Prop:=1≤a∧a≤5∧(a=3→0≤c∧c≤4)∧(a≠3→c=0)
instance (a c:Int):Decidable (HV a c):=by unfold HV;infer_instance
def RV (r:zr):Prop:=TsV r.xTests∧HV r.xAction r.xChain
instance (r:zr):Decidable (RV r):=by unfold RV;infer_instance
def hd (a c:Int):List UInt8:=aw a++(if a=3 then 32 :: decDigits c.toNat else [])
def tl (ts:List zL):List UInt8:=ts.flatMap (fun t=>44 :: 32 :: ttx t)
def U0 (r:zr):List UInt8:=hd r.xAction r.xChain++tl r.xTests
def zei (r:zr):List UInt8:=if RV r then U0 r else []
theorem ziU {a:Int} (h0:1≤a) (h1:a≤5):a=1∨a=2∨a=3∨a=4∨a=5:=by omega
theorem zkD:tl []=[]:=rfl
theorem zb2 (t:zL) (ts:List zL):tl (t :: ts)=44 :: 32 :: (ttx t++tl ts):=by simp [tl]
theorem zha (a b:List zL):tl (a++b)=tl a++tl b:=by simp [tl]
theorem ze2:∀ (ts:List zL),(∀ t,t∈ts→TV t)→(tl ts).length≤25 * ts.length
 | [],_=>by simp [tl]
 | t :: ts,h=>by
  have h1:=ze2 ts (fun x hx=>h x (by simp [hx]))
  have h2:=zcV (h t (by simp))
  rw [zb2];simp;omega
theorem zg1 (a:Int):4≤(aw a).length∧(aw a).length≤6:=by unfold aw;(repeat' split);all_goals simp
theorem znZ {a c:Int} (h:HV a c):(hd a c).length≤13:=by
 have:=zg1 a
 unfold hd;split
 ·rename_i e
  have hc:=h.2.2.1 e
  have:=Vo (n:=c.toNat) (by omega)
  simp;omega
 ·simp;omega
theorem zfB {r:zr} (h:RV r):(U0 r).length≤163:=by
 have h1:=znZ h.2
 have h2:=ze2 _ h.1.1
 have:=h.1.2
 simp [U0];omega
theorem zah {ts:List zL} {κ:Bool→Prop} (hl:ts.length≤4294967296) (h:κ (decide (TsV ts))):ZV ts κ:=by
 unfold ZV
 refine zK ts.length (fun s=>s) (fun k s=>s=(k:Int)∧k≤ts.length∧∀ t,t∈ts.take k→TV t) (fun k s h=>h.1) (fun k s h=>h.2.1) ?_ ⟨rfl,Nat.zero_le _,by simp⟩
 rintro k _ next ⟨rfl,hk,he⟩ hn
 refine zi (fun hc=>?_) (fun hc=>?_)
 ·have hlt:k<ts.length:=by simpa using hc
  refine zp k rfl hlt (UV (zi (fun hc2=>?_) (fun hc2=>?_)))
  ·simp at hc2
   rw [decide_eq_false (fun hh:TsV ts=>hc2 (hh.1 _ (List.getElem_mem hlt)))] at h;exact h
  ·simp at hc2
   refine zz (by omega) (by omega) (hn hlt _ ⟨by omega,by omega,fun t ht=>?_⟩)
   rw [List.take_succ_eq_append_getElem hlt] at ht
   rcases List.mem_append.1 ht with ht | ht
   ·exact he t ht
   ·rw [List.mem_singleton] at ht;subst ht;exact hc2
 ·have hge:ts.length≤k:=by simpa using hc
  rw [List.take_of_length_le hge] at he
  rw [show decide ((ts.length:Int)≤6)=decide (TsV ts) from decide_eq_decide.2 ⟨fun hh=>⟨he,by omega⟩,fun hh=>by have:=hh.2;omega⟩]
  exact h
theorem zcL {ts:List zL} {κ:Bool→Prop} (hl:ts.length≤4294967296) (h:κ (decide (TsV ts))):Yc ts κ:=by
 unfold Yc
 refine zi (fun hc=>?_) (fun hc=>?_)
 ·rw [decide_eq_false (fun hh:TsV ts=>by have:=hh.2;simp at hc;omega)] at h;exact h
 simp at hc
 refine zK ts.length (fun s=>s) (fun k s=>s=(k:Int)∧k≤ts.length∧∀ t,t∈ts.take k→TV t) (fun k s h=>h.1) (fun k s h=>h.2.1) ?_ ⟨rfl,Nat.zero_le _,by simp⟩
 rintro k _ next ⟨rfl,hk,he⟩ hn
 refine zi (fun hc=>?_) (fun hc=>?_)
 ·have hlt:k<ts.length:=by simpa using hc
  refine zp k rfl hlt (zdR (zi (fun hc2=>?_) (fun hc2=>?_)))
  ·simp at hc2
   rw [decide_eq_false (fun hh:TsV ts=>hc2 (hh.1 _ (List.getElem_mem hlt)))] at h;exact h
  ·simp at hc2
   refine zz (by omega) (by omega) (hn hlt _ ⟨by omega,by omega,fun t ht=>?_⟩)
   rw [List.take_succ_eq_append_getElem hlt] at ht
   rcases List.mem_append.1 ht with ht | ht
   ·exact he t ht
   ·rw [List.mem_singleton] at ht;subst ht;exact hc2
 ·have hge:ts.length≤k:=by simpa using hc
  rw [List.take_of_length_le hge] at he
  rw [show decide (TsV ts)=true from decide_eq_true ⟨he,by omega⟩] at h;exact h
theorem zaU {r:zr} {κ:Bool→Prop} (hl:r.xTests.length≤4294967296) (h:κ (decide (RV r))):Xl r κ:=by
 have no:¬ RV r→κ false:=fun hn=>by rw [decide_eq_false hn] at h;exact h
 unfold Xl jnW
 refine zah hl (zi (fun h1=>?_) (fun h1=>no (fun hh=>by simp [hh.1] at h1)))
 simp at h1
 refine zbS (zi (fun h2=>?_) (fun h2=>no (fun hh=>by simp [hh.2.1,hh.2.2.1] at h2)))
 simp at h2
 refine zi (fun h3=>?_) (fun h3=>?_)
 ·simp at h3
  refine zbS (zi (fun h4=>?_) (fun h4=>?_))
  ·simp at h4
   rw [show decide (RV r)=true from decide_eq_true ⟨h1,h2.1,h2.2,fun _=>h4,fun e=>absurd h3 e⟩] at h;exact h
  ·simp at h4
   simp only [h3,decide_true,Bool.not_true,xB]
   exact no (fun hh=>by have:=hh.2.2.2.1 h3;omega)
 ·simp at h3
  simp only [h3,decide_false,Bool.not_false,xS]
  rw [show decide (r.xChain=0)=decide (RV r) from decide_eq_decide.2 ⟨fun hh=>⟨h1,h2.1,h2.2,fun e=>absurd e h3,fun _=>hh⟩,fun hh=>hh.2.2.2.2 h3⟩]
  exact h
theorem UQ {r:zr} {κ:Bool→Prop} (hl:r.xTests.length≤4294967296) (h:κ (decide (RV r))):Xj r κ:=by
 have no:¬ RV r→κ false:=fun hn=>by rw [decide_eq_false hn] at h;exact h
 unfold Xj jnW
 refine zcL hl (zi (fun h1=>no (fun hh=>by simp [hh.1] at h1)) (fun h1=>?_))
 simp at h1
 refine zi (fun h3=>?_) (fun h3=>?_)
 ·simp at h3
  refine zi (fun h4=>?_) (fun h4=>no (fun hh=>by have:=hh.2.2.2.1 h3;simp at h4;omega))
  simp at h4
  rw [show decide (r.xChain<5)=decide (RV r) from decide_eq_decide.2 ⟨fun hh=>⟨h1,by omega,by omega,fun _=>⟨h4,by omega⟩,fun e=>absurd h3 e⟩,fun hh=>by have:=hh.2.2.2.1 h3;omega⟩]
  exact h
 ·simp at h3
  have yes:1≤r.xAction→r.xAction≤5→κ (decide (r.xChain=0)):=fun a1 a2=>by
   rw [show decide (r.xChain=0)=decide (RV r) from decide_eq_decide.2 ⟨fun hh=>⟨h1,a1,a2,fun e=>absurd e h3,fun _=>hh⟩,fun hh=>hh.2.2.2.2 h3⟩]
   exact h
  by_cases e1:r.xAction=1
  ·simp only [e1,decide_true,xS];exact yes (by omega) (by omega)
  by_cases e2:r.xAction=2
  ·simp only [e2,decide_true,xS];exact zi (fun e=>by simp at e) (fun _=>yes (by omega) (by omega))
  by_cases e4:r.xAction=4
  ·simp only [e4,decide_true,xS]
   exact zi (fun e=>by simp at e) (fun _=>zi (fun e=>by simp at e) (fun _=>yes (by omega) (by omega)))
  by_cases e5:r.xAction=5
  ·simp only [e5,decide_true,xS]
   exact zi (fun e=>by simp at e) (fun _=>zi (fun e=>by simp at e) (fun _=>zi (fun e=>by simp at e) (fun _=>yes (by omega) (by omega))))
  simp only [e1,e2,e4,e5,decide_false,xB]
  exact no (fun hh=>by have:=hh.2.1;have:=hh.2.2.1;omega)
theorem zkY {ts:List zL} {acc:List UInt8} {κ:ByteArray→Prop} (hv:∀ t,t∈ts→TV t) (hl:ts.length≤6) (ha:acc.length≤100) (h:κ (B (acc++tl ts))) :
  z8 (fun (nx81:(ByteArray×Int)→Prop) ((t79,t80):(ByteArray×Int))=>ifW (decide (t80<(ts.length:Int))) (zI ts t80 (fun e82=>uR e82 (fun r86=>uS (ByteArray.mk #[44,32]) r86 (fun s87=>uS t79 s87 (fun s88=>jh t80 1 (fun t89=>nx81 (s88,t89))))))) (κ t79)) (B acc,0):=by
 refine zK ts.length (fun s=>s.2) (fun k s=>s=(B (acc++tl (ts.take k)),(k:Int))∧k≤ts.length) (fun k s h=>by rw [h.1]) (fun k s h=>h.2) ?_ ⟨by simp [tl],Nat.zero_le _⟩
 rintro k _ next ⟨rfl,hk⟩ hn
 have htl:=ze2 (ts.take k) (fun t ht=>hv t (List.mem_of_mem_take ht))
 simp only [List.length_take] at htl
 refine zi (fun hc=>?_) (fun hc=>?_)
 ·have hlt:k<ts.length:=by simpa using hc
  have htv:=hv _ (List.getElem_mem hlt)
  have htt:=zcV htv
  refine zp k rfl hlt (zd9 htv (yj (l:=[44,32]) (by simp;omega) (yj (by simp;omega) (zz (by omega) (by omega) (hn hlt _ ⟨?_,by omega⟩)))))
  rw [List.take_succ_eq_append_getElem hlt,zha]
  simp [tl]
 ·have hge:ts.length≤k:=by simpa using hc
  rw [List.take_of_length_le hge];exact h
theorem zio {ts:List zL} {acc:List UInt8} {κ:ByteArray→Prop} (hv:∀ t,t∈ts→TV t) (hl:ts.length≤6) (ha:acc.length≤100) (h:κ (B (acc++tl ts))) :
  z8 (fun (nx81:(ByteArray×Int)→Prop) ((t79,t80):(ByteArray×Int))=>ifW (decide (t80<(ts.length:Int))) (uS t79 (ByteArray.mk #[44,32]) (fun s82=>zI ts t80 (fun e83=>un e83 (fun r85=>uS s82 r85 (fun s86=>jh t80 1 (fun t87=>nx81 (s86,t87))))))) (κ t79)) (B acc,0):=by
 refine zK ts.length (fun s=>s.2) (fun k s=>s=(B (acc++tl (ts.take k)),(k:Int))∧k≤ts.length) (fun k s h=>by rw [h.1]) (fun k s h=>h.2) ?_ ⟨by simp [tl],Nat.zero_le _⟩
 rintro k _ next ⟨rfl,hk⟩ hn
 have htl:=ze2 (ts.take k) (fun t ht=>hv t (List.mem_of_mem_take ht))
 simp only [List.length_take] at htl
 refine zi (fun hc=>?_) (fun hc=>?_)
 ·have hlt:k<ts.length:=by simpa using hc
  have htv:=hv _ (List.getElem_mem hlt)
  have htt:=zcV htv
  refine yj (m:=[44,32]) (by simp;omega) (zp k rfl hlt (Vs ?_))
  rw [zff,if_pos htv]
  refine yj (by simp;omega) (zz (by omega) (by omega) (hn hlt _ ⟨?_,by omega⟩))
  rw [List.take_succ_eq_append_getElem hlt,zha]
  simp [tl]
 ·have hge:ts.length≤k:=by simpa using hc
  rw [List.take_of_length_le hge];exact h
theorem UT {r:zr} {κ:ByteArray→Prop} (hv:RV r) (h:κ (B (U0 r))):Zw r κ:=by
 obtain ⟨⟨v1,v2⟩,v3,v4,v5,v6⟩:=id hv
 unfold Zw yv
 have key:∀ w:List UInt8,w.length≤30→hd r.xAction r.xChain=w→z8 (fun (nx81:(ByteArray×Int)→Prop) ((t79,t80):(ByteArray×Int))=>ifW (decide (t80<(r.xTests.length:Int))) (zI r.xTests t80 (fun e82=>uR e82 (fun r86=>uS (ByteArray.mk #[44,32]) r86 (fun s87=>uS t79 s87 (fun s88=>jh t80 1 (fun t89=>nx81 (s88,t89))))))) (κ t79)) (B w,0) :=
  fun w hw e=>zkY v1 v2 (by omega) (by rw [← e];exact h)
 rcases ziU v3 v4 with e | e | e | e | e
 ·simp only [e,decide_true,xS,xn.casesW,u9,jnW]
  refine zi (fun x=>by simp at x) (fun _=>key [97,99,99,101,112,116] (by simp) (by simp [hd,aw,e]))
 ·simp only [e,decide_true,xS,xn.casesW,u9,jnW]
  refine zi (fun x=>by simp at x) (fun _=>?_)
  simp only [xB]
  refine zi (fun x=>by simp at x) (fun _=>key [100,114,111,112] (by simp) (by simp [hd,aw,e]))
 ·have hc:=v5 e
  have hd1:=Vo (n:=r.xChain.toNat) (by omega)
  simp only [e,decide_true,xS,xn.casesW,Zf,jnW]
  refine zi (fun x=>by simp at x) (fun _=>zi (fun x=>by simp at x) (fun _=>?_))
  refine ze1 (by omega) (by omega) (yj (l:=[32]) (by simp;omega) (yj (l:=[99,97,108,108]) (by simp;omega) (key ([99,97,108,108]++([32]++decDigits r.xChain.toNat)) (by simp;omega) (by simp [hd,aw,e]))))
 ·simp only [e,decide_true,xS,xn.casesW,yz,jnW]
  refine zi (fun x=>by simp at x) (fun _=>zi (fun x=>by simp at x) (fun _=>zi (fun x=>by simp at x) (fun _=>?_)))
  refine zi (fun x=>by simp at x) (fun _=>key [114,101,116,117,114,110] (by simp) (by simp [hd,aw,e]))
 ·simp only [e,decide_true,xS,xn.casesW,Ze,jnW]
  refine zi (fun x=>by simp at x) (fun _=>zi (fun x=>by simp at x) (fun _=>zi (fun x=>by simp at x) (fun _=>zi (fun x=>by simp at x) (fun _=>?_))))
  refine zi (fun x=>by simp at x) (fun _=>key [110,111,110,101] (by simp) (by simp [hd,aw,e]))
theorem zpf {a:Int} {κ:ByteArray→Prop} (h0:1≤a) (h1:a≤5) (h:κ (B (aw a))):zI ([(ByteArray.mk #[97,99,99,101,112,116]),(ByteArray.mk #[100,114,111,112]),(ByteArray.mk #[99,97,108,108]),(ByteArray.mk #[114,101,116,117,114,110]),(ByteArray.mk #[110,111,110,101])]) (a - 1) κ:=by
 rcases ziU h0 h1 with rfl | rfl | rfl | rfl | rfl
 ·exact zp 0 rfl (by decide) h
 ·exact zp 1 rfl (by decide) h
 ·exact zp 2 rfl (by decide) h
 ·exact zp 3 rfl (by decide) h
 ·exact zp 4 rfl (by decide) h
theorem Y9 {r:zr} {κ:ByteArray→Prop} (hl:r.xTests.length≤4294967296) (h:κ (B (zei r))):uK r κ:=by
 unfold uK
 refine zaU hl (zi (fun hc=>?_) (fun hc=>?_))
 ·simp at hc;rw [zei,if_neg hc] at h;exact h
 ·simp at hc;rw [zei,if_pos hc] at h
  obtain ⟨⟨v1,v2⟩,v3,v4,v5,v6⟩:=id hc
  have hal:=zg1 r.xAction
  refine ZY (by omega) (by omega) (zpf v3 v4 ?_)
  unfold jnW
  refine zi (fun hc2=>?_) (fun hc2=>?_)
  ·simp at hc2
   have hcc:=v5 hc2
   have hd1:=Vo (n:=r.xChain.toNat) (by omega)
   refine yj (m:=[32]) (by simp;omega) (Yg (by omega) (by omega) (yj (by simp;omega) (zio v1 v2 (by simp;omega) ?_)))
   simpa [U0,hd,hc2] using h
  ·simp at hc2
   refine zio v1 v2 (by omega) ?_
   simpa [U0,hd,hc2] using h
end
section
open Go.Lib (decDigits)
theorem znI {a:Int} {K:ByteArray→Prop} (h0:1≤a) (h1:a≤5) (h:K (B (aw a))):yv (zr.mk [] a 0) (fun r10=>xn.casesW r10 (fun x=>u9 x K) (fun x=>Zf x K) (fun x=>yz (xZ.mk ) K) (fun x=>Ze (yd.mk ) K)):=by
 unfold yv
 rcases ziU h0 h1 with rfl | rfl | rfl | rfl | rfl
 ·refine zi (fun _=>?_) (fun e=>by simp at e)
  exact zi (fun _=>h) (fun e=>by simp at e)
 ·refine zi (fun e=>by simp at e) (fun _=>zi (fun _=>?_) (fun e=>by simp at e))
  exact zi (fun e=>by simp at e) (fun _=>h)
 ·refine zi (fun e=>by simp at e) (fun _=>zi (fun e=>by simp at e) (fun _=>zi (fun _=>h) (fun e=>by simp at e)))
 ·refine zi (fun e=>by simp at e) (fun _=>zi (fun e=>by simp at e) (fun _=>zi (fun e=>by simp at e) (fun _=>zi (fun _=>h) (fun e=>by simp at e))))
 ·refine zi (fun e=>by simp at e) (fun _=>zi (fun e=>by simp at e) (fun _=>zi (fun e=>by simp at e) (fun _=>zi (fun e=>by simp at e) (fun _=>h))))
theorem zhy {a b:Int} {r s:List UInt8} (ha:1≤a∧a≤5) (hb:1≤b∧b≤5) (h:aw a++r=aw b++s):a=b:=by
 rcases ziU ha.1 ha.2 with rfl | rfl | rfl | rfl | rfl <;> rcases ziU hb.1 hb.2 with rfl | rfl | rfl | rfl | rfl <;> first | rfl | (simp [aw] at h)
theorem zhX {l:List UInt8} {κ:zr×Bool×Int→Prop} (hl:l.length≤100000000000)
  (h1:∀ a:Int,1≤a→a≤5→a≠3→∀ r,l=aw a++r→κ (zr.mk [] a 0,true,((aw a).length:Int)))
  (h2:∀ r,l=aw 3++32 :: r→κ (zr.mk [] 3 (val (run 6 r):Int),decide (run 6 r≠[]),(((aw 3).length+1+(run 6 r).length:Nat):Int)))
  (h3:∀ r,l=aw 3++r→(∀ r',r≠32 :: r')→κ (zr.mk [] 3 0,false,((aw 3).length:Int)))
  (hz:(∀ a:Int,1≤a→a≤5→∀ r,l≠aw a++r)→κ (zr.mk [] 0 0,false,0)):uX (B l) 0 κ:=by
 unfold uX
 refine Ud 1 6 (fun s=>s.2) (fun k s=>s=(0,(k:Int))∧1≤k∧k≤6∧∀ i:Nat,1≤i→i<k→∀ r,l≠aw (i:Int)++r) (fun k s h=>by rw [h.1]) (fun k s h=>h.2.2.1) ?_ ⟨rfl,Nat.le_refl _,by omega,fun i hi=>by omega⟩
 rintro k _ next ⟨rfl,hk1,hk,he⟩ hn
 refine zi (fun hc=>?_) (fun hc=>?_)
 ·have hk5:k≤5:=by simp at hc;omega
  have hal:=zg1 (k:Int)
  unfold jnW
  refine znI (by omega) (by omega) (VT 0 rfl (Nat.zero_le _) (by omega) (by omega) (fun r e=>?_) (fun hno=>?_))
  ·simp only [Bool.not_true,xB]
   rw [List.drop_zero] at e
   refine zi (fun h3'=>?_) (fun h3'=>?_)
   ·simp at h3'
    have:=h1 (k:Int) (by omega) (by omega) (by omega) r e
    simpa using this
   ·have e3:k=3:=by simp at h3';omega
    subst e3
    rw [Nat.zero_add]
    have hll:(aw ((3:Nat):Int)).length≤l.length:=by rw [e];simp
    have dr:l.drop (aw ((3:Nat):Int)).length=r:=by rw [e];exact Vd rfl
    refine VT (w:=[32]) (aw ((3:Nat):Int)).length rfl hll (by omega) (by simp) (fun r' e'=>?_) (fun hno=>?_)
    ·simp only [xS]
     rw [dr] at e'
     have hm:(aw ((3:Nat):Int)).length+([32]:List UInt8).length≤l.length:=by rw [e,e'];simp
     refine zbL _ rfl hm (by omega) ?_
     have d2:l.drop ((aw ((3:Nat):Int)).length+([32]:List UInt8).length)=r':=by rw [← List.drop_drop,dr,e'];rfl
     rw [d2]
     exact h2 r' (by rw [e,e'];rfl)
    ·simp only [xB]
     rw [dr] at hno
     exact h3 r e (fun r' e'=>hno r' (by simpa using e'))
  ·simp only [Bool.not_false,xS]
   refine zz (by omega) (by omega) (hn (by omega) _ ⟨by simp,by omega,by omega,fun i i1 i2 r e=>?_⟩)
   by_cases hik:i=k
   ·subst hik;exact hno r (by simpa using e)
   ·exact he i i1 (by omega) r e
 ·have hge:k=6:=by simp at hc;omega
  subst hge
  refine hz (fun a a1 a2 r e=>?_)
  obtain ⟨i,rfl⟩:=Int.eq_ofNat_of_zero_le (show 0≤a by omega)
  exact he i (by omega) (by omega) r e
theorem zlm {l:List UInt8} {κ:zr×Bool×Int→Prop} (hl:l.length≤100000000000)
  (h:∀ (a c:Int) (ok:Bool) (m:Nat),m≤l.length→κ (zr.mk [] a c,ok,(m:Int))):uX (B l) 0 κ:=by
 refine zhX hl (fun a a1 a2 a3 r e=>h _ _ _ _ (by rw [e];simp)) (fun r e=>h _ _ _ _ ?_) (fun r e _=>h _ _ _ _ (by rw [e];simp)) (fun _=>h _ _ _ 0 (Nat.zero_le _))
 have:=(zdv 6 r).2
 rw [e];simp;omega
theorem zl0 {l r:List UInt8} {a c:Int} {κ:zr×Bool×Int→Prop} (hv:HV a c) (hr:zlM r) (el:l=hd a c++r) (hl:l.length≤100000000000)
  (h:κ (zr.mk [] a c,true,((hd a c).length:Int))):uX (B l) 0 κ:=by
 obtain ⟨a1,a2,a3,a4⟩:=hv
 have el':l=aw a++((if a=3 then 32 :: decDigits c.toNat else [])++r):=by rw [el,hd,List.append_assoc]
 refine zhX hl (fun b b1 b2 b3 s e=>?_) (fun s e=>?_) (fun s e hno=>?_) (fun hno=>absurd el' (hno a a1 a2 _))
 ·have:=zhy ⟨a1,a2⟩ ⟨b1,b2⟩ (el'.symm.trans e)
  subst this
  rw [a4 b3] at h
  simpa [hd,b3] using h
 ·have:=zhy ⟨a1,a2⟩ ⟨by omega,by omega⟩ (el'.symm.trans e)
  subst this
  rw [el'] at e
  simp only [if_true,List.cons_append,List.append_cancel_left_eq,List.cons.injEq,true_and] at e
  subst e
  have hc:=a3 rfl
  rw [zeO (by omega) hr.dg,decide_eq_true (zdE _),zai]
  have ec:((c.toNat:Nat):Int)=c:=by omega
  rw [ec]
  have en:(aw 3).length+1+(decDigits c.toNat).length=(hd 3 c).length:=by simp [hd];omega
  rw [en];exact h
 ·have:=zhy ⟨a1,a2⟩ ⟨by omega,by omega⟩ (el'.symm.trans e)
  subst this
  rw [el'] at e
  simp only [if_true,List.cons_append,List.append_cancel_left_eq] at e
  exact absurd e.symm (hno _)
theorem zjv (ts:List zL):zlM (tl ts):=by
 intro c m e
 cases ts with
 | nil=>cases e
 | cons t ts=>rw [zb2] at e;cases e;rfl
theorem zeG {l:List UInt8} {κ:zr×Bool→Prop} (hl:l.length≤100000000000) (hz:κ (zr.mk [] 0 0,false)) (h:∀ r,RV r→U0 r=l→κ (r,true)):Zc (B l) κ:=by
 unfold Zc
 refine zlm hl (fun a c ok m hm=>zi (fun _=>hz) (fun _=>?_))
 refine yE (fun s=>∃ (m:Nat),s.2=(m:Int)∧m≤l.length∧s.1.length≤6) (fun s=>7 - s.1.length) ?_ ⟨m,rfl,hm,by simp⟩
 rintro ⟨xs,_⟩ next ⟨m,rfl,hm,hx⟩ hn
 simp only at hx
 unfold yp jnW
 refine zi (fun hc=>?_) (fun hc=>?_)
 ·refine zi (fun h6=>by simp only [xS];exact hz) (fun h6=>?_)
  simp at h6
  refine VT (w:=[44,32]) m rfl hm (by omega) (by simp) (fun r e=>?_) (fun _=>by simp only [Bool.not_false,xS];exact hz)
  have hm2:m+([44,32]:List UInt8).length≤l.length:=by have:=congrArg List.length e;simp at this;simp;omega
  simp only [Bool.not_true,xB]
  refine zfK _ rfl hm2 hl (fun t m' hf q1 q2=>?_) (fun m' q1 q2=>by simp only [Bool.not_false,xS];exact hz)
  simp only [Bool.not_true,xB]
  refine jj (by simp;omega) (hn _ ⟨m',rfl,q2,by simp;omega⟩ (by simp;omega))
 ·simp only [xS]
  refine UQ (by simp only;omega) (zi (fun _=>hz) (fun hv=>?_))
  simp at hv
  refine UT hv (zi (fun _=>hz) (fun he=>?_))
  simp [zgY] at he
  exact h _ hv he
theorem zeI {r:zr} {κ:zr×Bool→Prop} (hv:RV r) (h:κ (r,true)):Zc (B (U0 r)) κ:=by
 have hl:=zfB hv
 obtain ⟨⟨v1,v2⟩,v3⟩:=id hv
 unfold Zc
 refine zl0 v3 (zjv _) rfl (by omega) ?_
 simp only [Bool.not_true,xB]
 refine zK r.xTests.length (fun s=>(s.1.length:Int)) (fun k s=>s=(r.xTests.take k,((hd r.xAction r.xChain++tl (r.xTests.take k)).length:Int))∧k≤r.xTests.length) (fun k s h=>by rw [h.1];simp;omega) (fun k s h=>h.2) ?_ ⟨by simp [tl],Nat.zero_le _⟩
 rintro k _ next ⟨rfl,hk⟩ hn
 have esplit:U0 r=(hd r.xAction r.xChain++tl (r.xTests.take k))++tl (r.xTests.drop k):=by
  rw [U0,List.append_assoc,← zha,List.take_append_drop]
 have hlen:(U0 r).length=(hd r.xAction r.xChain++tl (r.xTests.take k)).length+(tl (r.xTests.drop k)).length:=by rw [esplit,List.length_append]
 unfold yp jnW
 rw [YO]
 by_cases hlt:k<r.xTests.length
 ·have hd1:r.xTests.drop k=r.xTests[k] :: r.xTests.drop (k+1):=List.drop_eq_getElem_cons hlt
  have htv:=v1 _ (List.getElem_mem hlt)
  have et:tl (r.xTests.drop k)=44 :: 32 :: (ttx r.xTests[k]++tl (r.xTests.drop (k+1))):=by rw [hd1,zb2]
  have hpos:2≤(tl (r.xTests.drop k)).length:=by rw [et];simp
  refine zi (fun hc=>?_) (fun hc=>by simp at hc hlen;omega)
  refine zi (fun h6=>by simp at h6;omega) (fun h6=>?_)
  refine VT (w:=[44,32]) _ rfl (by omega) (by omega) (by simp) (fun s e=>?_) (fun hno=>absurd (by rw [esplit,Vd rfl,et];rfl) (hno (ttx r.xTests[k]++tl (r.xTests.drop (k+1)))))
  simp only [Bool.not_true,xB]
  refine zfq (p:=(hd r.xAction r.xChain++tl (r.xTests.take k))++[44,32]) (r:=tl (r.xTests.drop (k+1))) htv (zjv _) (by rw [esplit,et];simp) (by simp;omega) (by omega) ?_
  simp only [Bool.not_true,xB]
  refine jj (by simp;omega) (hn hlt _ ⟨?_,by omega⟩)
  rw [List.take_succ_eq_append_getElem hlt,zha,zb2]
  simp only [zkD,Prod.mk.injEq,true_and,List.length_append,List.length_cons,List.length_nil,List.append_nil]
  omega
 ·have hge:r.xTests.length≤k:=by omega
  have e0:tl (r.xTests.drop k)=[]:=by rw [List.drop_eq_nil_of_le hge];rfl
  rw [e0] at hlen
  refine zi (fun hc=>by simp at hc hlen;omega) (fun hc=>?_)
  rw [List.take_of_length_le hge]
  refine UQ (r:=r) (by omega) (zi (fun hc=>absurd hv (by simpa using hc)) (fun _=>UT hv (zi (fun hc=>by simp at hc) (fun _=>h))))
end
section
open Go.Lib (decDigits)
theorem znY {a c a' c':Int} (h:HV a c) (h':HV a' c') (e:hd a c=hd a' c'):a=a'∧c=c':=by
 have ea:a=a':=zhy ⟨h.1,h.2.1⟩ ⟨h'.1,h'.2.1⟩ e
 subst ea
 refine ⟨rfl,?_⟩
 by_cases h3:a=3
 ·have h1:=h.2.2.1 h3
  have h2:=h'.2.2.1 h3
  simp only [hd,if_pos h3,List.append_cancel_left_eq,List.cons.injEq,true_and] at e
  have:=zm0 e
  omega
 ·rw [h.2.2.2 h3,h'.2.2.2 h3]
theorem zmF (a c:Int):U0 (zr.mk [] a c)=hd a c:=by simp [U0,tl]
theorem zou (a c:Int):hd a c≠[]:=by
 have:=zg1 a
 intro e
 cases h:aw a with
 | nil=>rw [h] at this;simp at this
 | cons x y=>simp [hd,h] at e
theorem zoQ {a c:Int}:RV (zr.mk [] a c)↔HV a c:=⟨fun h=>h.2,fun h=>⟨⟨fun t ht=>(by cases ht),(by simp)⟩,h⟩⟩
theorem zlu {t:zL} (h:TV t):(44:UInt8) ∉ ttx t:=by
 have hn:(44:UInt8) ∉ nm t.xField:=by rcases zaf h.1 h.2.1 with e0 | e0 | e0 | e0 <;> rw [e0] <;> decide
 have hr:(44:UInt8) ∉ rtx t:=by
  unfold rtx;split
  ·simpa using zau (by decide)
  ·simp only [List.mem_append,List.mem_cons,not_or]
   exact ⟨zau (by decide),by decide,zau (by decide)⟩
 have hb:(44:UInt8) ∉ btx t:=by
  unfold btx
  simp only [List.mem_append,List.mem_cons,not_or]
  exact ⟨hn,by decide,hr⟩
 unfold ttx;split
 ·simp only [List.mem_cons,not_or]
  exact ⟨by decide,by decide,by decide,by decide,hb⟩
 ·exact hb
theorem zmU {a c:Int} (h:HV a c):(44:UInt8) ∉ hd a c:=by
 have ha:(44:UInt8) ∉ aw a:=by rcases ziU h.1 h.2.1 with e | e | e | e | e <;> rw [e] <;> decide
 unfold hd;split
 ·simp only [List.mem_append,List.mem_cons,not_or]
  exact ⟨ha,by decide,zau (by decide)⟩
 ·simpa using ha
def kl (ts:List zL):List UInt8:=(tl ts).drop 1
theorem zjw (t:zL) (ts:List zL):kl (t :: ts)=32 :: (ttx t++tl ts):=by rw [kl,zb2];rfl
theorem zkP {x:List UInt8} (hx:(44:UInt8) ∉ x) (ts:List zL):cut 44 (x++tl ts)=(x,kl ts):=by
 cases ts with
 | nil=>rw [zkD,List.append_nil,zfb hx];rfl
 | cons t ts=>rw [zb2,zas hx,zjw]
theorem zkJ {x:List UInt8} {κ:Int→Int→Prop} (F:((Int×Int×Int)→Prop)→Int×Int×Int→Prop) (hF:∀ nx10 t7 t8 t9,ifW (decide (t9≤5)) (z8 (fun (nx14:(Int×Int×Int)→Prop) ((t11,t12,t13):(Int×Int×Int))=>ifW (decide (t13<5)) (jnW (fun ((t140,t141):(Int×Int))=>jh t13 1 (fun t143=>nx14 (t140,t141,t143))) (fun k142=>jnW (fun t77=>uK (zr.mk ([]) t9 t77) (fun r79=>ifW (decide (r79=B x)) (k142 (t9,t77)) (k142 (t11,t12)))) (fun k78=>ifW (decide (t9=3)) (k78 t13) (k78 0)))) (jh t9 1 (fun t144=>nx10 (t11,t12,t144)))) (t7,t8,0)) (κ t7 t8)→F nx10 (t7,t8,t9)) (h:∀ a c:Int,0≤a→a≤5→0≤c→c≤4→(∀ a' c',HV a' c'→hd a' c'=x→a=a'∧c=c')→κ a c) :
  z8 F (0,0,1):=by
 refine Ud 1 6 (fun s=>s.2.2) (fun k s=>s.2.2=(k:Int)∧1≤k∧k≤6∧0≤s.1∧s.1≤5∧0≤s.2.1∧s.2.1≤4∧(∀ a' c',HV a' c'→hd a' c'=x→a'<k→s.1=a'∧s.2.1=c')) (fun k s h=>h.1) (fun k s h=>h.2.2.1) ?_ ⟨rfl,Nat.le_refl _,by omega,by simp,by simp,by simp,by simp,fun a' c' hv _ hl=>by have:=hv.1;omega⟩
 rintro k ⟨a,c,_⟩ next ⟨rfl,hk1,hk,a0,a1,c0,c1,he⟩ hn
 simp only at a0 a1 c0 c1 he
 refine hF _ _ _ _ (zi (fun hc=>?_) (fun hc=>?_))
 ·have hk5:k≤5:=by simp at hc;omega
  refine zK 5 (fun s=>s.2.2) (fun j s=>s.2.2=(j:Int)∧j≤5∧0≤s.1∧s.1≤5∧0≤s.2.1∧s.2.1≤4∧(∀ a' c',HV a' c'→hd a' c'=x→(a'<k∨a'=k∧(if (k:Int)=3 then c'<j else 0<j))→s.1=a'∧s.2.1=c')) (fun j s h=>h.1) (fun j s h=>h.2.1) ?_ ⟨rfl,Nat.zero_le _,a0,a1,c0,c1,fun a' c' hv hx hl=>?_⟩
  ·rintro j ⟨u,v,_⟩ next2 ⟨rfl,hj,u0,u1,v0,v1,he2⟩ hn2
   simp only at u0 u1 v0 v1 he2
   refine zi (fun hc2=>?_) (fun hc2=>?_)
   ·have hj5:j<5:=by simp at hc2;omega
    unfold jnW
    have step:∀ cc:Int,0≤cc→cc≤4→HV k cc→(∀ c',HV k c'→(if (k:Int)=3 then c'<j+1 else 0<j+1)→(if (k:Int)=3 then c'<j else 0<j)∨c'=cc)→uK (zr.mk ([]) (k:Int) cc) (fun r79=>ifW (decide (r79=B x)) (jh (j:Int) 1 (fun t143=>next2 ((k:Int),cc,t143))) (jh (j:Int) 1 (fun t143=>next2 (u,v,t143)))):=by
     intro cc q0 q1 hv hcc
     refine Y9 (by simp) ?_
     rw [zei,if_pos (zoQ.2 hv),zmF,zak]
     refine zi (fun hx=>?_) (fun hx=>?_)
     ·simp at hx
      refine zz (by omega) (by omega) (hn2 hj5 _ ⟨by simp,by omega,by simp only;omega,by simp only;omega,q0,q1,fun a' c' hv' hx' _=>?_⟩)
      exact znY hv hv' (hx.trans hx'.symm)
     ·simp at hx
      refine zz (by omega) (by omega) (hn2 hj5 _ ⟨by simp,by omega,u0,u1,v0,v1,fun a' c' hv' hx' hl=>?_⟩)
      rcases hl with hl | ⟨rfl,hl⟩
      ·exact he2 a' c' hv' hx' (.inl hl)
      ·rcases hcc c' hv' (by simpa using hl) with hl' | rfl
       ·exact he2 _ c' hv' hx' (.inr ⟨rfl,hl'⟩)
       ·exact absurd hx' hx
    refine zi (fun h3=>?_) (fun h3=>?_)
    ·have h3':(k:Int)=3:=by simpa using h3
     refine step (j:Int) (by omega) (by omega) ⟨by omega,by omega,fun _=>⟨by omega,by omega⟩,fun e=>absurd h3' e⟩ (fun c' hv' hl=>?_)
     rw [if_pos h3'] at hl ⊢
     omega
    ·have h3':¬ (k:Int)=3:=by simpa using h3
     refine step 0 (by omega) (by omega) ⟨by omega,by omega,fun e=>absurd e h3',fun _=>rfl⟩ (fun c' hv' hl=>.inr (hv'.2.2.2 h3'))
   ·have hj5:j=5:=by simp at hc2;omega
    subst hj5
    refine zz (by omega) (by omega) (hn (by omega) _ ⟨by simp,by omega,by omega,u0,u1,v0,v1,fun a' c' hv hx hl=>?_⟩)
    refine he2 a' c' hv hx ?_
    by_cases hlt:a'<k
    ·exact .inl hlt
    ·refine .inr ⟨by omega,?_⟩
     split
     ·have:=hv.2.2.1 (by omega);omega
     ·omega
  ·refine he a' c' hv hx ?_
   rcases hl with hl | ⟨hl,hl2⟩
   ·exact hl
   ·exfalso
    split at hl2
    ·have:=hv.2.2.1 (by omega);omega
    ·omega
 ·have hge:k=6:=by simp at hc;omega
  subst hge
  exact h a c a0 a1 c0 c1 (fun a' c' hv hx=>he a' c' hv hx (by have:=hv.2.1;omega))
theorem zo0 {z:List UInt8} {c:UInt8} {κ:UInt8→Prop} (h:κ c):zI (B (c :: z)).data.toList 0 κ:=by
 rw [zhw];exact zp 0 rfl (by simp) h
theorem zeF {l:List UInt8} {κ:zr×Bool→Prop} (hl:l.length≤10000000) (hz:κ (zr.mk [] 0 0,false)) (h:∀ r,RV r→U0 r=l→κ (r,true)):yt (B l) κ:=by
 unfold yt
 refine zgR (by omega) ?_
 have l1:=zdy (c:=44) l
 generalize (cut 44 l).1=x at *
 generalize (cut 44 l).2=y0 at *
 show z8 _ (0,0,1)
 refine zkJ _ (fun nx t7 t8 t9 hh=>hh) (fun a c a0 a1 c0 c1 _=>?_)
 refine yE (fun s=>∃ (y:List UInt8) (k:Nat),s.2.1=B y∧s.2.2=(k:Int)∧y.length≤10000000∧k≤7∧s.1.length=k) (fun s=>8 - s.1.length) ?_ ⟨y0,0,rfl,rfl,by omega,by omega,rfl⟩
 rintro ⟨xs,_,_⟩ next ⟨y,k,rfl,rfl,hy,hk,hx⟩ hn
 simp only at hx
 unfold jnW
 have fin:uK (zr.mk xs a c) (fun r294=>ifW (!(decide (r294=B l))) (ifW true (κ ((zr.mk ([]) 0 0),false)) (κ ((zr.mk xs a c),true))) (ifW (decide (B l=(ByteArray.mk #[]))) (κ ((zr.mk ([]) 0 0),false)) (κ ((zr.mk xs a c),true)))):=by
  refine Y9 (by simp only;omega) ?_
  simp only [xS]
  refine zi (fun _=>hz) (fun hc=>zi (fun _=>hz) (fun hc2=>?_))
  rw [zcf] at hc2
  simp [zgY] at hc hc2
  by_cases hv:RV (zr.mk xs a c)
  ·rw [zei,if_pos hv] at hc;exact h _ hv hc
  ·rw [zei,if_neg hv] at hc;exact absurd hc.symm hc2
 refine zi (fun hc=>?_) (fun hc=>?_)
 ·refine zi (fun hc2=>?_) (fun hc2=>?_)
  ·simp at hc2
   refine zgR (by omega) ?_
   have l2:=zdy (c:=44) y
   generalize (cut 44 y).1=u at *
   generalize (cut 44 y).2=v at *
   have cont:∀ z,z.length≤10000000→yY (B z) (fun (r281,r282)=>ifW (!r282) (κ ((zr.mk ([]) 0 0),false)) (jW xs ([r281]) (fun _=>jh (k:Int) 1 (fun t293=>next ((xs++([r281])),B v,t293))))):=by
    intro z hz'
    refine zey (by omega) (by simp only [Bool.not_false,xS];exact hz) (fun t _ _=>?_)
    simp only [Bool.not_true,xB]
    refine jj (by simp;omega) (zz (by omega) (by omega) (hn _ ⟨v,k+1,rfl,by simp,by omega,by omega,by simp;omega⟩ (by simp;omega)))
   refine zi (fun hc3=>?_) (fun hc3=>?_)
   ·simp only [xS];exact hz
   ·rw [zcf,zak] at hc3
    replace hc3:=of_decide_eq_false hc3
    cases u with
    | nil=>exact absurd rfl hc3
    | cons d z =>
     refine zo0 (zi (fun _=>hz) (fun _=>?_))
     refine V5 1 (d :: z).length rfl (by rw [YO]) (by simp) (by omega) ?_
     rw [List.take_length]
     exact cont z (by simp at l2;omega)
  ·simp only [xB];exact fin
 ·simp only [xB];exact fin
theorem zeJ {r:zr} {κ:zr×Bool→Prop} (hv:RV r) (h:κ (r,true)):yt (B (U0 r)) κ:=by
 have hl:=zfB hv
 obtain ⟨⟨v1,v2⟩,v3⟩:=id hv
 have c0:cut 44 (U0 r)=(hd r.xAction r.xChain,kl r.xTests):=zkP (zmU v3) _
 unfold yt
 refine zgR (by omega) ?_
 rw [c0]
 show z8 _ (0,0,1)
 refine zkJ _ (fun nx t7 t8 t9 hh=>hh) (fun a c a0 a1 c0 c1 hac=>?_)
 obtain ⟨rfl,rfl⟩:=hac _ _ v3 rfl
 refine zK r.xTests.length (fun s=>s.2.2) (fun k s=>s=(r.xTests.take k,B (kl (r.xTests.drop k)),(k:Int))∧k≤r.xTests.length) (fun k s h=>by rw [h.1]) (fun k s h=>h.2) ?_ ⟨by simp,Nat.zero_le _⟩
 rintro k _ next ⟨rfl,hk⟩ hn
 unfold jnW
 by_cases hlt:k<r.xTests.length
 ·have hd1:r.xTests.drop k=r.xTests[k] :: r.xTests.drop (k+1):=List.drop_eq_getElem_cons hlt
  have htv:=v1 _ (List.getElem_mem hlt)
  have htl:=zcV htv
  have hkl:kl (r.xTests.drop k)=32 :: ttx r.xTests[k]++tl (r.xTests.drop (k+1)):=by rw [hd1,zjw];rfl
  have hcut:cut 44 (kl (r.xTests.drop k))=(32 :: ttx r.xTests[k],kl (r.xTests.drop (k+1))):=by
   rw [hkl]
   exact zkP (by simp only [List.mem_cons,not_or];exact ⟨by decide,zlu htv⟩) _
  have hkk:=ze2 (r.xTests.drop (k+1)) (fun t ht=>v1 t (List.mem_of_mem_drop ht))
  rw [List.length_drop] at hkk
  have hlen:(kl (r.xTests.drop k)).length≤1000:=by rw [hkl];simp;omega
  refine zi (fun hc=>?_) (fun hc=>?_)
  ·refine zi (fun hc2=>?_) (fun hc2=>by simp at hc2;omega)
   refine zgR (by omega) ?_
   rw [hcut]
   refine zi (fun hc3=>?_) (fun hc3=>?_)
   ·rw [zcf,zak] at hc3;simp at hc3
   ·refine zo0 (zi (fun hx=>by simp at hx) (fun _=>?_))
    refine V5 1 (32 :: ttx r.xTests[k]).length rfl (by rw [YO]) (by simp) (Nat.le_refl _) ?_
    rw [List.take_length]
    refine zeM htv ?_
    simp only [Bool.not_true,xB]
    refine jj (by simp;omega) (zz (by omega) (by omega) (hn hlt _ ⟨?_,by omega⟩))
    rw [List.take_succ_eq_append_getElem hlt]
    simp
  ·rw [zcf,zak,hkl] at hc;simp at hc
 ·have hge:r.xTests.length≤k:=by omega
  refine zi (fun hc=>?_) (fun hc=>?_)
  ·rw [List.drop_eq_nil_of_le hge,zcf,zak] at hc;simp [kl,tl] at hc
  ·simp only [xB]
   rw [List.take_of_length_le hge]
   refine Y9 (r:=r) (by omega) ?_
   rw [zei,if_pos hv,zcf]
   have hne:U0 r≠[]:=by
    have:=zou r.xAction r.xChain
    simp [U0,this]
   simp [zgY,hne]
   exact h
end
section
def Ca (cs:List (List zr)) (i j:Nat):Prop:=∃ c,cs[i]?=some c∧∃ r,r∈c∧r.xAction=3∧r.xChain=(j:Int)
def Sf (cs:List (List zr)) (i:Nat):Prop:=Acc (fun j i=>Ca cs i j) i
theorem zgF {cs:List (List zr)} {i:Nat} (h:∀ j,Ca cs i j→Sf cs j):Sf cs i:=Acc.intro _ h
inductive Wy (cs:List (List zr)):Nat→Nat→Prop
 | one {i j:Nat}:Ca cs i j→Wy cs i j
 | more {i j k:Nat}:Wy cs i j→Ca cs j k→Wy cs i k
theorem zkQ {cs:List (List zr)} {i k:Nat} (w:Wy cs i k):∃ j,Ca cs i j∧(j=k∨Wy cs j k):=by
 induction w with
 | one h=>exact ⟨_,h,.inl rfl⟩
 | more _ h ih =>
  obtain ⟨j,h1,h2⟩:=ih
  rcases h2 with rfl | h2
  ·exact ⟨_,h1,.inr (.one h)⟩
  ·exact ⟨_,h1,.inr (.more h2 h)⟩
theorem zjB {cs:List (List zr)} {i:Nat} (hs:Sf cs i):¬ Wy cs i i:=by
 induction hs with
 | intro x _ ih =>
  intro w
  obtain ⟨j,h1,h2⟩:=zkQ w
  rcases h2 with rfl | h2
  ·exact ih _ h1 w
  ·exact ih j h1 (.more h2 h1)
def Tg (cs:List (List zr)):Prop:=cs.length≤5∧∀ c,c∈cs→(c.length≤8∧∀ r,r∈c→RV r∧r.xChain<cs.length)
def Tw (cs:List (List zr)):Prop:=cs.length≤5∧∀ c,c∈cs→(c.length≤8∧∀ r,r∈c→RV r)
theorem Tg.w {cs:List (List zr)} (h:Tg cs):Tw cs:=⟨h.1,fun c hc=>⟨(h.2 c hc).1,fun r hr=>((h.2 c hc).2 r hr).1⟩⟩
theorem zkG {cs:List (List zr)} {j:Nat} (h:cs.length≤j):Sf cs j:=zgF (fun i ⟨c,h1,_⟩=>by have:=(List.getElem?_eq_some_iff.1 h1).1;omega)
end
end Go.Proofs.YtgpdnnhmndlljaaGreatDoor
