import Derived.Test.YtgpdnnhmndlljaaGreatDoorMA1
import Derived.RangeFuncMany
import Derived.RangeFuncCalls
import Derived.RangeFuncLeaves
import Derived.TacticsIn
import Derived.Test.YtgpdnnhmndlljaaGreatDoorEls
import Derived.Test.YtgpdnnhmndlljaaGreatDoorMA0
import Derived.Laws.BitsLemmas
set_option linter.unusedSimpArgs false
set_option linter.unusedVariables false
set_option linter.unusedSectionVars false
namespace Go.Proofs.YtgpdnnhmndlljaaGreatDoor
section
open Go.RowKit
def zrU {V:Type} (xs:List V) (O:V->V->V->V->Prop):Prop:=∃ a b c d r,xs=a :: b :: c :: d :: r∧O a b c d
theorem zcZ {w:World} {b o:Nat} {cs ds:List Value} (h:w.rangeAt b o cs) (k:w.rangeAt b (o+cs.length) ds):w.rangeAt b o (cs++ds):=fun j v hv=>by
 rw [List.getElem?_append] at hv
 split at hv
 ·exact h j v hv
 ·have:=k (j - cs.length) v hv
  rwa [show o+cs.length+(j - cs.length)=o+j by omega] at this
theorem zoO {V:Type} {E':El V} {F0:Nat->Prop} {wr:World} {v:Value} {xs:List V} {a b c d:V} (S:Sl E' F0 wr v xs) (h:∃ r,xs=a :: b :: c :: d :: r) :
  ∃ c0 c1 c2 c3,E'.cells F0 wr a c0∧E'.cells F0 wr b c1∧E'.cells F0 wr c c2∧E'.cells F0 wr d c3∧zk6 wr F0 v 0 E'.size (c0++(c1++(c2++c3))):=by
 obtain ⟨r,rfl⟩:=h;obtain ⟨p,cap,rfl,hc,hr⟩:=S;obtain ⟨g,off,rfl,hfb,hx⟩:=hr (by simp);obtain ⟨c0,h0,k0⟩:=hx 0 a rfl;obtain ⟨c1,h1,k1⟩:=hx 1 b rfl;obtain ⟨c2,h2,k2⟩:=hx 2 c rfl;obtain ⟨c3,h3,k3⟩:=hx 3 d rfl;have l0:=E'.len _ _ _ _ h0;have l1:=E'.len _ _ _ _ h1;have l2:=E'.len _ _ _ _ h2;refine ⟨c0,c1,c2,c3,h0,h1,h2,h3,g,off,_,cap,rfl,hfb,?_⟩;have e0:off+(0:Int).toNat * E'.size=off:=by simp
 rw [e0];refine zcZ (by simpa using k0) (zcZ ?_ (zcZ ?_ ?_))
 ·rw [l0];simpa using k1
 ·rw [l0,l1,show off+E'.size+E'.size=off+2 * E'.size by omega];exact k2
 rw [l0,l1,l2,show off+E'.size+E'.size+E'.size=off+3 * E'.size by omega];exact k3
section
variable {P:Program} {n:Nat} {G D:Nat->Prop} {w0:World} {Q:Exit->Act->World->Prop} {R:Act->World->Prop} {E:Env} {L M:List Ch} {H:Prop}
variable {d:Tmp} {ty:TypeId} {pos:String} {aft:Array Edge} {gd:Option (Nat×Bool)} {Tk:Act->World->Prop} {Lr:List Ch} {x y:Operand} {T T' S:TypeId} {e sz by':Nat} {at':Array TypeId}
theorem zr0 {V:Type} {El':El V} {v:Value} {xs:List V} {ch:Ch} {O:V->V->V->V->Prop} {e' s:Nat} {r:Bool} (M:x8 P n G D w0 E ⟨some d,.sliceToArrayPointer T x,ty,pos,aft,gd⟩ Tk R Lr L) (i:Nat) (hi:xH Lr i=some ch) (hc:UP ch El' v xs) (hx:oev E x=some v) (hd:Nat.blt d n=true)
  (hT:zhj P T=some (4,e',r,s)) (hes:El'.size=1) (k:∀ p q s t,(∃ r,xs=p :: q :: s :: t :: r)->Nx n G D w0 R ((d,pEl v 0 1 0) :: E) L (O p q s t)):Nx n G D w0 Tk E L (zrU xs O):=fun a w hE hm hH=>by
 obtain ⟨p,q,s,t,r,hxs,hO⟩:=hH
 refine M.val (v:=pEl v 0 1 0) (H:=O p q s t) (ψ:=O p q s t) hd rfl (fun ρ w hE hm _=>?_) id (k p q s t ⟨r,hxs⟩) a w hE hm hO
 obtain ⟨g,cap,rfl,hcap,hr⟩:=hc _ _ (hm.get hi)
 obtain ⟨b,off,rfl,_⟩:=hr (by rw [hxs];simp)
 have hl:¬ xs.length<4:=by rw [hxs];simp
 have hu:=(zj9 hT).1
 simp [execOp,hE _ _ hx,Instr.arrayAt,run_underlying hu,hl,yi]
def Zj (b:Nat) (o:Obj):Ch where
 foot:=fun x=>x=b
 holds:=fun _ w=>w.heap[b]?=some o
 keep:=fun _ _ _ _ _ h k=>(h b (.inr rfl)).trans k
def Z9 {W:Type} (C:W->List Ch->Prop) (B:Nat->Prop) (s:W):Ch where
 foot:=B
 holds:=fun F w=>∃ L,C s L∧(∀ b,uv L b↔B b)∧(L.Pairwise fun (c d:Ch)=>∀ b,c.foot b->¬ d.foot b)∧∀ c∈L,c.holds F w
 keep:=fun F F' w w' hF hb ⟨L,h1,h2,h3,h4⟩=>⟨L,h1,h2,h3,fun c hc=>c.keep F F' w w' hF (fun b h=>hb b (h.imp id (fun k=>(h2 b).1 ⟨c,hc,k⟩))) (h4 c hc)⟩
theorem zeR {W:Type} {C:W->List Ch->Prop} {B:Nat->Prop} {s:W} {L R:List Ch} {w:World} (h:∀ b,uv L b↔B b) (b:Nat):fz G (Z9 C B s :: R) w b↔fz G (L++R) w b:=by
 constructor
 ·rintro ⟨h1,h2,h3⟩;refine ⟨h1,h2,fun c hc hk=>?_⟩;rcases List.mem_append.1 hc with e | e
  ·exact h3 _ (List.mem_cons_self ..) ((h b).1 ⟨c,e,hk⟩)
  exact h3 c (List.mem_cons_of_mem _ e) hk
 rintro ⟨h1,h2,h3⟩;refine ⟨h1,h2,fun c hc hk=>?_⟩;rcases List.mem_cons.1 hc with e | e
 ·subst e;obtain ⟨d,hd,hk'⟩:=(h b).2 hk;exact h3 d (List.mem_append.2 (.inl hd)) hk'
 exact h3 c (List.mem_append.2 (.inr e)) hk
theorem Mem.openC {W:Type} {C:W->List Ch->Prop} {B:Nat->Prop} {s:W} {R:List Ch} {w:World} (m:Mem G D w0 (Z9 C B s :: R) w):∃ L,C s L∧(∀ b,uv L b↔B b)∧Mem G D w0 (L++R) w:=by
 obtain ⟨L,h1,h2,h3,h4⟩:=m.hold _ (List.mem_cons_self ..);have hr:∀ c∈L,∀ b,c.foot b->(Z9 C B s).foot b:=fun c hc b hb=>(h2 b).1 ⟨c,hc,hb⟩
 refine ⟨L,h1,h2,m.fresh,m.os,m.tape,m.output,m.size,m.old,fun c hc b hb=>?_,List.pairwise_append.2 ⟨h3,(List.pairwise_cons.1 m.disj).2,fun c hc d hd b k1 k2=>(List.pairwise_cons.1 m.disj).1 d hd b (hr c hc b k1) k2⟩,fun c hc=>?_⟩
 ·rcases List.mem_append.1 hc with e | e
  ·exact m.range _ (List.mem_cons_self ..) b (hr c e b hb)
  exact m.range c (List.mem_cons_of_mem _ e) b hb
 rcases List.mem_append.1 hc with e | e
 ·exact c.keep _ _ w w (fun b hb=>(zeR h2 b).1 hb) (fun _ _=>rfl) (h4 c e)
 exact c.keep _ _ w w (fun b hb=>(zeR h2 b).1 hb) (fun _ _=>rfl) (m.hold c (List.mem_cons_of_mem _ e))
theorem Mem.closeC {W:Type} {C:W->List Ch->Prop} {s:W} {L R:List Ch} {w:World} (m:Mem G D w0 (L++R) w) (h:C s L):Mem G D w0 (Z9 C (uv L) s :: R) w:=by
 have inL:∀ c∈L,c∈L++R:=fun c hc=>List.mem_append.2 (.inl hc)
 have inR:∀ c∈R,c∈L++R:=fun c hc=>List.mem_append.2 (.inr hc)
 have hd:=List.pairwise_append.1 m.disj;refine ⟨m.fresh,m.os,m.tape,m.output,m.size,m.old,fun c hc b hb=>?_,List.pairwise_cons.2 ⟨fun d hd' b ⟨c,hc,k1⟩ k2=>hd.2.2 c hc d hd' b k1 k2,hd.2.1⟩,fun c hc=>?_⟩
 ·rcases List.mem_cons.1 hc with e | e
  ·subst e;obtain ⟨c,hc,k⟩:=hb;exact m.range c (inL c hc) b k
  exact m.range c (inR c e) b hb
 rcases List.mem_cons.1 hc with e | e
 ·subst e;exact ⟨L,h,fun _=>Iff.rfl,hd.1,fun c hc=>c.keep _ _ w w (fun b hb=>(zeR (fun _=>Iff.rfl) b).2 hb) (fun _ _=>rfl) (m.hold c (inL c hc))⟩
 exact c.keep _ _ w w (fun b hb=>(zeR (fun _=>Iff.rfl) b).2 hb) (fun _ _=>rfl) (m.hold c (inR c e))
def zll {V W:Type} (P:Program) (l:Nat) (El':El V) (C:W->List Ch->Prop) (Y:W->V->Bool->(Bool×W->Prop)->Prop):Prop :=
 ∀ {G D:Nat->Prop} {w0 w:World} {R L:List Ch} {s:W} {x:V} {ok:Bool} {cs:List Value} {O:Bool×W->Prop} (m:Nat),C s L->Mem G D w0 (L++R) w->El'.cells (fz G (L++R) w) w x cs->Y s x ok O ->
  YieldAt Fence.wide m P l #[.agg cs.toArray,.bool ok] w fun e w'=>∃ b s' L',e=.returned (.bool b)∧C s' L'∧Mem G D w0 (L'++R) w'∧O (b,s')
theorem zpM {o:Oper} {a:Act} {w:World} {next:Act->World->Prop} {m:Nat} (h:o.wp P a w next Q):o.wpIn Fence.wide m P a w next Q:=by
 refine ⟨fun f _=>trivial,?_⟩;have h':o.upon P a next Q ((execOp a.eval o).run P w):=h;show o.uponIn Fence.wide m P a next Q ((execOp a.eval o).run P w);revert h';generalize (execOp a.eval o).run P w=r;intro h';cases r with
 | ok x w' =>
  cases x <;> first | exact h' | (refine ⟨fun e=>by simp [Fence.wide] at e,?_⟩;exact callsIn_wide.2 h') | (refine ⟨fun e=>by simp [Fence.wide] at e,fun c cs _=>?_⟩;obtain ⟨v,w'',k1,k2⟩:=h' c cs;exact ⟨v,w'',k1,stepsIn_wide.2 k2⟩) | exact False.elim h'
 | halt x w'=>cases x <;> first | exact h' | exact False.elim h'
theorem zfA {id:Nat} {l:List Oper} (h:Nx n G D w0 (wpListIn Fence.wide 3 P l.toArray Q l) E L H):Nx n G D w0 ((Code.region id l.toArray false).wp P Q) E L H:=fun a w hE hm hH=>wpIn_wide.1 (wpIn_region_lit (h a w hE hm hH))
theorem zf4 {ops:Array Oper} {m:Nat} {F:Fence} (h:Nx n G D w0 (Q .normal) E L H):Nx n G D w0 (wpListIn F m P ops Q []) E L H:=h
theorem zq0 {m:Nat} {ops:Array Oper} {rest:List Oper} {dst:Option Tmp} {op:Op} (h:Nx n G D w0 (fun a w=>Oper.wp P ⟨dst,op,ty,pos,aft,none⟩ a w (wpListIn Fence.wide m P ops Q rest) Q) E L H):Nx n G D w0 (wpListIn Fence.wide m P ops Q (⟨dst,op,ty,pos,aft,none⟩ :: rest)) E L H :=
 fun a w hE hm hH=>wpListIn_plain rfl fun K hK=>zpM (by
  have:=h a w hE hm hH
  show Oper.upon _ _ _ _ _ _
  have h':Oper.upon P ⟨dst,op,ty,pos,aft,none⟩ a (wpListIn Fence.wide m P ops Q rest) Q ((execOp a.eval ⟨dst,op,ty,pos,aft,none⟩).run P w):=this
  revert h'
  generalize (execOp a.eval ⟨dst,op,ty,pos,aft,none⟩).run P w=r
  intro h'
  cases r with
  | ok x w' =>
   cases x <;> first | exact hK _ _ h' | (refine Calls.mono h' ?_;intro e w'' hh;cases e <;> first | exact hK _ _ hh | exact hh) | (refine Rows.mono h' ?_;intro e w'' hh;exact hK _ _ hh) | exact False.elim h'
  | halt x w'=>cases x <;> first | exact h' | exact False.elim h')
theorem stY {m:Nat} {ops:Array Oper} {rest:List Oper} {dst:Option Tmp} {op:Op}:x8 P n G D w0 E ⟨dst,op,ty,pos,aft,none⟩ (wpListIn Fence.wide m P ops Q (⟨dst,op,ty,pos,aft,none⟩ :: rest)) (wpListIn Fence.wide m P ops Q rest) L L :=
 ⟨fun hd ho hr hψ k=>zq0 (zkI hd ho hr hψ k)⟩
theorem zjj {V W:Type} {l m:Nat} {El':El V} {C:W->List Ch->Prop} {Y:W->V->Bool->(Bool×W->Prop)->Prop} (hY:zll P l El' C Y) {B:Nat->Prop} {s:W} {z:V} {ok:Bool} {cs:List Value} {O:Bool×W->Prop} {f:Operand} {args:List Operand} {ops:Array Oper} {rest:List Oper}
  (hf:oev E f=some (.func (.yield l) #[] #[])) (ha:zgS E args=some [.agg cs.toArray,.bool ok]) (hd:Nat.blt d n=true) (hc:∀ w,Mem G D w0 (Z9 C B s :: L) w->El'.cells (fz G (Z9 C B s :: L) w) w z cs)
  (k:∀ b s' B',Nx n G D w0 (wpListIn Fence.wide m P ops Q rest) ((d,.bool b) :: E) (Z9 C B' s' :: L) (O (b,s'))) :
  Nx n G D w0 (wpListIn Fence.wide m P ops Q (⟨some d,.call {callee:=.value f,args:=args.toArray,argTypes:=at'},ty,pos,aft,none⟩ :: rest)) E (Z9 C B s :: L) (Y s z ok O):=fun a w hE hm hH=>by
 refine wpListIn_plain rfl fun K hK=>?_
 obtain ⟨Lc,h1,h2,hm'⟩:=hm.openC
 obtain ⟨fn,tmps,assign,body,hy,hR⟩:=hY (m - 1) h1 hm' (El'.keep _ _ w w _ _ (fun b hb=>(zeR h2 b).1 hb) (fun _ _=>rfl) (hc w hm)) hH
 have hx:=hE.eval hf
 have hargs:=zc8 (fun x v h=>hE.eval h) ha
 have hrun:(execOp a.eval ⟨some d,.call {callee:=.value f,args:=args.toArray,argTypes:=at'},ty,pos,aft,none⟩).run P w=.ok (.round l fn tmps assign body) w:=by
  simp [execOp,resolve,Deferred.ofValue,hx,invoke,hargs,hy]
 refine ⟨fun f _=>trivial,?_⟩
 change Oper.uponIn Fence.wide m P _ a K Q ((execOp a.eval ⟨some d,.call {callee:=.value f,args:=args.toArray,argTypes:=at'},ty,pos,aft,none⟩).run P w)
 rw [hrun,Oper.uponIn_round]
 refine ⟨fun e=>by simp [Fence.wide] at e,hR.mono ?_⟩
 rintro e w' ⟨b,s',L',rfl,q1,q2,q3⟩
 exact hK _ _ (k b s' _ _ w' (hE.put hd _) (q2.closeC q1) q3)
theorem znW {o:Oper} {a:Act} {w:World} {next:Act->World->Prop} {m l:Nat} (hnd:∀ c,o.op≠.defer c) (h:o.wp P a w next Q):o.wpIn (Fence.wide.inRound l) m P a w next Q:=by
 refine ⟨fun f _=>trivial,?_⟩;have h':o.upon P a next Q ((execOp a.eval o).run P w):=h;show o.uponIn (Fence.wide.inRound l) m P a next Q ((Oper.semAt (some l) a.eval o).run P w);rw [Oper.semAt_some l a.eval o hnd];revert h';generalize (execOp a.eval o).run P w=r;intro h';cases r with
 | ok x w' =>
  cases x <;> first | exact h' | (refine ⟨fun e=>by simp [Fence.wide] at e,?_⟩;exact CallsIn.inRound l (callsIn_wide.2 h')) | (refine ⟨fun e=>by simp [Fence.wide] at e,fun c cs _=>?_⟩;obtain ⟨v,w'',k1,k2⟩:=h' c cs;exact ⟨v,w'',k1,stepsIn_wide.2 k2⟩) | exact False.elim h'
 | halt x w'=>cases x <;> first | exact h' | exact False.elim h'
section
variable {F:Fence} {m l:Nat}
theorem zmJ {x y:Code} (h:Nx n G D w0 (x.wpIn F m P (Exit.then (y.wpIn F m P Q) Q)) E L H):Nx n G D w0 ((Code.seq x y).wpIn F m P Q) E L H:=fun a w hE hm hH=>wpIn_seq (h a w hE hm hH)
theorem zpi {id:Nat} {c:Code} (h:Nx n G D w0 (c.wpIn F m P (Exit.inBlock id Q)) E L H):Nx n G D w0 ((Code.block id c).wpIn F m P Q) E L H:=fun a w hE hm hH=>wpIn_block (h a w hE hm hH)
theorem zcT {id:Nat} {l:List Oper} (h:Nx n G D w0 (wpListIn F m P l.toArray Q l) E L H):Nx n G D w0 ((Code.region id l.toArray false).wpIn F m P Q) E L H:=fun a w hE hm hH=>wpIn_region_lit (h a w hE hm hH)
theorem zrb (h:Nx n G D w0 (Q .normal) E L H):Nx n G D w0 (Code.skip.wpIn F m P Q) E L H:=fun a w hE hm hH=>wpIn_skip (h a w hE hm hH)
theorem zrI (h:Nx n G D w0 (Q .ret) E L H):Nx n G D w0 (Code.ret.wpIn F m P Q) E L H:=fun a w hE hm hH=>wpIn_ret (h a w hE hm hH)
theorem zrs {c:Operand} {x y:Code} {t:Bool} {A B:Prop} (hc:oev E c=some (.bool t)) (hx:Nx n G D w0 (x.wpIn F m P Q) E L A) (hy:Nx n G D w0 (y.wpIn F m P Q) E L B):Nx n G D w0 ((Code.cond c x y).wpIn F m P Q) E L (ifW t A B) :=
 fun a w hE hm hH=>wpIn_cond_split (hE.eval hc) (fun h=>hx a w hE hm (hH.1 h)) (fun h=>hy a w hE hm (hH.2 h))
theorem zkD {ops:Array Oper} {rest:List Oper} {dst:Option Tmp} {op:Op} (hnd:∀ c,op≠.defer c) (h:Nx n G D w0 (fun a w=>Oper.wp P ⟨dst,op,ty,pos,aft,none⟩ a w (wpListIn (Fence.wide.inRound l) m P ops Q rest) Q) E L H):Nx n G D w0 (wpListIn (Fence.wide.inRound l) m P ops Q (⟨dst,op,ty,pos,aft,none⟩ :: rest)) E L H :=
 fun a w hE hm hH=>by
  unfold wpListIn
  rw [if_pos (by simp [Region.wanted])]
  exact znW hnd (h a w hE hm hH)
theorem stR {ops:Array Oper} {rest:List Oper} {dst:Option Tmp} {op:Op} (hnd:∀ c,op≠.defer c):x8 P n G D w0 E ⟨dst,op,ty,pos,aft,none⟩ (wpListIn (Fence.wide.inRound l) m P ops Q (⟨dst,op,ty,pos,aft,none⟩ :: rest)) (wpListIn (Fence.wide.inRound l) m P ops Q rest) L L :=
 ⟨fun hd ho hr hψ k=>zkD hnd (zkI hd ho hr hψ k)⟩
end
end
end
section
open Go.RowKit
@[ext] structure zk where
 xLo:Int
 xHi:Int
 deriving DecidableEq
def zR (x:zk):List Value:=[(.int .i64 x.xLo),(.int .i64 x.xHi)]
def zd:El zk:=El.flat 2 zR (by decide) (fun _=>rfl) (fun x u h=>by simp only [zR,List.mem_cons,List.not_mem_nil,or_false] at h;rcases h with rfl | rfl <;> rfl)
theorem zx:VH zd zR:=Uu
abbrev yg:DEl zk:=zeX zd zR zx
@[ext] structure zI where
 xField:Int
 xLo:Int
 xHi:Int
 xNot:Bool
 deriving DecidableEq
def uo (x:zI):List Value:=[(.int .i64 x.xField),(.int .i64 x.xLo),(.int .i64 x.xHi),(.bool x.xNot)]
def jp:El zI:=El.flat 4 uo (by decide) (fun _=>rfl) (fun x u h=>by simp only [uo,List.mem_cons,List.not_mem_nil,or_false] at h;rcases h with rfl | rfl | rfl | rfl <;> rfl)
theorem jd:VH jp uo:=Uu
abbrev zqK:DEl zI:=zeX jp uo jd
@[ext] structure zo where
 xTests:(List zI)
 xAction:Int
 xChain:Int
 deriving DecidableEq
def zg7 (u:Value) (x:zo):List Value:=[u,(.int .i64 x.xAction),(.int .i64 x.xChain)]
def xQ:El zo where
 size:=3
 cells:=fun F w x cs=>∃ u:Value,cs=zg7 u x∧Sl jp F w u x.xTests
 pos:=by decide
 len:=fun F w x cs ⟨u,e,_⟩=>by rw [e];rfl
 one:=fun F w x cs ⟨u,e,h⟩ v hv=>by
  subst e
  simp only [zg7,List.mem_cons,List.not_mem_nil,or_false] at hv
  rcases hv with e | e | e
  ·subst e;exact h.one
  ·subst e;exact rfl
  ·subst e;exact rfl
 keep:=fun F F' w w' x cs hF hb ⟨u,e,h⟩=>⟨u,e,h.keep hF hb⟩
def zJ:DEl zo where
 el:=xQ
 own:=fun B w x cs=>∃ u:Value,cs=zg7 u x∧Dp zqK 165 B w u x.xTests
 read:=fun B w x cs ⟨u,e,h⟩=>⟨u,e,h.sl⟩
 keep:=fun B w w' x cs hk ⟨u,e,h⟩=>⟨u,e,h.keep hk⟩
 lt:=fun B w x cs ⟨u,e,h⟩=>h.lt
@[ext] structure zB where
 xChains:(List (List zo))
 xAccept:Bool
 deriving DecidableEq
@[ext] structure zhV where
 x0:Int
 x1:Int
 x2:Int
 x3:Int
 deriving DecidableEq
@[ext] structure zZ where
 xFrom:Int
 xTo:Int
 xPort:Int
 xProto:Int
 deriving DecidableEq
@[ext] structure za where
 x0:(List zk)
 x1:(List zk)
 x2:(List zk)
 x3:(List zk)
 deriving DecidableEq
def zcW (u:Value×Value×Value×Value) (x:za):List Value:=[u.1,u.2.1,u.2.2.1,u.2.2.2]
def zm:El za where
 size:=4
 cells:=fun F w x cs=>∃ u:Value×Value×Value×Value,cs=zcW u x∧Sl zd F w u.1 x.x0∧Sl zd F w u.2.1 x.x1∧Sl zd F w u.2.2.1 x.x2∧Sl zd F w u.2.2.2 x.x3
 pos:=by decide
 len:=fun F w x cs ⟨u,e,_⟩=>by rw [e];rfl
 one:=fun F w x cs ⟨u,e,h⟩ v hv=>by
  subst e
  simp only [zcW,List.mem_cons,List.not_mem_nil,or_false] at hv
  rcases hv with e | e | e | e
  ·subst e;exact h.1.one
  ·subst e;exact h.2.1.one
  ·subst e;exact h.2.2.1.one
  ·subst e;exact h.2.2.2.one
 keep:=fun F F' w w' x cs hF hb ⟨u,e,h⟩=>⟨u,e,h.1.keep hF hb,h.2.1.keep hF hb,h.2.2.1.keep hF hb,h.2.2.2.keep hF hb⟩
@[ext] structure yh where
 xAccept:Bool
 deriving DecidableEq
@[ext] structure ub where
 deriving DecidableEq
@[ext] structure yj where
 deriving DecidableEq
@[ext] structure Xi where
 xChain:Int
 deriving DecidableEq
@[ext] structure zr where
 xWhere:za
 xAccept:Bool
 deriving DecidableEq
def zi8 (u:Value×Value×Value×Value) (x:zr):List Value:=[u.1,u.2.1,u.2.2.1,u.2.2.2,(.bool x.xAccept)]
def zG:El zr where
 size:=5
 cells:=fun F w x cs=>∃ u:Value×Value×Value×Value,cs=zi8 u x∧Sl zd F w u.1 x.xWhere.x0∧Sl zd F w u.2.1 x.xWhere.x1∧Sl zd F w u.2.2.1 x.xWhere.x2∧Sl zd F w u.2.2.2 x.xWhere.x3
 pos:=by decide
 len:=fun F w x cs ⟨u,e,_⟩=>by rw [e];rfl
 one:=fun F w x cs ⟨u,e,h⟩ v hv=>by
  subst e
  simp only [zi8,List.mem_cons,List.not_mem_nil,or_false] at hv
  rcases hv with e | e | e | e | e
  ·subst e;exact h.1.one
  ·subst e;exact h.2.1.one
  ·subst e;exact h.2.2.1.one
  ·subst e;exact h.2.2.2.one
  ·subst e;exact rfl
 keep:=fun F F' w w' x cs hF hb ⟨u,e,h⟩=>⟨u,e,h.1.keep hF hb,h.2.1.keep hF hb,h.2.2.1.keep hF hb,h.2.2.2.keep hF hb⟩
@[ext] structure jy where
 xSides:(List (List zk))
 deriving DecidableEq
def zjt (u:Value) (x:jy):List Value:=[u]
def xJ:El jy where
 size:=1
 cells:=fun F w x cs=>∃ u:Value,cs=zjt u x∧Sl (z8 zd) F w u x.xSides
 pos:=by decide
 len:=fun F w x cs ⟨u,e,_⟩=>by rw [e];rfl
 one:=fun F w x cs ⟨u,e,h⟩ v hv=>by
  subst e
  simp only [zjt,List.mem_cons,List.not_mem_nil,or_false] at hv
  subst hv;exact h.one
 keep:=fun F F' w w' x cs hF hb ⟨u,e,h⟩=>⟨u,e,h.keep hF hb⟩
def uM:DEl jy where
 el:=xJ
 own:=fun B w x cs=>∃ u:Value,cs=zjt u x∧Dp (dSl yg 89) 90 B w u x.xSides
 read:=fun B w x cs ⟨u,e,h⟩=>⟨u,e,h.sl⟩
 keep:=fun B w w' x cs hk ⟨u,e,h⟩=>⟨u,e,h.keep hk⟩
 lt:=fun B w x cs ⟨u,e,h⟩=>h.lt
@[ext] structure ja where
 xWhere:jy
 xAccept:Bool
 deriving DecidableEq
def zgW (u:Value) (x:ja):List Value:=[u,(.bool x.xAccept)]
def jm:El ja where
 size:=2
 cells:=fun F w x cs=>∃ u:Value,cs=zgW u x∧Sl (z8 zd) F w u x.xWhere.xSides
 pos:=by decide
 len:=fun F w x cs ⟨u,e,_⟩=>by rw [e];rfl
 one:=fun F w x cs ⟨u,e,h⟩ v hv=>by
  subst e
  simp only [zgW,List.mem_cons,List.not_mem_nil,or_false] at hv
  rcases hv with e | e
  ·subst e;exact h.one
  ·subst e;exact rfl
 keep:=fun F F' w w' x cs hF hb ⟨u,e,h⟩=>⟨u,e,h.keep hF hb⟩
def x6:DEl ja where
 el:=jm
 own:=fun B w x cs=>∃ u:Value,cs=zgW u x∧Dp (dSl yg 89) 90 B w u x.xWhere.xSides
 read:=fun B w x cs ⟨u,e,h⟩=>⟨u,e,h.sl⟩
 keep:=fun B w w' x cs hk ⟨u,e,h⟩=>⟨u,e,h.keep hk⟩
 lt:=fun B w x cs ⟨u,e,h⟩=>h.lt
@[ext] structure jP where
 xChain:Int
 xNext:Int
 deriving DecidableEq
def Xs (x:jP):List Value:=[(.int .i64 x.xChain),(.int .i64 x.xNext)]
def jK:El jP:=El.flat 2 Xs (by decide) (fun _=>rfl) (fun x u h=>by simp only [Xs,List.mem_cons,List.not_mem_nil,or_false] at h;rcases h with rfl | rfl <;> rfl)
theorem u9:VH jK Xs:=Uu
@[ext] structure yM where
 xChain:Int
 xPlace:Int
 deriving DecidableEq
def zbR (x:yM):List Value:=[(.int .i64 x.xChain),(.int .i64 x.xPlace)]
def jG:El yM:=El.flat 2 zbR (by decide) (fun _=>rfl) (fun x u h=>by simp only [zbR,List.mem_cons,List.not_mem_nil,or_false] at h;rcases h with rfl | rfl <;> rfl)
theorem Z6:VH jG zbR:=Uu
@[ext] structure Ub where
 xName:ByteArray
 xTop:Int
 deriving DecidableEq
def Zl (x:Ub):List Value:=[(.string x.xName),(.int .i64 x.xTop)]
def zU:El Ub:=El.flat 2 Zl (by decide) (fun _=>rfl) (fun x u h=>by simp only [Zl,List.mem_cons,List.not_mem_nil,or_false] at h;rcases h with rfl | rfl <;> rfl)
theorem YH:VH zU Zl:=Uu
inductive xe where
 | kDeciding (x:yh)
 | kCalling (x:Xi)
 | kReturning (x:ub)
 | kPassing (x:yj)
def zaU:xe->Value
 | .kDeciding x=>.iface 262 (.agg #[(.bool x.xAccept)])
 | .kCalling x=>.iface 264 (.agg #[(.int .i64 x.xChain)])
 | .kReturning x=>.iface 266 (.agg #[])
 | .kPassing x=>.iface 267 (.agg #[])
def xe.casesW (a:xe) (p0:yh->Prop) (p1:Xi->Prop) (p2:ub->Prop) (p3:yj->Prop):Prop:=match a with
 | .kDeciding x=>p0 x
 | .kCalling x=>p1 x
 | .kReturning x=>p2 x
 | .kPassing x=>p3 x
def zu:List Ub:=[⟨(ByteArray.mk #[102,114,111,109]),65535⟩,⟨(ByteArray.mk #[116,111]),65535⟩,⟨(ByteArray.mk #[112,111,114,116]),255⟩,⟨(ByteArray.mk #[112,114,111,116,111]),7⟩]
def VJ (code_0:(List UInt8)) (O:((List UInt8)×Int)->Prop):Prop :=
 jnW (fun (xs68:(List UInt8))=>O (xs68,0)) (fun k71=>ifW (decide (2000<(code_0.length:Int))) (Xg code_0 0 2000 (fun xs4=>k71 xs4)) (k71 code_0))
def zw (r_0_b:(List UInt8)) (r_0_p:Int) (n_1:Int) (O:(Int×Int)->Prop):Prop :=
 je r_0_p 1 (fun t5=>jnW (fun (t66:Bool)=>ifW t66 (O (0,t5)) (Y6 t5 1 (fun t68=>ifW (decide (t68<(r_0_b.length:Int))) (zE r_0_b t68 (fun e69=>zcD (e69.toNat:Int) n_1 (fun t71=>O (t71,t5)))) (zcD t68 (r_0_b.length:Int) (fun t72=>zE r_0_b t72 (fun e73=>zio (e73.toNat:Int) 131 (fun t75=>zio t68 7 (fun t76=>je t76 3 (fun t77=>zcD t77 (r_0_b.length:Int) (fun t78=>zE r_0_b t78 (fun e79=>zio (e79.toNat:Int) 1117 (fun t81=>je t75 t81 (fun t82=>zio t68 29 (fun t83=>je t82 t83 (fun t84=>zlU t68 (r_0_b.length:Int) (fun t85=>zio t85 53 (fun t86=>je t84 t86 (fun t87=>zlU t87 64 (fun t88=>zrm t87 t88 (fun t89=>zcD t89 n_1 (fun t90=>O (t90,t5)))))))))))))))))))))) (fun k67=>ifW (decide (n_1<1)) (k67 true) (k67 (decide ((r_0_b.length:Int)=0)))))
def jH (r_0_b:(List UInt8)) (r_0_p:Int) (n_1:Int) (O:(Bool×Int)->Prop):Prop :=
 jnW (fun ((t68,t69):(Int×Bool))=>O (t69,t68)) (fun k70=>ifW (decide (0<n_1)) (zw r_0_b r_0_p n_1 (fun (r5,r6)=>Y6 n_1 1 (fun t7=>k70 (r6,(decide (r5=t7)))))) (k70 (r_0_p,false)))
def uC (n_0:Int) (O:Int->Prop):Prop :=
 jnW (fun (t61:Bool)=>ifW t61 (O 65535) (ifW (decide (n_0=2)) (O 255) (ifW (decide (n_0=3)) (O 7) (O (-1))))) (fun k62=>ifW (decide (n_0=0)) (k62 (decide (n_0=0))) (k62 (decide (n_0=1))))
def X1 (r_0_b:(List UInt8)) (r_0_p:Int) (p1:Int) (p2:Int) (O:(zk×Int)->Prop):Prop :=
 je p1 1 (fun t7=>zw r_0_b r_0_p (min 256 t7) (fun (r8,r9)=>jnW (fun ((t144,t145):(Int×Int))=>jnW (fun ((t147,t148):(Int×Int))=>jH r_0_b t147 p2 (fun (r174,r175)=>ifW r174 (jnW (fun ((t176,t177,t178):(Int×Int×Int))=>O ((zk.mk t177 t178),t176)) (fun k179=>zw r_0_b r175 3 (fun (r181,r182)=>zE ([(zk.mk (w64 (t148+1)) t148),(zk.mk (-1) t148),(zk.mk t145 (w64 (p1+1)))]) r181 (fun e183=>k179 (r182,e183.xLo,e183.xHi))))) (O ((zk.mk t145 t148),r175)))) (fun k149=>zw r_0_b t144 4 (fun (r150,r151)=>zw r_0_b r151 256 (fun (r152,r153)=>zw r_0_b r153 4 (fun (r155,r156)=>zE ([0,r150,r152,4096]) r155 (fun e157=>k149 (r156,(min p1 (w64 (t145+e157)))))))))) (fun k146=>jnW (fun ((t74,t75):(Int×Bool))=>ifW t75 (jnW (fun ((t77,t78):(Int×Int))=>k146 (t77,t78)) (fun k79=>zw r_0_b t74 256 (fun (r80,r81)=>k79 (r81,(min p1 (w64 ((w64 (r8 * 256))+r80))))))) (k146 (t74,r8))) (fun k76=>ifW (decide (255<p1)) (zw r_0_b r9 2 (fun (r12,r13)=>k76 (r13,(decide (r12=0))))) (k76 (r9,false))))))
def Xd (r_0_b:(List UInt8)) (r_0_p:Int) (n_1:Int) (O:(zI×Int)->Prop):Prop :=
 zw r_0_b r_0_p 4 (fun (r7,r8)=>zw r_0_b r8 4 (fun (r9,r10)=>uC r7 (fun r13=>X1 r_0_b r10 r13 0 (fun (r14,r15)=>jnW (fun ((t152,t153,t154):(Int×Int×Int))=>jnW (fun ((t241,t242,t243):(Int×Int×Int))=>jnW (fun ((t317,t318,t319,t320):(Int×Int×Int×Int))=>O ((zI.mk t318 t319 t320 (decide (r9=0))),t317)) (fun k321=>jH r_0_b t241 n_1 (fun (r245,r246)=>ifW r245 (zw r_0_b r246 3 (fun (r247,r248)=>ifW (decide (r247=0)) (zw r_0_b r248 2 (fun (r251,r252)=>zE ([(-1),4]) r251 (fun e253=>k321 (r252,e253,t242,t243)))) (ifW (decide (r247=1)) (je t243 1 (fun t255=>k321 (r248,r7,t255,t243))) (je r13 1 (fun t256=>k321 (r248,r7,t242,t256)))))) (k321 (r246,r7,t242,t243))))) (fun k244=>zw r_0_b t152 8 (fun (r156,r157)=>ifW (decide (r156=0)) (jnW (fun ((t158,t159,t160):(Int×Int×Int))=>k244 (t158,t159,t160)) (fun k161=>zw r_0_b r157 3 (fun (r163,r164)=>zE ([(zk.mk 0 r13),(zk.mk 0 t154),(zk.mk t153 r13)]) r163 (fun e165=>k161 (r164,e165.xLo,e165.xHi))))) (k244 (r157,t153,t154))))) (fun k155=>jnW (fun ((t80,t81):(Int×Bool))=>ifW t81 (zw r_0_b t80 20 (fun (r83,r84)=>jnW (fun ((t85,t86):(Int×Int))=>k155 (t85,r83,t86)) (fun k87=>zw r_0_b r84 8 (fun (r88,r89)=>k87 (r89,(w64 (r83+r88))))))) (k155 (t80,r14.xLo,r14.xHi))) (fun k82=>ifW (decide (r7<2)) (zw r_0_b r15 2 (fun (r18,r19)=>k82 (r19,(decide (r18=0))))) (k82 (r15,false))))))))
def yV (r_0_b:(List UInt8)) (r_0_p:Int) (n_1:Int) (O:((List zI)×Int)->Prop):Prop :=
 zw r_0_b r_0_p 4 (fun (r8,r9)=>jg (fun (nx16:(Int×(List zI)×Int)->Prop) ((t10,xs12,t15):(Int×(List zI)×Int))=>ifW (decide (0<t15)) (Xd r_0_b t10 0 (fun (r17,r18)=>jQ xs12 ([r17]) (fun _=>Y6 t15 1 (fun t23=>nx16 (r18,(xs12++([r17])),t23))))) (jnW (fun ((t97,xs99):(Int×(List zI)))=>O (xs99,t97)) (fun k102=>jH r_0_b t10 n_1 (fun (r24,r25)=>ifW r24 (zw r_0_b r25 2 (fun (r26,r27)=>ifW (decide (r26=0)) (Xd r_0_b r27 1 (fun (r28,r29)=>jQ xs12 ([r28]) (fun _=>k102 (r29,(xs12++([r28])))))) (zbS ((zI.mk 0 0 0 false):zI) 7 7 (fun xs35=>k102 (r27,xs35))))) (k102 (r25,xs12)))))) (r9,[],r8))
def Zk (r_0_b:(List UInt8)) (r_0_p:Int) (p1:Int) (p2:Int) (p3:Int) (O:(zo×Int)->Prop):Prop :=
 yV r_0_b r_0_p 0 (fun (r7,r10)=>zw r_0_b r10 8 (fun (r13,r14)=>zE ([1,1,2,2,3,3,4,5]) r13 (fun e15=>jnW (fun ((t86,t87,t88):(Int×Int×Int))=>jnW (fun ((t173,xs175,t178,t179):(Int×(List zI)×Int×Int))=>O ((zo.mk xs175 t178 t179),t173)) (fun k180=>jH r_0_b t88 p3 (fun (r90,r91)=>ifW r90 (zw r_0_b r91 3 (fun (r92,r93)=>ifW (decide (r92=0)) (zw r_0_b r93 2 (fun (r96,r97)=>zE ([0,6]) r96 (fun e98=>k180 (r97,r7,e98,t87)))) (ifW (decide (r92=1)) (zw r_0_b r93 3 (fun (r102,r103)=>zE ([(-1),5,1]) r102 (fun e104=>k180 (r103,r7,t86,e104)))) (yV r_0_b r93 1 (fun (r106,r109)=>k180 (r109,r106,t86,t87)))))) (k180 (r91,r7,t86,t87))))) (fun k89=>ifW (decide (e15=3)) (ifW (decide (p2<=p1)) (k89 (2,0,r14)) (Y6 p2 p1 (fun t22=>zw r_0_b r14 t22 (fun (r23,r24)=>je p1 r23 (fun t25=>k89 (e15,t25,r24)))))) (k89 (e15,0,r14))))))
def YG (r_0_b:(List UInt8)) (r_0_p:Int) (p1:Int) (p2:Int) (p3:Int) (O:((List zo)×Int)->Prop):Prop :=
 zw r_0_b r_0_p 5 (fun (r9,r10)=>jg (fun (nx18:(Int×(List zo)×Int)->Prop) ((t11,xs13,t17):(Int×(List zo)×Int))=>ifW (decide (0<t17)) (Zk r_0_b t11 p1 p2 0 (fun (r19,r22)=>jQ xs13 ([r19]) (fun _=>Y6 t17 1 (fun t32=>nx18 (r22,(xs13++([r19])),t32))))) (jnW (fun ((t122,xs124):(Int×(List zo)))=>O (xs124,t122)) (fun k128=>jH r_0_b t11 p3 (fun (r33,r34)=>ifW r33 (zw r_0_b r34 2 (fun (r35,r36)=>ifW (decide (r35=0)) (Zk r_0_b r36 p1 p2 1 (fun (r37,r40)=>jQ xs13 ([r37]) (fun _=>k128 (r40,(xs13++([r37])))))) (jg (fun (nx55:(List zo)->Prop) (xs51:(List zo))=>ifW (decide ((xs51.length:Int)<=8)) (jQ xs51 ([(zo.mk ([]) 5 0)]) (fun _=>nx55 (xs51++([(zo.mk ([]) 5 0)])))) (k128 (r36,xs51))) xs13))) (k128 (r34,xs13)))))) (r10,[],r9))
def YZ (r_0_b:(List UInt8)) (r_0_p:Int) (n_1:Int) (O:(zB×Int)->Prop):Prop :=
 zw r_0_b r_0_p 2 (fun (r7,r8)=>zw r_0_b r8 3 (fun (r11,r12)=>je 1 r11 (fun t13=>jg (fun (nx21:(Int×(List (List zo))×Int)->Prop) ((t14,xs16,t20):(Int×(List (List zo))×Int))=>ifW (decide (t20<t13)) (jnW (fun ((xs25,t29):((List (List zo))×Int))=>je t20 1 (fun t55=>nx21 (t29,xs25,t55))) (fun k30=>YG r_0_b t14 (w64 (t20+1)) t13 0 (fun (r31,r34)=>jQ xs16 ([r31]) (fun _=>k30 ((xs16++([r31])),r34))))) (jnW (fun ((t253,xs255):(Int×(List (List zo))))=>O ((zB.mk xs255 (decide (r7=0))),t253)) (fun k259=>jH r_0_b t14 n_1 (fun (r56,r57)=>ifW r56 (zw r_0_b r57 4 (fun (r58,r59)=>ifW (decide (r58=0)) (k259 (r59,[])) (ifW (decide (r58=1)) (jnW (fun ((xs69,t72):((List (List zo))×Int))=>k259 (t72,xs69)) (fun k73=>(zE xs16 0 (fun e74=>zw r_0_b r59 2 (fun (r80,r81)=>zE ([0,t13]) r80 (fun e82=>jQ e74 ([(zo.mk ([]) 3 e82)]) (fun _=>zE xs16 0 (fun e89=>k73 ((xs16.set (0:Int).toNat (e74++([(zo.mk ([]) 3 e82)]))),r81)))))))∧((zE xs16 0 (fun e130=>zw r_0_b r59 2 (fun (r80,r81)=>zE ([0,t13]) r80 (fun e82=>jQ e130 ([(zo.mk ([]) 3 e82)]) (fun _=>zE xs16 0 (fun e89=>k73 ((xs16.set (0:Int).toNat (e130++([(zo.mk ([]) 3 e82)]))),r81)))))))∧(zw r_0_b r59 2 (fun (r132,r133)=>(zE xs16 0 (fun e134=>zE ([0,t13]) r132 (fun e82=>jQ e134 ([(zo.mk ([]) 3 e82)]) (fun _=>zE xs16 0 (fun e89=>k73 ((xs16.set (0:Int).toNat (e134++([(zo.mk ([]) 3 e82)]))),r133))))))∧(zE ([0,t13]) r132 (fun e136=>zE xs16 0 (fun e138=>jQ e138 ([(zo.mk ([]) 3 e136)]) (fun _=>zE xs16 0 (fun e89=>k73 ((xs16.set (0:Int).toNat (e138++([(zo.mk ([]) 3 e136)]))),r133)))))))))∧(zw r_0_b r59 2 (fun (r151,r152)=>(zE xs16 0 (fun e153=>zE ([0,t13]) r151 (fun e82=>jQ e153 ([(zo.mk ([]) 3 e82)]) (fun _=>zE xs16 0 (fun e89=>k73 ((xs16.set (0:Int).toNat (e153++([(zo.mk ([]) 3 e82)]))),r152))))))∧((zE xs16 0 (fun e134=>zE ([0,t13]) r151 (fun e82=>jQ e134 ([(zo.mk ([]) 3 e82)]) (fun _=>zE xs16 0 (fun e89=>k73 ((xs16.set (0:Int).toNat (e134++([(zo.mk ([]) 3 e82)]))),r152))))))∧(zE ([0,t13]) r151 (fun e136=>zE xs16 0 (fun e138=>jQ e138 ([(zo.mk ([]) 3 e136)]) (fun _=>zE xs16 0 (fun e89=>k73 ((xs16.set (0:Int).toNat (e138++([(zo.mk ([]) 3 e136)]))),r152))))))))))) (ifW (decide (r58=2)) (Y6 t13 1 (fun t156=>zE xs16 t156 (fun e160=>Y6 t13 1 (fun t167=>zE (xs16.set (t156).toNat ([(zo.mk ([]) 3 0)])) 0 (fun e171=>k259 (r59,((xs16.set (t156).toNat ([(zo.mk ([]) 3 0)])).set (0:Int).toNat ([(zo.mk ([]) 3 t167)])))))))) (YG r_0_b r59 1 t13 1 (fun (r181,r185)=>zE xs16 0 (fun e186=>k259 (r185,(xs16.set (0:Int).toNat r181))))))))) (k259 (r57,xs16)))))) (r12,[],0))))
def jx (n_0:Int) (O:Int->Prop):Prop :=
 jnW (fun (t61:Bool)=>ifW t61 (O (-1)) (zE zu n_0 (fun e63=>O e63.xTop))) (fun k62=>ifW (decide (n_0<0)) (k62 true) (k62 (decide (4<=n_0))))
def UC (p0:zI) (O:Bool->Prop):Prop :=
 jnW (fun (t64:Bool)=>O t64) (fun k65=>ifW (decide (0<=p0.xField)) (ifW (decide (p0.xField<4)) (ifW (decide (0<=p0.xLo)) (ifW (decide (p0.xLo<=p0.xHi)) (jx p0.xField (fun r3=>k65 (decide (p0.xHi<=r3)))) (k65 false)) (k65 false)) (k65 false)) (k65 false))
def Y4 (list_0:(List zI)) (O:Bool->Prop):Prop :=
 ifW (decide (6<(list_0.length:Int))) (O false) (jg (fun (nx4:Int->Prop) (t3:Int)=>ifW (decide (t3<(list_0.length:Int))) (zE list_0 t3 (fun e5=>UC e5 (fun r9=>ifW (!r9) (O false) (je t3 1 (fun t10=>nx4 t10))))) (O true)) 0)
def Yb (r_0:zo) (O:Bool->Prop):Prop :=
 Y4 r_0.xTests (fun r8=>ifW (!r8) (O false) (ifW (decide (r_0.xAction=3)) (jnW (fun (t69:Bool)=>O t69) (fun k70=>ifW (decide (0<=r_0.xChain)) (k70 (decide (r_0.xChain<5))) (k70 false))) (jnW (fun (t131:Bool)=>ifW t131 (O (decide (r_0.xChain=0))) (O false)) (fun k132=>ifW (decide (r_0.xAction=1)) (k132 (decide (r_0.xAction=1))) (ifW (decide (r_0.xAction=2)) (k132 (decide (r_0.xAction=2))) (ifW (decide (r_0.xAction=4)) (k132 (decide (r_0.xAction=4))) (k132 (decide (r_0.xAction=5)))))))))
def Y2 (list_0:(List zo)) (O:Bool->Prop):Prop :=
 ifW (decide (8<(list_0.length:Int))) (O false) (jg (fun (nx4:Int->Prop) (t3:Int)=>ifW (decide (t3<(list_0.length:Int))) (zE list_0 t3 (fun e5=>Yb e5 (fun r16=>ifW (!r16) (O false) (je t3 1 (fun t17=>nx4 t17))))) (O true)) 0)
def XZ (p0:(List zo)) (O:(List Int)->Prop):Prop :=
 jg (fun (nx9:((List Bool)×Int)->Prop) ((xs6,t8):((List Bool)×Int))=>ifW (decide (t8<(p0.length:Int))) (jnW (fun (xs84:(List Bool))=>je t8 1 (fun t87=>nx9 (xs84,t87))) (fun k86=>zE p0 t8 (fun e10=>ifW (decide (e10.xAction=3)) (zE xs6 e10.xChain (fun e21=>k86 (xs6.set (e10.xChain).toNat true))) (k86 xs6)))) (zrY xs6 (fun e89 e90 e91 e92 e93=>jg (fun (nx100:((List Int)×Int)->Prop) ((xs96,t99):((List Int)×Int))=>ifW (decide (t99<5)) (jnW (fun (xs166:(List Int))=>je t99 1 (fun t170=>nx100 (xs166,t170))) (fun k169=>zE ([e89,e90,e91,e92,e93]) t99 (fun e101=>ifW e101 (jQ xs96 ([t99]) (fun _=>k169 (xs96++([t99])))) (k169 xs96)))) (O xs96)) ([],0)))) ([false,false,false,false,false],0)
def Y3 (rec:((List (List zo))->Int->(List Int)->((Bool×(List Int))->Prop)->Prop)) (p0:(List (List zo))) (p1:Int) (p2:(List Int)) (O:(Bool×(List Int))->Prop):Prop :=
 ifW (decide ((p0.length:Int)<=p1)) (O (true,p2)) (zE p2 p1 (fun e5=>ifW (decide (e5=1)) (O (false,p2)) (ifW (decide (e5=2)) (O (true,p2)) (zE p2 p1 (fun e7=>zE p0 p1 (fun e10=>XZ e10 (fun r16=>jg (fun (nx23:((List Int)×Bool×Int)->Prop) ((xs19,t21,t22):((List Int)×Bool×Int))=>ifW (decide (t22<(r16.length:Int))) (jnW (fun ((xs89,t91):((List Int)×Bool))=>je t22 1 (fun t93=>nx23 (xs89,t91,t93))) (fun k92=>zE r16 t22 (fun e24=>rec p0 e24 xs19 (fun (r26,r27)=>ifW (!r26) (k92 (r27,false)) (k92 (r27,t21)))))) (zE xs19 p1 (fun e94=>O (t21,(xs19.set (p1).toNat 2))))) ((p2.set (p1).toNat 1),true,0))))))))
def yG:Nat->(List (List zo))->Int->(List Int)->((Bool×(List Int))->Prop)->Prop
 | 0=>fun _ _ _ _=>False
 | n+1=>Y3 (yG n)
def zbz (p0:(List (List zo))) (p1:Int) (p2:(List Int)) (O:(Bool×(List Int))->Prop):Prop:=∃ n,yG n p0 p1 p2 O
def Us (p0:(List (List zo))) (O:Bool->Prop):Prop :=
 jg (fun (nx8:((List Int)×Int)->Prop) ((xs5,t7):((List Int)×Int))=>ifW (decide (t7<(p0.length:Int))) (zbz p0 t7 xs5 (fun (r9,r10)=>ifW (!r9) (O false) (je t7 1 (fun t12=>nx8 (r10,t12))))) (O true)) ([0,0,0,0,0],0)
def um (s_0:zB) (O:Bool->Prop):Prop :=
 jnW (fun (t68:Bool)=>ifW t68 (O false) (jg (fun (nx71:Int->Prop) (t70:Int)=>ifW (decide (t70<(s_0.xChains.length:Int))) (zE s_0.xChains t70 (fun e72=>Y2 e72 (fun r78=>ifW (!r78) (O false) (je t70 1 (fun t79=>nx71 t79))))) (jg (fun (nx81:Int->Prop) (t80:Int)=>ifW (decide (t80<(s_0.xChains.length:Int))) (zE s_0.xChains t80 (fun e82=>XZ e82 (fun r88=>jg (fun (nx92:Int->Prop) (t91:Int)=>ifW (decide (t91<(r88.length:Int))) (zE r88 t91 (fun e93=>ifW (decide ((s_0.xChains.length:Int)<=e93)) (O false) (je t91 1 (fun t95=>nx92 t95)))) (je t80 1 (fun t96=>nx81 t96))) 0))) (Us s_0.xChains (fun r97=>O r97))) 0)) 0)) (fun k69=>ifW (decide ((s_0.xChains.length:Int)<1)) (k69 true) (k69 (decide (5<(s_0.xChains.length:Int)))))
def uD (r_0:zo) (O:xe->Prop):Prop :=
 ifW (decide (r_0.xAction=1)) (O (xe.kDeciding (yh.mk true))) (ifW (decide (r_0.xAction=2)) (O (xe.kDeciding (yh.mk false))) (ifW (decide (r_0.xAction=3)) (O (xe.kCalling (Xi.mk r_0.xChain))) (ifW (decide (r_0.xAction=4)) (O (xe.kReturning (ub.mk ))) (O (xe.kPassing (yj.mk ))))))
def Yi (a_0:(List zk)) (b_1:(List zk)) (O:(Int×Bool)->Prop):Prop :=
 jg (fun (nx7:(Int×Int)->Prop) ((t5,t6):(Int×Int))=>jnW (fun (t68:Bool)=>ifW t68 (zE a_0 t5 (fun e70=>zE b_1 t6 (fun e72=>zE a_0 t5 (fun e74=>zE b_1 t6 (fun e76=>ifW (decide ((max e70.xLo e72.xLo)<=(min e74.xHi e76.xHi))) (O ((max e70.xLo e72.xLo),true)) (zE a_0 t5 (fun e78=>zE b_1 t6 (fun e80=>ifW (decide (e78.xHi<e80.xHi)) (je t5 1 (fun t82=>nx7 (t82,t6))) (je t6 1 (fun t83=>nx7 (t5,t83))))))))))) (O (0,false))) (fun k69=>ifW (decide (t5<(a_0.length:Int))) (k69 (decide (t6<(b_1.length:Int)))) (k69 false))) (0,0)
def zat (p0:zhV) (O:zZ->Prop):Prop :=
 zE ([p0.x0,p0.x1,p0.x2,p0.x3]) 0 (fun e5=>zE ([p0.x0,p0.x1,p0.x2,p0.x3]) 1 (fun e7=>zE ([p0.x0,p0.x1,p0.x2,p0.x3]) 2 (fun e9=>zE ([p0.x0,p0.x1,p0.x2,p0.x3]) 3 (fun e11=>O (zZ.mk e5 e7 e9 e11)))))
def Zh (s_0:za) (other_1:za) (O:(zZ×Bool)->Prop):Prop :=
 jg (fun (nx52:((List Int)×Int)->Prop) ((xs49,t51):((List Int)×Int))=>ifW (decide (t51<4)) (jnW (fun ((t53,t54):(Int×Bool))=>ifW (!t54) (O ((zZ.mk 0 0 0 0),false)) (zE xs49 t51 (fun e78=>je t51 1 (fun t81=>nx52 ((xs49.set (t51).toNat t53),t81))))) (fun k55=>zE ([s_0.x0,s_0.x1,s_0.x2,s_0.x3]) t51 (fun e56=>zE ([other_1.x0,other_1.x1,other_1.x2,other_1.x3]) t51 (fun e58=>Yi e56 e58 (fun (r68,r69)=>k55 (r68,r69)))))) (zjA xs49 (fun e82 e83 e84 e85=>zat (zhV.mk e82 e83 e84 e85) (fun r87=>O (r87,true))))) ([0,0,0,0],0)
def Zt (s_0:za) (other_1:za) (O:Bool->Prop):Prop :=
 Zh s_0 other_1 (fun (r75,r76)=>O r76)
def Zy (list_0:(List zk)) (O:((List zk)×Bool)->Prop):Prop :=
 ifW (decide (40<(list_0.length:Int))) (O ([],false)) (O (list_0,true))
def u7 (p0:(List zk)) (p1:Int) (top_2:Int) (O:(Bool×Int)->Prop):Prop :=
 ifW (decide ((p0.length:Int)=0)) (O (false,top_2)) (zE p0 0 (fun e3=>ifW (decide (p1<e3.xLo)) (zE p0 0 (fun e5=>Y6 e5.xLo 1 (fun t7=>O (false,t7)))) (zE p0 0 (fun e8=>O (true,e8.xHi)))))
def UK (p0:Bool) (p1:Bool) (O:Bool->Prop):Prop :=
 jnW (fun (t61:Bool)=>O t61) (fun k62=>ifW p0 (k62 p1) (k62 false))
def yd (a_0:(List zk)) (b_1:(List zk)) (top_2:Int) (O:(List zk)->Prop):Prop :=
 jg (fun (nx14:((List zk)×Int×Int×Int)->Prop) ((xs8,t11,t12,t13):((List zk)×Int×Int×Int))=>ifW (decide (t13<=top_2)) (jg (fun (nx16:Int->Prop) (t15:Int)=>jnW (fun (t79:Bool)=>ifW t79 (je t15 1 (fun t81=>nx16 t81)) (jg (fun (nx83:Int->Prop) (t82:Int)=>jnW (fun (t146:Bool)=>ifW t146 (je t82 1 (fun t148=>nx83 t148)) (Xg a_0 t15 (a_0.length:Int) (fun xs150=>u7 xs150 t13 top_2 (fun (r153,r154)=>Xg b_1 t82 (b_1.length:Int) (fun xs156=>u7 xs156 t13 top_2 (fun (r159,r160)=>jnW (fun (xs296:(List zk))=>je (min r154 r160) 1 (fun t300=>nx14 (xs296,t15,t82,t300))) (fun k299=>UK r153 r159 (fun r161=>ifW r161 (jnW (fun (t226:Bool)=>ifW t226 (Y6 (xs8.length:Int) 1 (fun t228=>zE xs8 t228 (fun e229=>k299 (xs8.set (t228).toNat (zk.mk e229.xLo (min r154 r160)))))) (jQ xs8 ([(zk.mk t13 (min r154 r160))]) (fun _=>k299 (xs8++([(zk.mk t13 (min r154 r160))]))))) (fun k227=>ifW (decide (0<(xs8.length:Int))) (Y6 (xs8.length:Int) 1 (fun t162=>zE xs8 t162 (fun e163=>je e163.xHi 1 (fun t165=>k227 (decide (t165=t13)))))) (k227 false))) (k299 xs8))))))))) (fun k147=>ifW (decide (t82<(b_1.length:Int))) (zE b_1 t82 (fun e84=>k147 (decide (e84.xHi<t13)))) (k147 false))) t12)) (fun k80=>ifW (decide (t15<(a_0.length:Int))) (zE a_0 t15 (fun e17=>k80 (decide (e17.xHi<t13)))) (k80 false))) t11) (O xs8)) ([],0,0,0)
def xa (a_0:(List zk)) (b_1:(List zk)) (top_2:Int) (O:((List zk)×Bool)->Prop):Prop :=
 yd a_0 b_1 top_2 (fun r6=>Zy r6 (fun (r9,r12)=>O (r9,r12)))
def YX (s_0:za) (other_1:za) (O:(za×Bool)->Prop):Prop :=
 jg (fun (nx52:((List (List zk))×Int)->Prop) ((xs49,t51):((List (List zk))×Int))=>ifW (decide (t51<4)) (jnW (fun ((xs53,t56):((List zk)×Bool))=>ifW (!t56) (O ((za.mk ([]) ([]) ([]) ([])),false)) (zE xs49 t51 (fun e122=>je t51 1 (fun t128=>nx52 ((xs49.set (t51).toNat xs53),t128))))) (fun k57=>zE ([s_0.x0,s_0.x1,s_0.x2,s_0.x3]) t51 (fun e58=>zE ([other_1.x0,other_1.x1,other_1.x2,other_1.x3]) t51 (fun e60=>jx t51 (fun r70=>xa e58 e60 r70 (fun (r71,r73)=>k57 (r71,r73))))))) (zjA xs49 (fun e129 e130 e131 e132=>O ((za.mk e129 e130 e131 e132),true)))) ([[],[],[],[]],0)
def xx (u_0_chains:(List (List zo))) (u_0_flats:(List zr)) (u_0_over:Bool) (p1:(List za)) (O:((List za)×Bool)->Prop):Prop :=
 jnW (fun (t70:Bool)=>O (p1,t70)) (fun k71=>ifW (decide (400<(p1.length:Int))) (k71 true) (k71 u_0_over))
def yw (s_0:za) (O:Bool->Prop):Prop :=
 jg (fun (nx39:Int->Prop) (t38:Int)=>ifW (decide (t38<4)) (zE ([s_0.x0,s_0.x1,s_0.x2,s_0.x3]) t38 (fun e41=>ifW (decide ((e41.length:Int)=0)) (O true) (je t38 1 (fun t44=>nx39 t44)))) (O false)) 0
def Xk (p0:Bool) (p1:Bool) (O:Bool->Prop):Prop :=
 jnW (fun (t61:Bool)=>O t61) (fun k62=>ifW p0 (k62 (!p1)) (k62 false))
def xu (a_0:(List zk)) (b_1:(List zk)) (top_2:Int) (O:(List zk)->Prop):Prop :=
 jg (fun (nx14:((List zk)×Int×Int×Int)->Prop) ((xs8,t11,t12,t13):((List zk)×Int×Int×Int))=>ifW (decide (t13<=top_2)) (jg (fun (nx16:Int->Prop) (t15:Int)=>jnW (fun (t79:Bool)=>ifW t79 (je t15 1 (fun t81=>nx16 t81)) (jg (fun (nx83:Int->Prop) (t82:Int)=>jnW (fun (t146:Bool)=>ifW t146 (je t82 1 (fun t148=>nx83 t148)) (Xg a_0 t15 (a_0.length:Int) (fun xs150=>u7 xs150 t13 top_2 (fun (r153,r154)=>Xg b_1 t82 (b_1.length:Int) (fun xs156=>u7 xs156 t13 top_2 (fun (r159,r160)=>jnW (fun (xs296:(List zk))=>je (min r154 r160) 1 (fun t300=>nx14 (xs296,t15,t82,t300))) (fun k299=>Xk r153 r159 (fun r161=>ifW r161 (jnW (fun (t226:Bool)=>ifW t226 (Y6 (xs8.length:Int) 1 (fun t228=>zE xs8 t228 (fun e229=>k299 (xs8.set (t228).toNat (zk.mk e229.xLo (min r154 r160)))))) (jQ xs8 ([(zk.mk t13 (min r154 r160))]) (fun _=>k299 (xs8++([(zk.mk t13 (min r154 r160))]))))) (fun k227=>ifW (decide (0<(xs8.length:Int))) (Y6 (xs8.length:Int) 1 (fun t162=>zE xs8 t162 (fun e163=>je e163.xHi 1 (fun t165=>k227 (decide (t165=t13)))))) (k227 false))) (k299 xs8))))))))) (fun k147=>ifW (decide (t82<(b_1.length:Int))) (zE b_1 t82 (fun e84=>k147 (decide (e84.xHi<t13)))) (k147 false))) t12)) (fun k80=>ifW (decide (t15<(a_0.length:Int))) (zE a_0 t15 (fun e17=>k80 (decide (e17.xHi<t13)))) (k80 false))) t11) (O xs8)) ([],0,0,0)
def uK (a_0:(List zk)) (b_1:(List zk)) (top_2:Int) (O:((List zk)×Bool)->Prop):Prop :=
 xu a_0 b_1 top_2 (fun r6=>Zy r6 (fun (r9,r12)=>O (r9,r12)))
def YM {W_:Type} (Y_:W_->za->Bool->(Bool×W_->Prop)->Prop) (z_:W_) (a_1:za) (b_2:za) (O:W_->Prop):Prop :=
 yw a_1 (fun r20=>ifW r20 (O z_) (Zt a_1 b_2 (fun r51=>ifW (!r51) (Y_ z_ a_1 true (fun (t67,z68)=>O z68)) (jg (fun (nx108:((List (List zk))×W_×Bool×Int)->Prop) ((xs101,z103,t106,t107):((List (List zk))×W_×Bool×Int))=>ifW (decide (t107<4)) (jnW (fun ((z498,xs501,t503):(W_×(List (List zk))×Bool))=>je t107 1 (fun t505=>nx108 (xs501,z498,t503,t505))) (fun k504=>jnW (fun ((xs109,t112):((List zk)×Bool))=>jnW (fun (t232:Bool)=>ifW t232 (Y_ z103 (za.mk ([]) ([]) ([]) ([])) false (fun (t234,z235)=>O z235)) (jnW (fun ((z363,xs366):(W_×(List (List zk))))=>jnW (fun ((xs369,t372):((List zk)×Bool))=>zE xs366 t107 (fun e432=>ifW t106 (k504 (z363,(xs366.set (t107).toNat xs369),t372)) (k504 (z363,(xs366.set (t107).toNat xs369),false)))) (fun k373=>(zE ([a_1.x0,a_1.x1,a_1.x2,a_1.x3]) t107 (fun e374=>(zE ([b_2.x0,b_2.x1,b_2.x2,b_2.x3]) t107 (fun e379=>jx t107 (fun r384=>xa e374 e379 r384 (fun (r385,r387)=>k373 (r385,r387)))))∧(jx t107 (fun r388=>zE ([b_2.x0,b_2.x1,b_2.x2,b_2.x3]) t107 (fun e389=>xa e374 e389 r388 (fun (r394,r396)=>k373 (r394,r396)))))))∧(zE ([b_2.x0,b_2.x1,b_2.x2,b_2.x3]) t107 (fun e397=>(zE ([a_1.x0,a_1.x1,a_1.x2,a_1.x3]) t107 (fun e402=>jx t107 (fun r407=>xa e402 e397 r407 (fun (r385,r387)=>k373 (r385,r387)))))∧(jx t107 (fun r408=>zE ([a_1.x0,a_1.x1,a_1.x2,a_1.x3]) t107 (fun e409=>xa e409 e397 r408 (fun (r414,r416)=>k373 (r414,r416)))))))∧(jx t107 (fun r417=>(zE ([a_1.x0,a_1.x1,a_1.x2,a_1.x3]) t107 (fun e418=>zE ([b_2.x0,b_2.x1,b_2.x2,b_2.x3]) t107 (fun e423=>xa e418 e423 r417 (fun (r394,r396)=>k373 (r394,r396)))))∧(zE ([b_2.x0,b_2.x1,b_2.x2,b_2.x3]) t107 (fun e425=>zE ([a_1.x0,a_1.x1,a_1.x2,a_1.x3]) t107 (fun e430=>xa e430 e425 r417 (fun (r414,r416)=>k373 (r414,r416))))))))) (fun k368=>ifW (decide (0<(xs109.length:Int))) (zjA xs101 (fun e238 e239 e240 e241=>zE ([e238,e239,e240,e241]) t107 (fun e273=>zjA (([e238,e239,e240,e241]).set (t107).toNat xs109) (fun e279 e280 e281 e282=>Y_ z103 (za.mk e279 e280 e281 e282) true (fun (t299,z300)=>ifW (!t299) (O z300) (k368 (z300,[e238,e239,e240,e241]))))))) (k368 (z103,xs101))))) (fun k233=>ifW (!t112) (k233 true) (ifW (decide (0<(xs109.length:Int))) (k233 (!t106)) (k233 false)))) (fun k113=>(zE ([a_1.x0,a_1.x1,a_1.x2,a_1.x3]) t107 (fun e114=>(zE ([b_2.x0,b_2.x1,b_2.x2,b_2.x3]) t107 (fun e119=>jx t107 (fun r124=>uK e114 e119 r124 (fun (r125,r127)=>k113 (r125,r127)))))∧(jx t107 (fun r128=>zE ([b_2.x0,b_2.x1,b_2.x2,b_2.x3]) t107 (fun e129=>uK e114 e129 r128 (fun (r134,r136)=>k113 (r134,r136)))))))∧(zE ([b_2.x0,b_2.x1,b_2.x2,b_2.x3]) t107 (fun e137=>(zE ([a_1.x0,a_1.x1,a_1.x2,a_1.x3]) t107 (fun e142=>jx t107 (fun r147=>uK e142 e137 r147 (fun (r125,r127)=>k113 (r125,r127)))))∧(jx t107 (fun r148=>zE ([a_1.x0,a_1.x1,a_1.x2,a_1.x3]) t107 (fun e149=>uK e149 e137 r148 (fun (r154,r156)=>k113 (r154,r156)))))))∧(jx t107 (fun r157=>(zE ([a_1.x0,a_1.x1,a_1.x2,a_1.x3]) t107 (fun e158=>zE ([b_2.x0,b_2.x1,b_2.x2,b_2.x3]) t107 (fun e163=>uK e158 e163 r157 (fun (r134,r136)=>k113 (r134,r136)))))∧(zE ([b_2.x0,b_2.x1,b_2.x2,b_2.x3]) t107 (fun e165=>zE ([a_1.x0,a_1.x1,a_1.x2,a_1.x3]) t107 (fun e170=>uK e170 e165 r157 (fun (r154,r156)=>k113 (r154,r156)))))))))) (O z103)) ([a_1.x0,a_1.x1,a_1.x2,a_1.x3],z_,true,0)))))
def zb6 (z:Option (List za)) (x:za) (ok:Bool) (O:Bool×Option (List za)->Prop):Prop :=
 match z with
 | none=>False
 | some xs=>ifW ok (jQ xs [x] (fun ys=>O (true,some ys))) (O (false,none))
def zrA:Option (List za)->List za×Bool
 | some xs=>(xs,true)
 | none=>([],false)
def Ze (s_0:za) (other_1:za) (O:((List za)×Bool)->Prop):Prop :=
 YM zb6 (some []) s_0 other_1 (fun r=>O (zrA r))
def ZT (u_0_chains:(List (List zo))) (u_0_flats:(List zr)) (u_0_over:Bool) (p1:(List za)) (p2:za) (O:((List za)×(List za)×Bool)->Prop):Prop :=
 jg (fun (nx42:((List za)×(List za)×Int)->Prop) ((xs34,xs38,t41):((List za)×(List za)×Int))=>ifW (decide (t41<(p1.length:Int))) (zE p1 t41 (fun e43=>jnW (fun (xs252:(List za))=>Ze e43 p2 (fun (r286,r289)=>ifW (!r289) (O ([],[],true)) (jQ xs38 r286 (fun _=>je t41 1 (fun t294=>nx42 (xs252,(xs38++r286),t294)))))) (fun k255=>Zt e43 p2 (fun r103=>ifW r103 (YX e43 p2 (fun (r134,r143)=>ifW (!r143) (O ([],[],true)) (jQ xs34 ([r134]) (fun _=>k255 (xs34++([r134])))))) (k255 xs34))))) (xx u_0_chains u_0_flats u_0_over xs34 (fun (r295,r298)=>xx u_0_chains u_0_flats r298 xs38 (fun (r299,r302)=>O (r295,r299,r302))))) ([],[],0)
def YF (O:za->Prop):Prop :=
 jg (fun (nx8:((List (List zk))×Int)->Prop) ((xs5,t7):((List (List zk))×Int))=>ifW (decide (t7<4)) (jx t7 (fun r9=>zE xs5 t7 (fun e12=>je t7 1 (fun t18=>nx8 ((xs5.set (t7).toNat ([(zk.mk 0 r9)])),t18))))) (zjA xs5 (fun e19 e20 e21 e22=>O (za.mk e19 e20 e21 e22)))) ([[],[],[],[]],0)
def XF (p0:zI) (O:(List zk)->Prop):Prop :=
 ifW (!p0.xNot) (O ([(zk.mk p0.xLo p0.xHi)])) (jnW (fun (xs72:(List zk))=>jnW (fun (xs142:(List zk))=>O xs142) (fun k145=>jx p0.xField (fun r76=>ifW (decide (p0.xHi<r76)) (je p0.xHi 1 (fun t77=>jQ xs72 ([(zk.mk t77 r76)]) (fun _=>k145 (xs72++([(zk.mk t77 r76)]))))) (k145 xs72)))) (fun k75=>ifW (decide (0<p0.xLo)) (Y6 p0.xLo 1 (fun t7=>jQ ([]) ([(zk.mk 0 t7)]) (fun _=>k75 (([])++([(zk.mk 0 t7)]))))) (k75 ([]))))
def YS (list_0:(List zI)) (O:za->Prop):Prop :=
 YF (fun r5=>jg (fun (nx32:((List (List zk))×Int)->Prop) ((xs29,t31):((List (List zk))×Int))=>ifW (decide (t31<(list_0.length:Int))) (zE list_0 t31 (fun e33=>jnW (fun (xs37:(List (List zk)))=>je t31 1 (fun t76=>nx32 (xs37,t76))) (fun k39=>(zE xs29 e33.xField (fun e40=>XF e33 (fun r46=>jx e33.xField (fun r48=>xa e40 r46 r48 (fun (r49,r51)=>zE xs29 e33.xField (fun e52=>k39 (xs29.set (e33.xField).toNat r49)))))))∧(XF e33 (fun r69=>(zE xs29 e33.xField (fun e71=>jx e33.xField (fun r48=>xa e71 r69 r48 (fun (r49,r51)=>zE xs29 e33.xField (fun e52=>k39 (xs29.set (e33.xField).toNat r49))))))∧(jx e33.xField (fun r73=>zE xs29 e33.xField (fun e74=>xa e74 r69 r73 (fun (r49,r51)=>zE xs29 e33.xField (fun e52=>k39 (xs29.set (e33.xField).toNat r49))))))))))) (zjA xs29 (fun e77 e78 e79 e80=>O (za.mk e77 e78 e79 e80)))) ([r5.x0,r5.x1,r5.x2,r5.x3],0))
def yp (s_0:(List za)) (n_1:Int) (O:(List za)->Prop):Prop:=s_0=[]∧0<=n_1∧n_1<=4294967296∧O []
def xm (p0:(List (List za))) (O:(List za)->Prop):Prop :=
 jg (fun (nx6:(Int×Int)->Prop) ((t4,t5):(Int×Int))=>ifW (decide (t5<(p0.length:Int))) (zE p0 t5 (fun e7=>je t4 (e7.length:Int) (fun t13=>ifW (decide (t13<0)) (False) (je t5 1 (fun t14=>nx6 (t13,t14)))))) (yp ([]) t4 (fun r15=>jg (fun (nx23:((List za)×Int)->Prop) ((xs19,t22):((List za)×Int))=>ifW (decide (t22<(p0.length:Int))) (zE p0 t22 (fun e24=>jQ xs19 e24 (fun _=>je t22 1 (fun t32=>nx23 ((xs19++e24),t32))))) (O xs19)) (r15,0)))) (0,0)
def yJ (d_0:yh) (p1g:(List (List zo))) (p1h:(List zr)) (p1i:Bool) (__2:(List za)) (p3:(List za)) (p4:(List za)) (O:((List za)×(List zr)×Bool)->Prop):Prop :=
 jg (fun (nx23:((List zr)×Int)->Prop) ((xs19,t22):((List zr)×Int))=>ifW (decide (t22<(p3.length:Int))) (zE p3 t22 (fun e24=>jnW (fun (xs57:(List zr))=>je t22 1 (fun t113=>nx23 (xs57,t113))) (fun k60=>jQ xs19 ([(zr.mk e24 d_0.xAccept)]) (fun _=>k60 (xs19++([(zr.mk e24 d_0.xAccept)])))))) (jnW (fun (t174:Bool)=>O (p4,xs19,t174)) (fun k175=>ifW (decide (60<(xs19.length:Int))) (k175 true) (k175 p1i)))) (p1h,0)
def Yc (a_0:ub) (__1_chains:(List (List zo))) (__1_flats:(List zr)) (__1_over:Bool) (p2:(List za)) (p3:(List za)) (p4:(List za)) (O:((List za)×(List za))->Prop):Prop :=
 jQ p2 p3 (fun _=>O (p4,(p2++p3)))
def YL (a_0:yj) (__1_chains:(List (List zo))) (__1_flats:(List zr)) (__1_over:Bool) (__2:(List za)) (p3:(List za)) (p4:(List za)) (O:(List za)->Prop):Prop :=
 xm ([p4,p3]) (fun r26=>O r26)
def YK (rec:(List (List zo))->(List zr)->Bool->Int->(List za)->(((List za)×(List zr)×Bool)->Prop)->Prop) (p0:Xi) (p1g:(List (List zo))) (p1h:(List zr)) (p1i:Bool) (__2:(List za)) (p3:(List za)) (p4:(List za)) (O:((List za)×(List zr)×Bool)->Prop):Prop :=
 rec p1g p1h p1i p0.xChain p3 (fun (r18,r21,r24)=>xm ([p4,r18]) (fun r33=>O (r33,r21,r24)))
def Xm (rec:((List (List zo))->(List zr)->Bool->Int->(List za)->(((List za)×(List zr)×Bool)->Prop)->Prop)) (u_0_chains:(List (List zo))) (u_0_flats:(List zr)) (u_0_over:Bool) (number_1:Int) (boxes_2:(List za)) (O:((List za)×(List zr)×Bool)->Prop):Prop :=
 ifW (decide ((boxes_2.length:Int)=0)) (O ([],u_0_flats,u_0_over)) (zE u_0_chains number_1 (fun e14=>jg (fun (nx34:((List za)×(List zr)×Bool×(List za)×Int)->Prop) ((xs21,xs25,t28,xs30,t33):((List za)×(List zr)×Bool×(List za)×Int))=>ifW (decide (t33<(e14.length:Int))) (jnW (fun ((xs171,xs174,t177,xs179):((List zr)×(List za)×Bool×(List za)))=>je t33 1 (fun t183=>nx34 (xs174,xs171,t177,xs179,t183))) (fun k182=>zE e14 t33 (fun e35=>YS e35.xTests (fun r46=>ZT u_0_chains xs25 t28 xs30 r46 (fun (r55,r58,r61)=>ifW r61 (O ([],xs25,r61)) (uD e35 (fun r63=>xe.casesW r63 (fun x64=>yJ x64 u_0_chains xs25 r61 xs21 r55 r58 (fun (r68,r71,r74)=>xx u_0_chains r71 r74 r68 (fun (r75,r78)=>ifW r78 (O ([],r71,r78)) (k182 (r71,xs21,r78,r75))))) (fun x65=>YK rec x65 u_0_chains xs25 r61 xs21 r55 r58 (fun (r80,r83,r86)=>xx u_0_chains r83 r86 r80 (fun (r87,r90)=>ifW r90 (O ([],r83,r90)) (k182 (r83,xs21,r90,r87))))) (fun x66=>Yc (ub.mk ) u_0_chains xs25 r61 xs21 r55 r58 (fun (r92,r95)=>xx u_0_chains xs25 r61 r92 (fun (r98,r101)=>ifW r101 (O ([],xs25,r101)) (k182 (xs25,r95,r101,r98))))) (fun x67=>YL (yj.mk ) u_0_chains xs25 r61 xs21 r55 r58 (fun r103=>xx u_0_chains xs25 r61 r103 (fun (r106,r109)=>ifW r109 (O ([],xs25,r109)) (k182 (xs25,xs21,r109,r106)))))))))))) (xm ([xs21,xs30]) (fun r192=>xx u_0_chains xs25 t28 r192 (fun (r195,r198)=>O (r195,xs25,r198))))) ([],u_0_flats,u_0_over,boxes_2,0)))
def uQ:Nat->(List (List zo))->(List zr)->Bool->Int->(List za)->(((List za)×(List zr)×Bool)->Prop)->Prop
 | 0=>fun _ _ _ _ _ _=>False
 | n+1=>Xm (uQ n)
def VW (u_0_chains:(List (List zo))) (u_0_flats:(List zr)) (u_0_over:Bool) (number_1:Int) (boxes_2:(List za)) (O:((List za)×(List zr)×Bool)->Prop):Prop:=∃ n,uQ n u_0_chains u_0_flats u_0_over number_1 boxes_2 O
def Xj (s_0:zB) (O:((List zr)×Bool)->Prop):Prop :=
 YF (fun r11=>VW s_0.xChains ([]) false 0 ([r11]) (fun (r35,r38,r41)=>O (r38,(!r41))))
def VU (list_0:(List zr)) (p1:Bool) (O:(List zr)->Prop):Prop :=
 jg (fun (nx5:Int->Prop) (t4:Int)=>jnW (fun (t69:Bool)=>ifW t69 (Y6 t4 1 (fun t71=>nx5 t71)) (Xg list_0 0 t4 (fun xs73=>O xs73))) (fun k70=>ifW (decide (0<t4)) (Y6 t4 1 (fun t6=>zE list_0 t6 (fun e7=>k70 (decide (e7.xAccept=p1))))) (k70 false))) (list_0.length:Int)
def uA (s_0:(List zr)) (O:(List zr)->Prop):Prop :=
 zsc true s_0 (fun t4=>ifW t4 (O ([])) (jQ ([]) s_0 (fun _=>O (([])++s_0))))
def ZN (s_0:za) (other_1:za) (O:Bool->Prop):Prop :=
 yw s_0 (fun r60=>ifW r60 (O true) (jg (fun (nx62:Int->Prop) (t61:Int)=>ifW (decide (t61<4)) (jnW (fun (t63:Bool)=>ifW t63 (O false) (je t61 1 (fun t107=>nx62 t107))) (fun k64=>zE ([s_0.x0,s_0.x1,s_0.x2,s_0.x3]) t61 (fun e65=>zE ([other_1.x0,other_1.x1,other_1.x2,other_1.x3]) t61 (fun e67=>jx t61 (fun r77=>xu e65 e67 r77 (fun r78=>k64 (decide (0<(r78.length:Int))))))))) (O true)) 0))
def uz (p0:(List zk)) (p1:(List zk)) (O:Bool->Prop):Prop :=
 ifW (!(decide ((p0.length:Int)=(p1.length:Int)))) (O false) (jg (fun (nx6:Int->Prop) (t5:Int)=>ifW (decide (t5<(p0.length:Int))) (zE p0 t5 (fun e7=>zE p1 t5 (fun e9=>ifW (!(decide (e7=e9))) (O false) (je t5 1 (fun t11=>nx6 t11))))) (O true)) 0)
def YB (p0:Bool) (p1:Bool) (O:Bool->Prop):Prop :=
 jnW (fun (t61:Bool)=>O t61) (fun k62=>ifW p0 (k62 true) (k62 p1))
def uS (a_0:(List zk)) (b_1:(List zk)) (top_2:Int) (O:(List zk)->Prop):Prop :=
 jg (fun (nx14:((List zk)×Int×Int×Int)->Prop) ((xs8,t11,t12,t13):((List zk)×Int×Int×Int))=>ifW (decide (t13<=top_2)) (jg (fun (nx16:Int->Prop) (t15:Int)=>jnW (fun (t79:Bool)=>ifW t79 (je t15 1 (fun t81=>nx16 t81)) (jg (fun (nx83:Int->Prop) (t82:Int)=>jnW (fun (t146:Bool)=>ifW t146 (je t82 1 (fun t148=>nx83 t148)) (Xg a_0 t15 (a_0.length:Int) (fun xs150=>u7 xs150 t13 top_2 (fun (r153,r154)=>Xg b_1 t82 (b_1.length:Int) (fun xs156=>u7 xs156 t13 top_2 (fun (r159,r160)=>jnW (fun (xs296:(List zk))=>je (min r154 r160) 1 (fun t300=>nx14 (xs296,t15,t82,t300))) (fun k299=>YB r153 r159 (fun r161=>ifW r161 (jnW (fun (t226:Bool)=>ifW t226 (Y6 (xs8.length:Int) 1 (fun t228=>zE xs8 t228 (fun e229=>k299 (xs8.set (t228).toNat (zk.mk e229.xLo (min r154 r160)))))) (jQ xs8 ([(zk.mk t13 (min r154 r160))]) (fun _=>k299 (xs8++([(zk.mk t13 (min r154 r160))]))))) (fun k227=>ifW (decide (0<(xs8.length:Int))) (Y6 (xs8.length:Int) 1 (fun t162=>zE xs8 t162 (fun e163=>je e163.xHi 1 (fun t165=>k227 (decide (t165=t13)))))) (k227 false))) (k299 xs8))))))))) (fun k147=>ifW (decide (t82<(b_1.length:Int))) (zE b_1 t82 (fun e84=>k147 (decide (e84.xHi<t13)))) (k147 false))) t12)) (fun k80=>ifW (decide (t15<(a_0.length:Int))) (zE a_0 t15 (fun e17=>k80 (decide (e17.xHi<t13)))) (k80 false))) t11) (O xs8)) ([],0,0,0)
def XJ (a_0:(List zk)) (b_1:(List zk)) (top_2:Int) (O:((List zk)×Bool)->Prop):Prop :=
 uS a_0 b_1 top_2 (fun r6=>Zy r6 (fun (r9,r12)=>O (r9,r12)))
def XA (a_0:za) (b_1:za) (O:(za×Bool)->Prop):Prop :=
 ZN a_0 b_1 (fun r77=>ifW r77 (O (b_1,true)) (ZN b_1 a_0 (fun r156=>ifW r156 (O (a_0,true)) (jg (fun (nx208:(Int×Int×Int)->Prop) ((t205,t206,t207):(Int×Int×Int))=>ifW (decide (t207<4)) (jnW (fun ((t293,t294):(Int×Int))=>je t207 1 (fun t296=>nx208 (t293,t294,t296))) (fun k295=>jnW (fun (t209:Bool)=>ifW t209 (je t206 1 (fun t232=>k295 (t207,t232))) (k295 (t205,t206))) (fun k210=>zE ([a_0.x0,a_0.x1,a_0.x2,a_0.x3]) t207 (fun e211=>zE ([b_1.x0,b_1.x1,b_1.x2,b_1.x3]) t207 (fun e213=>uz e211 e213 (fun r223=>k210 (!r223))))))) (ifW (!(decide (t206=1))) (O ((za.mk ([]) ([]) ([]) ([])),false)) (jnW (fun ((xs318,t321):((List zk)×Bool))=>ifW (!t321) (O ((za.mk ([]) ([]) ([]) ([])),false)) (zE ([a_0.x0,a_0.x1,a_0.x2,a_0.x3]) t205 (fun e417=>zjA (([a_0.x0,a_0.x1,a_0.x2,a_0.x3]).set (t205).toNat xs318) (fun e423 e424 e425 e426=>O ((za.mk e423 e424 e425 e426),true))))) (fun k322=>zE ([a_0.x0,a_0.x1,a_0.x2,a_0.x3]) t205 (fun e323=>zE ([b_1.x0,b_1.x1,b_1.x2,b_1.x3]) t205 (fun e325=>jx t205 (fun r335=>XJ e323 e325 r335 (fun (r336,r338)=>k322 (r336,r338))))))))) (0,0,0)))))
def ur (s_0:(List zr)) (p1:Int) (p2:Int) (O:(List zr)->Prop):Prop:=0<=p1∧p1<=p2∧p2<=(s_0.length:Int)∧O (s_0.take p1.toNat++s_0.drop p2.toNat)
def ZW (list_0:(List zr)) (O:(List zr)->Prop):Prop :=
 uA list_0 (fun r4=>jg (fun (nx12:((List zr)×Int)->Prop) ((xs8,t11):((List zr)×Int))=>je t11 1 (fun t13=>ifW (decide (t13<(xs8.length:Int))) (jnW (fun ((xs149,t151):((List (List zk))×Bool))=>ifW (!t151) (je t11 1 (fun t153=>nx12 (xs8,t153))) (zjA xs149 (fun e154 e155 e156 e157=>zE xs8 t11 (fun e174=>je t11 1 (fun t189=>je t11 2 (fun t190=>ur (xs8.set (t11).toNat (zr.mk (za.mk e154 e155 e156 e157) e174.xAccept)) t189 t190 (fun r191=>Y6 t11 1 (fun t194=>nx12 (r191,(max t194 0)))))))))) (fun k152=>zE xs8 t11 (fun e17=>je t11 1 (fun t19=>zE xs8 t19 (fun e20=>ifW (decide (e17.xAccept=e20.xAccept)) (jnW (fun ((xs22,t24):((List (List zk))×Bool))=>k152 (xs22,t24)) (fun k25=>zE xs8 t11 (fun e26=>zE xs8 (w64 (t11+1)) (fun e28=>XA e26.xWhere e28.xWhere (fun (r50,r55)=>k25 ([r50.x0,r50.x1,r50.x2,r50.x3],r55)))))) (k152 ([[],[],[],[]],false))))))) (O xs8))) (r4,0))
def US (list_0:(List zr)) (O:(List za)->Prop):Prop :=
 zbS ((za.mk ([]) ([]) ([]) ([])):za) 0 (list_0.length:Int) (fun xs5=>jg (fun (nx12:((List za)×Int)->Prop) ((xs8,t11):((List za)×Int))=>ifW (decide (t11<(list_0.length:Int))) (zE list_0 t11 (fun e13=>jQ xs8 ([e13.xWhere]) (fun _=>je t11 1 (fun t46=>nx12 ((xs8++([e13.xWhere])),t46))))) (O xs8)) (xs5,0))
def Zx (s_0:za) (region_1:(List za)) (O:((List za)×Bool)->Prop):Prop :=
 yw s_0 (fun r41=>ifW r41 (O ([],true)) (jnW (fun (xs310:(List za))=>O (xs310,true)) (fun k313=>jg (fun (nx77:((List za)×Int)->Prop) ((xs73,t76):((List za)×Int))=>ifW (decide (t76<(region_1.length:Int))) (zE region_1 t76 (fun e78=>jg (fun (nx114:((List za)×Int)->Prop) ((xs110,t113):((List za)×Int))=>ifW (decide (t113<(xs73.length:Int))) (zE xs73 t113 (fun e115=>Ze e115 e78 (fun (r177,r180)=>jnW (fun (t242:Bool)=>ifW t242 (O ([],false)) (jQ xs110 r177 (fun _=>je t113 1 (fun t247=>nx114 ((xs110++r177),t247))))) (fun k243=>ifW (!r180) (k243 true) (je (xs110.length:Int) (r177.length:Int) (fun t181=>k243 (decide (400<t181)))))))) (ifW (decide ((xs110.length:Int)=0)) (k313 xs110) (je t76 1 (fun t248=>nx77 (xs110,t248))))) ([],0))) (k313 xs73)) ([s_0],0))))
def V9 (list_0:(List zr)) (n_1:Int) (O:((List za)×Bool)->Prop):Prop :=
 zE list_0 n_1 (fun e4=>Xg list_0 0 n_1 (fun xs20=>US xs20 (fun r23=>Zx e4.xWhere r23 (fun (r26,r29)=>O (r26,r29)))))
def zad (list_0:(List zr)) (O:(List Int)->Prop):Prop :=
 jg (fun (nx10:((List Int)×Int)->Prop) ((xs6,t9):((List Int)×Int))=>ifW (decide (t9<(list_0.length:Int))) (jnW (fun (xs141:(List Int))=>je t9 1 (fun t145=>nx10 (xs141,t145))) (fun k144=>V9 list_0 t9 (fun (r11,r14)=>jnW (fun (t75:Bool)=>ifW t75 (jQ xs6 ([t9]) (fun _=>k144 (xs6++([t9])))) (k144 xs6)) (fun k76=>ifW r14 (k76 (decide ((r11.length:Int)=0))) (k76 false))))) (O xs6)) ([],0)
def Yg (list_0:(List zr)) (O:(List zr)->Prop):Prop :=
 zad list_0 (fun r4=>zbS ((zr.mk (za.mk ([]) ([]) ([]) ([])) false):zr) 0 (list_0.length:Int) (fun xs8=>jg (fun (nx19:((List Int)×(List zr)×Int)->Prop) ((xs11,xs15,t18):((List Int)×(List zr)×Int))=>ifW (decide (t18<(list_0.length:Int))) (jnW (fun ((xs180,xs184):((List zr)×(List Int)))=>je t18 1 (fun t188=>nx19 (xs184,xs180,t188))) (fun k187=>zE list_0 t18 (fun e20=>jnW (fun (t111:Bool)=>ifW t111 (Xg xs11 1 (xs11.length:Int) (fun xs114=>k187 (xs15,xs114))) (jQ xs15 ([e20]) (fun _=>k187 ((xs15++([e20])),xs11)))) (fun k112=>ifW (decide (0<(xs11.length:Int))) (zE xs11 0 (fun e49=>k112 (decide (e49=t18)))) (k112 false))))) (O xs15)) (r4,xs8,0)))
def Y1 (list_0:(List zr)) (p1:Bool) (O:(List zr)->Prop):Prop :=
 jg (fun (nx8:(List zr)->Prop) (xs5:(List zr))=>Yg xs5 (fun r9=>ZW r9 (fun r12=>VU r12 p1 (fun r15=>ifW (decide ((r15.length:Int)=(xs5.length:Int))) (O r15) (nx8 r15))))) list_0
def XU (s_0:zB) (O:((List zr)×Bool)->Prop):Prop :=
 um s_0 (fun r9=>ifW (!r9) (O ([],false)) (Xj s_0 (fun (r11,r14)=>ifW (!r14) (O ([],false)) (Y1 r11 s_0.xAccept (fun r16=>O (r16,true))))))
def UE (p0:zo) (O:zo->Prop):Prop :=
 jQ ([]) p0.xTests (fun _=>O (zo.mk (([])++p0.xTests) p0.xAction p0.xChain))
def Xv (list_0:(List zo)) (O:(List zo)->Prop):Prop :=
 jg (fun (nx13:((List zo)×Int)->Prop) ((xs8,t12):((List zo)×Int))=>ifW (decide (t12<(list_0.length:Int))) (zE list_0 t12 (fun e14=>UE e14 (fun r20=>jQ xs8 ([r20]) (fun _=>je t12 1 (fun t32=>nx13 ((xs8++([r20])),t32)))))) (O xs8)) ([],0)
def Ul (list_0:(List (List zo))) (O:(List (List zo))->Prop):Prop :=
 jg (fun (nx13:((List (List zo))×Int)->Prop) ((xs8,t12):((List (List zo))×Int))=>ifW (decide (t12<(list_0.length:Int))) (zE list_0 t12 (fun e14=>Xv e14 (fun r20=>jQ xs8 ([r20]) (fun _=>je t12 1 (fun t33=>nx13 ((xs8++([r20])),t33)))))) (O xs8)) ([],0)
def ZJ (p0:zB) (O:zB->Prop):Prop :=
 Ul p0.xChains (fun r12=>O (zB.mk r12 p0.xAccept))
def Zm (n_0:Int) (p1:Int) (p2:Int) (O:Bool->Prop):Prop :=
 jnW (fun (t61:Bool)=>O t61) (fun k62=>ifW (decide (p1<=n_0)) (k62 (decide (n_0<=p2))) (k62 false))
def Z1 (p0:zI) (O:Bool->Prop):Prop :=
 jnW (fun (t66:Bool)=>O t66) (fun k67=>Zm p0.xField 0 3 (fun r3=>ifW r3 (Zm p0.xLo 0 p0.xHi (fun r4=>ifW r4 (uC p0.xField (fun r5=>k67 (decide (p0.xHi<=r5)))) (k67 false))) (k67 false)))
def Xx (list_0:(List zI)) (O:Bool->Prop):Prop :=
 jg (fun (nx4:Int->Prop) (t3:Int)=>ifW (decide (t3<(list_0.length:Int))) (zE list_0 t3 (fun e5=>Z1 e5 (fun r7=>ifW (!r7) (O false) (je t3 1 (fun t8=>nx4 t8))))) (O (decide ((list_0.length:Int)<=6)))) 0
def X3 (r_0:zo) (O:Bool->Prop):Prop :=
 jnW (fun (t71:Bool)=>O t71) (fun k72=>Xx r_0.xTests (fun r8=>ifW r8 (Zm r_0.xAction 1 5 (fun r9=>ifW r9 (ifW (decide (r_0.xAction=3)) (Zm r_0.xChain 0 4 (fun r10=>ifW r10 (k72 true) (ifW (!(decide (r_0.xAction=3))) (k72 (decide (r_0.xChain=0))) (k72 false)))) (ifW (!(decide (r_0.xAction=3))) (k72 (decide (r_0.xChain=0))) (k72 false))) (k72 false))) (k72 false)))
def YT (list_0:(List zo)) (O:Bool->Prop):Prop :=
 jg (fun (nx4:Int->Prop) (t3:Int)=>ifW (decide (t3<(list_0.length:Int))) (zE list_0 t3 (fun e5=>X3 e5 (fun r11=>ifW (!r11) (O false) (je t3 1 (fun t12=>nx4 t12))))) (O (decide ((list_0.length:Int)<=8)))) 0
def VD (s_0:zB) (O:(List Int)->Prop):Prop :=
 zbS (false:Bool) (s_0.xChains.length:Int) (s_0.xChains.length:Int) (fun xs10=>jg (fun (nx21:((List Bool)×(List Int)×Int)->Prop) ((xs14,xs17,t20):((List Bool)×(List Int)×Int))=>ifW (decide (t20<(s_0.xChains.length:Int))) (jg (fun (nx29:((List Bool)×(List Int)×Int)->Prop) ((xs22,xs25,t28):((List Bool)×(List Int)×Int))=>ifW (decide (t28<(s_0.xChains.length:Int))) (jnW (fun ((xs190,xs192):((List Bool)×(List Int)))=>je t28 1 (fun t196=>nx29 (xs190,xs192,t196))) (fun k195=>zE xs22 t28 (fun e30=>jg (fun (nx34:(Bool×Int)->Prop) ((t32,t33):(Bool×Int))=>zE s_0.xChains t28 (fun e35=>ifW (decide (t33<(e35.length:Int))) (jnW (fun (t120:Bool)=>je t33 1 (fun t122=>nx34 (t120,t122))) (fun k121=>zE s_0.xChains t28 (fun e41=>zE e41 t33 (fun e47=>ifW t32 (ifW (!(decide (e47.xAction=3))) (k121 true) (zE xs22 e47.xChain (fun e58=>k121 e58))) (k121 false))))) (ifW t32 (zE xs22 t28 (fun e123=>jQ xs25 ([t28]) (fun _=>k195 ((xs22.set (t28).toNat true),(xs25++([t28])))))) (k195 (xs22,xs25))))) ((!e30),0)))) (je t20 1 (fun t197=>nx21 (xs22,xs25,t197)))) (xs14,xs17,0)) (O xs17)) (xs10,[],0))
def yl (s_0:zB) (O:Bool->Prop):Prop :=
 jg (fun (nx9:Int->Prop) (t8:Int)=>ifW (decide (t8<(s_0.xChains.length:Int))) (zE s_0.xChains t8 (fun e10=>YT e10 (fun r16=>ifW (!r16) (O false) (jg (fun (nx18:Int->Prop) (t17:Int)=>zE s_0.xChains t8 (fun e19=>ifW (decide (t17<(e19.length:Int))) (zE s_0.xChains t8 (fun e25=>zE e25 t17 (fun e31=>ifW (decide ((s_0.xChains.length:Int)<=e31.xChain)) (O false) (je t17 1 (fun t33=>nx18 t33))))) (je t8 1 (fun t34=>nx9 t34)))) 0)))) (jnW (fun (t99:Bool)=>O t99) (fun k100=>Zm (s_0.xChains.length:Int) 1 5 (fun r35=>ifW r35 (VD s_0 (fun r36=>k100 (decide ((r36.length:Int)=(s_0.xChains.length:Int))))) (k100 false))))) 0
def yF (a_0:(List zk)) (b_1:(List zk)) (O:(List zk)->Prop):Prop :=
 jg (fun (nx13:((List zk)×Int)->Prop) ((xs9,t12):((List zk)×Int))=>ifW (decide (t12<(a_0.length:Int))) (jg (fun (nx19:((List zk)×Int)->Prop) ((xs15,t18):((List zk)×Int))=>ifW (decide (t18<(b_1.length:Int))) (jnW (fun (xs92:(List zk))=>je t18 1 (fun t96=>nx19 (xs92,t96))) (fun k95=>zE a_0 t12 (fun e20=>zE b_1 t18 (fun e22=>zE a_0 t12 (fun e24=>zE b_1 t18 (fun e26=>ifW (decide ((max e20.xLo e22.xLo)<=(min e24.xHi e26.xHi))) (jQ xs15 ([(zk.mk (max e20.xLo e22.xLo) (min e24.xHi e26.xHi))]) (fun _=>k95 (xs15++([(zk.mk (max e20.xLo e22.xLo) (min e24.xHi e26.xHi))])))) (k95 xs15))))))) (je t12 1 (fun t97=>nx13 (xs15,t97)))) (xs9,0)) (O xs9)) ([],0)
def Uq (a_0:jy) (b_1:jy) (O:jy->Prop):Prop :=
 jg (fun (nx25:((List (List zk))×Int)->Prop) ((xs20,t24):((List (List zk))×Int))=>ifW (decide (t24<4)) (jnW (fun (xs29:(List (List zk)))=>je t24 1 (fun t64=>nx25 (xs29,t64))) (fun k33=>zE a_0.xSides t24 (fun e34=>zE b_1.xSides t24 (fun e39=>yF e34 e39 (fun r44=>jQ xs20 ([r44]) (fun _=>k33 (xs20++([r44])))))))) (O (jy.mk xs20))) ([],0)
def yT (p0:jy) (O:Bool->Prop):Prop :=
 jg (fun (nx9:Int->Prop) (t8:Int)=>ifW (decide (t8<(p0.xSides.length:Int))) (zE p0.xSides t8 (fun e10=>ifW (decide ((e10.length:Int)=0)) (O true) (je t8 1 (fun t16=>nx9 t16)))) (O false)) 0
def ZA (list_0:(List zk)) (p1:Int) (O:Bool->Prop):Prop :=
 jg (fun (nx4:Int->Prop) (t3:Int)=>ifW (decide (t3<(list_0.length:Int))) (jnW (fun (t79:Bool)=>ifW t79 (O false) (je t3 1 (fun t81=>nx4 t81))) (fun k80=>zE list_0 t3 (fun e5=>zE list_0 t3 (fun e7=>Zm e5.xLo 0 e7.xHi (fun r9=>ifW (!r9) (k80 true) (zE list_0 t3 (fun e10=>Zm e10.xHi 0 p1 (fun r12=>ifW (!r12) (k80 true) (ifW (decide (0<t3)) (zE list_0 t3 (fun e13=>Y6 t3 1 (fun t15=>zE list_0 t15 (fun e16=>je e16.xHi 2 (fun t18=>k80 (decide (e13.xLo<t18))))))) (k80 false)))))))))) (jnW (fun (t143:Bool)=>O t143) (fun k144=>Zm p1 0 65535 (fun r82=>ifW r82 (k144 (decide ((list_0.length:Int)<=40))) (k144 false))))) 0
def yb (p0:jy) (O:Bool->Prop):Prop :=
 jg (fun (nx9:Int->Prop) (t8:Int)=>ifW (decide (t8<(p0.xSides.length:Int))) (jnW (fun (t78:Bool)=>ifW t78 (O false) (je t8 1 (fun t80=>nx9 t80))) (fun k79=>ifW (decide (4<=t8)) (k79 true) (zE p0.xSides t8 (fun e10=>uC t8 (fun r16=>ZA e10 r16 (fun r17=>k79 (!r17))))))) (O (decide ((p0.xSides.length:Int)=4)))) 0
def xV (list_0:(List jy)) (O:Bool->Prop):Prop :=
 jg (fun (nx4:Int->Prop) (t3:Int)=>ifW (decide (t3<(list_0.length:Int))) (zE list_0 t3 (fun e5=>yb e5 (fun r11=>ifW (!r11) (O false) (je t3 1 (fun t12=>nx4 t12))))) (O (decide ((list_0.length:Int)<=400)))) 0
def UO (O:jy->Prop):Prop :=
 jg (fun (nx11:((List (List zk))×Int)->Prop) ((xs6,t10):((List (List zk))×Int))=>ifW (decide (t10<4)) (jnW (fun (xs15:(List (List zk)))=>je t10 1 (fun t41=>nx11 (xs15,t41))) (fun k19=>uC t10 (fun r20=>jQ xs6 ([[(zk.mk 0 r20)]]) (fun _=>k19 (xs6++([[(zk.mk 0 r20)]])))))) (O (jy.mk xs6))) ([],0)
def Um (a_0:(List zk)) (p1:Int) (O:(List zk)->Prop):Prop :=
 jg (fun (nx12:((List zk)×Int×Int)->Prop) ((xs7,t10,t11):((List zk)×Int×Int))=>ifW (decide (t11<(a_0.length:Int))) (jnW (fun (xs82:(List zk))=>zE a_0 t11 (fun e86=>je e86.xHi 1 (fun t88=>je t11 1 (fun t89=>nx12 (xs82,t88,t89))))) (fun k85=>zE a_0 t11 (fun e13=>ifW (decide (t10<e13.xLo)) (zE a_0 t11 (fun e15=>Y6 e15.xLo 1 (fun t17=>jQ xs7 ([(zk.mk t10 t17)]) (fun _=>k85 (xs7++([(zk.mk t10 t17)])))))) (k85 xs7)))) (jnW (fun (xs154:(List zk))=>O xs154) (fun k157=>ifW (decide (t10<=p1)) (jQ xs7 ([(zk.mk t10 p1)]) (fun _=>k157 (xs7++([(zk.mk t10 p1)])))) (k157 xs7)))) ([],0,0)
def Ya (p0:zI) (O:(List zk)->Prop):Prop :=
 Z1 p0 (fun r4=>ifW (!r4) (O ([])) (ifW p0.xNot (uC p0.xField (fun r9=>Um ([(zk.mk p0.xLo p0.xHi)]) r9 (fun r10=>O r10))) (O ([(zk.mk p0.xLo p0.xHi)]))))
def UX (list_0:(List zI)) (O:jy->Prop):Prop :=
 Xx list_0 (fun r5=>ifW (!r5) (O (jy.mk ([]))) (UO (fun r7=>jg (fun (nx21:((List (List zk))×Int)->Prop) ((xs17,t20):((List (List zk))×Int))=>ifW (decide (t20<(list_0.length:Int))) (zE list_0 t20 (fun e22=>jnW (fun (xs27:(List (List zk)))=>je t20 1 (fun t58=>nx21 (xs27,t58))) (fun k29=>zE list_0 t20 (fun e30=>(zE xs17 e22.xField (fun e32=>Ya e30 (fun r38=>yF e32 r38 (fun r40=>zE xs17 e22.xField (fun e42=>k29 (xs17.set (e22.xField).toNat r40))))))∧(Ya e30 (fun r54=>zE xs17 e22.xField (fun e56=>yF e56 r54 (fun r40=>zE xs17 e22.xField (fun e42=>k29 (xs17.set (e22.xField).toNat r40)))))))))) (O (jy.mk xs17))) (r7.xSides,0))))
def uw (list_0:(List (List zk))) (O:(List (List zk))->Prop):Prop :=
 jg (fun (nx13:((List (List zk))×Int)->Prop) ((xs8,t12):((List (List zk))×Int))=>ifW (decide (t12<(list_0.length:Int))) (zE list_0 t12 (fun e16=>jQ ([]) e16 (fun _=>jQ xs8 ([(([])++e16)]) (fun _=>je t12 1 (fun t33=>nx13 ((xs8++([(([])++e16)])),t33)))))) (O xs8)) ([],0)
def ZY (a_0:jy) (b_1:jy) (O:(List jy)->Prop):Prop :=
 Uq a_0 b_1 (fun r19=>yT r19 (fun r23=>ifW r23 (jnW (fun (xs89:(List jy))=>O xs89) (fun k92=>yT a_0 (fun r24=>ifW (!r24) (jQ ([]) ([a_0]) (fun _=>k92 (([])++([a_0])))) (k92 ([]))))) (jg (fun (nx105:((List (List zk))×(List jy)×Int)->Prop) ((xs96,xs100,t104):((List (List zk))×(List jy)×Int))=>ifW (decide (t104<4)) (zE xs96 t104 (fun e115=>zE b_1.xSides t104 (fun e121=>uC t104 (fun r127=>Um e121 r127 (fun r128=>yF e115 r128 (fun r131=>zE xs96 t104 (fun e134=>zE b_1.xSides t104 (fun e140=>yF e134 e140 (fun r146=>jnW (fun (xs231:(List jy))=>uw xs96 (fun r236=>zE r236 t104 (fun e245=>je t104 1 (fun t252=>nx105 ((r236.set (t104).toNat r146),xs231,t252))))) (fun k235=>ifW (decide (0<(r131.length:Int))) (uw xs96 (fun r149=>zE r149 t104 (fun e158=>jQ xs100 ([(jy.mk (r149.set (t104).toNat r131))]) (fun _=>k235 (xs100++([(jy.mk (r149.set (t104).toNat r131))])))))) (k235 xs100))))))))))) (O xs100)) (a_0.xSides,[],0))))
def VE (rec:(zB->Int->(List jy)->(List ja)->(((List jy)×Bool×(List ja))->Prop)->Prop)) (s_0:zB) (p1:Int) (p2:(List jy)) (p3:(List ja)) (O:((List jy)×Bool×(List ja))->Prop):Prop :=
 jg (fun (nx33:((List ja)×(List jy)×(List jy)×Int)->Prop) ((xs20,xs24,xs28,t32):((List ja)×(List jy)×(List jy)×Int))=>zE s_0.xChains p1 (fun e34=>ifW (decide (t32<(e34.length:Int))) (zE s_0.xChains p1 (fun e40=>zE e40 t32 (fun e46=>UX e46.xTests (fun r63=>jg (fun (nx81:((List jy)×(List jy)×Int)->Prop) ((xs72,xs77,t80):((List jy)×(List jy)×Int))=>ifW (decide (t80<(xs24.length:Int))) (jnW (fun (xs182:(List jy))=>zE xs24 t80 (fun e195=>ZY e195 r63 (fun r201=>jQ xs77 r201 (fun _=>je t80 1 (fun t206=>nx81 (xs182,(xs77++r201),t206)))))) (fun k186=>jnW (fun (xs90:(List (List zk)))=>yT (jy.mk xs90) (fun r112=>ifW (!r112) (jQ xs72 ([(jy.mk xs90)]) (fun _=>k186 (xs72++([(jy.mk xs90)])))) (k186 xs72))) (fun k95=>zE xs24 t80 (fun e96=>Uq e96 r63 (fun r101=>k95 r101.xSides))))) (jnW (fun (t269:Bool)=>ifW t269 (O (xs28,false,xs20)) (jnW (fun ((xs445,xs449,xs453):((List jy)×(List jy)×(List ja)))=>jnW (fun (t519:Bool)=>ifW t519 (O (xs445,false,xs453)) (je t32 1 (fun t521=>nx33 (xs453,xs449,xs445,t521)))) (fun k520=>xV xs449 (fun r457=>ifW (!r457) (k520 true) (xV xs445 (fun r458=>ifW (!r458) (k520 true) (k520 (decide (60<(xs453.length:Int))))))))) (fun k456=>jnW (fun (t331:Bool)=>ifW t331 (jg (fun (nx338:((List ja)×Int)->Prop) ((xs334,t337):((List ja)×Int))=>ifW (decide (t337<(xs72.length:Int))) (jnW (fun (xs342:(List ja))=>je t337 1 (fun t370=>nx338 (xs342,t370))) (fun k345=>zE xs72 t337 (fun e346=>jQ xs334 ([(ja.mk e346 (decide (e46.xAction=1)))]) (fun _=>k345 (xs334++([(ja.mk e346 (decide (e46.xAction=1)))])))))) (k456 (xs28,xs77,xs334))) (xs20,0)) (ifW (decide (e46.xAction=4)) (jQ xs28 xs72 (fun _=>k456 ((xs28++xs72),xs77,xs20))) (ifW (decide (e46.xAction=3)) (rec s_0 e46.xChain xs72 xs20 (fun (r374,r377,r378)=>ifW (!r377) (O (xs28,false,r378)) (jQ xs77 r374 (fun _=>k456 (xs28,(xs77++r374),r378))))) (jQ xs77 xs72 (fun _=>k456 (xs28,(xs77++xs72),xs20)))))) (fun k332=>ifW (decide (e46.xAction=1)) (k332 (decide (e46.xAction=1))) (k332 (decide (e46.xAction=2))))))) (fun k270=>xV xs72 (fun r207=>ifW (!r207) (k270 true) (xV xs77 (fun r208=>k270 (!r208))))))) ([],[],0))))) (jQ xs28 xs24 (fun _=>xV (xs28++xs24) (fun r524=>O ((xs28++xs24),r524,xs20)))))) (p3,p2,[],0)
def Z8:Nat->zB->Int->(List jy)->(List ja)->(((List jy)×Bool×(List ja))->Prop)->Prop
 | 0=>fun _ _ _ _ _=>False
 | n+1=>VE (Z8 n)
def zdd (s_0:zB) (p1:Int) (p2:(List jy)) (p3:(List ja)) (O:((List jy)×Bool×(List ja))->Prop):Prop:=∃ n,Z8 n s_0 p1 p2 p3 O
def zae (s_0:zB) (O:((List ja)×Bool)->Prop):Prop :=
 ZJ s_0 (fun r9=>yl r9 (fun r24=>ifW (!r24) (O ([],false)) (UO (fun r25=>zdd r9 0 ([r25]) ([]) (fun (r35,r38,r39)=>ifW (!r38) (O ([],false)) (O (r39,true)))))))
def Yy (p0:jy) (O:jy->Prop):Prop :=
 uw p0.xSides (fun r12=>O (jy.mk r12))
def UA (p0:ja) (O:ja->Prop):Prop :=
 Yy p0.xWhere (fun r12=>O (ja.mk r12 p0.xAccept))
def uh (list_0:(List ja)) (O:(List ja)->Prop):Prop :=
 jg (fun (nx13:((List ja)×Int)->Prop) ((xs8,t12):((List ja)×Int))=>ifW (decide (t12<(list_0.length:Int))) (zE list_0 t12 (fun e14=>UA e14 (fun r20=>jQ xs8 ([r20]) (fun _=>je t12 1 (fun t33=>nx13 ((xs8++([r20])),t33)))))) (O xs8)) ([],0)
def uT (list_0:(List ja)) (O:Bool->Prop):Prop :=
 jg (fun (nx4:Int->Prop) (t3:Int)=>ifW (decide (t3<(list_0.length:Int))) (zE list_0 t3 (fun e5=>yb e5.xWhere (fun r11=>ifW (!r11) (O false) (je t3 1 (fun t12=>nx4 t12))))) (O (decide ((list_0.length:Int)<=60)))) 0
def UU (list_0:(List ja)) (p1:Bool) (O:(List ja)->Prop):Prop :=
 uh list_0 (fun r4=>uT r4 (fun r8=>ifW (!r8) (O ([])) (jg (fun (nx13:Int->Prop) (t12:Int)=>jnW (fun (t77:Bool)=>ifW t77 (Y6 t12 1 (fun t79=>nx13 t79)) (Xg r4 0 t12 (fun xs84=>jQ ([]) xs84 (fun _=>O (([])++xs84))))) (fun k78=>ifW (decide (0<t12)) (Y6 t12 1 (fun t14=>zE r4 t14 (fun e15=>k78 (decide (e15.xAccept=p1))))) (k78 false))) (r4.length:Int))))
def XY (a_0:jy) (b_1:jy) (O:Bool->Prop):Prop :=
 jnW (fun (t80:Bool)=>O t80) (fun k81=>yb a_0 (fun r15=>ifW r15 (yb b_1 (fun r16=>ifW r16 (ZY a_0 b_1 (fun r17=>k81 (decide ((r17.length:Int)=0)))) (k81 false))) (k81 false)))
def VM (a_0:(List zk)) (b_1:(List zk)) (O:Bool->Prop):Prop :=
 ifW (!(decide ((a_0.length:Int)=(b_1.length:Int)))) (O false) (jg (fun (nx6:Int->Prop) (t5:Int)=>ifW (decide (t5<(a_0.length:Int))) (zE a_0 t5 (fun e7=>zE b_1 t5 (fun e9=>ifW (!(decide (e7=e9))) (O false) (je t5 1 (fun t11=>nx6 t11))))) (O true)) 0)
def zaJ (list_0:(List zk)) (p1:zk) (O:(List zk)->Prop):Prop :=
 jg (fun (nx16:(Int×Int×(List zk)×Bool×Int)->Prop) ((t8,t9,xs11,t14,t15):(Int×Int×(List zk)×Bool×Int))=>ifW (decide (t15<(list_0.length:Int))) (jnW (fun ((xs160,t163,t164,t165):((List zk)×Int×Int×Bool))=>je t15 1 (fun t167=>nx16 (t163,t164,xs160,t165,t167))) (fun k166=>zE list_0 t15 (fun e17=>je e17.xHi 1 (fun t21=>ifW (decide (t21<t8)) (jQ xs11 ([e17]) (fun _=>k166 ((xs11++([e17])),t8,t9,t14))) (je t9 1 (fun t26=>ifW (decide (t26<e17.xLo)) (jnW (fun ((xs91,t94):((List zk)×Bool))=>jQ xs91 ([e17]) (fun _=>k166 ((xs91++([e17])),t8,t9,t94))) (fun k95=>ifW (!t14) (jQ xs11 ([(zk.mk t8 t9)]) (fun _=>k95 ((xs11++([(zk.mk t8 t9)])),true))) (k95 (xs11,t14)))) (k166 (xs11,(min t8 e17.xLo),(max t9 e17.xHi),t14)))))))) (jnW (fun (xs232:(List zk))=>O xs232) (fun k235=>ifW (!t14) (jQ xs11 ([(zk.mk t8 t9)]) (fun _=>k235 (xs11++([(zk.mk t8 t9)])))) (k235 xs11)))) (p1.xLo,p1.xHi,[],false,0)
def Y0 (a_0:(List zk)) (b_1:(List zk)) (top_2:Int) (O:(List zk)->Prop):Prop :=
 jnW (fun (t68:Bool)=>ifW t68 (O ([])) (jQ ([]) a_0 (fun _=>jg (fun (nx81:((List zk)×Int)->Prop) ((xs77,t80):((List zk)×Int))=>ifW (decide (t80<(b_1.length:Int))) (zE b_1 t80 (fun e82=>zaJ xs77 e82 (fun r84=>je t80 1 (fun t87=>nx81 (r84,t87))))) (ifW (decide (40<(xs77.length:Int))) (O ([])) (O xs77))) ((([])++a_0),0)))) (fun k69=>ZA a_0 top_2 (fun r6=>ifW (!r6) (k69 true) (ZA b_1 top_2 (fun r7=>k69 (!r7)))))
def YW (a_0:jy) (b_1:jy) (O:(jy×Bool)->Prop):Prop :=
 jnW (fun (t79:Bool)=>ifW t79 (O ((jy.mk ([])),false)) (XY a_0 b_1 (fun r82=>ifW r82 (Yy b_1 (fun r83=>O (r83,true))) (XY b_1 a_0 (fun r90=>ifW r90 (Yy a_0 (fun r91=>O (r91,true))) (jg (fun (nx100:(Int×Int)->Prop) ((t98,t99):(Int×Int))=>ifW (decide (t99<4)) (jnW (fun (t174:Int)=>je t99 1 (fun t176=>nx100 (t174,t176))) (fun k175=>zE a_0.xSides t99 (fun e101=>zE b_1.xSides t99 (fun e107=>VM e101 e107 (fun r113=>ifW (!r113) (ifW (decide (0<=t98)) (O ((jy.mk ([])),false)) (k175 t99)) (k175 t98)))))) (uw a_0.xSides (fun r177=>zE a_0.xSides t98 (fun e186=>zE b_1.xSides t98 (fun e192=>uC t98 (fun r198=>Y0 e186 e192 r198 (fun r199=>zE r177 t98 (fun e202=>zE (r177.set (t98).toNat r199) t98 (fun e209=>ifW (decide ((e209.length:Int)=0)) (O ((jy.mk ([])),false)) (O ((jy.mk (r177.set (t98).toNat r199)),true))))))))))) ((-1),0))))))) (fun k80=>yb a_0 (fun r17=>ifW (!r17) (k80 true) (yb b_1 (fun r18=>k80 (!r18)))))
def Vw (list_0:(List ja)) (O:(Int×ja)->Prop):Prop :=
 jg (fun (nx6:Int->Prop) (t5:Int)=>je t5 1 (fun t7=>ifW (decide (t7<(list_0.length:Int))) (jnW (fun ((xs8,t12):((List (List zk))×Bool))=>jnW (fun (t103:Bool)=>ifW t103 (zE list_0 t5 (fun e108=>O (t5,(ja.mk (jy.mk xs8) e108.xAccept)))) (je t5 1 (fun t110=>nx6 t110))) (fun k104=>ifW t12 (zE list_0 t5 (fun e38=>je t5 1 (fun t40=>zE list_0 t40 (fun e41=>k104 (decide (e38.xAccept=e41.xAccept)))))) (k104 false))) (fun k13=>zE list_0 t5 (fun e14=>zE list_0 (w64 (t5+1)) (fun e19=>YW e14.xWhere e19.xWhere (fun (r24,r26)=>k13 (r24.xSides,r26)))))) (O ((-1),(ja.mk (jy.mk ([])) false))))) 0
def YR (list_0:(List ja)) (O:(List ja)->Prop):Prop :=
 uh list_0 (fun r4=>uT r4 (fun r8=>ifW (!r8) (O ([])) (jQ ([]) r4 (fun _=>jg (fun (nx22:(List ja)->Prop) (xs19:(List ja))=>Vw xs19 (fun (r23,r24)=>ifW (decide (r23<0)) (O xs19) (je r23 2 (fun t35=>Xg xs19 t35 (xs19.length:Int) (fun xs37=>jQ ([]) xs37 (fun _=>jnW (fun (xs49:(List ja))=>nx22 xs49) (fun k52=>Xg xs19 0 r23 (fun xs56=>jQ ([]) xs56 (fun _=>jQ (([])++xs56) ([r24]) (fun _=>jQ ((([])++xs56)++([r24])) (([])++xs37) (fun _=>k52 (((([])++xs56)++([r24]))++(([])++xs37))))))))))))) (([])++r4)))))
def VC (p0:jy) (p1:(List jy)) (O:((List jy)×Bool)->Prop):Prop :=
 jnW (fun (xs79:(List jy))=>jg (fun (nx88:((List jy)×Int)->Prop) ((xs84,t87):((List jy)×Int))=>ifW (decide (t87<(p1.length:Int))) (jg (fun (nx97:((List jy)×Int)->Prop) ((xs93,t96):((List jy)×Int))=>ifW (decide (t96<(xs84.length:Int))) (zE xs84 t96 (fun e98=>zE p1 t87 (fun e100=>ZY e98 e100 (fun r112=>jQ xs93 r112 (fun _=>je t96 1 (fun t117=>nx97 ((xs93++r112),t117))))))) (xV xs93 (fun r118=>ifW (!r118) (O ([],false)) (je t87 1 (fun t122=>nx88 (xs93,t122)))))) ([],0)) (O (xs84,true))) (xs79,0)) (fun k82=>yT p0 (fun r14=>ifW (!r14) (jQ ([]) ([p0]) (fun _=>k82 (([])++([p0])))) (k82 ([]))))
def UF (list_0:(List ja)) (O:(List jy)->Prop):Prop :=
 uh list_0 (fun r4=>jg (fun (nx16:((List jy)×Int)->Prop) ((xs12,t15):((List jy)×Int))=>jnW (fun (t78:Bool)=>ifW t78 (zE r4 t15 (fun e80=>jQ xs12 ([e80.xWhere]) (fun _=>je t15 1 (fun t95=>nx16 ((xs12++([e80.xWhere])),t95))))) (O xs12)) (fun k79=>ifW (decide (t15<(r4.length:Int))) (uT r4 (fun r17=>k79 r17)) (k79 false))) ([],0))
def Vv (list_0:(List ja)) (p1:Int) (O:Bool->Prop):Prop :=
 zE list_0 p1 (fun e3=>Xg list_0 0 p1 (fun xs10=>UF xs10 (fun r13=>VC e3.xWhere r13 (fun (r16,r19)=>jnW (fun (t80:Bool)=>O t80) (fun k81=>ifW r19 (k81 (decide ((r16.length:Int)=0))) (k81 false))))))
def UV (list_0:(List ja)) (O:(List ja)->Prop):Prop :=
 uh list_0 (fun r4=>jg (fun (nx18:((List ja)×(List ja)×Int)->Prop) ((xs11,xs14,t17):((List ja)×(List ja)×Int))=>jnW (fun (t80:Bool)=>ifW t80 (jnW (fun (xs158:(List ja))=>je t17 1 (fun t162=>nx18 (xs11,xs158,t162))) (fun k161=>Vv xs11 t17 (fun r82=>ifW (!r82) (zE xs11 t17 (fun e83=>jQ xs14 ([e83]) (fun _=>k161 (xs14++([e83]))))) (k161 xs14)))) (O xs14)) (fun k81=>ifW (decide (t17<(xs11.length:Int))) (uT xs11 (fun r19=>k81 r19)) (k81 false))) (r4,[],0))
def VI (list_0:(List ja)) (p1:Bool) (O:(List ja)->Prop):Prop :=
 uh list_0 (fun r4=>uT r4 (fun r8=>ifW (!r8) (O ([])) (jQ ([]) r4 (fun _=>jg (fun (nx22:(List ja)->Prop) (xs19:(List ja))=>UV xs19 (fun r23=>YR r23 (fun r26=>UU r26 p1 (fun r29=>ifW (decide ((r29.length:Int)=(xs19.length:Int))) (O r29) (nx22 r29))))) (([])++r4)))))
def Uo (s_0:zB) (O:((List ja)×Bool)->Prop):Prop :=
 ZJ s_0 (fun r9=>zae r9 (fun (r16,r19)=>ifW (!r19) (O ([],false)) (VI r16 r9.xAccept (fun r23=>O (r23,true)))))
def V3 (list_0:(List zk)) (n_1:Int) (O:Bool->Prop):Prop :=
 jg (fun (nx4:Int->Prop) (t3:Int)=>ifW (decide (t3<(list_0.length:Int))) (zE list_0 t3 (fun e5=>jnW (fun (t69:Bool)=>ifW t69 (O true) (je t3 1 (fun t71=>nx4 t71))) (fun k70=>ifW (decide (e5.xLo<=n_1)) (k70 (decide (n_1<=e5.xHi))) (k70 false)))) (O false)) 0
def zaI (O:Bool->Prop):Prop :=
 V3 ([(zk.mk 2 4)]) 3 (fun r3=>O r3)
def Za (s_0:za) (O:jy->Prop):Prop :=
 zbS ([]:(List zk)) 4 4 (fun xs26=>jg (fun (nx55:((List (List zk))×Int)->Prop) ((xs50,t54):((List (List zk))×Int))=>ifW (decide (t54<4)) (zE ([s_0.x0,s_0.x1,s_0.x2,s_0.x3]) t54 (fun e57=>jQ ([]) e57 (fun _=>zE xs50 t54 (fun e66=>je t54 1 (fun t73=>nx55 ((xs50.set (t54).toNat (([])++e57)),t73)))))) (O (jy.mk xs50))) (xs26,0))
def Yz (list_0:(List zr)) (O:(List ja)->Prop):Prop :=
 zbS ((ja.mk (jy.mk ([])) false):ja) 0 (list_0.length:Int) (fun xs5=>jg (fun (nx14:((List ja)×Int)->Prop) ((xs9,t13):((List ja)×Int))=>ifW (decide (t13<(list_0.length:Int))) (zE list_0 t13 (fun e15=>Za e15.xWhere (fun r44=>jQ xs9 ([(ja.mk r44 e15.xAccept)]) (fun _=>je t13 1 (fun t57=>nx14 ((xs9++([(ja.mk r44 e15.xAccept)])),t57)))))) (O xs9)) (xs5,0))
def Uk (s_0:zB) (O:((List ja)×Bool)->Prop):Prop :=
 XU s_0 (fun (r9,r12)=>ifW (!r12) (O ([],false)) (Yz r9 (fun r14=>O (r14,true))))
def zaO (list_0:(List jy)) (p1:Int) (O:zZ->Prop):Prop :=
 zcD p1 65536 (fun t5=>zlU p1 3 (fun t6=>zcD t6 65536 (fun t7=>zcD p1 256 (fun t8=>zcD p1 8 (fun t9=>jg (fun (nx17:((List Int)×Int)->Prop) ((xs14,t16):((List Int)×Int))=>ifW (decide (t16<(list_0.length:Int))) (jg (fun (nx21:((List Int)×Int)->Prop) ((xs18,t20):((List Int)×Int))=>jnW (fun (t88:Bool)=>ifW t88 (jnW (fun (xs241:(List Int))=>je t20 1 (fun t244=>nx21 (xs241,t244))) (fun k243=>zE list_0 t16 (fun e90=>zE e90.xSides t20 (fun e96=>jnW (fun (t165:Bool)=>ifW t165 (k243 xs18) (je p1 t20 (fun t167=>zcD t167 (e96.length:Int) (fun t168=>zE e96 t168 (fun e169=>zE xs18 t20 (fun e173=>je p1 t16 (fun t176=>zcD t176 2 (fun t177=>ifW (decide (t177=0)) (zE (xs18.set (t20).toNat e169.xLo) t20 (fun e178=>k243 ((xs18.set (t20).toNat e169.xLo).set (t20).toNat e169.xHi))) (k243 (xs18.set (t20).toNat e169.xLo)))))))))) (fun k166=>ifW (decide ((e96.length:Int)=0)) (k166 true) (je p1 t16 (fun t102=>je t102 t20 (fun t103=>zcD t103 3 (fun t104=>k166 (decide (t104=0))))))))))) (je t16 1 (fun t245=>nx17 (xs18,t245)))) (fun k89=>ifW (decide (t20<4)) (zE list_0 t16 (fun e22=>k89 (decide (t20<(e22.xSides.length:Int))))) (k89 false))) (xs14,0)) (zE xs14 0 (fun e246=>zE xs14 1 (fun e248=>zE xs14 2 (fun e250=>zE xs14 3 (fun e252=>O (zZ.mk e246 e248 e250 e252))))))) ([t5,t7,t8,t9],0))))))
def UZ (p0:Int) (O:Bool->Prop):Prop :=
 jnW (fun (t61:Bool)=>O t61) (fun k62=>ifW (decide (0<=p0)) (k62 (decide (p0<=65535))) (k62 false))
def YQ (list_0:(List zk)) (p1:Int) (O:Bool->Prop):Prop :=
 jnW (fun (t64:Bool)=>ifW t64 (O false) (jg (fun (nx68:(Int×Int)->Prop) ((t66,t67):(Int×Int))=>ifW (decide (t67<(list_0.length:Int))) (zE list_0 t67 (fun e69=>jnW (fun (t134:Bool)=>ifW t134 (O false) (je t67 1 (fun t136=>nx68 (e69.xHi,t136)))) (fun k135=>je t66 1 (fun t73=>ifW (decide (e69.xLo<=t73)) (k135 true) (ifW (decide (e69.xHi<e69.xLo)) (k135 true) (k135 (decide (p1<e69.xHi)))))))) (O true)) ((-2),0))) (fun k65=>UZ p1 (fun r3=>ifW (!r3) (k65 true) (k65 (decide (40<(list_0.length:Int))))))
def YE (p0:jy) (O:Bool->Prop):Prop :=
 ifW (!(decide ((p0.xSides.length:Int)=4))) (O false) (jg (fun (nx9:Int->Prop) (t8:Int)=>ifW (decide (t8<(p0.xSides.length:Int))) (zE p0.xSides t8 (fun e10=>jx t8 (fun r16=>YQ e10 r16 (fun r17=>ifW (!r17) (O false) (je t8 1 (fun t18=>nx9 t18)))))) (O true)) 0)
def Xy (list_0:(List ja)) (O:Bool->Prop):Prop :=
 ifW (decide (60<(list_0.length:Int))) (O false) (jg (fun (nx4:Int->Prop) (t3:Int)=>ifW (decide (t3<(list_0.length:Int))) (zE list_0 t3 (fun e5=>YE e5.xWhere (fun r16=>ifW (!r16) (O false) (je t3 1 (fun t17=>nx4 t17))))) (O true)) 0)
def VR (list_0:(List za)) (O:(List jy)->Prop):Prop :=
 zbS ((jy.mk ([])):jy) 0 (list_0.length:Int) (fun xs5=>jg (fun (nx14:((List jy)×Int)->Prop) ((xs9,t13):((List jy)×Int))=>ifW (decide (t13<(list_0.length:Int))) (zE list_0 t13 (fun e15=>Za e15 (fun r60=>jQ xs9 ([r60]) (fun _=>je t13 1 (fun t73=>nx14 ((xs9++([r60])),t73)))))) (O xs9)) (xs5,0))
def Ua (p0:jy) (O:za->Prop):Prop :=
 zrU p0.xSides (fun e10 e11 e12 e13=>O (za.mk e10 e11 e12 e13))
def VN (list_0:(List ja)) (O:(List zr)->Prop):Prop :=
 zbS ((zr.mk (za.mk ([]) ([]) ([]) ([])) false):zr) 0 (list_0.length:Int) (fun xs5=>jg (fun (nx12:((List zr)×Int)->Prop) ((xs8,t11):((List zr)×Int))=>ifW (decide (t11<(list_0.length:Int))) (zE list_0 t11 (fun e13=>Ua e13.xWhere (fun r24=>jQ xs8 ([(zr.mk r24 e13.xAccept)]) (fun _=>je t11 1 (fun t49=>nx12 ((xs8++([(zr.mk r24 e13.xAccept)])),t49)))))) (O xs8)) (xs5,0))
def UB (list_0:(List ja)) (O:(List jy)->Prop):Prop :=
 Xy list_0 (fun r4=>ifW (!r4) (O ([])) (VN list_0 (fun r6=>US r6 (fun r9=>VR r9 (fun r12=>O r12)))))
def Zn (p0:zZ) (O:zhV->Prop):Prop :=
 O (zhV.mk p0.xFrom p0.xTo p0.xPort p0.xProto)
def Ym (p0:zZ) (O:Bool->Prop):Prop :=
 Zn p0 (fun r3=>jg (fun (nx5:Int->Prop) (t4:Int)=>ifW (decide (t4<4)) (zE ([r3.x0,r3.x1,r3.x2,r3.x3]) t4 (fun e6=>jnW (fun (t68:Bool)=>ifW t68 (O false) (je t4 1 (fun t70=>nx5 t70))) (fun k69=>ifW (decide (e6<0)) (k69 true) (jx t4 (fun r7=>k69 (decide (r7<e6))))))) (O true)) 0)
def Xu (p0b:(List jP)) (p0c:(List yM)) (p0a:Int) (O:(List jP)->Prop):Prop :=
 jnW (fun (xs7:(List jP))=>O xs7) (fun k10=>Xg p0b 0 (w64 ((p0b.length:Int) - 1)) (fun xs12=>k10 xs12))
def YV (p0:zI) (p1:zZ) (O:Bool->Prop):Prop :=
 Zn p1 (fun r5=>zE ([r5.x0,r5.x1,r5.x2,r5.x3]) p0.xField (fun e6=>jnW (fun (t67:Bool)=>O (!(decide (t67=p0.xNot)))) (fun k68=>ifW (decide (p0.xLo<=e6)) (k68 (decide (e6<=p0.xHi))) (k68 false))))
def Vs (list_0:(List zI)) (p1:zZ) (O:Bool->Prop):Prop :=
 jg (fun (nx6:Int->Prop) (t5:Int)=>ifW (decide (t5<(list_0.length:Int))) (zE list_0 t5 (fun e7=>YV e7 p1 (fun r11=>ifW (!r11) (O false) (je t5 1 (fun t12=>nx6 t12))))) (O true)) 0
def Zq (d_0:yh) (p1b:(List jP)) (p1c:(List yM)) (p1a:Int) (O:Int->Prop):Prop :=
 ifW d_0.xAccept (O 1) (O 2)
def XT (p0:Xi) (p1b:(List jP)) (p1c:(List yM)) (p1a:Int) (O:(List jP)->Prop):Prop :=
 jnW (fun (xs9:(List jP))=>O xs9) (fun k12=>jQ p1b ([(jP.mk p0.xChain 0)]) (fun _=>k12 (p1b++([(jP.mk p0.xChain 0)]))))
def Xl (a_0:ub) (p1b:(List jP)) (p1c:(List yM)) (p1a:Int) (O:(List jP)->Prop):Prop :=
 Xu p1b p1c p1a (fun r9=>O r9)
def XV (a_0:yj) (p1b:(List jP)) (p1c:(List yM)) (p1a:Int) (O:Unit->Prop):Prop :=
 O ()
def Yv (s_0:zB) (p1:zZ) (O:((List jP)×(List yM)×Int)->Prop):Prop :=
 jg (fun (nx26:((List jP)×(List yM)×Int)->Prop) ((xs18,xs22,t25):((List jP)×(List yM)×Int))=>jnW (fun (t87:Bool)=>ifW t87 (Y6 (xs18.length:Int) 1 (fun t95=>zE xs18 t95 (fun e96=>zE s_0.xChains e96.xChain (fun e98=>ifW (decide (e96.xNext=(e98.length:Int))) (Xu xs18 xs22 t25 (fun r104=>nx26 (r104,xs22,t25))) (je e96.xNext 1 (fun t107=>zE e98 e96.xNext (fun e109=>Vs e109.xTests p1 (fun r115=>ifW (!r115) (nx26 ((xs18.set (t95).toNat (jP.mk e96.xChain t107)),xs22,t25)) (jnW (fun (xs187:(List yM))=>zE e98 e96.xNext (fun e191=>uD e191 (fun r197=>xe.casesW r197 (fun x198=>Zq x198 (xs18.set (t95).toNat (jP.mk e96.xChain t107)) xs187 t25 (fun r202=>nx26 ((xs18.set (t95).toNat (jP.mk e96.xChain t107)),xs187,r202))) (fun x199=>XT x199 (xs18.set (t95).toNat (jP.mk e96.xChain t107)) xs187 t25 (fun r203=>nx26 (r203,xs187,t25))) (fun x200=>Xl (ub.mk ) (xs18.set (t95).toNat (jP.mk e96.xChain t107)) xs187 t25 (fun r206=>nx26 (r206,xs187,t25))) (fun x201=>XV (yj.mk ) (xs18.set (t95).toNat (jP.mk e96.xChain t107)) xs187 t25 (fun _=>nx26 ((xs18.set (t95).toNat (jP.mk e96.xChain t107)),xs187,t25)))))) (fun k190=>ifW (decide ((xs22.length:Int)<200)) (jnW (fun (xs116:(List yM))=>k190 xs116) (fun k119=>jQ xs22 ([(yM.mk e96.xChain e96.xNext)]) (fun _=>k119 (xs22++([(yM.mk e96.xChain e96.xNext)]))))) (k190 xs22))))))))))) (O (xs18,xs22,t25))) (fun k88=>ifW (decide (0<(xs18.length:Int))) (k88 (decide (t25=5))) (k88 false))) ([(jP.mk 0 0)],[],5)
def YY (s_0:zB) (p1:zZ) (O:Bool->Prop):Prop :=
 Yv s_0 p1 (fun (r12,r15,r18)=>ifW (decide (r18=1)) (O true) (ifW (decide (r18=2)) (O false) (O s_0.xAccept)))
def VK (s_0:zB) (p1:zZ) (O:Bool->Prop):Prop :=
 jnW (fun (t72:Bool)=>ifW t72 (O false) (YY s_0 p1 (fun r74=>O r74))) (fun k73=>um s_0 (fun r10=>ifW (!r10) (k73 true) (Ym p1 (fun r11=>k73 (!r11)))))
def U4 (p0:jy) (O:((List zI)×Bool)->Prop):Prop :=
 jnW (fun (t80:Bool)=>ifW t80 (O ([],false)) (jg (fun (nx89:((List zI)×Int)->Prop) ((xs85,t88):((List zI)×Int))=>ifW (decide (t88<(p0.xSides.length:Int))) (jnW (fun (xs307:(List zI))=>je t88 1 (fun t311=>nx89 (xs307,t311))) (fun k310=>zE p0.xSides t88 (fun e90=>zE zu t88 (fun e96=>jnW (fun (t160:Bool)=>ifW t160 (k310 xs85) (ifW (decide ((e90.length:Int)=1)) (zE e90 0 (fun e162=>zE e90 0 (fun e164=>jQ xs85 ([(zI.mk t88 e162.xLo e164.xHi false)]) (fun _=>k310 (xs85++([(zI.mk t88 e162.xLo e164.xHi false)])))))) (jnW (fun (t234:Bool)=>ifW t234 (zE e90 0 (fun e236=>je e236.xHi 1 (fun t238=>zE e90 1 (fun e239=>Y6 e239.xLo 1 (fun t241=>jQ xs85 ([(zI.mk t88 t238 t241 true)]) (fun _=>k310 (xs85++([(zI.mk t88 t238 t241 true)])))))))) (O ([],false))) (fun k235=>ifW (decide ((e90.length:Int)=2)) (zE e90 0 (fun e170=>ifW (decide (e170.xLo=0)) (zE e90 1 (fun e172=>k235 (decide (e172.xHi=e96.xTop)))) (k235 false))) (k235 false))))) (fun k161=>ifW (decide ((e90.length:Int)=1)) (zE e90 0 (fun e98=>k161 (decide (e98=(zk.mk 0 e96.xTop))))) (k161 false)))))) (O (xs85,true))) ([],0))) (fun k81=>YE p0 (fun r9=>ifW (!r9) (k81 true) (Ua p0 (fun r10=>yw r10 (fun r19=>k81 r19)))))
def Yo (list_0:(List ja)) (p1:Bool) (O:(zB×Bool)->Prop):Prop :=
 jnW (fun (t66:Bool)=>ifW t66 (O ((zB.mk ([]) false),false)) (zbS ((zo.mk ([]) 0 0):zo) 0 (list_0.length:Int) (fun xs70=>jg (fun (nx79:((List zo)×Int)->Prop) ((xs74,t78):((List zo)×Int))=>ifW (decide (t78<(list_0.length:Int))) (zE list_0 t78 (fun e80=>U4 e80.xWhere (fun (r91,r94)=>jnW (fun (t155:Bool)=>ifW t155 (O ((zB.mk ([]) false),false)) (jnW (fun (t218:Int)=>jQ xs74 ([(zo.mk r91 t218 0)]) (fun _=>je t78 1 (fun t229=>nx79 ((xs74++([(zo.mk r91 t218 0)])),t229)))) (fun k219=>ifW e80.xAccept (k219 1) (k219 2)))) (fun k156=>ifW (!r94) (k156 true) (k156 (decide (6<(r91.length:Int)))))))) (O ((zB.mk ([xs74]) p1),true))) (xs70,0)))) (fun k67=>ifW (decide (8<(list_0.length:Int))) (k67 true) (Xy list_0 (fun r5=>k67 (!r5))))
def U5 (p0:jy) (O:((List zI)×Bool)->Prop):Prop :=
 jnW (fun (t73:Bool)=>ifW t73 (O ([],false)) (jg (fun (nx80:((List zI)×Int)->Prop) ((xs76,t79):((List zI)×Int))=>ifW (decide (t79<4)) (jnW (fun (xs298:(List zI))=>je t79 1 (fun t302=>nx80 (xs298,t302))) (fun k301=>zE p0.xSides t79 (fun e81=>uC t79 (fun r87=>jnW (fun (t150:Bool)=>ifW t150 (k301 xs76) (ifW (decide ((e81.length:Int)=1)) (zE e81 0 (fun e152=>zE e81 0 (fun e154=>jQ xs76 ([(zI.mk t79 e152.xLo e154.xHi false)]) (fun _=>k301 (xs76++([(zI.mk t79 e152.xLo e154.xHi false)])))))) (jnW (fun (t224:Bool)=>ifW t224 (zE e81 0 (fun e226=>je e226.xHi 1 (fun t228=>zE e81 1 (fun e229=>Y6 e229.xLo 1 (fun t231=>jQ xs76 ([(zI.mk t79 t228 t231 true)]) (fun _=>k301 (xs76++([(zI.mk t79 t228 t231 true)])))))))) (O ([],false))) (fun k225=>ifW (decide ((e81.length:Int)=2)) (zE e81 0 (fun e160=>ifW (decide (e160.xLo=0)) (zE e81 1 (fun e162=>k225 (decide (e162.xHi=r87)))) (k225 false))) (k225 false))))) (fun k151=>ifW (decide ((e81.length:Int)=1)) (zE e81 0 (fun e88=>k151 (decide (e88=(zk.mk 0 r87))))) (k151 false)))))) (O (xs76,true))) ([],0))) (fun k74=>yb p0 (fun r11=>ifW (!r11) (k74 true) (yT p0 (fun r12=>k74 r12))))
def Yh (list_0:(List ja)) (p1:Bool) (O:(zB×Bool)->Prop):Prop :=
 uh list_0 (fun r5=>jnW (fun (t70:Bool)=>ifW t70 (O ((zB.mk ([]) false),false)) (jg (fun (nx82:((List zo)×Int)->Prop) ((xs77,t81):((List zo)×Int))=>ifW (decide (t81<(r5.length:Int))) (zE r5 t81 (fun e83=>U5 e83.xWhere (fun (r91,r94)=>ifW (!r94) (O ((zB.mk ([]) false),false)) (jnW (fun (t163:Int)=>jQ xs77 ([(zo.mk r91 t163 0)]) (fun _=>je t81 1 (fun t171=>nx82 ((xs77++([(zo.mk r91 t163 0)])),t171)))) (fun k164=>zE r5 t81 (fun e101=>ifW e101.xAccept (k164 1) (k164 2))))))) (O ((zB.mk ([xs77]) p1),true))) ([],0))) (fun k71=>uT r5 (fun r9=>ifW (!r9) (k71 true) (k71 (decide (8<(r5.length:Int)))))))
def zaf (s_0:zB) (O:((List ja)×Bool)->Prop):Prop :=
 um s_0 (fun r9=>ifW (!r9) (O ([],false)) (Xj s_0 (fun (r11,r14)=>ifW (!r14) (O ([],false)) (Yz r11 (fun r16=>O (r16,true))))))
def jS (n_0:Int) (O:ByteArray->Prop):Prop :=
 zcD n_0 10 (fun t1=>je 48 t1 (fun t2=>zmM t2 (fun t3=>jg (fun (nx8:(Int×ByteArray)->Prop) ((t6,t7):(Int×ByteArray))=>ifW (decide (9<t6)) (zlU t6 10 (fun t9=>zcD t9 10 (fun t10=>je 48 t10 (fun t11=>zmM t11 (fun t12=>uY (ByteArray.mk ([t12]).toArray) t7 (fun s15=>nx8 (t9,s15))))))) (O t7)) (n_0,(ByteArray.mk ([t3]).toArray)))))
def uH (p0:zI) (O:ByteArray->Prop):Prop :=
 Z1 p0 (fun r3=>ifW (!r3) (O (ByteArray.mk #[])) (jnW (fun (t4:ByteArray)=>jnW (fun (t81:ByteArray)=>jnW (fun (t146:ByteArray)=>O t146) (fun k147=>ifW (!(decide (p0.xHi=p0.xLo))) (uY t81 (ByteArray.mk #[45]) (fun s83=>jS p0.xHi (fun r84=>uY s83 r84 (fun s85=>k147 s85)))) (k147 t81))) (fun k82=>ifW p0.xNot (uY (ByteArray.mk #[110,111,116,32]) t4 (fun s20=>k82 s20)) (k82 t4))) (fun k5=>((zE ([(ByteArray.mk #[102,114,111,109]),(ByteArray.mk #[116,111]),(ByteArray.mk #[112,111,114,116]),(ByteArray.mk #[112,114,111,116,111])]) p0.xField (fun e7=>(uY e7 (ByteArray.mk #[32]) (fun s9=>jS p0.xLo (fun r10=>uY s9 r10 (fun s11=>k5 s11))))∧(jS p0.xLo (fun r12=>uY e7 (ByteArray.mk #[32]) (fun s13=>uY s13 r12 (fun s14=>k5 s14))))))∧(jS p0.xLo (fun r15=>zE ([(ByteArray.mk #[102,114,111,109]),(ByteArray.mk #[116,111]),(ByteArray.mk #[112,111,114,116]),(ByteArray.mk #[112,114,111,116,111])]) p0.xField (fun e16=>uY e16 (ByteArray.mk #[32]) (fun s13=>uY s13 r15 (fun s14=>k5 s14))))))∧(jS p0.xLo (fun r18=>zE ([(ByteArray.mk #[102,114,111,109]),(ByteArray.mk #[116,111]),(ByteArray.mk #[112,111,114,116]),(ByteArray.mk #[112,114,111,116,111])]) p0.xField (fun e16=>uY e16 (ByteArray.mk #[32]) (fun s13=>uY s13 r18 (fun s14=>k5 s14))))))))
def uI (r_0:zo) (O:ByteArray->Prop):Prop :=
 X3 r_0 (fun r8=>ifW (!r8) (O (ByteArray.mk #[])) (Y6 r_0.xAction 1 (fun t11=>zE ([(ByteArray.mk #[97,99,99,101,112,116]),(ByteArray.mk #[100,114,111,112]),(ByteArray.mk #[99,97,108,108]),(ByteArray.mk #[114,101,116,117,114,110]),(ByteArray.mk #[110,111,110,101])]) t11 (fun e12=>jnW (fun (t77:ByteArray)=>jg (fun (nx81:(ByteArray×Int)->Prop) ((t79,t80):(ByteArray×Int))=>ifW (decide (t80<(r_0.xTests.length:Int))) (uY t79 (ByteArray.mk #[44,32]) (fun s82=>zE r_0.xTests t80 (fun e83=>uH e83 (fun r85=>uY s82 r85 (fun s86=>je t80 1 (fun t87=>nx81 (s86,t87))))))) (O t79)) (t77,0)) (fun k78=>ifW (decide (r_0.xAction=3)) (uY e12 (ByteArray.mk #[32]) (fun s14=>jS r_0.xChain (fun r15=>uY s14 r15 (fun s16=>k78 s16)))) (k78 e12))))))
def ZV (s_0:ByteArray) (c_1:UInt8) (O:(ByteArray×ByteArray)->Prop):Prop :=
 jg (fun (nx2:Int->Prop) (t1:Int)=>ifW (decide (t1<(s_0.size:Int))) (zE s_0.data.toList t1 (fun e3=>ifW (decide ((e3.toNat:Int)=(c_1.toNat:Int))) (zdj s_0 0 t1 (fun s4=>je t1 1 (fun t5=>zdj s_0 t5 (s_0.size:Int) (fun s6=>O (s4,s6))))) (je t1 1 (fun t7=>nx2 t7)))) (O (s_0,(ByteArray.mk #[])))) 0
def u6 (s_0:ByteArray) (O:Int->Prop):Prop :=
 jg (fun (nx3:(Int×Int)->Prop) ((t1,t2):(Int×Int))=>jnW (fun (t64:Bool)=>ifW t64 (jnW (fun (t128:Bool)=>ifW t128 (O (-1)) (zio 10 t1 (fun t130=>zE s_0.data.toList t2 (fun e131=>zmo (e131.toNat:Int) 48 (fun t132=>zko t132 (fun _=>je t130 t132 (fun t133=>je t2 1 (fun t134=>nx3 (t133,t134))))))))) (fun k129=>zE s_0.data.toList t2 (fun e66=>ifW (decide ((e66.toNat:Int)<48)) (k129 true) (zE s_0.data.toList t2 (fun e67=>k129 (decide (57<(e67.toNat:Int)))))))) (jnW (fun (t196:Bool)=>ifW t196 (O (-1)) (O t1)) (fun k197=>ifW (decide (5<(s_0.size:Int))) (k197 true) (jS t1 (fun r135=>k197 (!(decide (r135=s_0)))))))) (fun k65=>ifW (decide (t2<(s_0.size:Int))) (k65 (decide (t2<6))) (k65 false))) (0,0)
def ZB (s_0:ByteArray) (O:(zI×Bool)->Prop):Prop :=
 jnW (fun ((t129,t130):(Bool×ByteArray))=>ZV t130 (32:UInt8) (fun (r132,r133)=>ZV r133 (45:UInt8) (fun (r134,r135)=>jnW (fun (t196:ByteArray)=>jg (fun (nx202:(Int×Int)->Prop) ((t200,t201):(Int×Int))=>ifW (decide (t201<(([(ByteArray.mk #[102,114,111,109]),(ByteArray.mk #[116,111]),(ByteArray.mk #[112,111,114,116]),(ByteArray.mk #[112,114,111,116,111])]).length:Int))) (jnW (fun (t265:Int)=>je t201 1 (fun t267=>nx202 (t265,t267))) (fun k266=>zE ([(ByteArray.mk #[102,114,111,109]),(ByteArray.mk #[116,111]),(ByteArray.mk #[112,111,114,116]),(ByteArray.mk #[112,114,111,116,111])]) t201 (fun e203=>ifW (decide (r132=e203)) (k266 t201) (k266 t200)))) (u6 r134 (fun r268=>u6 t196 (fun r269=>jnW (fun (t331:Bool)=>ifW t331 (O ((zI.mk 0 0 0 false),false)) (O ((zI.mk t200 r268 r269 t129),true))) (fun k332=>uH (zI.mk t200 r268 r269 t129) (fun r270=>ifW (!(decide (r270=s_0))) (k332 true) (k332 (decide (s_0=(ByteArray.mk #[])))))))))) ((-1),0)) (fun k197=>ifW (decide (r135=(ByteArray.mk #[]))) (k197 r134) (k197 r135))))) (fun k131=>jnW (fun (t66:Bool)=>ifW t66 (zdj s_0 4 (s_0.size:Int) (fun s68=>k131 (true,s68))) (k131 (false,s_0))) (fun k67=>ifW (decide (4<(s_0.size:Int))) (zdj s_0 0 4 (fun s5=>k67 (decide (s5=(ByteArray.mk #[110,111,116,32]))))) (k67 false)))
def yU (s_0:ByteArray) (O:(zo×Bool)->Prop):Prop :=
 ZV s_0 (44:UInt8) (fun (r5,r6)=>jg (fun (nx10:(Int×Int×Int)->Prop) ((t7,t8,t9):(Int×Int×Int))=>ifW (decide (t9<=5)) (jg (fun (nx14:(Int×Int×Int)->Prop) ((t11,t12,t13):(Int×Int×Int))=>ifW (decide (t13<5)) (jnW (fun ((t140,t141):(Int×Int))=>je t13 1 (fun t143=>nx14 (t140,t141,t143))) (fun k142=>jnW (fun (t77:Int)=>uI (zo.mk ([]) t9 t77) (fun r79=>ifW (decide (r79=r5)) (k142 (t9,t77)) (k142 (t11,t12)))) (fun k78=>ifW (decide (t9=3)) (k78 t13) (k78 0)))) (je t9 1 (fun t144=>nx10 (t11,t12,t144)))) (t7,t8,0)) (jg (fun (nx151:((List zI)×ByteArray×Int)->Prop) ((xs146,t149,t150):((List zI)×ByteArray×Int))=>jnW (fun (t212:Bool)=>ifW t212 (ZV t149 (44:UInt8) (fun (r214,r215)=>jnW (fun (t277:Bool)=>ifW t277 (O ((zo.mk ([]) 0 0),false)) (zdj r214 1 (r214.size:Int) (fun s280=>ZB s280 (fun (r281,r282)=>ifW (!r282) (O ((zo.mk ([]) 0 0),false)) (jQ xs146 ([r281]) (fun _=>je t150 1 (fun t293=>nx151 ((xs146++([r281])),r215,t293)))))))) (fun k278=>ifW (decide (r214=(ByteArray.mk #[]))) (k278 true) (zE r214.data.toList 0 (fun e216=>k278 (!(decide ((e216.toNat:Int)=32)))))))) (jnW (fun (t355:Bool)=>ifW t355 (O ((zo.mk ([]) 0 0),false)) (O ((zo.mk xs146 t7 t8),true))) (fun k356=>uI (zo.mk xs146 t7 t8) (fun r294=>ifW (!(decide (r294=s_0))) (k356 true) (k356 (decide (s_0=(ByteArray.mk #[])))))))) (fun k213=>ifW (!(decide (t149=(ByteArray.mk #[])))) (k213 (decide (t150<=6))) (k213 false))) ([],r6,0))) (0,0,1))
def Xa (lines_0:(List ByteArray)) (O:(zB×Bool)->Prop):Prop :=
 jnW (fun (t71:Bool)=>ifW t71 (O ((zB.mk ([]) false),false)) (zE lines_0 0 (fun e74=>jg (fun (nx87:((List (List zo))×(List (List zo))×Int)->Prop) ((xs77,xs82,t86):((List (List zo))×(List (List zo))×Int))=>ifW (decide (t86<(lines_0.length:Int))) (jnW (fun (xs321:(List (List zo)))=>je t86 1 (fun t326=>nx87 (xs321,xs82,t326))) (fun k325=>zE lines_0 t86 (fun e91=>jS (xs77.length:Int) (fun r93=>uY (ByteArray.mk #[99,104,97,105,110,32]) r93 (fun s94=>ifW (decide (e91=s94)) (jQ xs77 ([[]]) (fun _=>k325 (xs77++([[]])))) (zE lines_0 t86 (fun e110=>yU e110 (fun (r112,r115)=>jnW (fun (t181:Bool)=>ifW t181 (O ((zB.mk ([]) false),false)) (jnW (fun (xs184:(List (List zo)))=>k325 xs184) (fun k187=>zE xs77 (w64 ((xs77.length:Int) - 1)) (fun e188=>jQ e188 ([r112]) (fun _=>zE xs77 (w64 ((xs77.length:Int) - 1)) (fun e198=>k187 (xs77.set ((w64 ((xs77.length:Int) - 1))).toNat (e188++([r112]))))))))) (fun k182=>ifW (!r115) (k182 true) (k182 (decide ((xs77.length:Int)=0)))))))))))) (yl (zB.mk xs77 (decide (e74=(ByteArray.mk #[100,101,102,97,117,108,116,32,97,99,99,101,112,116])))) (fun r327=>ifW (!r327) (O ((zB.mk ([]) false),false)) (O ((zB.mk xs77 (decide (e74=(ByteArray.mk #[100,101,102,97,117,108,116,32,97,99,99,101,112,116])))),true))))) ([],[],1)))) (fun k72=>ifW (decide ((lines_0.length:Int)=0)) (k72 true) (zE lines_0 0 (fun e7=>ifW (!(decide (e7=(ByteArray.mk #[100,101,102,97,117,108,116,32,97,99,99,101,112,116])))) (zE lines_0 0 (fun e9=>k72 (!(decide (e9=(ByteArray.mk #[100,101,102,97,117,108,116,32,100,114,111,112])))))) (k72 false))))
def Z5 (s_0:zB) (O:(List ByteArray)->Prop):Prop :=
 yl s_0 (fun r11=>ifW (!r11) (O ([])) (jnW (fun (xs80:(List ByteArray))=>jg (fun (nx89:((List ByteArray)×Int)->Prop) ((xs85,t88):((List ByteArray)×Int))=>ifW (decide (t88<(s_0.xChains.length:Int))) (jS t88 (fun r90=>uY (ByteArray.mk #[99,104,97,105,110,32]) r90 (fun s91=>jQ xs85 ([s91]) (fun _=>jg (fun (nx101:((List ByteArray)×Int)->Prop) ((xs97,t100):((List ByteArray)×Int))=>zE s_0.xChains t88 (fun e102=>ifW (decide (t100<(e102.length:Int))) (zE s_0.xChains t88 (fun e108=>zE e108 t100 (fun e114=>uI e114 (fun r120=>jQ xs97 ([r120]) (fun _=>je t100 1 (fun t125=>nx101 ((xs97++([r120])),t125))))))) (je t88 1 (fun t126=>nx89 (xs97,t126))))) ((xs85++([s91])),0))))) (O xs85)) (xs80,0)) (fun k83=>ifW s_0.xAccept (jQ ([]) ([(ByteArray.mk #[100,101,102,97,117,108,116,32,97,99,99,101,112,116])]) (fun _=>k83 (([])++([(ByteArray.mk #[100,101,102,97,117,108,116,32,97,99,99,101,112,116])])))) (jQ ([]) ([(ByteArray.mk #[100,101,102,97,117,108,116,32,100,114,111,112])]) (fun _=>k83 (([])++([(ByteArray.mk #[100,101,102,97,117,108,116,32,100,114,111,112])])))))))
def Yu (lines_0:(List ByteArray)) (O:((List ByteArray)×Bool)->Prop):Prop :=
 Xa lines_0 (fun (r4,r8)=>ifW (!r8) (O ([],false)) (Uo r4 (fun (r16,r19)=>Yh r16 r4.xAccept (fun (r20,r24)=>jnW (fun (t90:Bool)=>ifW t90 (O ([],false)) (Z5 r20 (fun r94=>O (r94,true)))) (fun k91=>ifW (!r19) (k91 true) (k91 (!r24)))))))
def Z2 (p0:Int) (O:ByteArray->Prop):Prop :=
 XK p0 (fun r1=>uY (ByteArray.mk #[99,104,97,105,110,32]) r1 (fun s2=>O s2))
def yB (p0f:Int) (p0e:(List (List zo))) (p0d:Bool) (p1:ByteArray) (O:(Bool×(List (List zo)))->Prop):Prop :=
 jnW (fun (t67:Bool)=>ifW t67 (O (false,p0e)) (jQ p0e ([[]]) (fun _=>O (true,(p0e++([[]])))))) (fun k68=>ifW (decide ((p0e.length:Int)=5)) (k68 true) (Z2 (p0e.length:Int) (fun r6=>k68 (!(decide (p1=r6))))))
def yc (p0:zI) (O:ByteArray->Prop):Prop :=
 zE zu p0.xField (fun e3=>uY e3.xName (ByteArray.mk #[32]) (fun s5=>XK p0.xLo (fun r6=>uY s5 r6 (fun s7=>jnW (fun (t69:ByteArray)=>jnW (fun (t134:ByteArray)=>O t134) (fun k135=>ifW (!(decide (p0.xHi=p0.xLo))) (XK p0.xHi (fun r71=>uY (ByteArray.mk #[45]) r71 (fun s72=>uY t69 s72 (fun s73=>k135 s73)))) (k135 t69))) (fun k70=>ifW p0.xNot (uY (ByteArray.mk #[110,111,116,32]) s7 (fun s8=>k70 s8)) (k70 s7))))))
def yz (d_0:yh) (O:ByteArray->Prop):Prop :=
 ifW d_0.xAccept (O (ByteArray.mk #[97,99,99,101,112,116])) (O (ByteArray.mk #[100,114,111,112]))
def ZK (a_0:Xi) (O:ByteArray->Prop):Prop :=
 O (ByteArray.mk #[99,97,108,108])
def yY (a_0:ub) (O:ByteArray->Prop):Prop :=
 O (ByteArray.mk #[114,101,116,117,114,110])
def ZM (a_0:yj) (O:ByteArray->Prop):Prop :=
 O (ByteArray.mk #[110,111,110,101])
def Z0 (r_0:zo) (O:ByteArray->Prop):Prop :=
 uD r_0 (fun r8=>xe.casesW r8 (fun x9=>yz x9 (fun r13=>jnW (fun (t77:ByteArray)=>jg (fun (nx81:(ByteArray×Int)->Prop) ((t79,t80):(ByteArray×Int))=>ifW (decide (t80<(r_0.xTests.length:Int))) (zE r_0.xTests t80 (fun e82=>yc e82 (fun r86=>uY (ByteArray.mk #[44,32]) r86 (fun s87=>uY t79 s87 (fun s88=>je t80 1 (fun t89=>nx81 (s88,t89))))))) (O t79)) (t77,0)) (fun k78=>ifW (decide (r_0.xAction=3)) (XK r_0.xChain (fun r14=>uY (ByteArray.mk #[32]) r14 (fun s15=>uY r13 s15 (fun s16=>k78 s16)))) (k78 r13)))) (fun x10=>ZK x10 (fun r90=>jnW (fun (t154:ByteArray)=>jg (fun (nx158:(ByteArray×Int)->Prop) ((t156,t157):(ByteArray×Int))=>ifW (decide (t157<(r_0.xTests.length:Int))) (zE r_0.xTests t157 (fun e159=>yc e159 (fun r163=>uY (ByteArray.mk #[44,32]) r163 (fun s164=>uY t156 s164 (fun s165=>je t157 1 (fun t166=>nx158 (s165,t166))))))) (O t156)) (t154,0)) (fun k155=>ifW (decide (r_0.xAction=3)) (XK r_0.xChain (fun r91=>uY (ByteArray.mk #[32]) r91 (fun s92=>uY r90 s92 (fun s93=>k155 s93)))) (k155 r90)))) (fun x11=>yY (ub.mk ) (fun r167=>jnW (fun (t231:ByteArray)=>jg (fun (nx235:(ByteArray×Int)->Prop) ((t233,t234):(ByteArray×Int))=>ifW (decide (t234<(r_0.xTests.length:Int))) (zE r_0.xTests t234 (fun e236=>yc e236 (fun r240=>uY (ByteArray.mk #[44,32]) r240 (fun s241=>uY t233 s241 (fun s242=>je t234 1 (fun t243=>nx235 (s242,t243))))))) (O t233)) (t231,0)) (fun k232=>ifW (decide (r_0.xAction=3)) (XK r_0.xChain (fun r168=>uY (ByteArray.mk #[32]) r168 (fun s169=>uY r167 s169 (fun s170=>k232 s170)))) (k232 r167)))) (fun x12=>ZM (yj.mk ) (fun r244=>jnW (fun (t308:ByteArray)=>jg (fun (nx312:(ByteArray×Int)->Prop) ((t310,t311):(ByteArray×Int))=>ifW (decide (t311<(r_0.xTests.length:Int))) (zE r_0.xTests t311 (fun e313=>yc e313 (fun r317=>uY (ByteArray.mk #[44,32]) r317 (fun s318=>uY t310 s318 (fun s319=>je t311 1 (fun t320=>nx312 (s319,t320))))))) (O t310)) (t308,0)) (fun k309=>ifW (decide (r_0.xAction=3)) (XK r_0.xChain (fun r245=>uY (ByteArray.mk #[32]) r245 (fun s246=>uY r244 s246 (fun s247=>k309 s247)))) (k309 r244)))))
def jX (in_0_text:ByteArray) (in_0_at:Int) (w_1:ByteArray) (O:(Bool×Int)->Prop):Prop :=
 zdj in_0_text in_0_at (in_0_text.size:Int) (fun s3=>U2 s3 w_1 (fun r4=>ifW (!r4) (O (false,in_0_at)) (je in_0_at (w_1.size:Int) (fun t5=>O (true,t5)))))
def yQ (in_0_text:ByteArray) (in_0_at:Int) (O:Bool->Prop):Prop :=
 O (decide (in_0_at=(in_0_text.size:Int)))
def xE (in_0_text:ByteArray) (in_0_at:Int) (O:(Int×Bool×Int)->Prop):Prop :=
 jnW (fun ((t197,t198):(Int×Int))=>O (t198,(decide (in_0_at<t197)),t197)) (fun k199=>jg (fun (nx5:(Int×Int)->Prop) ((t3,t4):(Int×Int))=>jnW (fun (t68:Bool)=>ifW t68 (zE in_0_text.data.toList t3 (fun e70=>jnW (fun (t131:Bool)=>ifW t131 (k199 (t3,t4)) (zio 10 t4 (fun t133=>zmo (e70.toNat:Int) 48 (fun t134=>zko t134 (fun _=>je t133 t134 (fun t135=>je t3 1 (fun t136=>nx5 (t136,t135)))))))) (fun k132=>ifW (decide ((e70.toNat:Int)<48)) (k132 true) (k132 (decide (57<(e70.toNat:Int))))))) (k199 (t3,t4))) (fun k69=>yQ in_0_text t3 (fun r6=>ifW (!r6) (je in_0_at 6 (fun t7=>k69 (decide (t3<t7)))) (k69 false)))) (in_0_at,0))
def yn (in_0_text:ByteArray) (in_0_at:Int) (O:(zo×Bool×Int)->Prop):Prop :=
 jg (fun (nx7:(Int×Int)->Prop) ((t5,t6):(Int×Int))=>ifW (decide (t6<=5)) (jnW (fun (t218:Int)=>je t6 1 (fun t220=>nx7 (t218,t220))) (fun k219=>jnW (fun (t87:Int)=>ifW (!(decide (t6=3))) (O ((zo.mk ([]) t6 0),true,t87)) (jX in_0_text t87 (ByteArray.mk #[32]) (fun (r90,r91)=>jnW (fun ((t155,t156,t157):(Int×Int×Bool))=>O ((zo.mk ([]) t6 t156),t157,t155)) (fun k158=>ifW r90 (xE in_0_text r91 (fun (r92,r93,r94)=>k158 (r94,r92,r93))) (k158 (r91,0,r90)))))) (fun k88=>uD (zo.mk ([]) t6 0) (fun r10=>xe.casesW r10 (fun x11=>yz x11 (fun r15=>jX in_0_text t5 r15 (fun (r16,r17)=>ifW (!r16) (k219 r17) (k88 r17)))) (fun x12=>ZK x12 (fun r18=>jX in_0_text t5 r18 (fun (r19,r20)=>ifW (!r19) (k219 r20) (k88 r20)))) (fun x13=>yY (ub.mk ) (fun r21=>jX in_0_text t5 r21 (fun (r22,r23)=>ifW (!r22) (k219 r23) (k88 r23)))) (fun x14=>ZM (yj.mk ) (fun r24=>jX in_0_text t5 r24 (fun (r25,r26)=>ifW (!r25) (k219 r26) (k88 r26)))))))) (O ((zo.mk ([]) 0 0),false,t5))) (in_0_at,1)
def yE (in_0_text:ByteArray) (in_0_at:Int) (O:(Int×Bool×Int)->Prop):Prop :=
 jg (fun (nx5:(Int×Int)->Prop) ((t3,t4):(Int×Int))=>ifW (decide (t4<4)) (zE zu t4 (fun e6=>uY e6.xName (ByteArray.mk #[32]) (fun s8=>jX in_0_text t3 s8 (fun (r9,r10)=>ifW r9 (O (t4,true,r10)) (je t4 1 (fun t11=>nx5 (r10,t11))))))) (O (0,false,t3))) (in_0_at,0)
def yP (in_0_text:ByteArray) (in_0_at:Int) (O:(zI×Bool×Int)->Prop):Prop :=
 jX in_0_text in_0_at (ByteArray.mk #[110,111,116,32]) (fun (r7,r8)=>yE in_0_text r8 (fun (r9,r10,r11)=>ifW (!r10) (O ((zI.mk 0 0 0 false),false,r11)) (xE in_0_text r11 (fun (r12,r13,r14)=>ifW (!r13) (O ((zI.mk 0 0 0 false),false,r14)) (jnW (fun ((t80,t81):(Int×Int))=>O ((zI.mk r9 r12 t81 r7),true,t80)) (fun k82=>jX in_0_text r14 (ByteArray.mk #[45]) (fun (r15,r16)=>ifW r15 (xE in_0_text r16 (fun (r17,r18,r19)=>ifW (!r18) (O ((zI.mk 0 0 0 false),false,r19)) (k82 (r19,r17)))) (k82 (r16,r12)))))))))
def ZD (s_0:ByteArray) (O:(zo×Bool)->Prop):Prop :=
 yn s_0 0 (fun (r5,r8,r9)=>ifW (!r8) (O ((zo.mk ([]) 0 0),false)) (jg (fun (nx21:((List zI)×Int)->Prop) ((xs17,t20):((List zI)×Int))=>yQ s_0 t20 (fun r22=>ifW (!r22) (jnW (fun ((t85,t86):(Int×Bool))=>ifW t86 (O ((zo.mk ([]) 0 0),false)) (yP s_0 t85 (fun (r89,r90,r91)=>ifW (!r90) (O ((zo.mk ([]) 0 0),false)) (jQ xs17 ([r89]) (fun _=>nx21 ((xs17++([r89])),r91)))))) (fun k87=>ifW (decide ((xs17.length:Int)=6)) (k87 (t20,true)) (jX s_0 t20 (ByteArray.mk #[44,32]) (fun (r23,r24)=>k87 (r24,(!r23)))))) (jnW (fun (t164:Bool)=>ifW t164 (O ((zo.mk ([]) 0 0),false)) (O ((zo.mk xs17 r5.xAction r5.xChain),true))) (fun k165=>Yb (zo.mk xs17 r5.xAction r5.xChain) (fun r102=>ifW (!r102) (k165 true) (Z0 (zo.mk xs17 r5.xAction r5.xChain) (fun r103=>k165 (!(decide (r103=s_0)))))))))) (r5.xTests,r9)))
def ZP (p0f:Int) (p0e:(List (List zo))) (p0d:Bool) (p1:ByteArray) (O:(Bool×(List (List zo)))->Prop):Prop :=
 ZD p1 (fun (r6,r9)=>Y6 (p0e.length:Int) 1 (fun t15=>zE p0e t15 (fun e16=>ifW (!r9) (O (false,p0e)) (ifW (decide ((e16.length:Int)=8)) (O (false,(p0e.set (t15).toNat e16))) (jnW (fun (_:Unit)=>Us (p0e.set (t15).toNat (e16++([r6]))) (fun r40=>O (r40,(p0e.set (t15).toNat (e16++([r6])))))) (fun k25=>jQ e16 ([r6]) (fun _=>k25 ())))))))
def Yt (p0f:Int) (p0e:(List (List zo))) (p0d:Bool) (p1:ByteArray) (O:(Bool×Int×(List (List zo))×Bool)->Prop):Prop :=
 ifW (decide (p0f=0)) (jnW (fun (t66:Bool)=>O (t66,1,p0e,(decide (p1=(ByteArray.mk #[100,101,102,97,117,108,116,32,97,99,99,101,112,116]))))) (fun k67=>ifW (decide (p1=(ByteArray.mk #[100,101,102,97,117,108,116,32,97,99,99,101,112,116]))) (k67 true) (k67 (decide (p1=(ByteArray.mk #[100,101,102,97,117,108,116,32,100,114,111,112])))))) (ifW (decide (p0f=1)) (yB 2 p0e p0d p1 (fun (r68,r69)=>O (r68,2,r69,p0d))) (jnW (fun ((xs143,t147):((List (List zo))×Bool))=>O (t147,p0f,xs143,p0d)) (fun k148=>yB p0f p0e p0d p1 (fun (r73,r74)=>ifW r73 (k148 (r74,true)) (ZP p0f r74 p0d p1 (fun (r78,r79)=>k148 (r79,r78)))))))
def yy (lines_0:(List ByteArray)) (O:(zB×Bool)->Prop):Prop :=
 jg (fun (nx15:(Int×(List (List zo))×Bool×Int)->Prop) ((t7,xs9,t13,t14):(Int×(List (List zo))×Bool×Int))=>ifW (decide (t14<(lines_0.length:Int))) (zE lines_0 t14 (fun e16=>Yt t7 xs9 t13 e16 (fun (r18,r19,r20,r24)=>ifW (!r18) (O ((zB.mk ([]) false),false)) (je t14 1 (fun t26=>nx15 (r19,r20,r24,t26)))))) (um (zB.mk xs9 t13) (fun r27=>ifW (!r27) (O ((zB.mk ([]) false),false)) (O ((zB.mk xs9 t13),true))))) (0,[],false,0)
def Yj (s_0:zB) (O:(List ByteArray)->Prop):Prop :=
 um s_0 (fun r9=>ifW (!r9) (O ([])) (jnW (fun (t71:ByteArray)=>jg (fun (nx80:((List ByteArray)×Int)->Prop) ((xs76,t79):((List ByteArray)×Int))=>ifW (decide (t79<(s_0.xChains.length:Int))) (zE s_0.xChains t79 (fun e81=>Z2 t79 (fun r87=>jQ xs76 ([r87]) (fun _=>jg (fun (nx97:((List ByteArray)×Int)->Prop) ((xs93,t96):((List ByteArray)×Int))=>ifW (decide (t96<(e81.length:Int))) (zE e81 t96 (fun e98=>Z0 e98 (fun r109=>jQ xs93 ([r109]) (fun _=>je t96 1 (fun t114=>nx97 ((xs93++([r109])),t114)))))) (je t79 1 (fun t115=>nx80 (xs93,t115)))) ((xs76++([r87])),0))))) (O xs76)) ([t71],0)) (fun k72=>ifW s_0.xAccept (k72 (ByteArray.mk #[100,101,102,97,117,108,116,32,97,99,99,101,112,116])) (k72 (ByteArray.mk #[100,101,102,97,117,108,116,32,100,114,111,112])))))
def Yp (lines_0:(List ByteArray)) (O:((List ByteArray)×Bool)->Prop):Prop :=
 yy lines_0 (fun (r4,r8)=>ifW (!r8) (O ([],false)) (Uk r4 (fun (r15,r19)=>ifW (!r19) (O ([],false)) (Yo r15 r4.xAccept (fun (r21,r25)=>ifW (!r25) (O ([],false)) (Yj r21 (fun r32=>O (r32,true))))))))
def Uc (r_0_b:(List UInt8)) (r_0_p:Int) (n_1:Int) (O:(ByteArray×Int)->Prop):Prop :=
 Zk r_0_b r_0_p 1 3 0 (fun (r5,r8)=>uI r5 (fun r9=>jnW (fun ((t81,t82):(Int×ByteArray))=>O (t82,t81)) (fun k83=>jH r_0_b r8 n_1 (fun (r10,r11)=>ifW r10 (uY r9 (ByteArray.mk #[44]) (fun s12=>uY r9 (ByteArray.mk #[44,32]) (fun s13=>uY r9 (ByteArray.mk #[44,32,110,111,110,101]) (fun s14=>zw r_0_b r11 11 (fun (r17,r18)=>zE ([s12,s13,(ByteArray.mk #[99,97,108,108]),(ByteArray.mk #[99,97,108,108,32,53]),(ByteArray.mk #[97,99,99,101,112,116,32,49]),(ByteArray.mk #[]),(ByteArray.mk #[100,114,111,112,44,116,111,32,49]),(ByteArray.mk #[114,101,116,117,114,110,44,32,102,114,111,109,32,57,45,56]),s14,(ByteArray.mk #[99,104,97,105,110,32,48]),(ByteArray.mk #[110,111,110,101,44,32,112,111,114,116,32,49,44,32,112,111,114,116,32,49,44,32,112,111,114,116,32,49,44,32,112,111,114,116,32,49,44,32,112,111,114,116,32,49,44,32,112,111,114,116,32,49,44,32,112,111,114,116,32,49])]) r17 (fun e19=>k83 (r18,e19))))))) (k83 (r11,r9))))))
def U0 (r_0_b:(List UInt8)) (r_0_p:Int) (n_1:Int) (O:((List ByteArray)×Int)->Prop):Prop :=
 YZ r_0_b r_0_p 0 (fun (r6,r10)=>Z5 r6 (fun r11=>jnW (fun ((t112,xs114):(Int×(List ByteArray)))=>O (xs114,t112)) (fun k117=>jH r_0_b r10 n_1 (fun (r14,r15)=>ifW r14 (zw r_0_b r15 6 (fun (r16,r17)=>ifW (decide (r16=0)) (Uc r_0_b r17 1 (fun (r18,r19)=>jQ r11 ([r18]) (fun _=>k117 (r19,(r11++([r18])))))) (ifW (decide (r16=1)) (jQ r11 ([(ByteArray.mk #[99,97,108,108,32,48])]) (fun _=>k117 (r17,(r11++([(ByteArray.mk #[99,97,108,108,32,48])]))))) (ifW (decide (r16=2)) (zw r_0_b r17 (r11.length:Int) (fun (r28,r29)=>Xg r11 0 r28 (fun xs31=>k117 (r29,xs31)))) (ifW (decide (r16=3)) (zw r_0_b r17 (r11.length:Int) (fun (r33,r34)=>Uc r_0_b r34 2 (fun (r35,r36)=>zE r11 r33 (fun e37=>k117 (r36,(r11.set (r33).toNat r35)))))) (ifW (decide (r16=4)) (jQ r11 ([(ByteArray.mk #[99,104,97,105,110,32,57])]) (fun _=>k117 (r17,(r11++([(ByteArray.mk #[99,104,97,105,110,32,57])]))))) (zw r_0_b r17 5 (fun (r44,r45)=>jS r44 (fun r46=>uY (ByteArray.mk #[99,104,97,105,110,32]) r46 (fun s47=>jQ r11 ([(ByteArray.mk #[99,97,108,108,32,52]),s47]) (fun _=>k117 (r45,(r11++([(ByteArray.mk #[99,97,108,108,32,52]),s47])))))))))))))) (k117 (r15,r11))))))
def Yw (code_0:(List UInt8)) (O:(List ByteArray)->Prop):Prop :=
 VJ code_0 (fun (r6,r9)=>U0 r6 r9 4 (fun (r10,r13)=>O r10))
def Uz (a_0:(List ByteArray)) (b_1:(List ByteArray)) (O:Bool->Prop):Prop :=
 ifW (!(decide ((a_0.length:Int)=(b_1.length:Int)))) (O false) (jg (fun (nx6:Int->Prop) (t5:Int)=>ifW (decide (t5<(a_0.length:Int))) (zE a_0 t5 (fun e7=>zE b_1 t5 (fun e9=>ifW (!(decide (e7=e9))) (O false) (je t5 1 (fun t11=>nx6 t11))))) (O true)) 0)
def VB (rec:((List (List zo))->Int->(Int->Prop)->Prop)) (p0:(List (List zo))) (p1:Int) (O:Int->Prop):Prop :=
 zE p0 p1 (fun e3=>XZ e3 (fun r9=>jg (fun (nx14:(Int×Int)->Prop) ((t12,t13):(Int×Int))=>ifW (decide (t13<(r9.length:Int))) (zE r9 t13 (fun e15=>rec p0 e15 (fun r17=>je 1 r17 (fun t18=>je t13 1 (fun t19=>nx14 ((max t12 t18),t19)))))) (O t12)) (0,0)))
def Un:Nat->(List (List zo))->Int->(Int->Prop)->Prop
 | 0=>fun _ _ _=>False
 | n+1=>VB (Un n)
def zdf (p0:(List (List zo))) (p1:Int) (O:Int->Prop):Prop:=∃ n,Un n p0 p1 O
def Uw (s_0:zB) (p1:Int) (O:Int->Prop):Prop :=
 jnW (fun (t69:Bool)=>ifW t69 (O (-1)) (zdf s_0.xChains p1 (fun r71=>O r71))) (fun k70=>um s_0 (fun r8=>ifW (!r8) (k70 true) (ifW (decide (p1<0)) (k70 true) (k70 (decide ((s_0.xChains.length:Int)<=p1))))))
def Up (code_0:(List UInt8)) (p1:(List UInt8)) (O:Bool->Prop):Prop :=
 jnW (fun (t65:Bool)=>ifW t65 (O true) (Yw code_0 (fun r67=>Yp r67 (fun (r70,r73)=>Yu r67 (fun (r74,r77)=>jnW (fun (t139:Bool)=>ifW t139 (O false) (ifW (!r73) (jnW (fun (t202:Bool)=>O t202) (fun k203=>ifW (decide ((r70.length:Int)=0)) (zaI (fun r141=>k203 r141)) (k203 false))) (yy r67 (fun (r204,r208)=>yy r70 (fun (r214,r218)=>zaf r204 (fun (r224,r228)=>UB r224 (fun r229=>zaO r229 (p1.length:Int) (fun r233=>jnW (fun (t299:Bool)=>O t299) (fun k300=>ifW r208 (ifW r218 (ifW (decide ((r214.xChains.length:Int)=1)) (Uw r214 0 (fun r236=>ifW (decide (r236=0)) (VK r214 r233 (fun r237=>VK r204 r233 (fun r238=>ifW (decide (r237=r238)) (k300 (decide (r214.xAccept=r204.xAccept))) (k300 false)))) (k300 false))) (k300 false)) (k300 false)) (k300 false)))))))))) (fun k140=>Uz r70 r74 (fun r78=>ifW (!r78) (k140 true) (k140 (!(decide (r73=r77))))))))))) (fun k66=>ifW (decide (1048576<(code_0.length:Int))) (k66 true) (k66 (decide (1048576<(p1.length:Int)))))
end
section
open Go Go.Proofs
def NF (l:List zk):Prop:=(∀ s∈l,s.xLo<=s.xHi)∧l.Pairwise (fun a b=>a.xHi+1<b.xLo)
def hv (l:List zk) (x:Int):Prop:=∃ s∈l,s.xLo<=x∧x<=s.xHi
theorem zlF:NF []:=⟨by simp,by simp⟩
theorem yx (x:Int):¬ hv [] x:=by simp [hv]
theorem ut (s:zk) (l:List zk) (x:Int):hv (s :: l) x↔(s.xLo<=x∧x<=s.xHi)∨hv l x:=by simp [hv]
theorem zbF (l m:List zk) (x:Int):hv (l++m) x↔hv l x∨hv m x:=by
 simp only [hv,List.mem_append];constructor
 ·rintro ⟨s,h | h,e⟩
  ·exact .inl ⟨s,h,e⟩
  exact .inr ⟨s,h,e⟩
 rintro (⟨s,h,e⟩ | ⟨s,h,e⟩)
 ·exact ⟨s,.inl h,e⟩
 exact ⟨s,.inr h,e⟩
theorem zbq {s:zk} {l:List zk} (h:NF (s :: l)):NF l:=⟨fun t ht=>h.1 t (List.mem_cons_of_mem _ ht),(List.pairwise_cons.1 h.2).2⟩
theorem zfH {s:zk} {l:List zk} (h:NF (s :: l)) {x:Int} (hx:hv l x):s.xHi+1<x:=by
 obtain ⟨t,ht,e1,_⟩:=hx;have:=(List.pairwise_cons.1 h.2).1 t ht;omega
theorem zez {s:zk} {l:List zk} (h:NF (s :: l)) {x:Int} (hx:hv (s :: l) x):s.xLo<=x:=by
 rcases (ut _ _ _).1 hx with e | e
 ·exact e.1
 have:=zfH h e;have:=h.1 s (by simp);omega
theorem zbN {l m:List zk} (hl:NF l) (hm:NF m) (h:∀ s∈l,∀ t∈m,s.xHi+1<t.xLo):NF (l++m) :=
 ⟨fun s hs=>(List.mem_append.1 hs).elim (hl.1 s) (hm.1 s),List.pairwise_append.2 ⟨hl.2,hm.2,h⟩⟩
theorem za5 {s:zk} (h:s.xLo<=s.xHi):NF [s]:=⟨by simpa using h,by simp⟩
theorem zqd:∀ {a b:List zk},NF a->NF b->(∀ x,hv a x↔hv b x)->a=b
 | [],[],_,_,_=>rfl
 | [],t :: b,_,hb,h=>absurd ((h t.xLo).2 ((ut _ _ _).2 (.inl ⟨Int.le_refl _,hb.1 t (by simp)⟩))) (yx _)
 | s :: a,[],ha,_,h=>absurd ((h s.xLo).1 ((ut _ _ _).2 (.inl ⟨Int.le_refl _,ha.1 s (by simp)⟩))) (yx _)
 | s :: a,t :: b,ha,hb,h=>by
  have h1:=ha.1 s (by simp)
  have h2:=hb.1 t (by simp)
  have l1:t.xLo<=s.xLo:=zez hb ((h _).1 ((ut _ _ _).2 (.inl ⟨Int.le_refl _,h1⟩)))
  have l2:s.xLo<=t.xLo:=zez ha ((h _).2 ((ut _ _ _).2 (.inl ⟨Int.le_refl _,h2⟩)))
  have u1:¬ s.xHi<t.xHi:=fun hlt=>by
   have:=(h (s.xHi+1)).2 ((ut _ _ _).2 (.inl ⟨by omega,by omega⟩))
   rcases (ut _ _ _).1 this with e | e
   ·omega
   ·have:=zfH ha e;omega
  have u2:¬ t.xHi<s.xHi:=fun hlt=>by
   have:=(h (t.xHi+1)).1 ((ut _ _ _).2 (.inl ⟨by omega,by omega⟩))
   rcases (ut _ _ _).1 this with e | e
   ·omega
   ·have:=zfH hb e;omega
  have e:s=t:=by
   apply zk.ext <;> omega
  subst e
  rw [zqd (zbq ha) (zbq hb) (fun x=>?_)]
  have:=h x
  rw [ut,ut] at this
  constructor
  ·intro hx
   have g:=zfH ha hx
   rcases this.1 (.inr hx) with e | e
   ·omega
   ·exact e
  ·intro hx
   have g:=zfH hb hx
   rcases this.2 (.inr hx) with e | e
   ·omega
   ·exact e
def zsj:List (Int×Int)->List zk->Int->Int->List zk
 | [],out,_,_=>out
 | e :: es,out,d,st=>zsj es (if d+e.2=0 then out++[zk.mk (if d=0 then e.1 else st) (e.1 - 1)] else out) (d+e.2) (if d=0 then e.1 else st)
def stp (l:List (Int×Int)):Int:=(l.map (·.2)).sum
def zdi:List zk->zk->List zk->Bool->List zk×zk×Bool
 | [],s,out,pl=>(out,s,pl)
 | x :: xs,s,out,pl =>
  if x.xHi+1<s.xLo then zdi xs s (out++[x]) pl
  else if s.xHi+1<x.xLo then zdi xs s ((if pl then out else out++[s])++[x]) true
  else zdi xs (zk.mk (min s.xLo x.xLo) (max s.xHi x.xHi)) out pl
def ze8 (l:List zk) (s:zk):List zk :=
 match zdi l s [] false with
 | (out,s',pl)=>if pl then out else out++[s']
theorem zha:∀ (l:List zk) (s:zk) (out:List zk) (pl:Bool),NF l->s.xLo<=s.xHi->NF out ->
  (pl=false->(∀ t∈out,t.xHi+1<s.xLo)∧(∀ t∈out,∀ u∈l,t.xHi+1<u.xLo)) ->
  (pl=true->(∀ t∈out,∀ u∈l,t.xHi+1<u.xLo)∧(∀ u∈l,s.xHi+1<u.xLo)∧s∈out) ->
  NF (match zdi l s out pl with | (o,s',p)=>if p then o else o++[s'])∧∀ x,hv (match zdi l s out pl with | (o,s',p)=>if p then o else o++[s']) x↔hv out x∨hv l x∨(s.xLo<=x∧x<=s.xHi)
 | [],s,out,pl,hl,hs,ho,h0,h1=>by
  simp only [zdi]
  cases pl with
  | true =>
   simp only [if_true]
   obtain ⟨_,_,hm⟩:=h1 rfl
   refine ⟨ho,fun x=>⟨.inl,?_⟩⟩
   rintro (q | q | q)
   ·exact q
   ·exact absurd q (yx x)
   ·exact ⟨s,hm,q⟩
  | false =>
   simp only [Bool.false_eq_true,if_false]
   obtain ⟨ha,_⟩:=h0 rfl
   refine ⟨zbN ho (za5 hs) (fun t ht u hu=>by simp at hu;subst hu;exact ha t ht),fun x=>?_⟩
   rw [zbF,ut]
   simp [yx]
 | y :: l,s,out,pl,hl,hs,ho,h0,h1=>by
  have hy:=hl.1 y (by simp)
  have hgap:=(List.pairwise_cons.1 hl.2).1
  have hl':=zbq hl
  unfold zdi
  by_cases c1:y.xHi+1<s.xLo
  ·rw [if_pos c1]
   have hpl:pl=false:=by
    cases pl with
    | false=>rfl
    | true=>have:=(h1 rfl).2.1 y (by simp);omega
   subst hpl
   obtain ⟨a1,a2⟩:=h0 rfl
   have ih:=zha l s (out++[y]) false hl' hs (zbN ho (za5 hy) (fun t ht u hu=>by simp at hu;subst hu;exact a2 t ht u (by simp)))
    (fun _=>⟨fun t ht=>by
     rcases List.mem_append.1 ht with q | q
     ·exact a1 t q
     ·simp at q;subst q;exact c1,fun t ht u hu=>by
     rcases List.mem_append.1 ht with q | q
     ·exact a2 t q u (by simp [hu])
     ·simp at q;subst q;exact hgap u hu⟩) (fun h=>by simp at h)
   refine ⟨ih.1,fun x=>?_⟩
   rw [ih.2 x,zbF,ut,ut]
   simp only [yx,or_false]
   constructor
   ·rintro ((q | q) | q | q)
    ·exact .inl q
    ·exact .inr (.inl (.inl q))
    ·exact .inr (.inl (.inr q))
    ·exact .inr (.inr q)
   ·rintro (q | (q | q) | q)
    ·exact .inl (.inl q)
    ·exact .inl (.inr q)
    ·exact .inr (.inl q)
    ·exact .inr (.inr q)
  ·rw [if_neg c1]
   by_cases c2:s.xHi+1<y.xLo
   ·rw [if_pos c2]
    cases pl with
    | true =>
     simp only [if_true]
     obtain ⟨a1,a2,a3⟩:=h1 rfl
     have ih:=zha l s (out++[y]) true hl' hs (zbN ho (za5 hy) (fun t ht u hu=>by simp at hu;subst hu;exact a1 t ht u (by simp))) (fun h=>by simp at h)
      (fun _=>⟨fun t ht u hu=>by
       rcases List.mem_append.1 ht with q | q
       ·exact a1 t q u (by simp [hu])
       ·simp at q;subst q;exact hgap u hu,fun u hu=>a2 u (by simp [hu]),by simp [a3]⟩)
     refine ⟨ih.1,fun x=>?_⟩
     rw [ih.2 x,zbF,ut,ut]
     simp only [yx,or_false]
     constructor
     ·rintro ((q | q) | q | q)
      ·exact .inl q
      ·exact .inr (.inl (.inl q))
      ·exact .inr (.inl (.inr q))
      ·exact .inr (.inr q)
     ·rintro (q | (q | q) | q)
      ·exact .inl (.inl q)
      ·exact .inl (.inr q)
      ·exact .inr (.inl q)
      ·exact .inr (.inr q)
    | false =>
     simp only [Bool.false_eq_true,if_false]
     obtain ⟨a1,a2⟩:=h0 rfl
     have n1:NF (out++[s]):=zbN ho (za5 hs) (fun t ht u hu=>by simp at hu;subst hu;exact a1 t ht)
     have ih:=zha l s ((out++[s])++[y]) true hl' hs (zbN n1 (za5 hy) (fun t ht u hu=>by
       simp at hu;subst hu
       rcases List.mem_append.1 ht with q | q
       ·exact a2 t q u (by simp)
       ·simp at q;subst q;exact c2)) (fun h=>by simp at h)
      (fun _=>⟨fun t ht u hu=>by
       have hg:=hgap u hu
       rcases List.mem_append.1 ht with q | q
       ·rcases List.mem_append.1 q with q | q
        ·exact a2 t q u (by simp [hu])
        ·simp at q;subst q;omega
       ·simp at q;subst q;exact hg,fun u hu=>by have:=hgap u hu;omega,by simp⟩)
     refine ⟨ih.1,fun x=>?_⟩
     rw [ih.2 x,zbF,zbF,ut,ut,ut]
     simp only [yx,or_false]
     constructor
     ·rintro (((q | q) | q) | q | q)
      ·exact .inl q
      ·exact .inr (.inr q)
      ·exact .inr (.inl (.inl q))
      ·exact .inr (.inl (.inr q))
      ·exact .inr (.inr q)
     ·rintro (q | (q | q) | q)
      ·exact .inl (.inl (.inl q))
      ·exact .inl (.inr q)
      ·exact .inr (.inl q)
      ·exact .inr (.inr q)
   ·rw [if_neg c2]
    have hpl:pl=false:=by
     cases pl with
     | false=>rfl
     | true=>have:=(h1 rfl).2.1 y (by simp);omega
    subst hpl
    obtain ⟨a1,a2⟩:=h0 rfl
    have ih:=zha l (zk.mk (min s.xLo y.xLo) (max s.xHi y.xHi)) out false hl' (by simp only;omega) ho
     (fun _=>⟨fun t ht=>by
      have:=a1 t ht;have:=a2 t ht y (by simp)
      simp only;omega,fun t ht u hu=>a2 t ht u (by simp [hu])⟩) (fun h=>by simp at h)
    refine ⟨ih.1,fun x=>?_⟩
    rw [ih.2 x,ut]
    simp only
    constructor
    ·rintro (q | q | q)
     ·exact .inl q
     ·exact .inr (.inl (.inr q))
     ·by_cases c3:y.xLo<=x∧x<=y.xHi
      ·exact .inr (.inl (.inl c3))
      ·exact .inr (.inr (by omega))
    ·rintro (q | (q | q) | q)
     ·exact .inl q
     ·exact .inr (.inr (by omega))
     ·exact .inr (.inl q)
     ·exact .inr (.inr (by omega))
theorem znT {l:List zk} {s:zk} (hl:NF l) (hs:s.xLo<=s.xHi):NF (ze8 l s)∧∀ x,hv (ze8 l s) x↔hv l x∨(s.xLo<=x∧x<=s.xHi):=by
 have:=zha l s [] false hl hs zlF (fun _=>⟨by simp,by simp⟩) (fun h=>by simp at h);refine ⟨this.1,fun x=>?_⟩;have:=this.2 x;simp only [yx,false_or] at this;exact this
theorem zdc:∀ (xs l:List zk),NF l->(∀ s∈xs,s.xLo<=s.xHi)->NF (xs.foldl ze8 l)∧∀ x,hv (xs.foldl ze8 l) x↔hv l x∨hv xs x
 | [],l,hl,_=>⟨hl,fun x=>by simp [yx]⟩
 | s :: xs,l,hl,h=>by
  obtain ⟨n1,e1⟩:=znT hl (h s (by simp))
  obtain ⟨n2,e2⟩:=zdc xs (ze8 l s) n1 (fun t ht=>h t (List.mem_cons_of_mem _ ht))
  refine ⟨n2,fun x=>?_⟩
  rw [List.foldl_cons,e2 x,e1 x,ut]
  constructor
  ·rintro ((q | q) | q)
   ·exact .inl q
   ·exact .inr (.inl q)
   ·exact .inr (.inr q)
  ·rintro (q | q | q)
   ·exact .inl (.inl q)
   ·exact .inl (.inr q)
   ·exact .inr q
end
section
theorem jz {A B:Prop} (h:A):ifW true A B:=⟨fun _=>h,(fun e=>by cases e)⟩
theorem jT {A B:Prop} (h:B):ifW false A B:=⟨(fun e=>by cases e),fun _=>h⟩
theorem zi {c:Bool} {A B:Prop} (ht:c=true->A) (hf:c=false->B):ifW c A B:=⟨ht,hf⟩
@[simp] theorem ua {A B:Prop}:ifW true A B=A:=propext ⟨fun h=>h.1 rfl,jz⟩
@[simp] theorem xZ {A B:Prop}:ifW false A B=B:=propext ⟨fun h=>h.2 rfl,jT⟩
theorem zy {x y:Int} {O:Int->Prop} (h1:-9223372036854775808<=x+y) (h2:x+y<=9223372036854775807) (h:O (x+y)):je x y O:=⟨⟨h1,h2⟩,h⟩
theorem yK {x y:Int} {O:Int->Prop} (h1:-9223372036854775808<=x - y) (h2:x - y<=9223372036854775807) (h:O (x - y)):Y6 x y O:=⟨⟨h1,h2⟩,h⟩
theorem zcg {x y:Int} {O:Int->Prop} (h1:-9223372036854775808<=x * y) (h2:x * y<=9223372036854775807) (h:O (x * y)):zio x y O:=⟨⟨h1,h2⟩,h⟩
theorem zmz {x y:Int} {O:Int->Prop} (h1:0<=x) (h2:x<=9223372036854775807) (h3:0<y) (h:O (x / y)):zlU x y O:=⟨h3,⟨by omega,h2⟩,by rw [Int.tdiv_eq_ediv_of_nonneg h1];exact h⟩
theorem zjQ {x y:Int} {O:Int->Prop} (h1:0<=x) (h2:x<=9223372036854775807) (h3:0<y) (h:O (x % y)):zcD x y O:=⟨h1,h3,⟨by omega,h2⟩,h⟩
theorem zq {V:Type} {xs:List V} {i:Int} {O:V->Prop} (n:Nat) (hi:i=n) (hn:n<xs.length) (h:O xs[n]):zE xs i O:=by
 subst hi;exact ⟨xs[n],by omega,by simp [hn],h⟩
theorem jk {V:Type} {xs ys:List V} {O:List V->Prop} (h1:xs.length+ys.length<=4294967296) (h:O (xs++ys)):jQ xs ys O:=⟨h1,h⟩
theorem VF {V:Type} {z:V} {n m:Int} {O:List V->Prop} (k:Nat) (hn:n=k) (h1:n<=m) (h2:m<=4294967296) (h:O (List.replicate k z)):zbS z n m O:=by
 subst hn;refine ⟨by omega,h1,?_,by simpa using h⟩;unfold zf5;omega
theorem zQ {W:Type} {F:(W->Prop)->W->Prop} (len:Nat) (pos:W->Int) (I:Nat->W->Prop) (hpos:∀ k s,I k s->pos s=k) (hle:∀ k s,I k s->k<=len)
  (h:∀ k s next,I k s->(k<len->∀ s',I (k+1) s'->next s')->F next s) {s:W} (h0:I 0 s):jg F s:=by
 refine uV (fun s=>∃ k,I k s) (fun s=>len - (pos s).toNat) (fun s next ⟨k,hk⟩ hn=>?_) ⟨0,h0⟩;refine h k s next hk (fun hlt s' hs'=>hn s' ⟨k+1,hs'⟩ ?_);rw [hpos _ _ hk,hpos _ _ hs'];omega
theorem U3 {W:Type} {F:(W->Prop)->W->Prop} (k0 len:Nat) (pos:W->Int) (I:Nat->W->Prop) (hpos:∀ k s,I k s->pos s=k) (hle:∀ k s,I k s->k<=len)
  (h:∀ k s next,I k s->(k<len->∀ s',I (k+1) s'->next s')->F next s) {s:W} (h0:I k0 s):jg F s:=by
 refine uV (fun s=>∃ k,I k s) (fun s=>len - (pos s).toNat) (fun s next ⟨k,hk⟩ hn=>?_) ⟨k0,h0⟩;refine h k s next hk (fun hlt s' hs'=>hn s' ⟨k+1,hs'⟩ ?_);rw [hpos _ _ hk,hpos _ _ hs'];omega
theorem zjh {V:Type} [DecidableEq V] (a b:List V) (hab:a.length=b.length) (hl:a.length<=4294967296) {O:Bool->Prop} (T:V->V->Prop->Prop) (hT:∀ x y A,(x=y->A)->(x≠y->O false)->T x y A) (hO:O (decide (a=b)))
  (F:(Int->Prop)->Int->Prop) (hF:∀ nx t,(ifW (decide (t<(a.length:Int))) (zE a t (fun x=>zE b t (fun y=>T x y (je t 1 (fun u=>nx u))))) (O true))->F nx t):jg F 0:=by
 refine zQ a.length (fun s=>s) (fun k s=>s=(k:Int)∧k<=a.length∧a.take k=b.take k) (fun k s h=>h.1) (fun k s h=>h.2.1) ?_ ⟨rfl,Nat.zero_le _,by simp⟩;rintro k _ next ⟨rfl,hk,he⟩ hn;refine hF _ _ (zi (fun hc=>?_) (fun hc=>?_))
 ·have hlt:k<a.length:=by simpa using hc
  refine zq k rfl hlt (zq k rfl (by omega) (hT _ _ _ (fun e=>zy (by omega) (by omega) (hn hlt _ ⟨by simp,by omega,?_⟩)) (fun e=>?_)))
  ·rw [List.take_succ_eq_append_getElem hlt,List.take_succ_eq_append_getElem (by omega),he,e]
  have:a≠b:=fun h=>by subst h;exact e rfl
  rw [decide_eq_false this] at hO;exact hO
 have hge:a.length<=k:=by simpa using hc
 have:a=b:=by
  rw [List.take_of_length_le hge,List.take_of_length_le (by omega)] at he;exact he
 rw [decide_eq_true this] at hO;exact hO
def zsC {V:Type} (f:Int->V) (k:Int) (n:Nat):List V:=(List.range n).map fun (i:Nat)=>f (k+(i:Int))
theorem znC {V:Type} {xs:List V} {t:Nat} {a:V} {O:V->Prop} (h:t<xs.length) (hk:O a):zE (xs.set ((t:Int)).toNat a) (t:Int) O:=⟨a,by omega,by simp [h],hk⟩
end
section
open Go Go.Proofs
instance (l:List zk) (x:Int):Decidable (hv l x):=by unfold hv;infer_instance
def St (l:List zk) (top:Int):Prop:=NF l∧∀ s∈l,0<=s.xLo∧s.xHi<=top
theorem zqL (top:Int):St [] top:=⟨zlF,by simp⟩
theorem zo5 {a b:List zk} {t u:Int} (ha:St a t) (hb:St b u) (h:∀ x,hv a x↔hv b x):a=b:=zqd ha.1 hb.1 h
theorem XX {l:List zk} {top x:Int} (h:St l top) (hx:hv l x):0<=x∧x<=top:=by
 obtain ⟨s,hs,e1,e2⟩:=hx;have:=h.2 s hs;omega
theorem ziY:∀ (l:List zk) (top lo:Int),NF l->(∀ s∈l,lo<=s.xLo∧s.xHi<=top)->lo<=top+2->2 * (l.length:Int)<=top+2 - lo
 | [],top,lo,_,_,h=>by simp;omega
 | s :: l,top,lo,hn,hr,h=>by
  have h0:=hr s (by simp)
  have h1:=hn.1 s (by simp)
  have:=ziY l top (s.xHi+2) (zbq hn) (fun t ht=>⟨by have:=(List.pairwise_cons.1 hn.2).1 t ht;omega,(hr t (List.mem_cons_of_mem _ ht)).2⟩) (by omega)
  simp only [List.length_cons]
  omega
theorem zbj {l:List zk} {top:Int} (h:St l top) (ht:-2<=top):2 * (l.length:Int)<=top+2:=by
 have:=ziY l top 0 h.1 h.2 (by omega);omega
def U8 (x y:zk):List zk:=if max x.xLo y.xLo<=min x.xHi y.xHi then [zk.mk (max x.xLo y.xLo) (min x.xHi y.xHi)] else []
def ji (a b:List zk):List zk:=a.flatMap fun x=>b.flatMap (U8 x)
theorem zc1 {x y t:zk}:t∈U8 x y↔max x.xLo y.xLo<=min x.xHi y.xHi∧t=zk.mk (max x.xLo y.xLo) (min x.xHi y.xHi):=by
 unfold U8;split <;> simp [*]
theorem zdw {a b:List zk} {t:zk}:t∈ji a b↔∃ x∈a,∃ y∈b,max x.xLo y.xLo<=min x.xHi y.xHi∧t=zk.mk (max x.xLo y.xLo) (min x.xHi y.xHi):=by
 simp only [ji,List.mem_flatMap,zc1]
theorem Uh (a b:List zk) (n:Int):hv (ji a b) n↔hv a n∧hv b n:=by
 constructor
 ·rintro ⟨t,ht,h1,h2⟩;obtain ⟨x,hx,y,hy,_,rfl⟩:=zdw.1 ht;simp only at h1 h2;exact ⟨⟨x,hx,by omega,by omega⟩,⟨y,hy,by omega,by omega⟩⟩
 rintro ⟨⟨x,hx,h1,h2⟩,⟨y,hy,h3,h4⟩⟩;exact ⟨_,zdw.2 ⟨x,hx,y,hy,by omega,rfl⟩,by simp only;omega,by simp only;omega⟩
theorem zob {x:zk}:∀ {b:List zk},NF b->NF (b.flatMap (U8 x))
 | [],_=>by simp [NF]
 | y :: b,h=>by
  rw [List.flatMap_cons]
  have hy:=(List.pairwise_cons.1 h.2).1
  refine zbN ⟨fun t ht=>?_,?_⟩ (zob (zbq h)) (fun t ht u hu=>?_)
  ·obtain ⟨h1,rfl⟩:=zc1.1 ht;exact h1
  ·unfold U8;split <;> simp
  ·obtain ⟨h1,rfl⟩:=zc1.1 ht
   obtain ⟨z,hz,hu⟩:=List.mem_flatMap.1 hu
   obtain ⟨h2,rfl⟩:=zc1.1 hu
   have:=hy z hz
   simp only;omega
theorem zfa:∀ {a b:List zk},NF a->NF b->NF (ji a b)
 | [],b,_,_=>by simp [ji,NF]
 | x :: a,b,ha,hb=>by
  have e:ji (x :: a) b=b.flatMap (U8 x)++ji a b:=by simp [ji]
  rw [e]
  refine zbN (zob hb) (zfa (zbq ha) hb) (fun t ht u hu=>?_)
  obtain ⟨y,hy,ht⟩:=List.mem_flatMap.1 ht
  obtain ⟨h1,rfl⟩:=zc1.1 ht
  obtain ⟨z,hz,y',hy',h2,rfl⟩:=zdw.1 hu
  have:=(List.pairwise_cons.1 ha.2).1 z hz
  simp only;omega
theorem YD {a b:List zk} {top:Int} (ha:St a top) (hb:NF b):St (ji a b) top:=by
 refine ⟨zfa ha.1 hb,fun t ht=>?_⟩;obtain ⟨x,hx,y,hy,_,rfl⟩:=zdw.1 ht;have:=ha.2 x hx;have:=hb.1 y hy;simp only;omega
def V8:List zk->Int->Int->List zk
 | [],at_,top=>if at_<=top then [zk.mk at_ top] else []
 | s :: l,at_,top=>(if at_<s.xLo then [zk.mk at_ (s.xLo - 1)] else [])++V8 l (s.xHi+1) top
def Xh (a:List zk) (top:Int):List zk:=V8 a 0 top
theorem zh1:∀ (a:List zk) (c top:Int),NF a->(∀ s∈a,c<=s.xLo∧s.xHi<=top) ->
  NF (V8 a c top)∧(∀ s∈V8 a c top,c<=s.xLo∧s.xHi<=top)∧∀ x,hv (V8 a c top) x↔c<=x∧x<=top∧¬ hv a x
 | [],c,top,_,_=>by
  unfold V8
  split
  ·refine ⟨za5 (by simpa using ‹_›),by simp,fun x=>?_⟩
   rw [ut];simp [yx]
  ·refine ⟨zlF,by simp,fun x=>?_⟩
   simp only [yx,false_iff]
   omega
 | s :: l,c,top,hn,hr=>by
  have h0:=hr s (by simp)
  have h1:=hn.1 s (by simp)
  have hg:=(List.pairwise_cons.1 hn.2).1
  obtain ⟨i1,i2,i3⟩:=zh1 l (s.xHi+1) top (zbq hn) (fun t ht=>⟨by have:=hg t ht;omega,(hr t (List.mem_cons_of_mem _ ht)).2⟩)
  unfold V8
  have hx0:∀ x,x<=s.xHi+1->¬ hv l x:=fun x hx hh=>by have:=zfH hn hh;omega
  split
  ·refine ⟨zbN (za5 (by simp only;omega)) i1 (fun t ht u hu=>by simp at ht;subst ht;have:=i2 u hu;simp only;omega),fun t ht=>?_,fun x=>?_⟩
   ·rcases List.mem_append.1 ht with q | q
    ·simp at q;subst q;simp only;omega
    ·have:=i2 t q;omega
   ·rw [zbF,ut,i3,ut]
    simp only [yx,or_false]
    constructor
    ·rintro (q | ⟨q1,q2,q3⟩)
     ·exact ⟨by omega,by omega,fun h=>by
       rcases h with h | h
       ·omega
       ·exact hx0 x (by omega) h⟩
     ·exact ⟨by omega,q2,fun h=>by
       rcases h with h | h
       ·omega
       ·exact q3 h⟩
    ·rintro ⟨q1,q2,q3⟩
     by_cases h:x<s.xLo
     ·exact .inl (by omega)
     ·exact .inr ⟨by
       rcases Int.lt_or_le s.xHi x with g | g
       ·omega
       ·exact absurd (Or.inl ⟨by omega,g⟩) q3,q2,fun h=>q3 (.inr h)⟩
  ·refine ⟨by simpa using i1,fun t ht=>?_,fun x=>?_⟩
   ·have:=i2 t (by simpa using ht);omega
   ·rw [List.nil_append,i3,ut]
    constructor
    ·rintro ⟨q1,q2,q3⟩
     exact ⟨by omega,q2,fun h=>by
       rcases h with h | h
       ·omega
       ·exact q3 h⟩
    ·rintro ⟨q1,q2,q3⟩
     exact ⟨by
       rcases Int.lt_or_le s.xHi x with g | g
       ·omega
       ·exact absurd (Or.inl ⟨by omega,g⟩) q3,q2,fun h=>q3 (.inr h)⟩
theorem Vj {a:List zk} {top:Int} (h:St a top):St (Xh a top) top:=by
 obtain ⟨h1,h2,_⟩:=zh1 a 0 top h.1 h.2;exact ⟨h1,h2⟩
theorem zfW {a:List zk} {top:Int} (h:St a top) (x:Int):hv (Xh a top) x↔0<=x∧x<=top∧¬ hv a x:=(zh1 a 0 top h.1 h.2).2.2 x
def Uf (a b:List zk):List zk:=b.foldl ze8 a
theorem zdq {a b:List zk} {top:Int} (ha:St a top) (hb:St b top) (x:Int):hv (Uf a b) x↔hv a x∨hv b x:=(zdc b a ha.1 hb.1.1).2 x
theorem zbx {l:List zk} {s:zk} (h:NF l) (hs:s∈l):hv l s.xLo∧hv l s.xHi:=⟨⟨s,hs,Int.le_refl _,h.1 s hs⟩,⟨s,hs,h.1 s hs,Int.le_refl _⟩⟩
theorem zfP {a b:List zk} {top:Int} (ha:St a top) (hb:St b top):St (Uf a b) top:=by
 have hn:NF (Uf a b):=(zdc b a ha.1 hb.1.1).1;refine ⟨hn,fun s hs=>?_⟩;obtain ⟨e1,e2⟩:=zbx hn hs;rw [zdq ha hb] at e1 e2;constructor
 ·rcases e1 with e | e
  ·exact (XX ha e).1
  exact (XX hb e).1
 rcases e2 with e | e
 ·exact (XX ha e).2
 exact (XX hb e).2
theorem zox (a:List zk) (c:Int) (hl:a.length<=4294967296) {i0:Nat} (h0:i0<=a.length) (hb:∀ s∈a.take i0,s.xHi<c) (REST:Int->Prop)
  (hR:∀ i:Nat,i<=a.length->(∀ s∈a.take i,s.xHi<c)->(∀ h:i<a.length,c<=a[i].xHi)->REST i)
  (F:(Int->Prop)->Int->Prop) (hF:∀ nx t,(jnW (fun (b:Bool)=>ifW b (je t 1 (fun u=>nx u)) (REST t)) (fun k=>ifW (decide (t<(a.length:Int))) (zE a t (fun e=>k (decide (e.xHi<c)))) (k false)))->F nx t):jg F (i0:Int):=by
 refine U3 i0 a.length (fun s=>s) (fun k s=>s=(k:Int)∧k<=a.length∧∀ s∈a.take k,s.xHi<c) (fun k s h=>h.1) (fun k s h=>h.2.1) ?_ ⟨rfl,h0,hb⟩;rintro k _ next ⟨rfl,hk,he⟩ hn;refine hF _ _ ?_;unfold jnW;refine zi (fun hc=>?_) (fun hc=>?_)
 ·have hlt:k<a.length:=by simpa using hc
  refine zq k rfl hlt (zi (fun hd=>?_) (fun hd=>?_))
  ·refine zy (by omega) (by omega) (hn hlt _ ⟨by simp,by omega,fun s hs=>?_⟩);rw [List.take_succ_eq_append_getElem hlt] at hs;rcases List.mem_append.1 hs with q | q
   ·exact he s q
   simp at q;subst q;simpa using hd
  exact hR k hk he (fun _=>by simpa using hd)
 refine jT (hR k hk he (fun h=>?_));have:a.length<=k:=by simpa using hc
 omega
theorem zl5 {a:List zk} {i:Nat} {c x:Int} (h:∀ s∈a.take i,s.xHi<c) (hx:c<=x):hv a x↔hv (a.drop i) x:=by
 have e:=zbF (a.take i) (a.drop i) x;rw [List.take_append_drop] at e;rw [e];constructor
 ·rintro (⟨s,hs,q1,q2⟩ | q)
  ·have:=h s hs;omega
  exact q
 exact .inr
def stF (l:List zk) (c top:Int):Bool×Int :=
 match l with
 | []=>(false,top)
 | s :: _=>if c<s.xLo then (false,s.xLo - 1) else (true,s.xHi)
theorem zi2 {l:List zk} {c top:Int} {O:Bool×Int->Prop} (hb:∀ s∈l,0<=s.xLo∧s.xHi<=9223372036854775807) (hn:NF l) (h:O (stF l c top)):u7 l c top O:=by
 unfold u7;cases l with
 | nil=>exact jz h
 | cons s l =>
  have:=hb s (by simp);have:=hn.1 s (by simp);refine zi (fun e=>by simp at e;omega) (fun _=>zq 0 rfl (by simp) (zi (fun e=>zq 0 rfl (by simp) (yK (by simp only [List.getElem_cons_zero];omega) (by simp only [List.getElem_cons_zero];omega) ?_)) (fun e=>zq 0 rfl (by simp) ?_)))
  ·simp only [stF] at h;rw [if_pos (by simpa using e)] at h;exact h
  simp only [stF] at h;rw [if_neg (by simpa using e)] at h;exact h
theorem zkB {l:List zk} {c top:Int} (h:NF l) (hb:∀ s∈l,s.xHi<=top) (hc:c<=top) (hf:∀ s∈l.head?,c<=s.xHi) :
  c<=(stF l c top).2∧(stF l c top).2<=top∧∀ x,c<=x->x<=(stF l c top).2->(hv l x↔(stF l c top).1=true):=by
 cases l with
 | nil=>exact ⟨hc,Int.le_refl _,fun x _ _=>by simp [stF,yx]⟩
 | cons s l =>
  have h0:=hb s (by simp);have h1:=h.1 s (by simp);have h2:=hf s (by simp);unfold stF;simp only;split
  ·refine ⟨by simp only;omega,by simp only;omega,fun x q1 q2=>?_⟩;simp only at q2;simp only [Bool.false_eq_true,iff_false];intro hh;have:=zez h hh;omega
  refine ⟨h2,h0,fun x q1 q2=>?_⟩;simp only at q2;simp only [iff_true];exact (ut _ _ _).2 (.inl ⟨by omega,q2⟩)
theorem zfn:∀ {a:List zk} (i:Nat),NF a->NF (a.drop i):=fun {a} i h=>⟨fun s hs=>h.1 s (List.mem_of_mem_drop hs),h.2.drop⟩
theorem ziJ {a:List zk} {i:Nat} {c:Int} (h:∀ q:i<a.length,c<=a[i].xHi):∀ s∈(a.drop i).head?,c<=s.xHi:=by
 intro s hs;rw [List.head?_drop] at hs;obtain ⟨hlt,e⟩:=List.getElem?_eq_some_iff.1 hs;rw [← e];exact h hlt
theorem zea (keep:Bool->Bool->Bool) {a b:List zk} {top:Int} (ha:St a top) (hb:St b top) (ht0:-2<=top) (ht:top<=65535) {O:List zk->Prop}
  (hO:∀ r,St r top->(∀ x,0<=x->x<=top->(hv r x↔keep (decide (hv a x)) (decide (hv b x))=true))->O r)
  (K:Bool->Bool->(Bool->Prop)->Prop) (hK:∀ p q H,H (keep p q)->K p q H)
  (F:(List zk×Int×Int×Int->Prop)->List zk×Int×Int×Int->Prop)
  (hF:∀ nx xs8 t11 t12 t13,(ifW (decide (t13<=top)) (jg (fun (nx16:Int->Prop) (t15:Int)=>jnW (fun (t79:Bool)=>ifW t79 (je t15 1 (fun t81=>nx16 t81)) (jg (fun (nx83:Int->Prop) (t82:Int)=>jnW (fun (t146:Bool)=>ifW t146 (je t82 1 (fun t148=>nx83 t148)) (Xg a t15 (a.length:Int) (fun xs150=>u7 xs150 t13 top (fun (r153,r154)=>Xg b t82 (b.length:Int) (fun xs156=>u7 xs156 t13 top (fun (r159,r160)=>jnW (fun (xs296:(List zk))=>je (min r154 r160) 1 (fun t300=>nx (xs296,t15,t82,t300))) (fun k299=>K r153 r159 (fun r161=>ifW r161 (jnW (fun (t226:Bool)=>ifW t226 (Y6 (xs8.length:Int) 1 (fun t228=>zE xs8 t228 (fun e229=>k299 (xs8.set (t228).toNat (zk.mk e229.xLo (min r154 r160)))))) (jQ xs8 ([(zk.mk t13 (min r154 r160))]) (fun _=>k299 (xs8++([(zk.mk t13 (min r154 r160))]))))) (fun k227=>ifW (decide (0<(xs8.length:Int))) (Y6 (xs8.length:Int) 1 (fun t162=>zE xs8 t162 (fun e163=>je e163.xHi 1 (fun t165=>k227 (decide (t165=t13)))))) (k227 false))) (k299 xs8))))))))) (fun k147=>ifW (decide (t82<(b.length:Int))) (zE b t82 (fun e84=>k147 (decide (e84.xHi<t13)))) (k147 false))) t12)) (fun k80=>ifW (decide (t15<(a.length:Int))) (zE a t15 (fun e17=>k80 (decide (e17.xHi<t13)))) (k80 false))) t11) (O xs8))->F nx (xs8,t11,t12,t13)) :
  jg F ([],0,0,0):=by
 have la:=zbj ha ht0;have lb:=zbj hb ht0;refine uV (fun (s:List zk×Int×Int×Int)=>∃ i j:Nat,s.2.1=i∧s.2.2.1=j∧i<=a.length∧j<=b.length∧0<=s.2.2.2∧(top<s.2.2.2->s.2.2.2=top+1∨s.2.2.2=0)∧(∀ u∈a.take i,u.xHi<s.2.2.2)∧(∀ u∈b.take j,u.xHi<s.2.2.2)∧St s.1 top∧(∀ u∈s.1,u.xHi<s.2.2.2)∧(∀ x,0<=x->x<s.2.2.2->(hv s.1 x↔keep (decide (hv a x)) (decide (hv b x))=true)))
  (fun s=>(top+1 - s.2.2.2).toNat) ?_ ⟨0,0,rfl,rfl,Nat.zero_le _,Nat.zero_le _,Int.le_refl _,fun _=>.inr rfl,by simp,by simp,zqL _,by simp,fun x h1 h2=>by simp only at h2;omega⟩
 rintro ⟨out,_,_,c⟩ next ⟨i,j,rfl,rfl,hi,hj,hc0,hc1,hai,hbj,ho,hoc,hk⟩ hn;simp only at hc0 hc1 hai hbj ho hoc hk;have lo:=zbj ho ht0;refine hF _ _ _ _ _ (zi (fun hc=>?_) (fun hc=>?_));rotate_left 1
 ·have hc':top<c:=by simpa using hc
  refine hO out ho (fun x h1 h2=>hk x h1 (by omega))
 have hc':c<=top:=by simpa using hc
 refine zox a c (by omega) hi hai _ (fun i' hi' hai' hai2=>?_) _ (fun _ _ h=>h);refine zox b c (by omega) hj hbj _ (fun j' hj' hbj' hbj2=>?_) _ (fun _ _ h=>h);have mema:∀ s∈a.drop i',0<=s.xLo∧s.xHi<=top:=fun s hs=>ha.2 s (List.mem_of_mem_drop hs)
 have memb:∀ s∈b.drop j',0<=s.xLo∧s.xHi<=top:=fun s hs=>hb.2 s (List.mem_of_mem_drop hs)
 refine ⟨by omega,by omega,by omega,?_⟩;rw [show (a.take (a.length:Int).toNat).drop (i':Int).toNat=a.drop i' by simp];refine zi2 (fun s hs=>⟨(mema s hs).1,by have:=(mema s hs).2;omega⟩) (zfn _ ha.1) ?_;obtain ⟨a1,a2,a3⟩:=zkB (zfn i' ha.1) (fun s hs=>(mema s hs).2) hc' (ziJ hai2);generalize stF (a.drop i') c top=p at a1 a2 a3;obtain ⟨inA,endA⟩:=p;simp only at a1 a2 a3 ⊢;refine ⟨by omega,by omega,by omega,?_⟩;rw [show (b.take (b.length:Int).toNat).drop (j':Int).toNat=b.drop j' by simp];refine zi2 (fun s hs=>⟨(memb s hs).1,by have:=(memb s hs).2;omega⟩) (zfn _ hb.1) ?_;obtain ⟨b1,b2,b3⟩:=zkB (zfn j' hb.1) (fun s hs=>(memb s hs).2) hc' (ziJ hbj2);generalize stF (b.drop j') c top=p at b1 b2 b3;obtain ⟨inB,endB⟩:=p;simp only at b1 b2 b3 ⊢;have hke:∀ x,c<=x->x<=min endA endB->(keep (decide (hv a x)) (decide (hv b x))=keep inA inB):=fun x q1 q2=>by
  have e1:decide (hv a x)=inA:=by
   have:=a3 x q1 (by omega);rw [← zl5 hai' q1] at this;cases inA <;> simpa using this
  have e2:decide (hv b x)=inB:=by
   have:=b3 x q1 (by omega);rw [← zl5 hbj' q1] at this;cases inB <;> simpa using this
  rw [e1,e2]
 unfold jnW;generalize hm:min endA endB=m at hke ⊢;have m1:c<=m:=by omega
 have m2:m<=top:=by omega
 have fin:∀ out',St out' top->(∀ u∈out',u.xHi<=m)->(∀ x,0<=x->x<=m->(hv out' x↔keep (decide (hv a x)) (decide (hv b x))=true))->je m 1 (fun t300=>next (out',(i':Int),(j':Int),t300)):=fun out' h1 h2 h3 =>
  zy (by omega) (by omega) (hn _ ⟨i',j',rfl,rfl,hi',hj',by simp only;omega,fun _=>.inl (by simp only at *;omega),fun u hu=>by have:=hai' u hu;simp only;omega,fun u hu=>by have:=hbj' u hu;simp only;omega,h1,fun u hu=>by have:=h2 u hu;simp only;omega,fun x q1 q2=>h3 x q1 (by simp only at q2;omega)⟩ (by simp only;omega))
 refine hK _ _ _ (zi (fun hkt=>?_) (fun hkf=>?_))
 ·
  have app:(∀ u∈out,u.xHi+1<c)->jQ out ([(zk.mk c m)]) (fun _=>je m 1 (fun t300=>next (out++[zk.mk c m],(i':Int),(j':Int),t300))):=fun hg =>
   jk (by simp;omega) (fin _ ⟨zbN ho.1 (za5 (by simpa using m1)) (fun s hs t ht=>by simp at ht;subst ht;exact hg s hs),fun s hs=>by
    rcases List.mem_append.1 hs with q | q
    ·exact ho.2 s q
    ·simp at q;subst q;exact ⟨hc0,m2⟩⟩ (fun u hu=>by
    rcases List.mem_append.1 hu with q | q
    ·have:=hoc u q;omega
    ·simp at q;subst q;exact Int.le_refl _) (fun x q1 q2=>by
    rw [zbF,ut];simp only [yx,or_false];by_cases hx:x<c
    ·rw [← hk x q1 hx];constructor
     ·rintro (q | q)
      ·exact q
      ·omega
     ·exact .inl
    ·rw [hke x (by omega) q2,hkt];simp only [iff_true];exact .inr ⟨by omega,q2⟩))
  refine zi (fun hp=>?_) (fun hp=>?_)
  ·
   have hpos:0<out.length:=by simpa using hp
   refine yK (by omega) (by omega) (zq (out.length - 1) (by omega) (by omega) ?_);have hmem:out[out.length - 1]∈out:=List.getElem_mem _;have hlast:=hoc _ hmem;have hl0:=ho.2 _ hmem;have hl1:=ho.1.1 _ hmem;refine zy (by omega) (by omega) (zi (fun hq=>?_) (fun hq=>?_))
   ·have hq':(out[out.length - 1]).xHi+1=c:=by simpa using hq
    refine yK (by omega) (by omega) (zq (out.length - 1) (by omega) (by omega) ?_);have hsplit:out=out.dropLast++[out[out.length - 1]]:=by
     have:=List.dropLast_concat_getLast (l:=out) (by intro h;rw [h] at hpos;simp at hpos);rw [List.getLast_eq_getElem] at this;exact this.symm
    generalize out[out.length - 1]=z at *
    have hset:out.set ((out.length:Int) - 1).toNat (zk.mk z.xLo m)=out.dropLast++[zk.mk z.xLo m]:=by
     have e1:((out.length:Int) - 1).toNat=out.dropLast.length:=by rw [List.length_dropLast];omega
     rw [e1]
     conv=>lhs;rw [hsplit]
     rw [List.dropLast_concat,List.set_append_right _ _ (Nat.le_refl _)];simp
    rw [hset];have hd:NF (out.dropLast++[z]):=by rw [← hsplit];exact ho.1
    have hdp:=List.pairwise_append.1 hd.2;have hdm:∀ u∈out.dropLast,u∈out:=fun u hu=>by rw [hsplit];exact List.mem_append_left _ hu
    refine fin _ ⟨zbN ⟨fun s hs=>ho.1.1 s (hdm s hs),hdp.1⟩ (za5 (by simp only;omega)) (fun s hs t ht=>by simp at ht;subst ht;exact hdp.2.2 s hs z (by simp)),fun s hs=>?_⟩ (fun u hu=>?_) (fun x q1 q2=>?_)
    ·rcases List.mem_append.1 hs with q | q
     ·exact ho.2 s (hdm s q)
     simp at q;subst q;exact ⟨hl0.1,m2⟩
    ·rcases List.mem_append.1 hu with q | q
     ·have:=hoc u (hdm u q);omega
     simp at q;subst q;exact Int.le_refl _
    have hold:hv out x↔hv out.dropLast x∨(z.xLo<=x∧x<=z.xHi):=by
     conv=>lhs;rw [hsplit]
     rw [zbF,ut];simp [yx]
    rw [zbF,ut];simp only [yx,or_false];by_cases hx:x<c
    ·rw [← hk x q1 hx,hold];constructor
     ·rintro (q | q)
      ·exact .inl q
      exact .inr ⟨q.1,by omega⟩
     rintro (q | q)
     ·exact .inl q
     exact .inr ⟨q.1,by omega⟩
    rw [hke x (by omega) q2,hkt];simp only [iff_true];exact .inr ⟨by omega,q2⟩
   have hq':(out[out.length - 1]).xHi+1≠c:=by simpa using hq
   refine app (fun u hu=>?_);obtain ⟨t,ht,e⟩:=List.getElem_of_mem hu;by_cases e0:t=out.length - 1
   ·subst e0;rw [← e];omega
   have hpw:=List.pairwise_iff_getElem.1 ho.1.2 t (out.length - 1) ht (by omega) (by omega);rw [e] at hpw;omega
  have:out=[]:=by
   have:¬ 0<out.length:=by simpa using hp
   exact List.eq_nil_of_length_eq_zero (by omega)
  subst this;exact jT (app (by simp))
 refine fin out ho (fun u hu=>by have:=hoc u hu;omega) (fun x q1 q2=>?_);by_cases hx:x<c
 ·exact hk x q1 hx
 rw [hke x (by omega) q2,hkf];simp only [Bool.false_eq_true,iff_false];rintro ⟨u,hu,r1,r2⟩;have:=hoc u hu;omega
end
section
open Go Go.Proofs
theorem zn4 {p q:Bool} {O:Bool->Prop} (h:O (p && q)):UK p q O:=by
 unfold UK jnW;cases p <;> simpa using h
theorem ziq {p q:Bool} {O:Bool->Prop} (h:O (p && !q)):Xk p q O:=by
 unfold Xk jnW;cases p <;> simpa using h
theorem zlm {p q:Bool} {O:Bool->Prop} (h:O (p || q)):YB p q O:=by
 unfold YB jnW;cases p <;> simpa using h
theorem zj0 {a b:List zk} {top:Int} (ha:St a top) (hb:St b top) (h0:-2<=top) (ht:top<=65535) {O:List zk->Prop} (h:O (ji a b)):yd a b top O:=by
 unfold yd;refine zea (fun p q=>p && q) ha hb h0 ht (O:=O) (fun r hr hk=>?_) (fun p q H=>UK p q H) (fun p q H=>zn4) _ (fun _ _ _ _ _ h=>h);rw [zo5 hr (YD ha hb.1) (fun x=>?_)]
 ·exact h
 rw [Uh];by_cases hx:0<=x∧x<=top
 ·rw [hk x hx.1 hx.2];simp
 exact ⟨fun e=>absurd (XX hr e) hx,fun e=>absurd (XX ha e.1) hx⟩
theorem UM {a b:List zk} {top:Int} (ha:St a top) (hb:St b top) (h0:-2<=top) (ht:top<=65535) {O:List zk->Prop} (h:O (ji a (Xh b top))):xu a b top O:=by
 unfold xu;refine zea (fun p q=>p && !q) ha hb h0 ht (O:=O) (fun r hr hk=>?_) (fun p q H=>Xk p q H) (fun p q H=>ziq) _ (fun _ _ _ _ _ h=>h);rw [zo5 hr (YD ha (Vj hb).1) (fun x=>?_)]
 ·exact h
 rw [Uh,zfW hb];by_cases hx:0<=x∧x<=top
 ·rw [hk x hx.1 hx.2];simp [hx.1,hx.2]
 exact ⟨fun e=>absurd (XX hr e) hx,fun e=>absurd (XX ha e.1) hx⟩
theorem zho {a b:List zk} {top:Int} (ha:St a top) (hb:St b top) (h0:-2<=top) (ht:top<=65535) {O:List zk->Prop} (h:O (Uf a b)):uS a b top O:=by
 unfold uS;refine zea (fun p q=>p || q) ha hb h0 ht (O:=O) (fun r hr hk=>?_) (fun p q H=>YB p q H) (fun p q H=>zlm) _ (fun _ _ _ _ _ h=>h);rw [zo5 hr (zfP ha hb) (fun x=>?_)]
 ·exact h
 rw [zdq ha hb];by_cases hx:0<=x∧x<=top
 ·rw [hk x hx.1 hx.2];simp
 refine ⟨fun e=>absurd (XX hr e) hx,fun e=>?_⟩;rcases e with e | e
 ·exact absurd (XX ha e) hx
 exact absurd (XX hb e) hx
def lim (l:List zk):List zk×Bool:=if 40<l.length then ([],false) else (l,true)
theorem zck {l:List zk} {O:List zk×Bool->Prop} (h:O (lim l)):Zy l O:=by
 unfold Zy;unfold lim at h;refine zi (fun hc=>?_) (fun hc=>?_)
 ·rw [if_pos (by have:=of_decide_eq_true hc;omega)] at h;exact h
 rw [if_neg (by have:=of_decide_eq_false hc;omega)] at h;exact h
theorem Vk {a b:List zk} {top:Int} (ha:St a top) (hb:St b top) (h0:-2<=top) (ht:top<=65535) {O:List zk×Bool->Prop} (h:O (lim (ji a b))):xa a b top O:=by
 unfold xa;exact zj0 ha hb h0 ht (zck h)
theorem zkP {a b:List zk} {top:Int} (ha:St a top) (hb:St b top) (h0:-2<=top) (ht:top<=65535) {O:List zk×Bool->Prop} (h:O (lim (ji a (Xh b top)))):uK a b top O:=by
 unfold uK;exact UM ha hb h0 ht (zck h)
theorem zjY {a b:List zk} {top:Int} (ha:St a top) (hb:St b top) (h0:-2<=top) (ht:top<=65535) {O:List zk×Bool->Prop} (h:O (lim (Uf a b))):XJ a b top O:=by
 unfold XJ;exact zho ha hb h0 ht (zck h)
theorem zmK {x:zk}:∀ (b:List zk),(b.flatMap (U8 x)).length<=b.length
 | []=>by simp
 | y :: b=>by
  have:=zmK (x:=x) b
  have h1:(U8 x y).length<=1:=by unfold U8;split <;> simp
  simp only [List.flatMap_cons,List.length_append,List.length_cons]
  omega
theorem X7 {a b:List zk} {ta tb:Int} (ha:St a ta) (hb:St b tb) (h0:0<=ta) (ht:ta<=65535) (h1:0<=tb) (hu:tb<=65535) {O:List zk->Prop} (h:O (ji a b)):yF a b O:=by
 have la:=zbj ha (by omega);have lb:=zbj hb (by omega);have short:∀ k,2 * ((ji (a.take k) b).length:Int)<=ta+2:=fun k =>
  zbj (YD ⟨⟨fun s hs=>ha.1.1 s (List.mem_of_mem_take hs),ha.1.2.take⟩,fun s hs=>ha.2 s (List.mem_of_mem_take hs)⟩ hb.1) (by omega)
 unfold yF;refine zQ a.length (fun s=>s.2) (fun k s=>s.2=(k:Int)∧k<=a.length∧s.1=ji (a.take k) b) (fun k s h=>h.1) (fun k s h=>h.2.1) ?_ ⟨rfl,Nat.zero_le _,by simp [ji]⟩;rintro k ⟨xs,t⟩ next ⟨rfl,hk,hx⟩ hn;simp only at hx;subst hx;refine zi (fun hc=>?_) (fun hc=>?_)
 ·have hlt:k<a.length:=by simpa using hc
  have hmem:a[k]∈a:=List.getElem_mem hlt;have r1:=ha.2 _ hmem;refine zQ b.length (fun s=>s.2) (fun j s=>s.2=(j:Int)∧j<=b.length∧s.1=ji (a.take k) b++(b.take j).flatMap (U8 a[k])) (fun k s h=>h.1) (fun k s h=>h.2.1) ?_ ⟨rfl,Nat.zero_le _,by simp⟩;rintro j ⟨ys,u⟩ next2 ⟨rfl,hj,hy⟩ hn2;simp only at hy;subst hy;refine zi (fun hd=>?_) (fun hd=>?_)
  ·have hlt2:j<b.length:=by simpa using hd
   have hstep:(b.take (j+1)).flatMap (U8 a[k])=(b.take j).flatMap (U8 a[k])++U8 a[k] b[j]:=by
    rw [List.take_succ_eq_append_getElem hlt2,List.flatMap_append];simp
   have hlen:=zmK (x:=a[k]) (b.take j);have:=short k;simp only [List.length_take] at hlen;unfold jnW;refine zq k rfl hlt (zq j rfl hlt2 (zq k rfl hlt (zq j rfl hlt2 (zi (fun he=>?_) (fun he=>?_)))))
   ·refine jk (by simp only [List.length_append,List.length_singleton];omega) (zy (by omega) (by omega) (hn2 hlt2 _ ⟨by simp,by omega,?_⟩));rw [hstep];unfold U8 at *
    rw [if_pos (by simpa using he)];simp
   refine zy (by omega) (by omega) (hn2 hlt2 _ ⟨by simp,by omega,?_⟩);rw [hstep];have:U8 a[k] b[j]=[]:=by unfold U8;rw [if_neg (by simpa using he)]
   rw [this];simp
  have hge:b.length<=j:=by simpa using hd
  have e:j=b.length:=by omega
  subst e;refine zy (by omega) (by omega) (hn hlt _ ⟨by simp,by omega,?_⟩);have e2:ji (a.take k++[a[k]]) b=ji (a.take k) b++b.flatMap (U8 a[k]):=by simp only [ji,List.flatMap_append,List.flatMap_cons,List.flatMap_nil,List.append_nil]
  show ji (a.take k) b++(b.take b.length).flatMap (U8 a[k])=_;rw [List.take_succ_eq_append_getElem hlt,e2,List.take_length]
 have hge:a.length<=k:=by simpa using hc
 rw [List.take_of_length_le hge];exact h
theorem zb4 {a:List zk} {top:Int} (ha:St a top) (h0:0<=top) (ht:top<=65535) {O:List zk->Prop} (h:O (Xh a top)):Um a top O:=by
 have la:=zbj ha (by omega);have lo:=zbj (Vj ha) (by omega);unfold Um;refine zQ a.length (fun s=>s.2.2) (fun k s=>s.2.2=(k:Int)∧k<=a.length∧s.1++V8 (a.drop k) s.2.1 top=Xh a top∧0<=s.2.1∧s.2.1<=65536) (fun k s h=>h.1) (fun k s h=>h.2.1) ?_ ⟨rfl,Nat.zero_le _,by simp [Xh],by simp,by simp⟩;rintro k ⟨xs,c,t⟩ next ⟨rfl,hk,hx,hc0,hc1⟩ hn;simp only at hx hc0 hc1;have hlen:xs.length<=(Xh a top).length:=by rw [← hx];simp
 refine zi (fun hc=>?_) (fun hc=>?_)
 ·have hlt:k<a.length:=by simpa using hc
  have hmem:a[k]∈a:=List.getElem_mem hlt;have r1:=ha.2 _ hmem;have r2:=ha.1.1 _ hmem;rw [List.drop_eq_getElem_cons hlt] at hx;simp only [V8] at hx;unfold jnW;refine zq k rfl hlt (zi (fun he=>?_) (fun he=>?_))
  ·rw [if_pos (by simpa using he)] at hx;refine zq k rfl hlt (yK (by omega) (by omega) (jk (by simp only [List.length_singleton];omega) (zq k rfl hlt (zy (by omega) (by omega) (zy (by omega) (by omega) (hn hlt _ ⟨by simp,by omega,?_,by simp only;omega,by simp only;omega⟩))))));simpa [List.append_assoc] using hx
  rw [if_neg (by simpa using he)] at hx;refine zq k rfl hlt (zy (by omega) (by omega) (zy (by omega) (by omega) (hn hlt _ ⟨by simp,by omega,?_,by simp only;omega,by simp only;omega⟩)));simpa using hx
 have hge:a.length<=k:=by simpa using hc
 rw [List.drop_eq_nil_of_le hge] at hx;simp only [V8] at hx;unfold jnW;refine zi (fun he=>?_) (fun he=>?_)
 ·rw [if_pos (by simpa using he)] at hx;refine jk (by simp only [List.length_singleton];omega) ?_;rw [hx];exact h
 rw [if_neg (by simpa using he),List.append_nil] at hx;rw [hx];exact h
def Sm (s:zk):Prop:=-1000000000<=s.xLo∧s.xLo<=1000000000∧-1000000000<=s.xHi∧s.xHi<=1000000000
theorem zpj {l:List zk} {s:zk} (hl:l.length<=1000000000) (hb:∀ x∈l,Sm x) (hs:Sm s) {O:List zk->Prop} (h:O (ze8 l s)):zaJ l s O:=by
 unfold zaJ;refine zQ l.length (fun s=>s.2.2.2.2) (fun k (st:Int×Int×List zk×Bool×Int)=>st.2.2.2.2=(k:Int)∧k<=l.length∧zdi l s [] false=zdi (l.drop k) (zk.mk st.1 st.2.1) st.2.2.1 st.2.2.2.1∧st.2.2.1.length<=2 * k∧Sm (zk.mk st.1 st.2.1)) (fun k s h=>h.1) (fun k s h=>h.2.1) ?_ ⟨rfl,Nat.zero_le _,by simp,by simp,hs⟩;rintro k ⟨lo,hi,xs,pl,t⟩ next ⟨rfl,hk,hx,hlen,hsm⟩ hn;simp only at hx hlen hsm;obtain ⟨m1,m2,m3,m4⟩:=hsm;simp only at m1 m2 m3 m4;refine zi (fun hc=>?_) (fun hc=>?_)
 ·have hlt:k<l.length:=by simpa using hc
  obtain ⟨n1,n2,n3,n4⟩:=hb _ (List.getElem_mem hlt);rw [List.drop_eq_getElem_cons hlt] at hx;simp only [zdi] at hx;unfold jnW;refine zq k rfl hlt (zy (by omega) (by omega) (zi (fun he=>?_) (fun he=>?_)))
  ·rw [if_pos (by simpa using he)] at hx;exact jk (by simp only [List.length_singleton];omega) (zy (by omega) (by omega) (hn hlt _ ⟨by simp,by omega,hx,by simp only [List.length_append,List.length_singleton];omega,m1,m2,m3,m4⟩))
  rw [if_neg (by simpa using he)] at hx;refine zy (by omega) (by omega) (zi (fun hf=>?_) (fun hf=>?_))
  ·rw [if_pos (by simpa using hf)] at hx;cases pl with
   | false =>
    refine jz (jk (by simp only [List.length_singleton];omega) (jk (by simp only [List.length_append,List.length_singleton];omega) (zy (by omega) (by omega) (hn hlt _ ⟨by simp,by omega,hx,by simp only [List.length_append,List.length_singleton];omega,m1,m2,m3,m4⟩))))
   | true =>
    refine jT (jk (by simp only [List.length_singleton];omega) (zy (by omega) (by omega) (hn hlt _ ⟨by simp,by omega,hx,by simp only [List.length_append,List.length_singleton];omega,m1,m2,m3,m4⟩)))
  rw [if_neg (by simpa using hf)] at hx;exact zy (by omega) (by omega) (hn hlt _ ⟨by simp,by omega,hx,by simp only;omega,by simp only;omega,by simp only;omega,by simp only;omega,by simp only;omega⟩)
 have hge:l.length<=k:=by simpa using hc
 rw [List.drop_eq_nil_of_le hge] at hx;simp only [zdi] at hx;unfold ze8 at h;rw [hx] at h;unfold jnW;cases pl with
 | false=>exact jz (jk (by simp only [List.length_singleton];omega) (by simpa using h))
 | true=>exact jT (by simpa using h)
end
section
open Go.Lib (decDigits)
def B (l:List UInt8):ByteArray:=ByteArray.mk l.toArray
theorem zj7 (l:List UInt8):(B l).data.toList=l:=by simp [B]
theorem zsn (s:ByteArray):B s.data.toList=s:=by cases s;simp [B]
theorem zjb {l m:List UInt8}:B l=B m↔l=m:=⟨fun h=>by have:=congrArg (fun s=>s.data.toList) h;simpa [B] using this,fun h=>by rw [h]⟩
theorem zrX (l m:List UInt8):B l++B m=B (l++m):=by
 apply ByteArray.ext;simp [B,ByteArray.data_append]
theorem Xr (l:List UInt8):(B l).size=l.length:=by simp [B,ByteArray.size]
theorem zsw (l:List UInt8) (a b:Nat):(B l).extract a b=B ((l.take b).drop a):=by
 apply ByteArray.ext;simp [B,ByteArray.data_extract,List.extract_eq_take_drop];exact List.drop_take.symm
theorem zbs (l m:List UInt8):decide (B l=B m)=decide (l=m):=by simp [zjb]
theorem yq {l m:List UInt8} {O:ByteArray->Prop} (h:l.length+m.length<=9223372036854775807) (hk:O (B (l++m))):uY (B l) (B m) O:=⟨by rw [Xr,Xr];exact h,by rw [zrX];exact hk⟩
theorem za0 {l:List UInt8} {lo hi:Int} {O:ByteArray->Prop} (a b:Nat) (ha:lo=a) (hb:hi=b) (h1:a<=b) (h2:b<=l.length) (hk:O (B ((l.take b).drop a))):zdj (B l) lo hi O:=by
 subst ha hb;exact ⟨by omega,by omega,by rw [Xr];omega,by rw [Int.toNat_natCast,Int.toNat_natCast,zsw];exact hk⟩
def dg (c:UInt8):Bool:=decide (48<=c.toNat) && decide (c.toNat<=57)
def val (l:List UInt8):Nat:=l.foldl (fun n c=>10 * n+(c.toNat - 48)) 0
theorem zhh (l:List UInt8) (c:UInt8):val (l++[c])=10 * val l+(c.toNat - 48):=by simp [val]
theorem zaV {u:Nat} (h:u<10):decDigits u=[UInt8.ofNat (48+u)]:=by rw [decDigits,dif_pos h]
theorem zfm {u:Nat} (h:¬ u<10):decDigits u=decDigits (u / 10)++[UInt8.ofNat (48+u % 10)]:=by rw [decDigits,dif_neg h]
theorem zqq {n:Nat} (h:n<10):dg (UInt8.ofNat (48+n))=true:=by
 have:(UInt8.ofNat (48+n)).toNat=48+n:=by simp;omega
 simp [dg,this];omega
theorem zqx {n:Nat} (h:n<10):(UInt8.ofNat (48+n)).toNat - 48=n:=by
 have:(UInt8.ofNat (48+n)).toNat=48+n:=by simp;omega
 omega
theorem zhB (u:Nat):∀ c∈decDigits u,dg c=true:=by
 induction u using Nat.strongRecOn with
 | _ u ih =>
  by_cases h:u<10
  ·rw [zaV h];intro c hc;rw [List.mem_singleton] at hc;subst hc;exact zqq h
  rw [zfm h];intro c hc;rcases List.mem_append.1 hc with hc | hc
  ·exact ih (u / 10) (by omega) c hc
  rw [List.mem_singleton] at hc;subst hc;exact zqq (by omega)
theorem zbD (u:Nat):val (decDigits u)=u:=by
 induction u using Nat.strongRecOn with
 | _ u ih =>
  by_cases h:u<10
  ·rw [zaV h];simp only [val,List.foldl];rw [zqx h];omega
  rw [zfm h,zhh,ih (u / 10) (by omega),zqx (by omega)];omega
theorem zjm {a b:Nat} (h:decDigits a=decDigits b):a=b:=by rw [← zbD a,← zbD b,h]
theorem zby:∀ (k u:Nat),u<10 ^ (k+1)->(decDigits u).length<=k+1
 | 0,u,h=>by rw [zaV (by simpa using h)];simp
 | k+1,u,h=>by
  by_cases h':u<10
  ·rw [zaV h'];simp
  ·rw [zfm h'];have:=zby k (u / 10) (by rw [Nat.pow_succ] at h;omega);simp;omega
theorem zfr (u:Nat):decDigits u≠[]:=by
 by_cases h:u<10
 ·rw [zaV h];simp
 rw [zfm h];simp
theorem zbK {u:Nat} {c:UInt8} (h:dg c=false):c ∉ decDigits u:=fun hc=>by rw [zhB u c hc] at h;cases h
theorem ziG:∀ {a a' r r':List UInt8},(∀ c∈a,dg c=true)->(∀ c∈a',dg c=true)->(∀ c l,r=c :: l->dg c=false)->(∀ c l,r'=c :: l->dg c=false)->a++r=a'++r'->a=a'∧r=r'
 | [],[],r,r',_,_,_,_,h=>⟨rfl,h⟩
 | [],x :: a',r,r',_,h2,h3,_,h=>by
  have:=h3 x (a'++r') (by simpa using h)
  rw [h2 x (by simp)] at this;cases this
 | x :: a,[],r,r',h1,_,_,h4,h=>by
  have:=h4 x (a++r) (by simpa using h.symm)
  rw [h1 x (by simp)] at this;cases this
 | x :: a,y :: a',r,r',h1,h2,h3,h4,h=>by
  simp only [List.cons_append,List.cons.injEq] at h
  obtain ⟨rfl,h⟩:=h
  obtain ⟨rfl,rfl⟩:=ziG (fun c hc=>h1 c (by simp [hc])) (fun c hc=>h2 c (by simp [hc])) h3 h4 h
  exact ⟨rfl,rfl⟩
theorem zm3 {n:Int} (h:0<=n):zo1 n=B (decDigits n.toNat):=by
 unfold zo1 Lib.itoa;rw [if_neg (by omega)];rfl
theorem zhG {n:Int} {O:ByteArray->Prop} (h0:0<=n) (h1:n<=9223372036854775807) (h:O (B (decDigits n.toNat))):XK n O:=⟨⟨by omega,h1⟩,by rw [zm3 h0];exact h⟩
theorem zme:∀ (l:List UInt8) (n:Nat),(∀ c∈l,dg c=true)->l.foldl (fun n c=>10 * n+(c.toNat - 48)) n+1<=(n+1) * 10 ^ l.length
 | [],n,_=>by simp
 | c :: l,n,h=>by
  have h1:=zme l (10 * n+(c.toNat - 48)) (fun x hx=>h x (by simp [hx]))
  have h2:=h c (by simp)
  simp [dg] at h2
  simp only [List.foldl,List.length_cons,Nat.pow_succ]
  refine Nat.le_trans h1 ?_
  rw [show (n+1) * (10 ^ l.length * 10)=((n+1) * 10) * 10 ^ l.length by rw [Nat.mul_assoc,Nat.mul_comm 10]]
  exact Nat.mul_le_mul_right _ (by omega)
theorem zqH (l:List UInt8) (h:∀ c∈l,dg c=true):val l<10 ^ l.length:=by
 have:=zme l 0 h;simp at this;unfold val;omega
theorem zoy {l:List UInt8} (h:∀ c∈l,dg c=true) (hl:l.length<=6):val l<=999999:=by
 have h1:=zqH l h;have h2:10 ^ l.length<=10 ^ 6:=Nat.pow_le_pow_right (by decide) hl;have e:(10:Nat) ^ 6=1000000:=by decide
 omega
def run:Nat->List UInt8->List UInt8
 | 0,_=>[]
 | _,[]=>[]
 | k+1,c :: l=>if dg c then c :: run k l else []
theorem zlC:∀ k l,∀ c∈run k l,dg c=true
 | 0,l=>by simp [run]
 | k+1,[]=>by simp [run]
 | k+1,c :: l=>by
  simp only [run];split
  ·rename_i h;intro x hx;rcases List.mem_cons.1 hx with rfl | hx
   ·exact h
   ·exact zlC k l x hx
  ·simp
theorem zfi:∀ k l,(run k l).length<=k∧(run k l).length<=l.length
 | 0,l=>by simp [run]
 | k+1,[]=>by simp [run]
 | k+1,c :: l=>by
  simp only [run];split
  ·have:=zfi k l;simp;omega
  ·simp
theorem zl0:∀ (k:Nat) (a r:List UInt8),(∀ c∈a,dg c=true)->a.length<=k->(∀ c l,r=c :: l->dg c=false)->run k (a++r)=a
 | 0,[],r,_,_,h=>by simp [run]
 | 0,x :: a,r,_,hl,_=>by simp at hl
 | k+1,[],[],_,_,_=>by simp [run]
 | k+1,[],c :: l,_,_,h=>by simp [run,h c l rfl]
 | k+1,x :: a,r,h1,hl,h=>by
  simp only [List.cons_append,run]
  rw [if_pos (h1 x (by simp)),zl0 k a r (fun c hc=>h1 c (by simp [hc])) (by simpa using hl) h]
theorem zmA:∀ (k:Nat) (l:List UInt8),(∃ r,l=run k l++r∧((run k l).length=k∨∀ c m,r=c :: m->dg c=false))
 | 0,l=>⟨l,by simp [run],.inl (by simp [run])⟩
 | k+1,[]=>⟨[],by simp [run],.inr (by simp)⟩
 | k+1,c :: l=>by
  obtain ⟨r,h1,h2⟩:=zmA k l
  simp only [run];split
  ·exact ⟨r,by simpa using h1,h2.elim (fun h2=>.inl (by simpa using h2)) .inr⟩
  ·rename_i h
   exact ⟨c :: l,rfl,.inr (fun d m e=>by cases e;simpa using h)⟩
theorem zlv (p r:List UInt8):zhy (B (p++r)) (B p)=true:=by simp [zhy,Lib.hasPrefix,zj7]
theorem zlQ (s p:List UInt8):zhy (B s) (B p)=true↔∃ r,s=p++r:=by
 simp only [zhy,Lib.hasPrefix,zj7,List.isPrefixOf_iff_prefix];exact ⟨fun ⟨r,h⟩=>⟨r,h.symm⟩,fun ⟨r,h⟩=>⟨r,h.symm⟩⟩
end
section
theorem znI (e:UInt8):(0:Int)<=(e.toNat:Int)∧(e.toNat:Int)<=255:=by
 have:=e.toNat_lt;omega
theorem zpn {x y:Int} {O:Int->Prop} (h1:0<=x) (h2:x<4611686018427387904) (h3:0<=y) (h4:y<4611686018427387904) (h:∀ z,0<=z->z<4611686018427387904->O z):zrm x y O:=by
 refine ⟨h1,h2,h3,h4,h _ (by omega) ?_⟩;have:x.toNat ^^^ y.toNat<2 ^ 62:=Nat.xor_lt_two_pow (by omega) (by omega);have e:(2:Nat) ^ 62=4611686018427387904:=by decide
 rw [e] at this;omega
theorem VS {x y:Int} {O:Int->Prop} (h1:0<=x) (h2:x<=9223372036854775807) (h3:0<y) (h:∀ z,0<=z->z<y->O z):zcD x y O :=
 zjQ h1 h2 h3 (h _ (Int.emod_nonneg _ (by omega)) (Int.emod_lt_of_pos _ h3))
theorem zj4 {x y:Int} {O:Int->Prop} (h1:0<=x) (h2:x<=9223372036854775807) (h3:0<y) (h:∀ z,0<=z->z<=x->O z):zlU x y O :=
 zmz h1 h2 h3 (h _ (Int.ediv_nonneg h1 (by omega)) (Int.ediv_le_self _ h1))
theorem Zp {V:Type} {xs:List V} {i:Int} {O:V->Prop} (h1:0<=i) (h2:i<xs.length) (h:∀ x,x∈xs->O x):zE xs i O:=by
 obtain ⟨n,rfl⟩:=Int.eq_ofNat_of_zero_le h1;have hn:n<xs.length:=by omega
 exact zq n rfl hn (h _ (List.getElem_mem hn))
def RdP (b:List UInt8) (p:Int):Prop:=b.length<=2000∧0<=p∧p<=1000000
theorem xO {b:List UInt8} {p n:Int} (hr:RdP b p) {O:Int×Int->Prop} (h:∀ v,0<=v->(v=0∨v<n)->O (v,p+1)):zw b p n O:=by
 obtain ⟨hb,h0,h1⟩:=hr;unfold zw jnW;have hz:O (0,p+1):=h 0 (Int.le_refl _) (.inl rfl);refine zy (by omega) (by omega) (zi (fun hc=>?_) (fun hc=>zi (fun hc2=>?_) (fun hc2=>?_)))
 ·simp only [ua];exact hz
 ·exact hz
 simp at hc hc2;have hpos:0<(b.length:Int):=by
  cases b with
  | nil=>simp at hc2
  | cons x l=>simp
 refine yK (by omega) (by omega) ?_;have ep:p+1 - 1=p:=by omega
 rw [ep];refine zi (fun hc3=>?_) (fun hc3=>?_)
 ·simp at hc3;refine Zp h0 hc3 (fun e _=>?_);have:=znI e;exact VS (by omega) (by omega) (by omega) (fun z z1 z2=>h z z1 (.inr z2))
 refine VS h0 (by omega) hpos (fun z z1 z2=>Zp z1 z2 (fun e _=>?_));have he:=znI e;refine zcg (by omega) (by omega) (zcg (by omega) (by omega) (zy (by omega) (by omega) (VS (by omega) (by omega) hpos (fun y y1 y2=>Zp y1 y2 (fun d _=>?_)))));have hd:=znI d;refine zcg (by omega) (by omega) (zy (by omega) (by omega) (zcg (by omega) (by omega) (zy (by omega) (by omega) (zj4 (by omega) (by omega) hpos (fun q q1 q2=>?_)))));refine zcg (by omega) (by omega) (zy (by omega) (by omega) (zj4 (by omega) (by omega) (by omega) (fun r r1 r2=>?_)));exact zpn (by omega) (by omega) (by omega) (by omega) (fun x x1 x2=>VS x1 (by omega) (by omega) (fun z z1 z2=>h z z1 (.inr z2)))
theorem ziE {b:List UInt8} {p n:Int} (hr:RdP b p) (hn:n<=4294967296) {O:Bool×Int->Prop} (h:∀ c p',p<=p'->p'<=p+1->O (c,p')):jH b p n O:=by
 unfold jH jnW;refine zi (fun hc=>xO hr (fun v v1 v2=>yK (by simp at hc;omega) (by simp at hc;omega) (h _ _ (by omega) (by omega)))) (fun hc=>h _ _ (by omega) (by omega))
theorem znf {c:List UInt8} {O:List UInt8×Int->Prop} (h:∀ b,b.length<=2000->O (b,0)):VJ c O:=by
 unfold VJ jnW;refine zi (fun hc=>?_) (fun hc=>?_)
 ·simp at hc;refine ⟨by omega,by omega,by omega,h _ (by simp;omega)⟩
 simp at hc;exact h _ (by omega)
theorem zpk {O:Bool->Prop} (h:O true):zaI O:=by
 unfold zaI V3;refine uV (fun s=>s=0) (fun s=>0) ?_ rfl;rintro s next rfl hn;refine zi (fun _=>zq 0 rfl (by simp) ?_) (fun hc=>by simp at hc);simp [jnW];exact h
end
section
open Go.Lib (decDigits)
theorem zkZ {n:Int} {O:UInt8->Prop} (m:Nat) (e:n=m) (h:m<=255) (hk:O (UInt8.ofNat m)):zmM n O:=by
 subst e;exact ⟨by omega,by omega,by simpa using hk⟩
def zlj (m:Nat):List UInt8:=if m<10 then [] else decDigits (m / 10)
theorem ziK {m:Nat}:decDigits m=zlj m++[UInt8.ofNat (48+m % 10)]:=by
 unfold zlj;split
 ·rename_i h;rw [zaV h,Nat.mod_eq_of_lt h];rfl
 rename_i h;exact zfm h
theorem Yf {n:Int} {O:ByteArray->Prop} (h0:0<=n) (h1:n<=1000000000000000000) (h:O (B (decDigits n.toNat))):jS n O:=by
 obtain ⟨n,rfl⟩:=Int.eq_ofNat_of_zero_le h0;rw [Int.toNat_natCast] at h;have hlen:(decDigits n).length<=20:=zby 19 n (Nat.lt_of_le_of_lt (show n<=1000000000000000000 by omega) (by decide));unfold jS;refine zjQ (by omega) (by omega) (by omega) (zy (by omega) (by omega) (zkZ (48+n % 10) (by omega) (by omega) ?_));refine uV (fun s=>∃ (m:Nat) (l:List UInt8),s=((m:Int),B l)∧m<=n∧decDigits n=zlj m++l) (fun s=>s.1.toNat) ?_ ⟨n,[UInt8.ofNat (48+n % 10)],rfl,Nat.le_refl _,ziK⟩;rintro _ next ⟨m,l,rfl,hm,he⟩ hn;have hl:l.length<=20:=by have:=congrArg List.length he;simp at this;omega
 refine zi (fun hc=>?_) (fun hc=>?_)
 ·simp at hc;refine zmz (by omega) (by omega) (by omega) (zjQ (by omega) (by omega) (by omega) (zy (by omega) (by omega) (zkZ (48+m / 10 % 10) (by omega) (by omega) ?_)));refine yq (l:=[UInt8.ofNat (48+m / 10 % 10)]) (by simp;omega) ?_;refine hn _ ⟨m / 10,_,by rw [show ((m:Int) / 10)=((m / 10:Nat):Int) by omega],by omega,?_⟩ (by simp;omega);rw [he,show zlj m=decDigits (m / 10) by unfold zlj;rw [if_neg (by omega)],ziK (m:=m / 10)];simp
 simp at hc;rw [show zlj m=[] by unfold zlj;rw [if_pos (by omega)]] at he;rw [he] at h;exact h
theorem zbh {l w:List UInt8} {a:Int} {O:Bool×Int->Prop} (n:Nat) (ea:a=n) (hn:n<=l.length) (hl:l.length<=1000000000000) (hw:w.length<=1000)
  (ht:∀ r,l.drop n=w++r->O (true,((n+w.length:Nat):Int))) (hf:(∀ r,l.drop n≠w++r)->O (false,(n:Int))):jX (B l) a (B w) O:=by
 subst ea
 first | unfold jX jnW U2 | unfold jX U2
 refine za0 n l.length rfl (by rw [Xr]) hn (Nat.le_refl _) ?_;rw [List.take_length];refine zi (fun hc=>?_) (fun hc=>?_)
 ·refine hf (fun r e=>?_);rw [e,zlv] at hc;cases hc
 obtain ⟨r,e⟩:=(zlQ (l.drop n) w).1 (by simpa using hc);rw [Xr];exact zy (by omega) (by omega) (by have:=ht r e;simpa using this)
theorem zln {c:UInt8}:dg c=true↔48<=c.toNat∧c.toNat<=57:=by simp [dg]
theorem zg8 {l:List UInt8} {i:Int} {O:UInt8->Prop} (n:Nat) (hi:i=n) (hn:n<l.length) (h:O l[n]):zE (B l).data.toList i O:=by
 rw [zj7];exact zq n hi hn h
theorem zcU {l:List UInt8} {a:Int} {O:Int×Bool×Int->Prop} (n:Nat) (ea:a=n) (hn:n<=l.length) (hl:l.length<=1000000000000)
  (h:O ((val (run 6 (l.drop n)):Int),decide (run 6 (l.drop n)≠[]),((n+(run 6 (l.drop n)).length:Nat):Int))):xE (B l) a O:=by
 subst ea;obtain ⟨r,he,hend⟩:=zmA 6 (l.drop n);have hdg:=zlC 6 (l.drop n);have hlen:=(zfi 6 (l.drop n)).1;generalize run 6 (l.drop n)=R at *
 have hll:l=l.take n++(R++r):=by rw [← he];simp
 have hsz:l.length=n+(R.length+r.length):=by
  have:=congrArg List.length he;simp at this;omega
 have hget:∀ k (hk:k<R.length),l[n+k]?=some R[k]:=by
  intro k hk;have:(l.drop n)[k]?=some R[k]:=by rw [he,List.getElem?_append_left hk];simp [hk]
  rw [List.getElem?_drop] at this;exact this
 unfold xE jnW;refine uV (fun s=>∃ k,k<=R.length∧s=(((n+k:Nat):Int),(val (R.take k):Int))) (fun s=>R.length+n - s.1.toNat) ?_ ⟨0,by omega,by simp [val]⟩;rintro _ next ⟨k,hk,rfl⟩ hnx;have hv:val (R.take k)<=999999:=zoy (fun c hc=>hdg c (List.mem_of_mem_take hc)) (by simp;omega);have hstop:k=R.length->O ((val (R.take k):Int),decide ((n:Int)<((n+k:Nat):Int)),((n+k:Nat):Int)):=by
  intro e;subst e;rw [List.take_length];rw [show decide ((n:Int)<((n+R.length:Nat):Int))=decide (R≠[]) by
   apply decide_eq_decide.2;cases R with
   | nil=>simp
   | cons x xs=>simp;omega]
  exact h
 simp only [yQ,Xr];refine zi (fun hc=>?_) (fun hc=>?_)
 ·simp at hc;refine zy (by omega) (by omega) (zi (fun hc2=>?_) (fun hc2=>?_))
  ·simp at hc2;have hlt:n+k<l.length:=by omega
   refine zg8 (n+k) rfl hlt ?_;by_cases hkr:k<R.length
   ·have hg:=hget k hkr;rw [List.getElem?_eq_getElem hlt] at hg;obtain hg:=Option.some.inj hg;rw [hg];obtain ⟨d1,d2⟩:=zln.1 (hdg R[k] (List.getElem_mem hkr));have hgo:zio 10 ↑(val (List.take k R)) (fun t135=>zmo (R[k].toNat:Int) 48 (fun t136=>zko t136 (fun _=>je t135 t136 (fun t137=>je ((n+k:Nat):Int) 1 (fun t138=>next (t138,t137)))))):=by
     refine zcg (by omega) (by omega) ⟨by omega,by omega,by omega,⟨by omega,by omega,zy (by omega) (by omega) (zy (by omega) (by omega) (hnx _ ⟨k+1,by omega,?_⟩ (by simp;omega)))⟩⟩;rw [List.take_succ_eq_append_getElem hkr,zhh];simp only [Prod.mk.injEq];omega
    refine zi (fun hc3=>?_) (fun hc3=>?_)
    ·simp at hc3;omega
    refine zi (fun hc4=>?_) (fun hc4=>hgo);simp at hc4;omega
   have e:k=R.length:=by omega
   rcases hend with h6 | hnd
   ·omega
   cases r with
   | nil=>simp at hsz;omega
   | cons c m =>
    have hcn:=hnd c m rfl;have hg:l[n+k]=c:=by
     have:(l.drop n)[k]?=some c:=by rw [he,e,List.getElem?_append_right (Nat.le_refl _)];simp
     rw [List.getElem?_drop,List.getElem?_eq_getElem hlt] at this;exact Option.some.inj this
    rw [hg];have hnot:¬ (48<=c.toNat∧c.toNat<=57):=fun hh=>by rw [zln.2 hh] at hcn;cases hcn
    refine zi (fun hc3=>?_) (fun hc3=>?_)
    ·simp only [ua];exact hstop e
    refine zi (fun hc4=>hstop e) (fun hc4=>?_);simp at hc3 hc4;omega
  simp at hc2;exact hstop (by omega)
 simp at hc;simp only [xZ];exact hstop (by omega)
def cut (c:UInt8):List UInt8->List UInt8×List UInt8
 | []=>([],[])
 | d :: l=>if d=c then ([],l) else (d :: (cut c l).1,(cut c l).2)
theorem zbB {c:UInt8}:∀ {x y:List UInt8},c ∉ x->cut c (x++c :: y)=(x,y)
 | [],y,_=>by simp [cut]
 | d :: x,y,h=>by
  simp only [List.mem_cons,not_or] at h
  simp only [List.cons_append,cut]
  rw [if_neg (fun e=>h.1 e.symm),zbB h.2]
theorem zh3 {c:UInt8}:∀ {x:List UInt8},c ∉ x->cut c x=(x,[])
 | [],_=>rfl
 | d :: x,h=>by
  simp only [List.mem_cons,not_or] at h
  simp only [cut]
  rw [if_neg (fun e=>h.1 e.symm),zh3 h.2]
theorem ze0 {c:UInt8}:∀ (x:List UInt8),(cut c x).1.length+(cut c x).2.length<=x.length
 | []=>by simp [cut]
 | d :: x=>by
  have:=ze0 (c:=c) x
  simp only [cut];split <;> simp <;> omega
theorem ziD {l:List UInt8} {c:UInt8} {O:ByteArray×ByteArray->Prop} (hl:l.length<=1000000000000) (h:O (B (cut c l).1,B (cut c l).2)):ZV (B l) c O:=by
 unfold ZV;refine zQ l.length (fun s=>s) (fun k s=>s=(k:Int)∧k<=l.length∧cut c l=(l.take k++(cut c (l.drop k)).1,(cut c (l.drop k)).2)) (fun k s h=>h.1) (fun k s h=>h.2.1) ?_ ⟨rfl,Nat.zero_le _,by simp⟩;rintro k _ next ⟨rfl,hk,he⟩ hn;rw [Xr];refine zi (fun hc=>?_) (fun hc=>?_)
 ·have hlt:k<l.length:=by simpa using hc
  have hd:l.drop k=l[k] :: l.drop (k+1):=List.drop_eq_getElem_cons hlt;refine zg8 k rfl hlt (zi (fun hc2=>?_) (fun hc2=>?_))
  ·have e:l[k]=c:=by
    simp at hc2;exact UInt8.toNat_inj.1 (by omega)
   rw [hd] at he;simp only [cut,if_pos e,List.append_nil] at he;refine za0 0 k rfl rfl (by omega) (by omega) (zy (by omega) (by omega) (za0 (k+1) l.length (by omega) rfl (by omega) (by omega) ?_));rw [he] at h;simpa using h
  have e:l[k]≠c:=by
   intro e;rw [e] at hc2;simp at hc2
  refine zy (by omega) (by omega) (hn hlt _ ⟨by omega,by omega,?_⟩);rw [he,hd];simp only [cut,if_neg e,List.take_succ_eq_append_getElem hlt,List.append_assoc,List.singleton_append]
 have hge:l.length<=k:=by simpa using hc
 rw [List.drop_eq_nil_of_le hge,List.take_of_length_le hge] at he;simp only [cut,List.append_nil] at he;rw [he] at h;exact h
theorem zmW {l:List UInt8} {O:Int->Prop} (hl:l.length<=1000000000000) (h:∀ v:Int,-1<=v->v<=999999->(∀ n:Nat,l=decDigits n->n<100000->v=n)->O v):u6 (B l) O:=by
 unfold u6 jnW;refine zQ (min 6 l.length) (fun s=>s.2) (fun k s=>s=((val (l.take k):Int),(k:Int))∧k<=min 6 l.length∧∀ c∈l.take k,dg c=true) (fun k s h=>by rw [h.1]) (fun k s h=>h.2.1) ?_ ⟨by simp [val],Nat.zero_le _,by simp⟩;rintro k _ next ⟨rfl,hk,hd⟩ hn;have hv:val (l.take k)<=999999:=zoy hd (by simp;omega);have hend:¬ k<min 6 l.length->ifW (decide (5<(l.length:Int))) (ifW true (O (-1)) (O (val (l.take k):Int))) (jS (val (l.take k):Int) (fun r135=>ifW (!(decide (r135=B l))) (O (-1)) (O (val (l.take k):Int)))):=by
  intro hge;refine zi (fun hc=>?_) (fun hc=>?_)
  ·simp at hc;rw [ua];refine h _ (by omega) (by omega) (fun n e hn=>?_);have:=zby 4 n (by simpa using hn);rw [← e] at this;omega
  simp at hc;have hkl:k=l.length:=by omega
  subst hkl;rw [List.take_length] at hv ⊢;refine Yf (by omega) (by omega) ?_;rw [Int.toNat_natCast,zbs];refine zi (fun hc2=>?_) (fun hc2=>?_)
  ·refine h _ (by omega) (by omega) (fun n e hn=>?_);rw [e,zbD] at hc2;simp at hc2
  exact h _ (by omega) (by omega) (fun n e hn=>by rw [e,zbD])
 rw [Xr];refine zi (fun hc=>?_) (fun hc=>?_)
 ·simp at hc;refine zi (fun hc2=>?_) (fun hc2=>?_)
  ·simp at hc2;have hlt:k<l.length:=by omega
   have hbad:dg l[k]=false->O (-1):=fun hb=>h _ (by omega) (by omega) (fun n e hn=>by
    subst e;rw [zhB n _ (List.getElem_mem hlt)] at hb;cases hb)
   refine zg8 k rfl hlt (zi (fun hc3=>?_) (fun hc3=>?_))
   ·simp only [ua];exact hbad (by simp [dg] at hc3 ⊢;omega)
   refine zg8 k rfl hlt (zi (fun hc4=>hbad ?_) (fun hc4=>?_))
   ·simp [dg] at hc4 ⊢;omega
   have hdk:dg l[k]=true:=by simp [dg] at hc3 hc4 ⊢;omega
   obtain ⟨d1,d2⟩:=zln.1 hdk;refine zcg (by omega) (by omega) (zg8 k rfl hlt ⟨by omega,by omega,by omega,⟨by omega,by omega,zy (by omega) (by omega) (zy (by omega) (by omega) (hn (by omega) _ ⟨?_,by omega,?_⟩))⟩⟩)
   ·rw [List.take_succ_eq_append_getElem hlt,zhh];simp only [Prod.mk.injEq];omega
   rw [List.take_succ_eq_append_getElem hlt];intro c hc;rcases List.mem_append.1 hc with hc | hc
   ·exact hd c hc
   rw [List.mem_singleton] at hc;subst hc;exact hdk
  simp at hc2;simp only [xZ];exact hend (by omega)
 simp at hc;simp only [xZ];exact hend (by omega)
end
section
open Go.Lib (decDigits)
theorem zc7 {n lo hi:Int} {O:Bool->Prop} (h:O (decide (lo<=n∧n<=hi))):Zm n lo hi O:=by
 unfold Zm jnW;refine zi (fun hc=>?_) (fun hc=>?_)
 ·simp at hc;simpa [hc] using h
 simp at hc;have:decide (lo<=n∧n<=hi)=false:=by simp;omega
 rw [this] at h;exact h
theorem zaA {n:Nat} (h:n<=100000):(decDigits n).length<=6:=zby 5 n (Nat.lt_of_le_of_lt h (by decide))
theorem zdO:ByteArray.mk #[]=B []:=rfl
theorem zgI {n:Nat} {r:List UInt8} (h:n<=100000) (hr:∀ c l,r=c :: l->dg c=false):run 6 (decDigits n++r)=decDigits n:=zl0 6 _ _ (zhB n) (zaA h) hr
end
section
open Go.Lib (decDigits)
theorem zah {l m:List UInt8} {n:Nat} (h:n=l.length):(l++m).drop n=m:=by subst h;simp
theorem zk5 {d:UInt8} {r:List UInt8} (h:dg d=false):∀ c l,d :: r=c :: l->dg c=false:=fun c l e=>by cases e;exact h
end
section
open Go.Lib (decDigits)
theorem zdu {x:Int} (h1:-100<=x) (h2:x<=100):w64 x=x:=by
 simp [w64,IntKind.wrap,IntKind.signed,IntKind.bits];omega
theorem zsv {V:Type} {x a b:V} (h:x∈[a,b]):x=a∨x=b:=by simpa using h
theorem zru {V:Type} {x a b c:V} (h:x∈[a,b,c]):x=a∨x=b∨x=c:=by simpa using h
end
section
open Go.Lib (decDigits)
def top (f:Int):Int:=if f=0∨f=1 then 65535 else if f=2 then 255 else 7
theorem Ur (f:Int):7<=top f∧top f<=65535:=by unfold top;(repeat' split);all_goals omega
def nm (f:Int):List UInt8:=if f=0 then [102,114,111,109] else if f=1 then [116,111] else if f=2 then [112,111,114,116] else [112,114,111,116,111]
def TV (t:zI):Prop:=0<=t.xField∧t.xField<=3∧0<=t.xLo∧t.xLo<=t.xHi∧t.xHi<=top t.xField
instance (t:zI):Decidable (TV t):=by unfold TV;infer_instance
def rtx (t:zI):List UInt8:=decDigits t.xLo.toNat++(if t.xHi=t.xLo then [] else 45 :: decDigits t.xHi.toNat)
def btx (t:zI):List UInt8:=nm t.xField++32 :: rtx t
def ttx (t:zI):List UInt8:=if t.xNot then 110 :: 111 :: 116 :: 32 :: btx t else btx t
def zhM (t:zI):List UInt8:=if TV t then ttx t else []
theorem zbm {f:Int} (h0:0<=f) (h1:f<=3):f=0∨f=1∨f=2∨f=3:=by omega
theorem zgK {n:Int} {O:Ub->Prop} (h0:0<=n) (h1:n<=3) (h:∀ e:Ub,e.xName=B (nm n)->e.xTop=top n->O e):zE zu n O:=by
 rcases zbm h0 h1 with rfl | rfl | rfl | rfl
 ·exact zq 0 rfl (by decide) (h _ rfl rfl)
 ·exact zq 1 rfl (by decide) (h _ rfl rfl)
 ·exact zq 2 rfl (by decide) (h _ rfl rfl)
 exact zq 3 rfl (by decide) (h _ rfl rfl)
theorem zlN {n:Int} {O:ByteArray->Prop} (h0:0<=n) (h1:n<=3) (h:O (B (nm n))):zE [(ByteArray.mk #[102,114,111,109]),(ByteArray.mk #[116,111]),(ByteArray.mk #[112,111,114,116]),(ByteArray.mk #[112,114,111,116,111])] n O:=by
 rcases zbm h0 h1 with rfl | rfl | rfl | rfl
 ·exact zq 0 rfl (by decide) h
 ·exact zq 1 rfl (by decide) h
 ·exact zq 2 rfl (by decide) h
 exact zq 3 rfl (by decide) h
theorem xF {n:Int} {O:Int->Prop} (h0:0<=n) (h1:n<=3) (h:O (top n)):uC n O:=by
 unfold uC jnW;rcases zbm h0 h1 with rfl | rfl | rfl | rfl <;> simpa [top] using h
theorem zcs {n:Int} {O:Int->Prop} (h:O (if 0<=n∧n<=3 then top n else -1)):jx n O:=by
 unfold jx jnW;refine zi (fun hc=>?_) (fun hc=>zi (fun hc2=>?_) (fun hc2=>?_))
 ·simp at hc;rw [if_neg (by omega)] at h;simpa using h
 ·simp at hc hc2;rw [if_neg (by omega)] at h;exact h
 simp at hc hc2;rw [if_pos (by omega)] at h;exact zgK (by omega) (by omega) (fun e _ he=>by rw [he];exact h)
theorem V1 {t:zI} {O:Bool->Prop} (h:O (decide (TV t))):Z1 t O:=by
 unfold Z1 jnW;refine zc7 (zi (fun hc=>?_) (fun hc=>?_))
 ·simp at hc;refine zc7 (zi (fun hc2=>?_) (fun hc2=>?_))
  ·simp at hc2;refine xF hc.1 hc.2 ?_;rw [show decide (t.xHi<=top t.xField)=decide (TV t) from decide_eq_decide.2 ⟨fun hh=>⟨hc.1,hc.2,hc2.1,hc2.2,hh⟩,fun hh=>hh.2.2.2.2⟩];exact h
  simp at hc2;rw [decide_eq_false (fun hh:TV t=>by obtain ⟨a1,a2,a3,a4,_⟩:=hh;omega)] at h;exact h
 simp at hc;rw [decide_eq_false (fun hh:TV t=>by obtain ⟨a1,a2,a3,a4,_⟩:=hh;omega)] at h;exact h
theorem zfR {t:zI} {O:Bool->Prop} (h:O (decide (TV t))):UC t O:=by
 unfold UC jnW;have no:¬ (0<=t.xField∧t.xField<4∧0<=t.xLo∧t.xLo<=t.xHi)->O false:=fun hn=>by
  rw [decide_eq_false (fun hh:TV t=>by obtain ⟨a1,a2,a3,a4,_⟩:=hh;omega)] at h;exact h
 refine zi (fun hc=>zi (fun hc2=>zi (fun hc3=>zi (fun hc4=>?_) (fun hc4=>no (by simp at hc4;omega))) (fun hc3=>no (by simp at hc3;omega))) (fun hc2=>no (by simp at hc2;omega))) (fun hc=>no (by simp at hc;omega));simp at hc hc2 hc3 hc4;refine zcs ?_;rw [if_pos ⟨hc,by omega⟩];rw [show decide (t.xHi<=top t.xField)=decide (TV t) from decide_eq_decide.2 ⟨fun hh=>⟨hc,by omega,hc3,hc4,hh⟩,fun hh=>hh.2.2.2.2⟩];exact h
theorem zfw (f:Int):2<=(nm f).length∧(nm f).length<=5:=by unfold nm;(repeat' split);all_goals simp
theorem zpT {t:zI} (h:TV t):(rtx t).length<=13:=by
 obtain ⟨a1,a2,a3,a4,a5⟩:=h;have:=Ur t.xField;have d1:=zaA (n:=t.xLo.toNat) (by omega);have d2:=zaA (n:=t.xHi.toNat) (by omega);unfold rtx;split <;> simp <;> omega
theorem zpu {t:zI} (h:TV t):(btx t).length<=19:=by
 have h1:=zpT h;have h2:=zfw t.xField;unfold btx;simp;omega
theorem zeo {t:zI} (h:TV t):(ttx t).length<=23:=by
 have h1:=zpu h;unfold ttx;split <;> simp <;> omega
theorem zab {t:zI}:ttx t=(if t.xNot then [110,111,116,32] else [])++btx t:=by unfold ttx;split <;> rfl
theorem zfs {t:zI} {O:ByteArray->Prop} (hv:TV t) (h:O (B (ttx t))):yc t O:=by
 obtain ⟨a1,a2,a3,a4,a5⟩:=id hv;have ht:=Ur t.xField;have hn:=zfw t.xField;have d1:=zaA (n:=t.xLo.toNat) (by omega);have d2:=zaA (n:=t.xHi.toNat) (by omega);unfold yc jnW;refine zgK a1 a2 (fun e he _=>?_);rw [he];refine yq (m:=[32]) (by simp;omega) (zhG a3 (by omega) (yq (by simp;omega) ?_));have key:∀ p:List UInt8,p.length<=4->ttx t=p++btx t->ifW (!(decide (t.xHi=t.xLo))) (XK t.xHi (fun r71=>uY (ByteArray.mk #[45]) r71 (fun s72=>uY (B (p++(nm t.xField++[32]++decDigits t.xLo.toNat))) s72 (fun s73=>O s73)))) (O (B (p++(nm t.xField++[32]++decDigits t.xLo.toNat)))):=by
  intro p hp e;refine zi (fun hc=>?_) (fun hc=>?_)
  ·simp at hc;refine zhG (by omega) (by omega) (yq (l:=[45]) (by simp;omega) (yq (by simp;omega) ?_));rw [e] at h;simpa [btx,rtx,if_neg hc,List.append_assoc] using h
  simp at hc;rw [e] at h;simpa [btx,rtx,if_pos hc,List.append_assoc] using h
 refine zi (fun hc=>?_) (fun hc=>?_)
 ·exact yq (l:=[110,111,116,32]) (by simp;omega) (key [110,111,116,32] (by simp) (by rw [zab,if_pos hc]))
 exact key [] (by simp) (by rw [zab,if_neg (by simp [hc])])
theorem zaz {t:zI} {O:ByteArray->Prop} (h:O (B (zhM t))):uH t O:=by
 unfold uH jnW;refine V1 (zi (fun hc=>?_) (fun hc=>?_))
 ·simp at hc;rw [zhM,if_neg hc] at h;exact h
 simp at hc;rw [zhM,if_pos hc] at h;obtain ⟨a1,a2,a3,a4,a5⟩:=id hc;have ht:=Ur t.xField;have hn:=zfw t.xField;have d1:=zaA (n:=t.xLo.toNat) (by omega);have d2:=zaA (n:=t.xHi.toNat) (by omega);have key:∀ p:List UInt8,p.length<=4->ttx t=p++btx t->ifW (!(decide (t.xHi=t.xLo))) (uY (B (p++(nm t.xField++[32]++decDigits t.xLo.toNat))) (ByteArray.mk #[45]) (fun s83=>jS t.xHi (fun r84=>uY s83 r84 (fun s85=>O s85)))) (O (B (p++(nm t.xField++[32]++decDigits t.xLo.toNat)))):=by
  intro p hp e;refine zi (fun hc=>?_) (fun hc=>?_)
  ·simp at hc;refine yq (m:=[45]) (by simp;omega) (Yf (by omega) (by omega) (yq (by simp;omega) ?_));rw [e] at h;simpa [btx,rtx,if_neg hc,List.append_assoc] using h
  simp at hc;rw [e] at h;simpa [btx,rtx,if_pos hc,List.append_assoc] using h
 have fin:ifW t.xNot (uY (ByteArray.mk #[110,111,116,32]) (B (nm t.xField++[32]++decDigits t.xLo.toNat)) (fun s20=>ifW (!(decide (t.xHi=t.xLo))) (uY s20 (ByteArray.mk #[45]) (fun s83=>jS t.xHi (fun r84=>uY s83 r84 (fun s85=>O s85)))) (O s20))) (ifW (!(decide (t.xHi=t.xLo))) (uY (B (nm t.xField++[32]++decDigits t.xLo.toNat)) (ByteArray.mk #[45]) (fun s83=>jS t.xHi (fun r84=>uY s83 r84 (fun s85=>O s85)))) (O (B (nm t.xField++[32]++decDigits t.xLo.toNat)))):=by
  refine zi (fun hc=>?_) (fun hc=>?_)
  ·exact yq (l:=[110,111,116,32]) (by simp;omega) (key [110,111,116,32] (by simp) (by rw [zab,if_pos hc]))
  exact key [] (by simp) (by rw [zab,if_neg (by simp [hc])])
 have z:jS t.xLo (fun r15=>zE [(ByteArray.mk #[102,114,111,109]),(ByteArray.mk #[116,111]),(ByteArray.mk #[112,111,114,116]),(ByteArray.mk #[112,114,111,116,111])] t.xField (fun e16=>uY e16 (ByteArray.mk #[32]) (fun s13=>uY s13 r15 (fun t4=>ifW t.xNot (uY (ByteArray.mk #[110,111,116,32]) t4 (fun s20=>ifW (!(decide (t.xHi=t.xLo))) (uY s20 (ByteArray.mk #[45]) (fun s83=>jS t.xHi (fun r84=>uY s83 r84 (fun s85=>O s85)))) (O s20))) (ifW (!(decide (t.xHi=t.xLo))) (uY t4 (ByteArray.mk #[45]) (fun s83=>jS t.xHi (fun r84=>uY s83 r84 (fun s85=>O s85)))) (O t4)))))) :=
  Yf a3 (by omega) (zlN a1 a2 (yq (m:=[32]) (by simp;omega) (yq (by simp;omega) fin)))
 exact ⟨⟨zlN a1 a2 ⟨yq (m:=[32]) (by simp;omega) (Yf a3 (by omega) (yq (by simp;omega) fin)),Yf a3 (by omega) (yq (m:=[32]) (by simp;omega) (yq (by simp;omega) fin))⟩,z⟩,z⟩
end
section
open Go Go.Proofs
def Yl (a b:List zk):Int×Bool :=
 match ji a b with
 | []=>(0,false)
 | s :: _=>(s.xLo,true)
theorem zna {a b:List zk} (ha:NF a) (hb:NF b) {v:Int} (h1:hv a v) (h2:hv b v) (h3:∀ x,hv a x->hv b x->v<=x):Yl a b=(v,true):=by
 have hm:=zfa ha hb;unfold Yl;have hv0:=(Uh a b v).2 ⟨h1,h2⟩;have hall:∀ x,hv (ji a b) x->v<=x:=fun x hx=>by
  obtain ⟨e1,e2⟩:=(Uh a b x).1 hx;exact h3 x e1 e2
 generalize ji a b=m at hm hv0 hall;cases m with
 | nil=>exact absurd hv0 (yx v)
 | cons s m =>
  have e1:=hall s.xLo ((ut _ _ _).2 (.inl ⟨Int.le_refl _,hm.1 s (by simp)⟩));have e2:=zez hm hv0;simp only [Prod.mk.injEq,and_true];omega
theorem zk4 {a b:List zk} (h:∀ x,hv a x->hv b x->False) (ha:NF a) (hb:NF b):Yl a b=(0,false):=by
 unfold Yl;have hm:=zfa ha hb;have hall:∀ x,¬ hv (ji a b) x:=fun x hx=>by
  obtain ⟨e1,e2⟩:=(Uh a b x).1 hx;exact h x e1 e2
 generalize ji a b=m at hm hall;cases m with
 | nil=>rfl
 | cons s m=>exact absurd ((ut s m s.xLo).2 (.inl ⟨Int.le_refl _,hm.1 s (by simp)⟩)) (hall _)
theorem zmv {a:List zk} {i:Nat} (h:i<a.length) (x:Int):hv (a.drop i) x↔(a[i].xLo<=x∧x<=a[i].xHi)∨hv (a.drop (i+1)) x:=by
 rw [List.drop_eq_getElem_cons h,ut]
theorem zdA {a:List zk} {i:Nat} (hn:NF a) (h:i<a.length) {x:Int} (hx:hv (a.drop i) x):a[i].xLo<=x:=by
 have:=zfn i hn;rw [List.drop_eq_getElem_cons h] at this hx;exact zez this hx
theorem zag {a b:List zk} {ta tb:Int} (ha:St a ta) (hb:St b tb) (h0:0<=ta) (ht:ta<=65535) (h1:0<=tb) (hu:tb<=65535) {O:Int×Bool->Prop} (h:O (Yl a b)):Yi a b O:=by
 have la:=zbj ha (by omega);have lb:=zbj hb (by omega);unfold Yi;refine uV (fun (s:Int×Int)=>∃ i j:Nat,s.1=i∧s.2=j∧i<=a.length∧j<=b.length∧∀ x,hv a x->hv b x->hv (a.drop i) x∧hv (b.drop j) x) (fun s=>(a.length+b.length - s.1 - s.2).toNat) ?_ ⟨0,0,rfl,rfl,Nat.zero_le _,Nat.zero_le _,fun x q1 q2=>⟨by simpa using q1,by simpa using q2⟩⟩;rintro ⟨_,_⟩ next ⟨i,j,rfl,rfl,hi,hj,hx⟩ hn;simp only at hn ⊢;unfold jnW;have none:(i=a.length∨j=b.length)->O (0,false):=fun hh=>by
  rw [zk4 (fun x q1 q2=>?_) ha.1 hb.1] at h
  ·exact h
  obtain ⟨r1,r2⟩:=hx x q1 q2;rcases hh with e | e
  ·subst e;rw [List.drop_length] at r1;exact yx x r1
  subst e;rw [List.drop_length] at r2;exact yx x r2
 refine zi (fun hc=>?_) (fun hc=>?_);rotate_left 1
 ·have:a.length<=i:=by simpa using hc
  exact jT (none (.inl (by omega)))
 have hi2:i<a.length:=by simpa using hc
 refine zi (fun hd=>?_) (fun hd=>?_);rotate_left 1
 ·have:b.length<=j:=by simpa using hd
  exact none (.inr (by omega))
 have hj2:j<b.length:=by simpa using hd
 have a1:=ha.1.1 _ (List.getElem_mem hi2);have b1:=hb.1.1 _ (List.getElem_mem hj2);have ma:hv a a[i].xLo∧hv a a[i].xHi:=zbx ha.1 (List.getElem_mem hi2);have mb:hv b b[j].xLo∧hv b b[j].xHi:=zbx hb.1 (List.getElem_mem hj2);refine zq i rfl hi2 (zq j rfl hj2 (zq i rfl hi2 (zq j rfl hj2 (zi (fun he=>?_) (fun he=>?_)))))
 ·have he':max a[i].xLo b[j].xLo<=min a[i].xHi b[j].xHi:=by simpa using he
  rw [zna ha.1 hb.1 (v:=max a[i].xLo b[j].xLo) ⟨a[i],List.getElem_mem hi2,by omega,by omega⟩ ⟨b[j],List.getElem_mem hj2,by omega,by omega⟩ (fun x q1 q2=>?_)] at h
  ·exact h
  obtain ⟨r1,r2⟩:=hx x q1 q2;have:=zdA ha.1 hi2 r1;have:=zdA hb.1 hj2 r2;omega
 have he':¬ max a[i].xLo b[j].xLo<=min a[i].xHi b[j].xHi:=by simpa using he
 refine zq i rfl hi2 (zq j rfl hj2 (zi (fun hf=>?_) (fun hf=>?_)))
 ·have hf':a[i].xHi<b[j].xHi:=by simpa using hf
  refine zy (by omega) (by omega) (hn _ ⟨i+1,j,by simp,rfl,by omega,hj,fun x q1 q2=>?_⟩ (by simp only;omega));obtain ⟨r1,r2⟩:=hx x q1 q2;refine ⟨?_,r2⟩;rcases (zmv hi2 x).1 r1 with e | e
  ·have:=zdA hb.1 hj2 r2;omega
  exact e
 have hf':¬ a[i].xHi<b[j].xHi:=by simpa using hf
 refine zy (by omega) (by omega) (hn _ ⟨i,j+1,rfl,by simp,hi,by omega,fun x q1 q2=>?_⟩ (by simp only;omega));obtain ⟨r1,r2⟩:=hx x q1 q2;refine ⟨r1,?_⟩;rcases (zmv hj2 x).1 r2 with e | e
 ·have:=zdA ha.1 hi2 r1;omega
 exact e
def B4 (a:za):Prop:=St a.x0 65535∧St a.x1 65535∧St a.x2 255∧St a.x3 7
def F4 (a:za):Prop:=a.x0.length<=40∧a.x1.length<=40∧a.x2.length<=40∧a.x3.length<=40
instance (a:za):Decidable (F4 a):=by unfold F4;infer_instance
def zfL:za:=⟨[],[],[],[]⟩
def ym (a b:za):za:=⟨ji a.x0 b.x0,ji a.x1 b.x1,ji a.x2 b.x2,ji a.x3 b.x3⟩
theorem zkF {a b:za} (ha:B4 a) (hb:B4 b):B4 (ym a b):=⟨YD ha.1 hb.1.1,YD ha.2.1 hb.2.1.1,YD ha.2.2.1 hb.2.2.1.1,YD ha.2.2.2 hb.2.2.2.1⟩
def em4 (a:za):Bool:=decide (a.x0=[]∨a.x1=[]∨a.x2=[]∨a.x3=[])
def zoP (a:za):za×Bool:=if F4 a then (a,true) else (zfL,false)
def zcJ:za:=⟨[⟨0,65535⟩],[⟨0,65535⟩],[⟨0,255⟩],[⟨0,7⟩]⟩
theorem zjK:B4 zcJ:=by refine ⟨?_,?_,?_,?_⟩ <;> exact ⟨za5 (by decide),fun s hs=>by simp only [zcJ,List.mem_singleton] at hs;subst hs;decide⟩
theorem ze1 {a:za} {O:Bool->Prop} (h:O (em4 a)):yw a O:=by
 obtain ⟨x0,x1,x2,x3⟩:=a;simp only [em4] at h;unfold yw;refine ⟨5,?_⟩;refine jz (zq 0 rfl (by simp) (zi (fun e=>?_) (fun e=>zy (by decide) (by decide) ?_)))
 ·have:x0=[]:=by simpa using e
  subst this;simpa using h
 have e0:x0≠[]:=by simpa using e
 refine jz (zq 1 rfl (by simp) (zi (fun e=>?_) (fun e=>zy (by decide) (by decide) ?_)))
 ·have:x1=[]:=by simpa using e
  subst this;simpa using h
 have e1:x1≠[]:=by simpa using e
 refine jz (zq 2 rfl (by simp) (zi (fun e=>?_) (fun e=>zy (by decide) (by decide) ?_)))
 ·have:x2=[]:=by simpa using e
  subst this;simpa using h
 have e2:x2≠[]:=by simpa using e
 refine jz (zq 3 rfl (by simp) (zi (fun e=>?_) (fun e=>zy (by decide) (by decide) ?_)))
 ·have:x3=[]:=by simpa using e
  subst this;simpa using h
 have e3:x3≠[]:=by simpa using e
 refine jT ?_;simpa [e0,e1,e2,e3] using h
theorem zsk:top 0=65535:=rfl
theorem zr8:top 1=65535:=rfl
theorem zsi:top 2=255:=rfl
theorem zr6:top 3=7:=rfl
theorem XC {n:Int} {O:Int->Prop} (h0:0<=n) (h1:n<=3) (h:O (top n)):jx n O:=zcs (by rw [if_pos ⟨h0,h1⟩];exact h)
theorem zpr {a b:za} (ha:B4 a) (hb:B4 b) {O:za×Bool->Prop} (h:O (zoP (ym a b))):YX a b O:=by
 obtain ⟨a0,a1,a2,a3⟩:=a;obtain ⟨b0,b1,b2,b3⟩:=b;obtain ⟨p0,p1,p2,p3⟩:=ha;obtain ⟨q0,q1,q2,q3⟩:=hb;simp only at p0 p1 p2 p3 q0 q1 q2 q3;have hT:(ji a0 b0).length<=40->(ji a1 b1).length<=40->(ji a2 b2).length<=40->(ji a3 b3).length<=40->O (⟨ji a0 b0,ji a1 b1,ji a2 b2,ji a3 b3⟩,true):=fun e0 e1 e2 e3=>by
  have:zoP (ym ⟨a0,a1,a2,a3⟩ ⟨b0,b1,b2,b3⟩)=(ym ⟨a0,a1,a2,a3⟩ ⟨b0,b1,b2,b3⟩,true):=if_pos ⟨e0,e1,e2,e3⟩;rw [this] at h;exact h
 have hF:¬ ((ji a0 b0).length<=40∧(ji a1 b1).length<=40∧(ji a2 b2).length<=40∧(ji a3 b3).length<=40)->O (zfL,false):=fun e=>by
  have:zoP (ym ⟨a0,a1,a2,a3⟩ ⟨b0,b1,b2,b3⟩)=(zfL,false):=if_neg e;rw [this] at h;exact h
 clear h;unfold YX;refine ⟨5,?_⟩;refine jz ?_;unfold jnW;refine zq 0 rfl (by simp) (zq 0 rfl (by simp) (XC (n:=(0:Int)) (by decide) (by decide) (Vk (top:=top 0) p0 q0 (by decide) (by decide) ?_)));unfold lim;by_cases c0:40<(ji a0 b0).length
 ·simp only [List.getElem_cons_zero,c0,if_true];exact jz (hF (by omega))
 simp only [List.getElem_cons_zero,c0,if_false];refine jT (zq 0 rfl (by simp) (zy (by decide) (by decide) ?_));refine jz ?_;refine zq 1 rfl (by simp) (zq 1 rfl (by simp) (XC (n:=(1:Int)) (by decide) (by decide) (Vk (top:=top 1) p1 q1 (by decide) (by decide) ?_)));unfold lim;by_cases c1:40<(ji a1 b1).length
 ·simp only [List.getElem_cons_zero,List.getElem_cons_succ,c1,if_true];exact jz (hF (by omega))
 simp only [List.getElem_cons_zero,List.getElem_cons_succ,c1,if_false];refine jT (zq 1 rfl (by simp) (zy (by decide) (by decide) ?_));refine jz ?_;refine zq 2 rfl (by simp) (zq 2 rfl (by simp) (XC (n:=(2:Int)) (by decide) (by decide) (Vk (top:=top 2) p2 q2 (by decide) (by decide) ?_)));unfold lim;by_cases c2:40<(ji a2 b2).length
 ·simp only [List.getElem_cons_zero,List.getElem_cons_succ,c2,if_true];exact jz (hF (by omega))
 simp only [List.getElem_cons_zero,List.getElem_cons_succ,c2,if_false];refine jT (zq 2 rfl (by simp) (zy (by decide) (by decide) ?_));refine jz ?_;refine zq 3 rfl (by simp) (zq 3 rfl (by simp) (XC (n:=(3:Int)) (by decide) (by decide) (Vk (top:=top 3) p3 q3 (by decide) (by decide) ?_)));unfold lim;by_cases c3:40<(ji a3 b3).length
 ·simp only [List.getElem_cons_zero,List.getElem_cons_succ,c3,if_true];exact jz (hF (by omega))
 simp only [List.getElem_cons_zero,List.getElem_cons_succ,c3,if_false];refine jT (zq 3 rfl (by simp) (zy (by decide) (by decide) ?_));refine jT ?_;exact ⟨_,_,_,_,rfl,hT (by omega) (by omega) (by omega) (by omega)⟩
end
section
open Go.Lib (decDigits)
def zsr (t:zI):Prop:=0<=t.xField∧t.xField<=3∧0<=t.xLo∧t.xLo<=999999∧0<=t.xHi∧t.xHi<=999999
theorem zrt {a b:Int} (ha:0<=a∧a<=3) (hb:0<=b∧b<=3) (h:nm a=nm b):a=b:=by
 rcases zbm ha.1 ha.2 with rfl | rfl | rfl | rfl <;> rcases zbm hb.1 hb.2 with rfl | rfl | rfl | rfl <;> first | rfl | (exact absurd h (by decide))
theorem zqy {a b:Int} {r s:List UInt8} (ha:0<=a∧a<=3) (hb:0<=b∧b<=3) (h:nm a++32 :: r=(nm b++[32])++s):a=b:=by
 rcases zbm ha.1 ha.2 with rfl | rfl | rfl | rfl <;> rcases zbm hb.1 hb.2 with rfl | rfl | rfl | rfl <;> first | rfl | (simp [nm] at h)
theorem zmh {l:List UInt8} {a:Int} {O:Int×Bool×Int->Prop} (n:Nat) (ea:a=n) (hn:n<=l.length) (hl:l.length<=100000000000)
  (hok:∀ f:Int,0<=f->f<=3->∀ r,l.drop n=nm f++32 :: r->O (f,true,((n+(nm f).length+1:Nat):Int))) (hno:(¬ ∃ f:Int,0<=f∧f<=3∧∃ r,l.drop n=nm f++32 :: r)->O (0,false,(n:Int))):yE (B l) a O:=by
 subst ea;unfold yE;refine zQ 4 (fun s=>s.2) (fun k s=>s=((n:Int),(k:Int))∧k<=4∧∀ i:Nat,i<k->∀ r,l.drop n≠(nm (i:Int)++[32])++r) (fun k s h=>by rw [h.1]) (fun k s h=>h.2.1) ?_ ⟨rfl,Nat.zero_le _,fun i hi=>by omega⟩;rintro k _ next ⟨rfl,hk,he⟩ hnx;refine zi (fun hc=>?_) (fun hc=>?_)
 ·have hlt:k<4:=by simp at hc;omega
  refine zgK (by omega) (by omega) (fun e en _=>?_);have hnl:=zfw (k:Int);rw [en];refine yq (m:=[32]) (by simp;omega) ?_;refine zbh n rfl hn (by omega) (by simp;omega) (fun r e=>?_) (fun hne=>?_)
  ·simp only [ua];have:=hok (k:Int) (by omega) (by omega) r (by simpa using e);simpa [Nat.add_assoc] using this
  simp only [xZ];refine zy (by omega) (by omega) (hnx hlt _ ⟨by simp,by omega,fun i hi r e=>?_⟩);by_cases hik:i=k
  ·subst hik;exact hne r e
  exact he i (by omega) r e
 have hge:k=4:=by simp at hc;omega
 subst hge;refine hno (fun ⟨f,f0,f1,r,e⟩=>?_);obtain ⟨i,rfl⟩:=Int.eq_ofNat_of_zero_le f0;exact he i (by omega) r (by simpa using e)
theorem zgQ {l:List UInt8} {a:Int} {O:zI×Bool×Int->Prop} (n:Nat) (ea:a=n) (hn:n<=l.length) (hl:l.length<=100000000000)
  (h:∀ t m,zsr t->n<m->m<=l.length->O (t,true,(m:Int))) (hz:∀ m:Nat,n<=m->m<=l.length->O (zI.mk 0 0 0 false,false,(m:Int))):yP (B l) a O:=by
 have six:∀ n,val (run 6 (l.drop n))<=999999:=fun n=>zoy (zlC 6 _) (zfi 6 _).1
 have rl:∀ n,n<=l.length->n+(run 6 (l.drop n)).length<=l.length:=fun n hn=>by have:=(zfi 6 (l.drop n)).2;simp at this;omega
 have wl:∀ (n:Nat) (w r:List UInt8),n<=l.length->l.drop n=w++r->n+w.length<=l.length:=fun n w r hn e=>by have:=congrArg List.length e;simp at this;omega
 have rest:∀ (b:Bool) (m0:Nat),n<=m0->m0<=l.length->yE (B l) (m0:Int) (fun (r9,r10,r11)=>ifW (!r10) (O ((zI.mk 0 0 0 false),false,r11)) (xE (B l) r11 (fun (r12,r13,r14)=>ifW (!r13) (O ((zI.mk 0 0 0 false),false,r14)) (jX (B l) r14 (ByteArray.mk #[45]) (fun (r15,r16)=>ifW r15 (xE (B l) r16 (fun (r17,r18,r19)=>ifW (!r18) (O ((zI.mk 0 0 0 false),false,r19)) (O ((zI.mk r9 r12 r17 b),true,r19)))) (O ((zI.mk r9 r12 r12 b),true,r16))))))):=by
  intro b m0 h0 h1;refine zmh m0 rfl h1 hl (fun f f0 f1 r e=>?_) (fun _=>?_)
  ·have hm:=wl m0 (nm f++[32]) r h1 (by simpa using e);simp only [List.length_append,List.length_singleton] at hm;simp only [Bool.not_true,xZ];refine zcU (m0+(nm f).length+1) rfl (by omega) (by omega) ?_;have hv:=six (m0+(nm f).length+1);have hr:=rl (m0+(nm f).length+1) (by omega);generalize run 6 (l.drop (m0+(nm f).length+1))=R at *
   refine zi (fun _=>hz _ (by omega) hr) (fun _=>?_);refine zbh (w:=[45]) (m0+(nm f).length+1+R.length) rfl hr (by omega) (by simp) (fun r2 e2=>?_) (fun _=>?_)
   ·have hm2:=wl _ _ _ hr e2;simp only [ua];refine zcU _ rfl hm2 (by omega) ?_;have hv2:=six (m0+(nm f).length+1+R.length+([45]:List UInt8).length);have hr2:=rl _ hm2;generalize run 6 (l.drop (m0+(nm f).length+1+R.length+([45]:List UInt8).length))=R2 at *
    refine zi (fun _=>hz _ (by omega) hr2) (fun _=>h _ _ ⟨f0,f1,by simp,by simp;omega,by simp,by simp;omega⟩ (by omega) hr2)
   simp only [xZ];exact h _ _ ⟨f0,f1,by simp,by simp;omega,by simp,by simp;omega⟩ (by omega) hr
  simp only [Bool.not_false,ua];exact hz _ h0 h1
 subst ea;unfold yP jnW;refine zbh (w:=[110,111,116,32]) n rfl hn (by omega) (by simp) (fun r e=>?_) (fun _=>?_)
 ·exact rest true _ (by omega) (wl _ _ _ hn e)
 exact rest false _ (by omega) hn
def zoe (r:List UInt8):Prop:=∀ c m,r=c :: m->c=44
theorem zoe.dg {r:List UInt8} (h:zoe r):∀ c m,r=c :: m->dg c=false:=fun c m e=>by rw [h c m e];decide
theorem zhp {l p r:List UInt8} {t:zI} {a:Int} {O:zI×Bool×Int->Prop} (ht:TV t) (hr:zoe r) (el:l=p++(ttx t++r)) (ea:a=(p.length:Nat)) (hl:l.length<=100000000000)
  (h:O (t,true,((p.length+(ttx t).length:Nat):Int))):yP (B l) a O:=by
 obtain ⟨a1,a2,a3,a4,a5⟩:=id ht;have htop:=Ur t.xField;have hnl:=zfw t.xField;have rest:∀ (q:List UInt8),l=q++(btx t++r)->O (t,true,((q.length+(btx t).length:Nat):Int))->yE (B l) (q.length:Int) (fun (r9,r10,r11)=>ifW (!r10) (O ((zI.mk 0 0 0 false),false,r11)) (xE (B l) r11 (fun (r12,r13,r14)=>ifW (!r13) (O ((zI.mk 0 0 0 false),false,r14)) (jX (B l) r14 (ByteArray.mk #[45]) (fun (r15,r16)=>ifW r15 (xE (B l) r16 (fun (r17,r18,r19)=>ifW (!r18) (O ((zI.mk 0 0 0 false),false,r19)) (O ((zI.mk r9 r12 r17 t.xNot),true,r19)))) (O ((zI.mk r9 r12 r12 t.xNot),true,r16))))))):=by
  intro q eq hq;have hlen:l.length=q.length+((btx t).length+r.length):=by rw [eq];simp
  have hbl:(btx t).length=(nm t.xField).length+1+(rtx t).length:=by simp [btx];omega
  have d0:l.drop q.length=nm t.xField++32 :: (rtx t++r):=by rw [eq,zah rfl];simp [btx]
  have d1:l.drop (q.length+(nm t.xField).length+1)=rtx t++r:=by
   rw [Nat.add_assoc,← List.drop_drop,d0,← List.drop_drop,zah rfl];rfl
  refine zmh q.length rfl (by omega) hl (fun f f0 f1 s e=>?_) (fun hno=>absurd ⟨_,a1,a2,_,d0⟩ hno);have ef:t.xField=f:=zqy (s:=s) ⟨a1,a2⟩ ⟨f0,f1⟩ (by rw [← d0,e];simp);subst ef;simp only [Bool.not_true,xZ];refine zcU (q.length+(nm t.xField).length+1) rfl (by omega) (by omega) ?_;rw [d1];have el:((t.xLo.toNat:Nat):Int)=t.xLo:=by omega
  have eh:((t.xHi.toNat:Nat):Int)=t.xHi:=by omega
  by_cases hlh:t.xHi=t.xLo
  ·have e1:rtx t=decDigits t.xLo.toNat:=by simp [rtx,hlh]
   have hll:(rtx t).length=(decDigits t.xLo.toNat).length:=by rw [e1]
   rw [e1,zgI (by omega) hr.dg,decide_eq_true (zfr _),zbD];simp only [Bool.not_true,xZ];have d2:l.drop (q.length+(nm t.xField).length+1+(decDigits t.xLo.toNat).length)=r:=by rw [← List.drop_drop,d1,e1,zah rfl]
   refine zbh (w:=[45]) _ rfl (by omega) (by omega) (by simp) (fun s es=>?_) (fun _=>?_)
   ·rw [d2] at es;exact absurd (hr 45 s (by simpa using es)) (by decide)
   simp only [xZ];have et:zI.mk t.xField t.xLo t.xLo t.xNot=t:=by cases t;simp_all
   rw [el,et];have en:q.length+(nm t.xField).length+1+(decDigits t.xLo.toNat).length=q.length+(btx t).length:=by omega
   rw [en];exact hq
  have e1:rtx t=decDigits t.xLo.toNat++45 :: decDigits t.xHi.toNat:=by simp [rtx,hlh]
  have hll:(rtx t).length=(decDigits t.xLo.toNat).length+1+(decDigits t.xHi.toNat).length:=by rw [e1];simp;omega
  rw [e1,List.append_assoc,List.cons_append,zgI (by omega) (zk5 (by decide)),decide_eq_true (zfr _),zbD];simp only [Bool.not_true,xZ];have d2:l.drop (q.length+(nm t.xField).length+1+(decDigits t.xLo.toNat).length)=45 :: (decDigits t.xHi.toNat++r):=by
   rw [← List.drop_drop,d1,e1,List.append_assoc,zah rfl];rfl
  have d3:l.drop (q.length+(nm t.xField).length+1+(decDigits t.xLo.toNat).length+([45]:List UInt8).length)=decDigits t.xHi.toNat++r:=by
   rw [← List.drop_drop,d2];rfl
  refine zbh (w:=[45]) _ rfl (by omega) (by omega) (by simp) (fun s es=>?_) (fun hno=>absurd (by rw [d2];rfl) (hno (decDigits t.xHi.toNat++r)));simp only [ua];refine zcU _ rfl (by simp;omega) (by omega) ?_;rw [d3,zgI (by omega) hr.dg,decide_eq_true (zfr _),zbD];simp only [Bool.not_true,xZ];have et:zI.mk t.xField t.xLo t.xHi t.xNot=t:=by cases t;rfl
  rw [el,eh,et];have en:q.length+(nm t.xField).length+1+(decDigits t.xLo.toNat).length+([45]:List UInt8).length+(decDigits t.xHi.toNat).length=q.length+(btx t).length:=by simp;omega
  rw [en];exact hq
 subst ea;have hlen:l.length=p.length+((ttx t).length+r.length):=by rw [el];simp
 unfold yP jnW;by_cases hn:t.xNot=true
 ·have e:ttx t=[110,111,116,32]++btx t:=by rw [zab,if_pos hn]
  have e':l=(p++[110,111,116,32])++(btx t++r):=by rw [el,e];simp
  refine zbh (w:=[110,111,116,32]) p.length rfl (by omega) (by omega) (by simp) (fun s es=>?_) (fun hno=>absurd (by rw [el,zah rfl,e,List.append_assoc]) (hno (btx t++r)));have e3:(p++([110,111,116,32]:List UInt8)).length+(btx t).length=p.length+(ttx t).length:=by rw [e];simp;omega
  have:=rest (p++[110,111,116,32]) e' (by rw [e3];exact h);rw [hn] at this;simpa using this
 have hf:t.xNot=false:=by simpa using hn
 have e:ttx t=btx t:=by rw [zab,if_neg hn];rfl
 refine zbh (w:=[110,111,116,32]) p.length rfl (by omega) (by omega) (by simp) (fun s es=>?_) (fun _=>?_)
 ·rw [el,zah rfl,e] at es;exfalso;rcases zbm a1 a2 with e0 | e0 | e0 | e0 <;> simp [btx,nm,e0] at es
 have:=rest p (by rw [el,e]) (by rw [e] at h;exact h);rw [hf] at this;exact this
end
section
open Go.Lib (decDigits)
theorem zrr {x:List UInt8} {O:Int->Prop} (h:∀ v:Int,-1<=v->v<=3->(∀ f:Int,0<=f->f<=3->x=nm f->v=f)->O v) :
  jg (fun (nx202:(Int×Int)->Prop) ((t200,t201):(Int×Int))=>ifW (decide (t201<(([(ByteArray.mk #[102,114,111,109]),(ByteArray.mk #[116,111]),(ByteArray.mk #[112,111,114,116]),(ByteArray.mk #[112,114,111,116,111])]).length:Int))) (jnW (fun (t265:Int)=>je t201 1 (fun t267=>nx202 (t265,t267))) (fun k266=>zE ([(ByteArray.mk #[102,114,111,109]),(ByteArray.mk #[116,111]),(ByteArray.mk #[112,111,114,116]),(ByteArray.mk #[112,114,111,116,111])]) t201 (fun e203=>ifW (decide (B x=e203)) (k266 t201) (k266 t200)))) (O t200)) ((-1),0):=by
 refine zQ 4 (fun s=>s.2) (fun k s=>s.2=(k:Int)∧k<=4∧-1<=s.1∧s.1<=3∧∀ f:Nat,f<k->x=nm (f:Int)->s.1=(f:Int)) (fun k s h=>h.1) (fun k s h=>h.2.1) ?_ ⟨rfl,Nat.zero_le _,by simp,by simp,fun i hi=>by omega⟩;rintro k ⟨v,_⟩ next ⟨rfl,hk,v1,v2,he⟩ hnx;simp only at v1 v2 he;refine zi (fun hc=>?_) (fun hc=>?_)
 ·have hlt:k<4:=by simp at hc;omega
  unfold jnW;refine zlN (by omega) (by omega) ?_;rw [zbs];refine zi (fun hc2=>?_) (fun hc2=>?_)
  ·refine zy (by omega) (by omega) (hnx hlt _ ⟨by simp,by omega,by simp only;omega,by simp only;omega,fun f hf e=>?_⟩);simp at hc2;exact (zrt ⟨by omega,by omega⟩ ⟨by omega,by omega⟩ (hc2.symm.trans e))
  refine zy (by omega) (by omega) (hnx hlt _ ⟨by simp,by omega,v1,v2,fun f hf e=>?_⟩);simp at hc2;by_cases hfk:f=k
  ·subst hfk;exact absurd e hc2
  exact he f (by omega) e
 have hge:k=4:=by simp at hc;omega
 subst hge;refine h v v1 v2 (fun f f0 f1 e=>?_);obtain ⟨i,rfl⟩:=Int.eq_ofNat_of_zero_le f0;exact he i (by omega) e
theorem zma {l:List UInt8} {y:List UInt8} {b:Bool} {O:zI×Bool->Prop} (hy:y.length<=100000000000)
  (hK:∀ f lo hi:Int,-1<=f->f<=3->-1<=lo->lo<=999999->-1<=hi->hi<=999999 ->
   (∀ t:zI,TV t->y=btx t->t.xNot=b->zI.mk f lo hi b=t) ->
   uH (zI.mk f lo hi b) (fun r270=>ifW (!(decide (r270=B l))) (O ((zI.mk 0 0 0 false),false)) (ifW (decide (B l=(ByteArray.mk #[]))) (O ((zI.mk 0 0 0 false),false)) (O ((zI.mk f lo hi b),true))))) :
  ZV (B y) (32:UInt8) (fun (r132,r133)=>ZV r133 (45:UInt8) (fun (r134,r135)=>jnW (fun (t196:ByteArray)=>jg (fun (nx202:(Int×Int)->Prop) ((t200,t201):(Int×Int))=>ifW (decide (t201<(([(ByteArray.mk #[102,114,111,109]),(ByteArray.mk #[116,111]),(ByteArray.mk #[112,111,114,116]),(ByteArray.mk #[112,114,111,116,111])]).length:Int))) (jnW (fun (t265:Int)=>je t201 1 (fun t267=>nx202 (t265,t267))) (fun k266=>zE ([(ByteArray.mk #[102,114,111,109]),(ByteArray.mk #[116,111]),(ByteArray.mk #[112,111,114,116]),(ByteArray.mk #[112,114,111,116,111])]) t201 (fun e203=>ifW (decide (r132=e203)) (k266 t201) (k266 t200)))) (u6 r134 (fun r268=>u6 t196 (fun r269=>jnW (fun (t331:Bool)=>ifW t331 (O ((zI.mk 0 0 0 false),false)) (O ((zI.mk t200 r268 r269 b),true))) (fun k332=>uH (zI.mk t200 r268 r269 b) (fun r270=>ifW (!(decide (r270=B l))) (k332 true) (k332 (decide (B l=(ByteArray.mk #[])))))))))) ((-1),0)) (fun k197=>ifW (decide (r135=(ByteArray.mk #[]))) (k197 r134) (k197 r135)))):=by
 refine ziD (by omega) ?_;have l1:=ze0 (c:=32) y;refine ziD (by omega) ?_;have l2:=ze0 (c:=45) (cut 32 y).2;have key:∀ hi:List UInt8,hi.length<=100000000000->(∀ t:zI,TV t->y=btx t->hi=decDigits t.xHi.toNat) ->
   jg (fun (nx202:(Int×Int)->Prop) ((t200,t201):(Int×Int))=>ifW (decide (t201<(([(ByteArray.mk #[102,114,111,109]),(ByteArray.mk #[116,111]),(ByteArray.mk #[112,111,114,116]),(ByteArray.mk #[112,114,111,116,111])]).length:Int))) (jnW (fun (t265:Int)=>je t201 1 (fun t267=>nx202 (t265,t267))) (fun k266=>zE ([(ByteArray.mk #[102,114,111,109]),(ByteArray.mk #[116,111]),(ByteArray.mk #[112,111,114,116]),(ByteArray.mk #[112,114,111,116,111])]) t201 (fun e203=>ifW (decide (B (cut 32 y).1=e203)) (k266 t201) (k266 t200)))) (u6 (B (cut 45 (cut 32 y).2).1) (fun r268=>u6 (B hi) (fun r269=>jnW (fun (t331:Bool)=>ifW t331 (O ((zI.mk 0 0 0 false),false)) (O ((zI.mk t200 r268 r269 b),true))) (fun k332=>uH (zI.mk t200 r268 r269 b) (fun r270=>ifW (!(decide (r270=B l))) (k332 true) (k332 (decide (B l=(ByteArray.mk #[])))))))))) ((-1),0):=by
  intro hi hhi hhc;refine zrr (O:=fun t200=>u6 (B (cut 45 (cut 32 y).2).1) (fun r268=>u6 (B hi) (fun r269=>jnW (fun (t331:Bool)=>ifW t331 (O ((zI.mk 0 0 0 false),false)) (O ((zI.mk t200 r268 r269 b),true))) (fun k332=>uH (zI.mk t200 r268 r269 b) (fun r270=>ifW (!(decide (r270=B l))) (k332 true) (k332 (decide (B l=(ByteArray.mk #[]))))))))) (fun f f1 f2 f3=>?_);refine zmW (by omega) (fun v v1 v2 v3=>zmW (by omega) (fun u u1 u2 u3=>?_));unfold jnW;simp only [ua];refine hK f v u f1 f2 v1 v2 u1 u2 (fun t ht e en=>?_);obtain ⟨a1,a2,a3,a4,a5⟩:=id ht;have htop:=Ur t.xField;have n32:(32:UInt8) ∉ nm t.xField:=by rcases zbm a1 a2 with e0 | e0 | e0 | e0 <;> rw [e0] <;> decide
  have c1:cut 32 y=(nm t.xField,rtx t):=by rw [e];exact zbB n32
  have ef:f=t.xField:=f3 _ a1 a2 (by rw [c1]);have c2:(cut 45 (cut 32 y).2).1=decDigits t.xLo.toNat:=by
   rw [c1];simp only [rtx];by_cases hh:t.xHi=t.xLo
   ·rw [if_pos hh,List.append_nil,zh3 (zbK (by decide))]
   ·rw [if_neg hh,zbB (zbK (by decide))]
  have ev:=v3 _ c2 (by omega);have eu:=u3 _ (hhc t ht e) (by omega);have evv:v=t.xLo:=by omega
  have euu:u=t.xHi:=by omega
  rw [ef,evv,euu,← en]
 refine zi (fun hc=>?_) (fun hc=>?_)
 ·refine key _ (by omega) (fun t ht e=>?_);have n32:(32:UInt8) ∉ nm t.xField:=by rcases zbm ht.1 ht.2.1 with e0 | e0 | e0 | e0 <;> rw [e0] <;> decide
  have c1:cut 32 y=(nm t.xField,rtx t):=by rw [e];exact zbB n32
  rw [zdO,zbs] at hc
  replace hc:=of_decide_eq_true hc
  rw [c1] at hc ⊢;simp only [rtx] at hc ⊢;by_cases hh:t.xHi=t.xLo
  ·rw [if_pos hh,List.append_nil,zh3 (zbK (by decide)),hh]
  rw [if_neg hh,zbB (zbK (by decide))] at hc;simp [zfr] at hc
 refine key _ (by omega) (fun t ht e=>?_);have n32:(32:UInt8) ∉ nm t.xField:=by rcases zbm ht.1 ht.2.1 with e0 | e0 | e0 | e0 <;> rw [e0] <;> decide
 have c1:cut 32 y=(nm t.xField,rtx t):=by rw [e];exact zbB n32
 rw [zdO,zbs] at hc
 replace hc:=of_decide_eq_false hc
 rw [c1] at hc ⊢;simp only [rtx] at hc ⊢;by_cases hh:t.xHi=t.xLo
 ·rw [if_pos hh,List.append_nil,zh3 (zbK (by decide))] at hc;simp at hc
 rw [if_neg hh,zbB (zbK (by decide))]
theorem zb1 {l:List UInt8} {O:zI×Bool->Prop} (hl:l.length<=10000000000)
  (hK:∀ t:zI,(∀ t':zI,TV t'->ttx t'=l->t=t')->uH t (fun r270=>ifW (!(decide (r270=B l))) (O ((zI.mk 0 0 0 false),false)) (ifW (decide (B l=(ByteArray.mk #[]))) (O ((zI.mk 0 0 0 false),false)) (O (t,true))))):ZB (B l) O:=by
 have nots:∀ t:zI,TV t->t.xNot=false->∀ y,btx t≠110 :: 111 :: 116 :: 32 :: y:=by
  intro t ht hn y e;rcases zbm ht.1 ht.2.1 with e0 | e0 | e0 | e0 <;> simp [btx,nm,e0] at e
 have plain:(∀ y,l≠110 :: 111 :: 116 :: 32 :: y)∨l.length<=4->∀ t:zI,TV t->ttx t=l->t.xNot=false∧l=btx t:=by
  intro hp t ht e;have hnl:=zfw t.xField;by_cases hn:t.xNot=true
  ·rw [zab,if_pos hn] at e;rcases hp with hp | hp
   ·exact absurd e.symm (hp _)
   have:=congrArg List.length e;simp [btx] at this;omega
  have hf:t.xNot=false:=by simpa using hn
  rw [zab,if_neg hn] at e;exact ⟨hf,e.symm⟩
 unfold ZB;have A:((∀ y,l≠110 :: 111 :: 116 :: 32 :: y)∨l.length<=4)->_:=fun hp=>zma (l:=l) (y:=l) (b:=false) (O:=O) (by omega) (fun f lo hi _ _ _ _ _ _ hh=>hK _ (fun t ht e=>hh t ht (plain hp t ht e).2 (plain hp t ht e).1))
 have A2:∀ y,l=110 :: 111 :: 116 :: 32 :: y->_:=fun y hy=>zma (l:=l) (y:=y) (b:=true) (O:=O) (by rw [hy] at hl;simp at hl;omega) (fun f lo hi _ _ _ _ _ _ hh=>hK _ (fun t ht e=>by
  by_cases hn:t.xNot=true
  ·rw [zab,if_pos hn,hy] at e;exact hh t ht (by simpa using e.symm) hn
  have hf:t.xNot=false:=by simpa using hn
  rw [zab,if_neg hn,hy] at e;exact absurd (by simpa using e) (nots t ht hf y)))
 rw [Xr];refine zi (fun hc=>?_) (fun hc=>?_)
 ·simp at hc;refine za0 0 4 rfl rfl (by omega) (by omega) ?_;rw [show (ByteArray.mk #[110,111,116,32])=B [110,111,116,32] from rfl,zbs];refine zi (fun hc2=>?_) (fun hc2=>?_)
  ·simp at hc2;have hy:l=110 :: 111 :: 116 :: 32 :: l.drop 4:=by
    have:=(List.take_append_drop 4 l).symm;rw [hc2] at this;simpa using this
   refine za0 4 l.length rfl rfl (by omega) (by omega) ?_;rw [List.take_length];exact A2 _ hy
  simp at hc2;exact A (.inl fun y e=>hc2 (by rw [e];rfl))
 simp at hc;exact jT (A (.inr (by omega)))
theorem zgB {l:List UInt8} {O:zI×Bool->Prop} (hl:l.length<=10000000000) (hz:O (zI.mk 0 0 0 false,false)) (h:∀ t,TV t->ttx t=l->O (t,true)):ZB (B l) O:=by
 refine zb1 hl (fun t _=>zaz (zi (fun _=>hz) (fun hc=>zi (fun _=>hz) (fun hc2=>?_))));rw [zdO] at hc2;simp [zjb] at hc hc2;by_cases hv:TV t
 ·rw [zhM,if_pos hv] at hc;exact h _ hv hc
 rw [zhM,if_neg hv] at hc;exact absurd hc.symm hc2
theorem zq8 (t:zI):ttx t≠[]:=by
 unfold ttx btx;split <;> simp
theorem zgo {t:zI} {O:zI×Bool->Prop} (ht:TV t) (h:O (t,true)):ZB (B (ttx t)) O:=by
 have hl:=zeo ht;refine zb1 (by omega) (fun t' ht'=>?_);rw [ht' t ht rfl];refine zaz ?_;rw [zhM,if_pos ht,zdO];simp [zjb,zq8];exact h
end
section
open Go.Lib (decDigits)
theorem zq9 (x:Int):-9223372036854775808<=w64 x∧w64 x<=9223372036854775807:=by
 simp [w64,IntKind.wrap,IntKind.signed,IntKind.bits];omega
theorem znl {b:List UInt8} {p tp n:Int} (hb:b.length<=2000) (h0:0<=p) (hp:p<=900000) (ht0:7<=tp) (ht:tp<=65535) (hn:n<=4294967296) {O:zk×Int->Prop} (h:∀ q p',p<=p'->p'<=p+20->-9223372036854775808<=q.xHi->q.xHi<=65536->O (q,p')):X1 b p tp n O:=by
 have rd:∀ p',p<=p'->p'<=p+30->RdP b p':=fun p' a c=>⟨hb,by omega,by omega⟩
 have B3:∀ (t144 t145:Int),p<=t144->t144<=p+6->zw b t144 4 (fun (r150,r151)=>zw b r151 256 (fun (r152,r153)=>zw b r153 4 (fun (r155,r156)=>zE ([0,r150,r152,4096]) r155 (fun e157=>jH b r156 n (fun (r174,r175)=>ifW r174 (zw b r175 3 (fun (r181,r182)=>zE ([(zk.mk (w64 ((min tp (w64 (t145+e157)))+1)) (min tp (w64 (t145+e157)))),(zk.mk (-1) (min tp (w64 (t145+e157)))),(zk.mk t145 (w64 (tp+1)))]) r181 (fun e183=>O ((zk.mk e183.xLo e183.xHi),r182)))) (O ((zk.mk t145 (min tp (w64 (t145+e157)))),r175))))))):=by
  intro t144 t145 g1 g2;refine xO (rd _ (by omega) (by omega)) (fun v1 a1 c1=>xO (rd _ (by omega) (by omega)) (fun v2 a2 c2=>xO (rd _ (by omega) (by omega)) (fun v3 a3 c3=>Zp (by omega) (by simp;omega) (fun x _=>?_))));have hm:=zq9 (t145+x);have hw:w64 (tp+1)=tp+1:=by simp [w64,IntKind.wrap,IntKind.signed,IntKind.bits];omega
  refine ziE (rd _ (by omega) (by omega)) hn (fun c p1 f1 f2=>zi (fun _=>?_) (fun _=>h _ _ (by omega) (by omega) (by simp only;omega) (by simp only;omega)));refine xO (rd _ (by omega) (by omega)) (fun v4 a4 c4=>Zp (by omega) (by simp;omega) (fun y hy=>?_));rw [hw] at hy;have hb:-9223372036854775808<=y.xHi∧y.xHi<=65536:=by rcases zru hy with e | e | e <;> subst e <;> simp only <;> omega
  exact h _ _ (by omega) (by omega) hb.1 hb.2
 unfold X1;refine zy (by omega) (by omega) (xO (rd p (by omega) (by omega)) (fun v a c=>?_));unfold jnW;refine zi (fun _=>?_) (fun _=>?_)
 ·refine xO (rd _ (by omega) (by omega)) (fun v5 a5 c5=>?_);refine zi (fun _=>?_) (fun _=>?_)
  ·exact xO (rd _ (by omega) (by omega)) (fun v6 a6 c6=>B3 _ _ (by omega) (by omega))
  exact B3 _ _ (by omega) (by omega)
 refine zi (fun e=>by cases e) (fun _=>B3 _ _ (by omega) (by omega))
theorem zi4 {b:List UInt8} {p n:Int} (hb:b.length<=2000) (h0:0<=p) (hp:p<=800000) (hn:n<=4294967296) {O:zI×Int->Prop} (h:∀ q p',p<=p'->p'<=p+50->O (q,p')):Xd b p n O:=by
 have rd:∀ p',p<=p'->p'<=p+60->RdP b p':=fun p' a c=>⟨hb,by omega,by omega⟩
 unfold Xd;refine xO (rd p (by omega) (by omega)) (fun f a1 c1=>xO (rd _ (by omega) (by omega)) (fun nt a2 c2=>xF (by omega) (by omega) ?_));have ht:=Ur f;refine znl hb (by omega) (by omega) ht.1 ht.2 (by omega) (fun sp p1 g1 g2 s1 s2=>?_);unfold jnW;have fin:∀ (t241 t242 t243:Int),p<=t241->t241<=p+35->-9223372036854775808<=t243->t243<=65536->jH b t241 n (fun (r245,r246)=>ifW r245 (zw b r246 3 (fun (r247,r248)=>ifW (decide (r247=0)) (zw b r248 2 (fun (r251,r252)=>zE ([(-1),4]) r251 (fun e253=>O ((zI.mk e253 t242 t243 (decide (nt=0))),r252)))) (ifW (decide (r247=1)) (je t243 1 (fun t255=>O ((zI.mk f t255 t243 (decide (nt=0))),r248))) (je (top f) 1 (fun t256=>O ((zI.mk f t242 t256 (decide (nt=0))),r248)))))) (O ((zI.mk f t242 t243 (decide (nt=0))),r246))):=by
  intro t241 t242 t243 q1 q2 q3 q4;refine ziE (rd _ (by omega) (by omega)) hn (fun c p1 f1 f2=>zi (fun _=>?_) (fun _=>h _ _ (by omega) (by omega)));refine xO (rd _ (by omega) (by omega)) (fun v4 a4 c4=>zi (fun _=>?_) (fun _=>zi (fun _=>zy (by omega) (by omega) (h _ _ (by omega) (by omega))) (fun _=>zy (by omega) (by omega) (h _ _ (by omega) (by omega)))));exact xO (rd _ (by omega) (by omega)) (fun v5 a5 c5=>Zp (by omega) (by simp;omega) (fun y _=>h _ _ (by omega) (by omega)))
 have mid:∀ (t152 t153 t154:Int),p<=t152->t152<=p+30->-9223372036854775808<=t154->t154<=65536->zw b t152 8 (fun (r156,r157)=>ifW (decide (r156=0)) (zw b r157 3 (fun (r163,r164)=>zE ([(zk.mk 0 (top f)),(zk.mk 0 t154),(zk.mk t153 (top f))]) r163 (fun e165=>jH b r164 n (fun (r245,r246)=>ifW r245 (zw b r246 3 (fun (r247,r248)=>ifW (decide (r247=0)) (zw b r248 2 (fun (r251,r252)=>zE ([(-1),4]) r251 (fun e253=>O ((zI.mk e253 e165.xLo e165.xHi (decide (nt=0))),r252)))) (ifW (decide (r247=1)) (je e165.xHi 1 (fun t255=>O ((zI.mk f t255 e165.xHi (decide (nt=0))),r248))) (je (top f) 1 (fun t256=>O ((zI.mk f e165.xLo t256 (decide (nt=0))),r248)))))) (O ((zI.mk f e165.xLo e165.xHi (decide (nt=0))),r246)))))) (jH b r157 n (fun (r245,r246)=>ifW r245 (zw b r246 3 (fun (r247,r248)=>ifW (decide (r247=0)) (zw b r248 2 (fun (r251,r252)=>zE ([(-1),4]) r251 (fun e253=>O ((zI.mk e253 t153 t154 (decide (nt=0))),r252)))) (ifW (decide (r247=1)) (je t154 1 (fun t255=>O ((zI.mk f t255 t154 (decide (nt=0))),r248))) (je (top f) 1 (fun t256=>O ((zI.mk f t153 t256 (decide (nt=0))),r248)))))) (O ((zI.mk f t153 t154 (decide (nt=0))),r246))))):=by
  intro t152 t153 t154 q1 q2 q3 q4;refine xO (rd _ (by omega) (by omega)) (fun v4 a4 c4=>zi (fun _=>?_) (fun _=>fin _ _ _ (by omega) (by omega) q3 q4));refine xO (rd _ (by omega) (by omega)) (fun v5 a5 c5=>Zp (by omega) (by simp;omega) (fun y hy=>?_));have hb:-9223372036854775808<=y.xHi∧y.xHi<=65536:=by rcases zru hy with e | e | e <;> subst e <;> simp only <;> omega
  exact fin _ _ _ (by omega) (by omega) hb.1 hb.2
 refine zi (fun _=>?_) (fun _=>?_)
 ·refine xO (rd _ (by omega) (by omega)) (fun v a c=>?_);refine zi (fun _=>?_) (fun _=>mid _ _ _ (by omega) (by omega) s1 s2);refine xO (rd _ (by omega) (by omega)) (fun v2 a2 c2=>xO (rd _ (by omega) (by omega)) (fun v3 a3 c3=>?_));have hw:w64 (v2+v3)=v2+v3:=zdu (by omega) (by omega);exact mid _ _ _ (by omega) (by omega) (by rw [hw];omega) (by rw [hw];omega)
 exact zi (fun e=>by cases e) (fun _=>mid _ _ _ (by omega) (by omega) s1 s2)
end
section
open Go.Lib (decDigits)
def aw (a:Int):List UInt8:=if a=1 then [97,99,99,101,112,116] else if a=2 then [100,114,111,112] else if a=3 then [99,97,108,108] else if a=4 then [114,101,116,117,114,110] else [110,111,110,101]
def TsV (ts:List zI):Prop:=(∀ t,t∈ts->TV t)∧ts.length<=6
instance (ts:List zI):Decidable (TsV ts):=by unfold TsV;infer_instance
def HV (a c:Int):Prop:=1<=a∧a<=5∧(a=3->0<=c∧c<=4)∧(a≠3->c=0)
instance (a c:Int):Decidable (HV a c):=by unfold HV;infer_instance
def RV (r:zo):Prop:=TsV r.xTests∧HV r.xAction r.xChain
instance (r:zo):Decidable (RV r):=by unfold RV;infer_instance
def hd (a c:Int):List UInt8:=aw a++(if a=3 then 32 :: decDigits c.toNat else [])
def tl (ts:List zI):List UInt8:=ts.flatMap (fun t=>44 :: 32 :: ttx t)
def Y9 (r:zo):List UInt8:=hd r.xAction r.xChain++tl r.xTests
def zdQ (r:zo):List UInt8:=if RV r then Y9 r else []
theorem zlf {a:Int} (h0:1<=a) (h1:a<=5):a=1∨a=2∨a=3∨a=4∨a=5:=by omega
theorem zoJ:tl []=[]:=rfl
theorem zdC (t:zI) (ts:List zI):tl (t :: ts)=44 :: 32 :: (ttx t++tl ts):=by simp [tl]
theorem zjF (a b:List zI):tl (a++b)=tl a++tl b:=by simp [tl]
theorem zhZ:∀ (ts:List zI),(∀ t,t∈ts->TV t)->(tl ts).length<=25 * ts.length
 | [],_=>by simp [tl]
 | t :: ts,h=>by
  have h1:=zhZ ts (fun x hx=>h x (by simp [hx]))
  have h2:=zeo (h t (by simp))
  rw [zdC];simp;omega
theorem zjR (a:Int):4<=(aw a).length∧(aw a).length<=6:=by unfold aw;(repeat' split);all_goals simp
theorem zry {a c:Int} (h:HV a c):(hd a c).length<=13:=by
 have:=zjR a;unfold hd;split
 ·rename_i e;have hc:=h.2.2.1 e;have:=zaA (n:=c.toNat) (by omega);simp;omega
 simp;omega
theorem zeY {r:zo} (h:RV r):(Y9 r).length<=163:=by
 have h1:=zry h.2;have h2:=zhZ _ h.1.1;have:=h.1.2;simp [Y9];omega
theorem znj (r:zo):(zdQ r).length<=163:=by
 unfold zdQ;split
 ·rename_i h;exact zeY h
 simp
theorem zbC {ts:List zI} {O:Bool->Prop} (hl:ts.length<=4294967296) (h:O (decide (TsV ts))):Xx ts O:=by
 unfold Xx;refine zQ ts.length (fun s=>s) (fun k s=>s=(k:Int)∧k<=ts.length∧∀ t,t∈ts.take k->TV t) (fun k s h=>h.1) (fun k s h=>h.2.1) ?_ ⟨rfl,Nat.zero_le _,by simp⟩;rintro k _ next ⟨rfl,hk,he⟩ hn;refine zi (fun hc=>?_) (fun hc=>?_)
 ·have hlt:k<ts.length:=by simpa using hc
  refine zq k rfl hlt (V1 (zi (fun hc2=>?_) (fun hc2=>?_)))
  ·simp at hc2;rw [decide_eq_false (fun hh:TsV ts=>hc2 (hh.1 _ (List.getElem_mem hlt)))] at h;exact h
  simp at hc2;refine zy (by omega) (by omega) (hn hlt _ ⟨by omega,by omega,fun t ht=>?_⟩);rw [List.take_succ_eq_append_getElem hlt] at ht;rcases List.mem_append.1 ht with ht | ht
  ·exact he t ht
  rw [List.mem_singleton] at ht;subst ht;exact hc2
 have hge:ts.length<=k:=by simpa using hc
 rw [List.take_of_length_le hge] at he;rw [show decide ((ts.length:Int)<=6)=decide (TsV ts) from decide_eq_decide.2 ⟨fun hh=>⟨he,by omega⟩,fun hh=>by have:=hh.2;omega⟩];exact h
theorem ze6 {ts:List zI} {O:Bool->Prop} (hl:ts.length<=4294967296) (h:O (decide (TsV ts))):Y4 ts O:=by
 unfold Y4;refine zi (fun hc=>?_) (fun hc=>?_)
 ·rw [decide_eq_false (fun hh:TsV ts=>by have:=hh.2;simp at hc;omega)] at h;exact h
 simp at hc;refine zQ ts.length (fun s=>s) (fun k s=>s=(k:Int)∧k<=ts.length∧∀ t,t∈ts.take k->TV t) (fun k s h=>h.1) (fun k s h=>h.2.1) ?_ ⟨rfl,Nat.zero_le _,by simp⟩;rintro k _ next ⟨rfl,hk,he⟩ hn;refine zi (fun hc=>?_) (fun hc=>?_)
 ·have hlt:k<ts.length:=by simpa using hc
  refine zq k rfl hlt (zfR (zi (fun hc2=>?_) (fun hc2=>?_)))
  ·simp at hc2;rw [decide_eq_false (fun hh:TsV ts=>hc2 (hh.1 _ (List.getElem_mem hlt)))] at h;exact h
  simp at hc2;refine zy (by omega) (by omega) (hn hlt _ ⟨by omega,by omega,fun t ht=>?_⟩);rw [List.take_succ_eq_append_getElem hlt] at ht;rcases List.mem_append.1 ht with ht | ht
  ·exact he t ht
  rw [List.mem_singleton] at ht;subst ht;exact hc2
 have hge:ts.length<=k:=by simpa using hc
 rw [List.take_of_length_le hge] at he;rw [show decide (TsV ts)=true from decide_eq_true ⟨he,by omega⟩] at h;exact h
theorem zbT {r:zo} {O:Bool->Prop} (hl:r.xTests.length<=4294967296) (h:O (decide (RV r))):X3 r O:=by
 have no:¬ RV r->O false:=fun hn=>by rw [decide_eq_false hn] at h;exact h
 unfold X3 jnW;refine zbC hl (zi (fun h1=>?_) (fun h1=>no (fun hh=>by simp [hh.1] at h1)));simp at h1;refine zc7 (zi (fun h2=>?_) (fun h2=>no (fun hh=>by simp [hh.2.1,hh.2.2.1] at h2)));simp at h2;refine zi (fun h3=>?_) (fun h3=>?_)
 ·simp at h3;refine zc7 (zi (fun h4=>?_) (fun h4=>?_))
  ·simp at h4;rw [show decide (RV r)=true from decide_eq_true ⟨h1,h2.1,h2.2,fun _=>h4,fun e=>absurd h3 e⟩] at h;exact h
  simp at h4;simp only [h3,decide_true,Bool.not_true,xZ];exact no (fun hh=>by have:=hh.2.2.2.1 h3;omega)
 simp at h3;simp only [h3,decide_false,Bool.not_false,ua];rw [show decide (r.xChain=0)=decide (RV r) from decide_eq_decide.2 ⟨fun hh=>⟨h1,h2.1,h2.2,fun e=>absurd e h3,fun _=>hh⟩,fun hh=>hh.2.2.2.2 h3⟩];exact h
theorem V6 {r:zo} {O:Bool->Prop} (hl:r.xTests.length<=4294967296) (h:O (decide (RV r))):Yb r O:=by
 have no:¬ RV r->O false:=fun hn=>by rw [decide_eq_false hn] at h;exact h
 unfold Yb jnW;refine ze6 hl (zi (fun h1=>no (fun hh=>by simp [hh.1] at h1)) (fun h1=>?_));simp at h1;refine zi (fun h3=>?_) (fun h3=>?_)
 ·simp at h3;refine zi (fun h4=>?_) (fun h4=>no (fun hh=>by have:=hh.2.2.2.1 h3;simp at h4;omega));simp at h4;rw [show decide (r.xChain<5)=decide (RV r) from decide_eq_decide.2 ⟨fun hh=>⟨h1,by omega,by omega,fun _=>⟨h4,by omega⟩,fun e=>absurd h3 e⟩,fun hh=>by have:=hh.2.2.2.1 h3;omega⟩];exact h
 simp at h3;have yes:1<=r.xAction->r.xAction<=5->O (decide (r.xChain=0)):=fun a1 a2=>by
  rw [show decide (r.xChain=0)=decide (RV r) from decide_eq_decide.2 ⟨fun hh=>⟨h1,a1,a2,fun e=>absurd e h3,fun _=>hh⟩,fun hh=>hh.2.2.2.2 h3⟩];exact h
 by_cases e1:r.xAction=1
 ·simp only [e1,decide_true,ua];exact yes (by omega) (by omega)
 by_cases e2:r.xAction=2
 ·simp only [e2,decide_true,ua];exact zi (fun e=>by simp at e) (fun _=>yes (by omega) (by omega))
 by_cases e4:r.xAction=4
 ·simp only [e4,decide_true,ua];exact zi (fun e=>by simp at e) (fun _=>zi (fun e=>by simp at e) (fun _=>yes (by omega) (by omega)))
 by_cases e5:r.xAction=5
 ·simp only [e5,decide_true,ua];exact zi (fun e=>by simp at e) (fun _=>zi (fun e=>by simp at e) (fun _=>zi (fun e=>by simp at e) (fun _=>yes (by omega) (by omega))))
 simp only [e1,e2,e4,e5,decide_false,xZ];exact no (fun hh=>by have:=hh.2.1;have:=hh.2.2.1;omega)
theorem zoS {ts:List zI} {acc:List UInt8} {O:ByteArray->Prop} (hv:∀ t,t∈ts->TV t) (hl:ts.length<=6) (ha:acc.length<=100) (h:O (B (acc++tl ts))) :
  jg (fun (nx81:(ByteArray×Int)->Prop) ((t79,t80):(ByteArray×Int))=>ifW (decide (t80<(ts.length:Int))) (zE ts t80 (fun e82=>yc e82 (fun r86=>uY (ByteArray.mk #[44,32]) r86 (fun s87=>uY t79 s87 (fun s88=>je t80 1 (fun t89=>nx81 (s88,t89))))))) (O t79)) (B acc,0):=by
 refine zQ ts.length (fun s=>s.2) (fun k s=>s=(B (acc++tl (ts.take k)),(k:Int))∧k<=ts.length) (fun k s h=>by rw [h.1]) (fun k s h=>h.2) ?_ ⟨by simp [tl],Nat.zero_le _⟩;rintro k _ next ⟨rfl,hk⟩ hn;have htl:=zhZ (ts.take k) (fun t ht=>hv t (List.mem_of_mem_take ht));simp only [List.length_take] at htl;refine zi (fun hc=>?_) (fun hc=>?_)
 ·have hlt:k<ts.length:=by simpa using hc
  have htv:=hv _ (List.getElem_mem hlt);have htt:=zeo htv;refine zq k rfl hlt (zfs htv (yq (l:=[44,32]) (by simp;omega) (yq (by simp;omega) (zy (by omega) (by omega) (hn hlt _ ⟨?_,by omega⟩)))));rw [List.take_succ_eq_append_getElem hlt,zjF];simp [tl]
 have hge:ts.length<=k:=by simpa using hc
 rw [List.take_of_length_le hge];exact h
end
end Go.Proofs.YtgpdnnhmndlljaaGreatDoor
