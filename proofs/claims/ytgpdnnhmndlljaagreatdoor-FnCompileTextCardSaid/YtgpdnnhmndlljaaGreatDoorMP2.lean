import Derived.Test.YtgpdnnhmndlljaaGreatDoorMA1
import Derived.Test.YtgpdnnhmndlljaaGreatDoorMP13
import Derived.Lib.AppendZeros
import Derived.ArgAppend
import Derived.Test.YtgpdnnhmndlljaaGreatDoorRows
import Derived.Test.YtgpdnnhmndlljaaGreatDoorLibS
set_option linter.unusedSimpArgs false
set_option linter.unusedVariables false
set_option linter.unusedSectionVars false
set_option maxHeartbeats 8000000
set_option maxRecDepth 100000
namespace Go.Proofs.YtgpdnnhmndlljaaGreatDoor
section
open Go.RowKit
abbrev I (x:Int):Value:=.int .i64 x
abbrev pp (b:Nat):Value:=.pointer (some ⟨b,0,none⟩)
abbrev S0:Value:=.slice none 0 0
abbrev Y:Bool:=true
abbrev Z:Bool:=false
section
variable {P:Program} {n:Nat} {G D:Nat->Prop} {w0:World} {Q:Exit->Act->World->Prop} {ops:Array Oper} {rest:List Oper} {R:Act->World->Prop} {E E':Env} {L L' Lb:List Ch} {H:Prop} {k:Nat} {listed:Array Bool}
theorem g1 {V:Type} {a:V}:a=a∧True:=⟨rfl,trivial⟩
theorem g2 {V:Type} {a b:V}:a=a∧b=b∧True:=⟨rfl,g1⟩
theorem g3 {V:Type} {a b c:V}:a=a∧b=b∧c=c∧True:=⟨rfl,g2⟩
theorem g4 {V:Type} {a b c d:V}:a=a∧b=b∧c=c∧d=d∧True:=⟨rfl,g3⟩
theorem g5 {V:Type} {a b c d e:V}:a=a∧b=b∧c=c∧d=d∧e=e∧True:=⟨rfl,g4⟩
theorem g6 {V:Type} {a b c d e f:V}:a=a∧b=b∧c=c∧d=d∧e=e∧f=f∧True:=⟨rfl,g5⟩
theorem rh (l:List Nat) (h:Nx n G D w0 R E' L' H) (hs:zgl E E':=by repeat (first | exact trivial | refine ⟨rfl,?_⟩)) (hl:XR L l=L':=by rfl) (hn:Xn l=true:=by rfl):Nx n G D w0 R E L H:=by
 subst hl;exact pk l hn (re hs h)
theorem pk' (l:List Nat) (h:Nx n G D w0 R E (XR L l) H) (hl:Xn l=true:=by rfl):Nx n G D w0 R E L H:=pk l hl h
theorem da (l:List Nat) {K:Act->World->Prop} (h:Nx n G D w0 K E L H) (hl:XR L l=Lb:=by rfl) (hn:Xn l=true:=by rfl):Nx n G D w0 (fun a w=>Mem G D w0 Lb w∧K a w) E L H:=by
 subst hl;exact zl9 (fun w m=>m.pick l hn) h
theorem rd (l1 l2:List Nat) {K:Act->World->Prop} (h:Nx n G D w0 K E' L' H) (hs:zgl E E':=by repeat (first | exact trivial | refine ⟨rfl,?_⟩)) (hl2:XR L l2=L':=by rfl) (hn2:Xn l2=true:=by rfl) (hl:XR L l1=Lb:=by rfl) (hn:Xn l1=true:=by rfl):Nx n G D w0 (fun a w=>Mem G D w0 Lb w∧K a w) E L H:=by
 subst hl;exact zl9 (fun w m=>m.pick l1 hn) (rh l2 h hs hl2 hn2)
theorem dp {dst:Option Tmp} {op:Op} {ty:TypeId} {pos:String} {aft:Array Edge} (i:Nat) (l:List Nat) [hQ:PanicOk Q] (hl:XR L l=Lb:=by rfl) (hn:Xn l=true:=by rfl) (hi:ops[i]?=some ⟨dst,op,ty,pos,aft,none⟩:=by rfl) (hr:zcb ops listed i=true:=by kernel_rfl) :
  x8 P n G D w0 E ⟨dst,op,ty,pos,aft,none⟩ (wpAnyH P .any ops Q (Mem G D w0 Lb) (k+1) listed) (wpAnyH P .any ops Q (Mem G D w0 Lb) k (listed.setIfInBounds i true)) Lb L:=by
 subst hl;exact dt i (fun w m=>m.pick l hn) hi hr
theorem dI {dst:Option Tmp} {op:Op} {ty:TypeId} {pos:String} {aft:Array Edge} (i:Nat) [hQ:PanicOk Q] (hi:ops[i]?=some ⟨dst,op,ty,pos,aft,none⟩:=by rfl) (hr:zcb ops listed i=true:=by kernel_rfl) :
  x8 P n G D w0 E ⟨dst,op,ty,pos,aft,none⟩ (wpAnyH P .any ops Q (Mem G D w0 L) (k+1) listed) (wpAnyH P .any ops Q (Mem G D w0 L) k (listed.setIfInBounds i true)) L L:=dt i (fun _ m=>m) hi hr
theorem dK (i:Nat) {op:Op} {ty:TypeId} {pos:String} {aft:Array Edge} {d:Tmp} {j dj:Nat} {want:Bool} {v:Value} [hQ:PanicOk Q] (h:Nx n G D w0 (wpAnyH P .any ops Q (Mem G D w0 L) k (listed.setIfInBounds i true)) ((d,undef) :: E) L H)
  (hi:ops[i]?=some ⟨some d,op,ty,pos,aft,some (j,want)⟩:=by rfl) (hr:zcb ops listed i=true:=by kernel_rfl) (hj:(ops[j]?).bind (·.dst)=some dj:=by rfl) (hv:X2 E dj=some v:=by rfl) (hb:nw v want=true:=by rfl) (hd:Nat.blt d n=true:=by rfl):Nx n G D w0 (wpAnyH P .any ops Q (Mem G D w0 L) (k+1) listed) E L H :=
 dsk i (fun _ m=>m) hi hr hj hv hb hd h
theorem ss {op:Op} {ty:TypeId} {pos:String} {aft:Array Edge} {d:Tmp} {j dj:Nat} {want:Bool} {v:Value} (h:Nx n G D w0 (wpList P ops Q rest) ((d,undef) :: E) L H) (hj:(ops[j]?).bind (·.dst)=some dj:=by rfl) (hv:X2 E dj=some v:=by rfl) (hb:nw v want=true:=by rfl) (hd:Nat.blt d n=true:=by rfl):Nx n G D w0 (wpList P ops Q (⟨some d,op,ty,pos,aft,some (j,want)⟩ :: rest)) E L H :=
 zsA hj hv hb hd h
theorem mv {d:Tmp} {x:Operand} {ty:TypeId} {pos:String} {aft:Array Edge} {v:Value} (h:Nx n G D w0 (wpList P ops Q rest) ((d,v) :: E) L H) (hx:oev E x=some v:=by rfl) (hd:Nat.blt d n=true:=by rfl):Nx n G D w0 (wpList P ops Q (⟨some d,.move x,ty,pos,aft,none⟩ :: rest)) E L H:=Vr st hx hd h
theorem ma {d:Tmp} {x:Operand} {ty:TypeId} {pos:String} {aft:Array Edge} {v:Value} (h:Nx n G D w0 (wpList P ops Q rest) ((d,v) :: E) L H) (hx:oev E x=some v:=by rfl) (hd:Nat.blt d n=true:=by rfl):Nx n G D w0 (wpList P ops Q (⟨some d,.assign x,ty,pos,aft,none⟩ :: rest)) E L H:=zd7 st hx hd h
theorem jI (l:List Nat) (hs:zgl E E':=by repeat (first | exact trivial | refine ⟨rfl,?_⟩)) (hl:XR L l=L':=by rfl) (hn:Xn l=true:=by rfl):∀ a w,Has n E a->Mem G D w0 L w->Has n E' a∧Mem G D w0 L' w:=by
 subst hl;exact fun a w hE hm=>⟨hE.sub hs,hm.pick l hn⟩
theorem jE {V:Type} {E':V->Env} {L':V->List Ch} (v:V) (l:List Nat) (hs:zgl E (E' v):=by repeat (first | exact trivial | refine ⟨rfl,?_⟩)) (hl:XR L l=L' v:=by rfl) (hn:Xn l=true:=by rfl):∀ a w,Has n E a->Mem G D w0 L w->∃ v,Has n (E' v) a∧Mem G D w0 (L' v) w:=fun a w hE hm=>⟨v,hE.sub hs,hl ▸ hm.pick l hn⟩
theorem lj {W:Type} {k:W->Prop} {Rel:W->Act->World->Prop} {s:W} (l:List Nat) (hH:H->k s:=by exact fun x=>x) (hr:∀ a w,Has n E' a->Mem G D w0 L' w->Rel s a w:=by exact fun _ _ x y=>⟨x,y⟩) (hs:zgl E E':=by repeat (first | exact trivial | refine ⟨rfl,?_⟩)) (hl:XR L l=L':=by rfl) (hn:Xn l=true:=by rfl):Nx n G D w0 (Exit.then (fun a w=>∃ s,k s∧Rel s a w) Q .normal) E L H:=by
 subst hl;exact fun a w hE hm h=>zN s (fun a w hE hm=>hr a w (hE.sub hs) (hm.pick l hn)) a w hE hm (hH h)
theorem dj {W:Type} {K:W->Prop} {Rel:W->Act->World->Prop} {s:W} (hQ:∀ s a w,K s->Rel s a w->Q .normal a w) (l:List Nat) (hH:H->K s:=by exact fun x=>x) (hr:∀ a w,Has n E' a->Mem G D w0 L' w->Rel s a w:=by exact fun _ _ x y=>⟨x,y⟩) (hs:zgl E E':=by repeat (first | exact trivial | refine ⟨rfl,?_⟩)) (hl:XR L l=L':=by rfl) (hn:Xn l=true:=by rfl) (hd:Region.ready .any ops listed=[]:=by kernel_rfl):Nx n G D w0 (wpAnyH P .any ops Q (Mem G D w0 Lb) k listed) E L H:=by
 subst hl;exact zlk hd (fun a w hE hm h=>hQ s a w (hH h) (hr a w (hE.sub hs) (hm.pick l hn)))
end
abbrev Jn (n:Nat) (M0:List Ch) (F:Nat->Prop) (w0:World) (E:Env) (L:List Ch) (a:Act) (w:World):Prop:=Has n E a∧Mem (gB F M0 w0) (uv M0) w0 L w
abbrev Nn (n:Nat) (M0:List Ch) (F:Nat->Prop) (w0:World) (P:Program) (ops:Array Oper) (Q:Exit->Act->World->Prop) (Lb:List Ch) (i:Nat) (l:Array Bool) (E:Env) (L:List Ch) (H:Prop):Prop :=
 Nx n (gB F M0 w0) (uv M0) w0 (wpAnyH P .any ops Q (Mem (gB F M0 w0) (uv M0) w0 Lb) i l) E L H
abbrev Fr (M0:List Ch) (F:Nat->Prop) (w0:World):Prop:=∀ b,F b->b<w0.heap.size∧¬ uv M0 b
theorem nxj {n:Nat} {G D:Nat->Prop} {w0:World} {R:Act->World->Prop} {E:Env} {L:List Ch} {H:Prop} (h:Nx n G D w0 R E L H):∀ a w,(Has n E a∧Mem G D w0 L w)->H->R a w:=fun a w x y=>h a w x.1 x.2 y
def bq (E:Env):List (Nat×Operand)->Option (List (Nat×Value))
 | []=>some []
 | (i,x) :: r=>match oev E x,bq E r with
  | some v,some q=>some ((i,v) :: q)
  | _,_=>none
theorem bqi {E:Env}:∀ {l:List (Nat×Operand)} {qs:List (Nat×Value)},bq E l=some qs->∀ ρ:Operand->Value,(∀ x v,oev E x=some v->ρ x=v)->(l.toArray.map fun (i,x)=>(i,ρ x))=qs.toArray
 | [],qs,h,ρ,hρ=>by cases h;simp
 | (i,x) :: r,qs,h,ρ,hρ=>by
  unfold bq at h
  cases e1:oev E x with
  | none=>rw [e1] at h;cases h
  | some v =>
   cases e2:bq E r with
   | none=>rw [e1,e2] at h;cases h
   | some q =>
    rw [e1,e2] at h
    cases h
    have:=bqi e2 ρ hρ
    simp only [List.map_toArray,List.map_cons] at this ⊢
    rw [hρ x v e1,List.toArray_inj this]
section
variable {P:Program} {n:Nat} {G D:Nat->Prop} {w0:World} {E:Env} {L:List Ch}
theorem lu {M0:List Ch} {ρ:Type} {F:Nat->Prop} {fn:Func} {s:Nat} {O:ρ->Prop} {val:ρ->Unit->Value} {r:ρ} (hres:fn.results=#[.tmp s]) (hs:X2 E s=some (val r ()):=by rfl):Nx n G (uv M0) w0 (bodyPost P fn (Ret M0 F w0 O val (fun _ _=>[])) .ret) E L (O r):=Zd hres r () (uZ hs) (fun _ _=>yr.nil _ _ _ _)
theorem d1 {dst:Option Tmp} {op:Op} {ty:TypeId} {pos:String} {aft:Array Edge} {ops:Array Oper} {Q:Exit->Act->World->Prop} {Lb:List Ch} {k:Nat} {listed:Array Bool} {H:Prop} (i:Nat) (hi:ops[i]?=some ⟨dst,op,ty,pos,aft,none⟩)
  (h:Nx n G D w0 (fun a w=>Oper.wp P ⟨dst,op,ty,pos,aft,none⟩ a w (fun a' w'=>Mem G D w0 Lb w'∧wpAnyH P .any ops Q (Mem G D w0 Lb) k (listed.setIfInBounds i true) a' w') Q) E L H) (hr:Region.ready .any ops listed=[i]:=by kernel_rfl):Nx n G D w0 (wpAnyH P .any ops Q (Mem G D w0 Lb) (k+1) listed) E L H:=zqB hi hr h
end
theorem eS {P:Program} {n:Nat} {w0:World} {H:Prop} {F:Nat->Prop} {f:Nat} {fn:Func} {c:Code} {args:List Value} {K:Ending->World->Prop} (hF:Fr [] F w0) (hf:P.funcs[f]?=some fn) (hn:fn.ntmps=n) (hH:H) (h:Nx n (gB F [] w0) (uv []) w0 (c.wp P (bodyPost P fn K)) (zc3 0 args) ([]++[zl w0 F]) H) (hb:fn.body=some c:=by rfl) (hle:Nat.ble args.length n=true:=by rfl):Calls P f args.toArray w0 K :=
 yO [] hF (xz.nil _ _) hf hb hn hle hH h
abbrev Cl (P:Program) (f:Nat) (ar:Array Value) (w0:World) {ρ ν:Type} (M0:List Ch) (F:Nat->Prop) (O:ρ->Prop) (val:ρ->ν->Value) (N:ρ->ν->List Ch):Prop:=Calls P f ar w0 (Ret M0 F w0 O val N)
theorem Y5 {V:Type} {E':El V} {F:Nat->Prop} {w:World} {v1 v2 v3 v4:Value} {a b c d:List V} (h1:Sl E' F w v1 a) (h2:Sl E' F w v2 b) (h3:Sl E' F w v3 c) (h4:Sl E' F w v4 d):Rows (z8 E') F w [a,b,c,d] [[v1],[v2],[v3],[v4]]:=⟨⟨v1,rfl,h1⟩,⟨v2,rfl,h2⟩,⟨v3,rfl,h3⟩,⟨v4,rfl,h4⟩,trivial⟩
theorem dtw {P:Program} {n:Nat} {G D:Nat->Prop} {w0:World} {E:Env} {L Lb:List Ch} {ops:Array Oper} {Q:Exit->Act->World->Prop} {k:Nat} {listed:Array Bool} {H:Prop} {o1 o2:Oper} (i j:Nat) (hi:ops[i]?=some o1) (hj:ops[j]?=some o2)
  (h1:Nx n G D w0 (fun a w=>Oper.wp P o1 a w (fun a' w'=>Mem G D w0 Lb w'∧wpAnyH P .any ops Q (Mem G D w0 Lb) k (listed.setIfInBounds i true) a' w') Q) E L H)
  (h2:Nx n G D w0 (fun a w=>Oper.wp P o2 a w (fun a' w'=>Mem G D w0 Lb w'∧wpAnyH P .any ops Q (Mem G D w0 Lb) k (listed.setIfInBounds j true) a' w') Q) E L H)
  (hg1:o1.guard=none:=by rfl) (hg2:o2.guard=none:=by rfl) (hr:Region.ready .any ops listed=[i,j]:=by kernel_rfl):Nx n G D w0 (wpAnyH P .any ops Q (Mem G D w0 Lb) (k+1) listed) E L H :=
 zsm (by rw [hi];simp [hg1]) (by rw [hj];simp [hg2]) hr (fun o ho=>by rw [hi] at ho;cases ho;exact h1) (fun o ho=>by rw [hj] at ho;cases ho;exact h2)
theorem rf {P:Program} {f:Nat} {ar:Array Value} {ρ ν:Type} {M0:List Ch} {F F':Nat->Prop} {w:World} {O:ρ->Prop} {val:ρ->ν->Value} {N:ρ->ν->List Ch} (hf:∀ r s,∀ c∈N r s,c.free) (h:Calls P f ar w (Ret M0 F w O val N)):Calls P f ar w (Ret M0 F' w O val N):=h.mono (fun _ _ k=>zog hf k)
theorem rf0 {P:Program} {f:Nat} {ar:Array Value} {ρ ν:Type} {M0:List Ch} {F F':Nat->Prop} {w:World} {O:ρ->Prop} {val:ρ->ν->Value} (h:Calls P f ar w (Ret M0 F w O val (fun _ _=>[]))):Calls P f ar w (Ret M0 F' w O val (fun _ _=>[])):=rf (fun _ _=>ZE) h
theorem Mem.q {G D:Nat->Prop} {w0 wr:World} {F0:Nat->Prop} {V:Type} {El':El V} {v:Value} {xs:List V} {w:World} {L:List Ch} (m:Mem G D w0 L w) (i:Nat) (S:Sl El' F0 wr v xs) (hi:xH L i=some (zl wr F0):=by rfl):Sl El' (fun b=>b<w.heap.size∧¬ uv [] b) w v xs:=m.rd0 i hi (zb S)
theorem Mem.qM {G D:Nat->Prop} {w0 wr:World} {F0:Nat->Prop} {V:Type} {El':El V} {v:Value} {xs:List V} {w:World} {M0 L':List Ch} (m:Mem G D w0 (M0++L') w) (i:Nat) (S:Sl El' F0 wr v xs) (hi:xH L' i=some (zl wr F0):=by rfl):Sl El' (fun b=>b<w.heap.size∧¬ uv M0 b) w v xs:=m.rdM i hi (zb S)
end
section
open Go.RowKit
section
variable {P:Program} {n k e sz by':Nat} {G D:Nat->Prop} {w0:World} {Q:Exit->Act->World->Prop} {ops:Array Oper} {rest:List Oper} {R Tk:Act->World->Prop} {E:Env} {L Lb M Lr:List Ch} {H:Prop} {dst:Option Tmp} {op:Op} {ty T T' S:TypeId} {pos:String} {aft:Array Edge} {listed:Array Bool} {d:Tmp} {gd:Option (Nat×Bool)} {x y:Operand} {at':Array TypeId}
theorem zg {c:Operand} {x y:Code} {t:Bool} {A B:Prop} (hx:Nx n G D w0 (x.wp P Q) E L A) (hy:Nx n G D w0 (y.wp P Q) E L B) (hc:oev E c=some (.bool t):=by rfl):Nx n G D w0 ((Code.cond c x y).wp P Q) E L (ifW t A B) :=
 fun a w hE hm hH=>wp_cond_split (hE.eval hc) (fun h=>hx a w hE hm (hH.1 h)) (fun h=>hy a w hE hm (hH.2 h))
theorem znc {c:Operand} {x y:Code} (hx:Nx n G D w0 (x.wp P Q) E L H) (hc:oev E c=some (.bool true):=by rfl):Nx n G D w0 ((Code.cond c x y).wp P Q) E L H:=zhC hc hx
theorem zY (h:Nx n G D w0 (Q .normal) E L H) (hr:Region.ready .any ops listed=[]:=by kernel_rfl):Nx n G D w0 (wpAnyH P .any ops Q (Mem G D w0 Lb) k listed) E L H:=zlk hr h
theorem zO (M:x8 P n G D w0 E ⟨some d,.binOp .add T x y T',ty,pos,aft,gd⟩ Tk R Lr L) {X Y:Int} {O:Int->Prop} (k:∀ z,Nx n G D w0 R ((d,.int .i64 z) :: E) L (O z)) (hx:oev E x=some (.int .i64 X):=by rfl) (hy:oev E y=some (.int .i64 Y):=by rfl) (hd:Nat.blt d n=true:=by rfl):Nx n G D w0 Tk E L (je X Y O) :=
 M.val (v:=.int .i64 (X+Y)) hd rfl (fun ρ w hE _ hH=>by
  have h:=hH.1
  have e:IntKind.i64.wrap (X+Y)=X+Y:=by unfold I64 at h;rw [IntKind.wrap_i64];omega
  simp [execOp,hE _ _ hx,hE _ _ hy,go_sem,e]) (fun h=>h.2) (k _)
theorem UW (M:x8 P n G D w0 E ⟨some d,.binOp .add T x y T',ty,pos,aft,gd⟩ Tk R Lr L) {X Y:Int} (k:Nx n G D w0 R ((d,.int .i64 (w64 (X+Y))) :: E) L H) (hx:oev E x=some (.int .i64 X):=by rfl) (hy:oev E y=some (.int .i64 Y):=by rfl) (hd:Nat.blt d n=true:=by rfl):Nx n G D w0 Tk E L H :=
 M.val hd rfl (fun ρ w hE _ _=>by simp [execOp,hE _ _ hx,hE _ _ hy,go_sem,w64]) id k
theorem zS (cs:List Value) (hz:uR P T=some cs) (k:∀ b,Nx n G D w0 R ((d,.pointer (some ⟨b,0,none⟩)) :: E) (zc b cs T :: L) H) (hd:Nat.blt d n=true:=by rfl):Nx n G D w0 (fun a w=>Oper.wp P ⟨some d,.alloc T,ty,pos,aft,gd⟩ a w R Q) E L H:=zeG hd cs hz k
theorem uy {V:Type} {El':El V} {z:V} {len:Nat} {cs zs:List Value} (hz:∀ F w,El'.cells F w z zs) (hzr:uR P T=some cs) (k:∀ b,Nx n G D w0 R ((d,.pointer (some ⟨b,0,none⟩)) :: E) (zf El' T (.slice (some ⟨b,0,none⟩) len len) (List.replicate len z) :: L) H) (hd:Nat.blt d n=true:=by rfl) (hcs:(List.replicate len zs).flatten=cs:=by rfl) (hlen:Nat.ble len 65536=true:=by rfl):Nx n G D w0 (fun a w=>Oper.wp P ⟨some d,.alloc T,ty,pos,aft,gd⟩ a w R Q) E L H :=
 YU hd rfl fun ρ w hE hm hH=>by
  unfold uR at hzr
  cases hi:P.info? T with
  | none=>simp [hi] at hzr
  | some i =>
   cases hz':i.zero with
   | none=>simp [hi,hz'] at hzr
   | some zv =>
    simp [hi,hz'] at hzr
    have hlz:zs.length=El'.size:=El'.len _ _ _ _ (hz (fun _=>True) w)
    refine ⟨_,w.alloc (.cells cs.toArray T),_,H,by simp [execOp,Instr.alloc,zeroValue,typeInfo,hi,hz',newVar,newRow,← hzr],?_,hH,k w.heap.size⟩
    refine hm.add _ ((Below.refl _ _).alloc (Nat.le_refl _) _) (fun b hb=>by simp [zf,Value.ownBlock] at hb;rw [World.size_alloc];omega) ?_
    have hle:=Nat.le_of_ble_eq_true hlen
    have hown:=zdn (El':=El') (F:=fz G (zf El' T (.slice (some ⟨w.heap.size,0,none⟩) len len) (List.replicate len z) :: L) (w.alloc (.cells cs.toArray T))) (w:=w.alloc (.cells cs.toArray T)) (ty:=T) (b:=w.heap.size) (cap:=len)
     (Rows.replicate (hz _ _) len) (heap_alloc_new w _) (by simp) (by unfold maxLen;omega) (by rw [← hcs];simp [hlz]) (by
      rw [← hcs,List.length_replicate,List.take_of_length_le (by simp [hlz])])
    rw [List.length_replicate] at hown
    exact hown
theorem jW {V:Type} {El':El V} {v u:Value} {xs ys:List V} {c:Ch} {O:List V->Prop} {zs:List Value} (i:Nat) (j:Nat) (hc:Src c El' u ys) (hT:elB P T=some (e,sz,by')) (hzr:uR P e=some zs) (k:∀ v',Nx n G D w0 R ((d,v') :: E) (ZQ L i (zf El' e v' (xs++ys))) (O (xs++ys))) (hi:xH L i=some (zf El' e v xs):=by rfl) (hj:xH L j=some c:=by rfl) (hx:oev E x=some v:=by rfl) (hy:oev E y=some u:=by rfl) (hd:Nat.blt d n=true:=by rfl) (hby:Nat.ble by' 32768=true:=by rfl) (hzl:zs.length=sz:=by rfl) (hes:El'.size=sz:=by rfl):Nx n G D w0 (fun a w=>Oper.wp P ⟨some d,.call {callee:=.builtin .append,args:=#[x,y],argTypes:=#[T,T]},ty,pos,aft,gd⟩ a w R Q) E L (jQ xs ys O):=zqC i j hi hj hc hx hy hd hT hby hzr hzl hes k
theorem yf {V:Type} {E':DEl V} {v u:Value} {xs ys:List V} {B C:List Nat} {O:List V->Prop} {zs:List Value} (hT:elB P T=some (e,sz,by')) (hzr:uR P e=some zs) (k:∀ B' v',Nx n G D w0 R ((d,v') :: E) (jq E' e B' v' (xs++ys) :: L) (O (xs++ys))) (hx:oev E x=some v:=by rfl) (hy:oev E y=some u:=by rfl) (hd:Nat.blt d n=true:=by rfl) (hby:Nat.ble by' 32768=true:=by rfl) (hzl:zs.length=sz:=by rfl) (hes:E'.el.size=sz:=by rfl):Nx n G D w0 (fun a w=>Oper.wp P ⟨some d,.call {callee:=.builtin .append,args:=#[x,y],argTypes:=#[T,T]},ty,pos,aft,gd⟩ a w R Q) E (jq E' e B v xs :: jq E' e C u ys :: L) (jQ xs ys O) :=
 YU hd rfl fun ρ w hE hm hH=>by
  obtain ⟨h0,h1⟩:=hH
  obtain ⟨hu,inf,hinf,rfl,rfl⟩:=yZ hT
  obtain ⟨z',hz',hzc⟩:=Z7 hzr hinf
  unfold zf5 at h0
  have hbl:=Nat.le_of_ble_eq_true hby
  obtain ⟨bn,css,Bs,hr,how,hB⟩:=hm.hold _ (List.mem_cons_self ..)
  obtain ⟨cn,dss,Cs,hrd,hod,hC⟩:=hm.hold (jq E' e C u ys) (List.mem_cons_of_mem _ (List.mem_cons_self ..))
  have hdis:∀ b,b∈B->b ∉ C:=fun b hb=>(List.pairwise_cons.1 hm.disj).1 _ (List.mem_cons_self ..) b hb
  have hBn:=hB.nodup_iff.1 bn
  have hCn:=hC.nodup_iff.1 cn
  rw [List.nodup_append] at hBn hCn
  have hinB:∀ b,b∈Bs.flatten->b∈B:=fun b hb=>hB.symm.subset (List.mem_append.2 (.inr hb))
  have hinC:∀ b,b∈Cs.flatten->b∈C:=fun b hb=>hC.symm.subset (List.mem_append.2 (.inr hb))
  have hvB:∀ b,v.ownBlock=some b->b∈B:=fun b hb=>hB.symm.subset (List.mem_append.2 (.inl (Zo.2 hb)))
  have hlB:=hr.lt
  have hlC:=hrd.lt
  have hone:=(hrd.rows (F:=fun _=>True) (fun _ _=>trivial)).one
  have hlen:=(hrd.rows (F:=fun _=>True) (fun _ _=>trivial)).length
  rw [hes] at hlen
  have hsrc:∃ a cap,u=.slice a ys.length cap∧((∃ ad,a=some ad∧∀ j q,dss.flatten[j]?=some q->w.cell? (ad.add j)=some q)∨(ys=[]∧a=none)):=by
   rcases hod.2 with ⟨rfl,hn⟩ | ⟨g,cap,cur,rfl,_,hg,_,_,_,ht⟩
   ·have:ys=[]:=List.eq_nil_of_length_eq_zero hn
    subst this
    exact ⟨none,0,rfl,.inr ⟨rfl,rfl⟩⟩
   ·refine ⟨_,cap,rfl,.inl ⟨_,rfl,fun j q hq=>?_⟩⟩
    rw [Addr.add_mid,cell_of_row w g _ cur e (0,0) hg]
    rw [← ht,List.getElem?_take] at hq
    split at hq
    ·simpa using hq
    ·cases hq
  obtain ⟨a,cap,rfl,hsrc⟩:=hsrc
  rcases hsrc with ⟨ad,rfl,hcell⟩ | ⟨rfl,rfl⟩
  ·obtain ⟨v',w',g1,g2,g3,_,g5⟩:=run_append_own_at (P:=P) w 0 T ty e inf z' inf.size inf.bytes hu hinf hz' rfl rfl (by rw [hzc];simpa using hzl) (by rw [← hes];exact E'.el.pos)
    v xs.length css.flatten (by rw [← hes];exact how) ad ys.length cap dss.flatten hlen hcell hone (by unfold maxLen;omega) (by
     have:=Nat.mul_le_mul h0 hbl
     omega) (Nat.zero_le _)
   have hv':∀ b,v'.ownBlock=some b->v.ownBlock=some b∨b=w.heap.size:=fun b hb=>by
    rcases g5 with g5 | g5
    ·exact .inl (by rw [← g5];exact hb)
    ·right;rw [hb] at g5;simpa using g5
   have hkeepB:∀ b,b∈Bs.flatten->w'.heap[b]?=w.heap[b]?:=fun b hb=>g3.block b (hlB b hb) (fun e'=>hBn.2.2 b (Zo.2 e'.symm) b hb rfl)
   have hkeepC:∀ b,b∈Cs.flatten->w'.heap[b]?=w.heap[b]?:=fun b hb=>g3.block b (hlC b hb) (fun e'=>hdis b (hvB b e'.symm) (hinC b hb))
   refine ⟨v',w',_,O (xs++ys),by simp [execOp,resolve,invoke,builtin,hE _ _ hx,hE _ _ hy,g1],?_,h1,k (zaM v'++(Bs++Cs).flatten) v'⟩
   refine hm.repl (M0:=[jq E' e B v xs,jq E' e C (.slice (some ad) ys.length cap) ys]) (N:=[jq E' e (zaM v'++(Bs++Cs).flatten) v' (xs++ys)])
    ⟨g3.os,g3.tape,g3.output,g3.size,fun b hb hne=>g3.block b hb (fun e'=>hne ⟨_,List.mem_cons_self ..,hvB b e'.symm⟩)⟩ (fun c hc b hb=>?_) (List.pairwise_singleton _ _) (fun c hc F=>?_)
   ·simp only [List.mem_cons,List.not_mem_nil,or_false] at hc
    subst hc
    have hb':b∈zaM v'++(Bs++Cs).flatten:=hb
    rw [List.flatten_append] at hb'
    have hsz:=g3.size
    rcases List.mem_append.1 hb' with hb' | hb'
    ·have hlt:=(g2.lt b (Zo.1 hb')).2
     rcases hv' b (Zo.1 hb') with h | h
     ·exact ⟨.inr ⟨_,List.mem_cons_self ..,hvB b h⟩,hlt⟩
     ·exact ⟨.inl (by omega),hlt⟩
    ·rcases List.mem_append.1 hb' with hb' | hb'
     ·exact ⟨.inr ⟨_,List.mem_cons_self ..,hinB b hb'⟩,by have:=hlB b hb';omega⟩
     ·exact ⟨.inr ⟨_,List.mem_cons_of_mem _ (List.mem_cons_self ..),hinC b hb'⟩,by have:=hlC b hb';omega⟩
   ·simp only [List.mem_cons,List.not_mem_nil,or_false] at hc
    subst hc
    refine ⟨?_,css++dss,Bs++Cs,(hr.keep hkeepB).append (hrd.keep hkeepC),by rw [List.flatten_append,List.length_append,hes];exact g2,List.Perm.refl _⟩
    rw [List.flatten_append,List.nodup_append,List.nodup_append]
    refine ⟨zhE _,⟨hBn.2.1,hCn.2.1,fun b hb c hc e'=>hdis b (hinB b hb) (by rw [e'];exact hinC c hc)⟩,fun b hb c hc e'=>?_⟩
    subst e'
    rcases hv' b (Zo.1 hb) with h | h
    ·rcases List.mem_append.1 hc with hc | hc
     ·exact hBn.2.2 b (Zo.2 h) b hc rfl
     ·exact hdis b (hvB b h) (hinC b hc)
    ·rcases List.mem_append.1 hc with hc | hc
     ·have:=hlB b hc;omega
     ·have:=hlC b hc;omega
  ·have hrun:(Builtin.append_ #[T,T] ty #[v,.slice none 0 cap]).run P w=.ok v w:=by
    rcases how.2 with ⟨rfl,hn0⟩ | ⟨g,cap',cur,rfl,_,_,hnc,_⟩
    ·simp [Builtin.append_,run_underlying hu,sizeOf,typeInfo,hinf,Builtin.lenOf,Builtin.firstCells]
    ·simp [Builtin.append_,run_underlying hu,sizeOf,typeInfo,hinf,Builtin.lenOf,Builtin.firstCells,hnc,storeCells]
   refine ⟨v,w,jq E' e B v xs :: L,O xs,by simp [execOp,resolve,invoke,builtin,hE _ _ hx,hE _ _ hy,hrun],hm.sub ((List.sublist_cons_self _ _).cons_cons _),by simpa using h1,?_⟩
   have:=k B v
   rwa [List.append_nil] at this
theorem jU (M:x8 P n G D w0 E ⟨some d,.assign x,ty,pos,aft,gd⟩ Tk R Lr L) {v:Value} (k:Nx n G D w0 R ((d,v) :: E) L H) (hx:oev E x=some v:=by rfl) (hd:Nat.blt d n=true:=by rfl):Nx n G D w0 Tk E L H:=zd7 M hx hd k
theorem ZS {V:Type} (E':DEl V) (e:TypeId) (k:Nx n G D w0 R ((d,.slice none 0 0) :: E) (jq E' e [] (.slice none 0 0) [] :: L) H) (hx:oev E x=some (.slice none 0 0):=by rfl) (hd:Nat.blt d n=true:=by rfl):Nx n G D w0 (fun a w=>Oper.wp P ⟨some d,.assign x,ty,pos,aft,gd⟩ a w R Q) E L H :=
 YU hd rfl fun ρ w hE hm hH=>⟨_,w,_,H,by simp [execOp,hE _ _ hx],zan E' e hm,hH,k⟩
theorem jM {V:Type} (El':El V) (e:Nat) (k:Nx n G D w0 R ((d,.slice none 0 0) :: E) (zf El' e (.slice none 0 0) [] :: L) H) (hx:oev E x=some (.slice none 0 0):=by rfl) (hd:Nat.blt d n=true:=by rfl):Nx n G D w0 (fun a w=>Oper.wp P ⟨some d,.assign x,ty,pos,aft,gd⟩ a w R Q) E L H :=
 YU hd rfl fun ρ w hE hm hH=>⟨_,w,_,H,by simp [execOp,hE _ _ hx],zfo El' e hm,hH,k⟩
theorem zoi (M:x8 P n G D w0 E ⟨some d,.convert T T' x,ty,pos,aft,gd⟩ Tk R Lr L) {El':El UInt8} {v:Value} {xs:List UInt8} {c:Ch} {e:TypeId} (i:Nat) (hc:UP c El' v xs) (hfl:VH El' zro) (hT:P.underlying T=some (.slice e)) (hE:P.underlying e=some (.int .u8)) (hT':P.underlying T'=some .string) (k:Nx n G D w0 R ((d,.string ⟨xs.toArray⟩) :: E) L H) (hi:xH Lr i=some c:=by rfl) (hsz:El'.size=1:=by rfl) (hx:oev E x=some v:=by rfl) (hd:Nat.blt d n=true:=by rfl):Nx n G D w0 Tk E L H :=
 M.val hd rfl (fun ρ w hEv hm _=>by
  obtain ⟨a,cap,rfl,hcap,hr⟩:=hc _ _ (hm.get hi)
  have key:(Conv.bytesToString (.slice a xs.length cap)).run P w=.ok (.string ⟨xs.toArray⟩) w:=by
   cases xs with
   | nil =>
    cases a with
    | none=>simp [Conv.bytesToString,Sem.run_pure];rfl
    | some a =>
     have:=run_bytesToString (P:=P) w a 0 cap [] (by simp [loadCells,loadCellsFrom])
     have e0:(⟨([]:List UInt8).toArray⟩:ByteArray)=ByteArray.empty:=rfl
     rw [e0]
     simpa using this
   | cons z r =>
    obtain ⟨b,off,rfl,_,hx'⟩:=hr (by simp)
    have hl:=run_loadCells_list (P:=P) (w:=w) ⟨b,off,none⟩ ((z :: r).map fun x=>.int .u8 (x.toNat:Int)) (fun j v hv=>by
     rw [List.getElem?_map] at hv
     cases hz:(z :: r)[j]? with
     | none=>rw [hz] at hv;simp at hv
     | some q =>
      rw [hz] at hv
      simp at hv
      subst hv
      obtain ⟨cs,h1,h2⟩:=hx' j q hz
      rw [(hfl _ _ _ _).1 h1] at h2
      have:=h2 0 (.int .u8 (q.toNat:Int)) rfl
      rw [hsz] at this
      rw [Addr.add_mid]
      simpa using this)
    have hl':(loadCells ⟨b,off,none⟩ (z :: r).length).run P w=.ok (((z :: r).map fun x=>(x.toNat:Int)).map (Value.int .u8)).toArray w:=by
     have e1:((z :: r).map fun x=>Value.int .u8 (x.toNat:Int))=(((z :: r).map fun x=>(x.toNat:Int)).map (Value.int .u8)):=by simp
     rw [e1] at hl
     simpa using hl
    have:=run_bytesToString (P:=P) w ⟨b,off,none⟩ (z :: r).length cap ((z :: r).map fun x=>(x.toNat:Int)) hl'
    rw [zla] at this
    rw [this]
    congr 3
    simp [ByteArray.empty,ByteArray.emptyWithCapacity]
    rfl
  have hcv:=run_convert_bytes_string (P:=P) w T T' e a xs.length cap hT hE hT'
  simp only [execOp,hEv _ _ hx,Sem.run_bind,hcv,key]
  rfl) id k
theorem zkb {b:BinOp} (M:x8 P n G D w0 E ⟨some d,.binOp b T x y T',ty,pos,aft,gd⟩ Tk R Lr L) {u v:Value} (c:Value) (hr:∀ w,(do eqGuard b T x y u v;binOp b T u v:Sem Value).run P w=.ok c w) (k:Nx n G D w0 R ((d,c) :: E) L H) (hx:oev E x=some u:=by rfl) (hy:oev E y=some v:=by rfl) (hd:Nat.blt d n=true:=by rfl):Nx n G D w0 Tk E L H :=
 M.val hd rfl (fun ρ w hE _ _=>by
  have h:=hr w
  simp only [execOp,hE _ _ hx,hE _ _ hy]
  rw [Sem.run_bind,h]
  rfl) id k
theorem jo {ps:Array (Nat×Operand)} (M:x8 P n G D w0 E ⟨some d,.build T ps,ty,pos,aft,gd⟩ Tk R Lr L) {qs:List (Nat×Value)} {cells zs:List Value} {pl:Array (Nat×Nat)} (hq:∀ ρ:Operand->Value,(∀ x v,oev E x=some v->ρ x=v)->(ps.map fun (i,x)=>(i,ρ x))=qs.toArray) (hT:zb2 P T=some (pl,zs)) (k:Nx n G D w0 R ((d,.agg cells.toArray) :: E) L H) (hd:Nat.blt d n=true:=by rfl) (hfill':zcA (pl[·]?) zs qs=some cells:=by rfl):Nx n G D w0 Tk E L H :=
 M.val hd rfl (fun ρ w hE hm _=>by
  have hfill:=zey _ _ _ _ hfill'
  unfold zb2 at hT
  split at hT
  ·rename_i fs zs' hu hz
   cases hp:(fs.toList.mapM fun (f:Field)=>(P.info? f.type).map fun i=>(f.offset,i.size)) with
   | none=>rw [hp] at hT;simp at hT
   | some l =>
    rw [hp] at hT
    simp at hT
    obtain ⟨rfl,rfl⟩:=hT
    have hr:=zhF (w:=w) fs.toList l hp
    cases hi:P.info? T with
    | none=>simp [uR,hi] at hz
    | some i =>
     obtain ⟨z,hz1,hz2⟩:=Z7 hz hi
     have hr':(fs.mapM fun f=>(do pure (f.offset,← sizeOf f.type):Sem (Nat×Nat))).run P w=.ok l.toArray w:=by
      have h2:(fs.mapM fun f=>(do pure (f.offset,← sizeOf f.type):Sem (Nat×Nat)))=Functor.map List.toArray (fs.toList.mapM fun f=>(do pure (f.offset,← sizeOf f.type):Sem (Nat×Nat))):=by
       rw [← List.mapM_toArray,Array.toArray_toList]
      rw [h2,map_eq_pure_bind,Sem.run_bind,hr]
      rfl
     have hz3:(zeroValue T).run P w=.ok z w:=by simp [zeroValue,typeInfo,hi,hz1]
     have hb:(Instr.build T qs.toArray).run P w=.ok (.agg cells.toArray) w:=by
      unfold Instr.build
      rw [Sem.run_bind,hz3,Result.andThen_ok,Sem.run_bind,run_underlying hu,Result.andThen_ok]
      simp only
      rw [Sem.run_bind,hr',Result.andThen_ok]
      rw [hz2,hfill]
      rfl
     simp only [execOp,hq ρ hE,Sem.run_bind,hb]
     rfl
  ·simp at hT) id k
theorem zdm {ps:Array (Nat×Operand)} (M:x8 P n G D w0 E ⟨some d,.build T ps,ty,pos,aft,gd⟩ Tk R Lr L) {qs:List (Nat×Value)} {cells zs:List Value} {sz:Nat} (hq:∀ ρ:Operand->Value,(∀ x v,oev E x=some v->ρ x=v)->(ps.map fun (i,x)=>(i,ρ x))=qs.toArray) (hT:zpS P T=some (sz,zs)) (k:Nx n G D w0 R ((d,.agg cells.toArray) :: E) L H) (hd:Nat.blt d n=true:=by rfl) (hfill':zcA (fun i=>some (i * sz,sz)) zs qs=some cells:=by rfl):Nx n G D w0 Tk E L H :=
 M.val hd rfl (fun ρ w hE hm _=>by
  have hfill:=zey _ _ _ _ hfill'
  unfold zpS at hT
  split at hT
  ·rename_i l e zs' hu hz
   cases he:P.info? e with
   | none=>simp [he] at hT
   | some j =>
    simp [he] at hT
    obtain ⟨rfl,rfl⟩:=hT
    cases hi:P.info? T with
    | none=>simp [uR,hi] at hz
    | some i =>
     obtain ⟨z,hz1,hz2⟩:=Z7 hz hi
     have hz3:(zeroValue T).run P w=.ok z w:=by simp [zeroValue,typeInfo,hi,hz1]
     have hb:(Instr.build T qs.toArray).run P w=.ok (.agg cells.toArray) w:=by
      unfold Instr.build
      rw [Sem.run_bind,hz3,Result.andThen_ok,Sem.run_bind,run_underlying hu,Result.andThen_ok]
      simp only
      rw [Sem.run_bind]
      have:(sizeOf e).run P w=.ok j.size w:=by simp [sizeOf,typeInfo,he]
      rw [this,Result.andThen_ok,hz2]
      rw [hfill]
      rfl
     simp only [execOp,hq ρ hE,Sem.run_bind,hb]
     rfl
  ·simp at hT) id k
theorem jV {v:Value} (cs:List Value) (k:∀ b,Nx n G D w0 R ((d,.pointer (some ⟨b,0,none⟩)) :: E) (zc b cs T :: L) H) (hx:oev E x=some v:=by rfl) (hd:Nat.blt d n=true:=by rfl) (hcs:v.cells=cs.toArray:=by rfl):Nx n G D w0 (fun a w=>Oper.wp P ⟨some d,.box T x,ty,pos,aft,gd⟩ a w R Q) E L H :=
 YU hd rfl fun ρ w hE hm hH=>⟨_,w.alloc (.cells cs.toArray T),_,H,by simp [execOp,hE _ _ hx,Instr.box,newVar,newRow,hcs],zi1 hm rfl,hH,k w.heap.size⟩
theorem Ys {V:Type} {El':El V} {v:Value} {cs:List Value} {len:Nat} (xs:List V) (css:List (List Value)) (hr:∀ w,Mem G D w0 L w->Rows El' (fz G L w) w xs css) (k:∀ b,Nx n G D w0 R ((d,.pointer (some ⟨b,0,none⟩)) :: E) (zf El' T (.slice (some ⟨b,0,none⟩) len len) xs :: L) H) (hx:oev E x=some v:=by rfl) (hd:Nat.blt d n=true:=by rfl) (hcs:v.cells=cs.toArray:=by rfl) (hfl:css.flatten=cs:=by rfl) (hl:xs.length=len:=by rfl) (hlen:Nat.ble len 65536=true:=by rfl):Nx n G D w0 (fun a w=>Oper.wp P ⟨some d,.box T x,ty,pos,aft,gd⟩ a w R Q) E L H:=zgX xs css hr hx hd hcs hfl hl hlen k
theorem jv {V:Type} {El':El V} {enc:V->List Value} {len:Nat} {ps:Array (Nat×Operand)} {qs:List (Nat×Value)} {zs cells:List Value} (xs:List V) (hfl:VH El' enc) (hq:∀ ρ:Operand->Value,(∀ x v,oev E x=some v->ρ x=v)->(ps.map fun (i,x)=>(i,ρ x))=qs.toArray) (hT:elB P T=some (e,sz,by')) (hzr:uR P e=some zs) (k:∀ v,Nx n G D w0 R ((d,v) :: E) (zf El' e v xs :: L) H) (hd:Nat.blt d n=true:=by rfl) (hes:El'.size=sz:=by rfl) (hlen:Nat.ble (len * sz) 16777216=true:=by rfl) (hxl:xs.length=len:=by rfl) (hzl:Nat.beq zs.length sz=true:=by rfl) (hfill':zcA (fun i=>some (i * sz,sz)) (List.replicate len zs).flatten qs=some cells:=by rfl) (hcells:(xs.map enc).flatten=cells:=by rfl):Nx n G D w0 (fun a w=>Oper.wp P ⟨some d,.buildSlice T len ps,ty,pos,aft,gd⟩ a w R Q) E L H :=
 YU hd rfl fun ρ w hE hm hH=>by
  obtain ⟨hu,i,hi,rfl,rfl⟩:=yZ hT
  obtain ⟨z',hz',hzc⟩:=Z7 hzr hi
  have hle:=Nat.le_of_ble_eq_true hlen
  have hzl':=Nat.eq_of_beq_eq_true hzl
  have hpos:0<zs.length:=by rw [hzl',← hes];exact El'.pos
  have hmade:(Array.range (len * i.size)).map (zs.toArray[· % zs.toArray.size]!)=(List.replicate len zs).flatten.toArray:=by
   have:=XB zs len hpos
   rw [hzl'] at this
   unfold madeCells at this
   rw [← this]
  have hfill0:=zey _ _ _ _ hfill'
  have hfill:Instr.fill (fun j=>some (j * i.size,i.size)) ((Array.range (len * i.size)).map ((if len * i.size=0 then #[] else zs.toArray)[· % (if len * i.size=0 then #[] else zs.toArray).size]!)) qs=some cells.toArray:=by
   by_cases h0:len * i.size=0
   ·have hl0:len=0:=by
     rcases Nat.mul_eq_zero.1 h0 with h | h
     ·exact h
     ·have:=El'.pos;omega
    subst hl0
    simpa [Array.range_zero'] using hfill0
   ·simp only [h0,if_false]
    rw [hmade]
    exact hfill0
  refine ⟨.slice (some ⟨w.heap.size,0,none⟩) len len,w.alloc (.cells cells.toArray e),_,H,?_,?_,hH,k _⟩
  ·have hn:¬ (16777216<len * i.size):=by omega
   have hq':=hq ρ hE
   simp only [execOp,Instr.buildSlice,Sem.run_bind,run_underlying hu,Result.andThen_ok,hq']
   by_cases h0:len * i.size=0
   ·simp [h0] at hfill
    simp [sizeOf,typeInfo,hi,h0,newRow,hfill]
   ·simp [h0] at hfill
    simp [sizeOf,typeInfo,hi,h0,hn,zeroValue,hz',hzc,newRow,hfill]
  ·refine hm.add _ ((Below.refl _ _).alloc (Nat.le_refl _) _) (fun b hb=>by simp [zf,Value.ownBlock] at hb;rw [World.size_alloc];omega) ?_
   have hrows:∀ (F:Nat->Prop) (w:World) (xs:List V),Rows El' F w xs (xs.map enc):=by
    intro F w xs
    induction xs with
    | nil=>trivial
    | cons x r ih=>exact ⟨(hfl _ _ _ _).2 rfl,ih⟩
   have hl:=(hrows (fun _=>True) w xs).length
   rw [hcells,hxl] at hl
   subst hxl
   refine zdn (hrows _ _ xs) (heap_alloc_new w _) (Nat.le_refl _) ?_ (by simpa using hl) ?_
   ·have hp:=El'.pos
    have:xs.length<=xs.length * i.size:=Nat.le_mul_of_pos_right _ (by omega)
    unfold maxLen;omega
   ·rw [hcells,← hl,List.take_of_length_le (by simp)]
theorem xl {V:Type} {E':DEl V} {ps:Array (Nat×Operand)} {qs:List (Nat×Value)} {zs cs:List Value} (y0:V) (hc:zfM M E' y0 cs) (hq:∀ ρ:Operand->Value,(∀ x v,oev E x=some v->ρ x=v)->(ps.map fun (i,x)=>(i,ρ x))=qs.toArray) (hT:elB P T=some (e,sz,by')) (hzr:uR P e=some zs) (k:∀ B v,Nx n G D w0 R ((d,v) :: E) (jq E' e B v [y0] :: L) H) (hd:Nat.blt d n=true:=by rfl) (hes:E'.el.size=sz:=by rfl) (hlen:Nat.ble (1 * sz) 16777216=true:=by rfl) (hzl:Nat.beq zs.length sz=true:=by rfl) (hfill':zcA (fun i=>some (i * sz,sz)) (List.replicate 1 zs).flatten qs=some cs:=by rfl):Nx n G D w0 (fun a w=>Oper.wp P ⟨some d,.buildSlice T 1 ps,ty,pos,aft,gd⟩ a w R Q) E (M++L) H :=
 YU hd rfl fun ρ w hE hm hH=>by
  have hp:=E'.el.pos
  have hrun:=zjE (P:=P) (w:=w) (qs:=qs) hT hzr (by omega) hlen hzl hfill'
  obtain ⟨B,b1,b2,b3⟩:=hc _ w (zkw hm)
  have hlt:=E'.lt _ _ _ _ b2
  have hl:cs.length=sz:=by rw [← hes];exact E'.el.len _ _ _ _ (E'.read _ _ _ _ b2)
  have hle:=Nat.le_of_ble_eq_true hlen
  refine ⟨.slice (some ⟨w.heap.size,0,none⟩) 1 1,w.alloc (.cells cs.toArray e),_,H,by simp only [execOp,hq ρ hE,Sem.run_bind,hrun];rfl,?_,hH,k (w.heap.size :: B) _⟩
  refine hm.repl (M0:=M) (N:=[jq E' e (w.heap.size :: B) (.slice (some ⟨w.heap.size,0,none⟩) 1 1) [y0]]) ⟨rfl,rfl,rfl,by rw [World.size_alloc];omega,fun b hb _=>heap_alloc_old w _ hb⟩ (fun c hc b hb=>?_) (List.pairwise_singleton _ _) (fun c hc F=>?_)
  ·simp only [List.mem_cons,List.not_mem_nil,or_false] at hc
   subst hc
   rcases List.mem_cons.1 hb with hb | hb
   ·subst hb;exact ⟨.inl (Nat.le_refl _),by rw [World.size_alloc];omega⟩
   ·exact ⟨.inr (b3 b hb),by have:=hlt b hb;rw [World.size_alloc];omega⟩
  ·simp only [List.mem_cons,List.not_mem_nil,or_false] at hc
   subst hc
   refine ⟨List.nodup_cons.2 ⟨fun h=>by have:=hlt _ h;omega,b1⟩,[cs],[B],ZZ.one (E'.keep _ _ _ _ _ (fun b hb=>heap_alloc_old w _ (hlt b hb)) b2),⟨by simp [hl,hes],.inr ⟨w.heap.size,1,cs.toArray,rfl,Nat.zero_le _,heap_alloc_new w _,Nat.le_refl _,by decide,by simp [hl,hes],by simp [List.take_of_length_le,hl,hes]⟩⟩,by simp [zaM,Value.ownBlock]⟩
theorem xL {V:Type} {E':DEl V} {qs:List (Nat×Value)} {zs:List Value} {ps:Array (Nat×Operand)} (hq:∀ ρ:Operand->Value,(∀ x v,oev E x=some v->ρ x=v)->(ps.map fun (i,x)=>(i,ρ x))=qs.toArray) (hT:elB P T=some (e,sz,by')) (hzr:uR P e=some zs) (k:∀ B v,Nx n G D w0 R ((d,v) :: E) (jq E' e B v [] :: L) H) (hd:Nat.blt d n=true:=by rfl) (hes:E'.el.size=sz:=by rfl) (hzl:Nat.beq zs.length sz=true:=by rfl) (hfill':zcA (fun i=>some (i * sz,sz)) (List.replicate 0 zs).flatten qs=some []:=by rfl):Nx n G D w0 (fun a w=>Oper.wp P ⟨some d,.buildSlice T 0 ps,ty,pos,aft,gd⟩ a w R Q) E L H :=
 YU hd rfl fun ρ w hE hm hH=>by
  have hp:=E'.el.pos
  have hrun:=zjE (P:=P) (w:=w) (qs:=qs) (len:=0) hT hzr (by omega) (by simp) hzl hfill'
  refine ⟨.slice (some ⟨w.heap.size,0,none⟩) 0 0,w.alloc (.cells ([]:List Value).toArray e),_,H,by simp only [execOp,hq ρ hE,Sem.run_bind,hrun];rfl,?_,hH,k [w.heap.size] _⟩
  exact hm.add _ ((Below.refl _ _).alloc (Nat.le_refl _) _) (fun b hb=>by simp [jq] at hb;rw [World.size_alloc];omega) ⟨by simp,[],[],ZZ.nil,⟨by simp,.inr ⟨w.heap.size,0,#[],rfl,Nat.zero_le _,heap_alloc_new w _,Nat.le_refl _,by decide,by simp,by simp⟩⟩,by simp [zaM,Value.ownBlock]⟩
theorem yv {V:Type} {El':El V} {len:Nat} {ps:Array (Nat×Operand)} {qs:List (Nat×Value)} {zs cells:List Value} (xs:List V) (css:List (List Value)) (hc:∀ w,Mem G D w0 L w->Rows El' (fz G L w) w xs css) (hq:∀ ρ:Operand->Value,(∀ x v,oev E x=some v->ρ x=v)->(ps.map fun (i,x)=>(i,ρ x))=qs.toArray) (hT:elB P T=some (e,sz,by')) (hzr:uR P e=some zs) (k:∀ v,Nx n G D w0 R ((d,v) :: E) (zf El' e v xs :: L) H) (hd:Nat.blt d n=true:=by rfl) (hes:El'.size=sz:=by rfl) (hlen:Nat.ble (len * sz) 16777216=true:=by rfl) (hxl:xs.length=len:=by rfl) (hzl:Nat.beq zs.length sz=true:=by rfl) (hfill':zcA (fun i=>some (i * sz,sz)) (List.replicate len zs).flatten qs=some cells:=by rfl) (hcells:css.flatten=cells:=by rfl):Nx n G D w0 (fun a w=>Oper.wp P ⟨some d,.buildSlice T len ps,ty,pos,aft,gd⟩ a w R Q) E L H:=zoT xs css hc hq hd hT hzr hes hlen hxl hzl hfill' hcells k
theorem zP {ρ ν:Type} {f:Nat} {l:List Operand} {at':Array TypeId} {vs:List Value} {O:ρ->Prop} {val:ρ->ν->Value} {N:ρ->ν->List Ch} {M0 L':List Ch} (hf:∀ args w,(callFunc f args).run P w=.ok (.enter f args) w) (hc:∀ w,Mem G D w0 (M0++L') w->H->Calls P f vs.toArray w (Ret M0 (fz G (M0++L') w) w O val N)) (k:∀ r s,Nx n G D w0 R ((d,val r s) :: E) (N r s++L') (O r)) (hargs:zgS E l=some vs:=by rfl) (hd:Nat.blt d n=true:=by rfl):Nx n G D w0 (fun a w=>Oper.wp P ⟨some d,.call {callee:=.value (.func f),args:=l.toArray,argTypes:=at'},ty,pos,aft,gd⟩ a w R Q) E (M0++L') H:=zoN hf hargs hd hc k
theorem zh {ρ ν:Type} {f:Nat} {l:List Operand} {at':Array TypeId} {vs:List Value} {O:ρ->Prop} {val:ρ->ν->Value} {N:ρ->ν->List Ch} (hf:∀ args w,(callFunc f args).run P w=.ok (.enter f args) w) (hc:∀ w,Mem G D w0 L w->H->Calls P f vs.toArray w (Ret [] (fz G L w) w O val N)) (k:∀ r s,Nx n G D w0 R ((d,val r s) :: E) (N r s++L) (O r)) (hargs:zgS E l=some vs:=by rfl) (hd:Nat.blt d n=true:=by rfl):Nx n G D w0 (fun a w=>Oper.wp P ⟨some d,.call {callee:=.value (.func f),args:=l.toArray,argTypes:=at'},ty,pos,aft,gd⟩ a w R Q) E L H:=zmR hf hargs hd hc k
theorem zaq {o:Oper} {ρ ν:Type} {f:Nat} {vs:List Value} {O:ρ->Prop} {val:ρ->ν->Value} {N:ρ->ν->List Ch} {M0 L':List Ch} (hr:zol P E o f vs) (hc:∀ w,Mem G D w0 (M0++L') w->H->Calls P f vs.toArray w (Ret M0 (fz G (M0++L') w) w O val N)) (k:∀ r s,Nx n G D w0 R ((d,val r s) :: E) (N r s++L') (O r)) (ho:o.dst=some d:=by rfl) (hd:Nat.blt d n=true:=by rfl):Nx n G D w0 (fun a w=>Oper.wp P o a w R Q) E (M0++L') H:=zl8 ho hr hd hc k
theorem X8 {o:Oper} {ρ ν:Type} {f:Nat} {vs:List Value} {O:ρ->Prop} {val:ρ->ν->Value} {N:ρ->ν->List Ch} (hr:zol P E o f vs) (hc:∀ w,Mem G D w0 L w->H->Calls P f vs.toArray w (Ret [] (fz G L w) w O val N)) (k:∀ r s,Nx n G D w0 R ((d,val r s) :: E) (N r s++L) (O r)) (ho:o.dst=some d:=by rfl) (hd:Nat.blt d n=true:=by rfl):Nx n G D w0 (fun a w=>Oper.wp P o a w R Q) E L H :=
 zl8 (M0:=[]) (L':=L) ho hr hd hc k
theorem ud (M:x8 P n G D w0 E ⟨some d,.binOp .add T x y T',ty,pos,aft,gd⟩ Tk R Lr L) {X Y:ByteArray} {O:ByteArray->Prop} (k:∀ z,Nx n G D w0 R ((d,.string z) :: E) L (O z)) (hx:oev E x=some (.string X):=by rfl) (hy:oev E y=some (.string Y):=by rfl) (hd:Nat.blt d n=true:=by rfl):Nx n G D w0 Tk E L (uY X Y O):=fun a w hE hm hH=>by
 refine (M.val (v:=.string (X++Y)) (H:=O _) (ψ:=O _) hd rfl (fun ρ w hE hm h=>?_) id (k _)) a w hE hm hH.2
 have h1:¬ (9223372036854775807<(X.size:Int)+(Y.size:Int)):=by have:=hH.1;omega
 simp [execOp,hE _ _ hx,hE _ _ hy,go_sem,Op.stringOp,IntKind.max,IntKind.signed,IntKind.bits,h1]
theorem zjX (M:x8 P n G D w0 E ⟨some d,.convert T T' x,ty,pos,aft,gd⟩ Tk R Lr L) {X:UInt8} (hT:P.underlying T=some (.int .u8)) (hT':P.underlying T'=some (.int .i64)) (k:Nx n G D w0 R ((d,.int .i64 (X.toNat:Int)) :: E) L H) (hx:oev E x=some (.int .u8 (X.toNat:Int)):=by rfl) (hd:Nat.blt d n=true:=by rfl):Nx n G D w0 Tk E L H :=
 M.val hd rfl (fun ρ w hE _ _=>by
  have h:=X.toNat_lt
  have e:IntKind.i64.wrap (X.toNat:Int)=(X.toNat:Int):=by rw [IntKind.wrap_i64];omega
  simp [execOp,hE _ _ hx,go_sem,convert,run_underlying hT,run_underlying hT',e]) id k
theorem zmU (M:x8 P n G D w0 E ⟨some d,.convert T T' x,ty,pos,aft,gd⟩ Tk R Lr L) {X:Int} {O:UInt8->Prop} (hT:P.underlying T=some (.int .i64)) (hT':P.underlying T'=some (.int .u8)) (k:∀ z:UInt8,Nx n G D w0 R ((d,.int .u8 (z.toNat:Int)) :: E) L (O z)) (hx:oev E x=some (.int .i64 X):=by rfl) (hd:Nat.blt d n=true:=by rfl):Nx n G D w0 Tk E L (zmM X O):=fun a w hE hm hH=>by
 obtain ⟨h1,h2,h3⟩:=hH
 refine (zqD (O:=fun z=>z=X) M hT hT' hx hd (fun z=>?_)) a w hE hm ⟨h1,h2,rfl⟩
 rintro a' w' hE' hm' rfl
 have e:((UInt8.ofNat z.toNat).toNat:Int)=z:=by
  simp
  omega
 have hk:=k (UInt8.ofNat z.toNat)
 rw [e] at hk
 exact hk a' w' hE' hm' h3
theorem zl7 (M:x8 P n G D w0 E ⟨some d,.convert T T' x,ty,pos,aft,gd⟩ Tk R Lr L) {X:Int} {O:Int->Prop} (hT:P.underlying T=some (.int .u8)) (hT':P.underlying T'=some (.int .i64)) (k:Nx n G D w0 R ((d,.int .i64 X) :: E) L (O X)) (hx:oev E x=some (.int .u8 X):=by rfl) (hd:Nat.blt d n=true:=by rfl):Nx n G D w0 Tk E L (zko X O) :=
 M.val hd rfl (fun ρ w hE _ hH=>by
  obtain ⟨h1,h2,_⟩:=hH
  have e:IntKind.i64.wrap X=X:=by rw [IntKind.wrap_i64];omega
  simp [execOp,hE _ _ hx,go_sem,convert,run_underlying hT,run_underlying hT',e]) (fun h=>h.2.2) k
theorem js (M:x8 P n G D w0 E ⟨some d,.binOp .eql T x y T',ty,pos,aft,gd⟩ Tk R Lr L) {X Y:Int} {K:IntKind} (hT:P.underlying T=some (.int K)) (k:Nx n G D w0 R ((d,.bool (decide (X=Y))) :: E) L H) (hx:oev E x=some (.int K X):=by rfl) (hy:oev E y=some (.int K Y):=by rfl) (hd:Nat.blt d n=true:=by rfl):Nx n G D w0 Tk E L H:=zqe M hT hx hy hd k
theorem zdr (M:x8 P n G D w0 E ⟨some d,.binOp .eql T x y T',ty,pos,aft,gd⟩ Tk R Lr L) {X Y:Bool} (hT:P.underlying T=some .bool) (k:Nx n G D w0 R ((d,.bool (decide (X=Y))) :: E) L H) (hx:oev E x=some (.bool X):=by rfl) (hy:oev E y=some (.bool Y):=by rfl) (hd:Nat.blt d n=true:=by rfl):Nx n G D w0 Tk E L H :=
 M.val hd rfl (fun ρ w hE _ _=>by cases X <;> cases Y <;> simp [execOp,hE _ _ hx,hE _ _ hy,go_sem,hT,run_underlying hT]) id k
theorem zpH {V:Type} {El':El V} {v:Value} {xs:List V} {c:Ch} {O:Bool->Prop} {e':TypeId} (i:Nat) (hc:UP c El' v xs) (hT:P.underlying T=some (.slice e')) (k:∀ z,Nx n G D w0 R ((d,.bool z) :: E) L (O z)) (hi:xH L i=some c:=by rfl) (hx:oev E x=some v:=by rfl) (hy:oev E y=some (.slice none 0 0):=by rfl) (hd:Nat.blt d n=true:=by rfl):Nx n G D w0 (fun a w=>Oper.wp P ⟨some d,.binOp .eql T x y T',ty,pos,aft,gd⟩ a w R Q) E L (zsc true xs O) :=
 YU hd rfl fun ρ w hE hm hH=>by
  obtain ⟨a,cap,rfl,hcap,hr⟩:=hc _ _ (hm.get hi)
  refine ⟨.bool a.isNone,w,L,O a.isNone,?_,hm,?_,k _⟩
  ·simp [execOp,hE _ _ hx,hE _ _ hy,go_sem,hT,run_underlying hT,binOp,znu hT]
  ·cases xs with
   | nil=>cases a with
    | none=>exact (hH.2 rfl).1
    | some a=>exact (hH.2 rfl).2
   | cons x0 r =>
    obtain ⟨b,off,rfl,_⟩:=hr (by simp)
    exact hH.1 (by simp)
theorem U7 (M:x8 P n G D w0 E ⟨some d,.binOp .eql T x y T',ty,pos,aft,gd⟩ Tk R Lr L) {X Y:ByteArray} (hT:P.underlying T=some .string) (k:Nx n G D w0 R ((d,.bool (decide (X=Y))) :: E) L H) (hx:oev E x=some (.string X):=by rfl) (hy:oev E y=some (.string Y):=by rfl) (hd:Nat.blt d n=true:=by rfl):Nx n G D w0 Tk E L H :=
 M.val hd rfl (fun ρ w hE _ _=>by simp [execOp,hE _ _ hx,hE _ _ hy,go_sem,hT,run_underlying hT,Op.stringOp,znU]) id k
theorem zW {k':Nat} (M:x8 P n G D w0 E ⟨some d,.extract x k',ty,pos,aft,gd⟩ Tk R Lr L) {vs:List Value} {v:Value} (k:Nx n G D w0 R ((d,v) :: E) L H) (hx:oev E x=some (.tuple vs.toArray):=by rfl) (hd:Nat.blt d n=true:=by rfl) (hv:vs[k']?=some v:=by rfl):Nx n G D w0 Tk E L H :=
 M.val hd rfl (fun ρ w hE hm _=>by simp [execOp,hE _ _ hx,Instr.extract,hv]) id k
theorem jD {k':Nat} (M:x8 P n G D w0 E ⟨some d,.fieldAddr S x k',ty,pos,aft,gd⟩ Tk R Lr L) {b o off sz:Nat} {row:Bool} (hS:XP P S k'=some (off,row,sz)) (k:Nx n G D w0 R ((d,.pointer (some ⟨b,o+off,none⟩)) :: E) L H) (hx:oev E x=some (.pointer (some ⟨b,o,none⟩)):=by rfl) (hd:Nat.blt d n=true:=by rfl) (hp:Nat.beq sz 0=false:=by rfl):Nx n G D w0 Tk E L H :=
 M.val hd rfl (fun ρ w hE hm _=>by
  have:=zlb (P:=P) (w:=w) (a:=⟨b,o,none⟩) hS hp
  rw [Addr.add_mid] at this
  simp [execOp,hE _ _ hx,this]) id k
theorem jt {k':Nat} (M:x8 P n G D w0 E ⟨some d,.fieldAddr S x k',ty,pos,aft,gd⟩ Tk R Lr L) {V:Type} {El':El V} {v:Value} {xs:List V} {c:Ch} {I:Int} {z:V} {o off sz fs:Nat} {row:Bool} (i:Nat) (hc:UP c El' v xs) (hz:xs[I.toNat]?=some z) (hS:XP P S k'=some (off,row,fs)) (k:Nx n G D w0 R ((d,pEl v I sz (o+off)) :: E) L H) (hi:xH Lr i=some c:=by rfl) (hx:oev E x=some (pEl v I sz o):=by rfl) (hd:Nat.blt d n=true:=by rfl) (hp:Nat.beq fs 0=false:=by rfl):Nx n G D w0 Tk E L H :=
 M.val hd rfl (fun ρ w hE hm _=>by
  obtain ⟨b,off',cap,cs,rfl,_,_⟩:=(hc _ _ (hm.get hi)).at hz
  rw [yi] at hx ⊢
  have:=zlb (P:=P) (w:=w) (a:=⟨b,off'+I.toNat * sz+o,none⟩) hS hp
  rw [Addr.add_mid] at this
  simp [execOp,hE _ _ hx,this]) id k
theorem V0 (M:x8 P n G D w0 E ⟨some d,.binOp .geq T x y T',ty,pos,aft,gd⟩ Tk R Lr L) {X Y:Int} {K:IntKind} (k:Nx n G D w0 R ((d,.bool (decide (Y<=X))) :: E) L H) (hx:oev E x=some (.int K X):=by rfl) (hy:oev E y=some (.int K Y):=by rfl) (hd:Nat.blt d n=true:=by rfl):Nx n G D w0 Tk E L H :=
 M.val hd rfl (fun ρ w hE _ hH=>by simp [execOp,hE _ _ hx,hE _ _ hy,go_sem]) id k
theorem ug (M:x8 P n G D w0 E ⟨some d,.binOp .gtr T x y T',ty,pos,aft,gd⟩ Tk R Lr L) {X Y:Int} {K:IntKind} (k:Nx n G D w0 R ((d,.bool (decide (Y<X))) :: E) L H) (hx:oev E x=some (.int K X):=by rfl) (hy:oev E y=some (.int K Y):=by rfl) (hd:Nat.blt d n=true:=by rfl):Nx n G D w0 Tk E L H:=zql M hx hy hd k
theorem zz (M:x8 P n G D w0 E ⟨some d,.indexAddr T x y,ty,pos,aft,gd⟩ Tk R Lr L) {V:Type} {El':El V} {v:Value} {xs:List V} {c:Ch} {I:Int} {O:V->Prop} {e sz by':Nat} (i:Nat) (hc:UP c El' v xs) (hT:elB P T=some (e,sz,by')) (k:∀ z,xs[I.toNat]?=some z->Nx n G D w0 R ((d,pEl v I sz 0) :: E) L (O z)) (hi:xH Lr i=some c:=by rfl) (hx:oev E x=some v:=by rfl) (hy:oev E y=some (.int .i64 I):=by rfl) (hd:Nat.blt d n=true:=by rfl):Nx n G D w0 Tk E L (zE xs I O) :=
 M.val (v:=pEl v I sz 0) (ψ:=zE xs I O) hd rfl (fun ρ w hE hm hH=>by
  obtain ⟨z,h0,h1,h2⟩:=hH
  obtain ⟨b,off,cap,cs,rfl,_,_⟩:=(hc _ _ (hm.get hi)).at h1
  have hlt:=(List.getElem?_eq_some_iff.1 h1).1
  unfold elB at hT
  split at hT
  ·rename_i e' hu
   split at hT
   ·rename_i inf hi'
    simp at hT
    obtain ⟨rfl,rfl,rfl⟩:=hT
    have h5:I<xs.length:=by omega
    rw [yi]
    simp [execOp,hE _ _ hx,hE _ _ hy,Instr.indexAt,asIntOf,run_underlying hu,sizeOf,typeInfo,hi',h0,h5,Addr.add_mid]
   ·simp at hT
  ·simp at hT) id (fun a w hE hm ⟨z,_,h1,h2⟩=>k z h1 a w hE hm h2)
theorem zgG (M:x8 P n G D w0 E ⟨some d,.indexAddr T x y,ty,pos,aft,gd⟩ Tk R Lr L) {V:Type} {E':DEl V} {ty':TypeId} {B:List Nat} {I0:Nat} {cz:List Value} {v:Value} {xs:List V} {I:Int} {O:V->Prop} {e sz by':Nat} (i:Nat) (hT:elB P T=some (e,sz,by')) (k:∀ z,xs[I.toNat]?=some z->Nx n G D w0 R ((d,pEl v I sz 0) :: E) L (O z)) (hi:xH Lr i=some (UG E' ty' B v xs I0 cz):=by rfl) (hx:oev E x=some v:=by rfl) (hy:oev E y=some (.int .i64 I):=by rfl) (hd:Nat.blt d n=true:=by rfl):Nx n G D w0 Tk E L (zE xs I O) :=
 M.val (v:=pEl v I sz 0) (ψ:=zE xs I O) hd rfl (fun ρ w hE hm hH=>by
  obtain ⟨z,h0,h1,h2⟩:=hH
  have hlt:=(List.getElem?_eq_some_iff.1 h1).1
  obtain ⟨bn,css,Bs,hr,how,hB⟩:=hm.get hi
  obtain ⟨g,cap,hv⟩:∃ g cap,v=.slice (some ⟨g,0,none⟩) xs.length cap:=by
   rcases how.2 with ⟨_,hn⟩ | ⟨g,cap,cur,hv,_⟩
   ·omega
   ·exact ⟨g,cap,hv⟩
  subst hv
  unfold elB at hT
  split at hT
  ·rename_i e' hu
   split at hT
   ·rename_i inf hi'
    simp at hT
    obtain ⟨rfl,rfl,rfl⟩:=hT
    have h5:I<xs.length:=by omega
    rw [yi]
    simp [execOp,hE _ _ hx,hE _ _ hy,Instr.indexAt,asIntOf,run_underlying hu,sizeOf,typeInfo,hi',h0,h5,Addr.add_mid]
   ·simp at hT
  ·simp at hT) id (fun a w hE hm ⟨z,_,h1,h2⟩=>k z h1 a w hE hm h2)
theorem zor {V:Type} {El':El V} {vs:List Value} {xs:List (List V)} {I:Int} {O:List V->Prop} {len e':Nat} (M:x8 P n G D w0 E ⟨some d,.index T x y,ty,pos,aft,gd⟩ Tk R Lr L) (hfa:∀ w,Mem G D w0 L w->zi0 El' (fz G L w) w vs xs) (hT:zhj P T=some (len,e',false,1)) (k:∀ v z,xs[I.toNat]?=some z->Nx n G D w0 R ((d,v) :: E) (xB El' v z :: L) (O z)) (hx:oev E x=some (.agg vs.toArray):=by rfl) (hy:oev E y=some (.int .i64 I):=by rfl) (hd:Nat.blt d n=true:=by rfl) (hl:xs.length=len:=by rfl):Nx n G D w0 Tk E L (zE xs I O):=fun a w hE hm hH=>by
 refine (M.val (v:=zkh vs I) (H:=zE xs I O) (ψ:=zE xs I O) hd rfl (fun ρ w hE hm hH=>?_) id (fun a' w' hE' hm' hH'=>?_)) a w hE hm hH
 ·obtain ⟨z,h0,h1,h2⟩:=hH
  have hlt:=(List.getElem?_eq_some_iff.1 h1).1
  obtain ⟨hu',ht⟩:=zj9 hT
  obtain ⟨i,hq,hi⟩:=zgO ht
  have h5:I<len:=by omega
  have hvl:vs.length=xs.length:=by
   have key:∀ {vs:List Value} {xs:List (List V)} {F:Nat->Prop} {w:World},zi0 El' F w vs xs->vs.length=xs.length:=by
    intro vs
    induction vs with
    | nil=>intro xs F w h;cases xs with
     | nil=>rfl
     | cons _ _=>exact h.elim
    | cons v vs ih=>intro xs F w h;cases xs with
     | nil=>exact h.elim
     | cons x xs=>simp [ih h.2]
   exact key (hfa _ (by assumption))
  have hv:ldv false (I.toNat * 1) 1 vs=some (zkh vs I):=by
   have:I.toNat<vs.length:=by omega
   simp [ldv,zkh,this]
  have hr:=ziW (P:=P) (w:=w) ht hv
  simp at hr
  simp [execOp,hE _ _ hx,hE _ _ hy,Instr.index,asIntOf,run_underlying hu',sizeOf,typeInfo,hq,hi,h0,h5,hr]
 ·obtain ⟨z,h0,h1,h2⟩:=hH'
  obtain ⟨v,hv,hs⟩:=(hfa w' hm').get h1
  have hp:zkh vs I=v:=by simp [zkh,hv]
  rw [hp] at hE'
  exact k v z h1 a' w' hE' (hm'.note (fun b hb=>hb) hs) h2
theorem xC (M:x8 P n G D w0 E ⟨some d,.indexAddr T x y,ty,pos,aft,gd⟩ Tk R Lr L) {V:Type} {El':El V} {b o cap:Nat} {xs:List V} {c:Ch} {I:Int} {O:V->Prop} {len e sz:Nat} {row:Bool} (i:Nat) (hc:UP c El' (.slice (some ⟨b,o,none⟩) len cap) xs) (hT:zhj P T=some (len,e,row,sz)) (k:∀ z,xs[I.toNat]?=some z->Nx n G D w0 R ((d,pEl (.slice (some ⟨b,o,none⟩) len cap) I sz 0) :: E) L (O z)) (hi:xH Lr i=some c:=by rfl) (hx:oev E x=some (.pointer (some ⟨b,o,none⟩)):=by rfl) (hy:oev E y=some (.int .i64 I):=by rfl) (hd:Nat.blt d n=true:=by rfl):Nx n G D w0 Tk E L (zE xs I O) :=
 M.val (v:=pEl (.slice (some ⟨b,o,none⟩) len cap) I sz 0) (ψ:=zE xs I O) hd rfl (fun ρ w hE hm hH=>by
  obtain ⟨z,h0,h1,h2⟩:=hH
  obtain ⟨a',cap',he,_⟩:=hc _ _ (hm.get hi)
  have hln:xs.length=len:=by simp at he;exact he.2.1.symm
  have hlt:=(List.getElem?_eq_some_iff.1 h1).1
  obtain ⟨hu',ht⟩:=zj9 hT
  obtain ⟨i,hq,hi⟩:=zgO ht
  have h5:I<len:=by omega
  rw [yi]
  simp [execOp,hE _ _ hx,hE _ _ hy,Instr.indexAt,Instr.sureAddr,asIntOf,run_underlying hu',sizeOf,typeInfo,hq,hi,h0,h5,Addr.add_mid]) id (fun a w hE hm ⟨z,_,h1,h2⟩=>k z h1 a w hE hm h2)
theorem zf0 (M:x8 P n G D w0 E ⟨some d,.index T x y,ty,pos,aft,gd⟩ Tk R Lr L) {X:ByteArray} {I:Int} {O:UInt8->Prop} (hT:P.underlying T=some .string) (k:∀ z:UInt8,Nx n G D w0 R ((d,.int .u8 (z.toNat:Int)) :: E) L (O z)) (hx:oev E x=some (.string X):=by rfl) (hy:oev E y=some (.int .i64 I):=by rfl) (hd:Nat.blt d n=true:=by rfl):Nx n G D w0 Tk E L (zE X.data.toList I O):=fun a w hE hm hH=>by
 obtain ⟨z,h0,h1,h2⟩:=hH
 refine (M.val (v:=.int .u8 (z.toNat:Int)) (H:=O z) (ψ:=O z) hd rfl (fun ρ w hE hm hH=>?_) id (k z)) a w hE hm h2
 rw [← znr] at h1
 simp [execOp,hE _ _ hx,hE _ _ hy,Instr.index,asIntOf,run_underlying hT,h0,h1]
theorem zlD (M:x8 P n G D w0 E ⟨some d,.index T x y,ty,pos,aft,gd⟩ Tk R Lr L) {V:Type} {enc:V->List Value} {zs:List V} {cs:List Value} {I:Int} {O:V->Prop} {u:V->Value} {len e sz:Nat} {row:Bool} (hT:zhj P T=some (len,e,row,sz)) (he:∀ z,(enc z).length=sz) (hu:∀ z,ldv row 0 sz (enc z)=some (u z)) (k:∀ z,Nx n G D w0 R ((d,u z) :: E) L (O z)) (hx:oev E x=some (.agg cs.toArray):=by rfl) (hy:oev E y=some (.int .i64 I):=by rfl) (hd:Nat.blt d n=true:=by rfl) (hcs:zs.flatMap enc=cs:=by rfl) (hl:zs.length=len:=by rfl):Nx n G D w0 Tk E L (zE zs I O):=fun a w hE hm hH=>by
 obtain ⟨z,h0,h1,h2⟩:=hH
 refine (M.val (v:=u z) (H:=O z) (ψ:=O z) hd rfl (fun ρ w hE hm hH=>?_) id (k z)) a w hE hm h2
 obtain ⟨hu',ht⟩:=zj9 hT
 obtain ⟨i,hq,hi⟩:=zgO ht
 have hlt:=(List.getElem?_eq_some_iff.1 h1).1
 have h5:I<len:=by omega
 have hr:=ziW (P:=P) (w:=w) ht (zky he zs _ _ h1 row _ (hu z))
 rw [hcs] at hr
 simp [execOp,hE _ _ hx,hE _ _ hy,Instr.index,asIntOf,run_underlying hu',sizeOf,typeInfo,hq,hi,h0,h5,hr]
theorem zo7 {V:Type} {El':El V} {enc:V->List Value} {b len cap fs:Nat} {xs:List V} {c:Ch} {u:List Value} (M:x8 P n G D w0 E ⟨some d,.load T x,ty,pos,aft,gd⟩ Tk R Lr L) (i:Nat) (hc:UP c El' (.slice (some ⟨b,0,none⟩) len cap) xs) (hfl:VH El' enc) (hT:tyB P T=some (true,fs)) (k:Nx n G D w0 R ((d,.agg u.toArray) :: E) L H) (hi:xH Lr i=some c:=by rfl) (hx:oev E x=some (.pointer (some ⟨b,0,none⟩)):=by rfl) (hd:Nat.blt d n=true:=by rfl) (hu:(xs.map enc).flatten=u:=by rfl) (hl:Nat.beq u.length fs=true:=by rfl):Nx n G D w0 Tk E L H :=
 M.val hd rfl (fun ρ w hE hm _=>by
  obtain ⟨css,h1,h2⟩:=zmC (xj hfl hc _ _ (hm.get hi))
  rw [ziO hfl h1,hu] at h2
  have hv:ldv true 0 fs u=some (.agg u.toArray):=by
   have:=Nat.eq_of_beq_eq_true hl
   simp [ldv,← this]
  have:=zac (P:=P) hT h2 hv
  rw [Nat.add_zero] at this
  simp [execOp,hE _ _ hx,this]) id k
theorem xP {V:Type} {El':El V} {b len cap fs:Nat} {xs:List V} {c:Ch} (i:Nat) (hc:Src c El' (.slice (some ⟨b,0,none⟩) len cap) xs) (hT:tyB P T=some (true,fs)) (k:∀ wr F0 css,Rows El' F0 wr xs css->∃ u:List Value,css.flatten=u∧Nx n G D w0 R ((d,.agg u.toArray) :: E) (zl wr F0 :: L) H) (hi:xH L i=some c:=by rfl) (hx:oev E x=some (.pointer (some ⟨b,0,none⟩)):=by rfl) (hd:Nat.blt d n=true:=by rfl) (hlen:xs.length=len:=by rfl) (hfs:len * El'.size=fs:=by rfl):Nx n G D w0 (fun a w=>Oper.wp P ⟨some d,.load T x,ty,pos,aft,gd⟩ a w R Q) E L H:=zls i hi hc hx hd hlen hT hfs k
theorem xt {V:Type} {E':El V} {v:Value} {xs:List V} {c:Ch} {I:Int} {z:V} {o fs:Nat} {row:Bool} (i:Nat) (hc:Src c E' v xs) (hz:xs[I.toNat]?=some z) (hT:tyB P T=some (row,fs)) (k:∀ wr F0 cs,E'.cells F0 wr z cs->∃ u,ldv row o fs cs=some u∧Nx n G D w0 R ((d,u) :: E) (zl wr F0 :: L) H) (hi:xH L i=some c:=by rfl) (hx:oev E x=some (pEl v I E'.size o):=by rfl) (hd:Nat.blt d n=true:=by rfl):Nx n G D w0 (fun a w=>Oper.wp P ⟨some d,.load T x,ty,pos,aft,gd⟩ a w R Q) E L H :=
 YU hd rfl fun ρ w hE hm hH=>by
  obtain ⟨b,off,cap,cs,rfl,_,hcs,hr⟩:=(hc _ _ (hm.get hi)).at hz
  obtain ⟨u,hu,hk⟩:=k w (fz G L w) cs hcs
  have:=zac (P:=P) hT hr hu
  rw [yi] at hx
  exact ⟨u,w,zl w (fz G L w) :: L,H,by simp [execOp,hE _ _ hx,this],hm.note (fun b hb=>hb) ⟨fun b hb=>hb,fun _ _=>rfl⟩,hH,hk⟩
theorem Ud {V β:Type} {E':DEl V} {E1:DEl β} {t1:TypeId} {v:Value} {xs:List V} {B:List Nat} {I:Int} {z:V} {zin:List β} {o fs:Nat} {row:Bool} {encz:Value->List Value} (hz:xs[I.toNat]?=some z) (hop:∀ B w cs,E'.own B w z cs->∃ v0,cs=encz v0∧Dp E1 t1 B w v0 zin) (hT:tyB P T=some (row,fs)) (k:∀ v0 B' C,∃ u,ldv row o fs (encz v0)=some u∧Nx n G D w0 R ((d,u) :: E) (UG E' e B' v xs I.toNat (encz v0) :: jq E1 t1 C v0 zin :: L) H) (hes:E'.el.size=sz:=by rfl) (hx:oev E x=some (pEl v I sz o):=by rfl) (hd:Nat.blt d n=true:=by rfl):Nx n G D w0 (fun a w=>Oper.wp P ⟨some d,.load T x,ty,pos,aft,gd⟩ a w R Q) E (jq E' e B v xs :: L) H :=
 YU hd rfl fun ρ w hE hm hH=>by
  have hlt:=(List.getElem?_eq_some_iff.1 hz).1
  obtain ⟨bn,css,Bs,hr,how,hB⟩:=hm.hold _ (List.mem_cons_self ..)
  have hlc:I.toNat<css.length:=by rw [hr.lc];exact hlt
  have hlb:I.toNat<Bs.length:=by rw [hr.lb];exact hlt
  have hcI:css[I.toNat]?=some css[I.toNat]:=List.getElem?_eq_getElem hlc
  have hbI:Bs[I.toNat]?=some Bs[I.toNat]:=List.getElem?_eq_getElem hlb
  obtain ⟨v0,hv0,hdp⟩:=hop _ _ _ (hr.own _ _ _ _ hz hcI hbI)
  have hlz:=hr.size _ (List.mem_of_getElem? hcI)
  obtain ⟨g,cap,hv⟩:∃ g cap,v=.slice (some ⟨g,0,none⟩) xs.length cap:=by
   rcases how.2 with ⟨_,hn⟩ | ⟨g,cap,cur,hv,_⟩
   ·omega
   ·exact ⟨g,cap,hv⟩
  subst hv
  have hBn:=hB.nodup_iff.1 bn
  have hout:=zet hbI
  obtain ⟨u,hu,hk⟩:=k v0 (zaM (.slice (some ⟨g,0,none⟩) xs.length cap)++(Bs.set I.toNat []).flatten) Bs[I.toNat]
  have hrange:w.rangeAt g (0+I.toNat * E'.el.size) css[I.toNat]:=by
   have hs:=(hr.rows (F:=fun _=>True) (fun _ _=>trivial)).get hz
   rcases how.2 with ⟨h,_⟩ | ⟨g',cap',cur,h,_,hg,hnc,_,hcs,ht⟩
   ·cases h
   cases h
   intro j q hq
   rw [cell_of_row w g _ cur e (0,0) hg]
   have hj:=(List.getElem?_eq_some_iff.1 hq).1
   have hfl:css.flatten[I.toNat * E'.el.size+j]?=some q:=by
    have hsp:css=css.take I.toNat++css[I.toNat] :: css.drop (I.toNat+1):=by simp
    have hpl:(css.take I.toNat).flatten.length=I.toNat * E'.el.size:=by rw [zfd (z:=E'.el.size) (fun cs hc=>hr.size cs (List.mem_of_mem_take hc)),List.length_take];congr 1;omega
    rw [hsp,List.flatten_append,List.getElem?_append_right (by omega),hpl,Nat.add_sub_cancel_left,List.flatten_cons,List.getElem?_append_left (by simpa using hj)]
    simpa using hq
   rw [← ht,List.getElem?_take] at hfl
   split at hfl
   ·simpa using hfl
   ·cases hfl
  have hld:=zac (P:=P) hT hrange (by rw [hv0];exact hu)
  rw [yi,← hes] at hx
  simp only [Nat.zero_add] at hx hld
  refine ⟨u,w,_,H,by simp [execOp,hE _ _ hx,hld],?_,hH,hk⟩
  refine hm.repl (M0:=[jq E' e B (.slice (some ⟨g,0,none⟩) xs.length cap) xs]) (N:=[UG E' e _ (.slice (some ⟨g,0,none⟩) xs.length cap) xs I.toNat (encz v0),jq E1 t1 Bs[I.toNat] v0 zin]) zft (fun c hc b hb=>?_) ?_ (fun c hc F=>?_)
  ·have hb':b∈B:=by
    simp only [List.mem_cons,List.not_mem_nil,or_false] at hc
    rcases hc with rfl | rfl
    ·rcases List.mem_append.1 hb with hb | hb
     ·exact hB.symm.subset (List.mem_append.2 (.inl hb))
     ·exact hB.symm.subset (List.mem_append.2 (.inr (hout.symm.subset (List.mem_append.2 (.inr hb)))))
    ·exact hB.symm.subset (List.mem_append.2 (.inr (hout.symm.subset (List.mem_append.2 (.inl hb)))))
   exact ⟨.inr ⟨_,List.mem_cons_self ..,hb'⟩,(hm.range _ (List.mem_cons_self ..) b hb').1⟩
  ·refine List.pairwise_cons.2 ⟨fun c hc b hb hcb=>?_,List.pairwise_singleton _ _⟩
   simp only [List.mem_cons,List.not_mem_nil,or_false] at hc
   subst hc
   have h2:=(List.Perm.append_left (zaM (.slice (some ⟨g,0,none⟩) xs.length cap)) hout).nodup_iff.1 hBn
   simp only [List.nodup_append,List.mem_append] at h2
   rcases List.mem_append.1 hb with hb | hb
   ·exact h2.2.2 b hb b (.inl hcb) rfl
   ·exact h2.2.1.2.2 b hcb b hb rfl
  ·simp only [List.mem_cons,List.not_mem_nil,or_false] at hc
   have h2:=(List.Perm.append_left (zaM (.slice (some ⟨g,0,none⟩) xs.length cap)) hout).nodup_iff.1 hBn
   rcases hc with rfl | rfl
   ·refine ⟨?_,css,Bs.set I.toNat [],⟨hr.lc,by simp [hr.lb],fun i x cs C hne k1 k2 k3=>?_,by rw [hcI,hv0],by simp [hlb],hr.size⟩,how,List.Perm.refl _⟩
    ·simp only [List.nodup_append,List.mem_append] at h2 ⊢
     exact ⟨h2.1,h2.2.1.2.1,fun a ha b hb=>h2.2.2 a ha b (.inr hb)⟩
    ·rw [List.getElem?_set_ne (fun e=>hne e.symm)] at k3
     exact hr.own i x cs C k1 k2 k3
   ·refine ⟨?_,hdp⟩
    simp only [List.nodup_append,List.mem_append] at h2
    exact h2.2.1.1
theorem zlq {V:Type} {E':DEl V} {v:Value} {xs:List V} {B:List Nat} {I:Int} {o fs:Nat} {row:Bool} {cz:List Value} {u:Value} (i:Nat) (hT:tyB P T=some (row,fs)) (k:Nx n G D w0 R ((d,u) :: E) L H) (hi:xH L i=some (UG E' e B v xs I.toNat cz):=by rfl) (hes:E'.el.size=sz:=by rfl) (hx:oev E x=some (pEl v I sz o):=by rfl) (hd:Nat.blt d n=true:=by rfl) (hu:ldv row o fs cz=some u:=by rfl):Nx n G D w0 (fun a w=>Oper.wp P ⟨some d,.load T x,ty,pos,aft,gd⟩ a w R Q) E L H :=
 YU hd rfl fun ρ w hE hm hH=>by
  obtain ⟨bn,css,Bs,hr,how,hB⟩:=hm.get hi
  have hlc:=(List.getElem?_eq_some_iff.1 hr.here).1
  have hce:=(List.getElem?_eq_some_iff.1 hr.here).2
  have hlx:I.toNat<xs.length:=by rw [← hr.lc];exact hlc
  have hlz:=hr.size _ (List.mem_of_getElem? hr.here)
  rcases how.2 with ⟨_,hn⟩ | ⟨g,cap,cur,hv,_,hg,hnc,_,hcs,ht⟩
  ·omega
  subst hv
  have hrange:w.rangeAt g (0+I.toNat * E'.el.size) cz:=by
   intro j q hq
   rw [cell_of_row w g _ cur e (0,0) hg]
   have hj:=(List.getElem?_eq_some_iff.1 hq).1
   have hfl:css.flatten[I.toNat * E'.el.size+j]?=some q:=by
    have hsp:css=css.take I.toNat++css[I.toNat] :: css.drop (I.toNat+1):=by simp
    have hpl:(css.take I.toNat).flatten.length=I.toNat * E'.el.size:=by rw [zfd (z:=E'.el.size) (fun cs hc=>hr.size cs (List.mem_of_mem_take hc)),List.length_take];congr 1;omega
    rw [hsp,List.flatten_append,List.getElem?_append_right (by omega),hpl,Nat.add_sub_cancel_left,List.flatten_cons,List.getElem?_append_left (by rw [hce];exact hj)]
    rw [hce];exact hq
   rw [← ht,List.getElem?_take] at hfl
   split at hfl
   ·simpa using hfl
   ·cases hfl
  have hld:=zac (P:=P) hT hrange hu
  rw [yi,← hes] at hx
  simp only [Nat.zero_add] at hx hld
  exact ⟨u,w,_,H,by simp [execOp,hE _ _ hx,hld],hm,hH,k⟩
theorem jC (M:x8 P n G D w0 E ⟨some d,.load T x,ty,pos,aft,gd⟩ Tk R Lr L) {wr:World} {F0:Nat->Prop} {v:Value} {I:Int} {o fs:Nat} {cs:List Value} {row:Bool} {u:Value} (i:Nat) (hr:zk6 wr F0 v I sz cs) (hT:tyB P T=some (row,fs)) (k:Nx n G D w0 R ((d,u) :: E) L H) (hi:xH Lr i=some (zl wr F0):=by rfl) (hx:oev E x=some (pEl v I sz o):=by rfl) (hd:Nat.blt d n=true:=by rfl) (hu:ldv row o fs cs=some u:=by rfl):Nx n G D w0 Tk E L H :=
 M.val hd rfl (fun ρ w hE hm _=>by
  obtain ⟨b,off,l,c,rfl,hb,hc⟩:=hr
  have h:(zl wr F0).holds _ w:=hm.get hi
  have hc':w.rangeAt b (off+I.toNat * sz) cs:=zem hc (h.2 b hb)
  have:=zac (P:=P) hT hc' hu
  rw [yi] at hx
  simp [execOp,hE _ _ hx,this]) id k
theorem zL (M:x8 P n G D w0 E ⟨some d,.load T x,ty,pos,aft,gd⟩ Tk R Lr L) {b o sz:Nat} {cs:List Value} {T0:TypeId} {row:Bool} {v:Value} (i:Nat) (hT:tyB P T=some (row,sz)) (k:Nx n G D w0 R ((d,v) :: E) L H) (hi:xH Lr i=some (zc b cs T0):=by rfl) (hx:oev E x=some (.pointer (some ⟨b,o,none⟩)):=by rfl) (hd:Nat.blt d n=true:=by rfl) (hv:ldv row o sz cs=some v:=by rfl):Nx n G D w0 Tk E L H:=zmu M i hi hx hd hT hv k
theorem jb (M:x8 P n G D w0 E ⟨some d,.load T x,ty,pos,aft,gd⟩ Tk R Lr L) {V:Type} {El':El V} {enc:V->List Value} {v:Value} {xs:List V} {c:Ch} {I:Int} {z:V} {o sz fs:Nat} {row:Bool} {u:Value} (i:Nat) (hc:UP c El' v xs) (hfl:VH El' enc) (hz:xs[I.toNat]?=some z) (hT:tyB P T=some (row,fs)) (k:Nx n G D w0 R ((d,u) :: E) L H) (hi:xH Lr i=some c:=by rfl) (hes:El'.size=sz:=by rfl) (hx:oev E x=some (pEl v I sz o):=by rfl) (hd:Nat.blt d n=true:=by rfl) (hv:ldv row o fs (enc z)=some u:=by rfl):Nx n G D w0 Tk E L H :=
 M.val hd rfl (fun ρ w hE hm _=>by
  obtain ⟨b,off',cap,cs,rfl,h1,h2⟩:=(hc _ _ (hm.get hi)).at hz
  rw [yi] at hx
  rw [(hfl _ _ _ _).1 h1,hes] at h2
  have:=zac (P:=P) hT h2 hv
  simp [execOp,hE _ _ hx,this]) id k
theorem zF (M:x8 P n G D w0 E ⟨some d,.call {callee:=.builtin .len,args:=#[x],argTypes:=#[T]},ty,pos,aft,gd⟩ Tk R Lr L) {V:Type} {El':El V} {v:Value} {xs:List V} {c:Ch} {p:TypeId×Nat×Nat} (hT:elB P T=some p) (i:Nat) (hc:UP c El' v xs) (k:Nx n G D w0 R ((d,.int .i64 xs.length) :: E) L H) (hi:xH Lr i=some c:=by rfl) (hx:oev E x=some v:=by rfl) (hd:Nat.blt d n=true:=by rfl):Nx n G D w0 Tk E L H:=zmk M hT i hi hc hx hd k
theorem zjT (M:x8 P n G D w0 E ⟨some d,.call {callee:=.builtin .len,args:=#[x],argTypes:=#[T]},ty,pos,aft,gd⟩ Tk R Lr L) {V:Type} {E':DEl V} {ty':TypeId} {B:List Nat} {I0:Nat} {cz:List Value} {v:Value} {xs:List V} {p:TypeId×Nat×Nat} (hT:elB P T=some p) (i:Nat) (k:Nx n G D w0 R ((d,.int .i64 xs.length) :: E) L H) (hi:xH Lr i=some (UG E' ty' B v xs I0 cz):=by rfl) (hx:oev E x=some v:=by rfl) (hd:Nat.blt d n=true:=by rfl):Nx n G D w0 Tk E L H :=
 M.val hd rfl (fun ρ w hE hm _=>by
  obtain ⟨a,cap,rfl⟩:∃ a cap,v=.slice a xs.length cap:=by
   obtain ⟨bn,css,Bs,hr,how,hB⟩:=hm.get hi
   rcases how.2 with ⟨hv,hn⟩ | ⟨g,cap,cur,hv,_⟩
   ·exact ⟨_,_,by rw [hv,hn]⟩
   ·exact ⟨_,_,hv⟩
  obtain ⟨e,hu⟩:∃ e,P.underlying T=some (.slice e):=by
   unfold elB at hT
   split at hT
   ·exact ⟨_,‹_›⟩
   ·simp at hT
  simp [execOp,resolve,invoke,builtin,hE _ _ hx,go_sem,Builtin.len_,run_underlying hu]) id k
theorem zdz (M:x8 P n G D w0 E ⟨some d,.call {callee:=.builtin .len,args:=#[x],argTypes:=#[T]},ty,pos,aft,gd⟩ Tk R Lr L) {X:ByteArray} (hT:P.underlying T=some .string) (k:Nx n G D w0 R ((d,.int .i64 X.size) :: E) L H) (hx:oev E x=some (.string X):=by rfl) (hd:Nat.blt d n=true:=by rfl):Nx n G D w0 Tk E L H :=
 M.val hd rfl (fun ρ w hE hm _=>by simp [execOp,go_sem,hE _ _ hx,run_underlying hT,hT]) id k
theorem ZC (M:x8 P n G D w0 E ⟨some d,.binOp .leq T x y T',ty,pos,aft,gd⟩ Tk R Lr L) {X Y:Int} {K:IntKind} (k:Nx n G D w0 R ((d,.bool (decide (X<=Y))) :: E) L H) (hx:oev E x=some (.int K X):=by rfl) (hy:oev E y=some (.int K Y):=by rfl) (hd:Nat.blt d n=true:=by rfl):Nx n G D w0 Tk E L H :=
 M.val hd rfl (fun ρ w hE _ hH=>by simp [execOp,hE _ _ hx,hE _ _ hy,go_sem]) id k
theorem zX (M:x8 P n G D w0 E ⟨some d,.binOp .lss T x y T',ty,pos,aft,gd⟩ Tk R Lr L) {X Y:Int} {K:IntKind} (k:Nx n G D w0 R ((d,.bool (decide (X<Y))) :: E) L H) (hx:oev E x=some (.int K X):=by rfl) (hy:oev E y=some (.int K Y):=by rfl) (hd:Nat.blt d n=true:=by rfl):Nx n G D w0 Tk E L H:=zqh M hx hy hd k
theorem zl1 {V:Type} {El':El V} {enc:V->List Value} {z:V} {N M:Int} {O:List V->Prop} {zs:List Value} (hfl:VH El' enc) (hT:elB P T=some (e,sz,by')) (hzr:uR P e=some zs) (k:∀ v xs,Nx n G D w0 R ((d,v) :: E) (zf El' e v xs :: L) (O xs)) (hx:oev E x=some (.int .i64 N):=by rfl) (hy:oev E y=some (.int .i64 M):=by rfl) (hd:Nat.blt d n=true:=by rfl) (hby:Nat.ble by' 32768=true:=by rfl) (hz:enc z=zs:=by rfl) (hes:El'.size=sz:=by rfl):Nx n G D w0 (fun a w=>Oper.wp P ⟨some d,.makeSlice T x y,ty,pos,aft,gd⟩ a w R Q) E L (zbS z N M O) :=
 YU hd rfl fun ρ w hE hm hH=>by
  obtain ⟨h0,h1,h2,h3⟩:=hH
  obtain ⟨hu,i,hi,rfl,rfl⟩:=yZ hT
  obtain ⟨z',hz',hzc⟩:=Z7 hzr hi
  unfold zf5 at h2
  have hbl:=Nat.le_of_ble_eq_true hby
  obtain ⟨M',rfl⟩:=Int.eq_ofNat_of_zero_le (show 0<=M by omega)
  have hb:(i.bytes:Int) * (M':Int)<=281474976710656:=by
   have h5:i.bytes * M'<=32768 * 4294967296:=Nat.mul_le_mul hbl (by simpa using h2)
   rw [← Int.natCast_mul]
   omega
  have hr:=run_make (P:=P) w T e i z' hu hi hz' .i64 .i64 N M' h0 h1 hb (by simp at h2;omega)
  have hlz:(enc z).length=El'.size:=hfl.size w z
  have hpos:=El'.pos
  rw [hzc,← hz,← hes,← hlz] at hr
  rw [Int.toNat_natCast] at hr h2
  refine ⟨.slice (some ⟨w.heap.size,0,none⟩) N.toNat M',w.alloc (.cells (madeCells (enc z).toArray (M' * (enc z).length)) e),_,O (List.replicate N.toNat z),by simp [execOp,hE _ _ hx,hE _ _ hy,hr],?_,h3,k _ _⟩
  refine hm.add _ ((Below.refl _ _).alloc (Nat.le_refl _) _) (fun b hb=>by simp [zf,Value.ownBlock] at hb;rw [World.size_alloc];omega) ?_
  have hown:=zdn (El':=El') (F:=fz G (zf El' e (.slice (some ⟨w.heap.size,0,none⟩) N.toNat M') (List.replicate N.toNat z) :: L) (w.alloc (.cells (madeCells (enc z).toArray (M' * (enc z).length)) e))) (w:=w.alloc (.cells (madeCells (enc z).toArray (M' * (enc z).length)) e)) (ty:=e) (b:=w.heap.size) (cap:=M')
   (Rows.replicate ((hfl _ _ _ _).2 rfl) N.toNat) (heap_alloc_new w _) (by simp;omega) (by unfold maxLen;omega) (by rw [size_madeCells,hlz]) (by
    rw [XB _ _ (by omega),List.length_replicate,← hlz]
    have:List.replicate M' (enc z)=List.replicate N.toNat (enc z)++List.replicate (M' - N.toNat) (enc z):=by rw [List.replicate_append_replicate];congr 1;omega
    rw [this,List.flatten_append,List.take_left' (by simp)])
  rw [List.length_replicate] at hown
  exact hown
theorem zes {V:Type} {E':DEl V} {z:V} {N M:Int} {O:List V->Prop} {zs:List Value} (hz:∀ w,E'.own [] w z zs) (hT:elB P T=some (e,sz,by')) (hzr:uR P e=some zs) (k:∀ B v xs,Nx n G D w0 R ((d,v) :: E) (jq E' e B v xs :: L) (O xs)) (hx:oev E x=some (.int .i64 N):=by rfl) (hy:oev E y=some (.int .i64 M):=by rfl) (hd:Nat.blt d n=true:=by rfl) (hby:Nat.ble by' 32768=true:=by rfl) (hes:E'.el.size=sz:=by rfl):Nx n G D w0 (fun a w=>Oper.wp P ⟨some d,.makeSlice T x y,ty,pos,aft,gd⟩ a w R Q) E L (zbS z N M O) :=
 YU hd rfl fun ρ w hE hm hH=>by
  obtain ⟨h0,h1,h2,h3⟩:=hH
  obtain ⟨hu,i,hi,rfl,rfl⟩:=yZ hT
  obtain ⟨z',hz',hzc⟩:=Z7 hzr hi
  unfold zf5 at h2
  have hbl:=Nat.le_of_ble_eq_true hby
  obtain ⟨M',rfl⟩:=Int.eq_ofNat_of_zero_le (show 0<=M by omega)
  have hb:(i.bytes:Int) * (M':Int)<=281474976710656:=by
   have h5:i.bytes * M'<=32768 * 4294967296:=Nat.mul_le_mul hbl (by simpa using h2)
   rw [← Int.natCast_mul]
   omega
  have hr:=run_make (P:=P) w T e i z' hu hi hz' .i64 .i64 N M' h0 h1 hb (by simp at h2;omega)
  have hlz:zs.length=E'.el.size:=E'.el.len _ _ _ _ (E'.read _ _ _ _ (hz w))
  have hpos:=E'.el.pos
  rw [hzc,← hes,← hlz] at hr
  rw [Int.toNat_natCast] at hr h2
  refine ⟨.slice (some ⟨w.heap.size,0,none⟩) N.toNat M',w.alloc (.cells (madeCells zs.toArray (M' * zs.length)) e),_,O (List.replicate N.toNat z),by simp [execOp,hE _ _ hx,hE _ _ hy,hr],?_,h3,k [w.heap.size] _ _⟩
  refine hm.add _ ((Below.refl _ _).alloc (Nat.le_refl _) _) (fun b hb=>by simp [jq] at hb;rw [World.size_alloc];omega) ⟨by simp,?_⟩
  have hr:=ZZ.replicate (E:=E') (w:=w.alloc (.cells (madeCells zs.toArray (M' * zs.length)) e)) (hz _) N.toNat
  refine ⟨_,_,hr,?_,by rw [zeF];simp [zaM,Value.ownBlock]⟩
  rw [List.length_replicate]
  refine ⟨by simp [hlz],.inr ⟨w.heap.size,M',madeCells zs.toArray (M' * zs.length),rfl,Nat.zero_le _,heap_alloc_new w _,by omega,by unfold maxLen;omega,by rw [size_madeCells,hlz],?_⟩⟩
  rw [XB _ _ (by omega),← hlz]
  have:List.replicate M' zs=List.replicate N.toNat zs++List.replicate (M' - N.toNat) zs:=by rw [List.replicate_append_replicate];congr 1;omega
  rw [this,List.flatten_append,List.take_left' (by simp)]
theorem zg2 {V:Type} {El':El V} {z:V} {N M:Int} {O:List V->Prop} {zs:List Value} (hz:∀ F w,El'.cells F w z zs) (hT:elB P T=some (e,sz,by')) (hzr:uR P e=some zs) (k:∀ v xs,Nx n G D w0 R ((d,v) :: E) (zf El' e v xs :: L) (O xs)) (hx:oev E x=some (.int .i64 N):=by rfl) (hy:oev E y=some (.int .i64 M):=by rfl) (hd:Nat.blt d n=true:=by rfl) (hby:Nat.ble by' 32768=true:=by rfl) (hes:El'.size=sz:=by rfl):Nx n G D w0 (fun a w=>Oper.wp P ⟨some d,.makeSlice T x y,ty,pos,aft,gd⟩ a w R Q) E L (zbS z N M O) :=
 YU hd rfl fun ρ w hE hm hH=>by
  obtain ⟨h0,h1,h2,h3⟩:=hH
  obtain ⟨hu,i,hi,rfl,rfl⟩:=yZ hT
  obtain ⟨z',hz',hzc⟩:=Z7 hzr hi
  unfold zf5 at h2
  have hbl:=Nat.le_of_ble_eq_true hby
  obtain ⟨M',rfl⟩:=Int.eq_ofNat_of_zero_le (show 0<=M by omega)
  have hb:(i.bytes:Int) * (M':Int)<=281474976710656:=by
   have h5:i.bytes * M'<=32768 * 4294967296:=Nat.mul_le_mul hbl (by simpa using h2)
   rw [← Int.natCast_mul]
   omega
  have hr:=run_make (P:=P) w T e i z' hu hi hz' .i64 .i64 N M' h0 h1 hb (by simp at h2;omega)
  have hlz:zs.length=El'.size:=El'.len _ _ _ _ (hz (fun _=>True) w)
  have hpos:=El'.pos
  rw [hzc,← hes,← hlz] at hr
  rw [Int.toNat_natCast] at hr h2
  refine ⟨.slice (some ⟨w.heap.size,0,none⟩) N.toNat M',w.alloc (.cells (madeCells zs.toArray (M' * zs.length)) e),_,O (List.replicate N.toNat z),by simp [execOp,hE _ _ hx,hE _ _ hy,hr],?_,h3,k _ _⟩
  refine hm.add _ ((Below.refl _ _).alloc (Nat.le_refl _) _) (fun b hb=>by simp [zf,Value.ownBlock] at hb;rw [World.size_alloc];omega) ?_
  have hown:=zdn (El':=El') (F:=fz G (zf El' e (.slice (some ⟨w.heap.size,0,none⟩) N.toNat M') (List.replicate N.toNat z) :: L) (w.alloc (.cells (madeCells zs.toArray (M' * zs.length)) e))) (w:=w.alloc (.cells (madeCells zs.toArray (M' * zs.length)) e)) (ty:=e) (b:=w.heap.size) (cap:=M')
   (Rows.replicate (hz _ _) N.toNat) (heap_alloc_new w _) (by simp;omega) (by unfold maxLen;omega) (by rw [size_madeCells,hlz]) (by
    rw [XB _ _ (by omega),List.length_replicate,← hlz]
    have:List.replicate M' zs=List.replicate N.toNat zs++List.replicate (M' - N.toNat) zs:=by rw [List.replicate_append_replicate];congr 1;omega
    rw [this,List.flatten_append,List.take_left' (by simp)])
  rw [List.length_replicate] at hown
  exact hown
theorem zh5 (M:x8 P n G D w0 E ⟨some d,.call {callee:=.builtin .max,args:=#[x,y],argTypes:=at'},ty,pos,aft,gd⟩ Tk R Lr L) {X Y:Int} (k:Nx n G D w0 R ((d,.int .i64 (max X Y)) :: E) L H) (hx:oev E x=some (.int .i64 X):=by rfl) (hy:oev E y=some (.int .i64 Y):=by rfl) (hd:Nat.blt d n=true:=by rfl):Nx n G D w0 Tk E L H :=
 M.val hd rfl (fun ρ w hE _ _=>by
  have e:(if Y > X then Y else X)=max X Y:=by rw [Int.max_def];split <;> split <;> omega
  simp [execOp,resolve,invoke,builtin,hE _ _ hx,hE _ _ hy,Builtin.max_,Builtin.max2,← e]) id k
theorem zav (M:x8 P n G D w0 E ⟨some d,.call {callee:=.builtin .min,args:=#[x,y],argTypes:=at'},ty,pos,aft,gd⟩ Tk R Lr L) {X Y:Int} (k:Nx n G D w0 R ((d,.int .i64 (min X Y)) :: E) L H) (hx:oev E x=some (.int .i64 X):=by rfl) (hy:oev E y=some (.int .i64 Y):=by rfl) (hd:Nat.blt d n=true:=by rfl):Nx n G D w0 Tk E L H :=
 M.val hd rfl (fun ρ w hE _ _=>by
  have e:(if Y<X then Y else X)=min X Y:=by rw [Int.min_def];split <;> split <;> omega
  simp [execOp,resolve,invoke,builtin,hE _ _ hx,hE _ _ hy,Builtin.min_,Builtin.min2,← e]) id k
theorem zfQ (M:x8 P n G D w0 E ⟨some d,.makeInterface T x,ty,pos,aft,gd⟩ Tk R Lr L) {v u:Value} (hm:∀ v w,(Instr.makeInterface T v).run P w=.ok (.iface T v) w) (k:Nx n G D w0 R ((d,u) :: E) L H) (hx:oev E x=some v:=by rfl) (hd:Nat.blt d n=true:=by rfl) (hu:Value.iface T v=u:=by rfl):Nx n G D w0 Tk E L H :=
 M.val hd rfl (fun ρ w hE _ _=>by simp [execOp,hE _ _ hx,hm,hu]) id k
theorem zdW (M:x8 P n G D w0 E ⟨some d,.binOp .mul T x y T',ty,pos,aft,gd⟩ Tk R Lr L) {X Y:Int} {O:Int->Prop} (k:∀ z,Nx n G D w0 R ((d,.int .i64 z) :: E) L (O z)) (hx:oev E x=some (.int .i64 X):=by rfl) (hy:oev E y=some (.int .i64 Y):=by rfl) (hd:Nat.blt d n=true:=by rfl):Nx n G D w0 Tk E L (zio X Y O) :=
 M.val (v:=.int .i64 (X * Y)) hd rfl (fun ρ w hE _ hH=>by
  have h:=hH.1
  have e:IntKind.i64.wrap (X * Y)=X * Y:=by unfold I64 at h;rw [IntKind.wrap_i64];omega
  simp [execOp,hE _ _ hx,hE _ _ hy,go_sem,e]) (fun h=>h.2) (k _)
theorem zmE (M:x8 P n G D w0 E ⟨some d,.binOp .mul T x y T',ty,pos,aft,gd⟩ Tk R Lr L) {X Y:Int} (k:Nx n G D w0 R ((d,.int .i64 (w64 (X * Y))) :: E) L H) (hx:oev E x=some (.int .i64 X):=by rfl) (hy:oev E y=some (.int .i64 Y):=by rfl) (hd:Nat.blt d n=true:=by rfl):Nx n G D w0 Tk E L H :=
 M.val hd rfl (fun ρ w hE _ _=>by simp [execOp,hE _ _ hx,hE _ _ hy,go_sem,w64]) id k
theorem zp (M:x8 P n G D w0 E ⟨some d,.move x,ty,pos,aft,gd⟩ Tk R Lr L) {v:Value} (k:Nx n G D w0 R ((d,v) :: E) L H) (hx:oev E x=some v:=by rfl) (hd:Nat.blt d n=true:=by rfl):Nx n G D w0 Tk E L H:=Vr M hx hd k
theorem zau (M:x8 P n G D w0 E ⟨some d,.binOp .neq T x y T',ty,pos,aft,gd⟩ Tk R Lr L) {X Y:Int} {K:IntKind} (hT:P.underlying T=some (.int K)) (k:Nx n G D w0 R ((d,.bool (!decide (X=Y))) :: E) L H) (hx:oev E x=some (.int K X):=by rfl) (hy:oev E y=some (.int K Y):=by rfl) (hd:Nat.blt d n=true:=by rfl):Nx n G D w0 Tk E L H :=
 M.val hd rfl (fun ρ w hE _ _=>by simp [execOp,hE _ _ hx,hE _ _ hy,go_sem,hT,run_underlying hT];rfl) id k
theorem zmw (M:x8 P n G D w0 E ⟨some d,.binOp .neq T x y T',ty,pos,aft,gd⟩ Tk R Lr L) {X Y:Bool} (hT:P.underlying T=some .bool) (k:Nx n G D w0 R ((d,.bool (!decide (X=Y))) :: E) L H) (hx:oev E x=some (.bool X):=by rfl) (hy:oev E y=some (.bool Y):=by rfl) (hd:Nat.blt d n=true:=by rfl):Nx n G D w0 Tk E L H :=
 M.val hd rfl (fun ρ w hE _ _=>by cases X <;> cases Y <;> simp [execOp,hE _ _ hx,hE _ _ hy,go_sem,hT,run_underlying hT]) id k
theorem zaP (M:x8 P n G D w0 E ⟨some d,.binOp .neq T x y T',ty,pos,aft,gd⟩ Tk R Lr L) {X Y:ByteArray} (hT:P.underlying T=some .string) (k:Nx n G D w0 R ((d,.bool (!decide (X=Y))) :: E) L H) (hx:oev E x=some (.string X):=by rfl) (hy:oev E y=some (.string Y):=by rfl) (hd:Nat.blt d n=true:=by rfl):Nx n G D w0 Tk E L H :=
 M.val hd rfl (fun ρ w hE _ _=>by simp [execOp,hE _ _ hx,hE _ _ hy,go_sem,hT,run_underlying hT,Op.stringOp,znU]) id k
theorem zce {V:Type} {E':El V} {v:Value} {xs:List V} {c:Ch} {I:Int} {z:V} {o:Nat} (M:x8 P n G D w0 E ⟨some d,.nilCheck x,ty,pos,aft,gd⟩ Tk R Lr L) (i:Nat) (hc:UP c E' v xs) (hz:xs[I.toNat]?=some z) (k:Nx n G D w0 R ((d,pEl v I sz o) :: E) L H) (hi:xH Lr i=some c:=by rfl) (hx:oev E x=some (pEl v I sz o):=by rfl) (hd:Nat.blt d n=true:=by rfl):Nx n G D w0 Tk E L H :=
 M.val hd rfl (fun ρ w hE hm _=>by
  obtain ⟨b,off,cap,cs,rfl,hcs,hr⟩:=(hc _ _ (hm.get hi)).at hz
  rw [yi] at hx
  simp [execOp,hE _ _ hx,yi]) id k
theorem zji (M:x8 P n G D w0 E ⟨some d,.nilCheck x,ty,pos,aft,gd⟩ Tk R Lr L) {V:Type} {E':DEl V} {ty':TypeId} {B:List Nat} {I0:Nat} {cz:List Value} {v:Value} {xs:List V} {I:Int} {o sz:Nat} (i:Nat) (hz:I.toNat<xs.length) (k:Nx n G D w0 R ((d,pEl v I sz o) :: E) L H) (hi:xH Lr i=some (UG E' ty' B v xs I0 cz):=by rfl) (hx:oev E x=some (pEl v I sz o):=by rfl) (hd:Nat.blt d n=true:=by rfl):Nx n G D w0 Tk E L H :=
 M.val hd rfl (fun ρ w hE hm _=>by
  obtain ⟨g,cap,rfl⟩:=zn3 (hm.get hi) hz
  rw [yi] at hx
  simp [execOp,hE _ _ hx,yi]) id k
theorem jB (M:x8 P n G D w0 E ⟨some d,.nilCheck x,ty,pos,aft,gd⟩ Tk R Lr L) {a:Addr} (k:Nx n G D w0 R ((d,.pointer (some a)) :: E) L H) (hx:oev E x=some (.pointer (some a)):=by rfl) (hd:Nat.blt d n=true:=by rfl):Nx n G D w0 Tk E L H :=
 M.val hd rfl (fun ρ w hE _ _=>by simp [execOp,hE _ _ hx]) id k
theorem jn (M:x8 P n G D w0 E ⟨some d,.unOp .not T x,ty,pos,aft,gd⟩ Tk R Lr L) {b:Bool} (k:Nx n G D w0 R ((d,.bool (!b)) :: E) L H) (hx:oev E x=some (.bool b):=by rfl) (hd:Nat.blt d n=true:=by rfl):Nx n G D w0 Tk E L H:=zqo M hx hd k
theorem zD {c:Operand} (M:x8 P n G D w0 E ⟨some d,.pick c x y,ty,pos,aft,gd⟩ Tk R Lr L) {v:Value} (k:Nx n G D w0 R ((d,v) :: E) L H) (hc:oev E c=some (.bool false):=by rfl) (hx:oev E y=some v:=by rfl) (hd:Nat.blt d n=true:=by rfl):Nx n G D w0 Tk E L H :=
 M.val hd rfl (fun ρ w hE _ _=>by simp [execOp,hE _ _ hc,hE _ _ hx,asBool]) id k
theorem zK {c:Operand} (M:x8 P n G D w0 E ⟨some d,.pick c x y,ty,pos,aft,gd⟩ Tk R Lr L) {v:Value} (k:Nx n G D w0 R ((d,v) :: E) L H) (hc:oev E c=some (.bool true):=by rfl) (hx:oev E x=some v:=by rfl) (hd:Nat.blt d n=true:=by rfl):Nx n G D w0 Tk E L H :=
 M.val hd rfl (fun ρ w hE _ _=>by simp [execOp,hE _ _ hc,hE _ _ hx,asBool]) id k
theorem zjJ (M:x8 P n G D w0 E ⟨some d,.binOp .quo T x y T',ty,pos,aft,gd⟩ Tk R Lr L) {X Y:Int} {O:Int->Prop} (k:∀ z,Nx n G D w0 R ((d,.int .i64 z) :: E) L (O z)) (hx:oev E x=some (.int .i64 X):=by rfl) (hy:oev E y=some (.int .i64 Y):=by rfl) (hd:Nat.blt d n=true:=by rfl):Nx n G D w0 Tk E L (zlU X Y O) :=
 M.val (v:=.int .i64 (X.tdiv Y)) hd rfl (fun ρ w hE _ hH=>by
  obtain ⟨h2,h3,_⟩:=hH
  have e0:Y≠0:=by omega
  have e:IntKind.i64.wrap (X.tdiv Y)=X.tdiv Y:=by
   unfold I64 at h3
   rw [IntKind.wrap_i64]
   by_cases h1:0<=X
   ·have e1:X.tdiv Y=X / Y:=Int.tdiv_eq_ediv_of_nonneg h1
    have e2:=Int.ediv_nonneg h1 (show 0<=Y by omega)
    have e3:X / Y<=X:=Int.ediv_le_self _ h1
    omega
   ·have e1:X.tdiv Y=-((-X) / Y):=by
     have:=Int.neg_tdiv (a:=-X) (b:=Y)
     rw [Int.neg_neg] at this
     rw [this,Int.tdiv_eq_ediv_of_nonneg (by omega)]
    have e2:=Int.ediv_nonneg (show 0<=-X by omega) (show 0<=Y by omega)
    have e3:(-X) / Y<=-X:=Int.ediv_le_self _ (by omega)
    omega
  simp [execOp,hE _ _ hx,hE _ _ hy,go_sem,e0,e]) (fun h=>h.2.2) (k _)
theorem V4 (M:x8 P n G D w0 E ⟨some d,.binOp .rem T x y T',ty,pos,aft,gd⟩ Tk R Lr L) {X Y:Int} {O:Int->Prop} (k:∀ z,Nx n G D w0 R ((d,.int .i64 z) :: E) L (O z)) (hx:oev E x=some (.int .i64 X):=by rfl) (hy:oev E y=some (.int .i64 Y):=by rfl) (hd:Nat.blt d n=true:=by rfl):Nx n G D w0 Tk E L (zcD X Y O) :=
 M.val (v:=.int .i64 (X % Y)) hd rfl (fun ρ w hE _ hH=>by
  obtain ⟨h1,h2,h3,_⟩:=hH
  have e0:Y≠0:=by omega
  have e1:X.tmod Y=X % Y:=Int.tmod_eq_emod_of_nonneg h1
  simp [execOp,hE _ _ hx,hE _ _ hy,go_sem,e0,e1]) (fun h=>h.2.2.2) (k _)
theorem Yn {V:Type} {El':El V} {v:Value} {xs:List V} {lo hi:Option Operand} {I J:Int} {O:List V->Prop} (i:Nat) (hT:elB P T=some (e,sz,by')) (k:∀ v' ys,Nx n G D w0 R ((d,v') :: E) (xB El' v' ys :: L) (O ys)) (hi':xH L i=some (xB El' v xs):=by rfl) (hx:oev E x=some v:=by rfl) (hlo:match lo with | none=>I=0 | some l=>oev E l=some (.int .i64 I):=by rfl) (hhi:match hi with | none=>J=xs.length | some h=>oev E h=some (.int .i64 J):=by rfl) (hd:Nat.blt d n=true:=by rfl) (hes:El'.size=sz:=by rfl):Nx n G D w0 (fun a w=>Oper.wp P ⟨some d,.slice T x lo hi none,ty,pos,aft,gd⟩ a w R Q) E L (Xg xs I J O) :=
 YU hd rfl fun ρ w hE hm hH=>by
  obtain ⟨h0,h1,h2,h3⟩:=hH
  obtain ⟨hu,inf,hinf,rfl,rfl⟩:=yZ hT
  have hsl:=hm.ro i hi'
  obtain ⟨a,cap,hv,hcap,_⟩:=hsl
  have hsl:=hm.ro i hi'
  subst hv
  have hp:=fun (F:Nat->Prop) (h:Sl El' F w (.slice a xs.length cap) xs)=>h.part I.toNat J.toNat (by omega) (by omega)
  refine ⟨_,w,_,O ((xs.take J.toNat).drop I.toNat),?_,zn8 hm hi' hp,h3,k _ _⟩
  have e1:(J:Int)<=cap:=by omega
  have e2:0<=J:=by omega
  cases lo with
  | none =>
   cases hi with
   | none =>
    simp only at hlo hhi
    subst hlo hhi
    simp [execOp,hE _ _ hx,Instr.sliceAt,Instr.slice,Instr.sliceBounds,run_underlying hu,sizeOf,typeInfo,hinf,hes]
   | some hh =>
    simp only at hlo hhi
    subst hlo
    simp [execOp,hE _ _ hx,hE _ _ hhi,Instr.sliceAt,Instr.slice,Instr.sliceBounds,Instr.sliceBound,asIntOf,run_underlying hu,sizeOf,typeInfo,hinf,e1,e2,hes]
  | some ll =>
   cases hi with
   | none =>
    simp only at hlo hhi
    subst hhi
    have e3:I<=(xs.length:Int):=h1
    simp [execOp,hE _ _ hx,hE _ _ hlo,Instr.sliceAt,Instr.slice,Instr.sliceBounds,Instr.sliceBound,asIntOf,run_underlying hu,sizeOf,typeInfo,hinf,h0,e3,hes]
   | some hh =>
    simp only at hlo hhi
    have e4:I<=(J.toNat:Int):=by omega
    simp [execOp,hE _ _ hx,hE _ _ hlo,hE _ _ hhi,Instr.sliceAt,Instr.slice,Instr.sliceBounds,Instr.sliceBound,asIntOf,run_underlying hu,sizeOf,typeInfo,hinf,h0,e1,e2,e4,hes]
    intro h;omega
theorem zmV {V:Type} {El':El V} {e':Nat} {v:Value} {xs:List V} {hh:Operand} {J:Int} {O:List V->Prop} (i:Nat) (hT:elB P T=some (e,sz,by')) (k:∀ v' ys,Nx n G D w0 R ((d,v') :: E) (ZQ L i (zf El' e' v' ys)) (O ys)) (hi':xH L i=some (zf El' e' v xs):=by rfl) (hx:oev E x=some v:=by rfl) (hhi:oev E hh=some (.int .i64 J):=by rfl) (hd:Nat.blt d n=true:=by rfl) (hes:El'.size=sz:=by rfl):Nx n G D w0 (fun a w=>Oper.wp P ⟨some d,.slice T x none (some hh) none,ty,pos,aft,gd⟩ a w R Q) E L (Xg xs 0 J O) :=
 YU hd rfl fun ρ w hE hm hH=>by
  obtain ⟨h0,h1,h2,h3⟩:=hH
  obtain ⟨hu,inf,hinf,rfl,rfl⟩:=yZ hT
  have hown:Own El' e' (fz G L w) w v xs:=hm.get hi'
  obtain ⟨a,cap,hv,hc⟩:∃ a cap,v=.slice a xs.length cap∧xs.length<=cap:=by
   obtain ⟨css,_,_,hq⟩:=hown
   rcases hq with ⟨rfl,hn⟩ | ⟨g,cap,cur,rfl,_,_,hle,_⟩
   ·exact ⟨none,0,by rw [hn],by omega⟩
   ·exact ⟨_,cap,rfl,hle⟩
  subst hv
  have e1:(J:Int)<=cap:=by omega
  have e2:0<=J:=by omega
  have hs:(xs.take J.toNat).drop (0:Int).toNat=xs.take J.toNat:=by simp
  rw [hs] at h3
  have hfoot:∀ b,(zf El' e' (.slice a J.toNat cap) (xs.take J.toNat)).foot b->(zf El' e' (.slice a xs.length cap) xs).foot b:=by
   intro b hb
   cases a with
   | none=>simp [zf,Value.ownBlock] at hb
   | some ad=>simpa [zf,Value.ownBlock] using hb
  refine ⟨.slice a J.toNat cap,w,_,O (xs.take J.toNat),?_,hm.upd (c':=zf El' e' (.slice a J.toNat cap) (xs.take J.toNat)) hi' rfl rfl rfl (Nat.le_refl _) (fun _ _ _=>rfl) (fun b hb=>?_) ?_,h3,k _ _⟩
  ·simp [execOp,hE _ _ hx,hE _ _ hhi,Instr.sliceAt,Instr.slice,Instr.sliceBounds,Instr.sliceBound,asIntOf,run_underlying hu,sizeOf,typeInfo,hinf,e1,e2,hes]
   cases a with
   | none=>simp
   | some ad=>simp [Addr.add]
  ·have hb':=hfoot b hb
   exact ⟨hown.lt b hb',.inl hb'⟩
  ·refine Own.keep (hown.cut J.toNat (by omega)) (fun b hb=>?_) (fun _ _=>rfl)
   refine ⟨hb.1,hb.2.1,fun c hc=>?_⟩
   rcases X4 hi' hm.disj hc with e' | ⟨e',_⟩
   ·subst e';exact fun h=>hb.2.2 _ (x7 hi') (hfoot b h)
   ·exact hb.2.2 c e'
theorem Xe {V:Type} {El':El V} {u:Value} {cs:List Value} {len b fs:Nat} {xs0:List V} {row:Bool} {e':TypeId} (i:Nat) (xs:List V) (css:List (List Value)) (hr:∀ w,Mem G D w0 L w->Rows El' (fz G L w) w xs css) (hT:tyB P T=some (row,fs)) (k:Nx n G D w0 R E (ZQ L i (zf El' e' (.slice (some ⟨b,0,none⟩) len len) xs)) H) (hi:xH L i=some (zf El' e' (.slice (some ⟨b,0,none⟩) len len) xs0):=by rfl) (hx:oev E x=some (.pointer (some ⟨b,0,none⟩)):=by rfl) (hy:oev E y=some u:=by rfl) (hcs:u.cells=cs.toArray:=by rfl) (hfl:css.flatten=cs:=by rfl) (hl:xs.length=len:=by rfl) (h1:u.cells.toList.all (·.oneCell')=true:=by rfl) (hsz:Nat.beq u.cells.size fs=true:=by rfl) (hpos:Nat.beq len 0=false:=by rfl):Nx n G D w0 (fun a w=>Oper.wp P ⟨none,.store T x y,ty,pos,aft,gd⟩ a w R Q) E L H :=
 zfU rfl fun ρ w hE hm hH=>by
  obtain ⟨css0,hr0,how⟩:=hm.get hi
  obtain ⟨h0,hown⟩:=how
  have hlp:len≠0:=fun e=>by rw [e] at hpos;simp at hpos
  rcases hown with ⟨h,_⟩ | ⟨g,cap,cur,h,hg0,hg,hnc,hcm,hcz,htake⟩
  ·cases h
  simp only [Value.slice.injEq,Option.some.injEq,Addr.mk.injEq] at h
  obtain ⟨⟨rfl,-,-⟩,hln,rfl⟩:=h
  have hrows:=hr w hm
  have hlen:=hrows.length
  rw [hfl,hl] at hlen
  have hb:w.heap[b]?=some (.cells cur.toList.toArray e' (0,0)):=by simpa using hg
  have hcl:cur.toList.length=len * El'.size:=by rw [Array.length_toList,hcz]
  have hus:u.cells.toList=cs:=by rw [hcs]
  have hzs:=Nat.eq_of_beq_eq_true hsz
  have hr':=zdv (P:=P) (w:=w) hT hsz h1 (b:=b) (o:=0) (Yk hb (by rw [hcl];rw [hcs];simp [hlen]))
  refine ⟨_,_,H,by simp [execOp,hE _ _ hx,hE _ _ hy,hr'];rfl,?_,hH,k⟩
  obtain ⟨s1,s2,s3⟩:=XQ b u.cells.toList 0 w
  have hput:YJ cur.toList 0 cs=cs:=by
   have key:∀ (vs l:List Value),vs.length=l.length->∀ p:List Value,YJ (p++l) p.length vs=p++vs:=by
    intro vs
    induction vs with
    | nil=>intro l hl p;cases l with
     | nil=>rfl
     | cons _ _=>simp at hl
    | cons a r ih=>intro l hl p;cases l with
     | nil=>simp at hl
     | cons c l =>
      rw [YJ]
      have:(p++c :: l).set p.length a=(p++[a])++l:=by simp
      rw [this]
      have:=ih l (by simpa using hl) (p++[a])
      simpa using this
   simpa using key cs cur.toList (by omega) []
  have hup:=XN b e' (0,0) u.cells.toList 0 cur.toList w hb
  rw [hus,hput] at hup
  refine hm.upd hi s1 s2 s3 (by rw [xK];exact Nat.le_refl _) (fun x _ hx=>uF b _ _ _ _ (fun e=>hx (by rw [e];rfl))) (fun x hx=>⟨?_,.inl hx⟩) ?_
  ·have hx':some b=some x:=hx
   cases hx'
   rw [xK]
   exact (Array.getElem?_eq_some_iff.1 hg).1
  ·have hsame:∀ c,fz G L w c->(w.setCells b 0 u.cells.toList).heap[c]?=w.heap[c]?:=fun c hc=>uF b _ _ _ _ (fun e''=>hc.2.2 _ (x7 hi) (by rw [e''];rfl))
   have hk:=hrows.keep (F':=fz G (ZQ L i (zf El' e' (.slice (some ⟨b,0,none⟩) len len) xs)) (w.setCells b 0 u.cells.toList)) (fun c hc=>⟨by rw [xK];exact hc.1,hc.2.1,fun x hx=>by
    rcases X4 hi hm.disj hx with e'' | ⟨e1,_⟩
    ·subst e'';exact fun hk=>hc.2.2 _ (x7 hi) hk
    ·exact hc.2.2 x e1⟩) hsame
   subst hl
   have h0':=hk.length
   rw [hfl] at h0'
   refine ⟨css,hk,by rw [hfl];exact h0',.inr ⟨b,xs.length,cs.toArray,rfl,hg0,by rw [hus];exact hup,Nat.le_refl _,hcm,by simpa using h0',by rw [hfl,← h0'];simp⟩⟩
theorem zH {b o sz:Nat} {cs cs':List Value} {T0:TypeId} {row:Bool} {u:Value} (i:Nat) (hT:tyB P T=some (row,sz)) (k:Nx n G D w0 R E (ZQ L i (zc b cs' T0)) H) (hi:xH L i=some (zc b cs T0):=by rfl) (hx:oev E x=some (.pointer (some ⟨b,o,none⟩)):=by rfl) (hy:oev E y=some u:=by rfl) (hsz:Nat.beq u.cells.size sz=true:=by rfl) (h1:u.cells.toList.all (·.oneCell')=true:=by rfl) (hle:Nat.ble (o+sz) cs.length=true:=by rfl) (hcs:YJ cs o u.cells.toList=cs':=by rfl):Nx n G D w0 (fun a w=>Oper.wp P ⟨none,.store T x y,ty,pos,aft,gd⟩ a w R Q) E L H:=zgV i hi hx hy hT hsz h1 hle hcs k
theorem zaw {V:Type} {El':El V} {enc:V->List Value} {v:Value} {xs:List V} {I:Int} {z y':V} {o sz fs:Nat} {row:Bool} {u:Value} (i:Nat) (hfl:VH El' enc) (hz:xs[I.toNat]?=some z) (hT:tyB P T=some (row,fs)) (k:Nx n G D w0 R E (ZQ L i (zf El' e v (xs.set I.toNat y'))) H) (hi:xH L i=some (zf El' e v xs):=by rfl) (hes:El'.size=sz:=by rfl) (hx:oev E x=some (pEl v I sz o):=by rfl) (hy:oev E y=some u:=by rfl) (hsz:Nat.beq u.cells.size fs=true:=by rfl) (h1:u.cells.toList.all (·.oneCell')=true:=by rfl) (hle:Nat.ble (o+fs) sz=true:=by rfl) (hy':YJ (enc z) o u.cells.toList=enc y':=by rfl):Nx n G D w0 (fun a w=>Oper.wp P ⟨none,.store T x y,ty,pos,aft,gd⟩ a w R Q) E L H :=
 zfU rfl fun ρ w hE hm hH=>by
  have hlt:=(List.getElem?_eq_some_iff.1 hz).1
  obtain ⟨css,hr,hown⟩:=hm.get hi
  have hcss:=hr.length
  obtain ⟨h0,hown⟩:=hown
  rcases hown with ⟨_,hn⟩ | ⟨g,cap,cur,rfl,hg0,hg,hnc,hcm,hcs,htake⟩
  ·omega
  rw [yi] at hx
  have hzs:=Nat.eq_of_beq_eq_true hsz
  have hle':=Nat.le_of_ble_eq_true hle
  have hb:w.heap[g]?=some (.cells cur.toList.toArray e (0,0)):=by simpa using hg
  have hsub:I.toNat * sz+sz<=xs.length * sz:=by rw [← Nat.succ_mul];exact Nat.mul_le_mul_right _ hlt
  have hcap:xs.length * sz<=cap * sz:=Nat.mul_le_mul_right _ hnc
  have hcl:cur.toList.length=cap * sz:=by rw [Array.length_toList,hcs,hes]
  have hr':=zdv (P:=P) (w:=w) hT hsz h1 (b:=g) (o:=0+I.toNat * sz+o) (Yk hb (by rw [hzs,hcl];omega))
  refine ⟨_,_,H,by simp [execOp,hE _ _ hx,hE _ _ hy] at hr' ⊢;rw [hr'];rfl,?_,hH,k⟩
  obtain ⟨s1,s2,s3⟩:=XQ g u.cells.toList (I.toNat * sz+o) w
  refine hm.upd hi s1 s2 s3 (by rw [xK];exact Nat.le_refl _) (fun x _ hx=>uF g _ _ _ _ (fun e=>hx (by rw [e];rfl))) (fun x hx=>⟨?_,.inl hx⟩) ?_
  ·have hx':some g=some x:=hx
   cases hx'
   rw [xK]
   exact (Array.getElem?_eq_some_iff.1 hg).1
  ·
   have hcz:El'.cells (fz G L w) w z (enc z):=(hfl _ _ _ _).2 rfl
   obtain ⟨pre,post,old,e1,e2,e3,css',e4,e5⟩:=hr.set I.toNat (y:=y') (ds:=enc y') hlt ((hfl _ _ _ _).2 rfl)
   have hold:old=enc z:=by
    obtain ⟨cs,c1,c2⟩:=hr.get hz
    rw [(hfl _ _ _ _).1 c1] at c2
    apply List.ext_getElem?
    intro j
    by_cases hj:j<(enc z).length
    ·have:=c2 j (enc z)[j] (List.getElem?_eq_getElem hj)
     rw [e1,List.append_assoc,← e2,List.getElem?_append_right (by omega),show pre.length+j - pre.length=j by omega,List.getElem?_append_left (by rw [e3,← hfl.size w z];exact hj)] at this
     rw [this,List.getElem?_eq_getElem hj]
    ·rw [List.getElem?_eq_none (by rw [e3,← hfl.size w z];omega),List.getElem?_eq_none (by omega)]
   have hlz:(enc z).length=sz:=by rw [hfl.size w z,hes]
   have hup:=XN g e (0,0) u.cells.toList (I.toNat * sz+o) cur.toList w hb
   refine ⟨css',?_,?_,.inr ⟨g,cap,(YJ cur.toList (I.toNat * sz+o) u.cells.toList).toArray,by simp,hg0,hup,by simpa using hnc,hcm,by simpa [Y7] using hcs,?_⟩⟩
   ·have go:∀ (F F':Nat->Prop) (w':World) (ys:List V) (dss:List (List Value)),Rows El' F w ys dss->Rows El' F' w' ys dss:=by
     intro F F' w' ys
     induction ys with
     | nil=>intro dss h;cases dss <;> first | trivial | exact h.elim
     | cons y0 r ih=>intro dss h;cases dss with
      | nil=>exact h.elim
      | cons d0 ds=>exact ⟨hfl.free _ _ _ _ _ _ h.1,ih ds h.2⟩
    exact go _ _ _ _ _ e5
   ·have:=e5.length
    simpa using this
   ·rw [e4]
    have hct:cur.toList=pre++old++(post++cur.toList.drop (xs.length * sz)):=by
     rw [← List.append_assoc,← e1,← htake,hes,List.take_append_drop]
    rw [hct,← hes,← e2,UY _ _ _ _ _ (by rw [hold,hlz];simp;omega),hold,hy',← List.append_assoc]
    rw [List.length_set]
    have hly:(enc y').length=El'.size:=hfl.size w y'
    have htot:(pre++enc y'++post).length=xs.length * El'.size:=by
     have h5:=congrArg List.length e1
     rw [hcss] at h5
     simp at h5 ⊢
     omega
    rw [← htot]
    exact List.take_left
theorem Zb (M:x8 P n G D w0 E ⟨some d,.binOp .sub T x y T',ty,pos,aft,gd⟩ Tk R Lr L) {X Y:Int} {O:Int->Prop} (k:∀ z,Nx n G D w0 R ((d,.int .i64 z) :: E) L (O z)) (hx:oev E x=some (.int .i64 X):=by rfl) (hy:oev E y=some (.int .i64 Y):=by rfl) (hd:Nat.blt d n=true:=by rfl):Nx n G D w0 Tk E L (Y6 X Y O):=zoA M hx hy hd k
theorem zl3 (M:x8 P n G D w0 E ⟨some d,.binOp .sub T x y T',ty,pos,aft,gd⟩ Tk R Lr L) {X Y:Int} {O:Int->Prop} (k:∀ z,Nx n G D w0 R ((d,.int .u8 z) :: E) L (O z)) (hx:oev E x=some (.int .u8 X):=by rfl) (hy:oev E y=some (.int .u8 Y):=by rfl) (hd:Nat.blt d n=true:=by rfl):Nx n G D w0 Tk E L (zmo X Y O) :=
 M.val (v:=.int .u8 (X - Y)) hd rfl (fun ρ w hE _ hH=>by
  obtain ⟨h1,h2,h3,_⟩:=hH
  have e:IntKind.u8.wrap (X - Y)=X - Y:=by
   simp [IntKind.wrap,IntKind.signed,IntKind.bits]
   omega
  simp [execOp,hE _ _ hx,hE _ _ hy,go_sem,e]) (fun h=>h.2.2.2) (k _)
theorem XD (M:x8 P n G D w0 E ⟨some d,.binOp .sub T x y T',ty,pos,aft,gd⟩ Tk R Lr L) {X Y:Int} (k:Nx n G D w0 R ((d,.int .i64 (w64 (X - Y))) :: E) L H) (hx:oev E x=some (.int .i64 X):=by rfl) (hy:oev E y=some (.int .i64 Y):=by rfl) (hd:Nat.blt d n=true:=by rfl):Nx n G D w0 Tk E L H :=
 M.val hd rfl (fun ρ w hE _ _=>by simp [execOp,hE _ _ hx,hE _ _ hy,go_sem,w64]) id k
theorem zq1 (M:x8 P n G D w0 E ⟨some d,.binOp .xor T x y T',ty,pos,aft,gd⟩ Tk R Lr L) {X Y:Int} {O:Int->Prop} (k:∀ z,Nx n G D w0 R ((d,.int .i64 z) :: E) L (O z)) (hx:oev E x=some (.int .i64 X):=by rfl) (hy:oev E y=some (.int .i64 Y):=by rfl) (hd:Nat.blt d n=true:=by rfl):Nx n G D w0 Tk E L (zrm X Y O) :=
 M.val (v:=.int .i64 ((X.toNat ^^^ Y.toNat:Nat):Int)) hd rfl (fun ρ w hE _ hH=>by
  obtain ⟨h1,h2,h3,h4,_⟩:=hH
  have e0:(2:Nat) ^ 62=4611686018427387904:=by decide
  have e:=zr9 X.toNat Y.toNat (by omega) (by omega)
  rw [Int.toNat_of_nonneg h1,Int.toNat_of_nonneg h3] at e
  simp [execOp,hE _ _ hx,hE _ _ hy,go_sem,e]) (fun h=>h.2.2.2.2) (k _)
end
section
variable {P:Program} {n:Nat} {G D:Nat->Prop} {w0:World} {Q:Exit->Act->World->Prop} {R:Act->World->Prop} {E:Env} {L:List Ch} {H:Prop}
variable {d:Tmp} {ty:TypeId} {pos:String} {aft:Array Edge} {gd:Option (Nat×Bool)} {Tk:Act->World->Prop} {Lr:List Ch} {x y:Operand} {T T' S:TypeId}
theorem zfD {lo hi:Option Operand} {X:ByteArray} {I J:Int} {O:ByteArray->Prop} (M:x8 P n G D w0 E ⟨some d,.slice T x lo hi none,ty,pos,aft,gd⟩ Tk R Lr L) (hT:P.underlying T=some .string) (k:∀ z,Nx n G D w0 R ((d,.string z) :: E) L (O z)) (hx:oev E x=some (.string X):=by rfl) (hlo:match lo with | none=>I=0 | some l=>oev E l=some (.int .i64 I):=by rfl) (hhi:match hi with | none=>J=X.size | some h=>oev E h=some (.int .i64 J):=by rfl) (hd:Nat.blt d n=true:=by rfl):Nx n G D w0 Tk E L (zdj X I J O):=fun a w hE hm hH=>by
 obtain ⟨h0,h1,h2,h3⟩:=hH
 refine (M.val (v:=.string (X.extract I.toNat J.toNat)) (H:=O _) (ψ:=O _) hd rfl (fun ρ w hE hm hH=>?_) id (k _)) a w hE hm h3
 have e2:0<=J:=by omega
 cases lo with
 | none =>
  cases hi with
  | none =>
   simp only at hlo hhi
   subst hlo hhi
   simp [execOp,hE _ _ hx,Instr.sliceAt,Instr.slice,Instr.sliceBounds,run_underlying hT]
  | some hh =>
   simp only at hlo hhi
   subst hlo
   simp [execOp,hE _ _ hx,hE _ _ hhi,Instr.sliceAt,Instr.slice,Instr.sliceBounds,Instr.sliceBound,asIntOf,run_underlying hT,h2,e2]
 | some ll =>
  cases hi with
  | none =>
   simp only at hlo hhi
   subst hhi
   simp [execOp,hE _ _ hx,hE _ _ hlo,Instr.sliceAt,Instr.slice,Instr.sliceBounds,Instr.sliceBound,asIntOf,run_underlying hT,h0,h1]
  | some hh =>
   simp only at hlo hhi
   have e3:I<=((J.toNat:Nat):Int):=by omega
   have e4:I<=J:=h1
   have e5:¬ (max J 0<I):=by omega
   simp [execOp,hE _ _ hx,hE _ _ hlo,hE _ _ hhi,Instr.sliceAt,Instr.slice,Instr.sliceBounds,Instr.sliceBound,asIntOf,run_underlying hT,h0,h2,e2,e3,e4,e5]
end
end
section
open Go.RowKit
section
variable {P:Program} {n:Nat} {G D:Nat->Prop} {w0:World} {E:Env} {L:List Ch} {H:Prop}
theorem y0 {i1:Nat} {l1:List Oper} {y0:Code} {Q0:Exit->Act->World->Prop} (h:Nx n G D w0 (wpList P l1.toArray (Exit.then (y0.wp P Q0) Q0) l1) E L H):Nx n G D w0 ((Code.seq (Code.region i1 l1.toArray false) y0).wp P Q0) E L H:=jw (zn h)
theorem y1 {o0:Array Oper} {K1:Act->World->Prop} {Q1:Exit->Act->World->Prop} (h:Nx n G D w0 K1 E L H):Nx n G D w0 (wpList P o0 (Exit.then K1 Q1) []) E L H:=zt (zT h)
theorem y2 {o0:Array Oper} {i3:Nat} {l3:List Oper} {y2:Code} {Q2:Exit->Act->World->Prop} {Q1:Exit->Act->World->Prop} (h:Nx n G D w0 (wpList P l3.toArray (Exit.then (y2.wp P Q2) Q2) l3) E L H):Nx n G D w0 (wpList P o0 (Exit.then ((Code.seq (Code.region i3 l3.toArray false) y2).wp P Q2) Q1) []) E L H:=zt (zT (jw (zn h)))
theorem y3 {o0:Array Oper} {Q2:Exit->Act->World->Prop} {Q1:Exit->Act->World->Prop} (h:Nx n G D w0 (Q2 .ret) E L H):Nx n G D w0 (wpList P o0 (Exit.then (Code.ret.wp P Q2) Q1) []) E L H:=zt (zT (uq h))
theorem y4 {o0:Array Oper} {i4:Nat} {l4:List Oper} {y3:Code} {y2:Code} {Q2:Exit->Act->World->Prop} {Q1:Exit->Act->World->Prop} (h:Nx n G D w0 (wpList P l4.toArray (Exit.then (y3.wp P (Exit.then (y2.wp P Q2) Q2)) (Exit.then (y2.wp P Q2) Q2)) l4) E L H):Nx n G D w0 (wpList P o0 (Exit.then ((Code.seq (Code.seq (Code.region i4 l4.toArray false) y3) y2).wp P Q2) Q1) []) E L H:=zt (zT (jw (jw (zn h))))
theorem y5 {o0:Array Oper} {i2:Nat} {c2:Code} {Q2:Exit->Act->World->Prop} {Q1:Exit->Act->World->Prop} (h:Nx n G D w0 (c2.wp P (Exit.inBlock i2 Q2)) E L H):Nx n G D w0 (wpList P o0 (Exit.then ((Code.block i2 c2).wp P Q2) Q1) []) E L H:=zt (zT (ui h))
theorem y6 {o0:Array Oper} {K3:Act->World->Prop} {Q3:Exit->Act->World->Prop} {Q1:Exit->Act->World->Prop} (h:Nx n G D w0 (Q3 .ret) E L H):Nx n G D w0 (wpList P o0 (Exit.then (Code.ret.wp P (Exit.then K3 Q3)) Q1) []) E L H:=zt (zT (uq (xq h)))
theorem y7 {i3:Nat} {K1:Act->World->Prop} {K2:Act->World->Prop} {i6:Nat} {l6:List Oper} {y5:Code} {Q5:Exit->Act->World->Prop} {Q4:Exit->Act->World->Prop} (h:Nx n G D w0 (wpList P l6.toArray (Exit.then (y5.wp P Q5) Q5) l6) E L H):Nx n G D w0 ((Code.exit i3).wp P (Exit.then K1 (Exit.then K2 (Exit.inBlock i3 (Exit.then ((Code.seq (Code.region i6 l6.toArray false) y5).wp P Q5) Q4))))) E L H:=yI (xM (xM (yN (zT (jw (zn h))))))
theorem y8 {i3:Nat} {l3:List Oper} {y2:Code} {Q2:Exit->Act->World->Prop} {Q1:Exit->Act->World->Prop} (h:Nx n G D w0 (wpList P l3.toArray (Exit.then (y2.wp P Q2) Q2) l3) E L H):Nx n G D w0 (Code.skip.wp P (Exit.then ((Code.seq (Code.region i3 l3.toArray false) y2).wp P Q2) Q1)) E L H:=ju (zT (jw (zn h)))
theorem y9 {o0:Array Oper} {x2:Code} {y2:Code} {Q2:Exit->Act->World->Prop} {Q1:Exit->Act->World->Prop} (h:Nx n G D w0 (x2.wp P (Exit.then (y2.wp P Q2) Q2)) E L H):Nx n G D w0 (wpList P o0 (Exit.then ((Code.seq x2 y2).wp P Q2) Q1) []) E L H:=zt (zT (jw h))
theorem y10 {i2:Nat} {l2:List Oper} {y1:Code} {y0:Code} {Q0:Exit->Act->World->Prop} (h:Nx n G D w0 (wpList P l2.toArray (Exit.then (y1.wp P (Exit.then (y0.wp P Q0) Q0)) (Exit.then (y0.wp P Q0) Q0)) l2) E L H):Nx n G D w0 ((Code.seq (Code.seq (Code.region i2 l2.toArray false) y1) y0).wp P Q0) E L H:=jw (jw (zn h))
theorem y11 {i3:Nat} {i5:Nat} {l5:List Oper} {y4:Code} {y2:Code} {Q2:Exit->Act->World->Prop} {Q1:Exit->Act->World->Prop} (h:Nx n G D w0 (wpList P l5.toArray (Exit.then (y4.wp P (Exit.inBlock i3 (Exit.then (y2.wp P Q2) Q2))) (Exit.inBlock i3 (Exit.then (y2.wp P Q2) Q2))) l5) E L H):Nx n G D w0 (Code.skip.wp P (Exit.then ((Code.seq (Code.block i3 (Code.seq (Code.region i5 l5.toArray false) y4)) y2).wp P Q2) Q1)) E L H:=ju (zT (jw (ui (jw (zn h)))))
theorem y12 {o0:Array Oper} {i1:Nat} {Q1:Exit->Act->World->Prop} (h:Nx n G D w0 (Q1 .normal) E L H):Nx n G D w0 (wpList P o0 (Exit.inBlock i1 Q1) []) E L H:=zt (uU h)
theorem y13 {i4:Nat} {l4:List Oper} {y3:Code} {y2:Code} {Q2:Exit->Act->World->Prop} {Q1:Exit->Act->World->Prop} (h:Nx n G D w0 (wpList P l4.toArray (Exit.then (y3.wp P (Exit.then (y2.wp P Q2) Q2)) (Exit.then (y2.wp P Q2) Q2)) l4) E L H):Nx n G D w0 (Code.skip.wp P (Exit.then ((Code.seq (Code.seq (Code.region i4 l4.toArray false) y3) y2).wp P Q2) Q1)) E L H:=ju (zT (jw (jw (zn h))))
theorem y14 {i1:Nat} {i3:Nat} {l3:List Oper} {Q3:Exit->Act->World->Prop} {Q2:Exit->Act->World->Prop} (h:Nx n G D w0 (wpList P l3.toArray Q3 l3) E L H):Nx n G D w0 (Code.skip.wp P (Exit.inBlock i1 (Exit.then ((Code.region i3 l3.toArray false).wp P Q3) Q2))) E L H:=ju (uU (zT (zn h)))
theorem y15 {o0:Array Oper} {i1:Nat} {i3:Nat} {l3:List Oper} {Q3:Exit->Act->World->Prop} {Q2:Exit->Act->World->Prop} (h:Nx n G D w0 (wpList P l3.toArray Q3 l3) E L H):Nx n G D w0 (wpList P o0 (Exit.inBlock i1 (Exit.then ((Code.region i3 l3.toArray false).wp P Q3) Q2)) []) E L H:=zt (uU (zT (zn h)))
theorem y16 {o0:Array Oper} {i3:Nat} {K4:Act->World->Prop} {K5:Act->World->Prop} {i6:Nat} {K7:Act->World->Prop} {Q7:Exit->Act->World->Prop} {Q1:Exit->Act->World->Prop} (h:Nx n G D w0 (Q7 .ret) E L H):Nx n G D w0 (wpList P o0 (Exit.then (Code.ret.wp P (Exit.inBlock i3 (Exit.then K4 (Exit.then K5 (Exit.inBlock i6 (Exit.then K7 Q7)))))) Q1) []) E L H:=zt (zT (uq (uE (xq (xq (uE (xq h)))))))
theorem y17 {o0:Array Oper} {i2:Nat} {l2:List Oper} {Q2:Exit->Act->World->Prop} {Q1:Exit->Act->World->Prop} (h:Nx n G D w0 (wpList P l2.toArray Q2 l2) E L H):Nx n G D w0 (wpList P o0 (Exit.then ((Code.region i2 l2.toArray false).wp P Q2) Q1) []) E L H:=zt (zT (zn h))
theorem y18 {K1:Act->World->Prop} {Q1:Exit->Act->World->Prop} (h:Nx n G D w0 K1 E L H):Nx n G D w0 (Code.skip.wp P (Exit.then K1 Q1)) E L H:=ju (zT h)
theorem y19 {o0:Array Oper} {K3:Act->World->Prop} {i4:Nat} {K5:Act->World->Prop} {K6:Act->World->Prop} {i7:Nat} {K8:Act->World->Prop} {Q8:Exit->Act->World->Prop} {Q1:Exit->Act->World->Prop} (h:Nx n G D w0 (Q8 .ret) E L H):Nx n G D w0 (wpList P o0 (Exit.then (Code.ret.wp P (Exit.then K3 (Exit.inBlock i4 (Exit.then K5 (Exit.then K6 (Exit.inBlock i7 (Exit.then K8 Q8))))))) Q1) []) E L H:=zt (zT (uq (xq (uE (xq (xq (uE (xq h))))))))
theorem y20 {i0:Nat} {i2:Nat} {l2:List Oper} {y1:Code} {Q0:Exit->Act->World->Prop} (h:Nx n G D w0 (wpList P l2.toArray (Exit.then (y1.wp P (Exit.inBlock i0 Q0)) (Exit.inBlock i0 Q0)) l2) E L H):Nx n G D w0 ((Code.block i0 (Code.seq (Code.region i2 l2.toArray false) y1)).wp P Q0) E L H:=ui (jw (zn h))
theorem y21 {i2:Nat} {l2:List Oper} {Q2:Exit->Act->World->Prop} {Q1:Exit->Act->World->Prop} (h:Nx n G D w0 (wpList P l2.toArray Q2 l2) E L H):Nx n G D w0 (Code.skip.wp P (Exit.then ((Code.region i2 l2.toArray false).wp P Q2) Q1)) E L H:=ju (zT (zn h))
theorem y22 {i3:Nat} {i4:Nat} {l4:List Oper} {y2:Code} {Q2:Exit->Act->World->Prop} {Q1:Exit->Act->World->Prop} (h:Nx n G D w0 (wpList P l4.toArray (Exit.inBlock i3 (Exit.then (y2.wp P Q2) Q2)) l4) E L H):Nx n G D w0 (Code.skip.wp P (Exit.then ((Code.seq (Code.block i3 (Code.region i4 l4.toArray false)) y2).wp P Q2) Q1)) E L H:=ju (zT (jw (ui (zn h))))
theorem y23 {i1:Nat} {Q1:Exit->Act->World->Prop} (h:Nx n G D w0 (Q1 .normal) E L H):Nx n G D w0 (Code.skip.wp P (Exit.inBlock i1 Q1)) E L H:=ju (uU h)
theorem y24 {o0:Array Oper} {i3:Nat} {K4:Act->World->Prop} {Q4:Exit->Act->World->Prop} {Q1:Exit->Act->World->Prop} (h:Nx n G D w0 (Q4 .ret) E L H):Nx n G D w0 (wpList P o0 (Exit.then (Code.ret.wp P (Exit.inBlock i3 (Exit.then K4 Q4))) Q1) []) E L H:=zt (zT (uq (uE (xq h))))
theorem y25 {i3:Nat} {x4:Code} {y4:Code} {y2:Code} {Q2:Exit->Act->World->Prop} {Q1:Exit->Act->World->Prop} (h:Nx n G D w0 (x4.wp P (Exit.then (y4.wp P (Exit.inBlock i3 (Exit.then (y2.wp P Q2) Q2))) (Exit.inBlock i3 (Exit.then (y2.wp P Q2) Q2)))) E L H):Nx n G D w0 (Code.skip.wp P (Exit.then ((Code.seq (Code.block i3 (Code.seq x4 y4)) y2).wp P Q2) Q1)) E L H:=ju (zT (jw (ui (jw h))))
theorem y26 {o0:Array Oper} {i2:Nat} {i4:Nat} {l4:List Oper} {y3:Code} {Q2:Exit->Act->World->Prop} {Q1:Exit->Act->World->Prop} (h:Nx n G D w0 (wpList P l4.toArray (Exit.then (y3.wp P (Exit.inBlock i2 Q2)) (Exit.inBlock i2 Q2)) l4) E L H):Nx n G D w0 (wpList P o0 (Exit.then ((Code.block i2 (Code.seq (Code.region i4 l4.toArray false) y3)).wp P Q2) Q1) []) E L H:=zt (zT (ui (jw (zn h))))
theorem y27 {i3:Nat} {K1:Act->World->Prop} {K2:Act->World->Prop} {i4:Nat} {i6:Nat} {l6:List Oper} {Q6:Exit->Act->World->Prop} {Q5:Exit->Act->World->Prop} (h:Nx n G D w0 (wpList P l6.toArray Q6 l6) E L H):Nx n G D w0 ((Code.exit i3).wp P (Exit.then K1 (Exit.then K2 (Exit.inBlock i3 (Exit.inBlock i4 (Exit.then ((Code.region i6 l6.toArray false).wp P Q6) Q5)))))) E L H:=yI (xM (xM (yN (uU (zT (zn h))))))
theorem y28 {i3:Nat} {c3:Code} {y2:Code} {Q2:Exit->Act->World->Prop} {Q1:Exit->Act->World->Prop} (h:Nx n G D w0 (c3.wp P (Exit.inBlock i3 (Exit.then (y2.wp P Q2) Q2))) E L H):Nx n G D w0 (Code.skip.wp P (Exit.then ((Code.seq (Code.block i3 c3) y2).wp P Q2) Q1)) E L H:=ju (zT (jw (ui h)))
theorem y29 {i0:Nat} {i2:Nat} {l2:List Oper} {Q2:Exit->Act->World->Prop} {Q1:Exit->Act->World->Prop} (h:Nx n G D w0 (wpList P l2.toArray Q2 l2) E L H):Nx n G D w0 ((Exit.inBlock i0 (Exit.then ((Code.region i2 l2.toArray false).wp P Q2) Q1)) .normal) E L H:=uU (zT (zn h))
theorem y30 {i3:Nat} {K1:Act->World->Prop} {K2:Act->World->Prop} {K4:Act->World->Prop} {Q4:Exit->Act->World->Prop} (h:Nx n G D w0 K4 E L H):Nx n G D w0 ((Code.exit i3).wp P (Exit.then K1 (Exit.then K2 (Exit.inBlock i3 (Exit.then K4 Q4))))) E L H:=yI (xM (xM (yN (zT h))))
theorem y31 {i2:Nat} {i3:Nat} {l3:List Oper} {Q2:Exit->Act->World->Prop} {Q1:Exit->Act->World->Prop} (h:Nx n G D w0 (wpList P l3.toArray (Exit.inBlock i2 Q2) l3) E L H):Nx n G D w0 (Code.skip.wp P (Exit.then ((Code.block i2 (Code.region i3 l3.toArray false)).wp P Q2) Q1)) E L H:=ju (zT (ui (zn h)))
theorem y32 {i3:Nat} {K1:Act->World->Prop} {K2:Act->World->Prop} {i7:Nat} {l7:List Oper} {y6:Code} {y5:Code} {Q5:Exit->Act->World->Prop} {Q4:Exit->Act->World->Prop} (h:Nx n G D w0 (wpList P l7.toArray (Exit.then (y6.wp P (Exit.then (y5.wp P Q5) Q5)) (Exit.then (y5.wp P Q5) Q5)) l7) E L H):Nx n G D w0 ((Code.exit i3).wp P (Exit.then K1 (Exit.then K2 (Exit.inBlock i3 (Exit.then ((Code.seq (Code.seq (Code.region i7 l7.toArray false) y6) y5).wp P Q5) Q4))))) E L H:=yI (xM (xM (yN (zT (jw (jw (zn h)))))))
end
end
section
open Go.RowKit
section
variable {P:Program} {n:Nat} {G D:Nat->Prop} {w0:World} {Q:Exit->Act->World->Prop} {ops:Array Oper} {rest:List Oper} {R:Act->World->Prop} {E E':Env} {L L' Lb:List Ch} {H:Prop} {k:Nat} {listed:Array Bool}
theorem e1t {M0:List Ch} {ρ ν:Type} {F:Nat->Prop} {fn:Func} {s:Nat} {O:ρ->Prop} {val:ρ->ν->Value} {N:ρ->ν->List Ch} (hres:fn.results=#[.tmp s]) (r:ρ) (u:ν) (l:List Nat) (hs:X2 E s=some (val r u):=by rfl) (hN:XR L l=N r u:=by rfl) (hl:Xn l=true:=by rfl):Nx n (gB F M0 w0) (uv M0) w0 (bodyPost P fn (Ret M0 F w0 O val N) .ret) E L (O r):=Zd hres r u (uZ hs) (fun w m=>hN ▸ yr.ofB m l hl)
theorem e2t {M0:List Ch} {ρ ν:Type} {F:Nat->Prop} {fn:Func} {s t:Nat} {v v2:Value} {O:ρ->Prop} {val:ρ->ν->Value} {N:ρ->ν->List Ch} (hres:fn.results=#[.tmp s,.tmp t]) (r:ρ) (u:ν) (l:List Nat) (hs:X2 E s=some v:=by rfl) (ht:X2 E t=some v2:=by rfl) (hv:val r u=.tuple #[v,v2]:=by rfl) (hN:XR L l=N r u:=by rfl) (hl:Xn l=true:=by rfl):Nx n (gB F M0 w0) (uv M0) w0 (bodyPost P fn (Ret M0 F w0 O val N) .ret) E L (O r):=xv hres r u (uZ hs) (uZ ht) hv (fun w m=>hN ▸ yr.ofB m l hl)
theorem nch {M0:List Ch} {F:Nat->Prop} (l:List Nat) (hl:Xn l=true:=by rfl):∀ w,Mem (gB F M0 w0) (uv M0) w0 L w->yr M0 F w0 w (XR L l):=fun w m=>yr.ofB m l hl
theorem sg {dst:Option Tmp} {op:Op} {ty:TypeId} {pos:String} {aft:Array Edge} {j dj:Nat} {want:Bool} (hj:(ops[j]?).bind (·.dst)=some dj:=by rfl) (hv:X2 E dj=some (.bool want):=by rfl):x8 P n G D w0 E ⟨dst,op,ty,pos,aft,some (j,want)⟩ (wpList P ops Q (⟨dst,op,ty,pos,aft,some (j,want)⟩ :: rest)) (wpList P ops Q rest) L L:=zsx hj hv
theorem dG {dst:Option Tmp} {op:Op} {ty:TypeId} {pos:String} {aft:Array Edge} (i:Nat) {j dj:Nat} {want:Bool} [hQ:PanicOk Q] (hi:ops[i]?=some ⟨dst,op,ty,pos,aft,some (j,want)⟩:=by rfl) (hr:zcb ops listed i=true:=by kernel_rfl) (hj:(ops[j]?).bind (·.dst)=some dj:=by rfl) (hv:X2 E dj=some (.bool want):=by rfl) :
  x8 P n G D w0 E ⟨dst,op,ty,pos,aft,some (j,want)⟩ (wpAnyH P .any ops Q (Mem G D w0 L) (k+1) listed) (wpAnyH P .any ops Q (Mem G D w0 L) k (listed.setIfInBounds i true)) L L:=dtg i (fun _ m=>m) hi hr hj hv
theorem da0 {K:Act->World->Prop} (h:Nx n G D w0 K E L H):Nx n G D w0 (fun a w=>Mem G D w0 L w∧K a w) E L H:=zl9 (fun _ m=>m) h
theorem bz {l:List (Nat×Operand)} {qs:List (Nat×Value)} (h:bq E l=some qs:=by rfl):∀ ρ:Operand->Value,(∀ x v,oev E x=some v->ρ x=v)->(l.toArray.map fun (i,x)=>(i,ρ x))=qs.toArray:=bqi h
theorem dK2 (i1 i2:Nat) {op1:Op} {ty1:TypeId} {pos1:String} {aft1:Array Edge} {d1:Tmp} {j1 dj1:Nat} {want1:Bool} {v1:Value} {op2:Op} {ty2:TypeId} {pos2:String} {aft2:Array Edge} {d2:Tmp} {j2 dj2:Nat} {want2:Bool} {v2:Value} [hQ:PanicOk Q] (h:Nx n G D w0 (wpAnyH P .any ops Q (Mem G D w0 L) k ((listed.setIfInBounds i1 true).setIfInBounds i2 true)) ((d2,undef) :: ((d1,undef) :: E)) L H) (hi1:ops[i1]?=some ⟨some d1,op1,ty1,pos1,aft1,some (j1,want1)⟩:=by rfl) (hr1:zcb ops listed i1=true:=by kernel_rfl) (hj1:(ops[j1]?).bind (·.dst)=some dj1:=by rfl) (hv1:X2 E dj1=some v1:=by rfl) (hb1:nw v1 want1=true:=by rfl) (hd1:Nat.blt d1 n=true:=by rfl) (hi2:ops[i2]?=some ⟨some d2,op2,ty2,pos2,aft2,some (j2,want2)⟩:=by rfl) (hr2:zcb ops (listed.setIfInBounds i1 true) i2=true:=by kernel_rfl) (hj2:(ops[j2]?).bind (·.dst)=some dj2:=by rfl) (hv2:X2 ((d1,undef) :: E) dj2=some v2:=by rfl) (hb2:nw v2 want2=true:=by rfl) (hd2:Nat.blt d2 n=true:=by rfl):Nx n G D w0 (wpAnyH P .any ops Q (Mem G D w0 L) (k+1+1) listed) E L H:=(dK i1 (dK i2 h hi2 hr2 hj2 hv2 hb2 hd2) hi1 hr1 hj1 hv1 hb1 hd1)
theorem dK3 (i1 i2 i3:Nat) {op1:Op} {ty1:TypeId} {pos1:String} {aft1:Array Edge} {d1:Tmp} {j1 dj1:Nat} {want1:Bool} {v1:Value} {op2:Op} {ty2:TypeId} {pos2:String} {aft2:Array Edge} {d2:Tmp} {j2 dj2:Nat} {want2:Bool} {v2:Value} {op3:Op} {ty3:TypeId} {pos3:String} {aft3:Array Edge} {d3:Tmp} {j3 dj3:Nat} {want3:Bool} {v3:Value} [hQ:PanicOk Q] (h:Nx n G D w0 (wpAnyH P .any ops Q (Mem G D w0 L) k (((listed.setIfInBounds i1 true).setIfInBounds i2 true).setIfInBounds i3 true)) ((d3,undef) :: ((d2,undef) :: ((d1,undef) :: E))) L H) (hi1:ops[i1]?=some ⟨some d1,op1,ty1,pos1,aft1,some (j1,want1)⟩:=by rfl) (hr1:zcb ops listed i1=true:=by kernel_rfl) (hj1:(ops[j1]?).bind (·.dst)=some dj1:=by rfl) (hv1:X2 E dj1=some v1:=by rfl) (hb1:nw v1 want1=true:=by rfl) (hd1:Nat.blt d1 n=true:=by rfl) (hi2:ops[i2]?=some ⟨some d2,op2,ty2,pos2,aft2,some (j2,want2)⟩:=by rfl) (hr2:zcb ops (listed.setIfInBounds i1 true) i2=true:=by kernel_rfl) (hj2:(ops[j2]?).bind (·.dst)=some dj2:=by rfl) (hv2:X2 ((d1,undef) :: E) dj2=some v2:=by rfl) (hb2:nw v2 want2=true:=by rfl) (hd2:Nat.blt d2 n=true:=by rfl) (hi3:ops[i3]?=some ⟨some d3,op3,ty3,pos3,aft3,some (j3,want3)⟩:=by rfl) (hr3:zcb ops ((listed.setIfInBounds i1 true).setIfInBounds i2 true) i3=true:=by kernel_rfl) (hj3:(ops[j3]?).bind (·.dst)=some dj3:=by rfl) (hv3:X2 ((d2,undef) :: ((d1,undef) :: E)) dj3=some v3:=by rfl) (hb3:nw v3 want3=true:=by rfl) (hd3:Nat.blt d3 n=true:=by rfl):Nx n G D w0 (wpAnyH P .any ops Q (Mem G D w0 L) (k+1+1+1) listed) E L H:=(dK i1 (dK i2 (dK i3 h hi3 hr3 hj3 hv3 hb3 hd3) hi2 hr2 hj2 hv2 hb2 hd2) hi1 hr1 hj1 hv1 hb1 hd1)
theorem dK4 (i1 i2 i3 i4:Nat) {op1:Op} {ty1:TypeId} {pos1:String} {aft1:Array Edge} {d1:Tmp} {j1 dj1:Nat} {want1:Bool} {v1:Value} {op2:Op} {ty2:TypeId} {pos2:String} {aft2:Array Edge} {d2:Tmp} {j2 dj2:Nat} {want2:Bool} {v2:Value} {op3:Op} {ty3:TypeId} {pos3:String} {aft3:Array Edge} {d3:Tmp} {j3 dj3:Nat} {want3:Bool} {v3:Value} {op4:Op} {ty4:TypeId} {pos4:String} {aft4:Array Edge} {d4:Tmp} {j4 dj4:Nat} {want4:Bool} {v4:Value} [hQ:PanicOk Q] (h:Nx n G D w0 (wpAnyH P .any ops Q (Mem G D w0 L) k ((((listed.setIfInBounds i1 true).setIfInBounds i2 true).setIfInBounds i3 true).setIfInBounds i4 true)) ((d4,undef) :: ((d3,undef) :: ((d2,undef) :: ((d1,undef) :: E)))) L H) (hi1:ops[i1]?=some ⟨some d1,op1,ty1,pos1,aft1,some (j1,want1)⟩:=by rfl) (hr1:zcb ops listed i1=true:=by kernel_rfl) (hj1:(ops[j1]?).bind (·.dst)=some dj1:=by rfl) (hv1:X2 E dj1=some v1:=by rfl) (hb1:nw v1 want1=true:=by rfl) (hd1:Nat.blt d1 n=true:=by rfl) (hi2:ops[i2]?=some ⟨some d2,op2,ty2,pos2,aft2,some (j2,want2)⟩:=by rfl) (hr2:zcb ops (listed.setIfInBounds i1 true) i2=true:=by kernel_rfl) (hj2:(ops[j2]?).bind (·.dst)=some dj2:=by rfl) (hv2:X2 ((d1,undef) :: E) dj2=some v2:=by rfl) (hb2:nw v2 want2=true:=by rfl) (hd2:Nat.blt d2 n=true:=by rfl) (hi3:ops[i3]?=some ⟨some d3,op3,ty3,pos3,aft3,some (j3,want3)⟩:=by rfl) (hr3:zcb ops ((listed.setIfInBounds i1 true).setIfInBounds i2 true) i3=true:=by kernel_rfl) (hj3:(ops[j3]?).bind (·.dst)=some dj3:=by rfl) (hv3:X2 ((d2,undef) :: ((d1,undef) :: E)) dj3=some v3:=by rfl) (hb3:nw v3 want3=true:=by rfl) (hd3:Nat.blt d3 n=true:=by rfl) (hi4:ops[i4]?=some ⟨some d4,op4,ty4,pos4,aft4,some (j4,want4)⟩:=by rfl) (hr4:zcb ops (((listed.setIfInBounds i1 true).setIfInBounds i2 true).setIfInBounds i3 true) i4=true:=by kernel_rfl) (hj4:(ops[j4]?).bind (·.dst)=some dj4:=by rfl) (hv4:X2 ((d3,undef) :: ((d2,undef) :: ((d1,undef) :: E))) dj4=some v4:=by rfl) (hb4:nw v4 want4=true:=by rfl) (hd4:Nat.blt d4 n=true:=by rfl):Nx n G D w0 (wpAnyH P .any ops Q (Mem G D w0 L) (k+1+1+1+1) listed) E L H:=(dK i1 (dK i2 (dK i3 (dK i4 h hi4 hr4 hj4 hv4 hb4 hd4) hi3 hr3 hj3 hv3 hb3 hd3) hi2 hr2 hj2 hv2 hb2 hd2) hi1 hr1 hj1 hv1 hb1 hd1)
theorem nxe {V:Type} {E':V->Env} {L':V->List Ch} (h:∀ v,Nx n G D w0 R (E' v) (L' v) H):∀ a w,(∃ v,Has n (E' v) a∧Mem G D w0 (L' v) w)->H->R a w:=fun a w ⟨v,x,y⟩=>h v a w x y
theorem VV {V β:Type} {E':V->β->Env} {L':V->β->List Ch} (h:∀ v b,Nx n G D w0 R (E' v b) (L' v b) H):∀ a w,(∃ v b,Has n (E' v b) a∧Mem G D w0 (L' v b) w)->H->R a w:=fun a w ⟨v,b,x,y⟩=>h v b a w x y
theorem zpl {V β γ:Type} {E':V->β->γ->Env} {L':V->β->γ->List Ch} (h:∀ v b c,Nx n G D w0 R (E' v b c) (L' v b c) H):∀ a w,(∃ v b c,Has n (E' v b c) a∧Mem G D w0 (L' v b c) w)->H->R a w:=fun a w ⟨v,b,c,x,y⟩=>h v b c a w x y
theorem zrB {V β γ δ:Type} {E':V->β->γ->δ->Env} {L':V->β->γ->δ->List Ch} (h:∀ v b c d,Nx n G D w0 R (E' v b c d) (L' v b c d) H):∀ a w,(∃ v b c d,Has n (E' v b c d) a∧Mem G D w0 (L' v b c d) w)->H->R a w:=fun a w ⟨v,b,c,d,x,y⟩=>h v b c d a w x y
theorem zfl {k':Nat} {d0 d:Tmp} {S T:TypeId} {x y:Operand} {ty0 ty:TypeId} {pos0 pos:String} {aft0 aft:Array Edge} {gd0 gd:Option (Nat×Bool)} {Tk R0:Act->World->Prop} {Lr0 Lr:List Ch} {b o off sz b2 o2 sz2:Nat} {row row2:Bool} {cs:List Value} {T0:TypeId} {v:Value}
  (M0:x8 P n G D w0 E ⟨some d0,.fieldAddr S x k',ty0,pos0,aft0,gd0⟩ Tk R0 Lr0 L) (M:x8 P n G D w0 ((d0,.pointer (some ⟨b,o+off,none⟩)) :: E) ⟨some d,.load T y,ty,pos,aft,gd⟩ R0 R Lr L) (hS:XP P S k'=some (off,row,sz)) (i:Nat) (hT:tyB P T=some (row2,sz2))
  (k:Nx n G D w0 R ((d,v) :: (d0,.pointer (some ⟨b,o+off,none⟩)) :: E) L H) (hx:oev E x=some (.pointer (some ⟨b,o,none⟩)):=by rfl) (hd0:Nat.blt d0 n=true:=by rfl) (hp:Nat.beq sz 0=false:=by rfl) (hi:xH Lr i=some (zc b2 cs T0):=by rfl) (hy:oev ((d0,.pointer (some ⟨b,o+off,none⟩)) :: E) y=some (.pointer (some ⟨b2,o2,none⟩)):=by rfl) (hd:Nat.blt d n=true:=by rfl) (hv:ldv row2 o2 sz2 cs=some v:=by rfl):Nx n G D w0 Tk E L H:=jD M0 hS (zL M i hT k hi hy hd hv) hx hd0 hp
theorem jE2 {V β:Type} {E':V->β->Env} {L':V->β->List Ch} (v:V) (b:β) (l:List Nat) (hs:zgl E (E' v b):=by repeat (first | exact trivial | refine ⟨rfl,?_⟩)) (hl:XR L l=L' v b:=by rfl) (hn:Xn l=true:=by rfl):∀ a w,Has n E a->Mem G D w0 L w->∃ v b,Has n (E' v b) a∧Mem G D w0 (L' v b) w:=fun a w hE hm=>⟨v,b,hE.sub hs,hl ▸ hm.pick l hn⟩
theorem jE3 {V β γ:Type} {E':V->β->γ->Env} {L':V->β->γ->List Ch} (v:V) (b:β) (c:γ) (l:List Nat) (hs:zgl E (E' v b c):=by repeat (first | exact trivial | refine ⟨rfl,?_⟩)) (hl:XR L l=L' v b c:=by rfl) (hn:Xn l=true:=by rfl):∀ a w,Has n E a->Mem G D w0 L w->∃ v b c,Has n (E' v b c) a∧Mem G D w0 (L' v b c) w:=fun a w hE hm=>⟨v,b,c,hE.sub hs,hl ▸ hm.pick l hn⟩
theorem jE4 {V β γ δ:Type} {E':V->β->γ->δ->Env} {L':V->β->γ->δ->List Ch} (v:V) (b:β) (c:γ) (d:δ) (l:List Nat) (hs:zgl E (E' v b c d):=by repeat (first | exact trivial | refine ⟨rfl,?_⟩)) (hl:XR L l=L' v b c d:=by rfl) (hn:Xn l=true:=by rfl):∀ a w,Has n E a->Mem G D w0 L w->∃ v b c d,Has n (E' v b c d) a∧Mem G D w0 (L' v b c d) w:=fun a w hE hm=>⟨v,b,c,d,hE.sub hs,hl ▸ hm.pick l hn⟩
end
section
variable {P:Program} {f:Nat} {ar:Array Value} {ρ ν V:Type} {M0:List Ch} {F F':Nat->Prop} {w:World} {O:ρ->Prop} {val:ρ->ν->Value}
theorem rfc {b:ρ->ν->Nat} {cs:ρ->ν->List Value} {T:ρ->ν->TypeId} (h:Calls P f ar w (Ret M0 F w O val (fun r u=>[zc (b r u) (cs r u) (T r u)]))):Calls P f ar w (Ret M0 F' w O val (fun r u=>[zc (b r u) (cs r u) (T r u)])):=rf (fun _ _=>(xc ux ZE)) h
theorem rfD {E':DEl V} {ty:TypeId} {B:ρ->ν->List Nat} {v:ρ->ν->Value} {xs:ρ->ν->List V} (h:Calls P f ar w (Ret M0 F w O val (fun r u=>[jq E' ty (B r u) (v r u) (xs r u)]))):Calls P f ar w (Ret M0 F' w O val (fun r u=>[jq E' ty (B r u) (v r u) (xs r u)])):=rf (fun _ _=>(xc zaQ ZE)) h
theorem rfo {El':El V} {enc:V->List Value} (hfl:VH El' enc) {e:TypeId} {v:ρ->ν->Value} {xs:ρ->ν->List V} (h:Calls P f ar w (Ret M0 F w O val (fun r u=>[zf El' e (v r u) (xs r u)]))):Calls P f ar w (Ret M0 F' w O val (fun r u=>[zf El' e (v r u) (xs r u)])):=rf (fun _ _=>(xc (yt hfl) ZE)) h
end
end
section
open Go.RowKit
section
variable {P:Program} {n:Nat} {G D:Nat->Prop} {w0:World} {Q:Exit->Act->World->Prop} {R:Act->World->Prop} {E:Env} {L M:List Ch} {H:Prop}
variable {d:Tmp} {ty:TypeId} {pos:String} {aft:Array Edge} {gd:Option (Nat×Bool)} {Tk:Act->World->Prop} {Lr:List Ch} {x y:Operand} {T T' S:TypeId} {e sz by':Nat} {at':Array TypeId}
theorem zmN {ψ:Prop} (h:H->ψ) (k:Nx n G D w0 R E L ψ):Nx n G D w0 R E L H:=fun a w hE hm hH=>k a w hE hm (h hH)
theorem znX (M:x8 P n G D w0 E ⟨some d,.call {callee:=.builtin .cap,args:=#[x],argTypes:=#[T]},ty,pos,aft,gd⟩ Tk R Lr L) {p:TypeId×Nat×Nat} (hT:elB P T=some p) (hx:oev E x=some (.slice none 0 0)) (hd:Nat.blt d n=true)
  (k:Nx n G D w0 R ((d,.int .i64 0) :: E) L H):Nx n G D w0 Tk E L H :=
 M.val hd rfl (fun ρ w hE hm _=>by
  obtain ⟨e,b,c⟩:=p
  obtain ⟨hu,_⟩:=yZ hT
  simp [execOp,resolve,invoke,builtin,hE _ _ hx,Builtin.cap_,run_underlying hu,goInt]) id k
theorem zqg (M:x8 P n G D w0 E ⟨some d,.slice T x none (some y) none,ty,pos,aft,gd⟩ Tk R Lr L) {a:Option Addr} {l c:Nat} (hT:elB P T=some (e,sz,by')) (hx:oev E x=some (.slice a l c)) (ha:a=none∨∃ b,a=some ⟨b,0,none⟩) (hc:a=none->c=0) (hy:oev E y=some (.int .i64 0)) (hd:Nat.blt d n=true)
  (k:Nx n G D w0 R ((d,.slice a 0 c) :: E) L H):Nx n G D w0 Tk E L H :=
 M.val hd rfl (fun ρ w hE hm _=>by
  obtain ⟨hu,inf,hinf,rfl,rfl⟩:=yZ hT
  rcases ha with rfl | ⟨b,rfl⟩
  ·obtain rfl:=hc rfl
   simp [execOp,hE _ _ hx,hE _ _ hy,Instr.sliceAt,Instr.slice,Instr.sliceBounds,Instr.sliceBound,asIntOf,run_underlying hu,sizeOf,typeInfo,hinf]
  ·simp [execOp,hE _ _ hx,hE _ _ hy,Instr.sliceAt,Instr.slice,Instr.sliceBounds,Instr.sliceBound,asIntOf,run_underlying hu,sizeOf,typeInfo,hinf,Addr.add]) id k
theorem zqE {V:Type} {El':El V} {N:Int} {zs:List Value} (hx:oev E x=some (.slice none 0 0)) (hy:oev E y=some (.int .i64 N)) (hd:Nat.blt d n=true) (hT:elB P T=some (e,sz,by')) (htn:P.underlying T'=some (.int .i64)) (hby:Nat.ble by' 32768=true) (hzr:uR P e=some zs) (hzl:Nat.beq zs.length sz=true) (hes:El'.size=sz)
  (h0:0<N) (h1:N<=4294967296) (k:∀ b c,Nx n G D w0 R ((d,.slice (some ⟨b,0,none⟩) N.toNat c) :: E) (zf El' e (.slice (some ⟨b,0,none⟩) 0 c) [] :: L) H) :
  Nx n G D w0 (fun a w=>Oper.wp P ⟨some d,.call {callee:=.builtin .append,args:=#[x,y],argTypes:=#[T,T']},ty,pos,aft,gd⟩ a w R Q) E L H :=
 YU hd rfl fun ρ w hE hm hH=>by
  obtain ⟨hu,inf,hinf,rfl,rfl⟩:=yZ hT
  obtain ⟨z',hz',hzc⟩:=Z7 hzr hinf
  obtain ⟨m,rfl⟩:=Int.eq_ofNat_of_zero_le (show 0<=N by omega)
  have hbl:=Nat.le_of_ble_eq_true hby
  have hl:=Nat.eq_of_beq_eq_true hzl
  have hp:=El'.pos
  have hb:m * inf.bytes<=281474976710656:=by
   have:m * inf.bytes<=4294967296 * 32768:=Nat.mul_le_mul (by omega) hbl
   omega
  have hr:=Lib.run_append_nil_zeros (P:=P) w T T' ty e inf z' .i64 .i64 hu htn hinf hz' m (by omega) (by omega) (by omega) hb
  have hge:=grownCap_ge w m 0 e
  have hcm:grownCap w m 0 e<=maxLen:=grownCap_le_maxLen w m 0 e (by unfold maxLen;omega)
  refine ⟨_,_,_,H,by simp [execOp,resolve,invoke,builtin,hE _ _ hx,hE _ _ hy,hr];exact ⟨rfl,rfl⟩,?_,hH,by simpa using k w.heap.size (grownCap w m 0 e)⟩
  refine hm.add _ (((Below.refl _ w).drew).alloc (Nat.le_refl _) _) (fun b hb=>by simp [zf,Value.ownBlock] at hb;rw [World.size_alloc];simp;omega) ?_
  refine ⟨[],trivial,by simp,.inr ⟨w.heap.size,_,_,rfl,Nat.zero_le _,heap_alloc_new w.drew _,Nat.zero_le _,hcm,?_,by simp⟩⟩
  rw [Array.size_append,size_zeroCells,size_zeroCells,hzc,hes]
  simp only [List.size_toArray,hl]
  rw [← Nat.add_mul]
  congr 1
  omega
theorem Rows.drop {V:Type} {El:El V} {F:Nat->Prop} {w:World}:∀ {xs:List V} {css:List (List Value)} (J:Nat),Rows El F w xs css->Rows El F w (xs.drop J) (css.drop J)∧(css.drop J).flatten=css.flatten.drop (J * El.size)
 | [],[],J,h=>by simp [Rows]
 | x :: xs,cs :: css,0,h=>⟨h,by simp⟩
 | x :: xs,cs :: css,J+1,h=>by
  obtain ⟨h1,h2⟩:=Rows.drop (xs:=xs) (css:=css) J h.2
  have hl:=El.len F w x cs h.1
  refine ⟨h1,?_⟩
  simp only [List.drop_succ_cons,List.flatten_cons,h2]
  have e:(J+1) * El.size=cs.length+J * El.size:=by rw [hl,Nat.add_mul];omega
  rw [e,List.drop_length_add_append]
 | [],_ :: _,_,h=>by simp [Rows] at h
 | _ :: _,[],_,h=>by simp [Rows] at h
theorem ziQ:∀ (vs cs:List Value) (o k:Nat),k<=o->(YJ cs o vs).take k=cs.take k
 | [],_,_,_,_=>rfl
 | v :: r,cs,o,k,h=>by
  rw [YJ,ziQ r _ _ k (by omega)]
  apply List.ext_getElem?
  intro j
  simp only [List.getElem?_take]
  split
  ·rw [List.getElem?_set_ne (by omega)]
  ·rfl
theorem zpZ {V:Type} {El':El V} {v:Value} {xs:List V} (i:Nat) (hi:xH L i=some (zf El' e v xs)) (h:∀ a cap,v=.slice a xs.length cap->xs.length<=cap->((a=none∧cap=0)∨∃ b,a=some ⟨b,0,none⟩)->Nx n G D w0 R E L H):Nx n G D w0 R E L H:=fun a w hE hm hH=>by
 obtain ⟨css,_,_,hv⟩:=(hm.get hi:Own El' e _ w v xs)
 rcases hv with ⟨hv,h0⟩ | ⟨g,cap,cur,hv,_,_,hle,_⟩
 ·exact h none 0 (by rw [hv,h0]) (by omega) (.inl ⟨rfl,rfl⟩) a w hE hm hH
 ·exact h _ cap hv hle (.inr ⟨g,rfl⟩) a w hE hm hH
theorem zrF {lo hi mx:Operand} (M:x8 P n G D w0 E ⟨some d,.slice T x (some lo) (some hi) (some mx),ty,pos,aft,gd⟩ Tk R Lr L) {a:Option Addr} {l cap:Nat} {I J:Int} (hT:elB P T=some (e,sz,by')) (hx:oev E x=some (.slice a l cap)) (hlo:oev E lo=some (.int .i64 I)) (hhi:oev E hi=some (.int .i64 J)) (hmx:oev E mx=some (.int .i64 l)) (hd:Nat.blt d n=true)
  (hI:0<=I) (hIJ:I<=J) (hJ:J<=l) (hc:l<=cap) (ha:(a=none∧cap=0)∨∃ b,a=some ⟨b,0,none⟩) (k:∀ u,Nx n G D w0 R ((d,u) :: E) L H):Nx n G D w0 Tk E L H :=
 M.val (v:=slv a l I.toNat J.toNat sz) hd rfl (fun ρ w hE hm _=>by
  obtain ⟨hu,inf,hinf,rfl,rfl⟩:=yZ hT
  have e1:(l:Int)<=(cap:Int):=by omega
  have e2:0<=J:=by omega
  have e3:I<=(J.toNat:Int):=by omega
  have e4:J<=(l:Int):=hJ
  rcases ha with ⟨rfl,rfl⟩ | ⟨b,rfl⟩
  ·obtain rfl:l=0:=by omega
   obtain rfl:J=0:=by omega
   obtain rfl:I=0:=by omega
   simp [slv,execOp,hE _ _ hx,hE _ _ hlo,hE _ _ hhi,hE _ _ hmx,Instr.sliceAt,Instr.slice,Instr.sliceBounds,Instr.sliceBound,asIntOf,run_underlying hu,sizeOf,typeInfo,hinf]
  ·simp [slv,execOp,hE _ _ hx,hE _ _ hlo,hE _ _ hhi,hE _ _ hmx,Instr.sliceAt,Instr.slice,Instr.sliceBounds,Instr.sliceBound,asIntOf,run_underlying hu,sizeOf,typeInfo,hinf,e1,e2,e3,e4,hI,hc,show I<=max J 0 by omega]) id (k _)
theorem zrc (M:x8 P n G D w0 E ⟨some d,.slice T x none (some y) none,ty,pos,aft,gd⟩ Tk R Lr L) {b l cap I:Nat} (hT:elB P T=some (e,sz,by')) (hx:oev E x=some (.slice (some ⟨b,0,none⟩) l cap)) (hy:oev E y=some (.int .i64 I)) (hd:Nat.blt d n=true) (hI:I<=cap)
  (k:Nx n G D w0 R ((d,.slice (some ⟨b,0,none⟩) I cap) :: E) L H):Nx n G D w0 Tk E L H :=
 M.val hd rfl (fun ρ w hE hm _=>by
  obtain ⟨hu,inf,hinf,rfl,rfl⟩:=yZ hT
  have e1:(I:Int)<=(cap:Int):=by omega
  simp [execOp,hE _ _ hx,hE _ _ hy,Instr.sliceAt,Instr.slice,Instr.sliceBounds,Instr.sliceBound,asIntOf,run_underlying hu,sizeOf,typeInfo,hinf,e1,hI,Addr.add_mid,Nat.not_lt.2 hI]) id k
theorem zre (M:x8 P n G D w0 E ⟨some d,.slice T x (some y) none none,ty,pos,aft,gd⟩ Tk R Lr L) {b l cap J:Nat} (hT:elB P T=some (e,sz,by')) (hx:oev E x=some (.slice (some ⟨b,0,none⟩) l cap)) (hy:oev E y=some (.int .i64 J)) (hd:Nat.blt d n=true) (hJ:J<=l) (hl:l<=cap)
  (k:Nx n G D w0 R ((d,.slice (some (if cap=J then ⟨b,0,none⟩ else ⟨b,J * sz,none⟩)) (l - J) (cap - J)) :: E) L H):Nx n G D w0 Tk E L H :=
 M.val hd rfl (fun ρ w hE hm _=>by
  obtain ⟨hu,inf,hinf,rfl,rfl⟩:=yZ hT
  have e1:(J:Int)<=(l:Int):=by omega
  have e2:(l:Int)<=(cap:Int):=by omega
  simp [execOp,hE _ _ hx,hE _ _ hy,Instr.sliceAt,Instr.slice,Instr.sliceBounds,Instr.sliceBound,asIntOf,run_underlying hu,sizeOf,typeInfo,hinf,e1,e2,hJ,hl,Addr.add_mid]
  split <;> rfl) id k
theorem zqP {z:Operand} (M:x8 P n G D w0 E ⟨some d,.slice T x (some y) (some z) none,ty,pos,aft,gd⟩ Tk R Lr L) {b l cap I J:Nat} (hT:elB P T=some (e,sz,by')) (hx:oev E x=some (.slice (some ⟨b,0,none⟩) l cap)) (hy:oev E y=some (.int .i64 I)) (hz:oev E z=some (.int .i64 J)) (hd:Nat.blt d n=true) (hI:I<J) (hJ:J<=cap)
  (k:Nx n G D w0 R ((d,.slice (some ⟨b,I * sz,none⟩) (J - I) (cap - I)) :: E) L H):Nx n G D w0 Tk E L H :=
 M.val hd rfl (fun ρ w hE hm _=>by
  obtain ⟨hu,inf,hinf,rfl,rfl⟩:=yZ hT
  have e1:(I:Int)<=(J:Int):=by omega
  have e2:(J:Int)<=(cap:Int):=by omega
  have e3:¬ cap=I:=by omega
  simp [execOp,hE _ _ hx,hE _ _ hy,hE _ _ hz,Instr.sliceAt,Instr.slice,Instr.sliceBounds,Instr.sliceBound,asIntOf,run_underlying hu,sizeOf,typeInfo,hinf,e1,e2,e3,hJ,show I<=J by omega,Addr.add_mid]) id k
theorem zoD {c c':Ch} {i:Nat} {w w':World} (m:Mem G D w0 L w) (hi:xH L i=some c) (hz:w.heap.size<=w'.heap.size) (hf:∀ b,c'.foot b->c.foot b):∀ b,fz G L w b->fz G (ZQ L i c') w' b:=fun b hb=>⟨by have:=hb.1;omega,hb.2.1,fun x hx=>by
 rcases X4 hi m.disj hx with e' | ⟨e1,_⟩
 ·subst e';exact fun hk=>hb.2.2 _ (x7 hi) (hf b hk)
 ·exact hb.2.2 x e1⟩
theorem zqJ {V:Type} {El':El V} {xs:List V} {b I J cap c:Nat} (i:Nat) (hi:xH L i=some (zf El' e (.slice (some ⟨b,0,none⟩) xs.length cap) xs)) (hIJ:I<=J) (hJ:J<=xs.length)
  (hx:oev E x=some (.slice (some ⟨b,0,none⟩) I cap)) (hy:oev E y=some (.slice (some (if cap=J then ⟨b,0,none⟩ else ⟨b,J * sz,none⟩)) (xs.length - J) c)) (hd:Nat.blt d n=true) (hT:elB P T=some (e,sz,by')) (hes:El'.size=sz)
  (k:Nx n G D w0 R ((d,.slice (some ⟨b,0,none⟩) (I+(xs.length - J)) cap) :: E) (ZQ L i (zf El' e (.slice (some ⟨b,0,none⟩) (I+(xs.length - J)) cap) (xs.take I++xs.drop J))) H) :
  Nx n G D w0 (fun a w=>Oper.wp P ⟨some d,.call {callee:=.builtin .append,args:=#[x,y],argTypes:=#[T,T]},ty,pos,aft,gd⟩ a w R Q) E L H :=
 YU hd rfl fun ρ w hE hm hH=>by
  obtain ⟨hu,inf,hinf,rfl,rfl⟩:=yZ hT
  obtain ⟨css,hr,h0,how⟩:=hm.get hi
  rcases how with ⟨h,_⟩ | ⟨g,cap',cur,h,hg0,hg,hnc,hcm,hcz,htake⟩
  ·cases h
  simp only [Value.slice.injEq,Option.some.injEq,Addr.mk.injEq,true_and] at h
  obtain ⟨⟨rfl,-⟩,rfl⟩:=h
  obtain ⟨r1,r2⟩:=Rows.take I hr
  obtain ⟨r3,r4⟩:=Rows.drop J hr
  have hcl:=hr.length
  have hI:I<=xs.length:=by omega
  have m1:I * El'.size<=xs.length * El'.size:=Nat.mul_le_mul_right _ hI
  have m2:J * El'.size<=xs.length * El'.size:=Nat.mul_le_mul_right _ hJ
  have m3:xs.length * El'.size<=cap * El'.size:=Nat.mul_le_mul_right _ hnc
  have m4:(xs.length - J) * El'.size=xs.length * El'.size - J * El'.size:=Nat.sub_mul _ _ _
  have m5:I * El'.size<=J * El'.size:=Nat.mul_le_mul_right _ hIJ
  have hnl:(css.drop J).flatten.length=(xs.length - J) * inf.size:=by rw [r4,List.length_drop,hcl,hes.symm,m4]
  have hcur:cur.toList.length=cap * El'.size:=by rw [Array.length_toList,hcz]
  have hone:=r3.one
  have hcell:∀ j u,(css.drop J).flatten[j]?=some u->w.cell? ((if cap=J then (⟨b,0,none⟩:Addr) else ⟨b,J * inf.size,none⟩).add j)=some u:=fun j u hj=>by
   have hjl:=(List.getElem?_eq_some_iff.1 hj).1
   rw [r4,← htake,List.getElem?_drop,List.getElem?_take] at hj
   split at hj
   ·rename_i hlt
    have hne:¬ cap=J:=fun e'=>by
     rw [r4,List.length_drop,hcl] at hjl
     subst e'
     omega
    rw [if_neg hne,Addr.add_mid,cell_of_row w b _ cur e (0,0) hg,← hes]
    simpa using hj
   ·cases hj
  have hrun:=run_append_room (P:=P) w T ty e inf hu hinf b I cap cur hg _ (xs.length - J) c _ hnl hcell hone (by omega) (by rw [hnl,← hes,← Array.length_toList,hcur];omega)
  obtain ⟨cs',hcs'⟩:∃ c,c=(cur.toList.take (I * inf.size)++(css.drop J).flatten++cur.toList.drop (I * inf.size+(css.drop J).flatten.length)).toArray:=⟨_,rfl⟩
  rw [← hcs'] at hrun
  refine ⟨_,_,_,H,by simp [execOp,resolve,invoke,builtin,hE _ _ hx,hE _ _ hy,hrun];first | exact ⟨rfl,rfl⟩ | rfl,?_,hH,k⟩
  have hup:=setRow_heap w b cur cs' e (0,0) hg
  refine hm.upd hi rfl rfl rfl (by simp) (fun x _ hx=>setRow_other w b x _ (fun e'=>hx (by rw [e'];rfl))) (fun x hx=>⟨?_,.inl hx⟩) ?_
  ·have hx':some b=some x:=hx
   cases hx'
   exact (Array.getElem?_eq_some_iff.1 hup).1
  ·have hfz:=zoD (c':=zf El' e (.slice (some ⟨b,0,none⟩) (I+(xs.length - J)) cap) (xs.take I++xs.drop J)) (w':=w.setRow b cs') hm hi (by simp) (fun _ h=>h)
   have hsame:∀ x,fz G L w x->(w.setRow b cs').heap[x]?=w.heap[x]?:=fun x hx=>setRow_other w b x _ (fun e'=>hx.2.2 _ (x7 hi) (by rw [e'];rfl))
   have hln:(xs.take I++xs.drop J).length=I+(xs.length - J):=by simp;omega
   refine ⟨css.take I++css.drop J,Rows.append (r1.keep hfz hsame) (r3.keep hfz hsame),?_,.inr ⟨b,cap,_,by rw [hln],hg0,hup,by omega,hcm,?_,?_⟩⟩
   ·rw [List.flatten_append,List.length_append,r2,hnl,List.length_take,hcl,hln,Nat.add_mul,← hes];omega
   ·rw [hcs',← Array.length_toList]
    simp only [List.length_append,List.length_take,List.length_drop,hnl,hcur,← hes]
    omega
   ·rw [hcs',hln,List.flatten_append,r2,← htake,List.take_take,Nat.min_eq_left m1,← hes,Nat.add_mul]
    rw [List.take_append_of_le_length (by simp only [List.length_append,List.length_take,hnl,hcur,← hes];omega)]
    rw [List.take_of_length_le (by simp only [List.length_append,List.length_take,hnl,hcur,← hes];omega)]
theorem zrh {V:Type} {El':El V} {ys:List V} {b m cap q c:Nat} {zs:List Value} (i:Nat) (hi:xH L i=some (zf El' e (.slice (some ⟨b,0,none⟩) m cap) ys)) (hq:m+q<=cap) (hq0:0<q) (hx:oev E x=some (.slice (some ⟨b,m * sz,none⟩) q c)) (hT:elB P T=some (e,sz,by')) (hes:El'.size=sz) (hzr:uR P e=some zs) (hzl:Nat.beq zs.length sz=true) (hone:zs.all (·.oneCell')=true)
  (k:Nx n G D w0 R E L H):Nx n G D w0 (fun a w=>Oper.wp P ⟨none,.call {callee:=.builtin .clear,args:=#[x],argTypes:=#[T]},ty,pos,aft,gd⟩ a w R Q) E L H:=fun a w hE hm hH=>by
 obtain ⟨hu,inf,hinf,rfl,rfl⟩:=yZ hT
 obtain ⟨z',hz',hzc⟩:=Z7 hzr hinf
 obtain ⟨css,hr,h0,how⟩:=hm.get hi
 have hl:=Nat.eq_of_beq_eq_true hzl
 rcases how with ⟨h,_⟩ | ⟨g,cap',cur,h,hg0,hg,hnc,hcm,hcz,htake⟩
 ·cases h
 simp only [Value.slice.injEq,Option.some.injEq,Addr.mk.injEq] at h
 obtain ⟨⟨rfl,-,-⟩,rfl,rfl⟩:=h
 have m1:(ys.length+q) * El'.size<=cap * El'.size:=Nat.mul_le_mul_right _ hq
 have hb:w.heap[b]?=some (.cells cur.toList.toArray e (0,0)):=by simpa using hg
 have hcl:cur.toList.length=cap * El'.size:=by rw [Array.length_toList,hcz]
 have hzs:(Builtin.zeroCells z'.cells q).toList.length=q * El'.size:=by rw [Array.length_toList,size_zeroCells,hzc,hes];simp [hl]
 have hth:=Yk (b:=b) (o:=ys.length * El'.size) (sz:=q * El'.size) hb (by rw [hcl,← Nat.add_mul];exact m1)
 have hst:=run_storeCells_cells (P:=P) b (ys.length * El'.size) (Builtin.zeroCells z'.cells q).toList 0 w (fun j hj=>by simpa using (hth j (by rw [hzs] at hj;exact hj)).1) (fun j hj=>by simpa using (hth j (by rw [hzs] at hj;exact hj)).2) (fun v hv=>by
  have hv':v∈Builtin.zeroCells z'.cells q:=by simpa using hv
  unfold Builtin.zeroCells at hv'
  obtain ⟨j,hj,rfl⟩:=Array.mem_map.1 hv'
  rw [hzc]
  have hp:=El'.pos
  have hlt:j % zs.toArray.size<zs.length:=by simpa using Nat.mod_lt j (show 0<zs.toArray.size by simp;omega)
  rw [getElem!_pos zs.toArray _ (by simpa using hlt)]
  exact List.all_eq_true.1 hone _ (by simp))
 simp only [Nat.add_zero] at hst
 have hx':=hE.eval hx
 have hrun:(execOp a.eval ⟨none,.call {callee:=.builtin .clear,args:=#[x],argTypes:=#[T]},ty,pos,aft,gd⟩).run P w=.ok (.value (.tuple #[])) (w.setCells b (ys.length * El'.size) (Builtin.zeroCells z'.cells q).toList):=by
  rw [← hes] at hx'
  obtain ⟨q',rfl⟩:∃ q',q=q'+1:=⟨q - 1,by omega⟩
  simp [execOp,resolve,invoke,builtin,hx',Builtin.clear_,run_underlying hu,zeroValue,typeInfo,hinf,hz',hst]
 show Oper.upon P _ a R Q _
 rw [hrun,Oper.upon_value]
 obtain ⟨s1,s2,s3⟩:=XQ b (Builtin.zeroCells z'.cells q).toList (ys.length * El'.size) w
 have hid:∀ {L:List Ch} {i:Nat} {c:Ch},xH L i=some c->ZQ L i c=L:=by
  intro L
  induction L with
  | nil=>intro i c h;rfl
  | cons d r ih=>intro i c h;cases i with
   | zero=>simp [xH] at h;subst h;rfl
   | succ i=>simp [xH] at h;simp [ZQ,ih h]
 refine k _ _ (hE.put_none _) ?_ hH
 have hup:=XN b e (0,0) (Builtin.zeroCells z'.cells q).toList (ys.length * El'.size) cur.toList w hb
 have:=hm.upd (c':=zf El' e (.slice (some ⟨b,0,none⟩) ys.length cap) ys) hi s1 s2 s3 (by rw [xK];exact Nat.le_refl _) (fun x _ hx=>uF b _ _ _ _ (fun e'=>hx (by rw [e'];rfl))) (fun x hx=>⟨by
   have hx':some b=some x:=hx
   cases hx'
   rw [xK]
   exact (Array.getElem?_eq_some_iff.1 hg).1,.inl hx⟩) (by
  have hfz:=zoD (c':=zf El' e (.slice (some ⟨b,0,none⟩) ys.length cap) ys) (w':=w.setCells b (ys.length * El'.size) (Builtin.zeroCells z'.cells q).toList) hm hi (by rw [xK];exact Nat.le_refl _) (fun _ h=>h)
  refine ⟨css,hr.keep hfz (fun x hx=>uF b _ _ _ _ (fun e'=>hx.2.2 _ (x7 hi) (by rw [e'];rfl))),h0,.inr ⟨b,cap,_,rfl,hg0,hup,hnc,hcm,by simpa [Y7] using hcz,?_⟩⟩
  simp only [ziQ _ _ _ _ (Nat.le_refl _)]
  exact htake)
 rw [hid hi] at this
 exact this
end
end
section
open Go.RowKit
section
variable {P:Program} {n:Nat} {G D:Nat->Prop} {w0:World} {Q:Exit->Act->World->Prop} {R:Act->World->Prop} {E:Env} {L M:List Ch} {H:Prop}
variable {d:Tmp} {ty:TypeId} {pos:String} {aft:Array Edge} {gd:Option (Nat×Bool)} {Tk:Act->World->Prop} {Lr:List Ch} {x y:Operand} {T T' S:TypeId} {e sz by':Nat} {at':Array TypeId}
theorem Mem.putObj {i b:Nat} {o o':Obj} {w:World} (m:Mem G D w0 L w) (hi:xH L i=some (Zj b o)):Mem G D w0 (ZQ L i (Zj b o')) (w.putObj b o'):=by
 have hb:w.heap[b]?=some o:=m.get hi;have hlt:=(Array.getElem?_eq_some_iff.1 hb).1;refine m.upd hi rfl rfl rfl (by simp) (fun x _ hx=>World.putObj_heap_other (fun e=>hx e)) (fun x hx=>⟨?_,.inl hx⟩) (World.putObj_heap_same hlt);have hx':x=b:=hx;subst hx';simpa using hlt
theorem zp6 {l i:Nat} {rc:Loop} {Kb:Act->World->Prop} (hi:xH L i=some (Zj l (.loop rc))) (hr:rc.state=.ready) (k:Nx n G D w0 Kb E (ZQ L i (Zj l (.loop {rc with state:=.busy}))) H) :
  Nx n G D w0 (fun a w=>∃ w₂,(Instr.beginRound l).run P w=.ok () w₂∧Kb a w₂) E L H:=fun a w hE hm hH =>
 ⟨_,run_beginRound (P:=P) (hm.get hi) hr,k a _ hE (hm.putObj hi) hH⟩
theorem Mem.absLoop {l:Nat} {rc0:Loop} {w:World} (m:Mem G D w0 (Zj l (.loop rc0) :: L) w):∃ rc,rc=rc0∧Mem G D w0 (Zj l (.loop rc) :: L) w:=⟨rc0,rfl,m⟩
theorem zr4 {l i:Nat} {rc:Loop} {Rr:Ending->World->Prop} (hi:xH L i=some (Zj l (.loop rc))) (h:∀ w,Mem G D w0 (ZQ L i (Zj l (.loop {rc with state:=.ready,pending:=none}))) w->H->Rr (.returned (.bool true)) w) :
  Nx n G D w0 (roundPost P l Rr .normal) E L H:=fun a w hE hm hH =>
 ⟨_,_,run_endRound (P:=P) none (hm.get hi),h _ (hm.putObj hi) hH⟩
theorem zq6 {l i:Nat} {rc:Loop} {Rr:Ending->World->Prop} (hi:xH L i=some (Zj l (.loop rc))) (h:∀ w,Mem G D w0 (ZQ L i (Zj l (.loop {rc with state:=.done,pending:=some .ret}))) w->H->Rr (.returned (.bool false)) w) :
  Nx n G D w0 (roundPost P l Rr .ret) E L H:=fun a w hE hm hH =>
 ⟨_,_,run_endRound (P:=P) (some .ret) (hm.get hi),h _ (hm.putObj hi) hH⟩
theorem Mem.laid {w:World} (o:Obj) (m:Mem G D w0 L w):Mem G D w0 (Zj w.heap.size o :: L) (w.alloc o) :=
 m.add _ ((Below.refl _ _).alloc (Nat.le_refl _) _) (fun b hb=>by have hb':b=w.heap.size:=hb;subst hb';simp) (World.alloc_heap_new w o)
theorem zpx {g:Operand} {ps:Array Tmp} {assign body:Code} {gf:Nat} {lb:List Value} (hg:oev E g=some (.func (.func gf) #[] lb.toArray)) (eg:∀ args w,(callFunc gf args).run P w=.ok (.enter gf args) w)
  (h:∀ (a:Act) (w:World) (fn:FuncId) (l D0:Nat),Has n E a->Mem G D w0 (Zj l (.loop {state:=.ready,pending:=none,fn,tmps:=a.tmps,params:=ps,assign,body,defers:=D0}) :: Zj D0 (.deferred (some [])) :: L) w->H ->
   Calls P gf (.func (.yield l) #[] #[] :: lb).toArray w (rangePost Fence.wide 3 P l Q {a with defers:=[{target:=.collected D0,args:=#[]}]})):Nx n G D w0 ((Code.rangeFunc g ps assign body).wp P Q) E L H:=fun a w hE hm hH=>by
 refine (wpIn_wide (n:=3)).1 (wpIn_rangeFunc fun fn _=>?_)
 have hgv:=hE.eval hg
 have hcall:=h a ((w.alloc (.deferred (some []))).alloc (.loop {state:=.ready,pending:=none,fn,tmps:=a.tmps,params:=ps,assign,body,defers:=w.heap.size})) fn (w.heap.size+1) w.heap.size hE (by
  have:=(hm.laid (.deferred (some []))).laid (.loop {state:=.ready,pending:=none,fn,tmps:=a.tmps,params:=ps,assign,body,defers:=w.heap.size})
  rwa [World.size_alloc] at this) hH
 have hrun:=run_enterLoop_outer (P:=P) (w:=w) fn a.tmps ps assign body
 generalize (w.alloc (.deferred (some []))).alloc (.loop {state:=.ready,pending:=none,fn,tmps:=a.tmps,params:=ps,assign,body,defers:=w.heap.size})=W1 at hcall hrun
 refine ⟨w.heap.size+1,[{target:=.collected w.heap.size,args:=#[]}],W1,{target:=.fn (.func gf) lb.toArray,args:=#[.func (.yield (w.heap.size+1)) #[] #[]]},W1,gf,
  (.func (.yield (w.heap.size+1)) #[] #[] :: lb).toArray,W1,hrun,?_,fun f' _=>trivial,?_,fun e=>by simp [Fence.wide] at e,?_⟩
 ·simp only [resolve,hgv]
  simp [go_sem]
 ·simp [invoke,go_sem,eg]
 ·have hd:=hE.defers
  rw [hd]
  exact callsIn_wide.2 hcall
theorem ziC {l i:Nat} {rc:Loop} {a':Act} {v:Value} {w:World} (m:Mem G D w0 L w) (hi:xH L i=some (Zj l (.loop rc))) (hb:rc.state≠.busy)
  (h:∀ w',Mem G D w0 (ZQ L i (Zj l (.loop {rc with state:=.exhausted}))) w'->(match rc.pending with | none=>Q .normal a' w' | some c=>c.wpIn Fence.wide 3 P Q a' w')):rangePost Fence.wide 3 P l Q a' (.returned v) w :=
 ⟨_,_,run_endLoop (P:=P) (m.get hi) hb,h _ (m.putObj hi)⟩
theorem zsl {ds:List Deferred} {ops:Array Oper} {rest:List Oper} {dst:Option Tmp} {op:Op} (hne:∀ ρ w dd w',(execOp ρ ⟨dst,op,ty,pos,aft,none⟩).run P w≠.ok (.defer dd) w') (h:Nx n G D w0 (fun a w=>Oper.wp P ⟨dst,op,ty,pos,aft,none⟩ a w (fun a w=>wpList P ops Q rest {a with defers:=ds} w) (fun _ _ _=>False)) E L H) :
  Nx n G D w0 (fun a w=>wpList P ops Q (⟨dst,op,ty,pos,aft,none⟩ :: rest) {a with defers:=ds} w) E L H:=fun a w hE hm hH=>by
 show wpList P ops Q (⟨dst,op,ty,pos,aft,none⟩ :: rest) {a with defers:=ds} w
 unfold wpList
 rw [if_pos (by simp [Region.wanted])]
 refine .inl ?_
 have h':Oper.upon P ⟨dst,op,ty,pos,aft,none⟩ a (fun a w=>wpList P ops Q rest {a with defers:=ds} w) (fun _ _ _=>False) ((execOp a.eval ⟨dst,op,ty,pos,aft,none⟩).run P w):=h a w hE hm hH
 show Oper.upon P ⟨dst,op,ty,pos,aft,none⟩ {a with defers:=ds} (wpList P ops Q rest) Q ((execOp a.eval ⟨dst,op,ty,pos,aft,none⟩).run P w)
 have hne':=hne a.eval w
 revert h' hne'
 generalize (execOp a.eval ⟨dst,op,ty,pos,aft,none⟩).run P w=r
 intro h' hne'
 have hp:∀ v,({a with defers:=ds}:Act).put dst v={a.put dst v with defers:=ds}:=fun v=>by cases dst <;> rfl
 cases r with
 | ok x w' =>
  cases x <;> simp only [Oper.upon,hp] at h' ⊢ <;> first | exact h' | exact absurd rfl (hne' _ _) | (refine Calls.mono h' ?_;intro e w'' hh;cases e <;> first | exact hh | exact False.elim hh | (obtain ⟨_,_,hh⟩:=hh;exact hh.elim)) | (refine Rows.mono h' ?_;intro e w'' hh;exact hh) | exact False.elim h'
 | halt x w'=>cases x <;> first | exact h' | exact False.elim h'
theorem stD {ds:List Deferred} {ops:Array Oper} {rest:List Oper} {dst:Option Tmp} {op:Op}:x8 P n G D w0 E ⟨dst,op,ty,pos,aft,none⟩ (fun a w=>wpList P ops Q (⟨dst,op,ty,pos,aft,none⟩ :: rest) {a with defers:=ds} w) (fun a w=>wpList P ops Q rest {a with defers:=ds} w) L L :=
 ⟨fun hd ho hr hψ k=>fun a w hE hm hH=>by
  show wpList P ops Q (⟨dst,op,ty,pos,aft,none⟩ :: rest) {a with defers:=ds} w
  unfold wpList
  rw [if_pos (by simp [Region.wanted])]
  refine .inl ?_
  show Oper.upon P _ _ _ Q ((execOp a.eval ⟨dst,op,ty,pos,aft,none⟩).run P w)
  rw [hr a.eval w (fun x v h=>hE.eval h) hm hH,Oper.upon_value,ho]
  exact k _ _ (hE.put hd _) hm (hψ hH)⟩
theorem zkz {T:TypeId} {x y:Operand}:∀ ρ w dd w',(execOp ρ ⟨none,.store T x y,ty,pos,aft,none⟩).run P w≠.ok (.defer dd) w':=fun ρ w dd w' h=>by
 simp only [execOp] at h
 rw [Sem.run_bind] at h
 cases hr:(Instr.storeAt T (ρ x) (ρ y)).run P w with
 | ok u w2=>rw [hr] at h;simp [Result.andThen] at h
 | halt u w2=>rw [hr] at h;simp [Result.andThen] at h
theorem zm2 {ds:List Deferred} {id:Nat} {l:List Oper} (h:Nx n G D w0 (fun a w=>wpList P l.toArray Q l {a with defers:=ds} w) E L H):Nx n G D w0 (fun a w=>(Code.region id l.toArray false).wp P Q {a with defers:=ds} w) E L H:=fun a w hE hm hH=>wp_region_lit (h a w hE hm hH)
theorem zrg {ds:List Deferred} {x y:Code} (h:Nx n G D w0 (fun a w=>x.wp P (Exit.then (y.wp P Q) Q) {a with defers:=ds} w) E L H):Nx n G D w0 (fun a w=>(Code.seq x y).wp P Q {a with defers:=ds} w) E L H:=fun a w hE hm hH=>wp_seq (h a w hE hm hH)
theorem zrx {ds:List Deferred} (h:Nx n G D w0 (fun a w=>Q .ret {a with defers:=ds} w) E L H):Nx n G D w0 (fun a w=>Code.ret.wp P Q {a with defers:=ds} w) E L H:=fun a w hE hm hH=>wp_ret (h a w hE hm hH)
theorem zmc {M0:List Ch} {ρ ν:Type} {F:Nat->Prop} {fn:Func} {q q2:ResultVar} {v v2:Value} {O:ρ->Prop} {val:ρ->ν->Value} {N:ρ->ν->List Ch} {D0 i:Nat} (hi:xH L i=some (Zj D0 (.deferred (some [])))) (hres:fn.results=#[q,q2]) (r:ρ) (u:ν)
  (hs:Rv P n G (uv M0) w0 E (ZQ L i (Zj D0 (.deferred none))) q v) (ht:Rv P n G (uv M0) w0 E (ZQ L i (Zj D0 (.deferred none))) q2 v2) (hv:val r u=.tuple #[v,v2])
  (hN:∀ w,Mem G (uv M0) w0 (ZQ L i (Zj D0 (.deferred none))) w->yr M0 F w0 w (N r u)):Nx n G (uv M0) w0 (fun a w=>bodyPostM Fence.wide 3 P fn (Ret M0 F w0 O val N) .ret {a with defers:=[{target:=.collected D0,args:=#[]}]} w) E L (O r):=fun a w hE hm hH=>by
 have hk:=hm.putObj (o':=.deferred none) hi
 refine ⟨by simp,.inl ⟨D0,_,rfl,run_takeDeferred (P:=P) (hm.get hi),?_⟩⟩
 exact ⟨val r u,by simp [zbf,hres,hs a _ hE hk,ht a _ hE hk,hv],r,u,hH,rfl,hk.updD,hN _ hk⟩
theorem zrD {F:Nat->Prop} {f:Nat} {fn:Func} {c:Code} {args:List Value} {K:Ending->World->Prop} (M0:List Ch) (hF:∀ b,F b->b<w0.heap.size∧¬ uv M0 b) (hg:xz M0 F w0) (hf:P.funcs[f]?=some fn) (hb:fn.body=some c) (hn:fn.ntmps=n) (hle:Nat.ble args.length n=true)
  (hH:H) (h:Nx n (gB F M0 w0) (uv M0) w0 (c.wp P (bodyPostM Fence.wide 3 P fn K)) (zc3 0 args) (M0++[zl w0 F]) H):Calls P f args.toArray w0 K:=by
 have hle':=Nat.le_of_ble_eq_true hle;refine (callsIn_wide (n:=3)).1 (callsIn_of_wp_marks hf hb trivial (wpIn_wide.2 ?_));have hfoot:∀ c∈[zl w0 F],∀ b,¬ c.foot b:=fun c hc b h=>by simp only [List.mem_cons,List.not_mem_nil,or_false] at hc;subst hc;exact h
 have hh:∀ c∈[zl w0 F],c.holds F w0:=fun c hc=>by simp only [List.mem_cons,List.not_mem_nil,or_false] at hc;subst hc;exact ⟨fun _ h=>h,fun _ _=>rfl⟩
 refine h _ _ ?_ ?_ hH
 ·rw [hn];have:=Has.enter (args:=args) (f:=n - args.length) (n:=n) (by omega) (zc3 0 args) (fun s v hs=>by have:=zfu args 0 s v hs;simpa using this.2);simpa using this
 have hfz:∀ b,F b->fz (gB F M0 w0) (M0++[zl w0 F]) w0 b:=fun b hb=>⟨(hF b hb).1,.inl hb,fun d hd hk=>by
  rcases List.mem_append.1 hd with e | e
  ·exact (hF b hb).2 ⟨d,e,hk⟩
  exact hfoot d e b hk⟩
 refine Mem.start w0 _ _ (M0++[zl w0 F]) (fun b h=>.inr h) (fun c hc b hb=>?_) ?_ (fun c hc=>?_)
 ·rcases List.mem_append.1 hc with e | e
  ·exact ⟨hg.lt c e b hb,c,e,hb⟩
  exact absurd hb (hfoot c e b)
 ·exact List.pairwise_append.2 ⟨hg.disj,by simp,fun c _ d hd b _ h2=>hfoot d hd b h2⟩
 rcases List.mem_append.1 hc with e | e
 ·exact c.keep _ _ w0 w0 hfz (fun _ _=>rfl) (hg.hold c e)
 exact c.keep _ _ w0 w0 hfz (fun _ _=>rfl) (hh c e)
end
end
section
open Go.RowKit Go.Proofs.Tryz
variable {w0:World} {F:Nat->Prop}
theorem uk:zhj prog 137=some (4,90,false,1):=by kernel_rfl
theorem zdX:zhj prog 152=some (4,3,false,1):=by kernel_rfl
theorem zj6:zhj prog 163=some (4,162,true,2):=by kernel_rfl
theorem zoh:zhj prog 203=some (5,4,false,1):=by kernel_rfl
theorem zlE:zhj prog 204=some (5,3,false,1):=by kernel_rfl
theorem zg1:zb2 prog 101=some (#[(0,1),(1,1)],[(.slice none 0 0),(.bool false)]):=by kernel_rfl
theorem zrp:zb2 prog 131=some (#[(0,1),(1,1)],[(.slice none 0 0),(.int .i64 0)]):=by kernel_rfl
theorem zhL:zpS prog 137=some (1,[(.slice none 0 0),(.slice none 0 0),(.slice none 0 0),(.slice none 0 0)]):=by kernel_rfl
theorem zlx:zb2 prog 146=some (#[(0,4),(4,1)],[(.slice none 0 0),(.slice none 0 0),(.slice none 0 0),(.slice none 0 0),(.bool false)]):=by kernel_rfl
theorem zq5:zpS prog 152=some (1,[(.int .i64 0),(.int .i64 0),(.int .i64 0),(.int .i64 0)]):=by kernel_rfl
theorem zrC:zb2 prog 157=some (#[(0,1),(1,1),(2,1)],[(.slice none 0 0),(.slice none 0 0),(.int .i64 0)]):=by kernel_rfl
theorem zbJ:zb2 prog 165=some (#[(0,1),(1,1),(2,1),(3,1)],[(.int .i64 0),(.int .i64 0),(.int .i64 0),(.bool false)]):=by kernel_rfl
theorem zqF:zb2 prog 169=some (#[(0,1),(1,1),(2,1)],[(.slice none 0 0),(.slice none 0 0),(.bool false)]):=by kernel_rfl
theorem znD:zb2 prog 208=some (#[(0,1),(1,1)],[(.int .i64 0),(.int .i64 0)]):=by kernel_rfl
theorem zqM:zb2 prog 212=some (#[(0,1),(1,1)],[(.int .i64 0),(.int .i64 0)]):=by kernel_rfl
theorem zct:zb2 prog 25=some (#[(0,1),(1,1)],[(.slice none 0 0),(.bool false)]):=by kernel_rfl
theorem znK:zb2 prog 262=some (#[(0,1)],[(.bool false)]):=by kernel_rfl
theorem zri:zb2 prog 264=some (#[(0,1)],[(.int .i64 0)]):=by kernel_rfl
theorem zqX:zb2 prog 266=some (#[],[]):=by kernel_rfl
theorem zrn:zb2 prog 267=some (#[],[]):=by kernel_rfl
theorem zrG:zb2 prog 287=some (#[(0,1),(1,1)],[(.string (ByteArray.mk #[])),(.int .i64 0)]):=by kernel_rfl
theorem zmQ:zb2 prog 34=some (#[(0,1),(1,1),(2,1),(3,1)],[(.int .i64 0),(.int .i64 0),(.int .i64 0),(.int .i64 0)]):=by kernel_rfl
theorem Vp:zb2 prog 77=some (#[(0,1),(1,1),(2,1)],[(.slice none 0 0),(.int .i64 0),(.int .i64 0)]):=by kernel_rfl
theorem Z4:zb2 prog 89=some (#[(0,1),(1,1)],[(.int .i64 0),(.int .i64 0)]):=by kernel_rfl
theorem zdM:zb2 prog 94=some (#[(0,1)],[(.slice none 0 0)]):=by kernel_rfl
theorem zcX:elB prog 154=some (208,2,16):=by kernel_rfl
theorem zkk:elB prog 155=some (212,2,16):=by kernel_rfl
theorem zd3:elB prog 22=some (5,1,1):=by kernel_rfl
theorem xU:elB prog 23=some (47,1,24):=by kernel_rfl
theorem zhI:elB prog 271=some (82,1,24):=by kernel_rfl
theorem zmD:elB prog 280=some (4,1,1):=by kernel_rfl
theorem uj:elB prog 30=some (101,2,32):=by kernel_rfl
theorem Xp:elB prog 36=some (94,1,24):=by kernel_rfl
theorem Zr:elB prog 39=some (3,1,8):=by kernel_rfl
theorem uW:elB prog 47=some (77,3,40):=by kernel_rfl
theorem Zf:elB prog 62=some (9,1,16):=by kernel_rfl
theorem Xf:elB prog 75=some (165,4,32):=by kernel_rfl
theorem Xo:elB prog 79=some (146,5,104):=by kernel_rfl
theorem YC:elB prog 82=some (137,4,96):=by kernel_rfl
theorem jJ:elB prog 90=some (89,2,16):=by kernel_rfl
theorem Xw:elB prog 92=some (90,1,24):=by kernel_rfl
theorem znN (x y:Operand) (a0:Int) (a1:Int) (b0:Int) (b1:Int) (w:World):(do eqGuard .eql 89 x y (.agg #[(.int .i64 a0),(.int .i64 a1)]) (.agg #[(.int .i64 b0),(.int .i64 b1)]);binOp .eql 89 (.agg #[(.int .i64 a0),(.int .i64 a1)]) (.agg #[(.int .i64 b0),(.int .i64 b1)]):Sem Value).run prog w=.ok (.bool (decide ((zk.mk a0 a1)=(zk.mk b0 b1)))) w:=by
 simp [go_sem,binOp,Op.equal,Op.maxDepth]
 repeat' split
 all_goals simp_all
theorem zoX (x y:Operand) (a0:Int) (a1:Int) (b0:Int) (b1:Int) (w:World):(do eqGuard .neq 89 x y (.agg #[(.int .i64 a0),(.int .i64 a1)]) (.agg #[(.int .i64 b0),(.int .i64 b1)]);binOp .neq 89 (.agg #[(.int .i64 a0),(.int .i64 a1)]) (.agg #[(.int .i64 b0),(.int .i64 b1)]):Sem Value).run prog w=.ok (.bool (!decide ((zk.mk a0 a1)=(zk.mk b0 b1)))) w:=by
 simp [go_sem,binOp,Op.equal,Op.maxDepth]
 repeat' split
 all_goals simp_all
theorem Uj:XP prog 101 0=some (0,true,1):=by kernel_rfl
theorem za3:XP prog 101 1=some (1,false,1):=by kernel_rfl
theorem zh0:XP prog 128 0=some (0,false,1):=by kernel_rfl
theorem Vt:XP prog 128 1=some (1,true,2):=by kernel_rfl
theorem zaj:XP prog 131 0=some (0,false,1):=by kernel_rfl
theorem zih:XP prog 131 1=some (1,false,1):=by kernel_rfl
theorem zb0:XP prog 146 0=some (0,true,4):=by kernel_rfl
theorem zeJ:XP prog 146 1=some (4,false,1):=by kernel_rfl
theorem zao:XP prog 157 0=some (0,false,1):=by kernel_rfl
theorem zeE:XP prog 157 1=some (1,false,1):=by kernel_rfl
theorem zfh:XP prog 157 2=some (2,false,1):=by kernel_rfl
theorem zk7:XP prog 162 0=some (0,false,1):=by kernel_rfl
theorem zkn:XP prog 162 1=some (1,false,1):=by kernel_rfl
theorem yL:XP prog 165 0=some (0,false,1):=by kernel_rfl
theorem Zi:XP prog 165 1=some (1,false,1):=by kernel_rfl
theorem yH:XP prog 165 2=some (2,false,1):=by kernel_rfl
theorem za8:XP prog 165 3=some (3,false,1):=by kernel_rfl
theorem zot:XP prog 169 0=some (0,false,1):=by kernel_rfl
theorem zfb:XP prog 169 1=some (1,false,1):=by kernel_rfl
theorem UL:XP prog 169 2=some (2,false,1):=by kernel_rfl
theorem zkl:XP prog 208 0=some (0,false,1):=by kernel_rfl
theorem zfc:XP prog 208 1=some (1,false,1):=by kernel_rfl
theorem jY:XP prog 25 0=some (0,false,1):=by kernel_rfl
theorem Vz:XP prog 25 1=some (1,false,1):=by kernel_rfl
theorem zhY:XP prog 262 0=some (0,false,1):=by kernel_rfl
theorem zkA:XP prog 264 0=some (0,false,1):=by kernel_rfl
theorem zhH:XP prog 287 0=some (0,false,1):=by kernel_rfl
theorem UQ:XP prog 287 1=some (1,false,1):=by kernel_rfl
theorem zmG:XP prog 34 0=some (0,false,1):=by kernel_rfl
theorem zmb:XP prog 34 1=some (1,false,1):=by kernel_rfl
theorem zmy:XP prog 34 2=some (2,false,1):=by kernel_rfl
theorem zmd:XP prog 34 3=some (3,false,1):=by kernel_rfl
theorem ZU:XP prog 77 0=some (0,false,1):=by kernel_rfl
theorem Zw:XP prog 77 1=some (1,false,1):=by kernel_rfl
theorem Zz:XP prog 77 2=some (2,false,1):=by kernel_rfl
theorem uu:XP prog 89 0=some (0,false,1):=by kernel_rfl
theorem xn:XP prog 89 1=some (1,false,1):=by kernel_rfl
theorem xI:XP prog 94 0=some (0,false,1):=by kernel_rfl
theorem zg3 (v:Value) (w:World):(method (prog.types.size+Made.depth) 262 v "loop.example/packetfilter/impl.unfold").run prog w=.ok (279,v) w:=by kernel_rfl
theorem zjO (v:Value) (w:World):(method (prog.types.size+Made.depth) 262 v "loop.example/packetfilter/impl.walk").run prog w=.ok (280,v) w:=by kernel_rfl
theorem zex (v:Value) (w:World):(method (prog.types.size+Made.depth) 262 v "loop.example/packetfilter/impl.word").run prog w=.ok (281,v) w:=by kernel_rfl
theorem zhO (v:Value) (w:World):(method (prog.types.size+Made.depth) 264 v "loop.example/packetfilter/impl.unfold").run prog w=.ok (282,v) w:=by kernel_rfl
theorem zka (v:Value) (w:World):(method (prog.types.size+Made.depth) 264 v "loop.example/packetfilter/impl.walk").run prog w=.ok (283,v) w:=by kernel_rfl
theorem zeI (v:Value) (w:World):(method (prog.types.size+Made.depth) 264 v "loop.example/packetfilter/impl.word").run prog w=.ok (284,v) w:=by kernel_rfl
theorem zhe (v:Value) (w:World):(method (prog.types.size+Made.depth) 266 v "loop.example/packetfilter/impl.unfold").run prog w=.ok (285,v) w:=by kernel_rfl
theorem zjL (v:Value) (w:World):(method (prog.types.size+Made.depth) 266 v "loop.example/packetfilter/impl.walk").run prog w=.ok (286,v) w:=by kernel_rfl
theorem zeV (v:Value) (w:World):(method (prog.types.size+Made.depth) 266 v "loop.example/packetfilter/impl.word").run prog w=.ok (287,v) w:=by kernel_rfl
theorem zhs (v:Value) (w:World):(method (prog.types.size+Made.depth) 267 v "loop.example/packetfilter/impl.unfold").run prog w=.ok (288,v) w:=by kernel_rfl
theorem zjr (v:Value) (w:World):(method (prog.types.size+Made.depth) 267 v "loop.example/packetfilter/impl.walk").run prog w=.ok (289,v) w:=by kernel_rfl
theorem zev (v:Value) (w:World):(method (prog.types.size+Made.depth) 267 v "loop.example/packetfilter/impl.word").run prog w=.ok (290,v) w:=by kernel_rfl
theorem zn7:∀ v w,(Instr.makeInterface 262 v).run prog w=.ok (.iface 262 v) w:=fun v w=>by kernel_rfl
theorem zqU:∀ v w,(Instr.makeInterface 264 v).run prog w=.ok (.iface 264 v) w:=fun v w=>by kernel_rfl
theorem zqN:∀ v w,(Instr.makeInterface 266 v).run prog w=.ok (.iface 266 v) w:=fun v w=>by kernel_rfl
theorem zrj:∀ v w,(Instr.makeInterface 267 v).run prog w=.ok (.iface 267 v) w:=fun v w=>by kernel_rfl
theorem zst:∀ v w,(Instr.makeInterface 9 v).run prog w=.ok (.iface 9 v) w:=fun v w=>by kernel_rfl
theorem Vx:tyB prog 101=some (true,2):=by kernel_rfl
theorem jZ:tyB prog 137=some (true,4):=by kernel_rfl
theorem zh2:tyB prog 146=some (true,5):=by kernel_rfl
theorem zoz:tyB prog 152=some (true,4):=by kernel_rfl
theorem zcy:tyB prog 154=some (false,1):=by kernel_rfl
theorem zkG:tyB prog 155=some (false,1):=by kernel_rfl
theorem uL:tyB prog 165=some (true,4):=by kernel_rfl
theorem zsf:tyB prog 203=some (true,5):=by kernel_rfl
theorem zk0:tyB prog 22=some (false,1):=by kernel_rfl
theorem yX:tyB prog 23=some (false,1):=by kernel_rfl
theorem uO:tyB prog 25=some (true,2):=by kernel_rfl
theorem zrR:tyB prog 287=some (true,2):=by kernel_rfl
theorem ty3:tyB prog 3=some (false,1):=by kernel_rfl
theorem zlc:tyB prog 30=some (false,1):=by kernel_rfl
theorem zbO:tyB prog 34=some (true,4):=by kernel_rfl
theorem ty4:tyB prog 4=some (false,1):=by kernel_rfl
theorem Xq:tyB prog 47=some (false,1):=by kernel_rfl
theorem ty5:tyB prog 5=some (false,1):=by kernel_rfl
theorem zcj:tyB prog 75=some (false,1):=by kernel_rfl
theorem uP:tyB prog 77=some (true,3):=by kernel_rfl
theorem zni:tyB prog 79=some (false,1):=by kernel_rfl
theorem zge:tyB prog 82=some (false,1):=by kernel_rfl
theorem Vb:tyB prog 89=some (true,2):=by kernel_rfl
theorem ty9:tyB prog 9=some (false,1):=by kernel_rfl
theorem xW:tyB prog 90=some (false,1):=by kernel_rfl
theorem Xz:tyB prog 92=some (false,1):=by kernel_rfl
theorem xX:tyB prog 94=some (true,1):=by kernel_rfl
theorem zqj:prog.underlying 22=some (.slice 5):=by kernel_rfl
theorem xo:prog.underlying 3=some (.int .i64):=by kernel_rfl
theorem zkN:prog.underlying 4=some .bool:=by kernel_rfl
theorem zg9:prog.underlying 5=some (.int .u8):=by kernel_rfl
theorem zsh:prog.underlying 79=some (.slice 146):=by kernel_rfl
theorem X6:prog.underlying 9=some .string:=by kernel_rfl
theorem xi:uR prog 101=some [(.slice none 0 0),(.bool false)]:=by kernel_rfl
theorem zqa:uR prog 128=some [(.int .i64 0),(.slice none 0 0),(.bool false)]:=by kernel_rfl
theorem un:uR prog 137=some [(.slice none 0 0),(.slice none 0 0),(.slice none 0 0),(.slice none 0 0)]:=by kernel_rfl
theorem XW:uR prog 146=some [(.slice none 0 0),(.slice none 0 0),(.slice none 0 0),(.slice none 0 0),(.bool false)]:=by kernel_rfl
theorem zmS:uR prog 152=some [(.int .i64 0),(.int .i64 0),(.int .i64 0),(.int .i64 0)]:=by kernel_rfl
theorem xY:uR prog 165=some [(.int .i64 0),(.int .i64 0),(.int .i64 0),(.bool false)]:=by kernel_rfl
theorem zp1:uR prog 203=some [(.bool false),(.bool false),(.bool false),(.bool false),(.bool false)]:=by kernel_rfl
theorem zpN:uR prog 204=some [(.int .i64 0),(.int .i64 0),(.int .i64 0),(.int .i64 0),(.int .i64 0)]:=by kernel_rfl
theorem zgP:uR prog 208=some [(.int .i64 0),(.int .i64 0)]:=by kernel_rfl
theorem zgD:uR prog 212=some [(.int .i64 0),(.int .i64 0)]:=by kernel_rfl
theorem Vc:uR prog 25=some [(.slice none 0 0),(.bool false)]:=by kernel_rfl
theorem zpA:uR prog 287=some [(.string (ByteArray.mk #[])),(.int .i64 0)]:=by kernel_rfl
theorem YP:uR prog 3=some [(.int .i64 0)]:=by kernel_rfl
theorem zrd:uR prog 30=some [(.slice none 0 0)]:=by kernel_rfl
theorem zfE:uR prog 34=some [(.int .i64 0),(.int .i64 0),(.int .i64 0),(.int .i64 0)]:=by kernel_rfl
theorem zqt:uR prog 4=some [(.bool false)]:=by kernel_rfl
theorem VQ:uR prog 47=some [(.slice none 0 0)]:=by kernel_rfl
theorem zqm:uR prog 5=some [(.int .u8 0)]:=by kernel_rfl
theorem xd:uR prog 77=some [(.slice none 0 0),(.int .i64 0),(.int .i64 0)]:=by kernel_rfl
theorem zfT:uR prog 82=some [(.slice none 0 0)]:=by kernel_rfl
theorem xr:uR prog 89=some [(.int .i64 0),(.int .i64 0)]:=by kernel_rfl
theorem XG:uR prog 9=some [(.string (ByteArray.mk #[]))]:=by kernel_rfl
theorem zaZ:uR prog 90=some [(.slice none 0 0)]:=by kernel_rfl
theorem xN:uR prog 94=some [(.slice none 0 0)]:=by kernel_rfl
theorem mixed:prog.follows .mixedOrders=true:=by kernel_rfl
theorem zhq {v1:Value} {code_0:(List UInt8)} {O:((List UInt8)×Int)->Prop} (hF:Fr [] F w0) (hv1:Sl zbn F w0 v1 code_0) (h:VJ code_0 O) :
  Cl prog 50 #[v1] w0 [] F O (fun r (u:Nat×Value)=>.pointer (some ⟨u.1,0,none⟩)) (fun r u=>[zc u.1 [u.2,(I r.2)] 131,xB zbn u.2 r.1]):=by
 refine eS hF func50 ntmps50 h ?_;let JJ:=Jn 11 [] F w0;refine y0<|ma<|y1<|zM (fun xs68 a w=>∃ v67,JJ [(0,v67)] [xB zbn v67 xs68] a w) ?_ ?_
 ·intro k71;refine y0<|mv<|zF st zd3 0 (zb hv1)<|ug st<|y1<|zg ?_ ?_
  ·exact zn<|mv<|jR 0 rfl hv1<|stw (Yn (I:=0) (J:=2000) 0 zd3<|fun v3 xs4=>ma<|zt<|zN xs4 (jE v3 [0]))
  exact ju<|zN code_0 (fun a w hE hm=>⟨v1,hE.sub g1,(hm.snote 0 rfl hv1).pick [0] rfl⟩)
 rintro xs68;refine nxe<|fun v67=>y0<|mv<|XS 0 rfl ?_;rintro a72 l73 q74 rfl;exact jo st (cells:=[.slice a72 l73 q74,I 0]) bz zrp<|stw (jV [.slice a72 l73 q74,I 0]<|fun b75=>ma<|y3<|e1t results50 (xs68,0) (b75,.slice a72 l73 q74) [0,1])
theorem zC {b1:Nat} {v2:Value} {r_0_b:(List UInt8)} {r_0_p n_1:Int} {O:(Int×Int)->Prop} (hF:Fr [zc b1 [v2,(I r_0_p)] 131] F w0) (hg:xz [zc b1 [v2,(I r_0_p)] 131] F w0) (hv2:Sl zbn F w0 v2 r_0_b) (h:zw r_0_b r_0_p n_1 O) :
  Cl prog 52 #[(pp b1),(I n_1)] w0 [zc b1 [v2,(I r_0_p)] 131] F O (fun r (u:Unit)=>(I r.1)) (fun r u=>[zc b1 [v2,(I r.2)] 131]):=by
 refine yO (args:=[pp b1,I n_1]) [zc b1 [v2,I r_0_p] 131] hF hg func52 rfl ntmps52 rfl h ?_;let JJ:=Jn 99 [zc b1 [v2,I r_0_p] 131] F w0;refine y0<|ma<|y2<|mv<|mv<|jB st ?_;refine zfl st st zih 0 ty3<|zO st<|fun t5=>jB st<|jD st zih ?_;refine stw (zH (cs':=[v2,I t5]) 0 ty3<|y9<|zM (fun t66=>JJ [(0,pp b1),(1,I n_1),(24,.bool t66)] [zc b1 [v2,I t5] 131,zl w0 F]) ?_ ?_)
 ·intro k67;refine zn<|mv<|zX st<|mv ?_;refine jF (dj:=17) rfl ?_ ?_
  ·refine ss ?_;refine ss ?_;refine ss ?_;refine ss ?_;refine ss ?_;refine ss ?_;exact zK st<|zt<|lj [0,1]
  refine zp sg<|jB sg ?_;refine zfl sg sg zaj 0 zk0<|zF sg zd3 1 (zb hv2)<|js sg xo ?_;exact zD st<|zt<|lj [0,1]
 rintro t66;refine nxj<|zg ?_ ?_
 ·exact y0<|ma<|y6<|e1t results52 (0,t5) () [0]
 refine y8<|mv<|jB st ?_;refine zfl st st zih 0 ty3<|Zb st<|fun t68=>ma<|y4<|mv<|mv<|jB st ?_;refine zfl st st zaj 0 zk0<|zF st zd3 1 (zb hv2)<|zX st<|y1<|zg ?_ ?_
 ·refine y0<|mv<|jB st ?_;exact zfl st st zaj 0 zk0<|mv<|zz st 1 (zb hv2) zd3<|fun e69 h70=>jb st (enc:=zcQ) (u:=(.int .u8 (e69.toNat:Int))) 1 (zb hv2) zcp h70 ty5<|zjX st zg9 xo<|mv<|V4 st<|fun t71=>ma<|y6<|e1t results52 (t71,t5) () [0]
 refine ju (zT (jw ?_));refine xA mixed 46 rfl [zc b1 [v2,I t5] 131,zl w0 F]<|zp (dI 0)<|jB (dI 1) ?_;refine zfl (dI 2) (dI 3) zaj 0 zk0<|zp (dI 4)<|zp (dI 5)<|jB (dI 6) ?_;refine zfl (dI 7) (dI 8) zaj 0 zk0<|zF (dI 9) zd3 1 (zb hv2)<|V4 (dI 10)<|fun t72=>zz (dI 11) 1 (zb hv2) zd3<|fun e73 h74=>jb (dI 12) (enc:=zcQ) (u:=(.int .u8 (e73.toNat:Int))) 1 (zb hv2) zcp h74 ty5<|zjX (dI 13) zg9 xo<|zdW (dI 14)<|fun t75=>zp (dI 15)<|jB (dI 16) ?_;refine zfl (dI 17) (dI 18) zaj 0 zk0<|zp (dI 19)<|zdW (dI 20)<|fun t76=>zO (dI 21)<|fun t77=>zp (dI 22)<|jB (dI 23) ?_;refine zfl (dI 24) (dI 25) zaj 0 zk0<|zF (dI 26) zd3 1 (zb hv2)<|V4 (dI 27)<|fun t78=>zz (dI 28) 1 (zb hv2) zd3<|fun e79 h80=>jb (dI 29) (enc:=zcQ) (u:=(.int .u8 (e79.toNat:Int))) 1 (zb hv2) zcp h80 ty5<|zjX (dI 30) zg9 xo<|zdW (dI 31)<|fun t81=>zO (dI 32)<|fun t82=>zp (dI 33)<|zdW (dI 34)<|fun t83=>zO (dI 35)<|fun t84=>zp (dI 36)<|zp (dI 37)<|jB (dI 38) ?_;refine zfl (dI 39) (dI 40) zaj 0 zk0<|zF (dI 41) zd3 1 (zb hv2)<|zjJ (dI 42)<|fun t85=>zdW (dI 43)<|fun t86=>zO (dI 44)<|fun t87=>jU (dI 45)<|zY<|zT (jw (zn ?_));exact mv<|mv<|zjJ st<|fun t88=>zq1 st<|fun t89=>ma<|y2<|mv<|mv<|V4 st<|fun t90=>ma<|y3<|e1t results52 (t90,t5) () [0]
theorem yA {b1:Nat} {v2:Value} {r_0_b:(List UInt8)} {r_0_p n_1:Int} {O:(Bool×Int)->Prop} (hF:Fr [zc b1 [v2,(I r_0_p)] 131] F w0) (hg:xz [zc b1 [v2,(I r_0_p)] 131] F w0) (hv2:Sl zbn F w0 v2 r_0_b) (h:jH r_0_b r_0_p n_1 O) :
  Cl prog 97 #[(pp b1),(I n_1)] w0 [zc b1 [v2,(I r_0_p)] 131] F O (fun r (u:Unit)=>(.bool r.1)) (fun r u=>[zc b1 [v2,(I r.2)] 131]):=by
 refine yO (args:=[pp b1,I n_1]) [zc b1 [v2,I r_0_p] 131] hF hg func97 rfl ntmps97 rfl h ?_;let JJ:=Jn 15 [zc b1 [v2,I r_0_p] 131] F w0;refine y0<|ma<|y1<|zM (fun (t68,t69)=>JJ [(4,.bool t69)] [zc b1 [v2,I t68] 131,zl w0 F]) ?_ ?_
 ·intro k70;refine zn<|mv<|ug st<|mv ?_;refine jF (dj:=7) rfl ?_ ?_
  ·refine zp sg<|zp sg<|X0 rfl rfl (zP (M0:=[zc b1 [v2,I r_0_p] 131]) call52 (fun w m h=>rfc (zC zj m.given (m.qM 0 hv2) h)) ?_);rintro ⟨r5,r6⟩ _;refine zp sg<|Zb sg<|fun t7=>js sg xo ?_;exact zK st<|ma<|zt<|lj [0,1]
  refine ss ?_;refine ss ?_;refine ss ?_;refine ss ?_;refine ss ?_;refine ss ?_;exact zD st<|ma<|zt<|lj [0,1]
 rintro ⟨t68,t69⟩;exact nxj<|uq<|e1t results97 (t69,t68) () [0]
theorem yu {n_0:Int} {O:Int->Prop} (hF:Fr [] F w0) (h:uC n_0 O) :
  Cl prog 119 #[(I n_0)] w0 [] F O (fun r (u:Unit)=>(I r)) (fun r u=>[]):=by
 refine yo (args:=[I n_0]) [] hF (xz.nil _ _) func119 rfl ntmps119 rfl h ?_;let JJ:=Jn 11 [] F w0;refine y0<|ma<|y4<|mv<|y5<|zM (fun t61=>JJ [(3,I n_0),(4,.bool t61)] []) ?_ ?_
 ·intro k62;refine y0<|js st xo<|ma<|y1<|zg ?_ ?_
  ·exact ju<|lj []
  exact zn<|js st xo<|ma<|zt<|lj []
 rintro t61;refine nxj<|zg ?_ ?_
 ·exact y0<|ma<|y24<|lu results119
 refine y0<|js st xo<|ma<|y1<|zg ?_ ?_
 ·exact y0<|ma<|y24<|lu results119
 refine y0<|js st xo<|ma<|y1<|zg ?_ ?_
 ·exact y0<|ma<|y24<|lu results119
 refine ju (uU (zT (jw (zn ?_))));exact ma<|y3<|lu results119
theorem zgT {b1:Nat} {v2:Value} {r_0_b:(List UInt8)} {r_0_p p1 p2:Int} {O:(zk×Int)->Prop} (hF:Fr [zc b1 [v2,(I r_0_p)] 131] F w0) (hg:xz [zc b1 [v2,(I r_0_p)] 131] F w0) (hv2:Sl zbn F w0 v2 r_0_b) (h:X1 r_0_b r_0_p p1 p2 O) :
  Cl prog 195 #[(pp b1),(I p1),(I p2)] w0 [zc b1 [v2,(I r_0_p)] 131] F O (fun r (u:Unit)=>(.agg #[(I r.1.xLo),(I r.1.xHi)])) (fun r u=>[zc b1 [v2,(I r.2)] 131]):=by
 refine yO (args:=[pp b1,I p1,I p2]) [zc b1 [v2,I r_0_p] 131] hF hg func195 rfl ntmps195 rfl h ?_;let JJ:=Jn 68 [zc b1 [v2,I r_0_p] 131] F w0;refine y0<|stw (zS [I 0,I 0] xr<|fun b5=>y2<|mv<|mv<|zO st<|fun t7=>zav st<|pk' [1,0,2]<|stw (zP (M0:=[zc b1 [v2,I r_0_p] 131]) call52 (fun w m h=>rfc (zC zj m.given (m.qM 1 hv2) h)) ?_));rintro ⟨r8,r9⟩ _;refine jo st (cells:=[I r8,I 0]) bz Z4<|stw (zS [I 0,I 0] xr<|fun b10=>stw (zH (cs':=[I r8,I 0]) 0 Vb<|y1<|zM (fun (t144,t145)=>JJ [(0,pp b1),(1,I p1),(2,I p2),(6,pp b5),(7,pp b10)] [zc b1 [v2,I t144] 131,zc b10 [I t145,I 0] 89,zc b5 [I 0,I 0] 89,zl w0 F]) ?_ ?_))
 ·intro k146;refine zM (fun (t74,t75)=>JJ [(0,pp b1),(1,I p1),(2,I p2),(6,pp b5),(7,pp b10),(20,.bool t75)] [zc b1 [v2,I t74] 131,zc b10 [I r8,I 0] 89,zc b5 [I 0,I 0] 89,zl w0 F]) ?_ ?_
  ·intro k76;refine zn<|mv<|ug st<|mv ?_;refine jF (dj:=16) rfl ?_ ?_
   ·refine zp sg<|pk' [1,0,2,3]<|X0 rfl rfl (zP (M0:=[zc b1 [v2,I r9] 131]) call52 (fun w m h=>rfc (zC zj m.given (m.qM 2 hv2) h)) ?_);rintro ⟨r12,r13⟩ _;refine js sg xo ?_;exact zK st<|zt<|lj [0,1,2,3]
   refine ss ?_;refine ss ?_;refine ss ?_;exact zD st<|zt<|lj [1,0,2,3]
  rintro ⟨t74,t75⟩;refine nxj<|zg ?_ ?_
  ·refine XI (fun (t77,t78)=>JJ [(0,pp b1),(1,I p1),(2,I p2),(6,pp b5),(7,pp b10)] [zc b1 [v2,I t77] 131,zc b10 [I t78,I 0] 89,zc b5 [I 0,I 0] 89,zl w0 F]) ?_ ?_
   ·intro k79;refine uJ mixed 10 rfl [zc b5 [I 0,I 0] 89,zl w0 F]<|fun Qd hP hQ=>zp (dp 0 [2,3])<|jD (dp 1 [2,3]) uu<|zp (dp 4 [2,3])<|dtw 2 5 rfl rfl ?_ ?_
    ·refine zL jO (v:=(I r8)) 1 ty3<|da [2,3]<|pk' [0,1,2,3]<|zmE (dp 3 [2,3])<|d1 5 rfl (zP (M0:=[zc b1 [v2,I t74] 131]) call52 (fun w m h=>rfc (zC zj m.given (m.qM 2 hv2) h)) ?_);rintro ⟨r80,r81⟩ _;refine da [2,3]<|pk' [0,1,2,3]<|UW (dp 6 [2,3])<|zav (dp 7 [2,3])<|jD (dp 8 [2,3]) uu ?_;refine d1 9 rfl (zH (cs':=[I (min p1 (w64 ((w64 (r8 * 256))+r80))),I 0]) 1 ty3 ?_);exact da [2,3]<|pk' [0,1,2,3]<|dj hQ [0,1,2,3]
    refine zP (vs:=[pp b1,I 256]) (M0:=[zc b1 [v2,I t74] 131]) call52 (fun w m h=>rfc (zC zj m.given (m.qM 2 hv2) h)) ?_;rintro ⟨r82,r83⟩ _;refine da [2,3]<|pk' [0,1,2,3]<|d1 2 rfl (zL jO (v:=(I r8)) 1 ty3 ?_);refine da [2,3]<|pk' [0,1,2,3]<|zmE (dp 3 [2,3])<|UW (dp 6 [2,3])<|zav (dp 7 [2,3])<|jD (dp 8 [2,3]) uu ?_;refine d1 9 rfl (zH (cs':=[I (min p1 (w64 ((w64 (r8 * 256))+r82))),I 0]) 1 ty3 ?_);exact da [2,3]<|pk' [0,1,2,3]<|dj hQ [0,1,2,3]
   rintro ⟨t77,t78⟩;exact nxj<|lj [0,1,2,3]
  exact ju<|lj [0,1,2,3]
 rintro ⟨t144,t145⟩;refine nxj<|zM (fun (t147,t148)=>JJ [(0,pp b1),(1,I p1),(2,I p2),(6,pp b5),(7,pp b10)] [zc b1 [v2,I t147] 131,zc b10 [I t145,I t148] 89,zc b5 [I 0,I 0] 89,zl w0 F]) ?_ ?_
 ·intro k149;refine uJ mixed 16 rfl [zc b5 [I 0,I 0] 89,zl w0 F]<|fun Qd hP hQ=>?_;let NN:=fun i l E L=>Nn 68 [zc b1 [v2,I r_0_p] 131] F w0 prog (Vm f195 [1,1,1,0]) Qd [zc b5 [I 0,I 0] 89,zl w0 F] i l ([(0,pp b1),(1,I p1),(2,I p2),(6,pp b5),(7,pp b10),(30,I p1)]++E) (L++[zc b10 [I t145,I 0] 89,zc b5 [I 0,I 0] 89,zl w0 F]);have H60 (r150 r151 r152 r153:Int) (v154:Value) (r155 r156:Int):NN 6 #[Y,Y,Y,Y,Y,Y,Y,Y,Y,Y,Z,Z,Z,Z,Z,Z] [(32,I t145),(37,v154),(39,I r155)] [zc b1 [v2,I r156] 131,zf xT 3 v154 ([0,r150,r152,4096])] (zE ([0,r150,r152,4096]) r155 (fun e157=>k149 (r156,min p1 (w64 (t145+e157))))):=by
   refine d1 10 rfl (zz jO 1 ze Zr ?_);intro e157 h158;refine da [3,4]<|pk' [0,1,2,3,4]<|d1 11 rfl (jb jO (enc:=xy) (u:=(I e157)) 1 ze jA h158 ty3 ?_);refine da [3,4]<|pk' [0,2,3,4]<|UW (dp 12 [2,3])<|zav (dp 13 [2,3])<|jD (dp 14 [2,3]) xn ?_;refine d1 15 rfl (zH (cs':=[I t145,I (min p1 (w64 (t145+e157)))]) 1 ty3 ?_);exact da [2,3]<|pk' [0,1,2,3]<|dj hQ [0,1,2,3]
  have H63 (r150 r151 r152 r153:Int):NN 8 #[Y,Y,Y,Y,Y,Y,Y,Z,Y,Z,Z,Z,Z,Z,Z,Z] [(38,pp b1),(32,I t145),(34,I r150),(36,I r152)] [zc b1 [v2,I r153] 131] (zw r_0_b r153 4 (fun (r155,r156)=>zE ([0,r150,r152,4096]) r155 (fun e157=>k149 (r156,min p1 (w64 (t145+e157)))))):=by
   refine dtw 7 9 rfl rfl ?_ ?_
   ·refine jv (enc:=xy) (cells:=[I 0,I r150,I r152,I 4096]) ([0,r150,r152,4096]) jA bz Zr YP<|fun v154=>da [3,4]<|pk' [0,1,2,3,4]<|pk' [1,0,2,3,4]<|d1 9 rfl (zP (M0:=[zc b1 [v2,I r153] 131]) call52 (fun w m h=>rfc (zC zj m.given (m.qM 3 hv2) h)) ?_);rintro ⟨r155,r156⟩ _;exact rd [3,4] [0,1,2,3,4] (H60 r150 r151 r152 r153 v154 r155 r156)
   refine zP (vs:=[pp b1,I 4]) (M0:=[zc b1 [v2,I r153] 131]) call52 (fun w m h=>rfc (zC zj m.given (m.qM 2 hv2) h)) ?_;rintro ⟨r159,r160⟩ _;refine da [2,3]<|pk' [0,1,2,3]<|d1 7 rfl (jv (enc:=xy) (cells:=[I 0,I r150,I r152,I 4096]) ([0,r150,r152,4096]) jA bz Zr YP ?_);intro v161;exact rd [3,4] [1,0,2,3,4] (H60 r150 r151 r152 r153 v161 r159 r160)
  have H68 (r162 r163 r164 r165:Int) (v166:Value) (r167 r168:Int):NN 7 #[Y,Y,Z,Y,Y,Y,Y,Y,Y,Y,Z,Z,Z,Z,Z,Z] [(31,pp b10),(37,v166),(39,I r167)] [zc b1 [v2,I r168] 131,zf xT 3 v166 ([0,r162,r164,4096])] (zE ([0,r162,r164,4096]) r167 (fun e157=>k149 (r168,min p1 (w64 (t145+e157))))):=by
   refine dtw 2 10 rfl rfl ?_ ?_
   ·exact zL jO (v:=(I t145)) 2 ty3<|rd [3,4] [0,1,2,3,4] (H60 r162 r163 r164 r165 v166 r167 r168)
   refine zz jO 1 ze Zr<|fun e169 h170=>da [3,4]<|pk' [0,1,2,3,4]<|dtw 2 11 rfl rfl ?_ ?_
   ·refine zL jO (v:=(I t145)) 2 ty3<|da [3,4]<|pk' [0,1,2,3,4]<|d1 11 rfl (jb jO (enc:=xy) (u:=(I e169)) 1 ze jA h170 ty3 ?_);refine da [3,4]<|pk' [0,2,3,4]<|UW (dp 12 [2,3])<|zav (dp 13 [2,3])<|jD (dp 14 [2,3]) xn ?_;refine d1 15 rfl (zH (cs':=[I t145,I (min p1 (w64 (t145+e169)))]) 1 ty3 ?_);exact da [2,3]<|pk' [0,1,2,3]<|dj hQ [0,1,2,3]
   refine jb jO (enc:=xy) (u:=(I e169)) 1 ze jA h170 ty3<|da [3,4]<|pk' [0,2,3,4]<|d1 2 rfl (zL jO (v:=(I t145)) 1 ty3 ?_);refine da [2,3]<|pk' [0,1,2,3]<|UW (dp 12 [2,3])<|zav (dp 13 [2,3])<|jD (dp 14 [2,3]) xn ?_;refine d1 15 rfl (zH (cs':=[I t145,I (min p1 (w64 (t145+e169)))]) 1 ty3 ?_);exact da [2,3]<|pk' [0,1,2,3]<|dj hQ [0,1,2,3]
  refine zp (dp 0 [2,3])<|jD (dp 1 [2,3]) uu<|zp (dp 3 [2,3])<|zp (dp 5 [2,3])<|zp (dp 8 [2,3])<|dtw 2 4 rfl rfl ?_ ?_
  ·refine zL jO (v:=(I t145)) 1 ty3<|da [2,3]<|pk' [0,1,2,3]<|d1 4 rfl (zP (M0:=[zc b1 [v2,I t144] 131]) call52 (fun w m h=>rfc (zC zj m.given (m.qM 2 hv2) h)) ?_);rintro ⟨r150,r151⟩ _;refine da [2,3]<|pk' [0,1,2,3]<|d1 6 rfl (zP (M0:=[zc b1 [v2,I r151] 131]) call52 (fun w m h=>rfc (zC zj m.given (m.qM 2 hv2) h)) ?_);rintro ⟨r152,r153⟩ _;exact rd [2,3] [0,1,2,3] (H63 r150 r151 r152 r153)
  refine zP (vs:=[pp b1,I 4]) (M0:=[zc b1 [v2,I t144] 131]) call52 (fun w m h=>rfc (zC zj m.given (m.qM 2 hv2) h)) ?_;rintro ⟨r162,r163⟩ _;refine da [2,3]<|pk' [0,1,2,3]<|dtw 2 6 rfl rfl ?_ ?_
  ·refine zL jO (v:=(I t145)) 1 ty3<|da [2,3]<|pk' [0,1,2,3]<|d1 6 rfl (zP (M0:=[zc b1 [v2,I r163] 131]) call52 (fun w m h=>rfc (zC zj m.given (m.qM 2 hv2) h)) ?_);rintro ⟨r152,r153⟩ _;exact rd [2,3] [0,1,2,3] (H63 r162 r163 r152 r153)
  refine zP (vs:=[pp b1,I 256]) (M0:=[zc b1 [v2,I r163] 131]) call52 (fun w m h=>rfc (zC zj m.given (m.qM 2 hv2) h)) ?_;rintro ⟨r164,r165⟩ _;refine da [2,3]<|pk' [0,1,2,3]<|Uv (i:=2) (j:=7) (l:=9) rfl rfl rfl (by kernel_rfl) ?_ ?_ ?_
  ·intro o ho;cases ho;exact zL jO (v:=(I t145)) 1 ty3<|rd [2,3] [0,1,2,3] (H63 r162 r163 r164 r165)
  ·intro o ho;cases ho;refine jv (enc:=xy) (cells:=[I 0,I r162,I r164,I 4096]) ([0,r162,r164,4096]) jA bz Zr YP<|fun v166=>da [3,4]<|pk' [0,1,2,3,4]<|dtw 2 9 rfl rfl ?_ ?_
   ·refine zL jO (v:=(I t145)) 2 ty3<|da [3,4]<|pk' [0,1,2,3,4]<|pk' [1,0,2,3,4]<|d1 9 rfl (zP (M0:=[zc b1 [v2,I r165] 131]) call52 (fun w m h=>rfc (zC zj m.given (m.qM 3 hv2) h)) ?_);rintro ⟨r155,r156⟩ _;exact rd [3,4] [0,1,2,3,4] (H60 r162 r163 r164 r165 v166 r155 r156)
   refine pk' [1,0,2,3,4]<|zP (vs:=[pp b1,I 4]) (M0:=[zc b1 [v2,I r165] 131]) call52 (fun w m h=>rfc (zC zj m.given (m.qM 3 hv2) h)) ?_;rintro ⟨r167,r168⟩ _;exact rd [3,4] [0,1,2,3,4] (H68 r162 r163 r164 r165 v166 r167 r168)
  intro o ho;cases ho;refine zP (vs:=[pp b1,I 4]) (M0:=[zc b1 [v2,I r165] 131]) call52 (fun w m h=>rfc (zC zj m.given (m.qM 2 hv2) h)) ?_;rintro ⟨r171,r172⟩ _;refine da [2,3]<|pk' [0,1,2,3]<|dtw 2 7 rfl rfl ?_ ?_
  ·refine zL jO (v:=(I t145)) 1 ty3<|da [2,3]<|pk' [0,1,2,3]<|d1 7 rfl (jv (enc:=xy) (cells:=[I 0,I r162,I r164,I 4096]) ([0,r162,r164,4096]) jA bz Zr YP ?_);intro v161;exact rd [3,4] [1,0,2,3,4] (H60 r162 r163 r164 r165 v161 r171 r172)
  exact jv (enc:=xy) (cells:=[I 0,I r162,I r164,I 4096]) ([0,r162,r164,4096]) jA bz Zr YP<|fun v173=>rd [3,4] [1,0,2,3,4] (H68 r162 r163 r164 r165 v173 r171 r172)
 rintro ⟨t147,t148⟩;refine nxj<|y10<|mv<|mv<|stw (zP (M0:=[zc b1 [v2,I t147] 131]) call97 (fun w m h=>rfc (yA zj m.given (m.qM 2 hv2) h)) ?_);rintro ⟨r174,r175⟩ _;refine y1<|zg ?_ ?_
 ·refine zM (fun (t176,t177,t178)=>JJ [(6,pp b5)] [zc b1 [v2,I t176] 131,zc b5 [I t177,I t178] 89,zl w0 F]) ?_ ?_
  ·intro k179;refine uJ mixed 20 rfl [zc b10 [I t145,I t148] 89,zl w0 F]<|fun Qd hP hQ=>?_;let NN:=Nn 68 [zc b1 [v2,I r_0_p] 131] F w0 prog (Vm f195 [1,1,1,1,0,1,0,0]) Qd [zc b10 [I t145,I t148] 89,zl w0 F];have H84 (v180:Value) (r181 r182:Int):NN 3 #[Y,Y,Y,Y,Y,Y,Y,Y,Y,Y,Y,Y,Y,Y,Y,Y,Y,Z,Z,Z] [(6,pp b5),(62,v180),(64,I r181)] [zc b1 [v2,I r182] 131,zf zd 89 v180 ([zk.mk (w64 (t148+1)) t148,zk.mk (-1) t148,zk.mk t145 (w64 (p1+1))]),zc b10 [I t145,I t148] 89,zc b5 [I 0,I 0] 89,zl w0 F] (zE ([zk.mk (w64 (t148+1)) t148,zk.mk (-1) t148,zk.mk t145 (w64 (p1+1))]) r181 (fun e183=>k179 (r182,e183.xLo,e183.xHi))):=by
    refine d1 17 rfl (zz jO 1 ze jJ ?_);intro e183 h184;refine da [2,4]<|pk' [0,1,2,3,4]<|d1 18 rfl (jb jO (enc:=zR) (u:=(.agg #[I e183.xLo,I e183.xHi])) 1 ze zx h184 Vb ?_);refine da [2,4]<|pk' [0,2,3,4]<|d1 19 rfl (zH (cs':=[I e183.xLo,I e183.xHi]) 2 Vb ?_);exact da [1,3]<|pk' [0,1,2,3]<|dj hQ [0,2,3]
   refine zfl (dp 0 [1,3]) (dp 1 [1,3]) xn 0 ty3<|UW (dp 2 [1,3])<|zfl (dp 3 [1,3]) (dp 4 [1,3]) xn 0 ty3 ?_;refine jo (dp 5 [1,3]) (cells:=[I (w64 (t148+1)),I t148]) bz Z4<|zfl (dp 6 [1,3]) (dp 7 [1,3]) xn 0 ty3 ?_;refine jo (dp 8 [1,3]) (cells:=[I (-1),I t148]) bz Z4<|zfl (dp 9 [1,3]) (dp 10 [1,3]) uu 0 ty3<|zp (dp 11 [1,3])<|UW (dp 12 [1,3]) ?_;refine jo (dp 13 [1,3]) (cells:=[I t145,I (w64 (p1+1))]) bz Z4<|zp (dp 15 [1,3])<|dtw 14 16 rfl rfl ?_ ?_
   ·refine jv (enc:=zR) (cells:=[I (w64 (t148+1)),I t148,I (-1),I t148,I t145,I (w64 (p1+1))]) ([zk.mk (w64 (t148+1)) t148,zk.mk (-1) t148,zk.mk t145 (w64 (p1+1))]) zx bz jJ xr<|fun v180=>da [2,4]<|pk' [0,1,2,3,4]<|pk' [1,0,2,3,4]<|d1 16 rfl (zP (M0:=[zc b1 [v2,I r175] 131]) call52 (fun w m h=>rfc (zC zj m.given (m.qM 3 hv2) h)) ?_);rintro ⟨r181,r182⟩ _;exact rd [2,4] [0,1,2,3,4] (H84 v180 r181 r182)
   refine zP (vs:=[pp b1,I 3]) (M0:=[zc b1 [v2,I r175] 131]) call52 (fun w m h=>rfc (zC zj m.given (m.qM 2 hv2) h)) ?_;rintro ⟨r185,r186⟩ _;refine da [1,3]<|pk' [0,1,2,3]<|d1 14 rfl (jv (enc:=zR) (cells:=[I (w64 (t148+1)),I t148,I (-1),I t148,I t145,I (w64 (p1+1))]) ([zk.mk (w64 (t148+1)) t148,zk.mk (-1) t148,zk.mk t145 (w64 (p1+1))]) zx bz jJ xr ?_);intro v187;exact rd [2,4] [1,0,2,3,4] (H84 v187 r185 r186)
  rintro ⟨t176,t177,t178⟩;refine nxj<|uq (xq ?_);exact Zd results195 (zk.mk t177 t178,t176) () (uX 1 rfl rfl Vb rfl) (nch [0])
 refine y8<|zL st 1 Vb ?_;exact stw (zH (cs':=[I t145,I t148]) 2 Vb<|y3<|Zd results195 (zk.mk t145 t148,r175) () (uX 2 rfl rfl Vb rfl) (nch [0]))
theorem zc5 {b1:Nat} {v2:Value} {r_0_b:(List UInt8)} {r_0_p n_1:Int} {O:(zI×Int)->Prop} (hF:Fr [zc b1 [v2,(I r_0_p)] 131] F w0) (hg:xz [zc b1 [v2,(I r_0_p)] 131] F w0) (hv2:Sl zbn F w0 v2 r_0_b) (h:Xd r_0_b r_0_p n_1 O) :
  Cl prog 152 #[(pp b1),(I n_1)] w0 [zc b1 [v2,(I r_0_p)] 131] F O (fun r (u:Unit)=>(.agg #[(I r.1.xField),(I r.1.xLo),(I r.1.xHi),(.bool r.1.xNot)])) (fun r u=>[zc b1 [v2,(I r.2)] 131]):=by
 refine yO (args:=[pp b1,I n_1]) [zc b1 [v2,I r_0_p] 131] hF hg func152 rfl ntmps152 rfl h ?_;let JJ:=Jn 83 [zc b1 [v2,I r_0_p] 131] F w0;refine y0<|stw (zS [I 0,I 0,I 0,.bool false] xY<|fun b5=>y2<|mv<|pk' [1,0,2]<|stw (zP (M0:=[zc b1 [v2,I r_0_p] 131]) call52 (fun w m h=>rfc (zC zj m.given (m.qM 1 hv2) h)) ?_));rintro ⟨r7,r8⟩ _;refine mv<|stw (zP (M0:=[zc b1 [v2,I r8] 131]) call52 (fun w m h=>rfc (zC zj m.given (m.qM 1 hv2) h)) ?_);rintro ⟨r9,r10⟩ _;refine js st xo<|jo st (cells:=[I r7,I 0,I 0,.bool (decide (r9=0))]) bz zbJ<|stw (zS [I 0,I 0,I 0,.bool false] xY<|fun b11=>stw (zH (cs':=[I r7,I 0,I 0,.bool (decide (r9=0))]) 0 uL<|y2<|zfl st st yL 0 ty3<|stw (zh call119 (fun w m h=>rf0 (yu zj h))<|fun r13 _=>ma<|y2<|mv<|mv<|pk' [1,0,2,3]<|stw (zP (M0:=[zc b1 [v2,I r10] 131]) call195 (fun w m h=>rfc (zgT zj m.given (m.qM 2 hv2) h)) ?_))));rintro ⟨r14,r15⟩ _;refine stw (zS [I 0,I 0] xr<|fun b16=>stw (zH (cs':=[I r14.xLo,I r14.xHi]) 0 Vb<|y1<|zM (fun (t152,t153,t154)=>JJ [(0,pp b1),(1,I n_1),(4,pp b5),(5,pp b11),(6,I r13),(7,pp b16)] [zc b1 [v2,I t152] 131,zc b16 [I t153,I t154] 89,zc b11 [I r7,I 0,I 0,.bool (decide (r9=0))] 165,zc b5 [I 0,I 0,I 0,.bool false] 165,zl w0 F]) ?_ ?_))
 ·intro k155;refine zM (fun (t80,t81)=>JJ [(0,pp b1),(1,I n_1),(4,pp b5),(5,pp b11),(6,I r13),(7,pp b16),(27,.bool t81)] [zc b1 [v2,I t80] 131,zc b16 [I r14.xLo,I r14.xHi] 89,zc b11 [I r7,I 0,I 0,.bool (decide (r9=0))] 165,zc b5 [I 0,I 0,I 0,.bool false] 165,zl w0 F]) ?_ ?_
  ·intro k82;refine zn<|zfl st st yL 2 ty3<|zX st<|mv ?_;refine jF (dj:=23) rfl ?_ ?_
   ·refine zp sg<|pk' [1,0,2,3,4]<|X0 rfl rfl (zP (M0:=[zc b1 [v2,I r15] 131]) call52 (fun w m h=>rfc (zC zj m.given (m.qM 3 hv2) h)) ?_);rintro ⟨r18,r19⟩ _;refine js sg xo ?_;exact zK st<|zt<|lj [0,1,2,3,4]
   refine ss ?_;refine ss ?_;refine ss ?_;exact zD st<|zt<|lj [1,0,2,3,4]
  rintro ⟨t80,t81⟩;refine nxj<|zg ?_ ?_
  ·refine y0<|mv<|stw (zP (M0:=[zc b1 [v2,I t80] 131]) call52 (fun w m h=>rfc (zC zj m.given (m.qM 3 hv2) h)) ?_);rintro ⟨r83,r84⟩ _;refine jo st (cells:=[I r83,I 0]) bz Z4<|stw (zH (cs':=[I r83,I 0]) 1 Vb<|y1<|XI (fun (t85,t86)=>JJ [(0,pp b1),(1,I n_1),(4,pp b5),(5,pp b11),(6,I r13),(7,pp b16)] [zc b1 [v2,I t85] 131,zc b16 [I r83,I t86] 89,zc b11 [I r7,I 0,I 0,.bool (decide (r9=0))] 165,zc b5 [I 0,I 0,I 0,.bool false] 165,zl w0 F]) ?_ ?_)
   ·intro k87;refine uJ mixed 7 rfl [zc b11 [I r7,I 0,I 0,.bool (decide (r9=0))] 165,zc b5 [I 0,I 0,I 0,.bool false] 165,zl w0 F]<|fun Qd hP hQ=>jD (dp 0 [2,3,4]) uu<|zp (dp 2 [2,3,4])<|dtw 1 3 rfl rfl ?_ ?_
    ·refine zL jO (v:=(I r83)) 1 ty3<|da [2,3,4]<|pk' [0,1,2,3,4]<|d1 3 rfl (zP (M0:=[zc b1 [v2,I r84] 131]) call52 (fun w m h=>rfc (zC zj m.given (m.qM 3 hv2) h)) ?_);rintro ⟨r88,r89⟩ _;refine da [2,3,4]<|pk' [0,1,2,3,4]<|UW (dp 4 [2,3,4])<|jD (dp 5 [2,3,4]) xn ?_;refine d1 6 rfl (zH (cs':=[I r83,I (w64 (r83+r88))]) 1 ty3 ?_);exact da [2,3,4]<|pk' [0,1,2,3,4]<|dj hQ [0,1,2,3,4]
    refine zP (vs:=[pp b1,I 8]) (M0:=[zc b1 [v2,I r84] 131]) call52 (fun w m h=>rfc (zC zj m.given (m.qM 3 hv2) h)) ?_;rintro ⟨r90,r91⟩ _;refine da [2,3,4]<|pk' [0,1,2,3,4]<|d1 1 rfl (zL jO (v:=(I r83)) 1 ty3 ?_);refine da [2,3,4]<|pk' [0,1,2,3,4]<|UW (dp 4 [2,3,4])<|jD (dp 5 [2,3,4]) xn ?_;refine d1 6 rfl (zH (cs':=[I r83,I (w64 (r83+r90))]) 1 ty3 ?_);exact da [2,3,4]<|pk' [0,1,2,3,4]<|dj hQ [0,1,2,3,4]
   rintro ⟨t85,t86⟩;exact nxj<|lj [0,1,2,3,4]
  exact ju<|lj [0,1,2,3,4]
 rintro ⟨t152,t153,t154⟩;refine nxj<|zM (fun (t241,t242,t243)=>JJ [(0,pp b1),(1,I n_1),(4,pp b5),(5,pp b11),(6,I r13),(7,pp b16)] [zc b1 [v2,I t241] 131,zc b16 [I t242,I t243] 89,zc b11 [I r7,I 0,I 0,.bool (decide (r9=0))] 165,zc b5 [I 0,I 0,I 0,.bool false] 165,zl w0 F]) ?_ ?_
 ·intro k244;refine y0<|mv<|stw (zP (M0:=[zc b1 [v2,I t152] 131]) call52 (fun w m h=>rfc (zC zj m.given (m.qM 3 hv2) h)) ?_);rintro ⟨r156,r157⟩ _;refine js st xo<|y1<|zg ?_ ?_
  ·refine XI (fun (t158,t159,t160)=>JJ [(0,pp b1),(1,I n_1),(4,pp b5),(5,pp b11),(6,I r13),(7,pp b16)] [zc b1 [v2,I t158] 131,zc b16 [I t159,I t160] 89,zc b11 [I r7,I 0,I 0,.bool (decide (r9=0))] 165,zc b5 [I 0,I 0,I 0,.bool false] 165,zl w0 F]) ?_ ?_
   ·intro k161;refine uJ mixed 15 rfl [zc b11 [I r7,I 0,I 0,.bool (decide (r9=0))] 165,zc b5 [I 0,I 0,I 0,.bool false] 165,zl w0 F]<|fun Qd hP hQ=>?_;let NN:=fun i l E L=>Nn 83 [zc b1 [v2,I r_0_p] 131] F w0 prog (Vm f152 [1,1,1,1,1,0,1,0]) Qd [zc b11 [I r7,I 0,I 0,.bool (decide (r9=0))] 165,zc b5 [I 0,I 0,I 0,.bool false] 165,zl w0 F] i l ([(0,pp b1),(1,I n_1),(4,pp b5),(5,pp b11),(6,I r13),(7,pp b16)]++E) (L++[zc b16 [I t153,I t154] 89,zc b11 [I r7,I 0,I 0,.bool (decide (r9=0))] 165,zc b5 [I 0,I 0,I 0,.bool false] 165,zl w0 F]);have H165 (v162:Value) (r163 r164:Int):NN 3 #[Y,Y,Y,Y,Y,Y,Y,Y,Y,Y,Y,Y,Z,Z,Z] [(49,v162),(51,I r163)] [zc b1 [v2,I r164] 131,zf zd 89 v162 ([zk.mk 0 r13,zk.mk 0 t154,zk.mk t153 r13])] (zE ([zk.mk 0 r13,zk.mk 0 t154,zk.mk t153 r13]) r163 (fun e165=>k161 (r164,e165.xLo,e165.xHi))):=by
     refine d1 12 rfl (zz jO 1 ze jJ ?_);intro e165 h166;refine da [3,4,5]<|pk' [0,1,2,3,4,5]<|d1 13 rfl (jb jO (enc:=zR) (u:=(.agg #[I e165.xLo,I e165.xHi])) 1 ze zx h166 Vb ?_);refine da [3,4,5]<|pk' [0,2,3,4,5]<|d1 14 rfl (zH (cs':=[I e165.xLo,I e165.xHi]) 1 Vb ?_);exact da [2,3,4]<|pk' [0,1,2,3,4]<|dj hQ [0,1,2,3,4]
    have H169 (r170 r171:Int):NN 5 #[Y,Y,Y,Y,Y,Y,Y,Y,Z,Z,Y,Y,Z,Z,Z] [(41,.agg #[I 0,I r13]),(47,I r13),(44,.agg #[I 0,I t154]),(51,I r170),(46,I t153)] [zc b1 [v2,I r171] 131] (zE ([zk.mk 0 r13,zk.mk 0 t154,zk.mk t153 r13]) r170 (fun e165=>k161 (r171,e165.xLo,e165.xHi))):=by
     refine jo (dp 8 [2,3,4]) (cells:=[I t153,I r13]) bz Z4<|d1 9 rfl (jv (enc:=zR) (cells:=[I 0,I r13,I 0,I t154,I t153,I r13]) ([zk.mk 0 r13,zk.mk 0 t154,zk.mk t153 r13]) zx bz jJ xr ?_);intro v172;exact rd [3,4,5] [1,0,2,3,4,5] (H165 v172 r170 r171)
    have H173 (r176 r177:Int):NN 5 #[Y,Y,Y,Y,Z,Y,Y,Y,Y,Z,Y,Y,Z,Z,Z] [(41,.agg #[I 0,I r13]),(48,.agg #[I t153,I r13]),(51,I r176),(43,I t154)] [zc b1 [v2,I r177] 131] (zE ([zk.mk 0 r13,zk.mk 0 t154,zk.mk t153 r13]) r176 (fun e165=>k161 (r177,e165.xLo,e165.xHi))):=by
     refine jo (dp 4 [2,3,4]) (cells:=[I 0,I t154]) bz Z4<|d1 9 rfl (jv (enc:=zR) (cells:=[I 0,I r13,I 0,I t154,I t153,I r13]) ([zk.mk 0 r13,zk.mk 0 t154,zk.mk t153 r13]) zx bz jJ xr ?_);intro v178;exact rd [3,4,5] [1,0,2,3,4,5] (H165 v178 r176 r177)
    refine zp (dp 0 [2,3,4]) ?_;refine jo (dp 1 [2,3,4]) (cells:=[I 0,I r13]) bz Z4<|jD (dp 2 [2,3,4]) xn<|jD (dp 5 [2,3,4]) uu<|zp (dp 7 [2,3,4])<|zp (dp 10 [2,3,4])<|Uv (i:=3) (j:=6) (l:=11) rfl rfl rfl (by kernel_rfl) ?_ ?_ ?_
    ·intro o ho;cases ho;refine zL jO (v:=(I t154)) 1 ty3<|da [2,3,4]<|pk' [0,1,2,3,4]<|jo (dp 4 [2,3,4]) (cells:=[I 0,I t154]) bz Z4<|dtw 6 11 rfl rfl ?_ ?_
     ·refine zL jO (v:=(I t153)) 1 ty3<|da [2,3,4]<|pk' [0,1,2,3,4]<|jo (dp 8 [2,3,4]) (cells:=[I t153,I r13]) bz Z4<|dtw 9 11 rfl rfl ?_ ?_
      ·refine jv (enc:=zR) (cells:=[I 0,I r13,I 0,I t154,I t153,I r13]) ([zk.mk 0 r13,zk.mk 0 t154,zk.mk t153 r13]) zx bz jJ xr<|fun v162=>da [3,4,5]<|pk' [0,1,2,3,4,5]<|pk' [1,0,2,3,4,5]<|d1 11 rfl (zP (M0:=[zc b1 [v2,I r157] 131]) call52 (fun w m h=>rfc (zC zj m.given (m.qM 4 hv2) h)) ?_);rintro ⟨r163,r164⟩ _;exact rd [3,4,5] [0,1,2,3,4,5] (H165 v162 r163 r164)
      refine zP (vs:=[pp b1,I 3]) (M0:=[zc b1 [v2,I r157] 131]) call52 (fun w m h=>rfc (zC zj m.given (m.qM 3 hv2) h)) ?_;rintro ⟨r167,r168⟩ _;refine da [2,3,4]<|pk' [0,1,2,3,4]<|d1 9 rfl (jv (enc:=zR) (cells:=[I 0,I r13,I 0,I t154,I t153,I r13]) ([zk.mk 0 r13,zk.mk 0 t154,zk.mk t153 r13]) zx bz jJ xr ?_);intro v169;exact rd [3,4,5] [1,0,2,3,4,5] (H165 v169 r167 r168)
     refine zP (vs:=[pp b1,I 3]) (M0:=[zc b1 [v2,I r157] 131]) call52 (fun w m h=>rfc (zC zj m.given (m.qM 3 hv2) h)) ?_;rintro ⟨r170,r171⟩ _;refine da [2,3,4]<|pk' [0,1,2,3,4]<|d1 6 rfl (zL jO (v:=(I t153)) 1 ty3 ?_);exact rd [2,3,4] [0,1,2,3,4] (H169 r170 r171)
    ·intro o ho;cases ho;refine zL jO (v:=(I t153)) 1 ty3<|da [2,3,4]<|pk' [0,1,2,3,4]<|jo (dp 8 [2,3,4]) (cells:=[I t153,I r13]) bz Z4<|dtw 3 11 rfl rfl ?_ ?_
     ·refine zL jO (v:=(I t154)) 1 ty3<|da [2,3,4]<|pk' [0,1,2,3,4]<|jo (dp 4 [2,3,4]) (cells:=[I 0,I t154]) bz Z4<|dtw 9 11 rfl rfl ?_ ?_
      ·refine jv (enc:=zR) (cells:=[I 0,I r13,I 0,I t154,I t153,I r13]) ([zk.mk 0 r13,zk.mk 0 t154,zk.mk t153 r13]) zx bz jJ xr<|fun v173=>da [3,4,5]<|pk' [0,1,2,3,4,5]<|pk' [1,0,2,3,4,5]<|d1 11 rfl (zP (M0:=[zc b1 [v2,I r157] 131]) call52 (fun w m h=>rfc (zC zj m.given (m.qM 4 hv2) h)) ?_);rintro ⟨r163,r164⟩ _;exact rd [3,4,5] [0,1,2,3,4,5] (H165 v173 r163 r164)
      refine zP (vs:=[pp b1,I 3]) (M0:=[zc b1 [v2,I r157] 131]) call52 (fun w m h=>rfc (zC zj m.given (m.qM 3 hv2) h)) ?_;rintro ⟨r174,r175⟩ _;refine da [2,3,4]<|pk' [0,1,2,3,4]<|d1 9 rfl (jv (enc:=zR) (cells:=[I 0,I r13,I 0,I t154,I t153,I r13]) ([zk.mk 0 r13,zk.mk 0 t154,zk.mk t153 r13]) zx bz jJ xr ?_);intro v169;exact rd [3,4,5] [1,0,2,3,4,5] (H165 v169 r174 r175)
     refine zP (vs:=[pp b1,I 3]) (M0:=[zc b1 [v2,I r157] 131]) call52 (fun w m h=>rfc (zC zj m.given (m.qM 3 hv2) h)) ?_;rintro ⟨r176,r177⟩ _;refine da [2,3,4]<|pk' [0,1,2,3,4]<|d1 3 rfl (zL jO (v:=(I t154)) 1 ty3 ?_);exact rd [2,3,4] [0,1,2,3,4] (H173 r176 r177)
    intro o ho;cases ho;refine zP (vs:=[pp b1,I 3]) (M0:=[zc b1 [v2,I r157] 131]) call52 (fun w m h=>rfc (zC zj m.given (m.qM 3 hv2) h)) ?_;rintro ⟨r179,r180⟩ _;refine da [2,3,4]<|pk' [0,1,2,3,4]<|dtw 3 6 rfl rfl ?_ ?_
    ·refine zL jO (v:=(I t154)) 1 ty3<|da [2,3,4]<|pk' [0,1,2,3,4]<|jo (dp 4 [2,3,4]) (cells:=[I 0,I t154]) bz Z4<|d1 6 rfl (zL jO (v:=(I t153)) 1 ty3 ?_);exact rd [2,3,4] [0,1,2,3,4] (H169 r179 r180)
    refine zL jO (v:=(I t153)) 1 ty3<|da [2,3,4]<|pk' [0,1,2,3,4]<|jo (dp 8 [2,3,4]) (cells:=[I t153,I r13]) bz Z4<|d1 3 rfl (zL jO (v:=(I t154)) 1 ty3 ?_);exact rd [2,3,4] [0,1,2,3,4] (H173 r179 r180)
   rintro ⟨t158,t159,t160⟩;exact nxj<|lj [0,1,2,3,4]
  exact ju<|lj [0,1,2,3,4]
 rintro ⟨t241,t242,t243⟩;refine nxj<|y0<|zfl st st uu 1 ty3<|jD st Zi ?_;refine stw (zH (cs':=[I r7,I t242,I 0,.bool (decide (r9=0))]) 2 ty3<|y2<|zfl st st xn 1 ty3<|jD st yH ?_);refine stw (zH (cs':=[I r7,I t242,I t243,.bool (decide (r9=0))]) 2 ty3<|y1<|zM (fun (t317,t318,t319,t320)=>JJ [(4,pp b5),(5,pp b11)] [zc b1 [v2,I t317] 131,zc b11 [I t318,I t319,I t320,.bool (decide (r9=0))] 165,zc b5 [I 0,I 0,I 0,.bool false] 165,zl w0 F]) ?_ ?_)
 ·intro k321;refine y0<|mv<|mv<|stw (zP (M0:=[zc b1 [v2,I t241] 131]) call97 (fun w m h=>rfc (yA zj m.given (m.qM 3 hv2) h)) ?_);rintro ⟨r245,r246⟩ _;refine y1<|zg ?_ ?_
  ·refine y0<|mv<|stw (zP (M0:=[zc b1 [v2,I r246] 131]) call52 (fun w m h=>rfc (zC zj m.given (m.qM 3 hv2) h)) ?_);rintro ⟨r247,r248⟩ _;refine y26<|js st xo<|ma<|y1<|zg ?_ ?_
   ·refine zn<|stw (jv (enc:=xy) (cells:=[I (-1),I 4]) ([-1,4]) jA bz Zr YP<|fun v249=>mv<|pk' [1,0,2,3,4,5]<|stw (zP (M0:=[zc b1 [v2,I r248] 131]) call52 (fun w m h=>rfc (zC zj m.given (m.qM 4 hv2) h)) ?_));rintro ⟨r251,r252⟩ _;refine zz st 1 ze Zr<|fun e253 h254=>jb st (enc:=xy) (u:=(I e253)) 1 ze jA h254 ty3<|jD st yL ?_;exact stw (zH (cs':=[I e253,I t242,I t243,.bool (decide (r9=0))]) 3 ty3<|y12<|lj [0,3,4,5])
   refine y0<|js st xo<|ma<|y1<|zg ?_ ?_
   ·refine zn<|zfl st st yH 2 ty3<|zO st<|fun t255=>jD st Zi ?_;exact stw (zH (cs':=[I r7,I t255,I t243,.bool (decide (r9=0))]) 2 ty3<|y12<|lj [0,2,3,4])
   refine zn<|mv<|zO st<|fun t256=>jD st yH ?_;exact stw (zH (cs':=[I r7,I t242,I t256,.bool (decide (r9=0))]) 2 ty3<|y12<|lj [0,2,3,4])
  exact ju<|lj [0,2,3,4]
 rintro ⟨t317,t318,t319,t320⟩;refine nxj<|y0<|zL st 1 uL ?_;exact stw (zH (cs':=[I t318,I t319,I t320,.bool (decide (r9=0))]) 2 uL<|y3<|Zd results152 (zI.mk t318 t319 t320 (decide (r9=0)),t317) () (uX 2 rfl rfl uL rfl) (nch [0]))
theorem zcz {b1:Nat} {v2:Value} {r_0_b:(List UInt8)} {r_0_p n_1:Int} {O:((List zI)×Int)->Prop} (hF:Fr [zc b1 [v2,(I r_0_p)] 131] F w0) (hg:xz [zc b1 [v2,(I r_0_p)] 131] F w0) (hv2:Sl zbn F w0 v2 r_0_b) (h:yV r_0_b r_0_p n_1 O) :
  Cl prog 98 #[(pp b1),(I n_1)] w0 [zc b1 [v2,(I r_0_p)] 131] F O (fun r (u:Value)=>u) (fun r u=>[zf jp 165 u r.1,zc b1 [v2,(I r.2)] 131]):=by
 refine yO (args:=[pp b1,I n_1]) [zc b1 [v2,I r_0_p] 131] hF hg func98 rfl ntmps98 rfl h ?_;let JJ:=Jn 32 [zc b1 [v2,I r_0_p] 131] F w0;refine y0<|stw (jM jp 165<|y2<|stw (jv (enc:=uo) (cells:=[]) ([]:(List zI)) jd bz Xf xY<|fun v6=>ma<|y4<|mv<|pk' [2,0,1,3]<|stw (zP (M0:=[zc b1 [v2,I r_0_p] 131]) call52 (fun w m h=>rfc (zC zj m.given (m.qM 2 hv2) h)) ?_)));rintro ⟨r8,r9⟩ _;refine ma<|y5<|z7 (fun (t10,xs12,t15) a w=>∃ v11,JJ [(0,pp b1),(1,I n_1),(5,v11),(6,I t15)] [zc b1 [v2,I t10] 131,zl w0 F,zf jp 165 v11 xs12] a w) (jE v6 [0,3,1]) ?_;rintro nx16 ⟨t10,xs12,t15⟩;refine nxe<|fun v11=>y10<|mv<|ug st<|y1<|zg ?_ ?_
 ·refine y22<|mv<|mv<|stw (zP (M0:=[zc b1 [v2,I t10] 131]) call152 (fun w m h=>rfc (zc5 zj m.given (m.qM 0 hv2) h)) ?_);rintro ⟨r17,r18⟩ _;exact stw (jv (enc:=uo) (cells:=[I r17.xField,I r17.xLo,I r17.xHi,.bool r17.xNot]) ([r17]) jd bz Xf xY<|fun v19=>stw (jW 3 0 (xj jd ze) Xf xY<|fun v21=>ma<|y15<|mv<|Zb st<|fun t23=>ma<|zt<|zN (r18,xs12++([r17]),t23) (jE v21 [1,2,3])))
 refine y30<|zM (fun (t97,xs99) a w=>∃ v98,JJ [(5,v98)] [zc b1 [v2,I t97] 131,zl w0 F,zf jp 165 v98 xs99] a w) ?_ ?_
 ·intro k102;refine y0<|mv<|mv<|stw (zP (M0:=[zc b1 [v2,I t10] 131]) call97 (fun w m h=>rfc (yA zj m.given (m.qM 0 hv2) h)) ?_);rintro ⟨r24,r25⟩ _;refine y1<|zg ?_ ?_
  ·refine y0<|mv<|stw (zP (M0:=[zc b1 [v2,I r25] 131]) call52 (fun w m h=>rfc (zC zj m.given (m.qM 0 hv2) h)) ?_);rintro ⟨r26,r27⟩ _;refine js st xo<|y1<|zg ?_ ?_
   ·refine zn<|mv<|mv<|stw (zP (M0:=[zc b1 [v2,I r27] 131]) call152 (fun w m h=>rfc (zc5 zj m.given (m.qM 0 hv2) h)) ?_);rintro ⟨r28,r29⟩ _;exact stw (jv (enc:=uo) (cells:=[I r28.xField,I r28.xLo,I r28.xHi,.bool r28.xNot]) ([r28]) jd bz Xf xY<|fun v30=>stw (jW 3 0 (xj jd ze) Xf xY<|fun v32=>ma<|zt<|zN (r29,xs12++([r28])) (jE v32 [1,2,3])))
   exact zn<|stw (zl1 (z:=(zI.mk 0 0 0 false)) jd Xf xY<|fun v34 xs35=>ma<|zt<|zN (r27,xs35) (jE v34 [1,2,0]))
  exact ju<|zN (r25,xs12) (jE v11 [0,1,2])
 rintro ⟨t97,xs99⟩;exact nxe<|fun v98=>y0<|mv<|ma<|y3<|e1t results98 (xs99,t97) v98 [2,0]
end
section
open Go.RowKit Go.Proofs.Tryz
variable {w0:World} {F:Nat->Prop}
theorem zbc {b1:Nat} {v2:Value} {r_0_b:(List UInt8)} {r_0_p p1 p2 p3:Int} {O:(zo×Int)->Prop} (hF:Fr [zc b1 [v2,(I r_0_p)] 131] F w0) (hg:xz [zc b1 [v2,(I r_0_p)] 131] F w0) (hv2:Sl zbn F w0 v2 r_0_b) (h:Zk r_0_b r_0_p p1 p2 p3 O) :
  Cl prog 53 #[(pp b1),(I p1),(I p2),(I p3)] w0 [zc b1 [v2,(I r_0_p)] 131] F O (fun r (u:Value)=>(.agg #[u,(I r.1.xAction),(I r.1.xChain)])) (fun r u=>[zf jp 165 u r.1.xTests,zc b1 [v2,(I r.2)] 131]):=by
 refine yO (args:=[pp b1,I p1,I p2,I p3]) [zc b1 [v2,I r_0_p] 131] hF hg func53 rfl ntmps53 rfl h ?_;let JJ:=Jn 58 [zc b1 [v2,I r_0_p] 131] F w0;refine y0<|stw (zS [S0,I 0,I 0] xd<|fun b5=>y2<|mv<|pk' [1,0,2]<|stw (zP (M0:=[zc b1 [v2,I r_0_p] 131]) call98 (fun w m h=>rf (fun _ _=>(xc (yt jd) (xc ux ZE))) (zcz zj m.given (m.qM 1 hv2) h)) ?_));rintro ⟨r7,r10⟩ v8;refine stw (jv (enc:=xy) (cells:=[I 1,I 1,I 2,I 2,I 3,I 3,I 4,I 5]) ([1,1,2,2,3,3,4,5]) jA bz Zr YP<|fun v11=>mv<|pk' [2,0,1,3,4]<|stw (zP (M0:=[zc b1 [v2,I r10] 131]) call52 (fun w m h=>rfc (zC zj m.given (m.qM 3 hv2) h)) ?_));rintro ⟨r13,r14⟩ _;refine zz st 1 ze Zr<|fun e15 h16=>jb st (enc:=xy) (u:=(I e15)) 1 ze jA h16 ty3<|xG 2 rfl ?_;rintro a17 l18 q19 rfl;refine jo st (cells:=[.slice a17 l18 q19,I e15,I 0]) bz Vp<|stw (zS [S0,I 0,I 0] xd<|fun b20=>stw (zH (cs':=[.slice a17 l18 q19,I e15,I 0]) 0 uP<|y1<|zM (fun (t86,t87,t88)=>JJ [(0,pp b1),(3,I p3),(8,pp b5),(9,pp b20)] [zc b20 [.slice a17 l18 q19,I t86,I t87] 77,zc b1 [v2,I t88] 131,zf jp 165 (.slice a17 l18 q19) r7,zc b5 [S0,I 0,I 0] 77,zl w0 F]) ?_ ?_))
 ·intro k89;refine y0<|zfl st st Zw 0 ty3<|js st xo<|y1<|zg ?_ ?_
  ·refine y0<|mv<|mv<|V0 st<|y1<|zg ?_ ?_
   ·refine zn<|jD st Zw ?_;exact stw (zH (cs':=[.slice a17 l18 q19,I 2,I 0]) 0 ty3<|zt<|lj [0,1,3,4,5])
   refine zn<|mv<|mv<|mv<|mv<|Zb st<|fun t22=>pk' [1,0,2,3,4,5]<|stw (zP (M0:=[zc b1 [v2,I r14] 131]) call52 (fun w m h=>rfc (zC zj m.given (m.qM 4 hv2) h)) ?_);rintro ⟨r23,r24⟩ _;refine zO st<|fun t25=>jD st Zz ?_;exact stw (zH (cs':=[.slice a17 l18 q19,I e15,I t25]) 1 ty3<|zt<|lj [1,0,3,4,5])
  exact ju<|lj [0,1,3,4,5]
 rintro ⟨t86,t87,t88⟩;refine nxj<|zM (fun (t173,xs175,t178,t179) a w=>∃ v174,JJ [(8,pp b5),(9,pp b20)] [zc b1 [v2,I t173] 131,zc b20 [v174,I t178,I t179] 77,zc b5 [S0,I 0,I 0] 77,zl w0 F,zf jp 165 v174 xs175] a w) ?_ ?_
 ·intro k180;refine y0<|mv<|mv<|pk' [1,0,2,3,4]<|stw (zP (M0:=[zc b1 [v2,I t88] 131]) call97 (fun w m h=>rfc (yA zj m.given (m.qM 3 hv2) h)) ?_);rintro ⟨r90,r91⟩ _;refine y1<|zg ?_ ?_
  ·refine y0<|mv<|stw (zP (M0:=[zc b1 [v2,I r91] 131]) call52 (fun w m h=>rfc (zC zj m.given (m.qM 3 hv2) h)) ?_);rintro ⟨r92,r93⟩ _;refine y26<|js st xo<|ma<|y1<|zg ?_ ?_
   ·refine zn<|stw (jv (enc:=xy) (cells:=[I 0,I 6]) ([0,6]) jA bz Zr YP<|fun v94=>mv<|pk' [1,0,2,3,4,5]<|stw (zP (M0:=[zc b1 [v2,I r93] 131]) call52 (fun w m h=>rfc (zC zj m.given (m.qM 4 hv2) h)) ?_));rintro ⟨r96,r97⟩ _;refine zz st 1 ze Zr<|fun e98 h99=>jb st (enc:=xy) (u:=(I e98)) 1 ze jA h99 ty3<|jD st Zw ?_;exact stw (zH (cs':=[.slice a17 l18 q19,I e98,I t87]) 2 ty3<|y12<|zN (r97,r7,e98,t87) (jE (.slice a17 l18 q19) [0,2,4,5,3]))
   refine y0<|js st xo<|ma<|y1<|zg ?_ ?_
   ·refine zn<|stw (jv (enc:=xy) (cells:=[I (-1),I 5,I 1]) ([-1,5,1]) jA bz Zr YP<|fun v100=>mv<|pk' [1,0,2,3,4,5]<|stw (zP (M0:=[zc b1 [v2,I r93] 131]) call52 (fun w m h=>rfc (zC zj m.given (m.qM 4 hv2) h)) ?_));rintro ⟨r102,r103⟩ _;refine zz st 1 ze Zr<|fun e104 h105=>jb st (enc:=xy) (u:=(I e104)) 1 ze jA h105 ty3<|jD st Zz ?_;exact stw (zH (cs':=[.slice a17 l18 q19,I t86,I e104]) 2 ty3<|y12<|zN (r103,r7,t86,e104) (jE (.slice a17 l18 q19) [0,2,4,5,3]))
   refine zn<|mv<|stw (zP (M0:=[zc b1 [v2,I r93] 131]) call98 (fun w m h=>rf (fun _ _=>(xc (yt jd) (xc ux ZE))) (zcz zj m.given (m.qM 3 hv2) h)) ?_);rintro ⟨r106,r109⟩ v107;refine jD st ZU<|xG 0 rfl ?_;rintro a110 l111 q112 rfl;exact stw (zH (cs':=[.slice a110 l111 q112,I t86,I t87]) 2 zcj<|y12<|zN (r109,r106,t86,t87) (jE (.slice a110 l111 q112) [1,2,4,5,0]))
  exact ju<|zN (r91,r7,t86,t87) (jE (.slice a17 l18 q19) [0,1,3,4,2])
 rintro ⟨t173,xs175,t178,t179⟩;refine nxe<|fun v174=>y0<|zL st 1 uP<|xG 4 rfl ?_;rintro a181 l182 q183 rfl;exact stw (zH (cs':=[.slice a181 l182 q183,I t178,I t179]) 2 uP<|y3<|Zd results53 (zo.mk xs175 t178 t179,t173) (.slice a181 l182 q183) (uX 2 rfl rfl uP rfl) (nch [4,0]))
theorem zay {b1:Nat} {v2:Value} {r_0_b:(List UInt8)} {r_0_p p1 p2 p3:Int} {O:((List zo)×Int)->Prop} (hF:Fr [zc b1 [v2,(I r_0_p)] 131] F w0) (hg:xz [zc b1 [v2,(I r_0_p)] 131] F w0) (hv2:Sl zbn F w0 v2 r_0_b) (h:YG r_0_b r_0_p p1 p2 p3 O) :
  Cl prog 96 #[(pp b1),(I p1),(I p2),(I p3)] w0 [zc b1 [v2,(I r_0_p)] 131] F O (fun r (u:Value×List Nat)=>u.1) (fun r u=>[jq zJ 77 u.2 u.1 r.1,zc b1 [v2,(I r.2)] 131]):=by
 refine yO (args:=[pp b1,I p1,I p2,I p3]) [zc b1 [v2,I r_0_p] 131] hF hg func96 rfl ntmps96 rfl h ?_;let JJ:=Jn 46 [zc b1 [v2,I r_0_p] 131] F w0;refine y0<|stw (ZS zJ 77<|y2<|stw (xL (E':=zJ) bz uW xd<|fun bb7 v6=>ma<|y4<|mv<|pk' [2,0,1,3]<|stw (zP (M0:=[zc b1 [v2,I r_0_p] 131]) call52 (fun w m h=>rfc (zC zj m.given (m.qM 2 hv2) h)) ?_)));rintro ⟨r9,r10⟩ _;refine ma<|y5<|z7 (fun (t11,xs13,t17) a w=>∃ v12 bb15,JJ [(0,pp b1),(1,I p1),(2,I p2),(3,I p3),(9,v12),(10,I t17)] [zc b1 [v2,I t11] 131,zl w0 F,jq zJ 77 bb15 v12 xs13] a w) (jE2 v6 bb7 [0,3,1]) ?_;rintro nx18 ⟨t11,xs13,t17⟩;refine VV<|fun v12 bb15=>y10<|mv<|ug st<|y1<|zg ?_ ?_
 ·refine y22<|mv<|mv<|mv<|mv<|stw (zP (M0:=[zc b1 [v2,I t11] 131]) call53 (fun w m h=>rf (fun _ _=>(xc (yt jd) (xc ux ZE))) (zbc zj m.given (m.qM 0 hv2) h)) ?_);rintro ⟨r19,r22⟩ v20;refine xG 0 rfl ?_;rintro a23 l24 q25 rfl;exact stw (xl (M:=[zf jp 165 (.slice a23 l24 q25) r19.xTests]) (E':=zJ) (cs:=[.slice a23 l24 q25,I r19.xAction,I r19.xChain]) r19 (jr (xD jd) (fun B w h=>⟨_,rfl,h⟩)) bz uW xd<|fun bb27 v26=>pk' [3,0,1,2]<|stw (yf uW xd<|fun bb30 v29=>ma<|y15<|mv<|Zb st<|fun t32=>ma<|zt<|zN (r22,xs13++([r19]),t32) (jE2 v29 bb30 [1,2,0])))
 refine y30<|zM (fun (t122,xs124) a w=>∃ v123 bb126,JJ [(9,v123)] [zc b1 [v2,I t122] 131,zl w0 F,jq zJ 77 bb126 v123 xs124] a w) ?_ ?_
 ·intro k128;refine y0<|mv<|mv<|stw (zP (M0:=[zc b1 [v2,I t11] 131]) call97 (fun w m h=>rfc (yA zj m.given (m.qM 0 hv2) h)) ?_);rintro ⟨r33,r34⟩ _;refine y1<|zg ?_ ?_
  ·refine y0<|mv<|stw (zP (M0:=[zc b1 [v2,I r34] 131]) call52 (fun w m h=>rfc (zC zj m.given (m.qM 0 hv2) h)) ?_);rintro ⟨r35,r36⟩ _;refine js st xo<|y1<|zg ?_ ?_
   ·refine zn<|mv<|mv<|mv<|mv<|stw (zP (M0:=[zc b1 [v2,I r36] 131]) call53 (fun w m h=>rf (fun _ _=>(xc (yt jd) (xc ux ZE))) (zbc zj m.given (m.qM 0 hv2) h)) ?_);rintro ⟨r37,r40⟩ v38;refine xG 0 rfl ?_;rintro a41 l42 q43 rfl;exact stw (xl (M:=[zf jp 165 (.slice a41 l42 q43) r37.xTests]) (E':=zJ) (cs:=[.slice a41 l42 q43,I r37.xAction,I r37.xChain]) r37 (jr (xD jd) (fun B w h=>⟨_,rfl,h⟩)) bz uW xd<|fun bb45 v44=>pk' [3,0,1,2]<|stw (yf uW xd<|fun bb48 v47=>ma<|zt<|zN (r40,xs13++([r37])) (jE2 v47 bb48 [1,2,0])))
   refine ui<|z7 (fun xs51 a w=>∃ v50 bb53,JJ [(9,v50)] [zc b1 [v2,I r36] 131,zl w0 F,jq zJ 77 bb53 v50 xs51] a w) (jE2 v12 bb15 [0,1,2]) ?_;rintro nx55 xs51;refine VV<|fun v50 bb53=>y10<|mv<|zF st uW 2 z6<|ZC st<|y1<|zg ?_ ?_
   ·exact y31<|mv<|jo st (cells:=[S0,I 5,I 0]) bz Vp<|stw (xl (M:=[]) (E':=zJ) (cs:=[S0,I 5,I 0]) (zo.mk ([]) 5 0) (XO (fun w=>⟨_,rfl,Dp.nil⟩)) bz uW xd<|fun bb57 v56=>pk' [3,0,1,2]<|stw (yf uW xd<|fun bb60 v59=>ma<|y12<|zN (xs51++([zo.mk ([]) 5 0])) (jE2 v59 bb60 [1,2,0])))
   refine yI (xM (xM (yN ?_)));exact zN (r36,xs51) (jE2 v50 bb53 [0,1,2])
  exact ju<|zN (r34,xs13) (jE2 v12 bb15 [0,1,2])
 rintro ⟨t122,xs124⟩;exact VV<|fun v123 bb126=>y0<|mv<|ma<|y3<|e1t results96 (xs124,t122) (v123,bb126) [2,0]
theorem zfg {b1:Nat} {v2:Value} {r_0_b:(List UInt8)} {r_0_p n_1:Int} {O:(zB×Int)->Prop} (hF:Fr [zc b1 [v2,(I r_0_p)] 131] F w0) (hg:xz [zc b1 [v2,(I r_0_p)] 131] F w0) (hv2:Sl zbn F w0 v2 r_0_b) (h:YZ r_0_b r_0_p n_1 O) :
  Cl prog 51 #[(pp b1),(I n_1)] w0 [zc b1 [v2,(I r_0_p)] 131] F O (fun r (u:Value×List Nat)=>(.agg #[u.1,(.bool r.1.xAccept)])) (fun r u=>[jq (dSl zJ 77) 47 u.2 u.1 r.1.xChains,zc b1 [v2,(I r.2)] 131]):=by
 refine yO (args:=[pp b1,I n_1]) [zc b1 [v2,I r_0_p] 131] hF hg func51 rfl ntmps51 rfl h ?_;let JJ:=Jn 80 [zc b1 [v2,I r_0_p] 131] F w0;refine y0<|stw (zS [S0,.bool false] Vc<|fun b5=>y2<|mv<|pk' [1,0,2]<|stw (zP (M0:=[zc b1 [v2,I r_0_p] 131]) call52 (fun w m h=>rfc (zC zj m.given (m.qM 1 hv2) h)) ?_));rintro ⟨r7,r8⟩ _;refine js st xo<|jo st (cells:=[S0,.bool (decide (r7=0))]) bz zct<|stw (zS [S0,.bool false] Vc<|fun b9=>stw (zH (cs':=[S0,.bool (decide (r7=0))]) 0 uO<|y2<|mv<|pk' [1,0,2,3]<|stw (zP (M0:=[zc b1 [v2,I r8] 131]) call52 (fun w m h=>rfc (zC zj m.given (m.qM 2 hv2) h)) ?_)));rintro ⟨r11,r12⟩ _;refine zO st<|fun t13=>ma<|y4<|ma<|y5<|z7 (fun (t14,xs16,t20) a w=>∃ v15 bb18,JJ [(0,pp b1),(1,I n_1),(4,pp b5),(5,pp b9),(6,I t13),(7,I t20)] [zc b1 [v2,I t14] 131,zc b9 [v15,.bool (decide (r7=0))] 25,zc b5 [S0,.bool false] 25,zl w0 F,jq (dSl zJ 77) 47 bb18 v15 xs16] a w) (fun a w hE hm=>⟨S0,[],hE.sub g6,(zan (dSl zJ 77) 47 hm).pick [1,2,3,4,0] rfl⟩) ?_;rintro nx21 ⟨t14,xs16,t20⟩;refine VV<|fun v15 bb18=>y10<|mv<|mv<|zX st<|y1<|zg ?_ ?_
 ·refine y28<|xS 4 rfl ?_;rintro a22 l23 q24 rfl;refine XI (fun (xs25,t29) a w=>∃ v26 bb28,JJ [(0,pp b1),(1,I n_1),(4,pp b5),(5,pp b9),(6,I t13),(7,I t20)] [jq (dSl zJ 77) 47 bb28 v26 xs25,zc b1 [v2,I t29] 131,zc b9 [v26,.bool (decide (r7=0))] 25,zc b5 [S0,.bool false] 25,zl w0 F] a w) ?_ ?_
  ·intro k30;refine uJ mixed 11 rfl [zc b5 [S0,.bool false] 25,zl w0 F]<|fun Qd hP hQ=>?_;let NN:=Nn 80 [zc b1 [v2,I r_0_p] 131] F w0 prog (Vm f51 [1,1,1,0,1,0,0,1,0,0]) Qd [zc b5 [S0,.bool false] 25,zl w0 F];have H418 (r31:(List zo)) (a35:Option Addr) (l36 q37:Nat) (bb33:List Nat) (r34:Int) (v38:Value) (bb39:List Nat):NN 3 #[Y,Y,Y,Y,Y,Y,Y,Y,Z,Z,Z] [(0,pp b1),(1,I n_1),(4,pp b5),(5,pp b9),(6,I t13),(7,I t20),(21,.slice a22 l23 q24),(27,v38)] [jq (dSl zJ 77) 47 bb39 v38 ([r31]),zc b1 [v2,I r34] 131,zc b9 [.slice a22 l23 q24,.bool (decide (r7=0))] 25,zc b5 [S0,.bool false] 25,zl w0 F,jq (dSl zJ 77) 47 bb18 (.slice a22 l23 q24) xs16] (jQ xs16 ([r31]) (fun _=>k30 (xs16++([r31]),r34))):=by
    refine pk' [5,0,1,2,3,4]<|d1 8 rfl (yf xU VQ ?_);intro bb41 v40;refine da [3,4]<|pk' [0,1,2,3,4]<|jD (dp 9 [3,4]) jY<|xS 0 rfl ?_;rintro a43 l44 q45 rfl;refine d1 10 rfl (zH (cs':=[.slice a43 l44 q45,.bool (decide (r7=0))]) 2 yX ?_);exact da [3,4]<|pk' [0,1,2,3,4]<|zY<|fun a w hE hm hH=>hQ (xs16++([r31]),r34) a w hH ((jE2 (.slice a43 l44 q45) bb41 [0,1,2,3,4]) a w hE hm)
   refine jD (dp 0 [2,3]) jY<|zp (dp 2 [2,3])<|zp (dp 3 [2,3])<|UW (dp 4 [2,3])<|zp (dp 5 [2,3])<|dtw 1 6 rfl rfl ?_ ?_
   ·refine zL jO (v:=(.slice a22 l23 q24)) 1 yX<|da [2,3]<|pk' [0,1,2,3,4]<|d1 6 rfl (zP (M0:=[zc b1 [v2,I t14] 131]) call96 (fun w m h=>rf (fun _ _=>(xc zaQ (xc ux ZE))) (zay zj m.given (m.qM 2 hv2) h)) ?_);rintro ⟨r31,r34⟩ ⟨v32,bb33⟩;refine da [3,4]<|pk' [0,1,2,3,4,5]<|xS 0 rfl ?_;rintro a35 l36 q37 rfl;refine d1 7 rfl (xl (M:=[jq zJ 77 bb33 (.slice a35 l36 q37) r31]) (E':=(dSl zJ 77)) (cs:=[.slice a35 l36 q37]) r31 (jr yk (fun B w h=>⟨_,rfl,h⟩)) bz xU VQ ?_);intro bb39 v38;exact rd [3,4] [0,1,2,3,4,5] (H418 r31 a35 l36 q37 bb33 r34 v38 bb39)
   refine zP (vs:=[pp b1,I (w64 (t20+1)),I t13,I 0]) (M0:=[zc b1 [v2,I t14] 131]) call96 (fun w m h=>rf (fun _ _=>(xc zaQ (xc ux ZE))) (zay zj m.given (m.qM 2 hv2) h)) ?_;rintro ⟨r46,r49⟩ ⟨v47,bb48⟩;refine da [3,4]<|pk' [0,1,2,3,4,5]<|dtw 1 7 rfl rfl ?_ ?_
   ·refine zL jO (v:=(.slice a22 l23 q24)) 2 yX<|da [3,4]<|pk' [0,1,2,3,4,5]<|xS 0 rfl ?_;rintro a35 l36 q37 rfl;refine d1 7 rfl (xl (M:=[jq zJ 77 bb48 (.slice a35 l36 q37) r46]) (E':=(dSl zJ 77)) (cs:=[.slice a35 l36 q37]) r46 (jr yk (fun B w h=>⟨_,rfl,h⟩)) bz xU VQ ?_);intro bb39 v38;exact rd [3,4] [0,1,2,3,4,5] (H418 r46 a35 l36 q37 bb48 r49 v38 bb39)
   refine xS 0 rfl ?_;rintro a50 l51 q52 rfl;refine xl (M:=[jq zJ 77 bb48 (.slice a50 l51 q52) r46]) (E':=(dSl zJ 77)) (cs:=[.slice a50 l51 q52]) r46 (jr yk (fun B w h=>⟨_,rfl,h⟩)) bz xU VQ<|fun bb54 v53=>da [3,4]<|pk' [0,1,2,3,4,5]<|d1 1 rfl (zL jO (v:=(.slice a22 l23 q24)) 2 yX ?_);exact rd [3,4] [0,1,2,3,4,5] (H418 r46 a50 l51 q52 bb48 r49 v53 bb54)
  rintro ⟨xs25,t29⟩;exact VV<|fun v26 bb28=>y29<|mv<|zO st<|fun t55=>ma<|zt<|zN (t29,xs25,t55) (jE2 v26 bb28 [1,2,3,4,0])
 refine y30<|zM (fun (t253,xs255) a w=>∃ v254 bb257,JJ [(4,pp b5),(5,pp b9)] [zc b1 [v2,I t253] 131,zc b9 [v254,.bool (decide (r7=0))] 25,zc b5 [S0,.bool false] 25,zl w0 F,jq (dSl zJ 77) 47 bb257 v254 xs255] a w) ?_ ?_
 ·intro k259;refine y0<|mv<|mv<|stw (zP (M0:=[zc b1 [v2,I t14] 131]) call97 (fun w m h=>rfc (yA zj m.given (m.qM 2 hv2) h)) ?_);rintro ⟨r56,r57⟩ _;refine y1<|zg ?_ ?_
  ·refine y0<|mv<|stw (zP (M0:=[zc b1 [v2,I r57] 131]) call52 (fun w m h=>rfc (zC zj m.given (m.qM 2 hv2) h)) ?_);rintro ⟨r58,r59⟩ _;refine y26<|js st xo<|ma<|y1<|zg ?_ ?_
   ·refine zn<|stw (xL (E':=(dSl zJ 77)) bz xU VQ<|fun bb61 v60=>jD st jY<|xS 0 rfl ?_);rintro a63 l64 q65 rfl;exact stw (zH (cs':=[.slice a63 l64 q65,.bool (decide (r7=0))]) 2 yX<|y12<|zN (r59,[]) (jE2 (.slice a63 l64 q65) bb61 [1,2,3,4,0]))
   refine y0<|js st xo<|ma<|y1<|zg ?_ ?_
   ·refine xS 4 rfl ?_;rintro a66 l67 q68 rfl;refine XI (fun (xs69,t72) a w=>∃ bb71,JJ [(4,pp b5),(5,pp b9)] [jq (dSl zJ 77) 47 bb71 (.slice a66 l67 q68) xs69,zc b1 [v2,I t72] 131,zc b9 [.slice a66 l67 q68,.bool (decide (r7=0))] 25,zc b5 [S0,.bool false] 25,zl w0 F] a w) ?_ ?_
    ·intro k73;refine uJ mixed 17 rfl [zc b9 [.slice a66 l67 q68,.bool (decide (r7=0))] 25,zc b5 [S0,.bool false] 25,zl w0 F]<|fun Qd hP hQ=>?_;let NN:=fun i l E L=>Nn 80 [zc b1 [v2,I r_0_p] 131] F w0 prog (Vm f51 [1,1,1,1,0,1,0,1,0,1,1,1,0]) Qd [zc b9 [.slice a66 l67 q68,.bool (decide (r7=0))] 25,zc b5 [S0,.bool false] 25,zl w0 F] i l ([]++E) (L++[]);have H453 (e74:(List zo)) (h75:xs16[(0:Int).toNat]?=some e74) (v76:Value) (bb77 bb78:List Nat) (v79:Value) (r80 r81 e82:Int) (h83:([0,t13])[(r80).toNat]?=some e82) (v84:Value) (bb85:List Nat):NN 3 #[Y,Y,Y,Y,Y,Y,Y,Y,Y,Y,Y,Y,Y,Y,Z,Z,Z] [(4,pp b5),(5,pp b9),(48,.slice a66 l67 q68),(52,v76),(60,v84)] [jq zJ 77 bb85 v84 ([zo.mk ([]) 3 e82]),zc b1 [v2,I r81] 131,UG (dSl zJ 77) 47 bb77 (.slice a66 l67 q68) xs16 (0:Int).toNat [v76],jq zJ 77 bb78 v76 e74,zc b9 [.slice a66 l67 q68,.bool (decide (r7=0))] 25,zc b5 [S0,.bool false] 25,zl w0 F] (jQ e74 ([zo.mk ([]) 3 e82]) (fun _=>zE xs16 0 (fun e89=>k73 (xs16.set (0:Int).toNat (e74++([zo.mk ([]) 3 e82])),r81)))):=by
      refine pk' [3,0,1,2,4,5,6]<|d1 14 rfl (yf uW xd ?_);intro bb87 v86;refine da [3,4,5]<|pk' [0,1,2,3,4,5]<|d1 15 rfl (zgG jO 2 xU ?_);intro e89 h90;refine da [3,4,5]<|pk' [0,1,2,3,4,5]<|xS 0 rfl ?_;rintro a91 l92 q93 rfl;refine pk' [2,0,1,3,4,5]<|d1 16 rfl (zkU (M:=[jq zJ 77 bb87 (.slice a91 l92 q93) (e74++([zo.mk ([]) 3 e82]))]) (y':=(e74++([zo.mk ([]) 3 e82]))) rfl (.inr (Vn h75)) (jr yk (fun B w h=>⟨_,rfl,h⟩)) Xq rfl rfl rfl rfl rfl ?_);intro bb94;exact da [2,3,4]<|pk' [0,1,2,3,4]<|zY<|fun a w hE hm hH=>hQ (xs16.set (0:Int).toNat (e74++([zo.mk ([]) 3 e82])),r81) a w hH ((jE bb94 [0,1,2,3,4]) a w hE hm)
     have H455 (e74:(List zo)) (h75:xs16[(0:Int).toNat]?=some e74) (v76:Value) (bb77 bb78:List Nat) (v79:Value) (r80 r81 e82:Int) (h83:([0,t13])[(r80).toNat]?=some e82):NN 6 #[Y,Y,Y,Y,Y,Y,Y,Y,Y,Y,Y,Z,Z,Z,Z,Z,Z] [(4,pp b5),(5,pp b9),(48,.slice a66 l67 q68),(52,v76),(57,pEl v79 r80 1 0)] [zc b1 [v2,I r81] 131,zf xT 3 v79 ([0,t13]),UG (dSl zJ 77) 47 bb77 (.slice a66 l67 q68) xs16 (0:Int).toNat [v76],jq zJ 77 bb78 v76 e74,zc b9 [.slice a66 l67 q68,.bool (decide (r7=0))] 25,zc b5 [S0,.bool false] 25,zl w0 F] (jQ e74 ([zo.mk ([]) 3 e82]) (fun _=>zE xs16 0 (fun e89=>k73 (xs16.set (0:Int).toNat (e74++([zo.mk ([]) 3 e82])),r81)))):=by
      refine d1 11 rfl (jb jO (enc:=xy) (u:=(I e82)) 1 ze jA h83 ty3 ?_);refine da [4,5,6]<|pk' [0,2,3,4,5,6]<|jo (dp 12 [3,4,5]) (cells:=[S0,I 3,I e82]) bz Vp<|d1 13 rfl (xl (M:=[]) (E':=zJ) (cs:=[S0,I 3,I e82]) (zo.mk ([]) 3 e82) (XO (fun w=>⟨_,rfl,Dp.nil⟩)) bz uW xd ?_);intro bb85 v84;exact rd [4,5,6] [0,1,2,3,4,5,6] (H453 e74 h75 v76 bb77 bb78 v79 r80 r81 e82 h83 v84 bb85)
     have H463 (e74:(List zo)) (h75:xs16[(0:Int).toNat]?=some e74) (v99:Value) (r103 r104 e108:Int) (h109:([0,t13])[(r103).toNat]?=some e108):NN 7 #[Y,Y,Y,Y,Y,Z,Y,Y,Y,Y,Y,Z,Z,Z,Z,Z,Z] [(4,pp b5),(5,pp b9),(48,.slice a66 l67 q68),(51,pEl (.slice a66 l67 q68) 0 1 0),(57,pEl v99 r103 1 0)] [zc b1 [v2,I r104] 131,zf xT 3 v99 ([0,t13]),zc b9 [.slice a66 l67 q68,.bool (decide (r7=0))] 25,zc b5 [S0,.bool false] 25,zl w0 F,jq (dSl zJ 77) 47 bb18 (.slice a66 l67 q68) xs16] (jQ e74 ([zo.mk ([]) 3 e108]) (fun _=>zE xs16 0 (fun e89=>k73 (xs16.set (0:Int).toNat (e74++([zo.mk ([]) 3 e108])),r104)))):=by
      refine dtw 5 11 rfl rfl ?_ ?_
      ·refine pk' [5,0,1,2,3,4]<|Ud (E1:=zJ) (t1:=77) (zin:=e74) (encz:=fun v=>[v]) h75 (fun B w cs h=>h) Xq<|fun v110 bb111 bb112=>⟨v110,rfl,?_⟩;exact rd [4,5,6] [2,3,0,1,4,5,6] (H455 e74 h75 v110 bb111 bb112 v99 r103 r104 e108 h109)
      refine jb jO (enc:=xy) (u:=(I e108)) 1 ze jA h109 ty3<|da [2,3,4]<|pk' [0,2,3,4,5]<|jo (dp 12 [1,2,3]) (cells:=[S0,I 3,I e108]) bz Vp<|dtw 5 13 rfl rfl ?_ ?_
      ·refine pk' [4,0,1,2,3]<|Ud (E1:=zJ) (t1:=77) (zin:=e74) (encz:=fun v=>[v]) h75 (fun B w cs h=>h) Xq<|fun v113 bb114 bb115=>⟨v113,rfl,?_⟩;refine da [3,4,5]<|pk' [0,1,2,3,4,5]<|d1 13 rfl (xl (M:=[]) (E':=zJ) (cs:=[S0,I 3,I e108]) (zo.mk ([]) 3 e108) (XO (fun w=>⟨_,rfl,Dp.nil⟩)) bz uW xd ?_);intro bb117 v116;exact rd [4,5,6] [0,3,1,2,4,5,6] (H453 e74 h75 v113 bb114 bb115 v99 r103 r104 e108 h109 v116 bb117)
      refine xl (M:=[]) (E':=zJ) (cs:=[S0,I 3,I e108]) (zo.mk ([]) 3 e108) (XO (fun w=>⟨_,rfl,Dp.nil⟩)) bz uW xd<|fun bb119 v118=>da [2,3,4]<|pk' [0,1,2,3,4,5]<|pk' [5,0,1,2,3,4]<|d1 5 rfl (Ud (E1:=zJ) (t1:=77) (zin:=e74) (encz:=fun v=>[v]) h75 (fun B w cs h=>h) Xq ?_);rintro v120 bb121 bb122;refine ⟨v120,rfl,?_⟩;exact rd [4,5,6] [2,3,0,1,4,5,6] (H453 e74 h75 v120 bb121 bb122 v99 r103 r104 e108 h109 v118 bb119)
     have H464 (e74:(List zo)) (h75:xs16[(0:Int).toNat]?=some e74) (v99:Value) (r103 r104:Int):NN 8 #[Y,Y,Y,Y,Y,Z,Y,Y,Y,Y,Z,Z,Z,Z,Z,Z,Z] [(4,pp b5),(5,pp b9),(48,.slice a66 l67 q68),(51,pEl (.slice a66 l67 q68) 0 1 0),(54,v99),(56,I r103)] [zc b1 [v2,I r104] 131,zf xT 3 v99 ([0,t13]),zc b9 [.slice a66 l67 q68,.bool (decide (r7=0))] 25,zc b5 [S0,.bool false] 25,zl w0 F,jq (dSl zJ 77) 47 bb18 (.slice a66 l67 q68) xs16] (zE ([0,t13]) r103 (fun e82=>jQ e74 ([zo.mk ([]) 3 e82]) (fun _=>zE xs16 0 (fun e89=>k73 (xs16.set (0:Int).toNat (e74++([zo.mk ([]) 3 e82])),r104))))):=by
      refine dtw 5 10 rfl rfl ?_ ?_
      ·refine pk' [5,0,1,2,3,4]<|Ud (E1:=zJ) (t1:=77) (zin:=e74) (encz:=fun v=>[v]) h75 (fun B w cs h=>h) Xq<|fun v105 bb106 bb107=>⟨v105,rfl,?_⟩;refine da [4,5,6]<|pk' [2,3,0,1,4,5,6]<|d1 10 rfl (zz jO 1 ze Zr ?_);intro e82 h83;exact rd [4,5,6] [0,1,2,3,4,5,6] (H455 e74 h75 v105 bb106 bb107 v99 r103 r104 e82 h83)
      exact zz jO 1 ze Zr<|fun e108 h109=>rd [2,3,4] [0,1,2,3,4,5] (H463 e74 h75 v99 r103 r104 e108 h109)
     have H465 (e74:(List zo)) (h75:xs16[(0:Int).toNat]?=some e74) (v99:Value):NN 9 #[Y,Y,Y,Y,Y,Z,Y,Y,Y,Z,Z,Z,Z,Z,Z,Z,Z] [(4,pp b5),(5,pp b9),(48,.slice a66 l67 q68),(55,pp b1),(51,pEl (.slice a66 l67 q68) 0 1 0),(54,v99)] [zf xT 3 v99 ([0,t13]),zc b1 [v2,I r59] 131,zc b9 [.slice a66 l67 q68,.bool (decide (r7=0))] 25,zc b5 [S0,.bool false] 25,zl w0 F,jq (dSl zJ 77) 47 bb18 (.slice a66 l67 q68) xs16] (zw r_0_b r59 2 (fun (r80,r81)=>zE ([0,t13]) r80 (fun e82=>jQ e74 ([zo.mk ([]) 3 e82]) (fun _=>zE xs16 0 (fun e89=>k73 (xs16.set (0:Int).toNat (e74++([zo.mk ([]) 3 e82])),r81)))))):=by
      refine dtw 5 9 rfl rfl ?_ ?_
      ·refine pk' [5,0,1,2,3,4]<|Ud (E1:=zJ) (t1:=77) (zin:=e74) (encz:=fun v=>[v]) h75 (fun B w cs h=>h) Xq<|fun v100 bb101 bb102=>⟨v100,rfl,?_⟩;refine da [4,5,6]<|pk' [2,0,1,3,4,5,6]<|pk' [3,0,1,2,4,5,6]<|d1 9 rfl (zP (M0:=[zc b1 [v2,I r59] 131]) call52 (fun w m h=>rfc (zC zj m.given (m.qM 5 hv2) h)) ?_);rintro ⟨r80,r81⟩ _;refine da [4,5,6]<|pk' [0,1,2,3,4,5,6]<|d1 10 rfl (zz jO 1 ze Zr ?_);intro e82 h83;exact rd [4,5,6] [0,1,2,3,4,5,6] (H455 e74 h75 v100 bb101 bb102 v99 r80 r81 e82 h83)
      refine pk' [1,0,2,3,4,5]<|zP (vs:=[pp b1,I 2]) (M0:=[zc b1 [v2,I r59] 131]) call52 (fun w m h=>rfc (zC zj m.given (m.qM 3 hv2) h)) ?_;rintro ⟨r103,r104⟩ _;exact rd [2,3,4] [0,1,2,3,4,5] (H464 e74 h75 v99 r103 r104)
     have H466 (e74:(List zo)) (h75:xs16[(0:Int).toNat]?=some e74) (r123 r124:Int):NN 9 #[Y,Y,Y,Y,Y,Z,Y,Z,Y,Y,Z,Z,Z,Z,Z,Z,Z] [(4,pp b5),(5,pp b9),(48,.slice a66 l67 q68),(53,I t13),(51,pEl (.slice a66 l67 q68) 0 1 0),(56,I r123)] [zc b1 [v2,I r124] 131,zc b9 [.slice a66 l67 q68,.bool (decide (r7=0))] 25,zc b5 [S0,.bool false] 25,zl w0 F,jq (dSl zJ 77) 47 bb18 (.slice a66 l67 q68) xs16] (zE ([0,t13]) r123 (fun e82=>jQ e74 ([zo.mk ([]) 3 e82]) (fun _=>zE xs16 0 (fun e89=>k73 (xs16.set (0:Int).toNat (e74++([zo.mk ([]) 3 e82])),r124))))):=by
      refine dtw 5 7 rfl rfl ?_ ?_
      ·refine pk' [4,0,1,2,3]<|Ud (E1:=zJ) (t1:=77) (zin:=e74) (encz:=fun v=>[v]) h75 (fun B w cs h=>h) Xq<|fun v125 bb126 bb127=>⟨v125,rfl,?_⟩;refine da [3,4,5]<|pk' [2,0,1,3,4,5]<|d1 7 rfl (jv (enc:=xy) (cells:=[I 0,I t13]) ([0,t13]) jA bz Zr YP ?_);intro v98;refine da [4,5,6]<|pk' [1,0,2,3,4,5,6]<|d1 10 rfl (zz jO 1 ze Zr ?_);intro e82 h83;exact rd [4,5,6] [0,1,2,3,4,5,6] (H455 e74 h75 v125 bb126 bb127 v98 r123 r124 e82 h83)
      exact jv (enc:=xy) (cells:=[I 0,I t13]) ([0,t13]) jA bz Zr YP<|fun v128=>rd [2,3,4] [1,0,2,3,4,5] (H464 e74 h75 v128 r123 r124)
     have H472 (v129:Value) (r132 r133:Int):NN 9 #[Y,Y,Y,Y,Z,Z,Y,Y,Y,Y,Z,Z,Z,Z,Z,Z,Z] [(4,pp b5),(5,pp b9),(48,.slice a66 l67 q68),(50,.slice a66 l67 q68),(54,v129),(56,I r132)] [zc b1 [v2,I r133] 131,zf xT 3 v129 ([0,t13]),zc b9 [.slice a66 l67 q68,.bool (decide (r7=0))] 25,zc b5 [S0,.bool false] 25,zl w0 F,jq (dSl zJ 77) 47 bb18 (.slice a66 l67 q68) xs16] ((zE xs16 0 (fun e134=>zE ([0,t13]) r132 (fun e82=>jQ e134 ([zo.mk ([]) 3 e82]) (fun _=>zE xs16 0 (fun e89=>k73 (xs16.set (0:Int).toNat (e134++([zo.mk ([]) 3 e82])),r133))))))∧(zE ([0,t13]) r132 (fun e136=>zE xs16 0 (fun e138=>jQ e138 ([zo.mk ([]) 3 e136]) (fun _=>zE xs16 0 (fun e89=>k73 (xs16.set (0:Int).toNat (e138++([zo.mk ([]) 3 e136])),r133))))))):=by
      refine dtw 4 10 rfl rfl ?_ ?_
      ·exact zbI<|zz jO 5 z6 xU<|fun e134 h135=>rd [2,3,4] [0,1,2,3,4,5] (H464 e134 h135 v129 r132 r133)
      refine zaK<|zz jO 1 ze Zr<|fun e136 h137=>da [2,3,4]<|pk' [0,1,2,3,4,5]<|dtw 4 11 rfl rfl ?_ ?_
      ·exact zz jO 5 z6 xU<|fun e138 h139=>rd [2,3,4] [0,1,2,3,4,5] (H463 e138 h139 v129 r132 r133 e136 h137)
      refine jb jO (enc:=xy) (u:=(I e136)) 1 ze jA h137 ty3<|da [2,3,4]<|pk' [0,2,3,4,5]<|jo (dp 12 [1,2,3]) (cells:=[S0,I 3,I e136]) bz Vp<|dtw 4 13 rfl rfl ?_ ?_
      ·refine zz jO 4 z6 xU<|fun e140 h141=>da [1,2,3]<|pk' [0,1,2,3,4]<|dtw 5 13 rfl rfl ?_ ?_
       ·refine pk' [4,0,1,2,3]<|Ud (E1:=zJ) (t1:=77) (zin:=e140) (encz:=fun v=>[v]) h141 (fun B w cs h=>h) Xq<|fun v142 bb143 bb144=>⟨v142,rfl,?_⟩;refine da [3,4,5]<|pk' [0,1,2,3,4,5]<|d1 13 rfl (xl (M:=[]) (E':=zJ) (cs:=[S0,I 3,I e136]) (zo.mk ([]) 3 e136) (XO (fun w=>⟨_,rfl,Dp.nil⟩)) bz uW xd ?_);intro bb117 v116;exact rd [4,5,6] [0,3,1,2,4,5,6] (H453 e140 h141 v142 bb143 bb144 v129 r132 r133 e136 h137 v116 bb117)
       refine xl (M:=[]) (E':=zJ) (cs:=[S0,I 3,I e136]) (zo.mk ([]) 3 e136) (XO (fun w=>⟨_,rfl,Dp.nil⟩)) bz uW xd<|fun bb146 v145=>da [2,3,4]<|pk' [0,1,2,3,4,5]<|pk' [5,0,1,2,3,4]<|d1 5 rfl (Ud (E1:=zJ) (t1:=77) (zin:=e140) (encz:=fun v=>[v]) h141 (fun B w cs h=>h) Xq ?_);rintro v120 bb121 bb122;refine ⟨v120,rfl,?_⟩;exact rd [4,5,6] [2,3,0,1,4,5,6] (H453 e140 h141 v120 bb121 bb122 v129 r132 r133 e136 h137 v145 bb146)
      refine xl (M:=[]) (E':=zJ) (cs:=[S0,I 3,I e136]) (zo.mk ([]) 3 e136) (XO (fun w=>⟨_,rfl,Dp.nil⟩)) bz uW xd<|fun bb148 v147=>da [2,3,4]<|pk' [0,1,2,3,4,5]<|d1 4 rfl (zz jO 5 z6 xU ?_);intro e149 h150;refine da [2,3,4]<|pk' [0,1,2,3,4,5]<|pk' [5,0,1,2,3,4]<|d1 5 rfl (Ud (E1:=zJ) (t1:=77) (zin:=e149) (encz:=fun v=>[v]) h150 (fun B w cs h=>h) Xq ?_);rintro v120 bb121 bb122;refine ⟨v120,rfl,?_⟩;exact rd [4,5,6] [2,3,0,1,4,5,6] (H453 e149 h150 v120 bb121 bb122 v129 r132 r133 e136 h137 v147 bb148)
     refine zfl (dp 0 [1,2,3]) (dp 1 [1,2,3]) jY 0 yX<|zfl (dp 2 [1,2,3]) (dp 3 [1,2,3]) jY 0 yX<|zp (dp 6 [1,2,3])<|zp (dp 8 [1,2,3])<|Uv (i:=4) (j:=7) (l:=9) rfl rfl rfl (by kernel_rfl) ?_ ?_ ?_
     ·intro o ho;cases ho;refine zbI<|zz jO 4 z6 xU<|fun e74 h75=>da [1,2,3]<|pk' [0,1,2,3,4]<|Uv (i:=5) (j:=7) (l:=9) rfl rfl rfl (by kernel_rfl) ?_ ?_ ?_
      ·intro o ho;cases ho;refine pk' [4,0,1,2,3]<|Ud (E1:=zJ) (t1:=77) (zin:=e74) (encz:=fun v=>[v]) h75 (fun B w cs h=>h) Xq<|fun v76 bb77 bb78=>⟨v76,rfl,?_⟩;refine da [3,4,5]<|pk' [0,1,2,3,4,5]<|dtw 7 9 rfl rfl ?_ ?_
       ·refine jv (enc:=xy) (cells:=[I 0,I t13]) ([0,t13]) jA bz Zr YP<|fun v79=>da [4,5,6]<|pk' [0,1,2,3,4,5,6]<|pk' [3,0,1,2,4,5,6]<|d1 9 rfl (zP (M0:=[zc b1 [v2,I r59] 131]) call52 (fun w m h=>rfc (zC zj m.given (m.qM 5 hv2) h)) ?_);rintro ⟨r80,r81⟩ _;refine da [4,5,6]<|pk' [0,1,2,3,4,5,6]<|d1 10 rfl (zz jO 1 ze Zr ?_);intro e82 h83;exact rd [4,5,6] [0,1,2,3,4,5,6] (H455 e74 h75 v76 bb77 bb78 v79 r80 r81 e82 h83)
       refine pk' [2,0,1,3,4,5]<|zP (vs:=[pp b1,I 2]) (M0:=[zc b1 [v2,I r59] 131]) call52 (fun w m h=>rfc (zC zj m.given (m.qM 4 hv2) h)) ?_;rintro ⟨r96,r97⟩ _;refine da [3,4,5]<|pk' [0,1,2,3,4,5]<|d1 7 rfl (jv (enc:=xy) (cells:=[I 0,I t13]) ([0,t13]) jA bz Zr YP ?_);intro v98;refine da [4,5,6]<|pk' [1,0,2,3,4,5,6]<|d1 10 rfl (zz jO 1 ze Zr ?_);intro e82 h83;exact rd [4,5,6] [0,1,2,3,4,5,6] (H455 e74 h75 v76 bb77 bb78 v98 r96 r97 e82 h83)
      ·intro o ho;cases ho;exact jv (enc:=xy) (cells:=[I 0,I t13]) ([0,t13]) jA bz Zr YP<|fun v99=>rd [2,3,4] [0,1,2,3,4,5] (H465 e74 h75 v99)
      intro o ho;cases ho;refine zP (vs:=[pp b1,I 2]) (M0:=[zc b1 [v2,I r59] 131]) call52 (fun w m h=>rfc (zC zj m.given (m.qM 2 hv2) h)) ?_;rintro ⟨r123,r124⟩ _;exact rd [1,2,3] [0,1,2,3,4] (H466 e74 h75 r123 r124)
     ·intro o ho;cases ho;refine zaK<|zbI<|jv (enc:=xy) (cells:=[I 0,I t13]) ([0,t13]) jA bz Zr YP<|fun v129=>da [2,3,4]<|pk' [0,1,2,3,4,5]<|dtw 4 9 rfl rfl ?_ ?_
      ·exact zbI<|zz jO 5 z6 xU<|fun e130 h131=>rd [2,3,4] [0,1,2,3,4,5] (H465 e130 h131 v129)
      refine zaK<|pk' [1,0,2,3,4,5]<|zP (vs:=[pp b1,I 2]) (M0:=[zc b1 [v2,I r59] 131]) call52 (fun w m h=>rfc (zC zj m.given (m.qM 3 hv2) h)) ?_;rintro ⟨r132,r133⟩ _;exact rd [2,3,4] [0,1,2,3,4,5] (H472 v129 r132 r133)
     intro o ho;cases ho;refine zaK<|zaK<|zP (vs:=[pp b1,I 2]) (M0:=[zc b1 [v2,I r59] 131]) call52 (fun w m h=>rfc (zC zj m.given (m.qM 2 hv2) h)) ?_;rintro ⟨r151,r152⟩ _;refine da [1,2,3]<|pk' [0,1,2,3,4]<|dtw 4 7 rfl rfl ?_ ?_
     ·exact zbI<|zz jO 4 z6 xU<|fun e153 h154=>rd [1,2,3] [0,1,2,3,4] (H466 e153 h154 r151 r152)
     exact zaK<|jv (enc:=xy) (cells:=[I 0,I t13]) ([0,t13]) jA bz Zr YP<|fun v155=>rd [2,3,4] [1,0,2,3,4,5] (H472 v155 r151 r152)
    rintro ⟨xs69,t72⟩;exact nxe<|fun bb71=>uU<|zN (t72,xs69) (jE2 (.slice a66 l67 q68) bb71 [1,2,3,4,0])
   refine y0<|js st xo<|ma<|y1<|zg ?_ ?_
   ·refine y0<|zfl st st jY 1 yX<|mv<|Zb st<|fun t156=>jo st (cells:=[S0,I 3,I 0]) bz Vp<|stw (xl (M:=[]) (E':=zJ) (cs:=[S0,I 3,I 0]) (zo.mk ([]) 3 0) (XO (fun w=>⟨_,rfl,Dp.nil⟩)) bz uW xd<|fun bb158 v157=>zz st 5 z6 xU<|fun e160 h161=>xS 0 rfl ?_);rintro a162 l163 q164 rfl;refine pk' [5,0,1,2,3,4]<|stw (zhX (M:=[jq zJ 77 bb158 (.slice a162 l163 q164) ([zo.mk ([]) 3 0])]) (y':=[zo.mk ([]) 3 0]) rfl h161 (fun w B cz h=>by obtain ⟨u,rfl,_⟩:=h;exact (jr yk (fun B w h=>⟨_,rfl,h⟩))) Xq rfl rfl rfl rfl rfl<|fun bb165=>y17<|zfl st st jY 2 yX<|mv<|Zb st<|fun t167=>jo st (cells:=[S0,I 3,I t167]) bz Vp<|stw (xl (M:=[]) (E':=zJ) (cs:=[S0,I 3,I t167]) (zo.mk ([]) 3 t167) (XO (fun w=>⟨_,rfl,Dp.nil⟩)) bz uW xd<|fun bb169 v168=>zz st 1 z6 xU<|fun e171 h172=>xS 0 rfl ?_));rintro a173 l174 q175 rfl;exact pk' [1,0,2,3,4,5]<|stw (zhX (M:=[jq zJ 77 bb169 (.slice a173 l174 q175) ([zo.mk ([]) 3 t167])]) (y':=[zo.mk ([]) 3 t167]) rfl h172 (fun w B cz h=>by obtain ⟨u,rfl,_⟩:=h;exact (jr yk (fun B w h=>⟨_,rfl,h⟩))) Xq rfl rfl rfl rfl rfl<|fun bb176=>y12<|zN (r59,(xs16.set (t156).toNat ([zo.mk ([]) 3 0])).set (0:Int).toNat ([zo.mk ([]) 3 t167])) (jE2 v15 bb176 [1,2,3,4,0]))
   refine xS 4 rfl ?_;rintro a178 l179 q180 rfl;refine xA mixed 7 rfl [zc b9 [.slice a178 l179 q180,.bool (decide (r7=0))] 25,zc b5 [S0,.bool false] 25,zl w0 F]<|zfl (dp 0 [1,2,3]) (dp 1 [1,2,3]) jY 0 yX<|zp (dp 2 [1,2,3])<|zp (dp 3 [1,2,3])<|d1 4 rfl (zP (M0:=[zc b1 [v2,I r59] 131]) call96 (fun w m h=>rf (fun _ _=>(xc zaQ (xc ux ZE))) (zay zj m.given (m.qM 2 hv2) h)) ?_);rintro ⟨r181,r185⟩ ⟨v182,bb183⟩;refine da [2,3,4]<|d1 5 rfl (zz jO 5 z6 xU ?_);intro e186 h187;refine da [2,3,4]<|xS 0 rfl ?_;rintro a188 l189 q190 rfl;refine pk' [5,0,1,2,3,4]<|d1 6 rfl (zhX (M:=[jq zJ 77 bb183 (.slice a188 l189 q190) r181]) (y':=r181) rfl h187 (fun w B cz h=>by obtain ⟨u,rfl,_⟩:=h;exact (jr yk (fun B w h=>⟨_,rfl,h⟩))) Xq rfl rfl rfl rfl rfl ?_);intro bb191;exact da [2,3,4]<|zY<|uU<|zN (r185,xs16.set (0:Int).toNat r181) (jE2 (.slice a178 l179 q180) bb191 [1,2,3,4,0])
  exact ju<|zN (r57,xs16) (jE2 v15 bb18 [0,1,2,3,4])
 rintro ⟨t253,xs255⟩;refine VV<|fun v254 bb257=>y0<|zL st 1 uO<|xS 4 rfl ?_;rintro a260 l261 q262 rfl;exact stw (zH (cs':=[.slice a260 l261 q262,.bool (decide (r7=0))]) 2 uO<|y3<|Zd results51 (zB.mk xs255 (decide (r7=0)),t253) (.slice a260 l261 q262,bb257) (uX 2 rfl rfl uO rfl) (nch [4,0]))
theorem jh {n_0:Int} {O:Int->Prop} (hF:Fr [] F w0) (hgl0:Sl zU F w0 (.slice (some ⟨0,0,none⟩) 4 4) zu) (h:jx n_0 O) :
  Cl prog 113 #[(I n_0)] w0 [] F O (fun r (u:Unit)=>(I r)) (fun r u=>[]):=by
 refine eS hF func113 ntmps113 h ?_;let JJ:=Jn 13 [] F w0;refine y0<|ma<|y9<|zM (fun t61=>JJ [(0,I n_0),(8,.bool t61)] [zl w0 F]) ?_ ?_
 ·intro k62;refine zn<|mv<|zX st<|mv ?_;refine jF (dj:=5) rfl ?_ ?_
  ·refine ss ?_;refine ss ?_;exact zK st<|zt<|lj [0]
  refine zp sg<|V0 sg ?_;exact zD st<|zt<|lj [0]
 rintro t61;refine nxj<|zg ?_ ?_
 ·exact y0<|ma<|y6<|lu results113
 refine y8<|mv<|xC st 0 (zb hgl0) zj6<|fun e63 h64=>jt st 0 (zb hgl0) h64 zkn ?_;exact jb st (enc:=Zl) (u:=(I e63.xTop)) 0 (zb hgl0) YH h64 ty3<|ma<|y3<|lu results113
theorem zfN {p0:zI} {O:Bool->Prop} (hF:Fr [] F w0) (hgl0:Sl zU F w0 (.slice (some ⟨0,0,none⟩) 4 4) zu) (h:UC p0 O) :
  Cl prog 236 #[(.agg #[(I p0.xField),(I p0.xLo),(I p0.xHi),(.bool p0.xNot)])] w0 [] F O (fun r (u:Unit)=>(.bool r)) (fun r u=>[]):=by
 refine eS hF func236 ntmps236 h ?_;let JJ:=Jn 31 [] F w0;refine y0<|stw (jV [I p0.xField,I p0.xLo,I p0.xHi,.bool p0.xNot]<|fun b1=>ma<|y1<|zM (fun t64=>JJ [(2,.bool t64)] [zl w0 F]) ?_ ?_)
 ·intro k65;refine xA mixed 29 rfl [zc b1 [I p0.xField,I p0.xLo,I p0.xHi,.bool p0.xNot] 165,zl w0 F]<|zfl (dI 0) (dI 1) yL 0 ty3<|V0 (dI 2)<|zp (dI 3) ?_;refine jF (dj:=6) rfl ?_ ?_
  ·refine zfl (dG 4) (dG 5) yL 0 ty3<|zX (dG 6) ?_;refine zK (dI 7)<|zp (dI 8) ?_;refine jF (dj:=11) rfl ?_ ?_
   ·refine zfl (dG 9) (dG 10) Zi 0 ty3<|V0 (dG 11) ?_;refine zK (dI 12)<|zp (dI 13) ?_;refine jF (dj:=16) rfl ?_ ?_
    ·refine zfl (dG 14) (dG 15) Zi 0 ty3<|zfl (dG 16) (dG 17) yH 0 ty3<|ZC (dG 18) ?_;refine zK (dI 19)<|zp (dI 20) ?_;refine jF (dj:=23) rfl ?_ ?_
     ·refine zfl (dG 21) (dG 22) yH 0 ty3<|zfl (dG 23) (dG 24) yL 0 ty3<|za7 (i:=25) rfl rfl rfl (by kernel_rfl) (zh call113 (fun w m h=>rf0 (jh zj (m.q 1 hgl0) h)) ?_);rintro r3 _;refine da0<|ZC (dG 26) ?_;exact zK (dI 27)<|jU (dI 28)<|zY<|lj [1]
     refine dK4 21 22 23 24 ?_;refine dK2 25 26 ?_;exact zD (dI 27)<|jU (dI 28)<|zY<|lj [1]
    refine dK3 14 15 16 ?_;refine dK2 17 18 ?_;refine zD (dI 19)<|zp (dI 20) ?_;refine dK4 21 22 23 24 ?_;refine dK2 25 26 ?_;exact zD (dI 27)<|jU (dI 28)<|zY<|lj [1]
   refine dK3 9 10 11 ?_;refine zD (dI 12)<|zp (dI 13) ?_;refine dK3 14 15 16 ?_;refine dK2 17 18 ?_;refine zD (dI 19)<|zp (dI 20) ?_;refine dK4 21 22 23 24 ?_;refine dK2 25 26 ?_;exact zD (dI 27)<|jU (dI 28)<|zY<|lj [1]
  refine dK3 4 5 6 ?_;refine zD (dI 7)<|zp (dI 8) ?_;refine dK3 9 10 11 ?_;refine zD (dI 12)<|zp (dI 13) ?_;refine dK3 14 15 16 ?_;refine dK2 17 18 ?_;refine zD (dI 19)<|zp (dI 20) ?_;refine dK4 21 22 23 24 ?_;refine dK2 25 26 ?_;exact zD (dI 27)<|jU (dI 28)<|zY<|lj [1]
 rintro t64;exact nxj<|uq<|lu results236
theorem zeU {v1:Value} {list_0:(List zI)} {O:Bool->Prop} (hF:Fr [] F w0) (hv1:Sl jp F w0 v1 list_0) (hgl0:Sl zU F w0 (.slice (some ⟨0,0,none⟩) 4 4) zu) (h:Y4 list_0 O) :
  Cl prog 208 #[v1] w0 [] F O (fun r (u:Unit)=>(.bool r)) (fun r u=>[]):=by
 refine eS hF func208 ntmps208 h ?_;let JJ:=Jn 18 [] F w0;refine y0<|ma<|y4<|mv<|zF st Xf 0 (zb hv1)<|ug st<|y1<|zg ?_ ?_
 ·exact y0<|ma<|y6<|lu results208
 refine y13<|mv<|zF st Xf 0 (zb hv1)<|mv<|y5<|z7 (fun t3=>JJ [(8,v1),(9,I (list_0.length:Int)),(10,I t3)] [zl w0 F]) (jI [0])<|fun nx4 t3=>nxj<|y0<|zX st<|y9<|zg ?_ ?_
 ·refine y11<|zz st 0 (zb hv1) Xf<|fun e5 h6=>jb st (enc:=uo) (u:=(.agg #[I e5.xField,I e5.xLo,I e5.xHi,.bool e5.xNot])) 0 (zb hv1) jd h6 uL<|stw (zS [I 0,I 0,I 0,.bool false] xY<|fun b7=>stw (zH (cs':=[I e5.xField,I e5.xLo,I e5.xHi,.bool e5.xNot]) 0 uL<|y2<|zL st 0 uL<|stw (zh call236 (fun w m h=>rf0 (zfN zj (m.q 1 hgl0) h))<|fun r9 _=>jn st<|y1<|zg ?_ ?_)))
  ·exact y0<|ma<|y16<|lu results208
  exact y14<|zO st<|fun t10=>mv<|zt<|lj [1]
 exact y7<|ma<|y3<|lu results208
theorem zbY {v1:Value} {r_0:zo} {O:Bool->Prop} (hF:Fr [] F w0) (hv1:Sl jp F w0 v1 r_0.xTests) (hgl0:Sl zU F w0 (.slice (some ⟨0,0,none⟩) 4 4) zu) (h:Yb r_0 O) :
  Cl prog 162 #[(.agg #[v1,(I r_0.xAction),(I r_0.xChain)])] w0 [] F O (fun r (u:Unit)=>(.bool r)) (fun r u=>[]):=by
 refine eS hF func162 ntmps162 h ?_;let JJ:=Jn 27 [] F w0;refine y0 ?_;obtain ⟨a3,l4,q5,rfl⟩:=zA hv1;refine stw (jV [.slice a3 l4 q5,I r_0.xAction,I r_0.xChain]<|fun b6=>ma<|y4<|zfl st st ZU 0 zcj<|stw (zh call208 (fun w m h=>rf0 (zeU zj (m.q 1 hv1) (m.q 1 hgl0) h))<|fun r8 _=>jn st<|y1<|zg ?_ ?_))
 ·exact y0<|ma<|y6<|lu results162
 refine y13<|zfl st st Zw 0 ty3<|y26<|js st xo<|ma<|y1<|zg ?_ ?_
 ·refine zM (fun t69=>JJ [(2,.bool t69)] [zl w0 F]) ?_ ?_
  ·intro k70;refine zn<|zfl st st Zz 0 ty3<|V0 st<|mv ?_;refine jF (dj:=14) rfl ?_ ?_
   ·refine zfl sg sg Zz 0 ty3<|zX sg ?_;exact zK st<|ma<|zt<|lj [1]
   refine ss ?_;refine ss ?_;refine ss ?_;exact zD st<|ma<|zt<|lj [1]
  rintro t69;refine nxj<|uq (uE (xq ?_));exact lu results162
 refine zM (fun t131=>JJ [(1,pp b6),(19,.bool t131)] [zc b6 [.slice a3 l4 q5,I r_0.xAction,I r_0.xChain] 77,zl w0 F]) ?_ ?_
 ·intro k132;refine y0<|js st xo<|ma<|y1<|zg ?_ ?_
  ·exact ju<|lj [0,1]
  refine y0<|js st xo<|ma<|y1<|zg ?_ ?_
  ·exact ju<|lj [0,1]
  refine y0<|js st xo<|ma<|y1<|zg ?_ ?_
  ·exact ju<|lj [0,1]
  exact zn<|js st xo<|ma<|zt<|lj [0,1]
 rintro t131;refine nxj<|zg ?_ ?_
 ·exact y0<|zfl st st Zz 0 ty3<|js st xo<|ma<|y24<|lu results162
 refine ju (uU (zT (jw (zn ?_))));exact ma<|y3<|lu results162
theorem zeO {v1:Value} {list_0:(List zo)} {O:Bool->Prop} (hF:Fr [] F w0) (hv1:Sl xQ F w0 v1 list_0) (hgl0:Sl zU F w0 (.slice (some ⟨0,0,none⟩) 4 4) zu) (h:Y2 list_0 O) :
  Cl prog 109 #[v1] w0 [] F O (fun r (u:Unit)=>(.bool r)) (fun r u=>[]):=by
 refine eS hF func109 ntmps109 h ?_;let JJ:=Jn 18 [] F w0;refine y0<|ma<|y4<|mv<|zF st uW 0 (zb hv1)<|ug st<|y1<|zg ?_ ?_
 ·exact y0<|ma<|y6<|lu results109
 refine y13<|mv<|zF st uW 0 (zb hv1)<|mv<|y5<|z7 (fun t3=>JJ [(8,v1),(9,I (list_0.length:Int)),(10,I t3)] [zl w0 F]) (jI [0])<|fun nx4 t3=>nxj<|y0<|zX st<|y9<|zg ?_ ?_
 ·refine y11<|zz st 0 (zb hv1) uW<|fun e5 h6=>?_;obtain ⟨_,⟨v8,rfl,sl9⟩,rw7⟩:=jj hv1 h6;refine jC st (u:=(.agg #[v8,I e5.xAction,I e5.xChain])) 0 rw7 uP<|stw (zS [S0,I 0,I 0] xd<|fun b11=>?_);obtain ⟨a13,l14,q15,rfl⟩:=zA sl9;refine stw (zH (cs':=[.slice a13 l14 q15,I e5.xAction,I e5.xChain]) 0 uP<|y2<|zL st 0 uP<|stw (zh call162 (fun w m h=>rf0 (zbY zj (m.q 1 sl9) (m.q 1 hgl0) h))<|fun r16 _=>jn st<|y1<|zg ?_ ?_))
  ·exact y0<|ma<|y16<|lu results109
  exact y14<|zO st<|fun t17=>mv<|zt<|lj [1]
 exact y7<|ma<|y3<|lu results109
theorem zbi {v1:Value} {p0:(List zo)} {O:(List Int)->Prop} (hF:Fr [] F w0) (hv1:Sl xQ F w0 v1 p0) (h:XZ p0 O) :
  Cl prog 110 #[v1] w0 [] F O (fun r (u:Value)=>u) (fun r u=>[zf xT 3 u r]):=by
 refine eS hF func110 ntmps110 h ?_;let JJ:=Jn 34 [] F w0;refine y0<|stw (jM xT 3<|y2<|stw (uy (El':=zbG) (z:=(false:Bool)) (len:=5) (zs:=[.bool false]) (fun F w=>(zak _ _ _ _).2 rfl) zp1<|fun b4=>y4<|mv<|zF st uW 2 (zb hv1)<|mv<|y5<|z7 (fun (xs6,t8)=>JJ [(3,pp b4),(9,v1),(10,I (p0.length:Int)),(11,I t8)] [zf zbG 203 (.slice (some ⟨b4,0,none⟩) 5 5) xs6,zl w0 F]) (jI [0,2]) ?_));rintro nx9 ⟨xs6,t8⟩;refine nxj<|y0<|zX st<|y9<|zg ?_ ?_
 ·refine y18<|zM (fun xs84=>JJ [(3,pp b4),(9,v1),(10,I (p0.length:Int)),(11,I t8)] [zf zbG 203 (.slice (some ⟨b4,0,none⟩) 5 5) xs84,zl w0 F]) ?_ ?_
  ·intro k86;refine y20<|zz st 1 (zb hv1) uW<|fun e10 h11=>?_;obtain ⟨_,⟨v13,rfl,sl14⟩,rw12⟩:=jj hv1 h11;refine jC st (u:=(.agg #[v13,I e10.xAction,I e10.xChain])) 1 rw12 uP<|stw (zS [S0,I 0,I 0] xd<|fun b16=>?_);obtain ⟨a18,l19,q20,rfl⟩:=zA sl14;refine stw (zH (cs':=[.slice a18 l19 q20,I e10.xAction,I e10.xChain]) 0 uP<|y2<|zfl st st Zw 0 ty3<|js st xo<|y1<|zg ?_ ?_)
   ·exact zn<|zfl st st Zz 0 ty3<|xC st 1 ze zoh<|fun e21 h22=>stw (zaw (enc:=zaH) (y':=true) 1 zak h22 ty4<|y12<|lj [1,2])
   exact y23<|lj [1,2]
  rintro xs84;exact nxj<|zn<|zO st<|fun t87=>mv<|zt<|lj [0,1]
 refine y7<|stw (jM xT 3<|y4<|zpw 1 rfl<|fun e89 e90 e91 e92 e93=>stw (zo7 jO (u:=[.bool e89,.bool e90,.bool e91,.bool e92,.bool e93]) 1 ze zak zsf<|mv<|y5<|z7 (fun (xs96,t99) a w=>∃ v95,JJ [(6,v95),(22,.agg #[.bool e89,.bool e90,.bool e91,.bool e92,.bool e93]),(23,I t99)] [zf xT 3 v95 xs96] a w) (jE S0 [0]) ?_));rintro nx100 ⟨xs96,t99⟩;refine nxe<|fun v95=>y0<|zX st<|y9<|zg ?_ ?_
 ·refine y18<|zM (fun xs166 a w=>∃ v167,JJ [(6,v167),(22,.agg #[.bool e89,.bool e90,.bool e91,.bool e92,.bool e93]),(23,I t99)] [zf xT 3 v167 xs166] a w) ?_ ?_
  ·intro k169;refine y20<|mv<|zlD st (enc:=zaH) (zs:=[e89,e90,e91,e92,e93]) (u:=fun (e101:Bool)=>(.bool e101)) zoh (fun _=>rfl) (fun _=>rfl)<|fun e101=>ma<|ma<|y2<|mv<|y1<|zg ?_ ?_
   ·refine zn<|mv<|mv ?_;exact stw (jv (enc:=xy) (cells:=[I t99]) ([t99]) jA bz Zr YP<|fun v102=>stw (jW 1 0 (xj jA ze) Zr YP<|fun v104=>ma<|y12<|zN (xs96++([t99])) (jE v104 [1])))
   exact y23<|zN xs96 (jE v95 [0])
  rintro xs166;exact nxe<|fun v167=>zn<|zO st<|fun t170=>mv<|zt<|zN (xs166,t170) (jE v167 [0])
 exact y7<|mv<|ma<|y3<|e1t results110 xs96 v95 [0]
theorem zdU:∀ (n:Nat) {w0:World} {F:Nat->Prop} {b3:Nat} {v1:Value} {p0:(List (List zo))} {p1:Int} {p2:(List Int)} {O:(Bool×(List Int))->Prop} (hF:Fr [zf xT 204 (.slice (some ⟨b3,0,none⟩) 5 5) p2] F w0) (hg:xz [zf xT 204 (.slice (some ⟨b3,0,none⟩) 5 5) p2] F w0) (hv1:Sl (z8 xQ) F w0 v1 p0) (h:yG n p0 p1 p2 O),
  Cl prog 163 #[v1,(I p1),(pp b3)] w0 [zf xT 204 (.slice (some ⟨b3,0,none⟩) 5 5) p2] F O (fun r (u:Unit)=>(.bool r.1)) (fun r u=>[zf xT 204 (.slice (some ⟨b3,0,none⟩) 5 5) r.2]):=by
 intro n;induction n with
 | zero =>
  intro w0 F b3 v1 p0 p1 p2 O hF hg hv1 h;exact (h:False).elim
 | succ n ih =>
  intro w0 F b3 v1 p0 p1 p2 O hF hg hv1 h;replace h:Y3 (yG n) p0 p1 p2 O:=h;revert h ih;generalize yG n=rec;intro ih h;refine yO (args:=[v1,I p1,pp b3]) [zf xT 204 (.slice (some ⟨b3,0,none⟩) 5 5) p2] hF hg func163 rfl ntmps163 rfl h ?_;let JJ:=Jn 48 [zf xT 204 (.slice (some ⟨b3,0,none⟩) 5 5) p2] F w0;refine y0<|ma<|y4<|mv<|mv<|zF st xU 1 (zb hv1)<|V0 st<|y1<|zg ?_ ?_
  ·exact y0<|ma<|y6<|e1t results163 (true,p2) () [0]
  refine y13<|mv<|mv<|jB st<|xC st 0 ze zlE<|fun e5 h6=>jb st (enc:=xy) (u:=(I e5)) 0 ze jA h6 ty3<|y26<|js st xo<|ma<|y1<|zg ?_ ?_
  ·exact y0<|ma<|y24<|e1t results163 (false,p2) () [0]
  refine y0<|js st xo<|ma<|y1<|zg ?_ ?_
  ·exact y0<|ma<|y24<|e1t results163 (true,p2) () [0]
  refine ju (uU (zT (jw (zn ?_))));refine mv<|mv<|jB st<|xC st 0 ze zlE<|fun e7 h8=>stw (zaw (enc:=xy) (y':=1) 0 jA h8 ty3<|y2<|ma<|y4<|mv<|mv<|zz st 1 (zb hv1) xU<|fun e10 h11=>?_);obtain ⟨_,⟨v13,rfl,sl14⟩,rw12⟩:=jj hv1 h11;refine jC st (u:=v13) 1 rw12 Xq<|stw (zh call110 (fun w m h=>rfo jA (zbi zj (m.q 1 sl14) h))<|fun r16 v17=>zF st Zr 0 ze<|mv<|y5<|z7 (fun (xs19,t21,t22)=>JJ [(0,v1),(1,I p1),(2,pp b3),(7,.bool t21),(31,v17),(32,I (r16.length:Int)),(33,I t22)] [zf xT 3 v17 r16,zf xT 204 (.slice (some ⟨b3,0,none⟩) 5 5) xs19,zl w0 F]) (jI [0,1,2]) ?_);rintro nx23 ⟨xs19,t21,t22⟩;refine nxj<|y0<|zX st<|y9<|zg ?_ ?_
  ·refine y18<|zM (fun (xs89,t91)=>JJ [(0,v1),(1,I p1),(2,pp b3),(7,.bool t91),(31,v17),(32,I (r16.length:Int)),(33,I t22)] [zf xT 204 (.slice (some ⟨b3,0,none⟩) 5 5) xs89,zf xT 3 v17 r16,zl w0 F]) ?_ ?_
   ·intro k92;refine y20<|zz st 0 ze Zr<|fun e24 h25=>jb st (enc:=xy) (u:=(I e24)) 0 ze jA h25 ty3<|ma<|y2<|mv<|mv<|mv<|pk' [1,0,2]<|stw (zP (M0:=[zf xT 204 (.slice (some ⟨b3,0,none⟩) 5 5) xs19]) call163 (fun w m h=>rfo jA (ih zj m.given (m.qM 1 hv1) h)) ?_);rintro ⟨r26,r27⟩ _;refine jn st<|y1<|zg ?_ ?_
    ·exact zn<|ma<|y12<|lj [0,1,2]
    exact y23<|lj [0,1,2]
   rintro ⟨xs89,t91⟩;exact nxj<|zn<|zO st<|fun t93=>mv<|zt<|lj [1,0,2]
  exact y7<|mv<|mv<|jB st<|xC st 1 ze zlE<|fun e94 h95=>stw (zaw (enc:=xy) (y':=2) 1 jA h95 ty3<|y2<|mv<|ma<|y3<|e1t results163 (t21,xs19.set (p1).toNat 2) () [1])
theorem zeQ {b3:Nat} {v1:Value} {p0:(List (List zo))} {p1:Int} {p2:(List Int)} {O:(Bool×(List Int))->Prop} (hF:Fr [zf xT 204 (.slice (some ⟨b3,0,none⟩) 5 5) p2] F w0) (hg:xz [zf xT 204 (.slice (some ⟨b3,0,none⟩) 5 5) p2] F w0) (hv1:Sl (z8 xQ) F w0 v1 p0) (h:zbz p0 p1 p2 O) :
  Cl prog 163 #[v1,(I p1),(pp b3)] w0 [zf xT 204 (.slice (some ⟨b3,0,none⟩) 5 5) p2] F O (fun r (u:Unit)=>(.bool r.1)) (fun r u=>[zf xT 204 (.slice (some ⟨b3,0,none⟩) 5 5) r.2]):=by
 obtain ⟨n,h⟩:=h;exact zdU n hF hg hv1 h
theorem zc4 {v1:Value} {p0:(List (List zo))} {O:Bool->Prop} (hF:Fr [] F w0) (hv1:Sl (z8 xQ) F w0 v1 p0) (h:Us p0 O) :
  Cl prog 111 #[v1] w0 [] F O (fun r (u:Unit)=>(.bool r)) (fun r u=>[]):=by
 refine eS hF func111 ntmps111 h ?_;let JJ:=Jn 15 [] F w0;refine y0<|ma<|y2<|stw (uy (El':=xT) (z:=(0:Int)) (len:=5) (zs:=[I 0]) (fun F w=>(jA _ _ _ _).2 rfl) zpN<|fun b3=>y4<|mv<|zF st xU 1 (zb hv1)<|mv<|y5<|z7 (fun (xs5,t7)=>JJ [(0,v1),(3,pp b3),(6,I (p0.length:Int)),(7,I t7)] [zf xT 204 (.slice (some ⟨b3,0,none⟩) 5 5) xs5,zl w0 F]) (jI [0,1]) ?_);rintro nx8 ⟨xs5,t7⟩;refine nxj<|y0<|zX st<|y9<|zg ?_ ?_
 ·refine y11<|mv<|ma<|y2<|mv<|mv<|stw (zP (M0:=[zf xT 204 (.slice (some ⟨b3,0,none⟩) 5 5) xs5]) call163 (fun w m h=>rfo jA (zeQ zj m.given (m.qM 0 hv1) h)) ?_);rintro ⟨r9,r10⟩ _;refine jn st<|y1<|zg ?_ ?_
  ·exact y0<|ma<|y16<|lu results111
  exact y14<|zO st<|fun t12=>mv<|zt<|lj [0,1]
 exact y7<|ma<|y3<|lu results111
theorem yS {v1:Value} {s_0:zB} {O:Bool->Prop} (hF:Fr [] F w0) (hv1:Sl (z8 xQ) F w0 v1 s_0.xChains) (hgl0:Sl zU F w0 (.slice (some ⟨0,0,none⟩) 4 4) zu) (h:um s_0 O) :
  Cl prog 63 #[(.agg #[v1,(.bool s_0.xAccept)])] w0 [] F O (fun r (u:Unit)=>(.bool r)) (fun r u=>[]):=by
 refine eS hF func63 ntmps63 h ?_;let JJ:=Jn 54 [] F w0;refine y0 ?_;obtain ⟨a3,l4,q5,rfl⟩:=zA hv1;refine stw (jV [.slice a3 l4 q5,.bool s_0.xAccept]<|fun b6=>ma<|y9<|zM (fun t68=>JJ [(1,pp b6),(18,.bool t68)] [zc b6 [.slice a3 l4 q5,.bool s_0.xAccept] 25,zl w0 F]) ?_ ?_)
 ·intro k69;refine zn<|zfl st st jY 0 yX<|zF st xU 1 (zb hv1)<|zX st<|mv ?_;refine jF (dj:=13) rfl ?_ ?_
  ·refine ss ?_;refine ss ?_;refine ss ?_;refine ss ?_;exact zK st<|zt<|lj [0,1]
  refine zfl sg sg jY 0 yX<|zF sg xU 1 (zb hv1)<|ug sg ?_;exact zD st<|zt<|lj [0,1]
 rintro t68;refine nxj<|zg ?_ ?_
 ·exact y0<|ma<|y6<|lu results63
 refine y13<|zfl st st jY 0 yX<|zF st xU 1 (zb hv1)<|mv<|y5<|z7 (fun t70=>JJ [(1,pp b6),(20,.slice a3 l4 q5),(21,I (s_0.xChains.length:Int)),(22,I t70)] [zc b6 [.slice a3 l4 q5,.bool s_0.xAccept] 25,zl w0 F]) (jI [0,1])<|fun nx71 t70=>nxj<|y0<|zX st<|y9<|zg ?_ ?_
 ·refine y11<|zz st 1 (zb hv1) xU<|fun e72 h73=>?_;obtain ⟨_,⟨v75,rfl,sl76⟩,rw74⟩:=jj hv1 h73;refine jC st (u:=v75) 1 rw74 Xq<|ma<|y2<|mv<|stw (zh call109 (fun w m h=>rf0 (zeO zj (m.q 1 sl76) (m.q 1 hgl0) h))<|fun r78 _=>jn st<|y1<|zg ?_ ?_)
  ·exact y0<|ma<|y16<|lu results63
  exact y14<|zO st<|fun t79=>mv<|zt<|lj [0,1]
 refine y32<|zfl st st jY 0 yX<|zF st xU 1 (zb hv1)<|mv<|y5<|z7 (fun t80=>JJ [(1,pp b6),(31,.slice a3 l4 q5),(32,I (s_0.xChains.length:Int)),(33,I t80)] [zc b6 [.slice a3 l4 q5,.bool s_0.xAccept] 25,zl w0 F]) (jI [0,1])<|fun nx81 t80=>nxj<|y0<|zX st<|y9<|zg ?_ ?_
 ·refine y11<|zz st 1 (zb hv1) xU<|fun e82 h83=>?_;obtain ⟨_,⟨v85,rfl,sl86⟩,rw84⟩:=jj hv1 h83;refine jC st (u:=v85) 1 rw84 Xq<|ma<|y2<|mv<|stw (zh call110 (fun w m h=>rfo jA (zbi zj (m.q 1 sl86) h))<|fun r88 v89=>zF st Zr 0 ze<|mv<|y5<|z7 (fun t91=>JJ [(1,pp b6),(31,.slice a3 l4 q5),(32,I (s_0.xChains.length:Int)),(33,I t80),(38,v89),(39,I (r88.length:Int)),(40,I t91)] [zf xT 3 v89 r88,zc b6 [.slice a3 l4 q5,.bool s_0.xAccept] 25,zl w0 F]) (jI [0,1,2])<|fun nx92 t91=>nxj<|y0<|zX st<|y9<|zg ?_ ?_)
  ·refine y11<|zz st 0 ze Zr<|fun e93 h94=>jb st (enc:=xy) (u:=(I e93)) 0 ze jA h94 ty3<|ma<|y2<|mv<|zfl st st jY 1 yX<|zF st xU 2 (zb hv1)<|V0 st<|y1<|zg ?_ ?_
   ·refine y0<|ma<|zt (zT (uq (uE (xq (xq (uE (uE (xq (xq (uE (xq ?_)))))))))));exact lu results63
   exact y14<|zO st<|fun t95=>mv<|zt<|lj [0,1,2]
  exact y27<|zO st<|fun t96=>mv<|zt<|lj [1,2]
 exact y7<|zfl st st jY 0 yX<|stw (zh call111 (fun w m h=>rf0 (zc4 zj (m.q 1 hv1) h))<|fun r97 _=>ma<|y3<|lu results63)
theorem U6 {v1:Value} {r_0:zo} {O:xe->Prop} (hF:Fr [] F w0) (hv1:Sl jp F w0 v1 r_0.xTests) (h:uD r_0 O) :
  Cl prog 166 #[(.agg #[v1,(I r_0.xAction),(I r_0.xChain)])] w0 [] F O (fun r (u:Unit)=>(zaU r)) (fun r u=>[]):=by
 refine eS hF func166 ntmps166 h<|y0 ?_;obtain ⟨a3,l4,q5,rfl⟩:=zA hv1;refine stw (jV [.slice a3 l4 q5,I r_0.xAction,I r_0.xChain]<|fun b6=>ma<|y4<|zfl st st Zw 0 ty3<|y26<|js st xo<|ma<|y1<|zg ?_ ?_)
 ·exact y0<|jo st (cells:=[.bool true]) bz znK<|zfQ st (u:=(zaU (xe.kDeciding (yh.mk true)))) zn7<|ma<|y24<|lu results166
 refine y0<|js st xo<|ma<|y1<|zg ?_ ?_
 ·exact y0<|jo st (cells:=[.bool false]) bz znK<|zfQ st (u:=(zaU (xe.kDeciding (yh.mk false)))) zn7<|ma<|y24<|lu results166
 refine y0<|js st xo<|ma<|y1<|zg ?_ ?_
 ·refine y0<|zfl st st Zz 0 ty3 ?_;exact jo st (cells:=[I r_0.xChain]) bz zri<|zfQ st (u:=(zaU (xe.kCalling (Xi.mk r_0.xChain)))) zqU<|ma<|y24<|lu results166
 refine y0<|js st xo<|ma<|y1<|zg ?_ ?_
 ·exact y0<|jo st (cells:=[]) bz zqX<|zfQ st (u:=(zaU (xe.kReturning (ub.mk )))) zqN<|ma<|y24<|lu results166
 refine ju (uU (zT (jw (zn ?_))));exact jo st (cells:=[]) bz zrn<|zfQ st (u:=(zaU (xe.kPassing (yj.mk )))) zrj<|ma<|y3<|lu results166
theorem zbk {v1 v3:Value} {a_0 b_1:(List zk)} {O:(Int×Bool)->Prop} (hF:Fr [] F w0) (hv1:Sl zd F w0 v1 a_0) (hv3:Sl zd F w0 v3 b_1) (h:Yi a_0 b_1 O) :
  Cl prog 200 #[v1,v3] w0 [] F O (fun r (u:Unit)=>.tuple #[(I r.1),(.bool r.2)]) (fun r u=>[]):=by
 refine eS hF func200 ntmps200 h ?_;let JJ:=Jn 59 [] F w0;refine y0<|ma<|ma<|y4<|ma<|ma<|y5<|z7 (fun (t5,t6)=>JJ [(0,v1),(1,v3),(6,I t5),(7,I t6)] [zl w0 F]) (jI [0]) ?_;rintro nx7 ⟨t5,t6⟩;refine nxj<|jw<|zM (fun t68=>JJ [(0,v1),(1,v3),(6,I t5),(7,I t6),(18,.bool t68)] [zl w0 F]) ?_ ?_
 ·intro k69;refine zn<|mv<|mv<|zF st jJ 0 (zb hv1)<|zX st<|mv ?_;refine jF (dj:=13) rfl ?_ ?_
  ·refine zp sg<|zp sg<|zF sg jJ 0 (zb hv3)<|zX sg ?_;exact zK st<|zt<|lj [0]
  refine ss ?_;refine ss ?_;refine ss ?_;refine ss ?_;exact zD st<|zt<|lj [0]
 rintro t68;refine nxj<|zg ?_ ?_
 ·refine ju (zT (ui (jw ?_)));refine xA mixed 12 rfl [zl w0 F]<|zp (dI 0)<|zp (dI 1)<|zz (dI 2) 0 (zb hv1) jJ<|fun e70 h71=>jt (dI 3) 0 (zb hv1) h71 uu ?_;refine jb (dI 4) (enc:=zR) (u:=(I e70.xLo)) 0 (zb hv1) zx h71 ty3<|zp (dI 5)<|zp (dI 6)<|zz (dI 7) 0 (zb hv3) jJ<|fun e72 h73=>jt (dI 8) 0 (zb hv3) h73 uu ?_;refine jb (dI 9) (enc:=zR) (u:=(I e72.xLo)) 0 (zb hv3) zx h73 ty3<|zh5 (dI 10)<|jU (dI 11)<|zY<|zT (jw (jw ?_));refine xA mixed 13 rfl [zl w0 F]<|zp (dI 0)<|zp (dI 1)<|zp (dI 2)<|zz (dI 3) 0 (zb hv1) jJ<|fun e74 h75=>jt (dI 4) 0 (zb hv1) h75 xn ?_;refine jb (dI 5) (enc:=zR) (u:=(I e74.xHi)) 0 (zb hv1) zx h75 ty3<|zp (dI 6)<|zp (dI 7)<|zz (dI 8) 0 (zb hv3) jJ<|fun e76 h77=>jt (dI 9) 0 (zb hv3) h77 xn ?_;refine jb (dI 10) (enc:=zR) (u:=(I e76.xHi)) 0 (zb hv3) zx h77 ty3<|zav (dI 11)<|ZC (dI 12)<|zY<|zT<|zg ?_ ?_
  ·refine y0<|mv<|ma<|ma<|zt (zT (uq (xq (uE (xq (uE (xq ?_)))))));exact xv results200 (max e70.xLo e72.xLo,true) () (uZ rfl) (uZ rfl) rfl (fun _ _=>yr.nil _ _ _ _)
  refine ju (zT (jw ?_));refine xA mixed 11 rfl [zl w0 F]<|zp (dI 0)<|zp (dI 1)<|zz (dI 2) 0 (zb hv1) jJ<|fun e78 h79=>jt (dI 3) 0 (zb hv1) h79 xn ?_;refine jb (dI 4) (enc:=zR) (u:=(I e78.xHi)) 0 (zb hv1) zx h79 ty3<|zp (dI 5)<|zp (dI 6)<|zz (dI 7) 0 (zb hv3) jJ<|fun e80 h81=>jt (dI 8) 0 (zb hv3) h81 xn ?_;refine jb (dI 9) (enc:=zR) (u:=(I e80.xHi)) 0 (zb hv3) zx h81 ty3<|zX (dI 10)<|zY<|zT<|zg ?_ ?_
  ·exact zn<|mv<|zO st<|fun t82=>ma<|y12<|lj [0]
  exact zn<|mv<|zO st<|fun t83=>ma<|y12<|lj [0]
 exact y7<|ma<|ma<|y3<|xv results200 (0,false) () (uZ rfl) (uZ rfl) rfl (fun _ _=>yr.nil _ _ _ _)
end
section
open Go.RowKit Go.Proofs.Tryz
variable {w0:World} {F:Nat->Prop}
theorem zgf {p0:zhV} {O:zZ->Prop} (hF:Fr [] F w0) (h:zat p0 O) :
  Cl prog 201 #[(.agg #[(I p0.x0),(I p0.x1),(I p0.x2),(I p0.x3)])] w0 [] F O (fun r (u:Unit)=>(.agg #[(I r.xFrom),(I r.xTo),(I r.xPort),(I r.xProto)])) (fun r u=>[]):=by
 exact yo (args:=[.agg #[I p0.x0,I p0.x1,I p0.x2,I p0.x3]]) [] hF (xz.nil _ _) func201 rfl ntmps201 rfl h<|y0<|stw (Ys (El':=xT) (len:=4) ([p0.x0,p0.x1,p0.x2,p0.x3]) ([[I p0.x0],[I p0.x1],[I p0.x2],[I p0.x3]]) (fun w m=>⟨(jA _ _ _ _).2 rfl,(jA _ _ _ _).2 rfl,(jA _ _ _ _).2 rfl,(jA _ _ _ _).2 rfl,trivial⟩)<|fun b1=>stw (zS [I 0,I 0,I 0,I 0] zfE<|fun b3=>y2<|xC st 1 ze zdX<|fun e5 h6=>jb st (enc:=xy) (u:=(I e5)) 1 ze jA h6 ty3<|xC st 1 ze zdX<|fun e7 h8=>jb st (enc:=xy) (u:=(I e7)) 1 ze jA h8 ty3<|xC st 1 ze zdX<|fun e9 h10=>jb st (enc:=xy) (u:=(I e9)) 1 ze jA h10 ty3<|xC st 1 ze zdX<|fun e11 h12=>jb st (enc:=xy) (u:=(I e11)) 1 ze jA h12 ty3<|jo st (cells:=[I e5,I e7,I e9,I e11]) bz zmQ<|stw (zH (cs':=[I e5,I e7,I e9,I e11]) 0 zbO<|y3<|Zd results201 (zZ.mk e5 e7 e9 e11) () (uX 0 rfl rfl zbO rfl) (fun _ _=>yr.nil _ _ _ _))))
end
end Go.Proofs.YtgpdnnhmndlljaaGreatDoor
