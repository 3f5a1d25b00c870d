import Derived.Test.YtgpdnnhmndlljaaGreatDoorMA1
import Derived.Test.YtgpdnnhmndlljaaGreatDoorMP12
import Derived.Lib.AppendZeros
import Derived.ArgAppend
import Derived.Test.YtgpdnnhmndlljaaGreatDoorRows
import Derived.Test.YtgpdnnhmndlljaaGreatDoorLibS
set_option linter.unusedSimpArgs false
set_option linter.unusedVariables false
set_option linter.unusedSectionVars false
set_option maxHeartbeats 8000000
set_option maxRecDepth 100000
namespace Go.Proofs.YtgpdnnhmndlljaaGreatDoor
section
open Go.RowKit
abbrev I (x:Int):Value:=.int .i64 x
abbrev pp (b:Nat):Value:=.pointer (some ⟨b,0,none⟩)
abbrev S0:Value:=.slice none 0 0
abbrev Y:Bool:=true
abbrev Z:Bool:=false
section
variable {P:Program} {n:Nat} {G D:Nat→Prop} {w0:World} {Q:Exit→Act→World→Prop} {ops:Array Oper} {rest:List Oper} {R:Act→World→Prop} {E E':Env} {L L' Lb:List Ch} {φ:Prop} {k:Nat} {listed:Array Bool}
theorem g1 {α:Type} {a:α}:a=a∧True:=⟨rfl,trivial⟩
theorem g2 {α:Type} {a b:α}:a=a∧b=b∧True:=⟨rfl,g1⟩
theorem g3 {α:Type} {a b c:α}:a=a∧b=b∧c=c∧True:=⟨rfl,g2⟩
theorem g4 {α:Type} {a b c d:α}:a=a∧b=b∧c=c∧d=d∧True:=⟨rfl,g3⟩
theorem g5 {α:Type} {a b c d e:α}:a=a∧b=b∧c=c∧d=d∧e=e∧True:=⟨rfl,g4⟩
theorem g6 {α:Type} {a b c d e f:α}:a=a∧b=b∧c=c∧d=d∧e=e∧f=f∧True:=⟨rfl,g5⟩
theorem rh (l:List Nat) (h:Nx n G D w0 R E' L' φ) (hs:zgm E E':=by repeat (first | exact trivial | refine ⟨rfl,?_⟩)) (hl:Yt L l=L':=by rfl) (hn:Yx l=true:=by rfl):Nx n G D w0 R E L φ:=by
 subst hl;exact pk l hn (re hs h)
theorem pk' (l:List Nat) (h:Nx n G D w0 R E (Yt L l) φ) (hl:Yx l=true:=by rfl):Nx n G D w0 R E L φ:=pk l hl h
theorem da (l:List Nat) {K:Act→World→Prop} (h:Nx n G D w0 K E L φ) (hl:Yt L l=Lb:=by rfl) (hn:Yx l=true:=by rfl):Nx n G D w0 (fun a w=>Mem G D w0 Lb w∧K a w) E L φ:=by
 subst hl;exact x8 (fun w m=>m.pick l hn) h
theorem rd (l1 l2:List Nat) {K:Act→World→Prop} (h:Nx n G D w0 K E' L' φ) (hs:zgm E E':=by repeat (first | exact trivial | refine ⟨rfl,?_⟩)) (hl2:Yt L l2=L':=by rfl) (hn2:Yx l2=true:=by rfl) (hl:Yt L l1=Lb:=by rfl) (hn:Yx l1=true:=by rfl):Nx n G D w0 (fun a w=>Mem G D w0 Lb w∧K a w) E L φ:=by
 subst hl;exact x8 (fun w m=>m.pick l1 hn) (rh l2 h hs hl2 hn2)
theorem dp {dst:Option Tmp} {op:Op} {ty:TypeId} {pos:String} {aft:Array Edge} (i:Nat) (l:List Nat) [hQ:PanicOk Q] (hl:Yt L l=Lb:=by rfl) (hn:Yx l=true:=by rfl) (hi:ops[i]?=some ⟨dst,op,ty,pos,aft,none⟩:=by rfl) (hr:zgN ops listed i=true:=by kernel_rfl) :
  uk P n G D w0 E ⟨dst,op,ty,pos,aft,none⟩ (wpAnyH P .any ops Q (Mem G D w0 Lb) (k+1) listed) (wpAnyH P .any ops Q (Mem G D w0 Lb) k (listed.setIfInBounds i true)) Lb L:=by
 subst hl;exact dt i (fun w m=>m.pick l hn) hi hr
theorem dI {dst:Option Tmp} {op:Op} {ty:TypeId} {pos:String} {aft:Array Edge} (i:Nat) [hQ:PanicOk Q] (hi:ops[i]?=some ⟨dst,op,ty,pos,aft,none⟩:=by rfl) (hr:zgN ops listed i=true:=by kernel_rfl) :
  uk P n G D w0 E ⟨dst,op,ty,pos,aft,none⟩ (wpAnyH P .any ops Q (Mem G D w0 L) (k+1) listed) (wpAnyH P .any ops Q (Mem G D w0 L) k (listed.setIfInBounds i true)) L L:=dt i (fun _ m=>m) hi hr
theorem dK (i:Nat) {op:Op} {ty:TypeId} {pos:String} {aft:Array Edge} {d:Tmp} {j dj:Nat} {want:Bool} {v:Value} [hQ:PanicOk Q] (h:Nx n G D w0 (wpAnyH P .any ops Q (Mem G D w0 L) k (listed.setIfInBounds i true)) ((d,undef) :: E) L φ)
  (hi:ops[i]?=some ⟨some d,op,ty,pos,aft,some (j,want)⟩:=by rfl) (hr:zgN ops listed i=true:=by kernel_rfl) (hj:(ops[j]?).bind (·.dst)=some dj:=by rfl) (hv:UB E dj=some v:=by rfl) (hb:nw v want=true:=by rfl) (hd:Nat.blt d n=true:=by rfl):Nx n G D w0 (wpAnyH P .any ops Q (Mem G D w0 L) (k+1) listed) E L φ :=
 dsk i (fun _ m=>m) hi hr hj hv hb hd h
theorem ss {op:Op} {ty:TypeId} {pos:String} {aft:Array Edge} {d:Tmp} {j dj:Nat} {want:Bool} {v:Value} (h:Nx n G D w0 (wpList P ops Q rest) ((d,undef) :: E) L φ) (hj:(ops[j]?).bind (·.dst)=some dj:=by rfl) (hv:UB E dj=some v:=by rfl) (hb:nw v want=true:=by rfl) (hd:Nat.blt d n=true:=by rfl):Nx n G D w0 (wpList P ops Q (⟨some d,op,ty,pos,aft,some (j,want)⟩ :: rest)) E L φ :=
 znj hj hv hb hd h
theorem mv {d:Tmp} {x:Operand} {ty:TypeId} {pos:String} {aft:Array Edge} {v:Value} (h:Nx n G D w0 (wpList P ops Q rest) ((d,v) :: E) L φ) (hx:oev E x=some v:=by rfl) (hd:Nat.blt d n=true:=by rfl):Nx n G D w0 (wpList P ops Q (⟨some d,.move x,ty,pos,aft,none⟩ :: rest)) E L φ:=Y4 st hx hd h
theorem ma {d:Tmp} {x:Operand} {ty:TypeId} {pos:String} {aft:Array Edge} {v:Value} (h:Nx n G D w0 (wpList P ops Q rest) ((d,v) :: E) L φ) (hx:oev E x=some v:=by rfl) (hd:Nat.blt d n=true:=by rfl):Nx n G D w0 (wpList P ops Q (⟨some d,.assign x,ty,pos,aft,none⟩ :: rest)) E L φ:=zbJ st hx hd h
theorem jI (l:List Nat) (hs:zgm E E':=by repeat (first | exact trivial | refine ⟨rfl,?_⟩)) (hl:Yt L l=L':=by rfl) (hn:Yx l=true:=by rfl):∀ a w,Has n E a→Mem G D w0 L w→Has n E' a∧Mem G D w0 L' w:=by
 subst hl;exact fun a w hE hm=>⟨hE.sub hs,hm.pick l hn⟩
theorem jE {α:Type} {E':α→Env} {L':α→List Ch} (v:α) (l:List Nat) (hs:zgm E (E' v):=by repeat (first | exact trivial | refine ⟨rfl,?_⟩)) (hl:Yt L l=L' v:=by rfl) (hn:Yx l=true:=by rfl):∀ a w,Has n E a→Mem G D w0 L w→∃ v,Has n (E' v) a∧Mem G D w0 (L' v) w:=fun a w hE hm=>⟨v,hE.sub hs,hl ▸ hm.pick l hn⟩
theorem lj {σ:Type} {k:σ→Prop} {Rel:σ→Act→World→Prop} {s:σ} (l:List Nat) (hφ:φ→k s:=by exact fun x=>x) (hr:∀ a w,Has n E' a→Mem G D w0 L' w→Rel s a w:=by exact fun _ _ x y=>⟨x,y⟩) (hs:zgm E E':=by repeat (first | exact trivial | refine ⟨rfl,?_⟩)) (hl:Yt L l=L':=by rfl) (hn:Yx l=true:=by rfl):Nx n G D w0 (Exit.then (fun a w=>∃ s,k s∧Rel s a w) Q .normal) E L φ:=by
 subst hl;exact fun a w hE hm h=>zP s (fun a w hE hm=>hr a w (hE.sub hs) (hm.pick l hn)) a w hE hm (hφ h)
theorem dj {σ:Type} {K:σ→Prop} {Rel:σ→Act→World→Prop} {s:σ} (hQ:∀ s a w,K s→Rel s a w→Q .normal a w) (l:List Nat) (hφ:φ→K s:=by exact fun x=>x) (hr:∀ a w,Has n E' a→Mem G D w0 L' w→Rel s a w:=by exact fun _ _ x y=>⟨x,y⟩) (hs:zgm E E':=by repeat (first | exact trivial | refine ⟨rfl,?_⟩)) (hl:Yt L l=L':=by rfl) (hn:Yx l=true:=by rfl) (hd:Region.ready .any ops listed=[]:=by kernel_rfl):Nx n G D w0 (wpAnyH P .any ops Q (Mem G D w0 Lb) k listed) E L φ:=by
 subst hl;exact jp hd (fun a w hE hm h=>hQ s a w (hφ h) (hr a w (hE.sub hs) (hm.pick l hn)))
end
abbrev Jn (n:Nat) (M0:List Ch) (F:Nat→Prop) (w0:World) (E:Env) (L:List Ch) (a:Act) (w:World):Prop:=Has n E a∧Mem (gB F M0 w0) (ut M0) w0 L w
abbrev Nn (n:Nat) (M0:List Ch) (F:Nat→Prop) (w0:World) (P:Program) (ops:Array Oper) (Q:Exit→Act→World→Prop) (Lb:List Ch) (i:Nat) (l:Array Bool) (E:Env) (L:List Ch) (φ:Prop):Prop :=
 Nx n (gB F M0 w0) (ut M0) w0 (wpAnyH P .any ops Q (Mem (gB F M0 w0) (ut M0) w0 Lb) i l) E L φ
abbrev Fr (M0:List Ch) (F:Nat→Prop) (w0:World):Prop:=∀ b,F b→b<w0.heap.size∧¬ ut M0 b
theorem nxj {n:Nat} {G D:Nat→Prop} {w0:World} {R:Act→World→Prop} {E:Env} {L:List Ch} {φ:Prop} (h:Nx n G D w0 R E L φ):∀ a w,(Has n E a∧Mem G D w0 L w)→φ→R a w:=fun a w x y=>h a w x.1 x.2 y
def bq (E:Env):List (Nat×Operand)→Option (List (Nat×Value))
 | []=>some []
 | (i,x) :: r=>match oev E x,bq E r with
  | some v,some q=>some ((i,v) :: q)
  | _,_=>none
theorem bqi {E:Env}:∀ {l:List (Nat×Operand)} {qs:List (Nat×Value)},bq E l=some qs→∀ ρ:Operand→Value,(∀ x v,oev E x=some v→ρ x=v)→(l.toArray.map fun (i,x)=>(i,ρ x))=qs.toArray
 | [],qs,h,ρ,hρ=>by cases h;simp
 | (i,x) :: r,qs,h,ρ,hρ=>by
  unfold bq at h
  cases e1:oev E x with
  | none=>rw [e1] at h;cases h
  | some v =>
   cases e2:bq E r with
   | none=>rw [e1,e2] at h;cases h
   | some q =>
    rw [e1,e2] at h
    cases h
    have:=bqi e2 ρ hρ
    simp only [List.map_toArray,List.map_cons] at this ⊢
    rw [hρ x v e1,List.toArray_inj this]
section
variable {P:Program} {n:Nat} {G D:Nat→Prop} {w0:World} {E:Env} {L:List Ch}
theorem lu {M0:List Ch} {ρ:Type} {F:Nat→Prop} {fn:Func} {s:Nat} {κ:ρ→Prop} {val:ρ→Unit→Value} {r:ρ} (hres:fn.results=#[.tmp s]) (hs:UB E s=some (val r ()):=by rfl):Nx n G (ut M0) w0 (bodyPost P fn (Ret M0 F w0 κ val (fun _ _=>[])) .ret) E L (κ r):=jj hres r () (ju hs) (fun _ _=>zN.nil _ _ _ _)
theorem d1 {dst:Option Tmp} {op:Op} {ty:TypeId} {pos:String} {aft:Array Edge} {ops:Array Oper} {Q:Exit→Act→World→Prop} {Lb:List Ch} {k:Nat} {listed:Array Bool} {φ:Prop} (i:Nat) (hi:ops[i]?=some ⟨dst,op,ty,pos,aft,none⟩)
  (h:Nx n G D w0 (fun a w=>Oper.wp P ⟨dst,op,ty,pos,aft,none⟩ a w (fun a' w'=>Mem G D w0 Lb w'∧wpAnyH P .any ops Q (Mem G D w0 Lb) k (listed.setIfInBounds i true) a' w') Q) E L φ) (hr:Region.ready .any ops listed=[i]:=by kernel_rfl):Nx n G D w0 (wpAnyH P .any ops Q (Mem G D w0 Lb) (k+1) listed) E L φ:=zlv hi hr h
end
theorem eS {P:Program} {n:Nat} {w0:World} {φ:Prop} {F:Nat→Prop} {f:Nat} {fn:Func} {c:Code} {args:List Value} {K:Ending→World→Prop} (hF:Fr [] F w0) (hf:P.funcs[f]?=some fn) (hn:fn.ntmps=n) (hφ:φ) (h:Nx n (gB F [] w0) (ut []) w0 (c.wp P (bodyPost P fn K)) (zaX 0 args) ([]++[zl w0 F]) φ) (hb:fn.body=some c:=by rfl) (hle:Nat.ble args.length n=true:=by rfl):Calls P f args.toArray w0 K :=
 yw [] hF (x5.nil _ _) hf hb hn hle hφ h
abbrev Cl (P:Program) (f:Nat) (ar:Array Value) (w0:World) {ρ ν:Type} (M0:List Ch) (F:Nat→Prop) (κ:ρ→Prop) (val:ρ→ν→Value) (N:ρ→ν→List Ch):Prop:=Calls P f ar w0 (Ret M0 F w0 κ val N)
theorem Xz {α:Type} {E':El α} {F:Nat→Prop} {w:World} {v1 v2 v3 v4:Value} {a b c d:List α} (h1:Sl E' F w v1 a) (h2:Sl E' F w v2 b) (h3:Sl E' F w v3 c) (h4:Sl E' F w v4 d):Rows (zY E') F w [a,b,c,d] [[v1],[v2],[v3],[v4]]:=⟨⟨v1,rfl,h1⟩,⟨v2,rfl,h2⟩,⟨v3,rfl,h3⟩,⟨v4,rfl,h4⟩,trivial⟩
theorem dtw {P:Program} {n:Nat} {G D:Nat→Prop} {w0:World} {E:Env} {L Lb:List Ch} {ops:Array Oper} {Q:Exit→Act→World→Prop} {k:Nat} {listed:Array Bool} {φ:Prop} {o1 o2:Oper} (i j:Nat) (hi:ops[i]?=some o1) (hj:ops[j]?=some o2)
  (h1:Nx n G D w0 (fun a w=>Oper.wp P o1 a w (fun a' w'=>Mem G D w0 Lb w'∧wpAnyH P .any ops Q (Mem G D w0 Lb) k (listed.setIfInBounds i true) a' w') Q) E L φ)
  (h2:Nx n G D w0 (fun a w=>Oper.wp P o2 a w (fun a' w'=>Mem G D w0 Lb w'∧wpAnyH P .any ops Q (Mem G D w0 Lb) k (listed.setIfInBounds j true) a' w') Q) E L φ)
  (hg1:o1.guard=none:=by rfl) (hg2:o2.guard=none:=by rfl) (hr:Region.ready .any ops listed=[i,j]:=by kernel_rfl):Nx n G D w0 (wpAnyH P .any ops Q (Mem G D w0 Lb) (k+1) listed) E L φ :=
 zmH (by rw [hi];simp [hg1]) (by rw [hj];simp [hg2]) hr (fun o ho=>by rw [hi] at ho;cases ho;exact h1) (fun o ho=>by rw [hj] at ho;cases ho;exact h2)
theorem rf {P:Program} {f:Nat} {ar:Array Value} {ρ ν:Type} {M0:List Ch} {F F':Nat→Prop} {w:World} {κ:ρ→Prop} {val:ρ→ν→Value} {N:ρ→ν→List Ch} (hf:∀ r s,∀ c∈N r s,c.free) (h:Calls P f ar w (Ret M0 F w κ val N)):Calls P f ar w (Ret M0 F' w κ val N):=h.mono (fun _ _ k=>zjO hf k)
theorem rf0 {P:Program} {f:Nat} {ar:Array Value} {ρ ν:Type} {M0:List Ch} {F F':Nat→Prop} {w:World} {κ:ρ→Prop} {val:ρ→ν→Value} (h:Calls P f ar w (Ret M0 F w κ val (fun _ _=>[]))):Calls P f ar w (Ret M0 F' w κ val (fun _ _=>[])):=rf (fun _ _=>zK) h
theorem Mem.q {G D:Nat→Prop} {w0 wr:World} {F0:Nat→Prop} {α:Type} {El':El α} {v:Value} {xs:List α} {w:World} {L:List Ch} (m:Mem G D w0 L w) (i:Nat) (S:Sl El' F0 wr v xs) (hi:xz L i=some (zl wr F0):=by rfl):Sl El' (fun b=>b<w.heap.size∧¬ ut [] b) w v xs:=m.rd0 i hi (zb S)
theorem Mem.qM {G D:Nat→Prop} {w0 wr:World} {F0:Nat→Prop} {α:Type} {El':El α} {v:Value} {xs:List α} {w:World} {M0 L':List Ch} (m:Mem G D w0 (M0++L') w) (i:Nat) (S:Sl El' F0 wr v xs) (hi:xz L' i=some (zl wr F0):=by rfl):Sl El' (fun b=>b<w.heap.size∧¬ ut M0 b) w v xs:=m.rdM i hi (zb S)
end
section
open Go.RowKit
section
variable {P:Program} {n:Nat} {G D:Nat→Prop} {w0:World} {Q:Exit→Act→World→Prop} {ops:Array Oper} {rest:List Oper} {R:Act→World→Prop} {E:Env} {L:List Ch} {φ:Prop}
theorem zj {c:Operand} {x y:Code} {t:Bool} {A B:Prop} (hx:Nx n G D w0 (x.wp P Q) E L A) (hy:Nx n G D w0 (y.wp P Q) E L B) (hc:oev E c=some (.bool t):=by rfl):Nx n G D w0 ((Code.cond c x y).wp P Q) E L (ifW t A B) :=
 fun a w hE hm hφ=>wp_cond_split (hE.eval hc) (fun h=>hx a w hE hm (hφ.1 h)) (fun h=>hy a w hE hm (hφ.2 h))
end
section
variable {P:Program} {n:Nat} {G D:Nat→Prop} {w0:World} {Q:Exit→Act→World→Prop} {R:Act→World→Prop} {E:Env} {L Lb:List Ch} {φ:Prop}
variable {dst:Option Tmp} {op:Op} {ty:TypeId} {pos:String} {aft:Array Edge} {ops:Array Oper} {listed:Array Bool} {k:Nat}
end
section
variable {P:Program} {n:Nat} {G D:Nat→Prop} {w0:World} {Q:Exit→Act→World→Prop} {R:Act→World→Prop} {E:Env} {L M:List Ch} {φ:Prop}
variable {d:Tmp} {ty:TypeId} {pos:String} {aft:Array Edge} {gd:Option (Nat×Bool)} {Tk:Act→World→Prop} {Lr:List Ch} {x y:Operand} {T T' S:TypeId} {e sz by':Nat}
end
section
variable {P:Program} {n:Nat} {G D:Nat→Prop} {w0:World} {Q:Exit→Act→World→Prop} {R:Act→World→Prop} {E:Env} {L:List Ch} {φ:Prop}
variable {d:Tmp} {ty:TypeId} {pos:String} {aft:Array Edge} {gd:Option (Nat×Bool)} {Tk:Act→World→Prop} {Lr:List Ch} {x y:Operand} {T T' S:TypeId} {e sz by':Nat}
end
section
variable {P:Program} {n:Nat} {G D:Nat→Prop} {w0:World} {Q:Exit→Act→World→Prop} {R:Act→World→Prop} {E:Env} {L:List Ch} {φ:Prop}
variable {d:Tmp} {ty:TypeId} {pos:String} {aft:Array Edge} {gd:Option (Nat×Bool)} {Tk:Act→World→Prop} {Lr:List Ch} {x y:Operand} {T T':TypeId}
theorem zU (M:uk P n G D w0 E ⟨some d,.binOp .add T x y T',ty,pos,aft,gd⟩ Tk R Lr L) {X Y:Int} {κ:Int→Prop} (k:∀ z,Nx n G D w0 R ((d,.int .i64 z) :: E) L (κ z)) (hx:oev E x=some (.int .i64 X):=by rfl) (hy:oev E y=some (.int .i64 Y):=by rfl) (hd:Nat.blt d n=true:=by rfl):Nx n G D w0 Tk E L (js X Y κ) :=
 M.val (v:=.int .i64 (X+Y)) hd rfl (fun ρ w hE _ hφ=>by
  have h:=hφ.1
  have e:IntKind.i64.wrap (X+Y)=X+Y:=by unfold I64 at h;rw [IntKind.wrap_i64];omega
  simp [execOp,hE _ _ hx,hE _ _ hy,go_sem,e]) (fun h=>h.2) (k _)
theorem YO (M:uk P n G D w0 E ⟨some d,.binOp .add T x y T',ty,pos,aft,gd⟩ Tk R Lr L) {X Y:Int} (k:Nx n G D w0 R ((d,.int .i64 (w64 (X+Y))) :: E) L φ) (hx:oev E x=some (.int .i64 X):=by rfl) (hy:oev E y=some (.int .i64 Y):=by rfl) (hd:Nat.blt d n=true:=by rfl):Nx n G D w0 Tk E L φ :=
 M.val hd rfl (fun ρ w hE _ _=>by simp [execOp,hE _ _ hx,hE _ _ hy,go_sem,w64]) id k
end
section
variable {P:Program} {n:Nat} {G D:Nat→Prop} {w0:World} {Q:Exit→Act→World→Prop} {R:Act→World→Prop} {E:Env} {L:List Ch} {φ:Prop}
variable {d:Tmp} {ty:TypeId} {pos:String} {aft:Array Edge} {gd:Option (Nat×Bool)} {Tk:Act→World→Prop} {Lr:List Ch} {x y:Operand} {T T' S:TypeId}
theorem jg (cs:List Value) (hz:uH P T=some cs) (k:∀ b,Nx n G D w0 R ((d,.pointer (some ⟨b,0,none⟩)) :: E) (zc b cs T :: L) φ) (hd:Nat.blt d n=true:=by rfl):Nx n G D w0 (fun a w=>Oper.wp P ⟨some d,.alloc T,ty,pos,aft,gd⟩ a w R Q) E L φ:=zb5 hd cs hz k
end
section
variable {P:Program} {n:Nat} {G D:Nat→Prop} {w0:World} {Q:Exit→Act→World→Prop} {R:Act→World→Prop} {E:Env} {L:List Ch} {φ:Prop}
variable {d:Tmp} {ty:TypeId} {pos:String} {aft:Array Edge} {gd:Option (Nat×Bool)} {Tk:Act→World→Prop} {Lr:List Ch} {x y:Operand} {T T' S:TypeId} {e sz by':Nat}
theorem ue {α:Type} {El':El α} {z:α} {len:Nat} {cs zs:List Value} (hz:∀ F w,El'.cells F w z zs) (hzr:uH P T=some cs) (k:∀ b,Nx n G D w0 R ((d,.pointer (some ⟨b,0,none⟩)) :: E) (ze El' T (.slice (some ⟨b,0,none⟩) len len) (List.replicate len z) :: L) φ) (hd:Nat.blt d n=true:=by rfl) (hcs:(List.replicate len zs).flatten=cs:=by rfl) (hlen:Nat.ble len 65536=true:=by rfl):Nx n G D w0 (fun a w=>Oper.wp P ⟨some d,.alloc T,ty,pos,aft,gd⟩ a w R Q) E L φ :=
 XX hd rfl fun ρ w hE hm hφ=>by
  unfold uH at hzr
  cases hi:P.info? T with
  | none=>simp [hi] at hzr
  | some i =>
   cases hz':i.zero with
   | none=>simp [hi,hz'] at hzr
   | some zv =>
    simp [hi,hz'] at hzr
    have hlz:zs.length=El'.size:=El'.len _ _ _ _ (hz (fun _=>True) w)
    refine ⟨_,w.alloc (.cells cs.toArray T),_,φ,by simp [execOp,Instr.alloc,zeroValue,typeInfo,hi,hz',newVar,newRow,← hzr],?_,hφ,k w.heap.size⟩
    refine hm.add _ ((Below.refl _ _).alloc (Nat.le_refl _) _) (fun b hb=>by simp [ze,Value.ownBlock] at hb;rw [World.size_alloc];omega) ?_
    have hle:=Nat.le_of_ble_eq_true hlen
    have hown:=zbp (El':=El') (F:=fz G (ze El' T (.slice (some ⟨w.heap.size,0,none⟩) len len) (List.replicate len z) :: L) (w.alloc (.cells cs.toArray T))) (w:=w.alloc (.cells cs.toArray T)) (ty:=T) (b:=w.heap.size) (cap:=len)
     (Rows.replicate (hz _ _) len) (heap_alloc_new w _) (by simp) (by unfold maxLen;omega) (by rw [← hcs];simp [hlz]) (by
      rw [← hcs,List.length_replicate,List.take_of_length_le (by simp [hlz])])
    rw [List.length_replicate] at hown
    exact hown
end
section
variable {P:Program} {n:Nat} {G D:Nat→Prop} {w0:World} {Q:Exit→Act→World→Prop} {R:Act→World→Prop} {E:Env} {L:List Ch} {φ:Prop}
variable {d:Tmp} {ty:TypeId} {pos:String} {aft:Array Edge} {gd:Option (Nat×Bool)} {Tk:Act→World→Prop} {Lr:List Ch} {x y:Operand} {T T' S:TypeId} {e sz by':Nat}
theorem xv {α:Type} {El':El α} {v u:Value} {xs ys:List α} {c:Ch} {κ:List α→Prop} {zs:List Value} (i:Nat) (j:Nat) (hc:Src c El' u ys) (hT:elB P T=some (e,sz,by')) (hzr:uH P e=some zs) (k:∀ v',Nx n G D w0 R ((d,v') :: E) (yG L i (ze El' e v' (xs++ys))) (κ (xs++ys))) (hi:xz L i=some (ze El' e v xs):=by rfl) (hj:xz L j=some c:=by rfl) (hx:oev E x=some v:=by rfl) (hy:oev E y=some u:=by rfl) (hd:Nat.blt d n=true:=by rfl) (hby:Nat.ble by' 32768=true:=by rfl) (hzl:zs.length=sz:=by rfl) (hes:El'.size=sz:=by rfl):Nx n G D w0 (fun a w=>Oper.wp P ⟨some d,.call {callee:=.builtin .append,args:=#[x,y],argTypes:=#[T,T]},ty,pos,aft,gd⟩ a w R Q) E L (xm xs ys κ):=zlp i j hi hj hc hx hy hd hT hby hzr hzl hes k
end
section
variable {P:Program} {n:Nat} {G D:Nat→Prop} {w0:World} {Q:Exit→Act→World→Prop} {R:Act→World→Prop} {E:Env} {L M:List Ch} {φ:Prop}
variable {d:Tmp} {ty:TypeId} {pos:String} {aft:Array Edge} {gd:Option (Nat×Bool)} {Tk:Act→World→Prop} {Lr:List Ch} {x y:Operand} {T T' S:TypeId} {e sz by':Nat}
theorem yH {α:Type} {E':DEl α} {v u:Value} {xs ys:List α} {B C:List Nat} {κ:List α→Prop} {zs:List Value} (hT:elB P T=some (e,sz,by')) (hzr:uH P e=some zs) (k:∀ B' v',Nx n G D w0 R ((d,v') :: E) (jR E' e B' v' (xs++ys) :: L) (κ (xs++ys))) (hx:oev E x=some v:=by rfl) (hy:oev E y=some u:=by rfl) (hd:Nat.blt d n=true:=by rfl) (hby:Nat.ble by' 32768=true:=by rfl) (hzl:zs.length=sz:=by rfl) (hes:E'.el.size=sz:=by rfl):Nx n G D w0 (fun a w=>Oper.wp P ⟨some d,.call {callee:=.builtin .append,args:=#[x,y],argTypes:=#[T,T]},ty,pos,aft,gd⟩ a w R Q) E (jR E' e B v xs :: jR E' e C u ys :: L) (xm xs ys κ) :=
 XX hd rfl fun ρ w hE hm hφ=>by
  obtain ⟨h0,h1⟩:=hφ
  obtain ⟨hu,inf,hinf,rfl,rfl⟩:=yd hT
  obtain ⟨z',hz',hzc⟩:=yP hzr hinf
  unfold zds at h0
  have hbl:=Nat.le_of_ble_eq_true hby
  obtain ⟨bn,css,Bs,hr,how,hB⟩:=hm.hold _ (List.mem_cons_self ..)
  obtain ⟨cn,dss,Cs,hrd,hod,hC⟩:=hm.hold (jR E' e C u ys) (List.mem_cons_of_mem _ (List.mem_cons_self ..))
  have hdis:∀ b,b∈B→b ∉ C:=fun b hb=>(List.pairwise_cons.1 hm.disj).1 _ (List.mem_cons_self ..) b hb
  have hBn:=hB.nodup_iff.1 bn
  have hCn:=hC.nodup_iff.1 cn
  rw [List.nodup_append] at hBn hCn
  have hinB:∀ b,b∈Bs.flatten→b∈B:=fun b hb=>hB.symm.subset (List.mem_append.2 (.inr hb))
  have hinC:∀ b,b∈Cs.flatten→b∈C:=fun b hb=>hC.symm.subset (List.mem_append.2 (.inr hb))
  have hvB:∀ b,v.ownBlock=some b→b∈B:=fun b hb=>hB.symm.subset (List.mem_append.2 (.inl (yp.2 hb)))
  have hlB:=hr.lt
  have hlC:=hrd.lt
  have hone:=(hrd.rows (F:=fun _=>True) (fun _ _=>trivial)).one
  have hlen:=(hrd.rows (F:=fun _=>True) (fun _ _=>trivial)).length
  rw [hes] at hlen
  have hsrc:∃ a cap,u=.slice a ys.length cap∧((∃ ad,a=some ad∧∀ j q,dss.flatten[j]?=some q→w.cell? (ad.add j)=some q)∨(ys=[]∧a=none)):=by
   rcases hod.2 with ⟨rfl,hn⟩ | ⟨g,cap,cur,rfl,_,hg,_,_,_,ht⟩
   ·have:ys=[]:=List.eq_nil_of_length_eq_zero hn
    subst this
    exact ⟨none,0,rfl,.inr ⟨rfl,rfl⟩⟩
   ·refine ⟨_,cap,rfl,.inl ⟨_,rfl,fun j q hq=>?_⟩⟩
    rw [Addr.add_mid,cell_of_row w g _ cur e (0,0) hg]
    rw [← ht,List.getElem?_take] at hq
    split at hq
    ·simpa using hq
    ·cases hq
  obtain ⟨a,cap,rfl,hsrc⟩:=hsrc
  rcases hsrc with ⟨ad,rfl,hcell⟩ | ⟨rfl,rfl⟩
  ·obtain ⟨v',w',g1,g2,g3,_,g5⟩:=run_append_own_at (P:=P) w 0 T ty e inf z' inf.size inf.bytes hu hinf hz' rfl rfl (by rw [hzc];simpa using hzl) (by rw [← hes];exact E'.el.pos)
    v xs.length css.flatten (by rw [← hes];exact how) ad ys.length cap dss.flatten hlen hcell hone (by unfold maxLen;omega) (by
     have:=Nat.mul_le_mul h0 hbl
     omega) (Nat.zero_le _)
   have hv':∀ b,v'.ownBlock=some b→v.ownBlock=some b∨b=w.heap.size:=fun b hb=>by
    rcases g5 with g5 | g5
    ·exact .inl (by rw [← g5];exact hb)
    ·right;rw [hb] at g5;simpa using g5
   have hkeepB:∀ b,b∈Bs.flatten→w'.heap[b]?=w.heap[b]?:=fun b hb=>g3.block b (hlB b hb) (fun e'=>hBn.2.2 b (yp.2 e'.symm) b hb rfl)
   have hkeepC:∀ b,b∈Cs.flatten→w'.heap[b]?=w.heap[b]?:=fun b hb=>g3.block b (hlC b hb) (fun e'=>hdis b (hvB b e'.symm) (hinC b hb))
   refine ⟨v',w',_,κ (xs++ys),by simp [execOp,resolve,invoke,builtin,hE _ _ hx,hE _ _ hy,g1],?_,h1,k (Vz v'++(Bs++Cs).flatten) v'⟩
   refine hm.repl (M0:=[jR E' e B v xs,jR E' e C (.slice (some ad) ys.length cap) ys]) (N:=[jR E' e (Vz v'++(Bs++Cs).flatten) v' (xs++ys)])
    ⟨g3.os,g3.tape,g3.output,g3.size,fun b hb hne=>g3.block b hb (fun e'=>hne ⟨_,List.mem_cons_self ..,hvB b e'.symm⟩)⟩ (fun c hc b hb=>?_) (List.pairwise_singleton _ _) (fun c hc F=>?_)
   ·simp only [List.mem_cons,List.not_mem_nil,or_false] at hc
    subst hc
    have hb':b∈Vz v'++(Bs++Cs).flatten:=hb
    rw [List.flatten_append] at hb'
    have hsz:=g3.size
    rcases List.mem_append.1 hb' with hb' | hb'
    ·have hlt:=(g2.lt b (yp.1 hb')).2
     rcases hv' b (yp.1 hb') with h | h
     ·exact ⟨.inr ⟨_,List.mem_cons_self ..,hvB b h⟩,hlt⟩
     ·exact ⟨.inl (by omega),hlt⟩
    ·rcases List.mem_append.1 hb' with hb' | hb'
     ·exact ⟨.inr ⟨_,List.mem_cons_self ..,hinB b hb'⟩,by have:=hlB b hb';omega⟩
     ·exact ⟨.inr ⟨_,List.mem_cons_of_mem _ (List.mem_cons_self ..),hinC b hb'⟩,by have:=hlC b hb';omega⟩
   ·simp only [List.mem_cons,List.not_mem_nil,or_false] at hc
    subst hc
    refine ⟨?_,css++dss,Bs++Cs,(hr.keep hkeepB).append (hrd.keep hkeepC),by rw [List.flatten_append,List.length_append,hes];exact g2,List.Perm.refl _⟩
    rw [List.flatten_append,List.nodup_append,List.nodup_append]
    refine ⟨zea _,⟨hBn.2.1,hCn.2.1,fun b hb c hc e'=>hdis b (hinB b hb) (by rw [e'];exact hinC c hc)⟩,fun b hb c hc e'=>?_⟩
    subst e'
    rcases hv' b (yp.1 hb) with h | h
    ·rcases List.mem_append.1 hc with hc | hc
     ·exact hBn.2.2 b (yp.2 h) b hc rfl
     ·exact hdis b (hvB b h) (hinC b hc)
    ·rcases List.mem_append.1 hc with hc | hc
     ·have:=hlB b hc;omega
     ·have:=hlC b hc;omega
  ·have hrun:(Builtin.append_ #[T,T] ty #[v,.slice none 0 cap]).run P w=.ok v w:=by
    rcases how.2 with ⟨rfl,hn0⟩ | ⟨g,cap',cur,rfl,_,_,hnc,_⟩
    ·simp [Builtin.append_,run_underlying hu,sizeOf,typeInfo,hinf,Builtin.lenOf,Builtin.firstCells]
    ·simp [Builtin.append_,run_underlying hu,sizeOf,typeInfo,hinf,Builtin.lenOf,Builtin.firstCells,hnc,storeCells]
   refine ⟨v,w,jR E' e B v xs :: L,κ xs,by simp [execOp,resolve,invoke,builtin,hE _ _ hx,hE _ _ hy,hrun],hm.sub ((List.sublist_cons_self _ _).cons_cons _),by simpa using h1,?_⟩
   have:=k B v
   rwa [List.append_nil] at this
end
section
variable {P:Program} {n:Nat} {G D:Nat→Prop} {w0:World} {Q:Exit→Act→World→Prop} {R:Act→World→Prop} {E:Env} {L:List Ch} {φ:Prop}
variable {d:Tmp} {ty:TypeId} {pos:String} {aft:Array Edge} {gd:Option (Nat×Bool)} {Tk:Act→World→Prop} {Lr:List Ch} {x y:Operand} {T T':TypeId}
theorem xe (M:uk P n G D w0 E ⟨some d,.assign x,ty,pos,aft,gd⟩ Tk R Lr L) {v:Value} (k:Nx n G D w0 R ((d,v) :: E) L φ) (hx:oev E x=some v:=by rfl) (hd:Nat.blt d n=true:=by rfl):Nx n G D w0 Tk E L φ:=zbJ M hx hd k
end
section
variable {P:Program} {n:Nat} {G D:Nat→Prop} {w0:World} {Q:Exit→Act→World→Prop} {R:Act→World→Prop} {E:Env} {L M:List Ch} {φ:Prop}
variable {d:Tmp} {ty:TypeId} {pos:String} {aft:Array Edge} {gd:Option (Nat×Bool)} {Tk:Act→World→Prop} {Lr:List Ch} {x y:Operand} {T T' S:TypeId} {e sz by':Nat}
theorem yD {α:Type} (E':DEl α) (e:TypeId) (k:Nx n G D w0 R ((d,.slice none 0 0) :: E) (jR E' e [] (.slice none 0 0) [] :: L) φ) (hx:oev E x=some (.slice none 0 0):=by rfl) (hd:Nat.blt d n=true:=by rfl):Nx n G D w0 (fun a w=>Oper.wp P ⟨some d,.assign x,ty,pos,aft,gd⟩ a w R Q) E L φ :=
 XX hd rfl fun ρ w hE hm hφ=>⟨_,w,_,φ,by simp [execOp,hE _ _ hx],zcx E' e hm,hφ,k⟩
end
section
variable {P:Program} {n:Nat} {G D:Nat→Prop} {w0:World} {Q:Exit→Act→World→Prop} {R:Act→World→Prop} {E:Env} {L:List Ch} {φ:Prop}
variable {d:Tmp} {ty:TypeId} {pos:String} {aft:Array Edge} {gd:Option (Nat×Bool)} {Tk:Act→World→Prop} {Lr:List Ch} {x y:Operand} {T T' S:TypeId} {e sz by':Nat}
theorem xa {α:Type} (El':El α) (e:Nat) (k:Nx n G D w0 R ((d,.slice none 0 0) :: E) (ze El' e (.slice none 0 0) [] :: L) φ) (hx:oev E x=some (.slice none 0 0):=by rfl) (hd:Nat.blt d n=true:=by rfl):Nx n G D w0 (fun a w=>Oper.wp P ⟨some d,.assign x,ty,pos,aft,gd⟩ a w R Q) E L φ :=
 XX hd rfl fun ρ w hE hm hφ=>⟨_,w,_,φ,by simp [execOp,hE _ _ hx],zdN El' e hm,hφ,k⟩
end
section
variable {P:Program} {n:Nat} {G D:Nat→Prop} {w0:World} {Q:Exit→Act→World→Prop} {R:Act→World→Prop} {E:Env} {L:List Ch} {φ:Prop}
variable {d:Tmp} {ty:TypeId} {pos:String} {aft:Array Edge} {gd:Option (Nat×Bool)} {Tk:Act→World→Prop} {Lr:List Ch} {x y:Operand} {T T' S:TypeId}
end
section
variable {P:Program} {n:Nat} {G D:Nat→Prop} {w0:World} {Q:Exit→Act→World→Prop} {R:Act→World→Prop} {E:Env} {L:List Ch} {φ:Prop}
variable {d:Tmp} {ty:TypeId} {pos:String} {aft:Array Edge} {gd:Option (Nat×Bool)} {Tk:Act→World→Prop} {Lr:List Ch} {x y:Operand} {T T' S:TypeId} {e sz by':Nat} {at':Array TypeId}
theorem zhL {b:BinOp} (M:uk P n G D w0 E ⟨some d,.binOp b T x y T',ty,pos,aft,gd⟩ Tk R Lr L) {u v:Value} (c:Value) (hr:∀ w,(do eqGuard b T x y u v;binOp b T u v:Sem Value).run P w=.ok c w) (k:Nx n G D w0 R ((d,c) :: E) L φ) (hx:oev E x=some u:=by rfl) (hy:oev E y=some v:=by rfl) (hd:Nat.blt d n=true:=by rfl):Nx n G D w0 Tk E L φ :=
 M.val hd rfl (fun ρ w hE _ _=>by
  have h:=hr w
  simp only [execOp,hE _ _ hx,hE _ _ hy]
  rw [Sem.run_bind,h]
  rfl) id k
end
section
variable {P:Program} {n:Nat} {G D:Nat→Prop} {w0:World} {Q:Exit→Act→World→Prop} {R:Act→World→Prop} {E:Env} {L:List Ch} {φ:Prop}
variable {d:Tmp} {ty:TypeId} {pos:String} {aft:Array Edge} {gd:Option (Nat×Bool)} {Tk:Act→World→Prop} {Lr:List Ch} {x y:Operand} {T T' S:TypeId} {e sz by':Nat}
theorem jF {ps:Array (Nat×Operand)} (M:uk P n G D w0 E ⟨some d,.build T ps,ty,pos,aft,gd⟩ Tk R Lr L) {qs:List (Nat×Value)} {cells zs:List Value} {pl:Array (Nat×Nat)} (hq:∀ ρ:Operand→Value,(∀ x v,oev E x=some v→ρ x=v)→(ps.map fun (i,x)=>(i,ρ x))=qs.toArray) (hT:zaq P T=some (pl,zs)) (k:Nx n G D w0 R ((d,.agg cells.toArray) :: E) L φ) (hd:Nat.blt d n=true:=by rfl) (hfill':zaz (pl[·]?) zs qs=some cells:=by rfl):Nx n G D w0 Tk E L φ :=
 M.val hd rfl (fun ρ w hE hm _=>by
  have hfill:=zcl _ _ _ _ hfill'
  unfold zaq at hT
  split at hT
  ·rename_i fs zs' hu hz
   cases hp:(fs.toList.mapM fun (f:Field)=>(P.info? f.type).map fun i=>(f.offset,i.size)) with
   | none=>rw [hp] at hT;simp at hT
   | some l =>
    rw [hp] at hT
    simp at hT
    obtain ⟨rfl,rfl⟩:=hT
    have hr:=zd8 (w:=w) fs.toList l hp
    cases hi:P.info? T with
    | none=>simp [uH,hi] at hz
    | some i =>
     obtain ⟨z,hz1,hz2⟩:=yP hz hi
     have hr':(fs.mapM fun f=>(do pure (f.offset,← sizeOf f.type):Sem (Nat×Nat))).run P w=.ok l.toArray w:=by
      have h2:(fs.mapM fun f=>(do pure (f.offset,← sizeOf f.type):Sem (Nat×Nat)))=Functor.map List.toArray (fs.toList.mapM fun f=>(do pure (f.offset,← sizeOf f.type):Sem (Nat×Nat))):=by
       rw [← List.mapM_toArray,Array.toArray_toList]
      rw [h2,map_eq_pure_bind,Sem.run_bind,hr]
      rfl
     have hz3:(zeroValue T).run P w=.ok z w:=by simp [zeroValue,typeInfo,hi,hz1]
     have hb:(Instr.build T qs.toArray).run P w=.ok (.agg cells.toArray) w:=by
      unfold Instr.build
      rw [Sem.run_bind,hz3,Result.andThen_ok,Sem.run_bind,run_underlying hu,Result.andThen_ok]
      simp only
      rw [Sem.run_bind,hr',Result.andThen_ok]
      rw [hz2,hfill]
      rfl
     simp only [execOp,hq ρ hE,Sem.run_bind,hb]
     rfl
  ·simp at hT) id k
end
section
variable {P:Program} {n:Nat} {G D:Nat→Prop} {w0:World} {Q:Exit→Act→World→Prop} {R:Act→World→Prop} {E:Env} {L:List Ch} {φ:Prop}
variable {d:Tmp} {ty:TypeId} {pos:String} {aft:Array Edge} {gd:Option (Nat×Bool)} {Tk:Act→World→Prop} {Lr:List Ch} {x y:Operand} {T T' S:TypeId}
theorem zbj {ps:Array (Nat×Operand)} (M:uk P n G D w0 E ⟨some d,.build T ps,ty,pos,aft,gd⟩ Tk R Lr L) {qs:List (Nat×Value)} {cells zs:List Value} {sz:Nat} (hq:∀ ρ:Operand→Value,(∀ x v,oev E x=some v→ρ x=v)→(ps.map fun (i,x)=>(i,ρ x))=qs.toArray) (hT:zk6 P T=some (sz,zs)) (k:Nx n G D w0 R ((d,.agg cells.toArray) :: E) L φ) (hd:Nat.blt d n=true:=by rfl) (hfill':zaz (fun i=>some (i * sz,sz)) zs qs=some cells:=by rfl):Nx n G D w0 Tk E L φ :=
 M.val hd rfl (fun ρ w hE hm _=>by
  have hfill:=zcl _ _ _ _ hfill'
  unfold zk6 at hT
  split at hT
  ·rename_i l e zs' hu hz
   cases he:P.info? e with
   | none=>simp [he] at hT
   | some j =>
    simp [he] at hT
    obtain ⟨rfl,rfl⟩:=hT
    cases hi:P.info? T with
    | none=>simp [uH,hi] at hz
    | some i =>
     obtain ⟨z,hz1,hz2⟩:=yP hz hi
     have hz3:(zeroValue T).run P w=.ok z w:=by simp [zeroValue,typeInfo,hi,hz1]
     have hb:(Instr.build T qs.toArray).run P w=.ok (.agg cells.toArray) w:=by
      unfold Instr.build
      rw [Sem.run_bind,hz3,Result.andThen_ok,Sem.run_bind,run_underlying hu,Result.andThen_ok]
      simp only
      rw [Sem.run_bind]
      have:(sizeOf e).run P w=.ok j.size w:=by simp [sizeOf,typeInfo,he]
      rw [this,Result.andThen_ok,hz2]
      rw [hfill]
      rfl
     simp only [execOp,hq ρ hE,Sem.run_bind,hb]
     rfl
  ·simp at hT) id k
end
section
variable {P:Program} {n:Nat} {G D:Nat→Prop} {w0:World} {Q:Exit→Act→World→Prop} {R:Act→World→Prop} {E:Env} {L:List Ch} {φ:Prop}
variable {d:Tmp} {ty:TypeId} {pos:String} {aft:Array Edge} {gd:Option (Nat×Bool)} {Tk:Act→World→Prop} {Lr:List Ch} {x y:Operand} {T T' S:TypeId}
theorem jV {v:Value} (cs:List Value) (k:∀ b,Nx n G D w0 R ((d,.pointer (some ⟨b,0,none⟩)) :: E) (zc b cs T :: L) φ) (hx:oev E x=some v:=by rfl) (hd:Nat.blt d n=true:=by rfl) (hcs:v.cells=cs.toArray:=by rfl):Nx n G D w0 (fun a w=>Oper.wp P ⟨some d,.box T x,ty,pos,aft,gd⟩ a w R Q) E L φ :=
 XX hd rfl fun ρ w hE hm hφ=>⟨_,w.alloc (.cells cs.toArray T),_,φ,by simp [execOp,hE _ _ hx,Instr.box,newVar,newRow,hcs],zfH hm rfl,hφ,k w.heap.size⟩
end
section
variable {P:Program} {n:Nat} {G D:Nat→Prop} {w0:World} {Q:Exit→Act→World→Prop} {R:Act→World→Prop} {E:Env} {L M:List Ch} {φ:Prop}
variable {d:Tmp} {ty:TypeId} {pos:String} {aft:Array Edge} {gd:Option (Nat×Bool)} {Tk:Act→World→Prop} {Lr:List Ch} {x y:Operand} {T T' S:TypeId} {e sz by':Nat}
theorem ZV {α:Type} {El':El α} {v:Value} {cs:List Value} {len:Nat} (xs:List α) (css:List (List Value)) (hr:∀ w,Mem G D w0 L w→Rows El' (fz G L w) w xs css) (k:∀ b,Nx n G D w0 R ((d,.pointer (some ⟨b,0,none⟩)) :: E) (ze El' T (.slice (some ⟨b,0,none⟩) len len) xs :: L) φ) (hx:oev E x=some v:=by rfl) (hd:Nat.blt d n=true:=by rfl) (hcs:v.cells=cs.toArray:=by rfl) (hfl:css.flatten=cs:=by rfl) (hl:xs.length=len:=by rfl) (hlen:Nat.ble len 65536=true:=by rfl):Nx n G D w0 (fun a w=>Oper.wp P ⟨some d,.box T x,ty,pos,aft,gd⟩ a w R Q) E L φ:=ze1 xs css hr hx hd hcs hfl hl hlen k
end
section
variable {P:Program} {n:Nat} {G D:Nat→Prop} {w0:World} {Q:Exit→Act→World→Prop} {R:Act→World→Prop} {E:Env} {L:List Ch} {φ:Prop}
variable {d:Tmp} {ty:TypeId} {pos:String} {aft:Array Edge} {gd:Option (Nat×Bool)} {Tk:Act→World→Prop} {Lr:List Ch} {x y:Operand} {T T' S:TypeId} {e sz by':Nat}
theorem jK {α:Type} {El':El α} {enc:α→List Value} {len:Nat} {ps:Array (Nat×Operand)} {qs:List (Nat×Value)} {zs cells:List Value} (xs:List α) (hfl:UC El' enc) (hq:∀ ρ:Operand→Value,(∀ x v,oev E x=some v→ρ x=v)→(ps.map fun (i,x)=>(i,ρ x))=qs.toArray) (hT:elB P T=some (e,sz,by')) (hzr:uH P e=some zs) (k:∀ v,Nx n G D w0 R ((d,v) :: E) (ze El' e v xs :: L) φ) (hd:Nat.blt d n=true:=by rfl) (hes:El'.size=sz:=by rfl) (hlen:Nat.ble (len * sz) 16777216=true:=by rfl) (hxl:xs.length=len:=by rfl) (hzl:Nat.beq zs.length sz=true:=by rfl) (hfill':zaz (fun i=>some (i * sz,sz)) (List.replicate len zs).flatten qs=some cells:=by rfl) (hcells:(xs.map enc).flatten=cells:=by rfl):Nx n G D w0 (fun a w=>Oper.wp P ⟨some d,.buildSlice T len ps,ty,pos,aft,gd⟩ a w R Q) E L φ :=
 XX hd rfl fun ρ w hE hm hφ=>by
  obtain ⟨hu,i,hi,rfl,rfl⟩:=yd hT
  obtain ⟨z',hz',hzc⟩:=yP hzr hi
  have hle:=Nat.le_of_ble_eq_true hlen
  have hzl':=Nat.eq_of_beq_eq_true hzl
  have hpos:0<zs.length:=by rw [hzl',← hes];exact El'.pos
  have hmade:(Array.range (len * i.size)).map (zs.toArray[· % zs.toArray.size]!)=(List.replicate len zs).flatten.toArray:=by
   have:=Zt zs len hpos
   rw [hzl'] at this
   unfold madeCells at this
   rw [← this]
  have hfill0:=zcl _ _ _ _ hfill'
  have hfill:Instr.fill (fun j=>some (j * i.size,i.size)) ((Array.range (len * i.size)).map ((if len * i.size=0 then #[] else zs.toArray)[· % (if len * i.size=0 then #[] else zs.toArray).size]!)) qs=some cells.toArray:=by
   by_cases h0:len * i.size=0
   ·have hl0:len=0:=by
     rcases Nat.mul_eq_zero.1 h0 with h | h
     ·exact h
     ·have:=El'.pos;omega
    subst hl0
    simpa [Array.range_zero'] using hfill0
   ·simp only [h0,if_false]
    rw [hmade]
    exact hfill0
  refine ⟨.slice (some ⟨w.heap.size,0,none⟩) len len,w.alloc (.cells cells.toArray e),_,φ,?_,?_,hφ,k _⟩
  ·have hn:¬ (16777216<len * i.size):=by omega
   have hq':=hq ρ hE
   simp only [execOp,Instr.buildSlice,Sem.run_bind,run_underlying hu,Result.andThen_ok,hq']
   by_cases h0:len * i.size=0
   ·simp [h0] at hfill
    simp [sizeOf,typeInfo,hi,h0,newRow,hfill]
   ·simp [h0] at hfill
    simp [sizeOf,typeInfo,hi,h0,hn,zeroValue,hz',hzc,newRow,hfill]
  ·refine hm.add _ ((Below.refl _ _).alloc (Nat.le_refl _) _) (fun b hb=>by simp [ze,Value.ownBlock] at hb;rw [World.size_alloc];omega) ?_
   have hrows:∀ (F:Nat→Prop) (w:World) (xs:List α),Rows El' F w xs (xs.map enc):=by
    intro F w xs
    induction xs with
    | nil=>trivial
    | cons x r ih=>exact ⟨(hfl _ _ _ _).2 rfl,ih⟩
   have hl:=(hrows (fun _=>True) w xs).length
   rw [hcells,hxl] at hl
   subst hxl
   refine zbp (hrows _ _ xs) (heap_alloc_new w _) (Nat.le_refl _) ?_ (by simpa using hl) ?_
   ·have hp:=El'.pos
    have:xs.length≤xs.length * i.size:=Nat.le_mul_of_pos_right _ (by omega)
    unfold maxLen;omega
   ·rw [hcells,← hl,List.take_of_length_le (by simp)]
end
section
variable {P:Program} {n:Nat} {G D:Nat→Prop} {w0:World} {Q:Exit→Act→World→Prop} {R:Act→World→Prop} {E:Env} {L M:List Ch} {φ:Prop}
variable {d:Tmp} {ty:TypeId} {pos:String} {aft:Array Edge} {gd:Option (Nat×Bool)} {Tk:Act→World→Prop} {Lr:List Ch} {x y:Operand} {T T' S:TypeId} {e sz by':Nat}
theorem uE {α:Type} {E':DEl α} {ps:Array (Nat×Operand)} {qs:List (Nat×Value)} {zs cs:List Value} (y0:α) (hc:zei M E' y0 cs) (hq:∀ ρ:Operand→Value,(∀ x v,oev E x=some v→ρ x=v)→(ps.map fun (i,x)=>(i,ρ x))=qs.toArray) (hT:elB P T=some (e,sz,by')) (hzr:uH P e=some zs) (k:∀ B v,Nx n G D w0 R ((d,v) :: E) (jR E' e B v [y0] :: L) φ) (hd:Nat.blt d n=true:=by rfl) (hes:E'.el.size=sz:=by rfl) (hlen:Nat.ble (1 * sz) 16777216=true:=by rfl) (hzl:Nat.beq zs.length sz=true:=by rfl) (hfill':zaz (fun i=>some (i * sz,sz)) (List.replicate 1 zs).flatten qs=some cs:=by rfl):Nx n G D w0 (fun a w=>Oper.wp P ⟨some d,.buildSlice T 1 ps,ty,pos,aft,gd⟩ a w R Q) E (M++L) φ :=
 XX hd rfl fun ρ w hE hm hφ=>by
  have hp:=E'.el.pos
  have hrun:=zgt (P:=P) (w:=w) (qs:=qs) hT hzr (by omega) hlen hzl hfill'
  obtain ⟨B,b1,b2,b3⟩:=hc _ w (zhv hm)
  have hlt:=E'.lt _ _ _ _ b2
  have hl:cs.length=sz:=by rw [← hes];exact E'.el.len _ _ _ _ (E'.read _ _ _ _ b2)
  have hle:=Nat.le_of_ble_eq_true hlen
  refine ⟨.slice (some ⟨w.heap.size,0,none⟩) 1 1,w.alloc (.cells cs.toArray e),_,φ,by simp only [execOp,hq ρ hE,Sem.run_bind,hrun];rfl,?_,hφ,k (w.heap.size :: B) _⟩
  refine hm.repl (M0:=M) (N:=[jR E' e (w.heap.size :: B) (.slice (some ⟨w.heap.size,0,none⟩) 1 1) [y0]]) ⟨rfl,rfl,rfl,by rw [World.size_alloc];omega,fun b hb _=>heap_alloc_old w _ hb⟩ (fun c hc b hb=>?_) (List.pairwise_singleton _ _) (fun c hc F=>?_)
  ·simp only [List.mem_cons,List.not_mem_nil,or_false] at hc
   subst hc
   rcases List.mem_cons.1 hb with hb | hb
   ·subst hb;exact ⟨.inl (Nat.le_refl _),by rw [World.size_alloc];omega⟩
   ·exact ⟨.inr (b3 b hb),by have:=hlt b hb;rw [World.size_alloc];omega⟩
  ·simp only [List.mem_cons,List.not_mem_nil,or_false] at hc
   subst hc
   refine ⟨List.nodup_cons.2 ⟨fun h=>by have:=hlt _ h;omega,b1⟩,[cs],[B],yL.one (E'.keep _ _ _ _ _ (fun b hb=>heap_alloc_old w _ (hlt b hb)) b2),⟨by simp [hl,hes],.inr ⟨w.heap.size,1,cs.toArray,rfl,Nat.zero_le _,heap_alloc_new w _,Nat.le_refl _,by decide,by simp [hl,hes],by simp [List.take_of_length_le,hl,hes]⟩⟩,by simp [Vz,Value.ownBlock]⟩
theorem xL {α:Type} {E':DEl α} {qs:List (Nat×Value)} {zs:List Value} {ps:Array (Nat×Operand)} (hq:∀ ρ:Operand→Value,(∀ x v,oev E x=some v→ρ x=v)→(ps.map fun (i,x)=>(i,ρ x))=qs.toArray) (hT:elB P T=some (e,sz,by')) (hzr:uH P e=some zs) (k:∀ B v,Nx n G D w0 R ((d,v) :: E) (jR E' e B v [] :: L) φ) (hd:Nat.blt d n=true:=by rfl) (hes:E'.el.size=sz:=by rfl) (hzl:Nat.beq zs.length sz=true:=by rfl) (hfill':zaz (fun i=>some (i * sz,sz)) (List.replicate 0 zs).flatten qs=some []:=by rfl):Nx n G D w0 (fun a w=>Oper.wp P ⟨some d,.buildSlice T 0 ps,ty,pos,aft,gd⟩ a w R Q) E L φ :=
 XX hd rfl fun ρ w hE hm hφ=>by
  have hp:=E'.el.pos
  have hrun:=zgt (P:=P) (w:=w) (qs:=qs) (len:=0) hT hzr (by omega) (by simp) hzl hfill'
  refine ⟨.slice (some ⟨w.heap.size,0,none⟩) 0 0,w.alloc (.cells ([]:List Value).toArray e),_,φ,by simp only [execOp,hq ρ hE,Sem.run_bind,hrun];rfl,?_,hφ,k [w.heap.size] _⟩
  exact hm.add _ ((Below.refl _ _).alloc (Nat.le_refl _) _) (fun b hb=>by simp [jR] at hb;rw [World.size_alloc];omega) ⟨by simp,[],[],yL.nil,⟨by simp,.inr ⟨w.heap.size,0,#[],rfl,Nat.zero_le _,heap_alloc_new w _,Nat.le_refl _,by decide,by simp,by simp⟩⟩,by simp [Vz,Value.ownBlock]⟩
end
section
variable {P:Program} {n:Nat} {G D:Nat→Prop} {w0:World} {Q:Exit→Act→World→Prop} {R:Act→World→Prop} {E:Env} {L:List Ch} {φ:Prop}
variable {d:Tmp} {ty:TypeId} {pos:String} {aft:Array Edge} {gd:Option (Nat×Bool)} {Tk:Act→World→Prop} {Lr:List Ch} {x y:Operand} {T T' S:TypeId} {e sz by':Nat}
theorem uQ {α:Type} {El':El α} {len:Nat} {ps:Array (Nat×Operand)} {qs:List (Nat×Value)} {zs cells:List Value} (xs:List α) (css:List (List Value)) (hc:∀ w,Mem G D w0 L w→Rows El' (fz G L w) w xs css) (hq:∀ ρ:Operand→Value,(∀ x v,oev E x=some v→ρ x=v)→(ps.map fun (i,x)=>(i,ρ x))=qs.toArray) (hT:elB P T=some (e,sz,by')) (hzr:uH P e=some zs) (k:∀ v,Nx n G D w0 R ((d,v) :: E) (ze El' e v xs :: L) φ) (hd:Nat.blt d n=true:=by rfl) (hes:El'.size=sz:=by rfl) (hlen:Nat.ble (len * sz) 16777216=true:=by rfl) (hxl:xs.length=len:=by rfl) (hzl:Nat.beq zs.length sz=true:=by rfl) (hfill':zaz (fun i=>some (i * sz,sz)) (List.replicate len zs).flatten qs=some cells:=by rfl) (hcells:css.flatten=cells:=by rfl):Nx n G D w0 (fun a w=>Oper.wp P ⟨some d,.buildSlice T len ps,ty,pos,aft,gd⟩ a w R Q) E L φ:=zka xs css hc hq hd hT hzr hes hlen hxl hzl hfill' hcells k
end
section
variable {P:Program} {n:Nat} {G D:Nat→Prop} {w0:World} {Q:Exit→Act→World→Prop} {R:Act→World→Prop} {E:Env} {L:List Ch} {φ:Prop}
variable {d:Tmp} {ty:TypeId} {pos:String} {aft:Array Edge} {gd:Option (Nat×Bool)} {Tk:Act→World→Prop} {Lr:List Ch} {x y:Operand} {T T' S:TypeId} {e sz by':Nat}
theorem zR {ρ ν:Type} {f:Nat} {l:List Operand} {at':Array TypeId} {vs:List Value} {κ:ρ→Prop} {val:ρ→ν→Value} {N:ρ→ν→List Ch} {M0 L':List Ch} (hf:∀ args w,(callFunc f args).run P w=.ok (.enter f args) w) (hc:∀ w,Mem G D w0 (M0++L') w→φ→Calls P f vs.toArray w (Ret M0 (fz G (M0++L') w) w κ val N)) (k:∀ r s,Nx n G D w0 R ((d,val r s) :: E) (N r s++L') (κ r)) (hargs:zec E l=some vs:=by rfl) (hd:Nat.blt d n=true:=by rfl):Nx n G D w0 (fun a w=>Oper.wp P ⟨some d,.call {callee:=.value (.func f),args:=l.toArray,argTypes:=at'},ty,pos,aft,gd⟩ a w R Q) E (M0++L') φ:=zjz hf hargs hd hc k
theorem zh {ρ ν:Type} {f:Nat} {l:List Operand} {at':Array TypeId} {vs:List Value} {κ:ρ→Prop} {val:ρ→ν→Value} {N:ρ→ν→List Ch} (hf:∀ args w,(callFunc f args).run P w=.ok (.enter f args) w) (hc:∀ w,Mem G D w0 L w→φ→Calls P f vs.toArray w (Ret [] (fz G L w) w κ val N)) (k:∀ r s,Nx n G D w0 R ((d,val r s) :: E) (N r s++L) (κ r)) (hargs:zec E l=some vs:=by rfl) (hd:Nat.blt d n=true:=by rfl):Nx n G D w0 (fun a w=>Oper.wp P ⟨some d,.call {callee:=.value (.func f),args:=l.toArray,argTypes:=at'},ty,pos,aft,gd⟩ a w R Q) E L φ:=zig hf hargs hd hc k
end
section
variable {P:Program} {n:Nat} {G D:Nat→Prop} {w0:World} {Q:Exit→Act→World→Prop} {R:Act→World→Prop} {E:Env} {L M:List Ch} {φ:Prop}
variable {d:Tmp} {ty:TypeId} {pos:String} {aft:Array Edge} {gd:Option (Nat×Bool)} {Tk:Act→World→Prop} {Lr:List Ch} {x y:Operand} {T T' S:TypeId} {e sz by':Nat} {dst:Option Tmp} {at':Array TypeId}
theorem Y8 {o:Oper} {ρ ν:Type} {f:Nat} {vs:List Value} {κ:ρ→Prop} {val:ρ→ν→Value} {N:ρ→ν→List Ch} {M0 L':List Ch} (hr:zjm P E o f vs) (hc:∀ w,Mem G D w0 (M0++L') w→φ→Calls P f vs.toArray w (Ret M0 (fz G (M0++L') w) w κ val N)) (k:∀ r s,Nx n G D w0 R ((d,val r s) :: E) (N r s++L') (κ r)) (ho:o.dst=some d:=by rfl) (hd:Nat.blt d n=true:=by rfl):Nx n G D w0 (fun a w=>Oper.wp P o a w R Q) E (M0++L') φ:=ziw ho hr hd hc k
theorem zdd {o:Oper} {ρ ν:Type} {f:Nat} {vs:List Value} {κ:ρ→Prop} {val:ρ→ν→Value} {N:ρ→ν→List Ch} (hr:zjm P E o f vs) (hc:∀ w,Mem G D w0 L w→φ→Calls P f vs.toArray w (Ret [] (fz G L w) w κ val N)) (k:∀ r s,Nx n G D w0 R ((d,val r s) :: E) (N r s++L) (κ r)) (ho:o.dst=some d:=by rfl) (hd:Nat.blt d n=true:=by rfl):Nx n G D w0 (fun a w=>Oper.wp P o a w R Q) E L φ :=
 ziw (M0:=[]) (L':=L) ho hr hd hc k
end
section
variable {P:Program} {n:Nat} {G D:Nat→Prop} {w0:World} {Q:Exit→Act→World→Prop} {R:Act→World→Prop} {E:Env} {L:List Ch} {φ:Prop}
variable {d:Tmp} {ty:TypeId} {pos:String} {aft:Array Edge} {gd:Option (Nat×Bool)} {Tk:Act→World→Prop} {Lr:List Ch} {x y:Operand} {T T' S:TypeId}
end
section
variable {P:Program} {n:Nat} {G D:Nat→Prop} {w0:World} {Q:Exit→Act→World→Prop} {R:Act→World→Prop} {E:Env} {L:List Ch} {φ:Prop}
variable {d:Tmp} {ty:TypeId} {pos:String} {aft:Array Edge} {gd:Option (Nat×Bool)} {Tk:Act→World→Prop} {Lr:List Ch} {x y:Operand} {T T' S:TypeId} {e sz by':Nat} {at':Array TypeId}
theorem zgj (M:uk P n G D w0 E ⟨some d,.convert T T' x,ty,pos,aft,gd⟩ Tk R Lr L) {X:UInt8} (hT:P.underlying T=some (.int .u8)) (hT':P.underlying T'=some (.int .i64)) (k:Nx n G D w0 R ((d,.int .i64 (X.toNat:Int)) :: E) L φ) (hx:oev E x=some (.int .u8 (X.toNat:Int)):=by rfl) (hd:Nat.blt d n=true:=by rfl):Nx n G D w0 Tk E L φ :=
 M.val hd rfl (fun ρ w hE _ _=>by
  have h:=X.toNat_lt
  have e:IntKind.i64.wrap (X.toNat:Int)=(X.toNat:Int):=by rw [IntKind.wrap_i64];omega
  simp [execOp,hE _ _ hx,go_sem,convert,run_underlying hT,run_underlying hT',e]) id k
end
section
variable {P:Program} {n:Nat} {G D:Nat→Prop} {w0:World} {Q:Exit→Act→World→Prop} {R:Act→World→Prop} {E:Env} {L:List Ch} {φ:Prop}
variable {d:Tmp} {ty:TypeId} {pos:String} {aft:Array Edge} {gd:Option (Nat×Bool)} {Tk:Act→World→Prop} {Lr:List Ch} {x y:Operand} {T T' S:TypeId}
end
section
variable {P:Program} {n:Nat} {G D:Nat→Prop} {w0:World} {Q:Exit→Act→World→Prop} {R:Act→World→Prop} {E:Env} {L:List Ch} {φ:Prop}
variable {d:Tmp} {ty:TypeId} {pos:String} {aft:Array Edge} {gd:Option (Nat×Bool)} {Tk:Act→World→Prop} {Lr:List Ch} {x y:Operand} {T T' S:TypeId} {e sz by':Nat} {at':Array TypeId}
end
section
variable {P:Program} {n:Nat} {G D:Nat→Prop} {w0:World} {Q:Exit→Act→World→Prop} {R:Act→World→Prop} {E:Env} {L:List Ch} {φ:Prop}
variable {d:Tmp} {ty:TypeId} {pos:String} {aft:Array Edge} {gd:Option (Nat×Bool)} {Tk:Act→World→Prop} {Lr:List Ch} {x y:Operand} {T T' S:TypeId} {e sz by':Nat}
theorem jH (M:uk P n G D w0 E ⟨some d,.binOp .eql T x y T',ty,pos,aft,gd⟩ Tk R Lr L) {X Y:Int} {K:IntKind} (hT:P.underlying T=some (.int K)) (k:Nx n G D w0 R ((d,.bool (decide (X=Y))) :: E) L φ) (hx:oev E x=some (.int K X):=by rfl) (hy:oev E y=some (.int K Y):=by rfl) (hd:Nat.blt d n=true:=by rfl):Nx n G D w0 Tk E L φ:=zln M hT hx hy hd k
theorem zbf (M:uk P n G D w0 E ⟨some d,.binOp .eql T x y T',ty,pos,aft,gd⟩ Tk R Lr L) {X Y:Bool} (hT:P.underlying T=some .bool) (k:Nx n G D w0 R ((d,.bool (decide (X=Y))) :: E) L φ) (hx:oev E x=some (.bool X):=by rfl) (hy:oev E y=some (.bool Y):=by rfl) (hd:Nat.blt d n=true:=by rfl):Nx n G D w0 Tk E L φ :=
 M.val hd rfl (fun ρ w hE _ _=>by cases X <;> cases Y <;> simp [execOp,hE _ _ hx,hE _ _ hy,go_sem,hT,run_underlying hT]) id k
end
section
variable {P:Program} {n:Nat} {G D:Nat→Prop} {w0:World} {Q:Exit→Act→World→Prop} {R:Act→World→Prop} {E:Env} {L M:List Ch} {φ:Prop}
variable {d:Tmp} {ty:TypeId} {pos:String} {aft:Array Edge} {gd:Option (Nat×Bool)} {Tk:Act→World→Prop} {Lr:List Ch} {x y:Operand} {T T' S:TypeId} {e sz by':Nat} {dst:Option Tmp} {at':Array TypeId}
theorem zlf {α:Type} {El':El α} {v:Value} {xs:List α} {c:Ch} {κ:Bool→Prop} {e':TypeId} (i:Nat) (hc:YD c El' v xs) (hT:P.underlying T=some (.slice e')) (k:∀ z,Nx n G D w0 R ((d,.bool z) :: E) L (κ z)) (hi:xz L i=some c:=by rfl) (hx:oev E x=some v:=by rfl) (hy:oev E y=some (.slice none 0 0):=by rfl) (hd:Nat.blt d n=true:=by rfl):Nx n G D w0 (fun a w=>Oper.wp P ⟨some d,.binOp .eql T x y T',ty,pos,aft,gd⟩ a w R Q) E L (znb true xs κ) :=
 XX hd rfl fun ρ w hE hm hφ=>by
  obtain ⟨a,cap,rfl,hcap,hr⟩:=hc _ _ (hm.get hi)
  refine ⟨.bool a.isNone,w,L,κ a.isNone,?_,hm,?_,k _⟩
  ·simp [execOp,hE _ _ hx,hE _ _ hy,go_sem,hT,run_underlying hT,binOp,zjd hT]
  ·cases xs with
   | nil=>cases a with
    | none=>exact (hφ.2 rfl).1
    | some a=>exact (hφ.2 rfl).2
   | cons x0 r =>
    obtain ⟨b,off,rfl,_⟩:=hr (by simp)
    exact hφ.1 (by simp)
end
section
variable {P:Program} {n:Nat} {G D:Nat→Prop} {w0:World} {Q:Exit→Act→World→Prop} {R:Act→World→Prop} {E:Env} {L:List Ch} {φ:Prop}
variable {d:Tmp} {ty:TypeId} {pos:String} {aft:Array Edge} {gd:Option (Nat×Bool)} {Tk:Act→World→Prop} {Lr:List Ch} {x y:Operand} {T T' S:TypeId}
end
section
variable {P:Program} {n:Nat} {G D:Nat→Prop} {w0:World} {Q:Exit→Act→World→Prop} {R:Act→World→Prop} {E:Env} {L:List Ch} {φ:Prop}
variable {d:Tmp} {ty:TypeId} {pos:String} {aft:Array Edge} {gd:Option (Nat×Bool)} {Tk:Act→World→Prop} {Lr:List Ch} {x y:Operand} {T T' S:TypeId}
theorem jm {k':Nat} (M:uk P n G D w0 E ⟨some d,.extract x k',ty,pos,aft,gd⟩ Tk R Lr L) {vs:List Value} {v:Value} (k:Nx n G D w0 R ((d,v) :: E) L φ) (hx:oev E x=some (.tuple vs.toArray):=by rfl) (hd:Nat.blt d n=true:=by rfl) (hv:vs[k']?=some v:=by rfl):Nx n G D w0 Tk E L φ :=
 M.val hd rfl (fun ρ w hE hm _=>by simp [execOp,hE _ _ hx,Instr.extract,hv]) id k
theorem zw {k':Nat} (M:uk P n G D w0 E ⟨some d,.fieldAddr S x k',ty,pos,aft,gd⟩ Tk R Lr L) {b o off sz:Nat} {row:Bool} (hS:Xv P S k'=some (off,row,sz)) (k:Nx n G D w0 R ((d,.pointer (some ⟨b,o+off,none⟩)) :: E) L φ) (hx:oev E x=some (.pointer (some ⟨b,o,none⟩)):=by rfl) (hd:Nat.blt d n=true:=by rfl) (hp:Nat.beq sz 0=false:=by rfl):Nx n G D w0 Tk E L φ :=
 M.val hd rfl (fun ρ w hE hm _=>by
  have:=zhb (P:=P) (w:=w) (a:=⟨b,o,none⟩) hS hp
  rw [Addr.add_mid] at this
  simp [execOp,hE _ _ hx,this]) id k
theorem jv {k':Nat} (M:uk P n G D w0 E ⟨some d,.fieldAddr S x k',ty,pos,aft,gd⟩ Tk R Lr L) {α:Type} {El':El α} {v:Value} {xs:List α} {c:Ch} {I:Int} {z:α} {o off sz fs:Nat} {row:Bool} (i:Nat) (hc:YD c El' v xs) (hz:xs[I.toNat]?=some z) (hS:Xv P S k'=some (off,row,fs)) (k:Nx n G D w0 R ((d,pEl v I sz (o+off)) :: E) L φ) (hi:xz Lr i=some c:=by rfl) (hx:oev E x=some (pEl v I sz o):=by rfl) (hd:Nat.blt d n=true:=by rfl) (hp:Nat.beq fs 0=false:=by rfl):Nx n G D w0 Tk E L φ :=
 M.val hd rfl (fun ρ w hE hm _=>by
  obtain ⟨b,off',cap,cs,rfl,_,_⟩:=(hc _ _ (hm.get hi)).at hz
  rw [u5] at hx ⊢
  have:=zhb (P:=P) (w:=w) (a:=⟨b,off'+I.toNat * sz+o,none⟩) hS hp
  rw [Addr.add_mid] at this
  simp [execOp,hE _ _ hx,this]) id k
end
section
variable {P:Program} {n:Nat} {G D:Nat→Prop} {w0:World} {Q:Exit→Act→World→Prop} {R:Act→World→Prop} {E:Env} {L:List Ch} {φ:Prop}
variable {d:Tmp} {ty:TypeId} {pos:String} {aft:Array Edge} {gd:Option (Nat×Bool)} {Tk:Act→World→Prop} {Lr:List Ch} {x y:Operand} {T T':TypeId}
theorem UA (M:uk P n G D w0 E ⟨some d,.binOp .geq T x y T',ty,pos,aft,gd⟩ Tk R Lr L) {X Y:Int} {K:IntKind} (k:Nx n G D w0 R ((d,.bool (decide (Y≤X))) :: E) L φ) (hx:oev E x=some (.int K X):=by rfl) (hy:oev E y=some (.int K Y):=by rfl) (hd:Nat.blt d n=true:=by rfl):Nx n G D w0 Tk E L φ :=
 M.val hd rfl (fun ρ w hE _ hφ=>by simp [execOp,hE _ _ hx,hE _ _ hy,go_sem]) id k
theorem uv (M:uk P n G D w0 E ⟨some d,.binOp .gtr T x y T',ty,pos,aft,gd⟩ Tk R Lr L) {X Y:Int} {K:IntKind} (k:Nx n G D w0 R ((d,.bool (decide (Y<X))) :: E) L φ) (hx:oev E x=some (.int K X):=by rfl) (hy:oev E y=some (.int K Y):=by rfl) (hd:Nat.blt d n=true:=by rfl):Nx n G D w0 Tk E L φ:=zly M hx hy hd k
end
section
variable {P:Program} {n:Nat} {G D:Nat→Prop} {w0:World} {Q:Exit→Act→World→Prop} {R:Act→World→Prop} {E:Env} {L:List Ch} {φ:Prop}
variable {d:Tmp} {ty:TypeId} {pos:String} {aft:Array Edge} {gd:Option (Nat×Bool)} {Tk:Act→World→Prop} {Lr:List Ch} {x y:Operand} {T T' S:TypeId}
theorem zF (M:uk P n G D w0 E ⟨some d,.indexAddr T x y,ty,pos,aft,gd⟩ Tk R Lr L) {α:Type} {El':El α} {v:Value} {xs:List α} {c:Ch} {I:Int} {κ:α→Prop} {e sz by':Nat} (i:Nat) (hc:YD c El' v xs) (hT:elB P T=some (e,sz,by')) (k:∀ z,xs[I.toNat]?=some z→Nx n G D w0 R ((d,pEl v I sz 0) :: E) L (κ z)) (hi:xz Lr i=some c:=by rfl) (hx:oev E x=some v:=by rfl) (hy:oev E y=some (.int .i64 I):=by rfl) (hd:Nat.blt d n=true:=by rfl):Nx n G D w0 Tk E L (zH xs I κ) :=
 M.val (v:=pEl v I sz 0) (ψ:=zH xs I κ) hd rfl (fun ρ w hE hm hφ=>by
  obtain ⟨z,h0,h1,h2⟩:=hφ
  obtain ⟨b,off,cap,cs,rfl,_,_⟩:=(hc _ _ (hm.get hi)).at h1
  have hlt:=(List.getElem?_eq_some_iff.1 h1).1
  unfold elB at hT
  split at hT
  ·rename_i e' hu
   split at hT
   ·rename_i inf hi'
    simp at hT
    obtain ⟨rfl,rfl,rfl⟩:=hT
    have h5:I<xs.length:=by omega
    rw [u5]
    simp [execOp,hE _ _ hx,hE _ _ hy,Instr.indexAt,asIntOf,run_underlying hu,sizeOf,typeInfo,hi',h0,h5,Addr.add_mid]
   ·simp at hT
  ·simp at hT) id (fun a w hE hm ⟨z,_,h1,h2⟩=>k z h1 a w hE hm h2)
end
section
variable {P:Program} {n:Nat} {G D:Nat→Prop} {w0:World} {Q:Exit→Act→World→Prop} {R:Act→World→Prop} {E:Env} {L M:List Ch} {φ:Prop}
variable {d:Tmp} {ty:TypeId} {pos:String} {aft:Array Edge} {gd:Option (Nat×Bool)} {Tk:Act→World→Prop} {Lr:List Ch} {x y:Operand} {T T' S:TypeId}
theorem zkM (M:uk P n G D w0 E ⟨some d,.indexAddr T x y,ty,pos,aft,gd⟩ Tk R Lr L) {α:Type} {E':DEl α} {ty':TypeId} {B:List Nat} {I0:Nat} {cz:List Value} {v:Value} {xs:List α} {I:Int} {κ:α→Prop} {e sz by':Nat} (i:Nat) (hT:elB P T=some (e,sz,by')) (k:∀ z,xs[I.toNat]?=some z→Nx n G D w0 R ((d,pEl v I sz 0) :: E) L (κ z)) (hi:xz Lr i=some (zbY E' ty' B v xs I0 cz):=by rfl) (hx:oev E x=some v:=by rfl) (hy:oev E y=some (.int .i64 I):=by rfl) (hd:Nat.blt d n=true:=by rfl):Nx n G D w0 Tk E L (zH xs I κ) :=
 M.val (v:=pEl v I sz 0) (ψ:=zH xs I κ) hd rfl (fun ρ w hE hm hφ=>by
  obtain ⟨z,h0,h1,h2⟩:=hφ
  have hlt:=(List.getElem?_eq_some_iff.1 h1).1
  obtain ⟨bn,css,Bs,hr,how,hB⟩:=hm.get hi
  obtain ⟨g,cap,hv⟩:∃ g cap,v=.slice (some ⟨g,0,none⟩) xs.length cap:=by
   rcases how.2 with ⟨_,hn⟩ | ⟨g,cap,cur,hv,_⟩
   ·omega
   ·exact ⟨g,cap,hv⟩
  subst hv
  unfold elB at hT
  split at hT
  ·rename_i e' hu
   split at hT
   ·rename_i inf hi'
    simp at hT
    obtain ⟨rfl,rfl,rfl⟩:=hT
    have h5:I<xs.length:=by omega
    rw [u5]
    simp [execOp,hE _ _ hx,hE _ _ hy,Instr.indexAt,asIntOf,run_underlying hu,sizeOf,typeInfo,hi',h0,h5,Addr.add_mid]
   ·simp at hT
  ·simp at hT) id (fun a w hE hm ⟨z,_,h1,h2⟩=>k z h1 a w hE hm h2)
end
section
variable {P:Program} {n:Nat} {G D:Nat→Prop} {w0:World} {Q:Exit→Act→World→Prop} {R:Act→World→Prop} {E:Env} {L M:List Ch} {φ:Prop}
variable {d:Tmp} {ty:TypeId} {pos:String} {aft:Array Edge} {gd:Option (Nat×Bool)} {Tk:Act→World→Prop} {Lr:List Ch} {x y:Operand} {T T' S:TypeId} {e sz by':Nat} {dst:Option Tmp} {at':Array TypeId}
theorem zj3 {α:Type} {El':El α} {vs:List Value} {xs:List (List α)} {I:Int} {κ:List α→Prop} {len e':Nat} (M:uk P n G D w0 E ⟨some d,.index T x y,ty,pos,aft,gd⟩ Tk R Lr L) (hfa:∀ w,Mem G D w0 L w→zfB El' (fz G L w) w vs xs) (hT:zeb P T=some (len,e',false,1)) (k:∀ v z,xs[I.toNat]?=some z→Nx n G D w0 R ((d,v) :: E) (xu El' v z :: L) (κ z)) (hx:oev E x=some (.agg vs.toArray):=by rfl) (hy:oev E y=some (.int .i64 I):=by rfl) (hd:Nat.blt d n=true:=by rfl) (hl:xs.length=len:=by rfl):Nx n G D w0 Tk E L (zH xs I κ):=fun a w hE hm hφ=>by
 refine (M.val (v:=zhc vs I) (φ:=zH xs I κ) (ψ:=zH xs I κ) hd rfl (fun ρ w hE hm hφ=>?_) id (fun a' w' hE' hm' hφ'=>?_)) a w hE hm hφ
 ·obtain ⟨z,h0,h1,h2⟩:=hφ
  have hlt:=(List.getElem?_eq_some_iff.1 h1).1
  obtain ⟨hu',ht⟩:=zgb hT
  obtain ⟨i,hq,hi⟩:=zdM ht
  have h5:I<len:=by omega
  have hvl:vs.length=xs.length:=by
   have key:∀ {vs:List Value} {xs:List (List α)} {F:Nat→Prop} {w:World},zfB El' F w vs xs→vs.length=xs.length:=by
    intro vs
    induction vs with
    | nil=>intro xs F w h;cases xs with
     | nil=>rfl
     | cons _ _=>exact h.elim
    | cons v vs ih=>intro xs F w h;cases xs with
     | nil=>exact h.elim
     | cons x xs=>simp [ih h.2]
   exact key (hfa _ (by assumption))
  have hv:ldv false (I.toNat * 1) 1 vs=some (zhc vs I):=by
   have:I.toNat<vs.length:=by omega
   simp [ldv,zhc,this]
  have hr:=zfQ (P:=P) (w:=w) ht hv
  simp at hr
  simp [execOp,hE _ _ hx,hE _ _ hy,Instr.index,asIntOf,run_underlying hu',sizeOf,typeInfo,hq,hi,h0,h5,hr]
 ·obtain ⟨z,h0,h1,h2⟩:=hφ'
  obtain ⟨v,hv,hs⟩:=(hfa w' hm').get h1
  have hp:zhc vs I=v:=by simp [zhc,hv]
  rw [hp] at hE'
  exact k v z h1 a' w' hE' (hm'.note (fun b hb=>hb) hs) h2
end
section
variable {P:Program} {n:Nat} {G D:Nat→Prop} {w0:World} {Q:Exit→Act→World→Prop} {R:Act→World→Prop} {E:Env} {L:List Ch} {φ:Prop}
variable {d:Tmp} {ty:TypeId} {pos:String} {aft:Array Edge} {gd:Option (Nat×Bool)} {Tk:Act→World→Prop} {Lr:List Ch} {x y:Operand} {T T' S:TypeId}
theorem xy (M:uk P n G D w0 E ⟨some d,.indexAddr T x y,ty,pos,aft,gd⟩ Tk R Lr L) {α:Type} {El':El α} {b o cap:Nat} {xs:List α} {c:Ch} {I:Int} {κ:α→Prop} {len e sz:Nat} {row:Bool} (i:Nat) (hc:YD c El' (.slice (some ⟨b,o,none⟩) len cap) xs) (hT:zeb P T=some (len,e,row,sz)) (k:∀ z,xs[I.toNat]?=some z→Nx n G D w0 R ((d,pEl (.slice (some ⟨b,o,none⟩) len cap) I sz 0) :: E) L (κ z)) (hi:xz Lr i=some c:=by rfl) (hx:oev E x=some (.pointer (some ⟨b,o,none⟩)):=by rfl) (hy:oev E y=some (.int .i64 I):=by rfl) (hd:Nat.blt d n=true:=by rfl):Nx n G D w0 Tk E L (zH xs I κ) :=
 M.val (v:=pEl (.slice (some ⟨b,o,none⟩) len cap) I sz 0) (ψ:=zH xs I κ) hd rfl (fun ρ w hE hm hφ=>by
  obtain ⟨z,h0,h1,h2⟩:=hφ
  obtain ⟨a',cap',he,_⟩:=hc _ _ (hm.get hi)
  have hln:xs.length=len:=by simp at he;exact he.2.1.symm
  have hlt:=(List.getElem?_eq_some_iff.1 h1).1
  obtain ⟨hu',ht⟩:=zgb hT
  obtain ⟨i,hq,hi⟩:=zdM ht
  have h5:I<len:=by omega
  rw [u5]
  simp [execOp,hE _ _ hx,hE _ _ hy,Instr.indexAt,Instr.sureAddr,asIntOf,run_underlying hu',sizeOf,typeInfo,hq,hi,h0,h5,Addr.add_mid]) id (fun a w hE hm ⟨z,_,h1,h2⟩=>k z h1 a w hE hm h2)
end
section
variable {P:Program} {n:Nat} {G D:Nat→Prop} {w0:World} {Q:Exit→Act→World→Prop} {R:Act→World→Prop} {E:Env} {L:List Ch} {φ:Prop}
variable {d:Tmp} {ty:TypeId} {pos:String} {aft:Array Edge} {gd:Option (Nat×Bool)} {Tk:Act→World→Prop} {Lr:List Ch} {x y:Operand} {T T' S:TypeId}
end
section
variable {P:Program} {n:Nat} {G D:Nat→Prop} {w0:World} {Q:Exit→Act→World→Prop} {R:Act→World→Prop} {E:Env} {L:List Ch} {φ:Prop}
variable {d:Tmp} {ty:TypeId} {pos:String} {aft:Array Edge} {gd:Option (Nat×Bool)} {Tk:Act→World→Prop} {Lr:List Ch} {x y:Operand} {T T' S:TypeId}
theorem zgF (M:uk P n G D w0 E ⟨some d,.index T x y,ty,pos,aft,gd⟩ Tk R Lr L) {α:Type} {enc:α→List Value} {zs:List α} {cs:List Value} {I:Int} {κ:α→Prop} {u:α→Value} {len e sz:Nat} {row:Bool} (hT:zeb P T=some (len,e,row,sz)) (he:∀ z,(enc z).length=sz) (hu:∀ z,ldv row 0 sz (enc z)=some (u z)) (k:∀ z,Nx n G D w0 R ((d,u z) :: E) L (κ z)) (hx:oev E x=some (.agg cs.toArray):=by rfl) (hy:oev E y=some (.int .i64 I):=by rfl) (hd:Nat.blt d n=true:=by rfl) (hcs:zs.flatMap enc=cs:=by rfl) (hl:zs.length=len:=by rfl):Nx n G D w0 Tk E L (zH zs I κ):=fun a w hE hm hφ=>by
 obtain ⟨z,h0,h1,h2⟩:=hφ
 refine (M.val (v:=u z) (φ:=κ z) (ψ:=κ z) hd rfl (fun ρ w hE hm hφ=>?_) id (k z)) a w hE hm h2
 obtain ⟨hu',ht⟩:=zgb hT
 obtain ⟨i,hq,hi⟩:=zdM ht
 have hlt:=(List.getElem?_eq_some_iff.1 h1).1
 have h5:I<len:=by omega
 have hr:=zfQ (P:=P) (w:=w) ht (zhB he zs _ _ h1 row _ (hu z))
 rw [hcs] at hr
 simp [execOp,hE _ _ hx,hE _ _ hy,Instr.index,asIntOf,run_underlying hu',sizeOf,typeInfo,hq,hi,h0,h5,hr]
end
section
variable {P:Program} {n:Nat} {G D:Nat→Prop} {w0:World} {Q:Exit→Act→World→Prop} {R:Act→World→Prop} {E:Env} {L M:List Ch} {φ:Prop}
variable {d:Tmp} {ty:TypeId} {pos:String} {aft:Array Edge} {gd:Option (Nat×Bool)} {Tk:Act→World→Prop} {Lr:List Ch} {x y:Operand} {T T' S:TypeId} {e sz by':Nat}
theorem zj1 {α:Type} {El':El α} {enc:α→List Value} {b len cap fs:Nat} {xs:List α} {c:Ch} {u:List Value} (M:uk P n G D w0 E ⟨some d,.load T x,ty,pos,aft,gd⟩ Tk R Lr L) (i:Nat) (hc:YD c El' (.slice (some ⟨b,0,none⟩) len cap) xs) (hfl:UC El' enc) (hT:tyB P T=some (true,fs)) (k:Nx n G D w0 R ((d,.agg u.toArray) :: E) L φ) (hi:xz Lr i=some c:=by rfl) (hx:oev E x=some (.pointer (some ⟨b,0,none⟩)):=by rfl) (hd:Nat.blt d n=true:=by rfl) (hu:(xs.map enc).flatten=u:=by rfl) (hl:Nat.beq u.length fs=true:=by rfl):Nx n G D w0 Tk E L φ :=
 M.val hd rfl (fun ρ w hE hm _=>by
  obtain ⟨css,h1,h2⟩:=ziG (uj hfl hc _ _ (hm.get hi))
  rw [zfR hfl h1,hu] at h2
  have hv:ldv true 0 fs u=some (.agg u.toArray):=by
   have:=Nat.eq_of_beq_eq_true hl
   simp [ldv,← this]
  have:=U7 (P:=P) hT h2 hv
  rw [Nat.add_zero] at this
  simp [execOp,hE _ _ hx,this]) id k
theorem xD {α:Type} {El':El α} {b len cap fs:Nat} {xs:List α} {c:Ch} (i:Nat) (hc:Src c El' (.slice (some ⟨b,0,none⟩) len cap) xs) (hT:tyB P T=some (true,fs)) (k:∀ wr F0 css,Rows El' F0 wr xs css→∃ u:List Value,css.flatten=u∧Nx n G D w0 R ((d,.agg u.toArray) :: E) (zl wr F0 :: L) φ) (hi:xz L i=some c:=by rfl) (hx:oev E x=some (.pointer (some ⟨b,0,none⟩)):=by rfl) (hd:Nat.blt d n=true:=by rfl) (hlen:xs.length=len:=by rfl) (hfs:len * El'.size=fs:=by rfl):Nx n G D w0 (fun a w=>Oper.wp P ⟨some d,.load T x,ty,pos,aft,gd⟩ a w R Q) E L φ:=zhS i hi hc hx hd hlen hT hfs k
end
section
variable {P:Program} {n:Nat} {G D:Nat→Prop} {w0:World} {Q:Exit→Act→World→Prop} {R:Act→World→Prop} {E:Env} {L:List Ch} {φ:Prop}
variable {d:Tmp} {ty:TypeId} {pos:String} {aft:Array Edge} {gd:Option (Nat×Bool)} {Tk:Act→World→Prop} {Lr:List Ch} {x y:Operand} {T T' S:TypeId} {e sz by':Nat}
theorem xh {α:Type} {E':El α} {v:Value} {xs:List α} {c:Ch} {I:Int} {z:α} {o fs:Nat} {row:Bool} (i:Nat) (hc:Src c E' v xs) (hz:xs[I.toNat]?=some z) (hT:tyB P T=some (row,fs)) (k:∀ wr F0 cs,E'.cells F0 wr z cs→∃ u,ldv row o fs cs=some u∧Nx n G D w0 R ((d,u) :: E) (zl wr F0 :: L) φ) (hi:xz L i=some c:=by rfl) (hx:oev E x=some (pEl v I E'.size o):=by rfl) (hd:Nat.blt d n=true:=by rfl):Nx n G D w0 (fun a w=>Oper.wp P ⟨some d,.load T x,ty,pos,aft,gd⟩ a w R Q) E L φ :=
 XX hd rfl fun ρ w hE hm hφ=>by
  obtain ⟨b,off,cap,cs,rfl,_,hcs,hr⟩:=(hc _ _ (hm.get hi)).at hz
  obtain ⟨u,hu,hk⟩:=k w (fz G L w) cs hcs
  have:=U7 (P:=P) hT hr hu
  rw [u5] at hx
  exact ⟨u,w,zl w (fz G L w) :: L,φ,by simp [execOp,hE _ _ hx,this],hm.note (fun b hb=>hb) ⟨fun b hb=>hb,fun _ _=>rfl⟩,hφ,hk⟩
end
section
variable {P:Program} {n:Nat} {G D:Nat→Prop} {w0:World} {Q:Exit→Act→World→Prop} {R:Act→World→Prop} {E:Env} {L M:List Ch} {φ:Prop}
variable {d:Tmp} {ty:TypeId} {pos:String} {aft:Array Edge} {gd:Option (Nat×Bool)} {Tk:Act→World→Prop} {Lr:List Ch} {x y:Operand} {T T' S:TypeId} {e sz by':Nat}
theorem VQ {α β:Type} {E':DEl α} {E1:DEl β} {t1:TypeId} {v:Value} {xs:List α} {B:List Nat} {I:Int} {z:α} {zin:List β} {o fs:Nat} {row:Bool} {encz:Value→List Value} (hz:xs[I.toNat]?=some z) (hop:∀ B w cs,E'.own B w z cs→∃ v0,cs=encz v0∧Dp E1 t1 B w v0 zin) (hT:tyB P T=some (row,fs)) (k:∀ v0 B' C,∃ u,ldv row o fs (encz v0)=some u∧Nx n G D w0 R ((d,u) :: E) (zbY E' e B' v xs I.toNat (encz v0) :: jR E1 t1 C v0 zin :: L) φ) (hes:E'.el.size=sz:=by rfl) (hx:oev E x=some (pEl v I sz o):=by rfl) (hd:Nat.blt d n=true:=by rfl):Nx n G D w0 (fun a w=>Oper.wp P ⟨some d,.load T x,ty,pos,aft,gd⟩ a w R Q) E (jR E' e B v xs :: L) φ :=
 XX hd rfl fun ρ w hE hm hφ=>by
  have hlt:=(List.getElem?_eq_some_iff.1 hz).1
  obtain ⟨bn,css,Bs,hr,how,hB⟩:=hm.hold _ (List.mem_cons_self ..)
  have hlc:I.toNat<css.length:=by rw [hr.lc];exact hlt
  have hlb:I.toNat<Bs.length:=by rw [hr.lb];exact hlt
  have hcI:css[I.toNat]?=some css[I.toNat]:=List.getElem?_eq_getElem hlc
  have hbI:Bs[I.toNat]?=some Bs[I.toNat]:=List.getElem?_eq_getElem hlb
  obtain ⟨v0,hv0,hdp⟩:=hop _ _ _ (hr.own _ _ _ _ hz hcI hbI)
  have hlz:=hr.size _ (List.mem_of_getElem? hcI)
  obtain ⟨g,cap,hv⟩:∃ g cap,v=.slice (some ⟨g,0,none⟩) xs.length cap:=by
   rcases how.2 with ⟨_,hn⟩ | ⟨g,cap,cur,hv,_⟩
   ·omega
   ·exact ⟨g,cap,hv⟩
  subst hv
  have hBn:=hB.nodup_iff.1 bn
  have hout:=zb7 hbI
  obtain ⟨u,hu,hk⟩:=k v0 (Vz (.slice (some ⟨g,0,none⟩) xs.length cap)++(Bs.set I.toNat []).flatten) Bs[I.toNat]
  have hrange:w.rangeAt g (0+I.toNat * E'.el.size) css[I.toNat]:=by
   have hs:=(hr.rows (F:=fun _=>True) (fun _ _=>trivial)).get hz
   rcases how.2 with ⟨h,_⟩ | ⟨g',cap',cur,h,_,hg,hnc,_,hcs,ht⟩
   ·cases h
   cases h
   intro j q hq
   rw [cell_of_row w g _ cur e (0,0) hg]
   have hj:=(List.getElem?_eq_some_iff.1 hq).1
   have hfl:css.flatten[I.toNat * E'.el.size+j]?=some q:=by
    have hsp:css=css.take I.toNat++css[I.toNat] :: css.drop (I.toNat+1):=by simp
    have hpl:(css.take I.toNat).flatten.length=I.toNat * E'.el.size:=by rw [ze6 (z:=E'.el.size) (fun cs hc=>hr.size cs (List.mem_of_mem_take hc)),List.length_take];congr 1;omega
    rw [hsp,List.flatten_append,List.getElem?_append_right (by omega),hpl,Nat.add_sub_cancel_left,List.flatten_cons,List.getElem?_append_left (by simpa using hj)]
    simpa using hq
   rw [← ht,List.getElem?_take] at hfl
   split at hfl
   ·simpa using hfl
   ·cases hfl
  have hld:=U7 (P:=P) hT hrange (by rw [hv0];exact hu)
  rw [u5,← hes] at hx
  simp only [Nat.zero_add] at hx hld
  refine ⟨u,w,_,φ,by simp [execOp,hE _ _ hx,hld],?_,hφ,hk⟩
  refine hm.repl (M0:=[jR E' e B (.slice (some ⟨g,0,none⟩) xs.length cap) xs]) (N:=[zbY E' e _ (.slice (some ⟨g,0,none⟩) xs.length cap) xs I.toNat (encz v0),jR E1 t1 Bs[I.toNat] v0 zin]) zfw (fun c hc b hb=>?_) ?_ (fun c hc F=>?_)
  ·have hb':b∈B:=by
    simp only [List.mem_cons,List.not_mem_nil,or_false] at hc
    rcases hc with rfl | rfl
    ·rcases List.mem_append.1 hb with hb | hb
     ·exact hB.symm.subset (List.mem_append.2 (.inl hb))
     ·exact hB.symm.subset (List.mem_append.2 (.inr (hout.symm.subset (List.mem_append.2 (.inr hb)))))
    ·exact hB.symm.subset (List.mem_append.2 (.inr (hout.symm.subset (List.mem_append.2 (.inl hb)))))
   exact ⟨.inr ⟨_,List.mem_cons_self ..,hb'⟩,(hm.range _ (List.mem_cons_self ..) b hb').1⟩
  ·refine List.pairwise_cons.2 ⟨fun c hc b hb hcb=>?_,List.pairwise_singleton _ _⟩
   simp only [List.mem_cons,List.not_mem_nil,or_false] at hc
   subst hc
   have h2:=(List.Perm.append_left (Vz (.slice (some ⟨g,0,none⟩) xs.length cap)) hout).nodup_iff.1 hBn
   simp only [List.nodup_append,List.mem_append] at h2
   rcases List.mem_append.1 hb with hb | hb
   ·exact h2.2.2 b hb b (.inl hcb) rfl
   ·exact h2.2.1.2.2 b hcb b hb rfl
  ·simp only [List.mem_cons,List.not_mem_nil,or_false] at hc
   have h2:=(List.Perm.append_left (Vz (.slice (some ⟨g,0,none⟩) xs.length cap)) hout).nodup_iff.1 hBn
   rcases hc with rfl | rfl
   ·refine ⟨?_,css,Bs.set I.toNat [],⟨hr.lc,by simp [hr.lb],fun i x cs C hne k1 k2 k3=>?_,by rw [hcI,hv0],by simp [hlb],hr.size⟩,how,List.Perm.refl _⟩
    ·simp only [List.nodup_append,List.mem_append] at h2 ⊢
     exact ⟨h2.1,h2.2.1.2.1,fun a ha b hb=>h2.2.2 a ha b (.inr hb)⟩
    ·rw [List.getElem?_set_ne (fun e=>hne e.symm)] at k3
     exact hr.own i x cs C k1 k2 k3
   ·refine ⟨?_,hdp⟩
    simp only [List.nodup_append,List.mem_append] at h2
    exact h2.2.1.1
end
section
variable {P:Program} {n:Nat} {G D:Nat→Prop} {w0:World} {Q:Exit→Act→World→Prop} {R:Act→World→Prop} {E:Env} {L M:List Ch} {φ:Prop}
variable {d:Tmp} {ty:TypeId} {pos:String} {aft:Array Edge} {gd:Option (Nat×Bool)} {Tk:Act→World→Prop} {Lr:List Ch} {x y:Operand} {T T' S:TypeId} {e sz by':Nat}
end
section
variable {P:Program} {n:Nat} {G D:Nat→Prop} {w0:World} {Q:Exit→Act→World→Prop} {R:Act→World→Prop} {E:Env} {L:List Ch} {φ:Prop}
variable {d:Tmp} {ty:TypeId} {pos:String} {aft:Array Edge} {gd:Option (Nat×Bool)} {Tk:Act→World→Prop} {Lr:List Ch} {x y:Operand} {T T' S:TypeId} {e sz by':Nat}
theorem jq (M:uk P n G D w0 E ⟨some d,.load T x,ty,pos,aft,gd⟩ Tk R Lr L) {wr:World} {F0:Nat→Prop} {v:Value} {I:Int} {o fs:Nat} {cs:List Value} {row:Bool} {u:Value} (i:Nat) (hr:zhu wr F0 v I sz cs) (hT:tyB P T=some (row,fs)) (k:Nx n G D w0 R ((d,u) :: E) L φ) (hi:xz Lr i=some (zl wr F0):=by rfl) (hx:oev E x=some (pEl v I sz o):=by rfl) (hd:Nat.blt d n=true:=by rfl) (hu:ldv row o fs cs=some u:=by rfl):Nx n G D w0 Tk E L φ :=
 M.val hd rfl (fun ρ w hE hm _=>by
  obtain ⟨b,off,l,c,rfl,hb,hc⟩:=hr
  have h:(zl wr F0).holds _ w:=hm.get hi
  have hc':w.rangeAt b (off+I.toNat * sz) cs:=zcR hc (h.2 b hb)
  have:=U7 (P:=P) hT hc' hu
  rw [u5] at hx
  simp [execOp,hE _ _ hx,this]) id k
end
section
variable {P:Program} {n:Nat} {G D:Nat→Prop} {w0:World} {Q:Exit→Act→World→Prop} {R:Act→World→Prop} {E:Env} {L:List Ch} {φ:Prop}
variable {d:Tmp} {ty:TypeId} {pos:String} {aft:Array Edge} {gd:Option (Nat×Bool)} {Tk:Act→World→Prop} {Lr:List Ch} {x y:Operand} {T T' S:TypeId}
theorem zm (M:uk P n G D w0 E ⟨some d,.load T x,ty,pos,aft,gd⟩ Tk R Lr L) {b o sz:Nat} {cs:List Value} {T0:TypeId} {row:Bool} {v:Value} (i:Nat) (hT:tyB P T=some (row,sz)) (k:Nx n G D w0 R ((d,v) :: E) L φ) (hi:xz Lr i=some (zc b cs T0):=by rfl) (hx:oev E x=some (.pointer (some ⟨b,o,none⟩)):=by rfl) (hd:Nat.blt d n=true:=by rfl) (hv:ldv row o sz cs=some v:=by rfl):Nx n G D w0 Tk E L φ:=zik M i hi hx hd hT hv k
theorem jr (M:uk P n G D w0 E ⟨some d,.load T x,ty,pos,aft,gd⟩ Tk R Lr L) {α:Type} {El':El α} {enc:α→List Value} {v:Value} {xs:List α} {c:Ch} {I:Int} {z:α} {o sz fs:Nat} {row:Bool} {u:Value} (i:Nat) (hc:YD c El' v xs) (hfl:UC El' enc) (hz:xs[I.toNat]?=some z) (hT:tyB P T=some (row,fs)) (k:Nx n G D w0 R ((d,u) :: E) L φ) (hi:xz Lr i=some c:=by rfl) (hes:El'.size=sz:=by rfl) (hx:oev E x=some (pEl v I sz o):=by rfl) (hd:Nat.blt d n=true:=by rfl) (hv:ldv row o fs (enc z)=some u:=by rfl):Nx n G D w0 Tk E L φ :=
 M.val hd rfl (fun ρ w hE hm _=>by
  obtain ⟨b,off',cap,cs,rfl,h1,h2⟩:=(hc _ _ (hm.get hi)).at hz
  rw [u5] at hx
  rw [(hfl _ _ _ _).1 h1,hes] at h2
  have:=U7 (P:=P) hT h2 hv
  simp [execOp,hE _ _ hx,this]) id k
theorem zJ (M:uk P n G D w0 E ⟨some d,.call {callee:=.builtin .len,args:=#[x],argTypes:=#[T]},ty,pos,aft,gd⟩ Tk R Lr L) {α:Type} {El':El α} {v:Value} {xs:List α} {c:Ch} {p:TypeId×Nat×Nat} (hT:elB P T=some p) (i:Nat) (hc:YD c El' v xs) (k:Nx n G D w0 R ((d,.int .i64 xs.length) :: E) L φ) (hi:xz Lr i=some c:=by rfl) (hx:oev E x=some v:=by rfl) (hd:Nat.blt d n=true:=by rfl):Nx n G D w0 Tk E L φ:=ziB M hT i hi hc hx hd k
end
section
variable {P:Program} {n:Nat} {G D:Nat→Prop} {w0:World} {Q:Exit→Act→World→Prop} {R:Act→World→Prop} {E:Env} {L M:List Ch} {φ:Prop}
variable {d:Tmp} {ty:TypeId} {pos:String} {aft:Array Edge} {gd:Option (Nat×Bool)} {Tk:Act→World→Prop} {Lr:List Ch} {x y:Operand} {T T' S:TypeId}
end
section
variable {P:Program} {n:Nat} {G D:Nat→Prop} {w0:World} {Q:Exit→Act→World→Prop} {R:Act→World→Prop} {E:Env} {L:List Ch} {φ:Prop}
variable {d:Tmp} {ty:TypeId} {pos:String} {aft:Array Edge} {gd:Option (Nat×Bool)} {Tk:Act→World→Prop} {Lr:List Ch} {x y:Operand} {T T' S:TypeId}
end
section
variable {P:Program} {n:Nat} {G D:Nat→Prop} {w0:World} {Q:Exit→Act→World→Prop} {R:Act→World→Prop} {E:Env} {L:List Ch} {φ:Prop}
variable {d:Tmp} {ty:TypeId} {pos:String} {aft:Array Edge} {gd:Option (Nat×Bool)} {Tk:Act→World→Prop} {Lr:List Ch} {x y:Operand} {T T':TypeId}
theorem yQ (M:uk P n G D w0 E ⟨some d,.binOp .leq T x y T',ty,pos,aft,gd⟩ Tk R Lr L) {X Y:Int} {K:IntKind} (k:Nx n G D w0 R ((d,.bool (decide (X≤Y))) :: E) L φ) (hx:oev E x=some (.int K X):=by rfl) (hy:oev E y=some (.int K Y):=by rfl) (hd:Nat.blt d n=true:=by rfl):Nx n G D w0 Tk E L φ :=
 M.val hd rfl (fun ρ w hE _ hφ=>by simp [execOp,hE _ _ hx,hE _ _ hy,go_sem]) id k
theorem z7 (M:uk P n G D w0 E ⟨some d,.binOp .lss T x y T',ty,pos,aft,gd⟩ Tk R Lr L) {X Y:Int} {K:IntKind} (k:Nx n G D w0 R ((d,.bool (decide (X<Y))) :: E) L φ) (hx:oev E x=some (.int K X):=by rfl) (hy:oev E y=some (.int K Y):=by rfl) (hd:Nat.blt d n=true:=by rfl):Nx n G D w0 Tk E L φ:=zlH M hx hy hd k
end
section
variable {P:Program} {n:Nat} {G D:Nat→Prop} {w0:World} {Q:Exit→Act→World→Prop} {R:Act→World→Prop} {E:Env} {L:List Ch} {φ:Prop}
variable {d:Tmp} {ty:TypeId} {pos:String} {aft:Array Edge} {gd:Option (Nat×Bool)} {Tk:Act→World→Prop} {Lr:List Ch} {x y:Operand} {T T' S:TypeId} {e sz by':Nat}
theorem zij {α:Type} {El':El α} {enc:α→List Value} {z:α} {N M:Int} {κ:List α→Prop} {zs:List Value} (hfl:UC El' enc) (hT:elB P T=some (e,sz,by')) (hzr:uH P e=some zs) (k:∀ v xs,Nx n G D w0 R ((d,v) :: E) (ze El' e v xs :: L) (κ xs)) (hx:oev E x=some (.int .i64 N):=by rfl) (hy:oev E y=some (.int .i64 M):=by rfl) (hd:Nat.blt d n=true:=by rfl) (hby:Nat.ble by' 32768=true:=by rfl) (hz:enc z=zs:=by rfl) (hes:El'.size=sz:=by rfl):Nx n G D w0 (fun a w=>Oper.wp P ⟨some d,.makeSlice T x y,ty,pos,aft,gd⟩ a w R Q) E L (zav z N M κ) :=
 XX hd rfl fun ρ w hE hm hφ=>by
  obtain ⟨h0,h1,h2,h3⟩:=hφ
  obtain ⟨hu,i,hi,rfl,rfl⟩:=yd hT
  obtain ⟨z',hz',hzc⟩:=yP hzr hi
  unfold zds at h2
  have hbl:=Nat.le_of_ble_eq_true hby
  obtain ⟨M',rfl⟩:=Int.eq_ofNat_of_zero_le (show 0≤M by omega)
  have hb:(i.bytes:Int) * (M':Int)≤281474976710656:=by
   have h5:i.bytes * M'≤32768 * 4294967296:=Nat.mul_le_mul hbl (by simpa using h2)
   rw [← Int.natCast_mul]
   omega
  have hr:=run_make (P:=P) w T e i z' hu hi hz' .i64 .i64 N M' h0 h1 hb (by simp at h2;omega)
  have hlz:(enc z).length=El'.size:=hfl.size w z
  have hpos:=El'.pos
  rw [hzc,← hz,← hes,← hlz] at hr
  rw [Int.toNat_natCast] at hr h2
  refine ⟨.slice (some ⟨w.heap.size,0,none⟩) N.toNat M',w.alloc (.cells (madeCells (enc z).toArray (M' * (enc z).length)) e),_,κ (List.replicate N.toNat z),by simp [execOp,hE _ _ hx,hE _ _ hy,hr],?_,h3,k _ _⟩
  refine hm.add _ ((Below.refl _ _).alloc (Nat.le_refl _) _) (fun b hb=>by simp [ze,Value.ownBlock] at hb;rw [World.size_alloc];omega) ?_
  have hown:=zbp (El':=El') (F:=fz G (ze El' e (.slice (some ⟨w.heap.size,0,none⟩) N.toNat M') (List.replicate N.toNat z) :: L) (w.alloc (.cells (madeCells (enc z).toArray (M' * (enc z).length)) e))) (w:=w.alloc (.cells (madeCells (enc z).toArray (M' * (enc z).length)) e)) (ty:=e) (b:=w.heap.size) (cap:=M')
   (Rows.replicate ((hfl _ _ _ _).2 rfl) N.toNat) (heap_alloc_new w _) (by simp;omega) (by unfold maxLen;omega) (by rw [size_madeCells,hlz]) (by
    rw [Zt _ _ (by omega),List.length_replicate,← hlz]
    have:List.replicate M' (enc z)=List.replicate N.toNat (enc z)++List.replicate (M' - N.toNat) (enc z):=by rw [List.replicate_append_replicate];congr 1;omega
    rw [this,List.flatten_append,List.take_left' (by simp)])
  rw [List.length_replicate] at hown
  exact hown
end
section
variable {P:Program} {n:Nat} {G D:Nat→Prop} {w0:World} {Q:Exit→Act→World→Prop} {R:Act→World→Prop} {E:Env} {L M:List Ch} {φ:Prop}
variable {d:Tmp} {ty:TypeId} {pos:String} {aft:Array Edge} {gd:Option (Nat×Bool)} {Tk:Act→World→Prop} {Lr:List Ch} {x y:Operand} {T T' S:TypeId} {e sz by':Nat}
theorem zeZ {α:Type} {E':DEl α} {z:α} {N M:Int} {κ:List α→Prop} {zs:List Value} (hz:∀ w,E'.own [] w z zs) (hT:elB P T=some (e,sz,by')) (hzr:uH P e=some zs) (k:∀ B v xs,Nx n G D w0 R ((d,v) :: E) (jR E' e B v xs :: L) (κ xs)) (hx:oev E x=some (.int .i64 N):=by rfl) (hy:oev E y=some (.int .i64 M):=by rfl) (hd:Nat.blt d n=true:=by rfl) (hby:Nat.ble by' 32768=true:=by rfl) (hes:E'.el.size=sz:=by rfl):Nx n G D w0 (fun a w=>Oper.wp P ⟨some d,.makeSlice T x y,ty,pos,aft,gd⟩ a w R Q) E L (zav z N M κ) :=
 XX hd rfl fun ρ w hE hm hφ=>by
  obtain ⟨h0,h1,h2,h3⟩:=hφ
  obtain ⟨hu,i,hi,rfl,rfl⟩:=yd hT
  obtain ⟨z',hz',hzc⟩:=yP hzr hi
  unfold zds at h2
  have hbl:=Nat.le_of_ble_eq_true hby
  obtain ⟨M',rfl⟩:=Int.eq_ofNat_of_zero_le (show 0≤M by omega)
  have hb:(i.bytes:Int) * (M':Int)≤281474976710656:=by
   have h5:i.bytes * M'≤32768 * 4294967296:=Nat.mul_le_mul hbl (by simpa using h2)
   rw [← Int.natCast_mul]
   omega
  have hr:=run_make (P:=P) w T e i z' hu hi hz' .i64 .i64 N M' h0 h1 hb (by simp at h2;omega)
  have hlz:zs.length=E'.el.size:=E'.el.len _ _ _ _ (E'.read _ _ _ _ (hz w))
  have hpos:=E'.el.pos
  rw [hzc,← hes,← hlz] at hr
  rw [Int.toNat_natCast] at hr h2
  refine ⟨.slice (some ⟨w.heap.size,0,none⟩) N.toNat M',w.alloc (.cells (madeCells zs.toArray (M' * zs.length)) e),_,κ (List.replicate N.toNat z),by simp [execOp,hE _ _ hx,hE _ _ hy,hr],?_,h3,k [w.heap.size] _ _⟩
  refine hm.add _ ((Below.refl _ _).alloc (Nat.le_refl _) _) (fun b hb=>by simp [jR] at hb;rw [World.size_alloc];omega) ⟨by simp,?_⟩
  have hr:=yL.replicate (E:=E') (w:=w.alloc (.cells (madeCells zs.toArray (M' * zs.length)) e)) (hz _) N.toNat
  refine ⟨_,_,hr,?_,by rw [zb0];simp [Vz,Value.ownBlock]⟩
  rw [List.length_replicate]
  refine ⟨by simp [hlz],.inr ⟨w.heap.size,M',madeCells zs.toArray (M' * zs.length),rfl,Nat.zero_le _,heap_alloc_new w _,by omega,by unfold maxLen;omega,by rw [size_madeCells,hlz],?_⟩⟩
  rw [Zt _ _ (by omega),← hlz]
  have:List.replicate M' zs=List.replicate N.toNat zs++List.replicate (M' - N.toNat) zs:=by rw [List.replicate_append_replicate];congr 1;omega
  rw [this,List.flatten_append,List.take_left' (by simp)]
end
section
variable {P:Program} {n:Nat} {G D:Nat→Prop} {w0:World} {Q:Exit→Act→World→Prop} {R:Act→World→Prop} {E:Env} {L:List Ch} {φ:Prop}
variable {d:Tmp} {ty:TypeId} {pos:String} {aft:Array Edge} {gd:Option (Nat×Bool)} {Tk:Act→World→Prop} {Lr:List Ch} {x y:Operand} {T T' S:TypeId} {e sz by':Nat}
theorem ze8 {α:Type} {El':El α} {z:α} {N M:Int} {κ:List α→Prop} {zs:List Value} (hz:∀ F w,El'.cells F w z zs) (hT:elB P T=some (e,sz,by')) (hzr:uH P e=some zs) (k:∀ v xs,Nx n G D w0 R ((d,v) :: E) (ze El' e v xs :: L) (κ xs)) (hx:oev E x=some (.int .i64 N):=by rfl) (hy:oev E y=some (.int .i64 M):=by rfl) (hd:Nat.blt d n=true:=by rfl) (hby:Nat.ble by' 32768=true:=by rfl) (hes:El'.size=sz:=by rfl):Nx n G D w0 (fun a w=>Oper.wp P ⟨some d,.makeSlice T x y,ty,pos,aft,gd⟩ a w R Q) E L (zav z N M κ) :=
 XX hd rfl fun ρ w hE hm hφ=>by
  obtain ⟨h0,h1,h2,h3⟩:=hφ
  obtain ⟨hu,i,hi,rfl,rfl⟩:=yd hT
  obtain ⟨z',hz',hzc⟩:=yP hzr hi
  unfold zds at h2
  have hbl:=Nat.le_of_ble_eq_true hby
  obtain ⟨M',rfl⟩:=Int.eq_ofNat_of_zero_le (show 0≤M by omega)
  have hb:(i.bytes:Int) * (M':Int)≤281474976710656:=by
   have h5:i.bytes * M'≤32768 * 4294967296:=Nat.mul_le_mul hbl (by simpa using h2)
   rw [← Int.natCast_mul]
   omega
  have hr:=run_make (P:=P) w T e i z' hu hi hz' .i64 .i64 N M' h0 h1 hb (by simp at h2;omega)
  have hlz:zs.length=El'.size:=El'.len _ _ _ _ (hz (fun _=>True) w)
  have hpos:=El'.pos
  rw [hzc,← hes,← hlz] at hr
  rw [Int.toNat_natCast] at hr h2
  refine ⟨.slice (some ⟨w.heap.size,0,none⟩) N.toNat M',w.alloc (.cells (madeCells zs.toArray (M' * zs.length)) e),_,κ (List.replicate N.toNat z),by simp [execOp,hE _ _ hx,hE _ _ hy,hr],?_,h3,k _ _⟩
  refine hm.add _ ((Below.refl _ _).alloc (Nat.le_refl _) _) (fun b hb=>by simp [ze,Value.ownBlock] at hb;rw [World.size_alloc];omega) ?_
  have hown:=zbp (El':=El') (F:=fz G (ze El' e (.slice (some ⟨w.heap.size,0,none⟩) N.toNat M') (List.replicate N.toNat z) :: L) (w.alloc (.cells (madeCells zs.toArray (M' * zs.length)) e))) (w:=w.alloc (.cells (madeCells zs.toArray (M' * zs.length)) e)) (ty:=e) (b:=w.heap.size) (cap:=M')
   (Rows.replicate (hz _ _) N.toNat) (heap_alloc_new w _) (by simp;omega) (by unfold maxLen;omega) (by rw [size_madeCells,hlz]) (by
    rw [Zt _ _ (by omega),List.length_replicate,← hlz]
    have:List.replicate M' zs=List.replicate N.toNat zs++List.replicate (M' - N.toNat) zs:=by rw [List.replicate_append_replicate];congr 1;omega
    rw [this,List.flatten_append,List.take_left' (by simp)])
  rw [List.length_replicate] at hown
  exact hown
end
section
variable {P:Program} {n:Nat} {G D:Nat→Prop} {w0:World} {Q:Exit→Act→World→Prop} {R:Act→World→Prop} {E:Env} {L:List Ch} {φ:Prop}
variable {d:Tmp} {ty:TypeId} {pos:String} {aft:Array Edge} {gd:Option (Nat×Bool)} {Tk:Act→World→Prop} {Lr:List Ch} {x y:Operand} {T T' S:TypeId} {e sz by':Nat} {at':Array TypeId}
theorem zf9 (M:uk P n G D w0 E ⟨some d,.call {callee:=.builtin .max,args:=#[x,y],argTypes:=at'},ty,pos,aft,gd⟩ Tk R Lr L) {X Y:Int} (k:Nx n G D w0 R ((d,.int .i64 (max X Y)) :: E) L φ) (hx:oev E x=some (.int .i64 X):=by rfl) (hy:oev E y=some (.int .i64 Y):=by rfl) (hd:Nat.blt d n=true:=by rfl):Nx n G D w0 Tk E L φ :=
 M.val hd rfl (fun ρ w hE _ _=>by
  have e:(if Y > X then Y else X)=max X Y:=by rw [Int.max_def];split <;> split <;> omega
  simp [execOp,resolve,invoke,builtin,hE _ _ hx,hE _ _ hy,Builtin.max_,Builtin.max2,← e]) id k
theorem UY (M:uk P n G D w0 E ⟨some d,.call {callee:=.builtin .min,args:=#[x,y],argTypes:=at'},ty,pos,aft,gd⟩ Tk R Lr L) {X Y:Int} (k:Nx n G D w0 R ((d,.int .i64 (min X Y)) :: E) L φ) (hx:oev E x=some (.int .i64 X):=by rfl) (hy:oev E y=some (.int .i64 Y):=by rfl) (hd:Nat.blt d n=true:=by rfl):Nx n G D w0 Tk E L φ :=
 M.val hd rfl (fun ρ w hE _ _=>by
  have e:(if Y<X then Y else X)=min X Y:=by rw [Int.min_def];split <;> split <;> omega
  simp [execOp,resolve,invoke,builtin,hE _ _ hx,hE _ _ hy,Builtin.min_,Builtin.min2,← e]) id k
end
section
variable {P:Program} {n:Nat} {G D:Nat→Prop} {w0:World} {Q:Exit→Act→World→Prop} {R:Act→World→Prop} {E:Env} {L M:List Ch} {φ:Prop}
variable {d:Tmp} {ty:TypeId} {pos:String} {aft:Array Edge} {gd:Option (Nat×Bool)} {Tk:Act→World→Prop} {Lr:List Ch} {x y:Operand} {T T' S:TypeId} {e sz by':Nat} {dst:Option Tmp} {at':Array TypeId}
theorem zmD {f:Nat} {ps:Array Operand} {cv:List Value} (M:uk P n G D w0 E ⟨some d,.makeFunc (.func f) #[] ps,ty,pos,aft,gd⟩ Tk R Lr L) (hc:∀ ρ:Operand→Value,(∀ x v,oev E x=some v→ρ x=v)→ps.map ρ=cv.toArray) (k:Nx n G D w0 R ((d,.func (.func f) #[] cv.toArray) :: E) L φ) (hd:Nat.blt d n=true:=by rfl):Nx n G D w0 Tk E L φ:=zlE M hc hd k
theorem zc8 (M:uk P n G D w0 E ⟨some d,.makeInterface T x,ty,pos,aft,gd⟩ Tk R Lr L) {v u:Value} (hm:∀ v w,(Instr.makeInterface T v).run P w=.ok (.iface T v) w) (k:Nx n G D w0 R ((d,u) :: E) L φ) (hx:oev E x=some v:=by rfl) (hd:Nat.blt d n=true:=by rfl) (hu:Value.iface T v=u:=by rfl):Nx n G D w0 Tk E L φ :=
 M.val hd rfl (fun ρ w hE _ _=>by simp [execOp,hE _ _ hx,hm,hu]) id k
end
section
variable {P:Program} {n:Nat} {G D:Nat→Prop} {w0:World} {Q:Exit→Act→World→Prop} {R:Act→World→Prop} {E:Env} {L:List Ch} {φ:Prop}
variable {d:Tmp} {ty:TypeId} {pos:String} {aft:Array Edge} {gd:Option (Nat×Bool)} {Tk:Act→World→Prop} {Lr:List Ch} {x y:Operand} {T T':TypeId}
theorem zbQ (M:uk P n G D w0 E ⟨some d,.binOp .mul T x y T',ty,pos,aft,gd⟩ Tk R Lr L) {X Y:Int} {κ:Int→Prop} (k:∀ z,Nx n G D w0 R ((d,.int .i64 z) :: E) L (κ z)) (hx:oev E x=some (.int .i64 X):=by rfl) (hy:oev E y=some (.int .i64 Y):=by rfl) (hd:Nat.blt d n=true:=by rfl):Nx n G D w0 Tk E L (zgD X Y κ) :=
 M.val (v:=.int .i64 (X * Y)) hd rfl (fun ρ w hE _ hφ=>by
  have h:=hφ.1
  have e:IntKind.i64.wrap (X * Y)=X * Y:=by unfold I64 at h;rw [IntKind.wrap_i64];omega
  simp [execOp,hE _ _ hx,hE _ _ hy,go_sem,e]) (fun h=>h.2) (k _)
theorem ziy (M:uk P n G D w0 E ⟨some d,.binOp .mul T x y T',ty,pos,aft,gd⟩ Tk R Lr L) {X Y:Int} (k:Nx n G D w0 R ((d,.int .i64 (w64 (X * Y))) :: E) L φ) (hx:oev E x=some (.int .i64 X):=by rfl) (hy:oev E y=some (.int .i64 Y):=by rfl) (hd:Nat.blt d n=true:=by rfl):Nx n G D w0 Tk E L φ :=
 M.val hd rfl (fun ρ w hE _ _=>by simp [execOp,hE _ _ hx,hE _ _ hy,go_sem,w64]) id k
theorem zt (M:uk P n G D w0 E ⟨some d,.move x,ty,pos,aft,gd⟩ Tk R Lr L) {v:Value} (k:Nx n G D w0 R ((d,v) :: E) L φ) (hx:oev E x=some v:=by rfl) (hd:Nat.blt d n=true:=by rfl):Nx n G D w0 Tk E L φ:=Y4 M hx hd k
end
section
variable {P:Program} {n:Nat} {G D:Nat→Prop} {w0:World} {Q:Exit→Act→World→Prop} {R:Act→World→Prop} {E:Env} {L:List Ch} {φ:Prop}
variable {d:Tmp} {ty:TypeId} {pos:String} {aft:Array Edge} {gd:Option (Nat×Bool)} {Tk:Act→World→Prop} {Lr:List Ch} {x y:Operand} {T T' S:TypeId} {e sz by':Nat}
theorem VP (M:uk P n G D w0 E ⟨some d,.binOp .neq T x y T',ty,pos,aft,gd⟩ Tk R Lr L) {X Y:Int} {K:IntKind} (hT:P.underlying T=some (.int K)) (k:Nx n G D w0 R ((d,.bool (!decide (X=Y))) :: E) L φ) (hx:oev E x=some (.int K X):=by rfl) (hy:oev E y=some (.int K Y):=by rfl) (hd:Nat.blt d n=true:=by rfl):Nx n G D w0 Tk E L φ :=
 M.val hd rfl (fun ρ w hE _ _=>by simp [execOp,hE _ _ hx,hE _ _ hy,go_sem,hT,run_underlying hT];rfl) id k
theorem zgq (M:uk P n G D w0 E ⟨some d,.binOp .neq T x y T',ty,pos,aft,gd⟩ Tk R Lr L) {X Y:Bool} (hT:P.underlying T=some .bool) (k:Nx n G D w0 R ((d,.bool (!decide (X=Y))) :: E) L φ) (hx:oev E x=some (.bool X):=by rfl) (hy:oev E y=some (.bool Y):=by rfl) (hd:Nat.blt d n=true:=by rfl):Nx n G D w0 Tk E L φ :=
 M.val hd rfl (fun ρ w hE _ _=>by cases X <;> cases Y <;> simp [execOp,hE _ _ hx,hE _ _ hy,go_sem,hT,run_underlying hT]) id k
end
section
variable {P:Program} {n:Nat} {G D:Nat→Prop} {w0:World} {Q:Exit→Act→World→Prop} {R:Act→World→Prop} {E:Env} {L:List Ch} {φ:Prop}
variable {d:Tmp} {ty:TypeId} {pos:String} {aft:Array Edge} {gd:Option (Nat×Bool)} {Tk:Act→World→Prop} {Lr:List Ch} {x y:Operand} {T T' S:TypeId}
end
section
variable {P:Program} {n:Nat} {G D:Nat→Prop} {w0:World} {Q:Exit→Act→World→Prop} {R:Act→World→Prop} {E:Env} {L M:List Ch} {φ:Prop}
variable {d:Tmp} {ty:TypeId} {pos:String} {aft:Array Edge} {gd:Option (Nat×Bool)} {Tk:Act→World→Prop} {Lr:List Ch} {x y:Operand} {T T' S:TypeId} {e sz by':Nat}
theorem zbo {α:Type} {E':El α} {v:Value} {xs:List α} {c:Ch} {I:Int} {z:α} {o:Nat} (M:uk P n G D w0 E ⟨some d,.nilCheck x,ty,pos,aft,gd⟩ Tk R Lr L) (i:Nat) (hc:YD c E' v xs) (hz:xs[I.toNat]?=some z) (k:Nx n G D w0 R ((d,pEl v I sz o) :: E) L φ) (hi:xz Lr i=some c:=by rfl) (hx:oev E x=some (pEl v I sz o):=by rfl) (hd:Nat.blt d n=true:=by rfl):Nx n G D w0 Tk E L φ :=
 M.val hd rfl (fun ρ w hE hm _=>by
  obtain ⟨b,off,cap,cs,rfl,hcs,hr⟩:=(hc _ _ (hm.get hi)).at hz
  rw [u5] at hx
  simp [execOp,hE _ _ hx,u5]) id k
end
section
variable {P:Program} {n:Nat} {G D:Nat→Prop} {w0:World} {Q:Exit→Act→World→Prop} {R:Act→World→Prop} {E:Env} {L M:List Ch} {φ:Prop}
variable {d:Tmp} {ty:TypeId} {pos:String} {aft:Array Edge} {gd:Option (Nat×Bool)} {Tk:Act→World→Prop} {Lr:List Ch} {x y:Operand} {T T' S:TypeId}
end
section
variable {P:Program} {n:Nat} {G D:Nat→Prop} {w0:World} {Q:Exit→Act→World→Prop} {R:Act→World→Prop} {E:Env} {L:List Ch} {φ:Prop}
variable {d:Tmp} {ty:TypeId} {pos:String} {aft:Array Edge} {gd:Option (Nat×Bool)} {Tk:Act→World→Prop} {Lr:List Ch} {x y:Operand} {T T' S:TypeId} {e sz by':Nat}
theorem jW (M:uk P n G D w0 E ⟨some d,.nilCheck x,ty,pos,aft,gd⟩ Tk R Lr L) {a:Addr} (k:Nx n G D w0 R ((d,.pointer (some a)) :: E) L φ) (hx:oev E x=some (.pointer (some a)):=by rfl) (hd:Nat.blt d n=true:=by rfl):Nx n G D w0 Tk E L φ :=
 M.val hd rfl (fun ρ w hE _ _=>by simp [execOp,hE _ _ hx]) id k
end
section
variable {P:Program} {n:Nat} {G D:Nat→Prop} {w0:World} {Q:Exit→Act→World→Prop} {R:Act→World→Prop} {E:Env} {L:List Ch} {φ:Prop}
variable {d:Tmp} {ty:TypeId} {pos:String} {aft:Array Edge} {gd:Option (Nat×Bool)} {Tk:Act→World→Prop} {Lr:List Ch} {x y:Operand} {T T':TypeId}
theorem jC (M:uk P n G D w0 E ⟨some d,.unOp .not T x,ty,pos,aft,gd⟩ Tk R Lr L) {b:Bool} (k:Nx n G D w0 R ((d,.bool (!b)) :: E) L φ) (hx:oev E x=some (.bool b):=by rfl) (hd:Nat.blt d n=true:=by rfl):Nx n G D w0 Tk E L φ:=zlo M hx hd k
end
section
variable {P:Program} {n:Nat} {G D:Nat→Prop} {w0:World} {Q:Exit→Act→World→Prop} {R:Act→World→Prop} {E:Env} {L:List Ch} {φ:Prop}
variable {d:Tmp} {ty:TypeId} {pos:String} {aft:Array Edge} {gd:Option (Nat×Bool)} {Tk:Act→World→Prop} {Lr:List Ch} {x y:Operand} {T T' S:TypeId} {e sz by':Nat}
theorem zM {c:Operand} (M:uk P n G D w0 E ⟨some d,.pick c x y,ty,pos,aft,gd⟩ Tk R Lr L) {v:Value} (k:Nx n G D w0 R ((d,v) :: E) L φ) (hc:oev E c=some (.bool false):=by rfl) (hx:oev E y=some v:=by rfl) (hd:Nat.blt d n=true:=by rfl):Nx n G D w0 Tk E L φ :=
 M.val hd rfl (fun ρ w hE _ _=>by simp [execOp,hE _ _ hc,hE _ _ hx,asBool]) id k
theorem zS {c:Operand} (M:uk P n G D w0 E ⟨some d,.pick c x y,ty,pos,aft,gd⟩ Tk R Lr L) {v:Value} (k:Nx n G D w0 R ((d,v) :: E) L φ) (hc:oev E c=some (.bool true):=by rfl) (hx:oev E x=some v:=by rfl) (hd:Nat.blt d n=true:=by rfl):Nx n G D w0 Tk E L φ :=
 M.val hd rfl (fun ρ w hE _ _=>by simp [execOp,hE _ _ hc,hE _ _ hx,asBool]) id k
end
section
variable {P:Program} {n:Nat} {G D:Nat→Prop} {w0:World} {Q:Exit→Act→World→Prop} {R:Act→World→Prop} {E:Env} {L:List Ch} {φ:Prop}
variable {d:Tmp} {ty:TypeId} {pos:String} {aft:Array Edge} {gd:Option (Nat×Bool)} {Tk:Act→World→Prop} {Lr:List Ch} {x y:Operand} {T T':TypeId}
theorem zhY (M:uk P n G D w0 E ⟨some d,.binOp .quo T x y T',ty,pos,aft,gd⟩ Tk R Lr L) {X Y:Int} {κ:Int→Prop} (k:∀ z,Nx n G D w0 R ((d,.int .i64 z) :: E) L (κ z)) (hx:oev E x=some (.int .i64 X):=by rfl) (hy:oev E y=some (.int .i64 Y):=by rfl) (hd:Nat.blt d n=true:=by rfl):Nx n G D w0 Tk E L (zjb X Y κ) :=
 M.val (v:=.int .i64 (X.tdiv Y)) hd rfl (fun ρ w hE _ hφ=>by
  obtain ⟨h2,h3,_⟩:=hφ
  have e0:Y≠0:=by omega
  have e:IntKind.i64.wrap (X.tdiv Y)=X.tdiv Y:=by
   unfold I64 at h3
   rw [IntKind.wrap_i64]
   by_cases h1:0≤X
   ·have e1:X.tdiv Y=X / Y:=Int.tdiv_eq_ediv_of_nonneg h1
    have e2:=Int.ediv_nonneg h1 (show 0≤Y by omega)
    have e3:X / Y≤X:=Int.ediv_le_self _ h1
    omega
   ·have e1:X.tdiv Y=-((-X) / Y):=by
     have:=Int.neg_tdiv (a:=-X) (b:=Y)
     rw [Int.neg_neg] at this
     rw [this,Int.tdiv_eq_ediv_of_nonneg (by omega)]
    have e2:=Int.ediv_nonneg (show 0≤-X by omega) (show 0≤Y by omega)
    have e3:(-X) / Y≤-X:=Int.ediv_le_self _ (by omega)
    omega
  simp [execOp,hE _ _ hx,hE _ _ hy,go_sem,e0,e]) (fun h=>h.2.2) (k _)
theorem Vp (M:uk P n G D w0 E ⟨some d,.binOp .rem T x y T',ty,pos,aft,gd⟩ Tk R Lr L) {X Y:Int} {κ:Int→Prop} (k:∀ z,Nx n G D w0 R ((d,.int .i64 z) :: E) L (κ z)) (hx:oev E x=some (.int .i64 X):=by rfl) (hy:oev E y=some (.int .i64 Y):=by rfl) (hd:Nat.blt d n=true:=by rfl):Nx n G D w0 Tk E L (zbz X Y κ) :=
 M.val (v:=.int .i64 (X % Y)) hd rfl (fun ρ w hE _ hφ=>by
  obtain ⟨h1,h2,h3,_⟩:=hφ
  have e0:Y≠0:=by omega
  have e1:X.tmod Y=X % Y:=Int.tmod_eq_emod_of_nonneg h1
  simp [execOp,hE _ _ hx,hE _ _ hy,go_sem,e0,e1]) (fun h=>h.2.2.2) (k _)
end
section
variable {P:Program} {n:Nat} {G D:Nat→Prop} {w0:World} {Q:Exit→Act→World→Prop} {R:Act→World→Prop} {E:Env} {L:List Ch} {φ:Prop}
variable {d:Tmp} {ty:TypeId} {pos:String} {aft:Array Edge} {gd:Option (Nat×Bool)} {Tk:Act→World→Prop} {Lr:List Ch} {x y:Operand} {T T' S:TypeId} {e sz by':Nat} {at':Array TypeId}
theorem Xy {α:Type} {El':El α} {v:Value} {xs:List α} {lo hi:Option Operand} {I J:Int} {κ:List α→Prop} (i:Nat) (hT:elB P T=some (e,sz,by')) (k:∀ v' ys,Nx n G D w0 R ((d,v') :: E) (xu El' v' ys :: L) (κ ys)) (hi':xz L i=some (xu El' v xs):=by rfl) (hx:oev E x=some v:=by rfl) (hlo:match lo with | none=>I=0 | some l=>oev E l=some (.int .i64 I):=by rfl) (hhi:match hi with | none=>J=xs.length | some h=>oev E h=some (.int .i64 J):=by rfl) (hd:Nat.blt d n=true:=by rfl) (hes:El'.size=sz:=by rfl):Nx n G D w0 (fun a w=>Oper.wp P ⟨some d,.slice T x lo hi none,ty,pos,aft,gd⟩ a w R Q) E L (Zk xs I J κ) :=
 XX hd rfl fun ρ w hE hm hφ=>by
  obtain ⟨h0,h1,h2,h3⟩:=hφ
  obtain ⟨hu,inf,hinf,rfl,rfl⟩:=yd hT
  have hsl:=hm.ro i hi'
  obtain ⟨a,cap,hv,hcap,_⟩:=hsl
  have hsl:=hm.ro i hi'
  subst hv
  have hp:=fun (F:Nat→Prop) (h:Sl El' F w (.slice a xs.length cap) xs)=>h.part I.toNat J.toNat (by omega) (by omega)
  refine ⟨_,w,_,κ ((xs.take J.toNat).drop I.toNat),?_,zjV hm hi' hp,h3,k _ _⟩
  have e1:(J:Int)≤cap:=by omega
  have e2:0≤J:=by omega
  cases lo with
  | none =>
   cases hi with
   | none =>
    simp only at hlo hhi
    subst hlo hhi
    simp [execOp,hE _ _ hx,Instr.sliceAt,Instr.slice,Instr.sliceBounds,run_underlying hu,sizeOf,typeInfo,hinf,hes]
   | some hh =>
    simp only at hlo hhi
    subst hlo
    simp [execOp,hE _ _ hx,hE _ _ hhi,Instr.sliceAt,Instr.slice,Instr.sliceBounds,Instr.sliceBound,asIntOf,run_underlying hu,sizeOf,typeInfo,hinf,e1,e2,hes]
  | some ll =>
   cases hi with
   | none =>
    simp only at hlo hhi
    subst hhi
    have e3:I≤(xs.length:Int):=h1
    simp [execOp,hE _ _ hx,hE _ _ hlo,Instr.sliceAt,Instr.slice,Instr.sliceBounds,Instr.sliceBound,asIntOf,run_underlying hu,sizeOf,typeInfo,hinf,h0,e3,hes]
   | some hh =>
    simp only at hlo hhi
    have e4:I≤(J.toNat:Int):=by omega
    simp [execOp,hE _ _ hx,hE _ _ hlo,hE _ _ hhi,Instr.sliceAt,Instr.slice,Instr.sliceBounds,Instr.sliceBound,asIntOf,run_underlying hu,sizeOf,typeInfo,hinf,h0,e1,e2,e4,hes]
    intro h;omega
end
section
variable {P:Program} {n:Nat} {G D:Nat→Prop} {w0:World} {Q:Exit→Act→World→Prop} {R:Act→World→Prop} {E:Env} {L M:List Ch} {φ:Prop}
variable {d:Tmp} {ty:TypeId} {pos:String} {aft:Array Edge} {gd:Option (Nat×Bool)} {Tk:Act→World→Prop} {Lr:List Ch} {x y:Operand} {T T' S:TypeId} {e sz by':Nat}
theorem ziP {α:Type} {El':El α} {e':Nat} {v:Value} {xs:List α} {hh:Operand} {J:Int} {κ:List α→Prop} (i:Nat) (hT:elB P T=some (e,sz,by')) (k:∀ v' ys,Nx n G D w0 R ((d,v') :: E) (yG L i (ze El' e' v' ys)) (κ ys)) (hi':xz L i=some (ze El' e' v xs):=by rfl) (hx:oev E x=some v:=by rfl) (hhi:oev E hh=some (.int .i64 J):=by rfl) (hd:Nat.blt d n=true:=by rfl) (hes:El'.size=sz:=by rfl):Nx n G D w0 (fun a w=>Oper.wp P ⟨some d,.slice T x none (some hh) none,ty,pos,aft,gd⟩ a w R Q) E L (Zk xs 0 J κ) :=
 XX hd rfl fun ρ w hE hm hφ=>by
  obtain ⟨h0,h1,h2,h3⟩:=hφ
  obtain ⟨hu,inf,hinf,rfl,rfl⟩:=yd hT
  have hown:Own El' e' (fz G L w) w v xs:=hm.get hi'
  obtain ⟨a,cap,hv,hc⟩:∃ a cap,v=.slice a xs.length cap∧xs.length≤cap:=by
   obtain ⟨css,_,_,hq⟩:=hown
   rcases hq with ⟨rfl,hn⟩ | ⟨g,cap,cur,rfl,_,_,hle,_⟩
   ·exact ⟨none,0,by rw [hn],by omega⟩
   ·exact ⟨_,cap,rfl,hle⟩
  subst hv
  have e1:(J:Int)≤cap:=by omega
  have e2:0≤J:=by omega
  have hs:(xs.take J.toNat).drop (0:Int).toNat=xs.take J.toNat:=by simp
  rw [hs] at h3
  have hfoot:∀ b,(ze El' e' (.slice a J.toNat cap) (xs.take J.toNat)).foot b→(ze El' e' (.slice a xs.length cap) xs).foot b:=by
   intro b hb
   cases a with
   | none=>simp [ze,Value.ownBlock] at hb
   | some ad=>simpa [ze,Value.ownBlock] using hb
  refine ⟨.slice a J.toNat cap,w,_,κ (xs.take J.toNat),?_,hm.upd (c':=ze El' e' (.slice a J.toNat cap) (xs.take J.toNat)) hi' rfl rfl rfl (Nat.le_refl _) (fun _ _ _=>rfl) (fun b hb=>?_) ?_,h3,k _ _⟩
  ·simp [execOp,hE _ _ hx,hE _ _ hhi,Instr.sliceAt,Instr.slice,Instr.sliceBounds,Instr.sliceBound,asIntOf,run_underlying hu,sizeOf,typeInfo,hinf,e1,e2,hes]
   cases a with
   | none=>simp
   | some ad=>simp [Addr.add]
  ·have hb':=hfoot b hb
   exact ⟨hown.lt b hb',.inl hb'⟩
  ·refine Own.keep (hown.cut J.toNat (by omega)) (fun b hb=>?_) (fun _ _=>rfl)
   refine ⟨hb.1,hb.2.1,fun c hc=>?_⟩
   rcases Z5 hi' hm.disj hc with e' | ⟨e',_⟩
   ·subst e';exact fun h=>hb.2.2 _ (xx hi') (hfoot b h)
   ·exact hb.2.2 c e'
end
section
variable {P:Program} {n:Nat} {G D:Nat→Prop} {w0:World} {Q:Exit→Act→World→Prop} {R:Act→World→Prop} {E:Env} {L:List Ch} {φ:Prop}
variable {d:Tmp} {ty:TypeId} {pos:String} {aft:Array Edge} {gd:Option (Nat×Bool)} {Tk:Act→World→Prop} {Lr:List Ch} {x y:Operand} {T T' S:TypeId}
end
section
variable {P:Program} {n:Nat} {G D:Nat→Prop} {w0:World} {Q:Exit→Act→World→Prop} {R:Act→World→Prop} {E:Env} {L M:List Ch} {φ:Prop}
variable {d:Tmp} {ty:TypeId} {pos:String} {aft:Array Edge} {gd:Option (Nat×Bool)} {Tk:Act→World→Prop} {Lr:List Ch} {x y:Operand} {T T' S:TypeId} {e sz by':Nat}
theorem Zd {α:Type} {El':El α} {u:Value} {cs:List Value} {len b fs:Nat} {xs0:List α} {row:Bool} {e':TypeId} (i:Nat) (xs:List α) (css:List (List Value)) (hr:∀ w,Mem G D w0 L w→Rows El' (fz G L w) w xs css) (hT:tyB P T=some (row,fs)) (k:Nx n G D w0 R E (yG L i (ze El' e' (.slice (some ⟨b,0,none⟩) len len) xs)) φ) (hi:xz L i=some (ze El' e' (.slice (some ⟨b,0,none⟩) len len) xs0):=by rfl) (hx:oev E x=some (.pointer (some ⟨b,0,none⟩)):=by rfl) (hy:oev E y=some u:=by rfl) (hcs:u.cells=cs.toArray:=by rfl) (hfl:css.flatten=cs:=by rfl) (hl:xs.length=len:=by rfl) (h1:u.cells.toList.all (·.oneCell')=true:=by rfl) (hsz:Nat.beq u.cells.size fs=true:=by rfl) (hpos:Nat.beq len 0=false:=by rfl):Nx n G D w0 (fun a w=>Oper.wp P ⟨none,.store T x y,ty,pos,aft,gd⟩ a w R Q) E L φ :=
 zcU rfl fun ρ w hE hm hφ=>by
  obtain ⟨css0,hr0,how⟩:=hm.get hi
  obtain ⟨h0,hown⟩:=how
  have hlp:len≠0:=fun e=>by rw [e] at hpos;simp at hpos
  rcases hown with ⟨h,_⟩ | ⟨g,cap,cur,h,hg0,hg,hnc,hcm,hcz,htake⟩
  ·cases h
  simp only [Value.slice.injEq,Option.some.injEq,Addr.mk.injEq] at h
  obtain ⟨⟨rfl,-,-⟩,hln,rfl⟩:=h
  have hrows:=hr w hm
  have hlen:=hrows.length
  rw [hfl,hl] at hlen
  have hb:w.heap[b]?=some (.cells cur.toList.toArray e' (0,0)):=by simpa using hg
  have hcl:cur.toList.length=len * El'.size:=by rw [Array.length_toList,hcz]
  have hus:u.cells.toList=cs:=by rw [hcs]
  have hzs:=Nat.eq_of_beq_eq_true hsz
  have hr':=zbq (P:=P) (w:=w) hT hsz h1 (b:=b) (o:=0) (Xe hb (by rw [hcl];rw [hcs];simp [hlen]))
  refine ⟨_,_,φ,by simp [execOp,hE _ _ hx,hE _ _ hy,hr'];rfl,?_,hφ,k⟩
  obtain ⟨s1,s2,s3⟩:=ZN b u.cells.toList 0 w
  have hput:Xw cur.toList 0 cs=cs:=by
   have key:∀ (vs l:List Value),vs.length=l.length→∀ p:List Value,Xw (p++l) p.length vs=p++vs:=by
    intro vs
    induction vs with
    | nil=>intro l hl p;cases l with
     | nil=>rfl
     | cons _ _=>simp at hl
    | cons a r ih=>intro l hl p;cases l with
     | nil=>simp at hl
     | cons c l =>
      rw [Xw]
      have:(p++c :: l).set p.length a=(p++[a])++l:=by simp
      rw [this]
      have:=ih l (by simpa using hl) (p++[a])
      simpa using this
   simpa using key cs cur.toList (by omega) []
  have hup:=ZO b e' (0,0) u.cells.toList 0 cur.toList w hb
  rw [hus,hput] at hup
  refine hm.upd hi s1 s2 s3 (by rw [xB];exact Nat.le_refl _) (fun x _ hx=>ui b _ _ _ _ (fun e=>hx (by rw [e];rfl))) (fun x hx=>⟨?_,.inl hx⟩) ?_
  ·have hx':some b=some x:=hx
   cases hx'
   rw [xB]
   exact (Array.getElem?_eq_some_iff.1 hg).1
  ·have hsame:∀ c,fz G L w c→(w.setCells b 0 u.cells.toList).heap[c]?=w.heap[c]?:=fun c hc=>ui b _ _ _ _ (fun e''=>hc.2.2 _ (xx hi) (by rw [e''];rfl))
   have hk:=hrows.keep (F':=fz G (yG L i (ze El' e' (.slice (some ⟨b,0,none⟩) len len) xs)) (w.setCells b 0 u.cells.toList)) (fun c hc=>⟨by rw [xB];exact hc.1,hc.2.1,fun x hx=>by
    rcases Z5 hi hm.disj hx with e'' | ⟨e1,_⟩
    ·subst e'';exact fun hk=>hc.2.2 _ (xx hi) hk
    ·exact hc.2.2 x e1⟩) hsame
   subst hl
   have h0':=hk.length
   rw [hfl] at h0'
   refine ⟨css,hk,by rw [hfl];exact h0',.inr ⟨b,xs.length,cs.toArray,rfl,hg0,by rw [hus];exact hup,Nat.le_refl _,hcm,by simpa using h0',by rw [hfl,← h0'];simp⟩⟩
end
section
variable {P:Program} {n:Nat} {G D:Nat→Prop} {w0:World} {Q:Exit→Act→World→Prop} {R:Act→World→Prop} {E:Env} {L M:List Ch} {φ:Prop}
variable {d:Tmp} {ty:TypeId} {pos:String} {aft:Array Edge} {gd:Option (Nat×Bool)} {Tk:Act→World→Prop} {Lr:List Ch} {x y:Operand} {T T' S:TypeId} {e sz by':Nat}
end
section
variable {P:Program} {n:Nat} {G D:Nat→Prop} {w0:World} {Q:Exit→Act→World→Prop} {R:Act→World→Prop} {E:Env} {L:List Ch} {φ:Prop}
variable {d:Tmp} {ty:TypeId} {pos:String} {aft:Array Edge} {gd:Option (Nat×Bool)} {Tk:Act→World→Prop} {Lr:List Ch} {x y:Operand} {T T' S:TypeId}
theorem zT {b o sz:Nat} {cs cs':List Value} {T0:TypeId} {row:Bool} {u:Value} (i:Nat) (hT:tyB P T=some (row,sz)) (k:Nx n G D w0 R E (yG L i (zc b cs' T0)) φ) (hi:xz L i=some (zc b cs T0):=by rfl) (hx:oev E x=some (.pointer (some ⟨b,o,none⟩)):=by rfl) (hy:oev E y=some u:=by rfl) (hsz:Nat.beq u.cells.size sz=true:=by rfl) (h1:u.cells.toList.all (·.oneCell')=true:=by rfl) (hle:Nat.ble (o+sz) cs.length=true:=by rfl) (hcs:Xw cs o u.cells.toList=cs':=by rfl):Nx n G D w0 (fun a w=>Oper.wp P ⟨none,.store T x y,ty,pos,aft,gd⟩ a w R Q) E L φ:=zer i hi hx hy hT hsz h1 hle hcs k
end
section
variable {P:Program} {n:Nat} {G D:Nat→Prop} {w0:World} {Q:Exit→Act→World→Prop} {R:Act→World→Prop} {E:Env} {L:List Ch} {φ:Prop}
variable {d:Tmp} {ty:TypeId} {pos:String} {aft:Array Edge} {gd:Option (Nat×Bool)} {Tk:Act→World→Prop} {Lr:List Ch} {x y:Operand} {T T' S:TypeId} {e sz by':Nat}
theorem Vj {α:Type} {El':El α} {enc:α→List Value} {v:Value} {xs:List α} {I:Int} {z y':α} {o sz fs:Nat} {row:Bool} {u:Value} (i:Nat) (hfl:UC El' enc) (hz:xs[I.toNat]?=some z) (hT:tyB P T=some (row,fs)) (k:Nx n G D w0 R E (yG L i (ze El' e v (xs.set I.toNat y'))) φ) (hi:xz L i=some (ze El' e v xs):=by rfl) (hes:El'.size=sz:=by rfl) (hx:oev E x=some (pEl v I sz o):=by rfl) (hy:oev E y=some u:=by rfl) (hsz:Nat.beq u.cells.size fs=true:=by rfl) (h1:u.cells.toList.all (·.oneCell')=true:=by rfl) (hle:Nat.ble (o+fs) sz=true:=by rfl) (hy':Xw (enc z) o u.cells.toList=enc y':=by rfl):Nx n G D w0 (fun a w=>Oper.wp P ⟨none,.store T x y,ty,pos,aft,gd⟩ a w R Q) E L φ :=
 zcU rfl fun ρ w hE hm hφ=>by
  have hlt:=(List.getElem?_eq_some_iff.1 hz).1
  obtain ⟨css,hr,hown⟩:=hm.get hi
  have hcss:=hr.length
  obtain ⟨h0,hown⟩:=hown
  rcases hown with ⟨_,hn⟩ | ⟨g,cap,cur,rfl,hg0,hg,hnc,hcm,hcs,htake⟩
  ·omega
  rw [u5] at hx
  have hzs:=Nat.eq_of_beq_eq_true hsz
  have hle':=Nat.le_of_ble_eq_true hle
  have hb:w.heap[g]?=some (.cells cur.toList.toArray e (0,0)):=by simpa using hg
  have hsub:I.toNat * sz+sz≤xs.length * sz:=by rw [← Nat.succ_mul];exact Nat.mul_le_mul_right _ hlt
  have hcap:xs.length * sz≤cap * sz:=Nat.mul_le_mul_right _ hnc
  have hcl:cur.toList.length=cap * sz:=by rw [Array.length_toList,hcs,hes]
  have hr':=zbq (P:=P) (w:=w) hT hsz h1 (b:=g) (o:=0+I.toNat * sz+o) (Xe hb (by rw [hzs,hcl];omega))
  refine ⟨_,_,φ,by simp [execOp,hE _ _ hx,hE _ _ hy] at hr' ⊢;rw [hr'];rfl,?_,hφ,k⟩
  obtain ⟨s1,s2,s3⟩:=ZN g u.cells.toList (I.toNat * sz+o) w
  refine hm.upd hi s1 s2 s3 (by rw [xB];exact Nat.le_refl _) (fun x _ hx=>ui g _ _ _ _ (fun e=>hx (by rw [e];rfl))) (fun x hx=>⟨?_,.inl hx⟩) ?_
  ·have hx':some g=some x:=hx
   cases hx'
   rw [xB]
   exact (Array.getElem?_eq_some_iff.1 hg).1
  ·
   have hcz:El'.cells (fz G L w) w z (enc z):=(hfl _ _ _ _).2 rfl
   obtain ⟨pre,post,old,e1,e2,e3,css',e4,e5⟩:=hr.set I.toNat (y:=y') (ds:=enc y') hlt ((hfl _ _ _ _).2 rfl)
   have hold:old=enc z:=by
    obtain ⟨cs,c1,c2⟩:=hr.get hz
    rw [(hfl _ _ _ _).1 c1] at c2
    apply List.ext_getElem?
    intro j
    by_cases hj:j<(enc z).length
    ·have:=c2 j (enc z)[j] (List.getElem?_eq_getElem hj)
     rw [e1,List.append_assoc,← e2,List.getElem?_append_right (by omega),show pre.length+j - pre.length=j by omega,List.getElem?_append_left (by rw [e3,← hfl.size w z];exact hj)] at this
     rw [this,List.getElem?_eq_getElem hj]
    ·rw [List.getElem?_eq_none (by rw [e3,← hfl.size w z];omega),List.getElem?_eq_none (by omega)]
   have hlz:(enc z).length=sz:=by rw [hfl.size w z,hes]
   have hup:=ZO g e (0,0) u.cells.toList (I.toNat * sz+o) cur.toList w hb
   refine ⟨css',?_,?_,.inr ⟨g,cap,(Xw cur.toList (I.toNat * sz+o) u.cells.toList).toArray,by simp,hg0,hup,by simpa using hnc,hcm,by simpa [X8] using hcs,?_⟩⟩
   ·have go:∀ (F F':Nat→Prop) (w':World) (ys:List α) (dss:List (List Value)),Rows El' F w ys dss→Rows El' F' w' ys dss:=by
     intro F F' w' ys
     induction ys with
     | nil=>intro dss h;cases dss <;> first | trivial | exact h.elim
     | cons y0 r ih=>intro dss h;cases dss with
      | nil=>exact h.elim
      | cons d0 ds=>exact ⟨hfl.free _ _ _ _ _ _ h.1,ih ds h.2⟩
    exact go _ _ _ _ _ e5
   ·have:=e5.length
    simpa using this
   ·rw [e4]
    have hct:cur.toList=pre++old++(post++cur.toList.drop (xs.length * sz)):=by
     rw [← List.append_assoc,← e1,← htake,hes,List.take_append_drop]
    rw [hct,← hes,← e2,YN _ _ _ _ _ (by rw [hold,hlz];simp;omega),hold,hy',← List.append_assoc]
    rw [List.length_set]
    have hly:(enc y').length=El'.size:=hfl.size w y'
    have htot:(pre++enc y'++post).length=xs.length * El'.size:=by
     have h5:=congrArg List.length e1
     rw [hcss] at h5
     simp at h5 ⊢
     omega
    rw [← htot]
    exact List.take_left
end
section
variable {P:Program} {n:Nat} {G D:Nat→Prop} {w0:World} {Q:Exit→Act→World→Prop} {R:Act→World→Prop} {E:Env} {L:List Ch} {φ:Prop}
variable {d:Tmp} {ty:TypeId} {pos:String} {aft:Array Edge} {gd:Option (Nat×Bool)} {Tk:Act→World→Prop} {Lr:List Ch} {x y:Operand} {T T' S:TypeId} {e sz by':Nat}
end
section
variable {P:Program} {n:Nat} {G D:Nat→Prop} {w0:World} {Q:Exit→Act→World→Prop} {R:Act→World→Prop} {E:Env} {L:List Ch} {φ:Prop}
variable {d:Tmp} {ty:TypeId} {pos:String} {aft:Array Edge} {gd:Option (Nat×Bool)} {Tk:Act→World→Prop} {Lr:List Ch} {x y:Operand} {T T':TypeId}
theorem yR (M:uk P n G D w0 E ⟨some d,.binOp .sub T x y T',ty,pos,aft,gd⟩ Tk R Lr L) {X Y:Int} {κ:Int→Prop} (k:∀ z,Nx n G D w0 R ((d,.int .i64 z) :: E) L (κ z)) (hx:oev E x=some (.int .i64 X):=by rfl) (hy:oev E y=some (.int .i64 Y):=by rfl) (hd:Nat.blt d n=true:=by rfl):Nx n G D w0 Tk E L (YU X Y κ):=zkg M hx hy hd k
end
section
variable {P:Program} {n:Nat} {G D:Nat→Prop} {w0:World} {Q:Exit→Act→World→Prop} {R:Act→World→Prop} {E:Env} {L:List Ch} {φ:Prop}
variable {d:Tmp} {ty:TypeId} {pos:String} {aft:Array Edge} {gd:Option (Nat×Bool)} {Tk:Act→World→Prop} {Lr:List Ch} {x y:Operand} {T T' S:TypeId} {e sz by':Nat} {at':Array TypeId}
end
section
variable {P:Program} {n:Nat} {G D:Nat→Prop} {w0:World} {Q:Exit→Act→World→Prop} {R:Act→World→Prop} {E:Env} {L:List Ch} {φ:Prop}
variable {d:Tmp} {ty:TypeId} {pos:String} {aft:Array Edge} {gd:Option (Nat×Bool)} {Tk:Act→World→Prop} {Lr:List Ch} {x y:Operand} {T T':TypeId}
theorem ziF (M:uk P n G D w0 E ⟨some d,.binOp .sub T x y T',ty,pos,aft,gd⟩ Tk R Lr L) {X Y:Int} (k:Nx n G D w0 R ((d,.int .i64 (w64 (X - Y))) :: E) L φ) (hx:oev E x=some (.int .i64 X):=by rfl) (hy:oev E y=some (.int .i64 Y):=by rfl) (hd:Nat.blt d n=true:=by rfl):Nx n G D w0 Tk E L φ :=
 M.val hd rfl (fun ρ w hE _ _=>by simp [execOp,hE _ _ hx,hE _ _ hy,go_sem,w64]) id k
end
section
variable {P:Program} {n:Nat} {G D:Nat→Prop} {w0:World} {Q:Exit→Act→World→Prop} {R:Act→World→Prop} {E:Env} {L:List Ch} {φ:Prop}
variable {d:Tmp} {ty:TypeId} {pos:String} {aft:Array Edge} {gd:Option (Nat×Bool)} {Tk:Act→World→Prop} {Lr:List Ch} {x y:Operand} {T T' S:TypeId} {e sz by':Nat} {at':Array TypeId}
theorem zlN (M:uk P n G D w0 E ⟨some d,.binOp .xor T x y T',ty,pos,aft,gd⟩ Tk R Lr L) {X Y:Int} {κ:Int→Prop} (k:∀ z,Nx n G D w0 R ((d,.int .i64 z) :: E) L (κ z)) (hx:oev E x=some (.int .i64 X):=by rfl) (hy:oev E y=some (.int .i64 Y):=by rfl) (hd:Nat.blt d n=true:=by rfl):Nx n G D w0 Tk E L (zmi X Y κ) :=
 M.val (v:=.int .i64 ((X.toNat ^^^ Y.toNat:Nat):Int)) hd rfl (fun ρ w hE _ hφ=>by
  obtain ⟨h1,h2,h3,h4,_⟩:=hφ
  have e0:(2:Nat) ^ 62=4611686018427387904:=by decide
  have e:=zmV X.toNat Y.toNat (by omega) (by omega)
  rw [Int.toNat_of_nonneg h1,Int.toNat_of_nonneg h3] at e
  simp [execOp,hE _ _ hx,hE _ _ hy,go_sem,e]) (fun h=>h.2.2.2.2) (k _)
end
end
section
open Go.RowKit
section
variable {P:Program} {n:Nat} {G D:Nat→Prop} {w0:World} {E:Env} {L:List Ch} {φ:Prop}
theorem y0 {i1:Nat} {l1:List Oper} {y0:Code} {Q0:Exit→Act→World→Prop} (h:Nx n G D w0 (wpList P l1.toArray (Exit.then (y0.wp P Q0) Q0) l1) E L φ):Nx n G D w0 ((Code.seq (Code.region i1 l1.toArray false) y0).wp P Q0) E L φ:=jw (zr h)
theorem y1 {o0:Array Oper} {K1:Act→World→Prop} {Q1:Exit→Act→World→Prop} (h:Nx n G D w0 K1 E L φ):Nx n G D w0 (wpList P o0 (Exit.then K1 Q1) []) E L φ:=zA (zX h)
theorem y2 {o0:Array Oper} {i3:Nat} {l3:List Oper} {y2:Code} {Q2:Exit→Act→World→Prop} {Q1:Exit→Act→World→Prop} (h:Nx n G D w0 (wpList P l3.toArray (Exit.then (y2.wp P Q2) Q2) l3) E L φ):Nx n G D w0 (wpList P o0 (Exit.then ((Code.seq (Code.region i3 l3.toArray false) y2).wp P Q2) Q1) []) E L φ:=zA (zX (jw (zr h)))
theorem y3 {o0:Array Oper} {Q2:Exit→Act→World→Prop} {Q1:Exit→Act→World→Prop} (h:Nx n G D w0 (Q2 .ret) E L φ):Nx n G D w0 (wpList P o0 (Exit.then (Code.ret.wp P Q2) Q1) []) E L φ:=zA (zX (uA h))
theorem y4 {o0:Array Oper} {i4:Nat} {l4:List Oper} {y3:Code} {y2:Code} {Q2:Exit→Act→World→Prop} {Q1:Exit→Act→World→Prop} (h:Nx n G D w0 (wpList P l4.toArray (Exit.then (y3.wp P (Exit.then (y2.wp P Q2) Q2)) (Exit.then (y2.wp P Q2) Q2)) l4) E L φ):Nx n G D w0 (wpList P o0 (Exit.then ((Code.seq (Code.seq (Code.region i4 l4.toArray false) y3) y2).wp P Q2) Q1) []) E L φ:=zA (zX (jw (jw (zr h))))
theorem y5 {o0:Array Oper} {i2:Nat} {c2:Code} {Q2:Exit→Act→World→Prop} {Q1:Exit→Act→World→Prop} (h:Nx n G D w0 (c2.wp P (Exit.inBlock i2 Q2)) E L φ):Nx n G D w0 (wpList P o0 (Exit.then ((Code.block i2 c2).wp P Q2) Q1) []) E L φ:=zA (zX (uu h))
theorem y6 {o0:Array Oper} {K3:Act→World→Prop} {Q3:Exit→Act→World→Prop} {Q1:Exit→Act→World→Prop} (h:Nx n G D w0 (Q3 .ret) E L φ):Nx n G D w0 (wpList P o0 (Exit.then (Code.ret.wp P (Exit.then K3 Q3)) Q1) []) E L φ:=zA (zX (uA (xK h)))
theorem y7 {i3:Nat} {K1:Act→World→Prop} {K2:Act→World→Prop} {i6:Nat} {l6:List Oper} {y5:Code} {Q5:Exit→Act→World→Prop} {Q4:Exit→Act→World→Prop} (h:Nx n G D w0 (wpList P l6.toArray (Exit.then (y5.wp P Q5) Q5) l6) E L φ):Nx n G D w0 ((Code.exit i3).wp P (Exit.then K1 (Exit.then K2 (Exit.inBlock i3 (Exit.then ((Code.seq (Code.region i6 l6.toArray false) y5).wp P Q5) Q4))))) E L φ:=Xb (uI (uI (Xh (zX (jw (zr h))))))
theorem y8 {i3:Nat} {l3:List Oper} {y2:Code} {Q2:Exit→Act→World→Prop} {Q1:Exit→Act→World→Prop} (h:Nx n G D w0 (wpList P l3.toArray (Exit.then (y2.wp P Q2) Q2) l3) E L φ):Nx n G D w0 (Code.skip.wp P (Exit.then ((Code.seq (Code.region i3 l3.toArray false) y2).wp P Q2) Q1)) E L φ:=jO (zX (jw (zr h)))
theorem y9 {o0:Array Oper} {x2:Code} {y2:Code} {Q2:Exit→Act→World→Prop} {Q1:Exit→Act→World→Prop} (h:Nx n G D w0 (x2.wp P (Exit.then (y2.wp P Q2) Q2)) E L φ):Nx n G D w0 (wpList P o0 (Exit.then ((Code.seq x2 y2).wp P Q2) Q1) []) E L φ:=zA (zX (jw h))
theorem y10 {i2:Nat} {l2:List Oper} {y1:Code} {y0:Code} {Q0:Exit→Act→World→Prop} (h:Nx n G D w0 (wpList P l2.toArray (Exit.then (y1.wp P (Exit.then (y0.wp P Q0) Q0)) (Exit.then (y0.wp P Q0) Q0)) l2) E L φ):Nx n G D w0 ((Code.seq (Code.seq (Code.region i2 l2.toArray false) y1) y0).wp P Q0) E L φ:=jw (jw (zr h))
theorem y11 {i3:Nat} {i5:Nat} {l5:List Oper} {y4:Code} {y2:Code} {Q2:Exit→Act→World→Prop} {Q1:Exit→Act→World→Prop} (h:Nx n G D w0 (wpList P l5.toArray (Exit.then (y4.wp P (Exit.inBlock i3 (Exit.then (y2.wp P Q2) Q2))) (Exit.inBlock i3 (Exit.then (y2.wp P Q2) Q2))) l5) E L φ):Nx n G D w0 (Code.skip.wp P (Exit.then ((Code.seq (Code.block i3 (Code.seq (Code.region i5 l5.toArray false) y4)) y2).wp P Q2) Q1)) E L φ:=jO (zX (jw (uu (jw (zr h)))))
theorem y12 {o0:Array Oper} {i1:Nat} {Q1:Exit→Act→World→Prop} (h:Nx n G D w0 (Q1 .normal) E L φ):Nx n G D w0 (wpList P o0 (Exit.inBlock i1 Q1) []) E L φ:=zA (Zl h)
theorem y13 {i4:Nat} {l4:List Oper} {y3:Code} {y2:Code} {Q2:Exit→Act→World→Prop} {Q1:Exit→Act→World→Prop} (h:Nx n G D w0 (wpList P l4.toArray (Exit.then (y3.wp P (Exit.then (y2.wp P Q2) Q2)) (Exit.then (y2.wp P Q2) Q2)) l4) E L φ):Nx n G D w0 (Code.skip.wp P (Exit.then ((Code.seq (Code.seq (Code.region i4 l4.toArray false) y3) y2).wp P Q2) Q1)) E L φ:=jO (zX (jw (jw (zr h))))
theorem y14 {i1:Nat} {i3:Nat} {l3:List Oper} {Q3:Exit→Act→World→Prop} {Q2:Exit→Act→World→Prop} (h:Nx n G D w0 (wpList P l3.toArray Q3 l3) E L φ):Nx n G D w0 (Code.skip.wp P (Exit.inBlock i1 (Exit.then ((Code.region i3 l3.toArray false).wp P Q3) Q2))) E L φ:=jO (Zl (zX (zr h)))
theorem y15 {o0:Array Oper} {i1:Nat} {i3:Nat} {l3:List Oper} {Q3:Exit→Act→World→Prop} {Q2:Exit→Act→World→Prop} (h:Nx n G D w0 (wpList P l3.toArray Q3 l3) E L φ):Nx n G D w0 (wpList P o0 (Exit.inBlock i1 (Exit.then ((Code.region i3 l3.toArray false).wp P Q3) Q2)) []) E L φ:=zA (Zl (zX (zr h)))
theorem y16 {o0:Array Oper} {i3:Nat} {K4:Act→World→Prop} {K5:Act→World→Prop} {i6:Nat} {K7:Act→World→Prop} {Q7:Exit→Act→World→Prop} {Q1:Exit→Act→World→Prop} (h:Nx n G D w0 (Q7 .ret) E L φ):Nx n G D w0 (wpList P o0 (Exit.then (Code.ret.wp P (Exit.inBlock i3 (Exit.then K4 (Exit.then K5 (Exit.inBlock i6 (Exit.then K7 Q7)))))) Q1) []) E L φ:=zA (zX (uA (u7 (xK (xK (u7 (xK h)))))))
theorem y17 {o0:Array Oper} {i2:Nat} {l2:List Oper} {Q2:Exit→Act→World→Prop} {Q1:Exit→Act→World→Prop} (h:Nx n G D w0 (wpList P l2.toArray Q2 l2) E L φ):Nx n G D w0 (wpList P o0 (Exit.then ((Code.region i2 l2.toArray false).wp P Q2) Q1) []) E L φ:=zA (zX (zr h))
theorem y18 {K1:Act→World→Prop} {Q1:Exit→Act→World→Prop} (h:Nx n G D w0 K1 E L φ):Nx n G D w0 (Code.skip.wp P (Exit.then K1 Q1)) E L φ:=jO (zX h)
theorem y19 {o0:Array Oper} {K3:Act→World→Prop} {i4:Nat} {K5:Act→World→Prop} {K6:Act→World→Prop} {i7:Nat} {K8:Act→World→Prop} {Q8:Exit→Act→World→Prop} {Q1:Exit→Act→World→Prop} (h:Nx n G D w0 (Q8 .ret) E L φ):Nx n G D w0 (wpList P o0 (Exit.then (Code.ret.wp P (Exit.then K3 (Exit.inBlock i4 (Exit.then K5 (Exit.then K6 (Exit.inBlock i7 (Exit.then K8 Q8))))))) Q1) []) E L φ:=zA (zX (uA (xK (u7 (xK (xK (u7 (xK h))))))))
theorem y20 {i0:Nat} {i2:Nat} {l2:List Oper} {y1:Code} {Q0:Exit→Act→World→Prop} (h:Nx n G D w0 (wpList P l2.toArray (Exit.then (y1.wp P (Exit.inBlock i0 Q0)) (Exit.inBlock i0 Q0)) l2) E L φ):Nx n G D w0 ((Code.block i0 (Code.seq (Code.region i2 l2.toArray false) y1)).wp P Q0) E L φ:=uu (jw (zr h))
theorem y21 {i2:Nat} {l2:List Oper} {Q2:Exit→Act→World→Prop} {Q1:Exit→Act→World→Prop} (h:Nx n G D w0 (wpList P l2.toArray Q2 l2) E L φ):Nx n G D w0 (Code.skip.wp P (Exit.then ((Code.region i2 l2.toArray false).wp P Q2) Q1)) E L φ:=jO (zX (zr h))
theorem y22 {i3:Nat} {i4:Nat} {l4:List Oper} {y2:Code} {Q2:Exit→Act→World→Prop} {Q1:Exit→Act→World→Prop} (h:Nx n G D w0 (wpList P l4.toArray (Exit.inBlock i3 (Exit.then (y2.wp P Q2) Q2)) l4) E L φ):Nx n G D w0 (Code.skip.wp P (Exit.then ((Code.seq (Code.block i3 (Code.region i4 l4.toArray false)) y2).wp P Q2) Q1)) E L φ:=jO (zX (jw (uu (zr h))))
theorem y23 {i1:Nat} {Q1:Exit→Act→World→Prop} (h:Nx n G D w0 (Q1 .normal) E L φ):Nx n G D w0 (Code.skip.wp P (Exit.inBlock i1 Q1)) E L φ:=jO (Zl h)
theorem y24 {o0:Array Oper} {i3:Nat} {K4:Act→World→Prop} {Q4:Exit→Act→World→Prop} {Q1:Exit→Act→World→Prop} (h:Nx n G D w0 (Q4 .ret) E L φ):Nx n G D w0 (wpList P o0 (Exit.then (Code.ret.wp P (Exit.inBlock i3 (Exit.then K4 Q4))) Q1) []) E L φ:=zA (zX (uA (u7 (xK h))))
theorem y25 {i3:Nat} {x4:Code} {y4:Code} {y2:Code} {Q2:Exit→Act→World→Prop} {Q1:Exit→Act→World→Prop} (h:Nx n G D w0 (x4.wp P (Exit.then (y4.wp P (Exit.inBlock i3 (Exit.then (y2.wp P Q2) Q2))) (Exit.inBlock i3 (Exit.then (y2.wp P Q2) Q2)))) E L φ):Nx n G D w0 (Code.skip.wp P (Exit.then ((Code.seq (Code.block i3 (Code.seq x4 y4)) y2).wp P Q2) Q1)) E L φ:=jO (zX (jw (uu (jw h))))
theorem y26 {o0:Array Oper} {i2:Nat} {i4:Nat} {l4:List Oper} {y3:Code} {Q2:Exit→Act→World→Prop} {Q1:Exit→Act→World→Prop} (h:Nx n G D w0 (wpList P l4.toArray (Exit.then (y3.wp P (Exit.inBlock i2 Q2)) (Exit.inBlock i2 Q2)) l4) E L φ):Nx n G D w0 (wpList P o0 (Exit.then ((Code.block i2 (Code.seq (Code.region i4 l4.toArray false) y3)).wp P Q2) Q1) []) E L φ:=zA (zX (uu (jw (zr h))))
theorem y27 {i3:Nat} {K1:Act→World→Prop} {K2:Act→World→Prop} {i4:Nat} {i6:Nat} {l6:List Oper} {Q6:Exit→Act→World→Prop} {Q5:Exit→Act→World→Prop} (h:Nx n G D w0 (wpList P l6.toArray Q6 l6) E L φ):Nx n G D w0 ((Code.exit i3).wp P (Exit.then K1 (Exit.then K2 (Exit.inBlock i3 (Exit.inBlock i4 (Exit.then ((Code.region i6 l6.toArray false).wp P Q6) Q5)))))) E L φ:=Xb (uI (uI (Xh (Zl (zX (zr h))))))
theorem y28 {i3:Nat} {c3:Code} {y2:Code} {Q2:Exit→Act→World→Prop} {Q1:Exit→Act→World→Prop} (h:Nx n G D w0 (c3.wp P (Exit.inBlock i3 (Exit.then (y2.wp P Q2) Q2))) E L φ):Nx n G D w0 (Code.skip.wp P (Exit.then ((Code.seq (Code.block i3 c3) y2).wp P Q2) Q1)) E L φ:=jO (zX (jw (uu h)))
theorem y29 {i0:Nat} {i2:Nat} {l2:List Oper} {Q2:Exit→Act→World→Prop} {Q1:Exit→Act→World→Prop} (h:Nx n G D w0 (wpList P l2.toArray Q2 l2) E L φ):Nx n G D w0 ((Exit.inBlock i0 (Exit.then ((Code.region i2 l2.toArray false).wp P Q2) Q1)) .normal) E L φ:=Zl (zX (zr h))
theorem y30 {i3:Nat} {K1:Act→World→Prop} {K2:Act→World→Prop} {K4:Act→World→Prop} {Q4:Exit→Act→World→Prop} (h:Nx n G D w0 K4 E L φ):Nx n G D w0 ((Code.exit i3).wp P (Exit.then K1 (Exit.then K2 (Exit.inBlock i3 (Exit.then K4 Q4))))) E L φ:=Xb (uI (uI (Xh (zX h))))
theorem y31 {i2:Nat} {i3:Nat} {l3:List Oper} {Q2:Exit→Act→World→Prop} {Q1:Exit→Act→World→Prop} (h:Nx n G D w0 (wpList P l3.toArray (Exit.inBlock i2 Q2) l3) E L φ):Nx n G D w0 (Code.skip.wp P (Exit.then ((Code.block i2 (Code.region i3 l3.toArray false)).wp P Q2) Q1)) E L φ:=jO (zX (uu (zr h)))
theorem y32 {i3:Nat} {K1:Act→World→Prop} {K2:Act→World→Prop} {i7:Nat} {l7:List Oper} {y6:Code} {y5:Code} {Q5:Exit→Act→World→Prop} {Q4:Exit→Act→World→Prop} (h:Nx n G D w0 (wpList P l7.toArray (Exit.then (y6.wp P (Exit.then (y5.wp P Q5) Q5)) (Exit.then (y5.wp P Q5) Q5)) l7) E L φ):Nx n G D w0 ((Code.exit i3).wp P (Exit.then K1 (Exit.then K2 (Exit.inBlock i3 (Exit.then ((Code.seq (Code.seq (Code.region i7 l7.toArray false) y6) y5).wp P Q5) Q4))))) E L φ:=Xb (uI (uI (Xh (zX (jw (jw (zr h)))))))
end
end
section
open Go.RowKit
section
variable {P:Program} {n:Nat} {G D:Nat→Prop} {w0:World} {Q:Exit→Act→World→Prop} {R:Act→World→Prop} {E:Env} {L M:List Ch} {φ:Prop}
variable {d:Tmp} {ty:TypeId} {pos:String} {aft:Array Edge} {gd:Option (Nat×Bool)} {Tk:Act→World→Prop} {Lr:List Ch} {x y:Operand} {T T' S:TypeId} {e sz by':Nat} {at':Array TypeId}
theorem zim {ψ:Prop} (h:φ→ψ) (k:Nx n G D w0 R E L ψ):Nx n G D w0 R E L φ:=fun a w hE hm hφ=>k a w hE hm (h hφ)
theorem zj9 (M:uk P n G D w0 E ⟨some d,.call {callee:=.builtin .cap,args:=#[x],argTypes:=#[T]},ty,pos,aft,gd⟩ Tk R Lr L) {p:TypeId×Nat×Nat} (hT:elB P T=some p) (hx:oev E x=some (.slice none 0 0)) (hd:Nat.blt d n=true)
  (k:Nx n G D w0 R ((d,.int .i64 0) :: E) L φ):Nx n G D w0 Tk E L φ :=
 M.val hd rfl (fun ρ w hE hm _=>by
  obtain ⟨e,b,c⟩:=p
  obtain ⟨hu,_⟩:=yd hT
  simp [execOp,resolve,invoke,builtin,hE _ _ hx,Builtin.cap_,run_underlying hu,goInt]) id k
theorem zlw (M:uk P n G D w0 E ⟨some d,.slice T x none (some y) none,ty,pos,aft,gd⟩ Tk R Lr L) {a:Option Addr} {l c:Nat} (hT:elB P T=some (e,sz,by')) (hx:oev E x=some (.slice a l c)) (ha:a=none∨∃ b,a=some ⟨b,0,none⟩) (hc:a=none→c=0) (hy:oev E y=some (.int .i64 0)) (hd:Nat.blt d n=true)
  (k:Nx n G D w0 R ((d,.slice a 0 c) :: E) L φ):Nx n G D w0 Tk E L φ :=
 M.val hd rfl (fun ρ w hE hm _=>by
  obtain ⟨hu,inf,hinf,rfl,rfl⟩:=yd hT
  rcases ha with rfl | ⟨b,rfl⟩
  ·obtain rfl:=hc rfl
   simp [execOp,hE _ _ hx,hE _ _ hy,Instr.sliceAt,Instr.slice,Instr.sliceBounds,Instr.sliceBound,asIntOf,run_underlying hu,sizeOf,typeInfo,hinf]
  ·simp [execOp,hE _ _ hx,hE _ _ hy,Instr.sliceAt,Instr.slice,Instr.sliceBounds,Instr.sliceBound,asIntOf,run_underlying hu,sizeOf,typeInfo,hinf,Addr.add]) id k
theorem zmj {α:Type} {El':El α} {N:Int} {zs:List Value} (hx:oev E x=some (.slice none 0 0)) (hy:oev E y=some (.int .i64 N)) (hd:Nat.blt d n=true) (hT:elB P T=some (e,sz,by')) (htn:P.underlying T'=some (.int .i64)) (hby:Nat.ble by' 32768=true) (hzr:uH P e=some zs) (hzl:Nat.beq zs.length sz=true) (hes:El'.size=sz)
  (h0:0<N) (h1:N≤4294967296) (k:∀ b c,Nx n G D w0 R ((d,.slice (some ⟨b,0,none⟩) N.toNat c) :: E) (ze El' e (.slice (some ⟨b,0,none⟩) 0 c) [] :: L) φ) :
  Nx n G D w0 (fun a w=>Oper.wp P ⟨some d,.call {callee:=.builtin .append,args:=#[x,y],argTypes:=#[T,T']},ty,pos,aft,gd⟩ a w R Q) E L φ :=
 XX hd rfl fun ρ w hE hm hφ=>by
  obtain ⟨hu,inf,hinf,rfl,rfl⟩:=yd hT
  obtain ⟨z',hz',hzc⟩:=yP hzr hinf
  obtain ⟨m,rfl⟩:=Int.eq_ofNat_of_zero_le (show 0≤N by omega)
  have hbl:=Nat.le_of_ble_eq_true hby
  have hl:=Nat.eq_of_beq_eq_true hzl
  have hp:=El'.pos
  have hb:m * inf.bytes≤281474976710656:=by
   have:m * inf.bytes≤4294967296 * 32768:=Nat.mul_le_mul (by omega) hbl
   omega
  have hr:=Lib.run_append_nil_zeros (P:=P) w T T' ty e inf z' .i64 .i64 hu htn hinf hz' m (by omega) (by omega) (by omega) hb
  have hge:=grownCap_ge w m 0 e
  have hcm:grownCap w m 0 e≤maxLen:=grownCap_le_maxLen w m 0 e (by unfold maxLen;omega)
  refine ⟨_,_,_,φ,by simp [execOp,resolve,invoke,builtin,hE _ _ hx,hE _ _ hy,hr];exact ⟨rfl,rfl⟩,?_,hφ,by simpa using k w.heap.size (grownCap w m 0 e)⟩
  refine hm.add _ (((Below.refl _ w).drew).alloc (Nat.le_refl _) _) (fun b hb=>by simp [ze,Value.ownBlock] at hb;rw [World.size_alloc];simp;omega) ?_
  refine ⟨[],trivial,by simp,.inr ⟨w.heap.size,_,_,rfl,Nat.zero_le _,heap_alloc_new w.drew _,Nat.zero_le _,hcm,?_,by simp⟩⟩
  rw [Array.size_append,size_zeroCells,size_zeroCells,hzc,hes]
  simp only [List.size_toArray,hl]
  rw [← Nat.add_mul]
  congr 1
  omega
theorem Rows.drop {α:Type} {El:El α} {F:Nat→Prop} {w:World}:∀ {xs:List α} {css:List (List Value)} (J:Nat),Rows El F w xs css→Rows El F w (xs.drop J) (css.drop J)∧(css.drop J).flatten=css.flatten.drop (J * El.size)
 | [],[],J,h=>by simp [Rows]
 | x :: xs,cs :: css,0,h=>⟨h,by simp⟩
 | x :: xs,cs :: css,J+1,h=>by
  obtain ⟨h1,h2⟩:=Rows.drop (xs:=xs) (css:=css) J h.2
  have hl:=El.len F w x cs h.1
  refine ⟨h1,?_⟩
  simp only [List.drop_succ_cons,List.flatten_cons,h2]
  have e:(J+1) * El.size=cs.length+J * El.size:=by rw [hl,Nat.add_mul];omega
  rw [e,List.drop_length_add_append]
 | [],_ :: _,_,h=>by simp [Rows] at h
 | _ :: _,[],_,h=>by simp [Rows] at h
theorem zfL:∀ (vs cs:List Value) (o k:Nat),k≤o→(Xw cs o vs).take k=cs.take k
 | [],_,_,_,_=>rfl
 | v :: r,cs,o,k,h=>by
  rw [Xw,zfL r _ _ k (by omega)]
  apply List.ext_getElem?
  intro j
  simp only [List.getElem?_take]
  split
  ·rw [List.getElem?_set_ne (by omega)]
  ·rfl
theorem zkU {α:Type} {El':El α} {v:Value} {xs:List α} (i:Nat) (hi:xz L i=some (ze El' e v xs)) (h:∀ a cap,v=.slice a xs.length cap→xs.length≤cap→((a=none∧cap=0)∨∃ b,a=some ⟨b,0,none⟩)→Nx n G D w0 R E L φ):Nx n G D w0 R E L φ:=fun a w hE hm hφ=>by
 obtain ⟨css,_,_,hv⟩:=(hm.get hi:Own El' e _ w v xs)
 rcases hv with ⟨hv,h0⟩ | ⟨g,cap,cur,hv,_,_,hle,_⟩
 ·exact h none 0 (by rw [hv,h0]) (by omega) (.inl ⟨rfl,rfl⟩) a w hE hm hφ
 ·exact h _ cap hv hle (.inr ⟨g,rfl⟩) a w hE hm hφ
theorem zlO {lo hi mx:Operand} (M:uk P n G D w0 E ⟨some d,.slice T x (some lo) (some hi) (some mx),ty,pos,aft,gd⟩ Tk R Lr L) {a:Option Addr} {l cap:Nat} {I J:Int} (hT:elB P T=some (e,sz,by')) (hx:oev E x=some (.slice a l cap)) (hlo:oev E lo=some (.int .i64 I)) (hhi:oev E hi=some (.int .i64 J)) (hmx:oev E mx=some (.int .i64 l)) (hd:Nat.blt d n=true)
  (hI:0≤I) (hIJ:I≤J) (hJ:J≤l) (hc:l≤cap) (ha:(a=none∧cap=0)∨∃ b,a=some ⟨b,0,none⟩) (k:∀ u,Nx n G D w0 R ((d,u) :: E) L φ):Nx n G D w0 Tk E L φ :=
 M.val (v:=slv a l I.toNat J.toNat sz) hd rfl (fun ρ w hE hm _=>by
  obtain ⟨hu,inf,hinf,rfl,rfl⟩:=yd hT
  have e1:(l:Int)≤(cap:Int):=by omega
  have e2:0≤J:=by omega
  have e3:I≤(J.toNat:Int):=by omega
  have e4:J≤(l:Int):=hJ
  rcases ha with ⟨rfl,rfl⟩ | ⟨b,rfl⟩
  ·obtain rfl:l=0:=by omega
   obtain rfl:J=0:=by omega
   obtain rfl:I=0:=by omega
   simp [slv,execOp,hE _ _ hx,hE _ _ hlo,hE _ _ hhi,hE _ _ hmx,Instr.sliceAt,Instr.slice,Instr.sliceBounds,Instr.sliceBound,asIntOf,run_underlying hu,sizeOf,typeInfo,hinf]
  ·simp [slv,execOp,hE _ _ hx,hE _ _ hlo,hE _ _ hhi,hE _ _ hmx,Instr.sliceAt,Instr.slice,Instr.sliceBounds,Instr.sliceBound,asIntOf,run_underlying hu,sizeOf,typeInfo,hinf,e1,e2,e3,e4,hI,hc,show I≤max J 0 by omega]) id (k _)
theorem zlM (M:uk P n G D w0 E ⟨some d,.slice T x none (some y) none,ty,pos,aft,gd⟩ Tk R Lr L) {b l cap I:Nat} (hT:elB P T=some (e,sz,by')) (hx:oev E x=some (.slice (some ⟨b,0,none⟩) l cap)) (hy:oev E y=some (.int .i64 I)) (hd:Nat.blt d n=true) (hI:I≤cap)
  (k:Nx n G D w0 R ((d,.slice (some ⟨b,0,none⟩) I cap) :: E) L φ):Nx n G D w0 Tk E L φ :=
 M.val hd rfl (fun ρ w hE hm _=>by
  obtain ⟨hu,inf,hinf,rfl,rfl⟩:=yd hT
  have e1:(I:Int)≤(cap:Int):=by omega
  simp [execOp,hE _ _ hx,hE _ _ hy,Instr.sliceAt,Instr.slice,Instr.sliceBounds,Instr.sliceBound,asIntOf,run_underlying hu,sizeOf,typeInfo,hinf,e1,hI,Addr.add_mid,Nat.not_lt.2 hI]) id k
theorem zmF (M:uk P n G D w0 E ⟨some d,.slice T x (some y) none none,ty,pos,aft,gd⟩ Tk R Lr L) {b l cap J:Nat} (hT:elB P T=some (e,sz,by')) (hx:oev E x=some (.slice (some ⟨b,0,none⟩) l cap)) (hy:oev E y=some (.int .i64 J)) (hd:Nat.blt d n=true) (hJ:J≤l) (hl:l≤cap)
  (k:Nx n G D w0 R ((d,.slice (some (if cap=J then ⟨b,0,none⟩ else ⟨b,J * sz,none⟩)) (l - J) (cap - J)) :: E) L φ):Nx n G D w0 Tk E L φ :=
 M.val hd rfl (fun ρ w hE hm _=>by
  obtain ⟨hu,inf,hinf,rfl,rfl⟩:=yd hT
  have e1:(J:Int)≤(l:Int):=by omega
  have e2:(l:Int)≤(cap:Int):=by omega
  simp [execOp,hE _ _ hx,hE _ _ hy,Instr.sliceAt,Instr.slice,Instr.sliceBounds,Instr.sliceBound,asIntOf,run_underlying hu,sizeOf,typeInfo,hinf,e1,e2,hJ,hl,Addr.add_mid]
  split <;> rfl) id k
theorem zmh {z:Operand} (M:uk P n G D w0 E ⟨some d,.slice T x (some y) (some z) none,ty,pos,aft,gd⟩ Tk R Lr L) {b l cap I J:Nat} (hT:elB P T=some (e,sz,by')) (hx:oev E x=some (.slice (some ⟨b,0,none⟩) l cap)) (hy:oev E y=some (.int .i64 I)) (hz:oev E z=some (.int .i64 J)) (hd:Nat.blt d n=true) (hI:I<J) (hJ:J≤cap)
  (k:Nx n G D w0 R ((d,.slice (some ⟨b,I * sz,none⟩) (J - I) (cap - I)) :: E) L φ):Nx n G D w0 Tk E L φ :=
 M.val hd rfl (fun ρ w hE hm _=>by
  obtain ⟨hu,inf,hinf,rfl,rfl⟩:=yd hT
  have e1:(I:Int)≤(J:Int):=by omega
  have e2:(J:Int)≤(cap:Int):=by omega
  have e3:¬ cap=I:=by omega
  simp [execOp,hE _ _ hx,hE _ _ hy,hE _ _ hz,Instr.sliceAt,Instr.slice,Instr.sliceBounds,Instr.sliceBound,asIntOf,run_underlying hu,sizeOf,typeInfo,hinf,e1,e2,e3,hJ,show I≤J by omega,Addr.add_mid]) id k
theorem zjY {c c':Ch} {i:Nat} {w w':World} (m:Mem G D w0 L w) (hi:xz L i=some c) (hz:w.heap.size≤w'.heap.size) (hf:∀ b,c'.foot b→c.foot b):∀ b,fz G L w b→fz G (yG L i c') w' b:=fun b hb=>⟨by have:=hb.1;omega,hb.2.1,fun x hx=>by
 rcases Z5 hi m.disj hx with e' | ⟨e1,_⟩
 ·subst e';exact fun hk=>hb.2.2 _ (xx hi) (hf b hk)
 ·exact hb.2.2 x e1⟩
theorem zlW {α:Type} {El':El α} {xs:List α} {b I J cap c:Nat} (i:Nat) (hi:xz L i=some (ze El' e (.slice (some ⟨b,0,none⟩) xs.length cap) xs)) (hIJ:I≤J) (hJ:J≤xs.length)
  (hx:oev E x=some (.slice (some ⟨b,0,none⟩) I cap)) (hy:oev E y=some (.slice (some (if cap=J then ⟨b,0,none⟩ else ⟨b,J * sz,none⟩)) (xs.length - J) c)) (hd:Nat.blt d n=true) (hT:elB P T=some (e,sz,by')) (hes:El'.size=sz)
  (k:Nx n G D w0 R ((d,.slice (some ⟨b,0,none⟩) (I+(xs.length - J)) cap) :: E) (yG L i (ze El' e (.slice (some ⟨b,0,none⟩) (I+(xs.length - J)) cap) (xs.take I++xs.drop J))) φ) :
  Nx n G D w0 (fun a w=>Oper.wp P ⟨some d,.call {callee:=.builtin .append,args:=#[x,y],argTypes:=#[T,T]},ty,pos,aft,gd⟩ a w R Q) E L φ :=
 XX hd rfl fun ρ w hE hm hφ=>by
  obtain ⟨hu,inf,hinf,rfl,rfl⟩:=yd hT
  obtain ⟨css,hr,h0,how⟩:=hm.get hi
  rcases how with ⟨h,_⟩ | ⟨g,cap',cur,h,hg0,hg,hnc,hcm,hcz,htake⟩
  ·cases h
  simp only [Value.slice.injEq,Option.some.injEq,Addr.mk.injEq,true_and] at h
  obtain ⟨⟨rfl,-⟩,rfl⟩:=h
  obtain ⟨r1,r2⟩:=Rows.take I hr
  obtain ⟨r3,r4⟩:=Rows.drop J hr
  have hcl:=hr.length
  have hI:I≤xs.length:=by omega
  have m1:I * El'.size≤xs.length * El'.size:=Nat.mul_le_mul_right _ hI
  have m2:J * El'.size≤xs.length * El'.size:=Nat.mul_le_mul_right _ hJ
  have m3:xs.length * El'.size≤cap * El'.size:=Nat.mul_le_mul_right _ hnc
  have m4:(xs.length - J) * El'.size=xs.length * El'.size - J * El'.size:=Nat.sub_mul _ _ _
  have m5:I * El'.size≤J * El'.size:=Nat.mul_le_mul_right _ hIJ
  have hnl:(css.drop J).flatten.length=(xs.length - J) * inf.size:=by rw [r4,List.length_drop,hcl,hes.symm,m4]
  have hcur:cur.toList.length=cap * El'.size:=by rw [Array.length_toList,hcz]
  have hone:=r3.one
  have hcell:∀ j u,(css.drop J).flatten[j]?=some u→w.cell? ((if cap=J then (⟨b,0,none⟩:Addr) else ⟨b,J * inf.size,none⟩).add j)=some u:=fun j u hj=>by
   have hjl:=(List.getElem?_eq_some_iff.1 hj).1
   rw [r4,← htake,List.getElem?_drop,List.getElem?_take] at hj
   split at hj
   ·rename_i hlt
    have hne:¬ cap=J:=fun e'=>by
     rw [r4,List.length_drop,hcl] at hjl
     subst e'
     omega
    rw [if_neg hne,Addr.add_mid,cell_of_row w b _ cur e (0,0) hg,← hes]
    simpa using hj
   ·cases hj
  have hrun:=run_append_room (P:=P) w T ty e inf hu hinf b I cap cur hg _ (xs.length - J) c _ hnl hcell hone (by omega) (by rw [hnl,← hes,← Array.length_toList,hcur];omega)
  obtain ⟨cs',hcs'⟩:∃ c,c=(cur.toList.take (I * inf.size)++(css.drop J).flatten++cur.toList.drop (I * inf.size+(css.drop J).flatten.length)).toArray:=⟨_,rfl⟩
  rw [← hcs'] at hrun
  refine ⟨_,_,_,φ,by simp [execOp,resolve,invoke,builtin,hE _ _ hx,hE _ _ hy,hrun];first | exact ⟨rfl,rfl⟩ | rfl,?_,hφ,k⟩
  have hup:=setRow_heap w b cur cs' e (0,0) hg
  refine hm.upd hi rfl rfl rfl (by simp) (fun x _ hx=>setRow_other w b x _ (fun e'=>hx (by rw [e'];rfl))) (fun x hx=>⟨?_,.inl hx⟩) ?_
  ·have hx':some b=some x:=hx
   cases hx'
   exact (Array.getElem?_eq_some_iff.1 hup).1
  ·have hfz:=zjY (c':=ze El' e (.slice (some ⟨b,0,none⟩) (I+(xs.length - J)) cap) (xs.take I++xs.drop J)) (w':=w.setRow b cs') hm hi (by simp) (fun _ h=>h)
   have hsame:∀ x,fz G L w x→(w.setRow b cs').heap[x]?=w.heap[x]?:=fun x hx=>setRow_other w b x _ (fun e'=>hx.2.2 _ (xx hi) (by rw [e'];rfl))
   have hln:(xs.take I++xs.drop J).length=I+(xs.length - J):=by simp;omega
   refine ⟨css.take I++css.drop J,Rows.append (r1.keep hfz hsame) (r3.keep hfz hsame),?_,.inr ⟨b,cap,_,by rw [hln],hg0,hup,by omega,hcm,?_,?_⟩⟩
   ·rw [List.flatten_append,List.length_append,r2,hnl,List.length_take,hcl,hln,Nat.add_mul,← hes];omega
   ·rw [hcs',← Array.length_toList]
    simp only [List.length_append,List.length_take,List.length_drop,hnl,hcur,← hes]
    omega
   ·rw [hcs',hln,List.flatten_append,r2,← htake,List.take_take,Nat.min_eq_left m1,← hes,Nat.add_mul]
    rw [List.take_append_of_le_length (by simp only [List.length_append,List.length_take,hnl,hcur,← hes];omega)]
    rw [List.take_of_length_le (by simp only [List.length_append,List.length_take,hnl,hcur,← hes];omega)]
theorem zl2 {α:Type} {El':El α} {ys:List α} {b m cap q c:Nat} {zs:List Value} (i:Nat) (hi:xz L i=some (ze El' e (.slice (some ⟨b,0,none⟩) m cap) ys)) (hq:m+q≤cap) (hq0:0<q) (hx:oev E x=some (.slice (some ⟨b,m * sz,none⟩) q c)) (hT:elB P T=some (e,sz,by')) (hes:El'.size=sz) (hzr:uH P e=some zs) (hzl:Nat.beq zs.length sz=true) (hone:zs.all (·.oneCell')=true)
  (k:Nx n G D w0 R E L φ):Nx n G D w0 (fun a w=>Oper.wp P ⟨none,.call {callee:=.builtin .clear,args:=#[x],argTypes:=#[T]},ty,pos,aft,gd⟩ a w R Q) E L φ:=fun a w hE hm hφ=>by
 obtain ⟨hu,inf,hinf,rfl,rfl⟩:=yd hT
 obtain ⟨z',hz',hzc⟩:=yP hzr hinf
 obtain ⟨css,hr,h0,how⟩:=hm.get hi
 have hl:=Nat.eq_of_beq_eq_true hzl
 rcases how with ⟨h,_⟩ | ⟨g,cap',cur,h,hg0,hg,hnc,hcm,hcz,htake⟩
 ·cases h
 simp only [Value.slice.injEq,Option.some.injEq,Addr.mk.injEq] at h
 obtain ⟨⟨rfl,-,-⟩,rfl,rfl⟩:=h
 have m1:(ys.length+q) * El'.size≤cap * El'.size:=Nat.mul_le_mul_right _ hq
 have hb:w.heap[b]?=some (.cells cur.toList.toArray e (0,0)):=by simpa using hg
 have hcl:cur.toList.length=cap * El'.size:=by rw [Array.length_toList,hcz]
 have hzs:(Builtin.zeroCells z'.cells q).toList.length=q * El'.size:=by rw [Array.length_toList,size_zeroCells,hzc,hes];simp [hl]
 have hth:=Xe (b:=b) (o:=ys.length * El'.size) (sz:=q * El'.size) hb (by rw [hcl,← Nat.add_mul];exact m1)
 have hst:=run_storeCells_cells (P:=P) b (ys.length * El'.size) (Builtin.zeroCells z'.cells q).toList 0 w (fun j hj=>by simpa using (hth j (by rw [hzs] at hj;exact hj)).1) (fun j hj=>by simpa using (hth j (by rw [hzs] at hj;exact hj)).2) (fun v hv=>by
  have hv':v∈Builtin.zeroCells z'.cells q:=by simpa using hv
  unfold Builtin.zeroCells at hv'
  obtain ⟨j,hj,rfl⟩:=Array.mem_map.1 hv'
  rw [hzc]
  have hp:=El'.pos
  have hlt:j % zs.toArray.size<zs.length:=by simpa using Nat.mod_lt j (show 0<zs.toArray.size by simp;omega)
  rw [getElem!_pos zs.toArray _ (by simpa using hlt)]
  exact List.all_eq_true.1 hone _ (by simp))
 simp only [Nat.add_zero] at hst
 have hx':=hE.eval hx
 have hrun:(execOp a.eval ⟨none,.call {callee:=.builtin .clear,args:=#[x],argTypes:=#[T]},ty,pos,aft,gd⟩).run P w=.ok (.value (.tuple #[])) (w.setCells b (ys.length * El'.size) (Builtin.zeroCells z'.cells q).toList):=by
  rw [← hes] at hx'
  obtain ⟨q',rfl⟩:∃ q',q=q'+1:=⟨q - 1,by omega⟩
  simp [execOp,resolve,invoke,builtin,hx',Builtin.clear_,run_underlying hu,zeroValue,typeInfo,hinf,hz',hst]
 show Oper.upon P _ a R Q _
 rw [hrun,Oper.upon_value]
 obtain ⟨s1,s2,s3⟩:=ZN b (Builtin.zeroCells z'.cells q).toList (ys.length * El'.size) w
 have hid:∀ {L:List Ch} {i:Nat} {c:Ch},xz L i=some c→yG L i c=L:=by
  intro L
  induction L with
  | nil=>intro i c h;rfl
  | cons d r ih=>intro i c h;cases i with
   | zero=>simp [xz] at h;subst h;rfl
   | succ i=>simp [xz] at h;simp [yG,ih h]
 refine k _ _ (hE.put_none _) ?_ hφ
 have hup:=ZO b e (0,0) (Builtin.zeroCells z'.cells q).toList (ys.length * El'.size) cur.toList w hb
 have:=hm.upd (c':=ze El' e (.slice (some ⟨b,0,none⟩) ys.length cap) ys) hi s1 s2 s3 (by rw [xB];exact Nat.le_refl _) (fun x _ hx=>ui b _ _ _ _ (fun e'=>hx (by rw [e'];rfl))) (fun x hx=>⟨by
   have hx':some b=some x:=hx
   cases hx'
   rw [xB]
   exact (Array.getElem?_eq_some_iff.1 hg).1,.inl hx⟩) (by
  have hfz:=zjY (c':=ze El' e (.slice (some ⟨b,0,none⟩) ys.length cap) ys) (w':=w.setCells b (ys.length * El'.size) (Builtin.zeroCells z'.cells q).toList) hm hi (by rw [xB];exact Nat.le_refl _) (fun _ h=>h)
  refine ⟨css,hr.keep hfz (fun x hx=>ui b _ _ _ _ (fun e'=>hx.2.2 _ (xx hi) (by rw [e'];rfl))),h0,.inr ⟨b,cap,_,rfl,hg0,hup,hnc,hcm,by simpa [X8] using hcz,?_⟩⟩
  simp only [zfL _ _ _ _ (Nat.le_refl _)]
  exact htake)
 rw [hid hi] at this
 exact this
end
end
section
open Go.RowKit
section
variable {P:Program} {n:Nat} {G D:Nat→Prop} {w0:World} {Q:Exit→Act→World→Prop} {R:Act→World→Prop} {E:Env} {L M:List Ch} {φ:Prop}
variable {d:Tmp} {ty:TypeId} {pos:String} {aft:Array Edge} {gd:Option (Nat×Bool)} {Tk:Act→World→Prop} {Lr:List Ch} {x y:Operand} {T T' S:TypeId} {e sz by':Nat} {at':Array TypeId}
theorem Mem.putObj {i b:Nat} {o o':Obj} {w:World} (m:Mem G D w0 L w) (hi:xz L i=some (yl b o)):Mem G D w0 (yG L i (yl b o')) (w.putObj b o'):=by
 have hb:w.heap[b]?=some o:=m.get hi
 have hlt:=(Array.getElem?_eq_some_iff.1 hb).1
 refine m.upd hi rfl rfl rfl (by simp) (fun x _ hx=>World.putObj_heap_other (fun e=>hx e)) (fun x hx=>⟨?_,.inl hx⟩) (World.putObj_heap_same hlt)
 have hx':x=b:=hx
 subst hx'
 simpa using hlt
theorem zlj {l i:Nat} {rc:Loop} {Kb:Act→World→Prop} (hi:xz L i=some (yl l (.loop rc))) (hr:rc.state=.ready) (k:Nx n G D w0 Kb E (yG L i (yl l (.loop {rc with state:=.busy}))) φ) :
  Nx n G D w0 (fun a w=>∃ w₂,(Instr.beginRound l).run P w=.ok () w₂∧Kb a w₂) E L φ:=fun a w hE hm hφ =>
 ⟨_,run_beginRound (P:=P) (hm.get hi) hr,k a _ hE (hm.putObj hi) hφ⟩
theorem Mem.absLoop {l:Nat} {rc0:Loop} {w:World} (m:Mem G D w0 (yl l (.loop rc0) :: L) w):∃ rc,rc=rc0∧Mem G D w0 (yl l (.loop rc) :: L) w:=⟨rc0,rfl,m⟩
theorem znf {l i:Nat} {rc:Loop} {Rr:Ending→World→Prop} (hi:xz L i=some (yl l (.loop rc))) (h:∀ w,Mem G D w0 (yG L i (yl l (.loop {rc with state:=.ready,pending:=none}))) w→φ→Rr (.returned (.bool true)) w) :
  Nx n G D w0 (roundPost P l Rr .normal) E L φ:=fun a w hE hm hφ =>
 ⟨_,_,run_endRound (P:=P) none (hm.get hi),h _ (hm.putObj hi) hφ⟩
theorem zmb {l i:Nat} {rc:Loop} {Rr:Ending→World→Prop} (hi:xz L i=some (yl l (.loop rc))) (h:∀ w,Mem G D w0 (yG L i (yl l (.loop {rc with state:=.done,pending:=some .ret}))) w→φ→Rr (.returned (.bool false)) w) :
  Nx n G D w0 (roundPost P l Rr .ret) E L φ:=fun a w hE hm hφ =>
 ⟨_,_,run_endRound (P:=P) (some .ret) (hm.get hi),h _ (hm.putObj hi) hφ⟩
theorem Mem.laid {w:World} (o:Obj) (m:Mem G D w0 L w):Mem G D w0 (yl w.heap.size o :: L) (w.alloc o) :=
 m.add _ ((Below.refl _ _).alloc (Nat.le_refl _) _) (fun b hb=>by have hb':b=w.heap.size:=hb;subst hb';simp) (World.alloc_heap_new w o)
theorem zkP {g:Operand} {ps:Array Tmp} {assign body:Code} {gf:Nat} {lb:List Value} (hg:oev E g=some (.func (.func gf) #[] lb.toArray)) (eg:∀ args w,(callFunc gf args).run P w=.ok (.enter gf args) w)
  (h:∀ (a:Act) (w:World) (fn:FuncId) (l D0:Nat),Has n E a→Mem G D w0 (yl l (.loop {state:=.ready,pending:=none,fn,tmps:=a.tmps,params:=ps,assign,body,defers:=D0}) :: yl D0 (.deferred (some [])) :: L) w→φ →
   Calls P gf (.func (.yield l) #[] #[] :: lb).toArray w (rangePost Fence.wide 3 P l Q {a with defers:=[{target:=.collected D0,args:=#[]}]})):Nx n G D w0 ((Code.rangeFunc g ps assign body).wp P Q) E L φ:=fun a w hE hm hφ=>by
 refine (wpIn_wide (n:=3)).1 (wpIn_rangeFunc fun fn _=>?_)
 have hgv:=hE.eval hg
 have hcall:=h a ((w.alloc (.deferred (some []))).alloc (.loop {state:=.ready,pending:=none,fn,tmps:=a.tmps,params:=ps,assign,body,defers:=w.heap.size})) fn (w.heap.size+1) w.heap.size hE (by
  have:=(hm.laid (.deferred (some []))).laid (.loop {state:=.ready,pending:=none,fn,tmps:=a.tmps,params:=ps,assign,body,defers:=w.heap.size})
  rwa [World.size_alloc] at this) hφ
 have hrun:=run_enterLoop_outer (P:=P) (w:=w) fn a.tmps ps assign body
 generalize (w.alloc (.deferred (some []))).alloc (.loop {state:=.ready,pending:=none,fn,tmps:=a.tmps,params:=ps,assign,body,defers:=w.heap.size})=W1 at hcall hrun
 refine ⟨w.heap.size+1,[{target:=.collected w.heap.size,args:=#[]}],W1,{target:=.fn (.func gf) lb.toArray,args:=#[.func (.yield (w.heap.size+1)) #[] #[]]},W1,gf,
  (.func (.yield (w.heap.size+1)) #[] #[] :: lb).toArray,W1,hrun,?_,fun f' _=>trivial,?_,fun e=>by simp [Fence.wide] at e,?_⟩
 ·simp only [resolve,hgv]
  simp [go_sem]
 ·simp [invoke,go_sem,eg]
 ·have hd:=hE.defers
  rw [hd]
  exact callsIn_wide.2 hcall
theorem zfV {l i:Nat} {rc:Loop} {a':Act} {v:Value} {w:World} (m:Mem G D w0 L w) (hi:xz L i=some (yl l (.loop rc))) (hb:rc.state≠.busy)
  (h:∀ w',Mem G D w0 (yG L i (yl l (.loop {rc with state:=.exhausted}))) w'→(match rc.pending with | none=>Q .normal a' w' | some c=>c.wpIn Fence.wide 3 P Q a' w')):rangePost Fence.wide 3 P l Q a' (.returned v) w :=
 ⟨_,_,run_endLoop (P:=P) (m.get hi) hb,h _ (m.putObj hi)⟩
theorem zmZ {ds:List Deferred} {ops:Array Oper} {rest:List Oper} {dst:Option Tmp} {op:Op} (hne:∀ ρ w dd w',(execOp ρ ⟨dst,op,ty,pos,aft,none⟩).run P w≠.ok (.defer dd) w') (h:Nx n G D w0 (fun a w=>Oper.wp P ⟨dst,op,ty,pos,aft,none⟩ a w (fun a w=>wpList P ops Q rest {a with defers:=ds} w) (fun _ _ _=>False)) E L φ) :
  Nx n G D w0 (fun a w=>wpList P ops Q (⟨dst,op,ty,pos,aft,none⟩ :: rest) {a with defers:=ds} w) E L φ:=fun a w hE hm hφ=>by
 show wpList P ops Q (⟨dst,op,ty,pos,aft,none⟩ :: rest) {a with defers:=ds} w
 unfold wpList
 rw [if_pos (by simp [Region.wanted])]
 refine .inl ?_
 have h':Oper.upon P ⟨dst,op,ty,pos,aft,none⟩ a (fun a w=>wpList P ops Q rest {a with defers:=ds} w) (fun _ _ _=>False) ((execOp a.eval ⟨dst,op,ty,pos,aft,none⟩).run P w):=h a w hE hm hφ
 show Oper.upon P ⟨dst,op,ty,pos,aft,none⟩ {a with defers:=ds} (wpList P ops Q rest) Q ((execOp a.eval ⟨dst,op,ty,pos,aft,none⟩).run P w)
 have hne':=hne a.eval w
 revert h' hne'
 generalize (execOp a.eval ⟨dst,op,ty,pos,aft,none⟩).run P w=r
 intro h' hne'
 have hp:∀ v,({a with defers:=ds}:Act).put dst v={a.put dst v with defers:=ds}:=fun v=>by cases dst <;> rfl
 cases r with
 | ok x w' =>
  cases x <;> simp only [Oper.upon,hp] at h' ⊢ <;> first | exact h' | exact absurd rfl (hne' _ _) | (refine Calls.mono h' ?_;intro e w'' hh;cases e <;> first | exact hh | exact False.elim hh | (obtain ⟨_,_,hh⟩:=hh;exact hh.elim)) | (refine Rows.mono h' ?_;intro e w'' hh;exact hh) | exact False.elim h'
 | halt x w'=>cases x <;> first | exact h' | exact False.elim h'
theorem stD {ds:List Deferred} {ops:Array Oper} {rest:List Oper} {dst:Option Tmp} {op:Op}:uk P n G D w0 E ⟨dst,op,ty,pos,aft,none⟩ (fun a w=>wpList P ops Q (⟨dst,op,ty,pos,aft,none⟩ :: rest) {a with defers:=ds} w) (fun a w=>wpList P ops Q rest {a with defers:=ds} w) L L :=
 ⟨fun hd ho hr hψ k=>fun a w hE hm hφ=>by
  show wpList P ops Q (⟨dst,op,ty,pos,aft,none⟩ :: rest) {a with defers:=ds} w
  unfold wpList
  rw [if_pos (by simp [Region.wanted])]
  refine .inl ?_
  show Oper.upon P _ _ _ Q ((execOp a.eval ⟨dst,op,ty,pos,aft,none⟩).run P w)
  rw [hr a.eval w (fun x v h=>hE.eval h) hm hφ,Oper.upon_value,ho]
  exact k _ _ (hE.put hd _) hm (hψ hφ)⟩
theorem zhn {T:TypeId} {x y:Operand}:∀ ρ w dd w',(execOp ρ ⟨none,.store T x y,ty,pos,aft,none⟩).run P w≠.ok (.defer dd) w':=fun ρ w dd w' h=>by
 simp only [execOp] at h
 rw [Sem.run_bind] at h
 cases hr:(Instr.storeAt T (ρ x) (ρ y)).run P w with
 | ok u w2=>rw [hr] at h;simp [Result.andThen] at h
 | halt u w2=>rw [hr] at h;simp [Result.andThen] at h
theorem ziS {ds:List Deferred} {id:Nat} {l:List Oper} (h:Nx n G D w0 (fun a w=>wpList P l.toArray Q l {a with defers:=ds} w) E L φ):Nx n G D w0 (fun a w=>(Code.region id l.toArray false).wp P Q {a with defers:=ds} w) E L φ:=fun a w hE hm hφ=>wp_region_lit (h a w hE hm hφ)
theorem zlK {ds:List Deferred} {x y:Code} (h:Nx n G D w0 (fun a w=>x.wp P (Exit.then (y.wp P Q) Q) {a with defers:=ds} w) E L φ):Nx n G D w0 (fun a w=>(Code.seq x y).wp P Q {a with defers:=ds} w) E L φ:=fun a w hE hm hφ=>wp_seq (h a w hE hm hφ)
theorem zlI {ds:List Deferred} (h:Nx n G D w0 (fun a w=>Q .ret {a with defers:=ds} w) E L φ):Nx n G D w0 (fun a w=>Code.ret.wp P Q {a with defers:=ds} w) E L φ:=fun a w hE hm hφ=>wp_ret (h a w hE hm hφ)
theorem zia {M0:List Ch} {ρ ν:Type} {F:Nat→Prop} {fn:Func} {q q2:ResultVar} {v v2:Value} {κ:ρ→Prop} {val:ρ→ν→Value} {N:ρ→ν→List Ch} {D0 i:Nat} (hi:xz L i=some (yl D0 (.deferred (some [])))) (hres:fn.results=#[q,q2]) (r:ρ) (u:ν)
  (hs:Rv P n G (ut M0) w0 E (yG L i (yl D0 (.deferred none))) q v) (ht:Rv P n G (ut M0) w0 E (yG L i (yl D0 (.deferred none))) q2 v2) (hv:val r u=.tuple #[v,v2])
  (hN:∀ w,Mem G (ut M0) w0 (yG L i (yl D0 (.deferred none))) w→zN M0 F w0 w (N r u)):Nx n G (ut M0) w0 (fun a w=>bodyPostM Fence.wide 3 P fn (Ret M0 F w0 κ val N) .ret {a with defers:=[{target:=.collected D0,args:=#[]}]} w) E L (κ r):=fun a w hE hm hφ=>by
 have hk:=hm.putObj (o':=.deferred none) hi
 refine ⟨by simp,.inl ⟨D0,_,rfl,run_takeDeferred (P:=P) (hm.get hi),?_⟩⟩
 exact ⟨val r u,by simp [Vw,hres,hs a _ hE hk,ht a _ hE hk,hv],r,u,hφ,rfl,hk.updD,hN _ hk⟩
theorem zlQ {F:Nat→Prop} {f:Nat} {fn:Func} {c:Code} {args:List Value} {K:Ending→World→Prop} (M0:List Ch) (hF:∀ b,F b→b<w0.heap.size∧¬ ut M0 b) (hg:x5 M0 F w0) (hf:P.funcs[f]?=some fn) (hb:fn.body=some c) (hn:fn.ntmps=n) (hle:Nat.ble args.length n=true)
  (hφ:φ) (h:Nx n (gB F M0 w0) (ut M0) w0 (c.wp P (bodyPostM Fence.wide 3 P fn K)) (zaX 0 args) (M0++[zl w0 F]) φ):Calls P f args.toArray w0 K:=by
 have hle':=Nat.le_of_ble_eq_true hle
 refine (callsIn_wide (n:=3)).1 (callsIn_of_wp_marks hf hb trivial (wpIn_wide.2 ?_))
 have hfoot:∀ c∈[zl w0 F],∀ b,¬ c.foot b:=fun c hc b h=>by simp only [List.mem_cons,List.not_mem_nil,or_false] at hc;subst hc;exact h
 have hh:∀ c∈[zl w0 F],c.holds F w0:=fun c hc=>by simp only [List.mem_cons,List.not_mem_nil,or_false] at hc;subst hc;exact ⟨fun _ h=>h,fun _ _=>rfl⟩
 refine h _ _ ?_ ?_ hφ
 ·rw [hn]
  have:=Has.enter (args:=args) (f:=n - args.length) (n:=n) (by omega) (zaX 0 args) (fun s v hs=>by have:=zdr args 0 s v hs;simpa using this.2)
  simpa using this
 ·have hfz:∀ b,F b→fz (gB F M0 w0) (M0++[zl w0 F]) w0 b:=fun b hb=>⟨(hF b hb).1,.inl hb,fun d hd hk=>by
   rcases List.mem_append.1 hd with e | e
   ·exact (hF b hb).2 ⟨d,e,hk⟩
   ·exact hfoot d e b hk⟩
  refine Mem.start w0 _ _ (M0++[zl w0 F]) (fun b h=>.inr h) (fun c hc b hb=>?_) ?_ (fun c hc=>?_)
  ·rcases List.mem_append.1 hc with e | e
   ·exact ⟨hg.lt c e b hb,c,e,hb⟩
   ·exact absurd hb (hfoot c e b)
  ·exact List.pairwise_append.2 ⟨hg.disj,by simp,fun c _ d hd b _ h2=>hfoot d hd b h2⟩
  ·rcases List.mem_append.1 hc with e | e
   ·exact c.keep _ _ w0 w0 hfz (fun _ _=>rfl) (hg.hold c e)
   ·exact c.keep _ _ w0 w0 hfz (fun _ _=>rfl) (hh c e)
end
end
section
open Go.RowKit
variable {w0:World} {F:Nat→Prop}
theorem xV:zeb Tryz.prog 137=some (4,90,false,1):=by kernel_rfl
theorem zaY:zeb Tryz.prog 152=some (4,3,false,1):=by kernel_rfl
theorem zmE:zeb Tryz.prog 163=some (4,162,true,2):=by kernel_rfl
theorem zjW:zeb Tryz.prog 203=some (5,4,false,1):=by kernel_rfl
theorem zhN:zeb Tryz.prog 204=some (5,3,false,1):=by kernel_rfl
theorem zem:zaq Tryz.prog 101=some (#[(0,1),(1,1)],[(.slice none 0 0),(.bool false)]):=by kernel_rfl
theorem zl0:zaq Tryz.prog 131=some (#[(0,1),(1,1)],[(.slice none 0 0),(.int .i64 0)]):=by kernel_rfl
theorem zee:zk6 Tryz.prog 137=some (1,[(.slice none 0 0),(.slice none 0 0),(.slice none 0 0),(.slice none 0 0)]):=by kernel_rfl
theorem zhQ:zaq Tryz.prog 146=some (#[(0,4),(4,1)],[(.slice none 0 0),(.slice none 0 0),(.slice none 0 0),(.slice none 0 0),(.bool false)]):=by kernel_rfl
theorem zmx:zk6 Tryz.prog 152=some (1,[(.int .i64 0),(.int .i64 0),(.int .i64 0),(.int .i64 0)]):=by kernel_rfl
theorem zmq:zaq Tryz.prog 157=some (#[(0,1),(1,1),(2,1)],[(.slice none 0 0),(.slice none 0 0),(.int .i64 0)]):=by kernel_rfl
theorem zlJ:zaq Tryz.prog 165=some (#[(0,1),(1,1),(2,1),(3,1)],[(.int .i64 0),(.int .i64 0),(.int .i64 0),(.bool false)]):=by kernel_rfl
theorem zl7:zaq Tryz.prog 169=some (#[(0,1),(1,1),(2,1)],[(.slice none 0 0),(.slice none 0 0),(.bool false)]):=by kernel_rfl
theorem zjQ:zaq Tryz.prog 208=some (#[(0,1),(1,1)],[(.int .i64 0),(.int .i64 0)]):=by kernel_rfl
theorem zlT:zaq Tryz.prog 212=some (#[(0,1),(1,1)],[(.int .i64 0),(.int .i64 0)]):=by kernel_rfl
theorem znh:zaq Tryz.prog 25=some (#[(0,1),(1,1)],[(.slice none 0 0),(.bool false)]):=by kernel_rfl
theorem zjK:zaq Tryz.prog 262=some (#[(0,1)],[(.bool false)]):=by kernel_rfl
theorem zml:zaq Tryz.prog 264=some (#[(0,1)],[(.int .i64 0)]):=by kernel_rfl
theorem zms:zaq Tryz.prog 266=some (#[],[]):=by kernel_rfl
theorem zmC:zaq Tryz.prog 267=some (#[],[]):=by kernel_rfl
theorem zg0:zaq Tryz.prog 34=some (#[(0,1),(1,1),(2,1),(3,1)],[(.int .i64 0),(.int .i64 0),(.int .i64 0),(.int .i64 0)]):=by kernel_rfl
theorem zeO:zaq Tryz.prog 77=some (#[(0,1),(1,1),(2,1)],[(.slice none 0 0),(.int .i64 0),(.int .i64 0)]):=by kernel_rfl
theorem ZJ:zaq Tryz.prog 89=some (#[(0,1),(1,1)],[(.int .i64 0),(.int .i64 0)]):=by kernel_rfl
theorem zbG:zaq Tryz.prog 94=some (#[(0,1)],[(.slice none 0 0)]):=by kernel_rfl
theorem zaO:elB Tryz.prog 154=some (208,2,16):=by kernel_rfl
theorem zhp:elB Tryz.prog 155=some (212,2,16):=by kernel_rfl
theorem zde:elB Tryz.prog 22=some (5,1,1):=by kernel_rfl
theorem Zf:elB Tryz.prog 23=some (47,1,24):=by kernel_rfl
theorem zeN:elB Tryz.prog 271=some (82,1,24):=by kernel_rfl
theorem zif:elB Tryz.prog 280=some (4,1,1):=by kernel_rfl
theorem xT:elB Tryz.prog 30=some (101,2,32):=by kernel_rfl
theorem Zj:elB Tryz.prog 36=some (94,1,24):=by kernel_rfl
theorem uW:elB Tryz.prog 39=some (3,1,8):=by kernel_rfl
theorem Z8:elB Tryz.prog 47=some (77,3,40):=by kernel_rfl
theorem VO:elB Tryz.prog 75=some (165,4,32):=by kernel_rfl
theorem Ze:elB Tryz.prog 79=some (146,5,104):=by kernel_rfl
theorem Xo:elB Tryz.prog 82=some (137,4,96):=by kernel_rfl
theorem jG:elB Tryz.prog 90=some (89,2,16):=by kernel_rfl
theorem Zi:elB Tryz.prog 92=some (90,1,24):=by kernel_rfl
theorem zhM (x y:Operand) (a0:Int) (a1:Int) (b0:Int) (b1:Int) (w:World):(do eqGuard .neq 89 x y (.agg #[(.int .i64 a0),(.int .i64 a1)]) (.agg #[(.int .i64 b0),(.int .i64 b1)]);binOp .neq 89 (.agg #[(.int .i64 a0),(.int .i64 a1)]) (.agg #[(.int .i64 b0),(.int .i64 b1)]):Sem Value).run Tryz.prog w=.ok (.bool (!decide ((zg.mk a0 a1)=(zg.mk b0 b1)))) w:=by
 simp [go_sem,binOp,Op.equal,Op.maxDepth]
 repeat' split
 all_goals simp_all
theorem XV:Xv Tryz.prog 101 0=some (0,true,1):=by kernel_rfl
theorem UV:Xv Tryz.prog 101 1=some (1,false,1):=by kernel_rfl
theorem US:Xv Tryz.prog 131 0=some (0,false,1):=by kernel_rfl
theorem zeM:Xv Tryz.prog 131 1=some (1,false,1):=by kernel_rfl
theorem Vq:Xv Tryz.prog 146 0=some (0,true,4):=by kernel_rfl
theorem zcw:Xv Tryz.prog 146 1=some (4,false,1):=by kernel_rfl
theorem UN:Xv Tryz.prog 157 0=some (0,false,1):=by kernel_rfl
theorem zcH:Xv Tryz.prog 157 1=some (1,false,1):=by kernel_rfl
theorem zct:Xv Tryz.prog 157 2=some (2,false,1):=by kernel_rfl
theorem zjJ:Xv Tryz.prog 162 1=some (1,false,1):=by kernel_rfl
theorem yX:Xv Tryz.prog 165 0=some (0,false,1):=by kernel_rfl
theorem YC:Xv Tryz.prog 165 1=some (1,false,1):=by kernel_rfl
theorem Xn:Xv Tryz.prog 165 2=some (2,false,1):=by kernel_rfl
theorem ze9:Xv Tryz.prog 165 3=some (3,false,1):=by kernel_rfl
theorem zke:Xv Tryz.prog 169 0=some (0,false,1):=by kernel_rfl
theorem zcN:Xv Tryz.prog 169 1=some (1,false,1):=by kernel_rfl
theorem Yz:Xv Tryz.prog 169 2=some (2,false,1):=by kernel_rfl
theorem zht:Xv Tryz.prog 208 0=some (0,false,1):=by kernel_rfl
theorem zcO:Xv Tryz.prog 208 1=some (1,false,1):=by kernel_rfl
theorem ua:Xv Tryz.prog 25 0=some (0,false,1):=by kernel_rfl
theorem zcg:Xv Tryz.prog 25 1=some (1,false,1):=by kernel_rfl
theorem zg6:Xv Tryz.prog 262 0=some (0,false,1):=by kernel_rfl
theorem zhe:Xv Tryz.prog 264 0=some (0,false,1):=by kernel_rfl
theorem zdW:Xv Tryz.prog 34 0=some (0,false,1):=by kernel_rfl
theorem zdY:Xv Tryz.prog 34 1=some (1,false,1):=by kernel_rfl
theorem zdS:Xv Tryz.prog 34 2=some (2,false,1):=by kernel_rfl
theorem zgM:Xv Tryz.prog 34 3=some (3,false,1):=by kernel_rfl
theorem VL:Xv Tryz.prog 77 0=some (0,false,1):=by kernel_rfl
theorem Yr:Xv Tryz.prog 77 1=some (1,false,1):=by kernel_rfl
theorem Yb:Xv Tryz.prog 77 2=some (2,false,1):=by kernel_rfl
theorem uK:Xv Tryz.prog 89 0=some (0,false,1):=by kernel_rfl
theorem xt:Xv Tryz.prog 89 1=some (1,false,1):=by kernel_rfl
theorem xr:Xv Tryz.prog 94 0=some (0,false,1):=by kernel_rfl
theorem zeo (v:Value) (w:World):(method (Tryz.prog.types.size+Made.depth) 262 v "loop.example/packetfilter/impl.unfold").run Tryz.prog w=.ok (279,v) w:=by kernel_rfl
theorem zgr (v:Value) (w:World):(method (Tryz.prog.types.size+Made.depth) 262 v "loop.example/packetfilter/impl.walk").run Tryz.prog w=.ok (280,v) w:=by kernel_rfl
theorem zeJ (v:Value) (w:World):(method (Tryz.prog.types.size+Made.depth) 264 v "loop.example/packetfilter/impl.unfold").run Tryz.prog w=.ok (282,v) w:=by kernel_rfl
theorem zf1 (v:Value) (w:World):(method (Tryz.prog.types.size+Made.depth) 264 v "loop.example/packetfilter/impl.walk").run Tryz.prog w=.ok (283,v) w:=by kernel_rfl
theorem zey (v:Value) (w:World):(method (Tryz.prog.types.size+Made.depth) 266 v "loop.example/packetfilter/impl.unfold").run Tryz.prog w=.ok (285,v) w:=by kernel_rfl
theorem zgK (v:Value) (w:World):(method (Tryz.prog.types.size+Made.depth) 266 v "loop.example/packetfilter/impl.walk").run Tryz.prog w=.ok (286,v) w:=by kernel_rfl
theorem zd7 (v:Value) (w:World):(method (Tryz.prog.types.size+Made.depth) 267 v "loop.example/packetfilter/impl.unfold").run Tryz.prog w=.ok (288,v) w:=by kernel_rfl
theorem zgg (v:Value) (w:World):(method (Tryz.prog.types.size+Made.depth) 267 v "loop.example/packetfilter/impl.walk").run Tryz.prog w=.ok (289,v) w:=by kernel_rfl
theorem zjn:∀ v w,(Instr.makeInterface 262 v).run Tryz.prog w=.ok (.iface 262 v) w:=fun v w=>by kernel_rfl
theorem zl6:∀ v w,(Instr.makeInterface 264 v).run Tryz.prog w=.ok (.iface 264 v) w:=fun v w=>by kernel_rfl
theorem zl1:∀ v w,(Instr.makeInterface 266 v).run Tryz.prog w=.ok (.iface 266 v) w:=fun v w=>by kernel_rfl
theorem zmc:∀ v w,(Instr.makeInterface 267 v).run Tryz.prog w=.ok (.iface 267 v) w:=fun v w=>by kernel_rfl
theorem znn:∀ v w,(Instr.makeInterface 9 v).run Tryz.prog w=.ok (.iface 9 v) w:=fun v w=>by kernel_rfl
theorem UO:tyB Tryz.prog 101=some (true,2):=by kernel_rfl
theorem jQ:tyB Tryz.prog 137=some (true,4):=by kernel_rfl
theorem zdw:tyB Tryz.prog 146=some (true,5):=by kernel_rfl
theorem zks:tyB Tryz.prog 152=some (true,4):=by kernel_rfl
theorem zau:tyB Tryz.prog 154=some (false,1):=by kernel_rfl
theorem zg7:tyB Tryz.prog 155=some (false,1):=by kernel_rfl
theorem U5:tyB Tryz.prog 165=some (true,4):=by kernel_rfl
theorem zm1:tyB Tryz.prog 203=some (true,5):=by kernel_rfl
theorem zgR:tyB Tryz.prog 22=some (false,1):=by kernel_rfl
theorem XY:tyB Tryz.prog 23=some (false,1):=by kernel_rfl
theorem Ya:tyB Tryz.prog 25=some (true,2):=by kernel_rfl
theorem ty3:tyB Tryz.prog 3=some (false,1):=by kernel_rfl
theorem zhi:tyB Tryz.prog 30=some (false,1):=by kernel_rfl
theorem Yu:tyB Tryz.prog 34=some (true,4):=by kernel_rfl
theorem ty4:tyB Tryz.prog 4=some (false,1):=by kernel_rfl
theorem Uz:tyB Tryz.prog 47=some (false,1):=by kernel_rfl
theorem ty5:tyB Tryz.prog 5=some (false,1):=by kernel_rfl
theorem zhy:tyB Tryz.prog 75=some (false,1):=by kernel_rfl
theorem Va:tyB Tryz.prog 77=some (true,3):=by kernel_rfl
theorem zi5:tyB Tryz.prog 79=some (false,1):=by kernel_rfl
theorem zdF:tyB Tryz.prog 82=some (false,1):=by kernel_rfl
theorem YR:tyB Tryz.prog 89=some (true,2):=by kernel_rfl
theorem xF:tyB Tryz.prog 90=some (false,1):=by kernel_rfl
theorem yT:tyB Tryz.prog 92=some (false,1):=by kernel_rfl
theorem xP:tyB Tryz.prog 94=some (true,1):=by kernel_rfl
theorem xW:Tryz.prog.underlying 3=some (.int .i64):=by kernel_rfl
theorem zfY:Tryz.prog.underlying 4=some .bool:=by kernel_rfl
theorem zmv:Tryz.prog.underlying 5=some (.int .u8):=by kernel_rfl
theorem zmP:Tryz.prog.underlying 79=some (.slice 146):=by kernel_rfl
theorem jY:uH Tryz.prog 101=some [(.slice none 0 0),(.bool false)]:=by kernel_rfl
theorem xZ:uH Tryz.prog 137=some [(.slice none 0 0),(.slice none 0 0),(.slice none 0 0),(.slice none 0 0)]:=by kernel_rfl
theorem ZR:uH Tryz.prog 146=some [(.slice none 0 0),(.slice none 0 0),(.slice none 0 0),(.slice none 0 0),(.bool false)]:=by kernel_rfl
theorem zit:uH Tryz.prog 152=some [(.int .i64 0),(.int .i64 0),(.int .i64 0),(.int .i64 0)]:=by kernel_rfl
theorem Ys:uH Tryz.prog 165=some [(.int .i64 0),(.int .i64 0),(.int .i64 0),(.bool false)]:=by kernel_rfl
theorem zlg:uH Tryz.prog 203=some [(.bool false),(.bool false),(.bool false),(.bool false),(.bool false)]:=by kernel_rfl
theorem zkF:uH Tryz.prog 204=some [(.int .i64 0),(.int .i64 0),(.int .i64 0),(.int .i64 0),(.int .i64 0)]:=by kernel_rfl
theorem zdT:uH Tryz.prog 208=some [(.int .i64 0),(.int .i64 0)]:=by kernel_rfl
theorem zdV:uH Tryz.prog 212=some [(.int .i64 0),(.int .i64 0)]:=by kernel_rfl
theorem zdl:uH Tryz.prog 25=some [(.slice none 0 0),(.bool false)]:=by kernel_rfl
theorem ZQ:uH Tryz.prog 3=some [(.int .i64 0)]:=by kernel_rfl
theorem zlS:uH Tryz.prog 30=some [(.slice none 0 0)]:=by kernel_rfl
theorem VU:uH Tryz.prog 34=some [(.int .i64 0),(.int .i64 0),(.int .i64 0),(.int .i64 0)]:=by kernel_rfl
theorem zlB:uH Tryz.prog 4=some [(.bool false)]:=by kernel_rfl
theorem zbb:uH Tryz.prog 47=some [(.slice none 0 0)]:=by kernel_rfl
theorem ya:uH Tryz.prog 77=some [(.slice none 0 0),(.int .i64 0),(.int .i64 0)]:=by kernel_rfl
theorem zdp:uH Tryz.prog 82=some [(.slice none 0 0)]:=by kernel_rfl
theorem xf:uH Tryz.prog 89=some [(.int .i64 0),(.int .i64 0)]:=by kernel_rfl
theorem Vu:uH Tryz.prog 90=some [(.slice none 0 0)]:=by kernel_rfl
theorem xC:uH Tryz.prog 94=some [(.slice none 0 0)]:=by kernel_rfl
theorem mixed:Tryz.prog.follows .mixedOrders=true:=by kernel_rfl
theorem zaK {v1:Value} {code_0:(List UInt8)} {κ:((List UInt8)×Int)→Prop} (hF:Fr [] F w0) (hv1:Sl Vy F w0 v1 code_0) (h:X1 code_0 κ) :
  Cl Tryz.prog 50 #[v1] w0 [] F κ (fun r (u:Nat×Value)=>.pointer (some ⟨u.1,0,none⟩)) (fun r u=>[zc u.1 [u.2,(I r.2)] 131,xu Vy u.2 r.1]):=by
 refine eS hF Tryz.func50 Tryz.ntmps50 h ?_;clear h hF;let JJ:=Jn 11 [] F w0;refine y0 ?_;refine ma ?_;refine y1 ?_;refine zZ (σ:=(List UInt8)) (fun xs68 a w=>∃ (v67:Value),JJ [(0,v67)] [xu Vy v67 xs68] a w) ?_ ?_
 ·intro k71;refine y0 ?_;refine mv ?_;refine zJ st zde 0 (zb hv1) ?_;refine uv st ?_;refine y1 ?_;refine zj ?_ ?_
  ·refine zr ?_;refine mv ?_;refine jD 0 rfl hv1 ?_;refine stw (Xy (I:=0) (J:=2000) 0 zde ?_);intro v3 xs4;refine ma ?_;refine zA ?_;exact zP xs4 (jE v3 [0])
  ·refine jO ?_;exact zP code_0 (fun a w hE hm=>⟨v1,hE.sub g1,(hm.snote 0 rfl hv1).pick [0] rfl⟩)
 ·rintro xs68 a w ⟨v67,hE,hm⟩ h;refine jB hE hm h ?_;clear hE hm h;refine y0 ?_;refine mv ?_;refine ZP 0 rfl ?_;rintro a72 l73 q74 rfl;refine jF st (cells:=[.slice a72 l73 q74,I 0]) (bqi rfl) zl0 ?_;refine stw (jV [.slice a72 l73 q74,I 0] ?_);intro b75;refine ma ?_;refine y3 ?_;exact jj Tryz.results50 (xs68,0) (b75,.slice a72 l73 q74) (ju rfl) (fun w m=>zN.ofB m [0,1] rfl)
theorem zu {b1:Nat} {v2:Value} {r_0_b:(List UInt8)} {r_0_p n_1:Int} {κ:(Int×Int)→Prop} (hF:Fr [zc b1 [v2,(I r_0_p)] 131] F w0) (hg:x5 [zc b1 [v2,(I r_0_p)] 131] F w0) (hv2:Sl Vy F w0 v2 r_0_b) (h:zq r_0_b r_0_p n_1 κ) :
  Cl Tryz.prog 52 #[(pp b1),(I n_1)] w0 [zc b1 [v2,(I r_0_p)] 131] F κ (fun r (u:Unit)=>(I r.1)) (fun r u=>[zc b1 [v2,(I r.2)] 131]):=by
 refine yw (args:=[pp b1,I n_1]) [zc b1 [v2,I r_0_p] 131] hF hg Tryz.func52 rfl Tryz.ntmps52 rfl h ?_;clear h hF hg;let JJ:=Jn 99 [zc b1 [v2,I r_0_p] 131] F w0;refine y0 ?_;refine ma ?_;refine y2 ?_;refine mv ?_;refine mv ?_;refine jW st ?_;refine zw st zeM ?_;refine zm st (v:=(I r_0_p)) 0 ty3 ?_;refine zU st ?_;intro t5;refine jW st ?_;refine zw st zeM ?_;refine stw (zT (cs':=[v2,I t5]) 0 ty3 ?_);refine y9 ?_;refine zZ (σ:=Bool) (fun t66=>JJ [(0,pp b1),(1,I n_1),(24,.bool t66)] [zc b1 [v2,I t5] 131,zl w0 F]) ?_ ?_
 ·intro k67;refine zr ?_;refine mv ?_;refine z7 st ?_;refine mv ?_;refine xd (dj:=17) rfl ?_ ?_
  ·refine ss ?_;refine ss ?_;refine ss ?_;refine ss ?_;refine ss ?_;refine ss ?_;refine zS st ?_;refine zA ?_;exact lj [0,1]
  ·refine zt (zO rfl rfl) ?_;refine jW (zO rfl rfl) ?_;refine zw (zO rfl rfl) US ?_;refine zm (zO rfl rfl) (v:=v2) 0 zgR ?_;refine zJ (zO rfl rfl) zde 1 (zb hv2) ?_;refine jH (zO rfl rfl) xW ?_;refine zM st ?_;refine zA ?_;exact lj [0,1]
 ·rintro t66;refine nxj ?_;refine zj ?_ ?_
  ·refine y0 ?_;refine ma ?_;refine y6 ?_;exact jj Tryz.results52 (0,t5) () (ju rfl) (fun w m=>zN.ofB m [0] rfl)
  ·refine y8 ?_;refine mv ?_;refine jW st ?_;refine zw st zeM ?_;refine zm st (v:=(I t5)) 0 ty3 ?_;refine yR st ?_;intro t68;refine ma ?_;refine y4 ?_;refine mv ?_;refine mv ?_;refine jW st ?_;refine zw st US ?_;refine zm st (v:=v2) 0 zgR ?_;refine zJ st zde 1 (zb hv2) ?_;refine z7 st ?_;refine y1 ?_;refine zj ?_ ?_
   ·refine y0 ?_;refine mv ?_;refine jW st ?_;refine zw st US ?_;refine zm st (v:=v2) 0 zgR ?_;refine mv ?_;refine zF st 1 (zb hv2) zde ?_;intro e69 h70;refine jr st (enc:=zcD) (u:=(.int .u8 (e69.toNat:Int))) 1 (zb hv2) zfa h70 ty5 ?_;refine zgj st zmv xW ?_;refine mv ?_;refine Vp st ?_;intro t71;refine ma ?_;refine y6 ?_;exact jj Tryz.results52 (t71,t5) () (ju rfl) (fun w m=>zN.ofB m [0] rfl)
   ·refine jO (zX (jw ?_));refine xN mixed 46 rfl [zc b1 [v2,I t5] 131,zl w0 F] ?_;refine zt (dI 0) ?_;refine jW (dI 1) ?_;refine zw (dI 2) US ?_;refine zm (dI 3) (v:=v2) 0 zgR ?_;refine zt (dI 4) ?_;refine zt (dI 5) ?_;refine jW (dI 6) ?_;refine zw (dI 7) US ?_;refine zm (dI 8) (v:=v2) 0 zgR ?_;refine zJ (dI 9) zde 1 (zb hv2) ?_;refine Vp (dI 10) ?_;intro t72;refine zF (dI 11) 1 (zb hv2) zde ?_;intro e73 h74;refine jr (dI 12) (enc:=zcD) (u:=(.int .u8 (e73.toNat:Int))) 1 (zb hv2) zfa h74 ty5 ?_;refine zgj (dI 13) zmv xW ?_;refine zbQ (dI 14) ?_;intro t75;refine zt (dI 15) ?_;refine jW (dI 16) ?_;refine zw (dI 17) US ?_;refine zm (dI 18) (v:=v2) 0 zgR ?_;refine zt (dI 19) ?_;refine zbQ (dI 20) ?_;intro t76;refine zU (dI 21) ?_;intro t77;refine zt (dI 22) ?_;refine jW (dI 23) ?_;refine zw (dI 24) US ?_;refine zm (dI 25) (v:=v2) 0 zgR ?_;refine zJ (dI 26) zde 1 (zb hv2) ?_;refine Vp (dI 27) ?_;intro t78;refine zF (dI 28) 1 (zb hv2) zde ?_;intro e79 h80;refine jr (dI 29) (enc:=zcD) (u:=(.int .u8 (e79.toNat:Int))) 1 (zb hv2) zfa h80 ty5 ?_;refine zgj (dI 30) zmv xW ?_;refine zbQ (dI 31) ?_;intro t81;refine zU (dI 32) ?_;intro t82;refine zt (dI 33) ?_;refine zbQ (dI 34) ?_;intro t83;refine zU (dI 35) ?_;intro t84;refine zt (dI 36) ?_;refine zt (dI 37) ?_;refine jW (dI 38) ?_;refine zw (dI 39) US ?_;refine zm (dI 40) (v:=v2) 0 zgR ?_;refine zJ (dI 41) zde 1 (zb hv2) ?_;refine zhY (dI 42) ?_;intro t85;refine zbQ (dI 43) ?_;intro t86;refine zU (dI 44) ?_;intro t87;refine xe (dI 45) ?_;refine jp (by kernel_rfl) ?_;refine zX (jw (zr ?_));refine mv ?_;refine mv ?_;refine zhY st ?_;intro t88;refine zlN st ?_;intro t89;refine ma ?_;refine y2 ?_;refine mv ?_;refine mv ?_;refine Vp st ?_;intro t90;refine ma ?_;refine y3 ?_;exact jj Tryz.results52 (t90,t5) () (ju rfl) (fun w m=>zN.ofB m [0] rfl)
theorem yf {b1:Nat} {v2:Value} {r_0_b:(List UInt8)} {r_0_p n_1:Int} {κ:(Bool×Int)→Prop} (hF:Fr [zc b1 [v2,(I r_0_p)] 131] F w0) (hg:x5 [zc b1 [v2,(I r_0_p)] 131] F w0) (hv2:Sl Vy F w0 v2 r_0_b) (h:xc r_0_b r_0_p n_1 κ) :
  Cl Tryz.prog 97 #[(pp b1),(I n_1)] w0 [zc b1 [v2,(I r_0_p)] 131] F κ (fun r (u:Unit)=>(.bool r.1)) (fun r u=>[zc b1 [v2,(I r.2)] 131]):=by
 refine yw (args:=[pp b1,I n_1]) [zc b1 [v2,I r_0_p] 131] hF hg Tryz.func97 rfl Tryz.ntmps97 rfl h ?_;clear h hF hg;let JJ:=Jn 15 [zc b1 [v2,I r_0_p] 131] F w0;refine y0 ?_;refine ma ?_;refine y1 ?_;refine zZ (σ:=(Int×Bool)) (fun (t68,t69)=>JJ [(4,.bool t69)] [zc b1 [v2,I t68] 131,zl w0 F]) ?_ ?_
 ·intro k70;refine zr ?_;refine mv ?_;refine uv st ?_;refine mv ?_;refine xd (dj:=7) rfl ?_ ?_
  ·refine zt (zO rfl rfl) ?_;refine zt (zO rfl rfl) ?_;refine Ut rfl rfl (zR (M0:=[zc b1 [v2,I r_0_p] 131]) Tryz.call52 (by intro w m h;exact rf (fun _ _=>(zz zG zK)) (zu (r_0_b:=r_0_b) (r_0_p:=r_0_p) (n_1:=n_1) zk m.given (m.qM 0 hv2) h)) ?_);rintro ⟨r5,r6⟩ _;refine zt (zO rfl rfl) ?_;refine yR (zO rfl rfl) ?_;intro t7;refine jH (zO rfl rfl) xW ?_;refine zS st ?_;refine ma ?_;refine zA ?_;exact lj [0,1]
  ·refine ss ?_;refine ss ?_;refine ss ?_;refine ss ?_;refine ss ?_;refine ss ?_;refine zM st ?_;refine ma ?_;refine zA ?_;exact lj [0,1]
 ·rintro ⟨t68,t69⟩;refine nxj ?_;refine uA ?_;exact jj Tryz.results97 (t69,t68) () (ju rfl) (fun w m=>zN.ofB m [0] rfl)
theorem u9 {n_0:Int} {κ:Int→Prop} (hF:Fr [] F w0) (h:uz n_0 κ) :
  Cl Tryz.prog 119 #[(I n_0)] w0 [] F κ (fun r (u:Unit)=>(I r)) (fun r u=>[]):=by
 refine Xx (args:=[I n_0]) [] hF (x5.nil _ _) Tryz.func119 rfl Tryz.ntmps119 rfl h ?_;clear h hF;let JJ:=Jn 11 [] F w0;refine y0 ?_;refine ma ?_;refine y4 ?_;refine mv ?_;refine y5 ?_;refine zZ (σ:=Bool) (fun t61=>JJ [(3,I n_0),(4,.bool t61)] []) ?_ ?_
 ·intro k62;refine y0 ?_;refine jH st xW ?_;refine ma ?_;refine y1 ?_;refine zj ?_ ?_
  ·refine jO ?_;exact lj []
  ·refine zr ?_;refine jH st xW ?_;refine ma ?_;refine zA ?_;exact lj []
 ·rintro t61;refine nxj ?_;refine zj ?_ ?_
  ·refine y0 ?_;refine ma ?_;refine y24 ?_;exact lu Tryz.results119
  ·refine y0 ?_;refine jH st xW ?_;refine ma ?_;refine y1 ?_;refine zj ?_ ?_
   ·refine y0 ?_;refine ma ?_;refine y24 ?_;exact lu Tryz.results119
   ·refine y0 ?_;refine jH st xW ?_;refine ma ?_;refine y1 ?_;refine zj ?_ ?_
    ·refine y0 ?_;refine ma ?_;refine y24 ?_;exact lu Tryz.results119
    ·refine jO (Zl (zX (jw (zr ?_))));refine ma ?_;refine y3 ?_;exact lu Tryz.results119
theorem ze4 {b1:Nat} {v2:Value} {r_0_b:(List UInt8)} {r_0_p top_1 n_2:Int} {κ:(zg×Int)→Prop} (hF:Fr [zc b1 [v2,(I r_0_p)] 131] F w0) (hg:x5 [zc b1 [v2,(I r_0_p)] 131] F w0) (hv2:Sl Vy F w0 v2 r_0_b) (h:Ud r_0_b r_0_p top_1 n_2 κ) :
  Cl Tryz.prog 195 #[(pp b1),(I top_1),(I n_2)] w0 [zc b1 [v2,(I r_0_p)] 131] F κ (fun r (u:Unit)=>(.agg #[(I r.1.xLo),(I r.1.xHi)])) (fun r u=>[zc b1 [v2,(I r.2)] 131]):=by
 refine yw (args:=[pp b1,I top_1,I n_2]) [zc b1 [v2,I r_0_p] 131] hF hg Tryz.func195 rfl Tryz.ntmps195 rfl h ?_;clear h hF hg;let JJ:=Jn 68 [zc b1 [v2,I r_0_p] 131] F w0;refine y0 ?_;refine stw (jg [I 0,I 0] xf ?_);intro b5;refine y2 ?_;refine mv ?_;refine mv ?_;refine zU st ?_;intro t7;refine UY st ?_;refine pk' [1,0,2] ?_;refine stw (zR (M0:=[zc b1 [v2,I r_0_p] 131]) Tryz.call52 (by intro w m h;exact rf (fun _ _=>(zz zG zK)) (zu (r_0_b:=r_0_b) (r_0_p:=r_0_p) (n_1:=(min 256 t7)) zk m.given (m.qM 1 hv2) h)) ?_);rintro ⟨r8,r9⟩ _;refine jF st (cells:=[I r8,I 0]) (bqi rfl) ZJ ?_;refine stw (jg [I 0,I 0] xf ?_);intro b10;refine stw (zT (cs':=[I r8,I 0]) 0 YR ?_);refine y1 ?_;refine zZ (σ:=(Int×Int)) (fun (t144,t145)=>JJ [(0,pp b1),(1,I top_1),(2,I n_2),(6,pp b5),(7,pp b10)] [zc b1 [v2,I t144] 131,zc b10 [I t145,I 0] 89,zc b5 [I 0,I 0] 89,zl w0 F]) ?_ ?_
 ·intro k146;refine zZ (σ:=(Int×Bool)) (fun (t74,t75)=>JJ [(0,pp b1),(1,I top_1),(2,I n_2),(6,pp b5),(7,pp b10),(20,.bool t75)] [zc b1 [v2,I t74] 131,zc b10 [I r8,I 0] 89,zc b5 [I 0,I 0] 89,zl w0 F]) ?_ ?_
  ·intro k76;refine zr ?_;refine mv ?_;refine uv st ?_;refine mv ?_;refine xd (dj:=16) rfl ?_ ?_
   ·refine zt (zO rfl rfl) ?_;refine pk' [1,0,2,3] ?_;refine Ut rfl rfl (zR (M0:=[zc b1 [v2,I r9] 131]) Tryz.call52 (by intro w m h;exact rf (fun _ _=>(zz zG zK)) (zu (r_0_b:=r_0_b) (r_0_p:=r9) (n_1:=2) zk m.given (m.qM 2 hv2) h)) ?_);rintro ⟨r12,r13⟩ _;refine jH (zO rfl rfl) xW ?_;refine zS st ?_;refine zA ?_;exact lj [0,1,2,3]
   ·refine ss ?_;refine ss ?_;refine ss ?_;refine zM st ?_;refine zA ?_;exact lj [1,0,2,3]
  ·rintro ⟨t74,t75⟩;refine nxj ?_;refine zj ?_ ?_
   ·refine ZT (σ:=(Int×Int)) (fun (t77,t78)=>JJ [(0,pp b1),(1,I top_1),(2,I n_2),(6,pp b5),(7,pp b10)] [zc b1 [v2,I t77] 131,zc b10 [I t78,I 0] 89,zc b5 [I 0,I 0] 89,zl w0 F]) ?_ ?_
    ·intro k79;refine uC mixed 10 rfl [zc b5 [I 0,I 0] 89,zl w0 F] ?_;intro Qd hP hQ;refine zt (dp 0 [2,3]) ?_;refine zw (dp 1 [2,3]) uK ?_;refine zt (dp 4 [2,3]) ?_;refine dtw 2 5 rfl rfl ?_ ?_
     ·refine zm xn (v:=(I r8)) 1 ty3 ?_;refine da [2,3] ?_;refine pk' [0,1,2,3] ?_;refine ziy (dp 3 [2,3]) ?_;refine d1 5 rfl (zR (M0:=[zc b1 [v2,I t74] 131]) Tryz.call52 (by intro w m h;exact rf (fun _ _=>(zz zG zK)) (zu (r_0_b:=r_0_b) (r_0_p:=t74) (n_1:=256) zk m.given (m.qM 2 hv2) h)) ?_);rintro ⟨r80,r81⟩ _;refine da [2,3] ?_;refine pk' [0,1,2,3] ?_;refine YO (dp 6 [2,3]) ?_;refine UY (dp 7 [2,3]) ?_;refine zw (dp 8 [2,3]) uK ?_;refine d1 9 rfl (zT (cs':=[I (min top_1 (w64 ((w64 (r8 * 256))+r80))),I 0]) 1 ty3 ?_);refine da [2,3] ?_;refine pk' [0,1,2,3] ?_;exact dj hQ [0,1,2,3]
     ·refine zR (vs:=[pp b1,I 256]) (M0:=[zc b1 [v2,I t74] 131]) Tryz.call52 (by intro w m h;exact rf (fun _ _=>(zz zG zK)) (zu (r_0_b:=r_0_b) (r_0_p:=t74) (n_1:=256) zk m.given (m.qM 2 hv2) h)) ?_;rintro ⟨r82,r83⟩ _;refine da [2,3] ?_;refine pk' [0,1,2,3] ?_;refine d1 2 rfl (zm xn (v:=(I r8)) 1 ty3 ?_);refine da [2,3] ?_;refine pk' [0,1,2,3] ?_;refine ziy (dp 3 [2,3]) ?_;refine YO (dp 6 [2,3]) ?_;refine UY (dp 7 [2,3]) ?_;refine zw (dp 8 [2,3]) uK ?_;refine d1 9 rfl (zT (cs':=[I (min top_1 (w64 ((w64 (r8 * 256))+r82))),I 0]) 1 ty3 ?_);refine da [2,3] ?_;refine pk' [0,1,2,3] ?_;exact dj hQ [0,1,2,3]
    ·rintro ⟨t77,t78⟩;refine nxj ?_;exact lj [0,1,2,3]
   ·refine jO ?_;exact lj [0,1,2,3]
 ·rintro ⟨t144,t145⟩;refine nxj ?_;refine zZ (σ:=(Int×Int)) (fun (t147,t148)=>JJ [(0,pp b1),(1,I top_1),(2,I n_2),(6,pp b5),(7,pp b10)] [zc b1 [v2,I t147] 131,zc b10 [I t145,I t148] 89,zc b5 [I 0,I 0] 89,zl w0 F]) ?_ ?_
  ·intro k149;refine uC mixed 16 rfl [zc b5 [I 0,I 0] 89,zl w0 F] ?_;intro Qd hP hQ;let NN:=fun i l E L=>Nn 68 [zc b1 [v2,I r_0_p] 131] F w0 Tryz.prog (Uv Tryz.f195 [1,1,1,0]) Qd [zc b5 [I 0,I 0] 89,zl w0 F] i l ([(0,pp b1),(1,I top_1),(2,I n_2),(6,pp b5),(7,pp b10),(30,I top_1)]++E) (L++[zc b10 [I t145,I 0] 89,zc b5 [I 0,I 0] 89,zl w0 F]);have H60 (r150 r151 r152 r153:Int) (v154:Value) (r155 r156:Int):NN 6 #[Y,Y,Y,Y,Y,Y,Y,Y,Y,Y,Z,Z,Z,Z,Z,Z] [(32,I t145),(37,v154),(39,I r155)] [zc b1 [v2,I r156] 131,ze xI 3 v154 ([0,r150,r152,4096])] (zH ([0,r150,r152,4096]) r155 (fun e157=>k149 (r156,min top_1 (w64 (t145+e157))))):=by
    refine d1 10 rfl (zF xn 1 zf uW ?_);intro e157 h158;refine da [3,4] ?_;refine pk' [0,1,2,3,4] ?_;refine d1 11 rfl (jr xn (enc:=jU) (u:=(I e157)) 1 zf jk h158 ty3 ?_);refine da [3,4] ?_;refine pk' [0,2,3,4] ?_;refine YO (dp 12 [2,3]) ?_;refine UY (dp 13 [2,3]) ?_;refine zw (dp 14 [2,3]) xt ?_;refine d1 15 rfl (zT (cs':=[I t145,I (min top_1 (w64 (t145+e157)))]) 1 ty3 ?_);refine da [2,3] ?_;refine pk' [0,1,2,3] ?_;exact dj hQ [0,1,2,3]
   have H63 (r150 r151 r152 r153:Int):NN 8 #[Y,Y,Y,Y,Y,Y,Y,Z,Y,Z,Z,Z,Z,Z,Z,Z] [(38,pp b1),(32,I t145),(34,I r150),(36,I r152)] [zc b1 [v2,I r153] 131] (zq r_0_b r153 4 (fun (r155,r156)=>zH ([0,r150,r152,4096]) r155 (fun e157=>k149 (r156,min top_1 (w64 (t145+e157)))))):=by
    refine dtw 7 9 rfl rfl ?_ ?_
    ·refine jK (enc:=jU) (cells:=[I 0,I r150,I r152,I 4096]) ([0,r150,r152,4096]) jk (bqi rfl) uW ZQ ?_;intro v154;refine da [3,4] ?_;refine pk' [0,1,2,3,4] ?_;refine pk' [1,0,2,3,4] ?_;refine d1 9 rfl (zR (M0:=[zc b1 [v2,I r153] 131]) Tryz.call52 (by intro w m h;exact rf (fun _ _=>(zz zG zK)) (zu (r_0_b:=r_0_b) (r_0_p:=r153) (n_1:=4) zk m.given (m.qM 3 hv2) h)) ?_);rintro ⟨r155,r156⟩ _;exact rd [3,4] [0,1,2,3,4] (H60 r150 r151 r152 r153 v154 r155 r156)
    ·refine zR (vs:=[pp b1,I 4]) (M0:=[zc b1 [v2,I r153] 131]) Tryz.call52 (by intro w m h;exact rf (fun _ _=>(zz zG zK)) (zu (r_0_b:=r_0_b) (r_0_p:=r153) (n_1:=4) zk m.given (m.qM 2 hv2) h)) ?_;rintro ⟨r159,r160⟩ _;refine da [2,3] ?_;refine pk' [0,1,2,3] ?_;refine d1 7 rfl (jK (enc:=jU) (cells:=[I 0,I r150,I r152,I 4096]) ([0,r150,r152,4096]) jk (bqi rfl) uW ZQ ?_);intro v161;exact rd [3,4] [1,0,2,3,4] (H60 r150 r151 r152 r153 v161 r159 r160)
   have H68 (r162 r163 r164 r165:Int) (v166:Value) (r167 r168:Int):NN 7 #[Y,Y,Z,Y,Y,Y,Y,Y,Y,Y,Z,Z,Z,Z,Z,Z] [(31,pp b10),(37,v166),(39,I r167)] [zc b1 [v2,I r168] 131,ze xI 3 v166 ([0,r162,r164,4096])] (zH ([0,r162,r164,4096]) r167 (fun e157=>k149 (r168,min top_1 (w64 (t145+e157))))):=by
    refine dtw 2 10 rfl rfl ?_ ?_
    ·refine zm xn (v:=(I t145)) 2 ty3 ?_;exact rd [3,4] [0,1,2,3,4] (H60 r162 r163 r164 r165 v166 r167 r168)
    ·refine zF xn 1 zf uW ?_;intro e169 h170;refine da [3,4] ?_;refine pk' [0,1,2,3,4] ?_;refine dtw 2 11 rfl rfl ?_ ?_
     ·refine zm xn (v:=(I t145)) 2 ty3 ?_;refine da [3,4] ?_;refine pk' [0,1,2,3,4] ?_;refine d1 11 rfl (jr xn (enc:=jU) (u:=(I e169)) 1 zf jk h170 ty3 ?_);refine da [3,4] ?_;refine pk' [0,2,3,4] ?_;refine YO (dp 12 [2,3]) ?_;refine UY (dp 13 [2,3]) ?_;refine zw (dp 14 [2,3]) xt ?_;refine d1 15 rfl (zT (cs':=[I t145,I (min top_1 (w64 (t145+e169)))]) 1 ty3 ?_);refine da [2,3] ?_;refine pk' [0,1,2,3] ?_;exact dj hQ [0,1,2,3]
     ·refine jr xn (enc:=jU) (u:=(I e169)) 1 zf jk h170 ty3 ?_;refine da [3,4] ?_;refine pk' [0,2,3,4] ?_;refine d1 2 rfl (zm xn (v:=(I t145)) 1 ty3 ?_);refine da [2,3] ?_;refine pk' [0,1,2,3] ?_;refine YO (dp 12 [2,3]) ?_;refine UY (dp 13 [2,3]) ?_;refine zw (dp 14 [2,3]) xt ?_;refine d1 15 rfl (zT (cs':=[I t145,I (min top_1 (w64 (t145+e169)))]) 1 ty3 ?_);refine da [2,3] ?_;refine pk' [0,1,2,3] ?_;exact dj hQ [0,1,2,3]
   refine zt (dp 0 [2,3]) ?_;refine zw (dp 1 [2,3]) uK ?_;refine zt (dp 3 [2,3]) ?_;refine zt (dp 5 [2,3]) ?_;refine zt (dp 8 [2,3]) ?_;refine dtw 2 4 rfl rfl ?_ ?_
   ·refine zm xn (v:=(I t145)) 1 ty3 ?_;refine da [2,3] ?_;refine pk' [0,1,2,3] ?_;refine d1 4 rfl (zR (M0:=[zc b1 [v2,I t144] 131]) Tryz.call52 (by intro w m h;exact rf (fun _ _=>(zz zG zK)) (zu (r_0_b:=r_0_b) (r_0_p:=t144) (n_1:=4) zk m.given (m.qM 2 hv2) h)) ?_);rintro ⟨r150,r151⟩ _;refine da [2,3] ?_;refine pk' [0,1,2,3] ?_;refine d1 6 rfl (zR (M0:=[zc b1 [v2,I r151] 131]) Tryz.call52 (by intro w m h;exact rf (fun _ _=>(zz zG zK)) (zu (r_0_b:=r_0_b) (r_0_p:=r151) (n_1:=256) zk m.given (m.qM 2 hv2) h)) ?_);rintro ⟨r152,r153⟩ _;exact rd [2,3] [0,1,2,3] (H63 r150 r151 r152 r153)
   ·refine zR (vs:=[pp b1,I 4]) (M0:=[zc b1 [v2,I t144] 131]) Tryz.call52 (by intro w m h;exact rf (fun _ _=>(zz zG zK)) (zu (r_0_b:=r_0_b) (r_0_p:=t144) (n_1:=4) zk m.given (m.qM 2 hv2) h)) ?_;rintro ⟨r162,r163⟩ _;refine da [2,3] ?_;refine pk' [0,1,2,3] ?_;refine dtw 2 6 rfl rfl ?_ ?_
    ·refine zm xn (v:=(I t145)) 1 ty3 ?_;refine da [2,3] ?_;refine pk' [0,1,2,3] ?_;refine d1 6 rfl (zR (M0:=[zc b1 [v2,I r163] 131]) Tryz.call52 (by intro w m h;exact rf (fun _ _=>(zz zG zK)) (zu (r_0_b:=r_0_b) (r_0_p:=r163) (n_1:=256) zk m.given (m.qM 2 hv2) h)) ?_);rintro ⟨r152,r153⟩ _;exact rd [2,3] [0,1,2,3] (H63 r162 r163 r152 r153)
    ·refine zR (vs:=[pp b1,I 256]) (M0:=[zc b1 [v2,I r163] 131]) Tryz.call52 (by intro w m h;exact rf (fun _ _=>(zz zG zK)) (zu (r_0_b:=r_0_b) (r_0_p:=r163) (n_1:=256) zk m.given (m.qM 2 hv2) h)) ?_;rintro ⟨r164,r165⟩ _;refine da [2,3] ?_;refine pk' [0,1,2,3] ?_;refine UH (i:=2) (j:=7) (l:=9) rfl rfl rfl (by kernel_rfl) ?_ ?_ ?_
     ·intro o ho;cases ho;refine zm xn (v:=(I t145)) 1 ty3 ?_;exact rd [2,3] [0,1,2,3] (H63 r162 r163 r164 r165)
     ·intro o ho;cases ho;refine jK (enc:=jU) (cells:=[I 0,I r162,I r164,I 4096]) ([0,r162,r164,4096]) jk (bqi rfl) uW ZQ ?_;intro v166;refine da [3,4] ?_;refine pk' [0,1,2,3,4] ?_;refine dtw 2 9 rfl rfl ?_ ?_
      ·refine zm xn (v:=(I t145)) 2 ty3 ?_;refine da [3,4] ?_;refine pk' [0,1,2,3,4] ?_;refine pk' [1,0,2,3,4] ?_;refine d1 9 rfl (zR (M0:=[zc b1 [v2,I r165] 131]) Tryz.call52 (by intro w m h;exact rf (fun _ _=>(zz zG zK)) (zu (r_0_b:=r_0_b) (r_0_p:=r165) (n_1:=4) zk m.given (m.qM 3 hv2) h)) ?_);rintro ⟨r155,r156⟩ _;exact rd [3,4] [0,1,2,3,4] (H60 r162 r163 r164 r165 v166 r155 r156)
      ·refine pk' [1,0,2,3,4] ?_;refine zR (vs:=[pp b1,I 4]) (M0:=[zc b1 [v2,I r165] 131]) Tryz.call52 (by intro w m h;exact rf (fun _ _=>(zz zG zK)) (zu (r_0_b:=r_0_b) (r_0_p:=r165) (n_1:=4) zk m.given (m.qM 3 hv2) h)) ?_;rintro ⟨r167,r168⟩ _;exact rd [3,4] [0,1,2,3,4] (H68 r162 r163 r164 r165 v166 r167 r168)
     ·intro o ho;cases ho;refine zR (vs:=[pp b1,I 4]) (M0:=[zc b1 [v2,I r165] 131]) Tryz.call52 (by intro w m h;exact rf (fun _ _=>(zz zG zK)) (zu (r_0_b:=r_0_b) (r_0_p:=r165) (n_1:=4) zk m.given (m.qM 2 hv2) h)) ?_;rintro ⟨r171,r172⟩ _;refine da [2,3] ?_;refine pk' [0,1,2,3] ?_;refine dtw 2 7 rfl rfl ?_ ?_
      ·refine zm xn (v:=(I t145)) 1 ty3 ?_;refine da [2,3] ?_;refine pk' [0,1,2,3] ?_;refine d1 7 rfl (jK (enc:=jU) (cells:=[I 0,I r162,I r164,I 4096]) ([0,r162,r164,4096]) jk (bqi rfl) uW ZQ ?_);intro v161;exact rd [3,4] [1,0,2,3,4] (H60 r162 r163 r164 r165 v161 r171 r172)
      ·refine jK (enc:=jU) (cells:=[I 0,I r162,I r164,I 4096]) ([0,r162,r164,4096]) jk (bqi rfl) uW ZQ ?_;intro v173;exact rd [3,4] [1,0,2,3,4] (H68 r162 r163 r164 r165 v173 r171 r172)
  ·rintro ⟨t147,t148⟩;refine nxj ?_;refine y10 ?_;refine mv ?_;refine mv ?_;refine stw (zR (M0:=[zc b1 [v2,I t147] 131]) Tryz.call97 (by intro w m h;exact rf (fun _ _=>(zz zG zK)) (yf (r_0_b:=r_0_b) (r_0_p:=t147) (n_1:=n_2) zk m.given (m.qM 2 hv2) h)) ?_);rintro ⟨r174,r175⟩ _;refine y1 ?_;refine zj ?_ ?_
   ·refine zZ (σ:=(Int×Int×Int)) (fun (t176,t177,t178)=>JJ [(6,pp b5)] [zc b1 [v2,I t176] 131,zc b5 [I t177,I t178] 89,zl w0 F]) ?_ ?_
    ·intro k179;refine uC mixed 20 rfl [zc b10 [I t145,I t148] 89,zl w0 F] ?_;intro Qd hP hQ;let NN:=Nn 68 [zc b1 [v2,I r_0_p] 131] F w0 Tryz.prog (Uv Tryz.f195 [1,1,1,1,0,1,0,0]) Qd [zc b10 [I t145,I t148] 89,zl w0 F];have H84 (v180:Value) (r181 r182:Int):NN 3 #[Y,Y,Y,Y,Y,Y,Y,Y,Y,Y,Y,Y,Y,Y,Y,Y,Y,Z,Z,Z] [(6,pp b5),(62,v180),(64,I r181)] [zc b1 [v2,I r182] 131,ze zd 89 v180 ([zg.mk (w64 (t148+1)) t148,zg.mk (-1) t148,zg.mk t145 (w64 (top_1+1))]),zc b10 [I t145,I t148] 89,zc b5 [I 0,I 0] 89,zl w0 F] (zH ([zg.mk (w64 (t148+1)) t148,zg.mk (-1) t148,zg.mk t145 (w64 (top_1+1))]) r181 (fun e183=>k179 (r182,e183.xLo,e183.xHi))):=by
      refine d1 17 rfl (zF xn 1 zf jG ?_);intro e183 h184;refine da [2,4] ?_;refine pk' [0,1,2,3,4] ?_;refine d1 18 rfl (jr xn (enc:=zW) (u:=(.agg #[I e183.xLo,I e183.xHi])) 1 zf zy h184 YR ?_);refine da [2,4] ?_;refine pk' [0,2,3,4] ?_;refine d1 19 rfl (zT (cs':=[I e183.xLo,I e183.xHi]) 2 YR ?_);refine da [1,3] ?_;refine pk' [0,1,2,3] ?_;exact dj hQ [0,2,3]
     refine zw (dp 0 [1,3]) xt ?_;refine zm (dp 1 [1,3]) (v:=(I t148)) 0 ty3 ?_;refine YO (dp 2 [1,3]) ?_;refine zw (dp 3 [1,3]) xt ?_;refine zm (dp 4 [1,3]) (v:=(I t148)) 0 ty3 ?_;refine jF (dp 5 [1,3]) (cells:=[I (w64 (t148+1)),I t148]) (bqi rfl) ZJ ?_;refine zw (dp 6 [1,3]) xt ?_;refine zm (dp 7 [1,3]) (v:=(I t148)) 0 ty3 ?_;refine jF (dp 8 [1,3]) (cells:=[I (-1),I t148]) (bqi rfl) ZJ ?_;refine zw (dp 9 [1,3]) uK ?_;refine zm (dp 10 [1,3]) (v:=(I t145)) 0 ty3 ?_;refine zt (dp 11 [1,3]) ?_;refine YO (dp 12 [1,3]) ?_;refine jF (dp 13 [1,3]) (cells:=[I t145,I (w64 (top_1+1))]) (bqi rfl) ZJ ?_;refine zt (dp 15 [1,3]) ?_;refine dtw 14 16 rfl rfl ?_ ?_
     ·refine jK (enc:=zW) (cells:=[I (w64 (t148+1)),I t148,I (-1),I t148,I t145,I (w64 (top_1+1))]) ([zg.mk (w64 (t148+1)) t148,zg.mk (-1) t148,zg.mk t145 (w64 (top_1+1))]) zy (bqi rfl) jG xf ?_;intro v180;refine da [2,4] ?_;refine pk' [0,1,2,3,4] ?_;refine pk' [1,0,2,3,4] ?_;refine d1 16 rfl (zR (M0:=[zc b1 [v2,I r175] 131]) Tryz.call52 (by intro w m h;exact rf (fun _ _=>(zz zG zK)) (zu (r_0_b:=r_0_b) (r_0_p:=r175) (n_1:=3) zk m.given (m.qM 3 hv2) h)) ?_);rintro ⟨r181,r182⟩ _;exact rd [2,4] [0,1,2,3,4] (H84 v180 r181 r182)
     ·refine zR (vs:=[pp b1,I 3]) (M0:=[zc b1 [v2,I r175] 131]) Tryz.call52 (by intro w m h;exact rf (fun _ _=>(zz zG zK)) (zu (r_0_b:=r_0_b) (r_0_p:=r175) (n_1:=3) zk m.given (m.qM 2 hv2) h)) ?_;rintro ⟨r185,r186⟩ _;refine da [1,3] ?_;refine pk' [0,1,2,3] ?_;refine d1 14 rfl (jK (enc:=zW) (cells:=[I (w64 (t148+1)),I t148,I (-1),I t148,I t145,I (w64 (top_1+1))]) ([zg.mk (w64 (t148+1)) t148,zg.mk (-1) t148,zg.mk t145 (w64 (top_1+1))]) zy (bqi rfl) jG xf ?_);intro v187;exact rd [2,4] [1,0,2,3,4] (H84 v187 r185 r186)
    ·rintro ⟨t176,t177,t178⟩;refine nxj ?_;refine uA (xK ?_);exact jj Tryz.results195 (zg.mk t177 t178,t176) () (ZA 1 rfl rfl YR rfl) (fun w m=>zN.ofB m [0] rfl)
   ·refine y8 ?_;refine zm st (v:=(.agg #[I t145,I t148])) 1 YR ?_;refine stw (zT (cs':=[I t145,I t148]) 2 YR ?_);refine y3 ?_;exact jj Tryz.results195 (zg.mk t145 t148,r175) () (ZA 2 rfl rfl YR rfl) (fun w m=>zN.ofB m [0] rfl)
theorem zaL {b1:Nat} {v2:Value} {r_0_b:(List UInt8)} {r_0_p n_1:Int} {κ:(jJ×Int)→Prop} (hF:Fr [zc b1 [v2,(I r_0_p)] 131] F w0) (hg:x5 [zc b1 [v2,(I r_0_p)] 131] F w0) (hv2:Sl Vy F w0 v2 r_0_b) (h:X2 r_0_b r_0_p n_1 κ) :
  Cl Tryz.prog 152 #[(pp b1),(I n_1)] w0 [zc b1 [v2,(I r_0_p)] 131] F κ (fun r (u:Unit)=>(.agg #[(I r.1.xField),(I r.1.xLo),(I r.1.xHi),(.bool r.1.xNot)])) (fun r u=>[zc b1 [v2,(I r.2)] 131]):=by
 refine yw (args:=[pp b1,I n_1]) [zc b1 [v2,I r_0_p] 131] hF hg Tryz.func152 rfl Tryz.ntmps152 rfl h ?_;clear h hF hg;let JJ:=Jn 83 [zc b1 [v2,I r_0_p] 131] F w0;refine y0 ?_;refine stw (jg [I 0,I 0,I 0,.bool false] Ys ?_);intro b5;refine y2 ?_;refine mv ?_;refine pk' [1,0,2] ?_;refine stw (zR (M0:=[zc b1 [v2,I r_0_p] 131]) Tryz.call52 (by intro w m h;exact rf (fun _ _=>(zz zG zK)) (zu (r_0_b:=r_0_b) (r_0_p:=r_0_p) (n_1:=4) zk m.given (m.qM 1 hv2) h)) ?_);rintro ⟨r7,r8⟩ _;refine mv ?_;refine stw (zR (M0:=[zc b1 [v2,I r8] 131]) Tryz.call52 (by intro w m h;exact rf (fun _ _=>(zz zG zK)) (zu (r_0_b:=r_0_b) (r_0_p:=r8) (n_1:=4) zk m.given (m.qM 1 hv2) h)) ?_);rintro ⟨r9,r10⟩ _;refine jH st xW ?_;refine jF st (cells:=[I r7,I 0,I 0,.bool (decide (r9=0))]) (bqi rfl) zlJ ?_;refine stw (jg [I 0,I 0,I 0,.bool false] Ys ?_);intro b11;refine stw (zT (cs':=[I r7,I 0,I 0,.bool (decide (r9=0))]) 0 U5 ?_);refine y2 ?_;refine zw st yX ?_;refine zm st (v:=(I r7)) 0 ty3 ?_;refine stw (zh Tryz.call119 (by intro w m h;exact rf0 (u9 (n_0:=r7) zk h)) ?_);rintro r13 _;refine ma ?_;refine y2 ?_;refine mv ?_;refine mv ?_;refine pk' [1,0,2,3] ?_;refine stw (zR (M0:=[zc b1 [v2,I r10] 131]) Tryz.call195 (by intro w m h;exact rf (fun _ _=>(zz zG zK)) (ze4 (r_0_b:=r_0_b) (r_0_p:=r10) (top_1:=r13) (n_2:=0) zk m.given (m.qM 2 hv2) h)) ?_);rintro ⟨r14,r15⟩ _;refine stw (jg [I 0,I 0] xf ?_);intro b16;refine stw (zT (cs':=[I r14.xLo,I r14.xHi]) 0 YR ?_);refine y1 ?_;refine zZ (σ:=(Int×Int×Int)) (fun (t152,t153,t154)=>JJ [(0,pp b1),(1,I n_1),(4,pp b5),(5,pp b11),(6,I r13),(7,pp b16)] [zc b1 [v2,I t152] 131,zc b16 [I t153,I t154] 89,zc b11 [I r7,I 0,I 0,.bool (decide (r9=0))] 165,zc b5 [I 0,I 0,I 0,.bool false] 165,zl w0 F]) ?_ ?_
 ·intro k155;refine zZ (σ:=(Int×Bool)) (fun (t80,t81)=>JJ [(0,pp b1),(1,I n_1),(4,pp b5),(5,pp b11),(6,I r13),(7,pp b16),(27,.bool t81)] [zc b1 [v2,I t80] 131,zc b16 [I r14.xLo,I r14.xHi] 89,zc b11 [I r7,I 0,I 0,.bool (decide (r9=0))] 165,zc b5 [I 0,I 0,I 0,.bool false] 165,zl w0 F]) ?_ ?_
  ·intro k82;refine zr ?_;refine zw st yX ?_;refine zm st (v:=(I r7)) 2 ty3 ?_;refine z7 st ?_;refine mv ?_;refine xd (dj:=23) rfl ?_ ?_
   ·refine zt (zO rfl rfl) ?_;refine pk' [1,0,2,3,4] ?_;refine Ut rfl rfl (zR (M0:=[zc b1 [v2,I r15] 131]) Tryz.call52 (by intro w m h;exact rf (fun _ _=>(zz zG zK)) (zu (r_0_b:=r_0_b) (r_0_p:=r15) (n_1:=2) zk m.given (m.qM 3 hv2) h)) ?_);rintro ⟨r18,r19⟩ _;refine jH (zO rfl rfl) xW ?_;refine zS st ?_;refine zA ?_;exact lj [0,1,2,3,4]
   ·refine ss ?_;refine ss ?_;refine ss ?_;refine zM st ?_;refine zA ?_;exact lj [1,0,2,3,4]
  ·rintro ⟨t80,t81⟩;refine nxj ?_;refine zj ?_ ?_
   ·refine y0 ?_;refine mv ?_;refine stw (zR (M0:=[zc b1 [v2,I t80] 131]) Tryz.call52 (by intro w m h;exact rf (fun _ _=>(zz zG zK)) (zu (r_0_b:=r_0_b) (r_0_p:=t80) (n_1:=20) zk m.given (m.qM 3 hv2) h)) ?_);rintro ⟨r83,r84⟩ _;refine jF st (cells:=[I r83,I 0]) (bqi rfl) ZJ ?_;refine stw (zT (cs':=[I r83,I 0]) 1 YR ?_);refine y1 ?_;refine ZT (σ:=(Int×Int)) (fun (t85,t86)=>JJ [(0,pp b1),(1,I n_1),(4,pp b5),(5,pp b11),(6,I r13),(7,pp b16)] [zc b1 [v2,I t85] 131,zc b16 [I r83,I t86] 89,zc b11 [I r7,I 0,I 0,.bool (decide (r9=0))] 165,zc b5 [I 0,I 0,I 0,.bool false] 165,zl w0 F]) ?_ ?_
    ·intro k87;refine uC mixed 7 rfl [zc b11 [I r7,I 0,I 0,.bool (decide (r9=0))] 165,zc b5 [I 0,I 0,I 0,.bool false] 165,zl w0 F] ?_;intro Qd hP hQ;refine zw (dp 0 [2,3,4]) uK ?_;refine zt (dp 2 [2,3,4]) ?_;refine dtw 1 3 rfl rfl ?_ ?_
     ·refine zm xn (v:=(I r83)) 1 ty3 ?_;refine da [2,3,4] ?_;refine pk' [0,1,2,3,4] ?_;refine d1 3 rfl (zR (M0:=[zc b1 [v2,I r84] 131]) Tryz.call52 (by intro w m h;exact rf (fun _ _=>(zz zG zK)) (zu (r_0_b:=r_0_b) (r_0_p:=r84) (n_1:=8) zk m.given (m.qM 3 hv2) h)) ?_);rintro ⟨r88,r89⟩ _;refine da [2,3,4] ?_;refine pk' [0,1,2,3,4] ?_;refine YO (dp 4 [2,3,4]) ?_;refine zw (dp 5 [2,3,4]) xt ?_;refine d1 6 rfl (zT (cs':=[I r83,I (w64 (r83+r88))]) 1 ty3 ?_);refine da [2,3,4] ?_;refine pk' [0,1,2,3,4] ?_;exact dj hQ [0,1,2,3,4]
     ·refine zR (vs:=[pp b1,I 8]) (M0:=[zc b1 [v2,I r84] 131]) Tryz.call52 (by intro w m h;exact rf (fun _ _=>(zz zG zK)) (zu (r_0_b:=r_0_b) (r_0_p:=r84) (n_1:=8) zk m.given (m.qM 3 hv2) h)) ?_;rintro ⟨r90,r91⟩ _;refine da [2,3,4] ?_;refine pk' [0,1,2,3,4] ?_;refine d1 1 rfl (zm xn (v:=(I r83)) 1 ty3 ?_);refine da [2,3,4] ?_;refine pk' [0,1,2,3,4] ?_;refine YO (dp 4 [2,3,4]) ?_;refine zw (dp 5 [2,3,4]) xt ?_;refine d1 6 rfl (zT (cs':=[I r83,I (w64 (r83+r90))]) 1 ty3 ?_);refine da [2,3,4] ?_;refine pk' [0,1,2,3,4] ?_;exact dj hQ [0,1,2,3,4]
    ·rintro ⟨t85,t86⟩;refine nxj ?_;exact lj [0,1,2,3,4]
   ·refine jO ?_;exact lj [0,1,2,3,4]
 ·rintro ⟨t152,t153,t154⟩;refine nxj ?_;refine zZ (σ:=(Int×Int×Int)) (fun (t241,t242,t243)=>JJ [(0,pp b1),(1,I n_1),(4,pp b5),(5,pp b11),(6,I r13),(7,pp b16)] [zc b1 [v2,I t241] 131,zc b16 [I t242,I t243] 89,zc b11 [I r7,I 0,I 0,.bool (decide (r9=0))] 165,zc b5 [I 0,I 0,I 0,.bool false] 165,zl w0 F]) ?_ ?_
  ·intro k244;refine y0 ?_;refine mv ?_;refine stw (zR (M0:=[zc b1 [v2,I t152] 131]) Tryz.call52 (by intro w m h;exact rf (fun _ _=>(zz zG zK)) (zu (r_0_b:=r_0_b) (r_0_p:=t152) (n_1:=8) zk m.given (m.qM 3 hv2) h)) ?_);rintro ⟨r156,r157⟩ _;refine jH st xW ?_;refine y1 ?_;refine zj ?_ ?_
   ·refine ZT (σ:=(Int×Int×Int)) (fun (t158,t159,t160)=>JJ [(0,pp b1),(1,I n_1),(4,pp b5),(5,pp b11),(6,I r13),(7,pp b16)] [zc b1 [v2,I t158] 131,zc b16 [I t159,I t160] 89,zc b11 [I r7,I 0,I 0,.bool (decide (r9=0))] 165,zc b5 [I 0,I 0,I 0,.bool false] 165,zl w0 F]) ?_ ?_
    ·intro k161;refine uC mixed 15 rfl [zc b11 [I r7,I 0,I 0,.bool (decide (r9=0))] 165,zc b5 [I 0,I 0,I 0,.bool false] 165,zl w0 F] ?_;intro Qd hP hQ;let NN:=fun i l E L=>Nn 83 [zc b1 [v2,I r_0_p] 131] F w0 Tryz.prog (Uv Tryz.f152 [1,1,1,1,1,0,1,0]) Qd [zc b11 [I r7,I 0,I 0,.bool (decide (r9=0))] 165,zc b5 [I 0,I 0,I 0,.bool false] 165,zl w0 F] i l ([(0,pp b1),(1,I n_1),(4,pp b5),(5,pp b11),(6,I r13),(7,pp b16)]++E) (L++[zc b16 [I t153,I t154] 89,zc b11 [I r7,I 0,I 0,.bool (decide (r9=0))] 165,zc b5 [I 0,I 0,I 0,.bool false] 165,zl w0 F]);have H165 (v162:Value) (r163 r164:Int):NN 3 #[Y,Y,Y,Y,Y,Y,Y,Y,Y,Y,Y,Y,Z,Z,Z] [(49,v162),(51,I r163)] [zc b1 [v2,I r164] 131,ze zd 89 v162 ([zg.mk 0 r13,zg.mk 0 t154,zg.mk t153 r13])] (zH ([zg.mk 0 r13,zg.mk 0 t154,zg.mk t153 r13]) r163 (fun e165=>k161 (r164,e165.xLo,e165.xHi))):=by
      refine d1 12 rfl (zF xn 1 zf jG ?_);intro e165 h166;refine da [3,4,5] ?_;refine pk' [0,1,2,3,4,5] ?_;refine d1 13 rfl (jr xn (enc:=zW) (u:=(.agg #[I e165.xLo,I e165.xHi])) 1 zf zy h166 YR ?_);refine da [3,4,5] ?_;refine pk' [0,2,3,4,5] ?_;refine d1 14 rfl (zT (cs':=[I e165.xLo,I e165.xHi]) 1 YR ?_);refine da [2,3,4] ?_;refine pk' [0,1,2,3,4] ?_;exact dj hQ [0,1,2,3,4]
     have H169 (r170 r171:Int):NN 5 #[Y,Y,Y,Y,Y,Y,Y,Y,Z,Z,Y,Y,Z,Z,Z] [(41,.agg #[I 0,I r13]),(47,I r13),(44,.agg #[I 0,I t154]),(51,I r170),(46,I t153)] [zc b1 [v2,I r171] 131] (zH ([zg.mk 0 r13,zg.mk 0 t154,zg.mk t153 r13]) r170 (fun e165=>k161 (r171,e165.xLo,e165.xHi))):=by
      refine jF (dp 8 [2,3,4]) (cells:=[I t153,I r13]) (bqi rfl) ZJ ?_;refine d1 9 rfl (jK (enc:=zW) (cells:=[I 0,I r13,I 0,I t154,I t153,I r13]) ([zg.mk 0 r13,zg.mk 0 t154,zg.mk t153 r13]) zy (bqi rfl) jG xf ?_);intro v172;exact rd [3,4,5] [1,0,2,3,4,5] (H165 v172 r170 r171)
     have H173 (r176 r177:Int):NN 5 #[Y,Y,Y,Y,Z,Y,Y,Y,Y,Z,Y,Y,Z,Z,Z] [(41,.agg #[I 0,I r13]),(48,.agg #[I t153,I r13]),(51,I r176),(43,I t154)] [zc b1 [v2,I r177] 131] (zH ([zg.mk 0 r13,zg.mk 0 t154,zg.mk t153 r13]) r176 (fun e165=>k161 (r177,e165.xLo,e165.xHi))):=by
      refine jF (dp 4 [2,3,4]) (cells:=[I 0,I t154]) (bqi rfl) ZJ ?_;refine d1 9 rfl (jK (enc:=zW) (cells:=[I 0,I r13,I 0,I t154,I t153,I r13]) ([zg.mk 0 r13,zg.mk 0 t154,zg.mk t153 r13]) zy (bqi rfl) jG xf ?_);intro v178;exact rd [3,4,5] [1,0,2,3,4,5] (H165 v178 r176 r177)
     refine zt (dp 0 [2,3,4]) ?_;refine jF (dp 1 [2,3,4]) (cells:=[I 0,I r13]) (bqi rfl) ZJ ?_;refine zw (dp 2 [2,3,4]) xt ?_;refine zw (dp 5 [2,3,4]) uK ?_;refine zt (dp 7 [2,3,4]) ?_;refine zt (dp 10 [2,3,4]) ?_;refine UH (i:=3) (j:=6) (l:=11) rfl rfl rfl (by kernel_rfl) ?_ ?_ ?_
     ·intro o ho;cases ho;refine zm xn (v:=(I t154)) 1 ty3 ?_;refine da [2,3,4] ?_;refine pk' [0,1,2,3,4] ?_;refine jF (dp 4 [2,3,4]) (cells:=[I 0,I t154]) (bqi rfl) ZJ ?_;refine dtw 6 11 rfl rfl ?_ ?_
      ·refine zm xn (v:=(I t153)) 1 ty3 ?_;refine da [2,3,4] ?_;refine pk' [0,1,2,3,4] ?_;refine jF (dp 8 [2,3,4]) (cells:=[I t153,I r13]) (bqi rfl) ZJ ?_;refine dtw 9 11 rfl rfl ?_ ?_
       ·refine jK (enc:=zW) (cells:=[I 0,I r13,I 0,I t154,I t153,I r13]) ([zg.mk 0 r13,zg.mk 0 t154,zg.mk t153 r13]) zy (bqi rfl) jG xf ?_;intro v162;refine da [3,4,5] ?_;refine pk' [0,1,2,3,4,5] ?_;refine pk' [1,0,2,3,4,5] ?_;refine d1 11 rfl (zR (M0:=[zc b1 [v2,I r157] 131]) Tryz.call52 (by intro w m h;exact rf (fun _ _=>(zz zG zK)) (zu (r_0_b:=r_0_b) (r_0_p:=r157) (n_1:=3) zk m.given (m.qM 4 hv2) h)) ?_);rintro ⟨r163,r164⟩ _;exact rd [3,4,5] [0,1,2,3,4,5] (H165 v162 r163 r164)
       ·refine zR (vs:=[pp b1,I 3]) (M0:=[zc b1 [v2,I r157] 131]) Tryz.call52 (by intro w m h;exact rf (fun _ _=>(zz zG zK)) (zu (r_0_b:=r_0_b) (r_0_p:=r157) (n_1:=3) zk m.given (m.qM 3 hv2) h)) ?_;rintro ⟨r167,r168⟩ _;refine da [2,3,4] ?_;refine pk' [0,1,2,3,4] ?_;refine d1 9 rfl (jK (enc:=zW) (cells:=[I 0,I r13,I 0,I t154,I t153,I r13]) ([zg.mk 0 r13,zg.mk 0 t154,zg.mk t153 r13]) zy (bqi rfl) jG xf ?_);intro v169;exact rd [3,4,5] [1,0,2,3,4,5] (H165 v169 r167 r168)
      ·refine zR (vs:=[pp b1,I 3]) (M0:=[zc b1 [v2,I r157] 131]) Tryz.call52 (by intro w m h;exact rf (fun _ _=>(zz zG zK)) (zu (r_0_b:=r_0_b) (r_0_p:=r157) (n_1:=3) zk m.given (m.qM 3 hv2) h)) ?_;rintro ⟨r170,r171⟩ _;refine da [2,3,4] ?_;refine pk' [0,1,2,3,4] ?_;refine d1 6 rfl (zm xn (v:=(I t153)) 1 ty3 ?_);exact rd [2,3,4] [0,1,2,3,4] (H169 r170 r171)
     ·intro o ho;cases ho;refine zm xn (v:=(I t153)) 1 ty3 ?_;refine da [2,3,4] ?_;refine pk' [0,1,2,3,4] ?_;refine jF (dp 8 [2,3,4]) (cells:=[I t153,I r13]) (bqi rfl) ZJ ?_;refine dtw 3 11 rfl rfl ?_ ?_
      ·refine zm xn (v:=(I t154)) 1 ty3 ?_;refine da [2,3,4] ?_;refine pk' [0,1,2,3,4] ?_;refine jF (dp 4 [2,3,4]) (cells:=[I 0,I t154]) (bqi rfl) ZJ ?_;refine dtw 9 11 rfl rfl ?_ ?_
       ·refine jK (enc:=zW) (cells:=[I 0,I r13,I 0,I t154,I t153,I r13]) ([zg.mk 0 r13,zg.mk 0 t154,zg.mk t153 r13]) zy (bqi rfl) jG xf ?_;intro v173;refine da [3,4,5] ?_;refine pk' [0,1,2,3,4,5] ?_;refine pk' [1,0,2,3,4,5] ?_;refine d1 11 rfl (zR (M0:=[zc b1 [v2,I r157] 131]) Tryz.call52 (by intro w m h;exact rf (fun _ _=>(zz zG zK)) (zu (r_0_b:=r_0_b) (r_0_p:=r157) (n_1:=3) zk m.given (m.qM 4 hv2) h)) ?_);rintro ⟨r163,r164⟩ _;exact rd [3,4,5] [0,1,2,3,4,5] (H165 v173 r163 r164)
       ·refine zR (vs:=[pp b1,I 3]) (M0:=[zc b1 [v2,I r157] 131]) Tryz.call52 (by intro w m h;exact rf (fun _ _=>(zz zG zK)) (zu (r_0_b:=r_0_b) (r_0_p:=r157) (n_1:=3) zk m.given (m.qM 3 hv2) h)) ?_;rintro ⟨r174,r175⟩ _;refine da [2,3,4] ?_;refine pk' [0,1,2,3,4] ?_;refine d1 9 rfl (jK (enc:=zW) (cells:=[I 0,I r13,I 0,I t154,I t153,I r13]) ([zg.mk 0 r13,zg.mk 0 t154,zg.mk t153 r13]) zy (bqi rfl) jG xf ?_);intro v169;exact rd [3,4,5] [1,0,2,3,4,5] (H165 v169 r174 r175)
      ·refine zR (vs:=[pp b1,I 3]) (M0:=[zc b1 [v2,I r157] 131]) Tryz.call52 (by intro w m h;exact rf (fun _ _=>(zz zG zK)) (zu (r_0_b:=r_0_b) (r_0_p:=r157) (n_1:=3) zk m.given (m.qM 3 hv2) h)) ?_;rintro ⟨r176,r177⟩ _;refine da [2,3,4] ?_;refine pk' [0,1,2,3,4] ?_;refine d1 3 rfl (zm xn (v:=(I t154)) 1 ty3 ?_);exact rd [2,3,4] [0,1,2,3,4] (H173 r176 r177)
     ·intro o ho;cases ho;refine zR (vs:=[pp b1,I 3]) (M0:=[zc b1 [v2,I r157] 131]) Tryz.call52 (by intro w m h;exact rf (fun _ _=>(zz zG zK)) (zu (r_0_b:=r_0_b) (r_0_p:=r157) (n_1:=3) zk m.given (m.qM 3 hv2) h)) ?_;rintro ⟨r179,r180⟩ _;refine da [2,3,4] ?_;refine pk' [0,1,2,3,4] ?_;refine dtw 3 6 rfl rfl ?_ ?_
      ·refine zm xn (v:=(I t154)) 1 ty3 ?_;refine da [2,3,4] ?_;refine pk' [0,1,2,3,4] ?_;refine jF (dp 4 [2,3,4]) (cells:=[I 0,I t154]) (bqi rfl) ZJ ?_;refine d1 6 rfl (zm xn (v:=(I t153)) 1 ty3 ?_);exact rd [2,3,4] [0,1,2,3,4] (H169 r179 r180)
      ·refine zm xn (v:=(I t153)) 1 ty3 ?_;refine da [2,3,4] ?_;refine pk' [0,1,2,3,4] ?_;refine jF (dp 8 [2,3,4]) (cells:=[I t153,I r13]) (bqi rfl) ZJ ?_;refine d1 3 rfl (zm xn (v:=(I t154)) 1 ty3 ?_);exact rd [2,3,4] [0,1,2,3,4] (H173 r179 r180)
    ·rintro ⟨t158,t159,t160⟩;refine nxj ?_;exact lj [0,1,2,3,4]
   ·refine jO ?_;exact lj [0,1,2,3,4]
  ·rintro ⟨t241,t242,t243⟩;refine nxj ?_;refine y0 ?_;refine zw st uK ?_;refine zm st (v:=(I t242)) 1 ty3 ?_;refine zw st YC ?_;refine stw (zT (cs':=[I r7,I t242,I 0,.bool (decide (r9=0))]) 2 ty3 ?_);refine y2 ?_;refine zw st xt ?_;refine zm st (v:=(I t243)) 1 ty3 ?_;refine zw st Xn ?_;refine stw (zT (cs':=[I r7,I t242,I t243,.bool (decide (r9=0))]) 2 ty3 ?_);refine y1 ?_;refine zZ (σ:=(Int×Int×Int×Int)) (fun (t317,t318,t319,t320)=>JJ [(4,pp b5),(5,pp b11)] [zc b1 [v2,I t317] 131,zc b11 [I t318,I t319,I t320,.bool (decide (r9=0))] 165,zc b5 [I 0,I 0,I 0,.bool false] 165,zl w0 F]) ?_ ?_
   ·intro k321;refine y0 ?_;refine mv ?_;refine mv ?_;refine stw (zR (M0:=[zc b1 [v2,I t241] 131]) Tryz.call97 (by intro w m h;exact rf (fun _ _=>(zz zG zK)) (yf (r_0_b:=r_0_b) (r_0_p:=t241) (n_1:=n_1) zk m.given (m.qM 3 hv2) h)) ?_);rintro ⟨r245,r246⟩ _;refine y1 ?_;refine zj ?_ ?_
    ·refine y0 ?_;refine mv ?_;refine stw (zR (M0:=[zc b1 [v2,I r246] 131]) Tryz.call52 (by intro w m h;exact rf (fun _ _=>(zz zG zK)) (zu (r_0_b:=r_0_b) (r_0_p:=r246) (n_1:=3) zk m.given (m.qM 3 hv2) h)) ?_);rintro ⟨r247,r248⟩ _;refine y26 ?_;refine jH st xW ?_;refine ma ?_;refine y1 ?_;refine zj ?_ ?_
     ·refine zr ?_;refine stw (jK (enc:=jU) (cells:=[I (-1),I 4]) ([-1,4]) jk (bqi rfl) uW ZQ ?_);intro v249;refine mv ?_;refine pk' [1,0,2,3,4,5] ?_;refine stw (zR (M0:=[zc b1 [v2,I r248] 131]) Tryz.call52 (by intro w m h;exact rf (fun _ _=>(zz zG zK)) (zu (r_0_b:=r_0_b) (r_0_p:=r248) (n_1:=2) zk m.given (m.qM 4 hv2) h)) ?_);rintro ⟨r251,r252⟩ _;refine zF st 1 zf uW ?_;intro e253 h254;refine jr st (enc:=jU) (u:=(I e253)) 1 zf jk h254 ty3 ?_;refine zw st yX ?_;refine stw (zT (cs':=[I e253,I t242,I t243,.bool (decide (r9=0))]) 3 ty3 ?_);refine y12 ?_;exact lj [0,3,4,5]
     ·refine y0 ?_;refine jH st xW ?_;refine ma ?_;refine y1 ?_;refine zj ?_ ?_
      ·refine zr ?_;refine zw st Xn ?_;refine zm st (v:=(I t243)) 2 ty3 ?_;refine zU st ?_;intro t255;refine zw st YC ?_;refine stw (zT (cs':=[I r7,I t255,I t243,.bool (decide (r9=0))]) 2 ty3 ?_);refine y12 ?_;exact lj [0,2,3,4]
      ·refine zr ?_;refine mv ?_;refine zU st ?_;intro t256;refine zw st Xn ?_;refine stw (zT (cs':=[I r7,I t242,I t256,.bool (decide (r9=0))]) 2 ty3 ?_);refine y12 ?_;exact lj [0,2,3,4]
    ·refine jO ?_;exact lj [0,2,3,4]
   ·rintro ⟨t317,t318,t319,t320⟩;refine nxj ?_;refine y0 ?_;refine zm st (v:=(.agg #[I t318,I t319,I t320,.bool (decide (r9=0))])) 1 U5 ?_;refine stw (zT (cs':=[I t318,I t319,I t320,.bool (decide (r9=0))]) 2 U5 ?_);refine y3 ?_;exact jj Tryz.results152 (jJ.mk t318 t319 t320 (decide (r9=0)),t317) () (ZA 2 rfl rfl U5 rfl) (fun w m=>zN.ofB m [0] rfl)
theorem zaw {b1:Nat} {v2:Value} {r_0_b:(List UInt8)} {r_0_p n_1:Int} {κ:((List jJ)×Int)→Prop} (hF:Fr [zc b1 [v2,(I r_0_p)] 131] F w0) (hg:x5 [zc b1 [v2,(I r_0_p)] 131] F w0) (hv2:Sl Vy F w0 v2 r_0_b) (h:Zq r_0_b r_0_p n_1 κ) :
  Cl Tryz.prog 98 #[(pp b1),(I n_1)] w0 [zc b1 [v2,(I r_0_p)] 131] F κ (fun r (u:Value)=>u) (fun r u=>[ze uY 165 u r.1,zc b1 [v2,(I r.2)] 131]):=by
 refine yw (args:=[pp b1,I n_1]) [zc b1 [v2,I r_0_p] 131] hF hg Tryz.func98 rfl Tryz.ntmps98 rfl h ?_;clear h hF hg;let JJ:=Jn 32 [zc b1 [v2,I r_0_p] 131] F w0;refine y0 ?_;refine stw (xa uY 165 ?_);refine y2 ?_;refine stw (jK (enc:=ZF) (cells:=[]) ([]:(List jJ)) x6 (bqi rfl) VO Ys ?_);intro v6;refine ma ?_;refine y4 ?_;refine mv ?_;refine pk' [2,0,1,3] ?_;refine stw (zR (M0:=[zc b1 [v2,I r_0_p] 131]) Tryz.call52 (by intro w m h;exact rf (fun _ _=>(zz zG zK)) (zu (r_0_b:=r_0_b) (r_0_p:=r_0_p) (n_1:=4) zk m.given (m.qM 2 hv2) h)) ?_);rintro ⟨r8,r9⟩ _;refine ma ?_;refine y5 ?_;refine jh (σ:=(Int×(List jJ)×Int)) (fun (t10,xs12,t15) a w=>∃ (v11:Value),JJ [(0,pp b1),(1,I n_1),(5,v11),(6,I t15)] [zc b1 [v2,I t10] 131,zl w0 F,ze uY 165 v11 xs12] a w) (jE v6 [0,3,1]) ?_;rintro nx16 ⟨t10,xs12,t15⟩ a w ⟨v11,hE,hm⟩ h;refine jB hE hm h ?_;clear hE hm h;refine y10 ?_;refine mv ?_;refine uv st ?_;refine y1 ?_;refine zj ?_ ?_
 ·refine y22 ?_;refine mv ?_;refine mv ?_;refine stw (zR (M0:=[zc b1 [v2,I t10] 131]) Tryz.call152 (by intro w m h;exact rf (fun _ _=>(zz zG zK)) (zaL (r_0_b:=r_0_b) (r_0_p:=t10) (n_1:=0) zk m.given (m.qM 0 hv2) h)) ?_);rintro ⟨r17,r18⟩ _;refine stw (jK (enc:=ZF) (cells:=[I r17.xField,I r17.xLo,I r17.xHi,.bool r17.xNot]) ([r17]) x6 (bqi rfl) VO Ys ?_);intro v19;refine stw (xv 3 0 (uj x6 zf) VO Ys ?_);intro v21;refine ma ?_;refine y15 ?_;refine mv ?_;refine yR st ?_;intro t23;refine ma ?_;refine zA ?_;exact zP (r18,xs12++([r17]),t23) (jE v21 [1,2,3])
 ·refine y30 ?_;refine zZ (σ:=(Int×(List jJ))) (fun (t97,xs99) a w=>∃ (v98:Value),JJ [(5,v98)] [zc b1 [v2,I t97] 131,zl w0 F,ze uY 165 v98 xs99] a w) ?_ ?_
  ·intro k102;refine y0 ?_;refine mv ?_;refine mv ?_;refine stw (zR (M0:=[zc b1 [v2,I t10] 131]) Tryz.call97 (by intro w m h;exact rf (fun _ _=>(zz zG zK)) (yf (r_0_b:=r_0_b) (r_0_p:=t10) (n_1:=n_1) zk m.given (m.qM 0 hv2) h)) ?_);rintro ⟨r24,r25⟩ _;refine y1 ?_;refine zj ?_ ?_
   ·refine y0 ?_;refine mv ?_;refine stw (zR (M0:=[zc b1 [v2,I r25] 131]) Tryz.call52 (by intro w m h;exact rf (fun _ _=>(zz zG zK)) (zu (r_0_b:=r_0_b) (r_0_p:=r25) (n_1:=2) zk m.given (m.qM 0 hv2) h)) ?_);rintro ⟨r26,r27⟩ _;refine jH st xW ?_;refine y1 ?_;refine zj ?_ ?_
    ·refine zr ?_;refine mv ?_;refine mv ?_;refine stw (zR (M0:=[zc b1 [v2,I r27] 131]) Tryz.call152 (by intro w m h;exact rf (fun _ _=>(zz zG zK)) (zaL (r_0_b:=r_0_b) (r_0_p:=r27) (n_1:=1) zk m.given (m.qM 0 hv2) h)) ?_);rintro ⟨r28,r29⟩ _;refine stw (jK (enc:=ZF) (cells:=[I r28.xField,I r28.xLo,I r28.xHi,.bool r28.xNot]) ([r28]) x6 (bqi rfl) VO Ys ?_);intro v30;refine stw (xv 3 0 (uj x6 zf) VO Ys ?_);intro v32;refine ma ?_;refine zA ?_;exact zP (r29,xs12++([r28])) (jE v32 [1,2,3])
    ·refine zr ?_;refine stw (zij (z:=(jJ.mk 0 0 0 false)) x6 VO Ys ?_);intro v34 xs35;refine ma ?_;refine zA ?_;exact zP (r27,xs35) (jE v34 [1,2,0])
   ·refine jO ?_;exact zP (r25,xs12) (jE v11 [0,1,2])
  ·rintro ⟨t97,xs99⟩ a w ⟨v98,hE,hm⟩ h;refine jB hE hm h ?_;clear hE hm h;refine y0 ?_;refine mv ?_;refine ma ?_;refine y3 ?_;exact jj Tryz.results98 (xs99,t97) v98 (ju rfl) (fun w m=>zN.ofB m [2,0] rfl)
end
section
open Go.RowKit
variable {w0:World} {F:Nat→Prop}
theorem zbe {b1:Nat} {v2:Value} {r_0_b:(List UInt8)} {r_0_p first_1 chains_2 n_3:Int} {κ:(zE×Int)→Prop} (hF:Fr [zc b1 [v2,(I r_0_p)] 131] F w0) (hg:x5 [zc b1 [v2,(I r_0_p)] 131] F w0) (hv2:Sl Vy F w0 v2 r_0_b) (h:XW r_0_b r_0_p first_1 chains_2 n_3 κ) :
  Cl Tryz.prog 53 #[(pp b1),(I first_1),(I chains_2),(I n_3)] w0 [zc b1 [v2,(I r_0_p)] 131] F κ (fun r (u:Value)=>(.agg #[u,(I r.1.xAction),(I r.1.xChain)])) (fun r u=>[ze uY 165 u r.1.xTests,zc b1 [v2,(I r.2)] 131]):=by
 refine yw (args:=[pp b1,I first_1,I chains_2,I n_3]) [zc b1 [v2,I r_0_p] 131] hF hg Tryz.func53 rfl Tryz.ntmps53 rfl h ?_;clear h hF hg;let JJ:=Jn 58 [zc b1 [v2,I r_0_p] 131] F w0;refine y0 ?_;refine stw (jg [S0,I 0,I 0] ya ?_);intro b5;refine y2 ?_;refine mv ?_;refine pk' [1,0,2] ?_;refine stw (zR (M0:=[zc b1 [v2,I r_0_p] 131]) Tryz.call98 (by intro w m h;exact rf (fun _ _=>(zz (jP x6) (zz zG zK))) (zaw (r_0_b:=r_0_b) (r_0_p:=r_0_p) (n_1:=0) zk m.given (m.qM 1 hv2) h)) ?_);rintro ⟨r7,r10⟩ v8;refine stw (jK (enc:=jU) (cells:=[I 1,I 1,I 2,I 2,I 3,I 3,I 4,I 5]) ([1,1,2,2,3,3,4,5]) jk (bqi rfl) uW ZQ ?_);intro v11;refine mv ?_;refine pk' [2,0,1,3,4] ?_;refine stw (zR (M0:=[zc b1 [v2,I r10] 131]) Tryz.call52 (by intro w m h;exact rf (fun _ _=>(zz zG zK)) (zu (r_0_b:=r_0_b) (r_0_p:=r10) (n_1:=8) zk m.given (m.qM 3 hv2) h)) ?_);rintro ⟨r13,r14⟩ _;refine zF st 1 zf uW ?_;intro e15 h16;refine jr st (enc:=jU) (u:=(I e15)) 1 zf jk h16 ty3 ?_;refine x7 2 rfl ?_;rintro a17 l18 q19 rfl;refine jF st (cells:=[.slice a17 l18 q19,I e15,I 0]) (bqi rfl) zeO ?_;refine stw (jg [S0,I 0,I 0] ya ?_);intro b20;refine stw (zT (cs':=[.slice a17 l18 q19,I e15,I 0]) 0 Va ?_);refine y1 ?_;refine zZ (σ:=(Int×Int×Int)) (fun (t86,t87,t88)=>JJ [(0,pp b1),(3,I n_3),(8,pp b5),(9,pp b20)] [zc b20 [.slice a17 l18 q19,I t86,I t87] 77,zc b1 [v2,I t88] 131,ze uY 165 (.slice a17 l18 q19) r7,zc b5 [S0,I 0,I 0] 77,zl w0 F]) ?_ ?_
 ·intro k89;refine y0 ?_;refine zw st Yr ?_;refine zm st (v:=(I e15)) 0 ty3 ?_;refine jH st xW ?_;refine y1 ?_;refine zj ?_ ?_
  ·refine y0 ?_;refine mv ?_;refine mv ?_;refine UA st ?_;refine y1 ?_;refine zj ?_ ?_
   ·refine zr ?_;refine zw st Yr ?_;refine stw (zT (cs':=[.slice a17 l18 q19,I 2,I 0]) 0 ty3 ?_);refine zA ?_;exact lj [0,1,3,4,5]
   ·refine zr ?_;refine mv ?_;refine mv ?_;refine mv ?_;refine mv ?_;refine yR st ?_;intro t22;refine pk' [1,0,2,3,4,5] ?_;refine stw (zR (M0:=[zc b1 [v2,I r14] 131]) Tryz.call52 (by intro w m h;exact rf (fun _ _=>(zz zG zK)) (zu (r_0_b:=r_0_b) (r_0_p:=r14) (n_1:=t22) zk m.given (m.qM 4 hv2) h)) ?_);rintro ⟨r23,r24⟩ _;refine zU st ?_;intro t25;refine zw st Yb ?_;refine stw (zT (cs':=[.slice a17 l18 q19,I e15,I t25]) 1 ty3 ?_);refine zA ?_;exact lj [1,0,3,4,5]
  ·refine jO ?_;exact lj [0,1,3,4,5]
 ·rintro ⟨t86,t87,t88⟩;refine nxj ?_;refine zZ (σ:=(Int×(List jJ)×Int×Int)) (fun (t173,xs175,t178,t179) a w=>∃ (v174:Value),JJ [(8,pp b5),(9,pp b20)] [zc b1 [v2,I t173] 131,zc b20 [v174,I t178,I t179] 77,zc b5 [S0,I 0,I 0] 77,zl w0 F,ze uY 165 v174 xs175] a w) ?_ ?_
  ·intro k180;refine y0 ?_;refine mv ?_;refine mv ?_;refine pk' [1,0,2,3,4] ?_;refine stw (zR (M0:=[zc b1 [v2,I t88] 131]) Tryz.call97 (by intro w m h;exact rf (fun _ _=>(zz zG zK)) (yf (r_0_b:=r_0_b) (r_0_p:=t88) (n_1:=n_3) zk m.given (m.qM 3 hv2) h)) ?_);rintro ⟨r90,r91⟩ _;refine y1 ?_;refine zj ?_ ?_
   ·refine y0 ?_;refine mv ?_;refine stw (zR (M0:=[zc b1 [v2,I r91] 131]) Tryz.call52 (by intro w m h;exact rf (fun _ _=>(zz zG zK)) (zu (r_0_b:=r_0_b) (r_0_p:=r91) (n_1:=3) zk m.given (m.qM 3 hv2) h)) ?_);rintro ⟨r92,r93⟩ _;refine y26 ?_;refine jH st xW ?_;refine ma ?_;refine y1 ?_;refine zj ?_ ?_
    ·refine zr ?_;refine stw (jK (enc:=jU) (cells:=[I 0,I 6]) ([0,6]) jk (bqi rfl) uW ZQ ?_);intro v94;refine mv ?_;refine pk' [1,0,2,3,4,5] ?_;refine stw (zR (M0:=[zc b1 [v2,I r93] 131]) Tryz.call52 (by intro w m h;exact rf (fun _ _=>(zz zG zK)) (zu (r_0_b:=r_0_b) (r_0_p:=r93) (n_1:=2) zk m.given (m.qM 4 hv2) h)) ?_);rintro ⟨r96,r97⟩ _;refine zF st 1 zf uW ?_;intro e98 h99;refine jr st (enc:=jU) (u:=(I e98)) 1 zf jk h99 ty3 ?_;refine zw st Yr ?_;refine stw (zT (cs':=[.slice a17 l18 q19,I e98,I t87]) 2 ty3 ?_);refine y12 ?_;exact zP (r97,r7,e98,t87) (jE (.slice a17 l18 q19) [0,2,4,5,3])
    ·refine y0 ?_;refine jH st xW ?_;refine ma ?_;refine y1 ?_;refine zj ?_ ?_
     ·refine zr ?_;refine stw (jK (enc:=jU) (cells:=[I (-1),I 5,I 1]) ([-1,5,1]) jk (bqi rfl) uW ZQ ?_);intro v100;refine mv ?_;refine pk' [1,0,2,3,4,5] ?_;refine stw (zR (M0:=[zc b1 [v2,I r93] 131]) Tryz.call52 (by intro w m h;exact rf (fun _ _=>(zz zG zK)) (zu (r_0_b:=r_0_b) (r_0_p:=r93) (n_1:=3) zk m.given (m.qM 4 hv2) h)) ?_);rintro ⟨r102,r103⟩ _;refine zF st 1 zf uW ?_;intro e104 h105;refine jr st (enc:=jU) (u:=(I e104)) 1 zf jk h105 ty3 ?_;refine zw st Yb ?_;refine stw (zT (cs':=[.slice a17 l18 q19,I t86,I e104]) 2 ty3 ?_);refine y12 ?_;exact zP (r103,r7,t86,e104) (jE (.slice a17 l18 q19) [0,2,4,5,3])
     ·refine zr ?_;refine mv ?_;refine stw (zR (M0:=[zc b1 [v2,I r93] 131]) Tryz.call98 (by intro w m h;exact rf (fun _ _=>(zz (jP x6) (zz zG zK))) (zaw (r_0_b:=r_0_b) (r_0_p:=r93) (n_1:=1) zk m.given (m.qM 3 hv2) h)) ?_);rintro ⟨r106,r109⟩ v107;refine zw st VL ?_;refine x7 0 rfl ?_;rintro a110 l111 q112 rfl;refine stw (zT (cs':=[.slice a110 l111 q112,I t86,I t87]) 2 zhy ?_);refine y12 ?_;exact zP (r109,r106,t86,t87) (jE (.slice a110 l111 q112) [1,2,4,5,0])
   ·refine jO ?_;exact zP (r91,r7,t86,t87) (jE (.slice a17 l18 q19) [0,1,3,4,2])
  ·rintro ⟨t173,xs175,t178,t179⟩ a w ⟨v174,hE,hm⟩ h;refine jB hE hm h ?_;clear hE hm h;refine y0 ?_;refine zm st (v:=(.agg #[v174,I t178,I t179])) 1 Va ?_;refine x7 4 rfl ?_;rintro a181 l182 q183 rfl;refine stw (zT (cs':=[.slice a181 l182 q183,I t178,I t179]) 2 Va ?_);refine y3 ?_;exact jj Tryz.results53 (zE.mk xs175 t178 t179,t173) (.slice a181 l182 q183) (ZA 2 rfl rfl Va rfl) (fun w m=>zN.ofB m [4,0] rfl)
theorem U1 {b1:Nat} {v2:Value} {r_0_b:(List UInt8)} {r_0_p first_1 chains_2 n_3:Int} {κ:((List zE)×Int)→Prop} (hF:Fr [zc b1 [v2,(I r_0_p)] 131] F w0) (hg:x5 [zc b1 [v2,(I r_0_p)] 131] F w0) (hv2:Sl Vy F w0 v2 r_0_b) (h:Xp r_0_b r_0_p first_1 chains_2 n_3 κ) :
  Cl Tryz.prog 96 #[(pp b1),(I first_1),(I chains_2),(I n_3)] w0 [zc b1 [v2,(I r_0_p)] 131] F κ (fun r (u:Value×List Nat)=>u.1) (fun r u=>[jR jL 77 u.2 u.1 r.1,zc b1 [v2,(I r.2)] 131]):=by
 refine yw (args:=[pp b1,I first_1,I chains_2,I n_3]) [zc b1 [v2,I r_0_p] 131] hF hg Tryz.func96 rfl Tryz.ntmps96 rfl h ?_;clear h hF hg;let JJ:=Jn 46 [zc b1 [v2,I r_0_p] 131] F w0;refine y0 ?_;refine stw (yD jL 77 ?_);refine y2 ?_;refine stw (xL (E':=jL) (bqi rfl) Z8 ya ?_);intro bb7 v6;refine ma ?_;refine y4 ?_;refine mv ?_;refine pk' [2,0,1,3] ?_;refine stw (zR (M0:=[zc b1 [v2,I r_0_p] 131]) Tryz.call52 (by intro w m h;exact rf (fun _ _=>(zz zG zK)) (zu (r_0_b:=r_0_b) (r_0_p:=r_0_p) (n_1:=5) zk m.given (m.qM 2 hv2) h)) ?_);rintro ⟨r9,r10⟩ _;refine ma ?_;refine y5 ?_;refine jh (σ:=(Int×(List zE)×Int)) (fun (t11,xs13,t17) a w=>∃ (v12:Value) (bb15:List Nat),JJ [(0,pp b1),(1,I first_1),(2,I chains_2),(3,I n_3),(9,v12),(10,I t17)] [zc b1 [v2,I t11] 131,zl w0 F,jR jL 77 bb15 v12 xs13] a w) (fun a w hE hm=>⟨v6,bb7,hE.sub g6,hm.pick [0,3,1] rfl⟩) ?_;rintro nx18 ⟨t11,xs13,t17⟩ a w ⟨v12,bb15,hE,hm⟩ h;refine jB hE hm h ?_;clear hE hm h;refine y10 ?_;refine mv ?_;refine uv st ?_;refine y1 ?_;refine zj ?_ ?_
 ·refine y22 ?_;refine mv ?_;refine mv ?_;refine mv ?_;refine mv ?_;refine stw (zR (M0:=[zc b1 [v2,I t11] 131]) Tryz.call53 (by intro w m h;exact rf (fun _ _=>(zz (jP x6) (zz zG zK))) (zbe (r_0_b:=r_0_b) (r_0_p:=t11) (first_1:=first_1) (chains_2:=chains_2) (n_3:=0) zk m.given (m.qM 0 hv2) h)) ?_);rintro ⟨r19,r22⟩ v20;refine x7 0 rfl ?_;rintro a23 l24 q25 rfl;refine stw (uE (M:=[ze uY 165 (.slice a23 l24 q25) r19.xTests]) (E':=jL) (cs:=[.slice a23 l24 q25,I r19.xAction,I r19.xChain]) r19 (xp (Zo x6) (fun B w h=>⟨_,rfl,h⟩)) (bqi rfl) Z8 ya ?_);intro bb27 v26;refine pk' [3,0,1,2] ?_;refine stw (yH Z8 ya ?_);intro bb30 v29;refine ma ?_;refine y15 ?_;refine mv ?_;refine yR st ?_;intro t32;refine ma ?_;refine zA ?_;exact zP (r22,xs13++([r19]),t32) (fun a w hE hm=>⟨v29,bb30,hE.sub g6,hm.pick [1,2,0] rfl⟩)
 ·refine y30 ?_;refine zZ (σ:=(Int×(List zE))) (fun (t122,xs124) a w=>∃ (v123:Value) (bb126:List Nat),JJ [(9,v123)] [zc b1 [v2,I t122] 131,zl w0 F,jR jL 77 bb126 v123 xs124] a w) ?_ ?_
  ·intro k128;refine y0 ?_;refine mv ?_;refine mv ?_;refine stw (zR (M0:=[zc b1 [v2,I t11] 131]) Tryz.call97 (by intro w m h;exact rf (fun _ _=>(zz zG zK)) (yf (r_0_b:=r_0_b) (r_0_p:=t11) (n_1:=n_3) zk m.given (m.qM 0 hv2) h)) ?_);rintro ⟨r33,r34⟩ _;refine y1 ?_;refine zj ?_ ?_
   ·refine y0 ?_;refine mv ?_;refine stw (zR (M0:=[zc b1 [v2,I r34] 131]) Tryz.call52 (by intro w m h;exact rf (fun _ _=>(zz zG zK)) (zu (r_0_b:=r_0_b) (r_0_p:=r34) (n_1:=2) zk m.given (m.qM 0 hv2) h)) ?_);rintro ⟨r35,r36⟩ _;refine jH st xW ?_;refine y1 ?_;refine zj ?_ ?_
    ·refine zr ?_;refine mv ?_;refine mv ?_;refine mv ?_;refine mv ?_;refine stw (zR (M0:=[zc b1 [v2,I r36] 131]) Tryz.call53 (by intro w m h;exact rf (fun _ _=>(zz (jP x6) (zz zG zK))) (zbe (r_0_b:=r_0_b) (r_0_p:=r36) (first_1:=first_1) (chains_2:=chains_2) (n_3:=1) zk m.given (m.qM 0 hv2) h)) ?_);rintro ⟨r37,r40⟩ v38;refine x7 0 rfl ?_;rintro a41 l42 q43 rfl;refine stw (uE (M:=[ze uY 165 (.slice a41 l42 q43) r37.xTests]) (E':=jL) (cs:=[.slice a41 l42 q43,I r37.xAction,I r37.xChain]) r37 (xp (Zo x6) (fun B w h=>⟨_,rfl,h⟩)) (bqi rfl) Z8 ya ?_);intro bb45 v44;refine pk' [3,0,1,2] ?_;refine stw (yH Z8 ya ?_);intro bb48 v47;refine ma ?_;refine zA ?_;exact zP (r40,xs13++([r37])) (fun a w hE hm=>⟨v47,bb48,hE.sub g1,hm.pick [1,2,0] rfl⟩)
    ·refine uu ?_;refine jh (σ:=(List zE)) (fun xs51 a w=>∃ (v50:Value) (bb53:List Nat),JJ [(9,v50)] [zc b1 [v2,I r36] 131,zl w0 F,jR jL 77 bb53 v50 xs51] a w) (fun a w hE hm=>⟨v12,bb15,hE.sub g1,hm.pick [0,1,2] rfl⟩) ?_;rintro nx55 xs51 a w ⟨v50,bb53,hE,hm⟩ h;refine jB hE hm h ?_;clear hE hm h;refine y10 ?_;refine mv ?_;refine zJ st Z8 2 jM ?_;refine yQ st ?_;refine y1 ?_;refine zj ?_ ?_
     ·refine y31 ?_;refine mv ?_;refine jF st (cells:=[S0,I 5,I 0]) (bqi rfl) zeO ?_;refine stw (uE (M:=[]) (E':=jL) (cs:=[S0,I 5,I 0]) (zE.mk ([]) 5 0) (Xd (fun w=>⟨_,rfl,Dp.nil⟩)) (bqi rfl) Z8 ya ?_);intro bb57 v56;refine pk' [3,0,1,2] ?_;refine stw (yH Z8 ya ?_);intro bb60 v59;refine ma ?_;refine y12 ?_;exact zP (xs51++([zE.mk ([]) 5 0])) (fun a w hE hm=>⟨v59,bb60,hE.sub g1,hm.pick [1,2,0] rfl⟩)
     ·refine Xb (uI (uI (Xh ?_)));exact zP (r36,xs51) (fun a w hE hm=>⟨v50,bb53,hE.sub g1,hm.pick [0,1,2] rfl⟩)
   ·refine jO ?_;exact zP (r34,xs13) (fun a w hE hm=>⟨v12,bb15,hE.sub g1,hm.pick [0,1,2] rfl⟩)
  ·rintro ⟨t122,xs124⟩ a w ⟨v123,bb126,hE,hm⟩ h;refine jB hE hm h ?_;clear hE hm h;refine y0 ?_;refine mv ?_;refine ma ?_;refine y3 ?_;exact jj Tryz.results96 (xs124,t122) (v123,bb126) (ju rfl) (fun w m=>zN.ofB m [2,0] rfl)
theorem zcd {b1:Nat} {v2:Value} {r_0_b:(List UInt8)} {r_0_p n_1:Int} {κ:(zQ×Int)→Prop} (hF:Fr [zc b1 [v2,(I r_0_p)] 131] F w0) (hg:x5 [zc b1 [v2,(I r_0_p)] 131] F w0) (hv2:Sl Vy F w0 v2 r_0_b) (h:ZE r_0_b r_0_p n_1 κ) :
  Cl Tryz.prog 51 #[(pp b1),(I n_1)] w0 [zc b1 [v2,(I r_0_p)] 131] F κ (fun r (u:Value×List Nat)=>(.agg #[u.1,(.bool r.1.xAccept)])) (fun r u=>[jR (dSl jL 77) 47 u.2 u.1 r.1.xChains,zc b1 [v2,(I r.2)] 131]):=by
 refine yw (args:=[pp b1,I n_1]) [zc b1 [v2,I r_0_p] 131] hF hg Tryz.func51 rfl Tryz.ntmps51 rfl h ?_;clear h hF hg;let JJ:=Jn 80 [zc b1 [v2,I r_0_p] 131] F w0;refine y0 ?_;refine stw (jg [S0,.bool false] zdl ?_);intro b5;refine y2 ?_;refine mv ?_;refine pk' [1,0,2] ?_;refine stw (zR (M0:=[zc b1 [v2,I r_0_p] 131]) Tryz.call52 (by intro w m h;exact rf (fun _ _=>(zz zG zK)) (zu (r_0_b:=r_0_b) (r_0_p:=r_0_p) (n_1:=2) zk m.given (m.qM 1 hv2) h)) ?_);rintro ⟨r7,r8⟩ _;refine jH st xW ?_;refine jF st (cells:=[S0,.bool (decide (r7=0))]) (bqi rfl) znh ?_;refine stw (jg [S0,.bool false] zdl ?_);intro b9;refine stw (zT (cs':=[S0,.bool (decide (r7=0))]) 0 Ya ?_);refine y2 ?_;refine mv ?_;refine pk' [1,0,2,3] ?_;refine stw (zR (M0:=[zc b1 [v2,I r8] 131]) Tryz.call52 (by intro w m h;exact rf (fun _ _=>(zz zG zK)) (zu (r_0_b:=r_0_b) (r_0_p:=r8) (n_1:=3) zk m.given (m.qM 2 hv2) h)) ?_);rintro ⟨r11,r12⟩ _;refine zU st ?_;intro t13;refine ma ?_;refine y4 ?_;refine ma ?_;refine y5 ?_;refine jh (σ:=(Int×(List (List zE))×Int)) (fun (t14,xs16,t20) a w=>∃ (v15:Value) (bb18:List Nat),JJ [(0,pp b1),(1,I n_1),(4,pp b5),(5,pp b9),(6,I t13),(7,I t20)] [zc b1 [v2,I t14] 131,zc b9 [v15,.bool (decide (r7=0))] 25,zc b5 [S0,.bool false] 25,zl w0 F,jR (dSl jL 77) 47 bb18 v15 xs16] a w) (fun a w hE hm=>⟨S0,[],hE.sub g6,(zcx (dSl jL 77) 47 hm).pick [1,2,3,4,0] rfl⟩) ?_;rintro nx21 ⟨t14,xs16,t20⟩ a w ⟨v15,bb18,hE,hm⟩ h;refine jB hE hm h ?_;clear hE hm h;refine y10 ?_;refine mv ?_;refine mv ?_;refine z7 st ?_;refine y1 ?_;refine zj ?_ ?_
 ·refine y28 ?_;refine uG 4 rfl ?_;rintro a22 l23 q24 rfl;refine ZT (σ:=((List (List zE))×Int)) (fun (xs25,t29) a w=>∃ (v26:Value) (bb28:List Nat),JJ [(0,pp b1),(1,I n_1),(4,pp b5),(5,pp b9),(6,I t13),(7,I t20)] [jR (dSl jL 77) 47 bb28 v26 xs25,zc b1 [v2,I t29] 131,zc b9 [v26,.bool (decide (r7=0))] 25,zc b5 [S0,.bool false] 25,zl w0 F] a w) ?_ ?_
  ·intro k30;refine uC mixed 11 rfl [zc b5 [S0,.bool false] 25,zl w0 F] ?_;intro Qd hP hQ;let NN:=Nn 80 [zc b1 [v2,I r_0_p] 131] F w0 Tryz.prog (Uv Tryz.f51 [1,1,1,0,1,0,0,1,0,0]) Qd [zc b5 [S0,.bool false] 25,zl w0 F];have H418 (r31:(List zE)) (a35:Option Addr) (l36 q37:Nat) (bb33:List Nat) (r34:Int) (v38:Value) (bb39:List Nat):NN 3 #[Y,Y,Y,Y,Y,Y,Y,Y,Z,Z,Z] [(0,pp b1),(1,I n_1),(4,pp b5),(5,pp b9),(6,I t13),(7,I t20),(21,.slice a22 l23 q24),(27,v38)] [jR (dSl jL 77) 47 bb39 v38 ([r31]),zc b1 [v2,I r34] 131,zc b9 [.slice a22 l23 q24,.bool (decide (r7=0))] 25,zc b5 [S0,.bool false] 25,zl w0 F,jR (dSl jL 77) 47 bb18 (.slice a22 l23 q24) xs16] (xm xs16 ([r31]) (fun _=>k30 (xs16++([r31]),r34))):=by
    refine pk' [5,0,1,2,3,4] ?_;refine d1 8 rfl (yH Zf zbb ?_);intro bb41 v40;refine da [3,4] ?_;refine pk' [0,1,2,3,4] ?_;refine zw (dp 9 [3,4]) ua ?_;refine uG 0 rfl ?_;rintro a43 l44 q45 rfl;refine d1 10 rfl (zT (cs':=[.slice a43 l44 q45,.bool (decide (r7=0))]) 2 XY ?_);refine da [3,4] ?_;refine pk' [0,1,2,3,4] ?_;refine jp (by kernel_rfl) ?_;exact fun a w hE hm hφ=>hQ (xs16++([r31]),r34) a w hφ ((fun a w hE hm=>⟨.slice a43 l44 q45,bb41,hE.sub g6,hm.pick [0,1,2,3,4] rfl⟩) a w hE hm)
   refine zw (dp 0 [2,3]) ua ?_;refine zt (dp 2 [2,3]) ?_;refine zt (dp 3 [2,3]) ?_;refine YO (dp 4 [2,3]) ?_;refine zt (dp 5 [2,3]) ?_;refine dtw 1 6 rfl rfl ?_ ?_
   ·refine zm xn (v:=(.slice a22 l23 q24)) 1 XY ?_;refine da [2,3] ?_;refine pk' [0,1,2,3,4] ?_;refine d1 6 rfl (zR (M0:=[zc b1 [v2,I t14] 131]) Tryz.call96 (by intro w m h;exact rf (fun _ _=>(zz xU (zz zG zK))) (U1 (r_0_b:=r_0_b) (r_0_p:=t14) (first_1:=(w64 (t20+1))) (chains_2:=t13) (n_3:=0) zk m.given (m.qM 2 hv2) h)) ?_);rintro ⟨r31,r34⟩ ⟨v32,bb33⟩;refine da [3,4] ?_;refine pk' [0,1,2,3,4,5] ?_;refine uG 0 rfl ?_;rintro a35 l36 q37 rfl;refine d1 7 rfl (uE (M:=[jR jL 77 bb33 (.slice a35 l36 q37) r31]) (E':=(dSl jL 77)) (cs:=[.slice a35 l36 q37]) r31 (xp ZK (fun B w h=>⟨_,rfl,h⟩)) (bqi rfl) Zf zbb ?_);intro bb39 v38;exact rd [3,4] [0,1,2,3,4,5] (H418 r31 a35 l36 q37 bb33 r34 v38 bb39)
   ·refine zR (vs:=[pp b1,I (w64 (t20+1)),I t13,I 0]) (M0:=[zc b1 [v2,I t14] 131]) Tryz.call96 (by intro w m h;exact rf (fun _ _=>(zz xU (zz zG zK))) (U1 (r_0_b:=r_0_b) (r_0_p:=t14) (first_1:=(w64 (t20+1))) (chains_2:=t13) (n_3:=0) zk m.given (m.qM 2 hv2) h)) ?_;rintro ⟨r46,r49⟩ ⟨v47,bb48⟩;refine da [3,4] ?_;refine pk' [0,1,2,3,4,5] ?_;refine dtw 1 7 rfl rfl ?_ ?_
    ·refine zm xn (v:=(.slice a22 l23 q24)) 2 XY ?_;refine da [3,4] ?_;refine pk' [0,1,2,3,4,5] ?_;refine uG 0 rfl ?_;rintro a35 l36 q37 rfl;refine d1 7 rfl (uE (M:=[jR jL 77 bb48 (.slice a35 l36 q37) r46]) (E':=(dSl jL 77)) (cs:=[.slice a35 l36 q37]) r46 (xp ZK (fun B w h=>⟨_,rfl,h⟩)) (bqi rfl) Zf zbb ?_);intro bb39 v38;exact rd [3,4] [0,1,2,3,4,5] (H418 r46 a35 l36 q37 bb48 r49 v38 bb39)
    ·refine uG 0 rfl ?_;rintro a50 l51 q52 rfl;refine uE (M:=[jR jL 77 bb48 (.slice a50 l51 q52) r46]) (E':=(dSl jL 77)) (cs:=[.slice a50 l51 q52]) r46 (xp ZK (fun B w h=>⟨_,rfl,h⟩)) (bqi rfl) Zf zbb ?_;intro bb54 v53;refine da [3,4] ?_;refine pk' [0,1,2,3,4,5] ?_;refine d1 1 rfl (zm xn (v:=(.slice a22 l23 q24)) 2 XY ?_);exact rd [3,4] [0,1,2,3,4,5] (H418 r46 a50 l51 q52 bb48 r49 v53 bb54)
  ·rintro ⟨xs25,t29⟩ a w ⟨v26,bb28,hE,hm⟩ h;refine jB hE hm h ?_;clear hE hm h;refine y29 ?_;refine mv ?_;refine zU st ?_;intro t55;refine ma ?_;refine zA ?_;exact zP (t29,xs25,t55) (fun a w hE hm=>⟨v26,bb28,hE.sub g6,hm.pick [1,2,3,4,0] rfl⟩)
 ·refine y30 ?_;refine zZ (σ:=(Int×(List (List zE)))) (fun (t253,xs255) a w=>∃ (v254:Value) (bb257:List Nat),JJ [(4,pp b5),(5,pp b9)] [zc b1 [v2,I t253] 131,zc b9 [v254,.bool (decide (r7=0))] 25,zc b5 [S0,.bool false] 25,zl w0 F,jR (dSl jL 77) 47 bb257 v254 xs255] a w) ?_ ?_
  ·intro k259;refine y0 ?_;refine mv ?_;refine mv ?_;refine stw (zR (M0:=[zc b1 [v2,I t14] 131]) Tryz.call97 (by intro w m h;exact rf (fun _ _=>(zz zG zK)) (yf (r_0_b:=r_0_b) (r_0_p:=t14) (n_1:=n_1) zk m.given (m.qM 2 hv2) h)) ?_);rintro ⟨r56,r57⟩ _;refine y1 ?_;refine zj ?_ ?_
   ·refine y0 ?_;refine mv ?_;refine stw (zR (M0:=[zc b1 [v2,I r57] 131]) Tryz.call52 (by intro w m h;exact rf (fun _ _=>(zz zG zK)) (zu (r_0_b:=r_0_b) (r_0_p:=r57) (n_1:=4) zk m.given (m.qM 2 hv2) h)) ?_);rintro ⟨r58,r59⟩ _;refine y26 ?_;refine jH st xW ?_;refine ma ?_;refine y1 ?_;refine zj ?_ ?_
    ·refine zr ?_;refine stw (xL (E':=(dSl jL 77)) (bqi rfl) Zf zbb ?_);intro bb61 v60;refine zw st ua ?_;refine uG 0 rfl ?_;rintro a63 l64 q65 rfl;refine stw (zT (cs':=[.slice a63 l64 q65,.bool (decide (r7=0))]) 2 XY ?_);refine y12 ?_;exact zP (r59,[]) (fun a w hE hm=>⟨.slice a63 l64 q65,bb61,hE.sub g2,hm.pick [1,2,3,4,0] rfl⟩)
    ·refine y0 ?_;refine jH st xW ?_;refine ma ?_;refine y1 ?_;refine zj ?_ ?_
     ·refine uG 4 rfl ?_;rintro a66 l67 q68 rfl;refine ZT (σ:=((List (List zE))×Int)) (fun (xs69,t72) a w=>∃ (bb71:List Nat),JJ [(4,pp b5),(5,pp b9)] [jR (dSl jL 77) 47 bb71 (.slice a66 l67 q68) xs69,zc b1 [v2,I t72] 131,zc b9 [.slice a66 l67 q68,.bool (decide (r7=0))] 25,zc b5 [S0,.bool false] 25,zl w0 F] a w) ?_ ?_
      ·intro k73;refine uC mixed 17 rfl [zc b9 [.slice a66 l67 q68,.bool (decide (r7=0))] 25,zc b5 [S0,.bool false] 25,zl w0 F] ?_;intro Qd hP hQ;let NN:=fun i l E L=>Nn 80 [zc b1 [v2,I r_0_p] 131] F w0 Tryz.prog (Uv Tryz.f51 [1,1,1,1,0,1,0,1,0,1,1,1,0]) Qd [zc b9 [.slice a66 l67 q68,.bool (decide (r7=0))] 25,zc b5 [S0,.bool false] 25,zl w0 F] i l ([]++E) (L++[]);have H453 (e74:(List zE)) (h75:xs16[(0:Int).toNat]?=some e74) (v76:Value) (bb77 bb78:List Nat) (v79:Value) (r80 r81 e82:Int) (h83:([0,t13])[(r80).toNat]?=some e82) (v84:Value) (bb85:List Nat):NN 3 #[Y,Y,Y,Y,Y,Y,Y,Y,Y,Y,Y,Y,Y,Y,Z,Z,Z] [(4,pp b5),(5,pp b9),(48,.slice a66 l67 q68),(52,v76),(60,v84)] [jR jL 77 bb85 v84 ([zE.mk ([]) 3 e82]),zc b1 [v2,I r81] 131,zbY (dSl jL 77) 47 bb77 (.slice a66 l67 q68) xs16 (0:Int).toNat [v76],jR jL 77 bb78 v76 e74,zc b9 [.slice a66 l67 q68,.bool (decide (r7=0))] 25,zc b5 [S0,.bool false] 25,zl w0 F] (xm e74 ([zE.mk ([]) 3 e82]) (fun _=>zH xs16 0 (fun e89=>k73 (xs16.set (0:Int).toNat (e74++([zE.mk ([]) 3 e82])),r81)))):=by
        refine pk' [3,0,1,2,4,5,6] ?_;refine d1 14 rfl (yH Z8 ya ?_);intro bb87 v86;refine da [3,4,5] ?_;refine pk' [0,1,2,3,4,5] ?_;refine d1 15 rfl (zkM xn 2 Zf ?_);intro e89 h90;refine da [3,4,5] ?_;refine pk' [0,1,2,3,4,5] ?_;refine uG 0 rfl ?_;rintro a91 l92 q93 rfl;refine pk' [2,0,1,3,4,5] ?_;refine d1 16 rfl (zmU (M:=[jR jL 77 bb87 (.slice a91 l92 q93) (e74++([zE.mk ([]) 3 e82]))]) (y':=(e74++([zE.mk ([]) 3 e82]))) rfl (.inr (ziV h75)) (xp ZK (fun B w h=>⟨_,rfl,h⟩)) Uz rfl rfl rfl rfl rfl ?_);intro bb94;refine da [2,3,4] ?_;refine pk' [0,1,2,3,4] ?_;refine jp (by kernel_rfl) ?_;exact fun a w hE hm hφ=>hQ (xs16.set (0:Int).toNat (e74++([zE.mk ([]) 3 e82])),r81) a w hφ ((jE bb94 [0,1,2,3,4]) a w hE hm)
       have H455 (e74:(List zE)) (h75:xs16[(0:Int).toNat]?=some e74) (v76:Value) (bb77 bb78:List Nat) (v79:Value) (r80 r81 e82:Int) (h83:([0,t13])[(r80).toNat]?=some e82):NN 6 #[Y,Y,Y,Y,Y,Y,Y,Y,Y,Y,Y,Z,Z,Z,Z,Z,Z] [(4,pp b5),(5,pp b9),(48,.slice a66 l67 q68),(52,v76),(57,pEl v79 r80 1 0)] [zc b1 [v2,I r81] 131,ze xI 3 v79 ([0,t13]),zbY (dSl jL 77) 47 bb77 (.slice a66 l67 q68) xs16 (0:Int).toNat [v76],jR jL 77 bb78 v76 e74,zc b9 [.slice a66 l67 q68,.bool (decide (r7=0))] 25,zc b5 [S0,.bool false] 25,zl w0 F] (xm e74 ([zE.mk ([]) 3 e82]) (fun _=>zH xs16 0 (fun e89=>k73 (xs16.set (0:Int).toNat (e74++([zE.mk ([]) 3 e82])),r81)))):=by
        refine d1 11 rfl (jr xn (enc:=jU) (u:=(I e82)) 1 zf jk h83 ty3 ?_);refine da [4,5,6] ?_;refine pk' [0,2,3,4,5,6] ?_;refine jF (dp 12 [3,4,5]) (cells:=[S0,I 3,I e82]) (bqi rfl) zeO ?_;refine d1 13 rfl (uE (M:=[]) (E':=jL) (cs:=[S0,I 3,I e82]) (zE.mk ([]) 3 e82) (Xd (fun w=>⟨_,rfl,Dp.nil⟩)) (bqi rfl) Z8 ya ?_);intro bb85 v84;exact rd [4,5,6] [0,1,2,3,4,5,6] (H453 e74 h75 v76 bb77 bb78 v79 r80 r81 e82 h83 v84 bb85)
       have H463 (e74:(List zE)) (h75:xs16[(0:Int).toNat]?=some e74) (v99:Value) (r103 r104 e108:Int) (h109:([0,t13])[(r103).toNat]?=some e108):NN 7 #[Y,Y,Y,Y,Y,Z,Y,Y,Y,Y,Y,Z,Z,Z,Z,Z,Z] [(4,pp b5),(5,pp b9),(48,.slice a66 l67 q68),(51,pEl (.slice a66 l67 q68) 0 1 0),(57,pEl v99 r103 1 0)] [zc b1 [v2,I r104] 131,ze xI 3 v99 ([0,t13]),zc b9 [.slice a66 l67 q68,.bool (decide (r7=0))] 25,zc b5 [S0,.bool false] 25,zl w0 F,jR (dSl jL 77) 47 bb18 (.slice a66 l67 q68) xs16] (xm e74 ([zE.mk ([]) 3 e108]) (fun _=>zH xs16 0 (fun e89=>k73 (xs16.set (0:Int).toNat (e74++([zE.mk ([]) 3 e108])),r104)))):=by
        refine dtw 5 11 rfl rfl ?_ ?_
        ·refine pk' [5,0,1,2,3,4] ?_;refine VQ (E1:=jL) (t1:=77) (zin:=e74) (encz:=fun v=>[v]) h75 (fun B w cs h=>h) Uz ?_;rintro v110 bb111 bb112;refine ⟨v110,rfl,?_⟩;exact rd [4,5,6] [2,3,0,1,4,5,6] (H455 e74 h75 v110 bb111 bb112 v99 r103 r104 e108 h109)
        ·refine jr xn (enc:=jU) (u:=(I e108)) 1 zf jk h109 ty3 ?_;refine da [2,3,4] ?_;refine pk' [0,2,3,4,5] ?_;refine jF (dp 12 [1,2,3]) (cells:=[S0,I 3,I e108]) (bqi rfl) zeO ?_;refine dtw 5 13 rfl rfl ?_ ?_
         ·refine pk' [4,0,1,2,3] ?_;refine VQ (E1:=jL) (t1:=77) (zin:=e74) (encz:=fun v=>[v]) h75 (fun B w cs h=>h) Uz ?_;rintro v113 bb114 bb115;refine ⟨v113,rfl,?_⟩;refine da [3,4,5] ?_;refine pk' [0,1,2,3,4,5] ?_;refine d1 13 rfl (uE (M:=[]) (E':=jL) (cs:=[S0,I 3,I e108]) (zE.mk ([]) 3 e108) (Xd (fun w=>⟨_,rfl,Dp.nil⟩)) (bqi rfl) Z8 ya ?_);intro bb117 v116;exact rd [4,5,6] [0,3,1,2,4,5,6] (H453 e74 h75 v113 bb114 bb115 v99 r103 r104 e108 h109 v116 bb117)
         ·refine uE (M:=[]) (E':=jL) (cs:=[S0,I 3,I e108]) (zE.mk ([]) 3 e108) (Xd (fun w=>⟨_,rfl,Dp.nil⟩)) (bqi rfl) Z8 ya ?_;intro bb119 v118;refine da [2,3,4] ?_;refine pk' [0,1,2,3,4,5] ?_;refine pk' [5,0,1,2,3,4] ?_;refine d1 5 rfl (VQ (E1:=jL) (t1:=77) (zin:=e74) (encz:=fun v=>[v]) h75 (fun B w cs h=>h) Uz ?_);rintro v120 bb121 bb122;refine ⟨v120,rfl,?_⟩;exact rd [4,5,6] [2,3,0,1,4,5,6] (H453 e74 h75 v120 bb121 bb122 v99 r103 r104 e108 h109 v118 bb119)
       have H464 (e74:(List zE)) (h75:xs16[(0:Int).toNat]?=some e74) (v99:Value) (r103 r104:Int):NN 8 #[Y,Y,Y,Y,Y,Z,Y,Y,Y,Y,Z,Z,Z,Z,Z,Z,Z] [(4,pp b5),(5,pp b9),(48,.slice a66 l67 q68),(51,pEl (.slice a66 l67 q68) 0 1 0),(54,v99),(56,I r103)] [zc b1 [v2,I r104] 131,ze xI 3 v99 ([0,t13]),zc b9 [.slice a66 l67 q68,.bool (decide (r7=0))] 25,zc b5 [S0,.bool false] 25,zl w0 F,jR (dSl jL 77) 47 bb18 (.slice a66 l67 q68) xs16] (zH ([0,t13]) r103 (fun e82=>xm e74 ([zE.mk ([]) 3 e82]) (fun _=>zH xs16 0 (fun e89=>k73 (xs16.set (0:Int).toNat (e74++([zE.mk ([]) 3 e82])),r104))))):=by
        refine dtw 5 10 rfl rfl ?_ ?_
        ·refine pk' [5,0,1,2,3,4] ?_;refine VQ (E1:=jL) (t1:=77) (zin:=e74) (encz:=fun v=>[v]) h75 (fun B w cs h=>h) Uz ?_;rintro v105 bb106 bb107;refine ⟨v105,rfl,?_⟩;refine da [4,5,6] ?_;refine pk' [2,3,0,1,4,5,6] ?_;refine d1 10 rfl (zF xn 1 zf uW ?_);intro e82 h83;exact rd [4,5,6] [0,1,2,3,4,5,6] (H455 e74 h75 v105 bb106 bb107 v99 r103 r104 e82 h83)
        ·refine zF xn 1 zf uW ?_;intro e108 h109;exact rd [2,3,4] [0,1,2,3,4,5] (H463 e74 h75 v99 r103 r104 e108 h109)
       have H465 (e74:(List zE)) (h75:xs16[(0:Int).toNat]?=some e74) (v99:Value):NN 9 #[Y,Y,Y,Y,Y,Z,Y,Y,Y,Z,Z,Z,Z,Z,Z,Z,Z] [(4,pp b5),(5,pp b9),(48,.slice a66 l67 q68),(55,pp b1),(51,pEl (.slice a66 l67 q68) 0 1 0),(54,v99)] [ze xI 3 v99 ([0,t13]),zc b1 [v2,I r59] 131,zc b9 [.slice a66 l67 q68,.bool (decide (r7=0))] 25,zc b5 [S0,.bool false] 25,zl w0 F,jR (dSl jL 77) 47 bb18 (.slice a66 l67 q68) xs16] (zq r_0_b r59 2 (fun (r80,r81)=>zH ([0,t13]) r80 (fun e82=>xm e74 ([zE.mk ([]) 3 e82]) (fun _=>zH xs16 0 (fun e89=>k73 (xs16.set (0:Int).toNat (e74++([zE.mk ([]) 3 e82])),r81)))))):=by
        refine dtw 5 9 rfl rfl ?_ ?_
        ·refine pk' [5,0,1,2,3,4] ?_;refine VQ (E1:=jL) (t1:=77) (zin:=e74) (encz:=fun v=>[v]) h75 (fun B w cs h=>h) Uz ?_;rintro v100 bb101 bb102;refine ⟨v100,rfl,?_⟩;refine da [4,5,6] ?_;refine pk' [2,0,1,3,4,5,6] ?_;refine pk' [3,0,1,2,4,5,6] ?_;refine d1 9 rfl (zR (M0:=[zc b1 [v2,I r59] 131]) Tryz.call52 (by intro w m h;exact rf (fun _ _=>(zz zG zK)) (zu (r_0_b:=r_0_b) (r_0_p:=r59) (n_1:=2) zk m.given (m.qM 5 hv2) h)) ?_);rintro ⟨r80,r81⟩ _;refine da [4,5,6] ?_;refine pk' [0,1,2,3,4,5,6] ?_;refine d1 10 rfl (zF xn 1 zf uW ?_);intro e82 h83;exact rd [4,5,6] [0,1,2,3,4,5,6] (H455 e74 h75 v100 bb101 bb102 v99 r80 r81 e82 h83)
        ·refine pk' [1,0,2,3,4,5] ?_;refine zR (vs:=[pp b1,I 2]) (M0:=[zc b1 [v2,I r59] 131]) Tryz.call52 (by intro w m h;exact rf (fun _ _=>(zz zG zK)) (zu (r_0_b:=r_0_b) (r_0_p:=r59) (n_1:=2) zk m.given (m.qM 3 hv2) h)) ?_;rintro ⟨r103,r104⟩ _;exact rd [2,3,4] [0,1,2,3,4,5] (H464 e74 h75 v99 r103 r104)
       have H466 (e74:(List zE)) (h75:xs16[(0:Int).toNat]?=some e74) (r123 r124:Int):NN 9 #[Y,Y,Y,Y,Y,Z,Y,Z,Y,Y,Z,Z,Z,Z,Z,Z,Z] [(4,pp b5),(5,pp b9),(48,.slice a66 l67 q68),(53,I t13),(51,pEl (.slice a66 l67 q68) 0 1 0),(56,I r123)] [zc b1 [v2,I r124] 131,zc b9 [.slice a66 l67 q68,.bool (decide (r7=0))] 25,zc b5 [S0,.bool false] 25,zl w0 F,jR (dSl jL 77) 47 bb18 (.slice a66 l67 q68) xs16] (zH ([0,t13]) r123 (fun e82=>xm e74 ([zE.mk ([]) 3 e82]) (fun _=>zH xs16 0 (fun e89=>k73 (xs16.set (0:Int).toNat (e74++([zE.mk ([]) 3 e82])),r124))))):=by
        refine dtw 5 7 rfl rfl ?_ ?_
        ·refine pk' [4,0,1,2,3] ?_;refine VQ (E1:=jL) (t1:=77) (zin:=e74) (encz:=fun v=>[v]) h75 (fun B w cs h=>h) Uz ?_;rintro v125 bb126 bb127;refine ⟨v125,rfl,?_⟩;refine da [3,4,5] ?_;refine pk' [2,0,1,3,4,5] ?_;refine d1 7 rfl (jK (enc:=jU) (cells:=[I 0,I t13]) ([0,t13]) jk (bqi rfl) uW ZQ ?_);intro v98;refine da [4,5,6] ?_;refine pk' [1,0,2,3,4,5,6] ?_;refine d1 10 rfl (zF xn 1 zf uW ?_);intro e82 h83;exact rd [4,5,6] [0,1,2,3,4,5,6] (H455 e74 h75 v125 bb126 bb127 v98 r123 r124 e82 h83)
        ·refine jK (enc:=jU) (cells:=[I 0,I t13]) ([0,t13]) jk (bqi rfl) uW ZQ ?_;intro v128;exact rd [2,3,4] [1,0,2,3,4,5] (H464 e74 h75 v128 r123 r124)
       have H472 (v129:Value) (r132 r133:Int):NN 9 #[Y,Y,Y,Y,Z,Z,Y,Y,Y,Y,Z,Z,Z,Z,Z,Z,Z] [(4,pp b5),(5,pp b9),(48,.slice a66 l67 q68),(50,.slice a66 l67 q68),(54,v129),(56,I r132)] [zc b1 [v2,I r133] 131,ze xI 3 v129 ([0,t13]),zc b9 [.slice a66 l67 q68,.bool (decide (r7=0))] 25,zc b5 [S0,.bool false] 25,zl w0 F,jR (dSl jL 77) 47 bb18 (.slice a66 l67 q68) xs16] ((zH xs16 0 (fun e134=>zH ([0,t13]) r132 (fun e82=>xm e134 ([zE.mk ([]) 3 e82]) (fun _=>zH xs16 0 (fun e89=>k73 (xs16.set (0:Int).toNat (e134++([zE.mk ([]) 3 e82])),r133))))))∧(zH ([0,t13]) r132 (fun e136=>zH xs16 0 (fun e138=>xm e138 ([zE.mk ([]) 3 e136]) (fun _=>zH xs16 0 (fun e89=>k73 (xs16.set (0:Int).toNat (e138++([zE.mk ([]) 3 e136])),r133))))))):=by
        refine dtw 4 10 rfl rfl ?_ ?_
        ·refine zaG ?_;refine zF xn 5 jM Zf ?_;intro e134 h135;exact rd [2,3,4] [0,1,2,3,4,5] (H464 e134 h135 v129 r132 r133)
        ·refine VZ ?_;refine zF xn 1 zf uW ?_;intro e136 h137;refine da [2,3,4] ?_;refine pk' [0,1,2,3,4,5] ?_;refine dtw 4 11 rfl rfl ?_ ?_
         ·refine zF xn 5 jM Zf ?_;intro e138 h139;exact rd [2,3,4] [0,1,2,3,4,5] (H463 e138 h139 v129 r132 r133 e136 h137)
         ·refine jr xn (enc:=jU) (u:=(I e136)) 1 zf jk h137 ty3 ?_;refine da [2,3,4] ?_;refine pk' [0,2,3,4,5] ?_;refine jF (dp 12 [1,2,3]) (cells:=[S0,I 3,I e136]) (bqi rfl) zeO ?_;refine dtw 4 13 rfl rfl ?_ ?_
          ·refine zF xn 4 jM Zf ?_;intro e140 h141;refine da [1,2,3] ?_;refine pk' [0,1,2,3,4] ?_;refine dtw 5 13 rfl rfl ?_ ?_
           ·refine pk' [4,0,1,2,3] ?_;refine VQ (E1:=jL) (t1:=77) (zin:=e140) (encz:=fun v=>[v]) h141 (fun B w cs h=>h) Uz ?_;rintro v142 bb143 bb144;refine ⟨v142,rfl,?_⟩;refine da [3,4,5] ?_;refine pk' [0,1,2,3,4,5] ?_;refine d1 13 rfl (uE (M:=[]) (E':=jL) (cs:=[S0,I 3,I e136]) (zE.mk ([]) 3 e136) (Xd (fun w=>⟨_,rfl,Dp.nil⟩)) (bqi rfl) Z8 ya ?_);intro bb117 v116;exact rd [4,5,6] [0,3,1,2,4,5,6] (H453 e140 h141 v142 bb143 bb144 v129 r132 r133 e136 h137 v116 bb117)
           ·refine uE (M:=[]) (E':=jL) (cs:=[S0,I 3,I e136]) (zE.mk ([]) 3 e136) (Xd (fun w=>⟨_,rfl,Dp.nil⟩)) (bqi rfl) Z8 ya ?_;intro bb146 v145;refine da [2,3,4] ?_;refine pk' [0,1,2,3,4,5] ?_;refine pk' [5,0,1,2,3,4] ?_;refine d1 5 rfl (VQ (E1:=jL) (t1:=77) (zin:=e140) (encz:=fun v=>[v]) h141 (fun B w cs h=>h) Uz ?_);rintro v120 bb121 bb122;refine ⟨v120,rfl,?_⟩;exact rd [4,5,6] [2,3,0,1,4,5,6] (H453 e140 h141 v120 bb121 bb122 v129 r132 r133 e136 h137 v145 bb146)
          ·refine uE (M:=[]) (E':=jL) (cs:=[S0,I 3,I e136]) (zE.mk ([]) 3 e136) (Xd (fun w=>⟨_,rfl,Dp.nil⟩)) (bqi rfl) Z8 ya ?_;intro bb148 v147;refine da [2,3,4] ?_;refine pk' [0,1,2,3,4,5] ?_;refine d1 4 rfl (zF xn 5 jM Zf ?_);intro e149 h150;refine da [2,3,4] ?_;refine pk' [0,1,2,3,4,5] ?_;refine pk' [5,0,1,2,3,4] ?_;refine d1 5 rfl (VQ (E1:=jL) (t1:=77) (zin:=e149) (encz:=fun v=>[v]) h150 (fun B w cs h=>h) Uz ?_);rintro v120 bb121 bb122;refine ⟨v120,rfl,?_⟩;exact rd [4,5,6] [2,3,0,1,4,5,6] (H453 e149 h150 v120 bb121 bb122 v129 r132 r133 e136 h137 v147 bb148)
       refine zw (dp 0 [1,2,3]) ua ?_;refine zm (dp 1 [1,2,3]) (v:=(.slice a66 l67 q68)) 0 XY ?_;refine zw (dp 2 [1,2,3]) ua ?_;refine zm (dp 3 [1,2,3]) (v:=(.slice a66 l67 q68)) 0 XY ?_;refine zt (dp 6 [1,2,3]) ?_;refine zt (dp 8 [1,2,3]) ?_;refine UH (i:=4) (j:=7) (l:=9) rfl rfl rfl (by kernel_rfl) ?_ ?_ ?_
       ·intro o ho;cases ho;refine zaG ?_;refine zF xn 4 jM Zf ?_;intro e74 h75;refine da [1,2,3] ?_;refine pk' [0,1,2,3,4] ?_;refine UH (i:=5) (j:=7) (l:=9) rfl rfl rfl (by kernel_rfl) ?_ ?_ ?_
        ·intro o ho;cases ho;refine pk' [4,0,1,2,3] ?_;refine VQ (E1:=jL) (t1:=77) (zin:=e74) (encz:=fun v=>[v]) h75 (fun B w cs h=>h) Uz ?_;rintro v76 bb77 bb78;refine ⟨v76,rfl,?_⟩;refine da [3,4,5] ?_;refine pk' [0,1,2,3,4,5] ?_;refine dtw 7 9 rfl rfl ?_ ?_
         ·refine jK (enc:=jU) (cells:=[I 0,I t13]) ([0,t13]) jk (bqi rfl) uW ZQ ?_;intro v79;refine da [4,5,6] ?_;refine pk' [0,1,2,3,4,5,6] ?_;refine pk' [3,0,1,2,4,5,6] ?_;refine d1 9 rfl (zR (M0:=[zc b1 [v2,I r59] 131]) Tryz.call52 (by intro w m h;exact rf (fun _ _=>(zz zG zK)) (zu (r_0_b:=r_0_b) (r_0_p:=r59) (n_1:=2) zk m.given (m.qM 5 hv2) h)) ?_);rintro ⟨r80,r81⟩ _;refine da [4,5,6] ?_;refine pk' [0,1,2,3,4,5,6] ?_;refine d1 10 rfl (zF xn 1 zf uW ?_);intro e82 h83;exact rd [4,5,6] [0,1,2,3,4,5,6] (H455 e74 h75 v76 bb77 bb78 v79 r80 r81 e82 h83)
         ·refine pk' [2,0,1,3,4,5] ?_;refine zR (vs:=[pp b1,I 2]) (M0:=[zc b1 [v2,I r59] 131]) Tryz.call52 (by intro w m h;exact rf (fun _ _=>(zz zG zK)) (zu (r_0_b:=r_0_b) (r_0_p:=r59) (n_1:=2) zk m.given (m.qM 4 hv2) h)) ?_;rintro ⟨r96,r97⟩ _;refine da [3,4,5] ?_;refine pk' [0,1,2,3,4,5] ?_;refine d1 7 rfl (jK (enc:=jU) (cells:=[I 0,I t13]) ([0,t13]) jk (bqi rfl) uW ZQ ?_);intro v98;refine da [4,5,6] ?_;refine pk' [1,0,2,3,4,5,6] ?_;refine d1 10 rfl (zF xn 1 zf uW ?_);intro e82 h83;exact rd [4,5,6] [0,1,2,3,4,5,6] (H455 e74 h75 v76 bb77 bb78 v98 r96 r97 e82 h83)
        ·intro o ho;cases ho;refine jK (enc:=jU) (cells:=[I 0,I t13]) ([0,t13]) jk (bqi rfl) uW ZQ ?_;intro v99;exact rd [2,3,4] [0,1,2,3,4,5] (H465 e74 h75 v99)
        ·intro o ho;cases ho;refine zR (vs:=[pp b1,I 2]) (M0:=[zc b1 [v2,I r59] 131]) Tryz.call52 (by intro w m h;exact rf (fun _ _=>(zz zG zK)) (zu (r_0_b:=r_0_b) (r_0_p:=r59) (n_1:=2) zk m.given (m.qM 2 hv2) h)) ?_;rintro ⟨r123,r124⟩ _;exact rd [1,2,3] [0,1,2,3,4] (H466 e74 h75 r123 r124)
       ·intro o ho;cases ho;refine VZ ?_;refine zaG ?_;refine jK (enc:=jU) (cells:=[I 0,I t13]) ([0,t13]) jk (bqi rfl) uW ZQ ?_;intro v129;refine da [2,3,4] ?_;refine pk' [0,1,2,3,4,5] ?_;refine dtw 4 9 rfl rfl ?_ ?_
        ·refine zaG ?_;refine zF xn 5 jM Zf ?_;intro e130 h131;exact rd [2,3,4] [0,1,2,3,4,5] (H465 e130 h131 v129)
        ·refine VZ ?_;refine pk' [1,0,2,3,4,5] ?_;refine zR (vs:=[pp b1,I 2]) (M0:=[zc b1 [v2,I r59] 131]) Tryz.call52 (by intro w m h;exact rf (fun _ _=>(zz zG zK)) (zu (r_0_b:=r_0_b) (r_0_p:=r59) (n_1:=2) zk m.given (m.qM 3 hv2) h)) ?_;rintro ⟨r132,r133⟩ _;exact rd [2,3,4] [0,1,2,3,4,5] (H472 v129 r132 r133)
       ·intro o ho;cases ho;refine VZ ?_;refine VZ ?_;refine zR (vs:=[pp b1,I 2]) (M0:=[zc b1 [v2,I r59] 131]) Tryz.call52 (by intro w m h;exact rf (fun _ _=>(zz zG zK)) (zu (r_0_b:=r_0_b) (r_0_p:=r59) (n_1:=2) zk m.given (m.qM 2 hv2) h)) ?_;rintro ⟨r151,r152⟩ _;refine da [1,2,3] ?_;refine pk' [0,1,2,3,4] ?_;refine dtw 4 7 rfl rfl ?_ ?_
        ·refine zaG ?_;refine zF xn 4 jM Zf ?_;intro e153 h154;exact rd [1,2,3] [0,1,2,3,4] (H466 e153 h154 r151 r152)
        ·refine VZ ?_;refine jK (enc:=jU) (cells:=[I 0,I t13]) ([0,t13]) jk (bqi rfl) uW ZQ ?_;intro v155;exact rd [2,3,4] [1,0,2,3,4,5] (H472 v155 r151 r152)
      ·rintro ⟨xs69,t72⟩ a w ⟨bb71,hE,hm⟩ h;refine jB hE hm h ?_;clear hE hm h;refine Zl ?_;exact zP (t72,xs69) (fun a w hE hm=>⟨.slice a66 l67 q68,bb71,hE.sub g2,hm.pick [1,2,3,4,0] rfl⟩)
     ·refine y0 ?_;refine jH st xW ?_;refine ma ?_;refine y1 ?_;refine zj ?_ ?_
      ·refine y0 ?_;refine zw st ua ?_;refine zm st (v:=v15) 1 XY ?_;refine mv ?_;refine yR st ?_;intro t156;refine jF st (cells:=[S0,I 3,I 0]) (bqi rfl) zeO ?_;refine stw (uE (M:=[]) (E':=jL) (cs:=[S0,I 3,I 0]) (zE.mk ([]) 3 0) (Xd (fun w=>⟨_,rfl,Dp.nil⟩)) (bqi rfl) Z8 ya ?_);intro bb158 v157;refine zF st 5 jM Zf ?_;intro e160 h161;refine uG 0 rfl ?_;rintro a162 l163 q164 rfl;refine pk' [5,0,1,2,3,4] ?_;refine stw (zeB (M:=[jR jL 77 bb158 (.slice a162 l163 q164) ([zE.mk ([]) 3 0])]) (y':=[zE.mk ([]) 3 0]) rfl h161 (fun w B cz h=>by obtain ⟨u,rfl,_⟩:=h;exact (xp ZK (fun B w h=>⟨_,rfl,h⟩))) Uz rfl rfl rfl rfl rfl ?_);intro bb165;refine y17 ?_;refine zw st ua ?_;refine zm st (v:=v15) 2 XY ?_;refine mv ?_;refine yR st ?_;intro t167;refine jF st (cells:=[S0,I 3,I t167]) (bqi rfl) zeO ?_;refine stw (uE (M:=[]) (E':=jL) (cs:=[S0,I 3,I t167]) (zE.mk ([]) 3 t167) (Xd (fun w=>⟨_,rfl,Dp.nil⟩)) (bqi rfl) Z8 ya ?_);intro bb169 v168;refine zF st 1 jM Zf ?_;intro e171 h172;refine uG 0 rfl ?_;rintro a173 l174 q175 rfl;refine pk' [1,0,2,3,4,5] ?_;refine stw (zeB (M:=[jR jL 77 bb169 (.slice a173 l174 q175) ([zE.mk ([]) 3 t167])]) (y':=[zE.mk ([]) 3 t167]) rfl h172 (fun w B cz h=>by obtain ⟨u,rfl,_⟩:=h;exact (xp ZK (fun B w h=>⟨_,rfl,h⟩))) Uz rfl rfl rfl rfl rfl ?_);intro bb176;refine y12 ?_;exact zP (r59,(xs16.set (t156).toNat ([zE.mk ([]) 3 0])).set (0:Int).toNat ([zE.mk ([]) 3 t167])) (fun a w hE hm=>⟨v15,bb176,hE.sub g2,hm.pick [1,2,3,4,0] rfl⟩)
      ·refine uG 4 rfl ?_;rintro a178 l179 q180 rfl;refine xN mixed 7 rfl [zc b9 [.slice a178 l179 q180,.bool (decide (r7=0))] 25,zc b5 [S0,.bool false] 25,zl w0 F] ?_;refine zw (dp 0 [1,2,3]) ua ?_;refine zm (dp 1 [1,2,3]) (v:=(.slice a178 l179 q180)) 0 XY ?_;refine zt (dp 2 [1,2,3]) ?_;refine zt (dp 3 [1,2,3]) ?_;refine d1 4 rfl (zR (M0:=[zc b1 [v2,I r59] 131]) Tryz.call96 (by intro w m h;exact rf (fun _ _=>(zz xU (zz zG zK))) (U1 (r_0_b:=r_0_b) (r_0_p:=r59) (first_1:=1) (chains_2:=t13) (n_3:=1) zk m.given (m.qM 2 hv2) h)) ?_);rintro ⟨r181,r185⟩ ⟨v182,bb183⟩;refine da [2,3,4] ?_;refine d1 5 rfl (zF xn 5 jM Zf ?_);intro e186 h187;refine da [2,3,4] ?_;refine uG 0 rfl ?_;rintro a188 l189 q190 rfl;refine pk' [5,0,1,2,3,4] ?_;refine d1 6 rfl (zeB (M:=[jR jL 77 bb183 (.slice a188 l189 q190) r181]) (y':=r181) rfl h187 (fun w B cz h=>by obtain ⟨u,rfl,_⟩:=h;exact (xp ZK (fun B w h=>⟨_,rfl,h⟩))) Uz rfl rfl rfl rfl rfl ?_);intro bb191;refine da [2,3,4] ?_;refine jp (by kernel_rfl) ?_;refine Zl ?_;exact zP (r185,xs16.set (0:Int).toNat r181) (fun a w hE hm=>⟨.slice a178 l179 q180,bb191,hE.sub g2,hm.pick [1,2,3,4,0] rfl⟩)
   ·refine jO ?_;exact zP (r57,xs16) (fun a w hE hm=>⟨v15,bb18,hE.sub g2,hm.pick [0,1,2,3,4] rfl⟩)
  ·rintro ⟨t253,xs255⟩ a w ⟨v254,bb257,hE,hm⟩ h;refine jB hE hm h ?_;clear hE hm h;refine y0 ?_;refine zm st (v:=(.agg #[v254,.bool (decide (r7=0))])) 1 Ya ?_;refine uG 4 rfl ?_;rintro a260 l261 q262 rfl;refine stw (zT (cs':=[.slice a260 l261 q262,.bool (decide (r7=0))]) 2 Ya ?_);refine y3 ?_;exact jj Tryz.results51 (zQ.mk xs255 (decide (r7=0)),t253) (.slice a260 l261 q262,bb257) (ZA 2 rfl rfl Ya rfl) (fun w m=>zN.ofB m [4,0] rfl)
theorem z8 {n_0:Int} {κ:Int→Prop} (hF:Fr [] F w0) (hgl0:Sl jb F w0 (.slice (some ⟨0,0,none⟩) 4 4) zB) (h:jn n_0 κ) :
  Cl Tryz.prog 113 #[(I n_0)] w0 [] F κ (fun r (u:Unit)=>(I r)) (fun r u=>[]):=by
 refine eS hF Tryz.func113 Tryz.ntmps113 h ?_;clear h hF;let JJ:=Jn 13 [] F w0;refine y0 ?_;refine ma ?_;refine y9 ?_;refine zZ (σ:=Bool) (fun t61=>JJ [(0,I n_0),(8,.bool t61)] [zl w0 F]) ?_ ?_
 ·intro k62;refine zr ?_;refine mv ?_;refine z7 st ?_;refine mv ?_;refine xd (dj:=5) rfl ?_ ?_
  ·refine ss ?_;refine ss ?_;refine zS st ?_;refine zA ?_;exact lj [0]
  ·refine zt (zO rfl rfl) ?_;refine UA (zO rfl rfl) ?_;refine zM st ?_;refine zA ?_;exact lj [0]
 ·rintro t61;refine nxj ?_;refine zj ?_ ?_
  ·refine y0 ?_;refine ma ?_;refine y6 ?_;exact lu Tryz.results113
  ·refine y8 ?_;refine mv ?_;refine xy st 0 (zb hgl0) zmE ?_;intro e63 h64;refine jv st 0 (zb hgl0) h64 zjJ ?_;refine jr st (enc:=XQ) (u:=(I e63.xTop)) 0 (zb hgl0) zaC h64 ty3 ?_;refine ma ?_;refine y3 ?_;exact lu Tryz.results113
theorem zc0 {t_0:jJ} {κ:Bool→Prop} (hF:Fr [] F w0) (hgl0:Sl jb F w0 (.slice (some ⟨0,0,none⟩) 4 4) zB) (h:Yi t_0 κ) :
  Cl Tryz.prog 236 #[(.agg #[(I t_0.xField),(I t_0.xLo),(I t_0.xHi),(.bool t_0.xNot)])] w0 [] F κ (fun r (u:Unit)=>(.bool r)) (fun r u=>[]):=by
 refine eS hF Tryz.func236 Tryz.ntmps236 h ?_;clear h hF;let JJ:=Jn 31 [] F w0;refine y0 ?_;refine stw (jV [I t_0.xField,I t_0.xLo,I t_0.xHi,.bool t_0.xNot] ?_);intro b1;refine ma ?_;refine y1 ?_;refine zZ (σ:=Bool) (fun t64=>JJ [(2,.bool t64)] [zl w0 F]) ?_ ?_
 ·intro k65;refine xN mixed 29 rfl [zc b1 [I t_0.xField,I t_0.xLo,I t_0.xHi,.bool t_0.xNot] 165,zl w0 F] ?_;refine zw (dI 0) yX ?_;refine zm (dI 1) (v:=(I t_0.xField)) 0 ty3 ?_;refine UA (dI 2) ?_;refine zt (dI 3) ?_;refine xd (dj:=6) rfl ?_ ?_
  ·refine zw (dtg 4 (fun _ m=>m)) yX ?_;refine zm (dtg 5 (fun _ m=>m)) (v:=(I t_0.xField)) 0 ty3 ?_;refine z7 (dtg 6 (fun _ m=>m)) ?_;refine zS (dI 7) ?_;refine zt (dI 8) ?_;refine xd (dj:=11) rfl ?_ ?_
   ·refine zw (dtg 9 (fun _ m=>m)) YC ?_;refine zm (dtg 10 (fun _ m=>m)) (v:=(I t_0.xLo)) 0 ty3 ?_;refine UA (dtg 11 (fun _ m=>m)) ?_;refine zS (dI 12) ?_;refine zt (dI 13) ?_;refine xd (dj:=16) rfl ?_ ?_
    ·refine zw (dtg 14 (fun _ m=>m)) YC ?_;refine zm (dtg 15 (fun _ m=>m)) (v:=(I t_0.xLo)) 0 ty3 ?_;refine zw (dtg 16 (fun _ m=>m)) Xn ?_;refine zm (dtg 17 (fun _ m=>m)) (v:=(I t_0.xHi)) 0 ty3 ?_;refine yQ (dtg 18 (fun _ m=>m)) ?_;refine zS (dI 19) ?_;refine zt (dI 20) ?_;refine xd (dj:=23) rfl ?_ ?_
     ·refine zw (dtg 21 (fun _ m=>m)) Xn ?_;refine zm (dtg 22 (fun _ m=>m)) (v:=(I t_0.xHi)) 0 ty3 ?_;refine zw (dtg 23 (fun _ m=>m)) yX ?_;refine zm (dtg 24 (fun _ m=>m)) (v:=(I t_0.xField)) 0 ty3 ?_;refine UD (i:=25) rfl rfl rfl (by kernel_rfl) (zh Tryz.call113 (by intro w m h;exact rf0 (z8 (n_0:=t_0.xField) zk (m.q 1 hgl0) h)) ?_);rintro r3 _;refine x8 (fun _ m=>m) ?_;refine yQ (dtg 26 (fun _ m=>m)) ?_;refine zS (dI 27) ?_;refine xe (dI 28) ?_;refine jp (by kernel_rfl) ?_;exact lj [1]
     ·refine dK 21 ?_;refine dK 22 ?_;refine dK 23 ?_;refine dK 24 ?_;refine dK 25 ?_;refine dK 26 ?_;refine zM (dI 27) ?_;refine xe (dI 28) ?_;refine jp (by kernel_rfl) ?_;exact lj [1]
    ·refine dK 14 ?_;refine dK 15 ?_;refine dK 16 ?_;refine dK 17 ?_;refine dK 18 ?_;refine zM (dI 19) ?_;refine zt (dI 20) ?_;refine dK 21 ?_;refine dK 22 ?_;refine dK 23 ?_;refine dK 24 ?_;refine dK 25 ?_;refine dK 26 ?_;refine zM (dI 27) ?_;refine xe (dI 28) ?_;refine jp (by kernel_rfl) ?_;exact lj [1]
   ·refine dK 9 ?_;refine dK 10 ?_;refine dK 11 ?_;refine zM (dI 12) ?_;refine zt (dI 13) ?_;refine dK 14 ?_;refine dK 15 ?_;refine dK 16 ?_;refine dK 17 ?_;refine dK 18 ?_;refine zM (dI 19) ?_;refine zt (dI 20) ?_;refine dK 21 ?_;refine dK 22 ?_;refine dK 23 ?_;refine dK 24 ?_;refine dK 25 ?_;refine dK 26 ?_;refine zM (dI 27) ?_;refine xe (dI 28) ?_;refine jp (by kernel_rfl) ?_;exact lj [1]
  ·refine dK 4 ?_;refine dK 5 ?_;refine dK 6 ?_;refine zM (dI 7) ?_;refine zt (dI 8) ?_;refine dK 9 ?_;refine dK 10 ?_;refine dK 11 ?_;refine zM (dI 12) ?_;refine zt (dI 13) ?_;refine dK 14 ?_;refine dK 15 ?_;refine dK 16 ?_;refine dK 17 ?_;refine dK 18 ?_;refine zM (dI 19) ?_;refine zt (dI 20) ?_;refine dK 21 ?_;refine dK 22 ?_;refine dK 23 ?_;refine dK 24 ?_;refine dK 25 ?_;refine dK 26 ?_;refine zM (dI 27) ?_;refine xe (dI 28) ?_;refine jp (by kernel_rfl) ?_;exact lj [1]
 ·rintro t64;refine nxj ?_;refine uA ?_;exact lu Tryz.results236
theorem zcF {v1:Value} {list_0:(List jJ)} {κ:Bool→Prop} (hF:Fr [] F w0) (hv1:Sl uY F w0 v1 list_0) (hgl0:Sl jb F w0 (.slice (some ⟨0,0,none⟩) 4 4) zB) (h:XM list_0 κ) :
  Cl Tryz.prog 208 #[v1] w0 [] F κ (fun r (u:Unit)=>(.bool r)) (fun r u=>[]):=by
 refine eS hF Tryz.func208 Tryz.ntmps208 h ?_;clear h hF;let JJ:=Jn 18 [] F w0;refine y0 ?_;refine ma ?_;refine y4 ?_;refine mv ?_;refine zJ st VO 0 (zb hv1) ?_;refine uv st ?_;refine y1 ?_;refine zj ?_ ?_
 ·refine y0 ?_;refine ma ?_;refine y6 ?_;exact lu Tryz.results208
 ·refine y13 ?_;refine mv ?_;refine zJ st VO 0 (zb hv1) ?_;refine mv ?_;refine y5 ?_;refine jh (σ:=Int) (fun t3=>JJ [(8,v1),(9,I (list_0.length:Int)),(10,I t3)] [zl w0 F]) (jI [0]) ?_;rintro nx4 t3;refine nxj ?_;refine y0 ?_;refine z7 st ?_;refine y9 ?_;refine zj ?_ ?_
  ·refine y11 ?_;refine zF st 0 (zb hv1) VO ?_;intro e5 h6;refine jr st (enc:=ZF) (u:=(.agg #[I e5.xField,I e5.xLo,I e5.xHi,.bool e5.xNot])) 0 (zb hv1) x6 h6 U5 ?_;refine stw (jg [I 0,I 0,I 0,.bool false] Ys ?_);intro b7;refine stw (zT (cs':=[I e5.xField,I e5.xLo,I e5.xHi,.bool e5.xNot]) 0 U5 ?_);refine y2 ?_;refine zm st (v:=(.agg #[I e5.xField,I e5.xLo,I e5.xHi,.bool e5.xNot])) 0 U5 ?_;refine stw (zh Tryz.call236 (by intro w m h;exact rf0 (zc0 (t_0:=e5) zk (m.q 1 hgl0) h)) ?_);rintro r9 _;refine jC st ?_;refine y1 ?_;refine zj ?_ ?_
   ·refine y0 ?_;refine ma ?_;refine y16 ?_;exact lu Tryz.results208
   ·refine y14 ?_;refine zU st ?_;intro t10;refine mv ?_;refine zA ?_;exact lj [1]
  ·refine y7 ?_;refine ma ?_;refine y3 ?_;exact lu Tryz.results208
theorem zc6 {v1:Value} {r_0:zE} {κ:Bool→Prop} (hF:Fr [] F w0) (hv1:Sl uY F w0 v1 r_0.xTests) (hgl0:Sl jb F w0 (.slice (some ⟨0,0,none⟩) 4 4) zB) (h:X9 r_0 κ) :
  Cl Tryz.prog 162 #[(.agg #[v1,(I r_0.xAction),(I r_0.xChain)])] w0 [] F κ (fun r (u:Unit)=>(.bool r)) (fun r u=>[]):=by
 refine eS hF Tryz.func162 Tryz.ntmps162 h ?_;clear h hF;let JJ:=Jn 27 [] F w0;refine y0 ?_;obtain ⟨a3,l4,q5,rfl⟩:=zx hv1;refine stw (jV [.slice a3 l4 q5,I r_0.xAction,I r_0.xChain] ?_);intro b6;refine ma ?_;refine y4 ?_;refine zw st VL ?_;refine zm st (v:=(.slice a3 l4 q5)) 0 zhy ?_;refine stw (zh Tryz.call208 (by intro w m h;exact rf0 (zcF (list_0:=r_0.xTests) zk (m.q 1 hv1) (m.q 1 hgl0) h)) ?_);rintro r8 _;refine jC st ?_;refine y1 ?_;refine zj ?_ ?_
 ·refine y0 ?_;refine ma ?_;refine y6 ?_;exact lu Tryz.results162
 ·refine y13 ?_;refine zw st Yr ?_;refine zm st (v:=(I r_0.xAction)) 0 ty3 ?_;refine y26 ?_;refine jH st xW ?_;refine ma ?_;refine y1 ?_;refine zj ?_ ?_
  ·refine zZ (σ:=Bool) (fun t69=>JJ [(2,.bool t69)] [zl w0 F]) ?_ ?_
   ·intro k70;refine zr ?_;refine zw st Yb ?_;refine zm st (v:=(I r_0.xChain)) 0 ty3 ?_;refine UA st ?_;refine mv ?_;refine xd (dj:=14) rfl ?_ ?_
    ·refine zw (zO rfl rfl) Yb ?_;refine zm (zO rfl rfl) (v:=(I r_0.xChain)) 0 ty3 ?_;refine z7 (zO rfl rfl) ?_;refine zS st ?_;refine ma ?_;refine zA ?_;exact lj [1]
    ·refine ss ?_;refine ss ?_;refine ss ?_;refine zM st ?_;refine ma ?_;refine zA ?_;exact lj [1]
   ·rintro t69;refine nxj ?_;refine uA (u7 (xK ?_));exact lu Tryz.results162
  ·refine zZ (σ:=Bool) (fun t131=>JJ [(1,pp b6),(19,.bool t131)] [zc b6 [.slice a3 l4 q5,I r_0.xAction,I r_0.xChain] 77,zl w0 F]) ?_ ?_
   ·intro k132;refine y0 ?_;refine jH st xW ?_;refine ma ?_;refine y1 ?_;refine zj ?_ ?_
    ·refine jO ?_;exact lj [0,1]
    ·refine y0 ?_;refine jH st xW ?_;refine ma ?_;refine y1 ?_;refine zj ?_ ?_
     ·refine jO ?_;exact lj [0,1]
     ·refine y0 ?_;refine jH st xW ?_;refine ma ?_;refine y1 ?_;refine zj ?_ ?_
      ·refine jO ?_;exact lj [0,1]
      ·refine zr ?_;refine jH st xW ?_;refine ma ?_;refine zA ?_;exact lj [0,1]
   ·rintro t131;refine nxj ?_;refine zj ?_ ?_
    ·refine y0 ?_;refine zw st Yb ?_;refine zm st (v:=(I r_0.xChain)) 0 ty3 ?_;refine jH st xW ?_;refine ma ?_;refine y24 ?_;exact lu Tryz.results162
    ·refine jO (Zl (zX (jw (zr ?_))));refine ma ?_;refine y3 ?_;exact lu Tryz.results162
theorem zcG {v1:Value} {list_0:(List zE)} {κ:Bool→Prop} (hF:Fr [] F w0) (hv1:Sl xH F w0 v1 list_0) (hgl0:Sl jb F w0 (.slice (some ⟨0,0,none⟩) 4 4) zB) (h:XE list_0 κ) :
  Cl Tryz.prog 109 #[v1] w0 [] F κ (fun r (u:Unit)=>(.bool r)) (fun r u=>[]):=by
 refine eS hF Tryz.func109 Tryz.ntmps109 h ?_;clear h hF;let JJ:=Jn 18 [] F w0;refine y0 ?_;refine ma ?_;refine y4 ?_;refine mv ?_;refine zJ st Z8 0 (zb hv1) ?_;refine uv st ?_;refine y1 ?_;refine zj ?_ ?_
 ·refine y0 ?_;refine ma ?_;refine y6 ?_;exact lu Tryz.results109
 ·refine y13 ?_;refine mv ?_;refine zJ st Z8 0 (zb hv1) ?_;refine mv ?_;refine y5 ?_;refine jh (σ:=Int) (fun t3=>JJ [(8,v1),(9,I (list_0.length:Int)),(10,I t3)] [zl w0 F]) (jI [0]) ?_;rintro nx4 t3;refine nxj ?_;refine y0 ?_;refine z7 st ?_;refine y9 ?_;refine zj ?_ ?_
  ·refine y11 ?_;refine zF st 0 (zb hv1) Z8 ?_;intro e5 h6;obtain ⟨_,⟨v8,rfl,sl9⟩,rw7⟩:=je hv1 h6;refine jq st (u:=(.agg #[v8,I e5.xAction,I e5.xChain])) 0 rw7 Va ?_;refine stw (jg [S0,I 0,I 0] ya ?_);intro b11;obtain ⟨a13,l14,q15,rfl⟩:=zx sl9;refine stw (zT (cs':=[.slice a13 l14 q15,I e5.xAction,I e5.xChain]) 0 Va ?_);refine y2 ?_;refine zm st (v:=(.agg #[.slice a13 l14 q15,I e5.xAction,I e5.xChain])) 0 Va ?_;refine stw (zh Tryz.call162 (by intro w m h;exact rf0 (zc6 (r_0:=e5) zk (m.q 1 sl9) (m.q 1 hgl0) h)) ?_);rintro r16 _;refine jC st ?_;refine y1 ?_;refine zj ?_ ?_
   ·refine y0 ?_;refine ma ?_;refine y16 ?_;exact lu Tryz.results109
   ·refine y14 ?_;refine zU st ?_;intro t17;refine mv ?_;refine zA ?_;exact lj [1]
  ·refine y7 ?_;refine ma ?_;refine y3 ?_;exact lu Tryz.results109
end
end Go.Proofs.YtgpdnnhmndlljaaGreatDoor
