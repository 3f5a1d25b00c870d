import Derived.Test.YtgpdnnhmndlljaaGreatDoorMA1
import Derived.Test.YtgpdnnhmndlljaaGreatDoorMP12
import Derived.Lib.AppendZeros
import Derived.ArgAppend
import Derived.Test.YtgpdnnhmndlljaaGreatDoorRows
import Derived.Test.YtgpdnnhmndlljaaGreatDoorLibS
set_option linter.unusedSimpArgs false
set_option linter.unusedVariables false
set_option linter.unusedSectionVars false
set_option maxHeartbeats 8000000
set_option maxRecDepth 100000
namespace Go.Proofs.YtgpdnnhmndlljaaGreatDoor
section
open Go.RowKit
abbrev I (x:Int):Value:=.int .i64 x
abbrev pp (b:Nat):Value:=.pointer (some ⟨b,0,none⟩)
abbrev S0:Value:=.slice none 0 0
abbrev Y:Bool:=true
abbrev Z:Bool:=false
section
variable {P:Program} {n:Nat} {G D:Nat→Prop} {w0:World} {Q:Exit→Act→World→Prop} {ops:Array Oper} {rest:List Oper} {R:Act→World→Prop} {E E':Env} {L L' Lb:List Ch} {φ:Prop} {k:Nat} {listed:Array Bool}
theorem g1 {α:Type} {a:α}:a=a∧True:=⟨rfl,trivial⟩
theorem g2 {α:Type} {a b:α}:a=a∧b=b∧True:=⟨rfl,g1⟩
theorem g3 {α:Type} {a b c:α}:a=a∧b=b∧c=c∧True:=⟨rfl,g2⟩
theorem g4 {α:Type} {a b c d:α}:a=a∧b=b∧c=c∧d=d∧True:=⟨rfl,g3⟩
theorem g5 {α:Type} {a b c d e:α}:a=a∧b=b∧c=c∧d=d∧e=e∧True:=⟨rfl,g4⟩
theorem g6 {α:Type} {a b c d e f:α}:a=a∧b=b∧c=c∧d=d∧e=e∧f=f∧True:=⟨rfl,g5⟩
theorem rh (l:List Nat) (h:Nx n G D w0 R E' L' φ) (hs:zfz E E':=by repeat (first | exact trivial | refine ⟨rfl,?_⟩)) (hl:X1 L l=L':=by rfl) (hn:X3 l=true:=by rfl):Nx n G D w0 R E L φ:=by
 subst hl;exact pk l hn (re hs h)
theorem pk' (l:List Nat) (h:Nx n G D w0 R E (X1 L l) φ) (hl:X3 l=true:=by rfl):Nx n G D w0 R E L φ:=pk l hl h
theorem da (l:List Nat) {K:Act→World→Prop} (h:Nx n G D w0 K E L φ) (hl:X1 L l=Lb:=by rfl) (hn:X3 l=true:=by rfl):Nx n G D w0 (fun a w=>Mem G D w0 Lb w∧K a w) E L φ:=by
 subst hl;exact ut (fun w m=>m.pick l hn) h
theorem rd (l1 l2:List Nat) {K:Act→World→Prop} (h:Nx n G D w0 K E' L' φ) (hs:zfz E E':=by repeat (first | exact trivial | refine ⟨rfl,?_⟩)) (hl2:X1 L l2=L':=by rfl) (hn2:X3 l2=true:=by rfl) (hl:X1 L l1=Lb:=by rfl) (hn:X3 l1=true:=by rfl):Nx n G D w0 (fun a w=>Mem G D w0 Lb w∧K a w) E L φ:=by
 subst hl;exact ut (fun w m=>m.pick l1 hn) (rh l2 h hs hl2 hn2)
theorem dp {dst:Option Tmp} {op:Op} {ty:TypeId} {pos:String} {aft:Array Edge} (i:Nat) (l:List Nat) [hQ:PanicOk Q] (hl:X1 L l=Lb:=by rfl) (hn:X3 l=true:=by rfl) (hi:ops[i]?=some ⟨dst,op,ty,pos,aft,none⟩:=by rfl) (hr:zfp ops listed i=true:=by kernel_rfl) :
  uv P n G D w0 E ⟨dst,op,ty,pos,aft,none⟩ (wpAnyH P .any ops Q (Mem G D w0 Lb) (k+1) listed) (wpAnyH P .any ops Q (Mem G D w0 Lb) k (listed.setIfInBounds i true)) Lb L:=by
 subst hl;exact dt i (fun w m=>m.pick l hn) hi hr
theorem dI {dst:Option Tmp} {op:Op} {ty:TypeId} {pos:String} {aft:Array Edge} (i:Nat) [hQ:PanicOk Q] (hi:ops[i]?=some ⟨dst,op,ty,pos,aft,none⟩:=by rfl) (hr:zfp ops listed i=true:=by kernel_rfl) :
  uv P n G D w0 E ⟨dst,op,ty,pos,aft,none⟩ (wpAnyH P .any ops Q (Mem G D w0 L) (k+1) listed) (wpAnyH P .any ops Q (Mem G D w0 L) k (listed.setIfInBounds i true)) L L:=dt i (fun _ m=>m) hi hr
theorem dK (i:Nat) {op:Op} {ty:TypeId} {pos:String} {aft:Array Edge} {d:Tmp} {j dj:Nat} {want:Bool} {v:Value} [hQ:PanicOk Q] (h:Nx n G D w0 (wpAnyH P .any ops Q (Mem G D w0 L) k (listed.setIfInBounds i true)) ((d,undef) :: E) L φ)
  (hi:ops[i]?=some ⟨some d,op,ty,pos,aft,some (j,want)⟩:=by rfl) (hr:zfp ops listed i=true:=by kernel_rfl) (hj:(ops[j]?).bind (·.dst)=some dj:=by rfl) (hv:Ua E dj=some v:=by rfl) (hb:nw v want=true:=by rfl) (hd:Nat.blt d n=true:=by rfl):Nx n G D w0 (wpAnyH P .any ops Q (Mem G D w0 L) (k+1) listed) E L φ :=
 dsk i (fun _ m=>m) hi hr hj hv hb hd h
theorem ss {op:Op} {ty:TypeId} {pos:String} {aft:Array Edge} {d:Tmp} {j dj:Nat} {want:Bool} {v:Value} (h:Nx n G D w0 (wpList P ops Q rest) ((d,undef) :: E) L φ) (hj:(ops[j]?).bind (·.dst)=some dj:=by rfl) (hv:Ua E dj=some v:=by rfl) (hb:nw v want=true:=by rfl) (hd:Nat.blt d n=true:=by rfl):Nx n G D w0 (wpList P ops Q (⟨some d,op,ty,pos,aft,some (j,want)⟩ :: rest)) E L φ :=
 zmE hj hv hb hd h
theorem mv {d:Tmp} {x:Operand} {ty:TypeId} {pos:String} {aft:Array Edge} {v:Value} (h:Nx n G D w0 (wpList P ops Q rest) ((d,v) :: E) L φ) (hx:oev E x=some v:=by rfl) (hd:Nat.blt d n=true:=by rfl):Nx n G D w0 (wpList P ops Q (⟨some d,.move x,ty,pos,aft,none⟩ :: rest)) E L φ:=YJ st hx hd h
theorem ma {d:Tmp} {x:Operand} {ty:TypeId} {pos:String} {aft:Array Edge} {v:Value} (h:Nx n G D w0 (wpList P ops Q rest) ((d,v) :: E) L φ) (hx:oev E x=some v:=by rfl) (hd:Nat.blt d n=true:=by rfl):Nx n G D w0 (wpList P ops Q (⟨some d,.assign x,ty,pos,aft,none⟩ :: rest)) E L φ:=za4 st hx hd h
theorem jI (l:List Nat) (hs:zfz E E':=by repeat (first | exact trivial | refine ⟨rfl,?_⟩)) (hl:X1 L l=L':=by rfl) (hn:X3 l=true:=by rfl):∀ a w,Has n E a→Mem G D w0 L w→Has n E' a∧Mem G D w0 L' w:=by
 subst hl;exact fun a w hE hm=>⟨hE.sub hs,hm.pick l hn⟩
theorem jE {α:Type} {E':α→Env} {L':α→List Ch} (v:α) (l:List Nat) (hs:zfz E (E' v):=by repeat (first | exact trivial | refine ⟨rfl,?_⟩)) (hl:X1 L l=L' v:=by rfl) (hn:X3 l=true:=by rfl):∀ a w,Has n E a→Mem G D w0 L w→∃ v,Has n (E' v) a∧Mem G D w0 (L' v) w:=fun a w hE hm=>⟨v,hE.sub hs,hl ▸ hm.pick l hn⟩
theorem lj {σ:Type} {k:σ→Prop} {Rel:σ→Act→World→Prop} {s:σ} (l:List Nat) (hr:∀ a w,Has n E' a→Mem G D w0 L' w→Rel s a w:=by exact fun _ _ x y=>⟨x,y⟩) (hs:zfz E E':=by repeat (first | exact trivial | refine ⟨rfl,?_⟩)) (hl:X1 L l=L':=by rfl) (hn:X3 l=true:=by rfl):Nx n G D w0 (Exit.then (fun a w=>∃ s,k s∧Rel s a w) Q .normal) E L (k s):=by
 subst hl;exact zO s (fun a w hE hm=>hr a w (hE.sub hs) (hm.pick l hn))
theorem dj {σ:Type} {K:σ→Prop} {Rel:σ→Act→World→Prop} {s:σ} (hQ:∀ s a w,K s→Rel s a w→Q .normal a w) (l:List Nat) (hr:∀ a w,Has n E' a→Mem G D w0 L' w→Rel s a w:=by exact fun _ _ x y=>⟨x,y⟩) (hs:zfz E E':=by repeat (first | exact trivial | refine ⟨rfl,?_⟩)) (hl:X1 L l=L':=by rfl) (hn:X3 l=true:=by rfl) (hd:Region.ready .any ops listed=[]:=by kernel_rfl):Nx n G D w0 (wpAnyH P .any ops Q (Mem G D w0 Lb) k listed) E L (K s):=by
 subst hl;exact jU hd (fun a w hE hm hφ=>hQ s a w hφ (hr a w (hE.sub hs) (hm.pick l hn)))
end
abbrev Jn (n:Nat) (M0:List Ch) (F:Nat→Prop) (w0:World) (E:Env) (L:List Ch) (a:Act) (w:World):Prop:=Has n E a∧Mem (gB F M0 w0) (uy M0) w0 L w
abbrev Nn (n:Nat) (M0:List Ch) (F:Nat→Prop) (w0:World) (P:Program) (ops:Array Oper) (Q:Exit→Act→World→Prop) (Lb:List Ch) (i:Nat) (l:Array Bool) (E:Env) (L:List Ch) (φ:Prop):Prop :=
 Nx n (gB F M0 w0) (uy M0) w0 (wpAnyH P .any ops Q (Mem (gB F M0 w0) (uy M0) w0 Lb) i l) E L φ
abbrev Fr (M0:List Ch) (F:Nat→Prop) (w0:World):Prop:=∀ b,F b→b<w0.heap.size∧¬ uy M0 b
theorem nxj {n:Nat} {G D:Nat→Prop} {w0:World} {R:Act→World→Prop} {E:Env} {L:List Ch} {φ:Prop} (h:Nx n G D w0 R E L φ):∀ a w,(Has n E a∧Mem G D w0 L w)→φ→R a w:=fun a w x y=>h a w x.1 x.2 y
def bq (E:Env):List (Nat×Operand)→Option (List (Nat×Value))
 | []=>some []
 | (i,x) :: r=>match oev E x,bq E r with
  | some v,some q=>some ((i,v) :: q)
  | _,_=>none
theorem bqi {E:Env}:∀ {l:List (Nat×Operand)} {qs:List (Nat×Value)},bq E l=some qs→∀ ρ:Operand→Value,(∀ x v,oev E x=some v→ρ x=v)→(l.toArray.map fun (i,x)=>(i,ρ x))=qs.toArray
 | [],qs,h,ρ,hρ=>by cases h;simp
 | (i,x) :: r,qs,h,ρ,hρ=>by
  unfold bq at h
  cases e1:oev E x with
  | none=>rw [e1] at h;cases h
  | some v =>
   cases e2:bq E r with
   | none=>rw [e1,e2] at h;cases h
   | some q =>
    rw [e1,e2] at h
    cases h
    have:=bqi e2 ρ hρ
    simp only [List.map_toArray,List.map_cons] at this ⊢
    rw [hρ x v e1,List.toArray_inj this]
section
variable {P:Program} {n:Nat} {G D:Nat→Prop} {w0:World} {E:Env} {L:List Ch}
theorem lu {M0:List Ch} {ρ:Type} {F:Nat→Prop} {fn:Func} {s:Nat} {κ:ρ→Prop} {val:ρ→Unit→Value} {r:ρ} (hres:fn.results=#[.tmp s]) (hs:Ua E s=some (val r ()):=by rfl):Nx n G (uy M0) w0 (bodyPost P fn (Ret M0 F w0 κ val (fun _ _=>[])) .ret) E L (κ r):=jv hres r () (jx hs) (fun _ _=>zU.nil _ _ _ _)
theorem d1 {dst:Option Tmp} {op:Op} {ty:TypeId} {pos:String} {aft:Array Edge} {ops:Array Oper} {Q:Exit→Act→World→Prop} {Lb:List Ch} {k:Nat} {listed:Array Bool} {φ:Prop} (i:Nat) (hi:ops[i]?=some ⟨dst,op,ty,pos,aft,none⟩)
  (h:Nx n G D w0 (fun a w=>Oper.wp P ⟨dst,op,ty,pos,aft,none⟩ a w (fun a' w'=>Mem G D w0 Lb w'∧wpAnyH P .any ops Q (Mem G D w0 Lb) k (listed.setIfInBounds i true) a' w') Q) E L φ) (hr:Region.ready .any ops listed=[i]:=by kernel_rfl):Nx n G D w0 (wpAnyH P .any ops Q (Mem G D w0 Lb) (k+1) listed) E L φ:=zkO hi hr h
end
theorem eS {P:Program} {n:Nat} {w0:World} {φ:Prop} {F:Nat→Prop} {f:Nat} {fn:Func} {c:Code} {args:List Value} {K:Ending→World→Prop} (hF:Fr [] F w0) (hf:P.funcs[f]?=some fn) (hn:fn.ntmps=n) (hφ:φ) (h:Nx n (gB F [] w0) (uy []) w0 (c.wp P (bodyPost P fn K)) (zaf 0 args) ([]++[zh w0 F]) φ) (hb:fn.body=some c:=by rfl) (hle:Nat.ble args.length n=true:=by rfl):Calls P f args.toArray w0 K :=
 yP [] hF (uC.nil _ _) hf hb hn hle hφ h
theorem rf {P:Program} {f:Nat} {ar:Array Value} {ρ ν:Type} {M0:List Ch} {F F':Nat→Prop} {w:World} {κ:ρ→Prop} {val:ρ→ν→Value} {N:ρ→ν→List Ch} (hf:∀ r s,∀ c∈N r s,c.free) (h:Calls P f ar w (Ret M0 F w κ val N)):Calls P f ar w (Ret M0 F' w κ val N):=h.mono (fun _ _ k=>zjH hf k)
theorem rf0 {P:Program} {f:Nat} {ar:Array Value} {ρ ν:Type} {M0:List Ch} {F F':Nat→Prop} {w:World} {κ:ρ→Prop} {val:ρ→ν→Value} (h:Calls P f ar w (Ret M0 F w κ val (fun _ _=>[]))):Calls P f ar w (Ret M0 F' w κ val (fun _ _=>[])):=rf (fun _ _=>zY) h
theorem Mem.q {G D:Nat→Prop} {w0 wr:World} {F0:Nat→Prop} {α:Type} {El':El α} {v:Value} {xs:List α} {w:World} {L:List Ch} (m:Mem G D w0 L w) (i:Nat) (S:Sl El' F0 wr v xs) (hi:xD L i=some (zh wr F0):=by rfl):Sl El' (fun b=>b<w.heap.size∧¬ uy [] b) w v xs:=m.rd0 i hi (zd S)
theorem Mem.qM {G D:Nat→Prop} {w0 wr:World} {F0:Nat→Prop} {α:Type} {El':El α} {v:Value} {xs:List α} {w:World} {M0 L':List Ch} (m:Mem G D w0 (M0++L') w) (i:Nat) (S:Sl El' F0 wr v xs) (hi:xD L' i=some (zh wr F0):=by rfl):Sl El' (fun b=>b<w.heap.size∧¬ uy M0 b) w v xs:=m.rdM i hi (zd S)
end
section
open Go.RowKit
section
variable {P:Program} {n:Nat} {G D:Nat→Prop} {w0:World} {Q:Exit→Act→World→Prop} {ops:Array Oper} {rest:List Oper} {R:Act→World→Prop} {E:Env} {L:List Ch} {φ:Prop}
theorem zk {c:Operand} {x y:Code} {t:Bool} {A B:Prop} (hx:Nx n G D w0 (x.wp P Q) E L A) (hy:Nx n G D w0 (y.wp P Q) E L B) (hc:oev E c=some (.bool t):=by rfl):Nx n G D w0 ((Code.cond c x y).wp P Q) E L (ifW t A B) :=
 fun a w hE hm hφ=>wp_cond_split (hE.eval hc) (fun h=>hx a w hE hm (hφ.1 h)) (fun h=>hy a w hE hm (hφ.2 h))
end
section
variable {P:Program} {n:Nat} {G D:Nat→Prop} {w0:World} {Q:Exit→Act→World→Prop} {R:Act→World→Prop} {E:Env} {L Lb:List Ch} {φ:Prop}
variable {dst:Option Tmp} {op:Op} {ty:TypeId} {pos:String} {aft:Array Edge} {ops:Array Oper} {listed:Array Bool} {k:Nat}
end
section
variable {P:Program} {n:Nat} {G D:Nat→Prop} {w0:World} {Q:Exit→Act→World→Prop} {R:Act→World→Prop} {E:Env} {L M:List Ch} {φ:Prop}
variable {d:Tmp} {ty:TypeId} {pos:String} {aft:Array Edge} {gd:Option (Nat×Bool)} {Tk:Act→World→Prop} {Lr:List Ch} {x y:Operand} {T T' S:TypeId} {e sz by':Nat}
end
section
variable {P:Program} {n:Nat} {G D:Nat→Prop} {w0:World} {Q:Exit→Act→World→Prop} {R:Act→World→Prop} {E:Env} {L:List Ch} {φ:Prop}
variable {d:Tmp} {ty:TypeId} {pos:String} {aft:Array Edge} {gd:Option (Nat×Bool)} {Tk:Act→World→Prop} {Lr:List Ch} {x y:Operand} {T T' S:TypeId} {e sz by':Nat}
end
section
variable {P:Program} {n:Nat} {G D:Nat→Prop} {w0:World} {Q:Exit→Act→World→Prop} {R:Act→World→Prop} {E:Env} {L:List Ch} {φ:Prop}
variable {d:Tmp} {ty:TypeId} {pos:String} {aft:Array Edge} {gd:Option (Nat×Bool)} {Tk:Act→World→Prop} {Lr:List Ch} {x y:Operand} {T T':TypeId}
theorem zW (M:uv P n G D w0 E ⟨some d,.binOp .add T x y T',ty,pos,aft,gd⟩ Tk R Lr L) {X Y:Int} {κ:Int→Prop} (k:∀ z,Nx n G D w0 R ((d,.int .i64 z) :: E) L (κ z)) (hx:oev E x=some (.int .i64 X):=by rfl) (hy:oev E y=some (.int .i64 Y):=by rfl) (hd:Nat.blt d n=true:=by rfl):Nx n G D w0 Tk E L (jz X Y κ) :=
 M.val (v:=.int .i64 (X+Y)) hd rfl (fun ρ w hE _ hφ=>by
  have h:=hφ.1
  have e:IntKind.i64.wrap (X+Y)=X+Y:=by unfold I64 at h;rw [IntKind.wrap_i64];omega
  simp [execOp,hE _ _ hx,hE _ _ hy,go_sem,e]) (fun h=>h.2) (k _)
theorem UB (M:uv P n G D w0 E ⟨some d,.binOp .add T x y T',ty,pos,aft,gd⟩ Tk R Lr L) {X Y:Int} (k:Nx n G D w0 R ((d,.int .i64 (w64 (X+Y))) :: E) L φ) (hx:oev E x=some (.int .i64 X):=by rfl) (hy:oev E y=some (.int .i64 Y):=by rfl) (hd:Nat.blt d n=true:=by rfl):Nx n G D w0 Tk E L φ :=
 M.val hd rfl (fun ρ w hE _ _=>by simp [execOp,hE _ _ hx,hE _ _ hy,go_sem,w64]) id k
end
section
variable {P:Program} {n:Nat} {G D:Nat→Prop} {w0:World} {Q:Exit→Act→World→Prop} {R:Act→World→Prop} {E:Env} {L:List Ch} {φ:Prop}
variable {d:Tmp} {ty:TypeId} {pos:String} {aft:Array Edge} {gd:Option (Nat×Bool)} {Tk:Act→World→Prop} {Lr:List Ch} {x y:Operand} {T T' S:TypeId}
theorem jj (cs:List Value) (hz:uJ P T=some cs) (k:∀ b,Nx n G D w0 R ((d,.pointer (some ⟨b,0,none⟩)) :: E) (zb b cs T :: L) φ) (hd:Nat.blt d n=true:=by rfl):Nx n G D w0 (fun a w=>Oper.wp P ⟨some d,.alloc T,ty,pos,aft,gd⟩ a w R Q) E L φ:=zbK hd cs hz k
end
section
variable {P:Program} {n:Nat} {G D:Nat→Prop} {w0:World} {Q:Exit→Act→World→Prop} {R:Act→World→Prop} {E:Env} {L:List Ch} {φ:Prop}
variable {d:Tmp} {ty:TypeId} {pos:String} {aft:Array Edge} {gd:Option (Nat×Bool)} {Tk:Act→World→Prop} {Lr:List Ch} {x y:Operand} {T T' S:TypeId} {e sz by':Nat}
theorem xY {α:Type} {El':El α} {z:α} {len:Nat} {cs zs:List Value} (hz:∀ F w,El'.cells F w z zs) (hzr:uJ P T=some cs) (k:∀ b,Nx n G D w0 R ((d,.pointer (some ⟨b,0,none⟩)) :: E) (zg El' T (.slice (some ⟨b,0,none⟩) len len) (List.replicate len z) :: L) φ) (hd:Nat.blt d n=true:=by rfl) (hcs:(List.replicate len zs).flatten=cs:=by rfl) (hlen:Nat.ble len 65536=true:=by rfl):Nx n G D w0 (fun a w=>Oper.wp P ⟨some d,.alloc T,ty,pos,aft,gd⟩ a w R Q) E L φ :=
 X2 hd rfl fun ρ w hE hm hφ=>by
  unfold uJ at hzr
  cases hi:P.info? T with
  | none=>simp [hi] at hzr
  | some i =>
   cases hz':i.zero with
   | none=>simp [hi,hz'] at hzr
   | some zv =>
    simp [hi,hz'] at hzr
    have hlz:zs.length=El'.size:=El'.len _ _ _ _ (hz (fun _=>True) w)
    refine ⟨_,w.alloc (.cells cs.toArray T),_,φ,by simp [execOp,Instr.alloc,zeroValue,typeInfo,hi,hz',newVar,newRow,← hzr],?_,hφ,k w.heap.size⟩
    refine hm.add _ ((Below.refl _ _).alloc (Nat.le_refl _) _) (fun b hb=>by simp [zg,Value.ownBlock] at hb;rw [World.size_alloc];omega) ?_
    have hle:=Nat.le_of_ble_eq_true hlen
    have hown:=zaI (El':=El') (F:=fz G (zg El' T (.slice (some ⟨w.heap.size,0,none⟩) len len) (List.replicate len z) :: L) (w.alloc (.cells cs.toArray T))) (w:=w.alloc (.cells cs.toArray T)) (ty:=T) (b:=w.heap.size) (cap:=len)
     (Rows.replicate (hz _ _) len) (heap_alloc_new w _) (by simp) (by unfold maxLen;omega) (by rw [← hcs];simp [hlz]) (by
      rw [← hcs,List.length_replicate,List.take_of_length_le (by simp [hlz])])
    rw [List.length_replicate] at hown
    exact hown
end
section
variable {P:Program} {n:Nat} {G D:Nat→Prop} {w0:World} {Q:Exit→Act→World→Prop} {R:Act→World→Prop} {E:Env} {L:List Ch} {φ:Prop}
variable {d:Tmp} {ty:TypeId} {pos:String} {aft:Array Edge} {gd:Option (Nat×Bool)} {Tk:Act→World→Prop} {Lr:List Ch} {x y:Operand} {T T' S:TypeId} {e sz by':Nat}
theorem xq {α:Type} {El':El α} {v u:Value} {xs ys:List α} {c:Ch} {κ:List α→Prop} {zs:List Value} (i:Nat) (j:Nat) (hc:Src c El' u ys) (hT:elB P T=some (e,sz,by')) (hzr:uJ P e=some zs) (k:∀ v',Nx n G D w0 R ((d,v') :: E) (yH L i (zg El' e v' (xs++ys))) (κ (xs++ys))) (hi:xD L i=some (zg El' e v xs):=by rfl) (hj:xD L j=some c:=by rfl) (hx:oev E x=some v:=by rfl) (hy:oev E y=some u:=by rfl) (hd:Nat.blt d n=true:=by rfl) (hby:Nat.ble by' 32768=true:=by rfl) (hzl:zs.length=sz:=by rfl) (hes:El'.size=sz:=by rfl):Nx n G D w0 (fun a w=>Oper.wp P ⟨some d,.call {callee:=.builtin .append,args:=#[x,y],argTypes:=#[T,T]},ty,pos,aft,gd⟩ a w R Q) E L (jw xs ys κ):=zkN i j hi hj hc hx hy hd hT hby hzr hzl hes k
end
section
variable {P:Program} {n:Nat} {G D:Nat→Prop} {w0:World} {Q:Exit→Act→World→Prop} {R:Act→World→Prop} {E:Env} {L M:List Ch} {φ:Prop}
variable {d:Tmp} {ty:TypeId} {pos:String} {aft:Array Edge} {gd:Option (Nat×Bool)} {Tk:Act→World→Prop} {Lr:List Ch} {x y:Operand} {T T' S:TypeId} {e sz by':Nat}
theorem yT {α:Type} {E':DEl α} {v u:Value} {xs ys:List α} {B C:List Nat} {κ:List α→Prop} {zs:List Value} (hT:elB P T=some (e,sz,by')) (hzr:uJ P e=some zs) (k:∀ B' v',Nx n G D w0 R ((d,v') :: E) (jp E' e B' v' (xs++ys) :: L) (κ (xs++ys))) (hx:oev E x=some v:=by rfl) (hy:oev E y=some u:=by rfl) (hd:Nat.blt d n=true:=by rfl) (hby:Nat.ble by' 32768=true:=by rfl) (hzl:zs.length=sz:=by rfl) (hes:E'.el.size=sz:=by rfl):Nx n G D w0 (fun a w=>Oper.wp P ⟨some d,.call {callee:=.builtin .append,args:=#[x,y],argTypes:=#[T,T]},ty,pos,aft,gd⟩ a w R Q) E (jp E' e B v xs :: jp E' e C u ys :: L) (jw xs ys κ) :=
 X2 hd rfl fun ρ w hE hm hφ=>by
  obtain ⟨h0,h1⟩:=hφ
  obtain ⟨hu,inf,hinf,rfl,rfl⟩:=yh hT
  obtain ⟨z',hz',hzc⟩:=yK hzr hinf
  unfold zcH at h0
  have hbl:=Nat.le_of_ble_eq_true hby
  obtain ⟨bn,css,Bs,hr,how,hB⟩:=hm.hold _ (List.mem_cons_self ..)
  obtain ⟨cn,dss,Cs,hrd,hod,hC⟩:=hm.hold (jp E' e C u ys) (List.mem_cons_of_mem _ (List.mem_cons_self ..))
  have hdis:∀ b,b∈B→b ∉ C:=fun b hb=>(List.pairwise_cons.1 hm.disj).1 _ (List.mem_cons_self ..) b hb
  have hBn:=hB.nodup_iff.1 bn
  have hCn:=hC.nodup_iff.1 cn
  rw [List.nodup_append] at hBn hCn
  have hinB:∀ b,b∈Bs.flatten→b∈B:=fun b hb=>hB.symm.subset (List.mem_append.2 (.inr hb))
  have hinC:∀ b,b∈Cs.flatten→b∈C:=fun b hb=>hC.symm.subset (List.mem_append.2 (.inr hb))
  have hvB:∀ b,v.ownBlock=some b→b∈B:=fun b hb=>hB.symm.subset (List.mem_append.2 (.inl (yn.2 hb)))
  have hlB:=hr.lt
  have hlC:=hrd.lt
  have hone:=(hrd.rows (F:=fun _=>True) (fun _ _=>trivial)).one
  have hlen:=(hrd.rows (F:=fun _=>True) (fun _ _=>trivial)).length
  rw [hes] at hlen
  have hsrc:∃ a cap,u=.slice a ys.length cap∧((∃ ad,a=some ad∧∀ j q,dss.flatten[j]?=some q→w.cell? (ad.add j)=some q)∨(ys=[]∧a=none)):=by
   rcases hod.2 with ⟨rfl,hn⟩ | ⟨g,cap,cur,rfl,_,hg,_,_,_,ht⟩
   ·have:ys=[]:=List.eq_nil_of_length_eq_zero hn
    subst this
    exact ⟨none,0,rfl,.inr ⟨rfl,rfl⟩⟩
   ·refine ⟨_,cap,rfl,.inl ⟨_,rfl,fun j q hq=>?_⟩⟩
    rw [Addr.add_mid,cell_of_row w g _ cur e (0,0) hg]
    rw [← ht,List.getElem?_take] at hq
    split at hq
    ·simpa using hq
    ·cases hq
  obtain ⟨a,cap,rfl,hsrc⟩:=hsrc
  rcases hsrc with ⟨ad,rfl,hcell⟩ | ⟨rfl,rfl⟩
  ·obtain ⟨v',w',g1,g2,g3,_,g5⟩:=run_append_own_at (P:=P) w 0 T ty e inf z' inf.size inf.bytes hu hinf hz' rfl rfl (by rw [hzc];simpa using hzl) (by rw [← hes];exact E'.el.pos)
    v xs.length css.flatten (by rw [← hes];exact how) ad ys.length cap dss.flatten hlen hcell hone (by unfold maxLen;omega) (by
     have:=Nat.mul_le_mul h0 hbl
     omega) (Nat.zero_le _)
   have hv':∀ b,v'.ownBlock=some b→v.ownBlock=some b∨b=w.heap.size:=fun b hb=>by
    rcases g5 with g5 | g5
    ·exact .inl (by rw [← g5];exact hb)
    ·right;rw [hb] at g5;simpa using g5
   have hkeepB:∀ b,b∈Bs.flatten→w'.heap[b]?=w.heap[b]?:=fun b hb=>g3.block b (hlB b hb) (fun e'=>hBn.2.2 b (yn.2 e'.symm) b hb rfl)
   have hkeepC:∀ b,b∈Cs.flatten→w'.heap[b]?=w.heap[b]?:=fun b hb=>g3.block b (hlC b hb) (fun e'=>hdis b (hvB b e'.symm) (hinC b hb))
   refine ⟨v',w',_,κ (xs++ys),by simp [execOp,resolve,invoke,builtin,hE _ _ hx,hE _ _ hy,g1],?_,h1,k (U5 v'++(Bs++Cs).flatten) v'⟩
   refine hm.repl (M0:=[jp E' e B v xs,jp E' e C (.slice (some ad) ys.length cap) ys]) (N:=[jp E' e (U5 v'++(Bs++Cs).flatten) v' (xs++ys)])
    ⟨g3.os,g3.tape,g3.output,g3.size,fun b hb hne=>g3.block b hb (fun e'=>hne ⟨_,List.mem_cons_self ..,hvB b e'.symm⟩)⟩ (fun c hc b hb=>?_) (List.pairwise_singleton _ _) (fun c hc F=>?_)
   ·simp only [List.mem_cons,List.not_mem_nil,or_false] at hc
    subst hc
    have hb':b∈U5 v'++(Bs++Cs).flatten:=hb
    rw [List.flatten_append] at hb'
    have hsz:=g3.size
    rcases List.mem_append.1 hb' with hb' | hb'
    ·have hlt:=(g2.lt b (yn.1 hb')).2
     rcases hv' b (yn.1 hb') with h | h
     ·exact ⟨.inr ⟨_,List.mem_cons_self ..,hvB b h⟩,hlt⟩
     ·exact ⟨.inl (by omega),hlt⟩
    ·rcases List.mem_append.1 hb' with hb' | hb'
     ·exact ⟨.inr ⟨_,List.mem_cons_self ..,hinB b hb'⟩,by have:=hlB b hb';omega⟩
     ·exact ⟨.inr ⟨_,List.mem_cons_of_mem _ (List.mem_cons_self ..),hinC b hb'⟩,by have:=hlC b hb';omega⟩
   ·simp only [List.mem_cons,List.not_mem_nil,or_false] at hc
    subst hc
    refine ⟨?_,css++dss,Bs++Cs,(hr.keep hkeepB).append (hrd.keep hkeepC),by rw [List.flatten_append,List.length_append,hes];exact g2,List.Perm.refl _⟩
    rw [List.flatten_append,List.nodup_append,List.nodup_append]
    refine ⟨zdE _,⟨hBn.2.1,hCn.2.1,fun b hb c hc e'=>hdis b (hinB b hb) (by rw [e'];exact hinC c hc)⟩,fun b hb c hc e'=>?_⟩
    subst e'
    rcases hv' b (yn.1 hb) with h | h
    ·rcases List.mem_append.1 hc with hc | hc
     ·exact hBn.2.2 b (yn.2 h) b hc rfl
     ·exact hdis b (hvB b h) (hinC b hc)
    ·rcases List.mem_append.1 hc with hc | hc
     ·have:=hlB b hc;omega
     ·have:=hlC b hc;omega
  ·have hrun:(Builtin.append_ #[T,T] ty #[v,.slice none 0 cap]).run P w=.ok v w:=by
    rcases how.2 with ⟨rfl,hn0⟩ | ⟨g,cap',cur,rfl,_,_,hnc,_⟩
    ·simp [Builtin.append_,run_underlying hu,sizeOf,typeInfo,hinf,Builtin.lenOf,Builtin.firstCells]
    ·simp [Builtin.append_,run_underlying hu,sizeOf,typeInfo,hinf,Builtin.lenOf,Builtin.firstCells,hnc,storeCells]
   refine ⟨v,w,jp E' e B v xs :: L,κ xs,by simp [execOp,resolve,invoke,builtin,hE _ _ hx,hE _ _ hy,hrun],hm.sub ((List.sublist_cons_self _ _).cons_cons _),by simpa using h1,?_⟩
   have:=k B v
   rwa [List.append_nil] at this
end
section
variable {P:Program} {n:Nat} {G D:Nat→Prop} {w0:World} {Q:Exit→Act→World→Prop} {R:Act→World→Prop} {E:Env} {L:List Ch} {φ:Prop}
variable {d:Tmp} {ty:TypeId} {pos:String} {aft:Array Edge} {gd:Option (Nat×Bool)} {Tk:Act→World→Prop} {Lr:List Ch} {x y:Operand} {T T':TypeId}
theorem uw (M:uv P n G D w0 E ⟨some d,.assign x,ty,pos,aft,gd⟩ Tk R Lr L) {v:Value} (k:Nx n G D w0 R ((d,v) :: E) L φ) (hx:oev E x=some v:=by rfl) (hd:Nat.blt d n=true:=by rfl):Nx n G D w0 Tk E L φ:=za4 M hx hd k
end
section
variable {P:Program} {n:Nat} {G D:Nat→Prop} {w0:World} {Q:Exit→Act→World→Prop} {R:Act→World→Prop} {E:Env} {L M:List Ch} {φ:Prop}
variable {d:Tmp} {ty:TypeId} {pos:String} {aft:Array Edge} {gd:Option (Nat×Bool)} {Tk:Act→World→Prop} {Lr:List Ch} {x y:Operand} {T T' S:TypeId} {e sz by':Nat}
theorem Xf {α:Type} (E':DEl α) (e:TypeId) (k:Nx n G D w0 R ((d,.slice none 0 0) :: E) (jp E' e [] (.slice none 0 0) [] :: L) φ) (hx:oev E x=some (.slice none 0 0):=by rfl) (hd:Nat.blt d n=true:=by rfl):Nx n G D w0 (fun a w=>Oper.wp P ⟨some d,.assign x,ty,pos,aft,gd⟩ a w R Q) E L φ :=
 X2 hd rfl fun ρ w hE hm hφ=>⟨_,w,_,φ,by simp [execOp,hE _ _ hx],V9 E' e hm,hφ,k⟩
end
section
variable {P:Program} {n:Nat} {G D:Nat→Prop} {w0:World} {Q:Exit→Act→World→Prop} {R:Act→World→Prop} {E:Env} {L:List Ch} {φ:Prop}
variable {d:Tmp} {ty:TypeId} {pos:String} {aft:Array Edge} {gd:Option (Nat×Bool)} {Tk:Act→World→Prop} {Lr:List Ch} {x y:Operand} {T T' S:TypeId} {e sz by':Nat}
theorem jP {α:Type} (El':El α) (e:Nat) (k:Nx n G D w0 R ((d,.slice none 0 0) :: E) (zg El' e (.slice none 0 0) [] :: L) φ) (hx:oev E x=some (.slice none 0 0):=by rfl) (hd:Nat.blt d n=true:=by rfl):Nx n G D w0 (fun a w=>Oper.wp P ⟨some d,.assign x,ty,pos,aft,gd⟩ a w R Q) E L φ :=
 X2 hd rfl fun ρ w hE hm hφ=>⟨_,w,_,φ,by simp [execOp,hE _ _ hx],zb9 El' e hm,hφ,k⟩
end
section
variable {P:Program} {n:Nat} {G D:Nat→Prop} {w0:World} {Q:Exit→Act→World→Prop} {R:Act→World→Prop} {E:Env} {L:List Ch} {φ:Prop}
variable {d:Tmp} {ty:TypeId} {pos:String} {aft:Array Edge} {gd:Option (Nat×Bool)} {Tk:Act→World→Prop} {Lr:List Ch} {x y:Operand} {T T' S:TypeId}
end
section
variable {P:Program} {n:Nat} {G D:Nat→Prop} {w0:World} {Q:Exit→Act→World→Prop} {R:Act→World→Prop} {E:Env} {L:List Ch} {φ:Prop}
variable {d:Tmp} {ty:TypeId} {pos:String} {aft:Array Edge} {gd:Option (Nat×Bool)} {Tk:Act→World→Prop} {Lr:List Ch} {x y:Operand} {T T' S:TypeId} {e sz by':Nat} {at':Array TypeId}
theorem zfL {b:BinOp} (M:uv P n G D w0 E ⟨some d,.binOp b T x y T',ty,pos,aft,gd⟩ Tk R Lr L) {u v:Value} (c:Value) (hr:∀ w,(do eqGuard b T x y u v;binOp b T u v:Sem Value).run P w=.ok c w) (k:Nx n G D w0 R ((d,c) :: E) L φ) (hx:oev E x=some u:=by rfl) (hy:oev E y=some v:=by rfl) (hd:Nat.blt d n=true:=by rfl):Nx n G D w0 Tk E L φ :=
 M.val hd rfl (fun ρ w hE _ _=>by
  have h:=hr w
  simp only [execOp,hE _ _ hx,hE _ _ hy]
  rw [Sem.run_bind,h]
  rfl) id k
end
section
variable {P:Program} {n:Nat} {G D:Nat→Prop} {w0:World} {Q:Exit→Act→World→Prop} {R:Act→World→Prop} {E:Env} {L:List Ch} {φ:Prop}
variable {d:Tmp} {ty:TypeId} {pos:String} {aft:Array Edge} {gd:Option (Nat×Bool)} {Tk:Act→World→Prop} {Lr:List Ch} {x y:Operand} {T T' S:TypeId} {e sz by':Nat}
theorem jK {ps:Array (Nat×Operand)} (M:uv P n G D w0 E ⟨some d,.build T ps,ty,pos,aft,gd⟩ Tk R Lr L) {qs:List (Nat×Value)} {cells zs:List Value} {pl:Array (Nat×Nat)} (hq:∀ ρ:Operand→Value,(∀ x v,oev E x=some v→ρ x=v)→(ps.map fun (i,x)=>(i,ρ x))=qs.toArray) (hT:zaD P T=some (pl,zs)) (k:Nx n G D w0 R ((d,.agg cells.toArray) :: E) L φ) (hd:Nat.blt d n=true:=by rfl) (hfill':VT (pl[·]?) zs qs=some cells:=by rfl):Nx n G D w0 Tk E L φ :=
 M.val hd rfl (fun ρ w hE hm _=>by
  have hfill:=zcb _ _ _ _ hfill'
  unfold zaD at hT
  split at hT
  ·rename_i fs zs' hu hz
   cases hp:(fs.toList.mapM fun (f:Field)=>(P.info? f.type).map fun i=>(f.offset,i.size)) with
   | none=>rw [hp] at hT;simp at hT
   | some l =>
    rw [hp] at hT
    simp at hT
    obtain ⟨rfl,rfl⟩:=hT
    have hr:=zdA (w:=w) fs.toList l hp
    cases hi:P.info? T with
    | none=>simp [uJ,hi] at hz
    | some i =>
     obtain ⟨z,hz1,hz2⟩:=yK hz hi
     have hr':(fs.mapM fun f=>(do pure (f.offset,← sizeOf f.type):Sem (Nat×Nat))).run P w=.ok l.toArray w:=by
      have h2:(fs.mapM fun f=>(do pure (f.offset,← sizeOf f.type):Sem (Nat×Nat)))=Functor.map List.toArray (fs.toList.mapM fun f=>(do pure (f.offset,← sizeOf f.type):Sem (Nat×Nat))):=by
       rw [← List.mapM_toArray,Array.toArray_toList]
      rw [h2,map_eq_pure_bind,Sem.run_bind,hr]
      rfl
     have hz3:(zeroValue T).run P w=.ok z w:=by simp [zeroValue,typeInfo,hi,hz1]
     have hb:(Instr.build T qs.toArray).run P w=.ok (.agg cells.toArray) w:=by
      unfold Instr.build
      rw [Sem.run_bind,hz3,Result.andThen_ok,Sem.run_bind,run_underlying hu,Result.andThen_ok]
      simp only
      rw [Sem.run_bind,hr',Result.andThen_ok]
      rw [hz2,hfill]
      rfl
     simp only [execOp,hq ρ hE,Sem.run_bind,hb]
     rfl
  ·simp at hT) id k
end
section
variable {P:Program} {n:Nat} {G D:Nat→Prop} {w0:World} {Q:Exit→Act→World→Prop} {R:Act→World→Prop} {E:Env} {L:List Ch} {φ:Prop}
variable {d:Tmp} {ty:TypeId} {pos:String} {aft:Array Edge} {gd:Option (Nat×Bool)} {Tk:Act→World→Prop} {Lr:List Ch} {x y:Operand} {T T' S:TypeId}
theorem zbO {ps:Array (Nat×Operand)} (M:uv P n G D w0 E ⟨some d,.build T ps,ty,pos,aft,gd⟩ Tk R Lr L) {qs:List (Nat×Value)} {cells zs:List Value} {sz:Nat} (hq:∀ ρ:Operand→Value,(∀ x v,oev E x=some v→ρ x=v)→(ps.map fun (i,x)=>(i,ρ x))=qs.toArray) (hT:zly P T=some (sz,zs)) (k:Nx n G D w0 R ((d,.agg cells.toArray) :: E) L φ) (hd:Nat.blt d n=true:=by rfl) (hfill':VT (fun i=>some (i * sz,sz)) zs qs=some cells:=by rfl):Nx n G D w0 Tk E L φ :=
 M.val hd rfl (fun ρ w hE hm _=>by
  have hfill:=zcb _ _ _ _ hfill'
  unfold zly at hT
  split at hT
  ·rename_i l e zs' hu hz
   cases he:P.info? e with
   | none=>simp [he] at hT
   | some j =>
    simp [he] at hT
    obtain ⟨rfl,rfl⟩:=hT
    cases hi:P.info? T with
    | none=>simp [uJ,hi] at hz
    | some i =>
     obtain ⟨z,hz1,hz2⟩:=yK hz hi
     have hz3:(zeroValue T).run P w=.ok z w:=by simp [zeroValue,typeInfo,hi,hz1]
     have hb:(Instr.build T qs.toArray).run P w=.ok (.agg cells.toArray) w:=by
      unfold Instr.build
      rw [Sem.run_bind,hz3,Result.andThen_ok,Sem.run_bind,run_underlying hu,Result.andThen_ok]
      simp only
      rw [Sem.run_bind]
      have:(sizeOf e).run P w=.ok j.size w:=by simp [sizeOf,typeInfo,he]
      rw [this,Result.andThen_ok,hz2]
      rw [hfill]
      rfl
     simp only [execOp,hq ρ hE,Sem.run_bind,hb]
     rfl
  ·simp at hT) id k
end
section
variable {P:Program} {n:Nat} {G D:Nat→Prop} {w0:World} {Q:Exit→Act→World→Prop} {R:Act→World→Prop} {E:Env} {L:List Ch} {φ:Prop}
variable {d:Tmp} {ty:TypeId} {pos:String} {aft:Array Edge} {gd:Option (Nat×Bool)} {Tk:Act→World→Prop} {Lr:List Ch} {x y:Operand} {T T' S:TypeId}
theorem xL {v:Value} (cs:List Value) (k:∀ b,Nx n G D w0 R ((d,.pointer (some ⟨b,0,none⟩)) :: E) (zb b cs T :: L) φ) (hx:oev E x=some v:=by rfl) (hd:Nat.blt d n=true:=by rfl) (hcs:v.cells=cs.toArray:=by rfl):Nx n G D w0 (fun a w=>Oper.wp P ⟨some d,.box T x,ty,pos,aft,gd⟩ a w R Q) E L φ :=
 X2 hd rfl fun ρ w hE hm hφ=>⟨_,w.alloc (.cells cs.toArray T),_,φ,by simp [execOp,hE _ _ hx,Instr.box,newVar,newRow,hcs],ze5 hm rfl,hφ,k w.heap.size⟩
end
section
variable {P:Program} {n:Nat} {G D:Nat→Prop} {w0:World} {Q:Exit→Act→World→Prop} {R:Act→World→Prop} {E:Env} {L M:List Ch} {φ:Prop}
variable {d:Tmp} {ty:TypeId} {pos:String} {aft:Array Edge} {gd:Option (Nat×Bool)} {Tk:Act→World→Prop} {Lr:List Ch} {x y:Operand} {T T' S:TypeId} {e sz by':Nat}
theorem ZS {α:Type} {El':El α} {v:Value} {cs:List Value} {len:Nat} (xs:List α) (css:List (List Value)) (hr:∀ w,Mem G D w0 L w→Rows El' (fz G L w) w xs css) (k:∀ b,Nx n G D w0 R ((d,.pointer (some ⟨b,0,none⟩)) :: E) (zg El' T (.slice (some ⟨b,0,none⟩) len len) xs :: L) φ) (hx:oev E x=some v:=by rfl) (hd:Nat.blt d n=true:=by rfl) (hcs:v.cells=cs.toArray:=by rfl) (hfl:css.flatten=cs:=by rfl) (hl:xs.length=len:=by rfl) (hlen:Nat.ble len 65536=true:=by rfl):Nx n G D w0 (fun a w=>Oper.wp P ⟨some d,.box T x,ty,pos,aft,gd⟩ a w R Q) E L φ:=zd5 xs css hr hx hd hcs hfl hl hlen k
end
section
variable {P:Program} {n:Nat} {G D:Nat→Prop} {w0:World} {Q:Exit→Act→World→Prop} {R:Act→World→Prop} {E:Env} {L:List Ch} {φ:Prop}
variable {d:Tmp} {ty:TypeId} {pos:String} {aft:Array Edge} {gd:Option (Nat×Bool)} {Tk:Act→World→Prop} {Lr:List Ch} {x y:Operand} {T T' S:TypeId} {e sz by':Nat}
theorem xe {α:Type} {El':El α} {enc:α→List Value} {len:Nat} {ps:Array (Nat×Operand)} {qs:List (Nat×Value)} {zs cells:List Value} (xs:List α) (hfl:UA El' enc) (hq:∀ ρ:Operand→Value,(∀ x v,oev E x=some v→ρ x=v)→(ps.map fun (i,x)=>(i,ρ x))=qs.toArray) (hT:elB P T=some (e,sz,by')) (hzr:uJ P e=some zs) (k:∀ v,Nx n G D w0 R ((d,v) :: E) (zg El' e v xs :: L) φ) (hd:Nat.blt d n=true:=by rfl) (hes:El'.size=sz:=by rfl) (hlen:Nat.ble (len * sz) 16777216=true:=by rfl) (hxl:xs.length=len:=by rfl) (hzl:Nat.beq zs.length sz=true:=by rfl) (hfill':VT (fun i=>some (i * sz,sz)) (List.replicate len zs).flatten qs=some cells:=by rfl) (hcells:(xs.map enc).flatten=cells:=by rfl):Nx n G D w0 (fun a w=>Oper.wp P ⟨some d,.buildSlice T len ps,ty,pos,aft,gd⟩ a w R Q) E L φ :=
 X2 hd rfl fun ρ w hE hm hφ=>by
  obtain ⟨hu,i,hi,rfl,rfl⟩:=yh hT
  obtain ⟨z',hz',hzc⟩:=yK hzr hi
  have hle:=Nat.le_of_ble_eq_true hlen
  have hzl':=Nat.eq_of_beq_eq_true hzl
  have hpos:0<zs.length:=by rw [hzl',← hes];exact El'.pos
  have hmade:(Array.range (len * i.size)).map (zs.toArray[· % zs.toArray.size]!)=(List.replicate len zs).flatten.toArray:=by
   have:=Zg zs len hpos
   rw [hzl'] at this
   unfold madeCells at this
   rw [← this]
  have hfill0:=zcb _ _ _ _ hfill'
  have hfill:Instr.fill (fun j=>some (j * i.size,i.size)) ((Array.range (len * i.size)).map ((if len * i.size=0 then #[] else zs.toArray)[· % (if len * i.size=0 then #[] else zs.toArray).size]!)) qs=some cells.toArray:=by
   by_cases h0:len * i.size=0
   ·have hl0:len=0:=by
     rcases Nat.mul_eq_zero.1 h0 with h | h
     ·exact h
     ·have:=El'.pos;omega
    subst hl0
    simpa [Array.range_zero'] using hfill0
   ·simp only [h0,if_false]
    rw [hmade]
    exact hfill0
  refine ⟨.slice (some ⟨w.heap.size,0,none⟩) len len,w.alloc (.cells cells.toArray e),_,φ,?_,?_,hφ,k _⟩
  ·have hn:¬ (16777216<len * i.size):=by omega
   have hq':=hq ρ hE
   simp only [execOp,Instr.buildSlice,Sem.run_bind,run_underlying hu,Result.andThen_ok,hq']
   by_cases h0:len * i.size=0
   ·simp [h0] at hfill
    simp [sizeOf,typeInfo,hi,h0,newRow,hfill]
   ·simp [h0] at hfill
    simp [sizeOf,typeInfo,hi,h0,hn,zeroValue,hz',hzc,newRow,hfill]
  ·refine hm.add _ ((Below.refl _ _).alloc (Nat.le_refl _) _) (fun b hb=>by simp [zg,Value.ownBlock] at hb;rw [World.size_alloc];omega) ?_
   have hrows:∀ (F:Nat→Prop) (w:World) (xs:List α),Rows El' F w xs (xs.map enc):=by
    intro F w xs
    induction xs with
    | nil=>trivial
    | cons x r ih=>exact ⟨(hfl _ _ _ _).2 rfl,ih⟩
   have hl:=(hrows (fun _=>True) w xs).length
   rw [hcells,hxl] at hl
   subst hxl
   refine zaI (hrows _ _ xs) (heap_alloc_new w _) (Nat.le_refl _) ?_ (by simpa using hl) ?_
   ·have hp:=El'.pos
    have:xs.length≤xs.length * i.size:=Nat.le_mul_of_pos_right _ (by omega)
    unfold maxLen;omega
   ·rw [hcells,← hl,List.take_of_length_le (by simp)]
end
section
variable {P:Program} {n:Nat} {G D:Nat→Prop} {w0:World} {Q:Exit→Act→World→Prop} {R:Act→World→Prop} {E:Env} {L M:List Ch} {φ:Prop}
variable {d:Tmp} {ty:TypeId} {pos:String} {aft:Array Edge} {gd:Option (Nat×Bool)} {Tk:Act→World→Prop} {Lr:List Ch} {x y:Operand} {T T' S:TypeId} {e sz by':Nat}
theorem uK {α:Type} {E':DEl α} {ps:Array (Nat×Operand)} {qs:List (Nat×Value)} {zs cs:List Value} (y0:α) (hc:zdR M E' y0 cs) (hq:∀ ρ:Operand→Value,(∀ x v,oev E x=some v→ρ x=v)→(ps.map fun (i,x)=>(i,ρ x))=qs.toArray) (hT:elB P T=some (e,sz,by')) (hzr:uJ P e=some zs) (k:∀ B v,Nx n G D w0 R ((d,v) :: E) (jp E' e B v [y0] :: L) φ) (hd:Nat.blt d n=true:=by rfl) (hes:E'.el.size=sz:=by rfl) (hlen:Nat.ble (1 * sz) 16777216=true:=by rfl) (hzl:Nat.beq zs.length sz=true:=by rfl) (hfill':VT (fun i=>some (i * sz,sz)) (List.replicate 1 zs).flatten qs=some cs:=by rfl):Nx n G D w0 (fun a w=>Oper.wp P ⟨some d,.buildSlice T 1 ps,ty,pos,aft,gd⟩ a w R Q) E (M++L) φ :=
 X2 hd rfl fun ρ w hE hm hφ=>by
  have hp:=E'.el.pos
  have hrun:=ze9 (P:=P) (w:=w) (qs:=qs) hT hzr (by omega) hlen hzl hfill'
  obtain ⟨B,b1,b2,b3⟩:=hc _ w (zgh hm)
  have hlt:=E'.lt _ _ _ _ b2
  have hl:cs.length=sz:=by rw [← hes];exact E'.el.len _ _ _ _ (E'.read _ _ _ _ b2)
  have hle:=Nat.le_of_ble_eq_true hlen
  refine ⟨.slice (some ⟨w.heap.size,0,none⟩) 1 1,w.alloc (.cells cs.toArray e),_,φ,by simp only [execOp,hq ρ hE,Sem.run_bind,hrun];rfl,?_,hφ,k (w.heap.size :: B) _⟩
  refine hm.repl (M0:=M) (N:=[jp E' e (w.heap.size :: B) (.slice (some ⟨w.heap.size,0,none⟩) 1 1) [y0]]) ⟨rfl,rfl,rfl,by rw [World.size_alloc];omega,fun b hb _=>heap_alloc_old w _ hb⟩ (fun c hc b hb=>?_) (List.pairwise_singleton _ _) (fun c hc F=>?_)
  ·simp only [List.mem_cons,List.not_mem_nil,or_false] at hc
   subst hc
   rcases List.mem_cons.1 hb with hb | hb
   ·subst hb;exact ⟨.inl (Nat.le_refl _),by rw [World.size_alloc];omega⟩
   ·exact ⟨.inr (b3 b hb),by have:=hlt b hb;rw [World.size_alloc];omega⟩
  ·simp only [List.mem_cons,List.not_mem_nil,or_false] at hc
   subst hc
   refine ⟨List.nodup_cons.2 ⟨fun h=>by have:=hlt _ h;omega,b1⟩,[cs],[B],yF.one (E'.keep _ _ _ _ _ (fun b hb=>heap_alloc_old w _ (hlt b hb)) b2),⟨by simp [hl,hes],.inr ⟨w.heap.size,1,cs.toArray,rfl,Nat.zero_le _,heap_alloc_new w _,Nat.le_refl _,by decide,by simp [hl,hes],by simp [List.take_of_length_le,hl,hes]⟩⟩,by simp [U5,Value.ownBlock]⟩
theorem xR {α:Type} {E':DEl α} {qs:List (Nat×Value)} {zs:List Value} {ps:Array (Nat×Operand)} (hq:∀ ρ:Operand→Value,(∀ x v,oev E x=some v→ρ x=v)→(ps.map fun (i,x)=>(i,ρ x))=qs.toArray) (hT:elB P T=some (e,sz,by')) (hzr:uJ P e=some zs) (k:∀ B v,Nx n G D w0 R ((d,v) :: E) (jp E' e B v [] :: L) φ) (hd:Nat.blt d n=true:=by rfl) (hes:E'.el.size=sz:=by rfl) (hzl:Nat.beq zs.length sz=true:=by rfl) (hfill':VT (fun i=>some (i * sz,sz)) (List.replicate 0 zs).flatten qs=some []:=by rfl):Nx n G D w0 (fun a w=>Oper.wp P ⟨some d,.buildSlice T 0 ps,ty,pos,aft,gd⟩ a w R Q) E L φ :=
 X2 hd rfl fun ρ w hE hm hφ=>by
  have hp:=E'.el.pos
  have hrun:=ze9 (P:=P) (w:=w) (qs:=qs) (len:=0) hT hzr (by omega) (by simp) hzl hfill'
  refine ⟨.slice (some ⟨w.heap.size,0,none⟩) 0 0,w.alloc (.cells ([]:List Value).toArray e),_,φ,by simp only [execOp,hq ρ hE,Sem.run_bind,hrun];rfl,?_,hφ,k [w.heap.size] _⟩
  exact hm.add _ ((Below.refl _ _).alloc (Nat.le_refl _) _) (fun b hb=>by simp [jp] at hb;rw [World.size_alloc];omega) ⟨by simp,[],[],yF.nil,⟨by simp,.inr ⟨w.heap.size,0,#[],rfl,Nat.zero_le _,heap_alloc_new w _,Nat.le_refl _,by decide,by simp,by simp⟩⟩,by simp [U5,Value.ownBlock]⟩
end
section
variable {P:Program} {n:Nat} {G D:Nat→Prop} {w0:World} {Q:Exit→Act→World→Prop} {R:Act→World→Prop} {E:Env} {L:List Ch} {φ:Prop}
variable {d:Tmp} {ty:TypeId} {pos:String} {aft:Array Edge} {gd:Option (Nat×Bool)} {Tk:Act→World→Prop} {Lr:List Ch} {x y:Operand} {T T' S:TypeId} {e sz by':Nat}
theorem uO {α:Type} {El':El α} {len:Nat} {ps:Array (Nat×Operand)} {qs:List (Nat×Value)} {zs cells:List Value} (xs:List α) (css:List (List Value)) (hc:∀ w,Mem G D w0 L w→Rows El' (fz G L w) w xs css) (hq:∀ ρ:Operand→Value,(∀ x v,oev E x=some v→ρ x=v)→(ps.map fun (i,x)=>(i,ρ x))=qs.toArray) (hT:elB P T=some (e,sz,by')) (hzr:uJ P e=some zs) (k:∀ v,Nx n G D w0 R ((d,v) :: E) (zg El' e v xs :: L) φ) (hd:Nat.blt d n=true:=by rfl) (hes:El'.size=sz:=by rfl) (hlen:Nat.ble (len * sz) 16777216=true:=by rfl) (hxl:xs.length=len:=by rfl) (hzl:Nat.beq zs.length sz=true:=by rfl) (hfill':VT (fun i=>some (i * sz,sz)) (List.replicate len zs).flatten qs=some cells:=by rfl) (hcells:css.flatten=cells:=by rfl):Nx n G D w0 (fun a w=>Oper.wp P ⟨some d,.buildSlice T len ps,ty,pos,aft,gd⟩ a w R Q) E L φ:=zjy xs css hc hq hd hT hzr hes hlen hxl hzl hfill' hcells k
end
section
variable {P:Program} {n:Nat} {G D:Nat→Prop} {w0:World} {Q:Exit→Act→World→Prop} {R:Act→World→Prop} {E:Env} {L:List Ch} {φ:Prop}
variable {d:Tmp} {ty:TypeId} {pos:String} {aft:Array Edge} {gd:Option (Nat×Bool)} {Tk:Act→World→Prop} {Lr:List Ch} {x y:Operand} {T T' S:TypeId} {e sz by':Nat}
theorem ji {ρ ν:Type} {f:Nat} {l:List Operand} {at':Array TypeId} {vs:List Value} {κ:ρ→Prop} {val:ρ→ν→Value} {N:ρ→ν→List Ch} {M0 L':List Ch} (hf:∀ args w,(callFunc f args).run P w=.ok (.enter f args) w) (hc:∀ w,Mem G D w0 (M0++L') w→φ→Calls P f vs.toArray w (Ret M0 (fz G (M0++L') w) w κ val N)) (k:∀ r s,Nx n G D w0 R ((d,val r s) :: E) (N r s++L') (κ r)) (hargs:zdy E l=some vs:=by rfl) (hd:Nat.blt d n=true:=by rfl):Nx n G D w0 (fun a w=>Oper.wp P ⟨some d,.call {callee:=.value (.func f),args:=l.toArray,argTypes:=at'},ty,pos,aft,gd⟩ a w R Q) E (M0++L') φ:=ziV hf hargs hd hc k
theorem zl {ρ ν:Type} {f:Nat} {l:List Operand} {at':Array TypeId} {vs:List Value} {κ:ρ→Prop} {val:ρ→ν→Value} {N:ρ→ν→List Ch} (hf:∀ args w,(callFunc f args).run P w=.ok (.enter f args) w) (hc:∀ w,Mem G D w0 L w→φ→Calls P f vs.toArray w (Ret [] (fz G L w) w κ val N)) (k:∀ r s,Nx n G D w0 R ((d,val r s) :: E) (N r s++L) (κ r)) (hargs:zdy E l=some vs:=by rfl) (hd:Nat.blt d n=true:=by rfl):Nx n G D w0 (fun a w=>Oper.wp P ⟨some d,.call {callee:=.value (.func f),args:=l.toArray,argTypes:=at'},ty,pos,aft,gd⟩ a w R Q) E L φ:=zhS hf hargs hd hc k
end
section
variable {P:Program} {n:Nat} {G D:Nat→Prop} {w0:World} {Q:Exit→Act→World→Prop} {R:Act→World→Prop} {E:Env} {L M:List Ch} {φ:Prop}
variable {d:Tmp} {ty:TypeId} {pos:String} {aft:Array Edge} {gd:Option (Nat×Bool)} {Tk:Act→World→Prop} {Lr:List Ch} {x y:Operand} {T T' S:TypeId} {e sz by':Nat} {dst:Option Tmp} {at':Array TypeId}
theorem zbC {o:Oper} {ρ ν:Type} {f:Nat} {vs:List Value} {κ:ρ→Prop} {val:ρ→ν→Value} {N:ρ→ν→List Ch} {M0 L':List Ch} (hr:zjG P E o f vs) (hc:∀ w,Mem G D w0 (M0++L') w→φ→Calls P f vs.toArray w (Ret M0 (fz G (M0++L') w) w κ val N)) (k:∀ r s,Nx n G D w0 R ((d,val r s) :: E) (N r s++L') (κ r)) (ho:o.dst=some d:=by rfl) (hd:Nat.blt d n=true:=by rfl):Nx n G D w0 (fun a w=>Oper.wp P o a w R Q) E (M0++L') φ:=zhH ho hr hd hc k
theorem zcx {o:Oper} {ρ ν:Type} {f:Nat} {vs:List Value} {κ:ρ→Prop} {val:ρ→ν→Value} {N:ρ→ν→List Ch} (hr:zjG P E o f vs) (hc:∀ w,Mem G D w0 L w→φ→Calls P f vs.toArray w (Ret [] (fz G L w) w κ val N)) (k:∀ r s,Nx n G D w0 R ((d,val r s) :: E) (N r s++L) (κ r)) (ho:o.dst=some d:=by rfl) (hd:Nat.blt d n=true:=by rfl):Nx n G D w0 (fun a w=>Oper.wp P o a w R Q) E L φ :=
 zhH (M0:=[]) (L':=L) ho hr hd hc k
end
section
variable {P:Program} {n:Nat} {G D:Nat→Prop} {w0:World} {Q:Exit→Act→World→Prop} {R:Act→World→Prop} {E:Env} {L:List Ch} {φ:Prop}
variable {d:Tmp} {ty:TypeId} {pos:String} {aft:Array Edge} {gd:Option (Nat×Bool)} {Tk:Act→World→Prop} {Lr:List Ch} {x y:Operand} {T T' S:TypeId}
end
section
variable {P:Program} {n:Nat} {G D:Nat→Prop} {w0:World} {Q:Exit→Act→World→Prop} {R:Act→World→Prop} {E:Env} {L:List Ch} {φ:Prop}
variable {d:Tmp} {ty:TypeId} {pos:String} {aft:Array Edge} {gd:Option (Nat×Bool)} {Tk:Act→World→Prop} {Lr:List Ch} {x y:Operand} {T T' S:TypeId} {e sz by':Nat} {at':Array TypeId}
theorem zfN (M:uv P n G D w0 E ⟨some d,.convert T T' x,ty,pos,aft,gd⟩ Tk R Lr L) {X:UInt8} (hT:P.underlying T=some (.int .u8)) (hT':P.underlying T'=some (.int .i64)) (k:Nx n G D w0 R ((d,.int .i64 (X.toNat:Int)) :: E) L φ) (hx:oev E x=some (.int .u8 (X.toNat:Int)):=by rfl) (hd:Nat.blt d n=true:=by rfl):Nx n G D w0 Tk E L φ :=
 M.val hd rfl (fun ρ w hE _ _=>by
  have h:=X.toNat_lt
  have e:IntKind.i64.wrap (X.toNat:Int)=(X.toNat:Int):=by rw [IntKind.wrap_i64];omega
  simp [execOp,hE _ _ hx,go_sem,convert,run_underlying hT,run_underlying hT',e]) id k
end
section
variable {P:Program} {n:Nat} {G D:Nat→Prop} {w0:World} {Q:Exit→Act→World→Prop} {R:Act→World→Prop} {E:Env} {L:List Ch} {φ:Prop}
variable {d:Tmp} {ty:TypeId} {pos:String} {aft:Array Edge} {gd:Option (Nat×Bool)} {Tk:Act→World→Prop} {Lr:List Ch} {x y:Operand} {T T' S:TypeId}
end
section
variable {P:Program} {n:Nat} {G D:Nat→Prop} {w0:World} {Q:Exit→Act→World→Prop} {R:Act→World→Prop} {E:Env} {L:List Ch} {φ:Prop}
variable {d:Tmp} {ty:TypeId} {pos:String} {aft:Array Edge} {gd:Option (Nat×Bool)} {Tk:Act→World→Prop} {Lr:List Ch} {x y:Operand} {T T' S:TypeId} {e sz by':Nat} {at':Array TypeId}
end
section
variable {P:Program} {n:Nat} {G D:Nat→Prop} {w0:World} {Q:Exit→Act→World→Prop} {R:Act→World→Prop} {E:Env} {L:List Ch} {φ:Prop}
variable {d:Tmp} {ty:TypeId} {pos:String} {aft:Array Edge} {gd:Option (Nat×Bool)} {Tk:Act→World→Prop} {Lr:List Ch} {x y:Operand} {T T' S:TypeId} {e sz by':Nat}
theorem jS (M:uv P n G D w0 E ⟨some d,.binOp .eql T x y T',ty,pos,aft,gd⟩ Tk R Lr L) {X Y:Int} {K:IntKind} (hT:P.underlying T=some (.int K)) (k:Nx n G D w0 R ((d,.bool (decide (X=Y))) :: E) L φ) (hx:oev E x=some (.int K X):=by rfl) (hy:oev E y=some (.int K Y):=by rfl) (hd:Nat.blt d n=true:=by rfl):Nx n G D w0 Tk E L φ:=zkR M hT hx hy hd k
theorem zc4 (M:uv P n G D w0 E ⟨some d,.binOp .eql T x y T',ty,pos,aft,gd⟩ Tk R Lr L) {X Y:Bool} (hT:P.underlying T=some .bool) (k:Nx n G D w0 R ((d,.bool (decide (X=Y))) :: E) L φ) (hx:oev E x=some (.bool X):=by rfl) (hy:oev E y=some (.bool Y):=by rfl) (hd:Nat.blt d n=true:=by rfl):Nx n G D w0 Tk E L φ :=
 M.val hd rfl (fun ρ w hE _ _=>by cases X <;> cases Y <;> simp [execOp,hE _ _ hx,hE _ _ hy,go_sem,hT,run_underlying hT]) id k
end
section
variable {P:Program} {n:Nat} {G D:Nat→Prop} {w0:World} {Q:Exit→Act→World→Prop} {R:Act→World→Prop} {E:Env} {L M:List Ch} {φ:Prop}
variable {d:Tmp} {ty:TypeId} {pos:String} {aft:Array Edge} {gd:Option (Nat×Bool)} {Tk:Act→World→Prop} {Lr:List Ch} {x y:Operand} {T T' S:TypeId} {e sz by':Nat} {dst:Option Tmp} {at':Array TypeId}
theorem zjQ {α:Type} {El':El α} {v:Value} {xs:List α} {c:Ch} {κ:Bool→Prop} {e':TypeId} (i:Nat) (hc:YE c El' v xs) (hT:P.underlying T=some (.slice e')) (k:∀ z,Nx n G D w0 R ((d,.bool z) :: E) L (κ z)) (hi:xD L i=some c:=by rfl) (hx:oev E x=some v:=by rfl) (hy:oev E y=some (.slice none 0 0):=by rfl) (hd:Nat.blt d n=true:=by rfl):Nx n G D w0 (fun a w=>Oper.wp P ⟨some d,.binOp .eql T x y T',ty,pos,aft,gd⟩ a w R Q) E L (zmv true xs κ) :=
 X2 hd rfl fun ρ w hE hm hφ=>by
  obtain ⟨a,cap,rfl,hcap,hr⟩:=hc _ _ (hm.get hi)
  refine ⟨.bool a.isNone,w,L,κ a.isNone,?_,hm,?_,k _⟩
  ·simp [execOp,hE _ _ hx,hE _ _ hy,go_sem,hT,run_underlying hT,binOp,zic hT]
  ·cases xs with
   | nil=>cases a with
    | none=>exact (hφ.2 rfl).1
    | some a=>exact (hφ.2 rfl).2
   | cons x0 r =>
    obtain ⟨b,off,rfl,_⟩:=hr (by simp)
    exact hφ.1 (by simp)
end
section
variable {P:Program} {n:Nat} {G D:Nat→Prop} {w0:World} {Q:Exit→Act→World→Prop} {R:Act→World→Prop} {E:Env} {L:List Ch} {φ:Prop}
variable {d:Tmp} {ty:TypeId} {pos:String} {aft:Array Edge} {gd:Option (Nat×Bool)} {Tk:Act→World→Prop} {Lr:List Ch} {x y:Operand} {T T' S:TypeId}
end
section
variable {P:Program} {n:Nat} {G D:Nat→Prop} {w0:World} {Q:Exit→Act→World→Prop} {R:Act→World→Prop} {E:Env} {L:List Ch} {φ:Prop}
variable {d:Tmp} {ty:TypeId} {pos:String} {aft:Array Edge} {gd:Option (Nat×Bool)} {Tk:Act→World→Prop} {Lr:List Ch} {x y:Operand} {T T' S:TypeId}
theorem jt {k':Nat} (M:uv P n G D w0 E ⟨some d,.extract x k',ty,pos,aft,gd⟩ Tk R Lr L) {vs:List Value} {v:Value} (k:Nx n G D w0 R ((d,v) :: E) L φ) (hx:oev E x=some (.tuple vs.toArray):=by rfl) (hd:Nat.blt d n=true:=by rfl) (hv:vs[k']?=some v:=by rfl):Nx n G D w0 Tk E L φ :=
 M.val hd rfl (fun ρ w hE hm _=>by simp [execOp,hE _ _ hx,Instr.extract,hv]) id k
theorem zy {k':Nat} (M:uv P n G D w0 E ⟨some d,.fieldAddr S x k',ty,pos,aft,gd⟩ Tk R Lr L) {b o off sz:Nat} {row:Bool} (hS:YG P S k'=some (off,row,sz)) (k:Nx n G D w0 R ((d,.pointer (some ⟨b,o+off,none⟩)) :: E) L φ) (hx:oev E x=some (.pointer (some ⟨b,o,none⟩)):=by rfl) (hd:Nat.blt d n=true:=by rfl) (hp:Nat.beq sz 0=false:=by rfl):Nx n G D w0 Tk E L φ :=
 M.val hd rfl (fun ρ w hE hm _=>by
  have:=zgd (P:=P) (w:=w) (a:=⟨b,o,none⟩) hS hp
  rw [Addr.add_mid] at this
  simp [execOp,hE _ _ hx,this]) id k
theorem jB {k':Nat} (M:uv P n G D w0 E ⟨some d,.fieldAddr S x k',ty,pos,aft,gd⟩ Tk R Lr L) {α:Type} {El':El α} {v:Value} {xs:List α} {c:Ch} {I:Int} {z:α} {o off sz fs:Nat} {row:Bool} (i:Nat) (hc:YE c El' v xs) (hz:xs[I.toNat]?=some z) (hS:YG P S k'=some (off,row,fs)) (k:Nx n G D w0 R ((d,pEl v I sz (o+off)) :: E) L φ) (hi:xD Lr i=some c:=by rfl) (hx:oev E x=some (pEl v I sz o):=by rfl) (hd:Nat.blt d n=true:=by rfl) (hp:Nat.beq fs 0=false:=by rfl):Nx n G D w0 Tk E L φ :=
 M.val hd rfl (fun ρ w hE hm _=>by
  obtain ⟨b,off',cap,cs,rfl,_,_⟩:=(hc _ _ (hm.get hi)).at hz
  rw [yp] at hx ⊢
  have:=zgd (P:=P) (w:=w) (a:=⟨b,off'+I.toNat * sz+o,none⟩) hS hp
  rw [Addr.add_mid] at this
  simp [execOp,hE _ _ hx,this]) id k
end
section
variable {P:Program} {n:Nat} {G D:Nat→Prop} {w0:World} {Q:Exit→Act→World→Prop} {R:Act→World→Prop} {E:Env} {L:List Ch} {φ:Prop}
variable {d:Tmp} {ty:TypeId} {pos:String} {aft:Array Edge} {gd:Option (Nat×Bool)} {Tk:Act→World→Prop} {Lr:List Ch} {x y:Operand} {T T':TypeId}
theorem Uu (M:uv P n G D w0 E ⟨some d,.binOp .geq T x y T',ty,pos,aft,gd⟩ Tk R Lr L) {X Y:Int} {K:IntKind} (k:Nx n G D w0 R ((d,.bool (decide (Y≤X))) :: E) L φ) (hx:oev E x=some (.int K X):=by rfl) (hy:oev E y=some (.int K Y):=by rfl) (hd:Nat.blt d n=true:=by rfl):Nx n G D w0 Tk E L φ :=
 M.val hd rfl (fun ρ w hE _ hφ=>by simp [execOp,hE _ _ hx,hE _ _ hy,go_sem]) id k
theorem uk (M:uv P n G D w0 E ⟨some d,.binOp .gtr T x y T',ty,pos,aft,gd⟩ Tk R Lr L) {X Y:Int} {K:IntKind} (k:Nx n G D w0 R ((d,.bool (decide (Y<X))) :: E) L φ) (hx:oev E x=some (.int K X):=by rfl) (hy:oev E y=some (.int K Y):=by rfl) (hd:Nat.blt d n=true:=by rfl):Nx n G D w0 Tk E L φ:=zkV M hx hy hd k
end
section
variable {P:Program} {n:Nat} {G D:Nat→Prop} {w0:World} {Q:Exit→Act→World→Prop} {R:Act→World→Prop} {E:Env} {L:List Ch} {φ:Prop}
variable {d:Tmp} {ty:TypeId} {pos:String} {aft:Array Edge} {gd:Option (Nat×Bool)} {Tk:Act→World→Prop} {Lr:List Ch} {x y:Operand} {T T' S:TypeId}
theorem zF (M:uv P n G D w0 E ⟨some d,.indexAddr T x y,ty,pos,aft,gd⟩ Tk R Lr L) {α:Type} {El':El α} {v:Value} {xs:List α} {c:Ch} {I:Int} {κ:α→Prop} {e sz by':Nat} (i:Nat) (hc:YE c El' v xs) (hT:elB P T=some (e,sz,by')) (k:∀ z,xs[I.toNat]?=some z→Nx n G D w0 R ((d,pEl v I sz 0) :: E) L (κ z)) (hi:xD Lr i=some c:=by rfl) (hx:oev E x=some v:=by rfl) (hy:oev E y=some (.int .i64 I):=by rfl) (hd:Nat.blt d n=true:=by rfl):Nx n G D w0 Tk E L (zB xs I κ) :=
 M.val (v:=pEl v I sz 0) (ψ:=zB xs I κ) hd rfl (fun ρ w hE hm hφ=>by
  obtain ⟨z,h0,h1,h2⟩:=hφ
  obtain ⟨b,off,cap,cs,rfl,_,_⟩:=(hc _ _ (hm.get hi)).at h1
  have hlt:=(List.getElem?_eq_some_iff.1 h1).1
  unfold elB at hT
  split at hT
  ·rename_i e' hu
   split at hT
   ·rename_i inf hi'
    simp at hT
    obtain ⟨rfl,rfl,rfl⟩:=hT
    have h5:I<xs.length:=by omega
    rw [yp]
    simp [execOp,hE _ _ hx,hE _ _ hy,Instr.indexAt,asIntOf,run_underlying hu,sizeOf,typeInfo,hi',h0,h5,Addr.add_mid]
   ·simp at hT
  ·simp at hT) id (fun a w hE hm ⟨z,_,h1,h2⟩=>k z h1 a w hE hm h2)
end
section
variable {P:Program} {n:Nat} {G D:Nat→Prop} {w0:World} {Q:Exit→Act→World→Prop} {R:Act→World→Prop} {E:Env} {L M:List Ch} {φ:Prop}
variable {d:Tmp} {ty:TypeId} {pos:String} {aft:Array Edge} {gd:Option (Nat×Bool)} {Tk:Act→World→Prop} {Lr:List Ch} {x y:Operand} {T T' S:TypeId}
theorem zj4 (M:uv P n G D w0 E ⟨some d,.indexAddr T x y,ty,pos,aft,gd⟩ Tk R Lr L) {α:Type} {E':DEl α} {ty':TypeId} {B:List Nat} {I0:Nat} {cz:List Value} {v:Value} {xs:List α} {I:Int} {κ:α→Prop} {e sz by':Nat} (i:Nat) (hT:elB P T=some (e,sz,by')) (k:∀ z,xs[I.toNat]?=some z→Nx n G D w0 R ((d,pEl v I sz 0) :: E) L (κ z)) (hi:xD Lr i=some (Yy E' ty' B v xs I0 cz):=by rfl) (hx:oev E x=some v:=by rfl) (hy:oev E y=some (.int .i64 I):=by rfl) (hd:Nat.blt d n=true:=by rfl):Nx n G D w0 Tk E L (zB xs I κ) :=
 M.val (v:=pEl v I sz 0) (ψ:=zB xs I κ) hd rfl (fun ρ w hE hm hφ=>by
  obtain ⟨z,h0,h1,h2⟩:=hφ
  have hlt:=(List.getElem?_eq_some_iff.1 h1).1
  obtain ⟨bn,css,Bs,hr,how,hB⟩:=hm.get hi
  obtain ⟨g,cap,hv⟩:∃ g cap,v=.slice (some ⟨g,0,none⟩) xs.length cap:=by
   rcases how.2 with ⟨_,hn⟩ | ⟨g,cap,cur,hv,_⟩
   ·omega
   ·exact ⟨g,cap,hv⟩
  subst hv
  unfold elB at hT
  split at hT
  ·rename_i e' hu
   split at hT
   ·rename_i inf hi'
    simp at hT
    obtain ⟨rfl,rfl,rfl⟩:=hT
    have h5:I<xs.length:=by omega
    rw [yp]
    simp [execOp,hE _ _ hx,hE _ _ hy,Instr.indexAt,asIntOf,run_underlying hu,sizeOf,typeInfo,hi',h0,h5,Addr.add_mid]
   ·simp at hT
  ·simp at hT) id (fun a w hE hm ⟨z,_,h1,h2⟩=>k z h1 a w hE hm h2)
end
section
variable {P:Program} {n:Nat} {G D:Nat→Prop} {w0:World} {Q:Exit→Act→World→Prop} {R:Act→World→Prop} {E:Env} {L M:List Ch} {φ:Prop}
variable {d:Tmp} {ty:TypeId} {pos:String} {aft:Array Edge} {gd:Option (Nat×Bool)} {Tk:Act→World→Prop} {Lr:List Ch} {x y:Operand} {T T' S:TypeId} {e sz by':Nat} {dst:Option Tmp} {at':Array TypeId}
theorem zjb {α:Type} {El':El α} {vs:List Value} {xs:List (List α)} {I:Int} {κ:List α→Prop} {len e':Nat} (M:uv P n G D w0 E ⟨some d,.index T x y,ty,pos,aft,gd⟩ Tk R Lr L) (hfa:∀ w,Mem G D w0 L w→ze2 El' (fz G L w) w vs xs) (hT:zdC P T=some (len,e',false,1)) (k:∀ v z,xs[I.toNat]?=some z→Nx n G D w0 R ((d,v) :: E) (jQ El' v z :: L) (κ z)) (hx:oev E x=some (.agg vs.toArray):=by rfl) (hy:oev E y=some (.int .i64 I):=by rfl) (hd:Nat.blt d n=true:=by rfl) (hl:xs.length=len:=by rfl):Nx n G D w0 Tk E L (zB xs I κ):=fun a w hE hm hφ=>by
 refine (M.val (v:=zgi vs I) (φ:=zB xs I κ) (ψ:=zB xs I κ) hd rfl (fun ρ w hE hm hφ=>?_) id (fun a' w' hE' hm' hφ'=>?_)) a w hE hm hφ
 ·obtain ⟨z,h0,h1,h2⟩:=hφ
  have hlt:=(List.getElem?_eq_some_iff.1 h1).1
  obtain ⟨hu',ht⟩:=zfF hT
  obtain ⟨i,hq,hi⟩:=zc1 ht
  have h5:I<len:=by omega
  have hvl:vs.length=xs.length:=by
   have key:∀ {vs:List Value} {xs:List (List α)} {F:Nat→Prop} {w:World},ze2 El' F w vs xs→vs.length=xs.length:=by
    intro vs
    induction vs with
    | nil=>intro xs F w h;cases xs with
     | nil=>rfl
     | cons _ _=>exact h.elim
    | cons v vs ih=>intro xs F w h;cases xs with
     | nil=>exact h.elim
     | cons x xs=>simp [ih h.2]
   exact key (hfa _ (by assumption))
  have hv:ldv false (I.toNat * 1) 1 vs=some (zgi vs I):=by
   have:I.toNat<vs.length:=by omega
   simp [ldv,zgi,this]
  have hr:=ze1 (P:=P) (w:=w) ht hv
  simp at hr
  simp [execOp,hE _ _ hx,hE _ _ hy,Instr.index,asIntOf,run_underlying hu',sizeOf,typeInfo,hq,hi,h0,h5,hr]
 ·obtain ⟨z,h0,h1,h2⟩:=hφ'
  obtain ⟨v,hv,hs⟩:=(hfa w' hm').get h1
  have hp:zgi vs I=v:=by simp [zgi,hv]
  rw [hp] at hE'
  exact k v z h1 a' w' hE' (hm'.note (fun b hb=>hb) hs) h2
end
section
variable {P:Program} {n:Nat} {G D:Nat→Prop} {w0:World} {Q:Exit→Act→World→Prop} {R:Act→World→Prop} {E:Env} {L:List Ch} {φ:Prop}
variable {d:Tmp} {ty:TypeId} {pos:String} {aft:Array Edge} {gd:Option (Nat×Bool)} {Tk:Act→World→Prop} {Lr:List Ch} {x y:Operand} {T T' S:TypeId}
theorem xv (M:uv P n G D w0 E ⟨some d,.indexAddr T x y,ty,pos,aft,gd⟩ Tk R Lr L) {α:Type} {El':El α} {b o cap:Nat} {xs:List α} {c:Ch} {I:Int} {κ:α→Prop} {len e sz:Nat} {row:Bool} (i:Nat) (hc:YE c El' (.slice (some ⟨b,o,none⟩) len cap) xs) (hT:zdC P T=some (len,e,row,sz)) (k:∀ z,xs[I.toNat]?=some z→Nx n G D w0 R ((d,pEl (.slice (some ⟨b,o,none⟩) len cap) I sz 0) :: E) L (κ z)) (hi:xD Lr i=some c:=by rfl) (hx:oev E x=some (.pointer (some ⟨b,o,none⟩)):=by rfl) (hy:oev E y=some (.int .i64 I):=by rfl) (hd:Nat.blt d n=true:=by rfl):Nx n G D w0 Tk E L (zB xs I κ) :=
 M.val (v:=pEl (.slice (some ⟨b,o,none⟩) len cap) I sz 0) (ψ:=zB xs I κ) hd rfl (fun ρ w hE hm hφ=>by
  obtain ⟨z,h0,h1,h2⟩:=hφ
  obtain ⟨a',cap',he,_⟩:=hc _ _ (hm.get hi)
  have hln:xs.length=len:=by simp at he;exact he.2.1.symm
  have hlt:=(List.getElem?_eq_some_iff.1 h1).1
  obtain ⟨hu',ht⟩:=zfF hT
  obtain ⟨i,hq,hi⟩:=zc1 ht
  have h5:I<len:=by omega
  rw [yp]
  simp [execOp,hE _ _ hx,hE _ _ hy,Instr.indexAt,Instr.sureAddr,asIntOf,run_underlying hu',sizeOf,typeInfo,hq,hi,h0,h5,Addr.add_mid]) id (fun a w hE hm ⟨z,_,h1,h2⟩=>k z h1 a w hE hm h2)
end
section
variable {P:Program} {n:Nat} {G D:Nat→Prop} {w0:World} {Q:Exit→Act→World→Prop} {R:Act→World→Prop} {E:Env} {L:List Ch} {φ:Prop}
variable {d:Tmp} {ty:TypeId} {pos:String} {aft:Array Edge} {gd:Option (Nat×Bool)} {Tk:Act→World→Prop} {Lr:List Ch} {x y:Operand} {T T' S:TypeId}
end
section
variable {P:Program} {n:Nat} {G D:Nat→Prop} {w0:World} {Q:Exit→Act→World→Prop} {R:Act→World→Prop} {E:Env} {L:List Ch} {φ:Prop}
variable {d:Tmp} {ty:TypeId} {pos:String} {aft:Array Edge} {gd:Option (Nat×Bool)} {Tk:Act→World→Prop} {Lr:List Ch} {x y:Operand} {T T' S:TypeId}
theorem zlQ (M:uv P n G D w0 E ⟨some d,.index T x y,ty,pos,aft,gd⟩ Tk R Lr L) {α:Type} {enc:α→List Value} {zs:List α} {cs:List Value} {I:Int} {κ:α→Prop} {u:α→Value} {len e sz:Nat} {row:Bool} (hT:zdC P T=some (len,e,row,sz)) (he:∀ z,(enc z).length=sz) (hu:∀ z,ldv row 0 sz (enc z)=some (u z)) (k:∀ z,Nx n G D w0 R ((d,u z) :: E) L (κ z)) (hx:oev E x=some (.agg cs.toArray):=by rfl) (hy:oev E y=some (.int .i64 I):=by rfl) (hd:Nat.blt d n=true:=by rfl) (hcs:zs.flatMap enc=cs:=by rfl) (hl:zs.length=len:=by rfl):Nx n G D w0 Tk E L (zB zs I κ):=fun a w hE hm hφ=>by
 obtain ⟨z,h0,h1,h2⟩:=hφ
 refine (M.val (v:=u z) (φ:=κ z) (ψ:=κ z) hd rfl (fun ρ w hE hm hφ=>?_) id (k z)) a w hE hm h2
 obtain ⟨hu',ht⟩:=zfF hT
 obtain ⟨i,hq,hi⟩:=zc1 ht
 have hlt:=(List.getElem?_eq_some_iff.1 h1).1
 have h5:I<len:=by omega
 have hr:=ze1 (P:=P) (w:=w) ht (zgm he zs _ _ h1 row _ (hu z))
 rw [hcs] at hr
 simp [execOp,hE _ _ hx,hE _ _ hy,Instr.index,asIntOf,run_underlying hu',sizeOf,typeInfo,hq,hi,h0,h5,hr]
end
section
variable {P:Program} {n:Nat} {G D:Nat→Prop} {w0:World} {Q:Exit→Act→World→Prop} {R:Act→World→Prop} {E:Env} {L M:List Ch} {φ:Prop}
variable {d:Tmp} {ty:TypeId} {pos:String} {aft:Array Edge} {gd:Option (Nat×Bool)} {Tk:Act→World→Prop} {Lr:List Ch} {x y:Operand} {T T' S:TypeId} {e sz by':Nat}
theorem ziO {α:Type} {El':El α} {enc:α→List Value} {b len cap fs:Nat} {xs:List α} {c:Ch} {u:List Value} (M:uv P n G D w0 E ⟨some d,.load T x,ty,pos,aft,gd⟩ Tk R Lr L) (i:Nat) (hc:YE c El' (.slice (some ⟨b,0,none⟩) len cap) xs) (hfl:UA El' enc) (hT:tyB P T=some (true,fs)) (k:Nx n G D w0 R ((d,.agg u.toArray) :: E) L φ) (hi:xD Lr i=some c:=by rfl) (hx:oev E x=some (.pointer (some ⟨b,0,none⟩)):=by rfl) (hd:Nat.blt d n=true:=by rfl) (hu:(xs.map enc).flatten=u:=by rfl) (hl:Nat.beq u.length fs=true:=by rfl):Nx n G D w0 Tk E L φ :=
 M.val hd rfl (fun ρ w hE hm _=>by
  obtain ⟨css,h1,h2⟩:=zhp (ur hfl hc _ _ (hm.get hi))
  rw [ze3 hfl h1,hu] at h2
  have hv:ldv true 0 fs u=some (.agg u.toArray):=by
   have:=Nat.eq_of_beq_eq_true hl
   simp [ldv,← this]
  have:=UI (P:=P) hT h2 hv
  rw [Nat.add_zero] at this
  simp [execOp,hE _ _ hx,this]) id k
theorem xn {α:Type} {El':El α} {b len cap fs:Nat} {xs:List α} {c:Ch} (i:Nat) (hc:Src c El' (.slice (some ⟨b,0,none⟩) len cap) xs) (hT:tyB P T=some (true,fs)) (k:∀ wr F0 css,Rows El' F0 wr xs css→∃ u:List Value,css.flatten=u∧Nx n G D w0 R ((d,.agg u.toArray) :: E) (zh wr F0 :: L) φ) (hi:xD L i=some c:=by rfl) (hx:oev E x=some (.pointer (some ⟨b,0,none⟩)):=by rfl) (hd:Nat.blt d n=true:=by rfl) (hlen:xs.length=len:=by rfl) (hfs:len * El'.size=fs:=by rfl):Nx n G D w0 (fun a w=>Oper.wp P ⟨some d,.load T x,ty,pos,aft,gd⟩ a w R Q) E L φ:=zgR i hi hc hx hd hlen hT hfs k
end
section
variable {P:Program} {n:Nat} {G D:Nat→Prop} {w0:World} {Q:Exit→Act→World→Prop} {R:Act→World→Prop} {E:Env} {L:List Ch} {φ:Prop}
variable {d:Tmp} {ty:TypeId} {pos:String} {aft:Array Edge} {gd:Option (Nat×Bool)} {Tk:Act→World→Prop} {Lr:List Ch} {x y:Operand} {T T' S:TypeId} {e sz by':Nat}
theorem xx {α:Type} {E':El α} {v:Value} {xs:List α} {c:Ch} {I:Int} {z:α} {o fs:Nat} {row:Bool} (i:Nat) (hc:Src c E' v xs) (hz:xs[I.toNat]?=some z) (hT:tyB P T=some (row,fs)) (k:∀ wr F0 cs,E'.cells F0 wr z cs→∃ u,ldv row o fs cs=some u∧Nx n G D w0 R ((d,u) :: E) (zh wr F0 :: L) φ) (hi:xD L i=some c:=by rfl) (hx:oev E x=some (pEl v I E'.size o):=by rfl) (hd:Nat.blt d n=true:=by rfl):Nx n G D w0 (fun a w=>Oper.wp P ⟨some d,.load T x,ty,pos,aft,gd⟩ a w R Q) E L φ :=
 X2 hd rfl fun ρ w hE hm hφ=>by
  obtain ⟨b,off,cap,cs,rfl,_,hcs,hr⟩:=(hc _ _ (hm.get hi)).at hz
  obtain ⟨u,hu,hk⟩:=k w (fz G L w) cs hcs
  have:=UI (P:=P) hT hr hu
  rw [yp] at hx
  exact ⟨u,w,zh w (fz G L w) :: L,φ,by simp [execOp,hE _ _ hx,this],hm.note (fun b hb=>hb) ⟨fun b hb=>hb,fun _ _=>rfl⟩,hφ,hk⟩
end
section
variable {P:Program} {n:Nat} {G D:Nat→Prop} {w0:World} {Q:Exit→Act→World→Prop} {R:Act→World→Prop} {E:Env} {L M:List Ch} {φ:Prop}
variable {d:Tmp} {ty:TypeId} {pos:String} {aft:Array Edge} {gd:Option (Nat×Bool)} {Tk:Act→World→Prop} {Lr:List Ch} {x y:Operand} {T T' S:TypeId} {e sz by':Nat}
theorem zam {α β:Type} {E':DEl α} {E1:DEl β} {t1:TypeId} {v:Value} {xs:List α} {B:List Nat} {I:Int} {z:α} {zin:List β} {o fs:Nat} {row:Bool} {encz:Value→List Value} (hz:xs[I.toNat]?=some z) (hop:∀ B w cs,E'.own B w z cs→∃ v0,cs=encz v0∧Dp E1 t1 B w v0 zin) (hT:tyB P T=some (row,fs)) (k:∀ v0 B' C,∃ u,ldv row o fs (encz v0)=some u∧Nx n G D w0 R ((d,u) :: E) (Yy E' e B' v xs I.toNat (encz v0) :: jp E1 t1 C v0 zin :: L) φ) (hes:E'.el.size=sz:=by rfl) (hx:oev E x=some (pEl v I sz o):=by rfl) (hd:Nat.blt d n=true:=by rfl):Nx n G D w0 (fun a w=>Oper.wp P ⟨some d,.load T x,ty,pos,aft,gd⟩ a w R Q) E (jp E' e B v xs :: L) φ :=
 X2 hd rfl fun ρ w hE hm hφ=>by
  have hlt:=(List.getElem?_eq_some_iff.1 hz).1
  obtain ⟨bn,css,Bs,hr,how,hB⟩:=hm.hold _ (List.mem_cons_self ..)
  have hlc:I.toNat<css.length:=by rw [hr.lc];exact hlt
  have hlb:I.toNat<Bs.length:=by rw [hr.lb];exact hlt
  have hcI:css[I.toNat]?=some css[I.toNat]:=List.getElem?_eq_getElem hlc
  have hbI:Bs[I.toNat]?=some Bs[I.toNat]:=List.getElem?_eq_getElem hlb
  obtain ⟨v0,hv0,hdp⟩:=hop _ _ _ (hr.own _ _ _ _ hz hcI hbI)
  have hlz:=hr.size _ (List.mem_of_getElem? hcI)
  obtain ⟨g,cap,hv⟩:∃ g cap,v=.slice (some ⟨g,0,none⟩) xs.length cap:=by
   rcases how.2 with ⟨_,hn⟩ | ⟨g,cap,cur,hv,_⟩
   ·omega
   ·exact ⟨g,cap,hv⟩
  subst hv
  have hBn:=hB.nodup_iff.1 bn
  have hout:=zbT hbI
  obtain ⟨u,hu,hk⟩:=k v0 (U5 (.slice (some ⟨g,0,none⟩) xs.length cap)++(Bs.set I.toNat []).flatten) Bs[I.toNat]
  have hrange:w.rangeAt g (0+I.toNat * E'.el.size) css[I.toNat]:=by
   have hs:=(hr.rows (F:=fun _=>True) (fun _ _=>trivial)).get hz
   rcases how.2 with ⟨h,_⟩ | ⟨g',cap',cur,h,_,hg,hnc,_,hcs,ht⟩
   ·cases h
   cases h
   intro j q hq
   rw [cell_of_row w g _ cur e (0,0) hg]
   have hj:=(List.getElem?_eq_some_iff.1 hq).1
   have hfl:css.flatten[I.toNat * E'.el.size+j]?=some q:=by
    have hsp:css=css.take I.toNat++css[I.toNat] :: css.drop (I.toNat+1):=by simp
    have hpl:(css.take I.toNat).flatten.length=I.toNat * E'.el.size:=by rw [zer (z:=E'.el.size) (fun cs hc=>hr.size cs (List.mem_of_mem_take hc)),List.length_take];congr 1;omega
    rw [hsp,List.flatten_append,List.getElem?_append_right (by omega),hpl,Nat.add_sub_cancel_left,List.flatten_cons,List.getElem?_append_left (by simpa using hj)]
    simpa using hq
   rw [← ht,List.getElem?_take] at hfl
   split at hfl
   ·simpa using hfl
   ·cases hfl
  have hld:=UI (P:=P) hT hrange (by rw [hv0];exact hu)
  rw [yp,← hes] at hx
  simp only [Nat.zero_add] at hx hld
  refine ⟨u,w,_,φ,by simp [execOp,hE _ _ hx,hld],?_,hφ,hk⟩
  refine hm.repl (M0:=[jp E' e B (.slice (some ⟨g,0,none⟩) xs.length cap) xs]) (N:=[Yy E' e _ (.slice (some ⟨g,0,none⟩) xs.length cap) xs I.toNat (encz v0),jp E1 t1 Bs[I.toNat] v0 zin]) zeY (fun c hc b hb=>?_) ?_ (fun c hc F=>?_)
  ·have hb':b∈B:=by
    simp only [List.mem_cons,List.not_mem_nil,or_false] at hc
    rcases hc with rfl | rfl
    ·rcases List.mem_append.1 hb with hb | hb
     ·exact hB.symm.subset (List.mem_append.2 (.inl hb))
     ·exact hB.symm.subset (List.mem_append.2 (.inr (hout.symm.subset (List.mem_append.2 (.inr hb)))))
    ·exact hB.symm.subset (List.mem_append.2 (.inr (hout.symm.subset (List.mem_append.2 (.inl hb)))))
   exact ⟨.inr ⟨_,List.mem_cons_self ..,hb'⟩,(hm.range _ (List.mem_cons_self ..) b hb').1⟩
  ·refine List.pairwise_cons.2 ⟨fun c hc b hb hcb=>?_,List.pairwise_singleton _ _⟩
   simp only [List.mem_cons,List.not_mem_nil,or_false] at hc
   subst hc
   have h2:=(List.Perm.append_left (U5 (.slice (some ⟨g,0,none⟩) xs.length cap)) hout).nodup_iff.1 hBn
   simp only [List.nodup_append,List.mem_append] at h2
   rcases List.mem_append.1 hb with hb | hb
   ·exact h2.2.2 b hb b (.inl hcb) rfl
   ·exact h2.2.1.2.2 b hcb b hb rfl
  ·simp only [List.mem_cons,List.not_mem_nil,or_false] at hc
   have h2:=(List.Perm.append_left (U5 (.slice (some ⟨g,0,none⟩) xs.length cap)) hout).nodup_iff.1 hBn
   rcases hc with rfl | rfl
   ·refine ⟨?_,css,Bs.set I.toNat [],⟨hr.lc,by simp [hr.lb],fun i x cs C hne k1 k2 k3=>?_,by rw [hcI,hv0],by simp [hlb],hr.size⟩,how,List.Perm.refl _⟩
    ·simp only [List.nodup_append,List.mem_append] at h2 ⊢
     exact ⟨h2.1,h2.2.1.2.1,fun a ha b hb=>h2.2.2 a ha b (.inr hb)⟩
    ·rw [List.getElem?_set_ne (fun e=>hne e.symm)] at k3
     exact hr.own i x cs C k1 k2 k3
   ·refine ⟨?_,hdp⟩
    simp only [List.nodup_append,List.mem_append] at h2
    exact h2.2.1.1
end
section
variable {P:Program} {n:Nat} {G D:Nat→Prop} {w0:World} {Q:Exit→Act→World→Prop} {R:Act→World→Prop} {E:Env} {L M:List Ch} {φ:Prop}
variable {d:Tmp} {ty:TypeId} {pos:String} {aft:Array Edge} {gd:Option (Nat×Bool)} {Tk:Act→World→Prop} {Lr:List Ch} {x y:Operand} {T T' S:TypeId} {e sz by':Nat}
end
section
variable {P:Program} {n:Nat} {G D:Nat→Prop} {w0:World} {Q:Exit→Act→World→Prop} {R:Act→World→Prop} {E:Env} {L:List Ch} {φ:Prop}
variable {d:Tmp} {ty:TypeId} {pos:String} {aft:Array Edge} {gd:Option (Nat×Bool)} {Tk:Act→World→Prop} {Lr:List Ch} {x y:Operand} {T T' S:TypeId} {e sz by':Nat}
theorem jF (M:uv P n G D w0 E ⟨some d,.load T x,ty,pos,aft,gd⟩ Tk R Lr L) {wr:World} {F0:Nat→Prop} {v:Value} {I:Int} {o fs:Nat} {cs:List Value} {row:Bool} {u:Value} (i:Nat) (hr:ui wr F0 v I sz cs) (hT:tyB P T=some (row,fs)) (k:Nx n G D w0 R ((d,u) :: E) L φ) (hi:xD Lr i=some (zh wr F0):=by rfl) (hx:oev E x=some (pEl v I sz o):=by rfl) (hd:Nat.blt d n=true:=by rfl) (hu:ldv row o fs cs=some u:=by rfl):Nx n G D w0 Tk E L φ :=
 M.val hd rfl (fun ρ w hE hm _=>by
  obtain ⟨b,off,l,c,rfl,hb,hc⟩:=hr
  have h:(zh wr F0).holds _ w:=hm.get hi
  have hc':w.rangeAt b (off+I.toNat * sz) cs:=zbs hc (h.2 b hb)
  have:=UI (P:=P) hT hc' hu
  rw [yp] at hx
  simp [execOp,hE _ _ hx,this]) id k
end
section
variable {P:Program} {n:Nat} {G D:Nat→Prop} {w0:World} {Q:Exit→Act→World→Prop} {R:Act→World→Prop} {E:Env} {L:List Ch} {φ:Prop}
variable {d:Tmp} {ty:TypeId} {pos:String} {aft:Array Edge} {gd:Option (Nat×Bool)} {Tk:Act→World→Prop} {Lr:List Ch} {x y:Operand} {T T' S:TypeId}
theorem zn (M:uv P n G D w0 E ⟨some d,.load T x,ty,pos,aft,gd⟩ Tk R Lr L) {b o sz:Nat} {cs:List Value} {T0:TypeId} {row:Bool} {v:Value} (i:Nat) (hT:tyB P T=some (row,sz)) (k:Nx n G D w0 R ((d,v) :: E) L φ) (hi:xD Lr i=some (zb b cs T0):=by rfl) (hx:oev E x=some (.pointer (some ⟨b,o,none⟩)):=by rfl) (hd:Nat.blt d n=true:=by rfl) (hv:ldv row o sz cs=some v:=by rfl):Nx n G D w0 Tk E L φ:=zhO M i hi hx hd hT hv k
theorem jD (M:uv P n G D w0 E ⟨some d,.load T x,ty,pos,aft,gd⟩ Tk R Lr L) {α:Type} {El':El α} {enc:α→List Value} {v:Value} {xs:List α} {c:Ch} {I:Int} {z:α} {o sz fs:Nat} {row:Bool} {u:Value} (i:Nat) (hc:YE c El' v xs) (hfl:UA El' enc) (hz:xs[I.toNat]?=some z) (hT:tyB P T=some (row,fs)) (k:Nx n G D w0 R ((d,u) :: E) L φ) (hi:xD Lr i=some c:=by rfl) (hes:El'.size=sz:=by rfl) (hx:oev E x=some (pEl v I sz o):=by rfl) (hd:Nat.blt d n=true:=by rfl) (hv:ldv row o fs (enc z)=some u:=by rfl):Nx n G D w0 Tk E L φ :=
 M.val hd rfl (fun ρ w hE hm _=>by
  obtain ⟨b,off',cap,cs,rfl,h1,h2⟩:=(hc _ _ (hm.get hi)).at hz
  rw [yp] at hx
  rw [(hfl _ _ _ _).1 h1,hes] at h2
  have:=UI (P:=P) hT h2 hv
  simp [execOp,hE _ _ hx,this]) id k
theorem zL (M:uv P n G D w0 E ⟨some d,.call {callee:=.builtin .len,args:=#[x],argTypes:=#[T]},ty,pos,aft,gd⟩ Tk R Lr L) {α:Type} {El':El α} {v:Value} {xs:List α} {c:Ch} {p:TypeId×Nat×Nat} (hT:elB P T=some p) (i:Nat) (hc:YE c El' v xs) (k:Nx n G D w0 R ((d,.int .i64 xs.length) :: E) L φ) (hi:xD Lr i=some c:=by rfl) (hx:oev E x=some v:=by rfl) (hd:Nat.blt d n=true:=by rfl):Nx n G D w0 Tk E L φ:=zhC M hT i hi hc hx hd k
end
section
variable {P:Program} {n:Nat} {G D:Nat→Prop} {w0:World} {Q:Exit→Act→World→Prop} {R:Act→World→Prop} {E:Env} {L M:List Ch} {φ:Prop}
variable {d:Tmp} {ty:TypeId} {pos:String} {aft:Array Edge} {gd:Option (Nat×Bool)} {Tk:Act→World→Prop} {Lr:List Ch} {x y:Operand} {T T' S:TypeId}
end
section
variable {P:Program} {n:Nat} {G D:Nat→Prop} {w0:World} {Q:Exit→Act→World→Prop} {R:Act→World→Prop} {E:Env} {L:List Ch} {φ:Prop}
variable {d:Tmp} {ty:TypeId} {pos:String} {aft:Array Edge} {gd:Option (Nat×Bool)} {Tk:Act→World→Prop} {Lr:List Ch} {x y:Operand} {T T' S:TypeId}
end
section
variable {P:Program} {n:Nat} {G D:Nat→Prop} {w0:World} {Q:Exit→Act→World→Prop} {R:Act→World→Prop} {E:Env} {L:List Ch} {φ:Prop}
variable {d:Tmp} {ty:TypeId} {pos:String} {aft:Array Edge} {gd:Option (Nat×Bool)} {Tk:Act→World→Prop} {Lr:List Ch} {x y:Operand} {T T':TypeId}
theorem Zu (M:uv P n G D w0 E ⟨some d,.binOp .leq T x y T',ty,pos,aft,gd⟩ Tk R Lr L) {X Y:Int} {K:IntKind} (k:Nx n G D w0 R ((d,.bool (decide (X≤Y))) :: E) L φ) (hx:oev E x=some (.int K X):=by rfl) (hy:oev E y=some (.int K Y):=by rfl) (hd:Nat.blt d n=true:=by rfl):Nx n G D w0 Tk E L φ :=
 M.val hd rfl (fun ρ w hE _ hφ=>by simp [execOp,hE _ _ hx,hE _ _ hy,go_sem]) id k
theorem jg (M:uv P n G D w0 E ⟨some d,.binOp .lss T x y T',ty,pos,aft,gd⟩ Tk R Lr L) {X Y:Int} {K:IntKind} (k:Nx n G D w0 R ((d,.bool (decide (X<Y))) :: E) L φ) (hx:oev E x=some (.int K X):=by rfl) (hy:oev E y=some (.int K Y):=by rfl) (hd:Nat.blt d n=true:=by rfl):Nx n G D w0 Tk E L φ:=zkT M hx hy hd k
end
section
variable {P:Program} {n:Nat} {G D:Nat→Prop} {w0:World} {Q:Exit→Act→World→Prop} {R:Act→World→Prop} {E:Env} {L:List Ch} {φ:Prop}
variable {d:Tmp} {ty:TypeId} {pos:String} {aft:Array Edge} {gd:Option (Nat×Bool)} {Tk:Act→World→Prop} {Lr:List Ch} {x y:Operand} {T T' S:TypeId} {e sz by':Nat}
theorem zhL {α:Type} {El':El α} {enc:α→List Value} {z:α} {N M:Int} {κ:List α→Prop} {zs:List Value} (hfl:UA El' enc) (hT:elB P T=some (e,sz,by')) (hzr:uJ P e=some zs) (k:∀ v xs,Nx n G D w0 R ((d,v) :: E) (zg El' e v xs :: L) (κ xs)) (hx:oev E x=some (.int .i64 N):=by rfl) (hy:oev E y=some (.int .i64 M):=by rfl) (hd:Nat.blt d n=true:=by rfl) (hby:Nat.ble by' 32768=true:=by rfl) (hz:enc z=zs:=by rfl) (hes:El'.size=sz:=by rfl):Nx n G D w0 (fun a w=>Oper.wp P ⟨some d,.makeSlice T x y,ty,pos,aft,gd⟩ a w R Q) E L (V6 z N M κ) :=
 X2 hd rfl fun ρ w hE hm hφ=>by
  obtain ⟨h0,h1,h2,h3⟩:=hφ
  obtain ⟨hu,i,hi,rfl,rfl⟩:=yh hT
  obtain ⟨z',hz',hzc⟩:=yK hzr hi
  unfold zcH at h2
  have hbl:=Nat.le_of_ble_eq_true hby
  obtain ⟨M',rfl⟩:=Int.eq_ofNat_of_zero_le (show 0≤M by omega)
  have hb:(i.bytes:Int) * (M':Int)≤281474976710656:=by
   have h5:i.bytes * M'≤32768 * 4294967296:=Nat.mul_le_mul hbl (by simpa using h2)
   rw [← Int.natCast_mul]
   omega
  have hr:=run_make (P:=P) w T e i z' hu hi hz' .i64 .i64 N M' h0 h1 hb (by simp at h2;omega)
  have hlz:(enc z).length=El'.size:=hfl.size w z
  have hpos:=El'.pos
  rw [hzc,← hz,← hes,← hlz] at hr
  rw [Int.toNat_natCast] at hr h2
  refine ⟨.slice (some ⟨w.heap.size,0,none⟩) N.toNat M',w.alloc (.cells (madeCells (enc z).toArray (M' * (enc z).length)) e),_,κ (List.replicate N.toNat z),by simp [execOp,hE _ _ hx,hE _ _ hy,hr],?_,h3,k _ _⟩
  refine hm.add _ ((Below.refl _ _).alloc (Nat.le_refl _) _) (fun b hb=>by simp [zg,Value.ownBlock] at hb;rw [World.size_alloc];omega) ?_
  have hown:=zaI (El':=El') (F:=fz G (zg El' e (.slice (some ⟨w.heap.size,0,none⟩) N.toNat M') (List.replicate N.toNat z) :: L) (w.alloc (.cells (madeCells (enc z).toArray (M' * (enc z).length)) e))) (w:=w.alloc (.cells (madeCells (enc z).toArray (M' * (enc z).length)) e)) (ty:=e) (b:=w.heap.size) (cap:=M')
   (Rows.replicate ((hfl _ _ _ _).2 rfl) N.toNat) (heap_alloc_new w _) (by simp;omega) (by unfold maxLen;omega) (by rw [size_madeCells,hlz]) (by
    rw [Zg _ _ (by omega),List.length_replicate,← hlz]
    have:List.replicate M' (enc z)=List.replicate N.toNat (enc z)++List.replicate (M' - N.toNat) (enc z):=by rw [List.replicate_append_replicate];congr 1;omega
    rw [this,List.flatten_append,List.take_left' (by simp)])
  rw [List.length_replicate] at hown
  exact hown
end
section
variable {P:Program} {n:Nat} {G D:Nat→Prop} {w0:World} {Q:Exit→Act→World→Prop} {R:Act→World→Prop} {E:Env} {L M:List Ch} {φ:Prop}
variable {d:Tmp} {ty:TypeId} {pos:String} {aft:Array Edge} {gd:Option (Nat×Bool)} {Tk:Act→World→Prop} {Lr:List Ch} {x y:Operand} {T T' S:TypeId} {e sz by':Nat}
theorem zdG {α:Type} {E':DEl α} {z:α} {N M:Int} {κ:List α→Prop} {zs:List Value} (hz:∀ w,E'.own [] w z zs) (hT:elB P T=some (e,sz,by')) (hzr:uJ P e=some zs) (k:∀ B v xs,Nx n G D w0 R ((d,v) :: E) (jp E' e B v xs :: L) (κ xs)) (hx:oev E x=some (.int .i64 N):=by rfl) (hy:oev E y=some (.int .i64 M):=by rfl) (hd:Nat.blt d n=true:=by rfl) (hby:Nat.ble by' 32768=true:=by rfl) (hes:E'.el.size=sz:=by rfl):Nx n G D w0 (fun a w=>Oper.wp P ⟨some d,.makeSlice T x y,ty,pos,aft,gd⟩ a w R Q) E L (V6 z N M κ) :=
 X2 hd rfl fun ρ w hE hm hφ=>by
  obtain ⟨h0,h1,h2,h3⟩:=hφ
  obtain ⟨hu,i,hi,rfl,rfl⟩:=yh hT
  obtain ⟨z',hz',hzc⟩:=yK hzr hi
  unfold zcH at h2
  have hbl:=Nat.le_of_ble_eq_true hby
  obtain ⟨M',rfl⟩:=Int.eq_ofNat_of_zero_le (show 0≤M by omega)
  have hb:(i.bytes:Int) * (M':Int)≤281474976710656:=by
   have h5:i.bytes * M'≤32768 * 4294967296:=Nat.mul_le_mul hbl (by simpa using h2)
   rw [← Int.natCast_mul]
   omega
  have hr:=run_make (P:=P) w T e i z' hu hi hz' .i64 .i64 N M' h0 h1 hb (by simp at h2;omega)
  have hlz:zs.length=E'.el.size:=E'.el.len _ _ _ _ (E'.read _ _ _ _ (hz w))
  have hpos:=E'.el.pos
  rw [hzc,← hes,← hlz] at hr
  rw [Int.toNat_natCast] at hr h2
  refine ⟨.slice (some ⟨w.heap.size,0,none⟩) N.toNat M',w.alloc (.cells (madeCells zs.toArray (M' * zs.length)) e),_,κ (List.replicate N.toNat z),by simp [execOp,hE _ _ hx,hE _ _ hy,hr],?_,h3,k [w.heap.size] _ _⟩
  refine hm.add _ ((Below.refl _ _).alloc (Nat.le_refl _) _) (fun b hb=>by simp [jp] at hb;rw [World.size_alloc];omega) ⟨by simp,?_⟩
  have hr:=yF.replicate (E:=E') (w:=w.alloc (.cells (madeCells zs.toArray (M' * zs.length)) e)) (hz _) N.toNat
  refine ⟨_,_,hr,?_,by rw [zbM];simp [U5,Value.ownBlock]⟩
  rw [List.length_replicate]
  refine ⟨by simp [hlz],.inr ⟨w.heap.size,M',madeCells zs.toArray (M' * zs.length),rfl,Nat.zero_le _,heap_alloc_new w _,by omega,by unfold maxLen;omega,by rw [size_madeCells,hlz],?_⟩⟩
  rw [Zg _ _ (by omega),← hlz]
  have:List.replicate M' zs=List.replicate N.toNat zs++List.replicate (M' - N.toNat) zs:=by rw [List.replicate_append_replicate];congr 1;omega
  rw [this,List.flatten_append,List.take_left' (by simp)]
end
section
variable {P:Program} {n:Nat} {G D:Nat→Prop} {w0:World} {Q:Exit→Act→World→Prop} {R:Act→World→Prop} {E:Env} {L:List Ch} {φ:Prop}
variable {d:Tmp} {ty:TypeId} {pos:String} {aft:Array Edge} {gd:Option (Nat×Bool)} {Tk:Act→World→Prop} {Lr:List Ch} {x y:Operand} {T T' S:TypeId} {e sz by':Nat}
theorem zgp {α:Type} {El':El α} {z:α} {N M:Int} {κ:List α→Prop} {zs:List Value} (hz:∀ F w,El'.cells F w z zs) (hT:elB P T=some (e,sz,by')) (hzr:uJ P e=some zs) (k:∀ v xs,Nx n G D w0 R ((d,v) :: E) (zg El' e v xs :: L) (κ xs)) (hx:oev E x=some (.int .i64 N):=by rfl) (hy:oev E y=some (.int .i64 M):=by rfl) (hd:Nat.blt d n=true:=by rfl) (hby:Nat.ble by' 32768=true:=by rfl) (hes:El'.size=sz:=by rfl):Nx n G D w0 (fun a w=>Oper.wp P ⟨some d,.makeSlice T x y,ty,pos,aft,gd⟩ a w R Q) E L (V6 z N M κ) :=
 X2 hd rfl fun ρ w hE hm hφ=>by
  obtain ⟨h0,h1,h2,h3⟩:=hφ
  obtain ⟨hu,i,hi,rfl,rfl⟩:=yh hT
  obtain ⟨z',hz',hzc⟩:=yK hzr hi
  unfold zcH at h2
  have hbl:=Nat.le_of_ble_eq_true hby
  obtain ⟨M',rfl⟩:=Int.eq_ofNat_of_zero_le (show 0≤M by omega)
  have hb:(i.bytes:Int) * (M':Int)≤281474976710656:=by
   have h5:i.bytes * M'≤32768 * 4294967296:=Nat.mul_le_mul hbl (by simpa using h2)
   rw [← Int.natCast_mul]
   omega
  have hr:=run_make (P:=P) w T e i z' hu hi hz' .i64 .i64 N M' h0 h1 hb (by simp at h2;omega)
  have hlz:zs.length=El'.size:=El'.len _ _ _ _ (hz (fun _=>True) w)
  have hpos:=El'.pos
  rw [hzc,← hes,← hlz] at hr
  rw [Int.toNat_natCast] at hr h2
  refine ⟨.slice (some ⟨w.heap.size,0,none⟩) N.toNat M',w.alloc (.cells (madeCells zs.toArray (M' * zs.length)) e),_,κ (List.replicate N.toNat z),by simp [execOp,hE _ _ hx,hE _ _ hy,hr],?_,h3,k _ _⟩
  refine hm.add _ ((Below.refl _ _).alloc (Nat.le_refl _) _) (fun b hb=>by simp [zg,Value.ownBlock] at hb;rw [World.size_alloc];omega) ?_
  have hown:=zaI (El':=El') (F:=fz G (zg El' e (.slice (some ⟨w.heap.size,0,none⟩) N.toNat M') (List.replicate N.toNat z) :: L) (w.alloc (.cells (madeCells zs.toArray (M' * zs.length)) e))) (w:=w.alloc (.cells (madeCells zs.toArray (M' * zs.length)) e)) (ty:=e) (b:=w.heap.size) (cap:=M')
   (Rows.replicate (hz _ _) N.toNat) (heap_alloc_new w _) (by simp;omega) (by unfold maxLen;omega) (by rw [size_madeCells,hlz]) (by
    rw [Zg _ _ (by omega),List.length_replicate,← hlz]
    have:List.replicate M' zs=List.replicate N.toNat zs++List.replicate (M' - N.toNat) zs:=by rw [List.replicate_append_replicate];congr 1;omega
    rw [this,List.flatten_append,List.take_left' (by simp)])
  rw [List.length_replicate] at hown
  exact hown
end
section
variable {P:Program} {n:Nat} {G D:Nat→Prop} {w0:World} {Q:Exit→Act→World→Prop} {R:Act→World→Prop} {E:Env} {L:List Ch} {φ:Prop}
variable {d:Tmp} {ty:TypeId} {pos:String} {aft:Array Edge} {gd:Option (Nat×Bool)} {Tk:Act→World→Prop} {Lr:List Ch} {x y:Operand} {T T' S:TypeId} {e sz by':Nat} {at':Array TypeId}
theorem zfI (M:uv P n G D w0 E ⟨some d,.call {callee:=.builtin .max,args:=#[x,y],argTypes:=at'},ty,pos,aft,gd⟩ Tk R Lr L) {X Y:Int} (k:Nx n G D w0 R ((d,.int .i64 (max X Y)) :: E) L φ) (hx:oev E x=some (.int .i64 X):=by rfl) (hy:oev E y=some (.int .i64 Y):=by rfl) (hd:Nat.blt d n=true:=by rfl):Nx n G D w0 Tk E L φ :=
 M.val hd rfl (fun ρ w hE _ _=>by
  have e:(if Y > X then Y else X)=max X Y:=by rw [Int.max_def];split <;> split <;> omega
  simp [execOp,resolve,invoke,builtin,hE _ _ hx,hE _ _ hy,Builtin.max_,Builtin.max2,← e]) id k
theorem Vo (M:uv P n G D w0 E ⟨some d,.call {callee:=.builtin .min,args:=#[x,y],argTypes:=at'},ty,pos,aft,gd⟩ Tk R Lr L) {X Y:Int} (k:Nx n G D w0 R ((d,.int .i64 (min X Y)) :: E) L φ) (hx:oev E x=some (.int .i64 X):=by rfl) (hy:oev E y=some (.int .i64 Y):=by rfl) (hd:Nat.blt d n=true:=by rfl):Nx n G D w0 Tk E L φ :=
 M.val hd rfl (fun ρ w hE _ _=>by
  have e:(if Y<X then Y else X)=min X Y:=by rw [Int.min_def];split <;> split <;> omega
  simp [execOp,resolve,invoke,builtin,hE _ _ hx,hE _ _ hy,Builtin.min_,Builtin.min2,← e]) id k
end
section
variable {P:Program} {n:Nat} {G D:Nat→Prop} {w0:World} {Q:Exit→Act→World→Prop} {R:Act→World→Prop} {E:Env} {L M:List Ch} {φ:Prop}
variable {d:Tmp} {ty:TypeId} {pos:String} {aft:Array Edge} {gd:Option (Nat×Bool)} {Tk:Act→World→Prop} {Lr:List Ch} {x y:Operand} {T T' S:TypeId} {e sz by':Nat} {dst:Option Tmp} {at':Array TypeId}
theorem zcr (M:uv P n G D w0 E ⟨some d,.makeInterface T x,ty,pos,aft,gd⟩ Tk R Lr L) {v u:Value} (hm:∀ v w,(Instr.makeInterface T v).run P w=.ok (.iface T v) w) (k:Nx n G D w0 R ((d,u) :: E) L φ) (hx:oev E x=some v:=by rfl) (hd:Nat.blt d n=true:=by rfl) (hu:Value.iface T v=u:=by rfl):Nx n G D w0 Tk E L φ :=
 M.val hd rfl (fun ρ w hE _ _=>by simp [execOp,hE _ _ hx,hm,hu]) id k
end
section
variable {P:Program} {n:Nat} {G D:Nat→Prop} {w0:World} {Q:Exit→Act→World→Prop} {R:Act→World→Prop} {E:Env} {L:List Ch} {φ:Prop}
variable {d:Tmp} {ty:TypeId} {pos:String} {aft:Array Edge} {gd:Option (Nat×Bool)} {Tk:Act→World→Prop} {Lr:List Ch} {x y:Operand} {T T':TypeId}
theorem zdN (M:uv P n G D w0 E ⟨some d,.binOp .mul T x y T',ty,pos,aft,gd⟩ Tk R Lr L) {X Y:Int} {κ:Int→Prop} (k:∀ z,Nx n G D w0 R ((d,.int .i64 z) :: E) L (κ z)) (hx:oev E x=some (.int .i64 X):=by rfl) (hy:oev E y=some (.int .i64 Y):=by rfl) (hd:Nat.blt d n=true:=by rfl):Nx n G D w0 Tk E L (zhg X Y κ) :=
 M.val (v:=.int .i64 (X * Y)) hd rfl (fun ρ w hE _ hφ=>by
  have h:=hφ.1
  have e:IntKind.i64.wrap (X * Y)=X * Y:=by unfold I64 at h;rw [IntKind.wrap_i64];omega
  simp [execOp,hE _ _ hx,hE _ _ hy,go_sem,e]) (fun h=>h.2) (k _)
theorem zhR (M:uv P n G D w0 E ⟨some d,.binOp .mul T x y T',ty,pos,aft,gd⟩ Tk R Lr L) {X Y:Int} (k:Nx n G D w0 R ((d,.int .i64 (w64 (X * Y))) :: E) L φ) (hx:oev E x=some (.int .i64 X):=by rfl) (hy:oev E y=some (.int .i64 Y):=by rfl) (hd:Nat.blt d n=true:=by rfl):Nx n G D w0 Tk E L φ :=
 M.val hd rfl (fun ρ w hE _ _=>by simp [execOp,hE _ _ hx,hE _ _ hy,go_sem,w64]) id k
theorem zu (M:uv P n G D w0 E ⟨some d,.move x,ty,pos,aft,gd⟩ Tk R Lr L) {v:Value} (k:Nx n G D w0 R ((d,v) :: E) L φ) (hx:oev E x=some v:=by rfl) (hd:Nat.blt d n=true:=by rfl):Nx n G D w0 Tk E L φ:=YJ M hx hd k
end
section
variable {P:Program} {n:Nat} {G D:Nat→Prop} {w0:World} {Q:Exit→Act→World→Prop} {R:Act→World→Prop} {E:Env} {L:List Ch} {φ:Prop}
variable {d:Tmp} {ty:TypeId} {pos:String} {aft:Array Edge} {gd:Option (Nat×Bool)} {Tk:Act→World→Prop} {Lr:List Ch} {x y:Operand} {T T' S:TypeId} {e sz by':Nat}
theorem Vg (M:uv P n G D w0 E ⟨some d,.binOp .neq T x y T',ty,pos,aft,gd⟩ Tk R Lr L) {X Y:Int} {K:IntKind} (hT:P.underlying T=some (.int K)) (k:Nx n G D w0 R ((d,.bool (!decide (X=Y))) :: E) L φ) (hx:oev E x=some (.int K X):=by rfl) (hy:oev E y=some (.int K Y):=by rfl) (hd:Nat.blt d n=true:=by rfl):Nx n G D w0 Tk E L φ :=
 M.val hd rfl (fun ρ w hE _ _=>by simp [execOp,hE _ _ hx,hE _ _ hy,go_sem,hT,run_underlying hT];rfl) id k
theorem zhW (M:uv P n G D w0 E ⟨some d,.binOp .neq T x y T',ty,pos,aft,gd⟩ Tk R Lr L) {X Y:Bool} (hT:P.underlying T=some .bool) (k:Nx n G D w0 R ((d,.bool (!decide (X=Y))) :: E) L φ) (hx:oev E x=some (.bool X):=by rfl) (hy:oev E y=some (.bool Y):=by rfl) (hd:Nat.blt d n=true:=by rfl):Nx n G D w0 Tk E L φ :=
 M.val hd rfl (fun ρ w hE _ _=>by cases X <;> cases Y <;> simp [execOp,hE _ _ hx,hE _ _ hy,go_sem,hT,run_underlying hT]) id k
end
section
variable {P:Program} {n:Nat} {G D:Nat→Prop} {w0:World} {Q:Exit→Act→World→Prop} {R:Act→World→Prop} {E:Env} {L:List Ch} {φ:Prop}
variable {d:Tmp} {ty:TypeId} {pos:String} {aft:Array Edge} {gd:Option (Nat×Bool)} {Tk:Act→World→Prop} {Lr:List Ch} {x y:Operand} {T T' S:TypeId}
end
section
variable {P:Program} {n:Nat} {G D:Nat→Prop} {w0:World} {Q:Exit→Act→World→Prop} {R:Act→World→Prop} {E:Env} {L M:List Ch} {φ:Prop}
variable {d:Tmp} {ty:TypeId} {pos:String} {aft:Array Edge} {gd:Option (Nat×Bool)} {Tk:Act→World→Prop} {Lr:List Ch} {x y:Operand} {T T' S:TypeId} {e sz by':Nat}
end
section
variable {P:Program} {n:Nat} {G D:Nat→Prop} {w0:World} {Q:Exit→Act→World→Prop} {R:Act→World→Prop} {E:Env} {L M:List Ch} {φ:Prop}
variable {d:Tmp} {ty:TypeId} {pos:String} {aft:Array Edge} {gd:Option (Nat×Bool)} {Tk:Act→World→Prop} {Lr:List Ch} {x y:Operand} {T T' S:TypeId}
end
section
variable {P:Program} {n:Nat} {G D:Nat→Prop} {w0:World} {Q:Exit→Act→World→Prop} {R:Act→World→Prop} {E:Env} {L:List Ch} {φ:Prop}
variable {d:Tmp} {ty:TypeId} {pos:String} {aft:Array Edge} {gd:Option (Nat×Bool)} {Tk:Act→World→Prop} {Lr:List Ch} {x y:Operand} {T T' S:TypeId} {e sz by':Nat}
theorem xt (M:uv P n G D w0 E ⟨some d,.nilCheck x,ty,pos,aft,gd⟩ Tk R Lr L) {a:Addr} (k:Nx n G D w0 R ((d,.pointer (some a)) :: E) L φ) (hx:oev E x=some (.pointer (some a)):=by rfl) (hd:Nat.blt d n=true:=by rfl):Nx n G D w0 Tk E L φ :=
 M.val hd rfl (fun ρ w hE _ _=>by simp [execOp,hE _ _ hx]) id k
end
section
variable {P:Program} {n:Nat} {G D:Nat→Prop} {w0:World} {Q:Exit→Act→World→Prop} {R:Act→World→Prop} {E:Env} {L:List Ch} {φ:Prop}
variable {d:Tmp} {ty:TypeId} {pos:String} {aft:Array Edge} {gd:Option (Nat×Bool)} {Tk:Act→World→Prop} {Lr:List Ch} {x y:Operand} {T T':TypeId}
theorem jA (M:uv P n G D w0 E ⟨some d,.unOp .not T x,ty,pos,aft,gd⟩ Tk R Lr L) {b:Bool} (k:Nx n G D w0 R ((d,.bool (!b)) :: E) L φ) (hx:oev E x=some (.bool b):=by rfl) (hd:Nat.blt d n=true:=by rfl):Nx n G D w0 Tk E L φ:=zkW M hx hd k
end
section
variable {P:Program} {n:Nat} {G D:Nat→Prop} {w0:World} {Q:Exit→Act→World→Prop} {R:Act→World→Prop} {E:Env} {L:List Ch} {φ:Prop}
variable {d:Tmp} {ty:TypeId} {pos:String} {aft:Array Edge} {gd:Option (Nat×Bool)} {Tk:Act→World→Prop} {Lr:List Ch} {x y:Operand} {T T' S:TypeId} {e sz by':Nat}
theorem zN {c:Operand} (M:uv P n G D w0 E ⟨some d,.pick c x y,ty,pos,aft,gd⟩ Tk R Lr L) {v:Value} (k:Nx n G D w0 R ((d,v) :: E) L φ) (hc:oev E c=some (.bool false):=by rfl) (hx:oev E y=some v:=by rfl) (hd:Nat.blt d n=true:=by rfl):Nx n G D w0 Tk E L φ :=
 M.val hd rfl (fun ρ w hE _ _=>by simp [execOp,hE _ _ hc,hE _ _ hx,asBool]) id k
theorem zT {c:Operand} (M:uv P n G D w0 E ⟨some d,.pick c x y,ty,pos,aft,gd⟩ Tk R Lr L) {v:Value} (k:Nx n G D w0 R ((d,v) :: E) L φ) (hc:oev E c=some (.bool true):=by rfl) (hx:oev E x=some v:=by rfl) (hd:Nat.blt d n=true:=by rfl):Nx n G D w0 Tk E L φ :=
 M.val hd rfl (fun ρ w hE _ _=>by simp [execOp,hE _ _ hc,hE _ _ hx,asBool]) id k
end
section
variable {P:Program} {n:Nat} {G D:Nat→Prop} {w0:World} {Q:Exit→Act→World→Prop} {R:Act→World→Prop} {E:Env} {L:List Ch} {φ:Prop}
variable {d:Tmp} {ty:TypeId} {pos:String} {aft:Array Edge} {gd:Option (Nat×Bool)} {Tk:Act→World→Prop} {Lr:List Ch} {x y:Operand} {T T':TypeId}
theorem zjD (M:uv P n G D w0 E ⟨some d,.binOp .quo T x y T',ty,pos,aft,gd⟩ Tk R Lr L) {X Y:Int} {κ:Int→Prop} (k:∀ z,Nx n G D w0 R ((d,.int .i64 z) :: E) L (κ z)) (hx:oev E x=some (.int .i64 X):=by rfl) (hy:oev E y=some (.int .i64 Y):=by rfl) (hd:Nat.blt d n=true:=by rfl):Nx n G D w0 Tk E L (ziL X Y κ) :=
 M.val (v:=.int .i64 (X.tdiv Y)) hd rfl (fun ρ w hE _ hφ=>by
  obtain ⟨h2,h3,_⟩:=hφ
  have e0:Y≠0:=by omega
  have e:IntKind.i64.wrap (X.tdiv Y)=X.tdiv Y:=by
   unfold I64 at h3
   rw [IntKind.wrap_i64]
   by_cases h1:0≤X
   ·have e1:X.tdiv Y=X / Y:=Int.tdiv_eq_ediv_of_nonneg h1
    have e2:=Int.ediv_nonneg h1 (show 0≤Y by omega)
    have e3:X / Y≤X:=Int.ediv_le_self _ h1
    omega
   ·have e1:X.tdiv Y=-((-X) / Y):=by
     have:=Int.neg_tdiv (a:=-X) (b:=Y)
     rw [Int.neg_neg] at this
     rw [this,Int.tdiv_eq_ediv_of_nonneg (by omega)]
    have e2:=Int.ediv_nonneg (show 0≤-X by omega) (show 0≤Y by omega)
    have e3:(-X) / Y≤-X:=Int.ediv_le_self _ (by omega)
    omega
  simp [execOp,hE _ _ hx,hE _ _ hy,go_sem,e0,e]) (fun h=>h.2.2) (k _)
theorem zfP (M:uv P n G D w0 E ⟨some d,.binOp .rem T x y T',ty,pos,aft,gd⟩ Tk R Lr L) {X Y:Int} {κ:Int→Prop} (k:∀ z,Nx n G D w0 R ((d,.int .i64 z) :: E) L (κ z)) (hx:oev E x=some (.int .i64 X):=by rfl) (hy:oev E y=some (.int .i64 Y):=by rfl) (hd:Nat.blt d n=true:=by rfl):Nx n G D w0 Tk E L (zg5 X Y κ) :=
 M.val (v:=.int .i64 (X % Y)) hd rfl (fun ρ w hE _ hφ=>by
  obtain ⟨h1,h2,h3,_⟩:=hφ
  have e0:Y≠0:=by omega
  have e1:X.tmod Y=X % Y:=Int.tmod_eq_emod_of_nonneg h1
  simp [execOp,hE _ _ hx,hE _ _ hy,go_sem,e0,e1]) (fun h=>h.2.2.2) (k _)
end
section
variable {P:Program} {n:Nat} {G D:Nat→Prop} {w0:World} {Q:Exit→Act→World→Prop} {R:Act→World→Prop} {E:Env} {L:List Ch} {φ:Prop}
variable {d:Tmp} {ty:TypeId} {pos:String} {aft:Array Edge} {gd:Option (Nat×Bool)} {Tk:Act→World→Prop} {Lr:List Ch} {x y:Operand} {T T' S:TypeId} {e sz by':Nat} {at':Array TypeId}
theorem Xu {α:Type} {El':El α} {v:Value} {xs:List α} {lo hi:Option Operand} {I J:Int} {κ:List α→Prop} (i:Nat) (hT:elB P T=some (e,sz,by')) (k:∀ v' ys,Nx n G D w0 R ((d,v') :: E) (jQ El' v' ys :: L) (κ ys)) (hi':xD L i=some (jQ El' v xs):=by rfl) (hx:oev E x=some v:=by rfl) (hlo:match lo with | none=>I=0 | some l=>oev E l=some (.int .i64 I):=by rfl) (hhi:match hi with | none=>J=xs.length | some h=>oev E h=some (.int .i64 J):=by rfl) (hd:Nat.blt d n=true:=by rfl) (hes:El'.size=sz:=by rfl):Nx n G D w0 (fun a w=>Oper.wp P ⟨some d,.slice T x lo hi none,ty,pos,aft,gd⟩ a w R Q) E L (yY xs I J κ) :=
 X2 hd rfl fun ρ w hE hm hφ=>by
  obtain ⟨h0,h1,h2,h3⟩:=hφ
  obtain ⟨hu,inf,hinf,rfl,rfl⟩:=yh hT
  have hsl:=hm.ro i hi'
  obtain ⟨a,cap,hv,hcap,_⟩:=hsl
  have hsl:=hm.ro i hi'
  subst hv
  have hp:=fun (F:Nat→Prop) (h:Sl El' F w (.slice a xs.length cap) xs)=>h.part I.toNat J.toNat (by omega) (by omega)
  refine ⟨_,w,_,κ ((xs.take J.toNat).drop I.toNat),?_,zje hm hi' hp,h3,k _ _⟩
  have e1:(J:Int)≤cap:=by omega
  have e2:0≤J:=by omega
  cases lo with
  | none =>
   cases hi with
   | none =>
    simp only at hlo hhi
    subst hlo hhi
    simp [execOp,hE _ _ hx,Instr.sliceAt,Instr.slice,Instr.sliceBounds,run_underlying hu,sizeOf,typeInfo,hinf,hes]
   | some hh =>
    simp only at hlo hhi
    subst hlo
    simp [execOp,hE _ _ hx,hE _ _ hhi,Instr.sliceAt,Instr.slice,Instr.sliceBounds,Instr.sliceBound,asIntOf,run_underlying hu,sizeOf,typeInfo,hinf,e1,e2,hes]
  | some ll =>
   cases hi with
   | none =>
    simp only at hlo hhi
    subst hhi
    have e3:I≤(xs.length:Int):=h1
    simp [execOp,hE _ _ hx,hE _ _ hlo,Instr.sliceAt,Instr.slice,Instr.sliceBounds,Instr.sliceBound,asIntOf,run_underlying hu,sizeOf,typeInfo,hinf,h0,e3,hes]
   | some hh =>
    simp only at hlo hhi
    have e4:I≤(J.toNat:Int):=by omega
    simp [execOp,hE _ _ hx,hE _ _ hlo,hE _ _ hhi,Instr.sliceAt,Instr.slice,Instr.sliceBounds,Instr.sliceBound,asIntOf,run_underlying hu,sizeOf,typeInfo,hinf,h0,e1,e2,e4,hes]
    intro h;omega
end
section
variable {P:Program} {n:Nat} {G D:Nat→Prop} {w0:World} {Q:Exit→Act→World→Prop} {R:Act→World→Prop} {E:Env} {L M:List Ch} {φ:Prop}
variable {d:Tmp} {ty:TypeId} {pos:String} {aft:Array Edge} {gd:Option (Nat×Bool)} {Tk:Act→World→Prop} {Lr:List Ch} {x y:Operand} {T T' S:TypeId} {e sz by':Nat}
end
section
variable {P:Program} {n:Nat} {G D:Nat→Prop} {w0:World} {Q:Exit→Act→World→Prop} {R:Act→World→Prop} {E:Env} {L:List Ch} {φ:Prop}
variable {d:Tmp} {ty:TypeId} {pos:String} {aft:Array Edge} {gd:Option (Nat×Bool)} {Tk:Act→World→Prop} {Lr:List Ch} {x y:Operand} {T T' S:TypeId}
end
section
variable {P:Program} {n:Nat} {G D:Nat→Prop} {w0:World} {Q:Exit→Act→World→Prop} {R:Act→World→Prop} {E:Env} {L M:List Ch} {φ:Prop}
variable {d:Tmp} {ty:TypeId} {pos:String} {aft:Array Edge} {gd:Option (Nat×Bool)} {Tk:Act→World→Prop} {Lr:List Ch} {x y:Operand} {T T' S:TypeId} {e sz by':Nat}
theorem yA {α:Type} {El':El α} {u:Value} {cs:List Value} {len b fs:Nat} {xs0:List α} {row:Bool} {e':TypeId} (i:Nat) (xs:List α) (css:List (List Value)) (hr:∀ w,Mem G D w0 L w→Rows El' (fz G L w) w xs css) (hT:tyB P T=some (row,fs)) (k:Nx n G D w0 R E (yH L i (zg El' e' (.slice (some ⟨b,0,none⟩) len len) xs)) φ) (hi:xD L i=some (zg El' e' (.slice (some ⟨b,0,none⟩) len len) xs0):=by rfl) (hx:oev E x=some (.pointer (some ⟨b,0,none⟩)):=by rfl) (hy:oev E y=some u:=by rfl) (hcs:u.cells=cs.toArray:=by rfl) (hfl:css.flatten=cs:=by rfl) (hl:xs.length=len:=by rfl) (h1:u.cells.toList.all (·.oneCell')=true:=by rfl) (hsz:Nat.beq u.cells.size fs=true:=by rfl) (hpos:Nat.beq len 0=false:=by rfl):Nx n G D w0 (fun a w=>Oper.wp P ⟨none,.store T x y,ty,pos,aft,gd⟩ a w R Q) E L φ :=
 zco rfl fun ρ w hE hm hφ=>by
  obtain ⟨css0,hr0,how⟩:=hm.get hi
  obtain ⟨h0,hown⟩:=how
  have hlp:len≠0:=fun e=>by rw [e] at hpos;simp at hpos
  rcases hown with ⟨h,_⟩ | ⟨g,cap,cur,h,hg0,hg,hnc,hcm,hcz,htake⟩
  ·cases h
  simp only [Value.slice.injEq,Option.some.injEq,Addr.mk.injEq] at h
  obtain ⟨⟨rfl,-,-⟩,hln,rfl⟩:=h
  have hrows:=hr w hm
  have hlen:=hrows.length
  rw [hfl,hl] at hlen
  have hb:w.heap[b]?=some (.cells cur.toList.toArray e' (0,0)):=by simpa using hg
  have hcl:cur.toList.length=len * El'.size:=by rw [Array.length_toList,hcz]
  have hus:u.cells.toList=cs:=by rw [hcs]
  have hzs:=Nat.eq_of_beq_eq_true hsz
  have hr':=zaL (P:=P) (w:=w) hT hsz h1 (b:=b) (o:=0) (ZR hb (by rw [hcl];rw [hcs];simp [hlen]))
  refine ⟨_,_,φ,by simp [execOp,hE _ _ hx,hE _ _ hy,hr'];rfl,?_,hφ,k⟩
  obtain ⟨s1,s2,s3⟩:=Zv b u.cells.toList 0 w
  have hput:Xe cur.toList 0 cs=cs:=by
   have key:∀ (vs l:List Value),vs.length=l.length→∀ p:List Value,Xe (p++l) p.length vs=p++vs:=by
    intro vs
    induction vs with
    | nil=>intro l hl p;cases l with
     | nil=>rfl
     | cons _ _=>simp at hl
    | cons a r ih=>intro l hl p;cases l with
     | nil=>simp at hl
     | cons c l =>
      rw [Xe]
      have:(p++c :: l).set p.length a=(p++[a])++l:=by simp
      rw [this]
      have:=ih l (by simpa using hl) (p++[a])
      simpa using this
   simpa using key cs cur.toList (by omega) []
  have hup:=Zw b e' (0,0) u.cells.toList 0 cur.toList w hb
  rw [hus,hput] at hup
  refine hm.upd hi s1 s2 s3 (by rw [xC];exact Nat.le_refl _) (fun x _ hx=>ul b _ _ _ _ (fun e=>hx (by rw [e];rfl))) (fun x hx=>⟨?_,.inl hx⟩) ?_
  ·have hx':some b=some x:=hx
   cases hx'
   rw [xC]
   exact (Array.getElem?_eq_some_iff.1 hg).1
  ·have hsame:∀ c,fz G L w c→(w.setCells b 0 u.cells.toList).heap[c]?=w.heap[c]?:=fun c hc=>ul b _ _ _ _ (fun e''=>hc.2.2 _ (xB hi) (by rw [e''];rfl))
   have hk:=hrows.keep (F':=fz G (yH L i (zg El' e' (.slice (some ⟨b,0,none⟩) len len) xs)) (w.setCells b 0 u.cells.toList)) (fun c hc=>⟨by rw [xC];exact hc.1,hc.2.1,fun x hx=>by
    rcases Z8 hi hm.disj hx with e'' | ⟨e1,_⟩
    ·subst e'';exact fun hk=>hc.2.2 _ (xB hi) hk
    ·exact hc.2.2 x e1⟩) hsame
   subst hl
   have h0':=hk.length
   rw [hfl] at h0'
   refine ⟨css,hk,by rw [hfl];exact h0',.inr ⟨b,xs.length,cs.toArray,rfl,hg0,by rw [hus];exact hup,Nat.le_refl _,hcm,by simpa using h0',by rw [hfl,← h0'];simp⟩⟩
end
section
variable {P:Program} {n:Nat} {G D:Nat→Prop} {w0:World} {Q:Exit→Act→World→Prop} {R:Act→World→Prop} {E:Env} {L M:List Ch} {φ:Prop}
variable {d:Tmp} {ty:TypeId} {pos:String} {aft:Array Edge} {gd:Option (Nat×Bool)} {Tk:Act→World→Prop} {Lr:List Ch} {x y:Operand} {T T' S:TypeId} {e sz by':Nat}
end
section
variable {P:Program} {n:Nat} {G D:Nat→Prop} {w0:World} {Q:Exit→Act→World→Prop} {R:Act→World→Prop} {E:Env} {L:List Ch} {φ:Prop}
variable {d:Tmp} {ty:TypeId} {pos:String} {aft:Array Edge} {gd:Option (Nat×Bool)} {Tk:Act→World→Prop} {Lr:List Ch} {x y:Operand} {T T' S:TypeId}
theorem z8 {b o sz:Nat} {cs cs':List Value} {T0:TypeId} {row:Bool} {u:Value} (i:Nat) (hT:tyB P T=some (row,sz)) (k:Nx n G D w0 R E (yH L i (zb b cs' T0)) φ) (hi:xD L i=some (zb b cs T0):=by rfl) (hx:oev E x=some (.pointer (some ⟨b,o,none⟩)):=by rfl) (hy:oev E y=some u:=by rfl) (hsz:Nat.beq u.cells.size sz=true:=by rfl) (h1:u.cells.toList.all (·.oneCell')=true:=by rfl) (hle:Nat.ble (o+sz) cs.length=true:=by rfl) (hcs:Xe cs o u.cells.toList=cs':=by rfl):Nx n G D w0 (fun a w=>Oper.wp P ⟨none,.store T x y,ty,pos,aft,gd⟩ a w R Q) E L φ:=zdv i hi hx hy hT hsz h1 hle hcs k
end
section
variable {P:Program} {n:Nat} {G D:Nat→Prop} {w0:World} {Q:Exit→Act→World→Prop} {R:Act→World→Prop} {E:Env} {L:List Ch} {φ:Prop}
variable {d:Tmp} {ty:TypeId} {pos:String} {aft:Array Edge} {gd:Option (Nat×Bool)} {Tk:Act→World→Prop} {Lr:List Ch} {x y:Operand} {T T' S:TypeId} {e sz by':Nat}
theorem zav {α:Type} {El':El α} {enc:α→List Value} {v:Value} {xs:List α} {I:Int} {z y':α} {o sz fs:Nat} {row:Bool} {u:Value} (i:Nat) (hfl:UA El' enc) (hz:xs[I.toNat]?=some z) (hT:tyB P T=some (row,fs)) (k:Nx n G D w0 R E (yH L i (zg El' e v (xs.set I.toNat y'))) φ) (hi:xD L i=some (zg El' e v xs):=by rfl) (hes:El'.size=sz:=by rfl) (hx:oev E x=some (pEl v I sz o):=by rfl) (hy:oev E y=some u:=by rfl) (hsz:Nat.beq u.cells.size fs=true:=by rfl) (h1:u.cells.toList.all (·.oneCell')=true:=by rfl) (hle:Nat.ble (o+fs) sz=true:=by rfl) (hy':Xe (enc z) o u.cells.toList=enc y':=by rfl):Nx n G D w0 (fun a w=>Oper.wp P ⟨none,.store T x y,ty,pos,aft,gd⟩ a w R Q) E L φ :=
 zco rfl fun ρ w hE hm hφ=>by
  have hlt:=(List.getElem?_eq_some_iff.1 hz).1
  obtain ⟨css,hr,hown⟩:=hm.get hi
  have hcss:=hr.length
  obtain ⟨h0,hown⟩:=hown
  rcases hown with ⟨_,hn⟩ | ⟨g,cap,cur,rfl,hg0,hg,hnc,hcm,hcs,htake⟩
  ·omega
  rw [yp] at hx
  have hzs:=Nat.eq_of_beq_eq_true hsz
  have hle':=Nat.le_of_ble_eq_true hle
  have hb:w.heap[g]?=some (.cells cur.toList.toArray e (0,0)):=by simpa using hg
  have hsub:I.toNat * sz+sz≤xs.length * sz:=by rw [← Nat.succ_mul];exact Nat.mul_le_mul_right _ hlt
  have hcap:xs.length * sz≤cap * sz:=Nat.mul_le_mul_right _ hnc
  have hcl:cur.toList.length=cap * sz:=by rw [Array.length_toList,hcs,hes]
  have hr':=zaL (P:=P) (w:=w) hT hsz h1 (b:=g) (o:=0+I.toNat * sz+o) (ZR hb (by rw [hzs,hcl];omega))
  refine ⟨_,_,φ,by simp [execOp,hE _ _ hx,hE _ _ hy] at hr' ⊢;rw [hr'];rfl,?_,hφ,k⟩
  obtain ⟨s1,s2,s3⟩:=Zv g u.cells.toList (I.toNat * sz+o) w
  refine hm.upd hi s1 s2 s3 (by rw [xC];exact Nat.le_refl _) (fun x _ hx=>ul g _ _ _ _ (fun e=>hx (by rw [e];rfl))) (fun x hx=>⟨?_,.inl hx⟩) ?_
  ·have hx':some g=some x:=hx
   cases hx'
   rw [xC]
   exact (Array.getElem?_eq_some_iff.1 hg).1
  ·
   have hcz:El'.cells (fz G L w) w z (enc z):=(hfl _ _ _ _).2 rfl
   obtain ⟨pre,post,old,e1,e2,e3,css',e4,e5⟩:=hr.set I.toNat (y:=y') (ds:=enc y') hlt ((hfl _ _ _ _).2 rfl)
   have hold:old=enc z:=by
    obtain ⟨cs,c1,c2⟩:=hr.get hz
    rw [(hfl _ _ _ _).1 c1] at c2
    apply List.ext_getElem?
    intro j
    by_cases hj:j<(enc z).length
    ·have:=c2 j (enc z)[j] (List.getElem?_eq_getElem hj)
     rw [e1,List.append_assoc,← e2,List.getElem?_append_right (by omega),show pre.length+j - pre.length=j by omega,List.getElem?_append_left (by rw [e3,← hfl.size w z];exact hj)] at this
     rw [this,List.getElem?_eq_getElem hj]
    ·rw [List.getElem?_eq_none (by rw [e3,← hfl.size w z];omega),List.getElem?_eq_none (by omega)]
   have hlz:(enc z).length=sz:=by rw [hfl.size w z,hes]
   have hup:=Zw g e (0,0) u.cells.toList (I.toNat * sz+o) cur.toList w hb
   refine ⟨css',?_,?_,.inr ⟨g,cap,(Xe cur.toList (I.toNat * sz+o) u.cells.toList).toArray,by simp,hg0,hup,by simpa using hnc,hcm,by simpa [XN] using hcs,?_⟩⟩
   ·have go:∀ (F F':Nat→Prop) (w':World) (ys:List α) (dss:List (List Value)),Rows El' F w ys dss→Rows El' F' w' ys dss:=by
     intro F F' w' ys
     induction ys with
     | nil=>intro dss h;cases dss <;> first | trivial | exact h.elim
     | cons y0 r ih=>intro dss h;cases dss with
      | nil=>exact h.elim
      | cons d0 ds=>exact ⟨hfl.free _ _ _ _ _ _ h.1,ih ds h.2⟩
    exact go _ _ _ _ _ e5
   ·have:=e5.length
    simpa using this
   ·rw [e4]
    have hct:cur.toList=pre++old++(post++cur.toList.drop (xs.length * sz)):=by
     rw [← List.append_assoc,← e1,← htake,hes,List.take_append_drop]
    rw [hct,← hes,← e2,Yq _ _ _ _ _ (by rw [hold,hlz];simp;omega),hold,hy',← List.append_assoc]
    rw [List.length_set]
    have hly:(enc y').length=El'.size:=hfl.size w y'
    have htot:(pre++enc y'++post).length=xs.length * El'.size:=by
     have h5:=congrArg List.length e1
     rw [hcss] at h5
     simp at h5 ⊢
     omega
    rw [← htot]
    exact List.take_left
end
section
variable {P:Program} {n:Nat} {G D:Nat→Prop} {w0:World} {Q:Exit→Act→World→Prop} {R:Act→World→Prop} {E:Env} {L:List Ch} {φ:Prop}
variable {d:Tmp} {ty:TypeId} {pos:String} {aft:Array Edge} {gd:Option (Nat×Bool)} {Tk:Act→World→Prop} {Lr:List Ch} {x y:Operand} {T T' S:TypeId} {e sz by':Nat}
end
section
variable {P:Program} {n:Nat} {G D:Nat→Prop} {w0:World} {Q:Exit→Act→World→Prop} {R:Act→World→Prop} {E:Env} {L:List Ch} {φ:Prop}
variable {d:Tmp} {ty:TypeId} {pos:String} {aft:Array Edge} {gd:Option (Nat×Bool)} {Tk:Act→World→Prop} {Lr:List Ch} {x y:Operand} {T T':TypeId}
theorem yO (M:uv P n G D w0 E ⟨some d,.binOp .sub T x y T',ty,pos,aft,gd⟩ Tk R Lr L) {X Y:Int} {κ:Int→Prop} (k:∀ z,Nx n G D w0 R ((d,.int .i64 z) :: E) L (κ z)) (hx:oev E x=some (.int .i64 X):=by rfl) (hy:oev E y=some (.int .i64 Y):=by rfl) (hd:Nat.blt d n=true:=by rfl):Nx n G D w0 Tk E L (Yi X Y κ):=zjo M hx hy hd k
end
section
variable {P:Program} {n:Nat} {G D:Nat→Prop} {w0:World} {Q:Exit→Act→World→Prop} {R:Act→World→Prop} {E:Env} {L:List Ch} {φ:Prop}
variable {d:Tmp} {ty:TypeId} {pos:String} {aft:Array Edge} {gd:Option (Nat×Bool)} {Tk:Act→World→Prop} {Lr:List Ch} {x y:Operand} {T T' S:TypeId} {e sz by':Nat} {at':Array TypeId}
end
section
variable {P:Program} {n:Nat} {G D:Nat→Prop} {w0:World} {Q:Exit→Act→World→Prop} {R:Act→World→Prop} {E:Env} {L:List Ch} {φ:Prop}
variable {d:Tmp} {ty:TypeId} {pos:String} {aft:Array Edge} {gd:Option (Nat×Bool)} {Tk:Act→World→Prop} {Lr:List Ch} {x y:Operand} {T T':TypeId}
end
section
variable {P:Program} {n:Nat} {G D:Nat→Prop} {w0:World} {Q:Exit→Act→World→Prop} {R:Act→World→Prop} {E:Env} {L:List Ch} {φ:Prop}
variable {d:Tmp} {ty:TypeId} {pos:String} {aft:Array Edge} {gd:Option (Nat×Bool)} {Tk:Act→World→Prop} {Lr:List Ch} {x y:Operand} {T T' S:TypeId} {e sz by':Nat} {at':Array TypeId}
theorem zk4 (M:uv P n G D w0 E ⟨some d,.binOp .xor T x y T',ty,pos,aft,gd⟩ Tk R Lr L) {X Y:Int} {κ:Int→Prop} (k:∀ z,Nx n G D w0 R ((d,.int .i64 z) :: E) L (κ z)) (hx:oev E x=some (.int .i64 X):=by rfl) (hy:oev E y=some (.int .i64 Y):=by rfl) (hd:Nat.blt d n=true:=by rfl):Nx n G D w0 Tk E L (zk5 X Y κ) :=
 M.val (v:=.int .i64 ((X.toNat ^^^ Y.toNat:Nat):Int)) hd rfl (fun ρ w hE _ hφ=>by
  obtain ⟨h1,h2,h3,h4,_⟩:=hφ
  have e0:(2:Nat) ^ 62=4611686018427387904:=by decide
  have e:=zmw X.toNat Y.toNat (by omega) (by omega)
  rw [Int.toNat_of_nonneg h1,Int.toNat_of_nonneg h3] at e
  simp [execOp,hE _ _ hx,hE _ _ hy,go_sem,e]) (fun h=>h.2.2.2.2) (k _)
end
end
section
open Go.RowKit
section
variable {P:Program} {n:Nat} {G D:Nat→Prop} {w0:World} {E:Env} {L:List Ch} {φ:Prop}
theorem y0 {i1:Nat} {l1:List Oper} {y0:Code} {Q0:Exit→Act→World→Prop} (h:Nx n G D w0 (wpList P l1.toArray (Exit.then (y0.wp P Q0) Q0) l1) E L φ):Nx n G D w0 ((Code.seq (Code.region i1 l1.toArray false) y0).wp P Q0) E L φ:=jJ (zq h)
theorem y1 {o0:Array Oper} {K1:Act→World→Prop} {Q1:Exit→Act→World→Prop} (h:Nx n G D w0 K1 E L φ):Nx n G D w0 (wpList P o0 (Exit.then K1 Q1) []) E L φ:=zz (zZ h)
theorem y2 {o0:Array Oper} {i3:Nat} {l3:List Oper} {y2:Code} {Q2:Exit→Act→World→Prop} {Q1:Exit→Act→World→Prop} (h:Nx n G D w0 (wpList P l3.toArray (Exit.then (y2.wp P Q2) Q2) l3) E L φ):Nx n G D w0 (wpList P o0 (Exit.then ((Code.seq (Code.region i3 l3.toArray false) y2).wp P Q2) Q1) []) E L φ:=zz (zZ (jJ (zq h)))
theorem y3 {o0:Array Oper} {Q2:Exit→Act→World→Prop} {Q1:Exit→Act→World→Prop} (h:Nx n G D w0 (Q2 .ret) E L φ):Nx n G D w0 (wpList P o0 (Exit.then (Code.ret.wp P Q2) Q1) []) E L φ:=zz (zZ (ux h))
theorem y4 {o0:Array Oper} {i4:Nat} {l4:List Oper} {y3:Code} {y2:Code} {Q2:Exit→Act→World→Prop} {Q1:Exit→Act→World→Prop} (h:Nx n G D w0 (wpList P l4.toArray (Exit.then (y3.wp P (Exit.then (y2.wp P Q2) Q2)) (Exit.then (y2.wp P Q2) Q2)) l4) E L φ):Nx n G D w0 (wpList P o0 (Exit.then ((Code.seq (Code.seq (Code.region i4 l4.toArray false) y3) y2).wp P Q2) Q1) []) E L φ:=zz (zZ (jJ (jJ (zq h))))
theorem y5 {o0:Array Oper} {i2:Nat} {c2:Code} {Q2:Exit→Act→World→Prop} {Q1:Exit→Act→World→Prop} (h:Nx n G D w0 (c2.wp P (Exit.inBlock i2 Q2)) E L φ):Nx n G D w0 (wpList P o0 (Exit.then ((Code.block i2 c2).wp P Q2) Q1) []) E L φ:=zz (zZ (uE h))
theorem y6 {o0:Array Oper} {K3:Act→World→Prop} {Q3:Exit→Act→World→Prop} {Q1:Exit→Act→World→Prop} (h:Nx n G D w0 (Q3 .ret) E L φ):Nx n G D w0 (wpList P o0 (Exit.then (Code.ret.wp P (Exit.then K3 Q3)) Q1) []) E L φ:=zz (zZ (ux (xh h)))
theorem y7 {i3:Nat} {K1:Act→World→Prop} {K2:Act→World→Prop} {i6:Nat} {l6:List Oper} {y5:Code} {Q5:Exit→Act→World→Prop} {Q4:Exit→Act→World→Prop} (h:Nx n G D w0 (wpList P l6.toArray (Exit.then (y5.wp P Q5) Q5) l6) E L φ):Nx n G D w0 ((Code.exit i3).wp P (Exit.then K1 (Exit.then K2 (Exit.inBlock i3 (Exit.then ((Code.seq (Code.region i6 l6.toArray false) y5).wp P Q5) Q4))))) E L φ:=X4 (u5 (u5 (X6 (zZ (jJ (zq h))))))
theorem y8 {i3:Nat} {l3:List Oper} {y2:Code} {Q2:Exit→Act→World→Prop} {Q1:Exit→Act→World→Prop} (h:Nx n G D w0 (wpList P l3.toArray (Exit.then (y2.wp P Q2) Q2) l3) E L φ):Nx n G D w0 (Code.skip.wp P (Exit.then ((Code.seq (Code.region i3 l3.toArray false) y2).wp P Q2) Q1)) E L φ:=jV (zZ (jJ (zq h)))
theorem y9 {o0:Array Oper} {x2:Code} {y2:Code} {Q2:Exit→Act→World→Prop} {Q1:Exit→Act→World→Prop} (h:Nx n G D w0 (x2.wp P (Exit.then (y2.wp P Q2) Q2)) E L φ):Nx n G D w0 (wpList P o0 (Exit.then ((Code.seq x2 y2).wp P Q2) Q1) []) E L φ:=zz (zZ (jJ h))
theorem y10 {i2:Nat} {l2:List Oper} {y1:Code} {y0:Code} {Q0:Exit→Act→World→Prop} (h:Nx n G D w0 (wpList P l2.toArray (Exit.then (y1.wp P (Exit.then (y0.wp P Q0) Q0)) (Exit.then (y0.wp P Q0) Q0)) l2) E L φ):Nx n G D w0 ((Code.seq (Code.seq (Code.region i2 l2.toArray false) y1) y0).wp P Q0) E L φ:=jJ (jJ (zq h))
theorem y11 {i3:Nat} {i5:Nat} {l5:List Oper} {y4:Code} {y2:Code} {Q2:Exit→Act→World→Prop} {Q1:Exit→Act→World→Prop} (h:Nx n G D w0 (wpList P l5.toArray (Exit.then (y4.wp P (Exit.inBlock i3 (Exit.then (y2.wp P Q2) Q2))) (Exit.inBlock i3 (Exit.then (y2.wp P Q2) Q2))) l5) E L φ):Nx n G D w0 (Code.skip.wp P (Exit.then ((Code.seq (Code.block i3 (Code.seq (Code.region i5 l5.toArray false) y4)) y2).wp P Q2) Q1)) E L φ:=jV (zZ (jJ (uE (jJ (zq h)))))
theorem y12 {o0:Array Oper} {i1:Nat} {Q1:Exit→Act→World→Prop} (h:Nx n G D w0 (Q1 .normal) E L φ):Nx n G D w0 (wpList P o0 (Exit.inBlock i1 Q1) []) E L φ:=zz (u7 h)
theorem y13 {i4:Nat} {l4:List Oper} {y3:Code} {y2:Code} {Q2:Exit→Act→World→Prop} {Q1:Exit→Act→World→Prop} (h:Nx n G D w0 (wpList P l4.toArray (Exit.then (y3.wp P (Exit.then (y2.wp P Q2) Q2)) (Exit.then (y2.wp P Q2) Q2)) l4) E L φ):Nx n G D w0 (Code.skip.wp P (Exit.then ((Code.seq (Code.seq (Code.region i4 l4.toArray false) y3) y2).wp P Q2) Q1)) E L φ:=jV (zZ (jJ (jJ (zq h))))
theorem y14 {i1:Nat} {i3:Nat} {l3:List Oper} {Q3:Exit→Act→World→Prop} {Q2:Exit→Act→World→Prop} (h:Nx n G D w0 (wpList P l3.toArray Q3 l3) E L φ):Nx n G D w0 (Code.skip.wp P (Exit.inBlock i1 (Exit.then ((Code.region i3 l3.toArray false).wp P Q3) Q2))) E L φ:=jV (u7 (zZ (zq h)))
theorem y15 {o0:Array Oper} {i1:Nat} {i3:Nat} {l3:List Oper} {Q3:Exit→Act→World→Prop} {Q2:Exit→Act→World→Prop} (h:Nx n G D w0 (wpList P l3.toArray Q3 l3) E L φ):Nx n G D w0 (wpList P o0 (Exit.inBlock i1 (Exit.then ((Code.region i3 l3.toArray false).wp P Q3) Q2)) []) E L φ:=zz (u7 (zZ (zq h)))
theorem y16 {o0:Array Oper} {i3:Nat} {K4:Act→World→Prop} {K5:Act→World→Prop} {i6:Nat} {K7:Act→World→Prop} {Q7:Exit→Act→World→Prop} {Q1:Exit→Act→World→Prop} (h:Nx n G D w0 (Q7 .ret) E L φ):Nx n G D w0 (wpList P o0 (Exit.then (Code.ret.wp P (Exit.inBlock i3 (Exit.then K4 (Exit.then K5 (Exit.inBlock i6 (Exit.then K7 Q7)))))) Q1) []) E L φ:=zz (zZ (ux (uq (xh (xh (uq (xh h)))))))
theorem y17 {o0:Array Oper} {i2:Nat} {l2:List Oper} {Q2:Exit→Act→World→Prop} {Q1:Exit→Act→World→Prop} (h:Nx n G D w0 (wpList P l2.toArray Q2 l2) E L φ):Nx n G D w0 (wpList P o0 (Exit.then ((Code.region i2 l2.toArray false).wp P Q2) Q1) []) E L φ:=zz (zZ (zq h))
theorem y18 {K1:Act→World→Prop} {Q1:Exit→Act→World→Prop} (h:Nx n G D w0 K1 E L φ):Nx n G D w0 (Code.skip.wp P (Exit.then K1 Q1)) E L φ:=jV (zZ h)
theorem y19 {o0:Array Oper} {K3:Act→World→Prop} {i4:Nat} {K5:Act→World→Prop} {K6:Act→World→Prop} {i7:Nat} {K8:Act→World→Prop} {Q8:Exit→Act→World→Prop} {Q1:Exit→Act→World→Prop} (h:Nx n G D w0 (Q8 .ret) E L φ):Nx n G D w0 (wpList P o0 (Exit.then (Code.ret.wp P (Exit.then K3 (Exit.inBlock i4 (Exit.then K5 (Exit.then K6 (Exit.inBlock i7 (Exit.then K8 Q8))))))) Q1) []) E L φ:=zz (zZ (ux (xh (uq (xh (xh (uq (xh h))))))))
theorem y20 {i0:Nat} {i2:Nat} {l2:List Oper} {y1:Code} {Q0:Exit→Act→World→Prop} (h:Nx n G D w0 (wpList P l2.toArray (Exit.then (y1.wp P (Exit.inBlock i0 Q0)) (Exit.inBlock i0 Q0)) l2) E L φ):Nx n G D w0 ((Code.block i0 (Code.seq (Code.region i2 l2.toArray false) y1)).wp P Q0) E L φ:=uE (jJ (zq h))
theorem y21 {i2:Nat} {l2:List Oper} {Q2:Exit→Act→World→Prop} {Q1:Exit→Act→World→Prop} (h:Nx n G D w0 (wpList P l2.toArray Q2 l2) E L φ):Nx n G D w0 (Code.skip.wp P (Exit.then ((Code.region i2 l2.toArray false).wp P Q2) Q1)) E L φ:=jV (zZ (zq h))
theorem y22 {i3:Nat} {i4:Nat} {l4:List Oper} {y2:Code} {Q2:Exit→Act→World→Prop} {Q1:Exit→Act→World→Prop} (h:Nx n G D w0 (wpList P l4.toArray (Exit.inBlock i3 (Exit.then (y2.wp P Q2) Q2)) l4) E L φ):Nx n G D w0 (Code.skip.wp P (Exit.then ((Code.seq (Code.block i3 (Code.region i4 l4.toArray false)) y2).wp P Q2) Q1)) E L φ:=jV (zZ (jJ (uE (zq h))))
theorem y23 {i1:Nat} {Q1:Exit→Act→World→Prop} (h:Nx n G D w0 (Q1 .normal) E L φ):Nx n G D w0 (Code.skip.wp P (Exit.inBlock i1 Q1)) E L φ:=jV (u7 h)
theorem y24 {o0:Array Oper} {i3:Nat} {K4:Act→World→Prop} {Q4:Exit→Act→World→Prop} {Q1:Exit→Act→World→Prop} (h:Nx n G D w0 (Q4 .ret) E L φ):Nx n G D w0 (wpList P o0 (Exit.then (Code.ret.wp P (Exit.inBlock i3 (Exit.then K4 Q4))) Q1) []) E L φ:=zz (zZ (ux (uq (xh h))))
theorem y25 {i3:Nat} {x4:Code} {y4:Code} {y2:Code} {Q2:Exit→Act→World→Prop} {Q1:Exit→Act→World→Prop} (h:Nx n G D w0 (x4.wp P (Exit.then (y4.wp P (Exit.inBlock i3 (Exit.then (y2.wp P Q2) Q2))) (Exit.inBlock i3 (Exit.then (y2.wp P Q2) Q2)))) E L φ):Nx n G D w0 (Code.skip.wp P (Exit.then ((Code.seq (Code.block i3 (Code.seq x4 y4)) y2).wp P Q2) Q1)) E L φ:=jV (zZ (jJ (uE (jJ h))))
theorem y26 {o0:Array Oper} {i2:Nat} {i4:Nat} {l4:List Oper} {y3:Code} {Q2:Exit→Act→World→Prop} {Q1:Exit→Act→World→Prop} (h:Nx n G D w0 (wpList P l4.toArray (Exit.then (y3.wp P (Exit.inBlock i2 Q2)) (Exit.inBlock i2 Q2)) l4) E L φ):Nx n G D w0 (wpList P o0 (Exit.then ((Code.block i2 (Code.seq (Code.region i4 l4.toArray false) y3)).wp P Q2) Q1) []) E L φ:=zz (zZ (uE (jJ (zq h))))
theorem y27 {i3:Nat} {K1:Act→World→Prop} {K2:Act→World→Prop} {i4:Nat} {i6:Nat} {l6:List Oper} {Q6:Exit→Act→World→Prop} {Q5:Exit→Act→World→Prop} (h:Nx n G D w0 (wpList P l6.toArray Q6 l6) E L φ):Nx n G D w0 ((Code.exit i3).wp P (Exit.then K1 (Exit.then K2 (Exit.inBlock i3 (Exit.inBlock i4 (Exit.then ((Code.region i6 l6.toArray false).wp P Q6) Q5)))))) E L φ:=X4 (u5 (u5 (X6 (u7 (zZ (zq h))))))
theorem y28 {i3:Nat} {c3:Code} {y2:Code} {Q2:Exit→Act→World→Prop} {Q1:Exit→Act→World→Prop} (h:Nx n G D w0 (c3.wp P (Exit.inBlock i3 (Exit.then (y2.wp P Q2) Q2))) E L φ):Nx n G D w0 (Code.skip.wp P (Exit.then ((Code.seq (Code.block i3 c3) y2).wp P Q2) Q1)) E L φ:=jV (zZ (jJ (uE h)))
theorem y29 {i0:Nat} {i2:Nat} {l2:List Oper} {Q2:Exit→Act→World→Prop} {Q1:Exit→Act→World→Prop} (h:Nx n G D w0 (wpList P l2.toArray Q2 l2) E L φ):Nx n G D w0 ((Exit.inBlock i0 (Exit.then ((Code.region i2 l2.toArray false).wp P Q2) Q1)) .normal) E L φ:=u7 (zZ (zq h))
theorem y30 {i3:Nat} {K1:Act→World→Prop} {K2:Act→World→Prop} {K4:Act→World→Prop} {Q4:Exit→Act→World→Prop} (h:Nx n G D w0 K4 E L φ):Nx n G D w0 ((Code.exit i3).wp P (Exit.then K1 (Exit.then K2 (Exit.inBlock i3 (Exit.then K4 Q4))))) E L φ:=X4 (u5 (u5 (X6 (zZ h))))
theorem y31 {i2:Nat} {i3:Nat} {l3:List Oper} {Q2:Exit→Act→World→Prop} {Q1:Exit→Act→World→Prop} (h:Nx n G D w0 (wpList P l3.toArray (Exit.inBlock i2 Q2) l3) E L φ):Nx n G D w0 (Code.skip.wp P (Exit.then ((Code.block i2 (Code.region i3 l3.toArray false)).wp P Q2) Q1)) E L φ:=jV (zZ (uE (zq h)))
theorem y32 {i3:Nat} {K1:Act→World→Prop} {K2:Act→World→Prop} {i7:Nat} {l7:List Oper} {y6:Code} {y5:Code} {Q5:Exit→Act→World→Prop} {Q4:Exit→Act→World→Prop} (h:Nx n G D w0 (wpList P l7.toArray (Exit.then (y6.wp P (Exit.then (y5.wp P Q5) Q5)) (Exit.then (y5.wp P Q5) Q5)) l7) E L φ):Nx n G D w0 ((Code.exit i3).wp P (Exit.then K1 (Exit.then K2 (Exit.inBlock i3 (Exit.then ((Code.seq (Code.seq (Code.region i7 l7.toArray false) y6) y5).wp P Q5) Q4))))) E L φ:=X4 (u5 (u5 (X6 (zZ (jJ (jJ (zq h)))))))
end
end
section
open Go.RowKit
section
variable {P:Program} {n:Nat} {G D:Nat→Prop} {w0:World} {Q:Exit→Act→World→Prop} {R:Act→World→Prop} {E:Env} {L M:List Ch} {φ:Prop}
variable {d:Tmp} {ty:TypeId} {pos:String} {aft:Array Edge} {gd:Option (Nat×Bool)} {Tk:Act→World→Prop} {Lr:List Ch} {x y:Operand} {T T' S:TypeId} {e sz by':Nat} {at':Array TypeId}
theorem zhz {ψ:Prop} (h:φ→ψ) (k:Nx n G D w0 R E L ψ):Nx n G D w0 R E L φ:=fun a w hE hm hφ=>k a w hE hm (h hφ)
theorem ziz (M:uv P n G D w0 E ⟨some d,.call {callee:=.builtin .cap,args:=#[x],argTypes:=#[T]},ty,pos,aft,gd⟩ Tk R Lr L) {p:TypeId×Nat×Nat} (hT:elB P T=some p) (hx:oev E x=some (.slice none 0 0)) (hd:Nat.blt d n=true)
  (k:Nx n G D w0 R ((d,.int .i64 0) :: E) L φ):Nx n G D w0 Tk E L φ :=
 M.val hd rfl (fun ρ w hE hm _=>by
  obtain ⟨e,b,c⟩:=p
  obtain ⟨hu,_⟩:=yh hT
  simp [execOp,resolve,invoke,builtin,hE _ _ hx,Builtin.cap_,run_underlying hu,goInt]) id k
theorem zkH (M:uv P n G D w0 E ⟨some d,.slice T x none (some y) none,ty,pos,aft,gd⟩ Tk R Lr L) {a:Option Addr} {l c:Nat} (hT:elB P T=some (e,sz,by')) (hx:oev E x=some (.slice a l c)) (ha:a=none∨∃ b,a=some ⟨b,0,none⟩) (hc:a=none→c=0) (hy:oev E y=some (.int .i64 0)) (hd:Nat.blt d n=true)
  (k:Nx n G D w0 R ((d,.slice a 0 c) :: E) L φ):Nx n G D w0 Tk E L φ :=
 M.val hd rfl (fun ρ w hE hm _=>by
  obtain ⟨hu,inf,hinf,rfl,rfl⟩:=yh hT
  rcases ha with rfl | ⟨b,rfl⟩
  ·obtain rfl:=hc rfl
   simp [execOp,hE _ _ hx,hE _ _ hy,Instr.sliceAt,Instr.slice,Instr.sliceBounds,Instr.sliceBound,asIntOf,run_underlying hu,sizeOf,typeInfo,hinf]
  ·simp [execOp,hE _ _ hx,hE _ _ hy,Instr.sliceAt,Instr.slice,Instr.sliceBounds,Instr.sliceBound,asIntOf,run_underlying hu,sizeOf,typeInfo,hinf,Addr.add]) id k
theorem zlP {α:Type} {El':El α} {N:Int} {zs:List Value} (hx:oev E x=some (.slice none 0 0)) (hy:oev E y=some (.int .i64 N)) (hd:Nat.blt d n=true) (hT:elB P T=some (e,sz,by')) (htn:P.underlying T'=some (.int .i64)) (hby:Nat.ble by' 32768=true) (hzr:uJ P e=some zs) (hzl:Nat.beq zs.length sz=true) (hes:El'.size=sz)
  (h0:0<N) (h1:N≤4294967296) (k:∀ b c,Nx n G D w0 R ((d,.slice (some ⟨b,0,none⟩) N.toNat c) :: E) (zg El' e (.slice (some ⟨b,0,none⟩) 0 c) [] :: L) φ) :
  Nx n G D w0 (fun a w=>Oper.wp P ⟨some d,.call {callee:=.builtin .append,args:=#[x,y],argTypes:=#[T,T']},ty,pos,aft,gd⟩ a w R Q) E L φ :=
 X2 hd rfl fun ρ w hE hm hφ=>by
  obtain ⟨hu,inf,hinf,rfl,rfl⟩:=yh hT
  obtain ⟨z',hz',hzc⟩:=yK hzr hinf
  obtain ⟨m,rfl⟩:=Int.eq_ofNat_of_zero_le (show 0≤N by omega)
  have hbl:=Nat.le_of_ble_eq_true hby
  have hl:=Nat.eq_of_beq_eq_true hzl
  have hp:=El'.pos
  have hb:m * inf.bytes≤281474976710656:=by
   have:m * inf.bytes≤4294967296 * 32768:=Nat.mul_le_mul (by omega) hbl
   omega
  have hr:=Lib.run_append_nil_zeros (P:=P) w T T' ty e inf z' .i64 .i64 hu htn hinf hz' m (by omega) (by omega) (by omega) hb
  have hge:=grownCap_ge w m 0 e
  have hcm:grownCap w m 0 e≤maxLen:=grownCap_le_maxLen w m 0 e (by unfold maxLen;omega)
  refine ⟨_,_,_,φ,by simp [execOp,resolve,invoke,builtin,hE _ _ hx,hE _ _ hy,hr];exact ⟨rfl,rfl⟩,?_,hφ,by simpa using k w.heap.size (grownCap w m 0 e)⟩
  refine hm.add _ (((Below.refl _ w).drew).alloc (Nat.le_refl _) _) (fun b hb=>by simp [zg,Value.ownBlock] at hb;rw [World.size_alloc];simp;omega) ?_
  refine ⟨[],trivial,by simp,.inr ⟨w.heap.size,_,_,rfl,Nat.zero_le _,heap_alloc_new w.drew _,Nat.zero_le _,hcm,?_,by simp⟩⟩
  rw [Array.size_append,size_zeroCells,size_zeroCells,hzc,hes]
  simp only [List.size_toArray,hl]
  rw [← Nat.add_mul]
  congr 1
  omega
theorem Rows.drop {α:Type} {El:El α} {F:Nat→Prop} {w:World}:∀ {xs:List α} {css:List (List Value)} (J:Nat),Rows El F w xs css→Rows El F w (xs.drop J) (css.drop J)∧(css.drop J).flatten=css.flatten.drop (J * El.size)
 | [],[],J,h=>by simp [Rows]
 | x :: xs,cs :: css,0,h=>⟨h,by simp⟩
 | x :: xs,cs :: css,J+1,h=>by
  obtain ⟨h1,h2⟩:=Rows.drop (xs:=xs) (css:=css) J h.2
  have hl:=El.len F w x cs h.1
  refine ⟨h1,?_⟩
  simp only [List.drop_succ_cons,List.flatten_cons,h2]
  have e:(J+1) * El.size=cs.length+J * El.size:=by rw [hl,Nat.add_mul];omega
  rw [e,List.drop_length_add_append]
 | [],_ :: _,_,h=>by simp [Rows] at h
 | _ :: _,[],_,h=>by simp [Rows] at h
theorem ze8:∀ (vs cs:List Value) (o k:Nat),k≤o→(Xe cs o vs).take k=cs.take k
 | [],_,_,_,_=>rfl
 | v :: r,cs,o,k,h=>by
  rw [Xe,ze8 r _ _ k (by omega)]
  apply List.ext_getElem?
  intro j
  simp only [List.getElem?_take]
  split
  ·rw [List.getElem?_set_ne (by omega)]
  ·rfl
theorem zkf {α:Type} {El':El α} {v:Value} {xs:List α} (i:Nat) (hi:xD L i=some (zg El' e v xs)) (h:∀ a cap,v=.slice a xs.length cap→xs.length≤cap→((a=none∧cap=0)∨∃ b,a=some ⟨b,0,none⟩)→Nx n G D w0 R E L φ):Nx n G D w0 R E L φ:=fun a w hE hm hφ=>by
 obtain ⟨css,_,_,hv⟩:=(hm.get hi:Own El' e _ w v xs)
 rcases hv with ⟨hv,h0⟩ | ⟨g,cap,cur,hv,_,_,hle,_⟩
 ·exact h none 0 (by rw [hv,h0]) (by omega) (.inl ⟨rfl,rfl⟩) a w hE hm hφ
 ·exact h _ cap hv hle (.inr ⟨g,rfl⟩) a w hE hm hφ
theorem zlw {lo hi mx:Operand} (M:uv P n G D w0 E ⟨some d,.slice T x (some lo) (some hi) (some mx),ty,pos,aft,gd⟩ Tk R Lr L) {a:Option Addr} {l cap:Nat} {I J:Int} (hT:elB P T=some (e,sz,by')) (hx:oev E x=some (.slice a l cap)) (hlo:oev E lo=some (.int .i64 I)) (hhi:oev E hi=some (.int .i64 J)) (hmx:oev E mx=some (.int .i64 l)) (hd:Nat.blt d n=true)
  (hI:0≤I) (hIJ:I≤J) (hJ:J≤l) (hc:l≤cap) (ha:(a=none∧cap=0)∨∃ b,a=some ⟨b,0,none⟩) (k:∀ u,Nx n G D w0 R ((d,u) :: E) L φ):Nx n G D w0 Tk E L φ :=
 M.val (v:=slv a l I.toNat J.toNat sz) hd rfl (fun ρ w hE hm _=>by
  obtain ⟨hu,inf,hinf,rfl,rfl⟩:=yh hT
  have e1:(l:Int)≤(cap:Int):=by omega
  have e2:0≤J:=by omega
  have e3:I≤(J.toNat:Int):=by omega
  have e4:J≤(l:Int):=hJ
  rcases ha with ⟨rfl,rfl⟩ | ⟨b,rfl⟩
  ·obtain rfl:l=0:=by omega
   obtain rfl:J=0:=by omega
   obtain rfl:I=0:=by omega
   simp [slv,execOp,hE _ _ hx,hE _ _ hlo,hE _ _ hhi,hE _ _ hmx,Instr.sliceAt,Instr.slice,Instr.sliceBounds,Instr.sliceBound,asIntOf,run_underlying hu,sizeOf,typeInfo,hinf]
  ·simp [slv,execOp,hE _ _ hx,hE _ _ hlo,hE _ _ hhi,hE _ _ hmx,Instr.sliceAt,Instr.slice,Instr.sliceBounds,Instr.sliceBound,asIntOf,run_underlying hu,sizeOf,typeInfo,hinf,e1,e2,e3,e4,hI,hc,show I≤max J 0 by omega]) id (k _)
theorem zlh (M:uv P n G D w0 E ⟨some d,.slice T x none (some y) none,ty,pos,aft,gd⟩ Tk R Lr L) {b l cap I:Nat} (hT:elB P T=some (e,sz,by')) (hx:oev E x=some (.slice (some ⟨b,0,none⟩) l cap)) (hy:oev E y=some (.int .i64 I)) (hd:Nat.blt d n=true) (hI:I≤cap)
  (k:Nx n G D w0 R ((d,.slice (some ⟨b,0,none⟩) I cap) :: E) L φ):Nx n G D w0 Tk E L φ :=
 M.val hd rfl (fun ρ w hE hm _=>by
  obtain ⟨hu,inf,hinf,rfl,rfl⟩:=yh hT
  have e1:(I:Int)≤(cap:Int):=by omega
  simp [execOp,hE _ _ hx,hE _ _ hy,Instr.sliceAt,Instr.slice,Instr.sliceBounds,Instr.sliceBound,asIntOf,run_underlying hu,sizeOf,typeInfo,hinf,e1,hI,Addr.add_mid,Nat.not_lt.2 hI]) id k
theorem zlL (M:uv P n G D w0 E ⟨some d,.slice T x (some y) none none,ty,pos,aft,gd⟩ Tk R Lr L) {b l cap J:Nat} (hT:elB P T=some (e,sz,by')) (hx:oev E x=some (.slice (some ⟨b,0,none⟩) l cap)) (hy:oev E y=some (.int .i64 J)) (hd:Nat.blt d n=true) (hJ:J≤l) (hl:l≤cap)
  (k:Nx n G D w0 R ((d,.slice (some (if cap=J then ⟨b,0,none⟩ else ⟨b,J * sz,none⟩)) (l - J) (cap - J)) :: E) L φ):Nx n G D w0 Tk E L φ :=
 M.val hd rfl (fun ρ w hE hm _=>by
  obtain ⟨hu,inf,hinf,rfl,rfl⟩:=yh hT
  have e1:(J:Int)≤(l:Int):=by omega
  have e2:(l:Int)≤(cap:Int):=by omega
  simp [execOp,hE _ _ hx,hE _ _ hy,Instr.sliceAt,Instr.slice,Instr.sliceBounds,Instr.sliceBound,asIntOf,run_underlying hu,sizeOf,typeInfo,hinf,e1,e2,hJ,hl,Addr.add_mid]
  split <;> rfl) id k
theorem zlo {z:Operand} (M:uv P n G D w0 E ⟨some d,.slice T x (some y) (some z) none,ty,pos,aft,gd⟩ Tk R Lr L) {b l cap I J:Nat} (hT:elB P T=some (e,sz,by')) (hx:oev E x=some (.slice (some ⟨b,0,none⟩) l cap)) (hy:oev E y=some (.int .i64 I)) (hz:oev E z=some (.int .i64 J)) (hd:Nat.blt d n=true) (hI:I<J) (hJ:J≤cap)
  (k:Nx n G D w0 R ((d,.slice (some ⟨b,I * sz,none⟩) (J - I) (cap - I)) :: E) L φ):Nx n G D w0 Tk E L φ :=
 M.val hd rfl (fun ρ w hE hm _=>by
  obtain ⟨hu,inf,hinf,rfl,rfl⟩:=yh hT
  have e1:(I:Int)≤(J:Int):=by omega
  have e2:(J:Int)≤(cap:Int):=by omega
  have e3:¬ cap=I:=by omega
  simp [execOp,hE _ _ hx,hE _ _ hy,hE _ _ hz,Instr.sliceAt,Instr.slice,Instr.sliceBounds,Instr.sliceBound,asIntOf,run_underlying hu,sizeOf,typeInfo,hinf,e1,e2,e3,hJ,show I≤J by omega,Addr.add_mid]) id k
theorem zja {c c':Ch} {i:Nat} {w w':World} (m:Mem G D w0 L w) (hi:xD L i=some c) (hz:w.heap.size≤w'.heap.size) (hf:∀ b,c'.foot b→c.foot b):∀ b,fz G L w b→fz G (yH L i c') w' b:=fun b hb=>⟨by have:=hb.1;omega,hb.2.1,fun x hx=>by
 rcases Z8 hi m.disj hx with e' | ⟨e1,_⟩
 ·subst e';exact fun hk=>hb.2.2 _ (xB hi) (hf b hk)
 ·exact hb.2.2 x e1⟩
theorem zk7 {α:Type} {El':El α} {xs:List α} {b I J cap c:Nat} (i:Nat) (hi:xD L i=some (zg El' e (.slice (some ⟨b,0,none⟩) xs.length cap) xs)) (hIJ:I≤J) (hJ:J≤xs.length)
  (hx:oev E x=some (.slice (some ⟨b,0,none⟩) I cap)) (hy:oev E y=some (.slice (some (if cap=J then ⟨b,0,none⟩ else ⟨b,J * sz,none⟩)) (xs.length - J) c)) (hd:Nat.blt d n=true) (hT:elB P T=some (e,sz,by')) (hes:El'.size=sz)
  (k:Nx n G D w0 R ((d,.slice (some ⟨b,0,none⟩) (I+(xs.length - J)) cap) :: E) (yH L i (zg El' e (.slice (some ⟨b,0,none⟩) (I+(xs.length - J)) cap) (xs.take I++xs.drop J))) φ) :
  Nx n G D w0 (fun a w=>Oper.wp P ⟨some d,.call {callee:=.builtin .append,args:=#[x,y],argTypes:=#[T,T]},ty,pos,aft,gd⟩ a w R Q) E L φ :=
 X2 hd rfl fun ρ w hE hm hφ=>by
  obtain ⟨hu,inf,hinf,rfl,rfl⟩:=yh hT
  obtain ⟨css,hr,h0,how⟩:=hm.get hi
  rcases how with ⟨h,_⟩ | ⟨g,cap',cur,h,hg0,hg,hnc,hcm,hcz,htake⟩
  ·cases h
  simp only [Value.slice.injEq,Option.some.injEq,Addr.mk.injEq,true_and] at h
  obtain ⟨⟨rfl,-⟩,rfl⟩:=h
  obtain ⟨r1,r2⟩:=Rows.take I hr
  obtain ⟨r3,r4⟩:=Rows.drop J hr
  have hcl:=hr.length
  have hI:I≤xs.length:=by omega
  have m1:I * El'.size≤xs.length * El'.size:=Nat.mul_le_mul_right _ hI
  have m2:J * El'.size≤xs.length * El'.size:=Nat.mul_le_mul_right _ hJ
  have m3:xs.length * El'.size≤cap * El'.size:=Nat.mul_le_mul_right _ hnc
  have m4:(xs.length - J) * El'.size=xs.length * El'.size - J * El'.size:=Nat.sub_mul _ _ _
  have m5:I * El'.size≤J * El'.size:=Nat.mul_le_mul_right _ hIJ
  have hnl:(css.drop J).flatten.length=(xs.length - J) * inf.size:=by rw [r4,List.length_drop,hcl,hes.symm,m4]
  have hcur:cur.toList.length=cap * El'.size:=by rw [Array.length_toList,hcz]
  have hone:=r3.one
  have hcell:∀ j u,(css.drop J).flatten[j]?=some u→w.cell? ((if cap=J then (⟨b,0,none⟩:Addr) else ⟨b,J * inf.size,none⟩).add j)=some u:=fun j u hj=>by
   have hjl:=(List.getElem?_eq_some_iff.1 hj).1
   rw [r4,← htake,List.getElem?_drop,List.getElem?_take] at hj
   split at hj
   ·rename_i hlt
    have hne:¬ cap=J:=fun e'=>by
     rw [r4,List.length_drop,hcl] at hjl
     subst e'
     omega
    rw [if_neg hne,Addr.add_mid,cell_of_row w b _ cur e (0,0) hg,← hes]
    simpa using hj
   ·cases hj
  have hrun:=run_append_room (P:=P) w T ty e inf hu hinf b I cap cur hg _ (xs.length - J) c _ hnl hcell hone (by omega) (by rw [hnl,← hes,← Array.length_toList,hcur];omega)
  obtain ⟨cs',hcs'⟩:∃ c,c=(cur.toList.take (I * inf.size)++(css.drop J).flatten++cur.toList.drop (I * inf.size+(css.drop J).flatten.length)).toArray:=⟨_,rfl⟩
  rw [← hcs'] at hrun
  refine ⟨_,_,_,φ,by simp [execOp,resolve,invoke,builtin,hE _ _ hx,hE _ _ hy,hrun];first | exact ⟨rfl,rfl⟩ | rfl,?_,hφ,k⟩
  have hup:=setRow_heap w b cur cs' e (0,0) hg
  refine hm.upd hi rfl rfl rfl (by simp) (fun x _ hx=>setRow_other w b x _ (fun e'=>hx (by rw [e'];rfl))) (fun x hx=>⟨?_,.inl hx⟩) ?_
  ·have hx':some b=some x:=hx
   cases hx'
   exact (Array.getElem?_eq_some_iff.1 hup).1
  ·have hfz:=zja (c':=zg El' e (.slice (some ⟨b,0,none⟩) (I+(xs.length - J)) cap) (xs.take I++xs.drop J)) (w':=w.setRow b cs') hm hi (by simp) (fun _ h=>h)
   have hsame:∀ x,fz G L w x→(w.setRow b cs').heap[x]?=w.heap[x]?:=fun x hx=>setRow_other w b x _ (fun e'=>hx.2.2 _ (xB hi) (by rw [e'];rfl))
   have hln:(xs.take I++xs.drop J).length=I+(xs.length - J):=by simp;omega
   refine ⟨css.take I++css.drop J,Rows.append (r1.keep hfz hsame) (r3.keep hfz hsame),?_,.inr ⟨b,cap,_,by rw [hln],hg0,hup,by omega,hcm,?_,?_⟩⟩
   ·rw [List.flatten_append,List.length_append,r2,hnl,List.length_take,hcl,hln,Nat.add_mul,← hes];omega
   ·rw [hcs',← Array.length_toList]
    simp only [List.length_append,List.length_take,List.length_drop,hnl,hcur,← hes]
    omega
   ·rw [hcs',hln,List.flatten_append,r2,← htake,List.take_take,Nat.min_eq_left m1,← hes,Nat.add_mul]
    rw [List.take_append_of_le_length (by simp only [List.length_append,List.length_take,hnl,hcur,← hes];omega)]
    rw [List.take_of_length_le (by simp only [List.length_append,List.length_take,hnl,hcur,← hes];omega)]
theorem zlm {α:Type} {El':El α} {ys:List α} {b m cap q c:Nat} {zs:List Value} (i:Nat) (hi:xD L i=some (zg El' e (.slice (some ⟨b,0,none⟩) m cap) ys)) (hq:m+q≤cap) (hq0:0<q) (hx:oev E x=some (.slice (some ⟨b,m * sz,none⟩) q c)) (hT:elB P T=some (e,sz,by')) (hes:El'.size=sz) (hzr:uJ P e=some zs) (hzl:Nat.beq zs.length sz=true) (hone:zs.all (·.oneCell')=true)
  (k:Nx n G D w0 R E L φ):Nx n G D w0 (fun a w=>Oper.wp P ⟨none,.call {callee:=.builtin .clear,args:=#[x],argTypes:=#[T]},ty,pos,aft,gd⟩ a w R Q) E L φ:=fun a w hE hm hφ=>by
 obtain ⟨hu,inf,hinf,rfl,rfl⟩:=yh hT
 obtain ⟨z',hz',hzc⟩:=yK hzr hinf
 obtain ⟨css,hr,h0,how⟩:=hm.get hi
 have hl:=Nat.eq_of_beq_eq_true hzl
 rcases how with ⟨h,_⟩ | ⟨g,cap',cur,h,hg0,hg,hnc,hcm,hcz,htake⟩
 ·cases h
 simp only [Value.slice.injEq,Option.some.injEq,Addr.mk.injEq] at h
 obtain ⟨⟨rfl,-,-⟩,rfl,rfl⟩:=h
 have m1:(ys.length+q) * El'.size≤cap * El'.size:=Nat.mul_le_mul_right _ hq
 have hb:w.heap[b]?=some (.cells cur.toList.toArray e (0,0)):=by simpa using hg
 have hcl:cur.toList.length=cap * El'.size:=by rw [Array.length_toList,hcz]
 have hzs:(Builtin.zeroCells z'.cells q).toList.length=q * El'.size:=by rw [Array.length_toList,size_zeroCells,hzc,hes];simp [hl]
 have hth:=ZR (b:=b) (o:=ys.length * El'.size) (sz:=q * El'.size) hb (by rw [hcl,← Nat.add_mul];exact m1)
 have hst:=run_storeCells_cells (P:=P) b (ys.length * El'.size) (Builtin.zeroCells z'.cells q).toList 0 w (fun j hj=>by simpa using (hth j (by rw [hzs] at hj;exact hj)).1) (fun j hj=>by simpa using (hth j (by rw [hzs] at hj;exact hj)).2) (fun v hv=>by
  have hv':v∈Builtin.zeroCells z'.cells q:=by simpa using hv
  unfold Builtin.zeroCells at hv'
  obtain ⟨j,hj,rfl⟩:=Array.mem_map.1 hv'
  rw [hzc]
  have hp:=El'.pos
  have hlt:j % zs.toArray.size<zs.length:=by simpa using Nat.mod_lt j (show 0<zs.toArray.size by simp;omega)
  rw [getElem!_pos zs.toArray _ (by simpa using hlt)]
  exact List.all_eq_true.1 hone _ (by simp))
 simp only [Nat.add_zero] at hst
 have hx':=hE.eval hx
 have hrun:(execOp a.eval ⟨none,.call {callee:=.builtin .clear,args:=#[x],argTypes:=#[T]},ty,pos,aft,gd⟩).run P w=.ok (.value (.tuple #[])) (w.setCells b (ys.length * El'.size) (Builtin.zeroCells z'.cells q).toList):=by
  rw [← hes] at hx'
  obtain ⟨q',rfl⟩:∃ q',q=q'+1:=⟨q - 1,by omega⟩
  simp [execOp,resolve,invoke,builtin,hx',Builtin.clear_,run_underlying hu,zeroValue,typeInfo,hinf,hz',hst]
 show Oper.upon P _ a R Q _
 rw [hrun,Oper.upon_value]
 obtain ⟨s1,s2,s3⟩:=Zv b (Builtin.zeroCells z'.cells q).toList (ys.length * El'.size) w
 have hid:∀ {L:List Ch} {i:Nat} {c:Ch},xD L i=some c→yH L i c=L:=by
  intro L
  induction L with
  | nil=>intro i c h;rfl
  | cons d r ih=>intro i c h;cases i with
   | zero=>simp [xD] at h;subst h;rfl
   | succ i=>simp [xD] at h;simp [yH,ih h]
 refine k _ _ (hE.put_none _) ?_ hφ
 have hup:=Zw b e (0,0) (Builtin.zeroCells z'.cells q).toList (ys.length * El'.size) cur.toList w hb
 have:=hm.upd (c':=zg El' e (.slice (some ⟨b,0,none⟩) ys.length cap) ys) hi s1 s2 s3 (by rw [xC];exact Nat.le_refl _) (fun x _ hx=>ul b _ _ _ _ (fun e'=>hx (by rw [e'];rfl))) (fun x hx=>⟨by
   have hx':some b=some x:=hx
   cases hx'
   rw [xC]
   exact (Array.getElem?_eq_some_iff.1 hg).1,.inl hx⟩) (by
  have hfz:=zja (c':=zg El' e (.slice (some ⟨b,0,none⟩) ys.length cap) ys) (w':=w.setCells b (ys.length * El'.size) (Builtin.zeroCells z'.cells q).toList) hm hi (by rw [xC];exact Nat.le_refl _) (fun _ h=>h)
  refine ⟨css,hr.keep hfz (fun x hx=>ul b _ _ _ _ (fun e'=>hx.2.2 _ (xB hi) (by rw [e'];rfl))),h0,.inr ⟨b,cap,_,rfl,hg0,hup,hnc,hcm,by simpa [XN] using hcz,?_⟩⟩
  simp only [ze8 _ _ _ _ (Nat.le_refl _)]
  exact htake)
 rw [hid hi] at this
 exact this
end
end
section
open Go.RowKit
section
variable {P:Program} {n:Nat} {G D:Nat→Prop} {w0:World} {Q:Exit→Act→World→Prop} {R:Act→World→Prop} {E:Env} {L M:List Ch} {φ:Prop}
variable {d:Tmp} {ty:TypeId} {pos:String} {aft:Array Edge} {gd:Option (Nat×Bool)} {Tk:Act→World→Prop} {Lr:List Ch} {x y:Operand} {T T' S:TypeId} {e sz by':Nat} {at':Array TypeId}
theorem Mem.putObj {i b:Nat} {o o':Obj} {w:World} (m:Mem G D w0 L w) (hi:xD L i=some (yi b o)):Mem G D w0 (yH L i (yi b o')) (w.putObj b o'):=by
 have hb:w.heap[b]?=some o:=m.get hi
 have hlt:=(Array.getElem?_eq_some_iff.1 hb).1
 refine m.upd hi rfl rfl rfl (by simp) (fun x _ hx=>World.putObj_heap_other (fun e=>hx e)) (fun x hx=>⟨?_,.inl hx⟩) (World.putObj_heap_same hlt)
 have hx':x=b:=hx
 subst hx'
 simpa using hlt
theorem zj8 {l i:Nat} {rc:Loop} {Kb:Act→World→Prop} (hi:xD L i=some (yi l (.loop rc))) (hr:rc.state=.ready) (k:Nx n G D w0 Kb E (yH L i (yi l (.loop {rc with state:=.busy}))) φ) :
  Nx n G D w0 (fun a w=>∃ w₂,(Instr.beginRound l).run P w=.ok () w₂∧Kb a w₂) E L φ:=fun a w hE hm hφ =>
 ⟨_,run_beginRound (P:=P) (hm.get hi) hr,k a _ hE (hm.putObj hi) hφ⟩
theorem Mem.absLoop {l:Nat} {rc0:Loop} {w:World} (m:Mem G D w0 (yi l (.loop rc0) :: L) w):∃ rc,rc=rc0∧Mem G D w0 (yi l (.loop rc) :: L) w:=⟨rc0,rfl,m⟩
theorem zmp {l i:Nat} {rc:Loop} {Rr:Ending→World→Prop} (hi:xD L i=some (yi l (.loop rc))) (h:∀ w,Mem G D w0 (yH L i (yi l (.loop {rc with state:=.ready,pending:=none}))) w→φ→Rr (.returned (.bool true)) w) :
  Nx n G D w0 (roundPost P l Rr .normal) E L φ:=fun a w hE hm hφ =>
 ⟨_,_,run_endRound (P:=P) none (hm.get hi),h _ (hm.putObj hi) hφ⟩
theorem zlU {l i:Nat} {rc:Loop} {Rr:Ending→World→Prop} (hi:xD L i=some (yi l (.loop rc))) (h:∀ w,Mem G D w0 (yH L i (yi l (.loop {rc with state:=.done,pending:=some .ret}))) w→φ→Rr (.returned (.bool false)) w) :
  Nx n G D w0 (roundPost P l Rr .ret) E L φ:=fun a w hE hm hφ =>
 ⟨_,_,run_endRound (P:=P) (some .ret) (hm.get hi),h _ (hm.putObj hi) hφ⟩
theorem Mem.laid {w:World} (o:Obj) (m:Mem G D w0 L w):Mem G D w0 (yi w.heap.size o :: L) (w.alloc o) :=
 m.add _ ((Below.refl _ _).alloc (Nat.le_refl _) _) (fun b hb=>by have hb':b=w.heap.size:=hb;subst hb';simp) (World.alloc_heap_new w o)
theorem zkn {g:Operand} {ps:Array Tmp} {assign body:Code} {gf:Nat} {lb:List Value} (hg:oev E g=some (.func (.func gf) #[] lb.toArray)) (eg:∀ args w,(callFunc gf args).run P w=.ok (.enter gf args) w)
  (h:∀ (a:Act) (w:World) (fn:FuncId) (l D0:Nat),Has n E a→Mem G D w0 (yi l (.loop {state:=.ready,pending:=none,fn,tmps:=a.tmps,params:=ps,assign,body,defers:=D0}) :: yi D0 (.deferred (some [])) :: L) w→φ →
   Calls P gf (.func (.yield l) #[] #[] :: lb).toArray w (rangePost Fence.wide 3 P l Q {a with defers:=[{target:=.collected D0,args:=#[]}]})):Nx n G D w0 ((Code.rangeFunc g ps assign body).wp P Q) E L φ:=fun a w hE hm hφ=>by
 refine (wpIn_wide (n:=3)).1 (wpIn_rangeFunc fun fn _=>?_)
 have hgv:=hE.eval hg
 have hcall:=h a ((w.alloc (.deferred (some []))).alloc (.loop {state:=.ready,pending:=none,fn,tmps:=a.tmps,params:=ps,assign,body,defers:=w.heap.size})) fn (w.heap.size+1) w.heap.size hE (by
  have:=(hm.laid (.deferred (some []))).laid (.loop {state:=.ready,pending:=none,fn,tmps:=a.tmps,params:=ps,assign,body,defers:=w.heap.size})
  rwa [World.size_alloc] at this) hφ
 have hrun:=run_enterLoop_outer (P:=P) (w:=w) fn a.tmps ps assign body
 generalize (w.alloc (.deferred (some []))).alloc (.loop {state:=.ready,pending:=none,fn,tmps:=a.tmps,params:=ps,assign,body,defers:=w.heap.size})=W1 at hcall hrun
 refine ⟨w.heap.size+1,[{target:=.collected w.heap.size,args:=#[]}],W1,{target:=.fn (.func gf) lb.toArray,args:=#[.func (.yield (w.heap.size+1)) #[] #[]]},W1,gf,
  (.func (.yield (w.heap.size+1)) #[] #[] :: lb).toArray,W1,hrun,?_,fun f' _=>trivial,?_,fun e=>by simp [Fence.wide] at e,?_⟩
 ·simp only [resolve,hgv]
  simp [go_sem]
 ·simp [invoke,go_sem,eg]
 ·have hd:=hE.defers
  rw [hd]
  exact callsIn_wide.2 hcall
theorem ze4 {l i:Nat} {rc:Loop} {a':Act} {v:Value} {w:World} (m:Mem G D w0 L w) (hi:xD L i=some (yi l (.loop rc))) (hb:rc.state≠.busy)
  (h:∀ w',Mem G D w0 (yH L i (yi l (.loop {rc with state:=.exhausted}))) w'→(match rc.pending with | none=>Q .normal a' w' | some c=>c.wpIn Fence.wide 3 P Q a' w')):rangePost Fence.wide 3 P l Q a' (.returned v) w :=
 ⟨_,_,run_endLoop (P:=P) (m.get hi) hb,h _ (m.putObj hi)⟩
theorem zl5 {ds:List Deferred} {ops:Array Oper} {rest:List Oper} {dst:Option Tmp} {op:Op} (hne:∀ ρ w dd w',(execOp ρ ⟨dst,op,ty,pos,aft,none⟩).run P w≠.ok (.defer dd) w') (h:Nx n G D w0 (fun a w=>Oper.wp P ⟨dst,op,ty,pos,aft,none⟩ a w (fun a w=>wpList P ops Q rest {a with defers:=ds} w) (fun _ _ _=>False)) E L φ) :
  Nx n G D w0 (fun a w=>wpList P ops Q (⟨dst,op,ty,pos,aft,none⟩ :: rest) {a with defers:=ds} w) E L φ:=fun a w hE hm hφ=>by
 show wpList P ops Q (⟨dst,op,ty,pos,aft,none⟩ :: rest) {a with defers:=ds} w
 unfold wpList
 rw [if_pos (by simp [Region.wanted])]
 refine .inl ?_
 have h':Oper.upon P ⟨dst,op,ty,pos,aft,none⟩ a (fun a w=>wpList P ops Q rest {a with defers:=ds} w) (fun _ _ _=>False) ((execOp a.eval ⟨dst,op,ty,pos,aft,none⟩).run P w):=h a w hE hm hφ
 show Oper.upon P ⟨dst,op,ty,pos,aft,none⟩ {a with defers:=ds} (wpList P ops Q rest) Q ((execOp a.eval ⟨dst,op,ty,pos,aft,none⟩).run P w)
 have hne':=hne a.eval w
 revert h' hne'
 generalize (execOp a.eval ⟨dst,op,ty,pos,aft,none⟩).run P w=r
 intro h' hne'
 have hp:∀ v,({a with defers:=ds}:Act).put dst v={a.put dst v with defers:=ds}:=fun v=>by cases dst <;> rfl
 cases r with
 | ok x w' =>
  cases x <;> simp only [Oper.upon,hp] at h' ⊢ <;> first | exact h' | exact absurd rfl (hne' _ _) | (refine Calls.mono h' ?_;intro e w'' hh;cases e <;> first | exact hh | exact False.elim hh | (obtain ⟨_,_,hh⟩:=hh;exact hh.elim)) | (refine Rows.mono h' ?_;intro e w'' hh;exact hh) | exact False.elim h'
 | halt x w'=>cases x <;> first | exact h' | exact False.elim h'
theorem stD {ds:List Deferred} {ops:Array Oper} {rest:List Oper} {dst:Option Tmp} {op:Op}:uv P n G D w0 E ⟨dst,op,ty,pos,aft,none⟩ (fun a w=>wpList P ops Q (⟨dst,op,ty,pos,aft,none⟩ :: rest) {a with defers:=ds} w) (fun a w=>wpList P ops Q rest {a with defers:=ds} w) L L :=
 ⟨fun hd ho hr hψ k=>fun a w hE hm hφ=>by
  show wpList P ops Q (⟨dst,op,ty,pos,aft,none⟩ :: rest) {a with defers:=ds} w
  unfold wpList
  rw [if_pos (by simp [Region.wanted])]
  refine .inl ?_
  show Oper.upon P _ _ _ Q ((execOp a.eval ⟨dst,op,ty,pos,aft,none⟩).run P w)
  rw [hr a.eval w (fun x v h=>hE.eval h) hm hφ,Oper.upon_value,ho]
  exact k _ _ (hE.put hd _) hm (hψ hφ)⟩
theorem zgb {T:TypeId} {x y:Operand}:∀ ρ w dd w',(execOp ρ ⟨none,.store T x y,ty,pos,aft,none⟩).run P w≠.ok (.defer dd) w':=fun ρ w dd w' h=>by
 simp only [execOp] at h
 rw [Sem.run_bind] at h
 cases hr:(Instr.storeAt T (ρ x) (ρ y)).run P w with
 | ok u w2=>rw [hr] at h;simp [Result.andThen] at h
 | halt u w2=>rw [hr] at h;simp [Result.andThen] at h
theorem zil {ds:List Deferred} {id:Nat} {l:List Oper} (h:Nx n G D w0 (fun a w=>wpList P l.toArray Q l {a with defers:=ds} w) E L φ):Nx n G D w0 (fun a w=>(Code.region id l.toArray false).wp P Q {a with defers:=ds} w) E L φ:=fun a w hE hm hφ=>wp_region_lit (h a w hE hm hφ)
theorem zk3 {ds:List Deferred} {x y:Code} (h:Nx n G D w0 (fun a w=>x.wp P (Exit.then (y.wp P Q) Q) {a with defers:=ds} w) E L φ):Nx n G D w0 (fun a w=>(Code.seq x y).wp P Q {a with defers:=ds} w) E L φ:=fun a w hE hm hφ=>wp_seq (h a w hE hm hφ)
theorem zlR {ds:List Deferred} (h:Nx n G D w0 (fun a w=>Q .ret {a with defers:=ds} w) E L φ):Nx n G D w0 (fun a w=>Code.ret.wp P Q {a with defers:=ds} w) E L φ:=fun a w hE hm hφ=>wp_ret (h a w hE hm hφ)
theorem zh0 {M0:List Ch} {ρ ν:Type} {F:Nat→Prop} {fn:Func} {q q2:ResultVar} {v v2:Value} {κ:ρ→Prop} {val:ρ→ν→Value} {N:ρ→ν→List Ch} {D0 i:Nat} (hi:xD L i=some (yi D0 (.deferred (some [])))) (hres:fn.results=#[q,q2]) (r:ρ) (u:ν)
  (hs:Rv P n G (uy M0) w0 E (yH L i (yi D0 (.deferred none))) q v) (ht:Rv P n G (uy M0) w0 E (yH L i (yi D0 (.deferred none))) q2 v2) (hv:val r u=.tuple #[v,v2])
  (hN:∀ w,Mem G (uy M0) w0 (yH L i (yi D0 (.deferred none))) w→zU M0 F w0 w (N r u)):Nx n G (uy M0) w0 (fun a w=>bodyPostM Fence.wide 3 P fn (Ret M0 F w0 κ val N) .ret {a with defers:=[{target:=.collected D0,args:=#[]}]} w) E L (κ r):=fun a w hE hm hφ=>by
 have hk:=hm.putObj (o':=.deferred none) hi
 refine ⟨by simp,.inl ⟨D0,_,rfl,run_takeDeferred (P:=P) (hm.get hi),?_⟩⟩
 exact ⟨val r u,by simp [UV,hres,hs a _ hE hk,ht a _ hE hk,hv],r,u,hφ,rfl,hk.updD,hN _ hk⟩
theorem zlO {F:Nat→Prop} {f:Nat} {fn:Func} {c:Code} {args:List Value} {K:Ending→World→Prop} (M0:List Ch) (hF:∀ b,F b→b<w0.heap.size∧¬ uy M0 b) (hg:uC M0 F w0) (hf:P.funcs[f]?=some fn) (hb:fn.body=some c) (hn:fn.ntmps=n) (hle:Nat.ble args.length n=true)
  (hφ:φ) (h:Nx n (gB F M0 w0) (uy M0) w0 (c.wp P (bodyPostM Fence.wide 3 P fn K)) (zaf 0 args) (M0++[zh w0 F]) φ):Calls P f args.toArray w0 K:=by
 have hle':=Nat.le_of_ble_eq_true hle
 refine (callsIn_wide (n:=3)).1 (callsIn_of_wp_marks hf hb trivial (wpIn_wide.2 ?_))
 have hfoot:∀ c∈[zh w0 F],∀ b,¬ c.foot b:=fun c hc b h=>by simp only [List.mem_cons,List.not_mem_nil,or_false] at hc;subst hc;exact h
 have hh:∀ c∈[zh w0 F],c.holds F w0:=fun c hc=>by simp only [List.mem_cons,List.not_mem_nil,or_false] at hc;subst hc;exact ⟨fun _ h=>h,fun _ _=>rfl⟩
 refine h _ _ ?_ ?_ hφ
 ·rw [hn]
  have:=Has.enter (args:=args) (f:=n - args.length) (n:=n) (by omega) (zaf 0 args) (fun s v hs=>by have:=zct args 0 s v hs;simpa using this.2)
  simpa using this
 ·have hfz:∀ b,F b→fz (gB F M0 w0) (M0++[zh w0 F]) w0 b:=fun b hb=>⟨(hF b hb).1,.inl hb,fun d hd hk=>by
   rcases List.mem_append.1 hd with e | e
   ·exact (hF b hb).2 ⟨d,e,hk⟩
   ·exact hfoot d e b hk⟩
  refine Mem.start w0 _ _ (M0++[zh w0 F]) (fun b h=>.inr h) (fun c hc b hb=>?_) ?_ (fun c hc=>?_)
  ·rcases List.mem_append.1 hc with e | e
   ·exact ⟨hg.lt c e b hb,c,e,hb⟩
   ·exact absurd hb (hfoot c e b)
  ·exact List.pairwise_append.2 ⟨hg.disj,by simp,fun c _ d hd b _ h2=>hfoot d hd b h2⟩
  ·rcases List.mem_append.1 hc with e | e
   ·exact c.keep _ _ w0 w0 hfz (fun _ _=>rfl) (hg.hold c e)
   ·exact c.keep _ _ w0 w0 hfz (fun _ _=>rfl) (hh c e)
end
end
section
open Go.RowKit
theorem xV:zdC Tryz.prog 137=some (4,90,false,1):=by kernel_rfl
theorem zd4:zdC Tryz.prog 152=some (4,3,false,1):=by kernel_rfl
theorem ziI:zdC Tryz.prog 163=some (4,162,true,2):=by kernel_rfl
theorem ziT:zdC Tryz.prog 203=some (5,4,false,1):=by kernel_rfl
theorem zg4:zdC Tryz.prog 204=some (5,3,false,1):=by kernel_rfl
theorem zdw:zaD Tryz.prog 101=some (#[(0,1),(1,1)],[(.slice none 0 0),(.bool false)]):=by kernel_rfl
theorem ziN:zaD Tryz.prog 107=some (#[(0,1),(1,1)],[(.slice none 0 0),(.slice none 0 0)]):=by kernel_rfl
theorem zkY:zaD Tryz.prog 131=some (#[(0,1),(1,1)],[(.slice none 0 0),(.int .i64 0)]):=by kernel_rfl
theorem zdp:zly Tryz.prog 137=some (1,[(.slice none 0 0),(.slice none 0 0),(.slice none 0 0),(.slice none 0 0)]):=by kernel_rfl
theorem ziW:zaD Tryz.prog 146=some (#[(0,4),(4,1)],[(.slice none 0 0),(.slice none 0 0),(.slice none 0 0),(.slice none 0 0),(.bool false)]):=by kernel_rfl
theorem zg0:zaD Tryz.prog 165=some (#[(0,1),(1,1),(2,1),(3,1)],[(.int .i64 0),(.int .i64 0),(.int .i64 0),(.bool false)]):=by kernel_rfl
theorem zlv:zaD Tryz.prog 169=some (#[(0,1),(1,1),(2,1)],[(.slice none 0 0),(.slice none 0 0),(.bool false)]):=by kernel_rfl
theorem zh1:zaD Tryz.prog 25=some (#[(0,1),(1,1)],[(.slice none 0 0),(.bool false)]):=by kernel_rfl
theorem zjs:zaD Tryz.prog 262=some (#[(0,1)],[(.bool false)]):=by kernel_rfl
theorem zll:zaD Tryz.prog 264=some (#[(0,1)],[(.int .i64 0)]):=by kernel_rfl
theorem zlA:zaD Tryz.prog 266=some (#[],[]):=by kernel_rfl
theorem zlr:zaD Tryz.prog 267=some (#[],[]):=by kernel_rfl
theorem zkU:zaD Tryz.prog 34=some (#[(0,1),(1,1),(2,1),(3,1)],[(.int .i64 0),(.int .i64 0),(.int .i64 0),(.int .i64 0)]):=by kernel_rfl
theorem zcI:zaD Tryz.prog 77=some (#[(0,1),(1,1),(2,1)],[(.slice none 0 0),(.int .i64 0),(.int .i64 0)]):=by kernel_rfl
theorem yW:zaD Tryz.prog 89=some (#[(0,1),(1,1)],[(.int .i64 0),(.int .i64 0)]):=by kernel_rfl
theorem zaZ:zaD Tryz.prog 94=some (#[(0,1)],[(.slice none 0 0)]):=by kernel_rfl
theorem zdO:elB Tryz.prog 22=some (5,1,1):=by kernel_rfl
theorem yV:elB Tryz.prog 23=some (47,1,24):=by kernel_rfl
theorem zej:elB Tryz.prog 271=some (82,1,24):=by kernel_rfl
theorem zhZ:elB Tryz.prog 280=some (4,1,1):=by kernel_rfl
theorem x5:elB Tryz.prog 30=some (101,2,32):=by kernel_rfl
theorem ZZ:elB Tryz.prog 36=some (94,1,24):=by kernel_rfl
theorem Z7:elB Tryz.prog 39=some (3,1,8):=by kernel_rfl
theorem ZO:elB Tryz.prog 47=some (77,3,40):=by kernel_rfl
theorem UC:elB Tryz.prog 75=some (165,4,32):=by kernel_rfl
theorem Zk:elB Tryz.prog 79=some (146,5,104):=by kernel_rfl
theorem yx:elB Tryz.prog 82=some (137,4,96):=by kernel_rfl
theorem jH:elB Tryz.prog 90=some (89,2,16):=by kernel_rfl
theorem yZ:elB Tryz.prog 92=some (90,1,24):=by kernel_rfl
theorem zlb (x y:Operand) (a0:Int) (a1:Int) (b0:Int) (b1:Int) (w:World):(do eqGuard .eql 89 x y (.agg #[(.int .i64 a0),(.int .i64 a1)]) (.agg #[(.int .i64 b0),(.int .i64 b1)]);binOp .eql 89 (.agg #[(.int .i64 a0),(.int .i64 a1)]) (.agg #[(.int .i64 b0),(.int .i64 b1)]):Sem Value).run Tryz.prog w=.ok (.bool (decide ((ze.mk a0 a1)=(ze.mk b0 b1)))) w:=by
 simp [go_sem,binOp,Op.equal,Op.maxDepth]
 repeat' split
 all_goals simp_all
theorem zhb (x y:Operand) (a0:Int) (a1:Int) (b0:Int) (b1:Int) (w:World):(do eqGuard .neq 89 x y (.agg #[(.int .i64 a0),(.int .i64 a1)]) (.agg #[(.int .i64 b0),(.int .i64 b1)]);binOp .neq 89 (.agg #[(.int .i64 a0),(.int .i64 a1)]) (.agg #[(.int .i64 b0),(.int .i64 b1)]):Sem Value).run Tryz.prog w=.ok (.bool (!decide ((ze.mk a0 a1)=(ze.mk b0 b1)))) w:=by
 simp [go_sem,binOp,Op.equal,Op.maxDepth]
 repeat' split
 all_goals simp_all
theorem XJ:YG Tryz.prog 101 0=some (0,true,1):=by kernel_rfl
theorem UT:YG Tryz.prog 101 1=some (1,false,1):=by kernel_rfl
theorem zb7:YG Tryz.prog 107 0=some (0,false,1):=by kernel_rfl
theorem zbj:YG Tryz.prog 107 1=some (1,false,1):=by kernel_rfl
theorem Ul:YG Tryz.prog 131 0=some (0,false,1):=by kernel_rfl
theorem zeu:YG Tryz.prog 131 1=some (1,false,1):=by kernel_rfl
theorem Vz:YG Tryz.prog 146 0=some (0,true,4):=by kernel_rfl
theorem zap:YG Tryz.prog 146 1=some (4,false,1):=by kernel_rfl
theorem zgs:YG Tryz.prog 162 1=some (1,false,1):=by kernel_rfl
theorem Zl:YG Tryz.prog 165 0=some (0,false,1):=by kernel_rfl
theorem YS:YG Tryz.prog 165 1=some (1,false,1):=by kernel_rfl
theorem Xv:YG Tryz.prog 165 2=some (2,false,1):=by kernel_rfl
theorem zf3:YG Tryz.prog 165 3=some (3,false,1):=by kernel_rfl
theorem zjd:YG Tryz.prog 169 0=some (0,false,1):=by kernel_rfl
theorem zbL:YG Tryz.prog 169 1=some (1,false,1):=by kernel_rfl
theorem Yf:YG Tryz.prog 169 2=some (2,false,1):=by kernel_rfl
theorem ud:YG Tryz.prog 25 0=some (0,false,1):=by kernel_rfl
theorem VI:YG Tryz.prog 25 1=some (1,false,1):=by kernel_rfl
theorem zi8:YG Tryz.prog 262 0=some (0,false,1):=by kernel_rfl
theorem zjm:YG Tryz.prog 264 0=some (0,false,1):=by kernel_rfl
theorem VQ:YG Tryz.prog 77 0=some (0,false,1):=by kernel_rfl
theorem XQ:YG Tryz.prog 77 1=some (1,false,1):=by kernel_rfl
theorem XP:YG Tryz.prog 77 2=some (2,false,1):=by kernel_rfl
theorem uz:YG Tryz.prog 89 0=some (0,false,1):=by kernel_rfl
theorem xo:YG Tryz.prog 89 1=some (1,false,1):=by kernel_rfl
theorem xu:YG Tryz.prog 94 0=some (0,false,1):=by kernel_rfl
theorem zdx (v:Value) (w:World):(method (Tryz.prog.types.size+Made.depth) 262 v "loop.example/packetfilter/impl.unfold").run Tryz.prog w=.ok (279,v) w:=by kernel_rfl
theorem zdt (v:Value) (w:World):(method (Tryz.prog.types.size+Made.depth) 264 v "loop.example/packetfilter/impl.unfold").run Tryz.prog w=.ok (282,v) w:=by kernel_rfl
theorem zdo (v:Value) (w:World):(method (Tryz.prog.types.size+Made.depth) 266 v "loop.example/packetfilter/impl.unfold").run Tryz.prog w=.ok (285,v) w:=by kernel_rfl
theorem zed (v:Value) (w:World):(method (Tryz.prog.types.size+Made.depth) 267 v "loop.example/packetfilter/impl.unfold").run Tryz.prog w=.ok (288,v) w:=by kernel_rfl
theorem ziE:∀ v w,(Instr.makeInterface 262 v).run Tryz.prog w=.ok (.iface 262 v) w:=fun v w=>by kernel_rfl
theorem zlD:∀ v w,(Instr.makeInterface 264 v).run Tryz.prog w=.ok (.iface 264 v) w:=fun v w=>by kernel_rfl
theorem zlK:∀ v w,(Instr.makeInterface 266 v).run Tryz.prog w=.ok (.iface 266 v) w:=fun v w=>by kernel_rfl
theorem zlf:∀ v w,(Instr.makeInterface 267 v).run Tryz.prog w=.ok (.iface 267 v) w:=fun v w=>by kernel_rfl
theorem zmD:∀ v w,(Instr.makeInterface 9 v).run Tryz.prog w=.ok (.iface 9 v) w:=fun v w=>by kernel_rfl
theorem Uo:tyB Tryz.prog 101=some (true,2):=by kernel_rfl
theorem zbQ:tyB Tryz.prog 107=some (true,2):=by kernel_rfl
theorem jM:tyB Tryz.prog 137=some (true,4):=by kernel_rfl
theorem zbV:tyB Tryz.prog 146=some (true,5):=by kernel_rfl
theorem zl1:tyB Tryz.prog 152=some (true,4):=by kernel_rfl
theorem Vt:tyB Tryz.prog 165=some (true,4):=by kernel_rfl
theorem zl6:tyB Tryz.prog 203=some (true,5):=by kernel_rfl
theorem zgl:tyB Tryz.prog 22=some (false,1):=by kernel_rfl
theorem XT:tyB Tryz.prog 23=some (false,1):=by kernel_rfl
theorem Xc:tyB Tryz.prog 25=some (true,2):=by kernel_rfl
theorem ty3:tyB Tryz.prog 3=some (false,1):=by kernel_rfl
theorem zgB:tyB Tryz.prog 30=some (false,1):=by kernel_rfl
theorem zg7:tyB Tryz.prog 34=some (true,4):=by kernel_rfl
theorem ty4:tyB Tryz.prog 4=some (false,1):=by kernel_rfl
theorem UG:tyB Tryz.prog 47=some (false,1):=by kernel_rfl
theorem ty5:tyB Tryz.prog 5=some (false,1):=by kernel_rfl
theorem zgZ:tyB Tryz.prog 75=some (false,1):=by kernel_rfl
theorem U4:tyB Tryz.prog 77=some (true,3):=by kernel_rfl
theorem zis:tyB Tryz.prog 79=some (false,1):=by kernel_rfl
theorem Vu:tyB Tryz.prog 82=some (false,1):=by kernel_rfl
theorem YI:tyB Tryz.prog 89=some (true,2):=by kernel_rfl
theorem xZ:tyB Tryz.prog 90=some (false,1):=by kernel_rfl
theorem yX:tyB Tryz.prog 92=some (false,1):=by kernel_rfl
theorem xM:tyB Tryz.prog 94=some (true,1):=by kernel_rfl
theorem x6:Tryz.prog.underlying 3=some (.int .i64):=by kernel_rfl
theorem zir:Tryz.prog.underlying 4=some .bool:=by kernel_rfl
theorem zlk:Tryz.prog.underlying 5=some (.int .u8):=by kernel_rfl
theorem zmu:Tryz.prog.underlying 79=some (.slice 146):=by kernel_rfl
theorem xf:uJ Tryz.prog 101=some [(.slice none 0 0),(.bool false)]:=by kernel_rfl
theorem zc8:uJ Tryz.prog 107=some [(.slice none 0 0),(.slice none 0 0)]:=by kernel_rfl
theorem xA:uJ Tryz.prog 137=some [(.slice none 0 0),(.slice none 0 0),(.slice none 0 0),(.slice none 0 0)]:=by kernel_rfl
theorem Xs:uJ Tryz.prog 146=some [(.slice none 0 0),(.slice none 0 0),(.slice none 0 0),(.slice none 0 0),(.bool false)]:=by kernel_rfl
theorem zj2:uJ Tryz.prog 152=some [(.int .i64 0),(.int .i64 0),(.int .i64 0),(.int .i64 0)]:=by kernel_rfl
theorem ZA:uJ Tryz.prog 165=some [(.int .i64 0),(.int .i64 0),(.int .i64 0),(.bool false)]:=by kernel_rfl
theorem zkk:uJ Tryz.prog 203=some [(.bool false),(.bool false),(.bool false),(.bool false),(.bool false)]:=by kernel_rfl
theorem zjN:uJ Tryz.prog 204=some [(.int .i64 0),(.int .i64 0),(.int .i64 0),(.int .i64 0),(.int .i64 0)]:=by kernel_rfl
theorem zan:uJ Tryz.prog 25=some [(.slice none 0 0),(.bool false)]:=by kernel_rfl
theorem Yb:uJ Tryz.prog 3=some [(.int .i64 0)]:=by kernel_rfl
theorem zlu:uJ Tryz.prog 30=some [(.slice none 0 0)]:=by kernel_rfl
theorem zgT:uJ Tryz.prog 34=some [(.int .i64 0),(.int .i64 0),(.int .i64 0),(.int .i64 0)]:=by kernel_rfl
theorem zkE:uJ Tryz.prog 4=some [(.bool false)]:=by kernel_rfl
theorem zae:uJ Tryz.prog 47=some [(.slice none 0 0)]:=by kernel_rfl
theorem uV:uJ Tryz.prog 77=some [(.slice none 0 0),(.int .i64 0),(.int .i64 0)]:=by kernel_rfl
theorem zcv:uJ Tryz.prog 82=some [(.slice none 0 0)]:=by kernel_rfl
theorem xj:uJ Tryz.prog 89=some [(.int .i64 0),(.int .i64 0)]:=by kernel_rfl
theorem Vh:uJ Tryz.prog 90=some [(.slice none 0 0)]:=by kernel_rfl
theorem xN:uJ Tryz.prog 94=some [(.slice none 0 0)]:=by kernel_rfl
theorem mixed:Tryz.prog.follows .mixedOrders=true:=by kernel_rfl
theorem zd2 {w0:World} {F:Nat→Prop} {v1:Value} {code_0:(List UInt8)} {κ:((List UInt8)×Int)→Prop} (hF:Fr [] F w0) (hv1:Sl V4 F w0 v1 code_0) (h:YO code_0 κ) :
  Calls Tryz.prog 50 #[v1] w0 (Ret [] F w0 κ (fun r (u:Nat×Value)=>.pointer (some ⟨u.1,0,none⟩)) (fun r u=>[zb u.1 [u.2,(I r.2)] 131,jQ V4 u.2 r.1])):=by
 refine eS hF Tryz.func50 Tryz.ntmps50 h ?_;clear h hF;let JJ:=Jn 11 [] F w0;refine y0 ?_;refine ma ?_;refine y1 ?_;refine zV (σ:=(List UInt8)) (fun (xs68:(List UInt8)) (a:Act) (w:World)=>∃ (v67:Value),JJ [(0,v67)] [jQ V4 v67 xs68] a w) ?_ ?_
 ·intro k71;refine y0 ?_;refine mv ?_;refine zL st zdO 0 (zd hv1) ?_;refine uk st ?_;refine y1 ?_;refine zk ?_ ?_
  ·refine zq ?_;refine mv ?_;refine jL 0 rfl hv1 ?_;refine stw (Xu (I:=0) (J:=2000) 0 zdO ?_);intro v3 xs4;refine ma ?_;refine zz ?_;exact zO xs4 (jE v3 [0])
  ·refine jV ?_;exact zO code_0 (fun a w hE hm=>⟨v1,hE.sub g1,(hm.snote 0 rfl hv1).pick [0] rfl⟩)
 ·rintro xs68 a w ⟨v67,hE,hm⟩ h;refine jC hE hm h ?_;clear hE hm h;refine y0 ?_;refine mv ?_;refine Zx 0 rfl ?_;rintro a72 l73 q74 rfl;refine jK st (qs:=[(0,.slice a72 l73 q74)]) (cells:=[.slice a72 l73 q74,I 0]) (bqi rfl) zkY ?_;refine stw (xL [.slice a72 l73 q74,I 0] ?_);intro b75;refine ma ?_;refine y3 ?_;exact jv Tryz.results50 (xs68,0) (b75,.slice a72 l73 q74) (jx rfl) (fun w m=>zU.ofB m [0,1] rfl)
theorem zD {w0:World} {F:Nat→Prop} {b1:Nat} {v2:Value} {r_0_b:(List UInt8)} {r_0_p n_1:Int} {κ:(Int×Int)→Prop} (hF:Fr [zb b1 [v2,(I r_0_p)] 131] F w0) (hg:uC [zb b1 [v2,(I r_0_p)] 131] F w0) (hv2:Sl V4 F w0 v2 r_0_b) (h:zo r_0_b r_0_p n_1 κ) :
  Calls Tryz.prog 52 #[(pp b1),(I n_1)] w0 (Ret [zb b1 [v2,(I r_0_p)] 131] F w0 κ (fun r (u:Unit)=>(I r.1)) (fun r u=>[zb b1 [v2,(I r.2)] 131])):=by
 refine yP (args:=[pp b1,I n_1]) [zb b1 [v2,I r_0_p] 131] hF hg Tryz.func52 rfl Tryz.ntmps52 rfl h ?_;clear h hF hg;let JJ:=Jn 99 [zb b1 [v2,I r_0_p] 131] F w0;refine y0 ?_;refine ma ?_;refine y2 ?_;refine mv ?_;refine mv ?_;refine xt st ?_;refine zy st zeu ?_;refine zn st (v:=(I r_0_p)) 0 ty3 ?_;refine zW st ?_;intro t5;refine xt st ?_;refine zy st zeu ?_;refine stw (z8 (cs':=[v2,I t5]) 0 ty3 ?_);refine y9 ?_;refine zV (σ:=Bool) (fun t66=>JJ [(0,pp b1),(1,I n_1),(24,.bool t66)] [zb b1 [v2,I t5] 131,zh w0 F]) ?_ ?_
 ·intro k67;refine zq ?_;refine mv ?_;refine jg st ?_;refine mv ?_;refine xa (dj:=17) rfl ?_ ?_
  ·refine ss ?_;refine ss ?_;refine ss ?_;refine ss ?_;refine ss ?_;refine ss ?_;refine zT st ?_;refine zz ?_;exact lj [0,1]
  ·refine zu (zP rfl rfl) ?_;refine xt (zP rfl rfl) ?_;refine zy (zP rfl rfl) Ul ?_;refine zn (zP rfl rfl) (v:=v2) 0 zgl ?_;refine zL (zP rfl rfl) zdO 1 (zd hv2) ?_;refine jS (zP rfl rfl) x6 ?_;refine zN st ?_;refine zz ?_;exact lj [0,1]
 ·rintro t66;refine nxj ?_;refine zk ?_ ?_
  ·refine y0 ?_;refine ma ?_;refine y6 ?_;exact jv Tryz.results52 (0,t5) () (jx rfl) (fun w m=>zU.ofB m [0] rfl)
  ·refine y8 ?_;refine mv ?_;refine xt st ?_;refine zy st zeu ?_;refine zn st (v:=(I t5)) 0 ty3 ?_;refine yO st ?_;intro t68;refine ma ?_;refine y4 ?_;refine mv ?_;refine mv ?_;refine xt st ?_;refine zy st Ul ?_;refine zn st (v:=v2) 0 zgl ?_;refine zL st zdO 1 (zd hv2) ?_;refine jg st ?_;refine y1 ?_;refine zk ?_ ?_
   ·refine y0 ?_;refine mv ?_;refine xt st ?_;refine zy st Ul ?_;refine zn st (v:=v2) 0 zgl ?_;refine mv ?_;refine zF st 1 (zd hv2) zdO ?_;intro e69 h70;refine jD st (enc:=zb1) (u:=(.int .u8 (e69.toNat:Int))) 1 (zd hv2) zec h70 ty5 ?_;refine zfN st zlk x6 ?_;refine mv ?_;refine zfP st ?_;intro t71;refine ma ?_;refine y6 ?_;exact jv Tryz.results52 (t71,t5) () (jx rfl) (fun w m=>zU.ofB m [0] rfl)
   ·refine jV (zZ (jJ ?_));refine x9 mixed 46 rfl [zb b1 [v2,I t5] 131,zh w0 F] ?_;refine zu (dI 0) ?_;refine xt (dI 1) ?_;refine zy (dI 2) Ul ?_;refine zn (dI 3) (v:=v2) 0 zgl ?_;refine zu (dI 4) ?_;refine zu (dI 5) ?_;refine xt (dI 6) ?_;refine zy (dI 7) Ul ?_;refine zn (dI 8) (v:=v2) 0 zgl ?_;refine zL (dI 9) zdO 1 (zd hv2) ?_;refine zfP (dI 10) ?_;intro t72;refine zF (dI 11) 1 (zd hv2) zdO ?_;intro e73 h74;refine jD (dI 12) (enc:=zb1) (u:=(.int .u8 (e73.toNat:Int))) 1 (zd hv2) zec h74 ty5 ?_;refine zfN (dI 13) zlk x6 ?_;refine zdN (dI 14) ?_;intro t75;refine zu (dI 15) ?_;refine xt (dI 16) ?_;refine zy (dI 17) Ul ?_;refine zn (dI 18) (v:=v2) 0 zgl ?_;refine zu (dI 19) ?_;refine zdN (dI 20) ?_;intro t76;refine zW (dI 21) ?_;intro t77;refine zu (dI 22) ?_;refine xt (dI 23) ?_;refine zy (dI 24) Ul ?_;refine zn (dI 25) (v:=v2) 0 zgl ?_;refine zL (dI 26) zdO 1 (zd hv2) ?_;refine zfP (dI 27) ?_;intro t78;refine zF (dI 28) 1 (zd hv2) zdO ?_;intro e79 h80;refine jD (dI 29) (enc:=zb1) (u:=(.int .u8 (e79.toNat:Int))) 1 (zd hv2) zec h80 ty5 ?_;refine zfN (dI 30) zlk x6 ?_;refine zdN (dI 31) ?_;intro t81;refine zW (dI 32) ?_;intro t82;refine zu (dI 33) ?_;refine zdN (dI 34) ?_;intro t83;refine zW (dI 35) ?_;intro t84;refine zu (dI 36) ?_;refine zu (dI 37) ?_;refine xt (dI 38) ?_;refine zy (dI 39) Ul ?_;refine zn (dI 40) (v:=v2) 0 zgl ?_;refine zL (dI 41) zdO 1 (zd hv2) ?_;refine zjD (dI 42) ?_;intro t85;refine zdN (dI 43) ?_;intro t86;refine zW (dI 44) ?_;intro t87;refine uw (dI 45) ?_;refine jU (by kernel_rfl) ?_;refine zZ (jJ (zq ?_));refine mv ?_;refine mv ?_;refine zjD st ?_;intro t88;refine zk4 st ?_;intro t89;refine ma ?_;refine y2 ?_;refine mv ?_;refine mv ?_;refine zfP st ?_;intro t90;refine ma ?_;refine y3 ?_;exact jv Tryz.results52 (t90,t5) () (jx rfl) (fun w m=>zU.ofB m [0] rfl)
theorem yI {w0:World} {F:Nat→Prop} {b1:Nat} {v2:Value} {r_0_b:(List UInt8)} {r_0_p n_1:Int} {κ:(Bool×Int)→Prop} (hF:Fr [zb b1 [v2,(I r_0_p)] 131] F w0) (hg:uC [zb b1 [v2,(I r_0_p)] 131] F w0) (hv2:Sl V4 F w0 v2 r_0_b) (h:xp r_0_b r_0_p n_1 κ) :
  Calls Tryz.prog 97 #[(pp b1),(I n_1)] w0 (Ret [zb b1 [v2,(I r_0_p)] 131] F w0 κ (fun r (u:Unit)=>(.bool r.1)) (fun r u=>[zb b1 [v2,(I r.2)] 131])):=by
 refine yP (args:=[pp b1,I n_1]) [zb b1 [v2,I r_0_p] 131] hF hg Tryz.func97 rfl Tryz.ntmps97 rfl h ?_;clear h hF hg;let JJ:=Jn 15 [zb b1 [v2,I r_0_p] 131] F w0;refine y0 ?_;refine ma ?_;refine y1 ?_;refine zV (σ:=(Int×Bool)) (fun (t68,t69)=>JJ [(4,.bool t69)] [zb b1 [v2,I t68] 131,zh w0 F]) ?_ ?_
 ·intro k70;refine zq ?_;refine mv ?_;refine uk st ?_;refine mv ?_;refine xa (dj:=7) rfl ?_ ?_
  ·refine zu (zP rfl rfl) ?_;refine zu (zP rfl rfl) ?_;refine YL rfl rfl (ji (M0:=[zb b1 [v2,I r_0_p] 131]) Tryz.call52 (by intro w m h;exact rf (fun _ _=>(zK z7 zY)) (zD (F:=zX [zb b1 [v2,I r_0_p] 131] w) (r_0_b:=r_0_b) (r_0_p:=r_0_p) (n_1:=n_1) zm m.given (m.qM 0 hv2) h)) ?_);rintro ⟨r5,r6⟩ _;refine zu (zP rfl rfl) ?_;refine yO (zP rfl rfl) ?_;intro t7;refine jS (zP rfl rfl) x6 ?_;refine zT st ?_;refine ma ?_;refine zz ?_;exact lj [0,1]
  ·refine ss ?_;refine ss ?_;refine ss ?_;refine ss ?_;refine ss ?_;refine ss ?_;refine zN st ?_;refine ma ?_;refine zz ?_;exact lj [0,1]
 ·rintro ⟨t68,t69⟩;refine nxj ?_;refine ux ?_;exact jv Tryz.results97 (t69,t68) () (jx rfl) (fun w m=>zU.ofB m [0] rfl)
theorem u6 {w0:World} {F:Nat→Prop} {n_0:Int} {κ:Int→Prop} (hF:Fr [] F w0) (h:uj n_0 κ) :
  Calls Tryz.prog 119 #[(I n_0)] w0 (Ret [] F w0 κ (fun r (u:Unit)=>(I r)) (fun r u=>[])):=by
 refine U3 (args:=[I n_0]) [] hF (uC.nil _ _) Tryz.func119 rfl Tryz.ntmps119 rfl h ?_;clear h hF;let JJ:=Jn 11 [] F w0;refine y0 ?_;refine ma ?_;refine y4 ?_;refine mv ?_;refine y5 ?_;refine zV (σ:=Bool) (fun t61=>JJ [(3,I n_0),(4,.bool t61)] []) ?_ ?_
 ·intro k62;refine y0 ?_;refine jS st x6 ?_;refine ma ?_;refine y1 ?_;refine zk ?_ ?_
  ·refine jV ?_;exact lj []
  ·refine zq ?_;refine jS st x6 ?_;refine ma ?_;refine zz ?_;exact lj []
 ·rintro t61;refine nxj ?_;refine zk ?_ ?_
  ·refine y0 ?_;refine ma ?_;refine y24 ?_;exact lu Tryz.results119
  ·refine y0 ?_;refine jS st x6 ?_;refine ma ?_;refine y1 ?_;refine zk ?_ ?_
   ·refine y0 ?_;refine ma ?_;refine y24 ?_;exact lu Tryz.results119
   ·refine y0 ?_;refine jS st x6 ?_;refine ma ?_;refine y1 ?_;refine zk ?_ ?_
    ·refine y0 ?_;refine ma ?_;refine y24 ?_;exact lu Tryz.results119
    ·refine jV (u7 (zZ (jJ (zq ?_))));refine ma ?_;refine y3 ?_;exact lu Tryz.results119
theorem zet {w0:World} {F:Nat→Prop} {b1:Nat} {v2:Value} {r_0_b:(List UInt8)} {r_0_p top_1 n_2:Int} {κ:(ze×Int)→Prop} (hF:Fr [zb b1 [v2,(I r_0_p)] 131] F w0) (hg:uC [zb b1 [v2,(I r_0_p)] 131] F w0) (hv2:Sl V4 F w0 v2 r_0_b) (h:YR r_0_b r_0_p top_1 n_2 κ) :
  Calls Tryz.prog 195 #[(pp b1),(I top_1),(I n_2)] w0 (Ret [zb b1 [v2,(I r_0_p)] 131] F w0 κ (fun r (u:Unit)=>(.agg #[(I r.1.xLo),(I r.1.xHi)])) (fun r u=>[zb b1 [v2,(I r.2)] 131])):=by
 refine yP (args:=[pp b1,I top_1,I n_2]) [zb b1 [v2,I r_0_p] 131] hF hg Tryz.func195 rfl Tryz.ntmps195 rfl h ?_;clear h hF hg;let JJ:=Jn 68 [zb b1 [v2,I r_0_p] 131] F w0;refine y0 ?_;refine stw (jj [I 0,I 0] xj ?_);intro b5;refine y2 ?_;refine mv ?_;refine mv ?_;refine zW st ?_;intro t7;refine Vo st ?_;refine pk' [1,0,2] ?_;refine stw (ji (M0:=[zb b1 [v2,I r_0_p] 131]) Tryz.call52 (by intro w m h;exact rf (fun _ _=>(zK z7 zY)) (zD (F:=zX [zb b1 [v2,I r_0_p] 131] w) (r_0_b:=r_0_b) (r_0_p:=r_0_p) (n_1:=(min 256 t7)) zm m.given (m.qM 1 hv2) h)) ?_);rintro ⟨r8,r9⟩ _;refine jK st (qs:=[(0,I r8)]) (cells:=[I r8,I 0]) (bqi rfl) yW ?_;refine stw (jj [I 0,I 0] xj ?_);intro b10;refine stw (z8 (cs':=[I r8,I 0]) 0 YI ?_);refine y1 ?_;refine zV (σ:=(Int×Int)) (fun (t144,t145)=>JJ [(0,pp b1),(1,I top_1),(2,I n_2),(6,pp b5),(7,pp b10)] [zb b1 [v2,I t144] 131,zb b10 [I t145,I 0] 89,zb b5 [I 0,I 0] 89,zh w0 F]) ?_ ?_
 ·intro k146;refine zV (σ:=(Int×Bool)) (fun (t74,t75)=>JJ [(0,pp b1),(1,I top_1),(2,I n_2),(6,pp b5),(7,pp b10),(20,.bool t75)] [zb b1 [v2,I t74] 131,zb b10 [I r8,I 0] 89,zb b5 [I 0,I 0] 89,zh w0 F]) ?_ ?_
  ·intro k76;refine zq ?_;refine mv ?_;refine uk st ?_;refine mv ?_;refine xa (dj:=16) rfl ?_ ?_
   ·refine zu (zP rfl rfl) ?_;refine pk' [1,0,2,3] ?_;refine YL rfl rfl (ji (M0:=[zb b1 [v2,I r9] 131]) Tryz.call52 (by intro w m h;exact rf (fun _ _=>(zK z7 zY)) (zD (F:=zX [zb b1 [v2,I r9] 131] w) (r_0_b:=r_0_b) (r_0_p:=r9) (n_1:=2) zm m.given (m.qM 2 hv2) h)) ?_);rintro ⟨r12,r13⟩ _;refine jS (zP rfl rfl) x6 ?_;refine zT st ?_;refine zz ?_;exact lj [0,1,2,3]
   ·refine ss ?_;refine ss ?_;refine ss ?_;refine zN st ?_;refine zz ?_;exact lj [1,0,2,3]
  ·rintro ⟨t74,t75⟩;refine nxj ?_;refine zk ?_ ?_
   ·refine XU (σ:=(Int×Int)) (fun (t77,t78)=>JJ [(0,pp b1),(1,I top_1),(2,I n_2),(6,pp b5),(7,pp b10)] [zb b1 [v2,I t77] 131,zb b10 [I t78,I 0] 89,zb b5 [I 0,I 0] 89,zh w0 F]) ?_ ?_
    ·intro k79;refine uU mixed 10 rfl [zb b5 [I 0,I 0] 89,zh w0 F] ?_;intro Qd hP hQ;let NN:=fun i l E L=>Nn 68 [zb b1 [v2,I r_0_p] 131] F w0 Tryz.prog (Xm Tryz.f195 [1,1,0,1,0]) Qd [zb b5 [I 0,I 0] 89,zh w0 F] i l ([(0,pp b1),(1,I top_1),(2,I n_2),(6,pp b5),(7,pp b10)]++E) (L++[zb b5 [I 0,I 0] 89,zh w0 F]);have H51 (r80 r81:Int):NN 0 #[Y,Y,Y,Y,Y,Y,Y,Y,Y,Y] [] [zb b1 [v2,I r81] 131,zb b10 [I (min top_1 (w64 ((w64 (r8 * 256))+r80))),I 0] 89] (k79 (r81,min top_1 (w64 ((w64 (r8 * 256))+r80)))):=by
      exact dj hQ [0,1,2,3]
     have H52 (r80 r81:Int):NN 4 #[Y,Y,Y,Y,Y,Y,Z,Z,Z,Z] [(21,I top_1),(24,I (w64 (r8 * 256))),(26,I r80)] [zb b1 [v2,I r81] 131,zb b10 [I r8,I 0] 89] (k79 (r81,min top_1 (w64 ((w64 (r8 * 256))+r80)))):=by
      refine UB (dp 6 [2,3]) ?_;refine Vo (dp 7 [2,3]) ?_;refine zy (dp 8 [2,3]) uz ?_;refine d1 9 rfl (z8 (cs':=[I (min top_1 (w64 ((w64 (r8 * 256))+r80))),I 0]) 1 ty3 ?_);exact rd [2,3] [0,1,2,3] (H51 r80 r81)
     have H53 (_:Unit):NN 6 #[Y,Y,Y,Z,Y,Z,Z,Z,Z,Z] [(21,I top_1),(25,pp b1),(23,I r8)] [zb b1 [v2,I t74] 131,zb b10 [I r8,I 0] 89] (zo r_0_b t74 256 (fun (r80,r81)=>k79 (r81,min top_1 (w64 ((w64 (r8 * 256))+r80))))):=by
      refine zhR (dp 3 [2,3]) ?_;refine d1 5 rfl (ji (M0:=[zb b1 [v2,I t74] 131]) Tryz.call52 (by intro w m h;exact rf (fun _ _=>(zK z7 zY)) (zD (F:=zX [zb b1 [v2,I t74] 131] w) (r_0_b:=r_0_b) (r_0_p:=t74) (n_1:=256) zm m.given (m.qM 2 hv2) h)) ?_);rintro ⟨r80,r81⟩ _;exact rd [2,3] [0,1,2,3] (H52 r80 r81)
     have H54 (r82 r83:Int):NN 5 #[Y,Y,Y,Z,Y,Y,Z,Z,Z,Z] [(21,I top_1),(26,I r82),(23,I r8)] [zb b1 [v2,I r83] 131,zb b10 [I r8,I 0] 89] (k79 (r83,min top_1 (w64 ((w64 (r8 * 256))+r82)))):=by
      refine zhR (dp 3 [2,3]) ?_;refine UB (dp 6 [2,3]) ?_;refine Vo (dp 7 [2,3]) ?_;refine zy (dp 8 [2,3]) uz ?_;refine d1 9 rfl (z8 (cs':=[I (min top_1 (w64 ((w64 (r8 * 256))+r82))),I 0]) 1 ty3 ?_);exact rd [2,3] [0,1,2,3] (H51 r82 r83)
     have H55 (r82 r83:Int):NN 6 #[Y,Y,Z,Z,Y,Y,Z,Z,Z,Z] [(21,I top_1),(22,pp b10),(26,I r82)] [zb b1 [v2,I r83] 131,zb b10 [I r8,I 0] 89] (k79 (r83,min top_1 (w64 ((w64 (r8 * 256))+r82)))):=by
      refine d1 2 rfl (zn xH (v:=(I r8)) 1 ty3 ?_);exact rd [2,3] [0,1,2,3] (H54 r82 r83)
     refine zu (dp 0 [2,3]) ?_;refine zy (dp 1 [2,3]) uz ?_;refine zu (dp 4 [2,3]) ?_;refine xr (i:=2) (j:=5) rfl rfl (by kernel_rfl) ?_ ?_
     ·intro o ho;cases ho;refine zn xH (v:=(I r8)) 1 ty3 ?_;exact rd [2,3] [0,1,2,3] (H53 ())
     ·intro o ho;cases ho;refine ji (vs:=[pp b1,I 256]) (M0:=[zb b1 [v2,I t74] 131]) Tryz.call52 (by intro w m h;exact rf (fun _ _=>(zK z7 zY)) (zD (F:=zX [zb b1 [v2,I t74] 131] w) (r_0_b:=r_0_b) (r_0_p:=t74) (n_1:=256) zm m.given (m.qM 2 hv2) h)) ?_;rintro ⟨r82,r83⟩ _;exact rd [2,3] [0,1,2,3] (H55 r82 r83)
    ·rintro ⟨t77,t78⟩;refine nxj ?_;exact lj [0,1,2,3]
   ·refine jV ?_;exact lj [0,1,2,3]
 ·rintro ⟨t144,t145⟩;refine nxj ?_;refine zV (σ:=(Int×Int)) (fun (t147,t148)=>JJ [(0,pp b1),(1,I top_1),(2,I n_2),(6,pp b5),(7,pp b10)] [zb b1 [v2,I t147] 131,zb b10 [I t145,I t148] 89,zb b5 [I 0,I 0] 89,zh w0 F]) ?_ ?_
  ·intro k149;refine uU mixed 16 rfl [zb b5 [I 0,I 0] 89,zh w0 F] ?_;intro Qd hP hQ;let NN:=fun i l E L=>Nn 68 [zb b1 [v2,I r_0_p] 131] F w0 Tryz.prog (Xm Tryz.f195 [1,1,1,0]) Qd [zb b5 [I 0,I 0] 89,zh w0 F] i l ([(0,pp b1),(1,I top_1),(2,I n_2),(6,pp b5),(7,pp b10)]++E) (L++[zb b5 [I 0,I 0] 89,zh w0 F]);have H57 (r150 r151 r152 r153:Int) (v154:Value) (r155 r156 e157:Int) (h158:([0,r150,r152,4096])[(r155).toNat]?=some e157):NN 0 #[Y,Y,Y,Y,Y,Y,Y,Y,Y,Y,Y,Y,Y,Y,Y,Y] [] [zb b1 [v2,I r156] 131,zb b10 [I t145,I (min top_1 (w64 (t145+e157)))] 89] (k149 (r156,min top_1 (w64 (t145+e157)))):=by
    exact dj hQ [0,1,2,3]
   have H58 (r150 r151 r152 r153:Int) (v154:Value) (r155 r156 e157:Int) (h158:([0,r150,r152,4096])[(r155).toNat]?=some e157):NN 4 #[Y,Y,Y,Y,Y,Y,Y,Y,Y,Y,Y,Y,Z,Z,Z,Z] [(30,I top_1),(32,I t145),(41,I e157)] [zb b1 [v2,I r156] 131,zb b10 [I t145,I 0] 89] (k149 (r156,min top_1 (w64 (t145+e157)))):=by
    refine UB (dp 12 [2,3]) ?_;refine Vo (dp 13 [2,3]) ?_;refine zy (dp 14 [2,3]) xo ?_;refine d1 15 rfl (z8 (cs':=[I t145,I (min top_1 (w64 (t145+e157)))]) 1 ty3 ?_);exact rd [2,3] [0,1,2,3] (H57 r150 r151 r152 r153 v154 r155 r156 e157 h158)
   have H59 (r150 r151 r152 r153:Int) (v154:Value) (r155 r156 e157:Int) (h158:([0,r150,r152,4096])[(r155).toNat]?=some e157):NN 5 #[Y,Y,Y,Y,Y,Y,Y,Y,Y,Y,Y,Z,Z,Z,Z,Z] [(30,I top_1),(32,I t145),(40,pEl v154 r155 1 0)] [zb b1 [v2,I r156] 131,zg xz 3 v154 ([0,r150,r152,4096]),zb b10 [I t145,I 0] 89] (k149 (r156,min top_1 (w64 (t145+e157)))):=by
    refine d1 11 rfl (jD xH (enc:=xW) (u:=(I e157)) 1 zi jO h158 ty3 ?_);exact rd [3,4] [0,2,3,4] (H58 r150 r151 r152 r153 v154 r155 r156 e157 h158)
   have H60 (r150 r151 r152 r153:Int) (v154:Value) (r155 r156:Int):NN 6 #[Y,Y,Y,Y,Y,Y,Y,Y,Y,Y,Z,Z,Z,Z,Z,Z] [(30,I top_1),(32,I t145),(37,v154),(39,I r155)] [zb b1 [v2,I r156] 131,zg xz 3 v154 ([0,r150,r152,4096]),zb b10 [I t145,I 0] 89] (zB ([0,r150,r152,4096]) r155 (fun e157=>k149 (r156,min top_1 (w64 (t145+e157))))):=by
    refine d1 10 rfl (zF xH 1 zi Z7 ?_);intro e157 h158;exact rd [3,4] [0,1,2,3,4] (H59 r150 r151 r152 r153 v154 r155 r156 e157 h158)
   have H61 (r150 r151 r152 r153:Int) (v154:Value):NN 7 #[Y,Y,Y,Y,Y,Y,Y,Y,Y,Z,Z,Z,Z,Z,Z,Z] [(30,I top_1),(38,pp b1),(32,I t145),(37,v154)] [zg xz 3 v154 ([0,r150,r152,4096]),zb b1 [v2,I r153] 131,zb b10 [I t145,I 0] 89] (zo r_0_b r153 4 (fun (r155,r156)=>zB ([0,r150,r152,4096]) r155 (fun e157=>k149 (r156,min top_1 (w64 (t145+e157)))))):=by
    refine pk' [1,0,2,3,4] ?_;refine d1 9 rfl (ji (M0:=[zb b1 [v2,I r153] 131]) Tryz.call52 (by intro w m h;exact rf (fun _ _=>(zK z7 zY)) (zD (F:=zX [zb b1 [v2,I r153] 131] w) (r_0_b:=r_0_b) (r_0_p:=r153) (n_1:=4) zm m.given (m.qM 3 hv2) h)) ?_);rintro ⟨r155,r156⟩ _;exact rd [3,4] [0,1,2,3,4] (H60 r150 r151 r152 r153 v154 r155 r156)
   have H62 (r150 r151 r152 r153 r159 r160:Int):NN 7 #[Y,Y,Y,Y,Y,Y,Y,Z,Y,Y,Z,Z,Z,Z,Z,Z] [(30,I top_1),(32,I t145),(34,I r150),(36,I r152),(39,I r159)] [zb b1 [v2,I r160] 131,zb b10 [I t145,I 0] 89] (zB ([0,r150,r152,4096]) r159 (fun e157=>k149 (r160,min top_1 (w64 (t145+e157))))):=by
    refine d1 7 rfl (xe (enc:=xW) (qs:=[(0,I 0),(1,I r150),(2,I r152),(3,I 4096)]) (cells:=[I 0,I r150,I r152,I 4096]) ([0,r150,r152,4096]) jO (by intro ρ h;simp only [List.map_toArray,List.map_cons,List.map_nil,h (.const (I 0)) _ rfl,h (.tmp 34) _ rfl,h (.tmp 36) _ rfl,h (.const (I 4096)) _ rfl]) Z7 Yb ?_);intro v161;exact rd [3,4] [1,0,2,3,4] (H60 r150 r151 r152 r153 v161 r159 r160)
   have H63 (r150 r151 r152 r153:Int):NN 8 #[Y,Y,Y,Y,Y,Y,Y,Z,Y,Z,Z,Z,Z,Z,Z,Z] [(30,I top_1),(38,pp b1),(32,I t145),(34,I r150),(36,I r152)] [zb b1 [v2,I r153] 131,zb b10 [I t145,I 0] 89] (zo r_0_b r153 4 (fun (r155,r156)=>zB ([0,r150,r152,4096]) r155 (fun e157=>k149 (r156,min top_1 (w64 (t145+e157)))))):=by
    refine xr (i:=7) (j:=9) rfl rfl (by kernel_rfl) ?_ ?_
    ·intro o ho;cases ho;refine xe (enc:=xW) (qs:=[(0,I 0),(1,I r150),(2,I r152),(3,I 4096)]) (cells:=[I 0,I r150,I r152,I 4096]) ([0,r150,r152,4096]) jO (by intro ρ h;simp only [List.map_toArray,List.map_cons,List.map_nil,h (.const (I 0)) _ rfl,h (.tmp 34) _ rfl,h (.tmp 36) _ rfl,h (.const (I 4096)) _ rfl]) Z7 Yb ?_;intro v154;exact rd [3,4] [0,1,2,3,4] (H61 r150 r151 r152 r153 v154)
    ·intro o ho;cases ho;refine ji (vs:=[pp b1,I 4]) (M0:=[zb b1 [v2,I r153] 131]) Tryz.call52 (by intro w m h;exact rf (fun _ _=>(zK z7 zY)) (zD (F:=zX [zb b1 [v2,I r153] 131] w) (r_0_b:=r_0_b) (r_0_p:=r153) (n_1:=4) zm m.given (m.qM 2 hv2) h)) ?_;rintro ⟨r159,r160⟩ _;exact rd [2,3] [0,1,2,3] (H62 r150 r151 r152 r153 r159 r160)
   have H64 (r150 r151:Int):NN 9 #[Y,Y,Y,Y,Y,Y,Z,Z,Y,Z,Z,Z,Z,Z,Z,Z] [(30,I top_1),(35,pp b1),(38,pp b1),(32,I t145),(34,I r150)] [zb b1 [v2,I r151] 131,zb b10 [I t145,I 0] 89] (zo r_0_b r151 256 (fun (r152,r153)=>zo r_0_b r153 4 (fun (r155,r156)=>zB ([0,r150,r152,4096]) r155 (fun e157=>k149 (r156,min top_1 (w64 (t145+e157))))))):=by
    refine d1 6 rfl (ji (M0:=[zb b1 [v2,I r151] 131]) Tryz.call52 (by intro w m h;exact rf (fun _ _=>(zK z7 zY)) (zD (F:=zX [zb b1 [v2,I r151] 131] w) (r_0_b:=r_0_b) (r_0_p:=r151) (n_1:=256) zm m.given (m.qM 2 hv2) h)) ?_);rintro ⟨r152,r153⟩ _;exact rd [2,3] [0,1,2,3] (H63 r150 r151 r152 r153)
   have H65 (_:Unit):NN 10 #[Y,Y,Y,Y,Z,Y,Z,Z,Y,Z,Z,Z,Z,Z,Z,Z] [(30,I top_1),(33,pp b1),(35,pp b1),(38,pp b1),(32,I t145)] [zb b1 [v2,I t144] 131,zb b10 [I t145,I 0] 89] (zo r_0_b t144 4 (fun (r150,r151)=>zo r_0_b r151 256 (fun (r152,r153)=>zo r_0_b r153 4 (fun (r155,r156)=>zB ([0,r150,r152,4096]) r155 (fun e157=>k149 (r156,min top_1 (w64 (t145+e157)))))))):=by
    refine d1 4 rfl (ji (M0:=[zb b1 [v2,I t144] 131]) Tryz.call52 (by intro w m h;exact rf (fun _ _=>(zK z7 zY)) (zD (F:=zX [zb b1 [v2,I t144] 131] w) (r_0_b:=r_0_b) (r_0_p:=t144) (n_1:=4) zm m.given (m.qM 2 hv2) h)) ?_);rintro ⟨r150,r151⟩ _;exact rd [2,3] [0,1,2,3] (H64 r150 r151)
   have H66 (r162 r163 r164 r165:Int) (v166:Value) (r167 r168 e169:Int) (h170:([0,r162,r164,4096])[(r167).toNat]?=some e169):NN 5 #[Y,Y,Z,Y,Y,Y,Y,Y,Y,Y,Y,Y,Z,Z,Z,Z] [(30,I top_1),(31,pp b10),(41,I e169)] [zb b1 [v2,I r168] 131,zb b10 [I t145,I 0] 89] (k149 (r168,min top_1 (w64 (t145+e169)))):=by
    refine d1 2 rfl (zn xH (v:=(I t145)) 1 ty3 ?_);exact rd [2,3] [0,1,2,3] (H58 r162 r163 r164 r165 v166 r167 r168 e169 h170)
   have H67 (r162 r163 r164 r165:Int) (v166:Value) (r167 r168 e169:Int) (h170:([0,r162,r164,4096])[(r167).toNat]?=some e169):NN 6 #[Y,Y,Z,Y,Y,Y,Y,Y,Y,Y,Y,Z,Z,Z,Z,Z] [(30,I top_1),(31,pp b10),(40,pEl v166 r167 1 0)] [zb b1 [v2,I r168] 131,zg xz 3 v166 ([0,r162,r164,4096]),zb b10 [I t145,I 0] 89] (k149 (r168,min top_1 (w64 (t145+e169)))):=by
    refine xr (i:=2) (j:=11) rfl rfl (by kernel_rfl) ?_ ?_
    ·intro o ho;cases ho;refine zn xH (v:=(I t145)) 2 ty3 ?_;exact rd [3,4] [0,1,2,3,4] (H59 r162 r163 r164 r165 v166 r167 r168 e169 h170)
    ·intro o ho;cases ho;refine jD xH (enc:=xW) (u:=(I e169)) 1 zi jO h170 ty3 ?_;exact rd [3,4] [0,2,3,4] (H66 r162 r163 r164 r165 v166 r167 r168 e169 h170)
   have H68 (r162 r163 r164 r165:Int) (v166:Value) (r167 r168:Int):NN 7 #[Y,Y,Z,Y,Y,Y,Y,Y,Y,Y,Z,Z,Z,Z,Z,Z] [(30,I top_1),(31,pp b10),(37,v166),(39,I r167)] [zb b1 [v2,I r168] 131,zg xz 3 v166 ([0,r162,r164,4096]),zb b10 [I t145,I 0] 89] (zB ([0,r162,r164,4096]) r167 (fun e157=>k149 (r168,min top_1 (w64 (t145+e157))))):=by
    refine xr (i:=2) (j:=10) rfl rfl (by kernel_rfl) ?_ ?_
    ·intro o ho;cases ho;refine zn xH (v:=(I t145)) 2 ty3 ?_;exact rd [3,4] [0,1,2,3,4] (H60 r162 r163 r164 r165 v166 r167 r168)
    ·intro o ho;cases ho;refine zF xH 1 zi Z7 ?_;intro e169 h170;exact rd [3,4] [0,1,2,3,4] (H67 r162 r163 r164 r165 v166 r167 r168 e169 h170)
   have H69 (r162 r163 r164 r165:Int) (v166:Value):NN 8 #[Y,Y,Z,Y,Y,Y,Y,Y,Y,Z,Z,Z,Z,Z,Z,Z] [(30,I top_1),(31,pp b10),(38,pp b1),(37,v166)] [zg xz 3 v166 ([0,r162,r164,4096]),zb b1 [v2,I r165] 131,zb b10 [I t145,I 0] 89] (zo r_0_b r165 4 (fun (r155,r156)=>zB ([0,r162,r164,4096]) r155 (fun e157=>k149 (r156,min top_1 (w64 (t145+e157)))))):=by
    refine xr (i:=2) (j:=9) rfl rfl (by kernel_rfl) ?_ ?_
    ·intro o ho;cases ho;refine zn xH (v:=(I t145)) 2 ty3 ?_;exact rd [3,4] [0,1,2,3,4] (H61 r162 r163 r164 r165 v166)
    ·intro o ho;cases ho;refine pk' [1,0,2,3,4] ?_;refine ji (vs:=[pp b1,I 4]) (M0:=[zb b1 [v2,I r165] 131]) Tryz.call52 (by intro w m h;exact rf (fun _ _=>(zK z7 zY)) (zD (F:=zX [zb b1 [v2,I r165] 131] w) (r_0_b:=r_0_b) (r_0_p:=r165) (n_1:=4) zm m.given (m.qM 3 hv2) h)) ?_;rintro ⟨r167,r168⟩ _;exact rd [3,4] [0,1,2,3,4] (H68 r162 r163 r164 r165 v166 r167 r168)
   have H70 (r162 r163 r164 r165 r171 r172:Int):NN 8 #[Y,Y,Z,Y,Y,Y,Y,Z,Y,Y,Z,Z,Z,Z,Z,Z] [(30,I top_1),(31,pp b10),(34,I r162),(36,I r164),(39,I r171)] [zb b1 [v2,I r172] 131,zb b10 [I t145,I 0] 89] (zB ([0,r162,r164,4096]) r171 (fun e157=>k149 (r172,min top_1 (w64 (t145+e157))))):=by
    refine xr (i:=2) (j:=7) rfl rfl (by kernel_rfl) ?_ ?_
    ·intro o ho;cases ho;refine zn xH (v:=(I t145)) 1 ty3 ?_;exact rd [2,3] [0,1,2,3] (H62 r162 r163 r164 r165 r171 r172)
    ·intro o ho;cases ho;refine xe (enc:=xW) (qs:=[(0,I 0),(1,I r162),(2,I r164),(3,I 4096)]) (cells:=[I 0,I r162,I r164,I 4096]) ([0,r162,r164,4096]) jO (by intro ρ h;simp only [List.map_toArray,List.map_cons,List.map_nil,h (.const (I 0)) _ rfl,h (.tmp 34) _ rfl,h (.tmp 36) _ rfl,h (.const (I 4096)) _ rfl]) Z7 Yb ?_;intro v173;exact rd [3,4] [1,0,2,3,4] (H68 r162 r163 r164 r165 v173 r171 r172)
   have H71 (r162 r163 r164 r165:Int):NN 9 #[Y,Y,Z,Y,Y,Y,Y,Z,Y,Z,Z,Z,Z,Z,Z,Z] [(30,I top_1),(31,pp b10),(38,pp b1),(34,I r162),(36,I r164)] [zb b1 [v2,I r165] 131,zb b10 [I t145,I 0] 89] (zo r_0_b r165 4 (fun (r155,r156)=>zB ([0,r162,r164,4096]) r155 (fun e157=>k149 (r156,min top_1 (w64 (t145+e157)))))):=by
    refine Uk (i:=2) (j:=7) (l:=9) rfl rfl rfl (by kernel_rfl) ?_ ?_ ?_
    ·intro o ho;cases ho;refine zn xH (v:=(I t145)) 1 ty3 ?_;exact rd [2,3] [0,1,2,3] (H63 r162 r163 r164 r165)
    ·intro o ho;cases ho;refine xe (enc:=xW) (qs:=[(0,I 0),(1,I r162),(2,I r164),(3,I 4096)]) (cells:=[I 0,I r162,I r164,I 4096]) ([0,r162,r164,4096]) jO (by intro ρ h;simp only [List.map_toArray,List.map_cons,List.map_nil,h (.const (I 0)) _ rfl,h (.tmp 34) _ rfl,h (.tmp 36) _ rfl,h (.const (I 4096)) _ rfl]) Z7 Yb ?_;intro v166;exact rd [3,4] [0,1,2,3,4] (H69 r162 r163 r164 r165 v166)
    ·intro o ho;cases ho;refine ji (vs:=[pp b1,I 4]) (M0:=[zb b1 [v2,I r165] 131]) Tryz.call52 (by intro w m h;exact rf (fun _ _=>(zK z7 zY)) (zD (F:=zX [zb b1 [v2,I r165] 131] w) (r_0_b:=r_0_b) (r_0_p:=r165) (n_1:=4) zm m.given (m.qM 2 hv2) h)) ?_;rintro ⟨r171,r172⟩ _;exact rd [2,3] [0,1,2,3] (H70 r162 r163 r164 r165 r171 r172)
   have H72 (r162 r163:Int):NN 10 #[Y,Y,Z,Y,Y,Y,Z,Z,Y,Z,Z,Z,Z,Z,Z,Z] [(30,I top_1),(31,pp b10),(35,pp b1),(38,pp b1),(34,I r162)] [zb b1 [v2,I r163] 131,zb b10 [I t145,I 0] 89] (zo r_0_b r163 256 (fun (r152,r153)=>zo r_0_b r153 4 (fun (r155,r156)=>zB ([0,r162,r152,4096]) r155 (fun e157=>k149 (r156,min top_1 (w64 (t145+e157))))))):=by
    refine xr (i:=2) (j:=6) rfl rfl (by kernel_rfl) ?_ ?_
    ·intro o ho;cases ho;refine zn xH (v:=(I t145)) 1 ty3 ?_;exact rd [2,3] [0,1,2,3] (H64 r162 r163)
    ·intro o ho;cases ho;refine ji (vs:=[pp b1,I 256]) (M0:=[zb b1 [v2,I r163] 131]) Tryz.call52 (by intro w m h;exact rf (fun _ _=>(zK z7 zY)) (zD (F:=zX [zb b1 [v2,I r163] 131] w) (r_0_b:=r_0_b) (r_0_p:=r163) (n_1:=256) zm m.given (m.qM 2 hv2) h)) ?_;rintro ⟨r164,r165⟩ _;exact rd [2,3] [0,1,2,3] (H71 r162 r163 r164 r165)
   refine zu (dp 0 [2,3]) ?_;refine zy (dp 1 [2,3]) uz ?_;refine zu (dp 3 [2,3]) ?_;refine zu (dp 5 [2,3]) ?_;refine zu (dp 8 [2,3]) ?_;refine xr (i:=2) (j:=4) rfl rfl (by kernel_rfl) ?_ ?_
   ·intro o ho;cases ho;refine zn xH (v:=(I t145)) 1 ty3 ?_;exact rd [2,3] [0,1,2,3] (H65 ())
   ·intro o ho;cases ho;refine ji (vs:=[pp b1,I 4]) (M0:=[zb b1 [v2,I t144] 131]) Tryz.call52 (by intro w m h;exact rf (fun _ _=>(zK z7 zY)) (zD (F:=zX [zb b1 [v2,I t144] 131] w) (r_0_b:=r_0_b) (r_0_p:=t144) (n_1:=4) zm m.given (m.qM 2 hv2) h)) ?_;rintro ⟨r162,r163⟩ _;exact rd [2,3] [0,1,2,3] (H72 r162 r163)
  ·rintro ⟨t147,t148⟩;refine nxj ?_;refine y10 ?_;refine mv ?_;refine mv ?_;refine stw (ji (M0:=[zb b1 [v2,I t147] 131]) Tryz.call97 (by intro w m h;exact rf (fun _ _=>(zK z7 zY)) (yI (F:=zX [zb b1 [v2,I t147] 131] w) (r_0_b:=r_0_b) (r_0_p:=t147) (n_1:=n_2) zm m.given (m.qM 2 hv2) h)) ?_);rintro ⟨r174,r175⟩ _;refine y1 ?_;refine zk ?_ ?_
   ·refine zV (σ:=(Int×Int×Int)) (fun (t176,t177,t178)=>JJ [(6,pp b5)] [zb b1 [v2,I t176] 131,zb b5 [I t177,I t178] 89,zh w0 F]) ?_ ?_
    ·intro k179;refine uU mixed 20 rfl [zb b10 [I t145,I t148] 89,zh w0 F] ?_;intro Qd hP hQ;let NN:=fun i l E L=>Nn 68 [zb b1 [v2,I r_0_p] 131] F w0 Tryz.prog (Xm Tryz.f195 [1,1,1,1,0,1,0,0]) Qd [zb b10 [I t145,I t148] 89,zh w0 F] i l ([(6,pp b5)]++E) (L++[zh w0 F]);have H81 (v180:Value) (r181 r182:Int) (e183:ze) (h184:([ze.mk (w64 (t148+1)) t148,ze.mk (-1) t148,ze.mk t145 (w64 (top_1+1))])[(r181).toNat]?=some e183):NN 0 #[Y,Y,Y,Y,Y,Y,Y,Y,Y,Y,Y,Y,Y,Y,Y,Y,Y,Y,Y,Y] [] [zb b1 [v2,I r182] 131,zb b10 [I t145,I t148] 89,zb b5 [I e183.xLo,I e183.xHi] 89] (k179 (r182,e183.xLo,e183.xHi)):=by
      exact dj hQ [0,2,3]
     have H82 (v180:Value) (r181 r182:Int) (e183:ze) (h184:([ze.mk (w64 (t148+1)) t148,ze.mk (-1) t148,ze.mk t145 (w64 (top_1+1))])[(r181).toNat]?=some e183):NN 1 #[Y,Y,Y,Y,Y,Y,Y,Y,Y,Y,Y,Y,Y,Y,Y,Y,Y,Y,Y,Z] [(66,.agg #[I e183.xLo,I e183.xHi])] [zb b1 [v2,I r182] 131,zb b10 [I t145,I t148] 89,zb b5 [I 0,I 0] 89] (k179 (r182,e183.xLo,e183.xHi)):=by
      refine d1 19 rfl (z8 (cs':=[I e183.xLo,I e183.xHi]) 2 YI ?_);exact rd [1,3] [0,1,2,3] (H81 v180 r181 r182 e183 h184)
     have H83 (v180:Value) (r181 r182:Int) (e183:ze) (h184:([ze.mk (w64 (t148+1)) t148,ze.mk (-1) t148,ze.mk t145 (w64 (top_1+1))])[(r181).toNat]?=some e183):NN 2 #[Y,Y,Y,Y,Y,Y,Y,Y,Y,Y,Y,Y,Y,Y,Y,Y,Y,Y,Z,Z] [(65,pEl v180 r181 2 0)] [zb b1 [v2,I r182] 131,zg zc 89 v180 ([ze.mk (w64 (t148+1)) t148,ze.mk (-1) t148,ze.mk t145 (w64 (top_1+1))]),zb b10 [I t145,I t148] 89,zb b5 [I 0,I 0] 89] (k179 (r182,e183.xLo,e183.xHi)):=by
      refine d1 18 rfl (jD xH (enc:=zQ) (u:=(.agg #[I e183.xLo,I e183.xHi])) 1 zi zx h184 YI ?_);exact rd [2,4] [0,2,3,4] (H82 v180 r181 r182 e183 h184)
     have H84 (v180:Value) (r181 r182:Int):NN 3 #[Y,Y,Y,Y,Y,Y,Y,Y,Y,Y,Y,Y,Y,Y,Y,Y,Y,Z,Z,Z] [(62,v180),(64,I r181)] [zb b1 [v2,I r182] 131,zg zc 89 v180 ([ze.mk (w64 (t148+1)) t148,ze.mk (-1) t148,ze.mk t145 (w64 (top_1+1))]),zb b10 [I t145,I t148] 89,zb b5 [I 0,I 0] 89] (zB ([ze.mk (w64 (t148+1)) t148,ze.mk (-1) t148,ze.mk t145 (w64 (top_1+1))]) r181 (fun e183=>k179 (r182,e183.xLo,e183.xHi))):=by
      refine d1 17 rfl (zF xH 1 zi jH ?_);intro e183 h184;exact rd [2,4] [0,1,2,3,4] (H83 v180 r181 r182 e183 h184)
     have H85 (v180:Value):NN 4 #[Y,Y,Y,Y,Y,Y,Y,Y,Y,Y,Y,Y,Y,Y,Y,Y,Z,Z,Z,Z] [(63,pp b1),(62,v180)] [zg zc 89 v180 ([ze.mk (w64 (t148+1)) t148,ze.mk (-1) t148,ze.mk t145 (w64 (top_1+1))]),zb b1 [v2,I r175] 131,zb b10 [I t145,I t148] 89,zb b5 [I 0,I 0] 89] (zo r_0_b r175 3 (fun (r181,r182)=>zB ([ze.mk (w64 (t148+1)) t148,ze.mk (-1) t148,ze.mk t145 (w64 (top_1+1))]) r181 (fun e183=>k179 (r182,e183.xLo,e183.xHi)))):=by
      refine pk' [1,0,2,3,4] ?_;refine d1 16 rfl (ji (M0:=[zb b1 [v2,I r175] 131]) Tryz.call52 (by intro w m h;exact rf (fun _ _=>(zK z7 zY)) (zD (F:=zX [zb b1 [v2,I r175] 131] w) (r_0_b:=r_0_b) (r_0_p:=r175) (n_1:=3) zm m.given (m.qM 3 hv2) h)) ?_);rintro ⟨r181,r182⟩ _;exact rd [2,4] [0,1,2,3,4] (H84 v180 r181 r182)
     have H86 (r185 r186:Int):NN 4 #[Y,Y,Y,Y,Y,Y,Y,Y,Y,Y,Y,Y,Y,Y,Z,Y,Y,Z,Z,Z] [(53,.agg #[I (w64 (t148+1)),I t148]),(56,.agg #[I (-1),I t148]),(61,.agg #[I t145,I (w64 (top_1+1))]),(64,I r185)] [zb b1 [v2,I r186] 131,zb b10 [I t145,I t148] 89,zb b5 [I 0,I 0] 89] (zB ([ze.mk (w64 (t148+1)) t148,ze.mk (-1) t148,ze.mk t145 (w64 (top_1+1))]) r185 (fun e183=>k179 (r186,e183.xLo,e183.xHi))):=by
      refine d1 14 rfl (xe (enc:=zQ) (qs:=[(0,.agg #[I (w64 (t148+1)),I t148]),(1,.agg #[I (-1),I t148]),(2,.agg #[I t145,I (w64 (top_1+1))])]) (cells:=[I (w64 (t148+1)),I t148,I (-1),I t148,I t145,I (w64 (top_1+1))]) ([ze.mk (w64 (t148+1)) t148,ze.mk (-1) t148,ze.mk t145 (w64 (top_1+1))]) zx (by intro ρ h;simp only [List.map_toArray,List.map_cons,List.map_nil,h (.tmp 53) _ rfl,h (.tmp 56) _ rfl,h (.tmp 61) _ rfl]) jH xj ?_);intro v187;exact rd [2,4] [1,0,2,3,4] (H84 v187 r185 r186)
     refine zy (dp 0 [1,3]) xo ?_;refine zn (dp 1 [1,3]) (v:=(I t148)) 0 ty3 ?_;refine UB (dp 2 [1,3]) ?_;refine zy (dp 3 [1,3]) xo ?_;refine zn (dp 4 [1,3]) (v:=(I t148)) 0 ty3 ?_;refine jK (dp 5 [1,3]) (qs:=[(0,I (w64 (t148+1))),(1,I t148)]) (cells:=[I (w64 (t148+1)),I t148]) (bqi rfl) yW ?_;refine zy (dp 6 [1,3]) xo ?_;refine zn (dp 7 [1,3]) (v:=(I t148)) 0 ty3 ?_;refine jK (dp 8 [1,3]) (qs:=[(0,I (-1)),(1,I t148)]) (cells:=[I (-1),I t148]) (bqi rfl) yW ?_;refine zy (dp 9 [1,3]) uz ?_;refine zn (dp 10 [1,3]) (v:=(I t145)) 0 ty3 ?_;refine zu (dp 11 [1,3]) ?_;refine UB (dp 12 [1,3]) ?_;refine jK (dp 13 [1,3]) (qs:=[(0,I t145),(1,I (w64 (top_1+1)))]) (cells:=[I t145,I (w64 (top_1+1))]) (bqi rfl) yW ?_;refine zu (dp 15 [1,3]) ?_;refine xr (i:=14) (j:=16) rfl rfl (by kernel_rfl) ?_ ?_
     ·intro o ho;cases ho;refine xe (enc:=zQ) (qs:=[(0,.agg #[I (w64 (t148+1)),I t148]),(1,.agg #[I (-1),I t148]),(2,.agg #[I t145,I (w64 (top_1+1))])]) (cells:=[I (w64 (t148+1)),I t148,I (-1),I t148,I t145,I (w64 (top_1+1))]) ([ze.mk (w64 (t148+1)) t148,ze.mk (-1) t148,ze.mk t145 (w64 (top_1+1))]) zx (by intro ρ h;simp only [List.map_toArray,List.map_cons,List.map_nil,h (.tmp 53) _ rfl,h (.tmp 56) _ rfl,h (.tmp 61) _ rfl]) jH xj ?_;intro v180;exact rd [2,4] [0,1,2,3,4] (H85 v180)
     ·intro o ho;cases ho;refine ji (vs:=[pp b1,I 3]) (M0:=[zb b1 [v2,I r175] 131]) Tryz.call52 (by intro w m h;exact rf (fun _ _=>(zK z7 zY)) (zD (F:=zX [zb b1 [v2,I r175] 131] w) (r_0_b:=r_0_b) (r_0_p:=r175) (n_1:=3) zm m.given (m.qM 2 hv2) h)) ?_;rintro ⟨r185,r186⟩ _;exact rd [1,3] [0,1,2,3] (H86 r185 r186)
    ·rintro ⟨t176,t177,t178⟩;refine nxj ?_;refine ux (xh ?_);exact jv Tryz.results195 (ze.mk t177 t178,t176) () (yU 1 rfl rfl YI rfl) (fun w m=>zU.ofB m [0] rfl)
   ·refine y8 ?_;refine zn st (v:=(.agg #[I t145,I t148])) 1 YI ?_;refine stw (z8 (cs':=[I t145,I t148]) 2 YI ?_);refine y3 ?_;exact jv Tryz.results195 (ze.mk t145 t148,r175) () (yU 2 rfl rfl YI rfl) (fun w m=>zU.ofB m [0] rfl)
theorem zau {w0:World} {F:Nat→Prop} {b1:Nat} {v2:Value} {r_0_b:(List UInt8)} {r_0_p n_1:Int} {κ:(jk×Int)→Prop} (hF:Fr [zb b1 [v2,(I r_0_p)] 131] F w0) (hg:uC [zb b1 [v2,(I r_0_p)] 131] F w0) (hv2:Sl V4 F w0 v2 r_0_b) (h:Xw r_0_b r_0_p n_1 κ) :
  Calls Tryz.prog 152 #[(pp b1),(I n_1)] w0 (Ret [zb b1 [v2,(I r_0_p)] 131] F w0 κ (fun r (u:Unit)=>(.agg #[(I r.1.xField),(I r.1.xLo),(I r.1.xHi),(.bool r.1.xNot)])) (fun r u=>[zb b1 [v2,(I r.2)] 131])):=by
 refine yP (args:=[pp b1,I n_1]) [zb b1 [v2,I r_0_p] 131] hF hg Tryz.func152 rfl Tryz.ntmps152 rfl h ?_;clear h hF hg;let JJ:=Jn 83 [zb b1 [v2,I r_0_p] 131] F w0;refine y0 ?_;refine stw (jj [I 0,I 0,I 0,.bool false] ZA ?_);intro b5;refine y2 ?_;refine mv ?_;refine pk' [1,0,2] ?_;refine stw (ji (M0:=[zb b1 [v2,I r_0_p] 131]) Tryz.call52 (by intro w m h;exact rf (fun _ _=>(zK z7 zY)) (zD (F:=zX [zb b1 [v2,I r_0_p] 131] w) (r_0_b:=r_0_b) (r_0_p:=r_0_p) (n_1:=4) zm m.given (m.qM 1 hv2) h)) ?_);rintro ⟨r7,r8⟩ _;refine mv ?_;refine stw (ji (M0:=[zb b1 [v2,I r8] 131]) Tryz.call52 (by intro w m h;exact rf (fun _ _=>(zK z7 zY)) (zD (F:=zX [zb b1 [v2,I r8] 131] w) (r_0_b:=r_0_b) (r_0_p:=r8) (n_1:=4) zm m.given (m.qM 1 hv2) h)) ?_);rintro ⟨r9,r10⟩ _;refine jS st x6 ?_;refine jK st (qs:=[(0,I r7),(3,.bool (decide (r9=0)))]) (cells:=[I r7,I 0,I 0,.bool (decide (r9=0))]) (bqi rfl) zg0 ?_;refine stw (jj [I 0,I 0,I 0,.bool false] ZA ?_);intro b11;refine stw (z8 (cs':=[I r7,I 0,I 0,.bool (decide (r9=0))]) 0 Vt ?_);refine y2 ?_;refine zy st Zl ?_;refine zn st (v:=(I r7)) 0 ty3 ?_;refine stw (zl Tryz.call119 (by intro w m h;exact rf0 (u6 (F:=zX [] w) (n_0:=r7) zm h)) ?_);rintro r13 _;refine ma ?_;refine y2 ?_;refine mv ?_;refine mv ?_;refine pk' [1,0,2,3] ?_;refine stw (ji (M0:=[zb b1 [v2,I r10] 131]) Tryz.call195 (by intro w m h;exact rf (fun _ _=>(zK z7 zY)) (zet (F:=zX [zb b1 [v2,I r10] 131] w) (r_0_b:=r_0_b) (r_0_p:=r10) (top_1:=r13) (n_2:=0) zm m.given (m.qM 2 hv2) h)) ?_);rintro ⟨r14,r15⟩ _;refine stw (jj [I 0,I 0] xj ?_);intro b16;refine stw (z8 (cs':=[I r14.xLo,I r14.xHi]) 0 YI ?_);refine y1 ?_;refine zV (σ:=(Int×Int×Int)) (fun (t152,t153,t154)=>JJ [(0,pp b1),(1,I n_1),(4,pp b5),(5,pp b11),(6,I r13),(7,pp b16)] [zb b1 [v2,I t152] 131,zb b16 [I t153,I t154] 89,zb b11 [I r7,I 0,I 0,.bool (decide (r9=0))] 165,zb b5 [I 0,I 0,I 0,.bool false] 165,zh w0 F]) ?_ ?_
 ·intro k155;refine zV (σ:=(Int×Bool)) (fun (t80,t81)=>JJ [(0,pp b1),(1,I n_1),(4,pp b5),(5,pp b11),(6,I r13),(7,pp b16),(27,.bool t81)] [zb b1 [v2,I t80] 131,zb b16 [I r14.xLo,I r14.xHi] 89,zb b11 [I r7,I 0,I 0,.bool (decide (r9=0))] 165,zb b5 [I 0,I 0,I 0,.bool false] 165,zh w0 F]) ?_ ?_
  ·intro k82;refine zq ?_;refine zy st Zl ?_;refine zn st (v:=(I r7)) 2 ty3 ?_;refine jg st ?_;refine mv ?_;refine xa (dj:=23) rfl ?_ ?_
   ·refine zu (zP rfl rfl) ?_;refine pk' [1,0,2,3,4] ?_;refine YL rfl rfl (ji (M0:=[zb b1 [v2,I r15] 131]) Tryz.call52 (by intro w m h;exact rf (fun _ _=>(zK z7 zY)) (zD (F:=zX [zb b1 [v2,I r15] 131] w) (r_0_b:=r_0_b) (r_0_p:=r15) (n_1:=2) zm m.given (m.qM 3 hv2) h)) ?_);rintro ⟨r18,r19⟩ _;refine jS (zP rfl rfl) x6 ?_;refine zT st ?_;refine zz ?_;exact lj [0,1,2,3,4]
   ·refine ss ?_;refine ss ?_;refine ss ?_;refine zN st ?_;refine zz ?_;exact lj [1,0,2,3,4]
  ·rintro ⟨t80,t81⟩;refine nxj ?_;refine zk ?_ ?_
   ·refine y0 ?_;refine mv ?_;refine stw (ji (M0:=[zb b1 [v2,I t80] 131]) Tryz.call52 (by intro w m h;exact rf (fun _ _=>(zK z7 zY)) (zD (F:=zX [zb b1 [v2,I t80] 131] w) (r_0_b:=r_0_b) (r_0_p:=t80) (n_1:=20) zm m.given (m.qM 3 hv2) h)) ?_);rintro ⟨r83,r84⟩ _;refine jK st (qs:=[(0,I r83)]) (cells:=[I r83,I 0]) (bqi rfl) yW ?_;refine stw (z8 (cs':=[I r83,I 0]) 1 YI ?_);refine y1 ?_;refine XU (σ:=(Int×Int)) (fun (t85,t86)=>JJ [(0,pp b1),(1,I n_1),(4,pp b5),(5,pp b11),(6,I r13),(7,pp b16)] [zb b1 [v2,I t85] 131,zb b16 [I r83,I t86] 89,zb b11 [I r7,I 0,I 0,.bool (decide (r9=0))] 165,zb b5 [I 0,I 0,I 0,.bool false] 165,zh w0 F]) ?_ ?_
    ·intro k87;refine uU mixed 7 rfl [zb b11 [I r7,I 0,I 0,.bool (decide (r9=0))] 165,zb b5 [I 0,I 0,I 0,.bool false] 165,zh w0 F] ?_;intro Qd hP hQ;let NN:=fun i l E L=>Nn 83 [zb b1 [v2,I r_0_p] 131] F w0 Tryz.prog (Xm Tryz.f152 [1,1,1,1,0,1,0,1]) Qd [zb b11 [I r7,I 0,I 0,.bool (decide (r9=0))] 165,zb b5 [I 0,I 0,I 0,.bool false] 165,zh w0 F] i l ([(0,pp b1),(1,I n_1),(4,pp b5),(5,pp b11),(6,I r13),(7,pp b16)]++E) (L++[zb b11 [I r7,I 0,I 0,.bool (decide (r9=0))] 165,zb b5 [I 0,I 0,I 0,.bool false] 165,zh w0 F]);have H139 (r88 r89:Int):NN 0 #[Y,Y,Y,Y,Y,Y,Y] [] [zb b1 [v2,I r89] 131,zb b16 [I r83,I (w64 (r83+r88))] 89] (k87 (r89,w64 (r83+r88))):=by
      exact dj hQ [0,1,2,3,4]
     have H140 (r88 r89:Int):NN 3 #[Y,Y,Y,Y,Z,Z,Z] [(32,I r83),(34,I r88)] [zb b1 [v2,I r89] 131,zb b16 [I r83,I 0] 89] (k87 (r89,w64 (r83+r88))):=by
      refine UB (dp 4 [2,3,4]) ?_;refine zy (dp 5 [2,3,4]) xo ?_;refine d1 6 rfl (z8 (cs':=[I r83,I (w64 (r83+r88))]) 1 ty3 ?_);exact rd [2,3,4] [0,1,2,3,4] (H139 r88 r89)
     have H141 (_:Unit):NN 4 #[Y,Y,Y,Z,Z,Z,Z] [(33,pp b1),(32,I r83)] [zb b1 [v2,I r84] 131,zb b16 [I r83,I 0] 89] (zo r_0_b r84 8 (fun (r88,r89)=>k87 (r89,w64 (r83+r88)))):=by
      refine d1 3 rfl (ji (M0:=[zb b1 [v2,I r84] 131]) Tryz.call52 (by intro w m h;exact rf (fun _ _=>(zK z7 zY)) (zD (F:=zX [zb b1 [v2,I r84] 131] w) (r_0_b:=r_0_b) (r_0_p:=r84) (n_1:=8) zm m.given (m.qM 3 hv2) h)) ?_);rintro ⟨r88,r89⟩ _;exact rd [2,3,4] [0,1,2,3,4] (H140 r88 r89)
     have H142 (r90 r91:Int):NN 4 #[Y,Z,Y,Y,Z,Z,Z] [(31,pp b16),(34,I r90)] [zb b1 [v2,I r91] 131,zb b16 [I r83,I 0] 89] (k87 (r91,w64 (r83+r90))):=by
      refine d1 1 rfl (zn xH (v:=(I r83)) 1 ty3 ?_);exact rd [2,3,4] [0,1,2,3,4] (H140 r90 r91)
     refine zy (dp 0 [2,3,4]) uz ?_;refine zu (dp 2 [2,3,4]) ?_;refine xr (i:=1) (j:=3) rfl rfl (by kernel_rfl) ?_ ?_
     ·intro o ho;cases ho;refine zn xH (v:=(I r83)) 1 ty3 ?_;exact rd [2,3,4] [0,1,2,3,4] (H141 ())
     ·intro o ho;cases ho;refine ji (vs:=[pp b1,I 8]) (M0:=[zb b1 [v2,I r84] 131]) Tryz.call52 (by intro w m h;exact rf (fun _ _=>(zK z7 zY)) (zD (F:=zX [zb b1 [v2,I r84] 131] w) (r_0_b:=r_0_b) (r_0_p:=r84) (n_1:=8) zm m.given (m.qM 3 hv2) h)) ?_;rintro ⟨r90,r91⟩ _;exact rd [2,3,4] [0,1,2,3,4] (H142 r90 r91)
    ·rintro ⟨t85,t86⟩;refine nxj ?_;exact lj [0,1,2,3,4]
   ·refine jV ?_;exact lj [0,1,2,3,4]
 ·rintro ⟨t152,t153,t154⟩;refine nxj ?_;refine zV (σ:=(Int×Int×Int)) (fun (t241,t242,t243)=>JJ [(0,pp b1),(1,I n_1),(4,pp b5),(5,pp b11),(6,I r13),(7,pp b16)] [zb b1 [v2,I t241] 131,zb b16 [I t242,I t243] 89,zb b11 [I r7,I 0,I 0,.bool (decide (r9=0))] 165,zb b5 [I 0,I 0,I 0,.bool false] 165,zh w0 F]) ?_ ?_
  ·intro k244;refine y0 ?_;refine mv ?_;refine stw (ji (M0:=[zb b1 [v2,I t152] 131]) Tryz.call52 (by intro w m h;exact rf (fun _ _=>(zK z7 zY)) (zD (F:=zX [zb b1 [v2,I t152] 131] w) (r_0_b:=r_0_b) (r_0_p:=t152) (n_1:=8) zm m.given (m.qM 3 hv2) h)) ?_);rintro ⟨r156,r157⟩ _;refine jS st x6 ?_;refine y1 ?_;refine zk ?_ ?_
   ·refine XU (σ:=(Int×Int×Int)) (fun (t158,t159,t160)=>JJ [(0,pp b1),(1,I n_1),(4,pp b5),(5,pp b11),(6,I r13),(7,pp b16)] [zb b1 [v2,I t158] 131,zb b16 [I t159,I t160] 89,zb b11 [I r7,I 0,I 0,.bool (decide (r9=0))] 165,zb b5 [I 0,I 0,I 0,.bool false] 165,zh w0 F]) ?_ ?_
    ·intro k161;refine uU mixed 15 rfl [zb b11 [I r7,I 0,I 0,.bool (decide (r9=0))] 165,zb b5 [I 0,I 0,I 0,.bool false] 165,zh w0 F] ?_;intro Qd hP hQ;let NN:=fun i l E L=>Nn 83 [zb b1 [v2,I r_0_p] 131] F w0 Tryz.prog (Xm Tryz.f152 [1,1,1,1,1,0,1,0]) Qd [zb b11 [I r7,I 0,I 0,.bool (decide (r9=0))] 165,zb b5 [I 0,I 0,I 0,.bool false] 165,zh w0 F] i l ([(0,pp b1),(1,I n_1),(4,pp b5),(5,pp b11),(6,I r13),(7,pp b16)]++E) (L++[zb b11 [I r7,I 0,I 0,.bool (decide (r9=0))] 165,zb b5 [I 0,I 0,I 0,.bool false] 165,zh w0 F]);have H162 (v162:Value) (r163 r164:Int) (e165:ze) (h166:([ze.mk 0 r13,ze.mk 0 t154,ze.mk t153 r13])[(r163).toNat]?=some e165):NN 0 #[Y,Y,Y,Y,Y,Y,Y,Y,Y,Y,Y,Y,Y,Y,Y] [] [zb b1 [v2,I r164] 131,zb b16 [I e165.xLo,I e165.xHi] 89] (k161 (r164,e165.xLo,e165.xHi)):=by
      exact dj hQ [0,1,2,3,4]
     have H163 (v162:Value) (r163 r164:Int) (e165:ze) (h166:([ze.mk 0 r13,ze.mk 0 t154,ze.mk t153 r13])[(r163).toNat]?=some e165):NN 1 #[Y,Y,Y,Y,Y,Y,Y,Y,Y,Y,Y,Y,Y,Y,Z] [(53,.agg #[I e165.xLo,I e165.xHi])] [zb b1 [v2,I r164] 131,zb b16 [I t153,I t154] 89] (k161 (r164,e165.xLo,e165.xHi)):=by
      refine d1 14 rfl (z8 (cs':=[I e165.xLo,I e165.xHi]) 1 YI ?_);exact rd [2,3,4] [0,1,2,3,4] (H162 v162 r163 r164 e165 h166)
     have H164 (v162:Value) (r163 r164:Int) (e165:ze) (h166:([ze.mk 0 r13,ze.mk 0 t154,ze.mk t153 r13])[(r163).toNat]?=some e165):NN 2 #[Y,Y,Y,Y,Y,Y,Y,Y,Y,Y,Y,Y,Y,Z,Z] [(52,pEl v162 r163 2 0)] [zb b1 [v2,I r164] 131,zg zc 89 v162 ([ze.mk 0 r13,ze.mk 0 t154,ze.mk t153 r13]),zb b16 [I t153,I t154] 89] (k161 (r164,e165.xLo,e165.xHi)):=by
      refine d1 13 rfl (jD xH (enc:=zQ) (u:=(.agg #[I e165.xLo,I e165.xHi])) 1 zi zx h166 YI ?_);exact rd [3,4,5] [0,2,3,4,5] (H163 v162 r163 r164 e165 h166)
     have H165 (v162:Value) (r163 r164:Int):NN 3 #[Y,Y,Y,Y,Y,Y,Y,Y,Y,Y,Y,Y,Z,Z,Z] [(49,v162),(51,I r163)] [zb b1 [v2,I r164] 131,zg zc 89 v162 ([ze.mk 0 r13,ze.mk 0 t154,ze.mk t153 r13]),zb b16 [I t153,I t154] 89] (zB ([ze.mk 0 r13,ze.mk 0 t154,ze.mk t153 r13]) r163 (fun e165=>k161 (r164,e165.xLo,e165.xHi))):=by
      refine d1 12 rfl (zF xH 1 zi jH ?_);intro e165 h166;exact rd [3,4,5] [0,1,2,3,4,5] (H164 v162 r163 r164 e165 h166)
     have H166 (v162:Value):NN 4 #[Y,Y,Y,Y,Y,Y,Y,Y,Y,Y,Y,Z,Z,Z,Z] [(50,pp b1),(49,v162)] [zg zc 89 v162 ([ze.mk 0 r13,ze.mk 0 t154,ze.mk t153 r13]),zb b1 [v2,I r157] 131,zb b16 [I t153,I t154] 89] (zo r_0_b r157 3 (fun (r163,r164)=>zB ([ze.mk 0 r13,ze.mk 0 t154,ze.mk t153 r13]) r163 (fun e165=>k161 (r164,e165.xLo,e165.xHi)))):=by
      refine pk' [1,0,2,3,4,5] ?_;refine d1 11 rfl (ji (M0:=[zb b1 [v2,I r157] 131]) Tryz.call52 (by intro w m h;exact rf (fun _ _=>(zK z7 zY)) (zD (F:=zX [zb b1 [v2,I r157] 131] w) (r_0_b:=r_0_b) (r_0_p:=r157) (n_1:=3) zm m.given (m.qM 4 hv2) h)) ?_);rintro ⟨r163,r164⟩ _;exact rd [3,4,5] [0,1,2,3,4,5] (H165 v162 r163 r164)
     have H167 (r167 r168:Int):NN 4 #[Y,Y,Y,Y,Y,Y,Y,Y,Y,Z,Y,Y,Z,Z,Z] [(41,.agg #[I 0,I r13]),(44,.agg #[I 0,I t154]),(48,.agg #[I t153,I r13]),(51,I r167)] [zb b1 [v2,I r168] 131,zb b16 [I t153,I t154] 89] (zB ([ze.mk 0 r13,ze.mk 0 t154,ze.mk t153 r13]) r167 (fun e165=>k161 (r168,e165.xLo,e165.xHi))):=by
      refine d1 9 rfl (xe (enc:=zQ) (qs:=[(0,.agg #[I 0,I r13]),(1,.agg #[I 0,I t154]),(2,.agg #[I t153,I r13])]) (cells:=[I 0,I r13,I 0,I t154,I t153,I r13]) ([ze.mk 0 r13,ze.mk 0 t154,ze.mk t153 r13]) zx (by intro ρ h;simp only [List.map_toArray,List.map_cons,List.map_nil,h (.tmp 41) _ rfl,h (.tmp 44) _ rfl,h (.tmp 48) _ rfl]) jH xj ?_);intro v169;exact rd [3,4,5] [1,0,2,3,4,5] (H165 v169 r167 r168)
     have H168 (_:Unit):NN 6 #[Y,Y,Y,Y,Y,Y,Y,Y,Z,Z,Y,Z,Z,Z,Z] [(41,.agg #[I 0,I r13]),(47,I r13),(50,pp b1),(44,.agg #[I 0,I t154]),(46,I t153)] [zb b1 [v2,I r157] 131,zb b16 [I t153,I t154] 89] (zo r_0_b r157 3 (fun (r163,r164)=>zB ([ze.mk 0 r13,ze.mk 0 t154,ze.mk t153 r13]) r163 (fun e165=>k161 (r164,e165.xLo,e165.xHi)))):=by
      refine jK (dp 8 [2,3,4]) (qs:=[(0,I t153),(1,I r13)]) (cells:=[I t153,I r13]) (bqi rfl) yW ?_;refine xr (i:=9) (j:=11) rfl rfl (by kernel_rfl) ?_ ?_
      ·intro o ho;cases ho;refine xe (enc:=zQ) (qs:=[(0,.agg #[I 0,I r13]),(1,.agg #[I 0,I t154]),(2,.agg #[I t153,I r13])]) (cells:=[I 0,I r13,I 0,I t154,I t153,I r13]) ([ze.mk 0 r13,ze.mk 0 t154,ze.mk t153 r13]) zx (by intro ρ h;simp only [List.map_toArray,List.map_cons,List.map_nil,h (.tmp 41) _ rfl,h (.tmp 44) _ rfl,h (.tmp 48) _ rfl]) jH xj ?_;intro v162;exact rd [3,4,5] [0,1,2,3,4,5] (H166 v162)
      ·intro o ho;cases ho;refine ji (vs:=[pp b1,I 3]) (M0:=[zb b1 [v2,I r157] 131]) Tryz.call52 (by intro w m h;exact rf (fun _ _=>(zK z7 zY)) (zD (F:=zX [zb b1 [v2,I r157] 131] w) (r_0_b:=r_0_b) (r_0_p:=r157) (n_1:=3) zm m.given (m.qM 3 hv2) h)) ?_;rintro ⟨r167,r168⟩ _;exact rd [2,3,4] [0,1,2,3,4] (H167 r167 r168)
     have H169 (r170 r171:Int):NN 5 #[Y,Y,Y,Y,Y,Y,Y,Y,Z,Z,Y,Y,Z,Z,Z] [(41,.agg #[I 0,I r13]),(47,I r13),(44,.agg #[I 0,I t154]),(51,I r170),(46,I t153)] [zb b1 [v2,I r171] 131,zb b16 [I t153,I t154] 89] (zB ([ze.mk 0 r13,ze.mk 0 t154,ze.mk t153 r13]) r170 (fun e165=>k161 (r171,e165.xLo,e165.xHi))):=by
      refine jK (dp 8 [2,3,4]) (qs:=[(0,I t153),(1,I r13)]) (cells:=[I t153,I r13]) (bqi rfl) yW ?_;refine d1 9 rfl (xe (enc:=zQ) (qs:=[(0,.agg #[I 0,I r13]),(1,.agg #[I 0,I t154]),(2,.agg #[I t153,I r13])]) (cells:=[I 0,I r13,I 0,I t154,I t153,I r13]) ([ze.mk 0 r13,ze.mk 0 t154,ze.mk t153 r13]) zx (by intro ρ h;simp only [List.map_toArray,List.map_cons,List.map_nil,h (.tmp 41) _ rfl,h (.tmp 44) _ rfl,h (.tmp 48) _ rfl]) jH xj ?_);intro v172;exact rd [3,4,5] [1,0,2,3,4,5] (H165 v172 r170 r171)
     have H170 (r170 r171:Int):NN 6 #[Y,Y,Y,Y,Y,Y,Z,Y,Z,Z,Y,Y,Z,Z,Z] [(41,.agg #[I 0,I r13]),(45,pp b16),(47,I r13),(44,.agg #[I 0,I t154]),(51,I r170)] [zb b1 [v2,I r171] 131,zb b16 [I t153,I t154] 89] (zB ([ze.mk 0 r13,ze.mk 0 t154,ze.mk t153 r13]) r170 (fun e165=>k161 (r171,e165.xLo,e165.xHi))):=by
      refine d1 6 rfl (zn xH (v:=(I t153)) 1 ty3 ?_);exact rd [2,3,4] [0,1,2,3,4] (H169 r170 r171)
     have H171 (_:Unit):NN 8 #[Y,Y,Y,Y,Z,Y,Z,Y,Z,Z,Y,Z,Z,Z,Z] [(41,.agg #[I 0,I r13]),(45,pp b16),(47,I r13),(50,pp b1),(43,I t154)] [zb b1 [v2,I r157] 131,zb b16 [I t153,I t154] 89] (zo r_0_b r157 3 (fun (r163,r164)=>zB ([ze.mk 0 r13,ze.mk 0 t154,ze.mk t153 r13]) r163 (fun e165=>k161 (r164,e165.xLo,e165.xHi)))):=by
      refine jK (dp 4 [2,3,4]) (qs:=[(0,I 0),(1,I t154)]) (cells:=[I 0,I t154]) (bqi rfl) yW ?_;refine xr (i:=6) (j:=11) rfl rfl (by kernel_rfl) ?_ ?_
      ·intro o ho;cases ho;refine zn xH (v:=(I t153)) 1 ty3 ?_;exact rd [2,3,4] [0,1,2,3,4] (H168 ())
      ·intro o ho;cases ho;refine ji (vs:=[pp b1,I 3]) (M0:=[zb b1 [v2,I r157] 131]) Tryz.call52 (by intro w m h;exact rf (fun _ _=>(zK z7 zY)) (zD (F:=zX [zb b1 [v2,I r157] 131] w) (r_0_b:=r_0_b) (r_0_p:=r157) (n_1:=3) zm m.given (m.qM 3 hv2) h)) ?_;rintro ⟨r170,r171⟩ _;exact rd [2,3,4] [0,1,2,3,4] (H170 r170 r171)
     have H172 (_:Unit):NN 6 #[Y,Y,Y,Y,Z,Y,Y,Y,Y,Z,Y,Z,Z,Z,Z] [(41,.agg #[I 0,I r13]),(50,pp b1),(48,.agg #[I t153,I r13]),(43,I t154)] [zb b1 [v2,I r157] 131,zb b16 [I t153,I t154] 89] (zo r_0_b r157 3 (fun (r163,r164)=>zB ([ze.mk 0 r13,ze.mk 0 t154,ze.mk t153 r13]) r163 (fun e165=>k161 (r164,e165.xLo,e165.xHi)))):=by
      refine jK (dp 4 [2,3,4]) (qs:=[(0,I 0),(1,I t154)]) (cells:=[I 0,I t154]) (bqi rfl) yW ?_;refine xr (i:=9) (j:=11) rfl rfl (by kernel_rfl) ?_ ?_
      ·intro o ho;cases ho;refine xe (enc:=zQ) (qs:=[(0,.agg #[I 0,I r13]),(1,.agg #[I 0,I t154]),(2,.agg #[I t153,I r13])]) (cells:=[I 0,I r13,I 0,I t154,I t153,I r13]) ([ze.mk 0 r13,ze.mk 0 t154,ze.mk t153 r13]) zx (by intro ρ h;simp only [List.map_toArray,List.map_cons,List.map_nil,h (.tmp 41) _ rfl,h (.tmp 44) _ rfl,h (.tmp 48) _ rfl]) jH xj ?_;intro v173;exact rd [3,4,5] [0,1,2,3,4,5] (H166 v173)
      ·intro o ho;cases ho;refine ji (vs:=[pp b1,I 3]) (M0:=[zb b1 [v2,I r157] 131]) Tryz.call52 (by intro w m h;exact rf (fun _ _=>(zK z7 zY)) (zD (F:=zX [zb b1 [v2,I r157] 131] w) (r_0_b:=r_0_b) (r_0_p:=r157) (n_1:=3) zm m.given (m.qM 3 hv2) h)) ?_;rintro ⟨r174,r175⟩ _;exact rd [2,3,4] [0,1,2,3,4] (H167 r174 r175)
     have H173 (r176 r177:Int):NN 5 #[Y,Y,Y,Y,Z,Y,Y,Y,Y,Z,Y,Y,Z,Z,Z] [(41,.agg #[I 0,I r13]),(48,.agg #[I t153,I r13]),(51,I r176),(43,I t154)] [zb b1 [v2,I r177] 131,zb b16 [I t153,I t154] 89] (zB ([ze.mk 0 r13,ze.mk 0 t154,ze.mk t153 r13]) r176 (fun e165=>k161 (r177,e165.xLo,e165.xHi))):=by
      refine jK (dp 4 [2,3,4]) (qs:=[(0,I 0),(1,I t154)]) (cells:=[I 0,I t154]) (bqi rfl) yW ?_;refine d1 9 rfl (xe (enc:=zQ) (qs:=[(0,.agg #[I 0,I r13]),(1,.agg #[I 0,I t154]),(2,.agg #[I t153,I r13])]) (cells:=[I 0,I r13,I 0,I t154,I t153,I r13]) ([ze.mk 0 r13,ze.mk 0 t154,ze.mk t153 r13]) zx (by intro ρ h;simp only [List.map_toArray,List.map_cons,List.map_nil,h (.tmp 41) _ rfl,h (.tmp 44) _ rfl,h (.tmp 48) _ rfl]) jH xj ?_);intro v178;exact rd [3,4,5] [1,0,2,3,4,5] (H165 v178 r176 r177)
     have H174 (r176 r177:Int):NN 6 #[Y,Y,Y,Z,Z,Y,Y,Y,Y,Z,Y,Y,Z,Z,Z] [(41,.agg #[I 0,I r13]),(42,.pointer (some ⟨b16,1,none⟩)),(48,.agg #[I t153,I r13]),(51,I r176)] [zb b1 [v2,I r177] 131,zb b16 [I t153,I t154] 89] (zB ([ze.mk 0 r13,ze.mk 0 t154,ze.mk t153 r13]) r176 (fun e165=>k161 (r177,e165.xLo,e165.xHi))):=by
      refine d1 3 rfl (zn xH (v:=(I t154)) 1 ty3 ?_);exact rd [2,3,4] [0,1,2,3,4] (H173 r176 r177)
     have H175 (_:Unit):NN 8 #[Y,Y,Y,Z,Z,Y,Y,Y,Z,Z,Y,Z,Z,Z,Z] [(41,.agg #[I 0,I r13]),(42,.pointer (some ⟨b16,1,none⟩)),(47,I r13),(50,pp b1),(46,I t153)] [zb b1 [v2,I r157] 131,zb b16 [I t153,I t154] 89] (zo r_0_b r157 3 (fun (r163,r164)=>zB ([ze.mk 0 r13,ze.mk 0 t154,ze.mk t153 r13]) r163 (fun e165=>k161 (r164,e165.xLo,e165.xHi)))):=by
      refine jK (dp 8 [2,3,4]) (qs:=[(0,I t153),(1,I r13)]) (cells:=[I t153,I r13]) (bqi rfl) yW ?_;refine xr (i:=3) (j:=11) rfl rfl (by kernel_rfl) ?_ ?_
      ·intro o ho;cases ho;refine zn xH (v:=(I t154)) 1 ty3 ?_;exact rd [2,3,4] [0,1,2,3,4] (H172 ())
      ·intro o ho;cases ho;refine ji (vs:=[pp b1,I 3]) (M0:=[zb b1 [v2,I r157] 131]) Tryz.call52 (by intro w m h;exact rf (fun _ _=>(zK z7 zY)) (zD (F:=zX [zb b1 [v2,I r157] 131] w) (r_0_b:=r_0_b) (r_0_p:=r157) (n_1:=3) zm m.given (m.qM 3 hv2) h)) ?_;rintro ⟨r176,r177⟩ _;exact rd [2,3,4] [0,1,2,3,4] (H174 r176 r177)
     have H176 (r179 r180:Int):NN 7 #[Y,Y,Y,Y,Z,Y,Z,Y,Z,Z,Y,Y,Z,Z,Z] [(41,.agg #[I 0,I r13]),(45,pp b16),(47,I r13),(51,I r179),(43,I t154)] [zb b1 [v2,I r180] 131,zb b16 [I t153,I t154] 89] (zB ([ze.mk 0 r13,ze.mk 0 t154,ze.mk t153 r13]) r179 (fun e165=>k161 (r180,e165.xLo,e165.xHi))):=by
      refine jK (dp 4 [2,3,4]) (qs:=[(0,I 0),(1,I t154)]) (cells:=[I 0,I t154]) (bqi rfl) yW ?_;refine d1 6 rfl (zn xH (v:=(I t153)) 1 ty3 ?_);exact rd [2,3,4] [0,1,2,3,4] (H169 r179 r180)
     have H177 (r179 r180:Int):NN 7 #[Y,Y,Y,Z,Z,Y,Y,Y,Z,Z,Y,Y,Z,Z,Z] [(41,.agg #[I 0,I r13]),(42,.pointer (some ⟨b16,1,none⟩)),(47,I r13),(51,I r179),(46,I t153)] [zb b1 [v2,I r180] 131,zb b16 [I t153,I t154] 89] (zB ([ze.mk 0 r13,ze.mk 0 t154,ze.mk t153 r13]) r179 (fun e165=>k161 (r180,e165.xLo,e165.xHi))):=by
      refine jK (dp 8 [2,3,4]) (qs:=[(0,I t153),(1,I r13)]) (cells:=[I t153,I r13]) (bqi rfl) yW ?_;refine d1 3 rfl (zn xH (v:=(I t154)) 1 ty3 ?_);exact rd [2,3,4] [0,1,2,3,4] (H173 r179 r180)
     have H178 (r179 r180:Int):NN 8 #[Y,Y,Y,Z,Z,Y,Z,Y,Z,Z,Y,Y,Z,Z,Z] [(41,.agg #[I 0,I r13]),(42,.pointer (some ⟨b16,1,none⟩)),(45,pp b16),(47,I r13),(51,I r179)] [zb b1 [v2,I r180] 131,zb b16 [I t153,I t154] 89] (zB ([ze.mk 0 r13,ze.mk 0 t154,ze.mk t153 r13]) r179 (fun e165=>k161 (r180,e165.xLo,e165.xHi))):=by
      refine xr (i:=3) (j:=6) rfl rfl (by kernel_rfl) ?_ ?_
      ·intro o ho;cases ho;refine zn xH (v:=(I t154)) 1 ty3 ?_;exact rd [2,3,4] [0,1,2,3,4] (H176 r179 r180)
      ·intro o ho;cases ho;refine zn xH (v:=(I t153)) 1 ty3 ?_;exact rd [2,3,4] [0,1,2,3,4] (H177 r179 r180)
     refine zu (dp 0 [2,3,4]) ?_;refine jK (dp 1 [2,3,4]) (qs:=[(0,I 0),(1,I r13)]) (cells:=[I 0,I r13]) (bqi rfl) yW ?_;refine zy (dp 2 [2,3,4]) xo ?_;refine zy (dp 5 [2,3,4]) uz ?_;refine zu (dp 7 [2,3,4]) ?_;refine zu (dp 10 [2,3,4]) ?_;refine Uk (i:=3) (j:=6) (l:=11) rfl rfl rfl (by kernel_rfl) ?_ ?_ ?_
     ·intro o ho;cases ho;refine zn xH (v:=(I t154)) 1 ty3 ?_;exact rd [2,3,4] [0,1,2,3,4] (H171 ())
     ·intro o ho;cases ho;refine zn xH (v:=(I t153)) 1 ty3 ?_;exact rd [2,3,4] [0,1,2,3,4] (H175 ())
     ·intro o ho;cases ho;refine ji (vs:=[pp b1,I 3]) (M0:=[zb b1 [v2,I r157] 131]) Tryz.call52 (by intro w m h;exact rf (fun _ _=>(zK z7 zY)) (zD (F:=zX [zb b1 [v2,I r157] 131] w) (r_0_b:=r_0_b) (r_0_p:=r157) (n_1:=3) zm m.given (m.qM 3 hv2) h)) ?_;rintro ⟨r179,r180⟩ _;exact rd [2,3,4] [0,1,2,3,4] (H178 r179 r180)
    ·rintro ⟨t158,t159,t160⟩;refine nxj ?_;exact lj [0,1,2,3,4]
   ·refine jV ?_;exact lj [0,1,2,3,4]
  ·rintro ⟨t241,t242,t243⟩;refine nxj ?_;refine y0 ?_;refine zy st uz ?_;refine zn st (v:=(I t242)) 1 ty3 ?_;refine zy st YS ?_;refine stw (z8 (cs':=[I r7,I t242,I 0,.bool (decide (r9=0))]) 2 ty3 ?_);refine y2 ?_;refine zy st xo ?_;refine zn st (v:=(I t243)) 1 ty3 ?_;refine zy st Xv ?_;refine stw (z8 (cs':=[I r7,I t242,I t243,.bool (decide (r9=0))]) 2 ty3 ?_);refine y1 ?_;refine zV (σ:=(Int×Int×Int×Int)) (fun (t317,t318,t319,t320)=>JJ [(4,pp b5),(5,pp b11)] [zb b1 [v2,I t317] 131,zb b11 [I t318,I t319,I t320,.bool (decide (r9=0))] 165,zb b5 [I 0,I 0,I 0,.bool false] 165,zh w0 F]) ?_ ?_
   ·intro k321;refine y0 ?_;refine mv ?_;refine mv ?_;refine stw (ji (M0:=[zb b1 [v2,I t241] 131]) Tryz.call97 (by intro w m h;exact rf (fun _ _=>(zK z7 zY)) (yI (F:=zX [zb b1 [v2,I t241] 131] w) (r_0_b:=r_0_b) (r_0_p:=t241) (n_1:=n_1) zm m.given (m.qM 3 hv2) h)) ?_);rintro ⟨r245,r246⟩ _;refine y1 ?_;refine zk ?_ ?_
    ·refine y0 ?_;refine mv ?_;refine stw (ji (M0:=[zb b1 [v2,I r246] 131]) Tryz.call52 (by intro w m h;exact rf (fun _ _=>(zK z7 zY)) (zD (F:=zX [zb b1 [v2,I r246] 131] w) (r_0_b:=r_0_b) (r_0_p:=r246) (n_1:=3) zm m.given (m.qM 3 hv2) h)) ?_);rintro ⟨r247,r248⟩ _;refine y26 ?_;refine jS st x6 ?_;refine ma ?_;refine y1 ?_;refine zk ?_ ?_
     ·refine zq ?_;refine stw (xe (enc:=xW) (qs:=[(0,I (-1)),(1,I 4)]) (cells:=[I (-1),I 4]) ([-1,4]) jO (by intro ρ h;simp only [List.map_toArray,List.map_cons,List.map_nil,h (.const (I (-1))) _ rfl,h (.const (I 4)) _ rfl]) Z7 Yb ?_);intro v249;refine mv ?_;refine pk' [1,0,2,3,4,5] ?_;refine stw (ji (M0:=[zb b1 [v2,I r248] 131]) Tryz.call52 (by intro w m h;exact rf (fun _ _=>(zK z7 zY)) (zD (F:=zX [zb b1 [v2,I r248] 131] w) (r_0_b:=r_0_b) (r_0_p:=r248) (n_1:=2) zm m.given (m.qM 4 hv2) h)) ?_);rintro ⟨r251,r252⟩ _;refine zF st 1 zi Z7 ?_;intro e253 h254;refine jD st (enc:=xW) (u:=(I e253)) 1 zi jO h254 ty3 ?_;refine zy st Zl ?_;refine stw (z8 (cs':=[I e253,I t242,I t243,.bool (decide (r9=0))]) 3 ty3 ?_);refine y12 ?_;exact lj [0,3,4,5]
     ·refine y0 ?_;refine jS st x6 ?_;refine ma ?_;refine y1 ?_;refine zk ?_ ?_
      ·refine zq ?_;refine zy st Xv ?_;refine zn st (v:=(I t243)) 2 ty3 ?_;refine zW st ?_;intro t255;refine zy st YS ?_;refine stw (z8 (cs':=[I r7,I t255,I t243,.bool (decide (r9=0))]) 2 ty3 ?_);refine y12 ?_;exact lj [0,2,3,4]
      ·refine zq ?_;refine mv ?_;refine zW st ?_;intro t256;refine zy st Xv ?_;refine stw (z8 (cs':=[I r7,I t242,I t256,.bool (decide (r9=0))]) 2 ty3 ?_);refine y12 ?_;exact lj [0,2,3,4]
    ·refine jV ?_;exact lj [0,2,3,4]
   ·rintro ⟨t317,t318,t319,t320⟩;refine nxj ?_;refine y0 ?_;refine zn st (v:=(.agg #[I t318,I t319,I t320,.bool (decide (r9=0))])) 1 Vt ?_;refine stw (z8 (cs':=[I t318,I t319,I t320,.bool (decide (r9=0))]) 2 Vt ?_);refine y3 ?_;exact jv Tryz.results152 (jk.mk t318 t319 t320 (decide (r9=0)),t317) () (yU 2 rfl rfl Vt rfl) (fun w m=>zU.ofB m [0] rfl)
theorem VV {w0:World} {F:Nat→Prop} {b1:Nat} {v2:Value} {r_0_b:(List UInt8)} {r_0_p n_1:Int} {κ:((List jk)×Int)→Prop} (hF:Fr [zb b1 [v2,(I r_0_p)] 131] F w0) (hg:uC [zb b1 [v2,(I r_0_p)] 131] F w0) (hv2:Sl V4 F w0 v2 r_0_b) (h:Zd r_0_b r_0_p n_1 κ) :
  Calls Tryz.prog 98 #[(pp b1),(I n_1)] w0 (Ret [zb b1 [v2,(I r_0_p)] 131] F w0 κ (fun r (u:Value)=>u) (fun r u=>[zg xT 165 u r.1,zb b1 [v2,(I r.2)] 131])):=by
 refine yP (args:=[pp b1,I n_1]) [zb b1 [v2,I r_0_p] 131] hF hg Tryz.func98 rfl Tryz.ntmps98 rfl h ?_;clear h hF hg;let JJ:=Jn 32 [zb b1 [v2,I r_0_p] 131] F w0;refine y0 ?_;refine stw (jP xT 165 ?_);refine y2 ?_;refine stw (xe (enc:=yR) (qs:=[]) (cells:=[]) ([]:(List jk)) xy (by intro ρ h;simp only [List.map_toArray,List.map_cons,List.map_nil]) UC ZA ?_);intro v6;refine ma ?_;refine y4 ?_;refine mv ?_;refine pk' [2,0,1,3] ?_;refine stw (ji (M0:=[zb b1 [v2,I r_0_p] 131]) Tryz.call52 (by intro w m h;exact rf (fun _ _=>(zK z7 zY)) (zD (F:=zX [zb b1 [v2,I r_0_p] 131] w) (r_0_b:=r_0_b) (r_0_p:=r_0_p) (n_1:=4) zm m.given (m.qM 2 hv2) h)) ?_);rintro ⟨r8,r9⟩ _;refine ma ?_;refine y5 ?_;refine jm (σ:=(Int×(List jk)×Int)) (fun ((t10,xs12,t15):(Int×(List jk)×Int)) (a:Act) (w:World)=>∃ (v11:Value),JJ [(0,pp b1),(1,I n_1),(5,v11),(6,I t15)] [zb b1 [v2,I t10] 131,zh w0 F,zg xT 165 v11 xs12] a w) (jE v6 [0,3,1]) ?_;rintro nx16 ⟨t10,xs12,t15⟩ a w ⟨v11,hE,hm⟩ h;refine jC hE hm h ?_;clear hE hm h;refine y10 ?_;refine mv ?_;refine uk st ?_;refine y1 ?_;refine zk ?_ ?_
 ·refine y22 ?_;refine mv ?_;refine mv ?_;refine stw (ji (M0:=[zb b1 [v2,I t10] 131]) Tryz.call152 (by intro w m h;exact rf (fun _ _=>(zK z7 zY)) (zau (F:=zX [zb b1 [v2,I t10] 131] w) (r_0_b:=r_0_b) (r_0_p:=t10) (n_1:=0) zm m.given (m.qM 0 hv2) h)) ?_);rintro ⟨r17,r18⟩ _;refine stw (xe (enc:=yR) (qs:=[(0,.agg #[I r17.xField,I r17.xLo,I r17.xHi,.bool r17.xNot])]) (cells:=[I r17.xField,I r17.xLo,I r17.xHi,.bool r17.xNot]) ([r17]) xy (by intro ρ h;simp only [List.map_toArray,List.map_cons,List.map_nil,h (.tmp 16) _ rfl]) UC ZA ?_);intro v19;refine stw (xq 3 0 (ur xy zi) UC ZA ?_);intro v21;refine ma ?_;refine y15 ?_;refine mv ?_;refine yO st ?_;intro t23;refine ma ?_;refine zz ?_;exact zO (r18,xs12++([r17]),t23) (jE v21 [1,2,3])
 ·refine y30 ?_;refine zV (σ:=(Int×(List jk))) (fun ((t97,xs99):(Int×(List jk))) (a:Act) (w:World)=>∃ (v98:Value),JJ [(5,v98)] [zb b1 [v2,I t97] 131,zh w0 F,zg xT 165 v98 xs99] a w) ?_ ?_
  ·intro k102;refine y0 ?_;refine mv ?_;refine mv ?_;refine stw (ji (M0:=[zb b1 [v2,I t10] 131]) Tryz.call97 (by intro w m h;exact rf (fun _ _=>(zK z7 zY)) (yI (F:=zX [zb b1 [v2,I t10] 131] w) (r_0_b:=r_0_b) (r_0_p:=t10) (n_1:=n_1) zm m.given (m.qM 0 hv2) h)) ?_);rintro ⟨r24,r25⟩ _;refine y1 ?_;refine zk ?_ ?_
   ·refine y0 ?_;refine mv ?_;refine stw (ji (M0:=[zb b1 [v2,I r25] 131]) Tryz.call52 (by intro w m h;exact rf (fun _ _=>(zK z7 zY)) (zD (F:=zX [zb b1 [v2,I r25] 131] w) (r_0_b:=r_0_b) (r_0_p:=r25) (n_1:=2) zm m.given (m.qM 0 hv2) h)) ?_);rintro ⟨r26,r27⟩ _;refine jS st x6 ?_;refine y1 ?_;refine zk ?_ ?_
    ·refine zq ?_;refine mv ?_;refine mv ?_;refine stw (ji (M0:=[zb b1 [v2,I r27] 131]) Tryz.call152 (by intro w m h;exact rf (fun _ _=>(zK z7 zY)) (zau (F:=zX [zb b1 [v2,I r27] 131] w) (r_0_b:=r_0_b) (r_0_p:=r27) (n_1:=1) zm m.given (m.qM 0 hv2) h)) ?_);rintro ⟨r28,r29⟩ _;refine stw (xe (enc:=yR) (qs:=[(0,.agg #[I r28.xField,I r28.xLo,I r28.xHi,.bool r28.xNot])]) (cells:=[I r28.xField,I r28.xLo,I r28.xHi,.bool r28.xNot]) ([r28]) xy (by intro ρ h;simp only [List.map_toArray,List.map_cons,List.map_nil,h (.tmp 27) _ rfl]) UC ZA ?_);intro v30;refine stw (xq 3 0 (ur xy zi) UC ZA ?_);intro v32;refine ma ?_;refine zz ?_;exact zO (r29,xs12++([r28])) (jE v32 [1,2,3])
    ·refine zq ?_;refine stw (zhL (z:=(jk.mk 0 0 0 false)) xy UC ZA ?_);intro v34 xs35;refine ma ?_;refine zz ?_;exact zO (r27,xs35) (jE v34 [1,2,0])
   ·refine jV ?_;exact zO (r25,xs12) (jE v11 [0,1,2])
  ·rintro ⟨t97,xs99⟩ a w ⟨v98,hE,hm⟩ h;refine jC hE hm h ?_;clear hE hm h;refine y0 ?_;refine mv ?_;refine ma ?_;refine y3 ?_;exact jv Tryz.results98 (xs99,t97) v98 (jx rfl) (fun w m=>zU.ofB m [2,0] rfl)
end
section
open Go.RowKit
theorem zag {w0:World} {F:Nat→Prop} {b1:Nat} {v2:Value} {r_0_b:(List UInt8)} {r_0_p first_1 chains_2 n_3:Int} {κ:(zt×Int)→Prop} (hF:Fr [zb b1 [v2,(I r_0_p)] 131] F w0) (hg:uC [zb b1 [v2,(I r_0_p)] 131] F w0) (hv2:Sl V4 F w0 v2 r_0_b) (h:XL r_0_b r_0_p first_1 chains_2 n_3 κ) :
  Calls Tryz.prog 53 #[(pp b1),(I first_1),(I chains_2),(I n_3)] w0 (Ret [zb b1 [v2,(I r_0_p)] 131] F w0 κ (fun r (u:Value)=>(.agg #[u,(I r.1.xAction),(I r.1.xChain)])) (fun r u=>[zg xT 165 u r.1.xTests,zb b1 [v2,(I r.2)] 131])):=by
 refine yP (args:=[pp b1,I first_1,I chains_2,I n_3]) [zb b1 [v2,I r_0_p] 131] hF hg Tryz.func53 rfl Tryz.ntmps53 rfl h ?_;clear h hF hg;let JJ:=Jn 58 [zb b1 [v2,I r_0_p] 131] F w0;refine y0 ?_;refine stw (jj [S0,I 0,I 0] uV ?_);intro b5;refine y2 ?_;refine mv ?_;refine pk' [1,0,2] ?_;refine stw (ji (M0:=[zb b1 [v2,I r_0_p] 131]) Tryz.call98 (by intro w m h;exact rf (fun _ _=>(zK (xF xy) (zK z7 zY))) (VV (F:=zX [zb b1 [v2,I r_0_p] 131] w) (r_0_b:=r_0_b) (r_0_p:=r_0_p) (n_1:=0) zm m.given (m.qM 1 hv2) h)) ?_);rintro ⟨r7,r10⟩ v8;refine stw (xe (enc:=xW) (qs:=[(0,I 1),(1,I 1),(2,I 2),(3,I 2),(4,I 3),(5,I 3),(6,I 4),(7,I 5)]) (cells:=[I 1,I 1,I 2,I 2,I 3,I 3,I 4,I 5]) ([1,1,2,2,3,3,4,5]) jO (by intro ρ h;simp only [List.map_toArray,List.map_cons,List.map_nil,h (.const (I 1)) _ rfl,h (.const (I 1)) _ rfl,h (.const (I 2)) _ rfl,h (.const (I 2)) _ rfl,h (.const (I 3)) _ rfl,h (.const (I 3)) _ rfl,h (.const (I 4)) _ rfl,h (.const (I 5)) _ rfl]) Z7 Yb ?_);intro v11;refine mv ?_;refine pk' [2,0,1,3,4] ?_;refine stw (ji (M0:=[zb b1 [v2,I r10] 131]) Tryz.call52 (by intro w m h;exact rf (fun _ _=>(zK z7 zY)) (zD (F:=zX [zb b1 [v2,I r10] 131] w) (r_0_b:=r_0_b) (r_0_p:=r10) (n_1:=8) zm m.given (m.qM 3 hv2) h)) ?_);rintro ⟨r13,r14⟩ _;refine zF st 1 zi Z7 ?_;intro e15 h16;refine jD st (enc:=xW) (u:=(I e15)) 1 zi jO h16 ty3 ?_;refine xK 2 rfl ?_;rintro a17 l18 q19 rfl;refine jK st (qs:=[(0,.slice a17 l18 q19),(1,I e15)]) (cells:=[.slice a17 l18 q19,I e15,I 0]) (bqi rfl) zcI ?_;refine stw (jj [S0,I 0,I 0] uV ?_);intro b20;refine stw (z8 (cs':=[.slice a17 l18 q19,I e15,I 0]) 0 U4 ?_);refine y1 ?_;refine zV (σ:=(Int×Int×Int)) (fun (t86,t87,t88)=>JJ [(0,pp b1),(3,I n_3),(8,pp b5),(9,pp b20)] [zb b20 [.slice a17 l18 q19,I t86,I t87] 77,zb b1 [v2,I t88] 131,zg xT 165 (.slice a17 l18 q19) r7,zb b5 [S0,I 0,I 0] 77,zh w0 F]) ?_ ?_
 ·intro k89;refine y0 ?_;refine zy st XQ ?_;refine zn st (v:=(I e15)) 0 ty3 ?_;refine jS st x6 ?_;refine y1 ?_;refine zk ?_ ?_
  ·refine y0 ?_;refine mv ?_;refine mv ?_;refine Uu st ?_;refine y1 ?_;refine zk ?_ ?_
   ·refine zq ?_;refine zy st XQ ?_;refine stw (z8 (cs':=[.slice a17 l18 q19,I 2,I 0]) 0 ty3 ?_);refine zz ?_;exact lj [0,1,3,4,5]
   ·refine zq ?_;refine mv ?_;refine mv ?_;refine mv ?_;refine mv ?_;refine yO st ?_;intro t22;refine pk' [1,0,2,3,4,5] ?_;refine stw (ji (M0:=[zb b1 [v2,I r14] 131]) Tryz.call52 (by intro w m h;exact rf (fun _ _=>(zK z7 zY)) (zD (F:=zX [zb b1 [v2,I r14] 131] w) (r_0_b:=r_0_b) (r_0_p:=r14) (n_1:=t22) zm m.given (m.qM 4 hv2) h)) ?_);rintro ⟨r23,r24⟩ _;refine zW st ?_;intro t25;refine zy st XP ?_;refine stw (z8 (cs':=[.slice a17 l18 q19,I e15,I t25]) 1 ty3 ?_);refine zz ?_;exact lj [1,0,3,4,5]
  ·refine jV ?_;exact lj [0,1,3,4,5]
 ·rintro ⟨t86,t87,t88⟩;refine nxj ?_;refine zV (σ:=(Int×(List jk)×Int×Int)) (fun ((t173,xs175,t178,t179):(Int×(List jk)×Int×Int)) (a:Act) (w:World)=>∃ (v174:Value),JJ [(8,pp b5),(9,pp b20)] [zb b1 [v2,I t173] 131,zb b20 [v174,I t178,I t179] 77,zb b5 [S0,I 0,I 0] 77,zh w0 F,zg xT 165 v174 xs175] a w) ?_ ?_
  ·intro k180;refine y0 ?_;refine mv ?_;refine mv ?_;refine pk' [1,0,2,3,4] ?_;refine stw (ji (M0:=[zb b1 [v2,I t88] 131]) Tryz.call97 (by intro w m h;exact rf (fun _ _=>(zK z7 zY)) (yI (F:=zX [zb b1 [v2,I t88] 131] w) (r_0_b:=r_0_b) (r_0_p:=t88) (n_1:=n_3) zm m.given (m.qM 3 hv2) h)) ?_);rintro ⟨r90,r91⟩ _;refine y1 ?_;refine zk ?_ ?_
   ·refine y0 ?_;refine mv ?_;refine stw (ji (M0:=[zb b1 [v2,I r91] 131]) Tryz.call52 (by intro w m h;exact rf (fun _ _=>(zK z7 zY)) (zD (F:=zX [zb b1 [v2,I r91] 131] w) (r_0_b:=r_0_b) (r_0_p:=r91) (n_1:=3) zm m.given (m.qM 3 hv2) h)) ?_);rintro ⟨r92,r93⟩ _;refine y26 ?_;refine jS st x6 ?_;refine ma ?_;refine y1 ?_;refine zk ?_ ?_
    ·refine zq ?_;refine stw (xe (enc:=xW) (qs:=[(0,I 0),(1,I 6)]) (cells:=[I 0,I 6]) ([0,6]) jO (by intro ρ h;simp only [List.map_toArray,List.map_cons,List.map_nil,h (.const (I 0)) _ rfl,h (.const (I 6)) _ rfl]) Z7 Yb ?_);intro v94;refine mv ?_;refine pk' [1,0,2,3,4,5] ?_;refine stw (ji (M0:=[zb b1 [v2,I r93] 131]) Tryz.call52 (by intro w m h;exact rf (fun _ _=>(zK z7 zY)) (zD (F:=zX [zb b1 [v2,I r93] 131] w) (r_0_b:=r_0_b) (r_0_p:=r93) (n_1:=2) zm m.given (m.qM 4 hv2) h)) ?_);rintro ⟨r96,r97⟩ _;refine zF st 1 zi Z7 ?_;intro e98 h99;refine jD st (enc:=xW) (u:=(I e98)) 1 zi jO h99 ty3 ?_;refine zy st XQ ?_;refine stw (z8 (cs':=[.slice a17 l18 q19,I e98,I t87]) 2 ty3 ?_);refine y12 ?_;exact zO (r97,r7,e98,t87) (jE (.slice a17 l18 q19) [0,2,4,5,3])
    ·refine y0 ?_;refine jS st x6 ?_;refine ma ?_;refine y1 ?_;refine zk ?_ ?_
     ·refine zq ?_;refine stw (xe (enc:=xW) (qs:=[(0,I (-1)),(1,I 5),(2,I 1)]) (cells:=[I (-1),I 5,I 1]) ([-1,5,1]) jO (by intro ρ h;simp only [List.map_toArray,List.map_cons,List.map_nil,h (.const (I (-1))) _ rfl,h (.const (I 5)) _ rfl,h (.const (I 1)) _ rfl]) Z7 Yb ?_);intro v100;refine mv ?_;refine pk' [1,0,2,3,4,5] ?_;refine stw (ji (M0:=[zb b1 [v2,I r93] 131]) Tryz.call52 (by intro w m h;exact rf (fun _ _=>(zK z7 zY)) (zD (F:=zX [zb b1 [v2,I r93] 131] w) (r_0_b:=r_0_b) (r_0_p:=r93) (n_1:=3) zm m.given (m.qM 4 hv2) h)) ?_);rintro ⟨r102,r103⟩ _;refine zF st 1 zi Z7 ?_;intro e104 h105;refine jD st (enc:=xW) (u:=(I e104)) 1 zi jO h105 ty3 ?_;refine zy st XP ?_;refine stw (z8 (cs':=[.slice a17 l18 q19,I t86,I e104]) 2 ty3 ?_);refine y12 ?_;exact zO (r103,r7,t86,e104) (jE (.slice a17 l18 q19) [0,2,4,5,3])
     ·refine zq ?_;refine mv ?_;refine stw (ji (M0:=[zb b1 [v2,I r93] 131]) Tryz.call98 (by intro w m h;exact rf (fun _ _=>(zK (xF xy) (zK z7 zY))) (VV (F:=zX [zb b1 [v2,I r93] 131] w) (r_0_b:=r_0_b) (r_0_p:=r93) (n_1:=1) zm m.given (m.qM 3 hv2) h)) ?_);rintro ⟨r106,r109⟩ v107;refine zy st VQ ?_;refine xK 0 rfl ?_;rintro a110 l111 q112 rfl;refine stw (z8 (cs':=[.slice a110 l111 q112,I t86,I t87]) 2 zgZ ?_);refine y12 ?_;exact zO (r109,r106,t86,t87) (jE (.slice a110 l111 q112) [1,2,4,5,0])
   ·refine jV ?_;exact zO (r91,r7,t86,t87) (jE (.slice a17 l18 q19) [0,1,3,4,2])
  ·rintro ⟨t173,xs175,t178,t179⟩ a w ⟨v174,hE,hm⟩ h;refine jC hE hm h ?_;clear hE hm h;refine y0 ?_;refine zn st (v:=(.agg #[v174,I t178,I t179])) 1 U4 ?_;refine xK 4 rfl ?_;rintro a181 l182 q183 rfl;refine stw (z8 (cs':=[.slice a181 l182 q183,I t178,I t179]) 2 U4 ?_);refine y3 ?_;exact jv Tryz.results53 (zt.mk xs175 t178 t179,t173) (.slice a181 l182 q183) (yU 2 rfl rfl U4 rfl) (fun w m=>zU.ofB m [4,0] rfl)
theorem Ur {w0:World} {F:Nat→Prop} {b1:Nat} {v2:Value} {r_0_b:(List UInt8)} {r_0_p first_1 chains_2 n_3:Int} {κ:((List zt)×Int)→Prop} (hF:Fr [zb b1 [v2,(I r_0_p)] 131] F w0) (hg:uC [zb b1 [v2,(I r_0_p)] 131] F w0) (hv2:Sl V4 F w0 v2 r_0_b) (h:Za r_0_b r_0_p first_1 chains_2 n_3 κ) :
  Calls Tryz.prog 96 #[(pp b1),(I first_1),(I chains_2),(I n_3)] w0 (Ret [zb b1 [v2,(I r_0_p)] 131] F w0 κ (fun r (u:Value×List Nat)=>u.1) (fun r u=>[jp ja 77 u.2 u.1 r.1,zb b1 [v2,(I r.2)] 131])):=by
 refine yP (args:=[pp b1,I first_1,I chains_2,I n_3]) [zb b1 [v2,I r_0_p] 131] hF hg Tryz.func96 rfl Tryz.ntmps96 rfl h ?_;clear h hF hg;let JJ:=Jn 46 [zb b1 [v2,I r_0_p] 131] F w0;refine y0 ?_;refine stw (Xf ja 77 ?_);refine y2 ?_;refine stw (xR (E':=ja) (qs:=[]) (by intro ρ h;simp only [List.map_toArray,List.map_cons,List.map_nil]) ZO uV ?_);intro bb7 v6;refine ma ?_;refine y4 ?_;refine mv ?_;refine pk' [2,0,1,3] ?_;refine stw (ji (M0:=[zb b1 [v2,I r_0_p] 131]) Tryz.call52 (by intro w m h;exact rf (fun _ _=>(zK z7 zY)) (zD (F:=zX [zb b1 [v2,I r_0_p] 131] w) (r_0_b:=r_0_b) (r_0_p:=r_0_p) (n_1:=5) zm m.given (m.qM 2 hv2) h)) ?_);rintro ⟨r9,r10⟩ _;refine ma ?_;refine y5 ?_;refine jm (σ:=(Int×(List zt)×Int)) (fun ((t11,xs13,t17):(Int×(List zt)×Int)) (a:Act) (w:World)=>∃ (v12:Value) (bb15:List Nat),JJ [(0,pp b1),(1,I first_1),(2,I chains_2),(3,I n_3),(9,v12),(10,I t17)] [zb b1 [v2,I t11] 131,zh w0 F,jp ja 77 bb15 v12 xs13] a w) (fun a w hE hm=>⟨v6,bb7,hE.sub g6,hm.pick [0,3,1] rfl⟩) ?_;rintro nx18 ⟨t11,xs13,t17⟩ a w ⟨v12,bb15,hE,hm⟩ h;refine jC hE hm h ?_;clear hE hm h;refine y10 ?_;refine mv ?_;refine uk st ?_;refine y1 ?_;refine zk ?_ ?_
 ·refine y22 ?_;refine mv ?_;refine mv ?_;refine mv ?_;refine mv ?_;refine stw (ji (M0:=[zb b1 [v2,I t11] 131]) Tryz.call53 (by intro w m h;exact rf (fun _ _=>(zK (xF xy) (zK z7 zY))) (zag (F:=zX [zb b1 [v2,I t11] 131] w) (r_0_b:=r_0_b) (r_0_p:=t11) (first_1:=first_1) (chains_2:=chains_2) (n_3:=0) zm m.given (m.qM 0 hv2) h)) ?_);rintro ⟨r19,r22⟩ v20;refine xK 0 rfl ?_;rintro a23 l24 q25 rfl;refine stw (uK (M:=[zg xT 165 (.slice a23 l24 q25) r19.xTests]) (E':=ja) (qs:=[(0,.agg #[.slice a23 l24 q25,I r19.xAction,I r19.xChain])]) (cs:=[.slice a23 l24 q25,I r19.xAction,I r19.xChain]) r19 (xm (yG xy) (fun B w h=>⟨_,rfl,h⟩)) (by intro ρ h;simp only [List.map_toArray,List.map_cons,List.map_nil,h (.tmp 22) _ rfl]) ZO uV ?_);intro bb27 v26;refine pk' [3,0,1,2] ?_;refine stw (yT ZO uV ?_);intro bb30 v29;refine ma ?_;refine y15 ?_;refine mv ?_;refine yO st ?_;intro t32;refine ma ?_;refine zz ?_;exact zO (r22,xs13++([r19]),t32) (fun a w hE hm=>⟨v29,bb30,hE.sub g6,hm.pick [1,2,0] rfl⟩)
 ·refine y30 ?_;refine zV (σ:=(Int×(List zt))) (fun ((t122,xs124):(Int×(List zt))) (a:Act) (w:World)=>∃ (v123:Value) (bb126:List Nat),JJ [(9,v123)] [zb b1 [v2,I t122] 131,zh w0 F,jp ja 77 bb126 v123 xs124] a w) ?_ ?_
  ·intro k128;refine y0 ?_;refine mv ?_;refine mv ?_;refine stw (ji (M0:=[zb b1 [v2,I t11] 131]) Tryz.call97 (by intro w m h;exact rf (fun _ _=>(zK z7 zY)) (yI (F:=zX [zb b1 [v2,I t11] 131] w) (r_0_b:=r_0_b) (r_0_p:=t11) (n_1:=n_3) zm m.given (m.qM 0 hv2) h)) ?_);rintro ⟨r33,r34⟩ _;refine y1 ?_;refine zk ?_ ?_
   ·refine y0 ?_;refine mv ?_;refine stw (ji (M0:=[zb b1 [v2,I r34] 131]) Tryz.call52 (by intro w m h;exact rf (fun _ _=>(zK z7 zY)) (zD (F:=zX [zb b1 [v2,I r34] 131] w) (r_0_b:=r_0_b) (r_0_p:=r34) (n_1:=2) zm m.given (m.qM 0 hv2) h)) ?_);rintro ⟨r35,r36⟩ _;refine jS st x6 ?_;refine y1 ?_;refine zk ?_ ?_
    ·refine zq ?_;refine mv ?_;refine mv ?_;refine mv ?_;refine mv ?_;refine stw (ji (M0:=[zb b1 [v2,I r36] 131]) Tryz.call53 (by intro w m h;exact rf (fun _ _=>(zK (xF xy) (zK z7 zY))) (zag (F:=zX [zb b1 [v2,I r36] 131] w) (r_0_b:=r_0_b) (r_0_p:=r36) (first_1:=first_1) (chains_2:=chains_2) (n_3:=1) zm m.given (m.qM 0 hv2) h)) ?_);rintro ⟨r37,r40⟩ v38;refine xK 0 rfl ?_;rintro a41 l42 q43 rfl;refine stw (uK (M:=[zg xT 165 (.slice a41 l42 q43) r37.xTests]) (E':=ja) (qs:=[(0,.agg #[.slice a41 l42 q43,I r37.xAction,I r37.xChain])]) (cs:=[.slice a41 l42 q43,I r37.xAction,I r37.xChain]) r37 (xm (yG xy) (fun B w h=>⟨_,rfl,h⟩)) (by intro ρ h;simp only [List.map_toArray,List.map_cons,List.map_nil,h (.tmp 35) _ rfl]) ZO uV ?_);intro bb45 v44;refine pk' [3,0,1,2] ?_;refine stw (yT ZO uV ?_);intro bb48 v47;refine ma ?_;refine zz ?_;exact zO (r40,xs13++([r37])) (fun a w hE hm=>⟨v47,bb48,hE.sub g1,hm.pick [1,2,0] rfl⟩)
    ·refine uE ?_;refine jm (σ:=(List zt)) (fun (xs51:(List zt)) (a:Act) (w:World)=>∃ (v50:Value) (bb53:List Nat),JJ [(9,v50)] [zb b1 [v2,I r36] 131,zh w0 F,jp ja 77 bb53 v50 xs51] a w) (fun a w hE hm=>⟨v12,bb15,hE.sub g1,hm.pick [0,1,2] rfl⟩) ?_;rintro nx55 xs51 a w ⟨v50,bb53,hE,hm⟩ h;refine jC hE hm h ?_;clear hE hm h;refine y10 ?_;refine mv ?_;refine zL st ZO 2 xc ?_;refine Zu st ?_;refine y1 ?_;refine zk ?_ ?_
     ·refine y31 ?_;refine mv ?_;refine jK st (qs:=[(1,I 5)]) (cells:=[S0,I 5,I 0]) (bqi rfl) zcI ?_;refine stw (uK (M:=[]) (E':=ja) (qs:=[(0,.agg #[S0,I 5,I 0])]) (cs:=[S0,I 5,I 0]) (zt.mk ([]) 5 0) (XK (fun w=>⟨_,rfl,Dp.nil⟩)) (by intro ρ h;simp only [List.map_toArray,List.map_cons,List.map_nil,h (.tmp 42) _ rfl]) ZO uV ?_);intro bb57 v56;refine pk' [3,0,1,2] ?_;refine stw (yT ZO uV ?_);intro bb60 v59;refine ma ?_;refine y12 ?_;exact zO (xs51++([zt.mk ([]) 5 0])) (fun a w hE hm=>⟨v59,bb60,hE.sub g1,hm.pick [1,2,0] rfl⟩)
     ·refine X4 (u5 (u5 (X6 ?_)));exact zO (r36,xs51) (fun a w hE hm=>⟨v50,bb53,hE.sub g1,hm.pick [0,1,2] rfl⟩)
   ·refine jV ?_;exact zO (r34,xs13) (fun a w hE hm=>⟨v12,bb15,hE.sub g1,hm.pick [0,1,2] rfl⟩)
  ·rintro ⟨t122,xs124⟩ a w ⟨v123,bb126,hE,hm⟩ h;refine jC hE hm h ?_;clear hE hm h;refine y0 ?_;refine mv ?_;refine ma ?_;refine y3 ?_;exact jv Tryz.results96 (xs124,t122) (v123,bb126) (jx rfl) (fun w m=>zU.ofB m [2,0] rfl)
end
end Go.Proofs.YtgpdnnhmndlljaaGreatDoor
