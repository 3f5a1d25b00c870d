import Derived.Test.YtgpdnnhmndlljaaGreatDoorMA1
import Derived.Test.YtgpdnnhmndlljaaGreatDoorMP12
import Derived.Lib.AppendZeros
import Derived.ArgAppend
import Derived.Test.YtgpdnnhmndlljaaGreatDoorRows
import Derived.Test.YtgpdnnhmndlljaaGreatDoorLibS
set_option linter.unusedSimpArgs false
set_option linter.unusedVariables false
set_option linter.unusedSectionVars false
set_option maxHeartbeats 8000000
set_option maxRecDepth 100000
namespace Go.Proofs.YtgpdnnhmndlljaaGreatDoor
section
open Go.RowKit
abbrev I (x:Int):Value:=.int .i64 x
abbrev pp (b:Nat):Value:=.pointer (some ⟨b,0,none⟩)
abbrev S0:Value:=.slice none 0 0
abbrev Y:Bool:=true
abbrev Z:Bool:=false
section
variable {P:Program} {n:Nat} {G D:Nat→Prop} {w0:World} {Q:Exit→Act→World→Prop} {ops:Array Oper} {rest:List Oper} {R:Act→World→Prop} {E E':Env} {L L' Lb:List Ch} {φ:Prop} {k:Nat} {listed:Array Bool}
theorem g1 {α:Type} {a:α}:a=a∧True:=⟨rfl,trivial⟩
theorem g2 {α:Type} {a b:α}:a=a∧b=b∧True:=⟨rfl,g1⟩
theorem g3 {α:Type} {a b c:α}:a=a∧b=b∧c=c∧True:=⟨rfl,g2⟩
theorem g4 {α:Type} {a b c d:α}:a=a∧b=b∧c=c∧d=d∧True:=⟨rfl,g3⟩
theorem g5 {α:Type} {a b c d e:α}:a=a∧b=b∧c=c∧d=d∧e=e∧True:=⟨rfl,g4⟩
theorem g6 {α:Type} {a b c d e f:α}:a=a∧b=b∧c=c∧d=d∧e=e∧f=f∧True:=⟨rfl,g5⟩
theorem rh (l:List Nat) (h:Nx n G D w0 R E' L' φ) (hs:zfm E E':=by repeat (first | exact trivial | refine ⟨rfl,?_⟩)) (hl:XW L l=L':=by rfl) (hn:XX l=true:=by rfl):Nx n G D w0 R E L φ:=by
 subst hl;exact pk l hn (re hs h)
theorem pk' (l:List Nat) (h:Nx n G D w0 R E (XW L l) φ) (hl:XX l=true:=by rfl):Nx n G D w0 R E L φ:=pk l hl h
theorem da (l:List Nat) {K:Act→World→Prop} (h:Nx n G D w0 K E L φ) (hl:XW L l=Lb:=by rfl) (hn:XX l=true:=by rfl):Nx n G D w0 (fun a w=>Mem G D w0 Lb w∧K a w) E L φ:=by
 subst hl;exact xQ (fun w m=>m.pick l hn) h
theorem rd (l1 l2:List Nat) {K:Act→World→Prop} (h:Nx n G D w0 K E' L' φ) (hs:zfm E E':=by repeat (first | exact trivial | refine ⟨rfl,?_⟩)) (hl2:XW L l2=L':=by rfl) (hn2:XX l2=true:=by rfl) (hl:XW L l1=Lb:=by rfl) (hn:XX l1=true:=by rfl):Nx n G D w0 (fun a w=>Mem G D w0 Lb w∧K a w) E L φ:=by
 subst hl;exact xQ (fun w m=>m.pick l1 hn) (rh l2 h hs hl2 hn2)
theorem dp {dst:Option Tmp} {op:Op} {ty:TypeId} {pos:String} {aft:Array Edge} (i:Nat) (l:List Nat) [hQ:PanicOk Q] (hl:XW L l=Lb:=by rfl) (hn:XX l=true:=by rfl) (hi:ops[i]?=some ⟨dst,op,ty,pos,aft,none⟩:=by rfl) (hr:zfF ops listed i=true:=by kernel_rfl) :
  un P n G D w0 E ⟨dst,op,ty,pos,aft,none⟩ (wpAnyH P .any ops Q (Mem G D w0 Lb) (k+1) listed) (wpAnyH P .any ops Q (Mem G D w0 Lb) k (listed.setIfInBounds i true)) Lb L:=by
 subst hl;exact dt i (fun w m=>m.pick l hn) hi hr
theorem dI {dst:Option Tmp} {op:Op} {ty:TypeId} {pos:String} {aft:Array Edge} (i:Nat) [hQ:PanicOk Q] (hi:ops[i]?=some ⟨dst,op,ty,pos,aft,none⟩:=by rfl) (hr:zfF ops listed i=true:=by kernel_rfl) :
  un P n G D w0 E ⟨dst,op,ty,pos,aft,none⟩ (wpAnyH P .any ops Q (Mem G D w0 L) (k+1) listed) (wpAnyH P .any ops Q (Mem G D w0 L) k (listed.setIfInBounds i true)) L L:=dt i (fun _ m=>m) hi hr
theorem dK (i:Nat) {op:Op} {ty:TypeId} {pos:String} {aft:Array Edge} {d:Tmp} {j dj:Nat} {want:Bool} {v:Value} [hQ:PanicOk Q] (h:Nx n G D w0 (wpAnyH P .any ops Q (Mem G D w0 L) k (listed.setIfInBounds i true)) ((d,undef) :: E) L φ)
  (hi:ops[i]?=some ⟨some d,op,ty,pos,aft,some (j,want)⟩:=by rfl) (hr:zfF ops listed i=true:=by kernel_rfl) (hj:(ops[j]?).bind (·.dst)=some dj:=by rfl) (hv:Y6 E dj=some v:=by rfl) (hb:nw v want=true:=by rfl) (hd:Nat.blt d n=true:=by rfl):Nx n G D w0 (wpAnyH P .any ops Q (Mem G D w0 L) (k+1) listed) E L φ :=
 dsk i (fun _ m=>m) hi hr hj hv hb hd h
theorem ss {op:Op} {ty:TypeId} {pos:String} {aft:Array Edge} {d:Tmp} {j dj:Nat} {want:Bool} {v:Value} (h:Nx n G D w0 (wpList P ops Q rest) ((d,undef) :: E) L φ) (hj:(ops[j]?).bind (·.dst)=some dj:=by rfl) (hv:Y6 E dj=some v:=by rfl) (hb:nw v want=true:=by rfl) (hd:Nat.blt d n=true:=by rfl):Nx n G D w0 (wpList P ops Q (⟨some d,op,ty,pos,aft,some (j,want)⟩ :: rest)) E L φ :=
 zms hj hv hb hd h
theorem mv {d:Tmp} {x:Operand} {ty:TypeId} {pos:String} {aft:Array Edge} {v:Value} (h:Nx n G D w0 (wpList P ops Q rest) ((d,v) :: E) L φ) (hx:oev E x=some v:=by rfl) (hd:Nat.blt d n=true:=by rfl):Nx n G D w0 (wpList P ops Q (⟨some d,.move x,ty,pos,aft,none⟩ :: rest)) E L φ:=Yw st hx hd h
theorem ma {d:Tmp} {x:Operand} {ty:TypeId} {pos:String} {aft:Array Edge} {v:Value} (h:Nx n G D w0 (wpList P ops Q rest) ((d,v) :: E) L φ) (hx:oev E x=some v:=by rfl) (hd:Nat.blt d n=true:=by rfl):Nx n G D w0 (wpList P ops Q (⟨some d,.assign x,ty,pos,aft,none⟩ :: rest)) E L φ:=za3 st hx hd h
theorem jI (l:List Nat) (hs:zfm E E':=by repeat (first | exact trivial | refine ⟨rfl,?_⟩)) (hl:XW L l=L':=by rfl) (hn:XX l=true:=by rfl):∀ a w,Has n E a→Mem G D w0 L w→Has n E' a∧Mem G D w0 L' w:=by
 subst hl;exact fun a w hE hm=>⟨hE.sub hs,hm.pick l hn⟩
theorem jE {α:Type} {E':α→Env} {L':α→List Ch} (v:α) (l:List Nat) (hs:zfm E (E' v):=by repeat (first | exact trivial | refine ⟨rfl,?_⟩)) (hl:XW L l=L' v:=by rfl) (hn:XX l=true:=by rfl):∀ a w,Has n E a→Mem G D w0 L w→∃ v,Has n (E' v) a∧Mem G D w0 (L' v) w:=fun a w hE hm=>⟨v,hE.sub hs,hl ▸ hm.pick l hn⟩
theorem lj {σ:Type} {k:σ→Prop} {Rel:σ→Act→World→Prop} {s:σ} (l:List Nat) (hr:∀ a w,Has n E' a→Mem G D w0 L' w→Rel s a w:=by exact fun _ _ x y=>⟨x,y⟩) (hs:zfm E E':=by repeat (first | exact trivial | refine ⟨rfl,?_⟩)) (hl:XW L l=L':=by rfl) (hn:XX l=true:=by rfl):Nx n G D w0 (Exit.then (fun a w=>∃ s,k s∧Rel s a w) Q .normal) E L (k s):=by
 subst hl;exact zN s (fun a w hE hm=>hr a w (hE.sub hs) (hm.pick l hn))
theorem dj {σ:Type} {K:σ→Prop} {Rel:σ→Act→World→Prop} {s:σ} (hQ:∀ s a w,K s→Rel s a w→Q .normal a w) (l:List Nat) (hr:∀ a w,Has n E' a→Mem G D w0 L' w→Rel s a w:=by exact fun _ _ x y=>⟨x,y⟩) (hs:zfm E E':=by repeat (first | exact trivial | refine ⟨rfl,?_⟩)) (hl:XW L l=L':=by rfl) (hn:XX l=true:=by rfl) (hd:Region.ready .any ops listed=[]:=by kernel_rfl):Nx n G D w0 (wpAnyH P .any ops Q (Mem G D w0 Lb) k listed) E L (K s):=by
 subst hl;exact jD hd (fun a w hE hm hφ=>hQ s a w hφ (hr a w (hE.sub hs) (hm.pick l hn)))
end
abbrev Jn (n:Nat) (M0:List Ch) (F:Nat→Prop) (w0:World) (E:Env) (L:List Ch) (a:Act) (w:World):Prop:=Has n E a∧Mem (gB F M0 w0) (uA M0) w0 L w
abbrev Nn (n:Nat) (M0:List Ch) (F:Nat→Prop) (w0:World) (P:Program) (ops:Array Oper) (Q:Exit→Act→World→Prop) (Lb:List Ch) (i:Nat) (l:Array Bool) (E:Env) (L:List Ch) (φ:Prop):Prop :=
 Nx n (gB F M0 w0) (uA M0) w0 (wpAnyH P .any ops Q (Mem (gB F M0 w0) (uA M0) w0 Lb) i l) E L φ
abbrev Fr (M0:List Ch) (F:Nat→Prop) (w0:World):Prop:=∀ b,F b→b<w0.heap.size∧¬ uA M0 b
theorem nxj {n:Nat} {G D:Nat→Prop} {w0:World} {R:Act→World→Prop} {E:Env} {L:List Ch} {φ:Prop} (h:Nx n G D w0 R E L φ):∀ a w,(Has n E a∧Mem G D w0 L w)→φ→R a w:=fun a w x y=>h a w x.1 x.2 y
def bq (E:Env):List (Nat×Operand)→Option (List (Nat×Value))
 | []=>some []
 | (i,x) :: r=>match oev E x,bq E r with
  | some v,some q=>some ((i,v) :: q)
  | _,_=>none
theorem bqi {E:Env}:∀ {l:List (Nat×Operand)} {qs:List (Nat×Value)},bq E l=some qs→∀ ρ:Operand→Value,(∀ x v,oev E x=some v→ρ x=v)→(l.toArray.map fun (i,x)=>(i,ρ x))=qs.toArray
 | [],qs,h,ρ,hρ=>by cases h;simp
 | (i,x) :: r,qs,h,ρ,hρ=>by
  unfold bq at h
  cases e1:oev E x with
  | none=>rw [e1] at h;cases h
  | some v =>
   cases e2:bq E r with
   | none=>rw [e1,e2] at h;cases h
   | some q =>
    rw [e1,e2] at h
    cases h
    have:=bqi e2 ρ hρ
    simp only [List.map_toArray,List.map_cons] at this ⊢
    rw [hρ x v e1,List.toArray_inj this]
section
variable {P:Program} {n:Nat} {G D:Nat→Prop} {w0:World} {E:Env} {L:List Ch}
theorem lu {M0:List Ch} {ρ:Type} {F:Nat→Prop} {fn:Func} {s:Nat} {κ:ρ→Prop} {val:ρ→Unit→Value} {r:ρ} (hres:fn.results=#[.tmp s]) (hs:Y6 E s=some (val r ()):=by rfl):Nx n G (uA M0) w0 (bodyPost P fn (Ret M0 F w0 κ val (fun _ _=>[])) .ret) E L (κ r):=ju hres r () (jq hs) (fun _ _=>zO.nil _ _ _ _)
theorem d1 {dst:Option Tmp} {op:Op} {ty:TypeId} {pos:String} {aft:Array Edge} {ops:Array Oper} {Q:Exit→Act→World→Prop} {Lb:List Ch} {k:Nat} {listed:Array Bool} {φ:Prop} (i:Nat) (hi:ops[i]?=some ⟨dst,op,ty,pos,aft,none⟩)
  (h:Nx n G D w0 (fun a w=>Oper.wp P ⟨dst,op,ty,pos,aft,none⟩ a w (fun a' w'=>Mem G D w0 Lb w'∧wpAnyH P .any ops Q (Mem G D w0 Lb) k (listed.setIfInBounds i true) a' w') Q) E L φ) (hr:Region.ready .any ops listed=[i]:=by kernel_rfl):Nx n G D w0 (wpAnyH P .any ops Q (Mem G D w0 Lb) (k+1) listed) E L φ:=zkO hi hr h
end
theorem eS {P:Program} {n:Nat} {w0:World} {φ:Prop} {F:Nat→Prop} {f:Nat} {fn:Func} {c:Code} {args:List Value} {K:Ending→World→Prop} (hF:Fr [] F w0) (hf:P.funcs[f]?=some fn) (hn:fn.ntmps=n) (hφ:φ) (h:Nx n (gB F [] w0) (uA []) w0 (c.wp P (bodyPost P fn K)) (zaa 0 args) ([]++[zi w0 F]) φ) (hb:fn.body=some c:=by rfl) (hle:Nat.ble args.length n=true:=by rfl):Calls P f args.toArray w0 K :=
 Z9 [] hF (um.nil _ _) hf hb hn hle hφ h
theorem rf {P:Program} {f:Nat} {ar:Array Value} {ρ ν:Type} {M0:List Ch} {F F':Nat→Prop} {w:World} {κ:ρ→Prop} {val:ρ→ν→Value} {N:ρ→ν→List Ch} (hf:∀ r s,∀ c∈N r s,c.free) (h:Calls P f ar w (Ret M0 F w κ val N)):Calls P f ar w (Ret M0 F' w κ val N):=h.mono (fun _ _ k=>ziL hf k)
theorem rf0 {P:Program} {f:Nat} {ar:Array Value} {ρ ν:Type} {M0:List Ch} {F F':Nat→Prop} {w:World} {κ:ρ→Prop} {val:ρ→ν→Value} (h:Calls P f ar w (Ret M0 F w κ val (fun _ _=>[]))):Calls P f ar w (Ret M0 F' w κ val (fun _ _=>[])):=rf (fun _ _=>jw) h
theorem Mem.q {G D:Nat→Prop} {w0 wr:World} {F0:Nat→Prop} {α:Type} {El':El α} {v:Value} {xs:List α} {w:World} {L:List Ch} (m:Mem G D w0 L w) (i:Nat) (S:Sl El' F0 wr v xs) (hi:xB L i=some (zi wr F0):=by rfl):Sl El' (fun b=>b<w.heap.size∧¬ uA [] b) w v xs:=m.rd0 i hi (zd S)
theorem Mem.qM {G D:Nat→Prop} {w0 wr:World} {F0:Nat→Prop} {α:Type} {El':El α} {v:Value} {xs:List α} {w:World} {M0 L':List Ch} (m:Mem G D w0 (M0++L') w) (i:Nat) (S:Sl El' F0 wr v xs) (hi:xB L' i=some (zi wr F0):=by rfl):Sl El' (fun b=>b<w.heap.size∧¬ uA M0 b) w v xs:=m.rdM i hi (zd S)
end
section
open Go.RowKit
section
variable {P:Program} {n:Nat} {G D:Nat→Prop} {w0:World} {Q:Exit→Act→World→Prop} {ops:Array Oper} {rest:List Oper} {R:Act→World→Prop} {E:Env} {L:List Ch} {φ:Prop}
theorem zl {c:Operand} {x y:Code} {t:Bool} {A B:Prop} (hx:Nx n G D w0 (x.wp P Q) E L A) (hy:Nx n G D w0 (y.wp P Q) E L B) (hc:oev E c=some (.bool t):=by rfl):Nx n G D w0 ((Code.cond c x y).wp P Q) E L (ifW t A B) :=
 fun a w hE hm hφ=>wp_cond_split (hE.eval hc) (fun h=>hx a w hE hm (hφ.1 h)) (fun h=>hy a w hE hm (hφ.2 h))
end
section
variable {P:Program} {n:Nat} {G D:Nat→Prop} {w0:World} {Q:Exit→Act→World→Prop} {R:Act→World→Prop} {E:Env} {L Lb:List Ch} {φ:Prop}
variable {dst:Option Tmp} {op:Op} {ty:TypeId} {pos:String} {aft:Array Edge} {ops:Array Oper} {listed:Array Bool} {k:Nat}
end
section
variable {P:Program} {n:Nat} {G D:Nat→Prop} {w0:World} {Q:Exit→Act→World→Prop} {R:Act→World→Prop} {E:Env} {L M:List Ch} {φ:Prop}
variable {d:Tmp} {ty:TypeId} {pos:String} {aft:Array Edge} {gd:Option (Nat×Bool)} {Tk:Act→World→Prop} {Lr:List Ch} {x y:Operand} {T T' S:TypeId} {e sz by':Nat}
end
section
variable {P:Program} {n:Nat} {G D:Nat→Prop} {w0:World} {Q:Exit→Act→World→Prop} {R:Act→World→Prop} {E:Env} {L:List Ch} {φ:Prop}
variable {d:Tmp} {ty:TypeId} {pos:String} {aft:Array Edge} {gd:Option (Nat×Bool)} {Tk:Act→World→Prop} {Lr:List Ch} {x y:Operand} {T T' S:TypeId} {e sz by':Nat}
end
section
variable {P:Program} {n:Nat} {G D:Nat→Prop} {w0:World} {Q:Exit→Act→World→Prop} {R:Act→World→Prop} {E:Env} {L:List Ch} {φ:Prop}
variable {d:Tmp} {ty:TypeId} {pos:String} {aft:Array Edge} {gd:Option (Nat×Bool)} {Tk:Act→World→Prop} {Lr:List Ch} {x y:Operand} {T T':TypeId}
theorem zV (M:un P n G D w0 E ⟨some d,.binOp .add T x y T',ty,pos,aft,gd⟩ Tk R Lr L) {X Y:Int} {κ:Int→Prop} (k:∀ z,Nx n G D w0 R ((d,.int .i64 z) :: E) L (κ z)) (hx:oev E x=some (.int .i64 X):=by rfl) (hy:oev E y=some (.int .i64 Y):=by rfl) (hd:Nat.blt d n=true:=by rfl):Nx n G D w0 Tk E L (jA X Y κ) :=
 M.val (v:=.int .i64 (X+Y)) hd rfl (fun ρ w hE _ hφ=>by
  have h:=hφ.1
  have e:IntKind.i64.wrap (X+Y)=X+Y:=by unfold I64 at h;rw [IntKind.wrap_i64];omega
  simp [execOp,hE _ _ hx,hE _ _ hy,go_sem,e]) (fun h=>h.2) (k _)
theorem zhP (M:un P n G D w0 E ⟨some d,.binOp .add T x y T',ty,pos,aft,gd⟩ Tk R Lr L) {X Y:Int} (k:Nx n G D w0 R ((d,.int .i64 (w64 (X+Y))) :: E) L φ) (hx:oev E x=some (.int .i64 X):=by rfl) (hy:oev E y=some (.int .i64 Y):=by rfl) (hd:Nat.blt d n=true:=by rfl):Nx n G D w0 Tk E L φ :=
 M.val hd rfl (fun ρ w hE _ _=>by simp [execOp,hE _ _ hx,hE _ _ hy,go_sem,w64]) id k
end
section
variable {P:Program} {n:Nat} {G D:Nat→Prop} {w0:World} {Q:Exit→Act→World→Prop} {R:Act→World→Prop} {E:Env} {L:List Ch} {φ:Prop}
variable {d:Tmp} {ty:TypeId} {pos:String} {aft:Array Edge} {gd:Option (Nat×Bool)} {Tk:Act→World→Prop} {Lr:List Ch} {x y:Operand} {T T' S:TypeId}
theorem jn (cs:List Value) (hz:uH P T=some cs) (k:∀ b,Nx n G D w0 R ((d,.pointer (some ⟨b,0,none⟩)) :: E) (zc b cs T :: L) φ) (hd:Nat.blt d n=true:=by rfl):Nx n G D w0 (fun a w=>Oper.wp P ⟨some d,.alloc T,ty,pos,aft,gd⟩ a w R Q) E L φ:=zbr hd cs hz k
end
section
variable {P:Program} {n:Nat} {G D:Nat→Prop} {w0:World} {Q:Exit→Act→World→Prop} {R:Act→World→Prop} {E:Env} {L:List Ch} {φ:Prop}
variable {d:Tmp} {ty:TypeId} {pos:String} {aft:Array Edge} {gd:Option (Nat×Bool)} {Tk:Act→World→Prop} {Lr:List Ch} {x y:Operand} {T T' S:TypeId} {e sz by':Nat}
theorem xU {α:Type} {El':El α} {z:α} {len:Nat} {cs zs:List Value} (hz:∀ F w,El'.cells F w z zs) (hzr:uH P T=some cs) (k:∀ b,Nx n G D w0 R ((d,.pointer (some ⟨b,0,none⟩)) :: E) (ze El' T (.slice (some ⟨b,0,none⟩) len len) (List.replicate len z) :: L) φ) (hd:Nat.blt d n=true:=by rfl) (hcs:(List.replicate len zs).flatten=cs:=by rfl) (hlen:Nat.ble len 65536=true:=by rfl):Nx n G D w0 (fun a w=>Oper.wp P ⟨some d,.alloc T,ty,pos,aft,gd⟩ a w R Q) E L φ :=
 X1 hd rfl fun ρ w hE hm hφ=>by
  unfold uH at hzr
  cases hi:P.info? T with
  | none=>simp [hi] at hzr
  | some i =>
   cases hz':i.zero with
   | none=>simp [hi,hz'] at hzr
   | some zv =>
    simp [hi,hz'] at hzr
    have hlz:zs.length=El'.size:=El'.len _ _ _ _ (hz (fun _=>True) w)
    refine ⟨_,w.alloc (.cells cs.toArray T),_,φ,by simp [execOp,Instr.alloc,zeroValue,typeInfo,hi,hz',newVar,newRow,← hzr],?_,hφ,k w.heap.size⟩
    refine hm.add _ ((Below.refl _ _).alloc (Nat.le_refl _) _) (fun b hb=>by simp [ze,Value.ownBlock] at hb;rw [World.size_alloc];omega) ?_
    have hle:=Nat.le_of_ble_eq_true hlen
    have hown:=zaK (El':=El') (F:=fz G (ze El' T (.slice (some ⟨w.heap.size,0,none⟩) len len) (List.replicate len z) :: L) (w.alloc (.cells cs.toArray T))) (w:=w.alloc (.cells cs.toArray T)) (ty:=T) (b:=w.heap.size) (cap:=len)
     (Rows.replicate (hz _ _) len) (heap_alloc_new w _) (by simp) (by unfold maxLen;omega) (by rw [← hcs];simp [hlz]) (by
      rw [← hcs,List.length_replicate,List.take_of_length_le (by simp [hlz])])
    rw [List.length_replicate] at hown
    exact hown
end
section
variable {P:Program} {n:Nat} {G D:Nat→Prop} {w0:World} {Q:Exit→Act→World→Prop} {R:Act→World→Prop} {E:Env} {L:List Ch} {φ:Prop}
variable {d:Tmp} {ty:TypeId} {pos:String} {aft:Array Edge} {gd:Option (Nat×Bool)} {Tk:Act→World→Prop} {Lr:List Ch} {x y:Operand} {T T' S:TypeId} {e sz by':Nat}
theorem xx {α:Type} {El':El α} {v u:Value} {xs ys:List α} {c:Ch} {κ:List α→Prop} {zs:List Value} (i:Nat) (j:Nat) (hc:Src c El' u ys) (hT:elB P T=some (e,sz,by')) (hzr:uH P e=some zs) (k:∀ v',Nx n G D w0 R ((d,v') :: E) (yE L i (ze El' e v' (xs++ys))) (κ (xs++ys))) (hi:xB L i=some (ze El' e v xs):=by rfl) (hj:xB L j=some c:=by rfl) (hx:oev E x=some v:=by rfl) (hy:oev E y=some u:=by rfl) (hd:Nat.blt d n=true:=by rfl) (hby:Nat.ble by' 32768=true:=by rfl) (hzl:zs.length=sz:=by rfl) (hes:El'.size=sz:=by rfl):Nx n G D w0 (fun a w=>Oper.wp P ⟨some d,.call {callee:=.builtin .append,args:=#[x,y],argTypes:=#[T,T]},ty,pos,aft,gd⟩ a w R Q) E L (jJ xs ys κ):=zkz i j hi hj hc hx hy hd hT hby hzr hzl hes k
end
section
variable {P:Program} {n:Nat} {G D:Nat→Prop} {w0:World} {Q:Exit→Act→World→Prop} {R:Act→World→Prop} {E:Env} {L M:List Ch} {φ:Prop}
variable {d:Tmp} {ty:TypeId} {pos:String} {aft:Array Edge} {gd:Option (Nat×Bool)} {Tk:Act→World→Prop} {Lr:List Ch} {x y:Operand} {T T' S:TypeId} {e sz by':Nat}
theorem Yh {α:Type} {E':DEl α} {v u:Value} {xs ys:List α} {B C:List Nat} {κ:List α→Prop} {zs:List Value} (hT:elB P T=some (e,sz,by')) (hzr:uH P e=some zs) (k:∀ B' v',Nx n G D w0 R ((d,v') :: E) (jH E' e B' v' (xs++ys) :: L) (κ (xs++ys))) (hx:oev E x=some v:=by rfl) (hy:oev E y=some u:=by rfl) (hd:Nat.blt d n=true:=by rfl) (hby:Nat.ble by' 32768=true:=by rfl) (hzl:zs.length=sz:=by rfl) (hes:E'.el.size=sz:=by rfl):Nx n G D w0 (fun a w=>Oper.wp P ⟨some d,.call {callee:=.builtin .append,args:=#[x,y],argTypes:=#[T,T]},ty,pos,aft,gd⟩ a w R Q) E (jH E' e B v xs :: jH E' e C u ys :: L) (jJ xs ys κ) :=
 X1 hd rfl fun ρ w hE hm hφ=>by
  obtain ⟨h0,h1⟩:=hφ
  obtain ⟨hu,inf,hinf,rfl,rfl⟩:=yo hT
  obtain ⟨z',hz',hzc⟩:=Zn hzr hinf
  unfold zdI at h0
  have hbl:=Nat.le_of_ble_eq_true hby
  obtain ⟨bn,css,Bs,hr,how,hB⟩:=hm.hold _ (List.mem_cons_self ..)
  obtain ⟨cn,dss,Cs,hrd,hod,hC⟩:=hm.hold (jH E' e C u ys) (List.mem_cons_of_mem _ (List.mem_cons_self ..))
  have hdis:∀ b,b∈B→b ∉ C:=fun b hb=>(List.pairwise_cons.1 hm.disj).1 _ (List.mem_cons_self ..) b hb
  have hBn:=hB.nodup_iff.1 bn
  have hCn:=hC.nodup_iff.1 cn
  rw [List.nodup_append] at hBn hCn
  have hinB:∀ b,b∈Bs.flatten→b∈B:=fun b hb=>hB.symm.subset (List.mem_append.2 (.inr hb))
  have hinC:∀ b,b∈Cs.flatten→b∈C:=fun b hb=>hC.symm.subset (List.mem_append.2 (.inr hb))
  have hvB:∀ b,v.ownBlock=some b→b∈B:=fun b hb=>hB.symm.subset (List.mem_append.2 (.inl (Zd.2 hb)))
  have hlB:=hr.lt
  have hlC:=hrd.lt
  have hone:=(hrd.rows (F:=fun _=>True) (fun _ _=>trivial)).one
  have hlen:=(hrd.rows (F:=fun _=>True) (fun _ _=>trivial)).length
  rw [hes] at hlen
  have hsrc:∃ a cap,u=.slice a ys.length cap∧((∃ ad,a=some ad∧∀ j q,dss.flatten[j]?=some q→w.cell? (ad.add j)=some q)∨(ys=[]∧a=none)):=by
   rcases hod.2 with ⟨rfl,hn⟩ | ⟨g,cap,cur,rfl,_,hg,_,_,_,ht⟩
   ·have:ys=[]:=List.eq_nil_of_length_eq_zero hn
    subst this
    exact ⟨none,0,rfl,.inr ⟨rfl,rfl⟩⟩
   ·refine ⟨_,cap,rfl,.inl ⟨_,rfl,fun j q hq=>?_⟩⟩
    rw [Addr.add_mid,cell_of_row w g _ cur e (0,0) hg]
    rw [← ht,List.getElem?_take] at hq
    split at hq
    ·simpa using hq
    ·cases hq
  obtain ⟨a,cap,rfl,hsrc⟩:=hsrc
  rcases hsrc with ⟨ad,rfl,hcell⟩ | ⟨rfl,rfl⟩
  ·obtain ⟨v',w',g1,g2,g3,_,g5⟩:=run_append_own_at (P:=P) w 0 T ty e inf z' inf.size inf.bytes hu hinf hz' rfl rfl (by rw [hzc];simpa using hzl) (by rw [← hes];exact E'.el.pos)
    v xs.length css.flatten (by rw [← hes];exact how) ad ys.length cap dss.flatten hlen hcell hone (by unfold maxLen;omega) (by
     have:=Nat.mul_le_mul h0 hbl
     omega) (Nat.zero_le _)
   have hv':∀ b,v'.ownBlock=some b→v.ownBlock=some b∨b=w.heap.size:=fun b hb=>by
    rcases g5 with g5 | g5
    ·exact .inl (by rw [← g5];exact hb)
    ·right;rw [hb] at g5;simpa using g5
   have hkeepB:∀ b,b∈Bs.flatten→w'.heap[b]?=w.heap[b]?:=fun b hb=>g3.block b (hlB b hb) (fun e'=>hBn.2.2 b (Zd.2 e'.symm) b hb rfl)
   have hkeepC:∀ b,b∈Cs.flatten→w'.heap[b]?=w.heap[b]?:=fun b hb=>g3.block b (hlC b hb) (fun e'=>hdis b (hvB b e'.symm) (hinC b hb))
   refine ⟨v',w',_,κ (xs++ys),by simp [execOp,resolve,invoke,builtin,hE _ _ hx,hE _ _ hy,g1],?_,h1,k (zbi v'++(Bs++Cs).flatten) v'⟩
   refine hm.repl (M0:=[jH E' e B v xs,jH E' e C (.slice (some ad) ys.length cap) ys]) (N:=[jH E' e (zbi v'++(Bs++Cs).flatten) v' (xs++ys)])
    ⟨g3.os,g3.tape,g3.output,g3.size,fun b hb hne=>g3.block b hb (fun e'=>hne ⟨_,List.mem_cons_self ..,hvB b e'.symm⟩)⟩ (fun c hc b hb=>?_) (List.pairwise_singleton _ _) (fun c hc F=>?_)
   ·simp only [List.mem_cons,List.not_mem_nil,or_false] at hc
    subst hc
    have hb':b∈zbi v'++(Bs++Cs).flatten:=hb
    rw [List.flatten_append] at hb'
    have hsz:=g3.size
    rcases List.mem_append.1 hb' with hb' | hb'
    ·have hlt:=(g2.lt b (Zd.1 hb')).2
     rcases hv' b (Zd.1 hb') with h | h
     ·exact ⟨.inr ⟨_,List.mem_cons_self ..,hvB b h⟩,hlt⟩
     ·exact ⟨.inl (by omega),hlt⟩
    ·rcases List.mem_append.1 hb' with hb' | hb'
     ·exact ⟨.inr ⟨_,List.mem_cons_self ..,hinB b hb'⟩,by have:=hlB b hb';omega⟩
     ·exact ⟨.inr ⟨_,List.mem_cons_of_mem _ (List.mem_cons_self ..),hinC b hb'⟩,by have:=hlC b hb';omega⟩
   ·simp only [List.mem_cons,List.not_mem_nil,or_false] at hc
    subst hc
    refine ⟨?_,css++dss,Bs++Cs,(hr.keep hkeepB).append (hrd.keep hkeepC),by rw [List.flatten_append,List.length_append,hes];exact g2,List.Perm.refl _⟩
    rw [List.flatten_append,List.nodup_append,List.nodup_append]
    refine ⟨zdM _,⟨hBn.2.1,hCn.2.1,fun b hb c hc e'=>hdis b (hinB b hb) (by rw [e'];exact hinC c hc)⟩,fun b hb c hc e'=>?_⟩
    subst e'
    rcases hv' b (Zd.1 hb) with h | h
    ·rcases List.mem_append.1 hc with hc | hc
     ·exact hBn.2.2 b (Zd.2 h) b hc rfl
     ·exact hdis b (hvB b h) (hinC b hc)
    ·rcases List.mem_append.1 hc with hc | hc
     ·have:=hlB b hc;omega
     ·have:=hlC b hc;omega
  ·have hrun:(Builtin.append_ #[T,T] ty #[v,.slice none 0 cap]).run P w=.ok v w:=by
    rcases how.2 with ⟨rfl,hn0⟩ | ⟨g,cap',cur,rfl,_,_,hnc,_⟩
    ·simp [Builtin.append_,run_underlying hu,sizeOf,typeInfo,hinf,Builtin.lenOf,Builtin.firstCells]
    ·simp [Builtin.append_,run_underlying hu,sizeOf,typeInfo,hinf,Builtin.lenOf,Builtin.firstCells,hnc,storeCells]
   refine ⟨v,w,jH E' e B v xs :: L,κ xs,by simp [execOp,resolve,invoke,builtin,hE _ _ hx,hE _ _ hy,hrun],hm.sub ((List.sublist_cons_self _ _).cons_cons _),by simpa using h1,?_⟩
   have:=k B v
   rwa [List.append_nil] at this
end
section
variable {P:Program} {n:Nat} {G D:Nat→Prop} {w0:World} {Q:Exit→Act→World→Prop} {R:Act→World→Prop} {E:Env} {L:List Ch} {φ:Prop}
variable {d:Tmp} {ty:TypeId} {pos:String} {aft:Array Edge} {gd:Option (Nat×Bool)} {Tk:Act→World→Prop} {Lr:List Ch} {x y:Operand} {T T':TypeId}
theorem xR (M:un P n G D w0 E ⟨some d,.assign x,ty,pos,aft,gd⟩ Tk R Lr L) {v:Value} (k:Nx n G D w0 R ((d,v) :: E) L φ) (hx:oev E x=some v:=by rfl) (hd:Nat.blt d n=true:=by rfl):Nx n G D w0 Tk E L φ:=za3 M hx hd k
end
section
variable {P:Program} {n:Nat} {G D:Nat→Prop} {w0:World} {Q:Exit→Act→World→Prop} {R:Act→World→Prop} {E:Env} {L M:List Ch} {φ:Prop}
variable {d:Tmp} {ty:TypeId} {pos:String} {aft:Array Edge} {gd:Option (Nat×Bool)} {Tk:Act→World→Prop} {Lr:List Ch} {x y:Operand} {T T' S:TypeId} {e sz by':Nat}
theorem Z7 {α:Type} (E':DEl α) (e:TypeId) (k:Nx n G D w0 R ((d,.slice none 0 0) :: E) (jH E' e [] (.slice none 0 0) [] :: L) φ) (hx:oev E x=some (.slice none 0 0):=by rfl) (hd:Nat.blt d n=true:=by rfl):Nx n G D w0 (fun a w=>Oper.wp P ⟨some d,.assign x,ty,pos,aft,gd⟩ a w R Q) E L φ :=
 X1 hd rfl fun ρ w hE hm hφ=>⟨_,w,_,φ,by simp [execOp,hE _ _ hx],zdr E' e hm,hφ,k⟩
end
section
variable {P:Program} {n:Nat} {G D:Nat→Prop} {w0:World} {Q:Exit→Act→World→Prop} {R:Act→World→Prop} {E:Env} {L:List Ch} {φ:Prop}
variable {d:Tmp} {ty:TypeId} {pos:String} {aft:Array Edge} {gd:Option (Nat×Bool)} {Tk:Act→World→Prop} {Lr:List Ch} {x y:Operand} {T T' S:TypeId} {e sz by':Nat}
theorem jT {α:Type} (El':El α) (e:Nat) (k:Nx n G D w0 R ((d,.slice none 0 0) :: E) (ze El' e (.slice none 0 0) [] :: L) φ) (hx:oev E x=some (.slice none 0 0):=by rfl) (hd:Nat.blt d n=true:=by rfl):Nx n G D w0 (fun a w=>Oper.wp P ⟨some d,.assign x,ty,pos,aft,gd⟩ a w R Q) E L φ :=
 X1 hd rfl fun ρ w hE hm hφ=>⟨_,w,_,φ,by simp [execOp,hE _ _ hx],zaE El' e hm,hφ,k⟩
end
section
variable {P:Program} {n:Nat} {G D:Nat→Prop} {w0:World} {Q:Exit→Act→World→Prop} {R:Act→World→Prop} {E:Env} {L:List Ch} {φ:Prop}
variable {d:Tmp} {ty:TypeId} {pos:String} {aft:Array Edge} {gd:Option (Nat×Bool)} {Tk:Act→World→Prop} {Lr:List Ch} {x y:Operand} {T T' S:TypeId}
end
section
variable {P:Program} {n:Nat} {G D:Nat→Prop} {w0:World} {Q:Exit→Act→World→Prop} {R:Act→World→Prop} {E:Env} {L:List Ch} {φ:Prop}
variable {d:Tmp} {ty:TypeId} {pos:String} {aft:Array Edge} {gd:Option (Nat×Bool)} {Tk:Act→World→Prop} {Lr:List Ch} {x y:Operand} {T T' S:TypeId} {e sz by':Nat} {at':Array TypeId}
theorem ziH {b:BinOp} (M:un P n G D w0 E ⟨some d,.binOp b T x y T',ty,pos,aft,gd⟩ Tk R Lr L) {u v:Value} (c:Value) (hr:∀ w,(do eqGuard b T x y u v;binOp b T u v:Sem Value).run P w=.ok c w) (k:Nx n G D w0 R ((d,c) :: E) L φ) (hx:oev E x=some u:=by rfl) (hy:oev E y=some v:=by rfl) (hd:Nat.blt d n=true:=by rfl):Nx n G D w0 Tk E L φ :=
 M.val hd rfl (fun ρ w hE _ _=>by
  have h:=hr w
  simp only [execOp,hE _ _ hx,hE _ _ hy]
  rw [Sem.run_bind,h]
  rfl) id k
end
section
variable {P:Program} {n:Nat} {G D:Nat→Prop} {w0:World} {Q:Exit→Act→World→Prop} {R:Act→World→Prop} {E:Env} {L:List Ch} {φ:Prop}
variable {d:Tmp} {ty:TypeId} {pos:String} {aft:Array Edge} {gd:Option (Nat×Bool)} {Tk:Act→World→Prop} {Lr:List Ch} {x y:Operand} {T T' S:TypeId} {e sz by':Nat}
theorem xy {ps:Array (Nat×Operand)} (M:un P n G D w0 E ⟨some d,.build T ps,ty,pos,aft,gd⟩ Tk R Lr L) {qs:List (Nat×Value)} {cells zs:List Value} {pl:Array (Nat×Nat)} (hq:∀ ρ:Operand→Value,(∀ x v,oev E x=some v→ρ x=v)→(ps.map fun (i,x)=>(i,ρ x))=qs.toArray) (hT:V7 P T=some (pl,zs)) (k:Nx n G D w0 R ((d,.agg cells.toArray) :: E) L φ) (hd:Nat.blt d n=true:=by rfl) (hfill':VY (pl[·]?) zs qs=some cells:=by rfl):Nx n G D w0 Tk E L φ :=
 M.val hd rfl (fun ρ w hE hm _=>by
  have hfill:=zbv _ _ _ _ hfill'
  unfold V7 at hT
  split at hT
  ·rename_i fs zs' hu hz
   cases hp:(fs.toList.mapM fun (f:Field)=>(P.info? f.type).map fun i=>(f.offset,i.size)) with
   | none=>rw [hp] at hT;simp at hT
   | some l =>
    rw [hp] at hT
    simp at hT
    obtain ⟨rfl,rfl⟩:=hT
    have hr:=zeh (w:=w) fs.toList l hp
    cases hi:P.info? T with
    | none=>simp [uH,hi] at hz
    | some i =>
     obtain ⟨z,hz1,hz2⟩:=Zn hz hi
     have hr':(fs.mapM fun f=>(do pure (f.offset,← sizeOf f.type):Sem (Nat×Nat))).run P w=.ok l.toArray w:=by
      have h2:(fs.mapM fun f=>(do pure (f.offset,← sizeOf f.type):Sem (Nat×Nat)))=Functor.map List.toArray (fs.toList.mapM fun f=>(do pure (f.offset,← sizeOf f.type):Sem (Nat×Nat))):=by
       rw [← List.mapM_toArray,Array.toArray_toList]
      rw [h2,map_eq_pure_bind,Sem.run_bind,hr]
      rfl
     have hz3:(zeroValue T).run P w=.ok z w:=by simp [zeroValue,typeInfo,hi,hz1]
     have hb:(Instr.build T qs.toArray).run P w=.ok (.agg cells.toArray) w:=by
      unfold Instr.build
      rw [Sem.run_bind,hz3,Result.andThen_ok,Sem.run_bind,run_underlying hu,Result.andThen_ok]
      simp only
      rw [Sem.run_bind,hr',Result.andThen_ok]
      rw [hz2,hfill]
      rfl
     simp only [execOp,hq ρ hE,Sem.run_bind,hb]
     rfl
  ·simp at hT) id k
end
section
variable {P:Program} {n:Nat} {G D:Nat→Prop} {w0:World} {Q:Exit→Act→World→Prop} {R:Act→World→Prop} {E:Env} {L:List Ch} {φ:Prop}
variable {d:Tmp} {ty:TypeId} {pos:String} {aft:Array Edge} {gd:Option (Nat×Bool)} {Tk:Act→World→Prop} {Lr:List Ch} {x y:Operand} {T T' S:TypeId}
theorem zaN {ps:Array (Nat×Operand)} (M:un P n G D w0 E ⟨some d,.build T ps,ty,pos,aft,gd⟩ Tk R Lr L) {qs:List (Nat×Value)} {cells zs:List Value} {sz:Nat} (hq:∀ ρ:Operand→Value,(∀ x v,oev E x=some v→ρ x=v)→(ps.map fun (i,x)=>(i,ρ x))=qs.toArray) (hT:zkr P T=some (sz,zs)) (k:Nx n G D w0 R ((d,.agg cells.toArray) :: E) L φ) (hd:Nat.blt d n=true:=by rfl) (hfill':VY (fun i=>some (i * sz,sz)) zs qs=some cells:=by rfl):Nx n G D w0 Tk E L φ :=
 M.val hd rfl (fun ρ w hE hm _=>by
  have hfill:=zbv _ _ _ _ hfill'
  unfold zkr at hT
  split at hT
  ·rename_i l e zs' hu hz
   cases he:P.info? e with
   | none=>simp [he] at hT
   | some j =>
    simp [he] at hT
    obtain ⟨rfl,rfl⟩:=hT
    cases hi:P.info? T with
    | none=>simp [uH,hi] at hz
    | some i =>
     obtain ⟨z,hz1,hz2⟩:=Zn hz hi
     have hz3:(zeroValue T).run P w=.ok z w:=by simp [zeroValue,typeInfo,hi,hz1]
     have hb:(Instr.build T qs.toArray).run P w=.ok (.agg cells.toArray) w:=by
      unfold Instr.build
      rw [Sem.run_bind,hz3,Result.andThen_ok,Sem.run_bind,run_underlying hu,Result.andThen_ok]
      simp only
      rw [Sem.run_bind]
      have:(sizeOf e).run P w=.ok j.size w:=by simp [sizeOf,typeInfo,he]
      rw [this,Result.andThen_ok,hz2]
      rw [hfill]
      rfl
     simp only [execOp,hq ρ hE,Sem.run_bind,hb]
     rfl
  ·simp at hT) id k
end
section
variable {P:Program} {n:Nat} {G D:Nat→Prop} {w0:World} {Q:Exit→Act→World→Prop} {R:Act→World→Prop} {E:Env} {L:List Ch} {φ:Prop}
variable {d:Tmp} {ty:TypeId} {pos:String} {aft:Array Edge} {gd:Option (Nat×Bool)} {Tk:Act→World→Prop} {Lr:List Ch} {x y:Operand} {T T' S:TypeId}
theorem xe {v:Value} (cs:List Value) (k:∀ b,Nx n G D w0 R ((d,.pointer (some ⟨b,0,none⟩)) :: E) (zc b cs T :: L) φ) (hx:oev E x=some v:=by rfl) (hd:Nat.blt d n=true:=by rfl) (hcs:v.cells=cs.toArray:=by rfl):Nx n G D w0 (fun a w=>Oper.wp P ⟨some d,.box T x,ty,pos,aft,gd⟩ a w R Q) E L φ :=
 X1 hd rfl fun ρ w hE hm hφ=>⟨_,w.alloc (.cells cs.toArray T),_,φ,by simp [execOp,hE _ _ hx,Instr.box,newVar,newRow,hcs],zeZ hm rfl,hφ,k w.heap.size⟩
end
section
variable {P:Program} {n:Nat} {G D:Nat→Prop} {w0:World} {Q:Exit→Act→World→Prop} {R:Act→World→Prop} {E:Env} {L M:List Ch} {φ:Prop}
variable {d:Tmp} {ty:TypeId} {pos:String} {aft:Array Edge} {gd:Option (Nat×Bool)} {Tk:Act→World→Prop} {Lr:List Ch} {x y:Operand} {T T' S:TypeId} {e sz by':Nat}
theorem Xm {α:Type} {El':El α} {v:Value} {cs:List Value} {len:Nat} (xs:List α) (css:List (List Value)) (hr:∀ w,Mem G D w0 L w→Rows El' (fz G L w) w xs css) (k:∀ b,Nx n G D w0 R ((d,.pointer (some ⟨b,0,none⟩)) :: E) (ze El' T (.slice (some ⟨b,0,none⟩) len len) xs :: L) φ) (hx:oev E x=some v:=by rfl) (hd:Nat.blt d n=true:=by rfl) (hcs:v.cells=cs.toArray:=by rfl) (hfl:css.flatten=cs:=by rfl) (hl:xs.length=len:=by rfl) (hlen:Nat.ble len 65536=true:=by rfl):Nx n G D w0 (fun a w=>Oper.wp P ⟨some d,.box T x,ty,pos,aft,gd⟩ a w R Q) E L φ:=zd5 xs css hr hx hd hcs hfl hl hlen k
end
section
variable {P:Program} {n:Nat} {G D:Nat→Prop} {w0:World} {Q:Exit→Act→World→Prop} {R:Act→World→Prop} {E:Env} {L:List Ch} {φ:Prop}
variable {d:Tmp} {ty:TypeId} {pos:String} {aft:Array Edge} {gd:Option (Nat×Bool)} {Tk:Act→World→Prop} {Lr:List Ch} {x y:Operand} {T T' S:TypeId} {e sz by':Nat}
theorem xT {α:Type} {El':El α} {enc:α→List Value} {len:Nat} {ps:Array (Nat×Operand)} {qs:List (Nat×Value)} {zs cells:List Value} (xs:List α) (hfl:Y9 El' enc) (hq:∀ ρ:Operand→Value,(∀ x v,oev E x=some v→ρ x=v)→(ps.map fun (i,x)=>(i,ρ x))=qs.toArray) (hT:elB P T=some (e,sz,by')) (hzr:uH P e=some zs) (k:∀ v,Nx n G D w0 R ((d,v) :: E) (ze El' e v xs :: L) φ) (hd:Nat.blt d n=true:=by rfl) (hes:El'.size=sz:=by rfl) (hlen:Nat.ble (len * sz) 16777216=true:=by rfl) (hxl:xs.length=len:=by rfl) (hzl:Nat.beq zs.length sz=true:=by rfl) (hfill':VY (fun i=>some (i * sz,sz)) (List.replicate len zs).flatten qs=some cells:=by rfl) (hcells:(xs.map enc).flatten=cells:=by rfl):Nx n G D w0 (fun a w=>Oper.wp P ⟨some d,.buildSlice T len ps,ty,pos,aft,gd⟩ a w R Q) E L φ :=
 X1 hd rfl fun ρ w hE hm hφ=>by
  obtain ⟨hu,i,hi,rfl,rfl⟩:=yo hT
  obtain ⟨z',hz',hzc⟩:=Zn hzr hi
  have hle:=Nat.le_of_ble_eq_true hlen
  have hzl':=Nat.eq_of_beq_eq_true hzl
  have hpos:0<zs.length:=by rw [hzl',← hes];exact El'.pos
  have hmade:(Array.range (len * i.size)).map (zs.toArray[· % zs.toArray.size]!)=(List.replicate len zs).flatten.toArray:=by
   have:=Xn zs len hpos
   rw [hzl'] at this
   unfold madeCells at this
   rw [← this]
  have hfill0:=zbv _ _ _ _ hfill'
  have hfill:Instr.fill (fun j=>some (j * i.size,i.size)) ((Array.range (len * i.size)).map ((if len * i.size=0 then #[] else zs.toArray)[· % (if len * i.size=0 then #[] else zs.toArray).size]!)) qs=some cells.toArray:=by
   by_cases h0:len * i.size=0
   ·have hl0:len=0:=by
     rcases Nat.mul_eq_zero.1 h0 with h | h
     ·exact h
     ·have:=El'.pos;omega
    subst hl0
    simpa [Array.range_zero'] using hfill0
   ·simp only [h0,if_false]
    rw [hmade]
    exact hfill0
  refine ⟨.slice (some ⟨w.heap.size,0,none⟩) len len,w.alloc (.cells cells.toArray e),_,φ,?_,?_,hφ,k _⟩
  ·have hn:¬ (16777216<len * i.size):=by omega
   have hq':=hq ρ hE
   simp only [execOp,Instr.buildSlice,Sem.run_bind,run_underlying hu,Result.andThen_ok,hq']
   by_cases h0:len * i.size=0
   ·simp [h0] at hfill
    simp [sizeOf,typeInfo,hi,h0,newRow,hfill]
   ·simp [h0] at hfill
    simp [sizeOf,typeInfo,hi,h0,hn,zeroValue,hz',hzc,newRow,hfill]
  ·refine hm.add _ ((Below.refl _ _).alloc (Nat.le_refl _) _) (fun b hb=>by simp [ze,Value.ownBlock] at hb;rw [World.size_alloc];omega) ?_
   have hrows:∀ (F:Nat→Prop) (w:World) (xs:List α),Rows El' F w xs (xs.map enc):=by
    intro F w xs
    induction xs with
    | nil=>trivial
    | cons x r ih=>exact ⟨(hfl _ _ _ _).2 rfl,ih⟩
   have hl:=(hrows (fun _=>True) w xs).length
   rw [hcells,hxl] at hl
   subst hxl
   refine zaK (hrows _ _ xs) (heap_alloc_new w _) (Nat.le_refl _) ?_ (by simpa using hl) ?_
   ·have hp:=El'.pos
    have:xs.length≤xs.length * i.size:=Nat.le_mul_of_pos_right _ (by omega)
    unfold maxLen;omega
   ·rw [hcells,← hl,List.take_of_length_le (by simp)]
end
section
variable {P:Program} {n:Nat} {G D:Nat→Prop} {w0:World} {Q:Exit→Act→World→Prop} {R:Act→World→Prop} {E:Env} {L M:List Ch} {φ:Prop}
variable {d:Tmp} {ty:TypeId} {pos:String} {aft:Array Edge} {gd:Option (Nat×Bool)} {Tk:Act→World→Prop} {Lr:List Ch} {x y:Operand} {T T' S:TypeId} {e sz by':Nat}
theorem Xp {α:Type} {E':DEl α} {ps:Array (Nat×Operand)} {qs:List (Nat×Value)} {zs cs:List Value} (y0:α) (hc:zgY M E' y0 cs) (hq:∀ ρ:Operand→Value,(∀ x v,oev E x=some v→ρ x=v)→(ps.map fun (i,x)=>(i,ρ x))=qs.toArray) (hT:elB P T=some (e,sz,by')) (hzr:uH P e=some zs) (k:∀ B v,Nx n G D w0 R ((d,v) :: E) (jH E' e B v [y0] :: L) φ) (hd:Nat.blt d n=true:=by rfl) (hes:E'.el.size=sz:=by rfl) (hlen:Nat.ble (1 * sz) 16777216=true:=by rfl) (hzl:Nat.beq zs.length sz=true:=by rfl) (hfill':VY (fun i=>some (i * sz,sz)) (List.replicate 1 zs).flatten qs=some cs:=by rfl):Nx n G D w0 (fun a w=>Oper.wp P ⟨some d,.buildSlice T 1 ps,ty,pos,aft,gd⟩ a w R Q) E (M++L) φ :=
 X1 hd rfl fun ρ w hE hm hφ=>by
  have hp:=E'.el.pos
  have hrun:=zfE (P:=P) (w:=w) (qs:=qs) hT hzr (by omega) hlen hzl hfill'
  obtain ⟨B,b1,b2,b3⟩:=hc _ w (zgh hm)
  have hlt:=E'.lt _ _ _ _ b2
  have hl:cs.length=sz:=by rw [← hes];exact E'.el.len _ _ _ _ (E'.read _ _ _ _ b2)
  have hle:=Nat.le_of_ble_eq_true hlen
  refine ⟨.slice (some ⟨w.heap.size,0,none⟩) 1 1,w.alloc (.cells cs.toArray e),_,φ,by simp only [execOp,hq ρ hE,Sem.run_bind,hrun];rfl,?_,hφ,k (w.heap.size :: B) _⟩
  refine hm.repl (M0:=M) (N:=[jH E' e (w.heap.size :: B) (.slice (some ⟨w.heap.size,0,none⟩) 1 1) [y0]]) ⟨rfl,rfl,rfl,by rw [World.size_alloc];omega,fun b hb _=>heap_alloc_old w _ hb⟩ (fun c hc b hb=>?_) (List.pairwise_singleton _ _) (fun c hc F=>?_)
  ·simp only [List.mem_cons,List.not_mem_nil,or_false] at hc
   subst hc
   rcases List.mem_cons.1 hb with hb | hb
   ·subst hb;exact ⟨.inl (Nat.le_refl _),by rw [World.size_alloc];omega⟩
   ·exact ⟨.inr (b3 b hb),by have:=hlt b hb;rw [World.size_alloc];omega⟩
  ·simp only [List.mem_cons,List.not_mem_nil,or_false] at hc
   subst hc
   refine ⟨List.nodup_cons.2 ⟨fun h=>by have:=hlt _ h;omega,b1⟩,[cs],[B],yL.one (E'.keep _ _ _ _ _ (fun b hb=>heap_alloc_old w _ (hlt b hb)) b2),⟨by simp [hl,hes],.inr ⟨w.heap.size,1,cs.toArray,rfl,Nat.zero_le _,heap_alloc_new w _,Nat.le_refl _,by decide,by simp [hl,hes],by simp [List.take_of_length_le,hl,hes]⟩⟩,by simp [zbi,Value.ownBlock]⟩
theorem xi {α:Type} {E':DEl α} {qs:List (Nat×Value)} {zs:List Value} {ps:Array (Nat×Operand)} (hq:∀ ρ:Operand→Value,(∀ x v,oev E x=some v→ρ x=v)→(ps.map fun (i,x)=>(i,ρ x))=qs.toArray) (hT:elB P T=some (e,sz,by')) (hzr:uH P e=some zs) (k:∀ B v,Nx n G D w0 R ((d,v) :: E) (jH E' e B v [] :: L) φ) (hd:Nat.blt d n=true:=by rfl) (hes:E'.el.size=sz:=by rfl) (hzl:Nat.beq zs.length sz=true:=by rfl) (hfill':VY (fun i=>some (i * sz,sz)) (List.replicate 0 zs).flatten qs=some []:=by rfl):Nx n G D w0 (fun a w=>Oper.wp P ⟨some d,.buildSlice T 0 ps,ty,pos,aft,gd⟩ a w R Q) E L φ :=
 X1 hd rfl fun ρ w hE hm hφ=>by
  have hp:=E'.el.pos
  have hrun:=zfE (P:=P) (w:=w) (qs:=qs) (len:=0) hT hzr (by omega) (by simp) hzl hfill'
  refine ⟨.slice (some ⟨w.heap.size,0,none⟩) 0 0,w.alloc (.cells ([]:List Value).toArray e),_,φ,by simp only [execOp,hq ρ hE,Sem.run_bind,hrun];rfl,?_,hφ,k [w.heap.size] _⟩
  exact hm.add _ ((Below.refl _ _).alloc (Nat.le_refl _) _) (fun b hb=>by simp [jH] at hb;rw [World.size_alloc];omega) ⟨by simp,[],[],yL.nil,⟨by simp,.inr ⟨w.heap.size,0,#[],rfl,Nat.zero_le _,heap_alloc_new w _,Nat.le_refl _,by decide,by simp,by simp⟩⟩,by simp [zbi,Value.ownBlock]⟩
end
section
variable {P:Program} {n:Nat} {G D:Nat→Prop} {w0:World} {Q:Exit→Act→World→Prop} {R:Act→World→Prop} {E:Env} {L:List Ch} {φ:Prop}
variable {d:Tmp} {ty:TypeId} {pos:String} {aft:Array Edge} {gd:Option (Nat×Bool)} {Tk:Act→World→Prop} {Lr:List Ch} {x y:Operand} {T T' S:TypeId} {e sz by':Nat}
theorem uD {α:Type} {El':El α} {len:Nat} {ps:Array (Nat×Operand)} {qs:List (Nat×Value)} {zs cells:List Value} (xs:List α) (css:List (List Value)) (hc:∀ w,Mem G D w0 L w→Rows El' (fz G L w) w xs css) (hq:∀ ρ:Operand→Value,(∀ x v,oev E x=some v→ρ x=v)→(ps.map fun (i,x)=>(i,ρ x))=qs.toArray) (hT:elB P T=some (e,sz,by')) (hzr:uH P e=some zs) (k:∀ v,Nx n G D w0 R ((d,v) :: E) (ze El' e v xs :: L) φ) (hd:Nat.blt d n=true:=by rfl) (hes:El'.size=sz:=by rfl) (hlen:Nat.ble (len * sz) 16777216=true:=by rfl) (hxl:xs.length=len:=by rfl) (hzl:Nat.beq zs.length sz=true:=by rfl) (hfill':VY (fun i=>some (i * sz,sz)) (List.replicate len zs).flatten qs=some cells:=by rfl) (hcells:css.flatten=cells:=by rfl):Nx n G D w0 (fun a w=>Oper.wp P ⟨some d,.buildSlice T len ps,ty,pos,aft,gd⟩ a w R Q) E L φ:=zjq xs css hc hq hd hT hzr hes hlen hxl hzl hfill' hcells k
end
section
variable {P:Program} {n:Nat} {G D:Nat→Prop} {w0:World} {Q:Exit→Act→World→Prop} {R:Act→World→Prop} {E:Env} {L:List Ch} {φ:Prop}
variable {d:Tmp} {ty:TypeId} {pos:String} {aft:Array Edge} {gd:Option (Nat×Bool)} {Tk:Act→World→Prop} {Lr:List Ch} {x y:Operand} {T T' S:TypeId} {e sz by':Nat}
theorem xE {ρ ν:Type} {f:Nat} {l:List Operand} {at':Array TypeId} {vs:List Value} {κ:ρ→Prop} {val:ρ→ν→Value} {N:ρ→ν→List Ch} {M0 L':List Ch} (hf:∀ args w,(callFunc f args).run P w=.ok (.enter f args) w) (hc:∀ w,Mem G D w0 (M0++L') w→φ→Calls P f vs.toArray w (Ret M0 (fz G (M0++L') w) w κ val N)) (k:∀ r s,Nx n G D w0 R ((d,val r s) :: E) (N r s++L') (κ r)) (hargs:zdv E l=some vs:=by rfl) (hd:Nat.blt d n=true:=by rfl):Nx n G D w0 (fun a w=>Oper.wp P ⟨some d,.call {callee:=.value (.func f),args:=l.toArray,argTypes:=at'},ty,pos,aft,gd⟩ a w R Q) E (M0++L') φ:=zi0 hf hargs hd hc k
theorem zj {ρ ν:Type} {f:Nat} {l:List Operand} {at':Array TypeId} {vs:List Value} {κ:ρ→Prop} {val:ρ→ν→Value} {N:ρ→ν→List Ch} (hf:∀ args w,(callFunc f args).run P w=.ok (.enter f args) w) (hc:∀ w,Mem G D w0 L w→φ→Calls P f vs.toArray w (Ret [] (fz G L w) w κ val N)) (k:∀ r s,Nx n G D w0 R ((d,val r s) :: E) (N r s++L) (κ r)) (hargs:zdv E l=some vs:=by rfl) (hd:Nat.blt d n=true:=by rfl):Nx n G D w0 (fun a w=>Oper.wp P ⟨some d,.call {callee:=.value (.func f),args:=l.toArray,argTypes:=at'},ty,pos,aft,gd⟩ a w R Q) E L φ:=zhz hf hargs hd hc k
end
section
variable {P:Program} {n:Nat} {G D:Nat→Prop} {w0:World} {Q:Exit→Act→World→Prop} {R:Act→World→Prop} {E:Env} {L M:List Ch} {φ:Prop}
variable {d:Tmp} {ty:TypeId} {pos:String} {aft:Array Edge} {gd:Option (Nat×Bool)} {Tk:Act→World→Prop} {Lr:List Ch} {x y:Operand} {T T' S:TypeId} {e sz by':Nat} {dst:Option Tmp} {at':Array TypeId}
theorem Um {o:Oper} {ρ ν:Type} {f:Nat} {vs:List Value} {κ:ρ→Prop} {val:ρ→ν→Value} {N:ρ→ν→List Ch} {M0 L':List Ch} (hr:ziq P E o f vs) (hc:∀ w,Mem G D w0 (M0++L') w→φ→Calls P f vs.toArray w (Ret M0 (fz G (M0++L') w) w κ val N)) (k:∀ r s,Nx n G D w0 R ((d,val r s) :: E) (N r s++L') (κ r)) (ho:o.dst=some d:=by rfl) (hd:Nat.blt d n=true:=by rfl):Nx n G D w0 (fun a w=>Oper.wp P o a w R Q) E (M0++L') φ:=zhw ho hr hd hc k
theorem zcM {o:Oper} {ρ ν:Type} {f:Nat} {vs:List Value} {κ:ρ→Prop} {val:ρ→ν→Value} {N:ρ→ν→List Ch} (hr:ziq P E o f vs) (hc:∀ w,Mem G D w0 L w→φ→Calls P f vs.toArray w (Ret [] (fz G L w) w κ val N)) (k:∀ r s,Nx n G D w0 R ((d,val r s) :: E) (N r s++L) (κ r)) (ho:o.dst=some d:=by rfl) (hd:Nat.blt d n=true:=by rfl):Nx n G D w0 (fun a w=>Oper.wp P o a w R Q) E L φ :=
 zhw (M0:=[]) (L':=L) ho hr hd hc k
end
section
variable {P:Program} {n:Nat} {G D:Nat→Prop} {w0:World} {Q:Exit→Act→World→Prop} {R:Act→World→Prop} {E:Env} {L:List Ch} {φ:Prop}
variable {d:Tmp} {ty:TypeId} {pos:String} {aft:Array Edge} {gd:Option (Nat×Bool)} {Tk:Act→World→Prop} {Lr:List Ch} {x y:Operand} {T T' S:TypeId}
end
section
variable {P:Program} {n:Nat} {G D:Nat→Prop} {w0:World} {Q:Exit→Act→World→Prop} {R:Act→World→Prop} {E:Env} {L:List Ch} {φ:Prop}
variable {d:Tmp} {ty:TypeId} {pos:String} {aft:Array Edge} {gd:Option (Nat×Bool)} {Tk:Act→World→Prop} {Lr:List Ch} {x y:Operand} {T T' S:TypeId} {e sz by':Nat} {at':Array TypeId}
theorem zfe (M:un P n G D w0 E ⟨some d,.convert T T' x,ty,pos,aft,gd⟩ Tk R Lr L) {X:UInt8} (hT:P.underlying T=some (.int .u8)) (hT':P.underlying T'=some (.int .i64)) (k:Nx n G D w0 R ((d,.int .i64 (X.toNat:Int)) :: E) L φ) (hx:oev E x=some (.int .u8 (X.toNat:Int)):=by rfl) (hd:Nat.blt d n=true:=by rfl):Nx n G D w0 Tk E L φ :=
 M.val hd rfl (fun ρ w hE _ _=>by
  have h:=X.toNat_lt
  have e:IntKind.i64.wrap (X.toNat:Int)=(X.toNat:Int):=by rw [IntKind.wrap_i64];omega
  simp [execOp,hE _ _ hx,go_sem,convert,run_underlying hT,run_underlying hT',e]) id k
end
section
variable {P:Program} {n:Nat} {G D:Nat→Prop} {w0:World} {Q:Exit→Act→World→Prop} {R:Act→World→Prop} {E:Env} {L:List Ch} {φ:Prop}
variable {d:Tmp} {ty:TypeId} {pos:String} {aft:Array Edge} {gd:Option (Nat×Bool)} {Tk:Act→World→Prop} {Lr:List Ch} {x y:Operand} {T T' S:TypeId}
end
section
variable {P:Program} {n:Nat} {G D:Nat→Prop} {w0:World} {Q:Exit→Act→World→Prop} {R:Act→World→Prop} {E:Env} {L:List Ch} {φ:Prop}
variable {d:Tmp} {ty:TypeId} {pos:String} {aft:Array Edge} {gd:Option (Nat×Bool)} {Tk:Act→World→Prop} {Lr:List Ch} {x y:Operand} {T T' S:TypeId} {e sz by':Nat} {at':Array TypeId}
end
section
variable {P:Program} {n:Nat} {G D:Nat→Prop} {w0:World} {Q:Exit→Act→World→Prop} {R:Act→World→Prop} {E:Env} {L:List Ch} {φ:Prop}
variable {d:Tmp} {ty:TypeId} {pos:String} {aft:Array Edge} {gd:Option (Nat×Bool)} {Tk:Act→World→Prop} {Lr:List Ch} {x y:Operand} {T T' S:TypeId} {e sz by':Nat}
theorem xm (M:un P n G D w0 E ⟨some d,.binOp .eql T x y T',ty,pos,aft,gd⟩ Tk R Lr L) {X Y:Int} {K:IntKind} (hT:P.underlying T=some (.int K)) (k:Nx n G D w0 R ((d,.bool (decide (X=Y))) :: E) L φ) (hx:oev E x=some (.int K X):=by rfl) (hy:oev E y=some (.int K Y):=by rfl) (hd:Nat.blt d n=true:=by rfl):Nx n G D w0 Tk E L φ:=zkK M hT hx hy hd k
theorem zaM (M:un P n G D w0 E ⟨some d,.binOp .eql T x y T',ty,pos,aft,gd⟩ Tk R Lr L) {X Y:Bool} (hT:P.underlying T=some .bool) (k:Nx n G D w0 R ((d,.bool (decide (X=Y))) :: E) L φ) (hx:oev E x=some (.bool X):=by rfl) (hy:oev E y=some (.bool Y):=by rfl) (hd:Nat.blt d n=true:=by rfl):Nx n G D w0 Tk E L φ :=
 M.val hd rfl (fun ρ w hE _ _=>by cases X <;> cases Y <;> simp [execOp,hE _ _ hx,hE _ _ hy,go_sem,hT,run_underlying hT]) id k
end
section
variable {P:Program} {n:Nat} {G D:Nat→Prop} {w0:World} {Q:Exit→Act→World→Prop} {R:Act→World→Prop} {E:Env} {L M:List Ch} {φ:Prop}
variable {d:Tmp} {ty:TypeId} {pos:String} {aft:Array Edge} {gd:Option (Nat×Bool)} {Tk:Act→World→Prop} {Lr:List Ch} {x y:Operand} {T T' S:TypeId} {e sz by':Nat} {dst:Option Tmp} {at':Array TypeId}
theorem zjY {α:Type} {El':El α} {v:Value} {xs:List α} {c:Ch} {κ:Bool→Prop} {e':TypeId} (i:Nat) (hc:Ys c El' v xs) (hT:P.underlying T=some (.slice e')) (k:∀ z,Nx n G D w0 R ((d,.bool z) :: E) L (κ z)) (hi:xB L i=some c:=by rfl) (hx:oev E x=some v:=by rfl) (hy:oev E y=some (.slice none 0 0):=by rfl) (hd:Nat.blt d n=true:=by rfl):Nx n G D w0 (fun a w=>Oper.wp P ⟨some d,.binOp .eql T x y T',ty,pos,aft,gd⟩ a w R Q) E L (zl8 true xs κ) :=
 X1 hd rfl fun ρ w hE hm hφ=>by
  obtain ⟨a,cap,rfl,hcap,hr⟩:=hc _ _ (hm.get hi)
  refine ⟨.bool a.isNone,w,L,κ a.isNone,?_,hm,?_,k _⟩
  ·simp [execOp,hE _ _ hx,hE _ _ hy,go_sem,hT,run_underlying hT,binOp,zh7 hT]
  ·cases xs with
   | nil=>cases a with
    | none=>exact (hφ.2 rfl).1
    | some a=>exact (hφ.2 rfl).2
   | cons x0 r =>
    obtain ⟨b,off,rfl,_⟩:=hr (by simp)
    exact hφ.1 (by simp)
end
section
variable {P:Program} {n:Nat} {G D:Nat→Prop} {w0:World} {Q:Exit→Act→World→Prop} {R:Act→World→Prop} {E:Env} {L:List Ch} {φ:Prop}
variable {d:Tmp} {ty:TypeId} {pos:String} {aft:Array Edge} {gd:Option (Nat×Bool)} {Tk:Act→World→Prop} {Lr:List Ch} {x y:Operand} {T T' S:TypeId}
end
section
variable {P:Program} {n:Nat} {G D:Nat→Prop} {w0:World} {Q:Exit→Act→World→Prop} {R:Act→World→Prop} {E:Env} {L:List Ch} {φ:Prop}
variable {d:Tmp} {ty:TypeId} {pos:String} {aft:Array Edge} {gd:Option (Nat×Bool)} {Tk:Act→World→Prop} {Lr:List Ch} {x y:Operand} {T T' S:TypeId}
theorem jj {k':Nat} (M:un P n G D w0 E ⟨some d,.extract x k',ty,pos,aft,gd⟩ Tk R Lr L) {vs:List Value} {v:Value} (k:Nx n G D w0 R ((d,v) :: E) L φ) (hx:oev E x=some (.tuple vs.toArray):=by rfl) (hd:Nat.blt d n=true:=by rfl) (hv:vs[k']?=some v:=by rfl):Nx n G D w0 Tk E L φ :=
 M.val hd rfl (fun ρ w hE hm _=>by simp [execOp,hE _ _ hx,Instr.extract,hv]) id k
theorem zw {k':Nat} (M:un P n G D w0 E ⟨some d,.fieldAddr S x k',ty,pos,aft,gd⟩ Tk R Lr L) {b o off sz:Nat} {row:Bool} (hS:ZT P S k'=some (off,row,sz)) (k:Nx n G D w0 R ((d,.pointer (some ⟨b,o+off,none⟩)) :: E) L φ) (hx:oev E x=some (.pointer (some ⟨b,o,none⟩)):=by rfl) (hd:Nat.blt d n=true:=by rfl) (hp:Nat.beq sz 0=false:=by rfl):Nx n G D w0 Tk E L φ :=
 M.val hd rfl (fun ρ w hE hm _=>by
  have:=zgn (P:=P) (w:=w) (a:=⟨b,o,none⟩) hS hp
  rw [Addr.add_mid] at this
  simp [execOp,hE _ _ hx,this]) id k
theorem jy {k':Nat} (M:un P n G D w0 E ⟨some d,.fieldAddr S x k',ty,pos,aft,gd⟩ Tk R Lr L) {α:Type} {El':El α} {v:Value} {xs:List α} {c:Ch} {I:Int} {z:α} {o off sz fs:Nat} {row:Bool} (i:Nat) (hc:Ys c El' v xs) (hz:xs[I.toNat]?=some z) (hS:ZT P S k'=some (off,row,fs)) (k:Nx n G D w0 R ((d,pEl v I sz (o+off)) :: E) L φ) (hi:xB Lr i=some c:=by rfl) (hx:oev E x=some (pEl v I sz o):=by rfl) (hd:Nat.blt d n=true:=by rfl) (hp:Nat.beq fs 0=false:=by rfl):Nx n G D w0 Tk E L φ :=
 M.val hd rfl (fun ρ w hE hm _=>by
  obtain ⟨b,off',cap,cs,rfl,_,_⟩:=(hc _ _ (hm.get hi)).at hz
  rw [yX] at hx ⊢
  have:=zgn (P:=P) (w:=w) (a:=⟨b,off'+I.toNat * sz+o,none⟩) hS hp
  rw [Addr.add_mid] at this
  simp [execOp,hE _ _ hx,this]) id k
end
section
variable {P:Program} {n:Nat} {G D:Nat→Prop} {w0:World} {Q:Exit→Act→World→Prop} {R:Act→World→Prop} {E:Env} {L:List Ch} {φ:Prop}
variable {d:Tmp} {ty:TypeId} {pos:String} {aft:Array Edge} {gd:Option (Nat×Bool)} {Tk:Act→World→Prop} {Lr:List Ch} {x y:Operand} {T T':TypeId}
theorem Ve (M:un P n G D w0 E ⟨some d,.binOp .geq T x y T',ty,pos,aft,gd⟩ Tk R Lr L) {X Y:Int} {K:IntKind} (k:Nx n G D w0 R ((d,.bool (decide (Y≤X))) :: E) L φ) (hx:oev E x=some (.int K X):=by rfl) (hy:oev E y=some (.int K Y):=by rfl) (hd:Nat.blt d n=true:=by rfl):Nx n G D w0 Tk E L φ :=
 M.val hd rfl (fun ρ w hE _ hφ=>by simp [execOp,hE _ _ hx,hE _ _ hy,go_sem]) id k
theorem uG (M:un P n G D w0 E ⟨some d,.binOp .gtr T x y T',ty,pos,aft,gd⟩ Tk R Lr L) {X Y:Int} {K:IntKind} (k:Nx n G D w0 R ((d,.bool (decide (Y<X))) :: E) L φ) (hx:oev E x=some (.int K X):=by rfl) (hy:oev E y=some (.int K Y):=by rfl) (hd:Nat.blt d n=true:=by rfl):Nx n G D w0 Tk E L φ:=zkQ M hx hy hd k
end
section
variable {P:Program} {n:Nat} {G D:Nat→Prop} {w0:World} {Q:Exit→Act→World→Prop} {R:Act→World→Prop} {E:Env} {L:List Ch} {φ:Prop}
variable {d:Tmp} {ty:TypeId} {pos:String} {aft:Array Edge} {gd:Option (Nat×Bool)} {Tk:Act→World→Prop} {Lr:List Ch} {x y:Operand} {T T' S:TypeId}
theorem zJ (M:un P n G D w0 E ⟨some d,.indexAddr T x y,ty,pos,aft,gd⟩ Tk R Lr L) {α:Type} {El':El α} {v:Value} {xs:List α} {c:Ch} {I:Int} {κ:α→Prop} {e sz by':Nat} (i:Nat) (hc:Ys c El' v xs) (hT:elB P T=some (e,sz,by')) (k:∀ z,xs[I.toNat]?=some z→Nx n G D w0 R ((d,pEl v I sz 0) :: E) L (κ z)) (hi:xB Lr i=some c:=by rfl) (hx:oev E x=some v:=by rfl) (hy:oev E y=some (.int .i64 I):=by rfl) (hd:Nat.blt d n=true:=by rfl):Nx n G D w0 Tk E L (zK xs I κ) :=
 M.val (v:=pEl v I sz 0) (ψ:=zK xs I κ) hd rfl (fun ρ w hE hm hφ=>by
  obtain ⟨z,h0,h1,h2⟩:=hφ
  obtain ⟨b,off,cap,cs,rfl,_,_⟩:=(hc _ _ (hm.get hi)).at h1
  have hlt:=(List.getElem?_eq_some_iff.1 h1).1
  unfold elB at hT
  split at hT
  ·rename_i e' hu
   split at hT
   ·rename_i inf hi'
    simp at hT
    obtain ⟨rfl,rfl,rfl⟩:=hT
    have h5:I<xs.length:=by omega
    rw [yX]
    simp [execOp,hE _ _ hx,hE _ _ hy,Instr.indexAt,asIntOf,run_underlying hu,sizeOf,typeInfo,hi',h0,h5,Addr.add_mid]
   ·simp at hT
  ·simp at hT) id (fun a w hE hm ⟨z,_,h1,h2⟩=>k z h1 a w hE hm h2)
end
section
variable {P:Program} {n:Nat} {G D:Nat→Prop} {w0:World} {Q:Exit→Act→World→Prop} {R:Act→World→Prop} {E:Env} {L M:List Ch} {φ:Prop}
variable {d:Tmp} {ty:TypeId} {pos:String} {aft:Array Edge} {gd:Option (Nat×Bool)} {Tk:Act→World→Prop} {Lr:List Ch} {x y:Operand} {T T' S:TypeId}
end
section
variable {P:Program} {n:Nat} {G D:Nat→Prop} {w0:World} {Q:Exit→Act→World→Prop} {R:Act→World→Prop} {E:Env} {L M:List Ch} {φ:Prop}
variable {d:Tmp} {ty:TypeId} {pos:String} {aft:Array Edge} {gd:Option (Nat×Bool)} {Tk:Act→World→Prop} {Lr:List Ch} {x y:Operand} {T T' S:TypeId} {e sz by':Nat} {dst:Option Tmp} {at':Array TypeId}
theorem zlL {α:Type} {El':El α} {vs:List Value} {xs:List (List α)} {I:Int} {κ:List α→Prop} {len e':Nat} (M:un P n G D w0 E ⟨some d,.index T x y,ty,pos,aft,gd⟩ Tk R Lr L) (hfa:∀ w,Mem G D w0 L w→zeT El' (fz G L w) w vs xs) (hT:zev P T=some (len,e',false,1)) (k:∀ v z,xs[I.toNat]?=some z→Nx n G D w0 R ((d,v) :: E) (jP El' v z :: L) (κ z)) (hx:oev E x=some (.agg vs.toArray):=by rfl) (hy:oev E y=some (.int .i64 I):=by rfl) (hd:Nat.blt d n=true:=by rfl) (hl:xs.length=len:=by rfl):Nx n G D w0 Tk E L (zK xs I κ):=fun a w hE hm hφ=>by
 refine (M.val (v:=zgz vs I) (φ:=zK xs I κ) (ψ:=zK xs I κ) hd rfl (fun ρ w hE hm hφ=>?_) id (fun a' w' hE' hm' hφ'=>?_)) a w hE hm hφ
 ·obtain ⟨z,h0,h1,h2⟩:=hφ
  have hlt:=(List.getElem?_eq_some_iff.1 h1).1
  obtain ⟨hu',ht⟩:=zg0 hT
  obtain ⟨i,hq,hi⟩:=zdm ht
  have h5:I<len:=by omega
  have hvl:vs.length=xs.length:=by
   have key:∀ {vs:List Value} {xs:List (List α)} {F:Nat→Prop} {w:World},zeT El' F w vs xs→vs.length=xs.length:=by
    intro vs
    induction vs with
    | nil=>intro xs F w h;cases xs with
     | nil=>rfl
     | cons _ _=>exact h.elim
    | cons v vs ih=>intro xs F w h;cases xs with
     | nil=>exact h.elim
     | cons x xs=>simp [ih h.2]
   exact key (hfa _ (by assumption))
  have hv:ldv false (I.toNat * 1) 1 vs=some (zgz vs I):=by
   have:I.toNat<vs.length:=by omega
   simp [ldv,zgz,this]
  have hr:=zeK (P:=P) (w:=w) ht hv
  simp at hr
  simp [execOp,hE _ _ hx,hE _ _ hy,Instr.index,asIntOf,run_underlying hu',sizeOf,typeInfo,hq,hi,h0,h5,hr]
 ·obtain ⟨z,h0,h1,h2⟩:=hφ'
  obtain ⟨v,hv,hs⟩:=(hfa w' hm').get h1
  have hp:zgz vs I=v:=by simp [zgz,hv]
  rw [hp] at hE'
  exact k v z h1 a' w' hE' (hm'.note (fun b hb=>hb) hs) h2
end
section
variable {P:Program} {n:Nat} {G D:Nat→Prop} {w0:World} {Q:Exit→Act→World→Prop} {R:Act→World→Prop} {E:Env} {L:List Ch} {φ:Prop}
variable {d:Tmp} {ty:TypeId} {pos:String} {aft:Array Edge} {gd:Option (Nat×Bool)} {Tk:Act→World→Prop} {Lr:List Ch} {x y:Operand} {T T' S:TypeId}
theorem xz (M:un P n G D w0 E ⟨some d,.indexAddr T x y,ty,pos,aft,gd⟩ Tk R Lr L) {α:Type} {El':El α} {b o cap:Nat} {xs:List α} {c:Ch} {I:Int} {κ:α→Prop} {len e sz:Nat} {row:Bool} (i:Nat) (hc:Ys c El' (.slice (some ⟨b,o,none⟩) len cap) xs) (hT:zev P T=some (len,e,row,sz)) (k:∀ z,xs[I.toNat]?=some z→Nx n G D w0 R ((d,pEl (.slice (some ⟨b,o,none⟩) len cap) I sz 0) :: E) L (κ z)) (hi:xB Lr i=some c:=by rfl) (hx:oev E x=some (.pointer (some ⟨b,o,none⟩)):=by rfl) (hy:oev E y=some (.int .i64 I):=by rfl) (hd:Nat.blt d n=true:=by rfl):Nx n G D w0 Tk E L (zK xs I κ) :=
 M.val (v:=pEl (.slice (some ⟨b,o,none⟩) len cap) I sz 0) (ψ:=zK xs I κ) hd rfl (fun ρ w hE hm hφ=>by
  obtain ⟨z,h0,h1,h2⟩:=hφ
  obtain ⟨a',cap',he,_⟩:=hc _ _ (hm.get hi)
  have hln:xs.length=len:=by simp at he;exact he.2.1.symm
  have hlt:=(List.getElem?_eq_some_iff.1 h1).1
  obtain ⟨hu',ht⟩:=zg0 hT
  obtain ⟨i,hq,hi⟩:=zdm ht
  have h5:I<len:=by omega
  rw [yX]
  simp [execOp,hE _ _ hx,hE _ _ hy,Instr.indexAt,Instr.sureAddr,asIntOf,run_underlying hu',sizeOf,typeInfo,hq,hi,h0,h5,Addr.add_mid]) id (fun a w hE hm ⟨z,_,h1,h2⟩=>k z h1 a w hE hm h2)
end
section
variable {P:Program} {n:Nat} {G D:Nat→Prop} {w0:World} {Q:Exit→Act→World→Prop} {R:Act→World→Prop} {E:Env} {L:List Ch} {φ:Prop}
variable {d:Tmp} {ty:TypeId} {pos:String} {aft:Array Edge} {gd:Option (Nat×Bool)} {Tk:Act→World→Prop} {Lr:List Ch} {x y:Operand} {T T' S:TypeId}
end
section
variable {P:Program} {n:Nat} {G D:Nat→Prop} {w0:World} {Q:Exit→Act→World→Prop} {R:Act→World→Prop} {E:Env} {L:List Ch} {φ:Prop}
variable {d:Tmp} {ty:TypeId} {pos:String} {aft:Array Edge} {gd:Option (Nat×Bool)} {Tk:Act→World→Prop} {Lr:List Ch} {x y:Operand} {T T' S:TypeId}
theorem zgU (M:un P n G D w0 E ⟨some d,.index T x y,ty,pos,aft,gd⟩ Tk R Lr L) {α:Type} {enc:α→List Value} {zs:List α} {cs:List Value} {I:Int} {κ:α→Prop} {u:α→Value} {len e sz:Nat} {row:Bool} (hT:zev P T=some (len,e,row,sz)) (he:∀ z,(enc z).length=sz) (hu:∀ z,ldv row 0 sz (enc z)=some (u z)) (k:∀ z,Nx n G D w0 R ((d,u z) :: E) L (κ z)) (hx:oev E x=some (.agg cs.toArray):=by rfl) (hy:oev E y=some (.int .i64 I):=by rfl) (hd:Nat.blt d n=true:=by rfl) (hcs:zs.flatMap enc=cs:=by rfl) (hl:zs.length=len:=by rfl):Nx n G D w0 Tk E L (zK zs I κ):=fun a w hE hm hφ=>by
 obtain ⟨z,h0,h1,h2⟩:=hφ
 refine (M.val (v:=u z) (φ:=κ z) (ψ:=κ z) hd rfl (fun ρ w hE hm hφ=>?_) id (k z)) a w hE hm h2
 obtain ⟨hu',ht⟩:=zg0 hT
 obtain ⟨i,hq,hi⟩:=zdm ht
 have hlt:=(List.getElem?_eq_some_iff.1 h1).1
 have h5:I<len:=by omega
 have hr:=zeK (P:=P) (w:=w) ht (zgG he zs _ _ h1 row _ (hu z))
 rw [hcs] at hr
 simp [execOp,hE _ _ hx,hE _ _ hy,Instr.index,asIntOf,run_underlying hu',sizeOf,typeInfo,hq,hi,h0,h5,hr]
end
section
variable {P:Program} {n:Nat} {G D:Nat→Prop} {w0:World} {Q:Exit→Act→World→Prop} {R:Act→World→Prop} {E:Env} {L M:List Ch} {φ:Prop}
variable {d:Tmp} {ty:TypeId} {pos:String} {aft:Array Edge} {gd:Option (Nat×Bool)} {Tk:Act→World→Prop} {Lr:List Ch} {x y:Operand} {T T' S:TypeId} {e sz by':Nat}
theorem zi4 {α:Type} {El':El α} {enc:α→List Value} {b len cap fs:Nat} {xs:List α} {c:Ch} {u:List Value} (M:un P n G D w0 E ⟨some d,.load T x,ty,pos,aft,gd⟩ Tk R Lr L) (i:Nat) (hc:Ys c El' (.slice (some ⟨b,0,none⟩) len cap) xs) (hfl:Y9 El' enc) (hT:tyB P T=some (true,fs)) (k:Nx n G D w0 R ((d,.agg u.toArray) :: E) L φ) (hi:xB Lr i=some c:=by rfl) (hx:oev E x=some (.pointer (some ⟨b,0,none⟩)):=by rfl) (hd:Nat.blt d n=true:=by rfl) (hu:(xs.map enc).flatten=u:=by rfl) (hl:Nat.beq u.length fs=true:=by rfl):Nx n G D w0 Tk E L φ :=
 M.val hd rfl (fun ρ w hE hm _=>by
  obtain ⟨css,h1,h2⟩:=zhq (uK hfl hc _ _ (hm.get hi))
  rw [zeV hfl h1,hu] at h2
  have hv:ldv true 0 fs u=some (.agg u.toArray):=by
   have:=Nat.eq_of_beq_eq_true hl
   simp [ldv,← this]
  have:=U0 (P:=P) hT h2 hv
  rw [Nat.add_zero] at this
  simp [execOp,hE _ _ hx,this]) id k
theorem xv {α:Type} {El':El α} {b len cap fs:Nat} {xs:List α} {c:Ch} (i:Nat) (hc:Src c El' (.slice (some ⟨b,0,none⟩) len cap) xs) (hT:tyB P T=some (true,fs)) (k:∀ wr F0 css,Rows El' F0 wr xs css→∃ u:List Value,css.flatten=u∧Nx n G D w0 R ((d,.agg u.toArray) :: E) (zi wr F0 :: L) φ) (hi:xB L i=some c:=by rfl) (hx:oev E x=some (.pointer (some ⟨b,0,none⟩)):=by rfl) (hd:Nat.blt d n=true:=by rfl) (hlen:xs.length=len:=by rfl) (hfs:len * El'.size=fs:=by rfl):Nx n G D w0 (fun a w=>Oper.wp P ⟨some d,.load T x,ty,pos,aft,gd⟩ a w R Q) E L φ:=zg4 i hi hc hx hd hlen hT hfs k
end
section
variable {P:Program} {n:Nat} {G D:Nat→Prop} {w0:World} {Q:Exit→Act→World→Prop} {R:Act→World→Prop} {E:Env} {L:List Ch} {φ:Prop}
variable {d:Tmp} {ty:TypeId} {pos:String} {aft:Array Edge} {gd:Option (Nat×Bool)} {Tk:Act→World→Prop} {Lr:List Ch} {x y:Operand} {T T' S:TypeId} {e sz by':Nat}
theorem xc {α:Type} {E':El α} {v:Value} {xs:List α} {c:Ch} {I:Int} {z:α} {o fs:Nat} {row:Bool} (i:Nat) (hc:Src c E' v xs) (hz:xs[I.toNat]?=some z) (hT:tyB P T=some (row,fs)) (k:∀ wr F0 cs,E'.cells F0 wr z cs→∃ u,ldv row o fs cs=some u∧Nx n G D w0 R ((d,u) :: E) (zi wr F0 :: L) φ) (hi:xB L i=some c:=by rfl) (hx:oev E x=some (pEl v I E'.size o):=by rfl) (hd:Nat.blt d n=true:=by rfl):Nx n G D w0 (fun a w=>Oper.wp P ⟨some d,.load T x,ty,pos,aft,gd⟩ a w R Q) E L φ :=
 X1 hd rfl fun ρ w hE hm hφ=>by
  obtain ⟨b,off,cap,cs,rfl,_,hcs,hr⟩:=(hc _ _ (hm.get hi)).at hz
  obtain ⟨u,hu,hk⟩:=k w (fz G L w) cs hcs
  have:=U0 (P:=P) hT hr hu
  rw [yX] at hx
  exact ⟨u,w,zi w (fz G L w) :: L,φ,by simp [execOp,hE _ _ hx,this],hm.note (fun b hb=>hb) ⟨fun b hb=>hb,fun _ _=>rfl⟩,hφ,hk⟩
end
section
variable {P:Program} {n:Nat} {G D:Nat→Prop} {w0:World} {Q:Exit→Act→World→Prop} {R:Act→World→Prop} {E:Env} {L M:List Ch} {φ:Prop}
variable {d:Tmp} {ty:TypeId} {pos:String} {aft:Array Edge} {gd:Option (Nat×Bool)} {Tk:Act→World→Prop} {Lr:List Ch} {x y:Operand} {T T' S:TypeId} {e sz by':Nat}
end
section
variable {P:Program} {n:Nat} {G D:Nat→Prop} {w0:World} {Q:Exit→Act→World→Prop} {R:Act→World→Prop} {E:Env} {L M:List Ch} {φ:Prop}
variable {d:Tmp} {ty:TypeId} {pos:String} {aft:Array Edge} {gd:Option (Nat×Bool)} {Tk:Act→World→Prop} {Lr:List Ch} {x y:Operand} {T T' S:TypeId} {e sz by':Nat}
end
section
variable {P:Program} {n:Nat} {G D:Nat→Prop} {w0:World} {Q:Exit→Act→World→Prop} {R:Act→World→Prop} {E:Env} {L:List Ch} {φ:Prop}
variable {d:Tmp} {ty:TypeId} {pos:String} {aft:Array Edge} {gd:Option (Nat×Bool)} {Tk:Act→World→Prop} {Lr:List Ch} {x y:Operand} {T T' S:TypeId} {e sz by':Nat}
theorem jB (M:un P n G D w0 E ⟨some d,.load T x,ty,pos,aft,gd⟩ Tk R Lr L) {wr:World} {F0:Nat→Prop} {v:Value} {I:Int} {o fs:Nat} {cs:List Value} {row:Bool} {u:Value} (i:Nat) (hr:ud wr F0 v I sz cs) (hT:tyB P T=some (row,fs)) (k:Nx n G D w0 R ((d,u) :: E) L φ) (hi:xB Lr i=some (zi wr F0):=by rfl) (hx:oev E x=some (pEl v I sz o):=by rfl) (hd:Nat.blt d n=true:=by rfl) (hu:ldv row o fs cs=some u:=by rfl):Nx n G D w0 Tk E L φ :=
 M.val hd rfl (fun ρ w hE hm _=>by
  obtain ⟨b,off,l,c,rfl,hb,hc⟩:=hr
  have h:(zi wr F0).holds _ w:=hm.get hi
  have hc':w.rangeAt b (off+I.toNat * sz) cs:=zch hc (h.2 b hb)
  have:=U0 (P:=P) hT hc' hu
  rw [yX] at hx
  simp [execOp,hE _ _ hx,this]) id k
end
section
variable {P:Program} {n:Nat} {G D:Nat→Prop} {w0:World} {Q:Exit→Act→World→Prop} {R:Act→World→Prop} {E:Env} {L:List Ch} {φ:Prop}
variable {d:Tmp} {ty:TypeId} {pos:String} {aft:Array Edge} {gd:Option (Nat×Bool)} {Tk:Act→World→Prop} {Lr:List Ch} {x y:Operand} {T T' S:TypeId}
theorem zm (M:un P n G D w0 E ⟨some d,.load T x,ty,pos,aft,gd⟩ Tk R Lr L) {b o sz:Nat} {cs:List Value} {T0:TypeId} {row:Bool} {v:Value} (i:Nat) (hT:tyB P T=some (row,sz)) (k:Nx n G D w0 R ((d,v) :: E) L φ) (hi:xB Lr i=some (zc b cs T0):=by rfl) (hx:oev E x=some (.pointer (some ⟨b,o,none⟩)):=by rfl) (hd:Nat.blt d n=true:=by rfl) (hv:ldv row o sz cs=some v:=by rfl):Nx n G D w0 Tk E L φ:=zhO M i hi hx hd hT hv k
theorem jO (M:un P n G D w0 E ⟨some d,.load T x,ty,pos,aft,gd⟩ Tk R Lr L) {α:Type} {El':El α} {enc:α→List Value} {v:Value} {xs:List α} {c:Ch} {I:Int} {z:α} {o sz fs:Nat} {row:Bool} {u:Value} (i:Nat) (hc:Ys c El' v xs) (hfl:Y9 El' enc) (hz:xs[I.toNat]?=some z) (hT:tyB P T=some (row,fs)) (k:Nx n G D w0 R ((d,u) :: E) L φ) (hi:xB Lr i=some c:=by rfl) (hes:El'.size=sz:=by rfl) (hx:oev E x=some (pEl v I sz o):=by rfl) (hd:Nat.blt d n=true:=by rfl) (hv:ldv row o fs (enc z)=some u:=by rfl):Nx n G D w0 Tk E L φ :=
 M.val hd rfl (fun ρ w hE hm _=>by
  obtain ⟨b,off',cap,cs,rfl,h1,h2⟩:=(hc _ _ (hm.get hi)).at hz
  rw [yX] at hx
  rw [(hfl _ _ _ _).1 h1,hes] at h2
  have:=U0 (P:=P) hT h2 hv
  simp [execOp,hE _ _ hx,this]) id k
theorem zH (M:un P n G D w0 E ⟨some d,.call {callee:=.builtin .len,args:=#[x],argTypes:=#[T]},ty,pos,aft,gd⟩ Tk R Lr L) {α:Type} {El':El α} {v:Value} {xs:List α} {c:Ch} {p:TypeId×Nat×Nat} (hT:elB P T=some p) (i:Nat) (hc:Ys c El' v xs) (k:Nx n G D w0 R ((d,.int .i64 xs.length) :: E) L φ) (hi:xB Lr i=some c:=by rfl) (hx:oev E x=some v:=by rfl) (hd:Nat.blt d n=true:=by rfl):Nx n G D w0 Tk E L φ:=zhE M hT i hi hc hx hd k
end
section
variable {P:Program} {n:Nat} {G D:Nat→Prop} {w0:World} {Q:Exit→Act→World→Prop} {R:Act→World→Prop} {E:Env} {L M:List Ch} {φ:Prop}
variable {d:Tmp} {ty:TypeId} {pos:String} {aft:Array Edge} {gd:Option (Nat×Bool)} {Tk:Act→World→Prop} {Lr:List Ch} {x y:Operand} {T T' S:TypeId}
end
section
variable {P:Program} {n:Nat} {G D:Nat→Prop} {w0:World} {Q:Exit→Act→World→Prop} {R:Act→World→Prop} {E:Env} {L:List Ch} {φ:Prop}
variable {d:Tmp} {ty:TypeId} {pos:String} {aft:Array Edge} {gd:Option (Nat×Bool)} {Tk:Act→World→Prop} {Lr:List Ch} {x y:Operand} {T T' S:TypeId}
end
section
variable {P:Program} {n:Nat} {G D:Nat→Prop} {w0:World} {Q:Exit→Act→World→Prop} {R:Act→World→Prop} {E:Env} {L:List Ch} {φ:Prop}
variable {d:Tmp} {ty:TypeId} {pos:String} {aft:Array Edge} {gd:Option (Nat×Bool)} {Tk:Act→World→Prop} {Lr:List Ch} {x y:Operand} {T T':TypeId}
theorem Zj (M:un P n G D w0 E ⟨some d,.binOp .leq T x y T',ty,pos,aft,gd⟩ Tk R Lr L) {X Y:Int} {K:IntKind} (k:Nx n G D w0 R ((d,.bool (decide (X≤Y))) :: E) L φ) (hx:oev E x=some (.int K X):=by rfl) (hy:oev E y=some (.int K Y):=by rfl) (hd:Nat.blt d n=true:=by rfl):Nx n G D w0 Tk E L φ :=
 M.val hd rfl (fun ρ w hE _ hφ=>by simp [execOp,hE _ _ hx,hE _ _ hy,go_sem]) id k
theorem ja (M:un P n G D w0 E ⟨some d,.binOp .lss T x y T',ty,pos,aft,gd⟩ Tk R Lr L) {X Y:Int} {K:IntKind} (k:Nx n G D w0 R ((d,.bool (decide (X<Y))) :: E) L φ) (hx:oev E x=some (.int K X):=by rfl) (hy:oev E y=some (.int K Y):=by rfl) (hd:Nat.blt d n=true:=by rfl):Nx n G D w0 Tk E L φ:=zkR M hx hy hd k
end
section
variable {P:Program} {n:Nat} {G D:Nat→Prop} {w0:World} {Q:Exit→Act→World→Prop} {R:Act→World→Prop} {E:Env} {L:List Ch} {φ:Prop}
variable {d:Tmp} {ty:TypeId} {pos:String} {aft:Array Edge} {gd:Option (Nat×Bool)} {Tk:Act→World→Prop} {Lr:List Ch} {x y:Operand} {T T' S:TypeId} {e sz by':Nat}
theorem zka {α:Type} {El':El α} {enc:α→List Value} {z:α} {N M:Int} {κ:List α→Prop} {zs:List Value} (hfl:Y9 El' enc) (hT:elB P T=some (e,sz,by')) (hzr:uH P e=some zs) (k:∀ v xs,Nx n G D w0 R ((d,v) :: E) (ze El' e v xs :: L) (κ xs)) (hx:oev E x=some (.int .i64 N):=by rfl) (hy:oev E y=some (.int .i64 M):=by rfl) (hd:Nat.blt d n=true:=by rfl) (hby:Nat.ble by' 32768=true:=by rfl) (hz:enc z=zs:=by rfl) (hes:El'.size=sz:=by rfl):Nx n G D w0 (fun a w=>Oper.wp P ⟨some d,.makeSlice T x y,ty,pos,aft,gd⟩ a w R Q) E L (zeO z N M κ) :=
 X1 hd rfl fun ρ w hE hm hφ=>by
  obtain ⟨h0,h1,h2,h3⟩:=hφ
  obtain ⟨hu,i,hi,rfl,rfl⟩:=yo hT
  obtain ⟨z',hz',hzc⟩:=Zn hzr hi
  unfold zdI at h2
  have hbl:=Nat.le_of_ble_eq_true hby
  obtain ⟨M',rfl⟩:=Int.eq_ofNat_of_zero_le (show 0≤M by omega)
  have hb:(i.bytes:Int) * (M':Int)≤281474976710656:=by
   have h5:i.bytes * M'≤32768 * 4294967296:=Nat.mul_le_mul hbl (by simpa using h2)
   rw [← Int.natCast_mul]
   omega
  have hr:=run_make (P:=P) w T e i z' hu hi hz' .i64 .i64 N M' h0 h1 hb (by simp at h2;omega)
  have hlz:(enc z).length=El'.size:=hfl.size w z
  have hpos:=El'.pos
  rw [hzc,← hz,← hes,← hlz] at hr
  rw [Int.toNat_natCast] at hr h2
  refine ⟨.slice (some ⟨w.heap.size,0,none⟩) N.toNat M',w.alloc (.cells (madeCells (enc z).toArray (M' * (enc z).length)) e),_,κ (List.replicate N.toNat z),by simp [execOp,hE _ _ hx,hE _ _ hy,hr],?_,h3,k _ _⟩
  refine hm.add _ ((Below.refl _ _).alloc (Nat.le_refl _) _) (fun b hb=>by simp [ze,Value.ownBlock] at hb;rw [World.size_alloc];omega) ?_
  have hown:=zaK (El':=El') (F:=fz G (ze El' e (.slice (some ⟨w.heap.size,0,none⟩) N.toNat M') (List.replicate N.toNat z) :: L) (w.alloc (.cells (madeCells (enc z).toArray (M' * (enc z).length)) e))) (w:=w.alloc (.cells (madeCells (enc z).toArray (M' * (enc z).length)) e)) (ty:=e) (b:=w.heap.size) (cap:=M')
   (Rows.replicate ((hfl _ _ _ _).2 rfl) N.toNat) (heap_alloc_new w _) (by simp;omega) (by unfold maxLen;omega) (by rw [size_madeCells,hlz]) (by
    rw [Xn _ _ (by omega),List.length_replicate,← hlz]
    have:List.replicate M' (enc z)=List.replicate N.toNat (enc z)++List.replicate (M' - N.toNat) (enc z):=by rw [List.replicate_append_replicate];congr 1;omega
    rw [this,List.flatten_append,List.take_left' (by simp)])
  rw [List.length_replicate] at hown
  exact hown
end
section
variable {P:Program} {n:Nat} {G D:Nat→Prop} {w0:World} {Q:Exit→Act→World→Prop} {R:Act→World→Prop} {E:Env} {L M:List Ch} {φ:Prop}
variable {d:Tmp} {ty:TypeId} {pos:String} {aft:Array Edge} {gd:Option (Nat×Bool)} {Tk:Act→World→Prop} {Lr:List Ch} {x y:Operand} {T T' S:TypeId} {e sz by':Nat}
end
section
variable {P:Program} {n:Nat} {G D:Nat→Prop} {w0:World} {Q:Exit→Act→World→Prop} {R:Act→World→Prop} {E:Env} {L:List Ch} {φ:Prop}
variable {d:Tmp} {ty:TypeId} {pos:String} {aft:Array Edge} {gd:Option (Nat×Bool)} {Tk:Act→World→Prop} {Lr:List Ch} {x y:Operand} {T T' S:TypeId} {e sz by':Nat}
theorem zgq {α:Type} {El':El α} {z:α} {N M:Int} {κ:List α→Prop} {zs:List Value} (hz:∀ F w,El'.cells F w z zs) (hT:elB P T=some (e,sz,by')) (hzr:uH P e=some zs) (k:∀ v xs,Nx n G D w0 R ((d,v) :: E) (ze El' e v xs :: L) (κ xs)) (hx:oev E x=some (.int .i64 N):=by rfl) (hy:oev E y=some (.int .i64 M):=by rfl) (hd:Nat.blt d n=true:=by rfl) (hby:Nat.ble by' 32768=true:=by rfl) (hes:El'.size=sz:=by rfl):Nx n G D w0 (fun a w=>Oper.wp P ⟨some d,.makeSlice T x y,ty,pos,aft,gd⟩ a w R Q) E L (zeO z N M κ) :=
 X1 hd rfl fun ρ w hE hm hφ=>by
  obtain ⟨h0,h1,h2,h3⟩:=hφ
  obtain ⟨hu,i,hi,rfl,rfl⟩:=yo hT
  obtain ⟨z',hz',hzc⟩:=Zn hzr hi
  unfold zdI at h2
  have hbl:=Nat.le_of_ble_eq_true hby
  obtain ⟨M',rfl⟩:=Int.eq_ofNat_of_zero_le (show 0≤M by omega)
  have hb:(i.bytes:Int) * (M':Int)≤281474976710656:=by
   have h5:i.bytes * M'≤32768 * 4294967296:=Nat.mul_le_mul hbl (by simpa using h2)
   rw [← Int.natCast_mul]
   omega
  have hr:=run_make (P:=P) w T e i z' hu hi hz' .i64 .i64 N M' h0 h1 hb (by simp at h2;omega)
  have hlz:zs.length=El'.size:=El'.len _ _ _ _ (hz (fun _=>True) w)
  have hpos:=El'.pos
  rw [hzc,← hes,← hlz] at hr
  rw [Int.toNat_natCast] at hr h2
  refine ⟨.slice (some ⟨w.heap.size,0,none⟩) N.toNat M',w.alloc (.cells (madeCells zs.toArray (M' * zs.length)) e),_,κ (List.replicate N.toNat z),by simp [execOp,hE _ _ hx,hE _ _ hy,hr],?_,h3,k _ _⟩
  refine hm.add _ ((Below.refl _ _).alloc (Nat.le_refl _) _) (fun b hb=>by simp [ze,Value.ownBlock] at hb;rw [World.size_alloc];omega) ?_
  have hown:=zaK (El':=El') (F:=fz G (ze El' e (.slice (some ⟨w.heap.size,0,none⟩) N.toNat M') (List.replicate N.toNat z) :: L) (w.alloc (.cells (madeCells zs.toArray (M' * zs.length)) e))) (w:=w.alloc (.cells (madeCells zs.toArray (M' * zs.length)) e)) (ty:=e) (b:=w.heap.size) (cap:=M')
   (Rows.replicate (hz _ _) N.toNat) (heap_alloc_new w _) (by simp;omega) (by unfold maxLen;omega) (by rw [size_madeCells,hlz]) (by
    rw [Xn _ _ (by omega),List.length_replicate,← hlz]
    have:List.replicate M' zs=List.replicate N.toNat zs++List.replicate (M' - N.toNat) zs:=by rw [List.replicate_append_replicate];congr 1;omega
    rw [this,List.flatten_append,List.take_left' (by simp)])
  rw [List.length_replicate] at hown
  exact hown
end
section
variable {P:Program} {n:Nat} {G D:Nat→Prop} {w0:World} {Q:Exit→Act→World→Prop} {R:Act→World→Prop} {E:Env} {L:List Ch} {φ:Prop}
variable {d:Tmp} {ty:TypeId} {pos:String} {aft:Array Edge} {gd:Option (Nat×Bool)} {Tk:Act→World→Prop} {Lr:List Ch} {x y:Operand} {T T' S:TypeId} {e sz by':Nat} {at':Array TypeId}
theorem zfl (M:un P n G D w0 E ⟨some d,.call {callee:=.builtin .max,args:=#[x,y],argTypes:=at'},ty,pos,aft,gd⟩ Tk R Lr L) {X Y:Int} (k:Nx n G D w0 R ((d,.int .i64 (max X Y)) :: E) L φ) (hx:oev E x=some (.int .i64 X):=by rfl) (hy:oev E y=some (.int .i64 Y):=by rfl) (hd:Nat.blt d n=true:=by rfl):Nx n G D w0 Tk E L φ :=
 M.val hd rfl (fun ρ w hE _ _=>by
  have e:(if Y > X then Y else X)=max X Y:=by rw [Int.max_def];split <;> split <;> omega
  simp [execOp,resolve,invoke,builtin,hE _ _ hx,hE _ _ hy,Builtin.max_,Builtin.max2,← e]) id k
theorem zcI (M:un P n G D w0 E ⟨some d,.call {callee:=.builtin .min,args:=#[x,y],argTypes:=at'},ty,pos,aft,gd⟩ Tk R Lr L) {X Y:Int} (k:Nx n G D w0 R ((d,.int .i64 (min X Y)) :: E) L φ) (hx:oev E x=some (.int .i64 X):=by rfl) (hy:oev E y=some (.int .i64 Y):=by rfl) (hd:Nat.blt d n=true:=by rfl):Nx n G D w0 Tk E L φ :=
 M.val hd rfl (fun ρ w hE _ _=>by
  have e:(if Y<X then Y else X)=min X Y:=by rw [Int.min_def];split <;> split <;> omega
  simp [execOp,resolve,invoke,builtin,hE _ _ hx,hE _ _ hy,Builtin.min_,Builtin.min2,← e]) id k
end
section
variable {P:Program} {n:Nat} {G D:Nat→Prop} {w0:World} {Q:Exit→Act→World→Prop} {R:Act→World→Prop} {E:Env} {L M:List Ch} {φ:Prop}
variable {d:Tmp} {ty:TypeId} {pos:String} {aft:Array Edge} {gd:Option (Nat×Bool)} {Tk:Act→World→Prop} {Lr:List Ch} {x y:Operand} {T T' S:TypeId} {e sz by':Nat} {dst:Option Tmp} {at':Array TypeId}
theorem zcw (M:un P n G D w0 E ⟨some d,.makeInterface T x,ty,pos,aft,gd⟩ Tk R Lr L) {v u:Value} (hm:∀ v w,(Instr.makeInterface T v).run P w=.ok (.iface T v) w) (k:Nx n G D w0 R ((d,u) :: E) L φ) (hx:oev E x=some v:=by rfl) (hd:Nat.blt d n=true:=by rfl) (hu:Value.iface T v=u:=by rfl):Nx n G D w0 Tk E L φ :=
 M.val hd rfl (fun ρ w hE _ _=>by simp [execOp,hE _ _ hx,hm,hu]) id k
end
section
variable {P:Program} {n:Nat} {G D:Nat→Prop} {w0:World} {Q:Exit→Act→World→Prop} {R:Act→World→Prop} {E:Env} {L:List Ch} {φ:Prop}
variable {d:Tmp} {ty:TypeId} {pos:String} {aft:Array Edge} {gd:Option (Nat×Bool)} {Tk:Act→World→Prop} {Lr:List Ch} {x y:Operand} {T T':TypeId}
theorem zaZ (M:un P n G D w0 E ⟨some d,.binOp .mul T x y T',ty,pos,aft,gd⟩ Tk R Lr L) {X Y:Int} {κ:Int→Prop} (k:∀ z,Nx n G D w0 R ((d,.int .i64 z) :: E) L (κ z)) (hx:oev E x=some (.int .i64 X):=by rfl) (hy:oev E y=some (.int .i64 Y):=by rfl) (hd:Nat.blt d n=true:=by rfl):Nx n G D w0 Tk E L (zfk X Y κ) :=
 M.val (v:=.int .i64 (X * Y)) hd rfl (fun ρ w hE _ hφ=>by
  have h:=hφ.1
  have e:IntKind.i64.wrap (X * Y)=X * Y:=by unfold I64 at h;rw [IntKind.wrap_i64];omega
  simp [execOp,hE _ _ hx,hE _ _ hy,go_sem,e]) (fun h=>h.2) (k _)
theorem zr (M:un P n G D w0 E ⟨some d,.move x,ty,pos,aft,gd⟩ Tk R Lr L) {v:Value} (k:Nx n G D w0 R ((d,v) :: E) L φ) (hx:oev E x=some v:=by rfl) (hd:Nat.blt d n=true:=by rfl):Nx n G D w0 Tk E L φ:=Yw M hx hd k
end
section
variable {P:Program} {n:Nat} {G D:Nat→Prop} {w0:World} {Q:Exit→Act→World→Prop} {R:Act→World→Prop} {E:Env} {L:List Ch} {φ:Prop}
variable {d:Tmp} {ty:TypeId} {pos:String} {aft:Array Edge} {gd:Option (Nat×Bool)} {Tk:Act→World→Prop} {Lr:List Ch} {x y:Operand} {T T' S:TypeId} {e sz by':Nat}
theorem zcW (M:un P n G D w0 E ⟨some d,.binOp .neq T x y T',ty,pos,aft,gd⟩ Tk R Lr L) {X Y:Int} {K:IntKind} (hT:P.underlying T=some (.int K)) (k:Nx n G D w0 R ((d,.bool (!decide (X=Y))) :: E) L φ) (hx:oev E x=some (.int K X):=by rfl) (hy:oev E y=some (.int K Y):=by rfl) (hd:Nat.blt d n=true:=by rfl):Nx n G D w0 Tk E L φ :=
 M.val hd rfl (fun ρ w hE _ _=>by simp [execOp,hE _ _ hx,hE _ _ hy,go_sem,hT,run_underlying hT];rfl) id k
theorem zkm (M:un P n G D w0 E ⟨some d,.binOp .neq T x y T',ty,pos,aft,gd⟩ Tk R Lr L) {X Y:Bool} (hT:P.underlying T=some .bool) (k:Nx n G D w0 R ((d,.bool (!decide (X=Y))) :: E) L φ) (hx:oev E x=some (.bool X):=by rfl) (hy:oev E y=some (.bool Y):=by rfl) (hd:Nat.blt d n=true:=by rfl):Nx n G D w0 Tk E L φ :=
 M.val hd rfl (fun ρ w hE _ _=>by cases X <;> cases Y <;> simp [execOp,hE _ _ hx,hE _ _ hy,go_sem,hT,run_underlying hT]) id k
end
section
variable {P:Program} {n:Nat} {G D:Nat→Prop} {w0:World} {Q:Exit→Act→World→Prop} {R:Act→World→Prop} {E:Env} {L:List Ch} {φ:Prop}
variable {d:Tmp} {ty:TypeId} {pos:String} {aft:Array Edge} {gd:Option (Nat×Bool)} {Tk:Act→World→Prop} {Lr:List Ch} {x y:Operand} {T T' S:TypeId}
end
section
variable {P:Program} {n:Nat} {G D:Nat→Prop} {w0:World} {Q:Exit→Act→World→Prop} {R:Act→World→Prop} {E:Env} {L M:List Ch} {φ:Prop}
variable {d:Tmp} {ty:TypeId} {pos:String} {aft:Array Edge} {gd:Option (Nat×Bool)} {Tk:Act→World→Prop} {Lr:List Ch} {x y:Operand} {T T' S:TypeId} {e sz by':Nat}
theorem zaG {α:Type} {E':El α} {v:Value} {xs:List α} {c:Ch} {I:Int} {z:α} {o:Nat} (M:un P n G D w0 E ⟨some d,.nilCheck x,ty,pos,aft,gd⟩ Tk R Lr L) (i:Nat) (hc:Ys c E' v xs) (hz:xs[I.toNat]?=some z) (k:Nx n G D w0 R ((d,pEl v I sz o) :: E) L φ) (hi:xB Lr i=some c:=by rfl) (hx:oev E x=some (pEl v I sz o):=by rfl) (hd:Nat.blt d n=true:=by rfl):Nx n G D w0 Tk E L φ :=
 M.val hd rfl (fun ρ w hE hm _=>by
  obtain ⟨b,off,cap,cs,rfl,hcs,hr⟩:=(hc _ _ (hm.get hi)).at hz
  rw [yX] at hx
  simp [execOp,hE _ _ hx,yX]) id k
end
section
variable {P:Program} {n:Nat} {G D:Nat→Prop} {w0:World} {Q:Exit→Act→World→Prop} {R:Act→World→Prop} {E:Env} {L M:List Ch} {φ:Prop}
variable {d:Tmp} {ty:TypeId} {pos:String} {aft:Array Edge} {gd:Option (Nat×Bool)} {Tk:Act→World→Prop} {Lr:List Ch} {x y:Operand} {T T' S:TypeId}
end
section
variable {P:Program} {n:Nat} {G D:Nat→Prop} {w0:World} {Q:Exit→Act→World→Prop} {R:Act→World→Prop} {E:Env} {L:List Ch} {φ:Prop}
variable {d:Tmp} {ty:TypeId} {pos:String} {aft:Array Edge} {gd:Option (Nat×Bool)} {Tk:Act→World→Prop} {Lr:List Ch} {x y:Operand} {T T' S:TypeId} {e sz by':Nat}
theorem jF (M:un P n G D w0 E ⟨some d,.nilCheck x,ty,pos,aft,gd⟩ Tk R Lr L) {a:Addr} (k:Nx n G D w0 R ((d,.pointer (some a)) :: E) L φ) (hx:oev E x=some (.pointer (some a)):=by rfl) (hd:Nat.blt d n=true:=by rfl):Nx n G D w0 Tk E L φ :=
 M.val hd rfl (fun ρ w hE _ _=>by simp [execOp,hE _ _ hx]) id k
end
section
variable {P:Program} {n:Nat} {G D:Nat→Prop} {w0:World} {Q:Exit→Act→World→Prop} {R:Act→World→Prop} {E:Env} {L:List Ch} {φ:Prop}
variable {d:Tmp} {ty:TypeId} {pos:String} {aft:Array Edge} {gd:Option (Nat×Bool)} {Tk:Act→World→Prop} {Lr:List Ch} {x y:Operand} {T T':TypeId}
theorem jt (M:un P n G D w0 E ⟨some d,.unOp .not T x,ty,pos,aft,gd⟩ Tk R Lr L) {b:Bool} (k:Nx n G D w0 R ((d,.bool (!b)) :: E) L φ) (hx:oev E x=some (.bool b):=by rfl) (hd:Nat.blt d n=true:=by rfl):Nx n G D w0 Tk E L φ:=zkI M hx hd k
end
section
variable {P:Program} {n:Nat} {G D:Nat→Prop} {w0:World} {Q:Exit→Act→World→Prop} {R:Act→World→Prop} {E:Env} {L:List Ch} {φ:Prop}
variable {d:Tmp} {ty:TypeId} {pos:String} {aft:Array Edge} {gd:Option (Nat×Bool)} {Tk:Act→World→Prop} {Lr:List Ch} {x y:Operand} {T T' S:TypeId} {e sz by':Nat}
theorem zF {c:Operand} (M:un P n G D w0 E ⟨some d,.pick c x y,ty,pos,aft,gd⟩ Tk R Lr L) {v:Value} (k:Nx n G D w0 R ((d,v) :: E) L φ) (hc:oev E c=some (.bool false):=by rfl) (hx:oev E y=some v:=by rfl) (hd:Nat.blt d n=true:=by rfl):Nx n G D w0 Tk E L φ :=
 M.val hd rfl (fun ρ w hE _ _=>by simp [execOp,hE _ _ hc,hE _ _ hx,asBool]) id k
theorem zP {c:Operand} (M:un P n G D w0 E ⟨some d,.pick c x y,ty,pos,aft,gd⟩ Tk R Lr L) {v:Value} (k:Nx n G D w0 R ((d,v) :: E) L φ) (hc:oev E c=some (.bool true):=by rfl) (hx:oev E x=some v:=by rfl) (hd:Nat.blt d n=true:=by rfl):Nx n G D w0 Tk E L φ :=
 M.val hd rfl (fun ρ w hE _ _=>by simp [execOp,hE _ _ hc,hE _ _ hx,asBool]) id k
end
section
variable {P:Program} {n:Nat} {G D:Nat→Prop} {w0:World} {Q:Exit→Act→World→Prop} {R:Act→World→Prop} {E:Env} {L:List Ch} {φ:Prop}
variable {d:Tmp} {ty:TypeId} {pos:String} {aft:Array Edge} {gd:Option (Nat×Bool)} {Tk:Act→World→Prop} {Lr:List Ch} {x y:Operand} {T T':TypeId}
theorem zjm (M:un P n G D w0 E ⟨some d,.binOp .quo T x y T',ty,pos,aft,gd⟩ Tk R Lr L) {X Y:Int} {κ:Int→Prop} (k:∀ z,Nx n G D w0 R ((d,.int .i64 z) :: E) L (κ z)) (hx:oev E x=some (.int .i64 X):=by rfl) (hy:oev E y=some (.int .i64 Y):=by rfl) (hd:Nat.blt d n=true:=by rfl):Nx n G D w0 Tk E L (ziK X Y κ) :=
 M.val (v:=.int .i64 (X.tdiv Y)) hd rfl (fun ρ w hE _ hφ=>by
  obtain ⟨h2,h3,_⟩:=hφ
  have e0:Y≠0:=by omega
  have e:IntKind.i64.wrap (X.tdiv Y)=X.tdiv Y:=by
   unfold I64 at h3
   rw [IntKind.wrap_i64]
   by_cases h1:0≤X
   ·have e1:X.tdiv Y=X / Y:=Int.tdiv_eq_ediv_of_nonneg h1
    have e2:=Int.ediv_nonneg h1 (show 0≤Y by omega)
    have e3:X / Y≤X:=Int.ediv_le_self _ h1
    omega
   ·have e1:X.tdiv Y=-((-X) / Y):=by
     have:=Int.neg_tdiv (a:=-X) (b:=Y)
     rw [Int.neg_neg] at this
     rw [this,Int.tdiv_eq_ediv_of_nonneg (by omega)]
    have e2:=Int.ediv_nonneg (show 0≤-X by omega) (show 0≤Y by omega)
    have e3:(-X) / Y≤-X:=Int.ediv_le_self _ (by omega)
    omega
  simp [execOp,hE _ _ hx,hE _ _ hy,go_sem,e0,e]) (fun h=>h.2.2) (k _)
theorem zfv (M:un P n G D w0 E ⟨some d,.binOp .rem T x y T',ty,pos,aft,gd⟩ Tk R Lr L) {X Y:Int} {κ:Int→Prop} (k:∀ z,Nx n G D w0 R ((d,.int .i64 z) :: E) L (κ z)) (hx:oev E x=some (.int .i64 X):=by rfl) (hy:oev E y=some (.int .i64 Y):=by rfl) (hd:Nat.blt d n=true:=by rfl):Nx n G D w0 Tk E L (zg1 X Y κ) :=
 M.val (v:=.int .i64 (X % Y)) hd rfl (fun ρ w hE _ hφ=>by
  obtain ⟨h1,h2,h3,_⟩:=hφ
  have e0:Y≠0:=by omega
  have e1:X.tmod Y=X % Y:=Int.tmod_eq_emod_of_nonneg h1
  simp [execOp,hE _ _ hx,hE _ _ hy,go_sem,e0,e1]) (fun h=>h.2.2.2) (k _)
end
section
variable {P:Program} {n:Nat} {G D:Nat→Prop} {w0:World} {Q:Exit→Act→World→Prop} {R:Act→World→Prop} {E:Env} {L:List Ch} {φ:Prop}
variable {d:Tmp} {ty:TypeId} {pos:String} {aft:Array Edge} {gd:Option (Nat×Bool)} {Tk:Act→World→Prop} {Lr:List Ch} {x y:Operand} {T T' S:TypeId} {e sz by':Nat} {at':Array TypeId}
theorem Xa {α:Type} {El':El α} {v:Value} {xs:List α} {lo hi:Option Operand} {I J:Int} {κ:List α→Prop} (i:Nat) (hT:elB P T=some (e,sz,by')) (k:∀ v' ys,Nx n G D w0 R ((d,v') :: E) (jP El' v' ys :: L) (κ ys)) (hi':xB L i=some (jP El' v xs):=by rfl) (hx:oev E x=some v:=by rfl) (hlo:match lo with | none=>I=0 | some l=>oev E l=some (.int .i64 I):=by rfl) (hhi:match hi with | none=>J=xs.length | some h=>oev E h=some (.int .i64 J):=by rfl) (hd:Nat.blt d n=true:=by rfl) (hes:El'.size=sz:=by rfl):Nx n G D w0 (fun a w=>Oper.wp P ⟨some d,.slice T x lo hi none,ty,pos,aft,gd⟩ a w R Q) E L (uQ xs I J κ) :=
 X1 hd rfl fun ρ w hE hm hφ=>by
  obtain ⟨h0,h1,h2,h3⟩:=hφ
  obtain ⟨hu,inf,hinf,rfl,rfl⟩:=yo hT
  have hsl:=hm.ro i hi'
  obtain ⟨a,cap,hv,hcap,_⟩:=hsl
  have hsl:=hm.ro i hi'
  subst hv
  have hp:=fun (F:Nat→Prop) (h:Sl El' F w (.slice a xs.length cap) xs)=>h.part I.toNat J.toNat (by omega) (by omega)
  refine ⟨_,w,_,κ ((xs.take J.toNat).drop I.toNat),?_,zjv hm hi' hp,h3,k _ _⟩
  have e1:(J:Int)≤cap:=by omega
  have e2:0≤J:=by omega
  cases lo with
  | none =>
   cases hi with
   | none =>
    simp only at hlo hhi
    subst hlo hhi
    simp [execOp,hE _ _ hx,Instr.sliceAt,Instr.slice,Instr.sliceBounds,run_underlying hu,sizeOf,typeInfo,hinf,hes]
   | some hh =>
    simp only at hlo hhi
    subst hlo
    simp [execOp,hE _ _ hx,hE _ _ hhi,Instr.sliceAt,Instr.slice,Instr.sliceBounds,Instr.sliceBound,asIntOf,run_underlying hu,sizeOf,typeInfo,hinf,e1,e2,hes]
  | some ll =>
   cases hi with
   | none =>
    simp only at hlo hhi
    subst hhi
    have e3:I≤(xs.length:Int):=h1
    simp [execOp,hE _ _ hx,hE _ _ hlo,Instr.sliceAt,Instr.slice,Instr.sliceBounds,Instr.sliceBound,asIntOf,run_underlying hu,sizeOf,typeInfo,hinf,h0,e3,hes]
   | some hh =>
    simp only at hlo hhi
    have e4:I≤(J.toNat:Int):=by omega
    simp [execOp,hE _ _ hx,hE _ _ hlo,hE _ _ hhi,Instr.sliceAt,Instr.slice,Instr.sliceBounds,Instr.sliceBound,asIntOf,run_underlying hu,sizeOf,typeInfo,hinf,h0,e1,e2,e4,hes]
    intro h;omega
end
section
variable {P:Program} {n:Nat} {G D:Nat→Prop} {w0:World} {Q:Exit→Act→World→Prop} {R:Act→World→Prop} {E:Env} {L M:List Ch} {φ:Prop}
variable {d:Tmp} {ty:TypeId} {pos:String} {aft:Array Edge} {gd:Option (Nat×Bool)} {Tk:Act→World→Prop} {Lr:List Ch} {x y:Operand} {T T' S:TypeId} {e sz by':Nat}
theorem zhH {α:Type} {El':El α} {e':Nat} {v:Value} {xs:List α} {hh:Operand} {J:Int} {κ:List α→Prop} (i:Nat) (hT:elB P T=some (e,sz,by')) (k:∀ v' ys,Nx n G D w0 R ((d,v') :: E) (yE L i (ze El' e' v' ys)) (κ ys)) (hi':xB L i=some (ze El' e' v xs):=by rfl) (hx:oev E x=some v:=by rfl) (hhi:oev E hh=some (.int .i64 J):=by rfl) (hd:Nat.blt d n=true:=by rfl) (hes:El'.size=sz:=by rfl):Nx n G D w0 (fun a w=>Oper.wp P ⟨some d,.slice T x none (some hh) none,ty,pos,aft,gd⟩ a w R Q) E L (uQ xs 0 J κ) :=
 X1 hd rfl fun ρ w hE hm hφ=>by
  obtain ⟨h0,h1,h2,h3⟩:=hφ
  obtain ⟨hu,inf,hinf,rfl,rfl⟩:=yo hT
  have hown:Own El' e' (fz G L w) w v xs:=hm.get hi'
  obtain ⟨a,cap,hv,hc⟩:∃ a cap,v=.slice a xs.length cap∧xs.length≤cap:=by
   obtain ⟨css,_,_,hq⟩:=hown
   rcases hq with ⟨rfl,hn⟩ | ⟨g,cap,cur,rfl,_,_,hle,_⟩
   ·exact ⟨none,0,by rw [hn],by omega⟩
   ·exact ⟨_,cap,rfl,hle⟩
  subst hv
  have e1:(J:Int)≤cap:=by omega
  have e2:0≤J:=by omega
  have hs:(xs.take J.toNat).drop (0:Int).toNat=xs.take J.toNat:=by simp
  rw [hs] at h3
  have hfoot:∀ b,(ze El' e' (.slice a J.toNat cap) (xs.take J.toNat)).foot b→(ze El' e' (.slice a xs.length cap) xs).foot b:=by
   intro b hb
   cases a with
   | none=>simp [ze,Value.ownBlock] at hb
   | some ad=>simpa [ze,Value.ownBlock] using hb
  refine ⟨.slice a J.toNat cap,w,_,κ (xs.take J.toNat),?_,hm.upd (c':=ze El' e' (.slice a J.toNat cap) (xs.take J.toNat)) hi' rfl rfl rfl (Nat.le_refl _) (fun _ _ _=>rfl) (fun b hb=>?_) ?_,h3,k _ _⟩
  ·simp [execOp,hE _ _ hx,hE _ _ hhi,Instr.sliceAt,Instr.slice,Instr.sliceBounds,Instr.sliceBound,asIntOf,run_underlying hu,sizeOf,typeInfo,hinf,e1,e2,hes]
   cases a with
   | none=>simp
   | some ad=>simp [Addr.add]
  ·have hb':=hfoot b hb
   exact ⟨hown.lt b hb',.inl hb'⟩
  ·refine Own.keep (hown.cut J.toNat (by omega)) (fun b hb=>?_) (fun _ _=>rfl)
   refine ⟨hb.1,hb.2.1,fun c hc=>?_⟩
   rcases ZE hi' hm.disj hc with e' | ⟨e',_⟩
   ·subst e';exact fun h=>hb.2.2 _ (xu hi') (hfoot b h)
   ·exact hb.2.2 c e'
end
section
variable {P:Program} {n:Nat} {G D:Nat→Prop} {w0:World} {Q:Exit→Act→World→Prop} {R:Act→World→Prop} {E:Env} {L:List Ch} {φ:Prop}
variable {d:Tmp} {ty:TypeId} {pos:String} {aft:Array Edge} {gd:Option (Nat×Bool)} {Tk:Act→World→Prop} {Lr:List Ch} {x y:Operand} {T T' S:TypeId}
end
section
variable {P:Program} {n:Nat} {G D:Nat→Prop} {w0:World} {Q:Exit→Act→World→Prop} {R:Act→World→Prop} {E:Env} {L M:List Ch} {φ:Prop}
variable {d:Tmp} {ty:TypeId} {pos:String} {aft:Array Edge} {gd:Option (Nat×Bool)} {Tk:Act→World→Prop} {Lr:List Ch} {x y:Operand} {T T' S:TypeId} {e sz by':Nat}
theorem yF {α:Type} {El':El α} {u:Value} {cs:List Value} {len b fs:Nat} {xs0:List α} {row:Bool} {e':TypeId} (i:Nat) (xs:List α) (css:List (List Value)) (hr:∀ w,Mem G D w0 L w→Rows El' (fz G L w) w xs css) (hT:tyB P T=some (row,fs)) (k:Nx n G D w0 R E (yE L i (ze El' e' (.slice (some ⟨b,0,none⟩) len len) xs)) φ) (hi:xB L i=some (ze El' e' (.slice (some ⟨b,0,none⟩) len len) xs0):=by rfl) (hx:oev E x=some (.pointer (some ⟨b,0,none⟩)):=by rfl) (hy:oev E y=some u:=by rfl) (hcs:u.cells=cs.toArray:=by rfl) (hfl:css.flatten=cs:=by rfl) (hl:xs.length=len:=by rfl) (h1:u.cells.toList.all (·.oneCell')=true:=by rfl) (hsz:Nat.beq u.cells.size fs=true:=by rfl) (hpos:Nat.beq len 0=false:=by rfl):Nx n G D w0 (fun a w=>Oper.wp P ⟨none,.store T x y,ty,pos,aft,gd⟩ a w R Q) E L φ :=
 zdR rfl fun ρ w hE hm hφ=>by
  obtain ⟨css0,hr0,how⟩:=hm.get hi
  obtain ⟨h0,hown⟩:=how
  have hlp:len≠0:=fun e=>by rw [e] at hpos;simp at hpos
  rcases hown with ⟨h,_⟩ | ⟨g,cap,cur,h,hg0,hg,hnc,hcm,hcz,htake⟩
  ·cases h
  simp only [Value.slice.injEq,Option.some.injEq,Addr.mk.injEq] at h
  obtain ⟨⟨rfl,-,-⟩,hln,rfl⟩:=h
  have hrows:=hr w hm
  have hlen:=hrows.length
  rw [hfl,hl] at hlen
  have hb:w.heap[b]?=some (.cells cur.toList.toArray e' (0,0)):=by simpa using hg
  have hcl:cur.toList.length=len * El'.size:=by rw [Array.length_toList,hcz]
  have hus:u.cells.toList=cs:=by rw [hcs]
  have hzs:=Nat.eq_of_beq_eq_true hsz
  have hr':=zcm (P:=P) (w:=w) hT hsz h1 (b:=b) (o:=0) (XV hb (by rw [hcl];rw [hcs];simp [hlen]))
  refine ⟨_,_,φ,by simp [execOp,hE _ _ hx,hE _ _ hy,hr'];rfl,?_,hφ,k⟩
  obtain ⟨s1,s2,s3⟩:=Zh b u.cells.toList 0 w
  have hput:XB cur.toList 0 cs=cs:=by
   have key:∀ (vs l:List Value),vs.length=l.length→∀ p:List Value,XB (p++l) p.length vs=p++vs:=by
    intro vs
    induction vs with
    | nil=>intro l hl p;cases l with
     | nil=>rfl
     | cons _ _=>simp at hl
    | cons a r ih=>intro l hl p;cases l with
     | nil=>simp at hl
     | cons c l =>
      rw [XB]
      have:(p++c :: l).set p.length a=(p++[a])++l:=by simp
      rw [this]
      have:=ih l (by simpa using hl) (p++[a])
      simpa using this
   simpa using key cs cur.toList (by omega) []
  have hup:=Zl b e' (0,0) u.cells.toList 0 cur.toList w hb
  rw [hus,hput] at hup
  refine hm.upd hi s1 s2 s3 (by rw [xH];exact Nat.le_refl _) (fun x _ hx=>ur b _ _ _ _ (fun e=>hx (by rw [e];rfl))) (fun x hx=>⟨?_,.inl hx⟩) ?_
  ·have hx':some b=some x:=hx
   cases hx'
   rw [xH]
   exact (Array.getElem?_eq_some_iff.1 hg).1
  ·have hsame:∀ c,fz G L w c→(w.setCells b 0 u.cells.toList).heap[c]?=w.heap[c]?:=fun c hc=>ur b _ _ _ _ (fun e''=>hc.2.2 _ (xu hi) (by rw [e''];rfl))
   have hk:=hrows.keep (F':=fz G (yE L i (ze El' e' (.slice (some ⟨b,0,none⟩) len len) xs)) (w.setCells b 0 u.cells.toList)) (fun c hc=>⟨by rw [xH];exact hc.1,hc.2.1,fun x hx=>by
    rcases ZE hi hm.disj hx with e'' | ⟨e1,_⟩
    ·subst e'';exact fun hk=>hc.2.2 _ (xu hi) hk
    ·exact hc.2.2 x e1⟩) hsame
   subst hl
   have h0':=hk.length
   rw [hfl] at h0'
   refine ⟨css,hk,by rw [hfl];exact h0',.inr ⟨b,xs.length,cs.toArray,rfl,hg0,by rw [hus];exact hup,Nat.le_refl _,hcm,by simpa using h0',by rw [hfl,← h0'];simp⟩⟩
end
section
variable {P:Program} {n:Nat} {G D:Nat→Prop} {w0:World} {Q:Exit→Act→World→Prop} {R:Act→World→Prop} {E:Env} {L M:List Ch} {φ:Prop}
variable {d:Tmp} {ty:TypeId} {pos:String} {aft:Array Edge} {gd:Option (Nat×Bool)} {Tk:Act→World→Prop} {Lr:List Ch} {x y:Operand} {T T' S:TypeId} {e sz by':Nat}
end
section
variable {P:Program} {n:Nat} {G D:Nat→Prop} {w0:World} {Q:Exit→Act→World→Prop} {R:Act→World→Prop} {E:Env} {L:List Ch} {φ:Prop}
variable {d:Tmp} {ty:TypeId} {pos:String} {aft:Array Edge} {gd:Option (Nat×Bool)} {Tk:Act→World→Prop} {Lr:List Ch} {x y:Operand} {T T' S:TypeId}
theorem ji {b o sz:Nat} {cs cs':List Value} {T0:TypeId} {row:Bool} {u:Value} (i:Nat) (hT:tyB P T=some (row,sz)) (k:Nx n G D w0 R E (yE L i (zc b cs' T0)) φ) (hi:xB L i=some (zc b cs T0):=by rfl) (hx:oev E x=some (.pointer (some ⟨b,o,none⟩)):=by rfl) (hy:oev E y=some u:=by rfl) (hsz:Nat.beq u.cells.size sz=true:=by rfl) (h1:u.cells.toList.all (·.oneCell')=true:=by rfl) (hle:Nat.ble (o+sz) cs.length=true:=by rfl) (hcs:XB cs o u.cells.toList=cs':=by rfl):Nx n G D w0 (fun a w=>Oper.wp P ⟨none,.store T x y,ty,pos,aft,gd⟩ a w R Q) E L φ:=zdt i hi hx hy hT hsz h1 hle hcs k
end
section
variable {P:Program} {n:Nat} {G D:Nat→Prop} {w0:World} {Q:Exit→Act→World→Prop} {R:Act→World→Prop} {E:Env} {L:List Ch} {φ:Prop}
variable {d:Tmp} {ty:TypeId} {pos:String} {aft:Array Edge} {gd:Option (Nat×Bool)} {Tk:Act→World→Prop} {Lr:List Ch} {x y:Operand} {T T' S:TypeId} {e sz by':Nat}
theorem VN {α:Type} {El':El α} {enc:α→List Value} {v:Value} {xs:List α} {I:Int} {z y':α} {o sz fs:Nat} {row:Bool} {u:Value} (i:Nat) (hfl:Y9 El' enc) (hz:xs[I.toNat]?=some z) (hT:tyB P T=some (row,fs)) (k:Nx n G D w0 R E (yE L i (ze El' e v (xs.set I.toNat y'))) φ) (hi:xB L i=some (ze El' e v xs):=by rfl) (hes:El'.size=sz:=by rfl) (hx:oev E x=some (pEl v I sz o):=by rfl) (hy:oev E y=some u:=by rfl) (hsz:Nat.beq u.cells.size fs=true:=by rfl) (h1:u.cells.toList.all (·.oneCell')=true:=by rfl) (hle:Nat.ble (o+fs) sz=true:=by rfl) (hy':XB (enc z) o u.cells.toList=enc y':=by rfl):Nx n G D w0 (fun a w=>Oper.wp P ⟨none,.store T x y,ty,pos,aft,gd⟩ a w R Q) E L φ :=
 zdR rfl fun ρ w hE hm hφ=>by
  have hlt:=(List.getElem?_eq_some_iff.1 hz).1
  obtain ⟨css,hr,hown⟩:=hm.get hi
  have hcss:=hr.length
  obtain ⟨h0,hown⟩:=hown
  rcases hown with ⟨_,hn⟩ | ⟨g,cap,cur,rfl,hg0,hg,hnc,hcm,hcs,htake⟩
  ·omega
  rw [yX] at hx
  have hzs:=Nat.eq_of_beq_eq_true hsz
  have hle':=Nat.le_of_ble_eq_true hle
  have hb:w.heap[g]?=some (.cells cur.toList.toArray e (0,0)):=by simpa using hg
  have hsub:I.toNat * sz+sz≤xs.length * sz:=by rw [← Nat.succ_mul];exact Nat.mul_le_mul_right _ hlt
  have hcap:xs.length * sz≤cap * sz:=Nat.mul_le_mul_right _ hnc
  have hcl:cur.toList.length=cap * sz:=by rw [Array.length_toList,hcs,hes]
  have hr':=zcm (P:=P) (w:=w) hT hsz h1 (b:=g) (o:=0+I.toNat * sz+o) (XV hb (by rw [hzs,hcl];omega))
  refine ⟨_,_,φ,by simp [execOp,hE _ _ hx,hE _ _ hy] at hr' ⊢;rw [hr'];rfl,?_,hφ,k⟩
  obtain ⟨s1,s2,s3⟩:=Zh g u.cells.toList (I.toNat * sz+o) w
  refine hm.upd hi s1 s2 s3 (by rw [xH];exact Nat.le_refl _) (fun x _ hx=>ur g _ _ _ _ (fun e=>hx (by rw [e];rfl))) (fun x hx=>⟨?_,.inl hx⟩) ?_
  ·have hx':some g=some x:=hx
   cases hx'
   rw [xH]
   exact (Array.getElem?_eq_some_iff.1 hg).1
  ·
   have hcz:El'.cells (fz G L w) w z (enc z):=(hfl _ _ _ _).2 rfl
   obtain ⟨pre,post,old,e1,e2,e3,css',e4,e5⟩:=hr.set I.toNat (y:=y') (ds:=enc y') hlt ((hfl _ _ _ _).2 rfl)
   have hold:old=enc z:=by
    obtain ⟨cs,c1,c2⟩:=hr.get hz
    rw [(hfl _ _ _ _).1 c1] at c2
    apply List.ext_getElem?
    intro j
    by_cases hj:j<(enc z).length
    ·have:=c2 j (enc z)[j] (List.getElem?_eq_getElem hj)
     rw [e1,List.append_assoc,← e2,List.getElem?_append_right (by omega),show pre.length+j - pre.length=j by omega,List.getElem?_append_left (by rw [e3,← hfl.size w z];exact hj)] at this
     rw [this,List.getElem?_eq_getElem hj]
    ·rw [List.getElem?_eq_none (by rw [e3,← hfl.size w z];omega),List.getElem?_eq_none (by omega)]
   have hlz:(enc z).length=sz:=by rw [hfl.size w z,hes]
   have hup:=Zl g e (0,0) u.cells.toList (I.toNat * sz+o) cur.toList w hb
   refine ⟨css',?_,?_,.inr ⟨g,cap,(XB cur.toList (I.toNat * sz+o) u.cells.toList).toArray,by simp,hg0,hup,by simpa using hnc,hcm,by simpa [Xz] using hcs,?_⟩⟩
   ·have go:∀ (F F':Nat→Prop) (w':World) (ys:List α) (dss:List (List Value)),Rows El' F w ys dss→Rows El' F' w' ys dss:=by
     intro F F' w' ys
     induction ys with
     | nil=>intro dss h;cases dss <;> first | trivial | exact h.elim
     | cons y0 r ih=>intro dss h;cases dss with
      | nil=>exact h.elim
      | cons d0 ds=>exact ⟨hfl.free _ _ _ _ _ _ h.1,ih ds h.2⟩
    exact go _ _ _ _ _ e5
   ·have:=e5.length
    simpa using this
   ·rw [e4]
    have hct:cur.toList=pre++old++(post++cur.toList.drop (xs.length * sz)):=by
     rw [← List.append_assoc,← e1,← htake,hes,List.take_append_drop]
    rw [hct,← hes,← e2,Yf _ _ _ _ _ (by rw [hold,hlz];simp;omega),hold,hy',← List.append_assoc]
    rw [List.length_set]
    have hly:(enc y').length=El'.size:=hfl.size w y'
    have htot:(pre++enc y'++post).length=xs.length * El'.size:=by
     have h5:=congrArg List.length e1
     rw [hcss] at h5
     simp at h5 ⊢
     omega
    rw [← htot]
    exact List.take_left
end
section
variable {P:Program} {n:Nat} {G D:Nat→Prop} {w0:World} {Q:Exit→Act→World→Prop} {R:Act→World→Prop} {E:Env} {L:List Ch} {φ:Prop}
variable {d:Tmp} {ty:TypeId} {pos:String} {aft:Array Edge} {gd:Option (Nat×Bool)} {Tk:Act→World→Prop} {Lr:List Ch} {x y:Operand} {T T' S:TypeId} {e sz by':Nat}
end
section
variable {P:Program} {n:Nat} {G D:Nat→Prop} {w0:World} {Q:Exit→Act→World→Prop} {R:Act→World→Prop} {E:Env} {L:List Ch} {φ:Prop}
variable {d:Tmp} {ty:TypeId} {pos:String} {aft:Array Edge} {gd:Option (Nat×Bool)} {Tk:Act→World→Prop} {Lr:List Ch} {x y:Operand} {T T':TypeId}
theorem Xb (M:un P n G D w0 E ⟨some d,.binOp .sub T x y T',ty,pos,aft,gd⟩ Tk R Lr L) {X Y:Int} {κ:Int→Prop} (k:∀ z,Nx n G D w0 R ((d,.int .i64 z) :: E) L (κ z)) (hx:oev E x=some (.int .i64 X):=by rfl) (hy:oev E y=some (.int .i64 Y):=by rfl) (hd:Nat.blt d n=true:=by rfl):Nx n G D w0 Tk E L (Un X Y κ):=ziu M hx hy hd k
end
section
variable {P:Program} {n:Nat} {G D:Nat→Prop} {w0:World} {Q:Exit→Act→World→Prop} {R:Act→World→Prop} {E:Env} {L:List Ch} {φ:Prop}
variable {d:Tmp} {ty:TypeId} {pos:String} {aft:Array Edge} {gd:Option (Nat×Bool)} {Tk:Act→World→Prop} {Lr:List Ch} {x y:Operand} {T T' S:TypeId} {e sz by':Nat} {at':Array TypeId}
end
section
variable {P:Program} {n:Nat} {G D:Nat→Prop} {w0:World} {Q:Exit→Act→World→Prop} {R:Act→World→Prop} {E:Env} {L:List Ch} {φ:Prop}
variable {d:Tmp} {ty:TypeId} {pos:String} {aft:Array Edge} {gd:Option (Nat×Bool)} {Tk:Act→World→Prop} {Lr:List Ch} {x y:Operand} {T T':TypeId}
theorem zhn (M:un P n G D w0 E ⟨some d,.binOp .sub T x y T',ty,pos,aft,gd⟩ Tk R Lr L) {X Y:Int} (k:Nx n G D w0 R ((d,.int .i64 (w64 (X - Y))) :: E) L φ) (hx:oev E x=some (.int .i64 X):=by rfl) (hy:oev E y=some (.int .i64 Y):=by rfl) (hd:Nat.blt d n=true:=by rfl):Nx n G D w0 Tk E L φ :=
 M.val hd rfl (fun ρ w hE _ _=>by simp [execOp,hE _ _ hx,hE _ _ hy,go_sem,w64]) id k
end
section
variable {P:Program} {n:Nat} {G D:Nat→Prop} {w0:World} {Q:Exit→Act→World→Prop} {R:Act→World→Prop} {E:Env} {L:List Ch} {φ:Prop}
variable {d:Tmp} {ty:TypeId} {pos:String} {aft:Array Edge} {gd:Option (Nat×Bool)} {Tk:Act→World→Prop} {Lr:List Ch} {x y:Operand} {T T' S:TypeId} {e sz by':Nat} {at':Array TypeId}
theorem zk6 (M:un P n G D w0 E ⟨some d,.binOp .xor T x y T',ty,pos,aft,gd⟩ Tk R Lr L) {X Y:Int} {κ:Int→Prop} (k:∀ z,Nx n G D w0 R ((d,.int .i64 z) :: E) L (κ z)) (hx:oev E x=some (.int .i64 X):=by rfl) (hy:oev E y=some (.int .i64 Y):=by rfl) (hd:Nat.blt d n=true:=by rfl):Nx n G D w0 Tk E L (zlK X Y κ) :=
 M.val (v:=.int .i64 ((X.toNat ^^^ Y.toNat:Nat):Int)) hd rfl (fun ρ w hE _ hφ=>by
  obtain ⟨h1,h2,h3,h4,_⟩:=hφ
  have e0:(2:Nat) ^ 62=4611686018427387904:=by decide
  have e:=zmk X.toNat Y.toNat (by omega) (by omega)
  rw [Int.toNat_of_nonneg h1,Int.toNat_of_nonneg h3] at e
  simp [execOp,hE _ _ hx,hE _ _ hy,go_sem,e]) (fun h=>h.2.2.2.2) (k _)
end
end
section
open Go.RowKit
section
variable {P:Program} {n:Nat} {G D:Nat→Prop} {w0:World} {E:Env} {L:List Ch} {φ:Prop}
theorem y0 {i1:Nat} {l1:List Oper} {y0:Code} {Q0:Exit→Act→World→Prop} (h:Nx n G D w0 (wpList P l1.toArray (Exit.then (y0.wp P Q0) Q0) l1) E L φ):Nx n G D w0 ((Code.seq (Code.region i1 l1.toArray false) y0).wp P Q0) E L φ:=jv (zp h)
theorem y1 {o0:Array Oper} {K1:Act→World→Prop} {Q1:Exit→Act→World→Prop} (h:Nx n G D w0 K1 E L φ):Nx n G D w0 (wpList P o0 (Exit.then K1 Q1) []) E L φ:=zx (zR h)
theorem y2 {o0:Array Oper} {i3:Nat} {l3:List Oper} {y2:Code} {Q2:Exit→Act→World→Prop} {Q1:Exit→Act→World→Prop} (h:Nx n G D w0 (wpList P l3.toArray (Exit.then (y2.wp P Q2) Q2) l3) E L φ):Nx n G D w0 (wpList P o0 (Exit.then ((Code.seq (Code.region i3 l3.toArray false) y2).wp P Q2) Q1) []) E L φ:=zx (zR (jv (zp h)))
theorem y3 {o0:Array Oper} {Q2:Exit→Act→World→Prop} {Q1:Exit→Act→World→Prop} (h:Nx n G D w0 (Q2 .ret) E L φ):Nx n G D w0 (wpList P o0 (Exit.then (Code.ret.wp P Q2) Q1) []) E L φ:=zx (zR (uB h))
theorem y4 {o0:Array Oper} {i4:Nat} {l4:List Oper} {y3:Code} {y2:Code} {Q2:Exit→Act→World→Prop} {Q1:Exit→Act→World→Prop} (h:Nx n G D w0 (wpList P l4.toArray (Exit.then (y3.wp P (Exit.then (y2.wp P Q2) Q2)) (Exit.then (y2.wp P Q2) Q2)) l4) E L φ):Nx n G D w0 (wpList P o0 (Exit.then ((Code.seq (Code.seq (Code.region i4 l4.toArray false) y3) y2).wp P Q2) Q1) []) E L φ:=zx (zR (jv (jv (zp h))))
theorem y5 {o0:Array Oper} {i2:Nat} {c2:Code} {Q2:Exit→Act→World→Prop} {Q1:Exit→Act→World→Prop} (h:Nx n G D w0 (c2.wp P (Exit.inBlock i2 Q2)) E L φ):Nx n G D w0 (wpList P o0 (Exit.then ((Code.block i2 c2).wp P Q2) Q1) []) E L φ:=zx (zR (uk h))
theorem y6 {o0:Array Oper} {K3:Act→World→Prop} {Q3:Exit→Act→World→Prop} {Q1:Exit→Act→World→Prop} (h:Nx n G D w0 (Q3 .ret) E L φ):Nx n G D w0 (wpList P o0 (Exit.then (Code.ret.wp P (Exit.then K3 Q3)) Q1) []) E L φ:=zx (zR (uB (xq h)))
theorem y7 {i3:Nat} {K1:Act→World→Prop} {K2:Act→World→Prop} {i6:Nat} {l6:List Oper} {y5:Code} {Q5:Exit→Act→World→Prop} {Q4:Exit→Act→World→Prop} (h:Nx n G D w0 (wpList P l6.toArray (Exit.then (y5.wp P Q5) Q5) l6) E L φ):Nx n G D w0 ((Code.exit i3).wp P (Exit.then K1 (Exit.then K2 (Exit.inBlock i3 (Exit.then ((Code.seq (Code.region i6 l6.toArray false) y5).wp P Q5) Q4))))) E L φ:=Xv (uX (uX (XG (zR (jv (zp h))))))
theorem y8 {i3:Nat} {l3:List Oper} {y2:Code} {Q2:Exit→Act→World→Prop} {Q1:Exit→Act→World→Prop} (h:Nx n G D w0 (wpList P l3.toArray (Exit.then (y2.wp P Q2) Q2) l3) E L φ):Nx n G D w0 (Code.skip.wp P (Exit.then ((Code.seq (Code.region i3 l3.toArray false) y2).wp P Q2) Q1)) E L φ:=jW (zR (jv (zp h)))
theorem y9 {o0:Array Oper} {x2:Code} {y2:Code} {Q2:Exit→Act→World→Prop} {Q1:Exit→Act→World→Prop} (h:Nx n G D w0 (x2.wp P (Exit.then (y2.wp P Q2) Q2)) E L φ):Nx n G D w0 (wpList P o0 (Exit.then ((Code.seq x2 y2).wp P Q2) Q1) []) E L φ:=zx (zR (jv h))
theorem y10 {i2:Nat} {l2:List Oper} {y1:Code} {y0:Code} {Q0:Exit→Act→World→Prop} (h:Nx n G D w0 (wpList P l2.toArray (Exit.then (y1.wp P (Exit.then (y0.wp P Q0) Q0)) (Exit.then (y0.wp P Q0) Q0)) l2) E L φ):Nx n G D w0 ((Code.seq (Code.seq (Code.region i2 l2.toArray false) y1) y0).wp P Q0) E L φ:=jv (jv (zp h))
theorem y11 {i3:Nat} {i5:Nat} {l5:List Oper} {y4:Code} {y2:Code} {Q2:Exit→Act→World→Prop} {Q1:Exit→Act→World→Prop} (h:Nx n G D w0 (wpList P l5.toArray (Exit.then (y4.wp P (Exit.inBlock i3 (Exit.then (y2.wp P Q2) Q2))) (Exit.inBlock i3 (Exit.then (y2.wp P Q2) Q2))) l5) E L φ):Nx n G D w0 (Code.skip.wp P (Exit.then ((Code.seq (Code.block i3 (Code.seq (Code.region i5 l5.toArray false) y4)) y2).wp P Q2) Q1)) E L φ:=jW (zR (jv (uk (jv (zp h)))))
theorem y12 {o0:Array Oper} {i1:Nat} {Q1:Exit→Act→World→Prop} (h:Nx n G D w0 (Q1 .normal) E L φ):Nx n G D w0 (wpList P o0 (Exit.inBlock i1 Q1) []) E L φ:=zx (Zi h)
theorem y13 {i4:Nat} {l4:List Oper} {y3:Code} {y2:Code} {Q2:Exit→Act→World→Prop} {Q1:Exit→Act→World→Prop} (h:Nx n G D w0 (wpList P l4.toArray (Exit.then (y3.wp P (Exit.then (y2.wp P Q2) Q2)) (Exit.then (y2.wp P Q2) Q2)) l4) E L φ):Nx n G D w0 (Code.skip.wp P (Exit.then ((Code.seq (Code.seq (Code.region i4 l4.toArray false) y3) y2).wp P Q2) Q1)) E L φ:=jW (zR (jv (jv (zp h))))
theorem y14 {i1:Nat} {i3:Nat} {l3:List Oper} {Q3:Exit→Act→World→Prop} {Q2:Exit→Act→World→Prop} (h:Nx n G D w0 (wpList P l3.toArray Q3 l3) E L φ):Nx n G D w0 (Code.skip.wp P (Exit.inBlock i1 (Exit.then ((Code.region i3 l3.toArray false).wp P Q3) Q2))) E L φ:=jW (Zi (zR (zp h)))
theorem y15 {o0:Array Oper} {i1:Nat} {i3:Nat} {l3:List Oper} {Q3:Exit→Act→World→Prop} {Q2:Exit→Act→World→Prop} (h:Nx n G D w0 (wpList P l3.toArray Q3 l3) E L φ):Nx n G D w0 (wpList P o0 (Exit.inBlock i1 (Exit.then ((Code.region i3 l3.toArray false).wp P Q3) Q2)) []) E L φ:=zx (Zi (zR (zp h)))
theorem y16 {o0:Array Oper} {i3:Nat} {K4:Act→World→Prop} {K5:Act→World→Prop} {i6:Nat} {K7:Act→World→Prop} {Q7:Exit→Act→World→Prop} {Q1:Exit→Act→World→Prop} (h:Nx n G D w0 (Q7 .ret) E L φ):Nx n G D w0 (wpList P o0 (Exit.then (Code.ret.wp P (Exit.inBlock i3 (Exit.then K4 (Exit.then K5 (Exit.inBlock i6 (Exit.then K7 Q7)))))) Q1) []) E L φ:=zx (zR (uB (uC (xq (xq (uC (xq h)))))))
theorem y17 {o0:Array Oper} {i2:Nat} {l2:List Oper} {Q2:Exit→Act→World→Prop} {Q1:Exit→Act→World→Prop} (h:Nx n G D w0 (wpList P l2.toArray Q2 l2) E L φ):Nx n G D w0 (wpList P o0 (Exit.then ((Code.region i2 l2.toArray false).wp P Q2) Q1) []) E L φ:=zx (zR (zp h))
theorem y18 {K1:Act→World→Prop} {Q1:Exit→Act→World→Prop} (h:Nx n G D w0 K1 E L φ):Nx n G D w0 (Code.skip.wp P (Exit.then K1 Q1)) E L φ:=jW (zR h)
theorem y19 {o0:Array Oper} {K3:Act→World→Prop} {i4:Nat} {K5:Act→World→Prop} {K6:Act→World→Prop} {i7:Nat} {K8:Act→World→Prop} {Q8:Exit→Act→World→Prop} {Q1:Exit→Act→World→Prop} (h:Nx n G D w0 (Q8 .ret) E L φ):Nx n G D w0 (wpList P o0 (Exit.then (Code.ret.wp P (Exit.then K3 (Exit.inBlock i4 (Exit.then K5 (Exit.then K6 (Exit.inBlock i7 (Exit.then K8 Q8))))))) Q1) []) E L φ:=zx (zR (uB (xq (uC (xq (xq (uC (xq h))))))))
theorem y20 {i0:Nat} {i2:Nat} {l2:List Oper} {y1:Code} {Q0:Exit→Act→World→Prop} (h:Nx n G D w0 (wpList P l2.toArray (Exit.then (y1.wp P (Exit.inBlock i0 Q0)) (Exit.inBlock i0 Q0)) l2) E L φ):Nx n G D w0 ((Code.block i0 (Code.seq (Code.region i2 l2.toArray false) y1)).wp P Q0) E L φ:=uk (jv (zp h))
theorem y21 {i2:Nat} {l2:List Oper} {Q2:Exit→Act→World→Prop} {Q1:Exit→Act→World→Prop} (h:Nx n G D w0 (wpList P l2.toArray Q2 l2) E L φ):Nx n G D w0 (Code.skip.wp P (Exit.then ((Code.region i2 l2.toArray false).wp P Q2) Q1)) E L φ:=jW (zR (zp h))
theorem y22 {i3:Nat} {i4:Nat} {l4:List Oper} {y2:Code} {Q2:Exit→Act→World→Prop} {Q1:Exit→Act→World→Prop} (h:Nx n G D w0 (wpList P l4.toArray (Exit.inBlock i3 (Exit.then (y2.wp P Q2) Q2)) l4) E L φ):Nx n G D w0 (Code.skip.wp P (Exit.then ((Code.seq (Code.block i3 (Code.region i4 l4.toArray false)) y2).wp P Q2) Q1)) E L φ:=jW (zR (jv (uk (zp h))))
theorem y23 {i1:Nat} {Q1:Exit→Act→World→Prop} (h:Nx n G D w0 (Q1 .normal) E L φ):Nx n G D w0 (Code.skip.wp P (Exit.inBlock i1 Q1)) E L φ:=jW (Zi h)
theorem y24 {o0:Array Oper} {i3:Nat} {K4:Act→World→Prop} {Q4:Exit→Act→World→Prop} {Q1:Exit→Act→World→Prop} (h:Nx n G D w0 (Q4 .ret) E L φ):Nx n G D w0 (wpList P o0 (Exit.then (Code.ret.wp P (Exit.inBlock i3 (Exit.then K4 Q4))) Q1) []) E L φ:=zx (zR (uB (uC (xq h))))
theorem y25 {i3:Nat} {x4:Code} {y4:Code} {y2:Code} {Q2:Exit→Act→World→Prop} {Q1:Exit→Act→World→Prop} (h:Nx n G D w0 (x4.wp P (Exit.then (y4.wp P (Exit.inBlock i3 (Exit.then (y2.wp P Q2) Q2))) (Exit.inBlock i3 (Exit.then (y2.wp P Q2) Q2)))) E L φ):Nx n G D w0 (Code.skip.wp P (Exit.then ((Code.seq (Code.block i3 (Code.seq x4 y4)) y2).wp P Q2) Q1)) E L φ:=jW (zR (jv (uk (jv h))))
theorem y26 {o0:Array Oper} {i2:Nat} {i4:Nat} {l4:List Oper} {y3:Code} {Q2:Exit→Act→World→Prop} {Q1:Exit→Act→World→Prop} (h:Nx n G D w0 (wpList P l4.toArray (Exit.then (y3.wp P (Exit.inBlock i2 Q2)) (Exit.inBlock i2 Q2)) l4) E L φ):Nx n G D w0 (wpList P o0 (Exit.then ((Code.block i2 (Code.seq (Code.region i4 l4.toArray false) y3)).wp P Q2) Q1) []) E L φ:=zx (zR (uk (jv (zp h))))
theorem y27 {i3:Nat} {K1:Act→World→Prop} {K2:Act→World→Prop} {i4:Nat} {i6:Nat} {l6:List Oper} {Q6:Exit→Act→World→Prop} {Q5:Exit→Act→World→Prop} (h:Nx n G D w0 (wpList P l6.toArray Q6 l6) E L φ):Nx n G D w0 ((Code.exit i3).wp P (Exit.then K1 (Exit.then K2 (Exit.inBlock i3 (Exit.inBlock i4 (Exit.then ((Code.region i6 l6.toArray false).wp P Q6) Q5)))))) E L φ:=Xv (uX (uX (XG (Zi (zR (zp h))))))
theorem y28 {i3:Nat} {c3:Code} {y2:Code} {Q2:Exit→Act→World→Prop} {Q1:Exit→Act→World→Prop} (h:Nx n G D w0 (c3.wp P (Exit.inBlock i3 (Exit.then (y2.wp P Q2) Q2))) E L φ):Nx n G D w0 (Code.skip.wp P (Exit.then ((Code.seq (Code.block i3 c3) y2).wp P Q2) Q1)) E L φ:=jW (zR (jv (uk h)))
theorem y29 {i0:Nat} {i2:Nat} {l2:List Oper} {Q2:Exit→Act→World→Prop} {Q1:Exit→Act→World→Prop} (h:Nx n G D w0 (wpList P l2.toArray Q2 l2) E L φ):Nx n G D w0 ((Exit.inBlock i0 (Exit.then ((Code.region i2 l2.toArray false).wp P Q2) Q1)) .normal) E L φ:=Zi (zR (zp h))
theorem y30 {i3:Nat} {K1:Act→World→Prop} {K2:Act→World→Prop} {K4:Act→World→Prop} {Q4:Exit→Act→World→Prop} (h:Nx n G D w0 K4 E L φ):Nx n G D w0 ((Code.exit i3).wp P (Exit.then K1 (Exit.then K2 (Exit.inBlock i3 (Exit.then K4 Q4))))) E L φ:=Xv (uX (uX (XG (zR h))))
theorem y31 {i2:Nat} {i3:Nat} {l3:List Oper} {Q2:Exit→Act→World→Prop} {Q1:Exit→Act→World→Prop} (h:Nx n G D w0 (wpList P l3.toArray (Exit.inBlock i2 Q2) l3) E L φ):Nx n G D w0 (Code.skip.wp P (Exit.then ((Code.block i2 (Code.region i3 l3.toArray false)).wp P Q2) Q1)) E L φ:=jW (zR (uk (zp h)))
theorem y32 {i3:Nat} {K1:Act→World→Prop} {K2:Act→World→Prop} {i7:Nat} {l7:List Oper} {y6:Code} {y5:Code} {Q5:Exit→Act→World→Prop} {Q4:Exit→Act→World→Prop} (h:Nx n G D w0 (wpList P l7.toArray (Exit.then (y6.wp P (Exit.then (y5.wp P Q5) Q5)) (Exit.then (y5.wp P Q5) Q5)) l7) E L φ):Nx n G D w0 ((Code.exit i3).wp P (Exit.then K1 (Exit.then K2 (Exit.inBlock i3 (Exit.then ((Code.seq (Code.seq (Code.region i7 l7.toArray false) y6) y5).wp P Q5) Q4))))) E L φ:=Xv (uX (uX (XG (zR (jv (jv (zp h)))))))
end
end
section
open Go.RowKit
section
variable {P:Program} {n:Nat} {G D:Nat→Prop} {w0:World} {Q:Exit→Act→World→Prop} {R:Act→World→Prop} {E:Env} {L M:List Ch} {φ:Prop}
variable {d:Tmp} {ty:TypeId} {pos:String} {aft:Array Edge} {gd:Option (Nat×Bool)} {Tk:Act→World→Prop} {Lr:List Ch} {x y:Operand} {T T' S:TypeId} {e sz by':Nat} {at':Array TypeId}
theorem zho {ψ:Prop} (h:φ→ψ) (k:Nx n G D w0 R E L ψ):Nx n G D w0 R E L φ:=fun a w hE hm hφ=>k a w hE hm (h hφ)
theorem zjp (M:un P n G D w0 E ⟨some d,.call {callee:=.builtin .cap,args:=#[x],argTypes:=#[T]},ty,pos,aft,gd⟩ Tk R Lr L) {p:TypeId×Nat×Nat} (hT:elB P T=some p) (hx:oev E x=some (.slice none 0 0)) (hd:Nat.blt d n=true)
  (k:Nx n G D w0 R ((d,.int .i64 0) :: E) L φ):Nx n G D w0 Tk E L φ :=
 M.val hd rfl (fun ρ w hE hm _=>by
  obtain ⟨e,b,c⟩:=p
  obtain ⟨hu,_⟩:=yo hT
  simp [execOp,resolve,invoke,builtin,hE _ _ hx,Builtin.cap_,run_underlying hu,goInt]) id k
theorem zkF (M:un P n G D w0 E ⟨some d,.slice T x none (some y) none,ty,pos,aft,gd⟩ Tk R Lr L) {a:Option Addr} {l c:Nat} (hT:elB P T=some (e,sz,by')) (hx:oev E x=some (.slice a l c)) (ha:a=none∨∃ b,a=some ⟨b,0,none⟩) (hc:a=none→c=0) (hy:oev E y=some (.int .i64 0)) (hd:Nat.blt d n=true)
  (k:Nx n G D w0 R ((d,.slice a 0 c) :: E) L φ):Nx n G D w0 Tk E L φ :=
 M.val hd rfl (fun ρ w hE hm _=>by
  obtain ⟨hu,inf,hinf,rfl,rfl⟩:=yo hT
  rcases ha with rfl | ⟨b,rfl⟩
  ·obtain rfl:=hc rfl
   simp [execOp,hE _ _ hx,hE _ _ hy,Instr.sliceAt,Instr.slice,Instr.sliceBounds,Instr.sliceBound,asIntOf,run_underlying hu,sizeOf,typeInfo,hinf]
  ·simp [execOp,hE _ _ hx,hE _ _ hy,Instr.sliceAt,Instr.slice,Instr.sliceBounds,Instr.sliceBound,asIntOf,run_underlying hu,sizeOf,typeInfo,hinf,Addr.add]) id k
theorem zk7 {α:Type} {El':El α} {N:Int} {zs:List Value} (hx:oev E x=some (.slice none 0 0)) (hy:oev E y=some (.int .i64 N)) (hd:Nat.blt d n=true) (hT:elB P T=some (e,sz,by')) (htn:P.underlying T'=some (.int .i64)) (hby:Nat.ble by' 32768=true) (hzr:uH P e=some zs) (hzl:Nat.beq zs.length sz=true) (hes:El'.size=sz)
  (h0:0<N) (h1:N≤4294967296) (k:∀ b c,Nx n G D w0 R ((d,.slice (some ⟨b,0,none⟩) N.toNat c) :: E) (ze El' e (.slice (some ⟨b,0,none⟩) 0 c) [] :: L) φ) :
  Nx n G D w0 (fun a w=>Oper.wp P ⟨some d,.call {callee:=.builtin .append,args:=#[x,y],argTypes:=#[T,T']},ty,pos,aft,gd⟩ a w R Q) E L φ :=
 X1 hd rfl fun ρ w hE hm hφ=>by
  obtain ⟨hu,inf,hinf,rfl,rfl⟩:=yo hT
  obtain ⟨z',hz',hzc⟩:=Zn hzr hinf
  obtain ⟨m,rfl⟩:=Int.eq_ofNat_of_zero_le (show 0≤N by omega)
  have hbl:=Nat.le_of_ble_eq_true hby
  have hl:=Nat.eq_of_beq_eq_true hzl
  have hp:=El'.pos
  have hb:m * inf.bytes≤281474976710656:=by
   have:m * inf.bytes≤4294967296 * 32768:=Nat.mul_le_mul (by omega) hbl
   omega
  have hr:=Lib.run_append_nil_zeros (P:=P) w T T' ty e inf z' .i64 .i64 hu htn hinf hz' m (by omega) (by omega) (by omega) hb
  have hge:=grownCap_ge w m 0 e
  have hcm:grownCap w m 0 e≤maxLen:=grownCap_le_maxLen w m 0 e (by unfold maxLen;omega)
  refine ⟨_,_,_,φ,by simp [execOp,resolve,invoke,builtin,hE _ _ hx,hE _ _ hy,hr];exact ⟨rfl,rfl⟩,?_,hφ,by simpa using k w.heap.size (grownCap w m 0 e)⟩
  refine hm.add _ (((Below.refl _ w).drew).alloc (Nat.le_refl _) _) (fun b hb=>by simp [ze,Value.ownBlock] at hb;rw [World.size_alloc];simp;omega) ?_
  refine ⟨[],trivial,by simp,.inr ⟨w.heap.size,_,_,rfl,Nat.zero_le _,heap_alloc_new w.drew _,Nat.zero_le _,hcm,?_,by simp⟩⟩
  rw [Array.size_append,size_zeroCells,size_zeroCells,hzc,hes]
  simp only [List.size_toArray,hl]
  rw [← Nat.add_mul]
  congr 1
  omega
theorem Rows.drop {α:Type} {El:El α} {F:Nat→Prop} {w:World}:∀ {xs:List α} {css:List (List Value)} (J:Nat),Rows El F w xs css→Rows El F w (xs.drop J) (css.drop J)∧(css.drop J).flatten=css.flatten.drop (J * El.size)
 | [],[],J,h=>by simp [Rows]
 | x :: xs,cs :: css,0,h=>⟨h,by simp⟩
 | x :: xs,cs :: css,J+1,h=>by
  obtain ⟨h1,h2⟩:=Rows.drop (xs:=xs) (css:=css) J h.2
  have hl:=El.len F w x cs h.1
  refine ⟨h1,?_⟩
  simp only [List.drop_succ_cons,List.flatten_cons,h2]
  have e:(J+1) * El.size=cs.length+J * El.size:=by rw [hl,Nat.add_mul];omega
  rw [e,List.drop_length_add_append]
 | [],_ :: _,_,h=>by simp [Rows] at h
 | _ :: _,[],_,h=>by simp [Rows] at h
theorem zeI:∀ (vs cs:List Value) (o k:Nat),k≤o→(XB cs o vs).take k=cs.take k
 | [],_,_,_,_=>rfl
 | v :: r,cs,o,k,h=>by
  rw [XB,zeI r _ _ k (by omega)]
  apply List.ext_getElem?
  intro j
  simp only [List.getElem?_take]
  split
  ·rw [List.getElem?_set_ne (by omega)]
  ·rfl
theorem zjW {α:Type} {El':El α} {v:Value} {xs:List α} (i:Nat) (hi:xB L i=some (ze El' e v xs)) (h:∀ a cap,v=.slice a xs.length cap→xs.length≤cap→((a=none∧cap=0)∨∃ b,a=some ⟨b,0,none⟩)→Nx n G D w0 R E L φ):Nx n G D w0 R E L φ:=fun a w hE hm hφ=>by
 obtain ⟨css,_,_,hv⟩:=(hm.get hi:Own El' e _ w v xs)
 rcases hv with ⟨hv,h0⟩ | ⟨g,cap,cur,hv,_,_,hle,_⟩
 ·exact h none 0 (by rw [hv,h0]) (by omega) (.inl ⟨rfl,rfl⟩) a w hE hm hφ
 ·exact h _ cap hv hle (.inr ⟨g,rfl⟩) a w hE hm hφ
theorem zlm {lo hi mx:Operand} (M:un P n G D w0 E ⟨some d,.slice T x (some lo) (some hi) (some mx),ty,pos,aft,gd⟩ Tk R Lr L) {a:Option Addr} {l cap:Nat} {I J:Int} (hT:elB P T=some (e,sz,by')) (hx:oev E x=some (.slice a l cap)) (hlo:oev E lo=some (.int .i64 I)) (hhi:oev E hi=some (.int .i64 J)) (hmx:oev E mx=some (.int .i64 l)) (hd:Nat.blt d n=true)
  (hI:0≤I) (hIJ:I≤J) (hJ:J≤l) (hc:l≤cap) (ha:(a=none∧cap=0)∨∃ b,a=some ⟨b,0,none⟩) (k:∀ u,Nx n G D w0 R ((d,u) :: E) L φ):Nx n G D w0 Tk E L φ :=
 M.val (v:=slv a l I.toNat J.toNat sz) hd rfl (fun ρ w hE hm _=>by
  obtain ⟨hu,inf,hinf,rfl,rfl⟩:=yo hT
  have e1:(l:Int)≤(cap:Int):=by omega
  have e2:0≤J:=by omega
  have e3:I≤(J.toNat:Int):=by omega
  have e4:J≤(l:Int):=hJ
  rcases ha with ⟨rfl,rfl⟩ | ⟨b,rfl⟩
  ·obtain rfl:l=0:=by omega
   obtain rfl:J=0:=by omega
   obtain rfl:I=0:=by omega
   simp [slv,execOp,hE _ _ hx,hE _ _ hlo,hE _ _ hhi,hE _ _ hmx,Instr.sliceAt,Instr.slice,Instr.sliceBounds,Instr.sliceBound,asIntOf,run_underlying hu,sizeOf,typeInfo,hinf]
  ·simp [slv,execOp,hE _ _ hx,hE _ _ hlo,hE _ _ hhi,hE _ _ hmx,Instr.sliceAt,Instr.slice,Instr.sliceBounds,Instr.sliceBound,asIntOf,run_underlying hu,sizeOf,typeInfo,hinf,e1,e2,e3,e4,hI,hc,show I≤max J 0 by omega]) id (k _)
theorem zls (M:un P n G D w0 E ⟨some d,.slice T x none (some y) none,ty,pos,aft,gd⟩ Tk R Lr L) {b l cap I:Nat} (hT:elB P T=some (e,sz,by')) (hx:oev E x=some (.slice (some ⟨b,0,none⟩) l cap)) (hy:oev E y=some (.int .i64 I)) (hd:Nat.blt d n=true) (hI:I≤cap)
  (k:Nx n G D w0 R ((d,.slice (some ⟨b,0,none⟩) I cap) :: E) L φ):Nx n G D w0 Tk E L φ :=
 M.val hd rfl (fun ρ w hE hm _=>by
  obtain ⟨hu,inf,hinf,rfl,rfl⟩:=yo hT
  have e1:(I:Int)≤(cap:Int):=by omega
  simp [execOp,hE _ _ hx,hE _ _ hy,Instr.sliceAt,Instr.slice,Instr.sliceBounds,Instr.sliceBound,asIntOf,run_underlying hu,sizeOf,typeInfo,hinf,e1,hI,Addr.add_mid,Nat.not_lt.2 hI]) id k
theorem zk1 (M:un P n G D w0 E ⟨some d,.slice T x (some y) none none,ty,pos,aft,gd⟩ Tk R Lr L) {b l cap J:Nat} (hT:elB P T=some (e,sz,by')) (hx:oev E x=some (.slice (some ⟨b,0,none⟩) l cap)) (hy:oev E y=some (.int .i64 J)) (hd:Nat.blt d n=true) (hJ:J≤l) (hl:l≤cap)
  (k:Nx n G D w0 R ((d,.slice (some (if cap=J then ⟨b,0,none⟩ else ⟨b,J * sz,none⟩)) (l - J) (cap - J)) :: E) L φ):Nx n G D w0 Tk E L φ :=
 M.val hd rfl (fun ρ w hE hm _=>by
  obtain ⟨hu,inf,hinf,rfl,rfl⟩:=yo hT
  have e1:(J:Int)≤(l:Int):=by omega
  have e2:(l:Int)≤(cap:Int):=by omega
  simp [execOp,hE _ _ hx,hE _ _ hy,Instr.sliceAt,Instr.slice,Instr.sliceBounds,Instr.sliceBound,asIntOf,run_underlying hu,sizeOf,typeInfo,hinf,e1,e2,hJ,hl,Addr.add_mid]
  split <;> rfl) id k
theorem zli {z:Operand} (M:un P n G D w0 E ⟨some d,.slice T x (some y) (some z) none,ty,pos,aft,gd⟩ Tk R Lr L) {b l cap I J:Nat} (hT:elB P T=some (e,sz,by')) (hx:oev E x=some (.slice (some ⟨b,0,none⟩) l cap)) (hy:oev E y=some (.int .i64 I)) (hz:oev E z=some (.int .i64 J)) (hd:Nat.blt d n=true) (hI:I<J) (hJ:J≤cap)
  (k:Nx n G D w0 R ((d,.slice (some ⟨b,I * sz,none⟩) (J - I) (cap - I)) :: E) L φ):Nx n G D w0 Tk E L φ :=
 M.val hd rfl (fun ρ w hE hm _=>by
  obtain ⟨hu,inf,hinf,rfl,rfl⟩:=yo hT
  have e1:(I:Int)≤(J:Int):=by omega
  have e2:(J:Int)≤(cap:Int):=by omega
  have e3:¬ cap=I:=by omega
  simp [execOp,hE _ _ hx,hE _ _ hy,hE _ _ hz,Instr.sliceAt,Instr.slice,Instr.sliceBounds,Instr.sliceBound,asIntOf,run_underlying hu,sizeOf,typeInfo,hinf,e1,e2,e3,hJ,show I≤J by omega,Addr.add_mid]) id k
theorem zim {c c':Ch} {i:Nat} {w w':World} (m:Mem G D w0 L w) (hi:xB L i=some c) (hz:w.heap.size≤w'.heap.size) (hf:∀ b,c'.foot b→c.foot b):∀ b,fz G L w b→fz G (yE L i c') w' b:=fun b hb=>⟨by have:=hb.1;omega,hb.2.1,fun x hx=>by
 rcases ZE hi m.disj hx with e' | ⟨e1,_⟩
 ·subst e';exact fun hk=>hb.2.2 _ (xu hi) (hf b hk)
 ·exact hb.2.2 x e1⟩
theorem zlH {α:Type} {El':El α} {xs:List α} {b I J cap c:Nat} (i:Nat) (hi:xB L i=some (ze El' e (.slice (some ⟨b,0,none⟩) xs.length cap) xs)) (hIJ:I≤J) (hJ:J≤xs.length)
  (hx:oev E x=some (.slice (some ⟨b,0,none⟩) I cap)) (hy:oev E y=some (.slice (some (if cap=J then ⟨b,0,none⟩ else ⟨b,J * sz,none⟩)) (xs.length - J) c)) (hd:Nat.blt d n=true) (hT:elB P T=some (e,sz,by')) (hes:El'.size=sz)
  (k:Nx n G D w0 R ((d,.slice (some ⟨b,0,none⟩) (I+(xs.length - J)) cap) :: E) (yE L i (ze El' e (.slice (some ⟨b,0,none⟩) (I+(xs.length - J)) cap) (xs.take I++xs.drop J))) φ) :
  Nx n G D w0 (fun a w=>Oper.wp P ⟨some d,.call {callee:=.builtin .append,args:=#[x,y],argTypes:=#[T,T]},ty,pos,aft,gd⟩ a w R Q) E L φ :=
 X1 hd rfl fun ρ w hE hm hφ=>by
  obtain ⟨hu,inf,hinf,rfl,rfl⟩:=yo hT
  obtain ⟨css,hr,h0,how⟩:=hm.get hi
  rcases how with ⟨h,_⟩ | ⟨g,cap',cur,h,hg0,hg,hnc,hcm,hcz,htake⟩
  ·cases h
  simp only [Value.slice.injEq,Option.some.injEq,Addr.mk.injEq,true_and] at h
  obtain ⟨⟨rfl,-⟩,rfl⟩:=h
  obtain ⟨r1,r2⟩:=Rows.take I hr
  obtain ⟨r3,r4⟩:=Rows.drop J hr
  have hcl:=hr.length
  have hI:I≤xs.length:=by omega
  have m1:I * El'.size≤xs.length * El'.size:=Nat.mul_le_mul_right _ hI
  have m2:J * El'.size≤xs.length * El'.size:=Nat.mul_le_mul_right _ hJ
  have m3:xs.length * El'.size≤cap * El'.size:=Nat.mul_le_mul_right _ hnc
  have m4:(xs.length - J) * El'.size=xs.length * El'.size - J * El'.size:=Nat.sub_mul _ _ _
  have m5:I * El'.size≤J * El'.size:=Nat.mul_le_mul_right _ hIJ
  have hnl:(css.drop J).flatten.length=(xs.length - J) * inf.size:=by rw [r4,List.length_drop,hcl,hes.symm,m4]
  have hcur:cur.toList.length=cap * El'.size:=by rw [Array.length_toList,hcz]
  have hone:=r3.one
  have hcell:∀ j u,(css.drop J).flatten[j]?=some u→w.cell? ((if cap=J then (⟨b,0,none⟩:Addr) else ⟨b,J * inf.size,none⟩).add j)=some u:=fun j u hj=>by
   have hjl:=(List.getElem?_eq_some_iff.1 hj).1
   rw [r4,← htake,List.getElem?_drop,List.getElem?_take] at hj
   split at hj
   ·rename_i hlt
    have hne:¬ cap=J:=fun e'=>by
     rw [r4,List.length_drop,hcl] at hjl
     subst e'
     omega
    rw [if_neg hne,Addr.add_mid,cell_of_row w b _ cur e (0,0) hg,← hes]
    simpa using hj
   ·cases hj
  have hrun:=run_append_room (P:=P) w T ty e inf hu hinf b I cap cur hg _ (xs.length - J) c _ hnl hcell hone (by omega) (by rw [hnl,← hes,← Array.length_toList,hcur];omega)
  obtain ⟨cs',hcs'⟩:∃ c,c=(cur.toList.take (I * inf.size)++(css.drop J).flatten++cur.toList.drop (I * inf.size+(css.drop J).flatten.length)).toArray:=⟨_,rfl⟩
  rw [← hcs'] at hrun
  refine ⟨_,_,_,φ,by simp [execOp,resolve,invoke,builtin,hE _ _ hx,hE _ _ hy,hrun];first | exact ⟨rfl,rfl⟩ | rfl,?_,hφ,k⟩
  have hup:=setRow_heap w b cur cs' e (0,0) hg
  refine hm.upd hi rfl rfl rfl (by simp) (fun x _ hx=>setRow_other w b x _ (fun e'=>hx (by rw [e'];rfl))) (fun x hx=>⟨?_,.inl hx⟩) ?_
  ·have hx':some b=some x:=hx
   cases hx'
   exact (Array.getElem?_eq_some_iff.1 hup).1
  ·have hfz:=zim (c':=ze El' e (.slice (some ⟨b,0,none⟩) (I+(xs.length - J)) cap) (xs.take I++xs.drop J)) (w':=w.setRow b cs') hm hi (by simp) (fun _ h=>h)
   have hsame:∀ x,fz G L w x→(w.setRow b cs').heap[x]?=w.heap[x]?:=fun x hx=>setRow_other w b x _ (fun e'=>hx.2.2 _ (xu hi) (by rw [e'];rfl))
   have hln:(xs.take I++xs.drop J).length=I+(xs.length - J):=by simp;omega
   refine ⟨css.take I++css.drop J,Rows.append (r1.keep hfz hsame) (r3.keep hfz hsame),?_,.inr ⟨b,cap,_,by rw [hln],hg0,hup,by omega,hcm,?_,?_⟩⟩
   ·rw [List.flatten_append,List.length_append,r2,hnl,List.length_take,hcl,hln,Nat.add_mul,← hes];omega
   ·rw [hcs',← Array.length_toList]
    simp only [List.length_append,List.length_take,List.length_drop,hnl,hcur,← hes]
    omega
   ·rw [hcs',hln,List.flatten_append,r2,← htake,List.take_take,Nat.min_eq_left m1,← hes,Nat.add_mul]
    rw [List.take_append_of_le_length (by simp only [List.length_append,List.length_take,hnl,hcur,← hes];omega)]
    rw [List.take_of_length_le (by simp only [List.length_append,List.length_take,hnl,hcur,← hes];omega)]
theorem zlo {α:Type} {El':El α} {ys:List α} {b m cap q c:Nat} {zs:List Value} (i:Nat) (hi:xB L i=some (ze El' e (.slice (some ⟨b,0,none⟩) m cap) ys)) (hq:m+q≤cap) (hq0:0<q) (hx:oev E x=some (.slice (some ⟨b,m * sz,none⟩) q c)) (hT:elB P T=some (e,sz,by')) (hes:El'.size=sz) (hzr:uH P e=some zs) (hzl:Nat.beq zs.length sz=true) (hone:zs.all (·.oneCell')=true)
  (k:Nx n G D w0 R E L φ):Nx n G D w0 (fun a w=>Oper.wp P ⟨none,.call {callee:=.builtin .clear,args:=#[x],argTypes:=#[T]},ty,pos,aft,gd⟩ a w R Q) E L φ:=fun a w hE hm hφ=>by
 obtain ⟨hu,inf,hinf,rfl,rfl⟩:=yo hT
 obtain ⟨z',hz',hzc⟩:=Zn hzr hinf
 obtain ⟨css,hr,h0,how⟩:=hm.get hi
 have hl:=Nat.eq_of_beq_eq_true hzl
 rcases how with ⟨h,_⟩ | ⟨g,cap',cur,h,hg0,hg,hnc,hcm,hcz,htake⟩
 ·cases h
 simp only [Value.slice.injEq,Option.some.injEq,Addr.mk.injEq] at h
 obtain ⟨⟨rfl,-,-⟩,rfl,rfl⟩:=h
 have m1:(ys.length+q) * El'.size≤cap * El'.size:=Nat.mul_le_mul_right _ hq
 have hb:w.heap[b]?=some (.cells cur.toList.toArray e (0,0)):=by simpa using hg
 have hcl:cur.toList.length=cap * El'.size:=by rw [Array.length_toList,hcz]
 have hzs:(Builtin.zeroCells z'.cells q).toList.length=q * El'.size:=by rw [Array.length_toList,size_zeroCells,hzc,hes];simp [hl]
 have hth:=XV (b:=b) (o:=ys.length * El'.size) (sz:=q * El'.size) hb (by rw [hcl,← Nat.add_mul];exact m1)
 have hst:=run_storeCells_cells (P:=P) b (ys.length * El'.size) (Builtin.zeroCells z'.cells q).toList 0 w (fun j hj=>by simpa using (hth j (by rw [hzs] at hj;exact hj)).1) (fun j hj=>by simpa using (hth j (by rw [hzs] at hj;exact hj)).2) (fun v hv=>by
  have hv':v∈Builtin.zeroCells z'.cells q:=by simpa using hv
  unfold Builtin.zeroCells at hv'
  obtain ⟨j,hj,rfl⟩:=Array.mem_map.1 hv'
  rw [hzc]
  have hp:=El'.pos
  have hlt:j % zs.toArray.size<zs.length:=by simpa using Nat.mod_lt j (show 0<zs.toArray.size by simp;omega)
  rw [getElem!_pos zs.toArray _ (by simpa using hlt)]
  exact List.all_eq_true.1 hone _ (by simp))
 simp only [Nat.add_zero] at hst
 have hx':=hE.eval hx
 have hrun:(execOp a.eval ⟨none,.call {callee:=.builtin .clear,args:=#[x],argTypes:=#[T]},ty,pos,aft,gd⟩).run P w=.ok (.value (.tuple #[])) (w.setCells b (ys.length * El'.size) (Builtin.zeroCells z'.cells q).toList):=by
  rw [← hes] at hx'
  obtain ⟨q',rfl⟩:∃ q',q=q'+1:=⟨q - 1,by omega⟩
  simp [execOp,resolve,invoke,builtin,hx',Builtin.clear_,run_underlying hu,zeroValue,typeInfo,hinf,hz',hst]
 show Oper.upon P _ a R Q _
 rw [hrun,Oper.upon_value]
 obtain ⟨s1,s2,s3⟩:=Zh b (Builtin.zeroCells z'.cells q).toList (ys.length * El'.size) w
 have hid:∀ {L:List Ch} {i:Nat} {c:Ch},xB L i=some c→yE L i c=L:=by
  intro L
  induction L with
  | nil=>intro i c h;rfl
  | cons d r ih=>intro i c h;cases i with
   | zero=>simp [xB] at h;subst h;rfl
   | succ i=>simp [xB] at h;simp [yE,ih h]
 refine k _ _ (hE.put_none _) ?_ hφ
 have hup:=Zl b e (0,0) (Builtin.zeroCells z'.cells q).toList (ys.length * El'.size) cur.toList w hb
 have:=hm.upd (c':=ze El' e (.slice (some ⟨b,0,none⟩) ys.length cap) ys) hi s1 s2 s3 (by rw [xH];exact Nat.le_refl _) (fun x _ hx=>ur b _ _ _ _ (fun e'=>hx (by rw [e'];rfl))) (fun x hx=>⟨by
   have hx':some b=some x:=hx
   cases hx'
   rw [xH]
   exact (Array.getElem?_eq_some_iff.1 hg).1,.inl hx⟩) (by
  have hfz:=zim (c':=ze El' e (.slice (some ⟨b,0,none⟩) ys.length cap) ys) (w':=w.setCells b (ys.length * El'.size) (Builtin.zeroCells z'.cells q).toList) hm hi (by rw [xH];exact Nat.le_refl _) (fun _ h=>h)
  refine ⟨css,hr.keep hfz (fun x hx=>ur b _ _ _ _ (fun e'=>hx.2.2 _ (xu hi) (by rw [e'];rfl))),h0,.inr ⟨b,cap,_,rfl,hg0,hup,hnc,hcm,by simpa [Xz] using hcz,?_⟩⟩
  simp only [zeI _ _ _ _ (Nat.le_refl _)]
  exact htake)
 rw [hid hi] at this
 exact this
end
end
section
open Go.RowKit
section
variable {P:Program} {n:Nat} {G D:Nat→Prop} {w0:World} {Q:Exit→Act→World→Prop} {R:Act→World→Prop} {E:Env} {L M:List Ch} {φ:Prop}
variable {d:Tmp} {ty:TypeId} {pos:String} {aft:Array Edge} {gd:Option (Nat×Bool)} {Tk:Act→World→Prop} {Lr:List Ch} {x y:Operand} {T T' S:TypeId} {e sz by':Nat} {at':Array TypeId}
theorem Mem.putObj {i b:Nat} {o o':Obj} {w:World} (m:Mem G D w0 L w) (hi:xB L i=some (yj b o)):Mem G D w0 (yE L i (yj b o')) (w.putObj b o'):=by
 have hb:w.heap[b]?=some o:=m.get hi
 have hlt:=(Array.getElem?_eq_some_iff.1 hb).1
 refine m.upd hi rfl rfl rfl (by simp) (fun x _ hx=>World.putObj_heap_other (fun e=>hx e)) (fun x hx=>⟨?_,.inl hx⟩) (World.putObj_heap_same hlt)
 have hx':x=b:=hx
 subst hx'
 simpa using hlt
theorem zks {l i:Nat} {rc:Loop} {Kb:Act→World→Prop} (hi:xB L i=some (yj l (.loop rc))) (hr:rc.state=.ready) (k:Nx n G D w0 Kb E (yE L i (yj l (.loop {rc with state:=.busy}))) φ) :
  Nx n G D w0 (fun a w=>∃ w₂,(Instr.beginRound l).run P w=.ok () w₂∧Kb a w₂) E L φ:=fun a w hE hm hφ =>
 ⟨_,run_beginRound (P:=P) (hm.get hi) hr,k a _ hE (hm.putObj hi) hφ⟩
theorem Mem.absLoop {l:Nat} {rc0:Loop} {w:World} (m:Mem G D w0 (yj l (.loop rc0) :: L) w):∃ rc,rc=rc0∧Mem G D w0 (yj l (.loop rc) :: L) w:=⟨rc0,rfl,m⟩
theorem zl1 {l i:Nat} {rc:Loop} {Rr:Ending→World→Prop} (hi:xB L i=some (yj l (.loop rc))) (h:∀ w,Mem G D w0 (yE L i (yj l (.loop {rc with state:=.ready,pending:=none}))) w→φ→Rr (.returned (.bool true)) w) :
  Nx n G D w0 (roundPost P l Rr .normal) E L φ:=fun a w hE hm hφ =>
 ⟨_,_,run_endRound (P:=P) none (hm.get hi),h _ (hm.putObj hi) hφ⟩
theorem zkX {l i:Nat} {rc:Loop} {Rr:Ending→World→Prop} (hi:xB L i=some (yj l (.loop rc))) (h:∀ w,Mem G D w0 (yE L i (yj l (.loop {rc with state:=.done,pending:=some .ret}))) w→φ→Rr (.returned (.bool false)) w) :
  Nx n G D w0 (roundPost P l Rr .ret) E L φ:=fun a w hE hm hφ =>
 ⟨_,_,run_endRound (P:=P) (some .ret) (hm.get hi),h _ (hm.putObj hi) hφ⟩
theorem Mem.laid {w:World} (o:Obj) (m:Mem G D w0 L w):Mem G D w0 (yj w.heap.size o :: L) (w.alloc o) :=
 m.add _ ((Below.refl _ _).alloc (Nat.le_refl _) _) (fun b hb=>by have hb':b=w.heap.size:=hb;subst hb';simp) (World.alloc_heap_new w o)
theorem zjO {g:Operand} {ps:Array Tmp} {assign body:Code} {gf:Nat} {lb:List Value} (hg:oev E g=some (.func (.func gf) #[] lb.toArray)) (eg:∀ args w,(callFunc gf args).run P w=.ok (.enter gf args) w)
  (h:∀ (a:Act) (w:World) (fn:FuncId) (l D0:Nat),Has n E a→Mem G D w0 (yj l (.loop {state:=.ready,pending:=none,fn,tmps:=a.tmps,params:=ps,assign,body,defers:=D0}) :: yj D0 (.deferred (some [])) :: L) w→φ →
   Calls P gf (.func (.yield l) #[] #[] :: lb).toArray w (rangePost Fence.wide 3 P l Q {a with defers:=[{target:=.collected D0,args:=#[]}]})):Nx n G D w0 ((Code.rangeFunc g ps assign body).wp P Q) E L φ:=fun a w hE hm hφ=>by
 refine (wpIn_wide (n:=3)).1 (wpIn_rangeFunc fun fn _=>?_)
 have hgv:=hE.eval hg
 have hcall:=h a ((w.alloc (.deferred (some []))).alloc (.loop {state:=.ready,pending:=none,fn,tmps:=a.tmps,params:=ps,assign,body,defers:=w.heap.size})) fn (w.heap.size+1) w.heap.size hE (by
  have:=(hm.laid (.deferred (some []))).laid (.loop {state:=.ready,pending:=none,fn,tmps:=a.tmps,params:=ps,assign,body,defers:=w.heap.size})
  rwa [World.size_alloc] at this) hφ
 have hrun:=run_enterLoop_outer (P:=P) (w:=w) fn a.tmps ps assign body
 generalize (w.alloc (.deferred (some []))).alloc (.loop {state:=.ready,pending:=none,fn,tmps:=a.tmps,params:=ps,assign,body,defers:=w.heap.size})=W1 at hcall hrun
 refine ⟨w.heap.size+1,[{target:=.collected w.heap.size,args:=#[]}],W1,{target:=.fn (.func gf) lb.toArray,args:=#[.func (.yield (w.heap.size+1)) #[] #[]]},W1,gf,
  (.func (.yield (w.heap.size+1)) #[] #[] :: lb).toArray,W1,hrun,?_,fun f' _=>trivial,?_,fun e=>by simp [Fence.wide] at e,?_⟩
 ·simp only [resolve,hgv]
  simp [go_sem]
 ·simp [invoke,go_sem,eg]
 ·have hd:=hE.defers
  rw [hd]
  exact callsIn_wide.2 hcall
theorem ze4 {l i:Nat} {rc:Loop} {a':Act} {v:Value} {w:World} (m:Mem G D w0 L w) (hi:xB L i=some (yj l (.loop rc))) (hb:rc.state≠.busy)
  (h:∀ w',Mem G D w0 (yE L i (yj l (.loop {rc with state:=.exhausted}))) w'→(match rc.pending with | none=>Q .normal a' w' | some c=>c.wpIn Fence.wide 3 P Q a' w')):rangePost Fence.wide 3 P l Q a' (.returned v) w :=
 ⟨_,_,run_endLoop (P:=P) (m.get hi) hb,h _ (m.putObj hi)⟩
theorem zl6 {ds:List Deferred} {ops:Array Oper} {rest:List Oper} {dst:Option Tmp} {op:Op} (hne:∀ ρ w dd w',(execOp ρ ⟨dst,op,ty,pos,aft,none⟩).run P w≠.ok (.defer dd) w') (h:Nx n G D w0 (fun a w=>Oper.wp P ⟨dst,op,ty,pos,aft,none⟩ a w (fun a w=>wpList P ops Q rest {a with defers:=ds} w) (fun _ _ _=>False)) E L φ) :
  Nx n G D w0 (fun a w=>wpList P ops Q (⟨dst,op,ty,pos,aft,none⟩ :: rest) {a with defers:=ds} w) E L φ:=fun a w hE hm hφ=>by
 show wpList P ops Q (⟨dst,op,ty,pos,aft,none⟩ :: rest) {a with defers:=ds} w
 unfold wpList
 rw [if_pos (by simp [Region.wanted])]
 refine .inl ?_
 have h':Oper.upon P ⟨dst,op,ty,pos,aft,none⟩ a (fun a w=>wpList P ops Q rest {a with defers:=ds} w) (fun _ _ _=>False) ((execOp a.eval ⟨dst,op,ty,pos,aft,none⟩).run P w):=h a w hE hm hφ
 show Oper.upon P ⟨dst,op,ty,pos,aft,none⟩ {a with defers:=ds} (wpList P ops Q rest) Q ((execOp a.eval ⟨dst,op,ty,pos,aft,none⟩).run P w)
 have hne':=hne a.eval w
 revert h' hne'
 generalize (execOp a.eval ⟨dst,op,ty,pos,aft,none⟩).run P w=r
 intro h' hne'
 have hp:∀ v,({a with defers:=ds}:Act).put dst v={a.put dst v with defers:=ds}:=fun v=>by cases dst <;> rfl
 cases r with
 | ok x w' =>
  cases x <;> simp only [Oper.upon,hp] at h' ⊢ <;> first | exact h' | exact absurd rfl (hne' _ _) | (refine Calls.mono h' ?_;intro e w'' hh;cases e <;> first | exact hh | exact False.elim hh | (obtain ⟨_,_,hh⟩:=hh;exact hh.elim)) | (refine Rows.mono h' ?_;intro e w'' hh;exact hh) | exact False.elim h'
 | halt x w'=>cases x <;> first | exact h' | exact False.elim h'
theorem stD {ds:List Deferred} {ops:Array Oper} {rest:List Oper} {dst:Option Tmp} {op:Op}:un P n G D w0 E ⟨dst,op,ty,pos,aft,none⟩ (fun a w=>wpList P ops Q (⟨dst,op,ty,pos,aft,none⟩ :: rest) {a with defers:=ds} w) (fun a w=>wpList P ops Q rest {a with defers:=ds} w) L L :=
 ⟨fun hd ho hr hψ k=>fun a w hE hm hφ=>by
  show wpList P ops Q (⟨dst,op,ty,pos,aft,none⟩ :: rest) {a with defers:=ds} w
  unfold wpList
  rw [if_pos (by simp [Region.wanted])]
  refine .inl ?_
  show Oper.upon P _ _ _ Q ((execOp a.eval ⟨dst,op,ty,pos,aft,none⟩).run P w)
  rw [hr a.eval w (fun x v h=>hE.eval h) hm hφ,Oper.upon_value,ho]
  exact k _ _ (hE.put hd _) hm (hψ hφ)⟩
theorem zgv {T:TypeId} {x y:Operand}:∀ ρ w dd w',(execOp ρ ⟨none,.store T x y,ty,pos,aft,none⟩).run P w≠.ok (.defer dd) w':=fun ρ w dd w' h=>by
 simp only [execOp] at h
 rw [Sem.run_bind] at h
 cases hr:(Instr.storeAt T (ρ x) (ρ y)).run P w with
 | ok u w2=>rw [hr] at h;simp [Result.andThen] at h
 | halt u w2=>rw [hr] at h;simp [Result.andThen] at h
theorem zif {ds:List Deferred} {id:Nat} {l:List Oper} (h:Nx n G D w0 (fun a w=>wpList P l.toArray Q l {a with defers:=ds} w) E L φ):Nx n G D w0 (fun a w=>(Code.region id l.toArray false).wp P Q {a with defers:=ds} w) E L φ:=fun a w hE hm hφ=>wp_region_lit (h a w hE hm hφ)
theorem zll {ds:List Deferred} {x y:Code} (h:Nx n G D w0 (fun a w=>x.wp P (Exit.then (y.wp P Q) Q) {a with defers:=ds} w) E L φ):Nx n G D w0 (fun a w=>(Code.seq x y).wp P Q {a with defers:=ds} w) E L φ:=fun a w hE hm hφ=>wp_seq (h a w hE hm hφ)
theorem zk3 {ds:List Deferred} (h:Nx n G D w0 (fun a w=>Q .ret {a with defers:=ds} w) E L φ):Nx n G D w0 (fun a w=>Code.ret.wp P Q {a with defers:=ds} w) E L φ:=fun a w hE hm hφ=>wp_ret (h a w hE hm hφ)
theorem zhu {M0:List Ch} {ρ ν:Type} {F:Nat→Prop} {fn:Func} {q q2:ResultVar} {v v2:Value} {κ:ρ→Prop} {val:ρ→ν→Value} {N:ρ→ν→List Ch} {D0 i:Nat} (hi:xB L i=some (yj D0 (.deferred (some [])))) (hres:fn.results=#[q,q2]) (r:ρ) (u:ν)
  (hs:Rv P n G (uA M0) w0 E (yE L i (yj D0 (.deferred none))) q v) (ht:Rv P n G (uA M0) w0 E (yE L i (yj D0 (.deferred none))) q2 v2) (hv:val r u=.tuple #[v,v2])
  (hN:∀ w,Mem G (uA M0) w0 (yE L i (yj D0 (.deferred none))) w→zO M0 F w0 w (N r u)):Nx n G (uA M0) w0 (fun a w=>bodyPostM Fence.wide 3 P fn (Ret M0 F w0 κ val N) .ret {a with defers:=[{target:=.collected D0,args:=#[]}]} w) E L (κ r):=fun a w hE hm hφ=>by
 have hk:=hm.putObj (o':=.deferred none) hi
 refine ⟨by simp,.inl ⟨D0,_,rfl,run_takeDeferred (P:=P) (hm.get hi),?_⟩⟩
 exact ⟨val r u,by simp [UN,hres,hs a _ hE hk,ht a _ hE hk,hv],r,u,hφ,rfl,hk.updD,hN _ hk⟩
theorem zlT {F:Nat→Prop} {f:Nat} {fn:Func} {c:Code} {args:List Value} {K:Ending→World→Prop} (M0:List Ch) (hF:∀ b,F b→b<w0.heap.size∧¬ uA M0 b) (hg:um M0 F w0) (hf:P.funcs[f]?=some fn) (hb:fn.body=some c) (hn:fn.ntmps=n) (hle:Nat.ble args.length n=true)
  (hφ:φ) (h:Nx n (gB F M0 w0) (uA M0) w0 (c.wp P (bodyPostM Fence.wide 3 P fn K)) (zaa 0 args) (M0++[zi w0 F]) φ):Calls P f args.toArray w0 K:=by
 have hle':=Nat.le_of_ble_eq_true hle
 refine (callsIn_wide (n:=3)).1 (callsIn_of_wp_marks hf hb trivial (wpIn_wide.2 ?_))
 have hfoot:∀ c∈[zi w0 F],∀ b,¬ c.foot b:=fun c hc b h=>by simp only [List.mem_cons,List.not_mem_nil,or_false] at hc;subst hc;exact h
 have hh:∀ c∈[zi w0 F],c.holds F w0:=fun c hc=>by simp only [List.mem_cons,List.not_mem_nil,or_false] at hc;subst hc;exact ⟨fun _ h=>h,fun _ _=>rfl⟩
 refine h _ _ ?_ ?_ hφ
 ·rw [hn]
  have:=Has.enter (args:=args) (f:=n - args.length) (n:=n) (by omega) (zaa 0 args) (fun s v hs=>by have:=zcJ args 0 s v hs;simpa using this.2)
  simpa using this
 ·have hfz:∀ b,F b→fz (gB F M0 w0) (M0++[zi w0 F]) w0 b:=fun b hb=>⟨(hF b hb).1,.inl hb,fun d hd hk=>by
   rcases List.mem_append.1 hd with e | e
   ·exact (hF b hb).2 ⟨d,e,hk⟩
   ·exact hfoot d e b hk⟩
  refine Mem.start w0 _ _ (M0++[zi w0 F]) (fun b h=>.inr h) (fun c hc b hb=>?_) ?_ (fun c hc=>?_)
  ·rcases List.mem_append.1 hc with e | e
   ·exact ⟨hg.lt c e b hb,c,e,hb⟩
   ·exact absurd hb (hfoot c e b)
  ·exact List.pairwise_append.2 ⟨hg.disj,by simp,fun c _ d hd b _ h2=>hfoot d hd b h2⟩
  ·rcases List.mem_append.1 hc with e | e
   ·exact c.keep _ _ w0 w0 hfz (fun _ _=>rfl) (hg.hold c e)
   ·exact c.keep _ _ w0 w0 hfz (fun _ _=>rfl) (hh c e)
end
end
section
open Go.RowKit
theorem xX:zev Tryz.prog 137=some (4,90,false,1):=by kernel_rfl
theorem za1:zev Tryz.prog 152=some (4,3,false,1):=by kernel_rfl
theorem zlC:zev Tryz.prog 163=some (4,162,true,2):=by kernel_rfl
theorem ziU:zev Tryz.prog 203=some (5,4,false,1):=by kernel_rfl
theorem zg3:zev Tryz.prog 204=some (5,3,false,1):=by kernel_rfl
theorem zec:V7 Tryz.prog 101=some (#[(0,1),(1,1)],[(.slice none 0 0),(.bool false)]):=by kernel_rfl
theorem zjf:V7 Tryz.prog 107=some (#[(0,1),(1,1)],[(.slice none 0 0),(.slice none 0 0)]):=by kernel_rfl
theorem zkY:V7 Tryz.prog 131=some (#[(0,1),(1,1)],[(.slice none 0 0),(.int .i64 0)]):=by kernel_rfl
theorem zeo:zkr Tryz.prog 137=some (1,[(.slice none 0 0),(.slice none 0 0),(.slice none 0 0),(.slice none 0 0)]):=by kernel_rfl
theorem ziw:V7 Tryz.prog 146=some (#[(0,4),(4,1)],[(.slice none 0 0),(.slice none 0 0),(.slice none 0 0),(.slice none 0 0),(.bool false)]):=by kernel_rfl
theorem zlF:zkr Tryz.prog 152=some (1,[(.int .i64 0),(.int .i64 0),(.int .i64 0),(.int .i64 0)]):=by kernel_rfl
theorem zlR:V7 Tryz.prog 157=some (#[(0,1),(1,1),(2,1)],[(.slice none 0 0),(.slice none 0 0),(.int .i64 0)]):=by kernel_rfl
theorem zlD:V7 Tryz.prog 169=some (#[(0,1),(1,1),(2,1)],[(.slice none 0 0),(.slice none 0 0),(.bool false)]):=by kernel_rfl
theorem zin:V7 Tryz.prog 208=some (#[(0,1),(1,1)],[(.int .i64 0),(.int .i64 0)]):=by kernel_rfl
theorem zlG:V7 Tryz.prog 212=some (#[(0,1),(1,1)],[(.int .i64 0),(.int .i64 0)]):=by kernel_rfl
theorem zkP:V7 Tryz.prog 25=some (#[(0,1),(1,1)],[(.slice none 0 0),(.bool false)]):=by kernel_rfl
theorem zjI:V7 Tryz.prog 262=some (#[(0,1)],[(.bool false)]):=by kernel_rfl
theorem zkZ:V7 Tryz.prog 264=some (#[(0,1)],[(.int .i64 0)]):=by kernel_rfl
theorem zk4:V7 Tryz.prog 266=some (#[],[]):=by kernel_rfl
theorem zlz:V7 Tryz.prog 267=some (#[],[]):=by kernel_rfl
theorem ziR:V7 Tryz.prog 34=some (#[(0,1),(1,1),(2,1),(3,1)],[(.int .i64 0),(.int .i64 0),(.int .i64 0),(.int .i64 0)]):=by kernel_rfl
theorem UP:V7 Tryz.prog 89=some (#[(0,1),(1,1)],[(.int .i64 0),(.int .i64 0)]):=by kernel_rfl
theorem zbO:V7 Tryz.prog 94=some (#[(0,1)],[(.slice none 0 0)]):=by kernel_rfl
theorem zax:elB Tryz.prog 154=some (208,2,16):=by kernel_rfl
theorem zhr:elB Tryz.prog 155=some (212,2,16):=by kernel_rfl
theorem zd8:elB Tryz.prog 22=some (5,1,1):=by kernel_rfl
theorem XY:elB Tryz.prog 23=some (47,1,24):=by kernel_rfl
theorem zea:elB Tryz.prog 271=some (82,1,24):=by kernel_rfl
theorem zhR:elB Tryz.prog 280=some (4,1,1):=by kernel_rfl
theorem x6:elB Tryz.prog 30=some (101,2,32):=by kernel_rfl
theorem yc:elB Tryz.prog 36=some (94,1,24):=by kernel_rfl
theorem UM:elB Tryz.prog 39=some (3,1,8):=by kernel_rfl
theorem Us:elB Tryz.prog 47=some (77,3,40):=by kernel_rfl
theorem zaY:elB Tryz.prog 75=some (165,4,32):=by kernel_rfl
theorem ZB:elB Tryz.prog 79=some (146,5,104):=by kernel_rfl
theorem yA:elB Tryz.prog 82=some (137,4,96):=by kernel_rfl
theorem jX:elB Tryz.prog 90=some (89,2,16):=by kernel_rfl
theorem XZ:elB Tryz.prog 92=some (90,1,24):=by kernel_rfl
theorem ziZ (x y:Operand) (a0:Int) (a1:Int) (b0:Int) (b1:Int) (w:World):(do eqGuard .neq 89 x y (.agg #[(.int .i64 a0),(.int .i64 a1)]) (.agg #[(.int .i64 b0),(.int .i64 b1)]);binOp .neq 89 (.agg #[(.int .i64 a0),(.int .i64 a1)]) (.agg #[(.int .i64 b0),(.int .i64 b1)]):Sem Value).run Tryz.prog w=.ok (.bool (!decide ((zg.mk a0 a1)=(zg.mk b0 b1)))) w:=by
 simp [go_sem,binOp,Op.equal,Op.maxDepth]
 repeat' split
 all_goals simp_all
theorem YZ:ZT Tryz.prog 101 0=some (0,true,1):=by kernel_rfl
theorem Vz:ZT Tryz.prog 101 1=some (1,false,1):=by kernel_rfl
theorem zbU:ZT Tryz.prog 107 0=some (0,false,1):=by kernel_rfl
theorem zbE:ZT Tryz.prog 107 1=some (1,false,1):=by kernel_rfl
theorem Uj:ZT Tryz.prog 131 0=some (0,false,1):=by kernel_rfl
theorem zd2:ZT Tryz.prog 131 1=some (1,false,1):=by kernel_rfl
theorem zak:ZT Tryz.prog 146 0=some (0,true,4):=by kernel_rfl
theorem zbP:ZT Tryz.prog 146 1=some (4,false,1):=by kernel_rfl
theorem Uk:ZT Tryz.prog 157 0=some (0,false,1):=by kernel_rfl
theorem zdH:ZT Tryz.prog 157 1=some (1,false,1):=by kernel_rfl
theorem zbM:ZT Tryz.prog 157 2=some (2,false,1):=by kernel_rfl
theorem ziD:ZT Tryz.prog 162 1=some (1,false,1):=by kernel_rfl
theorem ZY:ZT Tryz.prog 165 0=some (0,false,1):=by kernel_rfl
theorem Ur:ZT Tryz.prog 165 1=some (1,false,1):=by kernel_rfl
theorem YL:ZT Tryz.prog 165 2=some (2,false,1):=by kernel_rfl
theorem zej:ZT Tryz.prog 165 3=some (3,false,1):=by kernel_rfl
theorem ziW:ZT Tryz.prog 169 0=some (0,false,1):=by kernel_rfl
theorem zcb:ZT Tryz.prog 169 1=some (1,false,1):=by kernel_rfl
theorem X0:ZT Tryz.prog 169 2=some (2,false,1):=by kernel_rfl
theorem zf1:ZT Tryz.prog 208 0=some (0,false,1):=by kernel_rfl
theorem zb4:ZT Tryz.prog 208 1=some (1,false,1):=by kernel_rfl
theorem uU:ZT Tryz.prog 25 0=some (0,false,1):=by kernel_rfl
theorem YJ:ZT Tryz.prog 25 1=some (1,false,1):=by kernel_rfl
theorem zgp:ZT Tryz.prog 262 0=some (0,false,1):=by kernel_rfl
theorem zf3:ZT Tryz.prog 264 0=some (0,false,1):=by kernel_rfl
theorem zdg:ZT Tryz.prog 34 0=some (0,false,1):=by kernel_rfl
theorem zdf:ZT Tryz.prog 34 1=some (1,false,1):=by kernel_rfl
theorem zdd:ZT Tryz.prog 34 2=some (2,false,1):=by kernel_rfl
theorem zfK:ZT Tryz.prog 34 3=some (3,false,1):=by kernel_rfl
theorem VP:ZT Tryz.prog 77 0=some (0,false,1):=by kernel_rfl
theorem Ua:ZT Tryz.prog 77 1=some (1,false,1):=by kernel_rfl
theorem YN:ZT Tryz.prog 77 2=some (2,false,1):=by kernel_rfl
theorem ZV:ZT Tryz.prog 89 0=some (0,false,1):=by kernel_rfl
theorem uo:ZT Tryz.prog 89 1=some (1,false,1):=by kernel_rfl
theorem ua:ZT Tryz.prog 94 0=some (0,false,1):=by kernel_rfl
theorem zdQ (v:Value) (w:World):(method (Tryz.prog.types.size+Made.depth) 262 v "loop.example/packetfilter/impl.unfold").run Tryz.prog w=.ok (279,v) w:=by kernel_rfl
theorem zfp (v:Value) (w:World):(method (Tryz.prog.types.size+Made.depth) 262 v "loop.example/packetfilter/impl.walk").run Tryz.prog w=.ok (280,v) w:=by kernel_rfl
theorem zem (v:Value) (w:World):(method (Tryz.prog.types.size+Made.depth) 264 v "loop.example/packetfilter/impl.unfold").run Tryz.prog w=.ok (282,v) w:=by kernel_rfl
theorem zfh (v:Value) (w:World):(method (Tryz.prog.types.size+Made.depth) 264 v "loop.example/packetfilter/impl.walk").run Tryz.prog w=.ok (283,v) w:=by kernel_rfl
theorem zdp (v:Value) (w:World):(method (Tryz.prog.types.size+Made.depth) 266 v "loop.example/packetfilter/impl.unfold").run Tryz.prog w=.ok (285,v) w:=by kernel_rfl
theorem zfW (v:Value) (w:World):(method (Tryz.prog.types.size+Made.depth) 266 v "loop.example/packetfilter/impl.walk").run Tryz.prog w=.ok (286,v) w:=by kernel_rfl
theorem zeq (v:Value) (w:World):(method (Tryz.prog.types.size+Made.depth) 267 v "loop.example/packetfilter/impl.unfold").run Tryz.prog w=.ok (288,v) w:=by kernel_rfl
theorem zfG (v:Value) (w:World):(method (Tryz.prog.types.size+Made.depth) 267 v "loop.example/packetfilter/impl.walk").run Tryz.prog w=.ok (289,v) w:=by kernel_rfl
theorem zjr:∀ v w,(Instr.makeInterface 262 v).run Tryz.prog w=.ok (.iface 262 v) w:=fun v w=>by kernel_rfl
theorem zlx:∀ v w,(Instr.makeInterface 264 v).run Tryz.prog w=.ok (.iface 264 v) w:=fun v w=>by kernel_rfl
theorem zkW:∀ v w,(Instr.makeInterface 266 v).run Tryz.prog w=.ok (.iface 266 v) w:=fun v w=>by kernel_rfl
theorem zlU:∀ v w,(Instr.makeInterface 267 v).run Tryz.prog w=.ok (.iface 267 v) w:=fun v w=>by kernel_rfl
theorem zmp:∀ v w,(Instr.makeInterface 9 v).run Tryz.prog w=.ok (.iface 9 v) w:=fun v w=>by kernel_rfl
theorem VF:tyB Tryz.prog 101=some (true,2):=by kernel_rfl
theorem zbK:tyB Tryz.prog 107=some (true,2):=by kernel_rfl
theorem jK:tyB Tryz.prog 137=some (true,4):=by kernel_rfl
theorem zdS:tyB Tryz.prog 146=some (true,5):=by kernel_rfl
theorem ziV:tyB Tryz.prog 152=some (true,4):=by kernel_rfl
theorem V1:tyB Tryz.prog 154=some (false,1):=by kernel_rfl
theorem zhQ:tyB Tryz.prog 155=some (false,1):=by kernel_rfl
theorem V2:tyB Tryz.prog 165=some (true,4):=by kernel_rfl
theorem zmm:tyB Tryz.prog 203=some (true,5):=by kernel_rfl
theorem zgs:tyB Tryz.prog 22=some (false,1):=by kernel_rfl
theorem Uu:tyB Tryz.prog 23=some (false,1):=by kernel_rfl
theorem XI:tyB Tryz.prog 25=some (true,2):=by kernel_rfl
theorem ty3:tyB Tryz.prog 3=some (false,1):=by kernel_rfl
theorem zgo:tyB Tryz.prog 30=some (false,1):=by kernel_rfl
theorem UF:tyB Tryz.prog 34=some (true,4):=by kernel_rfl
theorem ty4:tyB Tryz.prog 4=some (false,1):=by kernel_rfl
theorem zcH:tyB Tryz.prog 47=some (false,1):=by kernel_rfl
theorem ty5:tyB Tryz.prog 5=some (false,1):=by kernel_rfl
theorem zgT:tyB Tryz.prog 75=some (false,1):=by kernel_rfl
theorem Vp:tyB Tryz.prog 77=some (true,3):=by kernel_rfl
theorem zid:tyB Tryz.prog 79=some (false,1):=by kernel_rfl
theorem VC:tyB Tryz.prog 82=some (false,1):=by kernel_rfl
theorem zcq:tyB Tryz.prog 89=some (true,2):=by kernel_rfl
theorem x8:tyB Tryz.prog 90=some (false,1):=by kernel_rfl
theorem Xx:tyB Tryz.prog 92=some (false,1):=by kernel_rfl
theorem xA:tyB Tryz.prog 94=some (true,1):=by kernel_rfl
theorem uI:Tryz.prog.underlying 3=some (.int .i64):=by kernel_rfl
theorem zgZ:Tryz.prog.underlying 4=some .bool:=by kernel_rfl
theorem zle:Tryz.prog.underlying 5=some (.int .u8):=by kernel_rfl
theorem zml:Tryz.prog.underlying 79=some (.slice 146):=by kernel_rfl
theorem xf:uH Tryz.prog 101=some [(.slice none 0 0),(.bool false)]:=by kernel_rfl
theorem zdl:uH Tryz.prog 107=some [(.slice none 0 0),(.slice none 0 0)]:=by kernel_rfl
theorem xC:uH Tryz.prog 137=some [(.slice none 0 0),(.slice none 0 0),(.slice none 0 0),(.slice none 0 0)]:=by kernel_rfl
theorem XL:uH Tryz.prog 146=some [(.slice none 0 0),(.slice none 0 0),(.slice none 0 0),(.slice none 0 0),(.bool false)]:=by kernel_rfl
theorem zhK:uH Tryz.prog 152=some [(.int .i64 0),(.int .i64 0),(.int .i64 0),(.int .i64 0)]:=by kernel_rfl
theorem zbB:uH Tryz.prog 165=some [(.int .i64 0),(.int .i64 0),(.int .i64 0),(.bool false)]:=by kernel_rfl
theorem zjV:uH Tryz.prog 203=some [(.bool false),(.bool false),(.bool false),(.bool false),(.bool false)]:=by kernel_rfl
theorem zj0:uH Tryz.prog 204=some [(.int .i64 0),(.int .i64 0),(.int .i64 0),(.int .i64 0),(.int .i64 0)]:=by kernel_rfl
theorem zdi:uH Tryz.prog 208=some [(.int .i64 0),(.int .i64 0)]:=by kernel_rfl
theorem zfN:uH Tryz.prog 212=some [(.int .i64 0),(.int .i64 0)]:=by kernel_rfl
theorem zfc:uH Tryz.prog 25=some [(.slice none 0 0),(.bool false)]:=by kernel_rfl
theorem zau:uH Tryz.prog 3=some [(.int .i64 0)]:=by kernel_rfl
theorem zlE:uH Tryz.prog 30=some [(.slice none 0 0)]:=by kernel_rfl
theorem zbc:uH Tryz.prog 34=some [(.int .i64 0),(.int .i64 0),(.int .i64 0),(.int .i64 0)]:=by kernel_rfl
theorem zkJ:uH Tryz.prog 4=some [(.bool false)]:=by kernel_rfl
theorem zdY:uH Tryz.prog 47=some [(.slice none 0 0)]:=by kernel_rfl
theorem Ut:uH Tryz.prog 77=some [(.slice none 0 0),(.int .i64 0),(.int .i64 0)]:=by kernel_rfl
theorem zcC:uH Tryz.prog 82=some [(.slice none 0 0)]:=by kernel_rfl
theorem xP:uH Tryz.prog 89=some [(.int .i64 0),(.int .i64 0)]:=by kernel_rfl
theorem VM:uH Tryz.prog 90=some [(.slice none 0 0)]:=by kernel_rfl
theorem xd:uH Tryz.prog 94=some [(.slice none 0 0)]:=by kernel_rfl
theorem mixed:Tryz.prog.follows .mixedOrders=true:=by kernel_rfl
theorem zdD {w0:World} {F:Nat→Prop} {v1:Value} {code_0:(List UInt8)} {κ:((List UInt8)×Int)→Prop} (hF:Fr [] F w0) (hv1:Sl zcs F w0 v1 code_0) (h:YC code_0 κ) :
  Calls Tryz.prog 50 #[v1] w0 (Ret [] F w0 κ (fun r (u:Nat×Value)=>.pointer (some ⟨u.1,0,none⟩)) (fun r u=>[zc u.1 [u.2,(I r.2)] 131,jP zcs u.2 r.1])):=by
 refine eS hF Tryz.func50 Tryz.ntmps50 h ?_;clear h hF;let JJ:=Jn 11 [] F w0;refine y0 ?_;refine ma ?_;refine y1 ?_;refine zW (σ:=(List UInt8)) (fun (xs68:(List UInt8)) (a:Act) (w:World)=>∃ (v67:Value),JJ [(0,v67)] [jP zcs v67 xs68] a w) ?_ ?_
 ·intro k71;refine y0 ?_;refine mv ?_;refine zH st zd8 0 (zd hv1) ?_;refine uG st ?_;refine y1 ?_;refine zl ?_ ?_
  ·refine zp ?_;refine mv ?_;refine jG 0 rfl hv1 ?_;refine stw (Xa (I:=0) (J:=2000) 0 zd8 ?_);intro v3 xs4;refine ma ?_;refine zx ?_;exact zN xs4 (jE v3 [0])
  ·refine jW ?_;exact zN code_0 (fun a w hE hm=>⟨v1,hE.sub g1,(hm.snote 0 rfl hv1).pick [0] rfl⟩)
 ·rintro xs68 a w ⟨v67,hE,hm⟩ h;refine jz hE hm h ?_;clear hE hm h;refine y0 ?_;refine mv ?_;refine Zo 0 rfl ?_;rintro a72 l73 q74 rfl;refine xy st (qs:=[(0,.slice a72 l73 q74)]) (cells:=[.slice a72 l73 q74,I 0]) (bqi rfl) zkY ?_;refine stw (xe [.slice a72 l73 q74,I 0] ?_);intro b75;refine ma ?_;refine y3 ?_;exact ju Tryz.results50 (xs68,0) (b75,.slice a72 l73 q74) (jq rfl) (fun w m=>zO.ofB m [0,1] rfl)
theorem jV {w0:World} {F:Nat→Prop} {b1:Nat} {v2:Value} {r_0_b:(List UInt8)} {r_0_p n_1:Int} {κ:(Int×Int)→Prop} (hF:Fr [zc b1 [v2,(I r_0_p)] 131] F w0) (hg:um [zc b1 [v2,(I r_0_p)] 131] F w0) (hv2:Sl zcs F w0 v2 r_0_b) (h:jk r_0_b r_0_p n_1 κ) :
  Calls Tryz.prog 52 #[(pp b1),(I n_1)] w0 (Ret [zc b1 [v2,(I r_0_p)] 131] F w0 κ (fun r (u:Unit)=>(I r.1)) (fun r u=>[zc b1 [v2,(I r.2)] 131])):=by
 refine Z9 (args:=[pp b1,I n_1]) [zc b1 [v2,I r_0_p] 131] hF hg Tryz.func52 rfl Tryz.ntmps52 rfl h ?_;clear h hF hg;let JJ:=Jn 99 [zc b1 [v2,I r_0_p] 131] F w0;refine y0 ?_;refine ma ?_;refine y2 ?_;refine mv ?_;refine mv ?_;refine jF st ?_;refine zw st zd2 ?_;refine zm st (v:=(I r_0_p)) 0 ty3 ?_;refine zV st ?_;intro t5;refine jF st ?_;refine zw st zd2 ?_;refine stw (ji (cs':=[v2,I t5]) 0 ty3 ?_);refine y9 ?_;refine zW (σ:=Bool) (fun t66=>JJ [(0,pp b1),(1,I n_1),(24,.bool t66)] [zc b1 [v2,I t5] 131,zi w0 F]) ?_ ?_
 ·intro k67;refine zp ?_;refine mv ?_;refine ja st ?_;refine mv ?_;refine xa (dj:=17) rfl ?_ ?_
  ·refine ss ?_;refine ss ?_;refine ss ?_;refine ss ?_;refine ss ?_;refine ss ?_;refine zP st ?_;refine zx ?_;exact lj [0,1]
  ·refine zr (zQ rfl rfl) ?_;refine jF (zQ rfl rfl) ?_;refine zw (zQ rfl rfl) Uj ?_;refine zm (zQ rfl rfl) (v:=v2) 0 zgs ?_;refine zH (zQ rfl rfl) zd8 1 (zd hv2) ?_;refine xm (zQ rfl rfl) uI ?_;refine zF st ?_;refine zx ?_;exact lj [0,1]
 ·rintro t66;refine nxj ?_;refine zl ?_ ?_
  ·refine y0 ?_;refine ma ?_;refine y6 ?_;exact ju Tryz.results52 (0,t5) () (jq rfl) (fun w m=>zO.ofB m [0] rfl)
  ·refine y8 ?_;refine mv ?_;refine jF st ?_;refine zw st zd2 ?_;refine zm st (v:=(I t5)) 0 ty3 ?_;refine Xb st ?_;intro t68;refine ma ?_;refine y4 ?_;refine mv ?_;refine mv ?_;refine jF st ?_;refine zw st Uj ?_;refine zm st (v:=v2) 0 zgs ?_;refine zH st zd8 1 (zd hv2) ?_;refine ja st ?_;refine y1 ?_;refine zl ?_ ?_
   ·refine y0 ?_;refine mv ?_;refine jF st ?_;refine zw st Uj ?_;refine zm st (v:=v2) 0 zgs ?_;refine mv ?_;refine zJ st 1 (zd hv2) zd8 ?_;intro e69 h70;refine jO st (enc:=zbG) (u:=(.int .u8 (e69.toNat:Int))) 1 (zd hv2) zd7 h70 ty5 ?_;refine zfe st zle uI ?_;refine mv ?_;refine zfv st ?_;intro t71;refine ma ?_;refine y6 ?_;exact ju Tryz.results52 (t71,t5) () (jq rfl) (fun w m=>zO.ofB m [0] rfl)
   ·refine jW (zR (jv ?_));refine x9 mixed 46 rfl [zc b1 [v2,I t5] 131,zi w0 F] ?_;refine zr (dI 0) ?_;refine jF (dI 1) ?_;refine zw (dI 2) Uj ?_;refine zm (dI 3) (v:=v2) 0 zgs ?_;refine zr (dI 4) ?_;refine zr (dI 5) ?_;refine jF (dI 6) ?_;refine zw (dI 7) Uj ?_;refine zm (dI 8) (v:=v2) 0 zgs ?_;refine zH (dI 9) zd8 1 (zd hv2) ?_;refine zfv (dI 10) ?_;intro t72;refine zJ (dI 11) 1 (zd hv2) zd8 ?_;intro e73 h74;refine jO (dI 12) (enc:=zbG) (u:=(.int .u8 (e73.toNat:Int))) 1 (zd hv2) zd7 h74 ty5 ?_;refine zfe (dI 13) zle uI ?_;refine zaZ (dI 14) ?_;intro t75;refine zr (dI 15) ?_;refine jF (dI 16) ?_;refine zw (dI 17) Uj ?_;refine zm (dI 18) (v:=v2) 0 zgs ?_;refine zr (dI 19) ?_;refine zaZ (dI 20) ?_;intro t76;refine zV (dI 21) ?_;intro t77;refine zr (dI 22) ?_;refine jF (dI 23) ?_;refine zw (dI 24) Uj ?_;refine zm (dI 25) (v:=v2) 0 zgs ?_;refine zH (dI 26) zd8 1 (zd hv2) ?_;refine zfv (dI 27) ?_;intro t78;refine zJ (dI 28) 1 (zd hv2) zd8 ?_;intro e79 h80;refine jO (dI 29) (enc:=zbG) (u:=(.int .u8 (e79.toNat:Int))) 1 (zd hv2) zd7 h80 ty5 ?_;refine zfe (dI 30) zle uI ?_;refine zaZ (dI 31) ?_;intro t81;refine zV (dI 32) ?_;intro t82;refine zr (dI 33) ?_;refine zaZ (dI 34) ?_;intro t83;refine zV (dI 35) ?_;intro t84;refine zr (dI 36) ?_;refine zr (dI 37) ?_;refine jF (dI 38) ?_;refine zw (dI 39) Uj ?_;refine zm (dI 40) (v:=v2) 0 zgs ?_;refine zH (dI 41) zd8 1 (zd hv2) ?_;refine zjm (dI 42) ?_;intro t85;refine zaZ (dI 43) ?_;intro t86;refine zV (dI 44) ?_;intro t87;refine xR (dI 45) ?_;refine jD (by kernel_rfl) ?_;refine zR (jv (zp ?_));refine mv ?_;refine mv ?_;refine zjm st ?_;intro t88;refine zk6 st ?_;intro t89;refine ma ?_;refine y2 ?_;refine mv ?_;refine mv ?_;refine zfv st ?_;intro t90;refine ma ?_;refine y3 ?_;exact ju Tryz.results52 (t90,t5) () (jq rfl) (fun w m=>zO.ofB m [0] rfl)
theorem zcx {w0:World} {F:Nat→Prop} {b1:Nat} {v2:Value} {r_0_b:(List UInt8)} {r_0_p n_1:Int} {κ:(Bool×Int)→Prop} (hF:Fr [zc b1 [v2,(I r_0_p)] 131] F w0) (hg:um [zc b1 [v2,(I r_0_p)] 131] F w0) (hv2:Sl zcs F w0 v2 r_0_b) (h:ZC r_0_b r_0_p n_1 κ) :
  Calls Tryz.prog 97 #[(pp b1),(I n_1)] w0 (Ret [zc b1 [v2,(I r_0_p)] 131] F w0 κ (fun r (u:Unit)=>(.bool r.1)) (fun r u=>[zc b1 [v2,(I r.2)] 131])):=by
 refine Z9 (args:=[pp b1,I n_1]) [zc b1 [v2,I r_0_p] 131] hF hg Tryz.func97 rfl Tryz.ntmps97 rfl h ?_;clear h hF hg;let JJ:=Jn 15 [zc b1 [v2,I r_0_p] 131] F w0;refine y0 ?_;refine ma ?_;refine y1 ?_;refine zW (σ:=(Int×Bool)) (fun (t68,t69)=>JJ [(4,.bool t69)] [zc b1 [v2,I t68] 131,zi w0 F]) ?_ ?_
 ·intro k70;refine zp ?_;refine mv ?_;refine uG st ?_;refine mv ?_;refine xa (dj:=7) rfl ?_ ?_
  ·refine zr (zQ rfl rfl) ?_;refine zr (zQ rfl rfl) ?_;refine YB rfl rfl (xE (M0:=[zc b1 [v2,I r_0_p] 131]) Tryz.call52 (by intro w m h;exact rf (fun _ _=>(zT xI jw)) (jV (F:=z6 [zc b1 [v2,I r_0_p] 131] w) (r_0_b:=r_0_b) (r_0_p:=r_0_p) (n_1:=n_1) zo m.given (m.qM 0 hv2) h)) ?_);rintro ⟨r5,r6⟩ _;refine zr (zQ rfl rfl) ?_;refine Xb (zQ rfl rfl) ?_;intro t7;refine xm (zQ rfl rfl) uI ?_;refine zP st ?_;refine ma ?_;refine zx ?_;exact lj [0,1]
  ·refine ss ?_;refine ss ?_;refine ss ?_;refine ss ?_;refine ss ?_;refine ss ?_;refine zF st ?_;refine ma ?_;refine zx ?_;exact lj [0,1]
 ·rintro ⟨t68,t69⟩;refine nxj ?_;refine uB ?_;exact ju Tryz.results97 (t69,t68) () (jq rfl) (fun w m=>zO.ofB m [0] rfl)
theorem yz {w0:World} {F:Nat→Prop} {n_0:Int} {κ:Int→Prop} (hF:Fr [] F w0) (h:uz n_0 κ) :
  Calls Tryz.prog 119 #[(I n_0)] w0 (Ret [] F w0 κ (fun r (u:Unit)=>(I r)) (fun r u=>[])):=by
 refine Z8 (args:=[I n_0]) [] hF (um.nil _ _) Tryz.func119 rfl Tryz.ntmps119 rfl h ?_;clear h hF;let JJ:=Jn 11 [] F w0;refine y0 ?_;refine ma ?_;refine y4 ?_;refine mv ?_;refine y5 ?_;refine zW (σ:=Bool) (fun t61=>JJ [(3,I n_0),(4,.bool t61)] []) ?_ ?_
 ·intro k62;refine y0 ?_;refine xm st uI ?_;refine ma ?_;refine y1 ?_;refine zl ?_ ?_
  ·refine jW ?_;exact lj []
  ·refine zp ?_;refine xm st uI ?_;refine ma ?_;refine zx ?_;exact lj []
 ·rintro t61;refine nxj ?_;refine zl ?_ ?_
  ·refine y0 ?_;refine ma ?_;refine y24 ?_;exact lu Tryz.results119
  ·refine y0 ?_;refine xm st uI ?_;refine ma ?_;refine y1 ?_;refine zl ?_ ?_
   ·refine y0 ?_;refine ma ?_;refine y24 ?_;exact lu Tryz.results119
   ·refine y0 ?_;refine xm st uI ?_;refine ma ?_;refine y1 ?_;refine zl ?_ ?_
    ·refine y0 ?_;refine ma ?_;refine y24 ?_;exact lu Tryz.results119
    ·refine jW (Zi (zR (jv (zp ?_))));refine ma ?_;refine y3 ?_;exact lu Tryz.results119
end
section
open Go.RowKit
theorem jh {w0:World} {F:Nat→Prop} {n_0:Int} {κ:Int→Prop} (hF:Fr [] F w0) (hgl0:Sl jd F w0 (.slice (some ⟨0,0,none⟩) 4 4) zA) (h:zB n_0 κ) :
  Calls Tryz.prog 113 #[(I n_0)] w0 (Ret [] F w0 κ (fun r (u:Unit)=>(I r)) (fun r u=>[])):=by
 refine eS hF Tryz.func113 Tryz.ntmps113 h ?_;clear h hF;let JJ:=Jn 13 [] F w0;refine y0 ?_;refine ma ?_;refine y9 ?_;refine zW (σ:=Bool) (fun t61=>JJ [(0,I n_0),(8,.bool t61)] [zi w0 F]) ?_ ?_
 ·intro k62;refine zp ?_;refine mv ?_;refine ja st ?_;refine mv ?_;refine xa (dj:=5) rfl ?_ ?_
  ·refine ss ?_;refine ss ?_;refine zP st ?_;refine zx ?_;exact lj [0]
  ·refine zr (zQ rfl rfl) ?_;refine Ve (zQ rfl rfl) ?_;refine zF st ?_;refine zx ?_;exact lj [0]
 ·rintro t61;refine nxj ?_;refine zl ?_ ?_
  ·refine y0 ?_;refine ma ?_;refine y6 ?_;exact lu Tryz.results113
  ·refine y8 ?_;refine mv ?_;refine xz st 0 (zd hgl0) zlC ?_;intro e63 h64;refine jy st 0 (zd hgl0) h64 ziD ?_;refine jO st (enc:=XF) (u:=(I e63.xTop)) 0 (zd hgl0) VZ h64 ty3 ?_;refine ma ?_;refine y3 ?_;exact lu Tryz.results113
theorem zcU {w0:World} {F:Nat→Prop} {t_0:xj} {κ:Bool→Prop} (hF:Fr [] F w0) (hgl0:Sl jd F w0 (.slice (some ⟨0,0,none⟩) 4 4) zA) (h:XU t_0 κ) :
  Calls Tryz.prog 236 #[(.agg #[(I t_0.xField),(I t_0.xLo),(I t_0.xHi),(.bool t_0.xNot)])] w0 (Ret [] F w0 κ (fun r (u:Unit)=>(.bool r)) (fun r u=>[])):=by
 refine eS hF Tryz.func236 Tryz.ntmps236 h ?_;clear h hF;let JJ:=Jn 31 [] F w0;refine y0 ?_;refine stw (xe [I t_0.xField,I t_0.xLo,I t_0.xHi,.bool t_0.xNot] ?_);intro b1;refine ma ?_;refine y1 ?_;refine zW (σ:=Bool) (fun t64=>JJ [(2,.bool t64)] [zi w0 F]) ?_ ?_
 ·intro k65;refine x9 mixed 29 rfl [zc b1 [I t_0.xField,I t_0.xLo,I t_0.xHi,.bool t_0.xNot] 165,zi w0 F] ?_;refine zw (dI 0) ZY ?_;refine zm (dI 1) (v:=(I t_0.xField)) 0 ty3 ?_;refine Ve (dI 2) ?_;refine zr (dI 3) ?_;refine xa (dj:=6) rfl ?_ ?_
  ·refine zw (dtg 4 (fun _ m=>m)) ZY ?_;refine zm (dtg 5 (fun _ m=>m)) (v:=(I t_0.xField)) 0 ty3 ?_;refine ja (dtg 6 (fun _ m=>m)) ?_;refine zP (dI 7) ?_;refine zr (dI 8) ?_;refine xa (dj:=11) rfl ?_ ?_
   ·refine zw (dtg 9 (fun _ m=>m)) Ur ?_;refine zm (dtg 10 (fun _ m=>m)) (v:=(I t_0.xLo)) 0 ty3 ?_;refine Ve (dtg 11 (fun _ m=>m)) ?_;refine zP (dI 12) ?_;refine zr (dI 13) ?_;refine xa (dj:=16) rfl ?_ ?_
    ·refine zw (dtg 14 (fun _ m=>m)) Ur ?_;refine zm (dtg 15 (fun _ m=>m)) (v:=(I t_0.xLo)) 0 ty3 ?_;refine zw (dtg 16 (fun _ m=>m)) YL ?_;refine zm (dtg 17 (fun _ m=>m)) (v:=(I t_0.xHi)) 0 ty3 ?_;refine Zj (dtg 18 (fun _ m=>m)) ?_;refine zP (dI 19) ?_;refine zr (dI 20) ?_;refine xa (dj:=23) rfl ?_ ?_
     ·refine zw (dtg 21 (fun _ m=>m)) YL ?_;refine zm (dtg 22 (fun _ m=>m)) (v:=(I t_0.xHi)) 0 ty3 ?_;refine zw (dtg 23 (fun _ m=>m)) ZY ?_;refine zm (dtg 24 (fun _ m=>m)) (v:=(I t_0.xField)) 0 ty3 ?_;refine Yz (i:=25) rfl rfl rfl (by kernel_rfl) (zj Tryz.call113 (by intro w m h;exact rf0 (jh (F:=z6 [] w) (n_0:=t_0.xField) zo (m.q 1 hgl0) h)) ?_);rintro r3 _;refine xQ (fun _ m=>m) ?_;refine Zj (dtg 26 (fun _ m=>m)) ?_;refine zP (dI 27) ?_;refine xR (dI 28) ?_;refine jD (by kernel_rfl) ?_;exact lj [1]
     ·refine dK 21 ?_;refine dK 22 ?_;refine dK 23 ?_;refine dK 24 ?_;refine dK 25 ?_;refine dK 26 ?_;refine zF (dI 27) ?_;refine xR (dI 28) ?_;refine jD (by kernel_rfl) ?_;exact lj [1]
    ·refine dK 14 ?_;refine dK 15 ?_;refine dK 16 ?_;refine dK 17 ?_;refine dK 18 ?_;refine zF (dI 19) ?_;refine zr (dI 20) ?_;refine dK 21 ?_;refine dK 22 ?_;refine dK 23 ?_;refine dK 24 ?_;refine dK 25 ?_;refine dK 26 ?_;refine zF (dI 27) ?_;refine xR (dI 28) ?_;refine jD (by kernel_rfl) ?_;exact lj [1]
   ·refine dK 9 ?_;refine dK 10 ?_;refine dK 11 ?_;refine zF (dI 12) ?_;refine zr (dI 13) ?_;refine dK 14 ?_;refine dK 15 ?_;refine dK 16 ?_;refine dK 17 ?_;refine dK 18 ?_;refine zF (dI 19) ?_;refine zr (dI 20) ?_;refine dK 21 ?_;refine dK 22 ?_;refine dK 23 ?_;refine dK 24 ?_;refine dK 25 ?_;refine dK 26 ?_;refine zF (dI 27) ?_;refine xR (dI 28) ?_;refine jD (by kernel_rfl) ?_;exact lj [1]
  ·refine dK 4 ?_;refine dK 5 ?_;refine dK 6 ?_;refine zF (dI 7) ?_;refine zr (dI 8) ?_;refine dK 9 ?_;refine dK 10 ?_;refine dK 11 ?_;refine zF (dI 12) ?_;refine zr (dI 13) ?_;refine dK 14 ?_;refine dK 15 ?_;refine dK 16 ?_;refine dK 17 ?_;refine dK 18 ?_;refine zF (dI 19) ?_;refine zr (dI 20) ?_;refine dK 21 ?_;refine dK 22 ?_;refine dK 23 ?_;refine dK 24 ?_;refine dK 25 ?_;refine dK 26 ?_;refine zF (dI 27) ?_;refine xR (dI 28) ?_;refine jD (by kernel_rfl) ?_;exact lj [1]
 ·rintro t64;refine nxj ?_;refine uB ?_;exact lu Tryz.results236
theorem zcr {w0:World} {F:Nat→Prop} {v1:Value} {list_0:(List xj)} {κ:Bool→Prop} (hF:Fr [] F w0) (hv1:Sl Xr F w0 v1 list_0) (hgl0:Sl jd F w0 (.slice (some ⟨0,0,none⟩) 4 4) zA) (h:Xs list_0 κ) :
  Calls Tryz.prog 208 #[v1] w0 (Ret [] F w0 κ (fun r (u:Unit)=>(.bool r)) (fun r u=>[])):=by
 refine eS hF Tryz.func208 Tryz.ntmps208 h ?_;clear h hF;let JJ:=Jn 18 [] F w0;refine y0 ?_;refine ma ?_;refine y4 ?_;refine mv ?_;refine zH st zaY 0 (zd hv1) ?_;refine uG st ?_;refine y1 ?_;refine zl ?_ ?_
 ·refine y0 ?_;refine ma ?_;refine y6 ?_;exact lu Tryz.results208
 ·refine y13 ?_;refine mv ?_;refine zH st zaY 0 (zd hv1) ?_;refine mv ?_;refine y5 ?_;refine jm (σ:=Int) (fun t3=>JJ [(8,v1),(9,I (list_0.length:Int)),(10,I t3)] [zi w0 F]) (jI [0]) ?_;rintro nx4 t3;refine nxj ?_;refine y0 ?_;refine ja st ?_;refine y9 ?_;refine zl ?_ ?_
  ·refine y11 ?_;refine zJ st 0 (zd hv1) zaY ?_;intro e5 h6;refine jO st (enc:=XA) (u:=(.agg #[I e5.xField,I e5.xLo,I e5.xHi,.bool e5.xNot])) 0 (zd hv1) ZG h6 V2 ?_;refine stw (jn [I 0,I 0,I 0,.bool false] zbB ?_);intro b7;refine stw (ji (cs':=[I e5.xField,I e5.xLo,I e5.xHi,.bool e5.xNot]) 0 V2 ?_);refine y2 ?_;refine zm st (v:=(.agg #[I e5.xField,I e5.xLo,I e5.xHi,.bool e5.xNot])) 0 V2 ?_;refine stw (zj Tryz.call236 (by intro w m h;exact rf0 (zcU (F:=z6 [] w) (t_0:=e5) zo (m.q 1 hgl0) h)) ?_);rintro r9 _;refine jt st ?_;refine y1 ?_;refine zl ?_ ?_
   ·refine y0 ?_;refine ma ?_;refine y16 ?_;exact lu Tryz.results208
   ·refine y14 ?_;refine zV st ?_;intro t10;refine mv ?_;refine zx ?_;exact lj [1]
  ·refine y7 ?_;refine ma ?_;refine y3 ?_;exact lu Tryz.results208
theorem zcB {w0:World} {F:Nat→Prop} {v1:Value} {r_0:zS} {κ:Bool→Prop} (hF:Fr [] F w0) (hv1:Sl Xr F w0 v1 r_0.xTests) (hgl0:Sl jd F w0 (.slice (some ⟨0,0,none⟩) 4 4) zA) (h:XR r_0 κ) :
  Calls Tryz.prog 162 #[(.agg #[v1,(I r_0.xAction),(I r_0.xChain)])] w0 (Ret [] F w0 κ (fun r (u:Unit)=>(.bool r)) (fun r u=>[])):=by
 refine eS hF Tryz.func162 Tryz.ntmps162 h ?_;clear h hF;let JJ:=Jn 27 [] F w0;refine y0 ?_;obtain ⟨a3,l4,q5,rfl⟩:=zt hv1;refine stw (xe [.slice a3 l4 q5,I r_0.xAction,I r_0.xChain] ?_);intro b6;refine ma ?_;refine y4 ?_;refine zw st VP ?_;refine zm st (v:=(.slice a3 l4 q5)) 0 zgT ?_;refine stw (zj Tryz.call208 (by intro w m h;exact rf0 (zcr (F:=z6 [] w) (list_0:=r_0.xTests) zo (m.q 1 hv1) (m.q 1 hgl0) h)) ?_);rintro r8 _;refine jt st ?_;refine y1 ?_;refine zl ?_ ?_
 ·refine y0 ?_;refine ma ?_;refine y6 ?_;exact lu Tryz.results162
 ·refine y13 ?_;refine zw st Ua ?_;refine zm st (v:=(I r_0.xAction)) 0 ty3 ?_;refine y26 ?_;refine xm st uI ?_;refine ma ?_;refine y1 ?_;refine zl ?_ ?_
  ·refine zW (σ:=Bool) (fun t69=>JJ [(2,.bool t69)] [zi w0 F]) ?_ ?_
   ·intro k70;refine zp ?_;refine zw st YN ?_;refine zm st (v:=(I r_0.xChain)) 0 ty3 ?_;refine Ve st ?_;refine mv ?_;refine xa (dj:=14) rfl ?_ ?_
    ·refine zw (zQ rfl rfl) YN ?_;refine zm (zQ rfl rfl) (v:=(I r_0.xChain)) 0 ty3 ?_;refine ja (zQ rfl rfl) ?_;refine zP st ?_;refine ma ?_;refine zx ?_;exact lj [1]
    ·refine ss ?_;refine ss ?_;refine ss ?_;refine zF st ?_;refine ma ?_;refine zx ?_;exact lj [1]
   ·rintro t69;refine nxj ?_;refine uB (uC (xq ?_));exact lu Tryz.results162
  ·refine zW (σ:=Bool) (fun t131=>JJ [(1,pp b6),(19,.bool t131)] [zc b6 [.slice a3 l4 q5,I r_0.xAction,I r_0.xChain] 77,zi w0 F]) ?_ ?_
   ·intro k132;refine y0 ?_;refine xm st uI ?_;refine ma ?_;refine y1 ?_;refine zl ?_ ?_
    ·refine jW ?_;exact lj [0,1]
    ·refine y0 ?_;refine xm st uI ?_;refine ma ?_;refine y1 ?_;refine zl ?_ ?_
     ·refine jW ?_;exact lj [0,1]
     ·refine y0 ?_;refine xm st uI ?_;refine ma ?_;refine y1 ?_;refine zl ?_ ?_
      ·refine jW ?_;exact lj [0,1]
      ·refine zp ?_;refine xm st uI ?_;refine ma ?_;refine zx ?_;exact lj [0,1]
   ·rintro t131;refine nxj ?_;refine zl ?_ ?_
    ·refine y0 ?_;refine zw st YN ?_;refine zm st (v:=(I r_0.xChain)) 0 ty3 ?_;refine xm st uI ?_;refine ma ?_;refine y24 ?_;exact lu Tryz.results162
    ·refine jW (Zi (zR (jv (zp ?_))));refine ma ?_;refine y3 ?_;exact lu Tryz.results162
theorem zb8 {w0:World} {F:Nat→Prop} {v1:Value} {list_0:(List zS)} {κ:Bool→Prop} (hF:Fr [] F w0) (hv1:Sl xM F w0 v1 list_0) (hgl0:Sl jd F w0 (.slice (some ⟨0,0,none⟩) 4 4) zA) (h:Xl list_0 κ) :
  Calls Tryz.prog 109 #[v1] w0 (Ret [] F w0 κ (fun r (u:Unit)=>(.bool r)) (fun r u=>[])):=by
 refine eS hF Tryz.func109 Tryz.ntmps109 h ?_;clear h hF;let JJ:=Jn 18 [] F w0;refine y0 ?_;refine ma ?_;refine y4 ?_;refine mv ?_;refine zH st Us 0 (zd hv1) ?_;refine uG st ?_;refine y1 ?_;refine zl ?_ ?_
 ·refine y0 ?_;refine ma ?_;refine y6 ?_;exact lu Tryz.results109
 ·refine y13 ?_;refine mv ?_;refine zH st Us 0 (zd hv1) ?_;refine mv ?_;refine y5 ?_;refine jm (σ:=Int) (fun t3=>JJ [(8,v1),(9,I (list_0.length:Int)),(10,I t3)] [zi w0 F]) (jI [0]) ?_;rintro nx4 t3;refine nxj ?_;refine y0 ?_;refine ja st ?_;refine y9 ?_;refine zl ?_ ?_
  ·refine y11 ?_;refine zJ st 0 (zd hv1) Us ?_;intro e5 h6;obtain ⟨_,⟨v8,rfl,sl9⟩,rw7⟩:=jp hv1 h6;refine jB st (u:=(.agg #[v8,I e5.xAction,I e5.xChain])) 0 rw7 Vp ?_;refine stw (jn [S0,I 0,I 0] Ut ?_);intro b11;obtain ⟨a13,l14,q15,rfl⟩:=zt sl9;refine stw (ji (cs':=[.slice a13 l14 q15,I e5.xAction,I e5.xChain]) 0 Vp ?_);refine y2 ?_;refine zm st (v:=(.agg #[.slice a13 l14 q15,I e5.xAction,I e5.xChain])) 0 Vp ?_;refine stw (zj Tryz.call162 (by intro w m h;exact rf0 (zcB (F:=z6 [] w) (r_0:=e5) zo (m.q 1 sl9) (m.q 1 hgl0) h)) ?_);rintro r16 _;refine jt st ?_;refine y1 ?_;refine zl ?_ ?_
   ·refine y0 ?_;refine ma ?_;refine y16 ?_;exact lu Tryz.results109
   ·refine y14 ?_;refine zV st ?_;intro t17;refine mv ?_;refine zx ?_;exact lj [1]
  ·refine y7 ?_;refine ma ?_;refine y3 ?_;exact lu Tryz.results109
theorem zab {w0:World} {F:Nat→Prop} {v1:Value} {rules_0:(List zS)} {κ:(List Int)→Prop} (hF:Fr [] F w0) (hv1:Sl xM F w0 v1 rules_0) (h:Xw rules_0 κ) :
  Calls Tryz.prog 110 #[v1] w0 (Ret [] F w0 κ (fun r (u:Value)=>u) (fun r u=>[ze x5 3 u r])):=by
 refine eS hF Tryz.func110 Tryz.ntmps110 h ?_;clear h hF;let JJ:=Jn 34 [] F w0;refine y0 ?_;refine stw (jT x5 3 ?_);refine y2 ?_;refine stw (xU (El':=Vj) (z:=(false:Bool)) (len:=5) (zs:=[.bool false]) (fun F w=>(Uo _ _ _ _).2 rfl) zjV ?_);intro b4;refine y4 ?_;refine mv ?_;refine zH st Us 2 (zd hv1) ?_;refine mv ?_;refine y5 ?_;refine jm (σ:=((List Bool)×Int)) (fun (xs6,t8)=>JJ [(3,pp b4),(9,v1),(10,I (rules_0.length:Int)),(11,I t8)] [ze Vj 203 (.slice (some ⟨b4,0,none⟩) 5 5) xs6,zi w0 F]) (jI [0,2]) ?_;rintro nx9 ⟨xs6,t8⟩;refine nxj ?_;refine y0 ?_;refine ja st ?_;refine y9 ?_;refine zl ?_ ?_
 ·refine y18 ?_;refine zW (σ:=(List Bool)) (fun xs84=>JJ [(3,pp b4),(9,v1),(10,I (rules_0.length:Int)),(11,I t8)] [ze Vj 203 (.slice (some ⟨b4,0,none⟩) 5 5) xs84,zi w0 F]) ?_ ?_
  ·intro k86;refine y20 ?_;refine zJ st 1 (zd hv1) Us ?_;intro e10 h11;obtain ⟨_,⟨v13,rfl,sl14⟩,rw12⟩:=jp hv1 h11;refine jB st (u:=(.agg #[v13,I e10.xAction,I e10.xChain])) 1 rw12 Vp ?_;refine stw (jn [S0,I 0,I 0] Ut ?_);intro b16;obtain ⟨a18,l19,q20,rfl⟩:=zt sl14;refine stw (ji (cs':=[.slice a18 l19 q20,I e10.xAction,I e10.xChain]) 0 Vp ?_);refine y2 ?_;refine zw st Ua ?_;refine zm st (v:=(I e10.xAction)) 0 ty3 ?_;refine xm st uI ?_;refine y1 ?_;refine zl ?_ ?_
   ·refine zp ?_;refine zw st YN ?_;refine zm st (v:=(I e10.xChain)) 0 ty3 ?_;refine xz st 1 zh ziU ?_;intro e21 h22;refine stw (VN (enc:=UI) (y':=true) 1 Uo h22 ty4 ?_);refine y12 ?_;exact lj [1,2]
   ·refine y23 ?_;exact lj [1,2]
  ·rintro xs84;refine nxj ?_;refine zp ?_;refine zV st ?_;intro t87;refine mv ?_;refine zx ?_;exact lj [0,1]
 ·refine y7 ?_;refine stw (jT x5 3 ?_);refine y4 ?_;refine zj8 1 rfl ?_;intro e89 e90 e91 e92 e93;refine stw (zi4 yb (u:=[.bool e89,.bool e90,.bool e91,.bool e92,.bool e93]) 1 zh Uo zmm ?_);refine mv ?_;refine y5 ?_;refine jm (σ:=((List Int)×Int)) (fun ((xs96,t99):((List Int)×Int)) (a:Act) (w:World)=>∃ (v95:Value),JJ [(6,v95),(22,.agg #[.bool e89,.bool e90,.bool e91,.bool e92,.bool e93]),(23,I t99)] [ze x5 3 v95 xs96] a w) (jE S0 [0]) ?_;rintro nx100 ⟨xs96,t99⟩ a w ⟨v95,hE,hm⟩ h;refine jz hE hm h ?_;clear hE hm h;refine y0 ?_;refine ja st ?_;refine y9 ?_;refine zl ?_ ?_
  ·refine y18 ?_;refine zW (σ:=(List Int)) (fun (xs166:(List Int)) (a:Act) (w:World)=>∃ (v167:Value),JJ [(6,v167),(22,.agg #[.bool e89,.bool e90,.bool e91,.bool e92,.bool e93]),(23,I t99)] [ze x5 3 v167 xs166] a w) ?_ ?_
   ·intro k169;refine y20 ?_;refine mv ?_;refine zgU st (enc:=UI) (zs:=[e89,e90,e91,e92,e93]) (u:=fun (e101:Bool)=>(.bool e101)) ziU (fun _=>rfl) (fun _=>rfl) ?_;intro e101;refine ma ?_;refine ma ?_;refine y2 ?_;refine mv ?_;refine y1 ?_;refine zl ?_ ?_
    ·refine zp ?_;refine mv ?_;refine mv ?_;refine stw (xT (enc:=uY) (qs:=[(0,I t99)]) (cells:=[I t99]) ([t99]) xh (by intro ρ h;simp only [List.map_toArray,List.map_cons,List.map_nil,h (.tmp 29) _ rfl]) UM zau ?_);intro v102;refine stw (xx 1 0 (uK xh zh) UM zau ?_);intro v104;refine ma ?_;refine y12 ?_;exact zN (xs96++([t99])) (jE v104 [1])
    ·refine y23 ?_;exact zN xs96 (jE v95 [0])
   ·rintro xs166 a w ⟨v167,hE,hm⟩ h;refine jz hE hm h ?_;clear hE hm h;refine zp ?_;refine zV st ?_;intro t170;refine mv ?_;refine zx ?_;exact zN (xs166,t170) (jE v167 [0])
  ·refine y7 ?_;refine mv ?_;refine ma ?_;refine y3 ?_;exact ju Tryz.results110 xs96 v95 (jq rfl) (fun w m=>zO.ofB m [0] rfl)
theorem za2:∀ (n:Nat) {w0:World} {F:Nat→Prop} {b3:Nat} {v1:Value} {chains_0:(List (List zS))} {chain_1:Int} {colours_2:(List Int)} {κ:(Bool×(List Int))→Prop} (hF:Fr [ze x5 204 (.slice (some ⟨b3,0,none⟩) 5 5) colours_2] F w0) (hg:um [ze x5 204 (.slice (some ⟨b3,0,none⟩) 5 5) colours_2] F w0) (hv1:Sl (zC xM) F w0 v1 chains_0) (h:uZ n chains_0 chain_1 colours_2 κ),
  Calls Tryz.prog 163 #[v1,(I chain_1),(pp b3)] w0 (Ret [ze x5 204 (.slice (some ⟨b3,0,none⟩) 5 5) colours_2] F w0 κ (fun r (u:Unit)=>(.bool r.1)) (fun r u=>[ze x5 204 (.slice (some ⟨b3,0,none⟩) 5 5) r.2])):=by
 intro n;induction n with
 | zero =>
  intro w0 F b3 v1 chains_0 chain_1 colours_2 κ hF hg hv1 h;exact (h:False).elim
 | succ n ih =>
  intro w0 F b3 v1 chains_0 chain_1 colours_2 κ hF hg hv1 h;replace h:Xi (uZ n) chains_0 chain_1 colours_2 κ:=h;revert h ih;generalize uZ n=rec;intro ih h;refine Z9 (args:=[v1,I chain_1,pp b3]) [ze x5 204 (.slice (some ⟨b3,0,none⟩) 5 5) colours_2] hF hg Tryz.func163 rfl Tryz.ntmps163 rfl h ?_;clear h hF hg;let JJ:=Jn 48 [ze x5 204 (.slice (some ⟨b3,0,none⟩) 5 5) colours_2] F w0;refine y0 ?_;refine ma ?_;refine y4 ?_;refine mv ?_;refine mv ?_;refine zH st XY 1 (zd hv1) ?_;refine Ve st ?_;refine y1 ?_;refine zl ?_ ?_
  ·refine y0 ?_;refine ma ?_;refine y6 ?_;exact ju Tryz.results163 (true,colours_2) () (jq rfl) (fun w m=>zO.ofB m [0] rfl)
  ·refine y13 ?_;refine mv ?_;refine mv ?_;refine jF st ?_;refine xz st 0 zh zg3 ?_;intro e5 h6;refine jO st (enc:=uY) (u:=(I e5)) 0 zh xh h6 ty3 ?_;refine y26 ?_;refine xm st uI ?_;refine ma ?_;refine y1 ?_;refine zl ?_ ?_
   ·refine y0 ?_;refine ma ?_;refine y24 ?_;exact ju Tryz.results163 (false,colours_2) () (jq rfl) (fun w m=>zO.ofB m [0] rfl)
   ·refine y0 ?_;refine xm st uI ?_;refine ma ?_;refine y1 ?_;refine zl ?_ ?_
    ·refine y0 ?_;refine ma ?_;refine y24 ?_;exact ju Tryz.results163 (true,colours_2) () (jq rfl) (fun w m=>zO.ofB m [0] rfl)
    ·refine jW (Zi (zR (jv (zp ?_))));refine mv ?_;refine mv ?_;refine jF st ?_;refine xz st 0 zh zg3 ?_;intro e7 h8;refine stw (VN (enc:=uY) (y':=1) 0 xh h8 ty3 ?_);refine y2 ?_;refine ma ?_;refine y4 ?_;refine mv ?_;refine mv ?_;refine zJ st 1 (zd hv1) XY ?_;intro e10 h11;obtain ⟨_,⟨v13,rfl,sl14⟩,rw12⟩:=jp hv1 h11;refine jB st (u:=v13) 1 rw12 zcH ?_;refine stw (zj Tryz.call110 (by intro w m h;exact rf (fun _ _=>(zT (jY xh) jw)) (zab (F:=z6 [] w) (rules_0:=e10) zo (m.q 1 sl14) h)) ?_);rintro r16 v17;refine zH st UM 0 zh ?_;refine mv ?_;refine y5 ?_;refine jm (σ:=((List Int)×Bool×Int)) (fun (xs19,t21,t22)=>JJ [(0,v1),(1,I chain_1),(2,pp b3),(7,.bool t21),(31,v17),(32,I (r16.length:Int)),(33,I t22)] [ze x5 3 v17 r16,ze x5 204 (.slice (some ⟨b3,0,none⟩) 5 5) xs19,zi w0 F]) (jI [0,1,2]) ?_;rintro nx23 ⟨xs19,t21,t22⟩;refine nxj ?_;refine y0 ?_;refine ja st ?_;refine y9 ?_;refine zl ?_ ?_
     ·refine y18 ?_;refine zW (σ:=((List Int)×Bool)) (fun (xs89,t91)=>JJ [(0,v1),(1,I chain_1),(2,pp b3),(7,.bool t91),(31,v17),(32,I (r16.length:Int)),(33,I t22)] [ze x5 204 (.slice (some ⟨b3,0,none⟩) 5 5) xs89,ze x5 3 v17 r16,zi w0 F]) ?_ ?_
      ·intro k92;refine y20 ?_;refine zJ st 0 zh UM ?_;intro e24 h25;refine jO st (enc:=uY) (u:=(I e24)) 0 zh xh h25 ty3 ?_;refine ma ?_;refine y2 ?_;refine mv ?_;refine mv ?_;refine mv ?_;refine pk' [1,0,2] ?_;refine stw (xE (M0:=[ze x5 204 (.slice (some ⟨b3,0,none⟩) 5 5) xs19]) Tryz.call163 (by intro w m h;exact rf (fun _ _=>(zT (jY xh) jw)) (ih (F:=z6 [ze x5 204 (.slice (some ⟨b3,0,none⟩) 5 5) xs19] w) (chains_0:=chains_0) (chain_1:=e24) (colours_2:=xs19) zo m.given (m.qM 1 hv1) h)) ?_);rintro ⟨r26,r27⟩ _;refine jt st ?_;refine y1 ?_;refine zl ?_ ?_
       ·refine zp ?_;refine ma ?_;refine y12 ?_;exact lj [0,1,2]
       ·refine y23 ?_;exact lj [0,1,2]
      ·rintro ⟨xs89,t91⟩;refine nxj ?_;refine zp ?_;refine zV st ?_;intro t93;refine mv ?_;refine zx ?_;exact lj [1,0,2]
     ·refine y7 ?_;refine mv ?_;refine mv ?_;refine jF st ?_;refine xz st 1 zh zg3 ?_;intro e94 h95;refine stw (VN (enc:=uY) (y':=2) 1 xh h95 ty3 ?_);refine y2 ?_;refine mv ?_;refine ma ?_;refine y3 ?_;exact ju Tryz.results163 (t21,xs19.set (chain_1).toNat 2) () (jq rfl) (fun w m=>zO.ofB m [1] rfl)
theorem zb5 {w0:World} {F:Nat→Prop} {b3:Nat} {v1:Value} {chains_0:(List (List zS))} {chain_1:Int} {colours_2:(List Int)} {κ:(Bool×(List Int))→Prop} (hF:Fr [ze x5 204 (.slice (some ⟨b3,0,none⟩) 5 5) colours_2] F w0) (hg:um [ze x5 204 (.slice (some ⟨b3,0,none⟩) 5 5) colours_2] F w0) (hv1:Sl (zC xM) F w0 v1 chains_0) (h:U6 chains_0 chain_1 colours_2 κ) :
  Calls Tryz.prog 163 #[v1,(I chain_1),(pp b3)] w0 (Ret [ze x5 204 (.slice (some ⟨b3,0,none⟩) 5 5) colours_2] F w0 κ (fun r (u:Unit)=>(.bool r.1)) (fun r u=>[ze x5 204 (.slice (some ⟨b3,0,none⟩) 5 5) r.2])):=by
 obtain ⟨n,h⟩:=h;exact za2 n hF hg hv1 h
theorem zek {w0:World} {F:Nat→Prop} {v1:Value} {chains_0:(List (List zS))} {κ:Bool→Prop} (hF:Fr [] F w0) (hv1:Sl (zC xM) F w0 v1 chains_0) (h:YM chains_0 κ) :
  Calls Tryz.prog 111 #[v1] w0 (Ret [] F w0 κ (fun r (u:Unit)=>(.bool r)) (fun r u=>[])):=by
 refine eS hF Tryz.func111 Tryz.ntmps111 h ?_;clear h hF;let JJ:=Jn 15 [] F w0;refine y0 ?_;refine ma ?_;refine y2 ?_;refine stw (xU (El':=x5) (z:=(0:Int)) (len:=5) (zs:=[I 0]) (fun F w=>(xh _ _ _ _).2 rfl) zj0 ?_);intro b3;refine y4 ?_;refine mv ?_;refine zH st XY 1 (zd hv1) ?_;refine mv ?_;refine y5 ?_;refine jm (σ:=((List Int)×Int)) (fun (xs5,t7)=>JJ [(0,v1),(3,pp b3),(6,I (chains_0.length:Int)),(7,I t7)] [ze x5 204 (.slice (some ⟨b3,0,none⟩) 5 5) xs5,zi w0 F]) (jI [0,1]) ?_;rintro nx8 ⟨xs5,t7⟩;refine nxj ?_;refine y0 ?_;refine ja st ?_;refine y9 ?_;refine zl ?_ ?_
 ·refine y11 ?_;refine mv ?_;refine ma ?_;refine y2 ?_;refine mv ?_;refine mv ?_;refine stw (xE (M0:=[ze x5 204 (.slice (some ⟨b3,0,none⟩) 5 5) xs5]) Tryz.call163 (by intro w m h;exact rf (fun _ _=>(zT (jY xh) jw)) (zb5 (F:=z6 [ze x5 204 (.slice (some ⟨b3,0,none⟩) 5 5) xs5] w) (chains_0:=chains_0) (chain_1:=t7) (colours_2:=xs5) zo m.given (m.qM 0 hv1) h)) ?_);rintro ⟨r9,r10⟩ _;refine jt st ?_;refine y1 ?_;refine zl ?_ ?_
  ·refine y0 ?_;refine ma ?_;refine y16 ?_;exact lu Tryz.results111
  ·refine y14 ?_;refine zV st ?_;intro t12;refine mv ?_;refine zx ?_;exact lj [0,1]
 ·refine y7 ?_;refine ma ?_;refine y3 ?_;exact lu Tryz.results111
theorem UC {w0:World} {F:Nat→Prop} {v1:Value} {s_0:zL} {κ:Bool→Prop} (hF:Fr [] F w0) (hv1:Sl (zC xM) F w0 v1 s_0.xChains) (hgl0:Sl jd F w0 (.slice (some ⟨0,0,none⟩) 4 4) zA) (h:yC s_0 κ) :
  Calls Tryz.prog 63 #[(.agg #[v1,(.bool s_0.xAccept)])] w0 (Ret [] F w0 κ (fun r (u:Unit)=>(.bool r)) (fun r u=>[])):=by
 refine eS hF Tryz.func63 Tryz.ntmps63 h ?_;clear h hF;let JJ:=Jn 54 [] F w0;refine y0 ?_;obtain ⟨a3,l4,q5,rfl⟩:=zt hv1;refine stw (xe [.slice a3 l4 q5,.bool s_0.xAccept] ?_);intro b6;refine ma ?_;refine y9 ?_;refine zW (σ:=Bool) (fun t68=>JJ [(1,pp b6),(18,.bool t68)] [zc b6 [.slice a3 l4 q5,.bool s_0.xAccept] 25,zi w0 F]) ?_ ?_
 ·intro k69;refine zp ?_;refine zw st uU ?_;refine zm st (v:=(.slice a3 l4 q5)) 0 Uu ?_;refine zH st XY 1 (zd hv1) ?_;refine ja st ?_;refine mv ?_;refine xa (dj:=13) rfl ?_ ?_
  ·refine ss ?_;refine ss ?_;refine ss ?_;refine ss ?_;refine zP st ?_;refine zx ?_;exact lj [0,1]
  ·refine zw (zQ rfl rfl) uU ?_;refine zm (zQ rfl rfl) (v:=(.slice a3 l4 q5)) 0 Uu ?_;refine zH (zQ rfl rfl) XY 1 (zd hv1) ?_;refine uG (zQ rfl rfl) ?_;refine zF st ?_;refine zx ?_;exact lj [0,1]
 ·rintro t68;refine nxj ?_;refine zl ?_ ?_
  ·refine y0 ?_;refine ma ?_;refine y6 ?_;exact lu Tryz.results63
  ·refine y13 ?_;refine zw st uU ?_;refine zm st (v:=(.slice a3 l4 q5)) 0 Uu ?_;refine zH st XY 1 (zd hv1) ?_;refine mv ?_;refine y5 ?_;refine jm (σ:=Int) (fun t70=>JJ [(1,pp b6),(20,.slice a3 l4 q5),(21,I (s_0.xChains.length:Int)),(22,I t70)] [zc b6 [.slice a3 l4 q5,.bool s_0.xAccept] 25,zi w0 F]) (jI [0,1]) ?_;rintro nx71 t70;refine nxj ?_;refine y0 ?_;refine ja st ?_;refine y9 ?_;refine zl ?_ ?_
   ·refine y11 ?_;refine zJ st 1 (zd hv1) XY ?_;intro e72 h73;obtain ⟨_,⟨v75,rfl,sl76⟩,rw74⟩:=jp hv1 h73;refine jB st (u:=v75) 1 rw74 zcH ?_;refine ma ?_;refine y2 ?_;refine mv ?_;refine stw (zj Tryz.call109 (by intro w m h;exact rf0 (zb8 (F:=z6 [] w) (list_0:=e72) zo (m.q 1 sl76) (m.q 1 hgl0) h)) ?_);rintro r78 _;refine jt st ?_;refine y1 ?_;refine zl ?_ ?_
    ·refine y0 ?_;refine ma ?_;refine y16 ?_;exact lu Tryz.results63
    ·refine y14 ?_;refine zV st ?_;intro t79;refine mv ?_;refine zx ?_;exact lj [0,1]
   ·refine y32 ?_;refine zw st uU ?_;refine zm st (v:=(.slice a3 l4 q5)) 0 Uu ?_;refine zH st XY 1 (zd hv1) ?_;refine mv ?_;refine y5 ?_;refine jm (σ:=Int) (fun t80=>JJ [(1,pp b6),(31,.slice a3 l4 q5),(32,I (s_0.xChains.length:Int)),(33,I t80)] [zc b6 [.slice a3 l4 q5,.bool s_0.xAccept] 25,zi w0 F]) (jI [0,1]) ?_;rintro nx81 t80;refine nxj ?_;refine y0 ?_;refine ja st ?_;refine y9 ?_;refine zl ?_ ?_
    ·refine y11 ?_;refine zJ st 1 (zd hv1) XY ?_;intro e82 h83;obtain ⟨_,⟨v85,rfl,sl86⟩,rw84⟩:=jp hv1 h83;refine jB st (u:=v85) 1 rw84 zcH ?_;refine ma ?_;refine y2 ?_;refine mv ?_;refine stw (zj Tryz.call110 (by intro w m h;exact rf (fun _ _=>(zT (jY xh) jw)) (zab (F:=z6 [] w) (rules_0:=e82) zo (m.q 1 sl86) h)) ?_);rintro r88 v89;refine zH st UM 0 zh ?_;refine mv ?_;refine y5 ?_;refine jm (σ:=Int) (fun t91=>JJ [(1,pp b6),(31,.slice a3 l4 q5),(32,I (s_0.xChains.length:Int)),(33,I t80),(38,v89),(39,I (r88.length:Int)),(40,I t91)] [ze x5 3 v89 r88,zc b6 [.slice a3 l4 q5,.bool s_0.xAccept] 25,zi w0 F]) (jI [0,1,2]) ?_;rintro nx92 t91;refine nxj ?_;refine y0 ?_;refine ja st ?_;refine y9 ?_;refine zl ?_ ?_
     ·refine y11 ?_;refine zJ st 0 zh UM ?_;intro e93 h94;refine jO st (enc:=uY) (u:=(I e93)) 0 zh xh h94 ty3 ?_;refine ma ?_;refine y2 ?_;refine mv ?_;refine zw st uU ?_;refine zm st (v:=(.slice a3 l4 q5)) 1 Uu ?_;refine zH st XY 2 (zd hv1) ?_;refine Ve st ?_;refine y1 ?_;refine zl ?_ ?_
      ·refine y0 ?_;refine ma ?_;refine zx (zR (uB (uC (xq (xq (uC (uC (xq (xq (uC (xq ?_)))))))))));exact lu Tryz.results63
      ·refine y14 ?_;refine zV st ?_;intro t95;refine mv ?_;refine zx ?_;exact lj [0,1,2]
     ·refine y27 ?_;refine zV st ?_;intro t96;refine mv ?_;refine zx ?_;exact lj [1,2]
    ·refine y7 ?_;refine zw st uU ?_;refine zm st (v:=(.slice a3 l4 q5)) 0 Uu ?_;refine stw (zj Tryz.call111 (by intro w m h;exact rf0 (zek (F:=z6 [] w) (chains_0:=s_0.xChains) zo (m.q 1 hv1) h)) ?_);rintro r97 _;refine ma ?_;refine y3 ?_;exact lu Tryz.results63
theorem V3 {w0:World} {F:Nat→Prop} {v1:Value} {r_0:zS} {κ:xK→Prop} (hF:Fr [] F w0) (hv1:Sl Xr F w0 v1 r_0.xTests) (h:yZ r_0 κ) :
  Calls Tryz.prog 166 #[(.agg #[v1,(I r_0.xAction),(I r_0.xChain)])] w0 (Ret [] F w0 κ (fun r (u:Unit)=>(UK r)) (fun r u=>[])):=by
 refine eS hF Tryz.func166 Tryz.ntmps166 h ?_;clear h hF;refine y0 ?_;obtain ⟨a3,l4,q5,rfl⟩:=zt hv1;refine stw (xe [.slice a3 l4 q5,I r_0.xAction,I r_0.xChain] ?_);intro b6;refine ma ?_;refine y4 ?_;refine zw st Ua ?_;refine zm st (v:=(I r_0.xAction)) 0 ty3 ?_;refine y26 ?_;refine xm st uI ?_;refine ma ?_;refine y1 ?_;refine zl ?_ ?_
 ·refine y0 ?_;refine xy st (qs:=[(0,.bool true)]) (cells:=[.bool true]) (bqi rfl) zjI ?_;refine zcw st (u:=(UK (xK.kDeciding (uS.mk true)))) zjr ?_;refine ma ?_;refine y24 ?_;exact lu Tryz.results166
 ·refine y0 ?_;refine xm st uI ?_;refine ma ?_;refine y1 ?_;refine zl ?_ ?_
  ·refine y0 ?_;refine xy st (qs:=[(0,.bool false)]) (cells:=[.bool false]) (bqi rfl) zjI ?_;refine zcw st (u:=(UK (xK.kDeciding (uS.mk false)))) zjr ?_;refine ma ?_;refine y24 ?_;exact lu Tryz.results166
  ·refine y0 ?_;refine xm st uI ?_;refine ma ?_;refine y1 ?_;refine zl ?_ ?_
   ·refine y0 ?_;refine zw st YN ?_;refine zm st (v:=(I r_0.xChain)) 0 ty3 ?_;refine xy st (qs:=[(0,I r_0.xChain)]) (cells:=[I r_0.xChain]) (bqi rfl) zkZ ?_;refine zcw st (u:=(UK (xK.kCalling (ZH.mk r_0.xChain)))) zlx ?_;refine ma ?_;refine y24 ?_;exact lu Tryz.results166
   ·refine y0 ?_;refine xm st uI ?_;refine ma ?_;refine y1 ?_;refine zl ?_ ?_
    ·refine y0 ?_;refine xy st (qs:=[]) (cells:=[]) (bqi rfl) zk4 ?_;refine zcw st (u:=(UK (xK.kReturning (uh.mk )))) zkW ?_;refine ma ?_;refine y24 ?_;exact lu Tryz.results166
    ·refine jW (Zi (zR (jv (zp ?_))));refine xy st (qs:=[]) (cells:=[]) (bqi rfl) zlz ?_;refine zcw st (u:=(UK (xK.kPassing (ya.mk )))) zlU ?_;refine ma ?_;refine y3 ?_;exact lu Tryz.results166
theorem zbo {w0:World} {F:Nat→Prop} {v1 v3:Value} {a_0 b_1:(List zg)} {κ:(Int×Bool)→Prop} (hF:Fr [] F w0) (hv1:Sl zb F w0 v1 a_0) (hv3:Sl zb F w0 v3 b_1) (h:uR a_0 b_1 κ) :
  Calls Tryz.prog 200 #[v1,v3] w0 (Ret [] F w0 κ (fun r (u:Unit)=>.tuple #[(I r.1),(.bool r.2)]) (fun r u=>[])):=by
 refine eS hF Tryz.func200 Tryz.ntmps200 h ?_;clear h hF;let JJ:=Jn 59 [] F w0;refine y0 ?_;refine ma ?_;refine ma ?_;refine y4 ?_;refine ma ?_;refine ma ?_;refine y5 ?_;refine jm (σ:=(Int×Int)) (fun (t5,t6)=>JJ [(0,v1),(1,v3),(6,I t5),(7,I t6)] [zi w0 F]) (jI [0]) ?_;rintro nx7 ⟨t5,t6⟩;refine nxj ?_;refine jv ?_;refine zW (σ:=Bool) (fun t68=>JJ [(0,v1),(1,v3),(6,I t5),(7,I t6),(18,.bool t68)] [zi w0 F]) ?_ ?_
 ·intro k69;refine zp ?_;refine mv ?_;refine mv ?_;refine zH st jX 0 (zd hv1) ?_;refine ja st ?_;refine mv ?_;refine xa (dj:=13) rfl ?_ ?_
  ·refine zr (zQ rfl rfl) ?_;refine zr (zQ rfl rfl) ?_;refine zH (zQ rfl rfl) jX 0 (zd hv3) ?_;refine ja (zQ rfl rfl) ?_;refine zP st ?_;refine zx ?_;exact lj [0]
  ·refine ss ?_;refine ss ?_;refine ss ?_;refine ss ?_;refine zF st ?_;refine zx ?_;exact lj [0]
 ·rintro t68;refine nxj ?_;refine zl ?_ ?_
  ·refine jW (zR (uk (jv ?_)));refine x9 mixed 12 rfl [zi w0 F] ?_;refine zr (dI 0) ?_;refine zr (dI 1) ?_;refine zJ (dI 2) 0 (zd hv1) jX ?_;intro e70 h71;refine jy (dI 3) 0 (zd hv1) h71 ZV ?_;refine jO (dI 4) (enc:=z7) (u:=(I e70.xLo)) 0 (zd hv1) zy h71 ty3 ?_;refine zr (dI 5) ?_;refine zr (dI 6) ?_;refine zJ (dI 7) 0 (zd hv3) jX ?_;intro e72 h73;refine jy (dI 8) 0 (zd hv3) h73 ZV ?_;refine jO (dI 9) (enc:=z7) (u:=(I e72.xLo)) 0 (zd hv3) zy h73 ty3 ?_;refine zfl (dI 10) ?_;refine xR (dI 11) ?_;refine jD (by kernel_rfl) ?_;refine zR (jv (jv ?_));refine x9 mixed 13 rfl [zi w0 F] ?_;refine zr (dI 0) ?_;refine zr (dI 1) ?_;refine zr (dI 2) ?_;refine zJ (dI 3) 0 (zd hv1) jX ?_;intro e74 h75;refine jy (dI 4) 0 (zd hv1) h75 uo ?_;refine jO (dI 5) (enc:=z7) (u:=(I e74.xHi)) 0 (zd hv1) zy h75 ty3 ?_;refine zr (dI 6) ?_;refine zr (dI 7) ?_;refine zJ (dI 8) 0 (zd hv3) jX ?_;intro e76 h77;refine jy (dI 9) 0 (zd hv3) h77 uo ?_;refine jO (dI 10) (enc:=z7) (u:=(I e76.xHi)) 0 (zd hv3) zy h77 ty3 ?_;refine zcI (dI 11) ?_;refine Zj (dI 12) ?_;refine jD (by kernel_rfl) ?_;refine zR ?_;refine zl ?_ ?_
   ·refine y0 ?_;refine mv ?_;refine ma ?_;refine ma ?_;refine zx (zR (uB (xq (uC (xq (uC (xq ?_)))))));exact jQ Tryz.results200 (max e70.xLo e72.xLo,true) () (jq rfl) (jq rfl) rfl (fun _ _=>zO.nil _ _ _ _)
   ·refine jW (zR (jv ?_));refine x9 mixed 11 rfl [zi w0 F] ?_;refine zr (dI 0) ?_;refine zr (dI 1) ?_;refine zJ (dI 2) 0 (zd hv1) jX ?_;intro e78 h79;refine jy (dI 3) 0 (zd hv1) h79 uo ?_;refine jO (dI 4) (enc:=z7) (u:=(I e78.xHi)) 0 (zd hv1) zy h79 ty3 ?_;refine zr (dI 5) ?_;refine zr (dI 6) ?_;refine zJ (dI 7) 0 (zd hv3) jX ?_;intro e80 h81;refine jy (dI 8) 0 (zd hv3) h81 uo ?_;refine jO (dI 9) (enc:=z7) (u:=(I e80.xHi)) 0 (zd hv3) zy h81 ty3 ?_;refine ja (dI 10) ?_;refine jD (by kernel_rfl) ?_;refine zR ?_;refine zl ?_ ?_
    ·refine zp ?_;refine mv ?_;refine zV st ?_;intro t82;refine ma ?_;refine y12 ?_;exact lj [0]
    ·refine zp ?_;refine mv ?_;refine zV st ?_;intro t83;refine ma ?_;refine y12 ?_;exact lj [0]
  ·refine y7 ?_;refine ma ?_;refine ma ?_;refine y3 ?_;exact jQ Tryz.results200 (0,false) () (jq rfl) (jq rfl) rfl (fun _ _=>zO.nil _ _ _ _)
end
section
open Go.RowKit
theorem zdc {w0:World} {F:Nat→Prop} {fields_0:zc0} {κ:zX→Prop} (hF:Fr [] F w0) (h:Uy fields_0 κ) :
  Calls Tryz.prog 201 #[(.agg #[(I fields_0.x0),(I fields_0.x1),(I fields_0.x2),(I fields_0.x3)])] w0 (Ret [] F w0 κ (fun r (u:Unit)=>(.agg #[(I r.xFrom),(I r.xTo),(I r.xPort),(I r.xProto)])) (fun r u=>[])):=by
 refine Z8 (args:=[.agg #[I fields_0.x0,I fields_0.x1,I fields_0.x2,I fields_0.x3]]) [] hF (um.nil _ _) Tryz.func201 rfl Tryz.ntmps201 rfl h ?_;clear h hF;refine y0 ?_;refine stw (Xm (El':=x5) (len:=4) ([fields_0.x0,fields_0.x1,fields_0.x2,fields_0.x3]) ([[I fields_0.x0],[I fields_0.x1],[I fields_0.x2],[I fields_0.x3]]) (fun w m=>⟨(xh _ _ _ _).2 rfl,(xh _ _ _ _).2 rfl,(xh _ _ _ _).2 rfl,(xh _ _ _ _).2 rfl,trivial⟩) ?_);intro b1;refine stw (jn [I 0,I 0,I 0,I 0] zbc ?_);intro b3;refine y2 ?_;refine xz st 1 zh za1 ?_;intro e5 h6;refine jO st (enc:=uY) (u:=(I e5)) 1 zh xh h6 ty3 ?_;refine xz st 1 zh za1 ?_;intro e7 h8;refine jO st (enc:=uY) (u:=(I e7)) 1 zh xh h8 ty3 ?_;refine xz st 1 zh za1 ?_;intro e9 h10;refine jO st (enc:=uY) (u:=(I e9)) 1 zh xh h10 ty3 ?_;refine xz st 1 zh za1 ?_;intro e11 h12;refine jO st (enc:=uY) (u:=(I e11)) 1 zh xh h12 ty3 ?_;refine xy st (qs:=[(0,I e5),(1,I e7),(2,I e9),(3,I e11)]) (cells:=[I e5,I e7,I e9,I e11]) (bqi rfl) ziR ?_;refine stw (ji (cs':=[I e5,I e7,I e9,I e11]) 0 UF ?_);refine y3 ?_;exact ju Tryz.results201 (zX.mk e5 e7 e9 e11) () (ZW 0 rfl rfl UF rfl) (fun _ _=>zO.nil _ _ _ _)
theorem Vk {w0:World} {F:Nat→Prop} {v1 v3 v5 v7 v9 v11 v13 v15:Value} {s_0 other_1:za} {κ:(zX×Bool)→Prop} (hF:Fr [] F w0) (hv1:Sl zb F w0 v1 s_0.x0) (hv3:Sl zb F w0 v3 s_0.x1) (hv5:Sl zb F w0 v5 s_0.x2) (hv7:Sl zb F w0 v7 s_0.x3) (hv9:Sl zb F w0 v9 other_1.x0) (hv11:Sl zb F w0 v11 other_1.x1) (hv13:Sl zb F w0 v13 other_1.x2) (hv15:Sl zb F w0 v15 other_1.x3) (h:yh s_0 other_1 κ) :
  Calls Tryz.prog 156 #[(.agg #[v1,v3,v5,v7]),(.agg #[v9,v11,v13,v15])] w0 (Ret [] F w0 κ (fun r (u:Unit)=>.tuple #[(.agg #[(I r.1.xFrom),(I r.1.xTo),(I r.1.xPort),(I r.1.xProto)]),(.bool r.2)]) (fun r u=>[])):=by
 refine eS hF Tryz.func156 Tryz.ntmps156 h ?_;clear h hF;let JJ:=Jn 32 [] F w0;refine y0 ?_;obtain ⟨a17,l18,q19,rfl⟩:=zt hv1;obtain ⟨a20,l21,q22,rfl⟩:=zt hv3;obtain ⟨a23,l24,q25,rfl⟩:=zt hv5;obtain ⟨a26,l27,q28,rfl⟩:=zt hv7;refine stw (Xm (El':=(zC zb)) (len:=4) ([s_0.x0,s_0.x1,s_0.x2,s_0.x3]) ([[.slice a17 l18 q19],[.slice a20 l21 q22],[.slice a23 l24 q25],[.slice a26 l27 q28]]) (fun w m=>⟨⟨.slice a17 l18 q19,rfl,m.roS 0 rfl hv1⟩,⟨.slice a20 l21 q22,rfl,m.roS 0 rfl hv3⟩,⟨.slice a23 l24 q25,rfl,m.roS 0 rfl hv5⟩,⟨.slice a26 l27 q28,rfl,m.roS 0 rfl hv7⟩,trivial⟩) ?_);intro b29;obtain ⟨a31,l32,q33,rfl⟩:=zt hv9;obtain ⟨a34,l35,q36,rfl⟩:=zt hv11;obtain ⟨a37,l38,q39,rfl⟩:=zt hv13;obtain ⟨a40,l41,q42,rfl⟩:=zt hv15;refine stw (Xm (El':=(zC zb)) (len:=4) ([other_1.x0,other_1.x1,other_1.x2,other_1.x3]) ([[.slice a31 l32 q33],[.slice a34 l35 q36],[.slice a37 l38 q39],[.slice a40 l41 q42]]) (fun w m=>⟨⟨.slice a31 l32 q33,rfl,m.roS 1 rfl hv9⟩,⟨.slice a34 l35 q36,rfl,m.roS 1 rfl hv11⟩,⟨.slice a37 l38 q39,rfl,m.roS 1 rfl hv13⟩,⟨.slice a40 l41 q42,rfl,m.roS 1 rfl hv15⟩,trivial⟩) ?_);intro b43;refine stw (jn [I 0,I 0,I 0,I 0] zbc ?_);intro b45;refine ma ?_;refine y2 ?_;refine stw (xU (El':=x5) (z:=(0:Int)) (len:=4) (zs:=[I 0]) (fun F w=>(xh _ _ _ _).2 rfl) zhK ?_);intro b47;refine y4 ?_;refine mv ?_;refine y5 ?_;refine jm (σ:=((List Int)×Int)) (fun (xs49,t51)=>JJ [(2,pp b29),(3,pp b43),(4,pp b45),(6,pp b47),(10,I t51)] [ze x5 152 (.slice (some ⟨b47,0,none⟩) 4 4) xs49,zc b45 [I 0,I 0,I 0,I 0] 34,ze (zC zb) 137 (.slice (some ⟨b43,0,none⟩) 4 4) ([other_1.x0,other_1.x1,other_1.x2,other_1.x3]),ze (zC zb) 137 (.slice (some ⟨b29,0,none⟩) 4 4) ([s_0.x0,s_0.x1,s_0.x2,s_0.x3])]) (jI [0,1,2,3]) ?_;rintro nx52 ⟨xs49,t51⟩;refine nxj ?_;refine y0 ?_;refine ja st ?_;refine y9 ?_;refine zl ?_ ?_
 ·refine y11 ?_;refine mv ?_;refine ma ?_;refine y1 ?_;refine zW (σ:=(Int×Bool)) (fun (t53,t54)=>JJ [(2,pp b29),(3,pp b43),(4,pp b45),(6,pp b47),(10,I t51),(7,I t51),(8,I t53),(9,.bool t54)] [ze x5 152 (.slice (some ⟨b47,0,none⟩) 4 4) xs49,zc b45 [I 0,I 0,I 0,I 0] 34,ze (zC zb) 137 (.slice (some ⟨b43,0,none⟩) 4 4) ([other_1.x0,other_1.x1,other_1.x2,other_1.x3]),ze (zC zb) 137 (.slice (some ⟨b29,0,none⟩) 4 4) ([s_0.x0,s_0.x1,s_0.x2,s_0.x3])]) ?_ ?_
  ·intro k55;refine yi mixed 12 rfl [ze x5 152 (.slice (some ⟨b47,0,none⟩) 4 4) xs49,zc b45 [I 0,I 0,I 0,I 0] 34,ze (zC zb) 137 (.slice (some ⟨b43,0,none⟩) 4 4) ([other_1.x0,other_1.x1,other_1.x2,other_1.x3]),ze (zC zb) 137 (.slice (some ⟨b29,0,none⟩) 4 4) ([s_0.x0,s_0.x1,s_0.x2,s_0.x3])] ?_;intro Qd hP hQ;let NN:=fun i l E L=>Nn 32 [] F w0 Tryz.prog (X9 Tryz.f156 [1,1,0,1,0,0,1,1,0,0,1,0]) Qd [ze x5 152 (.slice (some ⟨b47,0,none⟩) 4 4) xs49,zc b45 [I 0,I 0,I 0,I 0] 34,ze (zC zb) 137 (.slice (some ⟨b43,0,none⟩) 4 4) ([other_1.x0,other_1.x1,other_1.x2,other_1.x3]),ze (zC zb) 137 (.slice (some ⟨b29,0,none⟩) 4 4) ([s_0.x0,s_0.x1,s_0.x2,s_0.x3])] i l ([(2,pp b29),(3,pp b43),(4,pp b45),(6,pp b47),(10,I t51),(7,I t51)]++E) (L++[ze x5 152 (.slice (some ⟨b47,0,none⟩) 4 4) xs49,zc b45 [I 0,I 0,I 0,I 0] 34,ze (zC zb) 137 (.slice (some ⟨b43,0,none⟩) 4 4) ([other_1.x0,other_1.x1,other_1.x2,other_1.x3]),ze (zC zb) 137 (.slice (some ⟨b29,0,none⟩) 4 4) ([s_0.x0,s_0.x1,s_0.x2,s_0.x3])]);have H772 (e56:(List zg)) (h57:([s_0.x0,s_0.x1,s_0.x2,s_0.x3])[(t51).toNat]?=some e56) (e58:(List zg)) (h59:([other_1.x0,other_1.x1,other_1.x2,other_1.x3])[(t51).toNat]?=some e58) (wr60:World) (ff61:Nat→Prop) (v62:Value) (sl63:Sl zb ff61 wr60 v62 e56) (wr64:World) (ff65:Nat→Prop) (v66:Value) (sl67:Sl zb ff65 wr64 v66 e58) (r68:Int) (r69:Bool):NN 5 #[Y,Y,Y,Y,Y,Y,Y,Z,Z,Z,Z,Z] [(20,.tuple #[I r68,.bool r69])] [] (k55 (r68,r69)):=by
    refine zr (dI 7) ?_;refine jj (dI 8) (vs:=[I r68,.bool r69]) ?_;refine jj (dI 9) (vs:=[I r68,.bool r69]) ?_;refine xR (dI 10) ?_;refine xR (dI 11) ?_;exact dj hQ [0,1,2,3]
   have H773 (e56:(List zg)) (h57:([s_0.x0,s_0.x1,s_0.x2,s_0.x3])[(t51).toNat]?=some e56) (e58:(List zg)) (h59:([other_1.x0,other_1.x1,other_1.x2,other_1.x3])[(t51).toNat]?=some e58) (wr60:World) (ff61:Nat→Prop) (v62:Value) (sl63:Sl zb ff61 wr60 v62 e56) (wr64:World) (ff65:Nat→Prop) (v66:Value) (sl67:Sl zb ff65 wr64 v66 e58):NN 6 #[Y,Y,Y,Y,Y,Y,Z,Z,Z,Z,Z,Z] [(16,v62),(19,v66)] [zi wr64 ff65,zi wr60 ff61] (uR e56 e58 (fun (r68,r69)=>k55 (r68,r69))):=by
    refine d1 6 rfl (zj Tryz.call200 (by intro w m h;exact rf0 (zbo (F:=z6 [] w) (a_0:=e56) (b_1:=e58) zo (m.q 1 sl63) (m.q 0 sl67) h)) ?_);rintro ⟨r68,r69⟩ _;exact rd [2,3,4,5] [2,3,4,5] (H772 e56 h57 e58 h59 wr60 ff61 v62 sl63 wr64 ff65 v66 sl67 r68 r69)
   have H774 (e56:(List zg)) (h57:([s_0.x0,s_0.x1,s_0.x2,s_0.x3])[(t51).toNat]?=some e56) (e58:(List zg)) (h59:([other_1.x0,other_1.x1,other_1.x2,other_1.x3])[(t51).toNat]?=some e58) (wr60:World) (ff61:Nat→Prop) (v62:Value) (sl63:Sl zb ff61 wr60 v62 e56):NN 7 #[Y,Y,Y,Y,Y,Z,Z,Z,Z,Z,Z,Z] [(18,pEl (.slice (some ⟨b43,0,none⟩) 4 4) t51 1 0),(16,v62)] [zi wr60 ff61] (uR e56 e58 (fun (r68,r69)=>k55 (r68,r69))):=by
    refine d1 5 rfl (xc 3 zI h59 x8 ?_);rintro wr64 ff65 _ ⟨v66,rfl,sl67⟩;refine ⟨v66,rfl,?_⟩;exact rd [2,3,4,5] [0,1,2,3,4,5] (H773 e56 h57 e58 h59 wr60 ff61 v62 sl63 wr64 ff65 v66 sl67)
   have H775 (e56:(List zg)) (h57:([s_0.x0,s_0.x1,s_0.x2,s_0.x3])[(t51).toNat]?=some e56) (e58:(List zg)) (h59:([other_1.x0,other_1.x1,other_1.x2,other_1.x3])[(t51).toNat]?=some e58) (wr70:World) (ff71:Nat→Prop) (v72:Value) (sl73:Sl zb ff71 wr70 v72 e58):NN 7 #[Y,Y,Z,Y,Y,Y,Z,Z,Z,Z,Z,Z] [(15,pEl (.slice (some ⟨b29,0,none⟩) 4 4) t51 1 0),(19,v72)] [zi wr70 ff71] (uR e56 e58 (fun (r68,r69)=>k55 (r68,r69))):=by
    refine d1 2 rfl (xc 4 zI h57 x8 ?_);rintro wr74 ff75 _ ⟨v76,rfl,sl77⟩;refine ⟨v76,rfl,?_⟩;exact rd [2,3,4,5] [1,0,2,3,4,5] (H773 e56 h57 e58 h59 wr74 ff75 v76 sl77 wr70 ff71 v72 sl73)
   refine zr (dI 0) ?_;refine xz (dI 1) 3 zh xX ?_;intro e56 h57;refine zr (dI 3) ?_;refine xz (dI 4) 2 zh xX ?_;intro e58 h59;refine uw (i:=2) (j:=5) rfl rfl (by kernel_rfl) ?_ ?_
   ·intro o ho;cases ho;refine xc 3 zI h57 x8 ?_;rintro wr60 ff61 _ ⟨v62,rfl,sl63⟩;refine ⟨v62,rfl,?_⟩;exact rd [1,2,3,4] [0,1,2,3,4] (H774 e56 h57 e58 h59 wr60 ff61 v62 sl63)
   ·intro o ho;cases ho;refine xc 2 zI h59 x8 ?_;rintro wr70 ff71 _ ⟨v72,rfl,sl73⟩;refine ⟨v72,rfl,?_⟩;exact rd [1,2,3,4] [0,1,2,3,4] (H775 e56 h57 e58 h59 wr70 ff71 v72 sl73)
  ·rintro ⟨t53,t54⟩;refine nxj ?_;refine y10 ?_;refine mv ?_;refine jt st ?_;refine y1 ?_;refine zl ?_ ?_
   ·refine y0 ?_;refine xy st (qs:=[]) (cells:=[I 0,I 0,I 0,I 0]) (bqi rfl) ziR ?_;refine stw (ji (cs':=[I 0,I 0,I 0,I 0]) 1 UF ?_);refine ma ?_;refine y19 ?_;exact jQ Tryz.results156 (zX.mk 0 0 0 0,false) () (ZW 1 rfl rfl UF rfl) (jq rfl) rfl (fun _ _=>zO.nil _ _ _ _)
   ·refine y21 ?_;refine mv ?_;refine mv ?_;refine xz st 0 zh za1 ?_;intro e78 h79;refine stw (VN (enc:=uY) (y':=t53) 0 xh h79 ty3 ?_);refine y15 ?_;refine zV st ?_;intro t81;refine mv ?_;refine zx ?_;exact lj [0,1,2,3]
 ·refine y7 ?_;refine U8 0 rfl ?_;intro e82 e83 e84 e85;refine stw (zi4 yb (u:=[I e82,I e83,I e84,I e85]) 0 zh xh ziV ?_);refine stw (zj Tryz.call201 (by intro w m h;exact rf0 (zdc (F:=z6 [] w) (fields_0:=(zc0.mk e82 e83 e84 e85)) zo h)) ?_);rintro r87 _;refine stw (ji (cs':=[I r87.xFrom,I r87.xTo,I r87.xPort,I r87.xProto]) 1 UF ?_);refine ma ?_;refine y3 ?_;exact jQ Tryz.results156 (r87,true) () (ZW 1 rfl rfl UF rfl) (jq rfl) rfl (fun _ _=>zO.nil _ _ _ _)
theorem XH {w0:World} {F:Nat→Prop} {v1 v3 v5 v7 v9 v11 v13 v15:Value} {s_0 other_1:za} {κ:Bool→Prop} (hF:Fr [] F w0) (hv1:Sl zb F w0 v1 s_0.x0) (hv3:Sl zb F w0 v3 s_0.x1) (hv5:Sl zb F w0 v5 s_0.x2) (hv7:Sl zb F w0 v7 s_0.x3) (hv9:Sl zb F w0 v9 other_1.x0) (hv11:Sl zb F w0 v11 other_1.x1) (hv13:Sl zb F w0 v13 other_1.x2) (hv15:Sl zb F w0 v15 other_1.x3) (h:uv s_0 other_1 κ) :
  Calls Tryz.prog 100 #[(.agg #[v1,v3,v5,v7]),(.agg #[v9,v11,v13,v15])] w0 (Ret [] F w0 κ (fun r (u:Unit)=>(.bool r)) (fun r u=>[])):=by
 refine eS hF Tryz.func100 Tryz.ntmps100 h ?_;clear h hF;refine y0 ?_;obtain ⟨a17,l18,q19,rfl⟩:=zt hv1;obtain ⟨a20,l21,q22,rfl⟩:=zt hv3;obtain ⟨a23,l24,q25,rfl⟩:=zt hv5;obtain ⟨a26,l27,q28,rfl⟩:=zt hv7;refine stw (Xm (El':=(zC zb)) (len:=4) ([s_0.x0,s_0.x1,s_0.x2,s_0.x3]) ([[.slice a17 l18 q19],[.slice a20 l21 q22],[.slice a23 l24 q25],[.slice a26 l27 q28]]) (fun w m=>⟨⟨.slice a17 l18 q19,rfl,m.roS 0 rfl hv1⟩,⟨.slice a20 l21 q22,rfl,m.roS 0 rfl hv3⟩,⟨.slice a23 l24 q25,rfl,m.roS 0 rfl hv5⟩,⟨.slice a26 l27 q28,rfl,m.roS 0 rfl hv7⟩,trivial⟩) ?_);intro b29;obtain ⟨a31,l32,q33,rfl⟩:=zt hv9;obtain ⟨a34,l35,q36,rfl⟩:=zt hv11;obtain ⟨a37,l38,q39,rfl⟩:=zt hv13;obtain ⟨a40,l41,q42,rfl⟩:=zt hv15;refine stw (Xm (El':=(zC zb)) (len:=4) ([other_1.x0,other_1.x1,other_1.x2,other_1.x3]) ([[.slice a31 l32 q33],[.slice a34 l35 q36],[.slice a37 l38 q39],[.slice a40 l41 q42]]) (fun w m=>⟨⟨.slice a31 l32 q33,rfl,m.roS 1 rfl hv9⟩,⟨.slice a34 l35 q36,rfl,m.roS 1 rfl hv11⟩,⟨.slice a37 l38 q39,rfl,m.roS 1 rfl hv13⟩,⟨.slice a40 l41 q42,rfl,m.roS 1 rfl hv15⟩,trivial⟩) ?_);intro b43;refine ma ?_;refine y2 ?_;refine stw (xv (len:=4) 1 zI jK ?_);rintro wr45 ff46 _ hr_;obtain ⟨_,_,_,_,rfl,⟨v48,rfl,sl49⟩,⟨v51,rfl,sl52⟩,⟨v54,rfl,sl55⟩,⟨v57,rfl,sl58⟩⟩:=jM hr_;refine ⟨[v48,v51,v54,v57],rfl,?_⟩;refine stw (xv (len:=4) 1 zI jK ?_);rintro wr60 ff61 _ hr_;obtain ⟨_,_,_,_,rfl,⟨v63,rfl,sl64⟩,⟨v66,rfl,sl67⟩,⟨v69,rfl,sl70⟩,⟨v72,rfl,sl73⟩⟩:=jM hr_;refine ⟨[v63,v66,v69,v72],rfl,?_⟩;refine stw (zj Tryz.call156 (by intro w m h;exact rf0 (Vk (F:=z6 [] w) (s_0:=s_0) (other_1:=other_1) zo (m.q 1 sl49) (m.q 1 sl52) (m.q 1 sl55) (m.q 1 sl58) (m.q 0 sl64) (m.q 0 sl67) (m.q 0 sl70) (m.q 0 sl73) h)) ?_);rintro ⟨r75,r76⟩ _;refine mv ?_;refine jj st (vs:=[.agg #[I r75.xFrom,I r75.xTo,I r75.xPort,I r75.xProto],.bool r76]) ?_;refine jj st (vs:=[.agg #[I r75.xFrom,I r75.xTo,I r75.xPort,I r75.xProto],.bool r76]) ?_;refine stw (jn [I 0,I 0,I 0,I 0] zbc ?_);intro b77;refine stw (ji (cs':=[I r75.xFrom,I r75.xTo,I r75.xPort,I r75.xProto]) 0 UF ?_);refine ma ?_;refine y2 ?_;refine mv ?_;refine ma ?_;refine y3 ?_;exact lu Tryz.results100
theorem YW {w0:World} {F:Nat→Prop} {v1:Value} {list_0:(List zg)} {κ:((List zg)×Bool)→Prop} (hF:Fr [] F w0) (hv1:Sl zb F w0 v1 list_0) (h:yw list_0 κ) :
  Calls Tryz.prog 202 #[v1] w0 (Ret [] F w0 κ (fun r (u:Value)=>.tuple #[u,(.bool r.2)]) (fun r u=>[jP zb u r.1])):=by
 refine eS hF Tryz.func202 Tryz.ntmps202 h ?_;clear h hF;refine y0 ?_;refine stw (jT zb 89 ?_);refine ma ?_;refine y4 ?_;refine mv ?_;refine zH st jX 1 (zd hv1) ?_;refine uG st ?_;refine y1 ?_;refine zl ?_ ?_
 ·refine y0 ?_;refine stw (jT zb 89 ?_);refine ma ?_;refine y6 ?_;refine frz 0 rfl zh ?_;exact jQ Tryz.results202 ([],false) S0 (jq rfl) (jq rfl) rfl (fun w m=>zO.ofB m [0] rfl)
 ·refine y8 ?_;refine mv ?_;refine ma ?_;refine ma ?_;refine y3 ?_;refine jG 1 rfl hv1 ?_;exact jQ Tryz.results202 (list_0,true) v1 (jq rfl) (jq rfl) rfl (fun w m=>zO.ofB m [0] rfl)
theorem Zv {w0:World} {F:Nat→Prop} {v1:Value} {rest_0:(List zg)} {at_1 top_2:Int} {κ:(Bool×Int)→Prop} (hF:Fr [] F w0) (hv1:Sl zb F w0 v1 rest_0) (h:uy rest_0 at_1 top_2 κ) :
  Calls Tryz.prog 235 #[v1,(I at_1),(I top_2)] w0 (Ret [] F w0 κ (fun r (u:Unit)=>.tuple #[(.bool r.1),(I r.2)]) (fun r u=>[])):=by
 refine eS hF Tryz.func235 Tryz.ntmps235 h ?_;clear h hF;refine y0 ?_;refine ma ?_;refine ma ?_;refine y4 ?_;refine mv ?_;refine zH st jX 0 (zd hv1) ?_;refine xm st uI ?_;refine y1 ?_;refine zl ?_ ?_
 ·refine y0 ?_;refine mv ?_;refine ma ?_;refine ma ?_;refine y6 ?_;exact jQ Tryz.results235 (false,top_2) () (jq rfl) (jq rfl) rfl (fun _ _=>zO.nil _ _ _ _)
 ·refine y13 ?_;refine mv ?_;refine mv ?_;refine zJ st 0 (zd hv1) jX ?_;intro e3 h4;refine jy st 0 (zd hv1) h4 ZV ?_;refine jO st (enc:=z7) (u:=(I e3.xLo)) 0 (zd hv1) zy h4 ty3 ?_;refine ja st ?_;refine y1 ?_;refine zl ?_ ?_
  ·refine jv ?_;refine x9 mixed 7 rfl [zi w0 F] ?_;refine zr (dI 0) ?_;refine zJ (dI 1) 0 (zd hv1) jX ?_;intro e5 h6;refine jy (dI 2) 0 (zd hv1) h6 ZV ?_;refine jO (dI 3) (enc:=z7) (u:=(I e5.xLo)) 0 (zd hv1) zy h6 ty3 ?_;refine Xb (dI 4) ?_;intro t7;refine xR (dI 5) ?_;refine xR (dI 6) ?_;refine jD (by kernel_rfl) ?_;refine zR (uB (xq ?_));exact jQ Tryz.results235 (false,t7) () (jq rfl) (jq rfl) rfl (fun _ _=>zO.nil _ _ _ _)
  ·refine jW (zR (jv ?_));refine x9 mixed 6 rfl [zi w0 F] ?_;refine zr (dI 0) ?_;refine zJ (dI 1) 0 (zd hv1) jX ?_;intro e8 h9;refine jy (dI 2) 0 (zd hv1) h9 uo ?_;refine jO (dI 3) (enc:=z7) (u:=(I e8.xHi)) 0 (zd hv1) zy h9 ty3 ?_;refine xR (dI 4) ?_;refine xR (dI 5) ?_;refine jD (by kernel_rfl) ?_;refine zR (uB ?_);exact jQ Tryz.results235 (true,e8.xHi) () (jq rfl) (jq rfl) rfl (fun _ _=>zO.nil _ _ _ _)
theorem zew {w0:World} {F:Nat→Prop} {inA_0 inB_1:Bool} {κ:Bool→Prop} (hF:Fr [] F w0) (h:X7 inA_0 inB_1 κ) :
  Calls Tryz.prog 204 #[(.bool inA_0),(.bool inB_1)] w0 (Ret [] F w0 κ (fun r (u:Unit)=>(.bool r)) (fun r u=>[])):=by
 refine Z8 (args:=[.bool inA_0,.bool inB_1]) [] hF (um.nil _ _) Tryz.func204 rfl Tryz.ntmps204 rfl h ?_;clear h hF;let JJ:=Jn 9 [] F w0;refine y0 ?_;refine ma ?_;refine y1 ?_;refine zW (σ:=Bool) (fun t61=>JJ [(4,.bool t61)] []) ?_ ?_
 ·intro k62;refine zp ?_;refine mv ?_;refine mv ?_;refine xa (dj:=6) rfl ?_ ?_
  ·refine zr (zQ rfl rfl) ?_;refine zP st ?_;refine ma ?_;refine zx ?_;exact lj []
  ·refine ss ?_;refine zF st ?_;refine ma ?_;refine zx ?_;exact lj []
 ·rintro t61;refine nxj ?_;refine uB ?_;exact lu Tryz.results204
theorem Y7 {w0:World} {F:Nat→Prop} {v1 v3:Value} {a_0 b_1:(List zg)} {top_2:Int} {κ:(List zg)→Prop} (hF:Fr [] F w0) (hv1:Sl zb F w0 v1 a_0) (hv3:Sl zb F w0 v3 b_1) (h:uF a_0 b_1 top_2 κ) :
  Calls Tryz.prog 203 #[v1,v3,(I top_2),(.func (.func 204) #[] #[])] w0 (Ret [] F w0 κ (fun r (u:Value)=>u) (fun r u=>[ze zb 89 u r])):=by
 refine eS hF Tryz.func203 Tryz.ntmps203 h ?_;clear h hF;let JJ:=Jn 107 [] F w0;refine y0 ?_;refine stw (jT zb 89 ?_);refine y2 ?_;refine stw (jT zb 89 ?_);refine y2 ?_;refine ma ?_;refine ma ?_;refine y4 ?_;refine ma ?_;refine y5 ?_;refine jm (σ:=((List zg)×Int×Int×Int)) (fun ((xs8,t11,t12,t13):((List zg)×Int×Int×Int)) (a:Act) (w:World)=>∃ (v7:Value),JJ [(0,v1),(1,v3),(2,I top_2),(3,.func (.func 204) #[] #[]),(9,v7),(10,I t11),(11,I t12),(12,I t13)] [zi w0 F,ze zb 89 v7 xs8] a w) (jE S0 [2,0]) ?_;rintro nx14 ⟨xs8,t11,t12,t13⟩ a w ⟨v7,hE,hm⟩ h;refine jz hE hm h ?_;clear hE hm h;refine y10 ?_;refine mv ?_;refine mv ?_;refine Zj st ?_;refine y1 ?_;refine zl ?_ ?_
 ·refine jW (zR (uk (jv (uk ?_))));refine jm (σ:=Int) (fun t15=>JJ [(0,v1),(1,v3),(2,I top_2),(3,.func (.func 204) #[] #[]),(9,v7),(10,I t15),(11,I t12),(12,I t13)] [ze zb 89 v7 xs8,zi w0 F]) (jI [1,0]) ?_;rintro nx16 t15;refine nxj ?_;refine jv ?_;refine zW (σ:=Bool) (fun t79=>JJ [(0,v1),(1,v3),(2,I top_2),(3,.func (.func 204) #[] #[]),(9,v7),(10,I t15),(11,I t12),(12,I t13),(34,.bool t79)] [ze zb 89 v7 xs8,zi w0 F]) ?_ ?_
  ·intro k80;refine zp ?_;refine mv ?_;refine mv ?_;refine zH st jX 1 (zd hv1) ?_;refine ja st ?_;refine mv ?_;refine xa (dj:=26) rfl ?_ ?_
   ·refine zr (zQ rfl rfl) ?_;refine zr (zQ rfl rfl) ?_;refine zJ (zQ rfl rfl) 1 (zd hv1) jX ?_;intro e17 h18;refine jy (zQ rfl rfl) 1 (zd hv1) h18 uo ?_;refine jO (zQ rfl rfl) (enc:=z7) (u:=(I e17.xHi)) 1 (zd hv1) zy h18 ty3 ?_;refine zr (zQ rfl rfl) ?_;refine ja (zQ rfl rfl) ?_;refine zP st ?_;refine zx ?_;exact lj [0,1]
   ·refine ss ?_;refine ss ?_;refine ss ?_;refine ss ?_;refine ss ?_;refine ss ?_;refine ss ?_;refine zF st ?_;refine zx ?_;exact lj [0,1]
  ·rintro t79;refine nxj ?_;refine zl ?_ ?_
   ·refine y31 ?_;refine mv ?_;refine zV st ?_;intro t81;refine ma ?_;refine y12 ?_;exact lj [0,1]
   ·refine Xv (uX (uX (XG (zR (jv (uk ?_))))));refine jm (σ:=Int) (fun t82=>JJ [(0,v1),(1,v3),(2,I top_2),(3,.func (.func 204) #[] #[]),(9,v7),(10,I t15),(11,I t82),(12,I t13)] [ze zb 89 v7 xs8,zi w0 F]) (jI [0,1]) ?_;rintro nx83 t82;refine nxj ?_;refine jv ?_;refine zW (σ:=Bool) (fun t146=>JJ [(0,v1),(1,v3),(2,I top_2),(3,.func (.func 204) #[] #[]),(9,v7),(10,I t15),(11,I t82),(12,I t13),(49,.bool t146)] [ze zb 89 v7 xs8,zi w0 F]) ?_ ?_
    ·intro k147;refine zp ?_;refine mv ?_;refine mv ?_;refine zH st jX 1 (zd hv3) ?_;refine ja st ?_;refine mv ?_;refine xa (dj:=41) rfl ?_ ?_
     ·refine zr (zQ rfl rfl) ?_;refine zr (zQ rfl rfl) ?_;refine zJ (zQ rfl rfl) 1 (zd hv3) jX ?_;intro e84 h85;refine jy (zQ rfl rfl) 1 (zd hv3) h85 uo ?_;refine jO (zQ rfl rfl) (enc:=z7) (u:=(I e84.xHi)) 1 (zd hv3) zy h85 ty3 ?_;refine zr (zQ rfl rfl) ?_;refine ja (zQ rfl rfl) ?_;refine zP st ?_;refine zx ?_;exact lj [0,1]
     ·refine ss ?_;refine ss ?_;refine ss ?_;refine ss ?_;refine ss ?_;refine ss ?_;refine ss ?_;refine zF st ?_;refine zx ?_;exact lj [0,1]
    ·rintro t146;refine nxj ?_;refine zl ?_ ?_
     ·refine y31 ?_;refine mv ?_;refine zV st ?_;intro t148;refine ma ?_;refine y12 ?_;exact lj [0,1]
     ·refine y7 ?_;refine mv ?_;refine mv ?_;refine jG 1 rfl hv1 ?_;refine stw (Xa (I:=t15) (J:=(a_0.length:Int)) 0 jX ?_);intro v149 xs150;refine mv ?_;refine mv ?_;refine stw (zj Tryz.call235 (by intro w m h;exact rf0 (Zv (F:=z6 [] w) (rest_0:=xs150) (at_1:=t13) (top_2:=top_2) zo (m.rd0 0 rfl yp) h)) ?_);rintro ⟨r153,r154⟩ _;refine mv ?_;refine jj st (vs:=[.bool r153,I r154]) ?_;refine jj st (vs:=[.bool r153,I r154]) ?_;refine ma ?_;refine ma ?_;refine y2 ?_;refine mv ?_;refine mv ?_;refine jG 3 rfl hv3 ?_;refine stw (Xa (I:=t82) (J:=(b_1.length:Int)) 0 jX ?_);intro v155 xs156;refine mv ?_;refine mv ?_;refine stw (zj Tryz.call235 (by intro w m h;exact rf0 (Zv (F:=z6 [] w) (rest_0:=xs156) (at_1:=t13) (top_2:=top_2) zo (m.rd0 0 rfl yp) h)) ?_);rintro ⟨r159,r160⟩ _;refine mv ?_;refine jj st (vs:=[.bool r159,I r160]) ?_;refine jj st (vs:=[.bool r159,I r160]) ?_;refine ma ?_;refine ma ?_;refine y2 ?_;refine mv ?_;refine mv ?_;refine zcI st ?_;refine ma ?_;refine y1 ?_;refine zW (σ:=(List zg)) (fun (xs296:(List zg)) (a:Act) (w:World)=>∃ (v297:Value),JJ [(0,v1),(1,v3),(2,I top_2),(3,.func (.func 204) #[] #[]),(9,v297),(10,I t15),(11,I t82),(17,I (min r154 r160))] [ze zb 89 v297 xs296,zi w0 F] a w) ?_ ?_
      ·intro k299;refine y0 ?_;refine mv ?_;refine mv ?_;refine mv ?_;refine stw (zcM (zei rfl rfl Tryz.call204) (by intro w m h;exact rf0 (zew (F:=z6 [] w) (inA_0:=r153) (inB_1:=r159) zo h)) ?_);rintro r161 _;refine y1 ?_;refine zl ?_ ?_
       ·refine y0 ?_;refine mv ?_;refine zH st jX 4 zh ?_;refine ma ?_;refine y1 ?_;refine zW (σ:=Bool) (fun t226=>JJ [(0,v1),(1,v3),(2,I top_2),(3,.func (.func 204) #[] #[]),(9,v7),(10,I t15),(11,I t82),(12,I t13),(17,I (min r154 r160)),(18,I (xs8.length:Int)),(91,.bool t226)] [ze zb 89 v7 xs8,zi w0 F]) ?_ ?_
        ·intro k227;refine zp ?_;refine mv ?_;refine uG st ?_;refine mv ?_;refine xa (dj:=81) rfl ?_ ?_
         ·refine zr (zQ rfl rfl) ?_;refine zr (zQ rfl rfl) ?_;refine Xb (zQ rfl rfl) ?_;intro t162;refine zJ (zQ rfl rfl) 4 zh jX ?_;intro e163 h164;refine jy (zQ rfl rfl) 4 zh h164 uo ?_;refine jO (zQ rfl rfl) (enc:=z7) (u:=(I e163.xHi)) 4 zh zy h164 ty3 ?_;refine zV (zQ rfl rfl) ?_;intro t165;refine zr (zQ rfl rfl) ?_;refine xm (zQ rfl rfl) uI ?_;refine zP st ?_;refine zx ?_;exact lj [4,5]
         ·refine ss ?_;refine ss ?_;refine ss ?_;refine ss ?_;refine ss ?_;refine ss ?_;refine ss ?_;refine ss ?_;refine ss ?_;refine zF st ?_;refine zx ?_;exact lj [4,5]
        ·rintro t226;refine nxj ?_;refine zl ?_ ?_
         ·refine zp ?_;refine mv ?_;refine mv ?_;refine Xb st ?_;intro t228;refine mv ?_;refine zJ st 0 zh jX ?_;intro e229 h230;refine jy st 0 zh h230 uo ?_;refine stw (VN (enc:=z7) (y':=(zg.mk e229.xLo (min r154 r160))) 0 zy h230 ty3 ?_);refine zx ?_;exact zN (xs8.set (t228).toNat (zg.mk e229.xLo (min r154 r160))) (jE v7 [0,1])
         ·refine zp ?_;refine mv ?_;refine mv ?_;refine mv ?_;refine xy st (qs:=[(0,I t13),(1,I (min r154 r160))]) (cells:=[I t13,I (min r154 r160)]) (bqi rfl) UP ?_;refine stw (xT (enc:=z7) (qs:=[(0,.agg #[I t13,I (min r154 r160)])]) (cells:=[I t13,I (min r154 r160)]) ([zg.mk t13 (min r154 r160)]) zy (by intro ρ h;simp only [List.map_toArray,List.map_cons,List.map_nil,h (.tmp 101) _ rfl]) jX xP ?_);intro v232;refine stw (xx 1 0 (uK zy zh) jX xP ?_);intro v234;refine ma ?_;refine zx ?_;exact zN (xs8++([zg.mk t13 (min r154 r160)])) (jE v234 [1,2])
       ·refine jW ?_;exact zN xs8 (jE v7 [4,5])
      ·rintro xs296 a w ⟨v297,hE,hm⟩ h;refine jz hE hm h ?_;clear hE hm h;refine zp ?_;refine mv ?_;refine zV st ?_;intro t300;refine ma ?_;refine y12 ?_;exact zN (xs296,t15,t82,t300) (jE v297 [1,0])
 ·refine y7 ?_;refine mv ?_;refine ma ?_;refine y3 ?_;exact ju Tryz.results203 xs8 v7 (jq rfl) (fun w m=>zO.ofB m [1] rfl)
theorem ZI {w0:World} {F:Nat→Prop} {v1 v3:Value} {a_0 b_1:(List zg)} {top_2:Int} {κ:((List zg)×Bool)→Prop} (hF:Fr [] F w0) (hv1:Sl zb F w0 v1 a_0) (hv3:Sl zb F w0 v3 b_1) (h:zE a_0 b_1 top_2 κ) :
  Calls Tryz.prog 157 #[v1,v3,(I top_2)] w0 (Ret [] F w0 κ (fun r (u:Value)=>.tuple #[u,(.bool r.2)]) (fun r u=>[jP zb u r.1])):=by
 refine eS hF Tryz.func157 Tryz.ntmps157 h ?_;clear h hF;refine y0 ?_;refine stw (jT zb 89 ?_);refine ma ?_;refine y2 ?_;refine mv ?_;refine mv ?_;refine mv ?_;refine stw (zj Tryz.call203 (by intro w m h;exact rf (fun _ _=>(zT (jY zy) jw)) (Y7 (F:=z6 [] w) (a_0:=a_0) (b_1:=b_1) (top_2:=top_2) zo (m.q 1 hv1) (m.q 1 hv3) h)) ?_);rintro r6 v7;refine frz 0 rfl zh ?_;refine stw (zj Tryz.call202 (by intro w m h;exact YW (list_0:=r6) jL (m.ro 0 rfl) h) ?_);rintro ⟨r9,r12⟩ v10;refine jj st (vs:=[v10,.bool r12]) ?_;refine jj st (vs:=[v10,.bool r12]) ?_;refine ma ?_;refine ma ?_;refine y3 ?_;exact jQ Tryz.results157 (r9,r12) v10 (jq rfl) (jq rfl) rfl (fun w m=>zO.ofB m [0] rfl)
theorem U5 {w0:World} {F:Nat→Prop} {v1 v3 v5 v7 v9 v11 v13 v15:Value} {s_0 other_1:za} {κ:(za×Bool)→Prop} (hF:Fr [] F w0) (hv1:Sl zb F w0 v1 s_0.x0) (hv3:Sl zb F w0 v3 s_0.x1) (hv5:Sl zb F w0 v5 s_0.x2) (hv7:Sl zb F w0 v7 s_0.x3) (hv9:Sl zb F w0 v9 other_1.x0) (hv11:Sl zb F w0 v11 other_1.x1) (hv13:Sl zb F w0 v13 other_1.x2) (hv15:Sl zb F w0 v15 other_1.x3) (hgl0:Sl jd F w0 (.slice (some ⟨0,0,none⟩) 4 4) zA) (h:yr s_0 other_1 κ) :
  Calls Tryz.prog 101 #[(.agg #[v1,v3,v5,v7]),(.agg #[v9,v11,v13,v15])] w0 (Ret [] F w0 κ (fun r (u:Value×Value×Value×Value)=>.tuple #[(.agg #[u.1,u.2.1,u.2.2.1,u.2.2.2]),(.bool r.2)]) (fun r u=>[jP zb u.1 r.1.x0,jP zb u.2.1 r.1.x1,jP zb u.2.2.1 r.1.x2,jP zb u.2.2.2 r.1.x3])):=by
 refine eS hF Tryz.func101 Tryz.ntmps101 h ?_;clear h hF;let JJ:=Jn 33 [] F w0;refine y0 ?_;obtain ⟨a17,l18,q19,rfl⟩:=zt hv1;obtain ⟨a20,l21,q22,rfl⟩:=zt hv3;obtain ⟨a23,l24,q25,rfl⟩:=zt hv5;obtain ⟨a26,l27,q28,rfl⟩:=zt hv7;refine stw (Xm (El':=(zC zb)) (len:=4) ([s_0.x0,s_0.x1,s_0.x2,s_0.x3]) ([[.slice a17 l18 q19],[.slice a20 l21 q22],[.slice a23 l24 q25],[.slice a26 l27 q28]]) (fun w m=>⟨⟨.slice a17 l18 q19,rfl,m.roS 0 rfl hv1⟩,⟨.slice a20 l21 q22,rfl,m.roS 0 rfl hv3⟩,⟨.slice a23 l24 q25,rfl,m.roS 0 rfl hv5⟩,⟨.slice a26 l27 q28,rfl,m.roS 0 rfl hv7⟩,trivial⟩) ?_);intro b29;obtain ⟨a31,l32,q33,rfl⟩:=zt hv9;obtain ⟨a34,l35,q36,rfl⟩:=zt hv11;obtain ⟨a37,l38,q39,rfl⟩:=zt hv13;obtain ⟨a40,l41,q42,rfl⟩:=zt hv15;refine stw (Xm (El':=(zC zb)) (len:=4) ([other_1.x0,other_1.x1,other_1.x2,other_1.x3]) ([[.slice a31 l32 q33],[.slice a34 l35 q36],[.slice a37 l38 q39],[.slice a40 l41 q42]]) (fun w m=>⟨⟨.slice a31 l32 q33,rfl,m.roS 1 rfl hv9⟩,⟨.slice a34 l35 q36,rfl,m.roS 1 rfl hv11⟩,⟨.slice a37 l38 q39,rfl,m.roS 1 rfl hv13⟩,⟨.slice a40 l41 q42,rfl,m.roS 1 rfl hv15⟩,trivial⟩) ?_);intro b43;refine stw (xU (El':=(zC zb)) (z:=([]:(List zg))) (len:=4) (zs:=[S0]) (fun F w=>⟨_,rfl,Sl.nil ..⟩) xC ?_);intro b45;refine ma ?_;refine y2 ?_;refine stw (xU (El':=(zC zb)) (z:=([]:(List zg))) (len:=4) (zs:=[S0]) (fun F w=>⟨_,rfl,Sl.nil ..⟩) xC ?_);intro b47;refine y4 ?_;refine mv ?_;refine y5 ?_;refine jm (σ:=((List (List zg))×Int)) (fun ((xs49,t51):((List (List zg))×Int)) (a:Act) (w:World)=>JJ [(2,pp b29),(3,pp b43),(4,pp b45),(6,pp b47),(10,I t51)] [ze (zC zb) 137 (.slice (some ⟨b47,0,none⟩) 4 4) xs49,ze (zC zb) 137 (.slice (some ⟨b45,0,none⟩) 4 4) ([[],[],[],[]]),ze (zC zb) 137 (.slice (some ⟨b43,0,none⟩) 4 4) ([other_1.x0,other_1.x1,other_1.x2,other_1.x3]),ze (zC zb) 137 (.slice (some ⟨b29,0,none⟩) 4 4) ([s_0.x0,s_0.x1,s_0.x2,s_0.x3]),zi w0 F] a w) (jI [0,1,2,3,4]) ?_;rintro nx52 ⟨xs49,t51⟩;refine nxj ?_;refine y0 ?_;refine ja st ?_;refine y9 ?_;refine zl ?_ ?_
 ·refine y11 ?_;refine mv ?_;refine ma ?_;refine y1 ?_;refine zW (σ:=((List zg)×Bool)) (fun ((xs53,t56):((List zg)×Bool)) (a:Act) (w:World)=>∃ (v54:Value),JJ [(2,pp b29),(3,pp b43),(4,pp b45),(6,pp b47),(10,I t51),(7,I t51),(8,v54),(9,.bool t56)] [jP zb v54 xs53,ze (zC zb) 137 (.slice (some ⟨b47,0,none⟩) 4 4) xs49,ze (zC zb) 137 (.slice (some ⟨b45,0,none⟩) 4 4) ([[],[],[],[]]),ze (zC zb) 137 (.slice (some ⟨b43,0,none⟩) 4 4) ([other_1.x0,other_1.x1,other_1.x2,other_1.x3]),ze (zC zb) 137 (.slice (some ⟨b29,0,none⟩) 4 4) ([s_0.x0,s_0.x1,s_0.x2,s_0.x3]),zi w0 F] a w) ?_ ?_
  ·intro k57;refine yi mixed 14 rfl [ze (zC zb) 137 (.slice (some ⟨b47,0,none⟩) 4 4) xs49,ze (zC zb) 137 (.slice (some ⟨b45,0,none⟩) 4 4) ([[],[],[],[]]),ze (zC zb) 137 (.slice (some ⟨b43,0,none⟩) 4 4) ([other_1.x0,other_1.x1,other_1.x2,other_1.x3]),ze (zC zb) 137 (.slice (some ⟨b29,0,none⟩) 4 4) ([s_0.x0,s_0.x1,s_0.x2,s_0.x3]),zi w0 F] ?_;intro Qd hP hQ;let NN:=fun i l E L=>Nn 33 [] F w0 Tryz.prog (X9 Tryz.f101 [1,1,0,1,0,0,1,1,0,0,1,0]) Qd [ze (zC zb) 137 (.slice (some ⟨b47,0,none⟩) 4 4) xs49,ze (zC zb) 137 (.slice (some ⟨b45,0,none⟩) 4 4) ([[],[],[],[]]),ze (zC zb) 137 (.slice (some ⟨b43,0,none⟩) 4 4) ([other_1.x0,other_1.x1,other_1.x2,other_1.x3]),ze (zC zb) 137 (.slice (some ⟨b29,0,none⟩) 4 4) ([s_0.x0,s_0.x1,s_0.x2,s_0.x3]),zi w0 F] i l ([(2,pp b29),(3,pp b43),(4,pp b45),(6,pp b47),(10,I t51),(7,I t51)]++E) (L++[ze (zC zb) 137 (.slice (some ⟨b47,0,none⟩) 4 4) xs49,ze (zC zb) 137 (.slice (some ⟨b45,0,none⟩) 4 4) ([[],[],[],[]]),ze (zC zb) 137 (.slice (some ⟨b43,0,none⟩) 4 4) ([other_1.x0,other_1.x1,other_1.x2,other_1.x3]),ze (zC zb) 137 (.slice (some ⟨b29,0,none⟩) 4 4) ([s_0.x0,s_0.x1,s_0.x2,s_0.x3]),zi w0 F]);have H1308 (e58:(List zg)) (h59:([s_0.x0,s_0.x1,s_0.x2,s_0.x3])[(t51).toNat]?=some e58) (e60:(List zg)) (h61:([other_1.x0,other_1.x1,other_1.x2,other_1.x3])[(t51).toNat]?=some e60) (wr62:World) (ff63:Nat→Prop) (v64:Value) (sl65:Sl zb ff63 wr62 v64 e58) (wr66:World) (ff67:Nat→Prop) (v68:Value) (sl69:Sl zb ff67 wr66 v68 e60) (r70:Int) (r71:(List zg)) (v72:Value) (r73:Bool):NN 5 #[Y,Y,Y,Y,Y,Y,Y,Y,Y,Z,Z,Z,Z,Z] [(22,.tuple #[v72,.bool r73])] [jP zb v72 r71] (k57 (r71,r73)):=by
    refine zr (dp 9 [1,2,3,4,5]) ?_;refine jj (dp 10 [1,2,3,4,5]) (vs:=[v72,.bool r73]) ?_;refine jj (dp 11 [1,2,3,4,5]) (vs:=[v72,.bool r73]) ?_;refine xR (dp 12 [1,2,3,4,5]) ?_;refine xR (dp 13 [1,2,3,4,5]) ?_;refine jD (by kernel_rfl) ?_;exact fun a w hE hm hφ=>hQ (r71,r73) a w hφ ((jE v72 [0,1,2,3,4,5]) a w hE hm)
   have H1309 (e58:(List zg)) (h59:([s_0.x0,s_0.x1,s_0.x2,s_0.x3])[(t51).toNat]?=some e58) (e60:(List zg)) (h61:([other_1.x0,other_1.x1,other_1.x2,other_1.x3])[(t51).toNat]?=some e60) (wr62:World) (ff63:Nat→Prop) (v64:Value) (sl65:Sl zb ff63 wr62 v64 e58) (wr66:World) (ff67:Nat→Prop) (v68:Value) (sl69:Sl zb ff67 wr66 v68 e60) (r70:Int):NN 6 #[Y,Y,Y,Y,Y,Y,Y,Y,Z,Z,Z,Z,Z,Z] [(16,v64),(19,v68),(21,I r70)] [zi wr66 ff67,zi wr62 ff63] (zE e58 e60 r70 (fun (r71,r73)=>k57 (r71,r73))):=by
    refine d1 8 rfl (zj Tryz.call157 (by intro w m h;exact ZI (a_0:=e58) (b_1:=e60) (top_2:=r70) jL (m.roS 1 rfl sl65) (m.roS 0 rfl sl69) h) ?_);rintro ⟨r71,r73⟩ v72;exact rd [3,4,5,6,7] [0,3,4,5,6,7] (H1308 e58 h59 e60 h61 wr62 ff63 v64 sl65 wr66 ff67 v68 sl69 r70 r71 v72 r73)
   have H1310 (e58:(List zg)) (h59:([s_0.x0,s_0.x1,s_0.x2,s_0.x3])[(t51).toNat]?=some e58) (e60:(List zg)) (h61:([other_1.x0,other_1.x1,other_1.x2,other_1.x3])[(t51).toNat]?=some e60) (wr62:World) (ff63:Nat→Prop) (v64:Value) (sl65:Sl zb ff63 wr62 v64 e58) (wr66:World) (ff67:Nat→Prop) (v68:Value) (sl69:Sl zb ff67 wr66 v68 e60):NN 7 #[Y,Y,Y,Y,Y,Y,Y,Z,Z,Z,Z,Z,Z,Z] [(20,I t51),(16,v64),(19,v68)] [zi wr66 ff67,zi wr62 ff63] (zB t51 (fun r70=>zE e58 e60 r70 (fun (r71,r73)=>k57 (r71,r73)))):=by
    refine d1 7 rfl (zj Tryz.call113 (by intro w m h;exact rf0 (jh (F:=z6 [] w) (n_0:=t51) zo (m.q 6 hgl0) h)) ?_);rintro r70 _;exact rd [2,3,4,5,6] [0,1,2,3,4,5,6] (H1309 e58 h59 e60 h61 wr62 ff63 v64 sl65 wr66 ff67 v68 sl69 r70)
   have H1311 (e58:(List zg)) (h59:([s_0.x0,s_0.x1,s_0.x2,s_0.x3])[(t51).toNat]?=some e58) (e60:(List zg)) (h61:([other_1.x0,other_1.x1,other_1.x2,other_1.x3])[(t51).toNat]?=some e60) (wr62:World) (ff63:Nat→Prop) (v64:Value) (sl65:Sl zb ff63 wr62 v64 e58) (r74:Int):NN 7 #[Y,Y,Y,Y,Y,Z,Y,Y,Z,Z,Z,Z,Z,Z] [(18,pEl (.slice (some ⟨b43,0,none⟩) 4 4) t51 1 0),(16,v64),(21,I r74)] [zi wr62 ff63] (zE e58 e60 r74 (fun (r71,r73)=>k57 (r71,r73))):=by
    refine d1 5 rfl (xc 3 zI h61 x8 ?_);rintro wr75 ff76 _ ⟨v77,rfl,sl78⟩;refine ⟨v77,rfl,?_⟩;exact rd [2,3,4,5,6] [0,1,2,3,4,5,6] (H1309 e58 h59 e60 h61 wr62 ff63 v64 sl65 wr75 ff76 v77 sl78 r74)
   have H1312 (e58:(List zg)) (h59:([s_0.x0,s_0.x1,s_0.x2,s_0.x3])[(t51).toNat]?=some e58) (e60:(List zg)) (h61:([other_1.x0,other_1.x1,other_1.x2,other_1.x3])[(t51).toNat]?=some e60) (wr62:World) (ff63:Nat→Prop) (v64:Value) (sl65:Sl zb ff63 wr62 v64 e58):NN 8 #[Y,Y,Y,Y,Y,Z,Y,Z,Z,Z,Z,Z,Z,Z] [(18,pEl (.slice (some ⟨b43,0,none⟩) 4 4) t51 1 0),(20,I t51),(16,v64)] [zi wr62 ff63] (zB t51 (fun r70=>zE e58 e60 r70 (fun (r71,r73)=>k57 (r71,r73)))):=by
    refine uw (i:=5) (j:=7) rfl rfl (by kernel_rfl) ?_ ?_
    ·intro o ho;cases ho;refine xc 3 zI h61 x8 ?_;rintro wr66 ff67 _ ⟨v68,rfl,sl69⟩;refine ⟨v68,rfl,?_⟩;exact rd [2,3,4,5,6] [0,1,2,3,4,5,6] (H1310 e58 h59 e60 h61 wr62 ff63 v64 sl65 wr66 ff67 v68 sl69)
    ·intro o ho;cases ho;refine zj (vs:=[I t51]) Tryz.call113 (by intro w m h;exact rf0 (jh (F:=z6 [] w) (n_0:=t51) zo (m.q 5 hgl0) h)) ?_;rintro r74 _;exact rd [1,2,3,4,5] [0,1,2,3,4,5] (H1311 e58 h59 e60 h61 wr62 ff63 v64 sl65 r74)
   have H1313 (e58:(List zg)) (h59:([s_0.x0,s_0.x1,s_0.x2,s_0.x3])[(t51).toNat]?=some e58) (e60:(List zg)) (h61:([other_1.x0,other_1.x1,other_1.x2,other_1.x3])[(t51).toNat]?=some e60) (wr79:World) (ff80:Nat→Prop) (v81:Value) (sl82:Sl zb ff80 wr79 v81 e60) (r87:Int):NN 7 #[Y,Y,Z,Y,Y,Y,Y,Y,Z,Z,Z,Z,Z,Z] [(15,pEl (.slice (some ⟨b29,0,none⟩) 4 4) t51 1 0),(19,v81),(21,I r87)] [zi wr79 ff80] (zE e58 e60 r87 (fun (r71,r73)=>k57 (r71,r73))):=by
    refine d1 2 rfl (xc 4 zI h59 x8 ?_);rintro wr88 ff89 _ ⟨v90,rfl,sl91⟩;refine ⟨v90,rfl,?_⟩;exact rd [2,3,4,5,6] [1,0,2,3,4,5,6] (H1309 e58 h59 e60 h61 wr88 ff89 v90 sl91 wr79 ff80 v81 sl82 r87)
   have H1314 (e58:(List zg)) (h59:([s_0.x0,s_0.x1,s_0.x2,s_0.x3])[(t51).toNat]?=some e58) (e60:(List zg)) (h61:([other_1.x0,other_1.x1,other_1.x2,other_1.x3])[(t51).toNat]?=some e60) (wr79:World) (ff80:Nat→Prop) (v81:Value) (sl82:Sl zb ff80 wr79 v81 e60):NN 8 #[Y,Y,Z,Y,Y,Y,Y,Z,Z,Z,Z,Z,Z,Z] [(15,pEl (.slice (some ⟨b29,0,none⟩) 4 4) t51 1 0),(20,I t51),(19,v81)] [zi wr79 ff80] (zB t51 (fun r70=>zE e58 e60 r70 (fun (r71,r73)=>k57 (r71,r73)))):=by
    refine uw (i:=2) (j:=7) rfl rfl (by kernel_rfl) ?_ ?_
    ·intro o ho;cases ho;refine xc 4 zI h59 x8 ?_;rintro wr83 ff84 _ ⟨v85,rfl,sl86⟩;refine ⟨v85,rfl,?_⟩;exact rd [2,3,4,5,6] [1,0,2,3,4,5,6] (H1310 e58 h59 e60 h61 wr83 ff84 v85 sl86 wr79 ff80 v81 sl82)
    ·intro o ho;cases ho;refine zj (vs:=[I t51]) Tryz.call113 (by intro w m h;exact rf0 (jh (F:=z6 [] w) (n_0:=t51) zo (m.q 5 hgl0) h)) ?_;rintro r87 _;exact rd [1,2,3,4,5] [0,1,2,3,4,5] (H1313 e58 h59 e60 h61 wr79 ff80 v81 sl82 r87)
   have H1315 (e58:(List zg)) (h59:([s_0.x0,s_0.x1,s_0.x2,s_0.x3])[(t51).toNat]?=some e58) (e60:(List zg)) (h61:([other_1.x0,other_1.x1,other_1.x2,other_1.x3])[(t51).toNat]?=some e60) (r92:Int):NN 8 #[Y,Y,Z,Y,Y,Z,Y,Y,Z,Z,Z,Z,Z,Z] [(15,pEl (.slice (some ⟨b29,0,none⟩) 4 4) t51 1 0),(18,pEl (.slice (some ⟨b43,0,none⟩) 4 4) t51 1 0),(21,I r92)] [] (zE e58 e60 r92 (fun (r71,r73)=>k57 (r71,r73))):=by
    refine uw (i:=2) (j:=5) rfl rfl (by kernel_rfl) ?_ ?_
    ·intro o ho;cases ho;refine xc 3 zI h59 x8 ?_;rintro wr93 ff94 _ ⟨v95,rfl,sl96⟩;refine ⟨v95,rfl,?_⟩;exact rd [1,2,3,4,5] [0,1,2,3,4,5] (H1311 e58 h59 e60 h61 wr93 ff94 v95 sl96 r92)
    ·intro o ho;cases ho;refine xc 2 zI h61 x8 ?_;rintro wr97 ff98 _ ⟨v99,rfl,sl100⟩;refine ⟨v99,rfl,?_⟩;exact rd [1,2,3,4,5] [0,1,2,3,4,5] (H1313 e58 h59 e60 h61 wr97 ff98 v99 sl100 r92)
   refine zr (dI 0) ?_;refine xz (dI 1) 3 zh xX ?_;intro e58 h59;refine zr (dI 3) ?_;refine xz (dI 4) 2 zh xX ?_;intro e60 h61;refine zr (dI 6) ?_;refine VL (i:=2) (j:=5) (l:=7) rfl rfl rfl (by kernel_rfl) ?_ ?_ ?_
   ·intro o ho;cases ho;refine xc 3 zI h59 x8 ?_;rintro wr62 ff63 _ ⟨v64,rfl,sl65⟩;refine ⟨v64,rfl,?_⟩;exact rd [1,2,3,4,5] [0,1,2,3,4,5] (H1312 e58 h59 e60 h61 wr62 ff63 v64 sl65)
   ·intro o ho;cases ho;refine xc 2 zI h61 x8 ?_;rintro wr79 ff80 _ ⟨v81,rfl,sl82⟩;refine ⟨v81,rfl,?_⟩;exact rd [1,2,3,4,5] [0,1,2,3,4,5] (H1314 e58 h59 e60 h61 wr79 ff80 v81 sl82)
   ·intro o ho;cases ho;refine zj (vs:=[I t51]) Tryz.call113 (by intro w m h;exact rf0 (jh (F:=z6 [] w) (n_0:=t51) zo (m.q 4 hgl0) h)) ?_;rintro r92 _;refine xQ (fun _ m=>m) ?_;exact rh [0,1,2,3,4] (H1315 e58 h59 e60 h61 r92)
  ·rintro ⟨xs53,t56⟩ a w ⟨v54,hE,hm⟩ h;refine jz hE hm h ?_;clear hE hm h;refine y10 ?_;refine mv ?_;refine jt st ?_;refine y1 ?_;refine zl ?_ ?_
   ·refine y0 ?_;refine zaN st (qs:=[]) (cells:=[S0,S0,S0,S0]) (bqi rfl) zeo ?_;refine stw (yF (El':=(zC zb)) (len:=4) 2 ([[],[],[],[]]) ([[S0],[S0],[S0],[S0]]) (fun w m=>⟨⟨S0,rfl,Sl.nil _ _ _ _ _⟩,⟨S0,rfl,Sl.nil _ _ _ _ _⟩,⟨S0,rfl,Sl.nil _ _ _ _ _⟩,⟨S0,rfl,Sl.nil _ _ _ _ _⟩,trivial⟩) jK ?_);refine ma ?_;refine y19 ?_;refine X2 2 rfl rfl rfl (by decide) ?_;rintro wr102 ff103 _ hr_;obtain ⟨_,_,_,_,rfl,⟨v105,rfl,sl106⟩,⟨v108,rfl,sl109⟩,⟨v111,rfl,sl112⟩,⟨v114,rfl,sl115⟩⟩:=jM hr_;refine jG 0 rfl sl106 ?_;refine jG 1 rfl sl109 ?_;refine jG 2 rfl sl112 ?_;refine jG 3 rfl sl115 ?_;exact jQ Tryz.results101 (za.mk ([]) ([]) ([]) ([]),false) (v105,v108,v111,v114) (ZW 7 rfl rfl jK rfl) (jq rfl) rfl (fun w m=>zO.ofB m [3,2,1,0] rfl)
   ·refine y21 ?_;refine mv ?_;refine mv ?_;refine xz st 1 zh xX ?_;intro e122 h123;refine Zo 0 rfl ?_;rintro a124 l125 q126 rfl;refine stw (zaA (El':=(zC zb)) (y':=xs53) 1 rfl rfl h123 (fun w cs m h=>by obtain ⟨u0_,rfl,s0_⟩:=h;exact ⟨.slice a124 l125 q126,rfl,m.ro 0 rfl⟩) x8 rfl rfl rfl rfl rfl ?_);refine y15 ?_;refine zV st ?_;intro t128;refine mv ?_;refine zx ?_;exact lj [1,2,3,4,5]
 ·refine y7 ?_;refine U8 0 rfl ?_;intro e129 e130 e131 e132;refine stw (xv (len:=4) 0 zI jK ?_);rintro wr134 ff135 _ hr_;obtain ⟨_,_,_,_,rfl,⟨v137,rfl,sl138⟩,⟨v140,rfl,sl141⟩,⟨v143,rfl,sl144⟩,⟨v146,rfl,sl147⟩⟩:=jM hr_;refine ⟨[v137,v140,v143,v146],rfl,?_⟩;obtain ⟨a149,l150,q151,rfl⟩:=zt sl138;obtain ⟨a152,l153,q154,rfl⟩:=zt sl141;obtain ⟨a155,l156,q157,rfl⟩:=zt sl144;obtain ⟨a158,l159,q160,rfl⟩:=zt sl147;refine stw (yF (El':=(zC zb)) (len:=4) 2 ([e129,e130,e131,e132]) ([[.slice a149 l150 q151],[.slice a152 l153 q154],[.slice a155 l156 q157],[.slice a158 l159 q160]]) (fun w m=>⟨⟨.slice a149 l150 q151,rfl,m.roS 0 rfl sl138⟩,⟨.slice a152 l153 q154,rfl,m.roS 0 rfl sl141⟩,⟨.slice a155 l156 q157,rfl,m.roS 0 rfl sl144⟩,⟨.slice a158 l159 q160,rfl,m.roS 0 rfl sl147⟩,trivial⟩) jK ?_);refine ma ?_;refine y3 ?_;refine X2 2 rfl rfl rfl (by decide) ?_;rintro wr162 ff163 _ hr_;obtain ⟨_,_,_,_,rfl,⟨v165,rfl,sl166⟩,⟨v168,rfl,sl169⟩,⟨v171,rfl,sl172⟩,⟨v174,rfl,sl175⟩⟩:=jM hr_;refine jG 0 rfl sl166 ?_;refine jG 1 rfl sl169 ?_;refine jG 2 rfl sl172 ?_;refine jG 3 rfl sl175 ?_;exact jQ Tryz.results101 (za.mk e129 e130 e131 e132,true) (v165,v168,v171,v174) (ZW 7 rfl rfl jK rfl) (jq rfl) rfl (fun w m=>zO.ofB m [3,2,1,0] rfl)
theorem ug {w0:World} {F:Nat→Prop} {b1:Nat} {v2 v7 v4:Value} {u_0_chains:(List (List zS))} {u_0_flats:(List zk)} {u_0_over:Bool} {boxes_1:(List za)} {κ:((List za)×Bool)→Prop} (hF:Fr [zc b1 [v2,v4,(.bool u_0_over)] 169,ze zu 146 v4 u_0_flats] F w0) (hg:um [zc b1 [v2,v4,(.bool u_0_over)] 169,ze zu 146 v4 u_0_flats] F w0) (hv2:Sl (zC xM) F w0 v2 u_0_chains) (hv7:Sl zf F w0 v7 boxes_1) (h:xl u_0_chains u_0_flats u_0_over boxes_1 κ) :
  Calls Tryz.prog 173 #[(pp b1),v7] w0 (Ret [zc b1 [v2,v4,(.bool u_0_over)] 169,ze zu 146 v4 u_0_flats] F w0 κ (fun r (u:Value)=>u) (fun r u=>[jP zf u r.1,zc b1 [v2,v4,(.bool r.2)] 169,ze zu 146 v4 u_0_flats])):=by
 refine Z9 (args:=[pp b1,v7]) [zc b1 [v2,v4,.bool u_0_over] 169,ze zu 146 v4 u_0_flats] hF hg Tryz.func173 rfl Tryz.ntmps173 rfl h ?_;clear h hF hg;let JJ:=Jn 12 [zc b1 [v2,v4,.bool u_0_over] 169,ze zu 146 v4 u_0_flats] F w0;refine y0 ?_;refine stw (jT zf 137 ?_);refine y1 ?_;refine zW (σ:=Bool) (fun t70=>JJ [(1,v7)] [zc b1 [v2,v4,.bool t70] 169,ze zu 146 v4 u_0_flats,zi w0 F]) ?_ ?_
 ·intro k71;refine y0 ?_;refine mv ?_;refine zH st yA 3 (zd hv7) ?_;refine uG st ?_;refine y1 ?_;refine zl ?_ ?_
  ·refine zp ?_;refine mv ?_;refine jF st ?_;refine zw st X0 ?_;refine stw (ji (cs':=[v2,v4,.bool true]) 1 ty4 ?_);refine zx ?_;exact lj [1,2,3]
  ·refine jW ?_;exact lj [1,2,3]
 ·rintro t70;refine nxj ?_;refine y0 ?_;refine mv ?_;refine ma ?_;refine y3 ?_;refine jG 2 rfl hv7 ?_;exact ju Tryz.results173 (boxes_1,t70) v7 (jq rfl) (fun w m=>zO.ofB m [0,1,2] rfl)
theorem Yl {w0:World} {F:Nat→Prop} {v1 v3 v5 v7:Value} {s_0:za} {κ:Bool→Prop} (hF:Fr [] F w0) (hv1:Sl zb F w0 v1 s_0.x0) (hv3:Sl zb F w0 v3 s_0.x1) (hv5:Sl zb F w0 v5 s_0.x2) (hv7:Sl zb F w0 v7 s_0.x3) (h:yf s_0 κ) :
  Calls Tryz.prog 116 #[(.agg #[v1,v3,v5,v7])] w0 (Ret [] F w0 κ (fun r (u:Unit)=>(.bool r)) (fun r u=>[])):=by
 refine eS hF Tryz.func116 Tryz.ntmps116 h ?_;clear h hF;let JJ:=Jn 13 [] F w0;refine y0 ?_;obtain ⟨a9,l10,q11,rfl⟩:=zt hv1;obtain ⟨a12,l13,q14,rfl⟩:=zt hv3;obtain ⟨a15,l16,q17,rfl⟩:=zt hv5;obtain ⟨a18,l19,q20,rfl⟩:=zt hv7;refine stw (Xm (El':=(zC zb)) (len:=4) ([s_0.x0,s_0.x1,s_0.x2,s_0.x3]) ([[.slice a9 l10 q11],[.slice a12 l13 q14],[.slice a15 l16 q17],[.slice a18 l19 q20]]) (fun w m=>⟨⟨.slice a9 l10 q11,rfl,m.roS 0 rfl hv1⟩,⟨.slice a12 l13 q14,rfl,m.roS 0 rfl hv3⟩,⟨.slice a15 l16 q17,rfl,m.roS 0 rfl hv5⟩,⟨.slice a18 l19 q20,rfl,m.roS 0 rfl hv7⟩,trivial⟩) ?_);intro b21;refine ma ?_;refine y4 ?_;refine stw (xv (len:=4) 0 zI jK ?_);rintro wr23 ff24 _ hr_;obtain ⟨_,_,_,_,rfl,⟨v26,rfl,sl27⟩,⟨v29,rfl,sl30⟩,⟨v32,rfl,sl33⟩,⟨v35,rfl,sl36⟩⟩:=jM hr_;refine ⟨[v26,v29,v32,v35],rfl,?_⟩;refine mv ?_;refine y5 ?_;refine jm (σ:=Int) (fun t38=>JJ [(5,.agg #[v26,v29,v32,v35]),(6,I t38)] [zi wr23 ff24]) (jI [0]) ?_;rintro nx39 t38;refine nxj ?_;refine y0 ?_;refine ja st ?_;refine y9 ?_;refine zl ?_ ?_
 ·refine y11 ?_;refine zlL st (vs:=[v26,v29,v32,v35]) (xs:=[s_0.x0,s_0.x1,s_0.x2,s_0.x3]) (fun w m=>⟨m.roS 0 rfl sl27,m.roS 0 rfl sl30,m.roS 0 rfl sl33,m.roS 0 rfl sl36,trivial⟩) xX ?_;intro v40 e41 h42;refine ma ?_;refine y2 ?_;refine mv ?_;refine zH st jX 0 yp ?_;refine xm st uI ?_;refine y1 ?_;refine zl ?_ ?_
  ·refine y0 ?_;refine ma ?_;refine y16 ?_;exact lu Tryz.results116
  ·refine y14 ?_;refine zV st ?_;intro t44;refine mv ?_;refine zx ?_;exact lj [1]
 ·refine y7 ?_;refine ma ?_;refine y3 ?_;exact lu Tryz.results116
theorem za9 {w0:World} {F:Nat→Prop} {inA_0 inB_1:Bool} {κ:Bool→Prop} (hF:Fr [] F w0) (h:yP inA_0 inB_1 κ) :
  Calls Tryz.prog 250 #[(.bool inA_0),(.bool inB_1)] w0 (Ret [] F w0 κ (fun r (u:Unit)=>(.bool r)) (fun r u=>[])):=by
 refine Z8 (args:=[.bool inA_0,.bool inB_1]) [] hF (um.nil _ _) Tryz.func250 rfl Tryz.ntmps250 rfl h ?_;clear h hF;let JJ:=Jn 10 [] F w0;refine y0 ?_;refine ma ?_;refine y1 ?_;refine zW (σ:=Bool) (fun t61=>JJ [(4,.bool t61)] []) ?_ ?_
 ·intro k62;refine zp ?_;refine mv ?_;refine mv ?_;refine xa (dj:=6) rfl ?_ ?_
  ·refine zr (zQ rfl rfl) ?_;refine jt (zQ rfl rfl) ?_;refine zP st ?_;refine ma ?_;refine zx ?_;exact lj []
  ·refine ss ?_;refine ss ?_;refine zF st ?_;refine ma ?_;refine zx ?_;exact lj []
 ·rintro t61;refine nxj ?_;refine uB ?_;exact lu Tryz.results250
theorem yJ {w0:World} {F:Nat→Prop} {v1 v3:Value} {a_0 b_1:(List zg)} {top_2:Int} {κ:(List zg)→Prop} (hF:Fr [] F w0) (hv1:Sl zb F w0 v1 a_0) (hv3:Sl zb F w0 v3 b_1) (h:z8 a_0 b_1 top_2 κ) :
  Calls Tryz.prog 203 #[v1,v3,(I top_2),(.func (.func 250) #[] #[])] w0 (Ret [] F w0 κ (fun r (u:Value)=>u) (fun r u=>[ze zb 89 u r])):=by
 refine eS hF Tryz.func203 Tryz.ntmps203 h ?_;clear h hF;let JJ:=Jn 107 [] F w0;refine y0 ?_;refine stw (jT zb 89 ?_);refine y2 ?_;refine stw (jT zb 89 ?_);refine y2 ?_;refine ma ?_;refine ma ?_;refine y4 ?_;refine ma ?_;refine y5 ?_;refine jm (σ:=((List zg)×Int×Int×Int)) (fun ((xs8,t11,t12,t13):((List zg)×Int×Int×Int)) (a:Act) (w:World)=>∃ (v7:Value),JJ [(0,v1),(1,v3),(2,I top_2),(3,.func (.func 250) #[] #[]),(9,v7),(10,I t11),(11,I t12),(12,I t13)] [zi w0 F,ze zb 89 v7 xs8] a w) (jE S0 [2,0]) ?_;rintro nx14 ⟨xs8,t11,t12,t13⟩ a w ⟨v7,hE,hm⟩ h;refine jz hE hm h ?_;clear hE hm h;refine y10 ?_;refine mv ?_;refine mv ?_;refine Zj st ?_;refine y1 ?_;refine zl ?_ ?_
 ·refine jW (zR (uk (jv (uk ?_))));refine jm (σ:=Int) (fun t15=>JJ [(0,v1),(1,v3),(2,I top_2),(3,.func (.func 250) #[] #[]),(9,v7),(10,I t15),(11,I t12),(12,I t13)] [ze zb 89 v7 xs8,zi w0 F]) (jI [1,0]) ?_;rintro nx16 t15;refine nxj ?_;refine jv ?_;refine zW (σ:=Bool) (fun t79=>JJ [(0,v1),(1,v3),(2,I top_2),(3,.func (.func 250) #[] #[]),(9,v7),(10,I t15),(11,I t12),(12,I t13),(34,.bool t79)] [ze zb 89 v7 xs8,zi w0 F]) ?_ ?_
  ·intro k80;refine zp ?_;refine mv ?_;refine mv ?_;refine zH st jX 1 (zd hv1) ?_;refine ja st ?_;refine mv ?_;refine xa (dj:=26) rfl ?_ ?_
   ·refine zr (zQ rfl rfl) ?_;refine zr (zQ rfl rfl) ?_;refine zJ (zQ rfl rfl) 1 (zd hv1) jX ?_;intro e17 h18;refine jy (zQ rfl rfl) 1 (zd hv1) h18 uo ?_;refine jO (zQ rfl rfl) (enc:=z7) (u:=(I e17.xHi)) 1 (zd hv1) zy h18 ty3 ?_;refine zr (zQ rfl rfl) ?_;refine ja (zQ rfl rfl) ?_;refine zP st ?_;refine zx ?_;exact lj [0,1]
   ·refine ss ?_;refine ss ?_;refine ss ?_;refine ss ?_;refine ss ?_;refine ss ?_;refine ss ?_;refine zF st ?_;refine zx ?_;exact lj [0,1]
  ·rintro t79;refine nxj ?_;refine zl ?_ ?_
   ·refine y31 ?_;refine mv ?_;refine zV st ?_;intro t81;refine ma ?_;refine y12 ?_;exact lj [0,1]
   ·refine Xv (uX (uX (XG (zR (jv (uk ?_))))));refine jm (σ:=Int) (fun t82=>JJ [(0,v1),(1,v3),(2,I top_2),(3,.func (.func 250) #[] #[]),(9,v7),(10,I t15),(11,I t82),(12,I t13)] [ze zb 89 v7 xs8,zi w0 F]) (jI [0,1]) ?_;rintro nx83 t82;refine nxj ?_;refine jv ?_;refine zW (σ:=Bool) (fun t146=>JJ [(0,v1),(1,v3),(2,I top_2),(3,.func (.func 250) #[] #[]),(9,v7),(10,I t15),(11,I t82),(12,I t13),(49,.bool t146)] [ze zb 89 v7 xs8,zi w0 F]) ?_ ?_
    ·intro k147;refine zp ?_;refine mv ?_;refine mv ?_;refine zH st jX 1 (zd hv3) ?_;refine ja st ?_;refine mv ?_;refine xa (dj:=41) rfl ?_ ?_
     ·refine zr (zQ rfl rfl) ?_;refine zr (zQ rfl rfl) ?_;refine zJ (zQ rfl rfl) 1 (zd hv3) jX ?_;intro e84 h85;refine jy (zQ rfl rfl) 1 (zd hv3) h85 uo ?_;refine jO (zQ rfl rfl) (enc:=z7) (u:=(I e84.xHi)) 1 (zd hv3) zy h85 ty3 ?_;refine zr (zQ rfl rfl) ?_;refine ja (zQ rfl rfl) ?_;refine zP st ?_;refine zx ?_;exact lj [0,1]
     ·refine ss ?_;refine ss ?_;refine ss ?_;refine ss ?_;refine ss ?_;refine ss ?_;refine ss ?_;refine zF st ?_;refine zx ?_;exact lj [0,1]
    ·rintro t146;refine nxj ?_;refine zl ?_ ?_
     ·refine y31 ?_;refine mv ?_;refine zV st ?_;intro t148;refine ma ?_;refine y12 ?_;exact lj [0,1]
     ·refine y7 ?_;refine mv ?_;refine mv ?_;refine jG 1 rfl hv1 ?_;refine stw (Xa (I:=t15) (J:=(a_0.length:Int)) 0 jX ?_);intro v149 xs150;refine mv ?_;refine mv ?_;refine stw (zj Tryz.call235 (by intro w m h;exact rf0 (Zv (F:=z6 [] w) (rest_0:=xs150) (at_1:=t13) (top_2:=top_2) zo (m.rd0 0 rfl yp) h)) ?_);rintro ⟨r153,r154⟩ _;refine mv ?_;refine jj st (vs:=[.bool r153,I r154]) ?_;refine jj st (vs:=[.bool r153,I r154]) ?_;refine ma ?_;refine ma ?_;refine y2 ?_;refine mv ?_;refine mv ?_;refine jG 3 rfl hv3 ?_;refine stw (Xa (I:=t82) (J:=(b_1.length:Int)) 0 jX ?_);intro v155 xs156;refine mv ?_;refine mv ?_;refine stw (zj Tryz.call235 (by intro w m h;exact rf0 (Zv (F:=z6 [] w) (rest_0:=xs156) (at_1:=t13) (top_2:=top_2) zo (m.rd0 0 rfl yp) h)) ?_);rintro ⟨r159,r160⟩ _;refine mv ?_;refine jj st (vs:=[.bool r159,I r160]) ?_;refine jj st (vs:=[.bool r159,I r160]) ?_;refine ma ?_;refine ma ?_;refine y2 ?_;refine mv ?_;refine mv ?_;refine zcI st ?_;refine ma ?_;refine y1 ?_;refine zW (σ:=(List zg)) (fun (xs296:(List zg)) (a:Act) (w:World)=>∃ (v297:Value),JJ [(0,v1),(1,v3),(2,I top_2),(3,.func (.func 250) #[] #[]),(9,v297),(10,I t15),(11,I t82),(17,I (min r154 r160))] [ze zb 89 v297 xs296,zi w0 F] a w) ?_ ?_
      ·intro k299;refine y0 ?_;refine mv ?_;refine mv ?_;refine mv ?_;refine stw (zcM (zei rfl rfl Tryz.call250) (by intro w m h;exact rf0 (za9 (F:=z6 [] w) (inA_0:=r153) (inB_1:=r159) zo h)) ?_);rintro r161 _;refine y1 ?_;refine zl ?_ ?_
       ·refine y0 ?_;refine mv ?_;refine zH st jX 4 zh ?_;refine ma ?_;refine y1 ?_;refine zW (σ:=Bool) (fun t226=>JJ [(0,v1),(1,v3),(2,I top_2),(3,.func (.func 250) #[] #[]),(9,v7),(10,I t15),(11,I t82),(12,I t13),(17,I (min r154 r160)),(18,I (xs8.length:Int)),(91,.bool t226)] [ze zb 89 v7 xs8,zi w0 F]) ?_ ?_
        ·intro k227;refine zp ?_;refine mv ?_;refine uG st ?_;refine mv ?_;refine xa (dj:=81) rfl ?_ ?_
         ·refine zr (zQ rfl rfl) ?_;refine zr (zQ rfl rfl) ?_;refine Xb (zQ rfl rfl) ?_;intro t162;refine zJ (zQ rfl rfl) 4 zh jX ?_;intro e163 h164;refine jy (zQ rfl rfl) 4 zh h164 uo ?_;refine jO (zQ rfl rfl) (enc:=z7) (u:=(I e163.xHi)) 4 zh zy h164 ty3 ?_;refine zV (zQ rfl rfl) ?_;intro t165;refine zr (zQ rfl rfl) ?_;refine xm (zQ rfl rfl) uI ?_;refine zP st ?_;refine zx ?_;exact lj [4,5]
         ·refine ss ?_;refine ss ?_;refine ss ?_;refine ss ?_;refine ss ?_;refine ss ?_;refine ss ?_;refine ss ?_;refine ss ?_;refine zF st ?_;refine zx ?_;exact lj [4,5]
        ·rintro t226;refine nxj ?_;refine zl ?_ ?_
         ·refine zp ?_;refine mv ?_;refine mv ?_;refine Xb st ?_;intro t228;refine mv ?_;refine zJ st 0 zh jX ?_;intro e229 h230;refine jy st 0 zh h230 uo ?_;refine stw (VN (enc:=z7) (y':=(zg.mk e229.xLo (min r154 r160))) 0 zy h230 ty3 ?_);refine zx ?_;exact zN (xs8.set (t228).toNat (zg.mk e229.xLo (min r154 r160))) (jE v7 [0,1])
         ·refine zp ?_;refine mv ?_;refine mv ?_;refine mv ?_;refine xy st (qs:=[(0,I t13),(1,I (min r154 r160))]) (cells:=[I t13,I (min r154 r160)]) (bqi rfl) UP ?_;refine stw (xT (enc:=z7) (qs:=[(0,.agg #[I t13,I (min r154 r160)])]) (cells:=[I t13,I (min r154 r160)]) ([zg.mk t13 (min r154 r160)]) zy (by intro ρ h;simp only [List.map_toArray,List.map_cons,List.map_nil,h (.tmp 101) _ rfl]) jX xP ?_);intro v232;refine stw (xx 1 0 (uK zy zh) jX xP ?_);intro v234;refine ma ?_;refine zx ?_;exact zN (xs8++([zg.mk t13 (min r154 r160)])) (jE v234 [1,2])
       ·refine jW ?_;exact zN xs8 (jE v7 [4,5])
      ·rintro xs296 a w ⟨v297,hE,hm⟩ h;refine jz hE hm h ?_;clear hE hm h;refine zp ?_;refine mv ?_;refine zV st ?_;intro t300;refine ma ?_;refine y12 ?_;exact zN (xs296,t15,t82,t300) (jE v297 [1,0])
 ·refine y7 ?_;refine mv ?_;refine ma ?_;refine y3 ?_;exact ju Tryz.results203 xs8 v7 (jq rfl) (fun w m=>zO.ofB m [1] rfl)
theorem Y5 {w0:World} {F:Nat→Prop} {v1 v3:Value} {a_0 b_1:(List zg)} {top_2:Int} {κ:((List zg)×Bool)→Prop} (hF:Fr [] F w0) (hv1:Sl zb F w0 v1 a_0) (hv3:Sl zb F w0 v3 b_1) (h:jo a_0 b_1 top_2 κ) :
  Calls Tryz.prog 239 #[v1,v3,(I top_2)] w0 (Ret [] F w0 κ (fun r (u:Value)=>.tuple #[u,(.bool r.2)]) (fun r u=>[jP zb u r.1])):=by
 refine eS hF Tryz.func239 Tryz.ntmps239 h ?_;clear h hF;refine y0 ?_;refine stw (jT zb 89 ?_);refine ma ?_;refine y2 ?_;refine mv ?_;refine mv ?_;refine mv ?_;refine stw (zj Tryz.call203 (by intro w m h;exact rf (fun _ _=>(zT (jY zy) jw)) (yJ (F:=z6 [] w) (a_0:=a_0) (b_1:=b_1) (top_2:=top_2) zo (m.q 1 hv1) (m.q 1 hv3) h)) ?_);rintro r6 v7;refine frz 0 rfl zh ?_;refine stw (zj Tryz.call202 (by intro w m h;exact YW (list_0:=r6) jL (m.ro 0 rfl) h) ?_);rintro ⟨r9,r12⟩ v10;refine jj st (vs:=[v10,.bool r12]) ?_;refine jj st (vs:=[v10,.bool r12]) ?_;refine ma ?_;refine ma ?_;refine y3 ?_;exact jQ Tryz.results239 (r9,r12) v10 (jq rfl) (jq rfl) rfl (fun w m=>zO.ofB m [0] rfl)
end
end Go.Proofs.YtgpdnnhmndlljaaGreatDoor
