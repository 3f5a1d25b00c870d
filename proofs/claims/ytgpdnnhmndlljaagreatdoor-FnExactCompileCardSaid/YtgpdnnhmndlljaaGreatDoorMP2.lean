import Derived.Test.YtgpdnnhmndlljaaGreatDoorMA1
import Derived.Test.YtgpdnnhmndlljaaGreatDoorMP12
import Derived.Lib.AppendZeros
import Derived.ArgAppend
import Derived.Test.YtgpdnnhmndlljaaGreatDoorRows
import Derived.Test.YtgpdnnhmndlljaaGreatDoorLibS
set_option linter.unusedSimpArgs false
set_option linter.unusedVariables false
set_option linter.unusedSectionVars false
set_option maxHeartbeats 8000000
set_option maxRecDepth 100000
namespace Go.Proofs.YtgpdnnhmndlljaaGreatDoor
section
open Go.RowKit
abbrev I (x:Int):Value:=.int .i64 x
abbrev pp (b:Nat):Value:=.pointer (some ⟨b,0,none⟩)
abbrev S0:Value:=.slice none 0 0
abbrev Y:Bool:=true
abbrev Z:Bool:=false
section
variable {P:Program} {n:Nat} {G D:Nat→Prop} {w0:World} {Q:Exit→Act→World→Prop} {ops:Array Oper} {rest:List Oper} {R:Act→World→Prop} {E E':Env} {L L' Lb:List Ch} {φ:Prop} {k:Nat} {listed:Array Bool}
theorem g1 {α:Type} {a:α}:a=a∧True:=⟨rfl,trivial⟩
theorem g2 {α:Type} {a b:α}:a=a∧b=b∧True:=⟨rfl,g1⟩
theorem g3 {α:Type} {a b c:α}:a=a∧b=b∧c=c∧True:=⟨rfl,g2⟩
theorem g4 {α:Type} {a b c d:α}:a=a∧b=b∧c=c∧d=d∧True:=⟨rfl,g3⟩
theorem g5 {α:Type} {a b c d e:α}:a=a∧b=b∧c=c∧d=d∧e=e∧True:=⟨rfl,g4⟩
theorem g6 {α:Type} {a b c d e f:α}:a=a∧b=b∧c=c∧d=d∧e=e∧f=f∧True:=⟨rfl,g5⟩
theorem rh (l:List Nat) (h:Nx n G D w0 R E' L' φ) (hs:zeI E E':=by repeat (first | exact trivial | refine ⟨rfl,?_⟩)) (hl:Xz L l=L':=by rfl) (hn:XB l=true:=by rfl):Nx n G D w0 R E L φ:=by
 subst hl;exact pk l hn (re hs h)
theorem pk' (l:List Nat) (h:Nx n G D w0 R E (Xz L l) φ) (hl:XB l=true:=by rfl):Nx n G D w0 R E L φ:=pk l hl h
theorem da (l:List Nat) {K:Act→World→Prop} (h:Nx n G D w0 K E L φ) (hl:Xz L l=Lb:=by rfl) (hn:XB l=true:=by rfl):Nx n G D w0 (fun a w=>Mem G D w0 Lb w∧K a w) E L φ:=by
 subst hl;exact xI (fun w m=>m.pick l hn) h
theorem rd (l1 l2:List Nat) {K:Act→World→Prop} (h:Nx n G D w0 K E' L' φ) (hs:zeI E E':=by repeat (first | exact trivial | refine ⟨rfl,?_⟩)) (hl2:Xz L l2=L':=by rfl) (hn2:XB l2=true:=by rfl) (hl:Xz L l1=Lb:=by rfl) (hn:XB l1=true:=by rfl):Nx n G D w0 (fun a w=>Mem G D w0 Lb w∧K a w) E L φ:=by
 subst hl;exact xI (fun w m=>m.pick l1 hn) (rh l2 h hs hl2 hn2)
theorem dp {dst:Option Tmp} {op:Op} {ty:TypeId} {pos:String} {aft:Array Edge} (i:Nat) (l:List Nat) [hQ:PanicOk Q] (hl:Xz L l=Lb:=by rfl) (hn:XB l=true:=by rfl) (hi:ops[i]?=some ⟨dst,op,ty,pos,aft,none⟩:=by rfl) (hr:zeM ops listed i=true:=by kernel_rfl) :
  ui P n G D w0 E ⟨dst,op,ty,pos,aft,none⟩ (wpAnyH P .any ops Q (Mem G D w0 Lb) (k+1) listed) (wpAnyH P .any ops Q (Mem G D w0 Lb) k (listed.setIfInBounds i true)) Lb L:=by
 subst hl;exact dt i (fun w m=>m.pick l hn) hi hr
theorem dI {dst:Option Tmp} {op:Op} {ty:TypeId} {pos:String} {aft:Array Edge} (i:Nat) [hQ:PanicOk Q] (hi:ops[i]?=some ⟨dst,op,ty,pos,aft,none⟩:=by rfl) (hr:zeM ops listed i=true:=by kernel_rfl) :
  ui P n G D w0 E ⟨dst,op,ty,pos,aft,none⟩ (wpAnyH P .any ops Q (Mem G D w0 L) (k+1) listed) (wpAnyH P .any ops Q (Mem G D w0 L) k (listed.setIfInBounds i true)) L L:=dt i (fun _ m=>m) hi hr
theorem dK (i:Nat) {op:Op} {ty:TypeId} {pos:String} {aft:Array Edge} {d:Tmp} {j dj:Nat} {want:Bool} {v:Value} [hQ:PanicOk Q] (h:Nx n G D w0 (wpAnyH P .any ops Q (Mem G D w0 L) k (listed.setIfInBounds i true)) ((d,undef) :: E) L φ)
  (hi:ops[i]?=some ⟨some d,op,ty,pos,aft,some (j,want)⟩:=by rfl) (hr:zeM ops listed i=true:=by kernel_rfl) (hj:(ops[j]?).bind (·.dst)=some dj:=by rfl) (hv:YL E dj=some v:=by rfl) (hb:nw v want=true:=by rfl) (hd:Nat.blt d n=true:=by rfl):Nx n G D w0 (wpAnyH P .any ops Q (Mem G D w0 L) (k+1) listed) E L φ :=
 dsk i (fun _ m=>m) hi hr hj hv hb hd h
theorem ss {op:Op} {ty:TypeId} {pos:String} {aft:Array Edge} {d:Tmp} {j dj:Nat} {want:Bool} {v:Value} (h:Nx n G D w0 (wpList P ops Q rest) ((d,undef) :: E) L φ) (hj:(ops[j]?).bind (·.dst)=some dj:=by rfl) (hv:YL E dj=some v:=by rfl) (hb:nw v want=true:=by rfl) (hd:Nat.blt d n=true:=by rfl):Nx n G D w0 (wpList P ops Q (⟨some d,op,ty,pos,aft,some (j,want)⟩ :: rest)) E L φ :=
 zlh hj hv hb hd h
theorem mv {d:Tmp} {x:Operand} {ty:TypeId} {pos:String} {aft:Array Edge} {v:Value} (h:Nx n G D w0 (wpList P ops Q rest) ((d,v) :: E) L φ) (hx:oev E x=some v:=by rfl) (hd:Nat.blt d n=true:=by rfl):Nx n G D w0 (wpList P ops Q (⟨some d,.move x,ty,pos,aft,none⟩ :: rest)) E L φ:=Ya st hx hd h
theorem ma {d:Tmp} {x:Operand} {ty:TypeId} {pos:String} {aft:Array Edge} {v:Value} (h:Nx n G D w0 (wpList P ops Q rest) ((d,v) :: E) L φ) (hx:oev E x=some v:=by rfl) (hd:Nat.blt d n=true:=by rfl):Nx n G D w0 (wpList P ops Q (⟨some d,.assign x,ty,pos,aft,none⟩ :: rest)) E L φ:=zay st hx hd h
theorem jI (l:List Nat) (hs:zeI E E':=by repeat (first | exact trivial | refine ⟨rfl,?_⟩)) (hl:Xz L l=L':=by rfl) (hn:XB l=true:=by rfl):∀ a w,Has n E a→Mem G D w0 L w→Has n E' a∧Mem G D w0 L' w:=by
 subst hl;exact fun a w hE hm=>⟨hE.sub hs,hm.pick l hn⟩
theorem jE {α:Type} {E':α→Env} {L':α→List Ch} (v:α) (l:List Nat) (hs:zeI E (E' v):=by repeat (first | exact trivial | refine ⟨rfl,?_⟩)) (hl:Xz L l=L' v:=by rfl) (hn:XB l=true:=by rfl):∀ a w,Has n E a→Mem G D w0 L w→∃ v,Has n (E' v) a∧Mem G D w0 (L' v) w:=fun a w hE hm=>⟨v,hE.sub hs,hl ▸ hm.pick l hn⟩
theorem lj {σ:Type} {k:σ→Prop} {Rel:σ→Act→World→Prop} {s:σ} (l:List Nat) (hr:∀ a w,Has n E' a→Mem G D w0 L' w→Rel s a w:=by exact fun _ _ x y=>⟨x,y⟩) (hs:zeI E E':=by repeat (first | exact trivial | refine ⟨rfl,?_⟩)) (hl:Xz L l=L':=by rfl) (hn:XB l=true:=by rfl):Nx n G D w0 (Exit.then (fun a w=>∃ s,k s∧Rel s a w) Q .normal) E L (k s):=by
 subst hl;exact zT s (fun a w hE hm=>hr a w (hE.sub hs) (hm.pick l hn))
theorem dj {σ:Type} {K:σ→Prop} {Rel:σ→Act→World→Prop} {s:σ} (hQ:∀ s a w,K s→Rel s a w→Q .normal a w) (l:List Nat) (hr:∀ a w,Has n E' a→Mem G D w0 L' w→Rel s a w:=by exact fun _ _ x y=>⟨x,y⟩) (hs:zeI E E':=by repeat (first | exact trivial | refine ⟨rfl,?_⟩)) (hl:Xz L l=L':=by rfl) (hn:XB l=true:=by rfl) (hd:Region.ready .any ops listed=[]:=by kernel_rfl):Nx n G D w0 (wpAnyH P .any ops Q (Mem G D w0 Lb) k listed) E L (K s):=by
 subst hl;exact jD hd (fun a w hE hm hφ=>hQ s a w hφ (hr a w (hE.sub hs) (hm.pick l hn)))
end
abbrev Jn (n:Nat) (M0:List Ch) (F:Nat→Prop) (w0:World) (E:Env) (L:List Ch) (a:Act) (w:World):Prop:=Has n E a∧Mem (gB F M0 w0) (xZ M0) w0 L w
abbrev Nn (n:Nat) (M0:List Ch) (F:Nat→Prop) (w0:World) (P:Program) (ops:Array Oper) (Q:Exit→Act→World→Prop) (Lb:List Ch) (i:Nat) (l:Array Bool) (E:Env) (L:List Ch) (φ:Prop):Prop :=
 Nx n (gB F M0 w0) (xZ M0) w0 (wpAnyH P .any ops Q (Mem (gB F M0 w0) (xZ M0) w0 Lb) i l) E L φ
abbrev Fr (M0:List Ch) (F:Nat→Prop) (w0:World):Prop:=∀ b,F b→b<w0.heap.size∧¬ xZ M0 b
theorem nxj {n:Nat} {G D:Nat→Prop} {w0:World} {R:Act→World→Prop} {E:Env} {L:List Ch} {φ:Prop} (h:Nx n G D w0 R E L φ):∀ a w,(Has n E a∧Mem G D w0 L w)→φ→R a w:=fun a w x y=>h a w x.1 x.2 y
def bq (E:Env):List (Nat×Operand)→Option (List (Nat×Value))
 | []=>some []
 | (i,x) :: r=>match oev E x,bq E r with
  | some v,some q=>some ((i,v) :: q)
  | _,_=>none
theorem bqi {E:Env}:∀ {l:List (Nat×Operand)} {qs:List (Nat×Value)},bq E l=some qs→∀ ρ:Operand→Value,(∀ x v,oev E x=some v→ρ x=v)→(l.toArray.map fun (i,x)=>(i,ρ x))=qs.toArray
 | [],qs,h,ρ,hρ=>by cases h;simp
 | (i,x) :: r,qs,h,ρ,hρ=>by
  unfold bq at h
  cases e1:oev E x with
  | none=>rw [e1] at h;cases h
  | some v =>
   cases e2:bq E r with
   | none=>rw [e1,e2] at h;cases h
   | some q =>
    rw [e1,e2] at h
    cases h
    have:=bqi e2 ρ hρ
    simp only [List.map_toArray,List.map_cons] at this ⊢
    rw [hρ x v e1,List.toArray_inj this]
section
variable {P:Program} {n:Nat} {G D:Nat→Prop} {w0:World} {E:Env} {L:List Ch}
theorem lu {M0:List Ch} {ρ:Type} {F:Nat→Prop} {fn:Func} {s:Nat} {κ:ρ→Prop} {val:ρ→Unit→Value} {r:ρ} (hres:fn.results=#[.tmp s]) (hs:YL E s=some (val r ()):=by rfl):Nx n G (xZ M0) w0 (bodyPost P fn (Ret M0 F w0 κ val (fun _ _=>[])) .ret) E L (κ r):=jf hres r () (jp hs) (fun _ _=>zN.nil _ _ _ _)
theorem d1 {dst:Option Tmp} {op:Op} {ty:TypeId} {pos:String} {aft:Array Edge} {ops:Array Oper} {Q:Exit→Act→World→Prop} {Lb:List Ch} {k:Nat} {listed:Array Bool} {φ:Prop} (i:Nat) (hi:ops[i]?=some ⟨dst,op,ty,pos,aft,none⟩)
  (h:Nx n G D w0 (fun a w=>Oper.wp P ⟨dst,op,ty,pos,aft,none⟩ a w (fun a' w'=>Mem G D w0 Lb w'∧wpAnyH P .any ops Q (Mem G D w0 Lb) k (listed.setIfInBounds i true) a' w') Q) E L φ) (hr:Region.ready .any ops listed=[i]:=by kernel_rfl):Nx n G D w0 (wpAnyH P .any ops Q (Mem G D w0 Lb) (k+1) listed) E L φ:=zjy hi hr h
end
theorem eS {P:Program} {n:Nat} {w0:World} {φ:Prop} {F:Nat→Prop} {f:Nat} {fn:Func} {c:Code} {args:List Value} {K:Ending→World→Prop} (hF:Fr [] F w0) (hf:P.funcs[f]?=some fn) (hn:fn.ntmps=n) (hφ:φ) (h:Nx n (gB F [] w0) (xZ []) w0 (c.wp P (bodyPost P fn K)) (VK 0 args) ([]++[zh w0 F]) φ) (hb:fn.body=some c:=by rfl) (hle:Nat.ble args.length n=true:=by rfl):Calls P f args.toArray w0 K :=
 Ye [] hF (ub.nil _ _) hf hb hn hle hφ h
theorem rf {P:Program} {f:Nat} {ar:Array Value} {ρ ν:Type} {M0:List Ch} {F F':Nat→Prop} {w:World} {κ:ρ→Prop} {val:ρ→ν→Value} {N:ρ→ν→List Ch} (hf:∀ r s,∀ c∈N r s,c.free) (h:Calls P f ar w (Ret M0 F w κ val N)):Calls P f ar w (Ret M0 F' w κ val N):=h.mono (fun _ _ k=>zii hf k)
theorem rf0 {P:Program} {f:Nat} {ar:Array Value} {ρ ν:Type} {M0:List Ch} {F F':Nat→Prop} {w:World} {κ:ρ→Prop} {val:ρ→ν→Value} (h:Calls P f ar w (Ret M0 F w κ val (fun _ _=>[]))):Calls P f ar w (Ret M0 F' w κ val (fun _ _=>[])):=rf (fun _ _=>jv) h
theorem Mem.q {G D:Nat→Prop} {w0 wr:World} {F0:Nat→Prop} {α:Type} {El':El α} {v:Value} {xs:List α} {w:World} {L:List Ch} (m:Mem G D w0 L w) (i:Nat) (S:Sl El' F0 wr v xs) (hi:xa L i=some (zh wr F0):=by rfl):Sl El' (fun b=>b<w.heap.size∧¬ xZ [] b) w v xs:=m.rd0 i hi (zc S)
theorem Mem.qM {G D:Nat→Prop} {w0 wr:World} {F0:Nat→Prop} {α:Type} {El':El α} {v:Value} {xs:List α} {w:World} {M0 L':List Ch} (m:Mem G D w0 (M0++L') w) (i:Nat) (S:Sl El' F0 wr v xs) (hi:xa L' i=some (zh wr F0):=by rfl):Sl El' (fun b=>b<w.heap.size∧¬ xZ M0 b) w v xs:=m.rdM i hi (zc S)
end
section
open Go.RowKit
section
variable {P:Program} {n:Nat} {G D:Nat→Prop} {w0:World} {Q:Exit→Act→World→Prop} {ops:Array Oper} {rest:List Oper} {R:Act→World→Prop} {E:Env} {L:List Ch} {φ:Prop}
theorem zi {c:Operand} {x y:Code} {t:Bool} {A B:Prop} (hx:Nx n G D w0 (x.wp P Q) E L A) (hy:Nx n G D w0 (y.wp P Q) E L B) (hc:oev E c=some (.bool t):=by rfl):Nx n G D w0 ((Code.cond c x y).wp P Q) E L (ifW t A B) :=
 fun a w hE hm hφ=>wp_cond_split (hE.eval hc) (fun h=>hx a w hE hm (hφ.1 h)) (fun h=>hy a w hE hm (hφ.2 h))
end
section
variable {P:Program} {n:Nat} {G D:Nat→Prop} {w0:World} {Q:Exit→Act→World→Prop} {R:Act→World→Prop} {E:Env} {L Lb:List Ch} {φ:Prop}
variable {dst:Option Tmp} {op:Op} {ty:TypeId} {pos:String} {aft:Array Edge} {ops:Array Oper} {listed:Array Bool} {k:Nat}
end
section
variable {P:Program} {n:Nat} {G D:Nat→Prop} {w0:World} {Q:Exit→Act→World→Prop} {R:Act→World→Prop} {E:Env} {L M:List Ch} {φ:Prop}
variable {d:Tmp} {ty:TypeId} {pos:String} {aft:Array Edge} {gd:Option (Nat×Bool)} {Tk:Act→World→Prop} {Lr:List Ch} {x y:Operand} {T T' S:TypeId} {e sz by':Nat}
end
section
variable {P:Program} {n:Nat} {G D:Nat→Prop} {w0:World} {Q:Exit→Act→World→Prop} {R:Act→World→Prop} {E:Env} {L:List Ch} {φ:Prop}
variable {d:Tmp} {ty:TypeId} {pos:String} {aft:Array Edge} {gd:Option (Nat×Bool)} {Tk:Act→World→Prop} {Lr:List Ch} {x y:Operand} {T T' S:TypeId} {e sz by':Nat}
end
section
variable {P:Program} {n:Nat} {G D:Nat→Prop} {w0:World} {Q:Exit→Act→World→Prop} {R:Act→World→Prop} {E:Env} {L:List Ch} {φ:Prop}
variable {d:Tmp} {ty:TypeId} {pos:String} {aft:Array Edge} {gd:Option (Nat×Bool)} {Tk:Act→World→Prop} {Lr:List Ch} {x y:Operand} {T T':TypeId}
theorem zK (M:ui P n G D w0 E ⟨some d,.binOp .add T x y T',ty,pos,aft,gd⟩ Tk R Lr L) {X Y:Int} {κ:Int→Prop} (k:∀ z,Nx n G D w0 R ((d,.int .i64 z) :: E) L (κ z)) (hx:oev E x=some (.int .i64 X):=by rfl) (hy:oev E y=some (.int .i64 Y):=by rfl) (hd:Nat.blt d n=true:=by rfl):Nx n G D w0 Tk E L (jo X Y κ) :=
 M.val (v:=.int .i64 (X+Y)) hd rfl (fun ρ w hE _ hφ=>by
  have h:=hφ.1
  have e:IntKind.i64.wrap (X+Y)=X+Y:=by unfold I64 at h;rw [IntKind.wrap_i64];omega
  simp [execOp,hE _ _ hx,hE _ _ hy,go_sem,e]) (fun h=>h.2) (k _)
theorem zgB (M:ui P n G D w0 E ⟨some d,.binOp .add T x y T',ty,pos,aft,gd⟩ Tk R Lr L) {X Y:Int} (k:Nx n G D w0 R ((d,.int .i64 (w64 (X+Y))) :: E) L φ) (hx:oev E x=some (.int .i64 X):=by rfl) (hy:oev E y=some (.int .i64 Y):=by rfl) (hd:Nat.blt d n=true:=by rfl):Nx n G D w0 Tk E L φ :=
 M.val hd rfl (fun ρ w hE _ _=>by simp [execOp,hE _ _ hx,hE _ _ hy,go_sem,w64]) id k
end
section
variable {P:Program} {n:Nat} {G D:Nat→Prop} {w0:World} {Q:Exit→Act→World→Prop} {R:Act→World→Prop} {E:Env} {L:List Ch} {φ:Prop}
variable {d:Tmp} {ty:TypeId} {pos:String} {aft:Array Edge} {gd:Option (Nat×Bool)} {Tk:Act→World→Prop} {Lr:List Ch} {x y:Operand} {T T' S:TypeId}
theorem jq (cs:List Value) (hz:uj P T=some cs) (k:∀ b,Nx n G D w0 R ((d,.pointer (some ⟨b,0,none⟩)) :: E) (zf b cs T :: L) φ) (hd:Nat.blt d n=true:=by rfl):Nx n G D w0 (fun a w=>Oper.wp P ⟨some d,.alloc T,ty,pos,aft,gd⟩ a w R Q) E L φ:=zbh hd cs hz k
end
section
variable {P:Program} {n:Nat} {G D:Nat→Prop} {w0:World} {Q:Exit→Act→World→Prop} {R:Act→World→Prop} {E:Env} {L:List Ch} {φ:Prop}
variable {d:Tmp} {ty:TypeId} {pos:String} {aft:Array Edge} {gd:Option (Nat×Bool)} {Tk:Act→World→Prop} {Lr:List Ch} {x y:Operand} {T T' S:TypeId} {e sz by':Nat}
theorem x9 {α:Type} {El':El α} {z:α} {len:Nat} {cs zs:List Value} (hz:∀ F w,El'.cells F w z zs) (hzr:uj P T=some cs) (k:∀ b,Nx n G D w0 R ((d,.pointer (some ⟨b,0,none⟩)) :: E) (ze El' T (.slice (some ⟨b,0,none⟩) len len) (List.replicate len z) :: L) φ) (hd:Nat.blt d n=true:=by rfl) (hcs:(List.replicate len zs).flatten=cs:=by rfl) (hlen:Nat.ble len 65536=true:=by rfl):Nx n G D w0 (fun a w=>Oper.wp P ⟨some d,.alloc T,ty,pos,aft,gd⟩ a w R Q) E L φ :=
 Xy hd rfl fun ρ w hE hm hφ=>by
  unfold uj at hzr
  cases hi:P.info? T with
  | none=>simp [hi] at hzr
  | some i =>
   cases hz':i.zero with
   | none=>simp [hi,hz'] at hzr
   | some zv =>
    simp [hi,hz'] at hzr
    have hlz:zs.length=El'.size:=El'.len _ _ _ _ (hz (fun _=>True) w)
    refine ⟨_,w.alloc (.cells cs.toArray T),_,φ,by simp [execOp,Instr.alloc,zeroValue,typeInfo,hi,hz',newVar,newRow,← hzr],?_,hφ,k w.heap.size⟩
    refine hm.add _ ((Below.refl _ _).alloc (Nat.le_refl _) _) (fun b hb=>by simp [ze,Value.ownBlock] at hb;rw [World.size_alloc];omega) ?_
    have hle:=Nat.le_of_ble_eq_true hlen
    have hown:=zac (El':=El') (F:=fz G (ze El' T (.slice (some ⟨w.heap.size,0,none⟩) len len) (List.replicate len z) :: L) (w.alloc (.cells cs.toArray T))) (w:=w.alloc (.cells cs.toArray T)) (ty:=T) (b:=w.heap.size) (cap:=len)
     (Rows.replicate (hz _ _) len) (heap_alloc_new w _) (by simp) (by unfold maxLen;omega) (by rw [← hcs];simp [hlz]) (by
      rw [← hcs,List.length_replicate,List.take_of_length_le (by simp [hlz])])
    rw [List.length_replicate] at hown
    exact hown
end
section
variable {P:Program} {n:Nat} {G D:Nat→Prop} {w0:World} {Q:Exit→Act→World→Prop} {R:Act→World→Prop} {E:Env} {L:List Ch} {φ:Prop}
variable {d:Tmp} {ty:TypeId} {pos:String} {aft:Array Edge} {gd:Option (Nat×Bool)} {Tk:Act→World→Prop} {Lr:List Ch} {x y:Operand} {T T' S:TypeId} {e sz by':Nat}
theorem xr {α:Type} {El':El α} {v u:Value} {xs ys:List α} {c:Ch} {κ:List α→Prop} {zs:List Value} (i:Nat) (j:Nat) (hc:Src c El' u ys) (hT:elB P T=some (e,sz,by')) (hzr:uj P e=some zs) (k:∀ v',Nx n G D w0 R ((d,v') :: E) (yb L i (ze El' e v' (xs++ys))) (κ (xs++ys))) (hi:xa L i=some (ze El' e v xs):=by rfl) (hj:xa L j=some c:=by rfl) (hx:oev E x=some v:=by rfl) (hy:oev E y=some u:=by rfl) (hd:Nat.blt d n=true:=by rfl) (hby:Nat.ble by' 32768=true:=by rfl) (hzl:zs.length=sz:=by rfl) (hes:El'.size=sz:=by rfl):Nx n G D w0 (fun a w=>Oper.wp P ⟨some d,.call {callee:=.builtin .append,args:=#[x,y],argTypes:=#[T,T]},ty,pos,aft,gd⟩ a w R Q) E L (jG xs ys κ):=zjK i j hi hj hc hx hy hd hT hby hzr hzl hes k
end
section
variable {P:Program} {n:Nat} {G D:Nat→Prop} {w0:World} {Q:Exit→Act→World→Prop} {R:Act→World→Prop} {E:Env} {L M:List Ch} {φ:Prop}
variable {d:Tmp} {ty:TypeId} {pos:String} {aft:Array Edge} {gd:Option (Nat×Bool)} {Tk:Act→World→Prop} {Lr:List Ch} {x y:Operand} {T T' S:TypeId} {e sz by':Nat}
theorem XP {α:Type} {E':DEl α} {v u:Value} {xs ys:List α} {B C:List Nat} {κ:List α→Prop} {zs:List Value} (hT:elB P T=some (e,sz,by')) (hzr:uj P e=some zs) (k:∀ B' v',Nx n G D w0 R ((d,v') :: E) (z7 E' e B' v' (xs++ys) :: L) (κ (xs++ys))) (hx:oev E x=some v:=by rfl) (hy:oev E y=some u:=by rfl) (hd:Nat.blt d n=true:=by rfl) (hby:Nat.ble by' 32768=true:=by rfl) (hzl:zs.length=sz:=by rfl) (hes:E'.el.size=sz:=by rfl):Nx n G D w0 (fun a w=>Oper.wp P ⟨some d,.call {callee:=.builtin .append,args:=#[x,y],argTypes:=#[T,T]},ty,pos,aft,gd⟩ a w R Q) E (z7 E' e B v xs :: z7 E' e C u ys :: L) (jG xs ys κ) :=
 Xy hd rfl fun ρ w hE hm hφ=>by
  obtain ⟨h0,h1⟩:=hφ
  obtain ⟨hu,inf,hinf,rfl,rfl⟩:=uU hT
  obtain ⟨z',hz',hzc⟩:=yr hzr hinf
  unfold zcg at h0
  have hbl:=Nat.le_of_ble_eq_true hby
  obtain ⟨bn,css,Bs,hr,how,hB⟩:=hm.hold _ (List.mem_cons_self ..)
  obtain ⟨cn,dss,Cs,hrd,hod,hC⟩:=hm.hold (z7 E' e C u ys) (List.mem_cons_of_mem _ (List.mem_cons_self ..))
  have hdis:∀ b,b∈B→b ∉ C:=fun b hb=>(List.pairwise_cons.1 hm.disj).1 _ (List.mem_cons_self ..) b hb
  have hBn:=hB.nodup_iff.1 bn
  have hCn:=hC.nodup_iff.1 cn
  rw [List.nodup_append] at hBn hCn
  have hinB:∀ b,b∈Bs.flatten→b∈B:=fun b hb=>hB.symm.subset (List.mem_append.2 (.inr hb))
  have hinC:∀ b,b∈Cs.flatten→b∈C:=fun b hb=>hC.symm.subset (List.mem_append.2 (.inr hb))
  have hvB:∀ b,v.ownBlock=some b→b∈B:=fun b hb=>hB.symm.subset (List.mem_append.2 (.inl (uV.2 hb)))
  have hlB:=hr.lt
  have hlC:=hrd.lt
  have hone:=(hrd.rows (F:=fun _=>True) (fun _ _=>trivial)).one
  have hlen:=(hrd.rows (F:=fun _=>True) (fun _ _=>trivial)).length
  rw [hes] at hlen
  have hsrc:∃ a cap,u=.slice a ys.length cap∧((∃ ad,a=some ad∧∀ j q,dss.flatten[j]?=some q→w.cell? (ad.add j)=some q)∨(ys=[]∧a=none)):=by
   rcases hod.2 with ⟨rfl,hn⟩ | ⟨g,cap,cur,rfl,_,hg,_,_,_,ht⟩
   ·have:ys=[]:=List.eq_nil_of_length_eq_zero hn
    subst this
    exact ⟨none,0,rfl,.inr ⟨rfl,rfl⟩⟩
   ·refine ⟨_,cap,rfl,.inl ⟨_,rfl,fun j q hq=>?_⟩⟩
    rw [Addr.add_mid,cell_of_row w g _ cur e (0,0) hg]
    rw [← ht,List.getElem?_take] at hq
    split at hq
    ·simpa using hq
    ·cases hq
  obtain ⟨a,cap,rfl,hsrc⟩:=hsrc
  rcases hsrc with ⟨ad,rfl,hcell⟩ | ⟨rfl,rfl⟩
  ·obtain ⟨v',w',g1,g2,g3,_,g5⟩:=run_append_own_at (P:=P) w 0 T ty e inf z' inf.size inf.bytes hu hinf hz' rfl rfl (by rw [hzc];simpa using hzl) (by rw [← hes];exact E'.el.pos)
    v xs.length css.flatten (by rw [← hes];exact how) ad ys.length cap dss.flatten hlen hcell hone (by unfold maxLen;omega) (by
     have:=Nat.mul_le_mul h0 hbl
     omega) (Nat.zero_le _)
   have hv':∀ b,v'.ownBlock=some b→v.ownBlock=some b∨b=w.heap.size:=fun b hb=>by
    rcases g5 with g5 | g5
    ·exact .inl (by rw [← g5];exact hb)
    ·right;rw [hb] at g5;simpa using g5
   have hkeepB:∀ b,b∈Bs.flatten→w'.heap[b]?=w.heap[b]?:=fun b hb=>g3.block b (hlB b hb) (fun e'=>hBn.2.2 b (uV.2 e'.symm) b hb rfl)
   have hkeepC:∀ b,b∈Cs.flatten→w'.heap[b]?=w.heap[b]?:=fun b hb=>g3.block b (hlC b hb) (fun e'=>hdis b (hvB b e'.symm) (hinC b hb))
   refine ⟨v',w',_,κ (xs++ys),by simp [execOp,resolve,invoke,builtin,hE _ _ hx,hE _ _ hy,g1],?_,h1,k (UB v'++(Bs++Cs).flatten) v'⟩
   refine hm.repl (M0:=[z7 E' e B v xs,z7 E' e C (.slice (some ad) ys.length cap) ys]) (N:=[z7 E' e (UB v'++(Bs++Cs).flatten) v' (xs++ys)])
    ⟨g3.os,g3.tape,g3.output,g3.size,fun b hb hne=>g3.block b hb (fun e'=>hne ⟨_,List.mem_cons_self ..,hvB b e'.symm⟩)⟩ (fun c hc b hb=>?_) (List.pairwise_singleton _ _) (fun c hc F=>?_)
   ·simp only [List.mem_cons,List.not_mem_nil,or_false] at hc
    subst hc
    have hb':b∈UB v'++(Bs++Cs).flatten:=hb
    rw [List.flatten_append] at hb'
    have hsz:=g3.size
    rcases List.mem_append.1 hb' with hb' | hb'
    ·have hlt:=(g2.lt b (uV.1 hb')).2
     rcases hv' b (uV.1 hb') with h | h
     ·exact ⟨.inr ⟨_,List.mem_cons_self ..,hvB b h⟩,hlt⟩
     ·exact ⟨.inl (by omega),hlt⟩
    ·rcases List.mem_append.1 hb' with hb' | hb'
     ·exact ⟨.inr ⟨_,List.mem_cons_self ..,hinB b hb'⟩,by have:=hlB b hb';omega⟩
     ·exact ⟨.inr ⟨_,List.mem_cons_of_mem _ (List.mem_cons_self ..),hinC b hb'⟩,by have:=hlC b hb';omega⟩
   ·simp only [List.mem_cons,List.not_mem_nil,or_false] at hc
    subst hc
    refine ⟨?_,css++dss,Bs++Cs,(hr.keep hkeepB).append (hrd.keep hkeepC),by rw [List.flatten_append,List.length_append,hes];exact g2,List.Perm.refl _⟩
    rw [List.flatten_append,List.nodup_append,List.nodup_append]
    refine ⟨zcP _,⟨hBn.2.1,hCn.2.1,fun b hb c hc e'=>hdis b (hinB b hb) (by rw [e'];exact hinC c hc)⟩,fun b hb c hc e'=>?_⟩
    subst e'
    rcases hv' b (uV.1 hb) with h | h
    ·rcases List.mem_append.1 hc with hc | hc
     ·exact hBn.2.2 b (uV.2 h) b hc rfl
     ·exact hdis b (hvB b h) (hinC b hc)
    ·rcases List.mem_append.1 hc with hc | hc
     ·have:=hlB b hc;omega
     ·have:=hlC b hc;omega
  ·have hrun:(Builtin.append_ #[T,T] ty #[v,.slice none 0 cap]).run P w=.ok v w:=by
    rcases how.2 with ⟨rfl,hn0⟩ | ⟨g,cap',cur,rfl,_,_,hnc,_⟩
    ·simp [Builtin.append_,run_underlying hu,sizeOf,typeInfo,hinf,Builtin.lenOf,Builtin.firstCells]
    ·simp [Builtin.append_,run_underlying hu,sizeOf,typeInfo,hinf,Builtin.lenOf,Builtin.firstCells,hnc,storeCells]
   refine ⟨v,w,z7 E' e B v xs :: L,κ xs,by simp [execOp,resolve,invoke,builtin,hE _ _ hx,hE _ _ hy,hrun],hm.sub ((List.sublist_cons_self _ _).cons_cons _),by simpa using h1,?_⟩
   have:=k B v
   rwa [List.append_nil] at this
end
section
variable {P:Program} {n:Nat} {G D:Nat→Prop} {w0:World} {Q:Exit→Act→World→Prop} {R:Act→World→Prop} {E:Env} {L:List Ch} {φ:Prop}
variable {d:Tmp} {ty:TypeId} {pos:String} {aft:Array Edge} {gd:Option (Nat×Bool)} {Tk:Act→World→Prop} {Lr:List Ch} {x y:Operand} {T T':TypeId}
theorem ue (M:ui P n G D w0 E ⟨some d,.assign x,ty,pos,aft,gd⟩ Tk R Lr L) {v:Value} (k:Nx n G D w0 R ((d,v) :: E) L φ) (hx:oev E x=some v:=by rfl) (hd:Nat.blt d n=true:=by rfl):Nx n G D w0 Tk E L φ:=zay M hx hd k
end
section
variable {P:Program} {n:Nat} {G D:Nat→Prop} {w0:World} {Q:Exit→Act→World→Prop} {R:Act→World→Prop} {E:Env} {L M:List Ch} {φ:Prop}
variable {d:Tmp} {ty:TypeId} {pos:String} {aft:Array Edge} {gd:Option (Nat×Bool)} {Tk:Act→World→Prop} {Lr:List Ch} {x y:Operand} {T T' S:TypeId} {e sz by':Nat}
theorem Zn {α:Type} (E':DEl α) (e:TypeId) (k:Nx n G D w0 R ((d,.slice none 0 0) :: E) (z7 E' e [] (.slice none 0 0) [] :: L) φ) (hx:oev E x=some (.slice none 0 0):=by rfl) (hd:Nat.blt d n=true:=by rfl):Nx n G D w0 (fun a w=>Oper.wp P ⟨some d,.assign x,ty,pos,aft,gd⟩ a w R Q) E L φ :=
 Xy hd rfl fun ρ w hE hm hφ=>⟨_,w,_,φ,by simp [execOp,hE _ _ hx],zc4 E' e hm,hφ,k⟩
end
section
variable {P:Program} {n:Nat} {G D:Nat→Prop} {w0:World} {Q:Exit→Act→World→Prop} {R:Act→World→Prop} {E:Env} {L:List Ch} {φ:Prop}
variable {d:Tmp} {ty:TypeId} {pos:String} {aft:Array Edge} {gd:Option (Nat×Bool)} {Tk:Act→World→Prop} {Lr:List Ch} {x y:Operand} {T T' S:TypeId} {e sz by':Nat}
theorem jL {α:Type} (El':El α) (e:Nat) (k:Nx n G D w0 R ((d,.slice none 0 0) :: E) (ze El' e (.slice none 0 0) [] :: L) φ) (hx:oev E x=some (.slice none 0 0):=by rfl) (hd:Nat.blt d n=true:=by rfl):Nx n G D w0 (fun a w=>Oper.wp P ⟨some d,.assign x,ty,pos,aft,gd⟩ a w R Q) E L φ :=
 Xy hd rfl fun ρ w hE hm hφ=>⟨_,w,_,φ,by simp [execOp,hE _ _ hx],zeO El' e hm,hφ,k⟩
end
section
variable {P:Program} {n:Nat} {G D:Nat→Prop} {w0:World} {Q:Exit→Act→World→Prop} {R:Act→World→Prop} {E:Env} {L:List Ch} {φ:Prop}
variable {d:Tmp} {ty:TypeId} {pos:String} {aft:Array Edge} {gd:Option (Nat×Bool)} {Tk:Act→World→Prop} {Lr:List Ch} {x y:Operand} {T T' S:TypeId}
end
section
variable {P:Program} {n:Nat} {G D:Nat→Prop} {w0:World} {Q:Exit→Act→World→Prop} {R:Act→World→Prop} {E:Env} {L:List Ch} {φ:Prop}
variable {d:Tmp} {ty:TypeId} {pos:String} {aft:Array Edge} {gd:Option (Nat×Bool)} {Tk:Act→World→Prop} {Lr:List Ch} {x y:Operand} {T T' S:TypeId} {e sz by':Nat} {at':Array TypeId}
theorem zhO {b:BinOp} (M:ui P n G D w0 E ⟨some d,.binOp b T x y T',ty,pos,aft,gd⟩ Tk R Lr L) {u v:Value} (c:Value) (hr:∀ w,(do eqGuard b T x y u v;binOp b T u v:Sem Value).run P w=.ok c w) (k:Nx n G D w0 R ((d,c) :: E) L φ) (hx:oev E x=some u:=by rfl) (hy:oev E y=some v:=by rfl) (hd:Nat.blt d n=true:=by rfl):Nx n G D w0 Tk E L φ :=
 M.val hd rfl (fun ρ w hE _ _=>by
  have h:=hr w
  simp only [execOp,hE _ _ hx,hE _ _ hy]
  rw [Sem.run_bind,h]
  rfl) id k
end
section
variable {P:Program} {n:Nat} {G D:Nat→Prop} {w0:World} {Q:Exit→Act→World→Prop} {R:Act→World→Prop} {E:Env} {L:List Ch} {φ:Prop}
variable {d:Tmp} {ty:TypeId} {pos:String} {aft:Array Edge} {gd:Option (Nat×Bool)} {Tk:Act→World→Prop} {Lr:List Ch} {x y:Operand} {T T' S:TypeId} {e sz by':Nat}
theorem xP {ps:Array (Nat×Operand)} (M:ui P n G D w0 E ⟨some d,.build T ps,ty,pos,aft,gd⟩ Tk R Lr L) {qs:List (Nat×Value)} {cells zs:List Value} {pl:Array (Nat×Nat)} (hq:∀ ρ:Operand→Value,(∀ x v,oev E x=some v→ρ x=v)→(ps.map fun (i,x)=>(i,ρ x))=qs.toArray) (hT:zck P T=some (pl,zs)) (k:Nx n G D w0 R ((d,.agg cells.toArray) :: E) L φ) (hd:Nat.blt d n=true:=by rfl) (hfill':Vu (pl[·]?) zs qs=some cells:=by rfl):Nx n G D w0 Tk E L φ :=
 M.val hd rfl (fun ρ w hE hm _=>by
  have hfill:=zbo _ _ _ _ hfill'
  unfold zck at hT
  split at hT
  ·rename_i fs zs' hu hz
   cases hp:(fs.toList.mapM fun (f:Field)=>(P.info? f.type).map fun i=>(f.offset,i.size)) with
   | none=>rw [hp] at hT;simp at hT
   | some l =>
    rw [hp] at hT
    simp at hT
    obtain ⟨rfl,rfl⟩:=hT
    have hr:=zcO (w:=w) fs.toList l hp
    cases hi:P.info? T with
    | none=>simp [uj,hi] at hz
    | some i =>
     obtain ⟨z,hz1,hz2⟩:=yr hz hi
     have hr':(fs.mapM fun f=>(do pure (f.offset,← sizeOf f.type):Sem (Nat×Nat))).run P w=.ok l.toArray w:=by
      have h2:(fs.mapM fun f=>(do pure (f.offset,← sizeOf f.type):Sem (Nat×Nat)))=Functor.map List.toArray (fs.toList.mapM fun f=>(do pure (f.offset,← sizeOf f.type):Sem (Nat×Nat))):=by
       rw [← List.mapM_toArray,Array.toArray_toList]
      rw [h2,map_eq_pure_bind,Sem.run_bind,hr]
      rfl
     have hz3:(zeroValue T).run P w=.ok z w:=by simp [zeroValue,typeInfo,hi,hz1]
     have hb:(Instr.build T qs.toArray).run P w=.ok (.agg cells.toArray) w:=by
      unfold Instr.build
      rw [Sem.run_bind,hz3,Result.andThen_ok,Sem.run_bind,run_underlying hu,Result.andThen_ok]
      simp only
      rw [Sem.run_bind,hr',Result.andThen_ok]
      rw [hz2,hfill]
      rfl
     simp only [execOp,hq ρ hE,Sem.run_bind,hb]
     rfl
  ·simp at hT) id k
end
section
variable {P:Program} {n:Nat} {G D:Nat→Prop} {w0:World} {Q:Exit→Act→World→Prop} {R:Act→World→Prop} {E:Env} {L:List Ch} {φ:Prop}
variable {d:Tmp} {ty:TypeId} {pos:String} {aft:Array Edge} {gd:Option (Nat×Bool)} {Tk:Act→World→Prop} {Lr:List Ch} {x y:Operand} {T T' S:TypeId}
theorem za2 {ps:Array (Nat×Operand)} (M:ui P n G D w0 E ⟨some d,.build T ps,ty,pos,aft,gd⟩ Tk R Lr L) {qs:List (Nat×Value)} {cells zs:List Value} {sz:Nat} (hq:∀ ρ:Operand→Value,(∀ x v,oev E x=some v→ρ x=v)→(ps.map fun (i,x)=>(i,ρ x))=qs.toArray) (hT:zkE P T=some (sz,zs)) (k:Nx n G D w0 R ((d,.agg cells.toArray) :: E) L φ) (hd:Nat.blt d n=true:=by rfl) (hfill':Vu (fun i=>some (i * sz,sz)) zs qs=some cells:=by rfl):Nx n G D w0 Tk E L φ :=
 M.val hd rfl (fun ρ w hE hm _=>by
  have hfill:=zbo _ _ _ _ hfill'
  unfold zkE at hT
  split at hT
  ·rename_i l e zs' hu hz
   cases he:P.info? e with
   | none=>simp [he] at hT
   | some j =>
    simp [he] at hT
    obtain ⟨rfl,rfl⟩:=hT
    cases hi:P.info? T with
    | none=>simp [uj,hi] at hz
    | some i =>
     obtain ⟨z,hz1,hz2⟩:=yr hz hi
     have hz3:(zeroValue T).run P w=.ok z w:=by simp [zeroValue,typeInfo,hi,hz1]
     have hb:(Instr.build T qs.toArray).run P w=.ok (.agg cells.toArray) w:=by
      unfold Instr.build
      rw [Sem.run_bind,hz3,Result.andThen_ok,Sem.run_bind,run_underlying hu,Result.andThen_ok]
      simp only
      rw [Sem.run_bind]
      have:(sizeOf e).run P w=.ok j.size w:=by simp [sizeOf,typeInfo,he]
      rw [this,Result.andThen_ok,hz2]
      rw [hfill]
      rfl
     simp only [execOp,hq ρ hE,Sem.run_bind,hb]
     rfl
  ·simp at hT) id k
end
section
variable {P:Program} {n:Nat} {G D:Nat→Prop} {w0:World} {Q:Exit→Act→World→Prop} {R:Act→World→Prop} {E:Env} {L:List Ch} {φ:Prop}
variable {d:Tmp} {ty:TypeId} {pos:String} {aft:Array Edge} {gd:Option (Nat×Bool)} {Tk:Act→World→Prop} {Lr:List Ch} {x y:Operand} {T T' S:TypeId}
theorem jP {v:Value} (cs:List Value) (k:∀ b,Nx n G D w0 R ((d,.pointer (some ⟨b,0,none⟩)) :: E) (zf b cs T :: L) φ) (hx:oev E x=some v:=by rfl) (hd:Nat.blt d n=true:=by rfl) (hcs:v.cells=cs.toArray:=by rfl):Nx n G D w0 (fun a w=>Oper.wp P ⟨some d,.box T x,ty,pos,aft,gd⟩ a w R Q) E L φ :=
 Xy hd rfl fun ρ w hE hm hφ=>⟨_,w.alloc (.cells cs.toArray T),_,φ,by simp [execOp,hE _ _ hx,Instr.box,newVar,newRow,hcs],zec hm rfl,hφ,k w.heap.size⟩
end
section
variable {P:Program} {n:Nat} {G D:Nat→Prop} {w0:World} {Q:Exit→Act→World→Prop} {R:Act→World→Prop} {E:Env} {L M:List Ch} {φ:Prop}
variable {d:Tmp} {ty:TypeId} {pos:String} {aft:Array Edge} {gd:Option (Nat×Bool)} {Tk:Act→World→Prop} {Lr:List Ch} {x y:Operand} {T T' S:TypeId} {e sz by':Nat}
theorem Zt {α:Type} {El':El α} {v:Value} {cs:List Value} {len:Nat} (xs:List α) (css:List (List Value)) (hr:∀ w,Mem G D w0 L w→Rows El' (fz G L w) w xs css) (k:∀ b,Nx n G D w0 R ((d,.pointer (some ⟨b,0,none⟩)) :: E) (ze El' T (.slice (some ⟨b,0,none⟩) len len) xs :: L) φ) (hx:oev E x=some v:=by rfl) (hd:Nat.blt d n=true:=by rfl) (hcs:v.cells=cs.toArray:=by rfl) (hfl:css.flatten=cs:=by rfl) (hl:xs.length=len:=by rfl) (hlen:Nat.ble len 65536=true:=by rfl):Nx n G D w0 (fun a w=>Oper.wp P ⟨some d,.box T x,ty,pos,aft,gd⟩ a w R Q) E L φ:=zdC xs css hr hx hd hcs hfl hl hlen k
end
section
variable {P:Program} {n:Nat} {G D:Nat→Prop} {w0:World} {Q:Exit→Act→World→Prop} {R:Act→World→Prop} {E:Env} {L:List Ch} {φ:Prop}
variable {d:Tmp} {ty:TypeId} {pos:String} {aft:Array Edge} {gd:Option (Nat×Bool)} {Tk:Act→World→Prop} {Lr:List Ch} {x y:Operand} {T T' S:TypeId} {e sz by':Nat}
theorem um {α:Type} {El':El α} {enc:α→List Value} {len:Nat} {ps:Array (Nat×Operand)} {qs:List (Nat×Value)} {zs cells:List Value} (xs:List α) (hfl:Ua El' enc) (hq:∀ ρ:Operand→Value,(∀ x v,oev E x=some v→ρ x=v)→(ps.map fun (i,x)=>(i,ρ x))=qs.toArray) (hT:elB P T=some (e,sz,by')) (hzr:uj P e=some zs) (k:∀ v,Nx n G D w0 R ((d,v) :: E) (ze El' e v xs :: L) φ) (hd:Nat.blt d n=true:=by rfl) (hes:El'.size=sz:=by rfl) (hlen:Nat.ble (len * sz) 16777216=true:=by rfl) (hxl:xs.length=len:=by rfl) (hzl:Nat.beq zs.length sz=true:=by rfl) (hfill':Vu (fun i=>some (i * sz,sz)) (List.replicate len zs).flatten qs=some cells:=by rfl) (hcells:(xs.map enc).flatten=cells:=by rfl):Nx n G D w0 (fun a w=>Oper.wp P ⟨some d,.buildSlice T len ps,ty,pos,aft,gd⟩ a w R Q) E L φ :=
 Xy hd rfl fun ρ w hE hm hφ=>by
  obtain ⟨hu,i,hi,rfl,rfl⟩:=uU hT
  obtain ⟨z',hz',hzc⟩:=yr hzr hi
  have hle:=Nat.le_of_ble_eq_true hlen
  have hzl':=Nat.eq_of_beq_eq_true hzl
  have hpos:0<zs.length:=by rw [hzl',← hes];exact El'.pos
  have hmade:(Array.range (len * i.size)).map (zs.toArray[· % zs.toArray.size]!)=(List.replicate len zs).flatten.toArray:=by
   have:=yE zs len hpos
   rw [hzl'] at this
   unfold madeCells at this
   rw [← this]
  have hfill0:=zbo _ _ _ _ hfill'
  have hfill:Instr.fill (fun j=>some (j * i.size,i.size)) ((Array.range (len * i.size)).map ((if len * i.size=0 then #[] else zs.toArray)[· % (if len * i.size=0 then #[] else zs.toArray).size]!)) qs=some cells.toArray:=by
   by_cases h0:len * i.size=0
   ·have hl0:len=0:=by
     rcases Nat.mul_eq_zero.1 h0 with h | h
     ·exact h
     ·have:=El'.pos;omega
    subst hl0
    simpa [Array.range_zero'] using hfill0
   ·simp only [h0,if_false]
    rw [hmade]
    exact hfill0
  refine ⟨.slice (some ⟨w.heap.size,0,none⟩) len len,w.alloc (.cells cells.toArray e),_,φ,?_,?_,hφ,k _⟩
  ·have hn:¬ (16777216<len * i.size):=by omega
   have hq':=hq ρ hE
   simp only [execOp,Instr.buildSlice,Sem.run_bind,run_underlying hu,Result.andThen_ok,hq']
   by_cases h0:len * i.size=0
   ·simp [h0] at hfill
    simp [sizeOf,typeInfo,hi,h0,newRow,hfill]
   ·simp [h0] at hfill
    simp [sizeOf,typeInfo,hi,h0,hn,zeroValue,hz',hzc,newRow,hfill]
  ·refine hm.add _ ((Below.refl _ _).alloc (Nat.le_refl _) _) (fun b hb=>by simp [ze,Value.ownBlock] at hb;rw [World.size_alloc];omega) ?_
   have hrows:∀ (F:Nat→Prop) (w:World) (xs:List α),Rows El' F w xs (xs.map enc):=by
    intro F w xs
    induction xs with
    | nil=>trivial
    | cons x r ih=>exact ⟨(hfl _ _ _ _).2 rfl,ih⟩
   have hl:=(hrows (fun _=>True) w xs).length
   rw [hcells,hxl] at hl
   subst hxl
   refine zac (hrows _ _ xs) (heap_alloc_new w _) (Nat.le_refl _) ?_ (by simpa using hl) ?_
   ·have hp:=El'.pos
    have:xs.length≤xs.length * i.size:=Nat.le_mul_of_pos_right _ (by omega)
    unfold maxLen;omega
   ·rw [hcells,← hl,List.take_of_length_le (by simp)]
end
section
variable {P:Program} {n:Nat} {G D:Nat→Prop} {w0:World} {Q:Exit→Act→World→Prop} {R:Act→World→Prop} {E:Env} {L M:List Ch} {φ:Prop}
variable {d:Tmp} {ty:TypeId} {pos:String} {aft:Array Edge} {gd:Option (Nat×Bool)} {Tk:Act→World→Prop} {Lr:List Ch} {x y:Operand} {T T' S:TypeId} {e sz by':Nat}
theorem XZ {α:Type} {E':DEl α} {ps:Array (Nat×Operand)} {qs:List (Nat×Value)} {zs cs:List Value} (y0:α) (hc:zfg M E' y0 cs) (hq:∀ ρ:Operand→Value,(∀ x v,oev E x=some v→ρ x=v)→(ps.map fun (i,x)=>(i,ρ x))=qs.toArray) (hT:elB P T=some (e,sz,by')) (hzr:uj P e=some zs) (k:∀ B v,Nx n G D w0 R ((d,v) :: E) (z7 E' e B v [y0] :: L) φ) (hd:Nat.blt d n=true:=by rfl) (hes:E'.el.size=sz:=by rfl) (hlen:Nat.ble (1 * sz) 16777216=true:=by rfl) (hzl:Nat.beq zs.length sz=true:=by rfl) (hfill':Vu (fun i=>some (i * sz,sz)) (List.replicate 1 zs).flatten qs=some cs:=by rfl):Nx n G D w0 (fun a w=>Oper.wp P ⟨some d,.buildSlice T 1 ps,ty,pos,aft,gd⟩ a w R Q) E (M++L) φ :=
 Xy hd rfl fun ρ w hE hm hφ=>by
  have hp:=E'.el.pos
  have hrun:=ze6 (P:=P) (w:=w) (qs:=qs) hT hzr (by omega) hlen hzl hfill'
  obtain ⟨B,b1,b2,b3⟩:=hc _ w (zfU hm)
  have hlt:=E'.lt _ _ _ _ b2
  have hl:cs.length=sz:=by rw [← hes];exact E'.el.len _ _ _ _ (E'.read _ _ _ _ b2)
  have hle:=Nat.le_of_ble_eq_true hlen
  refine ⟨.slice (some ⟨w.heap.size,0,none⟩) 1 1,w.alloc (.cells cs.toArray e),_,φ,by simp only [execOp,hq ρ hE,Sem.run_bind,hrun];rfl,?_,hφ,k (w.heap.size :: B) _⟩
  refine hm.repl (M0:=M) (N:=[z7 E' e (w.heap.size :: B) (.slice (some ⟨w.heap.size,0,none⟩) 1 1) [y0]]) ⟨rfl,rfl,rfl,by rw [World.size_alloc];omega,fun b hb _=>heap_alloc_old w _ hb⟩ (fun c hc b hb=>?_) (List.pairwise_singleton _ _) (fun c hc F=>?_)
  ·simp only [List.mem_cons,List.not_mem_nil,or_false] at hc
   subst hc
   rcases List.mem_cons.1 hb with hb | hb
   ·subst hb;exact ⟨.inl (Nat.le_refl _),by rw [World.size_alloc];omega⟩
   ·exact ⟨.inr (b3 b hb),by have:=hlt b hb;rw [World.size_alloc];omega⟩
  ·simp only [List.mem_cons,List.not_mem_nil,or_false] at hc
   subst hc
   refine ⟨List.nodup_cons.2 ⟨fun h=>by have:=hlt _ h;omega,b1⟩,[cs],[B],yk.one (E'.keep _ _ _ _ _ (fun b hb=>heap_alloc_old w _ (hlt b hb)) b2),⟨by simp [hl,hes],.inr ⟨w.heap.size,1,cs.toArray,rfl,Nat.zero_le _,heap_alloc_new w _,Nat.le_refl _,by decide,by simp [hl,hes],by simp [List.take_of_length_le,hl,hes]⟩⟩,by simp [UB,Value.ownBlock]⟩
theorem xC {α:Type} {E':DEl α} {qs:List (Nat×Value)} {zs:List Value} {ps:Array (Nat×Operand)} (hq:∀ ρ:Operand→Value,(∀ x v,oev E x=some v→ρ x=v)→(ps.map fun (i,x)=>(i,ρ x))=qs.toArray) (hT:elB P T=some (e,sz,by')) (hzr:uj P e=some zs) (k:∀ B v,Nx n G D w0 R ((d,v) :: E) (z7 E' e B v [] :: L) φ) (hd:Nat.blt d n=true:=by rfl) (hes:E'.el.size=sz:=by rfl) (hzl:Nat.beq zs.length sz=true:=by rfl) (hfill':Vu (fun i=>some (i * sz,sz)) (List.replicate 0 zs).flatten qs=some []:=by rfl):Nx n G D w0 (fun a w=>Oper.wp P ⟨some d,.buildSlice T 0 ps,ty,pos,aft,gd⟩ a w R Q) E L φ :=
 Xy hd rfl fun ρ w hE hm hφ=>by
  have hp:=E'.el.pos
  have hrun:=ze6 (P:=P) (w:=w) (qs:=qs) (len:=0) hT hzr (by omega) (by simp) hzl hfill'
  refine ⟨.slice (some ⟨w.heap.size,0,none⟩) 0 0,w.alloc (.cells ([]:List Value).toArray e),_,φ,by simp only [execOp,hq ρ hE,Sem.run_bind,hrun];rfl,?_,hφ,k [w.heap.size] _⟩
  exact hm.add _ ((Below.refl _ _).alloc (Nat.le_refl _) _) (fun b hb=>by simp [z7] at hb;rw [World.size_alloc];omega) ⟨by simp,[],[],yk.nil,⟨by simp,.inr ⟨w.heap.size,0,#[],rfl,Nat.zero_le _,heap_alloc_new w _,Nat.le_refl _,by decide,by simp,by simp⟩⟩,by simp [UB,Value.ownBlock]⟩
end
section
variable {P:Program} {n:Nat} {G D:Nat→Prop} {w0:World} {Q:Exit→Act→World→Prop} {R:Act→World→Prop} {E:Env} {L:List Ch} {φ:Prop}
variable {d:Tmp} {ty:TypeId} {pos:String} {aft:Array Edge} {gd:Option (Nat×Bool)} {Tk:Act→World→Prop} {Lr:List Ch} {x y:Operand} {T T' S:TypeId} {e sz by':Nat}
theorem uu {α:Type} {El':El α} {len:Nat} {ps:Array (Nat×Operand)} {qs:List (Nat×Value)} {zs cells:List Value} (xs:List α) (css:List (List Value)) (hc:∀ w,Mem G D w0 L w→Rows El' (fz G L w) w xs css) (hq:∀ ρ:Operand→Value,(∀ x v,oev E x=some v→ρ x=v)→(ps.map fun (i,x)=>(i,ρ x))=qs.toArray) (hT:elB P T=some (e,sz,by')) (hzr:uj P e=some zs) (k:∀ v,Nx n G D w0 R ((d,v) :: E) (ze El' e v xs :: L) φ) (hd:Nat.blt d n=true:=by rfl) (hes:El'.size=sz:=by rfl) (hlen:Nat.ble (len * sz) 16777216=true:=by rfl) (hxl:xs.length=len:=by rfl) (hzl:Nat.beq zs.length sz=true:=by rfl) (hfill':Vu (fun i=>some (i * sz,sz)) (List.replicate len zs).flatten qs=some cells:=by rfl) (hcells:css.flatten=cells:=by rfl):Nx n G D w0 (fun a w=>Oper.wp P ⟨some d,.buildSlice T len ps,ty,pos,aft,gd⟩ a w R Q) E L φ:=ziv xs css hc hq hd hT hzr hes hlen hxl hzl hfill' hcells k
end
section
variable {P:Program} {n:Nat} {G D:Nat→Prop} {w0:World} {Q:Exit→Act→World→Prop} {R:Act→World→Prop} {E:Env} {L:List Ch} {φ:Prop}
variable {d:Tmp} {ty:TypeId} {pos:String} {aft:Array Edge} {gd:Option (Nat×Bool)} {Tk:Act→World→Prop} {Lr:List Ch} {x y:Operand} {T T' S:TypeId} {e sz by':Nat}
theorem uH {ρ ν:Type} {f:Nat} {l:List Operand} {at':Array TypeId} {vs:List Value} {κ:ρ→Prop} {val:ρ→ν→Value} {N:ρ→ν→List Ch} {M0 L':List Ch} (hf:∀ args w,(callFunc f args).run P w=.ok (.enter f args) w) (hc:∀ w,Mem G D w0 (M0++L') w→φ→Calls P f vs.toArray w (Ret M0 (fz G (M0++L') w) w κ val N)) (k:∀ r s,Nx n G D w0 R ((d,val r s) :: E) (N r s++L') (κ r)) (hargs:zdF E l=some vs:=by rfl) (hd:Nat.blt d n=true:=by rfl):Nx n G D w0 (fun a w=>Oper.wp P ⟨some d,.call {callee:=.value (.func f),args:=l.toArray,argTypes:=at'},ty,pos,aft,gd⟩ a w R Q) E (M0++L') φ:=zib hf hargs hd hc k
theorem zk {ρ ν:Type} {f:Nat} {l:List Operand} {at':Array TypeId} {vs:List Value} {κ:ρ→Prop} {val:ρ→ν→Value} {N:ρ→ν→List Ch} (hf:∀ args w,(callFunc f args).run P w=.ok (.enter f args) w) (hc:∀ w,Mem G D w0 L w→φ→Calls P f vs.toArray w (Ret [] (fz G L w) w κ val N)) (k:∀ r s,Nx n G D w0 R ((d,val r s) :: E) (N r s++L) (κ r)) (hargs:zdF E l=some vs:=by rfl) (hd:Nat.blt d n=true:=by rfl):Nx n G D w0 (fun a w=>Oper.wp P ⟨some d,.call {callee:=.value (.func f),args:=l.toArray,argTypes:=at'},ty,pos,aft,gd⟩ a w R Q) E L φ:=zgP hf hargs hd hc k
end
section
variable {P:Program} {n:Nat} {G D:Nat→Prop} {w0:World} {Q:Exit→Act→World→Prop} {R:Act→World→Prop} {E:Env} {L M:List Ch} {φ:Prop}
variable {d:Tmp} {ty:TypeId} {pos:String} {aft:Array Edge} {gd:Option (Nat×Bool)} {Tk:Act→World→Prop} {Lr:List Ch} {x y:Operand} {T T' S:TypeId} {e sz by':Nat} {dst:Option Tmp} {at':Array TypeId}
theorem zbu {o:Oper} {ρ ν:Type} {f:Nat} {vs:List Value} {κ:ρ→Prop} {val:ρ→ν→Value} {N:ρ→ν→List Ch} {M0 L':List Ch} (hr:zhX P E o f vs) (hc:∀ w,Mem G D w0 (M0++L') w→φ→Calls P f vs.toArray w (Ret M0 (fz G (M0++L') w) w κ val N)) (k:∀ r s,Nx n G D w0 R ((d,val r s) :: E) (N r s++L') (κ r)) (ho:o.dst=some d:=by rfl) (hd:Nat.blt d n=true:=by rfl):Nx n G D w0 (fun a w=>Oper.wp P o a w R Q) E (M0++L') φ:=zgV ho hr hd hc k
theorem zb2 {o:Oper} {ρ ν:Type} {f:Nat} {vs:List Value} {κ:ρ→Prop} {val:ρ→ν→Value} {N:ρ→ν→List Ch} (hr:zhX P E o f vs) (hc:∀ w,Mem G D w0 L w→φ→Calls P f vs.toArray w (Ret [] (fz G L w) w κ val N)) (k:∀ r s,Nx n G D w0 R ((d,val r s) :: E) (N r s++L) (κ r)) (ho:o.dst=some d:=by rfl) (hd:Nat.blt d n=true:=by rfl):Nx n G D w0 (fun a w=>Oper.wp P o a w R Q) E L φ :=
 zgV (M0:=[]) (L':=L) ho hr hd hc k
end
section
variable {P:Program} {n:Nat} {G D:Nat→Prop} {w0:World} {Q:Exit→Act→World→Prop} {R:Act→World→Prop} {E:Env} {L:List Ch} {φ:Prop}
variable {d:Tmp} {ty:TypeId} {pos:String} {aft:Array Edge} {gd:Option (Nat×Bool)} {Tk:Act→World→Prop} {Lr:List Ch} {x y:Operand} {T T' S:TypeId}
end
section
variable {P:Program} {n:Nat} {G D:Nat→Prop} {w0:World} {Q:Exit→Act→World→Prop} {R:Act→World→Prop} {E:Env} {L:List Ch} {φ:Prop}
variable {d:Tmp} {ty:TypeId} {pos:String} {aft:Array Edge} {gd:Option (Nat×Bool)} {Tk:Act→World→Prop} {Lr:List Ch} {x y:Operand} {T T' S:TypeId} {e sz by':Nat} {at':Array TypeId}
end
section
variable {P:Program} {n:Nat} {G D:Nat→Prop} {w0:World} {Q:Exit→Act→World→Prop} {R:Act→World→Prop} {E:Env} {L:List Ch} {φ:Prop}
variable {d:Tmp} {ty:TypeId} {pos:String} {aft:Array Edge} {gd:Option (Nat×Bool)} {Tk:Act→World→Prop} {Lr:List Ch} {x y:Operand} {T T' S:TypeId}
end
section
variable {P:Program} {n:Nat} {G D:Nat→Prop} {w0:World} {Q:Exit→Act→World→Prop} {R:Act→World→Prop} {E:Env} {L:List Ch} {φ:Prop}
variable {d:Tmp} {ty:TypeId} {pos:String} {aft:Array Edge} {gd:Option (Nat×Bool)} {Tk:Act→World→Prop} {Lr:List Ch} {x y:Operand} {T T' S:TypeId} {e sz by':Nat} {at':Array TypeId}
end
section
variable {P:Program} {n:Nat} {G D:Nat→Prop} {w0:World} {Q:Exit→Act→World→Prop} {R:Act→World→Prop} {E:Env} {L:List Ch} {φ:Prop}
variable {d:Tmp} {ty:TypeId} {pos:String} {aft:Array Edge} {gd:Option (Nat×Bool)} {Tk:Act→World→Prop} {Lr:List Ch} {x y:Operand} {T T' S:TypeId} {e sz by':Nat}
theorem xm (M:ui P n G D w0 E ⟨some d,.binOp .eql T x y T',ty,pos,aft,gd⟩ Tk R Lr L) {X Y:Int} {K:IntKind} (hT:P.underlying T=some (.int K)) (k:Nx n G D w0 R ((d,.bool (decide (X=Y))) :: E) L φ) (hx:oev E x=some (.int K X):=by rfl) (hy:oev E y=some (.int K Y):=by rfl) (hd:Nat.blt d n=true:=by rfl):Nx n G D w0 Tk E L φ:=zjN M hT hx hy hd k
theorem zcC (M:ui P n G D w0 E ⟨some d,.binOp .eql T x y T',ty,pos,aft,gd⟩ Tk R Lr L) {X Y:Bool} (hT:P.underlying T=some .bool) (k:Nx n G D w0 R ((d,.bool (decide (X=Y))) :: E) L φ) (hx:oev E x=some (.bool X):=by rfl) (hy:oev E y=some (.bool Y):=by rfl) (hd:Nat.blt d n=true:=by rfl):Nx n G D w0 Tk E L φ :=
 M.val hd rfl (fun ρ w hE _ _=>by cases X <;> cases Y <;> simp [execOp,hE _ _ hx,hE _ _ hy,go_sem,hT,run_underlying hT]) id k
end
section
variable {P:Program} {n:Nat} {G D:Nat→Prop} {w0:World} {Q:Exit→Act→World→Prop} {R:Act→World→Prop} {E:Env} {L M:List Ch} {φ:Prop}
variable {d:Tmp} {ty:TypeId} {pos:String} {aft:Array Edge} {gd:Option (Nat×Bool)} {Tk:Act→World→Prop} {Lr:List Ch} {x y:Operand} {T T' S:TypeId} {e sz by':Nat} {dst:Option Tmp} {at':Array TypeId}
theorem zjt {α:Type} {El':El α} {v:Value} {xs:List α} {c:Ch} {κ:Bool→Prop} {e':TypeId} (i:Nat) (hc:Yy c El' v xs) (hT:P.underlying T=some (.slice e')) (k:∀ z,Nx n G D w0 R ((d,.bool z) :: E) L (κ z)) (hi:xa L i=some c:=by rfl) (hx:oev E x=some v:=by rfl) (hy:oev E y=some (.slice none 0 0):=by rfl) (hd:Nat.blt d n=true:=by rfl):Nx n G D w0 (fun a w=>Oper.wp P ⟨some d,.binOp .eql T x y T',ty,pos,aft,gd⟩ a w R Q) E L (zle true xs κ) :=
 Xy hd rfl fun ρ w hE hm hφ=>by
  obtain ⟨a,cap,rfl,hcap,hr⟩:=hc _ _ (hm.get hi)
  refine ⟨.bool a.isNone,w,L,κ a.isNone,?_,hm,?_,k _⟩
  ·simp [execOp,hE _ _ hx,hE _ _ hy,go_sem,hT,run_underlying hT,binOp,zht hT]
  ·cases xs with
   | nil=>cases a with
    | none=>exact (hφ.2 rfl).1
    | some a=>exact (hφ.2 rfl).2
   | cons x0 r =>
    obtain ⟨b,off,rfl,_⟩:=hr (by simp)
    exact hφ.1 (by simp)
end
section
variable {P:Program} {n:Nat} {G D:Nat→Prop} {w0:World} {Q:Exit→Act→World→Prop} {R:Act→World→Prop} {E:Env} {L:List Ch} {φ:Prop}
variable {d:Tmp} {ty:TypeId} {pos:String} {aft:Array Edge} {gd:Option (Nat×Bool)} {Tk:Act→World→Prop} {Lr:List Ch} {x y:Operand} {T T' S:TypeId}
end
section
variable {P:Program} {n:Nat} {G D:Nat→Prop} {w0:World} {Q:Exit→Act→World→Prop} {R:Act→World→Prop} {E:Env} {L:List Ch} {φ:Prop}
variable {d:Tmp} {ty:TypeId} {pos:String} {aft:Array Edge} {gd:Option (Nat×Bool)} {Tk:Act→World→Prop} {Lr:List Ch} {x y:Operand} {T T' S:TypeId}
theorem ju {k':Nat} (M:ui P n G D w0 E ⟨some d,.extract x k',ty,pos,aft,gd⟩ Tk R Lr L) {vs:List Value} {v:Value} (k:Nx n G D w0 R ((d,v) :: E) L φ) (hx:oev E x=some (.tuple vs.toArray):=by rfl) (hd:Nat.blt d n=true:=by rfl) (hv:vs[k']?=some v:=by rfl):Nx n G D w0 Tk E L φ :=
 M.val hd rfl (fun ρ w hE hm _=>by simp [execOp,hE _ _ hx,Instr.extract,hv]) id k
theorem zy {k':Nat} (M:ui P n G D w0 E ⟨some d,.fieldAddr S x k',ty,pos,aft,gd⟩ Tk R Lr L) {b o off sz:Nat} {row:Bool} (hS:Z4 P S k'=some (off,row,sz)) (k:Nx n G D w0 R ((d,.pointer (some ⟨b,o+off,none⟩)) :: E) L φ) (hx:oev E x=some (.pointer (some ⟨b,o,none⟩)):=by rfl) (hd:Nat.blt d n=true:=by rfl) (hp:Nat.beq sz 0=false:=by rfl):Nx n G D w0 Tk E L φ :=
 M.val hd rfl (fun ρ w hE hm _=>by
  have:=zfD (P:=P) (w:=w) (a:=⟨b,o,none⟩) hS hp
  rw [Addr.add_mid] at this
  simp [execOp,hE _ _ hx,this]) id k
theorem jg {k':Nat} (M:ui P n G D w0 E ⟨some d,.fieldAddr S x k',ty,pos,aft,gd⟩ Tk R Lr L) {α:Type} {El':El α} {v:Value} {xs:List α} {c:Ch} {I:Int} {z:α} {o off sz fs:Nat} {row:Bool} (i:Nat) (hc:Yy c El' v xs) (hz:xs[I.toNat]?=some z) (hS:Z4 P S k'=some (off,row,fs)) (k:Nx n G D w0 R ((d,pEl v I sz (o+off)) :: E) L φ) (hi:xa Lr i=some c:=by rfl) (hx:oev E x=some (pEl v I sz o):=by rfl) (hd:Nat.blt d n=true:=by rfl) (hp:Nat.beq fs 0=false:=by rfl):Nx n G D w0 Tk E L φ :=
 M.val hd rfl (fun ρ w hE hm _=>by
  obtain ⟨b,off',cap,cs,rfl,_,_⟩:=(hc _ _ (hm.get hi)).at hz
  rw [yC] at hx ⊢
  have:=zfD (P:=P) (w:=w) (a:=⟨b,off'+I.toNat * sz+o,none⟩) hS hp
  rw [Addr.add_mid] at this
  simp [execOp,hE _ _ hx,this]) id k
end
section
variable {P:Program} {n:Nat} {G D:Nat→Prop} {w0:World} {Q:Exit→Act→World→Prop} {R:Act→World→Prop} {E:Env} {L:List Ch} {φ:Prop}
variable {d:Tmp} {ty:TypeId} {pos:String} {aft:Array Edge} {gd:Option (Nat×Bool)} {Tk:Act→World→Prop} {Lr:List Ch} {x y:Operand} {T T':TypeId}
theorem UX (M:ui P n G D w0 E ⟨some d,.binOp .geq T x y T',ty,pos,aft,gd⟩ Tk R Lr L) {X Y:Int} {K:IntKind} (k:Nx n G D w0 R ((d,.bool (decide (Y≤X))) :: E) L φ) (hx:oev E x=some (.int K X):=by rfl) (hy:oev E y=some (.int K Y):=by rfl) (hd:Nat.blt d n=true:=by rfl):Nx n G D w0 Tk E L φ :=
 M.val hd rfl (fun ρ w hE _ hφ=>by simp [execOp,hE _ _ hx,hE _ _ hy,go_sem]) id k
theorem yA (M:ui P n G D w0 E ⟨some d,.binOp .gtr T x y T',ty,pos,aft,gd⟩ Tk R Lr L) {X Y:Int} {K:IntKind} (k:Nx n G D w0 R ((d,.bool (decide (Y<X))) :: E) L φ) (hx:oev E x=some (.int K X):=by rfl) (hy:oev E y=some (.int K Y):=by rfl) (hd:Nat.blt d n=true:=by rfl):Nx n G D w0 Tk E L φ:=zjL M hx hy hd k
end
section
variable {P:Program} {n:Nat} {G D:Nat→Prop} {w0:World} {Q:Exit→Act→World→Prop} {R:Act→World→Prop} {E:Env} {L:List Ch} {φ:Prop}
variable {d:Tmp} {ty:TypeId} {pos:String} {aft:Array Edge} {gd:Option (Nat×Bool)} {Tk:Act→World→Prop} {Lr:List Ch} {x y:Operand} {T T' S:TypeId}
theorem zF (M:ui P n G D w0 E ⟨some d,.indexAddr T x y,ty,pos,aft,gd⟩ Tk R Lr L) {α:Type} {El':El α} {v:Value} {xs:List α} {c:Ch} {I:Int} {κ:α→Prop} {e sz by':Nat} (i:Nat) (hc:Yy c El' v xs) (hT:elB P T=some (e,sz,by')) (k:∀ z,xs[I.toNat]?=some z→Nx n G D w0 R ((d,pEl v I sz 0) :: E) L (κ z)) (hi:xa Lr i=some c:=by rfl) (hx:oev E x=some v:=by rfl) (hy:oev E y=some (.int .i64 I):=by rfl) (hd:Nat.blt d n=true:=by rfl):Nx n G D w0 Tk E L (zI xs I κ) :=
 M.val (v:=pEl v I sz 0) (ψ:=zI xs I κ) hd rfl (fun ρ w hE hm hφ=>by
  obtain ⟨z,h0,h1,h2⟩:=hφ
  obtain ⟨b,off,cap,cs,rfl,_,_⟩:=(hc _ _ (hm.get hi)).at h1
  have hlt:=(List.getElem?_eq_some_iff.1 h1).1
  unfold elB at hT
  split at hT
  ·rename_i e' hu
   split at hT
   ·rename_i inf hi'
    simp at hT
    obtain ⟨rfl,rfl,rfl⟩:=hT
    have h5:I<xs.length:=by omega
    rw [yC]
    simp [execOp,hE _ _ hx,hE _ _ hy,Instr.indexAt,asIntOf,run_underlying hu,sizeOf,typeInfo,hi',h0,h5,Addr.add_mid]
   ·simp at hT
  ·simp at hT) id (fun a w hE hm ⟨z,_,h1,h2⟩=>k z h1 a w hE hm h2)
end
section
variable {P:Program} {n:Nat} {G D:Nat→Prop} {w0:World} {Q:Exit→Act→World→Prop} {R:Act→World→Prop} {E:Env} {L M:List Ch} {φ:Prop}
variable {d:Tmp} {ty:TypeId} {pos:String} {aft:Array Edge} {gd:Option (Nat×Bool)} {Tk:Act→World→Prop} {Lr:List Ch} {x y:Operand} {T T' S:TypeId}
end
section
variable {P:Program} {n:Nat} {G D:Nat→Prop} {w0:World} {Q:Exit→Act→World→Prop} {R:Act→World→Prop} {E:Env} {L M:List Ch} {φ:Prop}
variable {d:Tmp} {ty:TypeId} {pos:String} {aft:Array Edge} {gd:Option (Nat×Bool)} {Tk:Act→World→Prop} {Lr:List Ch} {x y:Operand} {T T' S:TypeId} {e sz by':Nat} {dst:Option Tmp} {at':Array TypeId}
theorem zik {α:Type} {El':El α} {vs:List Value} {xs:List (List α)} {I:Int} {κ:List α→Prop} {len e':Nat} (M:ui P n G D w0 E ⟨some d,.index T x y,ty,pos,aft,gd⟩ Tk R Lr L) (hfa:∀ w,Mem G D w0 L w→zek El' (fz G L w) w vs xs) (hT:zdX P T=some (len,e',false,1)) (k:∀ v z,xs[I.toNat]?=some z→Nx n G D w0 R ((d,v) :: E) (jC El' v z :: L) (κ z)) (hx:oev E x=some (.agg vs.toArray):=by rfl) (hy:oev E y=some (.int .i64 I):=by rfl) (hd:Nat.blt d n=true:=by rfl) (hl:xs.length=len:=by rfl):Nx n G D w0 Tk E L (zI xs I κ):=fun a w hE hm hφ=>by
 refine (M.val (v:=zfu vs I) (φ:=zI xs I κ) (ψ:=zI xs I κ) hd rfl (fun ρ w hE hm hφ=>?_) id (fun a' w' hE' hm' hφ'=>?_)) a w hE hm hφ
 ·obtain ⟨z,h0,h1,h2⟩:=hφ
  have hlt:=(List.getElem?_eq_some_iff.1 h1).1
  obtain ⟨hu',ht⟩:=zgx hT
  obtain ⟨i,hq,hi⟩:=zcD ht
  have h5:I<len:=by omega
  have hvl:vs.length=xs.length:=by
   have key:∀ {vs:List Value} {xs:List (List α)} {F:Nat→Prop} {w:World},zek El' F w vs xs→vs.length=xs.length:=by
    intro vs
    induction vs with
    | nil=>intro xs F w h;cases xs with
     | nil=>rfl
     | cons _ _=>exact h.elim
    | cons v vs ih=>intro xs F w h;cases xs with
     | nil=>exact h.elim
     | cons x xs=>simp [ih h.2]
   exact key (hfa _ (by assumption))
  have hv:ldv false (I.toNat * 1) 1 vs=some (zfu vs I):=by
   have:I.toNat<vs.length:=by omega
   simp [ldv,zfu,this]
  have hr:=zem (P:=P) (w:=w) ht hv
  simp at hr
  simp [execOp,hE _ _ hx,hE _ _ hy,Instr.index,asIntOf,run_underlying hu',sizeOf,typeInfo,hq,hi,h0,h5,hr]
 ·obtain ⟨z,h0,h1,h2⟩:=hφ'
  obtain ⟨v,hv,hs⟩:=(hfa w' hm').get h1
  have hp:zfu vs I=v:=by simp [zfu,hv]
  rw [hp] at hE'
  exact k v z h1 a' w' hE' (hm'.note (fun b hb=>hb) hs) h2
end
section
variable {P:Program} {n:Nat} {G D:Nat→Prop} {w0:World} {Q:Exit→Act→World→Prop} {R:Act→World→Prop} {E:Env} {L:List Ch} {φ:Prop}
variable {d:Tmp} {ty:TypeId} {pos:String} {aft:Array Edge} {gd:Option (Nat×Bool)} {Tk:Act→World→Prop} {Lr:List Ch} {x y:Operand} {T T' S:TypeId}
theorem jZ (M:ui P n G D w0 E ⟨some d,.indexAddr T x y,ty,pos,aft,gd⟩ Tk R Lr L) {α:Type} {El':El α} {b o cap:Nat} {xs:List α} {c:Ch} {I:Int} {κ:α→Prop} {len e sz:Nat} {row:Bool} (i:Nat) (hc:Yy c El' (.slice (some ⟨b,o,none⟩) len cap) xs) (hT:zdX P T=some (len,e,row,sz)) (k:∀ z,xs[I.toNat]?=some z→Nx n G D w0 R ((d,pEl (.slice (some ⟨b,o,none⟩) len cap) I sz 0) :: E) L (κ z)) (hi:xa Lr i=some c:=by rfl) (hx:oev E x=some (.pointer (some ⟨b,o,none⟩)):=by rfl) (hy:oev E y=some (.int .i64 I):=by rfl) (hd:Nat.blt d n=true:=by rfl):Nx n G D w0 Tk E L (zI xs I κ) :=
 M.val (v:=pEl (.slice (some ⟨b,o,none⟩) len cap) I sz 0) (ψ:=zI xs I κ) hd rfl (fun ρ w hE hm hφ=>by
  obtain ⟨z,h0,h1,h2⟩:=hφ
  obtain ⟨a',cap',he,_⟩:=hc _ _ (hm.get hi)
  have hln:xs.length=len:=by simp at he;exact he.2.1.symm
  have hlt:=(List.getElem?_eq_some_iff.1 h1).1
  obtain ⟨hu',ht⟩:=zgx hT
  obtain ⟨i,hq,hi⟩:=zcD ht
  have h5:I<len:=by omega
  rw [yC]
  simp [execOp,hE _ _ hx,hE _ _ hy,Instr.indexAt,Instr.sureAddr,asIntOf,run_underlying hu',sizeOf,typeInfo,hq,hi,h0,h5,Addr.add_mid]) id (fun a w hE hm ⟨z,_,h1,h2⟩=>k z h1 a w hE hm h2)
end
section
variable {P:Program} {n:Nat} {G D:Nat→Prop} {w0:World} {Q:Exit→Act→World→Prop} {R:Act→World→Prop} {E:Env} {L:List Ch} {φ:Prop}
variable {d:Tmp} {ty:TypeId} {pos:String} {aft:Array Edge} {gd:Option (Nat×Bool)} {Tk:Act→World→Prop} {Lr:List Ch} {x y:Operand} {T T' S:TypeId}
end
section
variable {P:Program} {n:Nat} {G D:Nat→Prop} {w0:World} {Q:Exit→Act→World→Prop} {R:Act→World→Prop} {E:Env} {L:List Ch} {φ:Prop}
variable {d:Tmp} {ty:TypeId} {pos:String} {aft:Array Edge} {gd:Option (Nat×Bool)} {Tk:Act→World→Prop} {Lr:List Ch} {x y:Operand} {T T' S:TypeId}
theorem zkk (M:ui P n G D w0 E ⟨some d,.index T x y,ty,pos,aft,gd⟩ Tk R Lr L) {α:Type} {enc:α→List Value} {zs:List α} {cs:List Value} {I:Int} {κ:α→Prop} {u:α→Value} {len e sz:Nat} {row:Bool} (hT:zdX P T=some (len,e,row,sz)) (he:∀ z,(enc z).length=sz) (hu:∀ z,ldv row 0 sz (enc z)=some (u z)) (k:∀ z,Nx n G D w0 R ((d,u z) :: E) L (κ z)) (hx:oev E x=some (.agg cs.toArray):=by rfl) (hy:oev E y=some (.int .i64 I):=by rfl) (hd:Nat.blt d n=true:=by rfl) (hcs:zs.flatMap enc=cs:=by rfl) (hl:zs.length=len:=by rfl):Nx n G D w0 Tk E L (zI zs I κ):=fun a w hE hm hφ=>by
 obtain ⟨z,h0,h1,h2⟩:=hφ
 refine (M.val (v:=u z) (φ:=κ z) (ψ:=κ z) hd rfl (fun ρ w hE hm hφ=>?_) id (k z)) a w hE hm h2
 obtain ⟨hu',ht⟩:=zgx hT
 obtain ⟨i,hq,hi⟩:=zcD ht
 have hlt:=(List.getElem?_eq_some_iff.1 h1).1
 have h5:I<len:=by omega
 have hr:=zem (P:=P) (w:=w) ht (zfL he zs _ _ h1 row _ (hu z))
 rw [hcs] at hr
 simp [execOp,hE _ _ hx,hE _ _ hy,Instr.index,asIntOf,run_underlying hu',sizeOf,typeInfo,hq,hi,h0,h5,hr]
end
section
variable {P:Program} {n:Nat} {G D:Nat→Prop} {w0:World} {Q:Exit→Act→World→Prop} {R:Act→World→Prop} {E:Env} {L M:List Ch} {φ:Prop}
variable {d:Tmp} {ty:TypeId} {pos:String} {aft:Array Edge} {gd:Option (Nat×Bool)} {Tk:Act→World→Prop} {Lr:List Ch} {x y:Operand} {T T' S:TypeId} {e sz by':Nat}
theorem ziD {α:Type} {El':El α} {enc:α→List Value} {b len cap fs:Nat} {xs:List α} {c:Ch} {u:List Value} (M:ui P n G D w0 E ⟨some d,.load T x,ty,pos,aft,gd⟩ Tk R Lr L) (i:Nat) (hc:Yy c El' (.slice (some ⟨b,0,none⟩) len cap) xs) (hfl:Ua El' enc) (hT:tyB P T=some (true,fs)) (k:Nx n G D w0 R ((d,.agg u.toArray) :: E) L φ) (hi:xa Lr i=some c:=by rfl) (hx:oev E x=some (.pointer (some ⟨b,0,none⟩)):=by rfl) (hd:Nat.blt d n=true:=by rfl) (hu:(xs.map enc).flatten=u:=by rfl) (hl:Nat.beq u.length fs=true:=by rfl):Nx n G D w0 Tk E L φ :=
 M.val hd rfl (fun ρ w hE hm _=>by
  obtain ⟨css,h1,h2⟩:=zgI (uq hfl hc _ _ (hm.get hi))
  rw [zee hfl h1,hu] at h2
  have hv:ldv true 0 fs u=some (.agg u.toArray):=by
   have:=Nat.eq_of_beq_eq_true hl
   simp [ldv,← this]
  have:=Ui (P:=P) hT h2 hv
  rw [Nat.add_zero] at this
  simp [execOp,hE _ _ hx,this]) id k
theorem xf {α:Type} {El':El α} {b len cap fs:Nat} {xs:List α} {c:Ch} (i:Nat) (hc:Src c El' (.slice (some ⟨b,0,none⟩) len cap) xs) (hT:tyB P T=some (true,fs)) (k:∀ wr F0 css,Rows El' F0 wr xs css→∃ u:List Value,css.flatten=u∧Nx n G D w0 R ((d,.agg u.toArray) :: E) (zh wr F0 :: L) φ) (hi:xa L i=some c:=by rfl) (hx:oev E x=some (.pointer (some ⟨b,0,none⟩)):=by rfl) (hd:Nat.blt d n=true:=by rfl) (hlen:xs.length=len:=by rfl) (hfs:len * El'.size=fs:=by rfl):Nx n G D w0 (fun a w=>Oper.wp P ⟨some d,.load T x,ty,pos,aft,gd⟩ a w R Q) E L φ:=zgu i hi hc hx hd hlen hT hfs k
end
section
variable {P:Program} {n:Nat} {G D:Nat→Prop} {w0:World} {Q:Exit→Act→World→Prop} {R:Act→World→Prop} {E:Env} {L:List Ch} {φ:Prop}
variable {d:Tmp} {ty:TypeId} {pos:String} {aft:Array Edge} {gd:Option (Nat×Bool)} {Tk:Act→World→Prop} {Lr:List Ch} {x y:Operand} {T T' S:TypeId} {e sz by':Nat}
theorem xc {α:Type} {E':El α} {v:Value} {xs:List α} {c:Ch} {I:Int} {z:α} {o fs:Nat} {row:Bool} (i:Nat) (hc:Src c E' v xs) (hz:xs[I.toNat]?=some z) (hT:tyB P T=some (row,fs)) (k:∀ wr F0 cs,E'.cells F0 wr z cs→∃ u,ldv row o fs cs=some u∧Nx n G D w0 R ((d,u) :: E) (zh wr F0 :: L) φ) (hi:xa L i=some c:=by rfl) (hx:oev E x=some (pEl v I E'.size o):=by rfl) (hd:Nat.blt d n=true:=by rfl):Nx n G D w0 (fun a w=>Oper.wp P ⟨some d,.load T x,ty,pos,aft,gd⟩ a w R Q) E L φ :=
 Xy hd rfl fun ρ w hE hm hφ=>by
  obtain ⟨b,off,cap,cs,rfl,_,hcs,hr⟩:=(hc _ _ (hm.get hi)).at hz
  obtain ⟨u,hu,hk⟩:=k w (fz G L w) cs hcs
  have:=Ui (P:=P) hT hr hu
  rw [yC] at hx
  exact ⟨u,w,zh w (fz G L w) :: L,φ,by simp [execOp,hE _ _ hx,this],hm.note (fun b hb=>hb) ⟨fun b hb=>hb,fun _ _=>rfl⟩,hφ,hk⟩
end
section
variable {P:Program} {n:Nat} {G D:Nat→Prop} {w0:World} {Q:Exit→Act→World→Prop} {R:Act→World→Prop} {E:Env} {L M:List Ch} {φ:Prop}
variable {d:Tmp} {ty:TypeId} {pos:String} {aft:Array Edge} {gd:Option (Nat×Bool)} {Tk:Act→World→Prop} {Lr:List Ch} {x y:Operand} {T T' S:TypeId} {e sz by':Nat}
theorem zfc {α β:Type} {E':DEl α} {E1:DEl β} {t1:TypeId} {v:Value} {xs:List α} {B:List Nat} {I:Int} {z:α} {zin:List β} {o fs:Nat} {row:Bool} {encz:Value→List Value} (hz:xs[I.toNat]?=some z) (hop:∀ B w cs,E'.own B w z cs→∃ v0,cs=encz v0∧Dp E1 t1 B w v0 zin) (hT:tyB P T=some (row,fs)) (k:∀ v0 B' C,∃ u,ldv row o fs (encz v0)=some u∧Nx n G D w0 R ((d,u) :: E) (zfj E' e B' v xs I.toNat (encz v0) :: z7 E1 t1 C v0 zin :: L) φ) (hes:E'.el.size=sz:=by rfl) (hx:oev E x=some (pEl v I sz o):=by rfl) (hd:Nat.blt d n=true:=by rfl):Nx n G D w0 (fun a w=>Oper.wp P ⟨some d,.load T x,ty,pos,aft,gd⟩ a w R Q) E (z7 E' e B v xs :: L) φ :=
 Xy hd rfl fun ρ w hE hm hφ=>by
  have hlt:=(List.getElem?_eq_some_iff.1 hz).1
  obtain ⟨bn,css,Bs,hr,how,hB⟩:=hm.hold _ (List.mem_cons_self ..)
  have hlc:I.toNat<css.length:=by rw [hr.lc];exact hlt
  have hlb:I.toNat<Bs.length:=by rw [hr.lb];exact hlt
  have hcI:css[I.toNat]?=some css[I.toNat]:=List.getElem?_eq_getElem hlc
  have hbI:Bs[I.toNat]?=some Bs[I.toNat]:=List.getElem?_eq_getElem hlb
  obtain ⟨v0,hv0,hdp⟩:=hop _ _ _ (hr.own _ _ _ _ hz hcI hbI)
  have hlz:=hr.size _ (List.mem_of_getElem? hcI)
  obtain ⟨g,cap,hv⟩:∃ g cap,v=.slice (some ⟨g,0,none⟩) xs.length cap:=by
   rcases how.2 with ⟨_,hn⟩ | ⟨g,cap,cur,hv,_⟩
   ·omega
   ·exact ⟨g,cap,hv⟩
  subst hv
  have hBn:=hB.nodup_iff.1 bn
  have hout:=zbb hbI
  obtain ⟨u,hu,hk⟩:=k v0 (UB (.slice (some ⟨g,0,none⟩) xs.length cap)++(Bs.set I.toNat []).flatten) Bs[I.toNat]
  have hrange:w.rangeAt g (0+I.toNat * E'.el.size) css[I.toNat]:=by
   have hs:=(hr.rows (F:=fun _=>True) (fun _ _=>trivial)).get hz
   rcases how.2 with ⟨h,_⟩ | ⟨g',cap',cur,h,_,hg,hnc,_,hcs,ht⟩
   ·cases h
   cases h
   intro j q hq
   rw [cell_of_row w g _ cur e (0,0) hg]
   have hj:=(List.getElem?_eq_some_iff.1 hq).1
   have hfl:css.flatten[I.toNat * E'.el.size+j]?=some q:=by
    have hsp:css=css.take I.toNat++css[I.toNat] :: css.drop (I.toNat+1):=by simp
    have hpl:(css.take I.toNat).flatten.length=I.toNat * E'.el.size:=by rw [zdl (z:=E'.el.size) (fun cs hc=>hr.size cs (List.mem_of_mem_take hc)),List.length_take];congr 1;omega
    rw [hsp,List.flatten_append,List.getElem?_append_right (by omega),hpl,Nat.add_sub_cancel_left,List.flatten_cons,List.getElem?_append_left (by simpa using hj)]
    simpa using hq
   rw [← ht,List.getElem?_take] at hfl
   split at hfl
   ·simpa using hfl
   ·cases hfl
  have hld:=Ui (P:=P) hT hrange (by rw [hv0];exact hu)
  rw [yC,← hes] at hx
  simp only [Nat.zero_add] at hx hld
  refine ⟨u,w,_,φ,by simp [execOp,hE _ _ hx,hld],?_,hφ,hk⟩
  refine hm.repl (M0:=[z7 E' e B (.slice (some ⟨g,0,none⟩) xs.length cap) xs]) (N:=[zfj E' e _ (.slice (some ⟨g,0,none⟩) xs.length cap) xs I.toNat (encz v0),z7 E1 t1 Bs[I.toNat] v0 zin]) zbY (fun c hc b hb=>?_) ?_ (fun c hc F=>?_)
  ·have hb':b∈B:=by
    simp only [List.mem_cons,List.not_mem_nil,or_false] at hc
    rcases hc with rfl | rfl
    ·rcases List.mem_append.1 hb with hb | hb
     ·exact hB.symm.subset (List.mem_append.2 (.inl hb))
     ·exact hB.symm.subset (List.mem_append.2 (.inr (hout.symm.subset (List.mem_append.2 (.inr hb)))))
    ·exact hB.symm.subset (List.mem_append.2 (.inr (hout.symm.subset (List.mem_append.2 (.inl hb)))))
   exact ⟨.inr ⟨_,List.mem_cons_self ..,hb'⟩,(hm.range _ (List.mem_cons_self ..) b hb').1⟩
  ·refine List.pairwise_cons.2 ⟨fun c hc b hb hcb=>?_,List.pairwise_singleton _ _⟩
   simp only [List.mem_cons,List.not_mem_nil,or_false] at hc
   subst hc
   have h2:=(List.Perm.append_left (UB (.slice (some ⟨g,0,none⟩) xs.length cap)) hout).nodup_iff.1 hBn
   simp only [List.nodup_append,List.mem_append] at h2
   rcases List.mem_append.1 hb with hb | hb
   ·exact h2.2.2 b hb b (.inl hcb) rfl
   ·exact h2.2.1.2.2 b hcb b hb rfl
  ·simp only [List.mem_cons,List.not_mem_nil,or_false] at hc
   have h2:=(List.Perm.append_left (UB (.slice (some ⟨g,0,none⟩) xs.length cap)) hout).nodup_iff.1 hBn
   rcases hc with rfl | rfl
   ·refine ⟨?_,css,Bs.set I.toNat [],⟨hr.lc,by simp [hr.lb],fun i x cs C hne k1 k2 k3=>?_,by rw [hcI,hv0],by simp [hlb],hr.size⟩,how,List.Perm.refl _⟩
    ·simp only [List.nodup_append,List.mem_append] at h2 ⊢
     exact ⟨h2.1,h2.2.1.2.1,fun a ha b hb=>h2.2.2 a ha b (.inr hb)⟩
    ·rw [List.getElem?_set_ne (fun e=>hne e.symm)] at k3
     exact hr.own i x cs C k1 k2 k3
   ·refine ⟨?_,hdp⟩
    simp only [List.nodup_append,List.mem_append] at h2
    exact h2.2.1.1
end
section
variable {P:Program} {n:Nat} {G D:Nat→Prop} {w0:World} {Q:Exit→Act→World→Prop} {R:Act→World→Prop} {E:Env} {L M:List Ch} {φ:Prop}
variable {d:Tmp} {ty:TypeId} {pos:String} {aft:Array Edge} {gd:Option (Nat×Bool)} {Tk:Act→World→Prop} {Lr:List Ch} {x y:Operand} {T T' S:TypeId} {e sz by':Nat}
end
section
variable {P:Program} {n:Nat} {G D:Nat→Prop} {w0:World} {Q:Exit→Act→World→Prop} {R:Act→World→Prop} {E:Env} {L:List Ch} {φ:Prop}
variable {d:Tmp} {ty:TypeId} {pos:String} {aft:Array Edge} {gd:Option (Nat×Bool)} {Tk:Act→World→Prop} {Lr:List Ch} {x y:Operand} {T T' S:TypeId} {e sz by':Nat}
theorem jk (M:ui P n G D w0 E ⟨some d,.load T x,ty,pos,aft,gd⟩ Tk R Lr L) {wr:World} {F0:Nat→Prop} {v:Value} {I:Int} {o fs:Nat} {cs:List Value} {row:Bool} {u:Value} (i:Nat) (hr:xU wr F0 v I sz cs) (hT:tyB P T=some (row,fs)) (k:Nx n G D w0 R ((d,u) :: E) L φ) (hi:xa Lr i=some (zh wr F0):=by rfl) (hx:oev E x=some (pEl v I sz o):=by rfl) (hd:Nat.blt d n=true:=by rfl) (hu:ldv row o fs cs=some u:=by rfl):Nx n G D w0 Tk E L φ :=
 M.val hd rfl (fun ρ w hE hm _=>by
  obtain ⟨b,off,l,c,rfl,hb,hc⟩:=hr
  have h:(zh wr F0).holds _ w:=hm.get hi
  have hc':w.rangeAt b (off+I.toNat * sz) cs:=zaV hc (h.2 b hb)
  have:=Ui (P:=P) hT hc' hu
  rw [yC] at hx
  simp [execOp,hE _ _ hx,this]) id k
end
section
variable {P:Program} {n:Nat} {G D:Nat→Prop} {w0:World} {Q:Exit→Act→World→Prop} {R:Act→World→Prop} {E:Env} {L:List Ch} {φ:Prop}
variable {d:Tmp} {ty:TypeId} {pos:String} {aft:Array Edge} {gd:Option (Nat×Bool)} {Tk:Act→World→Prop} {Lr:List Ch} {x y:Operand} {T T' S:TypeId}
theorem zn (M:ui P n G D w0 E ⟨some d,.load T x,ty,pos,aft,gd⟩ Tk R Lr L) {b o sz:Nat} {cs:List Value} {T0:TypeId} {row:Bool} {v:Value} (i:Nat) (hT:tyB P T=some (row,sz)) (k:Nx n G D w0 R ((d,v) :: E) L φ) (hi:xa Lr i=some (zf b cs T0):=by rfl) (hx:oev E x=some (.pointer (some ⟨b,o,none⟩)):=by rfl) (hd:Nat.blt d n=true:=by rfl) (hv:ldv row o sz cs=some v:=by rfl):Nx n G D w0 Tk E L φ:=zgD M i hi hx hd hT hv k
theorem jK (M:ui P n G D w0 E ⟨some d,.load T x,ty,pos,aft,gd⟩ Tk R Lr L) {α:Type} {El':El α} {enc:α→List Value} {v:Value} {xs:List α} {c:Ch} {I:Int} {z:α} {o sz fs:Nat} {row:Bool} {u:Value} (i:Nat) (hc:Yy c El' v xs) (hfl:Ua El' enc) (hz:xs[I.toNat]?=some z) (hT:tyB P T=some (row,fs)) (k:Nx n G D w0 R ((d,u) :: E) L φ) (hi:xa Lr i=some c:=by rfl) (hes:El'.size=sz:=by rfl) (hx:oev E x=some (pEl v I sz o):=by rfl) (hd:Nat.blt d n=true:=by rfl) (hv:ldv row o fs (enc z)=some u:=by rfl):Nx n G D w0 Tk E L φ :=
 M.val hd rfl (fun ρ w hE hm _=>by
  obtain ⟨b,off',cap,cs,rfl,h1,h2⟩:=(hc _ _ (hm.get hi)).at hz
  rw [yC] at hx
  rw [(hfl _ _ _ _).1 h1,hes] at h2
  have:=Ui (P:=P) hT h2 hv
  simp [execOp,hE _ _ hx,this]) id k
theorem zH (M:ui P n G D w0 E ⟨some d,.call {callee:=.builtin .len,args:=#[x],argTypes:=#[T]},ty,pos,aft,gd⟩ Tk R Lr L) {α:Type} {El':El α} {v:Value} {xs:List α} {c:Ch} {p:TypeId×Nat×Nat} (hT:elB P T=some p) (i:Nat) (hc:Yy c El' v xs) (k:Nx n G D w0 R ((d,.int .i64 xs.length) :: E) L φ) (hi:xa Lr i=some c:=by rfl) (hx:oev E x=some v:=by rfl) (hd:Nat.blt d n=true:=by rfl):Nx n G D w0 Tk E L φ:=zgK M hT i hi hc hx hd k
end
section
variable {P:Program} {n:Nat} {G D:Nat→Prop} {w0:World} {Q:Exit→Act→World→Prop} {R:Act→World→Prop} {E:Env} {L M:List Ch} {φ:Prop}
variable {d:Tmp} {ty:TypeId} {pos:String} {aft:Array Edge} {gd:Option (Nat×Bool)} {Tk:Act→World→Prop} {Lr:List Ch} {x y:Operand} {T T' S:TypeId}
end
section
variable {P:Program} {n:Nat} {G D:Nat→Prop} {w0:World} {Q:Exit→Act→World→Prop} {R:Act→World→Prop} {E:Env} {L:List Ch} {φ:Prop}
variable {d:Tmp} {ty:TypeId} {pos:String} {aft:Array Edge} {gd:Option (Nat×Bool)} {Tk:Act→World→Prop} {Lr:List Ch} {x y:Operand} {T T' S:TypeId}
end
section
variable {P:Program} {n:Nat} {G D:Nat→Prop} {w0:World} {Q:Exit→Act→World→Prop} {R:Act→World→Prop} {E:Env} {L:List Ch} {φ:Prop}
variable {d:Tmp} {ty:TypeId} {pos:String} {aft:Array Edge} {gd:Option (Nat×Bool)} {Tk:Act→World→Prop} {Lr:List Ch} {x y:Operand} {T T':TypeId}
theorem X1 (M:ui P n G D w0 E ⟨some d,.binOp .leq T x y T',ty,pos,aft,gd⟩ Tk R Lr L) {X Y:Int} {K:IntKind} (k:Nx n G D w0 R ((d,.bool (decide (X≤Y))) :: E) L φ) (hx:oev E x=some (.int K X):=by rfl) (hy:oev E y=some (.int K Y):=by rfl) (hd:Nat.blt d n=true:=by rfl):Nx n G D w0 Tk E L φ :=
 M.val hd rfl (fun ρ w hE _ hφ=>by simp [execOp,hE _ _ hx,hE _ _ hy,go_sem]) id k
theorem zM (M:ui P n G D w0 E ⟨some d,.binOp .lss T x y T',ty,pos,aft,gd⟩ Tk R Lr L) {X Y:Int} {K:IntKind} (k:Nx n G D w0 R ((d,.bool (decide (X<Y))) :: E) L φ) (hx:oev E x=some (.int K X):=by rfl) (hy:oev E y=some (.int K Y):=by rfl) (hd:Nat.blt d n=true:=by rfl):Nx n G D w0 Tk E L φ:=zjI M hx hy hd k
end
section
variable {P:Program} {n:Nat} {G D:Nat→Prop} {w0:World} {Q:Exit→Act→World→Prop} {R:Act→World→Prop} {E:Env} {L:List Ch} {φ:Prop}
variable {d:Tmp} {ty:TypeId} {pos:String} {aft:Array Edge} {gd:Option (Nat×Bool)} {Tk:Act→World→Prop} {Lr:List Ch} {x y:Operand} {T T' S:TypeId} {e sz by':Nat}
theorem zgF {α:Type} {El':El α} {enc:α→List Value} {z:α} {N M:Int} {κ:List α→Prop} {zs:List Value} (hfl:Ua El' enc) (hT:elB P T=some (e,sz,by')) (hzr:uj P e=some zs) (k:∀ v xs,Nx n G D w0 R ((d,v) :: E) (ze El' e v xs :: L) (κ xs)) (hx:oev E x=some (.int .i64 N):=by rfl) (hy:oev E y=some (.int .i64 M):=by rfl) (hd:Nat.blt d n=true:=by rfl) (hby:Nat.ble by' 32768=true:=by rfl) (hz:enc z=zs:=by rfl) (hes:El'.size=sz:=by rfl):Nx n G D w0 (fun a w=>Oper.wp P ⟨some d,.makeSlice T x y,ty,pos,aft,gd⟩ a w R Q) E L (Vz z N M κ) :=
 Xy hd rfl fun ρ w hE hm hφ=>by
  obtain ⟨h0,h1,h2,h3⟩:=hφ
  obtain ⟨hu,i,hi,rfl,rfl⟩:=uU hT
  obtain ⟨z',hz',hzc⟩:=yr hzr hi
  unfold zcg at h2
  have hbl:=Nat.le_of_ble_eq_true hby
  obtain ⟨M',rfl⟩:=Int.eq_ofNat_of_zero_le (show 0≤M by omega)
  have hb:(i.bytes:Int) * (M':Int)≤281474976710656:=by
   have h5:i.bytes * M'≤32768 * 4294967296:=Nat.mul_le_mul hbl (by simpa using h2)
   rw [← Int.natCast_mul]
   omega
  have hr:=run_make (P:=P) w T e i z' hu hi hz' .i64 .i64 N M' h0 h1 hb (by simp at h2;omega)
  have hlz:(enc z).length=El'.size:=hfl.size w z
  have hpos:=El'.pos
  rw [hzc,← hz,← hes,← hlz] at hr
  rw [Int.toNat_natCast] at hr h2
  refine ⟨.slice (some ⟨w.heap.size,0,none⟩) N.toNat M',w.alloc (.cells (madeCells (enc z).toArray (M' * (enc z).length)) e),_,κ (List.replicate N.toNat z),by simp [execOp,hE _ _ hx,hE _ _ hy,hr],?_,h3,k _ _⟩
  refine hm.add _ ((Below.refl _ _).alloc (Nat.le_refl _) _) (fun b hb=>by simp [ze,Value.ownBlock] at hb;rw [World.size_alloc];omega) ?_
  have hown:=zac (El':=El') (F:=fz G (ze El' e (.slice (some ⟨w.heap.size,0,none⟩) N.toNat M') (List.replicate N.toNat z) :: L) (w.alloc (.cells (madeCells (enc z).toArray (M' * (enc z).length)) e))) (w:=w.alloc (.cells (madeCells (enc z).toArray (M' * (enc z).length)) e)) (ty:=e) (b:=w.heap.size) (cap:=M')
   (Rows.replicate ((hfl _ _ _ _).2 rfl) N.toNat) (heap_alloc_new w _) (by simp;omega) (by unfold maxLen;omega) (by rw [size_madeCells,hlz]) (by
    rw [yE _ _ (by omega),List.length_replicate,← hlz]
    have:List.replicate M' (enc z)=List.replicate N.toNat (enc z)++List.replicate (M' - N.toNat) (enc z):=by rw [List.replicate_append_replicate];congr 1;omega
    rw [this,List.flatten_append,List.take_left' (by simp)])
  rw [List.length_replicate] at hown
  exact hown
end
section
variable {P:Program} {n:Nat} {G D:Nat→Prop} {w0:World} {Q:Exit→Act→World→Prop} {R:Act→World→Prop} {E:Env} {L M:List Ch} {φ:Prop}
variable {d:Tmp} {ty:TypeId} {pos:String} {aft:Array Edge} {gd:Option (Nat×Bool)} {Tk:Act→World→Prop} {Lr:List Ch} {x y:Operand} {T T' S:TypeId} {e sz by':Nat}
theorem zaZ {α:Type} {E':DEl α} {z:α} {N M:Int} {κ:List α→Prop} {zs:List Value} (hz:∀ w,E'.own [] w z zs) (hT:elB P T=some (e,sz,by')) (hzr:uj P e=some zs) (k:∀ B v xs,Nx n G D w0 R ((d,v) :: E) (z7 E' e B v xs :: L) (κ xs)) (hx:oev E x=some (.int .i64 N):=by rfl) (hy:oev E y=some (.int .i64 M):=by rfl) (hd:Nat.blt d n=true:=by rfl) (hby:Nat.ble by' 32768=true:=by rfl) (hes:E'.el.size=sz:=by rfl):Nx n G D w0 (fun a w=>Oper.wp P ⟨some d,.makeSlice T x y,ty,pos,aft,gd⟩ a w R Q) E L (Vz z N M κ) :=
 Xy hd rfl fun ρ w hE hm hφ=>by
  obtain ⟨h0,h1,h2,h3⟩:=hφ
  obtain ⟨hu,i,hi,rfl,rfl⟩:=uU hT
  obtain ⟨z',hz',hzc⟩:=yr hzr hi
  unfold zcg at h2
  have hbl:=Nat.le_of_ble_eq_true hby
  obtain ⟨M',rfl⟩:=Int.eq_ofNat_of_zero_le (show 0≤M by omega)
  have hb:(i.bytes:Int) * (M':Int)≤281474976710656:=by
   have h5:i.bytes * M'≤32768 * 4294967296:=Nat.mul_le_mul hbl (by simpa using h2)
   rw [← Int.natCast_mul]
   omega
  have hr:=run_make (P:=P) w T e i z' hu hi hz' .i64 .i64 N M' h0 h1 hb (by simp at h2;omega)
  have hlz:zs.length=E'.el.size:=E'.el.len _ _ _ _ (E'.read _ _ _ _ (hz w))
  have hpos:=E'.el.pos
  rw [hzc,← hes,← hlz] at hr
  rw [Int.toNat_natCast] at hr h2
  refine ⟨.slice (some ⟨w.heap.size,0,none⟩) N.toNat M',w.alloc (.cells (madeCells zs.toArray (M' * zs.length)) e),_,κ (List.replicate N.toNat z),by simp [execOp,hE _ _ hx,hE _ _ hy,hr],?_,h3,k [w.heap.size] _ _⟩
  refine hm.add _ ((Below.refl _ _).alloc (Nat.le_refl _) _) (fun b hb=>by simp [z7] at hb;rw [World.size_alloc];omega) ⟨by simp,?_⟩
  have hr:=yk.replicate (E:=E') (w:=w.alloc (.cells (madeCells zs.toArray (M' * zs.length)) e)) (hz _) N.toNat
  refine ⟨_,_,hr,?_,by rw [zaX];simp [UB,Value.ownBlock]⟩
  rw [List.length_replicate]
  refine ⟨by simp [hlz],.inr ⟨w.heap.size,M',madeCells zs.toArray (M' * zs.length),rfl,Nat.zero_le _,heap_alloc_new w _,by omega,by unfold maxLen;omega,by rw [size_madeCells,hlz],?_⟩⟩
  rw [yE _ _ (by omega),← hlz]
  have:List.replicate M' zs=List.replicate N.toNat zs++List.replicate (M' - N.toNat) zs:=by rw [List.replicate_append_replicate];congr 1;omega
  rw [this,List.flatten_append,List.take_left' (by simp)]
end
section
variable {P:Program} {n:Nat} {G D:Nat→Prop} {w0:World} {Q:Exit→Act→World→Prop} {R:Act→World→Prop} {E:Env} {L:List Ch} {φ:Prop}
variable {d:Tmp} {ty:TypeId} {pos:String} {aft:Array Edge} {gd:Option (Nat×Bool)} {Tk:Act→World→Prop} {Lr:List Ch} {x y:Operand} {T T' S:TypeId} {e sz by':Nat}
theorem zft {α:Type} {El':El α} {z:α} {N M:Int} {κ:List α→Prop} {zs:List Value} (hz:∀ F w,El'.cells F w z zs) (hT:elB P T=some (e,sz,by')) (hzr:uj P e=some zs) (k:∀ v xs,Nx n G D w0 R ((d,v) :: E) (ze El' e v xs :: L) (κ xs)) (hx:oev E x=some (.int .i64 N):=by rfl) (hy:oev E y=some (.int .i64 M):=by rfl) (hd:Nat.blt d n=true:=by rfl) (hby:Nat.ble by' 32768=true:=by rfl) (hes:El'.size=sz:=by rfl):Nx n G D w0 (fun a w=>Oper.wp P ⟨some d,.makeSlice T x y,ty,pos,aft,gd⟩ a w R Q) E L (Vz z N M κ) :=
 Xy hd rfl fun ρ w hE hm hφ=>by
  obtain ⟨h0,h1,h2,h3⟩:=hφ
  obtain ⟨hu,i,hi,rfl,rfl⟩:=uU hT
  obtain ⟨z',hz',hzc⟩:=yr hzr hi
  unfold zcg at h2
  have hbl:=Nat.le_of_ble_eq_true hby
  obtain ⟨M',rfl⟩:=Int.eq_ofNat_of_zero_le (show 0≤M by omega)
  have hb:(i.bytes:Int) * (M':Int)≤281474976710656:=by
   have h5:i.bytes * M'≤32768 * 4294967296:=Nat.mul_le_mul hbl (by simpa using h2)
   rw [← Int.natCast_mul]
   omega
  have hr:=run_make (P:=P) w T e i z' hu hi hz' .i64 .i64 N M' h0 h1 hb (by simp at h2;omega)
  have hlz:zs.length=El'.size:=El'.len _ _ _ _ (hz (fun _=>True) w)
  have hpos:=El'.pos
  rw [hzc,← hes,← hlz] at hr
  rw [Int.toNat_natCast] at hr h2
  refine ⟨.slice (some ⟨w.heap.size,0,none⟩) N.toNat M',w.alloc (.cells (madeCells zs.toArray (M' * zs.length)) e),_,κ (List.replicate N.toNat z),by simp [execOp,hE _ _ hx,hE _ _ hy,hr],?_,h3,k _ _⟩
  refine hm.add _ ((Below.refl _ _).alloc (Nat.le_refl _) _) (fun b hb=>by simp [ze,Value.ownBlock] at hb;rw [World.size_alloc];omega) ?_
  have hown:=zac (El':=El') (F:=fz G (ze El' e (.slice (some ⟨w.heap.size,0,none⟩) N.toNat M') (List.replicate N.toNat z) :: L) (w.alloc (.cells (madeCells zs.toArray (M' * zs.length)) e))) (w:=w.alloc (.cells (madeCells zs.toArray (M' * zs.length)) e)) (ty:=e) (b:=w.heap.size) (cap:=M')
   (Rows.replicate (hz _ _) N.toNat) (heap_alloc_new w _) (by simp;omega) (by unfold maxLen;omega) (by rw [size_madeCells,hlz]) (by
    rw [yE _ _ (by omega),List.length_replicate,← hlz]
    have:List.replicate M' zs=List.replicate N.toNat zs++List.replicate (M' - N.toNat) zs:=by rw [List.replicate_append_replicate];congr 1;omega
    rw [this,List.flatten_append,List.take_left' (by simp)])
  rw [List.length_replicate] at hown
  exact hown
end
section
variable {P:Program} {n:Nat} {G D:Nat→Prop} {w0:World} {Q:Exit→Act→World→Prop} {R:Act→World→Prop} {E:Env} {L:List Ch} {φ:Prop}
variable {d:Tmp} {ty:TypeId} {pos:String} {aft:Array Edge} {gd:Option (Nat×Bool)} {Tk:Act→World→Prop} {Lr:List Ch} {x y:Operand} {T T' S:TypeId} {e sz by':Nat} {at':Array TypeId}
theorem zfn (M:ui P n G D w0 E ⟨some d,.call {callee:=.builtin .max,args:=#[x,y],argTypes:=at'},ty,pos,aft,gd⟩ Tk R Lr L) {X Y:Int} (k:Nx n G D w0 R ((d,.int .i64 (max X Y)) :: E) L φ) (hx:oev E x=some (.int .i64 X):=by rfl) (hy:oev E y=some (.int .i64 Y):=by rfl) (hd:Nat.blt d n=true:=by rfl):Nx n G D w0 Tk E L φ :=
 M.val hd rfl (fun ρ w hE _ _=>by
  have e:(if Y > X then Y else X)=max X Y:=by rw [Int.max_def];split <;> split <;> omega
  simp [execOp,resolve,invoke,builtin,hE _ _ hx,hE _ _ hy,Builtin.max_,Builtin.max2,← e]) id k
theorem zbQ (M:ui P n G D w0 E ⟨some d,.call {callee:=.builtin .min,args:=#[x,y],argTypes:=at'},ty,pos,aft,gd⟩ Tk R Lr L) {X Y:Int} (k:Nx n G D w0 R ((d,.int .i64 (min X Y)) :: E) L φ) (hx:oev E x=some (.int .i64 X):=by rfl) (hy:oev E y=some (.int .i64 Y):=by rfl) (hd:Nat.blt d n=true:=by rfl):Nx n G D w0 Tk E L φ :=
 M.val hd rfl (fun ρ w hE _ _=>by
  have e:(if Y<X then Y else X)=min X Y:=by rw [Int.min_def];split <;> split <;> omega
  simp [execOp,resolve,invoke,builtin,hE _ _ hx,hE _ _ hy,Builtin.min_,Builtin.min2,← e]) id k
end
section
variable {P:Program} {n:Nat} {G D:Nat→Prop} {w0:World} {Q:Exit→Act→World→Prop} {R:Act→World→Prop} {E:Env} {L M:List Ch} {φ:Prop}
variable {d:Tmp} {ty:TypeId} {pos:String} {aft:Array Edge} {gd:Option (Nat×Bool)} {Tk:Act→World→Prop} {Lr:List Ch} {x y:Operand} {T T' S:TypeId} {e sz by':Nat} {dst:Option Tmp} {at':Array TypeId}
theorem zbR (M:ui P n G D w0 E ⟨some d,.makeInterface T x,ty,pos,aft,gd⟩ Tk R Lr L) {v u:Value} (hm:∀ v w,(Instr.makeInterface T v).run P w=.ok (.iface T v) w) (k:Nx n G D w0 R ((d,u) :: E) L φ) (hx:oev E x=some v:=by rfl) (hd:Nat.blt d n=true:=by rfl) (hu:Value.iface T v=u:=by rfl):Nx n G D w0 Tk E L φ :=
 M.val hd rfl (fun ρ w hE _ _=>by simp [execOp,hE _ _ hx,hm,hu]) id k
end
section
variable {P:Program} {n:Nat} {G D:Nat→Prop} {w0:World} {Q:Exit→Act→World→Prop} {R:Act→World→Prop} {E:Env} {L:List Ch} {φ:Prop}
variable {d:Tmp} {ty:TypeId} {pos:String} {aft:Array Edge} {gd:Option (Nat×Bool)} {Tk:Act→World→Prop} {Lr:List Ch} {x y:Operand} {T T':TypeId}
theorem zw (M:ui P n G D w0 E ⟨some d,.move x,ty,pos,aft,gd⟩ Tk R Lr L) {v:Value} (k:Nx n G D w0 R ((d,v) :: E) L φ) (hx:oev E x=some v:=by rfl) (hd:Nat.blt d n=true:=by rfl):Nx n G D w0 Tk E L φ:=Ya M hx hd k
end
section
variable {P:Program} {n:Nat} {G D:Nat→Prop} {w0:World} {Q:Exit→Act→World→Prop} {R:Act→World→Prop} {E:Env} {L:List Ch} {φ:Prop}
variable {d:Tmp} {ty:TypeId} {pos:String} {aft:Array Edge} {gd:Option (Nat×Bool)} {Tk:Act→World→Prop} {Lr:List Ch} {x y:Operand} {T T' S:TypeId} {e sz by':Nat}
theorem yu (M:ui P n G D w0 E ⟨some d,.binOp .neq T x y T',ty,pos,aft,gd⟩ Tk R Lr L) {X Y:Int} {K:IntKind} (hT:P.underlying T=some (.int K)) (k:Nx n G D w0 R ((d,.bool (!decide (X=Y))) :: E) L φ) (hx:oev E x=some (.int K X):=by rfl) (hy:oev E y=some (.int K Y):=by rfl) (hd:Nat.blt d n=true:=by rfl):Nx n G D w0 Tk E L φ :=
 M.val hd rfl (fun ρ w hE _ _=>by simp [execOp,hE _ _ hx,hE _ _ hy,go_sem,hT,run_underlying hT];rfl) id k
theorem Vn (M:ui P n G D w0 E ⟨some d,.binOp .neq T x y T',ty,pos,aft,gd⟩ Tk R Lr L) {X Y:Bool} (hT:P.underlying T=some .bool) (k:Nx n G D w0 R ((d,.bool (!decide (X=Y))) :: E) L φ) (hx:oev E x=some (.bool X):=by rfl) (hy:oev E y=some (.bool Y):=by rfl) (hd:Nat.blt d n=true:=by rfl):Nx n G D w0 Tk E L φ :=
 M.val hd rfl (fun ρ w hE _ _=>by cases X <;> cases Y <;> simp [execOp,hE _ _ hx,hE _ _ hy,go_sem,hT,run_underlying hT]) id k
end
section
variable {P:Program} {n:Nat} {G D:Nat→Prop} {w0:World} {Q:Exit→Act→World→Prop} {R:Act→World→Prop} {E:Env} {L:List Ch} {φ:Prop}
variable {d:Tmp} {ty:TypeId} {pos:String} {aft:Array Edge} {gd:Option (Nat×Bool)} {Tk:Act→World→Prop} {Lr:List Ch} {x y:Operand} {T T' S:TypeId}
end
section
variable {P:Program} {n:Nat} {G D:Nat→Prop} {w0:World} {Q:Exit→Act→World→Prop} {R:Act→World→Prop} {E:Env} {L M:List Ch} {φ:Prop}
variable {d:Tmp} {ty:TypeId} {pos:String} {aft:Array Edge} {gd:Option (Nat×Bool)} {Tk:Act→World→Prop} {Lr:List Ch} {x y:Operand} {T T' S:TypeId} {e sz by':Nat}
end
section
variable {P:Program} {n:Nat} {G D:Nat→Prop} {w0:World} {Q:Exit→Act→World→Prop} {R:Act→World→Prop} {E:Env} {L M:List Ch} {φ:Prop}
variable {d:Tmp} {ty:TypeId} {pos:String} {aft:Array Edge} {gd:Option (Nat×Bool)} {Tk:Act→World→Prop} {Lr:List Ch} {x y:Operand} {T T' S:TypeId}
end
section
variable {P:Program} {n:Nat} {G D:Nat→Prop} {w0:World} {Q:Exit→Act→World→Prop} {R:Act→World→Prop} {E:Env} {L:List Ch} {φ:Prop}
variable {d:Tmp} {ty:TypeId} {pos:String} {aft:Array Edge} {gd:Option (Nat×Bool)} {Tk:Act→World→Prop} {Lr:List Ch} {x y:Operand} {T T' S:TypeId} {e sz by':Nat}
theorem uC (M:ui P n G D w0 E ⟨some d,.nilCheck x,ty,pos,aft,gd⟩ Tk R Lr L) {a:Addr} (k:Nx n G D w0 R ((d,.pointer (some a)) :: E) L φ) (hx:oev E x=some (.pointer (some a)):=by rfl) (hd:Nat.blt d n=true:=by rfl):Nx n G D w0 Tk E L φ :=
 M.val hd rfl (fun ρ w hE _ _=>by simp [execOp,hE _ _ hx]) id k
end
section
variable {P:Program} {n:Nat} {G D:Nat→Prop} {w0:World} {Q:Exit→Act→World→Prop} {R:Act→World→Prop} {E:Env} {L:List Ch} {φ:Prop}
variable {d:Tmp} {ty:TypeId} {pos:String} {aft:Array Edge} {gd:Option (Nat×Bool)} {Tk:Act→World→Prop} {Lr:List Ch} {x y:Operand} {T T':TypeId}
theorem js (M:ui P n G D w0 E ⟨some d,.unOp .not T x,ty,pos,aft,gd⟩ Tk R Lr L) {b:Bool} (k:Nx n G D w0 R ((d,.bool (!b)) :: E) L φ) (hx:oev E x=some (.bool b):=by rfl) (hd:Nat.blt d n=true:=by rfl):Nx n G D w0 Tk E L φ:=zjM M hx hd k
end
section
variable {P:Program} {n:Nat} {G D:Nat→Prop} {w0:World} {Q:Exit→Act→World→Prop} {R:Act→World→Prop} {E:Env} {L:List Ch} {φ:Prop}
variable {d:Tmp} {ty:TypeId} {pos:String} {aft:Array Edge} {gd:Option (Nat×Bool)} {Tk:Act→World→Prop} {Lr:List Ch} {x y:Operand} {T T' S:TypeId} {e sz by':Nat}
theorem zQ {c:Operand} (M:ui P n G D w0 E ⟨some d,.pick c x y,ty,pos,aft,gd⟩ Tk R Lr L) {v:Value} (k:Nx n G D w0 R ((d,v) :: E) L φ) (hc:oev E c=some (.bool false):=by rfl) (hx:oev E y=some v:=by rfl) (hd:Nat.blt d n=true:=by rfl):Nx n G D w0 Tk E L φ :=
 M.val hd rfl (fun ρ w hE _ _=>by simp [execOp,hE _ _ hc,hE _ _ hx,asBool]) id k
theorem zY {c:Operand} (M:ui P n G D w0 E ⟨some d,.pick c x y,ty,pos,aft,gd⟩ Tk R Lr L) {v:Value} (k:Nx n G D w0 R ((d,v) :: E) L φ) (hc:oev E c=some (.bool true):=by rfl) (hx:oev E x=some v:=by rfl) (hd:Nat.blt d n=true:=by rfl):Nx n G D w0 Tk E L φ :=
 M.val hd rfl (fun ρ w hE _ _=>by simp [execOp,hE _ _ hc,hE _ _ hx,asBool]) id k
end
section
variable {P:Program} {n:Nat} {G D:Nat→Prop} {w0:World} {Q:Exit→Act→World→Prop} {R:Act→World→Prop} {E:Env} {L:List Ch} {φ:Prop}
variable {d:Tmp} {ty:TypeId} {pos:String} {aft:Array Edge} {gd:Option (Nat×Bool)} {Tk:Act→World→Prop} {Lr:List Ch} {x y:Operand} {T T':TypeId}
theorem zgz (M:ui P n G D w0 E ⟨some d,.binOp .rem T x y T',ty,pos,aft,gd⟩ Tk R Lr L) {X Y:Int} {κ:Int→Prop} (k:∀ z,Nx n G D w0 R ((d,.int .i64 z) :: E) L (κ z)) (hx:oev E x=some (.int .i64 X):=by rfl) (hy:oev E y=some (.int .i64 Y):=by rfl) (hd:Nat.blt d n=true:=by rfl):Nx n G D w0 Tk E L (ziF X Y κ) :=
 M.val (v:=.int .i64 (X % Y)) hd rfl (fun ρ w hE _ hφ=>by
  obtain ⟨h1,h2,h3,_⟩:=hφ
  have e0:Y≠0:=by omega
  have e1:X.tmod Y=X % Y:=Int.tmod_eq_emod_of_nonneg h1
  simp [execOp,hE _ _ hx,hE _ _ hy,go_sem,e0,e1]) (fun h=>h.2.2.2) (k _)
end
section
variable {P:Program} {n:Nat} {G D:Nat→Prop} {w0:World} {Q:Exit→Act→World→Prop} {R:Act→World→Prop} {E:Env} {L:List Ch} {φ:Prop}
variable {d:Tmp} {ty:TypeId} {pos:String} {aft:Array Edge} {gd:Option (Nat×Bool)} {Tk:Act→World→Prop} {Lr:List Ch} {x y:Operand} {T T' S:TypeId} {e sz by':Nat} {at':Array TypeId}
theorem XA {α:Type} {El':El α} {v:Value} {xs:List α} {lo hi:Option Operand} {I J:Int} {κ:List α→Prop} (i:Nat) (hT:elB P T=some (e,sz,by')) (k:∀ v' ys,Nx n G D w0 R ((d,v') :: E) (jC El' v' ys :: L) (κ ys)) (hi':xa L i=some (jC El' v xs):=by rfl) (hx:oev E x=some v:=by rfl) (hlo:match lo with | none=>I=0 | some l=>oev E l=some (.int .i64 I):=by rfl) (hhi:match hi with | none=>J=xs.length | some h=>oev E h=some (.int .i64 J):=by rfl) (hd:Nat.blt d n=true:=by rfl) (hes:El'.size=sz:=by rfl):Nx n G D w0 (fun a w=>Oper.wp P ⟨some d,.slice T x lo hi none,ty,pos,aft,gd⟩ a w R Q) E L (yN xs I J κ) :=
 Xy hd rfl fun ρ w hE hm hφ=>by
  obtain ⟨h0,h1,h2,h3⟩:=hφ
  obtain ⟨hu,inf,hinf,rfl,rfl⟩:=uU hT
  have hsl:=hm.ro i hi'
  obtain ⟨a,cap,hv,hcap,_⟩:=hsl
  have hsl:=hm.ro i hi'
  subst hv
  have hp:=fun (F:Nat→Prop) (h:Sl El' F w (.slice a xs.length cap) xs)=>h.part I.toNat J.toNat (by omega) (by omega)
  refine ⟨_,w,_,κ ((xs.take J.toNat).drop I.toNat),?_,zhY hm hi' hp,h3,k _ _⟩
  have e1:(J:Int)≤cap:=by omega
  have e2:0≤J:=by omega
  cases lo with
  | none =>
   cases hi with
   | none =>
    simp only at hlo hhi
    subst hlo hhi
    simp [execOp,hE _ _ hx,Instr.sliceAt,Instr.slice,Instr.sliceBounds,run_underlying hu,sizeOf,typeInfo,hinf,hes]
   | some hh =>
    simp only at hlo hhi
    subst hlo
    simp [execOp,hE _ _ hx,hE _ _ hhi,Instr.sliceAt,Instr.slice,Instr.sliceBounds,Instr.sliceBound,asIntOf,run_underlying hu,sizeOf,typeInfo,hinf,e1,e2,hes]
  | some ll =>
   cases hi with
   | none =>
    simp only at hlo hhi
    subst hhi
    have e3:I≤(xs.length:Int):=h1
    simp [execOp,hE _ _ hx,hE _ _ hlo,Instr.sliceAt,Instr.slice,Instr.sliceBounds,Instr.sliceBound,asIntOf,run_underlying hu,sizeOf,typeInfo,hinf,h0,e3,hes]
   | some hh =>
    simp only at hlo hhi
    have e4:I≤(J.toNat:Int):=by omega
    simp [execOp,hE _ _ hx,hE _ _ hlo,hE _ _ hhi,Instr.sliceAt,Instr.slice,Instr.sliceBounds,Instr.sliceBound,asIntOf,run_underlying hu,sizeOf,typeInfo,hinf,h0,e1,e2,e4,hes]
    intro h;omega
end
section
variable {P:Program} {n:Nat} {G D:Nat→Prop} {w0:World} {Q:Exit→Act→World→Prop} {R:Act→World→Prop} {E:Env} {L M:List Ch} {φ:Prop}
variable {d:Tmp} {ty:TypeId} {pos:String} {aft:Array Edge} {gd:Option (Nat×Bool)} {Tk:Act→World→Prop} {Lr:List Ch} {x y:Operand} {T T' S:TypeId} {e sz by':Nat}
end
section
variable {P:Program} {n:Nat} {G D:Nat→Prop} {w0:World} {Q:Exit→Act→World→Prop} {R:Act→World→Prop} {E:Env} {L:List Ch} {φ:Prop}
variable {d:Tmp} {ty:TypeId} {pos:String} {aft:Array Edge} {gd:Option (Nat×Bool)} {Tk:Act→World→Prop} {Lr:List Ch} {x y:Operand} {T T' S:TypeId}
end
section
variable {P:Program} {n:Nat} {G D:Nat→Prop} {w0:World} {Q:Exit→Act→World→Prop} {R:Act→World→Prop} {E:Env} {L M:List Ch} {φ:Prop}
variable {d:Tmp} {ty:TypeId} {pos:String} {aft:Array Edge} {gd:Option (Nat×Bool)} {Tk:Act→World→Prop} {Lr:List Ch} {x y:Operand} {T T' S:TypeId} {e sz by':Nat}
theorem Ze {α:Type} {El':El α} {u:Value} {cs:List Value} {len b fs:Nat} {xs0:List α} {row:Bool} {e':TypeId} (i:Nat) (xs:List α) (css:List (List Value)) (hr:∀ w,Mem G D w0 L w→Rows El' (fz G L w) w xs css) (hT:tyB P T=some (row,fs)) (k:Nx n G D w0 R E (yb L i (ze El' e' (.slice (some ⟨b,0,none⟩) len len) xs)) φ) (hi:xa L i=some (ze El' e' (.slice (some ⟨b,0,none⟩) len len) xs0):=by rfl) (hx:oev E x=some (.pointer (some ⟨b,0,none⟩)):=by rfl) (hy:oev E y=some u:=by rfl) (hcs:u.cells=cs.toArray:=by rfl) (hfl:css.flatten=cs:=by rfl) (hl:xs.length=len:=by rfl) (h1:u.cells.toList.all (·.oneCell')=true:=by rfl) (hsz:Nat.beq u.cells.size fs=true:=by rfl) (hpos:Nat.beq len 0=false:=by rfl):Nx n G D w0 (fun a w=>Oper.wp P ⟨none,.store T x y,ty,pos,aft,gd⟩ a w R Q) E L φ :=
 zb5 rfl fun ρ w hE hm hφ=>by
  obtain ⟨css0,hr0,how⟩:=hm.get hi
  obtain ⟨h0,hown⟩:=how
  have hlp:len≠0:=fun e=>by rw [e] at hpos;simp at hpos
  rcases hown with ⟨h,_⟩ | ⟨g,cap,cur,h,hg0,hg,hnc,hcm,hcz,htake⟩
  ·cases h
  simp only [Value.slice.injEq,Option.some.injEq,Addr.mk.injEq] at h
  obtain ⟨⟨rfl,-,-⟩,hln,rfl⟩:=h
  have hrows:=hr w hm
  have hlen:=hrows.length
  rw [hfl,hl] at hlen
  have hb:w.heap[b]?=some (.cells cur.toList.toArray e' (0,0)):=by simpa using hg
  have hcl:cur.toList.length=len * El'.size:=by rw [Array.length_toList,hcz]
  have hus:u.cells.toList=cs:=by rw [hcs]
  have hzs:=Nat.eq_of_beq_eq_true hsz
  have hr':=zaf (P:=P) (w:=w) hT hsz h1 (b:=b) (o:=0) (Zv hb (by rw [hcl];rw [hcs];simp [hlen]))
  refine ⟨_,_,φ,by simp [execOp,hE _ _ hx,hE _ _ hy,hr'];rfl,?_,hφ,k⟩
  obtain ⟨s1,s2,s3⟩:=yh b u.cells.toList 0 w
  have hput:ZI cur.toList 0 cs=cs:=by
   have key:∀ (vs l:List Value),vs.length=l.length→∀ p:List Value,ZI (p++l) p.length vs=p++vs:=by
    intro vs
    induction vs with
    | nil=>intro l hl p;cases l with
     | nil=>rfl
     | cons _ _=>simp at hl
    | cons a r ih=>intro l hl p;cases l with
     | nil=>simp at hl
     | cons c l =>
      rw [ZI]
      have:(p++c :: l).set p.length a=(p++[a])++l:=by simp
      rw [this]
      have:=ih l (by simpa using hl) (p++[a])
      simpa using this
   simpa using key cs cur.toList (by omega) []
  have hup:=yO b e' (0,0) u.cells.toList 0 cur.toList w hb
  rw [hus,hput] at hup
  refine hm.upd hi s1 s2 s3 (by rw [jU];exact Nat.le_refl _) (fun x _ hx=>xB b _ _ _ _ (fun e=>hx (by rw [e];rfl))) (fun x hx=>⟨?_,.inl hx⟩) ?_
  ·have hx':some b=some x:=hx
   cases hx'
   rw [jU]
   exact (Array.getElem?_eq_some_iff.1 hg).1
  ·have hsame:∀ c,fz G L w c→(w.setCells b 0 u.cells.toList).heap[c]?=w.heap[c]?:=fun c hc=>xB b _ _ _ _ (fun e''=>hc.2.2 _ (jX hi) (by rw [e''];rfl))
   have hk:=hrows.keep (F':=fz G (yb L i (ze El' e' (.slice (some ⟨b,0,none⟩) len len) xs)) (w.setCells b 0 u.cells.toList)) (fun c hc=>⟨by rw [jU];exact hc.1,hc.2.1,fun x hx=>by
    rcases ZF hi hm.disj hx with e'' | ⟨e1,_⟩
    ·subst e'';exact fun hk=>hc.2.2 _ (jX hi) hk
    ·exact hc.2.2 x e1⟩) hsame
   subst hl
   have h0':=hk.length
   rw [hfl] at h0'
   refine ⟨css,hk,by rw [hfl];exact h0',.inr ⟨b,xs.length,cs.toArray,rfl,hg0,by rw [hus];exact hup,Nat.le_refl _,hcm,by simpa using h0',by rw [hfl,← h0'];simp⟩⟩
end
section
variable {P:Program} {n:Nat} {G D:Nat→Prop} {w0:World} {Q:Exit→Act→World→Prop} {R:Act→World→Prop} {E:Env} {L M:List Ch} {φ:Prop}
variable {d:Tmp} {ty:TypeId} {pos:String} {aft:Array Edge} {gd:Option (Nat×Bool)} {Tk:Act→World→Prop} {Lr:List Ch} {x y:Operand} {T T' S:TypeId} {e sz by':Nat}
end
section
variable {P:Program} {n:Nat} {G D:Nat→Prop} {w0:World} {Q:Exit→Act→World→Prop} {R:Act→World→Prop} {E:Env} {L:List Ch} {φ:Prop}
variable {d:Tmp} {ty:TypeId} {pos:String} {aft:Array Edge} {gd:Option (Nat×Bool)} {Tk:Act→World→Prop} {Lr:List Ch} {x y:Operand} {T T' S:TypeId}
theorem jm {b o sz:Nat} {cs cs':List Value} {T0:TypeId} {row:Bool} {u:Value} (i:Nat) (hT:tyB P T=some (row,sz)) (k:Nx n G D w0 R E (yb L i (zf b cs' T0)) φ) (hi:xa L i=some (zf b cs T0):=by rfl) (hx:oev E x=some (.pointer (some ⟨b,o,none⟩)):=by rfl) (hy:oev E y=some u:=by rfl) (hsz:Nat.beq u.cells.size sz=true:=by rfl) (h1:u.cells.toList.all (·.oneCell')=true:=by rfl) (hle:Nat.ble (o+sz) cs.length=true:=by rfl) (hcs:ZI cs o u.cells.toList=cs':=by rfl):Nx n G D w0 (fun a w=>Oper.wp P ⟨none,.store T x y,ty,pos,aft,gd⟩ a w R Q) E L φ:=zdt i hi hx hy hT hsz h1 hle hcs k
end
section
variable {P:Program} {n:Nat} {G D:Nat→Prop} {w0:World} {Q:Exit→Act→World→Prop} {R:Act→World→Prop} {E:Env} {L:List Ch} {φ:Prop}
variable {d:Tmp} {ty:TypeId} {pos:String} {aft:Array Edge} {gd:Option (Nat×Bool)} {Tk:Act→World→Prop} {Lr:List Ch} {x y:Operand} {T T' S:TypeId} {e sz by':Nat}
theorem X2 {α:Type} {El':El α} {enc:α→List Value} {v:Value} {xs:List α} {I:Int} {z y':α} {o sz fs:Nat} {row:Bool} {u:Value} (i:Nat) (hfl:Ua El' enc) (hz:xs[I.toNat]?=some z) (hT:tyB P T=some (row,fs)) (k:Nx n G D w0 R E (yb L i (ze El' e v (xs.set I.toNat y'))) φ) (hi:xa L i=some (ze El' e v xs):=by rfl) (hes:El'.size=sz:=by rfl) (hx:oev E x=some (pEl v I sz o):=by rfl) (hy:oev E y=some u:=by rfl) (hsz:Nat.beq u.cells.size fs=true:=by rfl) (h1:u.cells.toList.all (·.oneCell')=true:=by rfl) (hle:Nat.ble (o+fs) sz=true:=by rfl) (hy':ZI (enc z) o u.cells.toList=enc y':=by rfl):Nx n G D w0 (fun a w=>Oper.wp P ⟨none,.store T x y,ty,pos,aft,gd⟩ a w R Q) E L φ :=
 zb5 rfl fun ρ w hE hm hφ=>by
  have hlt:=(List.getElem?_eq_some_iff.1 hz).1
  obtain ⟨css,hr,hown⟩:=hm.get hi
  have hcss:=hr.length
  obtain ⟨h0,hown⟩:=hown
  rcases hown with ⟨_,hn⟩ | ⟨g,cap,cur,rfl,hg0,hg,hnc,hcm,hcs,htake⟩
  ·omega
  rw [yC] at hx
  have hzs:=Nat.eq_of_beq_eq_true hsz
  have hle':=Nat.le_of_ble_eq_true hle
  have hb:w.heap[g]?=some (.cells cur.toList.toArray e (0,0)):=by simpa using hg
  have hsub:I.toNat * sz+sz≤xs.length * sz:=by rw [← Nat.succ_mul];exact Nat.mul_le_mul_right _ hlt
  have hcap:xs.length * sz≤cap * sz:=Nat.mul_le_mul_right _ hnc
  have hcl:cur.toList.length=cap * sz:=by rw [Array.length_toList,hcs,hes]
  have hr':=zaf (P:=P) (w:=w) hT hsz h1 (b:=g) (o:=0+I.toNat * sz+o) (Zv hb (by rw [hzs,hcl];omega))
  refine ⟨_,_,φ,by simp [execOp,hE _ _ hx,hE _ _ hy] at hr' ⊢;rw [hr'];rfl,?_,hφ,k⟩
  obtain ⟨s1,s2,s3⟩:=yh g u.cells.toList (I.toNat * sz+o) w
  refine hm.upd hi s1 s2 s3 (by rw [jU];exact Nat.le_refl _) (fun x _ hx=>xB g _ _ _ _ (fun e=>hx (by rw [e];rfl))) (fun x hx=>⟨?_,.inl hx⟩) ?_
  ·have hx':some g=some x:=hx
   cases hx'
   rw [jU]
   exact (Array.getElem?_eq_some_iff.1 hg).1
  ·
   have hcz:El'.cells (fz G L w) w z (enc z):=(hfl _ _ _ _).2 rfl
   obtain ⟨pre,post,old,e1,e2,e3,css',e4,e5⟩:=hr.set I.toNat (y:=y') (ds:=enc y') hlt ((hfl _ _ _ _).2 rfl)
   have hold:old=enc z:=by
    obtain ⟨cs,c1,c2⟩:=hr.get hz
    rw [(hfl _ _ _ _).1 c1] at c2
    apply List.ext_getElem?
    intro j
    by_cases hj:j<(enc z).length
    ·have:=c2 j (enc z)[j] (List.getElem?_eq_getElem hj)
     rw [e1,List.append_assoc,← e2,List.getElem?_append_right (by omega),show pre.length+j - pre.length=j by omega,List.getElem?_append_left (by rw [e3,← hfl.size w z];exact hj)] at this
     rw [this,List.getElem?_eq_getElem hj]
    ·rw [List.getElem?_eq_none (by rw [e3,← hfl.size w z];omega),List.getElem?_eq_none (by omega)]
   have hlz:(enc z).length=sz:=by rw [hfl.size w z,hes]
   have hup:=yO g e (0,0) u.cells.toList (I.toNat * sz+o) cur.toList w hb
   refine ⟨css',?_,?_,.inr ⟨g,cap,(ZI cur.toList (I.toNat * sz+o) u.cells.toList).toArray,by simp,hg0,hup,by simpa using hnc,hcm,by simpa [Z5] using hcs,?_⟩⟩
   ·have go:∀ (F F':Nat→Prop) (w':World) (ys:List α) (dss:List (List Value)),Rows El' F w ys dss→Rows El' F' w' ys dss:=by
     intro F F' w' ys
     induction ys with
     | nil=>intro dss h;cases dss <;> first | trivial | exact h.elim
     | cons y0 r ih=>intro dss h;cases dss with
      | nil=>exact h.elim
      | cons d0 ds=>exact ⟨hfl.free _ _ _ _ _ _ h.1,ih ds h.2⟩
    exact go _ _ _ _ _ e5
   ·have:=e5.length
    simpa using this
   ·rw [e4]
    have hct:cur.toList=pre++old++(post++cur.toList.drop (xs.length * sz)):=by
     rw [← List.append_assoc,← e1,← htake,hes,List.take_append_drop]
    rw [hct,← hes,← e2,XO _ _ _ _ _ (by rw [hold,hlz];simp;omega),hold,hy',← List.append_assoc]
    rw [List.length_set]
    have hly:(enc y').length=El'.size:=hfl.size w y'
    have htot:(pre++enc y'++post).length=xs.length * El'.size:=by
     have h5:=congrArg List.length e1
     rw [hcss] at h5
     simp at h5 ⊢
     omega
    rw [← htot]
    exact List.take_left
end
section
variable {P:Program} {n:Nat} {G D:Nat→Prop} {w0:World} {Q:Exit→Act→World→Prop} {R:Act→World→Prop} {E:Env} {L:List Ch} {φ:Prop}
variable {d:Tmp} {ty:TypeId} {pos:String} {aft:Array Edge} {gd:Option (Nat×Bool)} {Tk:Act→World→Prop} {Lr:List Ch} {x y:Operand} {T T' S:TypeId} {e sz by':Nat}
end
section
variable {P:Program} {n:Nat} {G D:Nat→Prop} {w0:World} {Q:Exit→Act→World→Prop} {R:Act→World→Prop} {E:Env} {L:List Ch} {φ:Prop}
variable {d:Tmp} {ty:TypeId} {pos:String} {aft:Array Edge} {gd:Option (Nat×Bool)} {Tk:Act→World→Prop} {Lr:List Ch} {x y:Operand} {T T':TypeId}
theorem ZK (M:ui P n G D w0 E ⟨some d,.binOp .sub T x y T',ty,pos,aft,gd⟩ Tk R Lr L) {X Y:Int} {κ:Int→Prop} (k:∀ z,Nx n G D w0 R ((d,.int .i64 z) :: E) L (κ z)) (hx:oev E x=some (.int .i64 X):=by rfl) (hy:oev E y=some (.int .i64 Y):=by rfl) (hd:Nat.blt d n=true:=by rfl):Nx n G D w0 Tk E L (Y6 X Y κ):=ziG M hx hy hd k
end
section
variable {P:Program} {n:Nat} {G D:Nat→Prop} {w0:World} {Q:Exit→Act→World→Prop} {R:Act→World→Prop} {E:Env} {L:List Ch} {φ:Prop}
variable {d:Tmp} {ty:TypeId} {pos:String} {aft:Array Edge} {gd:Option (Nat×Bool)} {Tk:Act→World→Prop} {Lr:List Ch} {x y:Operand} {T T' S:TypeId} {e sz by':Nat} {at':Array TypeId}
end
section
variable {P:Program} {n:Nat} {G D:Nat→Prop} {w0:World} {Q:Exit→Act→World→Prop} {R:Act→World→Prop} {E:Env} {L:List Ch} {φ:Prop}
variable {d:Tmp} {ty:TypeId} {pos:String} {aft:Array Edge} {gd:Option (Nat×Bool)} {Tk:Act→World→Prop} {Lr:List Ch} {x y:Operand} {T T':TypeId}
end
section
variable {P:Program} {n:Nat} {G D:Nat→Prop} {w0:World} {Q:Exit→Act→World→Prop} {R:Act→World→Prop} {E:Env} {L:List Ch} {φ:Prop}
variable {d:Tmp} {ty:TypeId} {pos:String} {aft:Array Edge} {gd:Option (Nat×Bool)} {Tk:Act→World→Prop} {Lr:List Ch} {x y:Operand} {T T' S:TypeId} {e sz by':Nat} {at':Array TypeId}
end
end
section
open Go.RowKit
section
variable {P:Program} {n:Nat} {G D:Nat→Prop} {w0:World} {E:Env} {L:List Ch} {φ:Prop}
theorem y0 {i1:Nat} {l1:List Oper} {y0:Code} {Q0:Exit→Act→World→Prop} (h:Nx n G D w0 (wpList P l1.toArray (Exit.then (y0.wp P Q0) Q0) l1) E L φ):Nx n G D w0 ((Code.seq (Code.region i1 l1.toArray false) y0).wp P Q0) E L φ:=jr (zt h)
theorem y1 {o0:Array Oper} {K1:Act→World→Prop} {Q1:Exit→Act→World→Prop} (h:Nx n G D w0 K1 E L φ):Nx n G D w0 (wpList P o0 (Exit.then K1 Q1) []) E L φ:=zA (zO h)
theorem y2 {o0:Array Oper} {i3:Nat} {l3:List Oper} {y2:Code} {Q2:Exit→Act→World→Prop} {Q1:Exit→Act→World→Prop} (h:Nx n G D w0 (wpList P l3.toArray (Exit.then (y2.wp P Q2) Q2) l3) E L φ):Nx n G D w0 (wpList P o0 (Exit.then ((Code.seq (Code.region i3 l3.toArray false) y2).wp P Q2) Q1) []) E L φ:=zA (zO (jr (zt h)))
theorem y3 {o0:Array Oper} {Q2:Exit→Act→World→Prop} {Q1:Exit→Act→World→Prop} (h:Nx n G D w0 (Q2 .ret) E L φ):Nx n G D w0 (wpList P o0 (Exit.then (Code.ret.wp P Q2) Q1) []) E L φ:=zA (zO (uv h))
theorem y4 {o0:Array Oper} {i4:Nat} {l4:List Oper} {y3:Code} {y2:Code} {Q2:Exit→Act→World→Prop} {Q1:Exit→Act→World→Prop} (h:Nx n G D w0 (wpList P l4.toArray (Exit.then (y3.wp P (Exit.then (y2.wp P Q2) Q2)) (Exit.then (y2.wp P Q2) Q2)) l4) E L φ):Nx n G D w0 (wpList P o0 (Exit.then ((Code.seq (Code.seq (Code.region i4 l4.toArray false) y3) y2).wp P Q2) Q1) []) E L φ:=zA (zO (jr (jr (zt h))))
theorem y5 {o0:Array Oper} {i2:Nat} {c2:Code} {Q2:Exit→Act→World→Prop} {Q1:Exit→Act→World→Prop} (h:Nx n G D w0 (c2.wp P (Exit.inBlock i2 Q2)) E L φ):Nx n G D w0 (wpList P o0 (Exit.then ((Code.block i2 c2).wp P Q2) Q1) []) E L φ:=zA (zO (uh h))
theorem y6 {o0:Array Oper} {K3:Act→World→Prop} {Q3:Exit→Act→World→Prop} {Q1:Exit→Act→World→Prop} (h:Nx n G D w0 (Q3 .ret) E L φ):Nx n G D w0 (wpList P o0 (Exit.then (Code.ret.wp P (Exit.then K3 Q3)) Q1) []) E L φ:=zA (zO (uv (xp h)))
theorem y7 {i3:Nat} {K1:Act→World→Prop} {K2:Act→World→Prop} {i6:Nat} {l6:List Oper} {y5:Code} {Q5:Exit→Act→World→Prop} {Q4:Exit→Act→World→Prop} (h:Nx n G D w0 (wpList P l6.toArray (Exit.then (y5.wp P Q5) Q5) l6) E L φ):Nx n G D w0 ((Code.exit i3).wp P (Exit.then K1 (Exit.then K2 (Exit.inBlock i3 (Exit.then ((Code.seq (Code.region i6 l6.toArray false) y5).wp P Q5) Q4))))) E L φ:=YC (uX (uX (Yr (zO (jr (zt h))))))
theorem y8 {i3:Nat} {l3:List Oper} {y2:Code} {Q2:Exit→Act→World→Prop} {Q1:Exit→Act→World→Prop} (h:Nx n G D w0 (wpList P l3.toArray (Exit.then (y2.wp P Q2) Q2) l3) E L φ):Nx n G D w0 (Code.skip.wp P (Exit.then ((Code.seq (Code.region i3 l3.toArray false) y2).wp P Q2) Q1)) E L φ:=jT (zO (jr (zt h)))
theorem y9 {o0:Array Oper} {x2:Code} {y2:Code} {Q2:Exit→Act→World→Prop} {Q1:Exit→Act→World→Prop} (h:Nx n G D w0 (x2.wp P (Exit.then (y2.wp P Q2) Q2)) E L φ):Nx n G D w0 (wpList P o0 (Exit.then ((Code.seq x2 y2).wp P Q2) Q1) []) E L φ:=zA (zO (jr h))
theorem y10 {i2:Nat} {l2:List Oper} {y1:Code} {y0:Code} {Q0:Exit→Act→World→Prop} (h:Nx n G D w0 (wpList P l2.toArray (Exit.then (y1.wp P (Exit.then (y0.wp P Q0) Q0)) (Exit.then (y0.wp P Q0) Q0)) l2) E L φ):Nx n G D w0 ((Code.seq (Code.seq (Code.region i2 l2.toArray false) y1) y0).wp P Q0) E L φ:=jr (jr (zt h))
theorem y11 {i3:Nat} {i5:Nat} {l5:List Oper} {y4:Code} {y2:Code} {Q2:Exit→Act→World→Prop} {Q1:Exit→Act→World→Prop} (h:Nx n G D w0 (wpList P l5.toArray (Exit.then (y4.wp P (Exit.inBlock i3 (Exit.then (y2.wp P Q2) Q2))) (Exit.inBlock i3 (Exit.then (y2.wp P Q2) Q2))) l5) E L φ):Nx n G D w0 (Code.skip.wp P (Exit.then ((Code.seq (Code.block i3 (Code.seq (Code.region i5 l5.toArray false) y4)) y2).wp P Q2) Q1)) E L φ:=jT (zO (jr (uh (jr (zt h)))))
theorem y12 {o0:Array Oper} {i1:Nat} {Q1:Exit→Act→World→Prop} (h:Nx n G D w0 (Q1 .normal) E L φ):Nx n G D w0 (wpList P o0 (Exit.inBlock i1 Q1) []) E L φ:=zA (Zm h)
theorem y13 {i4:Nat} {l4:List Oper} {y3:Code} {y2:Code} {Q2:Exit→Act→World→Prop} {Q1:Exit→Act→World→Prop} (h:Nx n G D w0 (wpList P l4.toArray (Exit.then (y3.wp P (Exit.then (y2.wp P Q2) Q2)) (Exit.then (y2.wp P Q2) Q2)) l4) E L φ):Nx n G D w0 (Code.skip.wp P (Exit.then ((Code.seq (Code.seq (Code.region i4 l4.toArray false) y3) y2).wp P Q2) Q1)) E L φ:=jT (zO (jr (jr (zt h))))
theorem y14 {i1:Nat} {i3:Nat} {l3:List Oper} {Q3:Exit→Act→World→Prop} {Q2:Exit→Act→World→Prop} (h:Nx n G D w0 (wpList P l3.toArray Q3 l3) E L φ):Nx n G D w0 (Code.skip.wp P (Exit.inBlock i1 (Exit.then ((Code.region i3 l3.toArray false).wp P Q3) Q2))) E L φ:=jT (Zm (zO (zt h)))
theorem y15 {o0:Array Oper} {i1:Nat} {i3:Nat} {l3:List Oper} {Q3:Exit→Act→World→Prop} {Q2:Exit→Act→World→Prop} (h:Nx n G D w0 (wpList P l3.toArray Q3 l3) E L φ):Nx n G D w0 (wpList P o0 (Exit.inBlock i1 (Exit.then ((Code.region i3 l3.toArray false).wp P Q3) Q2)) []) E L φ:=zA (Zm (zO (zt h)))
theorem y16 {o0:Array Oper} {i3:Nat} {K4:Act→World→Prop} {K5:Act→World→Prop} {i6:Nat} {K7:Act→World→Prop} {Q7:Exit→Act→World→Prop} {Q1:Exit→Act→World→Prop} (h:Nx n G D w0 (Q7 .ret) E L φ):Nx n G D w0 (wpList P o0 (Exit.then (Code.ret.wp P (Exit.inBlock i3 (Exit.then K4 (Exit.then K5 (Exit.inBlock i6 (Exit.then K7 Q7)))))) Q1) []) E L φ:=zA (zO (uv (uF (xp (xp (uF (xp h)))))))
theorem y17 {o0:Array Oper} {i2:Nat} {l2:List Oper} {Q2:Exit→Act→World→Prop} {Q1:Exit→Act→World→Prop} (h:Nx n G D w0 (wpList P l2.toArray Q2 l2) E L φ):Nx n G D w0 (wpList P o0 (Exit.then ((Code.region i2 l2.toArray false).wp P Q2) Q1) []) E L φ:=zA (zO (zt h))
theorem y18 {K1:Act→World→Prop} {Q1:Exit→Act→World→Prop} (h:Nx n G D w0 K1 E L φ):Nx n G D w0 (Code.skip.wp P (Exit.then K1 Q1)) E L φ:=jT (zO h)
theorem y19 {o0:Array Oper} {K3:Act→World→Prop} {i4:Nat} {K5:Act→World→Prop} {K6:Act→World→Prop} {i7:Nat} {K8:Act→World→Prop} {Q8:Exit→Act→World→Prop} {Q1:Exit→Act→World→Prop} (h:Nx n G D w0 (Q8 .ret) E L φ):Nx n G D w0 (wpList P o0 (Exit.then (Code.ret.wp P (Exit.then K3 (Exit.inBlock i4 (Exit.then K5 (Exit.then K6 (Exit.inBlock i7 (Exit.then K8 Q8))))))) Q1) []) E L φ:=zA (zO (uv (xp (uF (xp (xp (uF (xp h))))))))
theorem y20 {i0:Nat} {i2:Nat} {l2:List Oper} {y1:Code} {Q0:Exit→Act→World→Prop} (h:Nx n G D w0 (wpList P l2.toArray (Exit.then (y1.wp P (Exit.inBlock i0 Q0)) (Exit.inBlock i0 Q0)) l2) E L φ):Nx n G D w0 ((Code.block i0 (Code.seq (Code.region i2 l2.toArray false) y1)).wp P Q0) E L φ:=uh (jr (zt h))
theorem y21 {i2:Nat} {l2:List Oper} {Q2:Exit→Act→World→Prop} {Q1:Exit→Act→World→Prop} (h:Nx n G D w0 (wpList P l2.toArray Q2 l2) E L φ):Nx n G D w0 (Code.skip.wp P (Exit.then ((Code.region i2 l2.toArray false).wp P Q2) Q1)) E L φ:=jT (zO (zt h))
theorem y22 {i3:Nat} {i4:Nat} {l4:List Oper} {y2:Code} {Q2:Exit→Act→World→Prop} {Q1:Exit→Act→World→Prop} (h:Nx n G D w0 (wpList P l4.toArray (Exit.inBlock i3 (Exit.then (y2.wp P Q2) Q2)) l4) E L φ):Nx n G D w0 (Code.skip.wp P (Exit.then ((Code.seq (Code.block i3 (Code.region i4 l4.toArray false)) y2).wp P Q2) Q1)) E L φ:=jT (zO (jr (uh (zt h))))
theorem y23 {i1:Nat} {Q1:Exit→Act→World→Prop} (h:Nx n G D w0 (Q1 .normal) E L φ):Nx n G D w0 (Code.skip.wp P (Exit.inBlock i1 Q1)) E L φ:=jT (Zm h)
theorem y24 {o0:Array Oper} {i3:Nat} {K4:Act→World→Prop} {Q4:Exit→Act→World→Prop} {Q1:Exit→Act→World→Prop} (h:Nx n G D w0 (Q4 .ret) E L φ):Nx n G D w0 (wpList P o0 (Exit.then (Code.ret.wp P (Exit.inBlock i3 (Exit.then K4 Q4))) Q1) []) E L φ:=zA (zO (uv (uF (xp h))))
theorem y25 {i3:Nat} {x4:Code} {y4:Code} {y2:Code} {Q2:Exit→Act→World→Prop} {Q1:Exit→Act→World→Prop} (h:Nx n G D w0 (x4.wp P (Exit.then (y4.wp P (Exit.inBlock i3 (Exit.then (y2.wp P Q2) Q2))) (Exit.inBlock i3 (Exit.then (y2.wp P Q2) Q2)))) E L φ):Nx n G D w0 (Code.skip.wp P (Exit.then ((Code.seq (Code.block i3 (Code.seq x4 y4)) y2).wp P Q2) Q1)) E L φ:=jT (zO (jr (uh (jr h))))
theorem y26 {o0:Array Oper} {i2:Nat} {i4:Nat} {l4:List Oper} {y3:Code} {Q2:Exit→Act→World→Prop} {Q1:Exit→Act→World→Prop} (h:Nx n G D w0 (wpList P l4.toArray (Exit.then (y3.wp P (Exit.inBlock i2 Q2)) (Exit.inBlock i2 Q2)) l4) E L φ):Nx n G D w0 (wpList P o0 (Exit.then ((Code.block i2 (Code.seq (Code.region i4 l4.toArray false) y3)).wp P Q2) Q1) []) E L φ:=zA (zO (uh (jr (zt h))))
theorem y27 {i3:Nat} {K1:Act→World→Prop} {K2:Act→World→Prop} {i4:Nat} {i6:Nat} {l6:List Oper} {Q6:Exit→Act→World→Prop} {Q5:Exit→Act→World→Prop} (h:Nx n G D w0 (wpList P l6.toArray Q6 l6) E L φ):Nx n G D w0 ((Code.exit i3).wp P (Exit.then K1 (Exit.then K2 (Exit.inBlock i3 (Exit.inBlock i4 (Exit.then ((Code.region i6 l6.toArray false).wp P Q6) Q5)))))) E L φ:=YC (uX (uX (Yr (Zm (zO (zt h))))))
theorem y28 {i3:Nat} {c3:Code} {y2:Code} {Q2:Exit→Act→World→Prop} {Q1:Exit→Act→World→Prop} (h:Nx n G D w0 (c3.wp P (Exit.inBlock i3 (Exit.then (y2.wp P Q2) Q2))) E L φ):Nx n G D w0 (Code.skip.wp P (Exit.then ((Code.seq (Code.block i3 c3) y2).wp P Q2) Q1)) E L φ:=jT (zO (jr (uh h)))
theorem y29 {i0:Nat} {i2:Nat} {l2:List Oper} {Q2:Exit→Act→World→Prop} {Q1:Exit→Act→World→Prop} (h:Nx n G D w0 (wpList P l2.toArray Q2 l2) E L φ):Nx n G D w0 ((Exit.inBlock i0 (Exit.then ((Code.region i2 l2.toArray false).wp P Q2) Q1)) .normal) E L φ:=Zm (zO (zt h))
theorem y30 {i3:Nat} {K1:Act→World→Prop} {K2:Act→World→Prop} {K4:Act→World→Prop} {Q4:Exit→Act→World→Prop} (h:Nx n G D w0 K4 E L φ):Nx n G D w0 ((Code.exit i3).wp P (Exit.then K1 (Exit.then K2 (Exit.inBlock i3 (Exit.then K4 Q4))))) E L φ:=YC (uX (uX (Yr (zO h))))
theorem y31 {i2:Nat} {i3:Nat} {l3:List Oper} {Q2:Exit→Act→World→Prop} {Q1:Exit→Act→World→Prop} (h:Nx n G D w0 (wpList P l3.toArray (Exit.inBlock i2 Q2) l3) E L φ):Nx n G D w0 (Code.skip.wp P (Exit.then ((Code.block i2 (Code.region i3 l3.toArray false)).wp P Q2) Q1)) E L φ:=jT (zO (uh (zt h)))
theorem y32 {i3:Nat} {K1:Act→World→Prop} {K2:Act→World→Prop} {i7:Nat} {l7:List Oper} {y6:Code} {y5:Code} {Q5:Exit→Act→World→Prop} {Q4:Exit→Act→World→Prop} (h:Nx n G D w0 (wpList P l7.toArray (Exit.then (y6.wp P (Exit.then (y5.wp P Q5) Q5)) (Exit.then (y5.wp P Q5) Q5)) l7) E L φ):Nx n G D w0 ((Code.exit i3).wp P (Exit.then K1 (Exit.then K2 (Exit.inBlock i3 (Exit.then ((Code.seq (Code.seq (Code.region i7 l7.toArray false) y6) y5).wp P Q5) Q4))))) E L φ:=YC (uX (uX (Yr (zO (jr (jr (zt h)))))))
end
end
section
open Go.RowKit
section
variable {P:Program} {n:Nat} {G D:Nat→Prop} {w0:World} {Q:Exit→Act→World→Prop} {R:Act→World→Prop} {E:Env} {L M:List Ch} {φ:Prop}
variable {d:Tmp} {ty:TypeId} {pos:String} {aft:Array Edge} {gd:Option (Nat×Bool)} {Tk:Act→World→Prop} {Lr:List Ch} {x y:Operand} {T T' S:TypeId} {e sz by':Nat} {at':Array TypeId}
theorem zgL {ψ:Prop} (h:φ→ψ) (k:Nx n G D w0 R E L ψ):Nx n G D w0 R E L φ:=fun a w hE hm hφ=>k a w hE hm (h hφ)
theorem zhN (M:ui P n G D w0 E ⟨some d,.call {callee:=.builtin .cap,args:=#[x],argTypes:=#[T]},ty,pos,aft,gd⟩ Tk R Lr L) {p:TypeId×Nat×Nat} (hT:elB P T=some p) (hx:oev E x=some (.slice none 0 0)) (hd:Nat.blt d n=true)
  (k:Nx n G D w0 R ((d,.int .i64 0) :: E) L φ):Nx n G D w0 Tk E L φ :=
 M.val hd rfl (fun ρ w hE hm _=>by
  obtain ⟨e,b,c⟩:=p
  obtain ⟨hu,_⟩:=uU hT
  simp [execOp,resolve,invoke,builtin,hE _ _ hx,Builtin.cap_,run_underlying hu,goInt]) id k
theorem zjF (M:ui P n G D w0 E ⟨some d,.slice T x none (some y) none,ty,pos,aft,gd⟩ Tk R Lr L) {a:Option Addr} {l c:Nat} (hT:elB P T=some (e,sz,by')) (hx:oev E x=some (.slice a l c)) (ha:a=none∨∃ b,a=some ⟨b,0,none⟩) (hc:a=none→c=0) (hy:oev E y=some (.int .i64 0)) (hd:Nat.blt d n=true)
  (k:Nx n G D w0 R ((d,.slice a 0 c) :: E) L φ):Nx n G D w0 Tk E L φ :=
 M.val hd rfl (fun ρ w hE hm _=>by
  obtain ⟨hu,inf,hinf,rfl,rfl⟩:=uU hT
  rcases ha with rfl | ⟨b,rfl⟩
  ·obtain rfl:=hc rfl
   simp [execOp,hE _ _ hx,hE _ _ hy,Instr.sliceAt,Instr.slice,Instr.sliceBounds,Instr.sliceBound,asIntOf,run_underlying hu,sizeOf,typeInfo,hinf]
  ·simp [execOp,hE _ _ hx,hE _ _ hy,Instr.sliceAt,Instr.slice,Instr.sliceBounds,Instr.sliceBound,asIntOf,run_underlying hu,sizeOf,typeInfo,hinf,Addr.add]) id k
theorem zkD {α:Type} {El':El α} {N:Int} {zs:List Value} (hx:oev E x=some (.slice none 0 0)) (hy:oev E y=some (.int .i64 N)) (hd:Nat.blt d n=true) (hT:elB P T=some (e,sz,by')) (htn:P.underlying T'=some (.int .i64)) (hby:Nat.ble by' 32768=true) (hzr:uj P e=some zs) (hzl:Nat.beq zs.length sz=true) (hes:El'.size=sz)
  (h0:0<N) (h1:N≤4294967296) (k:∀ b c,Nx n G D w0 R ((d,.slice (some ⟨b,0,none⟩) N.toNat c) :: E) (ze El' e (.slice (some ⟨b,0,none⟩) 0 c) [] :: L) φ) :
  Nx n G D w0 (fun a w=>Oper.wp P ⟨some d,.call {callee:=.builtin .append,args:=#[x,y],argTypes:=#[T,T']},ty,pos,aft,gd⟩ a w R Q) E L φ :=
 Xy hd rfl fun ρ w hE hm hφ=>by
  obtain ⟨hu,inf,hinf,rfl,rfl⟩:=uU hT
  obtain ⟨z',hz',hzc⟩:=yr hzr hinf
  obtain ⟨m,rfl⟩:=Int.eq_ofNat_of_zero_le (show 0≤N by omega)
  have hbl:=Nat.le_of_ble_eq_true hby
  have hl:=Nat.eq_of_beq_eq_true hzl
  have hp:=El'.pos
  have hb:m * inf.bytes≤281474976710656:=by
   have:m * inf.bytes≤4294967296 * 32768:=Nat.mul_le_mul (by omega) hbl
   omega
  have hr:=Lib.run_append_nil_zeros (P:=P) w T T' ty e inf z' .i64 .i64 hu htn hinf hz' m (by omega) (by omega) (by omega) hb
  have hge:=grownCap_ge w m 0 e
  have hcm:grownCap w m 0 e≤maxLen:=grownCap_le_maxLen w m 0 e (by unfold maxLen;omega)
  refine ⟨_,_,_,φ,by simp [execOp,resolve,invoke,builtin,hE _ _ hx,hE _ _ hy,hr];exact ⟨rfl,rfl⟩,?_,hφ,by simpa using k w.heap.size (grownCap w m 0 e)⟩
  refine hm.add _ (((Below.refl _ w).drew).alloc (Nat.le_refl _) _) (fun b hb=>by simp [ze,Value.ownBlock] at hb;rw [World.size_alloc];simp;omega) ?_
  refine ⟨[],trivial,by simp,.inr ⟨w.heap.size,_,_,rfl,Nat.zero_le _,heap_alloc_new w.drew _,Nat.zero_le _,hcm,?_,by simp⟩⟩
  rw [Array.size_append,size_zeroCells,size_zeroCells,hzc,hes]
  simp only [List.size_toArray,hl]
  rw [← Nat.add_mul]
  congr 1
  omega
theorem Rows.drop {α:Type} {El:El α} {F:Nat→Prop} {w:World}:∀ {xs:List α} {css:List (List Value)} (J:Nat),Rows El F w xs css→Rows El F w (xs.drop J) (css.drop J)∧(css.drop J).flatten=css.flatten.drop (J * El.size)
 | [],[],J,h=>by simp [Rows]
 | x :: xs,cs :: css,0,h=>⟨h,by simp⟩
 | x :: xs,cs :: css,J+1,h=>by
  obtain ⟨h1,h2⟩:=Rows.drop (xs:=xs) (css:=css) J h.2
  have hl:=El.len F w x cs h.1
  refine ⟨h1,?_⟩
  simp only [List.drop_succ_cons,List.flatten_cons,h2]
  have e:(J+1) * El.size=cs.length+J * El.size:=by rw [hl,Nat.add_mul];omega
  rw [e,List.drop_length_add_append]
 | [],_ :: _,_,h=>by simp [Rows] at h
 | _ :: _,[],_,h=>by simp [Rows] at h
theorem zet:∀ (vs cs:List Value) (o k:Nat),k≤o→(ZI cs o vs).take k=cs.take k
 | [],_,_,_,_=>rfl
 | v :: r,cs,o,k,h=>by
  rw [ZI,zet r _ _ k (by omega)]
  apply List.ext_getElem?
  intro j
  simp only [List.getElem?_take]
  split
  ·rw [List.getElem?_set_ne (by omega)]
  ·rfl
theorem zjh {α:Type} {El':El α} {v:Value} {xs:List α} (i:Nat) (hi:xa L i=some (ze El' e v xs)) (h:∀ a cap,v=.slice a xs.length cap→xs.length≤cap→((a=none∧cap=0)∨∃ b,a=some ⟨b,0,none⟩)→Nx n G D w0 R E L φ):Nx n G D w0 R E L φ:=fun a w hE hm hφ=>by
 obtain ⟨css,_,_,hv⟩:=(hm.get hi:Own El' e _ w v xs)
 rcases hv with ⟨hv,h0⟩ | ⟨g,cap,cur,hv,_,_,hle,_⟩
 ·exact h none 0 (by rw [hv,h0]) (by omega) (.inl ⟨rfl,rfl⟩) a w hE hm hφ
 ·exact h _ cap hv hle (.inr ⟨g,rfl⟩) a w hE hm hφ
theorem zjX {lo hi mx:Operand} (M:ui P n G D w0 E ⟨some d,.slice T x (some lo) (some hi) (some mx),ty,pos,aft,gd⟩ Tk R Lr L) {a:Option Addr} {l cap:Nat} {I J:Int} (hT:elB P T=some (e,sz,by')) (hx:oev E x=some (.slice a l cap)) (hlo:oev E lo=some (.int .i64 I)) (hhi:oev E hi=some (.int .i64 J)) (hmx:oev E mx=some (.int .i64 l)) (hd:Nat.blt d n=true)
  (hI:0≤I) (hIJ:I≤J) (hJ:J≤l) (hc:l≤cap) (ha:(a=none∧cap=0)∨∃ b,a=some ⟨b,0,none⟩) (k:∀ u,Nx n G D w0 R ((d,u) :: E) L φ):Nx n G D w0 Tk E L φ :=
 M.val (v:=slv a l I.toNat J.toNat sz) hd rfl (fun ρ w hE hm _=>by
  obtain ⟨hu,inf,hinf,rfl,rfl⟩:=uU hT
  have e1:(l:Int)≤(cap:Int):=by omega
  have e2:0≤J:=by omega
  have e3:I≤(J.toNat:Int):=by omega
  have e4:J≤(l:Int):=hJ
  rcases ha with ⟨rfl,rfl⟩ | ⟨b,rfl⟩
  ·obtain rfl:l=0:=by omega
   obtain rfl:J=0:=by omega
   obtain rfl:I=0:=by omega
   simp [slv,execOp,hE _ _ hx,hE _ _ hlo,hE _ _ hhi,hE _ _ hmx,Instr.sliceAt,Instr.slice,Instr.sliceBounds,Instr.sliceBound,asIntOf,run_underlying hu,sizeOf,typeInfo,hinf]
  ·simp [slv,execOp,hE _ _ hx,hE _ _ hlo,hE _ _ hhi,hE _ _ hmx,Instr.sliceAt,Instr.slice,Instr.sliceBounds,Instr.sliceBound,asIntOf,run_underlying hu,sizeOf,typeInfo,hinf,e1,e2,e3,e4,hI,hc,show I≤max J 0 by omega]) id (k _)
theorem zkn (M:ui P n G D w0 E ⟨some d,.slice T x none (some y) none,ty,pos,aft,gd⟩ Tk R Lr L) {b l cap I:Nat} (hT:elB P T=some (e,sz,by')) (hx:oev E x=some (.slice (some ⟨b,0,none⟩) l cap)) (hy:oev E y=some (.int .i64 I)) (hd:Nat.blt d n=true) (hI:I≤cap)
  (k:Nx n G D w0 R ((d,.slice (some ⟨b,0,none⟩) I cap) :: E) L φ):Nx n G D w0 Tk E L φ :=
 M.val hd rfl (fun ρ w hE hm _=>by
  obtain ⟨hu,inf,hinf,rfl,rfl⟩:=uU hT
  have e1:(I:Int)≤(cap:Int):=by omega
  simp [execOp,hE _ _ hx,hE _ _ hy,Instr.sliceAt,Instr.slice,Instr.sliceBounds,Instr.sliceBound,asIntOf,run_underlying hu,sizeOf,typeInfo,hinf,e1,hI,Addr.add_mid,Nat.not_lt.2 hI]) id k
theorem zko (M:ui P n G D w0 E ⟨some d,.slice T x (some y) none none,ty,pos,aft,gd⟩ Tk R Lr L) {b l cap J:Nat} (hT:elB P T=some (e,sz,by')) (hx:oev E x=some (.slice (some ⟨b,0,none⟩) l cap)) (hy:oev E y=some (.int .i64 J)) (hd:Nat.blt d n=true) (hJ:J≤l) (hl:l≤cap)
  (k:Nx n G D w0 R ((d,.slice (some (if cap=J then ⟨b,0,none⟩ else ⟨b,J * sz,none⟩)) (l - J) (cap - J)) :: E) L φ):Nx n G D w0 Tk E L φ :=
 M.val hd rfl (fun ρ w hE hm _=>by
  obtain ⟨hu,inf,hinf,rfl,rfl⟩:=uU hT
  have e1:(J:Int)≤(l:Int):=by omega
  have e2:(l:Int)≤(cap:Int):=by omega
  simp [execOp,hE _ _ hx,hE _ _ hy,Instr.sliceAt,Instr.slice,Instr.sliceBounds,Instr.sliceBound,asIntOf,run_underlying hu,sizeOf,typeInfo,hinf,e1,e2,hJ,hl,Addr.add_mid]
  split <;> rfl) id k
theorem zjY {z:Operand} (M:ui P n G D w0 E ⟨some d,.slice T x (some y) (some z) none,ty,pos,aft,gd⟩ Tk R Lr L) {b l cap I J:Nat} (hT:elB P T=some (e,sz,by')) (hx:oev E x=some (.slice (some ⟨b,0,none⟩) l cap)) (hy:oev E y=some (.int .i64 I)) (hz:oev E z=some (.int .i64 J)) (hd:Nat.blt d n=true) (hI:I<J) (hJ:J≤cap)
  (k:Nx n G D w0 R ((d,.slice (some ⟨b,I * sz,none⟩) (J - I) (cap - I)) :: E) L φ):Nx n G D w0 Tk E L φ :=
 M.val hd rfl (fun ρ w hE hm _=>by
  obtain ⟨hu,inf,hinf,rfl,rfl⟩:=uU hT
  have e1:(I:Int)≤(J:Int):=by omega
  have e2:(J:Int)≤(cap:Int):=by omega
  have e3:¬ cap=I:=by omega
  simp [execOp,hE _ _ hx,hE _ _ hy,hE _ _ hz,Instr.sliceAt,Instr.slice,Instr.sliceBounds,Instr.sliceBound,asIntOf,run_underlying hu,sizeOf,typeInfo,hinf,e1,e2,e3,hJ,show I≤J by omega,Addr.add_mid]) id k
theorem zhI {c c':Ch} {i:Nat} {w w':World} (m:Mem G D w0 L w) (hi:xa L i=some c) (hz:w.heap.size≤w'.heap.size) (hf:∀ b,c'.foot b→c.foot b):∀ b,fz G L w b→fz G (yb L i c') w' b:=fun b hb=>⟨by have:=hb.1;omega,hb.2.1,fun x hx=>by
 rcases ZF hi m.disj hx with e' | ⟨e1,_⟩
 ·subst e';exact fun hk=>hb.2.2 _ (jX hi) (hf b hk)
 ·exact hb.2.2 x e1⟩
theorem zjV {α:Type} {El':El α} {xs:List α} {b I J cap c:Nat} (i:Nat) (hi:xa L i=some (ze El' e (.slice (some ⟨b,0,none⟩) xs.length cap) xs)) (hIJ:I≤J) (hJ:J≤xs.length)
  (hx:oev E x=some (.slice (some ⟨b,0,none⟩) I cap)) (hy:oev E y=some (.slice (some (if cap=J then ⟨b,0,none⟩ else ⟨b,J * sz,none⟩)) (xs.length - J) c)) (hd:Nat.blt d n=true) (hT:elB P T=some (e,sz,by')) (hes:El'.size=sz)
  (k:Nx n G D w0 R ((d,.slice (some ⟨b,0,none⟩) (I+(xs.length - J)) cap) :: E) (yb L i (ze El' e (.slice (some ⟨b,0,none⟩) (I+(xs.length - J)) cap) (xs.take I++xs.drop J))) φ) :
  Nx n G D w0 (fun a w=>Oper.wp P ⟨some d,.call {callee:=.builtin .append,args:=#[x,y],argTypes:=#[T,T]},ty,pos,aft,gd⟩ a w R Q) E L φ :=
 Xy hd rfl fun ρ w hE hm hφ=>by
  obtain ⟨hu,inf,hinf,rfl,rfl⟩:=uU hT
  obtain ⟨css,hr,h0,how⟩:=hm.get hi
  rcases how with ⟨h,_⟩ | ⟨g,cap',cur,h,hg0,hg,hnc,hcm,hcz,htake⟩
  ·cases h
  simp only [Value.slice.injEq,Option.some.injEq,Addr.mk.injEq,true_and] at h
  obtain ⟨⟨rfl,-⟩,rfl⟩:=h
  obtain ⟨r1,r2⟩:=Rows.take I hr
  obtain ⟨r3,r4⟩:=Rows.drop J hr
  have hcl:=hr.length
  have hI:I≤xs.length:=by omega
  have m1:I * El'.size≤xs.length * El'.size:=Nat.mul_le_mul_right _ hI
  have m2:J * El'.size≤xs.length * El'.size:=Nat.mul_le_mul_right _ hJ
  have m3:xs.length * El'.size≤cap * El'.size:=Nat.mul_le_mul_right _ hnc
  have m4:(xs.length - J) * El'.size=xs.length * El'.size - J * El'.size:=Nat.sub_mul _ _ _
  have m5:I * El'.size≤J * El'.size:=Nat.mul_le_mul_right _ hIJ
  have hnl:(css.drop J).flatten.length=(xs.length - J) * inf.size:=by rw [r4,List.length_drop,hcl,hes.symm,m4]
  have hcur:cur.toList.length=cap * El'.size:=by rw [Array.length_toList,hcz]
  have hone:=r3.one
  have hcell:∀ j u,(css.drop J).flatten[j]?=some u→w.cell? ((if cap=J then (⟨b,0,none⟩:Addr) else ⟨b,J * inf.size,none⟩).add j)=some u:=fun j u hj=>by
   have hjl:=(List.getElem?_eq_some_iff.1 hj).1
   rw [r4,← htake,List.getElem?_drop,List.getElem?_take] at hj
   split at hj
   ·rename_i hlt
    have hne:¬ cap=J:=fun e'=>by
     rw [r4,List.length_drop,hcl] at hjl
     subst e'
     omega
    rw [if_neg hne,Addr.add_mid,cell_of_row w b _ cur e (0,0) hg,← hes]
    simpa using hj
   ·cases hj
  have hrun:=run_append_room (P:=P) w T ty e inf hu hinf b I cap cur hg _ (xs.length - J) c _ hnl hcell hone (by omega) (by rw [hnl,← hes,← Array.length_toList,hcur];omega)
  obtain ⟨cs',hcs'⟩:∃ c,c=(cur.toList.take (I * inf.size)++(css.drop J).flatten++cur.toList.drop (I * inf.size+(css.drop J).flatten.length)).toArray:=⟨_,rfl⟩
  rw [← hcs'] at hrun
  refine ⟨_,_,_,φ,by simp [execOp,resolve,invoke,builtin,hE _ _ hx,hE _ _ hy,hrun];first | exact ⟨rfl,rfl⟩ | rfl,?_,hφ,k⟩
  have hup:=setRow_heap w b cur cs' e (0,0) hg
  refine hm.upd hi rfl rfl rfl (by simp) (fun x _ hx=>setRow_other w b x _ (fun e'=>hx (by rw [e'];rfl))) (fun x hx=>⟨?_,.inl hx⟩) ?_
  ·have hx':some b=some x:=hx
   cases hx'
   exact (Array.getElem?_eq_some_iff.1 hup).1
  ·have hfz:=zhI (c':=ze El' e (.slice (some ⟨b,0,none⟩) (I+(xs.length - J)) cap) (xs.take I++xs.drop J)) (w':=w.setRow b cs') hm hi (by simp) (fun _ h=>h)
   have hsame:∀ x,fz G L w x→(w.setRow b cs').heap[x]?=w.heap[x]?:=fun x hx=>setRow_other w b x _ (fun e'=>hx.2.2 _ (jX hi) (by rw [e'];rfl))
   have hln:(xs.take I++xs.drop J).length=I+(xs.length - J):=by simp;omega
   refine ⟨css.take I++css.drop J,Rows.append (r1.keep hfz hsame) (r3.keep hfz hsame),?_,.inr ⟨b,cap,_,by rw [hln],hg0,hup,by omega,hcm,?_,?_⟩⟩
   ·rw [List.flatten_append,List.length_append,r2,hnl,List.length_take,hcl,hln,Nat.add_mul,← hes];omega
   ·rw [hcs',← Array.length_toList]
    simp only [List.length_append,List.length_take,List.length_drop,hnl,hcur,← hes]
    omega
   ·rw [hcs',hln,List.flatten_append,r2,← htake,List.take_take,Nat.min_eq_left m1,← hes,Nat.add_mul]
    rw [List.take_append_of_le_length (by simp only [List.length_append,List.length_take,hnl,hcur,← hes];omega)]
    rw [List.take_of_length_le (by simp only [List.length_append,List.length_take,hnl,hcur,← hes];omega)]
theorem zj6 {α:Type} {El':El α} {ys:List α} {b m cap q c:Nat} {zs:List Value} (i:Nat) (hi:xa L i=some (ze El' e (.slice (some ⟨b,0,none⟩) m cap) ys)) (hq:m+q≤cap) (hq0:0<q) (hx:oev E x=some (.slice (some ⟨b,m * sz,none⟩) q c)) (hT:elB P T=some (e,sz,by')) (hes:El'.size=sz) (hzr:uj P e=some zs) (hzl:Nat.beq zs.length sz=true) (hone:zs.all (·.oneCell')=true)
  (k:Nx n G D w0 R E L φ):Nx n G D w0 (fun a w=>Oper.wp P ⟨none,.call {callee:=.builtin .clear,args:=#[x],argTypes:=#[T]},ty,pos,aft,gd⟩ a w R Q) E L φ:=fun a w hE hm hφ=>by
 obtain ⟨hu,inf,hinf,rfl,rfl⟩:=uU hT
 obtain ⟨z',hz',hzc⟩:=yr hzr hinf
 obtain ⟨css,hr,h0,how⟩:=hm.get hi
 have hl:=Nat.eq_of_beq_eq_true hzl
 rcases how with ⟨h,_⟩ | ⟨g,cap',cur,h,hg0,hg,hnc,hcm,hcz,htake⟩
 ·cases h
 simp only [Value.slice.injEq,Option.some.injEq,Addr.mk.injEq] at h
 obtain ⟨⟨rfl,-,-⟩,rfl,rfl⟩:=h
 have m1:(ys.length+q) * El'.size≤cap * El'.size:=Nat.mul_le_mul_right _ hq
 have hb:w.heap[b]?=some (.cells cur.toList.toArray e (0,0)):=by simpa using hg
 have hcl:cur.toList.length=cap * El'.size:=by rw [Array.length_toList,hcz]
 have hzs:(Builtin.zeroCells z'.cells q).toList.length=q * El'.size:=by rw [Array.length_toList,size_zeroCells,hzc,hes];simp [hl]
 have hth:=Zv (b:=b) (o:=ys.length * El'.size) (sz:=q * El'.size) hb (by rw [hcl,← Nat.add_mul];exact m1)
 have hst:=run_storeCells_cells (P:=P) b (ys.length * El'.size) (Builtin.zeroCells z'.cells q).toList 0 w (fun j hj=>by simpa using (hth j (by rw [hzs] at hj;exact hj)).1) (fun j hj=>by simpa using (hth j (by rw [hzs] at hj;exact hj)).2) (fun v hv=>by
  have hv':v∈Builtin.zeroCells z'.cells q:=by simpa using hv
  unfold Builtin.zeroCells at hv'
  obtain ⟨j,hj,rfl⟩:=Array.mem_map.1 hv'
  rw [hzc]
  have hp:=El'.pos
  have hlt:j % zs.toArray.size<zs.length:=by simpa using Nat.mod_lt j (show 0<zs.toArray.size by simp;omega)
  rw [getElem!_pos zs.toArray _ (by simpa using hlt)]
  exact List.all_eq_true.1 hone _ (by simp))
 simp only [Nat.add_zero] at hst
 have hx':=hE.eval hx
 have hrun:(execOp a.eval ⟨none,.call {callee:=.builtin .clear,args:=#[x],argTypes:=#[T]},ty,pos,aft,gd⟩).run P w=.ok (.value (.tuple #[])) (w.setCells b (ys.length * El'.size) (Builtin.zeroCells z'.cells q).toList):=by
  rw [← hes] at hx'
  obtain ⟨q',rfl⟩:∃ q',q=q'+1:=⟨q - 1,by omega⟩
  simp [execOp,resolve,invoke,builtin,hx',Builtin.clear_,run_underlying hu,zeroValue,typeInfo,hinf,hz',hst]
 show Oper.upon P _ a R Q _
 rw [hrun,Oper.upon_value]
 obtain ⟨s1,s2,s3⟩:=yh b (Builtin.zeroCells z'.cells q).toList (ys.length * El'.size) w
 have hid:∀ {L:List Ch} {i:Nat} {c:Ch},xa L i=some c→yb L i c=L:=by
  intro L
  induction L with
  | nil=>intro i c h;rfl
  | cons d r ih=>intro i c h;cases i with
   | zero=>simp [xa] at h;subst h;rfl
   | succ i=>simp [xa] at h;simp [yb,ih h]
 refine k _ _ (hE.put_none _) ?_ hφ
 have hup:=yO b e (0,0) (Builtin.zeroCells z'.cells q).toList (ys.length * El'.size) cur.toList w hb
 have:=hm.upd (c':=ze El' e (.slice (some ⟨b,0,none⟩) ys.length cap) ys) hi s1 s2 s3 (by rw [jU];exact Nat.le_refl _) (fun x _ hx=>xB b _ _ _ _ (fun e'=>hx (by rw [e'];rfl))) (fun x hx=>⟨by
   have hx':some b=some x:=hx
   cases hx'
   rw [jU]
   exact (Array.getElem?_eq_some_iff.1 hg).1,.inl hx⟩) (by
  have hfz:=zhI (c':=ze El' e (.slice (some ⟨b,0,none⟩) ys.length cap) ys) (w':=w.setCells b (ys.length * El'.size) (Builtin.zeroCells z'.cells q).toList) hm hi (by rw [jU];exact Nat.le_refl _) (fun _ h=>h)
  refine ⟨css,hr.keep hfz (fun x hx=>xB b _ _ _ _ (fun e'=>hx.2.2 _ (jX hi) (by rw [e'];rfl))),h0,.inr ⟨b,cap,_,rfl,hg0,hup,hnc,hcm,by simpa [Z5] using hcz,?_⟩⟩
  simp only [zet _ _ _ _ (Nat.le_refl _)]
  exact htake)
 rw [hid hi] at this
 exact this
end
end
section
open Go.RowKit
section
variable {P:Program} {n:Nat} {G D:Nat→Prop} {w0:World} {Q:Exit→Act→World→Prop} {R:Act→World→Prop} {E:Env} {L M:List Ch} {φ:Prop}
variable {d:Tmp} {ty:TypeId} {pos:String} {aft:Array Edge} {gd:Option (Nat×Bool)} {Tk:Act→World→Prop} {Lr:List Ch} {x y:Operand} {T T' S:TypeId} {e sz by':Nat} {at':Array TypeId}
theorem Mem.putObj {i b:Nat} {o o':Obj} {w:World} (m:Mem G D w0 L w) (hi:xa L i=some (uR b o)):Mem G D w0 (yb L i (uR b o')) (w.putObj b o'):=by
 have hb:w.heap[b]?=some o:=m.get hi
 have hlt:=(Array.getElem?_eq_some_iff.1 hb).1
 refine m.upd hi rfl rfl rfl (by simp) (fun x _ hx=>World.putObj_heap_other (fun e=>hx e)) (fun x hx=>⟨?_,.inl hx⟩) (World.putObj_heap_same hlt)
 have hx':x=b:=hx
 subst hx'
 simpa using hlt
theorem zi2 {l i:Nat} {rc:Loop} {Kb:Act→World→Prop} (hi:xa L i=some (uR l (.loop rc))) (hr:rc.state=.ready) (k:Nx n G D w0 Kb E (yb L i (uR l (.loop {rc with state:=.busy}))) φ) :
  Nx n G D w0 (fun a w=>∃ w₂,(Instr.beginRound l).run P w=.ok () w₂∧Kb a w₂) E L φ:=fun a w hE hm hφ =>
 ⟨_,run_beginRound (P:=P) (hm.get hi) hr,k a _ hE (hm.putObj hi) hφ⟩
theorem Mem.absLoop {l:Nat} {rc0:Loop} {w:World} (m:Mem G D w0 (uR l (.loop rc0) :: L) w):∃ rc,rc=rc0∧Mem G D w0 (uR l (.loop rc) :: L) w:=⟨rc0,rfl,m⟩
theorem zkT {l i:Nat} {rc:Loop} {Rr:Ending→World→Prop} (hi:xa L i=some (uR l (.loop rc))) (h:∀ w,Mem G D w0 (yb L i (uR l (.loop {rc with state:=.ready,pending:=none}))) w→φ→Rr (.returned (.bool true)) w) :
  Nx n G D w0 (roundPost P l Rr .normal) E L φ:=fun a w hE hm hφ =>
 ⟨_,_,run_endRound (P:=P) none (hm.get hi),h _ (hm.putObj hi) hφ⟩
theorem zku {l i:Nat} {rc:Loop} {Rr:Ending→World→Prop} (hi:xa L i=some (uR l (.loop rc))) (h:∀ w,Mem G D w0 (yb L i (uR l (.loop {rc with state:=.done,pending:=some .ret}))) w→φ→Rr (.returned (.bool false)) w) :
  Nx n G D w0 (roundPost P l Rr .ret) E L φ:=fun a w hE hm hφ =>
 ⟨_,_,run_endRound (P:=P) (some .ret) (hm.get hi),h _ (hm.putObj hi) hφ⟩
theorem Mem.laid {w:World} (o:Obj) (m:Mem G D w0 L w):Mem G D w0 (uR w.heap.size o :: L) (w.alloc o) :=
 m.add _ ((Below.refl _ _).alloc (Nat.le_refl _) _) (fun b hb=>by have hb':b=w.heap.size:=hb;subst hb';simp) (World.alloc_heap_new w o)
theorem zjc {g:Operand} {ps:Array Tmp} {assign body:Code} {gf:Nat} {lb:List Value} (hg:oev E g=some (.func (.func gf) #[] lb.toArray)) (eg:∀ args w,(callFunc gf args).run P w=.ok (.enter gf args) w)
  (h:∀ (a:Act) (w:World) (fn:FuncId) (l D0:Nat),Has n E a→Mem G D w0 (uR l (.loop {state:=.ready,pending:=none,fn,tmps:=a.tmps,params:=ps,assign,body,defers:=D0}) :: uR D0 (.deferred (some [])) :: L) w→φ →
   Calls P gf (.func (.yield l) #[] #[] :: lb).toArray w (rangePost Fence.wide 3 P l Q {a with defers:=[{target:=.collected D0,args:=#[]}]})):Nx n G D w0 ((Code.rangeFunc g ps assign body).wp P Q) E L φ:=fun a w hE hm hφ=>by
 refine (wpIn_wide (n:=3)).1 (wpIn_rangeFunc fun fn _=>?_)
 have hgv:=hE.eval hg
 have hcall:=h a ((w.alloc (.deferred (some []))).alloc (.loop {state:=.ready,pending:=none,fn,tmps:=a.tmps,params:=ps,assign,body,defers:=w.heap.size})) fn (w.heap.size+1) w.heap.size hE (by
  have:=(hm.laid (.deferred (some []))).laid (.loop {state:=.ready,pending:=none,fn,tmps:=a.tmps,params:=ps,assign,body,defers:=w.heap.size})
  rwa [World.size_alloc] at this) hφ
 have hrun:=run_enterLoop_outer (P:=P) (w:=w) fn a.tmps ps assign body
 generalize (w.alloc (.deferred (some []))).alloc (.loop {state:=.ready,pending:=none,fn,tmps:=a.tmps,params:=ps,assign,body,defers:=w.heap.size})=W1 at hcall hrun
 refine ⟨w.heap.size+1,[{target:=.collected w.heap.size,args:=#[]}],W1,{target:=.fn (.func gf) lb.toArray,args:=#[.func (.yield (w.heap.size+1)) #[] #[]]},W1,gf,
  (.func (.yield (w.heap.size+1)) #[] #[] :: lb).toArray,W1,hrun,?_,fun f' _=>trivial,?_,fun e=>by simp [Fence.wide] at e,?_⟩
 ·simp only [resolve,hgv]
  simp [go_sem]
 ·simp [invoke,go_sem,eg]
 ·have hd:=hE.defers
  rw [hd]
  exact callsIn_wide.2 hcall
theorem zeB {l i:Nat} {rc:Loop} {a':Act} {v:Value} {w:World} (m:Mem G D w0 L w) (hi:xa L i=some (uR l (.loop rc))) (hb:rc.state≠.busy)
  (h:∀ w',Mem G D w0 (yb L i (uR l (.loop {rc with state:=.exhausted}))) w'→(match rc.pending with | none=>Q .normal a' w' | some c=>c.wpIn Fence.wide 3 P Q a' w')):rangePost Fence.wide 3 P l Q a' (.returned v) w :=
 ⟨_,_,run_endLoop (P:=P) (m.get hi) hb,h _ (m.putObj hi)⟩
theorem zkR {ds:List Deferred} {ops:Array Oper} {rest:List Oper} {dst:Option Tmp} {op:Op} (hne:∀ ρ w dd w',(execOp ρ ⟨dst,op,ty,pos,aft,none⟩).run P w≠.ok (.defer dd) w') (h:Nx n G D w0 (fun a w=>Oper.wp P ⟨dst,op,ty,pos,aft,none⟩ a w (fun a w=>wpList P ops Q rest {a with defers:=ds} w) (fun _ _ _=>False)) E L φ) :
  Nx n G D w0 (fun a w=>wpList P ops Q (⟨dst,op,ty,pos,aft,none⟩ :: rest) {a with defers:=ds} w) E L φ:=fun a w hE hm hφ=>by
 show wpList P ops Q (⟨dst,op,ty,pos,aft,none⟩ :: rest) {a with defers:=ds} w
 unfold wpList
 rw [if_pos (by simp [Region.wanted])]
 refine .inl ?_
 have h':Oper.upon P ⟨dst,op,ty,pos,aft,none⟩ a (fun a w=>wpList P ops Q rest {a with defers:=ds} w) (fun _ _ _=>False) ((execOp a.eval ⟨dst,op,ty,pos,aft,none⟩).run P w):=h a w hE hm hφ
 show Oper.upon P ⟨dst,op,ty,pos,aft,none⟩ {a with defers:=ds} (wpList P ops Q rest) Q ((execOp a.eval ⟨dst,op,ty,pos,aft,none⟩).run P w)
 have hne':=hne a.eval w
 revert h' hne'
 generalize (execOp a.eval ⟨dst,op,ty,pos,aft,none⟩).run P w=r
 intro h' hne'
 have hp:∀ v,({a with defers:=ds}:Act).put dst v={a.put dst v with defers:=ds}:=fun v=>by cases dst <;> rfl
 cases r with
 | ok x w' =>
  cases x <;> simp only [Oper.upon,hp] at h' ⊢ <;> first | exact h' | exact absurd rfl (hne' _ _) | (refine Calls.mono h' ?_;intro e w'' hh;cases e <;> first | exact hh | exact False.elim hh | (obtain ⟨_,_,hh⟩:=hh;exact hh.elim)) | (refine Rows.mono h' ?_;intro e w'' hh;exact hh) | exact False.elim h'
 | halt x w'=>cases x <;> first | exact h' | exact False.elim h'
theorem stD {ds:List Deferred} {ops:Array Oper} {rest:List Oper} {dst:Option Tmp} {op:Op}:ui P n G D w0 E ⟨dst,op,ty,pos,aft,none⟩ (fun a w=>wpList P ops Q (⟨dst,op,ty,pos,aft,none⟩ :: rest) {a with defers:=ds} w) (fun a w=>wpList P ops Q rest {a with defers:=ds} w) L L :=
 ⟨fun hd ho hr hψ k=>fun a w hE hm hφ=>by
  show wpList P ops Q (⟨dst,op,ty,pos,aft,none⟩ :: rest) {a with defers:=ds} w
  unfold wpList
  rw [if_pos (by simp [Region.wanted])]
  refine .inl ?_
  show Oper.upon P _ _ _ Q ((execOp a.eval ⟨dst,op,ty,pos,aft,none⟩).run P w)
  rw [hr a.eval w (fun x v h=>hE.eval h) hm hφ,Oper.upon_value,ho]
  exact k _ _ (hE.put hd _) hm (hψ hφ)⟩
theorem zfV {T:TypeId} {x y:Operand}:∀ ρ w dd w',(execOp ρ ⟨none,.store T x y,ty,pos,aft,none⟩).run P w≠.ok (.defer dd) w':=fun ρ w dd w' h=>by
 simp only [execOp] at h
 rw [Sem.run_bind] at h
 cases hr:(Instr.storeAt T (ρ x) (ρ y)).run P w with
 | ok u w2=>rw [hr] at h;simp [Result.andThen] at h
 | halt u w2=>rw [hr] at h;simp [Result.andThen] at h
theorem zhr {ds:List Deferred} {id:Nat} {l:List Oper} (h:Nx n G D w0 (fun a w=>wpList P l.toArray Q l {a with defers:=ds} w) E L φ):Nx n G D w0 (fun a w=>(Code.region id l.toArray false).wp P Q {a with defers:=ds} w) E L φ:=fun a w hE hm hφ=>wp_region_lit (h a w hE hm hφ)
theorem zky {ds:List Deferred} {x y:Code} (h:Nx n G D w0 (fun a w=>x.wp P (Exit.then (y.wp P Q) Q) {a with defers:=ds} w) E L φ):Nx n G D w0 (fun a w=>(Code.seq x y).wp P Q {a with defers:=ds} w) E L φ:=fun a w hE hm hφ=>wp_seq (h a w hE hm hφ)
theorem zkf {ds:List Deferred} (h:Nx n G D w0 (fun a w=>Q .ret {a with defers:=ds} w) E L φ):Nx n G D w0 (fun a w=>Code.ret.wp P Q {a with defers:=ds} w) E L φ:=fun a w hE hm hφ=>wp_ret (h a w hE hm hφ)
theorem zgY {M0:List Ch} {ρ ν:Type} {F:Nat→Prop} {fn:Func} {q q2:ResultVar} {v v2:Value} {κ:ρ→Prop} {val:ρ→ν→Value} {N:ρ→ν→List Ch} {D0 i:Nat} (hi:xa L i=some (uR D0 (.deferred (some [])))) (hres:fn.results=#[q,q2]) (r:ρ) (u:ν)
  (hs:Rv P n G (xZ M0) w0 E (yb L i (uR D0 (.deferred none))) q v) (ht:Rv P n G (xZ M0) w0 E (yb L i (uR D0 (.deferred none))) q2 v2) (hv:val r u=.tuple #[v,v2])
  (hN:∀ w,Mem G (xZ M0) w0 (yb L i (uR D0 (.deferred none))) w→zN M0 F w0 w (N r u)):Nx n G (xZ M0) w0 (fun a w=>bodyPostM Fence.wide 3 P fn (Ret M0 F w0 κ val N) .ret {a with defers:=[{target:=.collected D0,args:=#[]}]} w) E L (κ r):=fun a w hE hm hφ=>by
 have hk:=hm.putObj (o':=.deferred none) hi
 refine ⟨by simp,.inl ⟨D0,_,rfl,run_takeDeferred (P:=P) (hm.get hi),?_⟩⟩
 exact ⟨val r u,by simp [UA,hres,hs a _ hE hk,ht a _ hE hk,hv],r,u,hφ,rfl,hk.updD,hN _ hk⟩
theorem zkz {F:Nat→Prop} {f:Nat} {fn:Func} {c:Code} {args:List Value} {K:Ending→World→Prop} (M0:List Ch) (hF:∀ b,F b→b<w0.heap.size∧¬ xZ M0 b) (hg:ub M0 F w0) (hf:P.funcs[f]?=some fn) (hb:fn.body=some c) (hn:fn.ntmps=n) (hle:Nat.ble args.length n=true)
  (hφ:φ) (h:Nx n (gB F M0 w0) (xZ M0) w0 (c.wp P (bodyPostM Fence.wide 3 P fn K)) (VK 0 args) (M0++[zh w0 F]) φ):Calls P f args.toArray w0 K:=by
 have hle':=Nat.le_of_ble_eq_true hle
 refine (callsIn_wide (n:=3)).1 (callsIn_of_wp_marks hf hb trivial (wpIn_wide.2 ?_))
 have hfoot:∀ c∈[zh w0 F],∀ b,¬ c.foot b:=fun c hc b h=>by simp only [List.mem_cons,List.not_mem_nil,or_false] at hc;subst hc;exact h
 have hh:∀ c∈[zh w0 F],c.holds F w0:=fun c hc=>by simp only [List.mem_cons,List.not_mem_nil,or_false] at hc;subst hc;exact ⟨fun _ h=>h,fun _ _=>rfl⟩
 refine h _ _ ?_ ?_ hφ
 ·rw [hn]
  have:=Has.enter (args:=args) (f:=n - args.length) (n:=n) (by omega) (VK 0 args) (fun s v hs=>by have:=zbU args 0 s v hs;simpa using this.2)
  simpa using this
 ·have hfz:∀ b,F b→fz (gB F M0 w0) (M0++[zh w0 F]) w0 b:=fun b hb=>⟨(hF b hb).1,.inl hb,fun d hd hk=>by
   rcases List.mem_append.1 hd with e | e
   ·exact (hF b hb).2 ⟨d,e,hk⟩
   ·exact hfoot d e b hk⟩
  refine Mem.start w0 _ _ (M0++[zh w0 F]) (fun b h=>.inr h) (fun c hc b hb=>?_) ?_ (fun c hc=>?_)
  ·rcases List.mem_append.1 hc with e | e
   ·exact ⟨hg.lt c e b hb,c,e,hb⟩
   ·exact absurd hb (hfoot c e b)
  ·exact List.pairwise_append.2 ⟨hg.disj,by simp,fun c _ d hd b _ h2=>hfoot d hd b h2⟩
  ·rcases List.mem_append.1 hc with e | e
   ·exact c.keep _ _ w0 w0 hfz (fun _ _=>rfl) (hg.hold c e)
   ·exact c.keep _ _ w0 w0 hfz (fun _ _=>rfl) (hh c e)
end
end
section
open Go.RowKit
theorem xD:zdX Tryz.prog 137=some (4,90,false,1):=by kernel_rfl
theorem zc2:zdX Tryz.prog 152=some (4,3,false,1):=by kernel_rfl
theorem zkm:zdX Tryz.prog 163=some (4,162,true,2):=by kernel_rfl
theorem zig:zdX Tryz.prog 203=some (5,4,false,1):=by kernel_rfl
theorem zgA:zdX Tryz.prog 204=some (5,3,false,1):=by kernel_rfl
theorem zdu:zck Tryz.prog 101=some (#[(0,1),(1,1)],[(.slice none 0 0),(.bool false)]):=by kernel_rfl
theorem zdp:zkE Tryz.prog 137=some (1,[(.slice none 0 0),(.slice none 0 0),(.slice none 0 0),(.slice none 0 0)]):=by kernel_rfl
theorem zhQ:zck Tryz.prog 146=some (#[(0,4),(4,1)],[(.slice none 0 0),(.slice none 0 0),(.slice none 0 0),(.slice none 0 0),(.bool false)]):=by kernel_rfl
theorem zkw:zck Tryz.prog 169=some (#[(0,1),(1,1),(2,1)],[(.slice none 0 0),(.slice none 0 0),(.bool false)]):=by kernel_rfl
theorem zic:zck Tryz.prog 262=some (#[(0,1)],[(.bool false)]):=by kernel_rfl
theorem zj4:zck Tryz.prog 264=some (#[(0,1)],[(.int .i64 0)]):=by kernel_rfl
theorem zkr:zck Tryz.prog 266=some (#[],[]):=by kernel_rfl
theorem zj3:zck Tryz.prog 267=some (#[],[]):=by kernel_rfl
theorem zjJ:zck Tryz.prog 34=some (#[(0,1),(1,1),(2,1),(3,1)],[(.int .i64 0),(.int .i64 0),(.int .i64 0),(.int .i64 0)]):=by kernel_rfl
theorem UC:zck Tryz.prog 89=some (#[(0,1),(1,1)],[(.int .i64 0),(.int .i64 0)]):=by kernel_rfl
theorem zaq:zck Tryz.prog 94=some (#[(0,1)],[(.slice none 0 0)]):=by kernel_rfl
theorem zef:elB Tryz.prog 177=some (232,3,40):=by kernel_rfl
theorem Zw:elB Tryz.prog 23=some (47,1,24):=by kernel_rfl
theorem zgW:elB Tryz.prog 230=some (295,4,32):=by kernel_rfl
theorem zdy:elB Tryz.prog 271=some (82,1,24):=by kernel_rfl
theorem zgZ:elB Tryz.prog 280=some (4,1,1):=by kernel_rfl
theorem xQ:elB Tryz.prog 30=some (101,2,32):=by kernel_rfl
theorem Zu:elB Tryz.prog 36=some (94,1,24):=by kernel_rfl
theorem zaz:elB Tryz.prog 39=some (3,1,8):=by kernel_rfl
theorem XI:elB Tryz.prog 47=some (77,3,40):=by kernel_rfl
theorem zha:elB Tryz.prog 50=some (177,1,24):=by kernel_rfl
theorem Ub:elB Tryz.prog 75=some (165,4,32):=by kernel_rfl
theorem yQ:elB Tryz.prog 79=some (146,5,104):=by kernel_rfl
theorem Z6:elB Tryz.prog 82=some (137,4,96):=by kernel_rfl
theorem jA:elB Tryz.prog 90=some (89,2,16):=by kernel_rfl
theorem yL:elB Tryz.prog 92=some (90,1,24):=by kernel_rfl
theorem ziC (x y:Operand) (a0:Int) (a1:Int) (b0:Int) (b1:Int) (w:World):(do eqGuard .neq 89 x y (.agg #[(.int .i64 a0),(.int .i64 a1)]) (.agg #[(.int .i64 b0),(.int .i64 b1)]);binOp .neq 89 (.agg #[(.int .i64 a0),(.int .i64 a1)]) (.agg #[(.int .i64 b0),(.int .i64 b1)]):Sem Value).run Tryz.prog w=.ok (.bool (!decide ((zd.mk a0 a1)=(zd.mk b0 b1)))) w:=by
 simp [go_sem,binOp,Op.equal,Op.maxDepth]
 repeat' split
 all_goals simp_all
theorem Xi:Z4 Tryz.prog 101 0=some (0,true,1):=by kernel_rfl
theorem Y0:Z4 Tryz.prog 101 1=some (1,false,1):=by kernel_rfl
theorem U4:Z4 Tryz.prog 146 0=some (0,true,4):=by kernel_rfl
theorem zbg:Z4 Tryz.prog 146 1=some (4,false,1):=by kernel_rfl
theorem zhS:Z4 Tryz.prog 162 1=some (1,false,1):=by kernel_rfl
theorem yp:Z4 Tryz.prog 165 0=some (0,false,1):=by kernel_rfl
theorem Xg:Z4 Tryz.prog 165 1=some (1,false,1):=by kernel_rfl
theorem ZD:Z4 Tryz.prog 165 2=some (2,false,1):=by kernel_rfl
theorem U0:Z4 Tryz.prog 165 3=some (3,false,1):=by kernel_rfl
theorem zhx:Z4 Tryz.prog 169 0=some (0,false,1):=by kernel_rfl
theorem zaY:Z4 Tryz.prog 169 1=some (1,false,1):=by kernel_rfl
theorem XG:Z4 Tryz.prog 169 2=some (2,false,1):=by kernel_rfl
theorem zfz:Z4 Tryz.prog 232 0=some (0,false,1):=by kernel_rfl
theorem zhV:Z4 Tryz.prog 232 1=some (1,false,1):=by kernel_rfl
theorem ziJ:Z4 Tryz.prog 232 2=some (2,false,1):=by kernel_rfl
theorem x8:Z4 Tryz.prog 25 0=some (0,false,1):=by kernel_rfl
theorem zbt:Z4 Tryz.prog 25 1=some (1,false,1):=by kernel_rfl
theorem zhB:Z4 Tryz.prog 262 0=some (0,false,1):=by kernel_rfl
theorem ziN:Z4 Tryz.prog 264 0=some (0,false,1):=by kernel_rfl
theorem zhE:Z4 Tryz.prog 295 0=some (0,false,1):=by kernel_rfl
theorem zhF:Z4 Tryz.prog 295 1=some (1,false,1):=by kernel_rfl
theorem zhZ:Z4 Tryz.prog 295 2=some (2,false,1):=by kernel_rfl
theorem zh2:Z4 Tryz.prog 295 3=some (3,false,1):=by kernel_rfl
theorem zgR:Z4 Tryz.prog 52 0=some (0,false,1):=by kernel_rfl
theorem zjd:Z4 Tryz.prog 52 1=some (1,false,1):=by kernel_rfl
theorem YY:Z4 Tryz.prog 77 0=some (0,false,1):=by kernel_rfl
theorem ZS:Z4 Tryz.prog 77 1=some (1,false,1):=by kernel_rfl
theorem Zp:Z4 Tryz.prog 77 2=some (2,false,1):=by kernel_rfl
theorem yv:Z4 Tryz.prog 89 0=some (0,false,1):=by kernel_rfl
theorem xO:Z4 Tryz.prog 89 1=some (1,false,1):=by kernel_rfl
theorem xq:Z4 Tryz.prog 94 0=some (0,false,1):=by kernel_rfl
theorem zc1 (v:Value) (w:World):(method (Tryz.prog.types.size+Made.depth) 262 v "loop.example/packetfilter/impl.unfold").run Tryz.prog w=.ok (279,v) w:=by kernel_rfl
theorem zc6 (v:Value) (w:World):(method (Tryz.prog.types.size+Made.depth) 264 v "loop.example/packetfilter/impl.unfold").run Tryz.prog w=.ok (282,v) w:=by kernel_rfl
theorem zcX (v:Value) (w:World):(method (Tryz.prog.types.size+Made.depth) 266 v "loop.example/packetfilter/impl.unfold").run Tryz.prog w=.ok (285,v) w:=by kernel_rfl
theorem zdb (v:Value) (w:World):(method (Tryz.prog.types.size+Made.depth) 267 v "loop.example/packetfilter/impl.unfold").run Tryz.prog w=.ok (288,v) w:=by kernel_rfl
theorem zir:∀ v w,(Instr.makeInterface 262 v).run Tryz.prog w=.ok (.iface 262 v) w:=fun v w=>by kernel_rfl
theorem zkc:∀ v w,(Instr.makeInterface 264 v).run Tryz.prog w=.ok (.iface 264 v) w:=fun v w=>by kernel_rfl
theorem zkh:∀ v w,(Instr.makeInterface 266 v).run Tryz.prog w=.ok (.iface 266 v) w:=fun v w=>by kernel_rfl
theorem zjZ:∀ v w,(Instr.makeInterface 267 v).run Tryz.prog w=.ok (.iface 267 v) w:=fun v w=>by kernel_rfl
theorem zlj:∀ v w,(Instr.makeInterface 9 v).run Tryz.prog w=.ok (.iface 9 v) w:=fun v w=>by kernel_rfl
theorem Ut:tyB Tryz.prog 101=some (true,2):=by kernel_rfl
theorem jF:tyB Tryz.prog 137=some (true,4):=by kernel_rfl
theorem zdm:tyB Tryz.prog 146=some (true,5):=by kernel_rfl
theorem zkQ:tyB Tryz.prog 152=some (true,4):=by kernel_rfl
theorem Uv:tyB Tryz.prog 165=some (true,4):=by kernel_rfl
theorem zjw:tyB Tryz.prog 177=some (false,1):=by kernel_rfl
theorem zkM:tyB Tryz.prog 203=some (true,5):=by kernel_rfl
theorem YE:tyB Tryz.prog 23=some (false,1):=by kernel_rfl
theorem zjR:tyB Tryz.prog 230=some (false,1):=by kernel_rfl
theorem zjv:tyB Tryz.prog 232=some (true,3):=by kernel_rfl
theorem Uj:tyB Tryz.prog 25=some (true,2):=by kernel_rfl
theorem zkP:tyB Tryz.prog 295=some (true,4):=by kernel_rfl
theorem ty3:tyB Tryz.prog 3=some (false,1):=by kernel_rfl
theorem zfS:tyB Tryz.prog 30=some (false,1):=by kernel_rfl
theorem zgi:tyB Tryz.prog 34=some (true,4):=by kernel_rfl
theorem ty4:tyB Tryz.prog 4=some (false,1):=by kernel_rfl
theorem zag:tyB Tryz.prog 47=some (false,1):=by kernel_rfl
theorem zkH:tyB Tryz.prog 50=some (false,1):=by kernel_rfl
theorem zhH:tyB Tryz.prog 52=some (true,2):=by kernel_rfl
theorem zdY:tyB Tryz.prog 75=some (false,1):=by kernel_rfl
theorem Y7:tyB Tryz.prog 77=some (true,3):=by kernel_rfl
theorem zhd:tyB Tryz.prog 79=some (false,1):=by kernel_rfl
theorem zcr:tyB Tryz.prog 82=some (false,1):=by kernel_rfl
theorem zbj:tyB Tryz.prog 89=some (true,2):=by kernel_rfl
theorem xE:tyB Tryz.prog 90=some (false,1):=by kernel_rfl
theorem Zk:tyB Tryz.prog 92=some (false,1):=by kernel_rfl
theorem xv:tyB Tryz.prog 94=some (true,1):=by kernel_rfl
theorem x6:Tryz.prog.underlying 3=some (.int .i64):=by kernel_rfl
theorem zdI:Tryz.prog.underlying 4=some .bool:=by kernel_rfl
theorem zlf:Tryz.prog.underlying 79=some (.slice 146):=by kernel_rfl
theorem jQ:uj Tryz.prog 101=some [(.slice none 0 0),(.bool false)]:=by kernel_rfl
theorem xM:uj Tryz.prog 137=some [(.slice none 0 0),(.slice none 0 0),(.slice none 0 0),(.slice none 0 0)]:=by kernel_rfl
theorem Xo:uj Tryz.prog 146=some [(.slice none 0 0),(.slice none 0 0),(.slice none 0 0),(.slice none 0 0),(.bool false)]:=by kernel_rfl
theorem zja:uj Tryz.prog 152=some [(.int .i64 0),(.int .i64 0),(.int .i64 0),(.int .i64 0)]:=by kernel_rfl
theorem Vf:uj Tryz.prog 165=some [(.int .i64 0),(.int .i64 0),(.int .i64 0),(.bool false)]:=by kernel_rfl
theorem ziW:uj Tryz.prog 203=some [(.bool false),(.bool false),(.bool false),(.bool false),(.bool false)]:=by kernel_rfl
theorem zi1:uj Tryz.prog 204=some [(.int .i64 0),(.int .i64 0),(.int .i64 0),(.int .i64 0),(.int .i64 0)]:=by kernel_rfl
theorem zdB:uj Tryz.prog 25=some [(.slice none 0 0),(.bool false)]:=by kernel_rfl
theorem zdc:uj Tryz.prog 3=some [(.int .i64 0)]:=by kernel_rfl
theorem zj1:uj Tryz.prog 30=some [(.slice none 0 0)]:=by kernel_rfl
theorem zgb:uj Tryz.prog 34=some [(.int .i64 0),(.int .i64 0),(.int .i64 0),(.int .i64 0)]:=by kernel_rfl
theorem zjz:uj Tryz.prog 4=some [(.bool false)]:=by kernel_rfl
theorem zeT:uj Tryz.prog 47=some [(.slice none 0 0)]:=by kernel_rfl
theorem YJ:uj Tryz.prog 77=some [(.slice none 0 0),(.int .i64 0),(.int .i64 0)]:=by kernel_rfl
theorem zbE:uj Tryz.prog 82=some [(.slice none 0 0)]:=by kernel_rfl
theorem xz:uj Tryz.prog 89=some [(.int .i64 0),(.int .i64 0)]:=by kernel_rfl
theorem UU:uj Tryz.prog 90=some [(.slice none 0 0)]:=by kernel_rfl
theorem xl:uj Tryz.prog 94=some [(.slice none 0 0)]:=by kernel_rfl
theorem mixed:Tryz.prog.follows .mixedOrders=true:=by kernel_rfl
theorem u7 {w0:World} {F:Nat→Prop} {n_0:Int} {κ:Int→Prop} (hF:Fr [] F w0) (h:x5 n_0 κ) :
  Calls Tryz.prog 119 #[(I n_0)] w0 (Ret [] F w0 κ (fun r (u:Unit)=>(I r)) (fun r u=>[])):=by
 refine Zo (args:=[I n_0]) [] hF (ub.nil _ _) Tryz.func119 rfl Tryz.ntmps119 rfl h ?_;clear h hF;let JJ:=Jn 11 [] F w0;refine y0 ?_;refine ma ?_;refine y4 ?_;refine mv ?_;refine y5 ?_;refine je (σ:=Bool) (fun t61=>JJ [(3,I n_0),(4,.bool t61)] []) ?_ ?_
 ·intro k62;refine y0 ?_;refine xm st x6 ?_;refine ma ?_;refine y1 ?_;refine zi ?_ ?_
  ·refine jT ?_;exact lj []
  ·refine zt ?_;refine xm st x6 ?_;refine ma ?_;refine zA ?_;exact lj []
 ·rintro t61;refine nxj ?_;refine zi ?_ ?_
  ·refine y0 ?_;refine ma ?_;refine y24 ?_;exact lu Tryz.results119
  ·refine y0 ?_;refine xm st x6 ?_;refine ma ?_;refine y1 ?_;refine zi ?_ ?_
   ·refine y0 ?_;refine ma ?_;refine y24 ?_;exact lu Tryz.results119
   ·refine y0 ?_;refine xm st x6 ?_;refine ma ?_;refine y1 ?_;refine zi ?_ ?_
    ·refine y0 ?_;refine ma ?_;refine y24 ?_;exact lu Tryz.results119
    ·refine jT (Zm (zO (jr (zt ?_))));refine ma ?_;refine y3 ?_;exact lu Tryz.results119
end
section
open Go.RowKit
theorem z8 {w0:World} {F:Nat→Prop} {n_0:Int} {κ:Int→Prop} (hF:Fr [] F w0) (hgl0:Sl jb F w0 (.slice (some ⟨0,0,none⟩) 4 4) zJ) (h:zC n_0 κ) :
  Calls Tryz.prog 113 #[(I n_0)] w0 (Ret [] F w0 κ (fun r (u:Unit)=>(I r)) (fun r u=>[])):=by
 refine eS hF Tryz.func113 Tryz.ntmps113 h ?_;clear h hF;let JJ:=Jn 13 [] F w0;refine y0 ?_;refine ma ?_;refine y9 ?_;refine je (σ:=Bool) (fun t61=>JJ [(0,I n_0),(8,.bool t61)] [zh w0 F]) ?_ ?_
 ·intro k62;refine zt ?_;refine mv ?_;refine zM st ?_;refine mv ?_;refine xo (dj:=5) rfl ?_ ?_
  ·refine ss ?_;refine ss ?_;refine zY st ?_;refine zA ?_;exact lj [0]
  ·refine zw (zX rfl rfl) ?_;refine UX (zX rfl rfl) ?_;refine zQ st ?_;refine zA ?_;exact lj [0]
 ·rintro t61;refine nxj ?_;refine zi ?_ ?_
  ·refine y0 ?_;refine ma ?_;refine y6 ?_;exact lu Tryz.results113
  ·refine y8 ?_;refine mv ?_;refine jZ st 0 (zc hgl0) zkm ?_;intro e63 h64;refine jg st 0 (zc hgl0) h64 zhS ?_;refine jK st (enc:=Xc) (u:=(I e63.xTop)) 0 (zc hgl0) Vw h64 ty3 ?_;refine ma ?_;refine y3 ?_;exact lu Tryz.results113
theorem zbV {w0:World} {F:Nat→Prop} {t_0:jh} {κ:Bool→Prop} (hF:Fr [] F w0) (hgl0:Sl jb F w0 (.slice (some ⟨0,0,none⟩) 4 4) zJ) (h:Xq t_0 κ) :
  Calls Tryz.prog 236 #[(.agg #[(I t_0.xField),(I t_0.xLo),(I t_0.xHi),(.bool t_0.xNot)])] w0 (Ret [] F w0 κ (fun r (u:Unit)=>(.bool r)) (fun r u=>[])):=by
 refine eS hF Tryz.func236 Tryz.ntmps236 h ?_;clear h hF;let JJ:=Jn 31 [] F w0;refine y0 ?_;refine stw (jP [I t_0.xField,I t_0.xLo,I t_0.xHi,.bool t_0.xNot] ?_);intro b1;refine ma ?_;refine y1 ?_;refine je (σ:=Bool) (fun t64=>JJ [(2,.bool t64)] [zh w0 F]) ?_ ?_
 ·intro k65;refine xN mixed 29 rfl [zf b1 [I t_0.xField,I t_0.xLo,I t_0.xHi,.bool t_0.xNot] 165,zh w0 F] ?_;refine zy (dI 0) yp ?_;refine zn (dI 1) (v:=(I t_0.xField)) 0 ty3 ?_;refine UX (dI 2) ?_;refine zw (dI 3) ?_;refine xo (dj:=6) rfl ?_ ?_
  ·refine zy (dtg 4 (fun _ m=>m)) yp ?_;refine zn (dtg 5 (fun _ m=>m)) (v:=(I t_0.xField)) 0 ty3 ?_;refine zM (dtg 6 (fun _ m=>m)) ?_;refine zY (dI 7) ?_;refine zw (dI 8) ?_;refine xo (dj:=11) rfl ?_ ?_
   ·refine zy (dtg 9 (fun _ m=>m)) Xg ?_;refine zn (dtg 10 (fun _ m=>m)) (v:=(I t_0.xLo)) 0 ty3 ?_;refine UX (dtg 11 (fun _ m=>m)) ?_;refine zY (dI 12) ?_;refine zw (dI 13) ?_;refine xo (dj:=16) rfl ?_ ?_
    ·refine zy (dtg 14 (fun _ m=>m)) Xg ?_;refine zn (dtg 15 (fun _ m=>m)) (v:=(I t_0.xLo)) 0 ty3 ?_;refine zy (dtg 16 (fun _ m=>m)) ZD ?_;refine zn (dtg 17 (fun _ m=>m)) (v:=(I t_0.xHi)) 0 ty3 ?_;refine X1 (dtg 18 (fun _ m=>m)) ?_;refine zY (dI 19) ?_;refine zw (dI 20) ?_;refine xo (dj:=23) rfl ?_ ?_
     ·refine zy (dtg 21 (fun _ m=>m)) ZD ?_;refine zn (dtg 22 (fun _ m=>m)) (v:=(I t_0.xHi)) 0 ty3 ?_;refine zy (dtg 23 (fun _ m=>m)) yp ?_;refine zn (dtg 24 (fun _ m=>m)) (v:=(I t_0.xField)) 0 ty3 ?_;refine V2 (i:=25) rfl rfl rfl (by kernel_rfl) (zk Tryz.call113 (by intro w m h;exact rf0 (z8 (F:=z6 [] w) (n_0:=t_0.xField) zp (m.q 1 hgl0) h)) ?_);rintro r3 _;refine xI (fun _ m=>m) ?_;refine X1 (dtg 26 (fun _ m=>m)) ?_;refine zY (dI 27) ?_;refine ue (dI 28) ?_;refine jD (by kernel_rfl) ?_;exact lj [1]
     ·refine dK 21 ?_;refine dK 22 ?_;refine dK 23 ?_;refine dK 24 ?_;refine dK 25 ?_;refine dK 26 ?_;refine zQ (dI 27) ?_;refine ue (dI 28) ?_;refine jD (by kernel_rfl) ?_;exact lj [1]
    ·refine dK 14 ?_;refine dK 15 ?_;refine dK 16 ?_;refine dK 17 ?_;refine dK 18 ?_;refine zQ (dI 19) ?_;refine zw (dI 20) ?_;refine dK 21 ?_;refine dK 22 ?_;refine dK 23 ?_;refine dK 24 ?_;refine dK 25 ?_;refine dK 26 ?_;refine zQ (dI 27) ?_;refine ue (dI 28) ?_;refine jD (by kernel_rfl) ?_;exact lj [1]
   ·refine dK 9 ?_;refine dK 10 ?_;refine dK 11 ?_;refine zQ (dI 12) ?_;refine zw (dI 13) ?_;refine dK 14 ?_;refine dK 15 ?_;refine dK 16 ?_;refine dK 17 ?_;refine dK 18 ?_;refine zQ (dI 19) ?_;refine zw (dI 20) ?_;refine dK 21 ?_;refine dK 22 ?_;refine dK 23 ?_;refine dK 24 ?_;refine dK 25 ?_;refine dK 26 ?_;refine zQ (dI 27) ?_;refine ue (dI 28) ?_;refine jD (by kernel_rfl) ?_;exact lj [1]
  ·refine dK 4 ?_;refine dK 5 ?_;refine dK 6 ?_;refine zQ (dI 7) ?_;refine zw (dI 8) ?_;refine dK 9 ?_;refine dK 10 ?_;refine dK 11 ?_;refine zQ (dI 12) ?_;refine zw (dI 13) ?_;refine dK 14 ?_;refine dK 15 ?_;refine dK 16 ?_;refine dK 17 ?_;refine dK 18 ?_;refine zQ (dI 19) ?_;refine zw (dI 20) ?_;refine dK 21 ?_;refine dK 22 ?_;refine dK 23 ?_;refine dK 24 ?_;refine dK 25 ?_;refine dK 26 ?_;refine zQ (dI 27) ?_;refine ue (dI 28) ?_;refine jD (by kernel_rfl) ?_;exact lj [1]
 ·rintro t64;refine nxj ?_;refine uv ?_;exact lu Tryz.results236
theorem zaL {w0:World} {F:Nat→Prop} {v1:Value} {list_0:(List jh)} {κ:Bool→Prop} (hF:Fr [] F w0) (hv1:Sl xh F w0 v1 list_0) (hgl0:Sl jb F w0 (.slice (some ⟨0,0,none⟩) 4 4) zJ) (h:ZR list_0 κ) :
  Calls Tryz.prog 208 #[v1] w0 (Ret [] F w0 κ (fun r (u:Unit)=>(.bool r)) (fun r u=>[])):=by
 refine eS hF Tryz.func208 Tryz.ntmps208 h ?_;clear h hF;let JJ:=Jn 18 [] F w0;refine y0 ?_;refine ma ?_;refine y4 ?_;refine mv ?_;refine zH st Ub 0 (zc hv1) ?_;refine yA st ?_;refine y1 ?_;refine zi ?_ ?_
 ·refine y0 ?_;refine ma ?_;refine y6 ?_;exact lu Tryz.results208
 ·refine y13 ?_;refine mv ?_;refine zH st Ub 0 (zc hv1) ?_;refine mv ?_;refine y5 ?_;refine zZ (σ:=Int) (fun t3=>JJ [(8,v1),(9,I (list_0.length:Int)),(10,I t3)] [zh w0 F]) (jI [0]) ?_;rintro nx4 t3;refine nxj ?_;refine y0 ?_;refine zM st ?_;refine y9 ?_;refine zi ?_ ?_
  ·refine y11 ?_;refine zF st 0 (zc hv1) Ub ?_;intro e5 h6;refine jK st (enc:=uz) (u:=(.agg #[I e5.xField,I e5.xLo,I e5.xHi,.bool e5.xNot])) 0 (zc hv1) xx h6 Uv ?_;refine stw (jq [I 0,I 0,I 0,.bool false] Vf ?_);intro b7;refine stw (jm (cs':=[I e5.xField,I e5.xLo,I e5.xHi,.bool e5.xNot]) 0 Uv ?_);refine y2 ?_;refine zn st (v:=(.agg #[I e5.xField,I e5.xLo,I e5.xHi,.bool e5.xNot])) 0 Uv ?_;refine stw (zk Tryz.call236 (by intro w m h;exact rf0 (zbV (F:=z6 [] w) (t_0:=e5) zp (m.q 1 hgl0) h)) ?_);rintro r9 _;refine js st ?_;refine y1 ?_;refine zi ?_ ?_
   ·refine y0 ?_;refine ma ?_;refine y16 ?_;exact lu Tryz.results208
   ·refine y14 ?_;refine zK st ?_;intro t10;refine mv ?_;refine zA ?_;exact lj [1]
  ·refine y7 ?_;refine ma ?_;refine y3 ?_;exact lu Tryz.results208
theorem zb7 {w0:World} {F:Nat→Prop} {v1:Value} {r_0:zz} {κ:Bool→Prop} (hF:Fr [] F w0) (hv1:Sl xh F w0 v1 r_0.xTests) (hgl0:Sl jb F w0 (.slice (some ⟨0,0,none⟩) 4 4) zJ) (h:Xx r_0 κ) :
  Calls Tryz.prog 162 #[(.agg #[v1,(I r_0.xAction),(I r_0.xChain)])] w0 (Ret [] F w0 κ (fun r (u:Unit)=>(.bool r)) (fun r u=>[])):=by
 refine eS hF Tryz.func162 Tryz.ntmps162 h ?_;clear h hF;let JJ:=Jn 27 [] F w0;refine y0 ?_;obtain ⟨a3,l4,q5,rfl⟩:=zq hv1;refine stw (jP [.slice a3 l4 q5,I r_0.xAction,I r_0.xChain] ?_);intro b6;refine ma ?_;refine y4 ?_;refine zy st YY ?_;refine zn st (v:=(.slice a3 l4 q5)) 0 zdY ?_;refine stw (zk Tryz.call208 (by intro w m h;exact rf0 (zaL (F:=z6 [] w) (list_0:=r_0.xTests) zp (m.q 1 hv1) (m.q 1 hgl0) h)) ?_);rintro r8 _;refine js st ?_;refine y1 ?_;refine zi ?_ ?_
 ·refine y0 ?_;refine ma ?_;refine y6 ?_;exact lu Tryz.results162
 ·refine y13 ?_;refine zy st ZS ?_;refine zn st (v:=(I r_0.xAction)) 0 ty3 ?_;refine y26 ?_;refine xm st x6 ?_;refine ma ?_;refine y1 ?_;refine zi ?_ ?_
  ·refine je (σ:=Bool) (fun t69=>JJ [(2,.bool t69)] [zh w0 F]) ?_ ?_
   ·intro k70;refine zt ?_;refine zy st Zp ?_;refine zn st (v:=(I r_0.xChain)) 0 ty3 ?_;refine UX st ?_;refine mv ?_;refine xo (dj:=14) rfl ?_ ?_
    ·refine zy (zX rfl rfl) Zp ?_;refine zn (zX rfl rfl) (v:=(I r_0.xChain)) 0 ty3 ?_;refine zM (zX rfl rfl) ?_;refine zY st ?_;refine ma ?_;refine zA ?_;exact lj [1]
    ·refine ss ?_;refine ss ?_;refine ss ?_;refine zQ st ?_;refine ma ?_;refine zA ?_;exact lj [1]
   ·rintro t69;refine nxj ?_;refine uv (uF (xp ?_));exact lu Tryz.results162
  ·refine je (σ:=Bool) (fun t131=>JJ [(1,pp b6),(19,.bool t131)] [zf b6 [.slice a3 l4 q5,I r_0.xAction,I r_0.xChain] 77,zh w0 F]) ?_ ?_
   ·intro k132;refine y0 ?_;refine xm st x6 ?_;refine ma ?_;refine y1 ?_;refine zi ?_ ?_
    ·refine jT ?_;exact lj [0,1]
    ·refine y0 ?_;refine xm st x6 ?_;refine ma ?_;refine y1 ?_;refine zi ?_ ?_
     ·refine jT ?_;exact lj [0,1]
     ·refine y0 ?_;refine xm st x6 ?_;refine ma ?_;refine y1 ?_;refine zi ?_ ?_
      ·refine jT ?_;exact lj [0,1]
      ·refine zt ?_;refine xm st x6 ?_;refine ma ?_;refine zA ?_;exact lj [0,1]
   ·rintro t131;refine nxj ?_;refine zi ?_ ?_
    ·refine y0 ?_;refine zy st Zp ?_;refine zn st (v:=(I r_0.xChain)) 0 ty3 ?_;refine xm st x6 ?_;refine ma ?_;refine y24 ?_;exact lu Tryz.results162
    ·refine jT (Zm (zO (jr (zt ?_))));refine ma ?_;refine y3 ?_;exact lu Tryz.results162
theorem za5 {w0:World} {F:Nat→Prop} {v1:Value} {list_0:(List zz)} {κ:Bool→Prop} (hF:Fr [] F w0) (hv1:Sl jM F w0 v1 list_0) (hgl0:Sl jb F w0 (.slice (some ⟨0,0,none⟩) 4 4) zJ) (h:Z1 list_0 κ) :
  Calls Tryz.prog 109 #[v1] w0 (Ret [] F w0 κ (fun r (u:Unit)=>(.bool r)) (fun r u=>[])):=by
 refine eS hF Tryz.func109 Tryz.ntmps109 h ?_;clear h hF;let JJ:=Jn 18 [] F w0;refine y0 ?_;refine ma ?_;refine y4 ?_;refine mv ?_;refine zH st XI 0 (zc hv1) ?_;refine yA st ?_;refine y1 ?_;refine zi ?_ ?_
 ·refine y0 ?_;refine ma ?_;refine y6 ?_;exact lu Tryz.results109
 ·refine y13 ?_;refine mv ?_;refine zH st XI 0 (zc hv1) ?_;refine mv ?_;refine y5 ?_;refine zZ (σ:=Int) (fun t3=>JJ [(8,v1),(9,I (list_0.length:Int)),(10,I t3)] [zh w0 F]) (jI [0]) ?_;rintro nx4 t3;refine nxj ?_;refine y0 ?_;refine zM st ?_;refine y9 ?_;refine zi ?_ ?_
  ·refine y11 ?_;refine zF st 0 (zc hv1) XI ?_;intro e5 h6;obtain ⟨_,⟨v8,rfl,sl9⟩,rw7⟩:=z1 hv1 h6;refine jk st (u:=(.agg #[v8,I e5.xAction,I e5.xChain])) 0 rw7 Y7 ?_;refine stw (jq [S0,I 0,I 0] YJ ?_);intro b11;obtain ⟨a13,l14,q15,rfl⟩:=zq sl9;refine stw (jm (cs':=[.slice a13 l14 q15,I e5.xAction,I e5.xChain]) 0 Y7 ?_);refine y2 ?_;refine zn st (v:=(.agg #[.slice a13 l14 q15,I e5.xAction,I e5.xChain])) 0 Y7 ?_;refine stw (zk Tryz.call162 (by intro w m h;exact rf0 (zb7 (F:=z6 [] w) (r_0:=e5) zp (m.q 1 sl9) (m.q 1 hgl0) h)) ?_);rintro r16 _;refine js st ?_;refine y1 ?_;refine zi ?_ ?_
   ·refine y0 ?_;refine ma ?_;refine y16 ?_;exact lu Tryz.results109
   ·refine y14 ?_;refine zK st ?_;intro t17;refine mv ?_;refine zA ?_;exact lj [1]
  ·refine y7 ?_;refine ma ?_;refine y3 ?_;exact lu Tryz.results109
theorem VP {w0:World} {F:Nat→Prop} {v1:Value} {rules_0:(List zz)} {κ:(List Int)→Prop} (hF:Fr [] F w0) (hv1:Sl jM F w0 v1 rules_0) (h:Z8 rules_0 κ) :
  Calls Tryz.prog 110 #[v1] w0 (Ret [] F w0 κ (fun r (u:Value)=>u) (fun r u=>[ze xT 3 u r])):=by
 refine eS hF Tryz.func110 Tryz.ntmps110 h ?_;clear h hF;let JJ:=Jn 34 [] F w0;refine y0 ?_;refine stw (jL xT 3 ?_);refine y2 ?_;refine stw (x9 (El':=US) (z:=(false:Bool)) (len:=5) (zs:=[.bool false]) (fun F w=>(YZ _ _ _ _).2 rfl) ziW ?_);intro b4;refine y4 ?_;refine mv ?_;refine zH st XI 2 (zc hv1) ?_;refine mv ?_;refine y5 ?_;refine zZ (σ:=((List Bool)×Int)) (fun (xs6,t8)=>JJ [(3,pp b4),(9,v1),(10,I (rules_0.length:Int)),(11,I t8)] [ze US 203 (.slice (some ⟨b4,0,none⟩) 5 5) xs6,zh w0 F]) (jI [0,2]) ?_;rintro nx9 ⟨xs6,t8⟩;refine nxj ?_;refine y0 ?_;refine zM st ?_;refine y9 ?_;refine zi ?_ ?_
 ·refine y18 ?_;refine je (σ:=(List Bool)) (fun xs84=>JJ [(3,pp b4),(9,v1),(10,I (rules_0.length:Int)),(11,I t8)] [ze US 203 (.slice (some ⟨b4,0,none⟩) 5 5) xs84,zh w0 F]) ?_ ?_
  ·intro k86;refine y20 ?_;refine zF st 1 (zc hv1) XI ?_;intro e10 h11;obtain ⟨_,⟨v13,rfl,sl14⟩,rw12⟩:=z1 hv1 h11;refine jk st (u:=(.agg #[v13,I e10.xAction,I e10.xChain])) 1 rw12 Y7 ?_;refine stw (jq [S0,I 0,I 0] YJ ?_);intro b16;obtain ⟨a18,l19,q20,rfl⟩:=zq sl14;refine stw (jm (cs':=[.slice a18 l19 q20,I e10.xAction,I e10.xChain]) 0 Y7 ?_);refine y2 ?_;refine zy st ZS ?_;refine zn st (v:=(I e10.xAction)) 0 ty3 ?_;refine xm st x6 ?_;refine y1 ?_;refine zi ?_ ?_
   ·refine zt ?_;refine zy st Zp ?_;refine zn st (v:=(I e10.xChain)) 0 ty3 ?_;refine jZ st 1 zj zig ?_;intro e21 h22;refine stw (X2 (enc:=XV) (y':=true) 1 YZ h22 ty4 ?_);refine y12 ?_;exact lj [1,2]
   ·refine y23 ?_;exact lj [1,2]
  ·rintro xs84;refine nxj ?_;refine zt ?_;refine zK st ?_;intro t87;refine mv ?_;refine zA ?_;exact lj [0,1]
 ·refine y7 ?_;refine stw (jL xT 3 ?_);refine y4 ?_;refine zi5 1 rfl ?_;intro e89 e90 e91 e92 e93;refine stw (ziD yy (u:=[.bool e89,.bool e90,.bool e91,.bool e92,.bool e93]) 1 zj YZ zkM ?_);refine mv ?_;refine y5 ?_;refine zZ (σ:=((List Int)×Int)) (fun ((xs96,t99):((List Int)×Int)) (a:Act) (w:World)=>∃ (v95:Value),JJ [(6,v95),(22,.agg #[.bool e89,.bool e90,.bool e91,.bool e92,.bool e93]),(23,I t99)] [ze xT 3 v95 xs96] a w) (jE S0 [0]) ?_;rintro nx100 ⟨xs96,t99⟩ a w ⟨v95,hE,hm⟩ h;refine jw hE hm h ?_;clear hE hm h;refine y0 ?_;refine zM st ?_;refine y9 ?_;refine zi ?_ ?_
  ·refine y18 ?_;refine je (σ:=(List Int)) (fun (xs166:(List Int)) (a:Act) (w:World)=>∃ (v167:Value),JJ [(6,v167),(22,.agg #[.bool e89,.bool e90,.bool e91,.bool e92,.bool e93]),(23,I t99)] [ze xT 3 v167 xs166] a w) ?_ ?_
   ·intro k169;refine y20 ?_;refine mv ?_;refine zkk st (enc:=XV) (zs:=[e89,e90,e91,e92,e93]) (u:=fun (e101:Bool)=>(.bool e101)) zig (fun _=>rfl) (fun _=>rfl) ?_;intro e101;refine ma ?_;refine ma ?_;refine y2 ?_;refine mv ?_;refine y1 ?_;refine zi ?_ ?_
    ·refine zt ?_;refine mv ?_;refine mv ?_;refine stw (um (enc:=ya) (qs:=[(0,I t99)]) (cells:=[I t99]) ([t99]) xF (by intro ρ h;simp only [List.map_toArray,List.map_cons,List.map_nil,h (.tmp 29) _ rfl]) zaz zdc ?_);intro v102;refine stw (xr 1 0 (uq xF zj) zaz zdc ?_);intro v104;refine ma ?_;refine y12 ?_;exact zT (xs96++([t99])) (jE v104 [1])
    ·refine y23 ?_;exact zT xs96 (jE v95 [0])
   ·rintro xs166 a w ⟨v167,hE,hm⟩ h;refine jw hE hm h ?_;clear hE hm h;refine zt ?_;refine zK st ?_;intro t170;refine mv ?_;refine zA ?_;exact zT (xs166,t170) (jE v167 [0])
  ·refine y7 ?_;refine mv ?_;refine ma ?_;refine y3 ?_;exact jf Tryz.results110 xs96 v95 (jp rfl) (fun w m=>zN.ofB m [0] rfl)
theorem zau:∀ (n:Nat) {w0:World} {F:Nat→Prop} {b3:Nat} {v1:Value} {chains_0:(List (List zz))} {chain_1:Int} {colours_2:(List Int)} {κ:(Bool×(List Int))→Prop} (hF:Fr [ze xT 204 (.slice (some ⟨b3,0,none⟩) 5 5) colours_2] F w0) (hg:ub [ze xT 204 (.slice (some ⟨b3,0,none⟩) 5 5) colours_2] F w0) (hv1:Sl (zE jM) F w0 v1 chains_0) (h:uD n chains_0 chain_1 colours_2 κ),
  Calls Tryz.prog 163 #[v1,(I chain_1),(pp b3)] w0 (Ret [ze xT 204 (.slice (some ⟨b3,0,none⟩) 5 5) colours_2] F w0 κ (fun r (u:Unit)=>(.bool r.1)) (fun r u=>[ze xT 204 (.slice (some ⟨b3,0,none⟩) 5 5) r.2])):=by
 intro n;induction n with
 | zero =>
  intro w0 F b3 v1 chains_0 chain_1 colours_2 κ hF hg hv1 h;exact (h:False).elim
 | succ n ih =>
  intro w0 F b3 v1 chains_0 chain_1 colours_2 κ hF hg hv1 h;replace h:ZZ (uD n) chains_0 chain_1 colours_2 κ:=h;revert h ih;generalize uD n=rec;intro ih h;refine Ye (args:=[v1,I chain_1,pp b3]) [ze xT 204 (.slice (some ⟨b3,0,none⟩) 5 5) colours_2] hF hg Tryz.func163 rfl Tryz.ntmps163 rfl h ?_;clear h hF hg;let JJ:=Jn 48 [ze xT 204 (.slice (some ⟨b3,0,none⟩) 5 5) colours_2] F w0;refine y0 ?_;refine ma ?_;refine y4 ?_;refine mv ?_;refine mv ?_;refine zH st Zw 1 (zc hv1) ?_;refine UX st ?_;refine y1 ?_;refine zi ?_ ?_
  ·refine y0 ?_;refine ma ?_;refine y6 ?_;exact jf Tryz.results163 (true,colours_2) () (jp rfl) (fun w m=>zN.ofB m [0] rfl)
  ·refine y13 ?_;refine mv ?_;refine mv ?_;refine uC st ?_;refine jZ st 0 zj zgA ?_;intro e5 h6;refine jK st (enc:=ya) (u:=(I e5)) 0 zj xF h6 ty3 ?_;refine y26 ?_;refine xm st x6 ?_;refine ma ?_;refine y1 ?_;refine zi ?_ ?_
   ·refine y0 ?_;refine ma ?_;refine y24 ?_;exact jf Tryz.results163 (false,colours_2) () (jp rfl) (fun w m=>zN.ofB m [0] rfl)
   ·refine y0 ?_;refine xm st x6 ?_;refine ma ?_;refine y1 ?_;refine zi ?_ ?_
    ·refine y0 ?_;refine ma ?_;refine y24 ?_;exact jf Tryz.results163 (true,colours_2) () (jp rfl) (fun w m=>zN.ofB m [0] rfl)
    ·refine jT (Zm (zO (jr (zt ?_))));refine mv ?_;refine mv ?_;refine uC st ?_;refine jZ st 0 zj zgA ?_;intro e7 h8;refine stw (X2 (enc:=ya) (y':=1) 0 xF h8 ty3 ?_);refine y2 ?_;refine ma ?_;refine y4 ?_;refine mv ?_;refine mv ?_;refine zF st 1 (zc hv1) Zw ?_;intro e10 h11;obtain ⟨_,⟨v13,rfl,sl14⟩,rw12⟩:=z1 hv1 h11;refine jk st (u:=v13) 1 rw12 zag ?_;refine stw (zk Tryz.call110 (by intro w m h;exact rf (fun _ _=>(ji (xj xF) jv)) (VP (F:=z6 [] w) (rules_0:=e10) zp (m.q 1 sl14) h)) ?_);rintro r16 v17;refine zH st zaz 0 zj ?_;refine mv ?_;refine y5 ?_;refine zZ (σ:=((List Int)×Bool×Int)) (fun (xs19,t21,t22)=>JJ [(0,v1),(1,I chain_1),(2,pp b3),(7,.bool t21),(31,v17),(32,I (r16.length:Int)),(33,I t22)] [ze xT 3 v17 r16,ze xT 204 (.slice (some ⟨b3,0,none⟩) 5 5) xs19,zh w0 F]) (jI [0,1,2]) ?_;rintro nx23 ⟨xs19,t21,t22⟩;refine nxj ?_;refine y0 ?_;refine zM st ?_;refine y9 ?_;refine zi ?_ ?_
     ·refine y18 ?_;refine je (σ:=((List Int)×Bool)) (fun (xs89,t91)=>JJ [(0,v1),(1,I chain_1),(2,pp b3),(7,.bool t91),(31,v17),(32,I (r16.length:Int)),(33,I t22)] [ze xT 204 (.slice (some ⟨b3,0,none⟩) 5 5) xs89,ze xT 3 v17 r16,zh w0 F]) ?_ ?_
      ·intro k92;refine y20 ?_;refine zF st 0 zj zaz ?_;intro e24 h25;refine jK st (enc:=ya) (u:=(I e24)) 0 zj xF h25 ty3 ?_;refine ma ?_;refine y2 ?_;refine mv ?_;refine mv ?_;refine mv ?_;refine pk' [1,0,2] ?_;refine stw (uH (M0:=[ze xT 204 (.slice (some ⟨b3,0,none⟩) 5 5) xs19]) Tryz.call163 (by intro w m h;exact rf (fun _ _=>(ji (xj xF) jv)) (ih (F:=z6 [ze xT 204 (.slice (some ⟨b3,0,none⟩) 5 5) xs19] w) (chains_0:=chains_0) (chain_1:=e24) (colours_2:=xs19) zp m.given (m.qM 1 hv1) h)) ?_);rintro ⟨r26,r27⟩ _;refine js st ?_;refine y1 ?_;refine zi ?_ ?_
       ·refine zt ?_;refine ma ?_;refine y12 ?_;exact lj [0,1,2]
       ·refine y23 ?_;exact lj [0,1,2]
      ·rintro ⟨xs89,t91⟩;refine nxj ?_;refine zt ?_;refine zK st ?_;intro t93;refine mv ?_;refine zA ?_;exact lj [1,0,2]
     ·refine y7 ?_;refine mv ?_;refine mv ?_;refine uC st ?_;refine jZ st 1 zj zgA ?_;intro e94 h95;refine stw (X2 (enc:=ya) (y':=2) 1 xF h95 ty3 ?_);refine y2 ?_;refine mv ?_;refine ma ?_;refine y3 ?_;exact jf Tryz.results163 (t21,xs19.set (chain_1).toNat 2) () (jp rfl) (fun w m=>zN.ofB m [1] rfl)
theorem za7 {w0:World} {F:Nat→Prop} {b3:Nat} {v1:Value} {chains_0:(List (List zz))} {chain_1:Int} {colours_2:(List Int)} {κ:(Bool×(List Int))→Prop} (hF:Fr [ze xT 204 (.slice (some ⟨b3,0,none⟩) 5 5) colours_2] F w0) (hg:ub [ze xT 204 (.slice (some ⟨b3,0,none⟩) 5 5) colours_2] F w0) (hv1:Sl (zE jM) F w0 v1 chains_0) (h:UD chains_0 chain_1 colours_2 κ) :
  Calls Tryz.prog 163 #[v1,(I chain_1),(pp b3)] w0 (Ret [ze xT 204 (.slice (some ⟨b3,0,none⟩) 5 5) colours_2] F w0 κ (fun r (u:Unit)=>(.bool r.1)) (fun r u=>[ze xT 204 (.slice (some ⟨b3,0,none⟩) 5 5) r.2])):=by
 obtain ⟨n,h⟩:=h;exact zau n hF hg hv1 h
theorem zdG {w0:World} {F:Nat→Prop} {v1:Value} {chains_0:(List (List zz))} {κ:Bool→Prop} (hF:Fr [] F w0) (hv1:Sl (zE jM) F w0 v1 chains_0) (h:Yx chains_0 κ) :
  Calls Tryz.prog 111 #[v1] w0 (Ret [] F w0 κ (fun r (u:Unit)=>(.bool r)) (fun r u=>[])):=by
 refine eS hF Tryz.func111 Tryz.ntmps111 h ?_;clear h hF;let JJ:=Jn 15 [] F w0;refine y0 ?_;refine ma ?_;refine y2 ?_;refine stw (x9 (El':=xT) (z:=(0:Int)) (len:=5) (zs:=[I 0]) (fun F w=>(xF _ _ _ _).2 rfl) zi1 ?_);intro b3;refine y4 ?_;refine mv ?_;refine zH st Zw 1 (zc hv1) ?_;refine mv ?_;refine y5 ?_;refine zZ (σ:=((List Int)×Int)) (fun (xs5,t7)=>JJ [(0,v1),(3,pp b3),(6,I (chains_0.length:Int)),(7,I t7)] [ze xT 204 (.slice (some ⟨b3,0,none⟩) 5 5) xs5,zh w0 F]) (jI [0,1]) ?_;rintro nx8 ⟨xs5,t7⟩;refine nxj ?_;refine y0 ?_;refine zM st ?_;refine y9 ?_;refine zi ?_ ?_
 ·refine y11 ?_;refine mv ?_;refine ma ?_;refine y2 ?_;refine mv ?_;refine mv ?_;refine stw (uH (M0:=[ze xT 204 (.slice (some ⟨b3,0,none⟩) 5 5) xs5]) Tryz.call163 (by intro w m h;exact rf (fun _ _=>(ji (xj xF) jv)) (za7 (F:=z6 [ze xT 204 (.slice (some ⟨b3,0,none⟩) 5 5) xs5] w) (chains_0:=chains_0) (chain_1:=t7) (colours_2:=xs5) zp m.given (m.qM 0 hv1) h)) ?_);rintro ⟨r9,r10⟩ _;refine js st ?_;refine y1 ?_;refine zi ?_ ?_
  ·refine y0 ?_;refine ma ?_;refine y16 ?_;exact lu Tryz.results111
  ·refine y14 ?_;refine zK st ?_;intro t12;refine mv ?_;refine zA ?_;exact lj [0,1]
 ·refine y7 ?_;refine ma ?_;refine y3 ?_;exact lu Tryz.results111
theorem zam {w0:World} {F:Nat→Prop} {v1:Value} {s_0:zS} {κ:Bool→Prop} (hF:Fr [] F w0) (hv1:Sl (zE jM) F w0 v1 s_0.xChains) (hgl0:Sl jb F w0 (.slice (some ⟨0,0,none⟩) 4 4) zJ) (h:yR s_0 κ) :
  Calls Tryz.prog 63 #[(.agg #[v1,(.bool s_0.xAccept)])] w0 (Ret [] F w0 κ (fun r (u:Unit)=>(.bool r)) (fun r u=>[])):=by
 refine eS hF Tryz.func63 Tryz.ntmps63 h ?_;clear h hF;let JJ:=Jn 54 [] F w0;refine y0 ?_;obtain ⟨a3,l4,q5,rfl⟩:=zq hv1;refine stw (jP [.slice a3 l4 q5,.bool s_0.xAccept] ?_);intro b6;refine ma ?_;refine y9 ?_;refine je (σ:=Bool) (fun t68=>JJ [(1,pp b6),(18,.bool t68)] [zf b6 [.slice a3 l4 q5,.bool s_0.xAccept] 25,zh w0 F]) ?_ ?_
 ·intro k69;refine zt ?_;refine zy st x8 ?_;refine zn st (v:=(.slice a3 l4 q5)) 0 YE ?_;refine zH st Zw 1 (zc hv1) ?_;refine zM st ?_;refine mv ?_;refine xo (dj:=13) rfl ?_ ?_
  ·refine ss ?_;refine ss ?_;refine ss ?_;refine ss ?_;refine zY st ?_;refine zA ?_;exact lj [0,1]
  ·refine zy (zX rfl rfl) x8 ?_;refine zn (zX rfl rfl) (v:=(.slice a3 l4 q5)) 0 YE ?_;refine zH (zX rfl rfl) Zw 1 (zc hv1) ?_;refine yA (zX rfl rfl) ?_;refine zQ st ?_;refine zA ?_;exact lj [0,1]
 ·rintro t68;refine nxj ?_;refine zi ?_ ?_
  ·refine y0 ?_;refine ma ?_;refine y6 ?_;exact lu Tryz.results63
  ·refine y13 ?_;refine zy st x8 ?_;refine zn st (v:=(.slice a3 l4 q5)) 0 YE ?_;refine zH st Zw 1 (zc hv1) ?_;refine mv ?_;refine y5 ?_;refine zZ (σ:=Int) (fun t70=>JJ [(1,pp b6),(20,.slice a3 l4 q5),(21,I (s_0.xChains.length:Int)),(22,I t70)] [zf b6 [.slice a3 l4 q5,.bool s_0.xAccept] 25,zh w0 F]) (jI [0,1]) ?_;rintro nx71 t70;refine nxj ?_;refine y0 ?_;refine zM st ?_;refine y9 ?_;refine zi ?_ ?_
   ·refine y11 ?_;refine zF st 1 (zc hv1) Zw ?_;intro e72 h73;obtain ⟨_,⟨v75,rfl,sl76⟩,rw74⟩:=z1 hv1 h73;refine jk st (u:=v75) 1 rw74 zag ?_;refine ma ?_;refine y2 ?_;refine mv ?_;refine stw (zk Tryz.call109 (by intro w m h;exact rf0 (za5 (F:=z6 [] w) (list_0:=e72) zp (m.q 1 sl76) (m.q 1 hgl0) h)) ?_);rintro r78 _;refine js st ?_;refine y1 ?_;refine zi ?_ ?_
    ·refine y0 ?_;refine ma ?_;refine y16 ?_;exact lu Tryz.results63
    ·refine y14 ?_;refine zK st ?_;intro t79;refine mv ?_;refine zA ?_;exact lj [0,1]
   ·refine y32 ?_;refine zy st x8 ?_;refine zn st (v:=(.slice a3 l4 q5)) 0 YE ?_;refine zH st Zw 1 (zc hv1) ?_;refine mv ?_;refine y5 ?_;refine zZ (σ:=Int) (fun t80=>JJ [(1,pp b6),(31,.slice a3 l4 q5),(32,I (s_0.xChains.length:Int)),(33,I t80)] [zf b6 [.slice a3 l4 q5,.bool s_0.xAccept] 25,zh w0 F]) (jI [0,1]) ?_;rintro nx81 t80;refine nxj ?_;refine y0 ?_;refine zM st ?_;refine y9 ?_;refine zi ?_ ?_
    ·refine y11 ?_;refine zF st 1 (zc hv1) Zw ?_;intro e82 h83;obtain ⟨_,⟨v85,rfl,sl86⟩,rw84⟩:=z1 hv1 h83;refine jk st (u:=v85) 1 rw84 zag ?_;refine ma ?_;refine y2 ?_;refine mv ?_;refine stw (zk Tryz.call110 (by intro w m h;exact rf (fun _ _=>(ji (xj xF) jv)) (VP (F:=z6 [] w) (rules_0:=e82) zp (m.q 1 sl86) h)) ?_);rintro r88 v89;refine zH st zaz 0 zj ?_;refine mv ?_;refine y5 ?_;refine zZ (σ:=Int) (fun t91=>JJ [(1,pp b6),(31,.slice a3 l4 q5),(32,I (s_0.xChains.length:Int)),(33,I t80),(38,v89),(39,I (r88.length:Int)),(40,I t91)] [ze xT 3 v89 r88,zf b6 [.slice a3 l4 q5,.bool s_0.xAccept] 25,zh w0 F]) (jI [0,1,2]) ?_;rintro nx92 t91;refine nxj ?_;refine y0 ?_;refine zM st ?_;refine y9 ?_;refine zi ?_ ?_
     ·refine y11 ?_;refine zF st 0 zj zaz ?_;intro e93 h94;refine jK st (enc:=ya) (u:=(I e93)) 0 zj xF h94 ty3 ?_;refine ma ?_;refine y2 ?_;refine mv ?_;refine zy st x8 ?_;refine zn st (v:=(.slice a3 l4 q5)) 1 YE ?_;refine zH st Zw 2 (zc hv1) ?_;refine UX st ?_;refine y1 ?_;refine zi ?_ ?_
      ·refine y0 ?_;refine ma ?_;refine zA (zO (uv (uF (xp (xp (uF (uF (xp (xp (uF (xp ?_)))))))))));exact lu Tryz.results63
      ·refine y14 ?_;refine zK st ?_;intro t95;refine mv ?_;refine zA ?_;exact lj [0,1,2]
     ·refine y27 ?_;refine zK st ?_;intro t96;refine mv ?_;refine zA ?_;exact lj [1,2]
    ·refine y7 ?_;refine zy st x8 ?_;refine zn st (v:=(.slice a3 l4 q5)) 0 YE ?_;refine stw (zk Tryz.call111 (by intro w m h;exact rf0 (zdG (F:=z6 [] w) (chains_0:=s_0.xChains) zp (m.q 1 hv1) h)) ?_);rintro r97 _;refine ma ?_;refine y3 ?_;exact lu Tryz.results63
theorem zcq {w0:World} {F:Nat→Prop} {v1:Value} {r_0:zz} {κ:ut→Prop} (hF:Fr [] F w0) (hv1:Sl xh F w0 v1 r_0.xTests) (h:Uc r_0 κ) :
  Calls Tryz.prog 166 #[(.agg #[v1,(I r_0.xAction),(I r_0.xChain)])] w0 (Ret [] F w0 κ (fun r (u:Unit)=>(Uk r)) (fun r u=>[])):=by
 refine eS hF Tryz.func166 Tryz.ntmps166 h ?_;clear h hF;refine y0 ?_;obtain ⟨a3,l4,q5,rfl⟩:=zq hv1;refine stw (jP [.slice a3 l4 q5,I r_0.xAction,I r_0.xChain] ?_);intro b6;refine ma ?_;refine y4 ?_;refine zy st ZS ?_;refine zn st (v:=(I r_0.xAction)) 0 ty3 ?_;refine y26 ?_;refine xm st x6 ?_;refine ma ?_;refine y1 ?_;refine zi ?_ ?_
 ·refine y0 ?_;refine xP st (qs:=[(0,.bool true)]) (cells:=[.bool true]) (bqi rfl) zic ?_;refine zbR st (u:=(Uk (ut.kDeciding (uN.mk true)))) zir ?_;refine ma ?_;refine y24 ?_;exact lu Tryz.results166
 ·refine y0 ?_;refine xm st x6 ?_;refine ma ?_;refine y1 ?_;refine zi ?_ ?_
  ·refine y0 ?_;refine xP st (qs:=[(0,.bool false)]) (cells:=[.bool false]) (bqi rfl) zic ?_;refine zbR st (u:=(Uk (ut.kDeciding (uN.mk false)))) zir ?_;refine ma ?_;refine y24 ?_;exact lu Tryz.results166
  ·refine y0 ?_;refine xm st x6 ?_;refine ma ?_;refine y1 ?_;refine zi ?_ ?_
   ·refine y0 ?_;refine zy st Zp ?_;refine zn st (v:=(I r_0.xChain)) 0 ty3 ?_;refine xP st (qs:=[(0,I r_0.xChain)]) (cells:=[I r_0.xChain]) (bqi rfl) zj4 ?_;refine zbR st (u:=(Uk (ut.kCalling (Xe.mk r_0.xChain)))) zkc ?_;refine ma ?_;refine y24 ?_;exact lu Tryz.results166
   ·refine y0 ?_;refine xm st x6 ?_;refine ma ?_;refine y1 ?_;refine zi ?_ ?_
    ·refine y0 ?_;refine xP st (qs:=[]) (cells:=[]) (bqi rfl) zkr ?_;refine zbR st (u:=(Uk (ut.kReturning (uM.mk )))) zkh ?_;refine ma ?_;refine y24 ?_;exact lu Tryz.results166
    ·refine jT (Zm (zO (jr (zt ?_))));refine xP st (qs:=[]) (cells:=[]) (bqi rfl) zj3 ?_;refine zbR st (u:=(Uk (ut.kPassing (yW.mk )))) zjZ ?_;refine ma ?_;refine y3 ?_;exact lu Tryz.results166
theorem zav {w0:World} {F:Nat→Prop} {v1 v3:Value} {a_0 b_1:(List zd)} {κ:(Int×Bool)→Prop} (hF:Fr [] F w0) (hv1:Sl zb F w0 v1 a_0) (hv3:Sl zb F w0 v3 b_1) (h:uo a_0 b_1 κ) :
  Calls Tryz.prog 200 #[v1,v3] w0 (Ret [] F w0 κ (fun r (u:Unit)=>.tuple #[(I r.1),(.bool r.2)]) (fun r u=>[])):=by
 refine eS hF Tryz.func200 Tryz.ntmps200 h ?_;clear h hF;let JJ:=Jn 59 [] F w0;refine y0 ?_;refine ma ?_;refine ma ?_;refine y4 ?_;refine ma ?_;refine ma ?_;refine y5 ?_;refine zZ (σ:=(Int×Int)) (fun (t5,t6)=>JJ [(0,v1),(1,v3),(6,I t5),(7,I t6)] [zh w0 F]) (jI [0]) ?_;rintro nx7 ⟨t5,t6⟩;refine nxj ?_;refine jr ?_;refine je (σ:=Bool) (fun t68=>JJ [(0,v1),(1,v3),(6,I t5),(7,I t6),(18,.bool t68)] [zh w0 F]) ?_ ?_
 ·intro k69;refine zt ?_;refine mv ?_;refine mv ?_;refine zH st jA 0 (zc hv1) ?_;refine zM st ?_;refine mv ?_;refine xo (dj:=13) rfl ?_ ?_
  ·refine zw (zX rfl rfl) ?_;refine zw (zX rfl rfl) ?_;refine zH (zX rfl rfl) jA 0 (zc hv3) ?_;refine zM (zX rfl rfl) ?_;refine zY st ?_;refine zA ?_;exact lj [0]
  ·refine ss ?_;refine ss ?_;refine ss ?_;refine ss ?_;refine zQ st ?_;refine zA ?_;exact lj [0]
 ·rintro t68;refine nxj ?_;refine zi ?_ ?_
  ·refine jT (zO (uh (jr ?_)));refine xN mixed 12 rfl [zh w0 F] ?_;refine zw (dI 0) ?_;refine zw (dI 1) ?_;refine zF (dI 2) 0 (zc hv1) jA ?_;intro e70 h71;refine jg (dI 3) 0 (zc hv1) h71 yv ?_;refine jK (dI 4) (enc:=zP) (u:=(I e70.xLo)) 0 (zc hv1) zr h71 ty3 ?_;refine zw (dI 5) ?_;refine zw (dI 6) ?_;refine zF (dI 7) 0 (zc hv3) jA ?_;intro e72 h73;refine jg (dI 8) 0 (zc hv3) h73 yv ?_;refine jK (dI 9) (enc:=zP) (u:=(I e72.xLo)) 0 (zc hv3) zr h73 ty3 ?_;refine zfn (dI 10) ?_;refine ue (dI 11) ?_;refine jD (by kernel_rfl) ?_;refine zO (jr (jr ?_));refine xN mixed 13 rfl [zh w0 F] ?_;refine zw (dI 0) ?_;refine zw (dI 1) ?_;refine zw (dI 2) ?_;refine zF (dI 3) 0 (zc hv1) jA ?_;intro e74 h75;refine jg (dI 4) 0 (zc hv1) h75 xO ?_;refine jK (dI 5) (enc:=zP) (u:=(I e74.xHi)) 0 (zc hv1) zr h75 ty3 ?_;refine zw (dI 6) ?_;refine zw (dI 7) ?_;refine zF (dI 8) 0 (zc hv3) jA ?_;intro e76 h77;refine jg (dI 9) 0 (zc hv3) h77 xO ?_;refine jK (dI 10) (enc:=zP) (u:=(I e76.xHi)) 0 (zc hv3) zr h77 ty3 ?_;refine zbQ (dI 11) ?_;refine X1 (dI 12) ?_;refine jD (by kernel_rfl) ?_;refine zO ?_;refine zi ?_ ?_
   ·refine y0 ?_;refine mv ?_;refine ma ?_;refine ma ?_;refine zA (zO (uv (xp (uF (xp (uF (xp ?_)))))));exact jV Tryz.results200 (max e70.xLo e72.xLo,true) () (jp rfl) (jp rfl) rfl (fun _ _=>zN.nil _ _ _ _)
   ·refine jT (zO (jr ?_));refine xN mixed 11 rfl [zh w0 F] ?_;refine zw (dI 0) ?_;refine zw (dI 1) ?_;refine zF (dI 2) 0 (zc hv1) jA ?_;intro e78 h79;refine jg (dI 3) 0 (zc hv1) h79 xO ?_;refine jK (dI 4) (enc:=zP) (u:=(I e78.xHi)) 0 (zc hv1) zr h79 ty3 ?_;refine zw (dI 5) ?_;refine zw (dI 6) ?_;refine zF (dI 7) 0 (zc hv3) jA ?_;intro e80 h81;refine jg (dI 8) 0 (zc hv3) h81 xO ?_;refine jK (dI 9) (enc:=zP) (u:=(I e80.xHi)) 0 (zc hv3) zr h81 ty3 ?_;refine zM (dI 10) ?_;refine jD (by kernel_rfl) ?_;refine zO ?_;refine zi ?_ ?_
    ·refine zt ?_;refine mv ?_;refine zK st ?_;intro t82;refine ma ?_;refine y12 ?_;exact lj [0]
    ·refine zt ?_;refine mv ?_;refine zK st ?_;intro t83;refine ma ?_;refine y12 ?_;exact lj [0]
  ·refine y7 ?_;refine ma ?_;refine ma ?_;refine y3 ?_;exact jV Tryz.results200 (0,false) () (jp rfl) (jp rfl) rfl (fun _ _=>zN.nil _ _ _ _)
end
section
open Go.RowKit
theorem zcn {w0:World} {F:Nat→Prop} {fields_0:zgO} {κ:uG→Prop} (hF:Fr [] F w0) (h:Y8 fields_0 κ) :
  Calls Tryz.prog 201 #[(.agg #[(I fields_0.x0),(I fields_0.x1),(I fields_0.x2),(I fields_0.x3)])] w0 (Ret [] F w0 κ (fun r (u:Unit)=>(.agg #[(I r.xFrom),(I r.xTo),(I r.xPort),(I r.xProto)])) (fun r u=>[])):=by
 refine Zo (args:=[.agg #[I fields_0.x0,I fields_0.x1,I fields_0.x2,I fields_0.x3]]) [] hF (ub.nil _ _) Tryz.func201 rfl Tryz.ntmps201 rfl h ?_;clear h hF;refine y0 ?_;refine stw (Zt (El':=xT) (len:=4) ([fields_0.x0,fields_0.x1,fields_0.x2,fields_0.x3]) ([[I fields_0.x0],[I fields_0.x1],[I fields_0.x2],[I fields_0.x3]]) (fun w m=>⟨(xF _ _ _ _).2 rfl,(xF _ _ _ _).2 rfl,(xF _ _ _ _).2 rfl,(xF _ _ _ _).2 rfl,trivial⟩) ?_);intro b1;refine stw (jq [I 0,I 0,I 0,I 0] zgb ?_);intro b3;refine y2 ?_;refine jZ st 1 zj zc2 ?_;intro e5 h6;refine jK st (enc:=ya) (u:=(I e5)) 1 zj xF h6 ty3 ?_;refine jZ st 1 zj zc2 ?_;intro e7 h8;refine jK st (enc:=ya) (u:=(I e7)) 1 zj xF h8 ty3 ?_;refine jZ st 1 zj zc2 ?_;intro e9 h10;refine jK st (enc:=ya) (u:=(I e9)) 1 zj xF h10 ty3 ?_;refine jZ st 1 zj zc2 ?_;intro e11 h12;refine jK st (enc:=ya) (u:=(I e11)) 1 zj xF h12 ty3 ?_;refine xP st (qs:=[(0,I e5),(1,I e7),(2,I e9),(3,I e11)]) (cells:=[I e5,I e7,I e9,I e11]) (bqi rfl) zjJ ?_;refine stw (jm (cs':=[I e5,I e7,I e9,I e11]) 0 zgi ?_);refine y3 ?_;exact jf Tryz.results201 (uG.mk e5 e7 e9 e11) () (Z2 0 rfl rfl zgi rfl) (fun _ _=>zN.nil _ _ _ _)
theorem UP {w0:World} {F:Nat→Prop} {v1 v3 v5 v7 v9 v11 v13 v15:Value} {s_0 other_1:za} {κ:(uG×Bool)→Prop} (hF:Fr [] F w0) (hv1:Sl zb F w0 v1 s_0.x0) (hv3:Sl zb F w0 v3 s_0.x1) (hv5:Sl zb F w0 v5 s_0.x2) (hv7:Sl zb F w0 v7 s_0.x3) (hv9:Sl zb F w0 v9 other_1.x0) (hv11:Sl zb F w0 v11 other_1.x1) (hv13:Sl zb F w0 v13 other_1.x2) (hv15:Sl zb F w0 v15 other_1.x3) (h:uQ s_0 other_1 κ) :
  Calls Tryz.prog 156 #[(.agg #[v1,v3,v5,v7]),(.agg #[v9,v11,v13,v15])] w0 (Ret [] F w0 κ (fun r (u:Unit)=>.tuple #[(.agg #[(I r.1.xFrom),(I r.1.xTo),(I r.1.xPort),(I r.1.xProto)]),(.bool r.2)]) (fun r u=>[])):=by
 refine eS hF Tryz.func156 Tryz.ntmps156 h ?_;clear h hF;let JJ:=Jn 32 [] F w0;refine y0 ?_;obtain ⟨a17,l18,q19,rfl⟩:=zq hv1;obtain ⟨a20,l21,q22,rfl⟩:=zq hv3;obtain ⟨a23,l24,q25,rfl⟩:=zq hv5;obtain ⟨a26,l27,q28,rfl⟩:=zq hv7;refine stw (Zt (El':=(zE zb)) (len:=4) ([s_0.x0,s_0.x1,s_0.x2,s_0.x3]) ([[.slice a17 l18 q19],[.slice a20 l21 q22],[.slice a23 l24 q25],[.slice a26 l27 q28]]) (fun w m=>⟨⟨.slice a17 l18 q19,rfl,m.roS 0 rfl hv1⟩,⟨.slice a20 l21 q22,rfl,m.roS 0 rfl hv3⟩,⟨.slice a23 l24 q25,rfl,m.roS 0 rfl hv5⟩,⟨.slice a26 l27 q28,rfl,m.roS 0 rfl hv7⟩,trivial⟩) ?_);intro b29;obtain ⟨a31,l32,q33,rfl⟩:=zq hv9;obtain ⟨a34,l35,q36,rfl⟩:=zq hv11;obtain ⟨a37,l38,q39,rfl⟩:=zq hv13;obtain ⟨a40,l41,q42,rfl⟩:=zq hv15;refine stw (Zt (El':=(zE zb)) (len:=4) ([other_1.x0,other_1.x1,other_1.x2,other_1.x3]) ([[.slice a31 l32 q33],[.slice a34 l35 q36],[.slice a37 l38 q39],[.slice a40 l41 q42]]) (fun w m=>⟨⟨.slice a31 l32 q33,rfl,m.roS 1 rfl hv9⟩,⟨.slice a34 l35 q36,rfl,m.roS 1 rfl hv11⟩,⟨.slice a37 l38 q39,rfl,m.roS 1 rfl hv13⟩,⟨.slice a40 l41 q42,rfl,m.roS 1 rfl hv15⟩,trivial⟩) ?_);intro b43;refine stw (jq [I 0,I 0,I 0,I 0] zgb ?_);intro b45;refine ma ?_;refine y2 ?_;refine stw (x9 (El':=xT) (z:=(0:Int)) (len:=4) (zs:=[I 0]) (fun F w=>(xF _ _ _ _).2 rfl) zja ?_);intro b47;refine y4 ?_;refine mv ?_;refine y5 ?_;refine zZ (σ:=((List Int)×Int)) (fun (xs49,t51)=>JJ [(2,pp b29),(3,pp b43),(4,pp b45),(6,pp b47),(10,I t51)] [ze xT 152 (.slice (some ⟨b47,0,none⟩) 4 4) xs49,zf b45 [I 0,I 0,I 0,I 0] 34,ze (zE zb) 137 (.slice (some ⟨b43,0,none⟩) 4 4) ([other_1.x0,other_1.x1,other_1.x2,other_1.x3]),ze (zE zb) 137 (.slice (some ⟨b29,0,none⟩) 4 4) ([s_0.x0,s_0.x1,s_0.x2,s_0.x3])]) (jI [0,1,2,3]) ?_;rintro nx52 ⟨xs49,t51⟩;refine nxj ?_;refine y0 ?_;refine zM st ?_;refine y9 ?_;refine zi ?_ ?_
 ·refine y11 ?_;refine mv ?_;refine ma ?_;refine y1 ?_;refine je (σ:=(Int×Bool)) (fun (t53,t54)=>JJ [(2,pp b29),(3,pp b43),(4,pp b45),(6,pp b47),(10,I t51),(7,I t51),(8,I t53),(9,.bool t54)] [ze xT 152 (.slice (some ⟨b47,0,none⟩) 4 4) xs49,zf b45 [I 0,I 0,I 0,I 0] 34,ze (zE zb) 137 (.slice (some ⟨b43,0,none⟩) 4 4) ([other_1.x0,other_1.x1,other_1.x2,other_1.x3]),ze (zE zb) 137 (.slice (some ⟨b29,0,none⟩) 4 4) ([s_0.x0,s_0.x1,s_0.x2,s_0.x3])]) ?_ ?_
  ·intro k55;refine yM mixed 12 rfl [ze xT 152 (.slice (some ⟨b47,0,none⟩) 4 4) xs49,zf b45 [I 0,I 0,I 0,I 0] 34,ze (zE zb) 137 (.slice (some ⟨b43,0,none⟩) 4 4) ([other_1.x0,other_1.x1,other_1.x2,other_1.x3]),ze (zE zb) 137 (.slice (some ⟨b29,0,none⟩) 4 4) ([s_0.x0,s_0.x1,s_0.x2,s_0.x3])] ?_;intro Qd hP hQ;let NN:=fun i l E L=>Nn 32 [] F w0 Tryz.prog (Y5 Tryz.f156 [1,1,0,1,0,0,1,1,0,0,1,0]) Qd [ze xT 152 (.slice (some ⟨b47,0,none⟩) 4 4) xs49,zf b45 [I 0,I 0,I 0,I 0] 34,ze (zE zb) 137 (.slice (some ⟨b43,0,none⟩) 4 4) ([other_1.x0,other_1.x1,other_1.x2,other_1.x3]),ze (zE zb) 137 (.slice (some ⟨b29,0,none⟩) 4 4) ([s_0.x0,s_0.x1,s_0.x2,s_0.x3])] i l ([(2,pp b29),(3,pp b43),(4,pp b45),(6,pp b47),(10,I t51),(7,I t51)]++E) (L++[ze xT 152 (.slice (some ⟨b47,0,none⟩) 4 4) xs49,zf b45 [I 0,I 0,I 0,I 0] 34,ze (zE zb) 137 (.slice (some ⟨b43,0,none⟩) 4 4) ([other_1.x0,other_1.x1,other_1.x2,other_1.x3]),ze (zE zb) 137 (.slice (some ⟨b29,0,none⟩) 4 4) ([s_0.x0,s_0.x1,s_0.x2,s_0.x3])]);have H772 (e56:(List zd)) (h57:([s_0.x0,s_0.x1,s_0.x2,s_0.x3])[(t51).toNat]?=some e56) (e58:(List zd)) (h59:([other_1.x0,other_1.x1,other_1.x2,other_1.x3])[(t51).toNat]?=some e58) (wr60:World) (ff61:Nat→Prop) (v62:Value) (sl63:Sl zb ff61 wr60 v62 e56) (wr64:World) (ff65:Nat→Prop) (v66:Value) (sl67:Sl zb ff65 wr64 v66 e58) (r68:Int) (r69:Bool):NN 5 #[Y,Y,Y,Y,Y,Y,Y,Z,Z,Z,Z,Z] [(20,.tuple #[I r68,.bool r69])] [] (k55 (r68,r69)):=by
    refine zw (dI 7) ?_;refine ju (dI 8) (vs:=[I r68,.bool r69]) ?_;refine ju (dI 9) (vs:=[I r68,.bool r69]) ?_;refine ue (dI 10) ?_;refine ue (dI 11) ?_;exact dj hQ [0,1,2,3]
   have H773 (e56:(List zd)) (h57:([s_0.x0,s_0.x1,s_0.x2,s_0.x3])[(t51).toNat]?=some e56) (e58:(List zd)) (h59:([other_1.x0,other_1.x1,other_1.x2,other_1.x3])[(t51).toNat]?=some e58) (wr60:World) (ff61:Nat→Prop) (v62:Value) (sl63:Sl zb ff61 wr60 v62 e56) (wr64:World) (ff65:Nat→Prop) (v66:Value) (sl67:Sl zb ff65 wr64 v66 e58):NN 6 #[Y,Y,Y,Y,Y,Y,Z,Z,Z,Z,Z,Z] [(16,v62),(19,v66)] [zh wr64 ff65,zh wr60 ff61] (uo e56 e58 (fun (r68,r69)=>k55 (r68,r69))):=by
    refine d1 6 rfl (zk Tryz.call200 (by intro w m h;exact rf0 (zav (F:=z6 [] w) (a_0:=e56) (b_1:=e58) zp (m.q 1 sl63) (m.q 0 sl67) h)) ?_);rintro ⟨r68,r69⟩ _;exact rd [2,3,4,5] [2,3,4,5] (H772 e56 h57 e58 h59 wr60 ff61 v62 sl63 wr64 ff65 v66 sl67 r68 r69)
   have H774 (e56:(List zd)) (h57:([s_0.x0,s_0.x1,s_0.x2,s_0.x3])[(t51).toNat]?=some e56) (e58:(List zd)) (h59:([other_1.x0,other_1.x1,other_1.x2,other_1.x3])[(t51).toNat]?=some e58) (wr60:World) (ff61:Nat→Prop) (v62:Value) (sl63:Sl zb ff61 wr60 v62 e56):NN 7 #[Y,Y,Y,Y,Y,Z,Z,Z,Z,Z,Z,Z] [(18,pEl (.slice (some ⟨b43,0,none⟩) 4 4) t51 1 0),(16,v62)] [zh wr60 ff61] (uo e56 e58 (fun (r68,r69)=>k55 (r68,r69))):=by
    refine d1 5 rfl (xc 3 zL h59 xE ?_);rintro wr64 ff65 _ ⟨v66,rfl,sl67⟩;refine ⟨v66,rfl,?_⟩;exact rd [2,3,4,5] [0,1,2,3,4,5] (H773 e56 h57 e58 h59 wr60 ff61 v62 sl63 wr64 ff65 v66 sl67)
   have H775 (e56:(List zd)) (h57:([s_0.x0,s_0.x1,s_0.x2,s_0.x3])[(t51).toNat]?=some e56) (e58:(List zd)) (h59:([other_1.x0,other_1.x1,other_1.x2,other_1.x3])[(t51).toNat]?=some e58) (wr70:World) (ff71:Nat→Prop) (v72:Value) (sl73:Sl zb ff71 wr70 v72 e58):NN 7 #[Y,Y,Z,Y,Y,Y,Z,Z,Z,Z,Z,Z] [(15,pEl (.slice (some ⟨b29,0,none⟩) 4 4) t51 1 0),(19,v72)] [zh wr70 ff71] (uo e56 e58 (fun (r68,r69)=>k55 (r68,r69))):=by
    refine d1 2 rfl (xc 4 zL h57 xE ?_);rintro wr74 ff75 _ ⟨v76,rfl,sl77⟩;refine ⟨v76,rfl,?_⟩;exact rd [2,3,4,5] [1,0,2,3,4,5] (H773 e56 h57 e58 h59 wr74 ff75 v76 sl77 wr70 ff71 v72 sl73)
   refine zw (dI 0) ?_;refine jZ (dI 1) 3 zj xD ?_;intro e56 h57;refine zw (dI 3) ?_;refine jZ (dI 4) 2 zj xD ?_;intro e58 h59;refine uw (i:=2) (j:=5) rfl rfl (by kernel_rfl) ?_ ?_
   ·intro o ho;cases ho;refine xc 3 zL h57 xE ?_;rintro wr60 ff61 _ ⟨v62,rfl,sl63⟩;refine ⟨v62,rfl,?_⟩;exact rd [1,2,3,4] [0,1,2,3,4] (H774 e56 h57 e58 h59 wr60 ff61 v62 sl63)
   ·intro o ho;cases ho;refine xc 2 zL h59 xE ?_;rintro wr70 ff71 _ ⟨v72,rfl,sl73⟩;refine ⟨v72,rfl,?_⟩;exact rd [1,2,3,4] [0,1,2,3,4] (H775 e56 h57 e58 h59 wr70 ff71 v72 sl73)
  ·rintro ⟨t53,t54⟩;refine nxj ?_;refine y10 ?_;refine mv ?_;refine js st ?_;refine y1 ?_;refine zi ?_ ?_
   ·refine y0 ?_;refine xP st (qs:=[]) (cells:=[I 0,I 0,I 0,I 0]) (bqi rfl) zjJ ?_;refine stw (jm (cs':=[I 0,I 0,I 0,I 0]) 1 zgi ?_);refine ma ?_;refine y19 ?_;exact jV Tryz.results156 (uG.mk 0 0 0 0,false) () (Z2 1 rfl rfl zgi rfl) (jp rfl) rfl (fun _ _=>zN.nil _ _ _ _)
   ·refine y21 ?_;refine mv ?_;refine mv ?_;refine jZ st 0 zj zc2 ?_;intro e78 h79;refine stw (X2 (enc:=ya) (y':=t53) 0 xF h79 ty3 ?_);refine y15 ?_;refine zK st ?_;intro t81;refine mv ?_;refine zA ?_;exact lj [0,1,2,3]
 ·refine y7 ?_;refine UG 0 rfl ?_;intro e82 e83 e84 e85;refine stw (ziD yy (u:=[I e82,I e83,I e84,I e85]) 0 zj xF zkQ ?_);refine stw (zk Tryz.call201 (by intro w m h;exact rf0 (zcn (F:=z6 [] w) (fields_0:=(zgO.mk e82 e83 e84 e85)) zp h)) ?_);rintro r87 _;refine stw (jm (cs':=[I r87.xFrom,I r87.xTo,I r87.xPort,I r87.xProto]) 1 zgi ?_);refine ma ?_;refine y3 ?_;exact jV Tryz.results156 (r87,true) () (Z2 1 rfl rfl zgi rfl) (jp rfl) rfl (fun _ _=>zN.nil _ _ _ _)
theorem Y3 {w0:World} {F:Nat→Prop} {v1 v3 v5 v7 v9 v11 v13 v15:Value} {s_0 other_1:za} {κ:Bool→Prop} (hF:Fr [] F w0) (hv1:Sl zb F w0 v1 s_0.x0) (hv3:Sl zb F w0 v3 s_0.x1) (hv5:Sl zb F w0 v5 s_0.x2) (hv7:Sl zb F w0 v7 s_0.x3) (hv9:Sl zb F w0 v9 other_1.x0) (hv11:Sl zb F w0 v11 other_1.x1) (hv13:Sl zb F w0 v13 other_1.x2) (hv15:Sl zb F w0 v15 other_1.x3) (h:uT s_0 other_1 κ) :
  Calls Tryz.prog 100 #[(.agg #[v1,v3,v5,v7]),(.agg #[v9,v11,v13,v15])] w0 (Ret [] F w0 κ (fun r (u:Unit)=>(.bool r)) (fun r u=>[])):=by
 refine eS hF Tryz.func100 Tryz.ntmps100 h ?_;clear h hF;refine y0 ?_;obtain ⟨a17,l18,q19,rfl⟩:=zq hv1;obtain ⟨a20,l21,q22,rfl⟩:=zq hv3;obtain ⟨a23,l24,q25,rfl⟩:=zq hv5;obtain ⟨a26,l27,q28,rfl⟩:=zq hv7;refine stw (Zt (El':=(zE zb)) (len:=4) ([s_0.x0,s_0.x1,s_0.x2,s_0.x3]) ([[.slice a17 l18 q19],[.slice a20 l21 q22],[.slice a23 l24 q25],[.slice a26 l27 q28]]) (fun w m=>⟨⟨.slice a17 l18 q19,rfl,m.roS 0 rfl hv1⟩,⟨.slice a20 l21 q22,rfl,m.roS 0 rfl hv3⟩,⟨.slice a23 l24 q25,rfl,m.roS 0 rfl hv5⟩,⟨.slice a26 l27 q28,rfl,m.roS 0 rfl hv7⟩,trivial⟩) ?_);intro b29;obtain ⟨a31,l32,q33,rfl⟩:=zq hv9;obtain ⟨a34,l35,q36,rfl⟩:=zq hv11;obtain ⟨a37,l38,q39,rfl⟩:=zq hv13;obtain ⟨a40,l41,q42,rfl⟩:=zq hv15;refine stw (Zt (El':=(zE zb)) (len:=4) ([other_1.x0,other_1.x1,other_1.x2,other_1.x3]) ([[.slice a31 l32 q33],[.slice a34 l35 q36],[.slice a37 l38 q39],[.slice a40 l41 q42]]) (fun w m=>⟨⟨.slice a31 l32 q33,rfl,m.roS 1 rfl hv9⟩,⟨.slice a34 l35 q36,rfl,m.roS 1 rfl hv11⟩,⟨.slice a37 l38 q39,rfl,m.roS 1 rfl hv13⟩,⟨.slice a40 l41 q42,rfl,m.roS 1 rfl hv15⟩,trivial⟩) ?_);intro b43;refine ma ?_;refine y2 ?_;refine stw (xf (len:=4) 1 zL jF ?_);rintro wr45 ff46 _ hr_;obtain ⟨_,_,_,_,rfl,⟨v48,rfl,sl49⟩,⟨v51,rfl,sl52⟩,⟨v54,rfl,sl55⟩,⟨v57,rfl,sl58⟩⟩:=jH hr_;refine ⟨[v48,v51,v54,v57],rfl,?_⟩;refine stw (xf (len:=4) 1 zL jF ?_);rintro wr60 ff61 _ hr_;obtain ⟨_,_,_,_,rfl,⟨v63,rfl,sl64⟩,⟨v66,rfl,sl67⟩,⟨v69,rfl,sl70⟩,⟨v72,rfl,sl73⟩⟩:=jH hr_;refine ⟨[v63,v66,v69,v72],rfl,?_⟩;refine stw (zk Tryz.call156 (by intro w m h;exact rf0 (UP (F:=z6 [] w) (s_0:=s_0) (other_1:=other_1) zp (m.q 1 sl49) (m.q 1 sl52) (m.q 1 sl55) (m.q 1 sl58) (m.q 0 sl64) (m.q 0 sl67) (m.q 0 sl70) (m.q 0 sl73) h)) ?_);rintro ⟨r75,r76⟩ _;refine mv ?_;refine ju st (vs:=[.agg #[I r75.xFrom,I r75.xTo,I r75.xPort,I r75.xProto],.bool r76]) ?_;refine ju st (vs:=[.agg #[I r75.xFrom,I r75.xTo,I r75.xPort,I r75.xProto],.bool r76]) ?_;refine stw (jq [I 0,I 0,I 0,I 0] zgb ?_);intro b77;refine stw (jm (cs':=[I r75.xFrom,I r75.xTo,I r75.xPort,I r75.xProto]) 0 zgi ?_);refine ma ?_;refine y2 ?_;refine mv ?_;refine ma ?_;refine y3 ?_;exact lu Tryz.results100
theorem Yo {w0:World} {F:Nat→Prop} {v1:Value} {list_0:(List zd)} {κ:((List zd)×Bool)→Prop} (hF:Fr [] F w0) (hv1:Sl zb F w0 v1 list_0) (h:uZ list_0 κ) :
  Calls Tryz.prog 202 #[v1] w0 (Ret [] F w0 κ (fun r (u:Value)=>.tuple #[u,(.bool r.2)]) (fun r u=>[jC zb u r.1])):=by
 refine eS hF Tryz.func202 Tryz.ntmps202 h ?_;clear h hF;refine y0 ?_;refine stw (jL zb 89 ?_);refine ma ?_;refine y4 ?_;refine mv ?_;refine zH st jA 1 (zc hv1) ?_;refine yA st ?_;refine y1 ?_;refine zi ?_ ?_
 ·refine y0 ?_;refine stw (jL zb 89 ?_);refine ma ?_;refine y6 ?_;refine frz 0 rfl zj ?_;exact jV Tryz.results202 ([],false) S0 (jp rfl) (jp rfl) rfl (fun w m=>zN.ofB m [0] rfl)
 ·refine y8 ?_;refine mv ?_;refine ma ?_;refine ma ?_;refine y3 ?_;refine jx 1 rfl hv1 ?_;exact jV Tryz.results202 (list_0,true) v1 (jp rfl) (jp rfl) rfl (fun w m=>zN.ofB m [0] rfl)
theorem yV {w0:World} {F:Nat→Prop} {v1:Value} {rest_0:(List zd)} {at_1 top_2:Int} {κ:(Bool×Int)→Prop} (hF:Fr [] F w0) (hv1:Sl zb F w0 v1 rest_0) (h:xY rest_0 at_1 top_2 κ) :
  Calls Tryz.prog 235 #[v1,(I at_1),(I top_2)] w0 (Ret [] F w0 κ (fun r (u:Unit)=>.tuple #[(.bool r.1),(I r.2)]) (fun r u=>[])):=by
 refine eS hF Tryz.func235 Tryz.ntmps235 h ?_;clear h hF;refine y0 ?_;refine ma ?_;refine ma ?_;refine y4 ?_;refine mv ?_;refine zH st jA 0 (zc hv1) ?_;refine xm st x6 ?_;refine y1 ?_;refine zi ?_ ?_
 ·refine y0 ?_;refine mv ?_;refine ma ?_;refine ma ?_;refine y6 ?_;exact jV Tryz.results235 (false,top_2) () (jp rfl) (jp rfl) rfl (fun _ _=>zN.nil _ _ _ _)
 ·refine y13 ?_;refine mv ?_;refine mv ?_;refine zF st 0 (zc hv1) jA ?_;intro e3 h4;refine jg st 0 (zc hv1) h4 yv ?_;refine jK st (enc:=zP) (u:=(I e3.xLo)) 0 (zc hv1) zr h4 ty3 ?_;refine zM st ?_;refine y1 ?_;refine zi ?_ ?_
  ·refine jr ?_;refine xN mixed 7 rfl [zh w0 F] ?_;refine zw (dI 0) ?_;refine zF (dI 1) 0 (zc hv1) jA ?_;intro e5 h6;refine jg (dI 2) 0 (zc hv1) h6 yv ?_;refine jK (dI 3) (enc:=zP) (u:=(I e5.xLo)) 0 (zc hv1) zr h6 ty3 ?_;refine ZK (dI 4) ?_;intro t7;refine ue (dI 5) ?_;refine ue (dI 6) ?_;refine jD (by kernel_rfl) ?_;refine zO (uv (xp ?_));exact jV Tryz.results235 (false,t7) () (jp rfl) (jp rfl) rfl (fun _ _=>zN.nil _ _ _ _)
  ·refine jT (zO (jr ?_));refine xN mixed 6 rfl [zh w0 F] ?_;refine zw (dI 0) ?_;refine zF (dI 1) 0 (zc hv1) jA ?_;intro e8 h9;refine jg (dI 2) 0 (zc hv1) h9 xO ?_;refine jK (dI 3) (enc:=zP) (u:=(I e8.xHi)) 0 (zc hv1) zr h9 ty3 ?_;refine ue (dI 4) ?_;refine ue (dI 5) ?_;refine jD (by kernel_rfl) ?_;refine zO (uv ?_);exact jV Tryz.results235 (true,e8.xHi) () (jp rfl) (jp rfl) rfl (fun _ _=>zN.nil _ _ _ _)
theorem zdW {w0:World} {F:Nat→Prop} {inA_0 inB_1:Bool} {κ:Bool→Prop} (hF:Fr [] F w0) (h:XE inA_0 inB_1 κ) :
  Calls Tryz.prog 204 #[(.bool inA_0),(.bool inB_1)] w0 (Ret [] F w0 κ (fun r (u:Unit)=>(.bool r)) (fun r u=>[])):=by
 refine Zo (args:=[.bool inA_0,.bool inB_1]) [] hF (ub.nil _ _) Tryz.func204 rfl Tryz.ntmps204 rfl h ?_;clear h hF;let JJ:=Jn 9 [] F w0;refine y0 ?_;refine ma ?_;refine y1 ?_;refine je (σ:=Bool) (fun t61=>JJ [(4,.bool t61)] []) ?_ ?_
 ·intro k62;refine zt ?_;refine mv ?_;refine mv ?_;refine xo (dj:=6) rfl ?_ ?_
  ·refine zw (zX rfl rfl) ?_;refine zY st ?_;refine ma ?_;refine zA ?_;exact lj []
  ·refine ss ?_;refine zQ st ?_;refine ma ?_;refine zA ?_;exact lj []
 ·rintro t61;refine nxj ?_;refine uv ?_;exact lu Tryz.results204
theorem YK {w0:World} {F:Nat→Prop} {v1 v3:Value} {a_0 b_1:(List zd)} {top_2:Int} {κ:(List zd)→Prop} (hF:Fr [] F w0) (hv1:Sl zb F w0 v1 a_0) (hv3:Sl zb F w0 v3 b_1) (h:x7 a_0 b_1 top_2 κ) :
  Calls Tryz.prog 203 #[v1,v3,(I top_2),(.func (.func 204) #[] #[])] w0 (Ret [] F w0 κ (fun r (u:Value)=>u) (fun r u=>[ze zb 89 u r])):=by
 refine eS hF Tryz.func203 Tryz.ntmps203 h ?_;clear h hF;let JJ:=Jn 107 [] F w0;refine y0 ?_;refine stw (jL zb 89 ?_);refine y2 ?_;refine stw (jL zb 89 ?_);refine y2 ?_;refine ma ?_;refine ma ?_;refine y4 ?_;refine ma ?_;refine y5 ?_;refine zZ (σ:=((List zd)×Int×Int×Int)) (fun ((xs8,t11,t12,t13):((List zd)×Int×Int×Int)) (a:Act) (w:World)=>∃ (v7:Value),JJ [(0,v1),(1,v3),(2,I top_2),(3,.func (.func 204) #[] #[]),(9,v7),(10,I t11),(11,I t12),(12,I t13)] [zh w0 F,ze zb 89 v7 xs8] a w) (jE S0 [2,0]) ?_;rintro nx14 ⟨xs8,t11,t12,t13⟩ a w ⟨v7,hE,hm⟩ h;refine jw hE hm h ?_;clear hE hm h;refine y10 ?_;refine mv ?_;refine mv ?_;refine X1 st ?_;refine y1 ?_;refine zi ?_ ?_
 ·refine jT (zO (uh (jr (uh ?_))));refine zZ (σ:=Int) (fun t15=>JJ [(0,v1),(1,v3),(2,I top_2),(3,.func (.func 204) #[] #[]),(9,v7),(10,I t15),(11,I t12),(12,I t13)] [ze zb 89 v7 xs8,zh w0 F]) (jI [1,0]) ?_;rintro nx16 t15;refine nxj ?_;refine jr ?_;refine je (σ:=Bool) (fun t79=>JJ [(0,v1),(1,v3),(2,I top_2),(3,.func (.func 204) #[] #[]),(9,v7),(10,I t15),(11,I t12),(12,I t13),(34,.bool t79)] [ze zb 89 v7 xs8,zh w0 F]) ?_ ?_
  ·intro k80;refine zt ?_;refine mv ?_;refine mv ?_;refine zH st jA 1 (zc hv1) ?_;refine zM st ?_;refine mv ?_;refine xo (dj:=26) rfl ?_ ?_
   ·refine zw (zX rfl rfl) ?_;refine zw (zX rfl rfl) ?_;refine zF (zX rfl rfl) 1 (zc hv1) jA ?_;intro e17 h18;refine jg (zX rfl rfl) 1 (zc hv1) h18 xO ?_;refine jK (zX rfl rfl) (enc:=zP) (u:=(I e17.xHi)) 1 (zc hv1) zr h18 ty3 ?_;refine zw (zX rfl rfl) ?_;refine zM (zX rfl rfl) ?_;refine zY st ?_;refine zA ?_;exact lj [0,1]
   ·refine ss ?_;refine ss ?_;refine ss ?_;refine ss ?_;refine ss ?_;refine ss ?_;refine ss ?_;refine zQ st ?_;refine zA ?_;exact lj [0,1]
  ·rintro t79;refine nxj ?_;refine zi ?_ ?_
   ·refine y31 ?_;refine mv ?_;refine zK st ?_;intro t81;refine ma ?_;refine y12 ?_;exact lj [0,1]
   ·refine YC (uX (uX (Yr (zO (jr (uh ?_))))));refine zZ (σ:=Int) (fun t82=>JJ [(0,v1),(1,v3),(2,I top_2),(3,.func (.func 204) #[] #[]),(9,v7),(10,I t15),(11,I t82),(12,I t13)] [ze zb 89 v7 xs8,zh w0 F]) (jI [0,1]) ?_;rintro nx83 t82;refine nxj ?_;refine jr ?_;refine je (σ:=Bool) (fun t146=>JJ [(0,v1),(1,v3),(2,I top_2),(3,.func (.func 204) #[] #[]),(9,v7),(10,I t15),(11,I t82),(12,I t13),(49,.bool t146)] [ze zb 89 v7 xs8,zh w0 F]) ?_ ?_
    ·intro k147;refine zt ?_;refine mv ?_;refine mv ?_;refine zH st jA 1 (zc hv3) ?_;refine zM st ?_;refine mv ?_;refine xo (dj:=41) rfl ?_ ?_
     ·refine zw (zX rfl rfl) ?_;refine zw (zX rfl rfl) ?_;refine zF (zX rfl rfl) 1 (zc hv3) jA ?_;intro e84 h85;refine jg (zX rfl rfl) 1 (zc hv3) h85 xO ?_;refine jK (zX rfl rfl) (enc:=zP) (u:=(I e84.xHi)) 1 (zc hv3) zr h85 ty3 ?_;refine zw (zX rfl rfl) ?_;refine zM (zX rfl rfl) ?_;refine zY st ?_;refine zA ?_;exact lj [0,1]
     ·refine ss ?_;refine ss ?_;refine ss ?_;refine ss ?_;refine ss ?_;refine ss ?_;refine ss ?_;refine zQ st ?_;refine zA ?_;exact lj [0,1]
    ·rintro t146;refine nxj ?_;refine zi ?_ ?_
     ·refine y31 ?_;refine mv ?_;refine zK st ?_;intro t148;refine ma ?_;refine y12 ?_;exact lj [0,1]
     ·refine y7 ?_;refine mv ?_;refine mv ?_;refine jx 1 rfl hv1 ?_;refine stw (XA (I:=t15) (J:=(a_0.length:Int)) 0 jA ?_);intro v149 xs150;refine mv ?_;refine mv ?_;refine stw (zk Tryz.call235 (by intro w m h;exact rf0 (yV (F:=z6 [] w) (rest_0:=xs150) (at_1:=t13) (top_2:=top_2) zp (m.rd0 0 rfl uI) h)) ?_);rintro ⟨r153,r154⟩ _;refine mv ?_;refine ju st (vs:=[.bool r153,I r154]) ?_;refine ju st (vs:=[.bool r153,I r154]) ?_;refine ma ?_;refine ma ?_;refine y2 ?_;refine mv ?_;refine mv ?_;refine jx 3 rfl hv3 ?_;refine stw (XA (I:=t82) (J:=(b_1.length:Int)) 0 jA ?_);intro v155 xs156;refine mv ?_;refine mv ?_;refine stw (zk Tryz.call235 (by intro w m h;exact rf0 (yV (F:=z6 [] w) (rest_0:=xs156) (at_1:=t13) (top_2:=top_2) zp (m.rd0 0 rfl uI) h)) ?_);rintro ⟨r159,r160⟩ _;refine mv ?_;refine ju st (vs:=[.bool r159,I r160]) ?_;refine ju st (vs:=[.bool r159,I r160]) ?_;refine ma ?_;refine ma ?_;refine y2 ?_;refine mv ?_;refine mv ?_;refine zbQ st ?_;refine ma ?_;refine y1 ?_;refine je (σ:=(List zd)) (fun (xs296:(List zd)) (a:Act) (w:World)=>∃ (v297:Value),JJ [(0,v1),(1,v3),(2,I top_2),(3,.func (.func 204) #[] #[]),(9,v297),(10,I t15),(11,I t82),(17,I (min r154 r160))] [ze zb 89 v297 xs296,zh w0 F] a w) ?_ ?_
      ·intro k299;refine y0 ?_;refine mv ?_;refine mv ?_;refine mv ?_;refine stw (zb2 (zdq rfl rfl Tryz.call204) (by intro w m h;exact rf0 (zdW (F:=z6 [] w) (inA_0:=r153) (inB_1:=r159) zp h)) ?_);rintro r161 _;refine y1 ?_;refine zi ?_ ?_
       ·refine y0 ?_;refine mv ?_;refine zH st jA 4 zj ?_;refine ma ?_;refine y1 ?_;refine je (σ:=Bool) (fun t226=>JJ [(0,v1),(1,v3),(2,I top_2),(3,.func (.func 204) #[] #[]),(9,v7),(10,I t15),(11,I t82),(12,I t13),(17,I (min r154 r160)),(18,I (xs8.length:Int)),(91,.bool t226)] [ze zb 89 v7 xs8,zh w0 F]) ?_ ?_
        ·intro k227;refine zt ?_;refine mv ?_;refine yA st ?_;refine mv ?_;refine xo (dj:=81) rfl ?_ ?_
         ·refine zw (zX rfl rfl) ?_;refine zw (zX rfl rfl) ?_;refine ZK (zX rfl rfl) ?_;intro t162;refine zF (zX rfl rfl) 4 zj jA ?_;intro e163 h164;refine jg (zX rfl rfl) 4 zj h164 xO ?_;refine jK (zX rfl rfl) (enc:=zP) (u:=(I e163.xHi)) 4 zj zr h164 ty3 ?_;refine zK (zX rfl rfl) ?_;intro t165;refine zw (zX rfl rfl) ?_;refine xm (zX rfl rfl) x6 ?_;refine zY st ?_;refine zA ?_;exact lj [4,5]
         ·refine ss ?_;refine ss ?_;refine ss ?_;refine ss ?_;refine ss ?_;refine ss ?_;refine ss ?_;refine ss ?_;refine ss ?_;refine zQ st ?_;refine zA ?_;exact lj [4,5]
        ·rintro t226;refine nxj ?_;refine zi ?_ ?_
         ·refine zt ?_;refine mv ?_;refine mv ?_;refine ZK st ?_;intro t228;refine mv ?_;refine zF st 0 zj jA ?_;intro e229 h230;refine jg st 0 zj h230 xO ?_;refine stw (X2 (enc:=zP) (y':=(zd.mk e229.xLo (min r154 r160))) 0 zr h230 ty3 ?_);refine zA ?_;exact zT (xs8.set (t228).toNat (zd.mk e229.xLo (min r154 r160))) (jE v7 [0,1])
         ·refine zt ?_;refine mv ?_;refine mv ?_;refine mv ?_;refine xP st (qs:=[(0,I t13),(1,I (min r154 r160))]) (cells:=[I t13,I (min r154 r160)]) (bqi rfl) UC ?_;refine stw (um (enc:=zP) (qs:=[(0,.agg #[I t13,I (min r154 r160)])]) (cells:=[I t13,I (min r154 r160)]) ([zd.mk t13 (min r154 r160)]) zr (by intro ρ h;simp only [List.map_toArray,List.map_cons,List.map_nil,h (.tmp 101) _ rfl]) jA xz ?_);intro v232;refine stw (xr 1 0 (uq zr zj) jA xz ?_);intro v234;refine ma ?_;refine zA ?_;exact zT (xs8++([zd.mk t13 (min r154 r160)])) (jE v234 [1,2])
       ·refine jT ?_;exact zT xs8 (jE v7 [4,5])
      ·rintro xs296 a w ⟨v297,hE,hm⟩ h;refine jw hE hm h ?_;clear hE hm h;refine zt ?_;refine mv ?_;refine zK st ?_;intro t300;refine ma ?_;refine y12 ?_;exact zT (xs296,t15,t82,t300) (jE v297 [1,0])
 ·refine y7 ?_;refine mv ?_;refine ma ?_;refine y3 ?_;exact jf Tryz.results203 xs8 v7 (jp rfl) (fun w m=>zN.ofB m [1] rfl)
theorem yU {w0:World} {F:Nat→Prop} {v1 v3:Value} {a_0 b_1:(List zd)} {top_2:Int} {κ:((List zd)×Bool)→Prop} (hF:Fr [] F w0) (hv1:Sl zb F w0 v1 a_0) (hv3:Sl zb F w0 v3 b_1) (h:zD a_0 b_1 top_2 κ) :
  Calls Tryz.prog 157 #[v1,v3,(I top_2)] w0 (Ret [] F w0 κ (fun r (u:Value)=>.tuple #[u,(.bool r.2)]) (fun r u=>[jC zb u r.1])):=by
 refine eS hF Tryz.func157 Tryz.ntmps157 h ?_;clear h hF;refine y0 ?_;refine stw (jL zb 89 ?_);refine ma ?_;refine y2 ?_;refine mv ?_;refine mv ?_;refine mv ?_;refine stw (zk Tryz.call203 (by intro w m h;exact rf (fun _ _=>(ji (xj zr) jv)) (YK (F:=z6 [] w) (a_0:=a_0) (b_1:=b_1) (top_2:=top_2) zp (m.q 1 hv1) (m.q 1 hv3) h)) ?_);rintro r6 v7;refine frz 0 rfl zj ?_;refine stw (zk Tryz.call202 (by intro w m h;exact Yo (list_0:=r6) jY (m.ro 0 rfl) h) ?_);rintro ⟨r9,r12⟩ v10;refine ju st (vs:=[v10,.bool r12]) ?_;refine ju st (vs:=[v10,.bool r12]) ?_;refine ma ?_;refine ma ?_;refine y3 ?_;exact jV Tryz.results157 (r9,r12) v10 (jp rfl) (jp rfl) rfl (fun w m=>zN.ofB m [0] rfl)
theorem zaR {w0:World} {F:Nat→Prop} {v1 v3 v5 v7 v9 v11 v13 v15:Value} {s_0 other_1:za} {κ:(za×Bool)→Prop} (hF:Fr [] F w0) (hv1:Sl zb F w0 v1 s_0.x0) (hv3:Sl zb F w0 v3 s_0.x1) (hv5:Sl zb F w0 v5 s_0.x2) (hv7:Sl zb F w0 v7 s_0.x3) (hv9:Sl zb F w0 v9 other_1.x0) (hv11:Sl zb F w0 v11 other_1.x1) (hv13:Sl zb F w0 v13 other_1.x2) (hv15:Sl zb F w0 v15 other_1.x3) (hgl0:Sl jb F w0 (.slice (some ⟨0,0,none⟩) 4 4) zJ) (h:ZX s_0 other_1 κ) :
  Calls Tryz.prog 101 #[(.agg #[v1,v3,v5,v7]),(.agg #[v9,v11,v13,v15])] w0 (Ret [] F w0 κ (fun r (u:Value×Value×Value×Value)=>.tuple #[(.agg #[u.1,u.2.1,u.2.2.1,u.2.2.2]),(.bool r.2)]) (fun r u=>[jC zb u.1 r.1.x0,jC zb u.2.1 r.1.x1,jC zb u.2.2.1 r.1.x2,jC zb u.2.2.2 r.1.x3])):=by
 refine eS hF Tryz.func101 Tryz.ntmps101 h ?_;clear h hF;let JJ:=Jn 33 [] F w0;refine y0 ?_;obtain ⟨a17,l18,q19,rfl⟩:=zq hv1;obtain ⟨a20,l21,q22,rfl⟩:=zq hv3;obtain ⟨a23,l24,q25,rfl⟩:=zq hv5;obtain ⟨a26,l27,q28,rfl⟩:=zq hv7;refine stw (Zt (El':=(zE zb)) (len:=4) ([s_0.x0,s_0.x1,s_0.x2,s_0.x3]) ([[.slice a17 l18 q19],[.slice a20 l21 q22],[.slice a23 l24 q25],[.slice a26 l27 q28]]) (fun w m=>⟨⟨.slice a17 l18 q19,rfl,m.roS 0 rfl hv1⟩,⟨.slice a20 l21 q22,rfl,m.roS 0 rfl hv3⟩,⟨.slice a23 l24 q25,rfl,m.roS 0 rfl hv5⟩,⟨.slice a26 l27 q28,rfl,m.roS 0 rfl hv7⟩,trivial⟩) ?_);intro b29;obtain ⟨a31,l32,q33,rfl⟩:=zq hv9;obtain ⟨a34,l35,q36,rfl⟩:=zq hv11;obtain ⟨a37,l38,q39,rfl⟩:=zq hv13;obtain ⟨a40,l41,q42,rfl⟩:=zq hv15;refine stw (Zt (El':=(zE zb)) (len:=4) ([other_1.x0,other_1.x1,other_1.x2,other_1.x3]) ([[.slice a31 l32 q33],[.slice a34 l35 q36],[.slice a37 l38 q39],[.slice a40 l41 q42]]) (fun w m=>⟨⟨.slice a31 l32 q33,rfl,m.roS 1 rfl hv9⟩,⟨.slice a34 l35 q36,rfl,m.roS 1 rfl hv11⟩,⟨.slice a37 l38 q39,rfl,m.roS 1 rfl hv13⟩,⟨.slice a40 l41 q42,rfl,m.roS 1 rfl hv15⟩,trivial⟩) ?_);intro b43;refine stw (x9 (El':=(zE zb)) (z:=([]:(List zd))) (len:=4) (zs:=[S0]) (fun F w=>⟨_,rfl,Sl.nil ..⟩) xM ?_);intro b45;refine ma ?_;refine y2 ?_;refine stw (x9 (El':=(zE zb)) (z:=([]:(List zd))) (len:=4) (zs:=[S0]) (fun F w=>⟨_,rfl,Sl.nil ..⟩) xM ?_);intro b47;refine y4 ?_;refine mv ?_;refine y5 ?_;refine zZ (σ:=((List (List zd))×Int)) (fun ((xs49,t51):((List (List zd))×Int)) (a:Act) (w:World)=>JJ [(2,pp b29),(3,pp b43),(4,pp b45),(6,pp b47),(10,I t51)] [ze (zE zb) 137 (.slice (some ⟨b47,0,none⟩) 4 4) xs49,ze (zE zb) 137 (.slice (some ⟨b45,0,none⟩) 4 4) ([[],[],[],[]]),ze (zE zb) 137 (.slice (some ⟨b43,0,none⟩) 4 4) ([other_1.x0,other_1.x1,other_1.x2,other_1.x3]),ze (zE zb) 137 (.slice (some ⟨b29,0,none⟩) 4 4) ([s_0.x0,s_0.x1,s_0.x2,s_0.x3]),zh w0 F] a w) (jI [0,1,2,3,4]) ?_;rintro nx52 ⟨xs49,t51⟩;refine nxj ?_;refine y0 ?_;refine zM st ?_;refine y9 ?_;refine zi ?_ ?_
 ·refine y11 ?_;refine mv ?_;refine ma ?_;refine y1 ?_;refine je (σ:=((List zd)×Bool)) (fun ((xs53,t56):((List zd)×Bool)) (a:Act) (w:World)=>∃ (v54:Value),JJ [(2,pp b29),(3,pp b43),(4,pp b45),(6,pp b47),(10,I t51),(7,I t51),(8,v54),(9,.bool t56)] [jC zb v54 xs53,ze (zE zb) 137 (.slice (some ⟨b47,0,none⟩) 4 4) xs49,ze (zE zb) 137 (.slice (some ⟨b45,0,none⟩) 4 4) ([[],[],[],[]]),ze (zE zb) 137 (.slice (some ⟨b43,0,none⟩) 4 4) ([other_1.x0,other_1.x1,other_1.x2,other_1.x3]),ze (zE zb) 137 (.slice (some ⟨b29,0,none⟩) 4 4) ([s_0.x0,s_0.x1,s_0.x2,s_0.x3]),zh w0 F] a w) ?_ ?_
  ·intro k57;refine yM mixed 14 rfl [ze (zE zb) 137 (.slice (some ⟨b47,0,none⟩) 4 4) xs49,ze (zE zb) 137 (.slice (some ⟨b45,0,none⟩) 4 4) ([[],[],[],[]]),ze (zE zb) 137 (.slice (some ⟨b43,0,none⟩) 4 4) ([other_1.x0,other_1.x1,other_1.x2,other_1.x3]),ze (zE zb) 137 (.slice (some ⟨b29,0,none⟩) 4 4) ([s_0.x0,s_0.x1,s_0.x2,s_0.x3]),zh w0 F] ?_;intro Qd hP hQ;let NN:=fun i l E L=>Nn 33 [] F w0 Tryz.prog (Y5 Tryz.f101 [1,1,0,1,0,0,1,1,0,0,1,0]) Qd [ze (zE zb) 137 (.slice (some ⟨b47,0,none⟩) 4 4) xs49,ze (zE zb) 137 (.slice (some ⟨b45,0,none⟩) 4 4) ([[],[],[],[]]),ze (zE zb) 137 (.slice (some ⟨b43,0,none⟩) 4 4) ([other_1.x0,other_1.x1,other_1.x2,other_1.x3]),ze (zE zb) 137 (.slice (some ⟨b29,0,none⟩) 4 4) ([s_0.x0,s_0.x1,s_0.x2,s_0.x3]),zh w0 F] i l ([(2,pp b29),(3,pp b43),(4,pp b45),(6,pp b47),(10,I t51),(7,I t51)]++E) (L++[ze (zE zb) 137 (.slice (some ⟨b47,0,none⟩) 4 4) xs49,ze (zE zb) 137 (.slice (some ⟨b45,0,none⟩) 4 4) ([[],[],[],[]]),ze (zE zb) 137 (.slice (some ⟨b43,0,none⟩) 4 4) ([other_1.x0,other_1.x1,other_1.x2,other_1.x3]),ze (zE zb) 137 (.slice (some ⟨b29,0,none⟩) 4 4) ([s_0.x0,s_0.x1,s_0.x2,s_0.x3]),zh w0 F]);have H1308 (e58:(List zd)) (h59:([s_0.x0,s_0.x1,s_0.x2,s_0.x3])[(t51).toNat]?=some e58) (e60:(List zd)) (h61:([other_1.x0,other_1.x1,other_1.x2,other_1.x3])[(t51).toNat]?=some e60) (wr62:World) (ff63:Nat→Prop) (v64:Value) (sl65:Sl zb ff63 wr62 v64 e58) (wr66:World) (ff67:Nat→Prop) (v68:Value) (sl69:Sl zb ff67 wr66 v68 e60) (r70:Int) (r71:(List zd)) (v72:Value) (r73:Bool):NN 5 #[Y,Y,Y,Y,Y,Y,Y,Y,Y,Z,Z,Z,Z,Z] [(22,.tuple #[v72,.bool r73])] [jC zb v72 r71] (k57 (r71,r73)):=by
    refine zw (dp 9 [1,2,3,4,5]) ?_;refine ju (dp 10 [1,2,3,4,5]) (vs:=[v72,.bool r73]) ?_;refine ju (dp 11 [1,2,3,4,5]) (vs:=[v72,.bool r73]) ?_;refine ue (dp 12 [1,2,3,4,5]) ?_;refine ue (dp 13 [1,2,3,4,5]) ?_;refine jD (by kernel_rfl) ?_;exact fun a w hE hm hφ=>hQ (r71,r73) a w hφ ((jE v72 [0,1,2,3,4,5]) a w hE hm)
   have H1309 (e58:(List zd)) (h59:([s_0.x0,s_0.x1,s_0.x2,s_0.x3])[(t51).toNat]?=some e58) (e60:(List zd)) (h61:([other_1.x0,other_1.x1,other_1.x2,other_1.x3])[(t51).toNat]?=some e60) (wr62:World) (ff63:Nat→Prop) (v64:Value) (sl65:Sl zb ff63 wr62 v64 e58) (wr66:World) (ff67:Nat→Prop) (v68:Value) (sl69:Sl zb ff67 wr66 v68 e60) (r70:Int):NN 6 #[Y,Y,Y,Y,Y,Y,Y,Y,Z,Z,Z,Z,Z,Z] [(16,v64),(19,v68),(21,I r70)] [zh wr66 ff67,zh wr62 ff63] (zD e58 e60 r70 (fun (r71,r73)=>k57 (r71,r73))):=by
    refine d1 8 rfl (zk Tryz.call157 (by intro w m h;exact yU (a_0:=e58) (b_1:=e60) (top_2:=r70) jY (m.roS 1 rfl sl65) (m.roS 0 rfl sl69) h) ?_);rintro ⟨r71,r73⟩ v72;exact rd [3,4,5,6,7] [0,3,4,5,6,7] (H1308 e58 h59 e60 h61 wr62 ff63 v64 sl65 wr66 ff67 v68 sl69 r70 r71 v72 r73)
   have H1310 (e58:(List zd)) (h59:([s_0.x0,s_0.x1,s_0.x2,s_0.x3])[(t51).toNat]?=some e58) (e60:(List zd)) (h61:([other_1.x0,other_1.x1,other_1.x2,other_1.x3])[(t51).toNat]?=some e60) (wr62:World) (ff63:Nat→Prop) (v64:Value) (sl65:Sl zb ff63 wr62 v64 e58) (wr66:World) (ff67:Nat→Prop) (v68:Value) (sl69:Sl zb ff67 wr66 v68 e60):NN 7 #[Y,Y,Y,Y,Y,Y,Y,Z,Z,Z,Z,Z,Z,Z] [(20,I t51),(16,v64),(19,v68)] [zh wr66 ff67,zh wr62 ff63] (zC t51 (fun r70=>zD e58 e60 r70 (fun (r71,r73)=>k57 (r71,r73)))):=by
    refine d1 7 rfl (zk Tryz.call113 (by intro w m h;exact rf0 (z8 (F:=z6 [] w) (n_0:=t51) zp (m.q 6 hgl0) h)) ?_);rintro r70 _;exact rd [2,3,4,5,6] [0,1,2,3,4,5,6] (H1309 e58 h59 e60 h61 wr62 ff63 v64 sl65 wr66 ff67 v68 sl69 r70)
   have H1311 (e58:(List zd)) (h59:([s_0.x0,s_0.x1,s_0.x2,s_0.x3])[(t51).toNat]?=some e58) (e60:(List zd)) (h61:([other_1.x0,other_1.x1,other_1.x2,other_1.x3])[(t51).toNat]?=some e60) (wr62:World) (ff63:Nat→Prop) (v64:Value) (sl65:Sl zb ff63 wr62 v64 e58) (r74:Int):NN 7 #[Y,Y,Y,Y,Y,Z,Y,Y,Z,Z,Z,Z,Z,Z] [(18,pEl (.slice (some ⟨b43,0,none⟩) 4 4) t51 1 0),(16,v64),(21,I r74)] [zh wr62 ff63] (zD e58 e60 r74 (fun (r71,r73)=>k57 (r71,r73))):=by
    refine d1 5 rfl (xc 3 zL h61 xE ?_);rintro wr75 ff76 _ ⟨v77,rfl,sl78⟩;refine ⟨v77,rfl,?_⟩;exact rd [2,3,4,5,6] [0,1,2,3,4,5,6] (H1309 e58 h59 e60 h61 wr62 ff63 v64 sl65 wr75 ff76 v77 sl78 r74)
   have H1312 (e58:(List zd)) (h59:([s_0.x0,s_0.x1,s_0.x2,s_0.x3])[(t51).toNat]?=some e58) (e60:(List zd)) (h61:([other_1.x0,other_1.x1,other_1.x2,other_1.x3])[(t51).toNat]?=some e60) (wr62:World) (ff63:Nat→Prop) (v64:Value) (sl65:Sl zb ff63 wr62 v64 e58):NN 8 #[Y,Y,Y,Y,Y,Z,Y,Z,Z,Z,Z,Z,Z,Z] [(18,pEl (.slice (some ⟨b43,0,none⟩) 4 4) t51 1 0),(20,I t51),(16,v64)] [zh wr62 ff63] (zC t51 (fun r70=>zD e58 e60 r70 (fun (r71,r73)=>k57 (r71,r73)))):=by
    refine uw (i:=5) (j:=7) rfl rfl (by kernel_rfl) ?_ ?_
    ·intro o ho;cases ho;refine xc 3 zL h61 xE ?_;rintro wr66 ff67 _ ⟨v68,rfl,sl69⟩;refine ⟨v68,rfl,?_⟩;exact rd [2,3,4,5,6] [0,1,2,3,4,5,6] (H1310 e58 h59 e60 h61 wr62 ff63 v64 sl65 wr66 ff67 v68 sl69)
    ·intro o ho;cases ho;refine zk (vs:=[I t51]) Tryz.call113 (by intro w m h;exact rf0 (z8 (F:=z6 [] w) (n_0:=t51) zp (m.q 5 hgl0) h)) ?_;rintro r74 _;exact rd [1,2,3,4,5] [0,1,2,3,4,5] (H1311 e58 h59 e60 h61 wr62 ff63 v64 sl65 r74)
   have H1313 (e58:(List zd)) (h59:([s_0.x0,s_0.x1,s_0.x2,s_0.x3])[(t51).toNat]?=some e58) (e60:(List zd)) (h61:([other_1.x0,other_1.x1,other_1.x2,other_1.x3])[(t51).toNat]?=some e60) (wr79:World) (ff80:Nat→Prop) (v81:Value) (sl82:Sl zb ff80 wr79 v81 e60) (r87:Int):NN 7 #[Y,Y,Z,Y,Y,Y,Y,Y,Z,Z,Z,Z,Z,Z] [(15,pEl (.slice (some ⟨b29,0,none⟩) 4 4) t51 1 0),(19,v81),(21,I r87)] [zh wr79 ff80] (zD e58 e60 r87 (fun (r71,r73)=>k57 (r71,r73))):=by
    refine d1 2 rfl (xc 4 zL h59 xE ?_);rintro wr88 ff89 _ ⟨v90,rfl,sl91⟩;refine ⟨v90,rfl,?_⟩;exact rd [2,3,4,5,6] [1,0,2,3,4,5,6] (H1309 e58 h59 e60 h61 wr88 ff89 v90 sl91 wr79 ff80 v81 sl82 r87)
   have H1314 (e58:(List zd)) (h59:([s_0.x0,s_0.x1,s_0.x2,s_0.x3])[(t51).toNat]?=some e58) (e60:(List zd)) (h61:([other_1.x0,other_1.x1,other_1.x2,other_1.x3])[(t51).toNat]?=some e60) (wr79:World) (ff80:Nat→Prop) (v81:Value) (sl82:Sl zb ff80 wr79 v81 e60):NN 8 #[Y,Y,Z,Y,Y,Y,Y,Z,Z,Z,Z,Z,Z,Z] [(15,pEl (.slice (some ⟨b29,0,none⟩) 4 4) t51 1 0),(20,I t51),(19,v81)] [zh wr79 ff80] (zC t51 (fun r70=>zD e58 e60 r70 (fun (r71,r73)=>k57 (r71,r73)))):=by
    refine uw (i:=2) (j:=7) rfl rfl (by kernel_rfl) ?_ ?_
    ·intro o ho;cases ho;refine xc 4 zL h59 xE ?_;rintro wr83 ff84 _ ⟨v85,rfl,sl86⟩;refine ⟨v85,rfl,?_⟩;exact rd [2,3,4,5,6] [1,0,2,3,4,5,6] (H1310 e58 h59 e60 h61 wr83 ff84 v85 sl86 wr79 ff80 v81 sl82)
    ·intro o ho;cases ho;refine zk (vs:=[I t51]) Tryz.call113 (by intro w m h;exact rf0 (z8 (F:=z6 [] w) (n_0:=t51) zp (m.q 5 hgl0) h)) ?_;rintro r87 _;exact rd [1,2,3,4,5] [0,1,2,3,4,5] (H1313 e58 h59 e60 h61 wr79 ff80 v81 sl82 r87)
   have H1315 (e58:(List zd)) (h59:([s_0.x0,s_0.x1,s_0.x2,s_0.x3])[(t51).toNat]?=some e58) (e60:(List zd)) (h61:([other_1.x0,other_1.x1,other_1.x2,other_1.x3])[(t51).toNat]?=some e60) (r92:Int):NN 8 #[Y,Y,Z,Y,Y,Z,Y,Y,Z,Z,Z,Z,Z,Z] [(15,pEl (.slice (some ⟨b29,0,none⟩) 4 4) t51 1 0),(18,pEl (.slice (some ⟨b43,0,none⟩) 4 4) t51 1 0),(21,I r92)] [] (zD e58 e60 r92 (fun (r71,r73)=>k57 (r71,r73))):=by
    refine uw (i:=2) (j:=5) rfl rfl (by kernel_rfl) ?_ ?_
    ·intro o ho;cases ho;refine xc 3 zL h59 xE ?_;rintro wr93 ff94 _ ⟨v95,rfl,sl96⟩;refine ⟨v95,rfl,?_⟩;exact rd [1,2,3,4,5] [0,1,2,3,4,5] (H1311 e58 h59 e60 h61 wr93 ff94 v95 sl96 r92)
    ·intro o ho;cases ho;refine xc 2 zL h61 xE ?_;rintro wr97 ff98 _ ⟨v99,rfl,sl100⟩;refine ⟨v99,rfl,?_⟩;exact rd [1,2,3,4,5] [0,1,2,3,4,5] (H1313 e58 h59 e60 h61 wr97 ff98 v99 sl100 r92)
   refine zw (dI 0) ?_;refine jZ (dI 1) 3 zj xD ?_;intro e58 h59;refine zw (dI 3) ?_;refine jZ (dI 4) 2 zj xD ?_;intro e60 h61;refine zw (dI 6) ?_;refine V7 (i:=2) (j:=5) (l:=7) rfl rfl rfl (by kernel_rfl) ?_ ?_ ?_
   ·intro o ho;cases ho;refine xc 3 zL h59 xE ?_;rintro wr62 ff63 _ ⟨v64,rfl,sl65⟩;refine ⟨v64,rfl,?_⟩;exact rd [1,2,3,4,5] [0,1,2,3,4,5] (H1312 e58 h59 e60 h61 wr62 ff63 v64 sl65)
   ·intro o ho;cases ho;refine xc 2 zL h61 xE ?_;rintro wr79 ff80 _ ⟨v81,rfl,sl82⟩;refine ⟨v81,rfl,?_⟩;exact rd [1,2,3,4,5] [0,1,2,3,4,5] (H1314 e58 h59 e60 h61 wr79 ff80 v81 sl82)
   ·intro o ho;cases ho;refine zk (vs:=[I t51]) Tryz.call113 (by intro w m h;exact rf0 (z8 (F:=z6 [] w) (n_0:=t51) zp (m.q 4 hgl0) h)) ?_;rintro r92 _;refine xI (fun _ m=>m) ?_;exact rh [0,1,2,3,4] (H1315 e58 h59 e60 h61 r92)
  ·rintro ⟨xs53,t56⟩ a w ⟨v54,hE,hm⟩ h;refine jw hE hm h ?_;clear hE hm h;refine y10 ?_;refine mv ?_;refine js st ?_;refine y1 ?_;refine zi ?_ ?_
   ·refine y0 ?_;refine za2 st (qs:=[]) (cells:=[S0,S0,S0,S0]) (bqi rfl) zdp ?_;refine stw (Ze (El':=(zE zb)) (len:=4) 2 ([[],[],[],[]]) ([[S0],[S0],[S0],[S0]]) (fun w m=>⟨⟨S0,rfl,Sl.nil _ _ _ _ _⟩,⟨S0,rfl,Sl.nil _ _ _ _ _⟩,⟨S0,rfl,Sl.nil _ _ _ _ _⟩,⟨S0,rfl,Sl.nil _ _ _ _ _⟩,trivial⟩) jF ?_);refine ma ?_;refine y19 ?_;refine Yp 2 rfl rfl rfl (by decide) ?_;rintro wr102 ff103 _ hr_;obtain ⟨_,_,_,_,rfl,⟨v105,rfl,sl106⟩,⟨v108,rfl,sl109⟩,⟨v111,rfl,sl112⟩,⟨v114,rfl,sl115⟩⟩:=jH hr_;refine jx 0 rfl sl106 ?_;refine jx 1 rfl sl109 ?_;refine jx 2 rfl sl112 ?_;refine jx 3 rfl sl115 ?_;exact jV Tryz.results101 (za.mk ([]) ([]) ([]) ([]),false) (v105,v108,v111,v114) (Z2 7 rfl rfl jF rfl) (jp rfl) rfl (fun w m=>zN.ofB m [3,2,1,0] rfl)
   ·refine y21 ?_;refine mv ?_;refine mv ?_;refine jZ st 1 zj xD ?_;intro e122 h123;refine Z7 0 rfl ?_;rintro a124 l125 q126 rfl;refine stw (VU (El':=(zE zb)) (y':=xs53) 1 rfl rfl h123 (fun w cs m h=>by obtain ⟨u0_,rfl,s0_⟩:=h;exact ⟨.slice a124 l125 q126,rfl,m.ro 0 rfl⟩) xE rfl rfl rfl rfl rfl ?_);refine y15 ?_;refine zK st ?_;intro t128;refine mv ?_;refine zA ?_;exact lj [1,2,3,4,5]
 ·refine y7 ?_;refine UG 0 rfl ?_;intro e129 e130 e131 e132;refine stw (xf (len:=4) 0 zL jF ?_);rintro wr134 ff135 _ hr_;obtain ⟨_,_,_,_,rfl,⟨v137,rfl,sl138⟩,⟨v140,rfl,sl141⟩,⟨v143,rfl,sl144⟩,⟨v146,rfl,sl147⟩⟩:=jH hr_;refine ⟨[v137,v140,v143,v146],rfl,?_⟩;obtain ⟨a149,l150,q151,rfl⟩:=zq sl138;obtain ⟨a152,l153,q154,rfl⟩:=zq sl141;obtain ⟨a155,l156,q157,rfl⟩:=zq sl144;obtain ⟨a158,l159,q160,rfl⟩:=zq sl147;refine stw (Ze (El':=(zE zb)) (len:=4) 2 ([e129,e130,e131,e132]) ([[.slice a149 l150 q151],[.slice a152 l153 q154],[.slice a155 l156 q157],[.slice a158 l159 q160]]) (fun w m=>⟨⟨.slice a149 l150 q151,rfl,m.roS 0 rfl sl138⟩,⟨.slice a152 l153 q154,rfl,m.roS 0 rfl sl141⟩,⟨.slice a155 l156 q157,rfl,m.roS 0 rfl sl144⟩,⟨.slice a158 l159 q160,rfl,m.roS 0 rfl sl147⟩,trivial⟩) jF ?_);refine ma ?_;refine y3 ?_;refine Yp 2 rfl rfl rfl (by decide) ?_;rintro wr162 ff163 _ hr_;obtain ⟨_,_,_,_,rfl,⟨v165,rfl,sl166⟩,⟨v168,rfl,sl169⟩,⟨v171,rfl,sl172⟩,⟨v174,rfl,sl175⟩⟩:=jH hr_;refine jx 0 rfl sl166 ?_;refine jx 1 rfl sl169 ?_;refine jx 2 rfl sl172 ?_;refine jx 3 rfl sl175 ?_;exact jV Tryz.results101 (za.mk e129 e130 e131 e132,true) (v165,v168,v171,v174) (Z2 7 rfl rfl jF rfl) (jp rfl) rfl (fun w m=>zN.ofB m [3,2,1,0] rfl)
theorem xW {w0:World} {F:Nat→Prop} {b1:Nat} {v2 v7 v4:Value} {u_0_chains:(List (List zz))} {u_0_flats:(List zl)} {u_0_over:Bool} {boxes_1:(List za)} {κ:((List za)×Bool)→Prop} (hF:Fr [zf b1 [v2,v4,(.bool u_0_over)] 169,ze zu 146 v4 u_0_flats] F w0) (hg:ub [zf b1 [v2,v4,(.bool u_0_over)] 169,ze zu 146 v4 u_0_flats] F w0) (hv2:Sl (zE jM) F w0 v2 u_0_chains) (hv7:Sl zg F w0 v7 boxes_1) (h:jO u_0_chains u_0_flats u_0_over boxes_1 κ) :
  Calls Tryz.prog 173 #[(pp b1),v7] w0 (Ret [zf b1 [v2,v4,(.bool u_0_over)] 169,ze zu 146 v4 u_0_flats] F w0 κ (fun r (u:Value)=>u) (fun r u=>[jC zg u r.1,zf b1 [v2,v4,(.bool r.2)] 169,ze zu 146 v4 u_0_flats])):=by
 refine Ye (args:=[pp b1,v7]) [zf b1 [v2,v4,.bool u_0_over] 169,ze zu 146 v4 u_0_flats] hF hg Tryz.func173 rfl Tryz.ntmps173 rfl h ?_;clear h hF hg;let JJ:=Jn 12 [zf b1 [v2,v4,.bool u_0_over] 169,ze zu 146 v4 u_0_flats] F w0;refine y0 ?_;refine stw (jL zg 137 ?_);refine y1 ?_;refine je (σ:=Bool) (fun t70=>JJ [(1,v7)] [zf b1 [v2,v4,.bool t70] 169,ze zu 146 v4 u_0_flats,zh w0 F]) ?_ ?_
 ·intro k71;refine y0 ?_;refine mv ?_;refine zH st Z6 3 (zc hv7) ?_;refine yA st ?_;refine y1 ?_;refine zi ?_ ?_
  ·refine zt ?_;refine mv ?_;refine uC st ?_;refine zy st XG ?_;refine stw (jm (cs':=[v2,v4,.bool true]) 1 ty4 ?_);refine zA ?_;exact lj [1,2,3]
  ·refine jT ?_;exact lj [1,2,3]
 ·rintro t70;refine nxj ?_;refine y0 ?_;refine mv ?_;refine ma ?_;refine y3 ?_;refine jx 2 rfl hv7 ?_;exact jf Tryz.results173 (boxes_1,t70) v7 (jp rfl) (fun w m=>zN.ofB m [0,1,2] rfl)
theorem X5 {w0:World} {F:Nat→Prop} {v1 v3 v5 v7:Value} {s_0:za} {κ:Bool→Prop} (hF:Fr [] F w0) (hv1:Sl zb F w0 v1 s_0.x0) (hv3:Sl zb F w0 v3 s_0.x1) (hv5:Sl zb F w0 v5 s_0.x2) (hv7:Sl zb F w0 v7 s_0.x3) (h:uP s_0 κ) :
  Calls Tryz.prog 116 #[(.agg #[v1,v3,v5,v7])] w0 (Ret [] F w0 κ (fun r (u:Unit)=>(.bool r)) (fun r u=>[])):=by
 refine eS hF Tryz.func116 Tryz.ntmps116 h ?_;clear h hF;let JJ:=Jn 13 [] F w0;refine y0 ?_;obtain ⟨a9,l10,q11,rfl⟩:=zq hv1;obtain ⟨a12,l13,q14,rfl⟩:=zq hv3;obtain ⟨a15,l16,q17,rfl⟩:=zq hv5;obtain ⟨a18,l19,q20,rfl⟩:=zq hv7;refine stw (Zt (El':=(zE zb)) (len:=4) ([s_0.x0,s_0.x1,s_0.x2,s_0.x3]) ([[.slice a9 l10 q11],[.slice a12 l13 q14],[.slice a15 l16 q17],[.slice a18 l19 q20]]) (fun w m=>⟨⟨.slice a9 l10 q11,rfl,m.roS 0 rfl hv1⟩,⟨.slice a12 l13 q14,rfl,m.roS 0 rfl hv3⟩,⟨.slice a15 l16 q17,rfl,m.roS 0 rfl hv5⟩,⟨.slice a18 l19 q20,rfl,m.roS 0 rfl hv7⟩,trivial⟩) ?_);intro b21;refine ma ?_;refine y4 ?_;refine stw (xf (len:=4) 0 zL jF ?_);rintro wr23 ff24 _ hr_;obtain ⟨_,_,_,_,rfl,⟨v26,rfl,sl27⟩,⟨v29,rfl,sl30⟩,⟨v32,rfl,sl33⟩,⟨v35,rfl,sl36⟩⟩:=jH hr_;refine ⟨[v26,v29,v32,v35],rfl,?_⟩;refine mv ?_;refine y5 ?_;refine zZ (σ:=Int) (fun t38=>JJ [(5,.agg #[v26,v29,v32,v35]),(6,I t38)] [zh wr23 ff24]) (jI [0]) ?_;rintro nx39 t38;refine nxj ?_;refine y0 ?_;refine zM st ?_;refine y9 ?_;refine zi ?_ ?_
 ·refine y11 ?_;refine zik st (vs:=[v26,v29,v32,v35]) (xs:=[s_0.x0,s_0.x1,s_0.x2,s_0.x3]) (fun w m=>⟨m.roS 0 rfl sl27,m.roS 0 rfl sl30,m.roS 0 rfl sl33,m.roS 0 rfl sl36,trivial⟩) xD ?_;intro v40 e41 h42;refine ma ?_;refine y2 ?_;refine mv ?_;refine zH st jA 0 uI ?_;refine xm st x6 ?_;refine y1 ?_;refine zi ?_ ?_
  ·refine y0 ?_;refine ma ?_;refine y16 ?_;exact lu Tryz.results116
  ·refine y14 ?_;refine zK st ?_;intro t44;refine mv ?_;refine zA ?_;exact lj [1]
 ·refine y7 ?_;refine ma ?_;refine y3 ?_;exact lu Tryz.results116
theorem zaE {w0:World} {F:Nat→Prop} {inA_0 inB_1:Bool} {κ:Bool→Prop} (hF:Fr [] F w0) (h:ym inA_0 inB_1 κ) :
  Calls Tryz.prog 250 #[(.bool inA_0),(.bool inB_1)] w0 (Ret [] F w0 κ (fun r (u:Unit)=>(.bool r)) (fun r u=>[])):=by
 refine Zo (args:=[.bool inA_0,.bool inB_1]) [] hF (ub.nil _ _) Tryz.func250 rfl Tryz.ntmps250 rfl h ?_;clear h hF;let JJ:=Jn 10 [] F w0;refine y0 ?_;refine ma ?_;refine y1 ?_;refine je (σ:=Bool) (fun t61=>JJ [(4,.bool t61)] []) ?_ ?_
 ·intro k62;refine zt ?_;refine mv ?_;refine mv ?_;refine xo (dj:=6) rfl ?_ ?_
  ·refine zw (zX rfl rfl) ?_;refine js (zX rfl rfl) ?_;refine zY st ?_;refine ma ?_;refine zA ?_;exact lj []
  ·refine ss ?_;refine ss ?_;refine zQ st ?_;refine ma ?_;refine zA ?_;exact lj []
 ·rintro t61;refine nxj ?_;refine uv ?_;exact lu Tryz.results250
theorem yi {w0:World} {F:Nat→Prop} {v1 v3:Value} {a_0 b_1:(List zd)} {top_2:Int} {κ:(List zd)→Prop} (hF:Fr [] F w0) (hv1:Sl zb F w0 v1 a_0) (hv3:Sl zb F w0 v3 b_1) (h:zW a_0 b_1 top_2 κ) :
  Calls Tryz.prog 203 #[v1,v3,(I top_2),(.func (.func 250) #[] #[])] w0 (Ret [] F w0 κ (fun r (u:Value)=>u) (fun r u=>[ze zb 89 u r])):=by
 refine eS hF Tryz.func203 Tryz.ntmps203 h ?_;clear h hF;let JJ:=Jn 107 [] F w0;refine y0 ?_;refine stw (jL zb 89 ?_);refine y2 ?_;refine stw (jL zb 89 ?_);refine y2 ?_;refine ma ?_;refine ma ?_;refine y4 ?_;refine ma ?_;refine y5 ?_;refine zZ (σ:=((List zd)×Int×Int×Int)) (fun ((xs8,t11,t12,t13):((List zd)×Int×Int×Int)) (a:Act) (w:World)=>∃ (v7:Value),JJ [(0,v1),(1,v3),(2,I top_2),(3,.func (.func 250) #[] #[]),(9,v7),(10,I t11),(11,I t12),(12,I t13)] [zh w0 F,ze zb 89 v7 xs8] a w) (jE S0 [2,0]) ?_;rintro nx14 ⟨xs8,t11,t12,t13⟩ a w ⟨v7,hE,hm⟩ h;refine jw hE hm h ?_;clear hE hm h;refine y10 ?_;refine mv ?_;refine mv ?_;refine X1 st ?_;refine y1 ?_;refine zi ?_ ?_
 ·refine jT (zO (uh (jr (uh ?_))));refine zZ (σ:=Int) (fun t15=>JJ [(0,v1),(1,v3),(2,I top_2),(3,.func (.func 250) #[] #[]),(9,v7),(10,I t15),(11,I t12),(12,I t13)] [ze zb 89 v7 xs8,zh w0 F]) (jI [1,0]) ?_;rintro nx16 t15;refine nxj ?_;refine jr ?_;refine je (σ:=Bool) (fun t79=>JJ [(0,v1),(1,v3),(2,I top_2),(3,.func (.func 250) #[] #[]),(9,v7),(10,I t15),(11,I t12),(12,I t13),(34,.bool t79)] [ze zb 89 v7 xs8,zh w0 F]) ?_ ?_
  ·intro k80;refine zt ?_;refine mv ?_;refine mv ?_;refine zH st jA 1 (zc hv1) ?_;refine zM st ?_;refine mv ?_;refine xo (dj:=26) rfl ?_ ?_
   ·refine zw (zX rfl rfl) ?_;refine zw (zX rfl rfl) ?_;refine zF (zX rfl rfl) 1 (zc hv1) jA ?_;intro e17 h18;refine jg (zX rfl rfl) 1 (zc hv1) h18 xO ?_;refine jK (zX rfl rfl) (enc:=zP) (u:=(I e17.xHi)) 1 (zc hv1) zr h18 ty3 ?_;refine zw (zX rfl rfl) ?_;refine zM (zX rfl rfl) ?_;refine zY st ?_;refine zA ?_;exact lj [0,1]
   ·refine ss ?_;refine ss ?_;refine ss ?_;refine ss ?_;refine ss ?_;refine ss ?_;refine ss ?_;refine zQ st ?_;refine zA ?_;exact lj [0,1]
  ·rintro t79;refine nxj ?_;refine zi ?_ ?_
   ·refine y31 ?_;refine mv ?_;refine zK st ?_;intro t81;refine ma ?_;refine y12 ?_;exact lj [0,1]
   ·refine YC (uX (uX (Yr (zO (jr (uh ?_))))));refine zZ (σ:=Int) (fun t82=>JJ [(0,v1),(1,v3),(2,I top_2),(3,.func (.func 250) #[] #[]),(9,v7),(10,I t15),(11,I t82),(12,I t13)] [ze zb 89 v7 xs8,zh w0 F]) (jI [0,1]) ?_;rintro nx83 t82;refine nxj ?_;refine jr ?_;refine je (σ:=Bool) (fun t146=>JJ [(0,v1),(1,v3),(2,I top_2),(3,.func (.func 250) #[] #[]),(9,v7),(10,I t15),(11,I t82),(12,I t13),(49,.bool t146)] [ze zb 89 v7 xs8,zh w0 F]) ?_ ?_
    ·intro k147;refine zt ?_;refine mv ?_;refine mv ?_;refine zH st jA 1 (zc hv3) ?_;refine zM st ?_;refine mv ?_;refine xo (dj:=41) rfl ?_ ?_
     ·refine zw (zX rfl rfl) ?_;refine zw (zX rfl rfl) ?_;refine zF (zX rfl rfl) 1 (zc hv3) jA ?_;intro e84 h85;refine jg (zX rfl rfl) 1 (zc hv3) h85 xO ?_;refine jK (zX rfl rfl) (enc:=zP) (u:=(I e84.xHi)) 1 (zc hv3) zr h85 ty3 ?_;refine zw (zX rfl rfl) ?_;refine zM (zX rfl rfl) ?_;refine zY st ?_;refine zA ?_;exact lj [0,1]
     ·refine ss ?_;refine ss ?_;refine ss ?_;refine ss ?_;refine ss ?_;refine ss ?_;refine ss ?_;refine zQ st ?_;refine zA ?_;exact lj [0,1]
    ·rintro t146;refine nxj ?_;refine zi ?_ ?_
     ·refine y31 ?_;refine mv ?_;refine zK st ?_;intro t148;refine ma ?_;refine y12 ?_;exact lj [0,1]
     ·refine y7 ?_;refine mv ?_;refine mv ?_;refine jx 1 rfl hv1 ?_;refine stw (XA (I:=t15) (J:=(a_0.length:Int)) 0 jA ?_);intro v149 xs150;refine mv ?_;refine mv ?_;refine stw (zk Tryz.call235 (by intro w m h;exact rf0 (yV (F:=z6 [] w) (rest_0:=xs150) (at_1:=t13) (top_2:=top_2) zp (m.rd0 0 rfl uI) h)) ?_);rintro ⟨r153,r154⟩ _;refine mv ?_;refine ju st (vs:=[.bool r153,I r154]) ?_;refine ju st (vs:=[.bool r153,I r154]) ?_;refine ma ?_;refine ma ?_;refine y2 ?_;refine mv ?_;refine mv ?_;refine jx 3 rfl hv3 ?_;refine stw (XA (I:=t82) (J:=(b_1.length:Int)) 0 jA ?_);intro v155 xs156;refine mv ?_;refine mv ?_;refine stw (zk Tryz.call235 (by intro w m h;exact rf0 (yV (F:=z6 [] w) (rest_0:=xs156) (at_1:=t13) (top_2:=top_2) zp (m.rd0 0 rfl uI) h)) ?_);rintro ⟨r159,r160⟩ _;refine mv ?_;refine ju st (vs:=[.bool r159,I r160]) ?_;refine ju st (vs:=[.bool r159,I r160]) ?_;refine ma ?_;refine ma ?_;refine y2 ?_;refine mv ?_;refine mv ?_;refine zbQ st ?_;refine ma ?_;refine y1 ?_;refine je (σ:=(List zd)) (fun (xs296:(List zd)) (a:Act) (w:World)=>∃ (v297:Value),JJ [(0,v1),(1,v3),(2,I top_2),(3,.func (.func 250) #[] #[]),(9,v297),(10,I t15),(11,I t82),(17,I (min r154 r160))] [ze zb 89 v297 xs296,zh w0 F] a w) ?_ ?_
      ·intro k299;refine y0 ?_;refine mv ?_;refine mv ?_;refine mv ?_;refine stw (zb2 (zdq rfl rfl Tryz.call250) (by intro w m h;exact rf0 (zaE (F:=z6 [] w) (inA_0:=r153) (inB_1:=r159) zp h)) ?_);rintro r161 _;refine y1 ?_;refine zi ?_ ?_
       ·refine y0 ?_;refine mv ?_;refine zH st jA 4 zj ?_;refine ma ?_;refine y1 ?_;refine je (σ:=Bool) (fun t226=>JJ [(0,v1),(1,v3),(2,I top_2),(3,.func (.func 250) #[] #[]),(9,v7),(10,I t15),(11,I t82),(12,I t13),(17,I (min r154 r160)),(18,I (xs8.length:Int)),(91,.bool t226)] [ze zb 89 v7 xs8,zh w0 F]) ?_ ?_
        ·intro k227;refine zt ?_;refine mv ?_;refine yA st ?_;refine mv ?_;refine xo (dj:=81) rfl ?_ ?_
         ·refine zw (zX rfl rfl) ?_;refine zw (zX rfl rfl) ?_;refine ZK (zX rfl rfl) ?_;intro t162;refine zF (zX rfl rfl) 4 zj jA ?_;intro e163 h164;refine jg (zX rfl rfl) 4 zj h164 xO ?_;refine jK (zX rfl rfl) (enc:=zP) (u:=(I e163.xHi)) 4 zj zr h164 ty3 ?_;refine zK (zX rfl rfl) ?_;intro t165;refine zw (zX rfl rfl) ?_;refine xm (zX rfl rfl) x6 ?_;refine zY st ?_;refine zA ?_;exact lj [4,5]
         ·refine ss ?_;refine ss ?_;refine ss ?_;refine ss ?_;refine ss ?_;refine ss ?_;refine ss ?_;refine ss ?_;refine ss ?_;refine zQ st ?_;refine zA ?_;exact lj [4,5]
        ·rintro t226;refine nxj ?_;refine zi ?_ ?_
         ·refine zt ?_;refine mv ?_;refine mv ?_;refine ZK st ?_;intro t228;refine mv ?_;refine zF st 0 zj jA ?_;intro e229 h230;refine jg st 0 zj h230 xO ?_;refine stw (X2 (enc:=zP) (y':=(zd.mk e229.xLo (min r154 r160))) 0 zr h230 ty3 ?_);refine zA ?_;exact zT (xs8.set (t228).toNat (zd.mk e229.xLo (min r154 r160))) (jE v7 [0,1])
         ·refine zt ?_;refine mv ?_;refine mv ?_;refine mv ?_;refine xP st (qs:=[(0,I t13),(1,I (min r154 r160))]) (cells:=[I t13,I (min r154 r160)]) (bqi rfl) UC ?_;refine stw (um (enc:=zP) (qs:=[(0,.agg #[I t13,I (min r154 r160)])]) (cells:=[I t13,I (min r154 r160)]) ([zd.mk t13 (min r154 r160)]) zr (by intro ρ h;simp only [List.map_toArray,List.map_cons,List.map_nil,h (.tmp 101) _ rfl]) jA xz ?_);intro v232;refine stw (xr 1 0 (uq zr zj) jA xz ?_);intro v234;refine ma ?_;refine zA ?_;exact zT (xs8++([zd.mk t13 (min r154 r160)])) (jE v234 [1,2])
       ·refine jT ?_;exact zT xs8 (jE v7 [4,5])
      ·rintro xs296 a w ⟨v297,hE,hm⟩ h;refine jw hE hm h ?_;clear hE hm h;refine zt ?_;refine mv ?_;refine zK st ?_;intro t300;refine ma ?_;refine y12 ?_;exact zT (xs296,t15,t82,t300) (jE v297 [1,0])
 ·refine y7 ?_;refine mv ?_;refine ma ?_;refine y3 ?_;exact jf Tryz.results203 xs8 v7 (jp rfl) (fun w m=>zN.ofB m [1] rfl)
theorem YI {w0:World} {F:Nat→Prop} {v1 v3:Value} {a_0 b_1:(List zd)} {top_2:Int} {κ:((List zd)×Bool)→Prop} (hF:Fr [] F w0) (hv1:Sl zb F w0 v1 a_0) (hv3:Sl zb F w0 v3 b_1) (h:ja a_0 b_1 top_2 κ) :
  Calls Tryz.prog 239 #[v1,v3,(I top_2)] w0 (Ret [] F w0 κ (fun r (u:Value)=>.tuple #[u,(.bool r.2)]) (fun r u=>[jC zb u r.1])):=by
 refine eS hF Tryz.func239 Tryz.ntmps239 h ?_;clear h hF;refine y0 ?_;refine stw (jL zb 89 ?_);refine ma ?_;refine y2 ?_;refine mv ?_;refine mv ?_;refine mv ?_;refine stw (zk Tryz.call203 (by intro w m h;exact rf (fun _ _=>(ji (xj zr) jv)) (yi (F:=z6 [] w) (a_0:=a_0) (b_1:=b_1) (top_2:=top_2) zp (m.q 1 hv1) (m.q 1 hv3) h)) ?_);rintro r6 v7;refine frz 0 rfl zj ?_;refine stw (zk Tryz.call202 (by intro w m h;exact Yo (list_0:=r6) jY (m.ro 0 rfl) h) ?_);rintro ⟨r9,r12⟩ v10;refine ju st (vs:=[v10,.bool r12]) ?_;refine ju st (vs:=[v10,.bool r12]) ?_;refine ma ?_;refine ma ?_;refine y3 ?_;exact jV Tryz.results239 (r9,r12) v10 (jp rfl) (jp rfl) rfl (fun w m=>zN.ofB m [0] rfl)
end
end Go.Proofs.YtgpdnnhmndlljaaGreatDoor
