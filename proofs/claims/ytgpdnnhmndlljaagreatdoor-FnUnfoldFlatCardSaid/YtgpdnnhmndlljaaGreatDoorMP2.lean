import Derived.Test.YtgpdnnhmndlljaaGreatDoorMA1
import Derived.Test.YtgpdnnhmndlljaaGreatDoorMP12
import Derived.Lib.AppendZeros
import Derived.ArgAppend
import Derived.Test.YtgpdnnhmndlljaaGreatDoorRows
import Derived.Test.YtgpdnnhmndlljaaGreatDoorLibS
set_option linter.unusedSimpArgs false
set_option linter.unusedVariables false
set_option linter.unusedSectionVars false
set_option maxHeartbeats 8000000
set_option maxRecDepth 100000
namespace Go.Proofs.YtgpdnnhmndlljaaGreatDoor
section
open Go.RowKit
abbrev I (x:Int):Value:=.int .i64 x
abbrev pp (b:Nat):Value:=.pointer (some ⟨b,0,none⟩)
abbrev S0:Value:=.slice none 0 0
abbrev Y:Bool:=true
abbrev Z:Bool:=false
section
variable {P:Program} {n:Nat} {G D:Nat→Prop} {w0:World} {Q:Exit→Act→World→Prop} {ops:Array Oper} {rest:List Oper} {R:Act→World→Prop} {E E':Env} {L L' Lb:List Ch} {φ:Prop} {k:Nat} {listed:Array Bool}
theorem g1 {α:Type} {a:α}:a=a∧True:=⟨rfl,trivial⟩
theorem g2 {α:Type} {a b:α}:a=a∧b=b∧True:=⟨rfl,g1⟩
theorem g3 {α:Type} {a b c:α}:a=a∧b=b∧c=c∧True:=⟨rfl,g2⟩
theorem g4 {α:Type} {a b c d:α}:a=a∧b=b∧c=c∧d=d∧True:=⟨rfl,g3⟩
theorem g5 {α:Type} {a b c d e:α}:a=a∧b=b∧c=c∧d=d∧e=e∧True:=⟨rfl,g4⟩
theorem g6 {α:Type} {a b c d e f:α}:a=a∧b=b∧c=c∧d=d∧e=e∧f=f∧True:=⟨rfl,g5⟩
theorem rh (l:List Nat) (h:Nx n G D w0 R E' L' φ) (hs:zcM E E':=by repeat (first | exact trivial | refine ⟨rfl,?_⟩)) (hl:Zt L l=L':=by rfl) (hn:Zw l=true:=by rfl):Nx n G D w0 R E L φ:=by
 subst hl;exact pk l hn (re hs h)
theorem pk' (l:List Nat) (h:Nx n G D w0 R E (Zt L l) φ) (hl:Zw l=true:=by rfl):Nx n G D w0 R E L φ:=pk l hl h
theorem da (l:List Nat) {K:Act→World→Prop} (h:Nx n G D w0 K E L φ) (hl:Zt L l=Lb:=by rfl) (hn:Zw l=true:=by rfl):Nx n G D w0 (fun a w=>Mem G D w0 Lb w∧K a w) E L φ:=by
 subst hl;exact xK (fun w m=>m.pick l hn) h
theorem rd (l1 l2:List Nat) {K:Act→World→Prop} (h:Nx n G D w0 K E' L' φ) (hs:zcM E E':=by repeat (first | exact trivial | refine ⟨rfl,?_⟩)) (hl2:Zt L l2=L':=by rfl) (hn2:Zw l2=true:=by rfl) (hl:Zt L l1=Lb:=by rfl) (hn:Zw l1=true:=by rfl):Nx n G D w0 (fun a w=>Mem G D w0 Lb w∧K a w) E L φ:=by
 subst hl;exact xK (fun w m=>m.pick l1 hn) (rh l2 h hs hl2 hn2)
theorem dp {dst:Option Tmp} {op:Op} {ty:TypeId} {pos:String} {aft:Array Edge} (i:Nat) (l:List Nat) [hQ:PanicOk Q] (hl:Zt L l=Lb:=by rfl) (hn:Zw l=true:=by rfl) (hi:ops[i]?=some ⟨dst,op,ty,pos,aft,none⟩:=by rfl) (hr:zc7 ops listed i=true:=by kernel_rfl) :
  xL P n G D w0 E ⟨dst,op,ty,pos,aft,none⟩ (wpAnyH P .any ops Q (Mem G D w0 Lb) (k+1) listed) (wpAnyH P .any ops Q (Mem G D w0 Lb) k (listed.setIfInBounds i true)) Lb L:=by
 subst hl;exact dt i (fun w m=>m.pick l hn) hi hr
theorem dI {dst:Option Tmp} {op:Op} {ty:TypeId} {pos:String} {aft:Array Edge} (i:Nat) [hQ:PanicOk Q] (hi:ops[i]?=some ⟨dst,op,ty,pos,aft,none⟩:=by rfl) (hr:zc7 ops listed i=true:=by kernel_rfl) :
  xL P n G D w0 E ⟨dst,op,ty,pos,aft,none⟩ (wpAnyH P .any ops Q (Mem G D w0 L) (k+1) listed) (wpAnyH P .any ops Q (Mem G D w0 L) k (listed.setIfInBounds i true)) L L:=dt i (fun _ m=>m) hi hr
theorem dK (i:Nat) {op:Op} {ty:TypeId} {pos:String} {aft:Array Edge} {d:Tmp} {j dj:Nat} {want:Bool} {v:Value} [hQ:PanicOk Q] (h:Nx n G D w0 (wpAnyH P .any ops Q (Mem G D w0 L) k (listed.setIfInBounds i true)) ((d,undef) :: E) L φ)
  (hi:ops[i]?=some ⟨some d,op,ty,pos,aft,some (j,want)⟩:=by rfl) (hr:zc7 ops listed i=true:=by kernel_rfl) (hj:(ops[j]?).bind (·.dst)=some dj:=by rfl) (hv:Xt E dj=some v:=by rfl) (hb:nw v want=true:=by rfl) (hd:Nat.blt d n=true:=by rfl):Nx n G D w0 (wpAnyH P .any ops Q (Mem G D w0 L) (k+1) listed) E L φ :=
 dsk i (fun _ m=>m) hi hr hj hv hb hd h
theorem ss {op:Op} {ty:TypeId} {pos:String} {aft:Array Edge} {d:Tmp} {j dj:Nat} {want:Bool} {v:Value} (h:Nx n G D w0 (wpList P ops Q rest) ((d,undef) :: E) L φ) (hj:(ops[j]?).bind (·.dst)=some dj:=by rfl) (hv:Xt E dj=some v:=by rfl) (hb:nw v want=true:=by rfl) (hd:Nat.blt d n=true:=by rfl):Nx n G D w0 (wpList P ops Q (⟨some d,op,ty,pos,aft,some (j,want)⟩ :: rest)) E L φ :=
 ziM hj hv hb hd h
theorem mv {d:Tmp} {x:Operand} {ty:TypeId} {pos:String} {aft:Array Edge} {v:Value} (h:Nx n G D w0 (wpList P ops Q rest) ((d,v) :: E) L φ) (hx:oev E x=some v:=by rfl) (hd:Nat.blt d n=true:=by rfl):Nx n G D w0 (wpList P ops Q (⟨some d,.move x,ty,pos,aft,none⟩ :: rest)) E L φ:=VU st hx hd h
theorem ma {d:Tmp} {x:Operand} {ty:TypeId} {pos:String} {aft:Array Edge} {v:Value} (h:Nx n G D w0 (wpList P ops Q rest) ((d,v) :: E) L φ) (hx:oev E x=some v:=by rfl) (hd:Nat.blt d n=true:=by rfl):Nx n G D w0 (wpList P ops Q (⟨some d,.assign x,ty,pos,aft,none⟩ :: rest)) E L φ:=zb2 st hx hd h
theorem jI (l:List Nat) (hs:zcM E E':=by repeat (first | exact trivial | refine ⟨rfl,?_⟩)) (hl:Zt L l=L':=by rfl) (hn:Zw l=true:=by rfl):∀ a w,Has n E a→Mem G D w0 L w→Has n E' a∧Mem G D w0 L' w:=by
 subst hl;exact fun a w hE hm=>⟨hE.sub hs,hm.pick l hn⟩
theorem jE {α:Type} {E':α→Env} {L':α→List Ch} (v:α) (l:List Nat) (hs:zcM E (E' v):=by repeat (first | exact trivial | refine ⟨rfl,?_⟩)) (hl:Zt L l=L' v:=by rfl) (hn:Zw l=true:=by rfl):∀ a w,Has n E a→Mem G D w0 L w→∃ v,Has n (E' v) a∧Mem G D w0 (L' v) w:=fun a w hE hm=>⟨v,hE.sub hs,hl ▸ hm.pick l hn⟩
theorem lj {σ:Type} {k:σ→Prop} {Rel:σ→Act→World→Prop} {s:σ} (l:List Nat) (hr:∀ a w,Has n E' a→Mem G D w0 L' w→Rel s a w:=by exact fun _ _ x y=>⟨x,y⟩) (hs:zcM E E':=by repeat (first | exact trivial | refine ⟨rfl,?_⟩)) (hl:Zt L l=L':=by rfl) (hn:Zw l=true:=by rfl):Nx n G D w0 (Exit.then (fun a w=>∃ s,k s∧Rel s a w) Q .normal) E L (k s):=by
 subst hl;exact zO s (fun a w hE hm=>hr a w (hE.sub hs) (hm.pick l hn))
theorem dj {σ:Type} {K:σ→Prop} {Rel:σ→Act→World→Prop} {s:σ} (hQ:∀ s a w,K s→Rel s a w→Q .normal a w) (l:List Nat) (hr:∀ a w,Has n E' a→Mem G D w0 L' w→Rel s a w:=by exact fun _ _ x y=>⟨x,y⟩) (hs:zcM E E':=by repeat (first | exact trivial | refine ⟨rfl,?_⟩)) (hl:Zt L l=L':=by rfl) (hn:Zw l=true:=by rfl) (hd:Region.ready .any ops listed=[]:=by kernel_rfl):Nx n G D w0 (wpAnyH P .any ops Q (Mem G D w0 Lb) k listed) E L (K s):=by
 subst hl;exact jV hd (fun a w hE hm hφ=>hQ s a w hφ (hr a w (hE.sub hs) (hm.pick l hn)))
end
abbrev Jn (n:Nat) (M0:List Ch) (F:Nat→Prop) (w0:World) (E:Env) (L:List Ch) (a:Act) (w:World):Prop:=Has n E a∧Mem (gB F M0 w0) (xF M0) w0 L w
abbrev Nn (n:Nat) (M0:List Ch) (F:Nat→Prop) (w0:World) (P:Program) (ops:Array Oper) (Q:Exit→Act→World→Prop) (Lb:List Ch) (i:Nat) (l:Array Bool) (E:Env) (L:List Ch) (φ:Prop):Prop :=
 Nx n (gB F M0 w0) (xF M0) w0 (wpAnyH P .any ops Q (Mem (gB F M0 w0) (xF M0) w0 Lb) i l) E L φ
abbrev Fr (M0:List Ch) (F:Nat→Prop) (w0:World):Prop:=∀ b,F b→b<w0.heap.size∧¬ xF M0 b
theorem nxj {n:Nat} {G D:Nat→Prop} {w0:World} {R:Act→World→Prop} {E:Env} {L:List Ch} {φ:Prop} (h:Nx n G D w0 R E L φ):∀ a w,(Has n E a∧Mem G D w0 L w)→φ→R a w:=fun a w x y=>h a w x.1 x.2 y
def bq (E:Env):List (Nat×Operand)→Option (List (Nat×Value))
 | []=>some []
 | (i,x) :: r=>match oev E x,bq E r with
  | some v,some q=>some ((i,v) :: q)
  | _,_=>none
theorem bqi {E:Env}:∀ {l:List (Nat×Operand)} {qs:List (Nat×Value)},bq E l=some qs→∀ ρ:Operand→Value,(∀ x v,oev E x=some v→ρ x=v)→(l.toArray.map fun (i,x)=>(i,ρ x))=qs.toArray
 | [],qs,h,ρ,hρ=>by cases h;simp
 | (i,x) :: r,qs,h,ρ,hρ=>by
  unfold bq at h
  cases e1:oev E x with
  | none=>rw [e1] at h;cases h
  | some v =>
   cases e2:bq E r with
   | none=>rw [e1,e2] at h;cases h
   | some q =>
    rw [e1,e2] at h
    cases h
    have:=bqi e2 ρ hρ
    simp only [List.map_toArray,List.map_cons] at this ⊢
    rw [hρ x v e1,List.toArray_inj this]
section
variable {P:Program} {n:Nat} {G D:Nat→Prop} {w0:World} {E:Env} {L:List Ch}
theorem lu {M0:List Ch} {ρ:Type} {F:Nat→Prop} {fn:Func} {s:Nat} {κ:ρ→Prop} {val:ρ→Unit→Value} {r:ρ} (hres:fn.results=#[.tmp s]) (hs:Xt E s=some (val r ()):=by rfl):Nx n G (xF M0) w0 (bodyPost P fn (Ret M0 F w0 κ val (fun _ _=>[])) .ret) E L (κ r):=js hres r () (ju hs) (fun _ _=>zP.nil _ _ _ _)
theorem d1 {dst:Option Tmp} {op:Op} {ty:TypeId} {pos:String} {aft:Array Edge} {ops:Array Oper} {Q:Exit→Act→World→Prop} {Lb:List Ch} {k:Nat} {listed:Array Bool} {φ:Prop} (i:Nat) (hi:ops[i]?=some ⟨dst,op,ty,pos,aft,none⟩)
  (h:Nx n G D w0 (fun a w=>Oper.wp P ⟨dst,op,ty,pos,aft,none⟩ a w (fun a' w'=>Mem G D w0 Lb w'∧wpAnyH P .any ops Q (Mem G D w0 Lb) k (listed.setIfInBounds i true) a' w') Q) E L φ) (hr:Region.ready .any ops listed=[i]:=by kernel_rfl):Nx n G D w0 (wpAnyH P .any ops Q (Mem G D w0 Lb) (k+1) listed) E L φ:=zit hi hr h
end
theorem eS {P:Program} {n:Nat} {w0:World} {φ:Prop} {F:Nat→Prop} {f:Nat} {fn:Func} {c:Code} {args:List Value} {K:Ending→World→Prop} (hF:Fr [] F w0) (hf:P.funcs[f]?=some fn) (hn:fn.ntmps=n) (hφ:φ) (h:Nx n (gB F [] w0) (xF []) w0 (c.wp P (bodyPost P fn K)) (Uw 0 args) ([]++[zi w0 F]) φ) (hb:fn.body=some c:=by rfl) (hle:Nat.ble args.length n=true:=by rfl):Calls P f args.toArray w0 K :=
 uS [] hF (xO.nil _ _) hf hb hn hle hφ h
theorem rf {P:Program} {f:Nat} {ar:Array Value} {ρ ν:Type} {M0:List Ch} {F F':Nat→Prop} {w:World} {κ:ρ→Prop} {val:ρ→ν→Value} {N:ρ→ν→List Ch} (hf:∀ r s,∀ c∈N r s,c.free) (h:Calls P f ar w (Ret M0 F w κ val N)):Calls P f ar w (Ret M0 F' w κ val N):=h.mono (fun _ _ k=>zgc hf k)
theorem rf0 {P:Program} {f:Nat} {ar:Array Value} {ρ ν:Type} {M0:List Ch} {F F':Nat→Prop} {w:World} {κ:ρ→Prop} {val:ρ→ν→Value} (h:Calls P f ar w (Ret M0 F w κ val (fun _ _=>[]))):Calls P f ar w (Ret M0 F' w κ val (fun _ _=>[])):=rf (fun _ _=>zW) h
theorem Mem.q {G D:Nat→Prop} {w0 wr:World} {F0:Nat→Prop} {α:Type} {El':El α} {v:Value} {xs:List α} {w:World} {L:List Ch} (m:Mem G D w0 L w) (i:Nat) (S:Sl El' F0 wr v xs) (hi:jX L i=some (zi wr F0):=by rfl):Sl El' (fun b=>b<w.heap.size∧¬ xF [] b) w v xs:=m.rd0 i hi (zc S)
theorem Mem.qM {G D:Nat→Prop} {w0 wr:World} {F0:Nat→Prop} {α:Type} {El':El α} {v:Value} {xs:List α} {w:World} {M0 L':List Ch} (m:Mem G D w0 (M0++L') w) (i:Nat) (S:Sl El' F0 wr v xs) (hi:jX L' i=some (zi wr F0):=by rfl):Sl El' (fun b=>b<w.heap.size∧¬ xF M0 b) w v xs:=m.rdM i hi (zc S)
end
section
open Go.RowKit
section
variable {P:Program} {n:Nat} {G D:Nat→Prop} {w0:World} {Q:Exit→Act→World→Prop} {ops:Array Oper} {rest:List Oper} {R:Act→World→Prop} {E:Env} {L:List Ch} {φ:Prop}
theorem zj {c:Operand} {x y:Code} {t:Bool} {A B:Prop} (hx:Nx n G D w0 (x.wp P Q) E L A) (hy:Nx n G D w0 (y.wp P Q) E L B) (hc:oev E c=some (.bool t):=by rfl):Nx n G D w0 ((Code.cond c x y).wp P Q) E L (ifW t A B) :=
 fun a w hE hm hφ=>wp_cond_split (hE.eval hc) (fun h=>hx a w hE hm (hφ.1 h)) (fun h=>hy a w hE hm (hφ.2 h))
end
section
variable {P:Program} {n:Nat} {G D:Nat→Prop} {w0:World} {Q:Exit→Act→World→Prop} {R:Act→World→Prop} {E:Env} {L Lb:List Ch} {φ:Prop}
variable {dst:Option Tmp} {op:Op} {ty:TypeId} {pos:String} {aft:Array Edge} {ops:Array Oper} {listed:Array Bool} {k:Nat}
end
section
variable {P:Program} {n:Nat} {G D:Nat→Prop} {w0:World} {Q:Exit→Act→World→Prop} {R:Act→World→Prop} {E:Env} {L M:List Ch} {φ:Prop}
variable {d:Tmp} {ty:TypeId} {pos:String} {aft:Array Edge} {gd:Option (Nat×Bool)} {Tk:Act→World→Prop} {Lr:List Ch} {x y:Operand} {T T' S:TypeId} {e sz by':Nat}
end
section
variable {P:Program} {n:Nat} {G D:Nat→Prop} {w0:World} {Q:Exit→Act→World→Prop} {R:Act→World→Prop} {E:Env} {L:List Ch} {φ:Prop}
variable {d:Tmp} {ty:TypeId} {pos:String} {aft:Array Edge} {gd:Option (Nat×Bool)} {Tk:Act→World→Prop} {Lr:List Ch} {x y:Operand} {T T' S:TypeId} {e sz by':Nat}
end
section
variable {P:Program} {n:Nat} {G D:Nat→Prop} {w0:World} {Q:Exit→Act→World→Prop} {R:Act→World→Prop} {E:Env} {L:List Ch} {φ:Prop}
variable {d:Tmp} {ty:TypeId} {pos:String} {aft:Array Edge} {gd:Option (Nat×Bool)} {Tk:Act→World→Prop} {Lr:List Ch} {x y:Operand} {T T':TypeId}
theorem ja (M:xL P n G D w0 E ⟨some d,.binOp .add T x y T',ty,pos,aft,gd⟩ Tk R Lr L) {X Y:Int} {κ:Int→Prop} (k:∀ z,Nx n G D w0 R ((d,.int .i64 z) :: E) L (κ z)) (hx:oev E x=some (.int .i64 X):=by rfl) (hy:oev E y=some (.int .i64 Y):=by rfl) (hd:Nat.blt d n=true:=by rfl):Nx n G D w0 Tk E L (jy X Y κ) :=
 M.val (v:=.int .i64 (X+Y)) hd rfl (fun ρ w hE _ hφ=>by
  have h:=hφ.1
  have e:IntKind.i64.wrap (X+Y)=X+Y:=by unfold I64 at h;rw [IntKind.wrap_i64];omega
  simp [execOp,hE _ _ hx,hE _ _ hy,go_sem,e]) (fun h=>h.2) (k _)
theorem UN (M:xL P n G D w0 E ⟨some d,.binOp .add T x y T',ty,pos,aft,gd⟩ Tk R Lr L) {X Y:Int} (k:Nx n G D w0 R ((d,.int .i64 (w64 (X+Y))) :: E) L φ) (hx:oev E x=some (.int .i64 X):=by rfl) (hy:oev E y=some (.int .i64 Y):=by rfl) (hd:Nat.blt d n=true:=by rfl):Nx n G D w0 Tk E L φ :=
 M.val hd rfl (fun ρ w hE _ _=>by simp [execOp,hE _ _ hx,hE _ _ hy,go_sem,w64]) id k
end
section
variable {P:Program} {n:Nat} {G D:Nat→Prop} {w0:World} {Q:Exit→Act→World→Prop} {R:Act→World→Prop} {E:Env} {L:List Ch} {φ:Prop}
variable {d:Tmp} {ty:TypeId} {pos:String} {aft:Array Edge} {gd:Option (Nat×Bool)} {Tk:Act→World→Prop} {Lr:List Ch} {x y:Operand} {T T' S:TypeId}
theorem jg (cs:List Value) (hz:xT P T=some cs) (k:∀ b,Nx n G D w0 R ((d,.pointer (some ⟨b,0,none⟩)) :: E) (zb b cs T :: L) φ) (hd:Nat.blt d n=true:=by rfl):Nx n G D w0 (fun a w=>Oper.wp P ⟨some d,.alloc T,ty,pos,aft,gd⟩ a w R Q) E L φ:=VI hd cs hz k
end
section
variable {P:Program} {n:Nat} {G D:Nat→Prop} {w0:World} {Q:Exit→Act→World→Prop} {R:Act→World→Prop} {E:Env} {L:List Ch} {φ:Prop}
variable {d:Tmp} {ty:TypeId} {pos:String} {aft:Array Edge} {gd:Option (Nat×Bool)} {Tk:Act→World→Prop} {Lr:List Ch} {x y:Operand} {T T' S:TypeId} {e sz by':Nat}
theorem xD {α:Type} {El':El α} {z:α} {len:Nat} {cs zs:List Value} (hz:∀ F w,El'.cells F w z zs) (hzr:xT P T=some cs) (k:∀ b,Nx n G D w0 R ((d,.pointer (some ⟨b,0,none⟩)) :: E) (zg El' T (.slice (some ⟨b,0,none⟩) len len) (List.replicate len z) :: L) φ) (hd:Nat.blt d n=true:=by rfl) (hcs:(List.replicate len zs).flatten=cs:=by rfl) (hlen:Nat.ble len 65536=true:=by rfl):Nx n G D w0 (fun a w=>Oper.wp P ⟨some d,.alloc T,ty,pos,aft,gd⟩ a w R Q) E L φ :=
 Xb hd rfl fun ρ w hE hm hφ=>by
  unfold xT at hzr
  cases hi:P.info? T with
  | none=>simp [hi] at hzr
  | some i =>
   cases hz':i.zero with
   | none=>simp [hi,hz'] at hzr
   | some zv =>
    simp [hi,hz'] at hzr
    have hlz:zs.length=El'.size:=El'.len _ _ _ _ (hz (fun _=>True) w)
    refine ⟨_,w.alloc (.cells cs.toArray T),_,φ,by simp [execOp,Instr.alloc,zeroValue,typeInfo,hi,hz',newVar,newRow,← hzr],?_,hφ,k w.heap.size⟩
    refine hm.add _ ((Below.refl _ _).alloc (Nat.le_refl _) _) (fun b hb=>by simp [zg,Value.ownBlock] at hb;rw [World.size_alloc];omega) ?_
    have hle:=Nat.le_of_ble_eq_true hlen
    have hown:=UO (El':=El') (F:=fz G (zg El' T (.slice (some ⟨w.heap.size,0,none⟩) len len) (List.replicate len z) :: L) (w.alloc (.cells cs.toArray T))) (w:=w.alloc (.cells cs.toArray T)) (ty:=T) (b:=w.heap.size) (cap:=len)
     (Rows.replicate (hz _ _) len) (heap_alloc_new w _) (by simp) (by unfold maxLen;omega) (by rw [← hcs];simp [hlz]) (by
      rw [← hcs,List.length_replicate,List.take_of_length_le (by simp [hlz])])
    rw [List.length_replicate] at hown
    exact hown
end
section
variable {P:Program} {n:Nat} {G D:Nat→Prop} {w0:World} {Q:Exit→Act→World→Prop} {R:Act→World→Prop} {E:Env} {L:List Ch} {φ:Prop}
variable {d:Tmp} {ty:TypeId} {pos:String} {aft:Array Edge} {gd:Option (Nat×Bool)} {Tk:Act→World→Prop} {Lr:List Ch} {x y:Operand} {T T' S:TypeId} {e sz by':Nat}
theorem xj {α:Type} {El':El α} {v u:Value} {xs ys:List α} {c:Ch} {κ:List α→Prop} {zs:List Value} (i:Nat) (j:Nat) (hc:Src c El' u ys) (hT:elB P T=some (e,sz,by')) (hzr:xT P e=some zs) (k:∀ v',Nx n G D w0 R ((d,v') :: E) (u0 L i (zg El' e v' (xs++ys))) (κ (xs++ys))) (hi:jX L i=some (zg El' e v xs):=by rfl) (hj:jX L j=some c:=by rfl) (hx:oev E x=some v:=by rfl) (hy:oev E y=some u:=by rfl) (hd:Nat.blt d n=true:=by rfl) (hby:Nat.ble by' 32768=true:=by rfl) (hzl:zs.length=sz:=by rfl) (hes:El'.size=sz:=by rfl):Nx n G D w0 (fun a w=>Oper.wp P ⟨some d,.call {callee:=.builtin .append,args:=#[x,y],argTypes:=#[T,T]},ty,pos,aft,gd⟩ a w R Q) E L (xu xs ys κ):=zhb i j hi hj hc hx hy hd hT hby hzr hzl hes k
end
section
variable {P:Program} {n:Nat} {G D:Nat→Prop} {w0:World} {Q:Exit→Act→World→Prop} {R:Act→World→Prop} {E:Env} {L M:List Ch} {φ:Prop}
variable {d:Tmp} {ty:TypeId} {pos:String} {aft:Array Edge} {gd:Option (Nat×Bool)} {Tk:Act→World→Prop} {Lr:List Ch} {x y:Operand} {T T' S:TypeId} {e sz by':Nat}
theorem UL {α:Type} {E':DEl α} {v u:Value} {xs ys:List α} {B C:List Nat} {κ:List α→Prop} {zs:List Value} (hT:elB P T=some (e,sz,by')) (hzr:xT P e=some zs) (k:∀ B' v',Nx n G D w0 R ((d,v') :: E) (xI E' e B' v' (xs++ys) :: L) (κ (xs++ys))) (hx:oev E x=some v:=by rfl) (hy:oev E y=some u:=by rfl) (hd:Nat.blt d n=true:=by rfl) (hby:Nat.ble by' 32768=true:=by rfl) (hzl:zs.length=sz:=by rfl) (hes:E'.el.size=sz:=by rfl):Nx n G D w0 (fun a w=>Oper.wp P ⟨some d,.call {callee:=.builtin .append,args:=#[x,y],argTypes:=#[T,T]},ty,pos,aft,gd⟩ a w R Q) E (xI E' e B v xs :: xI E' e C u ys :: L) (xu xs ys κ) :=
 Xb hd rfl fun ρ w hE hm hφ=>by
  obtain ⟨h0,h1⟩:=hφ
  obtain ⟨hu,inf,hinf,rfl,rfl⟩:=yU hT
  obtain ⟨z',hz',hzc⟩:=u6 hzr hinf
  unfold zaD at h0
  have hbl:=Nat.le_of_ble_eq_true hby
  obtain ⟨bn,css,Bs,hr,how,hB⟩:=hm.hold _ (List.mem_cons_self ..)
  obtain ⟨cn,dss,Cs,hrd,hod,hC⟩:=hm.hold (xI E' e C u ys) (List.mem_cons_of_mem _ (List.mem_cons_self ..))
  have hdis:∀ b,b∈B→b ∉ C:=fun b hb=>(List.pairwise_cons.1 hm.disj).1 _ (List.mem_cons_self ..) b hb
  have hBn:=hB.nodup_iff.1 bn
  have hCn:=hC.nodup_iff.1 cn
  rw [List.nodup_append] at hBn hCn
  have hinB:∀ b,b∈Bs.flatten→b∈B:=fun b hb=>hB.symm.subset (List.mem_append.2 (.inr hb))
  have hinC:∀ b,b∈Cs.flatten→b∈C:=fun b hb=>hC.symm.subset (List.mem_append.2 (.inr hb))
  have hvB:∀ b,v.ownBlock=some b→b∈B:=fun b hb=>hB.symm.subset (List.mem_append.2 (.inl (uW.2 hb)))
  have hlB:=hr.lt
  have hlC:=hrd.lt
  have hone:=(hrd.rows (F:=fun _=>True) (fun _ _=>trivial)).one
  have hlen:=(hrd.rows (F:=fun _=>True) (fun _ _=>trivial)).length
  rw [hes] at hlen
  have hsrc:∃ a cap,u=.slice a ys.length cap∧((∃ ad,a=some ad∧∀ j q,dss.flatten[j]?=some q→w.cell? (ad.add j)=some q)∨(ys=[]∧a=none)):=by
   rcases hod.2 with ⟨rfl,hn⟩ | ⟨g,cap,cur,rfl,_,hg,_,_,_,ht⟩
   ·have:ys=[]:=List.eq_nil_of_length_eq_zero hn
    subst this
    exact ⟨none,0,rfl,.inr ⟨rfl,rfl⟩⟩
   ·refine ⟨_,cap,rfl,.inl ⟨_,rfl,fun j q hq=>?_⟩⟩
    rw [Addr.add_mid,cell_of_row w g _ cur e (0,0) hg]
    rw [← ht,List.getElem?_take] at hq
    split at hq
    ·simpa using hq
    ·cases hq
  obtain ⟨a,cap,rfl,hsrc⟩:=hsrc
  rcases hsrc with ⟨ad,rfl,hcell⟩ | ⟨rfl,rfl⟩
  ·obtain ⟨v',w',g1,g2,g3,_,g5⟩:=run_append_own_at (P:=P) w 0 T ty e inf z' inf.size inf.bytes hu hinf hz' rfl rfl (by rw [hzc];simpa using hzl) (by rw [← hes];exact E'.el.pos)
    v xs.length css.flatten (by rw [← hes];exact how) ad ys.length cap dss.flatten hlen hcell hone (by unfold maxLen;omega) (by
     have:=Nat.mul_le_mul h0 hbl
     omega) (Nat.zero_le _)
   have hv':∀ b,v'.ownBlock=some b→v.ownBlock=some b∨b=w.heap.size:=fun b hb=>by
    rcases g5 with g5 | g5
    ·exact .inl (by rw [← g5];exact hb)
    ·right;rw [hb] at g5;simpa using g5
   have hkeepB:∀ b,b∈Bs.flatten→w'.heap[b]?=w.heap[b]?:=fun b hb=>g3.block b (hlB b hb) (fun e'=>hBn.2.2 b (uW.2 e'.symm) b hb rfl)
   have hkeepC:∀ b,b∈Cs.flatten→w'.heap[b]?=w.heap[b]?:=fun b hb=>g3.block b (hlC b hb) (fun e'=>hdis b (hvB b e'.symm) (hinC b hb))
   refine ⟨v',w',_,κ (xs++ys),by simp [execOp,resolve,invoke,builtin,hE _ _ hx,hE _ _ hy,g1],?_,h1,k (U0 v'++(Bs++Cs).flatten) v'⟩
   refine hm.repl (M0:=[xI E' e B v xs,xI E' e C (.slice (some ad) ys.length cap) ys]) (N:=[xI E' e (U0 v'++(Bs++Cs).flatten) v' (xs++ys)])
    ⟨g3.os,g3.tape,g3.output,g3.size,fun b hb hne=>g3.block b hb (fun e'=>hne ⟨_,List.mem_cons_self ..,hvB b e'.symm⟩)⟩ (fun c hc b hb=>?_) (List.pairwise_singleton _ _) (fun c hc F=>?_)
   ·simp only [List.mem_cons,List.not_mem_nil,or_false] at hc
    subst hc
    have hb':b∈U0 v'++(Bs++Cs).flatten:=hb
    rw [List.flatten_append] at hb'
    have hsz:=g3.size
    rcases List.mem_append.1 hb' with hb' | hb'
    ·have hlt:=(g2.lt b (uW.1 hb')).2
     rcases hv' b (uW.1 hb') with h | h
     ·exact ⟨.inr ⟨_,List.mem_cons_self ..,hvB b h⟩,hlt⟩
     ·exact ⟨.inl (by omega),hlt⟩
    ·rcases List.mem_append.1 hb' with hb' | hb'
     ·exact ⟨.inr ⟨_,List.mem_cons_self ..,hinB b hb'⟩,by have:=hlB b hb';omega⟩
     ·exact ⟨.inr ⟨_,List.mem_cons_of_mem _ (List.mem_cons_self ..),hinC b hb'⟩,by have:=hlC b hb';omega⟩
   ·simp only [List.mem_cons,List.not_mem_nil,or_false] at hc
    subst hc
    refine ⟨?_,css++dss,Bs++Cs,(hr.keep hkeepB).append (hrd.keep hkeepC),by rw [List.flatten_append,List.length_append,hes];exact g2,List.Perm.refl _⟩
    rw [List.flatten_append,List.nodup_append,List.nodup_append]
    refine ⟨zbt _,⟨hBn.2.1,hCn.2.1,fun b hb c hc e'=>hdis b (hinB b hb) (by rw [e'];exact hinC c hc)⟩,fun b hb c hc e'=>?_⟩
    subst e'
    rcases hv' b (uW.1 hb) with h | h
    ·rcases List.mem_append.1 hc with hc | hc
     ·exact hBn.2.2 b (uW.2 h) b hc rfl
     ·exact hdis b (hvB b h) (hinC b hc)
    ·rcases List.mem_append.1 hc with hc | hc
     ·have:=hlB b hc;omega
     ·have:=hlC b hc;omega
  ·have hrun:(Builtin.append_ #[T,T] ty #[v,.slice none 0 cap]).run P w=.ok v w:=by
    rcases how.2 with ⟨rfl,hn0⟩ | ⟨g,cap',cur,rfl,_,_,hnc,_⟩
    ·simp [Builtin.append_,run_underlying hu,sizeOf,typeInfo,hinf,Builtin.lenOf,Builtin.firstCells]
    ·simp [Builtin.append_,run_underlying hu,sizeOf,typeInfo,hinf,Builtin.lenOf,Builtin.firstCells,hnc,storeCells]
   refine ⟨v,w,xI E' e B v xs :: L,κ xs,by simp [execOp,resolve,invoke,builtin,hE _ _ hx,hE _ _ hy,hrun],hm.sub ((List.sublist_cons_self _ _).cons_cons _),by simpa using h1,?_⟩
   have:=k B v
   rwa [List.append_nil] at this
end
section
variable {P:Program} {n:Nat} {G D:Nat→Prop} {w0:World} {Q:Exit→Act→World→Prop} {R:Act→World→Prop} {E:Env} {L:List Ch} {φ:Prop}
variable {d:Tmp} {ty:TypeId} {pos:String} {aft:Array Edge} {gd:Option (Nat×Bool)} {Tk:Act→World→Prop} {Lr:List Ch} {x y:Operand} {T T':TypeId}
theorem uy (M:xL P n G D w0 E ⟨some d,.assign x,ty,pos,aft,gd⟩ Tk R Lr L) {v:Value} (k:Nx n G D w0 R ((d,v) :: E) L φ) (hx:oev E x=some v:=by rfl) (hd:Nat.blt d n=true:=by rfl):Nx n G D w0 Tk E L φ:=zb2 M hx hd k
end
section
variable {P:Program} {n:Nat} {G D:Nat→Prop} {w0:World} {Q:Exit→Act→World→Prop} {R:Act→World→Prop} {E:Env} {L M:List Ch} {φ:Prop}
variable {d:Tmp} {ty:TypeId} {pos:String} {aft:Array Edge} {gd:Option (Nat×Bool)} {Tk:Act→World→Prop} {Lr:List Ch} {x y:Operand} {T T' S:TypeId} {e sz by':Nat}
theorem YT {α:Type} (E':DEl α) (e:TypeId) (k:Nx n G D w0 R ((d,.slice none 0 0) :: E) (xI E' e [] (.slice none 0 0) [] :: L) φ) (hx:oev E x=some (.slice none 0 0):=by rfl) (hd:Nat.blt d n=true:=by rfl):Nx n G D w0 (fun a w=>Oper.wp P ⟨some d,.assign x,ty,pos,aft,gd⟩ a w R Q) E L φ :=
 Xb hd rfl fun ρ w hE hm hφ=>⟨_,w,_,φ,by simp [execOp,hE _ _ hx],zbr E' e hm,hφ,k⟩
end
section
variable {P:Program} {n:Nat} {G D:Nat→Prop} {w0:World} {Q:Exit→Act→World→Prop} {R:Act→World→Prop} {E:Env} {L:List Ch} {φ:Prop}
variable {d:Tmp} {ty:TypeId} {pos:String} {aft:Array Edge} {gd:Option (Nat×Bool)} {Tk:Act→World→Prop} {Lr:List Ch} {x y:Operand} {T T' S:TypeId} {e sz by':Nat}
theorem jK {α:Type} (El':El α) (e:Nat) (k:Nx n G D w0 R ((d,.slice none 0 0) :: E) (zg El' e (.slice none 0 0) [] :: L) φ) (hx:oev E x=some (.slice none 0 0):=by rfl) (hd:Nat.blt d n=true:=by rfl):Nx n G D w0 (fun a w=>Oper.wp P ⟨some d,.assign x,ty,pos,aft,gd⟩ a w R Q) E L φ :=
 Xb hd rfl fun ρ w hE hm hφ=>⟨_,w,_,φ,by simp [execOp,hE _ _ hx],V3 El' e hm,hφ,k⟩
end
section
variable {P:Program} {n:Nat} {G D:Nat→Prop} {w0:World} {Q:Exit→Act→World→Prop} {R:Act→World→Prop} {E:Env} {L:List Ch} {φ:Prop}
variable {d:Tmp} {ty:TypeId} {pos:String} {aft:Array Edge} {gd:Option (Nat×Bool)} {Tk:Act→World→Prop} {Lr:List Ch} {x y:Operand} {T T' S:TypeId}
end
section
variable {P:Program} {n:Nat} {G D:Nat→Prop} {w0:World} {Q:Exit→Act→World→Prop} {R:Act→World→Prop} {E:Env} {L:List Ch} {φ:Prop}
variable {d:Tmp} {ty:TypeId} {pos:String} {aft:Array Edge} {gd:Option (Nat×Bool)} {Tk:Act→World→Prop} {Lr:List Ch} {x y:Operand} {T T' S:TypeId} {e sz by':Nat} {at':Array TypeId}
theorem zdY {b:BinOp} (M:xL P n G D w0 E ⟨some d,.binOp b T x y T',ty,pos,aft,gd⟩ Tk R Lr L) {u v:Value} (c:Value) (hr:∀ w,(do eqGuard b T x y u v;binOp b T u v:Sem Value).run P w=.ok c w) (k:Nx n G D w0 R ((d,c) :: E) L φ) (hx:oev E x=some u:=by rfl) (hy:oev E y=some v:=by rfl) (hd:Nat.blt d n=true:=by rfl):Nx n G D w0 Tk E L φ :=
 M.val hd rfl (fun ρ w hE _ _=>by
  have h:=hr w
  simp only [execOp,hE _ _ hx,hE _ _ hy]
  rw [Sem.run_bind,h]
  rfl) id k
end
section
variable {P:Program} {n:Nat} {G D:Nat→Prop} {w0:World} {Q:Exit→Act→World→Prop} {R:Act→World→Prop} {E:Env} {L:List Ch} {φ:Prop}
variable {d:Tmp} {ty:TypeId} {pos:String} {aft:Array Edge} {gd:Option (Nat×Bool)} {Tk:Act→World→Prop} {Lr:List Ch} {x y:Operand} {T T' S:TypeId} {e sz by':Nat}
theorem jn {ps:Array (Nat×Operand)} (M:xL P n G D w0 E ⟨some d,.build T ps,ty,pos,aft,gd⟩ Tk R Lr L) {qs:List (Nat×Value)} {cells zs:List Value} {pl:Array (Nat×Nat)} (hq:∀ ρ:Operand→Value,(∀ x v,oev E x=some v→ρ x=v)→(ps.map fun (i,x)=>(i,ρ x))=qs.toArray) (hT:Uz P T=some (pl,zs)) (k:Nx n G D w0 R ((d,.agg cells.toArray) :: E) L φ) (hd:Nat.blt d n=true:=by rfl) (hfill':Y1 (pl[·]?) zs qs=some cells:=by rfl):Nx n G D w0 Tk E L φ :=
 M.val hd rfl (fun ρ w hE hm _=>by
  have hfill:=VW _ _ _ _ hfill'
  unfold Uz at hT
  split at hT
  ·rename_i fs zs' hu hz
   cases hp:(fs.toList.mapM fun (f:Field)=>(P.info? f.type).map fun i=>(f.offset,i.size)) with
   | none=>rw [hp] at hT;simp at hT
   | some l =>
    rw [hp] at hT
    simp at hT
    obtain ⟨rfl,rfl⟩:=hT
    have hr:=zbf (w:=w) fs.toList l hp
    cases hi:P.info? T with
    | none=>simp [xT,hi] at hz
    | some i =>
     obtain ⟨z,hz1,hz2⟩:=u6 hz hi
     have hr':(fs.mapM fun f=>(do pure (f.offset,← sizeOf f.type):Sem (Nat×Nat))).run P w=.ok l.toArray w:=by
      have h2:(fs.mapM fun f=>(do pure (f.offset,← sizeOf f.type):Sem (Nat×Nat)))=Functor.map List.toArray (fs.toList.mapM fun f=>(do pure (f.offset,← sizeOf f.type):Sem (Nat×Nat))):=by
       rw [← List.mapM_toArray,Array.toArray_toList]
      rw [h2,map_eq_pure_bind,Sem.run_bind,hr]
      rfl
     have hz3:(zeroValue T).run P w=.ok z w:=by simp [zeroValue,typeInfo,hi,hz1]
     have hb:(Instr.build T qs.toArray).run P w=.ok (.agg cells.toArray) w:=by
      unfold Instr.build
      rw [Sem.run_bind,hz3,Result.andThen_ok,Sem.run_bind,run_underlying hu,Result.andThen_ok]
      simp only
      rw [Sem.run_bind,hr',Result.andThen_ok]
      rw [hz2,hfill]
      rfl
     simp only [execOp,hq ρ hE,Sem.run_bind,hb]
     rfl
  ·simp at hT) id k
end
section
variable {P:Program} {n:Nat} {G D:Nat→Prop} {w0:World} {Q:Exit→Act→World→Prop} {R:Act→World→Prop} {E:Env} {L:List Ch} {φ:Prop}
variable {d:Tmp} {ty:TypeId} {pos:String} {aft:Array Edge} {gd:Option (Nat×Bool)} {Tk:Act→World→Prop} {Lr:List Ch} {x y:Operand} {T T' S:TypeId}
theorem zeX {ps:Array (Nat×Operand)} (M:xL P n G D w0 E ⟨some d,.build T ps,ty,pos,aft,gd⟩ Tk R Lr L) {qs:List (Nat×Value)} {cells zs:List Value} {sz:Nat} (hq:∀ ρ:Operand→Value,(∀ x v,oev E x=some v→ρ x=v)→(ps.map fun (i,x)=>(i,ρ x))=qs.toArray) (hT:zhB P T=some (sz,zs)) (k:Nx n G D w0 R ((d,.agg cells.toArray) :: E) L φ) (hd:Nat.blt d n=true:=by rfl) (hfill':Y1 (fun i=>some (i * sz,sz)) zs qs=some cells:=by rfl):Nx n G D w0 Tk E L φ :=
 M.val hd rfl (fun ρ w hE hm _=>by
  have hfill:=VW _ _ _ _ hfill'
  unfold zhB at hT
  split at hT
  ·rename_i l e zs' hu hz
   cases he:P.info? e with
   | none=>simp [he] at hT
   | some j =>
    simp [he] at hT
    obtain ⟨rfl,rfl⟩:=hT
    cases hi:P.info? T with
    | none=>simp [xT,hi] at hz
    | some i =>
     obtain ⟨z,hz1,hz2⟩:=u6 hz hi
     have hz3:(zeroValue T).run P w=.ok z w:=by simp [zeroValue,typeInfo,hi,hz1]
     have hb:(Instr.build T qs.toArray).run P w=.ok (.agg cells.toArray) w:=by
      unfold Instr.build
      rw [Sem.run_bind,hz3,Result.andThen_ok,Sem.run_bind,run_underlying hu,Result.andThen_ok]
      simp only
      rw [Sem.run_bind]
      have:(sizeOf e).run P w=.ok j.size w:=by simp [sizeOf,typeInfo,he]
      rw [this,Result.andThen_ok,hz2]
      rw [hfill]
      rfl
     simp only [execOp,hq ρ hE,Sem.run_bind,hb]
     rfl
  ·simp at hT) id k
end
section
variable {P:Program} {n:Nat} {G D:Nat→Prop} {w0:World} {Q:Exit→Act→World→Prop} {R:Act→World→Prop} {E:Env} {L:List Ch} {φ:Prop}
variable {d:Tmp} {ty:TypeId} {pos:String} {aft:Array Edge} {gd:Option (Nat×Bool)} {Tk:Act→World→Prop} {Lr:List Ch} {x y:Operand} {T T' S:TypeId}
theorem x5 {v:Value} (cs:List Value) (k:∀ b,Nx n G D w0 R ((d,.pointer (some ⟨b,0,none⟩)) :: E) (zb b cs T :: L) φ) (hx:oev E x=some v:=by rfl) (hd:Nat.blt d n=true:=by rfl) (hcs:v.cells=cs.toArray:=by rfl):Nx n G D w0 (fun a w=>Oper.wp P ⟨some d,.box T x,ty,pos,aft,gd⟩ a w R Q) E L φ :=
 Xb hd rfl fun ρ w hE hm hφ=>⟨_,w.alloc (.cells cs.toArray T),_,φ,by simp [execOp,hE _ _ hx,Instr.box,newVar,newRow,hcs],zcx hm rfl,hφ,k w.heap.size⟩
end
section
variable {P:Program} {n:Nat} {G D:Nat→Prop} {w0:World} {Q:Exit→Act→World→Prop} {R:Act→World→Prop} {E:Env} {L M:List Ch} {φ:Prop}
variable {d:Tmp} {ty:TypeId} {pos:String} {aft:Array Edge} {gd:Option (Nat×Bool)} {Tk:Act→World→Prop} {Lr:List Ch} {x y:Operand} {T T' S:TypeId} {e sz by':Nat}
theorem Xk {α:Type} {El':El α} {v:Value} {cs:List Value} {len:Nat} (xs:List α) (css:List (List Value)) (hr:∀ w,Mem G D w0 L w→Rows El' (fz G L w) w xs css) (k:∀ b,Nx n G D w0 R ((d,.pointer (some ⟨b,0,none⟩)) :: E) (zg El' T (.slice (some ⟨b,0,none⟩) len len) xs :: L) φ) (hx:oev E x=some v:=by rfl) (hd:Nat.blt d n=true:=by rfl) (hcs:v.cells=cs.toArray:=by rfl) (hfl:css.flatten=cs:=by rfl) (hl:xs.length=len:=by rfl) (hlen:Nat.ble len 65536=true:=by rfl):Nx n G D w0 (fun a w=>Oper.wp P ⟨some d,.box T x,ty,pos,aft,gd⟩ a w R Q) E L φ:=za7 xs css hr hx hd hcs hfl hl hlen k
end
section
variable {P:Program} {n:Nat} {G D:Nat→Prop} {w0:World} {Q:Exit→Act→World→Prop} {R:Act→World→Prop} {E:Env} {L:List Ch} {φ:Prop}
variable {d:Tmp} {ty:TypeId} {pos:String} {aft:Array Edge} {gd:Option (Nat×Bool)} {Tk:Act→World→Prop} {Lr:List Ch} {x y:Operand} {T T' S:TypeId} {e sz by':Nat}
theorem jG {α:Type} {El':El α} {enc:α→List Value} {len:Nat} {ps:Array (Nat×Operand)} {qs:List (Nat×Value)} {zs cells:List Value} (xs:List α) (hfl:XU El' enc) (hq:∀ ρ:Operand→Value,(∀ x v,oev E x=some v→ρ x=v)→(ps.map fun (i,x)=>(i,ρ x))=qs.toArray) (hT:elB P T=some (e,sz,by')) (hzr:xT P e=some zs) (k:∀ v,Nx n G D w0 R ((d,v) :: E) (zg El' e v xs :: L) φ) (hd:Nat.blt d n=true:=by rfl) (hes:El'.size=sz:=by rfl) (hlen:Nat.ble (len * sz) 16777216=true:=by rfl) (hxl:xs.length=len:=by rfl) (hzl:Nat.beq zs.length sz=true:=by rfl) (hfill':Y1 (fun i=>some (i * sz,sz)) (List.replicate len zs).flatten qs=some cells:=by rfl) (hcells:(xs.map enc).flatten=cells:=by rfl):Nx n G D w0 (fun a w=>Oper.wp P ⟨some d,.buildSlice T len ps,ty,pos,aft,gd⟩ a w R Q) E L φ :=
 Xb hd rfl fun ρ w hE hm hφ=>by
  obtain ⟨hu,i,hi,rfl,rfl⟩:=yU hT
  obtain ⟨z',hz',hzc⟩:=u6 hzr hi
  have hle:=Nat.le_of_ble_eq_true hlen
  have hzl':=Nat.eq_of_beq_eq_true hzl
  have hpos:0<zs.length:=by rw [hzl',← hes];exact El'.pos
  have hmade:(Array.range (len * i.size)).map (zs.toArray[· % zs.toArray.size]!)=(List.replicate len zs).flatten.toArray:=by
   have:=uV zs len hpos
   rw [hzl'] at this
   unfold madeCells at this
   rw [← this]
  have hfill0:=VW _ _ _ _ hfill'
  have hfill:Instr.fill (fun j=>some (j * i.size,i.size)) ((Array.range (len * i.size)).map ((if len * i.size=0 then #[] else zs.toArray)[· % (if len * i.size=0 then #[] else zs.toArray).size]!)) qs=some cells.toArray:=by
   by_cases h0:len * i.size=0
   ·have hl0:len=0:=by
     rcases Nat.mul_eq_zero.1 h0 with h | h
     ·exact h
     ·have:=El'.pos;omega
    subst hl0
    simpa [Array.range_zero'] using hfill0
   ·simp only [h0,if_false]
    rw [hmade]
    exact hfill0
  refine ⟨.slice (some ⟨w.heap.size,0,none⟩) len len,w.alloc (.cells cells.toArray e),_,φ,?_,?_,hφ,k _⟩
  ·have hn:¬ (16777216<len * i.size):=by omega
   have hq':=hq ρ hE
   simp only [execOp,Instr.buildSlice,Sem.run_bind,run_underlying hu,Result.andThen_ok,hq']
   by_cases h0:len * i.size=0
   ·simp [h0] at hfill
    simp [sizeOf,typeInfo,hi,h0,newRow,hfill]
   ·simp [h0] at hfill
    simp [sizeOf,typeInfo,hi,h0,hn,zeroValue,hz',hzc,newRow,hfill]
  ·refine hm.add _ ((Below.refl _ _).alloc (Nat.le_refl _) _) (fun b hb=>by simp [zg,Value.ownBlock] at hb;rw [World.size_alloc];omega) ?_
   have hrows:∀ (F:Nat→Prop) (w:World) (xs:List α),Rows El' F w xs (xs.map enc):=by
    intro F w xs
    induction xs with
    | nil=>trivial
    | cons x r ih=>exact ⟨(hfl _ _ _ _).2 rfl,ih⟩
   have hl:=(hrows (fun _=>True) w xs).length
   rw [hcells,hxl] at hl
   subst hxl
   refine UO (hrows _ _ xs) (heap_alloc_new w _) (Nat.le_refl _) ?_ (by simpa using hl) ?_
   ·have hp:=El'.pos
    have:xs.length≤xs.length * i.size:=Nat.le_mul_of_pos_right _ (by omega)
    unfold maxLen;omega
   ·rw [hcells,← hl,List.take_of_length_le (by simp)]
end
section
variable {P:Program} {n:Nat} {G D:Nat→Prop} {w0:World} {Q:Exit→Act→World→Prop} {R:Act→World→Prop} {E:Env} {L M:List Ch} {φ:Prop}
variable {d:Tmp} {ty:TypeId} {pos:String} {aft:Array Edge} {gd:Option (Nat×Bool)} {Tk:Act→World→Prop} {Lr:List Ch} {x y:Operand} {T T' S:TypeId} {e sz by':Nat}
theorem ZN {α:Type} {E':DEl α} {ps:Array (Nat×Operand)} {qs:List (Nat×Value)} {zs cs:List Value} (y0:α) (hc:zcO M E' y0 cs) (hq:∀ ρ:Operand→Value,(∀ x v,oev E x=some v→ρ x=v)→(ps.map fun (i,x)=>(i,ρ x))=qs.toArray) (hT:elB P T=some (e,sz,by')) (hzr:xT P e=some zs) (k:∀ B v,Nx n G D w0 R ((d,v) :: E) (xI E' e B v [y0] :: L) φ) (hd:Nat.blt d n=true:=by rfl) (hes:E'.el.size=sz:=by rfl) (hlen:Nat.ble (1 * sz) 16777216=true:=by rfl) (hzl:Nat.beq zs.length sz=true:=by rfl) (hfill':Y1 (fun i=>some (i * sz,sz)) (List.replicate 1 zs).flatten qs=some cs:=by rfl):Nx n G D w0 (fun a w=>Oper.wp P ⟨some d,.buildSlice T 1 ps,ty,pos,aft,gd⟩ a w R Q) E (M++L) φ :=
 Xb hd rfl fun ρ w hE hm hφ=>by
  have hp:=E'.el.pos
  have hrun:=zcZ (P:=P) (w:=w) (qs:=qs) hT hzr (by omega) hlen hzl hfill'
  obtain ⟨B,b1,b2,b3⟩:=hc _ w (zdE hm)
  have hlt:=E'.lt _ _ _ _ b2
  have hl:cs.length=sz:=by rw [← hes];exact E'.el.len _ _ _ _ (E'.read _ _ _ _ b2)
  have hle:=Nat.le_of_ble_eq_true hlen
  refine ⟨.slice (some ⟨w.heap.size,0,none⟩) 1 1,w.alloc (.cells cs.toArray e),_,φ,by simp only [execOp,hq ρ hE,Sem.run_bind,hrun];rfl,?_,hφ,k (w.heap.size :: B) _⟩
  refine hm.repl (M0:=M) (N:=[xI E' e (w.heap.size :: B) (.slice (some ⟨w.heap.size,0,none⟩) 1 1) [y0]]) ⟨rfl,rfl,rfl,by rw [World.size_alloc];omega,fun b hb _=>heap_alloc_old w _ hb⟩ (fun c hc b hb=>?_) (List.pairwise_singleton _ _) (fun c hc F=>?_)
  ·simp only [List.mem_cons,List.not_mem_nil,or_false] at hc
   subst hc
   rcases List.mem_cons.1 hb with hb | hb
   ·subst hb;exact ⟨.inl (Nat.le_refl _),by rw [World.size_alloc];omega⟩
   ·exact ⟨.inr (b3 b hb),by have:=hlt b hb;rw [World.size_alloc];omega⟩
  ·simp only [List.mem_cons,List.not_mem_nil,or_false] at hc
   subst hc
   refine ⟨List.nodup_cons.2 ⟨fun h=>by have:=hlt _ h;omega,b1⟩,[cs],[B],uJ.one (E'.keep _ _ _ _ _ (fun b hb=>heap_alloc_old w _ (hlt b hb)) b2),⟨by simp [hl,hes],.inr ⟨w.heap.size,1,cs.toArray,rfl,Nat.zero_le _,heap_alloc_new w _,Nat.le_refl _,by decide,by simp [hl,hes],by simp [List.take_of_length_le,hl,hes]⟩⟩,by simp [U0,Value.ownBlock]⟩
theorem Uy {α:Type} {E':DEl α} {qs:List (Nat×Value)} {zs:List Value} {ps:Array (Nat×Operand)} (hq:∀ ρ:Operand→Value,(∀ x v,oev E x=some v→ρ x=v)→(ps.map fun (i,x)=>(i,ρ x))=qs.toArray) (hT:elB P T=some (e,sz,by')) (hzr:xT P e=some zs) (k:∀ B v,Nx n G D w0 R ((d,v) :: E) (xI E' e B v [] :: L) φ) (hd:Nat.blt d n=true:=by rfl) (hes:E'.el.size=sz:=by rfl) (hzl:Nat.beq zs.length sz=true:=by rfl) (hfill':Y1 (fun i=>some (i * sz,sz)) (List.replicate 0 zs).flatten qs=some []:=by rfl):Nx n G D w0 (fun a w=>Oper.wp P ⟨some d,.buildSlice T 0 ps,ty,pos,aft,gd⟩ a w R Q) E L φ :=
 Xb hd rfl fun ρ w hE hm hφ=>by
  have hp:=E'.el.pos
  have hrun:=zcZ (P:=P) (w:=w) (qs:=qs) (len:=0) hT hzr (by omega) (by simp) hzl hfill'
  refine ⟨.slice (some ⟨w.heap.size,0,none⟩) 0 0,w.alloc (.cells ([]:List Value).toArray e),_,φ,by simp only [execOp,hq ρ hE,Sem.run_bind,hrun];rfl,?_,hφ,k [w.heap.size] _⟩
  exact hm.add _ ((Below.refl _ _).alloc (Nat.le_refl _) _) (fun b hb=>by simp [xI] at hb;rw [World.size_alloc];omega) ⟨by simp,[],[],uJ.nil,⟨by simp,.inr ⟨w.heap.size,0,#[],rfl,Nat.zero_le _,heap_alloc_new w _,Nat.le_refl _,by decide,by simp,by simp⟩⟩,by simp [U0,Value.ownBlock]⟩
end
section
variable {P:Program} {n:Nat} {G D:Nat→Prop} {w0:World} {Q:Exit→Act→World→Prop} {R:Act→World→Prop} {E:Env} {L:List Ch} {φ:Prop}
variable {d:Tmp} {ty:TypeId} {pos:String} {aft:Array Edge} {gd:Option (Nat×Bool)} {Tk:Act→World→Prop} {Lr:List Ch} {x y:Operand} {T T' S:TypeId} {e sz by':Nat}
theorem ZS {α:Type} {El':El α} {len:Nat} {ps:Array (Nat×Operand)} {qs:List (Nat×Value)} {zs cells:List Value} (xs:List α) (css:List (List Value)) (hc:∀ w,Mem G D w0 L w→Rows El' (fz G L w) w xs css) (hq:∀ ρ:Operand→Value,(∀ x v,oev E x=some v→ρ x=v)→(ps.map fun (i,x)=>(i,ρ x))=qs.toArray) (hT:elB P T=some (e,sz,by')) (hzr:xT P e=some zs) (k:∀ v,Nx n G D w0 R ((d,v) :: E) (zg El' e v xs :: L) φ) (hd:Nat.blt d n=true:=by rfl) (hes:El'.size=sz:=by rfl) (hlen:Nat.ble (len * sz) 16777216=true:=by rfl) (hxl:xs.length=len:=by rfl) (hzl:Nat.beq zs.length sz=true:=by rfl) (hfill':Y1 (fun i=>some (i * sz,sz)) (List.replicate len zs).flatten qs=some cells:=by rfl) (hcells:css.flatten=cells:=by rfl):Nx n G D w0 (fun a w=>Oper.wp P ⟨some d,.buildSlice T len ps,ty,pos,aft,gd⟩ a w R Q) E L φ:=zf3 xs css hc hq hd hT hzr hes hlen hxl hzl hfill' hcells k
end
section
variable {P:Program} {n:Nat} {G D:Nat→Prop} {w0:World} {Q:Exit→Act→World→Prop} {R:Act→World→Prop} {E:Env} {L:List Ch} {φ:Prop}
variable {d:Tmp} {ty:TypeId} {pos:String} {aft:Array Edge} {gd:Option (Nat×Bool)} {Tk:Act→World→Prop} {Lr:List Ch} {x y:Operand} {T T' S:TypeId} {e sz by':Nat}
theorem zS {ρ ν:Type} {f:Nat} {l:List Operand} {at':Array TypeId} {vs:List Value} {κ:ρ→Prop} {val:ρ→ν→Value} {N:ρ→ν→List Ch} {M0 L':List Ch} (hf:∀ args w,(callFunc f args).run P w=.ok (.enter f args) w) (hc:∀ w,Mem G D w0 (M0++L') w→φ→Calls P f vs.toArray w (Ret M0 (fz G (M0++L') w) w κ val N)) (k:∀ r s,Nx n G D w0 R ((d,val r s) :: E) (N r s++L') (κ r)) (hargs:zbD E l=some vs:=by rfl) (hd:Nat.blt d n=true:=by rfl):Nx n G D w0 (fun a w=>Oper.wp P ⟨some d,.call {callee:=.value (.func f),args:=l.toArray,argTypes:=at'},ty,pos,aft,gd⟩ a w R Q) E (M0++L') φ:=zfR hf hargs hd hc k
theorem zm {ρ ν:Type} {f:Nat} {l:List Operand} {at':Array TypeId} {vs:List Value} {κ:ρ→Prop} {val:ρ→ν→Value} {N:ρ→ν→List Ch} (hf:∀ args w,(callFunc f args).run P w=.ok (.enter f args) w) (hc:∀ w,Mem G D w0 L w→φ→Calls P f vs.toArray w (Ret [] (fz G L w) w κ val N)) (k:∀ r s,Nx n G D w0 R ((d,val r s) :: E) (N r s++L) (κ r)) (hargs:zbD E l=some vs:=by rfl) (hd:Nat.blt d n=true:=by rfl):Nx n G D w0 (fun a w=>Oper.wp P ⟨some d,.call {callee:=.value (.func f),args:=l.toArray,argTypes:=at'},ty,pos,aft,gd⟩ a w R Q) E L φ:=zev hf hargs hd hc k
end
section
variable {P:Program} {n:Nat} {G D:Nat→Prop} {w0:World} {Q:Exit→Act→World→Prop} {R:Act→World→Prop} {E:Env} {L M:List Ch} {φ:Prop}
variable {d:Tmp} {ty:TypeId} {pos:String} {aft:Array Edge} {gd:Option (Nat×Bool)} {Tk:Act→World→Prop} {Lr:List Ch} {x y:Operand} {T T' S:TypeId} {e sz by':Nat} {dst:Option Tmp} {at':Array TypeId}
theorem zad {o:Oper} {ρ ν:Type} {f:Nat} {vs:List Value} {κ:ρ→Prop} {val:ρ→ν→Value} {N:ρ→ν→List Ch} {M0 L':List Ch} (hr:zf0 P E o f vs) (hc:∀ w,Mem G D w0 (M0++L') w→φ→Calls P f vs.toArray w (Ret M0 (fz G (M0++L') w) w κ val N)) (k:∀ r s,Nx n G D w0 R ((d,val r s) :: E) (N r s++L') (κ r)) (ho:o.dst=some d:=by rfl) (hd:Nat.blt d n=true:=by rfl):Nx n G D w0 (fun a w=>Oper.wp P o a w R Q) E (M0++L') φ:=zeL ho hr hd hc k
theorem zcy {o:Oper} {ρ ν:Type} {f:Nat} {vs:List Value} {κ:ρ→Prop} {val:ρ→ν→Value} {N:ρ→ν→List Ch} (hr:zf0 P E o f vs) (hc:∀ w,Mem G D w0 L w→φ→Calls P f vs.toArray w (Ret [] (fz G L w) w κ val N)) (k:∀ r s,Nx n G D w0 R ((d,val r s) :: E) (N r s++L) (κ r)) (ho:o.dst=some d:=by rfl) (hd:Nat.blt d n=true:=by rfl):Nx n G D w0 (fun a w=>Oper.wp P o a w R Q) E L φ :=
 zeL (M0:=[]) (L':=L) ho hr hd hc k
end
section
variable {P:Program} {n:Nat} {G D:Nat→Prop} {w0:World} {Q:Exit→Act→World→Prop} {R:Act→World→Prop} {E:Env} {L:List Ch} {φ:Prop}
variable {d:Tmp} {ty:TypeId} {pos:String} {aft:Array Edge} {gd:Option (Nat×Bool)} {Tk:Act→World→Prop} {Lr:List Ch} {x y:Operand} {T T' S:TypeId}
end
section
variable {P:Program} {n:Nat} {G D:Nat→Prop} {w0:World} {Q:Exit→Act→World→Prop} {R:Act→World→Prop} {E:Env} {L:List Ch} {φ:Prop}
variable {d:Tmp} {ty:TypeId} {pos:String} {aft:Array Edge} {gd:Option (Nat×Bool)} {Tk:Act→World→Prop} {Lr:List Ch} {x y:Operand} {T T' S:TypeId} {e sz by':Nat} {at':Array TypeId}
theorem zc5 (M:xL P n G D w0 E ⟨some d,.convert T T' x,ty,pos,aft,gd⟩ Tk R Lr L) {X:UInt8} (hT:P.underlying T=some (.int .u8)) (hT':P.underlying T'=some (.int .i64)) (k:Nx n G D w0 R ((d,.int .i64 (X.toNat:Int)) :: E) L φ) (hx:oev E x=some (.int .u8 (X.toNat:Int)):=by rfl) (hd:Nat.blt d n=true:=by rfl):Nx n G D w0 Tk E L φ :=
 M.val hd rfl (fun ρ w hE _ _=>by
  have h:=X.toNat_lt
  have e:IntKind.i64.wrap (X.toNat:Int)=(X.toNat:Int):=by rw [IntKind.wrap_i64];omega
  simp [execOp,hE _ _ hx,go_sem,convert,run_underlying hT,run_underlying hT',e]) id k
end
section
variable {P:Program} {n:Nat} {G D:Nat→Prop} {w0:World} {Q:Exit→Act→World→Prop} {R:Act→World→Prop} {E:Env} {L:List Ch} {φ:Prop}
variable {d:Tmp} {ty:TypeId} {pos:String} {aft:Array Edge} {gd:Option (Nat×Bool)} {Tk:Act→World→Prop} {Lr:List Ch} {x y:Operand} {T T' S:TypeId}
end
section
variable {P:Program} {n:Nat} {G D:Nat→Prop} {w0:World} {Q:Exit→Act→World→Prop} {R:Act→World→Prop} {E:Env} {L:List Ch} {φ:Prop}
variable {d:Tmp} {ty:TypeId} {pos:String} {aft:Array Edge} {gd:Option (Nat×Bool)} {Tk:Act→World→Prop} {Lr:List Ch} {x y:Operand} {T T' S:TypeId} {e sz by':Nat} {at':Array TypeId}
end
section
variable {P:Program} {n:Nat} {G D:Nat→Prop} {w0:World} {Q:Exit→Act→World→Prop} {R:Act→World→Prop} {E:Env} {L:List Ch} {φ:Prop}
variable {d:Tmp} {ty:TypeId} {pos:String} {aft:Array Edge} {gd:Option (Nat×Bool)} {Tk:Act→World→Prop} {Lr:List Ch} {x y:Operand} {T T' S:TypeId} {e sz by':Nat}
theorem jC (M:xL P n G D w0 E ⟨some d,.binOp .eql T x y T',ty,pos,aft,gd⟩ Tk R Lr L) {X Y:Int} {K:IntKind} (hT:P.underlying T=some (.int K)) (k:Nx n G D w0 R ((d,.bool (decide (X=Y))) :: E) L φ) (hx:oev E x=some (.int K X):=by rfl) (hy:oev E y=some (.int K Y):=by rfl) (hd:Nat.blt d n=true:=by rfl):Nx n G D w0 Tk E L φ :=
 M.val hd rfl (fun ρ w hE _ _=>by simp [execOp,hE _ _ hx,hE _ _ hy,go_sem,hT,run_underlying hT];rfl) id k
theorem zg6 (M:xL P n G D w0 E ⟨some d,.binOp .eql T x y T',ty,pos,aft,gd⟩ Tk R Lr L) {X Y:Bool} (hT:P.underlying T=some .bool) (k:Nx n G D w0 R ((d,.bool (decide (X=Y))) :: E) L φ) (hx:oev E x=some (.bool X):=by rfl) (hy:oev E y=some (.bool Y):=by rfl) (hd:Nat.blt d n=true:=by rfl):Nx n G D w0 Tk E L φ :=
 M.val hd rfl (fun ρ w hE _ _=>by cases X <;> cases Y <;> simp [execOp,hE _ _ hx,hE _ _ hy,go_sem,hT,run_underlying hT]) id k
end
section
variable {P:Program} {n:Nat} {G D:Nat→Prop} {w0:World} {Q:Exit→Act→World→Prop} {R:Act→World→Prop} {E:Env} {L M:List Ch} {φ:Prop}
variable {d:Tmp} {ty:TypeId} {pos:String} {aft:Array Edge} {gd:Option (Nat×Bool)} {Tk:Act→World→Prop} {Lr:List Ch} {x y:Operand} {T T' S:TypeId} {e sz by':Nat} {dst:Option Tmp} {at':Array TypeId}
end
section
variable {P:Program} {n:Nat} {G D:Nat→Prop} {w0:World} {Q:Exit→Act→World→Prop} {R:Act→World→Prop} {E:Env} {L:List Ch} {φ:Prop}
variable {d:Tmp} {ty:TypeId} {pos:String} {aft:Array Edge} {gd:Option (Nat×Bool)} {Tk:Act→World→Prop} {Lr:List Ch} {x y:Operand} {T T' S:TypeId}
end
section
variable {P:Program} {n:Nat} {G D:Nat→Prop} {w0:World} {Q:Exit→Act→World→Prop} {R:Act→World→Prop} {E:Env} {L:List Ch} {φ:Prop}
variable {d:Tmp} {ty:TypeId} {pos:String} {aft:Array Edge} {gd:Option (Nat×Bool)} {Tk:Act→World→Prop} {Lr:List Ch} {x y:Operand} {T T' S:TypeId}
theorem jp {k':Nat} (M:xL P n G D w0 E ⟨some d,.extract x k',ty,pos,aft,gd⟩ Tk R Lr L) {vs:List Value} {v:Value} (k:Nx n G D w0 R ((d,v) :: E) L φ) (hx:oev E x=some (.tuple vs.toArray):=by rfl) (hd:Nat.blt d n=true:=by rfl) (hv:vs[k']?=some v:=by rfl):Nx n G D w0 Tk E L φ :=
 M.val hd rfl (fun ρ w hE hm _=>by simp [execOp,hE _ _ hx,Instr.extract,hv]) id k
theorem zu {k':Nat} (M:xL P n G D w0 E ⟨some d,.fieldAddr S x k',ty,pos,aft,gd⟩ Tk R Lr L) {b o off sz:Nat} {row:Bool} (hS:Z5 P S k'=some (off,row,sz)) (k:Nx n G D w0 R ((d,.pointer (some ⟨b,o+off,none⟩)) :: E) L φ) (hx:oev E x=some (.pointer (some ⟨b,o,none⟩)):=by rfl) (hd:Nat.blt d n=true:=by rfl) (hp:Nat.beq sz 0=false:=by rfl):Nx n G D w0 Tk E L φ :=
 M.val hd rfl (fun ρ w hE hm _=>by
  have:=zdV (P:=P) (w:=w) (a:=⟨b,o,none⟩) hS hp
  rw [Addr.add_mid] at this
  simp [execOp,hE _ _ hx,this]) id k
theorem jo {k':Nat} (M:xL P n G D w0 E ⟨some d,.fieldAddr S x k',ty,pos,aft,gd⟩ Tk R Lr L) {α:Type} {El':El α} {v:Value} {xs:List α} {c:Ch} {I:Int} {z:α} {o off sz fs:Nat} {row:Bool} (i:Nat) (hc:Xp c El' v xs) (hz:xs[I.toNat]?=some z) (hS:Z5 P S k'=some (off,row,fs)) (k:Nx n G D w0 R ((d,pEl v I sz (o+off)) :: E) L φ) (hi:jX Lr i=some c:=by rfl) (hx:oev E x=some (pEl v I sz o):=by rfl) (hd:Nat.blt d n=true:=by rfl) (hp:Nat.beq fs 0=false:=by rfl):Nx n G D w0 Tk E L φ :=
 M.val hd rfl (fun ρ w hE hm _=>by
  obtain ⟨b,off',cap,cs,rfl,_,_⟩:=(hc _ _ (hm.get hi)).at hz
  rw [yh] at hx ⊢
  have:=zdV (P:=P) (w:=w) (a:=⟨b,off'+I.toNat * sz+o,none⟩) hS hp
  rw [Addr.add_mid] at this
  simp [execOp,hE _ _ hx,this]) id k
end
section
variable {P:Program} {n:Nat} {G D:Nat→Prop} {w0:World} {Q:Exit→Act→World→Prop} {R:Act→World→Prop} {E:Env} {L:List Ch} {φ:Prop}
variable {d:Tmp} {ty:TypeId} {pos:String} {aft:Array Edge} {gd:Option (Nat×Bool)} {Tk:Act→World→Prop} {Lr:List Ch} {x y:Operand} {T T':TypeId}
theorem YW (M:xL P n G D w0 E ⟨some d,.binOp .geq T x y T',ty,pos,aft,gd⟩ Tk R Lr L) {X Y:Int} {K:IntKind} (k:Nx n G D w0 R ((d,.bool (decide (Y≤X))) :: E) L φ) (hx:oev E x=some (.int K X):=by rfl) (hy:oev E y=some (.int K Y):=by rfl) (hd:Nat.blt d n=true:=by rfl):Nx n G D w0 Tk E L φ :=
 M.val hd rfl (fun ρ w hE _ hφ=>by simp [execOp,hE _ _ hx,hE _ _ hy,go_sem]) id k
theorem xZ (M:xL P n G D w0 E ⟨some d,.binOp .gtr T x y T',ty,pos,aft,gd⟩ Tk R Lr L) {X Y:Int} {K:IntKind} (k:Nx n G D w0 R ((d,.bool (decide (Y<X))) :: E) L φ) (hx:oev E x=some (.int K X):=by rfl) (hy:oev E y=some (.int K Y):=by rfl) (hd:Nat.blt d n=true:=by rfl):Nx n G D w0 Tk E L φ:=zg8 M hx hy hd k
end
section
variable {P:Program} {n:Nat} {G D:Nat→Prop} {w0:World} {Q:Exit→Act→World→Prop} {R:Act→World→Prop} {E:Env} {L:List Ch} {φ:Prop}
variable {d:Tmp} {ty:TypeId} {pos:String} {aft:Array Edge} {gd:Option (Nat×Bool)} {Tk:Act→World→Prop} {Lr:List Ch} {x y:Operand} {T T' S:TypeId}
theorem zH (M:xL P n G D w0 E ⟨some d,.indexAddr T x y,ty,pos,aft,gd⟩ Tk R Lr L) {α:Type} {El':El α} {v:Value} {xs:List α} {c:Ch} {I:Int} {κ:α→Prop} {e sz by':Nat} (i:Nat) (hc:Xp c El' v xs) (hT:elB P T=some (e,sz,by')) (k:∀ z,xs[I.toNat]?=some z→Nx n G D w0 R ((d,pEl v I sz 0) :: E) L (κ z)) (hi:jX Lr i=some c:=by rfl) (hx:oev E x=some v:=by rfl) (hy:oev E y=some (.int .i64 I):=by rfl) (hd:Nat.blt d n=true:=by rfl):Nx n G D w0 Tk E L (zF xs I κ) :=
 M.val (v:=pEl v I sz 0) (ψ:=zF xs I κ) hd rfl (fun ρ w hE hm hφ=>by
  obtain ⟨z,h0,h1,h2⟩:=hφ
  obtain ⟨b,off,cap,cs,rfl,_,_⟩:=(hc _ _ (hm.get hi)).at h1
  have hlt:=(List.getElem?_eq_some_iff.1 h1).1
  unfold elB at hT
  split at hT
  ·rename_i e' hu
   split at hT
   ·rename_i inf hi'
    simp at hT
    obtain ⟨rfl,rfl,rfl⟩:=hT
    have h5:I<xs.length:=by omega
    rw [yh]
    simp [execOp,hE _ _ hx,hE _ _ hy,Instr.indexAt,asIntOf,run_underlying hu,sizeOf,typeInfo,hi',h0,h5,Addr.add_mid]
   ·simp at hT
  ·simp at hT) id (fun a w hE hm ⟨z,_,h1,h2⟩=>k z h1 a w hE hm h2)
end
section
variable {P:Program} {n:Nat} {G D:Nat→Prop} {w0:World} {Q:Exit→Act→World→Prop} {R:Act→World→Prop} {E:Env} {L M:List Ch} {φ:Prop}
variable {d:Tmp} {ty:TypeId} {pos:String} {aft:Array Edge} {gd:Option (Nat×Bool)} {Tk:Act→World→Prop} {Lr:List Ch} {x y:Operand} {T T' S:TypeId}
end
section
variable {P:Program} {n:Nat} {G D:Nat→Prop} {w0:World} {Q:Exit→Act→World→Prop} {R:Act→World→Prop} {E:Env} {L M:List Ch} {φ:Prop}
variable {d:Tmp} {ty:TypeId} {pos:String} {aft:Array Edge} {gd:Option (Nat×Bool)} {Tk:Act→World→Prop} {Lr:List Ch} {x y:Operand} {T T' S:TypeId} {e sz by':Nat} {dst:Option Tmp} {at':Array TypeId}
theorem zga {α:Type} {El':El α} {vs:List Value} {xs:List (List α)} {I:Int} {κ:List α→Prop} {len e':Nat} (M:xL P n G D w0 E ⟨some d,.index T x y,ty,pos,aft,gd⟩ Tk R Lr L) (hfa:∀ w,Mem G D w0 L w→zcv El' (fz G L w) w vs xs) (hT:za8 P T=some (len,e',false,1)) (k:∀ v z,xs[I.toNat]?=some z→Nx n G D w0 R ((d,v) :: E) (xz El' v z :: L) (κ z)) (hx:oev E x=some (.agg vs.toArray):=by rfl) (hy:oev E y=some (.int .i64 I):=by rfl) (hd:Nat.blt d n=true:=by rfl) (hl:xs.length=len:=by rfl):Nx n G D w0 Tk E L (zF xs I κ):=fun a w hE hm hφ=>by
 refine (M.val (v:=zdy vs I) (φ:=zF xs I κ) (ψ:=zF xs I κ) hd rfl (fun ρ w hE hm hφ=>?_) id (fun a' w' hE' hm' hφ'=>?_)) a w hE hm hφ
 ·obtain ⟨z,h0,h1,h2⟩:=hφ
  have hlt:=(List.getElem?_eq_some_iff.1 h1).1
  obtain ⟨hu',ht⟩:=zdc hT
  obtain ⟨i,hq,hi⟩:=za0 ht
  have h5:I<len:=by omega
  have hvl:vs.length=xs.length:=by
   have key:∀ {vs:List Value} {xs:List (List α)} {F:Nat→Prop} {w:World},zcv El' F w vs xs→vs.length=xs.length:=by
    intro vs
    induction vs with
    | nil=>intro xs F w h;cases xs with
     | nil=>rfl
     | cons _ _=>exact h.elim
    | cons v vs ih=>intro xs F w h;cases xs with
     | nil=>exact h.elim
     | cons x xs=>simp [ih h.2]
   exact key (hfa _ (by assumption))
  have hv:ldv false (I.toNat * 1) 1 vs=some (zdy vs I):=by
   have:I.toNat<vs.length:=by omega
   simp [ldv,zdy,this]
  have hr:=zch (P:=P) (w:=w) ht hv
  simp at hr
  simp [execOp,hE _ _ hx,hE _ _ hy,Instr.index,asIntOf,run_underlying hu',sizeOf,typeInfo,hq,hi,h0,h5,hr]
 ·obtain ⟨z,h0,h1,h2⟩:=hφ'
  obtain ⟨v,hv,hs⟩:=(hfa w' hm').get h1
  have hp:zdy vs I=v:=by simp [zdy,hv]
  rw [hp] at hE'
  exact k v z h1 a' w' hE' (hm'.note (fun b hb=>hb) hs) h2
end
section
variable {P:Program} {n:Nat} {G D:Nat→Prop} {w0:World} {Q:Exit→Act→World→Prop} {R:Act→World→Prop} {E:Env} {L:List Ch} {φ:Prop}
variable {d:Tmp} {ty:TypeId} {pos:String} {aft:Array Edge} {gd:Option (Nat×Bool)} {Tk:Act→World→Prop} {Lr:List Ch} {x y:Operand} {T T' S:TypeId}
theorem jY (M:xL P n G D w0 E ⟨some d,.indexAddr T x y,ty,pos,aft,gd⟩ Tk R Lr L) {α:Type} {El':El α} {b o cap:Nat} {xs:List α} {c:Ch} {I:Int} {κ:α→Prop} {len e sz:Nat} {row:Bool} (i:Nat) (hc:Xp c El' (.slice (some ⟨b,o,none⟩) len cap) xs) (hT:za8 P T=some (len,e,row,sz)) (k:∀ z,xs[I.toNat]?=some z→Nx n G D w0 R ((d,pEl (.slice (some ⟨b,o,none⟩) len cap) I sz 0) :: E) L (κ z)) (hi:jX Lr i=some c:=by rfl) (hx:oev E x=some (.pointer (some ⟨b,o,none⟩)):=by rfl) (hy:oev E y=some (.int .i64 I):=by rfl) (hd:Nat.blt d n=true:=by rfl):Nx n G D w0 Tk E L (zF xs I κ) :=
 M.val (v:=pEl (.slice (some ⟨b,o,none⟩) len cap) I sz 0) (ψ:=zF xs I κ) hd rfl (fun ρ w hE hm hφ=>by
  obtain ⟨z,h0,h1,h2⟩:=hφ
  obtain ⟨a',cap',he,_⟩:=hc _ _ (hm.get hi)
  have hln:xs.length=len:=by simp at he;exact he.2.1.symm
  have hlt:=(List.getElem?_eq_some_iff.1 h1).1
  obtain ⟨hu',ht⟩:=zdc hT
  obtain ⟨i,hq,hi⟩:=za0 ht
  have h5:I<len:=by omega
  rw [yh]
  simp [execOp,hE _ _ hx,hE _ _ hy,Instr.indexAt,Instr.sureAddr,asIntOf,run_underlying hu',sizeOf,typeInfo,hq,hi,h0,h5,Addr.add_mid]) id (fun a w hE hm ⟨z,_,h1,h2⟩=>k z h1 a w hE hm h2)
end
section
variable {P:Program} {n:Nat} {G D:Nat→Prop} {w0:World} {Q:Exit→Act→World→Prop} {R:Act→World→Prop} {E:Env} {L:List Ch} {φ:Prop}
variable {d:Tmp} {ty:TypeId} {pos:String} {aft:Array Edge} {gd:Option (Nat×Bool)} {Tk:Act→World→Prop} {Lr:List Ch} {x y:Operand} {T T' S:TypeId}
end
section
variable {P:Program} {n:Nat} {G D:Nat→Prop} {w0:World} {Q:Exit→Act→World→Prop} {R:Act→World→Prop} {E:Env} {L:List Ch} {φ:Prop}
variable {d:Tmp} {ty:TypeId} {pos:String} {aft:Array Edge} {gd:Option (Nat×Bool)} {Tk:Act→World→Prop} {Lr:List Ch} {x y:Operand} {T T' S:TypeId}
theorem zhR (M:xL P n G D w0 E ⟨some d,.index T x y,ty,pos,aft,gd⟩ Tk R Lr L) {α:Type} {enc:α→List Value} {zs:List α} {cs:List Value} {I:Int} {κ:α→Prop} {u:α→Value} {len e sz:Nat} {row:Bool} (hT:za8 P T=some (len,e,row,sz)) (he:∀ z,(enc z).length=sz) (hu:∀ z,ldv row 0 sz (enc z)=some (u z)) (k:∀ z,Nx n G D w0 R ((d,u z) :: E) L (κ z)) (hx:oev E x=some (.agg cs.toArray):=by rfl) (hy:oev E y=some (.int .i64 I):=by rfl) (hd:Nat.blt d n=true:=by rfl) (hcs:zs.flatMap enc=cs:=by rfl) (hl:zs.length=len:=by rfl):Nx n G D w0 Tk E L (zF zs I κ):=fun a w hE hm hφ=>by
 obtain ⟨z,h0,h1,h2⟩:=hφ
 refine (M.val (v:=u z) (φ:=κ z) (ψ:=κ z) hd rfl (fun ρ w hE hm hφ=>?_) id (k z)) a w hE hm h2
 obtain ⟨hu',ht⟩:=zdc hT
 obtain ⟨i,hq,hi⟩:=za0 ht
 have hlt:=(List.getElem?_eq_some_iff.1 h1).1
 have h5:I<len:=by omega
 have hr:=zch (P:=P) (w:=w) ht (zdm he zs _ _ h1 row _ (hu z))
 rw [hcs] at hr
 simp [execOp,hE _ _ hx,hE _ _ hy,Instr.index,asIntOf,run_underlying hu',sizeOf,typeInfo,hq,hi,h0,h5,hr]
end
section
variable {P:Program} {n:Nat} {G D:Nat→Prop} {w0:World} {Q:Exit→Act→World→Prop} {R:Act→World→Prop} {E:Env} {L M:List Ch} {φ:Prop}
variable {d:Tmp} {ty:TypeId} {pos:String} {aft:Array Edge} {gd:Option (Nat×Bool)} {Tk:Act→World→Prop} {Lr:List Ch} {x y:Operand} {T T' S:TypeId} {e sz by':Nat}
theorem zgf {α:Type} {El':El α} {enc:α→List Value} {b len cap fs:Nat} {xs:List α} {c:Ch} {u:List Value} (M:xL P n G D w0 E ⟨some d,.load T x,ty,pos,aft,gd⟩ Tk R Lr L) (i:Nat) (hc:Xp c El' (.slice (some ⟨b,0,none⟩) len cap) xs) (hfl:XU El' enc) (hT:tyB P T=some (true,fs)) (k:Nx n G D w0 R ((d,.agg u.toArray) :: E) L φ) (hi:jX Lr i=some c:=by rfl) (hx:oev E x=some (.pointer (some ⟨b,0,none⟩)):=by rfl) (hd:Nat.blt d n=true:=by rfl) (hu:(xs.map enc).flatten=u:=by rfl) (hl:Nat.beq u.length fs=true:=by rfl):Nx n G D w0 Tk E L φ :=
 M.val hd rfl (fun ρ w hE hm _=>by
  obtain ⟨css,h1,h2⟩:=ze0 (xr hfl hc _ _ (hm.get hi))
  rw [zcw hfl h1,hu] at h2
  have hv:ldv true 0 fs u=some (.agg u.toArray):=by
   have:=Nat.eq_of_beq_eq_true hl
   simp [ldv,← this]
  have:=Yh (P:=P) hT h2 hv
  rw [Nat.add_zero] at this
  simp [execOp,hE _ _ hx,this]) id k
theorem xt {α:Type} {El':El α} {b len cap fs:Nat} {xs:List α} {c:Ch} (i:Nat) (hc:Src c El' (.slice (some ⟨b,0,none⟩) len cap) xs) (hT:tyB P T=some (true,fs)) (k:∀ wr F0 css,Rows El' F0 wr xs css→∃ u:List Value,css.flatten=u∧Nx n G D w0 R ((d,.agg u.toArray) :: E) (zi wr F0 :: L) φ) (hi:jX L i=some c:=by rfl) (hx:oev E x=some (.pointer (some ⟨b,0,none⟩)):=by rfl) (hd:Nat.blt d n=true:=by rfl) (hlen:xs.length=len:=by rfl) (hfs:len * El'.size=fs:=by rfl):Nx n G D w0 (fun a w=>Oper.wp P ⟨some d,.load T x,ty,pos,aft,gd⟩ a w R Q) E L φ:=zer i hi hc hx hd hlen hT hfs k
end
section
variable {P:Program} {n:Nat} {G D:Nat→Prop} {w0:World} {Q:Exit→Act→World→Prop} {R:Act→World→Prop} {E:Env} {L:List Ch} {φ:Prop}
variable {d:Tmp} {ty:TypeId} {pos:String} {aft:Array Edge} {gd:Option (Nat×Bool)} {Tk:Act→World→Prop} {Lr:List Ch} {x y:Operand} {T T' S:TypeId} {e sz by':Nat}
theorem yl {α:Type} {E':El α} {v:Value} {xs:List α} {c:Ch} {I:Int} {z:α} {o fs:Nat} {row:Bool} (i:Nat) (hc:Src c E' v xs) (hz:xs[I.toNat]?=some z) (hT:tyB P T=some (row,fs)) (k:∀ wr F0 cs,E'.cells F0 wr z cs→∃ u,ldv row o fs cs=some u∧Nx n G D w0 R ((d,u) :: E) (zi wr F0 :: L) φ) (hi:jX L i=some c:=by rfl) (hx:oev E x=some (pEl v I E'.size o):=by rfl) (hd:Nat.blt d n=true:=by rfl):Nx n G D w0 (fun a w=>Oper.wp P ⟨some d,.load T x,ty,pos,aft,gd⟩ a w R Q) E L φ :=
 Xb hd rfl fun ρ w hE hm hφ=>by
  obtain ⟨b,off,cap,cs,rfl,_,hcs,hr⟩:=(hc _ _ (hm.get hi)).at hz
  obtain ⟨u,hu,hk⟩:=k w (fz G L w) cs hcs
  have:=Yh (P:=P) hT hr hu
  rw [yh] at hx
  exact ⟨u,w,zi w (fz G L w) :: L,φ,by simp [execOp,hE _ _ hx,this],hm.note (fun b hb=>hb) ⟨fun b hb=>hb,fun _ _=>rfl⟩,hφ,hk⟩
end
section
variable {P:Program} {n:Nat} {G D:Nat→Prop} {w0:World} {Q:Exit→Act→World→Prop} {R:Act→World→Prop} {E:Env} {L M:List Ch} {φ:Prop}
variable {d:Tmp} {ty:TypeId} {pos:String} {aft:Array Edge} {gd:Option (Nat×Bool)} {Tk:Act→World→Prop} {Lr:List Ch} {x y:Operand} {T T' S:TypeId} {e sz by':Nat}
end
section
variable {P:Program} {n:Nat} {G D:Nat→Prop} {w0:World} {Q:Exit→Act→World→Prop} {R:Act→World→Prop} {E:Env} {L M:List Ch} {φ:Prop}
variable {d:Tmp} {ty:TypeId} {pos:String} {aft:Array Edge} {gd:Option (Nat×Bool)} {Tk:Act→World→Prop} {Lr:List Ch} {x y:Operand} {T T' S:TypeId} {e sz by':Nat}
end
section
variable {P:Program} {n:Nat} {G D:Nat→Prop} {w0:World} {Q:Exit→Act→World→Prop} {R:Act→World→Prop} {E:Env} {L:List Ch} {φ:Prop}
variable {d:Tmp} {ty:TypeId} {pos:String} {aft:Array Edge} {gd:Option (Nat×Bool)} {Tk:Act→World→Prop} {Lr:List Ch} {x y:Operand} {T T' S:TypeId} {e sz by':Nat}
theorem jH (M:xL P n G D w0 E ⟨some d,.load T x,ty,pos,aft,gd⟩ Tk R Lr L) {wr:World} {F0:Nat→Prop} {v:Value} {I:Int} {o fs:Nat} {cs:List Value} {row:Bool} {u:Value} (i:Nat) (hr:yY wr F0 v I sz cs) (hT:tyB P T=some (row,fs)) (k:Nx n G D w0 R ((d,u) :: E) L φ) (hi:jX Lr i=some (zi wr F0):=by rfl) (hx:oev E x=some (pEl v I sz o):=by rfl) (hd:Nat.blt d n=true:=by rfl) (hu:ldv row o fs cs=some u:=by rfl):Nx n G D w0 Tk E L φ :=
 M.val hd rfl (fun ρ w hE hm _=>by
  obtain ⟨b,off,l,c,rfl,hb,hc⟩:=hr
  have h:(zi wr F0).holds _ w:=hm.get hi
  have hc':w.rangeAt b (off+I.toNat * sz) cs:=Vo hc (h.2 b hb)
  have:=Yh (P:=P) hT hc' hu
  rw [yh] at hx
  simp [execOp,hE _ _ hx,this]) id k
end
section
variable {P:Program} {n:Nat} {G D:Nat→Prop} {w0:World} {Q:Exit→Act→World→Prop} {R:Act→World→Prop} {E:Env} {L:List Ch} {φ:Prop}
variable {d:Tmp} {ty:TypeId} {pos:String} {aft:Array Edge} {gd:Option (Nat×Bool)} {Tk:Act→World→Prop} {Lr:List Ch} {x y:Operand} {T T' S:TypeId}
theorem zp (M:xL P n G D w0 E ⟨some d,.load T x,ty,pos,aft,gd⟩ Tk R Lr L) {b o sz:Nat} {cs:List Value} {T0:TypeId} {row:Bool} {v:Value} (i:Nat) (hT:tyB P T=some (row,sz)) (k:Nx n G D w0 R ((d,v) :: E) L φ) (hi:jX Lr i=some (zb b cs T0):=by rfl) (hx:oev E x=some (.pointer (some ⟨b,o,none⟩)):=by rfl) (hd:Nat.blt d n=true:=by rfl) (hv:ldv row o sz cs=some v:=by rfl):Nx n G D w0 Tk E L φ:=zeI M i hi hx hd hT hv k
theorem jh (M:xL P n G D w0 E ⟨some d,.load T x,ty,pos,aft,gd⟩ Tk R Lr L) {α:Type} {El':El α} {enc:α→List Value} {v:Value} {xs:List α} {c:Ch} {I:Int} {z:α} {o sz fs:Nat} {row:Bool} {u:Value} (i:Nat) (hc:Xp c El' v xs) (hfl:XU El' enc) (hz:xs[I.toNat]?=some z) (hT:tyB P T=some (row,fs)) (k:Nx n G D w0 R ((d,u) :: E) L φ) (hi:jX Lr i=some c:=by rfl) (hes:El'.size=sz:=by rfl) (hx:oev E x=some (pEl v I sz o):=by rfl) (hd:Nat.blt d n=true:=by rfl) (hv:ldv row o fs (enc z)=some u:=by rfl):Nx n G D w0 Tk E L φ :=
 M.val hd rfl (fun ρ w hE hm _=>by
  obtain ⟨b,off',cap,cs,rfl,h1,h2⟩:=(hc _ _ (hm.get hi)).at hz
  rw [yh] at hx
  rw [(hfl _ _ _ _).1 h1,hes] at h2
  have:=Yh (P:=P) hT h2 hv
  simp [execOp,hE _ _ hx,this]) id k
theorem zL (M:xL P n G D w0 E ⟨some d,.call {callee:=.builtin .len,args:=#[x],argTypes:=#[T]},ty,pos,aft,gd⟩ Tk R Lr L) {α:Type} {El':El α} {v:Value} {xs:List α} {c:Ch} {p:TypeId×Nat×Nat} (hT:elB P T=some p) (i:Nat) (hc:Xp c El' v xs) (k:Nx n G D w0 R ((d,.int .i64 xs.length) :: E) L φ) (hi:jX Lr i=some c:=by rfl) (hx:oev E x=some v:=by rfl) (hd:Nat.blt d n=true:=by rfl):Nx n G D w0 Tk E L φ :=
 M.val hd rfl (fun ρ w hE hm _=>by
  obtain ⟨a,cap,rfl⟩:=(hc _ _ (hm.get hi)).len_eq
  obtain ⟨e,hu⟩:∃ e,P.underlying T=some (.slice e):=by
   unfold elB at hT
   split at hT
   ·exact ⟨_,‹_›⟩
   ·simp at hT
  simp [execOp,resolve,invoke,builtin,hE _ _ hx,go_sem,Builtin.len_,run_underlying hu]) id k
end
section
variable {P:Program} {n:Nat} {G D:Nat→Prop} {w0:World} {Q:Exit→Act→World→Prop} {R:Act→World→Prop} {E:Env} {L M:List Ch} {φ:Prop}
variable {d:Tmp} {ty:TypeId} {pos:String} {aft:Array Edge} {gd:Option (Nat×Bool)} {Tk:Act→World→Prop} {Lr:List Ch} {x y:Operand} {T T' S:TypeId}
end
section
variable {P:Program} {n:Nat} {G D:Nat→Prop} {w0:World} {Q:Exit→Act→World→Prop} {R:Act→World→Prop} {E:Env} {L:List Ch} {φ:Prop}
variable {d:Tmp} {ty:TypeId} {pos:String} {aft:Array Edge} {gd:Option (Nat×Bool)} {Tk:Act→World→Prop} {Lr:List Ch} {x y:Operand} {T T' S:TypeId}
end
section
variable {P:Program} {n:Nat} {G D:Nat→Prop} {w0:World} {Q:Exit→Act→World→Prop} {R:Act→World→Prop} {E:Env} {L:List Ch} {φ:Prop}
variable {d:Tmp} {ty:TypeId} {pos:String} {aft:Array Edge} {gd:Option (Nat×Bool)} {Tk:Act→World→Prop} {Lr:List Ch} {x y:Operand} {T T':TypeId}
theorem yG (M:xL P n G D w0 E ⟨some d,.binOp .leq T x y T',ty,pos,aft,gd⟩ Tk R Lr L) {X Y:Int} {K:IntKind} (k:Nx n G D w0 R ((d,.bool (decide (X≤Y))) :: E) L φ) (hx:oev E x=some (.int K X):=by rfl) (hy:oev E y=some (.int K Y):=by rfl) (hd:Nat.blt d n=true:=by rfl):Nx n G D w0 Tk E L φ :=
 M.val hd rfl (fun ρ w hE _ hφ=>by simp [execOp,hE _ _ hx,hE _ _ hy,go_sem]) id k
theorem je (M:xL P n G D w0 E ⟨some d,.binOp .lss T x y T',ty,pos,aft,gd⟩ Tk R Lr L) {X Y:Int} {K:IntKind} (k:Nx n G D w0 R ((d,.bool (decide (X<Y))) :: E) L φ) (hx:oev E x=some (.int K X):=by rfl) (hy:oev E y=some (.int K Y):=by rfl) (hd:Nat.blt d n=true:=by rfl):Nx n G D w0 Tk E L φ:=zhg M hx hy hd k
end
section
variable {P:Program} {n:Nat} {G D:Nat→Prop} {w0:World} {Q:Exit→Act→World→Prop} {R:Act→World→Prop} {E:Env} {L:List Ch} {φ:Prop}
variable {d:Tmp} {ty:TypeId} {pos:String} {aft:Array Edge} {gd:Option (Nat×Bool)} {Tk:Act→World→Prop} {Lr:List Ch} {x y:Operand} {T T' S:TypeId} {e sz by':Nat}
theorem zeM {α:Type} {El':El α} {enc:α→List Value} {z:α} {N M:Int} {κ:List α→Prop} {zs:List Value} (hfl:XU El' enc) (hT:elB P T=some (e,sz,by')) (hzr:xT P e=some zs) (k:∀ v xs,Nx n G D w0 R ((d,v) :: E) (zg El' e v xs :: L) (κ xs)) (hx:oev E x=some (.int .i64 N):=by rfl) (hy:oev E y=some (.int .i64 M):=by rfl) (hd:Nat.blt d n=true:=by rfl) (hby:Nat.ble by' 32768=true:=by rfl) (hz:enc z=zs:=by rfl) (hes:El'.size=sz:=by rfl):Nx n G D w0 (fun a w=>Oper.wp P ⟨some d,.makeSlice T x y,ty,pos,aft,gd⟩ a w R Q) E L (UA z N M κ) :=
 Xb hd rfl fun ρ w hE hm hφ=>by
  obtain ⟨h0,h1,h2,h3⟩:=hφ
  obtain ⟨hu,i,hi,rfl,rfl⟩:=yU hT
  obtain ⟨z',hz',hzc⟩:=u6 hzr hi
  unfold zaD at h2
  have hbl:=Nat.le_of_ble_eq_true hby
  obtain ⟨M',rfl⟩:=Int.eq_ofNat_of_zero_le (show 0≤M by omega)
  have hb:(i.bytes:Int) * (M':Int)≤281474976710656:=by
   have h5:i.bytes * M'≤32768 * 4294967296:=Nat.mul_le_mul hbl (by simpa using h2)
   rw [← Int.natCast_mul]
   omega
  have hr:=run_make (P:=P) w T e i z' hu hi hz' .i64 .i64 N M' h0 h1 hb (by simp at h2;omega)
  have hlz:(enc z).length=El'.size:=hfl.size w z
  have hpos:=El'.pos
  rw [hzc,← hz,← hes,← hlz] at hr
  rw [Int.toNat_natCast] at hr h2
  refine ⟨.slice (some ⟨w.heap.size,0,none⟩) N.toNat M',w.alloc (.cells (madeCells (enc z).toArray (M' * (enc z).length)) e),_,κ (List.replicate N.toNat z),by simp [execOp,hE _ _ hx,hE _ _ hy,hr],?_,h3,k _ _⟩
  refine hm.add _ ((Below.refl _ _).alloc (Nat.le_refl _) _) (fun b hb=>by simp [zg,Value.ownBlock] at hb;rw [World.size_alloc];omega) ?_
  have hown:=UO (El':=El') (F:=fz G (zg El' e (.slice (some ⟨w.heap.size,0,none⟩) N.toNat M') (List.replicate N.toNat z) :: L) (w.alloc (.cells (madeCells (enc z).toArray (M' * (enc z).length)) e))) (w:=w.alloc (.cells (madeCells (enc z).toArray (M' * (enc z).length)) e)) (ty:=e) (b:=w.heap.size) (cap:=M')
   (Rows.replicate ((hfl _ _ _ _).2 rfl) N.toNat) (heap_alloc_new w _) (by simp;omega) (by unfold maxLen;omega) (by rw [size_madeCells,hlz]) (by
    rw [uV _ _ (by omega),List.length_replicate,← hlz]
    have:List.replicate M' (enc z)=List.replicate N.toNat (enc z)++List.replicate (M' - N.toNat) (enc z):=by rw [List.replicate_append_replicate];congr 1;omega
    rw [this,List.flatten_append,List.take_left' (by simp)])
  rw [List.length_replicate] at hown
  exact hown
end
section
variable {P:Program} {n:Nat} {G D:Nat→Prop} {w0:World} {Q:Exit→Act→World→Prop} {R:Act→World→Prop} {E:Env} {L M:List Ch} {φ:Prop}
variable {d:Tmp} {ty:TypeId} {pos:String} {aft:Array Edge} {gd:Option (Nat×Bool)} {Tk:Act→World→Prop} {Lr:List Ch} {x y:Operand} {T T' S:TypeId} {e sz by':Nat}
theorem zbn {α:Type} {E':DEl α} {z:α} {N M:Int} {κ:List α→Prop} {zs:List Value} (hz:∀ w,E'.own [] w z zs) (hT:elB P T=some (e,sz,by')) (hzr:xT P e=some zs) (k:∀ B v xs,Nx n G D w0 R ((d,v) :: E) (xI E' e B v xs :: L) (κ xs)) (hx:oev E x=some (.int .i64 N):=by rfl) (hy:oev E y=some (.int .i64 M):=by rfl) (hd:Nat.blt d n=true:=by rfl) (hby:Nat.ble by' 32768=true:=by rfl) (hes:E'.el.size=sz:=by rfl):Nx n G D w0 (fun a w=>Oper.wp P ⟨some d,.makeSlice T x y,ty,pos,aft,gd⟩ a w R Q) E L (UA z N M κ) :=
 Xb hd rfl fun ρ w hE hm hφ=>by
  obtain ⟨h0,h1,h2,h3⟩:=hφ
  obtain ⟨hu,i,hi,rfl,rfl⟩:=yU hT
  obtain ⟨z',hz',hzc⟩:=u6 hzr hi
  unfold zaD at h2
  have hbl:=Nat.le_of_ble_eq_true hby
  obtain ⟨M',rfl⟩:=Int.eq_ofNat_of_zero_le (show 0≤M by omega)
  have hb:(i.bytes:Int) * (M':Int)≤281474976710656:=by
   have h5:i.bytes * M'≤32768 * 4294967296:=Nat.mul_le_mul hbl (by simpa using h2)
   rw [← Int.natCast_mul]
   omega
  have hr:=run_make (P:=P) w T e i z' hu hi hz' .i64 .i64 N M' h0 h1 hb (by simp at h2;omega)
  have hlz:zs.length=E'.el.size:=E'.el.len _ _ _ _ (E'.read _ _ _ _ (hz w))
  have hpos:=E'.el.pos
  rw [hzc,← hes,← hlz] at hr
  rw [Int.toNat_natCast] at hr h2
  refine ⟨.slice (some ⟨w.heap.size,0,none⟩) N.toNat M',w.alloc (.cells (madeCells zs.toArray (M' * zs.length)) e),_,κ (List.replicate N.toNat z),by simp [execOp,hE _ _ hx,hE _ _ hy,hr],?_,h3,k [w.heap.size] _ _⟩
  refine hm.add _ ((Below.refl _ _).alloc (Nat.le_refl _) _) (fun b hb=>by simp [xI] at hb;rw [World.size_alloc];omega) ⟨by simp,?_⟩
  have hr:=uJ.replicate (E:=E') (w:=w.alloc (.cells (madeCells zs.toArray (M' * zs.length)) e)) (hz _) N.toNat
  refine ⟨_,_,hr,?_,by rw [V0];simp [U0,Value.ownBlock]⟩
  rw [List.length_replicate]
  refine ⟨by simp [hlz],.inr ⟨w.heap.size,M',madeCells zs.toArray (M' * zs.length),rfl,Nat.zero_le _,heap_alloc_new w _,by omega,by unfold maxLen;omega,by rw [size_madeCells,hlz],?_⟩⟩
  rw [uV _ _ (by omega),← hlz]
  have:List.replicate M' zs=List.replicate N.toNat zs++List.replicate (M' - N.toNat) zs:=by rw [List.replicate_append_replicate];congr 1;omega
  rw [this,List.flatten_append,List.take_left' (by simp)]
end
section
variable {P:Program} {n:Nat} {G D:Nat→Prop} {w0:World} {Q:Exit→Act→World→Prop} {R:Act→World→Prop} {E:Env} {L:List Ch} {φ:Prop}
variable {d:Tmp} {ty:TypeId} {pos:String} {aft:Array Edge} {gd:Option (Nat×Bool)} {Tk:Act→World→Prop} {Lr:List Ch} {x y:Operand} {T T' S:TypeId} {e sz by':Nat}
theorem zdP {α:Type} {El':El α} {z:α} {N M:Int} {κ:List α→Prop} {zs:List Value} (hz:∀ F w,El'.cells F w z zs) (hT:elB P T=some (e,sz,by')) (hzr:xT P e=some zs) (k:∀ v xs,Nx n G D w0 R ((d,v) :: E) (zg El' e v xs :: L) (κ xs)) (hx:oev E x=some (.int .i64 N):=by rfl) (hy:oev E y=some (.int .i64 M):=by rfl) (hd:Nat.blt d n=true:=by rfl) (hby:Nat.ble by' 32768=true:=by rfl) (hes:El'.size=sz:=by rfl):Nx n G D w0 (fun a w=>Oper.wp P ⟨some d,.makeSlice T x y,ty,pos,aft,gd⟩ a w R Q) E L (UA z N M κ) :=
 Xb hd rfl fun ρ w hE hm hφ=>by
  obtain ⟨h0,h1,h2,h3⟩:=hφ
  obtain ⟨hu,i,hi,rfl,rfl⟩:=yU hT
  obtain ⟨z',hz',hzc⟩:=u6 hzr hi
  unfold zaD at h2
  have hbl:=Nat.le_of_ble_eq_true hby
  obtain ⟨M',rfl⟩:=Int.eq_ofNat_of_zero_le (show 0≤M by omega)
  have hb:(i.bytes:Int) * (M':Int)≤281474976710656:=by
   have h5:i.bytes * M'≤32768 * 4294967296:=Nat.mul_le_mul hbl (by simpa using h2)
   rw [← Int.natCast_mul]
   omega
  have hr:=run_make (P:=P) w T e i z' hu hi hz' .i64 .i64 N M' h0 h1 hb (by simp at h2;omega)
  have hlz:zs.length=El'.size:=El'.len _ _ _ _ (hz (fun _=>True) w)
  have hpos:=El'.pos
  rw [hzc,← hes,← hlz] at hr
  rw [Int.toNat_natCast] at hr h2
  refine ⟨.slice (some ⟨w.heap.size,0,none⟩) N.toNat M',w.alloc (.cells (madeCells zs.toArray (M' * zs.length)) e),_,κ (List.replicate N.toNat z),by simp [execOp,hE _ _ hx,hE _ _ hy,hr],?_,h3,k _ _⟩
  refine hm.add _ ((Below.refl _ _).alloc (Nat.le_refl _) _) (fun b hb=>by simp [zg,Value.ownBlock] at hb;rw [World.size_alloc];omega) ?_
  have hown:=UO (El':=El') (F:=fz G (zg El' e (.slice (some ⟨w.heap.size,0,none⟩) N.toNat M') (List.replicate N.toNat z) :: L) (w.alloc (.cells (madeCells zs.toArray (M' * zs.length)) e))) (w:=w.alloc (.cells (madeCells zs.toArray (M' * zs.length)) e)) (ty:=e) (b:=w.heap.size) (cap:=M')
   (Rows.replicate (hz _ _) N.toNat) (heap_alloc_new w _) (by simp;omega) (by unfold maxLen;omega) (by rw [size_madeCells,hlz]) (by
    rw [uV _ _ (by omega),List.length_replicate,← hlz]
    have:List.replicate M' zs=List.replicate N.toNat zs++List.replicate (M' - N.toNat) zs:=by rw [List.replicate_append_replicate];congr 1;omega
    rw [this,List.flatten_append,List.take_left' (by simp)])
  rw [List.length_replicate] at hown
  exact hown
end
section
variable {P:Program} {n:Nat} {G D:Nat→Prop} {w0:World} {Q:Exit→Act→World→Prop} {R:Act→World→Prop} {E:Env} {L:List Ch} {φ:Prop}
variable {d:Tmp} {ty:TypeId} {pos:String} {aft:Array Edge} {gd:Option (Nat×Bool)} {Tk:Act→World→Prop} {Lr:List Ch} {x y:Operand} {T T' S:TypeId} {e sz by':Nat} {at':Array TypeId}
theorem zd7 (M:xL P n G D w0 E ⟨some d,.call {callee:=.builtin .max,args:=#[x,y],argTypes:=at'},ty,pos,aft,gd⟩ Tk R Lr L) {X Y:Int} (k:Nx n G D w0 R ((d,.int .i64 (max X Y)) :: E) L φ) (hx:oev E x=some (.int .i64 X):=by rfl) (hy:oev E y=some (.int .i64 Y):=by rfl) (hd:Nat.blt d n=true:=by rfl):Nx n G D w0 Tk E L φ :=
 M.val hd rfl (fun ρ w hE _ _=>by
  have e:(if Y > X then Y else X)=max X Y:=by rw [Int.max_def];split <;> split <;> omega
  simp [execOp,resolve,invoke,builtin,hE _ _ hx,hE _ _ hy,Builtin.max_,Builtin.max2,← e]) id k
theorem YO (M:xL P n G D w0 E ⟨some d,.call {callee:=.builtin .min,args:=#[x,y],argTypes:=at'},ty,pos,aft,gd⟩ Tk R Lr L) {X Y:Int} (k:Nx n G D w0 R ((d,.int .i64 (min X Y)) :: E) L φ) (hx:oev E x=some (.int .i64 X):=by rfl) (hy:oev E y=some (.int .i64 Y):=by rfl) (hd:Nat.blt d n=true:=by rfl):Nx n G D w0 Tk E L φ :=
 M.val hd rfl (fun ρ w hE _ _=>by
  have e:(if Y<X then Y else X)=min X Y:=by rw [Int.min_def];split <;> split <;> omega
  simp [execOp,resolve,invoke,builtin,hE _ _ hx,hE _ _ hy,Builtin.min_,Builtin.min2,← e]) id k
end
section
variable {P:Program} {n:Nat} {G D:Nat→Prop} {w0:World} {Q:Exit→Act→World→Prop} {R:Act→World→Prop} {E:Env} {L M:List Ch} {φ:Prop}
variable {d:Tmp} {ty:TypeId} {pos:String} {aft:Array Edge} {gd:Option (Nat×Bool)} {Tk:Act→World→Prop} {Lr:List Ch} {x y:Operand} {T T' S:TypeId} {e sz by':Nat} {dst:Option Tmp} {at':Array TypeId}
theorem zae (M:xL P n G D w0 E ⟨some d,.makeInterface T x,ty,pos,aft,gd⟩ Tk R Lr L) {v u:Value} (hm:∀ v w,(Instr.makeInterface T v).run P w=.ok (.iface T v) w) (k:Nx n G D w0 R ((d,u) :: E) L φ) (hx:oev E x=some v:=by rfl) (hd:Nat.blt d n=true:=by rfl) (hu:Value.iface T v=u:=by rfl):Nx n G D w0 Tk E L φ :=
 M.val hd rfl (fun ρ w hE _ _=>by simp [execOp,hE _ _ hx,hm,hu]) id k
end
section
variable {P:Program} {n:Nat} {G D:Nat→Prop} {w0:World} {Q:Exit→Act→World→Prop} {R:Act→World→Prop} {E:Env} {L:List Ch} {φ:Prop}
variable {d:Tmp} {ty:TypeId} {pos:String} {aft:Array Edge} {gd:Option (Nat×Bool)} {Tk:Act→World→Prop} {Lr:List Ch} {x y:Operand} {T T':TypeId}
theorem zbp (M:xL P n G D w0 E ⟨some d,.binOp .mul T x y T',ty,pos,aft,gd⟩ Tk R Lr L) {X Y:Int} {κ:Int→Prop} (k:∀ z,Nx n G D w0 R ((d,.int .i64 z) :: E) L (κ z)) (hx:oev E x=some (.int .i64 X):=by rfl) (hy:oev E y=some (.int .i64 Y):=by rfl) (hd:Nat.blt d n=true:=by rfl):Nx n G D w0 Tk E L (zee X Y κ) :=
 M.val (v:=.int .i64 (X * Y)) hd rfl (fun ρ w hE _ hφ=>by
  have h:=hφ.1
  have e:IntKind.i64.wrap (X * Y)=X * Y:=by unfold I64 at h;rw [IntKind.wrap_i64];omega
  simp [execOp,hE _ _ hx,hE _ _ hy,go_sem,e]) (fun h=>h.2) (k _)
theorem zeF (M:xL P n G D w0 E ⟨some d,.binOp .mul T x y T',ty,pos,aft,gd⟩ Tk R Lr L) {X Y:Int} (k:Nx n G D w0 R ((d,.int .i64 (w64 (X * Y))) :: E) L φ) (hx:oev E x=some (.int .i64 X):=by rfl) (hy:oev E y=some (.int .i64 Y):=by rfl) (hd:Nat.blt d n=true:=by rfl):Nx n G D w0 Tk E L φ :=
 M.val hd rfl (fun ρ w hE _ _=>by simp [execOp,hE _ _ hx,hE _ _ hy,go_sem,w64]) id k
theorem zw (M:xL P n G D w0 E ⟨some d,.move x,ty,pos,aft,gd⟩ Tk R Lr L) {v:Value} (k:Nx n G D w0 R ((d,v) :: E) L φ) (hx:oev E x=some v:=by rfl) (hd:Nat.blt d n=true:=by rfl):Nx n G D w0 Tk E L φ:=VU M hx hd k
end
section
variable {P:Program} {n:Nat} {G D:Nat→Prop} {w0:World} {Q:Exit→Act→World→Prop} {R:Act→World→Prop} {E:Env} {L:List Ch} {φ:Prop}
variable {d:Tmp} {ty:TypeId} {pos:String} {aft:Array Edge} {gd:Option (Nat×Bool)} {Tk:Act→World→Prop} {Lr:List Ch} {x y:Operand} {T T' S:TypeId} {e sz by':Nat}
theorem zbA (M:xL P n G D w0 E ⟨some d,.binOp .neq T x y T',ty,pos,aft,gd⟩ Tk R Lr L) {X Y:Int} {K:IntKind} (hT:P.underlying T=some (.int K)) (k:Nx n G D w0 R ((d,.bool (!decide (X=Y))) :: E) L φ) (hx:oev E x=some (.int K X):=by rfl) (hy:oev E y=some (.int K Y):=by rfl) (hd:Nat.blt d n=true:=by rfl):Nx n G D w0 Tk E L φ :=
 M.val hd rfl (fun ρ w hE _ _=>by simp [execOp,hE _ _ hx,hE _ _ hy,go_sem,hT,run_underlying hT];rfl) id k
theorem zgE (M:xL P n G D w0 E ⟨some d,.binOp .neq T x y T',ty,pos,aft,gd⟩ Tk R Lr L) {X Y:Bool} (hT:P.underlying T=some .bool) (k:Nx n G D w0 R ((d,.bool (!decide (X=Y))) :: E) L φ) (hx:oev E x=some (.bool X):=by rfl) (hy:oev E y=some (.bool Y):=by rfl) (hd:Nat.blt d n=true:=by rfl):Nx n G D w0 Tk E L φ :=
 M.val hd rfl (fun ρ w hE _ _=>by cases X <;> cases Y <;> simp [execOp,hE _ _ hx,hE _ _ hy,go_sem,hT,run_underlying hT]) id k
end
section
variable {P:Program} {n:Nat} {G D:Nat→Prop} {w0:World} {Q:Exit→Act→World→Prop} {R:Act→World→Prop} {E:Env} {L:List Ch} {φ:Prop}
variable {d:Tmp} {ty:TypeId} {pos:String} {aft:Array Edge} {gd:Option (Nat×Bool)} {Tk:Act→World→Prop} {Lr:List Ch} {x y:Operand} {T T' S:TypeId}
end
section
variable {P:Program} {n:Nat} {G D:Nat→Prop} {w0:World} {Q:Exit→Act→World→Prop} {R:Act→World→Prop} {E:Env} {L M:List Ch} {φ:Prop}
variable {d:Tmp} {ty:TypeId} {pos:String} {aft:Array Edge} {gd:Option (Nat×Bool)} {Tk:Act→World→Prop} {Lr:List Ch} {x y:Operand} {T T' S:TypeId} {e sz by':Nat}
end
section
variable {P:Program} {n:Nat} {G D:Nat→Prop} {w0:World} {Q:Exit→Act→World→Prop} {R:Act→World→Prop} {E:Env} {L M:List Ch} {φ:Prop}
variable {d:Tmp} {ty:TypeId} {pos:String} {aft:Array Edge} {gd:Option (Nat×Bool)} {Tk:Act→World→Prop} {Lr:List Ch} {x y:Operand} {T T' S:TypeId}
end
section
variable {P:Program} {n:Nat} {G D:Nat→Prop} {w0:World} {Q:Exit→Act→World→Prop} {R:Act→World→Prop} {E:Env} {L:List Ch} {φ:Prop}
variable {d:Tmp} {ty:TypeId} {pos:String} {aft:Array Edge} {gd:Option (Nat×Bool)} {Tk:Act→World→Prop} {Lr:List Ch} {x y:Operand} {T T' S:TypeId} {e sz by':Nat}
theorem jR (M:xL P n G D w0 E ⟨some d,.nilCheck x,ty,pos,aft,gd⟩ Tk R Lr L) {a:Addr} (k:Nx n G D w0 R ((d,.pointer (some a)) :: E) L φ) (hx:oev E x=some (.pointer (some a)):=by rfl) (hd:Nat.blt d n=true:=by rfl):Nx n G D w0 Tk E L φ :=
 M.val hd rfl (fun ρ w hE _ _=>by simp [execOp,hE _ _ hx]) id k
end
section
variable {P:Program} {n:Nat} {G D:Nat→Prop} {w0:World} {Q:Exit→Act→World→Prop} {R:Act→World→Prop} {E:Env} {L:List Ch} {φ:Prop}
variable {d:Tmp} {ty:TypeId} {pos:String} {aft:Array Edge} {gd:Option (Nat×Bool)} {Tk:Act→World→Prop} {Lr:List Ch} {x y:Operand} {T T':TypeId}
theorem jF (M:xL P n G D w0 E ⟨some d,.unOp .not T x,ty,pos,aft,gd⟩ Tk R Lr L) {b:Bool} (k:Nx n G D w0 R ((d,.bool (!b)) :: E) L φ) (hx:oev E x=some (.bool b):=by rfl) (hd:Nat.blt d n=true:=by rfl):Nx n G D w0 Tk E L φ:=zhd M hx hd k
end
section
variable {P:Program} {n:Nat} {G D:Nat→Prop} {w0:World} {Q:Exit→Act→World→Prop} {R:Act→World→Prop} {E:Env} {L:List Ch} {φ:Prop}
variable {d:Tmp} {ty:TypeId} {pos:String} {aft:Array Edge} {gd:Option (Nat×Bool)} {Tk:Act→World→Prop} {Lr:List Ch} {x y:Operand} {T T' S:TypeId} {e sz by':Nat}
theorem zM {c:Operand} (M:xL P n G D w0 E ⟨some d,.pick c x y,ty,pos,aft,gd⟩ Tk R Lr L) {v:Value} (k:Nx n G D w0 R ((d,v) :: E) L φ) (hc:oev E c=some (.bool false):=by rfl) (hx:oev E y=some v:=by rfl) (hd:Nat.blt d n=true:=by rfl):Nx n G D w0 Tk E L φ :=
 M.val hd rfl (fun ρ w hE _ _=>by simp [execOp,hE _ _ hc,hE _ _ hx,asBool]) id k
theorem zQ {c:Operand} (M:xL P n G D w0 E ⟨some d,.pick c x y,ty,pos,aft,gd⟩ Tk R Lr L) {v:Value} (k:Nx n G D w0 R ((d,v) :: E) L φ) (hc:oev E c=some (.bool true):=by rfl) (hx:oev E x=some v:=by rfl) (hd:Nat.blt d n=true:=by rfl):Nx n G D w0 Tk E L φ :=
 M.val hd rfl (fun ρ w hE _ _=>by simp [execOp,hE _ _ hc,hE _ _ hx,asBool]) id k
end
section
variable {P:Program} {n:Nat} {G D:Nat→Prop} {w0:World} {Q:Exit→Act→World→Prop} {R:Act→World→Prop} {E:Env} {L:List Ch} {φ:Prop}
variable {d:Tmp} {ty:TypeId} {pos:String} {aft:Array Edge} {gd:Option (Nat×Bool)} {Tk:Act→World→Prop} {Lr:List Ch} {x y:Operand} {T T':TypeId}
theorem zfN (M:xL P n G D w0 E ⟨some d,.binOp .quo T x y T',ty,pos,aft,gd⟩ Tk R Lr L) {X Y:Int} {κ:Int→Prop} (k:∀ z,Nx n G D w0 R ((d,.int .i64 z) :: E) L (κ z)) (hx:oev E x=some (.int .i64 X):=by rfl) (hy:oev E y=some (.int .i64 Y):=by rfl) (hd:Nat.blt d n=true:=by rfl):Nx n G D w0 Tk E L (zf7 X Y κ) :=
 M.val (v:=.int .i64 (X.tdiv Y)) hd rfl (fun ρ w hE _ hφ=>by
  obtain ⟨h2,h3,_⟩:=hφ
  have e0:Y≠0:=by omega
  have e:IntKind.i64.wrap (X.tdiv Y)=X.tdiv Y:=by
   unfold I64 at h3
   rw [IntKind.wrap_i64]
   by_cases h1:0≤X
   ·have e1:X.tdiv Y=X / Y:=Int.tdiv_eq_ediv_of_nonneg h1
    have e2:=Int.ediv_nonneg h1 (show 0≤Y by omega)
    have e3:X / Y≤X:=Int.ediv_le_self _ h1
    omega
   ·have e1:X.tdiv Y=-((-X) / Y):=by
     have:=Int.neg_tdiv (a:=-X) (b:=Y)
     rw [Int.neg_neg] at this
     rw [this,Int.tdiv_eq_ediv_of_nonneg (by omega)]
    have e2:=Int.ediv_nonneg (show 0≤-X by omega) (show 0≤Y by omega)
    have e3:(-X) / Y≤-X:=Int.ediv_le_self _ (by omega)
    omega
  simp [execOp,hE _ _ hx,hE _ _ hy,go_sem,e0,e]) (fun h=>h.2.2) (k _)
theorem zc4 (M:xL P n G D w0 E ⟨some d,.binOp .rem T x y T',ty,pos,aft,gd⟩ Tk R Lr L) {X Y:Int} {κ:Int→Prop} (k:∀ z,Nx n G D w0 R ((d,.int .i64 z) :: E) L (κ z)) (hx:oev E x=some (.int .i64 X):=by rfl) (hy:oev E y=some (.int .i64 Y):=by rfl) (hd:Nat.blt d n=true:=by rfl):Nx n G D w0 Tk E L (zd6 X Y κ) :=
 M.val (v:=.int .i64 (X % Y)) hd rfl (fun ρ w hE _ hφ=>by
  obtain ⟨h1,h2,h3,_⟩:=hφ
  have e0:Y≠0:=by omega
  have e1:X.tmod Y=X % Y:=Int.tmod_eq_emod_of_nonneg h1
  simp [execOp,hE _ _ hx,hE _ _ hy,go_sem,e0,e1]) (fun h=>h.2.2.2) (k _)
end
section
variable {P:Program} {n:Nat} {G D:Nat→Prop} {w0:World} {Q:Exit→Act→World→Prop} {R:Act→World→Prop} {E:Env} {L:List Ch} {φ:Prop}
variable {d:Tmp} {ty:TypeId} {pos:String} {aft:Array Edge} {gd:Option (Nat×Bool)} {Tk:Act→World→Prop} {Lr:List Ch} {x y:Operand} {T T' S:TypeId} {e sz by':Nat} {at':Array TypeId}
theorem Vn {α:Type} {El':El α} {v:Value} {xs:List α} {lo hi:Option Operand} {I J:Int} {κ:List α→Prop} (i:Nat) (hT:elB P T=some (e,sz,by')) (k:∀ v' ys,Nx n G D w0 R ((d,v') :: E) (xz El' v' ys :: L) (κ ys)) (hi':jX L i=some (xz El' v xs):=by rfl) (hx:oev E x=some v:=by rfl) (hlo:match lo with | none=>I=0 | some l=>oev E l=some (.int .i64 I):=by rfl) (hhi:match hi with | none=>J=xs.length | some h=>oev E h=some (.int .i64 J):=by rfl) (hd:Nat.blt d n=true:=by rfl) (hes:El'.size=sz:=by rfl):Nx n G D w0 (fun a w=>Oper.wp P ⟨some d,.slice T x lo hi none,ty,pos,aft,gd⟩ a w R Q) E L (Yq xs I J κ) :=
 Xb hd rfl fun ρ w hE hm hφ=>by
  obtain ⟨h0,h1,h2,h3⟩:=hφ
  obtain ⟨hu,inf,hinf,rfl,rfl⟩:=yU hT
  have hsl:=hm.ro i hi'
  obtain ⟨a,cap,hv,hcap,_⟩:=hsl
  have hsl:=hm.ro i hi'
  subst hv
  have hp:=fun (F:Nat→Prop) (h:Sl El' F w (.slice a xs.length cap) xs)=>h.part I.toNat J.toNat (by omega) (by omega)
  refine ⟨_,w,_,κ ((xs.take J.toNat).drop I.toNat),?_,zft hm hi' hp,h3,k _ _⟩
  have e1:(J:Int)≤cap:=by omega
  have e2:0≤J:=by omega
  cases lo with
  | none =>
   cases hi with
   | none =>
    simp only at hlo hhi
    subst hlo hhi
    simp [execOp,hE _ _ hx,Instr.sliceAt,Instr.slice,Instr.sliceBounds,run_underlying hu,sizeOf,typeInfo,hinf,hes]
   | some hh =>
    simp only at hlo hhi
    subst hlo
    simp [execOp,hE _ _ hx,hE _ _ hhi,Instr.sliceAt,Instr.slice,Instr.sliceBounds,Instr.sliceBound,asIntOf,run_underlying hu,sizeOf,typeInfo,hinf,e1,e2,hes]
  | some ll =>
   cases hi with
   | none =>
    simp only at hlo hhi
    subst hhi
    have e3:I≤(xs.length:Int):=h1
    simp [execOp,hE _ _ hx,hE _ _ hlo,Instr.sliceAt,Instr.slice,Instr.sliceBounds,Instr.sliceBound,asIntOf,run_underlying hu,sizeOf,typeInfo,hinf,h0,e3,hes]
   | some hh =>
    simp only at hlo hhi
    have e4:I≤(J.toNat:Int):=by omega
    simp [execOp,hE _ _ hx,hE _ _ hlo,hE _ _ hhi,Instr.sliceAt,Instr.slice,Instr.sliceBounds,Instr.sliceBound,asIntOf,run_underlying hu,sizeOf,typeInfo,hinf,h0,e1,e2,e4,hes]
    intro h;omega
end
section
variable {P:Program} {n:Nat} {G D:Nat→Prop} {w0:World} {Q:Exit→Act→World→Prop} {R:Act→World→Prop} {E:Env} {L M:List Ch} {φ:Prop}
variable {d:Tmp} {ty:TypeId} {pos:String} {aft:Array Edge} {gd:Option (Nat×Bool)} {Tk:Act→World→Prop} {Lr:List Ch} {x y:Operand} {T T' S:TypeId} {e sz by':Nat}
end
section
variable {P:Program} {n:Nat} {G D:Nat→Prop} {w0:World} {Q:Exit→Act→World→Prop} {R:Act→World→Prop} {E:Env} {L:List Ch} {φ:Prop}
variable {d:Tmp} {ty:TypeId} {pos:String} {aft:Array Edge} {gd:Option (Nat×Bool)} {Tk:Act→World→Prop} {Lr:List Ch} {x y:Operand} {T T' S:TypeId}
end
section
variable {P:Program} {n:Nat} {G D:Nat→Prop} {w0:World} {Q:Exit→Act→World→Prop} {R:Act→World→Prop} {E:Env} {L M:List Ch} {φ:Prop}
variable {d:Tmp} {ty:TypeId} {pos:String} {aft:Array Edge} {gd:Option (Nat×Bool)} {Tk:Act→World→Prop} {Lr:List Ch} {x y:Operand} {T T' S:TypeId} {e sz by':Nat}
theorem ZZ {α:Type} {El':El α} {u:Value} {cs:List Value} {len b fs:Nat} {xs0:List α} {row:Bool} {e':TypeId} (i:Nat) (xs:List α) (css:List (List Value)) (hr:∀ w,Mem G D w0 L w→Rows El' (fz G L w) w xs css) (hT:tyB P T=some (row,fs)) (k:Nx n G D w0 R E (u0 L i (zg El' e' (.slice (some ⟨b,0,none⟩) len len) xs)) φ) (hi:jX L i=some (zg El' e' (.slice (some ⟨b,0,none⟩) len len) xs0):=by rfl) (hx:oev E x=some (.pointer (some ⟨b,0,none⟩)):=by rfl) (hy:oev E y=some u:=by rfl) (hcs:u.cells=cs.toArray:=by rfl) (hfl:css.flatten=cs:=by rfl) (hl:xs.length=len:=by rfl) (h1:u.cells.toList.all (·.oneCell')=true:=by rfl) (hsz:Nat.beq u.cells.size fs=true:=by rfl) (hpos:Nat.beq len 0=false:=by rfl):Nx n G D w0 (fun a w=>Oper.wp P ⟨none,.store T x y,ty,pos,aft,gd⟩ a w R Q) E L φ :=
 zbq rfl fun ρ w hE hm hφ=>by
  obtain ⟨css0,hr0,how⟩:=hm.get hi
  obtain ⟨h0,hown⟩:=how
  have hlp:len≠0:=fun e=>by rw [e] at hpos;simp at hpos
  rcases hown with ⟨h,_⟩ | ⟨g,cap,cur,h,hg0,hg,hnc,hcm,hcz,htake⟩
  ·cases h
  simp only [Value.slice.injEq,Option.some.injEq,Addr.mk.injEq] at h
  obtain ⟨⟨rfl,-,-⟩,hln,rfl⟩:=h
  have hrows:=hr w hm
  have hlen:=hrows.length
  rw [hfl,hl] at hlen
  have hb:w.heap[b]?=some (.cells cur.toList.toArray e' (0,0)):=by simpa using hg
  have hcl:cur.toList.length=len * El'.size:=by rw [Array.length_toList,hcz]
  have hus:u.cells.toList=cs:=by rw [hcs]
  have hzs:=Nat.eq_of_beq_eq_true hsz
  have hr':=Vx (P:=P) (w:=w) hT hsz h1 (b:=b) (o:=0) (Xl hb (by rw [hcl];rw [hcs];simp [hlen]))
  refine ⟨_,_,φ,by simp [execOp,hE _ _ hx,hE _ _ hy,hr'];rfl,?_,hφ,k⟩
  obtain ⟨s1,s2,s3⟩:=yD b u.cells.toList 0 w
  have hput:Zx cur.toList 0 cs=cs:=by
   have key:∀ (vs l:List Value),vs.length=l.length→∀ p:List Value,Zx (p++l) p.length vs=p++vs:=by
    intro vs
    induction vs with
    | nil=>intro l hl p;cases l with
     | nil=>rfl
     | cons _ _=>simp at hl
    | cons a r ih=>intro l hl p;cases l with
     | nil=>simp at hl
     | cons c l =>
      rw [Zx]
      have:(p++c :: l).set p.length a=(p++[a])++l:=by simp
      rw [this]
      have:=ih l (by simpa using hl) (p++[a])
      simpa using this
   simpa using key cs cur.toList (by omega) []
  have hup:=yE b e' (0,0) u.cells.toList 0 cur.toList w hb
  rw [hus,hput] at hup
  refine hm.upd hi s1 s2 s3 (by rw [xn];exact Nat.le_refl _) (fun x _ hx=>ub b _ _ _ _ (fun e=>hx (by rw [e];rfl))) (fun x hx=>⟨?_,.inl hx⟩) ?_
  ·have hx':some b=some x:=hx
   cases hx'
   rw [xn]
   exact (Array.getElem?_eq_some_iff.1 hg).1
  ·have hsame:∀ c,fz G L w c→(w.setCells b 0 u.cells.toList).heap[c]?=w.heap[c]?:=fun c hc=>ub b _ _ _ _ (fun e''=>hc.2.2 _ (xH hi) (by rw [e''];rfl))
   have hk:=hrows.keep (F':=fz G (u0 L i (zg El' e' (.slice (some ⟨b,0,none⟩) len len) xs)) (w.setCells b 0 u.cells.toList)) (fun c hc=>⟨by rw [xn];exact hc.1,hc.2.1,fun x hx=>by
    rcases Zg hi hm.disj hx with e'' | ⟨e1,_⟩
    ·subst e'';exact fun hk=>hc.2.2 _ (xH hi) hk
    ·exact hc.2.2 x e1⟩) hsame
   subst hl
   have h0':=hk.length
   rw [hfl] at h0'
   refine ⟨css,hk,by rw [hfl];exact h0',.inr ⟨b,xs.length,cs.toArray,rfl,hg0,by rw [hus];exact hup,Nat.le_refl _,hcm,by simpa using h0',by rw [hfl,← h0'];simp⟩⟩
end
section
variable {P:Program} {n:Nat} {G D:Nat→Prop} {w0:World} {Q:Exit→Act→World→Prop} {R:Act→World→Prop} {E:Env} {L M:List Ch} {φ:Prop}
variable {d:Tmp} {ty:TypeId} {pos:String} {aft:Array Edge} {gd:Option (Nat×Bool)} {Tk:Act→World→Prop} {Lr:List Ch} {x y:Operand} {T T' S:TypeId} {e sz by':Nat}
end
section
variable {P:Program} {n:Nat} {G D:Nat→Prop} {w0:World} {Q:Exit→Act→World→Prop} {R:Act→World→Prop} {E:Env} {L:List Ch} {φ:Prop}
variable {d:Tmp} {ty:TypeId} {pos:String} {aft:Array Edge} {gd:Option (Nat×Bool)} {Tk:Act→World→Prop} {Lr:List Ch} {x y:Operand} {T T' S:TypeId}
theorem zX {b o sz:Nat} {cs cs':List Value} {T0:TypeId} {row:Bool} {u:Value} (i:Nat) (hT:tyB P T=some (row,sz)) (k:Nx n G D w0 R E (u0 L i (zb b cs' T0)) φ) (hi:jX L i=some (zb b cs T0):=by rfl) (hx:oev E x=some (.pointer (some ⟨b,o,none⟩)):=by rfl) (hy:oev E y=some u:=by rfl) (hsz:Nat.beq u.cells.size sz=true:=by rfl) (h1:u.cells.toList.all (·.oneCell')=true:=by rfl) (hle:Nat.ble (o+sz) cs.length=true:=by rfl) (hcs:Zx cs o u.cells.toList=cs':=by rfl):Nx n G D w0 (fun a w=>Oper.wp P ⟨none,.store T x y,ty,pos,aft,gd⟩ a w R Q) E L φ:=zbN i hi hx hy hT hsz h1 hle hcs k
end
section
variable {P:Program} {n:Nat} {G D:Nat→Prop} {w0:World} {Q:Exit→Act→World→Prop} {R:Act→World→Prop} {E:Env} {L:List Ch} {φ:Prop}
variable {d:Tmp} {ty:TypeId} {pos:String} {aft:Array Edge} {gd:Option (Nat×Bool)} {Tk:Act→World→Prop} {Lr:List Ch} {x y:Operand} {T T' S:TypeId} {e sz by':Nat}
theorem zax {α:Type} {El':El α} {enc:α→List Value} {v:Value} {xs:List α} {I:Int} {z y':α} {o sz fs:Nat} {row:Bool} {u:Value} (i:Nat) (hfl:XU El' enc) (hz:xs[I.toNat]?=some z) (hT:tyB P T=some (row,fs)) (k:Nx n G D w0 R E (u0 L i (zg El' e v (xs.set I.toNat y'))) φ) (hi:jX L i=some (zg El' e v xs):=by rfl) (hes:El'.size=sz:=by rfl) (hx:oev E x=some (pEl v I sz o):=by rfl) (hy:oev E y=some u:=by rfl) (hsz:Nat.beq u.cells.size fs=true:=by rfl) (h1:u.cells.toList.all (·.oneCell')=true:=by rfl) (hle:Nat.ble (o+fs) sz=true:=by rfl) (hy':Zx (enc z) o u.cells.toList=enc y':=by rfl):Nx n G D w0 (fun a w=>Oper.wp P ⟨none,.store T x y,ty,pos,aft,gd⟩ a w R Q) E L φ :=
 zbq rfl fun ρ w hE hm hφ=>by
  have hlt:=(List.getElem?_eq_some_iff.1 hz).1
  obtain ⟨css,hr,hown⟩:=hm.get hi
  have hcss:=hr.length
  obtain ⟨h0,hown⟩:=hown
  rcases hown with ⟨_,hn⟩ | ⟨g,cap,cur,rfl,hg0,hg,hnc,hcm,hcs,htake⟩
  ·omega
  rw [yh] at hx
  have hzs:=Nat.eq_of_beq_eq_true hsz
  have hle':=Nat.le_of_ble_eq_true hle
  have hb:w.heap[g]?=some (.cells cur.toList.toArray e (0,0)):=by simpa using hg
  have hsub:I.toNat * sz+sz≤xs.length * sz:=by rw [← Nat.succ_mul];exact Nat.mul_le_mul_right _ hlt
  have hcap:xs.length * sz≤cap * sz:=Nat.mul_le_mul_right _ hnc
  have hcl:cur.toList.length=cap * sz:=by rw [Array.length_toList,hcs,hes]
  have hr':=Vx (P:=P) (w:=w) hT hsz h1 (b:=g) (o:=0+I.toNat * sz+o) (Xl hb (by rw [hzs,hcl];omega))
  refine ⟨_,_,φ,by simp [execOp,hE _ _ hx,hE _ _ hy] at hr' ⊢;rw [hr'];rfl,?_,hφ,k⟩
  obtain ⟨s1,s2,s3⟩:=yD g u.cells.toList (I.toNat * sz+o) w
  refine hm.upd hi s1 s2 s3 (by rw [xn];exact Nat.le_refl _) (fun x _ hx=>ub g _ _ _ _ (fun e=>hx (by rw [e];rfl))) (fun x hx=>⟨?_,.inl hx⟩) ?_
  ·have hx':some g=some x:=hx
   cases hx'
   rw [xn]
   exact (Array.getElem?_eq_some_iff.1 hg).1
  ·
   have hcz:El'.cells (fz G L w) w z (enc z):=(hfl _ _ _ _).2 rfl
   obtain ⟨pre,post,old,e1,e2,e3,css',e4,e5⟩:=hr.set I.toNat (y:=y') (ds:=enc y') hlt ((hfl _ _ _ _).2 rfl)
   have hold:old=enc z:=by
    obtain ⟨cs,c1,c2⟩:=hr.get hz
    rw [(hfl _ _ _ _).1 c1] at c2
    apply List.ext_getElem?
    intro j
    by_cases hj:j<(enc z).length
    ·have:=c2 j (enc z)[j] (List.getElem?_eq_getElem hj)
     rw [e1,List.append_assoc,← e2,List.getElem?_append_right (by omega),show pre.length+j - pre.length=j by omega,List.getElem?_append_left (by rw [e3,← hfl.size w z];exact hj)] at this
     rw [this,List.getElem?_eq_getElem hj]
    ·rw [List.getElem?_eq_none (by rw [e3,← hfl.size w z];omega),List.getElem?_eq_none (by omega)]
   have hlz:(enc z).length=sz:=by rw [hfl.size w z,hes]
   have hup:=yE g e (0,0) u.cells.toList (I.toNat * sz+o) cur.toList w hb
   refine ⟨css',?_,?_,.inr ⟨g,cap,(Zx cur.toList (I.toNat * sz+o) u.cells.toList).toArray,by simp,hg0,hup,by simpa using hnc,hcm,by simpa [Z3] using hcs,?_⟩⟩
   ·have go:∀ (F F':Nat→Prop) (w':World) (ys:List α) (dss:List (List Value)),Rows El' F w ys dss→Rows El' F' w' ys dss:=by
     intro F F' w' ys
     induction ys with
     | nil=>intro dss h;cases dss <;> first | trivial | exact h.elim
     | cons y0 r ih=>intro dss h;cases dss with
      | nil=>exact h.elim
      | cons d0 ds=>exact ⟨hfl.free _ _ _ _ _ _ h.1,ih ds h.2⟩
    exact go _ _ _ _ _ e5
   ·have:=e5.length
    simpa using this
   ·rw [e4]
    have hct:cur.toList=pre++old++(post++cur.toList.drop (xs.length * sz)):=by
     rw [← List.append_assoc,← e1,← htake,hes,List.take_append_drop]
    rw [hct,← hes,← e2,ZQ _ _ _ _ _ (by rw [hold,hlz];simp;omega),hold,hy',← List.append_assoc]
    rw [List.length_set]
    have hly:(enc y').length=El'.size:=hfl.size w y'
    have htot:(pre++enc y'++post).length=xs.length * El'.size:=by
     have h5:=congrArg List.length e1
     rw [hcss] at h5
     simp at h5 ⊢
     omega
    rw [← htot]
    exact List.take_left
end
section
variable {P:Program} {n:Nat} {G D:Nat→Prop} {w0:World} {Q:Exit→Act→World→Prop} {R:Act→World→Prop} {E:Env} {L:List Ch} {φ:Prop}
variable {d:Tmp} {ty:TypeId} {pos:String} {aft:Array Edge} {gd:Option (Nat×Bool)} {Tk:Act→World→Prop} {Lr:List Ch} {x y:Operand} {T T' S:TypeId} {e sz by':Nat}
end
section
variable {P:Program} {n:Nat} {G D:Nat→Prop} {w0:World} {Q:Exit→Act→World→Prop} {R:Act→World→Prop} {E:Env} {L:List Ch} {φ:Prop}
variable {d:Tmp} {ty:TypeId} {pos:String} {aft:Array Edge} {gd:Option (Nat×Bool)} {Tk:Act→World→Prop} {Lr:List Ch} {x y:Operand} {T T':TypeId}
theorem Zh (M:xL P n G D w0 E ⟨some d,.binOp .sub T x y T',ty,pos,aft,gd⟩ Tk R Lr L) {X Y:Int} {κ:Int→Prop} (k:∀ z,Nx n G D w0 R ((d,.int .i64 z) :: E) L (κ z)) (hx:oev E x=some (.int .i64 X):=by rfl) (hy:oev E y=some (.int .i64 Y):=by rfl) (hd:Nat.blt d n=true:=by rfl):Nx n G D w0 Tk E L (XK X Y κ):=zf5 M hx hy hd k
end
section
variable {P:Program} {n:Nat} {G D:Nat→Prop} {w0:World} {Q:Exit→Act→World→Prop} {R:Act→World→Prop} {E:Env} {L:List Ch} {φ:Prop}
variable {d:Tmp} {ty:TypeId} {pos:String} {aft:Array Edge} {gd:Option (Nat×Bool)} {Tk:Act→World→Prop} {Lr:List Ch} {x y:Operand} {T T' S:TypeId} {e sz by':Nat} {at':Array TypeId}
end
section
variable {P:Program} {n:Nat} {G D:Nat→Prop} {w0:World} {Q:Exit→Act→World→Prop} {R:Act→World→Prop} {E:Env} {L:List Ch} {φ:Prop}
variable {d:Tmp} {ty:TypeId} {pos:String} {aft:Array Edge} {gd:Option (Nat×Bool)} {Tk:Act→World→Prop} {Lr:List Ch} {x y:Operand} {T T':TypeId}
end
section
variable {P:Program} {n:Nat} {G D:Nat→Prop} {w0:World} {Q:Exit→Act→World→Prop} {R:Act→World→Prop} {E:Env} {L:List Ch} {φ:Prop}
variable {d:Tmp} {ty:TypeId} {pos:String} {aft:Array Edge} {gd:Option (Nat×Bool)} {Tk:Act→World→Prop} {Lr:List Ch} {x y:Operand} {T T' S:TypeId} {e sz by':Nat} {at':Array TypeId}
theorem zhE (M:xL P n G D w0 E ⟨some d,.binOp .xor T x y T',ty,pos,aft,gd⟩ Tk R Lr L) {X Y:Int} {κ:Int→Prop} (k:∀ z,Nx n G D w0 R ((d,.int .i64 z) :: E) L (κ z)) (hx:oev E x=some (.int .i64 X):=by rfl) (hy:oev E y=some (.int .i64 Y):=by rfl) (hd:Nat.blt d n=true:=by rfl):Nx n G D w0 Tk E L (zhL X Y κ) :=
 M.val (v:=.int .i64 ((X.toNat ^^^ Y.toNat:Nat):Int)) hd rfl (fun ρ w hE _ hφ=>by
  obtain ⟨h1,h2,h3,h4,_⟩:=hφ
  have e0:(2:Nat) ^ 62=4611686018427387904:=by decide
  have e:=ziG X.toNat Y.toNat (by omega) (by omega)
  rw [Int.toNat_of_nonneg h1,Int.toNat_of_nonneg h3] at e
  simp [execOp,hE _ _ hx,hE _ _ hy,go_sem,e]) (fun h=>h.2.2.2.2) (k _)
end
end
section
open Go.RowKit
section
variable {P:Program} {n:Nat} {G D:Nat→Prop} {w0:World} {E:Env} {L:List Ch} {φ:Prop}
theorem y0 {i1:Nat} {l1:List Oper} {y0:Code} {Q0:Exit→Act→World→Prop} (h:Nx n G D w0 (wpList P l1.toArray (Exit.then (y0.wp P Q0) Q0) l1) E L φ):Nx n G D w0 ((Code.seq (Code.region i1 l1.toArray false) y0).wp P Q0) E L φ:=jP (zq h)
theorem y1 {o0:Array Oper} {K1:Act→World→Prop} {Q1:Exit→Act→World→Prop} (h:Nx n G D w0 K1 E L φ):Nx n G D w0 (wpList P o0 (Exit.then K1 Q1) []) E L φ:=zA (z6 h)
theorem y2 {o0:Array Oper} {i3:Nat} {l3:List Oper} {y2:Code} {Q2:Exit→Act→World→Prop} {Q1:Exit→Act→World→Prop} (h:Nx n G D w0 (wpList P l3.toArray (Exit.then (y2.wp P Q2) Q2) l3) E L φ):Nx n G D w0 (wpList P o0 (Exit.then ((Code.seq (Code.region i3 l3.toArray false) y2).wp P Q2) Q1) []) E L φ:=zA (z6 (jP (zq h)))
theorem y3 {o0:Array Oper} {Q2:Exit→Act→World→Prop} {Q1:Exit→Act→World→Prop} (h:Nx n G D w0 (Q2 .ret) E L φ):Nx n G D w0 (wpList P o0 (Exit.then (Code.ret.wp P Q2) Q1) []) E L φ:=zA (z6 (ui h))
theorem y4 {o0:Array Oper} {i4:Nat} {l4:List Oper} {y3:Code} {y2:Code} {Q2:Exit→Act→World→Prop} {Q1:Exit→Act→World→Prop} (h:Nx n G D w0 (wpList P l4.toArray (Exit.then (y3.wp P (Exit.then (y2.wp P Q2) Q2)) (Exit.then (y2.wp P Q2) Q2)) l4) E L φ):Nx n G D w0 (wpList P o0 (Exit.then ((Code.seq (Code.seq (Code.region i4 l4.toArray false) y3) y2).wp P Q2) Q1) []) E L φ:=zA (z6 (jP (jP (zq h))))
theorem y5 {o0:Array Oper} {i2:Nat} {c2:Code} {Q2:Exit→Act→World→Prop} {Q1:Exit→Act→World→Prop} (h:Nx n G D w0 (c2.wp P (Exit.inBlock i2 Q2)) E L φ):Nx n G D w0 (wpList P o0 (Exit.then ((Code.block i2 c2).wp P Q2) Q1) []) E L φ:=zA (z6 (uH h))
theorem y6 {o0:Array Oper} {K3:Act→World→Prop} {Q3:Exit→Act→World→Prop} {Q1:Exit→Act→World→Prop} (h:Nx n G D w0 (Q3 .ret) E L φ):Nx n G D w0 (wpList P o0 (Exit.then (Code.ret.wp P (Exit.then K3 Q3)) Q1) []) E L φ:=zA (z6 (ui (jZ h)))
theorem y7 {i3:Nat} {K1:Act→World→Prop} {K2:Act→World→Prop} {i6:Nat} {l6:List Oper} {y5:Code} {Q5:Exit→Act→World→Prop} {Q4:Exit→Act→World→Prop} (h:Nx n G D w0 (wpList P l6.toArray (Exit.then (y5.wp P Q5) Q5) l6) E L φ):Nx n G D w0 ((Code.exit i3).wp P (Exit.then K1 (Exit.then K2 (Exit.inBlock i3 (Exit.then ((Code.seq (Code.region i6 l6.toArray false) y5).wp P Q5) Q4))))) E L φ:=Yp (yf (yf (Yn (z6 (jP (zq h))))))
theorem y8 {i3:Nat} {l3:List Oper} {y2:Code} {Q2:Exit→Act→World→Prop} {Q1:Exit→Act→World→Prop} (h:Nx n G D w0 (wpList P l3.toArray (Exit.then (y2.wp P Q2) Q2) l3) E L φ):Nx n G D w0 (Code.skip.wp P (Exit.then ((Code.seq (Code.region i3 l3.toArray false) y2).wp P Q2) Q1)) E L φ:=jA (z6 (jP (zq h)))
theorem y9 {o0:Array Oper} {x2:Code} {y2:Code} {Q2:Exit→Act→World→Prop} {Q1:Exit→Act→World→Prop} (h:Nx n G D w0 (x2.wp P (Exit.then (y2.wp P Q2) Q2)) E L φ):Nx n G D w0 (wpList P o0 (Exit.then ((Code.seq x2 y2).wp P Q2) Q1) []) E L φ:=zA (z6 (jP h))
theorem y10 {i2:Nat} {l2:List Oper} {y1:Code} {y0:Code} {Q0:Exit→Act→World→Prop} (h:Nx n G D w0 (wpList P l2.toArray (Exit.then (y1.wp P (Exit.then (y0.wp P Q0) Q0)) (Exit.then (y0.wp P Q0) Q0)) l2) E L φ):Nx n G D w0 ((Code.seq (Code.seq (Code.region i2 l2.toArray false) y1) y0).wp P Q0) E L φ:=jP (jP (zq h))
theorem y11 {i3:Nat} {i5:Nat} {l5:List Oper} {y4:Code} {y2:Code} {Q2:Exit→Act→World→Prop} {Q1:Exit→Act→World→Prop} (h:Nx n G D w0 (wpList P l5.toArray (Exit.then (y4.wp P (Exit.inBlock i3 (Exit.then (y2.wp P Q2) Q2))) (Exit.inBlock i3 (Exit.then (y2.wp P Q2) Q2))) l5) E L φ):Nx n G D w0 (Code.skip.wp P (Exit.then ((Code.seq (Code.block i3 (Code.seq (Code.region i5 l5.toArray false) y4)) y2).wp P Q2) Q1)) E L φ:=jA (z6 (jP (uH (jP (zq h)))))
theorem y12 {o0:Array Oper} {i1:Nat} {Q1:Exit→Act→World→Prop} (h:Nx n G D w0 (Q1 .normal) E L φ):Nx n G D w0 (wpList P o0 (Exit.inBlock i1 Q1) []) E L φ:=zA (ua h)
theorem y13 {i4:Nat} {l4:List Oper} {y3:Code} {y2:Code} {Q2:Exit→Act→World→Prop} {Q1:Exit→Act→World→Prop} (h:Nx n G D w0 (wpList P l4.toArray (Exit.then (y3.wp P (Exit.then (y2.wp P Q2) Q2)) (Exit.then (y2.wp P Q2) Q2)) l4) E L φ):Nx n G D w0 (Code.skip.wp P (Exit.then ((Code.seq (Code.seq (Code.region i4 l4.toArray false) y3) y2).wp P Q2) Q1)) E L φ:=jA (z6 (jP (jP (zq h))))
theorem y14 {i1:Nat} {i3:Nat} {l3:List Oper} {Q3:Exit→Act→World→Prop} {Q2:Exit→Act→World→Prop} (h:Nx n G D w0 (wpList P l3.toArray Q3 l3) E L φ):Nx n G D w0 (Code.skip.wp P (Exit.inBlock i1 (Exit.then ((Code.region i3 l3.toArray false).wp P Q3) Q2))) E L φ:=jA (ua (z6 (zq h)))
theorem y15 {o0:Array Oper} {i1:Nat} {i3:Nat} {l3:List Oper} {Q3:Exit→Act→World→Prop} {Q2:Exit→Act→World→Prop} (h:Nx n G D w0 (wpList P l3.toArray Q3 l3) E L φ):Nx n G D w0 (wpList P o0 (Exit.inBlock i1 (Exit.then ((Code.region i3 l3.toArray false).wp P Q3) Q2)) []) E L φ:=zA (ua (z6 (zq h)))
theorem y16 {o0:Array Oper} {i3:Nat} {K4:Act→World→Prop} {K5:Act→World→Prop} {i6:Nat} {K7:Act→World→Prop} {Q7:Exit→Act→World→Prop} {Q1:Exit→Act→World→Prop} (h:Nx n G D w0 (Q7 .ret) E L φ):Nx n G D w0 (wpList P o0 (Exit.then (Code.ret.wp P (Exit.inBlock i3 (Exit.then K4 (Exit.then K5 (Exit.inBlock i6 (Exit.then K7 Q7)))))) Q1) []) E L φ:=zA (z6 (ui (uj (jZ (jZ (uj (jZ h)))))))
theorem y17 {o0:Array Oper} {i2:Nat} {l2:List Oper} {Q2:Exit→Act→World→Prop} {Q1:Exit→Act→World→Prop} (h:Nx n G D w0 (wpList P l2.toArray Q2 l2) E L φ):Nx n G D w0 (wpList P o0 (Exit.then ((Code.region i2 l2.toArray false).wp P Q2) Q1) []) E L φ:=zA (z6 (zq h))
theorem y18 {K1:Act→World→Prop} {Q1:Exit→Act→World→Prop} (h:Nx n G D w0 K1 E L φ):Nx n G D w0 (Code.skip.wp P (Exit.then K1 Q1)) E L φ:=jA (z6 h)
theorem y19 {o0:Array Oper} {K3:Act→World→Prop} {i4:Nat} {K5:Act→World→Prop} {K6:Act→World→Prop} {i7:Nat} {K8:Act→World→Prop} {Q8:Exit→Act→World→Prop} {Q1:Exit→Act→World→Prop} (h:Nx n G D w0 (Q8 .ret) E L φ):Nx n G D w0 (wpList P o0 (Exit.then (Code.ret.wp P (Exit.then K3 (Exit.inBlock i4 (Exit.then K5 (Exit.then K6 (Exit.inBlock i7 (Exit.then K8 Q8))))))) Q1) []) E L φ:=zA (z6 (ui (jZ (uj (jZ (jZ (uj (jZ h))))))))
theorem y20 {i0:Nat} {i2:Nat} {l2:List Oper} {y1:Code} {Q0:Exit→Act→World→Prop} (h:Nx n G D w0 (wpList P l2.toArray (Exit.then (y1.wp P (Exit.inBlock i0 Q0)) (Exit.inBlock i0 Q0)) l2) E L φ):Nx n G D w0 ((Code.block i0 (Code.seq (Code.region i2 l2.toArray false) y1)).wp P Q0) E L φ:=uH (jP (zq h))
theorem y21 {i2:Nat} {l2:List Oper} {Q2:Exit→Act→World→Prop} {Q1:Exit→Act→World→Prop} (h:Nx n G D w0 (wpList P l2.toArray Q2 l2) E L φ):Nx n G D w0 (Code.skip.wp P (Exit.then ((Code.region i2 l2.toArray false).wp P Q2) Q1)) E L φ:=jA (z6 (zq h))
theorem y22 {i3:Nat} {i4:Nat} {l4:List Oper} {y2:Code} {Q2:Exit→Act→World→Prop} {Q1:Exit→Act→World→Prop} (h:Nx n G D w0 (wpList P l4.toArray (Exit.inBlock i3 (Exit.then (y2.wp P Q2) Q2)) l4) E L φ):Nx n G D w0 (Code.skip.wp P (Exit.then ((Code.seq (Code.block i3 (Code.region i4 l4.toArray false)) y2).wp P Q2) Q1)) E L φ:=jA (z6 (jP (uH (zq h))))
theorem y23 {i1:Nat} {Q1:Exit→Act→World→Prop} (h:Nx n G D w0 (Q1 .normal) E L φ):Nx n G D w0 (Code.skip.wp P (Exit.inBlock i1 Q1)) E L φ:=jA (ua h)
theorem y24 {o0:Array Oper} {i3:Nat} {K4:Act→World→Prop} {Q4:Exit→Act→World→Prop} {Q1:Exit→Act→World→Prop} (h:Nx n G D w0 (Q4 .ret) E L φ):Nx n G D w0 (wpList P o0 (Exit.then (Code.ret.wp P (Exit.inBlock i3 (Exit.then K4 Q4))) Q1) []) E L φ:=zA (z6 (ui (uj (jZ h))))
theorem y25 {i3:Nat} {x4:Code} {y4:Code} {y2:Code} {Q2:Exit→Act→World→Prop} {Q1:Exit→Act→World→Prop} (h:Nx n G D w0 (x4.wp P (Exit.then (y4.wp P (Exit.inBlock i3 (Exit.then (y2.wp P Q2) Q2))) (Exit.inBlock i3 (Exit.then (y2.wp P Q2) Q2)))) E L φ):Nx n G D w0 (Code.skip.wp P (Exit.then ((Code.seq (Code.block i3 (Code.seq x4 y4)) y2).wp P Q2) Q1)) E L φ:=jA (z6 (jP (uH (jP h))))
theorem y26 {o0:Array Oper} {i2:Nat} {i4:Nat} {l4:List Oper} {y3:Code} {Q2:Exit→Act→World→Prop} {Q1:Exit→Act→World→Prop} (h:Nx n G D w0 (wpList P l4.toArray (Exit.then (y3.wp P (Exit.inBlock i2 Q2)) (Exit.inBlock i2 Q2)) l4) E L φ):Nx n G D w0 (wpList P o0 (Exit.then ((Code.block i2 (Code.seq (Code.region i4 l4.toArray false) y3)).wp P Q2) Q1) []) E L φ:=zA (z6 (uH (jP (zq h))))
theorem y27 {i3:Nat} {K1:Act→World→Prop} {K2:Act→World→Prop} {i4:Nat} {i6:Nat} {l6:List Oper} {Q6:Exit→Act→World→Prop} {Q5:Exit→Act→World→Prop} (h:Nx n G D w0 (wpList P l6.toArray Q6 l6) E L φ):Nx n G D w0 ((Code.exit i3).wp P (Exit.then K1 (Exit.then K2 (Exit.inBlock i3 (Exit.inBlock i4 (Exit.then ((Code.region i6 l6.toArray false).wp P Q6) Q5)))))) E L φ:=Yp (yf (yf (Yn (ua (z6 (zq h))))))
theorem y28 {i3:Nat} {c3:Code} {y2:Code} {Q2:Exit→Act→World→Prop} {Q1:Exit→Act→World→Prop} (h:Nx n G D w0 (c3.wp P (Exit.inBlock i3 (Exit.then (y2.wp P Q2) Q2))) E L φ):Nx n G D w0 (Code.skip.wp P (Exit.then ((Code.seq (Code.block i3 c3) y2).wp P Q2) Q1)) E L φ:=jA (z6 (jP (uH h)))
theorem y29 {i0:Nat} {i2:Nat} {l2:List Oper} {Q2:Exit→Act→World→Prop} {Q1:Exit→Act→World→Prop} (h:Nx n G D w0 (wpList P l2.toArray Q2 l2) E L φ):Nx n G D w0 ((Exit.inBlock i0 (Exit.then ((Code.region i2 l2.toArray false).wp P Q2) Q1)) .normal) E L φ:=ua (z6 (zq h))
theorem y30 {i3:Nat} {K1:Act→World→Prop} {K2:Act→World→Prop} {K4:Act→World→Prop} {Q4:Exit→Act→World→Prop} (h:Nx n G D w0 K4 E L φ):Nx n G D w0 ((Code.exit i3).wp P (Exit.then K1 (Exit.then K2 (Exit.inBlock i3 (Exit.then K4 Q4))))) E L φ:=Yp (yf (yf (Yn (z6 h))))
theorem y31 {i2:Nat} {i3:Nat} {l3:List Oper} {Q2:Exit→Act→World→Prop} {Q1:Exit→Act→World→Prop} (h:Nx n G D w0 (wpList P l3.toArray (Exit.inBlock i2 Q2) l3) E L φ):Nx n G D w0 (Code.skip.wp P (Exit.then ((Code.block i2 (Code.region i3 l3.toArray false)).wp P Q2) Q1)) E L φ:=jA (z6 (uH (zq h)))
theorem y32 {i3:Nat} {K1:Act→World→Prop} {K2:Act→World→Prop} {i7:Nat} {l7:List Oper} {y6:Code} {y5:Code} {Q5:Exit→Act→World→Prop} {Q4:Exit→Act→World→Prop} (h:Nx n G D w0 (wpList P l7.toArray (Exit.then (y6.wp P (Exit.then (y5.wp P Q5) Q5)) (Exit.then (y5.wp P Q5) Q5)) l7) E L φ):Nx n G D w0 ((Code.exit i3).wp P (Exit.then K1 (Exit.then K2 (Exit.inBlock i3 (Exit.then ((Code.seq (Code.seq (Code.region i7 l7.toArray false) y6) y5).wp P Q5) Q4))))) E L φ:=Yp (yf (yf (Yn (z6 (jP (jP (zq h)))))))
end
end
section
open Go.RowKit
section
variable {P:Program} {n:Nat} {G D:Nat→Prop} {w0:World} {Q:Exit→Act→World→Prop} {R:Act→World→Prop} {E:Env} {L M:List Ch} {φ:Prop}
variable {d:Tmp} {ty:TypeId} {pos:String} {aft:Array Edge} {gd:Option (Nat×Bool)} {Tk:Act→World→Prop} {Lr:List Ch} {x y:Operand} {T T' S:TypeId} {e sz by':Nat} {at':Array TypeId}
theorem zeK {ψ:Prop} (h:φ→ψ) (k:Nx n G D w0 R E L ψ):Nx n G D w0 R E L φ:=fun a w hE hm hφ=>k a w hE hm (h hφ)
theorem zfq (M:xL P n G D w0 E ⟨some d,.call {callee:=.builtin .cap,args:=#[x],argTypes:=#[T]},ty,pos,aft,gd⟩ Tk R Lr L) {p:TypeId×Nat×Nat} (hT:elB P T=some p) (hx:oev E x=some (.slice none 0 0)) (hd:Nat.blt d n=true)
  (k:Nx n G D w0 R ((d,.int .i64 0) :: E) L φ):Nx n G D w0 Tk E L φ :=
 M.val hd rfl (fun ρ w hE hm _=>by
  obtain ⟨e,b,c⟩:=p
  obtain ⟨hu,_⟩:=yU hT
  simp [execOp,resolve,invoke,builtin,hE _ _ hx,Builtin.cap_,run_underlying hu,goInt]) id k
theorem zhn (M:xL P n G D w0 E ⟨some d,.slice T x none (some y) none,ty,pos,aft,gd⟩ Tk R Lr L) {a:Option Addr} {l c:Nat} (hT:elB P T=some (e,sz,by')) (hx:oev E x=some (.slice a l c)) (ha:a=none∨∃ b,a=some ⟨b,0,none⟩) (hc:a=none→c=0) (hy:oev E y=some (.int .i64 0)) (hd:Nat.blt d n=true)
  (k:Nx n G D w0 R ((d,.slice a 0 c) :: E) L φ):Nx n G D w0 Tk E L φ :=
 M.val hd rfl (fun ρ w hE hm _=>by
  obtain ⟨hu,inf,hinf,rfl,rfl⟩:=yU hT
  rcases ha with rfl | ⟨b,rfl⟩
  ·obtain rfl:=hc rfl
   simp [execOp,hE _ _ hx,hE _ _ hy,Instr.sliceAt,Instr.slice,Instr.sliceBounds,Instr.sliceBound,asIntOf,run_underlying hu,sizeOf,typeInfo,hinf]
  ·simp [execOp,hE _ _ hx,hE _ _ hy,Instr.sliceAt,Instr.slice,Instr.sliceBounds,Instr.sliceBound,asIntOf,run_underlying hu,sizeOf,typeInfo,hinf,Addr.add]) id k
theorem zh8 {α:Type} {El':El α} {N:Int} {zs:List Value} (hx:oev E x=some (.slice none 0 0)) (hy:oev E y=some (.int .i64 N)) (hd:Nat.blt d n=true) (hT:elB P T=some (e,sz,by')) (htn:P.underlying T'=some (.int .i64)) (hby:Nat.ble by' 32768=true) (hzr:xT P e=some zs) (hzl:Nat.beq zs.length sz=true) (hes:El'.size=sz)
  (h0:0<N) (h1:N≤4294967296) (k:∀ b c,Nx n G D w0 R ((d,.slice (some ⟨b,0,none⟩) N.toNat c) :: E) (zg El' e (.slice (some ⟨b,0,none⟩) 0 c) [] :: L) φ) :
  Nx n G D w0 (fun a w=>Oper.wp P ⟨some d,.call {callee:=.builtin .append,args:=#[x,y],argTypes:=#[T,T']},ty,pos,aft,gd⟩ a w R Q) E L φ :=
 Xb hd rfl fun ρ w hE hm hφ=>by
  obtain ⟨hu,inf,hinf,rfl,rfl⟩:=yU hT
  obtain ⟨z',hz',hzc⟩:=u6 hzr hinf
  obtain ⟨m,rfl⟩:=Int.eq_ofNat_of_zero_le (show 0≤N by omega)
  have hbl:=Nat.le_of_ble_eq_true hby
  have hl:=Nat.eq_of_beq_eq_true hzl
  have hp:=El'.pos
  have hb:m * inf.bytes≤281474976710656:=by
   have:m * inf.bytes≤4294967296 * 32768:=Nat.mul_le_mul (by omega) hbl
   omega
  have hr:=Lib.run_append_nil_zeros (P:=P) w T T' ty e inf z' .i64 .i64 hu htn hinf hz' m (by omega) (by omega) (by omega) hb
  have hge:=grownCap_ge w m 0 e
  have hcm:grownCap w m 0 e≤maxLen:=grownCap_le_maxLen w m 0 e (by unfold maxLen;omega)
  refine ⟨_,_,_,φ,by simp [execOp,resolve,invoke,builtin,hE _ _ hx,hE _ _ hy,hr];exact ⟨rfl,rfl⟩,?_,hφ,by simpa using k w.heap.size (grownCap w m 0 e)⟩
  refine hm.add _ (((Below.refl _ w).drew).alloc (Nat.le_refl _) _) (fun b hb=>by simp [zg,Value.ownBlock] at hb;rw [World.size_alloc];simp;omega) ?_
  refine ⟨[],trivial,by simp,.inr ⟨w.heap.size,_,_,rfl,Nat.zero_le _,heap_alloc_new w.drew _,Nat.zero_le _,hcm,?_,by simp⟩⟩
  rw [Array.size_append,size_zeroCells,size_zeroCells,hzc,hes]
  simp only [List.size_toArray,hl]
  rw [← Nat.add_mul]
  congr 1
  omega
theorem Rows.drop {α:Type} {El:El α} {F:Nat→Prop} {w:World}:∀ {xs:List α} {css:List (List Value)} (J:Nat),Rows El F w xs css→Rows El F w (xs.drop J) (css.drop J)∧(css.drop J).flatten=css.flatten.drop (J * El.size)
 | [],[],J,h=>by simp [Rows]
 | x :: xs,cs :: css,0,h=>⟨h,by simp⟩
 | x :: xs,cs :: css,J+1,h=>by
  obtain ⟨h1,h2⟩:=Rows.drop (xs:=xs) (css:=css) J h.2
  have hl:=El.len F w x cs h.1
  refine ⟨h1,?_⟩
  simp only [List.drop_succ_cons,List.flatten_cons,h2]
  have e:(J+1) * El.size=cs.length+J * El.size:=by rw [hl,Nat.add_mul];omega
  rw [e,List.drop_length_add_append]
 | [],_ :: _,_,h=>by simp [Rows] at h
 | _ :: _,[],_,h=>by simp [Rows] at h
end
end
section
open Go.RowKit
section
variable {P:Program} {n:Nat} {G D:Nat→Prop} {w0:World} {Q:Exit→Act→World→Prop} {R:Act→World→Prop} {E:Env} {L M:List Ch} {φ:Prop}
variable {d:Tmp} {ty:TypeId} {pos:String} {aft:Array Edge} {gd:Option (Nat×Bool)} {Tk:Act→World→Prop} {Lr:List Ch} {x y:Operand} {T T' S:TypeId} {e sz by':Nat} {at':Array TypeId}
theorem Mem.putObj {i b:Nat} {o o':Obj} {w:World} (m:Mem G D w0 L w) (hi:jX L i=some (uw b o)):Mem G D w0 (u0 L i (uw b o')) (w.putObj b o'):=by
 have hb:w.heap[b]?=some o:=m.get hi
 have hlt:=(Array.getElem?_eq_some_iff.1 hb).1
 refine m.upd hi rfl rfl rfl (by simp) (fun x _ hx=>World.putObj_heap_other (fun e=>hx e)) (fun x hx=>⟨?_,.inl hx⟩) (World.putObj_heap_same hlt)
 have hx':x=b:=hx
 subst hx'
 simpa using hlt
theorem zgO {l i:Nat} {rc:Loop} {Kb:Act→World→Prop} (hi:jX L i=some (uw l (.loop rc))) (hr:rc.state=.ready) (k:Nx n G D w0 Kb E (u0 L i (uw l (.loop {rc with state:=.busy}))) φ) :
  Nx n G D w0 (fun a w=>∃ w₂,(Instr.beginRound l).run P w=.ok () w₂∧Kb a w₂) E L φ:=fun a w hE hm hφ =>
 ⟨_,run_beginRound (P:=P) (hm.get hi) hr,k a _ hE (hm.putObj hi) hφ⟩
theorem Mem.absLoop {l:Nat} {rc0:Loop} {w:World} (m:Mem G D w0 (uw l (.loop rc0) :: L) w):∃ rc,rc=rc0∧Mem G D w0 (uw l (.loop rc) :: L) w:=⟨rc0,rfl,m⟩
theorem ziC {l i:Nat} {rc:Loop} {Rr:Ending→World→Prop} (hi:jX L i=some (uw l (.loop rc))) (h:∀ w,Mem G D w0 (u0 L i (uw l (.loop {rc with state:=.ready,pending:=none}))) w→φ→Rr (.returned (.bool true)) w) :
  Nx n G D w0 (roundPost P l Rr .normal) E L φ:=fun a w hE hm hφ =>
 ⟨_,_,run_endRound (P:=P) none (hm.get hi),h _ (hm.putObj hi) hφ⟩
theorem zh7 {l i:Nat} {rc:Loop} {Rr:Ending→World→Prop} (hi:jX L i=some (uw l (.loop rc))) (h:∀ w,Mem G D w0 (u0 L i (uw l (.loop {rc with state:=.done,pending:=some .ret}))) w→φ→Rr (.returned (.bool false)) w) :
  Nx n G D w0 (roundPost P l Rr .ret) E L φ:=fun a w hE hm hφ =>
 ⟨_,_,run_endRound (P:=P) (some .ret) (hm.get hi),h _ (hm.putObj hi) hφ⟩
theorem Mem.laid {w:World} (o:Obj) (m:Mem G D w0 L w):Mem G D w0 (uw w.heap.size o :: L) (w.alloc o) :=
 m.add _ ((Below.refl _ _).alloc (Nat.le_refl _) _) (fun b hb=>by have hb':b=w.heap.size:=hb;subst hb';simp) (World.alloc_heap_new w o)
theorem zgC {g:Operand} {ps:Array Tmp} {assign body:Code} {gf:Nat} {lb:List Value} (hg:oev E g=some (.func (.func gf) #[] lb.toArray)) (eg:∀ args w,(callFunc gf args).run P w=.ok (.enter gf args) w)
  (h:∀ (a:Act) (w:World) (fn:FuncId) (l D0:Nat),Has n E a→Mem G D w0 (uw l (.loop {state:=.ready,pending:=none,fn,tmps:=a.tmps,params:=ps,assign,body,defers:=D0}) :: uw D0 (.deferred (some [])) :: L) w→φ →
   Calls P gf (.func (.yield l) #[] #[] :: lb).toArray w (rangePost Fence.wide 3 P l Q {a with defers:=[{target:=.collected D0,args:=#[]}]})):Nx n G D w0 ((Code.rangeFunc g ps assign body).wp P Q) E L φ:=fun a w hE hm hφ=>by
 refine (wpIn_wide (n:=3)).1 (wpIn_rangeFunc fun fn _=>?_)
 have hgv:=hE.eval hg
 have hcall:=h a ((w.alloc (.deferred (some []))).alloc (.loop {state:=.ready,pending:=none,fn,tmps:=a.tmps,params:=ps,assign,body,defers:=w.heap.size})) fn (w.heap.size+1) w.heap.size hE (by
  have:=(hm.laid (.deferred (some []))).laid (.loop {state:=.ready,pending:=none,fn,tmps:=a.tmps,params:=ps,assign,body,defers:=w.heap.size})
  rwa [World.size_alloc] at this) hφ
 have hrun:=run_enterLoop_outer (P:=P) (w:=w) fn a.tmps ps assign body
 generalize (w.alloc (.deferred (some []))).alloc (.loop {state:=.ready,pending:=none,fn,tmps:=a.tmps,params:=ps,assign,body,defers:=w.heap.size})=W1 at hcall hrun
 refine ⟨w.heap.size+1,[{target:=.collected w.heap.size,args:=#[]}],W1,{target:=.fn (.func gf) lb.toArray,args:=#[.func (.yield (w.heap.size+1)) #[] #[]]},W1,gf,
  (.func (.yield (w.heap.size+1)) #[] #[] :: lb).toArray,W1,hrun,?_,fun f' _=>trivial,?_,fun e=>by simp [Fence.wide] at e,?_⟩
 ·simp only [resolve,hgv]
  simp [go_sem]
 ·simp [invoke,go_sem,eg]
 ·have hd:=hE.defers
  rw [hd]
  exact callsIn_wide.2 hcall
theorem zcj {l i:Nat} {rc:Loop} {a':Act} {v:Value} {w:World} (m:Mem G D w0 L w) (hi:jX L i=some (uw l (.loop rc))) (hb:rc.state≠.busy)
  (h:∀ w',Mem G D w0 (u0 L i (uw l (.loop {rc with state:=.exhausted}))) w'→(match rc.pending with | none=>Q .normal a' w' | some c=>c.wpIn Fence.wide 3 P Q a' w')):rangePost Fence.wide 3 P l Q a' (.returned v) w :=
 ⟨_,_,run_endLoop (P:=P) (m.get hi) hb,h _ (m.putObj hi)⟩
theorem zin {ds:List Deferred} {ops:Array Oper} {rest:List Oper} {dst:Option Tmp} {op:Op} (hne:∀ ρ w dd w',(execOp ρ ⟨dst,op,ty,pos,aft,none⟩).run P w≠.ok (.defer dd) w') (h:Nx n G D w0 (fun a w=>Oper.wp P ⟨dst,op,ty,pos,aft,none⟩ a w (fun a w=>wpList P ops Q rest {a with defers:=ds} w) (fun _ _ _=>False)) E L φ) :
  Nx n G D w0 (fun a w=>wpList P ops Q (⟨dst,op,ty,pos,aft,none⟩ :: rest) {a with defers:=ds} w) E L φ:=fun a w hE hm hφ=>by
 show wpList P ops Q (⟨dst,op,ty,pos,aft,none⟩ :: rest) {a with defers:=ds} w
 unfold wpList
 rw [if_pos (by simp [Region.wanted])]
 refine .inl ?_
 have h':Oper.upon P ⟨dst,op,ty,pos,aft,none⟩ a (fun a w=>wpList P ops Q rest {a with defers:=ds} w) (fun _ _ _=>False) ((execOp a.eval ⟨dst,op,ty,pos,aft,none⟩).run P w):=h a w hE hm hφ
 show Oper.upon P ⟨dst,op,ty,pos,aft,none⟩ {a with defers:=ds} (wpList P ops Q rest) Q ((execOp a.eval ⟨dst,op,ty,pos,aft,none⟩).run P w)
 have hne':=hne a.eval w
 revert h' hne'
 generalize (execOp a.eval ⟨dst,op,ty,pos,aft,none⟩).run P w=r
 intro h' hne'
 have hp:∀ v,({a with defers:=ds}:Act).put dst v={a.put dst v with defers:=ds}:=fun v=>by cases dst <;> rfl
 cases r with
 | ok x w' =>
  cases x <;> simp only [Oper.upon,hp] at h' ⊢ <;> first | exact h' | exact absurd rfl (hne' _ _) | (refine Calls.mono h' ?_;intro e w'' hh;cases e <;> first | exact hh | exact False.elim hh | (obtain ⟨_,_,hh⟩:=hh;exact hh.elim)) | (refine Rows.mono h' ?_;intro e w'' hh;exact hh) | exact False.elim h'
 | halt x w'=>cases x <;> first | exact h' | exact False.elim h'
theorem stD {ds:List Deferred} {ops:Array Oper} {rest:List Oper} {dst:Option Tmp} {op:Op}:xL P n G D w0 E ⟨dst,op,ty,pos,aft,none⟩ (fun a w=>wpList P ops Q (⟨dst,op,ty,pos,aft,none⟩ :: rest) {a with defers:=ds} w) (fun a w=>wpList P ops Q rest {a with defers:=ds} w) L L :=
 ⟨fun hd ho hr hψ k=>fun a w hE hm hφ=>by
  show wpList P ops Q (⟨dst,op,ty,pos,aft,none⟩ :: rest) {a with defers:=ds} w
  unfold wpList
  rw [if_pos (by simp [Region.wanted])]
  refine .inl ?_
  show Oper.upon P _ _ _ Q ((execOp a.eval ⟨dst,op,ty,pos,aft,none⟩).run P w)
  rw [hr a.eval w (fun x v h=>hE.eval h) hm hφ,Oper.upon_value,ho]
  exact k _ _ (hE.put hd _) hm (hψ hφ)⟩
theorem zdK {T:TypeId} {x y:Operand}:∀ ρ w dd w',(execOp ρ ⟨none,.store T x y,ty,pos,aft,none⟩).run P w≠.ok (.defer dd) w':=fun ρ w dd w' h=>by
 simp only [execOp] at h
 rw [Sem.run_bind] at h
 cases hr:(Instr.storeAt T (ρ x) (ρ y)).run P w with
 | ok u w2=>rw [hr] at h;simp [Result.andThen] at h
 | halt u w2=>rw [hr] at h;simp [Result.andThen] at h
theorem ze9 {ds:List Deferred} {id:Nat} {l:List Oper} (h:Nx n G D w0 (fun a w=>wpList P l.toArray Q l {a with defers:=ds} w) E L φ):Nx n G D w0 (fun a w=>(Code.region id l.toArray false).wp P Q {a with defers:=ds} w) E L φ:=fun a w hE hm hφ=>wp_region_lit (h a w hE hm hφ)
theorem zh3 {ds:List Deferred} {x y:Code} (h:Nx n G D w0 (fun a w=>x.wp P (Exit.then (y.wp P Q) Q) {a with defers:=ds} w) E L φ):Nx n G D w0 (fun a w=>(Code.seq x y).wp P Q {a with defers:=ds} w) E L φ:=fun a w hE hm hφ=>wp_seq (h a w hE hm hφ)
theorem zhx {ds:List Deferred} (h:Nx n G D w0 (fun a w=>Q .ret {a with defers:=ds} w) E L φ):Nx n G D w0 (fun a w=>Code.ret.wp P Q {a with defers:=ds} w) E L φ:=fun a w hE hm hφ=>wp_ret (h a w hE hm hφ)
theorem zeG {M0:List Ch} {ρ ν:Type} {F:Nat→Prop} {fn:Func} {q q2:ResultVar} {v v2:Value} {κ:ρ→Prop} {val:ρ→ν→Value} {N:ρ→ν→List Ch} {D0 i:Nat} (hi:jX L i=some (uw D0 (.deferred (some [])))) (hres:fn.results=#[q,q2]) (r:ρ) (u:ν)
  (hs:Rv P n G (xF M0) w0 E (u0 L i (uw D0 (.deferred none))) q v) (ht:Rv P n G (xF M0) w0 E (u0 L i (uw D0 (.deferred none))) q2 v2) (hv:val r u=.tuple #[v,v2])
  (hN:∀ w,Mem G (xF M0) w0 (u0 L i (uw D0 (.deferred none))) w→zP M0 F w0 w (N r u)):Nx n G (xF M0) w0 (fun a w=>bodyPostM Fence.wide 3 P fn (Ret M0 F w0 κ val N) .ret {a with defers:=[{target:=.collected D0,args:=#[]}]} w) E L (κ r):=fun a w hE hm hφ=>by
 have hk:=hm.putObj (o':=.deferred none) hi
 refine ⟨by simp,.inl ⟨D0,_,rfl,run_takeDeferred (P:=P) (hm.get hi),?_⟩⟩
 exact ⟨val r u,by simp [XZ,hres,hs a _ hE hk,ht a _ hE hk,hv],r,u,hφ,rfl,hk.updD,hN _ hk⟩
theorem zh6 {F:Nat→Prop} {f:Nat} {fn:Func} {c:Code} {args:List Value} {K:Ending→World→Prop} (M0:List Ch) (hF:∀ b,F b→b<w0.heap.size∧¬ xF M0 b) (hg:xO M0 F w0) (hf:P.funcs[f]?=some fn) (hb:fn.body=some c) (hn:fn.ntmps=n) (hle:Nat.ble args.length n=true)
  (hφ:φ) (h:Nx n (gB F M0 w0) (xF M0) w0 (c.wp P (bodyPostM Fence.wide 3 P fn K)) (Uw 0 args) (M0++[zi w0 F]) φ):Calls P f args.toArray w0 K:=by
 have hle':=Nat.le_of_ble_eq_true hle
 refine (callsIn_wide (n:=3)).1 (callsIn_of_wp_marks hf hb trivial (wpIn_wide.2 ?_))
 have hfoot:∀ c∈[zi w0 F],∀ b,¬ c.foot b:=fun c hc b h=>by simp only [List.mem_cons,List.not_mem_nil,or_false] at hc;subst hc;exact h
 have hh:∀ c∈[zi w0 F],c.holds F w0:=fun c hc=>by simp only [List.mem_cons,List.not_mem_nil,or_false] at hc;subst hc;exact ⟨fun _ h=>h,fun _ _=>rfl⟩
 refine h _ _ ?_ ?_ hφ
 ·rw [hn]
  have:=Has.enter (args:=args) (f:=n - args.length) (n:=n) (by omega) (Uw 0 args) (fun s v hs=>by have:=zar args 0 s v hs;simpa using this.2)
  simpa using this
 ·have hfz:∀ b,F b→fz (gB F M0 w0) (M0++[zi w0 F]) w0 b:=fun b hb=>⟨(hF b hb).1,.inl hb,fun d hd hk=>by
   rcases List.mem_append.1 hd with e | e
   ·exact (hF b hb).2 ⟨d,e,hk⟩
   ·exact hfoot d e b hk⟩
  refine Mem.start w0 _ _ (M0++[zi w0 F]) (fun b h=>.inr h) (fun c hc b hb=>?_) ?_ (fun c hc=>?_)
  ·rcases List.mem_append.1 hc with e | e
   ·exact ⟨hg.lt c e b hb,c,e,hb⟩
   ·exact absurd hb (hfoot c e b)
  ·exact List.pairwise_append.2 ⟨hg.disj,by simp,fun c _ d hd b _ h2=>hfoot d hd b h2⟩
  ·rcases List.mem_append.1 hc with e | e
   ·exact c.keep _ _ w0 w0 hfz (fun _ _=>rfl) (hg.hold c e)
   ·exact c.keep _ _ w0 w0 hfz (fun _ _=>rfl) (hh c e)
end
end
section
open Go.RowKit
theorem xy:za8 Tryz.prog 137=some (4,90,false,1):=by kernel_rfl
theorem zbP:za8 Tryz.prog 152=some (4,3,false,1):=by kernel_rfl
theorem zgj:za8 Tryz.prog 163=some (4,162,true,2):=by kernel_rfl
theorem zfY:za8 Tryz.prog 203=some (5,4,false,1):=by kernel_rfl
theorem zec:za8 Tryz.prog 204=some (5,3,false,1):=by kernel_rfl
theorem zcU:Uz Tryz.prog 101=some (#[(0,1),(1,1)],[(.slice none 0 0),(.bool false)]):=by kernel_rfl
theorem zgd:Uz Tryz.prog 107=some (#[(0,1),(1,1)],[(.slice none 0 0),(.slice none 0 0)]):=by kernel_rfl
theorem zh0:Uz Tryz.prog 131=some (#[(0,1),(1,1)],[(.slice none 0 0),(.int .i64 0)]):=by kernel_rfl
theorem zfT:zhB Tryz.prog 137=some (1,[(.slice none 0 0),(.slice none 0 0),(.slice none 0 0),(.slice none 0 0)]):=by kernel_rfl
theorem zd9:Uz Tryz.prog 146=some (#[(0,4),(4,1)],[(.slice none 0 0),(.slice none 0 0),(.slice none 0 0),(.slice none 0 0),(.bool false)]):=by kernel_rfl
theorem zbR:Uz Tryz.prog 165=some (#[(0,1),(1,1),(2,1),(3,1)],[(.int .i64 0),(.int .i64 0),(.int .i64 0),(.bool false)]):=by kernel_rfl
theorem zhy:Uz Tryz.prog 169=some (#[(0,1),(1,1),(2,1)],[(.slice none 0 0),(.slice none 0 0),(.bool false)]):=by kernel_rfl
theorem zcD:Uz Tryz.prog 25=some (#[(0,1),(1,1)],[(.slice none 0 0),(.bool false)]):=by kernel_rfl
theorem zgb:Uz Tryz.prog 262=some (#[(0,1)],[(.bool false)]):=by kernel_rfl
theorem zh1:Uz Tryz.prog 264=some (#[(0,1)],[(.int .i64 0)]):=by kernel_rfl
theorem zhp:Uz Tryz.prog 266=some (#[],[]):=by kernel_rfl
theorem zhF:Uz Tryz.prog 267=some (#[],[]):=by kernel_rfl
theorem zfM:Uz Tryz.prog 34=some (#[(0,1),(1,1),(2,1),(3,1)],[(.int .i64 0),(.int .i64 0),(.int .i64 0),(.int .i64 0)]):=by kernel_rfl
theorem zhm:Uz Tryz.prog 77=some (#[(0,1),(1,1),(2,1)],[(.slice none 0 0),(.int .i64 0),(.int .i64 0)]):=by kernel_rfl
theorem uD:Uz Tryz.prog 89=some (#[(0,1),(1,1)],[(.int .i64 0),(.int .i64 0)]):=by kernel_rfl
theorem zes:Uz Tryz.prog 94=some (#[(0,1)],[(.slice none 0 0)]):=by kernel_rfl
theorem zbH:elB Tryz.prog 22=some (5,1,1):=by kernel_rfl
theorem Ym:elB Tryz.prog 23=some (47,1,24):=by kernel_rfl
theorem zbC:elB Tryz.prog 271=some (82,1,24):=by kernel_rfl
theorem yA:elB Tryz.prog 30=some (101,2,32):=by kernel_rfl
theorem V8:elB Tryz.prog 39=some (3,1,8):=by kernel_rfl
theorem Ua:elB Tryz.prog 47=some (77,3,40):=by kernel_rfl
theorem Zu:elB Tryz.prog 75=some (165,4,32):=by kernel_rfl
theorem Y6:elB Tryz.prog 79=some (146,5,104):=by kernel_rfl
theorem ya:elB Tryz.prog 82=some (137,4,96):=by kernel_rfl
theorem jk:elB Tryz.prog 90=some (89,2,16):=by kernel_rfl
theorem ZA:elB Tryz.prog 92=some (90,1,24):=by kernel_rfl
theorem zgN (x y:Operand) (a0:Int) (a1:Int) (a2:Int) (a3:Bool) (b0:Int) (b1:Int) (b2:Int) (b3:Bool) (w:World):(do eqGuard .neq 165 x y (.agg #[(.int .i64 a0),(.int .i64 a1),(.int .i64 a2),(.bool a3)]) (.agg #[(.int .i64 b0),(.int .i64 b1),(.int .i64 b2),(.bool b3)]);binOp .neq 165 (.agg #[(.int .i64 a0),(.int .i64 a1),(.int .i64 a2),(.bool a3)]) (.agg #[(.int .i64 b0),(.int .i64 b1),(.int .i64 b2),(.bool b3)]):Sem Value).run Tryz.prog w=.ok (.bool (!decide ((zI.mk a0 a1 a2 a3)=(zI.mk b0 b1 b2 b3)))) w:=by
 simp [go_sem,binOp,Op.equal,Op.maxDepth]
 repeat' split
 all_goals simp_all
theorem zfE (x y:Operand) (a0:Int) (a1:Int) (b0:Int) (b1:Int) (w:World):(do eqGuard .eql 89 x y (.agg #[(.int .i64 a0),(.int .i64 a1)]) (.agg #[(.int .i64 b0),(.int .i64 b1)]);binOp .eql 89 (.agg #[(.int .i64 a0),(.int .i64 a1)]) (.agg #[(.int .i64 b0),(.int .i64 b1)]):Sem Value).run Tryz.prog w=.ok (.bool (decide ((zd.mk a0 a1)=(zd.mk b0 b1)))) w:=by
 simp [go_sem,binOp,Op.equal,Op.maxDepth]
 repeat' split
 all_goals simp_all
theorem ZF:Z5 Tryz.prog 101 0=some (0,true,1):=by kernel_rfl
theorem Um:Z5 Tryz.prog 101 1=some (1,false,1):=by kernel_rfl
theorem Ug:Z5 Tryz.prog 107 0=some (0,false,1):=by kernel_rfl
theorem UF:Z5 Tryz.prog 107 1=some (1,false,1):=by kernel_rfl
theorem XJ:Z5 Tryz.prog 131 0=some (0,false,1):=by kernel_rfl
theorem zbi:Z5 Tryz.prog 131 1=some (1,false,1):=by kernel_rfl
theorem zbg:Z5 Tryz.prog 146 0=some (0,true,4):=by kernel_rfl
theorem zdU:Z5 Tryz.prog 146 1=some (4,false,1):=by kernel_rfl
theorem zdT:Z5 Tryz.prog 162 1=some (1,false,1):=by kernel_rfl
theorem uY:Z5 Tryz.prog 165 0=some (0,false,1):=by kernel_rfl
theorem Xj:Z5 Tryz.prog 165 1=some (1,false,1):=by kernel_rfl
theorem yZ:Z5 Tryz.prog 165 2=some (2,false,1):=by kernel_rfl
theorem zdw:Z5 Tryz.prog 165 3=some (3,false,1):=by kernel_rfl
theorem zfv:Z5 Tryz.prog 169 0=some (0,false,1):=by kernel_rfl
theorem VZ:Z5 Tryz.prog 169 1=some (1,false,1):=by kernel_rfl
theorem ZG:Z5 Tryz.prog 169 2=some (2,false,1):=by kernel_rfl
theorem yv:Z5 Tryz.prog 25 0=some (0,false,1):=by kernel_rfl
theorem zeA:Z5 Tryz.prog 25 1=some (1,false,1):=by kernel_rfl
theorem zfO:Z5 Tryz.prog 262 0=some (0,false,1):=by kernel_rfl
theorem zfG:Z5 Tryz.prog 264 0=some (0,false,1):=by kernel_rfl
theorem YL:Z5 Tryz.prog 77 0=some (0,false,1):=by kernel_rfl
theorem US:Z5 Tryz.prog 77 1=some (1,false,1):=by kernel_rfl
theorem YK:Z5 Tryz.prog 77 2=some (2,false,1):=by kernel_rfl
theorem xf:Z5 Tryz.prog 89 0=some (0,false,1):=by kernel_rfl
theorem jJ:Z5 Tryz.prog 89 1=some (1,false,1):=by kernel_rfl
theorem xR:Z5 Tryz.prog 94 0=some (0,false,1):=by kernel_rfl
theorem zbT (v:Value) (w:World):(method (Tryz.prog.types.size+Made.depth) 262 v "loop.example/packetfilter/impl.unfold").run Tryz.prog w=.ok (279,v) w:=by kernel_rfl
theorem zbz (v:Value) (w:World):(method (Tryz.prog.types.size+Made.depth) 264 v "loop.example/packetfilter/impl.unfold").run Tryz.prog w=.ok (282,v) w:=by kernel_rfl
theorem zbw (v:Value) (w:World):(method (Tryz.prog.types.size+Made.depth) 266 v "loop.example/packetfilter/impl.unfold").run Tryz.prog w=.ok (285,v) w:=by kernel_rfl
theorem zby (v:Value) (w:World):(method (Tryz.prog.types.size+Made.depth) 267 v "loop.example/packetfilter/impl.unfold").run Tryz.prog w=.ok (288,v) w:=by kernel_rfl
theorem zfH:∀ v w,(Instr.makeInterface 262 v).run Tryz.prog w=.ok (.iface 262 v) w:=fun v w=>by kernel_rfl
theorem zhA:∀ v w,(Instr.makeInterface 264 v).run Tryz.prog w=.ok (.iface 264 v) w:=fun v w=>by kernel_rfl
theorem zhG:∀ v w,(Instr.makeInterface 266 v).run Tryz.prog w=.ok (.iface 266 v) w:=fun v w=>by kernel_rfl
theorem zhP:∀ v w,(Instr.makeInterface 267 v).run Tryz.prog w=.ok (.iface 267 v) w:=fun v w=>by kernel_rfl
theorem ziL:∀ v w,(Instr.makeInterface 9 v).run Tryz.prog w=.ok (.iface 9 v) w:=fun v w=>by kernel_rfl
theorem Yi:tyB Tryz.prog 101=some (true,2):=by kernel_rfl
theorem Ur:tyB Tryz.prog 107=some (true,2):=by kernel_rfl
theorem jQ:tyB Tryz.prog 137=some (true,4):=by kernel_rfl
theorem zcm:tyB Tryz.prog 146=some (true,5):=by kernel_rfl
theorem ziA:tyB Tryz.prog 152=some (true,4):=by kernel_rfl
theorem X3:tyB Tryz.prog 165=some (true,4):=by kernel_rfl
theorem zif:tyB Tryz.prog 203=some (true,5):=by kernel_rfl
theorem zdt:tyB Tryz.prog 22=some (false,1):=by kernel_rfl
theorem UY:tyB Tryz.prog 23=some (false,1):=by kernel_rfl
theorem YR:tyB Tryz.prog 25=some (true,2):=by kernel_rfl
theorem ty3:tyB Tryz.prog 3=some (false,1):=by kernel_rfl
theorem YE:tyB Tryz.prog 34=some (true,4):=by kernel_rfl
theorem ty4:tyB Tryz.prog 4=some (false,1):=by kernel_rfl
theorem zc2:tyB Tryz.prog 47=some (false,1):=by kernel_rfl
theorem ty5:tyB Tryz.prog 5=some (false,1):=by kernel_rfl
theorem zd1:tyB Tryz.prog 75=some (false,1):=by kernel_rfl
theorem zaL:tyB Tryz.prog 77=some (true,3):=by kernel_rfl
theorem zfd:tyB Tryz.prog 79=some (false,1):=by kernel_rfl
theorem Ya:tyB Tryz.prog 82=some (false,1):=by kernel_rfl
theorem XO:tyB Tryz.prog 89=some (true,2):=by kernel_rfl
theorem uI:tyB Tryz.prog 90=some (false,1):=by kernel_rfl
theorem Xn:tyB Tryz.prog 92=some (false,1):=by kernel_rfl
theorem yV:tyB Tryz.prog 94=some (true,1):=by kernel_rfl
theorem xS:Tryz.prog.underlying 3=some (.int .i64):=by kernel_rfl
theorem ziD:Tryz.prog.underlying 4=some .bool:=by kernel_rfl
theorem zhZ:Tryz.prog.underlying 5=some (.int .u8):=by kernel_rfl
theorem uF:xT Tryz.prog 101=some [(.slice none 0 0),(.bool false)]:=by kernel_rfl
theorem za5:xT Tryz.prog 107=some [(.slice none 0 0),(.slice none 0 0)]:=by kernel_rfl
theorem xa:xT Tryz.prog 137=some [(.slice none 0 0),(.slice none 0 0),(.slice none 0 0),(.slice none 0 0)]:=by kernel_rfl
theorem XE:xT Tryz.prog 146=some [(.slice none 0 0),(.slice none 0 0),(.slice none 0 0),(.slice none 0 0),(.bool false)]:=by kernel_rfl
theorem zgP:xT Tryz.prog 152=some [(.int .i64 0),(.int .i64 0),(.int .i64 0),(.int .i64 0)]:=by kernel_rfl
theorem uA:xT Tryz.prog 165=some [(.int .i64 0),(.int .i64 0),(.int .i64 0),(.bool false)]:=by kernel_rfl
theorem zg5:xT Tryz.prog 203=some [(.bool false),(.bool false),(.bool false),(.bool false),(.bool false)]:=by kernel_rfl
theorem zgJ:xT Tryz.prog 204=some [(.int .i64 0),(.int .i64 0),(.int .i64 0),(.int .i64 0),(.int .i64 0)]:=by kernel_rfl
theorem zcX:xT Tryz.prog 25=some [(.slice none 0 0),(.bool false)]:=by kernel_rfl
theorem zbG:xT Tryz.prog 3=some [(.int .i64 0)]:=by kernel_rfl
theorem Ux:xT Tryz.prog 34=some [(.int .i64 0),(.int .i64 0),(.int .i64 0),(.int .i64 0)]:=by kernel_rfl
theorem zij:xT Tryz.prog 4=some [(.bool false)]:=by kernel_rfl
theorem zgu:xT Tryz.prog 47=some [(.slice none 0 0)]:=by kernel_rfl
theorem Yo:xT Tryz.prog 77=some [(.slice none 0 0),(.int .i64 0),(.int .i64 0)]:=by kernel_rfl
theorem zag:xT Tryz.prog 82=some [(.slice none 0 0)]:=by kernel_rfl
theorem jv:xT Tryz.prog 89=some [(.int .i64 0),(.int .i64 0)]:=by kernel_rfl
theorem X2:xT Tryz.prog 90=some [(.slice none 0 0)]:=by kernel_rfl
theorem Yl:xT Tryz.prog 94=some [(.slice none 0 0)]:=by kernel_rfl
theorem mixed:Tryz.prog.follows .mixedOrders=true:=by kernel_rfl
theorem zbs {w0:World} {F:Nat→Prop} {v1:Value} {code_0:(List UInt8)} {κ:((List UInt8)×Int)→Prop} (hF:Fr [] F w0) (hv1:Sl YB F w0 v1 code_0) (h:Xc code_0 κ) :
  Calls Tryz.prog 50 #[v1] w0 (Ret [] F w0 κ (fun r (u:Nat×Value)=>.pointer (some ⟨u.1,0,none⟩)) (fun r u=>[zb u.1 [u.2,(I r.2)] 131,xz YB u.2 r.1])):=by
 refine eS hF Tryz.func50 Tryz.ntmps50 h ?_;clear h hF;let JJ:=Jn 11 [] F w0;refine y0 ?_;refine ma ?_;refine y1 ?_;refine zU (σ:=(List UInt8)) (fun (xs68:(List UInt8)) (a:Act) (w:World)=>∃ (v67:Value),JJ [(0,v67)] [xz YB v67 xs68] a w) ?_ ?_
 ·intro k71;refine y0 ?_;refine mv ?_;refine zL st zbH 0 (zc hv1) ?_;refine xZ st ?_;refine y1 ?_;refine zj ?_ ?_
  ·refine zq ?_;refine mv ?_;refine xm 0 rfl hv1 ?_;refine stw (Vn (I:=0) (J:=2000) 0 zbH ?_);intro v3 xs4;refine ma ?_;refine zA ?_;exact zO xs4 (jE v3 [0])
  ·refine jA ?_;exact zO code_0 (fun a w hE hm=>⟨v1,hE.sub g1,(hm.snote 0 rfl hv1).pick [0] rfl⟩)
 ·rintro xs68 a w ⟨v67,hE,hm⟩ h;refine jM hE hm h ?_;clear hE hm h;refine y0 ?_;refine mv ?_;refine yp 0 rfl ?_;rintro a72 l73 q74 rfl;refine jn st (qs:=[(0,.slice a72 l73 q74)]) (cells:=[.slice a72 l73 q74,I 0]) (bqi rfl) zh0 ?_;refine stw (x5 [.slice a72 l73 q74,I 0] ?_);intro b75;refine ma ?_;refine y3 ?_;exact js Tryz.results50 (xs68,0) (b75,.slice a72 l73 q74) (ju rfl) (fun w m=>zP.ofB m [0,1] rfl)
theorem zy {w0:World} {F:Nat→Prop} {b1:Nat} {v2:Value} {r_0_b:(List UInt8)} {r_0_p n_1:Int} {κ:(Int×Int)→Prop} (hF:Fr [zb b1 [v2,(I r_0_p)] 131] F w0) (hg:xO [zb b1 [v2,(I r_0_p)] 131] F w0) (hv2:Sl YB F w0 v2 r_0_b) (h:zk r_0_b r_0_p n_1 κ) :
  Calls Tryz.prog 52 #[(pp b1),(I n_1)] w0 (Ret [zb b1 [v2,(I r_0_p)] 131] F w0 κ (fun r (u:Unit)=>(I r.1)) (fun r u=>[zb b1 [v2,(I r.2)] 131])):=by
 refine uS (args:=[pp b1,I n_1]) [zb b1 [v2,I r_0_p] 131] hF hg Tryz.func52 rfl Tryz.ntmps52 rfl h ?_;clear h hF hg;let JJ:=Jn 99 [zb b1 [v2,I r_0_p] 131] F w0;refine y0 ?_;refine ma ?_;refine y2 ?_;refine mv ?_;refine mv ?_;refine jR st ?_;refine zu st zbi ?_;refine zp st (v:=(I r_0_p)) 0 ty3 ?_;refine ja st ?_;intro t5;refine jR st ?_;refine zu st zbi ?_;refine stw (zX (cs':=[v2,I t5]) 0 ty3 ?_);refine y9 ?_;refine zU (σ:=Bool) (fun t66=>JJ [(0,pp b1),(1,I n_1),(24,.bool t66)] [zb b1 [v2,I t5] 131,zi w0 F]) ?_ ?_
 ·intro k67;refine zq ?_;refine mv ?_;refine je st ?_;refine mv ?_;refine jW (dj:=17) rfl ?_ ?_
  ·refine ss ?_;refine ss ?_;refine ss ?_;refine ss ?_;refine ss ?_;refine ss ?_;refine zQ st ?_;refine zA ?_;exact lj [0,1]
  ·refine zw (zR rfl rfl) ?_;refine jR (zR rfl rfl) ?_;refine zu (zR rfl rfl) XJ ?_;refine zp (zR rfl rfl) (v:=v2) 0 zdt ?_;refine zL (zR rfl rfl) zbH 1 (zc hv2) ?_;refine jC (zR rfl rfl) xS ?_;refine zM st ?_;refine zA ?_;exact lj [0,1]
 ·rintro t66;refine nxj ?_;refine zj ?_ ?_
  ·refine y0 ?_;refine ma ?_;refine y6 ?_;exact js Tryz.results52 (0,t5) () (ju rfl) (fun w m=>zP.ofB m [0] rfl)
  ·refine y8 ?_;refine mv ?_;refine jR st ?_;refine zu st zbi ?_;refine zp st (v:=(I t5)) 0 ty3 ?_;refine Zh st ?_;intro t68;refine ma ?_;refine y4 ?_;refine mv ?_;refine mv ?_;refine jR st ?_;refine zu st XJ ?_;refine zp st (v:=v2) 0 zdt ?_;refine zL st zbH 1 (zc hv2) ?_;refine je st ?_;refine y1 ?_;refine zj ?_ ?_
   ·refine y0 ?_;refine mv ?_;refine jR st ?_;refine zu st XJ ?_;refine zp st (v:=v2) 0 zdt ?_;refine mv ?_;refine zH st 1 (zc hv2) zbH ?_;intro e69 h70;refine jh st (enc:=VR) (u:=(.int .u8 (e69.toNat:Int))) 1 (zc hv2) zba h70 ty5 ?_;refine zc5 st zhZ xS ?_;refine mv ?_;refine zc4 st ?_;intro t71;refine ma ?_;refine y6 ?_;exact js Tryz.results52 (t71,t5) () (ju rfl) (fun w m=>zP.ofB m [0] rfl)
   ·refine jA (z6 (jP ?_));refine ud mixed 46 rfl [zb b1 [v2,I t5] 131,zi w0 F] ?_;refine zw (dI 0) ?_;refine jR (dI 1) ?_;refine zu (dI 2) XJ ?_;refine zp (dI 3) (v:=v2) 0 zdt ?_;refine zw (dI 4) ?_;refine zw (dI 5) ?_;refine jR (dI 6) ?_;refine zu (dI 7) XJ ?_;refine zp (dI 8) (v:=v2) 0 zdt ?_;refine zL (dI 9) zbH 1 (zc hv2) ?_;refine zc4 (dI 10) ?_;intro t72;refine zH (dI 11) 1 (zc hv2) zbH ?_;intro e73 h74;refine jh (dI 12) (enc:=VR) (u:=(.int .u8 (e73.toNat:Int))) 1 (zc hv2) zba h74 ty5 ?_;refine zc5 (dI 13) zhZ xS ?_;refine zbp (dI 14) ?_;intro t75;refine zw (dI 15) ?_;refine jR (dI 16) ?_;refine zu (dI 17) XJ ?_;refine zp (dI 18) (v:=v2) 0 zdt ?_;refine zw (dI 19) ?_;refine zbp (dI 20) ?_;intro t76;refine ja (dI 21) ?_;intro t77;refine zw (dI 22) ?_;refine jR (dI 23) ?_;refine zu (dI 24) XJ ?_;refine zp (dI 25) (v:=v2) 0 zdt ?_;refine zL (dI 26) zbH 1 (zc hv2) ?_;refine zc4 (dI 27) ?_;intro t78;refine zH (dI 28) 1 (zc hv2) zbH ?_;intro e79 h80;refine jh (dI 29) (enc:=VR) (u:=(.int .u8 (e79.toNat:Int))) 1 (zc hv2) zba h80 ty5 ?_;refine zc5 (dI 30) zhZ xS ?_;refine zbp (dI 31) ?_;intro t81;refine ja (dI 32) ?_;intro t82;refine zw (dI 33) ?_;refine zbp (dI 34) ?_;intro t83;refine ja (dI 35) ?_;intro t84;refine zw (dI 36) ?_;refine zw (dI 37) ?_;refine jR (dI 38) ?_;refine zu (dI 39) XJ ?_;refine zp (dI 40) (v:=v2) 0 zdt ?_;refine zL (dI 41) zbH 1 (zc hv2) ?_;refine zfN (dI 42) ?_;intro t85;refine zbp (dI 43) ?_;intro t86;refine ja (dI 44) ?_;intro t87;refine uy (dI 45) ?_;refine jV (by kernel_rfl) ?_;refine z6 (jP (zq ?_));refine mv ?_;refine mv ?_;refine zfN st ?_;intro t88;refine zhE st ?_;intro t89;refine ma ?_;refine y2 ?_;refine mv ?_;refine mv ?_;refine zc4 st ?_;intro t90;refine ma ?_;refine y3 ?_;exact js Tryz.results52 (t90,t5) () (ju rfl) (fun w m=>zP.ofB m [0] rfl)
theorem uL {w0:World} {F:Nat→Prop} {b1:Nat} {v2:Value} {r_0_b:(List UInt8)} {r_0_p n_1:Int} {κ:(Bool×Int)→Prop} (hF:Fr [zb b1 [v2,(I r_0_p)] 131] F w0) (hg:xO [zb b1 [v2,(I r_0_p)] 131] F w0) (hv2:Sl YB F w0 v2 r_0_b) (h:jD r_0_b r_0_p n_1 κ) :
  Calls Tryz.prog 97 #[(pp b1),(I n_1)] w0 (Ret [zb b1 [v2,(I r_0_p)] 131] F w0 κ (fun r (u:Unit)=>(.bool r.1)) (fun r u=>[zb b1 [v2,(I r.2)] 131])):=by
 refine uS (args:=[pp b1,I n_1]) [zb b1 [v2,I r_0_p] 131] hF hg Tryz.func97 rfl Tryz.ntmps97 rfl h ?_;clear h hF hg;let JJ:=Jn 15 [zb b1 [v2,I r_0_p] 131] F w0;refine y0 ?_;refine ma ?_;refine y1 ?_;refine zU (σ:=(Int×Bool)) (fun (t68,t69)=>JJ [(4,.bool t69)] [zb b1 [v2,I t68] 131,zi w0 F]) ?_ ?_
 ·intro k70;refine zq ?_;refine mv ?_;refine xZ st ?_;refine mv ?_;refine jW (dj:=7) rfl ?_ ?_
  ·refine zw (zR rfl rfl) ?_;refine zw (zR rfl rfl) ?_;refine XT rfl rfl (zS (M0:=[zb b1 [v2,I r_0_p] 131]) Tryz.call52 (by intro w m h;exact rf (fun _ _=>(zJ zN zW)) (zy (F:=zZ [zb b1 [v2,I r_0_p] 131] w) (r_0_b:=r_0_b) (r_0_p:=r_0_p) (n_1:=n_1) zn m.given (m.qM 0 hv2) h)) ?_);rintro ⟨r5,r6⟩ _;refine zw (zR rfl rfl) ?_;refine Zh (zR rfl rfl) ?_;intro t7;refine jC (zR rfl rfl) xS ?_;refine zQ st ?_;refine ma ?_;refine zA ?_;exact lj [0,1]
  ·refine ss ?_;refine ss ?_;refine ss ?_;refine ss ?_;refine ss ?_;refine ss ?_;refine zM st ?_;refine ma ?_;refine zA ?_;exact lj [0,1]
 ·rintro ⟨t68,t69⟩;refine nxj ?_;refine ui ?_;exact js Tryz.results97 (t69,t68) () (ju rfl) (fun w m=>zP.ofB m [0] rfl)
theorem xQ {w0:World} {F:Nat→Prop} {n_0:Int} {κ:Int→Prop} (hF:Fr [] F w0) (h:xc n_0 κ) :
  Calls Tryz.prog 119 #[(I n_0)] w0 (Ret [] F w0 κ (fun r (u:Unit)=>(I r)) (fun r u=>[])):=by
 refine Ys (args:=[I n_0]) [] hF (xO.nil _ _) Tryz.func119 rfl Tryz.ntmps119 rfl h ?_;clear h hF;let JJ:=Jn 11 [] F w0;refine y0 ?_;refine ma ?_;refine y4 ?_;refine mv ?_;refine y5 ?_;refine zU (σ:=Bool) (fun t61=>JJ [(3,I n_0),(4,.bool t61)] []) ?_ ?_
 ·intro k62;refine y0 ?_;refine jC st xS ?_;refine ma ?_;refine y1 ?_;refine zj ?_ ?_
  ·refine jA ?_;exact lj []
  ·refine zq ?_;refine jC st xS ?_;refine ma ?_;refine zA ?_;exact lj []
 ·rintro t61;refine nxj ?_;refine zj ?_ ?_
  ·refine y0 ?_;refine ma ?_;refine y24 ?_;exact lu Tryz.results119
  ·refine y0 ?_;refine jC st xS ?_;refine ma ?_;refine y1 ?_;refine zj ?_ ?_
   ·refine y0 ?_;refine ma ?_;refine y24 ?_;exact lu Tryz.results119
   ·refine y0 ?_;refine jC st xS ?_;refine ma ?_;refine y1 ?_;refine zj ?_ ?_
    ·refine y0 ?_;refine ma ?_;refine y24 ?_;exact lu Tryz.results119
    ·refine jA (ua (z6 (jP (zq ?_))));refine ma ?_;refine y3 ?_;exact lu Tryz.results119
theorem XY {w0:World} {F:Nat→Prop} {b1:Nat} {v2:Value} {r_0_b:(List UInt8)} {r_0_p top_1 n_2:Int} {κ:(zd×Int)→Prop} (hF:Fr [zb b1 [v2,(I r_0_p)] 131] F w0) (hg:xO [zb b1 [v2,(I r_0_p)] 131] F w0) (hv2:Sl YB F w0 v2 r_0_b) (h:yo r_0_b r_0_p top_1 n_2 κ) :
  Calls Tryz.prog 195 #[(pp b1),(I top_1),(I n_2)] w0 (Ret [zb b1 [v2,(I r_0_p)] 131] F w0 κ (fun r (u:Unit)=>(.agg #[(I r.1.xLo),(I r.1.xHi)])) (fun r u=>[zb b1 [v2,(I r.2)] 131])):=by
 refine uS (args:=[pp b1,I top_1,I n_2]) [zb b1 [v2,I r_0_p] 131] hF hg Tryz.func195 rfl Tryz.ntmps195 rfl h ?_;clear h hF hg;let JJ:=Jn 68 [zb b1 [v2,I r_0_p] 131] F w0;refine y0 ?_;refine stw (jg [I 0,I 0] jv ?_);intro b5;refine y2 ?_;refine mv ?_;refine mv ?_;refine ja st ?_;intro t7;refine YO st ?_;refine pk' [1,0,2] ?_;refine stw (zS (M0:=[zb b1 [v2,I r_0_p] 131]) Tryz.call52 (by intro w m h;exact rf (fun _ _=>(zJ zN zW)) (zy (F:=zZ [zb b1 [v2,I r_0_p] 131] w) (r_0_b:=r_0_b) (r_0_p:=r_0_p) (n_1:=(min 256 t7)) zn m.given (m.qM 1 hv2) h)) ?_);rintro ⟨r8,r9⟩ _;refine jn st (qs:=[(0,I r8)]) (cells:=[I r8,I 0]) (bqi rfl) uD ?_;refine stw (jg [I 0,I 0] jv ?_);intro b10;refine stw (zX (cs':=[I r8,I 0]) 0 XO ?_);refine y1 ?_;refine zU (σ:=(Int×Int)) (fun (t144,t145)=>JJ [(0,pp b1),(1,I top_1),(2,I n_2),(6,pp b5),(7,pp b10)] [zb b1 [v2,I t144] 131,zb b10 [I t145,I 0] 89,zb b5 [I 0,I 0] 89,zi w0 F]) ?_ ?_
 ·intro k146;refine zU (σ:=(Int×Bool)) (fun (t74,t75)=>JJ [(0,pp b1),(1,I top_1),(2,I n_2),(6,pp b5),(7,pp b10),(20,.bool t75)] [zb b1 [v2,I t74] 131,zb b10 [I r8,I 0] 89,zb b5 [I 0,I 0] 89,zi w0 F]) ?_ ?_
  ·intro k76;refine zq ?_;refine mv ?_;refine xZ st ?_;refine mv ?_;refine jW (dj:=16) rfl ?_ ?_
   ·refine zw (zR rfl rfl) ?_;refine pk' [1,0,2,3] ?_;refine XT rfl rfl (zS (M0:=[zb b1 [v2,I r9] 131]) Tryz.call52 (by intro w m h;exact rf (fun _ _=>(zJ zN zW)) (zy (F:=zZ [zb b1 [v2,I r9] 131] w) (r_0_b:=r_0_b) (r_0_p:=r9) (n_1:=2) zn m.given (m.qM 2 hv2) h)) ?_);rintro ⟨r12,r13⟩ _;refine jC (zR rfl rfl) xS ?_;refine zQ st ?_;refine zA ?_;exact lj [0,1,2,3]
   ·refine ss ?_;refine ss ?_;refine ss ?_;refine zM st ?_;refine zA ?_;exact lj [1,0,2,3]
  ·rintro ⟨t74,t75⟩;refine nxj ?_;refine zj ?_ ?_
   ·refine YQ (σ:=(Int×Int)) (fun (t77,t78)=>JJ [(0,pp b1),(1,I top_1),(2,I n_2),(6,pp b5),(7,pp b10)] [zb b1 [v2,I t77] 131,zb b10 [I t78,I 0] 89,zb b5 [I 0,I 0] 89,zi w0 F]) ?_ ?_
    ·intro k79;refine Zm mixed 10 rfl [zb b5 [I 0,I 0] 89,zi w0 F] ?_;intro Qd hP hQ;let NN:=fun i l E L=>Nn 68 [zb b1 [v2,I r_0_p] 131] F w0 Tryz.prog (Yw Tryz.f195 [1,1,0,1,0]) Qd [zb b5 [I 0,I 0] 89,zi w0 F] i l ([(0,pp b1),(1,I top_1),(2,I n_2),(6,pp b5),(7,pp b10)]++E) (L++[zb b5 [I 0,I 0] 89,zi w0 F]);have H51 (r80 r81:Int):NN 0 #[Y,Y,Y,Y,Y,Y,Y,Y,Y,Y] [] [zb b1 [v2,I r81] 131,zb b10 [I (min top_1 (w64 ((w64 (r8 * 256))+r80))),I 0] 89] (k79 (r81,min top_1 (w64 ((w64 (r8 * 256))+r80)))):=by
      exact dj hQ [0,1,2,3]
     have H52 (r80 r81:Int):NN 4 #[Y,Y,Y,Y,Y,Y,Z,Z,Z,Z] [(21,I top_1),(24,I (w64 (r8 * 256))),(26,I r80)] [zb b1 [v2,I r81] 131,zb b10 [I r8,I 0] 89] (k79 (r81,min top_1 (w64 ((w64 (r8 * 256))+r80)))):=by
      refine UN (dp 6 [2,3]) ?_;refine YO (dp 7 [2,3]) ?_;refine zu (dp 8 [2,3]) xf ?_;refine d1 9 rfl (zX (cs':=[I (min top_1 (w64 ((w64 (r8 * 256))+r80))),I 0]) 1 ty3 ?_);exact rd [2,3] [0,1,2,3] (H51 r80 r81)
     have H53 (_:Unit):NN 6 #[Y,Y,Y,Z,Y,Z,Z,Z,Z,Z] [(21,I top_1),(25,pp b1),(23,I r8)] [zb b1 [v2,I t74] 131,zb b10 [I r8,I 0] 89] (zk r_0_b t74 256 (fun (r80,r81)=>k79 (r81,min top_1 (w64 ((w64 (r8 * 256))+r80))))):=by
      refine zeF (dp 3 [2,3]) ?_;refine d1 5 rfl (zS (M0:=[zb b1 [v2,I t74] 131]) Tryz.call52 (by intro w m h;exact rf (fun _ _=>(zJ zN zW)) (zy (F:=zZ [zb b1 [v2,I t74] 131] w) (r_0_b:=r_0_b) (r_0_p:=t74) (n_1:=256) zn m.given (m.qM 2 hv2) h)) ?_);rintro ⟨r80,r81⟩ _;exact rd [2,3] [0,1,2,3] (H52 r80 r81)
     have H54 (r82 r83:Int):NN 5 #[Y,Y,Y,Z,Y,Y,Z,Z,Z,Z] [(21,I top_1),(26,I r82),(23,I r8)] [zb b1 [v2,I r83] 131,zb b10 [I r8,I 0] 89] (k79 (r83,min top_1 (w64 ((w64 (r8 * 256))+r82)))):=by
      refine zeF (dp 3 [2,3]) ?_;refine UN (dp 6 [2,3]) ?_;refine YO (dp 7 [2,3]) ?_;refine zu (dp 8 [2,3]) xf ?_;refine d1 9 rfl (zX (cs':=[I (min top_1 (w64 ((w64 (r8 * 256))+r82))),I 0]) 1 ty3 ?_);exact rd [2,3] [0,1,2,3] (H51 r82 r83)
     have H55 (r82 r83:Int):NN 6 #[Y,Y,Z,Z,Y,Y,Z,Z,Z,Z] [(21,I top_1),(22,pp b10),(26,I r82)] [zb b1 [v2,I r83] 131,zb b10 [I r8,I 0] 89] (k79 (r83,min top_1 (w64 ((w64 (r8 * 256))+r82)))):=by
      refine d1 2 rfl (zp xA (v:=(I r8)) 1 ty3 ?_);exact rd [2,3] [0,1,2,3] (H54 r82 r83)
     refine zw (dp 0 [2,3]) ?_;refine zu (dp 1 [2,3]) xf ?_;refine zw (dp 4 [2,3]) ?_;refine ur (i:=2) (j:=5) rfl rfl (by kernel_rfl) ?_ ?_
     ·intro o ho;cases ho;refine zp xA (v:=(I r8)) 1 ty3 ?_;exact rd [2,3] [0,1,2,3] (H53 ())
     ·intro o ho;cases ho;refine zS (vs:=[pp b1,I 256]) (M0:=[zb b1 [v2,I t74] 131]) Tryz.call52 (by intro w m h;exact rf (fun _ _=>(zJ zN zW)) (zy (F:=zZ [zb b1 [v2,I t74] 131] w) (r_0_b:=r_0_b) (r_0_p:=t74) (n_1:=256) zn m.given (m.qM 2 hv2) h)) ?_;rintro ⟨r82,r83⟩ _;exact rd [2,3] [0,1,2,3] (H55 r82 r83)
    ·rintro ⟨t77,t78⟩;refine nxj ?_;exact lj [0,1,2,3]
   ·refine jA ?_;exact lj [0,1,2,3]
 ·rintro ⟨t144,t145⟩;refine nxj ?_;refine zU (σ:=(Int×Int)) (fun (t147,t148)=>JJ [(0,pp b1),(1,I top_1),(2,I n_2),(6,pp b5),(7,pp b10)] [zb b1 [v2,I t147] 131,zb b10 [I t145,I t148] 89,zb b5 [I 0,I 0] 89,zi w0 F]) ?_ ?_
  ·intro k149;refine Zm mixed 16 rfl [zb b5 [I 0,I 0] 89,zi w0 F] ?_;intro Qd hP hQ;let NN:=fun i l E L=>Nn 68 [zb b1 [v2,I r_0_p] 131] F w0 Tryz.prog (Yw Tryz.f195 [1,1,1,0]) Qd [zb b5 [I 0,I 0] 89,zi w0 F] i l ([(0,pp b1),(1,I top_1),(2,I n_2),(6,pp b5),(7,pp b10)]++E) (L++[zb b5 [I 0,I 0] 89,zi w0 F]);have H57 (r150 r151 r152 r153:Int) (v154:Value) (r155 r156 e157:Int) (h158:([0,r150,r152,4096])[(r155).toNat]?=some e157):NN 0 #[Y,Y,Y,Y,Y,Y,Y,Y,Y,Y,Y,Y,Y,Y,Y,Y] [] [zb b1 [v2,I r156] 131,zb b10 [I t145,I (min top_1 (w64 (t145+e157)))] 89] (k149 (r156,min top_1 (w64 (t145+e157)))):=by
    exact dj hQ [0,1,2,3]
   have H58 (r150 r151 r152 r153:Int) (v154:Value) (r155 r156 e157:Int) (h158:([0,r150,r152,4096])[(r155).toNat]?=some e157):NN 4 #[Y,Y,Y,Y,Y,Y,Y,Y,Y,Y,Y,Y,Z,Z,Z,Z] [(30,I top_1),(32,I t145),(41,I e157)] [zb b1 [v2,I r156] 131,zb b10 [I t145,I 0] 89] (k149 (r156,min top_1 (w64 (t145+e157)))):=by
    refine UN (dp 12 [2,3]) ?_;refine YO (dp 13 [2,3]) ?_;refine zu (dp 14 [2,3]) jJ ?_;refine d1 15 rfl (zX (cs':=[I t145,I (min top_1 (w64 (t145+e157)))]) 1 ty3 ?_);exact rd [2,3] [0,1,2,3] (H57 r150 r151 r152 r153 v154 r155 r156 e157 h158)
   have H59 (r150 r151 r152 r153:Int) (v154:Value) (r155 r156 e157:Int) (h158:([0,r150,r152,4096])[(r155).toNat]?=some e157):NN 5 #[Y,Y,Y,Y,Y,Y,Y,Y,Y,Y,Y,Z,Z,Z,Z,Z] [(30,I top_1),(32,I t145),(40,pEl v154 r155 1 0)] [zb b1 [v2,I r156] 131,zg xW 3 v154 ([0,r150,r152,4096]),zb b10 [I t145,I 0] 89] (k149 (r156,min top_1 (w64 (t145+e157)))):=by
    refine d1 11 rfl (jh xA (enc:=uN) (u:=(I e157)) 1 zh xh h158 ty3 ?_);exact rd [3,4] [0,2,3,4] (H58 r150 r151 r152 r153 v154 r155 r156 e157 h158)
   have H60 (r150 r151 r152 r153:Int) (v154:Value) (r155 r156:Int):NN 6 #[Y,Y,Y,Y,Y,Y,Y,Y,Y,Y,Z,Z,Z,Z,Z,Z] [(30,I top_1),(32,I t145),(37,v154),(39,I r155)] [zb b1 [v2,I r156] 131,zg xW 3 v154 ([0,r150,r152,4096]),zb b10 [I t145,I 0] 89] (zF ([0,r150,r152,4096]) r155 (fun e157=>k149 (r156,min top_1 (w64 (t145+e157))))):=by
    refine d1 10 rfl (zH xA 1 zh V8 ?_);intro e157 h158;exact rd [3,4] [0,1,2,3,4] (H59 r150 r151 r152 r153 v154 r155 r156 e157 h158)
   have H61 (r150 r151 r152 r153:Int) (v154:Value):NN 7 #[Y,Y,Y,Y,Y,Y,Y,Y,Y,Z,Z,Z,Z,Z,Z,Z] [(30,I top_1),(38,pp b1),(32,I t145),(37,v154)] [zg xW 3 v154 ([0,r150,r152,4096]),zb b1 [v2,I r153] 131,zb b10 [I t145,I 0] 89] (zk r_0_b r153 4 (fun (r155,r156)=>zF ([0,r150,r152,4096]) r155 (fun e157=>k149 (r156,min top_1 (w64 (t145+e157)))))):=by
    refine pk' [1,0,2,3,4] ?_;refine d1 9 rfl (zS (M0:=[zb b1 [v2,I r153] 131]) Tryz.call52 (by intro w m h;exact rf (fun _ _=>(zJ zN zW)) (zy (F:=zZ [zb b1 [v2,I r153] 131] w) (r_0_b:=r_0_b) (r_0_p:=r153) (n_1:=4) zn m.given (m.qM 3 hv2) h)) ?_);rintro ⟨r155,r156⟩ _;exact rd [3,4] [0,1,2,3,4] (H60 r150 r151 r152 r153 v154 r155 r156)
   have H62 (r150 r151 r152 r153 r159 r160:Int):NN 7 #[Y,Y,Y,Y,Y,Y,Y,Z,Y,Y,Z,Z,Z,Z,Z,Z] [(30,I top_1),(32,I t145),(34,I r150),(36,I r152),(39,I r159)] [zb b1 [v2,I r160] 131,zb b10 [I t145,I 0] 89] (zF ([0,r150,r152,4096]) r159 (fun e157=>k149 (r160,min top_1 (w64 (t145+e157))))):=by
    refine d1 7 rfl (jG (enc:=uN) (qs:=[(0,I 0),(1,I r150),(2,I r152),(3,I 4096)]) (cells:=[I 0,I r150,I r152,I 4096]) ([0,r150,r152,4096]) xh (by intro ρ h;simp only [List.map_toArray,List.map_cons,List.map_nil,h (.const (I 0)) _ rfl,h (.tmp 34) _ rfl,h (.tmp 36) _ rfl,h (.const (I 4096)) _ rfl]) V8 zbG ?_);intro v161;exact rd [3,4] [1,0,2,3,4] (H60 r150 r151 r152 r153 v161 r159 r160)
   have H63 (r150 r151 r152 r153:Int):NN 8 #[Y,Y,Y,Y,Y,Y,Y,Z,Y,Z,Z,Z,Z,Z,Z,Z] [(30,I top_1),(38,pp b1),(32,I t145),(34,I r150),(36,I r152)] [zb b1 [v2,I r153] 131,zb b10 [I t145,I 0] 89] (zk r_0_b r153 4 (fun (r155,r156)=>zF ([0,r150,r152,4096]) r155 (fun e157=>k149 (r156,min top_1 (w64 (t145+e157)))))):=by
    refine ur (i:=7) (j:=9) rfl rfl (by kernel_rfl) ?_ ?_
    ·intro o ho;cases ho;refine jG (enc:=uN) (qs:=[(0,I 0),(1,I r150),(2,I r152),(3,I 4096)]) (cells:=[I 0,I r150,I r152,I 4096]) ([0,r150,r152,4096]) xh (by intro ρ h;simp only [List.map_toArray,List.map_cons,List.map_nil,h (.const (I 0)) _ rfl,h (.tmp 34) _ rfl,h (.tmp 36) _ rfl,h (.const (I 4096)) _ rfl]) V8 zbG ?_;intro v154;exact rd [3,4] [0,1,2,3,4] (H61 r150 r151 r152 r153 v154)
    ·intro o ho;cases ho;refine zS (vs:=[pp b1,I 4]) (M0:=[zb b1 [v2,I r153] 131]) Tryz.call52 (by intro w m h;exact rf (fun _ _=>(zJ zN zW)) (zy (F:=zZ [zb b1 [v2,I r153] 131] w) (r_0_b:=r_0_b) (r_0_p:=r153) (n_1:=4) zn m.given (m.qM 2 hv2) h)) ?_;rintro ⟨r159,r160⟩ _;exact rd [2,3] [0,1,2,3] (H62 r150 r151 r152 r153 r159 r160)
   have H64 (r150 r151:Int):NN 9 #[Y,Y,Y,Y,Y,Y,Z,Z,Y,Z,Z,Z,Z,Z,Z,Z] [(30,I top_1),(35,pp b1),(38,pp b1),(32,I t145),(34,I r150)] [zb b1 [v2,I r151] 131,zb b10 [I t145,I 0] 89] (zk r_0_b r151 256 (fun (r152,r153)=>zk r_0_b r153 4 (fun (r155,r156)=>zF ([0,r150,r152,4096]) r155 (fun e157=>k149 (r156,min top_1 (w64 (t145+e157))))))):=by
    refine d1 6 rfl (zS (M0:=[zb b1 [v2,I r151] 131]) Tryz.call52 (by intro w m h;exact rf (fun _ _=>(zJ zN zW)) (zy (F:=zZ [zb b1 [v2,I r151] 131] w) (r_0_b:=r_0_b) (r_0_p:=r151) (n_1:=256) zn m.given (m.qM 2 hv2) h)) ?_);rintro ⟨r152,r153⟩ _;exact rd [2,3] [0,1,2,3] (H63 r150 r151 r152 r153)
   have H65 (_:Unit):NN 10 #[Y,Y,Y,Y,Z,Y,Z,Z,Y,Z,Z,Z,Z,Z,Z,Z] [(30,I top_1),(33,pp b1),(35,pp b1),(38,pp b1),(32,I t145)] [zb b1 [v2,I t144] 131,zb b10 [I t145,I 0] 89] (zk r_0_b t144 4 (fun (r150,r151)=>zk r_0_b r151 256 (fun (r152,r153)=>zk r_0_b r153 4 (fun (r155,r156)=>zF ([0,r150,r152,4096]) r155 (fun e157=>k149 (r156,min top_1 (w64 (t145+e157)))))))):=by
    refine d1 4 rfl (zS (M0:=[zb b1 [v2,I t144] 131]) Tryz.call52 (by intro w m h;exact rf (fun _ _=>(zJ zN zW)) (zy (F:=zZ [zb b1 [v2,I t144] 131] w) (r_0_b:=r_0_b) (r_0_p:=t144) (n_1:=4) zn m.given (m.qM 2 hv2) h)) ?_);rintro ⟨r150,r151⟩ _;exact rd [2,3] [0,1,2,3] (H64 r150 r151)
   have H66 (r162 r163 r164 r165:Int) (v166:Value) (r167 r168 e169:Int) (h170:([0,r162,r164,4096])[(r167).toNat]?=some e169):NN 5 #[Y,Y,Z,Y,Y,Y,Y,Y,Y,Y,Y,Y,Z,Z,Z,Z] [(30,I top_1),(31,pp b10),(41,I e169)] [zb b1 [v2,I r168] 131,zb b10 [I t145,I 0] 89] (k149 (r168,min top_1 (w64 (t145+e169)))):=by
    refine d1 2 rfl (zp xA (v:=(I t145)) 1 ty3 ?_);exact rd [2,3] [0,1,2,3] (H58 r162 r163 r164 r165 v166 r167 r168 e169 h170)
   have H67 (r162 r163 r164 r165:Int) (v166:Value) (r167 r168 e169:Int) (h170:([0,r162,r164,4096])[(r167).toNat]?=some e169):NN 6 #[Y,Y,Z,Y,Y,Y,Y,Y,Y,Y,Y,Z,Z,Z,Z,Z] [(30,I top_1),(31,pp b10),(40,pEl v166 r167 1 0)] [zb b1 [v2,I r168] 131,zg xW 3 v166 ([0,r162,r164,4096]),zb b10 [I t145,I 0] 89] (k149 (r168,min top_1 (w64 (t145+e169)))):=by
    refine ur (i:=2) (j:=11) rfl rfl (by kernel_rfl) ?_ ?_
    ·intro o ho;cases ho;refine zp xA (v:=(I t145)) 2 ty3 ?_;exact rd [3,4] [0,1,2,3,4] (H59 r162 r163 r164 r165 v166 r167 r168 e169 h170)
    ·intro o ho;cases ho;refine jh xA (enc:=uN) (u:=(I e169)) 1 zh xh h170 ty3 ?_;exact rd [3,4] [0,2,3,4] (H66 r162 r163 r164 r165 v166 r167 r168 e169 h170)
   have H68 (r162 r163 r164 r165:Int) (v166:Value) (r167 r168:Int):NN 7 #[Y,Y,Z,Y,Y,Y,Y,Y,Y,Y,Z,Z,Z,Z,Z,Z] [(30,I top_1),(31,pp b10),(37,v166),(39,I r167)] [zb b1 [v2,I r168] 131,zg xW 3 v166 ([0,r162,r164,4096]),zb b10 [I t145,I 0] 89] (zF ([0,r162,r164,4096]) r167 (fun e157=>k149 (r168,min top_1 (w64 (t145+e157))))):=by
    refine ur (i:=2) (j:=10) rfl rfl (by kernel_rfl) ?_ ?_
    ·intro o ho;cases ho;refine zp xA (v:=(I t145)) 2 ty3 ?_;exact rd [3,4] [0,1,2,3,4] (H60 r162 r163 r164 r165 v166 r167 r168)
    ·intro o ho;cases ho;refine zH xA 1 zh V8 ?_;intro e169 h170;exact rd [3,4] [0,1,2,3,4] (H67 r162 r163 r164 r165 v166 r167 r168 e169 h170)
   have H69 (r162 r163 r164 r165:Int) (v166:Value):NN 8 #[Y,Y,Z,Y,Y,Y,Y,Y,Y,Z,Z,Z,Z,Z,Z,Z] [(30,I top_1),(31,pp b10),(38,pp b1),(37,v166)] [zg xW 3 v166 ([0,r162,r164,4096]),zb b1 [v2,I r165] 131,zb b10 [I t145,I 0] 89] (zk r_0_b r165 4 (fun (r155,r156)=>zF ([0,r162,r164,4096]) r155 (fun e157=>k149 (r156,min top_1 (w64 (t145+e157)))))):=by
    refine ur (i:=2) (j:=9) rfl rfl (by kernel_rfl) ?_ ?_
    ·intro o ho;cases ho;refine zp xA (v:=(I t145)) 2 ty3 ?_;exact rd [3,4] [0,1,2,3,4] (H61 r162 r163 r164 r165 v166)
    ·intro o ho;cases ho;refine pk' [1,0,2,3,4] ?_;refine zS (vs:=[pp b1,I 4]) (M0:=[zb b1 [v2,I r165] 131]) Tryz.call52 (by intro w m h;exact rf (fun _ _=>(zJ zN zW)) (zy (F:=zZ [zb b1 [v2,I r165] 131] w) (r_0_b:=r_0_b) (r_0_p:=r165) (n_1:=4) zn m.given (m.qM 3 hv2) h)) ?_;rintro ⟨r167,r168⟩ _;exact rd [3,4] [0,1,2,3,4] (H68 r162 r163 r164 r165 v166 r167 r168)
   have H70 (r162 r163 r164 r165 r171 r172:Int):NN 8 #[Y,Y,Z,Y,Y,Y,Y,Z,Y,Y,Z,Z,Z,Z,Z,Z] [(30,I top_1),(31,pp b10),(34,I r162),(36,I r164),(39,I r171)] [zb b1 [v2,I r172] 131,zb b10 [I t145,I 0] 89] (zF ([0,r162,r164,4096]) r171 (fun e157=>k149 (r172,min top_1 (w64 (t145+e157))))):=by
    refine ur (i:=2) (j:=7) rfl rfl (by kernel_rfl) ?_ ?_
    ·intro o ho;cases ho;refine zp xA (v:=(I t145)) 1 ty3 ?_;exact rd [2,3] [0,1,2,3] (H62 r162 r163 r164 r165 r171 r172)
    ·intro o ho;cases ho;refine jG (enc:=uN) (qs:=[(0,I 0),(1,I r162),(2,I r164),(3,I 4096)]) (cells:=[I 0,I r162,I r164,I 4096]) ([0,r162,r164,4096]) xh (by intro ρ h;simp only [List.map_toArray,List.map_cons,List.map_nil,h (.const (I 0)) _ rfl,h (.tmp 34) _ rfl,h (.tmp 36) _ rfl,h (.const (I 4096)) _ rfl]) V8 zbG ?_;intro v173;exact rd [3,4] [1,0,2,3,4] (H68 r162 r163 r164 r165 v173 r171 r172)
   have H71 (r162 r163 r164 r165:Int):NN 9 #[Y,Y,Z,Y,Y,Y,Y,Z,Y,Z,Z,Z,Z,Z,Z,Z] [(30,I top_1),(31,pp b10),(38,pp b1),(34,I r162),(36,I r164)] [zb b1 [v2,I r165] 131,zb b10 [I t145,I 0] 89] (zk r_0_b r165 4 (fun (r155,r156)=>zF ([0,r162,r164,4096]) r155 (fun e157=>k149 (r156,min top_1 (w64 (t145+e157)))))):=by
    refine VL (i:=2) (j:=7) (l:=9) rfl rfl rfl (by kernel_rfl) ?_ ?_ ?_
    ·intro o ho;cases ho;refine zp xA (v:=(I t145)) 1 ty3 ?_;exact rd [2,3] [0,1,2,3] (H63 r162 r163 r164 r165)
    ·intro o ho;cases ho;refine jG (enc:=uN) (qs:=[(0,I 0),(1,I r162),(2,I r164),(3,I 4096)]) (cells:=[I 0,I r162,I r164,I 4096]) ([0,r162,r164,4096]) xh (by intro ρ h;simp only [List.map_toArray,List.map_cons,List.map_nil,h (.const (I 0)) _ rfl,h (.tmp 34) _ rfl,h (.tmp 36) _ rfl,h (.const (I 4096)) _ rfl]) V8 zbG ?_;intro v166;exact rd [3,4] [0,1,2,3,4] (H69 r162 r163 r164 r165 v166)
    ·intro o ho;cases ho;refine zS (vs:=[pp b1,I 4]) (M0:=[zb b1 [v2,I r165] 131]) Tryz.call52 (by intro w m h;exact rf (fun _ _=>(zJ zN zW)) (zy (F:=zZ [zb b1 [v2,I r165] 131] w) (r_0_b:=r_0_b) (r_0_p:=r165) (n_1:=4) zn m.given (m.qM 2 hv2) h)) ?_;rintro ⟨r171,r172⟩ _;exact rd [2,3] [0,1,2,3] (H70 r162 r163 r164 r165 r171 r172)
   have H72 (r162 r163:Int):NN 10 #[Y,Y,Z,Y,Y,Y,Z,Z,Y,Z,Z,Z,Z,Z,Z,Z] [(30,I top_1),(31,pp b10),(35,pp b1),(38,pp b1),(34,I r162)] [zb b1 [v2,I r163] 131,zb b10 [I t145,I 0] 89] (zk r_0_b r163 256 (fun (r152,r153)=>zk r_0_b r153 4 (fun (r155,r156)=>zF ([0,r162,r152,4096]) r155 (fun e157=>k149 (r156,min top_1 (w64 (t145+e157))))))):=by
    refine ur (i:=2) (j:=6) rfl rfl (by kernel_rfl) ?_ ?_
    ·intro o ho;cases ho;refine zp xA (v:=(I t145)) 1 ty3 ?_;exact rd [2,3] [0,1,2,3] (H64 r162 r163)
    ·intro o ho;cases ho;refine zS (vs:=[pp b1,I 256]) (M0:=[zb b1 [v2,I r163] 131]) Tryz.call52 (by intro w m h;exact rf (fun _ _=>(zJ zN zW)) (zy (F:=zZ [zb b1 [v2,I r163] 131] w) (r_0_b:=r_0_b) (r_0_p:=r163) (n_1:=256) zn m.given (m.qM 2 hv2) h)) ?_;rintro ⟨r164,r165⟩ _;exact rd [2,3] [0,1,2,3] (H71 r162 r163 r164 r165)
   refine zw (dp 0 [2,3]) ?_;refine zu (dp 1 [2,3]) xf ?_;refine zw (dp 3 [2,3]) ?_;refine zw (dp 5 [2,3]) ?_;refine zw (dp 8 [2,3]) ?_;refine ur (i:=2) (j:=4) rfl rfl (by kernel_rfl) ?_ ?_
   ·intro o ho;cases ho;refine zp xA (v:=(I t145)) 1 ty3 ?_;exact rd [2,3] [0,1,2,3] (H65 ())
   ·intro o ho;cases ho;refine zS (vs:=[pp b1,I 4]) (M0:=[zb b1 [v2,I t144] 131]) Tryz.call52 (by intro w m h;exact rf (fun _ _=>(zJ zN zW)) (zy (F:=zZ [zb b1 [v2,I t144] 131] w) (r_0_b:=r_0_b) (r_0_p:=t144) (n_1:=4) zn m.given (m.qM 2 hv2) h)) ?_;rintro ⟨r162,r163⟩ _;exact rd [2,3] [0,1,2,3] (H72 r162 r163)
  ·rintro ⟨t147,t148⟩;refine nxj ?_;refine y10 ?_;refine mv ?_;refine mv ?_;refine stw (zS (M0:=[zb b1 [v2,I t147] 131]) Tryz.call97 (by intro w m h;exact rf (fun _ _=>(zJ zN zW)) (uL (F:=zZ [zb b1 [v2,I t147] 131] w) (r_0_b:=r_0_b) (r_0_p:=t147) (n_1:=n_2) zn m.given (m.qM 2 hv2) h)) ?_);rintro ⟨r174,r175⟩ _;refine y1 ?_;refine zj ?_ ?_
   ·refine zU (σ:=(Int×Int×Int)) (fun (t176,t177,t178)=>JJ [(6,pp b5)] [zb b1 [v2,I t176] 131,zb b5 [I t177,I t178] 89,zi w0 F]) ?_ ?_
    ·intro k179;refine Zm mixed 20 rfl [zb b10 [I t145,I t148] 89,zi w0 F] ?_;intro Qd hP hQ;let NN:=fun i l E L=>Nn 68 [zb b1 [v2,I r_0_p] 131] F w0 Tryz.prog (Yw Tryz.f195 [1,1,1,1,0,1,0,0]) Qd [zb b10 [I t145,I t148] 89,zi w0 F] i l ([(6,pp b5)]++E) (L++[zi w0 F]);have H81 (v180:Value) (r181 r182:Int) (e183:zd) (h184:([zd.mk (w64 (t148+1)) t148,zd.mk (-1) t148,zd.mk t145 (w64 (top_1+1))])[(r181).toNat]?=some e183):NN 0 #[Y,Y,Y,Y,Y,Y,Y,Y,Y,Y,Y,Y,Y,Y,Y,Y,Y,Y,Y,Y] [] [zb b1 [v2,I r182] 131,zb b10 [I t145,I t148] 89,zb b5 [I e183.xLo,I e183.xHi] 89] (k179 (r182,e183.xLo,e183.xHi)):=by
      exact dj hQ [0,2,3]
     have H82 (v180:Value) (r181 r182:Int) (e183:zd) (h184:([zd.mk (w64 (t148+1)) t148,zd.mk (-1) t148,zd.mk t145 (w64 (top_1+1))])[(r181).toNat]?=some e183):NN 1 #[Y,Y,Y,Y,Y,Y,Y,Y,Y,Y,Y,Y,Y,Y,Y,Y,Y,Y,Y,Z] [(66,.agg #[I e183.xLo,I e183.xHi])] [zb b1 [v2,I r182] 131,zb b10 [I t145,I t148] 89,zb b5 [I 0,I 0] 89] (k179 (r182,e183.xLo,e183.xHi)):=by
      refine d1 19 rfl (zX (cs':=[I e183.xLo,I e183.xHi]) 2 XO ?_);exact rd [1,3] [0,1,2,3] (H81 v180 r181 r182 e183 h184)
     have H83 (v180:Value) (r181 r182:Int) (e183:zd) (h184:([zd.mk (w64 (t148+1)) t148,zd.mk (-1) t148,zd.mk t145 (w64 (top_1+1))])[(r181).toNat]?=some e183):NN 2 #[Y,Y,Y,Y,Y,Y,Y,Y,Y,Y,Y,Y,Y,Y,Y,Y,Y,Y,Z,Z] [(65,pEl v180 r181 2 0)] [zb b1 [v2,I r182] 131,zg ze 89 v180 ([zd.mk (w64 (t148+1)) t148,zd.mk (-1) t148,zd.mk t145 (w64 (top_1+1))]),zb b10 [I t145,I t148] 89,zb b5 [I 0,I 0] 89] (k179 (r182,e183.xLo,e183.xHi)):=by
      refine d1 18 rfl (jh xA (enc:=zE) (u:=(.agg #[I e183.xLo,I e183.xHi])) 1 zh zl h184 XO ?_);exact rd [2,4] [0,2,3,4] (H82 v180 r181 r182 e183 h184)
     have H84 (v180:Value) (r181 r182:Int):NN 3 #[Y,Y,Y,Y,Y,Y,Y,Y,Y,Y,Y,Y,Y,Y,Y,Y,Y,Z,Z,Z] [(62,v180),(64,I r181)] [zb b1 [v2,I r182] 131,zg ze 89 v180 ([zd.mk (w64 (t148+1)) t148,zd.mk (-1) t148,zd.mk t145 (w64 (top_1+1))]),zb b10 [I t145,I t148] 89,zb b5 [I 0,I 0] 89] (zF ([zd.mk (w64 (t148+1)) t148,zd.mk (-1) t148,zd.mk t145 (w64 (top_1+1))]) r181 (fun e183=>k179 (r182,e183.xLo,e183.xHi))):=by
      refine d1 17 rfl (zH xA 1 zh jk ?_);intro e183 h184;exact rd [2,4] [0,1,2,3,4] (H83 v180 r181 r182 e183 h184)
     have H85 (v180:Value):NN 4 #[Y,Y,Y,Y,Y,Y,Y,Y,Y,Y,Y,Y,Y,Y,Y,Y,Z,Z,Z,Z] [(63,pp b1),(62,v180)] [zg ze 89 v180 ([zd.mk (w64 (t148+1)) t148,zd.mk (-1) t148,zd.mk t145 (w64 (top_1+1))]),zb b1 [v2,I r175] 131,zb b10 [I t145,I t148] 89,zb b5 [I 0,I 0] 89] (zk r_0_b r175 3 (fun (r181,r182)=>zF ([zd.mk (w64 (t148+1)) t148,zd.mk (-1) t148,zd.mk t145 (w64 (top_1+1))]) r181 (fun e183=>k179 (r182,e183.xLo,e183.xHi)))):=by
      refine pk' [1,0,2,3,4] ?_;refine d1 16 rfl (zS (M0:=[zb b1 [v2,I r175] 131]) Tryz.call52 (by intro w m h;exact rf (fun _ _=>(zJ zN zW)) (zy (F:=zZ [zb b1 [v2,I r175] 131] w) (r_0_b:=r_0_b) (r_0_p:=r175) (n_1:=3) zn m.given (m.qM 3 hv2) h)) ?_);rintro ⟨r181,r182⟩ _;exact rd [2,4] [0,1,2,3,4] (H84 v180 r181 r182)
     have H86 (r185 r186:Int):NN 4 #[Y,Y,Y,Y,Y,Y,Y,Y,Y,Y,Y,Y,Y,Y,Z,Y,Y,Z,Z,Z] [(53,.agg #[I (w64 (t148+1)),I t148]),(56,.agg #[I (-1),I t148]),(61,.agg #[I t145,I (w64 (top_1+1))]),(64,I r185)] [zb b1 [v2,I r186] 131,zb b10 [I t145,I t148] 89,zb b5 [I 0,I 0] 89] (zF ([zd.mk (w64 (t148+1)) t148,zd.mk (-1) t148,zd.mk t145 (w64 (top_1+1))]) r185 (fun e183=>k179 (r186,e183.xLo,e183.xHi))):=by
      refine d1 14 rfl (jG (enc:=zE) (qs:=[(0,.agg #[I (w64 (t148+1)),I t148]),(1,.agg #[I (-1),I t148]),(2,.agg #[I t145,I (w64 (top_1+1))])]) (cells:=[I (w64 (t148+1)),I t148,I (-1),I t148,I t145,I (w64 (top_1+1))]) ([zd.mk (w64 (t148+1)) t148,zd.mk (-1) t148,zd.mk t145 (w64 (top_1+1))]) zl (by intro ρ h;simp only [List.map_toArray,List.map_cons,List.map_nil,h (.tmp 53) _ rfl,h (.tmp 56) _ rfl,h (.tmp 61) _ rfl]) jk jv ?_);intro v187;exact rd [2,4] [1,0,2,3,4] (H84 v187 r185 r186)
     refine zu (dp 0 [1,3]) jJ ?_;refine zp (dp 1 [1,3]) (v:=(I t148)) 0 ty3 ?_;refine UN (dp 2 [1,3]) ?_;refine zu (dp 3 [1,3]) jJ ?_;refine zp (dp 4 [1,3]) (v:=(I t148)) 0 ty3 ?_;refine jn (dp 5 [1,3]) (qs:=[(0,I (w64 (t148+1))),(1,I t148)]) (cells:=[I (w64 (t148+1)),I t148]) (bqi rfl) uD ?_;refine zu (dp 6 [1,3]) jJ ?_;refine zp (dp 7 [1,3]) (v:=(I t148)) 0 ty3 ?_;refine jn (dp 8 [1,3]) (qs:=[(0,I (-1)),(1,I t148)]) (cells:=[I (-1),I t148]) (bqi rfl) uD ?_;refine zu (dp 9 [1,3]) xf ?_;refine zp (dp 10 [1,3]) (v:=(I t145)) 0 ty3 ?_;refine zw (dp 11 [1,3]) ?_;refine UN (dp 12 [1,3]) ?_;refine jn (dp 13 [1,3]) (qs:=[(0,I t145),(1,I (w64 (top_1+1)))]) (cells:=[I t145,I (w64 (top_1+1))]) (bqi rfl) uD ?_;refine zw (dp 15 [1,3]) ?_;refine ur (i:=14) (j:=16) rfl rfl (by kernel_rfl) ?_ ?_
     ·intro o ho;cases ho;refine jG (enc:=zE) (qs:=[(0,.agg #[I (w64 (t148+1)),I t148]),(1,.agg #[I (-1),I t148]),(2,.agg #[I t145,I (w64 (top_1+1))])]) (cells:=[I (w64 (t148+1)),I t148,I (-1),I t148,I t145,I (w64 (top_1+1))]) ([zd.mk (w64 (t148+1)) t148,zd.mk (-1) t148,zd.mk t145 (w64 (top_1+1))]) zl (by intro ρ h;simp only [List.map_toArray,List.map_cons,List.map_nil,h (.tmp 53) _ rfl,h (.tmp 56) _ rfl,h (.tmp 61) _ rfl]) jk jv ?_;intro v180;exact rd [2,4] [0,1,2,3,4] (H85 v180)
     ·intro o ho;cases ho;refine zS (vs:=[pp b1,I 3]) (M0:=[zb b1 [v2,I r175] 131]) Tryz.call52 (by intro w m h;exact rf (fun _ _=>(zJ zN zW)) (zy (F:=zZ [zb b1 [v2,I r175] 131] w) (r_0_b:=r_0_b) (r_0_p:=r175) (n_1:=3) zn m.given (m.qM 2 hv2) h)) ?_;rintro ⟨r185,r186⟩ _;exact rd [1,3] [0,1,2,3] (H86 r185 r186)
    ·rintro ⟨t176,t177,t178⟩;refine nxj ?_;refine ui (jZ ?_);exact js Tryz.results195 (zd.mk t177 t178,t176) () (Zd 1 rfl rfl XO rfl) (fun w m=>zP.ofB m [0] rfl)
   ·refine y8 ?_;refine zp st (v:=(.agg #[I t145,I t148])) 1 XO ?_;refine stw (zX (cs':=[I t145,I t148]) 2 XO ?_);refine y3 ?_;exact js Tryz.results195 (zd.mk t145 t148,r175) () (Zd 2 rfl rfl XO rfl) (fun w m=>zP.ofB m [0] rfl)
theorem Ul {w0:World} {F:Nat→Prop} {b1:Nat} {v2:Value} {r_0_b:(List UInt8)} {r_0_p n_1:Int} {κ:(zI×Int)→Prop} (hF:Fr [zb b1 [v2,(I r_0_p)] 131] F w0) (hg:xO [zb b1 [v2,(I r_0_p)] 131] F w0) (hv2:Sl YB F w0 v2 r_0_b) (h:Za r_0_b r_0_p n_1 κ) :
  Calls Tryz.prog 152 #[(pp b1),(I n_1)] w0 (Ret [zb b1 [v2,(I r_0_p)] 131] F w0 κ (fun r (u:Unit)=>(.agg #[(I r.1.xField),(I r.1.xLo),(I r.1.xHi),(.bool r.1.xNot)])) (fun r u=>[zb b1 [v2,(I r.2)] 131])):=by
 refine uS (args:=[pp b1,I n_1]) [zb b1 [v2,I r_0_p] 131] hF hg Tryz.func152 rfl Tryz.ntmps152 rfl h ?_;clear h hF hg;let JJ:=Jn 83 [zb b1 [v2,I r_0_p] 131] F w0;refine y0 ?_;refine stw (jg [I 0,I 0,I 0,.bool false] uA ?_);intro b5;refine y2 ?_;refine mv ?_;refine pk' [1,0,2] ?_;refine stw (zS (M0:=[zb b1 [v2,I r_0_p] 131]) Tryz.call52 (by intro w m h;exact rf (fun _ _=>(zJ zN zW)) (zy (F:=zZ [zb b1 [v2,I r_0_p] 131] w) (r_0_b:=r_0_b) (r_0_p:=r_0_p) (n_1:=4) zn m.given (m.qM 1 hv2) h)) ?_);rintro ⟨r7,r8⟩ _;refine mv ?_;refine stw (zS (M0:=[zb b1 [v2,I r8] 131]) Tryz.call52 (by intro w m h;exact rf (fun _ _=>(zJ zN zW)) (zy (F:=zZ [zb b1 [v2,I r8] 131] w) (r_0_b:=r_0_b) (r_0_p:=r8) (n_1:=4) zn m.given (m.qM 1 hv2) h)) ?_);rintro ⟨r9,r10⟩ _;refine jC st xS ?_;refine jn st (qs:=[(0,I r7),(3,.bool (decide (r9=0)))]) (cells:=[I r7,I 0,I 0,.bool (decide (r9=0))]) (bqi rfl) zbR ?_;refine stw (jg [I 0,I 0,I 0,.bool false] uA ?_);intro b11;refine stw (zX (cs':=[I r7,I 0,I 0,.bool (decide (r9=0))]) 0 X3 ?_);refine y2 ?_;refine zu st uY ?_;refine zp st (v:=(I r7)) 0 ty3 ?_;refine stw (zm Tryz.call119 (by intro w m h;exact rf0 (xQ (F:=zZ [] w) (n_0:=r7) zn h)) ?_);rintro r13 _;refine ma ?_;refine y2 ?_;refine mv ?_;refine mv ?_;refine pk' [1,0,2,3] ?_;refine stw (zS (M0:=[zb b1 [v2,I r10] 131]) Tryz.call195 (by intro w m h;exact rf (fun _ _=>(zJ zN zW)) (XY (F:=zZ [zb b1 [v2,I r10] 131] w) (r_0_b:=r_0_b) (r_0_p:=r10) (top_1:=r13) (n_2:=0) zn m.given (m.qM 2 hv2) h)) ?_);rintro ⟨r14,r15⟩ _;refine stw (jg [I 0,I 0] jv ?_);intro b16;refine stw (zX (cs':=[I r14.xLo,I r14.xHi]) 0 XO ?_);refine y1 ?_;refine zU (σ:=(Int×Int×Int)) (fun (t152,t153,t154)=>JJ [(0,pp b1),(1,I n_1),(4,pp b5),(5,pp b11),(6,I r13),(7,pp b16)] [zb b1 [v2,I t152] 131,zb b16 [I t153,I t154] 89,zb b11 [I r7,I 0,I 0,.bool (decide (r9=0))] 165,zb b5 [I 0,I 0,I 0,.bool false] 165,zi w0 F]) ?_ ?_
 ·intro k155;refine zU (σ:=(Int×Bool)) (fun (t80,t81)=>JJ [(0,pp b1),(1,I n_1),(4,pp b5),(5,pp b11),(6,I r13),(7,pp b16),(27,.bool t81)] [zb b1 [v2,I t80] 131,zb b16 [I r14.xLo,I r14.xHi] 89,zb b11 [I r7,I 0,I 0,.bool (decide (r9=0))] 165,zb b5 [I 0,I 0,I 0,.bool false] 165,zi w0 F]) ?_ ?_
  ·intro k82;refine zq ?_;refine zu st uY ?_;refine zp st (v:=(I r7)) 2 ty3 ?_;refine je st ?_;refine mv ?_;refine jW (dj:=23) rfl ?_ ?_
   ·refine zw (zR rfl rfl) ?_;refine pk' [1,0,2,3,4] ?_;refine XT rfl rfl (zS (M0:=[zb b1 [v2,I r15] 131]) Tryz.call52 (by intro w m h;exact rf (fun _ _=>(zJ zN zW)) (zy (F:=zZ [zb b1 [v2,I r15] 131] w) (r_0_b:=r_0_b) (r_0_p:=r15) (n_1:=2) zn m.given (m.qM 3 hv2) h)) ?_);rintro ⟨r18,r19⟩ _;refine jC (zR rfl rfl) xS ?_;refine zQ st ?_;refine zA ?_;exact lj [0,1,2,3,4]
   ·refine ss ?_;refine ss ?_;refine ss ?_;refine zM st ?_;refine zA ?_;exact lj [1,0,2,3,4]
  ·rintro ⟨t80,t81⟩;refine nxj ?_;refine zj ?_ ?_
   ·refine y0 ?_;refine mv ?_;refine stw (zS (M0:=[zb b1 [v2,I t80] 131]) Tryz.call52 (by intro w m h;exact rf (fun _ _=>(zJ zN zW)) (zy (F:=zZ [zb b1 [v2,I t80] 131] w) (r_0_b:=r_0_b) (r_0_p:=t80) (n_1:=20) zn m.given (m.qM 3 hv2) h)) ?_);rintro ⟨r83,r84⟩ _;refine jn st (qs:=[(0,I r83)]) (cells:=[I r83,I 0]) (bqi rfl) uD ?_;refine stw (zX (cs':=[I r83,I 0]) 1 XO ?_);refine y1 ?_;refine YQ (σ:=(Int×Int)) (fun (t85,t86)=>JJ [(0,pp b1),(1,I n_1),(4,pp b5),(5,pp b11),(6,I r13),(7,pp b16)] [zb b1 [v2,I t85] 131,zb b16 [I r83,I t86] 89,zb b11 [I r7,I 0,I 0,.bool (decide (r9=0))] 165,zb b5 [I 0,I 0,I 0,.bool false] 165,zi w0 F]) ?_ ?_
    ·intro k87;refine Zm mixed 7 rfl [zb b11 [I r7,I 0,I 0,.bool (decide (r9=0))] 165,zb b5 [I 0,I 0,I 0,.bool false] 165,zi w0 F] ?_;intro Qd hP hQ;let NN:=fun i l E L=>Nn 83 [zb b1 [v2,I r_0_p] 131] F w0 Tryz.prog (Yw Tryz.f152 [1,1,1,1,0,1,0,1]) Qd [zb b11 [I r7,I 0,I 0,.bool (decide (r9=0))] 165,zb b5 [I 0,I 0,I 0,.bool false] 165,zi w0 F] i l ([(0,pp b1),(1,I n_1),(4,pp b5),(5,pp b11),(6,I r13),(7,pp b16)]++E) (L++[zb b11 [I r7,I 0,I 0,.bool (decide (r9=0))] 165,zb b5 [I 0,I 0,I 0,.bool false] 165,zi w0 F]);have H139 (r88 r89:Int):NN 0 #[Y,Y,Y,Y,Y,Y,Y] [] [zb b1 [v2,I r89] 131,zb b16 [I r83,I (w64 (r83+r88))] 89] (k87 (r89,w64 (r83+r88))):=by
      exact dj hQ [0,1,2,3,4]
     have H140 (r88 r89:Int):NN 3 #[Y,Y,Y,Y,Z,Z,Z] [(32,I r83),(34,I r88)] [zb b1 [v2,I r89] 131,zb b16 [I r83,I 0] 89] (k87 (r89,w64 (r83+r88))):=by
      refine UN (dp 4 [2,3,4]) ?_;refine zu (dp 5 [2,3,4]) jJ ?_;refine d1 6 rfl (zX (cs':=[I r83,I (w64 (r83+r88))]) 1 ty3 ?_);exact rd [2,3,4] [0,1,2,3,4] (H139 r88 r89)
     have H141 (_:Unit):NN 4 #[Y,Y,Y,Z,Z,Z,Z] [(33,pp b1),(32,I r83)] [zb b1 [v2,I r84] 131,zb b16 [I r83,I 0] 89] (zk r_0_b r84 8 (fun (r88,r89)=>k87 (r89,w64 (r83+r88)))):=by
      refine d1 3 rfl (zS (M0:=[zb b1 [v2,I r84] 131]) Tryz.call52 (by intro w m h;exact rf (fun _ _=>(zJ zN zW)) (zy (F:=zZ [zb b1 [v2,I r84] 131] w) (r_0_b:=r_0_b) (r_0_p:=r84) (n_1:=8) zn m.given (m.qM 3 hv2) h)) ?_);rintro ⟨r88,r89⟩ _;exact rd [2,3,4] [0,1,2,3,4] (H140 r88 r89)
     have H142 (r90 r91:Int):NN 4 #[Y,Z,Y,Y,Z,Z,Z] [(31,pp b16),(34,I r90)] [zb b1 [v2,I r91] 131,zb b16 [I r83,I 0] 89] (k87 (r91,w64 (r83+r90))):=by
      refine d1 1 rfl (zp xA (v:=(I r83)) 1 ty3 ?_);exact rd [2,3,4] [0,1,2,3,4] (H140 r90 r91)
     refine zu (dp 0 [2,3,4]) xf ?_;refine zw (dp 2 [2,3,4]) ?_;refine ur (i:=1) (j:=3) rfl rfl (by kernel_rfl) ?_ ?_
     ·intro o ho;cases ho;refine zp xA (v:=(I r83)) 1 ty3 ?_;exact rd [2,3,4] [0,1,2,3,4] (H141 ())
     ·intro o ho;cases ho;refine zS (vs:=[pp b1,I 8]) (M0:=[zb b1 [v2,I r84] 131]) Tryz.call52 (by intro w m h;exact rf (fun _ _=>(zJ zN zW)) (zy (F:=zZ [zb b1 [v2,I r84] 131] w) (r_0_b:=r_0_b) (r_0_p:=r84) (n_1:=8) zn m.given (m.qM 3 hv2) h)) ?_;rintro ⟨r90,r91⟩ _;exact rd [2,3,4] [0,1,2,3,4] (H142 r90 r91)
    ·rintro ⟨t85,t86⟩;refine nxj ?_;exact lj [0,1,2,3,4]
   ·refine jA ?_;exact lj [0,1,2,3,4]
 ·rintro ⟨t152,t153,t154⟩;refine nxj ?_;refine zU (σ:=(Int×Int×Int)) (fun (t241,t242,t243)=>JJ [(0,pp b1),(1,I n_1),(4,pp b5),(5,pp b11),(6,I r13),(7,pp b16)] [zb b1 [v2,I t241] 131,zb b16 [I t242,I t243] 89,zb b11 [I r7,I 0,I 0,.bool (decide (r9=0))] 165,zb b5 [I 0,I 0,I 0,.bool false] 165,zi w0 F]) ?_ ?_
  ·intro k244;refine y0 ?_;refine mv ?_;refine stw (zS (M0:=[zb b1 [v2,I t152] 131]) Tryz.call52 (by intro w m h;exact rf (fun _ _=>(zJ zN zW)) (zy (F:=zZ [zb b1 [v2,I t152] 131] w) (r_0_b:=r_0_b) (r_0_p:=t152) (n_1:=8) zn m.given (m.qM 3 hv2) h)) ?_);rintro ⟨r156,r157⟩ _;refine jC st xS ?_;refine y1 ?_;refine zj ?_ ?_
   ·refine YQ (σ:=(Int×Int×Int)) (fun (t158,t159,t160)=>JJ [(0,pp b1),(1,I n_1),(4,pp b5),(5,pp b11),(6,I r13),(7,pp b16)] [zb b1 [v2,I t158] 131,zb b16 [I t159,I t160] 89,zb b11 [I r7,I 0,I 0,.bool (decide (r9=0))] 165,zb b5 [I 0,I 0,I 0,.bool false] 165,zi w0 F]) ?_ ?_
    ·intro k161;refine Zm mixed 15 rfl [zb b11 [I r7,I 0,I 0,.bool (decide (r9=0))] 165,zb b5 [I 0,I 0,I 0,.bool false] 165,zi w0 F] ?_;intro Qd hP hQ;let NN:=fun i l E L=>Nn 83 [zb b1 [v2,I r_0_p] 131] F w0 Tryz.prog (Yw Tryz.f152 [1,1,1,1,1,0,1,0]) Qd [zb b11 [I r7,I 0,I 0,.bool (decide (r9=0))] 165,zb b5 [I 0,I 0,I 0,.bool false] 165,zi w0 F] i l ([(0,pp b1),(1,I n_1),(4,pp b5),(5,pp b11),(6,I r13),(7,pp b16)]++E) (L++[zb b11 [I r7,I 0,I 0,.bool (decide (r9=0))] 165,zb b5 [I 0,I 0,I 0,.bool false] 165,zi w0 F]);have H162 (v162:Value) (r163 r164:Int) (e165:zd) (h166:([zd.mk 0 r13,zd.mk 0 t154,zd.mk t153 r13])[(r163).toNat]?=some e165):NN 0 #[Y,Y,Y,Y,Y,Y,Y,Y,Y,Y,Y,Y,Y,Y,Y] [] [zb b1 [v2,I r164] 131,zb b16 [I e165.xLo,I e165.xHi] 89] (k161 (r164,e165.xLo,e165.xHi)):=by
      exact dj hQ [0,1,2,3,4]
     have H163 (v162:Value) (r163 r164:Int) (e165:zd) (h166:([zd.mk 0 r13,zd.mk 0 t154,zd.mk t153 r13])[(r163).toNat]?=some e165):NN 1 #[Y,Y,Y,Y,Y,Y,Y,Y,Y,Y,Y,Y,Y,Y,Z] [(53,.agg #[I e165.xLo,I e165.xHi])] [zb b1 [v2,I r164] 131,zb b16 [I t153,I t154] 89] (k161 (r164,e165.xLo,e165.xHi)):=by
      refine d1 14 rfl (zX (cs':=[I e165.xLo,I e165.xHi]) 1 XO ?_);exact rd [2,3,4] [0,1,2,3,4] (H162 v162 r163 r164 e165 h166)
     have H164 (v162:Value) (r163 r164:Int) (e165:zd) (h166:([zd.mk 0 r13,zd.mk 0 t154,zd.mk t153 r13])[(r163).toNat]?=some e165):NN 2 #[Y,Y,Y,Y,Y,Y,Y,Y,Y,Y,Y,Y,Y,Z,Z] [(52,pEl v162 r163 2 0)] [zb b1 [v2,I r164] 131,zg ze 89 v162 ([zd.mk 0 r13,zd.mk 0 t154,zd.mk t153 r13]),zb b16 [I t153,I t154] 89] (k161 (r164,e165.xLo,e165.xHi)):=by
      refine d1 13 rfl (jh xA (enc:=zE) (u:=(.agg #[I e165.xLo,I e165.xHi])) 1 zh zl h166 XO ?_);exact rd [3,4,5] [0,2,3,4,5] (H163 v162 r163 r164 e165 h166)
     have H165 (v162:Value) (r163 r164:Int):NN 3 #[Y,Y,Y,Y,Y,Y,Y,Y,Y,Y,Y,Y,Z,Z,Z] [(49,v162),(51,I r163)] [zb b1 [v2,I r164] 131,zg ze 89 v162 ([zd.mk 0 r13,zd.mk 0 t154,zd.mk t153 r13]),zb b16 [I t153,I t154] 89] (zF ([zd.mk 0 r13,zd.mk 0 t154,zd.mk t153 r13]) r163 (fun e165=>k161 (r164,e165.xLo,e165.xHi))):=by
      refine d1 12 rfl (zH xA 1 zh jk ?_);intro e165 h166;exact rd [3,4,5] [0,1,2,3,4,5] (H164 v162 r163 r164 e165 h166)
     have H166 (v162:Value):NN 4 #[Y,Y,Y,Y,Y,Y,Y,Y,Y,Y,Y,Z,Z,Z,Z] [(50,pp b1),(49,v162)] [zg ze 89 v162 ([zd.mk 0 r13,zd.mk 0 t154,zd.mk t153 r13]),zb b1 [v2,I r157] 131,zb b16 [I t153,I t154] 89] (zk r_0_b r157 3 (fun (r163,r164)=>zF ([zd.mk 0 r13,zd.mk 0 t154,zd.mk t153 r13]) r163 (fun e165=>k161 (r164,e165.xLo,e165.xHi)))):=by
      refine pk' [1,0,2,3,4,5] ?_;refine d1 11 rfl (zS (M0:=[zb b1 [v2,I r157] 131]) Tryz.call52 (by intro w m h;exact rf (fun _ _=>(zJ zN zW)) (zy (F:=zZ [zb b1 [v2,I r157] 131] w) (r_0_b:=r_0_b) (r_0_p:=r157) (n_1:=3) zn m.given (m.qM 4 hv2) h)) ?_);rintro ⟨r163,r164⟩ _;exact rd [3,4,5] [0,1,2,3,4,5] (H165 v162 r163 r164)
     have H167 (r167 r168:Int):NN 4 #[Y,Y,Y,Y,Y,Y,Y,Y,Y,Z,Y,Y,Z,Z,Z] [(41,.agg #[I 0,I r13]),(44,.agg #[I 0,I t154]),(48,.agg #[I t153,I r13]),(51,I r167)] [zb b1 [v2,I r168] 131,zb b16 [I t153,I t154] 89] (zF ([zd.mk 0 r13,zd.mk 0 t154,zd.mk t153 r13]) r167 (fun e165=>k161 (r168,e165.xLo,e165.xHi))):=by
      refine d1 9 rfl (jG (enc:=zE) (qs:=[(0,.agg #[I 0,I r13]),(1,.agg #[I 0,I t154]),(2,.agg #[I t153,I r13])]) (cells:=[I 0,I r13,I 0,I t154,I t153,I r13]) ([zd.mk 0 r13,zd.mk 0 t154,zd.mk t153 r13]) zl (by intro ρ h;simp only [List.map_toArray,List.map_cons,List.map_nil,h (.tmp 41) _ rfl,h (.tmp 44) _ rfl,h (.tmp 48) _ rfl]) jk jv ?_);intro v169;exact rd [3,4,5] [1,0,2,3,4,5] (H165 v169 r167 r168)
     have H168 (_:Unit):NN 6 #[Y,Y,Y,Y,Y,Y,Y,Y,Z,Z,Y,Z,Z,Z,Z] [(41,.agg #[I 0,I r13]),(47,I r13),(50,pp b1),(44,.agg #[I 0,I t154]),(46,I t153)] [zb b1 [v2,I r157] 131,zb b16 [I t153,I t154] 89] (zk r_0_b r157 3 (fun (r163,r164)=>zF ([zd.mk 0 r13,zd.mk 0 t154,zd.mk t153 r13]) r163 (fun e165=>k161 (r164,e165.xLo,e165.xHi)))):=by
      refine jn (dp 8 [2,3,4]) (qs:=[(0,I t153),(1,I r13)]) (cells:=[I t153,I r13]) (bqi rfl) uD ?_;refine ur (i:=9) (j:=11) rfl rfl (by kernel_rfl) ?_ ?_
      ·intro o ho;cases ho;refine jG (enc:=zE) (qs:=[(0,.agg #[I 0,I r13]),(1,.agg #[I 0,I t154]),(2,.agg #[I t153,I r13])]) (cells:=[I 0,I r13,I 0,I t154,I t153,I r13]) ([zd.mk 0 r13,zd.mk 0 t154,zd.mk t153 r13]) zl (by intro ρ h;simp only [List.map_toArray,List.map_cons,List.map_nil,h (.tmp 41) _ rfl,h (.tmp 44) _ rfl,h (.tmp 48) _ rfl]) jk jv ?_;intro v162;exact rd [3,4,5] [0,1,2,3,4,5] (H166 v162)
      ·intro o ho;cases ho;refine zS (vs:=[pp b1,I 3]) (M0:=[zb b1 [v2,I r157] 131]) Tryz.call52 (by intro w m h;exact rf (fun _ _=>(zJ zN zW)) (zy (F:=zZ [zb b1 [v2,I r157] 131] w) (r_0_b:=r_0_b) (r_0_p:=r157) (n_1:=3) zn m.given (m.qM 3 hv2) h)) ?_;rintro ⟨r167,r168⟩ _;exact rd [2,3,4] [0,1,2,3,4] (H167 r167 r168)
     have H169 (r170 r171:Int):NN 5 #[Y,Y,Y,Y,Y,Y,Y,Y,Z,Z,Y,Y,Z,Z,Z] [(41,.agg #[I 0,I r13]),(47,I r13),(44,.agg #[I 0,I t154]),(51,I r170),(46,I t153)] [zb b1 [v2,I r171] 131,zb b16 [I t153,I t154] 89] (zF ([zd.mk 0 r13,zd.mk 0 t154,zd.mk t153 r13]) r170 (fun e165=>k161 (r171,e165.xLo,e165.xHi))):=by
      refine jn (dp 8 [2,3,4]) (qs:=[(0,I t153),(1,I r13)]) (cells:=[I t153,I r13]) (bqi rfl) uD ?_;refine d1 9 rfl (jG (enc:=zE) (qs:=[(0,.agg #[I 0,I r13]),(1,.agg #[I 0,I t154]),(2,.agg #[I t153,I r13])]) (cells:=[I 0,I r13,I 0,I t154,I t153,I r13]) ([zd.mk 0 r13,zd.mk 0 t154,zd.mk t153 r13]) zl (by intro ρ h;simp only [List.map_toArray,List.map_cons,List.map_nil,h (.tmp 41) _ rfl,h (.tmp 44) _ rfl,h (.tmp 48) _ rfl]) jk jv ?_);intro v172;exact rd [3,4,5] [1,0,2,3,4,5] (H165 v172 r170 r171)
     have H170 (r170 r171:Int):NN 6 #[Y,Y,Y,Y,Y,Y,Z,Y,Z,Z,Y,Y,Z,Z,Z] [(41,.agg #[I 0,I r13]),(45,pp b16),(47,I r13),(44,.agg #[I 0,I t154]),(51,I r170)] [zb b1 [v2,I r171] 131,zb b16 [I t153,I t154] 89] (zF ([zd.mk 0 r13,zd.mk 0 t154,zd.mk t153 r13]) r170 (fun e165=>k161 (r171,e165.xLo,e165.xHi))):=by
      refine d1 6 rfl (zp xA (v:=(I t153)) 1 ty3 ?_);exact rd [2,3,4] [0,1,2,3,4] (H169 r170 r171)
     have H171 (_:Unit):NN 8 #[Y,Y,Y,Y,Z,Y,Z,Y,Z,Z,Y,Z,Z,Z,Z] [(41,.agg #[I 0,I r13]),(45,pp b16),(47,I r13),(50,pp b1),(43,I t154)] [zb b1 [v2,I r157] 131,zb b16 [I t153,I t154] 89] (zk r_0_b r157 3 (fun (r163,r164)=>zF ([zd.mk 0 r13,zd.mk 0 t154,zd.mk t153 r13]) r163 (fun e165=>k161 (r164,e165.xLo,e165.xHi)))):=by
      refine jn (dp 4 [2,3,4]) (qs:=[(0,I 0),(1,I t154)]) (cells:=[I 0,I t154]) (bqi rfl) uD ?_;refine ur (i:=6) (j:=11) rfl rfl (by kernel_rfl) ?_ ?_
      ·intro o ho;cases ho;refine zp xA (v:=(I t153)) 1 ty3 ?_;exact rd [2,3,4] [0,1,2,3,4] (H168 ())
      ·intro o ho;cases ho;refine zS (vs:=[pp b1,I 3]) (M0:=[zb b1 [v2,I r157] 131]) Tryz.call52 (by intro w m h;exact rf (fun _ _=>(zJ zN zW)) (zy (F:=zZ [zb b1 [v2,I r157] 131] w) (r_0_b:=r_0_b) (r_0_p:=r157) (n_1:=3) zn m.given (m.qM 3 hv2) h)) ?_;rintro ⟨r170,r171⟩ _;exact rd [2,3,4] [0,1,2,3,4] (H170 r170 r171)
     have H172 (_:Unit):NN 6 #[Y,Y,Y,Y,Z,Y,Y,Y,Y,Z,Y,Z,Z,Z,Z] [(41,.agg #[I 0,I r13]),(50,pp b1),(48,.agg #[I t153,I r13]),(43,I t154)] [zb b1 [v2,I r157] 131,zb b16 [I t153,I t154] 89] (zk r_0_b r157 3 (fun (r163,r164)=>zF ([zd.mk 0 r13,zd.mk 0 t154,zd.mk t153 r13]) r163 (fun e165=>k161 (r164,e165.xLo,e165.xHi)))):=by
      refine jn (dp 4 [2,3,4]) (qs:=[(0,I 0),(1,I t154)]) (cells:=[I 0,I t154]) (bqi rfl) uD ?_;refine ur (i:=9) (j:=11) rfl rfl (by kernel_rfl) ?_ ?_
      ·intro o ho;cases ho;refine jG (enc:=zE) (qs:=[(0,.agg #[I 0,I r13]),(1,.agg #[I 0,I t154]),(2,.agg #[I t153,I r13])]) (cells:=[I 0,I r13,I 0,I t154,I t153,I r13]) ([zd.mk 0 r13,zd.mk 0 t154,zd.mk t153 r13]) zl (by intro ρ h;simp only [List.map_toArray,List.map_cons,List.map_nil,h (.tmp 41) _ rfl,h (.tmp 44) _ rfl,h (.tmp 48) _ rfl]) jk jv ?_;intro v173;exact rd [3,4,5] [0,1,2,3,4,5] (H166 v173)
      ·intro o ho;cases ho;refine zS (vs:=[pp b1,I 3]) (M0:=[zb b1 [v2,I r157] 131]) Tryz.call52 (by intro w m h;exact rf (fun _ _=>(zJ zN zW)) (zy (F:=zZ [zb b1 [v2,I r157] 131] w) (r_0_b:=r_0_b) (r_0_p:=r157) (n_1:=3) zn m.given (m.qM 3 hv2) h)) ?_;rintro ⟨r174,r175⟩ _;exact rd [2,3,4] [0,1,2,3,4] (H167 r174 r175)
     have H173 (r176 r177:Int):NN 5 #[Y,Y,Y,Y,Z,Y,Y,Y,Y,Z,Y,Y,Z,Z,Z] [(41,.agg #[I 0,I r13]),(48,.agg #[I t153,I r13]),(51,I r176),(43,I t154)] [zb b1 [v2,I r177] 131,zb b16 [I t153,I t154] 89] (zF ([zd.mk 0 r13,zd.mk 0 t154,zd.mk t153 r13]) r176 (fun e165=>k161 (r177,e165.xLo,e165.xHi))):=by
      refine jn (dp 4 [2,3,4]) (qs:=[(0,I 0),(1,I t154)]) (cells:=[I 0,I t154]) (bqi rfl) uD ?_;refine d1 9 rfl (jG (enc:=zE) (qs:=[(0,.agg #[I 0,I r13]),(1,.agg #[I 0,I t154]),(2,.agg #[I t153,I r13])]) (cells:=[I 0,I r13,I 0,I t154,I t153,I r13]) ([zd.mk 0 r13,zd.mk 0 t154,zd.mk t153 r13]) zl (by intro ρ h;simp only [List.map_toArray,List.map_cons,List.map_nil,h (.tmp 41) _ rfl,h (.tmp 44) _ rfl,h (.tmp 48) _ rfl]) jk jv ?_);intro v178;exact rd [3,4,5] [1,0,2,3,4,5] (H165 v178 r176 r177)
     have H174 (r176 r177:Int):NN 6 #[Y,Y,Y,Z,Z,Y,Y,Y,Y,Z,Y,Y,Z,Z,Z] [(41,.agg #[I 0,I r13]),(42,.pointer (some ⟨b16,1,none⟩)),(48,.agg #[I t153,I r13]),(51,I r176)] [zb b1 [v2,I r177] 131,zb b16 [I t153,I t154] 89] (zF ([zd.mk 0 r13,zd.mk 0 t154,zd.mk t153 r13]) r176 (fun e165=>k161 (r177,e165.xLo,e165.xHi))):=by
      refine d1 3 rfl (zp xA (v:=(I t154)) 1 ty3 ?_);exact rd [2,3,4] [0,1,2,3,4] (H173 r176 r177)
     have H175 (_:Unit):NN 8 #[Y,Y,Y,Z,Z,Y,Y,Y,Z,Z,Y,Z,Z,Z,Z] [(41,.agg #[I 0,I r13]),(42,.pointer (some ⟨b16,1,none⟩)),(47,I r13),(50,pp b1),(46,I t153)] [zb b1 [v2,I r157] 131,zb b16 [I t153,I t154] 89] (zk r_0_b r157 3 (fun (r163,r164)=>zF ([zd.mk 0 r13,zd.mk 0 t154,zd.mk t153 r13]) r163 (fun e165=>k161 (r164,e165.xLo,e165.xHi)))):=by
      refine jn (dp 8 [2,3,4]) (qs:=[(0,I t153),(1,I r13)]) (cells:=[I t153,I r13]) (bqi rfl) uD ?_;refine ur (i:=3) (j:=11) rfl rfl (by kernel_rfl) ?_ ?_
      ·intro o ho;cases ho;refine zp xA (v:=(I t154)) 1 ty3 ?_;exact rd [2,3,4] [0,1,2,3,4] (H172 ())
      ·intro o ho;cases ho;refine zS (vs:=[pp b1,I 3]) (M0:=[zb b1 [v2,I r157] 131]) Tryz.call52 (by intro w m h;exact rf (fun _ _=>(zJ zN zW)) (zy (F:=zZ [zb b1 [v2,I r157] 131] w) (r_0_b:=r_0_b) (r_0_p:=r157) (n_1:=3) zn m.given (m.qM 3 hv2) h)) ?_;rintro ⟨r176,r177⟩ _;exact rd [2,3,4] [0,1,2,3,4] (H174 r176 r177)
     have H176 (r179 r180:Int):NN 7 #[Y,Y,Y,Y,Z,Y,Z,Y,Z,Z,Y,Y,Z,Z,Z] [(41,.agg #[I 0,I r13]),(45,pp b16),(47,I r13),(51,I r179),(43,I t154)] [zb b1 [v2,I r180] 131,zb b16 [I t153,I t154] 89] (zF ([zd.mk 0 r13,zd.mk 0 t154,zd.mk t153 r13]) r179 (fun e165=>k161 (r180,e165.xLo,e165.xHi))):=by
      refine jn (dp 4 [2,3,4]) (qs:=[(0,I 0),(1,I t154)]) (cells:=[I 0,I t154]) (bqi rfl) uD ?_;refine d1 6 rfl (zp xA (v:=(I t153)) 1 ty3 ?_);exact rd [2,3,4] [0,1,2,3,4] (H169 r179 r180)
     have H177 (r179 r180:Int):NN 7 #[Y,Y,Y,Z,Z,Y,Y,Y,Z,Z,Y,Y,Z,Z,Z] [(41,.agg #[I 0,I r13]),(42,.pointer (some ⟨b16,1,none⟩)),(47,I r13),(51,I r179),(46,I t153)] [zb b1 [v2,I r180] 131,zb b16 [I t153,I t154] 89] (zF ([zd.mk 0 r13,zd.mk 0 t154,zd.mk t153 r13]) r179 (fun e165=>k161 (r180,e165.xLo,e165.xHi))):=by
      refine jn (dp 8 [2,3,4]) (qs:=[(0,I t153),(1,I r13)]) (cells:=[I t153,I r13]) (bqi rfl) uD ?_;refine d1 3 rfl (zp xA (v:=(I t154)) 1 ty3 ?_);exact rd [2,3,4] [0,1,2,3,4] (H173 r179 r180)
     have H178 (r179 r180:Int):NN 8 #[Y,Y,Y,Z,Z,Y,Z,Y,Z,Z,Y,Y,Z,Z,Z] [(41,.agg #[I 0,I r13]),(42,.pointer (some ⟨b16,1,none⟩)),(45,pp b16),(47,I r13),(51,I r179)] [zb b1 [v2,I r180] 131,zb b16 [I t153,I t154] 89] (zF ([zd.mk 0 r13,zd.mk 0 t154,zd.mk t153 r13]) r179 (fun e165=>k161 (r180,e165.xLo,e165.xHi))):=by
      refine ur (i:=3) (j:=6) rfl rfl (by kernel_rfl) ?_ ?_
      ·intro o ho;cases ho;refine zp xA (v:=(I t154)) 1 ty3 ?_;exact rd [2,3,4] [0,1,2,3,4] (H176 r179 r180)
      ·intro o ho;cases ho;refine zp xA (v:=(I t153)) 1 ty3 ?_;exact rd [2,3,4] [0,1,2,3,4] (H177 r179 r180)
     refine zw (dp 0 [2,3,4]) ?_;refine jn (dp 1 [2,3,4]) (qs:=[(0,I 0),(1,I r13)]) (cells:=[I 0,I r13]) (bqi rfl) uD ?_;refine zu (dp 2 [2,3,4]) jJ ?_;refine zu (dp 5 [2,3,4]) xf ?_;refine zw (dp 7 [2,3,4]) ?_;refine zw (dp 10 [2,3,4]) ?_;refine VL (i:=3) (j:=6) (l:=11) rfl rfl rfl (by kernel_rfl) ?_ ?_ ?_
     ·intro o ho;cases ho;refine zp xA (v:=(I t154)) 1 ty3 ?_;exact rd [2,3,4] [0,1,2,3,4] (H171 ())
     ·intro o ho;cases ho;refine zp xA (v:=(I t153)) 1 ty3 ?_;exact rd [2,3,4] [0,1,2,3,4] (H175 ())
     ·intro o ho;cases ho;refine zS (vs:=[pp b1,I 3]) (M0:=[zb b1 [v2,I r157] 131]) Tryz.call52 (by intro w m h;exact rf (fun _ _=>(zJ zN zW)) (zy (F:=zZ [zb b1 [v2,I r157] 131] w) (r_0_b:=r_0_b) (r_0_p:=r157) (n_1:=3) zn m.given (m.qM 3 hv2) h)) ?_;rintro ⟨r179,r180⟩ _;exact rd [2,3,4] [0,1,2,3,4] (H178 r179 r180)
    ·rintro ⟨t158,t159,t160⟩;refine nxj ?_;exact lj [0,1,2,3,4]
   ·refine jA ?_;exact lj [0,1,2,3,4]
  ·rintro ⟨t241,t242,t243⟩;refine nxj ?_;refine y0 ?_;refine zu st xf ?_;refine zp st (v:=(I t242)) 1 ty3 ?_;refine zu st Xj ?_;refine stw (zX (cs':=[I r7,I t242,I 0,.bool (decide (r9=0))]) 2 ty3 ?_);refine y2 ?_;refine zu st jJ ?_;refine zp st (v:=(I t243)) 1 ty3 ?_;refine zu st yZ ?_;refine stw (zX (cs':=[I r7,I t242,I t243,.bool (decide (r9=0))]) 2 ty3 ?_);refine y1 ?_;refine zU (σ:=(Int×Int×Int×Int)) (fun (t317,t318,t319,t320)=>JJ [(4,pp b5),(5,pp b11)] [zb b1 [v2,I t317] 131,zb b11 [I t318,I t319,I t320,.bool (decide (r9=0))] 165,zb b5 [I 0,I 0,I 0,.bool false] 165,zi w0 F]) ?_ ?_
   ·intro k321;refine y0 ?_;refine mv ?_;refine mv ?_;refine stw (zS (M0:=[zb b1 [v2,I t241] 131]) Tryz.call97 (by intro w m h;exact rf (fun _ _=>(zJ zN zW)) (uL (F:=zZ [zb b1 [v2,I t241] 131] w) (r_0_b:=r_0_b) (r_0_p:=t241) (n_1:=n_1) zn m.given (m.qM 3 hv2) h)) ?_);rintro ⟨r245,r246⟩ _;refine y1 ?_;refine zj ?_ ?_
    ·refine y0 ?_;refine mv ?_;refine stw (zS (M0:=[zb b1 [v2,I r246] 131]) Tryz.call52 (by intro w m h;exact rf (fun _ _=>(zJ zN zW)) (zy (F:=zZ [zb b1 [v2,I r246] 131] w) (r_0_b:=r_0_b) (r_0_p:=r246) (n_1:=3) zn m.given (m.qM 3 hv2) h)) ?_);rintro ⟨r247,r248⟩ _;refine y26 ?_;refine jC st xS ?_;refine ma ?_;refine y1 ?_;refine zj ?_ ?_
     ·refine zq ?_;refine stw (jG (enc:=uN) (qs:=[(0,I (-1)),(1,I 4)]) (cells:=[I (-1),I 4]) ([-1,4]) xh (by intro ρ h;simp only [List.map_toArray,List.map_cons,List.map_nil,h (.const (I (-1))) _ rfl,h (.const (I 4)) _ rfl]) V8 zbG ?_);intro v249;refine mv ?_;refine pk' [1,0,2,3,4,5] ?_;refine stw (zS (M0:=[zb b1 [v2,I r248] 131]) Tryz.call52 (by intro w m h;exact rf (fun _ _=>(zJ zN zW)) (zy (F:=zZ [zb b1 [v2,I r248] 131] w) (r_0_b:=r_0_b) (r_0_p:=r248) (n_1:=2) zn m.given (m.qM 4 hv2) h)) ?_);rintro ⟨r251,r252⟩ _;refine zH st 1 zh V8 ?_;intro e253 h254;refine jh st (enc:=uN) (u:=(I e253)) 1 zh xh h254 ty3 ?_;refine zu st uY ?_;refine stw (zX (cs':=[I e253,I t242,I t243,.bool (decide (r9=0))]) 3 ty3 ?_);refine y12 ?_;exact lj [0,3,4,5]
     ·refine y0 ?_;refine jC st xS ?_;refine ma ?_;refine y1 ?_;refine zj ?_ ?_
      ·refine zq ?_;refine zu st yZ ?_;refine zp st (v:=(I t243)) 2 ty3 ?_;refine ja st ?_;intro t255;refine zu st Xj ?_;refine stw (zX (cs':=[I r7,I t255,I t243,.bool (decide (r9=0))]) 2 ty3 ?_);refine y12 ?_;exact lj [0,2,3,4]
      ·refine zq ?_;refine mv ?_;refine ja st ?_;intro t256;refine zu st yZ ?_;refine stw (zX (cs':=[I r7,I t242,I t256,.bool (decide (r9=0))]) 2 ty3 ?_);refine y12 ?_;exact lj [0,2,3,4]
    ·refine jA ?_;exact lj [0,2,3,4]
   ·rintro ⟨t317,t318,t319,t320⟩;refine nxj ?_;refine y0 ?_;refine zp st (v:=(.agg #[I t318,I t319,I t320,.bool (decide (r9=0))])) 1 X3 ?_;refine stw (zX (cs':=[I t318,I t319,I t320,.bool (decide (r9=0))]) 2 X3 ?_);refine y3 ?_;exact js Tryz.results152 (zI.mk t318 t319 t320 (decide (r9=0)),t317) () (Zd 2 rfl rfl X3 rfl) (fun w m=>zP.ofB m [0] rfl)
theorem zaU {w0:World} {F:Nat→Prop} {b1:Nat} {v2:Value} {r_0_b:(List UInt8)} {r_0_p n_1:Int} {κ:((List zI)×Int)→Prop} (hF:Fr [zb b1 [v2,(I r_0_p)] 131] F w0) (hg:xO [zb b1 [v2,(I r_0_p)] 131] F w0) (hv2:Sl YB F w0 v2 r_0_b) (h:ZM r_0_b r_0_p n_1 κ) :
  Calls Tryz.prog 98 #[(pp b1),(I n_1)] w0 (Ret [zb b1 [v2,(I r_0_p)] 131] F w0 κ (fun r (u:Value)=>u) (fun r u=>[zg jS 165 u r.1,zb b1 [v2,(I r.2)] 131])):=by
 refine uS (args:=[pp b1,I n_1]) [zb b1 [v2,I r_0_p] 131] hF hg Tryz.func98 rfl Tryz.ntmps98 rfl h ?_;clear h hF hg;let JJ:=Jn 32 [zb b1 [v2,I r_0_p] 131] F w0;refine y0 ?_;refine stw (jK jS 165 ?_);refine y2 ?_;refine stw (jG (enc:=xV) (qs:=[]) (cells:=[]) ([]:(List zI)) jL (by intro ρ h;simp only [List.map_toArray,List.map_cons,List.map_nil]) Zu uA ?_);intro v6;refine ma ?_;refine y4 ?_;refine mv ?_;refine pk' [2,0,1,3] ?_;refine stw (zS (M0:=[zb b1 [v2,I r_0_p] 131]) Tryz.call52 (by intro w m h;exact rf (fun _ _=>(zJ zN zW)) (zy (F:=zZ [zb b1 [v2,I r_0_p] 131] w) (r_0_b:=r_0_b) (r_0_p:=r_0_p) (n_1:=4) zn m.given (m.qM 2 hv2) h)) ?_);rintro ⟨r8,r9⟩ _;refine ma ?_;refine y5 ?_;refine jr (σ:=(Int×(List zI)×Int)) (fun ((t10,xs12,t15):(Int×(List zI)×Int)) (a:Act) (w:World)=>∃ (v11:Value),JJ [(0,pp b1),(1,I n_1),(5,v11),(6,I t15)] [zb b1 [v2,I t10] 131,zi w0 F,zg jS 165 v11 xs12] a w) (jE v6 [0,3,1]) ?_;rintro nx16 ⟨t10,xs12,t15⟩ a w ⟨v11,hE,hm⟩ h;refine jM hE hm h ?_;clear hE hm h;refine y10 ?_;refine mv ?_;refine xZ st ?_;refine y1 ?_;refine zj ?_ ?_
 ·refine y22 ?_;refine mv ?_;refine mv ?_;refine stw (zS (M0:=[zb b1 [v2,I t10] 131]) Tryz.call152 (by intro w m h;exact rf (fun _ _=>(zJ zN zW)) (Ul (F:=zZ [zb b1 [v2,I t10] 131] w) (r_0_b:=r_0_b) (r_0_p:=t10) (n_1:=0) zn m.given (m.qM 0 hv2) h)) ?_);rintro ⟨r17,r18⟩ _;refine stw (jG (enc:=xV) (qs:=[(0,.agg #[I r17.xField,I r17.xLo,I r17.xHi,.bool r17.xNot])]) (cells:=[I r17.xField,I r17.xLo,I r17.xHi,.bool r17.xNot]) ([r17]) jL (by intro ρ h;simp only [List.map_toArray,List.map_cons,List.map_nil,h (.tmp 16) _ rfl]) Zu uA ?_);intro v19;refine stw (xj 3 0 (xr jL zh) Zu uA ?_);intro v21;refine ma ?_;refine y15 ?_;refine mv ?_;refine Zh st ?_;intro t23;refine ma ?_;refine zA ?_;exact zO (r18,xs12++([r17]),t23) (jE v21 [1,2,3])
 ·refine y30 ?_;refine zU (σ:=(Int×(List zI))) (fun ((t97,xs99):(Int×(List zI))) (a:Act) (w:World)=>∃ (v98:Value),JJ [(5,v98)] [zb b1 [v2,I t97] 131,zi w0 F,zg jS 165 v98 xs99] a w) ?_ ?_
  ·intro k102;refine y0 ?_;refine mv ?_;refine mv ?_;refine stw (zS (M0:=[zb b1 [v2,I t10] 131]) Tryz.call97 (by intro w m h;exact rf (fun _ _=>(zJ zN zW)) (uL (F:=zZ [zb b1 [v2,I t10] 131] w) (r_0_b:=r_0_b) (r_0_p:=t10) (n_1:=n_1) zn m.given (m.qM 0 hv2) h)) ?_);rintro ⟨r24,r25⟩ _;refine y1 ?_;refine zj ?_ ?_
   ·refine y0 ?_;refine mv ?_;refine stw (zS (M0:=[zb b1 [v2,I r25] 131]) Tryz.call52 (by intro w m h;exact rf (fun _ _=>(zJ zN zW)) (zy (F:=zZ [zb b1 [v2,I r25] 131] w) (r_0_b:=r_0_b) (r_0_p:=r25) (n_1:=2) zn m.given (m.qM 0 hv2) h)) ?_);rintro ⟨r26,r27⟩ _;refine jC st xS ?_;refine y1 ?_;refine zj ?_ ?_
    ·refine zq ?_;refine mv ?_;refine mv ?_;refine stw (zS (M0:=[zb b1 [v2,I r27] 131]) Tryz.call152 (by intro w m h;exact rf (fun _ _=>(zJ zN zW)) (Ul (F:=zZ [zb b1 [v2,I r27] 131] w) (r_0_b:=r_0_b) (r_0_p:=r27) (n_1:=1) zn m.given (m.qM 0 hv2) h)) ?_);rintro ⟨r28,r29⟩ _;refine stw (jG (enc:=xV) (qs:=[(0,.agg #[I r28.xField,I r28.xLo,I r28.xHi,.bool r28.xNot])]) (cells:=[I r28.xField,I r28.xLo,I r28.xHi,.bool r28.xNot]) ([r28]) jL (by intro ρ h;simp only [List.map_toArray,List.map_cons,List.map_nil,h (.tmp 27) _ rfl]) Zu uA ?_);intro v30;refine stw (xj 3 0 (xr jL zh) Zu uA ?_);intro v32;refine ma ?_;refine zA ?_;exact zO (r29,xs12++([r28])) (jE v32 [1,2,3])
    ·refine zq ?_;refine stw (zeM (z:=(zI.mk 0 0 0 false)) jL Zu uA ?_);intro v34 xs35;refine ma ?_;refine zA ?_;exact zO (r27,xs35) (jE v34 [1,2,0])
   ·refine jA ?_;exact zO (r25,xs12) (jE v11 [0,1,2])
  ·rintro ⟨t97,xs99⟩ a w ⟨v98,hE,hm⟩ h;refine jM hE hm h ?_;clear hE hm h;refine y0 ?_;refine mv ?_;refine ma ?_;refine y3 ?_;exact js Tryz.results98 (xs99,t97) v98 (ju rfl) (fun w m=>zP.ofB m [2,0] rfl)
end
section
open Go.RowKit
theorem jj {w0:World} {F:Nat→Prop} {n_0:Int} {κ:Int→Prop} (hF:Fr [] F w0) (hgl0:Sl zY F w0 (.slice (some ⟨0,0,none⟩) 4 4) zC) (h:zD n_0 κ) :
  Calls Tryz.prog 113 #[(I n_0)] w0 (Ret [] F w0 κ (fun r (u:Unit)=>(I r)) (fun r u=>[])):=by
 refine eS hF Tryz.func113 Tryz.ntmps113 h ?_;clear h hF;let JJ:=Jn 13 [] F w0;refine y0 ?_;refine ma ?_;refine y9 ?_;refine zU (σ:=Bool) (fun t61=>JJ [(0,I n_0),(8,.bool t61)] [zi w0 F]) ?_ ?_
 ·intro k62;refine zq ?_;refine mv ?_;refine je st ?_;refine mv ?_;refine jW (dj:=5) rfl ?_ ?_
  ·refine ss ?_;refine ss ?_;refine zQ st ?_;refine zA ?_;exact lj [0]
  ·refine zw (zR rfl rfl) ?_;refine YW (zR rfl rfl) ?_;refine zM st ?_;refine zA ?_;exact lj [0]
 ·rintro t61;refine nxj ?_;refine zj ?_ ?_
  ·refine y0 ?_;refine ma ?_;refine y6 ?_;exact lu Tryz.results113
  ·refine y8 ?_;refine mv ?_;refine jY st 0 (zc hgl0) zgj ?_;intro e63 h64;refine jo st 0 (zc hgl0) h64 zdT ?_;refine jh st (enc:=yd) (u:=(I e63.xTop)) 0 (zc hgl0) XS h64 ty3 ?_;refine ma ?_;refine y3 ?_;exact lu Tryz.results113
theorem zaj {w0:World} {F:Nat→Prop} {t_0:zI} {κ:Bool→Prop} (hF:Fr [] F w0) (hgl0:Sl zY F w0 (.slice (some ⟨0,0,none⟩) 4 4) zC) (h:Zk t_0 κ) :
  Calls Tryz.prog 236 #[(.agg #[(I t_0.xField),(I t_0.xLo),(I t_0.xHi),(.bool t_0.xNot)])] w0 (Ret [] F w0 κ (fun r (u:Unit)=>(.bool r)) (fun r u=>[])):=by
 refine eS hF Tryz.func236 Tryz.ntmps236 h ?_;clear h hF;let JJ:=Jn 31 [] F w0;refine y0 ?_;refine stw (x5 [I t_0.xField,I t_0.xLo,I t_0.xHi,.bool t_0.xNot] ?_);intro b1;refine ma ?_;refine y1 ?_;refine zU (σ:=Bool) (fun t64=>JJ [(2,.bool t64)] [zi w0 F]) ?_ ?_
 ·intro k65;refine ud mixed 29 rfl [zb b1 [I t_0.xField,I t_0.xLo,I t_0.xHi,.bool t_0.xNot] 165,zi w0 F] ?_;refine zu (dI 0) uY ?_;refine zp (dI 1) (v:=(I t_0.xField)) 0 ty3 ?_;refine YW (dI 2) ?_;refine zw (dI 3) ?_;refine jW (dj:=6) rfl ?_ ?_
  ·refine zu (dtg 4 (fun _ m=>m)) uY ?_;refine zp (dtg 5 (fun _ m=>m)) (v:=(I t_0.xField)) 0 ty3 ?_;refine je (dtg 6 (fun _ m=>m)) ?_;refine zQ (dI 7) ?_;refine zw (dI 8) ?_;refine jW (dj:=11) rfl ?_ ?_
   ·refine zu (dtg 9 (fun _ m=>m)) Xj ?_;refine zp (dtg 10 (fun _ m=>m)) (v:=(I t_0.xLo)) 0 ty3 ?_;refine YW (dtg 11 (fun _ m=>m)) ?_;refine zQ (dI 12) ?_;refine zw (dI 13) ?_;refine jW (dj:=16) rfl ?_ ?_
    ·refine zu (dtg 14 (fun _ m=>m)) Xj ?_;refine zp (dtg 15 (fun _ m=>m)) (v:=(I t_0.xLo)) 0 ty3 ?_;refine zu (dtg 16 (fun _ m=>m)) yZ ?_;refine zp (dtg 17 (fun _ m=>m)) (v:=(I t_0.xHi)) 0 ty3 ?_;refine yG (dtg 18 (fun _ m=>m)) ?_;refine zQ (dI 19) ?_;refine zw (dI 20) ?_;refine jW (dj:=23) rfl ?_ ?_
     ·refine zu (dtg 21 (fun _ m=>m)) yZ ?_;refine zp (dtg 22 (fun _ m=>m)) (v:=(I t_0.xHi)) 0 ty3 ?_;refine zu (dtg 23 (fun _ m=>m)) uY ?_;refine zp (dtg 24 (fun _ m=>m)) (v:=(I t_0.xField)) 0 ty3 ?_;refine U8 (i:=25) rfl rfl rfl (by kernel_rfl) (zm Tryz.call113 (by intro w m h;exact rf0 (jj (F:=zZ [] w) (n_0:=t_0.xField) zn (m.q 1 hgl0) h)) ?_);rintro r3 _;refine xK (fun _ m=>m) ?_;refine yG (dtg 26 (fun _ m=>m)) ?_;refine zQ (dI 27) ?_;refine uy (dI 28) ?_;refine jV (by kernel_rfl) ?_;exact lj [1]
     ·refine dK 21 ?_;refine dK 22 ?_;refine dK 23 ?_;refine dK 24 ?_;refine dK 25 ?_;refine dK 26 ?_;refine zM (dI 27) ?_;refine uy (dI 28) ?_;refine jV (by kernel_rfl) ?_;exact lj [1]
    ·refine dK 14 ?_;refine dK 15 ?_;refine dK 16 ?_;refine dK 17 ?_;refine dK 18 ?_;refine zM (dI 19) ?_;refine zw (dI 20) ?_;refine dK 21 ?_;refine dK 22 ?_;refine dK 23 ?_;refine dK 24 ?_;refine dK 25 ?_;refine dK 26 ?_;refine zM (dI 27) ?_;refine uy (dI 28) ?_;refine jV (by kernel_rfl) ?_;exact lj [1]
   ·refine dK 9 ?_;refine dK 10 ?_;refine dK 11 ?_;refine zM (dI 12) ?_;refine zw (dI 13) ?_;refine dK 14 ?_;refine dK 15 ?_;refine dK 16 ?_;refine dK 17 ?_;refine dK 18 ?_;refine zM (dI 19) ?_;refine zw (dI 20) ?_;refine dK 21 ?_;refine dK 22 ?_;refine dK 23 ?_;refine dK 24 ?_;refine dK 25 ?_;refine dK 26 ?_;refine zM (dI 27) ?_;refine uy (dI 28) ?_;refine jV (by kernel_rfl) ?_;exact lj [1]
  ·refine dK 4 ?_;refine dK 5 ?_;refine dK 6 ?_;refine zM (dI 7) ?_;refine zw (dI 8) ?_;refine dK 9 ?_;refine dK 10 ?_;refine dK 11 ?_;refine zM (dI 12) ?_;refine zw (dI 13) ?_;refine dK 14 ?_;refine dK 15 ?_;refine dK 16 ?_;refine dK 17 ?_;refine dK 18 ?_;refine zM (dI 19) ?_;refine zw (dI 20) ?_;refine dK 21 ?_;refine dK 22 ?_;refine dK 23 ?_;refine dK 24 ?_;refine dK 25 ?_;refine dK 26 ?_;refine zM (dI 27) ?_;refine uy (dI 28) ?_;refine jV (by kernel_rfl) ?_;exact lj [1]
 ·rintro t64;refine nxj ?_;refine ui ?_;exact lu Tryz.results236
theorem Vy {w0:World} {F:Nat→Prop} {v1:Value} {list_0:(List zI)} {κ:Bool→Prop} (hF:Fr [] F w0) (hv1:Sl jS F w0 v1 list_0) (hgl0:Sl zY F w0 (.slice (some ⟨0,0,none⟩) 4 4) zC) (h:yL list_0 κ) :
  Calls Tryz.prog 208 #[v1] w0 (Ret [] F w0 κ (fun r (u:Unit)=>(.bool r)) (fun r u=>[])):=by
 refine eS hF Tryz.func208 Tryz.ntmps208 h ?_;clear h hF;let JJ:=Jn 18 [] F w0;refine y0 ?_;refine ma ?_;refine y4 ?_;refine mv ?_;refine zL st Zu 0 (zc hv1) ?_;refine xZ st ?_;refine y1 ?_;refine zj ?_ ?_
 ·refine y0 ?_;refine ma ?_;refine y6 ?_;exact lu Tryz.results208
 ·refine y13 ?_;refine mv ?_;refine zL st Zu 0 (zc hv1) ?_;refine mv ?_;refine y5 ?_;refine jr (σ:=Int) (fun t3=>JJ [(8,v1),(9,I (list_0.length:Int)),(10,I t3)] [zi w0 F]) (jI [0]) ?_;rintro nx4 t3;refine nxj ?_;refine y0 ?_;refine je st ?_;refine y9 ?_;refine zj ?_ ?_
  ·refine y11 ?_;refine zH st 0 (zc hv1) Zu ?_;intro e5 h6;refine jh st (enc:=xV) (u:=(.agg #[I e5.xField,I e5.xLo,I e5.xHi,.bool e5.xNot])) 0 (zc hv1) jL h6 X3 ?_;refine stw (jg [I 0,I 0,I 0,.bool false] uA ?_);intro b7;refine stw (zX (cs':=[I e5.xField,I e5.xLo,I e5.xHi,.bool e5.xNot]) 0 X3 ?_);refine y2 ?_;refine zp st (v:=(.agg #[I e5.xField,I e5.xLo,I e5.xHi,.bool e5.xNot])) 0 X3 ?_;refine stw (zm Tryz.call236 (by intro w m h;exact rf0 (zaj (F:=zZ [] w) (t_0:=e5) zn (m.q 1 hgl0) h)) ?_);rintro r9 _;refine jF st ?_;refine y1 ?_;refine zj ?_ ?_
   ·refine y0 ?_;refine ma ?_;refine y16 ?_;exact lu Tryz.results208
   ·refine y14 ?_;refine ja st ?_;intro t10;refine mv ?_;refine zA ?_;exact lj [1]
  ·refine y7 ?_;refine ma ?_;refine y3 ?_;exact lu Tryz.results208
theorem zak {w0:World} {F:Nat→Prop} {v1:Value} {r_0:zK} {κ:Bool→Prop} (hF:Fr [] F w0) (hv1:Sl jS F w0 v1 r_0.xTests) (hgl0:Sl zY F w0 (.slice (some ⟨0,0,none⟩) 4 4) zC) (h:Zq r_0 κ) :
  Calls Tryz.prog 162 #[(.agg #[v1,(I r_0.xAction),(I r_0.xChain)])] w0 (Ret [] F w0 κ (fun r (u:Unit)=>(.bool r)) (fun r u=>[])):=by
 refine eS hF Tryz.func162 Tryz.ntmps162 h ?_;clear h hF;let JJ:=Jn 27 [] F w0;refine y0 ?_;obtain ⟨a3,l4,q5,rfl⟩:=zx hv1;refine stw (x5 [.slice a3 l4 q5,I r_0.xAction,I r_0.xChain] ?_);intro b6;refine ma ?_;refine y4 ?_;refine zu st YL ?_;refine zp st (v:=(.slice a3 l4 q5)) 0 zd1 ?_;refine stw (zm Tryz.call208 (by intro w m h;exact rf0 (Vy (F:=zZ [] w) (list_0:=r_0.xTests) zn (m.q 1 hv1) (m.q 1 hgl0) h)) ?_);rintro r8 _;refine jF st ?_;refine y1 ?_;refine zj ?_ ?_
 ·refine y0 ?_;refine ma ?_;refine y6 ?_;exact lu Tryz.results162
 ·refine y13 ?_;refine zu st US ?_;refine zp st (v:=(I r_0.xAction)) 0 ty3 ?_;refine y26 ?_;refine jC st xS ?_;refine ma ?_;refine y1 ?_;refine zj ?_ ?_
  ·refine zU (σ:=Bool) (fun t69=>JJ [(2,.bool t69)] [zi w0 F]) ?_ ?_
   ·intro k70;refine zq ?_;refine zu st YK ?_;refine zp st (v:=(I r_0.xChain)) 0 ty3 ?_;refine YW st ?_;refine mv ?_;refine jW (dj:=14) rfl ?_ ?_
    ·refine zu (zR rfl rfl) YK ?_;refine zp (zR rfl rfl) (v:=(I r_0.xChain)) 0 ty3 ?_;refine je (zR rfl rfl) ?_;refine zQ st ?_;refine ma ?_;refine zA ?_;exact lj [1]
    ·refine ss ?_;refine ss ?_;refine ss ?_;refine zM st ?_;refine ma ?_;refine zA ?_;exact lj [1]
   ·rintro t69;refine nxj ?_;refine ui (uj (jZ ?_));exact lu Tryz.results162
  ·refine zU (σ:=Bool) (fun t131=>JJ [(1,pp b6),(19,.bool t131)] [zb b6 [.slice a3 l4 q5,I r_0.xAction,I r_0.xChain] 77,zi w0 F]) ?_ ?_
   ·intro k132;refine y0 ?_;refine jC st xS ?_;refine ma ?_;refine y1 ?_;refine zj ?_ ?_
    ·refine jA ?_;exact lj [0,1]
    ·refine y0 ?_;refine jC st xS ?_;refine ma ?_;refine y1 ?_;refine zj ?_ ?_
     ·refine jA ?_;exact lj [0,1]
     ·refine y0 ?_;refine jC st xS ?_;refine ma ?_;refine y1 ?_;refine zj ?_ ?_
      ·refine jA ?_;exact lj [0,1]
      ·refine zq ?_;refine jC st xS ?_;refine ma ?_;refine zA ?_;exact lj [0,1]
   ·rintro t131;refine nxj ?_;refine zj ?_ ?_
    ·refine y0 ?_;refine zu st YK ?_;refine zp st (v:=(I r_0.xChain)) 0 ty3 ?_;refine jC st xS ?_;refine ma ?_;refine y24 ?_;exact lu Tryz.results162
    ·refine jA (ua (z6 (jP (zq ?_))));refine ma ?_;refine y3 ?_;exact lu Tryz.results162
theorem V9 {w0:World} {F:Nat→Prop} {v1:Value} {list_0:(List zK)} {κ:Bool→Prop} (hF:Fr [] F w0) (hv1:Sl uz F w0 v1 list_0) (hgl0:Sl zY F w0 (.slice (some ⟨0,0,none⟩) 4 4) zC) (h:yQ list_0 κ) :
  Calls Tryz.prog 109 #[v1] w0 (Ret [] F w0 κ (fun r (u:Unit)=>(.bool r)) (fun r u=>[])):=by
 refine eS hF Tryz.func109 Tryz.ntmps109 h ?_;clear h hF;let JJ:=Jn 18 [] F w0;refine y0 ?_;refine ma ?_;refine y4 ?_;refine mv ?_;refine zL st Ua 0 (zc hv1) ?_;refine xZ st ?_;refine y1 ?_;refine zj ?_ ?_
 ·refine y0 ?_;refine ma ?_;refine y6 ?_;exact lu Tryz.results109
 ·refine y13 ?_;refine mv ?_;refine zL st Ua 0 (zc hv1) ?_;refine mv ?_;refine y5 ?_;refine jr (σ:=Int) (fun t3=>JJ [(8,v1),(9,I (list_0.length:Int)),(10,I t3)] [zi w0 F]) (jI [0]) ?_;rintro nx4 t3;refine nxj ?_;refine y0 ?_;refine je st ?_;refine y9 ?_;refine zj ?_ ?_
  ·refine y11 ?_;refine zH st 0 (zc hv1) Ua ?_;intro e5 h6;obtain ⟨_,⟨v8,rfl,sl9⟩,rw7⟩:=jq hv1 h6;refine jH st (u:=(.agg #[v8,I e5.xAction,I e5.xChain])) 0 rw7 zaL ?_;refine stw (jg [S0,I 0,I 0] Yo ?_);intro b11;obtain ⟨a13,l14,q15,rfl⟩:=zx sl9;refine stw (zX (cs':=[.slice a13 l14 q15,I e5.xAction,I e5.xChain]) 0 zaL ?_);refine y2 ?_;refine zp st (v:=(.agg #[.slice a13 l14 q15,I e5.xAction,I e5.xChain])) 0 zaL ?_;refine stw (zm Tryz.call162 (by intro w m h;exact rf0 (zak (F:=zZ [] w) (r_0:=e5) zn (m.q 1 sl9) (m.q 1 hgl0) h)) ?_);rintro r16 _;refine jF st ?_;refine y1 ?_;refine zj ?_ ?_
   ·refine y0 ?_;refine ma ?_;refine y16 ?_;exact lu Tryz.results109
   ·refine y14 ?_;refine ja st ?_;intro t17;refine mv ?_;refine zA ?_;exact lj [1]
  ·refine y7 ?_;refine ma ?_;refine y3 ?_;exact lu Tryz.results109
theorem Us {w0:World} {F:Nat→Prop} {v1:Value} {rules_0:(List zK)} {κ:(List Int)→Prop} (hF:Fr [] F w0) (hv1:Sl uz F w0 v1 rules_0) (h:Ze rules_0 κ) :
  Calls Tryz.prog 110 #[v1] w0 (Ret [] F w0 κ (fun r (u:Value)=>u) (fun r u=>[zg xW 3 u r])):=by
 refine eS hF Tryz.func110 Tryz.ntmps110 h ?_;clear h hF;let JJ:=Jn 34 [] F w0;refine y0 ?_;refine stw (jK xW 3 ?_);refine y2 ?_;refine stw (xD (El':=zbj) (z:=(false:Bool)) (len:=5) (zs:=[.bool false]) (fun F w=>(VG _ _ _ _).2 rfl) zg5 ?_);intro b4;refine y4 ?_;refine mv ?_;refine zL st Ua 2 (zc hv1) ?_;refine mv ?_;refine y5 ?_;refine jr (σ:=((List Bool)×Int)) (fun (xs6,t8)=>JJ [(3,pp b4),(9,v1),(10,I (rules_0.length:Int)),(11,I t8)] [zg zbj 203 (.slice (some ⟨b4,0,none⟩) 5 5) xs6,zi w0 F]) (jI [0,2]) ?_;rintro nx9 ⟨xs6,t8⟩;refine nxj ?_;refine y0 ?_;refine je st ?_;refine y9 ?_;refine zj ?_ ?_
 ·refine y18 ?_;refine zU (σ:=(List Bool)) (fun xs84=>JJ [(3,pp b4),(9,v1),(10,I (rules_0.length:Int)),(11,I t8)] [zg zbj 203 (.slice (some ⟨b4,0,none⟩) 5 5) xs84,zi w0 F]) ?_ ?_
  ·intro k86;refine y20 ?_;refine zH st 1 (zc hv1) Ua ?_;intro e10 h11;obtain ⟨_,⟨v13,rfl,sl14⟩,rw12⟩:=jq hv1 h11;refine jH st (u:=(.agg #[v13,I e10.xAction,I e10.xChain])) 1 rw12 zaL ?_;refine stw (jg [S0,I 0,I 0] Yo ?_);intro b16;obtain ⟨a18,l19,q20,rfl⟩:=zx sl14;refine stw (zX (cs':=[.slice a18 l19 q20,I e10.xAction,I e10.xChain]) 0 zaL ?_);refine y2 ?_;refine zu st US ?_;refine zp st (v:=(I e10.xAction)) 0 ty3 ?_;refine jC st xS ?_;refine y1 ?_;refine zj ?_ ?_
   ·refine zq ?_;refine zu st YK ?_;refine zp st (v:=(I e10.xChain)) 0 ty3 ?_;refine jY st 1 zh zfY ?_;intro e21 h22;refine stw (zax (enc:=UI) (y':=true) 1 VG h22 ty4 ?_);refine y12 ?_;exact lj [1,2]
   ·refine y23 ?_;exact lj [1,2]
  ·rintro xs84;refine nxj ?_;refine zq ?_;refine ja st ?_;intro t87;refine mv ?_;refine zA ?_;exact lj [0,1]
 ·refine y7 ?_;refine stw (jK xW 3 ?_);refine y4 ?_;refine zgH 1 rfl ?_;intro e89 e90 e91 e92 e93;refine stw (zgf xA (u:=[.bool e89,.bool e90,.bool e91,.bool e92,.bool e93]) 1 zh VG zif ?_);refine mv ?_;refine y5 ?_;refine jr (σ:=((List Int)×Int)) (fun ((xs96,t99):((List Int)×Int)) (a:Act) (w:World)=>∃ (v95:Value),JJ [(6,v95),(22,.agg #[.bool e89,.bool e90,.bool e91,.bool e92,.bool e93]),(23,I t99)] [zg xW 3 v95 xs96] a w) (jE S0 [0]) ?_;rintro nx100 ⟨xs96,t99⟩ a w ⟨v95,hE,hm⟩ h;refine jM hE hm h ?_;clear hE hm h;refine y0 ?_;refine je st ?_;refine y9 ?_;refine zj ?_ ?_
  ·refine y18 ?_;refine zU (σ:=(List Int)) (fun (xs166:(List Int)) (a:Act) (w:World)=>∃ (v167:Value),JJ [(6,v167),(22,.agg #[.bool e89,.bool e90,.bool e91,.bool e92,.bool e93]),(23,I t99)] [zg xW 3 v167 xs166] a w) ?_ ?_
   ·intro k169;refine y20 ?_;refine mv ?_;refine zhR st (enc:=UI) (zs:=[e89,e90,e91,e92,e93]) (u:=fun (e101:Bool)=>(.bool e101)) zfY (fun _=>rfl) (fun _=>rfl) ?_;intro e101;refine ma ?_;refine ma ?_;refine y2 ?_;refine mv ?_;refine y1 ?_;refine zj ?_ ?_
    ·refine zq ?_;refine mv ?_;refine mv ?_;refine stw (jG (enc:=uN) (qs:=[(0,I t99)]) (cells:=[I t99]) ([t99]) xh (by intro ρ h;simp only [List.map_toArray,List.map_cons,List.map_nil,h (.tmp 29) _ rfl]) V8 zbG ?_);intro v102;refine stw (xj 1 0 (xr xh zh) V8 zbG ?_);intro v104;refine ma ?_;refine y12 ?_;exact zO (xs96++([t99])) (jE v104 [1])
    ·refine y23 ?_;exact zO xs96 (jE v95 [0])
   ·rintro xs166 a w ⟨v167,hE,hm⟩ h;refine jM hE hm h ?_;clear hE hm h;refine zq ?_;refine ja st ?_;intro t170;refine mv ?_;refine zA ?_;exact zO (xs166,t170) (jE v167 [0])
  ·refine y7 ?_;refine mv ?_;refine ma ?_;refine y3 ?_;exact js Tryz.results110 xs96 v95 (ju rfl) (fun w m=>zP.ofB m [0] rfl)
theorem Vl:∀ (n:Nat) {w0:World} {F:Nat→Prop} {b3:Nat} {v1:Value} {chains_0:(List (List zK))} {chain_1:Int} {colours_2:(List Int)} {κ:(Bool×(List Int))→Prop} (hF:Fr [zg xW 204 (.slice (some ⟨b3,0,none⟩) 5 5) colours_2] F w0) (hg:xO [zg xW 204 (.slice (some ⟨b3,0,none⟩) 5 5) colours_2] F w0) (hv1:Sl (zT uz) F w0 v1 chains_0) (h:x7 n chains_0 chain_1 colours_2 κ),
  Calls Tryz.prog 163 #[v1,(I chain_1),(pp b3)] w0 (Ret [zg xW 204 (.slice (some ⟨b3,0,none⟩) 5 5) colours_2] F w0 κ (fun r (u:Unit)=>(.bool r.1)) (fun r u=>[zg xW 204 (.slice (some ⟨b3,0,none⟩) 5 5) r.2])):=by
 intro n;induction n with
 | zero =>
  intro w0 F b3 v1 chains_0 chain_1 colours_2 κ hF hg hv1 h;exact (h:False).elim
 | succ n ih =>
  intro w0 F b3 v1 chains_0 chain_1 colours_2 κ hF hg hv1 h;replace h:yO (x7 n) chains_0 chain_1 colours_2 κ:=h;revert h ih;generalize x7 n=rec;intro ih h;refine uS (args:=[v1,I chain_1,pp b3]) [zg xW 204 (.slice (some ⟨b3,0,none⟩) 5 5) colours_2] hF hg Tryz.func163 rfl Tryz.ntmps163 rfl h ?_;clear h hF hg;let JJ:=Jn 48 [zg xW 204 (.slice (some ⟨b3,0,none⟩) 5 5) colours_2] F w0;refine y0 ?_;refine ma ?_;refine y4 ?_;refine mv ?_;refine mv ?_;refine zL st Ym 1 (zc hv1) ?_;refine YW st ?_;refine y1 ?_;refine zj ?_ ?_
  ·refine y0 ?_;refine ma ?_;refine y6 ?_;exact js Tryz.results163 (true,colours_2) () (ju rfl) (fun w m=>zP.ofB m [0] rfl)
  ·refine y13 ?_;refine mv ?_;refine mv ?_;refine jR st ?_;refine jY st 0 zh zec ?_;intro e5 h6;refine jh st (enc:=uN) (u:=(I e5)) 0 zh xh h6 ty3 ?_;refine y26 ?_;refine jC st xS ?_;refine ma ?_;refine y1 ?_;refine zj ?_ ?_
   ·refine y0 ?_;refine ma ?_;refine y24 ?_;exact js Tryz.results163 (false,colours_2) () (ju rfl) (fun w m=>zP.ofB m [0] rfl)
   ·refine y0 ?_;refine jC st xS ?_;refine ma ?_;refine y1 ?_;refine zj ?_ ?_
    ·refine y0 ?_;refine ma ?_;refine y24 ?_;exact js Tryz.results163 (true,colours_2) () (ju rfl) (fun w m=>zP.ofB m [0] rfl)
    ·refine jA (ua (z6 (jP (zq ?_))));refine mv ?_;refine mv ?_;refine jR st ?_;refine jY st 0 zh zec ?_;intro e7 h8;refine stw (zax (enc:=uN) (y':=1) 0 xh h8 ty3 ?_);refine y2 ?_;refine ma ?_;refine y4 ?_;refine mv ?_;refine mv ?_;refine zH st 1 (zc hv1) Ym ?_;intro e10 h11;obtain ⟨_,⟨v13,rfl,sl14⟩,rw12⟩:=jq hv1 h11;refine jH st (u:=v13) 1 rw12 zc2 ?_;refine stw (zm Tryz.call110 (by intro w m h;exact rf (fun _ _=>(zJ (xJ xh) zW)) (Us (F:=zZ [] w) (rules_0:=e10) zn (m.q 1 sl14) h)) ?_);rintro r16 v17;refine zL st V8 0 zh ?_;refine mv ?_;refine y5 ?_;refine jr (σ:=((List Int)×Bool×Int)) (fun (xs19,t21,t22)=>JJ [(0,v1),(1,I chain_1),(2,pp b3),(7,.bool t21),(31,v17),(32,I (r16.length:Int)),(33,I t22)] [zg xW 3 v17 r16,zg xW 204 (.slice (some ⟨b3,0,none⟩) 5 5) xs19,zi w0 F]) (jI [0,1,2]) ?_;rintro nx23 ⟨xs19,t21,t22⟩;refine nxj ?_;refine y0 ?_;refine je st ?_;refine y9 ?_;refine zj ?_ ?_
     ·refine y18 ?_;refine zU (σ:=((List Int)×Bool)) (fun (xs89,t91)=>JJ [(0,v1),(1,I chain_1),(2,pp b3),(7,.bool t91),(31,v17),(32,I (r16.length:Int)),(33,I t22)] [zg xW 204 (.slice (some ⟨b3,0,none⟩) 5 5) xs89,zg xW 3 v17 r16,zi w0 F]) ?_ ?_
      ·intro k92;refine y20 ?_;refine zH st 0 zh V8 ?_;intro e24 h25;refine jh st (enc:=uN) (u:=(I e24)) 0 zh xh h25 ty3 ?_;refine ma ?_;refine y2 ?_;refine mv ?_;refine mv ?_;refine mv ?_;refine pk' [1,0,2] ?_;refine stw (zS (M0:=[zg xW 204 (.slice (some ⟨b3,0,none⟩) 5 5) xs19]) Tryz.call163 (by intro w m h;exact rf (fun _ _=>(zJ (xJ xh) zW)) (ih (F:=zZ [zg xW 204 (.slice (some ⟨b3,0,none⟩) 5 5) xs19] w) (chains_0:=chains_0) (chain_1:=e24) (colours_2:=xs19) zn m.given (m.qM 1 hv1) h)) ?_);rintro ⟨r26,r27⟩ _;refine jF st ?_;refine y1 ?_;refine zj ?_ ?_
       ·refine zq ?_;refine ma ?_;refine y12 ?_;exact lj [0,1,2]
       ·refine y23 ?_;exact lj [0,1,2]
      ·rintro ⟨xs89,t91⟩;refine nxj ?_;refine zq ?_;refine ja st ?_;intro t93;refine mv ?_;refine zA ?_;exact lj [1,0,2]
     ·refine y7 ?_;refine mv ?_;refine mv ?_;refine jR st ?_;refine jY st 1 zh zec ?_;intro e94 h95;refine stw (zax (enc:=uN) (y':=2) 1 xh h95 ty3 ?_);refine y2 ?_;refine mv ?_;refine ma ?_;refine y3 ?_;exact js Tryz.results163 (t21,xs19.set (chain_1).toNat 2) () (ju rfl) (fun w m=>zP.ofB m [1] rfl)
theorem V1 {w0:World} {F:Nat→Prop} {b3:Nat} {v1:Value} {chains_0:(List (List zK))} {chain_1:Int} {colours_2:(List Int)} {κ:(Bool×(List Int))→Prop} (hF:Fr [zg xW 204 (.slice (some ⟨b3,0,none⟩) 5 5) colours_2] F w0) (hg:xO [zg xW 204 (.slice (some ⟨b3,0,none⟩) 5 5) colours_2] F w0) (hv1:Sl (zT uz) F w0 v1 chains_0) (h:Yg chains_0 chain_1 colours_2 κ) :
  Calls Tryz.prog 163 #[v1,(I chain_1),(pp b3)] w0 (Ret [zg xW 204 (.slice (some ⟨b3,0,none⟩) 5 5) colours_2] F w0 κ (fun r (u:Unit)=>(.bool r.1)) (fun r u=>[zg xW 204 (.slice (some ⟨b3,0,none⟩) 5 5) r.2])):=by
 obtain ⟨n,h⟩:=h;exact Vl n hF hg hv1 h
theorem zbm {w0:World} {F:Nat→Prop} {v1:Value} {chains_0:(List (List zK))} {κ:Bool→Prop} (hF:Fr [] F w0) (hv1:Sl (zT uz) F w0 v1 chains_0) (h:Z6 chains_0 κ) :
  Calls Tryz.prog 111 #[v1] w0 (Ret [] F w0 κ (fun r (u:Unit)=>(.bool r)) (fun r u=>[])):=by
 refine eS hF Tryz.func111 Tryz.ntmps111 h ?_;clear h hF;let JJ:=Jn 15 [] F w0;refine y0 ?_;refine ma ?_;refine y2 ?_;refine stw (xD (El':=xW) (z:=(0:Int)) (len:=5) (zs:=[I 0]) (fun F w=>(xh _ _ _ _).2 rfl) zgJ ?_);intro b3;refine y4 ?_;refine mv ?_;refine zL st Ym 1 (zc hv1) ?_;refine mv ?_;refine y5 ?_;refine jr (σ:=((List Int)×Int)) (fun (xs5,t7)=>JJ [(0,v1),(3,pp b3),(6,I (chains_0.length:Int)),(7,I t7)] [zg xW 204 (.slice (some ⟨b3,0,none⟩) 5 5) xs5,zi w0 F]) (jI [0,1]) ?_;rintro nx8 ⟨xs5,t7⟩;refine nxj ?_;refine y0 ?_;refine je st ?_;refine y9 ?_;refine zj ?_ ?_
 ·refine y11 ?_;refine mv ?_;refine ma ?_;refine y2 ?_;refine mv ?_;refine mv ?_;refine stw (zS (M0:=[zg xW 204 (.slice (some ⟨b3,0,none⟩) 5 5) xs5]) Tryz.call163 (by intro w m h;exact rf (fun _ _=>(zJ (xJ xh) zW)) (V1 (F:=zZ [zg xW 204 (.slice (some ⟨b3,0,none⟩) 5 5) xs5] w) (chains_0:=chains_0) (chain_1:=t7) (colours_2:=xs5) zn m.given (m.qM 0 hv1) h)) ?_);rintro ⟨r9,r10⟩ _;refine jF st ?_;refine y1 ?_;refine zj ?_ ?_
  ·refine y0 ?_;refine ma ?_;refine y16 ?_;exact lu Tryz.results111
  ·refine y14 ?_;refine ja st ?_;intro t12;refine mv ?_;refine zA ?_;exact lj [0,1]
 ·refine y7 ?_;refine ma ?_;refine y3 ?_;exact lu Tryz.results111
theorem UW {w0:World} {F:Nat→Prop} {v1:Value} {s_0:jm} {κ:Bool→Prop} (hF:Fr [] F w0) (hv1:Sl (zT uz) F w0 v1 s_0.xChains) (hgl0:Sl zY F w0 (.slice (some ⟨0,0,none⟩) 4 4) zC) (h:yb s_0 κ) :
  Calls Tryz.prog 63 #[(.agg #[v1,(.bool s_0.xAccept)])] w0 (Ret [] F w0 κ (fun r (u:Unit)=>(.bool r)) (fun r u=>[])):=by
 refine eS hF Tryz.func63 Tryz.ntmps63 h ?_;clear h hF;let JJ:=Jn 54 [] F w0;refine y0 ?_;obtain ⟨a3,l4,q5,rfl⟩:=zx hv1;refine stw (x5 [.slice a3 l4 q5,.bool s_0.xAccept] ?_);intro b6;refine ma ?_;refine y9 ?_;refine zU (σ:=Bool) (fun t68=>JJ [(1,pp b6),(18,.bool t68)] [zb b6 [.slice a3 l4 q5,.bool s_0.xAccept] 25,zi w0 F]) ?_ ?_
 ·intro k69;refine zq ?_;refine zu st yv ?_;refine zp st (v:=(.slice a3 l4 q5)) 0 UY ?_;refine zL st Ym 1 (zc hv1) ?_;refine je st ?_;refine mv ?_;refine jW (dj:=13) rfl ?_ ?_
  ·refine ss ?_;refine ss ?_;refine ss ?_;refine ss ?_;refine zQ st ?_;refine zA ?_;exact lj [0,1]
  ·refine zu (zR rfl rfl) yv ?_;refine zp (zR rfl rfl) (v:=(.slice a3 l4 q5)) 0 UY ?_;refine zL (zR rfl rfl) Ym 1 (zc hv1) ?_;refine xZ (zR rfl rfl) ?_;refine zM st ?_;refine zA ?_;exact lj [0,1]
 ·rintro t68;refine nxj ?_;refine zj ?_ ?_
  ·refine y0 ?_;refine ma ?_;refine y6 ?_;exact lu Tryz.results63
  ·refine y13 ?_;refine zu st yv ?_;refine zp st (v:=(.slice a3 l4 q5)) 0 UY ?_;refine zL st Ym 1 (zc hv1) ?_;refine mv ?_;refine y5 ?_;refine jr (σ:=Int) (fun t70=>JJ [(1,pp b6),(20,.slice a3 l4 q5),(21,I (s_0.xChains.length:Int)),(22,I t70)] [zb b6 [.slice a3 l4 q5,.bool s_0.xAccept] 25,zi w0 F]) (jI [0,1]) ?_;rintro nx71 t70;refine nxj ?_;refine y0 ?_;refine je st ?_;refine y9 ?_;refine zj ?_ ?_
   ·refine y11 ?_;refine zH st 1 (zc hv1) Ym ?_;intro e72 h73;obtain ⟨_,⟨v75,rfl,sl76⟩,rw74⟩:=jq hv1 h73;refine jH st (u:=v75) 1 rw74 zc2 ?_;refine ma ?_;refine y2 ?_;refine mv ?_;refine stw (zm Tryz.call109 (by intro w m h;exact rf0 (V9 (F:=zZ [] w) (list_0:=e72) zn (m.q 1 sl76) (m.q 1 hgl0) h)) ?_);rintro r78 _;refine jF st ?_;refine y1 ?_;refine zj ?_ ?_
    ·refine y0 ?_;refine ma ?_;refine y16 ?_;exact lu Tryz.results63
    ·refine y14 ?_;refine ja st ?_;intro t79;refine mv ?_;refine zA ?_;exact lj [0,1]
   ·refine y32 ?_;refine zu st yv ?_;refine zp st (v:=(.slice a3 l4 q5)) 0 UY ?_;refine zL st Ym 1 (zc hv1) ?_;refine mv ?_;refine y5 ?_;refine jr (σ:=Int) (fun t80=>JJ [(1,pp b6),(31,.slice a3 l4 q5),(32,I (s_0.xChains.length:Int)),(33,I t80)] [zb b6 [.slice a3 l4 q5,.bool s_0.xAccept] 25,zi w0 F]) (jI [0,1]) ?_;rintro nx81 t80;refine nxj ?_;refine y0 ?_;refine je st ?_;refine y9 ?_;refine zj ?_ ?_
    ·refine y11 ?_;refine zH st 1 (zc hv1) Ym ?_;intro e82 h83;obtain ⟨_,⟨v85,rfl,sl86⟩,rw84⟩:=jq hv1 h83;refine jH st (u:=v85) 1 rw84 zc2 ?_;refine ma ?_;refine y2 ?_;refine mv ?_;refine stw (zm Tryz.call110 (by intro w m h;exact rf (fun _ _=>(zJ (xJ xh) zW)) (Us (F:=zZ [] w) (rules_0:=e82) zn (m.q 1 sl86) h)) ?_);rintro r88 v89;refine zL st V8 0 zh ?_;refine mv ?_;refine y5 ?_;refine jr (σ:=Int) (fun t91=>JJ [(1,pp b6),(31,.slice a3 l4 q5),(32,I (s_0.xChains.length:Int)),(33,I t80),(38,v89),(39,I (r88.length:Int)),(40,I t91)] [zg xW 3 v89 r88,zb b6 [.slice a3 l4 q5,.bool s_0.xAccept] 25,zi w0 F]) (jI [0,1,2]) ?_;rintro nx92 t91;refine nxj ?_;refine y0 ?_;refine je st ?_;refine y9 ?_;refine zj ?_ ?_
     ·refine y11 ?_;refine zH st 0 zh V8 ?_;intro e93 h94;refine jh st (enc:=uN) (u:=(I e93)) 0 zh xh h94 ty3 ?_;refine ma ?_;refine y2 ?_;refine mv ?_;refine zu st yv ?_;refine zp st (v:=(.slice a3 l4 q5)) 1 UY ?_;refine zL st Ym 2 (zc hv1) ?_;refine YW st ?_;refine y1 ?_;refine zj ?_ ?_
      ·refine y0 ?_;refine ma ?_;refine zA (z6 (ui (uj (jZ (jZ (uj (uj (jZ (jZ (uj (jZ ?_)))))))))));exact lu Tryz.results63
      ·refine y14 ?_;refine ja st ?_;intro t95;refine mv ?_;refine zA ?_;exact lj [0,1,2]
     ·refine y27 ?_;refine ja st ?_;intro t96;refine mv ?_;refine zA ?_;exact lj [1,2]
    ·refine y7 ?_;refine zu st yv ?_;refine zp st (v:=(.slice a3 l4 q5)) 0 UY ?_;refine stw (zm Tryz.call111 (by intro w m h;exact rf0 (zbm (F:=zZ [] w) (chains_0:=s_0.xChains) zn (m.q 1 hv1) h)) ?_);rintro r97 _;refine ma ?_;refine y3 ?_;exact lu Tryz.results63
theorem zaS {w0:World} {F:Nat→Prop} {v1:Value} {r_0:zK} {κ:xY→Prop} (hF:Fr [] F w0) (hv1:Sl jS F w0 v1 r_0.xTests) (h:XM r_0 κ) :
  Calls Tryz.prog 166 #[(.agg #[v1,(I r_0.xAction),(I r_0.xChain)])] w0 (Ret [] F w0 κ (fun r (u:Unit)=>(XW r)) (fun r u=>[])):=by
 refine eS hF Tryz.func166 Tryz.ntmps166 h ?_;clear h hF;refine y0 ?_;obtain ⟨a3,l4,q5,rfl⟩:=zx hv1;refine stw (x5 [.slice a3 l4 q5,I r_0.xAction,I r_0.xChain] ?_);intro b6;refine ma ?_;refine y4 ?_;refine zu st US ?_;refine zp st (v:=(I r_0.xAction)) 0 ty3 ?_;refine y26 ?_;refine jC st xS ?_;refine ma ?_;refine y1 ?_;refine zj ?_ ?_
 ·refine y0 ?_;refine jn st (qs:=[(0,.bool true)]) (cells:=[.bool true]) (bqi rfl) zgb ?_;refine zae st (u:=(XW (xY.kDeciding (uq.mk true)))) zfH ?_;refine ma ?_;refine y24 ?_;exact lu Tryz.results166
 ·refine y0 ?_;refine jC st xS ?_;refine ma ?_;refine y1 ?_;refine zj ?_ ?_
  ·refine y0 ?_;refine jn st (qs:=[(0,.bool false)]) (cells:=[.bool false]) (bqi rfl) zgb ?_;refine zae st (u:=(XW (xY.kDeciding (uq.mk false)))) zfH ?_;refine ma ?_;refine y24 ?_;exact lu Tryz.results166
  ·refine y0 ?_;refine jC st xS ?_;refine ma ?_;refine y1 ?_;refine zj ?_ ?_
   ·refine y0 ?_;refine zu st YK ?_;refine zp st (v:=(I r_0.xChain)) 0 ty3 ?_;refine jn st (qs:=[(0,I r_0.xChain)]) (cells:=[I r_0.xChain]) (bqi rfl) zh1 ?_;refine zae st (u:=(XW (xY.kCalling (Zf.mk r_0.xChain)))) zhA ?_;refine ma ?_;refine y24 ?_;exact lu Tryz.results166
   ·refine y0 ?_;refine jC st xS ?_;refine ma ?_;refine y1 ?_;refine zj ?_ ?_
    ·refine y0 ?_;refine jn st (qs:=[]) (cells:=[]) (bqi rfl) zhp ?_;refine zae st (u:=(XW (xY.kReturning (um.mk )))) zhG ?_;refine ma ?_;refine y24 ?_;exact lu Tryz.results166
    ·refine jA (ua (z6 (jP (zq ?_))));refine jn st (qs:=[]) (cells:=[]) (bqi rfl) zhF ?_;refine zae st (u:=(XW (xY.kPassing (yk.mk )))) zhP ?_;refine ma ?_;refine y3 ?_;exact lu Tryz.results166
theorem Vh {w0:World} {F:Nat→Prop} {v1 v3:Value} {a_0 b_1:(List zd)} {κ:(Int×Bool)→Prop} (hF:Fr [] F w0) (hv1:Sl ze F w0 v1 a_0) (hv3:Sl ze F w0 v3 b_1) (h:xU a_0 b_1 κ) :
  Calls Tryz.prog 200 #[v1,v3] w0 (Ret [] F w0 κ (fun r (u:Unit)=>.tuple #[(I r.1),(.bool r.2)]) (fun r u=>[])):=by
 refine eS hF Tryz.func200 Tryz.ntmps200 h ?_;clear h hF;let JJ:=Jn 59 [] F w0;refine y0 ?_;refine ma ?_;refine ma ?_;refine y4 ?_;refine ma ?_;refine ma ?_;refine y5 ?_;refine jr (σ:=(Int×Int)) (fun (t5,t6)=>JJ [(0,v1),(1,v3),(6,I t5),(7,I t6)] [zi w0 F]) (jI [0]) ?_;rintro nx7 ⟨t5,t6⟩;refine nxj ?_;refine jP ?_;refine zU (σ:=Bool) (fun t68=>JJ [(0,v1),(1,v3),(6,I t5),(7,I t6),(18,.bool t68)] [zi w0 F]) ?_ ?_
 ·intro k69;refine zq ?_;refine mv ?_;refine mv ?_;refine zL st jk 0 (zc hv1) ?_;refine je st ?_;refine mv ?_;refine jW (dj:=13) rfl ?_ ?_
  ·refine zw (zR rfl rfl) ?_;refine zw (zR rfl rfl) ?_;refine zL (zR rfl rfl) jk 0 (zc hv3) ?_;refine je (zR rfl rfl) ?_;refine zQ st ?_;refine zA ?_;exact lj [0]
  ·refine ss ?_;refine ss ?_;refine ss ?_;refine ss ?_;refine zM st ?_;refine zA ?_;exact lj [0]
 ·rintro t68;refine nxj ?_;refine zj ?_ ?_
  ·refine jA (z6 (uH (jP ?_)));refine ud mixed 12 rfl [zi w0 F] ?_;refine zw (dI 0) ?_;refine zw (dI 1) ?_;refine zH (dI 2) 0 (zc hv1) jk ?_;intro e70 h71;refine jo (dI 3) 0 (zc hv1) h71 xf ?_;refine jh (dI 4) (enc:=zE) (u:=(I e70.xLo)) 0 (zc hv1) zl h71 ty3 ?_;refine zw (dI 5) ?_;refine zw (dI 6) ?_;refine zH (dI 7) 0 (zc hv3) jk ?_;intro e72 h73;refine jo (dI 8) 0 (zc hv3) h73 xf ?_;refine jh (dI 9) (enc:=zE) (u:=(I e72.xLo)) 0 (zc hv3) zl h73 ty3 ?_;refine zd7 (dI 10) ?_;refine uy (dI 11) ?_;refine jV (by kernel_rfl) ?_;refine z6 (jP (jP ?_));refine ud mixed 13 rfl [zi w0 F] ?_;refine zw (dI 0) ?_;refine zw (dI 1) ?_;refine zw (dI 2) ?_;refine zH (dI 3) 0 (zc hv1) jk ?_;intro e74 h75;refine jo (dI 4) 0 (zc hv1) h75 jJ ?_;refine jh (dI 5) (enc:=zE) (u:=(I e74.xHi)) 0 (zc hv1) zl h75 ty3 ?_;refine zw (dI 6) ?_;refine zw (dI 7) ?_;refine zH (dI 8) 0 (zc hv3) jk ?_;intro e76 h77;refine jo (dI 9) 0 (zc hv3) h77 jJ ?_;refine jh (dI 10) (enc:=zE) (u:=(I e76.xHi)) 0 (zc hv3) zl h77 ty3 ?_;refine YO (dI 11) ?_;refine yG (dI 12) ?_;refine jV (by kernel_rfl) ?_;refine z6 ?_;refine zj ?_ ?_
   ·refine y0 ?_;refine mv ?_;refine ma ?_;refine ma ?_;refine zA (z6 (ui (jZ (uj (jZ (uj (jZ ?_)))))));exact jU Tryz.results200 (max e70.xLo e72.xLo,true) () (ju rfl) (ju rfl) rfl (fun _ _=>zP.nil _ _ _ _)
   ·refine jA (z6 (jP ?_));refine ud mixed 11 rfl [zi w0 F] ?_;refine zw (dI 0) ?_;refine zw (dI 1) ?_;refine zH (dI 2) 0 (zc hv1) jk ?_;intro e78 h79;refine jo (dI 3) 0 (zc hv1) h79 jJ ?_;refine jh (dI 4) (enc:=zE) (u:=(I e78.xHi)) 0 (zc hv1) zl h79 ty3 ?_;refine zw (dI 5) ?_;refine zw (dI 6) ?_;refine zH (dI 7) 0 (zc hv3) jk ?_;intro e80 h81;refine jo (dI 8) 0 (zc hv3) h81 jJ ?_;refine jh (dI 9) (enc:=zE) (u:=(I e80.xHi)) 0 (zc hv3) zl h81 ty3 ?_;refine je (dI 10) ?_;refine jV (by kernel_rfl) ?_;refine z6 ?_;refine zj ?_ ?_
    ·refine zq ?_;refine mv ?_;refine ja st ?_;intro t82;refine ma ?_;refine y12 ?_;exact lj [0]
    ·refine zq ?_;refine mv ?_;refine ja st ?_;intro t83;refine ma ?_;refine y12 ?_;exact lj [0]
  ·refine y7 ?_;refine ma ?_;refine ma ?_;refine y3 ?_;exact jU Tryz.results200 (0,false) () (ju rfl) (ju rfl) rfl (fun _ _=>zP.nil _ _ _ _)
end
section
open Go.RowKit
theorem zaE {w0:World} {F:Nat→Prop} {fields_0:zeQ} {κ:z7→Prop} (hF:Fr [] F w0) (h:XQ fields_0 κ) :
  Calls Tryz.prog 201 #[(.agg #[(I fields_0.x0),(I fields_0.x1),(I fields_0.x2),(I fields_0.x3)])] w0 (Ret [] F w0 κ (fun r (u:Unit)=>(.agg #[(I r.xFrom),(I r.xTo),(I r.xPort),(I r.xProto)])) (fun r u=>[])):=by
 refine Ys (args:=[.agg #[I fields_0.x0,I fields_0.x1,I fields_0.x2,I fields_0.x3]]) [] hF (xO.nil _ _) Tryz.func201 rfl Tryz.ntmps201 rfl h ?_;clear h hF;refine y0 ?_;refine stw (Xk (El':=xW) (len:=4) ([fields_0.x0,fields_0.x1,fields_0.x2,fields_0.x3]) ([[I fields_0.x0],[I fields_0.x1],[I fields_0.x2],[I fields_0.x3]]) (fun w m=>⟨(xh _ _ _ _).2 rfl,(xh _ _ _ _).2 rfl,(xh _ _ _ _).2 rfl,(xh _ _ _ _).2 rfl,trivial⟩) ?_);intro b1;refine stw (jg [I 0,I 0,I 0,I 0] Ux ?_);intro b3;refine y2 ?_;refine jY st 1 zh zbP ?_;intro e5 h6;refine jh st (enc:=uN) (u:=(I e5)) 1 zh xh h6 ty3 ?_;refine jY st 1 zh zbP ?_;intro e7 h8;refine jh st (enc:=uN) (u:=(I e7)) 1 zh xh h8 ty3 ?_;refine jY st 1 zh zbP ?_;intro e9 h10;refine jh st (enc:=uN) (u:=(I e9)) 1 zh xh h10 ty3 ?_;refine jY st 1 zh zbP ?_;intro e11 h12;refine jh st (enc:=uN) (u:=(I e11)) 1 zh xh h12 ty3 ?_;refine jn st (qs:=[(0,I e5),(1,I e7),(2,I e9),(3,I e11)]) (cells:=[I e5,I e7,I e9,I e11]) (bqi rfl) zfM ?_;refine stw (zX (cs':=[I e5,I e7,I e9,I e11]) 0 YE ?_);refine y3 ?_;exact js Tryz.results201 (z7.mk e5 e7 e9 e11) () (Zd 0 rfl rfl YE rfl) (fun _ _=>zP.nil _ _ _ _)
theorem ZL {w0:World} {F:Nat→Prop} {v1 v3 v5 v7 v9 v11 v13 v15:Value} {s_0 other_1:za} {κ:(z7×Bool)→Prop} (hF:Fr [] F w0) (hv1:Sl ze F w0 v1 s_0.x0) (hv3:Sl ze F w0 v3 s_0.x1) (hv5:Sl ze F w0 v5 s_0.x2) (hv7:Sl ze F w0 v7 s_0.x3) (hv9:Sl ze F w0 v9 other_1.x0) (hv11:Sl ze F w0 v11 other_1.x1) (hv13:Sl ze F w0 v13 other_1.x2) (hv15:Sl ze F w0 v15 other_1.x3) (h:xP s_0 other_1 κ) :
  Calls Tryz.prog 156 #[(.agg #[v1,v3,v5,v7]),(.agg #[v9,v11,v13,v15])] w0 (Ret [] F w0 κ (fun r (u:Unit)=>.tuple #[(.agg #[(I r.1.xFrom),(I r.1.xTo),(I r.1.xPort),(I r.1.xProto)]),(.bool r.2)]) (fun r u=>[])):=by
 refine eS hF Tryz.func156 Tryz.ntmps156 h ?_;clear h hF;let JJ:=Jn 32 [] F w0;refine y0 ?_;obtain ⟨a17,l18,q19,rfl⟩:=zx hv1;obtain ⟨a20,l21,q22,rfl⟩:=zx hv3;obtain ⟨a23,l24,q25,rfl⟩:=zx hv5;obtain ⟨a26,l27,q28,rfl⟩:=zx hv7;refine stw (Xk (El':=(zT ze)) (len:=4) ([s_0.x0,s_0.x1,s_0.x2,s_0.x3]) ([[.slice a17 l18 q19],[.slice a20 l21 q22],[.slice a23 l24 q25],[.slice a26 l27 q28]]) (fun w m=>⟨⟨.slice a17 l18 q19,rfl,m.roS 0 rfl hv1⟩,⟨.slice a20 l21 q22,rfl,m.roS 0 rfl hv3⟩,⟨.slice a23 l24 q25,rfl,m.roS 0 rfl hv5⟩,⟨.slice a26 l27 q28,rfl,m.roS 0 rfl hv7⟩,trivial⟩) ?_);intro b29;obtain ⟨a31,l32,q33,rfl⟩:=zx hv9;obtain ⟨a34,l35,q36,rfl⟩:=zx hv11;obtain ⟨a37,l38,q39,rfl⟩:=zx hv13;obtain ⟨a40,l41,q42,rfl⟩:=zx hv15;refine stw (Xk (El':=(zT ze)) (len:=4) ([other_1.x0,other_1.x1,other_1.x2,other_1.x3]) ([[.slice a31 l32 q33],[.slice a34 l35 q36],[.slice a37 l38 q39],[.slice a40 l41 q42]]) (fun w m=>⟨⟨.slice a31 l32 q33,rfl,m.roS 1 rfl hv9⟩,⟨.slice a34 l35 q36,rfl,m.roS 1 rfl hv11⟩,⟨.slice a37 l38 q39,rfl,m.roS 1 rfl hv13⟩,⟨.slice a40 l41 q42,rfl,m.roS 1 rfl hv15⟩,trivial⟩) ?_);intro b43;refine stw (jg [I 0,I 0,I 0,I 0] Ux ?_);intro b45;refine ma ?_;refine y2 ?_;refine stw (xD (El':=xW) (z:=(0:Int)) (len:=4) (zs:=[I 0]) (fun F w=>(xh _ _ _ _).2 rfl) zgP ?_);intro b47;refine y4 ?_;refine mv ?_;refine y5 ?_;refine jr (σ:=((List Int)×Int)) (fun (xs49,t51)=>JJ [(2,pp b29),(3,pp b43),(4,pp b45),(6,pp b47),(10,I t51)] [zg xW 152 (.slice (some ⟨b47,0,none⟩) 4 4) xs49,zb b45 [I 0,I 0,I 0,I 0] 34,zg (zT ze) 137 (.slice (some ⟨b43,0,none⟩) 4 4) ([other_1.x0,other_1.x1,other_1.x2,other_1.x3]),zg (zT ze) 137 (.slice (some ⟨b29,0,none⟩) 4 4) ([s_0.x0,s_0.x1,s_0.x2,s_0.x3])]) (jI [0,1,2,3]) ?_;rintro nx52 ⟨xs49,t51⟩;refine nxj ?_;refine y0 ?_;refine je st ?_;refine y9 ?_;refine zj ?_ ?_
 ·refine y11 ?_;refine mv ?_;refine ma ?_;refine y1 ?_;refine zU (σ:=(Int×Bool)) (fun (t53,t54)=>JJ [(2,pp b29),(3,pp b43),(4,pp b45),(6,pp b47),(10,I t51),(7,I t51),(8,I t53),(9,.bool t54)] [zg xW 152 (.slice (some ⟨b47,0,none⟩) 4 4) xs49,zb b45 [I 0,I 0,I 0,I 0] 34,zg (zT ze) 137 (.slice (some ⟨b43,0,none⟩) 4 4) ([other_1.x0,other_1.x1,other_1.x2,other_1.x3]),zg (zT ze) 137 (.slice (some ⟨b29,0,none⟩) 4 4) ([s_0.x0,s_0.x1,s_0.x2,s_0.x3])]) ?_ ?_
  ·intro k55;refine Zm mixed 12 rfl [zg xW 152 (.slice (some ⟨b47,0,none⟩) 4 4) xs49,zb b45 [I 0,I 0,I 0,I 0] 34,zg (zT ze) 137 (.slice (some ⟨b43,0,none⟩) 4 4) ([other_1.x0,other_1.x1,other_1.x2,other_1.x3]),zg (zT ze) 137 (.slice (some ⟨b29,0,none⟩) 4 4) ([s_0.x0,s_0.x1,s_0.x2,s_0.x3])] ?_;intro Qd hP hQ;let NN:=fun i l E L=>Nn 32 [] F w0 Tryz.prog (Yw Tryz.f156 [1,1,0,1,0,0,1,1,0,0,1,0]) Qd [zg xW 152 (.slice (some ⟨b47,0,none⟩) 4 4) xs49,zb b45 [I 0,I 0,I 0,I 0] 34,zg (zT ze) 137 (.slice (some ⟨b43,0,none⟩) 4 4) ([other_1.x0,other_1.x1,other_1.x2,other_1.x3]),zg (zT ze) 137 (.slice (some ⟨b29,0,none⟩) 4 4) ([s_0.x0,s_0.x1,s_0.x2,s_0.x3])] i l ([(2,pp b29),(3,pp b43),(4,pp b45),(6,pp b47),(10,I t51),(7,I t51)]++E) (L++[zg xW 152 (.slice (some ⟨b47,0,none⟩) 4 4) xs49,zb b45 [I 0,I 0,I 0,I 0] 34,zg (zT ze) 137 (.slice (some ⟨b43,0,none⟩) 4 4) ([other_1.x0,other_1.x1,other_1.x2,other_1.x3]),zg (zT ze) 137 (.slice (some ⟨b29,0,none⟩) 4 4) ([s_0.x0,s_0.x1,s_0.x2,s_0.x3])]);have H772 (e56:(List zd)) (h57:([s_0.x0,s_0.x1,s_0.x2,s_0.x3])[(t51).toNat]?=some e56) (e58:(List zd)) (h59:([other_1.x0,other_1.x1,other_1.x2,other_1.x3])[(t51).toNat]?=some e58) (wr60:World) (ff61:Nat→Prop) (v62:Value) (sl63:Sl ze ff61 wr60 v62 e56) (wr64:World) (ff65:Nat→Prop) (v66:Value) (sl67:Sl ze ff65 wr64 v66 e58) (r68:Int) (r69:Bool):NN 5 #[Y,Y,Y,Y,Y,Y,Y,Z,Z,Z,Z,Z] [(20,.tuple #[I r68,.bool r69])] [] (k55 (r68,r69)):=by
    refine zw (dI 7) ?_;refine jp (dI 8) (vs:=[I r68,.bool r69]) ?_;refine jp (dI 9) (vs:=[I r68,.bool r69]) ?_;refine uy (dI 10) ?_;refine uy (dI 11) ?_;exact dj hQ [0,1,2,3]
   have H773 (e56:(List zd)) (h57:([s_0.x0,s_0.x1,s_0.x2,s_0.x3])[(t51).toNat]?=some e56) (e58:(List zd)) (h59:([other_1.x0,other_1.x1,other_1.x2,other_1.x3])[(t51).toNat]?=some e58) (wr60:World) (ff61:Nat→Prop) (v62:Value) (sl63:Sl ze ff61 wr60 v62 e56) (wr64:World) (ff65:Nat→Prop) (v66:Value) (sl67:Sl ze ff65 wr64 v66 e58):NN 6 #[Y,Y,Y,Y,Y,Y,Z,Z,Z,Z,Z,Z] [(16,v62),(19,v66)] [zi wr64 ff65,zi wr60 ff61] (xU e56 e58 (fun (r68,r69)=>k55 (r68,r69))):=by
    refine d1 6 rfl (zm Tryz.call200 (by intro w m h;exact rf0 (Vh (F:=zZ [] w) (a_0:=e56) (b_1:=e58) zn (m.q 1 sl63) (m.q 0 sl67) h)) ?_);rintro ⟨r68,r69⟩ _;exact rd [2,3,4,5] [2,3,4,5] (H772 e56 h57 e58 h59 wr60 ff61 v62 sl63 wr64 ff65 v66 sl67 r68 r69)
   have H774 (e56:(List zd)) (h57:([s_0.x0,s_0.x1,s_0.x2,s_0.x3])[(t51).toNat]?=some e56) (e58:(List zd)) (h59:([other_1.x0,other_1.x1,other_1.x2,other_1.x3])[(t51).toNat]?=some e58) (wr60:World) (ff61:Nat→Prop) (v62:Value) (sl63:Sl ze ff61 wr60 v62 e56):NN 7 #[Y,Y,Y,Y,Y,Z,Z,Z,Z,Z,Z,Z] [(18,pEl (.slice (some ⟨b43,0,none⟩) 4 4) t51 1 0),(16,v62)] [zi wr60 ff61] (xU e56 e58 (fun (r68,r69)=>k55 (r68,r69))):=by
    refine d1 5 rfl (yl 3 ji h59 uI ?_);rintro wr64 ff65 _ ⟨v66,rfl,sl67⟩;refine ⟨v66,rfl,?_⟩;exact rd [2,3,4,5] [0,1,2,3,4,5] (H773 e56 h57 e58 h59 wr60 ff61 v62 sl63 wr64 ff65 v66 sl67)
   have H775 (e56:(List zd)) (h57:([s_0.x0,s_0.x1,s_0.x2,s_0.x3])[(t51).toNat]?=some e56) (e58:(List zd)) (h59:([other_1.x0,other_1.x1,other_1.x2,other_1.x3])[(t51).toNat]?=some e58) (wr70:World) (ff71:Nat→Prop) (v72:Value) (sl73:Sl ze ff71 wr70 v72 e58):NN 7 #[Y,Y,Z,Y,Y,Y,Z,Z,Z,Z,Z,Z] [(15,pEl (.slice (some ⟨b29,0,none⟩) 4 4) t51 1 0),(19,v72)] [zi wr70 ff71] (xU e56 e58 (fun (r68,r69)=>k55 (r68,r69))):=by
    refine d1 2 rfl (yl 4 ji h57 uI ?_);rintro wr74 ff75 _ ⟨v76,rfl,sl77⟩;refine ⟨v76,rfl,?_⟩;exact rd [2,3,4,5] [1,0,2,3,4,5] (H773 e56 h57 e58 h59 wr74 ff75 v76 sl77 wr70 ff71 v72 sl73)
   refine zw (dI 0) ?_;refine jY (dI 1) 3 zh xy ?_;intro e56 h57;refine zw (dI 3) ?_;refine jY (dI 4) 2 zh xy ?_;intro e58 h59;refine ur (i:=2) (j:=5) rfl rfl (by kernel_rfl) ?_ ?_
   ·intro o ho;cases ho;refine yl 3 ji h57 uI ?_;rintro wr60 ff61 _ ⟨v62,rfl,sl63⟩;refine ⟨v62,rfl,?_⟩;exact rd [1,2,3,4] [0,1,2,3,4] (H774 e56 h57 e58 h59 wr60 ff61 v62 sl63)
   ·intro o ho;cases ho;refine yl 2 ji h59 uI ?_;rintro wr70 ff71 _ ⟨v72,rfl,sl73⟩;refine ⟨v72,rfl,?_⟩;exact rd [1,2,3,4] [0,1,2,3,4] (H775 e56 h57 e58 h59 wr70 ff71 v72 sl73)
  ·rintro ⟨t53,t54⟩;refine nxj ?_;refine y10 ?_;refine mv ?_;refine jF st ?_;refine y1 ?_;refine zj ?_ ?_
   ·refine y0 ?_;refine jn st (qs:=[]) (cells:=[I 0,I 0,I 0,I 0]) (bqi rfl) zfM ?_;refine stw (zX (cs':=[I 0,I 0,I 0,I 0]) 1 YE ?_);refine ma ?_;refine y19 ?_;exact jU Tryz.results156 (z7.mk 0 0 0 0,false) () (Zd 1 rfl rfl YE rfl) (ju rfl) rfl (fun _ _=>zP.nil _ _ _ _)
   ·refine y21 ?_;refine mv ?_;refine mv ?_;refine jY st 0 zh zbP ?_;intro e78 h79;refine stw (zax (enc:=uN) (y':=t53) 0 xh h79 ty3 ?_);refine y15 ?_;refine ja st ?_;intro t81;refine mv ?_;refine zA ?_;exact lj [0,1,2,3]
 ·refine y7 ?_;refine UJ 0 rfl ?_;intro e82 e83 e84 e85;refine stw (zgf xA (u:=[I e82,I e83,I e84,I e85]) 0 zh xh ziA ?_);refine stw (zm Tryz.call201 (by intro w m h;exact rf0 (zaE (F:=zZ [] w) (fields_0:=(zeQ.mk e82 e83 e84 e85)) zn h)) ?_);rintro r87 _;refine stw (zX (cs':=[I r87.xFrom,I r87.xTo,I r87.xPort,I r87.xProto]) 1 YE ?_);refine ma ?_;refine y3 ?_;exact jU Tryz.results156 (r87,true) () (Zd 1 rfl rfl YE rfl) (ju rfl) rfl (fun _ _=>zP.nil _ _ _ _)
theorem XH {w0:World} {F:Nat→Prop} {v1 v3 v5 v7 v9 v11 v13 v15:Value} {s_0 other_1:za} {κ:Bool→Prop} (hF:Fr [] F w0) (hv1:Sl ze F w0 v1 s_0.x0) (hv3:Sl ze F w0 v3 s_0.x1) (hv5:Sl ze F w0 v5 s_0.x2) (hv7:Sl ze F w0 v7 s_0.x3) (hv9:Sl ze F w0 v9 other_1.x0) (hv11:Sl ze F w0 v11 other_1.x1) (hv13:Sl ze F w0 v13 other_1.x2) (hv15:Sl ze F w0 v15 other_1.x3) (h:ux s_0 other_1 κ) :
  Calls Tryz.prog 100 #[(.agg #[v1,v3,v5,v7]),(.agg #[v9,v11,v13,v15])] w0 (Ret [] F w0 κ (fun r (u:Unit)=>(.bool r)) (fun r u=>[])):=by
 refine eS hF Tryz.func100 Tryz.ntmps100 h ?_;clear h hF;refine y0 ?_;obtain ⟨a17,l18,q19,rfl⟩:=zx hv1;obtain ⟨a20,l21,q22,rfl⟩:=zx hv3;obtain ⟨a23,l24,q25,rfl⟩:=zx hv5;obtain ⟨a26,l27,q28,rfl⟩:=zx hv7;refine stw (Xk (El':=(zT ze)) (len:=4) ([s_0.x0,s_0.x1,s_0.x2,s_0.x3]) ([[.slice a17 l18 q19],[.slice a20 l21 q22],[.slice a23 l24 q25],[.slice a26 l27 q28]]) (fun w m=>⟨⟨.slice a17 l18 q19,rfl,m.roS 0 rfl hv1⟩,⟨.slice a20 l21 q22,rfl,m.roS 0 rfl hv3⟩,⟨.slice a23 l24 q25,rfl,m.roS 0 rfl hv5⟩,⟨.slice a26 l27 q28,rfl,m.roS 0 rfl hv7⟩,trivial⟩) ?_);intro b29;obtain ⟨a31,l32,q33,rfl⟩:=zx hv9;obtain ⟨a34,l35,q36,rfl⟩:=zx hv11;obtain ⟨a37,l38,q39,rfl⟩:=zx hv13;obtain ⟨a40,l41,q42,rfl⟩:=zx hv15;refine stw (Xk (El':=(zT ze)) (len:=4) ([other_1.x0,other_1.x1,other_1.x2,other_1.x3]) ([[.slice a31 l32 q33],[.slice a34 l35 q36],[.slice a37 l38 q39],[.slice a40 l41 q42]]) (fun w m=>⟨⟨.slice a31 l32 q33,rfl,m.roS 1 rfl hv9⟩,⟨.slice a34 l35 q36,rfl,m.roS 1 rfl hv11⟩,⟨.slice a37 l38 q39,rfl,m.roS 1 rfl hv13⟩,⟨.slice a40 l41 q42,rfl,m.roS 1 rfl hv15⟩,trivial⟩) ?_);intro b43;refine ma ?_;refine y2 ?_;refine stw (xt (len:=4) 1 ji jQ ?_);rintro wr45 ff46 _ hr_;obtain ⟨_,_,_,_,rfl,⟨v48,rfl,sl49⟩,⟨v51,rfl,sl52⟩,⟨v54,rfl,sl55⟩,⟨v57,rfl,sl58⟩⟩:=jT hr_;refine ⟨[v48,v51,v54,v57],rfl,?_⟩;refine stw (xt (len:=4) 1 ji jQ ?_);rintro wr60 ff61 _ hr_;obtain ⟨_,_,_,_,rfl,⟨v63,rfl,sl64⟩,⟨v66,rfl,sl67⟩,⟨v69,rfl,sl70⟩,⟨v72,rfl,sl73⟩⟩:=jT hr_;refine ⟨[v63,v66,v69,v72],rfl,?_⟩;refine stw (zm Tryz.call156 (by intro w m h;exact rf0 (ZL (F:=zZ [] w) (s_0:=s_0) (other_1:=other_1) zn (m.q 1 sl49) (m.q 1 sl52) (m.q 1 sl55) (m.q 1 sl58) (m.q 0 sl64) (m.q 0 sl67) (m.q 0 sl70) (m.q 0 sl73) h)) ?_);rintro ⟨r75,r76⟩ _;refine mv ?_;refine jp st (vs:=[.agg #[I r75.xFrom,I r75.xTo,I r75.xPort,I r75.xProto],.bool r76]) ?_;refine jp st (vs:=[.agg #[I r75.xFrom,I r75.xTo,I r75.xPort,I r75.xProto],.bool r76]) ?_;refine stw (jg [I 0,I 0,I 0,I 0] Ux ?_);intro b77;refine stw (zX (cs':=[I r75.xFrom,I r75.xTo,I r75.xPort,I r75.xProto]) 0 YE ?_);refine ma ?_;refine y2 ?_;refine mv ?_;refine ma ?_;refine y3 ?_;exact lu Tryz.results100
theorem Yc {w0:World} {F:Nat→Prop} {v1:Value} {list_0:(List zd)} {κ:((List zd)×Bool)→Prop} (hF:Fr [] F w0) (hv1:Sl ze F w0 v1 list_0) (h:uZ list_0 κ) :
  Calls Tryz.prog 202 #[v1] w0 (Ret [] F w0 κ (fun r (u:Value)=>.tuple #[u,(.bool r.2)]) (fun r u=>[xz ze u r.1])):=by
 refine eS hF Tryz.func202 Tryz.ntmps202 h ?_;clear h hF;refine y0 ?_;refine stw (jK ze 89 ?_);refine ma ?_;refine y4 ?_;refine mv ?_;refine zL st jk 1 (zc hv1) ?_;refine xZ st ?_;refine y1 ?_;refine zj ?_ ?_
 ·refine y0 ?_;refine stw (jK ze 89 ?_);refine ma ?_;refine y6 ?_;refine frz 0 rfl zh ?_;exact jU Tryz.results202 ([],false) S0 (ju rfl) (ju rfl) rfl (fun w m=>zP.ofB m [0] rfl)
 ·refine y8 ?_;refine mv ?_;refine ma ?_;refine ma ?_;refine y3 ?_;refine xm 1 rfl hv1 ?_;exact jU Tryz.results202 (list_0,true) v1 (ju rfl) (ju rfl) rfl (fun w m=>zP.ofB m [0] rfl)
theorem Z7 {w0:World} {F:Nat→Prop} {v1:Value} {rest_0:(List zd)} {at_1 top_2:Int} {κ:(Bool×Int)→Prop} (hF:Fr [] F w0) (hv1:Sl ze F w0 v1 rest_0) (h:x9 rest_0 at_1 top_2 κ) :
  Calls Tryz.prog 235 #[v1,(I at_1),(I top_2)] w0 (Ret [] F w0 κ (fun r (u:Unit)=>.tuple #[(.bool r.1),(I r.2)]) (fun r u=>[])):=by
 refine eS hF Tryz.func235 Tryz.ntmps235 h ?_;clear h hF;refine y0 ?_;refine ma ?_;refine ma ?_;refine y4 ?_;refine mv ?_;refine zL st jk 0 (zc hv1) ?_;refine jC st xS ?_;refine y1 ?_;refine zj ?_ ?_
 ·refine y0 ?_;refine mv ?_;refine ma ?_;refine ma ?_;refine y6 ?_;exact jU Tryz.results235 (false,top_2) () (ju rfl) (ju rfl) rfl (fun _ _=>zP.nil _ _ _ _)
 ·refine y13 ?_;refine mv ?_;refine mv ?_;refine zH st 0 (zc hv1) jk ?_;intro e3 h4;refine jo st 0 (zc hv1) h4 xf ?_;refine jh st (enc:=zE) (u:=(I e3.xLo)) 0 (zc hv1) zl h4 ty3 ?_;refine je st ?_;refine y1 ?_;refine zj ?_ ?_
  ·refine jP ?_;refine ud mixed 7 rfl [zi w0 F] ?_;refine zw (dI 0) ?_;refine zH (dI 1) 0 (zc hv1) jk ?_;intro e5 h6;refine jo (dI 2) 0 (zc hv1) h6 xf ?_;refine jh (dI 3) (enc:=zE) (u:=(I e5.xLo)) 0 (zc hv1) zl h6 ty3 ?_;refine Zh (dI 4) ?_;intro t7;refine uy (dI 5) ?_;refine uy (dI 6) ?_;refine jV (by kernel_rfl) ?_;refine z6 (ui (jZ ?_));exact jU Tryz.results235 (false,t7) () (ju rfl) (ju rfl) rfl (fun _ _=>zP.nil _ _ _ _)
  ·refine jA (z6 (jP ?_));refine ud mixed 6 rfl [zi w0 F] ?_;refine zw (dI 0) ?_;refine zH (dI 1) 0 (zc hv1) jk ?_;intro e8 h9;refine jo (dI 2) 0 (zc hv1) h9 jJ ?_;refine jh (dI 3) (enc:=zE) (u:=(I e8.xHi)) 0 (zc hv1) zl h9 ty3 ?_;refine uy (dI 4) ?_;refine uy (dI 5) ?_;refine jV (by kernel_rfl) ?_;refine z6 (ui ?_);exact jU Tryz.results235 (true,e8.xHi) () (ju rfl) (ju rfl) rfl (fun _ _=>zP.nil _ _ _ _)
theorem zb7 {w0:World} {F:Nat→Prop} {inA_0 inB_1:Bool} {κ:Bool→Prop} (hF:Fr [] F w0) (h:ZK inA_0 inB_1 κ) :
  Calls Tryz.prog 204 #[(.bool inA_0),(.bool inB_1)] w0 (Ret [] F w0 κ (fun r (u:Unit)=>(.bool r)) (fun r u=>[])):=by
 refine Ys (args:=[.bool inA_0,.bool inB_1]) [] hF (xO.nil _ _) Tryz.func204 rfl Tryz.ntmps204 rfl h ?_;clear h hF;let JJ:=Jn 9 [] F w0;refine y0 ?_;refine ma ?_;refine y1 ?_;refine zU (σ:=Bool) (fun t61=>JJ [(4,.bool t61)] []) ?_ ?_
 ·intro k62;refine zq ?_;refine mv ?_;refine mv ?_;refine jW (dj:=6) rfl ?_ ?_
  ·refine zw (zR rfl rfl) ?_;refine zQ st ?_;refine ma ?_;refine zA ?_;exact lj []
  ·refine ss ?_;refine zM st ?_;refine ma ?_;refine zA ?_;exact lj []
 ·rintro t61;refine nxj ?_;refine ui ?_;exact lu Tryz.results204
theorem Xs {w0:World} {F:Nat→Prop} {v1 v3:Value} {a_0 b_1:(List zd)} {top_2:Int} {κ:(List zd)→Prop} (hF:Fr [] F w0) (hv1:Sl ze F w0 v1 a_0) (hv3:Sl ze F w0 v3 b_1) (h:xC a_0 b_1 top_2 κ) :
  Calls Tryz.prog 203 #[v1,v3,(I top_2),(.func (.func 204) #[] #[])] w0 (Ret [] F w0 κ (fun r (u:Value)=>u) (fun r u=>[zg ze 89 u r])):=by
 refine eS hF Tryz.func203 Tryz.ntmps203 h ?_;clear h hF;let JJ:=Jn 107 [] F w0;refine y0 ?_;refine stw (jK ze 89 ?_);refine y2 ?_;refine stw (jK ze 89 ?_);refine y2 ?_;refine ma ?_;refine ma ?_;refine y4 ?_;refine ma ?_;refine y5 ?_;refine jr (σ:=((List zd)×Int×Int×Int)) (fun ((xs8,t11,t12,t13):((List zd)×Int×Int×Int)) (a:Act) (w:World)=>∃ (v7:Value),JJ [(0,v1),(1,v3),(2,I top_2),(3,.func (.func 204) #[] #[]),(9,v7),(10,I t11),(11,I t12),(12,I t13)] [zi w0 F,zg ze 89 v7 xs8] a w) (jE S0 [2,0]) ?_;rintro nx14 ⟨xs8,t11,t12,t13⟩ a w ⟨v7,hE,hm⟩ h;refine jM hE hm h ?_;clear hE hm h;refine y10 ?_;refine mv ?_;refine mv ?_;refine yG st ?_;refine y1 ?_;refine zj ?_ ?_
 ·refine jA (z6 (uH (jP (uH ?_))));refine jr (σ:=Int) (fun t15=>JJ [(0,v1),(1,v3),(2,I top_2),(3,.func (.func 204) #[] #[]),(9,v7),(10,I t15),(11,I t12),(12,I t13)] [zg ze 89 v7 xs8,zi w0 F]) (jI [1,0]) ?_;rintro nx16 t15;refine nxj ?_;refine jP ?_;refine zU (σ:=Bool) (fun t79=>JJ [(0,v1),(1,v3),(2,I top_2),(3,.func (.func 204) #[] #[]),(9,v7),(10,I t15),(11,I t12),(12,I t13),(34,.bool t79)] [zg ze 89 v7 xs8,zi w0 F]) ?_ ?_
  ·intro k80;refine zq ?_;refine mv ?_;refine mv ?_;refine zL st jk 1 (zc hv1) ?_;refine je st ?_;refine mv ?_;refine jW (dj:=26) rfl ?_ ?_
   ·refine zw (zR rfl rfl) ?_;refine zw (zR rfl rfl) ?_;refine zH (zR rfl rfl) 1 (zc hv1) jk ?_;intro e17 h18;refine jo (zR rfl rfl) 1 (zc hv1) h18 jJ ?_;refine jh (zR rfl rfl) (enc:=zE) (u:=(I e17.xHi)) 1 (zc hv1) zl h18 ty3 ?_;refine zw (zR rfl rfl) ?_;refine je (zR rfl rfl) ?_;refine zQ st ?_;refine zA ?_;exact lj [0,1]
   ·refine ss ?_;refine ss ?_;refine ss ?_;refine ss ?_;refine ss ?_;refine ss ?_;refine ss ?_;refine zM st ?_;refine zA ?_;exact lj [0,1]
  ·rintro t79;refine nxj ?_;refine zj ?_ ?_
   ·refine y31 ?_;refine mv ?_;refine ja st ?_;intro t81;refine ma ?_;refine y12 ?_;exact lj [0,1]
   ·refine Yp (yf (yf (Yn (z6 (jP (uH ?_))))));refine jr (σ:=Int) (fun t82=>JJ [(0,v1),(1,v3),(2,I top_2),(3,.func (.func 204) #[] #[]),(9,v7),(10,I t15),(11,I t82),(12,I t13)] [zg ze 89 v7 xs8,zi w0 F]) (jI [0,1]) ?_;rintro nx83 t82;refine nxj ?_;refine jP ?_;refine zU (σ:=Bool) (fun t146=>JJ [(0,v1),(1,v3),(2,I top_2),(3,.func (.func 204) #[] #[]),(9,v7),(10,I t15),(11,I t82),(12,I t13),(49,.bool t146)] [zg ze 89 v7 xs8,zi w0 F]) ?_ ?_
    ·intro k147;refine zq ?_;refine mv ?_;refine mv ?_;refine zL st jk 1 (zc hv3) ?_;refine je st ?_;refine mv ?_;refine jW (dj:=41) rfl ?_ ?_
     ·refine zw (zR rfl rfl) ?_;refine zw (zR rfl rfl) ?_;refine zH (zR rfl rfl) 1 (zc hv3) jk ?_;intro e84 h85;refine jo (zR rfl rfl) 1 (zc hv3) h85 jJ ?_;refine jh (zR rfl rfl) (enc:=zE) (u:=(I e84.xHi)) 1 (zc hv3) zl h85 ty3 ?_;refine zw (zR rfl rfl) ?_;refine je (zR rfl rfl) ?_;refine zQ st ?_;refine zA ?_;exact lj [0,1]
     ·refine ss ?_;refine ss ?_;refine ss ?_;refine ss ?_;refine ss ?_;refine ss ?_;refine ss ?_;refine zM st ?_;refine zA ?_;exact lj [0,1]
    ·rintro t146;refine nxj ?_;refine zj ?_ ?_
     ·refine y31 ?_;refine mv ?_;refine ja st ?_;intro t148;refine ma ?_;refine y12 ?_;exact lj [0,1]
     ·refine y7 ?_;refine mv ?_;refine mv ?_;refine xm 1 rfl hv1 ?_;refine stw (Vn (I:=t15) (J:=(a_0.length:Int)) 0 jk ?_);intro v149 xs150;refine mv ?_;refine mv ?_;refine stw (zm Tryz.call235 (by intro w m h;exact rf0 (Z7 (F:=zZ [] w) (rest_0:=xs150) (at_1:=t13) (top_2:=top_2) zn (m.rd0 0 rfl ye) h)) ?_);rintro ⟨r153,r154⟩ _;refine mv ?_;refine jp st (vs:=[.bool r153,I r154]) ?_;refine jp st (vs:=[.bool r153,I r154]) ?_;refine ma ?_;refine ma ?_;refine y2 ?_;refine mv ?_;refine mv ?_;refine xm 3 rfl hv3 ?_;refine stw (Vn (I:=t82) (J:=(b_1.length:Int)) 0 jk ?_);intro v155 xs156;refine mv ?_;refine mv ?_;refine stw (zm Tryz.call235 (by intro w m h;exact rf0 (Z7 (F:=zZ [] w) (rest_0:=xs156) (at_1:=t13) (top_2:=top_2) zn (m.rd0 0 rfl ye) h)) ?_);rintro ⟨r159,r160⟩ _;refine mv ?_;refine jp st (vs:=[.bool r159,I r160]) ?_;refine jp st (vs:=[.bool r159,I r160]) ?_;refine ma ?_;refine ma ?_;refine y2 ?_;refine mv ?_;refine mv ?_;refine YO st ?_;refine ma ?_;refine y1 ?_;refine zU (σ:=(List zd)) (fun (xs296:(List zd)) (a:Act) (w:World)=>∃ (v297:Value),JJ [(0,v1),(1,v3),(2,I top_2),(3,.func (.func 204) #[] #[]),(9,v297),(10,I t15),(11,I t82),(17,I (min r154 r160))] [zg ze 89 v297 xs296,zi w0 F] a w) ?_ ?_
      ·intro k299;refine y0 ?_;refine mv ?_;refine mv ?_;refine mv ?_;refine stw (zcy (zdH rfl rfl Tryz.call204) (by intro w m h;exact rf0 (zb7 (F:=zZ [] w) (inA_0:=r153) (inB_1:=r159) zn h)) ?_);rintro r161 _;refine y1 ?_;refine zj ?_ ?_
       ·refine y0 ?_;refine mv ?_;refine zL st jk 4 zh ?_;refine ma ?_;refine y1 ?_;refine zU (σ:=Bool) (fun t226=>JJ [(0,v1),(1,v3),(2,I top_2),(3,.func (.func 204) #[] #[]),(9,v7),(10,I t15),(11,I t82),(12,I t13),(17,I (min r154 r160)),(18,I (xs8.length:Int)),(91,.bool t226)] [zg ze 89 v7 xs8,zi w0 F]) ?_ ?_
        ·intro k227;refine zq ?_;refine mv ?_;refine xZ st ?_;refine mv ?_;refine jW (dj:=81) rfl ?_ ?_
         ·refine zw (zR rfl rfl) ?_;refine zw (zR rfl rfl) ?_;refine Zh (zR rfl rfl) ?_;intro t162;refine zH (zR rfl rfl) 4 zh jk ?_;intro e163 h164;refine jo (zR rfl rfl) 4 zh h164 jJ ?_;refine jh (zR rfl rfl) (enc:=zE) (u:=(I e163.xHi)) 4 zh zl h164 ty3 ?_;refine ja (zR rfl rfl) ?_;intro t165;refine zw (zR rfl rfl) ?_;refine jC (zR rfl rfl) xS ?_;refine zQ st ?_;refine zA ?_;exact lj [4,5]
         ·refine ss ?_;refine ss ?_;refine ss ?_;refine ss ?_;refine ss ?_;refine ss ?_;refine ss ?_;refine ss ?_;refine ss ?_;refine zM st ?_;refine zA ?_;exact lj [4,5]
        ·rintro t226;refine nxj ?_;refine zj ?_ ?_
         ·refine zq ?_;refine mv ?_;refine mv ?_;refine Zh st ?_;intro t228;refine mv ?_;refine zH st 0 zh jk ?_;intro e229 h230;refine jo st 0 zh h230 jJ ?_;refine stw (zax (enc:=zE) (y':=(zd.mk e229.xLo (min r154 r160))) 0 zl h230 ty3 ?_);refine zA ?_;exact zO (xs8.set (t228).toNat (zd.mk e229.xLo (min r154 r160))) (jE v7 [0,1])
         ·refine zq ?_;refine mv ?_;refine mv ?_;refine mv ?_;refine jn st (qs:=[(0,I t13),(1,I (min r154 r160))]) (cells:=[I t13,I (min r154 r160)]) (bqi rfl) uD ?_;refine stw (jG (enc:=zE) (qs:=[(0,.agg #[I t13,I (min r154 r160)])]) (cells:=[I t13,I (min r154 r160)]) ([zd.mk t13 (min r154 r160)]) zl (by intro ρ h;simp only [List.map_toArray,List.map_cons,List.map_nil,h (.tmp 101) _ rfl]) jk jv ?_);intro v232;refine stw (xj 1 0 (xr zl zh) jk jv ?_);intro v234;refine ma ?_;refine zA ?_;exact zO (xs8++([zd.mk t13 (min r154 r160)])) (jE v234 [1,2])
       ·refine jA ?_;exact zO xs8 (jE v7 [4,5])
      ·rintro xs296 a w ⟨v297,hE,hm⟩ h;refine jM hE hm h ?_;clear hE hm h;refine zq ?_;refine mv ?_;refine ja st ?_;intro t300;refine ma ?_;refine y12 ?_;exact zO (xs296,t15,t82,t300) (jE v297 [1,0])
 ·refine y7 ?_;refine mv ?_;refine ma ?_;refine y3 ?_;exact js Tryz.results203 xs8 v7 (ju rfl) (fun w m=>zP.ofB m [1] rfl)
theorem yi {w0:World} {F:Nat→Prop} {v1 v3:Value} {a_0 b_1:(List zd)} {top_2:Int} {κ:((List zd)×Bool)→Prop} (hF:Fr [] F w0) (hv1:Sl ze F w0 v1 a_0) (hv3:Sl ze F w0 v3 b_1) (h:zz a_0 b_1 top_2 κ) :
  Calls Tryz.prog 157 #[v1,v3,(I top_2)] w0 (Ret [] F w0 κ (fun r (u:Value)=>.tuple #[u,(.bool r.2)]) (fun r u=>[xz ze u r.1])):=by
 refine eS hF Tryz.func157 Tryz.ntmps157 h ?_;clear h hF;refine y0 ?_;refine stw (jK ze 89 ?_);refine ma ?_;refine y2 ?_;refine mv ?_;refine mv ?_;refine mv ?_;refine stw (zm Tryz.call203 (by intro w m h;exact rf (fun _ _=>(zJ (xJ zl) zW)) (Xs (F:=zZ [] w) (a_0:=a_0) (b_1:=b_1) (top_2:=top_2) zn (m.q 1 hv1) (m.q 1 hv3) h)) ?_);rintro r6 v7;refine frz 0 rfl zh ?_;refine stw (zm Tryz.call202 (by intro w m h;exact Yc (list_0:=r6) xi (m.ro 0 rfl) h) ?_);rintro ⟨r9,r12⟩ v10;refine jp st (vs:=[v10,.bool r12]) ?_;refine jp st (vs:=[v10,.bool r12]) ?_;refine ma ?_;refine ma ?_;refine y3 ?_;exact jU Tryz.results157 (r9,r12) v10 (ju rfl) (ju rfl) rfl (fun w m=>zP.ofB m [0] rfl)
end
end Go.Proofs.YtgpdnnhmndlljaaGreatDoor
