import Derived.Test.YtgpdnnhmndlljaaGreatDoorOpen
set_option linter.unusedSimpArgs false
set_option linter.unusedVariables false
namespace Go.Proofs.YtgpdnnhmndlljaaGreatDoor
open Go.ChangeShapes Go.WideShapes Go.ChangeAt Go.RowKit Go.Joins
section
variable {H:Type} {enc:TypeId×Value→H} {P:Program} {W:World} {sp:Nat→Bool} {held:Bool} {α:Type} {E:El α} {F:Nat→Prop}
theorem zgA {p:Nat→α→Prop}:∀ (n:Nat),(∀ i,i<n→∃ x,p i x)→∃ xs:List α,xs.length=n∧∀ i x,xs[i]?=some x→p i x
 | 0,_=>⟨[],rfl,fun i x h=>by simp at h⟩
 | n+1,h=>by
  obtain ⟨xs,h1,h2⟩:=zgA n (fun i hi=>h i (by omega))
  obtain ⟨x,hx⟩:=h n (by omega)
  refine ⟨xs++[x],by simp [h1],fun i y hy=>?_⟩
  by_cases hi:i<n
  ·rw [List.getElem?_append_left (by omega)] at hy;exact h2 i y hy
  ·have hl:=(List.getElem?_eq_some_iff.1 hy).1
   have:i=n:=by simp [h1] at hl;omega
   subst this
   rw [List.getElem?_append_right (by omega),h1] at hy
   simp at hy
   subst hy
   exact hx
theorem zlY (hF:∀ b,b<W.heap.size→F b) {t e:TypeId} {fuel:Nat} {cs:List Value} {y:DataW H×List MemPlace} (ht:P.underlying t=some (.slice e)) (hc:P.cellsOf e=E.size)
  (hel:∀ m cs y,DataW.trod enc P W 0 sp held m e cs=some y→∃ x,E.cells F W x cs) (h:DataW.trod enc P W 0 sp held fuel t cs=some y):∃ v xs,cs=[v]∧Sl E F W v xs∧xs.length≤9223372036854775807:=by
 rcases DataW.trod_slice ht h with ⟨rfl,_⟩ | ⟨a,len,cap,elems,rest,n,_,rfl,_,hb,hl,hm,hlen,hel',_,_⟩
 ·exact ⟨_,[],rfl,Sl.nil ..,by simp⟩
 ·have hmx:len≤9223372036854775807:=by unfold maxLen at hm;omega
  have hp:=E.pos
  have hx:∀ i,i<len→∃ x,∃ cs,E.cells F W x cs∧W.cells? 0 (a.add (i * E.size)) E.size=some cs:=fun i hi=>by
   have h1:=hel' i hi
   rw [hc] at h1
   have h2:elems[i]?=some elems[i]:=List.getElem?_eq_getElem (by omega)
   rw [h2] at h1
   obtain ⟨cs,h3,h4⟩:=Option.bind_eq_some_iff.1 h1
   obtain ⟨x,h5⟩:=hel _ _ _ h4
   exact ⟨x,cs,h5,h3⟩
  obtain ⟨xs,hxl,hxs⟩:=zgA len hx
  refine ⟨_,xs,rfl,⟨some a,cap,by rw [hxl],by omega,fun h0=>?_⟩,by omega⟩
  obtain ⟨b,o,s⟩:=a
  obtain ⟨x0,cs0,k1,k2⟩:=hx 0 (by omega)
  obtain ⟨_,k3,k4⟩:=World.cells?_some k2
  have hcs0:cs0.length=E.size:=E.len _ _ _ _ k1
  have c0:=k4 0 (by omega)
  rw [List.getElem?_eq_getElem (by omega)] at c0
  have hs:s=none:=by
   cases s with
   | none=>rfl
   | some x =>
    unfold Addr.add at c0
    simp only [World.cell?] at c0
    split at c0 <;> simp_all
  subst hs
  refine ⟨b,o,rfl,hF b ?_,fun i x hi=>?_⟩
  ·simp only [Addr.add_mid] at c0
   exact World.block_lt_of_cell? W _ c0
  ·obtain ⟨cs,j1,j2⟩:=hxs i x hi
   obtain ⟨_,j3,j4⟩:=World.cells?_some j2
   refine ⟨cs,j1,fun j v hv=>?_⟩
   have hj:=(List.getElem?_eq_some_iff.1 hv).1
   have hcl:=E.len _ _ _ _ j1
   have:=j4 j (by omega)
   rw [Addr.add_mid,Addr.add_mid] at this
   rw [this,hv]
end
def zo1 {α:Type} (Q:α→Prop) (xs:List α):Prop:=xs.length≤9223372036854775807∧∀ x,x∈xs→Q x
def El.and {α:Type} (E:El α) (Q:α→Prop):El α where
 size:=E.size
 cells:=fun F w x cs=>E.cells F w x cs∧Q x
 pos:=E.pos
 len:=fun F w x cs h=>E.len F w x cs h.1
 one:=fun F w x cs h=>E.one F w x cs h.1
 keep:=fun F F' w w' x cs hF hb h=>⟨E.keep F F' w w' x cs hF hb h.1,h.2⟩
theorem zll {α:Type} {E:El α} {Q:α→Prop} {F:Nat→Prop} {w:World} {v:Value} {xs:List α} (h:Sl (E.and Q) F w v xs):Sl E F w v xs∧∀ x,x∈xs→Q x:=by
 obtain ⟨a,cap,rfl,hc,h⟩:=h
 refine ⟨⟨a,cap,rfl,hc,fun h0=>?_⟩,fun x hx=>?_⟩
 ·obtain ⟨b,off,e,hF,hh⟩:=h h0
  exact ⟨b,off,e,hF,fun i x hx=>let ⟨cs,k1,k2⟩:=hh i x hx;⟨cs,k1.1,k2⟩⟩
 ·obtain ⟨i,hi⟩:=List.getElem?_of_mem hx
  have h0:0<xs.length:=List.length_pos_of_mem hx
  obtain ⟨b,off,e,hF,hh⟩:=h h0
  obtain ⟨cs,k1,_⟩:=hh i x hi
  exact k1.2
theorem zlC {H:Type} {enc:TypeId×Value→H} {P:Program} {W:World} {sp:Nat→Bool} {held:Bool} {α:Type} {E:El α} {Q:α→Prop} {F:Nat→Prop} (hF:∀ b,b<W.heap.size→F b) {t e:TypeId} {fuel:Nat} {cs:List Value} {y:DataW H×List MemPlace} (ht:P.underlying t=some (.slice e)) (hc:P.cellsOf e=E.size)
  (hel:∀ m cs y,DataW.trod enc P W 0 sp held m e cs=some y→∃ x,E.cells F W x cs∧Q x) (h:DataW.trod enc P W 0 sp held fuel t cs=some y):∃ v xs,cs=[v]∧Sl E F W v xs∧zo1 Q xs:=by
 obtain ⟨v,xs,e,S,hl⟩:=zlY (E:=E.and Q) hF ht hc hel h
 exact ⟨v,xs,e,(zll S).1,hl,(zll S).2⟩
end Go.Proofs.YtgpdnnhmndlljaaGreatDoor
