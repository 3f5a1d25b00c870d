import Derived.Test.YtgpdnnhmndlljaaGreatDoorMA0
import Derived.MapKept
import Derived.Laws.BytesString
import Derived.Laws.Cells
set_option linter.unusedSimpArgs false
set_option linter.unusedVariables false
set_option linter.unusedSectionVars false
namespace Go.Proofs.YtgpdnnhmndlljaaGreatDoor
section
open Go.RowKit
def zhj (P:Program) (T:TypeId):Option (Nat×TypeId×Bool×Nat) :=
 match P.underlying T with
 | some (.array len e)=>match tyB P e with
  | some (r,s)=>some (len,e,r,s)
  | none=>none
 | _=>none
section
variable {P:Program} {n:Nat} {G D:Nat->Prop} {w0:World} {Q:Exit->Act->World->Prop} {R:Act->World->Prop} {E:Env} {L:List Ch} {H:Prop}
variable {d:Tmp} {ty:TypeId} {pos:String} {aft:Array Edge} {gd:Option (Nat×Bool)} {Tk:Act->World->Prop} {Lr:List Ch} {x y:Operand} {T T' S:TypeId}
theorem zj9 {len:Nat} {e:TypeId} {row:Bool} {sz:Nat} (h:zhj P T=some (len,e,row,sz)):P.underlying T=some (.array len e)∧tyB P e=some (row,sz):=by
 unfold zhj at h;split at h
 ·rename_i l e' hu;split at h
  ·rename_i r s ht;simp at h;obtain ⟨rfl,rfl,rfl,rfl⟩:=h;exact ⟨hu,ht⟩
  simp at h
 simp at h
theorem zgO {row:Bool} {sz:Nat} (hT:tyB P T=some (row,sz)):∃ i,P.info? T=some i∧i.size=sz:=by
 have:=zjg hT;cases hq:P.info? T with
 | none=>simp [hq] at this
 | some i=>exact ⟨i,rfl,by simpa [hq] using this⟩
theorem ziW {w:World} {row:Bool} {sz o:Nat} {cs:List Value} {v:Value} (hT:tyB P T=some (row,sz)) (hv:ldv row o sz cs=some v):(part T cs.toArray o).run P w=.ok v w:=by
 obtain ⟨i,hq,hi⟩:=zgO hT;unfold tyB at hT;cases row with
 | true =>
  simp only [ldv] at hv;cases hl:Nat.beq ((cs.drop o).take sz).length sz with
  | false=>rw [hl] at hv;simp at hv
  | true =>
   rw [hl] at hv;simp only [cond_true,Option.some.injEq] at hv;have ha:(isAgg T).run P w=.ok true w:=by
    unfold isAgg;split at hT
    ·rename_i hu' _;simp [Sem.run_bind,run_underlying hu' w]
    ·rename_i hu' _;simp [Sem.run_bind,run_underlying hu' w]
    ·simp at hT
    simp at hT
   subst hv;simp [part,ha,sizeOf,typeInfo,hq,hi,List.extract_eq_take_drop]
 | false =>
  simp only [ldv] at hv;cases hl:Nat.beq sz 1 with
  | false=>rw [hl] at hv;simp at hv
  | true =>
   rw [hl] at hv;simp only [cond_true] at hv;have ha:(isAgg T).run P w=.ok false w:=by
    unfold isAgg;split at hT
    ·simp at hT
    ·simp at hT
    ·rename_i d i hns hna hu' hi';rw [Sem.run_bind,run_underlying hu' w];cases d <;> simp_all
    simp at hT
   simp [part,ha,hv]
theorem zky {V:Type} {enc:V->List Value} {sz:Nat} (he:∀ z,(enc z).length=sz):∀ (zs:List V) (i:Nat) (z:V),zs[i]?=some z->∀ row v,ldv row 0 sz (enc z)=some v->ldv row (i * sz) sz (zs.flatMap enc)=some v
 | [],i,z,h,_,_,_=>by simp at h
 | x :: r,0,z,h,row,v,hv=>by
  simp at h;subst h
  have hl:=he x
  rw [Nat.zero_mul,List.flatMap_cons]
  cases row with
  | true =>
   simp only [ldv,List.drop_zero] at hv ⊢
   rw [List.take_append_of_le_length (by omega)]
   exact hv
  | false =>
   simp only [ldv] at hv ⊢
   cases h1:Nat.beq sz 1 with
   | false=>rw [h1] at hv;simp at hv
   | true =>
    rw [h1] at hv
    have:=Nat.eq_of_beq_eq_true h1
    simp only [cond_true] at hv ⊢
    rw [List.getElem?_append_left (by omega)]
    exact hv
 | x :: r,i+1,z,h,row,v,hv=>by
  have hl:=he x
  have ih:=zky he r i z (by simpa using h) row v hv
  rw [List.flatMap_cons]
  have e:(i+1) * sz=(enc x).length+i * sz:=by rw [Nat.add_mul,hl];omega
  rw [e]
  cases row with
  | true =>
   simp only [ldv] at ih ⊢
   rw [List.drop_append,List.drop_of_length_le (by omega),Nat.add_sub_cancel_left,List.nil_append]
   exact ih
  | false =>
   simp only [ldv] at ih ⊢
   rw [List.getElem?_append_right (by omega),Nat.add_sub_cancel_left]
   exact ih
def zpS (P:Program) (T:TypeId):Option (Nat×List Value) :=
 match P.underlying T,uR P T with
 | some (.array _ e),some zs=>(P.info? e).map fun i=>(i.size,zs)
 | _,_=>none
end
end
section
open Go.RowKit
section
variable {K:Type} [DecidableEq K]
end
abbrev ent {K:Type} (enc:K->List Value) (p:K×Int):Value×Value:=(.agg (enc p.1).toArray,.int .i64 p.2)
abbrev kv (e:MapEntry):Value×Value:=(e.key,e.val)
def Mp {K:Type} (enc:K->List Value) (F:Nat->Prop) (w:World) (v:Value) (m:List (K×Int)):Prop :=
 (v=.map none∧m=[])∨∃ b es clock,v=.map (some b)∧F b∧w.heap[b]?=some (.map es clock)∧es.toList.map kv=m.map (ent enc)
theorem Mp.keep {K:Type} {enc:K->List Value} {F F':Nat->Prop} {w w':World} {v:Value} {m:List (K×Int)} (h:Mp enc F w v m) (hF:∀ b,F b->F' b) (hb:∀ b,F b->w'.heap[b]?=w.heap[b]?):Mp enc F' w' v m:=by
 rcases h with h | ⟨b,es,cl,h1,h2,h3,h4⟩
 ·exact .inl h
 exact .inr ⟨b,es,cl,h1,hF b h2,(hb b h2).trans h3,h4⟩
theorem Mp.nil {K:Type} (enc:K->List Value) (F:Nat->Prop) (w:World):Mp enc F w (.map none) []:=.inl ⟨rfl,rfl⟩
section
variable {K:Type} {enc:K->List Value} {G D:Nat->Prop} {w0 w:World} {v:Value} {xs:List (K×Int)} {c:Ch} {L:List Ch}
end
section
variable {P:Program} {n:Nat} {G D:Nat->Prop} {w0:World} {Q:Exit->Act->World->Prop} {R:Act->World->Prop} {E:Env} {L:List Ch} {H:Prop}
variable {d:Tmp} {ty:TypeId} {pos:String} {aft:Array Edge} {gd:Option (Nat×Bool)} {Tk:Act->World->Prop} {Lr:List Ch} {x y z:Operand} {T T' S:TypeId}
variable {K:Type} [DecidableEq K] {enc:K->List Value}
end
end
section
open Go.RowKit
def zmM (x:Int) (O:UInt8->Prop):Prop:=0<=x∧x<=255∧O (UInt8.ofNat x.toNat)
def uY (a b:ByteArray) (O:ByteArray->Prop):Prop:=a.size+b.size<=9223372036854775807∧O (a++b)
def zdj (s:ByteArray) (lo hi:Int) (O:ByteArray->Prop):Prop:=0<=lo∧lo<=hi∧hi<=s.size∧O (s.extract lo.toNat hi.toNat)
theorem znr (s:ByteArray) (n:Nat):s[n]?=s.data.toList[n]?:=by
 obtain ⟨d⟩:=s;rw [Array.getElem?_toList];by_cases h:n<d.size
 ·rw [Array.getElem?_eq_getElem h];exact getElem?_pos (ByteArray.mk d) n h
 rw [Array.getElem?_eq_none (by show d.size<=n;omega)];exact getElem?_neg (ByteArray.mk d) n h
section
variable {P:Program} {n:Nat} {G D:Nat->Prop} {w0:World} {Q:Exit->Act->World->Prop} {R:Act->World->Prop} {E:Env} {L:List Ch} {H:Prop}
variable {d:Tmp} {ty:TypeId} {pos:String} {aft:Array Edge} {gd:Option (Nat×Bool)} {Tk:Act->World->Prop} {Lr:List Ch} {x y:Operand} {T T' S:TypeId}
theorem znU (X Y:ByteArray):(X.toList == Y.toList)=decide (X=Y):=by
 rw [ByteArray.toList_eq,ByteArray.toList_eq];by_cases h:X=Y
 ·subst h;simp
 have:¬ X.data=Y.data:=fun e=>h (by obtain ⟨a⟩:=X;obtain ⟨b⟩:=Y;simp only at e;rw [e])
 simp [h,this]
theorem zbI {A B:Prop} (h:Nx n G D w0 R E L A):Nx n G D w0 R E L (A∧B):=fun a w hE hm hH=>h a w hE hm hH.1
theorem zaK {A B:Prop} (h:Nx n G D w0 R E L B):Nx n G D w0 R E L (A∧B):=fun a w hE hm hH=>h a w hE hm hH.2
def zro (x:UInt8):List Value:=[.int .u8 (x.toNat:Int)]
theorem zla:∀ (xs:List UInt8) (s:ByteArray),(xs.map fun x=>(x.toNat:Int)).foldl (fun r n=>r.push (UInt8.ofNat n.toNat)) s=⟨s.data++xs.toArray⟩
 | [],s=>by simp
 | x :: r,s=>by
  simp only [List.map_cons,List.foldl_cons]
  rw [zla r]
  obtain ⟨d⟩:=s
  simp [ByteArray.push]
end
end
section
open Go.RowKit
def zl (wr:World) (F0:Nat->Prop):Ch where
 foot:=fun _=>False
 holds:=fun F w=>(∀ b,F0 b->F b)∧∀ b,F0 b->w.heap[b]?=wr.heap[b]?
 keep:=fun F F' w w' hF hb h=>⟨fun b hb0=>hF b (h.1 b hb0),fun b hb0=>(hb b (.inl (h.1 b hb0))).trans (h.2 b hb0)⟩
def z8 {V:Type} (E:El V):El (List V) where
 size:=1
 cells:=fun F w x cs=>∃ v,cs=[v]∧Sl E F w v x
 pos:=by decide
 len:=fun F w x cs ⟨v,h,_⟩=>by rw [h];rfl
 one:=fun F w x cs ⟨v,h,a,cap,hv,_⟩ u hu=>by
  subst h
  simp only [List.mem_cons,List.not_mem_nil,or_false] at hu
  subst hu hv
  rfl
 keep:=fun F F' w w' x cs hF hb ⟨v,h,hs⟩=>⟨v,h,hs.keep hF hb⟩
theorem Sl.one {V:Type} {E:El V} {F:Nat->Prop} {w:World} {v:Value} {xs:List V} (h:Sl E F w v xs):v.oneCell'=true:=by
 obtain ⟨a,cap,rfl,_⟩:=h;rfl
def zk6 (wr:World) (F0:Nat->Prop) (v:Value) (I:Int) (sz:Nat) (cs:List Value):Prop:=∃ b off l c,v=.slice (some ⟨b,off,none⟩) l c∧F0 b∧wr.rangeAt b (off+I.toNat * sz) cs
section
variable {V:Type} {E':El V} {wr w:World} {F0 F:Nat->Prop} {v:Value} {xs:List V} {G D:Nat->Prop} {w0:World} {L:List Ch}
theorem jj (S:Sl E' F0 wr v xs) {I:Int} {z:V} (hz:xs[I.toNat]?=some z):∃ cs,E'.cells F0 wr z cs∧zk6 wr F0 v I E'.size cs:=by
 obtain ⟨a,cap,rfl,hc,hr⟩:=S;obtain ⟨b,off,rfl,hfb,hx⟩:=hr (by have:=(List.getElem?_eq_some_iff.1 hz).1;omega);obtain ⟨cs,h1,h2⟩:=hx _ z hz;exact ⟨cs,h1,b,off,_,cap,rfl,hfb,h2⟩
theorem zb (S:Sl E' F0 wr v xs):UP (zl wr F0) E' v xs:=fun F w h=>S.keep (fun b hb=>.inl (h.1 b hb)) h.2
theorem Sl.of (S:Sl E' F0 wr v xs) (h:(zl wr F0).holds F w):Sl E' F w v xs:=S.keep h.1 h.2
theorem Mem.roS (m:Mem G D w0 L w) (i:Nat) (hi:xH L i=some (zl wr F0)) (S:Sl E' F0 wr v xs):Sl E' (fz G L w) w v xs:=S.of (m.get hi)
theorem Mem.snote (m:Mem G D w0 L w) (i:Nat) (hi:xH L i=some (zl wr F0)) (S:Sl E' F0 wr v xs):Mem G D w0 (xB E' v xs :: L) w:=m.note (fun b hb=>hb) (m.roS i hi S)
theorem zar (S:Sl E' F0 wr v xs):Src (zl wr F0) E' v xs:=fun F w h=>zfG F w (S.of h)
theorem xj {enc:V->List Value} {c:Ch} (hfl:VH E' enc) (h:UP c E' v xs):Src c E' v xs:=fun F w hc=>by
 obtain ⟨a,cap,h1,h2,h3⟩:=h F w hc
 refine ⟨a,cap,h1,h2,fun h0=>?_⟩
 obtain ⟨b,off,k1,k2,k3⟩:=h3 h0
 exact ⟨b,off,k1,k2,fun i x hi=>by
  obtain ⟨cs,c1,c2⟩:=k3 i x hi
  exact ⟨cs,hfl.free _ _ _ _ _ _ c1,c2⟩⟩
end
section
variable {P:Program} {n:Nat} {G D:Nat->Prop} {w0:World} {Q:Exit->Act->World->Prop} {R:Act->World->Prop} {E:Env} {L:List Ch} {H:Prop}
variable {d:Tmp} {ty:TypeId} {pos:String} {aft:Array Edge} {gd:Option (Nat×Bool)} {Tk:Act->World->Prop} {Lr:List Ch} {x y:Operand} {T T' S:TypeId} {e sz by':Nat}
theorem zgM (h:∀ wr F0,(∀ c∈L,c.holds F0 wr)->Nx n G D w0 R E (zl wr F0 :: L) H):Nx n G D w0 R E L H:=fun a w hE hm hH =>
 h w (fz G L w) (fun c hc=>hm.hold c hc) a w hE (hm.note (fun b hb=>hb) ⟨fun b hb=>hb,fun _ _=>rfl⟩) hH
theorem jR {V:Type} {E':El V} {wr:World} {F0:Nat->Prop} {v:Value} {xs:List V} (i:Nat) (hi:xH L i=some (zl wr F0)) (S:Sl E' F0 wr v xs) (h:Nx n G D w0 R E (xB E' v xs :: L) H):Nx n G D w0 R E L H:=fun a w hE hm hH=>h a w hE (hm.snote i hi S) hH
theorem zjE {len:Nat} {qs:List (Nat×Value)} {zs cells:List Value} {w:World} (hT:elB P T=some (e,sz,by')) (hzr:uR P e=some zs) (hp0:0<sz) (hlen:Nat.ble (len * sz) 16777216=true)
  (hzl:Nat.beq zs.length sz=true) (hfill':zcA (fun i=>some (i * sz,sz)) (List.replicate len zs).flatten qs=some cells):(Instr.buildSlice T len qs.toArray).run P w=.ok (.slice (some ⟨w.heap.size,0,none⟩) len len) (w.alloc (.cells cells.toArray e)):=by
 obtain ⟨hu,i,hi,rfl,rfl⟩:=yZ hT;obtain ⟨z',hz',hzc⟩:=Z7 hzr hi;have hle:=Nat.le_of_ble_eq_true hlen;have hzl':=Nat.eq_of_beq_eq_true hzl;have hmade:(Array.range (len * i.size)).map (zs.toArray[· % zs.toArray.size]!)=(List.replicate len zs).flatten.toArray:=by
  have:=XB zs len (by omega);rw [hzl'] at this;unfold madeCells at this;rw [← this]
 have hfill0:=zey _ _ _ _ hfill';have hfill:Instr.fill (fun j=>some (j * i.size,i.size)) ((Array.range (len * i.size)).map ((if len * i.size=0 then #[] else zs.toArray)[· % (if len * i.size=0 then #[] else zs.toArray).size]!)) qs=some cells.toArray:=by
  by_cases h0:len * i.size=0
  ·have hl0:len=0:=by
    rcases Nat.mul_eq_zero.1 h0 with h | h
    ·exact h
    omega
   subst hl0;simpa [Array.range_zero'] using hfill0
  simp only [h0,if_false];rw [hmade];exact hfill0
 have hn:¬ (16777216<len * i.size):=by omega
 simp only [Instr.buildSlice,Sem.run_bind,run_underlying hu,Result.andThen_ok];by_cases h0:len * i.size=0
 ·simp [h0] at hfill;simp [sizeOf,typeInfo,hi,h0,newRow,hfill]
 simp [h0] at hfill;simp [sizeOf,typeInfo,hi,h0,hn,zeroValue,hz',hzc,newRow,hfill]
theorem zoT {V:Type} {El':El V} {len:Nat} {ps:Array (Nat×Operand)} {qs:List (Nat×Value)} {zs cells:List Value} (xs:List V) (css:List (List Value)) (hc:∀ w,Mem G D w0 L w->Rows El' (fz G L w) w xs css)
  (hq:∀ ρ:Operand->Value,(∀ x v,oev E x=some v->ρ x=v)->(ps.map fun (i,x)=>(i,ρ x))=qs.toArray) (hd:Nat.blt d n=true)
  (hT:elB P T=some (e,sz,by')) (hzr:uR P e=some zs) (hes:El'.size=sz) (hlen:Nat.ble (len * sz) 16777216=true) (hxl:xs.length=len)
  (hzl:Nat.beq zs.length sz=true) (hfill':zcA (fun i=>some (i * sz,sz)) (List.replicate len zs).flatten qs=some cells)
  (hcells:css.flatten=cells)
  (k:∀ v,Nx n G D w0 R ((d,v) :: E) (zf El' e v xs :: L) H) :
  Nx n G D w0 (fun a w=>Oper.wp P ⟨some d,.buildSlice T len ps,ty,pos,aft,gd⟩ a w R Q) E L H :=
 YU hd rfl fun ρ w hE hm hH=>by
  have hp:=El'.pos
  have hrun:=zjE (P:=P) (w:=w) (qs:=qs) hT hzr (by omega) hlen hzl hfill'
  have hrows:=hc w hm
  have hl:=hrows.length
  refine ⟨.slice (some ⟨w.heap.size,0,none⟩) len len,w.alloc (.cells cells.toArray e),_,H,by simp only [execOp,hq ρ hE,Sem.run_bind,hrun];rfl,?_,hH,k _⟩
  refine hm.add _ ((Below.refl _ _).alloc (Nat.le_refl _) _) (fun b hb=>by simp [zf,Value.ownBlock] at hb;rw [World.size_alloc];omega) ?_
  rw [hcells,hxl] at hl
  subst hxl
  have hrows':=hrows.keep (F':=fz G (zf El' e (.slice (some ⟨w.heap.size,0,none⟩) xs.length xs.length) xs :: L) (w.alloc (.cells cells.toArray e))) (w':=w.alloc (.cells cells.toArray e)) (fun b hb=>⟨by have:=hb.1;rw [World.size_alloc];omega,hb.2.1,fun c hc=>by
   rcases List.mem_cons.1 hc with e' | e'
   ·subst e'
    intro h
    simp [zf,Value.ownBlock] at h
    have:=hb.1
    omega
   ·exact hb.2.2 c e'⟩) (fun b hb=>heap_alloc_old w _ hb.1)
  refine zdn hrows' (heap_alloc_new w _) (Nat.le_refl _) ?_ (by simpa [hes] using hl) ?_
  ·have hle:=Nat.le_of_ble_eq_true hlen
   have:xs.length<=xs.length * sz:=Nat.le_mul_of_pos_right _ (by omega)
   unfold maxLen;omega
  ·rw [hcells,hes,List.take_of_length_le (by have:=hl;rw [hes] at this;simp;omega)]
theorem zc2 {V:Type} {El':El V} {v:Value} {xs:List V} {I:Int} {z y':V} {o fs:Nat} {row:Bool} {u:Value} (i:Nat) (hi:xH L i=some (zf El' e v xs)) (hes:El'.size=sz) (hz:xs[I.toNat]?=some z)
  (hcell:∀ w cs,Mem G D w0 L w->El'.cells (fz G L w) w z cs->El'.cells (fz G L w) w y' (YJ cs o u.cells.toList))
  (hT:tyB P T=some (row,fs)) (hx:oev E x=some (pEl v I sz o)) (hy:oev E y=some u) (hsz:Nat.beq u.cells.size fs=true) (h1:u.cells.toList.all (·.oneCell')=true) (hle:Nat.ble (o+fs) sz=true)
  (k:Nx n G D w0 R E (ZQ L i (zf El' e v (xs.set I.toNat y'))) H):Nx n G D w0 (fun a w=>Oper.wp P ⟨none,.store T x y,ty,pos,aft,gd⟩ a w R Q) E L H :=
 zfU rfl fun ρ w hE hm hH=>by
  have hlt:=(List.getElem?_eq_some_iff.1 hz).1
  obtain ⟨css,hr,hown⟩:=hm.get hi
  have hcss:=hr.length
  obtain ⟨h0,hown⟩:=hown
  rcases hown with ⟨_,hn⟩ | ⟨g,cap,cur,rfl,hg0,hg,hnc,hcm,hcs,htake⟩
  ·omega
  rw [yi] at hx
  have hzs:=Nat.eq_of_beq_eq_true hsz
  have hle':=Nat.le_of_ble_eq_true hle
  have hb:w.heap[g]?=some (.cells cur.toList.toArray e (0,0)):=by simpa using hg
  have hsub:I.toNat * sz+sz<=xs.length * sz:=by rw [← Nat.succ_mul];exact Nat.mul_le_mul_right _ hlt
  have hcap:xs.length * sz<=cap * sz:=Nat.mul_le_mul_right _ hnc
  have hcl:cur.toList.length=cap * sz:=by rw [Array.length_toList,hcs,hes]
  have hr':=zdv (P:=P) (w:=w) hT hsz h1 (b:=g) (o:=0+I.toNat * sz+o) (Yk hb (by rw [hzs,hcl];omega))
  refine ⟨_,_,H,by simp [execOp,hE _ _ hx,hE _ _ hy] at hr' ⊢;rw [hr'];rfl,?_,hH,k⟩
  obtain ⟨s1,s2,s3⟩:=XQ g u.cells.toList (I.toNat * sz+o) w
  refine hm.upd hi s1 s2 s3 (by rw [xK];exact Nat.le_refl _) (fun x _ hx=>uF g _ _ _ _ (fun e=>hx (by rw [e];rfl))) (fun x hx=>⟨?_,.inl hx⟩) ?_
  ·have hx':some g=some x:=hx
   cases hx'
   rw [xK]
   exact (Array.getElem?_eq_some_iff.1 hg).1
  ·obtain ⟨cz,c1,c2⟩:=hr.get hz
   have hlz:cz.length=sz:=by rw [El'.len _ _ _ _ c1,hes]
   have hnew:=hcell w cz hm c1
   obtain ⟨pre,post,old,e1,e2,e3,css',e4,e5⟩:=hr.set I.toNat (y:=y') (ds:=YJ cz o u.cells.toList) hlt hnew
   have hold:old=cz:=by
    apply List.ext_getElem?
    intro j
    by_cases hj:j<cz.length
    ·have:=c2 j cz[j] (List.getElem?_eq_getElem hj)
     rw [e1,List.append_assoc,← e2,List.getElem?_append_right (by omega),show pre.length+j - pre.length=j by omega,List.getElem?_append_left (by rw [e3,hes];omega)] at this
     rw [this,List.getElem?_eq_getElem hj]
    ·rw [List.getElem?_eq_none (by rw [e3,hes];omega),List.getElem?_eq_none (by omega)]
   have hup:=XN g e (0,0) u.cells.toList (I.toNat * sz+o) cur.toList w hb
   have hFz:∀ b,fz G L w b->fz G (ZQ L i (zf El' e (.slice (some ⟨g,0,none⟩) xs.length cap) (xs.set I.toNat y'))) (w.setCells g (I.toNat * sz+o) u.cells.toList) b:=fun b hb=>⟨by rw [xK];exact hb.1,hb.2.1,fun x hx=>by
    rcases X4 hi hm.disj hx with e' | ⟨e1,_⟩
    ·subst e';exact fun hk=>hb.2.2 _ (x7 hi) hk
    ·exact hb.2.2 x e1⟩
   have hsame:∀ b,fz G L w b->(w.setCells g (I.toNat * sz+o) u.cells.toList).heap[b]?=w.heap[b]?:=fun b hb=>uF g _ _ _ _ (fun e'=>hb.2.2 _ (x7 hi) (by rw [e'];rfl))
   refine ⟨css',e5.keep hFz hsame,?_,.inr ⟨g,cap,(YJ cur.toList (I.toNat * sz+o) u.cells.toList).toArray,by simp,hg0,hup,by simpa using hnc,hcm,by simpa [Y7] using hcs,?_⟩⟩
   ·have:=e5.length
    simpa using this
   ·rw [e4]
    have hct:cur.toList=pre++old++(post++cur.toList.drop (xs.length * sz)):=by
     rw [← List.append_assoc,← e1,← htake,hes,List.take_append_drop]
    rw [hct,← hes,← e2,UY _ _ _ _ _ (by rw [hold,hlz];simp;omega),hold,← List.append_assoc]
    rw [List.length_set]
    have htot:(pre++YJ cz o u.cells.toList++post).length=xs.length * El'.size:=by
     have h5:=congrArg List.length e1
     rw [hcss] at h5
     simp [Y7] at h5 ⊢
     omega
    rw [← htot]
    exact List.take_left
end
end
section
open Go.RowKit
structure DEl (V:Type) where
 el:El V
 own:List Nat->World->V->List Value->Prop
 read:∀ B w x cs,own B w x cs->el.cells (fun b=>b∈B) w x cs
 keep:∀ B w w' x cs,(∀ b,b∈B->w'.heap[b]?=w.heap[b]?)->own B w x cs->own B w' x cs
 lt:∀ B w x cs,own B w x cs->∀ b,b∈B->b<w.heap.size
def zaM (v:Value):List Nat:=v.ownBlock.toList
theorem Zo {v:Value} {b:Nat}:b∈zaM v↔v.ownBlock=some b:=by simp [zaM]
structure ZZ {V:Type} (E:DEl V) (w:World) (xs:List V) (css:List (List Value)) (Bs:List (List Nat)):Prop where
 lc:css.length=xs.length
 lb:Bs.length=xs.length
 own:∀ (i:Nat) x cs B,xs[i]?=some x->css[i]?=some cs->Bs[i]?=some B->E.own B w x cs
def Dp {V:Type} (E:DEl V) (ty:TypeId) (B:List Nat) (w:World) (v:Value) (xs:List V):Prop :=
 ∃ css Bs,ZZ E w xs css Bs∧w.ownsRow 0 ty E.el.size v xs.length css.flatten∧B.Perm (zaM v++Bs.flatten)
section
variable {V:Type} {E:DEl V} {w w':World} {xs ys:List V} {css dss:List (List Value)} {Bs Cs:List (List Nat)} {ty:TypeId} {B:List Nat} {v:Value}
theorem ZZ.mem (h:ZZ E w xs css Bs) {b:Nat} (hb:b∈Bs.flatten):∃ (i:Nat) (x:V) (cs:List Value) (B:List Nat),xs[i]?=some x∧css[i]?=some cs∧Bs[i]?=some B∧b∈B∧E.own B w x cs:=by
 obtain ⟨C,hC,hbC⟩:=List.mem_flatten.1 hb;obtain ⟨i,hi,e⟩:=List.getElem_of_mem hC;have h1:i<xs.length:=by rw [← h.lb];exact hi
 have h2:i<css.length:=by rw [h.lc];exact h1
 refine ⟨i,xs[i],css[i],C,List.getElem?_eq_getElem h1,List.getElem?_eq_getElem h2,by rw [List.getElem?_eq_getElem hi,e],hbC,?_⟩;exact h.own i _ _ _ (List.getElem?_eq_getElem h1) (List.getElem?_eq_getElem h2) (by rw [List.getElem?_eq_getElem hi,e])
theorem ZZ.lt (h:ZZ E w xs css Bs):∀ b,b∈Bs.flatten->b<w.heap.size:=fun b hb=>by
 obtain ⟨i,x,cs,C,_,_,_,hbC,ho⟩:=h.mem hb
 exact E.lt _ _ _ _ ho b hbC
theorem ZZ.keep (h:ZZ E w xs css Bs) (hk:∀ b,b∈Bs.flatten->w'.heap[b]?=w.heap[b]?):ZZ E w' xs css Bs :=
 ⟨h.lc,h.lb,fun i x cs C h1 h2 h3=>E.keep _ _ _ _ _ (fun b hb=>hk b (List.mem_flatten.2 ⟨C,List.mem_of_getElem? h3,hb⟩)) (h.own i x cs C h1 h2 h3)⟩
theorem ZZ.nil:ZZ E w [] [] []:=⟨rfl,rfl,fun i x cs C h=>by simp at h⟩
theorem ZZ.one {x:V} {cs:List Value} {C:List Nat} (h:E.own C w x cs):ZZ E w [x] [cs] [C]:=⟨rfl,rfl,fun i y ds D h1 h2 h3=>by
 cases i with
 | zero=>simp at h1 h2 h3;subst h1 h2 h3;exact h
 | succ i=>simp at h1⟩
theorem ZZ.append (h:ZZ E w xs css Bs) (k:ZZ E w ys dss Cs):ZZ E w (xs++ys) (css++dss) (Bs++Cs) :=
 ⟨by simp [h.lc,k.lc],by simp [h.lb,k.lb],fun i x cs C h1 h2 h3=>by
  have e1:=h.lc
  have e2:=h.lb
  by_cases hi:i<xs.length
  ·rw [List.getElem?_append_left (by omega)] at h1 h2 h3
   exact h.own i x cs C h1 h2 h3
  ·rw [List.getElem?_append_right (by omega)] at h1 h2 h3
   rw [e1] at h2
   rw [e2] at h3
   exact k.own _ x cs C h1 h2 h3⟩
theorem ZZ.replicate {z:V} {zs:List Value} (h:E.own [] w z zs) (n:Nat):ZZ E w (List.replicate n z) (List.replicate n zs) (List.replicate n []) :=
 ⟨by simp,by simp,fun i x cs C h1 h2 h3=>by
  rw [List.getElem?_replicate] at h1 h2 h3
  split at h1
  ·rename_i hi
   rw [if_pos hi] at h2 h3
   cases h1;cases h2;cases h3
   exact h
  ·cases h1⟩
theorem ZZ.set (h:ZZ E w xs css Bs) (I:Nat) {y:V} {ds:List Value} {C:List Nat} (hy:E.own C w y ds):ZZ E w (xs.set I y) (css.set I ds) (Bs.set I C) :=
 ⟨by simp [h.lc],by simp [h.lb],fun i x cs D h1 h2 h3=>by
  rw [List.getElem?_set] at h1 h2 h3
  by_cases e:I=i
  ·subst e
   simp only [if_true] at h1 h2 h3
   split at h1
   ·rename_i hl
    rw [h.lc,if_pos hl] at h2
    rw [h.lb,if_pos hl] at h3
    cases h1;cases h2;cases h3
    exact hy
   ·cases h1
  ·rw [if_neg e] at h1 h2 h3
   exact h.own i x cs D h1 h2 h3⟩
theorem zms:∀ {xs:List V} {css:List (List Value)} {F:Nat->Prop} {E:El V},css.length=xs.length->(∀ (i:Nat) x cs,xs[i]?=some x->css[i]?=some cs->E.cells F w x cs)->Rows E F w xs css
 | [],[],_,_,_,_=>trivial
 | x :: xs,cs :: css,_,_,hl,h=>⟨h 0 x cs rfl rfl,zms (by simpa using hl) (fun i y ds h1 h2=>h (i+1) y ds (by simpa using h1) (by simpa using h2))⟩
 | [],_ :: _,_,_,hl,_=>by simp at hl
 | _ :: _,[],_,_,hl,_=>by simp at hl
theorem ZZ.rows {F:Nat->Prop} (h:ZZ E w xs css Bs) (hF:∀ b,b∈Bs.flatten->F b):Rows E.el F w xs css:=zms h.lc (fun i x cs h1 h2=>by
 have hi:=(List.getElem?_eq_some_iff.1 h1).1
 have h3:Bs[i]?=some (Bs[i]'(by rw [h.lb];exact hi)):=List.getElem?_eq_getElem _
 exact E.el.keep _ _ w w x cs (fun b hb=>hF b (List.mem_flatten.2 ⟨_,List.mem_of_getElem? h3,hb⟩)) (fun _ _=>rfl) (E.read _ _ _ _ (h.own i x cs _ h1 h2 h3)))
theorem ZZ.size (h:ZZ E w xs css Bs):∀ cs∈css,cs.length=E.el.size:=fun cs hc=>by
 obtain ⟨i,hi,e⟩:=List.getElem_of_mem hc
 have h1:i<xs.length:=by rw [← h.lc];exact hi
 have h3:i<Bs.length:=by rw [h.lb];exact h1
 exact E.el.len _ _ _ _ (E.read _ _ _ _ (h.own i _ cs _ (List.getElem?_eq_getElem h1) (by rw [List.getElem?_eq_getElem hi,e]) (List.getElem?_eq_getElem h3)))
theorem Dp.own {F:Nat->Prop} (h:Dp E ty B w v xs) (hF:∀ b,b∈B->F b):Own E.el ty F w v xs:=by
 obtain ⟨css,Bs,h1,h2,h3⟩:=h;exact ⟨css,h1.rows (fun b hb=>hF b (h3.symm.subset (List.mem_append.2 (.inr hb)))),h2⟩
theorem Dp.blk (h:Dp E ty B w v xs):∀ b,v.ownBlock=some b->b∈B:=fun b hb=>by
 obtain ⟨css,Bs,h1,h2,h3⟩:=h
 exact h3.symm.subset (List.mem_append.2 (.inl (Zo.2 hb)))
theorem Dp.lt (h:Dp E ty B w v xs):∀ b,b∈B->b<w.heap.size:=fun b hb=>by
 obtain ⟨css,Bs,h1,h2,h3⟩:=h
 rcases List.mem_append.1 (h3.subset hb) with hb | hb
 ·exact (h2.lt b (Zo.1 hb)).2
 ·exact h1.lt b hb
theorem Dp.keep (h:Dp E ty B w v xs) (hk:∀ b,b∈B->w'.heap[b]?=w.heap[b]?):Dp E ty B w' v xs:=by
 obtain ⟨css,Bs,h1,h2,h3⟩:=h;exact ⟨css,Bs,h1.keep (fun b hb=>hk b (h3.symm.subset (List.mem_append.2 (.inr hb)))),zcq h2 (fun b hb=>hk b (h3.symm.subset (List.mem_append.2 (.inl (Zo.2 hb))))),h3⟩
theorem Dp.nil:Dp E ty [] w (.slice none 0 0) []:=⟨[],[],ZZ.nil,World.ownsRow_nil ..,by simp [zaM,Value.ownBlock]⟩
theorem Dp.sl (h:Dp E ty B w v xs):Sl E.el (fun b=>b∈B) w v xs:=(h.own (F:=fun b=>b∈B) (fun b hb=>hb)).sl (fun b hb=>hb) (fun b hb=>h.blk b hb)
end
def zeX {V:Type} (E:El V) (enc:V->List Value) (hfl:VH E enc):DEl V where
 el:=E
 own:=fun B w x cs=>B=[]∧cs=enc x
 read:=fun B w x cs h=>(hfl _ _ _ _).2 h.2
 keep:=fun B w w' x cs _ h=>h
 lt:=fun B w x cs h b hb=>by rw [h.1] at hb;cases hb
def dSl {V:Type} (E:DEl V) (ty:TypeId):DEl (List V) where
 el:=z8 E.el
 own:=fun B w xs cs=>∃ v,cs=[v]∧Dp E ty B w v xs
 read:=fun B w x cs ⟨v,h1,h2⟩=>⟨v,h1,h2.sl⟩
 keep:=fun B w w' x cs hk ⟨v,h1,h2⟩=>⟨v,h1,h2.keep hk⟩
 lt:=fun B w x cs ⟨v,h1,h2⟩=>h2.lt
def jq {V:Type} (E:DEl V) (ty:TypeId) (B:List Nat) (v:Value) (xs:List V):Ch where
 foot:=fun b=>b∈B
 holds:=fun _ w=>B.Nodup∧Dp E ty B w v xs
 keep:=fun _ _ _ _ _ hb h=>⟨h.1,h.2.keep (fun b hb'=>hb b (.inr hb'))⟩
theorem zaQ {V:Type} {E:DEl V} {ty:TypeId} {B:List Nat} {v:Value} {xs:List V}:(jq E ty B v xs).free:=fun _ _ _ h=>h
structure zoM {V:Type} (E:DEl V) (w:World) (xs:List V) (css:List (List Value)) (Bs:List (List Nat)) (I:Nat) (cz:List Value):Prop where
 lc:css.length=xs.length
 lb:Bs.length=xs.length
 own:∀ (i:Nat) x cs B,i≠I->xs[i]?=some x->css[i]?=some cs->Bs[i]?=some B->E.own B w x cs
 here:css[I]?=some cz
 none:Bs[I]?=some []
 size:∀ cs∈css,cs.length=E.el.size
theorem zoM.lt {V:Type} {E:DEl V} {w:World} {xs:List V} {css:List (List Value)} {Bs:List (List Nat)} {I:Nat} {cz:List Value} (h:zoM E w xs css Bs I cz):∀ b,b∈Bs.flatten->b<w.heap.size:=fun b hb=>by
 obtain ⟨C,hC,hbC⟩:=List.mem_flatten.1 hb
 obtain ⟨i,hi,e⟩:=List.getElem_of_mem hC
 have h1:i<xs.length:=by rw [← h.lb];exact hi
 have h2:i<css.length:=by rw [h.lc];exact h1
 have hC':Bs[i]?=some C:=by rw [List.getElem?_eq_getElem hi,e]
 by_cases hI:i=I
 ·subst hI;rw [h.none] at hC';cases hC';cases hbC
 ·exact E.lt _ _ _ _ (h.own i _ _ _ hI (List.getElem?_eq_getElem h1) (List.getElem?_eq_getElem h2) hC') b hbC
def UG {V:Type} (E:DEl V) (ty:TypeId) (B:List Nat) (v:Value) (xs:List V) (I:Nat) (cz:List Value):Ch where
 foot:=fun b=>b∈B
 holds:=fun _ w=>B.Nodup∧∃ css Bs,zoM E w xs css Bs I cz∧w.ownsRow 0 ty E.el.size v xs.length css.flatten∧B.Perm (zaM v++Bs.flatten)
 keep:=fun _ _ w w' _ hb ⟨h0,css,Bs,h1,h2,h3⟩=>⟨h0,css,Bs,⟨h1.lc,h1.lb,fun i x cs C hne k1 k2 k3=>E.keep _ _ _ _ _ (fun b hb'=>hb b (.inr (h3.symm.subset (List.mem_append.2 (.inr (List.mem_flatten.2 ⟨C,List.mem_of_getElem? k3,hb'⟩)))))) (h1.own i x cs C hne k1 k2 k3),h1.here,h1.none,h1.size⟩,
  zcq h2 (fun b hb'=>hb b (.inr (h3.symm.subset (List.mem_append.2 (.inl (Zo.2 hb')))))),h3⟩
theorem zet:∀ {Bs:List (List Nat)} {i:Nat} {B:List Nat},Bs[i]?=some B->Bs.flatten.Perm (B++(Bs.set i []).flatten)
 | [],i,B,h=>by simp at h
 | C :: Bs,0,B,h=>by simp at h;subst h;simp
 | C :: Bs,i+1,B,h=>by
  have ih:=zet (Bs:=Bs) (i:=i) (B:=B) (by simpa using h)
  simp only [List.flatten_cons,List.set_cons_succ]
  refine (List.Perm.append_left C ih).trans ?_
  rw [← List.append_assoc,← List.append_assoc]
  exact List.Perm.append_right _ List.perm_append_comm
theorem zeL {Bs:List (List Nat)} {i:Nat} (h:i<Bs.length) (C:List Nat):(Bs.set i C).flatten.Perm (C++(Bs.set i []).flatten):=by
 have:=zet (Bs:=Bs.set i C) (i:=i) (B:=C) (by simp [h]);rwa [List.set_set] at this
theorem zib {V:Type}:∀ {l:List V} {i:Nat} {x:V},l[i]?=some x->l.set i x=l
 | [],i,x,h=>by simp at h
 | a :: l,0,x,h=>by simp at h;subst h;rfl
 | a :: l,i+1,x,h=>by simp at h;simp [zib h]
theorem zh6 {A B C:List Nat} (h:(A++(B++C)).Nodup) (D:List Nat) (hD:D.Nodup) (hdis:∀ b,b∈D->b ∉ A++C):(A++(D++C)).Nodup:=by
 simp only [List.nodup_append,List.mem_append] at h hdis ⊢;obtain ⟨h1,⟨h2,h3,h4⟩,h5⟩:=h;refine ⟨h1,⟨hD,h3,fun a ha b hb e=>hdis a ha (.inr (e ▸ hb))⟩,fun a ha b hb e=>?_⟩;rcases hb with hb | hb
 ·exact hdis b hb (.inl (e ▸ ha))
 exact h5 a ha b (.inr hb) e
theorem zfd {css:List (List Value)} {z:Nat} (h:∀ cs∈css,cs.length=z):css.flatten.length=css.length * z:=by
 induction css with
 | nil=>simp
 | cons c r ih =>
  rw [List.flatten_cons,List.length_append,ih (fun cs hc=>h cs (List.mem_cons_of_mem _ hc)),h c (List.mem_cons_self ..),List.length_cons,Nat.succ_mul];omega
theorem zdP {w:World} {css:List (List Value)} {I o z n cap g:Nat} {e:TypeId} {cz us:List Value} (hl:∀ cs∈css,cs.length=z) (hn:css.length=n) (h:w.ownsRow 0 e z (.slice (some ⟨g,0,none⟩) n cap) n css.flatten) (hI:css[I]?=some cz) (hle:o+us.length<=z) :
  (w.setCells g (I * z+o) us).ownsRow 0 e z (.slice (some ⟨g,0,none⟩) n cap) n (css.set I (YJ cz o us)).flatten:=by
 obtain ⟨h0,hown⟩:=h;rcases hown with ⟨h,_⟩ | ⟨g',cap',cur,h,hg0,hg,hnc,hcm,hcs,htake⟩
 ·cases h
 cases h;have hlt:=(List.getElem?_eq_some_iff.1 hI).1;have hcz:css[I]=cz:=(List.getElem?_eq_some_iff.1 hI).2;have hb:w.heap[g]?=some (.cells cur.toList.toArray e (0,0)):=by simpa using hg
 have hup:=XN g e (0,0) us (I * z+o) cur.toList w hb;have hlz:cz.length=z:=hl cz (List.mem_of_getElem? hI);have hsp:css=css.take I++cz :: css.drop (I+1):=by rw [← hcz];simp
 have hset:css.set I (YJ cz o us)=css.take I++YJ cz o us :: css.drop (I+1):=by rw [List.set_eq_take_append_cons_drop,if_pos hlt]
 have hpl:(css.take I).flatten.length=I * z:=by rw [zfd (z:=z) (fun cs hc=>hl cs (List.mem_of_mem_take hc)),List.length_take];congr 1;omega
 have hll:∀ cs∈css.set I (YJ cz o us),cs.length=z:=fun cs hc=>by
  rcases List.mem_or_eq_of_mem_set hc with h | h
  ·exact hl cs h
  rw [h,Y7];exact hlz
 have hfl:(css.set I (YJ cz o us)).flatten.length=n * z:=by rw [zfd hll,List.length_set,hn]
 refine ⟨hfl,.inr ⟨g,cap,(YJ cur.toList (I * z+o) us).toArray,rfl,hg0,hup,hnc,hcm,by simpa [Y7] using hcs,?_⟩⟩;have hct:cur.toList=(css.take I).flatten++cz++((css.drop (I+1)).flatten++cur.toList.drop (n * z)):=by
  have e1:css.flatten=(css.take I).flatten++cz++(css.drop (I+1)).flatten:=by
   conv=>lhs;rw [hsp]
   simp
  rw [← List.append_assoc,← e1,← htake,List.take_append_drop]
 rw [hct,← hpl,UY _ _ _ _ _ (by omega),← List.append_assoc,← hfl];rw [show (css.set I (YJ cz o us)).flatten=(css.take I).flatten++YJ cz o us++(css.drop (I+1)).flatten by rw [hset];simp];exact List.take_left
section
variable {G D:Nat->Prop} {w0 w:World} {L:List Ch}
theorem Mem.repl {w':World} {M0 N:List Ch} (m:Mem G D w0 (M0++L) w) (hb:zkJ (uv M0) w w') (hf:∀ c∈N,∀ b,c.foot b->(w.heap.size<=b∨uv M0 b)∧b<w'.heap.size) (hd:N.Pairwise fun c d=>∀ b,c.foot b->¬ d.foot b) (hh:∀ c∈N,∀ F,c.holds F w'):Mem G D w0 (N++L) w' :=
 m.call hb ⟨hf,hd,fun c hc=>hh c hc _⟩
theorem zft {M:List Ch}:zkJ (uv M) w w:=⟨rfl,rfl,rfl,Nat.le_refl _,fun _ _ _=>rfl⟩
theorem zku {M:List Ch} {g o:Nat} {us:List Value} (h:uv M g):zkJ (uv M) w (w.setCells g o us):=by
 obtain ⟨s1,s2,s3⟩:=XQ g us o w;exact ⟨s1,s2,s3,by rw [xK];exact Nat.le_refl _,fun b _ hb=>uF g _ _ _ _ (fun e=>hb (by rw [e];exact h))⟩
end
def zoa {V:Type} (c:Ch) (E:DEl V) (ty:TypeId) (v:Value) (xs:List V):Prop:=∀ F w,c.holds F w->∃ B:List Nat,B.Nodup∧Dp E ty B w v xs∧∀ b,b∈B->c.foot b
theorem yk {V:Type} {E:DEl V} {ty:TypeId} {B:List Nat} {v:Value} {xs:List V}:zoa (jq E ty B v xs) E ty v xs:=fun F w h=>⟨B,h.1,h.2,fun _ hb=>hb⟩
theorem zlO {V:Type} {E:El V} {enc:V->List Value} {hfl:VH E enc} {F:Nat->Prop} {w:World}:∀ {xs:List V} {css:List (List Value)},Rows E F w xs css->ZZ (zeX E enc hfl) w xs css (List.replicate xs.length []):=fun {xs css} h=>by
 induction xs generalizing css with
 | nil=>cases css with
  | nil=>exact ZZ.nil
  | cons _ _=>exact h.elim
 | cons x xs ih=>cases css with
  | nil=>exact h.elim
  | cons cs css =>
   have:=(ZZ.one (E:=zeX E enc hfl) (w:=w) (x:=x) (cs:=cs) (C:=[]) ⟨rfl,(hfl _ _ _ _).1 h.1⟩).append (ih h.2)
   simpa [List.replicate_succ] using this
theorem zeF (n:Nat):(List.replicate n ([]:List Nat)).flatten=[]:=by induction n with
 | zero=>rfl
 | succ n ih=>rw [List.replicate_succ,List.flatten_cons,ih];rfl
theorem zhE (v:Value):(zaM v).Nodup:=by
 unfold zaM;cases v.ownBlock <;> simp
theorem xD {V:Type} {E:El V} {enc:V->List Value} (hfl:VH E enc) {ty:TypeId} {v:Value} {xs:List V}:zoa (zf E ty v xs) (zeX E enc hfl) ty v xs:=fun F w ⟨css,h1,h2⟩ =>
 ⟨zaM v,zhE v,⟨css,_,zlO h1,h2,by rw [zeF,List.append_nil]⟩,fun b hb=>Zo.1 hb⟩
theorem z6 {V:Type} {E:DEl V} {ty:TypeId} {B:List Nat} {v:Value} {xs:List V}:UP (jq E ty B v xs) E.el v xs:=fun F w h=>h.2.sl.keep (fun b hb=>.inr hb) (fun _ _=>rfl)
def zfM {V:Type} (M:List Ch) (E:DEl V) (y:V) (cs:List Value):Prop:=∀ F w,(∀ c∈M,c.holds F w)->∃ B:List Nat,B.Nodup∧E.own B w y cs∧∀ b,b∈B->uv M b
theorem jr {V β:Type} {c:Ch} {E:DEl V} {E1:DEl β} {t1:TypeId} {v:Value} {xs:List β} {y:V} {cs:List Value} (hg:zoa c E1 t1 v xs) (h:∀ B w,Dp E1 t1 B w v xs->E.own B w y cs):zfM [c] E y cs:=fun F w hc=>by
 obtain ⟨B,h1,h2,h3⟩:=hg F w (hc c (List.mem_cons_self ..))
 exact ⟨B,h1,h B w h2,fun b hb=>⟨c,List.mem_cons_self ..,h3 b hb⟩⟩
theorem XO {V:Type} {E:DEl V} {y:V} {cs:List Value} (h:∀ w,E.own [] w y cs):zfM [] E y cs:=fun F w _=>⟨[],List.nodup_nil,h w,fun b hb=>by cases hb⟩
theorem zkw {G D:Nat->Prop} {w0 w:World} {M L:List Ch} (m:Mem G D w0 (M++L) w):∀ c∈M,c.holds (fz G (M++L) w) w:=fun c hc=>m.hold c (List.mem_append.2 (.inl hc))
section
variable {P:Program} {n:Nat} {G D:Nat->Prop} {w0:World} {Q:Exit->Act->World->Prop} {R:Act->World->Prop} {E:Env} {L M:List Ch} {H:Prop}
variable {d:Tmp} {ty:TypeId} {pos:String} {aft:Array Edge} {gd:Option (Nat×Bool)} {Tk:Act->World->Prop} {Lr:List Ch} {x y:Operand} {T T' S:TypeId} {e sz by':Nat}
theorem zan {V:Type} (E':DEl V) (e:TypeId) {w:World} (m:Mem G D w0 L w):Mem G D w0 (jq E' e [] (.slice none 0 0) [] :: L) w :=
 m.note (fun b hb=>by cases hb) ⟨List.nodup_nil,Dp.nil⟩
theorem Mem.undp {V:Type} {E':DEl V} {e:TypeId} {B:List Nat} {v:Value} {xs:List V} {w:World} (m:Mem G D w0 L w) (i:Nat) (hi:xH L i=some (jq E' e B v xs)):Mem G D w0 (ZQ L i (zf E'.el e v xs)) w:=by
 obtain ⟨hnd,css,Bs,h1,h2,h3⟩:=m.get hi;have hmem:=x7 hi;refine m.upd hi rfl rfl rfl (Nat.le_refl _) (fun _ _ _=>rfl) (fun b hb=>?_) ⟨css,h1.rows (fun b hb=>?_),h2⟩
 ·have hb':b∈B:=h3.symm.subset (List.mem_append.2 (.inl (Zo.2 hb)));exact ⟨(m.range _ hmem b hb').1,.inl hb'⟩
 have hb':b∈B:=h3.symm.subset (List.mem_append.2 (.inr hb));refine ⟨(m.range _ hmem b hb').1,m.fresh b (m.range _ hmem b hb').2,fun d hd=>?_⟩;rcases X4 hi m.disj hd with e' | ⟨e1,e2⟩
 ·subst e';intro hk;have:=h3.nodup_iff.1 hnd;rw [List.nodup_append] at this;exact this.2.2 b (Zo.2 hk) b hb rfl
 exact fun h=>e2 b h hb'
theorem yW {V:Type} {E':DEl V} {e:TypeId} {B:List Nat} {v:Value} {xs:List V} (i:Nat) (hi:xH L i=some (jq E' e B v xs)) (h:Nx n G D w0 R E (ZQ L i (zf E'.el e v xs)) H):Nx n G D w0 R E L H:=fun a w hE hm hH=>h a w hE (hm.undp i hi) hH
theorem xS {V:Type} {E':DEl V} {e:TypeId} {B:List Nat} {v:Value} {xs:List V} (i:Nat) (hi:xH L i=some (jq E' e B v xs)) (h:∀ a l c,v=.slice a l c->Nx n G D w0 R E L H):Nx n G D w0 R E L H:=fun a w hE hm hH=>by
 obtain ⟨_,css,Bs,_,⟨_,hv⟩,_⟩:=hm.get hi
 rcases hv with ⟨hv,_⟩ | ⟨g,cap,cur,hv,_⟩
 ·exact h _ _ _ hv a w hE hm hH
 ·exact h _ _ _ hv a w hE hm hH
theorem zhX {V:Type} {E':DEl V} {v u:Value} {xs:List V} {B:List Nat} {I:Int} {z y':V} {o fs:Nat} {row:Bool} (hes:E'.el.size=sz) (hz:xs[I.toNat]?=some z)
  (hc:∀ w B cz,E'.own B w z cz->zfM M E' y' (YJ cz o u.cells.toList))
  (hT:tyB P T=some (row,fs)) (hx:oev E x=some (pEl v I sz o)) (hy:oev E y=some u) (hsz:Nat.beq u.cells.size fs=true) (h1:u.cells.toList.all (·.oneCell')=true) (hle:Nat.ble (o+fs) sz=true)
  (k:∀ B',Nx n G D w0 R E (jq E' e B' v (xs.set I.toNat y') :: L) H):Nx n G D w0 (fun a w=>Oper.wp P ⟨none,.store T x y,ty,pos,aft,gd⟩ a w R Q) E (jq E' e B v xs :: (M++L)) H :=
 zfU rfl fun ρ w hE hm hH=>by
  have hlt:=(List.getElem?_eq_some_iff.1 hz).1
  obtain ⟨bn,css,Bs,hr,how,hB⟩:=hm.hold _ (List.mem_cons_self ..)
  have hlc:I.toNat<css.length:=by rw [hr.lc];exact hlt
  have hlb:I.toNat<Bs.length:=by rw [hr.lb];exact hlt
  have hcI:css[I.toNat]?=some css[I.toNat]:=List.getElem?_eq_getElem hlc
  have hbI:Bs[I.toNat]?=some Bs[I.toNat]:=List.getElem?_eq_getElem hlb
  have hoz:=hr.own _ _ _ _ hz hcI hbI
  obtain ⟨C,c1,c2,c3⟩:=hc w _ _ hoz _ w (fun c hc=>hm.hold c (List.mem_cons_of_mem _ (List.mem_append.2 (.inl hc))))
  obtain ⟨g,cap,hv⟩:∃ g cap,v=.slice (some ⟨g,0,none⟩) xs.length cap:=by
   rcases how.2 with ⟨_,hn⟩ | ⟨g,cap,cur,hv,_⟩
   ·omega
   ·exact ⟨g,cap,hv⟩
  subst hv
  rw [yi] at hx
  have hzs:=Nat.eq_of_beq_eq_true hsz
  have hle':=Nat.le_of_ble_eq_true hle
  have hgB:g∈B:=hB.symm.subset (List.mem_append.2 (.inl (Zo.2 rfl)))
  have hrun:(Instr.storeAt T (.pointer (some ⟨g,0+I.toNat * sz+o,none⟩)) u).run P w=.ok () (w.setCells g (0+I.toNat * sz+o) u.cells.toList):=by
   rcases how.2 with ⟨h,_⟩ | ⟨g',cap',cur,h,_,hg,hnc,_,hcs,_⟩
   ·cases h
   cases h
   have hb:w.heap[g]?=some (.cells cur.toList.toArray e (0,0)):=by simpa using hg
   have hsub:I.toNat * sz+sz<=xs.length * sz:=by rw [← Nat.succ_mul];exact Nat.mul_le_mul_right _ hlt
   have hcap:xs.length * sz<=cap * sz:=Nat.mul_le_mul_right _ hnc
   have hcl:cur.toList.length=cap * sz:=by rw [Array.length_toList,hcs,hes]
   exact zdv (P:=P) (w:=w) hT hsz h1 (b:=g) (o:=0+I.toNat * sz+o) (Yk hb (by rw [hzs,hcl];omega))
  rw [Nat.zero_add] at hrun
  have how':=zdP (o:=o) (us:=u.cells.toList) hr.size hr.lc how hcI (by simp;omega)
  have hBn:=hB.nodup_iff.1 bn
  have hdis:∀ b,b∈B->¬ uv M b:=fun b hb ⟨c,hc,hcb⟩=>(List.pairwise_cons.1 hm.disj).1 c (List.mem_append.2 (.inl hc)) b hb hcb
  have hout:=zet hbI
  have hlt2:∀ b,uv M b->b<w.heap.size:=fun b ⟨c,hc,hcb⟩=>(hm.range c (List.mem_cons_of_mem _ (List.mem_append.2 (.inl hc))) b hcb).1
  have hall:∀ b,b∈zaM (.slice (some ⟨g,0,none⟩) xs.length cap)++(Bs.set I.toNat C).flatten->b∈B∨uv M b:=fun b hb=>by
   rcases List.mem_append.1 hb with hb | hb
   ·exact .inl (hB.symm.subset (List.mem_append.2 (.inl hb)))
   ·rcases List.mem_append.1 ((zeL hlb C).subset hb) with hb | hb
    ·exact .inr (c3 b hb)
    ·exact .inl (hB.symm.subset (List.mem_append.2 (.inr (hout.symm.subset (List.mem_append.2 (.inr hb))))))
  have hsame:∀ b,b≠g->(w.setCells g (I.toNat * sz+o) u.cells.toList).heap[b]?=w.heap[b]?:=fun b hb=>uF g _ _ _ _ hb
  refine ⟨_,jq E' e (zaM (.slice (some ⟨g,0,none⟩) xs.length cap)++(Bs.set I.toNat C).flatten) (.slice (some ⟨g,0,none⟩) xs.length cap) (xs.set I.toNat y') :: L,H,by simp [execOp,hE _ _ hx,hE _ _ hy] at hrun ⊢;rw [hrun];rfl,?_,hH,k _⟩
  have hgn:∀ b,b∈Bs.flatten->b≠g:=fun b hb e'=>by
   rw [List.nodup_append] at hBn
   exact hBn.2.2 g (Zo.2 rfl) b hb e'.symm
  refine hm.repl (M0:=jq E' e B (.slice (some ⟨g,0,none⟩) xs.length cap) xs :: M) (N:=[jq E' e _ (.slice (some ⟨g,0,none⟩) xs.length cap) (xs.set I.toNat y')]) (zku ⟨_,List.mem_cons_self ..,hgB⟩) (fun c hc b hb=>?_) (List.pairwise_singleton _ _) (fun c hc F=>?_)
  ·simp only [List.mem_cons,List.not_mem_nil,or_false] at hc
   subst hc
   rw [xK]
   rcases hall b hb with h | h
   ·exact ⟨.inr ⟨_,List.mem_cons_self ..,h⟩,(hm.range _ (List.mem_cons_self ..) b h).1⟩
   ·obtain ⟨c,hc,hcb⟩:=h
    exact ⟨.inr ⟨c,List.mem_cons_of_mem _ hc,hcb⟩,(hm.range c (List.mem_cons_of_mem _ (List.mem_append.2 (.inl hc))) b hcb).1⟩
  ·simp only [List.mem_cons,List.not_mem_nil,or_false] at hc
   subst hc
   refine ⟨?_,css.set I.toNat (YJ css[I.toNat] o u.cells.toList),Bs.set I.toNat C,?_,?_,List.Perm.refl _⟩
   ·have:=zh6 (A:=zaM (.slice (some ⟨g,0,none⟩) xs.length cap)) (B:=Bs[I.toNat]) (C:=(Bs.set I.toNat []).flatten) ((List.Perm.append_left _ hout).nodup_iff.1 hBn) C c1 (fun b hb h=>by
     have hbB:b∈B:=by
      rcases List.mem_append.1 h with h | h
      ·exact hB.symm.subset (List.mem_append.2 (.inl h))
      ·exact hB.symm.subset (List.mem_append.2 (.inr (hout.symm.subset (List.mem_append.2 (.inr h)))))
     exact hdis b hbB (c3 b hb))
    exact (List.Perm.append_left _ (zeL hlb C)).symm.nodup_iff.1 this
   ·refine (hr.set I.toNat c2).keep (fun b hb=>hsame b ?_)
    rcases List.mem_append.1 ((zeL hlb C).subset hb) with hb | hb
    ·exact fun e'=>hdis g hgB (by rw [← e'];exact c3 b hb)
    ·exact hgn b (hout.symm.subset (List.mem_append.2 (.inr hb)))
   ·rw [List.length_set,hes]
    rw [hes] at how'
    exact how'
theorem zoY {V:Type} {E':DEl V} {v:Value} {xs:List V} {B:List Nat} {I:Nat} {cz:List Value} {y':V} (hc:zfM M E' y' cz) (k:∀ B',Nx n G D w0 R E (jq E' e B' v (xs.set I y') :: L) H):Nx n G D w0 R E (UG E' e B v xs I cz :: (M++L)) H:=fun a w hE hm hH=>by
 obtain ⟨bn,css,Bs,hr,how,hB⟩:=hm.hold _ (List.mem_cons_self ..)
 obtain ⟨C,c1,c2,c3⟩:=hc _ w (fun c hc=>hm.hold c (List.mem_cons_of_mem _ (List.mem_append.2 (.inl hc))))
 have hlb:=(List.getElem?_eq_some_iff.1 hr.none).1
 have hBn:=hB.nodup_iff.1 bn
 have hdis:∀ b,b∈B->¬ uv M b:=fun b hb ⟨c,hc,hcb⟩=>(List.pairwise_cons.1 hm.disj).1 c (List.mem_append.2 (.inl hc)) b hb hcb
 have hset:Bs.set I []=Bs:=zib hr.none
 have hpin:=zeL hlb C
 rw [hset] at hpin
 refine k (zaM v++(Bs.set I C).flatten) a w hE ?_ hH
 refine hm.repl (M0:=UG E' e B v xs I cz :: M) (N:=[jq E' e _ v (xs.set I y')]) zft (fun c hc b hb=>?_) (List.pairwise_singleton _ _) (fun c hc F=>?_)
 ·simp only [List.mem_cons,List.not_mem_nil,or_false] at hc
  subst hc
  have h:b∈B∨uv M b:=by
   rcases List.mem_append.1 hb with hb | hb
   ·exact .inl (hB.symm.subset (List.mem_append.2 (.inl hb)))
   ·rcases List.mem_append.1 (hpin.subset hb) with hb | hb
    ·exact .inr (c3 b hb)
    ·exact .inl (hB.symm.subset (List.mem_append.2 (.inr hb)))
  rcases h with h | ⟨c,hc,hcb⟩
  ·exact ⟨.inr ⟨_,List.mem_cons_self ..,h⟩,(hm.range _ (List.mem_cons_self ..) b h).1⟩
  ·exact ⟨.inr ⟨c,List.mem_cons_of_mem _ hc,hcb⟩,(hm.range c (List.mem_cons_of_mem _ (List.mem_append.2 (.inl hc))) b hcb).1⟩
 ·simp only [List.mem_cons,List.not_mem_nil,or_false] at hc
  subst hc
  refine ⟨?_,css,Bs.set I C,⟨by simp [hr.lc],by simp [hr.lb],fun i x cs D h1 h2 h3=>?_⟩,by simpa using how,List.Perm.refl _⟩
  ·refine (List.Perm.append_left _ hpin).symm.nodup_iff.1 ?_
   exact zh6 (A:=zaM v) (B:=[]) (C:=Bs.flatten) (by simpa using hBn) C c1 (fun b hb h=>hdis b (hB.symm.subset h) (c3 b hb))
  ·by_cases e':i=I
   ·subst e'
    rw [hr.here] at h2
    rw [List.getElem?_set] at h1 h3
    simp only [if_true] at h1 h3
    split at h1
    ·rw [if_pos hlb] at h3
     cases h1;cases h2;cases h3
     exact c2
    ·cases h1
   ·rw [List.getElem?_set_ne (fun e=>e' e.symm)] at h1 h3
    exact hr.own i x cs D e' h1 h2 h3
theorem zkU {V:Type} {E':DEl V} {v u:Value} {xs:List V} {B:List Nat} {I:Int} {cz:List Value} {y':V} {o fs:Nat} {row:Bool} (hes:E'.el.size=sz) (hlen:Nat.blt I.toNat xs.length=true∨I.toNat<xs.length)
  (hc:zfM M E' y' (YJ cz o u.cells.toList))
  (hT:tyB P T=some (row,fs)) (hx:oev E x=some (pEl v I sz o)) (hy:oev E y=some u) (hsz:Nat.beq u.cells.size fs=true) (h1:u.cells.toList.all (·.oneCell')=true) (hle:Nat.ble (o+fs) sz=true)
  (k:∀ B',Nx n G D w0 R E (jq E' e B' v (xs.set I.toNat y') :: L) H):Nx n G D w0 (fun a w=>Oper.wp P ⟨none,.store T x y,ty,pos,aft,gd⟩ a w R Q) E (UG E' e B v xs I.toNat cz :: (M++L)) H :=
 zfU rfl fun ρ w hE hm hH=>by
  obtain ⟨bn,css,Bs,hr,how,hB⟩:=hm.hold _ (List.mem_cons_self ..)
  have hlb:=(List.getElem?_eq_some_iff.1 hr.none).1
  have hlt:I.toNat<xs.length:=by rw [← hr.lb];exact hlb
  obtain ⟨C,c1,c2,c3⟩:=hc _ w (fun c hc=>hm.hold c (List.mem_cons_of_mem _ (List.mem_append.2 (.inl hc))))
  obtain ⟨g,cap,hv⟩:∃ g cap,v=.slice (some ⟨g,0,none⟩) xs.length cap:=by
   rcases how.2 with ⟨_,hn⟩ | ⟨g,cap,cur,hv,_⟩
   ·omega
   ·exact ⟨g,cap,hv⟩
  subst hv
  rw [yi] at hx
  have hzs:=Nat.eq_of_beq_eq_true hsz
  have hle':=Nat.le_of_ble_eq_true hle
  have hgB:g∈B:=hB.symm.subset (List.mem_append.2 (.inl (Zo.2 rfl)))
  have hrun:(Instr.storeAt T (.pointer (some ⟨g,0+I.toNat * sz+o,none⟩)) u).run P w=.ok () (w.setCells g (0+I.toNat * sz+o) u.cells.toList):=by
   rcases how.2 with ⟨h,_⟩ | ⟨g',cap',cur,h,_,hg,hnc,_,hcs,_⟩
   ·cases h
   cases h
   have hb:w.heap[g]?=some (.cells cur.toList.toArray e (0,0)):=by simpa using hg
   have hsub:I.toNat * sz+sz<=xs.length * sz:=by rw [← Nat.succ_mul];exact Nat.mul_le_mul_right _ hlt
   have hcap:xs.length * sz<=cap * sz:=Nat.mul_le_mul_right _ hnc
   have hcl:cur.toList.length=cap * sz:=by rw [Array.length_toList,hcs,hes]
   exact zdv (P:=P) (w:=w) hT hsz h1 (b:=g) (o:=0+I.toNat * sz+o) (Yk hb (by rw [hzs,hcl];omega))
  rw [Nat.zero_add] at hrun
  have how':=zdP (o:=o) (us:=u.cells.toList) hr.size hr.lc how hr.here (by simp;omega)
  have hBn:=hB.nodup_iff.1 bn
  have hdis:∀ b,b∈B->¬ uv M b:=fun b hb ⟨c,hc,hcb⟩=>(List.pairwise_cons.1 hm.disj).1 c (List.mem_append.2 (.inl hc)) b hb hcb
  have hset:Bs.set I.toNat []=Bs:=zib hr.none
  have hpin:=zeL hlb C
  rw [hset] at hpin
  have hsame:∀ b,b≠g->(w.setCells g (I.toNat * sz+o) u.cells.toList).heap[b]?=w.heap[b]?:=fun b hb=>uF g _ _ _ _ hb
  have hgn:∀ b,b∈Bs.flatten->b≠g:=fun b hb e'=>by
   rw [List.nodup_append] at hBn
   exact hBn.2.2 g (Zo.2 rfl) b hb e'.symm
  refine ⟨_,jq E' e (zaM (.slice (some ⟨g,0,none⟩) xs.length cap)++(Bs.set I.toNat C).flatten) (.slice (some ⟨g,0,none⟩) xs.length cap) (xs.set I.toNat y') :: L,H,by simp [execOp,hE _ _ hx,hE _ _ hy] at hrun ⊢;rw [hrun];rfl,?_,hH,k _⟩
  refine hm.repl (M0:=UG E' e B (.slice (some ⟨g,0,none⟩) xs.length cap) xs I.toNat cz :: M) (N:=[jq E' e _ (.slice (some ⟨g,0,none⟩) xs.length cap) (xs.set I.toNat y')]) (zku ⟨_,List.mem_cons_self ..,hgB⟩) (fun c hc b hb=>?_) (List.pairwise_singleton _ _) (fun c hc F=>?_)
  ·simp only [List.mem_cons,List.not_mem_nil,or_false] at hc
   subst hc
   rw [xK]
   have h:b∈B∨uv M b:=by
    rcases List.mem_append.1 hb with hb | hb
    ·exact .inl (hB.symm.subset (List.mem_append.2 (.inl hb)))
    ·rcases List.mem_append.1 (hpin.subset hb) with hb | hb
     ·exact .inr (c3 b hb)
     ·exact .inl (hB.symm.subset (List.mem_append.2 (.inr hb)))
   rcases h with h | ⟨c,hc,hcb⟩
   ·exact ⟨.inr ⟨_,List.mem_cons_self ..,h⟩,(hm.range _ (List.mem_cons_self ..) b h).1⟩
   ·exact ⟨.inr ⟨c,List.mem_cons_of_mem _ hc,hcb⟩,(hm.range c (List.mem_cons_of_mem _ (List.mem_append.2 (.inl hc))) b hcb).1⟩
  ·simp only [List.mem_cons,List.not_mem_nil,or_false] at hc
   subst hc
   refine ⟨?_,css.set I.toNat (YJ cz o u.cells.toList),Bs.set I.toNat C,⟨by simp [hr.lc],by simp [hr.lb],fun i x cs D h1 h2 h3=>?_⟩,by rw [List.length_set,hes];rw [hes] at how';exact how',List.Perm.refl _⟩
   ·refine (List.Perm.append_left _ hpin).symm.nodup_iff.1 ?_
    exact zh6 (A:=zaM (.slice (some ⟨g,0,none⟩) xs.length cap)) (B:=[]) (C:=Bs.flatten) (by simpa using hBn) C c1 (fun b hb h=>hdis b (hB.symm.subset h) (c3 b hb))
   ·by_cases e':i=I.toNat
    ·subst e'
     rw [List.getElem?_set] at h1 h2 h3
     simp only [if_true] at h1 h2 h3
     split at h1
     ·rw [if_pos hlb] at h3
      rw [hr.lc,if_pos hlt] at h2
      cases h1;cases h2;cases h3
      exact E'.keep _ _ _ _ _ (fun b hb=>hsame b (fun e'=>hdis g hgB (by rw [← e'];exact c3 b hb))) c2
     ·rename_i hno;exact absurd hlt hno
    ·rw [List.getElem?_set_ne (fun e=>e' e.symm)] at h1 h2 h3
     exact E'.keep _ _ _ _ _ (fun b hb=>hsame b (hgn b (List.mem_flatten.2 ⟨D,List.mem_of_getElem? h3,hb⟩))) (hr.own i x cs D e' h1 h2 h3)
end
end
section
open Go.RowKit
section
variable {P:Program} {n:Nat} {G D:Nat->Prop} {w0:World} {Q:Exit->Act->World->Prop} {R:Act->World->Prop} {E:Env} {L M:List Ch} {H:Prop}
variable {d:Tmp} {ty:TypeId} {pos:String} {aft:Array Edge} {gd:Option (Nat×Bool)} {Tk:Act->World->Prop} {Lr:List Ch} {x y:Operand} {T T' S:TypeId} {e sz by':Nat}
theorem yO {F:Nat->Prop} {f:Nat} {fn:Func} {c:Code} {args:List Value} {K:Ending->World->Prop} (M0:List Ch) (hF:∀ b,F b->b<w0.heap.size∧¬ uv M0 b) (hg:xz M0 F w0) (hf:P.funcs[f]?=some fn) (hb:fn.body=some c) (hn:fn.ntmps=n) (hle:Nat.ble args.length n=true)
  (hH:H) (h:Nx n (gB F M0 w0) (uv M0) w0 (c.wp P (bodyPost P fn K)) (zc3 0 args) (M0++[zl w0 F]) H):Calls P f args.toArray w0 K :=
 zow M0 hF hf hb hn hle [zl w0 F] (fun c hc b h=>by simp only [List.mem_cons,List.not_mem_nil,or_false] at hc;subst hc;exact h) (fun c hc=>by simp only [List.mem_cons,List.not_mem_nil,or_false] at hc;subst hc;exact ⟨fun _ h=>h,fun _ _=>rfl⟩) hg.lt hg.disj hg.hold hH h
theorem yo {F:Nat->Prop} {f:Nat} {fn:Func} {c:Code} {args:List Value} {K:Ending->World->Prop} (M0:List Ch) (hF:∀ b,F b->b<w0.heap.size∧¬ uv M0 b) (hg:xz M0 F w0) (hf:P.funcs[f]?=some fn) (hb:fn.body=some c) (hn:fn.ntmps=n) (hle:Nat.ble args.length n=true)
  (hH:H) (h:Nx n (gB F M0 w0) (uv M0) w0 (c.wp P (bodyPost P fn K)) (zc3 0 args) (M0++[]) H):Calls P f args.toArray w0 K :=
 zow M0 hF hf hb hn hle [] (fun c hc b h=>by simp at hc) (fun c hc=>by simp at hc) hg.lt hg.disj hg.hold hH h
theorem zeT {V:Type} {E':El V} {v:Value} {xs:List V} {c:Ch} {I:Int} {z:V} {o fs:Nat} {row:Bool} {u:Value} (M:x8 P n G D w0 E ⟨some d,.load T x,ty,pos,aft,gd⟩ Tk R Lr L) (i:Nat) (hi:xH Lr i=some c) (hc:UP c E' v xs) (hz:xs[I.toNat]?=some z) (hx:oev E x=some (pEl v I sz o)) (hes:E'.size=sz) (hd:Nat.blt d n=true) (hT:tyB P T=some (row,fs))
  (hu:∀ F w cs,E'.cells F w z cs->ldv row o fs cs=some u) (k:Nx n G D w0 R ((d,u) :: E) L H):Nx n G D w0 Tk E L H :=
 M.val hd rfl (fun ρ w hE hm _=>by
  obtain ⟨b,off,cap,cs,rfl,hcs,hr⟩:=(hc _ _ (hm.get hi)).at hz
  have:=zac (P:=P) hT hr (hu _ _ _ hcs)
  rw [yi,← hes] at hx
  simp [execOp,hE _ _ hx,this]) id k
theorem X9 {V:Type} (El':El V) (e:TypeId) (h:Nx n G D w0 R E (zf El' e (.slice none 0 0) [] :: L) H):Nx n G D w0 R E L H:=fun a w hE hm hH=>h a w hE (zfo El' e hm) hH
theorem zaL {V:Type} (E':DEl V) (e:TypeId) (h:Nx n G D w0 R E (jq E' e [] (.slice none 0 0) [] :: L) H):Nx n G D w0 R E L H:=fun a w hE hm hH=>h a w hE (zan E' e hm) hH
theorem zA {V:Type} {E':El V} {F:Nat->Prop} {w:World} {v:Value} {xs:List V} (h:Sl E' F w v xs):∃ a l c,v=.slice a l c:=by
 obtain ⟨a,c,hv,_⟩:=h;exact ⟨a,_,c,hv⟩
theorem zqW {V:Type} {xs:List V} {i:Nat} {z y:V} (h:xs[i]?=some z):(xs.set i y)[i]?=some y:=by
 have:=(List.getElem?_eq_some_iff.1 h).1;simp [this]
theorem Vn {V:Type} {xs:List V} {i:Nat} {z:V} (h:xs[i]?=some z):i<xs.length:=(List.getElem?_eq_some_iff.1 h).1
theorem zpc {V:Type} {El':El V} {F:Nat->Prop} {w:World} {T:TypeId} {b len:Nat} {xs:List V} {css:List (List Value)} {cs:List Value} (hr:Rows El' F w xs css) (hb:w.heap[b]?=some (.cells cs.toArray T (0,0))) (hl:xs.length=len) (hcs:css.flatten=cs) (hlen:len<=65536):Own El' T F w (.slice (some ⟨b,0,none⟩) len len) xs:=by
 subst hl;have h0:=hr.length;rw [hcs] at h0;exact zdn hr hb (Nat.le_refl _) (by unfold maxLen;omega) (by simpa using h0) (by rw [hcs,← h0];simp)
theorem zgX {V:Type} {El':El V} {v:Value} {cs:List Value} {len:Nat} (xs:List V) (css:List (List Value)) (hr:∀ w,Mem G D w0 L w->Rows El' (fz G L w) w xs css) (hx:oev E x=some v) (hd:Nat.blt d n=true) (hcs:v.cells=cs.toArray) (hfl:css.flatten=cs) (hl:xs.length=len) (hlen:Nat.ble len 65536=true)
  (k:∀ b,Nx n G D w0 R ((d,.pointer (some ⟨b,0,none⟩)) :: E) (zf El' T (.slice (some ⟨b,0,none⟩) len len) xs :: L) H) :
  Nx n G D w0 (fun a w=>Oper.wp P ⟨some d,.box T x,ty,pos,aft,gd⟩ a w R Q) E L H :=
 YU hd rfl fun ρ w hE hm hH=>by
  refine ⟨_,w.alloc (.cells cs.toArray T),_,H,by simp [execOp,hE _ _ hx,Instr.box,newVar,newRow,hcs],?_,hH,k w.heap.size⟩
  refine hm.add _ ((Below.refl _ _).alloc (Nat.le_refl _) _) (fun b hb=>by simp [zf,Value.ownBlock] at hb;rw [World.size_alloc];omega) ?_
  refine zpc ((hr w hm).keep (fun b hb=>⟨by have:=hb.1;rw [World.size_alloc];omega,hb.2.1,fun c hc=>?_⟩) (fun b hb=>heap_alloc_old w _ hb.1)) (heap_alloc_new w _) hl hfl (Nat.le_of_ble_eq_true hlen)
  rcases List.mem_cons.1 hc with e' | e'
  ·subst e'
   intro h
   simp [zf,Value.ownBlock] at h
   have:=hb.1
   omega
  ·exact hb.2.2 c e'
theorem ziO {V:Type} {El':El V} {enc:V->List Value} (hfl:VH El' enc) {F:Nat->Prop} {w:World}:∀ {xs:List V} {css:List (List Value)},Rows El' F w xs css->css.flatten=(xs.map enc).flatten
 | [],[],_=>rfl
 | x :: xs,cs :: css,h=>by simp [(hfl _ _ _ _).1 h.1,ziO hfl h.2]
 | [],_ :: _,h=>h.elim
 | _ :: _,[],h=>h.elim
theorem zmC {V:Type} {El':El V} {F F':Nat->Prop} {w:World} {b len cap:Nat} {xs:List V} (h:Sl2 El' F F' w (.slice (some ⟨b,0,none⟩) len cap) xs):∃ css,Rows El' F w xs css∧w.rangeAt b 0 css.flatten:=by
 obtain ⟨a,c,hv,hc,hr⟩:=h;simp only [Value.slice.injEq] at hv;obtain ⟨rfl,rfl,rfl⟩:=hv;by_cases h0:0<xs.length
 ·obtain ⟨b',off,ha,_,hx⟩:=hr h0;simp only [Option.some.injEq,Addr.mk.injEq] at ha;obtain ⟨rfl,rfl,_⟩:=ha;have key:∀ (ys:List V) (p:Nat),(∀ i x,ys[i]?=some x->∃ cs,El'.cells F w x cs∧w.rangeAt b (0+(p+i) * El'.size) cs)->∃ dss,Rows El' F w ys dss∧w.rangeAt b (p * El'.size) dss.flatten:=by
   intro ys;induction ys with
   | nil=>intro p _;exact ⟨[],trivial,fun j q hq=>by simp at hq⟩
   | cons y0 r ih =>
    intro p hp;obtain ⟨cs,g1,g2⟩:=hp 0 y0 (by simp);obtain ⟨dss,g3,g4⟩:=ih (p+1) (fun i x hix=>by
     have:=hp (i+1) x (by simpa using hix);rwa [show p+(i+1)=p+1+i by omega] at this)
    refine ⟨cs :: dss,⟨g1,g3⟩,fun j q hq=>?_⟩;have hl:=El'.len _ _ _ _ g1;rw [List.flatten_cons,List.getElem?_append] at hq;split at hq
    ·simpa using g2 j q hq
    have:=g4 (j - cs.length) q hq;rw [hl,Nat.add_mul] at this;rw [show p * El'.size+j=p * El'.size+1 * El'.size+(j - El'.size) by omega];exact this
  obtain ⟨dss,g1,g2⟩:=key xs 0 (fun i x hix=>by simpa using hx i x hix);exact ⟨dss,g1,by simpa using g2⟩
 have:xs=[]:=List.eq_nil_of_length_eq_zero (by omega);subst this;exact ⟨[],trivial,fun j q hq=>by simp at hq⟩
theorem zls {V:Type} {El':El V} {b len cap fs:Nat} {xs:List V} {c:Ch} (i:Nat) (hi:xH L i=some c) (hc:Src c El' (.slice (some ⟨b,0,none⟩) len cap) xs) (hx:oev E x=some (.pointer (some ⟨b,0,none⟩))) (hd:Nat.blt d n=true) (hlen:xs.length=len)
  (hT:tyB P T=some (true,fs)) (hfs:len * El'.size=fs) (k:∀ wr F0 css,Rows El' F0 wr xs css->∃ u:List Value,css.flatten=u∧Nx n G D w0 R ((d,.agg u.toArray) :: E) (zl wr F0 :: L) H):Nx n G D w0 (fun a w=>Oper.wp P ⟨some d,.load T x,ty,pos,aft,gd⟩ a w R Q) E L H :=
 YU hd rfl fun ρ w hE hm hH=>by
  obtain ⟨css,h1,h2⟩:=zmC (hc _ _ (hm.get hi))
  obtain ⟨u,hu,hk⟩:=k w (fz G L w) css h1
  have hl:=h1.length
  rw [hu] at h2 hl
  have hv:ldv true 0 fs u=some (.agg u.toArray):=by
   have:u.length=fs:=by rw [hl,hlen,hfs]
   simp [ldv,← this]
  have:=zac (P:=P) hT h2 hv
  rw [Nat.add_zero] at this
  exact ⟨_,w,zl w (fz G L w) :: L,H,by simp [execOp,hE _ _ hx,this],hm.note (fun b hb=>hb) ⟨fun b hb=>hb,fun _ _=>rfl⟩,hH,hk⟩
theorem xf {V:Type} {El':El V} {F:Nat->Prop} {w:World} {a b c d:V} {css:List (List Value)} (h:Rows El' F w [a,b,c,d] css):∃ c0 c1 c2 c3,css=[c0,c1,c2,c3]∧El'.cells F w a c0∧El'.cells F w b c1∧El'.cells F w c c2∧El'.cells F w d c3:=by
 match css,h with
 | [c0,c1,c2,c3],h=>exact ⟨c0,c1,c2,c3,rfl,h.1,h.2.1,h.2.2.1,h.2.2.2.1⟩
 | [],h=>exact h.elim
 | [_],h=>exact h.2.elim
 | [_,_],h=>exact h.2.2.elim
 | [_,_,_],h=>exact h.2.2.2.elim
 | _ :: _ :: _ :: _ :: _ :: _,h=>exact h.2.2.2.2.elim
def zjA {V:Type} (xs:List V) (O:V->V->V->V->Prop):Prop:=∃ a b c d,xs=[a,b,c,d]∧O a b c d
def zrY {V:Type} (xs:List V) (O:V->V->V->V->V->Prop):Prop:=∃ a b c d e,xs=[a,b,c,d,e]∧O a b c d e
theorem zbt {V:Type} {El':El V} {v:Value} {xs:List V} {O:V->V->V->V->Prop} {e':TypeId} (i:Nat) (hi:xH L i=some (zf El' e' v xs)) (h:∀ a b c d,Nx n G D w0 R E (ZQ L i (zf El' e' v [a,b,c,d])) (O a b c d)):Nx n G D w0 R E L (zjA xs O):=fun a w hE hm ⟨a0,b0,c0,d0,hx,hH⟩=>by
 subst hx
 have hid:∀ {L:List Ch} {i:Nat} {c:Ch},xH L i=some c->ZQ L i c=L:=by
  intro L
  induction L with
  | nil=>intro i c h;rfl
  | cons d r ih=>intro i c h;cases i with
   | zero=>simp [xH] at h;subst h;rfl
   | succ i=>simp [xH] at h;simp [ZQ,ih h]
 have:=h a0 b0 c0 d0
 rw [hid hi] at this
 exact this a w hE hm hH
theorem zpw {V:Type} {El':El V} {v:Value} {xs:List V} {O:V->V->V->V->V->Prop} {e':TypeId} (i:Nat) (hi:xH L i=some (zf El' e' v xs)) (h:∀ a b c d e,Nx n G D w0 R E (ZQ L i (zf El' e' v [a,b,c,d,e])) (O a b c d e)):Nx n G D w0 R E L (zrY xs O):=fun a w hE hm ⟨a0,b0,c0,d0,e0,hx,hH⟩=>by
 subst hx
 have hid:∀ {L:List Ch} {i:Nat} {c:Ch},xH L i=some c->ZQ L i c=L:=by
  intro L
  induction L with
  | nil=>intro i c h;rfl
  | cons d r ih=>intro i c h;cases i with
   | zero=>simp [xH] at h;subst h;rfl
   | succ i=>simp [xH] at h;simp [ZQ,ih h]
 have:=h a0 b0 c0 d0 e0
 rw [hid hi] at this
 exact this a w hE hm hH
end
end
section
open Go.RowKit
def zsc {V:Type} (t:Bool) (xs:List V) (O:Bool->Prop):Prop:=(xs≠[]->O (!t))∧(xs=[]->O true∧O false)
def zi0 {V:Type} (E:El V) (F:Nat->Prop) (w:World):List Value->List (List V)->Prop
 | [],[]=>True
 | v :: vs,x :: xs=>Sl E F w v x∧zi0 E F w vs xs
 | _,_=>False
def zkh (vs:List Value) (I:Int):Value:=(vs[I.toNat]?).getD undef
theorem zi0.get {V:Type} {E:El V} {F:Nat->Prop} {w:World}:∀ {vs:List Value} {xs:List (List V)},zi0 E F w vs xs->∀ {i:Nat} {z:List V},xs[i]?=some z->∃ v,vs[i]?=some v∧Sl E F w v z
 | [],[],_,i,z,h=>by simp at h
 | v :: vs,x :: xs,h,0,z,hz=>by simp at hz;subst hz;exact ⟨v,rfl,h.1⟩
 | v :: vs,x :: xs,h,i+1,z,hz=>by simpa using zi0.get h.2 (by simpa using hz)
 | [],_ :: _,h,_,_,_=>h.elim
 | _ :: _,[],h,_,_,_=>h.elim
section
variable {P:Program} {n:Nat} {G D:Nat->Prop} {w0:World} {Q:Exit->Act->World->Prop} {R:Act->World->Prop} {E:Env} {L M:List Ch} {H:Prop}
variable {d:Tmp} {ty:TypeId} {pos:String} {aft:Array Edge} {gd:Option (Nat×Bool)} {Tk:Act->World->Prop} {Lr:List Ch} {x y:Operand} {T T' S:TypeId} {e sz by':Nat} {dst:Option Tmp} {at':Array TypeId}
theorem zrW {f:Nat} {ps:Array Operand} {cv:List Value} (M:x8 P n G D w0 E ⟨some d,.makeFunc (.func f) #[] ps,ty,pos,aft,gd⟩ Tk R Lr L) (hc:∀ ρ:Operand->Value,(∀ x v,oev E x=some v->ρ x=v)->ps.map ρ=cv.toArray) (hd:Nat.blt d n=true)
  (k:Nx n G D w0 R ((d,.func (.func f) #[] cv.toArray) :: E) L H):Nx n G D w0 Tk E L H :=
 M.val hd rfl (fun ρ w hE _ _=>by simp [execOp,hc ρ hE,Instr.makeFunc]) id k
def zol (P:Program) (E:Env) (o:Oper) (f:Nat) (vs:List Value):Prop:=∀ (ρ:Operand->Value) w,(∀ x v,oev E x=some v->ρ x=v)->(execOp ρ o).run P w=.ok (.enter f vs.toArray) w
theorem zhf {f:Nat} {l:List Operand} {vs:List Value} {cv:Array Value} (hx:oev E x=some (.func (.func f) #[] cv)) (hargs:zgS E l=some vs) (hf:∀ args w,(callFunc f args).run P w=.ok (.enter f args) w) :
  zol P E ⟨dst,.call {callee:=.value x,args:=l.toArray,argTypes:=at'},ty,pos,aft,gd⟩ f (vs++cv.toList):=fun ρ w hE=>by
 have h:=zc8 hE hargs
 simp [execOp,resolve,Deferred.ofValue,hE _ _ hx,invoke,hf,← h]
theorem ZL {f:Nat} {l:List Operand} {vs:List Value} {v:Value} {name:String} {T0:TypeId} (hx:oev E x=some (.iface T0 v)) (hargs:zgS E l=some vs) (hm:∀ w,(method (P.types.size+Made.depth) T0 v name).run P w=.ok (f,v) w) (hf:∀ args w,(callFunc f args).run P w=.ok (.enter f args) w) :
  zol P E ⟨dst,.call {callee:=.invoke x name,args:=l.toArray,argTypes:=at'},ty,pos,aft,gd⟩ f (v :: vs):=fun ρ w hE=>by
 have h:=zc8 hE hargs
 have hp:(program).run P w=.ok P w:=rfl
 have ht:List.take l.length (List.map ρ l)=List.map ρ l:=List.take_of_length_le (by simp)
 simp [execOp,resolve,hE _ _ hx,invoke,callMethod,Sem.run_bind,hp,hm,hf,← h,ht]
theorem zl8 {o:Oper} {ρ ν:Type} {f:Nat} {vs:List Value} {O:ρ->Prop} {val:ρ->ν->Value} {N:ρ->ν->List Ch} {M0 L':List Ch} (ho:o.dst=some d) (hr:zol P E o f vs) (hd:Nat.blt d n=true)
  (hc:∀ w,Mem G D w0 (M0++L') w->H->Calls P f vs.toArray w (Ret M0 (fz G (M0++L') w) w O val N)) (k:∀ r s,Nx n G D w0 R ((d,val r s) :: E) (N r s++L') (O r)) :
  Nx n G D w0 (fun a w=>Oper.wp P o a w R Q) E (M0++L') H:=fun a w hE hm hH=>by
 show Oper.upon P _ a R Q _
 rw [hr a.eval w (fun x v h=>hE.eval h),Oper.upon_enter]
 refine (hc w hm hH).mono ?_
 rintro e w' ⟨r,s,h1,rfl,h2,h3⟩
 rw [ho]
 exact k r s _ _ (hE.put hd _) (hm.call h2 h3) h1
theorem znu {w:World} {e':TypeId} (hT:P.underlying T=some (.slice e')) (a:Option Addr) (l c:Nat):(Op.equal T (.slice a l c) (.slice none 0 0)).run P w=.ok a.isNone w:=by
 show (Op.equalIn (9999+1) T (.slice a l c) (.slice none 0 0)).run P w=_;unfold Op.equalIn;rw [Sem.run_bind,run_underlying hT,Result.andThen_ok];cases a <;> simp
theorem Ue {V:Type} {El':El V} {xs:List V} {b len:Nat} (i:Nat) (hi:xH L i=some (zf El' T (.slice (some ⟨b,0,none⟩) len len) xs)) (h1:xs.length=len) (hes:len * El'.size=sz) (hpos:0<len) (h:∀ wr F0 css,Rows El' F0 wr xs css->Nx n G D w0 R E (zl wr F0 :: ZQ L i (zc b css.flatten T)) H):Nx n G D w0 R E L H:=fun a w hE hm hH=>by
 obtain ⟨css,hr,h0,how⟩:=hm.get hi
 rcases how with ⟨h,_⟩ | ⟨g,cap,cur,h,hg0,hg,hnc,hcm,hcz,htake⟩
 ·cases h
 simp only [Value.slice.injEq,Option.some.injEq,Addr.mk.injEq] at h
 obtain ⟨⟨rfl,-,-⟩,-,rfl⟩:=h
 have hcur:cur.toList=css.flatten:=by
  rw [← htake,h1,List.take_of_length_le (by rw [Array.length_toList,hcz];exact Nat.le_refl _)]
 have hmem:=x7 hi
 have hup:Mem G D w0 (ZQ L i (zc b css.flatten T)) w:=by
  refine hm.upd hi rfl rfl rfl (Nat.le_refl _) (fun _ _ _=>rfl) (fun c hc=>?_) ?_
  ·have hc':c=b:=hc
   subst hc'
   exact ⟨(Array.getElem?_eq_some_iff.1 hg).1,.inl rfl⟩
  ·show w.heap[b]?=some (.cells css.flatten.toArray T (0,0))
   rw [hg,← hcur]
 refine h w (fz G L w) css hr a w hE (hup.note (fun b hb=>hb) ⟨fun c hc=>⟨hc.1,hc.2.1,fun d hd=>?_⟩,fun _ _=>rfl⟩) hH
 rcases X4 hi hm.disj hd with e' | ⟨e1,_⟩
 ·subst e';exact fun hk=>hc.2.2 _ hmem (by rw [show c=b from hk];rfl)
 ·exact hc.2.2 d e1
theorem zpB {V:Type} {El':El V} {enc:V->List Value} (hfl:VH El' enc) {F:Nat->Prop} {w:World} {a b c d:V} {css:List (List Value)} (h:Rows El' F w [a,b,c,d] css):css=[enc a,enc b,enc c,enc d]:=by
 obtain ⟨_,_,_,_,rfl,h0,h1,h2,h3⟩:=xf h;rw [(hfl _ _ _ _).1 h0,(hfl _ _ _ _).1 h1,(hfl _ _ _ _).1 h2,(hfl _ _ _ _).1 h3]
end
end
section
open Go.RowKit
theorem Rows.take {V:Type} {E:El V} {F:Nat->Prop} {w:World}:∀ {xs:List V} {css:List (List Value)} (J:Nat),Rows E F w xs css->Rows E F w (xs.take J) (css.take J)∧(css.take J).flatten=css.flatten.take (J * E.size)
 | [],[],J,h=>by simp [Rows]
 | x :: xs,cs :: css,0,h=>by simp [Rows]
 | x :: xs,cs :: css,J+1,h=>by
  obtain ⟨h1,h2⟩:=Rows.take (xs:=xs) (css:=css) J h.2
  have hl:=E.len F w x cs h.1
  refine ⟨⟨h.1,h1⟩,?_⟩
  simp only [List.take_succ_cons,List.flatten_cons,h2]
  have e:(J+1) * E.size=cs.length+J * E.size:=by rw [hl,Nat.add_mul];omega
  rw [e,List.take_length_add_append]
 | [],_ :: _,_,h=>by simp [Rows] at h
 | _ :: _,[],_,h=>by simp [Rows] at h
theorem Own.cut {V:Type} {E:El V} {ty:TypeId} {F:Nat->Prop} {w:World} {a:Option Addr} {n cap:Nat} {xs:List V} (h:Own E ty F w (.slice a n cap) xs) (J:Nat) (hJ:J<=xs.length):Own E ty F w (.slice a J cap) (xs.take J):=by
 obtain ⟨css,h1,h2,h3⟩:=h;obtain ⟨r1,r2⟩:=Rows.take J h1;have hl:(xs.take J).length=J:=by rw [List.length_take];omega
 refine ⟨css.take J,r1,?_,?_⟩
 ·rw [r2,List.length_take,h2,hl];exact Nat.min_eq_left (Nat.mul_le_mul_right _ hJ)
 rcases h3 with ⟨e,h4⟩ | ⟨g,cap',cur,e,k1,k2,k3,k4,k5,k6⟩
 ·simp at e;obtain ⟨rfl,_,rfl⟩:=e;left;rw [hl];exact ⟨by rw [show J=0 by omega],by omega⟩
 simp at e;obtain ⟨rfl,rfl,rfl⟩:=e;right;refine ⟨g,cap,cur,by rw [hl],k1,k2,by omega,k4,k5,?_⟩;rw [hl,r2,← k6,List.take_take,Nat.min_eq_left (Nat.mul_le_mul_right _ hJ)]
section
variable {P:Program} {n:Nat} {G D:Nat->Prop} {w0:World} {Q:Exit->Act->World->Prop} {R:Act->World->Prop} {E:Env} {L M:List Ch} {H:Prop}
variable {d:Tmp} {ty:TypeId} {pos:String} {aft:Array Edge} {gd:Option (Nat×Bool)} {Tk:Act->World->Prop} {Lr:List Ch} {x y:Operand} {T T' S:TypeId} {e sz by':Nat}
def slv (a:Option Addr) (cap lo hi sz:Nat):Value:=.slice (if cap=lo then a else a.map (·.add (lo * sz))) (hi - lo) (cap - lo)
theorem VP {M0:List Ch} {ρ ν:Type} {F:Nat->Prop} {fn:Func} {O:ρ->Prop} {val:ρ->ν->Value} {N:ρ->ν->List Ch} (hres:fn.results=#[]) (r:ρ) (u:ν) (hv:val r u=.tuple #[])
  (hN:∀ w,Mem G (uv M0) w0 L w->yr M0 F w0 w (N r u)):Nx n G (uv M0) w0 (bodyPost P fn (Ret M0 F w0 O val N) .ret) E L (O r):=fun a w hE hm hH =>
 ⟨hE.defers,val r u,by rw [results_none hres,hv],r,u,hH,rfl,hm.updD,hN w hm⟩
end
end
section
open Go.RowKit
section
variable {P:Program} {n:Nat} {G D:Nat->Prop} {w0:World} {Q:Exit->Act->World->Prop} {R:Act->World->Prop} {E:Env} {L M:List Ch} {H:Prop}
variable {d:Tmp} {ty:TypeId} {pos:String} {aft:Array Edge} {gd:Option (Nat×Bool)} {Tk:Act->World->Prop} {Lr:List Ch} {x y:Operand} {T T' S:TypeId}
theorem zn3 {V:Type} {E':DEl V} {ty':TypeId} {B:List Nat} {I0:Nat} {cz:List Value} {v:Value} {xs:List V} {F:Nat->Prop} {w:World} (h:(UG E' ty' B v xs I0 cz).holds F w) {i:Nat} (hlt:i<xs.length):∃ g cap,v=.slice (some ⟨g,0,none⟩) xs.length cap:=by
 obtain ⟨bn,css,Bs,hr,how,hB⟩:=h;rcases how.2 with ⟨_,hn⟩ | ⟨g,cap,cur,hv,_⟩
 ·omega
 exact ⟨g,cap,hv⟩
theorem zod (M:x8 P n G D w0 E ⟨some d,.call {callee:=.builtin .len,args:=#[x],argTypes:=#[T]},ty,pos,aft,gd⟩ Tk R Lr L) {p:TypeId×Nat×Nat} (hT:elB P T=some p) (hx:oev E x=some (.slice none 0 0)) (hd:Nat.blt d n=true)
  (k:Nx n G D w0 R ((d,.int .i64 0) :: E) L H):Nx n G D w0 Tk E L H :=
 M.val hd rfl (fun ρ w hE hm _=>by
  obtain ⟨e,hu⟩:∃ e,P.underlying T=some (.slice e):=by
   unfold elB at hT
   split at hT
   ·exact ⟨_,‹_›⟩
   ·simp at hT
  simp [execOp,resolve,invoke,builtin,hE _ _ hx,go_sem,Builtin.len_,run_underlying hu]) id k
end
end
end Go.Proofs.YtgpdnnhmndlljaaGreatDoor
