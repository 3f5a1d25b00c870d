import Derived.Test.YtgpdnnhmndlljaaGreatDoorMP1
set_option linter.unusedSimpArgs false
set_option linter.unusedVariables false
set_option linter.unusedSectionVars false
namespace Go.Proofs.YtgpdnnhmndlljaaGreatDoor
section
open Go Go.Proofs
def Vf (l:List za):Prop:=∀ c∈l,F4 c
instance (l:List za):Decidable (Vf l):=by unfold Vf;infer_instance
def aB (l:List za):Prop:=∀ c∈l,B4 c
theorem zb7:Vf []:=fun c h=>by simp at h
theorem zfz:aB []:=fun c h=>by simp at h
theorem yq {l m:List za}:Vf (l++m)↔Vf l∧Vf m:=by
 unfold Vf
 simp only [List.mem_append]
 exact ⟨fun h=>⟨fun c hc=>h c (.inl hc),fun c hc=>h c (.inr hc)⟩,fun h c hc=>hc.elim (h.1 c) (h.2 c)⟩
theorem UX {l m:List za}:aB (l++m)↔aB l∧aB m:=by
 unfold aB
 simp only [List.mem_append]
 exact ⟨fun h=>⟨fun c hc=>h c (.inl hc),fun c hc=>h c (.inr hc)⟩,fun h c hc=>hc.elim (h.1 c) (h.2 c)⟩
def xN (left:List za) (b:za):List za:=left.flatMap (fun c=>XT c b)
def okR (l:List za):Prop:=Vf l∧l.length≤400
instance (l:List za):Decidable (okR l):=by unfold okR;infer_instance
def lgo:List za→List za→Option (List za)
 | left,[]=>some left
 | left,b :: bs=>if okR (xN left b) then lgo (xN left b) bs else none
def Xe (a:za) (bs:List za):Option (List za):=if em4 a then some [] else lgo [a] bs
def zj6:Option (List za)→List za×Bool
 | some l=>(l,true)
 | none=>([],false)
theorem zfY:∀ (bs:List za),lgo [] bs=some []
 | []=>rfl
 | b :: bs=>by
  have e:xN [] b=[]:=rfl
  unfold lgo
  rw [e,if_pos ⟨zb7,by simp⟩]
  exact zfY bs
theorem Z3 (l m:List za) (b:za):xN (l++m) b=xN l b++xN m b:=by simp [xN]
theorem Yv (c b:za):xN [c] b=XT c b:=by simp [xN]
theorem U2 {left:List za} {b:za} (hl:aB left) (hb:B4 b):aB (xN left b):=fun c hc=>by
 obtain ⟨d,hd,hc⟩:=List.mem_flatMap.1 hc
 exact zkd (hl d hd) hb c hc
theorem zkT:∀ {bs left r:List za},aB left→aB bs→lgo left bs=some r→aB r
 | [],left,r,hl,hb,h=>by simp only [lgo,Option.some.injEq] at h;rw [← h];exact hl
 | b :: bs,left,r,hl,hb,h=>by
  unfold lgo at h
  split at h
  ·exact zkT (U2 hl (hb b (by simp))) (fun c hc=>hb c (by simp [hc])) h
  ·cases h
theorem zjb:∀ {bs left r:List za},okR left→lgo left bs=some r→okR r
 | [],left,r,hl,h=>by simp only [lgo,Option.some.injEq] at h;rw [← h];exact hl
 | b :: bs,left,r,hl,h=>by
  unfold lgo at h
  split at h
  ·rename_i q;exact zjb q h
  ·cases h
theorem zb3 {a:za} {bs r:List za} (ha:B4 a) (hf:F4 a) (hb:aB bs) (h:Xe a bs=some r):aB r∧okR r:=by
 unfold Xe at h
 split at h
 ·injection h with h;subst h;exact ⟨zfz,zb7,by simp⟩
 ·exact ⟨zkT (fun c hc=>by simp only [List.mem_singleton] at hc;subst hc;exact ha) hb h,zjb ⟨fun c hc=>by simp only [List.mem_singleton] at hc;subst hc;exact hf,by simp⟩ h⟩
def hbs (l:List za) (p:zX):Prop:=∃ c∈l,hb4 c p
instance (l:List za) (p:zX):Decidable (hbs l p):=by unfold hbs;infer_instance
theorem Ug (p:zX):¬ hbs [] p:=by simp [hbs]
theorem VV (l m:List za) (p:zX):hbs (l++m) p↔hbs l p∨hbs m p:=by
 unfold hbs
 simp only [List.mem_append]
 constructor
 ·rintro ⟨c,h | h,k⟩
  ·exact .inl ⟨c,h,k⟩
  ·exact .inr ⟨c,h,k⟩
 ·rintro (⟨c,h,k⟩ | ⟨c,h,k⟩)
  ·exact ⟨c,.inl h,k⟩
  ·exact ⟨c,.inr h,k⟩
theorem zbw (c:za) (p:zX):hbs [c] p↔hb4 c p:=by simp [hbs]
theorem UL {a b:List zg} {t x:Int} (ha:St a t) (hb:St b t):hv (xF a b t) x↔hv a x∧¬ hv b x:=by
 unfold xF
 rw [YO,zeQ hb]
 exact ⟨fun h=>⟨h.1,h.2.2.2⟩,fun h=>⟨h.1,(ym ha h.1).1,(ym ha h.1).2,h.2⟩⟩
theorem zb6 (a b:za) (p:zX):hb4 (xt a b) p↔hb4 a p∧hb4 b p:=by
 unfold hb4 xt
 simp only [YO]
 exact ⟨fun ⟨⟨a0,b0⟩,⟨a1,b1⟩,⟨a2,b2⟩,a3,b3⟩=>⟨⟨a0,a1,a2,a3⟩,b0,b1,b2,b3⟩,fun ⟨⟨a0,a1,a2,a3⟩,b0,b1,b2,b3⟩=>⟨⟨a0,b0⟩,⟨a1,b1⟩,⟨a2,b2⟩,a3,b3⟩⟩
theorem zfU {a:za} (h:em4 a=true) (p:zX):¬ hb4 a p:=by
 rintro ⟨h0,h1,h2,h3⟩
 simp only [em4,decide_eq_true_eq] at h
 rcases h with e | e | e | e
 ·rw [e] at h0;exact uP _ h0
 ·rw [e] at h1;exact uP _ h1
 ·rw [e] at h2;exact uP _ h2
 ·rw [e] at h3;exact uP _ h3
theorem zfi {r:List zg} {c:za} {p:zX} (h:r=[]→¬ hb4 c p):hbs (pc r c) p↔hb4 c p:=by
 unfold pc
 split
 ·rename_i e;exact ⟨fun q=>absurd q (Ug p),fun q=>absurd q (h e)⟩
 ·exact zbw c p
theorem zhk {a b:za} (ha:B4 a) (hb:B4 b) (p:zX):hbs (XT a b) p↔hb4 a p∧¬ hb4 b p:=by
 unfold XT
 split
 ·rename_i e
  have no:=zfU e p
  rw [zb6] at no
  split
  ·rename_i e2;exact ⟨fun q=>absurd q (Ug p),fun q=>absurd q.1 (zfU e2 p)⟩
  ·rw [zbw];exact ⟨fun q=>⟨q,fun r=>no ⟨q,r⟩⟩,fun q=>q.1⟩
 ·obtain ⟨p0,p1,p2,p3⟩:=ha
  obtain ⟨q0,q1,q2,q3⟩:=hb
  rw [VV,VV,VV]
  rw [zfi (fun e q=>uP _ (e ▸ q.1)),zfi (fun e q=>uP _ (e ▸ q.2.1)),zfi (fun e q=>uP _ (e ▸ q.2.2.1)),zfi (fun e q=>uP _ (e ▸ q.2.2.2))]
  simp only [hb4,YO,UL p0 q0,UL p1 q1,UL p2 q2,UL p3 q3]
  by_cases c0:hv b.x0 p.xFrom <;> by_cases c1:hv b.x1 p.xTo <;> by_cases c2:hv b.x2 p.xPort <;> by_cases c3:hv b.x3 p.xProto <;> simp only [c0,c1,c2,c3,not_true,not_false_eq_true,and_true,and_false,true_and,false_and,or_false,false_or,iff_self,and_self,or_self]
theorem ziF {left:List za} {b:za} (hl:aB left) (hb:B4 b) (p:zX):hbs (xN left b) p↔hbs left p∧¬ hb4 b p:=by
 constructor
 ·rintro ⟨c,hc,k⟩
  obtain ⟨d,hd,hc⟩:=List.mem_flatMap.1 hc
  have:=(zhk (hl d hd) hb p).1 ⟨c,hc,k⟩
  exact ⟨⟨d,hd,this.1⟩,this.2⟩
 ·rintro ⟨⟨d,hd,k⟩,hn⟩
  obtain ⟨c,hc,k⟩:=(zhk (hl d hd) hb p).2 ⟨k,hn⟩
  exact ⟨c,List.mem_flatMap.2 ⟨d,hd,hc⟩,k⟩
theorem ziO:∀ {bs left r:List za},aB left→aB bs→lgo left bs=some r→∀ p,hbs r p↔hbs left p∧¬ hbs bs p
 | [],left,r,hl,hb,h,p=>by
  simp only [lgo,Option.some.injEq] at h;rw [← h]
  exact ⟨fun q=>⟨q,Ug p⟩,fun q=>q.1⟩
 | b :: bs,left,r,hl,hb,h,p=>by
  unfold lgo at h
  split at h
  ·have hb0:=hb b (by simp)
   rw [ziO (U2 hl hb0) (fun c hc=>hb c (by simp [hc])) h p,ziF hl hb0]
   have e:hbs (b :: bs) p↔hb4 b p∨hbs bs p:=by
    have:=VV [b] bs p
    rw [zbw] at this
    exact this
   rw [e]
   exact ⟨fun q=>⟨q.1.1,fun r=>r.elim q.1.2 q.2⟩,fun q=>⟨⟨q.1,fun r=>q.2 (.inl r)⟩,fun r=>q.2 (.inr r)⟩⟩
  ·cases h
theorem zgu {a:za} {bs r:List za} (ha:B4 a) (hb:aB bs) (h:Xe a bs=some r) (p:zX):hbs r p↔hb4 a p∧¬ hbs bs p:=by
 unfold Xe at h
 split at h
 ·rename_i e
  injection h with h;subst h
  exact ⟨fun q=>absurd q (Ug p),fun q=>absurd q.1 (zfU e p)⟩
 ·rw [ziO (fun c hc=>by simp only [List.mem_singleton] at hc;subst hc;exact ha) hb h p,zbw]
theorem zc3 {a:za} {bs:List za} (ha:B4 a) (hf:F4 a) (hb:aB bs) (hl:bs.length≤4294967296) {κ:List za×Bool→Prop} (h:κ (zj6 (Xe a bs))):uT a bs κ:=by
 unfold uT
 refine zdJ (zn (fun e=>?_) (fun e=>?_))
 ·unfold Xe at h;rw [if_pos e] at h;exact h
 unfold Xe at h;rw [if_neg (by simp [e])] at h
 refine jU ?_
 refine zU bs.length (fun s=>s.2) (fun k (s:List za×Int)=>s.2=(k:Int)∧k≤bs.length∧aB s.1∧okR s.1∧lgo [a] bs=lgo s.1 (bs.drop k)) (fun k s h=>h.1) (fun k s h=>h.2.1) ?_ ⟨rfl,by omega,fun c hc=>by simp only [List.mem_singleton] at hc;subst hc;exact ha,⟨fun c hc=>by simp only [List.mem_singleton] at hc;subst hc;exact hf,by simp⟩,rfl⟩
 rintro k ⟨left,_⟩ next ⟨rfl,hk,hB,hO,he⟩ hn
 simp only at hB hO he
 refine zn (fun hc=>?_) (fun hc=>?_)
 rotate_left
 ·have hge:bs.length≤k:=by simpa using hc
  rw [he,List.drop_of_length_le hge] at h
  exact h
 have hlt:k<bs.length:=by simpa using hc
 rw [List.drop_eq_getElem_cons hlt] at he
 have hbk:=hb _ (List.getElem_mem hlt)
 have no:¬ okR (xN left bs[k])→κ ([],false):=fun q=>by
  rw [he] at h;unfold lgo at h;rw [if_neg q] at h;exact h
 refine zq k rfl hlt ?_
 have hlen:=hO.2
 refine zU left.length (fun s=>s.2) (fun j (s:List za×Int)=>s.2=(j:Int)∧j≤left.length∧s.1=xN (left.take j) bs[k]∧okR (xN (left.take j) bs[k])) (fun k s h=>h.1) (fun k s h=>h.2.1) ?_ ⟨rfl,by omega,by simp [xN],by simp [xN,okR,Vf]⟩
 rintro j ⟨_,_⟩ next2 ⟨rfl,hj,hx,hok⟩ hn2
 simp only at hx
 subst hx
 refine zn (fun hc2=>?_) (fun hc2=>?_)
 ·have hjl:j<left.length:=by simpa using hc2
  have hcB:=hB _ (List.getElem_mem hjl)
  have hcF:=hO.1 _ (List.getElem_mem hjl)
  have hl4:=zan left[j] bs[k]
  have hl2:=hok.2
  have split3:xN left bs[k]=xN (left.take j) bs[k]++(XT left[j] bs[k]++xN (left.drop (j+1)) bs[k]):=by
   have:=List.take_append_drop j left
   rw [List.drop_eq_getElem_cons hjl] at this
   have e2:=congrArg (fun l=>xN l bs[k]) this
   simp only [Z3] at e2
   rw [← e2]
   rw [show left[j] :: left.drop (j+1)=[left[j]]++left.drop (j+1) from rfl,Z3,Yv]
  refine zq j rfl hjl (zee hcB hbk hcF ?_)
  by_cases hFc:∀ c∈XT left[j] bs[k],F4 c
  ·rw [show zdW left[j] bs[k]=(XT left[j] bs[k],true) from if_pos hFc]
   refine jU (jC (zz (by omega) (by omega) (zn (fun e=>no (fun q=>?_)) (fun e=>?_))))
   ·have:=q.2
    rw [split3] at this
    simp only [List.length_append] at this
    simp at e
    omega
   ·have e':(xN (left.take j) bs[k]).length+(XT left[j] bs[k]).length≤400:=by simp at e;omega
    refine js (by omega) (zz (by omega) (by omega) (hn2 hjl _ ⟨by simp,by omega,?_,?_⟩))
    ·rw [List.take_succ_eq_append_getElem hjl,Z3,Yv]
    ·rw [List.take_succ_eq_append_getElem hjl,Z3,Yv]
     exact ⟨yq.2 ⟨hok.1,hFc⟩,by rw [List.length_append];exact e'⟩
  ·rw [show zdW left[j] bs[k]=([],false) from if_neg hFc]
   refine jU (jg (jg (no (fun q=>hFc ?_))))
   have:=q.1
   rw [split3] at this
   exact (yq.1 (yq.1 this).2).1
 ·have hjge:left.length≤j:=by simpa using hc2
  rw [List.take_of_length_le hjge] at hok ⊢
  have he2:lgo [a] bs=lgo (xN left bs[k]) (bs.drop (k+1)):=by
   rw [he];conv=>lhs;unfold lgo
   rw [if_pos hok]
  refine zn (fun e=>?_) (fun e=>?_)
  ·have:xN left bs[k]=[]:=by
    have:(xN left bs[k]).length=0:=by
     have:((xN left bs[k]).length:Int)=0:=by simpa using e
     omega
    exact List.length_eq_zero_iff.1 this
   rw [this] at he2 ⊢
   rw [he2,zfY] at h
   exact h
  ·exact zz (by omega) (by omega) (hn hlt _ ⟨by simp,by omega,U2 hB hbk,hok,he2⟩)
def IV (l:List zk):Prop:=∀ f∈l,B4 f.xWhere∧F4 f.xWhere
theorem FV.iv {l:List zG} (h:FV l):IV (l.map fl):=fun f hf=>by
 obtain ⟨g,hg,rfl⟩:=List.mem_map.1 hf
 exact ⟨(h.2 g hg).b4,(h.2 g hg).f4⟩
def whs (l:List zk):List za:=l.map (·.xWhere)
theorem IV.aB {l:List zk} (h:IV l):aB (whs l):=fun c hc=>by
 obtain ⟨f,hf,rfl⟩:=List.mem_map.1 hc
 exact (h f hf).1
theorem IV.take {l:List zk} (h:IV l) (n:Nat):IV (l.take n):=fun f hf=>h f (List.mem_of_mem_take hf)
def zhX (l:List zk) (n:Nat) (h:n<l.length):Option (List za):=Xe l[n].xWhere (whs (l.take n))
theorem zge {l:List zk} (hl:l.length≤100000) (hv:IV l) {n:Nat} (hn:n<l.length) {κ:List za×Bool→Prop} (h:κ (zj6 (zhX l n hn))):Ya l n κ:=by
 unfold Ya
 refine zq n rfl hn ⟨by omega,by omega,by omega,?_⟩
 have e:(l.take (n:Int).toNat).drop (0:Int).toNat=l.take n:=by simp
 rw [e]
 have hv2:=hv _ (List.getElem_mem hn)
 refine zf0 (by simp;omega) (zc3 hv2.1 hv2.2 (hv.take n).aB (by unfold whs;rw [List.length_map,List.length_take];omega) ?_)
 exact h
def dd (l:List zk) (n:Nat):Bool:=match h:l[n]? with | some f=>decide (Xe f.xWhere (whs (l.take n))=some []) | none=>false
theorem zkN {l:List zk} {n:Nat} (hn:n<l.length):dd l n=decide (zhX l n hn=some []):=by
 unfold dd
 split
 ·rename_i f hf
  obtain ⟨_,e⟩:=List.getElem?_eq_some_iff.1 hf
  unfold zhX;rw [e]
 ·rename_i hf
  rw [List.getElem?_eq_none_iff] at hf;omega
def zkS (l:List zk):List Nat:=(List.range l.length).filter (dd l)
theorem ziv {l:List zk} (hl:l.length≤100000) (hv:IV l) {κ:List Int→Prop} (h:κ ((zkS l).map Int.ofNat)):Uf l κ:=by
 unfold Uf
 refine zU l.length (fun s=>s.2) (fun k (s:List Int×Int)=>s.2=(k:Int)∧k≤l.length∧s.1=((List.range k).filter (dd l)).map Int.ofNat) (fun k s h=>h.1) (fun k s h=>h.2.1) ?_ ⟨rfl,by omega,rfl⟩
 rintro k ⟨_,_⟩ next ⟨rfl,hk,hx⟩ hn
 simp only at hx
 subst hx
 refine zn (fun hc=>?_) (fun hc=>?_)
 ·have hlt:k<l.length:=by simpa using hc
  have hlen:(((List.range k).filter (dd l)).map Int.ofNat).length≤k:=by
   rw [List.length_map]
   exact Nat.le_trans (List.length_filter_le _ _) (by simp)
  refine jU (zge hl hv hlt ?_)
  have step:∀ ys:List Int,ys=((List.range (k+1)).filter (dd l)).map Int.ofNat→jA (k:Int) 1 (fun t145=>next (ys,t145)):=fun ys hy =>
   zz (by omega) (by omega) (hn hlt _ ⟨by simp,by omega,hy⟩)
  have e1:dd l k=true→((List.range (k+1)).filter (dd l)).map Int.ofNat=((List.range k).filter (dd l)).map Int.ofNat++[(k:Int)]:=fun q=>by
   rw [List.range_succ,List.filter_append,List.map_append,List.filter_cons,q];rfl
  have e0:dd l k=false→((List.range (k+1)).filter (dd l)).map Int.ofNat=((List.range k).filter (dd l)).map Int.ofNat:=fun q=>by
   rw [List.range_succ,List.filter_append,List.map_append,List.filter_cons,q];simp
  have hd:=zkN hlt
  cases hlv:zhX l k hlt with
  | none =>
   rw [hlv] at hd
   have hd':dd l k=false:=by rw [hd];simp
   exact jU (jC (jC (step _ (e0 hd').symm)))
  | some r =>
   rw [hlv] at hd
   refine jU (jg (zn (fun e=>?_) (fun e=>?_)))
   ·have:r=[]:=by
     have:r.length=0:=by
      have:(r.length:Int)=0:=by simpa using e
      omega
     exact List.length_eq_zero_iff.1 this
    subst this
    have hd':dd l k=true:=by rw [hd];simp
    exact js (by simp only [List.length_singleton];omega) (step _ (e1 hd').symm)
   ·have:r≠[]:=fun q=>by rw [q] at e;simp at e
    have hd':dd l k=false:=by rw [hd];simpa using this
    exact step _ (e0 hd').symm
 ·have hge:l.length≤k:=by simpa using hc
  have:k=l.length:=by omega
  subst this
  exact h
def fw (l:List zk) (p:zX):Nat:=l.findIdx (fun f=>decide (hb4 f.xWhere p))
end
section
open Go.Lib (decDigits)
def Le (cs ds:List (List zS)):Prop:=cs.length≤ds.length∧∀ (i:Nat) (c:List zS),cs[i]?=some c→∃ e,ds[i]?=some (c++e)
theorem Le.refl (cs:List (List zS)):Le cs cs:=⟨Nat.le_refl _,fun i c h=>⟨[],by simpa using h⟩⟩
theorem Le.trans {a b c:List (List zS)} (h:Le a b) (h':Le b c):Le a c:=⟨Nat.le_trans h.1 h'.1,fun i x hx=>by
 obtain ⟨e,he⟩:=h.2 i x hx
 obtain ⟨e',he'⟩:=h'.2 i _ he
 exact ⟨e++e',by rw [he',List.append_assoc]⟩⟩
end
section
open Go.Lib (decDigits)
def Br (r:zS):Prop:=r.xTests.length≤1048576
def Bq (c:List zS):Prop:=c.length≤1048576∧∀ r,r∈c→Br r
def Bs (cs:List (List zS)):Prop:=cs.length≤1048576∧∀ c,c∈cs→Bq c
theorem Bs.bd {s:zL} (h:Bs s.xChains):Bd s:=⟨by have:=h.1;omega,fun c hc=>⟨by have:=(h.2 c hc).1;omega,fun r hr=>by have:r.xTests.length≤1048576:=(h.2 c hc).2 r hr;omega⟩⟩
theorem SV.bs {s:zL} (h:SV s):Bs s.xChains:=⟨by have:=h.1.1;omega,fun c hc=>⟨by have:=(h.1.2 c hc).1;omega,fun r hr=>by have:r.xTests.length≤6:=((h.1.2 c hc).2 r hr).1.1.2;unfold Br;omega⟩⟩
end
section
open Go.Lib (decDigits)
theorem zjn {x:Int} (h1:-9223372036854775808≤x) (h2:x≤9223372036854775807):w64 x=x:=by
 simp [w64,IntKind.wrap,IntKind.signed,IntKind.bits];omega
def Bl (ls:List (List UInt8)):Prop:=ls.length≤3000000∧∀ l,l∈ls→l.length≤10000000
theorem Bl.take {ls:List (List UInt8)} (h:Bl ls) (n:Nat):Bl (ls.take n):=⟨by have:=h.1;simp;omega,fun l hl=>h.2 l (List.mem_of_mem_take hl)⟩
def Zs (k:Nat) (cs:List (List zS)):Prop:=cs.length≤k∧∀ c,c∈cs→c.length≤k∧∀ r,r∈c→RV r
theorem Zs.bd {k:Nat} {cs:List (List zS)} {a:Bool} (h:Zs k cs) (hk:k≤4000000):Bd ⟨cs,a⟩:=⟨by have:=h.1;simp only;omega,fun c hc=>⟨by have:=(h.2 c hc).1;omega,fun r hr=>by have:r.xTests.length≤6:=((h.2 c hc).2 r hr).1.2;omega⟩⟩
end
section
def th (t:xj) (p:zX):Bool:=decide (t.xLo≤Yn p t.xField.toNat∧Yn p t.xField.toNat≤t.xHi) != t.xNot
def ft (l:List xj) (p:zX):Bool:=l.all (fun t=>th t p)
theorem zmb {a:Int} (h0:0≤a) (h1:a≤3):a=0∨a=1∨a=2∨a=3:=by omega
theorem zhj (x y:Bool):(!(decide (x=y)))=(x != y):=by cases x <;> cases y <;> rfl
theorem zfd {t:xj} {p:zX} {κ:Bool→Prop} (ht:TV t) (h:κ (th t p)):Xq t p κ:=by
 obtain ⟨h0,h1,_⟩:=ht
 unfold Xq yl jnW
 have key:∀ v:Int,v=Yn p t.xField.toNat→ifW (decide (t.xLo≤v)) (κ (!(decide ((decide (v≤t.xHi))=t.xNot)))) (κ (!(decide (false=t.xNot)))):=by
  intro v hv
  unfold th at h
  rw [← hv] at h
  refine zn (fun hc=>?_) (fun hc=>?_)
  ·rw [zhj]
   have e:decide (t.xLo≤v∧v≤t.xHi)=decide (v≤t.xHi):=by simp at hc;simp [hc]
   rw [e] at h;exact h
  ·rw [zhj]
   have e:decide (t.xLo≤v∧v≤t.xHi)=false:=by simp at hc;simp;omega
   rw [e] at h;exact h
 rcases zmb h0 h1 with e | e | e | e
 ·exact zq 0 (by omega) (by simp) (key _ (by rw [e];rfl))
 ·exact zq 1 (by omega) (by simp) (key _ (by rw [e];rfl))
 ·exact zq 2 (by omega) (by simp) (key _ (by rw [e];rfl))
 ·exact zq 3 (by omega) (by simp) (key _ (by rw [e];rfl))
theorem zkl (l:List xj) (p:zX) (k:Nat) (h:k<l.length):ft (l.take (k+1)) p=(ft (l.take k) p && th l[k] p):=by
 unfold ft
 rw [List.take_succ_eq_append_getElem h,List.all_append];simp
theorem zjJ {l:List xj} {p:zX} {k:Nat} (h:k<l.length) (e:th l[k] p=false):ft l p=false:=by
 unfold ft
 rw [List.all_eq_false]
 exact ⟨l[k],List.getElem_mem h,by simp [e]⟩
theorem zd6 {l:List xj} {p:zX} {κ:Bool→Prop} (hl:l.length≤4294967296) (ht:∀ t,t∈l→TV t) (h:κ (ft l p)):YH l p κ:=by
 unfold YH
 refine zU l.length (fun s=>s) (fun k s=>s=(k:Int)∧k≤l.length∧ft (l.take k) p=true) (fun k s h=>h.1) (fun k s h=>h.2.1) ?_ ⟨rfl,Nat.zero_le _,by simp [ft]⟩
 rintro k _ next ⟨rfl,hk,hf⟩ hn
 refine zn (fun hc=>?_) (fun hc=>?_)
 ·have hlt:k<l.length:=by simpa using hc
  refine zq k rfl hlt (zfd (ht _ (List.getElem_mem hlt)) (zn (fun hx=>?_) (fun hx=>zz (by omega) (by omega) (hn hlt _ ⟨by omega,by omega,?_⟩))))
  ·rw [zjJ hlt (by simpa using hx)] at h;exact h
  ·rw [zkl l p k hlt,hf];simpa using hx
 ·have hge:l.length≤k:=by simpa using hc
  rw [List.take_of_length_le hge] at hf
  rw [hf] at h;exact h
def Hh (cs:List (List zS)):Nat→Nat→Prop
 | 0,_=>False
 | n+1,i=>∀ j,Ca cs i j→Hh cs n j
theorem zdj {cs:List (List zS)}:∀ {n i:Nat},Hh cs n i→Hh cs (n+1) i
 | 0,i,h=>h.elim
 | n+1,i,h=>fun j hj=>zdj (h j hj)
theorem zkL {cs:List (List zS)} {n m i:Nat} (h:Hh cs n i) (hm:n≤m):Hh cs m i:=by
 induction hm with
 | refl=>exact h
 | step _ ih=>exact zdj ih
theorem zg8 {cs:List (List zS)} {Q:Nat→Prop}:∀ (k:Nat),(∀ j,j<k→Q j→∃ n,Hh cs n j)→∃ N,∀ j,j<k→Q j→Hh cs N j
 | 0,_=>⟨0,fun j hj=>by omega⟩
 | k+1,h=>by
  obtain ⟨N,hN⟩:=zg8 k (fun j hj hq=>h j (by omega) hq)
  by_cases hq:Q k
  ·obtain ⟨n,hn⟩:=h k (by omega) hq
   refine ⟨max N n,fun j hj hqj=>?_⟩
   by_cases e:j=k
   ·subst e;exact zkL hn (by omega)
   ·exact zkL (hN j (by omega) hqj) (by omega)
  ·refine ⟨N,fun j hj hqj=>?_⟩
   by_cases e:j=k
   ·subst e;exact absurd hqj hq
   ·exact hN j (by omega) hqj
theorem zjK {cs:List (List zS)} {i:Nat} (hs:Sf cs i):∃ n,Hh cs n i:=by
 induction hs with
 | intro x hx ih =>
  obtain ⟨N,hN⟩:=zg8 (cs:=cs) (Q:=fun j=>Ca cs x j) cs.length (fun j _ hq=>ih j hq)
  refine ⟨N+1+1,fun j hj=>?_⟩
  by_cases hl:j<cs.length
  ·exact zdj (hN j hl hj)
  ·exact fun k hk=>by
    obtain ⟨c,h1,_⟩:=hk
    have:=(List.getElem?_eq_some_iff.1 h1).1
    omega
theorem zmc {cs:List (List zS)} (hs:∀ i,i<cs.length→Sf cs i):∃ N,∀ i,Hh cs (N+1) i:=by
 obtain ⟨N,hN⟩:=zg8 (cs:=cs) (Q:=fun _=>True) cs.length (fun j hj _=>zjK (hs j hj))
 refine ⟨N,fun i=>?_⟩
 by_cases hl:i<cs.length
 ·exact zdj (hN i hl trivial)
 ·exact fun k hk=>by
   obtain ⟨c,h1,_⟩:=hk
   have:=(List.getElem?_eq_some_iff.1 h1).1
   omega
def jl (p:zX) (call:Nat→Int):List zS→Int
 | []=>5
 | r :: l=>if ft r.xTests p=true then
   (if r.xAction=1 then 1 else if r.xAction=2 then 2 else if r.xAction=4 then 5 else if r.xAction=3 then (if call r.xChain.toNat=5 then jl p call l else call r.xChain.toNat) else jl p call l)
   else jl p call l
def chn (cs:List (List zS)) (i:Nat):List zS:=cs[i]?.getD []
def jc (cs:List (List zS)) (p:zX):Nat→Nat→Int
 | 0,_=>5
 | n+1,i=>jl p (jc cs p n) (chn cs i)
theorem zgi {p:zX} {f g:Nat→Int}:∀ {l:List zS},(∀ r,r∈l→r.xAction=3→f r.xChain.toNat=g r.xChain.toNat)→jl p f l=jl p g l
 | [],_=>rfl
 | r :: l,h=>by
  have ih:=zgi (p:=p) (l:=l) (fun x hx=>h x (by simp [hx]))
  simp only [jl]
  rw [ih]
  by_cases h3:r.xAction=3
  ·rw [h r (by simp) h3]
  ·simp only [h3,if_false]
theorem za4 {cs:List (List zS)} {i:Nat} {r:zS} (hr:r∈chn cs i) (h3:r.xAction=3) (h0:0≤r.xChain):Ca cs i r.xChain.toNat:=by
 unfold chn at hr
 cases h:cs[i]? with
 | none=>rw [h] at hr;simp at hr
 | some c=>rw [h] at hr;exact ⟨c,h,r,hr,h3,by omega⟩
def Cn (cs:List (List zS)):Prop:=∀ i r,r∈chn cs i→r.xAction=3→0≤r.xChain
theorem zhD {cs:List (List zS)} {p:zX} (hc:Cn cs):∀ {n i:Nat},Hh cs n i→jc cs p (n+1) i=jc cs p n i
 | 0,i,h=>h.elim
 | n+1,i,h=>zgi (fun r hr h3=>zhD hc (h _ (za4 hr h3 (hc i r hr h3))))
def wt (cs:List (List zS)):Nat→List zS→Nat
 | 0,l=>l.length+1
 | n+1,l=>1+(l.map (fun r=>1+if r.xAction=3 then wt cs n (chn cs r.xChain.toNat) else 0)).sum
theorem zk8 (cs:List (List zS)) (n:Nat):wt cs n []=1:=by cases n <;> simp [wt]
theorem zjM (cs:List (List zS)) (n:Nat) (r:zS) (l:List zS):wt cs (n+1) (r :: l)=wt cs (n+1) l+1+(if r.xAction=3 then wt cs n (chn cs r.xChain.toNat) else 0):=by
 simp only [wt,List.map_cons,List.sum_cons];omega
theorem zhh {cs:List (List zS)} (hc:Cn cs):∀ {n i:Nat},Hh cs n i→wt cs (n+1) (chn cs i)=wt cs n (chn cs i)
 | 0,i,h=>h.elim
 | n+1,i,h=>by
  have key:∀ l:List zS,(∀ r,r∈l→r∈chn cs i)→(l.map (fun r=>1+if r.xAction=3 then wt cs (n+1) (chn cs r.xChain.toNat) else 0)).sum=(l.map (fun r=>1+if r.xAction=3 then wt cs n (chn cs r.xChain.toNat) else 0)).sum:=by
   intro l hl
   congr 1
   refine List.map_congr_left (fun r hr=>?_)
   by_cases h3:r.xAction=3
   ·simp only [h3,if_true]
    rw [zhh hc (h _ (za4 (hl r hr) h3 (hc i r (hl r hr) h3)))]
   ·simp only [h3,if_false]
  show 1+_=1+_
  rw [key _ (fun r hr=>hr)]
open Classical in
noncomputable def jN (cs:List (List zS)):Nat:=if h:∃ N,∀ i,Hh cs (N+1) i then h.choose else 0
theorem zeG {cs:List (List zS)} (hs:∀ i,i<cs.length→Sf cs i) (i:Nat):Hh cs (jN cs+1) i:=by
 have h:=zmc hs
 unfold jN
 rw [dif_pos h]
 exact h.choose_spec i
noncomputable def J (cs:List (List zS)) (p:zX) (i:Nat):Int:=jc cs p (jN cs+1) i
theorem zir {cs:List (List zS)} {p:zX} (hc:Cn cs) (hs:∀ i,i<cs.length→Sf cs i) (i:Nat):J cs p i=jl p (J cs p) (chn cs i):=by
 unfold J
 rw [← zhD hc (zeG hs i)]
 rfl
theorem SV.cn {s:zL} (h:SV s):Cn s.xChains:=by
 intro i r hr h3
 unfold chn at hr
 cases e:s.xChains[i]? with
 | none=>rw [e] at hr;simp at hr
 | some c =>
  rw [e] at hr
  exact (((h.1.2 c (List.mem_of_getElem? e)).2 r hr).1.2.2.2.1 h3).1
theorem zbs {cs:List (List zS)} {i:Nat} (h:i<cs.length):chn cs i=cs[i]:=by simp [chn,h]
noncomputable def jdg (s:zL) (p:zX):Bool:=if J s.xChains p 0=1 then true else if J s.xChains p 0=2 then false else s.xAccept
end
section
theorem zct:∀ (n:Nat) (l:List Nat),l.Nodup→(∀ x,x∈l→x<n)→l.length≤n
 | 0,[],_,_=>by simp
 | 0,x :: l,_,h=>by have:=h x (by simp);omega
 | n+1,l,hd,h=>by
  by_cases hm:n∈l
  ·obtain ⟨s,t,rfl⟩:=List.append_of_mem hm
   have hnd:(s++t).Nodup∧n ∉ s++t:=by
    rw [List.nodup_append] at hd ⊢
    simp only [List.nodup_cons,List.mem_cons] at hd
    obtain ⟨h1,⟨h2,h3⟩,h4⟩:=hd
    refine ⟨⟨h1,h3,fun a ha b hb=>h4 a ha b (.inr hb)⟩,fun hmem=>?_⟩
    rcases List.mem_append.1 hmem with hs | ht
    ·exact h4 n hs n (.inl rfl) rfl
    ·exact h2 ht
   have:=zct n (s++t) hnd.1 (fun x hx=>by
    have h1:=h x (by
     rcases List.mem_append.1 hx with hx | hx
     ·exact List.mem_append.2 (.inl hx)
     ·exact List.mem_append.2 (.inr (List.mem_cons_of_mem _ hx)))
    have h2:x≠n:=fun e=>hnd.2 (e ▸ hx)
    omega)
   simp at this ⊢;omega
  ·have:=zct n l hd (fun x hx=>by
    have h1:=h x hx
    have h2:x≠n:=fun e=>hm (e ▸ hx)
    omega)
   omega
def okP (cs:List (List zS)) (q:jb):Prop:=0≤q.xChain∧q.xChain.toNat<cs.length∧0≤q.xNext∧q.xNext.toNat≤(chn cs q.xChain.toNat).length
def sfx (cs:List (List zS)) (q:jb):List zS:=(chn cs q.xChain.toNat).drop q.xNext.toNat
noncomputable def Jst (cs:List (List zS)) (p:zX):List jb→Int
 | []=>5
 | q :: st=>if jl p (J cs p) (sfx cs q)=5 then Jst cs p st else jl p (J cs p) (sfx cs q)
noncomputable def wst (cs:List (List zS)) (xs:List jb):Nat:=(xs.map (fun q=>wt cs (jN cs+1) (sfx cs q))).sum
theorem zah (cs:List (List zS)) (xs:List jb) (q:jb):wst cs (xs++[q])=wst cs xs+wt cs (jN cs+1) (sfx cs q):=by simp [wst]
def Stk (cs:List (List zS)) (xs:List jb):Prop:=(∀ q,q∈xs→okP cs q)∧xs.Pairwise (fun a b=>Wy cs a.xChain.toNat b.xChain.toNat)
theorem Stk.len {cs:List (List zS)} {xs:List jb} (hs:∀ i,i<cs.length→Sf cs i) (h:Stk cs xs):xs.length≤cs.length:=by
 have hn:(xs.map (fun q=>q.xChain.toNat)).Nodup:=by
  rw [List.Nodup,List.pairwise_map]
  refine List.Pairwise.imp_of_mem (fun {a b} ha hb hw e=>?_) h.2
  rw [← e] at hw
  exact zhT (hs _ (h.1 a ha).2.1) hw
 have:=zct cs.length _ hn (fun x hx=>by
  obtain ⟨q,hq,rfl⟩:=List.mem_map.1 hx
  exact (h.1 q hq).2.1)
 simpa using this
theorem Stk.drop {cs:List (List zS)} {ys:List jb} {q:jb} (h:Stk cs (ys++[q])):Stk cs ys:=⟨fun x hx=>h.1 x (List.mem_append.2 (.inl hx)),(List.pairwise_append.1 h.2).1⟩
theorem Stk.move {cs:List (List zS)} {ys:List jb} {q q':jb} (h:Stk cs (ys++[q])) (hq:okP cs q') (hc:q'.xChain=q.xChain):Stk cs (ys++[q']):=by
 refine ⟨fun x hx=>?_,?_⟩
 ·rcases List.mem_append.1 hx with hx | hx
  ·exact h.1 x (List.mem_append.2 (.inl hx))
  ·rw [List.mem_singleton] at hx;subst hx;exact hq
 ·obtain ⟨h1,_,h3⟩:=List.pairwise_append.1 h.2
  refine List.pairwise_append.2 ⟨h1,by simp,fun a ha b hb=>?_⟩
  rw [List.mem_singleton] at hb
  subst hb
  rw [hc]
  exact h3 a ha q (by simp)
theorem Stk.push {cs:List (List zS)} {ys:List jb} {q q':jb} (h:Stk cs (ys++[q])) (hq:okP cs q') (hc:Ca cs q.xChain.toNat q'.xChain.toNat):Stk cs (ys++[q]++[q']):=by
 refine ⟨fun x hx=>?_,?_⟩
 ·rcases List.mem_append.1 hx with hx | hx
  ·exact h.1 x hx
  ·rw [List.mem_singleton] at hx;subst hx;exact hq
 ·refine List.pairwise_append.2 ⟨h.2,by simp,fun a ha b hb=>?_⟩
  rw [List.mem_singleton] at hb
  subst hb
  rcases List.mem_append.1 ha with ha | ha
  ·exact .more ((List.pairwise_append.1 h.2).2.2 a ha q (by simp)) hc
  ·rw [List.mem_singleton] at ha;subst ha;exact .one hc
theorem zha {α:Type} (xs:List α) (h:0<xs.length):∃ ys q,xs=ys++[q]:=⟨xs.dropLast,xs.getLast (List.ne_nil_of_length_pos h),(List.dropLast_concat_getLast (List.ne_nil_of_length_pos h)).symm⟩
theorem zhi {ys:List jb} {q:jb} {vis:List xG} {d:Int} {κ:List jb→Prop} (hl:ys.length≤50) (h:κ ys):Zc (ys++[q]) vis d κ:=by
 unfold Zc jnW
 have hw:w64 (((ys++[q]).length:Int) - 1)=(ys.length:Int):=by
  rw [zh9 (by simp <;> omega) (by simp <;> omega)];simp
 rw [hw]
 refine ⟨by omega,by omega,by simp <;> omega,?_⟩
 rw [show ((ys.length:Int)).toNat=ys.length from by omega,show ((0:Int)).toNat=0 from rfl,List.drop_zero,List.take_left']
 ·exact h
 ·rfl
theorem zes {s:zL} {p:zX} (hv:SV s) {κ:List jb×List xG×Int→Prop} (h:∀ st vis,κ (st,vis,J s.xChains p 0)):ZR s p κ:=by
 unfold ZR
 have hcs:=hv.1.1
 generalize hcc:s.xChains=cs at *
 have hsf:=hv.2.2
 rw [hcc] at hsf
 have hpos:0<cs.length:=by have:=hv.2.1;rw [hcc] at this;omega
 have hcn:Cn cs:=hcc ▸ hv.cn
 have htg:=hv.1.2
 rw [hcc] at htg
 refine yV (fun t=>Stk cs t.1∧t.2.1.length≤200∧(t.2.2=5→Jst cs p t.1.reverse=J cs p 0)∧(t.2.2≠5→t.2.2=J cs p 0)) (fun t=>if t.2.2=5 then 1+wst cs t.1 else 0) ?_ ⟨⟨fun q hq=>?_,by simp⟩,by simp,fun _=>?_,fun hx=>absurd rfl hx⟩
 rotate_left
 ·simp only [List.mem_singleton] at hq;subst hq
  exact ⟨by simp,by simpa using hpos,by simp,by simp⟩
 ·have:sfx cs ⟨0,0⟩=chn cs 0:=by simp [sfx]
  simp only [List.reverse_cons,List.reverse_nil,List.nil_append,Jst,this]
  rw [← zir hcn hsf 0]
  split
  ·rename_i e;rw [e]
  ·rfl
 rintro ⟨xs,vis,d⟩ next ⟨hst,hvl,h5,hd⟩ hn
 simp only at hst hvl h5 hd
 unfold jnW
 refine zn (fun hlen=>?_) (fun hlen=>zn (fun hx=>by simp at hx) (fun _=>?_))
 rotate_left
 ·have hx0:xs=[]:=by simp at hlen;exact hlen
  by_cases e:d=5
  ·have:=h5 e
   rw [hx0] at this
   simp only [List.reverse_nil,Jst] at this
   rw [e,this]
   exact h _ _
  ·rw [hd e];exact h _ _
 refine zn (fun h5'=>?_) (fun h5'=>?_)
 rotate_left
 ·have e:d≠5:=by simpa using h5'
  rw [hd e];exact h _ _
 have e5:d=5:=by simpa using h5'
 subst e5
 clear hd
 have hJ:=h5 rfl
 clear h5
 obtain ⟨ys,q,rfl⟩:=zha xs (by have h':(0:Int)<(xs.length:Int):=of_decide_eq_true hlen;omega)
 have hll:=hst.len hsf
 obtain ⟨q0,q1,q2,q3⟩:=hst.1 q (by simp)
 simp only [List.length_append,List.length_cons,List.length_nil] at hll
 have hchn:=zbs q1
 obtain ⟨h8,hrv⟩:=htg _ (List.getElem_mem q1)
 refine Xh (by simp <;> omega) (by simp <;> omega) (zq ys.length (by simp) (by simp) ?_)
 rw [show (ys++[q])[ys.length]'(by simp)=q by simp]
 refine zq q.xChain.toNat (by omega) q1 ?_
 rw [← hchn]
 rw [← hchn] at h8 hrv
 have hrev:(ys++[q]).reverse=q :: ys.reverse:=by simp
 rw [hrev] at hJ
 have hset:∀ q':jb,(ys++[q]).set ((((ys++[q]).length:Int) - 1)).toNat q'=ys++[q']:=by
  intro q'
  have:((((ys++[q]).length:Int) - 1)).toNat=ys.length:=by simp
  rw [this,List.set_append_right _ _ (Nat.le_refl _)];simp
 have go:∀ (xs':List jb) (vis':List xG),Stk cs xs'→vis'.length≤200→Jst cs p xs'.reverse=J cs p 0→wst cs xs'<wst cs (ys++[q])→next (xs',vis',5):=fun xs' vis' a b c d=>hn _ ⟨a,b,fun _=>c,fun hx=>absurd rfl hx⟩ (by simp only [if_true];omega)
 refine zn (fun hx=>?_) (fun hx=>?_)
 ·have e:q.xNext=((chn cs q.xChain.toNat).length:Int):=by simpa using hx
  have hs0:sfx cs q=[]:=List.drop_eq_nil_of_le (by omega)
  refine zhi (by omega) (go ys vis hst.drop hvl ?_ ?_)
  ·simp only [Jst,hs0,jl,if_true] at hJ;exact hJ
  ·rw [zah,hs0,zk8];omega
 ·have e:q.xNext≠((chn cs q.xChain.toNat).length:Int):=by simpa using hx
  have hlt:q.xNext.toNat<(chn cs q.xChain.toNat).length:=by omega
  obtain ⟨hr,hrc⟩:=hrv _ (List.getElem_mem hlt)
  have hmem:(chn cs q.xChain.toNat)[q.xNext.toNat]∈chn cs q.xChain.toNat:=List.getElem_mem hlt
  have hok':okP cs ⟨q.xChain,q.xNext+1⟩:=⟨q0,q1,by simp only;omega,by simp only;omega⟩
  have hs1:sfx cs q=(chn cs q.xChain.toNat)[q.xNext.toNat] :: sfx cs ⟨q.xChain,q.xNext+1⟩:=by
   unfold sfx
   rw [List.drop_eq_getElem_cons hlt]
   simp only
   rw [show (q.xNext+1).toNat=q.xNext.toNat+1 by omega]
  generalize hrr:(chn cs q.xChain.toNat)[q.xNext.toNat]=r at *
  have hw0:=zah cs ys q
  rw [hs1,zjM] at hw0
  simp only [Jst,hs1,jl] at hJ
  have hmv:Stk cs (ys++[⟨q.xChain,q.xNext+1⟩]):=hst.move hok' rfl
  have hstay:∀ vis':List xG,vis'.length≤200→(if jl p (J cs p) (sfx cs ⟨q.xChain,q.xNext+1⟩)=5 then Jst cs p ys.reverse else jl p (J cs p) (sfx cs ⟨q.xChain,q.xNext+1⟩))=J cs p 0→next (ys++[⟨q.xChain,q.xNext+1⟩],vis',5):=by
   intro vis' hv' hj
   refine go _ vis' hmv hv' ?_ ?_
   ·simp only [List.reverse_append,List.reverse_cons,List.reverse_nil,List.nil_append,List.singleton_append,Jst];exact hj
   ·rw [zah,hw0];omega
  have ir:∀ (K:zS→Prop),K r→zK (chn cs q.xChain.toNat) q.xNext K:=fun K hK=>zq q.xNext.toNat (by omega) hlt (by rw [hrr];exact hK)
  refine zz (by omega) (by omega) (ir _ (zd6 (by have:=hr.1.2;omega) hr.1.1 ?_))
  rw [hset]
  refine zn (fun hx=>?_) (fun hx=>?_)
  ·have hf:ft r.xTests p=false:=by simpa using hx
   rw [hf] at hJ
   exact hstay vis hvl (by simpa using hJ)
  ·have hf:ft r.xTests p=true:=by simpa using hx
   rw [hf] at hJ
   simp only [if_true] at hJ
   have core:∀ vis':List xG,vis'.length≤200→zK (chn cs q.xChain.toNat) q.xNext (fun e191=>yZ e191 (fun r197=>xK.casesW r197 (fun x198=>yk x198 (ys++[⟨q.xChain,q.xNext+1⟩]) vis' 5 (fun r202=>next (ys++[⟨q.xChain,q.xNext+1⟩],vis',r202))) (fun x199=>Zr x199 (ys++[⟨q.xChain,q.xNext+1⟩]) vis' 5 (fun r203=>next (r203,vis',5))) (fun x200=>yR (uh.mk ) (ys++[⟨q.xChain,q.xNext+1⟩]) vis' 5 (fun r206=>next (r206,vis',5))) (fun x201=>Zu (ya.mk ) (ys++[⟨q.xChain,q.xNext+1⟩]) vis' 5 (fun _=>next (ys++[⟨q.xChain,q.xNext+1⟩],vis',5))))):=by
    intro vis' hv'
    refine ir _ ?_
    have dec:∀ d:Int,d≠5→d=J cs p 0→next (ys++[⟨q.xChain,q.xNext+1⟩],vis',d):=fun d hd5 hd=>hn _ ⟨hmv,hv',fun e=>absurd e hd5,fun _=>hd⟩ (by simp only [if_neg hd5,if_true];omega)
    unfold yZ
    by_cases h1:r.xAction=1
    ·rw [if_pos h1] at hJ
     refine zn (fun _=>?_) (fun hx=>by simp at hx;exact absurd h1 hx)
     dsimp only [xK.casesW]
     unfold yk
     exact zn (fun _=>dec 1 (by decide) (by simpa using hJ)) (fun hx=>by simp at hx)
    ·rw [if_neg h1] at hJ
     refine zn (fun hx=>by simp at hx;exact absurd hx h1) (fun _=>?_)
     by_cases h2:r.xAction=2
     ·rw [if_pos h2] at hJ
      refine zn (fun _=>?_) (fun hx=>by simp at hx;exact absurd h2 hx)
      dsimp only [xK.casesW]
      unfold yk
      exact zn (fun hx=>by simp at hx) (fun _=>dec 2 (by decide) (by simpa using hJ))
     ·rw [if_neg h2] at hJ
      refine zn (fun hx=>by simp at hx;exact absurd hx h2) (fun _=>?_)
      by_cases h3:r.xAction=3
      ·have h4:r.xAction≠4:=by omega
       rw [if_neg h4,if_pos h3] at hJ
       rw [if_pos h3] at hw0
       refine zn (fun _=>?_) (fun hx=>by simp at hx;exact absurd h3 hx)
       dsimp only [xK.casesW]
       unfold Zr jnW
       have hch:=hr.2.2.2.1 h3
       have hca:Ca cs q.xChain.toNat r.xChain.toNat:=za4 hmem h3 hch.1
       have hcl:r.xChain.toNat<cs.length:=by have:=hrc;omega
       refine js (by simp;omega) (go _ vis' (hmv.push ⟨hch.1,hcl,by simp,by simp⟩ hca) hv' ?_ ?_)
       ·have hs2:sfx cs ⟨r.xChain,0⟩=chn cs r.xChain.toNat:=by simp [sfx]
        simp only [List.reverse_append,List.reverse_cons,List.reverse_nil,List.nil_append,List.singleton_append,List.cons_append,Jst,hs2]
        rw [← zir hcn hsf]
        by_cases hj5:J cs p r.xChain.toNat=5
        ·rw [if_pos hj5] at hJ ⊢;exact hJ
        ·rw [if_neg hj5] at hJ ⊢
         rw [if_neg hj5] at hJ;exact hJ
       ·have hs2:sfx cs ⟨r.xChain,0⟩=chn cs r.xChain.toNat:=by simp [sfx]
        have hhh:Hh cs (jN cs) r.xChain.toNat:=zeG hsf q.xChain.toNat _ hca
        rw [zah,zah,hs2,zhh hcn hhh,hw0];omega
      ·refine zn (fun hx=>by simp at hx;exact absurd hx h3) (fun _=>?_)
       by_cases h4:r.xAction=4
       ·rw [if_pos h4] at hJ
        refine zn (fun _=>?_) (fun hx=>by simp at hx;exact absurd h4 hx)
        dsimp only [xK.casesW]
        unfold yR
        refine zhi (by omega) (go ys vis' hst.drop hv' (by simpa using hJ) ?_)
        rw [hw0];omega
       ·rw [if_neg h4,if_neg h3] at hJ
        refine zn (fun hx=>by simp at hx;exact absurd hx h4) (fun _=>?_)
        dsimp only [xK.casesW]
        unfold Zu
        exact hstay vis' hv' hJ
   refine zn (fun h2=>js (by simp;omega) (core _ (by simp at h2 ⊢;omega))) (fun _=>core _ hvl)
theorem zfw {s:zL} {p:zX} (hv:SV s) {κ:Bool→Prop} (h:κ (jdg s p)):Xk s p κ:=by
 unfold Xk
 refine zes (p:=p) hv (fun st vis=>?_)
 unfold jdg at h
 show ifW _ _ _
 refine zn (fun hx=>?_) (fun hx=>zn (fun hy=>?_) (fun hy=>?_))
 ·have e:J s.xChains p 0=1:=by simpa using hx
  rw [if_pos e] at h;exact h
 ·have e:J s.xChains p 0=2:=by simpa using hy
  rw [if_neg (by omega),if_pos e] at h;exact h
 ·have e1:¬ J s.xChains p 0=1:=by simpa using hx
  have e2:¬ J s.xChains p 0=2:=by simpa using hy
  rw [if_neg e1,if_neg e2] at h;exact h
theorem UJ {s:zL} {p:zX} {κ:Bool→Prop} (hb:Bd s) (h1:SV s→pv p→κ (jdg s p)) (h2:¬ (SV s∧pv p)→κ false):YG s p κ:=by
 unfold YG jnW
 refine UD hb (fun b hbv=>zn (fun hx=>zn (fun _=>h2 (fun hh=>?_)) (fun hy=>by simp at hy)) (fun hx=>zeB (zn (fun hy=>h2 (fun hh=>?_)) (fun hy=>?_))))
 ·rw [hbv.2 hh.1] at hx;cases hx
 ·rw [decide_eq_true hh.2] at hy;cases hy
 exact zfw (hbv.1 (by simpa using hx)) (h1 (hbv.1 (by simpa using hx)) (by simpa using hy))
end
section
theorem zf9 {b:List UInt8} {p n:Int} (hb:b.length≤2000) (h0:0≤p) (h1:p≤900000) (hn:n≤4294967296) {κ:zX×Int→Prop} (h:∀ k p',p≤p'→p'≤p+20→κ (k,p')):XP b p n κ:=by
 unfold XP
 have rd:∀ q,0≤q→q≤900040→RdP b q:=fun q q1 q2=>⟨hb,q1,by omega⟩
 refine Y4 (rd _ (by omega) (by omega)) (fun a a1 a2=>Y4 (rd _ (by omega) (by omega)) (fun c c1 c2=>Y4 (rd _ (by omega) (by omega)) (fun d d1 d2=>Y4 (rd _ (by omega) (by omega)) (fun e e1 e2=>?_))))
 have fin:∀ (q x y z:Int),p≤q→q≤p+12→ZC b q n (fun (r44,r45)=>ifW r44 (jk b r45 4 (fun (r46,r47)=>ifW (decide (r46=0)) (jk b r47 2 (fun (r50,r51)=>zK ([(-1),65536]) r50 (fun e52=>κ ((zX.mk e52 y z e),r51)))) (ifW (decide (r46=1)) (jk b r47 2 (fun (r56,r57)=>zK ([(-1),65536]) r56 (fun e58=>κ ((zX.mk x e58 z e),r57)))) (ifW (decide (r46=2)) (jk b r47 2 (fun (r62,r63)=>zK ([(-1),256]) r62 (fun e64=>κ ((zX.mk x y e64 e),r63)))) (jk b r47 2 (fun (r68,r69)=>zK ([(-1),8]) r68 (fun e70=>κ ((zX.mk x y z e70),r69)))))))) (κ ((zX.mk x y z e),r45))):=by
  intro q x y z q1 q2
  refine zme (rd _ (by omega) (by omega)) hn (fun o r r1 r2=>zn (fun _=>Y4 (rd _ (by omega) (by omega)) (fun k k1 k2=>?_)) (fun _=>h _ _ (by omega) (by omega)))
  refine zn (fun _=>?_) (fun _=>zn (fun _=>?_) (fun _=>zn (fun _=>?_) (fun _=>?_)))
  all_goals exact Y4 (rd _ (by omega) (by omega)) (fun j j1 j2=>zap j1 (by simp;omega) (fun x hx=>h _ _ (by omega) (by omega)))
 unfold jnW
 refine Y4 (rd _ (by omega) (by omega)) (fun v v1 v2=>zn (fun _=>?_) (fun _=>?_))
 ·refine Y4 (rd _ (by omega) (by omega)) (fun f f1 f2=>VI (by omega) (by omega) (Y4 (rd _ (by omega) (by omega)) (fun g g1 g2=>zz (by omega) (by omega) (Y4 (rd _ (by omega) (by omega)) (fun i i1 i2=>VI (by omega) (by omega) (Y4 (rd _ (by omega) (by omega)) (fun j j1 j2=>zz (by omega) (by omega) (Y4 (rd _ (by omega) (by omega)) (fun l l1 l2=>?_)))))))))
  exact fin _ _ _ _ (by omega) (by omega)
 ·exact fin _ _ _ _ (by omega) (by omega)
end
section
open Go Go.Proofs
theorem zaF:∀ (l:List zg) (s:zg) (out:List zg) (pl:Bool),(zat l s out pl).1.length+(if (zat l s out pl).2.2 then 0 else 1)≤out.length+l.length+(if pl then 0 else 1)
 | [],s,out,pl=>by cases pl <;> simp [zat]
 | x :: xs,s,out,pl=>by
  unfold zat
  by_cases c1:x.xHi+1<s.xLo
  ·rw [if_pos c1]
   have:=zaF xs s (out++[x]) pl
   simp only [List.length_append,List.length_cons,List.length_nil] at this ⊢
   omega
  ·rw [if_neg c1]
   by_cases c2:s.xHi+1<x.xLo
   ·rw [if_pos c2]
    have:=zaF xs s ((if pl then out else out++[s])++[x]) true
    cases pl <;> simp only [List.length_append,List.length_cons,List.length_nil,Bool.false_eq_true,if_true,if_false] at this ⊢ <;> omega
   ·rw [if_neg c2]
    have:=zaF xs (zg.mk (min s.xLo x.xLo) (max s.xHi x.xHi)) out pl
    simp only [List.length_cons]
    omega
theorem zh3 (l:List zg) (s:zg):(zcl l s).length≤l.length+1:=by
 have:=zaF l s [] false
 unfold zcl
 generalize zat l s [] false=r at *
 obtain ⟨o,s',pl⟩:=r
 cases pl <;> simp at this ⊢ <;> omega
theorem zc2:∀ (xs a:List zg),(xs.foldl zcl a).length≤a.length+xs.length
 | [],a=>by simp
 | s :: xs,a=>by
  have h1:=zc2 xs (zcl a s)
  have h2:=zh3 a s
  simp only [List.foldl_cons,List.length_cons]
  omega
theorem zgk {a:za}:F4 a↔le4 a 40:=⟨fun ⟨f0,f1,f2,f3⟩ f h0 h1=>by
 rcases zdO h0 h1 with rfl | rfl | rfl | rfl
 ·exact f0
 ·exact f1
 ·exact f2
 ·exact f3,zft⟩
end
section
open Go Go.Proofs
def XE (bs:List za) (w:za):List za:=bs.flatMap (fun b=>if em4 (xt b w) then [] else [xt b w])
theorem zal (l m:List za) (w:za):XE (l++m) w=XE l w++XE m w:=by simp [XE]
theorem zbY (b w:za):XE [b] w=if em4 (xt b w) then [] else [xt b w]:=by simp [XE]
theorem zbT (bs:List za) (w:za):(XE bs w).length≤bs.length:=by
 induction bs with
 | nil=>simp [XE]
 | cons b bs ih =>
  rw [show b :: bs=[b]++bs from rfl,zal,zbY,List.length_append,List.length_append]
  have:(if em4 (xt b w)=true then [] else [xt b w]:List za).length≤1:=by split <;> simp
  simp only [List.length_singleton];omega
theorem zgR {bs:List za} {w:za} (hb:aB bs) (hw:B4 w):aB (XE bs w):=fun c hc=>by
 obtain ⟨b,hb',hc⟩:=List.mem_flatMap.1 hc
 split at hc
 ·simp at hc
 ·rw [List.mem_singleton] at hc;subst hc;exact zbZ (hb b hb') hw
theorem Vo (bs:List za) (w:za):(xN bs w).length≤4 * bs.length:=by
 induction bs with
 | nil=>simp [xN]
 | cons b bs ih =>
  rw [show b :: bs=[b]++bs from rfl,Z3,Yv,List.length_append,List.length_append]
  have:=zan b w
  simp only [List.length_singleton];omega
def dec (l:List za) (acc:Bool):List zk:=l.map (fun b=>⟨b,acc⟩)
abbrev UR:=Option (List za×List zk)
def url (call:Nat→List za→List zk→UR):List zS→List za→List za→List zk→UR
 | [],going,left,out=>if okR (left++going) then some (left++going,out) else none
 | r :: rs,going,left,out =>
  if okR (XE going (ZL r.xTests))∧okR (xN going (ZL r.xTests)) then
   if r.xAction=1∨r.xAction=2 then
    if (out++dec (XE going (ZL r.xTests)) (decide (r.xAction=1))).length≤60 then url call rs (xN going (ZL r.xTests)) left (out++dec (XE going (ZL r.xTests)) (decide (r.xAction=1))) else none
   else if r.xAction=4 then url call rs (xN going (ZL r.xTests)) (left++XE going (ZL r.xTests)) out
   else if r.xAction=3 then
    match call r.xChain.toNat (XE going (ZL r.xTests)) out with
    | none=>none
    | some (b,o)=>if okR (xN going (ZL r.xTests)++b) then url call rs (xN going (ZL r.xTests)++b) left o else none
   else if okR (xN going (ZL r.xTests)++XE going (ZL r.xTests)) then url call rs (xN going (ZL r.xTests)++XE going (ZL r.xTests)) left out else none
  else none
def uc (cs:List (List zS)):Nat→Nat→List za→List zk→UR
 | 0,_,_,_=>none
 | n+1,i,boxes,out=>url (uc cs n) (chn cs i) boxes [] out
theorem zeW {f g:Nat→List za→List zk→UR}:∀ {l:List zS},(∀ r,r∈l→r.xAction=3→∀ b o,f r.xChain.toNat b o=g r.xChain.toNat b o)→∀ going left out,url f l going left out=url g l going left out
 | [],_,_,_,_=>rfl
 | r :: l,h,going,left,out=>by
  have ih:=zeW (f:=f) (g:=g) (l:=l) (fun x hx=>h x (by simp [hx]))
  unfold url
  by_cases h3:r.xAction=3
  ·rw [h r (by simp) h3];simp only [ih]
  ·simp only [h3,if_false,ih]
theorem zhC {cs:List (List zS)} (hc:Cn cs):∀ {n i:Nat},Hh cs n i→∀ b o,uc cs (n+1) i b o=uc cs n i b o
 | 0,i,h,_,_=>h.elim
 | n+1,i,h,b,o=>zeW (fun r hr h3 b o=>zhC hc (h _ (za4 hr h3 (hc i r hr h3))) b o) _ _ _
noncomputable def U (cs:List (List zS)) (i:Nat) (boxes:List za) (out:List zk):UR:=uc cs (jN cs+1) i boxes out
theorem zjw {cs:List (List zS)} (hc:Cn cs) (hs:∀ i,i<cs.length→Sf cs i) (i:Nat) (b:List za) (o:List zk):U cs i b o=url (U cs) (chn cs i) b [] o:=by
 unfold U
 rw [← zhC hc (zeG hs i)]
 rfl
theorem zfn {call:Nat→List za→List zk→UR}:∀ {l:List zS} {going left:List za} {out:List zk},400<left.length→url call l going left out=none
 | [],going,left,out,h=>by
  unfold url
  rw [if_neg (fun q=>by have:=q.2;rw [List.length_append] at this;omega)]
 | r :: l,going,left,out,h=>by
  have ih:∀ {g o},url call l g left o=none:=zfn h
  have ih2:∀ {g m o},url call l g (left++m) o=none:=zfn (by rw [List.length_append];omega)
  unfold url
  simp only [ih,ih2]
  repeat' split
  all_goals rfl
theorem Vc:okR []:=⟨zb7,by simp⟩
theorem ziI (w:za):XE [] w=[]:=rfl
theorem zh8 (w:za):xN [] w=[]:=rfl
theorem ziC {cs:List (List zS)} (hc:Cn cs):∀ {n i:Nat},Hh cs n i→∀ {o:List zk},o.length≤60→uc cs n i [] o=some ([],o)
 | 0,i,h,_,_=>h.elim
 | n+1,i,h,o,ho=>by
  have key:∀ (l:List zS) (out:List zk),(∀ r,r∈l→r∈chn cs i)→out.length≤60→url (uc cs n) l [] [] out=some ([],out):=by
   intro l
   induction l with
   | nil=>intro out _ _;unfold url;rw [List.append_nil,if_pos Vc]
   | cons r l ih =>
    intro out hl ho
    have ih':=ih out (fun x hx=>hl x (by simp [hx])) ho
    unfold url
    rw [ziI,zh8,if_pos ⟨Vc,Vc⟩]
    have ed:∀ a,out++dec [] a=out:=fun a=>by simp [dec]
    split
    ·rw [ed,if_pos ho];exact ih'
    ·split
     ·exact ih'
     ·split
      ·rename_i h3
       have hr:=hl r (by simp)
       rw [ziC hc (h _ (za4 hr h3 (hc i r hr h3))) ho]
       simp only [List.append_nil,Vc,if_true]
       exact ih'
      ·rw [List.append_nil,if_pos Vc];exact ih'
  exact key _ _ (fun r hr=>hr) ho
theorem zlX {cs:List (List zS)} (hc:Cn cs) (hs:∀ i,i<cs.length→Sf cs i) (i:Nat) {o:List zk} (ho:o.length≤60):U cs i [] o=some ([],o):=ziC hc (zeG hs i) ho
def Uok (r:UR):Prop:=∀ l o,r=some (l,o)→aB l∧okR l∧IV o∧o.length≤60
theorem zfa {l m:List zk} (h1:IV l) (h2:IV m):IV (l++m):=fun f hf=>(List.mem_append.1 hf).elim (h1 f) (h2 f)
theorem ze9 {l:List za} {a:Bool} (h1:aB l) (h2:Vf l):IV (dec l a):=fun f hf=>by
 obtain ⟨b,hb,rfl⟩:=List.mem_map.1 hf
 exact ⟨h1 b hb,h2 b hb⟩
theorem VK:IV []:=fun f h=>by simp at h
theorem zcp (l:List za) (a:Bool):(dec l a).length=l.length:=by simp [dec]
theorem zd0 {call:Nat→List za→List zk→UR} (hcall:∀ i b o,aB b→okR b→IV o→o.length≤60→Uok (call i b o)):∀ {l:List zS} {going left:List za} {out:List zk},(∀ r∈l,∀ t∈r.xTests,TV t)→aB going→aB left→IV out→out.length≤60→Uok (url call l going left out)
 | [],going,left,out,_,hg,hl,ho,h60=>by
  intro l o h
  unfold url at h
  split at h
  ·rename_i q
   injection h with h;injection h with h1 h2;subst h1 h2
   exact ⟨UX.2 ⟨hl,hg⟩,q,ho,h60⟩
  ·cases h
 | r :: rs,going,left,out,ht,hg,hl,ho,h60=>by
  have hw:=zb1 (ht r (by simp))
  have htr:∀ r∈rs,∀ t∈r.xTests,TV t:=fun x hx=>ht x (by simp [hx])
  have hfB:=zgR hg hw
  have hmB:=U2 hg hw
  intro l o h
  unfold url at h
  split at h
  ·rename_i q
   split at h
   ·split at h
    ·rename_i q2
     exact zd0 hcall htr hmB hl (zfa ho (ze9 hfB q.1.1)) q2 l o h
    ·cases h
   ·split at h
    ·exact zd0 hcall htr hmB (UX.2 ⟨hl,hfB⟩) ho h60 l o h
    ·split at h
     ·split at h
      ·cases h
      ·rename_i b o' hb
       obtain ⟨c1,c2,c3,c4⟩:=hcall _ _ _ hfB q.1 ho h60 _ _ hb
       split at h
       ·exact zd0 hcall htr (UX.2 ⟨hmB,c1⟩) hl c3 c4 l o h
       ·cases h
     ·split at h
      ·exact zd0 hcall htr (UX.2 ⟨hmB,hfB⟩) hl ho h60 l o h
      ·cases h
  ·cases h
def TVs (cs:List (List zS)):Prop:=∀ c∈cs,∀ r∈c,∀ t∈r.xTests,TV t
theorem TVs.chn {cs:List (List zS)} (h:TVs cs) (i:Nat):∀ r∈chn cs i,∀ t∈r.xTests,TV t:=by
 unfold Go.Proofs.YtgpdnnhmndlljaaGreatDoor.chn
 cases e:cs[i]? with
 | none=>simp
 | some c=>exact h c (List.mem_of_getElem? e)
theorem SV.tvs {s:zL} (h:SV s):TVs s.xChains:=fun c hc r hr=>((h.1.2 c hc).2 r hr).1.1.1
theorem zkU {cs:List (List zS)} (ht:TVs cs):∀ n i b o,aB b→okR b→IV o→o.length≤60→Uok (uc cs n i b o)
 | 0,i,b,o,_,_,_,_=>fun l o h=>by cases h
 | n+1,i,b,o,hb,hk,ho,h60=>zd0 (zkU ht n) (ht.chn i) hb (fun c hc=>by simp at hc) ho h60
theorem zla {cs:List (List zS)} (ht:TVs cs) (i:Nat) {b:List za} {o:List zk} (hb:aB b) (hk:okR b) (ho:IV o) (h60:o.length≤60):Uok (U cs i b o):=zkU ht _ i b o hb hk ho h60
end
section
open Go Go.Proofs
theorem Ub {cs:List (List zS)} {fl:List zk} {over:Bool} {bs:List za} {κ:List za×Bool→Prop} (h1:400<bs.length→κ (bs,true)) (h2:bs.length≤400→κ (bs,over)):xl cs fl over bs κ:=by
 unfold xl
 exact jU (zn (fun e=>h1 (by simp at e;omega)) (fun e=>h2 (by simp at e;omega)))
theorem zly {n:Int} (h0:0≤n) (h1:n≤4294967296) {κ:List za→Prop} (h:κ []):uL [] n κ:=⟨rfl,h0,h1,h⟩
theorem zci {x y:List za} (hx:x.length≤1000000) (hy:y.length≤1000000) {κ:List za→Prop} (h:κ (x++y)):jZ [x,y] κ:=by
 unfold jZ
 refine ⟨3,?_⟩
 refine jg (zq 0 rfl (by simp) (zz (by first | (simp;done) | (simp;omega)) (by first | (simp;done) | (simp;omega)) (zn (fun e=>by have:=of_decide_eq_true e;omega) (fun _=>zz (by omega) (by omega) ?_))))
 refine jg (zq 1 rfl (by simp) (zz (by first | (simp;done) | (simp;omega)) (by first | (simp;done) | (simp;omega)) (zn (fun e=>by have:=of_decide_eq_true e;omega) (fun _=>zz (by omega) (by omega) ?_))))
 refine jC (zly (by simp;omega) (by simp;omega) ⟨3,?_⟩)
 refine jg (zq 0 rfl (by simp) (js (by simp;omega) (zz (by omega) (by omega) ?_)))
 refine jg (zq 1 rfl (by simp) (js (by simp;omega) (zz (by omega) (by omega) ?_)))
 exact jC h
theorem zix {cs:List (List zS)} {fl:List zk} {bs:List za} {w:za} (hB:aB bs) (hF:Vf bs) (hl:bs.length≤400) (hw:B4 w) {κ:List za×List za×Bool→Prop}
  (h1:okR (XE bs w)→okR (xN bs w)→κ (XE bs w,xN bs w,false)) (h2:¬ (okR (XE bs w)∧okR (xN bs w))→∀ x y,κ (x,y,true)):yG cs fl false bs w κ:=by
 unfold yG
 refine zU bs.length (fun s=>s.2.2) (fun k (s:List za×List za×Int)=>s.2.2=(k:Int)∧k≤bs.length∧s.1=XE (bs.take k) w∧s.2.1=xN (bs.take k) w∧Vf (XE (bs.take k) w)∧Vf (xN (bs.take k) w)) (fun k s h=>h.1) (fun k s h=>h.2.1) ?_ ⟨rfl,by omega,by simp [XE],by simp [xN],by simp [XE,Vf],by simp [xN,Vf]⟩
 rintro k ⟨_,_,_⟩ next ⟨rfl,hk,hx,hy,hfx,hfy⟩ hn
 simp only at hx hy
 subst hx hy
 refine zn (fun hc=>?_) (fun hc=>?_)
 ·have hlt:k<bs.length:=by simpa using hc
  have hbB:=hB _ (List.getElem_mem hlt)
  have hbF:=hF _ (List.getElem_mem hlt)
  have hs:bs=bs.take k++(bs[k] :: bs.drop (k+1)):=by rw [← List.drop_eq_getElem_cons hlt,List.take_append_drop]
  have hfl:=zbT (bs.take k) w
  have hml:=Vo (bs.take k) w
  rw [List.length_take] at hfl hml
  refine zq k rfl hlt (jU ?_)
  have ef:XE (bs.take (k+1)) w=XE (bs.take k) w++(if em4 (xt bs[k] w) then [] else [xt bs[k] w]):=by
   rw [List.take_succ_eq_append_getElem hlt,zal,zbY]
  have em:xN (bs.take (k+1)) w=xN (bs.take k) w++XT bs[k] w:=by
   rw [List.take_succ_eq_append_getElem hlt,Z3,Yv]
  have second:∀ xs,xs=XE (bs.take (k+1)) w→Vf xs→ye bs[k] w (fun (r286,r289)=>ifW (!r289) (κ ([],[],true)) (jJ (xN (bs.take k) w) r286 (fun _=>jA (k:Int) 1 (fun t294=>next (xs,((xN (bs.take k) w)++r286),t294))))):=by
   rintro _ rfl hxf
   refine zee hbB hw hbF ?_
   by_cases hFc:∀ c∈XT bs[k] w,F4 c
   ·rw [show zdW bs[k] w=(XT bs[k] w,true) from if_pos hFc]
    have:=zan bs[k] w
    refine jC (js (by omega) (zz (by omega) (by omega) (hn hlt _ ⟨by simp,by omega,rfl,em.symm,hxf,?_⟩)))
    rw [em];exact yq.2 ⟨hfy,hFc⟩
   ·rw [show zdW bs[k] w=([],false) from if_neg hFc]
    refine jg (h2 (fun q=>hFc ?_) _ _)
    have:=q.2.1
    rw [hs,Z3,show bs[k] :: bs.drop (k+1)=[bs[k]]++bs.drop (k+1) from rfl,Z3,Yv] at this
    exact (yq.1 (yq.1 this).2).1
  refine zcS hbB hw (zn (fun e=>?_) (fun e=>?_))
  ·have e':em4 (xt bs[k] w)=false:=by simpa using e
   refine zhA hbB hw ?_
   by_cases hm:F4 (xt bs[k] w)
   ·rw [show zgW (xt bs[k] w)=(xt bs[k] w,true) from if_pos hm]
    refine jC (js (by simp;omega) (second _ ?_ ?_))
    ·rw [ef,e'];simp
    ·refine yq.2 ⟨hfx,fun c hc=>?_⟩
     rw [List.mem_singleton] at hc;subst hc;exact hm
   ·rw [show zgW (xt bs[k] w)=(zbI,false) from if_neg hm]
    refine jg (h2 (fun q=>hm ?_) _ _)
    have:=q.1.1
    rw [hs,zal,show bs[k] :: bs.drop (k+1)=[bs[k]]++bs.drop (k+1) from rfl,zal,zbY,e'] at this
    exact (yq.1 (yq.1 this).2).1 _ (by simp)
  ·have e':em4 (xt bs[k] w)=true:=by simpa using e
   refine second _ ?_ hfx
   rw [ef,e'];simp
 ·have hge:bs.length≤k:=by simpa using hc
  rw [List.take_of_length_le hge] at hfx hfy ⊢
  refine Ub (fun q1=>?_) (fun q1=>?_)
  ·have no:¬ (okR (XE bs w)∧okR (xN bs w)):=fun q=>by have:=q.1.2;omega
   exact Ub (fun _=>h2 no _ _) (fun _=>h2 no _ _)
  ·refine Ub (fun q2=>?_) (fun q2=>h1 ⟨hfx,q1⟩ ⟨hfy,q2⟩)
   exact h2 (fun q=>by have:=q.2.2;omega) _ _
def Cw (o:UR) (κ:List za×List zk×Bool→Prop):Prop:=match o with | some (l,out)=>κ (l,out,false) | none=>∀ l out,l.length≤10000→κ (l,out,true)
theorem zjP {l:List za} {o:List zk} {κ:List za×List zk×Bool→Prop} (h:κ (l,o,false)):Cw (some (l,o)) κ:=h
theorem zg7 {d:uS} {cs:List (List zS)} {fl:List zk} {x fit miss:List za} (hf:fl.length≤60) (hl:fit.length≤400) {κ:List za×List zk×Bool→Prop} (h1:60<(fl++dec fit d.xAccept).length→κ (miss,fl++dec fit d.xAccept,true)) (h2:(fl++dec fit d.xAccept).length≤60→κ (miss,fl++dec fit d.xAccept,false)):uW d cs fl false x fit miss κ:=by
 unfold uW
 refine zU fit.length (fun s=>s.2) (fun k (s:List zk×Int)=>s.2=(k:Int)∧k≤fit.length∧s.1=fl++dec (fit.take k) d.xAccept) (fun k s h=>h.1) (fun k s h=>h.2.1) ?_ ⟨rfl,by omega,by simp [dec]⟩
 rintro k ⟨_,_⟩ next ⟨rfl,hk,hx⟩ hn
 simp only at hx
 subst hx
 have hln:(fl++dec (fit.take k) d.xAccept).length≤460:=by rw [List.length_append,zcp,List.length_take];omega
 refine zn (fun hc=>?_) (fun hc=>?_)
 ·have hlt:k<fit.length:=by simpa using hc
  refine zq k rfl hlt (jU (js (by simp only [List.length_singleton];omega) (zz (by omega) (by omega) (hn hlt _ ⟨by simp,by omega,?_⟩))))
  unfold dec
  rw [List.take_succ_eq_append_getElem hlt,List.map_append,← List.append_assoc];rfl
 ·have hge:fit.length≤k:=by simpa using hc
  rw [List.take_of_length_le hge]
  exact jU (zn (fun e=>h1 (by simp at e;simp;omega)) (fun e=>h2 (by simp at e;simp;omega)))
theorem VW {x:uS} {p0:uS→Prop} {p1:ZH→Prop} {p2:uh→Prop} {p3:ya→Prop} (h:p0 x):xK.casesW (.kDeciding x) p0 p1 p2 p3:=h
theorem zd4 {x:ZH} {p0:uS→Prop} {p1:ZH→Prop} {p2:uh→Prop} {p3:ya→Prop} (h:p1 x):xK.casesW (.kCalling x) p0 p1 p2 p3:=h
theorem zcv {x:uh} {p0:uS→Prop} {p1:ZH→Prop} {p2:uh→Prop} {p3:ya→Prop} (h:p2 x):xK.casesW (.kReturning x) p0 p1 p2 p3:=h
theorem zdx {x:ya} {p0:uS→Prop} {p1:ZH→Prop} {p2:uh→Prop} {p3:ya→Prop} (h:p3 x):xK.casesW (.kPassing x) p0 p1 p2 p3:=h
theorem ziJ {cs:List (List zS)} (hcn:Cn cs) (hs:∀ i,i<cs.length→Sf cs i) (hc5:∀ c∈cs,c.length≤8∧∀ r∈c,TsV r.xTests∧(r.xAction=3→0≤r.xChain∧r.xChain<cs.length)):∀ (n i:Nat) (boxes:List za) (out:List zk) (κ:List za×List zk×Bool→Prop),Hh cs n i→i<cs.length→aB boxes→okR boxes→IV out→out.length≤60→Cw (U cs i boxes out) κ→ui n cs out false i boxes κ:=by
 have htv:TVs cs:=fun c hc r hr=>((hc5 c hc).2 r hr).1.1
 intro n
 induction n with
 | zero=>intro i boxes out κ h;exact h.elim
 | succ n ih =>
  intro i boxes out κ hh hi hB hO hIV h60 h
  show yQ (ui n) cs out false i boxes κ
  unfold yQ
  refine zn (fun e=>?_) (fun e=>?_)
  ·have:boxes=[]:=by
    have:(boxes.length:Int)=0:=of_decide_eq_true e
    exact List.length_eq_zero_iff.1 (by omega)
   subst this
   rw [zlX hcn hs i h60] at h
   exact h
  clear e
  obtain ⟨h8,hrv⟩:=hc5 _ (List.getElem_mem hi)
  rw [zjw hcn hs i,zbs hi] at h
  have hci:=zbs hi
  refine zq i rfl hi ?_
  generalize hcc:cs[i]=c at *
  generalize hT:url (U cs) c boxes [] out=T at *
  refine zU c.length (fun s=>s.2.2.2.2) (fun k (s:List za×List zk×Bool×List za×Int)=>s.2.2.2.2=(k:Int)∧k≤c.length∧s.2.2.1=false∧(aB s.1∧Vf s.1∧s.1.length≤400 * k)∧(IV s.2.1∧s.2.1.length≤60)∧(aB s.2.2.2.1∧okR s.2.2.2.1)∧T=url (U cs) (c.drop k) s.2.2.2.1 s.1 s.2.1) (fun k s h=>h.1) (fun k s h=>h.2.1) ?_ ⟨rfl,by omega,rfl,⟨zfz,zb7,by simp⟩,⟨hIV,h60⟩,⟨hB,hO⟩,hT.symm⟩
  rintro k ⟨left,fls,_,going,_⟩ next ⟨rfl,hk,rfl,⟨hlB,hlF,hll⟩,⟨hfI,hf60⟩,⟨hgB,hgO⟩,he⟩ hn
  simp only at hlB hlF hll hfI hf60 hgB hgO he
  have hl4:left.length≤3200:=by omega
  have hg4:=hgO.2
  refine zn (fun hc=>?_) (fun hc=>?_)
  ·have hlt:k<c.length:=by simpa using hc
   obtain ⟨hts,hcall⟩:=hrv _ (List.getElem_mem hlt)
   rw [List.drop_eq_getElem_cons hlt] at he
   unfold url at he
   refine jU (zq k rfl hlt (zfs hts ?_))
   have hw:=zb1 hts.1
   have hm:c[k]∈c:=List.getElem_mem hlt
   have hmc:c[k]∈chn cs i:=by rw [hci];exact hm
   generalize c[k]=r at *
   have hfB:=zgR hgB hw
   have hmB:=U2 hgB hw
   have hfl:=zbT going (ZL r.xTests)
   have hml:=Vo going (ZL r.xTests)
   refine zix hgB hgO.1 hg4 hw (fun o1 o2=>jC ?_) (fun q x y=>jg ?_)
   rotate_left
   ·rw [if_neg q] at he
    rw [he] at h
    exact h _ _ (by simp)
   rw [if_pos ⟨o1,o2⟩] at he
   generalize XE going (ZL r.xTests)=fit at *
   generalize xN going (ZL r.xTests)=miss at *
   have stop:∀ o,T=none→κ ([],o,true):=fun o q=>by rw [q] at h;exact h _ _ (by simp)
   have go:∀ left' fls' going',(aB left'∧Vf left'∧left'.length≤400 * (k+1))→(IV fls'∧fls'.length≤60)→(aB going'∧okR going')→T=url (U cs) (c.drop (k+1)) going' left' fls'→jA (k:Int) 1 (fun t183=>next (left',fls',false,going',t183)):=fun left' fls' going' a1 a2 a3 a4=>zz (by omega) (by omega) (hn hlt _ ⟨by simp,by omega,rfl,a1,a2,a3,a4⟩)
   have decide12:∀ a:Bool,(r.xAction=1∨r.xAction=2)→a=decide (r.xAction=1)→uW (uS.mk a) cs fls false left fit miss (fun (r68,r71,r74)=>xl cs r71 r74 r68 (fun (r75,r78)=>ifW r78 (κ ([],r71,r78)) (jA (k:Int) 1 (fun t183=>next (left,r71,r78,r75,t183))))):=by
    intro a ha hq
    subst hq
    rw [if_pos ha] at he
    refine zg7 hf60 o1.2 (fun q=>?_) (fun q=>?_)
    ·have q':60<(fls++dec fit (decide (r.xAction=1))).length:=q
     rw [if_neg (by omega)] at he
     exact Ub (fun _=>jg (stop _ he)) (fun _=>jg (stop _ he))
    ·rw [if_pos q] at he
     refine Ub (fun q2=>absurd q2 (by have:=o2.2;omega)) (fun _=>jC ?_)
     exact go _ _ _ ⟨hlB,hlF,by omega⟩ ⟨zfa hfI (ze9 hfB o1.1),q⟩ ⟨hmB,o2⟩ he
   unfold yZ
   refine zn (fun e=>VW (decide12 true (.inl (of_decide_eq_true e)) (by rw [e]))) (fun e=>?_)
   have n1:¬ r.xAction=1:=of_decide_eq_false e
   refine zn (fun e2=>VW (decide12 false (.inr (of_decide_eq_true e2)) (by rw [e]))) (fun e2=>?_)
   have n2:¬ r.xAction=2:=of_decide_eq_false e2
   rw [if_neg (fun q=>q.elim n1 n2)] at he
   refine zn (fun e3=>?_) (fun e3=>?_)
   ·have h3:r.xAction=3:=of_decide_eq_true e3
    rw [if_neg (by omega),if_pos h3] at he
    obtain ⟨c0,c1⟩:=hcall h3
    obtain ⟨j,hj⟩:=Int.eq_ofNat_of_zero_le c0
    refine zd4 ?_
    unfold Xc
    have hca:=za4 hmc h3 c0
    rw [hj] at he hca c1 ⊢
    refine ih j fit fls _ (hh j (by simpa using hca)) (by omega) hfB o1 hfI hf60 ?_
    have hj':((j:Int)).toNat=j:=by simp
    rw [hj'] at he
    cases hU:U cs j fit fls with
    | none =>
     rw [hU] at he
     intro l o hl
     exact zci (by have:=o2.2;omega) (by omega) (Ub (fun _=>jg (stop _ he)) (fun _=>jg (stop _ he)))
    | some bo =>
     obtain ⟨b,o⟩:=bo
     rw [hU] at he
     obtain ⟨u1,u2,u3,u4⟩:=zla htv j hfB o1 hfI hf60 _ _ hU
     simp only at he
     refine zjP ?_
     refine zci (by have:=o2.2;omega) (by have:=u2.2;omega) (Ub (fun q=>jg (stop _ ?_)) (fun q=>jC ?_))
     ·rw [if_neg (fun q2=>by have:=q2.2;omega)] at he;exact he
     ·have ok:okR (miss++b):=⟨yq.2 ⟨o2.1,u2.1⟩,q⟩
      rw [if_pos ok] at he
      exact go _ _ _ ⟨hlB,hlF,by omega⟩ ⟨u3,u4⟩ ⟨UX.2 ⟨hmB,u1⟩,ok⟩ he
   ·have n3:¬ r.xAction=3:=of_decide_eq_false e3
    refine zn (fun e4=>?_) (fun e4=>?_)
    ·have h4:r.xAction=4:=of_decide_eq_true e4
     rw [if_pos h4] at he
     refine zcv ?_
     unfold Zz
     have:=o1.2
     refine js (by omega) (Ub (fun q=>absurd q (by have:=o2.2;omega)) (fun _=>jC ?_))
     exact go _ _ _ ⟨UX.2 ⟨hlB,hfB⟩,yq.2 ⟨hlF,o1.1⟩,by rw [List.length_append];omega⟩ ⟨hfI,hf60⟩ ⟨hmB,o2⟩ he
    ·have n4:¬ r.xAction=4:=of_decide_eq_false e4
     rw [if_neg n4,if_neg n3] at he
     refine zdx ?_
     unfold Z5
     have:=o1.2
     refine zci (by have:=o2.2;omega) (by omega) (Ub (fun q=>jg (stop _ ?_)) (fun q=>jC ?_))
     ·rw [if_neg (fun q2=>by have:=q2.2;omega)] at he;exact he
     ·have ok:okR (miss++fit):=⟨yq.2 ⟨o2.1,o1.1⟩,q⟩
      rw [if_pos ok] at he
      exact go _ _ _ ⟨hlB,hlF,by omega⟩ ⟨hfI,hf60⟩ ⟨UX.2 ⟨hmB,hfB⟩,ok⟩ he
  ·have hge:c.length≤k:=by simpa using hc
   rw [List.drop_of_length_le hge] at he
   unfold url at he
   rw [he] at h
   refine zci (by omega) (by omega) (Ub (fun q=>?_) (fun q=>?_))
   ·rw [if_neg (fun q2=>by have:=q2.2;omega)] at h
    exact h _ _ (by rw [List.length_append];omega)
   ·rw [if_pos ⟨yq.2 ⟨hlF,hgO.1⟩,q⟩] at h
    exact h
noncomputable def uf (s:zL):Option (List zk):=(U s.xChains 0 [Zq] []).map (·.2)
theorem SV.c5 {s:zL} (h:SV s):∀ c∈s.xChains,c.length≤8∧∀ r∈c,TsV r.xTests∧(r.xAction=3→0≤r.xChain∧r.xChain<s.xChains.length):=fun c hc=>⟨(h.1.2 c hc).1,fun r hr=>⟨((h.1.2 c hc).2 r hr).1.1,fun h3=>⟨(((h.1.2 c hc).2 r hr).1.2.2.2.1 h3).1,((h.1.2 c hc).2 r hr).2⟩⟩⟩
theorem zcj:okR [Zq]:=⟨fun c hc=>by
 rw [List.mem_singleton] at hc;subst hc
 exact zft (fun f h0 h1=>by have:=zdk f h0 h1;omega),by simp⟩
theorem zfg:aB [Zq]:=fun c hc=>by rw [List.mem_singleton] at hc;subst hc;exact zbp
theorem ziQ {s:zL} (h:SV s) {l:List zk} (he:uf s=some l):IV l∧l.length≤60:=by
 unfold uf at he
 cases hU:U s.xChains 0 [Zq] [] with
 | none=>rw [hU] at he;cases he
 | some bo =>
  obtain ⟨b,o⟩:=bo
  rw [hU] at he
  simp only [Option.map_some,Option.some.injEq] at he
  subst he
  have:=zla h.tvs 0 zfg zcj VK (by simp) _ _ hU
  exact ⟨this.2.2.1,this.2.2.2⟩
theorem zey {s:zL} (hv':SV s) {κ:List zk×Bool→Prop} (h1:∀ l,uf s=some l→κ (l,true)) (h2:uf s=none→∀ l,κ (l,false)):ZO s κ:=by
 unfold ZO
 refine zbj ⟨jN s.xChains+1,ziJ hv'.cn hv'.2.2 hv'.c5 _ 0 _ _ _ (zeG hv'.2.2 0) hv'.2.1 zfg zcj VK (by simp) ?_⟩
 unfold uf at h1 h2
 cases hU:U s.xChains 0 [Zq] [] with
 | none=>rw [hU] at h2;exact fun l o _=>h2 rfl o
 | some bo =>
  obtain ⟨b,o⟩:=bo
  rw [hU] at h1
  exact h1 o rfl
end
section
open Go Go.Proofs
def gf (f:zk):zG:=⟨bx f.xWhere,f.xAccept⟩
theorem zc1 {l:List zk} (h:IV l) (hl:l.length≤60):FV (l.map gf):=⟨by simpa using hl,fun f hf=>by
 obtain ⟨g,hg,rfl⟩:=List.mem_map.1 hf
 exact zdN.2 (h g hg)⟩
theorem zlv {a:za} (h:B4 a):Bb (bx a):=⟨by simp [bx],fun x hx=>zbn h x hx⟩
theorem zex {l:List za} (hB:aB l) (hl:l.length≤1000000) {κ:Bool→Prop} (h:κ (decide (okR l))):xo (l.map bx) κ:=by
 unfold xo
 refine zU l.length (fun s=>s) (fun k s=>s=(k:Int)∧k≤l.length∧Vf (l.take k)) (fun k s h=>h.1) (fun k s h=>h.2.1) ?_ ⟨rfl,by omega,by simp [Vf]⟩
 rintro k _ next ⟨rfl,hk,hv'⟩ hn
 refine zn (fun hc=>?_) (fun hc=>?_)
 ·have hlt:k<l.length:=by simpa using hc
  have hb:=hB _ (List.getElem_mem hlt)
  refine zq k rfl (by simpa using hlt) ?_
  rw [List.getElem_map]
  refine yU (zlv hb) (zn (fun e=>?_) (fun e=>?_))
  ·have:¬ BV (bx l[k]):=by simpa using e
   rw [decide_eq_false (fun q=>this (zdN.2 ⟨hb,q.1 _ (List.getElem_mem hlt)⟩))] at h;exact h
  ·have:BV (bx l[k]):=by simpa using e
   refine zz (by omega) (by omega) (hn hlt _ ⟨by simp,by omega,?_⟩)
   rw [List.take_succ_eq_append_getElem hlt]
   refine yq.2 ⟨hv',fun c hc=>?_⟩
   rw [List.mem_singleton] at hc;subst hc;exact this.f4
 ·have hge:l.length≤k:=by simpa using hc
  rw [List.take_of_length_le hge] at hv'
  rw [show decide (okR l)=decide (((l.map bx).length:Int)≤400) from decide_eq_decide.2 ⟨fun q=>by have:=q.2;simp;omega,fun q=>⟨hv',by simp at q;omega⟩⟩] at h
  exact h
theorem yK {l:List za} (hB:aB l) (hl:l.length≤1000000) {κ:Bool→Prop} (h1:okR l→κ true) (h2:¬ okR l→κ false):xo (l.map bx) κ:=by
 refine zex hB hl ?_
 by_cases h:okR l
 ·rw [decide_eq_true h];exact h1 h
 ·rw [decide_eq_false h];exact h2 h
def Sw (o:UR) (κ:List zM×Bool×List zG→Prop):Prop:=match o with | some (l,out)=>κ (l.map bx,true,out.map gf) | none=>∀ l out,κ (l,false,out)
theorem zkh {l:List za} {o:List zk} {κ:List zM×Bool×List zG→Prop} (h:κ (l.map bx,true,o.map gf)):Sw (some (l,o)) κ:=h
theorem zlj {s:zL} (hv:SV s):∀ (n i:Nat) (boxes:List za) (out:List zk) (κ:List zM×Bool×List zG→Prop),Hh s.xChains n i→i<s.xChains.length→aB boxes→okR boxes→IV out→out.length≤60→Sw (U s.xChains i boxes out) κ→yN n s i (boxes.map bx) (out.map gf) κ:=by
 have hcn:=hv.cn
 have hs:=hv.2.2
 have hc5:=hv.c5
 have htv:=hv.tvs
 intro n
 induction n with
 | zero=>intro i boxes out κ h;exact h.elim
 | succ n ih =>
  intro i boxes out κ hh hi hB hO hIV h60 h
  show YE (yN n) s i (boxes.map bx) (out.map gf) κ
  unfold YE
  obtain ⟨h8,hrv⟩:=hc5 _ (List.getElem_mem hi)
  rw [zjw hcn hs i,zbs hi] at h
  have hci:=zbs hi
  have ix:∀ (K:List zS→Prop),K s.xChains[i]→zK s.xChains (i:Int) K:=fun K hK=>zq i rfl hi hK
  generalize hcc:s.xChains[i]=c at *
  generalize hT:url (U s.xChains) c boxes [] out=T at *
  refine zU c.length (fun s=>s.2.2.2) (fun k (st:List zG×List zM×List zM×Int)=>st.2.2.2=(k:Int)∧k≤c.length∧∃ fls going left,st.1=fls.map gf∧st.2.1=going.map bx∧st.2.2.1=left.map bx∧(aB left∧okR left)∧(IV fls∧fls.length≤60)∧(aB going∧okR going)∧T=url (U s.xChains) (c.drop k) going left fls) (fun k s h=>h.1) (fun k s h=>h.2.1) ?_ ⟨rfl,by omega,out,boxes,[],rfl,rfl,rfl,⟨zfz,Vc⟩,⟨hIV,h60⟩,⟨hB,hO⟩,hT.symm⟩
  rintro k ⟨_,_,_,_⟩ next ⟨rfl,hk,fls,going,left,e1,e2,e3,⟨hlB,hlO⟩,⟨hfI,hf60⟩,⟨hgB,hgO⟩,he⟩ hn
  simp only at e1 e2 e3
  subst e1 e2 e3
  have hl4:=hlO.2
  have hg4:=hgO.2
  refine ix _ (zn (fun hc=>?_) (fun hc=>?_))
  ·have hlt:k<c.length:=by simpa using hc
   obtain ⟨hts,hcall⟩:=hrv _ (List.getElem_mem hlt)
   rw [List.drop_eq_getElem_cons hlt] at he
   unfold url at he
   refine ix _ (zq k rfl hlt (zgQ hts ?_))
   have hw:=zb1 hts.1
   have hm:c[k]∈c:=List.getElem_mem hlt
   have hmc:c[k]∈chn s.xChains i:=by rw [hci];exact hm
   generalize c[k]=r at *
   have hfB:=zgR hgB hw
   have hmB:=U2 hgB hw
   have hfl:=zbT going (ZL r.xTests)
   have hml:=Vo going (ZL r.xTests)
   generalize ZL r.xTests=w at *
   refine zU going.length (fun s=>s.2.2) (fun j (st:List zM×List zM×Int)=>st.2.2=(j:Int)∧j≤going.length∧st.1=(XE (going.take j) w).map bx∧st.2.1=(xN (going.take j) w).map bx) (fun k s h=>h.1) (fun k s h=>h.2.1) ?_ ⟨rfl,by omega,by simp [XE],by simp [xN]⟩
   rintro j ⟨_,_,_⟩ next2 ⟨rfl,hj,hx,hy⟩ hn2
   simp only at hx hy
   subst hx hy
   refine zn (fun hc2=>?_) (fun hc2=>?_)
   ·have hjl:j<going.length:=by simpa using hc2
    have hbB:=hgB _ (List.getElem_mem hjl)
    have hf2:=zbT (going.take j) w
    have hm2:=Vo (going.take j) w
    rw [List.length_take] at hf2 hm2
    have ix2:∀ (K:zM→Prop),K (bx going[j])→zK (going.map bx) (j:Int) K:=fun K hK=>zq j rfl (by simpa using hjl) (by rw [List.getElem_map];exact hK)
    have ef:XE (going.take (j+1)) w=XE (going.take j) w++(if em4 (xt going[j] w) then [] else [xt going[j] w]):=by
     rw [List.take_succ_eq_append_getElem hjl,zal,zbY]
    have em:xN (going.take (j+1)) w=xN (going.take j) w++XT going[j] w:=by
     rw [List.take_succ_eq_append_getElem hjl,Z3,Yv]
    have hcl:=zan going[j] w
    have second:∀ xs,xs=(XE (going.take (j+1)) w).map bx→zK (going.map bx) (j:Int) (fun e195=>yI e195 (bx w) (fun r201=>jJ ((xN (going.take j) w).map bx) r201 (fun _=>jA (j:Int) 1 (fun t206=>next2 (xs,(((xN (going.take j) w).map bx)++r201),t206))))):=by
     rintro _ rfl
     refine ix2 _ (zdU hbB hw (js (by simp only [List.length_map];omega) (zz (by omega) (by omega) (hn2 hjl _ ⟨by simp,by omega,rfl,?_⟩))))
     rw [em,List.map_append]
    refine jU (jU (ix2 _ (zcP hbB hw ?_)))
    refine UW (a:=xt going[j] w) (zn (fun e=>?_) (fun e=>?_))
    ·have e':em4 (xt going[j] w)=false:=by simpa using e
     refine js (by simp only [List.length_map,List.length_singleton];omega) (second _ ?_)
     rw [ef,e',List.map_append];rfl
    ·have e':em4 (xt going[j] w)=true:=by simpa using e
     refine second _ ?_
     rw [ef,e'];simp
   ·have hjge:going.length≤j:=by simpa using hc2
    rw [List.take_of_length_le hjge]
    have stop:∀ l o,T=none→κ (l,false,o):=fun l o q=>by rw [q] at h;exact h _ _
    refine jU (yK hfB (by omega) (fun o1=>jC (yK hmB (by omega) (fun o2=>jC ?_) (fun no=>jg (stop _ _ ?_)))) (fun no=>jg (jg (stop _ _ ?_))))
    rotate_left
    ·rw [if_neg (fun q=>no q.2)] at he;exact he
    ·rw [if_neg (fun q=>no q.1)] at he;exact he
    rw [if_pos ⟨o1,o2⟩] at he
    generalize XE going w=fit at *
    generalize xN going w=miss at *
    refine zdz (fun (t:List zM×List zM×List zG)=>∃ left' going' fls',t=(List.map bx left',List.map bx going',List.map gf fls')∧aB left'∧Vf left'∧left'.length≤100000∧aB going'∧going'.length≤100000∧IV fls'∧(okR going'→okR left'→fls'.length≤60→T=url (U s.xChains) (c.drop (k+1)) going' left' fls')∧(¬ (okR going'∧okR left'∧fls'.length≤60)→T=none)) ?_ ?_
    ·rintro _ ⟨left',going',fls',rfl,a1,a2,a3,a4,a5,a6,a7,a8⟩
     refine jU (yK a4 (by omega) (fun b1=>jC (yK a1 (by omega) (fun b2=>jC (zn (fun e=>?_) (fun e=>?_))) (fun no=>jg (jg (stop _ _ (a8 (fun q=>no q.2.1))))))) (fun no=>jg (jg (stop _ _ (a8 (fun q=>no q.1))))))
     ·have:60<fls'.length:=by have:=of_decide_eq_true e;simp only [List.length_map] at this;omega
      exact stop _ _ (a8 (fun q=>by have:=q.2.2;omega))
     ·have h6:fls'.length≤60:=by have:=of_decide_eq_false e;simp only [List.length_map] at this;omega
      exact zz (by omega) (by omega) (hn hlt _ ⟨by simp,by omega,fls',going',left',rfl,rfl,rfl,⟨a1,b2⟩,⟨a6,h6⟩,⟨a4,b1⟩,a7 b1 b2 h6⟩)
    intro K hK
    have hfl4:=o1.2
    have hml4:=o2.2
    refine zdz (fun t=>t=decide (r.xAction=1∨r.xAction=2)) ?_ (fun K2 hK2=>?_)
    rotate_left
    ·have hK2:=hK2 _ rfl
     refine zn (fun e=>?_) (fun e=>?_)
     ·rw [e];rw [decide_eq_true (.inl (of_decide_eq_true e))] at hK2;exact hK2
     ·have n1:=of_decide_eq_false e
      rw [show decide (r.xAction=2)=decide (r.xAction=1∨r.xAction=2) from decide_eq_decide.2 ⟨.inr,fun q=>q.resolve_left n1⟩];exact hK2
    rintro _ rfl
    refine zn (fun e=>?_) (fun e=>?_)
    ·have ha:=of_decide_eq_true e
     rw [if_pos ha] at he
     refine zU fit.length (fun s=>s.2) (fun j (st:List zG×Int)=>st.2=(j:Int)∧j≤fit.length∧st.1=(fls++dec (fit.take j) (decide (r.xAction=1))).map gf) (fun k s h=>h.1) (fun k s h=>h.2.1) ?_ ⟨rfl,by omega,by simp [dec]⟩
     rintro j2 ⟨_,_⟩ next3 ⟨rfl,hj2,hx2⟩ hn3
     simp only at hx2
     subst hx2
     refine zn (fun hc3=>?_) (fun hc3=>?_)
     ·have hjl:j2<fit.length:=by simpa using hc3
      refine jU (zq j2 rfl (by simpa using hjl) ?_)
      rw [List.getElem_map]
      refine js (by simp only [List.length_map,List.length_append,zcp,List.length_take,List.length_singleton];omega) (zz (by omega) (by omega) (hn3 hjl _ ⟨by simp,by omega,?_⟩))
      simp only [dec,List.take_succ_eq_append_getElem hjl,List.map_append,List.map_cons,List.map_nil,List.append_assoc]
      rfl
     ·have hjge:fit.length≤j2:=by simpa using hc3
      rw [List.take_of_length_le hjge]
      refine hK _ ⟨left,miss,_,rfl,hlB,hlO.1,by omega,hmB,by omega,zfa hfI (ze9 hfB o1.1),fun _ _ q=>?_,fun q=>?_⟩
      ·rw [if_pos q] at he;exact he
      ·rw [if_neg (fun q2=>q ⟨o2,hlO,q2⟩)] at he;exact he
    have n12:=of_decide_eq_false e
    rw [if_neg n12] at he
    refine zn (fun e4=>?_) (fun e4=>?_)
    ·rw [if_pos (of_decide_eq_true e4)] at he
     refine js (by simp only [List.length_map];omega) ?_
     refine hK _ ⟨left++fit,miss,fls,by rw [List.map_append],UX.2 ⟨hlB,hfB⟩,yq.2 ⟨hlO.1,o1.1⟩,by rw [List.length_append];omega,hmB,by omega,hfI,fun _ _ _=>he,fun q=>?_⟩
     rw [he]
     exact zfn (Nat.lt_of_not_le (fun q2=>q ⟨o2,⟨yq.2 ⟨hlO.1,o1.1⟩,q2⟩,hf60⟩))
    ·rw [if_neg (of_decide_eq_false e4)] at he
     refine zn (fun e3=>?_) (fun e3=>?_)
     ·have h3:=of_decide_eq_true e3
      rw [if_pos h3] at he
      obtain ⟨c0,c1⟩:=hcall h3
      obtain ⟨j,hj⟩:=Int.eq_ofNat_of_zero_le c0
      have hca:=za4 hmc h3 c0
      rw [hj] at he hca c1 ⊢
      have hj':((j:Int)).toNat=j:=by simp
      rw [hj'] at he
      refine ih j fit fls _ (hh j (by simpa using hca)) (by omega) hfB o1 hfI hf60 ?_
      cases hU:U s.xChains j fit fls with
      | none =>
       rw [hU] at he
       intro l o
       exact jg (stop _ _ he)
      | some bo =>
       obtain ⟨b,o⟩:=bo
       rw [hU] at he
       obtain ⟨u1,u2,u3,u4⟩:=zla htv j hfB o1 hfI hf60 _ _ hU
       have hu4:=u2.2
       simp only at he
       refine zkh (jC (js (by simp only [List.length_map];omega) ?_))
       refine hK _ ⟨left,miss++b,o,by rw [List.map_append],hlB,hlO.1,by omega,UX.2 ⟨hmB,u1⟩,by rw [List.length_append];omega,u3,fun q _ _=>?_,fun q=>?_⟩
       ·rw [if_pos q] at he;exact he
       ·rw [if_neg (fun q2=>q ⟨q2,hlO,u4⟩)] at he;exact he
     ·rw [if_neg (of_decide_eq_false e3)] at he
      refine js (by simp only [List.length_map];omega) ?_
      refine hK _ ⟨left,miss++fit,fls,by rw [List.map_append],hlB,hlO.1,by omega,UX.2 ⟨hmB,hfB⟩,by rw [List.length_append];omega,hfI,fun q _ _=>?_,fun q=>?_⟩
      ·rw [if_pos q] at he;exact he
      ·rw [if_neg (fun q2=>q ⟨q2,hlO,hf60⟩)] at he;exact he
  ·have hge:c.length≤k:=by simpa using hc
   rw [List.drop_of_length_le hge] at he
   unfold url at he
   rw [he] at h
   refine js (by simp only [List.length_map];omega) ?_
   rw [← List.map_append]
   refine yK (UX.2 ⟨hlB,hgB⟩) (by rw [List.length_append];omega) (fun q=>?_) (fun q=>?_)
   ·rw [if_pos q] at h;exact h
   ·rw [if_neg q] at h;exact h _ _
end
section
open Go Go.Proofs
theorem zam {s:zL} (hb:Bd s) {κ:zL→Prop} (h:κ s):yD s κ:=by
 unfold yD Xt
 refine VS s.xChains id hb.1 (fun x ψ=>Zf x ψ) (fun x ψ hx hψ=>?_) (by simpa using h) _ (fun nx xs t hh=>hh)
 obtain ⟨h1,h2⟩:=hb.2 x hx
 unfold Zf
 refine VS x id h1 (fun y ψ=>XS y ψ) (fun y ψ hy hψ=>?_) (by simpa using hψ) _ (fun nx xs t hh=>hh)
 unfold XS
 exact js (by have:=h2 y hy;simpa using this) hψ
theorem zeC {s:zL} (hb:Bd s) {κ:List zG×Bool→Prop} (h1:SV s→∀ l,uf s=some l→κ (l.map gf,true)) (h2:(SV s→uf s=none)→κ ([],false)):Ue s κ:=by
 unfold Ue
 refine zam hb (zaP hb (fun b hbv=>zn (fun e=>h2 (fun q=>?_)) (fun e=>zdG ?_)))
 ·rw [hbv.2 q] at e;cases e
 have hv:SV s:=hbv.1 (by simpa using e)
 refine ⟨jN s.xChains+1,zlj hv _ 0 [Zq] [] _ (zeG hv.2.2 0) hv.2.1 zfg zcj VK (by simp) ?_⟩
 have h1:=h1 hv
 unfold uf at h1 h2
 cases hU:U s.xChains 0 [Zq] [] with
 | none=>rw [hU] at h2;exact fun l o=>jg (h2 (fun _=>rfl))
 | some bo =>
  obtain ⟨b,o⟩:=bo
  rw [hU] at h1
  exact jC (h1 o rfl)
end
section
open Go Go.Proofs
def wdN (l:List zk):Nat→List zk
 | 0=>[]
 | k+1=>wdN l k++(match l[k]? with | some f=>if dd l k then [] else [f] | none=>[])
def wdF (l:List zk):List zk:=wdN l l.length
theorem zbx (l:List zk):∀ k,(wdN l k).length≤k∧∀ f∈wdN l k,f∈l
 | 0=>by simp [wdN]
 | k+1=>by
  obtain ⟨h1,h2⟩:=zbx l k
  unfold wdN
  cases e:l[k]? with
  | none=>simp only [List.append_nil];exact ⟨by omega,h2⟩
  | some f =>
   simp only
   split
   ·simp only [List.append_nil];exact ⟨by omega,h2⟩
   ·refine ⟨by rw [List.length_append];simp;omega,fun g hg=>?_⟩
    rcases List.mem_append.1 hg with q | q
    ·exact h2 g q
    ·rw [List.mem_singleton] at q;subst q;exact List.mem_of_getElem? e
theorem zfX (l:List zk):(wdF l).length≤l.length:=(zbx l _).1
theorem zbf {l:List zk} (h:IV l):IV (wdF l):=fun f hf=>h f ((zbx l _).2 f hf)
theorem zhm {l:List zk} {k:Nat} (hk:k<l.length) (h:dd l k=true):wdN l (k+1)=wdN l k:=by
 show wdN l k++_=_
 rw [List.getElem?_eq_getElem hk];simp [h]
theorem ziB {l:List zk} {k:Nat} (hk:k<l.length) (h:dd l k=false):wdN l (k+1)=wdN l k++[l[k]]:=by
 show wdN l k++_=_
 rw [List.getElem?_eq_getElem hk];simp [h]
theorem zeD {l:List zk} (hl:l.length≤100000) (hv:IV l) {κ:List zk→Prop} (h:κ (wdF l)):ZM l κ:=by
 unfold ZM
 refine ziv hl hv (zdT 0 rfl (by omega) (by omega) ?_)
 have rem0:zkS l=((List.range l.length).drop 0).filter (dd l):=rfl
 rw [rem0]
 refine zU l.length (fun s=>s.2.2) (fun k (s:List Int×List zk×Int)=>s.2.2=(k:Int)∧k≤l.length∧s.1=(((List.range l.length).drop k).filter (dd l)).map Int.ofNat∧s.2.1=wdN l k) (fun k s h=>h.1) (fun k s h=>h.2.1) ?_ ⟨rfl,by omega,rfl,rfl⟩
 rintro k ⟨_,_,_⟩ next ⟨rfl,hk,hx,hy⟩ hn
 simp only at hx hy
 subst hx hy
 refine zn (fun hc=>?_) (fun hc=>?_)
 ·have hlt:k<l.length:=by simpa using hc
  have hd:(List.range l.length).drop k=k :: (List.range l.length).drop (k+1):=by
   rw [List.drop_eq_getElem_cons (by simpa using hlt)];simp
  have hwl:=(zbx l k).1
  have hfl:∀ m,((((List.range l.length).drop m).filter (dd l)).map Int.ofNat).length≤l.length:=fun m=>by
   rw [List.length_map]
   refine Nat.le_trans (List.length_filter_le _ _) ?_
   rw [List.length_drop,List.length_range];omega
  refine jU (zq k rfl hlt (jU ?_))
  have nxt:∀ ws,ws=wdN l (k+1)→jA (k:Int) 1 (fun t188=>next ((((List.range l.length).drop (k+1)).filter (dd l)).map Int.ofNat,ws,t188)):=fun ws hw=>zz (by omega) (by omega) (hn hlt _ ⟨by simp,by omega,rfl,hw⟩)
  have app:dd l k=false→jJ (wdN l k) [l[k]] (fun _=>jA (k:Int) 1 (fun t188=>next ((((List.range l.length).drop (k+1)).filter (dd l)).map Int.ofNat,wdN l k++[l[k]],t188))):=fun q=>js (by simp;omega) (nxt _ (ziB hlt q).symm)
  by_cases q:dd l k=true
  ·have e:((List.range l.length).drop k).filter (dd l)=k :: ((List.range l.length).drop (k+1)).filter (dd l):=by rw [hd,List.filter_cons,if_pos q]
   rw [e]
   refine zn (fun _=>zq 0 rfl (by simp) ?_) (fun e2=>by simp at e2)
   refine zn (fun _=>?_) (fun e2=>by simp at e2)
   refine ⟨by omega,by simp;omega,by omega,?_⟩
   have e3:(List.take (((k :: ((List.range l.length).drop (k+1)).filter (dd l)).map Int.ofNat).length:Int).toNat ((k :: ((List.range l.length).drop (k+1)).filter (dd l)).map Int.ofNat)).drop (1:Int).toNat=(((List.range l.length).drop (k+1)).filter (dd l)).map Int.ofNat:=by
    rw [Int.toNat_natCast,List.take_length];rfl
   rw [e3]
   exact nxt _ (zhm hlt q).symm
  ·have q':dd l k=false:=by simpa using q
   have e:((List.range l.length).drop k).filter (dd l)=((List.range l.length).drop (k+1)).filter (dd l):=by rw [hd,List.filter_cons,if_neg q]
   rw [e]
   refine zn (fun e2=>?_) (fun e2=>jC (app q'))
   have hpos:0<((((List.range l.length).drop (k+1)).filter (dd l)).map Int.ofNat).length:=by have:=of_decide_eq_true e2;omega
   refine zq 0 rfl hpos ?_
   have hm:((((List.range l.length).drop (k+1)).filter (dd l)).map Int.ofNat)[0]∈(((List.range l.length).drop (k+1)).filter (dd l)).map Int.ofNat:=List.getElem_mem hpos
   obtain ⟨j,hj,ej⟩:=List.mem_map.1 hm
   have hj2:=(List.mem_filter.1 hj).1
   have hjk:k+1≤j:=by
    rw [List.mem_drop_iff_getElem] at hj2
    obtain ⟨m,_,hm2⟩:=hj2
    simp at hm2;omega
   refine zn (fun e3=>?_) (fun _=>app q')
   have e3':=of_decide_eq_true e3
   rw [← ej] at e3'
   have:(j:Int)=(k:Int):=e3'
   omega
 ·have hge:l.length≤k:=by simpa using hc
  have:k=l.length:=by omega
  subst this
  exact h
theorem ziE {a:za} (h:B4 a):in4 a a=true:=by
 have z:∀ {l:List zg} {t:Int},St l t→xF l l t=[]:=fun {l t} hs=>by
  have hn:=Vm hs hs
  cases e:xF l l t with
  | nil=>rfl
  | cons x r =>
   have hx:=U7 hn.1 (show x∈xF l l t by rw [e];simp)
   have:=(UL hs hs).1 hx.1
   exact absurd this.1 this.2
 obtain ⟨h0,h1,h2,h3⟩:=h
 simp [in4,zeN,zbI,z h0,z h1,z h2,z h3]
theorem zbz {a b:List zg} {t:Int} (ha:St a t) (hb:St b t):xF a b t=[]↔∀ x,hv a x→hv b x:=by
 constructor
 ·intro h x hx
  by_cases q:hv b x
  ·exact q
  ·have:=(UL ha hb).2 ⟨hx,q⟩
   rw [h] at this;exact absurd this (uP _)
 ·intro h
  have hn:=Vm ha hb
  cases e:xF a b t with
  | nil=>rfl
  | cons x r =>
   have hx:=U7 hn.1 (show x∈xF a b t by rw [e];simp)
   have:=(UL ha hb).1 hx.1
   exact absurd (h _ this.1) this.2
theorem zgH {a:List zg} {t:Int} (h:St a t):a≠[]→∃ x,hv a x:=fun q=>by
 cases a with
 | nil=>exact absurd rfl q
 | cons s r=>exact ⟨s.xLo,(U7 h.1 (by simp)).1⟩
theorem zkj {a b:List zg} (h:∃ x,hv a x∧hv b x):zZ a b≠[]:=fun e=>by
 obtain ⟨x,h1,h2⟩:=h
 have:=(YO a b x).2 ⟨h1,h2⟩
 rw [e] at this;exact uP _ this
theorem zl2 {a:za}:em4 a=true↔a.x0=[]∨a.x1=[]∨a.x2=[]∨a.x3=[]:=by unfold em4;exact decide_eq_true_iff
theorem zhF {a:za}:em4 a=false↔a.x0≠[]∧a.x1≠[]∧a.x2≠[]∧a.x3≠[]:=by unfold em4;rw [decide_eq_false_iff_not];simp only [not_or,ne_eq]
theorem zhg {a b:za} (ha:B4 a) (hb:B4 b):XT a b=[]↔in4 a b=true:=by
 obtain ⟨p0,p1,p2,p3⟩:=ha
 obtain ⟨q0,q1,q2,q3⟩:=hb
 have hless:zeN a b=zbI↔(xF a.x0 b.x0 65535=[]∧xF a.x1 b.x1 65535=[]∧xF a.x2 b.x2 255=[]∧xF a.x3 b.x3 7=[]):=by
  simp [zeN,zbI]
 unfold XT in4
 by_cases e:em4 (xt a b)=true
 ·rw [if_pos e]
  by_cases e2:em4 a=true
  ·simp [e2]
  ·have e2':em4 a=false:=by simpa using e2
   simp only [e2',Bool.false_eq_true,if_false,Bool.false_or,decide_eq_true_eq]
   refine ⟨fun h=>by simp at h,fun h=>?_⟩
   obtain ⟨l0,l1,l2,l3⟩:=hless.1 h
   rw [zbz p0 q0] at l0
   rw [zbz p1 q1] at l1
   rw [zbz p2 q2] at l2
   rw [zbz p3 q3] at l3
   exfalso
   rw [zhF] at e2'
   rw [zl2] at e
   have g:∀ {x y:List zg} {t:Int},St x t→x≠[]→(∀ v,hv x v→hv y v)→zZ x y≠[]:=fun hx hne hh=>by
    obtain ⟨v,hv1⟩:=zgH hx hne
    exact zkj ⟨v,hv1,hh v hv1⟩
   rcases e with e | e | e | e
   ·exact g p0 e2'.1 l0 e
   ·exact g p1 e2'.2.1 l1 e
   ·exact g p2 e2'.2.2.1 l2 e
   ·exact g p3 e2'.2.2.2 l3 e
 ·rw [if_neg e]
  have e2:em4 a=false:=by
   have e':em4 (xt a b)=false:=by simpa using e
   rw [zhF] at e' ⊢
   refine ⟨fun q=>e'.1 (by simp only [xt];rw [q];rfl),fun q=>e'.2.1 (by simp only [xt];rw [q];rfl),fun q=>e'.2.2.1 (by simp only [xt];rw [q];rfl),fun q=>e'.2.2.2 (by simp only [xt];rw [q];rfl)⟩
  simp only [e2,Bool.false_or,decide_eq_true_eq,hless]
  have hp:∀ (r:List zg) (c:za),pc r c=[]↔r=[]:=fun r c=>by unfold pc;split <;> simp [*]
  simp only [List.append_eq_nil_iff,hp,and_assoc]
def zca (a b:za):List Nat:=(List.range 4).filter (fun n=>decide (uq a n≠uq b n))
def uni (a b:za) (n:Nat):List zg:=XK (uq a n) (uq b n)
def mg (a b:za):Option za :=
 if in4 a b then some b else if in4 b a then some a else
 match zca a b with
 | [n]=>if (uni a b n).length≤40 then some (YK a n (uni a b n)) else none
 | _=>none
theorem zfI {a b:za} {n:Nat} (h:zca a b=[n]):n<4∧uq a n≠uq b n:=by
 have:n∈zca a b:=by rw [h];simp
 obtain ⟨h1,h2⟩:=List.mem_filter.1 this
 exact ⟨by simpa using h1,by simpa using h2⟩
theorem zlY {a b x:za} (ha:B4 a∧F4 a) (hb:B4 b∧F4 b) (h:mg a b=some x):B4 x∧F4 x:=by
 unfold mg at h
 split at h
 ·injection h with h;subst h;exact hb
 ·split at h
  ·injection h with h;subst h;exact ha
  ·split at h
   ·rename_i n hn
    obtain ⟨h4,_⟩:=zfI hn
    split at h
    ·rename_i hl
     injection h with h;subst h
     have k0:(0:Int)≤n:=by omega
     have k3:(n:Int)≤3:=by omega
     exact ⟨zhN ha.1 k0 k3 (zcN (Yd ha.1 k0 k3) (Yd hb.1 k0 k3)),zft (zhl (zgk.1 ha.2) k0 k3 hl (Nat.le_refl _))⟩
    ·cases h
   ·cases h
theorem zhU {a b:List zg} (hl:a.length≤4294967296) {κ:Bool→Prop} (h:κ (decide (a=b))):jS a b κ:=by
 unfold jS
 by_cases hab:a.length=b.length
 ·refine zn (fun e=>by simp [hab] at e) (fun _=>?_)
  exact zhy a b hab hl (fun x y A=>ifW (!(decide (x=y))) (κ false) A) (fun x y A h1 h2=>zn (fun e=>h2 (by simpa using e)) (fun e=>h1 (by simpa using e))) h _ (fun nx t hh=>hh)
 ·rw [decide_eq_false (fun q=>hab (by rw [q]))] at h
  exact zn (fun _=>h) (fun e=>by simp at e;omega)
def UQ (a b:za) (k:Nat):List Nat:=(List.range k).filter (fun n=>decide (uq a n≠uq b n))
theorem Ym (a b:za) (k:Nat):UQ a b (k+1)=UQ a b k++(if uq a k≠uq b k then [k] else []):=by
 unfold UQ
 rw [List.range_succ,List.filter_append,List.filter_cons]
 by_cases h:uq a k=uq b k <;> simp [h]
theorem zic (a b:za):∀ k,(UQ a b k).length≤k:=fun k=>Nat.le_trans (List.length_filter_le _ _) (by simp)
def zmu:Option za→za×Bool
 | some x=>(x,true)
 | none=>(zbI,false)
theorem ze6 {a b:za} (ha:B4 a∧F4 a) (hb:B4 b∧F4 b) {κ:za×Bool→Prop} (h:κ (zmu (mg a b))):u5 a b κ:=by
 unfold u5
 unfold mg at h
 refine zgg ha.1 hb.1 (zn (fun e=>?_) (fun e=>zgg hb.1 ha.1 (zn (fun e2=>?_) (fun e2=>?_))))
 ·rw [if_pos e] at h;exact h
 ·rw [if_neg (by simp [e]),if_pos e2] at h;exact h
 rw [if_neg (by simp [e]),if_neg (by simp [e2])] at h
 refine zU 4 (fun s=>s.2.2) (fun k (s:Int×Int×Int)=>s.2.2=(k:Int)∧k≤4∧s.2.1=((UQ a b k).length:Int)∧∀ n,(UQ a b k).getLast?=some n→s.1=(n:Int)) (fun k s h=>h.1) (fun k s h=>h.2.1) ?_ ⟨rfl,by omega,rfl,fun n hn=>by simp [UQ] at hn⟩
 rintro k ⟨f,cn,_⟩ next ⟨rfl,hk,hcn,hf⟩ hn
 simp only at hcn hf
 subst hcn
 have hdl:=zic a b k
 refine zn (fun hc=>?_) (fun hc=>?_)
 ·have hlt:k<4:=by
   have:(k:Int)<4:=of_decide_eq_true hc
   omega
  have k0:(0:Int)≤k:=by omega
  have k3:(k:Int)≤3:=by omega
  refine jU (jU (yS k0 k3 (yS k0 k3 (zhU (by have:=zgk.1 ha.2 k k0 k3;omega) (zn (fun e=>?_) (fun e=>?_))))))
  ·have hne:uq a k≠uq b k:=by simpa using e
   refine zz (by omega) (by omega) (zz (by omega) (by omega) (hn hlt _ ⟨by simp,by omega,?_,fun n hnn=>?_⟩))
   ·rw [Ym,if_pos hne];simp
   ·rw [Ym,if_pos hne] at hnn
    simp at hnn;simp only;omega
  ·have hne:¬ uq a k≠uq b k:=by simpa using e
   refine zz (by omega) (by omega) (hn hlt _ ⟨by simp,by omega,?_,fun n hnn=>?_⟩)
   ·rw [Ym,if_neg hne];simp
   ·rw [Ym,if_neg hne,List.append_nil] at hnn
    exact hf n hnn
 ·have hge:k=4:=by
   have:¬ (k:Int)<4:=of_decide_eq_false hc
   omega
  subst hge
  have ed:UQ a b 4=zca a b:=rfl
  rw [ed] at hf ⊢
  refine zn (fun e3=>?_) (fun e3=>?_)
  ·have h1:¬ (zca a b).length=1:=by
    have:¬ ((zca a b).length:Int)=1:=by simpa using e3
    omega
   have:κ (zbI,false):=by
    split at h
    ·rename_i n hn';rw [hn'] at h1;simp at h1
    ·exact h
   exact this
  ·have h1:(zca a b).length=1:=by
    have:((zca a b).length:Int)=1:=by simpa using e3
    omega
   obtain ⟨n,hn'⟩:=List.length_eq_one_iff.1 h1
   rw [hn'] at h hf
   have hfn:=hf n rfl
   subst hfn
   obtain ⟨h4,_⟩:=zfI hn'
   have k0:(0:Int)≤n:=by omega
   have k3:(n:Int)≤3:=by omega
   have tl:=zay n
   refine jU (yS k0 k3 (yS k0 k3 (Zp k0 k3 (zfP (Yd ha.1 k0 k3) (Yd hb.1 k0 k3) (by omega) (by omega) ?_))))
   simp only at h
   by_cases hl:(uni a b n).length≤40
   ·rw [if_pos hl] at h
    have el:lim (XK (uq a n) (uq b n))=(uni a b n,true):=by unfold lim;rw [if_neg (by unfold uni at hl;omega)];rfl
    rw [el]
    refine jC (yS k0 k3 ⟨_,_,_,_,U9 k0 k3,h⟩)
   ·rw [if_neg hl] at h
    have el:lim (XK (uq a n) (uq b n))=([],false):=by unfold lim;rw [if_pos (by unfold uni at hl;omega)]
    rw [el]
    exact jg h
end
section
open Go Go.Proofs
def pm (x y:zk):Option zk:=if x.xAccept=y.xAccept then (mg x.xWhere y.xWhere).map (fun w=>⟨w,x.xAccept⟩) else none
def pmA (l:List zk) (k:Nat):Option zk:=match l[k]?,l[k+1]? with | some x,some y=>pm x y | _,_=>none
def fpN (l:List zk):Nat→Option (Nat×zk)
 | 0=>none
 | n+1=>match fpN l n with | some r=>some r | none=>(pmA l n).map (fun z=>(n,z))
def fp (l:List zk):Option (Nat×zk):=fpN l l.length
def VG (l:List zk) (k:Nat) (z:zk):List zk:=l.take k++[z]++l.drop (k+2)
def mgN:Nat→List zk→List zk
 | 0,l=>l
 | n+1,l=>match fp l with | none=>l | some (k,z)=>mgN n (VG l k z)
def mgF (l:List zk):List zk:=mgN l.length l
theorem zcG {l:List zk} {k:Nat} {z:zk} (h:pmA l k=some z):k+1<l.length:=by
 unfold pmA at h
 split at h
 ·rename_i x y h1 h2;exact (List.getElem?_eq_some_iff.1 h2).1
 ·cases h
theorem zjy {l:List zk} {k:Nat} (h:l.length≤k+1):pmA l k=none:=by
 cases e:pmA l k with
 | none=>rfl
 | some z=>have:=zcG e;omega
theorem zfJ {l:List zk} {k:Nat} (h:k+1<l.length):pmA l k=pm l[k] l[k+1]:=by
 unfold pmA
 rw [List.getElem?_eq_getElem (by omega:k<l.length),List.getElem?_eq_getElem h]
theorem zdu {l:List zk}:∀ {n:Nat},(∀ j,j<n→pmA l j=none)→fpN l n=none
 | 0,_=>rfl
 | n+1,h=>by
  unfold fpN
  rw [zdu (fun j hj=>h j (by omega))]
  simp [h n (by omega)]
theorem zgl {l:List zk} {k:Nat} {z:zk} (h1:∀ j,j<k→pmA l j=none) (h2:pmA l k=some z):∀ {n:Nat},k<n→fpN l n=some (k,z)
 | 0,h=>by omega
 | n+1,h=>by
  unfold fpN
  by_cases e:k=n
  ·subst e;rw [zdu h1,h2];rfl
  ·rw [zgl h1 h2 (by omega)]
theorem zht {l:List zk} (h:∀ j,pmA l j=none):fp l=none:=zdu (fun j _=>h j)
theorem zdh {l:List zk} {k:Nat} {z:zk} (h1:∀ j,j<k→pmA l j=none) (h2:pmA l k=some z):fp l=some (k,z):=zgl h1 h2 (by have:=zcG h2;omega)
theorem zaJ {l:List zk} {k:Nat} {z:zk} (h:k+1<l.length):(VG l k z).length=l.length - 1:=by
 unfold VG
 simp only [List.length_append,List.length_take,List.length_singleton,List.length_drop];omega
theorem zgx {l:List zk} (h:∀ j,pmA l j=none):mgF l=l:=by
 unfold mgF
 cases e:l.length with
 | zero=>rfl
 | succ n=>unfold mgN;rw [zht h]
theorem zgt {l:List zk} {k:Nat} {z:zk} (h1:∀ j,j<k→pmA l j=none) (h2:pmA l k=some z):mgF l=mgF (VG l k z):=by
 have hk:=zcG h2
 have hl:=zaJ (z:=z) hk
 unfold mgF
 rw [hl]
 obtain ⟨n,hn⟩:∃ n,l.length=n+1:=⟨l.length - 1,by omega⟩
 rw [hn]
 conv=>lhs;unfold mgN
 rw [zdh h1 h2]
 rfl
theorem zl9 {x y z:zk} (hx:B4 x.xWhere∧F4 x.xWhere) (hy:B4 y.xWhere∧F4 y.xWhere) (h:pm x y=some z):(B4 z.xWhere∧F4 z.xWhere)∧z.xAccept=x.xAccept:=by
 unfold pm at h
 split at h
 ·cases e:mg x.xWhere y.xWhere with
  | none=>rw [e] at h;cases h
  | some w =>
   rw [e] at h
   simp only [Option.map_some,Option.some.injEq] at h
   subst h
   exact ⟨zlY hx hy e,rfl⟩
 ·cases h
theorem zdZ {l:List zk} {k:Nat} {z:zk} (h:IV l) (h2:pmA l k=some z):IV (VG l k z):=by
 have hk:=zcG h2
 rw [zfJ hk] at h2
 have hz:=zl9 (h _ (List.getElem_mem (by omega))) (h _ (List.getElem_mem hk)) h2
 intro f hf
 unfold VG at hf
 rcases List.mem_append.1 hf with q | q
 ·rcases List.mem_append.1 q with q | q
  ·exact h f (List.mem_of_mem_take q)
  ·rw [List.mem_singleton] at q;subst q;exact hz.1
 ·exact h f (List.mem_of_mem_drop q)
theorem zgP:∀ (n:Nat) {l:List zk},IV l→IV (mgN n l)∧(mgN n l).length≤l.length
 | 0,l,h=>⟨h,Nat.le_refl _⟩
 | n+1,l,h=>by
  unfold mgN
  cases e:fp l with
  | none=>exact ⟨h,Nat.le_refl _⟩
  | some kz =>
   obtain ⟨k,z⟩:=kz
   have hkz:pmA l k=some z:=by
    have:∀ n,fpN l n=some (k,z)→pmA l k=some z:=by
     intro n
     induction n with
     | zero=>intro q;cases q
     | succ n ih =>
      intro q
      unfold fpN at q
      cases e2:fpN l n with
      | some r=>rw [e2] at q;simp only [Option.some.injEq] at q;subst q;exact ih e2
      | none =>
       rw [e2] at q
       cases e3:pmA l n with
       | none=>rw [e3] at q;cases q
       | some z' =>
        rw [e3] at q
        simp only [Option.map_some,Option.some.injEq,Prod.mk.injEq] at q
        obtain ⟨rfl,rfl⟩:=q
        exact e3
    exact this _ e
   have ih:=zgP n (zdZ h hkz)
   have hl:=zaJ (z:=z) (zcG hkz)
   exact ⟨ih.1,by have:=ih.2;simp only;omega⟩
theorem zi3 {l:List zk} (h:IV l):IV (mgF l):=(zgP _ h).1
theorem zfx {l:List zk} (h:IV l):(mgF l).length≤l.length:=(zgP _ h).2
theorem zkf {l:List zk} (hl:l.length≤4294967296) {κ:List zk→Prop} (h:κ l):x7 l κ:=by
 unfold x7
 refine ⟨fun _=>jC (js (by simpa using hl) h),fun e=>?_⟩
 subst e
 exact ⟨jg h,jC (js (by simp) h)⟩
theorem ziz {l:List zk} {i:Nat} (h:i+2≤l.length) {κ:List zk→Prop} (hκ:κ (l.take (i+1)++l.drop (i+2))):xW l ((i:Int)+1) ((i:Int)+2) κ:=by
 refine ⟨by omega,by omega,by omega,?_⟩
 rw [show ((i:Int)+1).toNat=i+1 by omega,show ((i:Int)+2).toNat=i+2 by omega]
 exact hκ
theorem zkc {l:List zk} {i:Nat} (h:i+1<l.length) (z:zk):(l.set i z).take (i+1)++(l.set i z).drop (i+2)=VG l i z:=by
 unfold VG
 rw [List.take_succ_eq_append_getElem (by simp;omega),List.take_set_of_le (by omega),List.drop_set_of_lt (by omega)]
 simp
theorem zie {l:List zk} {i j:Nat} {z:zk} (h:i+1<l.length) (hj:j+1<i):pmA (VG l i z) j=pmA l j:=by
 unfold pmA
 have e:∀ m,m<i→(VG l i z)[m]?=l[m]?:=fun m hm=>by
  unfold VG
  rw [List.append_assoc,List.getElem?_append_left (by rw [List.length_take];omega),List.getElem?_take,if_pos hm]
 rw [e j (by omega),e (j+1) hj]
theorem zbR {l:List zk} (hl:l.length≤100000) (hv:IV l) {κ:List zk→Prop} (h:κ (mgF l)):yH l κ:=by
 unfold yH
 refine zkf (by omega) ?_
 refine yV (fun (s:List zk×Int)=>∃ i:Nat,s.2=(i:Int)∧i≤s.1.length∧s.1.length≤100000∧IV s.1∧(∀ j,j<i→pmA s.1 j=none)∧mgF s.1=mgF l) (fun s=>2 * s.1.length - s.2.toNat) ?_ ⟨0,rfl,by omega,hl,hv,fun j hj=>by omega,rfl⟩
 rintro ⟨xs,_⟩ next ⟨i,rfl,hi,hxl,hxv,hno,hm⟩ hn
 simp only at hi hxl hxv hno hm hn
 refine zz (by omega) (by omega) (zn (fun hc=>?_) (fun hc=>?_))
 ·have hlt:i+1<xs.length:=by have:=of_decide_eq_true hc;omega
  have hxi:=hxv _ (List.getElem_mem (show i<xs.length by omega))
  have hxj:=hxv _ (List.getElem_mem hlt)
  have hpm:=zfJ hlt
  have w64e:w64 ((i:Int)+1)=((i+1:Nat):Int):=by rw [zjn (by omega) (by omega)];omega
  have stepNo:pmA xs i=none→jA (i:Int) 1 (fun t153=>next (xs,t153)):=fun q=>zz (by omega) (by omega) (hn _ ⟨i+1,by simp,by simp only;omega,hxl,hxv,fun j hj=>by
   by_cases e:j=i
   ·subst e;exact q
   ·exact hno j (by omega),hm⟩ (by simp only;omega))
  have stepYes:∀ w:za,pmA xs i=some ⟨w,xs[i].xAccept⟩→zK xs (i:Int) (fun e174=>jA (i:Int) 1 (fun t189=>jA (i:Int) 2 (fun t190=>xW (xs.set ((i:Int)).toNat (zk.mk w e174.xAccept)) t189 t190 (fun r191=>Un (i:Int) 1 (fun t194=>next (r191,(max t194 0))))))):=fun w q=>by
   refine zq i rfl (by omega) (zz (by omega) (by omega) (zz (by omega) (by omega) ?_))
   rw [Int.toNat_natCast]
   refine ziz (by rw [List.length_set];omega) ?_
   rw [zkc hlt]
   have hml:=zaJ (l:=xs) (k:=i) (z:=⟨w,xs[i].xAccept⟩) hlt
   refine Xh (by omega) (by omega) (hn _ ⟨i - 1,by simp only;omega,by simp only;omega,by simp only;omega,zdZ hxv q,fun j hj=>?_,?_⟩ (by simp only;omega))
   ·rw [zie hlt (by omega)];exact hno j (by omega)
   ·rw [← zgt hno q];exact hm
  refine jU (zq i rfl (by omega) (zz (by omega) (by omega) (zq (i+1) (by omega) hlt (zn (fun e=>?_) (fun e=>?_)))))
  ·have ea:xs[i].xAccept=xs[i+1].xAccept:=of_decide_eq_true e
   unfold pm at hpm
   rw [if_pos ea] at hpm
   rw [w64e]
   refine jU (zq i rfl (by omega) (zq (i+1) rfl hlt (ze6 hxi hxj ?_)))
   cases em:mg xs[i].xWhere xs[i+1].xWhere with
   | none =>
    rw [em] at hpm
    exact jg (stepNo hpm)
   | some w =>
    rw [em] at hpm
    exact jC ⟨w.x0,w.x1,w.x2,w.x3,rfl,stepYes w hpm⟩
  ·have ea:¬ xs[i].xAccept=xs[i+1].xAccept:=of_decide_eq_false e
   unfold pm at hpm
   rw [if_neg ea] at hpm
   exact jg (stepNo hpm)
 ·have hge:xs.length≤i+1:=by have:=of_decide_eq_false hc;omega
  have:mgF xs=xs:=zgx (fun j=>by
   by_cases e:j<i
   ·exact hno j e
   ·exact zjy (by omega))
  rw [← hm,this] at h
  exact h
def trN (l:List zk) (rest:Bool):Nat→Nat
 | 0=>0
 | n+1=>if (match l[n]? with | some f=>decide (f.xAccept=rest) | none=>false) then trN l rest n else n+1
def trF (l:List zk) (rest:Bool):List zk:=l.take (trN l rest l.length)
theorem zjS (l:List zk) (rest:Bool):(trF l rest).length≤l.length:=by unfold trF;rw [List.length_take];omega
theorem zlB {l:List zk} {rest:Bool} (h:IV l):IV (trF l rest):=fun f hf=>h f (List.mem_of_mem_take hf)
theorem zh5 {l:List zk} {rest:Bool} (hl:l.length≤100000) {κ:List zk→Prop} (h:κ (trF l rest)):YR l rest κ:=by
 unfold YR
 refine yV (fun (s:Int)=>∃ n:Nat,s=(n:Int)∧n≤l.length∧trN l rest l.length=trN l rest n) (fun s=>s.toNat) ?_ ⟨l.length,rfl,Nat.le_refl _,rfl⟩
 rintro _ next ⟨n,rfl,hn',he⟩ hnx
 have fin:trN l rest n=n→uQ l 0 (n:Int) (fun xs73=>κ xs73):=fun q=>by
  refine ⟨by omega,by omega,by omega,?_⟩
  unfold trF at h
  rw [he,q] at h
  simpa using h
 refine jU (zn (fun e=>?_) (fun e=>jC (fin ?_)))
 ·have hpos:0<n:=by have:=of_decide_eq_true e;omega
  obtain ⟨m,rfl⟩:∃ m,n=m+1:=⟨n - 1,by omega⟩
  have hlt:m<l.length:=by omega
  have em:((m+1:Nat):Int) - 1=(m:Int):=by omega
  refine Xh (by omega) (by omega) ?_
  rw [em]
  refine zq m rfl hlt (zn (fun e2=>?_) (fun e2=>fin ?_))
  ·have e2':l[m].xAccept=rest:=of_decide_eq_true e2
   refine Xh (by omega) (by omega) (hnx _ ⟨m,by omega,by omega,?_⟩ (by omega))
   rw [he]
   conv=>lhs;unfold trN
   rw [List.getElem?_eq_getElem hlt]
   simp [e2']
  ·have e2':¬ l[m].xAccept=rest:=of_decide_eq_false e2
   unfold trN
   rw [List.getElem?_eq_getElem hlt]
   simp [e2']
 ·have:n=0:=by have:=of_decide_eq_false e;omega
  subst this;rfl
def sh1 (l:List zk) (rest:Bool):List zk:=trF (mgF (wdF l)) rest
theorem za7 {l:List zk} {rest:Bool} (h:IV l):IV (sh1 l rest):=zlB (zi3 (zbf h))
theorem UE {l:List zk} {rest:Bool} (h:IV l):(sh1 l rest).length≤l.length:=Nat.le_trans (zjS _ _) (Nat.le_trans (zfx (zbf h)) (zfX l))
def shN (rest:Bool):Nat→List zk→List zk
 | 0,l=>sh1 l rest
 | n+1,l=>if (sh1 l rest).length=l.length then sh1 l rest else shN rest n (sh1 l rest)
def shF (l:List zk) (rest:Bool):List zk:=shN rest l.length l
theorem zgV {rest:Bool}:∀ {n:Nat} {l:List zk},IV l→IV (shN rest n l)∧(shN rest n l).length≤l.length
 | 0,l,h=>⟨za7 h,UE h⟩
 | n+1,l,h=>by
  unfold shN
  split
  ·exact ⟨za7 h,UE h⟩
  ·have:=zgV (rest:=rest) (n:=n) (za7 (rest:=rest) h)
   exact ⟨this.1,Nat.le_trans this.2 (UE h)⟩
theorem zlN {l:List zk} {rest:Bool} (h:IV l):IV (shF l rest):=(zgV h).1
theorem zhS {l:List zk} {rest:Bool} (h:IV l):(shF l rest).length≤l.length:=(zgV h).2
theorem zgb {rest:Bool}:∀ {n m:Nat} {l:List zk},IV l→l.length≤n→l.length≤m→shN rest n l=shN rest m l
 | 0,0,l,_,_,_=>rfl
 | 0,m+1,l,h,h1,h2=>by
  have:=UE (rest:=rest) h
  unfold shN
  rw [if_pos (by omega)]
 | n+1,0,l,h,h1,h2=>by
  have:=UE (rest:=rest) h
  conv=>lhs;unfold shN
  rw [if_pos (by omega)]
  rfl
 | n+1,m+1,l,h,h1,h2=>by
  have:=UE (rest:=rest) h
  conv=>lhs;unfold shN
  conv=>rhs;unfold shN
  split
  ·rfl
  ·exact zgb (za7 h) (by omega) (by omega)
theorem zhp {l:List zk} {rest:Bool} (h:IV l):shF l rest=if (sh1 l rest).length=l.length then sh1 l rest else shF (sh1 l rest) rest:=by
 have:=UE (rest:=rest) h
 unfold shF
 cases e:l.length with
 | zero =>
  rw [e] at this
  rw [if_pos (by omega)];rfl
 | succ n =>
  conv=>lhs;unfold shN
  rw [e]
  split
  ·rfl
  ·exact zgb (za7 h) (by omega) (Nat.le_refl _)
theorem zfD {l:List zk} {rest:Bool} (hl:l.length≤100000) (hv:IV l) {κ:List zk→Prop} (h:κ (shF l rest)):Xj l rest κ:=by
 unfold Xj
 refine yV (fun (s:List zk)=>s.length≤100000∧IV s∧shF s rest=shF l rest) (fun s=>s.length) ?_ ⟨hl,hv,rfl⟩
 rintro xs next ⟨hx,hxv,he⟩ hn
 have w1:=zfX xs
 have w2:=zfx (zbf hxv)
 have w3:=UE (rest:=rest) hxv
 refine zeD hx hxv (zbR (by omega) (zbf hxv) (zh5 (by omega) ?_))
 have hf:=zhp (rest:=rest) hxv
 refine zn (fun e=>?_) (fun e=>?_)
 ·have e':((sh1 xs rest).length:Int)=(xs.length:Int):=of_decide_eq_true e
  rw [if_pos (by omega)] at hf
  rw [← he,hf] at h;exact h
 ·have e':¬ ((sh1 xs rest).length:Int)=(xs.length:Int):=of_decide_eq_false e
  rw [if_neg (by omega)] at hf
  exact hn (sh1 xs rest) ⟨by omega,za7 hxv,by rw [← hf];exact he⟩ (by omega)
noncomputable def cf (s:zL):Option (List zk):=(uf s).map (fun l=>shF l s.xAccept)
theorem zmn {s:zL} (h:SV s) {l:List zk} (he:cf s=some l):IV l∧l.length≤60:=by
 unfold cf at he
 cases e:uf s with
 | none=>rw [e] at he;cases he
 | some u =>
  rw [e] at he
  simp only [Option.map_some,Option.some.injEq] at he
  subst he
  obtain ⟨u1,u2⟩:=ziQ h e
  exact ⟨zlN u1,Nat.le_trans (zhS u1) u2⟩
theorem zdC {s:zL} (hb:Bd s) {κ:List zk×Bool→Prop} (h1:SV s→∀ l,cf s=some l→κ (l,true)) (h2:(SV s→cf s=none)→κ ([],false)):u6 s κ:=by
 unfold u6
 refine UD hb (fun b hbv=>zn (fun e=>h2 (fun q=>?_)) (fun e=>?_))
 ·rw [hbv.2 q] at e;cases e
 have hv:SV s:=hbv.1 (by simpa using e)
 refine zey hv (fun l hl=>jC ?_) (fun hn l=>jg (h2 (fun _=>by unfold cf;rw [hn];rfl)))
 obtain ⟨u1,u2⟩:=ziQ hv hl
 exact zfD (by omega) u1 (h1 hv _ (by unfold cf;rw [hl];rfl))
end
section
open Go Go.Proofs
def zlc:Option (List za)→List zM×Bool
 | some l=>(l.map bx,true)
 | none=>([],false)
theorem zeX {a:za} {bs:List za} (ha:B4 a) (hb:aB bs) (hl:bs.length≤100000) {κ:List zM×Bool→Prop} (h:κ (zlc (Xe a bs))):Xu (bx a) (bs.map bx) κ:=by
 unfold Xu
 have start:∀ l0:List za,Xe a bs=lgo l0 bs→aB l0→l0.length≤400→jx (fun (nx88:((List zM)×Int)→Prop) ((xs84,t87):((List zM)×Int))=>ifW (decide (t87<((bs.map bx).length:Int))) (jx (fun (nx97:((List zM)×Int)→Prop) ((xs93,t96):((List zM)×Int))=>ifW (decide (t96<(xs84.length:Int))) (zK xs84 t96 (fun e98=>zK (bs.map bx) t87 (fun e100=>yI e98 e100 (fun r112=>jJ xs93 r112 (fun _=>jA t96 1 (fun t117=>nx97 ((xs93++r112),t117))))))) (xo xs93 (fun r118=>ifW (!r118) (κ ([],false)) (jA t87 1 (fun t122=>nx88 (xs93,t122)))))) ([],0)) (κ (xs84,true))) (l0.map bx,0):=by
  intro l0 h0 hB0 hl0
  refine zU bs.length (fun s=>s.2) (fun k (s:List zM×Int)=>s.2=(k:Int)∧k≤bs.length∧∃ left,s.1=left.map bx∧aB left∧left.length≤400∧Xe a bs=lgo left (bs.drop k)) (fun k s h=>h.1) (fun k s h=>h.2.1) ?_ ⟨rfl,by omega,l0,rfl,hB0,hl0,h0⟩
  rintro k ⟨_,_⟩ next ⟨rfl,hk,left,hx,hB,hll,he⟩ hn
  simp only at hx
  subst hx
  refine zn (fun hc=>?_) (fun hc=>?_)
  rotate_left
  ·have hge:bs.length≤k:=by simpa using hc
   rw [he,List.drop_of_length_le hge] at h
   exact h
  have hlt:k<bs.length:=by simpa using hc
  rw [List.drop_eq_getElem_cons hlt] at he
  have hbk:=hb _ (List.getElem_mem hlt)
  refine zU left.length (fun s=>s.2) (fun j (s:List zM×Int)=>s.2=(j:Int)∧j≤left.length∧s.1=(xN (left.take j) bs[k]).map bx) (fun k s h=>h.1) (fun k s h=>h.2.1) ?_ ⟨rfl,by omega,by simp [xN]⟩
  rintro j ⟨_,_⟩ next2 ⟨rfl,hj,hx⟩ hn2
  simp only at hx
  subst hx
  have hsl:=Vo (left.take j) bs[k]
  rw [List.length_take] at hsl
  refine zn (fun hc2=>?_) (fun hc2=>?_)
  ·have hjl:j<left.length:=by simpa using hc2
   refine zq j rfl (by simpa using hjl) (zq k rfl (by simpa using hlt) ?_)
   rw [List.getElem_map,List.getElem_map]
   have hcl:=zan left[j] bs[k]
   refine zdU (hB _ (List.getElem_mem hjl)) hbk (js (by simp only [List.length_map];omega) (zz (by omega) (by omega) (hn2 hjl _ ⟨by simp,by omega,?_⟩)))
   rw [List.take_succ_eq_append_getElem hjl,Z3,Yv,List.map_append]
  ·have hjge:left.length≤j:=by simpa using hc2
   rw [List.take_of_length_le hjge] at hsl ⊢
   unfold lgo at he
   refine yK (U2 hB hbk) (by omega) (fun ok=>?_) (fun no=>?_)
   ·rw [if_pos ok] at he
    exact jC (zz (by omega) (by omega) (hn hlt _ ⟨by simp,by omega,xN left bs[k],rfl,U2 hB hbk,ok.2,he⟩))
   ·rw [if_neg no] at he
    rw [he] at h
    exact jg h
 refine jU (UW (zn (fun e=>?_) (fun e=>?_)))
 ·refine js (by simp) (start [a] ?_ (fun c hc=>by rw [List.mem_singleton] at hc;subst hc;exact ha) (by simp))
  unfold Xe;rw [if_neg (by simpa using e)]
 ·refine start [] ?_ zfz (by simp)
  unfold Xe;rw [if_pos (by simpa using e),zfY]
theorem Vv {l:List zk} (hv:IV l) (hl:l.length≤60) {κ:List zM→Prop} (h:κ ((whs l).map bx)):ZJ (l.map gf) κ:=by
 have hF:=zc1 hv hl
 unfold ZJ
 refine u7 hF.fb ?_
 refine zU l.length (fun s=>s.2) (fun k (s:List zM×Int)=>s.2=(k:Int)∧k≤l.length∧s.1=(whs (l.take k)).map bx) (fun k s h=>h.1) (fun k s h=>h.2.1) ?_ ⟨rfl,by omega,rfl⟩
 rintro k ⟨_,_⟩ next ⟨rfl,hk,hx⟩ hn
 simp only at hx
 subst hx
 refine jU (zn (fun hc=>?_) (fun hc=>jC ?_))
 ·have hlt:k<l.length:=by simpa using hc
  refine yt hF.fb ?_
  rw [decide_eq_true hF]
  refine jg (zq k rfl (by simpa using hlt) ?_)
  rw [List.getElem_map]
  refine js (by simp [whs];omega) (zz (by omega) (by omega) (hn hlt _ ⟨by simp,by omega,?_⟩))
  simp only [whs,List.take_succ_eq_append_getElem hlt,List.map_append]
  rfl
 ·have hge:l.length≤k:=by simpa using hc
  rw [List.take_of_length_le hge];exact h
theorem zh0 {l:List zk} (hv:IV l) (hl:l.length≤60) {k:Nat} (hk:k<l.length) {κ:Bool→Prop} (h:κ (dd l k)):Yy (l.map gf) k κ:=by
 unfold Yy
 refine zq k rfl (by simpa using hk) ?_
 rw [List.getElem_map]
 refine ⟨by omega,by omega,by simp;omega,?_⟩
 have e:((l.map gf).take (k:Int).toNat).drop (0:Int).toNat=(l.take k).map gf:=by simp [List.map_take]
 rw [e]
 refine Vv (hv.take k) (by rw [List.length_take];omega) ?_
 have hk2:=hv _ (List.getElem_mem hk)
 refine zeX hk2.1 (hv.take k).aB (by unfold whs;simp;omega) ?_
 have hd:=zkN hk
 unfold zhX at hd
 cases hlr:Xe l[k].xWhere (whs (l.take k)) with
 | none =>
  rw [hlr] at hd
  have:dd l k=false:=by rw [hd];simp
  rw [this] at h
  exact jU (jC h)
 | some r =>
  rw [hlr] at hd
  refine jU (jg ?_)
  have e2:decide (((r.map bx).length:Int)=0)=dd l k:=by
   rw [hd]
   refine decide_eq_decide.2 ⟨fun q=>?_,fun q=>?_⟩
   ·rw [List.length_eq_zero_iff.1 (show r.length=0 by simp only [List.length_map] at q;omega)]
   ·injection q with q;subst q;rfl
  rw [e2];exact h
theorem zgX {l:List zk} (hv:IV l) (hl:l.length≤60) {κ:List zG→Prop} (h:κ ((wdF l).map gf)):Yc (l.map gf) κ:=by
 have hF:=zc1 hv hl
 unfold Yc
 refine u7 hF.fb ?_
 refine zU l.length (fun s=>s.2.2) (fun k (s:List zG×List zG×Int)=>s.2.2=(k:Int)∧k≤l.length∧s.1=l.map gf∧s.2.1=(wdN l k).map gf) (fun k s h=>h.1) (fun k s h=>h.2.1) ?_ ⟨rfl,by omega,rfl,rfl⟩
 rintro k ⟨_,_,_⟩ next ⟨rfl,hk,hx,hy⟩ hn
 simp only at hx hy
 subst hx hy
 have hwl:=(zbx l k).1
 refine jU (zn (fun hc=>?_) (fun hc=>jC ?_))
 ·have hlt:k<l.length:=by simpa using hc
  refine yt hF.fb ?_
  rw [decide_eq_true hF]
  refine jg (jU (zh0 hv hl hlt (zn (fun e=>?_) (fun e=>?_))))
  ·have hd:dd l k=false:=by simpa using e
   refine zq k rfl (by simpa using hlt) ?_
   rw [List.getElem_map]
   refine js (by simp;omega) (zz (by omega) (by omega) (hn hlt _ ⟨by simp,by omega,rfl,?_⟩))
   rw [ziB hlt hd,List.map_append];rfl
  ·have hd:dd l k=true:=by simpa using e
   refine zz (by omega) (by omega) (hn hlt _ ⟨by simp,by omega,rfl,?_⟩)
   rw [zhm hlt hd]
 ·have hge:l.length≤k:=by simpa using hc
  have:k=l.length:=by omega
  subst this
  exact h
theorem Vr {a b:za} (ha:B4 a∧F4 a) (hb:B4 b∧F4 b) {κ:Bool→Prop} (h:κ (in4 a b)):ZF (bx a) (bx b) κ:=by
 unfold ZF
 have va:BV (bx a):=zdN.2 ha
 have vb:BV (bx b):=zdN.2 hb
 refine jU (yU va.bb ?_)
 rw [decide_eq_true va]
 refine jg (yU vb.bb ?_)
 rw [decide_eq_true vb]
 refine jg (zdU ha.1 hb.1 ?_)
 have e:decide ((((XT a b).map bx).length:Int)=0)=in4 a b:=by
  have:=zhg ha.1 hb.1
  cases hi:in4 a b with
  | true=>rw [this.2 hi];rfl
  | false =>
   refine decide_eq_false (fun q=>?_)
   have:XT a b=[]:=List.length_eq_zero_iff.1 (by simp only [List.length_map] at q;omega)
   rw [(zhg ha.1 hb.1).1 this] at hi;cases hi
 rw [e];exact h
theorem zhY {a b:List zg} (hl:a.length≤4294967296) {κ:Bool→Prop} (h:κ (decide (a=b))):YT a b κ:=by
 unfold YT
 by_cases hab:a.length=b.length
 ·refine zn (fun e=>by simp [hab] at e) (fun _=>?_)
  exact zhy a b hab hl (fun x y A=>ifW (!(decide (x=y))) (κ false) A) (fun x y A h1 h2=>zn (fun e=>h2 (by simpa using e)) (fun e=>h1 (by simpa using e))) h _ (fun nx t hh=>hh)
 ·rw [decide_eq_false (fun q=>hab (by rw [q]))] at h
  exact zn (fun _=>h) (fun e=>by simp at e;omega)
theorem zbQ {a b:List zg} {tp:Int} (h0:0≤tp) (h1:tp≤65535) (ha:SpV a tp) (hb:SpV b tp) {κ:List zg→Prop} (h:κ (if (XK a b).length≤40 then XK a b else [])):Xf a b tp κ:=by
 unfold Xf
 have la:=ha.1
 have lb:=hb.1
 refine jU (YA (by omega) h0 h1 ?_)
 rw [decide_eq_true ha]
 refine jC (YA (by omega) h0 h1 ?_)
 rw [decide_eq_true hb]
 refine jC (js (by simp;omega) ?_)
 have stp:∀ k,St ((b.take k).foldl zcl a) tp:=fun k=>zcN ha.2 ⟨⟨fun s hs=>hb.2.1.1 s (List.mem_of_mem_take hs),hb.2.1.2.sublist (List.take_sublist _ _)⟩,fun s hs=>hb.2.2 s (List.mem_of_mem_take hs)⟩
 refine zU b.length (fun s=>s.2) (fun k (s:List zg×Int)=>s.2=(k:Int)∧k≤b.length∧s.1=(b.take k).foldl zcl a) (fun k s h=>h.1) (fun k s h=>h.2.1) ?_ ⟨rfl,by omega,by simp⟩
 rintro k ⟨_,_⟩ next ⟨rfl,hk,hx⟩ hn
 simp only at hx
 subst hx
 have hln:=zc2 (b.take k) a
 rw [List.length_take] at hln
 refine zn (fun hc=>?_) (fun hc=>?_)
 ·have hlt:k<b.length:=by simpa using hc
  have hs:=hb.2.2 _ (List.getElem_mem hlt)
  have hs2:=hb.2.1.1 _ (List.getElem_mem hlt)
  refine zq k rfl hlt (zku (by omega) (fun s hs'=>?_) ?_ (zz (by omega) (by omega) (hn hlt _ ⟨by simp,by omega,?_⟩)))
  ·have q1:=(stp k).2 s hs'
   have q2:=(stp k).1.1 s hs'
   unfold Sm;omega
  ·unfold Sm;omega
  ·rw [List.take_succ_eq_append_getElem hlt,List.foldl_append];rfl
 ·have hge:b.length≤k:=by simpa using hc
  rw [List.take_of_length_le hge]
  refine zn (fun e=>?_) (fun e=>?_)
  ·have:¬ (XK a b).length≤40:=by have:=of_decide_eq_true e;unfold XK;omega
   rw [if_neg this] at h;exact h
  ·have:(XK a b).length≤40:=by have:=of_decide_eq_false e;unfold XK;omega
   rw [if_pos this] at h;exact h
def msp:Option za→zM×Bool
 | some x=>(bx x,true)
 | none=>(⟨[]⟩,false)
theorem zis {a b:za} (h:∀ n:Nat,n<4→uq a n=uq b n):a=b:=by
 have h0:a.x0=b.x0:=h 0 (by decide)
 have h1:a.x1=b.x1:=h 1 (by decide)
 have h2:a.x2=b.x2:=h 2 (by decide)
 have h3:a.x3=b.x3:=h 3 (by decide)
 obtain ⟨a0,a1,a2,a3⟩:=a
 obtain ⟨b0,b1,b2,b3⟩:=b
 simp only at h0 h1 h2 h3
 subst h0 h1 h2 h3
 rfl
theorem zjN {a b:za} (ha:B4 a) (h:in4 a b=false):zca a b≠[]:=fun e=>by
 have:a=b:=zis (fun n hn=>by
  by_cases q:uq a n=uq b n
  ·exact q
  ·have:n∈zca a b:=List.mem_filter.2 ⟨by simpa using hn,by simpa using q⟩
   rw [e] at this;simp at this)
 subst this
 rw [ziE ha] at h;cases h
theorem zlJ {a b:za} {tp:Int} {n:Nat} (ha:St (uq a n) tp) (hb:St (uq b n) tp) (h:uq a n≠uq b n):uni a b n≠[]:=fun e=>by
 have hh:=fun x=>zcL ha hb x
 unfold uni at e
 rw [e] at hh
 have na:uq a n=[]:=by
  cases q:uq a n with
  | nil=>rfl
  | cons s r =>
   have:=(U7 ha.1 (show s∈uq a n by rw [q];simp)).1
   exact absurd ((hh _).2 (.inl this)) (uP _)
 have nb:uq b n=[]:=by
  cases q:uq b n with
  | nil=>rfl
  | cons s r =>
   have:=(U7 hb.1 (show s∈uq b n by rw [q];simp)).1
   exact absurd ((hh _).2 (.inr this)) (uP _)
 exact h (by rw [na,nb])
theorem zb0 {a b:za} (ha:B4 a∧F4 a) (hb:B4 b∧F4 b) {κ:zM×Bool→Prop} (h:κ (msp (mg a b))):Zg (bx a) (bx b) κ:=by
 unfold Zg
 unfold mg at h
 have va:BV (bx a):=zdN.2 ha
 have vb:BV (bx b):=zdN.2 hb
 refine jU (yU va.bb ?_)
 rw [decide_eq_true va]
 refine jC (yU vb.bb ?_)
 rw [decide_eq_true vb]
 refine jC (Vr ha hb (zn (fun e=>?_) (fun e=>Vr hb ha (zn (fun e2=>?_) (fun e2=>?_)))))
 ·rw [if_pos e] at h;exact zbl vb.bb h
 ·rw [if_neg (by simp [e]),if_pos e2] at h;exact zbl va.bb h
 rw [if_neg (by simp [e]),if_neg (by simp [e2])] at h
 have hne:=zjN ha.1 e
 have two:∀ {k:Nat},k<4→UQ a b k≠[]→uq a k≠uq b k→κ (⟨[]⟩,false):=fun {k} hk q1 q2=>by
  have hm:zca a b=UQ a b 4:=rfl
  have:2≤(zca a b).length:=by
   have h1:(UQ a b (k+1)).length≤(zca a b).length:=by
    rw [hm];unfold UQ
    exact (List.Sublist.filter _ (List.range_sublist.2 (by omega))).length_le
   rw [Ym,if_pos q2,List.length_append] at h1
   have:=List.length_pos_iff.2 q1
   simp at h1;omega
  split at h
  ·rename_i n hn;rw [hn] at this;simp at this
  ·exact h
 refine zU 4 (fun s=>s.2) (fun k (s:Int×Int)=>s.2=(k:Int)∧k≤4∧((UQ a b k=[]∧s.1=-1)∨∃ n:Nat,UQ a b k=[n]∧s.1=n)) (fun k s h=>h.1) (fun k s h=>h.2.1) ?_ ⟨rfl,by omega,.inl ⟨rfl,rfl⟩⟩
 rintro k ⟨f,_⟩ next ⟨rfl,hk,hf⟩ hn
 simp only at hf
 refine zn (fun hc=>?_) (fun hc=>?_)
 ·have hlt:k<4:=by
   have:(k:Int)<4:=of_decide_eq_true hc
   omega
  have k0:(0:Int)≤k:=by omega
  have k3:(k:Int)≤3:=by omega
  refine jU (yS (a:=a) k0 k3 (yS (a:=b) k0 k3 (zhY (by have:=zgk.1 ha.2 k k0 k3;omega) (zn (fun e=>?_) (fun e=>?_)))))
  ·have hd:uq a k≠uq b k:=by simpa using e
   rcases hf with ⟨q1,rfl⟩ | ⟨n,q1,rfl⟩
   ·refine zn (fun e=>by simp at e) (fun _=>zz (by omega) (by omega) (hn hlt _ ⟨by simp,by omega,.inr ⟨k,?_,rfl⟩⟩))
    rw [Ym,if_pos hd,q1];rfl
   ·exact zn (fun _=>two hlt (by rw [q1];simp) hd) (fun e=>by simp at e)
  ·have hd:¬ uq a k≠uq b k:=by simpa using e
   refine zz (by omega) (by omega) (hn hlt _ ⟨by simp,by omega,?_⟩)
   rw [Ym,if_neg hd,List.append_nil];exact hf
 ·have hge:k=4:=by
   have:¬ (k:Int)<4:=of_decide_eq_false hc
   omega
  subst hge
  have ed:UQ a b 4=zca a b:=rfl
  rw [ed] at hf
  rcases hf with ⟨q1,_⟩ | ⟨n,q1,rfl⟩
  ·exact absurd q1 hne
  rw [q1] at h
  obtain ⟨h4,hd⟩:=zfI q1
  have k0:(0:Int)≤n:=by omega
  have k3:(n:Int)≤3:=by omega
  have tl:=zay n
  have sa:=Yd ha.1 k0 k3
  have sb:=Yd hb.1 k0 k3
  have spa:SpV (uq a n) (top n):=⟨zgk.1 ha.2 _ k0 k3,sa⟩
  have spb:SpV (uq b n) (top n):=⟨zgk.1 hb.2 _ k0 k3,sb⟩
  refine yy (l:=L4 a) (by simp [L4]) (zbn ha.1) (yS (a:=a) k0 k3 (yS (a:=b) k0 k3 (xS k0 k3 (zbQ (by omega) (by omega) spa spb (yS (a:=a) k0 k3 ?_)))))
  have hset:∀ x,(L4 a).set ((n:Int)).toNat x=L4 (YK a n x):=fun x=>U9 k0 k3
  have hget:∀ x,uq (YK a n x) n=x:=fun x=>by rcases zdO k0 k3 with q | q | q | q <;> rw [q] <;> rfl
  simp only at h
  by_cases hl:(uni a b n).length≤40
  ·rw [if_pos hl] at h
   have hl':(XK (uq a n) (uq b n)).length≤40:=hl
   rw [if_pos hl',hset]
   refine yS (a:=YK a n (XK (uq a n) (uq b n))) k0 k3 ?_
   rw [hget]
   refine zn (fun e=>?_) (fun _=>h)
   have:=of_decide_eq_true e
   exact absurd (List.length_eq_zero_iff.1 (show (uni a b n).length=0 by unfold uni;omega)) (zlJ sa sb hd)
  ·rw [if_neg hl] at h
   have hl':¬ (XK (uq a n) (uq b n)).length≤40:=hl
   rw [if_neg hl',hset]
   refine yS (a:=YK a n []) k0 k3 ?_
   rw [hget]
   exact jg h
def ppr:Option (Nat×zk)→Int×zG
 | some (k,z)=>(k,gf z)
 | none=>(-1,⟨⟨[]⟩,false⟩)
theorem zib {l:List zk} (hv:IV l) (hl:l.length≤60) {κ:Int×zG→Prop} (h:κ (ppr (fp l))):YD (l.map gf) κ:=by
 unfold YD
 refine zU (l.length+1) (fun s=>s) (fun k s=>s=(k:Int)∧k≤l.length+1∧∀ j,j<k→pmA l j=none) (fun k s h=>h.1) (fun k s h=>h.2.1) ?_ ⟨rfl,by omega,fun j hj=>by omega⟩
 rintro k _ next ⟨rfl,hk,hno⟩ hn
 refine zz (by omega) (by omega) (zn (fun hc=>?_) (fun hc=>?_))
 ·have hlt:k+1<l.length:=by have:=of_decide_eq_true hc;simp only [List.length_map] at this;omega
  have hpm:=zfJ hlt
  have w64e:w64 ((k:Int)+1)=((k+1:Nat):Int):=by rw [zjn (by omega) (by omega)];omega
  have stepNo:pmA l k=none→jA (k:Int) 1 (fun t110=>next t110):=fun q=>zz (by omega) (by omega) (hn (by omega) _ ⟨by simp,by omega,fun j hj=>by
   by_cases e:j=k
   ·subst e;exact q
   ·exact hno j (by omega)⟩)
  have ix:∀ (m:Nat) (hm:m<l.length) (K:zG→Prop),K (gf l[m])→zK (l.map gf) (m:Int) K:=fun m hm K hK=>zq m rfl (by simpa using hm) (by rw [List.getElem_map];exact hK)
  refine jU (ix k (by omega) _ ?_)
  rw [w64e]
  refine ix (k+1) hlt _ (zb0 (hv _ (List.getElem_mem (by omega))) (hv _ (List.getElem_mem hlt)) ?_)
  unfold pm at hpm
  cases em:mg l[k].xWhere l[k+1].xWhere with
  | none =>
   rw [em] at hpm
   refine jU (jC (jC (stepNo ?_)))
   rw [hpm];split <;> rfl
  | some w =>
   rw [em] at hpm
   refine jU (jg (ix k (by omega) _ (zz (by omega) (by omega) ?_)))
   have e1:(k:Int)+1=((k+1:Nat):Int):=by omega
   rw [e1]
   refine ix (k+1) hlt _ (zn (fun e=>?_) (fun e=>?_))
   ·have ea:l[k].xAccept=l[k+1].xAccept:=of_decide_eq_true e
    rw [if_pos ea] at hpm
    rw [zdh hno hpm] at h
    exact ix k (by omega) _ h
   ·have ea:¬ l[k].xAccept=l[k+1].xAccept:=of_decide_eq_false e
    rw [if_neg ea] at hpm
    exact stepNo hpm
 ·have hge:l.length≤k+1:=by have:=of_decide_eq_false hc;simp only [List.length_map] at this;omega
  rw [zht (fun j=>by
   by_cases e:j<k
   ·exact hno j e
   ·exact zjy (by omega))] at h
  exact h
theorem zj3 {l:List zk} {k:Nat} {z:zk} (h:fp l=some (k,z)):pmA l k=some z∧∀ j,j<k→pmA l j=none:=by
 have:∀ n,fpN l n=some (k,z)→pmA l k=some z∧∀ j,j<k→pmA l j=none:=by
  intro n
  induction n with
  | zero=>intro q;cases q
  | succ n ih =>
   intro q
   unfold fpN at q
   cases e2:fpN l n with
   | some r=>rw [e2] at q;simp only [Option.some.injEq] at q;subst q;exact ih e2
   | none =>
    rw [e2] at q
    cases e3:pmA l n with
    | none=>rw [e3] at q;cases q
    | some z' =>
     rw [e3] at q
     simp only [Option.map_some,Option.some.injEq,Prod.mk.injEq] at q
     obtain ⟨rfl,rfl⟩:=q
     refine ⟨e3,fun j hj=>?_⟩
     have key:∀ m,fpN l m=none→∀ j,j<m→pmA l j=none:=by
      intro m
      induction m with
      | zero=>intro _ j hj;omega
      | succ m ih2 =>
       intro q j hj
       unfold fpN at q
       cases e4:fpN l m with
       | some r=>rw [e4] at q;cases q
       | none =>
        rw [e4] at q
        cases e5:pmA l m with
        | some z5=>rw [e5] at q;cases q
        | none =>
         by_cases e6:j=m
         ·subst e6;exact e5
         ·exact ih2 e4 j (by omega)
     exact key _ e2 j hj
 exact this _ h
theorem zlZ {l:List zk} (h:fp l=none):∀ j,pmA l j=none:=fun j=>by
 cases e:pmA l j with
 | none=>rfl
 | some z =>
  exfalso
  have:∀ n,n≤j→(∀ i,i<n→pmA l i=none)∨∃ i z,i<n∧pmA l i=some z∧∀ m,m<i→pmA l m=none:=by
   intro n
   induction n with
   | zero=>intro _;exact .inl (fun i hi=>by omega)
   | succ n ih =>
    intro hn
    rcases ih (by omega) with q | ⟨i,z,q1,q2,q3⟩
    ·cases e2:pmA l n with
     | none=>exact .inl (fun i hi=>by
       by_cases e3:i=n
       ·subst e3;exact e2
       ·exact q i (by omega))
     | some z2=>exact .inr ⟨n,z2,by omega,e2,q⟩
    ·exact .inr ⟨i,z,by omega,q2,q3⟩
  rcases this j (Nat.le_refl _) with q | ⟨i,z2,q1,q2,q3⟩
  ·rw [zdh q e] at h;cases h
  ·rw [zdh q3 q2] at h;cases h
theorem zff {l:List zk} (hv:IV l) (hl:l.length≤60) {κ:List zG→Prop} (h:κ ((mgF l).map gf)):Xg (l.map gf) κ:=by
 have hF:=zc1 hv hl
 unfold Xg
 refine u7 hF.fb (yt hF.fb ?_)
 rw [decide_eq_true hF]
 refine jC (js (by simp;omega) ?_)
 refine yV (fun (s:List zG)=>∃ xs:List zk,s=xs.map gf∧xs.length≤60∧IV xs∧mgF xs=mgF l) (fun s=>s.length) ?_ ⟨l,by simp,hl,hv,rfl⟩
 rintro _ next ⟨xs,rfl,hxl,hxv,he⟩ hn
 refine zib hxv hxl ?_
 cases hfp:fp xs with
 | none =>
  rw [← he,zgx (zlZ hfp)] at h
  exact jg h
 | some kz =>
  obtain ⟨k,z⟩:=kz
  obtain ⟨p1,p2⟩:=zj3 hfp
  have hk:=zcG p1
  have hml:=zaJ (z:=z) hk
  refine zn (fun e=>by have:(k:Int)<0:=of_decide_eq_true e;omega) (fun _=>zz (by omega) (by omega) ⟨by omega,by simp only [List.length_map];omega,by omega,?_⟩)
  have e1:((xs.map gf).take ((xs.map gf).length:Int).toNat).drop ((k:Int)+2).toNat=(xs.drop (k+2)).map gf:=by
   rw [Int.toNat_natCast,List.take_length,show ((k:Int)+2).toNat=k+2 by omega,List.map_drop]
  have e2:((xs.map gf).take ((k:Int)).toNat).drop (0:Int).toNat=(xs.take k).map gf:=by
   rw [Int.toNat_natCast];simp [List.map_take]
  rw [e1]
  refine js (by simp;omega) (jU ⟨by omega,by omega,by simp only [List.length_map];omega,?_⟩)
  show jJ [] (((xs.map gf).take ((k:Int)).toNat).drop (0:Int).toNat) _
  rw [e2]
  refine js (by simp;omega) (js (by simp;omega) (js (by simp;omega) (hn _ ⟨VG xs k z,?_,by omega,zdZ hxv p1,?_⟩ ?_)))
  ·unfold VG
   simp only [List.nil_append,List.map_append,List.map_cons,List.map_nil]
  ·rw [← zgt p2 p1];exact he
  ·simp;omega
theorem zgK {l:List zk} {rest:Bool} (hv:IV l) (hl:l.length≤60) {κ:List zG→Prop} (h:κ ((trF l rest).map gf)):Ye (l.map gf) rest κ:=by
 have hF:=zc1 hv hl
 unfold Ye
 refine u7 hF.fb (yt hF.fb ?_)
 rw [decide_eq_true hF]
 refine jC ?_
 refine yV (fun (s:Int)=>∃ n:Nat,s=(n:Int)∧n≤l.length∧trN l rest l.length=trN l rest n) (fun s=>s.toNat) ?_ ⟨l.length,by simp,Nat.le_refl _,rfl⟩
 rintro _ next ⟨n,rfl,hn',he⟩ hnx
 have fin:trN l rest n=n→uQ (l.map gf) 0 (n:Int) (fun xs84=>jJ ([]) xs84 (fun _=>κ (([])++xs84))):=fun q=>by
  refine ⟨by omega,by omega,by simp;omega,?_⟩
  unfold trF at h
  rw [he,q] at h
  have e:((l.map gf).take (n:Int).toNat).drop (0:Int).toNat=(l.take n).map gf:=by simp [List.map_take]
  rw [e]
  exact js (by simp;omega) h
 refine jU (zn (fun e=>?_) (fun e=>jC (fin ?_)))
 ·have hpos:0<n:=by have:=of_decide_eq_true e;omega
  obtain ⟨m,rfl⟩:∃ m,n=m+1:=⟨n - 1,by omega⟩
  have hlt:m<l.length:=by omega
  have em:((m+1:Nat):Int) - 1=(m:Int):=by omega
  refine Xh (by omega) (by omega) ?_
  rw [em]
  refine zq m rfl (by simpa using hlt) ?_
  rw [List.getElem_map]
  refine zn (fun e2=>?_) (fun e2=>fin ?_)
  ·have e2':l[m].xAccept=rest:=of_decide_eq_true e2
   refine Xh (by omega) (by omega) (hnx _ ⟨m,by omega,by omega,?_⟩ (by omega))
   rw [he]
   conv=>lhs;unfold trN
   rw [List.getElem?_eq_getElem hlt]
   simp [e2']
  ·have e2':¬ l[m].xAccept=rest:=of_decide_eq_false e2
   unfold trN
   rw [List.getElem?_eq_getElem hlt]
   simp [e2']
 ·have:n=0:=by have:=of_decide_eq_false e;omega
  subst this;rfl
theorem zig {l:List zk} {rest:Bool} (hv:IV l) (hl:l.length≤60) {κ:List zG→Prop} (h:κ ((shF l rest).map gf)):YX (l.map gf) rest κ:=by
 have hF:=zc1 hv hl
 unfold YX
 refine u7 hF.fb (yt hF.fb ?_)
 rw [decide_eq_true hF]
 refine jC (js (by simp;omega) ?_)
 refine yV (fun (s:List zG)=>∃ xs:List zk,s=xs.map gf∧xs.length≤60∧IV xs∧shF xs rest=shF l rest) (fun s=>s.length) ?_ ⟨l,by simp,hl,hv,rfl⟩
 rintro _ next ⟨xs,rfl,hx,hxv,he⟩ hn
 have w1:=zfX xs
 have w2:=zfx (zbf hxv)
 have w3:=UE (rest:=rest) hxv
 refine zgX hxv hx (zff (zbf hxv) (by omega) (zgK (zi3 (zbf hxv)) (by omega) ?_))
 have hf:=zhp (rest:=rest) hxv
 refine zn (fun e=>?_) (fun e=>?_)
 ·have e':(sh1 xs rest).length=xs.length:=by
   have:=of_decide_eq_true e
   simp only [List.length_map] at this
   have:((sh1 xs rest).length:Int)=(xs.length:Int):=this
   omega
  rw [if_pos e'] at hf
  rw [← he,hf] at h;exact h
 ·have e':¬ (sh1 xs rest).length=xs.length:=by
   have:=of_decide_eq_false e
   simp only [List.length_map] at this
   have:¬ ((sh1 xs rest).length:Int)=(xs.length:Int):=this
   omega
  rw [if_neg e'] at hf
  exact hn ((sh1 xs rest).map gf) ⟨sh1 xs rest,rfl,by omega,za7 hxv,by rw [← hf];exact he⟩ (by simp only [List.length_map];omega)
theorem zen {s:zL} (hb:Bd s) {κ:List zG×Bool→Prop} (h1:SV s→∀ l,cf s=some l→κ (l.map gf,true)) (h2:(SV s→cf s=none)→κ ([],false)):ZD s κ:=by
 unfold ZD
 refine zam hb (zeC hb (fun hv l hl=>jC ?_) (fun q=>jg (h2 (fun hv=>by unfold cf;rw [q hv];rfl))))
 obtain ⟨u1,u2⟩:=ziQ hv hl
 exact zig u1 u2 (h1 hv _ (by unfold cf;rw [hl];rfl))
end
section
def Sx1 (l:List zg):Prop:=l.length≤1048576
def Sx2 (l:List (List zg)):Prop:=l.length≤1048576∧∀ x,x∈l→Sx1 x
def Sx3 (f:zG):Prop:=Sx2 f.xWhere.xSides
def Sx4 (l:List zG):Prop:=l.length≤1048576∧∀ f,f∈l→Sx3 f
theorem Sx4.fb {l:List zG} (h:Sx4 l):Fb l:=⟨by have:=h.1;omega,fun f hf=>⟨by have:=(h.2 f hf).1;omega,fun x hx=>by have:x.length≤1048576:=(h.2 f hf).2 x hx;omega⟩⟩
theorem BV.sx {b:zM} (h:BV b):Sx2 b.xSides:=by
 obtain ⟨a,rfl,_,f0,f1,f2,f3⟩:=h
 refine ⟨by simp [bx],fun x hx=>?_⟩
 simp only [bx,List.mem_cons,List.not_mem_nil,or_false] at hx
 unfold Sx1
 rcases hx with rfl | rfl | rfl | rfl <;> omega
theorem FV.sx {l:List zG} (h:FV l):Sx4 l:=⟨by have:=h.1;omega,fun f hf=>(h.2 f hf).sx⟩
end
section
open Go Go.Proofs
def bt1 (n:Nat) (s:List zg):Option (List xj) :=
 match s with
 | [x]=>if x=⟨0,top n⟩ then some [] else some [⟨n,x.xLo,x.xHi,false⟩]
 | [x,y]=>if x.xLo=0∧y.xHi=top n then some [⟨n,x.xHi+1,y.xLo - 1,true⟩] else none
 | _=>none
def btN (a:za):Nat→Option (List xj)
 | 0=>some []
 | k+1=>match btN a k with
  | none=>none
  | some l=>match bt1 k (uq a k) with
   | none=>none
   | some m=>some (l++m)
def btF (a:za):Option (List xj):=if em4 a then none else btN a 4
def zlI:Option (List xj)→List xj×Bool
 | some l=>(l,true)
 | none=>([],false)
theorem zke {n:Nat} {s:List zg} {l:List xj} (h:bt1 n s=some l):l.length≤1:=by
 unfold bt1 at h
 split at h
 ·split at h <;> (injection h with h;subst h;simp)
 ·split at h
  ·injection h with h;subst h;simp
  ·cases h
 ·cases h
theorem ze7 {a:za}:∀ {k:Nat} {l:List xj},btN a k=some l→l.length≤k
 | 0,l,h=>by simp only [btN,Option.some.injEq] at h;subst h;simp
 | k+1,l,h=>by
  unfold btN at h
  split at h
  ·cases h
  ·rename_i l1 h1
   split at h
   ·cases h
   ·rename_i m h2
    injection h with h;subst h
    have:=ze7 h1
    have:=zke h2
    rw [List.length_append];omega
def ruD (f:zG):zS:=⟨(zlI (btF (sd f.xWhere))).1,if f.xAccept then 1 else 2,0⟩
def zlQ (l:List zG):Prop:=FV l∧l.length≤8∧∀ f∈l,btF (sd f.xWhere)≠none
def frS (l:List zG) (rest:Bool):zL:=⟨[l.map ruD],rest⟩
theorem zjx (a:za):(zlI (btF a)).1.length≤4:=by
 cases h:btF a with
 | none=>simp [zlI]
 | some l =>
  unfold btF at h
  split at h
  ·cases h
  ·exact ze7 h
theorem zlr {l:List zG} {rest:Bool} (h:l.length≤8):Bs (frS l rest).xChains:=by
 refine ⟨by simp [frS],fun c hc=>?_⟩
 simp only [frS,List.mem_singleton] at hc
 subst hc
 refine ⟨by simp;omega,fun r hr=>?_⟩
 obtain ⟨f,hf,rfl⟩:=List.mem_map.1 hr
 have:=zjx (sd f.xWhere)
 unfold Br ruD;simp only;omega
end
section
open Go Go.Proofs
theorem zi5 (x:zg) (v:Int):hv [x] v↔x.xLo≤v∧v≤x.xHi:=by simp [hv]
theorem zlb (x y:zg) (v:Int):hv [x,y] v↔(x.xLo≤v∧v≤x.xHi)∨(y.xLo≤v∧v≤y.xHi):=by simp [hv]
theorem zjl {n:Nat} (hn:n<4) {s:List zg} (hs:St s (top n)) {m:List xj} (h:bt1 n s=some m):(∀ t∈m,TV t)∧∀ p,pv p→(ft m p=true↔hv s (Yn p n)):=by
 have hfl:∀ p,pv p→0≤Yn p n∧Yn p n≤top n:=fun p hp=>by
  obtain ⟨h0,h1,h2,h3⟩:=hp
  rcases US hn with rfl | rfl | rfl | rfl
  ·exact h0
  ·exact h1
  ·exact h2
  ·exact h3
 unfold bt1 at h
 split at h
 ·rename_i x
  have hx:=hs.2 x (by simp)
  have hx2:=hs.1.1 x (by simp)
  split at h
  ·rename_i e
   injection h with h;subst h
   refine ⟨by simp,fun p hp=>?_⟩
   rw [zi5,e]
   have:=hfl p hp
   simp [ft,this]
  ·injection h with h;subst h
   refine ⟨fun t ht=>?_,fun p hp=>?_⟩
   ·rw [List.mem_singleton] at ht;subst ht
    exact ⟨by simp only;omega,by simp only;omega,hx.1,hx2,hx.2⟩
   ·rw [zi5]
    simp [ft,th]
 ·rename_i x y
  have hx:=hs.2 x (by simp)
  have hx2:=hs.1.1 x (by simp)
  have hy:=hs.2 y (by simp)
  have hy2:=hs.1.1 y (by simp)
  have hg:x.xHi+1<y.xLo:=(List.pairwise_cons.1 hs.1.2).1 y (by simp)
  split at h
  ·rename_i e
   injection h with h;subst h
   refine ⟨fun t ht=>?_,fun p hp=>?_⟩
   ·rw [List.mem_singleton] at ht;subst ht
    exact ⟨by simp only;omega,by simp only;omega,by simp only;omega,by simp only;omega,by simp only;omega⟩
   ·rw [zlb]
    have:=hfl p hp
    simp only [ft,th,List.all_cons,List.all_nil,Bool.and_true,bne_iff_ne,ne_eq,decide_eq_true_eq,Int.toNat_natCast]
    omega
  ·cases h
 ·cases h
theorem zf5 {a:za} (ha:B4 a):∀ {k:Nat} {l:List xj},k≤4→btN a k=some l→(∀ t∈l,TV t)∧∀ p,pv p→(ft l p=true↔∀ n:Nat,n<k→hv (uq a n) (Yn p n))
 | 0,l,_,h=>by
  simp only [btN,Option.some.injEq] at h;subst h
  exact ⟨by simp,fun p _=>by simp [ft]⟩
 | k+1,l,hk,h=>by
  unfold btN at h
  split at h
  ·cases h
  ·rename_i l1 h1
   split at h
   ·cases h
   ·rename_i m h2
    injection h with h;subst h
    obtain ⟨a1,b1⟩:=zf5 ha (by omega) h1
    obtain ⟨a2,b2⟩:=zjl (show k<4 by omega) (Yd ha (by omega) (by omega)) h2
    refine ⟨fun t ht=>(List.mem_append.1 ht).elim (a1 t) (a2 t),fun p hp=>?_⟩
    have e:ft (l1++m) p=(ft l1 p && ft m p):=by simp [ft]
    rw [e,Bool.and_eq_true,b1 p hp,b2 p hp]
    constructor
    ·rintro ⟨q1,q2⟩ n hn
     by_cases en:n=k
     ·subst en;exact q2
     ·exact q1 n (by omega)
    ·intro q
     exact ⟨fun n hn=>q n (by omega),q k (by omega)⟩
theorem zgA {a:za} (ha:B4 a) {l:List xj} (h:btF a=some l):TsV l∧∀ p,pv p→(ft l p=true↔hb4 a p):=by
 unfold btF at h
 split at h
 ·cases h
 ·obtain ⟨h1,h2⟩:=zf5 ha (by decide) h
  have:=ze7 h
  exact ⟨⟨h1,by omega⟩,fun p hp=>by rw [h2 p hp,zky]⟩
theorem zjh {l:List zG} {rest:Bool} (h:zlQ l):SV (frS l rest):=by
 have h8:=h.2.1
 have nocall:∀ i j,¬ Ca (frS l rest).xChains i j:=fun i j ⟨c,hc,r,hr,h3,_⟩=>by
  have hc':=List.mem_of_getElem? hc
  simp only [frS,List.mem_singleton] at hc'
  subst hc'
  obtain ⟨f,hf,rfl⟩:=List.mem_map.1 hr
  unfold ruD at h3
  simp only at h3
  split at h3 <;> omega
 refine ⟨⟨by simp [frS],fun c hc=>?_⟩,by simp [frS],fun i _=>zhM (fun j hj=>absurd hj (nocall i j))⟩
 simp only [frS,List.mem_singleton] at hc
 subst hc
 refine ⟨by simpa using h8,fun r hr=>?_⟩
 obtain ⟨f,hf,rfl⟩:=List.mem_map.1 hr
 refine ⟨⟨?_,?_⟩,by simp [ruD,frS]⟩
 ·cases hbt:btF (sd f.xWhere) with
  | none=>exact absurd hbt (h.2.2 f hf)
  | some ts =>
   unfold ruD;rw [hbt]
   exact (zgA (h.1.2 f hf).b4 hbt).1
 ·unfold HV ruD;simp only
  split <;> decide
def jf (l:List zk) (rest:Bool) (p:zX):Bool:=match l[fw l p]? with | some f=>f.xAccept | none=>rest
theorem zkA {f:Nat→Int} {p:zX} (hp:pv p):∀ (l:List zG),FV l→(∀ f∈l,btF (sd f.xWhere)≠none)→jl p f (l.map ruD)=(match (l.map fl)[fw (l.map fl) p]? with | some g=>if g.xAccept then 1 else 2 | none=>5)
 | [],_,_=>by simp [jl,fw]
 | x :: l,hv',hb=>by
  have hbv:=hv'.2 x (by simp)
  cases hbt:btF (sd x.xWhere) with
  | none=>exact absurd hbt (hb x (by simp))
  | some ts =>
   have hs:=(zgA hbv.b4 hbt).2 p hp
   have er:ruD x=⟨ts,if x.xAccept then 1 else 2,0⟩:=by unfold ruD;rw [hbt];rfl
   have ih:=zkA (f:=f) hp l ⟨by have:=hv'.1;simp at this;omega,fun g hg=>hv'.2 g (by simp [hg])⟩ (fun g hg=>hb g (by simp [hg]))
   simp only [List.map_cons,jl,er]
   by_cases hh:hb4 (sd x.xWhere) p
   ·rw [if_pos (hs.2 hh)]
    have e0:fw (fl x :: l.map fl) p=0:=by
     unfold fw;rw [List.findIdx_cons];simp [fl,hh]
    rw [e0]
    simp only [List.getElem?_cons_zero,fl]
    cases x.xAccept <;> simp
   ·rw [if_neg (fun q=>hh (hs.1 q)),ih]
    have e0:fw (fl x :: l.map fl) p=fw (l.map fl) p+1:=by
     unfold fw;rw [List.findIdx_cons];simp [fl,hh]
    rw [e0,List.getElem?_cons_succ]
theorem zlf {l:List zG} {rest:Bool} {p:zX} (hp:pv p) (h:zlQ l):jdg (frS l rest) p=jf (l.map fl) rest p:=by
 have hsv:=zjh (rest:=rest) h
 have hJ:=zir (p:=p) hsv.cn hsv.2.2 0
 have ec:chn (frS l rest).xChains 0=l.map ruD:=rfl
 rw [ec,zkA hp l h.1 h.2.2] at hJ
 unfold jdg jf
 rw [hJ]
 cases (l.map fl)[fw (l.map fl) p]? with
 | none=>simp [frS]
 | some g=>cases hg:g.xAccept <;> simp [hg]
end
section
open Go Go.Proofs
def dcd:List zk→zX→Option Bool
 | [],_=>none
 | f :: l,p=>if hb4 f.xWhere p then some f.xAccept else dcd l p
theorem zkn (l m:List zk) (p:zX):dcd (l++m) p=(dcd l p).or (dcd m p):=by
 induction l with
 | nil=>simp [dcd]
 | cons f l ih =>
  simp only [List.cons_append,dcd]
  split
  ·simp
  ·exact ih
theorem zgm {l:List zk} {p:zX}:dcd l p=none↔¬ hbs (whs l) p:=by
 induction l with
 | nil=>simp [dcd,whs,hbs]
 | cons f l ih =>
  have e:hbs (whs (f :: l)) p↔hb4 f.xWhere p∨hbs (whs l) p:=by
   have:=VV [f.xWhere] (whs l) p
   rw [zbw] at this
   exact this
  rw [e]
  unfold dcd
  split
  ·rename_i h;simp [h]
  ·rename_i h;rw [ih];simp [h]
theorem zj9 (f:zk) (p:zX):dcd [f] p=if hb4 f.xWhere p then some f.xAccept else none:=rfl
theorem zfB (l:List zk) (rest:Bool) (p:zX):jf l rest p=(dcd l p).getD rest:=by
 induction l with
 | nil=>simp [jf,dcd]
 | cons f l ih =>
  unfold dcd
  by_cases h:hb4 f.xWhere p
  ·have e0:fw (f :: l) p=0:=by
    unfold fw;rw [List.findIdx_cons];simp [h]
   unfold jf
   rw [e0,if_pos h];rfl
  ·have e0:fw (f :: l) p=fw l p+1:=by
    unfold fw;rw [List.findIdx_cons];simp [h]
   unfold jf at ih ⊢
   rw [e0,if_neg h,List.getElem?_cons_succ];exact ih
theorem zkk {p:zX} (hp:pv p):hb4 Zq p:=by
 obtain ⟨h0,h1,h2,h3⟩:=hp
 exact ⟨⟨_,List.mem_singleton.2 rfl,h0⟩,⟨_,List.mem_singleton.2 rfl,h1⟩,⟨_,List.mem_singleton.2 rfl,h2⟩,⟨_,List.mem_singleton.2 rfl,h3⟩⟩
end
section
open Go Go.Proofs
def itm (l:List zk) (rest:Bool) (k:Nat):zk:=match l[k]? with | some f=>f | none=>⟨Zq,rest⟩
def lvN (l:List zk) (rest:Bool):Nat→Option (List zk)
 | 0=>some []
 | k+1=>match lvN l rest k with
  | none=>none
  | some out=>match Xe (itm l rest k).xWhere (whs (l.take k)) with
   | none=>none
   | some lv=>if (out++dec lv (itm l rest k).xAccept).length≤400 then some (out++dec lv (itm l rest k).xAccept) else none
def pt (l:List zk) (rest:Bool):Option (List zk):=lvN l rest (l.length+1)
def acs (out:List zk) (a:Bool):List za:=(out.filter (fun f=>decide (f.xAccept=a))).map (·.xWhere)
theorem zfV {l:List zk} {rest:Bool} {k:Nat} (h:k<l.length):itm l rest k=l[k]:=by
 unfold itm;rw [List.getElem?_eq_getElem h]
theorem zfo (l:List zk) (rest:Bool):itm l rest l.length=⟨Zq,rest⟩:=by
 unfold itm;rw [List.getElem?_eq_none (Nat.le_refl _)]
theorem zbD:B4 Zq∧F4 Zq:=⟨zbp,zft (fun f h0 h1=>by have:=zdk f h0 h1;omega)⟩
theorem zi7 {l:List zk} (hv:IV l) (rest:Bool) (k:Nat):B4 (itm l rest k).xWhere∧F4 (itm l rest k).xWhere:=by
 unfold itm
 cases h:l[k]? with
 | none=>exact zbD
 | some f=>exact hv f (List.mem_of_getElem? h)
theorem zgd {l:List zk} {rest:Bool} {k:Nat} (h:lvN l rest k=none):∀ n,lvN l rest (k+n)=none
 | 0=>h
 | n+1=>by
  rw [← Nat.add_assoc]
  unfold lvN
  rw [zgd h n]
theorem zjk {l:List zk} {rest:Bool} {k n:Nat} (h:lvN l rest k=none) (hk:k≤n):lvN l rest n=none:=by
 obtain ⟨m,rfl⟩:=Nat.exists_eq_add_of_le hk
 exact zgd h m
theorem zfQ {l:List zk} {rest:Bool} (hv:IV l):∀ {k:Nat} {out:List zk},lvN l rest k=some out→IV out∧out.length≤400
 | 0,out,h=>by
  simp only [lvN,Option.some.injEq] at h;subst h
  exact ⟨VK,by simp⟩
 | k+1,out,h=>by
  unfold lvN at h
  split at h
  ·cases h
  ·rename_i o ho
   split at h
   ·cases h
   ·rename_i lv hl
    split at h
    ·rename_i q
     injection h with h;subst h
     have ih:=zfQ hv ho
     have hi:=zi7 hv rest k
     have:=zb3 hi.1 hi.2 (hv.take k).aB hl
     exact ⟨zfa ih.1 (ze9 this.1 this.2.1),q⟩
    ·cases h
theorem zbt (x y:List zk) (a:Bool):acs (x++y) a=acs x a++acs y a:=by simp [acs]
theorem zaI (l:List za) (b a:Bool):acs (dec l b) a=if b=a then l else []:=by
 unfold acs dec
 split
 ·rename_i e
  rw [List.filter_eq_self.2 (fun f hf=>by obtain ⟨c,_,rfl⟩:=List.mem_map.1 hf;simpa using e),List.map_map]
  exact List.map_id' l
 ·rename_i e
  rw [List.filter_eq_nil_iff.2 (fun f hf=>by obtain ⟨c,_,rfl⟩:=List.mem_map.1 hf;simpa using e)]
  rfl
theorem zkq (x:List zk):(acs x true).length+(acs x false).length=x.length:=by
 induction x with
 | nil=>rfl
 | cons f x ih =>
  unfold acs at ih ⊢
  cases h:f.xAccept <;> simp [h] at ih ⊢ <;> omega
theorem zdy (x:List zk) (a:Bool):(acs x a).length≤x.length:=by
 unfold acs;rw [List.length_map];exact List.length_filter_le _ _
theorem zeH {x:List zk} (h:IV x) (a:Bool):aB (acs x a):=fun c hc=>by
 obtain ⟨f,hf,rfl⟩:=List.mem_map.1 hc
 exact (h f (List.mem_filter.1 hf).1).1
theorem zhI {l:List zk} {rest:Bool} (hv:IV l) (p:zX) (a:Bool):∀ {k:Nat} {out:List zk},k≤l.length→lvN l rest k=some out→(hbs (acs out a) p↔dcd (l.take k) p=some a)
 | 0,out,_,h=>by
  simp only [lvN,Option.some.injEq] at h;subst h
  simp [acs,hbs,dcd]
 | k+1,out,hk,h=>by
  have hlt:k<l.length:=by omega
  unfold lvN at h
  split at h
  ·cases h
  ·rename_i o ho
   split at h
   ·cases h
   ·rename_i lv hl
    split at h
    ·injection h with h;subst h
     have ih:=zhI hv p a (by omega) ho
     rw [zfV hlt] at hl ⊢
     have hi:=hv _ (List.getElem_mem hlt)
     have hlb:=zgu hi.1 (hv.take k).aB hl p
     rw [zbt,zaI,VV,ih,List.take_succ_eq_append_getElem hlt,zkn,zj9]
     rw [← zgm] at hlb
     by_cases e:l[k].xAccept=a
     ·rw [if_pos e,hlb,e]
      cases hd:dcd (l.take k) p with
      | none=>by_cases c:hb4 l[k].xWhere p <;> simp [c]
      | some b=>simp
     ·rw [if_neg e]
      cases hd:dcd (l.take k) p with
      | none =>
       by_cases c:hb4 l[k].xWhere p
       ·simp [c,Ug,e]
       ·simp [c,Ug]
      | some b=>simp [Ug]
    ·cases h
theorem zfr {l:List zk} {rest:Bool} (hv:IV l) {out:List zk} (h:pt l rest=some out) {p:zX} (hp:pv p) (a:Bool):hbs (acs out a) p↔jf l rest p=a:=by
 unfold pt lvN at h
 rw [zfB]
 split at h
 ·cases h
 ·rename_i o ho
  split at h
  ·cases h
  ·rename_i lv hl
   split at h
   ·injection h with h;subst h
    have ih:=zhI hv p a (Nat.le_refl _) ho
    rw [List.take_length] at ih hl
    rw [zfo] at hl ⊢
    have hlb:=zgu zbp hv.aB hl p
    rw [← zgm] at hlb
    rw [zbt,zaI,VV,ih]
    simp only
    have ha:=zkk hp
    by_cases e:rest=a
    ·rw [if_pos e,hlb]
     cases hd:dcd l p with
     | none=>simp [ha,e]
     | some b=>simp
    ·rw [if_neg e]
     cases hd:dcd l p with
     | none=>simp [Ug,e]
     | some b=>simp [Ug]
   ·cases h
theorem zef {l:List zk} {rest:Bool} (hv:IV l) {out:List zk} (h:pt l rest=some out):IV out∧out.length≤400:=zfQ hv h
def tF (d:za) (as:List za):List za:=as.flatMap (fun c=>if em4 (xt d c) then [] else [xt d c])
def opF (ds as:List za):List za:=ds.flatMap (fun d=>tF d as)
theorem zdK (d:za) (l m:List za):tF d (l++m)=tF d l++tF d m:=by simp [tF]
theorem zfj (d c:za):tF d [c]=if em4 (xt d c) then [] else [xt d c]:=by simp [tF]
theorem zjs (d:za) (as:List za):(tF d as).length≤as.length:=by
 induction as with
 | nil=>simp [tF]
 | cons b bs ih =>
  rw [show b :: bs=[b]++bs from rfl,zdK,zfj,List.length_append,List.length_append]
  have:(if em4 (xt d b)=true then [] else [xt d b]:List za).length≤1:=by split <;> simp
  simp only [List.length_singleton];omega
theorem zaB (l m as:List za):opF (l++m) as=opF l as++opF m as:=by simp [opF]
theorem zb9 (d:za) (as:List za):opF [d] as=tF d as:=by simp [opF]
theorem zhc (ds as:List za):(opF ds as).length≤ds.length * as.length:=by
 induction ds with
 | nil=>simp [opF]
 | cons b bs ih =>
  rw [show b :: bs=[b]++bs from rfl,zaB,zb9,List.length_append,List.length_append]
  have:=zjs b as
  rw [List.length_singleton,Nat.add_mul];omega
theorem zbu {ds as:List za} {c:za}:c∈opF ds as↔∃ d∈ds,∃ e∈as,em4 (xt d e)=false∧c=xt d e:=by
 unfold opF tF
 simp only [List.mem_flatMap]
 constructor
 ·rintro ⟨d,hd,e,he,h⟩
  split at h
  ·simp at h
  ·rename_i q
   exact ⟨d,hd,e,he,by simpa using q,by simpa using h⟩
 ·rintro ⟨d,hd,e,he,q,rfl⟩
  exact ⟨d,hd,e,he,by rw [if_neg (by simp [q])];simp⟩
theorem zmh {ds as:List za} (h1:aB ds) (h2:aB as):aB (opF ds as):=fun c hc=>by
 obtain ⟨d,hd,e,he,_,rfl⟩:=zbu.1 hc
 exact zbZ (h1 d hd) (h2 e he)
theorem zlg (ds as:List za) (p:zX):hbs (opF ds as) p↔hbs ds p∧hbs as p:=by
 constructor
 ·rintro ⟨c,hc,k⟩
  obtain ⟨d,hd,e,he,_,rfl⟩:=zbu.1 hc
  have:=(zb6 d e p).1 k
  exact ⟨⟨d,hd,this.1⟩,⟨e,he,this.2⟩⟩
 ·rintro ⟨⟨d,hd,k1⟩,⟨e,he,k2⟩⟩
  have h:=(zb6 d e p).2 ⟨k1,k2⟩
  refine ⟨xt d e,zbu.2 ⟨d,hd,e,he,?_,rfl⟩,h⟩
  cases q:em4 (xt d e) with
  | false=>rfl
  | true=>exact absurd h (zfU q p)
theorem zk5 {a:za} (ha:B4 a) (h:em4 a=false):∃ p,pv p∧hb4 a p:=by
 rw [zhF] at h
 obtain ⟨h0,h1,h2,h3⟩:=h
 obtain ⟨p0,p1,p2,p3⟩:=ha
 obtain ⟨x0,e0⟩:=zgH p0 h0
 obtain ⟨x1,e1⟩:=zgH p1 h1
 obtain ⟨x2,e2⟩:=zgH p2 h2
 obtain ⟨x3,e3⟩:=zgH p3 h3
 exact ⟨⟨x0,x1,x2,x3⟩,⟨ym p0 e0,ym p1 e1,ym p2 e2,ym p3 e3⟩,e0,e1,e2,e3⟩
theorem zk0 {ds as:List za} (h1:aB ds) (h2:aB as):opF ds as≠[]↔∃ p,pv p∧hbs ds p∧hbs as p:=by
 constructor
 ·intro h
  obtain ⟨c,hc⟩:=List.exists_mem_of_ne_nil _ h
  obtain ⟨d,hd,e,he,q,rfl⟩:=zbu.1 hc
  obtain ⟨p,hp,k⟩:=zk5 (zbZ (h1 d hd) (h2 e he)) q
  have:=(zb6 d e p).1 k
  exact ⟨p,hp,⟨d,hd,this.1⟩,⟨e,he,this.2⟩⟩
 ·rintro ⟨p,_,k⟩ e
  have:=(zlg ds as p).2 k
  rw [e] at this
  exact Ug p this
def opn (a:List zk) (ra:Bool) (b:List zk) (rb:Bool):Option (List za) :=
 match pt a ra,pt b rb with
 | some x,some y=>if okR (opF (acs x false) (acs y true)) then some (opF (acs x false) (acs y true)) else none
 | _,_=>none
theorem zjC {a b:List zk} {ra rb:Bool} (ha:IV a) (hb:IV b) {o:List za} (h:opn a ra b rb=some o):o≠[]↔∃ p,pv p∧jf a ra p=false∧jf b rb p=true:=by
 unfold opn at h
 split at h
 ·rename_i x y hx hy
  split at h
  ·injection h with h;subst h
   rw [zk0 (zeH (zef ha hx).1 _) (zeH (zef hb hy).1 _)]
   constructor
   ·rintro ⟨p,hp,k1,k2⟩
    exact ⟨p,hp,(zfr ha hx hp _).1 k1,(zfr hb hy hp _).1 k2⟩
   ·rintro ⟨p,hp,k1,k2⟩
    exact ⟨p,hp,(zfr ha hx hp _).2 k1,(zfr hb hy hp _).2 k2⟩
  ·cases h
 ·cases h
def zmt:Option (List zk)→Zk×Bool
 | some out=>(⟨acs out true,acs out false⟩,true)
 | none=>(⟨[],[]⟩,false)
theorem zkM {out:List zk} {lv:List za} {acc:Bool} (h1:out.length≤100000) (h2:lv.length≤100000) {κ:Bool×List za×List za→Prop} (h:κ (decide ((out++dec lv acc).length≤400),acs (out++dec lv acc) true,acs (out++dec lv acc) false)):yn (acs out true) (acs out false) lv acc κ:=by
 unfold yn
 have hl:=zkq out
 have hd:=zcp lv acc
 rw [zbt,zbt,zaI,zaI,List.length_append,hd] at h
 refine jU (zn (fun e=>?_) (fun e=>?_))
 ·subst e
  refine js (by omega) (zz (by omega) (by rw [List.length_append];omega) ?_)
  rw [show decide ((((acs out true++lv).length:Nat):Int)+((acs out false).length:Int)≤400)=decide (out.length+lv.length≤400) from decide_eq_decide.2 (by rw [List.length_append];omega)]
  simpa using h
 ·subst e
  refine js (by omega) (zz (by omega) (by rw [List.length_append];omega) ?_)
  rw [show decide (((acs out true).length:Int)+(((acs out false++lv).length:Nat):Int)≤400)=decide (out.length+lv.length≤400) from decide_eq_decide.2 (by rw [List.length_append];omega)]
  simpa using h
theorem zf6 {l:List zk} {rest:Bool} {k:Nat} {out:List zk} (h:lvN l rest k=some out):lvN l rest (k+1)=match Xe (itm l rest k).xWhere (whs (l.take k)) with | none=>none | some lv=>if (out++dec lv (itm l rest k).xAccept).length≤400 then some (out++dec lv (itm l rest k).xAccept) else none:=by
 conv=>lhs;unfold lvN
 rw [h]
theorem zeJ {l:List zk} {rest:Bool} (hl:l.length≤100000) (hv:IV l) {κ:Zk×Bool→Prop} (h:κ (zmt (pt l rest))):Xy l rest κ:=by
 unfold Xy
 have no:∀ {k},k≤l.length+1→lvN l rest k=none→κ (⟨[],[]⟩,false):=fun hk q=>by
  unfold pt at h;rw [zjk q hk] at h;exact h
 refine zU l.length (fun s=>s.2.2) (fun k (s:List za×List za×Int)=>s.2.2=(k:Int)∧k≤l.length∧∃ out,lvN l rest k=some out∧s.1=acs out true∧s.2.1=acs out false) (fun k s h=>h.1) (fun k s h=>h.2.1) ?_ ⟨rfl,by omega,[],rfl,rfl,rfl⟩
 rintro k ⟨_,_,_⟩ next ⟨rfl,hk,out,ho,hx,hy⟩ hn
 simp only at hx hy
 subst hx hy
 have hok:=zfQ hv ho
 have hst:=zf6 ho
 refine zn (fun hc=>?_) (fun hc=>?_)
 ·have hlt:k<l.length:=by simpa using hc
  rw [zfV hlt] at hst
  have hk2:=hv _ (List.getElem_mem hlt)
  refine zq k rfl hlt (zge hl hv hlt ?_)
  unfold zhX
  cases hlr:Xe l[k].xWhere (whs (l.take k)) with
  | none =>
   rw [hlr] at hst
   exact jU (jg (jg (no (by omega) hst)))
  | some lv =>
   rw [hlr] at hst
   have hlo:=zb3 hk2.1 hk2.2 (hv.take k).aB hlr
   have hl4:=hlo.2.2
   simp only at hst
   refine jU (jC (zkM (by omega) (by omega) ?_))
   by_cases q:(out++dec lv l[k].xAccept).length≤400
   ·rw [if_pos q] at hst
    rw [decide_eq_true q]
    exact jC (zz (by omega) (by omega) (hn hlt _ ⟨by simp,by omega,_,hst,rfl,rfl⟩))
   ·rw [if_neg q] at hst
    rw [decide_eq_false q]
    exact jg (no (by omega) hst)
 ·have hge:k=l.length:=by
   have:¬ (k:Int)<(l.length:Int):=of_decide_eq_false hc
   omega
  subst hge
  rw [zfo,List.take_length] at hst
  refine zbj (zf0 (by omega) (zc3 (bs:=whs l) zbD.1 zbD.2 hv.aB (by unfold whs;rw [List.length_map];omega) ?_))
  have hst':pt l rest=match Xe Zq (whs l) with | none=>none | some lv=>if (out++dec lv rest).length≤400 then some (out++dec lv rest) else none:=hst
  rw [hst'] at h
  cases hlr:Xe Zq (whs l) with
  | none =>
   rw [hlr] at h
   exact jU (jg (jg h))
  | some lv =>
   rw [hlr] at h
   have hl4:=(zb3 zbD.1 zbD.2 hv.aB hlr).2.2
   simp only at h
   refine jU (jC (zkM (lv:=lv) (by omega) (by omega) ?_))
   by_cases q:(out++dec lv rest).length≤400
   ·rw [if_pos q] at h
    rw [decide_eq_true q]
    exact jC h
   ·rw [if_neg q] at h
    rw [decide_eq_false q]
    exact jg h
theorem zgN {ds as:List za} (hdB:aB ds) (hcB:aB as) (hdl:ds.length≤400) (hcl:as.length≤400) {κ:List za×Bool→Prop} (h:κ (zj6 (if okR (opF ds as) then some (opF ds as) else none))) :
  jx (fun (nx103:((List za)×Int)→Prop) ((xs99,t102):((List za)×Int))=>ifW (decide (t102<(ds.length:Int))) (zK ds t102 (fun e104=>jx (fun (nx141:((List za)×Int)→Prop) ((xs137,t140):((List za)×Int))=>ifW (decide (t140<(as.length:Int))) (jnW (fun (xs353:(List za))=>jA t140 1 (fun t357=>nx141 (xs353,t357))) (fun k356=>zK as t140 (fun e142=>uv e104 e142 (fun r204=>ifW (!r204) (k356 xs137) (yr e104 e142 (fun (r235,r244)=>ifW (!r244) (κ ([],false)) (ifW (decide ((xs137.length:Int)=400)) (κ ([],false)) (jJ xs137 ([r235]) (fun _=>k356 (xs137++([r235]))))))))))) (jA t102 1 (fun t358=>nx103 (xs137,t358)))) (xs99,0))) (κ (xs99,true))) ([],0):=by
 have no:¬ okR (opF ds as)→κ ([],false):=fun q=>by rw [if_neg q] at h;exact h
 refine zU ds.length (fun s=>s.2) (fun k (s:List za×Int)=>s.2=(k:Int)∧k≤ds.length∧s.1=opF (ds.take k) as∧okR (opF (ds.take k) as)) (fun k s h=>h.1) (fun k s h=>h.2.1) ?_ ⟨rfl,by omega,by simp [opF],by simpa [opF] using Vc⟩
 rintro k ⟨_,_⟩ next ⟨rfl,hk,hx,hok⟩ hn
 simp only at hx
 subst hx
 refine zn (fun hc=>?_) (fun hc=>?_)
 ·have hlt:k<ds.length:=by simpa using hc
  have hdk:=hdB _ (List.getElem_mem hlt)
  have hsp:opF ds as=opF (ds.take k) as++(tF ds[k] as++opF (ds.drop (k+1)) as):=by
   conv=>lhs;rw [← List.take_append_drop k ds,List.drop_eq_getElem_cons hlt,show ds[k] :: ds.drop (k+1)=[ds[k]]++ds.drop (k+1) from rfl,zaB,zaB,zb9]
  refine zq k rfl hlt ?_
  refine zU as.length (fun s=>s.2) (fun j (s:List za×Int)=>s.2=(j:Int)∧j≤as.length∧s.1=opF (ds.take k) as++tF ds[k] (as.take j)∧okR (opF (ds.take k) as++tF ds[k] (as.take j))) (fun k s h=>h.1) (fun k s h=>h.2.1) ?_ ⟨rfl,by omega,by simp [tF],by simpa [tF] using hok⟩
  rintro j ⟨_,_⟩ next2 ⟨rfl,hj,hx,hok2⟩ hn2
  simp only at hx
  subst hx
  refine zn (fun hc2=>?_) (fun hc2=>?_)
  ·have hjl:j<as.length:=by simpa using hc2
   have haj:=hcB _ (List.getElem_mem hjl)
   have hs2:tF ds[k] as=tF ds[k] (as.take j)++((if em4 (xt ds[k] as[j]) then [] else [xt ds[k] as[j]])++tF ds[k] (as.drop (j+1))):=by
    conv=>lhs;rw [← List.take_append_drop j as,List.drop_eq_getElem_cons hjl,show as[j] :: as.drop (j+1)=[as[j]]++as.drop (j+1) from rfl,zdK,zdK,zfj]
   have hs3:tF ds[k] (as.take (j+1))=tF ds[k] (as.take j)++(if em4 (xt ds[k] as[j]) then [] else [xt ds[k] as[j]]):=by
    rw [List.take_succ_eq_append_getElem hjl,zdK,zfj]
   have hl4:=hok2.2
   refine jU (zq j rfl hjl (zcS hdk haj (zn (fun e=>?_) (fun e=>?_))))
   ·have e':em4 (xt ds[k] as[j])=true:=by simpa using e
    rw [if_pos e',List.append_nil] at hs3
    refine zz (by omega) (by omega) (hn2 hjl _ ⟨by simp,by omega,?_,?_⟩)
    ·rw [hs3]
    ·rw [hs3];exact hok2
   ·have e':em4 (xt ds[k] as[j])=false:=by simpa using e
    rw [if_neg (by simp [e'])] at hs2 hs3
    refine zhA hdk haj ?_
    by_cases hm:F4 (xt ds[k] as[j])
    ·rw [show zgW (xt ds[k] as[j])=(xt ds[k] as[j],true) from if_pos hm]
     refine jC (zn (fun e2=>no (fun q=>?_)) (fun e2=>?_))
     ·have e3:=of_decide_eq_true e2
      have:=q.2
      rw [hsp,hs2] at this
      simp only [List.length_append,List.length_singleton] at this e3
      omega
     ·have e3:=of_decide_eq_false e2
      refine js (by simp only [List.length_singleton];omega) (zz (by omega) (by omega) (hn2 hjl _ ⟨by simp,by omega,?_,?_⟩))
      ·rw [hs3,List.append_assoc]
      ·rw [hs3,← List.append_assoc]
       refine ⟨yq.2 ⟨hok2.1,fun c hc=>by rw [List.mem_singleton] at hc;subst hc;exact hm⟩,?_⟩
       rw [List.length_append,List.length_singleton];omega
    ·rw [show zgW (xt ds[k] as[j])=(zbI,false) from if_neg hm]
     refine jg (no (fun q=>hm ?_))
     have:=q.1
     rw [hsp,hs2] at this
     exact this _ (by simp)
  ·have hjge:as.length≤j:=by simpa using hc2
   rw [List.take_of_length_le hjge] at hok2 ⊢
   refine zz (by omega) (by omega) (hn hlt _ ⟨by simp,by omega,?_,?_⟩)
   ·rw [List.take_succ_eq_append_getElem hlt,zaB,zb9]
   ·rw [List.take_succ_eq_append_getElem hlt,zaB,zb9];exact hok2
 ·have hge:ds.length≤k:=by simpa using hc
  rw [List.take_of_length_le hge] at hok ⊢
  rw [if_pos hok] at h
  exact h
theorem zdB {a b:List zk} {ra rb:Bool} (hla:a.length≤100000) (hlb:b.length≤100000) (ha:IV a) (hb:IV b) {κ:List za×Bool→Prop} (h:κ (zj6 (opn a ra b rb))):Z0 a ra b rb κ:=by
 unfold Z0
 unfold opn at h
 refine zeJ hla ha (zeJ hlb hb ?_)
 cases hx:pt a ra with
 | none =>
  rw [hx] at h
  exact jU (jg (jg h))
 | some x =>
  cases hy:pt b rb with
  | none =>
   rw [hx,hy] at h
   exact jU (jC (jg h))
  | some y =>
   rw [hx,hy] at h
   simp only at h
   obtain ⟨hxI,hxl⟩:=zef ha hx
   obtain ⟨hyI,hyl⟩:=zef hb hy
   have hdB:=zeH hxI false
   have hcB:=zeH hyI true
   have hdl:=zdy x false
   have hcl:=zdy y true
   exact jU (jC (jC (zgN hdB hcB (by omega) (by omega) h)))
open Classical in
noncomputable def cv (s:zL):Option (List zk):=if SV s then cf s else none
theorem zhG {s:zL} {l:List zk} (h:cv s=some l):SV s∧cf s=some l:=by
 unfold cv at h
 split at h
 ·rename_i q;exact ⟨q,h⟩
 ·cases h
theorem zjH {s:zL} (hs:SV s):cv s=cf s:=by unfold cv;rw [if_pos hs]
def ckO (o c:Option (List za)):Int:=match o,c with
 | some o,some c=>(if c=[] then 0 else 1)+(if o=[] then 0 else 2)
 | _,_=>4
noncomputable def ck (s t:zL):Int:=match cv s,cv t with
 | some a,some b=>ckO (opn a s.xAccept b t.xAccept) (opn b t.xAccept a s.xAccept)
 | _,_=>4
theorem zep {s:zL} (hb:Bd s) {κ:List zk×Bool→Prop} (h1:∀ l,cv s=some l→κ (l,true)) (h2:cv s=none→κ ([],false)):u6 s κ :=
 zdC hb (fun hs l hl=>h1 l (by rw [zjH hs];exact hl)) (fun q=>h2 (by
  unfold cv
  split
  ·rename_i hs;exact q hs
  ·rfl))
theorem zhs {s:zL} {l:List zk} (h:cv s=some l):IV l∧l.length≤60:=zmn (zhG h).1 (zhG h).2
theorem zjX {α:Type} (l:List α):decide (0<(l.length:Int))=!decide (l=[]):=by
 cases l with
 | nil=>rfl
 | cons x l=>simp
theorem Yk {s t:zL} (hs:Bd s) (ht:Bd t) {κ:Int→Prop} (h:κ (ck s t)):yg s t κ:=by
 unfold yg
 unfold ck at h
 refine zep hs (fun a ha=>zep ht (fun b hb=>?_) (fun q=>?_)) (fun q=>?_)
 ·rw [ha,hb] at h
  obtain ⟨a1,a2⟩:=zhs ha
  obtain ⟨b1,b2⟩:=zhs hb
  refine jU (jC (jC (zdB (by omega) (by omega) a1 b1 (zdB (by omega) (by omega) b1 a1 ?_))))
  simp only [ckO] at h
  cases ho:opn a s.xAccept b t.xAccept with
  | none =>
   rw [ho] at h
   exact jU (jg (jg h))
  | some o =>
   cases hc:opn b t.xAccept a s.xAccept with
   | none =>
    rw [ho,hc] at h
    exact jU (jC (jg h))
   | some c =>
    rw [ho,hc] at h
    simp only at h
    refine jU (jC (jC (jU ?_)))
    show ifW (decide (0<(o.length:Int))) (ifW (decide (0<(c.length:Int))) _ _) _
    rw [zjX,zjX]
    by_cases e1:o=[] <;> by_cases e2:c=[] <;> simp only [e1,e2,decide_true,decide_false,if_true,if_false,Bool.not_true,Bool.not_false,Yx,zcV] at h ⊢ <;> exact h
 ·rw [ha,q] at h
  exact jU (jC (jg h))
 ·rw [q] at h
  refine zep ht (fun b hb=>?_) (fun q2=>?_)
  ·exact jU (jg (jg h))
  ·exact jU (jg (jg h))
end
section
open Go Go.Proofs
def zmq:Option (List zk)→List zG×Bool
 | some out=>(out.map gf,true)
 | none=>([],false)
theorem zhZ {l:List zk} {rest:Bool} (hv:IV l) (hl:l.length≤60) {κ:List zG×Bool→Prop} (h:κ (zmq (pt l rest))):YF (l.map gf) rest κ:=by
 unfold YF
 have no:∀ {k},k≤l.length+1→lvN l rest k=none→κ ([],false):=fun hk q=>by
  unfold pt at h;rw [zjk q hk] at h;exact h
 refine zU (l.length+1) (fun s=>s.2) (fun k (s:List zG×Int)=>s.2=(k:Int)∧k≤l.length+1∧∃ out,lvN l rest k=some out∧s.1=out.map gf) (fun k s h=>h.1) (fun k s h=>h.2.1) ?_ ⟨rfl,by omega,[],rfl,rfl⟩
 rintro k ⟨_,_⟩ next ⟨rfl,hk,out,ho,hx⟩ hn
 simp only at hx
 subst hx
 have hok:=(zfQ hv ho).2
 have hst:=zf6 ho
 refine zn (fun hc=>?_) (fun hc=>?_)
 ·have hle:k≤l.length:=by
   have:=of_decide_eq_true hc
   simp only [List.length_map] at this;omega
  refine zdG (zdz (fun z=>z=((bx (itm l rest k).xWhere).xSides,(itm l rest k).xAccept)) ?_ ?_)
  ·rintro _ rfl
   refine ⟨by omega,by omega,by simp only [List.length_map];omega,?_⟩
   have e:((l.map gf).take (k:Int).toNat).drop (0:Int).toNat=(l.take k).map gf:=by simp [List.map_take]
   rw [e]
   refine Vv (hv.take k) (by rw [List.length_take];omega) ?_
   have hi:=zi7 hv rest k
   generalize itm l rest k=f at *
   refine zeX hi.1 (hv.take k).aB (by unfold whs;rw [List.length_map,List.length_take];omega) ?_
   cases hlr:Xe f.xWhere (whs (l.take k)) with
   | none =>
    rw [hlr] at hst
    exact jg (no (by omega) hst)
   | some lv =>
    rw [hlr] at hst
    have hl4:=(zb3 hi.1 hi.2 (hv.take k).aB hlr).2.2
    simp only at hst
    refine jC ?_
    refine zU lv.length (fun s=>s.2) (fun j (s:List zG×Int)=>s.2=(j:Int)∧j≤lv.length∧s.1=(out++dec (lv.take j) f.xAccept).map gf) (fun k s h=>h.1) (fun k s h=>h.2.1) ?_ ⟨rfl,by omega,by simp [dec]⟩
    rintro j ⟨_,_⟩ next2 ⟨rfl,hj,hx⟩ hn2
    simp only at hx
    subst hx
    refine zn (fun hc2=>?_) (fun hc2=>?_)
    ·have hjl:j<lv.length:=by
      have:=of_decide_eq_true hc2
      simp only [List.length_map] at this;omega
     refine zq j rfl (by simpa using hjl) ?_
     rw [List.getElem_map]
     refine js (by simp only [List.length_map,List.length_append,zcp,List.length_take,List.length_singleton];omega) (zz (by omega) (by omega) (hn2 hjl _ ⟨by simp,by omega,?_⟩))
     simp only [dec,List.take_succ_eq_append_getElem hjl,List.map_append,List.map_cons,List.map_nil,List.append_assoc]
     rfl
    ·have hjge:lv.length≤j:=by
      have:=of_decide_eq_false hc2
      simp only [List.length_map] at this;omega
     rw [List.take_of_length_le hjge]
     by_cases q:(out++dec lv f.xAccept).length≤400
     ·rw [if_pos q] at hst
      refine zn (fun e=>?_) (fun _=>zz (by omega) (by omega) (hn (by omega) _ ⟨by simp,by omega,_,hst,rfl⟩))
      have:=of_decide_eq_true e
      simp only [List.length_map] at this;omega
     ·rw [if_neg q] at hst
      refine zn (fun _=>no (by omega) hst) (fun e=>?_)
      have:=of_decide_eq_false e
      simp only [List.length_map] at this;omega
  ·intro K hK
   refine zn (fun e=>?_) (fun e=>?_)
   ·have hlt:k<l.length:=by
     have:=of_decide_eq_true e
     simp only [List.length_map] at this;omega
    have ix:∀ (K':zG→Prop),K' (gf l[k])→zK (l.map gf) (k:Int) K':=fun K' hK'=>zq k rfl (by simpa using hlt) (by rw [List.getElem_map];exact hK')
    refine ix _ (ix _ (hK _ ?_))
    rw [zfV hlt];rfl
   ·have hge:k=l.length:=by
     have:=of_decide_eq_false e
     simp only [List.length_map] at this;omega
    subst hge
    refine hK _ ?_
    rw [zfo]
 ·have hge:k=l.length+1:=by
   have:=of_decide_eq_false hc
   simp only [List.length_map] at this;omega
  subst hge
  unfold pt at h
  rw [ho] at h;exact h
theorem zg6 {out:List zk} {a:Bool} (hl:out.length≤100000) {κ:List zM→Prop} (h:κ ((acs out a).map bx)):Yg (out.map gf) a κ:=by
 unfold Yg
 refine zU out.length (fun s=>s.2) (fun k (s:List zM×Int)=>s.2=(k:Int)∧k≤out.length∧s.1=(acs (out.take k) a).map bx) (fun k s h=>h.1) (fun k s h=>h.2.1) ?_ ⟨rfl,by omega,by simp [acs]⟩
 rintro k ⟨_,_⟩ next ⟨rfl,hk,hx⟩ hn
 simp only at hx
 subst hx
 refine zn (fun hc=>?_) (fun hc=>?_)
 ·have hlt:k<out.length:=by simpa using hc
  have ix:∀ (K':zG→Prop),K' (gf out[k])→zK (out.map gf) (k:Int) K':=fun K' hK'=>zq k rfl (by simpa using hlt) (by rw [List.getElem_map];exact hK')
  have hal:=zdy (out.take k) a
  rw [List.length_take] at hal
  have es:acs (out.take (k+1)) a=acs (out.take k) a++(if out[k].xAccept=a then [out[k].xWhere] else []):=by
   rw [List.take_succ_eq_append_getElem hlt,zbt]
   congr 1
   exact zaI [out[k].xWhere] out[k].xAccept a
  refine jU (ix _ (zn (fun e=>ix _ ?_) (fun e=>?_)))
  ·have e':out[k].xAccept=a:=of_decide_eq_true e
   rw [if_pos e'] at es
   refine js (by simp only [List.length_map,List.length_singleton];omega) (zz (by omega) (by omega) (hn hlt _ ⟨by simp,by omega,?_⟩))
   rw [es,List.map_append];rfl
  ·have e':¬ out[k].xAccept=a:=of_decide_eq_false e
   rw [if_neg e',List.append_nil] at es
   refine zz (by omega) (by omega) (hn hlt _ ⟨by simp,by omega,?_⟩)
   rw [es]
 ·have hge:out.length≤k:=by simpa using hc
  rw [List.take_of_length_le hge];exact h
theorem zaf {l:List zk} {rest a:Bool} (hv:IV l) (hl:l.length≤60) {κ:List zM×Bool→Prop} (h1:∀ out,pt l rest=some out→κ ((acs out a).map bx,true)) (h2:pt l rest=none→κ ([],false)):Zx (l.map gf) rest a κ:=by
 have hF:=zc1 hv hl
 unfold Zx
 refine u7 hF.fb (yt hF.fb ?_)
 rw [decide_eq_true hF]
 refine jC (zhZ hv hl ?_)
 cases hp:pt l rest with
 | none=>exact jg (h2 hp)
 | some out=>exact jC (zg6 (by have:=(zef hv hp).2;omega) (h1 out hp))
theorem zii {ds as:List za} (hdB:aB ds) (hcB:aB as) (hdl:ds.length≤400) (hcl:as.length≤400) {κ:List zM×Bool→Prop} (h:κ (zlc (if okR (opF ds as) then some (opF ds as) else none))) :
  jx (fun (nx93:((List zM)×Int)→Prop) ((xs88,t92):((List zM)×Int))=>ifW (decide (t92<((ds.map bx).length:Int))) (jx (fun (nx100:((List zM)×Int)→Prop) ((xs95,t99):((List zM)×Int))=>ifW (decide (t99<((as.map bx).length:Int))) (jnW (fun (xs227:(List zM))=>jA t99 1 (fun t232=>nx100 (xs227,t232))) (fun k231=>jnW (fun (xs101:(List (List zg)))=>uM (zM.mk xs101) (fun r157=>ifW (!r157) (jJ xs95 ([(zM.mk xs101)]) (fun _=>k231 (xs95++([(zM.mk xs101)])))) (k231 xs95))) (fun k106=>zK (ds.map bx) t92 (fun e107=>zK (as.map bx) t99 (fun e109=>xD e107 e109 (fun r119=>k106 r119.xSides)))))) (jA t92 1 (fun t233=>nx93 (xs95,t233)))) (xs88,0)) (xo xs88 (fun r234=>ifW (!r234) (κ ([],false)) (κ (xs88,true))))) ([],0):=by
 have big:∀ k,(opF (ds.take k) as).length≤160000:=fun k=>by
  refine Nat.le_trans (zhc _ _) ?_
  have h1:(ds.take k).length≤400:=by rw [List.length_take];omega
  exact Nat.mul_le_mul h1 (show as.length≤400 by omega)
 refine zU ds.length (fun s=>s.2) (fun k (s:List zM×Int)=>s.2=(k:Int)∧k≤ds.length∧s.1=(opF (ds.take k) as).map bx) (fun k s h=>h.1) (fun k s h=>h.2.1) ?_ ⟨rfl,by omega,by simp [opF]⟩
 rintro k ⟨_,_⟩ next ⟨rfl,hk,hx⟩ hn
 simp only at hx
 subst hx
 have bk:=big k
 refine zn (fun hc=>?_) (fun hc=>?_)
 ·have hlt:k<ds.length:=by simpa using hc
  have hdk:=hdB _ (List.getElem_mem hlt)
  refine zU as.length (fun s=>s.2) (fun j (s:List zM×Int)=>s.2=(j:Int)∧j≤as.length∧s.1=(opF (ds.take k) as++tF ds[k] (as.take j)).map bx) (fun k s h=>h.1) (fun k s h=>h.2.1) ?_ ⟨rfl,by omega,by simp [tF]⟩
  rintro j ⟨_,_⟩ next2 ⟨rfl,hj,hx⟩ hn2
  simp only at hx
  subst hx
  refine zn (fun hc2=>?_) (fun hc2=>?_)
  ·have hjl:j<as.length:=by simpa using hc2
   have haj:=hcB _ (List.getElem_mem hjl)
   have hs3:tF ds[k] (as.take (j+1))=tF ds[k] (as.take j)++(if em4 (xt ds[k] as[j]) then [] else [xt ds[k] as[j]]):=by
    rw [List.take_succ_eq_append_getElem hjl,zdK,zfj]
   have htl:=zjs ds[k] (as.take j)
   rw [List.length_take] at htl
   refine jU (jU (zq k rfl (by simpa using hlt) (zq j rfl (by simpa using hjl) ?_)))
   rw [List.getElem_map,List.getElem_map]
   refine zcP hdk haj (UW (a:=xt ds[k] as[j]) (zn (fun e=>?_) (fun e=>?_)))
   ·have e':em4 (xt ds[k] as[j])=false:=by simpa using e
    rw [if_neg (by simp [e'])] at hs3
    refine js (by simp only [List.length_map,List.length_append,List.length_singleton];omega) (zz (by omega) (by omega) (hn2 hjl _ ⟨by simp,by omega,?_⟩))
    show List.map bx (opF (ds.take k) as++tF ds[k] (as.take j))++[bx (xt ds[k] as[j])]=_
    rw [hs3,← List.append_assoc,List.map_append (l₁:=opF (ds.take k) as++tF ds[k] (as.take j))];rfl
   ·have e':em4 (xt ds[k] as[j])=true:=by simpa using e
    rw [if_pos e',List.append_nil] at hs3
    refine zz (by omega) (by omega) (hn2 hjl _ ⟨by simp,by omega,?_⟩)
    rw [hs3]
  ·have hjge:as.length≤j:=by simpa using hc2
   rw [List.take_of_length_le hjge]
   refine zz (by omega) (by omega) (hn hlt _ ⟨by simp,by omega,?_⟩)
   rw [List.take_succ_eq_append_getElem hlt,zaB,zb9]
 ·have hge:ds.length≤k:=by simpa using hc
  rw [List.take_of_length_le hge] at bk ⊢
  refine yK (zmh hdB hcB) (by omega) (fun ok=>?_) (fun no=>?_)
  ·rw [if_pos ok] at h;exact jC h
  ·rw [if_neg no] at h;exact jg h
theorem zcX {a b:List zk} {ra rb:Bool} (ha:IV a) (hb:IV b) (hla:a.length≤60) (hlb:b.length≤60) {κ:List zM×Bool→Prop} (h:κ (zlc (opn a ra b rb))):Zw (a.map gf) ra (b.map gf) rb κ:=by
 unfold Zw
 unfold opn at h
 refine u7 (zc1 ha hla).fb (u7 (zc1 hb hlb).fb ?_)
 refine zaf ha hla (fun x hx=>?_) (fun hx=>?_)
 ·rw [hx] at h
  refine zaf hb hlb (fun y hy=>?_) (fun hy=>?_)
  ·rw [hy] at h
   simp only at h
   obtain ⟨hxI,hxl⟩:=zef ha hx
   obtain ⟨hyI,hyl⟩:=zef hb hy
   have hdB:=zeH hxI false
   have hcB:=zeH hyI true
   have hdl:=zdy x false
   have hcl:=zdy y true
   exact jU (jC (jC (zii hdB hcB (by omega) (by omega) h)))
  ·rw [hy] at h
   exact jU (jC (jg h))
 ·rw [hx] at h
  refine zaf hb hlb (fun y hy=>?_) (fun hy=>?_)
  ·exact jU (jg (jg h))
  ·exact jU (jg (jg h))
theorem zfL {s:zL} (hb:Bd s) {κ:List zG×Bool→Prop} (h1:∀ l,cv s=some l→κ (l.map gf,true)) (h2:cv s=none→κ ([],false)):ZD s κ :=
 zen hb (fun hs l hl=>h1 l (by rw [zjH hs];exact hl)) (fun q=>h2 (by
  unfold cv
  split
  ·rename_i hs;exact q hs
  ·rfl))
theorem zbk {s t:zL} (hs:Bd s) (ht:Bd t) {κ:Int→Prop} (h:κ (ck s t)):ZU s t κ:=by
 unfold ZU
 unfold ck at h
 refine zfL hs (fun a ha=>zfL ht (fun b hb=>?_) (fun q=>?_)) (fun q=>?_)
 ·rw [ha,hb] at h
  obtain ⟨a1,a2⟩:=zhs ha
  obtain ⟨b1,b2⟩:=zhs hb
  refine jU (jC (jC (zcX a1 b1 a2 b2 (zcX b1 a1 b2 a2 ?_))))
  simp only [ckO] at h
  cases ho:opn a s.xAccept b t.xAccept with
  | none =>
   rw [ho] at h
   exact jU (jg (jg h))
  | some o =>
   cases hc:opn b t.xAccept a s.xAccept with
   | none =>
    rw [ho,hc] at h
    exact jU (jC (jg h))
   | some c =>
    rw [ho,hc] at h
    simp only at h
    refine jU (jC (jC (jU ?_)))
    show ifW (decide (0<((c.map bx).length:Int))) _ _
    have e1:decide (0<((c.map bx).length:Int))=!decide (c=[]):=by rw [List.length_map];exact zjX c
    have e2:decide (0<((o.map bx).length:Int))=!decide (o=[]):=by rw [List.length_map];exact zjX o
    rw [e1]
    by_cases q1:c=[]
    ·rw [if_pos q1] at h
     rw [decide_eq_true q1]
     refine jC (jU ?_)
     show ifW (decide (0<((o.map bx).length:Int))) _ _
     rw [e2]
     by_cases q2:o=[]
     ·rw [if_pos q2] at h
      rw [decide_eq_true q2]
      exact jC h
     ·rw [if_neg q2] at h
      rw [decide_eq_false q2]
      exact jg (zz (by decide) (by decide) h)
    ·rw [if_neg q1] at h
     rw [decide_eq_false q1]
     refine jg (zz (by decide) (by decide) (jU ?_))
     show ifW (decide (0<((o.map bx).length:Int))) _ _
     rw [e2]
     by_cases q2:o=[]
     ·rw [if_pos q2] at h
      rw [decide_eq_true q2]
      exact jC h
     ·rw [if_neg q2] at h
      rw [decide_eq_false q2]
      exact jg (zz (by decide) (by decide) h)
 ·rw [ha,q] at h
  exact jU (jC (jg h))
 ·rw [q] at h
  refine zfL ht (fun b hb=>?_) (fun q2=>?_)
  ·exact jU (jg (jg h))
  ·exact jU (jg (jg h))
end
section
open Go Go.Proofs
theorem za0 {code:List UInt8} {κ:zX→Prop} (h:∀ p,κ p):yu code κ:=by
 unfold yu
 exact zia (fun b2 hb2=>zf9 hb2 (by omega) (by omega) (by omega) (fun q p2 _ _=>h q))
theorem zhB:zlQ []:=⟨⟨by simp,by simp⟩,by simp,by simp⟩
theorem zjL (b:Bool):SV ⟨[[]],b⟩:=zjh (l:=[]) (rest:=b) zhB
theorem zkC (b:Bool):Bd ⟨[[]],b⟩:=(show Bs ([[]]:List (List zS)) from zlr (l:=[]) (rest:=b) (by simp)).bd
theorem zi9 (b:Bool) {p:zX} (hp:pv p):jdg ⟨[[]],b⟩ p=b:=zlf (l:=[]) (rest:=b) hp zhB
theorem zkV (b:Bool):cv ⟨[[]],b⟩=some []:=by
 have hs:=zjL b
 rw [zjH hs]
 have hu:uf ⟨[[]],b⟩=some []:=by
  unfold uf
  rw [zjw hs.cn hs.2.2 0]
  have e:chn ([[]]:List (List zS)) 0=[]:=rfl
  show Option.map _ (url _ (chn [[]] 0) _ _ _)=_
  rw [e]
  unfold url
  rw [List.nil_append,if_pos zcj];rfl
 unfold cf
 rw [hu]
 have:(shF [] b).length≤0:=zhS (l:=[]) (rest:=b) VK
 simp only [Option.map_some,Option.some.injEq]
 exact List.length_eq_zero_iff.1 (by omega)
theorem zjo:em4 Zq=false:=by
 rw [zhF];exact ⟨by simp [Zq],by simp [Zq],by simp [Zq],by simp [Zq]⟩
theorem zkE (b:Bool):pt [] b=some [⟨Zq,b⟩]:=by
 unfold pt lvN lvN
 have e:Xe Zq (whs [])=some [Zq]:=by
  unfold Xe
  rw [zjo];rfl
 show (match Xe Zq (whs []) with | none=>none | some lv=>if ([]++dec lv b).length≤400 then some ([]++dec lv b) else none)=_
 rw [e];rfl
theorem ze8 (f:zk) (a:Bool):acs [f] a=if f.xAccept=a then [f.xWhere] else []:=zaI [f.xWhere] f.xAccept a
theorem zjd (b:Bool):∃ o,opn [] b [] (!b)=some o:=by
 unfold opn
 rw [zkE,zkE]
 simp only
 cases b with
 | true =>
  have e:acs [(⟨Zq,true⟩:zk)] false=[]:=by rw [ze8];rfl
  rw [e]
  exact ⟨[],if_pos Vc⟩
 | false =>
  have e1:acs [(⟨Zq,false⟩:zk)] false=[Zq]:=by rw [ze8];rfl
  have e2:acs [(⟨Zq,true⟩:zk)] true=[Zq]:=by rw [ze8];rfl
  have ok:okR (opF [Zq] [Zq]):=by
   refine ⟨fun c hc=>?_,Nat.le_trans (zhc _ _) (by simp)⟩
   obtain ⟨d,hd,e,he,_,rfl⟩:=zbu.1 hc
   rw [List.mem_singleton] at hd he
   subst hd he
   decide
  show ∃ o,(if okR (opF (acs [⟨Zq,false⟩] false) (acs [⟨Zq,true⟩] true)) then some (opF (acs [⟨Zq,false⟩] false) (acs [⟨Zq,true⟩] true)) else none)=some o
  rw [e1,e2]
  exact ⟨_,if_pos ok⟩
theorem zkD:ck ⟨[[]],false⟩ ⟨[[]],true⟩=2∧ck ⟨[[]],true⟩ ⟨[[]],false⟩=1:=by
 obtain ⟨o,ho⟩:=zjd false
 obtain ⟨c,hc⟩:=zjd true
 have p0:pv ⟨0,0,0,0⟩:=by refine ⟨?_,?_,?_,?_⟩ <;> constructor <;> decide
 have e1:o≠[]:=(zjC VK VK ho).2 ⟨⟨0,0,0,0⟩,p0,by rw [zfB];rfl,by rw [zfB];rfl⟩
 have e2:c=[]:=by
  by_cases q:c=[]
  ·exact q
  ·obtain ⟨p,_,k,_⟩:=(zjC VK VK hc).1 q
   rw [zfB] at k;cases k
 unfold ck
 rw [zkV,zkV]
 show ckO (opn [] false [] (!false)) (opn [] true [] (!true))=2∧ckO (opn [] true [] (!true)) (opn [] false [] (!false))=1
 rw [ho,hc]
 unfold ckO
 simp [e1,e2]
theorem zaT (code:List UInt8):ZP code (fun r=>r=true):=by
 unfold ZP
 refine zn (fun _=>rfl) (fun _=>za0 (fun p=>jU ?_))
 have c1:=zkD.1
 have c2:=zkD.2
 have f1:=zkC false
 have t1:=zkC true
 refine Yk f1 t1 (zbk f1 t1 (zn (fun _=>Yk f1 t1 ?_) (fun e=>by simp at e)))
 rw [c1]
 refine jg (Yk t1 f1 ?_)
 rw [c2]
 refine jg ?_
 by_cases hp:pv p
 ·refine UJ t1 (fun _ _=>U3 ?_) (fun q=>absurd ⟨zjL _,hp⟩ q)
  rw [zi9 _ hp,decide_eq_true hp]
  refine jg (UJ f1 (fun _ _=>?_) (fun q=>absurd ⟨zjL _,hp⟩ q))
  rw [zi9 _ hp]
  exact jg (zhb rfl)
 ·refine UJ t1 (fun _ q=>absurd q hp) (fun _=>U3 ?_)
  rw [decide_eq_false hp]
  exact jg (UJ f1 (fun _ q=>absurd q hp) (fun _=>jg (zhb rfl)))
end
end Go.Proofs.YtgpdnnhmndlljaaGreatDoor
