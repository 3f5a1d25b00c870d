import Derived.Test.YtgpdnnhmndlljaaGreatDoorMP1
set_option linter.unusedSimpArgs false
set_option linter.unusedVariables false
set_option linter.unusedSectionVars false
namespace Go.Proofs.YtgpdnnhmndlljaaGreatDoor
section
open Go Go.Proofs
theorem zfK {a:za} {bs:List za} (ha:B4 a) (hf:F4 a) (hb:aB bs) (hl:bs.length≤4294967296) {κ:List za×Bool→Prop} (h:κ (zkX (V4 a bs))):u5 a bs κ:=by
 unfold u5
 refine zdH (zm (fun e=>?_) (fun e=>?_))
 ·unfold V4 at h;rw [if_pos e] at h;exact h
 unfold V4 at h;rw [if_neg (by simp [e])] at h
 refine xR ?_
 refine zV bs.length (fun s=>s.2) (fun k (s:List za×Int)=>s.2=(k:Int)∧k≤bs.length∧aB s.1∧okR s.1∧lgo [a] bs=lgo s.1 (bs.drop k)) (fun k s h=>h.1) (fun k s h=>h.2.1) ?_ ⟨rfl,by omega,fun c hc=>by simp only [List.mem_singleton] at hc;subst hc;exact ha,⟨fun c hc=>by simp only [List.mem_singleton] at hc;subst hc;exact hf,by simp⟩,rfl⟩
 rintro k ⟨left,_⟩ next ⟨rfl,hk,hB,hO,he⟩ hn
 simp only at hB hO he
 refine zm (fun hc=>?_) (fun hc=>?_)
 rotate_left
 ·have hge:bs.length≤k:=by simpa using hc
  rw [he,List.drop_of_length_le hge] at h
  exact h
 have hlt:k<bs.length:=by simpa using hc
 rw [List.drop_eq_getElem_cons hlt] at he
 have hbk:=hb _ (List.getElem_mem hlt)
 have no:¬ okR (xy left bs[k])→κ ([],false):=fun q=>by
  rw [he] at h;unfold lgo at h;rw [if_neg q] at h;exact h
 refine zo k rfl hlt ?_
 have hlen:=hO.2
 refine zV left.length (fun s=>s.2) (fun j (s:List za×Int)=>s.2=(j:Int)∧j≤left.length∧s.1=xy (left.take j) bs[k]∧okR (xy (left.take j) bs[k])) (fun k s h=>h.1) (fun k s h=>h.2.1) ?_ ⟨rfl,by omega,by simp [xy],by simp [xy,okR,UZ]⟩
 rintro j ⟨_,_⟩ next2 ⟨rfl,hj,hx,hok⟩ hn2
 simp only at hx
 subst hx
 refine zm (fun hc2=>?_) (fun hc2=>?_)
 ·have hjl:j<left.length:=by simpa using hc2
  have hcB:=hB _ (List.getElem_mem hjl)
  have hcF:=hO.1 _ (List.getElem_mem hjl)
  have hl4:=VS left[j] bs[k]
  have hl2:=hok.2
  have split3:xy left bs[k]=xy (left.take j) bs[k]++(XD left[j] bs[k]++xy (left.drop (j+1)) bs[k]):=by
   have:=List.take_append_drop j left
   rw [List.drop_eq_getElem_cons hjl] at this
   have e2:=congrArg (fun l=>xy l bs[k]) this
   simp only [ZH] at e2
   rw [← e2]
   rw [show left[j] :: left.drop (j+1)=[left[j]]++left.drop (j+1) from rfl,ZH,X7]
  refine zo j rfl hjl (zcT hcB hbk hcF ?_)
  by_cases hFc:∀ c∈XD left[j] bs[k],F4 c
  ·rw [show zds left[j] bs[k]=(XD left[j] bs[k],true) from if_pos hFc]
   refine xR (jR (zx (by omega) (by omega) (zm (fun e=>no (fun q=>?_)) (fun e=>?_))))
   ·have:=q.2
    rw [split3] at this
    simp only [List.length_append] at this
    simp at e
    omega
   ·have e':(xy (left.take j) bs[k]).length+(XD left[j] bs[k]).length≤400:=by simp at e;omega
    refine jj (by omega) (zx (by omega) (by omega) (hn2 hjl _ ⟨by simp,by omega,?_,?_⟩))
    ·rw [List.take_succ_eq_append_getElem hjl,ZH,X7]
    ·rw [List.take_succ_eq_append_getElem hjl,ZH,X7]
     exact ⟨yd.2 ⟨hok.1,hFc⟩,by rw [List.length_append];exact e'⟩
  ·rw [show zds left[j] bs[k]=([],false) from if_neg hFc]
   refine xR (jt (jt (no (fun q=>hFc ?_))))
   have:=q.1
   rw [split3] at this
   exact (yd.1 (yd.1 this).2).1
 ·have hjge:left.length≤j:=by simpa using hc2
  rw [List.take_of_length_le hjge] at hok ⊢
  have he2:lgo [a] bs=lgo (xy left bs[k]) (bs.drop (k+1)):=by
   rw [he];conv=>lhs;unfold lgo
   rw [if_pos hok]
  refine zm (fun e=>?_) (fun e=>?_)
  ·have:xy left bs[k]=[]:=by
    have:(xy left bs[k]).length=0:=by
     have:((xy left bs[k]).length:Int)=0:=by simpa using e
     omega
    exact List.length_eq_zero_iff.1 this
   rw [this] at he2 ⊢
   rw [he2,zeS] at h
   exact h
  ·exact zx (by omega) (by omega) (hn hlt _ ⟨by simp,by omega,V6 hB hbk,hok,he2⟩)
def IV (l:List zl):Prop:=∀ f∈l,B4 f.xWhere∧F4 f.xWhere
theorem FV.iv {l:List zB} (h:FV l):IV (l.map fl):=fun f hf=>by
 obtain ⟨g,hg,rfl⟩:=List.mem_map.1 hf
 exact ⟨(h.2 g hg).b4,(h.2 g hg).f4⟩
def whs (l:List zl):List za:=l.map (·.xWhere)
theorem IV.aB {l:List zl} (h:IV l):aB (whs l):=fun c hc=>by
 obtain ⟨f,hf,rfl⟩:=List.mem_map.1 hc
 exact (h f hf).1
theorem IV.take {l:List zl} (h:IV l) (n:Nat):IV (l.take n):=fun f hf=>h f (List.mem_of_mem_take hf)
def zh9 (l:List zl) (n:Nat) (h:n<l.length):Option (List za):=V4 l[n].xWhere (whs (l.take n))
theorem zhC {l:List zl} (hl:l.length≤100000) (hv:IV l) {n:Nat} (hn:n<l.length) {κ:List za×Bool→Prop} (h:κ (zkX (zh9 l n hn))):YW l n κ:=by
 unfold YW
 refine zo n rfl hn ⟨by omega,by omega,by omega,?_⟩
 have e:(l.take (n:Int).toNat).drop (0:Int).toNat=l.take n:=by simp
 rw [e]
 have hv2:=hv _ (List.getElem_mem hn)
 refine zhK (by simp;omega) (zfK hv2.1 hv2.2 (hv.take n).aB (by unfold whs;rw [List.length_map,List.length_take];omega) ?_)
 exact h
def dd (l:List zl) (n:Nat):Bool:=match h:l[n]? with | some f=>decide (V4 f.xWhere (whs (l.take n))=some []) | none=>false
theorem zjB {l:List zl} {n:Nat} (hn:n<l.length):dd l n=decide (zh9 l n hn=some []):=by
 unfold dd
 split
 ·rename_i f hf
  obtain ⟨_,e⟩:=List.getElem?_eq_some_iff.1 hf
  unfold zh9;rw [e]
 ·rename_i hf
  rw [List.getElem?_eq_none_iff] at hf;omega
def zjH (l:List zl):List Nat:=(List.range l.length).filter (dd l)
theorem ziK {l:List zl} (hl:l.length≤100000) (hv:IV l) {κ:List Int→Prop} (h:κ ((zjH l).map Int.ofNat)):YU l κ:=by
 unfold YU
 refine zV l.length (fun s=>s.2) (fun k (s:List Int×Int)=>s.2=(k:Int)∧k≤l.length∧s.1=((List.range k).filter (dd l)).map Int.ofNat) (fun k s h=>h.1) (fun k s h=>h.2.1) ?_ ⟨rfl,by omega,rfl⟩
 rintro k ⟨_,_⟩ next ⟨rfl,hk,hx⟩ hn
 simp only at hx
 subst hx
 refine zm (fun hc=>?_) (fun hc=>?_)
 ·have hlt:k<l.length:=by simpa using hc
  have hlen:(((List.range k).filter (dd l)).map Int.ofNat).length≤k:=by
   rw [List.length_map]
   exact Nat.le_trans (List.length_filter_le _ _) (by simp)
  refine xR (zhC hl hv hlt ?_)
  have step:∀ ys:List Int,ys=((List.range (k+1)).filter (dd l)).map Int.ofNat→jo (k:Int) 1 (fun t145=>next (ys,t145)):=fun ys hy =>
   zx (by omega) (by omega) (hn hlt _ ⟨by simp,by omega,hy⟩)
  have e1:dd l k=true→((List.range (k+1)).filter (dd l)).map Int.ofNat=((List.range k).filter (dd l)).map Int.ofNat++[(k:Int)]:=fun q=>by
   rw [List.range_succ,List.filter_append,List.map_append,List.filter_cons,q];rfl
  have e0:dd l k=false→((List.range (k+1)).filter (dd l)).map Int.ofNat=((List.range k).filter (dd l)).map Int.ofNat:=fun q=>by
   rw [List.range_succ,List.filter_append,List.map_append,List.filter_cons,q];simp
  have hd:=zjB hlt
  cases hlv:zh9 l k hlt with
  | none =>
   rw [hlv] at hd
   have hd':dd l k=false:=by rw [hd];simp
   exact xR (jR (jR (step _ (e0 hd').symm)))
  | some r =>
   rw [hlv] at hd
   refine xR (jt (zm (fun e=>?_) (fun e=>?_)))
   ·have:r=[]:=by
     have:r.length=0:=by
      have:(r.length:Int)=0:=by simpa using e
      omega
     exact List.length_eq_zero_iff.1 this
    subst this
    have hd':dd l k=true:=by rw [hd];simp
    exact jj (by simp only [List.length_singleton];omega) (step _ (e1 hd').symm)
   ·have:r≠[]:=fun q=>by rw [q] at e;simp at e
    have hd':dd l k=false:=by rw [hd];simpa using this
    exact step _ (e0 hd').symm
 ·have hge:l.length≤k:=by simpa using hc
  have:k=l.length:=by omega
  subst this
  exact h
end
section
open Go.Lib (decDigits)
def Le (cs ds:List (List zz)):Prop:=cs.length≤ds.length∧∀ (i:Nat) (c:List zz),cs[i]?=some c→∃ e,ds[i]?=some (c++e)
theorem Le.refl (cs:List (List zz)):Le cs cs:=⟨Nat.le_refl _,fun i c h=>⟨[],by simpa using h⟩⟩
theorem Le.trans {a b c:List (List zz)} (h:Le a b) (h':Le b c):Le a c:=⟨Nat.le_trans h.1 h'.1,fun i x hx=>by
 obtain ⟨e,he⟩:=h.2 i x hx
 obtain ⟨e',he'⟩:=h'.2 i _ he
 exact ⟨e++e',by rw [he',List.append_assoc]⟩⟩
end
section
def mkL {α:Type} (f:Int→α→Int×α):Int→List α→Int×List α
 | k,[]=>(k,[])
 | k,x :: xs=>((mkL f (f k x).1 xs).1,(f k x).2 :: (mkL f (f k x).1 xs).2)
theorem UK {α:Type} (f:Int→α→Int×α):∀ (k:Int) (xs:List α),(mkL f k xs).2.length=xs.length
 | k,[]=>rfl
 | k,x :: xs=>by simp only [mkL,List.length_cons,UK f _ xs]
theorem zcL {α:Type} (f:Int→α→Int×α):∀ (k:Int) (xs:List α) (x:α),mkL f k (xs++[x])=((f (mkL f k xs).1 x).1,(mkL f k xs).2++[(f (mkL f k xs).1 x).2])
 | k,[],x=>rfl
 | k,y :: xs,x=>by simp only [List.cons_append,mkL,zcL f _ xs x]
theorem Vh {α:Type} (f:Int→α→Int×α) (C:Int) (hC:0≤C):∀ (k:Int) (xs:List α),1≤k→(∀ x,x∈xs→∀ k,1≤k→k≤(f k x).1∧(f k x).1≤k+C)→k≤(mkL f k xs).1∧(mkL f k xs).1≤k+C * xs.length
 | k,[],hk,h=>by simp [mkL]
 | k,x :: xs,hk,h=>by
  obtain ⟨h1,h2⟩:=h x (by simp) k hk
  obtain ⟨h3,h4⟩:=Vh f C hC (f k x).1 xs (by omega) (fun y hy=>h y (by simp [hy]))
  simp only [mkL,List.length_cons]
  rw [Int.natCast_add,Int.mul_add]
  refine ⟨by omega,?_⟩
  simp
  omega
theorem zgE {α:Type} (f:Int→α→Int×α):∀ (k:Int) (xs:List α) (t:Nat) (x:α),xs[t]?=some x→(mkL f k xs).2[t]?=some (f (mkL f k (xs.take t)).1 x).2
 | k,[],t,x,h=>by simp at h
 | k,y :: xs,0,x,h=>by simp at h;subst h;simp [mkL]
 | k,y :: xs,t+1,x,h=>by
  simp only [mkL,List.getElem?_cons_succ,List.take_succ_cons]
  exact zgE f _ xs t x (by simpa using h)
theorem zkW {C N:Int} {k:Nat} (hC:0≤C) (hk:(k:Int)<N):0≤C * (k:Int)∧C * (k:Int)+C≤C * N:=by
 refine ⟨Int.mul_nonneg hC (by omega),?_⟩
 have h:=Int.mul_le_mul_of_nonneg_left (show (k:Int)+1≤N by omega) hC
 rw [Int.mul_add] at h
 simpa using h
theorem YO {α:Type} (f:Int→α→Int×α) (C N:Int) (a:List α) (k0:Int) (hl:(a.length:Int)≤N) (hN:N≤4294967296) (hC:0≤C) (hk1:1≤k0) (hk2:k0+C * N≤9000000000000000000)
  (hf:∀ x,x∈a→∀ k,1≤k→k≤(f k x).1∧(f k x).1≤k+C) {κ:Int×List α→Prop} (hκ:κ (mkL f k0 a)) (F:(List α×Int×Int→Prop)→List α×Int×Int→Prop)
  (hF:∀ (nx:List α×Int×Int→Prop) (xs:List α) (k:Int) (t:Nat),1≤k→(t:Int)≤N→(∀ x,xs[t]?=some x→x∈a∧k+C≤9000000000000000000∧nx (xs.set t (f k x).2,(f k x).1,(t:Int)+1))→(¬ t<xs.length→κ (k,xs))→F nx (xs,k,(t:Int))):jd F (a,k0,0):=by
 refine zV a.length (fun s=>s.2.2) (fun k s=>s=((mkL f k0 (a.take k)).2++a.drop k,(mkL f k0 (a.take k)).1,(k:Int))∧k≤a.length) (fun k s h=>by rw [h.1]) (fun k s h=>h.2) ?_ ⟨by simp [mkL],Nat.zero_le _⟩
 rintro k _ next ⟨rfl,hk⟩ hn
 obtain ⟨b1,b2⟩:=Vh f C hC k0 (a.take k) hk1 (fun x hx=>hf x (List.mem_of_mem_take hx))
 have hlt:(a.take k).length=k:=by rw [List.length_take];omega
 have hl2:(mkL f k0 (a.take k)).2.length=k:=by rw [UK,hlt]
 refine hF _ _ _ _ (by omega) (by omega) (fun x hx=>?_) (fun hge=>?_)
 ·rw [List.getElem?_append_right (by omega),hl2,Nat.sub_self,List.getElem?_drop,Nat.add_zero] at hx
  obtain ⟨h1,h2⟩:=List.getElem?_eq_some_iff.1 hx
  have hm:x∈a:=h2 ▸ List.getElem_mem h1
  refine ⟨hm,?_,hn h1 _ ⟨?_,by omega⟩⟩
  ·rw [hlt] at b2
   have:=(zkW (N:=N) (k:=k) hC (by omega)).2
   omega
  ·have ht:a.take (k+1)=a.take k++[x]:=by rw [List.take_succ_eq_append_getElem h1,h2]
   have hd:a.drop k=x :: a.drop (k+1):=by rw [List.drop_eq_getElem_cons h1,h2]
   rw [ht,zcL,hd]
   refine Prod.ext ?_ rfl
   simp only
   rw [List.set_append_right _ _ (by omega),hl2,Nat.sub_self,List.set_cons_zero,List.append_assoc]
   rfl
 ·rw [List.length_append,hl2,List.length_drop] at hge
  have:k=a.length:=by omega
  rw [this,List.take_length,List.drop_length,List.append_nil]
  exact hκ
theorem zaw {α:Type} (f:Int→α→Int×α) (C N:Int) (a:List α) (k0:Int) (hl:(a.length:Int)≤N) (hN:N≤4294967296) (hC:0≤C) (hk1:1≤k0) (hk2:k0+C * N≤9000000000000000000)
  (hf:∀ x,x∈a→∀ k,1≤k→k≤(f k x).1∧(f k x).1≤k+C) {κ:Int→Prop} (hκ:κ (mkL f k0 a).1) (F:(Int×Int→Prop)→Int×Int→Prop)
  (hF:∀ (nx:Int×Int→Prop) (k:Int) (t:Nat),1≤k→(t:Int)≤N→(∀ x,a[t]?=some x→x∈a∧k+C≤9000000000000000000∧(mkL f k0 a).2[t]?=some (f k x).2∧nx ((f k x).1,(t:Int)+1))→(¬ t<a.length→κ k)→F nx (k,(t:Int))):jd F (k0,0):=by
 refine zV a.length (fun s=>s.2) (fun k s=>s=((mkL f k0 (a.take k)).1,(k:Int))∧k≤a.length) (fun k s h=>by rw [h.1]) (fun k s h=>h.2) ?_ ⟨by simp [mkL],Nat.zero_le _⟩
 rintro k _ next ⟨rfl,hk⟩ hn
 obtain ⟨b1,b2⟩:=Vh f C hC k0 (a.take k) hk1 (fun x hx=>hf x (List.mem_of_mem_take hx))
 have hlt:(a.take k).length=k:=by rw [List.length_take];omega
 refine hF _ _ _ (by omega) (by omega) (fun x hx=>?_) (fun hge=>?_)
 ·obtain ⟨h1,h2⟩:=List.getElem?_eq_some_iff.1 hx
  have hm:x∈a:=h2 ▸ List.getElem_mem h1
  refine ⟨hm,?_,zgE f k0 a k x hx,hn h1 _ ⟨?_,by omega⟩⟩
  ·rw [hlt] at b2
   have:=(zkW (N:=N) (k:=k) hC (by omega)).2
   omega
  ·have ht:a.take (k+1)=a.take k++[x]:=by rw [List.take_succ_eq_append_getElem h1,h2]
   rw [ht,zcL]
   rfl
 ·have:k=a.length:=by omega
  rw [this,List.take_length]
  exact hκ
theorem zfr {α:Type} (P:α→Prop) (a:List α) (left:Int) (h0:0≤left) (h1:left≤1048576) (hl:a.length≤4294967296) {κ:Int→Prop} (hκ:∀ r,0≤r→r≤left→(∀ x,x∈a→P x)→κ r) (F:(Int×Int→Prop)→Int×Int→Prop)
  (hF:∀ (nx:Int×Int→Prop) (r:Int) (t:Nat),0≤r→r≤1048576→t≤a.length→(∀ x,a[t]?=some x→∀ r',0≤r'→r'≤r→P x→nx (r',(t:Int)+1))→(¬ t<a.length→κ r)→F nx (r,(t:Int))):jd F (left,0):=by
 refine zV a.length (fun s=>s.2) (fun k s=>s.2=(k:Int)∧k≤a.length∧0≤s.1∧s.1≤left∧∀ x,x∈a.take k→P x) (fun k s h=>h.1) (fun k s h=>h.2.1) ?_ ⟨rfl,Nat.zero_le _,h0,Int.le_refl _,by simp⟩
 rintro k ⟨r,t⟩ next ⟨rfl,hk,hr0,hr1,hP⟩ hn
 simp only at hr0 hr1 hP
 refine hF _ _ _ hr0 (by omega) hk (fun x hx r' g0 g1 hp=>?_) (fun hge=>hκ r hr0 hr1 ?_)
 ·obtain ⟨e1,e2⟩:=List.getElem?_eq_some_iff.1 hx
  refine hn e1 _ ⟨by simp,by omega,g0,by simp only;omega,fun y hy=>?_⟩
  rw [List.take_succ_eq_append_getElem e1,List.mem_append,List.mem_singleton] at hy
  rcases hy with hy | rfl
  ·exact hP y hy
  ·rw [e2];exact hp
 ·have:k=a.length:=by omega
  rw [this,List.take_length] at hP
  exact hP
theorem VX {α:Type} (a:List α) (hl:a.length≤4294967296) {κ:Bool→Prop} (hκ:κ true) (F:(Int→Prop)→Int→Prop)
  (hF:∀ (nx:Int→Prop) (t:Nat),t≤a.length→(∀ x,a[t]?=some x→x∈a∧nx ((t:Int)+1))→(¬ t<a.length→κ true)→F nx (t:Int)):jd F 0:=by
 refine zV a.length (fun s=>s) (fun k s=>s=(k:Int)∧k≤a.length) (fun k s h=>h.1) (fun k s h=>h.2) ?_ ⟨rfl,Nat.zero_le _⟩
 rintro k _ next ⟨rfl,hk⟩ hn
 refine hF _ _ hk (fun x hx=>?_) (fun _=>hκ)
 obtain ⟨e1,e2⟩:=List.getElem?_eq_some_iff.1 hx
 exact ⟨e2 ▸ List.getElem_mem e1,hn e1 _ ⟨by omega,by omega⟩⟩
theorem zaS {α:Type} {xs:List α} {t:Nat} {x:α} {κ:α→Prop} (h:xs[t]?=some x) (hk:κ x):zI xs (t:Int) κ:=⟨x,by omega,by simpa using h,hk⟩
end
section
open Go.Lib (decDigits)
def Br (r:zz):Prop:=r.xTests.length≤1048576
def Bq (c:List zz):Prop:=c.length≤1048576∧∀ r,r∈c→Br r
def Bs (cs:List (List zz)):Prop:=cs.length≤1048576∧∀ c,c∈cs→Bq c
theorem Bs.bd {s:zS} (h:Bs s.xChains):Bd s:=⟨by have:=h.1;omega,fun c hc=>⟨by have:=(h.2 c hc).1;omega,fun r hr=>by have:r.xTests.length≤1048576:=(h.2 c hc).2 r hr;omega⟩⟩
theorem SV.bs {s:zS} (h:SV s):Bs s.xChains:=⟨by have:=h.1.1;omega,fun c hc=>⟨by have:=(h.1.2 c hc).1;omega,fun r hr=>by have:r.xTests.length≤6:=((h.1.2 c hc).2 r hr).1.1.2;unfold Br;omega⟩⟩
theorem zhs {a:List jh} {left:Int} {κ:Int→Prop} (hl:a.length≤9223372036854775807) (h0:0≤left) (h1:left≤1048576) (hn:κ (-1)) (h:∀ r,0≤r→r≤left→a.length≤1048576→κ r):Ys a left κ:=by
 unfold Ys
 refine ZU (by omega) (by omega) (zm (fun _=>hn) (fun hc=>?_))
 simp at hc
 exact h _ (by omega) (by omega) (by omega)
theorem zid {x:zz} {left:Int} {κ:Int→Prop} (hl:x.xTests.length≤9223372036854775807) (h0:0≤left) (h1:left≤1048576) (hn:κ (-1)) (h:∀ r,0≤r→r≤left→Br x→κ r):YQ x left κ:=by
 unfold YQ
 refine zhs hl h0 h1 (zm (fun _=>hn) (fun hc=>by simp at hc)) (fun r a b c=>zm (fun hc=>by simp at hc;omega) (fun _=>h r a b c))
theorem zhh {a:List zz} {left:Int} {κ:Int→Prop} (hl:a.length≤9223372036854775807) (hl2:∀ r,r∈a→r.xTests.length≤9223372036854775807) (h0:0≤left) (h1:left≤1048576) (hn:κ (-1)) (h:∀ r,0≤r→r≤left→Bq a→κ r):Yz a left κ:=by
 unfold Yz
 refine ZU (by omega) (by omega) (zm (fun _=>hn) (fun hc=>?_))
 simp at hc
 refine zfr Br a _ (by omega) (by omega) (by omega) (fun r a b c=>h r a (by omega) ⟨by omega,c⟩) _ (fun nx r t g0 g1 g2 ht hf=>?_)
 refine zm (fun hc=>?_) (fun hc=>hf (by simpa using hc))
 have hlt:t<a.length:=by simpa using hc
 refine zo t rfl hlt ?_
 refine zid (hl2 _ (List.getElem_mem hlt)) g0 g1 (zm (fun _=>hn) (fun hc=>by simp at hc)) (fun r' e0 e1 e2=>zm (fun hc=>by simp at hc;omega) (fun _=>zx (by omega) (by omega) ?_))
 exact ht _ (by simp [hlt]) r' e0 e1 e2
theorem zgh {a:List (List zz)} {left:Int} {κ:Int→Prop} (hl:a.length≤9223372036854775807) (hl2:∀ c,c∈a→c.length≤9223372036854775807∧∀ r,r∈c→r.xTests.length≤9223372036854775807) (h0:0≤left) (h1:left≤1048576) (hn:κ (-1)) (h:∀ r,0≤r→r≤left→Bs a→κ r):XT a left κ:=by
 unfold XT
 refine ZU (by omega) (by omega) (zm (fun _=>hn) (fun hc=>?_))
 simp at hc
 refine zfr Bq a _ (by omega) (by omega) (by omega) (fun r a b c=>h r a (by omega) ⟨by omega,c⟩) _ (fun nx r t g0 g1 g2 ht hf=>?_)
 refine zm (fun hc=>?_) (fun hc=>hf (by simpa using hc))
 have hlt:t<a.length:=by simpa using hc
 refine zo t rfl hlt ?_
 have hm:=hl2 _ (List.getElem_mem hlt)
 refine zhh hm.1 hm.2 g0 g1 (zm (fun _=>hn) (fun hc=>by simp at hc)) (fun r' e0 e1 e2=>zm (fun hc=>by simp at hc;omega) (fun _=>zx (by omega) (by omega) ?_))
 exact ht _ (by simp [hlt]) r' e0 e1 e2
def zlc (s:zS):Prop:=s.xChains.length≤9223372036854775807∧∀ c,c∈s.xChains→c.length≤9223372036854775807∧∀ r,r∈c→r.xTests.length≤9223372036854775807
theorem zfZ {s:zS} {left:Int} {κ:Int→Prop} (hl:zlc s) (h0:0≤left) (h1:left≤1048576) (hn:κ (-1)) (h:∀ r,0≤r→r≤left→Bs s.xChains→κ r):Xk s left κ:=by
 unfold Xk
 refine zgh hl.1 hl.2 h0 h1 (zm (fun _=>hn) (fun hc=>by simp at hc)) (fun r a b c=>zm (fun hc=>by simp at hc;omega) (fun _=>h r a b c))
theorem zgf {a:List zz} {κ:List zz→Prop} (hb:Bq a) (h:κ a):Xd a κ:=by
 unfold Xd
 have:=hb.1
 refine Y2 a.length rfl (by omega) (by omega) (zb0 a id (by omega) (fun x ψ=>XJ x ψ) (fun x ψ hx hh=>zhq (by have:x.xTests.length≤1048576:=hb.2 x hx;omega) hh) (by simpa using h) (by simp) _ (fun nx xs t hh=>hh))
theorem zfN {a:List (List zz)} {κ:List (List zz)→Prop} (hb:Bs a) (h:κ a):XS a κ:=by
 unfold XS
 have:=hb.1
 refine Y2 a.length rfl (by omega) (by omega) (zb0 a id (by omega) (fun x ψ=>Xd x ψ) (fun x ψ hx hh=>zgf (hb.2 x hx) hh) (by simpa using h) (by simp) _ (fun nx xs t hh=>hh))
theorem Uh {s:zS} {κ:zS→Prop} (hb:Bs s.xChains) (h:κ s):uK s κ:=by
 unfold uK
 exact zfN hb h
theorem zeV {a:List zz} {κ:Bool→Prop} (hb:Bq a) (h:κ true):Yt a a κ:=by
 unfold Yt
 have:=hb.1
 refine zm (fun hc=>by simp at hc) (fun _=>VX a (by omega) h _ (fun nx t g ht hf=>zm (fun hc=>?_) (fun hc=>hf (by simpa using hc))))
 have hlt:t<a.length:=by simpa using hc
 obtain ⟨hm,hn⟩:=ht a[t] (by simp [hlt])
 refine zo t rfl hlt (zo t rfl hlt (zf2 (by have:a[t].xTests.length≤1048576:=hb.2 _ hm;omega) ?_))
 simp only [Bool.not_true,X9]
 exact zx (by omega) (by omega) hn
theorem zd1 {a:List (List zz)} {κ:Bool→Prop} (hb:Bs a) (h:κ true):XW a a κ:=by
 unfold XW
 have:=hb.1
 refine zm (fun hc=>by simp at hc) (fun _=>VX a (by omega) h _ (fun nx t g ht hf=>zm (fun hc=>?_) (fun hc=>hf (by simpa using hc))))
 have hlt:t<a.length:=by simpa using hc
 obtain ⟨hm,hn⟩:=ht a[t] (by simp [hlt])
 refine zo t rfl hlt (zo t rfl hlt (zeV (hb.2 _ hm) ?_))
 simp only [Bool.not_true,X9]
 exact zx (by omega) (by omega) hn
theorem zcW {s:zS} {κ:Bool→Prop} (hb:Bs s.xChains) (h:κ true):Xn s s κ:=by
 unfold Xn
 refine zd1 hb ?_
 simp only [Bool.not_true,X9]
 refine zm (fun hc=>by simp at hc) (fun _=>h)
def fT (k:Int) (_:jh):Int×jh:=(k+4,mkT k)
def fR (k:Int) (r:zz):Int×zz:=((mkL fT k r.xTests).1+2,zz.mk (mkL fT k r.xTests).2 (mkL fT k r.xTests).1 ((mkL fT k r.xTests).1+1))
def fC (k:Int) (c:List zz):Int×List zz:=mkL fR k c
theorem zjQ (x:jh) (k:Int) (_:1≤k):k≤(fT k x).1∧(fT k x).1≤k+4:=by simp [fT];omega
theorem ziw {x:zz} (h:Br x) (k:Int) (hk:1≤k):k≤(fR k x).1∧(fR k x).1≤k+4194306:=by
 have h':x.xTests.length≤1048576:=h
 obtain ⟨a,b⟩:=Vh fT 4 (by decide) k x.xTests hk (fun x _=>zjQ x)
 simp only [fR];omega
theorem zjC {x:List zz} (h:Bq x) (k:Int) (hk:1≤k):k≤(fC k x).1∧(fC k x).1≤k+4398048608256:=by
 have h':x.length≤1048576:=h.1
 obtain ⟨a,b⟩:=Vh fR 4194306 (by decide) k x hk (fun x hx=>ziw (h.2 x hx))
 simp only [fC];omega
theorem zeZ {a:List jh} {k0:Int} {κ:Int×List jh→Prop} (hl:a.length≤1048576) (h0:1≤k0) (h1:k0+4194304≤9000000000000000000) (h:κ (mkL fT k0 a)):Xt a k0 κ:=by
 unfold Xt
 refine YO fT 4 1048576 a k0 (by omega) (by decide) (by decide) h0 (by omega) (fun x _=>zjQ x) h _ (fun nx xs k t g0 g1 ht hf=>zm (fun hc=>?_) (fun hc=>hf (by simpa using hc)))
 have hlt:t<xs.length:=by simpa using hc
 obtain ⟨_,hk,hn⟩:=ht xs[t] (by simp [hlt])
 refine zo t rfl hlt (zx (by omega) (by omega) (Ux hlt (zx (by omega) (by omega) (Ux (zfk hlt) (zx (by omega) (by omega) (zfl (by omega) (by omega) (by omega) (Ux (zfk (zfk hlt)) (zx (by omega) (by omega) (zx (by omega) (by omega) ?_)))))))))
 simp only [List.set_set,Int.toNat_natCast]
 have e1:k+1+1+1+1=k+4:=by omega
 have e2:k+1+1+1=k+3:=by omega
 have e3:k+1+1=k+2:=by omega
 rw [e1,e2,e3]
 exact hn
theorem zfa {a:List zz} {k0:Int} {κ:Int×List zz→Prop} (hb:Bq a) (h0:1≤k0) (h1:k0+4398048608256≤9000000000000000000) (h:κ (fC k0 a)):Xp a k0 κ:=by
 unfold Xp
 have:=hb.1
 refine YO fR 4194306 1048576 a k0 (by omega) (by decide) (by decide) h0 (by omega) (fun x hx=>ziw (hb.2 x hx)) h _ (fun nx xs k t g0 g1 ht hf=>zm (fun hc=>?_) (fun hc=>hf (by simpa using hc)))
 have hlt:t<xs.length:=by simpa using hc
 obtain ⟨hm,hk,hn⟩:=ht xs[t] (by simp [hlt])
 have hbr:xs[t].xTests.length≤1048576:=hb.2 _ hm
 obtain ⟨b1,b2⟩:=ziw (hb.2 _ hm) k g0
 simp only [fR] at b1 b2 hn
 refine zo t rfl hlt (zeZ hbr g0 (by omega) ?_)
 refine Ux hlt (zx (by omega) (by omega) (Ux (zfk hlt) (zx (by omega) (by omega) (zx (by omega) (by omega) ?_))))
 simp only [List.set_set,Int.toNat_natCast]
 have e3:(mkL fT k xs[t].xTests).1+1+1=(mkL fT k xs[t].xTests).1+2:=by omega
 rw [e3]
 exact hn
theorem zdU {a:List (List zz)} {k0:Int} {κ:Int×List (List zz)→Prop} (hb:Bs a) (h0:1≤k0) (h1:k0≤1048576) (h:κ (mkL fC k0 a)):ZW a k0 κ:=by
 unfold ZW
 have:=hb.1
 refine YO fC 4398048608256 1048576 a k0 (by omega) (by decide) (by decide) h0 (by omega) (fun x hx=>zjC (hb.2 x hx)) h _ (fun nx xs k t g0 g1 ht hf=>zm (fun hc=>?_) (fun hc=>hf (by simpa using hc)))
 have hlt:t<xs.length:=by simpa using hc
 obtain ⟨hm,hk,hn⟩:=ht xs[t] (by simp [hlt])
 refine zo t rfl hlt (zfa (hb.2 _ hm) g0 (by omega) (zx (by omega) (by omega) ?_))
 simp only [Int.toNat_natCast]
 exact hn
theorem zdx {a:List (List zz)} {c:Bool} {k0:Int} {κ:Int×List (List zz)→Prop} (hb:Bs a) (h0:1≤k0) (h1:k0≤1048576) (h:κ (mkL fC k0 a)):Zy a c k0 κ:=by
 unfold Zy
 exact zdU hb h0 h1 h
theorem zkj {a:List (List zz)} (hb:Bs a) (k:Int) (hk:1≤k):k≤(mkL fC k a).1∧(mkL fC k a).1≤k+4611688217450643456:=by
 have h':a.length≤1048576:=hb.1
 obtain ⟨x,y⟩:=Vh fC 4398048608256 (by decide) k a hk (fun x hx=>zjC (hb.2 x hx))
 omega
end
section
open Go.Lib (decDigits)
theorem ziP {x:Int} (h1:-9223372036854775808≤x) (h2:x≤9223372036854775807):w64 x=x:=by
 simp [w64,IntKind.wrap,IntKind.signed,IntKind.bits];omega
def Bl (ls:List (List UInt8)):Prop:=ls.length≤3000000∧∀ l,l∈ls→l.length≤10000000
theorem Bl.take {ls:List (List UInt8)} (h:Bl ls) (n:Nat):Bl (ls.take n):=⟨by have:=h.1;simp;omega,fun l hl=>h.2 l (List.mem_of_mem_take hl)⟩
def Zs (k:Nat) (cs:List (List zz)):Prop:=cs.length≤k∧∀ c,c∈cs→c.length≤k∧∀ r,r∈c→RV r
theorem Zs.bd {k:Nat} {cs:List (List zz)} {a:Bool} (h:Zs k cs) (hk:k≤4000000):Bd ⟨cs,a⟩:=⟨by have:=h.1;simp only;omega,fun c hc=>⟨by have:=(h.2 c hc).1;omega,fun r hr=>by have:r.xTests.length≤6:=((h.2 c hc).2 r hr).1.2;omega⟩⟩
end
section
def th (t:jh) (p:uG):Bool:=decide (t.xLo≤zh4 p t.xField.toNat∧zh4 p t.xField.toNat≤t.xHi) != t.xNot
def ft (l:List jh) (p:uG):Bool:=l.all (fun t=>th t p)
def Hh (cs:List (List zz)):Nat→Nat→Prop
 | 0,_=>False
 | n+1,i=>∀ j,Ca cs i j→Hh cs n j
theorem zcB {cs:List (List zz)}:∀ {n i:Nat},Hh cs n i→Hh cs (n+1) i
 | 0,i,h=>h.elim
 | n+1,i,h=>fun j hj=>zcB (h j hj)
theorem zjx {cs:List (List zz)} {n m i:Nat} (h:Hh cs n i) (hm:n≤m):Hh cs m i:=by
 induction hm with
 | refl=>exact h
 | step _ ih=>exact zcB ih
theorem zf6 {cs:List (List zz)} {Q:Nat→Prop}:∀ (k:Nat),(∀ j,j<k→Q j→∃ n,Hh cs n j)→∃ N,∀ j,j<k→Q j→Hh cs N j
 | 0,_=>⟨0,fun j hj=>by omega⟩
 | k+1,h=>by
  obtain ⟨N,hN⟩:=zf6 k (fun j hj hq=>h j (by omega) hq)
  by_cases hq:Q k
  ·obtain ⟨n,hn⟩:=h k (by omega) hq
   refine ⟨max N n,fun j hj hqj=>?_⟩
   by_cases e:j=k
   ·subst e;exact zjx hn (by omega)
   ·exact zjx (hN j (by omega) hqj) (by omega)
  ·refine ⟨N,fun j hj hqj=>?_⟩
   by_cases e:j=k
   ·subst e;exact absurd hqj hq
   ·exact hN j (by omega) hqj
theorem zhM {cs:List (List zz)} {i:Nat} (hs:Sf cs i):∃ n,Hh cs n i:=by
 induction hs with
 | intro x hx ih =>
  obtain ⟨N,hN⟩:=zf6 (cs:=cs) (Q:=fun j=>Ca cs x j) cs.length (fun j _ hq=>ih j hq)
  refine ⟨N+1+1,fun j hj=>?_⟩
  by_cases hl:j<cs.length
  ·exact zcB (hN j hl hj)
  ·exact fun k hk=>by
    obtain ⟨c,h1,_⟩:=hk
    have:=(List.getElem?_eq_some_iff.1 h1).1
    omega
theorem zkZ {cs:List (List zz)} (hs:∀ i,i<cs.length→Sf cs i):∃ N,∀ i,Hh cs (N+1) i:=by
 obtain ⟨N,hN⟩:=zf6 (cs:=cs) (Q:=fun _=>True) cs.length (fun j hj _=>zhM (hs j hj))
 refine ⟨N,fun i=>?_⟩
 by_cases hl:i<cs.length
 ·exact zcB (hN i hl trivial)
 ·exact fun k hk=>by
   obtain ⟨c,h1,_⟩:=hk
   have:=(List.getElem?_eq_some_iff.1 h1).1
   omega
def jl (p:uG) (call:Nat→Int):List zz→Int
 | []=>5
 | r :: l=>if ft r.xTests p=true then
   (if r.xAction=1 then 1 else if r.xAction=2 then 2 else if r.xAction=4 then 5 else if r.xAction=3 then (if call r.xChain.toNat=5 then jl p call l else call r.xChain.toNat) else jl p call l)
   else jl p call l
def chn (cs:List (List zz)) (i:Nat):List zz:=cs[i]?.getD []
def jc (cs:List (List zz)) (p:uG):Nat→Nat→Int
 | 0,_=>5
 | n+1,i=>jl p (jc cs p n) (chn cs i)
theorem zeU {cs:List (List zz)} {i:Nat} {r:zz} (hr:r∈chn cs i) (h3:r.xAction=3) (h0:0≤r.xChain):Ca cs i r.xChain.toNat:=by
 unfold chn at hr
 cases h:cs[i]? with
 | none=>rw [h] at hr;simp at hr
 | some c=>rw [h] at hr;exact ⟨c,h,r,hr,h3,by omega⟩
def Cn (cs:List (List zz)):Prop:=∀ i r,r∈chn cs i→r.xAction=3→0≤r.xChain
open Classical in
noncomputable def jN (cs:List (List zz)):Nat:=if h:∃ N,∀ i,Hh cs (N+1) i then h.choose else 0
theorem zgX {cs:List (List zz)} (hs:∀ i,i<cs.length→Sf cs i) (i:Nat):Hh cs (jN cs+1) i:=by
 have h:=zkZ hs
 unfold jN
 rw [dif_pos h]
 exact h.choose_spec i
noncomputable def J (cs:List (List zz)) (p:uG) (i:Nat):Int:=jc cs p (jN cs+1) i
theorem SV.cn {s:zS} (h:SV s):Cn s.xChains:=by
 intro i r hr h3
 unfold chn at hr
 cases e:s.xChains[i]? with
 | none=>rw [e] at hr;simp at hr
 | some c =>
  rw [e] at hr
  exact (((h.1.2 c (List.mem_of_getElem? e)).2 r hr).1.2.2.2.1 h3).1
theorem zcA {cs:List (List zz)} {i:Nat} (h:i<cs.length):chn cs i=cs[i]:=by simp [chn,h]
end
section
theorem zb4:∀ (n:Nat) (l:List Nat),l.Nodup→(∀ x,x∈l→x<n)→l.length≤n
 | 0,[],_,_=>by simp
 | 0,x :: l,_,h=>by have:=h x (by simp);omega
 | n+1,l,hd,h=>by
  by_cases hm:n∈l
  ·obtain ⟨s,t,rfl⟩:=List.append_of_mem hm
   have hnd:(s++t).Nodup∧n ∉ s++t:=by
    rw [List.nodup_append] at hd ⊢
    simp only [List.nodup_cons,List.mem_cons] at hd
    obtain ⟨h1,⟨h2,h3⟩,h4⟩:=hd
    refine ⟨⟨h1,h3,fun a ha b hb=>h4 a ha b (.inr hb)⟩,fun hmem=>?_⟩
    rcases List.mem_append.1 hmem with hs | ht
    ·exact h4 n hs n (.inl rfl) rfl
    ·exact h2 ht
   have:=zb4 n (s++t) hnd.1 (fun x hx=>by
    have h1:=h x (by
     rcases List.mem_append.1 hx with hx | hx
     ·exact List.mem_append.2 (.inl hx)
     ·exact List.mem_append.2 (.inr (List.mem_cons_of_mem _ hx)))
    have h2:x≠n:=fun e=>hnd.2 (e ▸ hx)
    omega)
   simp at this ⊢;omega
  ·have:=zb4 n l hd (fun x hx=>by
    have h1:=h x hx
    have h2:x≠n:=fun e=>hm (e ▸ hx)
    omega)
   omega
def okP (cs:List (List zz)) (q:Vs):Prop:=0≤q.xChain∧q.xChain.toNat<cs.length∧0≤q.xNext∧q.xNext.toNat≤(chn cs q.xChain.toNat).length
def Stk (cs:List (List zz)) (xs:List Vs):Prop:=(∀ q,q∈xs→okP cs q)∧xs.Pairwise (fun a b=>Wy cs a.xChain.toNat b.xChain.toNat)
theorem Stk.len {cs:List (List zz)} {xs:List Vs} (hs:∀ i,i<cs.length→Sf cs i) (h:Stk cs xs):xs.length≤cs.length:=by
 have hn:(xs.map (fun q=>q.xChain.toNat)).Nodup:=by
  rw [List.Nodup,List.pairwise_map]
  refine List.Pairwise.imp_of_mem (fun {a b} ha hb hw e=>?_) h.2
  rw [← e] at hw
  exact zg2 (hs _ (h.1 a ha).2.1) hw
 have:=zb4 cs.length _ hn (fun x hx=>by
  obtain ⟨q,hq,rfl⟩:=List.mem_map.1 hx
  exact (h.1 q hq).2.1)
 simpa using this
theorem Stk.drop {cs:List (List zz)} {ys:List Vs} {q:Vs} (h:Stk cs (ys++[q])):Stk cs ys:=⟨fun x hx=>h.1 x (List.mem_append.2 (.inl hx)),(List.pairwise_append.1 h.2).1⟩
theorem Stk.move {cs:List (List zz)} {ys:List Vs} {q q':Vs} (h:Stk cs (ys++[q])) (hq:okP cs q') (hc:q'.xChain=q.xChain):Stk cs (ys++[q']):=by
 refine ⟨fun x hx=>?_,?_⟩
 ·rcases List.mem_append.1 hx with hx | hx
  ·exact h.1 x (List.mem_append.2 (.inl hx))
  ·rw [List.mem_singleton] at hx;subst hx;exact hq
 ·obtain ⟨h1,_,h3⟩:=List.pairwise_append.1 h.2
  refine List.pairwise_append.2 ⟨h1,by simp,fun a ha b hb=>?_⟩
  rw [List.mem_singleton] at hb
  subst hb
  rw [hc]
  exact h3 a ha q (by simp)
theorem Stk.push {cs:List (List zz)} {ys:List Vs} {q q':Vs} (h:Stk cs (ys++[q])) (hq:okP cs q') (hc:Ca cs q.xChain.toNat q'.xChain.toNat):Stk cs (ys++[q]++[q']):=by
 refine ⟨fun x hx=>?_,?_⟩
 ·rcases List.mem_append.1 hx with hx | hx
  ·exact h.1 x hx
  ·rw [List.mem_singleton] at hx;subst hx;exact hq
 ·refine List.pairwise_append.2 ⟨h.2,by simp,fun a ha b hb=>?_⟩
  rw [List.mem_singleton] at hb
  subst hb
  rcases List.mem_append.1 ha with ha | ha
  ·exact .more ((List.pairwise_append.1 h.2).2.2 a ha q (by simp)) hc
  ·rw [List.mem_singleton] at ha;subst ha;exact .one hc
end
section
open Go Go.Proofs
theorem V9:∀ (l:List zd) (s:zd) (out:List zd) (pl:Bool),(V1 l s out pl).1.length+(if (V1 l s out pl).2.2 then 0 else 1)≤out.length+l.length+(if pl then 0 else 1)
 | [],s,out,pl=>by cases pl <;> simp [V1]
 | x :: xs,s,out,pl=>by
  unfold V1
  by_cases c1:x.xHi+1<s.xLo
  ·rw [if_pos c1]
   have:=V9 xs s (out++[x]) pl
   simp only [List.length_append,List.length_cons,List.length_nil] at this ⊢
   omega
  ·rw [if_neg c1]
   by_cases c2:s.xHi+1<x.xLo
   ·rw [if_pos c2]
    have:=V9 xs s ((if pl then out else out++[s])++[x]) true
    cases pl <;> simp only [List.length_append,List.length_cons,List.length_nil,Bool.false_eq_true,if_true,if_false] at this ⊢ <;> omega
   ·rw [if_neg c2]
    have:=V9 xs (zd.mk (min s.xLo x.xLo) (max s.xHi x.xHi)) out pl
    simp only [List.length_cons]
    omega
theorem zg7 (l:List zd) (s:zd):(zbc l s).length≤l.length+1:=by
 have:=V9 l s [] false
 unfold zbc
 generalize V1 l s [] false=r at *
 obtain ⟨o,s',pl⟩:=r
 cases pl <;> simp at this ⊢ <;> omega
theorem zcd:∀ (xs a:List zd),(xs.foldl zbc a).length≤a.length+xs.length
 | [],a=>by simp
 | s :: xs,a=>by
  have h1:=zcd xs (zbc a s)
  have h2:=zg7 a s
  simp only [List.foldl_cons,List.length_cons]
  omega
theorem zfQ {a:za}:F4 a↔le4 a 40:=⟨fun ⟨f0,f1,f2,f3⟩ f h0 h1=>by
 rcases zcZ h0 h1 with rfl | rfl | rfl | rfl
 ·exact f0
 ·exact f1
 ·exact f2
 ·exact f3,zgl⟩
end
section
open Go Go.Proofs
def Z9 (bs:List za) (w:za):List za:=bs.flatMap (fun b=>if em4 (ur b w) then [] else [ur b w])
theorem VN (l m:List za) (w:za):Z9 (l++m) w=Z9 l w++Z9 m w:=by simp [Z9]
theorem zbv (b w:za):Z9 [b] w=if em4 (ur b w) then [] else [ur b w]:=by simp [Z9]
theorem zaW (bs:List za) (w:za):(Z9 bs w).length≤bs.length:=by
 induction bs with
 | nil=>simp [Z9]
 | cons b bs ih =>
  rw [show b :: bs=[b]++bs from rfl,VN,zbv,List.length_append,List.length_append]
  have:(if em4 (ur b w)=true then [] else [ur b w]:List za).length≤1:=by split <;> simp
  simp only [List.length_singleton];omega
theorem zgc {bs:List za} {w:za} (hb:aB bs) (hw:B4 w):aB (Z9 bs w):=fun c hc=>by
 obtain ⟨b,hb',hc⟩:=List.mem_flatMap.1 hc
 split at hc
 ·simp at hc
 ·rw [List.mem_singleton] at hc;subst hc;exact zfx (hb b hb') hw
theorem U5 (bs:List za) (w:za):(xy bs w).length≤4 * bs.length:=by
 induction bs with
 | nil=>simp [xy]
 | cons b bs ih =>
  rw [show b :: bs=[b]++bs from rfl,ZH,X7,List.length_append,List.length_append]
  have:=VS b w
  simp only [List.length_singleton];omega
def dec (l:List za) (acc:Bool):List zl:=l.map (fun b=>⟨b,acc⟩)
abbrev UR:=Option (List za×List zl)
def url (call:Nat→List za→List zl→UR):List zz→List za→List za→List zl→UR
 | [],going,left,out=>if okR (left++going) then some (left++going,out) else none
 | r :: rs,going,left,out =>
  if okR (Z9 going (Zj r.xTests))∧okR (xy going (Zj r.xTests)) then
   if r.xAction=1∨r.xAction=2 then
    if (out++dec (Z9 going (Zj r.xTests)) (decide (r.xAction=1))).length≤60 then url call rs (xy going (Zj r.xTests)) left (out++dec (Z9 going (Zj r.xTests)) (decide (r.xAction=1))) else none
   else if r.xAction=4 then url call rs (xy going (Zj r.xTests)) (left++Z9 going (Zj r.xTests)) out
   else if r.xAction=3 then
    match call r.xChain.toNat (Z9 going (Zj r.xTests)) out with
    | none=>none
    | some (b,o)=>if okR (xy going (Zj r.xTests)++b) then url call rs (xy going (Zj r.xTests)++b) left o else none
   else if okR (xy going (Zj r.xTests)++Z9 going (Zj r.xTests)) then url call rs (xy going (Zj r.xTests)++Z9 going (Zj r.xTests)) left out else none
  else none
def uc (cs:List (List zz)):Nat→Nat→List za→List zl→UR
 | 0,_,_,_=>none
 | n+1,i,boxes,out=>url (uc cs n) (chn cs i) boxes [] out
theorem zeg {f g:Nat→List za→List zl→UR}:∀ {l:List zz},(∀ r,r∈l→r.xAction=3→∀ b o,f r.xChain.toNat b o=g r.xChain.toNat b o)→∀ going left out,url f l going left out=url g l going left out
 | [],_,_,_,_=>rfl
 | r :: l,h,going,left,out=>by
  have ih:=zeg (f:=f) (g:=g) (l:=l) (fun x hx=>h x (by simp [hx]))
  unfold url
  by_cases h3:r.xAction=3
  ·rw [h r (by simp) h3];simp only [ih]
  ·simp only [h3,if_false,ih]
theorem zgC {cs:List (List zz)} (hc:Cn cs):∀ {n i:Nat},Hh cs n i→∀ b o,uc cs (n+1) i b o=uc cs n i b o
 | 0,i,h,_,_=>h.elim
 | n+1,i,h,b,o=>zeg (fun r hr h3 b o=>zgC hc (h _ (zeU hr h3 (hc i r hr h3))) b o) _ _ _
noncomputable def U (cs:List (List zz)) (i:Nat) (boxes:List za) (out:List zl):UR:=uc cs (jN cs+1) i boxes out
theorem zjG {cs:List (List zz)} (hc:Cn cs) (hs:∀ i,i<cs.length→Sf cs i) (i:Nat) (b:List za) (o:List zl):U cs i b o=url (U cs) (chn cs i) b [] o:=by
 unfold U
 rw [← zgC hc (zgX hs i)]
 rfl
theorem zff {call:Nat→List za→List zl→UR}:∀ {l:List zz} {going left:List za} {out:List zl},400<left.length→url call l going left out=none
 | [],going,left,out,h=>by
  unfold url
  rw [if_neg (fun q=>by have:=q.2;rw [List.length_append] at this;omega)]
 | r :: l,going,left,out,h=>by
  have ih:∀ {g o},url call l g left o=none:=zff h
  have ih2:∀ {g m o},url call l g (left++m) o=none:=zff (by rw [List.length_append];omega)
  unfold url
  simp only [ih,ih2]
  repeat' split
  all_goals rfl
theorem zaa:okR []:=⟨zcM,by simp⟩
theorem zil (w:za):Z9 [] w=[]:=rfl
theorem zhi (w:za):xy [] w=[]:=rfl
theorem zia {cs:List (List zz)} (hc:Cn cs):∀ {n i:Nat},Hh cs n i→∀ {o:List zl},o.length≤60→uc cs n i [] o=some ([],o)
 | 0,i,h,_,_=>h.elim
 | n+1,i,h,o,ho=>by
  have key:∀ (l:List zz) (out:List zl),(∀ r,r∈l→r∈chn cs i)→out.length≤60→url (uc cs n) l [] [] out=some ([],out):=by
   intro l
   induction l with
   | nil=>intro out _ _;unfold url;rw [List.append_nil,if_pos zaa]
   | cons r l ih =>
    intro out hl ho
    have ih':=ih out (fun x hx=>hl x (by simp [hx])) ho
    unfold url
    rw [zil,zhi,if_pos ⟨zaa,zaa⟩]
    have ed:∀ a,out++dec [] a=out:=fun a=>by simp [dec]
    split
    ·rw [ed,if_pos ho];exact ih'
    ·split
     ·exact ih'
     ·split
      ·rename_i h3
       have hr:=hl r (by simp)
       rw [zia hc (h _ (zeU hr h3 (hc i r hr h3))) ho]
       simp only [List.append_nil,zaa,if_true]
       exact ih'
      ·rw [List.append_nil,if_pos zaa];exact ih'
  exact key _ _ (fun r hr=>hr) ho
theorem zlb {cs:List (List zz)} (hc:Cn cs) (hs:∀ i,i<cs.length→Sf cs i) (i:Nat) {o:List zl} (ho:o.length≤60):U cs i [] o=some ([],o):=zia hc (zgX hs i) ho
def Uok (r:UR):Prop:=∀ l o,r=some (l,o)→aB l∧okR l∧IV o∧o.length≤60
theorem zf9 {l m:List zl} (h1:IV l) (h2:IV m):IV (l++m):=fun f hf=>(List.mem_append.1 hf).elim (h1 f) (h2 f)
theorem zf5 {l:List za} {a:Bool} (h1:aB l) (h2:UZ l):IV (dec l a):=fun f hf=>by
 obtain ⟨b,hb,rfl⟩:=List.mem_map.1 hf
 exact ⟨h1 b hb,h2 b hb⟩
theorem zgr:IV []:=fun f h=>by simp at h
theorem zfF (l:List za) (a:Bool):(dec l a).length=l.length:=by simp [dec]
theorem zdr {call:Nat→List za→List zl→UR} (hcall:∀ i b o,aB b→okR b→IV o→o.length≤60→Uok (call i b o)):∀ {l:List zz} {going left:List za} {out:List zl},(∀ r∈l,∀ t∈r.xTests,TV t)→aB going→aB left→IV out→out.length≤60→Uok (url call l going left out)
 | [],going,left,out,_,hg,hl,ho,h60=>by
  intro l o h
  unfold url at h
  split at h
  ·rename_i q
   injection h with h;injection h with h1 h2;subst h1 h2
   exact ⟨Up.2 ⟨hl,hg⟩,q,ho,h60⟩
  ·cases h
 | r :: rs,going,left,out,ht,hg,hl,ho,h60=>by
  have hw:=zaO (ht r (by simp))
  have htr:∀ r∈rs,∀ t∈r.xTests,TV t:=fun x hx=>ht x (by simp [hx])
  have hfB:=zgc hg hw
  have hmB:=V6 hg hw
  intro l o h
  unfold url at h
  split at h
  ·rename_i q
   split at h
   ·split at h
    ·rename_i q2
     exact zdr hcall htr hmB hl (zf9 ho (zf5 hfB q.1.1)) q2 l o h
    ·cases h
   ·split at h
    ·exact zdr hcall htr hmB (Up.2 ⟨hl,hfB⟩) ho h60 l o h
    ·split at h
     ·split at h
      ·cases h
      ·rename_i b o' hb
       obtain ⟨c1,c2,c3,c4⟩:=hcall _ _ _ hfB q.1 ho h60 _ _ hb
       split at h
       ·exact zdr hcall htr (Up.2 ⟨hmB,c1⟩) hl c3 c4 l o h
       ·cases h
     ·split at h
      ·exact zdr hcall htr (Up.2 ⟨hmB,hfB⟩) hl ho h60 l o h
      ·cases h
  ·cases h
def TVs (cs:List (List zz)):Prop:=∀ c∈cs,∀ r∈c,∀ t∈r.xTests,TV t
theorem TVs.chn {cs:List (List zz)} (h:TVs cs) (i:Nat):∀ r∈chn cs i,∀ t∈r.xTests,TV t:=by
 unfold Go.Proofs.YtgpdnnhmndlljaaGreatDoor.chn
 cases e:cs[i]? with
 | none=>simp
 | some c=>exact h c (List.mem_of_getElem? e)
theorem SV.tvs {s:zS} (h:SV s):TVs s.xChains:=fun c hc r hr=>((h.1.2 c hc).2 r hr).1.1.1
theorem zjD {cs:List (List zz)} (ht:TVs cs):∀ n i b o,aB b→okR b→IV o→o.length≤60→Uok (uc cs n i b o)
 | 0,i,b,o,_,_,_,_=>fun l o h=>by cases h
 | n+1,i,b,o,hb,hk,ho,h60=>zdr (zjD ht n) (ht.chn i) hb (fun c hc=>by simp at hc) ho h60
theorem zkx {cs:List (List zz)} (ht:TVs cs) (i:Nat) {b:List za} {o:List zl} (hb:aB b) (hk:okR b) (ho:IV o) (h60:o.length≤60):Uok (U cs i b o):=zjD ht _ i b o hb hk ho h60
end
section
open Go Go.Proofs
theorem YX {cs:List (List zz)} {fl:List zl} {over:Bool} {bs:List za} {κ:List za×Bool→Prop} (h1:400<bs.length→κ (bs,true)) (h2:bs.length≤400→κ (bs,over)):jO cs fl over bs κ:=by
 unfold jO
 exact xR (zm (fun e=>h1 (by simp at e;omega)) (fun e=>h2 (by simp at e;omega)))
theorem zkb {n:Int} (h0:0≤n) (h1:n≤4294967296) {κ:List za→Prop} (h:κ []):uk [] n κ:=⟨rfl,h0,h1,h⟩
theorem zaT {x y:List za} (hx:x.length≤1000000) (hy:y.length≤1000000) {κ:List za→Prop} (h:κ (x++y)):jJ [x,y] κ:=by
 unfold jJ
 refine ⟨3,?_⟩
 refine jt (zo 0 rfl (by simp) (zx (by first | (simp;done) | (simp;omega)) (by first | (simp;done) | (simp;omega)) (zm (fun e=>by have:=of_decide_eq_true e;omega) (fun _=>zx (by omega) (by omega) ?_))))
 refine jt (zo 1 rfl (by simp) (zx (by first | (simp;done) | (simp;omega)) (by first | (simp;done) | (simp;omega)) (zm (fun e=>by have:=of_decide_eq_true e;omega) (fun _=>zx (by omega) (by omega) ?_))))
 refine jR (zkb (by simp;omega) (by simp;omega) ⟨3,?_⟩)
 refine jt (zo 0 rfl (by simp) (jj (by simp;omega) (zx (by omega) (by omega) ?_)))
 refine jt (zo 1 rfl (by simp) (jj (by simp;omega) (zx (by omega) (by omega) ?_)))
 exact jR h
theorem ziO {cs:List (List zz)} {fl:List zl} {bs:List za} {w:za} (hB:aB bs) (hF:UZ bs) (hl:bs.length≤400) (hw:B4 w) {κ:List za×List za×Bool→Prop}
  (h1:okR (Z9 bs w)→okR (xy bs w)→κ (Z9 bs w,xy bs w,false)) (h2:¬ (okR (Z9 bs w)∧okR (xy bs w))→∀ x y,κ (x,y,true)):yf cs fl false bs w κ:=by
 unfold yf
 refine zV bs.length (fun s=>s.2.2) (fun k (s:List za×List za×Int)=>s.2.2=(k:Int)∧k≤bs.length∧s.1=Z9 (bs.take k) w∧s.2.1=xy (bs.take k) w∧UZ (Z9 (bs.take k) w)∧UZ (xy (bs.take k) w)) (fun k s h=>h.1) (fun k s h=>h.2.1) ?_ ⟨rfl,by omega,by simp [Z9],by simp [xy],by simp [Z9,UZ],by simp [xy,UZ]⟩
 rintro k ⟨_,_,_⟩ next ⟨rfl,hk,hx,hy,hfx,hfy⟩ hn
 simp only at hx hy
 subst hx hy
 refine zm (fun hc=>?_) (fun hc=>?_)
 ·have hlt:k<bs.length:=by simpa using hc
  have hbB:=hB _ (List.getElem_mem hlt)
  have hbF:=hF _ (List.getElem_mem hlt)
  have hs:bs=bs.take k++(bs[k] :: bs.drop (k+1)):=by rw [← List.drop_eq_getElem_cons hlt,List.take_append_drop]
  have hfl:=zaW (bs.take k) w
  have hml:=U5 (bs.take k) w
  rw [List.length_take] at hfl hml
  refine zo k rfl hlt (xR ?_)
  have ef:Z9 (bs.take (k+1)) w=Z9 (bs.take k) w++(if em4 (ur bs[k] w) then [] else [ur bs[k] w]):=by
   rw [List.take_succ_eq_append_getElem hlt,VN,zbv]
  have em:xy (bs.take (k+1)) w=xy (bs.take k) w++XD bs[k] w:=by
   rw [List.take_succ_eq_append_getElem hlt,ZH,X7]
  have second:∀ xs,xs=Z9 (bs.take (k+1)) w→UZ xs→uL bs[k] w (fun (r286,r289)=>ifW (!r289) (κ ([],[],true)) (jG (xy (bs.take k) w) r286 (fun _=>jo (k:Int) 1 (fun t294=>next (xs,((xy (bs.take k) w)++r286),t294))))):=by
   rintro _ rfl hxf
   refine zcT hbB hw hbF ?_
   by_cases hFc:∀ c∈XD bs[k] w,F4 c
   ·rw [show zds bs[k] w=(XD bs[k] w,true) from if_pos hFc]
    have:=VS bs[k] w
    refine jR (jj (by omega) (zx (by omega) (by omega) (hn hlt _ ⟨by simp,by omega,rfl,em.symm,hxf,?_⟩)))
    rw [em];exact yd.2 ⟨hfy,hFc⟩
   ·rw [show zds bs[k] w=([],false) from if_neg hFc]
    refine jt (h2 (fun q=>hFc ?_) _ _)
    have:=q.2.1
    rw [hs,ZH,show bs[k] :: bs.drop (k+1)=[bs[k]]++bs.drop (k+1) from rfl,ZH,X7] at this
    exact (yd.1 (yd.1 this).2).1
  refine zex hbB hw (zm (fun e=>?_) (fun e=>?_))
  ·have e':em4 (ur bs[k] w)=false:=by simpa using e
   refine zjb hbB hw ?_
   by_cases hm:F4 (ur bs[k] w)
   ·rw [show zhR (ur bs[k] w)=(ur bs[k] w,true) from if_pos hm]
    refine jR (jj (by simp;omega) (second _ ?_ ?_))
    ·rw [ef,e'];simp
    ·refine yd.2 ⟨hfx,fun c hc=>?_⟩
     rw [List.mem_singleton] at hc;subst hc;exact hm
   ·rw [show zhR (ur bs[k] w)=(zcb,false) from if_neg hm]
    refine jt (h2 (fun q=>hm ?_) _ _)
    have:=q.1.1
    rw [hs,VN,show bs[k] :: bs.drop (k+1)=[bs[k]]++bs.drop (k+1) from rfl,VN,zbv,e'] at this
    exact (yd.1 (yd.1 this).2).1 _ (by simp)
  ·have e':em4 (ur bs[k] w)=true:=by simpa using e
   refine second _ ?_ hfx
   rw [ef,e'];simp
 ·have hge:bs.length≤k:=by simpa using hc
  rw [List.take_of_length_le hge] at hfx hfy ⊢
  refine YX (fun q1=>?_) (fun q1=>?_)
  ·have no:¬ (okR (Z9 bs w)∧okR (xy bs w)):=fun q=>by have:=q.1.2;omega
   exact YX (fun _=>h2 no _ _) (fun _=>h2 no _ _)
  ·refine YX (fun q2=>?_) (fun q2=>h1 ⟨hfx,q1⟩ ⟨hfy,q2⟩)
   exact h2 (fun q=>by have:=q.2.2;omega) _ _
def Cw (o:UR) (κ:List za×List zl×Bool→Prop):Prop:=match o with | some (l,out)=>κ (l,out,false) | none=>∀ l out,l.length≤10000→κ (l,out,true)
theorem zjo {l:List za} {o:List zl} {κ:List za×List zl×Bool→Prop} (h:κ (l,o,false)):Cw (some (l,o)) κ:=h
theorem zgn {d:uN} {cs:List (List zz)} {fl:List zl} {x fit miss:List za} (hf:fl.length≤60) (hl:fit.length≤400) {κ:List za×List zl×Bool→Prop} (h1:60<(fl++dec fit d.xAccept).length→κ (miss,fl++dec fit d.xAccept,true)) (h2:(fl++dec fit d.xAccept).length≤60→κ (miss,fl++dec fit d.xAccept,false)):uA d cs fl false x fit miss κ:=by
 unfold uA
 refine zV fit.length (fun s=>s.2) (fun k (s:List zl×Int)=>s.2=(k:Int)∧k≤fit.length∧s.1=fl++dec (fit.take k) d.xAccept) (fun k s h=>h.1) (fun k s h=>h.2.1) ?_ ⟨rfl,by omega,by simp [dec]⟩
 rintro k ⟨_,_⟩ next ⟨rfl,hk,hx⟩ hn
 simp only at hx
 subst hx
 have hln:(fl++dec (fit.take k) d.xAccept).length≤460:=by rw [List.length_append,zfF,List.length_take];omega
 refine zm (fun hc=>?_) (fun hc=>?_)
 ·have hlt:k<fit.length:=by simpa using hc
  refine zo k rfl hlt (xR (jj (by simp only [List.length_singleton];omega) (zx (by omega) (by omega) (hn hlt _ ⟨by simp,by omega,?_⟩))))
  unfold dec
  rw [List.take_succ_eq_append_getElem hlt,List.map_append,← List.append_assoc];rfl
 ·have hge:fit.length≤k:=by simpa using hc
  rw [List.take_of_length_le hge]
  exact xR (zm (fun e=>h1 (by simp at e;simp;omega)) (fun e=>h2 (by simp at e;simp;omega)))
theorem Vx {x:uN} {p0:uN→Prop} {p1:Xe→Prop} {p2:uM→Prop} {p3:yW→Prop} (h:p0 x):ut.casesW (.kDeciding x) p0 p1 p2 p3:=h
theorem zdj {x:Xe} {p0:uN→Prop} {p1:Xe→Prop} {p2:uM→Prop} {p3:yW→Prop} (h:p1 x):ut.casesW (.kCalling x) p0 p1 p2 p3:=h
theorem zb3 {x:uM} {p0:uN→Prop} {p1:Xe→Prop} {p2:uM→Prop} {p3:yW→Prop} (h:p2 x):ut.casesW (.kReturning x) p0 p1 p2 p3:=h
theorem zdk {x:yW} {p0:uN→Prop} {p1:Xe→Prop} {p2:uM→Prop} {p3:yW→Prop} (h:p3 x):ut.casesW (.kPassing x) p0 p1 p2 p3:=h
theorem ziS {cs:List (List zz)} (hcn:Cn cs) (hs:∀ i,i<cs.length→Sf cs i) (hc5:∀ c∈cs,c.length≤8∧∀ r∈c,TsV r.xTests∧(r.xAction=3→0≤r.xChain∧r.xChain<cs.length)):∀ (n i:Nat) (boxes:List za) (out:List zl) (κ:List za×List zl×Bool→Prop),Hh cs n i→i<cs.length→aB boxes→okR boxes→IV out→out.length≤60→Cw (U cs i boxes out) κ→xV n cs out false i boxes κ:=by
 have htv:TVs cs:=fun c hc r hr=>((hc5 c hc).2 r hr).1.1
 intro n
 induction n with
 | zero=>intro i boxes out κ h;exact h.elim
 | succ n ih =>
  intro i boxes out κ hh hi hB hO hIV h60 h
  show yw (xV n) cs out false i boxes κ
  unfold yw
  refine zm (fun e=>?_) (fun e=>?_)
  ·have:boxes=[]:=by
    have:(boxes.length:Int)=0:=of_decide_eq_true e
    exact List.length_eq_zero_iff.1 (by omega)
   subst this
   rw [zlb hcn hs i h60] at h
   exact h
  clear e
  obtain ⟨h8,hrv⟩:=hc5 _ (List.getElem_mem hi)
  rw [zjG hcn hs i,zcA hi] at h
  have hci:=zcA hi
  refine zo i rfl hi ?_
  generalize hcc:cs[i]=c at *
  generalize hT:url (U cs) c boxes [] out=T at *
  refine zV c.length (fun s=>s.2.2.2.2) (fun k (s:List za×List zl×Bool×List za×Int)=>s.2.2.2.2=(k:Int)∧k≤c.length∧s.2.2.1=false∧(aB s.1∧UZ s.1∧s.1.length≤400 * k)∧(IV s.2.1∧s.2.1.length≤60)∧(aB s.2.2.2.1∧okR s.2.2.2.1)∧T=url (U cs) (c.drop k) s.2.2.2.1 s.1 s.2.1) (fun k s h=>h.1) (fun k s h=>h.2.1) ?_ ⟨rfl,by omega,rfl,⟨zgw,zcM,by simp⟩,⟨hIV,h60⟩,⟨hB,hO⟩,hT.symm⟩
  rintro k ⟨left,fls,_,going,_⟩ next ⟨rfl,hk,rfl,⟨hlB,hlF,hll⟩,⟨hfI,hf60⟩,⟨hgB,hgO⟩,he⟩ hn
  simp only at hlB hlF hll hfI hf60 hgB hgO he
  have hl4:left.length≤3200:=by omega
  have hg4:=hgO.2
  refine zm (fun hc=>?_) (fun hc=>?_)
  ·have hlt:k<c.length:=by simpa using hc
   obtain ⟨hts,hcall⟩:=hrv _ (List.getElem_mem hlt)
   rw [List.drop_eq_getElem_cons hlt] at he
   unfold url at he
   refine xR (zo k rfl hlt (zeR hts ?_))
   have hw:=zaO hts.1
   have hm:c[k]∈c:=List.getElem_mem hlt
   have hmc:c[k]∈chn cs i:=by rw [hci];exact hm
   generalize c[k]=r at *
   have hfB:=zgc hgB hw
   have hmB:=V6 hgB hw
   have hfl:=zaW going (Zj r.xTests)
   have hml:=U5 going (Zj r.xTests)
   refine ziO hgB hgO.1 hg4 hw (fun o1 o2=>jR ?_) (fun q x y=>jt ?_)
   rotate_left
   ·rw [if_neg q] at he
    rw [he] at h
    exact h _ _ (by simp)
   rw [if_pos ⟨o1,o2⟩] at he
   generalize Z9 going (Zj r.xTests)=fit at *
   generalize xy going (Zj r.xTests)=miss at *
   have stop:∀ o,T=none→κ ([],o,true):=fun o q=>by rw [q] at h;exact h _ _ (by simp)
   have go:∀ left' fls' going',(aB left'∧UZ left'∧left'.length≤400 * (k+1))→(IV fls'∧fls'.length≤60)→(aB going'∧okR going')→T=url (U cs) (c.drop (k+1)) going' left' fls'→jo (k:Int) 1 (fun t183=>next (left',fls',false,going',t183)):=fun left' fls' going' a1 a2 a3 a4=>zx (by omega) (by omega) (hn hlt _ ⟨by simp,by omega,rfl,a1,a2,a3,a4⟩)
   have decide12:∀ a:Bool,(r.xAction=1∨r.xAction=2)→a=decide (r.xAction=1)→uA (uN.mk a) cs fls false left fit miss (fun (r68,r71,r74)=>jO cs r71 r74 r68 (fun (r75,r78)=>ifW r78 (κ ([],r71,r78)) (jo (k:Int) 1 (fun t183=>next (left,r71,r78,r75,t183))))):=by
    intro a ha hq
    subst hq
    rw [if_pos ha] at he
    refine zgn hf60 o1.2 (fun q=>?_) (fun q=>?_)
    ·have q':60<(fls++dec fit (decide (r.xAction=1))).length:=q
     rw [if_neg (by omega)] at he
     exact YX (fun _=>jt (stop _ he)) (fun _=>jt (stop _ he))
    ·rw [if_pos q] at he
     refine YX (fun q2=>absurd q2 (by have:=o2.2;omega)) (fun _=>jR ?_)
     exact go _ _ _ ⟨hlB,hlF,by omega⟩ ⟨zf9 hfI (zf5 hfB o1.1),q⟩ ⟨hmB,o2⟩ he
   unfold Uc
   refine zm (fun e=>Vx (decide12 true (.inl (of_decide_eq_true e)) (by rw [e]))) (fun e=>?_)
   have n1:¬ r.xAction=1:=of_decide_eq_false e
   refine zm (fun e2=>Vx (decide12 false (.inr (of_decide_eq_true e2)) (by rw [e]))) (fun e2=>?_)
   have n2:¬ r.xAction=2:=of_decide_eq_false e2
   rw [if_neg (fun q=>q.elim n1 n2)] at he
   refine zm (fun e3=>?_) (fun e3=>?_)
   ·have h3:r.xAction=3:=of_decide_eq_true e3
    rw [if_neg (by omega),if_pos h3] at he
    obtain ⟨c0,c1⟩:=hcall h3
    obtain ⟨j,hj⟩:=Int.eq_ofNat_of_zero_le c0
    refine zdj ?_
    unfold ZJ
    have hca:=zeU hmc h3 c0
    rw [hj] at he hca c1 ⊢
    refine ih j fit fls _ (hh j (by simpa using hca)) (by omega) hfB o1 hfI hf60 ?_
    have hj':((j:Int)).toNat=j:=by simp
    rw [hj'] at he
    cases hU:U cs j fit fls with
    | none =>
     rw [hU] at he
     intro l o hl
     exact zaT (by have:=o2.2;omega) (by omega) (YX (fun _=>jt (stop _ he)) (fun _=>jt (stop _ he)))
    | some bo =>
     obtain ⟨b,o⟩:=bo
     rw [hU] at he
     obtain ⟨u1,u2,u3,u4⟩:=zkx htv j hfB o1 hfI hf60 _ _ hU
     simp only at he
     refine zjo ?_
     refine zaT (by have:=o2.2;omega) (by have:=u2.2;omega) (YX (fun q=>jt (stop _ ?_)) (fun q=>jR ?_))
     ·rw [if_neg (fun q2=>by have:=q2.2;omega)] at he;exact he
     ·have ok:okR (miss++b):=⟨yd.2 ⟨o2.1,u2.1⟩,q⟩
      rw [if_pos ok] at he
      exact go _ _ _ ⟨hlB,hlF,by omega⟩ ⟨u3,u4⟩ ⟨Up.2 ⟨hmB,u1⟩,ok⟩ he
   ·have n3:¬ r.xAction=3:=of_decide_eq_false e3
    refine zm (fun e4=>?_) (fun e4=>?_)
    ·have h4:r.xAction=4:=of_decide_eq_true e4
     rw [if_pos h4] at he
     refine zb3 ?_
     unfold Zf
     have:=o1.2
     refine jj (by omega) (YX (fun q=>absurd q (by have:=o2.2;omega)) (fun _=>jR ?_))
     exact go _ _ _ ⟨Up.2 ⟨hlB,hfB⟩,yd.2 ⟨hlF,o1.1⟩,by rw [List.length_append];omega⟩ ⟨hfI,hf60⟩ ⟨hmB,o2⟩ he
    ·have n4:¬ r.xAction=4:=of_decide_eq_false e4
     rw [if_neg n4,if_neg n3] at he
     refine zdk ?_
     unfold ZN
     have:=o1.2
     refine zaT (by have:=o2.2;omega) (by omega) (YX (fun q=>jt (stop _ ?_)) (fun q=>jR ?_))
     ·rw [if_neg (fun q2=>by have:=q2.2;omega)] at he;exact he
     ·have ok:okR (miss++fit):=⟨yd.2 ⟨o2.1,o1.1⟩,q⟩
      rw [if_pos ok] at he
      exact go _ _ _ ⟨hlB,hlF,by omega⟩ ⟨hfI,hf60⟩ ⟨Up.2 ⟨hmB,hfB⟩,ok⟩ he
  ·have hge:c.length≤k:=by simpa using hc
   rw [List.drop_of_length_le hge] at he
   unfold url at he
   rw [he] at h
   refine zaT (by omega) (by omega) (YX (fun q=>?_) (fun q=>?_))
   ·rw [if_neg (fun q2=>by have:=q2.2;omega)] at h
    exact h _ _ (by rw [List.length_append];omega)
   ·rw [if_pos ⟨yd.2 ⟨hlF,hgO.1⟩,q⟩] at h
    exact h
noncomputable def uf (s:zS):Option (List zl):=(U s.xChains 0 [zaF] []).map (·.2)
theorem SV.c5 {s:zS} (h:SV s):∀ c∈s.xChains,c.length≤8∧∀ r∈c,TsV r.xTests∧(r.xAction=3→0≤r.xChain∧r.xChain<s.xChains.length):=fun c hc=>⟨(h.1.2 c hc).1,fun r hr=>⟨((h.1.2 c hc).2 r hr).1.1,fun h3=>⟨(((h.1.2 c hc).2 r hr).1.2.2.2.1 h3).1,((h.1.2 c hc).2 r hr).2⟩⟩⟩
theorem zc7:okR [zaF]:=⟨fun c hc=>by
 rw [List.mem_singleton] at hc;subst hc
 exact zgl (fun f h0 h1=>by have:=zfo f h0 h1;omega),by simp⟩
theorem zfh:aB [zaF]:=fun c hc=>by rw [List.mem_singleton] at hc;subst hc;exact zfb
theorem ziU {s:zS} (h:SV s) {l:List zl} (he:uf s=some l):IV l∧l.length≤60:=by
 unfold uf at he
 cases hU:U s.xChains 0 [zaF] [] with
 | none=>rw [hU] at he;cases he
 | some bo =>
  obtain ⟨b,o⟩:=bo
  rw [hU] at he
  simp only [Option.map_some,Option.some.injEq] at he
  subst he
  have:=zkx h.tvs 0 zfh zc7 zgr (by simp) _ _ hU
  exact ⟨this.2.2.1,this.2.2.2⟩
theorem zd5 {s:zS} (hv':SV s) {κ:List zl×Bool→Prop} (h1:∀ l,uf s=some l→κ (l,true)) (h2:uf s=none→∀ l,κ (l,false)):Zq s κ:=by
 unfold Zq
 refine zcG ⟨jN s.xChains+1,ziS hv'.cn hv'.2.2 hv'.c5 _ 0 _ _ _ (zgX hv'.2.2 0) hv'.2.1 zfh zc7 zgr (by simp) ?_⟩
 unfold uf at h1 h2
 cases hU:U s.xChains 0 [zaF] [] with
 | none=>rw [hU] at h2;exact fun l o _=>h2 rfl o
 | some bo =>
  obtain ⟨b,o⟩:=bo
  rw [hU] at h1
  exact h1 o rfl
end
section
open Go Go.Proofs
def gf (f:zl):zB:=⟨bx f.xWhere,f.xAccept⟩
theorem zeC {l:List zl} (h:IV l) (hl:l.length≤60):FV (l.map gf):=⟨by simpa using hl,fun f hf=>by
 obtain ⟨g,hg,rfl⟩:=List.mem_map.1 hf
 exact zc9.2 (h g hg)⟩
theorem zj8 {a:za} (h:B4 a):Bb (bx a):=⟨by simp [bx],fun x hx=>zaJ h x hx⟩
theorem zdM {l:List za} (hB:aB l) (hl:l.length≤1000000) {κ:Bool→Prop} (h:κ (decide (okR l))):xd (l.map bx) κ:=by
 unfold xd
 refine zV l.length (fun s=>s) (fun k s=>s=(k:Int)∧k≤l.length∧UZ (l.take k)) (fun k s h=>h.1) (fun k s h=>h.2.1) ?_ ⟨rfl,by omega,by simp [UZ]⟩
 rintro k _ next ⟨rfl,hk,hv'⟩ hn
 refine zm (fun hc=>?_) (fun hc=>?_)
 ·have hlt:k<l.length:=by simpa using hc
  have hb:=hB _ (List.getElem_mem hlt)
  refine zo k rfl (by simpa using hlt) ?_
  rw [List.getElem_map]
  refine yB (zj8 hb) (zm (fun e=>?_) (fun e=>?_))
  ·have:¬ BV (bx l[k]):=by simpa using e
   rw [decide_eq_false (fun q=>this (zc9.2 ⟨hb,q.1 _ (List.getElem_mem hlt)⟩))] at h;exact h
  ·have:BV (bx l[k]):=by simpa using e
   refine zx (by omega) (by omega) (hn hlt _ ⟨by simp,by omega,?_⟩)
   rw [List.take_succ_eq_append_getElem hlt]
   refine yd.2 ⟨hv',fun c hc=>?_⟩
   rw [List.mem_singleton] at hc;subst hc;exact this.f4
 ·have hge:l.length≤k:=by simpa using hc
  rw [List.take_of_length_le hge] at hv'
  rw [show decide (okR l)=decide (((l.map bx).length:Int)≤400) from decide_eq_decide.2 ⟨fun q=>by have:=q.2;simp;omega,fun q=>⟨hv',by simp at q;omega⟩⟩] at h
  exact h
theorem Zh {l:List za} (hB:aB l) (hl:l.length≤1000000) {κ:Bool→Prop} (h1:okR l→κ true) (h2:¬ okR l→κ false):xd (l.map bx) κ:=by
 refine zdM hB hl ?_
 by_cases h:okR l
 ·rw [decide_eq_true h];exact h1 h
 ·rw [decide_eq_false h];exact h2 h
def Sw (o:UR) (κ:List zU×Bool×List zB→Prop):Prop:=match o with | some (l,out)=>κ (l.map bx,true,out.map gf) | none=>∀ l out,κ (l,false,out)
theorem ziZ {l:List za} {o:List zl} {κ:List zU×Bool×List zB→Prop} (h:κ (l.map bx,true,o.map gf)):Sw (some (l,o)) κ:=h
theorem zkC {s:zS} (hv:SV s):∀ (n i:Nat) (boxes:List za) (out:List zl) (κ:List zU×Bool×List zB→Prop),Hh s.xChains n i→i<s.xChains.length→aB boxes→okR boxes→IV out→out.length≤60→Sw (U s.xChains i boxes out) κ→yo n s i (boxes.map bx) (out.map gf) κ:=by
 have hcn:=hv.cn
 have hs:=hv.2.2
 have hc5:=hv.c5
 have htv:=hv.tvs
 intro n
 induction n with
 | zero=>intro i boxes out κ h;exact h.elim
 | succ n ih =>
  intro i boxes out κ hh hi hB hO hIV h60 h
  show Ym (yo n) s i (boxes.map bx) (out.map gf) κ
  unfold Ym
  obtain ⟨h8,hrv⟩:=hc5 _ (List.getElem_mem hi)
  rw [zjG hcn hs i,zcA hi] at h
  have hci:=zcA hi
  have ix:∀ (K:List zz→Prop),K s.xChains[i]→zI s.xChains (i:Int) K:=fun K hK=>zo i rfl hi hK
  generalize hcc:s.xChains[i]=c at *
  generalize hT:url (U s.xChains) c boxes [] out=T at *
  refine zV c.length (fun s=>s.2.2.2) (fun k (st:List zB×List zU×List zU×Int)=>st.2.2.2=(k:Int)∧k≤c.length∧∃ fls going left,st.1=fls.map gf∧st.2.1=going.map bx∧st.2.2.1=left.map bx∧(aB left∧okR left)∧(IV fls∧fls.length≤60)∧(aB going∧okR going)∧T=url (U s.xChains) (c.drop k) going left fls) (fun k s h=>h.1) (fun k s h=>h.2.1) ?_ ⟨rfl,by omega,out,boxes,[],rfl,rfl,rfl,⟨zgw,zaa⟩,⟨hIV,h60⟩,⟨hB,hO⟩,hT.symm⟩
  rintro k ⟨_,_,_,_⟩ next ⟨rfl,hk,fls,going,left,e1,e2,e3,⟨hlB,hlO⟩,⟨hfI,hf60⟩,⟨hgB,hgO⟩,he⟩ hn
  simp only at e1 e2 e3
  subst e1 e2 e3
  have hl4:=hlO.2
  have hg4:=hgO.2
  refine ix _ (zm (fun hc=>?_) (fun hc=>?_))
  ·have hlt:k<c.length:=by simpa using hc
   obtain ⟨hts,hcall⟩:=hrv _ (List.getElem_mem hlt)
   rw [List.drop_eq_getElem_cons hlt] at he
   unfold url at he
   refine ix _ (zo k rfl hlt (zgk hts ?_))
   have hw:=zaO hts.1
   have hm:c[k]∈c:=List.getElem_mem hlt
   have hmc:c[k]∈chn s.xChains i:=by rw [hci];exact hm
   generalize c[k]=r at *
   have hfB:=zgc hgB hw
   have hmB:=V6 hgB hw
   have hfl:=zaW going (Zj r.xTests)
   have hml:=U5 going (Zj r.xTests)
   generalize Zj r.xTests=w at *
   refine zV going.length (fun s=>s.2.2) (fun j (st:List zU×List zU×Int)=>st.2.2=(j:Int)∧j≤going.length∧st.1=(Z9 (going.take j) w).map bx∧st.2.1=(xy (going.take j) w).map bx) (fun k s h=>h.1) (fun k s h=>h.2.1) ?_ ⟨rfl,by omega,by simp [Z9],by simp [xy]⟩
   rintro j ⟨_,_,_⟩ next2 ⟨rfl,hj,hx,hy⟩ hn2
   simp only at hx hy
   subst hx hy
   refine zm (fun hc2=>?_) (fun hc2=>?_)
   ·have hjl:j<going.length:=by simpa using hc2
    have hbB:=hgB _ (List.getElem_mem hjl)
    have hf2:=zaW (going.take j) w
    have hm2:=U5 (going.take j) w
    rw [List.length_take] at hf2 hm2
    have ix2:∀ (K:zU→Prop),K (bx going[j])→zI (going.map bx) (j:Int) K:=fun K hK=>zo j rfl (by simpa using hjl) (by rw [List.getElem_map];exact hK)
    have ef:Z9 (going.take (j+1)) w=Z9 (going.take j) w++(if em4 (ur going[j] w) then [] else [ur going[j] w]):=by
     rw [List.take_succ_eq_append_getElem hjl,VN,zbv]
    have em:xy (going.take (j+1)) w=xy (going.take j) w++XD going[j] w:=by
     rw [List.take_succ_eq_append_getElem hjl,ZH,X7]
    have hcl:=VS going[j] w
    have second:∀ xs,xs=(Z9 (going.take (j+1)) w).map bx→zI (going.map bx) (j:Int) (fun e195=>yj e195 (bx w) (fun r201=>jG ((xy (going.take j) w).map bx) r201 (fun _=>jo (j:Int) 1 (fun t206=>next2 (xs,(((xy (going.take j) w).map bx)++r201),t206))))):=by
     rintro _ rfl
     refine ix2 _ (zdE hbB hw (jj (by simp only [List.length_map];omega) (zx (by omega) (by omega) (hn2 hjl _ ⟨by simp,by omega,rfl,?_⟩))))
     rw [em,List.map_append]
    refine xR (xR (ix2 _ (zeA hbB hw ?_)))
    refine Vm (a:=ur going[j] w) (zm (fun e=>?_) (fun e=>?_))
    ·have e':em4 (ur going[j] w)=false:=by simpa using e
     refine jj (by simp only [List.length_map,List.length_singleton];omega) (second _ ?_)
     rw [ef,e',List.map_append];rfl
    ·have e':em4 (ur going[j] w)=true:=by simpa using e
     refine second _ ?_
     rw [ef,e'];simp
   ·have hjge:going.length≤j:=by simpa using hc2
    rw [List.take_of_length_le hjge]
    have stop:∀ l o,T=none→κ (l,false,o):=fun l o q=>by rw [q] at h;exact h _ _
    refine xR (Zh hfB (by omega) (fun o1=>jR (Zh hmB (by omega) (fun o2=>jR ?_) (fun no=>jt (stop _ _ ?_)))) (fun no=>jt (jt (stop _ _ ?_))))
    rotate_left
    ·rw [if_neg (fun q=>no q.2)] at he;exact he
    ·rw [if_neg (fun q=>no q.1)] at he;exact he
    rw [if_pos ⟨o1,o2⟩] at he
    generalize Z9 going w=fit at *
    generalize xy going w=miss at *
    refine zez (fun (t:List zU×List zU×List zB)=>∃ left' going' fls',t=(List.map bx left',List.map bx going',List.map gf fls')∧aB left'∧UZ left'∧left'.length≤100000∧aB going'∧going'.length≤100000∧IV fls'∧(okR going'→okR left'→fls'.length≤60→T=url (U s.xChains) (c.drop (k+1)) going' left' fls')∧(¬ (okR going'∧okR left'∧fls'.length≤60)→T=none)) ?_ ?_
    ·rintro _ ⟨left',going',fls',rfl,a1,a2,a3,a4,a5,a6,a7,a8⟩
     refine xR (Zh a4 (by omega) (fun b1=>jR (Zh a1 (by omega) (fun b2=>jR (zm (fun e=>?_) (fun e=>?_))) (fun no=>jt (jt (stop _ _ (a8 (fun q=>no q.2.1))))))) (fun no=>jt (jt (stop _ _ (a8 (fun q=>no q.1))))))
     ·have:60<fls'.length:=by have:=of_decide_eq_true e;simp only [List.length_map] at this;omega
      exact stop _ _ (a8 (fun q=>by have:=q.2.2;omega))
     ·have h6:fls'.length≤60:=by have:=of_decide_eq_false e;simp only [List.length_map] at this;omega
      exact zx (by omega) (by omega) (hn hlt _ ⟨by simp,by omega,fls',going',left',rfl,rfl,rfl,⟨a1,b2⟩,⟨a6,h6⟩,⟨a4,b1⟩,a7 b1 b2 h6⟩)
    intro K hK
    have hfl4:=o1.2
    have hml4:=o2.2
    refine zez (fun t=>t=decide (r.xAction=1∨r.xAction=2)) ?_ (fun K2 hK2=>?_)
    rotate_left
    ·have hK2:=hK2 _ rfl
     refine zm (fun e=>?_) (fun e=>?_)
     ·rw [e];rw [decide_eq_true (.inl (of_decide_eq_true e))] at hK2;exact hK2
     ·have n1:=of_decide_eq_false e
      rw [show decide (r.xAction=2)=decide (r.xAction=1∨r.xAction=2) from decide_eq_decide.2 ⟨.inr,fun q=>q.resolve_left n1⟩];exact hK2
    rintro _ rfl
    refine zm (fun e=>?_) (fun e=>?_)
    ·have ha:=of_decide_eq_true e
     rw [if_pos ha] at he
     refine zV fit.length (fun s=>s.2) (fun j (st:List zB×Int)=>st.2=(j:Int)∧j≤fit.length∧st.1=(fls++dec (fit.take j) (decide (r.xAction=1))).map gf) (fun k s h=>h.1) (fun k s h=>h.2.1) ?_ ⟨rfl,by omega,by simp [dec]⟩
     rintro j2 ⟨_,_⟩ next3 ⟨rfl,hj2,hx2⟩ hn3
     simp only at hx2
     subst hx2
     refine zm (fun hc3=>?_) (fun hc3=>?_)
     ·have hjl:j2<fit.length:=by simpa using hc3
      refine xR (zo j2 rfl (by simpa using hjl) ?_)
      rw [List.getElem_map]
      refine jj (by simp only [List.length_map,List.length_append,zfF,List.length_take,List.length_singleton];omega) (zx (by omega) (by omega) (hn3 hjl _ ⟨by simp,by omega,?_⟩))
      simp only [dec,List.take_succ_eq_append_getElem hjl,List.map_append,List.map_cons,List.map_nil,List.append_assoc]
      rfl
     ·have hjge:fit.length≤j2:=by simpa using hc3
      rw [List.take_of_length_le hjge]
      refine hK _ ⟨left,miss,_,rfl,hlB,hlO.1,by omega,hmB,by omega,zf9 hfI (zf5 hfB o1.1),fun _ _ q=>?_,fun q=>?_⟩
      ·rw [if_pos q] at he;exact he
      ·rw [if_neg (fun q2=>q ⟨o2,hlO,q2⟩)] at he;exact he
    have n12:=of_decide_eq_false e
    rw [if_neg n12] at he
    refine zm (fun e4=>?_) (fun e4=>?_)
    ·rw [if_pos (of_decide_eq_true e4)] at he
     refine jj (by simp only [List.length_map];omega) ?_
     refine hK _ ⟨left++fit,miss,fls,by rw [List.map_append],Up.2 ⟨hlB,hfB⟩,yd.2 ⟨hlO.1,o1.1⟩,by rw [List.length_append];omega,hmB,by omega,hfI,fun _ _ _=>he,fun q=>?_⟩
     rw [he]
     exact zff (Nat.lt_of_not_le (fun q2=>q ⟨o2,⟨yd.2 ⟨hlO.1,o1.1⟩,q2⟩,hf60⟩))
    ·rw [if_neg (of_decide_eq_false e4)] at he
     refine zm (fun e3=>?_) (fun e3=>?_)
     ·have h3:=of_decide_eq_true e3
      rw [if_pos h3] at he
      obtain ⟨c0,c1⟩:=hcall h3
      obtain ⟨j,hj⟩:=Int.eq_ofNat_of_zero_le c0
      have hca:=zeU hmc h3 c0
      rw [hj] at he hca c1 ⊢
      have hj':((j:Int)).toNat=j:=by simp
      rw [hj'] at he
      refine ih j fit fls _ (hh j (by simpa using hca)) (by omega) hfB o1 hfI hf60 ?_
      cases hU:U s.xChains j fit fls with
      | none =>
       rw [hU] at he
       intro l o
       exact jt (stop _ _ he)
      | some bo =>
       obtain ⟨b,o⟩:=bo
       rw [hU] at he
       obtain ⟨u1,u2,u3,u4⟩:=zkx htv j hfB o1 hfI hf60 _ _ hU
       have hu4:=u2.2
       simp only at he
       refine ziZ (jR (jj (by simp only [List.length_map];omega) ?_))
       refine hK _ ⟨left,miss++b,o,by rw [List.map_append],hlB,hlO.1,by omega,Up.2 ⟨hmB,u1⟩,by rw [List.length_append];omega,u3,fun q _ _=>?_,fun q=>?_⟩
       ·rw [if_pos q] at he;exact he
       ·rw [if_neg (fun q2=>q ⟨q2,hlO,u4⟩)] at he;exact he
     ·rw [if_neg (of_decide_eq_false e3)] at he
      refine jj (by simp only [List.length_map];omega) ?_
      refine hK _ ⟨left,miss++fit,fls,by rw [List.map_append],hlB,hlO.1,by omega,Up.2 ⟨hmB,hfB⟩,by rw [List.length_append];omega,hfI,fun q _ _=>?_,fun q=>?_⟩
      ·rw [if_pos q] at he;exact he
      ·rw [if_neg (fun q2=>q ⟨q2,hlO,hf60⟩)] at he;exact he
  ·have hge:c.length≤k:=by simpa using hc
   rw [List.drop_of_length_le hge] at he
   unfold url at he
   rw [he] at h
   refine jj (by simp only [List.length_map];omega) ?_
   rw [← List.map_append]
   refine Zh (Up.2 ⟨hlB,hgB⟩) (by rw [List.length_append];omega) (fun q=>?_) (fun q=>?_)
   ·rw [if_pos q] at h;exact h
   ·rw [if_neg q] at h;exact h _ _
end
section
open Go Go.Proofs
theorem VL {s:zS} (hb:Bd s) {κ:zS→Prop} (h:κ s):yc s κ:=by
 unfold yc Xb
 refine Ul s.xChains id hb.1 (fun x ψ=>yH x ψ) (fun x ψ hx hψ=>?_) (by simpa using h) _ (fun nx xs t hh=>hh)
 obtain ⟨h1,h2⟩:=hb.2 x hx
 unfold yH
 refine Ul x id h1 (fun y ψ=>Xu y ψ) (fun y ψ hy hψ=>?_) (by simpa using hψ) _ (fun nx xs t hh=>hh)
 unfold Xu
 exact jj (by have:=h2 y hy;simpa using this) hψ
theorem zga {l:List zl} (hl:l.length≤4294967296) (hv:IV l) {κ:List zB→Prop} (h:κ (l.map gf)):XY l κ:=by
 unfold XY
 refine Y2 0 rfl (by omega) (by omega) ?_
 exact Ul l gf hl (fun x ψ=>yX x.xWhere (fun r=>ψ (zB.mk r x.xAccept))) (fun x ψ hx hψ=>zkL (zk9 (hv x hx).2) hψ) h _ (fun nx xs t hh=>hh)
theorem zdP {s:zS} (hb:Bd s) {κ:List zB×Bool→Prop} (h1:SV s→∀ l,uf s=some l→κ (l.map gf,true)) (h2:(SV s→uf s=none)→κ ([],false)):YR s κ:=by
 unfold YR
 refine VL hb (zah hb (fun b hbv=>zm (fun e=>h2 (fun q=>?_)) (fun e=>zfC ?_)))
 ·rw [hbv.2 q] at e;cases e
 have hv:SV s:=hbv.1 (by simpa using e)
 refine ⟨jN s.xChains+1,zkC hv _ 0 [zaF] [] _ (zgX hv.2.2 0) hv.2.1 zfh zc7 zgr (by simp) ?_⟩
 have h1:=h1 hv
 unfold uf at h1 h2
 cases hU:U s.xChains 0 [zaF] [] with
 | none=>rw [hU] at h2;exact fun l o=>jt (h2 (fun _=>rfl))
 | some bo =>
  obtain ⟨b,o⟩:=bo
  rw [hU] at h1
  exact jR (h1 o rfl)
end
section
open Go Go.Proofs
def wdN (l:List zl):Nat→List zl
 | 0=>[]
 | k+1=>wdN l k++(match l[k]? with | some f=>if dd l k then [] else [f] | none=>[])
def wdF (l:List zl):List zl:=wdN l l.length
theorem zbi (l:List zl):∀ k,(wdN l k).length≤k∧∀ f∈wdN l k,f∈l
 | 0=>by simp [wdN]
 | k+1=>by
  obtain ⟨h1,h2⟩:=zbi l k
  unfold wdN
  cases e:l[k]? with
  | none=>simp only [List.append_nil];exact ⟨by omega,h2⟩
  | some f =>
   simp only
   split
   ·simp only [List.append_nil];exact ⟨by omega,h2⟩
   ·refine ⟨by rw [List.length_append];simp;omega,fun g hg=>?_⟩
    rcases List.mem_append.1 hg with q | q
    ·exact h2 g q
    ·rw [List.mem_singleton] at q;subst q;exact List.mem_of_getElem? e
theorem ze8 (l:List zl):(wdF l).length≤l.length:=(zbi l _).1
theorem zaD {l:List zl} (h:IV l):IV (wdF l):=fun f hf=>h f ((zbi l _).2 f hf)
theorem zgS {l:List zl} {k:Nat} (hk:k<l.length) (h:dd l k=true):wdN l (k+1)=wdN l k:=by
 show wdN l k++_=_
 rw [List.getElem?_eq_getElem hk];simp [h]
theorem zhA {l:List zl} {k:Nat} (hk:k<l.length) (h:dd l k=false):wdN l (k+1)=wdN l k++[l[k]]:=by
 show wdN l k++_=_
 rw [List.getElem?_eq_getElem hk];simp [h]
theorem zdN {l:List zl} (hl:l.length≤100000) (hv:IV l) {κ:List zl→Prop} (h:κ (wdF l)):Zr l κ:=by
 unfold Zr
 refine ziK hl hv (Y2 0 rfl (by omega) (by omega) ?_)
 have rem0:zjH l=((List.range l.length).drop 0).filter (dd l):=rfl
 rw [rem0]
 refine zV l.length (fun s=>s.2.2) (fun k (s:List Int×List zl×Int)=>s.2.2=(k:Int)∧k≤l.length∧s.1=(((List.range l.length).drop k).filter (dd l)).map Int.ofNat∧s.2.1=wdN l k) (fun k s h=>h.1) (fun k s h=>h.2.1) ?_ ⟨rfl,by omega,rfl,rfl⟩
 rintro k ⟨_,_,_⟩ next ⟨rfl,hk,hx,hy⟩ hn
 simp only at hx hy
 subst hx hy
 refine zm (fun hc=>?_) (fun hc=>?_)
 ·have hlt:k<l.length:=by simpa using hc
  have hd:(List.range l.length).drop k=k :: (List.range l.length).drop (k+1):=by
   rw [List.drop_eq_getElem_cons (by simpa using hlt)];simp
  have hwl:=(zbi l k).1
  have hfl:∀ m,((((List.range l.length).drop m).filter (dd l)).map Int.ofNat).length≤l.length:=fun m=>by
   rw [List.length_map]
   refine Nat.le_trans (List.length_filter_le _ _) ?_
   rw [List.length_drop,List.length_range];omega
  refine xR (zo k rfl hlt (xR ?_))
  have nxt:∀ ws,ws=wdN l (k+1)→jo (k:Int) 1 (fun t188=>next ((((List.range l.length).drop (k+1)).filter (dd l)).map Int.ofNat,ws,t188)):=fun ws hw=>zx (by omega) (by omega) (hn hlt _ ⟨by simp,by omega,rfl,hw⟩)
  have app:dd l k=false→jG (wdN l k) [l[k]] (fun _=>jo (k:Int) 1 (fun t188=>next ((((List.range l.length).drop (k+1)).filter (dd l)).map Int.ofNat,wdN l k++[l[k]],t188))):=fun q=>jj (by simp;omega) (nxt _ (zhA hlt q).symm)
  by_cases q:dd l k=true
  ·have e:((List.range l.length).drop k).filter (dd l)=k :: ((List.range l.length).drop (k+1)).filter (dd l):=by rw [hd,List.filter_cons,if_pos q]
   rw [e]
   refine zm (fun _=>zo 0 rfl (by simp) ?_) (fun e2=>by simp at e2)
   refine zm (fun _=>?_) (fun e2=>by simp at e2)
   refine ⟨by omega,by simp;omega,by omega,?_⟩
   have e3:(List.take (((k :: ((List.range l.length).drop (k+1)).filter (dd l)).map Int.ofNat).length:Int).toNat ((k :: ((List.range l.length).drop (k+1)).filter (dd l)).map Int.ofNat)).drop (1:Int).toNat=(((List.range l.length).drop (k+1)).filter (dd l)).map Int.ofNat:=by
    rw [Int.toNat_natCast,List.take_length];rfl
   rw [e3]
   exact nxt _ (zgS hlt q).symm
  ·have q':dd l k=false:=by simpa using q
   have e:((List.range l.length).drop k).filter (dd l)=((List.range l.length).drop (k+1)).filter (dd l):=by rw [hd,List.filter_cons,if_neg q]
   rw [e]
   refine zm (fun e2=>?_) (fun e2=>jR (app q'))
   have hpos:0<((((List.range l.length).drop (k+1)).filter (dd l)).map Int.ofNat).length:=by have:=of_decide_eq_true e2;omega
   refine zo 0 rfl hpos ?_
   have hm:((((List.range l.length).drop (k+1)).filter (dd l)).map Int.ofNat)[0]∈(((List.range l.length).drop (k+1)).filter (dd l)).map Int.ofNat:=List.getElem_mem hpos
   obtain ⟨j,hj,ej⟩:=List.mem_map.1 hm
   have hj2:=(List.mem_filter.1 hj).1
   have hjk:k+1≤j:=by
    rw [List.mem_drop_iff_getElem] at hj2
    obtain ⟨m,_,hm2⟩:=hj2
    simp at hm2;omega
   refine zm (fun e3=>?_) (fun _=>app q')
   have e3':=of_decide_eq_true e3
   rw [← ej] at e3'
   have:(j:Int)=(k:Int):=e3'
   omega
 ·have hge:l.length≤k:=by simpa using hc
  have:k=l.length:=by omega
  subst this
  exact h
theorem zix {a:za} (h:B4 a):in4 a a=true:=by
 have z:∀ {l:List zd} {t:Int},St l t→xi l l t=[]:=fun {l t} hs=>by
  have hn:=U8 hs hs
  cases e:xi l l t with
  | nil=>rfl
  | cons x r =>
   have hx:=UM hn.1 (show x∈xi l l t by rw [e];simp)
   have:=(zdJ hs hs).1 hx.1
   exact absurd this.1 this.2
 obtain ⟨h0,h1,h2,h3⟩:=h
 simp [in4,zeo,zcb,z h0,z h1,z h2,z h3]
theorem zbs {a b:List zd} {t:Int} (ha:St a t) (hb:St b t):xi a b t=[]↔∀ x,hv a x→hv b x:=by
 constructor
 ·intro h x hx
  by_cases q:hv b x
  ·exact q
  ·have:=(zdJ ha hb).2 ⟨hx,q⟩
   rw [h] at this;exact absurd this (yn _)
 ·intro h
  have hn:=U8 ha hb
  cases e:xi a b t with
  | nil=>rfl
  | cons x r =>
   have hx:=UM hn.1 (show x∈xi a b t by rw [e];simp)
   have:=(zdJ ha hb).1 hx.1
   exact absurd (h _ this.1) this.2
theorem zld {a:List zd} {t:Int} (h:St a t):a≠[]→∃ x,hv a x:=fun q=>by
 cases a with
 | nil=>exact absurd rfl q
 | cons s r=>exact ⟨s.xLo,(UM h.1 (by simp)).1⟩
theorem zjr {a b:List zd} (h:∃ x,hv a x∧hv b x):zR a b≠[]:=fun e=>by
 obtain ⟨x,h1,h2⟩:=h
 have:=(Uu a b x).2 ⟨h1,h2⟩
 rw [e] at this;exact yn _ this
theorem zkO {a:za}:em4 a=true↔a.x0=[]∨a.x1=[]∨a.x2=[]∨a.x3=[]:=by unfold em4;exact decide_eq_true_iff
theorem zjA {a:za}:em4 a=false↔a.x0≠[]∧a.x1≠[]∧a.x2≠[]∧a.x3≠[]:=by unfold em4;rw [decide_eq_false_iff_not];simp only [not_or,ne_eq]
theorem zgJ {a b:za} (ha:B4 a) (hb:B4 b):XD a b=[]↔in4 a b=true:=by
 obtain ⟨p0,p1,p2,p3⟩:=ha
 obtain ⟨q0,q1,q2,q3⟩:=hb
 have hless:zeo a b=zcb↔(xi a.x0 b.x0 65535=[]∧xi a.x1 b.x1 65535=[]∧xi a.x2 b.x2 255=[]∧xi a.x3 b.x3 7=[]):=by
  simp [zeo,zcb]
 unfold XD in4
 by_cases e:em4 (ur a b)=true
 ·rw [if_pos e]
  by_cases e2:em4 a=true
  ·simp [e2]
  ·have e2':em4 a=false:=by simpa using e2
   simp only [e2',Bool.false_eq_true,if_false,Bool.false_or,decide_eq_true_eq]
   refine ⟨fun h=>by simp at h,fun h=>?_⟩
   obtain ⟨l0,l1,l2,l3⟩:=hless.1 h
   rw [zbs p0 q0] at l0
   rw [zbs p1 q1] at l1
   rw [zbs p2 q2] at l2
   rw [zbs p3 q3] at l3
   exfalso
   rw [zjA] at e2'
   rw [zkO] at e
   have g:∀ {x y:List zd} {t:Int},St x t→x≠[]→(∀ v,hv x v→hv y v)→zR x y≠[]:=fun hx hne hh=>by
    obtain ⟨v,hv1⟩:=zld hx hne
    exact zjr ⟨v,hv1,hh v hv1⟩
   rcases e with e | e | e | e
   ·exact g p0 e2'.1 l0 e
   ·exact g p1 e2'.2.1 l1 e
   ·exact g p2 e2'.2.2.1 l2 e
   ·exact g p3 e2'.2.2.2 l3 e
 ·rw [if_neg e]
  have e2:em4 a=false:=by
   have e':em4 (ur a b)=false:=by simpa using e
   rw [zjA] at e' ⊢
   refine ⟨fun q=>e'.1 (by simp only [ur];rw [q];rfl),fun q=>e'.2.1 (by simp only [ur];rw [q];rfl),fun q=>e'.2.2.1 (by simp only [ur];rw [q];rfl),fun q=>e'.2.2.2 (by simp only [ur];rw [q];rfl)⟩
  simp only [e2,Bool.false_or,decide_eq_true_eq,hless]
  have hp:∀ (r:List zd) (c:za),pc r c=[]↔r=[]:=fun r c=>by unfold pc;split <;> simp [*]
  simp only [List.append_eq_nil_iff,hp,and_assoc]
def za3 (a b:za):List Nat:=(List.range 4).filter (fun n=>decide (ud a n≠ud b n))
def uni (a b:za) (n:Nat):List zd:=Xh (ud a n) (ud b n)
def mg (a b:za):Option za :=
 if in4 a b then some b else if in4 b a then some a else
 match za3 a b with
 | [n]=>if (uni a b n).length≤40 then some (Yj a n (uni a b n)) else none
 | _=>none
theorem zeN {a b:za} {n:Nat} (h:za3 a b=[n]):n<4∧ud a n≠ud b n:=by
 have:n∈za3 a b:=by rw [h];simp
 obtain ⟨h1,h2⟩:=List.mem_filter.1 this
 exact ⟨by simpa using h1,by simpa using h2⟩
theorem zkG {a b x:za} (ha:B4 a∧F4 a) (hb:B4 b∧F4 b) (h:mg a b=some x):B4 x∧F4 x:=by
 unfold mg at h
 split at h
 ·injection h with h;subst h;exact hb
 ·split at h
  ·injection h with h;subst h;exact ha
  ·split at h
   ·rename_i n hn
    obtain ⟨h4,_⟩:=zeN hn
    split at h
    ·rename_i hl
     injection h with h;subst h
     have k0:(0:Int)≤n:=by omega
     have k3:(n:Int)≤3:=by omega
     exact ⟨zgT ha.1 k0 k3 (zbZ (Yk ha.1 k0 k3) (Yk hb.1 k0 k3)),zgl (zgM (zfQ.1 ha.2) k0 k3 hl (Nat.le_refl _))⟩
    ·cases h
   ·cases h
theorem zhf {a b:List zd} (hl:a.length≤4294967296) {κ:Bool→Prop} (h:κ (decide (a=b))):jB a b κ:=by
 unfold jB
 by_cases hab:a.length=b.length
 ·refine zm (fun e=>by simp [hab] at e) (fun _=>?_)
  exact zeX a b hab hl (fun x y A=>ifW (!(decide (x=y))) (κ false) A) (fun x y A h1 h2=>zm (fun e=>h2 (by simpa using e)) (fun e=>h1 (by simpa using e))) h _ (fun nx t hh=>hh)
 ·rw [decide_eq_false (fun q=>hab (by rw [q]))] at h
  exact zm (fun _=>h) (fun e=>by simp at e;omega)
def Um (a b:za) (k:Nat):List Nat:=(List.range k).filter (fun n=>decide (ud a n≠ud b n))
theorem X4 (a b:za) (k:Nat):Um a b (k+1)=Um a b k++(if ud a k≠ud b k then [k] else []):=by
 unfold Um
 rw [List.range_succ,List.filter_append,List.filter_cons]
 by_cases h:ud a k=ud b k <;> simp [h]
theorem zhl (a b:za):∀ k,(Um a b k).length≤k:=fun k=>Nat.le_trans (List.length_filter_le _ _) (by simp)
def zlk:Option za→za×Bool
 | some x=>(x,true)
 | none=>(zcb,false)
theorem zeF {a b:za} (ha:B4 a∧F4 a) (hb:B4 b∧F4 b) {κ:za×Bool→Prop} (h:κ (zlk (mg a b))):uB a b κ:=by
 unfold uB
 unfold mg at h
 refine zfs ha.1 hb.1 (zm (fun e=>?_) (fun e=>zfs hb.1 ha.1 (zm (fun e2=>?_) (fun e2=>?_))))
 ·rw [if_pos e] at h;exact h
 ·rw [if_neg (by simp [e]),if_pos e2] at h;exact h
 rw [if_neg (by simp [e]),if_neg (by simp [e2])] at h
 refine zV 4 (fun s=>s.2.2) (fun k (s:Int×Int×Int)=>s.2.2=(k:Int)∧k≤4∧s.2.1=((Um a b k).length:Int)∧∀ n,(Um a b k).getLast?=some n→s.1=(n:Int)) (fun k s h=>h.1) (fun k s h=>h.2.1) ?_ ⟨rfl,by omega,rfl,fun n hn=>by simp [Um] at hn⟩
 rintro k ⟨f,cn,_⟩ next ⟨rfl,hk,hcn,hf⟩ hn
 simp only at hcn hf
 subst hcn
 have hdl:=zhl a b k
 refine zm (fun hc=>?_) (fun hc=>?_)
 ·have hlt:k<4:=by
   have:(k:Int)<4:=of_decide_eq_true hc
   omega
  have k0:(0:Int)≤k:=by omega
  have k3:(k:Int)≤3:=by omega
  refine xR (xR (yx k0 k3 (yx k0 k3 (zhf (by have:=zfQ.1 ha.2 k k0 k3;omega) (zm (fun e=>?_) (fun e=>?_))))))
  ·have hne:ud a k≠ud b k:=by simpa using e
   refine zx (by omega) (by omega) (zx (by omega) (by omega) (hn hlt _ ⟨by simp,by omega,?_,fun n hnn=>?_⟩))
   ·rw [X4,if_pos hne];simp
   ·rw [X4,if_pos hne] at hnn
    simp at hnn;simp only;omega
  ·have hne:¬ ud a k≠ud b k:=by simpa using e
   refine zx (by omega) (by omega) (hn hlt _ ⟨by simp,by omega,?_,fun n hnn=>?_⟩)
   ·rw [X4,if_neg hne];simp
   ·rw [X4,if_neg hne,List.append_nil] at hnn
    exact hf n hnn
 ·have hge:k=4:=by
   have:¬ (k:Int)<4:=of_decide_eq_false hc
   omega
  subst hge
  have ed:Um a b 4=za3 a b:=rfl
  rw [ed] at hf ⊢
  refine zm (fun e3=>?_) (fun e3=>?_)
  ·have h1:¬ (za3 a b).length=1:=by
    have:¬ ((za3 a b).length:Int)=1:=by simpa using e3
    omega
   have:κ (zcb,false):=by
    split at h
    ·rename_i n hn';rw [hn'] at h1;simp at h1
    ·exact h
   exact this
  ·have h1:(za3 a b).length=1:=by
    have:((za3 a b).length:Int)=1:=by simpa using e3
    omega
   obtain ⟨n,hn'⟩:=List.length_eq_one_iff.1 h1
   rw [hn'] at h hf
   have hfn:=hf n rfl
   subst hfn
   obtain ⟨h4,_⟩:=zeN hn'
   have k0:(0:Int)≤n:=by omega
   have k3:(n:Int)≤3:=by omega
   have tl:=VI n
   refine xR (yx k0 k3 (yx k0 k3 (yP k0 k3 (zeY (Yk ha.1 k0 k3) (Yk hb.1 k0 k3) (by omega) (by omega) ?_))))
   simp only at h
   by_cases hl:(uni a b n).length≤40
   ·rw [if_pos hl] at h
    have el:lim (Xh (ud a n) (ud b n))=(uni a b n,true):=by unfold lim;rw [if_neg (by unfold uni at hl;omega)];rfl
    rw [el]
    refine jR (yx k0 k3 ⟨_,_,_,_,UL k0 k3,h⟩)
   ·rw [if_neg hl] at h
    have el:lim (Xh (ud a n) (ud b n))=([],false):=by unfold lim;rw [if_pos (by unfold uni at hl;omega)]
    rw [el]
    exact jt h
end
section
open Go Go.Proofs
def pm (x y:zl):Option zl:=if x.xAccept=y.xAccept then (mg x.xWhere y.xWhere).map (fun w=>⟨w,x.xAccept⟩) else none
def pmA (l:List zl) (k:Nat):Option zl:=match l[k]?,l[k+1]? with | some x,some y=>pm x y | _,_=>none
def fpN (l:List zl):Nat→Option (Nat×zl)
 | 0=>none
 | n+1=>match fpN l n with | some r=>some r | none=>(pmA l n).map (fun z=>(n,z))
def fp (l:List zl):Option (Nat×zl):=fpN l l.length
def Vc (l:List zl) (k:Nat) (z:zl):List zl:=l.take k++[z]++l.drop (k+2)
def mgN:Nat→List zl→List zl
 | 0,l=>l
 | n+1,l=>match fp l with | none=>l | some (k,z)=>mgN n (Vc l k z)
def mgF (l:List zl):List zl:=mgN l.length l
theorem zb8 {l:List zl} {k:Nat} {z:zl} (h:pmA l k=some z):k+1<l.length:=by
 unfold pmA at h
 split at h
 ·rename_i x y h1 h2;exact (List.getElem?_eq_some_iff.1 h2).1
 ·cases h
theorem ziy {l:List zl} {k:Nat} (h:l.length≤k+1):pmA l k=none:=by
 cases e:pmA l k with
 | none=>rfl
 | some z=>have:=zb8 e;omega
theorem zfi {l:List zl} {k:Nat} (h:k+1<l.length):pmA l k=pm l[k] l[k+1]:=by
 unfold pmA
 rw [List.getElem?_eq_getElem (by omega:k<l.length),List.getElem?_eq_getElem h]
theorem zcV {l:List zl}:∀ {n:Nat},(∀ j,j<n→pmA l j=none)→fpN l n=none
 | 0,_=>rfl
 | n+1,h=>by
  unfold fpN
  rw [zcV (fun j hj=>h j (by omega))]
  simp [h n (by omega)]
theorem zfA {l:List zl} {k:Nat} {z:zl} (h1:∀ j,j<k→pmA l j=none) (h2:pmA l k=some z):∀ {n:Nat},k<n→fpN l n=some (k,z)
 | 0,h=>by omega
 | n+1,h=>by
  unfold fpN
  by_cases e:k=n
  ·subst e;rw [zcV h1,h2];rfl
  ·rw [zfA h1 h2 (by omega)]
theorem zgG {l:List zl} (h:∀ j,pmA l j=none):fp l=none:=zcV (fun j _=>h j)
theorem zcy {l:List zl} {k:Nat} {z:zl} (h1:∀ j,j<k→pmA l j=none) (h2:pmA l k=some z):fp l=some (k,z):=zfA h1 h2 (by have:=zb8 h2;omega)
theorem zad {l:List zl} {k:Nat} {z:zl} (h:k+1<l.length):(Vc l k z).length=l.length - 1:=by
 unfold Vc
 simp only [List.length_append,List.length_take,List.length_singleton,List.length_drop];omega
theorem zfv {l:List zl} (h:∀ j,pmA l j=none):mgF l=l:=by
 unfold mgF
 cases e:l.length with
 | zero=>rfl
 | succ n=>unfold mgN;rw [zgG h]
theorem zfG {l:List zl} {k:Nat} {z:zl} (h1:∀ j,j<k→pmA l j=none) (h2:pmA l k=some z):mgF l=mgF (Vc l k z):=by
 have hk:=zb8 h2
 have hl:=zad (z:=z) hk
 unfold mgF
 rw [hl]
 obtain ⟨n,hn⟩:∃ n,l.length=n+1:=⟨l.length - 1,by omega⟩
 rw [hn]
 conv=>lhs;unfold mgN
 rw [zcy h1 h2]
 rfl
theorem zk6 {x y z:zl} (hx:B4 x.xWhere∧F4 x.xWhere) (hy:B4 y.xWhere∧F4 y.xWhere) (h:pm x y=some z):(B4 z.xWhere∧F4 z.xWhere)∧z.xAccept=x.xAccept:=by
 unfold pm at h
 split at h
 ·cases e:mg x.xWhere y.xWhere with
  | none=>rw [e] at h;cases h
  | some w =>
   rw [e] at h
   simp only [Option.map_some,Option.some.injEq] at h
   subst h
   exact ⟨zkG hx hy e,rfl⟩
 ·cases h
theorem zdg {l:List zl} {k:Nat} {z:zl} (h:IV l) (h2:pmA l k=some z):IV (Vc l k z):=by
 have hk:=zb8 h2
 rw [zfi hk] at h2
 have hz:=zk6 (h _ (List.getElem_mem (by omega))) (h _ (List.getElem_mem hk)) h2
 intro f hf
 unfold Vc at hf
 rcases List.mem_append.1 hf with q | q
 ·rcases List.mem_append.1 q with q | q
  ·exact h f (List.mem_of_mem_take q)
  ·rw [List.mem_singleton] at q;subst q;exact hz.1
 ·exact h f (List.mem_of_mem_drop q)
theorem zgq:∀ (n:Nat) {l:List zl},IV l→IV (mgN n l)∧(mgN n l).length≤l.length
 | 0,l,h=>⟨h,Nat.le_refl _⟩
 | n+1,l,h=>by
  unfold mgN
  cases e:fp l with
  | none=>exact ⟨h,Nat.le_refl _⟩
  | some kz =>
   obtain ⟨k,z⟩:=kz
   have hkz:pmA l k=some z:=by
    have:∀ n,fpN l n=some (k,z)→pmA l k=some z:=by
     intro n
     induction n with
     | zero=>intro q;cases q
     | succ n ih =>
      intro q
      unfold fpN at q
      cases e2:fpN l n with
      | some r=>rw [e2] at q;simp only [Option.some.injEq] at q;subst q;exact ih e2
      | none =>
       rw [e2] at q
       cases e3:pmA l n with
       | none=>rw [e3] at q;cases q
       | some z' =>
        rw [e3] at q
        simp only [Option.map_some,Option.some.injEq,Prod.mk.injEq] at q
        obtain ⟨rfl,rfl⟩:=q
        exact e3
    exact this _ e
   have ih:=zgq n (zdg h hkz)
   have hl:=zad (z:=z) (zb8 hkz)
   exact ⟨ih.1,by have:=ih.2;simp only;omega⟩
theorem zih {l:List zl} (h:IV l):IV (mgF l):=(zgq _ h).1
theorem zeK {l:List zl} (h:IV l):(mgF l).length≤l.length:=(zgq _ h).2
theorem zji {l:List zl} (hl:l.length≤4294967296) {κ:List zl→Prop} (h:κ l):xL l κ:=by
 unfold xL
 refine ⟨fun _=>jR (jj (by simpa using hl) h),fun e=>?_⟩
 subst e
 exact ⟨jt h,jR (jj (by simp) h)⟩
theorem zhJ {l:List zl} {i:Nat} (h:i+2≤l.length) {κ:List zl→Prop} (hκ:κ (l.take (i+1)++l.drop (i+2))):xG l ((i:Int)+1) ((i:Int)+2) κ:=by
 refine ⟨by omega,by omega,by omega,?_⟩
 rw [show ((i:Int)+1).toNat=i+1 by omega,show ((i:Int)+2).toNat=i+2 by omega]
 exact hκ
theorem zi6 {l:List zl} {i:Nat} (h:i+1<l.length) (z:zl):(l.set i z).take (i+1)++(l.set i z).drop (i+2)=Vc l i z:=by
 unfold Vc
 rw [List.take_succ_eq_append_getElem (by simp;omega),List.take_set_of_le (by omega),List.drop_set_of_lt (by omega)]
 simp
theorem zhn {l:List zl} {i j:Nat} {z:zl} (h:i+1<l.length) (hj:j+1<i):pmA (Vc l i z) j=pmA l j:=by
 unfold pmA
 have e:∀ m,m<i→(Vc l i z)[m]?=l[m]?:=fun m hm=>by
  unfold Vc
  rw [List.append_assoc,List.getElem?_append_left (by rw [List.length_take];omega),List.getElem?_take,if_pos hm]
 rw [e j (by omega),e (j+1) hj]
theorem zbn {l:List zl} (hl:l.length≤100000) (hv:IV l) {κ:List zl→Prop} (h:κ (mgF l)):yg l κ:=by
 unfold yg
 refine zji (by omega) ?_
 refine ZG (fun (s:List zl×Int)=>∃ i:Nat,s.2=(i:Int)∧i≤s.1.length∧s.1.length≤100000∧IV s.1∧(∀ j,j<i→pmA s.1 j=none)∧mgF s.1=mgF l) (fun s=>2 * s.1.length - s.2.toNat) ?_ ⟨0,rfl,by omega,hl,hv,fun j hj=>by omega,rfl⟩
 rintro ⟨xs,_⟩ next ⟨i,rfl,hi,hxl,hxv,hno,hm⟩ hn
 simp only at hi hxl hxv hno hm hn
 refine zx (by omega) (by omega) (zm (fun hc=>?_) (fun hc=>?_))
 ·have hlt:i+1<xs.length:=by have:=of_decide_eq_true hc;omega
  have hxi:=hxv _ (List.getElem_mem (show i<xs.length by omega))
  have hxj:=hxv _ (List.getElem_mem hlt)
  have hpm:=zfi hlt
  have w64e:w64 ((i:Int)+1)=((i+1:Nat):Int):=by rw [ziP (by omega) (by omega)];omega
  have stepNo:pmA xs i=none→jo (i:Int) 1 (fun t153=>next (xs,t153)):=fun q=>zx (by omega) (by omega) (hn _ ⟨i+1,by simp,by simp only;omega,hxl,hxv,fun j hj=>by
   by_cases e:j=i
   ·subst e;exact q
   ·exact hno j (by omega),hm⟩ (by simp only;omega))
  have stepYes:∀ w:za,pmA xs i=some ⟨w,xs[i].xAccept⟩→zI xs (i:Int) (fun e174=>jo (i:Int) 1 (fun t189=>jo (i:Int) 2 (fun t190=>xG (xs.set ((i:Int)).toNat (zl.mk w e174.xAccept)) t189 t190 (fun r191=>Y6 (i:Int) 1 (fun t194=>next (r191,(max t194 0))))))):=fun w q=>by
   refine zo i rfl (by omega) (zx (by omega) (by omega) (zx (by omega) (by omega) ?_))
   rw [Int.toNat_natCast]
   refine zhJ (by rw [List.length_set];omega) ?_
   rw [zi6 hlt]
   have hml:=zad (l:=xs) (k:=i) (z:=⟨w,xs[i].xAccept⟩) hlt
   refine ZU (by omega) (by omega) (hn _ ⟨i - 1,by simp only;omega,by simp only;omega,by simp only;omega,zdg hxv q,fun j hj=>?_,?_⟩ (by simp only;omega))
   ·rw [zhn hlt (by omega)];exact hno j (by omega)
   ·rw [← zfG hno q];exact hm
  refine xR (zo i rfl (by omega) (zx (by omega) (by omega) (zo (i+1) (by omega) hlt (zm (fun e=>?_) (fun e=>?_)))))
  ·have ea:xs[i].xAccept=xs[i+1].xAccept:=of_decide_eq_true e
   unfold pm at hpm
   rw [if_pos ea] at hpm
   rw [w64e]
   refine xR (zo i rfl (by omega) (zo (i+1) rfl hlt (zeF hxi hxj ?_)))
   cases em:mg xs[i].xWhere xs[i+1].xWhere with
   | none =>
    rw [em] at hpm
    exact jt (stepNo hpm)
   | some w =>
    rw [em] at hpm
    exact jR ⟨w.x0,w.x1,w.x2,w.x3,rfl,stepYes w hpm⟩
  ·have ea:¬ xs[i].xAccept=xs[i+1].xAccept:=of_decide_eq_false e
   unfold pm at hpm
   rw [if_neg ea] at hpm
   exact jt (stepNo hpm)
 ·have hge:xs.length≤i+1:=by have:=of_decide_eq_false hc;omega
  have:mgF xs=xs:=zfv (fun j=>by
   by_cases e:j<i
   ·exact hno j e
   ·exact ziy (by omega))
  rw [← hm,this] at h
  exact h
def trN (l:List zl) (rest:Bool):Nat→Nat
 | 0=>0
 | n+1=>if (match l[n]? with | some f=>decide (f.xAccept=rest) | none=>false) then trN l rest n else n+1
def trF (l:List zl) (rest:Bool):List zl:=l.take (trN l rest l.length)
theorem zjj (l:List zl) (rest:Bool):(trF l rest).length≤l.length:=by unfold trF;rw [List.length_take];omega
theorem zkp {l:List zl} {rest:Bool} (h:IV l):IV (trF l rest):=fun f hf=>h f (List.mem_of_mem_take hf)
theorem zhp {l:List zl} {rest:Bool} (hl:l.length≤100000) {κ:List zl→Prop} (h:κ (trF l rest)):YD l rest κ:=by
 unfold YD
 refine ZG (fun (s:Int)=>∃ n:Nat,s=(n:Int)∧n≤l.length∧trN l rest l.length=trN l rest n) (fun s=>s.toNat) ?_ ⟨l.length,rfl,Nat.le_refl _,rfl⟩
 rintro _ next ⟨n,rfl,hn',he⟩ hnx
 have fin:trN l rest n=n→yN l 0 (n:Int) (fun xs73=>κ xs73):=fun q=>by
  refine ⟨by omega,by omega,by omega,?_⟩
  unfold trF at h
  rw [he,q] at h
  simpa using h
 refine xR (zm (fun e=>?_) (fun e=>jR (fin ?_)))
 ·have hpos:0<n:=by have:=of_decide_eq_true e;omega
  obtain ⟨m,rfl⟩:∃ m,n=m+1:=⟨n - 1,by omega⟩
  have hlt:m<l.length:=by omega
  have em:((m+1:Nat):Int) - 1=(m:Int):=by omega
  refine ZU (by omega) (by omega) ?_
  rw [em]
  refine zo m rfl hlt (zm (fun e2=>?_) (fun e2=>fin ?_))
  ·have e2':l[m].xAccept=rest:=of_decide_eq_true e2
   refine ZU (by omega) (by omega) (hnx _ ⟨m,by omega,by omega,?_⟩ (by omega))
   rw [he]
   conv=>lhs;unfold trN
   rw [List.getElem?_eq_getElem hlt]
   simp [e2']
  ·have e2':¬ l[m].xAccept=rest:=of_decide_eq_false e2
   unfold trN
   rw [List.getElem?_eq_getElem hlt]
   simp [e2']
 ·have:n=0:=by have:=of_decide_eq_false e;omega
  subst this;rfl
def sh1 (l:List zl) (rest:Bool):List zl:=trF (mgF (wdF l)) rest
theorem zaH {l:List zl} {rest:Bool} (h:IV l):IV (sh1 l rest):=zkp (zih (zaD h))
theorem Ug {l:List zl} {rest:Bool} (h:IV l):(sh1 l rest).length≤l.length:=Nat.le_trans (zjj _ _) (Nat.le_trans (zeK (zaD h)) (ze8 l))
def shN (rest:Bool):Nat→List zl→List zl
 | 0,l=>sh1 l rest
 | n+1,l=>if (sh1 l rest).length=l.length then sh1 l rest else shN rest n (sh1 l rest)
def shF (l:List zl) (rest:Bool):List zl:=shN rest l.length l
theorem zgm {rest:Bool}:∀ {n:Nat} {l:List zl},IV l→IV (shN rest n l)∧(shN rest n l).length≤l.length
 | 0,l,h=>⟨zaH h,Ug h⟩
 | n+1,l,h=>by
  unfold shN
  split
  ·exact ⟨zaH h,Ug h⟩
  ·have:=zgm (rest:=rest) (n:=n) (zaH (rest:=rest) h)
   exact ⟨this.1,Nat.le_trans this.2 (Ug h)⟩
theorem zkB {l:List zl} {rest:Bool} (h:IV l):IV (shF l rest):=(zgm h).1
theorem zi7 {l:List zl} {rest:Bool} (h:IV l):(shF l rest).length≤l.length:=(zgm h).2
theorem zfI {rest:Bool}:∀ {n m:Nat} {l:List zl},IV l→l.length≤n→l.length≤m→shN rest n l=shN rest m l
 | 0,0,l,_,_,_=>rfl
 | 0,m+1,l,h,h1,h2=>by
  have:=Ug (rest:=rest) h
  unfold shN
  rw [if_pos (by omega)]
 | n+1,0,l,h,h1,h2=>by
  have:=Ug (rest:=rest) h
  conv=>lhs;unfold shN
  rw [if_pos (by omega)]
  rfl
 | n+1,m+1,l,h,h1,h2=>by
  have:=Ug (rest:=rest) h
  conv=>lhs;unfold shN
  conv=>rhs;unfold shN
  split
  ·rfl
  ·exact zfI (zaH h) (by omega) (by omega)
theorem zgH {l:List zl} {rest:Bool} (h:IV l):shF l rest=if (sh1 l rest).length=l.length then sh1 l rest else shF (sh1 l rest) rest:=by
 have:=Ug (rest:=rest) h
 unfold shF
 cases e:l.length with
 | zero =>
  rw [e] at this
  rw [if_pos (by omega)];rfl
 | succ n =>
  conv=>lhs;unfold shN
  rw [e]
  split
  ·rfl
  ·exact zfI (zaH h) (by omega) (Nat.le_refl _)
theorem zfe {l:List zl} {rest:Bool} (hl:l.length≤100000) (hv:IV l) {κ:List zl→Prop} (h:κ (shF l rest)):ZQ l rest κ:=by
 unfold ZQ
 refine ZG (fun (s:List zl)=>s.length≤100000∧IV s∧shF s rest=shF l rest) (fun s=>s.length) ?_ ⟨hl,hv,rfl⟩
 rintro xs next ⟨hx,hxv,he⟩ hn
 have w1:=ze8 xs
 have w2:=zeK (zaD hxv)
 have w3:=Ug (rest:=rest) hxv
 refine zdN hx hxv (zbn (by omega) (zaD hxv) (zhp (by omega) ?_))
 have hf:=zgH (rest:=rest) hxv
 refine zm (fun e=>?_) (fun e=>?_)
 ·have e':((sh1 xs rest).length:Int)=(xs.length:Int):=of_decide_eq_true e
  rw [if_pos (by omega)] at hf
  rw [← he,hf] at h;exact h
 ·have e':¬ ((sh1 xs rest).length:Int)=(xs.length:Int):=of_decide_eq_false e
  rw [if_neg (by omega)] at hf
  exact hn (sh1 xs rest) ⟨by omega,zaH hxv,by rw [← hf];exact he⟩ (by omega)
noncomputable def cf (s:zS):Option (List zl):=(uf s).map (fun l=>shF l s.xAccept)
theorem zjO {s:zS} (h:SV s) {l:List zl} (he:cf s=some l):IV l∧l.length≤60:=by
 unfold cf at he
 cases e:uf s with
 | none=>rw [e] at he;cases he
 | some u =>
  rw [e] at he
  simp only [Option.map_some,Option.some.injEq] at he
  subst he
  obtain ⟨u1,u2⟩:=ziU h e
  exact ⟨zkB u1,Nat.le_trans (zi7 u1) u2⟩
theorem zc8 {s:zS} (hb:Bd s) {κ:List zl×Bool→Prop} (h1:SV s→∀ l,cf s=some l→κ (l,true)) (h2:(SV s→cf s=none)→κ ([],false)):yT s κ:=by
 unfold yT
 refine zai hb (fun b hbv=>zm (fun e=>h2 (fun q=>?_)) (fun e=>?_))
 ·rw [hbv.2 q] at e;cases e
 have hv:SV s:=hbv.1 (by simpa using e)
 refine zd5 hv (fun l hl=>jR ?_) (fun hn l=>jt (h2 (fun _=>by unfold cf;rw [hn];rfl)))
 obtain ⟨u1,u2⟩:=ziU hv hl
 exact zfe (by omega) u1 (h1 hv _ (by unfold cf;rw [hl];rfl))
theorem VQ {s:zS} (hb:Bd s) {κ:List zB×Bool→Prop} (h1:SV s→∀ l,cf s=some l→κ (l.map gf,true)) (h2:(SV s→cf s=none)→κ ([],false)):Zb s κ:=by
 unfold Zb
 refine zc8 hb (fun hv l hl=>jR ?_) (fun q=>jt (h2 q))
 obtain ⟨u1,u2⟩:=zjO hv hl
 exact zga (by omega) u1 (h1 hv l hl)
end
section
open Go Go.Proofs
def zlg:Option (List za)→List zU×Bool
 | some l=>(l.map bx,true)
 | none=>([],false)
theorem zhk {a:za} {bs:List za} (ha:B4 a) (hb:aB bs) (hl:bs.length≤100000) {κ:List zU×Bool→Prop} (h:κ (zlg (V4 a bs))):Yf (bx a) (bs.map bx) κ:=by
 unfold Yf
 have start:∀ l0:List za,V4 a bs=lgo l0 bs→aB l0→l0.length≤400→jd (fun (nx88:((List zU)×Int)→Prop) ((xs84,t87):((List zU)×Int))=>ifW (decide (t87<((bs.map bx).length:Int))) (jd (fun (nx97:((List zU)×Int)→Prop) ((xs93,t96):((List zU)×Int))=>ifW (decide (t96<(xs84.length:Int))) (zI xs84 t96 (fun e98=>zI (bs.map bx) t87 (fun e100=>yj e98 e100 (fun r112=>jG xs93 r112 (fun _=>jo t96 1 (fun t117=>nx97 ((xs93++r112),t117))))))) (xd xs93 (fun r118=>ifW (!r118) (κ ([],false)) (jo t87 1 (fun t122=>nx88 (xs93,t122)))))) ([],0)) (κ (xs84,true))) (l0.map bx,0):=by
  intro l0 h0 hB0 hl0
  refine zV bs.length (fun s=>s.2) (fun k (s:List zU×Int)=>s.2=(k:Int)∧k≤bs.length∧∃ left,s.1=left.map bx∧aB left∧left.length≤400∧V4 a bs=lgo left (bs.drop k)) (fun k s h=>h.1) (fun k s h=>h.2.1) ?_ ⟨rfl,by omega,l0,rfl,hB0,hl0,h0⟩
  rintro k ⟨_,_⟩ next ⟨rfl,hk,left,hx,hB,hll,he⟩ hn
  simp only at hx
  subst hx
  refine zm (fun hc=>?_) (fun hc=>?_)
  rotate_left
  ·have hge:bs.length≤k:=by simpa using hc
   rw [he,List.drop_of_length_le hge] at h
   exact h
  have hlt:k<bs.length:=by simpa using hc
  rw [List.drop_eq_getElem_cons hlt] at he
  have hbk:=hb _ (List.getElem_mem hlt)
  refine zV left.length (fun s=>s.2) (fun j (s:List zU×Int)=>s.2=(j:Int)∧j≤left.length∧s.1=(xy (left.take j) bs[k]).map bx) (fun k s h=>h.1) (fun k s h=>h.2.1) ?_ ⟨rfl,by omega,by simp [xy]⟩
  rintro j ⟨_,_⟩ next2 ⟨rfl,hj,hx⟩ hn2
  simp only at hx
  subst hx
  have hsl:=U5 (left.take j) bs[k]
  rw [List.length_take] at hsl
  refine zm (fun hc2=>?_) (fun hc2=>?_)
  ·have hjl:j<left.length:=by simpa using hc2
   refine zo j rfl (by simpa using hjl) (zo k rfl (by simpa using hlt) ?_)
   rw [List.getElem_map,List.getElem_map]
   have hcl:=VS left[j] bs[k]
   refine zdE (hB _ (List.getElem_mem hjl)) hbk (jj (by simp only [List.length_map];omega) (zx (by omega) (by omega) (hn2 hjl _ ⟨by simp,by omega,?_⟩)))
   rw [List.take_succ_eq_append_getElem hjl,ZH,X7,List.map_append]
  ·have hjge:left.length≤j:=by simpa using hc2
   rw [List.take_of_length_le hjge] at hsl ⊢
   unfold lgo at he
   refine Zh (V6 hB hbk) (by omega) (fun ok=>?_) (fun no=>?_)
   ·rw [if_pos ok] at he
    exact jR (zx (by omega) (by omega) (hn hlt _ ⟨by simp,by omega,xy left bs[k],rfl,V6 hB hbk,ok.2,he⟩))
   ·rw [if_neg no] at he
    rw [he] at h
    exact jt h
 refine xR (Vm (zm (fun e=>?_) (fun e=>?_)))
 ·refine jj (by simp) (start [a] ?_ (fun c hc=>by rw [List.mem_singleton] at hc;subst hc;exact ha) (by simp))
  unfold V4;rw [if_neg (by simpa using e)]
 ·refine start [] ?_ zgw (by simp)
  unfold V4;rw [if_pos (by simpa using e),zeS]
theorem zbK {l:List zl} (hv:IV l) (hl:l.length≤60) {κ:List zU→Prop} (h:κ ((whs l).map bx)):Xw (l.map gf) κ:=by
 have hF:=zeC hv hl
 unfold Xw
 refine ZC hF.fb ?_
 refine zV l.length (fun s=>s.2) (fun k (s:List zU×Int)=>s.2=(k:Int)∧k≤l.length∧s.1=(whs (l.take k)).map bx) (fun k s h=>h.1) (fun k s h=>h.2.1) ?_ ⟨rfl,by omega,rfl⟩
 rintro k ⟨_,_⟩ next ⟨rfl,hk,hx⟩ hn
 simp only at hx
 subst hx
 refine xR (zm (fun hc=>?_) (fun hc=>jR ?_))
 ·have hlt:k<l.length:=by simpa using hc
  refine yI hF.fb ?_
  rw [decide_eq_true hF]
  refine jt (zo k rfl (by simpa using hlt) ?_)
  rw [List.getElem_map]
  refine jj (by simp [whs];omega) (zx (by omega) (by omega) (hn hlt _ ⟨by simp,by omega,?_⟩))
  simp only [whs,List.take_succ_eq_append_getElem hlt,List.map_append]
  rfl
 ·have hge:l.length≤k:=by simpa using hc
  rw [List.take_of_length_le hge];exact h
theorem zhj {l:List zl} (hv:IV l) (hl:l.length≤60) {k:Nat} (hk:k<l.length) {κ:Bool→Prop} (h:κ (dd l k)):Yi (l.map gf) k κ:=by
 unfold Yi
 refine zo k rfl (by simpa using hk) ?_
 rw [List.getElem_map]
 refine ⟨by omega,by omega,by simp;omega,?_⟩
 have e:((l.map gf).take (k:Int).toNat).drop (0:Int).toNat=(l.take k).map gf:=by simp [List.map_take]
 rw [e]
 refine zbK (hv.take k) (by rw [List.length_take];omega) ?_
 have hk2:=hv _ (List.getElem_mem hk)
 refine zhk hk2.1 (hv.take k).aB (by unfold whs;simp;omega) ?_
 have hd:=zjB hk
 unfold zh9 at hd
 cases hlr:V4 l[k].xWhere (whs (l.take k)) with
 | none =>
  rw [hlr] at hd
  have:dd l k=false:=by rw [hd];simp
  rw [this] at h
  exact xR (jR h)
 | some r =>
  rw [hlr] at hd
  refine xR (jt ?_)
  have e2:decide (((r.map bx).length:Int)=0)=dd l k:=by
   rw [hd]
   refine decide_eq_decide.2 ⟨fun q=>?_,fun q=>?_⟩
   ·rw [List.length_eq_zero_iff.1 (show r.length=0 by simp only [List.length_map] at q;omega)]
   ·injection q with q;subst q;rfl
  rw [e2];exact h
theorem zgp {l:List zl} (hv:IV l) (hl:l.length≤60) {κ:List zB→Prop} (h:κ ((wdF l).map gf)):XQ (l.map gf) κ:=by
 have hF:=zeC hv hl
 unfold XQ
 refine ZC hF.fb ?_
 refine zV l.length (fun s=>s.2.2) (fun k (s:List zB×List zB×Int)=>s.2.2=(k:Int)∧k≤l.length∧s.1=l.map gf∧s.2.1=(wdN l k).map gf) (fun k s h=>h.1) (fun k s h=>h.2.1) ?_ ⟨rfl,by omega,rfl,rfl⟩
 rintro k ⟨_,_,_⟩ next ⟨rfl,hk,hx,hy⟩ hn
 simp only at hx hy
 subst hx hy
 have hwl:=(zbi l k).1
 refine xR (zm (fun hc=>?_) (fun hc=>jR ?_))
 ·have hlt:k<l.length:=by simpa using hc
  refine yI hF.fb ?_
  rw [decide_eq_true hF]
  refine jt (xR (zhj hv hl hlt (zm (fun e=>?_) (fun e=>?_))))
  ·have hd:dd l k=false:=by simpa using e
   refine zo k rfl (by simpa using hlt) ?_
   rw [List.getElem_map]
   refine jj (by simp;omega) (zx (by omega) (by omega) (hn hlt _ ⟨by simp,by omega,rfl,?_⟩))
   rw [zhA hlt hd,List.map_append];rfl
  ·have hd:dd l k=true:=by simpa using e
   refine zx (by omega) (by omega) (hn hlt _ ⟨by simp,by omega,rfl,?_⟩)
   rw [zgS hlt hd]
 ·have hge:l.length≤k:=by simpa using hc
  have:k=l.length:=by omega
  subst this
  exact h
theorem U3 {a b:za} (ha:B4 a∧F4 a) (hb:B4 b∧F4 b) {κ:Bool→Prop} (h:κ (in4 a b)):Zc (bx a) (bx b) κ:=by
 unfold Zc
 have va:BV (bx a):=zc9.2 ha
 have vb:BV (bx b):=zc9.2 hb
 refine xR (yB va.bb ?_)
 rw [decide_eq_true va]
 refine jt (yB vb.bb ?_)
 rw [decide_eq_true vb]
 refine jt (zdE ha.1 hb.1 ?_)
 have e:decide ((((XD a b).map bx).length:Int)=0)=in4 a b:=by
  have:=zgJ ha.1 hb.1
  cases hi:in4 a b with
  | true=>rw [this.2 hi];rfl
  | false =>
   refine decide_eq_false (fun q=>?_)
   have:XD a b=[]:=List.length_eq_zero_iff.1 (by simp only [List.length_map] at q;omega)
   rw [(zgJ ha.1 hb.1).1 this] at hi;cases hi
 rw [e];exact h
theorem zg4 {a b:List zd} (hl:a.length≤4294967296) {κ:Bool→Prop} (h:κ (decide (a=b))):Yl a b κ:=by
 unfold Yl
 by_cases hab:a.length=b.length
 ·refine zm (fun e=>by simp [hab] at e) (fun _=>?_)
  exact zeX a b hab hl (fun x y A=>ifW (!(decide (x=y))) (κ false) A) (fun x y A h1 h2=>zm (fun e=>h2 (by simpa using e)) (fun e=>h1 (by simpa using e))) h _ (fun nx t hh=>hh)
 ·rw [decide_eq_false (fun q=>hab (by rw [q]))] at h
  exact zm (fun _=>h) (fun e=>by simp at e;omega)
theorem za0 {a b:List zd} {tp:Int} (h0:0≤tp) (h1:tp≤65535) (ha:SpV a tp) (hb:SpV b tp) {κ:List zd→Prop} (h:κ (if (Xh a b).length≤40 then Xh a b else [])):Z0 a b tp κ:=by
 unfold Z0
 have la:=ha.1
 have lb:=hb.1
 refine xR (Yu (by omega) h0 h1 ?_)
 rw [decide_eq_true ha]
 refine jR (Yu (by omega) h0 h1 ?_)
 rw [decide_eq_true hb]
 refine jR (jj (by simp;omega) ?_)
 have stp:∀ k,St ((b.take k).foldl zbc a) tp:=fun k=>zbZ ha.2 ⟨⟨fun s hs=>hb.2.1.1 s (List.mem_of_mem_take hs),hb.2.1.2.sublist (List.take_sublist _ _)⟩,fun s hs=>hb.2.2 s (List.mem_of_mem_take hs)⟩
 refine zV b.length (fun s=>s.2) (fun k (s:List zd×Int)=>s.2=(k:Int)∧k≤b.length∧s.1=(b.take k).foldl zbc a) (fun k s h=>h.1) (fun k s h=>h.2.1) ?_ ⟨rfl,by omega,by simp⟩
 rintro k ⟨_,_⟩ next ⟨rfl,hk,hx⟩ hn
 simp only at hx
 subst hx
 have hln:=zcd (b.take k) a
 rw [List.length_take] at hln
 refine zm (fun hc=>?_) (fun hc=>?_)
 ·have hlt:k<b.length:=by simpa using hc
  have hs:=hb.2.2 _ (List.getElem_mem hlt)
  have hs2:=hb.2.1.1 _ (List.getElem_mem hlt)
  refine zo k rfl hlt (zi4 (by omega) (fun s hs'=>?_) ?_ (zx (by omega) (by omega) (hn hlt _ ⟨by simp,by omega,?_⟩)))
  ·have q1:=(stp k).2 s hs'
   have q2:=(stp k).1.1 s hs'
   unfold Sm;omega
  ·unfold Sm;omega
  ·rw [List.take_succ_eq_append_getElem hlt,List.foldl_append];rfl
 ·have hge:b.length≤k:=by simpa using hc
  rw [List.take_of_length_le hge]
  refine zm (fun e=>?_) (fun e=>?_)
  ·have:¬ (Xh a b).length≤40:=by have:=of_decide_eq_true e;unfold Xh;omega
   rw [if_neg this] at h;exact h
  ·have:(Xh a b).length≤40:=by have:=of_decide_eq_false e;unfold Xh;omega
   rw [if_pos this] at h;exact h
def msp:Option za→zU×Bool
 | some x=>(bx x,true)
 | none=>(⟨[]⟩,false)
theorem ziu {a b:za} (h:∀ n:Nat,n<4→ud a n=ud b n):a=b:=by
 have h0:a.x0=b.x0:=h 0 (by decide)
 have h1:a.x1=b.x1:=h 1 (by decide)
 have h2:a.x2=b.x2:=h 2 (by decide)
 have h3:a.x3=b.x3:=h 3 (by decide)
 obtain ⟨a0,a1,a2,a3⟩:=a
 obtain ⟨b0,b1,b2,b3⟩:=b
 simp only at h0 h1 h2 h3
 subst h0 h1 h2 h3
 rfl
theorem zi9 {a b:za} (ha:B4 a) (h:in4 a b=false):za3 a b≠[]:=fun e=>by
 have:a=b:=ziu (fun n hn=>by
  by_cases q:ud a n=ud b n
  ·exact q
  ·have:n∈za3 a b:=List.mem_filter.2 ⟨by simpa using hn,by simpa using q⟩
   rw [e] at this;simp at this)
 subst this
 rw [zix ha] at h;cases h
theorem zj2 {a b:za} {tp:Int} {n:Nat} (ha:St (ud a n) tp) (hb:St (ud b n) tp) (h:ud a n≠ud b n):uni a b n≠[]:=fun e=>by
 have hh:=fun x=>zbW ha hb x
 unfold uni at e
 rw [e] at hh
 have na:ud a n=[]:=by
  cases q:ud a n with
  | nil=>rfl
  | cons s r =>
   have:=(UM ha.1 (show s∈ud a n by rw [q];simp)).1
   exact absurd ((hh _).2 (.inl this)) (yn _)
 have nb:ud b n=[]:=by
  cases q:ud b n with
  | nil=>rfl
  | cons s r =>
   have:=(UM hb.1 (show s∈ud b n by rw [q];simp)).1
   exact absurd ((hh _).2 (.inr this)) (yn _)
 exact h (by rw [na,nb])
theorem zaM {a b:za} (ha:B4 a∧F4 a) (hb:B4 b∧F4 b) {κ:zU×Bool→Prop} (h:κ (msp (mg a b))):yG (bx a) (bx b) κ:=by
 unfold yG
 unfold mg at h
 have va:BV (bx a):=zc9.2 ha
 have vb:BV (bx b):=zc9.2 hb
 refine xR (yB va.bb ?_)
 rw [decide_eq_true va]
 refine jR (yB vb.bb ?_)
 rw [decide_eq_true vb]
 refine jR (U3 ha hb (zm (fun e=>?_) (fun e=>U3 hb ha (zm (fun e2=>?_) (fun e2=>?_)))))
 ·rw [if_pos e] at h;exact zat vb.bb h
 ·rw [if_neg (by simp [e]),if_pos e2] at h;exact zat va.bb h
 rw [if_neg (by simp [e]),if_neg (by simp [e2])] at h
 have hne:=zi9 ha.1 e
 have two:∀ {k:Nat},k<4→Um a b k≠[]→ud a k≠ud b k→κ (⟨[]⟩,false):=fun {k} hk q1 q2=>by
  have hm:za3 a b=Um a b 4:=rfl
  have:2≤(za3 a b).length:=by
   have h1:(Um a b (k+1)).length≤(za3 a b).length:=by
    rw [hm];unfold Um
    exact (List.Sublist.filter _ (List.range_sublist.2 (by omega))).length_le
   rw [X4,if_pos q2,List.length_append] at h1
   have:=List.length_pos_iff.2 q1
   simp at h1;omega
  split at h
  ·rename_i n hn;rw [hn] at this;simp at this
  ·exact h
 refine zV 4 (fun s=>s.2) (fun k (s:Int×Int)=>s.2=(k:Int)∧k≤4∧((Um a b k=[]∧s.1=-1)∨∃ n:Nat,Um a b k=[n]∧s.1=n)) (fun k s h=>h.1) (fun k s h=>h.2.1) ?_ ⟨rfl,by omega,.inl ⟨rfl,rfl⟩⟩
 rintro k ⟨f,_⟩ next ⟨rfl,hk,hf⟩ hn
 simp only at hf
 refine zm (fun hc=>?_) (fun hc=>?_)
 ·have hlt:k<4:=by
   have:(k:Int)<4:=of_decide_eq_true hc
   omega
  have k0:(0:Int)≤k:=by omega
  have k3:(k:Int)≤3:=by omega
  refine xR (yx (a:=a) k0 k3 (yx (a:=b) k0 k3 (zg4 (by have:=zfQ.1 ha.2 k k0 k3;omega) (zm (fun e=>?_) (fun e=>?_)))))
  ·have hd:ud a k≠ud b k:=by simpa using e
   rcases hf with ⟨q1,rfl⟩ | ⟨n,q1,rfl⟩
   ·refine zm (fun e=>by simp at e) (fun _=>zx (by omega) (by omega) (hn hlt _ ⟨by simp,by omega,.inr ⟨k,?_,rfl⟩⟩))
    rw [X4,if_pos hd,q1];rfl
   ·exact zm (fun _=>two hlt (by rw [q1];simp) hd) (fun e=>by simp at e)
  ·have hd:¬ ud a k≠ud b k:=by simpa using e
   refine zx (by omega) (by omega) (hn hlt _ ⟨by simp,by omega,?_⟩)
   rw [X4,if_neg hd,List.append_nil];exact hf
 ·have hge:k=4:=by
   have:¬ (k:Int)<4:=of_decide_eq_false hc
   omega
  subst hge
  have ed:Um a b 4=za3 a b:=rfl
  rw [ed] at hf
  rcases hf with ⟨q1,_⟩ | ⟨n,q1,rfl⟩
  ·exact absurd q1 hne
  rw [q1] at h
  obtain ⟨h4,hd⟩:=zeN q1
  have k0:(0:Int)≤n:=by omega
  have k3:(n:Int)≤3:=by omega
  have tl:=VI n
  have sa:=Yk ha.1 k0 k3
  have sb:=Yk hb.1 k0 k3
  have spa:SpV (ud a n) (top n):=⟨zfQ.1 ha.2 _ k0 k3,sa⟩
  have spb:SpV (ud b n) (top n):=⟨zfQ.1 hb.2 _ k0 k3,sb⟩
  refine u6 (l:=L4 a) (by simp [L4]) (zaJ ha.1) (yx (a:=a) k0 k3 (yx (a:=b) k0 k3 (xA k0 k3 (za0 (by omega) (by omega) spa spb (yx (a:=a) k0 k3 ?_)))))
  have hset:∀ x,(L4 a).set ((n:Int)).toNat x=L4 (Yj a n x):=fun x=>UL k0 k3
  have hget:∀ x,ud (Yj a n x) n=x:=fun x=>by rcases zcZ k0 k3 with q | q | q | q <;> rw [q] <;> rfl
  simp only at h
  by_cases hl:(uni a b n).length≤40
  ·rw [if_pos hl] at h
   have hl':(Xh (ud a n) (ud b n)).length≤40:=hl
   rw [if_pos hl',hset]
   refine yx (a:=Yj a n (Xh (ud a n) (ud b n))) k0 k3 ?_
   rw [hget]
   refine zm (fun e=>?_) (fun _=>h)
   have:=of_decide_eq_true e
   exact absurd (List.length_eq_zero_iff.1 (show (uni a b n).length=0 by unfold uni;omega)) (zj2 sa sb hd)
  ·rw [if_neg hl] at h
   have hl':¬ (Xh (ud a n) (ud b n)).length≤40:=hl
   rw [if_neg hl',hset]
   refine yx (a:=Yj a n []) k0 k3 ?_
   rw [hget]
   exact jt h
def ppr:Option (Nat×zl)→Int×zB
 | some (k,z)=>(k,gf z)
 | none=>(-1,⟨⟨[]⟩,false⟩)
theorem zhg {l:List zl} (hv:IV l) (hl:l.length≤60) {κ:Int×zB→Prop} (h:κ (ppr (fp l))):Yq (l.map gf) κ:=by
 unfold Yq
 refine zV (l.length+1) (fun s=>s) (fun k s=>s=(k:Int)∧k≤l.length+1∧∀ j,j<k→pmA l j=none) (fun k s h=>h.1) (fun k s h=>h.2.1) ?_ ⟨rfl,by omega,fun j hj=>by omega⟩
 rintro k _ next ⟨rfl,hk,hno⟩ hn
 refine zx (by omega) (by omega) (zm (fun hc=>?_) (fun hc=>?_))
 ·have hlt:k+1<l.length:=by have:=of_decide_eq_true hc;simp only [List.length_map] at this;omega
  have hpm:=zfi hlt
  have w64e:w64 ((k:Int)+1)=((k+1:Nat):Int):=by rw [ziP (by omega) (by omega)];omega
  have stepNo:pmA l k=none→jo (k:Int) 1 (fun t110=>next t110):=fun q=>zx (by omega) (by omega) (hn (by omega) _ ⟨by simp,by omega,fun j hj=>by
   by_cases e:j=k
   ·subst e;exact q
   ·exact hno j (by omega)⟩)
  have ix:∀ (m:Nat) (hm:m<l.length) (K:zB→Prop),K (gf l[m])→zI (l.map gf) (m:Int) K:=fun m hm K hK=>zo m rfl (by simpa using hm) (by rw [List.getElem_map];exact hK)
  refine xR (ix k (by omega) _ ?_)
  rw [w64e]
  refine ix (k+1) hlt _ (zaM (hv _ (List.getElem_mem (by omega))) (hv _ (List.getElem_mem hlt)) ?_)
  unfold pm at hpm
  cases em:mg l[k].xWhere l[k+1].xWhere with
  | none =>
   rw [em] at hpm
   refine xR (jR (jR (stepNo ?_)))
   rw [hpm];split <;> rfl
  | some w =>
   rw [em] at hpm
   refine xR (jt (ix k (by omega) _ (zx (by omega) (by omega) ?_)))
   have e1:(k:Int)+1=((k+1:Nat):Int):=by omega
   rw [e1]
   refine ix (k+1) hlt _ (zm (fun e=>?_) (fun e=>?_))
   ·have ea:l[k].xAccept=l[k+1].xAccept:=of_decide_eq_true e
    rw [if_pos ea] at hpm
    rw [zcy hno hpm] at h
    exact ix k (by omega) _ h
   ·have ea:¬ l[k].xAccept=l[k+1].xAccept:=of_decide_eq_false e
    rw [if_neg ea] at hpm
    exact stepNo hpm
 ·have hge:l.length≤k+1:=by have:=of_decide_eq_false hc;simp only [List.length_map] at this;omega
  rw [zgG (fun j=>by
   by_cases e:j<k
   ·exact hno j e
   ·exact ziy (by omega))] at h
  exact h
theorem zi3 {l:List zl} {k:Nat} {z:zl} (h:fp l=some (k,z)):pmA l k=some z∧∀ j,j<k→pmA l j=none:=by
 have:∀ n,fpN l n=some (k,z)→pmA l k=some z∧∀ j,j<k→pmA l j=none:=by
  intro n
  induction n with
  | zero=>intro q;cases q
  | succ n ih =>
   intro q
   unfold fpN at q
   cases e2:fpN l n with
   | some r=>rw [e2] at q;simp only [Option.some.injEq] at q;subst q;exact ih e2
   | none =>
    rw [e2] at q
    cases e3:pmA l n with
    | none=>rw [e3] at q;cases q
    | some z' =>
     rw [e3] at q
     simp only [Option.map_some,Option.some.injEq,Prod.mk.injEq] at q
     obtain ⟨rfl,rfl⟩:=q
     refine ⟨e3,fun j hj=>?_⟩
     have key:∀ m,fpN l m=none→∀ j,j<m→pmA l j=none:=by
      intro m
      induction m with
      | zero=>intro _ j hj;omega
      | succ m ih2 =>
       intro q j hj
       unfold fpN at q
       cases e4:fpN l m with
       | some r=>rw [e4] at q;cases q
       | none =>
        rw [e4] at q
        cases e5:pmA l m with
        | some z5=>rw [e5] at q;cases q
        | none =>
         by_cases e6:j=m
         ·subst e6;exact e5
         ·exact ih2 e4 j (by omega)
     exact key _ e2 j hj
 exact this _ h
theorem zk5 {l:List zl} (h:fp l=none):∀ j,pmA l j=none:=fun j=>by
 cases e:pmA l j with
 | none=>rfl
 | some z =>
  exfalso
  have:∀ n,n≤j→(∀ i,i<n→pmA l i=none)∨∃ i z,i<n∧pmA l i=some z∧∀ m,m<i→pmA l m=none:=by
   intro n
   induction n with
   | zero=>intro _;exact .inl (fun i hi=>by omega)
   | succ n ih =>
    intro hn
    rcases ih (by omega) with q | ⟨i,z,q1,q2,q3⟩
    ·cases e2:pmA l n with
     | none=>exact .inl (fun i hi=>by
       by_cases e3:i=n
       ·subst e3;exact e2
       ·exact q i (by omega))
     | some z2=>exact .inr ⟨n,z2,by omega,e2,q⟩
    ·exact .inr ⟨i,z,by omega,q2,q3⟩
  rcases this j (Nat.le_refl _) with q | ⟨i,z2,q1,q2,q3⟩
  ·rw [zcy q e] at h;cases h
  ·rw [zcy q3 q2] at h;cases h
theorem zeJ {l:List zl} (hv:IV l) (hl:l.length≤60) {κ:List zB→Prop} (h:κ ((mgF l).map gf)):ZY (l.map gf) κ:=by
 have hF:=zeC hv hl
 unfold ZY
 refine ZC hF.fb (yI hF.fb ?_)
 rw [decide_eq_true hF]
 refine jR (jj (by simp;omega) ?_)
 refine ZG (fun (s:List zB)=>∃ xs:List zl,s=xs.map gf∧xs.length≤60∧IV xs∧mgF xs=mgF l) (fun s=>s.length) ?_ ⟨l,by simp,hl,hv,rfl⟩
 rintro _ next ⟨xs,rfl,hxl,hxv,he⟩ hn
 refine zhg hxv hxl ?_
 cases hfp:fp xs with
 | none =>
  rw [← he,zfv (zk5 hfp)] at h
  exact jt h
 | some kz =>
  obtain ⟨k,z⟩:=kz
  obtain ⟨p1,p2⟩:=zi3 hfp
  have hk:=zb8 p1
  have hml:=zad (z:=z) hk
  refine zm (fun e=>by have:(k:Int)<0:=of_decide_eq_true e;omega) (fun _=>zx (by omega) (by omega) ⟨by omega,by simp only [List.length_map];omega,by omega,?_⟩)
  have e1:((xs.map gf).take ((xs.map gf).length:Int).toNat).drop ((k:Int)+2).toNat=(xs.drop (k+2)).map gf:=by
   rw [Int.toNat_natCast,List.take_length,show ((k:Int)+2).toNat=k+2 by omega,List.map_drop]
  have e2:((xs.map gf).take ((k:Int)).toNat).drop (0:Int).toNat=(xs.take k).map gf:=by
   rw [Int.toNat_natCast];simp [List.map_take]
  rw [e1]
  refine jj (by simp;omega) (xR ⟨by omega,by omega,by simp only [List.length_map];omega,?_⟩)
  show jG [] (((xs.map gf).take ((k:Int)).toNat).drop (0:Int).toNat) _
  rw [e2]
  refine jj (by simp;omega) (jj (by simp;omega) (jj (by simp;omega) (hn _ ⟨Vc xs k z,?_,by omega,zdg hxv p1,?_⟩ ?_)))
  ·unfold Vc
   simp only [List.nil_append,List.map_append,List.map_cons,List.map_nil]
  ·rw [← zfG p2 p1];exact he
  ·simp;omega
theorem zf8 {l:List zl} {rest:Bool} (hv:IV l) (hl:l.length≤60) {κ:List zB→Prop} (h:κ ((trF l rest).map gf)):XX (l.map gf) rest κ:=by
 have hF:=zeC hv hl
 unfold XX
 refine ZC hF.fb (yI hF.fb ?_)
 rw [decide_eq_true hF]
 refine jR ?_
 refine ZG (fun (s:Int)=>∃ n:Nat,s=(n:Int)∧n≤l.length∧trN l rest l.length=trN l rest n) (fun s=>s.toNat) ?_ ⟨l.length,by simp,Nat.le_refl _,rfl⟩
 rintro _ next ⟨n,rfl,hn',he⟩ hnx
 have fin:trN l rest n=n→yN (l.map gf) 0 (n:Int) (fun xs84=>jG ([]) xs84 (fun _=>κ (([])++xs84))):=fun q=>by
  refine ⟨by omega,by omega,by simp;omega,?_⟩
  unfold trF at h
  rw [he,q] at h
  have e:((l.map gf).take (n:Int).toNat).drop (0:Int).toNat=(l.take n).map gf:=by simp [List.map_take]
  rw [e]
  exact jj (by simp;omega) h
 refine xR (zm (fun e=>?_) (fun e=>jR (fin ?_)))
 ·have hpos:0<n:=by have:=of_decide_eq_true e;omega
  obtain ⟨m,rfl⟩:∃ m,n=m+1:=⟨n - 1,by omega⟩
  have hlt:m<l.length:=by omega
  have em:((m+1:Nat):Int) - 1=(m:Int):=by omega
  refine ZU (by omega) (by omega) ?_
  rw [em]
  refine zo m rfl (by simpa using hlt) ?_
  rw [List.getElem_map]
  refine zm (fun e2=>?_) (fun e2=>fin ?_)
  ·have e2':l[m].xAccept=rest:=of_decide_eq_true e2
   refine ZU (by omega) (by omega) (hnx _ ⟨m,by omega,by omega,?_⟩ (by omega))
   rw [he]
   conv=>lhs;unfold trN
   rw [List.getElem?_eq_getElem hlt]
   simp [e2']
  ·have e2':¬ l[m].xAccept=rest:=of_decide_eq_false e2
   unfold trN
   rw [List.getElem?_eq_getElem hlt]
   simp [e2']
 ·have:n=0:=by have:=of_decide_eq_false e;omega
  subst this;rfl
theorem zhe {l:List zl} {rest:Bool} (hv:IV l) (hl:l.length≤60) {κ:List zB→Prop} (h:κ ((shF l rest).map gf)):Yn (l.map gf) rest κ:=by
 have hF:=zeC hv hl
 unfold Yn
 refine ZC hF.fb (yI hF.fb ?_)
 rw [decide_eq_true hF]
 refine jR (jj (by simp;omega) ?_)
 refine ZG (fun (s:List zB)=>∃ xs:List zl,s=xs.map gf∧xs.length≤60∧IV xs∧shF xs rest=shF l rest) (fun s=>s.length) ?_ ⟨l,by simp,hl,hv,rfl⟩
 rintro _ next ⟨xs,rfl,hx,hxv,he⟩ hn
 have w1:=ze8 xs
 have w2:=zeK (zaD hxv)
 have w3:=Ug (rest:=rest) hxv
 refine zgp hxv hx (zeJ (zaD hxv) (by omega) (zf8 (zih (zaD hxv)) (by omega) ?_))
 have hf:=zgH (rest:=rest) hxv
 refine zm (fun e=>?_) (fun e=>?_)
 ·have e':(sh1 xs rest).length=xs.length:=by
   have:=of_decide_eq_true e
   simp only [List.length_map] at this
   have:((sh1 xs rest).length:Int)=(xs.length:Int):=this
   omega
  rw [if_pos e'] at hf
  rw [← he,hf] at h;exact h
 ·have e':¬ (sh1 xs rest).length=xs.length:=by
   have:=of_decide_eq_false e
   simp only [List.length_map] at this
   have:¬ ((sh1 xs rest).length:Int)=(xs.length:Int):=this
   omega
  rw [if_neg e'] at hf
  exact hn ((sh1 xs rest).map gf) ⟨sh1 xs rest,rfl,by omega,zaH hxv,by rw [← hf];exact he⟩ (by simp only [List.length_map];omega)
theorem VY {s:zS} (hb:Bd s) {κ:List zB×Bool→Prop} (h1:SV s→∀ l,cf s=some l→κ (l.map gf,true)) (h2:(SV s→cf s=none)→κ ([],false)):Xf s κ:=by
 unfold Xf
 refine VL hb (zdP hb (fun hv l hl=>jR ?_) (fun q=>jt (h2 (fun hv=>by unfold cf;rw [q hv];rfl))))
 obtain ⟨u1,u2⟩:=ziU hv hl
 exact zhe u1 u2 (h1 hv _ (by unfold cf;rw [hl];rfl))
end
section
def Sx1 (l:List zd):Prop:=l.length≤1048576
def Sx2 (l:List (List zd)):Prop:=l.length≤1048576∧∀ x,x∈l→Sx1 x
def Sx3 (f:zB):Prop:=Sx2 f.xWhere.xSides
def Sx4 (l:List zB):Prop:=l.length≤1048576∧∀ f,f∈l→Sx3 f
theorem Sx4.fb {l:List zB} (h:Sx4 l):Fb l:=⟨by have:=h.1;omega,fun f hf=>⟨by have:=(h.2 f hf).1;omega,fun x hx=>by have:x.length≤1048576:=(h.2 f hf).2 x hx;omega⟩⟩
theorem BV.sx {b:zU} (h:BV b):Sx2 b.xSides:=by
 obtain ⟨a,rfl,_,f0,f1,f2,f3⟩:=h
 refine ⟨by simp [bx],fun x hx=>?_⟩
 simp only [bx,List.mem_cons,List.not_mem_nil,or_false] at hx
 unfold Sx1
 rcases hx with rfl | rfl | rfl | rfl <;> omega
theorem FV.sx {l:List zB} (h:FV l):Sx4 l:=⟨by have:=h.1;omega,fun f hf=>(h.2 f hf).sx⟩
theorem zjn:Sx4 []:=⟨by simp,by simp⟩
theorem ze4 {a:List zd} {κ:Bool→Prop} (hb:Sx1 a) (h:κ true):Yc a a κ:=by
 unfold Yc
 have:a.length≤1048576:=hb
 refine zm (fun hc=>by simp at hc) (fun _=>VX a (by omega) h _ (fun nx t g ht hf=>zm (fun hc=>?_) (fun hc=>hf (by simpa using hc))))
 have hlt:t<a.length:=by simpa using hc
 obtain ⟨hm,hn⟩:=ht a[t] (by simp [hlt])
 refine zo t rfl hlt (zo t rfl hlt ?_)
 unfold UW
 refine zm (fun hc=>by simp at hc) (fun _=>zm (fun hc=>by simp at hc) (fun _=>?_))
 simp only [Bool.not_true,X9]
 exact zx (by omega) (by omega) hn
theorem zdV {a:List (List zd)} {κ:Bool→Prop} (hb:Sx2 a) (h:κ true):XU a a κ:=by
 unfold XU
 have:=hb.1
 refine zm (fun hc=>by simp at hc) (fun _=>VX a (by omega) h _ (fun nx t g ht hf=>zm (fun hc=>?_) (fun hc=>hf (by simpa using hc))))
 have hlt:t<a.length:=by simpa using hc
 obtain ⟨hm,hn⟩:=ht a[t] (by simp [hlt])
 refine zo t rfl hlt (zo t rfl hlt (ze4 (hb.2 _ hm) ?_))
 simp only [Bool.not_true,X9]
 exact zx (by omega) (by omega) hn
theorem Vp {a:List zB} {κ:Bool→Prop} (hb:Sx4 a) (h:κ true):Zi a a κ:=by
 unfold Zi
 have:=hb.1
 refine zm (fun hc=>by simp at hc) (fun _=>VX a (by omega) h _ (fun nx t g ht hf=>zm (fun hc=>?_) (fun hc=>hf (by simpa using hc))))
 have hlt:t<a.length:=by simpa using hc
 obtain ⟨hm,hn⟩:=ht a[t] (by simp [hlt])
 refine zo t rfl hlt (zo t rfl hlt ?_)
 unfold UO Vq
 refine zdV (hb.2 _ hm) (jR (jR (zm (fun hc=>by simp at hc) (fun _=>jR (zx (by omega) (by omega) hn)))))
def fSp (k:Int) (_:zd):Int×zd:=(k+2,⟨k,k+1⟩)
def fSs (k:Int) (l:List zd):Int×List zd:=mkL fSp k l
def fFl (k:Int) (f:zB):Int×zB:=((mkL fSs k f.xWhere.xSides).1+1,⟨⟨(mkL fSs k f.xWhere.xSides).2⟩,decide ((mkL fSs k f.xWhere.xSides).1 % 3=0)⟩)
theorem zgd (x:zd) (k:Int) (_:1≤k):k≤(fSp k x).1∧(fSp k x).1≤k+2:=by simp [fSp];omega
theorem ze7 {x:List zd} (h:Sx1 x) (k:Int) (hk:1≤k):k≤(fSs k x).1∧(fSs k x).1≤k+2097152:=by
 have h':x.length≤1048576:=h
 obtain ⟨a,b⟩:=Vh fSp 2 (by decide) k x hk (fun x _=>zgd x)
 simp only [fSs];omega
theorem ziA {x:List (List zd)} (h:Sx2 x) (k:Int) (hk:1≤k):k≤(mkL fSs k x).1∧(mkL fSs k x).1≤k+2199023255552:=by
 have h':x.length≤1048576:=h.1
 obtain ⟨a,b⟩:=Vh fSs 2097152 (by decide) k x hk (fun x hx=>ze7 (h.2 x hx))
 omega
theorem zdD {x:zB} (h:Sx3 x) (k:Int) (hk:1≤k):k≤(fFl k x).1∧(fFl k x).1≤k+2199023255553:=by
 obtain ⟨a,b⟩:=ziA h k hk
 simp only [fFl];omega
theorem zjS {a:List zB} (h:Sx4 a) (k:Int) (hk:1≤k):k≤(mkL fFl k a).1∧(mkL fFl k a).1≤k+2305843009214742528:=by
 have h':a.length≤1048576:=h.1
 obtain ⟨x,y⟩:=Vh fFl 2199023255553 (by decide) k a hk (fun x hx=>zdD (h.2 x hx))
 omega
theorem zeL {a:List zd} {k0:Int} {κ:Int×List zd→Prop} (hl:Sx1 a) (h0:1≤k0) (h1:k0+2097152≤9000000000000000000) (h:κ (fSs k0 a)):Xm a k0 κ:=by
 unfold Xm
 have hl':a.length≤1048576:=hl
 refine YO fSp 2 1048576 a k0 (by omega) (by decide) (by decide) h0 (by omega) (fun x _=>zgd x) h _ (fun nx xs k t g0 g1 ht hf=>zm (fun hc=>?_) (fun hc=>hf (by simpa using hc)))
 have hlt:t<xs.length:=by simpa using hc
 obtain ⟨_,hk,hn⟩:=ht xs[t] (by simp [hlt])
 refine zo t rfl hlt (zx (by omega) (by omega) (Ux hlt (zx (by omega) (by omega) (zx (by omega) (by omega) ?_))))
 simp only [List.set_set,Int.toNat_natCast]
 have e3:k+1+1=k+2:=by omega
 rw [e3]
 exact hn
theorem zd8 {a:List (List zd)} {k0:Int} {κ:Int×List (List zd)→Prop} (hb:Sx2 a) (h0:1≤k0) (h1:k0+2199023255552≤9000000000000000000) (h:κ (mkL fSs k0 a)):ZV a k0 κ:=by
 unfold ZV
 have:=hb.1
 refine YO fSs 2097152 1048576 a k0 (by omega) (by decide) (by decide) h0 (by omega) (fun x hx=>ze7 (hb.2 x hx)) h _ (fun nx xs k t g0 g1 ht hf=>zm (fun hc=>?_) (fun hc=>hf (by simpa using hc)))
 have hlt:t<xs.length:=by simpa using hc
 obtain ⟨hm,hk,hn⟩:=ht xs[t] (by simp [hlt])
 refine zo t rfl hlt (zeL (hb.2 _ hm) g0 (by omega) (zx (by omega) (by omega) ?_))
 simp only [Int.toNat_natCast]
 exact hn
theorem zeQ {a:List zB} {k0:Int} {κ:Int×List zB→Prop} (hb:Sx4 a) (h0:1≤k0) (h1:k0≤1048576) (h:κ (mkL fFl k0 a)):Xv a k0 κ:=by
 unfold Xv
 have:=hb.1
 refine YO fFl 2199023255553 1048576 a k0 (by omega) (by decide) (by decide) h0 (by omega) (fun x hx=>zdD (hb.2 x hx)) h _ (fun nx xs k t g0 g1 ht hf=>zm (fun hc=>?_) (fun hc=>hf (by simpa using hc)))
 have hlt:t<xs.length:=by simpa using hc
 obtain ⟨hm,hk,hn⟩:=ht xs[t] (by simp [hlt])
 obtain ⟨b1,b2⟩:=zdD (hb.2 _ hm) k g0
 simp only [fFl] at b1 b2 hn
 refine zo t rfl hlt (zd8 (hb.2 _ hm) g0 (by omega) ?_)
 refine zfl (by omega) (by omega) (by omega) (Ux hlt (zx (by omega) (by omega) (zx (by omega) (by omega) ?_)))
 simp only [List.set_set,Int.toNat_natCast]
 exact hn
end
section
theorem ze2 {a:List zd} {k0:Int} {κ:Int→Prop} (hl:Sx1 a) (h0:1≤k0) (h1:k0+2097152≤9000000000000000000) (h:κ (fSs k0 a).1):Xs (fSs k0 a).2 k0 κ:=by
 unfold Xs
 have hl':a.length≤1048576:=hl
 refine zaw fSp 2 1048576 a k0 (by omega) (by decide) (by decide) h0 (by omega) (fun x _=>zgd x) h _ (fun nx k t g0 g1 ht hf=>zm (fun hc=>?_) (fun hc=>hf (by unfold fSs at hc;rw [UK] at hc;simpa using hc)))
 unfold fSs at hc ⊢
 rw [UK] at hc
 have hlt:t<a.length:=by simpa using hc
 obtain ⟨_,hk,hg,hn⟩:=ht a[t] (by simp [hlt])
 have e3:k+1+1=k+2:=by omega
 refine zaS hg (zm (fun hc=>by simp [fSp] at hc) (fun _=>zx (by omega) (by omega) ?_))
 refine zaS hg (zm (fun hc=>by simp [fSp] at hc) (fun _=>zx (by omega) (by omega) (zx (by omega) (by omega) ?_)))
 rw [e3];exact hn
theorem zd0 {a:List (List zd)} {k0:Int} {κ:Int→Prop} (hb:Sx2 a) (h0:1≤k0) (h1:k0+2199023255552≤9000000000000000000) (h:κ (mkL fSs k0 a).1):ZO (mkL fSs k0 a).2 k0 κ:=by
 unfold ZO
 have:=hb.1
 refine zaw fSs 2097152 1048576 a k0 (by omega) (by decide) (by decide) h0 (by omega) (fun x hx=>ze7 (hb.2 x hx)) h _ (fun nx k t g0 g1 ht hf=>zm (fun hc=>?_) (fun hc=>hf (by rw [UK] at hc;simpa using hc)))
 rw [UK] at hc
 have hlt:t<a.length:=by simpa using hc
 obtain ⟨hm,hk,hg,hn⟩:=ht a[t] (by simp [hlt])
 have hb2:=ze7 (hb.2 _ hm) k g0
 refine zaS hg (ze2 (hb.2 _ hm) g0 (by omega) (zm (fun hc=>by simp at hc;omega) (fun _=>zx (by omega) (by omega) hn)))
theorem za9 {a:List zB} {k0:Int} {κ:Int→Prop} (hb:Sx4 a) (h0:1≤k0) (h1:k0≤1048576) (h:κ (mkL fFl k0 a).1):Zd (mkL fFl k0 a).2 k0 κ:=by
 unfold Zd
 have:=hb.1
 refine zaw fFl 2199023255553 1048576 a k0 (by omega) (by decide) (by decide) h0 (by omega) (fun x hx=>zdD (hb.2 x hx)) h _ (fun nx k t g0 g1 ht hf=>zm (fun hc=>?_) (fun hc=>hf (by rw [UK] at hc;simpa using hc)))
 rw [UK] at hc
 have hlt:t<a.length:=by simpa using hc
 obtain ⟨hm,hk,hg,hn⟩:=ht a[t] (by simp [hlt])
 obtain ⟨b1,b2⟩:=zdD (hb.2 _ hm) k g0
 have b3:=ziA (hb.2 _ hm) k g0
 simp only [fFl] at b1 b2 hn hg
 refine zaS hg ?_
 refine zd0 (hb.2 _ hm) g0 (by omega) (zm (fun hc=>by simp at hc;omega) (fun _=>?_))
 refine zaS hg (zfl (by omega) (by omega) (by omega) (zm (fun hc=>by simp at hc) (fun _=>zx (by omega) (by omega) (zx (by omega) (by omega) ?_))))
 exact hn
end
section
open Go Go.Proofs
theorem zaA (s:zS) (hl:zlc s):ZM s (fun r=>r=true):=by
 unfold ZM
 refine zfZ hl (by decide) (by decide) (jt rfl) (fun r g0 g1 hs=>zm (fun _=>rfl) (fun _=>?_))
 have hbd:=hs.bd
 obtain ⟨fs,ok,hx,hI,hS⟩:∃ fs ok,Sx4 fs∧(∀ κ:List zB×Bool→Prop,κ (fs,ok)→Zb s κ)∧∀ κ:List zB×Bool→Prop,κ (fs,ok)→Xf s κ:=by
  by_cases h:∃ l,SV s∧cf s=some l
  ·obtain ⟨l,hv,hc⟩:=h
   obtain ⟨u1,u2⟩:=zjO hv hc
   refine ⟨l.map gf,true,(zeC u1 u2).sx,fun κ hκ=>VQ hbd (fun _ l2 h2=>?_) (fun q=>?_),fun κ hκ=>VY hbd (fun _ l2 h2=>?_) (fun q=>?_)⟩
   ·rw [hc] at h2;injection h2 with h2;subst h2;exact hκ
   ·rw [hc] at q;cases q hv
   ·rw [hc] at h2;injection h2 with h2;subst h2;exact hκ
   ·rw [hc] at q;cases q hv
  ·exact ⟨[],false,zjn,fun κ hκ=>VQ hbd (fun hv l2 h2=>absurd ⟨l2,hv,h2⟩ h) (fun _=>hκ),fun κ hκ=>VY hbd (fun hv l2 h2=>absurd ⟨l2,hv,h2⟩ h) (fun _=>hκ)⟩
 have mf:=zjS hx 1 (by decide)
 have mc:=zkj hs 1 (by decide)
 refine Uh hs (hS _ (Uh hs (hI _ ?_)))
 refine xR (Vp hx (jR ?_))
 refine zm (fun e=>by simp at e) (fun _=>?_)
 refine Uh hs (zcW hs (jR (zdx hs (by decide) (by decide) ?_)))
 refine xR (zm (fun e=>by simp at e;omega) (fun _=>Vp hx (jR (zm (fun e=>by simp at e) (fun _=>?_)))))
 refine zeQ hx (by decide) (by decide) (za9 hx (by decide) (by decide) ?_)
 refine zm (fun e=>by simp at e;omega) (fun _=>zm (fun e=>by simp at e) (fun _=>?_))
 refine Uh hs (hI _ (xR (Vp hx (jR (zm (fun e=>by simp at e) (fun _=>?_))))))
 refine za9 hx (by decide) (by decide) ?_
 refine zm (fun e=>by simp at e;omega) (fun _=>zm (fun e=>by simp at e) (fun _=>rfl))
end
end Go.Proofs.YtgpdnnhmndlljaaGreatDoor
