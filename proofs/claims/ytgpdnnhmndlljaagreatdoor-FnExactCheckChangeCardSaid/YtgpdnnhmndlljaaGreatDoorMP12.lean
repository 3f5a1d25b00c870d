import Derived.Test.YtgpdnnhmndlljaaGreatDoorMP1
set_option linter.unusedSimpArgs false
set_option linter.unusedVariables false
set_option linter.unusedSectionVars false
namespace Go.Proofs.YtgpdnnhmndlljaaGreatDoor
section
open Go Go.Proofs
theorem zfo {l:List zl} (hl:l.length≤100000) (hv:IV l) {n:Nat} (hn:n<l.length) {κ:List za×Bool→Prop} (h:κ (ziS (zg3 l n hn))):XF l n κ:=by
 unfold XF
 refine zp n rfl hn ⟨by omega,by omega,by omega,?_⟩
 have e:(l.take (n:Int).toNat).drop (0:Int).toNat=l.take n:=by simp
 rw [e]
 have hv2:=hv _ (List.getElem_mem hn)
 refine zfn (by simp;omega) (zb3 hv2.1 hv2.2 (hv.take n).aB (by unfold whs;rw [List.length_map,List.length_take];omega) ?_)
 exact h
def dd (l:List zl) (n:Nat):Bool:=match h:l[n]? with | some f=>decide (Yl f.xWhere (whs (l.take n))=some []) | none=>false
theorem zjh {l:List zl} {n:Nat} (hn:n<l.length):dd l n=decide (zg3 l n hn=some []):=by
 unfold dd
 split
 ·rename_i f hf
  obtain ⟨_,e⟩:=List.getElem?_eq_some_iff.1 hf
  unfold zg3;rw [e]
 ·rename_i hf
  rw [List.getElem?_eq_none_iff] at hf;omega
def zjg (l:List zl):List Nat:=(List.range l.length).filter (dd l)
theorem zhn {l:List zl} (hl:l.length≤100000) (hv:IV l) {κ:List Int→Prop} (h:κ ((zjg l).map Int.ofNat)):YV l κ:=by
 unfold YV
 refine zQ l.length (fun s=>s.2) (fun k (s:List Int×Int)=>s.2=(k:Int)∧k≤l.length∧s.1=((List.range k).filter (dd l)).map Int.ofNat) (fun k s h=>h.1) (fun k s h=>h.2.1) ?_ ⟨rfl,by omega,rfl⟩
 rintro k ⟨_,_⟩ next ⟨rfl,hk,hx⟩ hn
 simp only at hx
 subst hx
 refine zn (fun hc=>?_) (fun hc=>?_)
 ·have hlt:k<l.length:=by simpa using hc
  have hlen:(((List.range k).filter (dd l)).map Int.ofNat).length≤k:=by
   rw [List.length_map]
   exact Nat.le_trans (List.length_filter_le _ _) (by simp)
  refine jL (zfo hl hv hlt ?_)
  have step:∀ ys:List Int,ys=((List.range (k+1)).filter (dd l)).map Int.ofNat→jt (k:Int) 1 (fun t145=>next (ys,t145)):=fun ys hy =>
   zz (by omega) (by omega) (hn hlt _ ⟨by simp,by omega,hy⟩)
  have e1:dd l k=true→((List.range (k+1)).filter (dd l)).map Int.ofNat=((List.range k).filter (dd l)).map Int.ofNat++[(k:Int)]:=fun q=>by
   rw [List.range_succ,List.filter_append,List.map_append,List.filter_cons,q];rfl
  have e0:dd l k=false→((List.range (k+1)).filter (dd l)).map Int.ofNat=((List.range k).filter (dd l)).map Int.ofNat:=fun q=>by
   rw [List.range_succ,List.filter_append,List.map_append,List.filter_cons,q];simp
  have hd:=zjh hlt
  cases hlv:zg3 l k hlt with
  | none =>
   rw [hlv] at hd
   have hd':dd l k=false:=by rw [hd];simp
   exact jL (ju (ju (step _ (e0 hd').symm)))
  | some r =>
   rw [hlv] at hd
   refine jL (z7 (zn (fun e=>?_) (fun e=>?_)))
   ·have:r=[]:=by
     have:r.length=0:=by
      have:(r.length:Int)=0:=by simpa using e
      omega
     exact List.length_eq_zero_iff.1 this
    subst this
    have hd':dd l k=true:=by rw [hd];simp
    exact jm (by simp only [List.length_singleton];omega) (step _ (e1 hd').symm)
   ·have:r≠[]:=fun q=>by rw [q] at e;simp at e
    have hd':dd l k=false:=by rw [hd];simpa using this
    exact step _ (e0 hd').symm
 ·have hge:l.length≤k:=by simpa using hc
  have:k=l.length:=by omega
  subst this
  exact h
end
section
open Go.Lib (decDigits)
def Le (cs ds:List (List zG)):Prop:=cs.length≤ds.length∧∀ (i:Nat) (c:List zG),cs[i]?=some c→∃ e,ds[i]?=some (c++e)
theorem Le.refl (cs:List (List zG)):Le cs cs:=⟨Nat.le_refl _,fun i c h=>⟨[],by simpa using h⟩⟩
theorem Le.trans {a b c:List (List zG)} (h:Le a b) (h':Le b c):Le a c:=⟨Nat.le_trans h.1 h'.1,fun i x hx=>by
 obtain ⟨e,he⟩:=h.2 i x hx
 obtain ⟨e',he'⟩:=h'.2 i _ he
 exact ⟨e++e',by rw [he',List.append_assoc]⟩⟩
end
section
theorem ze7 {α:Type} (P:α→Prop) (a:List α) (left:Int) (h0:0≤left) (h1:left≤1048576) (hl:a.length≤4294967296) {κ:Int→Prop} (hκ:∀ r,0≤r→r≤left→(∀ x,x∈a→P x)→κ r) (F:(Int×Int→Prop)→Int×Int→Prop)
  (hF:∀ (nx:Int×Int→Prop) (r:Int) (t:Nat),0≤r→r≤1048576→t≤a.length→(∀ x,a[t]?=some x→∀ r',0≤r'→r'≤r→P x→nx (r',(t:Int)+1))→(¬ t<a.length→κ r)→F nx (r,(t:Int))):jk F (left,0):=by
 refine zQ a.length (fun s=>s.2) (fun k s=>s.2=(k:Int)∧k≤a.length∧0≤s.1∧s.1≤left∧∀ x,x∈a.take k→P x) (fun k s h=>h.1) (fun k s h=>h.2.1) ?_ ⟨rfl,Nat.zero_le _,h0,Int.le_refl _,by simp⟩
 rintro k ⟨r,t⟩ next ⟨rfl,hk,hr0,hr1,hP⟩ hn
 simp only at hr0 hr1 hP
 refine hF _ _ _ hr0 (by omega) hk (fun x hx r' g0 g1 hp=>?_) (fun hge=>hκ r hr0 hr1 ?_)
 ·obtain ⟨e1,e2⟩:=List.getElem?_eq_some_iff.1 hx
  refine hn e1 _ ⟨by simp,by omega,g0,by simp only;omega,fun y hy=>?_⟩
  rw [List.take_succ_eq_append_getElem e1,List.mem_append,List.mem_singleton] at hy
  rcases hy with hy | rfl
  ·exact hP y hy
  ·rw [e2];exact hp
 ·have:k=a.length:=by omega
  rw [this,List.take_length] at hP
  exact hP
theorem zft {α:Type} (a:List α) (hl:a.length≤4294967296) {κ:Bool→Prop} (hκ:κ true) (F:(Int→Prop)→Int→Prop)
  (hF:∀ (nx:Int→Prop) (t:Nat),t≤a.length→(∀ x,a[t]?=some x→x∈a∧nx ((t:Int)+1))→(¬ t<a.length→κ true)→F nx (t:Int)):jk F 0:=by
 refine zQ a.length (fun s=>s) (fun k s=>s=(k:Int)∧k≤a.length) (fun k s h=>h.1) (fun k s h=>h.2) ?_ ⟨rfl,Nat.zero_le _⟩
 rintro k _ next ⟨rfl,hk⟩ hn
 refine hF _ _ hk (fun x hx=>?_) (fun _=>hκ)
 obtain ⟨e1,e2⟩:=List.getElem?_eq_some_iff.1 hx
 exact ⟨e2 ▸ List.getElem_mem e1,hn e1 _ ⟨by omega,by omega⟩⟩
end
section
open Go.Lib (decDigits)
def Br (r:zG):Prop:=r.xTests.length≤1048576
def Bq (c:List zG):Prop:=c.length≤1048576∧∀ r,r∈c→Br r
def Bs (cs:List (List zG)):Prop:=cs.length≤1048576∧∀ c,c∈cs→Bq c
theorem Bs.bd {s:zM} (h:Bs s.xChains):Bd s:=⟨by have:=h.1;omega,fun c hc=>⟨by have:=(h.2 c hc).1;omega,fun r hr=>by have:r.xTests.length≤1048576:=(h.2 c hc).2 r hr;omega⟩⟩
theorem SV.bs {s:zM} (h:SV s):Bs s.xChains:=⟨by have:=h.1.1;omega,fun c hc=>⟨by have:=(h.1.2 c hc).1;omega,fun r hr=>by have:r.xTests.length≤6:=((h.1.2 c hc).2 r hr).1.1.2;unfold Br;omega⟩⟩
theorem zgV {a:List jH} {left:Int} {κ:Int→Prop} (hl:a.length≤9223372036854775807) (h0:0≤left) (h1:left≤1048576) (hn:κ (-1)) (h:∀ r,0≤r→r≤left→a.length≤1048576→κ r):Yi a left κ:=by
 unfold Yi
 refine Z3 (by omega) (by omega) (zn (fun _=>hn) (fun hc=>?_))
 simp at hc
 exact h _ (by omega) (by omega) (by omega)
theorem ziy {x:zG} {left:Int} {κ:Int→Prop} (hl:x.xTests.length≤9223372036854775807) (h0:0≤left) (h1:left≤1048576) (hn:κ (-1)) (h:∀ r,0≤r→r≤left→Br x→κ r):YU x left κ:=by
 unfold YU
 refine zgV hl h0 h1 (zn (fun _=>hn) (fun hc=>by simp at hc)) (fun r a b c=>zn (fun hc=>by simp at hc;omega) (fun _=>h r a b c))
theorem zg8 {a:List zG} {left:Int} {κ:Int→Prop} (hl:a.length≤9223372036854775807) (hl2:∀ r,r∈a→r.xTests.length≤9223372036854775807) (h0:0≤left) (h1:left≤1048576) (hn:κ (-1)) (h:∀ r,0≤r→r≤left→Bq a→κ r):Yn a left κ:=by
 unfold Yn
 refine Z3 (by omega) (by omega) (zn (fun _=>hn) (fun hc=>?_))
 simp at hc
 refine ze7 Br a _ (by omega) (by omega) (by omega) (fun r a b c=>h r a (by omega) ⟨by omega,c⟩) _ (fun nx r t g0 g1 g2 ht hf=>?_)
 refine zn (fun hc=>?_) (fun hc=>hf (by simpa using hc))
 have hlt:t<a.length:=by simpa using hc
 refine zp t rfl hlt ?_
 refine ziy (hl2 _ (List.getElem_mem hlt)) g0 g1 (zn (fun _=>hn) (fun hc=>by simp at hc)) (fun r' e0 e1 e2=>zn (fun hc=>by simp at hc;omega) (fun _=>zz (by omega) (by omega) ?_))
 exact ht _ (by simp [hlt]) r' e0 e1 e2
theorem zf1 {a:List (List zG)} {left:Int} {κ:Int→Prop} (hl:a.length≤9223372036854775807) (hl2:∀ c,c∈a→c.length≤9223372036854775807∧∀ r,r∈c→r.xTests.length≤9223372036854775807) (h0:0≤left) (h1:left≤1048576) (hn:κ (-1)) (h:∀ r,0≤r→r≤left→Bs a→κ r):XT a left κ:=by
 unfold XT
 refine Z3 (by omega) (by omega) (zn (fun _=>hn) (fun hc=>?_))
 simp at hc
 refine ze7 Bq a _ (by omega) (by omega) (by omega) (fun r a b c=>h r a (by omega) ⟨by omega,c⟩) _ (fun nx r t g0 g1 g2 ht hf=>?_)
 refine zn (fun hc=>?_) (fun hc=>hf (by simpa using hc))
 have hlt:t<a.length:=by simpa using hc
 refine zp t rfl hlt ?_
 have hm:=hl2 _ (List.getElem_mem hlt)
 refine zg8 hm.1 hm.2 g0 g1 (zn (fun _=>hn) (fun hc=>by simp at hc)) (fun r' e0 e1 e2=>zn (fun hc=>by simp at hc;omega) (fun _=>zz (by omega) (by omega) ?_))
 exact ht _ (by simp [hlt]) r' e0 e1 e2
def zjD (s:zM):Prop:=s.xChains.length≤9223372036854775807∧∀ c,c∈s.xChains→c.length≤9223372036854775807∧∀ r,r∈c→r.xTests.length≤9223372036854775807
theorem zb4 {s:zM} {left:Int} {κ:Int→Prop} (hl:zjD s) (h0:0≤left) (h1:left≤1048576) (hn:κ (-1)) (h:∀ r,0≤r→r≤left→Bs s.xChains→κ r):Zj s left κ:=by
 unfold Zj
 refine zf1 hl.1 hl.2 h0 h1 (zn (fun _=>hn) (fun hc=>by simp at hc)) (fun r a b c=>zn (fun hc=>by simp at hc;omega) (fun _=>h r a b c))
theorem zfL {a:List zG} {κ:List zG→Prop} (hb:Bq a) (h:κ a):Xf a κ:=by
 unfold Xf
 have:=hb.1
 refine Vc a.length rfl (by omega) (by omega) (zbM a id (by omega) (fun x ψ=>XK x ψ) (fun x ψ hx hh=>zhb (by have:x.xTests.length≤1048576:=hb.2 x hx;omega) hh) (by simpa using h) (by simp) _ (fun nx xs t hh=>hh))
theorem zfz {a:List (List zG)} {κ:List (List zG)→Prop} (hb:Bs a) (h:κ a):XO a κ:=by
 unfold XO
 have:=hb.1
 refine Vc a.length rfl (by omega) (by omega) (zbM a id (by omega) (fun x ψ=>Xf x ψ) (fun x ψ hx hh=>zfL (hb.2 x hx) hh) (by simpa using h) (by simp) _ (fun nx xs t hh=>hh))
theorem Xt {s:zM} {κ:zM→Prop} (hb:Bs s.xChains) (h:κ s):uj s κ:=by
 unfold uj
 exact zfz hb h
theorem zey {a:List zG} {κ:Bool→Prop} (hb:Bq a) (h:κ true):Yp a a κ:=by
 unfold Yp
 have:=hb.1
 refine zn (fun hc=>by simp at hc) (fun _=>zft a (by omega) h _ (fun nx t g ht hf=>zn (fun hc=>?_) (fun hc=>hf (by simpa using hc))))
 have hlt:t<a.length:=by simpa using hc
 obtain ⟨hm,hn⟩:=ht a[t] (by simp [hlt])
 refine zp t rfl hlt (zp t rfl hlt (ze6 (by have:a[t].xTests.length≤1048576:=hb.2 _ hm;omega) ?_))
 simp only [Bool.not_true,YL]
 exact zz (by omega) (by omega) hn
theorem zdE {a:List (List zG)} {κ:Bool→Prop} (hb:Bs a) (h:κ true):XV a a κ:=by
 unfold XV
 have:=hb.1
 refine zn (fun hc=>by simp at hc) (fun _=>zft a (by omega) h _ (fun nx t g ht hf=>zn (fun hc=>?_) (fun hc=>hf (by simpa using hc))))
 have hlt:t<a.length:=by simpa using hc
 obtain ⟨hm,hn⟩:=ht a[t] (by simp [hlt])
 refine zp t rfl hlt (zp t rfl hlt (zey (hb.2 _ hm) ?_))
 simp only [Bool.not_true,YL]
 exact zz (by omega) (by omega) hn
theorem VK {s:zM} {κ:Bool→Prop} (hb:Bs s.xChains) (h:κ true):Zi s s κ:=by
 unfold Zi
 refine zdE hb ?_
 simp only [Bool.not_true,YL]
 refine zn (fun hc=>by simp at hc) (fun _=>h)
end
section
open Go.Lib (decDigits)
theorem zin {x:Int} (h1:-9223372036854775808≤x) (h2:x≤9223372036854775807):w64 x=x:=by
 simp [w64,IntKind.wrap,IntKind.signed,IntKind.bits];omega
def Bl (ls:List (List UInt8)):Prop:=ls.length≤3000000∧∀ l,l∈ls→l.length≤10000000
theorem Bl.take {ls:List (List UInt8)} (h:Bl ls) (n:Nat):Bl (ls.take n):=⟨by have:=h.1;simp;omega,fun l hl=>h.2 l (List.mem_of_mem_take hl)⟩
def Zs (k:Nat) (cs:List (List zG)):Prop:=cs.length≤k∧∀ c,c∈cs→c.length≤k∧∀ r,r∈c→RV r
theorem Zs.bd {k:Nat} {cs:List (List zG)} {a:Bool} (h:Zs k cs) (hk:k≤4000000):Bd ⟨cs,a⟩:=⟨by have:=h.1;simp only;omega,fun c hc=>⟨by have:=(h.2 c hc).1;omega,fun r hr=>by have:r.xTests.length≤6:=((h.2 c hc).2 r hr).1.2;omega⟩⟩
end
section
def th (t:jH) (p:uP):Bool:=decide (t.xLo≤zh5 p t.xField.toNat∧zh5 p t.xField.toNat≤t.xHi) != t.xNot
def ft (l:List jH) (p:uP):Bool:=l.all (fun t=>th t p)
def Hh (cs:List (List zG)):Nat→Nat→Prop
 | 0,_=>False
 | n+1,i=>∀ j,Ca cs i j→Hh cs n j
theorem zcr {cs:List (List zG)}:∀ {n i:Nat},Hh cs n i→Hh cs (n+1) i
 | 0,i,h=>h.elim
 | n+1,i,h=>fun j hj=>zcr (h j hj)
theorem zjl {cs:List (List zG)} {n m i:Nat} (h:Hh cs n i) (hm:n≤m):Hh cs m i:=by
 induction hm with
 | refl=>exact h
 | step _ ih=>exact zcr ih
theorem zfM {cs:List (List zG)} {Q:Nat→Prop}:∀ (k:Nat),(∀ j,j<k→Q j→∃ n,Hh cs n j)→∃ N,∀ j,j<k→Q j→Hh cs N j
 | 0,_=>⟨0,fun j hj=>by omega⟩
 | k+1,h=>by
  obtain ⟨N,hN⟩:=zfM k (fun j hj hq=>h j (by omega) hq)
  by_cases hq:Q k
  ·obtain ⟨n,hn⟩:=h k (by omega) hq
   refine ⟨max N n,fun j hj hqj=>?_⟩
   by_cases e:j=k
   ·subst e;exact zjl hn (by omega)
   ·exact zjl (hN j (by omega) hqj) (by omega)
  ·refine ⟨N,fun j hj hqj=>?_⟩
   by_cases e:j=k
   ·subst e;exact absurd hqj hq
   ·exact hN j (by omega) hqj
theorem zhD {cs:List (List zG)} {i:Nat} (hs:Sf cs i):∃ n,Hh cs n i:=by
 induction hs with
 | intro x hx ih =>
  obtain ⟨N,hN⟩:=zfM (cs:=cs) (Q:=fun j=>Ca cs x j) cs.length (fun j _ hq=>ih j hq)
  refine ⟨N+1+1,fun j hj=>?_⟩
  by_cases hl:j<cs.length
  ·exact zcr (hN j hl hj)
  ·exact fun k hk=>by
    obtain ⟨c,h1,_⟩:=hk
    have:=(List.getElem?_eq_some_iff.1 h1).1
    omega
theorem zks {cs:List (List zG)} (hs:∀ i,i<cs.length→Sf cs i):∃ N,∀ i,Hh cs (N+1) i:=by
 obtain ⟨N,hN⟩:=zfM (cs:=cs) (Q:=fun _=>True) cs.length (fun j hj _=>zhD (hs j hj))
 refine ⟨N,fun i=>?_⟩
 by_cases hl:i<cs.length
 ·exact zcr (hN i hl trivial)
 ·exact fun k hk=>by
   obtain ⟨c,h1,_⟩:=hk
   have:=(List.getElem?_eq_some_iff.1 h1).1
   omega
def jl (p:uP) (call:Nat→Int):List zG→Int
 | []=>5
 | r :: l=>if ft r.xTests p=true then
   (if r.xAction=1 then 1 else if r.xAction=2 then 2 else if r.xAction=4 then 5 else if r.xAction=3 then (if call r.xChain.toNat=5 then jl p call l else call r.xChain.toNat) else jl p call l)
   else jl p call l
def chn (cs:List (List zG)) (i:Nat):List zG:=cs[i]?.getD []
def jc (cs:List (List zG)) (p:uP):Nat→Nat→Int
 | 0,_=>5
 | n+1,i=>jl p (jc cs p n) (chn cs i)
theorem zeZ {cs:List (List zG)} {i:Nat} {r:zG} (hr:r∈chn cs i) (h3:r.xAction=3) (h0:0≤r.xChain):Ca cs i r.xChain.toNat:=by
 unfold chn at hr
 cases h:cs[i]? with
 | none=>rw [h] at hr;simp at hr
 | some c=>rw [h] at hr;exact ⟨c,h,r,hr,h3,by omega⟩
def Cn (cs:List (List zG)):Prop:=∀ i r,r∈chn cs i→r.xAction=3→0≤r.xChain
open Classical in
noncomputable def jN (cs:List (List zG)):Nat:=if h:∃ N,∀ i,Hh cs (N+1) i then h.choose else 0
theorem zgw {cs:List (List zG)} (hs:∀ i,i<cs.length→Sf cs i) (i:Nat):Hh cs (jN cs+1) i:=by
 have h:=zks hs
 unfold jN
 rw [dif_pos h]
 exact h.choose_spec i
noncomputable def J (cs:List (List zG)) (p:uP) (i:Nat):Int:=jc cs p (jN cs+1) i
theorem SV.cn {s:zM} (h:SV s):Cn s.xChains:=by
 intro i r hr h3
 unfold chn at hr
 cases e:s.xChains[i]? with
 | none=>rw [e] at hr;simp at hr
 | some c =>
  rw [e] at hr
  exact (((h.1.2 c (List.mem_of_getElem? e)).2 r hr).1.2.2.2.1 h3).1
theorem zcq {cs:List (List zG)} {i:Nat} (h:i<cs.length):chn cs i=cs[i]:=by simp [chn,h]
end
section
theorem zbN:∀ (n:Nat) (l:List Nat),l.Nodup→(∀ x,x∈l→x<n)→l.length≤n
 | 0,[],_,_=>by simp
 | 0,x :: l,_,h=>by have:=h x (by simp);omega
 | n+1,l,hd,h=>by
  by_cases hm:n∈l
  ·obtain ⟨s,t,rfl⟩:=List.append_of_mem hm
   have hnd:(s++t).Nodup∧n ∉ s++t:=by
    rw [List.nodup_append] at hd ⊢
    simp only [List.nodup_cons,List.mem_cons] at hd
    obtain ⟨h1,⟨h2,h3⟩,h4⟩:=hd
    refine ⟨⟨h1,h3,fun a ha b hb=>h4 a ha b (.inr hb)⟩,fun hmem=>?_⟩
    rcases List.mem_append.1 hmem with hs | ht
    ·exact h4 n hs n (.inl rfl) rfl
    ·exact h2 ht
   have:=zbN n (s++t) hnd.1 (fun x hx=>by
    have h1:=h x (by
     rcases List.mem_append.1 hx with hx | hx
     ·exact List.mem_append.2 (.inl hx)
     ·exact List.mem_append.2 (.inr (List.mem_cons_of_mem _ hx)))
    have h2:x≠n:=fun e=>hnd.2 (e ▸ hx)
    omega)
   simp at this ⊢;omega
  ·have:=zbN n l hd (fun x hx=>by
    have h1:=h x hx
    have h2:x≠n:=fun e=>hm (e ▸ hx)
    omega)
   omega
def okP (cs:List (List zG)) (q:Vh):Prop:=0≤q.xChain∧q.xChain.toNat<cs.length∧0≤q.xNext∧q.xNext.toNat≤(chn cs q.xChain.toNat).length
def Stk (cs:List (List zG)) (xs:List Vh):Prop:=(∀ q,q∈xs→okP cs q)∧xs.Pairwise (fun a b=>Wy cs a.xChain.toNat b.xChain.toNat)
theorem Stk.len {cs:List (List zG)} {xs:List Vh} (hs:∀ i,i<cs.length→Sf cs i) (h:Stk cs xs):xs.length≤cs.length:=by
 have hn:(xs.map (fun q=>q.xChain.toNat)).Nodup:=by
  rw [List.Nodup,List.pairwise_map]
  refine List.Pairwise.imp_of_mem (fun {a b} ha hb hw e=>?_) h.2
  rw [← e] at hw
  exact zgE (hs _ (h.1 a ha).2.1) hw
 have:=zbN cs.length _ hn (fun x hx=>by
  obtain ⟨q,hq,rfl⟩:=List.mem_map.1 hx
  exact (h.1 q hq).2.1)
 simpa using this
theorem Stk.drop {cs:List (List zG)} {ys:List Vh} {q:Vh} (h:Stk cs (ys++[q])):Stk cs ys:=⟨fun x hx=>h.1 x (List.mem_append.2 (.inl hx)),(List.pairwise_append.1 h.2).1⟩
theorem Stk.move {cs:List (List zG)} {ys:List Vh} {q q':Vh} (h:Stk cs (ys++[q])) (hq:okP cs q') (hc:q'.xChain=q.xChain):Stk cs (ys++[q']):=by
 refine ⟨fun x hx=>?_,?_⟩
 ·rcases List.mem_append.1 hx with hx | hx
  ·exact h.1 x (List.mem_append.2 (.inl hx))
  ·rw [List.mem_singleton] at hx;subst hx;exact hq
 ·obtain ⟨h1,_,h3⟩:=List.pairwise_append.1 h.2
  refine List.pairwise_append.2 ⟨h1,by simp,fun a ha b hb=>?_⟩
  rw [List.mem_singleton] at hb
  subst hb
  rw [hc]
  exact h3 a ha q (by simp)
theorem Stk.push {cs:List (List zG)} {ys:List Vh} {q q':Vh} (h:Stk cs (ys++[q])) (hq:okP cs q') (hc:Ca cs q.xChain.toNat q'.xChain.toNat):Stk cs (ys++[q]++[q']):=by
 refine ⟨fun x hx=>?_,?_⟩
 ·rcases List.mem_append.1 hx with hx | hx
  ·exact h.1 x hx
  ·rw [List.mem_singleton] at hx;subst hx;exact hq
 ·refine List.pairwise_append.2 ⟨h.2,by simp,fun a ha b hb=>?_⟩
  rw [List.mem_singleton] at hb
  subst hb
  rcases List.mem_append.1 ha with ha | ha
  ·exact .more ((List.pairwise_append.1 h.2).2.2 a ha q (by simp)) hc
  ·rw [List.mem_singleton] at ha;subst ha;exact .one hc
end
section
open Go Go.Proofs
theorem zaa:∀ (l:List ze) (s:ze) (out:List ze) (pl:Bool),(VU l s out pl).1.length+(if (VU l s out pl).2.2 then 0 else 1)≤out.length+l.length+(if pl then 0 else 1)
 | [],s,out,pl=>by cases pl <;> simp [VU]
 | x :: xs,s,out,pl=>by
  unfold VU
  by_cases c1:x.xHi+1<s.xLo
  ·rw [if_pos c1]
   have:=zaa xs s (out++[x]) pl
   simp only [List.length_append,List.length_cons,List.length_nil] at this ⊢
   omega
  ·rw [if_neg c1]
   by_cases c2:s.xHi+1<x.xLo
   ·rw [if_pos c2]
    have:=zaa xs s ((if pl then out else out++[s])++[x]) true
    cases pl <;> simp only [List.length_append,List.length_cons,List.length_nil,Bool.false_eq_true,if_true,if_false] at this ⊢ <;> omega
   ·rw [if_neg c2]
    have:=zaa xs (ze.mk (min s.xLo x.xLo) (max s.xHi x.xHi)) out pl
    simp only [List.length_cons]
    omega
theorem zhg (l:List ze) (s:ze):(zaO l s).length≤l.length+1:=by
 have:=zaa l s [] false
 unfold zaO
 generalize VU l s [] false=r at *
 obtain ⟨o,s',pl⟩:=r
 cases pl <;> simp at this ⊢ <;> omega
theorem zb5:∀ (xs a:List ze),(xs.foldl zaO a).length≤a.length+xs.length
 | [],a=>by simp
 | s :: xs,a=>by
  have h1:=zb5 xs (zaO a s)
  have h2:=zhg a s
  simp only [List.foldl_cons,List.length_cons]
  omega
theorem zfJ {a:za}:F4 a↔le4 a 40:=⟨fun ⟨f0,f1,f2,f3⟩ f h0 h1=>by
 rcases zcP h0 h1 with rfl | rfl | rfl | rfl
 ·exact f0
 ·exact f1
 ·exact f2
 ·exact f3,zex⟩
end
section
open Go Go.Proofs
def Xg (bs:List za) (w:za):List za:=bs.flatMap (fun b=>if em4 (xl b w) then [] else [xl b w])
theorem VY (l m:List za) (w:za):Xg (l++m) w=Xg l w++Xg m w:=by simp [Xg]
theorem zaI (b w:za):Xg [b] w=if em4 (xl b w) then [] else [xl b w]:=by simp [Xg]
theorem zaZ (bs:List za) (w:za):(Xg bs w).length≤bs.length:=by
 induction bs with
 | nil=>simp [Xg]
 | cons b bs ih =>
  rw [show b :: bs=[b]++bs from rfl,VY,zaI,List.length_append,List.length_append]
  have:(if em4 (xl b w)=true then [] else [xl b w]:List za).length≤1:=by split <;> simp
  simp only [List.length_singleton];omega
theorem zf9 {bs:List za} {w:za} (hb:aB bs) (hw:B4 w):aB (Xg bs w):=fun c hc=>by
 obtain ⟨b,hb',hc⟩:=List.mem_flatMap.1 hc
 split at hc
 ·simp at hc
 ·rw [List.mem_singleton] at hc;subst hc;exact zcV (hb b hb') hw
theorem UQ (bs:List za) (w:za):(xz bs w).length≤4 * bs.length:=by
 induction bs with
 | nil=>simp [xz]
 | cons b bs ih =>
  rw [show b :: bs=[b]++bs from rfl,ZJ,X7,List.length_append,List.length_append]
  have:=VH b w
  simp only [List.length_singleton];omega
def dec (l:List za) (acc:Bool):List zl:=l.map (fun b=>⟨b,acc⟩)
abbrev UR:=Option (List za×List zl)
def url (call:Nat→List za→List zl→UR):List zG→List za→List za→List zl→UR
 | [],going,left,out=>if okR (left++going) then some (left++going,out) else none
 | r :: rs,going,left,out =>
  if okR (Xg going (Zt r.xTests))∧okR (xz going (Zt r.xTests)) then
   if r.xAction=1∨r.xAction=2 then
    if (out++dec (Xg going (Zt r.xTests)) (decide (r.xAction=1))).length≤60 then url call rs (xz going (Zt r.xTests)) left (out++dec (Xg going (Zt r.xTests)) (decide (r.xAction=1))) else none
   else if r.xAction=4 then url call rs (xz going (Zt r.xTests)) (left++Xg going (Zt r.xTests)) out
   else if r.xAction=3 then
    match call r.xChain.toNat (Xg going (Zt r.xTests)) out with
    | none=>none
    | some (b,o)=>if okR (xz going (Zt r.xTests)++b) then url call rs (xz going (Zt r.xTests)++b) left o else none
   else if okR (xz going (Zt r.xTests)++Xg going (Zt r.xTests)) then url call rs (xz going (Zt r.xTests)++Xg going (Zt r.xTests)) left out else none
  else none
def uc (cs:List (List zG)):Nat→Nat→List za→List zl→UR
 | 0,_,_,_=>none
 | n+1,i,boxes,out=>url (uc cs n) (chn cs i) boxes [] out
theorem zec {f g:Nat→List za→List zl→UR}:∀ {l:List zG},(∀ r,r∈l→r.xAction=3→∀ b o,f r.xChain.toNat b o=g r.xChain.toNat b o)→∀ going left out,url f l going left out=url g l going left out
 | [],_,_,_,_=>rfl
 | r :: l,h,going,left,out=>by
  have ih:=zec (f:=f) (g:=g) (l:=l) (fun x hx=>h x (by simp [hx]))
  unfold url
  by_cases h3:r.xAction=3
  ·rw [h r (by simp) h3];simp only [ih]
  ·simp only [h3,if_false,ih]
theorem zgh {cs:List (List zG)} (hc:Cn cs):∀ {n i:Nat},Hh cs n i→∀ b o,uc cs (n+1) i b o=uc cs n i b o
 | 0,i,h,_,_=>h.elim
 | n+1,i,h,b,o=>zec (fun r hr h3 b o=>zgh hc (h _ (zeZ hr h3 (hc i r hr h3))) b o) _ _ _
noncomputable def U (cs:List (List zG)) (i:Nat) (boxes:List za) (out:List zl):UR:=uc cs (jN cs+1) i boxes out
theorem zjo {cs:List (List zG)} (hc:Cn cs) (hs:∀ i,i<cs.length→Sf cs i) (i:Nat) (b:List za) (o:List zl):U cs i b o=url (U cs) (chn cs i) b [] o:=by
 unfold U
 rw [← zgh hc (zgw hs i)]
 rfl
theorem zem {call:Nat→List za→List zl→UR}:∀ {l:List zG} {going left:List za} {out:List zl},400<left.length→url call l going left out=none
 | [],going,left,out,h=>by
  unfold url
  rw [if_neg (fun q=>by have:=q.2;rw [List.length_append] at this;omega)]
 | r :: l,going,left,out,h=>by
  have ih:∀ {g o},url call l g left o=none:=zem h
  have ih2:∀ {g m o},url call l g (left++m) o=none:=zem (by rw [List.length_append];omega)
  unfold url
  simp only [ih,ih2]
  repeat' split
  all_goals rfl
theorem Vp:okR []:=⟨zbi,by simp⟩
theorem zhw (w:za):Xg [] w=[]:=rfl
theorem zgW (w:za):xz [] w=[]:=rfl
theorem zhW {cs:List (List zG)} (hc:Cn cs):∀ {n i:Nat},Hh cs n i→∀ {o:List zl},o.length≤60→uc cs n i [] o=some ([],o)
 | 0,i,h,_,_=>h.elim
 | n+1,i,h,o,ho=>by
  have key:∀ (l:List zG) (out:List zl),(∀ r,r∈l→r∈chn cs i)→out.length≤60→url (uc cs n) l [] [] out=some ([],out):=by
   intro l
   induction l with
   | nil=>intro out _ _;unfold url;rw [List.append_nil,if_pos Vp]
   | cons r l ih =>
    intro out hl ho
    have ih':=ih out (fun x hx=>hl x (by simp [hx])) ho
    unfold url
    rw [zhw,zgW,if_pos ⟨Vp,Vp⟩]
    have ed:∀ a,out++dec [] a=out:=fun a=>by simp [dec]
    split
    ·rw [ed,if_pos ho];exact ih'
    ·split
     ·exact ih'
     ·split
      ·rename_i h3
       have hr:=hl r (by simp)
       rw [zhW hc (h _ (zeZ hr h3 (hc i r hr h3))) ho]
       simp only [List.append_nil,Vp,if_true]
       exact ih'
      ·rw [List.append_nil,if_pos Vp];exact ih'
  exact key _ _ (fun r hr=>hr) ho
theorem zkK {cs:List (List zG)} (hc:Cn cs) (hs:∀ i,i<cs.length→Sf cs i) (i:Nat) {o:List zl} (ho:o.length≤60):U cs i [] o=some ([],o):=zhW hc (zgw hs i) ho
def Uok (r:UR):Prop:=∀ l o,r=some (l,o)→aB l∧okR l∧IV o∧o.length≤60
theorem zeI {l m:List zl} (h1:IV l) (h2:IV m):IV (l++m):=fun f hf=>(List.mem_append.1 hf).elim (h1 f) (h2 f)
theorem zer {l:List za} {a:Bool} (h1:aB l) (h2:UM l):IV (dec l a):=fun f hf=>by
 obtain ⟨b,hb,rfl⟩:=List.mem_map.1 hf
 exact ⟨h1 b hb,h2 b hb⟩
theorem zeT:IV []:=fun f h=>by simp at h
theorem zbz (l:List za) (a:Bool):(dec l a).length=l.length:=by simp [dec]
theorem zdm {call:Nat→List za→List zl→UR} (hcall:∀ i b o,aB b→okR b→IV o→o.length≤60→Uok (call i b o)):∀ {l:List zG} {going left:List za} {out:List zl},(∀ r∈l,∀ t∈r.xTests,TV t)→aB going→aB left→IV out→out.length≤60→Uok (url call l going left out)
 | [],going,left,out,_,hg,hl,ho,h60=>by
  intro l o h
  unfold url at h
  split at h
  ·rename_i q
   injection h with h;injection h with h1 h2;subst h1 h2
   exact ⟨Uh.2 ⟨hl,hg⟩,q,ho,h60⟩
  ·cases h
 | r :: rs,going,left,out,ht,hg,hl,ho,h60=>by
  have hw:=zaX (ht r (by simp))
  have htr:∀ r∈rs,∀ t∈r.xTests,TV t:=fun x hx=>ht x (by simp [hx])
  have hfB:=zf9 hg hw
  have hmB:=Vr hg hw
  intro l o h
  unfold url at h
  split at h
  ·rename_i q
   split at h
   ·split at h
    ·rename_i q2
     exact zdm hcall htr hmB hl (zeI ho (zer hfB q.1.1)) q2 l o h
    ·cases h
   ·split at h
    ·exact zdm hcall htr hmB (Uh.2 ⟨hl,hfB⟩) ho h60 l o h
    ·split at h
     ·split at h
      ·cases h
      ·rename_i b o' hb
       obtain ⟨c1,c2,c3,c4⟩:=hcall _ _ _ hfB q.1 ho h60 _ _ hb
       split at h
       ·exact zdm hcall htr (Uh.2 ⟨hmB,c1⟩) hl c3 c4 l o h
       ·cases h
     ·split at h
      ·exact zdm hcall htr (Uh.2 ⟨hmB,hfB⟩) hl ho h60 l o h
      ·cases h
  ·cases h
def TVs (cs:List (List zG)):Prop:=∀ c∈cs,∀ r∈c,∀ t∈r.xTests,TV t
theorem TVs.chn {cs:List (List zG)} (h:TVs cs) (i:Nat):∀ r∈chn cs i,∀ t∈r.xTests,TV t:=by
 unfold Go.Proofs.YtgpdnnhmndlljaaGreatDoor.chn
 cases e:cs[i]? with
 | none=>simp
 | some c=>exact h c (List.mem_of_getElem? e)
theorem SV.tvs {s:zM} (h:SV s):TVs s.xChains:=fun c hc r hr=>((h.1.2 c hc).2 r hr).1.1.1
theorem zjv {cs:List (List zG)} (ht:TVs cs):∀ n i b o,aB b→okR b→IV o→o.length≤60→Uok (uc cs n i b o)
 | 0,i,b,o,_,_,_,_=>fun l o h=>by cases h
 | n+1,i,b,o,hb,hk,ho,h60=>zdm (zjv ht n) (ht.chn i) hb (fun c hc=>by simp at hc) ho h60
theorem zj6 {cs:List (List zG)} (ht:TVs cs) (i:Nat) {b:List za} {o:List zl} (hb:aB b) (hk:okR b) (ho:IV o) (h60:o.length≤60):Uok (U cs i b o):=zjv ht _ i b o hb hk ho h60
end
section
open Go Go.Proofs
theorem YW {cs:List (List zG)} {fl:List zl} {over:Bool} {bs:List za} {κ:List za×Bool→Prop} (h1:400<bs.length→κ (bs,true)) (h2:bs.length≤400→κ (bs,over)):jU cs fl over bs κ:=by
 unfold jU
 exact jL (zn (fun e=>h1 (by simp at e;omega)) (fun e=>h2 (by simp at e;omega)))
theorem zjJ {n:Int} (h0:0≤n) (h1:n≤4294967296) {κ:List za→Prop} (h:κ []):uu [] n κ:=⟨rfl,h0,h1,h⟩
theorem zbA {x y:List za} (hx:x.length≤1000000) (hy:y.length≤1000000) {κ:List za→Prop} (h:κ (x++y)):jO [x,y] κ:=by
 unfold jO
 refine ⟨3,?_⟩
 refine z7 (zp 0 rfl (by simp) (zz (by first | (simp;done) | (simp;omega)) (by first | (simp;done) | (simp;omega)) (zn (fun e=>by have:=of_decide_eq_true e;omega) (fun _=>zz (by omega) (by omega) ?_))))
 refine z7 (zp 1 rfl (by simp) (zz (by first | (simp;done) | (simp;omega)) (by first | (simp;done) | (simp;omega)) (zn (fun e=>by have:=of_decide_eq_true e;omega) (fun _=>zz (by omega) (by omega) ?_))))
 refine ju (zjJ (by simp;omega) (by simp;omega) ⟨3,?_⟩)
 refine z7 (zp 0 rfl (by simp) (jm (by simp;omega) (zz (by omega) (by omega) ?_)))
 refine z7 (zp 1 rfl (by simp) (jm (by simp;omega) (zz (by omega) (by omega) ?_)))
 exact ju h
theorem zhP {cs:List (List zG)} {fl:List zl} {bs:List za} {w:za} (hB:aB bs) (hF:UM bs) (hl:bs.length≤400) (hw:B4 w) {κ:List za×List za×Bool→Prop}
  (h1:okR (Xg bs w)→okR (xz bs w)→κ (Xg bs w,xz bs w,false)) (h2:¬ (okR (Xg bs w)∧okR (xz bs w))→∀ x y,κ (x,y,true)):yl cs fl false bs w κ:=by
 unfold yl
 refine zQ bs.length (fun s=>s.2.2) (fun k (s:List za×List za×Int)=>s.2.2=(k:Int)∧k≤bs.length∧s.1=Xg (bs.take k) w∧s.2.1=xz (bs.take k) w∧UM (Xg (bs.take k) w)∧UM (xz (bs.take k) w)) (fun k s h=>h.1) (fun k s h=>h.2.1) ?_ ⟨rfl,by omega,by simp [Xg],by simp [xz],by simp [Xg,UM],by simp [xz,UM]⟩
 rintro k ⟨_,_,_⟩ next ⟨rfl,hk,hx,hy,hfx,hfy⟩ hn
 simp only at hx hy
 subst hx hy
 refine zn (fun hc=>?_) (fun hc=>?_)
 ·have hlt:k<bs.length:=by simpa using hc
  have hbB:=hB _ (List.getElem_mem hlt)
  have hbF:=hF _ (List.getElem_mem hlt)
  have hs:bs=bs.take k++(bs[k] :: bs.drop (k+1)):=by rw [← List.drop_eq_getElem_cons hlt,List.take_append_drop]
  have hfl:=zaZ (bs.take k) w
  have hml:=UQ (bs.take k) w
  rw [List.length_take] at hfl hml
  refine zp k rfl hlt (jL ?_)
  have ef:Xg (bs.take (k+1)) w=Xg (bs.take k) w++(if em4 (xl bs[k] w) then [] else [xl bs[k] w]):=by
   rw [List.take_succ_eq_append_getElem hlt,VY,zaI]
  have em:xz (bs.take (k+1)) w=xz (bs.take k) w++XE bs[k] w:=by
   rw [List.take_succ_eq_append_getElem hlt,ZJ,X7]
  have second:∀ xs,xs=Xg (bs.take (k+1)) w→UM xs→uS bs[k] w (fun (r286,r289)=>ifW (!r289) (κ ([],[],true)) (jG (xz (bs.take k) w) r286 (fun _=>jt (k:Int) 1 (fun t294=>next (xs,((xz (bs.take k) w)++r286),t294))))):=by
   rintro _ rfl hxf
   refine zdb hbB hw hbF ?_
   by_cases hFc:∀ c∈XE bs[k] w,F4 c
   ·rw [show zcQ bs[k] w=(XE bs[k] w,true) from if_pos hFc]
    have:=VH bs[k] w
    refine ju (jm (by omega) (zz (by omega) (by omega) (hn hlt _ ⟨by simp,by omega,rfl,em.symm,hxf,?_⟩)))
    rw [em];exact u5.2 ⟨hfy,hFc⟩
   ·rw [show zcQ bs[k] w=([],false) from if_neg hFc]
    refine z7 (h2 (fun q=>hFc ?_) _ _)
    have:=q.2.1
    rw [hs,ZJ,show bs[k] :: bs.drop (k+1)=[bs[k]]++bs.drop (k+1) from rfl,ZJ,X7] at this
    exact (u5.1 (u5.1 this).2).1
  refine zbJ hbB hw (zn (fun e=>?_) (fun e=>?_))
  ·have e':em4 (xl bs[k] w)=false:=by simpa using e
   refine zgA hbB hw ?_
   by_cases hm:F4 (xl bs[k] w)
   ·rw [show zfS (xl bs[k] w)=(xl bs[k] w,true) from if_pos hm]
    refine ju (jm (by simp;omega) (second _ ?_ ?_))
    ·rw [ef,e'];simp
    ·refine u5.2 ⟨hfx,fun c hc=>?_⟩
     rw [List.mem_singleton] at hc;subst hc;exact hm
   ·rw [show zfS (xl bs[k] w)=(za4,false) from if_neg hm]
    refine z7 (h2 (fun q=>hm ?_) _ _)
    have:=q.1.1
    rw [hs,VY,show bs[k] :: bs.drop (k+1)=[bs[k]]++bs.drop (k+1) from rfl,VY,zaI,e'] at this
    exact (u5.1 (u5.1 this).2).1 _ (by simp)
  ·have e':em4 (xl bs[k] w)=true:=by simpa using e
   refine second _ ?_ hfx
   rw [ef,e'];simp
 ·have hge:bs.length≤k:=by simpa using hc
  rw [List.take_of_length_le hge] at hfx hfy ⊢
  refine YW (fun q1=>?_) (fun q1=>?_)
  ·have no:¬ (okR (Xg bs w)∧okR (xz bs w)):=fun q=>by have:=q.1.2;omega
   exact YW (fun _=>h2 no _ _) (fun _=>h2 no _ _)
  ·refine YW (fun q2=>?_) (fun q2=>h1 ⟨hfx,q1⟩ ⟨hfy,q2⟩)
   exact h2 (fun q=>by have:=q.2.2;omega) _ _
def Cw (o:UR) (κ:List za×List zl×Bool→Prop):Prop:=match o with | some (l,out)=>κ (l,out,false) | none=>∀ l out,l.length≤10000→κ (l,out,true)
theorem zi3 {l:List za} {o:List zl} {κ:List za×List zl×Bool→Prop} (h:κ (l,o,false)):Cw (some (l,o)) κ:=h
theorem zgc {d:uU} {cs:List (List zG)} {fl:List zl} {x fit miss:List za} (hf:fl.length≤60) (hl:fit.length≤400) {κ:List za×List zl×Bool→Prop} (h1:60<(fl++dec fit d.xAccept).length→κ (miss,fl++dec fit d.xAccept,true)) (h2:(fl++dec fit d.xAccept).length≤60→κ (miss,fl++dec fit d.xAccept,false)):uJ d cs fl false x fit miss κ:=by
 unfold uJ
 refine zQ fit.length (fun s=>s.2) (fun k (s:List zl×Int)=>s.2=(k:Int)∧k≤fit.length∧s.1=fl++dec (fit.take k) d.xAccept) (fun k s h=>h.1) (fun k s h=>h.2.1) ?_ ⟨rfl,by omega,by simp [dec]⟩
 rintro k ⟨_,_⟩ next ⟨rfl,hk,hx⟩ hn
 simp only at hx
 subst hx
 have hln:(fl++dec (fit.take k) d.xAccept).length≤460:=by rw [List.length_append,zbz,List.length_take];omega
 refine zn (fun hc=>?_) (fun hc=>?_)
 ·have hlt:k<fit.length:=by simpa using hc
  refine zp k rfl hlt (jL (jm (by simp only [List.length_singleton];omega) (zz (by omega) (by omega) (hn hlt _ ⟨by simp,by omega,?_⟩))))
  unfold dec
  rw [List.take_succ_eq_append_getElem hlt,List.map_append,← List.append_assoc];rfl
 ·have hge:fit.length≤k:=by simpa using hc
  rw [List.take_of_length_le hge]
  exact jL (zn (fun e=>h1 (by simp at e;simp;omega)) (fun e=>h2 (by simp at e;simp;omega)))
theorem Vx {x:uU} {p0:uU→Prop} {p1:Z6→Prop} {p2:uV→Prop} {p3:Zb→Prop} (h:p0 x):uD.casesW (.kDeciding x) p0 p1 p2 p3:=h
theorem zdc {x:Z6} {p0:uU→Prop} {p1:Z6→Prop} {p2:uV→Prop} {p3:Zb→Prop} (h:p1 x):uD.casesW (.kCalling x) p0 p1 p2 p3:=h
theorem zbW {x:uV} {p0:uU→Prop} {p1:Z6→Prop} {p2:uV→Prop} {p3:Zb→Prop} (h:p2 x):uD.casesW (.kReturning x) p0 p1 p2 p3:=h
theorem zcR {x:Zb} {p0:uU→Prop} {p1:Z6→Prop} {p2:uV→Prop} {p3:Zb→Prop} (h:p3 x):uD.casesW (.kPassing x) p0 p1 p2 p3:=h
theorem zhR {cs:List (List zG)} (hcn:Cn cs) (hs:∀ i,i<cs.length→Sf cs i) (hc5:∀ c∈cs,c.length≤8∧∀ r∈c,TsV r.xTests∧(r.xAction=3→0≤r.xChain∧r.xChain<cs.length)):∀ (n i:Nat) (boxes:List za) (out:List zl) (κ:List za×List zl×Bool→Prop),Hh cs n i→i<cs.length→aB boxes→okR boxes→IV out→out.length≤60→Cw (U cs i boxes out) κ→xU n cs out false i boxes κ:=by
 have htv:TVs cs:=fun c hc r hr=>((hc5 c hc).2 r hr).1.1
 intro n
 induction n with
 | zero=>intro i boxes out κ h;exact h.elim
 | succ n ih =>
  intro i boxes out κ hh hi hB hO hIV h60 h
  show yC (xU n) cs out false i boxes κ
  unfold yC
  refine zn (fun e=>?_) (fun e=>?_)
  ·have:boxes=[]:=by
    have:(boxes.length:Int)=0:=of_decide_eq_true e
    exact List.length_eq_zero_iff.1 (by omega)
   subst this
   rw [zkK hcn hs i h60] at h
   exact h
  clear e
  obtain ⟨h8,hrv⟩:=hc5 _ (List.getElem_mem hi)
  rw [zjo hcn hs i,zcq hi] at h
  have hci:=zcq hi
  refine zp i rfl hi ?_
  generalize hcc:cs[i]=c at *
  generalize hT:url (U cs) c boxes [] out=T at *
  refine zQ c.length (fun s=>s.2.2.2.2) (fun k (s:List za×List zl×Bool×List za×Int)=>s.2.2.2.2=(k:Int)∧k≤c.length∧s.2.2.1=false∧(aB s.1∧UM s.1∧s.1.length≤400 * k)∧(IV s.2.1∧s.2.1.length≤60)∧(aB s.2.2.2.1∧okR s.2.2.2.1)∧T=url (U cs) (c.drop k) s.2.2.2.1 s.1 s.2.1) (fun k s h=>h.1) (fun k s h=>h.2.1) ?_ ⟨rfl,by omega,rfl,⟨zeK,zbi,by simp⟩,⟨hIV,h60⟩,⟨hB,hO⟩,hT.symm⟩
  rintro k ⟨left,fls,_,going,_⟩ next ⟨rfl,hk,rfl,⟨hlB,hlF,hll⟩,⟨hfI,hf60⟩,⟨hgB,hgO⟩,he⟩ hn
  simp only at hlB hlF hll hfI hf60 hgB hgO he
  have hl4:left.length≤3200:=by omega
  have hg4:=hgO.2
  refine zn (fun hc=>?_) (fun hc=>?_)
  ·have hlt:k<c.length:=by simpa using hc
   obtain ⟨hts,hcall⟩:=hrv _ (List.getElem_mem hlt)
   rw [List.drop_eq_getElem_cons hlt] at he
   unfold url at he
   refine jL (zp k rfl hlt (zeR hts ?_))
   have hw:=zaX hts.1
   have hm:c[k]∈c:=List.getElem_mem hlt
   have hmc:c[k]∈chn cs i:=by rw [hci];exact hm
   generalize c[k]=r at *
   have hfB:=zf9 hgB hw
   have hmB:=Vr hgB hw
   have hfl:=zaZ going (Zt r.xTests)
   have hml:=UQ going (Zt r.xTests)
   refine zhP hgB hgO.1 hg4 hw (fun o1 o2=>ju ?_) (fun q x y=>z7 ?_)
   rotate_left
   ·rw [if_neg q] at he
    rw [he] at h
    exact h _ _ (by simp)
   rw [if_pos ⟨o1,o2⟩] at he
   generalize Xg going (Zt r.xTests)=fit at *
   generalize xz going (Zt r.xTests)=miss at *
   have stop:∀ o,T=none→κ ([],o,true):=fun o q=>by rw [q] at h;exact h _ _ (by simp)
   have go:∀ left' fls' going',(aB left'∧UM left'∧left'.length≤400 * (k+1))→(IV fls'∧fls'.length≤60)→(aB going'∧okR going')→T=url (U cs) (c.drop (k+1)) going' left' fls'→jt (k:Int) 1 (fun t183=>next (left',fls',false,going',t183)):=fun left' fls' going' a1 a2 a3 a4=>zz (by omega) (by omega) (hn hlt _ ⟨by simp,by omega,rfl,a1,a2,a3,a4⟩)
   have decide12:∀ a:Bool,(r.xAction=1∨r.xAction=2)→a=decide (r.xAction=1)→uJ (uU.mk a) cs fls false left fit miss (fun (r68,r71,r74)=>jU cs r71 r74 r68 (fun (r75,r78)=>ifW r78 (κ ([],r71,r78)) (jt (k:Int) 1 (fun t183=>next (left,r71,r78,r75,t183))))):=by
    intro a ha hq
    subst hq
    rw [if_pos ha] at he
    refine zgc hf60 o1.2 (fun q=>?_) (fun q=>?_)
    ·have q':60<(fls++dec fit (decide (r.xAction=1))).length:=q
     rw [if_neg (by omega)] at he
     exact YW (fun _=>z7 (stop _ he)) (fun _=>z7 (stop _ he))
    ·rw [if_pos q] at he
     refine YW (fun q2=>absurd q2 (by have:=o2.2;omega)) (fun _=>ju ?_)
     exact go _ _ _ ⟨hlB,hlF,by omega⟩ ⟨zeI hfI (zer hfB o1.1),q⟩ ⟨hmB,o2⟩ he
   unfold Y7
   refine zn (fun e=>Vx (decide12 true (.inl (of_decide_eq_true e)) (by rw [e]))) (fun e=>?_)
   have n1:¬ r.xAction=1:=of_decide_eq_false e
   refine zn (fun e2=>Vx (decide12 false (.inr (of_decide_eq_true e2)) (by rw [e]))) (fun e2=>?_)
   have n2:¬ r.xAction=2:=of_decide_eq_false e2
   rw [if_neg (fun q=>q.elim n1 n2)] at he
   refine zn (fun e3=>?_) (fun e3=>?_)
   ·have h3:r.xAction=3:=of_decide_eq_true e3
    rw [if_neg (by omega),if_pos h3] at he
    obtain ⟨c0,c1⟩:=hcall h3
    obtain ⟨j,hj⟩:=Int.eq_ofNat_of_zero_le c0
    refine zdc ?_
    unfold ZM
    have hca:=zeZ hmc h3 c0
    rw [hj] at he hca c1 ⊢
    refine ih j fit fls _ (hh j (by simpa using hca)) (by omega) hfB o1 hfI hf60 ?_
    have hj':((j:Int)).toNat=j:=by simp
    rw [hj'] at he
    cases hU:U cs j fit fls with
    | none =>
     rw [hU] at he
     intro l o hl
     exact zbA (by have:=o2.2;omega) (by omega) (YW (fun _=>z7 (stop _ he)) (fun _=>z7 (stop _ he)))
    | some bo =>
     obtain ⟨b,o⟩:=bo
     rw [hU] at he
     obtain ⟨u1,u2,u3,u4⟩:=zj6 htv j hfB o1 hfI hf60 _ _ hU
     simp only at he
     refine zi3 ?_
     refine zbA (by have:=o2.2;omega) (by have:=u2.2;omega) (YW (fun q=>z7 (stop _ ?_)) (fun q=>ju ?_))
     ·rw [if_neg (fun q2=>by have:=q2.2;omega)] at he;exact he
     ·have ok:okR (miss++b):=⟨u5.2 ⟨o2.1,u2.1⟩,q⟩
      rw [if_pos ok] at he
      exact go _ _ _ ⟨hlB,hlF,by omega⟩ ⟨u3,u4⟩ ⟨Uh.2 ⟨hmB,u1⟩,ok⟩ he
   ·have n3:¬ r.xAction=3:=of_decide_eq_false e3
    refine zn (fun e4=>?_) (fun e4=>?_)
    ·have h4:r.xAction=4:=of_decide_eq_true e4
     rw [if_pos h4] at he
     refine zbW ?_
     unfold Zq
     have:=o1.2
     refine jm (by omega) (YW (fun q=>absurd q (by have:=o2.2;omega)) (fun _=>ju ?_))
     exact go _ _ _ ⟨Uh.2 ⟨hlB,hfB⟩,u5.2 ⟨hlF,o1.1⟩,by rw [List.length_append];omega⟩ ⟨hfI,hf60⟩ ⟨hmB,o2⟩ he
    ·have n4:¬ r.xAction=4:=of_decide_eq_false e4
     rw [if_neg n4,if_neg n3] at he
     refine zcR ?_
     unfold ZP
     have:=o1.2
     refine zbA (by have:=o2.2;omega) (by omega) (YW (fun q=>z7 (stop _ ?_)) (fun q=>ju ?_))
     ·rw [if_neg (fun q2=>by have:=q2.2;omega)] at he;exact he
     ·have ok:okR (miss++fit):=⟨u5.2 ⟨o2.1,o1.1⟩,q⟩
      rw [if_pos ok] at he
      exact go _ _ _ ⟨hlB,hlF,by omega⟩ ⟨hfI,hf60⟩ ⟨Uh.2 ⟨hmB,hfB⟩,ok⟩ he
  ·have hge:c.length≤k:=by simpa using hc
   rw [List.drop_of_length_le hge] at he
   unfold url at he
   rw [he] at h
   refine zbA (by omega) (by omega) (YW (fun q=>?_) (fun q=>?_))
   ·rw [if_neg (fun q2=>by have:=q2.2;omega)] at h
    exact h _ _ (by rw [List.length_append];omega)
   ·rw [if_pos ⟨u5.2 ⟨hlF,hgO.1⟩,q⟩] at h
    exact h
noncomputable def uf (s:zM):Option (List zl):=(U s.xChains 0 [UO] []).map (·.2)
theorem SV.c5 {s:zM} (h:SV s):∀ c∈s.xChains,c.length≤8∧∀ r∈c,TsV r.xTests∧(r.xAction=3→0≤r.xChain∧r.xChain<s.xChains.length):=fun c hc=>⟨(h.1.2 c hc).1,fun r hr=>⟨((h.1.2 c hc).2 r hr).1.1,fun h3=>⟨(((h.1.2 c hc).2 r hr).1.2.2.2.1 h3).1,((h.1.2 c hc).2 r hr).2⟩⟩⟩
theorem zc9:okR [UO]:=⟨fun c hc=>by
 rw [List.mem_singleton] at hc;subst hc
 exact zex (fun f h0 h1=>by have:=zcv f h0 h1;omega),by simp⟩
theorem zew:aB [UO]:=fun c hc=>by rw [List.mem_singleton] at hc;subst hc;exact zcw
theorem zij {s:zM} (h:SV s) {l:List zl} (he:uf s=some l):IV l∧l.length≤60:=by
 unfold uf at he
 cases hU:U s.xChains 0 [UO] [] with
 | none=>rw [hU] at he;cases he
 | some bo =>
  obtain ⟨b,o⟩:=bo
  rw [hU] at he
  simp only [Option.map_some,Option.some.injEq] at he
  subst he
  have:=zj6 h.tvs 0 zew zc9 zeT (by simp) _ _ hU
  exact ⟨this.2.2.1,this.2.2.2⟩
theorem zdN {s:zM} (hv':SV s) {κ:List zl×Bool→Prop} (h1:∀ l,uf s=some l→κ (l,true)) (h2:uf s=none→∀ l,κ (l,false)):Zw s κ:=by
 unfold Zw
 refine zaw ⟨jN s.xChains+1,zhR hv'.cn hv'.2.2 hv'.c5 _ 0 _ _ _ (zgw hv'.2.2 0) hv'.2.1 zew zc9 zeT (by simp) ?_⟩
 unfold uf at h1 h2
 cases hU:U s.xChains 0 [UO] [] with
 | none=>rw [hU] at h2;exact fun l o _=>h2 rfl o
 | some bo =>
  obtain ⟨b,o⟩:=bo
  rw [hU] at h1
  exact h1 o rfl
end
section
open Go Go.Proofs
def gf (f:zl):zE:=⟨bx f.xWhere,f.xAccept⟩
theorem zb8 {l:List zl} (h:IV l) (hl:l.length≤60):FV (l.map gf):=⟨by simpa using hl,fun f hf=>by
 obtain ⟨g,hg,rfl⟩:=List.mem_map.1 hf
 exact zcM.2 (h g hg)⟩
theorem zjC {a:za} (h:B4 a):Bb (bx a):=⟨by simp [bx],fun x hx=>zaG h x hx⟩
theorem zdL {l:List za} (hB:aB l) (hl:l.length≤1000000) {κ:Bool→Prop} (h:κ (decide (okR l))):jW (l.map bx) κ:=by
 unfold jW
 refine zQ l.length (fun s=>s) (fun k s=>s=(k:Int)∧k≤l.length∧UM (l.take k)) (fun k s h=>h.1) (fun k s h=>h.2.1) ?_ ⟨rfl,by omega,by simp [UM]⟩
 rintro k _ next ⟨rfl,hk,hv'⟩ hn
 refine zn (fun hc=>?_) (fun hc=>?_)
 ·have hlt:k<l.length:=by simpa using hc
  have hb:=hB _ (List.getElem_mem hlt)
  refine zp k rfl (by simpa using hlt) ?_
  rw [List.getElem_map]
  refine yK (zjC hb) (zn (fun e=>?_) (fun e=>?_))
  ·have:¬ BV (bx l[k]):=by simpa using e
   rw [decide_eq_false (fun q=>this (zcM.2 ⟨hb,q.1 _ (List.getElem_mem hlt)⟩))] at h;exact h
  ·have:BV (bx l[k]):=by simpa using e
   refine zz (by omega) (by omega) (hn hlt _ ⟨by simp,by omega,?_⟩)
   rw [List.take_succ_eq_append_getElem hlt]
   refine u5.2 ⟨hv',fun c hc=>?_⟩
   rw [List.mem_singleton] at hc;subst hc;exact this.f4
 ·have hge:l.length≤k:=by simpa using hc
  rw [List.take_of_length_le hge] at hv'
  rw [show decide (okR l)=decide (((l.map bx).length:Int)≤400) from decide_eq_decide.2 ⟨fun q=>by have:=q.2;simp;omega,fun q=>⟨hv',by simp at q;omega⟩⟩] at h
  exact h
theorem yy {l:List za} (hB:aB l) (hl:l.length≤1000000) {κ:Bool→Prop} (h1:okR l→κ true) (h2:¬ okR l→κ false):jW (l.map bx) κ:=by
 refine zdL hB hl ?_
 by_cases h:okR l
 ·rw [decide_eq_true h];exact h1 h
 ·rw [decide_eq_false h];exact h2 h
def Sw (o:UR) (κ:List zL×Bool×List zE→Prop):Prop:=match o with | some (l,out)=>κ (l.map bx,true,out.map gf) | none=>∀ l out,κ (l,false,out)
theorem ziD {l:List za} {o:List zl} {κ:List zL×Bool×List zE→Prop} (h:κ (l.map bx,true,o.map gf)):Sw (some (l,o)) κ:=h
theorem zjG {s:zM} (hv:SV s):∀ (n i:Nat) (boxes:List za) (out:List zl) (κ:List zL×Bool×List zE→Prop),Hh s.xChains n i→i<s.xChains.length→aB boxes→okR boxes→IV out→out.length≤60→Sw (U s.xChains i boxes out) κ→yu n s i (boxes.map bx) (out.map gf) κ:=by
 have hcn:=hv.cn
 have hs:=hv.2.2
 have hc5:=hv.c5
 have htv:=hv.tvs
 intro n
 induction n with
 | zero=>intro i boxes out κ h;exact h.elim
 | succ n ih =>
  intro i boxes out κ hh hi hB hO hIV h60 h
  show Yo (yu n) s i (boxes.map bx) (out.map gf) κ
  unfold Yo
  obtain ⟨h8,hrv⟩:=hc5 _ (List.getElem_mem hi)
  rw [zjo hcn hs i,zcq hi] at h
  have hci:=zcq hi
  have ix:∀ (K:List zG→Prop),K s.xChains[i]→zK s.xChains (i:Int) K:=fun K hK=>zp i rfl hi hK
  generalize hcc:s.xChains[i]=c at *
  generalize hT:url (U s.xChains) c boxes [] out=T at *
  refine zQ c.length (fun s=>s.2.2.2) (fun k (st:List zE×List zL×List zL×Int)=>st.2.2.2=(k:Int)∧k≤c.length∧∃ fls going left,st.1=fls.map gf∧st.2.1=going.map bx∧st.2.2.1=left.map bx∧(aB left∧okR left)∧(IV fls∧fls.length≤60)∧(aB going∧okR going)∧T=url (U s.xChains) (c.drop k) going left fls) (fun k s h=>h.1) (fun k s h=>h.2.1) ?_ ⟨rfl,by omega,out,boxes,[],rfl,rfl,rfl,⟨zeK,Vp⟩,⟨hIV,h60⟩,⟨hB,hO⟩,hT.symm⟩
  rintro k ⟨_,_,_,_⟩ next ⟨rfl,hk,fls,going,left,e1,e2,e3,⟨hlB,hlO⟩,⟨hfI,hf60⟩,⟨hgB,hgO⟩,he⟩ hn
  simp only at e1 e2 e3
  subst e1 e2 e3
  have hl4:=hlO.2
  have hg4:=hgO.2
  refine ix _ (zn (fun hc=>?_) (fun hc=>?_))
  ·have hlt:k<c.length:=by simpa using hc
   obtain ⟨hts,hcall⟩:=hrv _ (List.getElem_mem hlt)
   rw [List.drop_eq_getElem_cons hlt] at he
   unfold url at he
   refine ix _ (zp k rfl hlt (zfX hts ?_))
   have hw:=zaX hts.1
   have hm:c[k]∈c:=List.getElem_mem hlt
   have hmc:c[k]∈chn s.xChains i:=by rw [hci];exact hm
   generalize c[k]=r at *
   have hfB:=zf9 hgB hw
   have hmB:=Vr hgB hw
   have hfl:=zaZ going (Zt r.xTests)
   have hml:=UQ going (Zt r.xTests)
   generalize Zt r.xTests=w at *
   refine zQ going.length (fun s=>s.2.2) (fun j (st:List zL×List zL×Int)=>st.2.2=(j:Int)∧j≤going.length∧st.1=(Xg (going.take j) w).map bx∧st.2.1=(xz (going.take j) w).map bx) (fun k s h=>h.1) (fun k s h=>h.2.1) ?_ ⟨rfl,by omega,by simp [Xg],by simp [xz]⟩
   rintro j ⟨_,_,_⟩ next2 ⟨rfl,hj,hx,hy⟩ hn2
   simp only at hx hy
   subst hx hy
   refine zn (fun hc2=>?_) (fun hc2=>?_)
   ·have hjl:j<going.length:=by simpa using hc2
    have hbB:=hgB _ (List.getElem_mem hjl)
    have hf2:=zaZ (going.take j) w
    have hm2:=UQ (going.take j) w
    rw [List.length_take] at hf2 hm2
    have ix2:∀ (K:zL→Prop),K (bx going[j])→zK (going.map bx) (j:Int) K:=fun K hK=>zp j rfl (by simpa using hjl) (by rw [List.getElem_map];exact hK)
    have ef:Xg (going.take (j+1)) w=Xg (going.take j) w++(if em4 (xl going[j] w) then [] else [xl going[j] w]):=by
     rw [List.take_succ_eq_append_getElem hjl,VY,zaI]
    have em:xz (going.take (j+1)) w=xz (going.take j) w++XE going[j] w:=by
     rw [List.take_succ_eq_append_getElem hjl,ZJ,X7]
    have hcl:=VH going[j] w
    have second:∀ xs,xs=(Xg (going.take (j+1)) w).map bx→zK (going.map bx) (j:Int) (fun e195=>yn e195 (bx w) (fun r201=>jG ((xz (going.take j) w).map bx) r201 (fun _=>jt (j:Int) 1 (fun t206=>next2 (xs,(((xz (going.take j) w).map bx)++r201),t206))))):=by
     rintro _ rfl
     refine ix2 _ (zcY hbB hw (jm (by simp only [List.length_map];omega) (zz (by omega) (by omega) (hn2 hjl _ ⟨by simp,by omega,rfl,?_⟩))))
     rw [em,List.map_append]
    refine jL (jL (ix2 _ (zbP hbB hw ?_)))
    refine Uk (a:=xl going[j] w) (zn (fun e=>?_) (fun e=>?_))
    ·have e':em4 (xl going[j] w)=false:=by simpa using e
     refine jm (by simp only [List.length_map,List.length_singleton];omega) (second _ ?_)
     rw [ef,e',List.map_append];rfl
    ·have e':em4 (xl going[j] w)=true:=by simpa using e
     refine second _ ?_
     rw [ef,e'];simp
   ·have hjge:going.length≤j:=by simpa using hc2
    rw [List.take_of_length_le hjge]
    have stop:∀ l o,T=none→κ (l,false,o):=fun l o q=>by rw [q] at h;exact h _ _
    refine jL (yy hfB (by omega) (fun o1=>ju (yy hmB (by omega) (fun o2=>ju ?_) (fun no=>z7 (stop _ _ ?_)))) (fun no=>z7 (z7 (stop _ _ ?_))))
    rotate_left
    ·rw [if_neg (fun q=>no q.2)] at he;exact he
    ·rw [if_neg (fun q=>no q.1)] at he;exact he
    rw [if_pos ⟨o1,o2⟩] at he
    generalize Xg going w=fit at *
    generalize xz going w=miss at *
    refine zdl (fun (t:List zL×List zL×List zE)=>∃ left' going' fls',t=(List.map bx left',List.map bx going',List.map gf fls')∧aB left'∧UM left'∧left'.length≤100000∧aB going'∧going'.length≤100000∧IV fls'∧(okR going'→okR left'→fls'.length≤60→T=url (U s.xChains) (c.drop (k+1)) going' left' fls')∧(¬ (okR going'∧okR left'∧fls'.length≤60)→T=none)) ?_ ?_
    ·rintro _ ⟨left',going',fls',rfl,a1,a2,a3,a4,a5,a6,a7,a8⟩
     refine jL (yy a4 (by omega) (fun b1=>ju (yy a1 (by omega) (fun b2=>ju (zn (fun e=>?_) (fun e=>?_))) (fun no=>z7 (z7 (stop _ _ (a8 (fun q=>no q.2.1))))))) (fun no=>z7 (z7 (stop _ _ (a8 (fun q=>no q.1))))))
     ·have:60<fls'.length:=by have:=of_decide_eq_true e;simp only [List.length_map] at this;omega
      exact stop _ _ (a8 (fun q=>by have:=q.2.2;omega))
     ·have h6:fls'.length≤60:=by have:=of_decide_eq_false e;simp only [List.length_map] at this;omega
      exact zz (by omega) (by omega) (hn hlt _ ⟨by simp,by omega,fls',going',left',rfl,rfl,rfl,⟨a1,b2⟩,⟨a6,h6⟩,⟨a4,b1⟩,a7 b1 b2 h6⟩)
    intro K hK
    have hfl4:=o1.2
    have hml4:=o2.2
    refine zdl (fun t=>t=decide (r.xAction=1∨r.xAction=2)) ?_ (fun K2 hK2=>?_)
    rotate_left
    ·have hK2:=hK2 _ rfl
     refine zn (fun e=>?_) (fun e=>?_)
     ·rw [e];rw [decide_eq_true (.inl (of_decide_eq_true e))] at hK2;exact hK2
     ·have n1:=of_decide_eq_false e
      rw [show decide (r.xAction=2)=decide (r.xAction=1∨r.xAction=2) from decide_eq_decide.2 ⟨.inr,fun q=>q.resolve_left n1⟩];exact hK2
    rintro _ rfl
    refine zn (fun e=>?_) (fun e=>?_)
    ·have ha:=of_decide_eq_true e
     rw [if_pos ha] at he
     refine zQ fit.length (fun s=>s.2) (fun j (st:List zE×Int)=>st.2=(j:Int)∧j≤fit.length∧st.1=(fls++dec (fit.take j) (decide (r.xAction=1))).map gf) (fun k s h=>h.1) (fun k s h=>h.2.1) ?_ ⟨rfl,by omega,by simp [dec]⟩
     rintro j2 ⟨_,_⟩ next3 ⟨rfl,hj2,hx2⟩ hn3
     simp only at hx2
     subst hx2
     refine zn (fun hc3=>?_) (fun hc3=>?_)
     ·have hjl:j2<fit.length:=by simpa using hc3
      refine jL (zp j2 rfl (by simpa using hjl) ?_)
      rw [List.getElem_map]
      refine jm (by simp only [List.length_map,List.length_append,zbz,List.length_take,List.length_singleton];omega) (zz (by omega) (by omega) (hn3 hjl _ ⟨by simp,by omega,?_⟩))
      simp only [dec,List.take_succ_eq_append_getElem hjl,List.map_append,List.map_cons,List.map_nil,List.append_assoc]
      rfl
     ·have hjge:fit.length≤j2:=by simpa using hc3
      rw [List.take_of_length_le hjge]
      refine hK _ ⟨left,miss,_,rfl,hlB,hlO.1,by omega,hmB,by omega,zeI hfI (zer hfB o1.1),fun _ _ q=>?_,fun q=>?_⟩
      ·rw [if_pos q] at he;exact he
      ·rw [if_neg (fun q2=>q ⟨o2,hlO,q2⟩)] at he;exact he
    have n12:=of_decide_eq_false e
    rw [if_neg n12] at he
    refine zn (fun e4=>?_) (fun e4=>?_)
    ·rw [if_pos (of_decide_eq_true e4)] at he
     refine jm (by simp only [List.length_map];omega) ?_
     refine hK _ ⟨left++fit,miss,fls,by rw [List.map_append],Uh.2 ⟨hlB,hfB⟩,u5.2 ⟨hlO.1,o1.1⟩,by rw [List.length_append];omega,hmB,by omega,hfI,fun _ _ _=>he,fun q=>?_⟩
     rw [he]
     exact zem (Nat.lt_of_not_le (fun q2=>q ⟨o2,⟨u5.2 ⟨hlO.1,o1.1⟩,q2⟩,hf60⟩))
    ·rw [if_neg (of_decide_eq_false e4)] at he
     refine zn (fun e3=>?_) (fun e3=>?_)
     ·have h3:=of_decide_eq_true e3
      rw [if_pos h3] at he
      obtain ⟨c0,c1⟩:=hcall h3
      obtain ⟨j,hj⟩:=Int.eq_ofNat_of_zero_le c0
      have hca:=zeZ hmc h3 c0
      rw [hj] at he hca c1 ⊢
      have hj':((j:Int)).toNat=j:=by simp
      rw [hj'] at he
      refine ih j fit fls _ (hh j (by simpa using hca)) (by omega) hfB o1 hfI hf60 ?_
      cases hU:U s.xChains j fit fls with
      | none =>
       rw [hU] at he
       intro l o
       exact z7 (stop _ _ he)
      | some bo =>
       obtain ⟨b,o⟩:=bo
       rw [hU] at he
       obtain ⟨u1,u2,u3,u4⟩:=zj6 htv j hfB o1 hfI hf60 _ _ hU
       have hu4:=u2.2
       simp only at he
       refine ziD (ju (jm (by simp only [List.length_map];omega) ?_))
       refine hK _ ⟨left,miss++b,o,by rw [List.map_append],hlB,hlO.1,by omega,Uh.2 ⟨hmB,u1⟩,by rw [List.length_append];omega,u3,fun q _ _=>?_,fun q=>?_⟩
       ·rw [if_pos q] at he;exact he
       ·rw [if_neg (fun q2=>q ⟨q2,hlO,u4⟩)] at he;exact he
     ·rw [if_neg (of_decide_eq_false e3)] at he
      refine jm (by simp only [List.length_map];omega) ?_
      refine hK _ ⟨left,miss++fit,fls,by rw [List.map_append],hlB,hlO.1,by omega,Uh.2 ⟨hmB,hfB⟩,by rw [List.length_append];omega,hfI,fun q _ _=>?_,fun q=>?_⟩
      ·rw [if_pos q] at he;exact he
      ·rw [if_neg (fun q2=>q ⟨q2,hlO,hf60⟩)] at he;exact he
  ·have hge:c.length≤k:=by simpa using hc
   rw [List.drop_of_length_le hge] at he
   unfold url at he
   rw [he] at h
   refine jm (by simp only [List.length_map];omega) ?_
   rw [← List.map_append]
   refine yy (Uh.2 ⟨hlB,hgB⟩) (by rw [List.length_append];omega) (fun q=>?_) (fun q=>?_)
   ·rw [if_pos q] at h;exact h
   ·rw [if_neg q] at h;exact h _ _
end
section
open Go Go.Proofs
theorem VN {s:zM} (hb:Bd s) {κ:zM→Prop} (h:κ s):yj s κ:=by
 unfold yj Xj
 refine Vm s.xChains id hb.1 (fun x ψ=>yT x ψ) (fun x ψ hx hψ=>?_) (by simpa using h) _ (fun nx xs t hh=>hh)
 obtain ⟨h1,h2⟩:=hb.2 x hx
 unfold yT
 refine Vm x id h1 (fun y ψ=>Xq y ψ) (fun y ψ hy hψ=>?_) (by simpa using hψ) _ (fun nx xs t hh=>hh)
 unfold Xq
 exact jm (by have:=h2 y hy;simpa using this) hψ
theorem zdJ {s:zM} (hb:Bd s) {κ:List zE×Bool→Prop} (h1:SV s→∀ l,uf s=some l→κ (l.map gf,true)) (h2:(SV s→uf s=none)→κ ([],false)):YX s κ:=by
 unfold YX
 refine VN hb (zae hb (fun b hbv=>zn (fun e=>h2 (fun q=>?_)) (fun e=>zcL ?_)))
 ·rw [hbv.2 q] at e;cases e
 have hv:SV s:=hbv.1 (by simpa using e)
 refine ⟨jN s.xChains+1,zjG hv _ 0 [UO] [] _ (zgw hv.2.2 0) hv.2.1 zew zc9 zeT (by simp) ?_⟩
 have h1:=h1 hv
 unfold uf at h1 h2
 cases hU:U s.xChains 0 [UO] [] with
 | none=>rw [hU] at h2;exact fun l o=>z7 (h2 (fun _=>rfl))
 | some bo =>
  obtain ⟨b,o⟩:=bo
  rw [hU] at h1
  exact ju (h1 o rfl)
end
section
open Go Go.Proofs
def wdN (l:List zl):Nat→List zl
 | 0=>[]
 | k+1=>wdN l k++(match l[k]? with | some f=>if dd l k then [] else [f] | none=>[])
def wdF (l:List zl):List zl:=wdN l l.length
theorem zaY (l:List zl):∀ k,(wdN l k).length≤k∧∀ f∈wdN l k,f∈l
 | 0=>by simp [wdN]
 | k+1=>by
  obtain ⟨h1,h2⟩:=zaY l k
  unfold wdN
  cases e:l[k]? with
  | none=>simp only [List.append_nil];exact ⟨by omega,h2⟩
  | some f =>
   simp only
   split
   ·simp only [List.append_nil];exact ⟨by omega,h2⟩
   ·refine ⟨by rw [List.length_append];simp;omega,fun g hg=>?_⟩
    rcases List.mem_append.1 hg with q | q
    ·exact h2 g q
    ·rw [List.mem_singleton] at q;subst q;exact List.mem_of_getElem? e
theorem zeo (l:List zl):(wdF l).length≤l.length:=(zaY l _).1
theorem zaH {l:List zl} (h:IV l):IV (wdF l):=fun f hf=>h f ((zaY l _).2 f hf)
theorem zgy {l:List zl} {k:Nat} (hk:k<l.length) (h:dd l k=true):wdN l (k+1)=wdN l k:=by
 show wdN l k++_=_
 rw [List.getElem?_eq_getElem hk];simp [h]
theorem zik {l:List zl} {k:Nat} (hk:k<l.length) (h:dd l k=false):wdN l (k+1)=wdN l k++[l[k]]:=by
 show wdN l k++_=_
 rw [List.getElem?_eq_getElem hk];simp [h]
theorem zdH {l:List zl} (hl:l.length≤100000) (hv:IV l) {κ:List zl→Prop} (h:κ (wdF l)):Zz l κ:=by
 unfold Zz
 refine zhn hl hv (Vc 0 rfl (by omega) (by omega) ?_)
 have rem0:zjg l=((List.range l.length).drop 0).filter (dd l):=rfl
 rw [rem0]
 refine zQ l.length (fun s=>s.2.2) (fun k (s:List Int×List zl×Int)=>s.2.2=(k:Int)∧k≤l.length∧s.1=(((List.range l.length).drop k).filter (dd l)).map Int.ofNat∧s.2.1=wdN l k) (fun k s h=>h.1) (fun k s h=>h.2.1) ?_ ⟨rfl,by omega,rfl,rfl⟩
 rintro k ⟨_,_,_⟩ next ⟨rfl,hk,hx,hy⟩ hn
 simp only at hx hy
 subst hx hy
 refine zn (fun hc=>?_) (fun hc=>?_)
 ·have hlt:k<l.length:=by simpa using hc
  have hd:(List.range l.length).drop k=k :: (List.range l.length).drop (k+1):=by
   rw [List.drop_eq_getElem_cons (by simpa using hlt)];simp
  have hwl:=(zaY l k).1
  have hfl:∀ m,((((List.range l.length).drop m).filter (dd l)).map Int.ofNat).length≤l.length:=fun m=>by
   rw [List.length_map]
   refine Nat.le_trans (List.length_filter_le _ _) ?_
   rw [List.length_drop,List.length_range];omega
  refine jL (zp k rfl hlt (jL ?_))
  have nxt:∀ ws,ws=wdN l (k+1)→jt (k:Int) 1 (fun t188=>next ((((List.range l.length).drop (k+1)).filter (dd l)).map Int.ofNat,ws,t188)):=fun ws hw=>zz (by omega) (by omega) (hn hlt _ ⟨by simp,by omega,rfl,hw⟩)
  have app:dd l k=false→jG (wdN l k) [l[k]] (fun _=>jt (k:Int) 1 (fun t188=>next ((((List.range l.length).drop (k+1)).filter (dd l)).map Int.ofNat,wdN l k++[l[k]],t188))):=fun q=>jm (by simp;omega) (nxt _ (zik hlt q).symm)
  by_cases q:dd l k=true
  ·have e:((List.range l.length).drop k).filter (dd l)=k :: ((List.range l.length).drop (k+1)).filter (dd l):=by rw [hd,List.filter_cons,if_pos q]
   rw [e]
   refine zn (fun _=>zp 0 rfl (by simp) ?_) (fun e2=>by simp at e2)
   refine zn (fun _=>?_) (fun e2=>by simp at e2)
   refine ⟨by omega,by simp;omega,by omega,?_⟩
   have e3:(List.take (((k :: ((List.range l.length).drop (k+1)).filter (dd l)).map Int.ofNat).length:Int).toNat ((k :: ((List.range l.length).drop (k+1)).filter (dd l)).map Int.ofNat)).drop (1:Int).toNat=(((List.range l.length).drop (k+1)).filter (dd l)).map Int.ofNat:=by
    rw [Int.toNat_natCast,List.take_length];rfl
   rw [e3]
   exact nxt _ (zgy hlt q).symm
  ·have q':dd l k=false:=by simpa using q
   have e:((List.range l.length).drop k).filter (dd l)=((List.range l.length).drop (k+1)).filter (dd l):=by rw [hd,List.filter_cons,if_neg q]
   rw [e]
   refine zn (fun e2=>?_) (fun e2=>ju (app q'))
   have hpos:0<((((List.range l.length).drop (k+1)).filter (dd l)).map Int.ofNat).length:=by have:=of_decide_eq_true e2;omega
   refine zp 0 rfl hpos ?_
   have hm:((((List.range l.length).drop (k+1)).filter (dd l)).map Int.ofNat)[0]∈(((List.range l.length).drop (k+1)).filter (dd l)).map Int.ofNat:=List.getElem_mem hpos
   obtain ⟨j,hj,ej⟩:=List.mem_map.1 hm
   have hj2:=(List.mem_filter.1 hj).1
   have hjk:k+1≤j:=by
    rw [List.mem_drop_iff_getElem] at hj2
    obtain ⟨m,_,hm2⟩:=hj2
    simp at hm2;omega
   refine zn (fun e3=>?_) (fun _=>app q')
   have e3':=of_decide_eq_true e3
   rw [← ej] at e3'
   have:(j:Int)=(k:Int):=e3'
   omega
 ·have hge:l.length≤k:=by simpa using hc
  have:k=l.length:=by omega
  subst this
  exact h
theorem zh6 {a:za} (h:B4 a):in4 a a=true:=by
 have z:∀ {l:List ze} {t:Int},St l t→xr l l t=[]:=fun {l t} hs=>by
  have hn:=U4 hs hs
  cases e:xr l l t with
  | nil=>rfl
  | cons x r =>
   have hx:=Uv hn.1 (show x∈xr l l t by rw [e];simp)
   have:=(zdx hs hs).1 hx.1
   exact absurd this.1 this.2
 obtain ⟨h0,h1,h2,h3⟩:=h
 simp [in4,zd0,za4,z h0,z h1,z h2,z h3]
theorem zba {a b:List ze} {t:Int} (ha:St a t) (hb:St b t):xr a b t=[]↔∀ x,hv a x→hv b x:=by
 constructor
 ·intro h x hx
  by_cases q:hv b x
  ·exact q
  ·have:=(zdx ha hb).2 ⟨hx,q⟩
   rw [h] at this;exact absurd this (yv _)
 ·intro h
  have hn:=U4 ha hb
  cases e:xr a b t with
  | nil=>rfl
  | cons x r =>
   have hx:=Uv hn.1 (show x∈xr a b t by rw [e];simp)
   have:=(zdx ha hb).1 hx.1
   exact absurd (h _ this.1) this.2
theorem zkI {a:List ze} {t:Int} (h:St a t):a≠[]→∃ x,hv a x:=fun q=>by
 cases a with
 | nil=>exact absurd rfl q
 | cons s r=>exact ⟨s.xLo,(Uv h.1 (by simp)).1⟩
theorem zi0 {a b:List ze} (h:∃ x,hv a x∧hv b x):zU a b≠[]:=fun e=>by
 obtain ⟨x,h1,h2⟩:=h
 have:=(Ug a b x).2 ⟨h1,h2⟩
 rw [e] at this;exact yv _ this
theorem zkw {a:za}:em4 a=true↔a.x0=[]∨a.x1=[]∨a.x2=[]∨a.x3=[]:=by unfold em4;exact decide_eq_true_iff
theorem zjA {a:za}:em4 a=false↔a.x0≠[]∧a.x1≠[]∧a.x2≠[]∧a.x3≠[]:=by unfold em4;rw [decide_eq_false_iff_not];simp only [not_or,ne_eq]
theorem zgK {a b:za} (ha:B4 a) (hb:B4 b):XE a b=[]↔in4 a b=true:=by
 obtain ⟨p0,p1,p2,p3⟩:=ha
 obtain ⟨q0,q1,q2,q3⟩:=hb
 have hless:zd0 a b=za4↔(xr a.x0 b.x0 65535=[]∧xr a.x1 b.x1 65535=[]∧xr a.x2 b.x2 255=[]∧xr a.x3 b.x3 7=[]):=by
  simp [zd0,za4]
 unfold XE in4
 by_cases e:em4 (xl a b)=true
 ·rw [if_pos e]
  by_cases e2:em4 a=true
  ·simp [e2]
  ·have e2':em4 a=false:=by simpa using e2
   simp only [e2',Bool.false_eq_true,if_false,Bool.false_or,decide_eq_true_eq]
   refine ⟨fun h=>by simp at h,fun h=>?_⟩
   obtain ⟨l0,l1,l2,l3⟩:=hless.1 h
   rw [zba p0 q0] at l0
   rw [zba p1 q1] at l1
   rw [zba p2 q2] at l2
   rw [zba p3 q3] at l3
   exfalso
   rw [zjA] at e2'
   rw [zkw] at e
   have g:∀ {x y:List ze} {t:Int},St x t→x≠[]→(∀ v,hv x v→hv y v)→zU x y≠[]:=fun hx hne hh=>by
    obtain ⟨v,hv1⟩:=zkI hx hne
    exact zi0 ⟨v,hv1,hh v hv1⟩
   rcases e with e | e | e | e
   ·exact g p0 e2'.1 l0 e
   ·exact g p1 e2'.2.1 l1 e
   ·exact g p2 e2'.2.2.1 l2 e
   ·exact g p3 e2'.2.2.2 l3 e
 ·rw [if_neg e]
  have e2:em4 a=false:=by
   have e':em4 (xl a b)=false:=by simpa using e
   rw [zjA] at e' ⊢
   refine ⟨fun q=>e'.1 (by simp only [xl];rw [q];rfl),fun q=>e'.2.1 (by simp only [xl];rw [q];rfl),fun q=>e'.2.2.1 (by simp only [xl];rw [q];rfl),fun q=>e'.2.2.2 (by simp only [xl];rw [q];rfl)⟩
  simp only [e2,Bool.false_or,decide_eq_true_eq,hless]
  have hp:∀ (r:List ze) (c:za),pc r c=[]↔r=[]:=fun r c=>by unfold pc;split <;> simp [*]
  simp only [List.append_eq_nil_iff,hp,and_assoc]
def zbd (a b:za):List Nat:=(List.range 4).filter (fun n=>decide (ul a n≠ul b n))
def uni (a b:za) (n:Nat):List ze:=Xb (ul a n) (ul b n)
def mg (a b:za):Option za :=
 if in4 a b then some b else if in4 b a then some a else
 match zbd a b with
 | [n]=>if (uni a b n).length≤40 then some (Yf a n (uni a b n)) else none
 | _=>none
theorem zeB {a b:za} {n:Nat} (h:zbd a b=[n]):n<4∧ul a n≠ul b n:=by
 have:n∈zbd a b:=by rw [h];simp
 obtain ⟨h1,h2⟩:=List.mem_filter.1 this
 exact ⟨by simpa using h1,by simpa using h2⟩
theorem zkC {a b x:za} (ha:B4 a∧F4 a) (hb:B4 b∧F4 b) (h:mg a b=some x):B4 x∧F4 x:=by
 unfold mg at h
 split at h
 ·injection h with h;subst h;exact hb
 ·split at h
  ·injection h with h;subst h;exact ha
  ·split at h
   ·rename_i n hn
    obtain ⟨h4,_⟩:=zeB hn
    split at h
    ·rename_i hl
     injection h with h;subst h
     have k0:(0:Int)≤n:=by omega
     have k3:(n:Int)≤3:=by omega
     exact ⟨zgt ha.1 k0 k3 (zbO (Yt ha.1 k0 k3) (Yt hb.1 k0 k3)),zex (zgG (zfJ.1 ha.2) k0 k3 hl (Nat.le_refl _))⟩
    ·cases h
   ·cases h
theorem zgS {a b:List ze} (hl:a.length≤4294967296) {κ:Bool→Prop} (h:κ (decide (a=b))):jJ a b κ:=by
 unfold jJ
 by_cases hab:a.length=b.length
 ·refine zn (fun e=>by simp [hab] at e) (fun _=>?_)
  exact zeV a b hab hl (fun x y A=>ifW (!(decide (x=y))) (κ false) A) (fun x y A h1 h2=>zn (fun e=>h2 (by simpa using e)) (fun e=>h1 (by simpa using e))) h _ (fun nx t hh=>hh)
 ·rw [decide_eq_false (fun q=>hab (by rw [q]))] at h
  exact zn (fun _=>h) (fun e=>by simp at e;omega)
def Up (a b:za) (k:Nat):List Nat:=(List.range k).filter (fun n=>decide (ul a n≠ul b n))
theorem X6 (a b:za) (k:Nat):Up a b (k+1)=Up a b k++(if ul a k≠ul b k then [k] else []):=by
 unfold Up
 rw [List.range_succ,List.filter_append,List.filter_cons]
 by_cases h:ul a k=ul b k <;> simp [h]
theorem zgU (a b:za):∀ k,(Up a b k).length≤k:=fun k=>Nat.le_trans (List.length_filter_le _ _) (by simp)
def zk4:Option za→za×Bool
 | some x=>(x,true)
 | none=>(za4,false)
theorem zeP {a b:za} (ha:B4 a∧F4 a) (hb:B4 b∧F4 b) {κ:za×Bool→Prop} (h:κ (zk4 (mg a b))):uK a b κ:=by
 unfold uK
 unfold mg at h
 refine zfH ha.1 hb.1 (zn (fun e=>?_) (fun e=>zfH hb.1 ha.1 (zn (fun e2=>?_) (fun e2=>?_))))
 ·rw [if_pos e] at h;exact h
 ·rw [if_neg (by simp [e]),if_pos e2] at h;exact h
 rw [if_neg (by simp [e]),if_neg (by simp [e2])] at h
 refine zQ 4 (fun s=>s.2.2) (fun k (s:Int×Int×Int)=>s.2.2=(k:Int)∧k≤4∧s.2.1=((Up a b k).length:Int)∧∀ n,(Up a b k).getLast?=some n→s.1=(n:Int)) (fun k s h=>h.1) (fun k s h=>h.2.1) ?_ ⟨rfl,by omega,rfl,fun n hn=>by simp [Up] at hn⟩
 rintro k ⟨f,cn,_⟩ next ⟨rfl,hk,hcn,hf⟩ hn
 simp only at hcn hf
 subst hcn
 have hdl:=zgU a b k
 refine zn (fun hc=>?_) (fun hc=>?_)
 ·have hlt:k<4:=by
   have:(k:Int)<4:=of_decide_eq_true hc
   omega
  have k0:(0:Int)≤k:=by omega
  have k3:(k:Int)≤3:=by omega
  refine jL (jL (yE k0 k3 (yE k0 k3 (zgS (by have:=zfJ.1 ha.2 k k0 k3;omega) (zn (fun e=>?_) (fun e=>?_))))))
  ·have hne:ul a k≠ul b k:=by simpa using e
   refine zz (by omega) (by omega) (zz (by omega) (by omega) (hn hlt _ ⟨by simp,by omega,?_,fun n hnn=>?_⟩))
   ·rw [X6,if_pos hne];simp
   ·rw [X6,if_pos hne] at hnn
    simp at hnn;simp only;omega
  ·have hne:¬ ul a k≠ul b k:=by simpa using e
   refine zz (by omega) (by omega) (hn hlt _ ⟨by simp,by omega,?_,fun n hnn=>?_⟩)
   ·rw [X6,if_neg hne];simp
   ·rw [X6,if_neg hne,List.append_nil] at hnn
    exact hf n hnn
 ·have hge:k=4:=by
   have:¬ (k:Int)<4:=of_decide_eq_false hc
   omega
  subst hge
  have ed:Up a b 4=zbd a b:=rfl
  rw [ed] at hf ⊢
  refine zn (fun e3=>?_) (fun e3=>?_)
  ·have h1:¬ (zbd a b).length=1:=by
    have:¬ ((zbd a b).length:Int)=1:=by simpa using e3
    omega
   have:κ (za4,false):=by
    split at h
    ·rename_i n hn';rw [hn'] at h1;simp at h1
    ·exact h
   exact this
  ·have h1:(zbd a b).length=1:=by
    have:((zbd a b).length:Int)=1:=by simpa using e3
    omega
   obtain ⟨n,hn'⟩:=List.length_eq_one_iff.1 h1
   rw [hn'] at h hf
   have hfn:=hf n rfl
   subst hfn
   obtain ⟨h4,_⟩:=zeB hn'
   have k0:(0:Int)≤n:=by omega
   have k3:(n:Int)≤3:=by omega
   have tl:=VW n
   refine jL (yE k0 k3 (yE k0 k3 (yX k0 k3 (zeA (Yt ha.1 k0 k3) (Yt hb.1 k0 k3) (by omega) (by omega) ?_))))
   simp only at h
   by_cases hl:(uni a b n).length≤40
   ·rw [if_pos hl] at h
    have el:lim (Xb (ul a n) (ul b n))=(uni a b n,true):=by unfold lim;rw [if_neg (by unfold uni at hl;omega)];rfl
    rw [el]
    refine ju (yE k0 k3 ⟨_,_,_,_,Uw k0 k3,h⟩)
   ·rw [if_neg hl] at h
    have el:lim (Xb (ul a n) (ul b n))=([],false):=by unfold lim;rw [if_pos (by unfold uni at hl;omega)]
    rw [el]
    exact z7 h
end
section
open Go Go.Proofs
def pm (x y:zl):Option zl:=if x.xAccept=y.xAccept then (mg x.xWhere y.xWhere).map (fun w=>⟨w,x.xAccept⟩) else none
def pmA (l:List zl) (k:Nat):Option zl:=match l[k]?,l[k+1]? with | some x,some y=>pm x y | _,_=>none
def fpN (l:List zl):Nat→Option (Nat×zl)
 | 0=>none
 | n+1=>match fpN l n with | some r=>some r | none=>(pmA l n).map (fun z=>(n,z))
def fp (l:List zl):Option (Nat×zl):=fpN l l.length
def UW (l:List zl) (k:Nat) (z:zl):List zl:=l.take k++[z]++l.drop (k+2)
def mgN:Nat→List zl→List zl
 | 0,l=>l
 | n+1,l=>match fp l with | none=>l | some (k,z)=>mgN n (UW l k z)
def mgF (l:List zl):List zl:=mgN l.length l
theorem zb1 {l:List zl} {k:Nat} {z:zl} (h:pmA l k=some z):k+1<l.length:=by
 unfold pmA at h
 split at h
 ·rename_i x y h1 h2;exact (List.getElem?_eq_some_iff.1 h2).1
 ·cases h
theorem zhM {l:List zl} {k:Nat} (h:l.length≤k+1):pmA l k=none:=by
 cases e:pmA l k with
 | none=>rfl
 | some z=>have:=zb1 e;omega
theorem zeE {l:List zl} {k:Nat} (h:k+1<l.length):pmA l k=pm l[k] l[k+1]:=by
 unfold pmA
 rw [List.getElem?_eq_getElem (by omega:k<l.length),List.getElem?_eq_getElem h]
theorem zcU {l:List zl}:∀ {n:Nat},(∀ j,j<n→pmA l j=none)→fpN l n=none
 | 0,_=>rfl
 | n+1,h=>by
  unfold fpN
  rw [zcU (fun j hj=>h j (by omega))]
  simp [h n (by omega)]
theorem zfA {l:List zl} {k:Nat} {z:zl} (h1:∀ j,j<k→pmA l j=none) (h2:pmA l k=some z):∀ {n:Nat},k<n→fpN l n=some (k,z)
 | 0,h=>by omega
 | n+1,h=>by
  unfold fpN
  by_cases e:k=n
  ·subst e;rw [zcU h1,h2];rfl
  ·rw [zfA h1 h2 (by omega)]
theorem zgk {l:List zl} (h:∀ j,pmA l j=none):fp l=none:=zcU (fun j _=>h j)
theorem zcx {l:List zl} {k:Nat} {z:zl} (h1:∀ j,j<k→pmA l j=none) (h2:pmA l k=some z):fp l=some (k,z):=zfA h1 h2 (by have:=zb1 h2;omega)
theorem zab {l:List zl} {k:Nat} {z:zl} (h:k+1<l.length):(UW l k z).length=l.length - 1:=by
 unfold UW
 simp only [List.length_append,List.length_take,List.length_singleton,List.length_drop];omega
theorem zfc {l:List zl} (h:∀ j,pmA l j=none):mgF l=l:=by
 unfold mgF
 cases e:l.length with
 | zero=>rfl
 | succ n=>unfold mgN;rw [zgk h]
theorem zfv {l:List zl} {k:Nat} {z:zl} (h1:∀ j,j<k→pmA l j=none) (h2:pmA l k=some z):mgF l=mgF (UW l k z):=by
 have hk:=zb1 h2
 have hl:=zab (z:=z) hk
 unfold mgF
 rw [hl]
 obtain ⟨n,hn⟩:∃ n,l.length=n+1:=⟨l.length - 1,by omega⟩
 rw [hn]
 conv=>lhs;unfold mgN
 rw [zcx h1 h2]
 rfl
theorem zkB {x y z:zl} (hx:B4 x.xWhere∧F4 x.xWhere) (hy:B4 y.xWhere∧F4 y.xWhere) (h:pm x y=some z):(B4 z.xWhere∧F4 z.xWhere)∧z.xAccept=x.xAccept:=by
 unfold pm at h
 split at h
 ·cases e:mg x.xWhere y.xWhere with
  | none=>rw [e] at h;cases h
  | some w =>
   rw [e] at h
   simp only [Option.map_some,Option.some.injEq] at h
   subst h
   exact ⟨zkC hx hy e,rfl⟩
 ·cases h
theorem zdn {l:List zl} {k:Nat} {z:zl} (h:IV l) (h2:pmA l k=some z):IV (UW l k z):=by
 have hk:=zb1 h2
 rw [zeE hk] at h2
 have hz:=zkB (h _ (List.getElem_mem (by omega))) (h _ (List.getElem_mem hk)) h2
 intro f hf
 unfold UW at hf
 rcases List.mem_append.1 hf with q | q
 ·rcases List.mem_append.1 q with q | q
  ·exact h f (List.mem_of_mem_take q)
  ·rw [List.mem_singleton] at q;subst q;exact hz.1
 ·exact h f (List.mem_of_mem_drop q)
theorem zf0:∀ (n:Nat) {l:List zl},IV l→IV (mgN n l)∧(mgN n l).length≤l.length
 | 0,l,h=>⟨h,Nat.le_refl _⟩
 | n+1,l,h=>by
  unfold mgN
  cases e:fp l with
  | none=>exact ⟨h,Nat.le_refl _⟩
  | some kz =>
   obtain ⟨k,z⟩:=kz
   have hkz:pmA l k=some z:=by
    have:∀ n,fpN l n=some (k,z)→pmA l k=some z:=by
     intro n
     induction n with
     | zero=>intro q;cases q
     | succ n ih =>
      intro q
      unfold fpN at q
      cases e2:fpN l n with
      | some r=>rw [e2] at q;simp only [Option.some.injEq] at q;subst q;exact ih e2
      | none =>
       rw [e2] at q
       cases e3:pmA l n with
       | none=>rw [e3] at q;cases q
       | some z' =>
        rw [e3] at q
        simp only [Option.map_some,Option.some.injEq,Prod.mk.injEq] at q
        obtain ⟨rfl,rfl⟩:=q
        exact e3
    exact this _ e
   have ih:=zf0 n (zdn h hkz)
   have hl:=zab (z:=z) (zb1 hkz)
   exact ⟨ih.1,by have:=ih.2;simp only;omega⟩
theorem zhE {l:List zl} (h:IV l):IV (mgF l):=(zf0 _ h).1
theorem zeX {l:List zl} (h:IV l):(mgF l).length≤l.length:=(zf0 _ h).2
theorem zja {l:List zl} (hl:l.length≤4294967296) {κ:List zl→Prop} (h:κ l):xL l κ:=by
 unfold xL
 refine ⟨fun _=>ju (jm (by simpa using hl) h),fun e=>?_⟩
 subst e
 exact ⟨z7 h,ju (jm (by simp) h)⟩
theorem zim {l:List zl} {i:Nat} (h:i+2≤l.length) {κ:List zl→Prop} (hκ:κ (l.take (i+1)++l.drop (i+2))):xE l ((i:Int)+1) ((i:Int)+2) κ:=by
 refine ⟨by omega,by omega,by omega,?_⟩
 rw [show ((i:Int)+1).toNat=i+1 by omega,show ((i:Int)+2).toNat=i+2 by omega]
 exact hκ
theorem zi9 {l:List zl} {i:Nat} (h:i+1<l.length) (z:zl):(l.set i z).take (i+1)++(l.set i z).drop (i+2)=UW l i z:=by
 unfold UW
 rw [List.take_succ_eq_append_getElem (by simp;omega),List.take_set_of_le (by omega),List.drop_set_of_lt (by omega)]
 simp
theorem zhe {l:List zl} {i j:Nat} {z:zl} (h:i+1<l.length) (hj:j+1<i):pmA (UW l i z) j=pmA l j:=by
 unfold pmA
 have e:∀ m,m<i→(UW l i z)[m]?=l[m]?:=fun m hm=>by
  unfold UW
  rw [List.append_assoc,List.getElem?_append_left (by rw [List.length_take];omega),List.getElem?_take,if_pos hm]
 rw [e j (by omega),e (j+1) hj]
theorem zaL {l:List zl} (hl:l.length≤100000) (hv:IV l) {κ:List zl→Prop} (h:κ (mgF l)):ym l κ:=by
 unfold ym
 refine zja (by omega) ?_
 refine ZK (fun (s:List zl×Int)=>∃ i:Nat,s.2=(i:Int)∧i≤s.1.length∧s.1.length≤100000∧IV s.1∧(∀ j,j<i→pmA s.1 j=none)∧mgF s.1=mgF l) (fun s=>2 * s.1.length - s.2.toNat) ?_ ⟨0,rfl,by omega,hl,hv,fun j hj=>by omega,rfl⟩
 rintro ⟨xs,_⟩ next ⟨i,rfl,hi,hxl,hxv,hno,hm⟩ hn
 simp only at hi hxl hxv hno hm hn
 refine zz (by omega) (by omega) (zn (fun hc=>?_) (fun hc=>?_))
 ·have hlt:i+1<xs.length:=by have:=of_decide_eq_true hc;omega
  have hxi:=hxv _ (List.getElem_mem (show i<xs.length by omega))
  have hxj:=hxv _ (List.getElem_mem hlt)
  have hpm:=zeE hlt
  have w64e:w64 ((i:Int)+1)=((i+1:Nat):Int):=by rw [zin (by omega) (by omega)];omega
  have stepNo:pmA xs i=none→jt (i:Int) 1 (fun t153=>next (xs,t153)):=fun q=>zz (by omega) (by omega) (hn _ ⟨i+1,by simp,by simp only;omega,hxl,hxv,fun j hj=>by
   by_cases e:j=i
   ·subst e;exact q
   ·exact hno j (by omega),hm⟩ (by simp only;omega))
  have stepYes:∀ w:za,pmA xs i=some ⟨w,xs[i].xAccept⟩→zK xs (i:Int) (fun e174=>jt (i:Int) 1 (fun t189=>jt (i:Int) 2 (fun t190=>xE (xs.set ((i:Int)).toNat (zl.mk w e174.xAccept)) t189 t190 (fun r191=>YY (i:Int) 1 (fun t194=>next (r191,(max t194 0))))))):=fun w q=>by
   refine zp i rfl (by omega) (zz (by omega) (by omega) (zz (by omega) (by omega) ?_))
   rw [Int.toNat_natCast]
   refine zim (by rw [List.length_set];omega) ?_
   rw [zi9 hlt]
   have hml:=zab (l:=xs) (k:=i) (z:=⟨w,xs[i].xAccept⟩) hlt
   refine Z3 (by omega) (by omega) (hn _ ⟨i - 1,by simp only;omega,by simp only;omega,by simp only;omega,zdn hxv q,fun j hj=>?_,?_⟩ (by simp only;omega))
   ·rw [zhe hlt (by omega)];exact hno j (by omega)
   ·rw [← zfv hno q];exact hm
  refine jL (zp i rfl (by omega) (zz (by omega) (by omega) (zp (i+1) (by omega) hlt (zn (fun e=>?_) (fun e=>?_)))))
  ·have ea:xs[i].xAccept=xs[i+1].xAccept:=of_decide_eq_true e
   unfold pm at hpm
   rw [if_pos ea] at hpm
   rw [w64e]
   refine jL (zp i rfl (by omega) (zp (i+1) rfl hlt (zeP hxi hxj ?_)))
   cases em:mg xs[i].xWhere xs[i+1].xWhere with
   | none =>
    rw [em] at hpm
    exact z7 (stepNo hpm)
   | some w =>
    rw [em] at hpm
    exact ju ⟨w.x0,w.x1,w.x2,w.x3,rfl,stepYes w hpm⟩
  ·have ea:¬ xs[i].xAccept=xs[i+1].xAccept:=of_decide_eq_false e
   unfold pm at hpm
   rw [if_neg ea] at hpm
   exact z7 (stepNo hpm)
 ·have hge:xs.length≤i+1:=by have:=of_decide_eq_false hc;omega
  have:mgF xs=xs:=zfc (fun j=>by
   by_cases e:j<i
   ·exact hno j e
   ·exact zhM (by omega))
  rw [← hm,this] at h
  exact h
def trN (l:List zl) (rest:Bool):Nat→Nat
 | 0=>0
 | n+1=>if (match l[n]? with | some f=>decide (f.xAccept=rest) | none=>false) then trN l rest n else n+1
def trF (l:List zl) (rest:Bool):List zl:=l.take (trN l rest l.length)
theorem ziY (l:List zl) (rest:Bool):(trF l rest).length≤l.length:=by unfold trF;rw [List.length_take];omega
theorem zjL {l:List zl} {rest:Bool} (h:IV l):IV (trF l rest):=fun f hf=>h f (List.mem_of_mem_take hf)
theorem zg9 {l:List zl} {rest:Bool} (hl:l.length≤100000) {κ:List zl→Prop} (h:κ (trF l rest)):Yj l rest κ:=by
 unfold Yj
 refine ZK (fun (s:Int)=>∃ n:Nat,s=(n:Int)∧n≤l.length∧trN l rest l.length=trN l rest n) (fun s=>s.toNat) ?_ ⟨l.length,rfl,Nat.le_refl _,rfl⟩
 rintro _ next ⟨n,rfl,hn',he⟩ hnx
 have fin:trN l rest n=n→yG l 0 (n:Int) (fun xs73=>κ xs73):=fun q=>by
  refine ⟨by omega,by omega,by omega,?_⟩
  unfold trF at h
  rw [he,q] at h
  simpa using h
 refine jL (zn (fun e=>?_) (fun e=>ju (fin ?_)))
 ·have hpos:0<n:=by have:=of_decide_eq_true e;omega
  obtain ⟨m,rfl⟩:∃ m,n=m+1:=⟨n - 1,by omega⟩
  have hlt:m<l.length:=by omega
  have em:((m+1:Nat):Int) - 1=(m:Int):=by omega
  refine Z3 (by omega) (by omega) ?_
  rw [em]
  refine zp m rfl hlt (zn (fun e2=>?_) (fun e2=>fin ?_))
  ·have e2':l[m].xAccept=rest:=of_decide_eq_true e2
   refine Z3 (by omega) (by omega) (hnx _ ⟨m,by omega,by omega,?_⟩ (by omega))
   rw [he]
   conv=>lhs;unfold trN
   rw [List.getElem?_eq_getElem hlt]
   simp [e2']
  ·have e2':¬ l[m].xAccept=rest:=of_decide_eq_false e2
   unfold trN
   rw [List.getElem?_eq_getElem hlt]
   simp [e2']
 ·have:n=0:=by have:=of_decide_eq_false e;omega
  subst this;rfl
def sh1 (l:List zl) (rest:Bool):List zl:=trF (mgF (wdF l)) rest
theorem zao {l:List zl} {rest:Bool} (h:IV l):IV (sh1 l rest):=zjL (zhE (zaH h))
theorem Ue {l:List zl} {rest:Bool} (h:IV l):(sh1 l rest).length≤l.length:=Nat.le_trans (ziY _ _) (Nat.le_trans (zeX (zaH h)) (zeo l))
def shN (rest:Bool):Nat→List zl→List zl
 | 0,l=>sh1 l rest
 | n+1,l=>if (sh1 l rest).length=l.length then sh1 l rest else shN rest n (sh1 l rest)
def shF (l:List zl) (rest:Bool):List zl:=shN rest l.length l
theorem zf3 {rest:Bool}:∀ {n:Nat} {l:List zl},IV l→IV (shN rest n l)∧(shN rest n l).length≤l.length
 | 0,l,h=>⟨zao h,Ue h⟩
 | n+1,l,h=>by
  unfold shN
  split
  ·exact ⟨zao h,Ue h⟩
  ·have:=zf3 (rest:=rest) (n:=n) (zao (rest:=rest) h)
   exact ⟨this.1,Nat.le_trans this.2 (Ue h)⟩
theorem zjZ {l:List zl} {rest:Bool} (h:IV l):IV (shF l rest):=(zf3 h).1
theorem ziE {l:List zl} {rest:Bool} (h:IV l):(shF l rest).length≤l.length:=(zf3 h).2
theorem zfq {rest:Bool}:∀ {n m:Nat} {l:List zl},IV l→l.length≤n→l.length≤m→shN rest n l=shN rest m l
 | 0,0,l,_,_,_=>rfl
 | 0,m+1,l,h,h1,h2=>by
  have:=Ue (rest:=rest) h
  unfold shN
  rw [if_pos (by omega)]
 | n+1,0,l,h,h1,h2=>by
  have:=Ue (rest:=rest) h
  conv=>lhs;unfold shN
  rw [if_pos (by omega)]
  rfl
 | n+1,m+1,l,h,h1,h2=>by
  have:=Ue (rest:=rest) h
  conv=>lhs;unfold shN
  conv=>rhs;unfold shN
  split
  ·rfl
  ·exact zfq (zao h) (by omega) (by omega)
theorem zgB {l:List zl} {rest:Bool} (h:IV l):shF l rest=if (sh1 l rest).length=l.length then sh1 l rest else shF (sh1 l rest) rest:=by
 have:=Ue (rest:=rest) h
 unfold shF
 cases e:l.length with
 | zero =>
  rw [e] at this
  rw [if_pos (by omega)];rfl
 | succ n =>
  conv=>lhs;unfold shN
  rw [e]
  split
  ·rfl
  ·exact zfq (zao h) (by omega) (Nat.le_refl _)
theorem zeQ {l:List zl} {rest:Bool} (hl:l.length≤100000) (hv:IV l) {κ:List zl→Prop} (h:κ (shF l rest)):ZV l rest κ:=by
 unfold ZV
 refine ZK (fun (s:List zl)=>s.length≤100000∧IV s∧shF s rest=shF l rest) (fun s=>s.length) ?_ ⟨hl,hv,rfl⟩
 rintro xs next ⟨hx,hxv,he⟩ hn
 have w1:=zeo xs
 have w2:=zeX (zaH hxv)
 have w3:=Ue (rest:=rest) hxv
 refine zdH hx hxv (zaL (by omega) (zaH hxv) (zg9 (by omega) ?_))
 have hf:=zgB (rest:=rest) hxv
 refine zn (fun e=>?_) (fun e=>?_)
 ·have e':((sh1 xs rest).length:Int)=(xs.length:Int):=of_decide_eq_true e
  rw [if_pos (by omega)] at hf
  rw [← he,hf] at h;exact h
 ·have e':¬ ((sh1 xs rest).length:Int)=(xs.length:Int):=of_decide_eq_false e
  rw [if_neg (by omega)] at hf
  exact hn (sh1 xs rest) ⟨by omega,zao hxv,by rw [← hf];exact he⟩ (by omega)
noncomputable def cf (s:zM):Option (List zl):=(uf s).map (fun l=>shF l s.xAccept)
theorem zkr {s:zM} (h:SV s) {l:List zl} (he:cf s=some l):IV l∧l.length≤60:=by
 unfold cf at he
 cases e:uf s with
 | none=>rw [e] at he;cases he
 | some u =>
  rw [e] at he
  simp only [Option.map_some,Option.some.injEq] at he
  subst he
  obtain ⟨u1,u2⟩:=zij h e
  exact ⟨zjZ u1,Nat.le_trans (ziE u1) u2⟩
theorem zdf {s:zM} (hb:Bd s) {κ:List zl×Bool→Prop} (h1:SV s→∀ l,cf s=some l→κ (l,true)) (h2:(SV s→cf s=none)→κ ([],false)):uM s κ:=by
 unfold uM
 refine zah hb (fun b hbv=>zn (fun e=>h2 (fun q=>?_)) (fun e=>?_))
 ·rw [hbv.2 q] at e;cases e
 have hv:SV s:=hbv.1 (by simpa using e)
 refine zdN hv (fun l hl=>ju ?_) (fun hn l=>z7 (h2 (fun _=>by unfold cf;rw [hn];rfl)))
 obtain ⟨u1,u2⟩:=zij hv hl
 exact zeQ (by omega) u1 (h1 hv _ (by unfold cf;rw [hl];rfl))
end
section
open Go Go.Proofs
def zjE:Option (List za)→List zL×Bool
 | some l=>(l.map bx,true)
 | none=>([],false)
theorem zdZ {a:za} {bs:List za} (ha:B4 a) (hb:aB bs) (hl:bs.length≤100000) {κ:List zL×Bool→Prop} (h:κ (zjE (Yl a bs))):Xl (bx a) (bs.map bx) κ:=by
 unfold Xl
 have start:∀ l0:List za,Yl a bs=lgo l0 bs→aB l0→l0.length≤400→jk (fun (nx88:((List zL)×Int)→Prop) ((xs84,t87):((List zL)×Int))=>ifW (decide (t87<((bs.map bx).length:Int))) (jk (fun (nx97:((List zL)×Int)→Prop) ((xs93,t96):((List zL)×Int))=>ifW (decide (t96<(xs84.length:Int))) (zK xs84 t96 (fun e98=>zK (bs.map bx) t87 (fun e100=>yn e98 e100 (fun r112=>jG xs93 r112 (fun _=>jt t96 1 (fun t117=>nx97 ((xs93++r112),t117))))))) (jW xs93 (fun r118=>ifW (!r118) (κ ([],false)) (jt t87 1 (fun t122=>nx88 (xs93,t122)))))) ([],0)) (κ (xs84,true))) (l0.map bx,0):=by
  intro l0 h0 hB0 hl0
  refine zQ bs.length (fun s=>s.2) (fun k (s:List zL×Int)=>s.2=(k:Int)∧k≤bs.length∧∃ left,s.1=left.map bx∧aB left∧left.length≤400∧Yl a bs=lgo left (bs.drop k)) (fun k s h=>h.1) (fun k s h=>h.2.1) ?_ ⟨rfl,by omega,l0,rfl,hB0,hl0,h0⟩
  rintro k ⟨_,_⟩ next ⟨rfl,hk,left,hx,hB,hll,he⟩ hn
  simp only at hx
  subst hx
  refine zn (fun hc=>?_) (fun hc=>?_)
  rotate_left
  ·have hge:bs.length≤k:=by simpa using hc
   rw [he,List.drop_of_length_le hge] at h
   exact h
  have hlt:k<bs.length:=by simpa using hc
  rw [List.drop_eq_getElem_cons hlt] at he
  have hbk:=hb _ (List.getElem_mem hlt)
  refine zQ left.length (fun s=>s.2) (fun j (s:List zL×Int)=>s.2=(j:Int)∧j≤left.length∧s.1=(xz (left.take j) bs[k]).map bx) (fun k s h=>h.1) (fun k s h=>h.2.1) ?_ ⟨rfl,by omega,by simp [xz]⟩
  rintro j ⟨_,_⟩ next2 ⟨rfl,hj,hx⟩ hn2
  simp only at hx
  subst hx
  have hsl:=UQ (left.take j) bs[k]
  rw [List.length_take] at hsl
  refine zn (fun hc2=>?_) (fun hc2=>?_)
  ·have hjl:j<left.length:=by simpa using hc2
   refine zp j rfl (by simpa using hjl) (zp k rfl (by simpa using hlt) ?_)
   rw [List.getElem_map,List.getElem_map]
   have hcl:=VH left[j] bs[k]
   refine zcY (hB _ (List.getElem_mem hjl)) hbk (jm (by simp only [List.length_map];omega) (zz (by omega) (by omega) (hn2 hjl _ ⟨by simp,by omega,?_⟩)))
   rw [List.take_succ_eq_append_getElem hjl,ZJ,X7,List.map_append]
  ·have hjge:left.length≤j:=by simpa using hc2
   rw [List.take_of_length_le hjge] at hsl ⊢
   unfold lgo at he
   refine yy (Vr hB hbk) (by omega) (fun ok=>?_) (fun no=>?_)
   ·rw [if_pos ok] at he
    exact ju (zz (by omega) (by omega) (hn hlt _ ⟨by simp,by omega,xz left bs[k],rfl,Vr hB hbk,ok.2,he⟩))
   ·rw [if_neg no] at he
    rw [he] at h
    exact z7 h
 refine jL (Uk (zn (fun e=>?_) (fun e=>?_)))
 ·refine jm (by simp) (start [a] ?_ (fun c hc=>by rw [List.mem_singleton] at hc;subst hc;exact ha) (by simp))
  unfold Yl;rw [if_neg (by simpa using e)]
 ·refine start [] ?_ zeK (by simp)
  unfold Yl;rw [if_pos (by simpa using e),zez]
theorem UV {l:List zl} (hv:IV l) (hl:l.length≤60) {κ:List zL→Prop} (h:κ ((whs l).map bx)):Ze (l.map gf) κ:=by
 have hF:=zb8 hv hl
 unfold Ze
 refine uN hF.fb ?_
 refine zQ l.length (fun s=>s.2) (fun k (s:List zL×Int)=>s.2=(k:Int)∧k≤l.length∧s.1=(whs (l.take k)).map bx) (fun k s h=>h.1) (fun k s h=>h.2.1) ?_ ⟨rfl,by omega,rfl⟩
 rintro k ⟨_,_⟩ next ⟨rfl,hk,hx⟩ hn
 simp only at hx
 subst hx
 refine jL (zn (fun hc=>?_) (fun hc=>ju ?_))
 ·have hlt:k<l.length:=by simpa using hc
  refine ya hF.fb ?_
  rw [decide_eq_true hF]
  refine z7 (zp k rfl (by simpa using hlt) ?_)
  rw [List.getElem_map]
  refine jm (by simp [whs];omega) (zz (by omega) (by omega) (hn hlt _ ⟨by simp,by omega,?_⟩))
  simp only [whs,List.take_succ_eq_append_getElem hlt,List.map_append]
  rfl
 ·have hge:l.length≤k:=by simpa using hc
  rw [List.take_of_length_le hge];exact h
theorem zg0 {l:List zl} (hv:IV l) (hl:l.length≤60) {k:Nat} (hk:k<l.length) {κ:Bool→Prop} (h:κ (dd l k)):Yh (l.map gf) k κ:=by
 unfold Yh
 refine zp k rfl (by simpa using hk) ?_
 rw [List.getElem_map]
 refine ⟨by omega,by omega,by simp;omega,?_⟩
 have e:((l.map gf).take (k:Int).toNat).drop (0:Int).toNat=(l.take k).map gf:=by simp [List.map_take]
 rw [e]
 refine UV (hv.take k) (by rw [List.length_take];omega) ?_
 have hk2:=hv _ (List.getElem_mem hk)
 refine zdZ hk2.1 (hv.take k).aB (by unfold whs;simp;omega) ?_
 have hd:=zjh hk
 unfold zg3 at hd
 cases hlr:Yl l[k].xWhere (whs (l.take k)) with
 | none =>
  rw [hlr] at hd
  have:dd l k=false:=by rw [hd];simp
  rw [this] at h
  exact jL (ju h)
 | some r =>
  rw [hlr] at hd
  refine jL (z7 ?_)
  have e2:decide (((r.map bx).length:Int)=0)=dd l k:=by
   rw [hd]
   refine decide_eq_decide.2 ⟨fun q=>?_,fun q=>?_⟩
   ·rw [List.length_eq_zero_iff.1 (show r.length=0 by simp only [List.length_map] at q;omega)]
   ·injection q with q;subst q;rfl
  rw [e2];exact h
theorem zfP {l:List zl} (hv:IV l) (hl:l.length≤60) {κ:List zE→Prop} (h:κ ((wdF l).map gf)):XP (l.map gf) κ:=by
 have hF:=zb8 hv hl
 unfold XP
 refine uN hF.fb ?_
 refine zQ l.length (fun s=>s.2.2) (fun k (s:List zE×List zE×Int)=>s.2.2=(k:Int)∧k≤l.length∧s.1=l.map gf∧s.2.1=(wdN l k).map gf) (fun k s h=>h.1) (fun k s h=>h.2.1) ?_ ⟨rfl,by omega,rfl,rfl⟩
 rintro k ⟨_,_,_⟩ next ⟨rfl,hk,hx,hy⟩ hn
 simp only at hx hy
 subst hx hy
 have hwl:=(zaY l k).1
 refine jL (zn (fun hc=>?_) (fun hc=>ju ?_))
 ·have hlt:k<l.length:=by simpa using hc
  refine ya hF.fb ?_
  rw [decide_eq_true hF]
  refine z7 (jL (zg0 hv hl hlt (zn (fun e=>?_) (fun e=>?_))))
  ·have hd:dd l k=false:=by simpa using e
   refine zp k rfl (by simpa using hlt) ?_
   rw [List.getElem_map]
   refine jm (by simp;omega) (zz (by omega) (by omega) (hn hlt _ ⟨by simp,by omega,rfl,?_⟩))
   rw [zik hlt hd,List.map_append];rfl
  ·have hd:dd l k=true:=by simpa using e
   refine zz (by omega) (by omega) (hn hlt _ ⟨by simp,by omega,rfl,?_⟩)
   rw [zgy hlt hd]
 ·have hge:l.length≤k:=by simpa using hc
  have:k=l.length:=by omega
  subst this
  exact h
theorem U3 {a b:za} (ha:B4 a∧F4 a) (hb:B4 b∧F4 b) {κ:Bool→Prop} (h:κ (in4 a b)):Zl (bx a) (bx b) κ:=by
 unfold Zl
 have va:BV (bx a):=zcM.2 ha
 have vb:BV (bx b):=zcM.2 hb
 refine jL (yK va.bb ?_)
 rw [decide_eq_true va]
 refine z7 (yK vb.bb ?_)
 rw [decide_eq_true vb]
 refine z7 (zcY ha.1 hb.1 ?_)
 have e:decide ((((XE a b).map bx).length:Int)=0)=in4 a b:=by
  have:=zgK ha.1 hb.1
  cases hi:in4 a b with
  | true=>rw [this.2 hi];rfl
  | false =>
   refine decide_eq_false (fun q=>?_)
   have:XE a b=[]:=List.length_eq_zero_iff.1 (by simp only [List.length_map] at q;omega)
   rw [(zgK ha.1 hb.1).1 this] at hi;cases hi
 rw [e];exact h
theorem zg2 {a b:List ze} (hl:a.length≤4294967296) {κ:Bool→Prop} (h:κ (decide (a=b))):Yz a b κ:=by
 unfold Yz
 by_cases hab:a.length=b.length
 ·refine zn (fun e=>by simp [hab] at e) (fun _=>?_)
  exact zeV a b hab hl (fun x y A=>ifW (!(decide (x=y))) (κ false) A) (fun x y A h1 h2=>zn (fun e=>h2 (by simpa using e)) (fun e=>h1 (by simpa using e))) h _ (fun nx t hh=>hh)
 ·rw [decide_eq_false (fun q=>hab (by rw [q]))] at h
  exact zn (fun _=>h) (fun e=>by simp at e;omega)
theorem zaS {a b:List ze} {tp:Int} (h0:0≤tp) (h1:tp≤65535) (ha:SpV a tp) (hb:SpV b tp) {κ:List ze→Prop} (h:κ (if (Xb a b).length≤40 then Xb a b else [])):Z2 a b tp κ:=by
 unfold Z2
 have la:=ha.1
 have lb:=hb.1
 refine jL (YB (by omega) h0 h1 ?_)
 rw [decide_eq_true ha]
 refine ju (YB (by omega) h0 h1 ?_)
 rw [decide_eq_true hb]
 refine ju (jm (by simp;omega) ?_)
 have stp:∀ k,St ((b.take k).foldl zaO a) tp:=fun k=>zbO ha.2 ⟨⟨fun s hs=>hb.2.1.1 s (List.mem_of_mem_take hs),hb.2.1.2.sublist (List.take_sublist _ _)⟩,fun s hs=>hb.2.2 s (List.mem_of_mem_take hs)⟩
 refine zQ b.length (fun s=>s.2) (fun k (s:List ze×Int)=>s.2=(k:Int)∧k≤b.length∧s.1=(b.take k).foldl zaO a) (fun k s h=>h.1) (fun k s h=>h.2.1) ?_ ⟨rfl,by omega,by simp⟩
 rintro k ⟨_,_⟩ next ⟨rfl,hk,hx⟩ hn
 simp only at hx
 subst hx
 have hln:=zb5 (b.take k) a
 rw [List.length_take] at hln
 refine zn (fun hc=>?_) (fun hc=>?_)
 ·have hlt:k<b.length:=by simpa using hc
  have hs:=hb.2.2 _ (List.getElem_mem hlt)
  have hs2:=hb.2.1.1 _ (List.getElem_mem hlt)
  refine zp k rfl hlt (zi5 (by omega) (fun s hs'=>?_) ?_ (zz (by omega) (by omega) (hn hlt _ ⟨by simp,by omega,?_⟩)))
  ·have q1:=(stp k).2 s hs'
   have q2:=(stp k).1.1 s hs'
   unfold Sm;omega
  ·unfold Sm;omega
  ·rw [List.take_succ_eq_append_getElem hlt,List.foldl_append];rfl
 ·have hge:b.length≤k:=by simpa using hc
  rw [List.take_of_length_le hge]
  refine zn (fun e=>?_) (fun e=>?_)
  ·have:¬ (Xb a b).length≤40:=by have:=of_decide_eq_true e;unfold Xb;omega
   rw [if_neg this] at h;exact h
  ·have:(Xb a b).length≤40:=by have:=of_decide_eq_false e;unfold Xb;omega
   rw [if_pos this] at h;exact h
def msp:Option za→zL×Bool
 | some x=>(bx x,true)
 | none=>(⟨[]⟩,false)
theorem ziz {a b:za} (h:∀ n:Nat,n<4→ul a n=ul b n):a=b:=by
 have h0:a.x0=b.x0:=h 0 (by decide)
 have h1:a.x1=b.x1:=h 1 (by decide)
 have h2:a.x2=b.x2:=h 2 (by decide)
 have h3:a.x3=b.x3:=h 3 (by decide)
 obtain ⟨a0,a1,a2,a3⟩:=a
 obtain ⟨b0,b1,b2,b3⟩:=b
 simp only at h0 h1 h2 h3
 subst h0 h1 h2 h3
 rfl
theorem zjc {a b:za} (ha:B4 a) (h:in4 a b=false):zbd a b≠[]:=fun e=>by
 have:a=b:=ziz (fun n hn=>by
  by_cases q:ul a n=ul b n
  ·exact q
  ·have:n∈zbd a b:=List.mem_filter.2 ⟨by simpa using hn,by simpa using q⟩
   rw [e] at this;simp at this)
 subst this
 rw [zh6 ha] at h;cases h
theorem zka {a b:za} {tp:Int} {n:Nat} (ha:St (ul a n) tp) (hb:St (ul b n) tp) (h:ul a n≠ul b n):uni a b n≠[]:=fun e=>by
 have hh:=fun x=>zb2 ha hb x
 unfold uni at e
 rw [e] at hh
 have na:ul a n=[]:=by
  cases q:ul a n with
  | nil=>rfl
  | cons s r =>
   have:=(Uv ha.1 (show s∈ul a n by rw [q];simp)).1
   exact absurd ((hh _).2 (.inl this)) (yv _)
 have nb:ul b n=[]:=by
  cases q:ul b n with
  | nil=>rfl
  | cons s r =>
   have:=(Uv hb.1 (show s∈ul b n by rw [q];simp)).1
   exact absurd ((hh _).2 (.inr this)) (yv _)
 exact h (by rw [na,nb])
theorem zbs {a b:za} (ha:B4 a∧F4 a) (hb:B4 b∧F4 b) {κ:zL×Bool→Prop} (h:κ (msp (mg a b))):yN (bx a) (bx b) κ:=by
 unfold yN
 unfold mg at h
 have va:BV (bx a):=zcM.2 ha
 have vb:BV (bx b):=zcM.2 hb
 refine jL (yK va.bb ?_)
 rw [decide_eq_true va]
 refine ju (yK vb.bb ?_)
 rw [decide_eq_true vb]
 refine ju (U3 ha hb (zn (fun e=>?_) (fun e=>U3 hb ha (zn (fun e2=>?_) (fun e2=>?_)))))
 ·rw [if_pos e] at h;exact zaA vb.bb h
 ·rw [if_neg (by simp [e]),if_pos e2] at h;exact zaA va.bb h
 rw [if_neg (by simp [e]),if_neg (by simp [e2])] at h
 have hne:=zjc ha.1 e
 have two:∀ {k:Nat},k<4→Up a b k≠[]→ul a k≠ul b k→κ (⟨[]⟩,false):=fun {k} hk q1 q2=>by
  have hm:zbd a b=Up a b 4:=rfl
  have:2≤(zbd a b).length:=by
   have h1:(Up a b (k+1)).length≤(zbd a b).length:=by
    rw [hm];unfold Up
    exact (List.Sublist.filter _ (List.range_sublist.2 (by omega))).length_le
   rw [X6,if_pos q2,List.length_append] at h1
   have:=List.length_pos_iff.2 q1
   simp at h1;omega
  split at h
  ·rename_i n hn;rw [hn] at this;simp at this
  ·exact h
 refine zQ 4 (fun s=>s.2) (fun k (s:Int×Int)=>s.2=(k:Int)∧k≤4∧((Up a b k=[]∧s.1=-1)∨∃ n:Nat,Up a b k=[n]∧s.1=n)) (fun k s h=>h.1) (fun k s h=>h.2.1) ?_ ⟨rfl,by omega,.inl ⟨rfl,rfl⟩⟩
 rintro k ⟨f,_⟩ next ⟨rfl,hk,hf⟩ hn
 simp only at hf
 refine zn (fun hc=>?_) (fun hc=>?_)
 ·have hlt:k<4:=by
   have:(k:Int)<4:=of_decide_eq_true hc
   omega
  have k0:(0:Int)≤k:=by omega
  have k3:(k:Int)≤3:=by omega
  refine jL (yE (a:=a) k0 k3 (yE (a:=b) k0 k3 (zg2 (by have:=zfJ.1 ha.2 k k0 k3;omega) (zn (fun e=>?_) (fun e=>?_)))))
  ·have hd:ul a k≠ul b k:=by simpa using e
   rcases hf with ⟨q1,rfl⟩ | ⟨n,q1,rfl⟩
   ·refine zn (fun e=>by simp at e) (fun _=>zz (by omega) (by omega) (hn hlt _ ⟨by simp,by omega,.inr ⟨k,?_,rfl⟩⟩))
    rw [X6,if_pos hd,q1];rfl
   ·exact zn (fun _=>two hlt (by rw [q1];simp) hd) (fun e=>by simp at e)
  ·have hd:¬ ul a k≠ul b k:=by simpa using e
   refine zz (by omega) (by omega) (hn hlt _ ⟨by simp,by omega,?_⟩)
   rw [X6,if_neg hd,List.append_nil];exact hf
 ·have hge:k=4:=by
   have:¬ (k:Int)<4:=of_decide_eq_false hc
   omega
  subst hge
  have ed:Up a b 4=zbd a b:=rfl
  rw [ed] at hf
  rcases hf with ⟨q1,_⟩ | ⟨n,q1,rfl⟩
  ·exact absurd q1 hne
  rw [q1] at h
  obtain ⟨h4,hd⟩:=zeB q1
  have k0:(0:Int)≤n:=by omega
  have k3:(n:Int)≤3:=by omega
  have tl:=VW n
  have sa:=Yt ha.1 k0 k3
  have sb:=Yt hb.1 k0 k3
  have spa:SpV (ul a n) (top n):=⟨zfJ.1 ha.2 _ k0 k3,sa⟩
  have spb:SpV (ul b n) (top n):=⟨zfJ.1 hb.2 _ k0 k3,sb⟩
  refine ye (l:=L4 a) (by simp [L4]) (zaG ha.1) (yE (a:=a) k0 k3 (yE (a:=b) k0 k3 (xA k0 k3 (zaS (by omega) (by omega) spa spb (yE (a:=a) k0 k3 ?_)))))
  have hset:∀ x,(L4 a).set ((n:Int)).toNat x=L4 (Yf a n x):=fun x=>Uw k0 k3
  have hget:∀ x,ul (Yf a n x) n=x:=fun x=>by rcases zcP k0 k3 with q | q | q | q <;> rw [q] <;> rfl
  simp only at h
  by_cases hl:(uni a b n).length≤40
  ·rw [if_pos hl] at h
   have hl':(Xb (ul a n) (ul b n)).length≤40:=hl
   rw [if_pos hl',hset]
   refine yE (a:=Yf a n (Xb (ul a n) (ul b n))) k0 k3 ?_
   rw [hget]
   refine zn (fun e=>?_) (fun _=>h)
   have:=of_decide_eq_true e
   exact absurd (List.length_eq_zero_iff.1 (show (uni a b n).length=0 by unfold uni;omega)) (zka sa sb hd)
  ·rw [if_neg hl] at h
   have hl':¬ (Xb (ul a n) (ul b n)).length≤40:=hl
   rw [if_neg hl',hset]
   refine yE (a:=Yf a n []) k0 k3 ?_
   rw [hget]
   exact z7 h
def ppr:Option (Nat×zl)→Int×zE
 | some (k,z)=>(k,gf z)
 | none=>(-1,⟨⟨[]⟩,false⟩)
theorem zgQ {l:List zl} (hv:IV l) (hl:l.length≤60) {κ:Int×zE→Prop} (h:κ (ppr (fp l))):Yu (l.map gf) κ:=by
 unfold Yu
 refine zQ (l.length+1) (fun s=>s) (fun k s=>s=(k:Int)∧k≤l.length+1∧∀ j,j<k→pmA l j=none) (fun k s h=>h.1) (fun k s h=>h.2.1) ?_ ⟨rfl,by omega,fun j hj=>by omega⟩
 rintro k _ next ⟨rfl,hk,hno⟩ hn
 refine zz (by omega) (by omega) (zn (fun hc=>?_) (fun hc=>?_))
 ·have hlt:k+1<l.length:=by have:=of_decide_eq_true hc;simp only [List.length_map] at this;omega
  have hpm:=zeE hlt
  have w64e:w64 ((k:Int)+1)=((k+1:Nat):Int):=by rw [zin (by omega) (by omega)];omega
  have stepNo:pmA l k=none→jt (k:Int) 1 (fun t110=>next t110):=fun q=>zz (by omega) (by omega) (hn (by omega) _ ⟨by simp,by omega,fun j hj=>by
   by_cases e:j=k
   ·subst e;exact q
   ·exact hno j (by omega)⟩)
  have ix:∀ (m:Nat) (hm:m<l.length) (K:zE→Prop),K (gf l[m])→zK (l.map gf) (m:Int) K:=fun m hm K hK=>zp m rfl (by simpa using hm) (by rw [List.getElem_map];exact hK)
  refine jL (ix k (by omega) _ ?_)
  rw [w64e]
  refine ix (k+1) hlt _ (zbs (hv _ (List.getElem_mem (by omega))) (hv _ (List.getElem_mem hlt)) ?_)
  unfold pm at hpm
  cases em:mg l[k].xWhere l[k+1].xWhere with
  | none =>
   rw [em] at hpm
   refine jL (ju (ju (stepNo ?_)))
   rw [hpm];split <;> rfl
  | some w =>
   rw [em] at hpm
   refine jL (z7 (ix k (by omega) _ (zz (by omega) (by omega) ?_)))
   have e1:(k:Int)+1=((k+1:Nat):Int):=by omega
   rw [e1]
   refine ix (k+1) hlt _ (zn (fun e=>?_) (fun e=>?_))
   ·have ea:l[k].xAccept=l[k+1].xAccept:=of_decide_eq_true e
    rw [if_pos ea] at hpm
    rw [zcx hno hpm] at h
    exact ix k (by omega) _ h
   ·have ea:¬ l[k].xAccept=l[k+1].xAccept:=of_decide_eq_false e
    rw [if_neg ea] at hpm
    exact stepNo hpm
 ·have hge:l.length≤k+1:=by have:=of_decide_eq_false hc;simp only [List.length_map] at this;omega
  rw [zgk (fun j=>by
   by_cases e:j<k
   ·exact hno j e
   ·exact zhM (by omega))] at h
  exact h
theorem zi7 {l:List zl} {k:Nat} {z:zl} (h:fp l=some (k,z)):pmA l k=some z∧∀ j,j<k→pmA l j=none:=by
 have:∀ n,fpN l n=some (k,z)→pmA l k=some z∧∀ j,j<k→pmA l j=none:=by
  intro n
  induction n with
  | zero=>intro q;cases q
  | succ n ih =>
   intro q
   unfold fpN at q
   cases e2:fpN l n with
   | some r=>rw [e2] at q;simp only [Option.some.injEq] at q;subst q;exact ih e2
   | none =>
    rw [e2] at q
    cases e3:pmA l n with
    | none=>rw [e3] at q;cases q
    | some z' =>
     rw [e3] at q
     simp only [Option.map_some,Option.some.injEq,Prod.mk.injEq] at q
     obtain ⟨rfl,rfl⟩:=q
     refine ⟨e3,fun j hj=>?_⟩
     have key:∀ m,fpN l m=none→∀ j,j<m→pmA l j=none:=by
      intro m
      induction m with
      | zero=>intro _ j hj;omega
      | succ m ih2 =>
       intro q j hj
       unfold fpN at q
       cases e4:fpN l m with
       | some r=>rw [e4] at q;cases q
       | none =>
        rw [e4] at q
        cases e5:pmA l m with
        | some z5=>rw [e5] at q;cases q
        | none =>
         by_cases e6:j=m
         ·subst e6;exact e5
         ·exact ih2 e4 j (by omega)
     exact key _ e2 j hj
 exact this _ h
theorem zkv {l:List zl} (h:fp l=none):∀ j,pmA l j=none:=fun j=>by
 cases e:pmA l j with
 | none=>rfl
 | some z =>
  exfalso
  have:∀ n,n≤j→(∀ i,i<n→pmA l i=none)∨∃ i z,i<n∧pmA l i=some z∧∀ m,m<i→pmA l m=none:=by
   intro n
   induction n with
   | zero=>intro _;exact .inl (fun i hi=>by omega)
   | succ n ih =>
    intro hn
    rcases ih (by omega) with q | ⟨i,z,q1,q2,q3⟩
    ·cases e2:pmA l n with
     | none=>exact .inl (fun i hi=>by
       by_cases e3:i=n
       ·subst e3;exact e2
       ·exact q i (by omega))
     | some z2=>exact .inr ⟨n,z2,by omega,e2,q⟩
    ·exact .inr ⟨i,z,by omega,q2,q3⟩
  rcases this j (Nat.le_refl _) with q | ⟨i,z2,q1,q2,q3⟩
  ·rw [zcx q e] at h;cases h
  ·rw [zcx q3 q2] at h;cases h
theorem ze0 {l:List zl} (hv:IV l) (hl:l.length≤60) {κ:List zE→Prop} (h:κ ((mgF l).map gf)):ZT (l.map gf) κ:=by
 have hF:=zb8 hv hl
 unfold ZT
 refine uN hF.fb (ya hF.fb ?_)
 rw [decide_eq_true hF]
 refine ju (jm (by simp;omega) ?_)
 refine ZK (fun (s:List zE)=>∃ xs:List zl,s=xs.map gf∧xs.length≤60∧IV xs∧mgF xs=mgF l) (fun s=>s.length) ?_ ⟨l,by simp,hl,hv,rfl⟩
 rintro _ next ⟨xs,rfl,hxl,hxv,he⟩ hn
 refine zgQ hxv hxl ?_
 cases hfp:fp xs with
 | none =>
  rw [← he,zfc (zkv hfp)] at h
  exact z7 h
 | some kz =>
  obtain ⟨k,z⟩:=kz
  obtain ⟨p1,p2⟩:=zi7 hfp
  have hk:=zb1 p1
  have hml:=zab (z:=z) hk
  refine zn (fun e=>by have:(k:Int)<0:=of_decide_eq_true e;omega) (fun _=>zz (by omega) (by omega) ⟨by omega,by simp only [List.length_map];omega,by omega,?_⟩)
  have e1:((xs.map gf).take ((xs.map gf).length:Int).toNat).drop ((k:Int)+2).toNat=(xs.drop (k+2)).map gf:=by
   rw [Int.toNat_natCast,List.take_length,show ((k:Int)+2).toNat=k+2 by omega,List.map_drop]
  have e2:((xs.map gf).take ((k:Int)).toNat).drop (0:Int).toNat=(xs.take k).map gf:=by
   rw [Int.toNat_natCast];simp [List.map_take]
  rw [e1]
  refine jm (by simp;omega) (jL ⟨by omega,by omega,by simp only [List.length_map];omega,?_⟩)
  show jG [] (((xs.map gf).take ((k:Int)).toNat).drop (0:Int).toNat) _
  rw [e2]
  refine jm (by simp;omega) (jm (by simp;omega) (jm (by simp;omega) (hn _ ⟨UW xs k z,?_,by omega,zdn hxv p1,?_⟩ ?_)))
  ·unfold UW
   simp only [List.nil_append,List.map_append,List.map_cons,List.map_nil]
  ·rw [← zfv p2 p1];exact he
  ·simp;omega
theorem zf5 {l:List zl} {rest:Bool} (hv:IV l) (hl:l.length≤60) {κ:List zE→Prop} (h:κ ((trF l rest).map gf)):XX (l.map gf) rest κ:=by
 have hF:=zb8 hv hl
 unfold XX
 refine uN hF.fb (ya hF.fb ?_)
 rw [decide_eq_true hF]
 refine ju ?_
 refine ZK (fun (s:Int)=>∃ n:Nat,s=(n:Int)∧n≤l.length∧trN l rest l.length=trN l rest n) (fun s=>s.toNat) ?_ ⟨l.length,by simp,Nat.le_refl _,rfl⟩
 rintro _ next ⟨n,rfl,hn',he⟩ hnx
 have fin:trN l rest n=n→yG (l.map gf) 0 (n:Int) (fun xs84=>jG ([]) xs84 (fun _=>κ (([])++xs84))):=fun q=>by
  refine ⟨by omega,by omega,by simp;omega,?_⟩
  unfold trF at h
  rw [he,q] at h
  have e:((l.map gf).take (n:Int).toNat).drop (0:Int).toNat=(l.take n).map gf:=by simp [List.map_take]
  rw [e]
  exact jm (by simp;omega) h
 refine jL (zn (fun e=>?_) (fun e=>ju (fin ?_)))
 ·have hpos:0<n:=by have:=of_decide_eq_true e;omega
  obtain ⟨m,rfl⟩:∃ m,n=m+1:=⟨n - 1,by omega⟩
  have hlt:m<l.length:=by omega
  have em:((m+1:Nat):Int) - 1=(m:Int):=by omega
  refine Z3 (by omega) (by omega) ?_
  rw [em]
  refine zp m rfl (by simpa using hlt) ?_
  rw [List.getElem_map]
  refine zn (fun e2=>?_) (fun e2=>fin ?_)
  ·have e2':l[m].xAccept=rest:=of_decide_eq_true e2
   refine Z3 (by omega) (by omega) (hnx _ ⟨m,by omega,by omega,?_⟩ (by omega))
   rw [he]
   conv=>lhs;unfold trN
   rw [List.getElem?_eq_getElem hlt]
   simp [e2']
  ·have e2':¬ l[m].xAccept=rest:=of_decide_eq_false e2
   unfold trN
   rw [List.getElem?_eq_getElem hlt]
   simp [e2']
 ·have:n=0:=by have:=of_decide_eq_false e;omega
  subst this;rfl
theorem zhf {l:List zl} {rest:Bool} (hv:IV l) (hl:l.length≤60) {κ:List zE→Prop} (h:κ ((shF l rest).map gf)):Yv (l.map gf) rest κ:=by
 have hF:=zb8 hv hl
 unfold Yv
 refine uN hF.fb (ya hF.fb ?_)
 rw [decide_eq_true hF]
 refine ju (jm (by simp;omega) ?_)
 refine ZK (fun (s:List zE)=>∃ xs:List zl,s=xs.map gf∧xs.length≤60∧IV xs∧shF xs rest=shF l rest) (fun s=>s.length) ?_ ⟨l,by simp,hl,hv,rfl⟩
 rintro _ next ⟨xs,rfl,hx,hxv,he⟩ hn
 have w1:=zeo xs
 have w2:=zeX (zaH hxv)
 have w3:=Ue (rest:=rest) hxv
 refine zfP hxv hx (ze0 (zaH hxv) (by omega) (zf5 (zhE (zaH hxv)) (by omega) ?_))
 have hf:=zgB (rest:=rest) hxv
 refine zn (fun e=>?_) (fun e=>?_)
 ·have e':(sh1 xs rest).length=xs.length:=by
   have:=of_decide_eq_true e
   simp only [List.length_map] at this
   have:((sh1 xs rest).length:Int)=(xs.length:Int):=this
   omega
  rw [if_pos e'] at hf
  rw [← he,hf] at h;exact h
 ·have e':¬ (sh1 xs rest).length=xs.length:=by
   have:=of_decide_eq_false e
   simp only [List.length_map] at this
   have:¬ ((sh1 xs rest).length:Int)=(xs.length:Int):=this
   omega
  rw [if_neg e'] at hf
  exact hn ((sh1 xs rest).map gf) ⟨sh1 xs rest,rfl,by omega,zao hxv,by rw [← hf];exact he⟩ (by simp only [List.length_map];omega)
theorem zcA {s:zM} (hb:Bd s) {κ:List zE×Bool→Prop} (h1:SV s→∀ l,cf s=some l→κ (l.map gf,true)) (h2:(SV s→cf s=none)→κ ([],false)):Zk s κ:=by
 unfold Zk
 refine VN hb (zdJ hb (fun hv l hl=>ju ?_) (fun q=>z7 (h2 (fun hv=>by unfold cf;rw [q hv];rfl))))
 obtain ⟨u1,u2⟩:=zij hv hl
 exact zhf u1 u2 (h1 hv _ (by unfold cf;rw [hl];rfl))
end
section
def Sx1 (l:List ze):Prop:=l.length≤1048576
def Sx2 (l:List (List ze)):Prop:=l.length≤1048576∧∀ x,x∈l→Sx1 x
def Sx3 (f:zE):Prop:=Sx2 f.xWhere.xSides
def Sx4 (l:List zE):Prop:=l.length≤1048576∧∀ f,f∈l→Sx3 f
theorem Sx4.fb {l:List zE} (h:Sx4 l):Fb l:=⟨by have:=h.1;omega,fun f hf=>⟨by have:=(h.2 f hf).1;omega,fun x hx=>by have:x.length≤1048576:=(h.2 f hf).2 x hx;omega⟩⟩
theorem BV.sx {b:zL} (h:BV b):Sx2 b.xSides:=by
 obtain ⟨a,rfl,_,f0,f1,f2,f3⟩:=h
 refine ⟨by simp [bx],fun x hx=>?_⟩
 simp only [bx,List.mem_cons,List.not_mem_nil,or_false] at hx
 unfold Sx1
 rcases hx with rfl | rfl | rfl | rfl <;> omega
theorem FV.sx {l:List zE} (h:FV l):Sx4 l:=⟨by have:=h.1;omega,fun f hf=>(h.2 f hf).sx⟩
end
section
open Go Go.Proofs
def itm (l:List zl) (rest:Bool) (k:Nat):zl:=match l[k]? with | some f=>f | none=>⟨UO,rest⟩
def lvN (l:List zl) (rest:Bool):Nat→Option (List zl)
 | 0=>some []
 | k+1=>match lvN l rest k with
  | none=>none
  | some out=>match Yl (itm l rest k).xWhere (whs (l.take k)) with
   | none=>none
   | some lv=>if (out++dec lv (itm l rest k).xAccept).length≤400 then some (out++dec lv (itm l rest k).xAccept) else none
def pt (l:List zl) (rest:Bool):Option (List zl):=lvN l rest (l.length+1)
def acs (out:List zl) (a:Bool):List za:=(out.filter (fun f=>decide (f.xAccept=a))).map (·.xWhere)
theorem zgv {l:List zl} {rest:Bool} {k:Nat} (h:k<l.length):itm l rest k=l[k]:=by
 unfold itm;rw [List.getElem?_eq_getElem h]
theorem zgl (l:List zl) (rest:Bool):itm l rest l.length=⟨UO,rest⟩:=by
 unfold itm;rw [List.getElem?_eq_none (Nat.le_refl _)]
theorem zaV:B4 UO∧F4 UO:=⟨zcw,zex (fun f h0 h1=>by have:=zcv f h0 h1;omega)⟩
theorem zhA {l:List zl} (hv:IV l) (rest:Bool) (k:Nat):B4 (itm l rest k).xWhere∧F4 (itm l rest k).xWhere:=by
 unfold itm
 cases h:l[k]? with
 | none=>exact zaV
 | some f=>exact hv f (List.mem_of_getElem? h)
theorem zfs {l:List zl} {rest:Bool} {k:Nat} (h:lvN l rest k=none):∀ n,lvN l rest (k+n)=none
 | 0=>h
 | n+1=>by
  rw [← Nat.add_assoc]
  unfold lvN
  rw [zfs h n]
theorem zh7 {l:List zl} {rest:Bool} {k n:Nat} (h:lvN l rest k=none) (hk:k≤n):lvN l rest n=none:=by
 obtain ⟨m,rfl⟩:=Nat.exists_eq_add_of_le hk
 exact zfs h m
theorem zeq {l:List zl} {rest:Bool} (hv:IV l):∀ {k:Nat} {out:List zl},lvN l rest k=some out→IV out∧out.length≤400
 | 0,out,h=>by
  simp only [lvN,Option.some.injEq] at h;subst h
  exact ⟨zeT,by simp⟩
 | k+1,out,h=>by
  unfold lvN at h
  split at h
  ·cases h
  ·rename_i o ho
   split at h
   ·cases h
   ·rename_i lv hl
    split at h
    ·rename_i q
     injection h with h;subst h
     have ih:=zeq hv ho
     have hi:=zhA hv rest k
     have:=zbx hi.1 hi.2 (hv.take k).aB hl
     exact ⟨zeI ih.1 (zer this.1 this.2.1),q⟩
    ·cases h
theorem ze2 (x y:List zl) (a:Bool):acs (x++y) a=acs x a++acs y a:=by simp [acs]
theorem zeC (l:List za) (b a:Bool):acs (dec l b) a=if b=a then l else []:=by
 unfold acs dec
 split
 ·rename_i e
  rw [List.filter_eq_self.2 (fun f hf=>by obtain ⟨c,_,rfl⟩:=List.mem_map.1 hf;simpa using e),List.map_map]
  exact List.map_id' l
 ·rename_i e
  rw [List.filter_eq_nil_iff.2 (fun f hf=>by obtain ⟨c,_,rfl⟩:=List.mem_map.1 hf;simpa using e)]
  rfl
theorem zi4 (x:List zl):(acs x true).length+(acs x false).length=x.length:=by
 induction x with
 | nil=>rfl
 | cons f x ih =>
  unfold acs at ih ⊢
  cases h:f.xAccept <;> simp [h] at ih ⊢ <;> omega
theorem zc0 (x:List zl) (a:Bool):(acs x a).length≤x.length:=by
 unfold acs;rw [List.length_map];exact List.length_filter_le _ _
theorem zgn {x:List zl} (h:IV x) (a:Bool):aB (acs x a):=fun c hc=>by
 obtain ⟨f,hf,rfl⟩:=List.mem_map.1 hc
 exact (h f (List.mem_filter.1 hf).1).1
theorem zfw {l:List zl} {rest:Bool} (hv:IV l) {out:List zl} (h:pt l rest=some out):IV out∧out.length≤400:=zeq hv h
def tF (d:za) (as:List za):List za:=as.flatMap (fun c=>if em4 (xl d c) then [] else [xl d c])
def opF (ds as:List za):List za:=ds.flatMap (fun d=>tF d as)
theorem zc5 (d:za) (l m:List za):tF d (l++m)=tF d l++tF d m:=by simp [tF]
theorem zeu (d c:za):tF d [c]=if em4 (xl d c) then [] else [xl d c]:=by simp [tF]
theorem zhu (d:za) (as:List za):(tF d as).length≤as.length:=by
 induction as with
 | nil=>simp [tF]
 | cons b bs ih =>
  rw [show b :: bs=[b]++bs from rfl,zc5,zeu,List.length_append,List.length_append]
  have:(if em4 (xl d b)=true then [] else [xl d b]:List za).length≤1:=by split <;> simp
  simp only [List.length_singleton];omega
theorem V4 (l m as:List za):opF (l++m) as=opF l as++opF m as:=by simp [opF]
theorem zbq (d:za) (as:List za):opF [d] as=tF d as:=by simp [opF]
theorem ziK (ds as:List za):(opF ds as).length≤ds.length * as.length:=by
 induction ds with
 | nil=>simp [opF]
 | cons b bs ih =>
  rw [show b :: bs=[b]++bs from rfl,V4,zbq,List.length_append,List.length_append]
  have:=zhu b as
  rw [List.length_singleton,Nat.add_mul];omega
theorem ziM {ds as:List za} {c:za}:c∈opF ds as↔∃ d∈ds,∃ e∈as,em4 (xl d e)=false∧c=xl d e:=by
 unfold opF tF
 simp only [List.mem_flatMap]
 constructor
 ·rintro ⟨d,hd,e,he,h⟩
  split at h
  ·simp at h
  ·rename_i q
   exact ⟨d,hd,e,he,by simpa using q,by simpa using h⟩
 ·rintro ⟨d,hd,e,he,q,rfl⟩
  exact ⟨d,hd,e,he,by rw [if_neg (by simp [q])];simp⟩
theorem zkt {ds as:List za} (h1:aB ds) (h2:aB as):aB (opF ds as):=fun c hc=>by
 obtain ⟨d,hd,e,he,_,rfl⟩:=ziM.1 hc
 exact zcV (h1 d hd) (h2 e he)
def opn (a:List zl) (ra:Bool) (b:List zl) (rb:Bool):Option (List za) :=
 match pt a ra,pt b rb with
 | some x,some y=>if okR (opF (acs x false) (acs y true)) then some (opF (acs x false) (acs y true)) else none
 | _,_=>none
def zk3:Option (List zl)→yV×Bool
 | some out=>(⟨acs out true,acs out false⟩,true)
 | none=>(⟨[],[]⟩,false)
theorem zjk {out:List zl} {lv:List za} {acc:Bool} (h1:out.length≤100000) (h2:lv.length≤100000) {κ:Bool×List za×List za→Prop} (h:κ (decide ((out++dec lv acc).length≤400),acs (out++dec lv acc) true,acs (out++dec lv acc) false)):u6 (acs out true) (acs out false) lv acc κ:=by
 unfold u6
 have hl:=zi4 out
 have hd:=zbz lv acc
 rw [ze2,ze2,zeC,zeC,List.length_append,hd] at h
 refine jL (zn (fun e=>?_) (fun e=>?_))
 ·subst e
  refine jm (by omega) (zz (by omega) (by rw [List.length_append];omega) ?_)
  rw [show decide ((((acs out true++lv).length:Nat):Int)+((acs out false).length:Int)≤400)=decide (out.length+lv.length≤400) from decide_eq_decide.2 (by rw [List.length_append];omega)]
  simpa using h
 ·subst e
  refine jm (by omega) (zz (by omega) (by rw [List.length_append];omega) ?_)
  rw [show decide (((acs out true).length:Int)+(((acs out false++lv).length:Nat):Int)≤400)=decide (out.length+lv.length≤400) from decide_eq_decide.2 (by rw [List.length_append];omega)]
  simpa using h
theorem ze9 {l:List zl} {rest:Bool} {k:Nat} {out:List zl} (h:lvN l rest k=some out):lvN l rest (k+1)=match Yl (itm l rest k).xWhere (whs (l.take k)) with | none=>none | some lv=>if (out++dec lv (itm l rest k).xAccept).length≤400 then some (out++dec lv (itm l rest k).xAccept) else none:=by
 conv=>lhs;unfold lvN
 rw [h]
theorem zdX {l:List zl} {rest:Bool} (hl:l.length≤100000) (hv:IV l) {κ:yV×Bool→Prop} (h:κ (zk3 (pt l rest))):Z8 l rest κ:=by
 unfold Z8
 have no:∀ {k},k≤l.length+1→lvN l rest k=none→κ (⟨[],[]⟩,false):=fun hk q=>by
  unfold pt at h;rw [zh7 q hk] at h;exact h
 refine zQ l.length (fun s=>s.2.2) (fun k (s:List za×List za×Int)=>s.2.2=(k:Int)∧k≤l.length∧∃ out,lvN l rest k=some out∧s.1=acs out true∧s.2.1=acs out false) (fun k s h=>h.1) (fun k s h=>h.2.1) ?_ ⟨rfl,by omega,[],rfl,rfl,rfl⟩
 rintro k ⟨_,_,_⟩ next ⟨rfl,hk,out,ho,hx,hy⟩ hn
 simp only at hx hy
 subst hx hy
 have hok:=zeq hv ho
 have hst:=ze9 ho
 refine zn (fun hc=>?_) (fun hc=>?_)
 ·have hlt:k<l.length:=by simpa using hc
  rw [zgv hlt] at hst
  have hk2:=hv _ (List.getElem_mem hlt)
  refine zp k rfl hlt (zfo hl hv hlt ?_)
  unfold zg3
  cases hlr:Yl l[k].xWhere (whs (l.take k)) with
  | none =>
   rw [hlr] at hst
   exact jL (z7 (z7 (no (by omega) hst)))
  | some lv =>
   rw [hlr] at hst
   have hlo:=zbx hk2.1 hk2.2 (hv.take k).aB hlr
   have hl4:=hlo.2.2
   simp only at hst
   refine jL (ju (zjk (by omega) (by omega) ?_))
   by_cases q:(out++dec lv l[k].xAccept).length≤400
   ·rw [if_pos q] at hst
    rw [decide_eq_true q]
    exact ju (zz (by omega) (by omega) (hn hlt _ ⟨by simp,by omega,_,hst,rfl,rfl⟩))
   ·rw [if_neg q] at hst
    rw [decide_eq_false q]
    exact z7 (no (by omega) hst)
 ·have hge:k=l.length:=by
   have:¬ (k:Int)<(l.length:Int):=of_decide_eq_false hc
   omega
  subst hge
  rw [zgl,List.take_length] at hst
  refine zaw (zfn (by omega) (zb3 (bs:=whs l) zaV.1 zaV.2 hv.aB (by unfold whs;rw [List.length_map];omega) ?_))
  have hst':pt l rest=match Yl UO (whs l) with | none=>none | some lv=>if (out++dec lv rest).length≤400 then some (out++dec lv rest) else none:=hst
  rw [hst'] at h
  cases hlr:Yl UO (whs l) with
  | none =>
   rw [hlr] at h
   exact jL (z7 (z7 h))
  | some lv =>
   rw [hlr] at h
   have hl4:=(zbx zaV.1 zaV.2 hv.aB hlr).2.2
   simp only at h
   refine jL (ju (zjk (lv:=lv) (by omega) (by omega) ?_))
   by_cases q:(out++dec lv rest).length≤400
   ·rw [if_pos q] at h
    rw [decide_eq_true q]
    exact ju h
   ·rw [if_neg q] at h
    rw [decide_eq_false q]
    exact z7 h
theorem zfZ {ds as:List za} (hdB:aB ds) (hcB:aB as) (hdl:ds.length≤400) (hcl:as.length≤400) {κ:List za×Bool→Prop} (h:κ (ziS (if okR (opF ds as) then some (opF ds as) else none))) :
  jk (fun (nx103:((List za)×Int)→Prop) ((xs99,t102):((List za)×Int))=>ifW (decide (t102<(ds.length:Int))) (zK ds t102 (fun e104=>jk (fun (nx141:((List za)×Int)→Prop) ((xs137,t140):((List za)×Int))=>ifW (decide (t140<(as.length:Int))) (jnW (fun (xs353:(List za))=>jt t140 1 (fun t357=>nx141 (xs353,t357))) (fun k356=>zK as t140 (fun e142=>x6 e104 e142 (fun r204=>ifW (!r204) (k356 xs137) (yc e104 e142 (fun (r235,r244)=>ifW (!r244) (κ ([],false)) (ifW (decide ((xs137.length:Int)=400)) (κ ([],false)) (jG xs137 ([r235]) (fun _=>k356 (xs137++([r235]))))))))))) (jt t102 1 (fun t358=>nx103 (xs137,t358)))) (xs99,0))) (κ (xs99,true))) ([],0):=by
 have no:¬ okR (opF ds as)→κ ([],false):=fun q=>by rw [if_neg q] at h;exact h
 refine zQ ds.length (fun s=>s.2) (fun k (s:List za×Int)=>s.2=(k:Int)∧k≤ds.length∧s.1=opF (ds.take k) as∧okR (opF (ds.take k) as)) (fun k s h=>h.1) (fun k s h=>h.2.1) ?_ ⟨rfl,by omega,by simp [opF],by simpa [opF] using Vp⟩
 rintro k ⟨_,_⟩ next ⟨rfl,hk,hx,hok⟩ hn
 simp only at hx
 subst hx
 refine zn (fun hc=>?_) (fun hc=>?_)
 ·have hlt:k<ds.length:=by simpa using hc
  have hdk:=hdB _ (List.getElem_mem hlt)
  have hsp:opF ds as=opF (ds.take k) as++(tF ds[k] as++opF (ds.drop (k+1)) as):=by
   conv=>lhs;rw [← List.take_append_drop k ds,List.drop_eq_getElem_cons hlt,show ds[k] :: ds.drop (k+1)=[ds[k]]++ds.drop (k+1) from rfl,V4,V4,zbq]
  refine zp k rfl hlt ?_
  refine zQ as.length (fun s=>s.2) (fun j (s:List za×Int)=>s.2=(j:Int)∧j≤as.length∧s.1=opF (ds.take k) as++tF ds[k] (as.take j)∧okR (opF (ds.take k) as++tF ds[k] (as.take j))) (fun k s h=>h.1) (fun k s h=>h.2.1) ?_ ⟨rfl,by omega,by simp [tF],by simpa [tF] using hok⟩
  rintro j ⟨_,_⟩ next2 ⟨rfl,hj,hx,hok2⟩ hn2
  simp only at hx
  subst hx
  refine zn (fun hc2=>?_) (fun hc2=>?_)
  ·have hjl:j<as.length:=by simpa using hc2
   have haj:=hcB _ (List.getElem_mem hjl)
   have hs2:tF ds[k] as=tF ds[k] (as.take j)++((if em4 (xl ds[k] as[j]) then [] else [xl ds[k] as[j]])++tF ds[k] (as.drop (j+1))):=by
    conv=>lhs;rw [← List.take_append_drop j as,List.drop_eq_getElem_cons hjl,show as[j] :: as.drop (j+1)=[as[j]]++as.drop (j+1) from rfl,zc5,zc5,zeu]
   have hs3:tF ds[k] (as.take (j+1))=tF ds[k] (as.take j)++(if em4 (xl ds[k] as[j]) then [] else [xl ds[k] as[j]]):=by
    rw [List.take_succ_eq_append_getElem hjl,zc5,zeu]
   have hl4:=hok2.2
   refine jL (zp j rfl hjl (zbJ hdk haj (zn (fun e=>?_) (fun e=>?_))))
   ·have e':em4 (xl ds[k] as[j])=true:=by simpa using e
    rw [if_pos e',List.append_nil] at hs3
    refine zz (by omega) (by omega) (hn2 hjl _ ⟨by simp,by omega,?_,?_⟩)
    ·rw [hs3]
    ·rw [hs3];exact hok2
   ·have e':em4 (xl ds[k] as[j])=false:=by simpa using e
    rw [if_neg (by simp [e'])] at hs2 hs3
    refine zgA hdk haj ?_
    by_cases hm:F4 (xl ds[k] as[j])
    ·rw [show zfS (xl ds[k] as[j])=(xl ds[k] as[j],true) from if_pos hm]
     refine ju (zn (fun e2=>no (fun q=>?_)) (fun e2=>?_))
     ·have e3:=of_decide_eq_true e2
      have:=q.2
      rw [hsp,hs2] at this
      simp only [List.length_append,List.length_singleton] at this e3
      omega
     ·have e3:=of_decide_eq_false e2
      refine jm (by simp only [List.length_singleton];omega) (zz (by omega) (by omega) (hn2 hjl _ ⟨by simp,by omega,?_,?_⟩))
      ·rw [hs3,List.append_assoc]
      ·rw [hs3,← List.append_assoc]
       refine ⟨u5.2 ⟨hok2.1,fun c hc=>by rw [List.mem_singleton] at hc;subst hc;exact hm⟩,?_⟩
       rw [List.length_append,List.length_singleton];omega
    ·rw [show zfS (xl ds[k] as[j])=(za4,false) from if_neg hm]
     refine z7 (no (fun q=>hm ?_))
     have:=q.1
     rw [hsp,hs2] at this
     exact this _ (by simp)
  ·have hjge:as.length≤j:=by simpa using hc2
   rw [List.take_of_length_le hjge] at hok2 ⊢
   refine zz (by omega) (by omega) (hn hlt _ ⟨by simp,by omega,?_,?_⟩)
   ·rw [List.take_succ_eq_append_getElem hlt,V4,zbq]
   ·rw [List.take_succ_eq_append_getElem hlt,V4,zbq];exact hok2
 ·have hge:ds.length≤k:=by simpa using hc
  rw [List.take_of_length_le hge] at hok ⊢
  rw [if_pos hok] at h
  exact h
theorem zcF {a b:List zl} {ra rb:Bool} (hla:a.length≤100000) (hlb:b.length≤100000) (ha:IV a) (hb:IV b) {κ:List za×Bool→Prop} (h:κ (ziS (opn a ra b rb))):ZA a ra b rb κ:=by
 unfold ZA
 unfold opn at h
 refine zdX hla ha (zdX hlb hb ?_)
 cases hx:pt a ra with
 | none =>
  rw [hx] at h
  exact jL (z7 (z7 h))
 | some x =>
  cases hy:pt b rb with
  | none =>
   rw [hx,hy] at h
   exact jL (ju (z7 h))
  | some y =>
   rw [hx,hy] at h
   simp only at h
   obtain ⟨hxI,hxl⟩:=zfw ha hx
   obtain ⟨hyI,hyl⟩:=zfw hb hy
   have hdB:=zgn hxI false
   have hcB:=zgn hyI true
   have hdl:=zc0 x false
   have hcl:=zc0 y true
   exact jL (ju (ju (zfZ hdB hcB (by omega) (by omega) h)))
open Classical in
noncomputable def cv (s:zM):Option (List zl):=if SV s then cf s else none
theorem zgi {s:zM} {l:List zl} (h:cv s=some l):SV s∧cf s=some l:=by
 unfold cv at h
 split at h
 ·rename_i q;exact ⟨q,h⟩
 ·cases h
theorem zjj {s:zM} (hs:SV s):cv s=cf s:=by unfold cv;rw [if_pos hs]
def ckO (o c:Option (List za)):Int:=match o,c with
 | some o,some c=>(if c=[] then 0 else 1)+(if o=[] then 0 else 2)
 | _,_=>4
noncomputable def ck (s t:zM):Int:=match cv s,cv t with
 | some a,some b=>ckO (opn a s.xAccept b t.xAccept) (opn b t.xAccept a s.xAccept)
 | _,_=>4
theorem zcT {s:zM} (hb:Bd s) {κ:List zl×Bool→Prop} (h1:∀ l,cv s=some l→κ (l,true)) (h2:cv s=none→κ ([],false)):uM s κ :=
 zdf hb (fun hs l hl=>h1 l (by rw [zjj hs];exact hl)) (fun q=>h2 (by
  unfold cv
  split
  ·rename_i hs;exact q hs
  ·rfl))
theorem zgf {s:zM} {l:List zl} (h:cv s=some l):IV l∧l.length≤60:=zkr (zgi h).1 (zgi h).2
theorem ziX {α:Type} (l:List α):decide (0<(l.length:Int))=!decide (l=[]):=by
 cases l with
 | nil=>rfl
 | cons x l=>simp
theorem zan {s t:zM} (hs:Bd s) (ht:Bd t) {κ:Int→Prop} (h:κ (ck s t)):Zv s t κ:=by
 unfold Zv
 unfold ck at h
 refine zcT hs (fun a ha=>zcT ht (fun b hb=>?_) (fun q=>?_)) (fun q=>?_)
 ·rw [ha,hb] at h
  obtain ⟨a1,a2⟩:=zgf ha
  obtain ⟨b1,b2⟩:=zgf hb
  refine jL (ju (ju (zcF (by omega) (by omega) a1 b1 (zcF (by omega) (by omega) b1 a1 ?_))))
  simp only [ckO] at h
  cases ho:opn a s.xAccept b t.xAccept with
  | none =>
   rw [ho] at h
   exact jL (z7 (z7 h))
  | some o =>
   cases hc:opn b t.xAccept a s.xAccept with
   | none =>
    rw [ho,hc] at h
    exact jL (ju (z7 h))
   | some c =>
    rw [ho,hc] at h
    simp only at h
    refine jL (ju (ju (jL ?_)))
    show ifW (decide (0<(o.length:Int))) (ifW (decide (0<(c.length:Int))) _ _) _
    rw [ziX,ziX]
    by_cases e1:o=[] <;> by_cases e2:c=[] <;> simp only [e1,e2,decide_true,decide_false,if_true,if_false,Bool.not_true,Bool.not_false,YZ,YL] at h ⊢ <;> exact h
 ·rw [ha,q] at h
  exact jL (ju (z7 h))
 ·rw [q] at h
  refine zcT ht (fun b hb=>?_) (fun q2=>?_)
  ·exact jL (z7 (z7 h))
  ·exact jL (z7 (z7 h))
end
section
open Go Go.Proofs
def zk0:Option (List zl)→List zE×Bool
 | some out=>(out.map gf,true)
 | none=>([],false)
theorem zgZ {l:List zl} {rest:Bool} (hv:IV l) (hl:l.length≤60) {κ:List zE×Bool→Prop} (h:κ (zk0 (pt l rest))):Ye (l.map gf) rest κ:=by
 unfold Ye
 have no:∀ {k},k≤l.length+1→lvN l rest k=none→κ ([],false):=fun hk q=>by
  unfold pt at h;rw [zh7 q hk] at h;exact h
 refine zQ (l.length+1) (fun s=>s.2) (fun k (s:List zE×Int)=>s.2=(k:Int)∧k≤l.length+1∧∃ out,lvN l rest k=some out∧s.1=out.map gf) (fun k s h=>h.1) (fun k s h=>h.2.1) ?_ ⟨rfl,by omega,[],rfl,rfl⟩
 rintro k ⟨_,_⟩ next ⟨rfl,hk,out,ho,hx⟩ hn
 simp only at hx
 subst hx
 have hok:=(zeq hv ho).2
 have hst:=ze9 ho
 refine zn (fun hc=>?_) (fun hc=>?_)
 ·have hle:k≤l.length:=by
   have:=of_decide_eq_true hc
   simp only [List.length_map] at this;omega
  refine zcL (zdl (fun z=>z=((bx (itm l rest k).xWhere).xSides,(itm l rest k).xAccept)) ?_ ?_)
  ·rintro _ rfl
   refine ⟨by omega,by omega,by simp only [List.length_map];omega,?_⟩
   have e:((l.map gf).take (k:Int).toNat).drop (0:Int).toNat=(l.take k).map gf:=by simp [List.map_take]
   rw [e]
   refine UV (hv.take k) (by rw [List.length_take];omega) ?_
   have hi:=zhA hv rest k
   generalize itm l rest k=f at *
   refine zdZ hi.1 (hv.take k).aB (by unfold whs;rw [List.length_map,List.length_take];omega) ?_
   cases hlr:Yl f.xWhere (whs (l.take k)) with
   | none =>
    rw [hlr] at hst
    exact z7 (no (by omega) hst)
   | some lv =>
    rw [hlr] at hst
    have hl4:=(zbx hi.1 hi.2 (hv.take k).aB hlr).2.2
    simp only at hst
    refine ju ?_
    refine zQ lv.length (fun s=>s.2) (fun j (s:List zE×Int)=>s.2=(j:Int)∧j≤lv.length∧s.1=(out++dec (lv.take j) f.xAccept).map gf) (fun k s h=>h.1) (fun k s h=>h.2.1) ?_ ⟨rfl,by omega,by simp [dec]⟩
    rintro j ⟨_,_⟩ next2 ⟨rfl,hj,hx⟩ hn2
    simp only at hx
    subst hx
    refine zn (fun hc2=>?_) (fun hc2=>?_)
    ·have hjl:j<lv.length:=by
      have:=of_decide_eq_true hc2
      simp only [List.length_map] at this;omega
     refine zp j rfl (by simpa using hjl) ?_
     rw [List.getElem_map]
     refine jm (by simp only [List.length_map,List.length_append,zbz,List.length_take,List.length_singleton];omega) (zz (by omega) (by omega) (hn2 hjl _ ⟨by simp,by omega,?_⟩))
     simp only [dec,List.take_succ_eq_append_getElem hjl,List.map_append,List.map_cons,List.map_nil,List.append_assoc]
     rfl
    ·have hjge:lv.length≤j:=by
      have:=of_decide_eq_false hc2
      simp only [List.length_map] at this;omega
     rw [List.take_of_length_le hjge]
     by_cases q:(out++dec lv f.xAccept).length≤400
     ·rw [if_pos q] at hst
      refine zn (fun e=>?_) (fun _=>zz (by omega) (by omega) (hn (by omega) _ ⟨by simp,by omega,_,hst,rfl⟩))
      have:=of_decide_eq_true e
      simp only [List.length_map] at this;omega
     ·rw [if_neg q] at hst
      refine zn (fun _=>no (by omega) hst) (fun e=>?_)
      have:=of_decide_eq_false e
      simp only [List.length_map] at this;omega
  ·intro K hK
   refine zn (fun e=>?_) (fun e=>?_)
   ·have hlt:k<l.length:=by
     have:=of_decide_eq_true e
     simp only [List.length_map] at this;omega
    have ix:∀ (K':zE→Prop),K' (gf l[k])→zK (l.map gf) (k:Int) K':=fun K' hK'=>zp k rfl (by simpa using hlt) (by rw [List.getElem_map];exact hK')
    refine ix _ (ix _ (hK _ ?_))
    rw [zgv hlt];rfl
   ·have hge:k=l.length:=by
     have:=of_decide_eq_false e
     simp only [List.length_map] at this;omega
    subst hge
    refine hK _ ?_
    rw [zgl]
 ·have hge:k=l.length+1:=by
   have:=of_decide_eq_false hc
   simp only [List.length_map] at this;omega
  subst hge
  unfold pt at h
  rw [ho] at h;exact h
theorem zfN {out:List zl} {a:Bool} (hl:out.length≤100000) {κ:List zL→Prop} (h:κ ((acs out a).map bx)):XQ (out.map gf) a κ:=by
 unfold XQ
 refine zQ out.length (fun s=>s.2) (fun k (s:List zL×Int)=>s.2=(k:Int)∧k≤out.length∧s.1=(acs (out.take k) a).map bx) (fun k s h=>h.1) (fun k s h=>h.2.1) ?_ ⟨rfl,by omega,by simp [acs]⟩
 rintro k ⟨_,_⟩ next ⟨rfl,hk,hx⟩ hn
 simp only at hx
 subst hx
 refine zn (fun hc=>?_) (fun hc=>?_)
 ·have hlt:k<out.length:=by simpa using hc
  have ix:∀ (K':zE→Prop),K' (gf out[k])→zK (out.map gf) (k:Int) K':=fun K' hK'=>zp k rfl (by simpa using hlt) (by rw [List.getElem_map];exact hK')
  have hal:=zc0 (out.take k) a
  rw [List.length_take] at hal
  have es:acs (out.take (k+1)) a=acs (out.take k) a++(if out[k].xAccept=a then [out[k].xWhere] else []):=by
   rw [List.take_succ_eq_append_getElem hlt,ze2]
   congr 1
   exact zeC [out[k].xWhere] out[k].xAccept a
  refine jL (ix _ (zn (fun e=>ix _ ?_) (fun e=>?_)))
  ·have e':out[k].xAccept=a:=of_decide_eq_true e
   rw [if_pos e'] at es
   refine jm (by simp only [List.length_map,List.length_singleton];omega) (zz (by omega) (by omega) (hn hlt _ ⟨by simp,by omega,?_⟩))
   rw [es,List.map_append];rfl
  ·have e':¬ out[k].xAccept=a:=of_decide_eq_false e
   rw [if_neg e',List.append_nil] at es
   refine zz (by omega) (by omega) (hn hlt _ ⟨by simp,by omega,?_⟩)
   rw [es]
 ·have hge:out.length≤k:=by simpa using hc
  rw [List.take_of_length_le hge];exact h
theorem V2 {l:List zl} {rest a:Bool} (hv:IV l) (hl:l.length≤60) {κ:List zL×Bool→Prop} (h1:∀ out,pt l rest=some out→κ ((acs out a).map bx,true)) (h2:pt l rest=none→κ ([],false)):Zr (l.map gf) rest a κ:=by
 have hF:=zb8 hv hl
 unfold Zr
 refine uN hF.fb (ya hF.fb ?_)
 rw [decide_eq_true hF]
 refine ju (zgZ hv hl ?_)
 cases hp:pt l rest with
 | none=>exact z7 (h2 hp)
 | some out=>exact ju (zfN (by have:=(zfw hv hp).2;omega) (h1 out hp))
theorem zg6 {ds as:List za} (hdB:aB ds) (hcB:aB as) (hdl:ds.length≤400) (hcl:as.length≤400) {κ:List zL×Bool→Prop} (h:κ (zjE (if okR (opF ds as) then some (opF ds as) else none))) :
  jk (fun (nx93:((List zL)×Int)→Prop) ((xs88,t92):((List zL)×Int))=>ifW (decide (t92<((ds.map bx).length:Int))) (jk (fun (nx100:((List zL)×Int)→Prop) ((xs95,t99):((List zL)×Int))=>ifW (decide (t99<((as.map bx).length:Int))) (jnW (fun (xs227:(List zL))=>jt t99 1 (fun t232=>nx100 (xs227,t232))) (fun k231=>jnW (fun (xs101:(List (List ze)))=>ux (zL.mk xs101) (fun r157=>ifW (!r157) (jG xs95 ([(zL.mk xs101)]) (fun _=>k231 (xs95++([(zL.mk xs101)])))) (k231 xs95))) (fun k106=>zK (ds.map bx) t92 (fun e107=>zK (as.map bx) t99 (fun e109=>xq e107 e109 (fun r119=>k106 r119.xSides)))))) (jt t92 1 (fun t233=>nx93 (xs95,t233)))) (xs88,0)) (jW xs88 (fun r234=>ifW (!r234) (κ ([],false)) (κ (xs88,true))))) ([],0):=by
 have big:∀ k,(opF (ds.take k) as).length≤160000:=fun k=>by
  refine Nat.le_trans (ziK _ _) ?_
  have h1:(ds.take k).length≤400:=by rw [List.length_take];omega
  exact Nat.mul_le_mul h1 (show as.length≤400 by omega)
 refine zQ ds.length (fun s=>s.2) (fun k (s:List zL×Int)=>s.2=(k:Int)∧k≤ds.length∧s.1=(opF (ds.take k) as).map bx) (fun k s h=>h.1) (fun k s h=>h.2.1) ?_ ⟨rfl,by omega,by simp [opF]⟩
 rintro k ⟨_,_⟩ next ⟨rfl,hk,hx⟩ hn
 simp only at hx
 subst hx
 have bk:=big k
 refine zn (fun hc=>?_) (fun hc=>?_)
 ·have hlt:k<ds.length:=by simpa using hc
  have hdk:=hdB _ (List.getElem_mem hlt)
  refine zQ as.length (fun s=>s.2) (fun j (s:List zL×Int)=>s.2=(j:Int)∧j≤as.length∧s.1=(opF (ds.take k) as++tF ds[k] (as.take j)).map bx) (fun k s h=>h.1) (fun k s h=>h.2.1) ?_ ⟨rfl,by omega,by simp [tF]⟩
  rintro j ⟨_,_⟩ next2 ⟨rfl,hj,hx⟩ hn2
  simp only at hx
  subst hx
  refine zn (fun hc2=>?_) (fun hc2=>?_)
  ·have hjl:j<as.length:=by simpa using hc2
   have haj:=hcB _ (List.getElem_mem hjl)
   have hs3:tF ds[k] (as.take (j+1))=tF ds[k] (as.take j)++(if em4 (xl ds[k] as[j]) then [] else [xl ds[k] as[j]]):=by
    rw [List.take_succ_eq_append_getElem hjl,zc5,zeu]
   have htl:=zhu ds[k] (as.take j)
   rw [List.length_take] at htl
   refine jL (jL (zp k rfl (by simpa using hlt) (zp j rfl (by simpa using hjl) ?_)))
   rw [List.getElem_map,List.getElem_map]
   refine zbP hdk haj (Uk (a:=xl ds[k] as[j]) (zn (fun e=>?_) (fun e=>?_)))
   ·have e':em4 (xl ds[k] as[j])=false:=by simpa using e
    rw [if_neg (by simp [e'])] at hs3
    refine jm (by simp only [List.length_map,List.length_append,List.length_singleton];omega) (zz (by omega) (by omega) (hn2 hjl _ ⟨by simp,by omega,?_⟩))
    show List.map bx (opF (ds.take k) as++tF ds[k] (as.take j))++[bx (xl ds[k] as[j])]=_
    rw [hs3,← List.append_assoc,List.map_append (l₁:=opF (ds.take k) as++tF ds[k] (as.take j))];rfl
   ·have e':em4 (xl ds[k] as[j])=true:=by simpa using e
    rw [if_pos e',List.append_nil] at hs3
    refine zz (by omega) (by omega) (hn2 hjl _ ⟨by simp,by omega,?_⟩)
    rw [hs3]
  ·have hjge:as.length≤j:=by simpa using hc2
   rw [List.take_of_length_le hjge]
   refine zz (by omega) (by omega) (hn hlt _ ⟨by simp,by omega,?_⟩)
   rw [List.take_succ_eq_append_getElem hlt,V4,zbq]
 ·have hge:ds.length≤k:=by simpa using hc
  rw [List.take_of_length_le hge] at bk ⊢
  refine yy (zkt hdB hcB) (by omega) (fun ok=>?_) (fun no=>?_)
  ·rw [if_pos ok] at h;exact ju h
  ·rw [if_neg no] at h;exact z7 h
theorem zb9 {a b:List zl} {ra rb:Bool} (ha:IV a) (hb:IV b) (hla:a.length≤60) (hlb:b.length≤60) {κ:List zL×Bool→Prop} (h:κ (zjE (opn a ra b rb))):Zp (a.map gf) ra (b.map gf) rb κ:=by
 unfold Zp
 unfold opn at h
 refine uN (zb8 ha hla).fb (uN (zb8 hb hlb).fb ?_)
 refine V2 ha hla (fun x hx=>?_) (fun hx=>?_)
 ·rw [hx] at h
  refine V2 hb hlb (fun y hy=>?_) (fun hy=>?_)
  ·rw [hy] at h
   simp only at h
   obtain ⟨hxI,hxl⟩:=zfw ha hx
   obtain ⟨hyI,hyl⟩:=zfw hb hy
   have hdB:=zgn hxI false
   have hcB:=zgn hyI true
   have hdl:=zc0 x false
   have hcl:=zc0 y true
   exact jL (ju (ju (zg6 hdB hcB (by omega) (by omega) h)))
  ·rw [hy] at h
   exact jL (ju (z7 h))
 ·rw [hx] at h
  refine V2 hb hlb (fun y hy=>?_) (fun hy=>?_)
  ·exact jL (z7 (z7 h))
  ·exact jL (z7 (z7 h))
theorem zeL {s:zM} (hb:Bd s) {κ:List zE×Bool→Prop} (h1:∀ l,cv s=some l→κ (l.map gf,true)) (h2:cv s=none→κ ([],false)):Zk s κ :=
 zcA hb (fun hs l hl=>h1 l (by rw [zjj hs];exact hl)) (fun q=>h2 (by
  unfold cv
  split
  ·rename_i hs;exact q hs
  ·rfl))
theorem zaC {s t:zM} (hs:Bd s) (ht:Bd t) {κ:Int→Prop} (h:κ (ck s t)):Zx s t κ:=by
 unfold Zx
 unfold ck at h
 refine zeL hs (fun a ha=>zeL ht (fun b hb=>?_) (fun q=>?_)) (fun q=>?_)
 ·rw [ha,hb] at h
  obtain ⟨a1,a2⟩:=zgf ha
  obtain ⟨b1,b2⟩:=zgf hb
  refine jL (ju (ju (zb9 a1 b1 a2 b2 (zb9 b1 a1 b2 a2 ?_))))
  simp only [ckO] at h
  cases ho:opn a s.xAccept b t.xAccept with
  | none =>
   rw [ho] at h
   exact jL (z7 (z7 h))
  | some o =>
   cases hc:opn b t.xAccept a s.xAccept with
   | none =>
    rw [ho,hc] at h
    exact jL (ju (z7 h))
   | some c =>
    rw [ho,hc] at h
    simp only at h
    refine jL (ju (ju (jL ?_)))
    show ifW (decide (0<((c.map bx).length:Int))) _ _
    have e1:decide (0<((c.map bx).length:Int))=!decide (c=[]):=by rw [List.length_map];exact ziX c
    have e2:decide (0<((o.map bx).length:Int))=!decide (o=[]):=by rw [List.length_map];exact ziX o
    rw [e1]
    by_cases q1:c=[]
    ·rw [if_pos q1] at h
     rw [decide_eq_true q1]
     refine ju (jL ?_)
     show ifW (decide (0<((o.map bx).length:Int))) _ _
     rw [e2]
     by_cases q2:o=[]
     ·rw [if_pos q2] at h
      rw [decide_eq_true q2]
      exact ju h
     ·rw [if_neg q2] at h
      rw [decide_eq_false q2]
      exact z7 (zz (by decide) (by decide) h)
    ·rw [if_neg q1] at h
     rw [decide_eq_false q1]
     refine z7 (zz (by decide) (by decide) (jL ?_))
     show ifW (decide (0<((o.map bx).length:Int))) _ _
     rw [e2]
     by_cases q2:o=[]
     ·rw [if_pos q2] at h
      rw [decide_eq_true q2]
      exact ju h
     ·rw [if_neg q2] at h
      rw [decide_eq_false q2]
      exact z7 (zz (by decide) (by decide) h)
 ·rw [ha,q] at h
  exact jL (ju (z7 h))
 ·rw [q] at h
  refine zeL ht (fun b hb=>?_) (fun q2=>?_)
  ·exact jL (z7 (z7 h))
  ·exact jL (z7 (z7 h))
theorem Vn (s t:zM) (hs:zjD s) (ht:zjD t):yH s t (fun r=>r=true):=by
 unfold yH
 refine zb4 hs (by decide) (by decide) (z7 rfl) (fun r g0 g1 hs=>zn (fun _=>rfl) (fun _=>?_))
 refine zb4 ht g0 (by omega) (z7 rfl) (fun r2 g2 g3 ht=>zn (fun _=>rfl) (fun _=>?_))
 refine Xt hs (Xt ht (zaC hs.bd ht.bd (Xt hs (Xt ht (zan hs.bd ht.bd ?_)))))
 refine zn (fun e=>by simp at e) (fun _=>?_)
 exact Xt hs (VK hs (ju (Xt ht (VK ht (ju rfl)))))
end
end Go.Proofs.YtgpdnnhmndlljaaGreatDoor
