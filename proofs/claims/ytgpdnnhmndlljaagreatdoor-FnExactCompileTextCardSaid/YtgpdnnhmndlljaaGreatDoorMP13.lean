import Derived.Test.YtgpdnnhmndlljaaGreatDoorMP12
set_option linter.unusedSimpArgs false
set_option linter.unusedVariables false
set_option linter.unusedSectionVars false
namespace Go.Proofs.YtgpdnnhmndlljaaGreatDoor
section
open Go Go.Proofs
theorem zoq {l:List zq} (h:fp l=none):∀ j,pmA l j=none:=fun j=>by
 cases e:pmA l j with
 | none=>rfl
 | some z =>
  exfalso
  have:∀ n,n≤j→(∀ i,i<n→pmA l i=none)∨∃ i z,i<n∧pmA l i=some z∧∀ m,m<i→pmA l m=none:=by
   intro n
   induction n with
   | zero=>intro _;exact .inl (fun i hi=>by omega)
   | succ n ih =>
    intro hn
    rcases ih (by omega) with q | ⟨i,z,q1,q2,q3⟩
    ·cases e2:pmA l n with
     | none=>exact .inl (fun i hi=>by
       by_cases e3:i=n
       ·subst e3;exact e2
       ·exact q i (by omega))
     | some z2=>exact .inr ⟨n,z2,by omega,e2,q⟩
    ·exact .inr ⟨i,z,by omega,q2,q3⟩
  rcases this j (Nat.le_refl _) with q | ⟨i,z2,q1,q2,q3⟩
  ·rw [zeR q e] at h;cases h
  ·rw [zeR q3 q2] at h;cases h
theorem zhA {l:List zq} (hv:IV l) (hl:l.length≤60) {κ:List zX→Prop} (h:κ ((mgF l).map gf)):Yb (l.map gf) κ:=by
 have hF:=zfc hv hl
 unfold Yb
 refine ZQ hF.fb (yS hF.fb ?_)
 rw [decide_eq_true hF]
 refine jK (jj (by simp;omega) ?_)
 refine yE (fun (s:List zX)=>∃ xs:List zq,s=xs.map gf∧xs.length≤60∧IV xs∧mgF xs=mgF l) (fun s=>s.length) ?_ ⟨l,by simp,hl,hv,rfl⟩
 rintro _ next ⟨xs,rfl,hxl,hxv,he⟩ hn
 refine zka hxv hxl ?_
 cases hfp:fp xs with
 | none =>
  rw [← he,zib (zoq hfp)] at h
  exact jt h
 | some kz =>
  obtain ⟨k,z⟩:=kz
  obtain ⟨p1,p2⟩:=zmA hfp
  have hk:=zdS p1
  have hml:=zb5 (z:=z) hk
  refine zi (fun e=>by have:(k:Int)<0:=of_decide_eq_true e;omega) (fun _=>zz (by omega) (by omega) ⟨by omega,by simp only [List.length_map];omega,by omega,?_⟩)
  have e1:((xs.map gf).take ((xs.map gf).length:Int).toNat).drop ((k:Int)+2).toNat=(xs.drop (k+2)).map gf:=by
   rw [Int.toNat_natCast,List.take_length,show ((k:Int)+2).toNat=k+2 by omega,List.map_drop]
  have e2:((xs.map gf).take ((k:Int)).toNat).drop (0:Int).toNat=(xs.take k).map gf:=by
   rw [Int.toNat_natCast];simp [List.map_take]
  rw [e1]
  refine jj (by simp;omega) (xf ⟨by omega,by omega,by simp only [List.length_map];omega,?_⟩)
  show jW [] (((xs.map gf).take ((k:Int)).toNat).drop (0:Int).toNat) _
  rw [e2]
  refine jj (by simp;omega) (jj (by simp;omega) (jj (by simp;omega) (hn _ ⟨zaD xs k z,?_,by omega,zfF hxv p1,?_⟩ ?_)))
  ·unfold zaD
   simp only [List.nil_append,List.map_append,List.map_cons,List.map_nil]
  ·rw [← zh4 p2 p1];exact he
  ·simp;omega
theorem zi2 {l:List zq} {rest:Bool} (hv:IV l) (hl:l.length≤60) {κ:List zX→Prop} (h:κ ((trF l rest).map gf)):Ue (l.map gf) rest κ:=by
 have hF:=zfc hv hl
 unfold Ue
 refine ZQ hF.fb (yS hF.fb ?_)
 rw [decide_eq_true hF]
 refine jK ?_
 refine yE (fun (s:Int)=>∃ n:Nat,s=(n:Int)∧n≤l.length∧trN l rest l.length=trN l rest n) (fun s=>s.toNat) ?_ ⟨l.length,by simp,Nat.le_refl _,rfl⟩
 rintro _ next ⟨n,rfl,hn',he⟩ hnx
 have fin:trN l rest n=n→X3 (l.map gf) 0 (n:Int) (fun xs84=>jW ([]) xs84 (fun _=>κ (([])++xs84))):=fun q=>by
  refine ⟨by omega,by omega,by simp;omega,?_⟩
  unfold trF at h
  rw [he,q] at h
  have e:((l.map gf).take (n:Int).toNat).drop (0:Int).toNat=(l.take n).map gf:=by simp [List.map_take]
  rw [e]
  exact jj (by simp;omega) h
 refine xf (zi (fun e=>?_) (fun e=>jK (fin ?_)))
 ·have hpos:0<n:=by have:=of_decide_eq_true e;omega
  obtain ⟨m,rfl⟩:∃ m,n=m+1:=⟨n - 1,by omega⟩
  have hlt:m<l.length:=by omega
  have em:((m+1:Nat):Int) - 1=(m:Int):=by omega
  refine ZY (by omega) (by omega) ?_
  rw [em]
  refine zp m rfl (by simpa using hlt) ?_
  rw [List.getElem_map]
  refine zi (fun e2=>?_) (fun e2=>fin ?_)
  ·have e2':l[m].xAccept=rest:=of_decide_eq_true e2
   refine ZY (by omega) (by omega) (hnx _ ⟨m,by omega,by omega,?_⟩ (by omega))
   rw [he]
   conv=>lhs;unfold trN
   rw [List.getElem?_eq_getElem hlt]
   simp [e2']
  ·have e2':¬ l[m].xAccept=rest:=of_decide_eq_false e2
   unfold trN
   rw [List.getElem?_eq_getElem hlt]
   simp [e2']
 ·have:n=0:=by have:=of_decide_eq_false e;omega
  subst this;rfl
theorem zkk {l:List zq} {rest:Bool} (hv:IV l) (hl:l.length≤60) {κ:List zX→Prop} (h:κ ((shF l rest).map gf)):UG (l.map gf) rest κ:=by
 have hF:=zfc hv hl
 unfold UG
 refine ZQ hF.fb (yS hF.fb ?_)
 rw [decide_eq_true hF]
 refine jK (jj (by simp;omega) ?_)
 refine yE (fun (s:List zX)=>∃ xs:List zq,s=xs.map gf∧xs.length≤60∧IV xs∧shF xs rest=shF l rest) (fun s=>s.length) ?_ ⟨l,by simp,hl,hv,rfl⟩
 rintro _ next ⟨xs,rfl,hx,hxv,he⟩ hn
 have w1:=zhe xs
 have w2:=zhH (zcq hxv)
 have w3:=VD (rest:=rest) hxv
 refine ziN hxv hx (zhA (zcq hxv) (by omega) (zi2 (zlj (zcq hxv)) (by omega) ?_))
 have hf:=zjV (rest:=rest) hxv
 refine zi (fun e=>?_) (fun e=>?_)
 ·have e':(sh1 xs rest).length=xs.length:=by
   have:=of_decide_eq_true e
   simp only [List.length_map] at this
   have:((sh1 xs rest).length:Int)=(xs.length:Int):=this
   omega
  rw [if_pos e'] at hf
  rw [← he,hf] at h;exact h
 ·have e':¬ (sh1 xs rest).length=xs.length:=by
   have:=of_decide_eq_false e
   simp only [List.length_map] at this
   have:¬ ((sh1 xs rest).length:Int)=(xs.length:Int):=this
   omega
  rw [if_neg e'] at hf
  exact hn ((sh1 xs rest).map gf) ⟨sh1 xs rest,rfl,by omega,zcB hxv,by rw [← hf];exact he⟩ (by simp only [List.length_map];omega)
theorem zfM {s:zD} (hb:Bd s) {κ:List zX×Bool→Prop} (h1:SV s→∀ l,cf s=some l→κ (l.map gf,true)) (h2:(SV s→cf s=none)→κ ([],false)):Yi s κ:=by
 unfold Yi
 refine zbP hb (zgp hb (fun hv l hl=>jK ?_) (fun q=>jt (h2 (fun hv=>by unfold cf;rw [q hv];rfl))))
 obtain ⟨u1,u2⟩:=zkI hv hl
 exact zkk u1 u2 (h1 hv _ (by unfold cf;rw [hl];rfl))
end
section
def Sx1 (l:List zj):Prop:=l.length≤1048576
def Sx2 (l:List (List zj)):Prop:=l.length≤1048576∧∀ x,x∈l→Sx1 x
def Sx3 (f:zX):Prop:=Sx2 f.xWhere.xSides
def Sx4 (l:List zX):Prop:=l.length≤1048576∧∀ f,f∈l→Sx3 f
theorem Sx4.fb {l:List zX} (h:Sx4 l):Fb l:=⟨by have:=h.1;omega,fun f hf=>⟨by have:=(h.2 f hf).1;omega,fun x hx=>by have:x.length≤1048576:=(h.2 f hf).2 x hx;omega⟩⟩
theorem BV.sx {b:jm} (h:BV b):Sx2 b.xSides:=by
 obtain ⟨a,rfl,_,f0,f1,f2,f3⟩:=h
 refine ⟨by simp [bx],fun x hx=>?_⟩
 simp only [bx,List.mem_cons,List.not_mem_nil,or_false] at hx
 unfold Sx1
 rcases hx with rfl | rfl | rfl | rfl <;> omega
theorem FV.sx {l:List zX} (h:FV l):Sx4 l:=⟨by have:=h.1;omega,fun f hf=>(h.2 f hf).sx⟩
end
section
open Go Go.Proofs
def bt1 (n:Nat) (s:List zj):Option (List zL) :=
 match s with
 | [x]=>if x=⟨0,top n⟩ then some [] else some [⟨n,x.xLo,x.xHi,false⟩]
 | [x,y]=>if x.xLo=0∧y.xHi=top n then some [⟨n,x.xHi+1,y.xLo - 1,true⟩] else none
 | _=>none
def btN (a:za):Nat→Option (List zL)
 | 0=>some []
 | k+1=>match btN a k with
  | none=>none
  | some l=>match bt1 k (xL a k) with
   | none=>none
   | some m=>some (l++m)
def btF (a:za):Option (List zL):=if em4 a then none else btN a 4
def zl7:Option (List zL)→List zL×Bool
 | some l=>(l,true)
 | none=>([],false)
theorem zmB {n:Nat} {s:List zj} {l:List zL} (h:bt1 n s=some l):l.length≤1:=by
 unfold bt1 at h
 split at h
 ·split at h <;> (injection h with h;subst h;simp)
 ·split at h
  ·injection h with h;subst h;simp
  ·cases h
 ·cases h
theorem zc2 {a:za}:∀ {k:Nat} {l:List zL},btN a k=some l→l.length≤k
 | 0,l,h=>by simp only [btN,Option.some.injEq] at h;subst h;simp
 | k+1,l,h=>by
  unfold btN at h
  split at h
  ·cases h
  ·rename_i l1 h1
   split at h
   ·cases h
   ·rename_i m h2
    injection h with h;subst h
    have:=zc2 h1
    have:=zmB h2
    rw [List.length_append];omega
theorem zii {a:za} {k n:Nat} (h:btN a k=none) (hk:k≤n):btN a n=none:=by
 induction n with
 | zero =>
  obtain rfl:k=0:=by omega
  exact h
 | succ n ih =>
  by_cases e:k=n+1
  ·subst e;exact h
  ·unfold btN;rw [ih (by omega)]
theorem zkW {a:za} {k:Nat} {l:List zL} (h:btN a k=some l):btN a (k+1)=(match bt1 k (xL a k) with | none=>none | some m=>some (l++m)):=by
 conv=>lhs;unfold btN
 rw [h]
theorem ziK {n:Int} {κ:Ym→Prop} (h0:0≤n) (h1:n≤3) (h:∀ e:Ym,e.xTop=top n→κ e):zI zx n κ:=zeS h0 h1 (fun e _=>h e)
theorem zjq {a:za} (hB:B4 a) {k:Nat} (hlt:k<4) {l:List zL} (hb:btN a k=some l) {tp:Int} (htp:tp=top k) {κ:List zL×Bool→Prop} {nx:List zL×Int→Prop} (hl:l.length≤4)
  (hn:∀ m,btN a (k+1)=some m→nx (m,(k:Int)+1)) (hz:btN a (k+1)=none→κ ([],false)) :
  jnW (fun (xs298:(List zL))=>jh (k:Int) 1 (fun t302=>nx (xs298,t302))) (fun k301=>jnW (fun (t150:Bool)=>ifW t150 (k301 l) (ifW (decide (((xL a k).length:Int)=1)) (zI (xL a k) 0 (fun e152=>zI (xL a k) 0 (fun e154=>jW l ([(zL.mk k e152.xLo e154.xHi false)]) (fun _=>k301 (l++([(zL.mk k e152.xLo e154.xHi false)])))))) (jnW (fun (t224:Bool)=>ifW t224 (zI (xL a k) 0 (fun e226=>jh e226.xHi 1 (fun t228=>zI (xL a k) 1 (fun e229=>Ur e229.xLo 1 (fun t231=>jW l ([(zL.mk k t228 t231 true)]) (fun _=>k301 (l++([(zL.mk k t228 t231 true)])))))))) (κ ([],false))) (fun k225=>ifW (decide (((xL a k).length:Int)=2)) (zI (xL a k) 0 (fun e160=>ifW (decide (e160.xLo=0)) (zI (xL a k) 1 (fun e162=>k225 (decide (e162.xHi=tp)))) (k225 false))) (k225 false))))) (fun k151=>ifW (decide (((xL a k).length:Int)=1)) (zI (xL a k) 0 (fun e88=>k151 (decide (e88=(zj.mk 0 tp))))) (k151 false))):=by
 subst htp
 rw [zkW hb] at hn hz
 have hst:=YD hB (show (0:Int)≤k by omega) (show (k:Int)≤3 by omega)
 have tl:=Uk k
 generalize xL a k=s at *
 have go:∀ ys,nx (ys,(k:Int)+1)→jh (k:Int) 1 (fun t302=>nx (ys,t302)):=fun ys h=>zz (by omega) (by omega) h
 refine xf ?_
 match s,hst with
 | [],_ =>
  refine xf (jK (jK (jK (xf (jK (jK ?_))))))
  exact hz rfl
 | [x],_ =>
  refine xf (jt (zp 0 rfl (by simp) ?_))
  refine zi (fun e=>?_) (fun e=>?_)
  ·have e':x=⟨0,top k⟩:=of_decide_eq_true e
   refine go _ (hn _ ?_)
   unfold bt1;simp only;rw [if_pos e'];simp
  ·have e':¬ x=⟨0,top k⟩:=of_decide_eq_false e
   refine jt (zp 0 rfl (by simp) (zp 0 rfl (by simp) (jj (by simp;omega) (go _ (hn _ ?_)))))
   unfold bt1;simp only;rw [if_neg e'];rfl
 | [x,y],hst =>
  have hx:=hst.2 x (by simp)
  have hy:=hst.2 y (by simp)
  have hx2:=hst.1.1 x (by simp)
  have hy2:=hst.1.1 y (by simp)
  refine xf (jK (jK (jK (xf (jt (zp 0 rfl (by simp) (zi (fun e=>?_) (fun e=>?_))))))))
  ·have e':x.xLo=0:=of_decide_eq_true e
   refine zp 1 rfl (by simp) (zi (fun e2=>?_) (fun e2=>?_))
   ·have e2':y.xHi=top k:=of_decide_eq_true e2
    refine zp 0 rfl (by simp) (zz (by simp;omega) (by simp;omega) (zp 1 rfl (by simp) (ZY (by simp;omega) (by simp;omega) (jj (by simp;omega) (go _ (hn _ ?_))))))
    unfold bt1;simp only;rw [if_pos ⟨e',e2'⟩];rfl
   ·have e2':¬ y.xHi=top k:=of_decide_eq_false e2
    refine hz ?_
    unfold bt1;simp only;rw [if_neg (fun q=>e2' q.2)]
  ·have e':¬ x.xLo=0:=of_decide_eq_false e
   refine jK (hz ?_)
   unfold bt1;simp only;rw [if_neg (fun q=>e' q.1)]
 | x :: y :: z :: r,_ =>
  refine xf (zi (fun e=>by simp at e;omega) (fun _=>jK (zi (fun e=>by simp at e;omega) (fun _=>xf (zi (fun e=>by simp at e;omega) (fun _=>jK ?_))))))
  exact hz rfl
theorem zer {b:jm} (hb:Bb b) {κ:List zL×Bool→Prop} (h1:BV b→κ (zl7 (btF (sd b)))) (h2:¬ BV b→κ ([],false)):Uc b κ:=by
 unfold Uc
 refine xf (zbe hb (zi (fun e=>?_) (fun e=>?_)))
 ·exact jt (h2 (by simpa using e))
 have hv':BV b:=by simpa using e
 refine zkx (zhf hv') (zdC (zi (fun e2=>?_) (fun e2=>?_)))
 ·have:=h1 hv'
  unfold btF at this;rw [if_pos e2] at this;exact this
 have h3:=h1 hv'
 unfold btF at h3;rw [if_neg (by simp [e2])] at h3
 clear h1 h2 e e2
 have hB:=hv'.b4
 obtain ⟨a,rfl,_⟩:=hv'
 rw [zng] at h3 hB
 refine zK 4 (fun s=>s.2) (fun k (s:List zL×Int)=>s.2=(k:Int)∧k≤4∧btN a k=some s.1) (fun k s h=>h.1) (fun k s h=>h.2.1) ?_ ⟨rfl,by omega,rfl⟩
 rintro k ⟨l,_⟩ next ⟨rfl,hk,hbt⟩ hn
 simp only at hbt
 refine zi (fun hc=>?_) (fun hc=>?_)
 ·have hlt:k<4:=by
   have:(k:Int)<4:=by simpa [bx] using hc
   omega
  have hl:=zc2 hbt
  refine Zo (a:=a) (by omega) (by omega) (ziK (by omega) (by omega) (fun e he=>?_))
  refine zjq hB hlt hbt he (by omega) (fun m hm=>hn hlt _ ⟨by simp,by omega,hm⟩) (fun hz=>?_)
  rw [zii hz (by omega)] at h3;exact h3
 ·have hge:k=4:=by
   have:(4:Int)≤k:=by simpa [bx] using hc
   omega
  subst hge
  rw [hbt] at h3;exact h3
theorem zes {b:jm} (hb:Bb b) {κ:List zL×Bool→Prop} (h1:BV b→κ (zl7 (btF (sd b)))) (h2:¬ BV b→κ ([],false)):Y8 b κ:=by
 unfold Y8
 refine xf (Zb hb (zi (fun e=>?_) (fun e=>?_)))
 ·exact jt (h2 (by simpa using e))
 have hv':BV b:=by simpa using e
 have h3:=h1 hv'
 clear h1 h2 e
 have hB:=hv'.b4
 obtain ⟨a,rfl,_⟩:=hv'
 rw [zng] at h3 hB
 refine VX (zi (fun e2=>?_) (fun e2=>?_))
 ·unfold btF at h3;rw [if_pos e2] at h3;exact h3
 unfold btF at h3;rw [if_neg (by simp [e2])] at h3
 refine zK 4 (fun s=>s.2) (fun k (s:List zL×Int)=>s.2=(k:Int)∧k≤4∧btN a k=some s.1) (fun k s h=>h.1) (fun k s h=>h.2.1) ?_ ⟨rfl,by omega,rfl⟩
 rintro k ⟨l,_⟩ next ⟨rfl,hk,hbt⟩ hn
 simp only at hbt
 refine zi (fun hc=>?_) (fun hc=>?_)
 ·have hlt:k<4:=by
   have:(k:Int)<4:=by simpa using hc
   omega
  have hl:=zc2 hbt
  refine Zo (a:=a) (by omega) (by omega) (xJ (by omega) (by omega) ?_)
  refine zjq hB hlt hbt rfl (by omega) (fun m hm=>hn hlt _ ⟨by simp,by omega,hm⟩) (fun hz=>?_)
  rw [zii hz (by omega)] at h3;exact h3
 ·have hge:k=4:=by
   have:(4:Int)≤k:=by simpa using hc
   omega
  subst hge
  rw [hbt] at h3;exact h3
def ruD (f:zX):zr:=⟨(zl7 (btF (sd f.xWhere))).1,if f.xAccept then 1 else 2,0⟩
def zhI (l:List zX):Prop:=FV l∧l.length≤8∧∀ f∈l,btF (sd f.xWhere)≠none
def frS (l:List zX) (rest:Bool):zD:=⟨[l.map ruD],rest⟩
theorem zhW (a:za):(zl7 (btF a)).1.length≤4:=by
 cases h:btF a with
 | none=>simp [zl7]
 | some l =>
  unfold btF at h
  split at h
  ·cases h
  ·exact zc2 h
theorem VO {l:List zX} {rest:Bool} (hl:Fb l) {κ:zD×Bool→Prop} (h1:zhI l→κ (frS l rest,true)) (h2:¬ zhI l→κ (⟨[],false⟩,false)):XI l rest κ:=by
 unfold XI
 have hl1:=hl.1
 refine xf (zi (fun e=>?_) (fun e=>?_))
 ·exact jt (h2 (fun q=>by have:=q.2.1;simp at e;omega))
 have h8:l.length≤8:=by simp at e;omega
 refine zdF hl (zi (fun e2=>?_) (fun e2=>?_))
 ·exact h2 (fun q=>by simp [q.1] at e2)
 have hv':FV l:=by simpa using e2
 refine V6 0 rfl (by omega) (by omega) ?_
 refine zK l.length (fun s=>s.2) (fun k (s:List zr×Int)=>s.2=(k:Int)∧k≤l.length∧s.1=(l.take k).map ruD∧∀ f∈l.take k,btF (sd f.xWhere)≠none) (fun k s h=>h.1) (fun k s h=>h.2.1) ?_ ⟨rfl,by omega,by simp,by simp⟩
 rintro k ⟨_,_⟩ next ⟨rfl,hk,hx,hno⟩ hn
 simp only at hx
 subst hx
 refine zi (fun hc=>?_) (fun hc=>?_)
 ·have hlt:k<l.length:=by simpa using hc
  have hbv:=hv'.2 _ (List.getElem_mem hlt)
  refine zp k rfl hlt (zer hbv.bb (fun _=>?_) (fun q=>absurd hbv q))
  have hlen:=zhW (sd l[k].xWhere)
  cases hbt:btF (sd l[k].xWhere) with
  | none=>exact xf (jt (jt (h2 (fun q=>q.2.2 _ (List.getElem_mem hlt) hbt))))
  | some ts =>
   have er:ruD l[k]=⟨ts,if l[k].xAccept then 1 else 2,0⟩:=by unfold ruD;rw [hbt];rfl
   rw [hbt] at hlen
   have hts:ts.length≤4:=hlen
   refine xf (jK (zi (fun e=>by simp at e;omega) (fun _=>xf ?_)))
   have go:∀ act:Int,act=(if l[k].xAccept then 1 else 2)→jW ((l.take k).map ruD) ([(zr.mk ts act 0)]) (fun _=>jh (k:Int) 1 (fun t229=>next ((((l.take k).map ruD)++([(zr.mk ts act 0)])),t229))):=by
    rintro _ rfl
    refine jj (by simp;omega) (zz (by omega) (by omega) (hn hlt _ ⟨by simp,by omega,?_,fun f hf=>?_⟩))
    ·rw [List.take_succ_eq_append_getElem hlt,List.map_append,List.map_singleton,er]
    ·rw [List.take_succ_eq_append_getElem hlt] at hf
     rcases List.mem_append.1 hf with q | q
     ·exact hno f q
     ·simp only [List.mem_singleton] at q;rw [q,hbt];simp
   refine zi (fun e=>go _ (by rw [e];rfl)) (fun e=>go _ (by rw [e];rfl))
 ·have hge:l.length≤k:=by simpa using hc
  rw [List.take_of_length_le hge] at hno ⊢
  exact h1 ⟨hv',h8,hno⟩
theorem Ul {l:List zX} {rest:Bool} (hl:Fb l) {κ:zD×Bool→Prop} (h1:zhI l→κ (frS l rest,true)) (h2:¬ zhI l→κ (⟨[],false⟩,false)):Xv l rest κ:=by
 unfold Xv
 have hl1:=hl.1
 refine ZQ hl (xf (yS hl (zi (fun e2=>?_) (fun e2=>?_))))
 ·exact jt (h2 (fun q=>by simp [q.1] at e2))
 have hv':FV l:=by simpa using e2
 refine zi (fun e=>h2 (fun q=>by have:=q.2.1;simp at e;omega)) (fun e=>?_)
 have h8:l.length≤8:=by simp at e;omega
 refine zK l.length (fun s=>s.2) (fun k (s:List zr×Int)=>s.2=(k:Int)∧k≤l.length∧s.1=(l.take k).map ruD∧∀ f∈l.take k,btF (sd f.xWhere)≠none) (fun k s h=>h.1) (fun k s h=>h.2.1) ?_ ⟨rfl,by omega,by simp,by simp⟩
 rintro k ⟨_,_⟩ next ⟨rfl,hk,hx,hno⟩ hn
 simp only at hx
 subst hx
 refine zi (fun hc=>?_) (fun hc=>?_)
 ·have hlt:k<l.length:=by simpa using hc
  have hbv:=hv'.2 _ (List.getElem_mem hlt)
  refine zp k rfl hlt (zes hbv.bb (fun _=>?_) (fun q=>absurd hbv q))
  have hlen:=zhW (sd l[k].xWhere)
  cases hbt:btF (sd l[k].xWhere) with
  | none=>exact jt (h2 (fun q=>q.2.2 _ (List.getElem_mem hlt) hbt))
  | some ts =>
   have er:ruD l[k]=⟨ts,if l[k].xAccept then 1 else 2,0⟩:=by unfold ruD;rw [hbt];rfl
   rw [hbt] at hlen
   have hts:ts.length≤4:=hlen
   refine jK (xf (zp k rfl hlt ?_))
   have go:∀ act:Int,act=(if l[k].xAccept then 1 else 2)→jW ((l.take k).map ruD) ([(zr.mk ts act 0)]) (fun _=>jh (k:Int) 1 (fun t229=>next ((((l.take k).map ruD)++([(zr.mk ts act 0)])),t229))):=by
    rintro _ rfl
    refine jj (by simp;omega) (zz (by omega) (by omega) (hn hlt _ ⟨by simp,by omega,?_,fun f hf=>?_⟩))
    ·rw [List.take_succ_eq_append_getElem hlt,List.map_append,List.map_singleton,er]
    ·rw [List.take_succ_eq_append_getElem hlt] at hf
     rcases List.mem_append.1 hf with q | q
     ·exact hno f q
     ·simp only [List.mem_singleton] at q;rw [q,hbt];simp
   refine zi (fun e=>go _ (by rw [e];rfl)) (fun e=>go _ (by rw [e];rfl))
 ·have hge:l.length≤k:=by simpa using hc
  rw [List.take_of_length_le hge] at hno ⊢
  exact h1 ⟨hv',h8,hno⟩
end
section
open Go Go.Proofs
theorem zlo (x:zj) (v:Int):hv [x] v↔x.xLo≤v∧v≤x.xHi:=by simp [hv]
theorem znv (x y:zj) (v:Int):hv [x,y] v↔(x.xLo≤v∧v≤x.xHi)∨(y.xLo≤v∧v≤y.xHi):=by simp [hv]
theorem zlD {n:Nat} (hn:n<4) {s:List zj} (hs:St s (top n)) {m:List zL} (h:bt1 n s=some m):(∀ t∈m,TV t)∧∀ p,pv p→(ft m p=true↔hv s (zct p n)):=by
 have hfl:∀ p,pv p→0≤zct p n∧zct p n≤top n:=fun p hp=>by
  obtain ⟨h0,h1,h2,h3⟩:=hp
  rcases Vb hn with rfl | rfl | rfl | rfl
  ·exact h0
  ·exact h1
  ·exact h2
  ·exact h3
 unfold bt1 at h
 split at h
 ·rename_i x
  have hx:=hs.2 x (by simp)
  have hx2:=hs.1.1 x (by simp)
  split at h
  ·rename_i e
   injection h with h;subst h
   refine ⟨by simp,fun p hp=>?_⟩
   rw [zlo,e]
   have:=hfl p hp
   simp [ft,this]
  ·injection h with h;subst h
   refine ⟨fun t ht=>?_,fun p hp=>?_⟩
   ·rw [List.mem_singleton] at ht;subst ht
    exact ⟨by simp only;omega,by simp only;omega,hx.1,hx2,hx.2⟩
   ·rw [zlo]
    simp [ft,th]
 ·rename_i x y
  have hx:=hs.2 x (by simp)
  have hx2:=hs.1.1 x (by simp)
  have hy:=hs.2 y (by simp)
  have hy2:=hs.1.1 y (by simp)
  have hg:x.xHi+1<y.xLo:=(List.pairwise_cons.1 hs.1.2).1 y (by simp)
  split at h
  ·rename_i e
   injection h with h;subst h
   refine ⟨fun t ht=>?_,fun p hp=>?_⟩
   ·rw [List.mem_singleton] at ht;subst ht
    exact ⟨by simp only;omega,by simp only;omega,by simp only;omega,by simp only;omega,by simp only;omega⟩
   ·rw [znv]
    have:=hfl p hp
    simp only [ft,th,List.all_cons,List.all_nil,Bool.and_true,bne_iff_ne,ne_eq,decide_eq_true_eq,Int.toNat_natCast]
    omega
  ·cases h
 ·cases h
theorem ziz {a:za} (ha:B4 a):∀ {k:Nat} {l:List zL},k≤4→btN a k=some l→(∀ t∈l,TV t)∧∀ p,pv p→(ft l p=true↔∀ n:Nat,n<k→hv (xL a n) (zct p n))
 | 0,l,_,h=>by
  simp only [btN,Option.some.injEq] at h;subst h
  exact ⟨by simp,fun p _=>by simp [ft]⟩
 | k+1,l,hk,h=>by
  unfold btN at h
  split at h
  ·cases h
  ·rename_i l1 h1
   split at h
   ·cases h
   ·rename_i m h2
    injection h with h;subst h
    obtain ⟨a1,b1⟩:=ziz ha (by omega) h1
    obtain ⟨a2,b2⟩:=zlD (show k<4 by omega) (YD ha (by omega) (by omega)) h2
    refine ⟨fun t ht=>(List.mem_append.1 ht).elim (a1 t) (a2 t),fun p hp=>?_⟩
    have e:ft (l1++m) p=(ft l1 p && ft m p):=by simp [ft]
    rw [e,Bool.and_eq_true,b1 p hp,b2 p hp]
    constructor
    ·rintro ⟨q1,q2⟩ n hn
     by_cases en:n=k
     ·subst en;exact q2
     ·exact q1 n (by omega)
    ·intro q
     exact ⟨fun n hn=>q n (by omega),q k (by omega)⟩
theorem zlU {a:za} (ha:B4 a) {l:List zL} (h:btF a=some l):TsV l∧∀ p,pv p→(ft l p=true↔hb4 a p):=by
 unfold btF at h
 split at h
 ·cases h
 ·obtain ⟨h1,h2⟩:=ziz ha (by decide) h
  have:=zc2 h
  exact ⟨⟨h1,by omega⟩,fun p hp=>by rw [h2 p hp,zmr]⟩
theorem zjf {l:List zX} {rest:Bool} (h:zhI l):SV (frS l rest):=by
 have h8:=h.2.1
 have nocall:∀ i j,¬ Ca (frS l rest).xChains i j:=fun i j ⟨c,hc,r,hr,h3,_⟩=>by
  have hc':=List.mem_of_getElem? hc
  simp only [frS,List.mem_singleton] at hc'
  subst hc'
  obtain ⟨f,hf,rfl⟩:=List.mem_map.1 hr
  unfold ruD at h3
  simp only at h3
  split at h3 <;> omega
 refine ⟨⟨by simp [frS],fun c hc=>?_⟩,by simp [frS],fun i _=>zgF (fun j hj=>absurd hj (nocall i j))⟩
 simp only [frS,List.mem_singleton] at hc
 subst hc
 refine ⟨by simpa using h8,fun r hr=>?_⟩
 obtain ⟨f,hf,rfl⟩:=List.mem_map.1 hr
 refine ⟨⟨?_,?_⟩,by simp [ruD,frS]⟩
 ·cases hbt:btF (sd f.xWhere) with
  | none=>exact absurd hbt (h.2.2 f hf)
  | some ts =>
   unfold ruD;rw [hbt]
   exact (zlU (h.1.2 f hf).b4 hbt).1
 ·unfold HV ruD;simp only
  split <;> decide
end
section
open Go Go.Proofs
open Classical in
noncomputable def cv (s:zD):Option (List zq):=if SV s then cf s else none
theorem zj0 {s:zD} {l:List zq} (h:cv s=some l):SV s∧cf s=some l:=by
 unfold cv at h
 split at h
 ·rename_i q;exact ⟨q,h⟩
 ·cases h
theorem znr {s:zD} (hs:SV s):cv s=cf s:=by unfold cv;rw [if_pos hs]
theorem znt {s:zD} {l:List zq} (h:cv s=some l):IV l∧l.length≤60:=znq (zj0 h).1 (zj0 h).2
end
section
open Go Go.Proofs
theorem zmj {s:zD} (hb:Bd s) {κ:List zX×Bool→Prop} (h1:∀ l,cv s=some l→κ (l.map gf,true)) (h2:cv s=none→κ ([],false)):Yi s κ :=
 zfM hb (fun hs l hl=>h1 l (by rw [znr hs];exact hl)) (fun q=>h2 (by
  unfold cv
  split
  ·rename_i hs;exact q hs
  ·rfl))
end
section
open Go Go.Proofs
theorem zmG {s:zD} (hb:Bd s) {κ:List zX×Bool→Prop} (h1:∀ l,cv s=some l→κ (l.map gf,true)) (h2:cv s=none→κ ([],false)):Yx s κ :=
 zfV hb (fun hs l hl=>h1 l (by rw [znr hs];exact hl)) (fun q=>h2 (by
  unfold cv
  split
  ·rename_i hs;exact q hs
  ·rfl))
end
section
open Go.Lib (decDigits)
def lsG:Nat→List (List zr)→List (List UInt8)
 | _,[]=>[]
 | k,c :: cs=>(chl k :: c.map U0)++lsG (k+1) cs
def rl (s:zD):List (List UInt8):=dft s :: lsG 0 s.xChains
theorem zlH (a:List ByteArray):∃ ls:List (List UInt8),a=ls.map B:=⟨a.map (fun x=>x.data.toList),by
 rw [List.map_map]
 conv=>lhs;rw [← List.map_id a]
 exact List.map_congr_left (fun x _=>(zoG x).symm)⟩
theorem zoT {ls:List (List UInt8)} (h:Bt (ls.map B)):ls.length≤1048576∧∀ l,l∈ls→l.length≤1048576:=⟨by simpa using h.1,fun l hl=>by have:=h.2 (B l) (List.mem_map.2 ⟨l,hl,rfl⟩);rwa [YO] at this⟩
def zpe (a:List ByteArray):Prop:=a.length≤9223372036854775807∧∀ x,x∈a→x.size≤9223372036854775807
end
section
open Go Go.Proofs
open Classical in
noncomputable def rdl (ls:List (List UInt8)):Option zD:=match XB ls with
 | some (cs,b)=>if SV ⟨cs,b⟩ then some ⟨cs,b⟩ else none
 | none=>none
theorem zc9 {ls:List (List UInt8)} {s:zD} (h:rdl ls=some s):XB ls=some (s.xChains,s.xAccept)∧SV s:=by
 unfold rdl at h
 split at h
 ·rename_i cs b e
  split at h
  ·rename_i q
   injection h with h;subst h
   exact ⟨e,q⟩
  ·cases h
 ·cases h
theorem zlq {ls:List (List UInt8)} {cs:List (List zr)} {b:Bool} (h:XB ls=some (cs,b)) (hv:SV ⟨cs,b⟩):rdl ls=some ⟨cs,b⟩:=by
 unfold rdl;rw [h];exact if_pos hv
theorem zl2 {ls:List (List UInt8)} (hb:Bl ls) {κ:zD×Bool→Prop} (h1:∀ s,rdl ls=some s→κ (s,true)) (h2:rdl ls=none→κ (⟨[],false⟩,false)):ZM (ls.map B) κ:=by
 refine zcj hb (fun st cs a e1 e2=>h1 _ ?_) (fun hno=>h2 ?_)
 ·cases ls with
  | nil=>simp only [Zk,Option.some.injEq,Prod.mk.injEq] at e1;obtain ⟨_,rfl,rfl⟩:=e1;exact absurd e2 zov
  | cons l ls=>exact zlq (zgo (by simp) e1) e2
 ·cases e:rdl ls with
  | none=>rfl
  | some s =>
   obtain ⟨e1,e2⟩:=zc9 e
   obtain ⟨st,h3⟩:=zgt e1 e2
   exact absurd e2 (hno _ _ _ h3)
theorem zl4 {ls:List (List UInt8)} (hb:Bl ls) {κ:zD×Bool→Prop} (h1:∀ s,rdl ls=some s→κ (s,true)) (h2:rdl ls=none→κ (⟨[],false⟩,false)):ZJ (ls.map B) κ:=by
 refine zcw hb (fun cs a e1 e2=>h1 _ (zlq e1 e2)) (fun hno=>h2 ?_)
 cases e:rdl ls with
 | none=>rfl
 | some s =>
  obtain ⟨e1,e2⟩:=zc9 e
  exact absurd e2 (hno _ _ e1)
open Classical in
noncomputable def ctR (ls:List (List UInt8)):Option zD:=match rdl ls with
 | none=>none
 | some s=>match cv s with
  | none=>none
  | some l=>if zhI (l.map gf) then some (frS (l.map gf) s.xAccept) else none
theorem zle {ls:List (List UInt8)} {x:zD} (h:ctR ls=some x):∃ s l,rdl ls=some s∧cv s=some l∧zhI (l.map gf)∧x=frS (l.map gf) s.xAccept:=by
 unfold ctR at h
 split at h
 ·cases h
 ·rename_i s hs
  split at h
  ·cases h
  ·rename_i l hl
   split at h
   ·rename_i q
    injection h with h
    exact ⟨s,l,hs,hl,q,h.symm⟩
   ·cases h
theorem zn7 {ls:List (List UInt8)} {x:zD} (h:ctR ls=some x):SV x:=by
 obtain ⟨s,l,_,_,q,rfl⟩:=zle h
 exact zjf q
theorem zac {ls:List (List UInt8)} (hb:Bl ls) {κ:List ByteArray×Bool→Prop} (h1:∀ x,ctR ls=some x→κ (Vn x,true)) (h2:ctR ls=none→κ ([],false)):yC (ls.map B) κ:=by
 unfold yC
 unfold ctR at h1 h2
 refine zl2 hb (fun s hs=>jK ?_) (fun q=>jt (h2 (by rw [q])))
 have hbs:=(zc9 hs).2.bs
 refine zmG hbs.bd (fun l hl=>jK ?_) (fun q=>jt (h2 (by rw [hs];simp only [q])))
 obtain ⟨i1,i2⟩:=znt hl
 have hF:=zfc i1 i2
 by_cases h:zhI (l.map gf)
 ·refine VO hF.fb (fun _=>jK ?_) (fun q=>absurd h q)
  have hx:=zjf (rest:=s.xAccept) h
  refine zcG hx.bs.bd (fun _=>h1 _ ?_) (fun q=>absurd hx q)
  rw [hs];simp only [hl];exact if_pos h
 ·refine VO hF.fb (fun q=>absurd q h) (fun _=>jt (h2 ?_))
  rw [hs];simp only [hl];exact if_neg h
theorem VW {ls:List (List UInt8)} (hb:Bl ls) {κ:List ByteArray×Bool→Prop} (h1:∀ x,ctR ls=some x→κ (Vn x,true)) (h2:ctR ls=none→κ ([],false)):ZF (ls.map B) κ:=by
 unfold ZF
 unfold ctR at h1 h2
 refine zl4 hb (fun s hs=>jK ?_) (fun q=>jt (h2 (by rw [q])))
 have hbs:=(zc9 hs).2.bs
 refine zmj hbs.bd (fun l hl=>?_) (fun q=>?_)
 ·obtain ⟨i1,i2⟩:=znt hl
  have hF:=zfc i1 i2
  by_cases h:zhI (l.map gf)
  ·refine Ul hF.fb (fun _=>xf (jK (jK ?_))) (fun q=>absurd h q)
   have hx:=zjf (rest:=s.xAccept) h
   refine zcm hx.bs.bd (fun _=>h1 _ ?_) (fun q=>absurd hx q)
   rw [hs];simp only [hl];exact if_pos h
  ·refine Ul hF.fb (fun q=>absurd q h) (fun _=>xf (jK (jt (h2 ?_))))
   rw [hs];simp only [hl];exact if_neg h
 ·have h0:κ ([],false):=h2 (by rw [hs];simp only [q])
  have hF:FV []:=⟨by simp,by simp⟩
  exact Ul hF.fb (fun _=>xf (jt (jt h0))) (fun _=>xf (jt (jt h0)))
theorem ctW (ls:List (List UInt8)):∃ w ok,w.length≤1048576∧(∀ κ:List ByteArray×Bool→Prop,Bl ls→κ (w,ok)→yC (ls.map B) κ)∧∀ κ:List ByteArray×Bool→Prop,Bl ls→κ (w,ok)→ZF (ls.map B) κ:=by
 cases e:ctR ls with
 | none=>exact ⟨[],false,by simp,fun κ hb h=>zac hb (fun x q=>by rw [e] at q;cases q) (fun _=>h),fun κ hb h=>VW hb (fun x q=>by rw [e] at q;cases q) (fun _=>h)⟩
 | some x =>
  have:=(zkg (zn7 e)).2.1
  refine ⟨Vn x,true,by omega,fun κ hb h=>zac hb (fun y q=>?_) (fun q=>by rw [e] at q;cases q),fun κ hb h=>VW hb (fun y q=>?_) (fun q=>by rw [e] at q;cases q)⟩
  ·rw [e] at q;injection q with q;subst q;exact h
  ·rw [e] at q;injection q with q;subst q;exact h
theorem zaZ (a:List ByteArray) (hl:zpe a):ZP a (fun x=>x=true):=by
 obtain ⟨ls,rfl⟩:=zlH a
 unfold ZP
 refine zh9 hl.1 hl.2 (by decide) (by decide) (zi (fun _=>rfl) (fun hx=>by simp at hx)) (fun r r0 r1 hb=>zi (fun hx=>by simp at hx;omega) (fun _=>?_))
 have hlm:(ls.map B).length≤4294967296:=by have:=hb.1;omega
 have bl:Bl ls:=by
  obtain ⟨b1,b2⟩:=zoT hb
  exact ⟨by omega,fun l hl=>by have:=b2 l hl;omega⟩
 obtain ⟨w,ok,hw,hI,hS⟩:=ctW ls
 have hx:=zkK (ls.map B) hb.1
 have hx2:=zkK w hw
 refine VH hlm (hS _ bl (VH hlm (hI _ bl ?_)))
 refine xf (UM (by omega) (jK (zi (fun e=>by simp at e) (fun _=>?_))))
 refine VH hlm (UM hlm (jK (zby hb.1 ?_)))
 refine xf (zi (fun hx=>by simp at hx;omega) (fun _=>UM (by omega) (jK (zi (fun e=>by simp at e) (fun _=>?_)))))
 refine zby hw ?_
 show yG (mkL fX 1 w).2 1 _
 refine zbH hw (zi (fun hx=>by simp at hx;omega) (fun _=>zi (fun hx=>by simp at hx) (fun _=>?_)))
 refine VH hlm (hI _ bl (xf (UM (by omega) (jK (zi (fun e=>by simp at e) (fun _=>?_))))))
 exact zbH hw (zi (fun hx=>by simp at hx;omega) (fun _=>zi (fun hx=>by simp at hx) (fun _=>rfl)))
end
end Go.Proofs.YtgpdnnhmndlljaaGreatDoor
