import Derived.Test.YtgpdnnhmndlljaaGreatDoorMP1
set_option linter.unusedSimpArgs false
set_option linter.unusedVariables false
set_option linter.unusedSectionVars false
namespace Go.Proofs.YtgpdnnhmndlljaaGreatDoor
section
open Go Go.Proofs
theorem zfL {a b:za} (ha:B4 a) (hb:B4 b) {κ:List z8→Prop} (h:κ ((YC a b).map bx)):Ze (bx a) (bx b) κ:=by
 unfold Ze
 refine zdG ha hb (VH (zo (fun e=>?_) (fun e=>?_)))
 ·unfold YC at h;rw [if_pos e] at h
  unfold jnW
  refine VH (zo (fun e2=>?_) (fun e2=>?_))
  ·rw [if_neg (by simpa using e2)] at h;exact jk (by simp) h
  ·rw [if_pos (by simpa using e2)] at h;exact h
 unfold YC at h;rw [if_neg (by simp [e])] at h
 clear e
 obtain ⟨a0,a1,a2,a3⟩:=a
 obtain ⟨b0,b1,b2,b3⟩:=b
 have ha0:=ha
 obtain ⟨p0,p1,p2,p3⟩:=ha
 obtain ⟨q0,q1,q2,q3⟩:=hb
 simp only at p0 p1 p2 p3 q0 q1 q2 q3 h
 have m0:=XC p0 q0.1
 have m1:=XC p1 q1.1
 have m2:=XC p2 q2.1
 refine ⟨5,?_⟩
 refine jo (jQ (jQ ?_))
 refine zq 0 rfl (by simp [L4,bx]) (zq 0 rfl (by simp [L4,bx]) (x5 (n:=(0:Int)) (by decide) (by decide) (zaw (top:=65535) q0 (by decide) (by decide) (Xa p0 (Uh q0) (by decide) (by decide) (by decide) (by decide) ?_))))
 refine zq 0 rfl (by simp [L4,bx]) (zq 0 rfl (by simp [L4,bx]) (Xa p0 q0 (by decide) (by decide) (by decide) (by decide) (zaU (a:=⟨a0,a1,a2,a3⟩) ha0 (t:=(0:Int)) (by decide) (by decide) (by simp) ?_)))
 refine yN (l:=L4 ⟨a0,a1,a2,a3⟩) (by simp [L4,bx]) (zcq ha0) (Zf (a:=⟨a0,a1,a2,a3⟩) (f:=(0:Int)) (by decide) (by decide) (zy (by decide) (by decide) ?_))
 have c1:B4 ⟨jj a0 b0,a1,a2,a3⟩:=⟨m0,p1,p2,p3⟩
 refine jo (jQ (jQ ?_))
 refine zq 1 rfl (by simp [L4,bx]) (zq 1 rfl (by simp [L4,bx]) (x5 (n:=(1:Int)) (by decide) (by decide) (zaw (top:=65535) q1 (by decide) (by decide) (Xa p1 (Uh q1) (by decide) (by decide) (by decide) (by decide) ?_))))
 refine zq 1 rfl (by simp [L4,bx]) (zq 1 rfl (by simp [L4,bx]) (Xa p1 q1 (by decide) (by decide) (by decide) (by decide) (zaU (a:=⟨jj a0 b0,a1,a2,a3⟩) c1 (t:=(1:Int)) (by decide) (by decide) (by have:=VJ (jj a0 (Zu b0 65535)) (Uj ⟨a0,a1,a2,a3⟩ 0 (jj a0 (Zu b0 65535)));simp only [List.length_append,List.length_map,List.length_nil];omega) ?_)))
 refine yN (l:=L4 ⟨jj a0 b0,a1,a2,a3⟩) (by simp [L4,bx]) (zcq c1) (Zf (a:=⟨jj a0 b0,a1,a2,a3⟩) (f:=(1:Int)) (by decide) (by decide) (zy (by decide) (by decide) ?_))
 have c2:B4 ⟨jj a0 b0,jj a1 b1,a2,a3⟩:=⟨m0,m1,p2,p3⟩
 refine jo (jQ (jQ ?_))
 refine zq 2 rfl (by simp [L4,bx]) (zq 2 rfl (by simp [L4,bx]) (x5 (n:=(2:Int)) (by decide) (by decide) (zaw (top:=255) q2 (by decide) (by decide) (Xa p2 (Uh q2) (by decide) (by decide) (by decide) (by decide) ?_))))
 refine zq 2 rfl (by simp [L4,bx]) (zq 2 rfl (by simp [L4,bx]) (Xa p2 q2 (by decide) (by decide) (by decide) (by decide) (zaU (a:=⟨jj a0 b0,jj a1 b1,a2,a3⟩) c2 (t:=(2:Int)) (by decide) (by decide) (by
  have:=VJ (jj a0 (Zu b0 65535)) (Uj ⟨a0,a1,a2,a3⟩ 0 (jj a0 (Zu b0 65535)))
  have:=VJ (jj a1 (Zu b1 65535)) (Uj ⟨jj a0 b0,a1,a2,a3⟩ 1 (jj a1 (Zu b1 65535)))
  simp only [List.length_append,List.length_map,List.length_nil];omega) ?_)))
 refine yN (l:=L4 ⟨jj a0 b0,jj a1 b1,a2,a3⟩) (by simp [L4,bx]) (zcq c2) (Zf (a:=⟨jj a0 b0,jj a1 b1,a2,a3⟩) (f:=(2:Int)) (by decide) (by decide) (zy (by decide) (by decide) ?_))
 have c3:B4 ⟨jj a0 b0,jj a1 b1,jj a2 b2,a3⟩:=⟨m0,m1,m2,p3⟩
 refine jo (jQ (jQ ?_))
 refine zq 3 rfl (by simp [L4,bx]) (zq 3 rfl (by simp [L4,bx]) (x5 (n:=(3:Int)) (by decide) (by decide) (zaw (top:=7) q3 (by decide) (by decide) (Xa p3 (Uh q3) (by decide) (by decide) (by decide) (by decide) ?_))))
 refine zq 3 rfl (by simp [L4,bx]) (zq 3 rfl (by simp [L4,bx]) (Xa p3 q3 (by decide) (by decide) (by decide) (by decide) (zaU (a:=⟨jj a0 b0,jj a1 b1,jj a2 b2,a3⟩) c3 (t:=(3:Int)) (by decide) (by decide) (by
  have:=VJ (jj a0 (Zu b0 65535)) (Uj ⟨a0,a1,a2,a3⟩ 0 (jj a0 (Zu b0 65535)))
  have:=VJ (jj a1 (Zu b1 65535)) (Uj ⟨jj a0 b0,a1,a2,a3⟩ 1 (jj a1 (Zu b1 65535)))
  have:=VJ (jj a2 (Zu b2 255)) (Uj ⟨jj a0 b0,jj a1 b1,a2,a3⟩ 2 (jj a2 (Zu b2 255)))
  simp only [List.length_append,List.length_map,List.length_nil];omega) ?_)))
 refine yN (l:=L4 ⟨jj a0 b0,jj a1 b1,jj a2 b2,a3⟩) (by simp [L4,bx]) (zcq c3) (Zf (a:=⟨jj a0 b0,jj a1 b1,jj a2 b2,a3⟩) (f:=(3:Int)) (by decide) (by decide) (zy (by decide) (by decide) ?_))
 refine jK ?_
 simp only [List.map_append] at h
 exact h
end
section
open Go Go.Proofs
def hdm (a b:za) (k:Nat):za:=⟨if 0<k then jj a.x0 b.x0 else a.x0,if 1<k then jj a.x1 b.x1 else a.x1,if 2<k then jj a.x2 b.x2 else a.x2,if 3<k then jj a.x3 b.x3 else a.x3⟩
def rst (a b:za) (k:Nat):List zh:=xV (ue a k) (ue b k) (top k)
def mt (a b:za) (k:Nat):List zh:=jj (ue a k) (ue b k)
def pcn (a b:za) (k:Nat):List za:=pc (rst a b k) (Uj (hdm a b k) k (rst a b k))
def pcs (a b:za) (k:Nat):List za:=(List.range k).flatMap (pcn a b)
theorem VF (a b:za) (k:Nat):pcs a b (k+1)=pcs a b k++pcn a b k:=by simp [pcs,List.range_succ]
theorem zkt (a b:za):pcs a b 4=pc (xV a.x0 b.x0 65535) ⟨xV a.x0 b.x0 65535,a.x1,a.x2,a.x3⟩ ++
 pc (xV a.x1 b.x1 65535) ⟨jj a.x0 b.x0,xV a.x1 b.x1 65535,a.x2,a.x3⟩ ++
 pc (xV a.x2 b.x2 255) ⟨jj a.x0 b.x0,jj a.x1 b.x1,xV a.x2 b.x2 255,a.x3⟩ ++
 pc (xV a.x3 b.x3 7) ⟨jj a.x0 b.x0,jj a.x1 b.x1,jj a.x2 b.x2,xV a.x3 b.x3 7⟩:=by
 rw [VF,VF,VF,VF];rfl
theorem zkU {a b:za} (h:em4 (xM a b)=false):YC a b=pcs a b 4:=by
 unfold YC;rw [if_neg (by simp [h]),zkt]
theorem YQ {k:Nat} (h:k<4):k=0∨k=1∨k=2∨k=3:=by omega
theorem zmi (a b:za) {k:Nat} (h:k<4):∀ c∈pcn a b k,c∈pcs a b 4:=fun c hc=>by
 unfold pcs;exact List.mem_flatMap.2 ⟨k,by simpa using h,hc⟩
theorem zkD (a b:za) {k:Nat} (h:k<4):Uj (hdm a b k) k (mt a b k)=hdm a b (k+1):=by
 rcases YQ h with rfl | rfl | rfl | rfl <;> rfl
theorem znG {a b:za} (ha:F4 a) {k:Nat} (h:k<4) {r:List zh}:F4 (Uj (hdm a b k) k r)↔r.length≤40∧∀ j,j<k→(mt a b j).length≤40:=by
 obtain ⟨h0,h1,h2,h3⟩:=ha
 rcases YQ h with rfl | rfl | rfl | rfl
 ·constructor
  ·intro q;exact ⟨q.1,fun j hj=>by omega⟩
  ·intro q;exact ⟨q.1,h1,h2,h3⟩
 ·constructor
  ·intro q
   refine ⟨q.2.1,fun j hj=>?_⟩
   have ej:j=0:=by omega
   subst ej
   exact q.1
  ·intro q;exact ⟨q.2 0 (by omega),q.1,h2,h3⟩
 ·constructor
  ·intro q
   refine ⟨q.2.2.1,fun j hj=>?_⟩
   obtain rfl | rfl:j=0∨j=1:=by omega
   ·exact q.1
   ·exact q.2.1
  ·intro q;exact ⟨q.2 0 (by omega),q.2 1 (by omega),q.1,h3⟩
 ·constructor
  ·intro q
   refine ⟨q.2.2.2,fun j hj=>?_⟩
   obtain rfl | rfl | rfl:j=0∨j=1∨j=2:=by omega
   ·exact q.1
   ·exact q.2.1
   ·exact q.2.2.1
  ·intro q;exact ⟨q.2 0 (by omega),q.2 1 (by omega),q.2 2 (by omega),q.1⟩
theorem zeY {σ:Type} {K:σ→Prop} {B:(σ→Prop)→Prop} (P:σ→Prop) (h1:∀ r,P r→K r) (h2:∀ K',(∀ r,P r→K' r)→B K'):jnW K B:=h2 K h1
def zfx (a b:za):List za×Bool:=if ∀ c∈YC a b,F4 c then (YC a b,true) else ([],false)
theorem zeQ {a b:za} (ha:B4 a) (hb:B4 b) (hf:F4 a) {κ:List za×Bool→Prop} (h:κ (zfx a b)):yq a b κ:=by
 have yes:(∀ c∈YC a b,F4 c)→κ (znf (some (YC a b))):=fun q=>by
  unfold zfx at h;rw [if_pos q] at h;exact h
 have no:(¬ ∀ c∈YC a b,F4 c)→κ (znf none):=fun q=>by
  unfold zfx at h;rw [if_neg q] at h;exact h
 clear h
 unfold yq XP
 refine zeJ (zo (fun e=>?_) (fun e=>zdP ha hb (zo (fun e2=>?_) (fun e2=>?_))))
 ·have hc:YC a b=[]:=by
   have:em4 (xM a b)=true:=by
    simp only [em4,decide_eq_true_eq,xM] at e ⊢
    rcases e with e | e | e | e <;> simp [e,jj]
   unfold YC;rw [if_pos this,if_pos e]
  rw [hc] at yes;exact yes (by simp)
 ·have hc:YC a b=[a]:=by
   unfold YC;rw [if_pos (by simpa using e2),if_neg (by simp [e])]
  rw [hc] at yes
  refine jo (jk (by simp) ?_)
  exact yes (by simpa using hf)
 have e3:em4 (xM a b)=false:=by simpa using e2
 rw [zkU e3] at yes no
 clear e e2 e3
 refine zX 4 (fun s=>s.2.2.2) (fun k (s:List (List zh)×Option (List za)×Bool×Int)=>s.2.2.2=(k:Int)∧k≤4∧(∃ hd,s.1=L4 hd∧(s.2.2.1=true→hd=hdm a b k))∧(s.2.2.1=true↔∀ j,j<k→(mt a b j).length≤40)∧s.2.1=some (pcs a b k)∧∀ c∈pcs a b k,F4 c) (fun k s h=>h.1) (fun k s h=>h.2.1) ?_ ⟨rfl,by omega,⟨a,rfl,fun _=>rfl⟩,by simp,rfl,by simp [pcs]⟩
 rintro k ⟨xs,z,fits,_⟩ next ⟨rfl,hk,⟨hd,hxs,hfx⟩,hfit,hz,hpre⟩ hn
 simp only at hxs hfx hfit hz
 subst hxs hz
 refine zo (fun hc=>?_) (fun hc=>?_)
 rotate_left
 ·have hge:4≤(k:Int):=by simpa using hc
  obtain rfl:k=4:=by omega
  exact yes hpre
 have hlt:k<4:=by
  have:(k:Int)<4:=by simpa using hc
  omega
 have k0:(0:Int)≤k:=by omega
 have k3:(k:Int)≤3:=by omega
 have sa:=Yv ha k0 k3
 have sb:=Yv hb k0 k3
 have tl:=zab k
 have fin2:∀ (z':List za) (hd':za),z'=pcs a b (k+1)→(∀ c∈z',F4 c)→(fits=true→hd'=hdm a b k)→∀ l ok,(l,ok)=lim (mt a b k)→zJ (L4 hd') k (fun e432=>ifW fits (jx (k:Int) 1 (fun t505=>next ((L4 hd').set (k:Int).toNat l,some z',ok,t505))) (jx (k:Int) 1 (fun t505=>next ((L4 hd').set (k:Int).toNat l,some z',false,t505)))):=by
  intro z' hd' hz' hF hh l ok hl
  subst hz'
  refine Zf k0 k3 (zo (fun e=>?_) (fun e=>?_))
  ·refine zy (by omega) (by omega) (hn hlt _ ⟨by simp,by omega,⟨Uj hd' k l,V0 k0 k3,fun q=>?_⟩,?_,rfl,hF⟩)
   ·simp only at q
    rw [hh e]
    unfold lim at hl
    split at hl
    ·injection hl with _ h2;rw [q] at h2;cases h2
    ·injection hl with h1 _;rw [h1,zkD a b hlt]
   ·simp only
    unfold lim at hl
    constructor
    ·intro q j hj
     by_cases ej:j=k
     ·subst ej
      split at hl
      ·injection hl with _ h2;rw [q] at h2;cases h2
      ·omega
     ·exact hfit.1 e j (by omega)
    ·intro q
     have:=q k (by omega)
     rw [if_neg (by omega)] at hl
     injection hl
  ·refine zy (by omega) (by omega) (hn hlt _ ⟨by simp,by omega,⟨Uj hd' k l,V0 k0 k3,fun q=>by cases q⟩,?_,rfl,hF⟩)
   simp only
   constructor
   ·intro q;cases q
   ·intro q
    have:=hfit.2 (fun j hj=>q j (by omega))
    rw [this] at e;cases e
 have piece:rst a b k≠[]→Uj (hdm a b k) k (rst a b k)∈pcs a b 4:=fun q=>zmi a b hlt _ (by unfold pcn pc;rw [if_neg q];simp)
 refine jQ (zeY (fun r=>r=lim (rst a b k)) ?_ ?_)
 rotate_left
 ·intro K hK
  have leaf:ut (ue a k) (ue b k) (top k) K:=zh1 sa sb (by omega) (by omega) (hK _ rfl)
  refine ⟨Zf k0 k3 ⟨?_,?_⟩,Zf k0 k3 ⟨?_,?_⟩,ZR k0 k3 ⟨?_,?_⟩⟩
  ·exact Zf k0 k3 (ZR k0 k3 leaf)
  ·exact ZR k0 k3 (Zf k0 k3 leaf)
  ·exact Zf k0 k3 (ZR k0 k3 leaf)
  ·exact ZR k0 k3 (Zf k0 k3 leaf)
  ·exact Zf k0 k3 (Zf k0 k3 leaf)
  ·exact Zf k0 k3 (Zf k0 k3 leaf)
 rintro ⟨l,okl⟩ hl
 refine zeY (fun t=>t=(!okl || (decide (0<(l.length:Int)) && !fits))) ?_ ?_
 rotate_left
 ·intro K hK
  have hK:=hK _ rfl
  refine zo (fun e=>?_) (fun e=>?_)
  ·have:okl=false:=by simpa using e
   rw [this] at hK;simpa using hK
  ·have:okl=true:=by simpa using e
   rw [this] at hK
   refine zo (fun e=>?_) (fun e=>?_)
   ·rw [e] at hK;simpa using hK
   ·rw [e] at hK;simpa using hK
 rintro t rfl
 refine zo (fun e=>?_) (fun e=>?_)
 ·
  refine jK (no (fun q=>?_))
  unfold lim at hl
  split at hl
  ·rename_i h40
   have hne:rst a b k≠[]:=fun f=>by rw [f] at h40;simp at h40
   have:=((znG hf hlt).1 (q _ (piece hne))).1
   omega
  ·rename_i h40
   injection hl with h1 h2
   subst h1 h2
   have e':0<(rst a b k).length∧fits=false:=by simpa using e
   have hne:rst a b k≠[]:=fun f=>by rw [f] at e';simp at e'
   have:=hfit.2 ((znG hf hlt).1 (q _ (piece hne))).2
   rw [this] at e';simp at e'
 unfold lim at hl
 split at hl
 ·injection hl with h1 h2
  subst h1 h2
  simp at e
 rename_i h40
 injection hl with h1 h2
 subst h1 h2
 have e':rst a b k≠[]→fits=true:=fun q=>by
  cases fits with
  | true=>rfl
  | false =>
   have:0<(rst a b k).length:=List.length_pos_iff.2 q
   simp [this] at e
 clear e
 refine zeY (fun s=>s.1=some (pcs a b (k+1))∧(∀ c∈pcs a b (k+1),F4 c)∧∃ hd',s.2=L4 hd'∧(fits=true→hd'=hdm a b k)) ?_ ?_
 ·rintro ⟨z,ys⟩ ⟨hz,hF,hd',hy,hh⟩
  simp only at hz hy
  subst hz hy
  refine zeY (fun r=>r=lim (mt a b k)) ?_ ?_
  ·rintro ⟨m,okm⟩ hm
   exact fin2 _ hd' rfl hF hh m okm hm
  ·intro K hK
   have leaf:xj (ue a k) (ue b k) (top k) K:=Ue sa sb (by omega) (by omega) (hK _ rfl)
   refine ⟨Zf k0 k3 ⟨?_,?_⟩,Zf k0 k3 ⟨?_,?_⟩,ZR k0 k3 ⟨?_,?_⟩⟩
   ·exact Zf k0 k3 (ZR k0 k3 leaf)
   ·exact ZR k0 k3 (Zf k0 k3 leaf)
   ·exact Zf k0 k3 (ZR k0 k3 leaf)
   ·exact ZR k0 k3 (Zf k0 k3 leaf)
   ·exact Zf k0 k3 (Zf k0 k3 leaf)
   ·exact Zf k0 k3 (Zf k0 k3 leaf)
 ·intro K hK
  refine zo (fun e=>?_) (fun e=>?_)
  ·have hne:rst a b k≠[]:=fun f=>by rw [f] at e;simp at e
   have hft:=e' hne
   have ed:=hfx hft
   subst ed
   have hpc:pcs a b (k+1)=pcs a b k++[Uj (hdm a b k) k (rst a b k)]:=by
    rw [VF];unfold pcn pc;rw [if_neg hne]
   refine ⟨_,_,_,_,rfl,Zf (a:=hdm a b k) k0 k3 ⟨(Uj (hdm a b k) k (rst a b k)).x0,(Uj (hdm a b k) k (rst a b k)).x1,(Uj (hdm a b k) k (rst a b k)).x2,(Uj (hdm a b k) k (rst a b k)).x3,V0 (a:=hdm a b k) k0 k3,?_⟩⟩
   have hl1:(pcs a b k).length≤4:=by
    have h1:∀ n,(pcs a b n).length≤n:=by
     intro n
     induction n with
     | zero=>simp [pcs]
     | succ n ih =>
      have:=VJ (rst a b n) (Uj (hdm a b n) n (rst a b n))
      rw [VF,List.length_append];unfold pcn;omega
    have:=h1 k;omega
   refine jo (jk (by simp;omega) (jK (hK _ ⟨by rw [hpc],?_,hdm a b k,rfl,fun _=>rfl⟩)))
   intro c hc
   rw [hpc] at hc
   rcases List.mem_append.1 hc with q | q
   ·exact hpre c q
   ·have:c=Uj (hdm a b k) k (rst a b k):=by simpa using q
    rw [this]
    exact (znG hf hlt).2 ⟨by omega,hfit.1 hft⟩
  ·have hnil:rst a b k=[]:=by
    cases hr:rst a b k with
    | nil=>rfl
    | cons x r=>rw [hr] at e;simp at e
   have hpc:pcs a b (k+1)=pcs a b k:=by
    rw [VF];unfold pcn pc;rw [if_pos hnil];simp
   exact hK _ ⟨by rw [hpc],by rw [hpc];exact hpre,hd,rfl,hfx⟩
end
section
def pv (p:zW):Prop:=(0≤p.xFrom∧p.xFrom≤65535)∧(0≤p.xTo∧p.xTo≤65535)∧(0≤p.xPort∧p.xPort≤255)∧(0≤p.xProto∧p.xProto≤7)
instance (p:zW):Decidable (pv p):=by unfold pv;infer_instance
def tv (t:Int):Prop:=0≤t∧t≤1000000
instance (t:Int):Decidable (tv t):=by unfold tv;infer_instance
theorem zix {n:Int} (h0:0≤n) (h1:n<4) {κ:Int→Prop} (h:κ (if n≤1 then 65535 else if n=2 then 255 else 7)):js n κ:=by
 unfold js jnW
 refine zo (fun hc=>by simp at hc;omega) (fun _=>zo (fun hc=>by simp at hc;omega) (fun _=>?_))
 have:n=0∨n=1∨n=2∨n=3:=by omega
 rcases this with rfl | rfl | rfl | rfl
 ·exact zq 0 rfl (by simp [zA]) (by simpa [zA] using h)
 ·exact zq 1 rfl (by simp [zA]) (by simpa [zA] using h)
 ·exact zq 2 rfl (by simp [zA]) (by simpa [zA] using h)
 ·exact zq 3 rfl (by simp [zA]) (by simpa [zA] using h)
def Yk (p:zW):Nat→Int
 | 0=>p.xFrom
 | 1=>p.xTo
 | 2=>p.xPort
 | _=>p.xProto
def zlN:Nat→Int
 | 0=>65535
 | 1=>65535
 | 2=>255
 | _=>7
theorem zkk (p:zW):pv p↔∀ i,i<4→0≤Yk p i∧Yk p i≤zlN i:=by
 unfold pv
 constructor
 ·rintro ⟨h0,h1,h2,h3⟩ i hi
  match i,hi with
  | 0,_=>exact h0
  | 1,_=>exact h1
  | 2,_=>exact h2
  | 3,_=>exact h3
 ·intro h
  exact ⟨h 0 (by omega),h 1 (by omega),h 2 (by omega),h 3 (by omega)⟩
theorem zfR {p:zW} {κ:Bool→Prop} (h:κ (decide (pv p))):Xp p κ:=by
 unfold Xp yA
 refine zX 4 (fun s=>s) (fun k s=>s=(k:Int)∧k≤4∧∀ i,i<k→0≤Yk p i∧Yk p i≤zlN i) (fun k s h=>h.1) (fun k s h=>h.2.1) ?_ ⟨rfl,by omega,fun i hi=>by omega⟩
 rintro k _ next ⟨rfl,hk,hi⟩ hn
 refine zo (fun hlt=>?_) (fun hge=>?_)
 ·have hlt:k<4:=by simp at hlt;omega
  have hno:¬ (0≤Yk p k∧Yk p k≤zlN k)→κ false:=fun hno=>by
   rw [decide_eq_false (fun hv=>hno ((zkk p).1 hv k hlt))] at h
   exact h
  refine zq k rfl (by simpa using hlt) ?_
  have e:([p.xFrom,p.xTo,p.xPort,p.xProto]:List Int)[k]'(by simpa using hlt)=Yk p k:=by
   match k,hlt with
   | 0,_=>rfl
   | 1,_=>rfl
   | 2,_=>rfl
   | 3,_=>rfl
  simp only [e]
  unfold jnW
  refine zo (fun hc=>?_) (fun hc=>zix (by omega) (by omega) ?_)
  ·simp only [UB];exact hno (by simp at hc;omega)
  ·have et:(if (k:Int)≤1 then (65535:Int) else if (k:Int)=2 then 255 else 7)=zlN k:=by
    match k,hlt with
    | 0,_=>rfl
    | 1,_=>rfl
    | 2,_=>rfl
    | 3,_=>rfl
   rw [et]
   refine zo (fun h2=>hno (by simp at h2;omega)) (fun h2=>zy (by omega) (by omega) (hn hlt _ ⟨by simp,by omega,fun i hi'=>?_⟩))
   by_cases e:i=k
   ·subst e;simp at hc h2;exact ⟨hc,h2⟩
   ·exact hi i (by omega)
 ·have:k=4:=by simp at hge;omega
  subst this
  rw [decide_eq_true ((zkk p).2 hi)] at h
  exact h
def lv (t:Int):Prop:=0≤t∧t≤1000
instance (t:Int):Decidable (lv t):=by unfold lv;infer_instance
end
section
open Go Go.Proofs
def BV (b:z8):Prop:=∃ a,b=bx a∧B4 a∧F4 a
noncomputable instance (b:z8):Decidable (BV b):=Classical.propDecidable _
def sd (b:z8):za:=match b.xSides with | [x0,x1,x2,x3]=>⟨x0,x1,x2,x3⟩ | _=>zdu
theorem BV.eq {b:z8} (h:BV b):b=bx (sd b):=by obtain ⟨a,rfl,_⟩:=h;rfl
theorem BV.b4 {b:z8} (h:BV b):B4 (sd b):=by obtain ⟨a,rfl,h,_⟩:=h;exact h
theorem BV.f4 {b:z8} (h:BV b):F4 (sd b):=by obtain ⟨a,rfl,_,h⟩:=h;exact h
theorem zfd {a:za}:BV (bx a)↔B4 a∧F4 a:=⟨fun h=>⟨h.b4,h.f4⟩,fun h=>⟨a,rfl,h⟩⟩
theorem zgN {b:z8} (h:BV b):b.xSides.length=4:=by obtain ⟨a,rfl,_⟩:=h;rfl
theorem zn9 {α:Type} {l:List α} (h:l.length=4):∃ a b c d,l=[a,b,c,d]:=by
 match l,h with
 | [a,b,c,d],_=>exact ⟨a,b,c,d,rfl⟩
theorem znb {b:z8} (h:b.xSides.length=4):b=bx (sd b):=by
 obtain ⟨x0,x1,x2,x3,e⟩:=zn9 h
 obtain ⟨s⟩:=b
 simp only at e
 subst e
 rfl
theorem zgM {a:za}:BV (bx a)↔∀ n:Nat,n<4→SpV (ue a n) (top n):=by
 rw [zfd]
 constructor
 ·rintro ⟨⟨b0,b1,b2,b3⟩,f0,f1,f2,f3⟩ n hn
  rcases YQ hn with rfl | rfl | rfl | rfl
  ·exact ⟨f0,b0⟩
  ·exact ⟨f1,b1⟩
  ·exact ⟨f2,b2⟩
  ·exact ⟨f3,b3⟩
 ·intro h
  obtain ⟨f0,b0⟩:=h 0 (by decide)
  obtain ⟨f1,b1⟩:=h 1 (by decide)
  obtain ⟨f2,b2⟩:=h 2 (by decide)
  obtain ⟨f3,b3⟩:=h 3 (by decide)
  exact ⟨⟨b0,b1,b2,b3⟩,f0,f1,f2,f3⟩
def Bb (b:z8):Prop:=b.xSides.length≤4294967296∧∀ x∈b.xSides,x.length≤4294967296
def Fb (l:List zS):Prop:=l.length≤4294967296∧∀ f∈l,Bb f.xWhere
theorem BV.bb {b:z8} (h:BV b):Bb b:=by
 obtain ⟨a,rfl,_,f0,f1,f2,f3⟩:=h
 refine ⟨by simp [bx],fun x hx=>?_⟩
 simp only [bx,List.mem_cons,List.not_mem_nil,or_false] at hx
 rcases hx with rfl | rfl | rfl | rfl <;> omega
theorem zj6 (a:za) {n:Nat} (h:n<4):ue a n∈(bx a).xSides:=by
 rcases YQ h with rfl | rfl | rfl | rfl <;> simp [ue,bx]
theorem zee {b:z8} (hb:Bb b) {κ:Bool→Prop} (h:κ (decide (BV b))):Y0 b κ:=by
 unfold Y0
 have h1:=hb.1
 refine zo (fun e=>?_) (fun e=>?_)
 ·have e':¬ b.xSides.length=4:=fun q=>by rw [q] at e;simp at e
  rw [decide_eq_false (fun q=>e' (zgN q))] at h;exact h
 have e4:b.xSides.length=4:=by
  have:(b.xSides.length:Int)=4:=by simpa using e
  omega
 obtain ⟨a,rfl⟩:∃ a,b=bx a:=⟨_,znb e4⟩
 clear e e4
 refine zX 4 (fun s=>s) (fun k s=>s=(k:Int)∧k≤4∧∀ n:Nat,n<k→SpV (ue a n) (top n)) (fun k s h=>h.1) (fun k s h=>h.2.1) ?_ ⟨rfl,by omega,fun n h=>by omega⟩
 rintro k _ next ⟨rfl,hk,hv⟩ hn
 refine zo (fun hc=>?_) (fun hc=>?_)
 ·have hlt:k<4:=by
   have:(k:Int)<4:=by simpa [bx] using hc
   omega
  have k0:(0:Int)≤k:=by omega
  have k3:(k:Int)≤3:=by omega
  have tl:=zab k
  refine Zf k0 k3 (ZR k0 k3 (zcu (by have:=hb.2 _ (zj6 a hlt);omega) (by omega) (by omega) (zo (fun e=>?_) (fun e=>?_))))
  ·have:¬ SpV (ue a k) (top k):=by simpa using e
   rw [decide_eq_false (fun q=>this (zgM.1 q k hlt))] at h;exact h
  ·have:SpV (ue a k) (top k):=by simpa using e
   refine zy (by omega) (by omega) (hn hlt _ ⟨by simp,by omega,fun n hnk=>?_⟩)
   by_cases q:n=k
   ·subst q;exact this
   ·exact hv n (by omega)
 ·have hge:k=4:=by
   have:(4:Int)≤k:=by simpa [bx] using hc
   omega
  subst hge
  rw [decide_eq_true (zgM.2 hv)] at h;exact h
theorem ZD {b:z8} (hb:Bb b) {κ:Bool→Prop} (h:κ (decide (BV b))):uY b κ:=by
 unfold uY
 have h1:=hb.1
 refine zX b.xSides.length (fun s=>s) (fun k s=>s=(k:Int)∧k≤b.xSides.length∧k≤4∧∀ n:Nat,n<k→∀ q:n<b.xSides.length,SpV (b.xSides[n]) (top n)) (fun k s h=>h.1) (fun k s h=>h.2.1) ?_ ⟨rfl,by omega,by omega,fun n h=>by omega⟩
 rintro k _ next ⟨rfl,hk,hk4,hv⟩ hn
 refine zo (fun hc=>?_) (fun hc=>?_)
 ·have hlt:k<b.xSides.length:=by simpa using hc
  refine jQ (zo (fun e=>?_) (fun e=>?_))
  ·have e':4≤k:=by
    have:(4:Int)≤k:=by simpa using e
    omega
   rw [decide_eq_false (fun q=>by have:=zgN q;omega)] at h
   exact jo h
  have e':k<4:=by
   have:¬ (4:Int)≤k:=by simpa using e
   omega
  have k0:(0:Int)≤k:=by omega
  have k3:(k:Int)≤3:=by omega
  have tl:=zab k
  refine zq k rfl hlt (x5 k0 k3 (UH (hb.2 _ (List.getElem_mem hlt)) (by omega) (by omega) (zo (fun e=>?_) (fun e=>?_))))
  ·have no:¬ SpV (b.xSides[k]) (top k):=by simpa using e
   rw [decide_eq_false (fun q=>no ?_)] at h
   ·exact h
   ·obtain ⟨a,rfl,_⟩:=id q
    have:=zgM.1 q k e'
    have e2:(bx a).xSides[k]=ue a k:=by rcases YQ e' with rfl | rfl | rfl | rfl <;> rfl
    rw [e2];exact this
  ·have yes:SpV (b.xSides[k]) (top k):=by simpa using e
   refine zy (by omega) (by omega) (hn hlt _ ⟨by simp,by omega,by omega,fun n hnk q=>?_⟩)
   by_cases e:n=k
   ·subst e;exact yes
   ·exact hv n (by omega) q
 ·have hge:b.xSides.length=k:=by
   have:b.xSides.length≤k:=by simpa using hc
   omega
  have:decide (BV b)=decide ((b.xSides.length:Int)=4):=decide_eq_decide.2 ⟨fun q=>by have:=zgN q;omega,fun q=>by
   have e4:b.xSides.length=4:=by omega
   obtain ⟨a,rfl⟩:∃ a,b=bx a:=⟨_,znb e4⟩
   refine zgM.2 (fun n hn4=>?_)
   have:=hv n (by omega) (by simpa [bx] using hn4)
   have e2:(bx a).xSides[n]'(by simpa [bx] using hn4)=ue a n:=by rcases YQ hn4 with rfl | rfl | rfl | rfl <;> rfl
   rw [e2] at this;exact this⟩
  rw [this] at h;exact h
def FV (l:List zS):Prop:=l.length≤60∧∀ f∈l,BV f.xWhere
noncomputable instance (l:List zS):Decidable (FV l):=Classical.propDecidable _
theorem FV.fb {l:List zS} (h:FV l):Fb l:=⟨by have:=h.1;omega,fun f hf=>(h.2 f hf).bb⟩
theorem zdb {l:List zS} (hl:Fb l) {κ:Bool→Prop} (h:κ (decide (FV l))):X8 l κ:=by
 unfold X8
 have h1:=hl.1
 refine zo (fun e=>?_) (fun e=>?_)
 ·rw [decide_eq_false (fun q=>by have:=q.1;simp at e;omega)] at h;exact h
 have h60:l.length≤60:=by simp at e;omega
 refine zX l.length (fun s=>s) (fun k s=>s=(k:Int)∧k≤l.length∧∀ f∈l.take k,BV f.xWhere) (fun k s h=>h.1) (fun k s h=>h.2.1) ?_ ⟨rfl,by omega,by simp⟩
 rintro k _ next ⟨rfl,hk,hv⟩ hn
 refine zo (fun hc=>?_) (fun hc=>?_)
 ·have hlt:k<l.length:=by simpa using hc
  refine zq k rfl hlt (zee (hl.2 _ (List.getElem_mem hlt)) (zo (fun e=>?_) (fun e=>?_)))
  ·have:¬ BV (l[k].xWhere):=by simpa using e
   rw [decide_eq_false (fun q=>this (q.2 _ (List.getElem_mem hlt)))] at h;exact h
  ·have:BV (l[k].xWhere):=by simpa using e
   refine zy (by omega) (by omega) (hn hlt _ ⟨by simp,by omega,fun f hf=>?_⟩)
   rw [List.take_succ_eq_append_getElem hlt] at hf
   rcases List.mem_append.1 hf with q | q
   ·exact hv f q
   ·simp only [List.mem_singleton] at q;rw [q];exact this
 ·have hge:l.length≤k:=by simpa using hc
  rw [List.take_of_length_le hge] at hv
  rw [decide_eq_true (show FV l from ⟨h60,hv⟩)] at h;exact h
theorem yI {l:List zS} (hl:Fb l) {κ:Bool→Prop} (h:κ (decide (FV l))):uB l κ:=by
 unfold uB
 have h1:=hl.1
 refine zX l.length (fun s=>s) (fun k s=>s=(k:Int)∧k≤l.length∧∀ f∈l.take k,BV f.xWhere) (fun k s h=>h.1) (fun k s h=>h.2.1) ?_ ⟨rfl,by omega,by simp⟩
 rintro k _ next ⟨rfl,hk,hv⟩ hn
 refine zo (fun hc=>?_) (fun hc=>?_)
 ·have hlt:k<l.length:=by simpa using hc
  refine zq k rfl hlt (ZD (hl.2 _ (List.getElem_mem hlt)) (zo (fun e=>?_) (fun e=>?_)))
  ·have:¬ BV (l[k].xWhere):=by simpa using e
   rw [decide_eq_false (fun q=>this (q.2 _ (List.getElem_mem hlt)))] at h;exact h
  ·have:BV (l[k].xWhere):=by simpa using e
   refine zy (by omega) (by omega) (hn hlt _ ⟨by simp,by omega,fun f hf=>?_⟩)
   rw [List.take_succ_eq_append_getElem hlt] at hf
   rcases List.mem_append.1 hf with q | q
   ·exact hv f q
   ·simp only [List.mem_singleton] at q;rw [q];exact this
 ·have hge:l.length≤k:=by simpa using hc
  rw [List.take_of_length_le hge] at hv
  rw [show decide (FV l)=decide ((l.length:Int)≤60) from decide_eq_decide.2 ⟨fun q=>by have:=q.1;omega,fun q=>⟨by omega,hv⟩⟩] at h;exact h
theorem zjT {b:z8} (hb:b.xSides.length=4) {κ:za→Prop} (h:κ (sd b)):UJ b κ:=by
 have e:=znb hb
 rw [e] at h ⊢
 exact ⟨_,_,_,_,[],rfl,h⟩
def fl (f:zS):zn:=⟨sd f.xWhere,f.xAccept⟩
theorem Ud {α β:Type} (a:List α) (f:α→β) (hl:a.length≤4294967296) {κ:List β→Prop} (T:α→(β→Prop)→Prop) (hT:∀ x ψ,x∈a→ψ (f x)→T x ψ) (hκ:κ (a.map f))
  (F:(List β×Int→Prop)→List β×Int→Prop)
  (hF:∀ nx xs t,(ifW (decide (t<(a.length:Int))) (zJ a t (fun e=>T e (fun r=>jU xs [r] (fun _=>jx t 1 (fun u=>nx (xs++[r],u)))))) (κ xs))→F nx (xs,t)):jw F ([],0):=by
 refine zX a.length (fun s=>s.2) (fun k s=>s.2=(k:Int)∧k≤a.length∧s.1=(a.take k).map f) (fun k s h=>h.1) (fun k s h=>h.2.1) ?_ ⟨rfl,Nat.zero_le _,by simp⟩
 rintro k ⟨ys,t⟩ next ⟨rfl,hk,hy⟩ hn
 simp only at hy
 subst hy
 refine hF _ _ _ (zo (fun hc=>?_) (fun hc=>?_))
 ·have hlt:k<a.length:=by simpa using hc
  refine zq k rfl hlt (hT _ _ (List.getElem_mem hlt) (jk (by simp;omega) (zy (by omega) (by omega) (hn hlt _ ⟨by simp,by omega,?_⟩))))
  rw [List.take_succ_eq_append_getElem hlt,List.map_append];rfl
 ·have hge:a.length≤k:=by simpa using hc
  rw [List.take_of_length_le hge];exact hκ
theorem zj3 {l:List zS} (hl:l.length≤4294967296) (h4:∀ f∈l,f.xWhere.xSides.length=4) {κ:List zn→Prop} (h:κ (l.map fl)):UN l κ:=by
 unfold UN
 refine U4 0 rfl (by omega) (by omega) ?_
 exact Ud l fl hl (fun x ψ=>UJ x.xWhere (fun r=>ψ (zn.mk r x.xAccept))) (fun x ψ hx hψ=>zjT (h4 x hx) hψ) h _ (fun nx xs t hh=>hh)
theorem zeE {l:List zn} (hl:l.length≤4294967296) {κ:List za→Prop} (h:κ (l.map (·.xWhere))):XN l κ:=by
 unfold XN
 refine U4 0 rfl (by omega) (by omega) ?_
 exact Ud l (·.xWhere) hl (fun x ψ=>ψ x.xWhere) (fun x ψ hx hψ=>hψ) h _ (fun nx xs t hh=>hh)
theorem zmq {a:za} (hl:∀ x∈L4 a,x.length≤4294967296) {κ:z8→Prop} (h:κ (bx a)):yo a κ:=by
 unfold yo
 refine U4 4 rfl (by decide) (by decide) ?_
 obtain ⟨x0,x1,x2,x3⟩:=a
 have l0:=hl x0 (by simp [L4])
 have l1:=hl x1 (by simp [L4])
 have l2:=hl x2 (by simp [L4])
 have l3:=hl x3 (by simp [L4])
 refine ⟨5,?_⟩
 refine jo (zq 0 rfl (by simp) (jk (by simpa using l0) (zq 0 rfl (by simp) (zy (by decide) (by decide) ?_))))
 refine jo (zq 1 rfl (by simp) (jk (by simpa using l1) (zq 1 rfl (by simp) (zy (by decide) (by decide) ?_))))
 refine jo (zq 2 rfl (by simp) (jk (by simpa using l2) (zq 2 rfl (by simp) (zy (by decide) (by decide) ?_))))
 refine jo (zq 3 rfl (by simp) (jk (by simpa using l3) (zq 3 rfl (by simp) (zy (by decide) (by decide) ?_))))
 exact jK h
theorem zjC {l:List za} (hl:l.length≤4294967296) (h4:∀ a∈l,∀ x∈L4 a,x.length≤4294967296) {κ:List z8→Prop} (h:κ (l.map bx)):Us l κ:=by
 unfold Us
 refine U4 0 rfl (by omega) (by omega) ?_
 exact Ud l bx hl (fun x ψ=>yo x ψ) (fun x ψ hx hψ=>zmq (h4 x hx) hψ) h _ (fun nx xs t hh=>hh)
theorem zmn {a:za} (h:F4 a):∀ x∈L4 a,x.length≤4294967296:=fun x hx=>by
 obtain ⟨f0,f1,f2,f3⟩:=h
 simp only [L4,List.mem_cons,List.not_mem_nil,or_false] at hx
 rcases hx with rfl | rfl | rfl | rfl <;> omega
theorem zaG {l:List zS} (hl:Fb l) {κ:List z8→Prop} (h1:FV l→κ (l.map (·.xWhere))) (h2:¬ FV l→κ []):Xb l κ:=by
 unfold Xb
 refine zdb hl (zo (fun e=>h2 (by simpa using e)) (fun e=>?_))
 have hv:FV l:=by simpa using e
 have:=hl.1
 refine zj3 hl.1 (fun f hf=>zgN (hv.2 f hf)) (zeE (by simpa using hl.1) (zjC (by simpa using hl.1) (fun a ha=>?_) ?_))
 ·simp only [List.map_map,List.mem_map,Function.comp] at ha
  obtain ⟨f,hf,rfl⟩:=ha
  exact zmn (hv.2 f hf).f4
 ·have e:((l.map fl).map (·.xWhere)).map bx=l.map (·.xWhere):=by
   simp only [List.map_map]
   refine List.map_congr_left (fun f hf=>?_)
   exact ((hv.2 f hf).eq).symm
  rw [e];exact h1 hv
theorem zco {b:z8} (hb:Bb b) {κ:z8→Prop} (h:κ b):XF b κ:=yN hb.1 hb.2 h
theorem zhM {f:zS} (hb:Bb f.xWhere) {κ:zS→Prop} (h:κ f):YA f κ:=zco hb h
theorem yj {l:List zS} (hl:Fb l) {κ:List zS→Prop} (h:κ l):xJ l κ:=by
 unfold xJ
 exact Ud l id hl.1 (fun x ψ=>YA x ψ) (fun x ψ hx hψ=>zhM (hl.2 x hx) hψ) (by simpa using h) _ (fun nx xs t hh=>hh)
def hb4 (a:za) (p:zW):Prop:=hv a.x0 p.xFrom∧hv a.x1 p.xTo∧hv a.x2 p.xPort∧hv a.x3 p.xProto
instance (a:za) (p:zW):Decidable (hb4 a p):=by unfold hb4;infer_instance
theorem zcH (a:za) (p:zW):hb4 a p↔∀ n:Nat,n<4→hv (ue a n) (Yk p n):=by
 constructor
 ·rintro ⟨h0,h1,h2,h3⟩ n hn
  rcases YQ hn with rfl | rfl | rfl | rfl
  ·exact h0
  ·exact h1
  ·exact h2
  ·exact h3
 ·intro h
  exact ⟨h 0 (by decide),h 1 (by decide),h 2 (by decide),h 3 (by decide)⟩
end
section
open Go Go.Proofs
def zaa (l:List za):Prop:=∀ c∈l,F4 c
instance (l:List za):Decidable (zaa l):=by unfold zaa;infer_instance
def aB (l:List za):Prop:=∀ c∈l,B4 c
theorem zcU:zaa []:=fun c h=>by simp at h
theorem zeX:aB []:=fun c h=>by simp at h
theorem yu {l m:List za}:zaa (l++m)↔zaa l∧zaa m:=by
 unfold zaa
 simp only [List.mem_append]
 exact ⟨fun h=>⟨fun c hc=>h c (.inl hc),fun c hc=>h c (.inr hc)⟩,fun h c hc=>hc.elim (h.1 c) (h.2 c)⟩
theorem Uc {l m:List za}:aB (l++m)↔aB l∧aB m:=by
 unfold aB
 simp only [List.mem_append]
 exact ⟨fun h=>⟨fun c hc=>h c (.inl hc),fun c hc=>h c (.inr hc)⟩,fun h c hc=>hc.elim (h.1 c) (h.2 c)⟩
def ua (left:List za) (b:za):List za:=left.flatMap (fun c=>YC c b)
def okR (l:List za):Prop:=zaa l∧l.length≤400
instance (l:List za):Decidable (okR l):=by unfold okR;infer_instance
def lgo:List za→List za→Option (List za)
 | left,[]=>some left
 | left,b :: bs=>if okR (ua left b) then lgo (ua left b) bs else none
def YM (a:za) (bs:List za):Option (List za):=if em4 a then some [] else lgo [a] bs
def zlL:Option (List za)→List za×Bool
 | some l=>(l,true)
 | none=>([],false)
theorem zg6:∀ (bs:List za),lgo [] bs=some []
 | []=>rfl
 | b :: bs=>by
  have e:ua [] b=[]:=rfl
  unfold lgo
  rw [e,if_pos ⟨zcU,by simp⟩]
  exact zg6 bs
theorem XM (l m:List za) (b:za):ua (l++m) b=ua l b++ua m b:=by simp [ua]
theorem Ug (c b:za):ua [c] b=YC c b:=by simp [ua]
theorem Vq {left:List za} {b:za} (hl:aB left) (hb:B4 b):aB (ua left b):=fun c hc=>by
 obtain ⟨d,hd,hc⟩:=List.mem_flatMap.1 hc
 exact zmf (hl d hd) hb c hc
theorem zmy:∀ {bs left r:List za},aB left→aB bs→lgo left bs=some r→aB r
 | [],left,r,hl,hb,h=>by simp only [lgo,Option.some.injEq] at h;rw [← h];exact hl
 | b :: bs,left,r,hl,hb,h=>by
  unfold lgo at h
  split at h
  ·exact zmy (Vq hl (hb b (by simp))) (fun c hc=>hb c (by simp [hc])) h
  ·cases h
theorem zkL:∀ {bs left r:List za},okR left→lgo left bs=some r→okR r
 | [],left,r,hl,h=>by simp only [lgo,Option.some.injEq] at h;rw [← h];exact hl
 | b :: bs,left,r,hl,h=>by
  unfold lgo at h
  split at h
  ·rename_i q;exact zkL q h
  ·cases h
theorem zdn {a:za} {bs r:List za} (ha:B4 a) (hf:F4 a) (hb:aB bs) (h:YM a bs=some r):aB r∧okR r:=by
 unfold YM at h
 split at h
 ·injection h with h;subst h;exact ⟨zeX,zcU,by simp⟩
 ·exact ⟨zmy (fun c hc=>by simp only [List.mem_singleton] at hc;subst hc;exact ha) hb h,zkL ⟨fun c hc=>by simp only [List.mem_singleton] at hc;subst hc;exact hf,by simp⟩ h⟩
def hbs (l:List za) (p:zW):Prop:=∃ c∈l,hb4 c p
instance (l:List za) (p:zW):Decidable (hbs l p):=by unfold hbs;infer_instance
theorem X2 (p:zW):¬ hbs [] p:=by simp [hbs]
theorem Xq (l m:List za) (p:zW):hbs (l++m) p↔hbs l p∨hbs m p:=by
 unfold hbs
 simp only [List.mem_append]
 constructor
 ·rintro ⟨c,h | h,k⟩
  ·exact .inl ⟨c,h,k⟩
  ·exact .inr ⟨c,h,k⟩
 ·rintro (⟨c,h,k⟩ | ⟨c,h,k⟩)
  ·exact ⟨c,.inl h,k⟩
  ·exact ⟨c,.inr h,k⟩
theorem zaN (c:za) (p:zW):hbs [c] p↔hb4 c p:=by simp [hbs]
theorem VE {a b:List zh} {t x:Int} (ha:St a t) (hb:St b t):hv (xV a b t) x↔hv a x∧¬ hv b x:=by
 unfold xV
 rw [Ye,zdM hb]
 exact ⟨fun h=>⟨h.1,h.2.2.2⟩,fun h=>⟨h.1,(yD ha h.1).1,(yD ha h.1).2,h.2⟩⟩
theorem VB (a b:za) (p:zW):hb4 (xM a b) p↔hb4 a p∧hb4 b p:=by
 unfold hb4 xM
 simp only [Ye]
 exact ⟨fun ⟨⟨a0,b0⟩,⟨a1,b1⟩,⟨a2,b2⟩,a3,b3⟩=>⟨⟨a0,a1,a2,a3⟩,b0,b1,b2,b3⟩,fun ⟨⟨a0,a1,a2,a3⟩,b0,b1,b2,b3⟩=>⟨⟨a0,b0⟩,⟨a1,b1⟩,⟨a2,b2⟩,a3,b3⟩⟩
theorem zfv {a:za} (h:em4 a=true) (p:zW):¬ hb4 a p:=by
 rintro ⟨h0,h1,h2,h3⟩
 simp only [em4,decide_eq_true_eq] at h
 rcases h with e | e | e | e
 ·rw [e] at h0;exact u5 _ h0
 ·rw [e] at h1;exact u5 _ h1
 ·rw [e] at h2;exact u5 _ h2
 ·rw [e] at h3;exact u5 _ h3
theorem zgw {r:List zh} {c:za} {p:zW} (h:r=[]→¬ hb4 c p):hbs (pc r c) p↔hb4 c p:=by
 unfold pc
 split
 ·rename_i e;exact ⟨fun q=>absurd q (X2 p),fun q=>absurd q (h e)⟩
 ·exact zaN c p
theorem zgJ {a b:za} (ha:B4 a) (hb:B4 b) (p:zW):hbs (YC a b) p↔hb4 a p∧¬ hb4 b p:=by
 unfold YC
 split
 ·rename_i e
  have no:=zfv e p
  rw [VB] at no
  split
  ·rename_i e2;exact ⟨fun q=>absurd q (X2 p),fun q=>absurd q.1 (zfv e2 p)⟩
  ·rw [zaN];exact ⟨fun q=>⟨q,fun r=>no ⟨q,r⟩⟩,fun q=>q.1⟩
 ·obtain ⟨p0,p1,p2,p3⟩:=ha
  obtain ⟨q0,q1,q2,q3⟩:=hb
  rw [Xq,Xq,Xq]
  rw [zgw (fun e q=>u5 _ (e ▸ q.1)),zgw (fun e q=>u5 _ (e ▸ q.2.1)),zgw (fun e q=>u5 _ (e ▸ q.2.2.1)),zgw (fun e q=>u5 _ (e ▸ q.2.2.2))]
  simp only [hb4,Ye,VE p0 q0,VE p1 q1,VE p2 q2,VE p3 q3]
  by_cases c0:hv b.x0 p.xFrom <;> by_cases c1:hv b.x1 p.xTo <;> by_cases c2:hv b.x2 p.xPort <;> by_cases c3:hv b.x3 p.xProto <;> simp only [c0,c1,c2,c3,not_true,not_false_eq_true,and_true,and_false,true_and,false_and,or_false,false_or,iff_self,and_self,or_self]
theorem zic {left:List za} {b:za} (hl:aB left) (hb:B4 b) (p:zW):hbs (ua left b) p↔hbs left p∧¬ hb4 b p:=by
 constructor
 ·rintro ⟨c,hc,k⟩
  obtain ⟨d,hd,hc⟩:=List.mem_flatMap.1 hc
  have:=(zgJ (hl d hd) hb p).1 ⟨c,hc,k⟩
  exact ⟨⟨d,hd,this.1⟩,this.2⟩
 ·rintro ⟨⟨d,hd,k⟩,hn⟩
  obtain ⟨c,hc,k⟩:=(zgJ (hl d hd) hb p).2 ⟨k,hn⟩
  exact ⟨c,List.mem_flatMap.2 ⟨d,hd,hc⟩,k⟩
theorem zkS:∀ {bs left r:List za},aB left→aB bs→lgo left bs=some r→∀ p,hbs r p↔hbs left p∧¬ hbs bs p
 | [],left,r,hl,hb,h,p=>by
  simp only [lgo,Option.some.injEq] at h;rw [← h]
  exact ⟨fun q=>⟨q,X2 p⟩,fun q=>q.1⟩
 | b :: bs,left,r,hl,hb,h,p=>by
  unfold lgo at h
  split at h
  ·have hb0:=hb b (by simp)
   rw [zkS (Vq hl hb0) (fun c hc=>hb c (by simp [hc])) h p,zic hl hb0]
   have e:hbs (b :: bs) p↔hb4 b p∨hbs bs p:=by
    have:=Xq [b] bs p
    rw [zaN] at this
    exact this
   rw [e]
   exact ⟨fun q=>⟨q.1.1,fun r=>r.elim q.1.2 q.2⟩,fun q=>⟨⟨q.1,fun r=>q.2 (.inl r)⟩,fun r=>q.2 (.inr r)⟩⟩
  ·cases h
theorem zfs {a:za} {bs r:List za} (ha:B4 a) (hb:aB bs) (h:YM a bs=some r) (p:zW):hbs r p↔hb4 a p∧¬ hbs bs p:=by
 unfold YM at h
 split at h
 ·rename_i e
  injection h with h;subst h
  exact ⟨fun q=>absurd q (X2 p),fun q=>absurd q.1 (zfv e p)⟩
 ·rw [zkS (fun c hc=>by simp only [List.mem_singleton] at hc;subst hc;exact ha) hb h p,zaN]
theorem zea {a:za} {bs:List za} (ha:B4 a) (hf:F4 a) (hb:aB bs) (hl:bs.length≤4294967296) {κ:List za×Bool→Prop} (h:κ (zlL (YM a bs))):u6 a bs κ:=by
 unfold u6
 refine zeJ (zo (fun e=>?_) (fun e=>?_))
 ·unfold YM at h;rw [if_pos e] at h;exact h
 unfold YM at h;rw [if_neg (by simp [e])] at h
 refine jQ ?_
 refine zX bs.length (fun s=>s.2) (fun k (s:List za×Int)=>s.2=(k:Int)∧k≤bs.length∧aB s.1∧okR s.1∧lgo [a] bs=lgo s.1 (bs.drop k)) (fun k s h=>h.1) (fun k s h=>h.2.1) ?_ ⟨rfl,by omega,fun c hc=>by simp only [List.mem_singleton] at hc;subst hc;exact ha,⟨fun c hc=>by simp only [List.mem_singleton] at hc;subst hc;exact hf,by simp⟩,rfl⟩
 rintro k ⟨left,_⟩ next ⟨rfl,hk,hB,hO,he⟩ hn
 simp only at hB hO he
 refine zo (fun hc=>?_) (fun hc=>?_)
 rotate_left
 ·have hge:bs.length≤k:=by simpa using hc
  rw [he,List.drop_of_length_le hge] at h
  exact h
 have hlt:k<bs.length:=by simpa using hc
 rw [List.drop_eq_getElem_cons hlt] at he
 have hbk:=hb _ (List.getElem_mem hlt)
 have no:¬ okR (ua left bs[k])→κ ([],false):=fun q=>by
  rw [he] at h;unfold lgo at h;rw [if_neg q] at h;exact h
 refine zq k rfl hlt ?_
 have hlen:=hO.2
 refine zX left.length (fun s=>s.2) (fun j (s:List za×Int)=>s.2=(j:Int)∧j≤left.length∧s.1=ua (left.take j) bs[k]∧okR (ua (left.take j) bs[k])) (fun k s h=>h.1) (fun k s h=>h.2.1) ?_ ⟨rfl,by omega,by simp [ua],by simp [ua,okR,zaa]⟩
 rintro j ⟨_,_⟩ next2 ⟨rfl,hj,hx,hok⟩ hn2
 simp only at hx
 subst hx
 refine zo (fun hc2=>?_) (fun hc2=>?_)
 ·have hjl:j<left.length:=by simpa using hc2
  have hcB:=hB _ (List.getElem_mem hjl)
  have hcF:=hO.1 _ (List.getElem_mem hjl)
  have hl4:=zbd left[j] bs[k]
  have hl2:=hok.2
  have split3:ua left bs[k]=ua (left.take j) bs[k]++(YC left[j] bs[k]++ua (left.drop (j+1)) bs[k]):=by
   have:=List.take_append_drop j left
   rw [List.drop_eq_getElem_cons hjl] at this
   have e2:=congrArg (fun l=>ua l bs[k]) this
   simp only [XM] at e2
   rw [← e2]
   rw [show left[j] :: left.drop (j+1)=[left[j]]++left.drop (j+1) from rfl,XM,Ug]
  refine zq j rfl hjl (zeQ hcB hbk hcF ?_)
  by_cases hFc:∀ c∈YC left[j] bs[k],F4 c
  ·rw [show zfx left[j] bs[k]=(YC left[j] bs[k],true) from if_pos hFc]
   refine jQ (jK (zy (by omega) (by omega) (zo (fun e=>no (fun q=>?_)) (fun e=>?_))))
   ·have:=q.2
    rw [split3] at this
    simp only [List.length_append] at this
    simp at e
    omega
   ·have e':(ua (left.take j) bs[k]).length+(YC left[j] bs[k]).length≤400:=by simp at e;omega
    refine jk (by omega) (zy (by omega) (by omega) (hn2 hjl _ ⟨by simp,by omega,?_,?_⟩))
    ·rw [List.take_succ_eq_append_getElem hjl,XM,Ug]
    ·rw [List.take_succ_eq_append_getElem hjl,XM,Ug]
     exact ⟨yu.2 ⟨hok.1,hFc⟩,by rw [List.length_append];exact e'⟩
  ·rw [show zfx left[j] bs[k]=([],false) from if_neg hFc]
   refine jQ (jo (jo (no (fun q=>hFc ?_))))
   have:=q.1
   rw [split3] at this
   exact (yu.1 (yu.1 this).2).1
 ·have hjge:left.length≤j:=by simpa using hc2
  rw [List.take_of_length_le hjge] at hok ⊢
  have he2:lgo [a] bs=lgo (ua left bs[k]) (bs.drop (k+1)):=by
   rw [he];conv=>lhs;unfold lgo
   rw [if_pos hok]
  refine zo (fun e=>?_) (fun e=>?_)
  ·have:ua left bs[k]=[]:=by
    have:(ua left bs[k]).length=0:=by
     have:((ua left bs[k]).length:Int)=0:=by simpa using e
     omega
    exact List.length_eq_zero_iff.1 this
   rw [this] at he2 ⊢
   rw [he2,zg6] at h
   exact h
  ·exact zy (by omega) (by omega) (hn hlt _ ⟨by simp,by omega,Vq hB hbk,hok,he2⟩)
def IV (l:List zn):Prop:=∀ f∈l,B4 f.xWhere∧F4 f.xWhere
theorem FV.iv {l:List zS} (h:FV l):IV (l.map fl):=fun f hf=>by
 obtain ⟨g,hg,rfl⟩:=List.mem_map.1 hf
 exact ⟨(h.2 g hg).b4,(h.2 g hg).f4⟩
def whs (l:List zn):List za:=l.map (·.xWhere)
theorem IV.aB {l:List zn} (h:IV l):aB (whs l):=fun c hc=>by
 obtain ⟨f,hf,rfl⟩:=List.mem_map.1 hc
 exact (h f hf).1
theorem IV.take {l:List zn} (h:IV l) (n:Nat):IV (l.take n):=fun f hf=>h f (List.mem_of_mem_take hf)
def zhB (l:List zn) (n:Nat) (h:n<l.length):Option (List za):=YM l[n].xWhere (whs (l.take n))
theorem zhO {l:List zn} (hl:l.length≤100000) (hv:IV l) {n:Nat} (hn:n<l.length) {κ:List za×Bool→Prop} (h:κ (zlL (zhB l n hn))):YS l n κ:=by
 unfold YS
 refine zq n rfl hn ⟨by omega,by omega,by omega,?_⟩
 have e:(l.take (n:Int).toNat).drop (0:Int).toNat=l.take n:=by simp
 rw [e]
 have hv2:=hv _ (List.getElem_mem hn)
 refine zeE (by simp;omega) (zea hv2.1 hv2.2 (hv.take n).aB (by unfold whs;rw [List.length_map,List.length_take];omega) ?_)
 exact h
def dd (l:List zn) (n:Nat):Bool:=match h:l[n]? with | some f=>decide (YM f.xWhere (whs (l.take n))=some []) | none=>false
theorem zlh {l:List zn} {n:Nat} (hn:n<l.length):dd l n=decide (zhB l n hn=some []):=by
 unfold dd
 split
 ·rename_i f hf
  obtain ⟨_,e⟩:=List.getElem?_eq_some_iff.1 hf
  unfold zhB;rw [e]
 ·rename_i hf
  rw [List.getElem?_eq_none_iff] at hf;omega
def zmE (l:List zn):List Nat:=(List.range l.length).filter (dd l)
theorem zkG {l:List zn} (hl:l.length≤100000) (hv:IV l) {κ:List Int→Prop} (h:κ ((zmE l).map Int.ofNat)):UZ l κ:=by
 unfold UZ
 refine zX l.length (fun s=>s.2) (fun k (s:List Int×Int)=>s.2=(k:Int)∧k≤l.length∧s.1=((List.range k).filter (dd l)).map Int.ofNat) (fun k s h=>h.1) (fun k s h=>h.2.1) ?_ ⟨rfl,by omega,rfl⟩
 rintro k ⟨_,_⟩ next ⟨rfl,hk,hx⟩ hn
 simp only at hx
 subst hx
 refine zo (fun hc=>?_) (fun hc=>?_)
 ·have hlt:k<l.length:=by simpa using hc
  have hlen:(((List.range k).filter (dd l)).map Int.ofNat).length≤k:=by
   rw [List.length_map]
   exact Nat.le_trans (List.length_filter_le _ _) (by simp)
  refine jQ (zhO hl hv hlt ?_)
  have step:∀ ys:List Int,ys=((List.range (k+1)).filter (dd l)).map Int.ofNat→jx (k:Int) 1 (fun t145=>next (ys,t145)):=fun ys hy =>
   zy (by omega) (by omega) (hn hlt _ ⟨by simp,by omega,hy⟩)
  have e1:dd l k=true→((List.range (k+1)).filter (dd l)).map Int.ofNat=((List.range k).filter (dd l)).map Int.ofNat++[(k:Int)]:=fun q=>by
   rw [List.range_succ,List.filter_append,List.map_append,List.filter_cons,q];rfl
  have e0:dd l k=false→((List.range (k+1)).filter (dd l)).map Int.ofNat=((List.range k).filter (dd l)).map Int.ofNat:=fun q=>by
   rw [List.range_succ,List.filter_append,List.map_append,List.filter_cons,q];simp
  have hd:=zlh hlt
  cases hlv:zhB l k hlt with
  | none =>
   rw [hlv] at hd
   have hd':dd l k=false:=by rw [hd];simp
   exact jQ (jK (jK (step _ (e0 hd').symm)))
  | some r =>
   rw [hlv] at hd
   refine jQ (jo (zo (fun e=>?_) (fun e=>?_)))
   ·have:r=[]:=by
     have:r.length=0:=by
      have:(r.length:Int)=0:=by simpa using e
      omega
     exact List.length_eq_zero_iff.1 this
    subst this
    have hd':dd l k=true:=by rw [hd];simp
    exact jk (by simp only [List.length_singleton];omega) (step _ (e1 hd').symm)
   ·have:r≠[]:=fun q=>by rw [q] at e;simp at e
    have hd':dd l k=false:=by rw [hd];simpa using this
    exact step _ (e0 hd').symm
 ·have hge:l.length≤k:=by simpa using hc
  have:k=l.length:=by omega
  subst this
  exact h
def fw (l:List zn) (p:zW):Nat:=l.findIdx (fun f=>decide (hb4 f.xWhere p))
end
section
open Go.Lib (decDigits)
def Dc (c:List zD):Prop:=c.length≤100∧∀ r,r∈c→r.xTests.length≤8
theorem ziE {c:List zD} {r:zD} {n:Nat} (h:Dc c) (hn:c.length≤n) (hn':n<100) (hr:r.xTests.length≤8):Dc (c++[r]):=⟨by simp;omega,fun x hx=>by
 rcases List.mem_append.1 hx with hx | hx
 ·exact h.2 x hx
 ·rw [List.mem_singleton] at hx;subst hx;exact hr⟩
theorem zeC {b:List UInt8} {p n first chains:Int} (hb:b.length≤2000) (h0:0≤p) (hp:p≤500000) (hn:n≤4294967296) (hf0:0≤first) (hf1:first≤100) (hc0:0≤chains) (hc1:chains≤100) {κ:List zD×Int→Prop} (h:∀ c p',p≤p'→p'≤p+5000→Dc c→c.length≤9→κ (c,p')):XB b p first chains n κ:=by
 have rd:∀ p',p≤p'→p'≤p+5000→RdP b p':=fun p' a c=>⟨hb,by omega,by omega⟩
 unfold XB
 refine uO (rd p (by omega) (by omega)) (fun v a c=>?_)
 refine yi (fun s=>0≤s.2.2∧s.2.2≤4∧p≤s.1∧s.1≤p+1+700 * (4 - s.2.2)∧s.2.1.length+s.2.2.toNat≤4∧Dc s.2.1) (fun s=>s.2.2.toNat) ?_ ⟨a,by simp only;omega,by simp only;omega,by simp only;omega,by simp only [List.length_nil];omega,by simp [Dc]⟩
 rintro ⟨q,xs,k⟩ next ⟨k0,k1,q0,q1,hx,hdc⟩ hnx
 simp only at k0 k1 q0 q1 hx hdc
 refine zo (fun hc=>?_) (fun hc=>?_)
 ·simp at hc
  refine zdR hb (by omega) (by omega) (by omega) hf0 hf1 hc0 hc1 (fun r p' g1 g2 hr=>jk (by simp;omega) (yU (by omega) (by omega) (hnx _ ⟨by simp only;omega,by simp only;omega,by simp only;omega,by simp only;omega,by simp;omega,ziE (n:=4) hdc (by omega) (by omega) hr⟩ (by simp only;omega))))
 ·simp at hc
  unfold jnW
  refine zf9 (rd _ (by omega) (by omega)) hn (fun o p1 f1 f2=>zo (fun _=>?_) (fun _=>h _ _ (by omega) (by omega) hdc (by omega)))
  refine uO (rd _ (by omega) (by omega)) (fun v2 a2 c2=>zo (fun _=>?_) (fun _=>?_))
  ·exact zdR hb (by omega) (by omega) (by omega) hf0 hf1 hc0 hc1 (fun r p' g1 g2 hr=>jk (by simp;omega) (h _ _ (by omega) (by omega) (ziE (n:=4) hdc (by omega) (by omega) hr) (by simp;omega)))
  ·refine yi (fun s=>s.length≤9∧Dc s) (fun s=>9 - s.length) ?_ ⟨by omega,hdc⟩
   rintro ys next2 ⟨hy,hyd⟩ hn2
   refine zo (fun hc3=>?_) (fun hc3=>h _ _ (by omega) (by omega) hyd hy)
   simp at hc3
   exact jk (by simp;omega) (hn2 _ ⟨by simp;omega,ziE (n:=8) hyd (by omega) (by omega) (by simp)⟩ (by simp;omega))
theorem zgy {xs:List (List zD)} {i:Nat} {c:List zD} (h:∀ x,x∈xs→Dc x) (hc:Dc c):∀ x,x∈xs.set i c→Dc x:=fun x hx=>by
 rcases List.mem_or_eq_of_mem_set hx with hx | rfl
 ·exact h x hx
 ·exact hc
theorem zko {r:zD} (h:r.xTests.length≤8):Dc [r]:=⟨by simp,fun x hx=>by rw [List.mem_singleton] at hx;subst hx;exact h⟩
end
section
open Go.Lib (decDigits)
def Le (cs ds:List (List zD)):Prop:=cs.length≤ds.length∧∀ (i:Nat) (c:List zD),cs[i]?=some c→∃ e,ds[i]?=some (c++e)
theorem Le.refl (cs:List (List zD)):Le cs cs:=⟨Nat.le_refl _,fun i c h=>⟨[],by simpa using h⟩⟩
theorem Le.trans {a b c:List (List zD)} (h:Le a b) (h':Le b c):Le a c:=⟨Nat.le_trans h.1 h'.1,fun i x hx=>by
 obtain ⟨e,he⟩:=h.2 i x hx
 obtain ⟨e',he'⟩:=h'.2 i _ he
 exact ⟨e++e',by rw [he',List.append_assoc]⟩⟩
end
section
open Go.Lib (decDigits)
def Br (r:zD):Prop:=r.xTests.length≤1048576
def Bq (c:List zD):Prop:=c.length≤1048576∧∀ r,r∈c→Br r
def Bs (cs:List (List zD)):Prop:=cs.length≤1048576∧∀ c,c∈cs→Bq c
theorem Bs.bd {s:zN} (h:Bs s.xChains):Bd s:=⟨by have:=h.1;omega,fun c hc=>⟨by have:=(h.2 c hc).1;omega,fun r hr=>by have:r.xTests.length≤1048576:=(h.2 c hc).2 r hr;omega⟩⟩
theorem SV.bs {s:zN} (h:SV s):Bs s.xChains:=⟨by have:=h.1.1;omega,fun c hc=>⟨by have:=(h.1.2 c hc).1;omega,fun r hr=>by have:r.xTests.length≤6:=((h.1.2 c hc).2 r hr).1.1.2;unfold Br;omega⟩⟩
end
section
open Go.Lib (decDigits)
theorem zj8 {x:Int} (h1:-9223372036854775808≤x) (h2:x≤9223372036854775807):w64 x=x:=by
 simp [w64,IntKind.wrap,IntKind.signed,IntKind.bits];omega
def Bl (ls:List (List UInt8)):Prop:=ls.length≤3000000∧∀ l,l∈ls→l.length≤10000000
theorem Bl.take {ls:List (List UInt8)} (h:Bl ls) (n:Nat):Bl (ls.take n):=⟨by have:=h.1;simp;omega,fun l hl=>h.2 l (List.mem_of_mem_take hl)⟩
def Zs (k:Nat) (cs:List (List zD)):Prop:=cs.length≤k∧∀ c,c∈cs→c.length≤k∧∀ r,r∈c→RV r
theorem Zs.bd {k:Nat} {cs:List (List zD)} {a:Bool} (h:Zs k cs) (hk:k≤4000000):Bd ⟨cs,a⟩:=⟨by have:=h.1;simp only;omega,fun c hc=>⟨by have:=(h.2 c hc).1;omega,fun r hr=>by have:r.xTests.length≤6:=((h.2 c hc).2 r hr).1.2;omega⟩⟩
end
section
def th (t:jY) (p:zW):Bool:=decide (t.xLo≤Yk p t.xField.toNat∧Yk p t.xField.toNat≤t.xHi) != t.xNot
def ft (l:List jY) (p:zW):Bool:=l.all (fun t=>th t p)
theorem zn1 {a:Int} (h0:0≤a) (h1:a≤3):a=0∨a=1∨a=2∨a=3:=by omega
theorem ziS (x y:Bool):(!(decide (x=y)))=(x != y):=by cases x <;> cases y <;> rfl
theorem zg3 {t:jY} {p:zW} {κ:Bool→Prop} (ht:TV t) (h:κ (th t p)):XY t p κ:=by
 obtain ⟨h0,h1,_⟩:=ht
 unfold XY yA jnW
 have key:∀ v:Int,v=Yk p t.xField.toNat→ifW (decide (t.xLo≤v)) (κ (!(decide ((decide (v≤t.xHi))=t.xNot)))) (κ (!(decide (false=t.xNot)))):=by
  intro v hv
  unfold th at h
  rw [← hv] at h
  refine zo (fun hc=>?_) (fun hc=>?_)
  ·rw [ziS]
   have e:decide (t.xLo≤v∧v≤t.xHi)=decide (v≤t.xHi):=by simp at hc;simp [hc]
   rw [e] at h;exact h
  ·rw [ziS]
   have e:decide (t.xLo≤v∧v≤t.xHi)=false:=by simp at hc;simp;omega
   rw [e] at h;exact h
 rcases zn1 h0 h1 with e | e | e | e
 ·exact zq 0 (by omega) (by simp) (key _ (by rw [e];rfl))
 ·exact zq 1 (by omega) (by simp) (key _ (by rw [e];rfl))
 ·exact zq 2 (by omega) (by simp) (key _ (by rw [e];rfl))
 ·exact zq 3 (by omega) (by simp) (key _ (by rw [e];rfl))
theorem zmd (l:List jY) (p:zW) (k:Nat) (h:k<l.length):ft (l.take (k+1)) p=(ft (l.take k) p && th l[k] p):=by
 unfold ft
 rw [List.take_succ_eq_append_getElem h,List.all_append];simp
theorem zkZ {l:List jY} {p:zW} {k:Nat} (h:k<l.length) (e:th l[k] p=false):ft l p=false:=by
 unfold ft
 rw [List.all_eq_false]
 exact ⟨l[k],List.getElem_mem h,by simp [e]⟩
theorem zfp {l:List jY} {p:zW} {κ:Bool→Prop} (hl:l.length≤4294967296) (ht:∀ t,t∈l→TV t) (h:κ (ft l p)):UF l p κ:=by
 unfold UF
 refine zX l.length (fun s=>s) (fun k s=>s=(k:Int)∧k≤l.length∧ft (l.take k) p=true) (fun k s h=>h.1) (fun k s h=>h.2.1) ?_ ⟨rfl,Nat.zero_le _,by simp [ft]⟩
 rintro k _ next ⟨rfl,hk,hf⟩ hn
 refine zo (fun hc=>?_) (fun hc=>?_)
 ·have hlt:k<l.length:=by simpa using hc
  refine zq k rfl hlt (zg3 (ht _ (List.getElem_mem hlt)) (zo (fun hx=>?_) (fun hx=>zy (by omega) (by omega) (hn hlt _ ⟨by omega,by omega,?_⟩))))
  ·rw [zkZ hlt (by simpa using hx)] at h;exact h
  ·rw [zmd l p k hlt,hf];simpa using hx
 ·have hge:l.length≤k:=by simpa using hc
  rw [List.take_of_length_le hge] at hf
  rw [hf] at h;exact h
def Hh (cs:List (List zD)):Nat→Nat→Prop
 | 0,_=>False
 | n+1,i=>∀ j,Ca cs i j→Hh cs n j
theorem zes {cs:List (List zD)}:∀ {n i:Nat},Hh cs n i→Hh cs (n+1) i
 | 0,i,h=>h.elim
 | n+1,i,h=>fun j hj=>zes (h j hj)
theorem zmC {cs:List (List zD)} {n m i:Nat} (h:Hh cs n i) (hm:n≤m):Hh cs m i:=by
 induction hm with
 | refl=>exact h
 | step _ ih=>exact zes ih
theorem zir {cs:List (List zD)} {Q:Nat→Prop}:∀ (k:Nat),(∀ j,j<k→Q j→∃ n,Hh cs n j)→∃ N,∀ j,j<k→Q j→Hh cs N j
 | 0,_=>⟨0,fun j hj=>by omega⟩
 | k+1,h=>by
  obtain ⟨N,hN⟩:=zir k (fun j hj hq=>h j (by omega) hq)
  by_cases hq:Q k
  ·obtain ⟨n,hn⟩:=h k (by omega) hq
   refine ⟨max N n,fun j hj hqj=>?_⟩
   by_cases e:j=k
   ·subst e;exact zmC hn (by omega)
   ·exact zmC (hN j (by omega) hqj) (by omega)
  ·refine ⟨N,fun j hj hqj=>?_⟩
   by_cases e:j=k
   ·subst e;exact absurd hqj hq
   ·exact hN j (by omega) hqj
theorem zld {cs:List (List zD)} {i:Nat} (hs:Sf cs i):∃ n,Hh cs n i:=by
 induction hs with
 | intro x hx ih =>
  obtain ⟨N,hN⟩:=zir (cs:=cs) (Q:=fun j=>Ca cs x j) cs.length (fun j _ hq=>ih j hq)
  refine ⟨N+1+1,fun j hj=>?_⟩
  by_cases hl:j<cs.length
  ·exact zes (hN j hl hj)
  ·exact fun k hk=>by
    obtain ⟨c,h1,_⟩:=hk
    have:=(List.getElem?_eq_some_iff.1 h1).1
    omega
theorem zog {cs:List (List zD)} (hs:∀ i,i<cs.length→Sf cs i):∃ N,∀ i,Hh cs (N+1) i:=by
 obtain ⟨N,hN⟩:=zir (cs:=cs) (Q:=fun _=>True) cs.length (fun j hj _=>zld (hs j hj))
 refine ⟨N,fun i=>?_⟩
 by_cases hl:i<cs.length
 ·exact zes (hN i hl trivial)
 ·exact fun k hk=>by
   obtain ⟨c,h1,_⟩:=hk
   have:=(List.getElem?_eq_some_iff.1 h1).1
   omega
def jl (p:zW) (call:Nat→Int):List zD→Int
 | []=>5
 | r :: l=>if ft r.xTests p=true then
   (if r.xAction=1 then 1 else if r.xAction=2 then 2 else if r.xAction=4 then 5 else if r.xAction=3 then (if call r.xChain.toNat=5 then jl p call l else call r.xChain.toNat) else jl p call l)
   else jl p call l
def chn (cs:List (List zD)) (i:Nat):List zD:=cs[i]?.getD []
def jc (cs:List (List zD)) (p:zW):Nat→Nat→Int
 | 0,_=>5
 | n+1,i=>jl p (jc cs p n) (chn cs i)
theorem zif {p:zW} {f g:Nat→Int}:∀ {l:List zD},(∀ r,r∈l→r.xAction=3→f r.xChain.toNat=g r.xChain.toNat)→jl p f l=jl p g l
 | [],_=>rfl
 | r :: l,h=>by
  have ih:=zif (p:=p) (l:=l) (fun x hx=>h x (by simp [hx]))
  simp only [jl]
  rw [ih]
  by_cases h3:r.xAction=3
  ·rw [h r (by simp) h3]
  ·simp only [h3,if_false]
theorem zcm {cs:List (List zD)} {i:Nat} {r:zD} (hr:r∈chn cs i) (h3:r.xAction=3) (h0:0≤r.xChain):Ca cs i r.xChain.toNat:=by
 unfold chn at hr
 cases h:cs[i]? with
 | none=>rw [h] at hr;simp at hr
 | some c=>rw [h] at hr;exact ⟨c,h,r,hr,h3,by omega⟩
def Cn (cs:List (List zD)):Prop:=∀ i r,r∈chn cs i→r.xAction=3→0≤r.xChain
theorem zjl {cs:List (List zD)} {p:zW} (hc:Cn cs):∀ {n i:Nat},Hh cs n i→jc cs p (n+1) i=jc cs p n i
 | 0,i,h=>h.elim
 | n+1,i,h=>zif (fun r hr h3=>zjl hc (h _ (zcm hr h3 (hc i r hr h3))))
def wt (cs:List (List zD)):Nat→List zD→Nat
 | 0,l=>l.length+1
 | n+1,l=>1+(l.map (fun r=>1+if r.xAction=3 then wt cs n (chn cs r.xChain.toNat) else 0)).sum
theorem zmR (cs:List (List zD)) (n:Nat):wt cs n []=1:=by cases n <;> simp [wt]
theorem zlA (cs:List (List zD)) (n:Nat) (r:zD) (l:List zD):wt cs (n+1) (r :: l)=wt cs (n+1) l+1+(if r.xAction=3 then wt cs n (chn cs r.xChain.toNat) else 0):=by
 simp only [wt,List.map_cons,List.sum_cons];omega
theorem zje {cs:List (List zD)} (hc:Cn cs):∀ {n i:Nat},Hh cs n i→wt cs (n+1) (chn cs i)=wt cs n (chn cs i)
 | 0,i,h=>h.elim
 | n+1,i,h=>by
  have key:∀ l:List zD,(∀ r,r∈l→r∈chn cs i)→(l.map (fun r=>1+if r.xAction=3 then wt cs (n+1) (chn cs r.xChain.toNat) else 0)).sum=(l.map (fun r=>1+if r.xAction=3 then wt cs n (chn cs r.xChain.toNat) else 0)).sum:=by
   intro l hl
   congr 1
   refine List.map_congr_left (fun r hr=>?_)
   by_cases h3:r.xAction=3
   ·simp only [h3,if_true]
    rw [zje hc (h _ (zcm (hl r hr) h3 (hc i r (hl r hr) h3)))]
   ·simp only [h3,if_false]
  show 1+_=1+_
  rw [key _ (fun r hr=>hr)]
open Classical in
noncomputable def jN (cs:List (List zD)):Nat:=if h:∃ N,∀ i,Hh cs (N+1) i then h.choose else 0
theorem zf8 {cs:List (List zD)} (hs:∀ i,i<cs.length→Sf cs i) (i:Nat):Hh cs (jN cs+1) i:=by
 have h:=zog hs
 unfold jN
 rw [dif_pos h]
 exact h.choose_spec i
noncomputable def J (cs:List (List zD)) (p:zW) (i:Nat):Int:=jc cs p (jN cs+1) i
theorem zmv {cs:List (List zD)} {p:zW} (hc:Cn cs) (hs:∀ i,i<cs.length→Sf cs i) (i:Nat):J cs p i=jl p (J cs p) (chn cs i):=by
 unfold J
 rw [← zjl hc (zf8 hs i)]
 rfl
theorem SV.cn {s:zN} (h:SV s):Cn s.xChains:=by
 intro i r hr h3
 unfold chn at hr
 cases e:s.xChains[i]? with
 | none=>rw [e] at hr;simp at hr
 | some c =>
  rw [e] at hr
  exact (((h.1.2 c (List.mem_of_getElem? e)).2 r hr).1.2.2.2.1 h3).1
theorem zcw {cs:List (List zD)} {i:Nat} (h:i<cs.length):chn cs i=cs[i]:=by simp [chn,h]
theorem zjw {p:zW} {f:Nat→Int} (hf:∀ i,f i=1∨f i=2∨f i=5):∀ l,jl p f l=1∨jl p f l=2∨jl p f l=5
 | []=>by simp [jl]
 | r :: l=>by
  have ih:=zjw (p:=p) hf l
  have:=hf r.xChain.toNat
  simp only [jl]
  repeat' split
  all_goals omega
theorem zhg {cs:List (List zD)} {p:zW}:∀ n i,jc cs p n i=1∨jc cs p n i=2∨jc cs p n i=5
 | 0,i=>by simp [jc]
 | n+1,i=>zjw (zhg n) _
theorem zmZ (cs:List (List zD)) (p:zW) (i:Nat):J cs p i=1∨J cs p i=2∨J cs p i=5:=zhg _ _
noncomputable def jdg (s:zN) (p:zW):Bool:=if J s.xChains p 0=1 then true else if J s.xChains p 0=2 then false else s.xAccept
end
section
theorem zdF:∀ (n:Nat) (l:List Nat),l.Nodup→(∀ x,x∈l→x<n)→l.length≤n
 | 0,[],_,_=>by simp
 | 0,x :: l,_,h=>by have:=h x (by simp);omega
 | n+1,l,hd,h=>by
  by_cases hm:n∈l
  ·obtain ⟨s,t,rfl⟩:=List.append_of_mem hm
   have hnd:(s++t).Nodup∧n ∉ s++t:=by
    rw [List.nodup_append] at hd ⊢
    simp only [List.nodup_cons,List.mem_cons] at hd
    obtain ⟨h1,⟨h2,h3⟩,h4⟩:=hd
    refine ⟨⟨h1,h3,fun a ha b hb=>h4 a ha b (.inr hb)⟩,fun hmem=>?_⟩
    rcases List.mem_append.1 hmem with hs | ht
    ·exact h4 n hs n (.inl rfl) rfl
    ·exact h2 ht
   have:=zdF n (s++t) hnd.1 (fun x hx=>by
    have h1:=h x (by
     rcases List.mem_append.1 hx with hx | hx
     ·exact List.mem_append.2 (.inl hx)
     ·exact List.mem_append.2 (.inr (List.mem_cons_of_mem _ hx)))
    have h2:x≠n:=fun e=>hnd.2 (e ▸ hx)
    omega)
   simp at this ⊢;omega
  ·have:=zdF n l hd (fun x hx=>by
    have h1:=h x hx
    have h2:x≠n:=fun e=>hm (e ▸ hx)
    omega)
   omega
def okP (cs:List (List zD)) (q:jF):Prop:=0≤q.xChain∧q.xChain.toNat<cs.length∧0≤q.xNext∧q.xNext.toNat≤(chn cs q.xChain.toNat).length
def sfx (cs:List (List zD)) (q:jF):List zD:=(chn cs q.xChain.toNat).drop q.xNext.toNat
noncomputable def Jst (cs:List (List zD)) (p:zW):List jF→Int
 | []=>5
 | q :: st=>if jl p (J cs p) (sfx cs q)=5 then Jst cs p st else jl p (J cs p) (sfx cs q)
noncomputable def wst (cs:List (List zD)) (xs:List jF):Nat:=(xs.map (fun q=>wt cs (jN cs+1) (sfx cs q))).sum
theorem zbD (cs:List (List zD)) (xs:List jF) (q:jF):wst cs (xs++[q])=wst cs xs+wt cs (jN cs+1) (sfx cs q):=by simp [wst]
def Stk (cs:List (List zD)) (xs:List jF):Prop:=(∀ q,q∈xs→okP cs q)∧xs.Pairwise (fun a b=>Wy cs a.xChain.toNat b.xChain.toNat)
theorem Stk.len {cs:List (List zD)} {xs:List jF} (hs:∀ i,i<cs.length→Sf cs i) (h:Stk cs xs):xs.length≤cs.length:=by
 have hn:(xs.map (fun q=>q.xChain.toNat)).Nodup:=by
  rw [List.Nodup,List.pairwise_map]
  refine List.Pairwise.imp_of_mem (fun {a b} ha hb hw e=>?_) h.2
  rw [← e] at hw
  exact ziP (hs _ (h.1 a ha).2.1) hw
 have:=zdF cs.length _ hn (fun x hx=>by
  obtain ⟨q,hq,rfl⟩:=List.mem_map.1 hx
  exact (h.1 q hq).2.1)
 simpa using this
theorem Stk.drop {cs:List (List zD)} {ys:List jF} {q:jF} (h:Stk cs (ys++[q])):Stk cs ys:=⟨fun x hx=>h.1 x (List.mem_append.2 (.inl hx)),(List.pairwise_append.1 h.2).1⟩
theorem Stk.move {cs:List (List zD)} {ys:List jF} {q q':jF} (h:Stk cs (ys++[q])) (hq:okP cs q') (hc:q'.xChain=q.xChain):Stk cs (ys++[q']):=by
 refine ⟨fun x hx=>?_,?_⟩
 ·rcases List.mem_append.1 hx with hx | hx
  ·exact h.1 x (List.mem_append.2 (.inl hx))
  ·rw [List.mem_singleton] at hx;subst hx;exact hq
 ·obtain ⟨h1,_,h3⟩:=List.pairwise_append.1 h.2
  refine List.pairwise_append.2 ⟨h1,by simp,fun a ha b hb=>?_⟩
  rw [List.mem_singleton] at hb
  subst hb
  rw [hc]
  exact h3 a ha q (by simp)
theorem Stk.push {cs:List (List zD)} {ys:List jF} {q q':jF} (h:Stk cs (ys++[q])) (hq:okP cs q') (hc:Ca cs q.xChain.toNat q'.xChain.toNat):Stk cs (ys++[q]++[q']):=by
 refine ⟨fun x hx=>?_,?_⟩
 ·rcases List.mem_append.1 hx with hx | hx
  ·exact h.1 x hx
  ·rw [List.mem_singleton] at hx;subst hx;exact hq
 ·refine List.pairwise_append.2 ⟨h.2,by simp,fun a ha b hb=>?_⟩
  rw [List.mem_singleton] at hb
  subst hb
  rcases List.mem_append.1 ha with ha | ha
  ·exact .more ((List.pairwise_append.1 h.2).2.2 a ha q (by simp)) hc
  ·rw [List.mem_singleton] at ha;subst ha;exact .one hc
theorem zih {α:Type} (xs:List α) (h:0<xs.length):∃ ys q,xs=ys++[q]:=⟨xs.dropLast,xs.getLast (List.ne_nil_of_length_pos h),(List.dropLast_concat_getLast (List.ne_nil_of_length_pos h)).symm⟩
theorem zjg {ys:List jF} {q:jF} {vis:List uX} {d:Int} {κ:List jF→Prop} (hl:ys.length≤50) (h:κ ys):ZJ (ys++[q]) vis d κ:=by
 unfold ZJ jnW
 have hw:w64 (((ys++[q]).length:Int) - 1)=(ys.length:Int):=by
  rw [zd1 (by simp <;> omega) (by simp <;> omega)];simp
 rw [hw]
 refine ⟨by omega,by omega,by simp <;> omega,?_⟩
 rw [show ((ys.length:Int)).toNat=ys.length from by omega,show ((0:Int)).toNat=0 from rfl,List.drop_zero,List.take_left']
 ·exact h
 ·rfl
theorem zf0 {s:zN} {p:zW} (hv:SV s) {κ:List jF×List uX×Int→Prop} (h:∀ st vis,κ (st,vis,J s.xChains p 0)):Xx s p κ:=by
 unfold Xx
 have hcs:=hv.1.1
 generalize hcc:s.xChains=cs at *
 have hsf:=hv.2.2
 rw [hcc] at hsf
 have hpos:0<cs.length:=by have:=hv.2.1;rw [hcc] at this;omega
 have hcn:Cn cs:=hcc ▸ hv.cn
 have htg:=hv.1.2
 rw [hcc] at htg
 refine yi (fun t=>Stk cs t.1∧t.2.1.length≤200∧(t.2.2=5→Jst cs p t.1.reverse=J cs p 0)∧(t.2.2≠5→t.2.2=J cs p 0)) (fun t=>if t.2.2=5 then 1+wst cs t.1 else 0) ?_ ⟨⟨fun q hq=>?_,by simp⟩,by simp,fun _=>?_,fun hx=>absurd rfl hx⟩
 rotate_left
 ·simp only [List.mem_singleton] at hq;subst hq
  exact ⟨by simp,by simpa using hpos,by simp,by simp⟩
 ·have:sfx cs ⟨0,0⟩=chn cs 0:=by simp [sfx]
  simp only [List.reverse_cons,List.reverse_nil,List.nil_append,Jst,this]
  rw [← zmv hcn hsf 0]
  split
  ·rename_i e;rw [e]
  ·rfl
 rintro ⟨xs,vis,d⟩ next ⟨hst,hvl,h5,hd⟩ hn
 simp only at hst hvl h5 hd
 unfold jnW
 refine zo (fun hlen=>?_) (fun hlen=>zo (fun hx=>by simp at hx) (fun _=>?_))
 rotate_left
 ·have hx0:xs=[]:=by simp at hlen;exact hlen
  by_cases e:d=5
  ·have:=h5 e
   rw [hx0] at this
   simp only [List.reverse_nil,Jst] at this
   rw [e,this]
   exact h _ _
  ·rw [hd e];exact h _ _
 refine zo (fun h5'=>?_) (fun h5'=>?_)
 rotate_left
 ·have e:d≠5:=by simpa using h5'
  rw [hd e];exact h _ _
 have e5:d=5:=by simpa using h5'
 subst e5
 clear hd
 have hJ:=h5 rfl
 clear h5
 obtain ⟨ys,q,rfl⟩:=zih xs (by have h':(0:Int)<(xs.length:Int):=of_decide_eq_true hlen;omega)
 have hll:=hst.len hsf
 obtain ⟨q0,q1,q2,q3⟩:=hst.1 q (by simp)
 simp only [List.length_append,List.length_cons,List.length_nil] at hll
 have hchn:=zcw q1
 obtain ⟨h8,hrv⟩:=htg _ (List.getElem_mem q1)
 refine yU (by simp <;> omega) (by simp <;> omega) (zq ys.length (by simp) (by simp) ?_)
 rw [show (ys++[q])[ys.length]'(by simp)=q by simp]
 refine zq q.xChain.toNat (by omega) q1 ?_
 rw [← hchn]
 rw [← hchn] at h8 hrv
 have hrev:(ys++[q]).reverse=q :: ys.reverse:=by simp
 rw [hrev] at hJ
 have hset:∀ q':jF,(ys++[q]).set ((((ys++[q]).length:Int) - 1)).toNat q'=ys++[q']:=by
  intro q'
  have:((((ys++[q]).length:Int) - 1)).toNat=ys.length:=by simp
  rw [this,List.set_append_right _ _ (Nat.le_refl _)];simp
 have go:∀ (xs':List jF) (vis':List uX),Stk cs xs'→vis'.length≤200→Jst cs p xs'.reverse=J cs p 0→wst cs xs'<wst cs (ys++[q])→next (xs',vis',5):=fun xs' vis' a b c d=>hn _ ⟨a,b,fun _=>c,fun hx=>absurd rfl hx⟩ (by simp only [if_true];omega)
 refine zo (fun hx=>?_) (fun hx=>?_)
 ·have e:q.xNext=((chn cs q.xChain.toNat).length:Int):=by simpa using hx
  have hs0:sfx cs q=[]:=List.drop_eq_nil_of_le (by omega)
  refine zjg (by omega) (go ys vis hst.drop hvl ?_ ?_)
  ·simp only [Jst,hs0,jl,if_true] at hJ;exact hJ
  ·rw [zbD,hs0,zmR];omega
 ·have e:q.xNext≠((chn cs q.xChain.toNat).length:Int):=by simpa using hx
  have hlt:q.xNext.toNat<(chn cs q.xChain.toNat).length:=by omega
  obtain ⟨hr,hrc⟩:=hrv _ (List.getElem_mem hlt)
  have hmem:(chn cs q.xChain.toNat)[q.xNext.toNat]∈chn cs q.xChain.toNat:=List.getElem_mem hlt
  have hok':okP cs ⟨q.xChain,q.xNext+1⟩:=⟨q0,q1,by simp only;omega,by simp only;omega⟩
  have hs1:sfx cs q=(chn cs q.xChain.toNat)[q.xNext.toNat] :: sfx cs ⟨q.xChain,q.xNext+1⟩:=by
   unfold sfx
   rw [List.drop_eq_getElem_cons hlt]
   simp only
   rw [show (q.xNext+1).toNat=q.xNext.toNat+1 by omega]
  generalize hrr:(chn cs q.xChain.toNat)[q.xNext.toNat]=r at *
  have hw0:=zbD cs ys q
  rw [hs1,zlA] at hw0
  simp only [Jst,hs1,jl] at hJ
  have hmv:Stk cs (ys++[⟨q.xChain,q.xNext+1⟩]):=hst.move hok' rfl
  have hstay:∀ vis':List uX,vis'.length≤200→(if jl p (J cs p) (sfx cs ⟨q.xChain,q.xNext+1⟩)=5 then Jst cs p ys.reverse else jl p (J cs p) (sfx cs ⟨q.xChain,q.xNext+1⟩))=J cs p 0→next (ys++[⟨q.xChain,q.xNext+1⟩],vis',5):=by
   intro vis' hv' hj
   refine go _ vis' hmv hv' ?_ ?_
   ·simp only [List.reverse_append,List.reverse_cons,List.reverse_nil,List.nil_append,List.singleton_append,Jst];exact hj
   ·rw [zbD,hw0];omega
  have ir:∀ (K:zD→Prop),K r→zJ (chn cs q.xChain.toNat) q.xNext K:=fun K hK=>zq q.xNext.toNat (by omega) hlt (by rw [hrr];exact hK)
  refine zy (by omega) (by omega) (ir _ (zfp (by have:=hr.1.2;omega) hr.1.1 ?_))
  rw [hset]
  refine zo (fun hx=>?_) (fun hx=>?_)
  ·have hf:ft r.xTests p=false:=by simpa using hx
   rw [hf] at hJ
   exact hstay vis hvl (by simpa using hJ)
  ·have hf:ft r.xTests p=true:=by simpa using hx
   rw [hf] at hJ
   simp only [if_true] at hJ
   have core:∀ vis':List uX,vis'.length≤200→zJ (chn cs q.xChain.toNat) q.xNext (fun e191=>ZI e191 (fun r197=>x9.casesW r197 (fun x198=>yx x198 (ys++[⟨q.xChain,q.xNext+1⟩]) vis' 5 (fun r202=>next (ys++[⟨q.xChain,q.xNext+1⟩],vis',r202))) (fun x199=>Z1 x199 (ys++[⟨q.xChain,q.xNext+1⟩]) vis' 5 (fun r203=>next (r203,vis',5))) (fun x200=>Zz (uA.mk ) (ys++[⟨q.xChain,q.xNext+1⟩]) vis' 5 (fun r206=>next (r206,vis',5))) (fun x201=>Z2 (yl.mk ) (ys++[⟨q.xChain,q.xNext+1⟩]) vis' 5 (fun _=>next (ys++[⟨q.xChain,q.xNext+1⟩],vis',5))))):=by
    intro vis' hv'
    refine ir _ ?_
    have dec:∀ d:Int,d≠5→d=J cs p 0→next (ys++[⟨q.xChain,q.xNext+1⟩],vis',d):=fun d hd5 hd=>hn _ ⟨hmv,hv',fun e=>absurd e hd5,fun _=>hd⟩ (by simp only [if_neg hd5,if_true];omega)
    unfold ZI
    by_cases h1:r.xAction=1
    ·rw [if_pos h1] at hJ
     refine zo (fun _=>?_) (fun hx=>by simp at hx;exact absurd h1 hx)
     dsimp only [x9.casesW]
     unfold yx
     exact zo (fun _=>dec 1 (by decide) (by simpa using hJ)) (fun hx=>by simp at hx)
    ·rw [if_neg h1] at hJ
     refine zo (fun hx=>by simp at hx;exact absurd hx h1) (fun _=>?_)
     by_cases h2:r.xAction=2
     ·rw [if_pos h2] at hJ
      refine zo (fun _=>?_) (fun hx=>by simp at hx;exact absurd h2 hx)
      dsimp only [x9.casesW]
      unfold yx
      exact zo (fun hx=>by simp at hx) (fun _=>dec 2 (by decide) (by simpa using hJ))
     ·rw [if_neg h2] at hJ
      refine zo (fun hx=>by simp at hx;exact absurd hx h2) (fun _=>?_)
      by_cases h3:r.xAction=3
      ·have h4:r.xAction≠4:=by omega
       rw [if_neg h4,if_pos h3] at hJ
       rw [if_pos h3] at hw0
       refine zo (fun _=>?_) (fun hx=>by simp at hx;exact absurd h3 hx)
       dsimp only [x9.casesW]
       unfold Z1 jnW
       have hch:=hr.2.2.2.1 h3
       have hca:Ca cs q.xChain.toNat r.xChain.toNat:=zcm hmem h3 hch.1
       have hcl:r.xChain.toNat<cs.length:=by have:=hrc;omega
       refine jk (by simp;omega) (go _ vis' (hmv.push ⟨hch.1,hcl,by simp,by simp⟩ hca) hv' ?_ ?_)
       ·have hs2:sfx cs ⟨r.xChain,0⟩=chn cs r.xChain.toNat:=by simp [sfx]
        simp only [List.reverse_append,List.reverse_cons,List.reverse_nil,List.nil_append,List.singleton_append,List.cons_append,Jst,hs2]
        rw [← zmv hcn hsf]
        by_cases hj5:J cs p r.xChain.toNat=5
        ·rw [if_pos hj5] at hJ ⊢;exact hJ
        ·rw [if_neg hj5] at hJ ⊢
         rw [if_neg hj5] at hJ;exact hJ
       ·have hs2:sfx cs ⟨r.xChain,0⟩=chn cs r.xChain.toNat:=by simp [sfx]
        have hhh:Hh cs (jN cs) r.xChain.toNat:=zf8 hsf q.xChain.toNat _ hca
        rw [zbD,zbD,hs2,zje hcn hhh,hw0];omega
      ·refine zo (fun hx=>by simp at hx;exact absurd hx h3) (fun _=>?_)
       by_cases h4:r.xAction=4
       ·rw [if_pos h4] at hJ
        refine zo (fun _=>?_) (fun hx=>by simp at hx;exact absurd h4 hx)
        dsimp only [x9.casesW]
        unfold Zz
        refine zjg (by omega) (go ys vis' hst.drop hv' (by simpa using hJ) ?_)
        rw [hw0];omega
       ·rw [if_neg h4,if_neg h3] at hJ
        refine zo (fun hx=>by simp at hx;exact absurd hx h4) (fun _=>?_)
        dsimp only [x9.casesW]
        unfold Z2
        exact hstay vis' hv' hJ
   refine zo (fun h2=>jk (by simp;omega) (core _ (by simp at h2 ⊢;omega))) (fun _=>core _ hvl)
theorem zgV {s:zN} {p:zW} (hv:SV s) {κ:Bool→Prop} (h:κ (jdg s p)):XX s p κ:=by
 unfold XX
 refine zf0 (p:=p) hv (fun st vis=>?_)
 unfold jdg at h
 show ifW _ _ _
 refine zo (fun hx=>?_) (fun hx=>zo (fun hy=>?_) (fun hy=>?_))
 ·have e:J s.xChains p 0=1:=by simpa using hx
  rw [if_pos e] at h;exact h
 ·have e:J s.xChains p 0=2:=by simpa using hy
  rw [if_neg (by omega),if_pos e] at h;exact h
 ·have e1:¬ J s.xChains p 0=1:=by simpa using hx
  have e2:¬ J s.xChains p 0=2:=by simpa using hy
  rw [if_neg e1,if_neg e2] at h;exact h
theorem Vw {s:zN} {p:zW} {κ:Bool→Prop} (hb:Bd s) (h1:SV s→pv p→κ (jdg s p)) (h2:¬ (SV s∧pv p)→κ false):yV s p κ:=by
 unfold yV jnW
 refine Vm hb (fun b hbv=>zo (fun hx=>zo (fun _=>h2 (fun hh=>?_)) (fun hy=>by simp at hy)) (fun hx=>zfR (zo (fun hy=>h2 (fun hh=>?_)) (fun hy=>?_))))
 ·rw [hbv.2 hh.1] at hx;cases hx
 ·rw [decide_eq_true hh.2] at hy;cases hy
 exact zgV (hbv.1 (by simpa using hx)) (h1 (hbv.1 (by simpa using hx)) (by simpa using hy))
end
section
open Go Go.Proofs
theorem zbV:∀ (l:List zh) (s:zh) (out:List zh) (pl:Bool),(zbs l s out pl).1.length+(if (zbs l s out pl).2.2 then 0 else 1)≤out.length+l.length+(if pl then 0 else 1)
 | [],s,out,pl=>by cases pl <;> simp [zbs]
 | x :: xs,s,out,pl=>by
  unfold zbs
  by_cases c1:x.xHi+1<s.xLo
  ·rw [if_pos c1]
   have:=zbV xs s (out++[x]) pl
   simp only [List.length_append,List.length_cons,List.length_nil] at this ⊢
   omega
  ·rw [if_neg c1]
   by_cases c2:s.xHi+1<x.xLo
   ·rw [if_pos c2]
    have:=zbV xs s ((if pl then out else out++[s])++[x]) true
    cases pl <;> simp only [List.length_append,List.length_cons,List.length_nil,Bool.false_eq_true,if_true,if_false] at this ⊢ <;> omega
   ·rw [if_neg c2]
    have:=zbV xs (zh.mk (min s.xLo x.xLo) (max s.xHi x.xHi)) out pl
    simp only [List.length_cons]
    omega
theorem zjx (l:List zh) (s:zh):(zcP l s).length≤l.length+1:=by
 have:=zbV l s [] false
 unfold zcP
 generalize zbs l s [] false=r at *
 obtain ⟨o,s',pl⟩:=r
 cases pl <;> simp at this ⊢ <;> omega
theorem zd4:∀ (xs a:List zh),(xs.foldl zcP a).length≤a.length+xs.length
 | [],a=>by simp
 | s :: xs,a=>by
  have h1:=zd4 xs (zcP a s)
  have h2:=zjx a s
  simp only [List.foldl_cons,List.length_cons]
  omega
theorem zf6 {a:za}:F4 a↔le4 a 40:=⟨fun ⟨f0,f1,f2,f3⟩ f h0 h1=>by
 rcases zeI h0 h1 with rfl | rfl | rfl | rfl
 ·exact f0
 ·exact f1
 ·exact f2
 ·exact f3,zgO⟩
end
section
open Go Go.Proofs
def XO (bs:List za) (w:za):List za:=bs.flatMap (fun b=>if em4 (xM b w) then [] else [xM b w])
theorem za9 (l m:List za) (w:za):XO (l++m) w=XO l w++XO m w:=by simp [XO]
theorem zcK (b w:za):XO [b] w=if em4 (xM b w) then [] else [xM b w]:=by simp [XO]
theorem zc1 (bs:List za) (w:za):(XO bs w).length≤bs.length:=by
 induction bs with
 | nil=>simp [XO]
 | cons b bs ih =>
  rw [show b :: bs=[b]++bs from rfl,za9,zcK,List.length_append,List.length_append]
  have:(if em4 (xM b w)=true then [] else [xM b w]:List za).length≤1:=by split <;> simp
  simp only [List.length_singleton];omega
theorem zgQ {bs:List za} {w:za} (hb:aB bs) (hw:B4 w):aB (XO bs w):=fun c hc=>by
 obtain ⟨b,hb',hc⟩:=List.mem_flatMap.1 hc
 split at hc
 ·simp at hc
 ·rw [List.mem_singleton] at hc;subst hc;exact zc6 (hb b hb') hw
theorem zaE (bs:List za) (w:za):(ua bs w).length≤4 * bs.length:=by
 induction bs with
 | nil=>simp [ua]
 | cons b bs ih =>
  rw [show b :: bs=[b]++bs from rfl,XM,Ug,List.length_append,List.length_append]
  have:=zbd b w
  simp only [List.length_singleton];omega
theorem zl4 {bs:List za} {w:za} (p:zW):hbs (XO bs w) p↔hbs bs p∧hb4 w p:=by
 constructor
 ·rintro ⟨c,hc,k⟩
  obtain ⟨b,hb',hc⟩:=List.mem_flatMap.1 hc
  split at hc
  ·simp at hc
  ·rw [List.mem_singleton] at hc;subst hc
   have:=(VB b w p).1 k
   exact ⟨⟨b,hb',this.1⟩,this.2⟩
 ·rintro ⟨⟨b,hb',k⟩,hw⟩
  refine ⟨xM b w,List.mem_flatMap.2 ⟨b,hb',?_⟩,(VB b w p).2 ⟨k,hw⟩⟩
  split
  ·rename_i e;exact absurd ((VB b w p).2 ⟨k,hw⟩) (zfv e p)
  ·simp
def dec (l:List za) (acc:Bool):List zn:=l.map (fun b=>⟨b,acc⟩)
abbrev UR:=Option (List za×List zn)
def url (call:Nat→List za→List zn→UR):List zD→List za→List za→List zn→UR
 | [],going,left,out=>if okR (left++going) then some (left++going,out) else none
 | r :: rs,going,left,out =>
  if okR (XO going (ZL r.xTests))∧okR (ua going (ZL r.xTests)) then
   if r.xAction=1∨r.xAction=2 then
    if (out++dec (XO going (ZL r.xTests)) (decide (r.xAction=1))).length≤60 then url call rs (ua going (ZL r.xTests)) left (out++dec (XO going (ZL r.xTests)) (decide (r.xAction=1))) else none
   else if r.xAction=4 then url call rs (ua going (ZL r.xTests)) (left++XO going (ZL r.xTests)) out
   else if r.xAction=3 then
    match call r.xChain.toNat (XO going (ZL r.xTests)) out with
    | none=>none
    | some (b,o)=>if okR (ua going (ZL r.xTests)++b) then url call rs (ua going (ZL r.xTests)++b) left o else none
   else if okR (ua going (ZL r.xTests)++XO going (ZL r.xTests)) then url call rs (ua going (ZL r.xTests)++XO going (ZL r.xTests)) left out else none
  else none
def uc (cs:List (List zD)):Nat→Nat→List za→List zn→UR
 | 0,_,_,_=>none
 | n+1,i,boxes,out=>url (uc cs n) (chn cs i) boxes [] out
theorem zgb {f g:Nat→List za→List zn→UR}:∀ {l:List zD},(∀ r,r∈l→r.xAction=3→∀ b o,f r.xChain.toNat b o=g r.xChain.toNat b o)→∀ going left out,url f l going left out=url g l going left out
 | [],_,_,_,_=>rfl
 | r :: l,h,going,left,out=>by
  have ih:=zgb (f:=f) (g:=g) (l:=l) (fun x hx=>h x (by simp [hx]))
  unfold url
  by_cases h3:r.xAction=3
  ·rw [h r (by simp) h3];simp only [ih]
  ·simp only [h3,if_false,ih]
theorem zjt {cs:List (List zD)} (hc:Cn cs):∀ {n i:Nat},Hh cs n i→∀ b o,uc cs (n+1) i b o=uc cs n i b o
 | 0,i,h,_,_=>h.elim
 | n+1,i,h,b,o=>zgb (fun r hr h3 b o=>zjt hc (h _ (zcm hr h3 (hc i r hr h3))) b o) _ _ _
noncomputable def U (cs:List (List zD)) (i:Nat) (boxes:List za) (out:List zn):UR:=uc cs (jN cs+1) i boxes out
theorem zms {cs:List (List zD)} (hc:Cn cs) (hs:∀ i,i<cs.length→Sf cs i) (i:Nat) (b:List za) (o:List zn):U cs i b o=url (U cs) (chn cs i) b [] o:=by
 unfold U
 rw [← zjt hc (zf8 hs i)]
 rfl
theorem zg5 {call:Nat→List za→List zn→UR}:∀ {l:List zD} {going left:List za} {out:List zn},400<left.length→url call l going left out=none
 | [],going,left,out,h=>by
  unfold url
  rw [if_neg (fun q=>by have:=q.2;rw [List.length_append] at this;omega)]
 | r :: l,going,left,out,h=>by
  have ih:∀ {g o},url call l g left o=none:=zg5 h
  have ih2:∀ {g m o},url call l g (left++m) o=none:=zg5 (by rw [List.length_append];omega)
  unfold url
  simp only [ih,ih2]
  repeat' split
  all_goals rfl
theorem zaH:okR []:=⟨zcU,by simp⟩
theorem zkw (w:za):XO [] w=[]:=rfl
theorem zjF (w:za):ua [] w=[]:=rfl
theorem zkT {cs:List (List zD)} (hc:Cn cs):∀ {n i:Nat},Hh cs n i→∀ {o:List zn},o.length≤60→uc cs n i [] o=some ([],o)
 | 0,i,h,_,_=>h.elim
 | n+1,i,h,o,ho=>by
  have key:∀ (l:List zD) (out:List zn),(∀ r,r∈l→r∈chn cs i)→out.length≤60→url (uc cs n) l [] [] out=some ([],out):=by
   intro l
   induction l with
   | nil=>intro out _ _;unfold url;rw [List.append_nil,if_pos zaH]
   | cons r l ih =>
    intro out hl ho
    have ih':=ih out (fun x hx=>hl x (by simp [hx])) ho
    unfold url
    rw [zkw,zjF,if_pos ⟨zaH,zaH⟩]
    have ed:∀ a,out++dec [] a=out:=fun a=>by simp [dec]
    split
    ·rw [ed,if_pos ho];exact ih'
    ·split
     ·exact ih'
     ·split
      ·rename_i h3
       have hr:=hl r (by simp)
       rw [zkT hc (h _ (zcm hr h3 (hc i r hr h3))) ho]
       simp only [List.append_nil,zaH,if_true]
       exact ih'
      ·rw [List.append_nil,if_pos zaH];exact ih'
  exact key _ _ (fun r hr=>hr) ho
theorem zoa {cs:List (List zD)} (hc:Cn cs) (hs:∀ i,i<cs.length→Sf cs i) (i:Nat) {o:List zn} (ho:o.length≤60):U cs i [] o=some ([],o):=zkT hc (zf8 hs i) ho
def Uok (r:UR):Prop:=∀ l o,r=some (l,o)→aB l∧okR l∧IV o∧o.length≤60
theorem zhm {l m:List zn} (h1:IV l) (h2:IV m):IV (l++m):=fun f hf=>(List.mem_append.1 hf).elim (h1 f) (h2 f)
theorem zgL {l:List za} {a:Bool} (h1:aB l) (h2:zaa l):IV (dec l a):=fun f hf=>by
 obtain ⟨b,hb,rfl⟩:=List.mem_map.1 hf
 exact ⟨h1 b hb,h2 b hb⟩
theorem zgA:IV []:=fun f h=>by simp at h
theorem zdm (l:List za) (a:Bool):(dec l a).length=l.length:=by simp [dec]
theorem zfl {call:Nat→List za→List zn→UR} (hcall:∀ i b o,aB b→okR b→IV o→o.length≤60→Uok (call i b o)):∀ {l:List zD} {going left:List za} {out:List zn},(∀ r∈l,∀ t∈r.xTests,TV t)→aB going→aB left→IV out→out.length≤60→Uok (url call l going left out)
 | [],going,left,out,_,hg,hl,ho,h60=>by
  intro l o h
  unfold url at h
  split at h
  ·rename_i q
   injection h with h;injection h with h1 h2;subst h1 h2
   exact ⟨Uc.2 ⟨hl,hg⟩,q,ho,h60⟩
  ·cases h
 | r :: rs,going,left,out,ht,hg,hl,ho,h60=>by
  have hw:=zbP (ht r (by simp))
  have htr:∀ r∈rs,∀ t∈r.xTests,TV t:=fun x hx=>ht x (by simp [hx])
  have hfB:=zgQ hg hw
  have hmB:=Vq hg hw
  intro l o h
  unfold url at h
  split at h
  ·rename_i q
   split at h
   ·split at h
    ·rename_i q2
     exact zfl hcall htr hmB hl (zhm ho (zgL hfB q.1.1)) q2 l o h
    ·cases h
   ·split at h
    ·exact zfl hcall htr hmB (Uc.2 ⟨hl,hfB⟩) ho h60 l o h
    ·split at h
     ·split at h
      ·cases h
      ·rename_i b o' hb
       obtain ⟨c1,c2,c3,c4⟩:=hcall _ _ _ hfB q.1 ho h60 _ _ hb
       split at h
       ·exact zfl hcall htr (Uc.2 ⟨hmB,c1⟩) hl c3 c4 l o h
       ·cases h
     ·split at h
      ·exact zfl hcall htr (Uc.2 ⟨hmB,hfB⟩) hl ho h60 l o h
      ·cases h
  ·cases h
def TVs (cs:List (List zD)):Prop:=∀ c∈cs,∀ r∈c,∀ t∈r.xTests,TV t
theorem TVs.chn {cs:List (List zD)} (h:TVs cs) (i:Nat):∀ r∈chn cs i,∀ t∈r.xTests,TV t:=by
 unfold Go.Proofs.YtgpdnnhmndlljaaGreatDoor.chn
 cases e:cs[i]? with
 | none=>simp
 | some c=>exact h c (List.mem_of_getElem? e)
theorem SV.tvs {s:zN} (h:SV s):TVs s.xChains:=fun c hc r hr=>((h.1.2 c hc).2 r hr).1.1.1
theorem zmj {cs:List (List zD)} (ht:TVs cs):∀ n i b o,aB b→okR b→IV o→o.length≤60→Uok (uc cs n i b o)
 | 0,i,b,o,_,_,_,_=>fun l o h=>by cases h
 | n+1,i,b,o,hb,hk,ho,h60=>zfl (zmj ht n) (ht.chn i) hb (fun c hc=>by simp at hc) ho h60
theorem zmI {cs:List (List zD)} (ht:TVs cs) (i:Nat) {b:List za} {o:List zn} (hb:aB b) (hk:okR b) (ho:IV o) (h60:o.length≤60):Uok (U cs i b o):=zmj ht _ i b o hb hk ho h60
end
section
open Go Go.Proofs
theorem UY {cs:List (List zD)} {fl:List zn} {over:Bool} {bs:List za} {κ:List za×Bool→Prop} (h1:400<bs.length→κ (bs,true)) (h2:bs.length≤400→κ (bs,over)):xA cs fl over bs κ:=by
 unfold xA
 exact jQ (zo (fun e=>h1 (by simp at e;omega)) (fun e=>h2 (by simp at e;omega)))
theorem zmW {n:Int} (h0:0≤n) (h1:n≤4294967296) {κ:List za→Prop} (h:κ []):uV [] n κ:=⟨rfl,h0,h1,h⟩
theorem zcA {x y:List za} (hx:x.length≤1000000) (hy:y.length≤1000000) {κ:List za→Prop} (h:κ (x++y)):xn [x,y] κ:=by
 unfold xn
 refine ⟨3,?_⟩
 refine jo (zq 0 rfl (by simp) (zy (by first | (simp;done) | (simp;omega)) (by first | (simp;done) | (simp;omega)) (zo (fun e=>by have:=of_decide_eq_true e;omega) (fun _=>zy (by omega) (by omega) ?_))))
 refine jo (zq 1 rfl (by simp) (zy (by first | (simp;done) | (simp;omega)) (by first | (simp;done) | (simp;omega)) (zo (fun e=>by have:=of_decide_eq_true e;omega) (fun _=>zy (by omega) (by omega) ?_))))
 refine jK (zmW (by simp;omega) (by simp;omega) ⟨3,?_⟩)
 refine jo (zq 0 rfl (by simp) (jk (by simp;omega) (zy (by omega) (by omega) ?_)))
 refine jo (zq 1 rfl (by simp) (jk (by simp;omega) (zy (by omega) (by omega) ?_)))
 exact jK h
theorem zkW {cs:List (List zD)} {fl:List zn} {bs:List za} {w:za} (hB:aB bs) (hF:zaa bs) (hl:bs.length≤400) (hw:B4 w) {κ:List za×List za×Bool→Prop}
  (h1:okR (XO bs w)→okR (ua bs w)→κ (XO bs w,ua bs w,false)) (h2:¬ (okR (XO bs w)∧okR (ua bs w))→∀ x y,κ (x,y,true)):yW cs fl false bs w κ:=by
 unfold yW
 refine zX bs.length (fun s=>s.2.2) (fun k (s:List za×List za×Int)=>s.2.2=(k:Int)∧k≤bs.length∧s.1=XO (bs.take k) w∧s.2.1=ua (bs.take k) w∧zaa (XO (bs.take k) w)∧zaa (ua (bs.take k) w)) (fun k s h=>h.1) (fun k s h=>h.2.1) ?_ ⟨rfl,by omega,by simp [XO],by simp [ua],by simp [XO,zaa],by simp [ua,zaa]⟩
 rintro k ⟨_,_,_⟩ next ⟨rfl,hk,hx,hy,hfx,hfy⟩ hn
 simp only at hx hy
 subst hx hy
 refine zo (fun hc=>?_) (fun hc=>?_)
 ·have hlt:k<bs.length:=by simpa using hc
  have hbB:=hB _ (List.getElem_mem hlt)
  have hbF:=hF _ (List.getElem_mem hlt)
  have hs:bs=bs.take k++(bs[k] :: bs.drop (k+1)):=by rw [← List.drop_eq_getElem_cons hlt,List.take_append_drop]
  have hfl:=zc1 (bs.take k) w
  have hml:=zaE (bs.take k) w
  rw [List.length_take] at hfl hml
  refine zq k rfl hlt (jQ ?_)
  have ef:XO (bs.take (k+1)) w=XO (bs.take k) w++(if em4 (xM bs[k] w) then [] else [xM bs[k] w]):=by
   rw [List.take_succ_eq_append_getElem hlt,za9,zcK]
  have em:ua (bs.take (k+1)) w=ua (bs.take k) w++YC bs[k] w:=by
   rw [List.take_succ_eq_append_getElem hlt,XM,Ug]
  have second:∀ xs,xs=XO (bs.take (k+1)) w→zaa xs→yq bs[k] w (fun (r286,r289)=>ifW (!r289) (κ ([],[],true)) (jU (ua (bs.take k) w) r286 (fun _=>jx (k:Int) 1 (fun t294=>next (xs,((ua (bs.take k) w)++r286),t294))))):=by
   rintro _ rfl hxf
   refine zeQ hbB hw hbF ?_
   by_cases hFc:∀ c∈YC bs[k] w,F4 c
   ·rw [show zfx bs[k] w=(YC bs[k] w,true) from if_pos hFc]
    have:=zbd bs[k] w
    refine jK (jk (by omega) (zy (by omega) (by omega) (hn hlt _ ⟨by simp,by omega,rfl,em.symm,hxf,?_⟩)))
    rw [em];exact yu.2 ⟨hfy,hFc⟩
   ·rw [show zfx bs[k] w=([],false) from if_neg hFc]
    refine jo (h2 (fun q=>hFc ?_) _ _)
    have:=q.2.1
    rw [hs,XM,show bs[k] :: bs.drop (k+1)=[bs[k]]++bs.drop (k+1) from rfl,XM,Ug] at this
    exact (yu.1 (yu.1 this).2).1
  refine zdP hbB hw (zo (fun e=>?_) (fun e=>?_))
  ·have e':em4 (xM bs[k] w)=false:=by simpa using e
   refine ziX hbB hw ?_
   by_cases hm:F4 (xM bs[k] w)
   ·rw [show ziA (xM bs[k] w)=(xM bs[k] w,true) from if_pos hm]
    refine jK (jk (by simp;omega) (second _ ?_ ?_))
    ·rw [ef,e'];simp
    ·refine yu.2 ⟨hfx,fun c hc=>?_⟩
     rw [List.mem_singleton] at hc;subst hc;exact hm
   ·rw [show ziA (xM bs[k] w)=(zdu,false) from if_neg hm]
    refine jo (h2 (fun q=>hm ?_) _ _)
    have:=q.1.1
    rw [hs,za9,show bs[k] :: bs.drop (k+1)=[bs[k]]++bs.drop (k+1) from rfl,za9,zcK,e'] at this
    exact (yu.1 (yu.1 this).2).1 _ (by simp)
  ·have e':em4 (xM bs[k] w)=true:=by simpa using e
   refine second _ ?_ hfx
   rw [ef,e'];simp
 ·have hge:bs.length≤k:=by simpa using hc
  rw [List.take_of_length_le hge] at hfx hfy ⊢
  refine UY (fun q1=>?_) (fun q1=>?_)
  ·have no:¬ (okR (XO bs w)∧okR (ua bs w)):=fun q=>by have:=q.1.2;omega
   exact UY (fun _=>h2 no _ _) (fun _=>h2 no _ _)
  ·refine UY (fun q2=>?_) (fun q2=>h1 ⟨hfx,q1⟩ ⟨hfy,q2⟩)
   exact h2 (fun q=>by have:=q.2.2;omega) _ _
def Cw (o:UR) (κ:List za×List zn×Bool→Prop):Prop:=match o with | some (l,out)=>κ (l,out,false) | none=>∀ l out,l.length≤10000→κ (l,out,true)
theorem zmb {l:List za} {o:List zn} {κ:List za×List zn×Bool→Prop} (h:κ (l,o,false)):Cw (some (l,o)) κ:=h
theorem zim {d:u9} {cs:List (List zD)} {fl:List zn} {x fit miss:List za} (hf:fl.length≤60) (hl:fit.length≤400) {κ:List za×List zn×Bool→Prop} (h1:60<(fl++dec fit d.xAccept).length→κ (miss,fl++dec fit d.xAccept,true)) (h2:(fl++dec fit d.xAccept).length≤60→κ (miss,fl++dec fit d.xAccept,false)):ye d cs fl false x fit miss κ:=by
 unfold ye
 refine zX fit.length (fun s=>s.2) (fun k (s:List zn×Int)=>s.2=(k:Int)∧k≤fit.length∧s.1=fl++dec (fit.take k) d.xAccept) (fun k s h=>h.1) (fun k s h=>h.2.1) ?_ ⟨rfl,by omega,by simp [dec]⟩
 rintro k ⟨_,_⟩ next ⟨rfl,hk,hx⟩ hn
 simp only at hx
 subst hx
 have hln:(fl++dec (fit.take k) d.xAccept).length≤460:=by rw [List.length_append,zdm,List.length_take];omega
 refine zo (fun hc=>?_) (fun hc=>?_)
 ·have hlt:k<fit.length:=by simpa using hc
  refine zq k rfl hlt (jQ (jk (by simp only [List.length_singleton];omega) (zy (by omega) (by omega) (hn hlt _ ⟨by simp,by omega,?_⟩))))
  unfold dec
  rw [List.take_succ_eq_append_getElem hlt,List.map_append,← List.append_assoc];rfl
 ·have hge:fit.length≤k:=by simpa using hc
  rw [List.take_of_length_le hge]
  exact jQ (zo (fun e=>h1 (by simp at e;simp;omega)) (fun e=>h2 (by simp at e;simp;omega)))
theorem zaW {x:u9} {p0:u9→Prop} {p1:Z8→Prop} {p2:uA→Prop} {p3:yl→Prop} (h:p0 x):x9.casesW (.kDeciding x) p0 p1 p2 p3:=h
theorem zfO {x:Z8} {p0:u9→Prop} {p1:Z8→Prop} {p2:uA→Prop} {p3:yl→Prop} (h:p1 x):x9.casesW (.kCalling x) p0 p1 p2 p3:=h
theorem zdT {x:uA} {p0:u9→Prop} {p1:Z8→Prop} {p2:uA→Prop} {p3:yl→Prop} (h:p2 x):x9.casesW (.kReturning x) p0 p1 p2 p3:=h
theorem ze8 {x:yl} {p0:u9→Prop} {p1:Z8→Prop} {p2:uA→Prop} {p3:yl→Prop} (h:p3 x):x9.casesW (.kPassing x) p0 p1 p2 p3:=h
theorem zkn {cs:List (List zD)} (hcn:Cn cs) (hs:∀ i,i<cs.length→Sf cs i) (hc5:∀ c∈cs,c.length≤8∧∀ r∈c,TsV r.xTests∧(r.xAction=3→0≤r.xChain∧r.xChain<cs.length)):∀ (n i:Nat) (boxes:List za) (out:List zn) (κ:List za×List zn×Bool→Prop),Hh cs n i→i<cs.length→aB boxes→okR boxes→IV out→out.length≤60→Cw (U cs i boxes out) κ→uz n cs out false i boxes κ:=by
 have htv:TVs cs:=fun c hc r hr=>((hc5 c hc).2 r hr).1.1
 intro n
 induction n with
 | zero=>intro i boxes out κ h;exact h.elim
 | succ n ih =>
  intro i boxes out κ hh hi hB hO hIV h60 h
  show ZA (uz n) cs out false i boxes κ
  unfold ZA
  refine zo (fun e=>?_) (fun e=>?_)
  ·have:boxes=[]:=by
    have:(boxes.length:Int)=0:=of_decide_eq_true e
    exact List.length_eq_zero_iff.1 (by omega)
   subst this
   rw [zoa hcn hs i h60] at h
   exact h
  clear e
  obtain ⟨h8,hrv⟩:=hc5 _ (List.getElem_mem hi)
  rw [zms hcn hs i,zcw hi] at h
  have hci:=zcw hi
  refine zq i rfl hi ?_
  generalize hcc:cs[i]=c at *
  generalize hT:url (U cs) c boxes [] out=T at *
  refine zX c.length (fun s=>s.2.2.2.2) (fun k (s:List za×List zn×Bool×List za×Int)=>s.2.2.2.2=(k:Int)∧k≤c.length∧s.2.2.1=false∧(aB s.1∧zaa s.1∧s.1.length≤400 * k)∧(IV s.2.1∧s.2.1.length≤60)∧(aB s.2.2.2.1∧okR s.2.2.2.1)∧T=url (U cs) (c.drop k) s.2.2.2.1 s.1 s.2.1) (fun k s h=>h.1) (fun k s h=>h.2.1) ?_ ⟨rfl,by omega,rfl,⟨zeX,zcU,by simp⟩,⟨hIV,h60⟩,⟨hB,hO⟩,hT.symm⟩
  rintro k ⟨left,fls,_,going,_⟩ next ⟨rfl,hk,rfl,⟨hlB,hlF,hll⟩,⟨hfI,hf60⟩,⟨hgB,hgO⟩,he⟩ hn
  simp only at hlB hlF hll hfI hf60 hgB hgO he
  have hl4:left.length≤3200:=by omega
  have hg4:=hgO.2
  refine zo (fun hc=>?_) (fun hc=>?_)
  ·have hlt:k<c.length:=by simpa using hc
   obtain ⟨hts,hcall⟩:=hrv _ (List.getElem_mem hlt)
   rw [List.drop_eq_getElem_cons hlt] at he
   unfold url at he
   refine jQ (zq k rfl hlt (zgR hts ?_))
   have hw:=zbP hts.1
   have hm:c[k]∈c:=List.getElem_mem hlt
   have hmc:c[k]∈chn cs i:=by rw [hci];exact hm
   generalize c[k]=r at *
   have hfB:=zgQ hgB hw
   have hmB:=Vq hgB hw
   have hfl:=zc1 going (ZL r.xTests)
   have hml:=zaE going (ZL r.xTests)
   refine zkW hgB hgO.1 hg4 hw (fun o1 o2=>jK ?_) (fun q x y=>jo ?_)
   rotate_left
   ·rw [if_neg q] at he
    rw [he] at h
    exact h _ _ (by simp)
   rw [if_pos ⟨o1,o2⟩] at he
   generalize XO going (ZL r.xTests)=fit at *
   generalize ua going (ZL r.xTests)=miss at *
   have stop:∀ o,T=none→κ ([],o,true):=fun o q=>by rw [q] at h;exact h _ _ (by simp)
   have go:∀ left' fls' going',(aB left'∧zaa left'∧left'.length≤400 * (k+1))→(IV fls'∧fls'.length≤60)→(aB going'∧okR going')→T=url (U cs) (c.drop (k+1)) going' left' fls'→jx (k:Int) 1 (fun t183=>next (left',fls',false,going',t183)):=fun left' fls' going' a1 a2 a3 a4=>zy (by omega) (by omega) (hn hlt _ ⟨by simp,by omega,rfl,a1,a2,a3,a4⟩)
   have decide12:∀ a:Bool,(r.xAction=1∨r.xAction=2)→a=decide (r.xAction=1)→ye (u9.mk a) cs fls false left fit miss (fun (r68,r71,r74)=>xA cs r71 r74 r68 (fun (r75,r78)=>ifW r78 (κ ([],r71,r78)) (jx (k:Int) 1 (fun t183=>next (left,r71,r78,r75,t183))))):=by
    intro a ha hq
    subst hq
    rw [if_pos ha] at he
    refine zim hf60 o1.2 (fun q=>?_) (fun q=>?_)
    ·have q':60<(fls++dec fit (decide (r.xAction=1))).length:=q
     rw [if_neg (by omega)] at he
     exact UY (fun _=>jo (stop _ he)) (fun _=>jo (stop _ he))
    ·rw [if_pos q] at he
     refine UY (fun q2=>absurd q2 (by have:=o2.2;omega)) (fun _=>jK ?_)
     exact go _ _ _ ⟨hlB,hlF,by omega⟩ ⟨zhm hfI (zgL hfB o1.1),q⟩ ⟨hmB,o2⟩ he
   unfold ZI
   refine zo (fun e=>zaW (decide12 true (.inl (of_decide_eq_true e)) (by rw [e]))) (fun e=>?_)
   have n1:¬ r.xAction=1:=of_decide_eq_false e
   refine zo (fun e2=>zaW (decide12 false (.inr (of_decide_eq_true e2)) (by rw [e]))) (fun e2=>?_)
   have n2:¬ r.xAction=2:=of_decide_eq_false e2
   rw [if_neg (fun q=>q.elim n1 n2)] at he
   refine zo (fun e3=>?_) (fun e3=>?_)
   ·have h3:r.xAction=3:=of_decide_eq_true e3
    rw [if_neg (by omega),if_pos h3] at he
    obtain ⟨c0,c1⟩:=hcall h3
    obtain ⟨j,hj⟩:=Int.eq_ofNat_of_zero_le c0
    refine zfO ?_
    unfold XT
    have hca:=zcm hmc h3 c0
    rw [hj] at he hca c1 ⊢
    refine ih j fit fls _ (hh j (by simpa using hca)) (by omega) hfB o1 hfI hf60 ?_
    have hj':((j:Int)).toNat=j:=by simp
    rw [hj'] at he
    cases hU:U cs j fit fls with
    | none =>
     rw [hU] at he
     intro l o hl
     exact zcA (by have:=o2.2;omega) (by omega) (UY (fun _=>jo (stop _ he)) (fun _=>jo (stop _ he)))
    | some bo =>
     obtain ⟨b,o⟩:=bo
     rw [hU] at he
     obtain ⟨u1,u2,u3,u4⟩:=zmI htv j hfB o1 hfI hf60 _ _ hU
     simp only at he
     refine zmb ?_
     refine zcA (by have:=o2.2;omega) (by have:=u2.2;omega) (UY (fun q=>jo (stop _ ?_)) (fun q=>jK ?_))
     ·rw [if_neg (fun q2=>by have:=q2.2;omega)] at he;exact he
     ·have ok:okR (miss++b):=⟨yu.2 ⟨o2.1,u2.1⟩,q⟩
      rw [if_pos ok] at he
      exact go _ _ _ ⟨hlB,hlF,by omega⟩ ⟨u3,u4⟩ ⟨Uc.2 ⟨hmB,u1⟩,ok⟩ he
   ·have n3:¬ r.xAction=3:=of_decide_eq_false e3
    refine zo (fun e4=>?_) (fun e4=>?_)
    ·have h4:r.xAction=4:=of_decide_eq_true e4
     rw [if_pos h4] at he
     refine zdT ?_
     unfold Xh
     have:=o1.2
     refine jk (by omega) (UY (fun q=>absurd q (by have:=o2.2;omega)) (fun _=>jK ?_))
     exact go _ _ _ ⟨Uc.2 ⟨hlB,hfB⟩,yu.2 ⟨hlF,o1.1⟩,by rw [List.length_append];omega⟩ ⟨hfI,hf60⟩ ⟨hmB,o2⟩ he
    ·have n4:¬ r.xAction=4:=of_decide_eq_false e4
     rw [if_neg n4,if_neg n3] at he
     refine ze8 ?_
     unfold XS
     have:=o1.2
     refine zcA (by have:=o2.2;omega) (by omega) (UY (fun q=>jo (stop _ ?_)) (fun q=>jK ?_))
     ·rw [if_neg (fun q2=>by have:=q2.2;omega)] at he;exact he
     ·have ok:okR (miss++fit):=⟨yu.2 ⟨o2.1,o1.1⟩,q⟩
      rw [if_pos ok] at he
      exact go _ _ _ ⟨hlB,hlF,by omega⟩ ⟨hfI,hf60⟩ ⟨Uc.2 ⟨hmB,hfB⟩,ok⟩ he
  ·have hge:c.length≤k:=by simpa using hc
   rw [List.drop_of_length_le hge] at he
   unfold url at he
   rw [he] at h
   refine zcA (by omega) (by omega) (UY (fun q=>?_) (fun q=>?_))
   ·rw [if_neg (fun q2=>by have:=q2.2;omega)] at h
    exact h _ _ (by rw [List.length_append];omega)
   ·rw [if_pos ⟨yu.2 ⟨hlF,hgO.1⟩,q⟩] at h
    exact h
noncomputable def uf (s:zN):Option (List zn):=(U s.xChains 0 [VN] []).map (·.2)
theorem SV.c5 {s:zN} (h:SV s):∀ c∈s.xChains,c.length≤8∧∀ r∈c,TsV r.xTests∧(r.xAction=3→0≤r.xChain∧r.xChain<s.xChains.length):=fun c hc=>⟨(h.1.2 c hc).1,fun r hr=>⟨((h.1.2 c hc).2 r hr).1.1,fun h3=>⟨(((h.1.2 c hc).2 r hr).1.2.2.2.1 h3).1,((h.1.2 c hc).2 r hr).2⟩⟩⟩
theorem zeN:okR [VN]:=⟨fun c hc=>by
 rw [List.mem_singleton] at hc;subst hc
 exact zgO (fun f h0 h1=>by have:=zey f h0 h1;omega),by simp⟩
theorem zeu:aB [VN]:=fun c hc=>by rw [List.mem_singleton] at hc;subst hc;exact zcZ
theorem zjq {s:zN} (h:SV s) {l:List zn} (he:uf s=some l):IV l∧l.length≤60:=by
 unfold uf at he
 cases hU:U s.xChains 0 [VN] [] with
 | none=>rw [hU] at he;cases he
 | some bo =>
  obtain ⟨b,o⟩:=bo
  rw [hU] at he
  simp only [Option.map_some,Option.some.injEq] at he
  subst he
  have:=zmI h.tvs 0 zeu zeN zgA (by simp) _ _ hU
  exact ⟨this.2.2.1,this.2.2.2⟩
theorem zfT {s:zN} (hv':SV s) {κ:List zn×Bool→Prop} (h1:∀ l,uf s=some l→κ (l,true)) (h2:uf s=none→∀ l,κ (l,false)):Xr s κ:=by
 unfold Xr
 refine zci ⟨jN s.xChains+1,zkn hv'.cn hv'.2.2 hv'.c5 _ 0 _ _ _ (zf8 hv'.2.2 0) hv'.2.1 zeu zeN zgA (by simp) ?_⟩
 unfold uf at h1 h2
 cases hU:U s.xChains 0 [VN] [] with
 | none=>rw [hU] at h2;exact fun l o _=>h2 rfl o
 | some bo =>
  obtain ⟨b,o⟩:=bo
  rw [hU] at h1
  exact h1 o rfl
end
section
open Go Go.Proofs
def gf (f:zn):zS:=⟨bx f.xWhere,f.xAccept⟩
theorem zb6 {l:List zn} (h:IV l) (hl:l.length≤60):FV (l.map gf):=⟨by simpa using hl,fun f hf=>by
 obtain ⟨g,hg,rfl⟩:=List.mem_map.1 hf
 exact zfd.2 (h g hg)⟩
theorem zm1 {a:za} (h:B4 a):Bb (bx a):=⟨by simp [bx],fun x hx=>zcq h x hx⟩
theorem zfW {l:List za} (hB:aB l) (hl:l.length≤1000000) {κ:Bool→Prop} (h:κ (decide (okR l))):xE (l.map bx) κ:=by
 unfold xE
 refine zX l.length (fun s=>s) (fun k s=>s=(k:Int)∧k≤l.length∧zaa (l.take k)) (fun k s h=>h.1) (fun k s h=>h.2.1) ?_ ⟨rfl,by omega,by simp [zaa]⟩
 rintro k _ next ⟨rfl,hk,hv'⟩ hn
 refine zo (fun hc=>?_) (fun hc=>?_)
 ·have hlt:k<l.length:=by simpa using hc
  have hb:=hB _ (List.getElem_mem hlt)
  refine zq k rfl (by simpa using hlt) ?_
  rw [List.getElem_map]
  refine ZD (zm1 hb) (zo (fun e=>?_) (fun e=>?_))
  ·have:¬ BV (bx l[k]):=by simpa using e
   rw [decide_eq_false (fun q=>this (zfd.2 ⟨hb,q.1 _ (List.getElem_mem hlt)⟩))] at h;exact h
  ·have:BV (bx l[k]):=by simpa using e
   refine zy (by omega) (by omega) (hn hlt _ ⟨by simp,by omega,?_⟩)
   rw [List.take_succ_eq_append_getElem hlt]
   refine yu.2 ⟨hv',fun c hc=>?_⟩
   rw [List.mem_singleton] at hc;subst hc;exact this.f4
 ·have hge:l.length≤k:=by simpa using hc
  rw [List.take_of_length_le hge] at hv'
  rw [show decide (okR l)=decide (((l.map bx).length:Int)≤400) from decide_eq_decide.2 ⟨fun q=>by have:=q.2;simp;omega,fun q=>⟨hv',by simp at q;omega⟩⟩] at h
  exact h
theorem Zy {l:List za} (hB:aB l) (hl:l.length≤1000000) {κ:Bool→Prop} (h1:okR l→κ true) (h2:¬ okR l→κ false):xE (l.map bx) κ:=by
 refine zfW hB hl ?_
 by_cases h:okR l
 ·rw [decide_eq_true h];exact h1 h
 ·rw [decide_eq_false h];exact h2 h
def Sw (o:UR) (κ:List z8×Bool×List zS→Prop):Prop:=match o with | some (l,out)=>κ (l.map bx,true,out.map gf) | none=>∀ l out,κ (l,false,out)
theorem zmc {l:List za} {o:List zn} {κ:List z8×Bool×List zS→Prop} (h:κ (l.map bx,true,o.map gf)):Sw (some (l,o)) κ:=h
theorem zmL {s:zN} (hv:SV s):∀ (n i:Nat) (boxes:List za) (out:List zn) (κ:List z8×Bool×List zS→Prop),Hh s.xChains n i→i<s.xChains.length→aB boxes→okR boxes→IV out→out.length≤60→Sw (U s.xChains i boxes out) κ→Zk n s i (boxes.map bx) (out.map gf) κ:=by
 have hcn:=hv.cn
 have hs:=hv.2.2
 have hc5:=hv.c5
 have htv:=hv.tvs
 intro n
 induction n with
 | zero=>intro i boxes out κ h;exact h.elim
 | succ n ih =>
  intro i boxes out κ hh hi hB hO hIV h60 h
  show Ut (Zk n) s i (boxes.map bx) (out.map gf) κ
  unfold Ut
  obtain ⟨h8,hrv⟩:=hc5 _ (List.getElem_mem hi)
  rw [zms hcn hs i,zcw hi] at h
  have hci:=zcw hi
  have ix:∀ (K:List zD→Prop),K s.xChains[i]→zJ s.xChains (i:Int) K:=fun K hK=>zq i rfl hi hK
  generalize hcc:s.xChains[i]=c at *
  generalize hT:url (U s.xChains) c boxes [] out=T at *
  refine zX c.length (fun s=>s.2.2.2) (fun k (st:List zS×List z8×List z8×Int)=>st.2.2.2=(k:Int)∧k≤c.length∧∃ fls going left,st.1=fls.map gf∧st.2.1=going.map bx∧st.2.2.1=left.map bx∧(aB left∧okR left)∧(IV fls∧fls.length≤60)∧(aB going∧okR going)∧T=url (U s.xChains) (c.drop k) going left fls) (fun k s h=>h.1) (fun k s h=>h.2.1) ?_ ⟨rfl,by omega,out,boxes,[],rfl,rfl,rfl,⟨zeX,zaH⟩,⟨hIV,h60⟩,⟨hB,hO⟩,hT.symm⟩
  rintro k ⟨_,_,_,_⟩ next ⟨rfl,hk,fls,going,left,e1,e2,e3,⟨hlB,hlO⟩,⟨hfI,hf60⟩,⟨hgB,hgO⟩,he⟩ hn
  simp only at e1 e2 e3
  subst e1 e2 e3
  have hl4:=hlO.2
  have hg4:=hgO.2
  refine ix _ (zo (fun hc=>?_) (fun hc=>?_))
  ·have hlt:k<c.length:=by simpa using hc
   obtain ⟨hts,hcall⟩:=hrv _ (List.getElem_mem hlt)
   rw [List.drop_eq_getElem_cons hlt] at he
   unfold url at he
   refine ix _ (zq k rfl hlt (zik hts ?_))
   have hw:=zbP hts.1
   have hm:c[k]∈c:=List.getElem_mem hlt
   have hmc:c[k]∈chn s.xChains i:=by rw [hci];exact hm
   generalize c[k]=r at *
   have hfB:=zgQ hgB hw
   have hmB:=Vq hgB hw
   have hfl:=zc1 going (ZL r.xTests)
   have hml:=zaE going (ZL r.xTests)
   generalize ZL r.xTests=w at *
   refine zX going.length (fun s=>s.2.2) (fun j (st:List z8×List z8×Int)=>st.2.2=(j:Int)∧j≤going.length∧st.1=(XO (going.take j) w).map bx∧st.2.1=(ua (going.take j) w).map bx) (fun k s h=>h.1) (fun k s h=>h.2.1) ?_ ⟨rfl,by omega,by simp [XO],by simp [ua]⟩
   rintro j ⟨_,_,_⟩ next2 ⟨rfl,hj,hx,hy⟩ hn2
   simp only at hx hy
   subst hx hy
   refine zo (fun hc2=>?_) (fun hc2=>?_)
   ·have hjl:j<going.length:=by simpa using hc2
    have hbB:=hgB _ (List.getElem_mem hjl)
    have hf2:=zc1 (going.take j) w
    have hm2:=zaE (going.take j) w
    rw [List.length_take] at hf2 hm2
    have ix2:∀ (K:z8→Prop),K (bx going[j])→zJ (going.map bx) (j:Int) K:=fun K hK=>zq j rfl (by simpa using hjl) (by rw [List.getElem_map];exact hK)
    have ef:XO (going.take (j+1)) w=XO (going.take j) w++(if em4 (xM going[j] w) then [] else [xM going[j] w]):=by
     rw [List.take_succ_eq_append_getElem hjl,za9,zcK]
    have em:ua (going.take (j+1)) w=ua (going.take j) w++YC going[j] w:=by
     rw [List.take_succ_eq_append_getElem hjl,XM,Ug]
    have hcl:=zbd going[j] w
    have second:∀ xs,xs=(XO (going.take (j+1)) w).map bx→zJ (going.map bx) (j:Int) (fun e195=>Ze e195 (bx w) (fun r201=>jU ((ua (going.take j) w).map bx) r201 (fun _=>jx (j:Int) 1 (fun t206=>next2 (xs,(((ua (going.take j) w).map bx)++r201),t206))))):=by
     rintro _ rfl
     refine ix2 _ (zfL hbB hw (jk (by simp only [List.length_map];omega) (zy (by omega) (by omega) (hn2 hjl _ ⟨by simp,by omega,rfl,?_⟩))))
     rw [em,List.map_append]
    refine jQ (jQ (ix2 _ (zdG hbB hw ?_)))
    refine VH (a:=xM going[j] w) (zo (fun e=>?_) (fun e=>?_))
    ·have e':em4 (xM going[j] w)=false:=by simpa using e
     refine jk (by simp only [List.length_map,List.length_singleton];omega) (second _ ?_)
     rw [ef,e',List.map_append];rfl
    ·have e':em4 (xM going[j] w)=true:=by simpa using e
     refine second _ ?_
     rw [ef,e'];simp
   ·have hjge:going.length≤j:=by simpa using hc2
    rw [List.take_of_length_le hjge]
    have stop:∀ l o,T=none→κ (l,false,o):=fun l o q=>by rw [q] at h;exact h _ _
    refine jQ (Zy hfB (by omega) (fun o1=>jK (Zy hmB (by omega) (fun o2=>jK ?_) (fun no=>jo (stop _ _ ?_)))) (fun no=>jo (jo (stop _ _ ?_))))
    rotate_left
    ·rw [if_neg (fun q=>no q.2)] at he;exact he
    ·rw [if_neg (fun q=>no q.1)] at he;exact he
    rw [if_pos ⟨o1,o2⟩] at he
    generalize XO going w=fit at *
    generalize ua going w=miss at *
    refine zeY (fun (t:List z8×List z8×List zS)=>∃ left' going' fls',t=(List.map bx left',List.map bx going',List.map gf fls')∧aB left'∧zaa left'∧left'.length≤100000∧aB going'∧going'.length≤100000∧IV fls'∧(okR going'→okR left'→fls'.length≤60→T=url (U s.xChains) (c.drop (k+1)) going' left' fls')∧(¬ (okR going'∧okR left'∧fls'.length≤60)→T=none)) ?_ ?_
    ·rintro _ ⟨left',going',fls',rfl,a1,a2,a3,a4,a5,a6,a7,a8⟩
     refine jQ (Zy a4 (by omega) (fun b1=>jK (Zy a1 (by omega) (fun b2=>jK (zo (fun e=>?_) (fun e=>?_))) (fun no=>jo (jo (stop _ _ (a8 (fun q=>no q.2.1))))))) (fun no=>jo (jo (stop _ _ (a8 (fun q=>no q.1))))))
     ·have:60<fls'.length:=by have:=of_decide_eq_true e;simp only [List.length_map] at this;omega
      exact stop _ _ (a8 (fun q=>by have:=q.2.2;omega))
     ·have h6:fls'.length≤60:=by have:=of_decide_eq_false e;simp only [List.length_map] at this;omega
      exact zy (by omega) (by omega) (hn hlt _ ⟨by simp,by omega,fls',going',left',rfl,rfl,rfl,⟨a1,b2⟩,⟨a6,h6⟩,⟨a4,b1⟩,a7 b1 b2 h6⟩)
    intro K hK
    have hfl4:=o1.2
    have hml4:=o2.2
    refine zeY (fun t=>t=decide (r.xAction=1∨r.xAction=2)) ?_ (fun K2 hK2=>?_)
    rotate_left
    ·have hK2:=hK2 _ rfl
     refine zo (fun e=>?_) (fun e=>?_)
     ·rw [e];rw [decide_eq_true (.inl (of_decide_eq_true e))] at hK2;exact hK2
     ·have n1:=of_decide_eq_false e
      rw [show decide (r.xAction=2)=decide (r.xAction=1∨r.xAction=2) from decide_eq_decide.2 ⟨.inr,fun q=>q.resolve_left n1⟩];exact hK2
    rintro _ rfl
    refine zo (fun e=>?_) (fun e=>?_)
    ·have ha:=of_decide_eq_true e
     rw [if_pos ha] at he
     refine zX fit.length (fun s=>s.2) (fun j (st:List zS×Int)=>st.2=(j:Int)∧j≤fit.length∧st.1=(fls++dec (fit.take j) (decide (r.xAction=1))).map gf) (fun k s h=>h.1) (fun k s h=>h.2.1) ?_ ⟨rfl,by omega,by simp [dec]⟩
     rintro j2 ⟨_,_⟩ next3 ⟨rfl,hj2,hx2⟩ hn3
     simp only at hx2
     subst hx2
     refine zo (fun hc3=>?_) (fun hc3=>?_)
     ·have hjl:j2<fit.length:=by simpa using hc3
      refine jQ (zq j2 rfl (by simpa using hjl) ?_)
      rw [List.getElem_map]
      refine jk (by simp only [List.length_map,List.length_append,zdm,List.length_take,List.length_singleton];omega) (zy (by omega) (by omega) (hn3 hjl _ ⟨by simp,by omega,?_⟩))
      simp only [dec,List.take_succ_eq_append_getElem hjl,List.map_append,List.map_cons,List.map_nil,List.append_assoc]
      rfl
     ·have hjge:fit.length≤j2:=by simpa using hc3
      rw [List.take_of_length_le hjge]
      refine hK _ ⟨left,miss,_,rfl,hlB,hlO.1,by omega,hmB,by omega,zhm hfI (zgL hfB o1.1),fun _ _ q=>?_,fun q=>?_⟩
      ·rw [if_pos q] at he;exact he
      ·rw [if_neg (fun q2=>q ⟨o2,hlO,q2⟩)] at he;exact he
    have n12:=of_decide_eq_false e
    rw [if_neg n12] at he
    refine zo (fun e4=>?_) (fun e4=>?_)
    ·rw [if_pos (of_decide_eq_true e4)] at he
     refine jk (by simp only [List.length_map];omega) ?_
     refine hK _ ⟨left++fit,miss,fls,by rw [List.map_append],Uc.2 ⟨hlB,hfB⟩,yu.2 ⟨hlO.1,o1.1⟩,by rw [List.length_append];omega,hmB,by omega,hfI,fun _ _ _=>he,fun q=>?_⟩
     rw [he]
     exact zg5 (Nat.lt_of_not_le (fun q2=>q ⟨o2,⟨yu.2 ⟨hlO.1,o1.1⟩,q2⟩,hf60⟩))
    ·rw [if_neg (of_decide_eq_false e4)] at he
     refine zo (fun e3=>?_) (fun e3=>?_)
     ·have h3:=of_decide_eq_true e3
      rw [if_pos h3] at he
      obtain ⟨c0,c1⟩:=hcall h3
      obtain ⟨j,hj⟩:=Int.eq_ofNat_of_zero_le c0
      have hca:=zcm hmc h3 c0
      rw [hj] at he hca c1 ⊢
      have hj':((j:Int)).toNat=j:=by simp
      rw [hj'] at he
      refine ih j fit fls _ (hh j (by simpa using hca)) (by omega) hfB o1 hfI hf60 ?_
      cases hU:U s.xChains j fit fls with
      | none =>
       rw [hU] at he
       intro l o
       exact jo (stop _ _ he)
      | some bo =>
       obtain ⟨b,o⟩:=bo
       rw [hU] at he
       obtain ⟨u1,u2,u3,u4⟩:=zmI htv j hfB o1 hfI hf60 _ _ hU
       have hu4:=u2.2
       simp only at he
       refine zmc (jK (jk (by simp only [List.length_map];omega) ?_))
       refine hK _ ⟨left,miss++b,o,by rw [List.map_append],hlB,hlO.1,by omega,Uc.2 ⟨hmB,u1⟩,by rw [List.length_append];omega,u3,fun q _ _=>?_,fun q=>?_⟩
       ·rw [if_pos q] at he;exact he
       ·rw [if_neg (fun q2=>q ⟨q2,hlO,u4⟩)] at he;exact he
     ·rw [if_neg (of_decide_eq_false e3)] at he
      refine jk (by simp only [List.length_map];omega) ?_
      refine hK _ ⟨left,miss++fit,fls,by rw [List.map_append],hlB,hlO.1,by omega,Uc.2 ⟨hmB,hfB⟩,by rw [List.length_append];omega,hfI,fun q _ _=>?_,fun q=>?_⟩
      ·rw [if_pos q] at he;exact he
      ·rw [if_neg (fun q2=>q ⟨q2,hlO,hf60⟩)] at he;exact he
  ·have hge:c.length≤k:=by simpa using hc
   rw [List.drop_of_length_le hge] at he
   unfold url at he
   rw [he] at h
   refine jk (by simp only [List.length_map];omega) ?_
   rw [← List.map_append]
   refine Zy (Uc.2 ⟨hlB,hgB⟩) (by rw [List.length_append];omega) (fun q=>?_) (fun q=>?_)
   ·rw [if_pos q] at h;exact h
   ·rw [if_neg q] at h;exact h _ _
end
section
open Go Go.Proofs
theorem zbi {s:zN} (hb:Bd s) {κ:zN→Prop} (h:κ s):yQ s κ:=by
 unfold yQ Yj
 refine Ud s.xChains id hb.1 (fun x ψ=>ZU x ψ) (fun x ψ hx hψ=>?_) (by simpa using h) _ (fun nx xs t hh=>hh)
 obtain ⟨h1,h2⟩:=hb.2 x hx
 unfold ZU
 refine Ud x id h1 (fun y ψ=>Yx y ψ) (fun y ψ hy hψ=>?_) (by simpa using hψ) _ (fun nx xs t hh=>hh)
 unfold Yx
 exact jk (by have:=h2 y hy;simpa using this) hψ
theorem ziH {l:List zn} (hl:l.length≤4294967296) (hv:IV l) {κ:List zS→Prop} (h:κ (l.map gf)):Y2 l κ:=by
 unfold Y2
 refine U4 0 rfl (by omega) (by omega) ?_
 exact Ud l gf hl (fun x ψ=>yo x.xWhere (fun r=>ψ (zS.mk r x.xAccept))) (fun x ψ hx hψ=>zmq (zmn (hv x hx).2) hψ) h _ (fun nx xs t hh=>hh)
theorem zfV {s:zN} (hb:Bd s) {κ:List zS×Bool→Prop} (h1:SV s→∀ l,uf s=some l→κ (l.map gf,true)) (h2:(SV s→uf s=none)→κ ([],false)):U2 s κ:=by
 unfold U2
 refine zbi hb (zbY hb (fun b hbv=>zo (fun e=>h2 (fun q=>?_)) (fun e=>zfa ?_)))
 ·rw [hbv.2 q] at e;cases e
 have hv:SV s:=hbv.1 (by simpa using e)
 refine ⟨jN s.xChains+1,zmL hv _ 0 [VN] [] _ (zf8 hv.2.2 0) hv.2.1 zeu zeN zgA (by simp) ?_⟩
 have h1:=h1 hv
 unfold uf at h1 h2
 cases hU:U s.xChains 0 [VN] [] with
 | none=>rw [hU] at h2;exact fun l o=>jo (h2 (fun _=>rfl))
 | some bo =>
  obtain ⟨b,o⟩:=bo
  rw [hU] at h1
  exact jK (h1 o rfl)
end
section
open Go Go.Proofs
def wdN (l:List zn):Nat→List zn
 | 0=>[]
 | k+1=>wdN l k++(match l[k]? with | some f=>if dd l k then [] else [f] | none=>[])
def wdF (l:List zn):List zn:=wdN l l.length
theorem zc7 (l:List zn):∀ k,(wdN l k).length≤k∧∀ f∈wdN l k,f∈l
 | 0=>by simp [wdN]
 | k+1=>by
  obtain ⟨h1,h2⟩:=zc7 l k
  unfold wdN
  cases e:l[k]? with
  | none=>simp only [List.append_nil];exact ⟨by omega,h2⟩
  | some f =>
   simp only
   split
   ·simp only [List.append_nil];exact ⟨by omega,h2⟩
   ·refine ⟨by rw [List.length_append];simp;omega,fun g hg=>?_⟩
    rcases List.mem_append.1 hg with q | q
    ·exact h2 g q
    ·rw [List.mem_singleton] at q;subst q;exact List.mem_of_getElem? e
theorem zgG (l:List zn):(wdF l).length≤l.length:=(zc7 l _).1
theorem zbk {l:List zn} (h:IV l):IV (wdF l):=fun f hf=>h f ((zc7 l _).2 f hf)
theorem zhi {l:List zn} {k:Nat} (hk:k<l.length) (h:dd l k=true):wdN l (k+1)=wdN l k:=by
 show wdN l k++_=_
 rw [List.getElem?_eq_getElem hk];simp [h]
theorem ziB {l:List zn} {k:Nat} (hk:k<l.length) (h:dd l k=false):wdN l (k+1)=wdN l k++[l[k]]:=by
 show wdN l k++_=_
 rw [List.getElem?_eq_getElem hk];simp [h]
theorem zfY {l:List zn} (hl:l.length≤100000) (hv:IV l) {κ:List zn→Prop} (h:κ (wdF l)):Xy l κ:=by
 unfold Xy
 refine zkG hl hv (U4 0 rfl (by omega) (by omega) ?_)
 have rem0:zmE l=((List.range l.length).drop 0).filter (dd l):=rfl
 rw [rem0]
 refine zX l.length (fun s=>s.2.2) (fun k (s:List Int×List zn×Int)=>s.2.2=(k:Int)∧k≤l.length∧s.1=(((List.range l.length).drop k).filter (dd l)).map Int.ofNat∧s.2.1=wdN l k) (fun k s h=>h.1) (fun k s h=>h.2.1) ?_ ⟨rfl,by omega,rfl,rfl⟩
 rintro k ⟨_,_,_⟩ next ⟨rfl,hk,hx,hy⟩ hn
 simp only at hx hy
 subst hx hy
 refine zo (fun hc=>?_) (fun hc=>?_)
 ·have hlt:k<l.length:=by simpa using hc
  have hd:(List.range l.length).drop k=k :: (List.range l.length).drop (k+1):=by
   rw [List.drop_eq_getElem_cons (by simpa using hlt)];simp
  have hwl:=(zc7 l k).1
  have hfl:∀ m,((((List.range l.length).drop m).filter (dd l)).map Int.ofNat).length≤l.length:=fun m=>by
   rw [List.length_map]
   refine Nat.le_trans (List.length_filter_le _ _) ?_
   rw [List.length_drop,List.length_range];omega
  refine jQ (zq k rfl hlt (jQ ?_))
  have nxt:∀ ws,ws=wdN l (k+1)→jx (k:Int) 1 (fun t188=>next ((((List.range l.length).drop (k+1)).filter (dd l)).map Int.ofNat,ws,t188)):=fun ws hw=>zy (by omega) (by omega) (hn hlt _ ⟨by simp,by omega,rfl,hw⟩)
  have app:dd l k=false→jU (wdN l k) [l[k]] (fun _=>jx (k:Int) 1 (fun t188=>next ((((List.range l.length).drop (k+1)).filter (dd l)).map Int.ofNat,wdN l k++[l[k]],t188))):=fun q=>jk (by simp;omega) (nxt _ (ziB hlt q).symm)
  by_cases q:dd l k=true
  ·have e:((List.range l.length).drop k).filter (dd l)=k :: ((List.range l.length).drop (k+1)).filter (dd l):=by rw [hd,List.filter_cons,if_pos q]
   rw [e]
   refine zo (fun _=>zq 0 rfl (by simp) ?_) (fun e2=>by simp at e2)
   refine zo (fun _=>?_) (fun e2=>by simp at e2)
   refine ⟨by omega,by simp;omega,by omega,?_⟩
   have e3:(List.take (((k :: ((List.range l.length).drop (k+1)).filter (dd l)).map Int.ofNat).length:Int).toNat ((k :: ((List.range l.length).drop (k+1)).filter (dd l)).map Int.ofNat)).drop (1:Int).toNat=(((List.range l.length).drop (k+1)).filter (dd l)).map Int.ofNat:=by
    rw [Int.toNat_natCast,List.take_length];rfl
   rw [e3]
   exact nxt _ (zhi hlt q).symm
  ·have q':dd l k=false:=by simpa using q
   have e:((List.range l.length).drop k).filter (dd l)=((List.range l.length).drop (k+1)).filter (dd l):=by rw [hd,List.filter_cons,if_neg q]
   rw [e]
   refine zo (fun e2=>?_) (fun e2=>jK (app q'))
   have hpos:0<((((List.range l.length).drop (k+1)).filter (dd l)).map Int.ofNat).length:=by have:=of_decide_eq_true e2;omega
   refine zq 0 rfl hpos ?_
   have hm:((((List.range l.length).drop (k+1)).filter (dd l)).map Int.ofNat)[0]∈(((List.range l.length).drop (k+1)).filter (dd l)).map Int.ofNat:=List.getElem_mem hpos
   obtain ⟨j,hj,ej⟩:=List.mem_map.1 hm
   have hj2:=(List.mem_filter.1 hj).1
   have hjk:k+1≤j:=by
    rw [List.mem_drop_iff_getElem] at hj2
    obtain ⟨m,_,hm2⟩:=hj2
    simp at hm2;omega
   refine zo (fun e3=>?_) (fun _=>app q')
   have e3':=of_decide_eq_true e3
   rw [← ej] at e3'
   have:(j:Int)=(k:Int):=e3'
   omega
 ·have hge:l.length≤k:=by simpa using hc
  have:k=l.length:=by omega
  subst this
  exact h
theorem zkx {a:za} (h:B4 a):in4 a a=true:=by
 have z:∀ {l:List zh} {t:Int},St l t→xV l l t=[]:=fun {l t} hs=>by
  have hn:=zan hs hs
  cases e:xV l l t with
  | nil=>rfl
  | cons x r =>
   have hx:=V3 hn.1 (show x∈xV l l t by rw [e];simp)
   have:=(VE hs hs).1 hx.1
   exact absurd this.1 this.2
 obtain ⟨h0,h1,h2,h3⟩:=h
 simp [in4,zgc,zdu,z h0,z h1,z h2,z h3]
theorem zde {a b:List zh} {t:Int} (ha:St a t) (hb:St b t):xV a b t=[]↔∀ x,hv a x→hv b x:=by
 constructor
 ·intro h x hx
  by_cases q:hv b x
  ·exact q
  ·have:=(VE ha hb).2 ⟨hx,q⟩
   rw [h] at this;exact absurd this (u5 _)
 ·intro h
  have hn:=zan ha hb
  cases e:xV a b t with
  | nil=>rfl
  | cons x r =>
   have hx:=V3 hn.1 (show x∈xV a b t by rw [e];simp)
   have:=(VE ha hb).1 hx.1
   exact absurd (h _ this.1) this.2
theorem zhz {a:List zh} {t:Int} (h:St a t):a≠[]→∃ x,hv a x:=fun q=>by
 cases a with
 | nil=>exact absurd rfl q
 | cons s r=>exact ⟨s.xLo,(V3 h.1 (by simp)).1⟩
theorem zlw {a b:List zh} (h:∃ x,hv a x∧hv b x):jj a b≠[]:=fun e=>by
 obtain ⟨x,h1,h2⟩:=h
 have:=(Ye a b x).2 ⟨h1,h2⟩
 rw [e] at this;exact u5 _ this
theorem znP {a:za}:em4 a=true↔a.x0=[]∨a.x1=[]∨a.x2=[]∨a.x3=[]:=by unfold em4;exact decide_eq_true_iff
theorem zj7 {a:za}:em4 a=false↔a.x0≠[]∧a.x1≠[]∧a.x2≠[]∧a.x3≠[]:=by unfold em4;rw [decide_eq_false_iff_not];simp only [not_or,ne_eq]
theorem zgT {a b:za} (ha:B4 a) (hb:B4 b):YC a b=[]↔in4 a b=true:=by
 obtain ⟨p0,p1,p2,p3⟩:=ha
 obtain ⟨q0,q1,q2,q3⟩:=hb
 have hless:zgc a b=zdu↔(xV a.x0 b.x0 65535=[]∧xV a.x1 b.x1 65535=[]∧xV a.x2 b.x2 255=[]∧xV a.x3 b.x3 7=[]):=by
  simp [zgc,zdu]
 unfold YC in4
 by_cases e:em4 (xM a b)=true
 ·rw [if_pos e]
  by_cases e2:em4 a=true
  ·simp [e2]
  ·have e2':em4 a=false:=by simpa using e2
   simp only [e2',Bool.false_eq_true,if_false,Bool.false_or,decide_eq_true_eq]
   refine ⟨fun h=>by simp at h,fun h=>?_⟩
   obtain ⟨l0,l1,l2,l3⟩:=hless.1 h
   rw [zde p0 q0] at l0
   rw [zde p1 q1] at l1
   rw [zde p2 q2] at l2
   rw [zde p3 q3] at l3
   exfalso
   rw [zj7] at e2'
   rw [znP] at e
   have g:∀ {x y:List zh} {t:Int},St x t→x≠[]→(∀ v,hv x v→hv y v)→jj x y≠[]:=fun hx hne hh=>by
    obtain ⟨v,hv1⟩:=zhz hx hne
    exact zlw ⟨v,hv1,hh v hv1⟩
   rcases e with e | e | e | e
   ·exact g p0 e2'.1 l0 e
   ·exact g p1 e2'.2.1 l1 e
   ·exact g p2 e2'.2.2.1 l2 e
   ·exact g p3 e2'.2.2.2 l3 e
 ·rw [if_neg e]
  have e2:em4 a=false:=by
   have e':em4 (xM a b)=false:=by simpa using e
   rw [zj7] at e' ⊢
   refine ⟨fun q=>e'.1 (by simp only [xM];rw [q];rfl),fun q=>e'.2.1 (by simp only [xM];rw [q];rfl),fun q=>e'.2.2.1 (by simp only [xM];rw [q];rfl),fun q=>e'.2.2.2 (by simp only [xM];rw [q];rfl)⟩
  simp only [e2,Bool.false_or,decide_eq_true_eq,hless]
  have hp:∀ (r:List zh) (c:za),pc r c=[]↔r=[]:=fun r c=>by unfold pc;split <;> simp [*]
  simp only [List.append_eq_nil_iff,hp,and_assoc]
def zb2 (a b:za):List Nat:=(List.range 4).filter (fun n=>decide (ue a n≠ue b n))
def uni (a b:za) (n:Nat):List zh:=Yb (ue a n) (ue b n)
def mg (a b:za):Option za :=
 if in4 a b then some b else if in4 b a then some a else
 match zb2 a b with
 | [n]=>if (uni a b n).length≤40 then some (Uj a n (uni a b n)) else none
 | _=>none
theorem zex {a b:za} {n:Nat} (h:zb2 a b=[n]):n<4∧ue a n≠ue b n:=by
 have:n∈zb2 a b:=by rw [h];simp
 obtain ⟨h1,h2⟩:=List.mem_filter.1 this
 exact ⟨by simpa using h1,by simpa using h2⟩
theorem znS {a b x:za} (ha:B4 a∧F4 a) (hb:B4 b∧F4 b) (h:mg a b=some x):B4 x∧F4 x:=by
 unfold mg at h
 split at h
 ·injection h with h;subst h;exact hb
 ·split at h
  ·injection h with h;subst h;exact ha
  ·split at h
   ·rename_i n hn
    obtain ⟨h4,_⟩:=zex hn
    split at h
    ·rename_i hl
     injection h with h;subst h
     have k0:(0:Int)≤n:=by omega
     have k3:(n:Int)≤3:=by omega
     exact ⟨zi9 ha.1 k0 k3 (zdA (Yv ha.1 k0 k3) (Yv hb.1 k0 k3)),zgO (ziU (zf6.1 ha.2) k0 k3 hl (Nat.le_refl _))⟩
    ·cases h
   ·cases h
theorem zjW {a b:List zh} (hl:a.length≤4294967296) {κ:Bool→Prop} (h:κ (decide (a=b))):ul a b κ:=by
 unfold ul
 by_cases hab:a.length=b.length
 ·refine zo (fun e=>by simp [hab] at e) (fun _=>?_)
  exact ziV a b hab hl (fun x y A=>ifW (!(decide (x=y))) (κ false) A) (fun x y A h1 h2=>zo (fun e=>h2 (by simpa using e)) (fun e=>h1 (by simpa using e))) h _ (fun nx t hh=>hh)
 ·rw [decide_eq_false (fun q=>hab (by rw [q]))] at h
  exact zo (fun _=>h) (fun e=>by simp at e;omega)
def VS (a b:za) (k:Nat):List Nat:=(List.range k).filter (fun n=>decide (ue a n≠ue b n))
theorem Y7 (a b:za) (k:Nat):VS a b (k+1)=VS a b k++(if ue a k≠ue b k then [k] else []):=by
 unfold VS
 rw [List.range_succ,List.filter_append,List.filter_cons]
 by_cases h:ue a k=ue b k <;> simp [h]
theorem zjA (a b:za):∀ k,(VS a b k).length≤k:=fun k=>Nat.le_trans (List.length_filter_le _ _) (by simp)
def zoi:Option za→za×Bool
 | some x=>(x,true)
 | none=>(zdu,false)
theorem zho {a b:za} (ha:B4 a∧F4 a) (hb:B4 b∧F4 b) {κ:za×Bool→Prop} (h:κ (zoi (mg a b))):ZS a b κ:=by
 unfold ZS
 unfold mg at h
 refine zhW ha.1 hb.1 (zo (fun e=>?_) (fun e=>zhW hb.1 ha.1 (zo (fun e2=>?_) (fun e2=>?_))))
 ·rw [if_pos e] at h;exact h
 ·rw [if_neg (by simp [e]),if_pos e2] at h;exact h
 rw [if_neg (by simp [e]),if_neg (by simp [e2])] at h
 refine zX 4 (fun s=>s.2.2) (fun k (s:Int×Int×Int)=>s.2.2=(k:Int)∧k≤4∧s.2.1=((VS a b k).length:Int)∧∀ n,(VS a b k).getLast?=some n→s.1=(n:Int)) (fun k s h=>h.1) (fun k s h=>h.2.1) ?_ ⟨rfl,by omega,rfl,fun n hn=>by simp [VS] at hn⟩
 rintro k ⟨f,cn,_⟩ next ⟨rfl,hk,hcn,hf⟩ hn
 simp only at hcn hf
 subst hcn
 have hdl:=zjA a b k
 refine zo (fun hc=>?_) (fun hc=>?_)
 ·have hlt:k<4:=by
   have:(k:Int)<4:=of_decide_eq_true hc
   omega
  have k0:(0:Int)≤k:=by omega
  have k3:(k:Int)≤3:=by omega
  refine jQ (jQ (Zf k0 k3 (Zf k0 k3 (zjW (by have:=zf6.1 ha.2 k k0 k3;omega) (zo (fun e=>?_) (fun e=>?_))))))
  ·have hne:ue a k≠ue b k:=by simpa using e
   refine zy (by omega) (by omega) (zy (by omega) (by omega) (hn hlt _ ⟨by simp,by omega,?_,fun n hnn=>?_⟩))
   ·rw [Y7,if_pos hne];simp
   ·rw [Y7,if_pos hne] at hnn
    simp at hnn;simp only;omega
  ·have hne:¬ ue a k≠ue b k:=by simpa using e
   refine zy (by omega) (by omega) (hn hlt _ ⟨by simp,by omega,?_,fun n hnn=>?_⟩)
   ·rw [Y7,if_neg hne];simp
   ·rw [Y7,if_neg hne,List.append_nil] at hnn
    exact hf n hnn
 ·have hge:k=4:=by
   have:¬ (k:Int)<4:=of_decide_eq_false hc
   omega
  subst hge
  have ed:VS a b 4=zb2 a b:=rfl
  rw [ed] at hf ⊢
  refine zo (fun e3=>?_) (fun e3=>?_)
  ·have h1:¬ (zb2 a b).length=1:=by
    have:¬ ((zb2 a b).length:Int)=1:=by simpa using e3
    omega
   have:κ (zdu,false):=by
    split at h
    ·rename_i n hn';rw [hn'] at h1;simp at h1
    ·exact h
   exact this
  ·have h1:(zb2 a b).length=1:=by
    have:((zb2 a b).length:Int)=1:=by simpa using e3
    omega
   obtain ⟨n,hn'⟩:=List.length_eq_one_iff.1 h1
   rw [hn'] at h hf
   have hfn:=hf n rfl
   subst hfn
   obtain ⟨h4,_⟩:=zex hn'
   have k0:(0:Int)≤n:=by omega
   have k3:(n:Int)≤3:=by omega
   have tl:=zab n
   refine jQ (Zf k0 k3 (Zf k0 k3 (ZR k0 k3 (zgI (Yv ha.1 k0 k3) (Yv hb.1 k0 k3) (by omega) (by omega) ?_))))
   simp only at h
   by_cases hl:(uni a b n).length≤40
   ·rw [if_pos hl] at h
    have el:lim (Yb (ue a n) (ue b n))=(uni a b n,true):=by unfold lim;rw [if_neg (by unfold uni at hl;omega)];rfl
    rw [el]
    refine jK (Zf k0 k3 ⟨_,_,_,_,V0 k0 k3,h⟩)
   ·rw [if_neg hl] at h
    have el:lim (Yb (ue a n) (ue b n))=([],false):=by unfold lim;rw [if_pos (by unfold uni at hl;omega)]
    rw [el]
    exact jo h
end
section
open Go Go.Proofs
def pm (x y:zn):Option zn:=if x.xAccept=y.xAccept then (mg x.xWhere y.xWhere).map (fun w=>⟨w,x.xAccept⟩) else none
def pmA (l:List zn) (k:Nat):Option zn:=match l[k]?,l[k+1]? with | some x,some y=>pm x y | _,_=>none
def fpN (l:List zn):Nat→Option (Nat×zn)
 | 0=>none
 | n+1=>match fpN l n with | some r=>some r | none=>(pmA l n).map (fun z=>(n,z))
def fp (l:List zn):Option (Nat×zn):=fpN l l.length
def Vo (l:List zn) (k:Nat) (z:zn):List zn:=l.take k++[z]++l.drop (k+2)
def mgN:Nat→List zn→List zn
 | 0,l=>l
 | n+1,l=>match fp l with | none=>l | some (k,z)=>mgN n (Vo l k z)
def mgF (l:List zn):List zn:=mgN l.length l
theorem zcj {l:List zn} {k:Nat} {z:zn} (h:pmA l k=some z):k+1<l.length:=by
 unfold pmA at h
 split at h
 ·rename_i x y h1 h2;exact (List.getElem?_eq_some_iff.1 h2).1
 ·cases h
theorem zkM {l:List zn} {k:Nat} (h:l.length≤k+1):pmA l k=none:=by
 cases e:pmA l k with
 | none=>rfl
 | some z=>have:=zcj e;omega
theorem zeo {l:List zn} {k:Nat} (h:k+1<l.length):pmA l k=pm l[k] l[k+1]:=by
 unfold pmA
 rw [List.getElem?_eq_getElem (by omega:k<l.length),List.getElem?_eq_getElem h]
theorem zfy {l:List zn}:∀ {n:Nat},(∀ j,j<n→pmA l j=none)→fpN l n=none
 | 0,_=>rfl
 | n+1,h=>by
  unfold fpN
  rw [zfy (fun j hj=>h j (by omega))]
  simp [h n (by omega)]
theorem zhV {l:List zn} {k:Nat} {z:zn} (h1:∀ j,j<k→pmA l j=none) (h2:pmA l k=some z):∀ {n:Nat},k<n→fpN l n=some (k,z)
 | 0,h=>by omega
 | n+1,h=>by
  unfold fpN
  by_cases e:k=n
  ·subst e;rw [zfy h1,h2];rfl
  ·rw [zhV h1 h2 (by omega)]
theorem zjk {l:List zn} (h:∀ j,pmA l j=none):fp l=none:=zfy (fun j _=>h j)
theorem zer {l:List zn} {k:Nat} {z:zn} (h1:∀ j,j<k→pmA l j=none) (h2:pmA l k=some z):fp l=some (k,z):=zhV h1 h2 (by have:=zcj h2;omega)
theorem zbM {l:List zn} {k:Nat} {z:zn} (h:k+1<l.length):(Vo l k z).length=l.length - 1:=by
 unfold Vo
 simp only [List.length_append,List.length_take,List.length_singleton,List.length_drop];omega
theorem zh6 {l:List zn} (h:∀ j,pmA l j=none):mgF l=l:=by
 unfold mgF
 cases e:l.length with
 | zero=>rfl
 | succ n=>unfold mgN;rw [zjk h]
theorem zie {l:List zn} {k:Nat} {z:zn} (h1:∀ j,j<k→pmA l j=none) (h2:pmA l k=some z):mgF l=mgF (Vo l k z):=by
 have hk:=zcj h2
 have hl:=zbM (z:=z) hk
 unfold mgF
 rw [hl]
 obtain ⟨n,hn⟩:∃ n,l.length=n+1:=⟨l.length - 1,by omega⟩
 rw [hn]
 conv=>lhs;unfold mgN
 rw [zer h1 h2]
 rfl
theorem znZ {x y z:zn} (hx:B4 x.xWhere∧F4 x.xWhere) (hy:B4 y.xWhere∧F4 y.xWhere) (h:pm x y=some z):(B4 z.xWhere∧F4 z.xWhere)∧z.xAccept=x.xAccept:=by
 unfold pm at h
 split at h
 ·cases e:mg x.xWhere y.xWhere with
  | none=>rw [e] at h;cases h
  | some w =>
   rw [e] at h
   simp only [Option.map_some,Option.some.injEq] at h
   subst h
   exact ⟨znS hx hy e,rfl⟩
 ·cases h
theorem zdc {l:List zn} {k:Nat} {z:zn} (h:IV l) (h2:pmA l k=some z):IV (Vo l k z):=by
 have hk:=zcj h2
 rw [zeo hk] at h2
 have hz:=znZ (h _ (List.getElem_mem (by omega))) (h _ (List.getElem_mem hk)) h2
 intro f hf
 unfold Vo at hf
 rcases List.mem_append.1 hf with q | q
 ·rcases List.mem_append.1 q with q | q
  ·exact h f (List.mem_of_mem_take q)
  ·rw [List.mem_singleton] at q;subst q;exact hz.1
 ·exact h f (List.mem_of_mem_drop q)
theorem zij:∀ (n:Nat) {l:List zn},IV l→IV (mgN n l)∧(mgN n l).length≤l.length
 | 0,l,h=>⟨h,Nat.le_refl _⟩
 | n+1,l,h=>by
  unfold mgN
  cases e:fp l with
  | none=>exact ⟨h,Nat.le_refl _⟩
  | some kz =>
   obtain ⟨k,z⟩:=kz
   have hkz:pmA l k=some z:=by
    have:∀ n,fpN l n=some (k,z)→pmA l k=some z:=by
     intro n
     induction n with
     | zero=>intro q;cases q
     | succ n ih =>
      intro q
      unfold fpN at q
      cases e2:fpN l n with
      | some r=>rw [e2] at q;simp only [Option.some.injEq] at q;subst q;exact ih e2
      | none =>
       rw [e2] at q
       cases e3:pmA l n with
       | none=>rw [e3] at q;cases q
       | some z' =>
        rw [e3] at q
        simp only [Option.map_some,Option.some.injEq,Prod.mk.injEq] at q
        obtain ⟨rfl,rfl⟩:=q
        exact e3
    exact this _ e
   have ih:=zij n (zdc h hkz)
   have hl:=zbM (z:=z) (zcj hkz)
   exact ⟨ih.1,by have:=ih.2;simp only;omega⟩
theorem zk2 {l:List zn} (h:IV l):IV (mgF l):=(zij _ h).1
theorem zhb {l:List zn} (h:IV l):(mgF l).length≤l.length:=(zij _ h).2
theorem zlG {l:List zn} (hl:l.length≤4294967296) {κ:List zn→Prop} (h:κ l):um l κ:=by
 unfold um
 refine ⟨fun _=>jK (jk (by simpa using hl) h),fun e=>?_⟩
 subst e
 exact ⟨jo h,jK (jk (by simp) h)⟩
theorem zkd {l:List zn} {i:Nat} (h:i+2≤l.length) {κ:List zn→Prop} (hκ:κ (l.take (i+1)++l.drop (i+2))):uh l ((i:Int)+1) ((i:Int)+2) κ:=by
 refine ⟨by omega,by omega,by omega,?_⟩
 rw [show ((i:Int)+1).toNat=i+1 by omega,show ((i:Int)+2).toNat=i+2 by omega]
 exact hκ
theorem zlS {l:List zn} {i:Nat} (h:i+1<l.length) (z:zn):(l.set i z).take (i+1)++(l.set i z).drop (i+2)=Vo l i z:=by
 unfold Vo
 rw [List.take_succ_eq_append_getElem (by simp;omega),List.take_set_of_le (by omega),List.drop_set_of_lt (by omega)]
 simp
theorem zjV {l:List zn} {i j:Nat} {z:zn} (h:i+1<l.length) (hj:j+1<i):pmA (Vo l i z) j=pmA l j:=by
 unfold pmA
 have e:∀ m,m<i→(Vo l i z)[m]?=l[m]?:=fun m hm=>by
  unfold Vo
  rw [List.append_assoc,List.getElem?_append_left (by rw [List.length_take];omega),List.getElem?_take,if_pos hm]
 rw [e j (by omega),e (j+1) hj]
theorem zcD {l:List zn} (hl:l.length≤100000) (hv:IV l) {κ:List zn→Prop} (h:κ (mgF l)):Za l κ:=by
 unfold Za
 refine zlG (by omega) ?_
 refine yi (fun (s:List zn×Int)=>∃ i:Nat,s.2=(i:Int)∧i≤s.1.length∧s.1.length≤100000∧IV s.1∧(∀ j,j<i→pmA s.1 j=none)∧mgF s.1=mgF l) (fun s=>2 * s.1.length - s.2.toNat) ?_ ⟨0,rfl,by omega,hl,hv,fun j hj=>by omega,rfl⟩
 rintro ⟨xs,_⟩ next ⟨i,rfl,hi,hxl,hxv,hno,hm⟩ hn
 simp only at hi hxl hxv hno hm hn
 refine zy (by omega) (by omega) (zo (fun hc=>?_) (fun hc=>?_))
 ·have hlt:i+1<xs.length:=by have:=of_decide_eq_true hc;omega
  have hxi:=hxv _ (List.getElem_mem (show i<xs.length by omega))
  have hxj:=hxv _ (List.getElem_mem hlt)
  have hpm:=zeo hlt
  have w64e:w64 ((i:Int)+1)=((i+1:Nat):Int):=by rw [zj8 (by omega) (by omega)];omega
  have stepNo:pmA xs i=none→jx (i:Int) 1 (fun t153=>next (xs,t153)):=fun q=>zy (by omega) (by omega) (hn _ ⟨i+1,by simp,by simp only;omega,hxl,hxv,fun j hj=>by
   by_cases e:j=i
   ·subst e;exact q
   ·exact hno j (by omega),hm⟩ (by simp only;omega))
  have stepYes:∀ w:za,pmA xs i=some ⟨w,xs[i].xAccept⟩→zJ xs (i:Int) (fun e174=>jx (i:Int) 1 (fun t189=>jx (i:Int) 2 (fun t190=>uh (xs.set ((i:Int)).toNat (zn.mk w e174.xAccept)) t189 t190 (fun r191=>Y5 (i:Int) 1 (fun t194=>next (r191,(max t194 0))))))):=fun w q=>by
   refine zq i rfl (by omega) (zy (by omega) (by omega) (zy (by omega) (by omega) ?_))
   rw [Int.toNat_natCast]
   refine zkd (by rw [List.length_set];omega) ?_
   rw [zlS hlt]
   have hml:=zbM (l:=xs) (k:=i) (z:=⟨w,xs[i].xAccept⟩) hlt
   refine yU (by omega) (by omega) (hn _ ⟨i - 1,by simp only;omega,by simp only;omega,by simp only;omega,zdc hxv q,fun j hj=>?_,?_⟩ (by simp only;omega))
   ·rw [zjV hlt (by omega)];exact hno j (by omega)
   ·rw [← zie hno q];exact hm
  refine jQ (zq i rfl (by omega) (zy (by omega) (by omega) (zq (i+1) (by omega) hlt (zo (fun e=>?_) (fun e=>?_)))))
  ·have ea:xs[i].xAccept=xs[i+1].xAccept:=of_decide_eq_true e
   unfold pm at hpm
   rw [if_pos ea] at hpm
   rw [w64e]
   refine jQ (zq i rfl (by omega) (zq (i+1) rfl hlt (zho hxi hxj ?_)))
   cases em:mg xs[i].xWhere xs[i+1].xWhere with
   | none =>
    rw [em] at hpm
    exact jo (stepNo hpm)
   | some w =>
    rw [em] at hpm
    exact jK ⟨w.x0,w.x1,w.x2,w.x3,rfl,stepYes w hpm⟩
  ·have ea:¬ xs[i].xAccept=xs[i+1].xAccept:=of_decide_eq_false e
   unfold pm at hpm
   rw [if_neg ea] at hpm
   exact jo (stepNo hpm)
 ·have hge:xs.length≤i+1:=by have:=of_decide_eq_false hc;omega
  have:mgF xs=xs:=zh6 (fun j=>by
   by_cases e:j<i
   ·exact hno j e
   ·exact zkM (by omega))
  rw [← hm,this] at h
  exact h
def trN (l:List zn) (rest:Bool):Nat→Nat
 | 0=>0
 | n+1=>if (match l[n]? with | some f=>decide (f.xAccept=rest) | none=>false) then trN l rest n else n+1
def trF (l:List zn) (rest:Bool):List zn:=l.take (trN l rest l.length)
theorem zlI (l:List zn) (rest:Bool):(trF l rest).length≤l.length:=by unfold trF;rw [List.length_take];omega
theorem znn {l:List zn} {rest:Bool} (h:IV l):IV (trF l rest):=fun f hf=>h f (List.mem_of_mem_take hf)
theorem zjG {l:List zn} {rest:Bool} (hl:l.length≤100000) {κ:List zn→Prop} (h:κ (trF l rest)):UC l rest κ:=by
 unfold UC
 refine yi (fun (s:Int)=>∃ n:Nat,s=(n:Int)∧n≤l.length∧trN l rest l.length=trN l rest n) (fun s=>s.toNat) ?_ ⟨l.length,rfl,Nat.le_refl _,rfl⟩
 rintro _ next ⟨n,rfl,hn',he⟩ hnx
 have fin:trN l rest n=n→yZ l 0 (n:Int) (fun xs73=>κ xs73):=fun q=>by
  refine ⟨by omega,by omega,by omega,?_⟩
  unfold trF at h
  rw [he,q] at h
  simpa using h
 refine jQ (zo (fun e=>?_) (fun e=>jK (fin ?_)))
 ·have hpos:0<n:=by have:=of_decide_eq_true e;omega
  obtain ⟨m,rfl⟩:∃ m,n=m+1:=⟨n - 1,by omega⟩
  have hlt:m<l.length:=by omega
  have em:((m+1:Nat):Int) - 1=(m:Int):=by omega
  refine yU (by omega) (by omega) ?_
  rw [em]
  refine zq m rfl hlt (zo (fun e2=>?_) (fun e2=>fin ?_))
  ·have e2':l[m].xAccept=rest:=of_decide_eq_true e2
   refine yU (by omega) (by omega) (hnx _ ⟨m,by omega,by omega,?_⟩ (by omega))
   rw [he]
   conv=>lhs;unfold trN
   rw [List.getElem?_eq_getElem hlt]
   simp [e2']
  ·have e2':¬ l[m].xAccept=rest:=of_decide_eq_false e2
   unfold trN
   rw [List.getElem?_eq_getElem hlt]
   simp [e2']
 ·have:n=0:=by have:=of_decide_eq_false e;omega
  subst this;rfl
def sh1 (l:List zn) (rest:Bool):List zn:=trF (mgF (wdF l)) rest
theorem zbl {l:List zn} {rest:Bool} (h:IV l):IV (sh1 l rest):=znn (zk2 (zbk h))
theorem Vr {l:List zn} {rest:Bool} (h:IV l):(sh1 l rest).length≤l.length:=Nat.le_trans (zlI _ _) (Nat.le_trans (zhb (zbk h)) (zgG l))
def shN (rest:Bool):Nat→List zn→List zn
 | 0,l=>sh1 l rest
 | n+1,l=>if (sh1 l rest).length=l.length then sh1 l rest else shN rest n (sh1 l rest)
def shF (l:List zn) (rest:Bool):List zn:=shN rest l.length l
theorem ziC {rest:Bool}:∀ {n:Nat} {l:List zn},IV l→IV (shN rest n l)∧(shN rest n l).length≤l.length
 | 0,l,h=>⟨zbl h,Vr h⟩
 | n+1,l,h=>by
  unfold shN
  split
  ·exact ⟨zbl h,Vr h⟩
  ·have:=ziC (rest:=rest) (n:=n) (zbl (rest:=rest) h)
   exact ⟨this.1,Nat.le_trans this.2 (Vr h)⟩
theorem znA {l:List zn} {rest:Bool} (h:IV l):IV (shF l rest):=(ziC h).1
theorem zl9 {l:List zn} {rest:Bool} (h:IV l):(shF l rest).length≤l.length:=(ziC h).2
theorem zhD {rest:Bool}:∀ {n m:Nat} {l:List zn},IV l→l.length≤n→l.length≤m→shN rest n l=shN rest m l
 | 0,0,l,_,_,_=>rfl
 | 0,m+1,l,h,h1,h2=>by
  have:=Vr (rest:=rest) h
  unfold shN
  rw [if_pos (by omega)]
 | n+1,0,l,h,h1,h2=>by
  have:=Vr (rest:=rest) h
  conv=>lhs;unfold shN
  rw [if_pos (by omega)]
  rfl
 | n+1,m+1,l,h,h1,h2=>by
  have:=Vr (rest:=rest) h
  conv=>lhs;unfold shN
  conv=>rhs;unfold shN
  split
  ·rfl
  ·exact zhD (zbl h) (by omega) (by omega)
theorem ziJ {l:List zn} {rest:Bool} (h:IV l):shF l rest=if (sh1 l rest).length=l.length then sh1 l rest else shF (sh1 l rest) rest:=by
 have:=Vr (rest:=rest) h
 unfold shF
 cases e:l.length with
 | zero =>
  rw [e] at this
  rw [if_pos (by omega)];rfl
 | succ n =>
  conv=>lhs;unfold shN
  rw [e]
  split
  ·rfl
  ·exact zhD (zbl h) (by omega) (Nat.le_refl _)
theorem zg1 {l:List zn} {rest:Bool} (hl:l.length≤100000) (hv:IV l) {κ:List zn→Prop} (h:κ (shF l rest)):X4 l rest κ:=by
 unfold X4
 refine yi (fun (s:List zn)=>s.length≤100000∧IV s∧shF s rest=shF l rest) (fun s=>s.length) ?_ ⟨hl,hv,rfl⟩
 rintro xs next ⟨hx,hxv,he⟩ hn
 have w1:=zgG xs
 have w2:=zhb (zbk hxv)
 have w3:=Vr (rest:=rest) hxv
 refine zfY hx hxv (zcD (by omega) (zbk hxv) (zjG (by omega) ?_))
 have hf:=ziJ (rest:=rest) hxv
 refine zo (fun e=>?_) (fun e=>?_)
 ·have e':((sh1 xs rest).length:Int)=(xs.length:Int):=of_decide_eq_true e
  rw [if_pos (by omega)] at hf
  rw [← he,hf] at h;exact h
 ·have e':¬ ((sh1 xs rest).length:Int)=(xs.length:Int):=of_decide_eq_false e
  rw [if_neg (by omega)] at hf
  exact hn (sh1 xs rest) ⟨by omega,zbl hxv,by rw [← hf];exact he⟩ (by omega)
noncomputable def cf (s:zN):Option (List zn):=(uf s).map (fun l=>shF l s.xAccept)
theorem zmw {s:zN} (h:SV s) {l:List zn} (he:cf s=some l):IV l∧l.length≤60:=by
 unfold cf at he
 cases e:uf s with
 | none=>rw [e] at he;cases he
 | some u =>
  rw [e] at he
  simp only [Option.map_some,Option.some.injEq] at he
  subst he
  obtain ⟨u1,u2⟩:=zjq h e
  exact ⟨znA u1,Nat.le_trans (zl9 u1) u2⟩
theorem zbc {s:zN} (hb:Bd s) {κ:List zn×Bool→Prop} (h1:SV s→∀ l,cf s=some l→κ (l,true)) (h2:(SV s→cf s=none)→κ ([],false)):uT s κ:=by
 unfold uT
 refine Vm hb (fun b hbv=>zo (fun e=>h2 (fun q=>?_)) (fun e=>?_))
 ·rw [hbv.2 q] at e;cases e
 have hv:SV s:=hbv.1 (by simpa using e)
 refine zfT hv (fun l hl=>jK ?_) (fun hn l=>jo (h2 (fun _=>by unfold cf;rw [hn];rfl)))
 obtain ⟨u1,u2⟩:=zjq hv hl
 exact zg1 (by omega) u1 (h1 hv _ (by unfold cf;rw [hl];rfl))
theorem zfw {s:zN} (hb:Bd s) {κ:List zS×Bool→Prop} (h1:SV s→∀ l,cf s=some l→κ (l.map gf,true)) (h2:(SV s→cf s=none)→κ ([],false)):Z4 s κ:=by
 unfold Z4
 refine zbc hb (fun hv l hl=>jK ?_) (fun q=>jo (h2 q))
 obtain ⟨u1,u2⟩:=zmw hv hl
 exact ziH (by omega) u1 (h1 hv l hl)
end
section
open Go Go.Proofs
def znp:Option (List za)→List z8×Bool
 | some l=>(l.map bx,true)
 | none=>([],false)
theorem zgn {a:za} {bs:List za} (ha:B4 a) (hb:aB bs) (hl:bs.length≤100000) {κ:List z8×Bool→Prop} (h:κ (znp (YM a bs))):Ys (bx a) (bs.map bx) κ:=by
 unfold Ys
 have start:∀ l0:List za,YM a bs=lgo l0 bs→aB l0→l0.length≤400→jw (fun (nx88:((List z8)×Int)→Prop) ((xs84,t87):((List z8)×Int))=>ifW (decide (t87<((bs.map bx).length:Int))) (jw (fun (nx97:((List z8)×Int)→Prop) ((xs93,t96):((List z8)×Int))=>ifW (decide (t96<(xs84.length:Int))) (zJ xs84 t96 (fun e98=>zJ (bs.map bx) t87 (fun e100=>Ze e98 e100 (fun r112=>jU xs93 r112 (fun _=>jx t96 1 (fun t117=>nx97 ((xs93++r112),t117))))))) (xE xs93 (fun r118=>ifW (!r118) (κ ([],false)) (jx t87 1 (fun t122=>nx88 (xs93,t122)))))) ([],0)) (κ (xs84,true))) (l0.map bx,0):=by
  intro l0 h0 hB0 hl0
  refine zX bs.length (fun s=>s.2) (fun k (s:List z8×Int)=>s.2=(k:Int)∧k≤bs.length∧∃ left,s.1=left.map bx∧aB left∧left.length≤400∧YM a bs=lgo left (bs.drop k)) (fun k s h=>h.1) (fun k s h=>h.2.1) ?_ ⟨rfl,by omega,l0,rfl,hB0,hl0,h0⟩
  rintro k ⟨_,_⟩ next ⟨rfl,hk,left,hx,hB,hll,he⟩ hn
  simp only at hx
  subst hx
  refine zo (fun hc=>?_) (fun hc=>?_)
  rotate_left
  ·have hge:bs.length≤k:=by simpa using hc
   rw [he,List.drop_of_length_le hge] at h
   exact h
  have hlt:k<bs.length:=by simpa using hc
  rw [List.drop_eq_getElem_cons hlt] at he
  have hbk:=hb _ (List.getElem_mem hlt)
  refine zX left.length (fun s=>s.2) (fun j (s:List z8×Int)=>s.2=(j:Int)∧j≤left.length∧s.1=(ua (left.take j) bs[k]).map bx) (fun k s h=>h.1) (fun k s h=>h.2.1) ?_ ⟨rfl,by omega,by simp [ua]⟩
  rintro j ⟨_,_⟩ next2 ⟨rfl,hj,hx⟩ hn2
  simp only at hx
  subst hx
  have hsl:=zaE (left.take j) bs[k]
  rw [List.length_take] at hsl
  refine zo (fun hc2=>?_) (fun hc2=>?_)
  ·have hjl:j<left.length:=by simpa using hc2
   refine zq j rfl (by simpa using hjl) (zq k rfl (by simpa using hlt) ?_)
   rw [List.getElem_map,List.getElem_map]
   have hcl:=zbd left[j] bs[k]
   refine zfL (hB _ (List.getElem_mem hjl)) hbk (jk (by simp only [List.length_map];omega) (zy (by omega) (by omega) (hn2 hjl _ ⟨by simp,by omega,?_⟩)))
   rw [List.take_succ_eq_append_getElem hjl,XM,Ug,List.map_append]
  ·have hjge:left.length≤j:=by simpa using hc2
   rw [List.take_of_length_le hjge] at hsl ⊢
   unfold lgo at he
   refine Zy (Vq hB hbk) (by omega) (fun ok=>?_) (fun no=>?_)
   ·rw [if_pos ok] at he
    exact jK (zy (by omega) (by omega) (hn hlt _ ⟨by simp,by omega,ua left bs[k],rfl,Vq hB hbk,ok.2,he⟩))
   ·rw [if_neg no] at he
    rw [he] at h
    exact jo h
 refine jQ (VH (zo (fun e=>?_) (fun e=>?_)))
 ·refine jk (by simp) (start [a] ?_ (fun c hc=>by rw [List.mem_singleton] at hc;subst hc;exact ha) (by simp))
  unfold YM;rw [if_neg (by simpa using e)]
 ·refine start [] ?_ zeX (by simp)
  unfold YM;rw [if_pos (by simpa using e),zg6]
theorem zao {l:List zn} (hv:IV l) (hl:l.length≤60) {κ:List z8→Prop} (h:κ ((whs l).map bx)):Z7 (l.map gf) κ:=by
 have hF:=zb6 hv hl
 unfold Z7
 refine yj hF.fb ?_
 refine zX l.length (fun s=>s.2) (fun k (s:List z8×Int)=>s.2=(k:Int)∧k≤l.length∧s.1=(whs (l.take k)).map bx) (fun k s h=>h.1) (fun k s h=>h.2.1) ?_ ⟨rfl,by omega,rfl⟩
 rintro k ⟨_,_⟩ next ⟨rfl,hk,hx⟩ hn
 simp only at hx
 subst hx
 refine jQ (zo (fun hc=>?_) (fun hc=>jK ?_))
 ·have hlt:k<l.length:=by simpa using hc
  refine yI hF.fb ?_
  rw [decide_eq_true hF]
  refine jo (zq k rfl (by simpa using hlt) ?_)
  rw [List.getElem_map]
  refine jk (by simp [whs];omega) (zy (by omega) (by omega) (hn hlt _ ⟨by simp,by omega,?_⟩))
  simp only [whs,List.take_succ_eq_append_getElem hlt,List.map_append]
  rfl
 ·have hge:l.length≤k:=by simpa using hc
  rw [List.take_of_length_le hge];exact h
theorem zjJ {l:List zn} (hv:IV l) (hl:l.length≤60) {k:Nat} (hk:k<l.length) {κ:Bool→Prop} (h:κ (dd l k)):UO (l.map gf) k κ:=by
 unfold UO
 refine zq k rfl (by simpa using hk) ?_
 rw [List.getElem_map]
 refine ⟨by omega,by omega,by simp;omega,?_⟩
 have e:((l.map gf).take (k:Int).toNat).drop (0:Int).toNat=(l.take k).map gf:=by simp [List.map_take]
 rw [e]
 refine zao (hv.take k) (by rw [List.length_take];omega) ?_
 have hk2:=hv _ (List.getElem_mem hk)
 refine zgn hk2.1 (hv.take k).aB (by unfold whs;simp;omega) ?_
 have hd:=zlh hk
 unfold zhB at hd
 cases hlr:YM l[k].xWhere (whs (l.take k)) with
 | none =>
  rw [hlr] at hd
  have:dd l k=false:=by rw [hd];simp
  rw [this] at h
  exact jQ (jK h)
 | some r =>
  rw [hlr] at hd
  refine jQ (jo ?_)
  have e2:decide (((r.map bx).length:Int)=0)=dd l k:=by
   rw [hd]
   refine decide_eq_decide.2 ⟨fun q=>?_,fun q=>?_⟩
   ·rw [List.length_eq_zero_iff.1 (show r.length=0 by simp only [List.length_map] at q;omega)]
   ·injection q with q;subst q;rfl
  rw [e2];exact h
theorem zit {l:List zn} (hv:IV l) (hl:l.length≤60) {κ:List zS→Prop} (h:κ ((wdF l).map gf)):YV (l.map gf) κ:=by
 have hF:=zb6 hv hl
 unfold YV
 refine yj hF.fb ?_
 refine zX l.length (fun s=>s.2.2) (fun k (s:List zS×List zS×Int)=>s.2.2=(k:Int)∧k≤l.length∧s.1=l.map gf∧s.2.1=(wdN l k).map gf) (fun k s h=>h.1) (fun k s h=>h.2.1) ?_ ⟨rfl,by omega,rfl,rfl⟩
 rintro k ⟨_,_,_⟩ next ⟨rfl,hk,hx,hy⟩ hn
 simp only at hx hy
 subst hx hy
 have hwl:=(zc7 l k).1
 refine jQ (zo (fun hc=>?_) (fun hc=>jK ?_))
 ·have hlt:k<l.length:=by simpa using hc
  refine yI hF.fb ?_
  rw [decide_eq_true hF]
  refine jo (jQ (zjJ hv hl hlt (zo (fun e=>?_) (fun e=>?_))))
  ·have hd:dd l k=false:=by simpa using e
   refine zq k rfl (by simpa using hlt) ?_
   rw [List.getElem_map]
   refine jk (by simp;omega) (zy (by omega) (by omega) (hn hlt _ ⟨by simp,by omega,rfl,?_⟩))
   rw [ziB hlt hd,List.map_append];rfl
  ·have hd:dd l k=true:=by simpa using e
   refine zy (by omega) (by omega) (hn hlt _ ⟨by simp,by omega,rfl,?_⟩)
   rw [zhi hlt hd]
 ·have hge:l.length≤k:=by simpa using hc
  have:k=l.length:=by omega
  subst this
  exact h
theorem zap {a b:za} (ha:B4 a∧F4 a) (hb:B4 b∧F4 b) {κ:Bool→Prop} (h:κ (in4 a b)):Xe (bx a) (bx b) κ:=by
 unfold Xe
 have va:BV (bx a):=zfd.2 ha
 have vb:BV (bx b):=zfd.2 hb
 refine jQ (ZD va.bb ?_)
 rw [decide_eq_true va]
 refine jo (ZD vb.bb ?_)
 rw [decide_eq_true vb]
 refine jo (zfL ha.1 hb.1 ?_)
 have e:decide ((((YC a b).map bx).length:Int)=0)=in4 a b:=by
  have:=zgT ha.1 hb.1
  cases hi:in4 a b with
  | true=>rw [this.2 hi];rfl
  | false =>
   refine decide_eq_false (fun q=>?_)
   have:YC a b=[]:=List.length_eq_zero_iff.1 (by simp only [List.length_map] at q;omega)
   rw [(zgT ha.1 hb.1).1 this] at hi;cases hi
 rw [e];exact h
theorem zjB {a b:List zh} (hl:a.length≤4294967296) {κ:Bool→Prop} (h:κ (decide (a=b))):Ul a b κ:=by
 unfold Ul
 by_cases hab:a.length=b.length
 ·refine zo (fun e=>by simp [hab] at e) (fun _=>?_)
  exact ziV a b hab hl (fun x y A=>ifW (!(decide (x=y))) (κ false) A) (fun x y A h1 h2=>zo (fun e=>h2 (by simpa using e)) (fun e=>h1 (by simpa using e))) h _ (fun nx t hh=>hh)
 ·rw [decide_eq_false (fun q=>hab (by rw [q]))] at h
  exact zo (fun _=>h) (fun e=>by simp at e;omega)
theorem zdl {a b:List zh} {tp:Int} (h0:0≤tp) (h1:tp≤65535) (ha:SpV a tp) (hb:SpV b tp) {κ:List zh→Prop} (h:κ (if (Yb a b).length≤40 then Yb a b else [])):X0 a b tp κ:=by
 unfold X0
 have la:=ha.1
 have lb:=hb.1
 refine jQ (UH (by omega) h0 h1 ?_)
 rw [decide_eq_true ha]
 refine jK (UH (by omega) h0 h1 ?_)
 rw [decide_eq_true hb]
 refine jK (jk (by simp;omega) ?_)
 have stp:∀ k,St ((b.take k).foldl zcP a) tp:=fun k=>zdA ha.2 ⟨⟨fun s hs=>hb.2.1.1 s (List.mem_of_mem_take hs),hb.2.1.2.sublist (List.take_sublist _ _)⟩,fun s hs=>hb.2.2 s (List.mem_of_mem_take hs)⟩
 refine zX b.length (fun s=>s.2) (fun k (s:List zh×Int)=>s.2=(k:Int)∧k≤b.length∧s.1=(b.take k).foldl zcP a) (fun k s h=>h.1) (fun k s h=>h.2.1) ?_ ⟨rfl,by omega,by simp⟩
 rintro k ⟨_,_⟩ next ⟨rfl,hk,hx⟩ hn
 simp only at hx
 subst hx
 have hln:=zd4 (b.take k) a
 rw [List.length_take] at hln
 refine zo (fun hc=>?_) (fun hc=>?_)
 ·have hlt:k<b.length:=by simpa using hc
  have hs:=hb.2.2 _ (List.getElem_mem hlt)
  have hs2:=hb.2.1.1 _ (List.getElem_mem hlt)
  refine zq k rfl hlt (zlq (by omega) (fun s hs'=>?_) ?_ (zy (by omega) (by omega) (hn hlt _ ⟨by simp,by omega,?_⟩)))
  ·have q1:=(stp k).2 s hs'
   have q2:=(stp k).1.1 s hs'
   unfold Sm;omega
  ·unfold Sm;omega
  ·rw [List.take_succ_eq_append_getElem hlt,List.foldl_append];rfl
 ·have hge:b.length≤k:=by simpa using hc
  rw [List.take_of_length_le hge]
  refine zo (fun e=>?_) (fun e=>?_)
  ·have:¬ (Yb a b).length≤40:=by have:=of_decide_eq_true e;unfold Yb;omega
   rw [if_neg this] at h;exact h
  ·have:(Yb a b).length≤40:=by have:=of_decide_eq_false e;unfold Yb;omega
   rw [if_pos this] at h;exact h
def msp:Option za→z8×Bool
 | some x=>(bx x,true)
 | none=>(⟨[]⟩,false)
theorem zk6 {a b:za} (h:∀ n:Nat,n<4→ue a n=ue b n):a=b:=by
 have h0:a.x0=b.x0:=h 0 (by decide)
 have h1:a.x1=b.x1:=h 1 (by decide)
 have h2:a.x2=b.x2:=h 2 (by decide)
 have h3:a.x3=b.x3:=h 3 (by decide)
 obtain ⟨a0,a1,a2,a3⟩:=a
 obtain ⟨b0,b1,b2,b3⟩:=b
 simp only at h0 h1 h2 h3
 subst h0 h1 h2 h3
 rfl
theorem zlr {a b:za} (ha:B4 a) (h:in4 a b=false):zb2 a b≠[]:=fun e=>by
 have:a=b:=zk6 (fun n hn=>by
  by_cases q:ue a n=ue b n
  ·exact q
  ·have:n∈zb2 a b:=List.mem_filter.2 ⟨by simpa using hn,by simpa using q⟩
   rw [e] at this;simp at this)
 subst this
 rw [zkx ha] at h;cases h
theorem zne {a b:za} {tp:Int} {n:Nat} (ha:St (ue a n) tp) (hb:St (ue b n) tp) (h:ue a n≠ue b n):uni a b n≠[]:=fun e=>by
 have hh:=fun x=>zbO ha hb x
 unfold uni at e
 rw [e] at hh
 have na:ue a n=[]:=by
  cases q:ue a n with
  | nil=>rfl
  | cons s r =>
   have:=(V3 ha.1 (show s∈ue a n by rw [q];simp)).1
   exact absurd ((hh _).2 (.inl this)) (u5 _)
 have nb:ue b n=[]:=by
  cases q:ue b n with
  | nil=>rfl
  | cons s r =>
   have:=(V3 hb.1 (show s∈ue b n by rw [q];simp)).1
   exact absurd ((hh _).2 (.inr this)) (u5 _)
 exact h (by rw [na,nb])
theorem zdg {a b:za} (ha:B4 a∧F4 a) (hb:B4 b∧F4 b) {κ:z8×Bool→Prop} (h:κ (msp (mg a b))):X1 (bx a) (bx b) κ:=by
 unfold X1
 unfold mg at h
 have va:BV (bx a):=zfd.2 ha
 have vb:BV (bx b):=zfd.2 hb
 refine jQ (ZD va.bb ?_)
 rw [decide_eq_true va]
 refine jK (ZD vb.bb ?_)
 rw [decide_eq_true vb]
 refine jK (zap ha hb (zo (fun e=>?_) (fun e=>zap hb ha (zo (fun e2=>?_) (fun e2=>?_)))))
 ·rw [if_pos e] at h;exact zco vb.bb h
 ·rw [if_neg (by simp [e]),if_pos e2] at h;exact zco va.bb h
 rw [if_neg (by simp [e]),if_neg (by simp [e2])] at h
 have hne:=zlr ha.1 e
 have two:∀ {k:Nat},k<4→VS a b k≠[]→ue a k≠ue b k→κ (⟨[]⟩,false):=fun {k} hk q1 q2=>by
  have hm:zb2 a b=VS a b 4:=rfl
  have:2≤(zb2 a b).length:=by
   have h1:(VS a b (k+1)).length≤(zb2 a b).length:=by
    rw [hm];unfold VS
    exact (List.Sublist.filter _ (List.range_sublist.2 (by omega))).length_le
   rw [Y7,if_pos q2,List.length_append] at h1
   have:=List.length_pos_iff.2 q1
   simp at h1;omega
  split at h
  ·rename_i n hn;rw [hn] at this;simp at this
  ·exact h
 refine zX 4 (fun s=>s.2) (fun k (s:Int×Int)=>s.2=(k:Int)∧k≤4∧((VS a b k=[]∧s.1=-1)∨∃ n:Nat,VS a b k=[n]∧s.1=n)) (fun k s h=>h.1) (fun k s h=>h.2.1) ?_ ⟨rfl,by omega,.inl ⟨rfl,rfl⟩⟩
 rintro k ⟨f,_⟩ next ⟨rfl,hk,hf⟩ hn
 simp only at hf
 refine zo (fun hc=>?_) (fun hc=>?_)
 ·have hlt:k<4:=by
   have:(k:Int)<4:=of_decide_eq_true hc
   omega
  have k0:(0:Int)≤k:=by omega
  have k3:(k:Int)≤3:=by omega
  refine jQ (Zf (a:=a) k0 k3 (Zf (a:=b) k0 k3 (zjB (by have:=zf6.1 ha.2 k k0 k3;omega) (zo (fun e=>?_) (fun e=>?_)))))
  ·have hd:ue a k≠ue b k:=by simpa using e
   rcases hf with ⟨q1,rfl⟩ | ⟨n,q1,rfl⟩
   ·refine zo (fun e=>by simp at e) (fun _=>zy (by omega) (by omega) (hn hlt _ ⟨by simp,by omega,.inr ⟨k,?_,rfl⟩⟩))
    rw [Y7,if_pos hd,q1];rfl
   ·exact zo (fun _=>two hlt (by rw [q1];simp) hd) (fun e=>by simp at e)
  ·have hd:¬ ue a k≠ue b k:=by simpa using e
   refine zy (by omega) (by omega) (hn hlt _ ⟨by simp,by omega,?_⟩)
   rw [Y7,if_neg hd,List.append_nil];exact hf
 ·have hge:k=4:=by
   have:¬ (k:Int)<4:=of_decide_eq_false hc
   omega
  subst hge
  have ed:VS a b 4=zb2 a b:=rfl
  rw [ed] at hf
  rcases hf with ⟨q1,_⟩ | ⟨n,q1,rfl⟩
  ·exact absurd q1 hne
  rw [q1] at h
  obtain ⟨h4,hd⟩:=zex q1
  have k0:(0:Int)≤n:=by omega
  have k3:(n:Int)≤3:=by omega
  have tl:=zab n
  have sa:=Yv ha.1 k0 k3
  have sb:=Yv hb.1 k0 k3
  have spa:SpV (ue a n) (top n):=⟨zf6.1 ha.2 _ k0 k3,sa⟩
  have spb:SpV (ue b n) (top n):=⟨zf6.1 hb.2 _ k0 k3,sb⟩
  refine yN (l:=L4 a) (by simp [L4]) (zcq ha.1) (Zf (a:=a) k0 k3 (Zf (a:=b) k0 k3 (x5 k0 k3 (zdl (by omega) (by omega) spa spb (Zf (a:=a) k0 k3 ?_)))))
  have hset:∀ x,(L4 a).set ((n:Int)).toNat x=L4 (Uj a n x):=fun x=>V0 k0 k3
  have hget:∀ x,ue (Uj a n x) n=x:=fun x=>by rcases zeI k0 k3 with q | q | q | q <;> rw [q] <;> rfl
  simp only at h
  by_cases hl:(uni a b n).length≤40
  ·rw [if_pos hl] at h
   have hl':(Yb (ue a n) (ue b n)).length≤40:=hl
   rw [if_pos hl',hset]
   refine Zf (a:=Uj a n (Yb (ue a n) (ue b n))) k0 k3 ?_
   rw [hget]
   refine zo (fun e=>?_) (fun _=>h)
   have:=of_decide_eq_true e
   exact absurd (List.length_eq_zero_iff.1 (show (uni a b n).length=0 by unfold uni;omega)) (zne sa sb hd)
  ·rw [if_neg hl] at h
   have hl':¬ (Yb (ue a n) (ue b n)).length≤40:=hl
   rw [if_neg hl',hset]
   refine Zf (a:=Uj a n []) k0 k3 ?_
   rw [hget]
   exact jo h
def ppr:Option (Nat×zn)→Int×zS
 | some (k,z)=>(k,gf z)
 | none=>(-1,⟨⟨[]⟩,false⟩)
theorem zjU {l:List zn} (hv:IV l) (hl:l.length≤60) {κ:Int×zS→Prop} (h:κ (ppr (fp l))):UL (l.map gf) κ:=by
 unfold UL
 refine zX (l.length+1) (fun s=>s) (fun k s=>s=(k:Int)∧k≤l.length+1∧∀ j,j<k→pmA l j=none) (fun k s h=>h.1) (fun k s h=>h.2.1) ?_ ⟨rfl,by omega,fun j hj=>by omega⟩
 rintro k _ next ⟨rfl,hk,hno⟩ hn
 refine zy (by omega) (by omega) (zo (fun hc=>?_) (fun hc=>?_))
 ·have hlt:k+1<l.length:=by have:=of_decide_eq_true hc;simp only [List.length_map] at this;omega
  have hpm:=zeo hlt
  have w64e:w64 ((k:Int)+1)=((k+1:Nat):Int):=by rw [zj8 (by omega) (by omega)];omega
  have stepNo:pmA l k=none→jx (k:Int) 1 (fun t110=>next t110):=fun q=>zy (by omega) (by omega) (hn (by omega) _ ⟨by simp,by omega,fun j hj=>by
   by_cases e:j=k
   ·subst e;exact q
   ·exact hno j (by omega)⟩)
  have ix:∀ (m:Nat) (hm:m<l.length) (K:zS→Prop),K (gf l[m])→zJ (l.map gf) (m:Int) K:=fun m hm K hK=>zq m rfl (by simpa using hm) (by rw [List.getElem_map];exact hK)
  refine jQ (ix k (by omega) _ ?_)
  rw [w64e]
  refine ix (k+1) hlt _ (zdg (hv _ (List.getElem_mem (by omega))) (hv _ (List.getElem_mem hlt)) ?_)
  unfold pm at hpm
  cases em:mg l[k].xWhere l[k+1].xWhere with
  | none =>
   rw [em] at hpm
   refine jQ (jK (jK (stepNo ?_)))
   rw [hpm];split <;> rfl
  | some w =>
   rw [em] at hpm
   refine jQ (jo (ix k (by omega) _ (zy (by omega) (by omega) ?_)))
   have e1:(k:Int)+1=((k+1:Nat):Int):=by omega
   rw [e1]
   refine ix (k+1) hlt _ (zo (fun e=>?_) (fun e=>?_))
   ·have ea:l[k].xAccept=l[k+1].xAccept:=of_decide_eq_true e
    rw [if_pos ea] at hpm
    rw [zer hno hpm] at h
    exact ix k (by omega) _ h
   ·have ea:¬ l[k].xAccept=l[k+1].xAccept:=of_decide_eq_false e
    rw [if_neg ea] at hpm
    exact stepNo hpm
 ·have hge:l.length≤k+1:=by have:=of_decide_eq_false hc;simp only [List.length_map] at this;omega
  rw [zjk (fun j=>by
   by_cases e:j<k
   ·exact hno j e
   ·exact zkM (by omega))] at h
  exact h
theorem zjd {l:List zn} {k:Nat} {z:zn} (h:fp l=some (k,z)):pmA l k=some z∧∀ j,j<k→pmA l j=none:=by
 have:∀ n,fpN l n=some (k,z)→pmA l k=some z∧∀ j,j<k→pmA l j=none:=by
  intro n
  induction n with
  | zero=>intro q;cases q
  | succ n ih =>
   intro q
   unfold fpN at q
   cases e2:fpN l n with
   | some r=>rw [e2] at q;simp only [Option.some.injEq] at q;subst q;exact ih e2
   | none =>
    rw [e2] at q
    cases e3:pmA l n with
    | none=>rw [e3] at q;cases q
    | some z' =>
     rw [e3] at q
     simp only [Option.map_some,Option.some.injEq,Prod.mk.injEq] at q
     obtain ⟨rfl,rfl⟩:=q
     refine ⟨e3,fun j hj=>?_⟩
     have key:∀ m,fpN l m=none→∀ j,j<m→pmA l j=none:=by
      intro m
      induction m with
      | zero=>intro _ j hj;omega
      | succ m ih2 =>
       intro q j hj
       unfold fpN at q
       cases e4:fpN l m with
       | some r=>rw [e4] at q;cases q
       | none =>
        rw [e4] at q
        cases e5:pmA l m with
        | some z5=>rw [e5] at q;cases q
        | none =>
         by_cases e6:j=m
         ·subst e6;exact e5
         ·exact ih2 e4 j (by omega)
     exact key _ e2 j hj
 exact this _ h
theorem znN {l:List zn} (h:fp l=none):∀ j,pmA l j=none:=fun j=>by
 cases e:pmA l j with
 | none=>rfl
 | some z =>
  exfalso
  have:∀ n,n≤j→(∀ i,i<n→pmA l i=none)∨∃ i z,i<n∧pmA l i=some z∧∀ m,m<i→pmA l m=none:=by
   intro n
   induction n with
   | zero=>intro _;exact .inl (fun i hi=>by omega)
   | succ n ih =>
    intro hn
    rcases ih (by omega) with q | ⟨i,z,q1,q2,q3⟩
    ·cases e2:pmA l n with
     | none=>exact .inl (fun i hi=>by
       by_cases e3:i=n
       ·subst e3;exact e2
       ·exact q i (by omega))
     | some z2=>exact .inr ⟨n,z2,by omega,e2,q⟩
    ·exact .inr ⟨i,z,by omega,q2,q3⟩
  rcases this j (Nat.le_refl _) with q | ⟨i,z2,q1,q2,q3⟩
  ·rw [zer q e] at h;cases h
  ·rw [zer q3 q2] at h;cases h
theorem zhf {l:List zn} (hv:IV l) (hl:l.length≤60) {κ:List zS→Prop} (h:κ ((mgF l).map gf)):XW (l.map gf) κ:=by
 have hF:=zb6 hv hl
 unfold XW
 refine yj hF.fb (yI hF.fb ?_)
 rw [decide_eq_true hF]
 refine jK (jk (by simp;omega) ?_)
 refine yi (fun (s:List zS)=>∃ xs:List zn,s=xs.map gf∧xs.length≤60∧IV xs∧mgF xs=mgF l) (fun s=>s.length) ?_ ⟨l,by simp,hl,hv,rfl⟩
 rintro _ next ⟨xs,rfl,hxl,hxv,he⟩ hn
 refine zjU hxv hxl ?_
 cases hfp:fp xs with
 | none =>
  rw [← he,zh6 (znN hfp)] at h
  exact jo h
 | some kz =>
  obtain ⟨k,z⟩:=kz
  obtain ⟨p1,p2⟩:=zjd hfp
  have hk:=zcj p1
  have hml:=zbM (z:=z) hk
  refine zo (fun e=>by have:(k:Int)<0:=of_decide_eq_true e;omega) (fun _=>zy (by omega) (by omega) ⟨by omega,by simp only [List.length_map];omega,by omega,?_⟩)
  have e1:((xs.map gf).take ((xs.map gf).length:Int).toNat).drop ((k:Int)+2).toNat=(xs.drop (k+2)).map gf:=by
   rw [Int.toNat_natCast,List.take_length,show ((k:Int)+2).toNat=k+2 by omega,List.map_drop]
  have e2:((xs.map gf).take ((k:Int)).toNat).drop (0:Int).toNat=(xs.take k).map gf:=by
   rw [Int.toNat_natCast];simp [List.map_take]
  rw [e1]
  refine jk (by simp;omega) (jQ ⟨by omega,by omega,by simp only [List.length_map];omega,?_⟩)
  show jU [] (((xs.map gf).take ((k:Int)).toNat).drop (0:Int).toNat) _
  rw [e2]
  refine jk (by simp;omega) (jk (by simp;omega) (jk (by simp;omega) (hn _ ⟨Vo xs k z,?_,by omega,zdc hxv p1,?_⟩ ?_)))
  ·unfold Vo
   simp only [List.nil_append,List.map_append,List.map_cons,List.map_nil]
  ·rw [← zie p2 p1];exact he
  ·simp;omega
theorem ziI {l:List zn} {rest:Bool} (hv:IV l) (hl:l.length≤60) {κ:List zS→Prop} (h:κ ((trF l rest).map gf)):YY (l.map gf) rest κ:=by
 have hF:=zb6 hv hl
 unfold YY
 refine yj hF.fb (yI hF.fb ?_)
 rw [decide_eq_true hF]
 refine jK ?_
 refine yi (fun (s:Int)=>∃ n:Nat,s=(n:Int)∧n≤l.length∧trN l rest l.length=trN l rest n) (fun s=>s.toNat) ?_ ⟨l.length,by simp,Nat.le_refl _,rfl⟩
 rintro _ next ⟨n,rfl,hn',he⟩ hnx
 have fin:trN l rest n=n→yZ (l.map gf) 0 (n:Int) (fun xs84=>jU ([]) xs84 (fun _=>κ (([])++xs84))):=fun q=>by
  refine ⟨by omega,by omega,by simp;omega,?_⟩
  unfold trF at h
  rw [he,q] at h
  have e:((l.map gf).take (n:Int).toNat).drop (0:Int).toNat=(l.take n).map gf:=by simp [List.map_take]
  rw [e]
  exact jk (by simp;omega) h
 refine jQ (zo (fun e=>?_) (fun e=>jK (fin ?_)))
 ·have hpos:0<n:=by have:=of_decide_eq_true e;omega
  obtain ⟨m,rfl⟩:∃ m,n=m+1:=⟨n - 1,by omega⟩
  have hlt:m<l.length:=by omega
  have em:((m+1:Nat):Int) - 1=(m:Int):=by omega
  refine yU (by omega) (by omega) ?_
  rw [em]
  refine zq m rfl (by simpa using hlt) ?_
  rw [List.getElem_map]
  refine zo (fun e2=>?_) (fun e2=>fin ?_)
  ·have e2':l[m].xAccept=rest:=of_decide_eq_true e2
   refine yU (by omega) (by omega) (hnx _ ⟨m,by omega,by omega,?_⟩ (by omega))
   rw [he]
   conv=>lhs;unfold trN
   rw [List.getElem?_eq_getElem hlt]
   simp [e2']
  ·have e2':¬ l[m].xAccept=rest:=of_decide_eq_false e2
   unfold trN
   rw [List.getElem?_eq_getElem hlt]
   simp [e2']
 ·have:n=0:=by have:=of_decide_eq_false e;omega
  subst this;rfl
theorem zjN {l:List zn} {rest:Bool} (hv:IV l) (hl:l.length≤60) {κ:List zS→Prop} (h:κ ((shF l rest).map gf)):UK (l.map gf) rest κ:=by
 have hF:=zb6 hv hl
 unfold UK
 refine yj hF.fb (yI hF.fb ?_)
 rw [decide_eq_true hF]
 refine jK (jk (by simp;omega) ?_)
 refine yi (fun (s:List zS)=>∃ xs:List zn,s=xs.map gf∧xs.length≤60∧IV xs∧shF xs rest=shF l rest) (fun s=>s.length) ?_ ⟨l,by simp,hl,hv,rfl⟩
 rintro _ next ⟨xs,rfl,hx,hxv,he⟩ hn
 have w1:=zgG xs
 have w2:=zhb (zbk hxv)
 have w3:=Vr (rest:=rest) hxv
 refine zit hxv hx (zhf (zbk hxv) (by omega) (ziI (zk2 (zbk hxv)) (by omega) ?_))
 have hf:=ziJ (rest:=rest) hxv
 refine zo (fun e=>?_) (fun e=>?_)
 ·have e':(sh1 xs rest).length=xs.length:=by
   have:=of_decide_eq_true e
   simp only [List.length_map] at this
   have:((sh1 xs rest).length:Int)=(xs.length:Int):=this
   omega
  rw [if_pos e'] at hf
  rw [← he,hf] at h;exact h
 ·have e':¬ (sh1 xs rest).length=xs.length:=by
   have:=of_decide_eq_false e
   simp only [List.length_map] at this
   have:¬ ((sh1 xs rest).length:Int)=(xs.length:Int):=this
   omega
  rw [if_neg e'] at hf
  exact hn ((sh1 xs rest).map gf) ⟨sh1 xs rest,rfl,by omega,zbl hxv,by rw [← hf];exact he⟩ (by simp only [List.length_map];omega)
theorem zfN {s:zN} (hb:Bd s) {κ:List zS×Bool→Prop} (h1:SV s→∀ l,cf s=some l→κ (l.map gf,true)) (h2:(SV s→cf s=none)→κ ([],false)):Z6 s κ:=by
 unfold Z6
 refine zbi hb (zfV hb (fun hv l hl=>jK ?_) (fun q=>jo (h2 (fun hv=>by unfold cf;rw [q hv];rfl))))
 obtain ⟨u1,u2⟩:=zjq hv hl
 exact zjN u1 u2 (h1 hv _ (by unfold cf;rw [hl];rfl))
end
section
def Sx1 (l:List zh):Prop:=l.length≤1048576
def Sx2 (l:List (List zh)):Prop:=l.length≤1048576∧∀ x,x∈l→Sx1 x
def Sx3 (f:zS):Prop:=Sx2 f.xWhere.xSides
def Sx4 (l:List zS):Prop:=l.length≤1048576∧∀ f,f∈l→Sx3 f
theorem Sx4.fb {l:List zS} (h:Sx4 l):Fb l:=⟨by have:=h.1;omega,fun f hf=>⟨by have:=(h.2 f hf).1;omega,fun x hx=>by have:x.length≤1048576:=(h.2 f hf).2 x hx;omega⟩⟩
theorem BV.sx {b:z8} (h:BV b):Sx2 b.xSides:=by
 obtain ⟨a,rfl,_,f0,f1,f2,f3⟩:=h
 refine ⟨by simp [bx],fun x hx=>?_⟩
 simp only [bx,List.mem_cons,List.not_mem_nil,or_false] at hx
 unfold Sx1
 rcases hx with rfl | rfl | rfl | rfl <;> omega
theorem FV.sx {l:List zS} (h:FV l):Sx4 l:=⟨by have:=h.1;omega,fun f hf=>(h.2 f hf).sx⟩
end
section
open Go Go.Proofs
def jf (l:List zn) (rest:Bool) (p:zW):Bool:=match l[fw l p]? with | some f=>f.xAccept | none=>rest
theorem zlF {l:List z8} {seed:Int} (h0:0≤seed) (h1:seed≤1048576) (hl:l.length≤1000) (hv':∀ b∈l,BV b) {κ:zW→Prop} (h:∀ p,κ p):Vs l seed κ:=by
 unfold Vs
 refine UE h0 (by omega) (by omega) (fun a _ _=>zgX h0 (by omega) (by omega) (fun b b0 b1=>UE b0 (by omega) (by omega) (fun c _ _=>UE h0 (by omega) (by omega) (fun d _ _=>UE h0 (by omega) (by omega) (fun e _ _=>?_)))))
 refine zX l.length (fun s=>s.2) (fun k (s:List Int×Int)=>s.2=(k:Int)∧k≤l.length∧s.1.length=4) (fun k s h=>h.1) (fun k s h=>h.2.1) ?_ ⟨rfl,by omega,rfl⟩
 rintro k ⟨vs,_⟩ next ⟨rfl,hk,hvs⟩ hn
 simp only at hvs
 refine zo (fun hc=>?_) (fun hc=>?_)
 ·have hlt:k<l.length:=by simpa using hc
  obtain ⟨bb,hbb,hB,hF⟩:=hv' _ (List.getElem_mem hlt)
  refine zX 4 (fun s=>s.2) (fun j (s:List Int×Int)=>s.2=(j:Int)∧j≤4∧s.1.length=4) (fun k s h=>h.1) (fun k s h=>h.2.1) ?_ ⟨rfl,by omega,hvs⟩
  rintro j ⟨ws,_⟩ next2 ⟨rfl,hj,hws⟩ hn2
  simp only at hws
  have fin:ifW (decide (j=4)) (jx (k:Int) 1 (fun t245=>next (ws,t245))) True:=by
   refine zo (fun _=>zy (by omega) (by omega) (hn hlt _ ⟨by simp,by omega,hws⟩)) (fun _=>trivial)
  refine jQ (zo (fun e=>zq k rfl hlt ?_) (fun e=>?_))
  ·have hj4:j<4:=by
    have:(j:Int)<4:=by simpa using e
    omega
   rw [hbb]
   refine zo (fun _=>?_) (fun e2=>by simp [bx] at e2;omega)
   refine jQ (zq k rfl hlt ?_)
   rw [hbb]
   have step:∀ ys:List Int,ys.length=4→jx (j:Int) 1 (fun t244=>next2 (ys,t244)):=fun ys hy=>zy (by omega) (by omega) (hn2 hj4 _ ⟨by simp,by omega,hy⟩)
   refine Zf (a:=bb) (by omega) (by omega) ?_
   have hfl:(ue bb j).length≤40:=zf6.1 hF _ (by omega) (by omega)
   generalize ue bb j=sj at hfl
   have go:sj≠[]→jx seed (j:Int) (fun t167=>zbX t167 (sj.length:Int) (fun t168=>zJ sj t168 (fun e169=>zJ ws (j:Int) (fun e173=>jx seed (k:Int) (fun t176=>zbX t176 2 (fun t177=>ifW (decide (t177=0)) (zJ (ws.set ((j:Int)).toNat e169.xLo) (j:Int) (fun e178=>jx (j:Int) 1 (fun t244=>next2 (((ws.set ((j:Int)).toNat e169.xLo).set ((j:Int)).toNat e169.xHi),t244)))) (jx (j:Int) 1 (fun t244=>next2 ((ws.set ((j:Int)).toNat e169.xLo),t244))))))))):=fun hne=>by
    have hpos:=List.length_pos_iff.2 hne
    refine zy (by omega) (by omega) (UE (by omega) (by omega) (by omega) (fun z z0 z1=>Zq z0 z1 (fun x hx=>zq j rfl (by omega) (zy (by omega) (by omega) (UE (by omega) (by omega) (by omega) (fun y y0 y1=>zo (fun _=>?_) (fun _=>step _ (by simp [hws]))))))))
    exact zkB (by omega) (step _ (by simp [hws]))
   refine jQ (zo (fun e3=>jo (step ws hws)) (fun e3=>?_))
   have hne:sj≠[]:=fun q=>by rw [q] at e3;simp at e3
   refine zy (by omega) (by omega) (zy (by omega) (by omega) (UE (by omega) (by omega) (by omega) (fun z z0 z1=>zo (fun _=>step ws hws) (fun _=>go hne))))
  ·have hj4:j=4:=by
    have:(4:Int)≤j:=by simpa using e
    omega
   exact jK (fin.1 (by simp [hj4]))
 ·exact zq 0 rfl (by omega) (zq 1 rfl (by omega) (zq 2 rfl (by omega) (zq 3 rfl (by omega) (h _))))
end
section
open Go Go.Proofs
def dcd:List zn→zW→Option Bool
 | [],_=>none
 | f :: l,p=>if hb4 f.xWhere p then some f.xAccept else dcd l p
theorem U0 (l m:List zn) (p:zW):dcd (l++m) p=(dcd l p).or (dcd m p):=by
 induction l with
 | nil=>simp [dcd]
 | cons f l ih =>
  simp only [List.cons_append,dcd]
  split
  ·simp
  ·exact ih
theorem zfm {l:List zn} {p:zW}:dcd l p=none↔¬ hbs (whs l) p:=by
 induction l with
 | nil=>simp [dcd,whs,hbs]
 | cons f l ih =>
  have e:hbs (whs (f :: l)) p↔hb4 f.xWhere p∨hbs (whs l) p:=by
   have:=Xq [f.xWhere] (whs l) p
   rw [zaN] at this
   exact this
  rw [e]
  unfold dcd
  split
  ·rename_i h;simp [h]
  ·rename_i h;rw [ih];simp [h]
theorem zg8 (f:zn) (p:zW):dcd [f] p=if hb4 f.xWhere p then some f.xAccept else none:=rfl
theorem zha (l:List zn) (rest:Bool) (p:zW):jf l rest p=(dcd l p).getD rest:=by
 induction l with
 | nil=>simp [jf,dcd]
 | cons f l ih =>
  unfold dcd
  by_cases h:hb4 f.xWhere p
  ·have e0:fw (f :: l) p=0:=by
    unfold fw;rw [List.findIdx_cons];simp [h]
   unfold jf
   rw [e0,if_pos h];rfl
  ·have e0:fw (f :: l) p=fw l p+1:=by
    unfold fw;rw [List.findIdx_cons];simp [h]
   unfold jf at ih ⊢
   rw [e0,if_neg h,List.getElem?_cons_succ];exact ih
theorem zl3 (l:List za) (a:Bool) (p:zW):dcd (dec l a) p=if hbs l p then some a else none:=by
 induction l with
 | nil=>simp [dec,dcd,hbs]
 | cons b l ih =>
  have e:hbs (b :: l) p↔hb4 b p∨hbs l p:=by
   have:=Xq [b] l p
   rw [zaN] at this
   exact this
  show (if hb4 b p then some a else dcd (dec l a) p)=_
  rw [ih]
  by_cases h:hb4 b p
  ·rw [if_pos h,if_pos (e.2 (.inl h))]
  ·rw [if_neg h]
   by_cases h2:hbs l p
   ·rw [if_pos h2,if_pos (e.2 (.inr h2))]
   ·rw [if_neg h2,if_neg (fun q=>(e.1 q).elim h h2)]
theorem znr {t:jY} (ht:TV t) {x:Int} (h0:0≤x) (h1:x≤top t.xField):hv (tsp t) x↔(decide (t.xLo≤x∧x≤t.xHi) != t.xNot)=true:=by
 obtain ⟨_,_,h3,h4,h5⟩:=ht
 have hone:hv [(⟨t.xLo,t.xHi⟩:zh)] x↔t.xLo≤x∧x≤t.xHi:=by simp [hv]
 unfold tsp
 cases hn:t.xNot with
 | true =>
  rw [if_pos rfl,zdM (zgx h3 h4 h5),hone]
  by_cases q:t.xLo≤x∧x≤t.xHi
  ·simp [q]
  ·simp [q,h0,h1]
 | false =>
  rw [if_neg (by simp),hone]
  by_cases q:t.xLo≤x∧x≤t.xHi
  ·simp [q]
  ·simp [q]
theorem zkh {p:zW} (hp:pv p) {n:Nat} (hn:n<4):0≤Yk p n∧Yk p n≤top n:=by
 obtain ⟨h0,h1,h2,h3⟩:=hp
 rcases YQ hn with rfl | rfl | rfl | rfl
 ·exact h0
 ·exact h1
 ·exact h2
 ·exact h3
theorem VI (a:za) (n:Nat) (hn:n<4) (x:List zh) (m:Nat) (hm:m<4):ue (Uj a n x) m=if m=n then x else ue a m:=by
 rcases YQ hn with rfl | rfl | rfl | rfl <;> rcases YQ hm with rfl | rfl | rfl | rfl <;> rfl
theorem zl0 {a:za} {t:jY} {p:zW} (ht:TV t) (hp:pv p):hb4 (zhS a t) p↔hb4 a p∧th t p=true:=by
 obtain ⟨n,hn⟩:=Int.eq_ofNat_of_zero_le ht.1
 have hn4:n<4:=by have:=ht.2.1;omega
 have hf:=zkh hp hn4
 have key:=znr ht (x:=Yk p n) hf.1 (by rw [hn];exact hf.2)
 unfold zhS
 rw [hn,zcH,zcH]
 have eth:th t p=(decide (t.xLo≤Yk p n∧Yk p n≤t.xHi) != t.xNot):=by unfold th;rw [hn];rfl
 rw [eth,← key]
 constructor
 ·intro h
  have hn2:=h n hn4
  rw [VI _ _ hn4 _ _ hn4,if_pos rfl,Ye] at hn2
  refine ⟨fun m hm=>?_,hn2.2⟩
  by_cases e:m=n
  ·subst e;exact hn2.1
  ·have:=h m hm
   rw [VI _ _ hn4 _ _ hm,if_neg e] at this
   exact this
 ·rintro ⟨h,h2⟩ m hm
  rw [VI _ _ hn4 _ _ hm]
  by_cases e:m=n
  ·subst e;rw [if_pos rfl,Ye];exact ⟨h _ hm,h2⟩
  ·rw [if_neg e];exact h m hm
theorem zjn {p:zW} (hp:pv p):∀ {ts:List jY} {a:za},(∀ t∈ts,TV t)→(hb4 (ts.foldl zhS a) p↔hb4 a p∧ft ts p=true)
 | [],a,_=>by simp [ft]
 | t :: ts,a,h=>by
  rw [List.foldl_cons,zjn hp (fun u hu=>h u (by simp [hu])),zl0 (h t (by simp)) hp]
  simp only [ft,List.all_cons,Bool.and_eq_true,and_assoc]
theorem zgC {p:zW} (hp:pv p):hb4 VN p:=by
 obtain ⟨h0,h1,h2,h3⟩:=hp
 exact ⟨⟨_,List.mem_singleton.2 rfl,h0⟩,⟨_,List.mem_singleton.2 rfl,h1⟩,⟨_,List.mem_singleton.2 rfl,h2⟩,⟨_,List.mem_singleton.2 rfl,h3⟩⟩
theorem zlQ {p:zW} (hp:pv p) {ts:List jY} (h:∀ t∈ts,TV t):hb4 (ZL ts) p↔ft ts p=true:=by
 unfold ZL
 rw [zjn hp h]
 exact ⟨fun q=>q.2,fun q=>⟨zgC hp,q⟩⟩
def Wyp (inn lf:Prop) (j:Int) (d:Option Bool) (ot:Prop):Prop :=
 (lf→d=none∧ot)∧(¬ lf→¬ inn→d=none∧¬ ot)∧(¬ lf→inn→(j=1→d=some true∧¬ ot)∧(j=2→d=some false∧¬ ot)∧(j=5→d=none∧ot))
theorem zcR {p:zW} (hp:pv p) {call:Nat→List za→List zn→UR} {jcall:Nat→Int} (hj:∀ i,jcall i=1∨jcall i=2∨jcall i=5)
  (hcall:∀ i b o b' o',aB b→call i b o=some (b',o')→aB b'∧∃ n,o'=o++n∧Wyp (hbs b p) False (jcall i) (dcd n p) (hbs b' p)) :
  ∀ {l:List zD} {going left:List za} {out:List zn} {r:List za} {o:List zn},(∀ r∈l,∀ t∈r.xTests,TV t)→aB going→aB left→¬ (hbs left p∧hbs going p)→url call l going left out=some (r,o)→aB r∧∃ n,o=out++n∧Wyp (hbs going p) (hbs left p) (jl p jcall l) (dcd n p) (hbs r p)
 | [],going,left,out,r,o,_,hg,hl,hne,h=>by
  unfold url at h
  split at h
  ·injection h with h;injection h with h1 h2;subst h1 h2
   refine ⟨Uc.2 ⟨hl,hg⟩,[],by simp,?_⟩
   rw [Xq]
   unfold Wyp jl dcd
   refine ⟨fun q=>⟨rfl,.inl q⟩,fun q1 q2=>⟨rfl,fun q=>q.elim q1 q2⟩,fun q1 q2=>⟨fun e=>by omega,fun e=>by omega,fun _=>⟨rfl,.inr q2⟩⟩⟩
  ·cases h
 | x :: rs,going,left,out,r,o,ht,hg,hl,hne,h=>by
  have hw:=zbP (ht x (by simp))
  have hwp:=zlQ hp (ht x (by simp))
  have htr:∀ r∈rs,∀ t∈r.xTests,TV t:=fun y hy=>ht y (by simp [hy])
  have hfB:=zgQ hg hw
  have hmB:=Vq hg hw
  have hfp:=zl4 (bs:=going) (w:=ZL x.xTests) p
  have hmp:=zic hg hw p
  unfold url at h
  unfold jl
  generalize ZL x.xTests=w at *
  generalize XO going w=fit at *
  generalize ua going w=miss at *
  split at h
  ·split at h
   ·rename_i q ha
    split at h
    ·obtain ⟨g1,n,rfl,g2⟩:=zcR hp hj hcall htr hmB hl (fun q=>hne ⟨q.1,(hmp.1 q.2).1⟩) h
     refine ⟨g1,dec fit (decide (x.xAction=1))++n,by simp,?_⟩
     rw [U0,zl3]
     unfold Wyp at g2 ⊢
     obtain ⟨a1,a2,a3⟩:=g2
     rw [hmp] at a2 a3
     by_cases c1:hbs left p
     ·have c2:¬ hbs going p:=fun q=>hne ⟨c1,q⟩
      rw [if_neg (fun q=>c2 (hfp.1 q).1)]
      refine ⟨fun _=>a1 c1,fun q=>absurd c1 q,fun q=>absurd c1 q⟩
     ·refine ⟨fun q=>absurd q c1,fun _ c2=>?_,fun _ c2=>?_⟩
      ·rw [if_neg (fun q=>c2 (hfp.1 q).1)]
       exact a2 c1 (fun q=>c2 q.1)
      ·by_cases c3:hb4 w p
       ·rw [if_pos (hfp.2 ⟨c2,c3⟩),if_pos (hwp.1 c3)]
        have a2':=a2 c1 (fun q=>q.2 c3)
        refine ⟨fun e=>⟨?_,a2'.2⟩,fun e=>⟨?_,a2'.2⟩,fun e=>?_⟩
        ·split at e
         ·rename_i e1;simp [e1]
         ·split at e
          ·omega
          ·rename_i e1 e2;exact absurd ha (by omega)
        ·split at e
         ·omega
         ·rename_i e1;simp [e1]
        ·split at e
         ·omega
         ·split at e
          ·omega
          ·rename_i e1 e2;exact absurd ha (by omega)
       ·rw [if_neg (fun q=>c3 (hfp.1 q).2),if_neg (fun q=>c3 (hwp.2 q))]
        exact a3 c1 ⟨c2,c3⟩
    ·cases h
   ·rename_i q ha
    rw [if_neg (show ¬ x.xAction=1 from fun e=>ha (.inl e)),if_neg (show ¬ x.xAction=2 from fun e=>ha (.inr e))]
    split at h
    ·rename_i h4
     rw [if_pos h4]
     have hne2:¬ (hbs (left++fit) p∧hbs miss p):=fun q=>by
      have m:=hmp.1 q.2
      rcases (Xq left fit p).1 q.1 with q1 | q1
      ·exact hne ⟨q1,m.1⟩
      ·exact m.2 (hfp.1 q1).2
     obtain ⟨g1,n,rfl,g2⟩:=zcR hp hj hcall htr hmB (Uc.2 ⟨hl,hfB⟩) hne2 h
     refine ⟨g1,n,rfl,?_⟩
     unfold Wyp at g2 ⊢
     obtain ⟨a1,a2,a3⟩:=g2
     rw [Xq,hfp] at a1 a2 a3
     rw [hmp] at a2 a3
     refine ⟨fun c1=>a1 (.inl c1),fun c1 c2=>a2 (fun q=>q.elim c1 (fun q=>c2 q.1)) (fun q=>c2 q.1),fun c1 c2=>?_⟩
     by_cases c3:hb4 w p
     ·rw [if_pos (hwp.1 c3)]
      exact ⟨fun e=>by omega,fun e=>by omega,fun _=>a1 (.inr ⟨c2,c3⟩)⟩
     ·rw [if_neg (fun q=>c3 (hwp.2 q))]
      exact a3 (fun q=>q.elim c1 (fun q=>c3 q.2)) ⟨c2,c3⟩
    ·rename_i h4
     rw [if_neg h4]
     split at h
     ·rename_i h3
      rw [if_pos h3]
      split at h
      ·cases h
      ·rename_i b o' hb
       obtain ⟨k1,n1,rfl,k2⟩:=hcall _ _ _ _ _ hfB hb
       split at h
       ·have hbm:hbs b p→hbs fit p:=fun q=>by
         by_cases c:hbs fit p
         ·exact c
         ·exact absurd q (k2.2.1 (fun f=>f) c).2
        have hne2:¬ (hbs left p∧hbs (miss++b) p):=fun q=>by
         rcases (Xq miss b p).1 q.2 with q1 | q1
         ·exact hne ⟨q.1,(hmp.1 q1).1⟩
         ·exact hne ⟨q.1,(hfp.1 (hbm q1)).1⟩
        obtain ⟨g1,n,rfl,g2⟩:=zcR hp hj hcall htr (Uc.2 ⟨hmB,k1⟩) hl hne2 h
        refine ⟨g1,n1++n,by simp,?_⟩
        rw [U0]
        unfold Wyp at g2 k2 ⊢
        obtain ⟨a1,a2,a3⟩:=g2
        obtain ⟨_,b2,b3⟩:=k2
        have b2:=b2 (fun f=>f)
        have b3:=b3 (fun f=>f)
        rw [Xq,hmp] at a2 a3
        rw [hfp] at b2 b3 hbm
        refine ⟨fun c1=>?_,fun c1 c2=>?_,fun c1 c2=>?_⟩
        ·rw [(b2 (fun q=>hne ⟨c1,q.1⟩)).1];exact a1 c1
        ·rw [(b2 (fun q=>c2 q.1)).1]
         exact a2 c1 (fun q=>q.elim (fun q=>c2 q.1) (fun q=>c2 (hbm q).1))
        ·by_cases c3:hb4 w p
         ·rw [if_pos (hwp.1 c3)]
          obtain ⟨d1,d2,d5⟩:=b3 ⟨c2,c3⟩
          rcases hj x.xChain.toNat with e | e | e
          ·have d:=d1 e
           rw [if_neg (by omega),e,d.1]
           have a:=a2 c1 (fun q=>q.elim (fun q=>q.2 c3) d.2)
           exact ⟨fun _=>⟨rfl,a.2⟩,fun e=>by omega,fun e=>by omega⟩
          ·have d:=d2 e
           rw [if_neg (by omega),e,d.1]
           have a:=a2 c1 (fun q=>q.elim (fun q=>q.2 c3) d.2)
           exact ⟨fun e=>by omega,fun _=>⟨rfl,a.2⟩,fun e=>by omega⟩
          ·have d:=d5 e
           rw [if_pos e,d.1]
           exact a3 c1 (.inr d.2)
         ·rw [if_neg (fun q=>c3 (hwp.2 q)),(b2 (fun q=>c3 q.2)).1]
          exact a3 c1 (.inl ⟨c2,c3⟩)
       ·cases h
     ·rename_i h3
      rw [if_neg h3]
      split at h
      ·have hne2:¬ (hbs left p∧hbs (miss++fit) p):=fun q=>by
        rcases (Xq miss fit p).1 q.2 with q1 | q1
        ·exact hne ⟨q.1,(hmp.1 q1).1⟩
        ·exact hne ⟨q.1,(hfp.1 q1).1⟩
       obtain ⟨g1,n,rfl,g2⟩:=zcR hp hj hcall htr (Uc.2 ⟨hmB,hfB⟩) hl hne2 h
       refine ⟨g1,n,rfl,?_⟩
       have e:hbs (miss++fit) p↔hbs going p:=by
        rw [Xq,hmp,hfp]
        by_cases c3:hb4 w p <;> simp [c3]
       rw [e] at g2
       have:(if ft x.xTests p=true then jl p jcall rs else jl p jcall rs)=jl p jcall rs:=by split <;> rfl
       rw [this]
       exact g2
      ·cases h
  ·cases h
theorem zkR {cs:List (List zD)} (ht:TVs cs) {p:zW} (hp:pv p):∀ n i b o b' o',aB b→uc cs n i b o=some (b',o')→aB b'∧∃ m,o'=o++m∧Wyp (hbs b p) False (jc cs p n i) (dcd m p) (hbs b' p)
 | 0,i,b,o,b',o',_,h=>by cases h
 | n+1,i,b,o,b',o',hb,h=>by
  obtain ⟨g1,m,g2,g3⟩:=zcR hp (zhg n) (zkR ht hp n) (ht.chn i) hb zeX (fun q=>X2 p q.1) h
  refine ⟨g1,m,g2,?_⟩
  have e:hbs [] p↔False:=⟨X2 p,False.elim⟩
  rw [e] at g3
  exact g3
theorem znF {s:zN} (hs:SV s) {l:List zn} (h:uf s=some l) {p:zW} (hp:pv p):jdg s p=jf l s.xAccept p:=by
 unfold uf at h
 cases hU:U s.xChains 0 [VN] [] with
 | none=>rw [hU] at h;cases h
 | some bo =>
  obtain ⟨b,o⟩:=bo
  rw [hU] at h
  simp only [Option.map_some,Option.some.injEq] at h
  subst h
  obtain ⟨_,n,hn,_,_,g3⟩:=zkR hs.tvs hp _ _ _ _ _ _ zeu hU
  simp only [List.nil_append] at hn
  subst hn
  obtain ⟨d1,d2,d5⟩:=g3 (fun f=>f) ((zaN _ _).2 (zgC hp))
  rw [zha]
  unfold jdg
  show (if J s.xChains p 0=1 then true else if J s.xChains p 0=2 then false else s.xAccept)=_
  have e:jc s.xChains p (jN s.xChains+1) 0=J s.xChains p 0:=rfl
  rw [e] at d1 d2 d5
  rcases zmZ s.xChains p 0 with e | e | e
  ·rw [(d1 e).1,if_pos e];rfl
  ·rw [(d2 e).1,if_neg (by omega),if_pos e];rfl
  ·rw [(d5 e).1,if_neg (by omega),if_neg (by omega)];rfl
theorem ziL {l:List zn} (hv:IV l) (p:zW):∀ k,k≤l.length→dcd (wdN l k) p=dcd (l.take k) p
 | 0,_=>rfl
 | k+1,hk=>by
  have hlt:k<l.length:=by omega
  have ih:=ziL hv p k (by omega)
  rw [List.take_succ_eq_append_getElem hlt,U0]
  by_cases hd:dd l k=true
  ·rw [zhi hlt hd,ih]
   have hdo:=zlh hlt
   rw [hd] at hdo
   have hlv:zhB l k hlt=some []:=by simpa using hdo.symm
   unfold zhB at hlv
   have hk2:=hv _ (List.getElem_mem hlt)
   have:=zfs hk2.1 (hv.take k).aB hlv p
   cases e:dcd (l.take k) p with
   | some b=>rfl
   | none =>
    rw [zfm] at e
    have:¬ hb4 l[k].xWhere p:=fun q=>X2 p (this.2 ⟨q,e⟩)
    rw [zg8,if_neg this];rfl
  ·rw [ziB hlt (by simpa using hd),U0,ih]
theorem zlP {l:List zn} (hv:IV l) (p:zW):dcd (wdF l) p=dcd l p:=by
 unfold wdF
 rw [ziL hv p _ (Nat.le_refl _),List.take_length]
theorem zll {a b:za} (ha:B4 a) (hb:B4 b) (h:in4 a b=true) {p:zW} (hp:hb4 a p):hb4 b p:=by
 have hc:=(zgT ha hb).2 h
 have:=zgJ ha hb p
 rw [hc] at this
 by_cases q:hb4 b p
 ·exact q
 ·exact absurd (this.2 ⟨hp,q⟩) (X2 p)
theorem zjc {a b:za} {n:Nat} (h:zb2 a b=[n]) {m:Nat} (hm:m<4) (hne:m≠n):ue a m=ue b m:=by
 by_cases q:ue a m=ue b m
 ·exact q
 ·have:m∈zb2 a b:=List.mem_filter.2 ⟨by simpa using hm,by simpa using q⟩
  rw [h,List.mem_singleton] at this
  exact absurd this hne
theorem zoc {a b x:za} (ha:B4 a) (hb:B4 b) (h:mg a b=some x) (p:zW):hb4 x p↔hb4 a p∨hb4 b p:=by
 unfold mg at h
 split at h
 ·rename_i e
  injection h with h;subst h
  exact ⟨.inr,fun q=>q.elim (zll ha hb e) id⟩
 ·split at h
  ·rename_i e
   injection h with h;subst h
   exact ⟨.inl,fun q=>q.elim id (zll hb ha e)⟩
  ·split at h
   ·rename_i n hn
    obtain ⟨h4,_⟩:=zex hn
    split at h
    ·injection h with h;subst h
     have hu:=zbO (Yv ha (show (0:Int)≤n by omega) (show (n:Int)≤3 by omega)) (Yv hb (show (0:Int)≤n by omega) (show (n:Int)≤3 by omega)) (Yk p n)
     rw [zcH,zcH,zcH]
     constructor
     ·intro q
      have qn:=q n h4
      rw [VI _ _ h4 _ _ h4,if_pos rfl] at qn
      unfold uni at qn
      rw [hu] at qn
      refine qn.imp (fun qa m hm=>?_) (fun qb m hm=>?_)
      ·by_cases e:m=n
       ·subst e;exact qa
       ·have:=q m hm
        rw [VI _ _ h4 _ _ hm,if_neg e] at this
        exact this
      ·by_cases e:m=n
       ·subst e;exact qb
       ·have:=q m hm
        rw [VI _ _ h4 _ _ hm,if_neg e,zjc hn hm e] at this
        exact this
     ·intro q m hm
      rw [VI _ _ h4 _ _ hm]
      by_cases e:m=n
      ·subst e
       rw [if_pos rfl]
       unfold uni
       rw [hu]
       exact q.imp (fun q=>q _ hm) (fun q=>q _ hm)
      ·rw [if_neg e]
       exact q.elim (fun q=>q m hm) (fun q=>by rw [zjc hn hm e];exact q m hm)
    ·cases h
   ·cases h
theorem zm0 {x y z:zn} (hx:B4 x.xWhere) (hy:B4 y.xWhere) (h:pm x y=some z) (p:zW):dcd [z] p=dcd [x,y] p:=by
 unfold pm at h
 split at h
 ·rename_i ea
  cases e:mg x.xWhere y.xWhere with
  | none=>rw [e] at h;cases h
  | some w =>
   rw [e] at h
   simp only [Option.map_some,Option.some.injEq] at h
   subst h
   have:=zoc hx hy e p
   simp only [dcd]
   by_cases c1:hb4 x.xWhere p
   ·rw [if_pos c1,if_pos (this.2 (.inl c1))]
   ·rw [if_neg c1]
    by_cases c2:hb4 y.xWhere p
    ·rw [if_pos c2,if_pos (this.2 (.inr c2)),ea]
    ·rw [if_neg c2,if_neg (fun q=>(this.1 q).elim c1 c2)]
 ·cases h
theorem zjX {l:List zn} (hv:IV l) {k:Nat} {z:zn} (h:pmA l k=some z) (p:zW):dcd (Vo l k z) p=dcd l p:=by
 have hk:=zcj h
 rw [zeo hk] at h
 have e1:l=l.take k++([l[k],l[k+1]]++l.drop (k+2)):=by
  have:=List.take_append_drop k l
  rw [List.drop_eq_getElem_cons (show k<l.length by omega),List.drop_eq_getElem_cons hk] at this
  exact this.symm
 have:=zm0 (hv _ (List.getElem_mem (show k<l.length by omega))).1 (hv _ (List.getElem_mem hk)).1 h p
 conv=>rhs;rw [e1]
 unfold Vo
 rw [List.append_assoc,U0,U0,this,← U0,← U0]
theorem zl6 {l:List zn} {k:Nat} {z:zn} (h:fp l=some (k,z)):pmA l k=some z:=(zjd h).1
theorem ziT (p:zW):∀ (n:Nat) {l:List zn},IV l→dcd (mgN n l) p=dcd l p
 | 0,l,_=>rfl
 | n+1,l,h=>by
  unfold mgN
  cases e:fp l with
  | none=>rfl
  | some kz =>
   obtain ⟨k,z⟩:=kz
   have hkz:=zl6 e
   show dcd (mgN n (Vo l k z)) p=_
   rw [ziT p n (zdc h hkz),zjX h hkz]
theorem zlZ {l:List zn} (h:IV l) (p:zW):dcd (mgF l) p=dcd l p:=ziT p _ h
theorem zi8 {l:List zn} {rest:Bool} (p:zW):∀ n,n≤l.length→(dcd (l.take (trN l rest n)) p).getD rest=(dcd (l.take n) p).getD rest
 | 0,_=>rfl
 | n+1,hn=>by
  have hlt:n<l.length:=by omega
  have ih:=zi8 (l:=l) (rest:=rest) p n (by omega)
  unfold trN
  rw [List.getElem?_eq_getElem hlt]
  simp only
  split
  ·rename_i e
   have e':l[n].xAccept=rest:=of_decide_eq_true e
   rw [ih,List.take_succ_eq_append_getElem hlt,U0]
   cases hd:dcd (l.take n) p with
   | some b=>rfl
   | none =>
    rw [zg8]
    split
    ·rw [e'];rfl
    ·rfl
  ·rfl
theorem zme {l:List zn} {rest:Bool} (p:zW):(dcd (trF l rest) p).getD rest=(dcd l p).getD rest:=by
 unfold trF
 rw [zi8 p _ (Nat.le_refl _),List.take_length]
theorem zgZ {l:List zn} {rest:Bool} (h:IV l) (p:zW):(dcd (sh1 l rest) p).getD rest=(dcd l p).getD rest:=by
 unfold sh1
 rw [zme,zlZ (zbk h),zlP h]
theorem zjf {rest:Bool} (p:zW):∀ {n:Nat} {l:List zn},IV l→(dcd (shN rest n l) p).getD rest=(dcd l p).getD rest
 | 0,l,h=>zgZ h p
 | n+1,l,h=>by
  unfold shN
  split
  ·exact zgZ h p
  ·rw [zjf p (zbl h),zgZ h]
theorem zlJ {l:List zn} {rest:Bool} (h:IV l) (p:zW):jf (shF l rest) rest p=jf l rest p:=by
 rw [zha,zha]
 exact zjf p h
theorem zhl {s:zN} (hs:SV s) {l:List zn} (h:cf s=some l) {p:zW} (hp:pv p):jdg s p=jf l s.xAccept p:=by
 unfold cf at h
 cases e:uf s with
 | none=>rw [e] at h;cases h
 | some u =>
  rw [e] at h
  simp only [Option.map_some,Option.some.injEq] at h
  subst h
  rw [zlJ (zjq hs e).1,znF hs e hp]
end
section
open Go Go.Proofs
def itm (l:List zn) (rest:Bool) (k:Nat):zn:=match l[k]? with | some f=>f | none=>⟨VN,rest⟩
def lvN (l:List zn) (rest:Bool):Nat→Option (List zn)
 | 0=>some []
 | k+1=>match lvN l rest k with
  | none=>none
  | some out=>match YM (itm l rest k).xWhere (whs (l.take k)) with
   | none=>none
   | some lv=>if (out++dec lv (itm l rest k).xAccept).length≤400 then some (out++dec lv (itm l rest k).xAccept) else none
def pt (l:List zn) (rest:Bool):Option (List zn):=lvN l rest (l.length+1)
def acs (out:List zn) (a:Bool):List za:=(out.filter (fun f=>decide (f.xAccept=a))).map (·.xWhere)
theorem zhj {l:List zn} {rest:Bool} {k:Nat} (h:k<l.length):itm l rest k=l[k]:=by
 unfold itm;rw [List.getElem?_eq_getElem h]
theorem zhp (l:List zn) (rest:Bool):itm l rest l.length=⟨VN,rest⟩:=by
 unfold itm;rw [List.getElem?_eq_none (Nat.le_refl _)]
theorem zcT:B4 VN∧F4 VN:=⟨zcZ,zgO (fun f h0 h1=>by have:=zey f h0 h1;omega)⟩
theorem zkb {l:List zn} (hv:IV l) (rest:Bool) (k:Nat):B4 (itm l rest k).xWhere∧F4 (itm l rest k).xWhere:=by
 unfold itm
 cases h:l[k]? with
 | none=>exact zcT
 | some f=>exact hv f (List.mem_of_getElem? h)
theorem zh2 {l:List zn} {rest:Bool} {k:Nat} (h:lvN l rest k=none):∀ n,lvN l rest (k+n)=none
 | 0=>h
 | n+1=>by
  rw [← Nat.add_assoc]
  unfold lvN
  rw [zh2 h n]
theorem zkz {l:List zn} {rest:Bool} {k n:Nat} (h:lvN l rest k=none) (hk:k≤n):lvN l rest n=none:=by
 obtain ⟨m,rfl⟩:=Nat.exists_eq_add_of_le hk
 exact zh2 h m
theorem zgH {l:List zn} {rest:Bool} (hv:IV l):∀ {k:Nat} {out:List zn},lvN l rest k=some out→IV out∧out.length≤400
 | 0,out,h=>by
  simp only [lvN,Option.some.injEq] at h;subst h
  exact ⟨zgA,by simp⟩
 | k+1,out,h=>by
  unfold lvN at h
  split at h
  ·cases h
  ·rename_i o ho
   split at h
   ·cases h
   ·rename_i lv hl
    split at h
    ·rename_i q
     injection h with h;subst h
     have ih:=zgH hv ho
     have hi:=zkb hv rest k
     have:=zdn hi.1 hi.2 (hv.take k).aB hl
     exact ⟨zhm ih.1 (zgL this.1 this.2.1),q⟩
    ·cases h
theorem zcW (x y:List zn) (a:Bool):acs (x++y) a=acs x a++acs y a:=by simp [acs]
theorem zcz (l:List za) (b a:Bool):acs (dec l b) a=if b=a then l else []:=by
 unfold acs dec
 split
 ·rename_i e
  rw [List.filter_eq_self.2 (fun f hf=>by obtain ⟨c,_,rfl⟩:=List.mem_map.1 hf;simpa using e),List.map_map]
  exact List.map_id' l
 ·rename_i e
  rw [List.filter_eq_nil_iff.2 (fun f hf=>by obtain ⟨c,_,rfl⟩:=List.mem_map.1 hf;simpa using e)]
  rfl
theorem zlz (x:List zn):(acs x true).length+(acs x false).length=x.length:=by
 induction x with
 | nil=>rfl
 | cons f x ih =>
  unfold acs at ih ⊢
  cases h:f.xAccept <;> simp [h] at ih ⊢ <;> omega
theorem zfh (x:List zn) (a:Bool):(acs x a).length≤x.length:=by
 unfold acs;rw [List.length_map];exact List.length_filter_le _ _
theorem zgd {x:List zn} (h:IV x) (a:Bool):aB (acs x a):=fun c hc=>by
 obtain ⟨f,hf,rfl⟩:=List.mem_map.1 hc
 exact (h f (List.mem_filter.1 hf).1).1
theorem zja {l:List zn} {rest:Bool} (hv:IV l) (p:zW) (a:Bool):∀ {k:Nat} {out:List zn},k≤l.length→lvN l rest k=some out→(hbs (acs out a) p↔dcd (l.take k) p=some a)
 | 0,out,_,h=>by
  simp only [lvN,Option.some.injEq] at h;subst h
  simp [acs,hbs,dcd]
 | k+1,out,hk,h=>by
  have hlt:k<l.length:=by omega
  unfold lvN at h
  split at h
  ·cases h
  ·rename_i o ho
   split at h
   ·cases h
   ·rename_i lv hl
    split at h
    ·injection h with h;subst h
     have ih:=zja hv p a (by omega) ho
     rw [zhj hlt] at hl ⊢
     have hi:=hv _ (List.getElem_mem hlt)
     have hlb:=zfs hi.1 (hv.take k).aB hl p
     rw [zcW,zcz,Xq,ih,List.take_succ_eq_append_getElem hlt,U0,zg8]
     rw [← zfm] at hlb
     by_cases e:l[k].xAccept=a
     ·rw [if_pos e,hlb,e]
      cases hd:dcd (l.take k) p with
      | none=>by_cases c:hb4 l[k].xWhere p <;> simp [c]
      | some b=>simp
     ·rw [if_neg e]
      cases hd:dcd (l.take k) p with
      | none =>
       by_cases c:hb4 l[k].xWhere p
       ·simp [c,X2,e]
       ·simp [c,X2]
      | some b=>simp [X2]
    ·cases h
theorem zhh {l:List zn} {rest:Bool} (hv:IV l) {out:List zn} (h:pt l rest=some out) {p:zW} (hp:pv p) (a:Bool):hbs (acs out a) p↔jf l rest p=a:=by
 unfold pt lvN at h
 rw [zha]
 split at h
 ·cases h
 ·rename_i o ho
  split at h
  ·cases h
  ·rename_i lv hl
   split at h
   ·injection h with h;subst h
    have ih:=zja hv p a (Nat.le_refl _) ho
    rw [List.take_length] at ih hl
    rw [zhp] at hl ⊢
    have hlb:=zfs zcZ hv.aB hl p
    rw [← zfm] at hlb
    rw [zcW,zcz,Xq,ih]
    simp only
    have ha:=zgC hp
    by_cases e:rest=a
    ·rw [if_pos e,hlb]
     cases hd:dcd l p with
     | none=>simp [ha,e]
     | some b=>simp
    ·rw [if_neg e]
     cases hd:dcd l p with
     | none=>simp [X2,e]
     | some b=>simp [X2]
   ·cases h
theorem zfg {l:List zn} {rest:Bool} (hv:IV l) {out:List zn} (h:pt l rest=some out):IV out∧out.length≤400:=zgH hv h
def tF (d:za) (as:List za):List za:=as.flatMap (fun c=>if em4 (xM d c) then [] else [xM d c])
def opF (ds as:List za):List za:=ds.flatMap (fun d=>tF d as)
theorem zfG (d:za) (l m:List za):tF d (l++m)=tF d l++tF d m:=by simp [tF]
theorem zgF (d c:za):tF d [c]=if em4 (xM d c) then [] else [xM d c]:=by simp [tF]
theorem zkK (d:za) (as:List za):(tF d as).length≤as.length:=by
 induction as with
 | nil=>simp [tF]
 | cons b bs ih =>
  rw [show b :: bs=[b]++bs from rfl,zfG,zgF,List.length_append,List.length_append]
  have:(if em4 (xM d b)=true then [] else [xM d b]:List za).length≤1:=by split <;> simp
  simp only [List.length_singleton];omega
theorem zbS (l m as:List za):opF (l++m) as=opF l as++opF m as:=by simp [opF]
theorem zcQ (d:za) (as:List za):opF [d] as=tF d as:=by simp [opF]
theorem zlY (ds as:List za):(opF ds as).length≤ds.length * as.length:=by
 induction ds with
 | nil=>simp [opF]
 | cons b bs ih =>
  rw [show b :: bs=[b]++bs from rfl,zbS,zcQ,List.length_append,List.length_append]
  have:=zkK b as
  rw [List.length_singleton,Nat.add_mul];omega
theorem zeA {ds as:List za} {c:za}:c∈opF ds as↔∃ d∈ds,∃ e∈as,em4 (xM d e)=false∧c=xM d e:=by
 unfold opF tF
 simp only [List.mem_flatMap]
 constructor
 ·rintro ⟨d,hd,e,he,h⟩
  split at h
  ·simp at h
  ·rename_i q
   exact ⟨d,hd,e,he,by simpa using q,by simpa using h⟩
 ·rintro ⟨d,hd,e,he,q,rfl⟩
  exact ⟨d,hd,e,he,by rw [if_neg (by simp [q])];simp⟩
theorem zn0 {ds as:List za} (h1:aB ds) (h2:aB as):aB (opF ds as):=fun c hc=>by
 obtain ⟨d,hd,e,he,_,rfl⟩:=zeA.1 hc
 exact zc6 (h1 d hd) (h2 e he)
theorem znq (ds as:List za) (p:zW):hbs (opF ds as) p↔hbs ds p∧hbs as p:=by
 constructor
 ·rintro ⟨c,hc,k⟩
  obtain ⟨d,hd,e,he,_,rfl⟩:=zeA.1 hc
  have:=(VB d e p).1 k
  exact ⟨⟨d,hd,this.1⟩,⟨e,he,this.2⟩⟩
 ·rintro ⟨⟨d,hd,k1⟩,⟨e,he,k2⟩⟩
  have h:=(VB d e p).2 ⟨k1,k2⟩
  refine ⟨xM d e,zeA.2 ⟨d,hd,e,he,?_,rfl⟩,h⟩
  cases q:em4 (xM d e) with
  | false=>rfl
  | true=>exact absurd h (zfv q p)
theorem zm2 {a:za} (ha:B4 a) (h:em4 a=false):∃ p,pv p∧hb4 a p:=by
 rw [zj7] at h
 obtain ⟨h0,h1,h2,h3⟩:=h
 obtain ⟨p0,p1,p2,p3⟩:=ha
 obtain ⟨x0,e0⟩:=zhz p0 h0
 obtain ⟨x1,e1⟩:=zhz p1 h1
 obtain ⟨x2,e2⟩:=zhz p2 h2
 obtain ⟨x3,e3⟩:=zhz p3 h3
 exact ⟨⟨x0,x1,x2,x3⟩,⟨yD p0 e0,yD p1 e1,yD p2 e2,yD p3 e3⟩,e0,e1,e2,e3⟩
theorem znC {ds as:List za} (h1:aB ds) (h2:aB as):opF ds as≠[]↔∃ p,pv p∧hbs ds p∧hbs as p:=by
 constructor
 ·intro h
  obtain ⟨c,hc⟩:=List.exists_mem_of_ne_nil _ h
  obtain ⟨d,hd,e,he,q,rfl⟩:=zeA.1 hc
  obtain ⟨p,hp,k⟩:=zm2 (zc6 (h1 d hd) (h2 e he)) q
  have:=(VB d e p).1 k
  exact ⟨p,hp,⟨d,hd,this.1⟩,⟨e,he,this.2⟩⟩
 ·rintro ⟨p,_,k⟩ e
  have:=(znq ds as p).2 k
  rw [e] at this
  exact X2 p this
def opn (a:List zn) (ra:Bool) (b:List zn) (rb:Bool):Option (List za) :=
 match pt a ra,pt b rb with
 | some x,some y=>if okR (opF (acs x false) (acs y true)) then some (opF (acs x false) (acs y true)) else none
 | _,_=>none
theorem znH {a b:List zn} {ra rb:Bool} (ha:IV a) (hb:IV b) {o:List za} (h:opn a ra b rb=some o):o≠[]↔∃ p,pv p∧jf a ra p=false∧jf b rb p=true:=by
 unfold opn at h
 split at h
 ·rename_i x y hx hy
  split at h
  ·injection h with h;subst h
   rw [znC (zgd (zfg ha hx).1 _) (zgd (zfg hb hy).1 _)]
   constructor
   ·rintro ⟨p,hp,k1,k2⟩
    exact ⟨p,hp,(zhh ha hx hp _).1 k1,(zhh hb hy hp _).1 k2⟩
   ·rintro ⟨p,hp,k1,k2⟩
    exact ⟨p,hp,(zhh ha hx hp _).2 k1,(zhh hb hy hp _).2 k2⟩
  ·cases h
 ·cases h
def zoj:Option (List zn)→ZX×Bool
 | some out=>(⟨acs out true,acs out false⟩,true)
 | none=>(⟨[],[]⟩,false)
theorem zmt {out:List zn} {lv:List za} {acc:Bool} (h1:out.length≤100000) (h2:lv.length≤100000) {κ:Bool×List za×List za→Prop} (h:κ (decide ((out++dec lv acc).length≤400),acs (out++dec lv acc) true,acs (out++dec lv acc) false)):yw (acs out true) (acs out false) lv acc κ:=by
 unfold yw
 have hl:=zlz out
 have hd:=zdm lv acc
 rw [zcW,zcW,zcz,zcz,List.length_append,hd] at h
 refine jQ (zo (fun e=>?_) (fun e=>?_))
 ·subst e
  refine jk (by omega) (zy (by omega) (by rw [List.length_append];omega) ?_)
  rw [show decide ((((acs out true++lv).length:Nat):Int)+((acs out false).length:Int)≤400)=decide (out.length+lv.length≤400) from decide_eq_decide.2 (by rw [List.length_append];omega)]
  simpa using h
 ·subst e
  refine jk (by omega) (zy (by omega) (by rw [List.length_append];omega) ?_)
  rw [show decide (((acs out true).length:Int)+(((acs out false++lv).length:Nat):Int)≤400)=decide (out.length+lv.length≤400) from decide_eq_decide.2 (by rw [List.length_append];omega)]
  simpa using h
theorem zhv {l:List zn} {rest:Bool} {k:Nat} {out:List zn} (h:lvN l rest k=some out):lvN l rest (k+1)=match YM (itm l rest k).xWhere (whs (l.take k)) with | none=>none | some lv=>if (out++dec lv (itm l rest k).xAccept).length≤400 then some (out++dec lv (itm l rest k).xAccept) else none:=by
 conv=>lhs;unfold lvN
 rw [h]
theorem zgk {l:List zn} {rest:Bool} (hl:l.length≤100000) (hv:IV l) {κ:ZX×Bool→Prop} (h:κ (zoj (pt l rest))):Yo l rest κ:=by
 unfold Yo
 have no:∀ {k},k≤l.length+1→lvN l rest k=none→κ (⟨[],[]⟩,false):=fun hk q=>by
  unfold pt at h;rw [zkz q hk] at h;exact h
 refine zX l.length (fun s=>s.2.2) (fun k (s:List za×List za×Int)=>s.2.2=(k:Int)∧k≤l.length∧∃ out,lvN l rest k=some out∧s.1=acs out true∧s.2.1=acs out false) (fun k s h=>h.1) (fun k s h=>h.2.1) ?_ ⟨rfl,by omega,[],rfl,rfl,rfl⟩
 rintro k ⟨_,_,_⟩ next ⟨rfl,hk,out,ho,hx,hy⟩ hn
 simp only at hx hy
 subst hx hy
 have hok:=zgH hv ho
 have hst:=zhv ho
 refine zo (fun hc=>?_) (fun hc=>?_)
 ·have hlt:k<l.length:=by simpa using hc
  rw [zhj hlt] at hst
  have hk2:=hv _ (List.getElem_mem hlt)
  refine zq k rfl hlt (zhO hl hv hlt ?_)
  unfold zhB
  cases hlr:YM l[k].xWhere (whs (l.take k)) with
  | none =>
   rw [hlr] at hst
   exact jQ (jo (jo (no (by omega) hst)))
  | some lv =>
   rw [hlr] at hst
   have hlo:=zdn hk2.1 hk2.2 (hv.take k).aB hlr
   have hl4:=hlo.2.2
   simp only at hst
   refine jQ (jK (zmt (by omega) (by omega) ?_))
   by_cases q:(out++dec lv l[k].xAccept).length≤400
   ·rw [if_pos q] at hst
    rw [decide_eq_true q]
    exact jK (zy (by omega) (by omega) (hn hlt _ ⟨by simp,by omega,_,hst,rfl,rfl⟩))
   ·rw [if_neg q] at hst
    rw [decide_eq_false q]
    exact jo (no (by omega) hst)
 ·have hge:k=l.length:=by
   have:¬ (k:Int)<(l.length:Int):=of_decide_eq_false hc
   omega
  subst hge
  rw [zhp,List.take_length] at hst
  refine zci (zeE (by omega) (zea (bs:=whs l) zcT.1 zcT.2 hv.aB (by unfold whs;rw [List.length_map];omega) ?_))
  have hst':pt l rest=match YM VN (whs l) with | none=>none | some lv=>if (out++dec lv rest).length≤400 then some (out++dec lv rest) else none:=hst
  rw [hst'] at h
  cases hlr:YM VN (whs l) with
  | none =>
   rw [hlr] at h
   exact jQ (jo (jo h))
  | some lv =>
   rw [hlr] at h
   have hl4:=(zdn zcT.1 zcT.2 hv.aB hlr).2.2
   simp only at h
   refine jQ (jK (zmt (lv:=lv) (by omega) (by omega) ?_))
   by_cases q:(out++dec lv rest).length≤400
   ·rw [if_pos q] at h
    rw [decide_eq_true q]
    exact jK h
   ·rw [if_neg q] at h
    rw [decide_eq_false q]
    exact jo h
theorem ziw {ds as:List za} (hdB:aB ds) (hcB:aB as) (hdl:ds.length≤400) (hcl:as.length≤400) {κ:List za×Bool→Prop} (h:κ (zlL (if okR (opF ds as) then some (opF ds as) else none))) :
  jw (fun (nx103:((List za)×Int)→Prop) ((xs99,t102):((List za)×Int))=>ifW (decide (t102<(ds.length:Int))) (zJ ds t102 (fun e104=>jw (fun (nx141:((List za)×Int)→Prop) ((xs137,t140):((List za)×Int))=>ifW (decide (t140<(as.length:Int))) (jnW (fun (xs353:(List za))=>jx t140 1 (fun t357=>nx141 (xs353,t357))) (fun k356=>zJ as t140 (fun e142=>uJ e104 e142 (fun r204=>ifW (!r204) (k356 xs137) (yJ e104 e142 (fun (r235,r244)=>ifW (!r244) (κ ([],false)) (ifW (decide ((xs137.length:Int)=400)) (κ ([],false)) (jU xs137 ([r235]) (fun _=>k356 (xs137++([r235]))))))))))) (jx t102 1 (fun t358=>nx103 (xs137,t358)))) (xs99,0))) (κ (xs99,true))) ([],0):=by
 have no:¬ okR (opF ds as)→κ ([],false):=fun q=>by rw [if_neg q] at h;exact h
 refine zX ds.length (fun s=>s.2) (fun k (s:List za×Int)=>s.2=(k:Int)∧k≤ds.length∧s.1=opF (ds.take k) as∧okR (opF (ds.take k) as)) (fun k s h=>h.1) (fun k s h=>h.2.1) ?_ ⟨rfl,by omega,by simp [opF],by simpa [opF] using zaH⟩
 rintro k ⟨_,_⟩ next ⟨rfl,hk,hx,hok⟩ hn
 simp only at hx
 subst hx
 refine zo (fun hc=>?_) (fun hc=>?_)
 ·have hlt:k<ds.length:=by simpa using hc
  have hdk:=hdB _ (List.getElem_mem hlt)
  have hsp:opF ds as=opF (ds.take k) as++(tF ds[k] as++opF (ds.drop (k+1)) as):=by
   conv=>lhs;rw [← List.take_append_drop k ds,List.drop_eq_getElem_cons hlt,show ds[k] :: ds.drop (k+1)=[ds[k]]++ds.drop (k+1) from rfl,zbS,zbS,zcQ]
  refine zq k rfl hlt ?_
  refine zX as.length (fun s=>s.2) (fun j (s:List za×Int)=>s.2=(j:Int)∧j≤as.length∧s.1=opF (ds.take k) as++tF ds[k] (as.take j)∧okR (opF (ds.take k) as++tF ds[k] (as.take j))) (fun k s h=>h.1) (fun k s h=>h.2.1) ?_ ⟨rfl,by omega,by simp [tF],by simpa [tF] using hok⟩
  rintro j ⟨_,_⟩ next2 ⟨rfl,hj,hx,hok2⟩ hn2
  simp only at hx
  subst hx
  refine zo (fun hc2=>?_) (fun hc2=>?_)
  ·have hjl:j<as.length:=by simpa using hc2
   have haj:=hcB _ (List.getElem_mem hjl)
   have hs2:tF ds[k] as=tF ds[k] (as.take j)++((if em4 (xM ds[k] as[j]) then [] else [xM ds[k] as[j]])++tF ds[k] (as.drop (j+1))):=by
    conv=>lhs;rw [← List.take_append_drop j as,List.drop_eq_getElem_cons hjl,show as[j] :: as.drop (j+1)=[as[j]]++as.drop (j+1) from rfl,zfG,zfG,zgF]
   have hs3:tF ds[k] (as.take (j+1))=tF ds[k] (as.take j)++(if em4 (xM ds[k] as[j]) then [] else [xM ds[k] as[j]]):=by
    rw [List.take_succ_eq_append_getElem hjl,zfG,zgF]
   have hl4:=hok2.2
   refine jQ (zq j rfl hjl (zdP hdk haj (zo (fun e=>?_) (fun e=>?_))))
   ·have e':em4 (xM ds[k] as[j])=true:=by simpa using e
    rw [if_pos e',List.append_nil] at hs3
    refine zy (by omega) (by omega) (hn2 hjl _ ⟨by simp,by omega,?_,?_⟩)
    ·rw [hs3]
    ·rw [hs3];exact hok2
   ·have e':em4 (xM ds[k] as[j])=false:=by simpa using e
    rw [if_neg (by simp [e'])] at hs2 hs3
    refine ziX hdk haj ?_
    by_cases hm:F4 (xM ds[k] as[j])
    ·rw [show ziA (xM ds[k] as[j])=(xM ds[k] as[j],true) from if_pos hm]
     refine jK (zo (fun e2=>no (fun q=>?_)) (fun e2=>?_))
     ·have e3:=of_decide_eq_true e2
      have:=q.2
      rw [hsp,hs2] at this
      simp only [List.length_append,List.length_singleton] at this e3
      omega
     ·have e3:=of_decide_eq_false e2
      refine jk (by simp only [List.length_singleton];omega) (zy (by omega) (by omega) (hn2 hjl _ ⟨by simp,by omega,?_,?_⟩))
      ·rw [hs3,List.append_assoc]
      ·rw [hs3,← List.append_assoc]
       refine ⟨yu.2 ⟨hok2.1,fun c hc=>by rw [List.mem_singleton] at hc;subst hc;exact hm⟩,?_⟩
       rw [List.length_append,List.length_singleton];omega
    ·rw [show ziA (xM ds[k] as[j])=(zdu,false) from if_neg hm]
     refine jo (no (fun q=>hm ?_))
     have:=q.1
     rw [hsp,hs2] at this
     exact this _ (by simp)
  ·have hjge:as.length≤j:=by simpa using hc2
   rw [List.take_of_length_le hjge] at hok2 ⊢
   refine zy (by omega) (by omega) (hn hlt _ ⟨by simp,by omega,?_,?_⟩)
   ·rw [List.take_succ_eq_append_getElem hlt,zbS,zcQ]
   ·rw [List.take_succ_eq_append_getElem hlt,zbS,zcQ];exact hok2
 ·have hge:ds.length≤k:=by simpa using hc
  rw [List.take_of_length_le hge] at hok ⊢
  rw [if_pos hok] at h
  exact h
theorem zfz {a b:List zn} {ra rb:Bool} (hla:a.length≤100000) (hlb:b.length≤100000) (ha:IV a) (hb:IV b) {κ:List za×Bool→Prop} (h:κ (zlL (opn a ra b rb))):XH a ra b rb κ:=by
 unfold XH
 unfold opn at h
 refine zgk hla ha (zgk hlb hb ?_)
 cases hx:pt a ra with
 | none =>
  rw [hx] at h
  exact jQ (jo (jo h))
 | some x =>
  cases hy:pt b rb with
  | none =>
   rw [hx,hy] at h
   exact jQ (jK (jo h))
  | some y =>
   rw [hx,hy] at h
   simp only at h
   obtain ⟨hxI,hxl⟩:=zfg ha hx
   obtain ⟨hyI,hyl⟩:=zfg hb hy
   have hdB:=zgd hxI false
   have hcB:=zgd hyI true
   have hdl:=zfh x false
   have hcl:=zfh y true
   exact jQ (jK (jK (ziw hdB hcB (by omega) (by omega) h)))
open Classical in
noncomputable def cv (s:zN):Option (List zn):=if SV s then cf s else none
theorem V8 {s:zN} {l:List zn} (h:cv s=some l):SV s∧cf s=some l:=by
 unfold cv at h
 split at h
 ·rename_i q;exact ⟨q,h⟩
 ·cases h
theorem zla {s:zN} (hs:SV s):cv s=cf s:=by unfold cv;rw [if_pos hs]
def ckO (o c:Option (List za)):Int:=match o,c with
 | some o,some c=>(if c=[] then 0 else 1)+(if o=[] then 0 else 2)
 | _,_=>4
noncomputable def ck (s t:zN):Int:=match cv s,cv t with
 | some a,some b=>ckO (opn a s.xAccept b t.xAccept) (opn b t.xAccept a s.xAccept)
 | _,_=>4
theorem zfr {s:zN} (hb:Bd s) {κ:List zn×Bool→Prop} (h1:∀ l,cv s=some l→κ (l,true)) (h2:cv s=none→κ ([],false)):uT s κ :=
 zbc hb (fun hs l hl=>h1 l (by rw [zla hs];exact hl)) (fun q=>h2 (by
  unfold cv
  split
  ·rename_i hs;exact q hs
  ·rfl))
theorem zd7 {s:zN} {l:List zn} (h:cv s=some l):IV l∧l.length≤60:=zmw (V8 h).1 (V8 h).2
theorem zmh {α:Type} (l:List α):decide (0<(l.length:Int))=!decide (l=[]):=by
 cases l with
 | nil=>rfl
 | cons x l=>simp
theorem Y4 {s t:zN} (hs:Bd s) (ht:Bd t) {κ:Int→Prop} (h:κ (ck s t)):yn s t κ:=by
 unfold yn
 unfold ck at h
 refine zfr hs (fun a ha=>zfr ht (fun b hb=>?_) (fun q=>?_)) (fun q=>?_)
 ·rw [ha,hb] at h
  obtain ⟨a1,a2⟩:=zd7 ha
  obtain ⟨b1,b2⟩:=zd7 hb
  refine jQ (jK (jK (zfz (by omega) (by omega) a1 b1 (zfz (by omega) (by omega) b1 a1 ?_))))
  simp only [ckO] at h
  cases ho:opn a s.xAccept b t.xAccept with
  | none =>
   rw [ho] at h
   exact jQ (jo (jo h))
  | some o =>
   cases hc:opn b t.xAccept a s.xAccept with
   | none =>
    rw [ho,hc] at h
    exact jQ (jK (jo h))
   | some c =>
    rw [ho,hc] at h
    simp only at h
    refine jQ (jK (jK (jQ ?_)))
    show ifW (decide (0<(o.length:Int))) (ifW (decide (0<(c.length:Int))) _ _) _
    rw [zmh,zmh]
    by_cases e1:o=[] <;> by_cases e2:c=[] <;> simp only [e1,e2,decide_true,decide_false,if_true,if_false,Bool.not_true,Bool.not_false,UB,zdy] at h ⊢ <;> exact h
 ·rw [ha,q] at h
  exact jQ (jK (jo h))
 ·rw [q] at h
  refine zfr ht (fun b hb=>?_) (fun q2=>?_)
  ·exact jQ (jo (jo h))
  ·exact jQ (jo (jo h))
end
section
open Go Go.Proofs
def zoh:Option (List zn)→List zS×Bool
 | some out=>(out.map gf,true)
 | none=>([],false)
theorem zjR {l:List zn} {rest:Bool} (hv:IV l) (hl:l.length≤60) {κ:List zS×Bool→Prop} (h:κ (zoh (pt l rest))):Uv (l.map gf) rest κ:=by
 unfold Uv
 have no:∀ {k},k≤l.length+1→lvN l rest k=none→κ ([],false):=fun hk q=>by
  unfold pt at h;rw [zkz q hk] at h;exact h
 refine zX (l.length+1) (fun s=>s.2) (fun k (s:List zS×Int)=>s.2=(k:Int)∧k≤l.length+1∧∃ out,lvN l rest k=some out∧s.1=out.map gf) (fun k s h=>h.1) (fun k s h=>h.2.1) ?_ ⟨rfl,by omega,[],rfl,rfl⟩
 rintro k ⟨_,_⟩ next ⟨rfl,hk,out,ho,hx⟩ hn
 simp only at hx
 subst hx
 have hok:=(zgH hv ho).2
 have hst:=zhv ho
 refine zo (fun hc=>?_) (fun hc=>?_)
 ·have hle:k≤l.length:=by
   have:=of_decide_eq_true hc
   simp only [List.length_map] at this;omega
  refine zfa (zeY (fun z=>z=((bx (itm l rest k).xWhere).xSides,(itm l rest k).xAccept)) ?_ ?_)
  ·rintro _ rfl
   refine ⟨by omega,by omega,by simp only [List.length_map];omega,?_⟩
   have e:((l.map gf).take (k:Int).toNat).drop (0:Int).toNat=(l.take k).map gf:=by simp [List.map_take]
   rw [e]
   refine zao (hv.take k) (by rw [List.length_take];omega) ?_
   have hi:=zkb hv rest k
   generalize itm l rest k=f at *
   refine zgn hi.1 (hv.take k).aB (by unfold whs;rw [List.length_map,List.length_take];omega) ?_
   cases hlr:YM f.xWhere (whs (l.take k)) with
   | none =>
    rw [hlr] at hst
    exact jo (no (by omega) hst)
   | some lv =>
    rw [hlr] at hst
    have hl4:=(zdn hi.1 hi.2 (hv.take k).aB hlr).2.2
    simp only at hst
    refine jK ?_
    refine zX lv.length (fun s=>s.2) (fun j (s:List zS×Int)=>s.2=(j:Int)∧j≤lv.length∧s.1=(out++dec (lv.take j) f.xAccept).map gf) (fun k s h=>h.1) (fun k s h=>h.2.1) ?_ ⟨rfl,by omega,by simp [dec]⟩
    rintro j ⟨_,_⟩ next2 ⟨rfl,hj,hx⟩ hn2
    simp only at hx
    subst hx
    refine zo (fun hc2=>?_) (fun hc2=>?_)
    ·have hjl:j<lv.length:=by
      have:=of_decide_eq_true hc2
      simp only [List.length_map] at this;omega
     refine zq j rfl (by simpa using hjl) ?_
     rw [List.getElem_map]
     refine jk (by simp only [List.length_map,List.length_append,zdm,List.length_take,List.length_singleton];omega) (zy (by omega) (by omega) (hn2 hjl _ ⟨by simp,by omega,?_⟩))
     simp only [dec,List.take_succ_eq_append_getElem hjl,List.map_append,List.map_cons,List.map_nil,List.append_assoc]
     rfl
    ·have hjge:lv.length≤j:=by
      have:=of_decide_eq_false hc2
      simp only [List.length_map] at this;omega
     rw [List.take_of_length_le hjge]
     by_cases q:(out++dec lv f.xAccept).length≤400
     ·rw [if_pos q] at hst
      refine zo (fun e=>?_) (fun _=>zy (by omega) (by omega) (hn (by omega) _ ⟨by simp,by omega,_,hst,rfl⟩))
      have:=of_decide_eq_true e
      simp only [List.length_map] at this;omega
     ·rw [if_neg q] at hst
      refine zo (fun _=>no (by omega) hst) (fun e=>?_)
      have:=of_decide_eq_false e
      simp only [List.length_map] at this;omega
  ·intro K hK
   refine zo (fun e=>?_) (fun e=>?_)
   ·have hlt:k<l.length:=by
     have:=of_decide_eq_true e
     simp only [List.length_map] at this;omega
    have ix:∀ (K':zS→Prop),K' (gf l[k])→zJ (l.map gf) (k:Int) K':=fun K' hK'=>zq k rfl (by simpa using hlt) (by rw [List.getElem_map];exact hK')
    refine ix _ (ix _ (hK _ ?_))
    rw [zhj hlt];rfl
   ·have hge:k=l.length:=by
     have:=of_decide_eq_false e
     simp only [List.length_map] at this;omega
    subst hge
    refine hK _ ?_
    rw [zhp]
 ·have hge:k=l.length+1:=by
   have:=of_decide_eq_false hc
   simp only [List.length_map] at this;omega
  subst hge
  unfold pt at h
  rw [ho] at h;exact h
theorem ziu {out:List zn} {a:Bool} (hl:out.length≤100000) {κ:List z8→Prop} (h:κ ((acs out a).map bx)):YZ (out.map gf) a κ:=by
 unfold YZ
 refine zX out.length (fun s=>s.2) (fun k (s:List z8×Int)=>s.2=(k:Int)∧k≤out.length∧s.1=(acs (out.take k) a).map bx) (fun k s h=>h.1) (fun k s h=>h.2.1) ?_ ⟨rfl,by omega,by simp [acs]⟩
 rintro k ⟨_,_⟩ next ⟨rfl,hk,hx⟩ hn
 simp only at hx
 subst hx
 refine zo (fun hc=>?_) (fun hc=>?_)
 ·have hlt:k<out.length:=by simpa using hc
  have ix:∀ (K':zS→Prop),K' (gf out[k])→zJ (out.map gf) (k:Int) K':=fun K' hK'=>zq k rfl (by simpa using hlt) (by rw [List.getElem_map];exact hK')
  have hal:=zfh (out.take k) a
  rw [List.length_take] at hal
  have es:acs (out.take (k+1)) a=acs (out.take k) a++(if out[k].xAccept=a then [out[k].xWhere] else []):=by
   rw [List.take_succ_eq_append_getElem hlt,zcW]
   congr 1
   exact zcz [out[k].xWhere] out[k].xAccept a
  refine jQ (ix _ (zo (fun e=>ix _ ?_) (fun e=>?_)))
  ·have e':out[k].xAccept=a:=of_decide_eq_true e
   rw [if_pos e'] at es
   refine jk (by simp only [List.length_map,List.length_singleton];omega) (zy (by omega) (by omega) (hn hlt _ ⟨by simp,by omega,?_⟩))
   rw [es,List.map_append];rfl
  ·have e':¬ out[k].xAccept=a:=of_decide_eq_false e
   rw [if_neg e',List.append_nil] at es
   refine zy (by omega) (by omega) (hn hlt _ ⟨by simp,by omega,?_⟩)
   rw [es]
 ·have hge:out.length≤k:=by simpa using hc
  rw [List.take_of_length_le hge];exact h
theorem zbH {l:List zn} {rest a:Bool} (hv:IV l) (hl:l.length≤60) {κ:List z8×Bool→Prop} (h1:∀ out,pt l rest=some out→κ ((acs out a).map bx,true)) (h2:pt l rest=none→κ ([],false)):Xf (l.map gf) rest a κ:=by
 have hF:=zb6 hv hl
 unfold Xf
 refine yj hF.fb (yI hF.fb ?_)
 rw [decide_eq_true hF]
 refine jK (zjR hv hl ?_)
 cases hp:pt l rest with
 | none=>exact jo (h2 hp)
 | some out=>exact jK (ziu (by have:=(zfg hv hp).2;omega) (h1 out hp))
theorem zjQ {ds as:List za} (hdB:aB ds) (hcB:aB as) (hdl:ds.length≤400) (hcl:as.length≤400) {κ:List z8×Bool→Prop} (h:κ (znp (if okR (opF ds as) then some (opF ds as) else none))) :
  jw (fun (nx93:((List z8)×Int)→Prop) ((xs88,t92):((List z8)×Int))=>ifW (decide (t92<((ds.map bx).length:Int))) (jw (fun (nx100:((List z8)×Int)→Prop) ((xs95,t99):((List z8)×Int))=>ifW (decide (t99<((as.map bx).length:Int))) (jnW (fun (xs227:(List z8))=>jx t99 1 (fun t232=>nx100 (xs227,t232))) (fun k231=>jnW (fun (xs101:(List (List zh)))=>uZ (z8.mk xs101) (fun r157=>ifW (!r157) (jU xs95 ([(z8.mk xs101)]) (fun _=>k231 (xs95++([(z8.mk xs101)])))) (k231 xs95))) (fun k106=>zJ (ds.map bx) t92 (fun e107=>zJ (as.map bx) t99 (fun e109=>yc e107 e109 (fun r119=>k106 r119.xSides)))))) (jx t92 1 (fun t233=>nx93 (xs95,t233)))) (xs88,0)) (xE xs88 (fun r234=>ifW (!r234) (κ ([],false)) (κ (xs88,true))))) ([],0):=by
 have big:∀ k,(opF (ds.take k) as).length≤160000:=fun k=>by
  refine Nat.le_trans (zlY _ _) ?_
  have h1:(ds.take k).length≤400:=by rw [List.length_take];omega
  exact Nat.mul_le_mul h1 (show as.length≤400 by omega)
 refine zX ds.length (fun s=>s.2) (fun k (s:List z8×Int)=>s.2=(k:Int)∧k≤ds.length∧s.1=(opF (ds.take k) as).map bx) (fun k s h=>h.1) (fun k s h=>h.2.1) ?_ ⟨rfl,by omega,by simp [opF]⟩
 rintro k ⟨_,_⟩ next ⟨rfl,hk,hx⟩ hn
 simp only at hx
 subst hx
 have bk:=big k
 refine zo (fun hc=>?_) (fun hc=>?_)
 ·have hlt:k<ds.length:=by simpa using hc
  have hdk:=hdB _ (List.getElem_mem hlt)
  refine zX as.length (fun s=>s.2) (fun j (s:List z8×Int)=>s.2=(j:Int)∧j≤as.length∧s.1=(opF (ds.take k) as++tF ds[k] (as.take j)).map bx) (fun k s h=>h.1) (fun k s h=>h.2.1) ?_ ⟨rfl,by omega,by simp [tF]⟩
  rintro j ⟨_,_⟩ next2 ⟨rfl,hj,hx⟩ hn2
  simp only at hx
  subst hx
  refine zo (fun hc2=>?_) (fun hc2=>?_)
  ·have hjl:j<as.length:=by simpa using hc2
   have haj:=hcB _ (List.getElem_mem hjl)
   have hs3:tF ds[k] (as.take (j+1))=tF ds[k] (as.take j)++(if em4 (xM ds[k] as[j]) then [] else [xM ds[k] as[j]]):=by
    rw [List.take_succ_eq_append_getElem hjl,zfG,zgF]
   have htl:=zkK ds[k] (as.take j)
   rw [List.length_take] at htl
   refine jQ (jQ (zq k rfl (by simpa using hlt) (zq j rfl (by simpa using hjl) ?_)))
   rw [List.getElem_map,List.getElem_map]
   refine zdG hdk haj (VH (a:=xM ds[k] as[j]) (zo (fun e=>?_) (fun e=>?_)))
   ·have e':em4 (xM ds[k] as[j])=false:=by simpa using e
    rw [if_neg (by simp [e'])] at hs3
    refine jk (by simp only [List.length_map,List.length_append,List.length_singleton];omega) (zy (by omega) (by omega) (hn2 hjl _ ⟨by simp,by omega,?_⟩))
    show List.map bx (opF (ds.take k) as++tF ds[k] (as.take j))++[bx (xM ds[k] as[j])]=_
    rw [hs3,← List.append_assoc,List.map_append (l₁:=opF (ds.take k) as++tF ds[k] (as.take j))];rfl
   ·have e':em4 (xM ds[k] as[j])=true:=by simpa using e
    rw [if_pos e',List.append_nil] at hs3
    refine zy (by omega) (by omega) (hn2 hjl _ ⟨by simp,by omega,?_⟩)
    rw [hs3]
  ·have hjge:as.length≤j:=by simpa using hc2
   rw [List.take_of_length_le hjge]
   refine zy (by omega) (by omega) (hn hlt _ ⟨by simp,by omega,?_⟩)
   rw [List.take_succ_eq_append_getElem hlt,zbS,zcQ]
 ·have hge:ds.length≤k:=by simpa using hc
  rw [List.take_of_length_le hge] at bk ⊢
  refine Zy (zn0 hdB hcB) (by omega) (fun ok=>?_) (fun no=>?_)
  ·rw [if_pos ok] at h;exact jK h
  ·rw [if_neg no] at h;exact jo h
theorem zd5 {a b:List zn} {ra rb:Bool} (ha:IV a) (hb:IV b) (hla:a.length≤60) (hlb:b.length≤60) {κ:List z8×Bool→Prop} (h:κ (znp (opn a ra b rb))):Xl (a.map gf) ra (b.map gf) rb κ:=by
 unfold Xl
 unfold opn at h
 refine yj (zb6 ha hla).fb (yj (zb6 hb hlb).fb ?_)
 refine zbH ha hla (fun x hx=>?_) (fun hx=>?_)
 ·rw [hx] at h
  refine zbH hb hlb (fun y hy=>?_) (fun hy=>?_)
  ·rw [hy] at h
   simp only at h
   obtain ⟨hxI,hxl⟩:=zfg ha hx
   obtain ⟨hyI,hyl⟩:=zfg hb hy
   have hdB:=zgd hxI false
   have hcB:=zgd hyI true
   have hdl:=zfh x false
   have hcl:=zfh y true
   exact jQ (jK (jK (zjQ hdB hcB (by omega) (by omega) h)))
  ·rw [hy] at h
   exact jQ (jK (jo h))
 ·rw [hx] at h
  refine zbH hb hlb (fun y hy=>?_) (fun hy=>?_)
  ·exact jQ (jo (jo h))
  ·exact jQ (jo (jo h))
theorem zg2 {s:zN} (hb:Bd s) {κ:List zS×Bool→Prop} (h1:∀ l,cv s=some l→κ (l.map gf,true)) (h2:cv s=none→κ ([],false)):Z6 s κ :=
 zfN hb (fun hs l hl=>h1 l (by rw [zla hs];exact hl)) (fun q=>h2 (by
  unfold cv
  split
  ·rename_i hs;exact q hs
  ·rfl))
theorem zcb {s t:zN} (hs:Bd s) (ht:Bd t) {κ:Int→Prop} (h:κ (ck s t)):Xu s t κ:=by
 unfold Xu
 unfold ck at h
 refine zg2 hs (fun a ha=>zg2 ht (fun b hb=>?_) (fun q=>?_)) (fun q=>?_)
 ·rw [ha,hb] at h
  obtain ⟨a1,a2⟩:=zd7 ha
  obtain ⟨b1,b2⟩:=zd7 hb
  refine jQ (jK (jK (zd5 a1 b1 a2 b2 (zd5 b1 a1 b2 a2 ?_))))
  simp only [ckO] at h
  cases ho:opn a s.xAccept b t.xAccept with
  | none =>
   rw [ho] at h
   exact jQ (jo (jo h))
  | some o =>
   cases hc:opn b t.xAccept a s.xAccept with
   | none =>
    rw [ho,hc] at h
    exact jQ (jK (jo h))
   | some c =>
    rw [ho,hc] at h
    simp only at h
    refine jQ (jK (jK (jQ ?_)))
    show ifW (decide (0<((c.map bx).length:Int))) _ _
    have e1:decide (0<((c.map bx).length:Int))=!decide (c=[]):=by rw [List.length_map];exact zmh c
    have e2:decide (0<((o.map bx).length:Int))=!decide (o=[]):=by rw [List.length_map];exact zmh o
    rw [e1]
    by_cases q1:c=[]
    ·rw [if_pos q1] at h
     rw [decide_eq_true q1]
     refine jK (jQ ?_)
     show ifW (decide (0<((o.map bx).length:Int))) _ _
     rw [e2]
     by_cases q2:o=[]
     ·rw [if_pos q2] at h
      rw [decide_eq_true q2]
      exact jK h
     ·rw [if_neg q2] at h
      rw [decide_eq_false q2]
      exact jo (zy (by decide) (by decide) h)
    ·rw [if_neg q1] at h
     rw [decide_eq_false q1]
     refine jo (zy (by decide) (by decide) (jQ ?_))
     show ifW (decide (0<((o.map bx).length:Int))) _ _
     rw [e2]
     by_cases q2:o=[]
     ·rw [if_pos q2] at h
      rw [decide_eq_true q2]
      exact jK h
     ·rw [if_neg q2] at h
      rw [decide_eq_false q2]
      exact jo (zy (by decide) (by decide) h)
 ·rw [ha,q] at h
  exact jQ (jK (jo h))
 ·rw [q] at h
  refine zg2 ht (fun b hb=>?_) (fun q2=>?_)
  ·exact jQ (jo (jo h))
  ·exact jQ (jo (jo h))
theorem zev {s t:zN}:ck s t=4∨∃ a b o c,cv s=some a∧cv t=some b∧opn a s.xAccept b t.xAccept=some o∧opn b t.xAccept a s.xAccept=some c∧ck s t=(if c=[] then 0 else 1)+(if o=[] then 0 else 2):=by
 unfold ck
 cases ha:cv s with
 | none=>exact .inl rfl
 | some a =>
  cases hb:cv t with
  | none=>exact .inl rfl
  | some b =>
   unfold ckO
   simp only
   cases ho:opn a s.xAccept b t.xAccept with
   | none=>exact .inl rfl
   | some o =>
    cases hc:opn b t.xAccept a s.xAccept with
    | none=>exact .inl rfl
    | some c=>exact .inr ⟨a,b,o,c,rfl,rfl,ho,hc,rfl⟩
theorem zeq {s t:zN} {a b:List zn} (ha:cv s=some a) (hb:cv t=some b) {o:List za} (h:opn a s.xAccept b t.xAccept=some o):o≠[]↔∃ p,pv p∧jdg s p=false∧jdg t p=true:=by
 rw [znH (zd7 ha).1 (zd7 hb).1 h]
 obtain ⟨s1,a1⟩:=V8 ha
 obtain ⟨t1,b1⟩:=V8 hb
 constructor
 ·rintro ⟨p,hp,k1,k2⟩
  exact ⟨p,hp,by rw [zhl s1 a1 hp];exact k1,by rw [zhl t1 b1 hp];exact k2⟩
 ·rintro ⟨p,hp,k1,k2⟩
  exact ⟨p,hp,by rw [← zhl s1 a1 hp];exact k1,by rw [← zhl t1 b1 hp];exact k2⟩
theorem zlp {s t:zN} (h:SV s→SV t→∀ p,pv p→jdg s p=jdg t p):ck s t=0∨ck s t=4:=by
 rcases zev (s:=s) (t:=t) with e | ⟨a,b,o,c,ha,hb,ho,hc,e⟩
 ·exact .inr e
 ·have hh:=h (V8 ha).1 (V8 hb).1
  have e1:o=[]:=by
   by_cases q:o=[]
   ·exact q
   ·obtain ⟨p,hp,k1,k2⟩:=(zeq ha hb ho).1 q
    rw [hh p hp,k2] at k1;cases k1
  have e2:c=[]:=by
   by_cases q:c=[]
   ·exact q
   ·obtain ⟨p,hp,k1,k2⟩:=(zeq hb ha hc).1 q
    rw [hh p hp,k1] at k2;cases k2
  rw [if_pos e1,if_pos e2] at e
  exact .inl e
theorem zlX (s t:zN):(ck s t=4∧ck t s=4)∨(ck s t=0∧ck t s=0)∨(ck s t=1∧ck t s=2)∨(ck s t=2∧ck t s=1)∨(ck s t=3∧ck t s=3):=by
 unfold ck
 cases ha:cv s with
 | none=>cases hb:cv t <;> exact .inl ⟨rfl,rfl⟩
 | some a =>
  cases hb:cv t with
  | none=>exact .inl ⟨rfl,rfl⟩
  | some b =>
   simp only
   unfold ckO
   cases ho:opn a s.xAccept b t.xAccept with
   | none=>cases hc:opn b t.xAccept a s.xAccept <;> exact .inl ⟨rfl,rfl⟩
   | some o =>
    cases hc:opn b t.xAccept a s.xAccept with
    | none=>exact .inl ⟨rfl,rfl⟩
    | some c =>
     simp only
     by_cases e1:o=[] <;> by_cases e2:c=[] <;> simp [e1,e2]
theorem zli {s t:zN} (h:ck s t≠4) {p:zW} (hp:pv p) (h1:jdg s p=false) (h2:jdg t p=true):ck s t=2∨ck s t=3:=by
 rcases zev (s:=s) (t:=t) with e | ⟨a,b,o,c,ha,hb,ho,hc,e⟩
 ·exact absurd e h
 ·have q:=(zeq ha hb ho).2 ⟨p,hp,h1,h2⟩
  rw [if_neg q] at e
  by_cases e2:c=[]
  ·rw [if_pos e2] at e;exact .inl (by omega)
  ·rw [if_neg e2] at e;exact .inr (by omega)
theorem zj1 {s t:zN} (h:ck s t≠4) {p:zW} (hp:pv p) (h1:jdg s p=true) (h2:jdg t p=false):ck s t=1∨ck s t=3:=by
 rcases zev (s:=s) (t:=t) with e | ⟨a,b,o,c,ha,hb,ho,hc,e⟩
 ·exact absurd e h
 ·have q:=(zeq hb ha hc).2 ⟨p,hp,h2,h1⟩
  rw [if_neg q] at e
  by_cases e2:o=[]
  ·rw [if_pos e2] at e;exact .inl (by omega)
  ·rw [if_neg e2] at e;exact .inr (by omega)
end
section
open Go Go.Proofs
theorem ziM {s:zN} (hb:Bd s) {κ:List zS×Bool→Prop} (h1:∀ l,cv s=some l→κ (l.map gf,true)) (h2:cv s=none→κ ([],false)):Z4 s κ :=
 zfw hb (fun hs l hl=>h1 l (by rw [zla hs];exact hl)) (fun q=>h2 (by
  unfold cv
  split
  ·rename_i hs;exact q hs
  ·rfl))
end
end Go.Proofs.YtgpdnnhmndlljaaGreatDoor
