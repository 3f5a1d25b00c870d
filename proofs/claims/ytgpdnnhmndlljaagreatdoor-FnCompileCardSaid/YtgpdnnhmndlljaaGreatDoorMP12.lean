import Derived.Test.YtgpdnnhmndlljaaGreatDoorMP1
set_option linter.unusedSimpArgs false
set_option linter.unusedVariables false
set_option linter.unusedSectionVars false
namespace Go.Proofs.YtgpdnnhmndlljaaGreatDoor
section
open Go Go.Proofs
theorem zep {a b:za} (ha:B4 a) (hb:B4 b) {κ:List ji→Prop} (h:κ ((Yj a b).map bx)):yM (bx a) (bx b) κ:=by
 unfold yM
 refine zfS ha hb (zak (zo (fun e=>?_) (fun e=>?_)))
 ·unfold Yj at h;rw [if_pos e] at h
  unfold jnW
  refine zak (zo (fun e2=>?_) (fun e2=>?_))
  ·rw [if_neg (by simpa using e2)] at h;exact jo (by simp) h
  ·rw [if_pos (by simpa using e2)] at h;exact h
 unfold Yj at h;rw [if_neg (by simp [e])] at h
 clear e
 obtain ⟨a0,a1,a2,a3⟩:=a
 obtain ⟨b0,b1,b2,b3⟩:=b
 have ha0:=ha
 obtain ⟨p0,p1,p2,p3⟩:=ha
 obtain ⟨q0,q1,q2,q3⟩:=hb
 simp only at p0 p1 p2 p3 q0 q1 q2 q3 h
 have m0:=Xj p0 q0.1
 have m1:=Xj p1 q1.1
 have m2:=Xj p2 q2.1
 refine ⟨5,?_⟩
 refine jA (xQ (xQ ?_))
 refine zp 0 rfl (by simp [L4,bx]) (zp 0 rfl (by simp [L4,bx]) (xO (n:=(0:Int)) (by decide) (by decide) (zaa (top:=65535) q0 (by decide) (by decide) (Z6 p0 (Y2 q0) (by decide) (by decide) (by decide) (by decide) ?_))))
 refine zp 0 rfl (by simp [L4,bx]) (zp 0 rfl (by simp [L4,bx]) (Z6 p0 q0 (by decide) (by decide) (by decide) (by decide) (zar (a:=⟨a0,a1,a2,a3⟩) ha0 (t:=(0:Int)) (by decide) (by decide) (by simp) ?_)))
 refine yx (l:=L4 ⟨a0,a1,a2,a3⟩) (by simp [L4,bx]) (zbP ha0) (yF (a:=⟨a0,a1,a2,a3⟩) (f:=(0:Int)) (by decide) (by decide) (zC (by decide) (by decide) ?_))
 have c1:B4 ⟨ja a0 b0,a1,a2,a3⟩:=⟨m0,p1,p2,p3⟩
 refine jA (xQ (xQ ?_))
 refine zp 1 rfl (by simp [L4,bx]) (zp 1 rfl (by simp [L4,bx]) (xO (n:=(1:Int)) (by decide) (by decide) (zaa (top:=65535) q1 (by decide) (by decide) (Z6 p1 (Y2 q1) (by decide) (by decide) (by decide) (by decide) ?_))))
 refine zp 1 rfl (by simp [L4,bx]) (zp 1 rfl (by simp [L4,bx]) (Z6 p1 q1 (by decide) (by decide) (by decide) (by decide) (zar (a:=⟨ja a0 b0,a1,a2,a3⟩) c1 (t:=(1:Int)) (by decide) (by decide) (by have:=Vn (ja a0 (yV b0 65535)) (Y3 ⟨a0,a1,a2,a3⟩ 0 (ja a0 (yV b0 65535)));simp only [List.length_append,List.length_map,List.length_nil];omega) ?_)))
 refine yx (l:=L4 ⟨ja a0 b0,a1,a2,a3⟩) (by simp [L4,bx]) (zbP c1) (yF (a:=⟨ja a0 b0,a1,a2,a3⟩) (f:=(1:Int)) (by decide) (by decide) (zC (by decide) (by decide) ?_))
 have c2:B4 ⟨ja a0 b0,ja a1 b1,a2,a3⟩:=⟨m0,m1,p2,p3⟩
 refine jA (xQ (xQ ?_))
 refine zp 2 rfl (by simp [L4,bx]) (zp 2 rfl (by simp [L4,bx]) (xO (n:=(2:Int)) (by decide) (by decide) (zaa (top:=255) q2 (by decide) (by decide) (Z6 p2 (Y2 q2) (by decide) (by decide) (by decide) (by decide) ?_))))
 refine zp 2 rfl (by simp [L4,bx]) (zp 2 rfl (by simp [L4,bx]) (Z6 p2 q2 (by decide) (by decide) (by decide) (by decide) (zar (a:=⟨ja a0 b0,ja a1 b1,a2,a3⟩) c2 (t:=(2:Int)) (by decide) (by decide) (by
  have:=Vn (ja a0 (yV b0 65535)) (Y3 ⟨a0,a1,a2,a3⟩ 0 (ja a0 (yV b0 65535)))
  have:=Vn (ja a1 (yV b1 65535)) (Y3 ⟨ja a0 b0,a1,a2,a3⟩ 1 (ja a1 (yV b1 65535)))
  simp only [List.length_append,List.length_map,List.length_nil];omega) ?_)))
 refine yx (l:=L4 ⟨ja a0 b0,ja a1 b1,a2,a3⟩) (by simp [L4,bx]) (zbP c2) (yF (a:=⟨ja a0 b0,ja a1 b1,a2,a3⟩) (f:=(2:Int)) (by decide) (by decide) (zC (by decide) (by decide) ?_))
 have c3:B4 ⟨ja a0 b0,ja a1 b1,ja a2 b2,a3⟩:=⟨m0,m1,m2,p3⟩
 refine jA (xQ (xQ ?_))
 refine zp 3 rfl (by simp [L4,bx]) (zp 3 rfl (by simp [L4,bx]) (xO (n:=(3:Int)) (by decide) (by decide) (zaa (top:=7) q3 (by decide) (by decide) (Z6 p3 (Y2 q3) (by decide) (by decide) (by decide) (by decide) ?_))))
 refine zp 3 rfl (by simp [L4,bx]) (zp 3 rfl (by simp [L4,bx]) (Z6 p3 q3 (by decide) (by decide) (by decide) (by decide) (zar (a:=⟨ja a0 b0,ja a1 b1,ja a2 b2,a3⟩) c3 (t:=(3:Int)) (by decide) (by decide) (by
  have:=Vn (ja a0 (yV b0 65535)) (Y3 ⟨a0,a1,a2,a3⟩ 0 (ja a0 (yV b0 65535)))
  have:=Vn (ja a1 (yV b1 65535)) (Y3 ⟨ja a0 b0,a1,a2,a3⟩ 1 (ja a1 (yV b1 65535)))
  have:=Vn (ja a2 (yV b2 255)) (Y3 ⟨ja a0 b0,ja a1 b1,a2,a3⟩ 2 (ja a2 (yV b2 255)))
  simp only [List.length_append,List.length_map,List.length_nil];omega) ?_)))
 refine yx (l:=L4 ⟨ja a0 b0,ja a1 b1,ja a2 b2,a3⟩) (by simp [L4,bx]) (zbP c3) (yF (a:=⟨ja a0 b0,ja a1 b1,ja a2 b2,a3⟩) (f:=(3:Int)) (by decide) (by decide) (zC (by decide) (by decide) ?_))
 refine xi ?_
 simp only [List.map_append] at h
 exact h
end
section
open Go Go.Proofs
def hdm (a b:za) (k:Nat):za:=⟨if 0<k then ja a.x0 b.x0 else a.x0,if 1<k then ja a.x1 b.x1 else a.x1,if 2<k then ja a.x2 b.x2 else a.x2,if 3<k then ja a.x3 b.x3 else a.x3⟩
def rst (a b:za) (k:Nat):List zg:=xJ (xX a k) (xX b k) (top k)
def mt (a b:za) (k:Nat):List zg:=ja (xX a k) (xX b k)
def pcn (a b:za) (k:Nat):List za:=pc (rst a b k) (Y3 (hdm a b k) k (rst a b k))
def pcs (a b:za) (k:Nat):List za:=(List.range k).flatMap (pcn a b)
theorem Vv (a b:za) (k:Nat):pcs a b (k+1)=pcs a b k++pcn a b k:=by simp [pcs,List.range_succ]
theorem zj0 (a b:za):pcs a b 4=pc (xJ a.x0 b.x0 65535) ⟨xJ a.x0 b.x0 65535,a.x1,a.x2,a.x3⟩ ++
 pc (xJ a.x1 b.x1 65535) ⟨ja a.x0 b.x0,xJ a.x1 b.x1 65535,a.x2,a.x3⟩ ++
 pc (xJ a.x2 b.x2 255) ⟨ja a.x0 b.x0,ja a.x1 b.x1,xJ a.x2 b.x2 255,a.x3⟩ ++
 pc (xJ a.x3 b.x3 7) ⟨ja a.x0 b.x0,ja a.x1 b.x1,ja a.x2 b.x2,xJ a.x3 b.x3 7⟩:=by
 rw [Vv,Vv,Vv,Vv];rfl
theorem zjP {a b:za} (h:em4 (uL a b)=false):Yj a b=pcs a b 4:=by
 unfold Yj;rw [if_neg (by simp [h]),zj0]
theorem XU {k:Nat} (h:k<4):k=0∨k=1∨k=2∨k=3:=by omega
theorem zkB (a b:za) {k:Nat} (h:k<4):∀ c∈pcn a b k,c∈pcs a b 4:=fun c hc=>by
 unfold pcs;exact List.mem_flatMap.2 ⟨k,by simpa using h,hc⟩
theorem zkm (a b:za) {k:Nat} (h:k<4):Y3 (hdm a b k) k (mt a b k)=hdm a b (k+1):=by
 rcases XU h with rfl | rfl | rfl | rfl <;> rfl
theorem zma {a b:za} (ha:F4 a) {k:Nat} (h:k<4) {r:List zg}:F4 (Y3 (hdm a b k) k r)↔r.length≤40∧∀ j,j<k→(mt a b j).length≤40:=by
 obtain ⟨h0,h1,h2,h3⟩:=ha
 rcases XU h with rfl | rfl | rfl | rfl
 ·constructor
  ·intro q;exact ⟨q.1,fun j hj=>by omega⟩
  ·intro q;exact ⟨q.1,h1,h2,h3⟩
 ·constructor
  ·intro q
   refine ⟨q.2.1,fun j hj=>?_⟩
   have ej:j=0:=by omega
   subst ej
   exact q.1
  ·intro q;exact ⟨q.2 0 (by omega),q.1,h2,h3⟩
 ·constructor
  ·intro q
   refine ⟨q.2.2.1,fun j hj=>?_⟩
   obtain rfl | rfl:j=0∨j=1:=by omega
   ·exact q.1
   ·exact q.2.1
  ·intro q;exact ⟨q.2 0 (by omega),q.2 1 (by omega),q.1,h3⟩
 ·constructor
  ·intro q
   refine ⟨q.2.2.2,fun j hj=>?_⟩
   obtain rfl | rfl | rfl:j=0∨j=1∨j=2:=by omega
   ·exact q.1
   ·exact q.2.1
   ·exact q.2.2.1
  ·intro q;exact ⟨q.2 0 (by omega),q.2 1 (by omega),q.2 2 (by omega),q.1⟩
theorem zfs {σ:Type} {K:σ→Prop} {B:(σ→Prop)→Prop} (P:σ→Prop) (h1:∀ r,P r→K r) (h2:∀ K',(∀ r,P r→K' r)→B K'):jnW K B:=h2 K h1
def zeH (a b:za):List za×Bool:=if ∀ c∈Yj a b,F4 c then (Yj a b,true) else ([],false)
theorem zed {a b:za} (ha:B4 a) (hb:B4 b) (hf:F4 a) {κ:List za×Bool→Prop} (h:κ (zeH a b)):yh a b κ:=by
 have yes:(∀ c∈Yj a b,F4 c)→κ (zl9 (some (Yj a b))):=fun q=>by
  unfold zeH at h;rw [if_pos q] at h;exact h
 have no:(¬ ∀ c∈Yj a b,F4 c)→κ (zl9 none):=fun q=>by
  unfold zeH at h;rw [if_neg q] at h;exact h
 clear h
 unfold yh XA
 refine zex (zo (fun e=>?_) (fun e=>zfU ha hb (zo (fun e2=>?_) (fun e2=>?_))))
 ·have hc:Yj a b=[]:=by
   have:em4 (uL a b)=true:=by
    simp only [em4,decide_eq_true_eq,uL] at e ⊢
    rcases e with e | e | e | e <;> simp [e,ja]
   unfold Yj;rw [if_pos this,if_pos e]
  rw [hc] at yes;exact yes (by simp)
 ·have hc:Yj a b=[a]:=by
   unfold Yj;rw [if_pos (by simpa using e2),if_neg (by simp [e])]
  rw [hc] at yes
  refine jA (jo (by simp) ?_)
  exact yes (by simpa using hf)
 have e3:em4 (uL a b)=false:=by simpa using e2
 rw [zjP e3] at yes no
 clear e e2 e3
 refine z6 4 (fun s=>s.2.2.2) (fun k (s:List (List zg)×Option (List za)×Bool×Int)=>s.2.2.2=(k:Int)∧k≤4∧(∃ hd,s.1=L4 hd∧(s.2.2.1=true→hd=hdm a b k))∧(s.2.2.1=true↔∀ j,j<k→(mt a b j).length≤40)∧s.2.1=some (pcs a b k)∧∀ c∈pcs a b k,F4 c) (fun k s h=>h.1) (fun k s h=>h.2.1) ?_ ⟨rfl,by omega,⟨a,rfl,fun _=>rfl⟩,by simp,rfl,by simp [pcs]⟩
 rintro k ⟨xs,z,fits,_⟩ next ⟨rfl,hk,⟨hd,hxs,hfx⟩,hfit,hz,hpre⟩ hn
 simp only at hxs hfx hfit hz
 subst hxs hz
 refine zo (fun hc=>?_) (fun hc=>?_)
 rotate_left
 ·have hge:4≤(k:Int):=by simpa using hc
  obtain rfl:k=4:=by omega
  exact yes hpre
 have hlt:k<4:=by
  have:(k:Int)<4:=by simpa using hc
  omega
 have k0:(0:Int)≤k:=by omega
 have k3:(k:Int)≤3:=by omega
 have sa:=Yl ha k0 k3
 have sb:=Yl hb k0 k3
 have tl:=VS k
 have fin2:∀ (z':List za) (hd':za),z'=pcs a b (k+1)→(∀ c∈z',F4 c)→(fits=true→hd'=hdm a b k)→∀ l ok,(l,ok)=lim (mt a b k)→zH (L4 hd') k (fun e432=>ifW fits (js (k:Int) 1 (fun t505=>next ((L4 hd').set (k:Int).toNat l,some z',ok,t505))) (js (k:Int) 1 (fun t505=>next ((L4 hd').set (k:Int).toNat l,some z',false,t505)))):=by
  intro z' hd' hz' hF hh l ok hl
  subst hz'
  refine yF k0 k3 (zo (fun e=>?_) (fun e=>?_))
  ·refine zC (by omega) (by omega) (hn hlt _ ⟨by simp,by omega,⟨Y3 hd' k l,VJ k0 k3,fun q=>?_⟩,?_,rfl,hF⟩)
   ·simp only at q
    rw [hh e]
    unfold lim at hl
    split at hl
    ·injection hl with _ h2;rw [q] at h2;cases h2
    ·injection hl with h1 _;rw [h1,zkm a b hlt]
   ·simp only
    unfold lim at hl
    constructor
    ·intro q j hj
     by_cases ej:j=k
     ·subst ej
      split at hl
      ·injection hl with _ h2;rw [q] at h2;cases h2
      ·omega
     ·exact hfit.1 e j (by omega)
    ·intro q
     have:=q k (by omega)
     rw [if_neg (by omega)] at hl
     injection hl
  ·refine zC (by omega) (by omega) (hn hlt _ ⟨by simp,by omega,⟨Y3 hd' k l,VJ k0 k3,fun q=>by cases q⟩,?_,rfl,hF⟩)
   simp only
   constructor
   ·intro q;cases q
   ·intro q
    have:=hfit.2 (fun j hj=>q j (by omega))
    rw [this] at e;cases e
 have piece:rst a b k≠[]→Y3 (hdm a b k) k (rst a b k)∈pcs a b 4:=fun q=>zkB a b hlt _ (by unfold pcn pc;rw [if_neg q];simp)
 refine xQ (zfs (fun r=>r=lim (rst a b k)) ?_ ?_)
 rotate_left
 ·intro K hK
  have leaf:ul (xX a k) (xX b k) (top k) K:=zgW sa sb (by omega) (by omega) (hK _ rfl)
  refine ⟨yF k0 k3 ⟨?_,?_⟩,yF k0 k3 ⟨?_,?_⟩,ZH k0 k3 ⟨?_,?_⟩⟩
  ·exact yF k0 k3 (ZH k0 k3 leaf)
  ·exact ZH k0 k3 (yF k0 k3 leaf)
  ·exact yF k0 k3 (ZH k0 k3 leaf)
  ·exact ZH k0 k3 (yF k0 k3 leaf)
  ·exact yF k0 k3 (yF k0 k3 leaf)
  ·exact yF k0 k3 (yF k0 k3 leaf)
 rintro ⟨l,okl⟩ hl
 refine zfs (fun t=>t=(!okl || (decide (0<(l.length:Int)) && !fits))) ?_ ?_
 rotate_left
 ·intro K hK
  have hK:=hK _ rfl
  refine zo (fun e=>?_) (fun e=>?_)
  ·have:okl=false:=by simpa using e
   rw [this] at hK;simpa using hK
  ·have:okl=true:=by simpa using e
   rw [this] at hK
   refine zo (fun e=>?_) (fun e=>?_)
   ·rw [e] at hK;simpa using hK
   ·rw [e] at hK;simpa using hK
 rintro t rfl
 refine zo (fun e=>?_) (fun e=>?_)
 ·
  refine xi (no (fun q=>?_))
  unfold lim at hl
  split at hl
  ·rename_i h40
   have hne:rst a b k≠[]:=fun f=>by rw [f] at h40;simp at h40
   have:=((zma hf hlt).1 (q _ (piece hne))).1
   omega
  ·rename_i h40
   injection hl with h1 h2
   subst h1 h2
   have e':0<(rst a b k).length∧fits=false:=by simpa using e
   have hne:rst a b k≠[]:=fun f=>by rw [f] at e';simp at e'
   have:=hfit.2 ((zma hf hlt).1 (q _ (piece hne))).2
   rw [this] at e';simp at e'
 unfold lim at hl
 split at hl
 ·injection hl with h1 h2
  subst h1 h2
  simp at e
 rename_i h40
 injection hl with h1 h2
 subst h1 h2
 have e':rst a b k≠[]→fits=true:=fun q=>by
  cases fits with
  | true=>rfl
  | false =>
   have:0<(rst a b k).length:=List.length_pos_iff.2 q
   simp [this] at e
 clear e
 refine zfs (fun s=>s.1=some (pcs a b (k+1))∧(∀ c∈pcs a b (k+1),F4 c)∧∃ hd',s.2=L4 hd'∧(fits=true→hd'=hdm a b k)) ?_ ?_
 ·rintro ⟨z,ys⟩ ⟨hz,hF,hd',hy,hh⟩
  simp only at hz hy
  subst hz hy
  refine zfs (fun r=>r=lim (mt a b k)) ?_ ?_
  ·rintro ⟨m,okm⟩ hm
   exact fin2 _ hd' rfl hF hh m okm hm
  ·intro K hK
   have leaf:jS (xX a k) (xX b k) (top k) K:=Y0 sa sb (by omega) (by omega) (hK _ rfl)
   refine ⟨yF k0 k3 ⟨?_,?_⟩,yF k0 k3 ⟨?_,?_⟩,ZH k0 k3 ⟨?_,?_⟩⟩
   ·exact yF k0 k3 (ZH k0 k3 leaf)
   ·exact ZH k0 k3 (yF k0 k3 leaf)
   ·exact yF k0 k3 (ZH k0 k3 leaf)
   ·exact ZH k0 k3 (yF k0 k3 leaf)
   ·exact yF k0 k3 (yF k0 k3 leaf)
   ·exact yF k0 k3 (yF k0 k3 leaf)
 ·intro K hK
  refine zo (fun e=>?_) (fun e=>?_)
  ·have hne:rst a b k≠[]:=fun f=>by rw [f] at e;simp at e
   have hft:=e' hne
   have ed:=hfx hft
   subst ed
   have hpc:pcs a b (k+1)=pcs a b k++[Y3 (hdm a b k) k (rst a b k)]:=by
    rw [Vv];unfold pcn pc;rw [if_neg hne]
   refine ⟨_,_,_,_,rfl,yF (a:=hdm a b k) k0 k3 ⟨(Y3 (hdm a b k) k (rst a b k)).x0,(Y3 (hdm a b k) k (rst a b k)).x1,(Y3 (hdm a b k) k (rst a b k)).x2,(Y3 (hdm a b k) k (rst a b k)).x3,VJ (a:=hdm a b k) k0 k3,?_⟩⟩
   have hl1:(pcs a b k).length≤4:=by
    have h1:∀ n,(pcs a b n).length≤n:=by
     intro n
     induction n with
     | zero=>simp [pcs]
     | succ n ih =>
      have:=Vn (rst a b n) (Y3 (hdm a b n) n (rst a b n))
      rw [Vv,List.length_append];unfold pcn;omega
    have:=h1 k;omega
   refine jA (jo (by simp;omega) (xi (hK _ ⟨by rw [hpc],?_,hdm a b k,rfl,fun _=>rfl⟩)))
   intro c hc
   rw [hpc] at hc
   rcases List.mem_append.1 hc with q | q
   ·exact hpre c q
   ·have:c=Y3 (hdm a b k) k (rst a b k):=by simpa using q
    rw [this]
    exact (zma hf hlt).2 ⟨by omega,hfit.1 hft⟩
  ·have hnil:rst a b k=[]:=by
    cases hr:rst a b k with
    | nil=>rfl
    | cons x r=>rw [hr] at e;simp at e
   have hpc:pcs a b (k+1)=pcs a b k:=by
    rw [Vv];unfold pcn pc;rw [if_pos hnil];simp
   exact hK _ ⟨by rw [hpc],by rw [hpc];exact hpre,hd,rfl,hfx⟩
end
section
def pv (p:zI):Prop:=(0≤p.xFrom∧p.xFrom≤65535)∧(0≤p.xTo∧p.xTo≤65535)∧(0≤p.xPort∧p.xPort≤255)∧(0≤p.xProto∧p.xProto≤7)
instance (p:zI):Decidable (pv p):=by unfold pv;infer_instance
def tv (t:Int):Prop:=0≤t∧t≤1000000
instance (t:Int):Decidable (tv t):=by unfold tv;infer_instance
theorem zh8 {n:Int} (h0:0≤n) (h1:n<4) {κ:Int→Prop} (h:κ (if n≤1 then 65535 else if n=2 then 255 else 7)):jn n κ:=by
 unfold jn jnW
 refine zo (fun hc=>by simp at hc;omega) (fun _=>zo (fun hc=>by simp at hc;omega) (fun _=>?_))
 have:n=0∨n=1∨n=2∨n=3:=by omega
 rcases this with rfl | rfl | rfl | rfl
 ·exact zp 0 rfl (by simp [zB]) (by simpa [zB] using h)
 ·exact zp 1 rfl (by simp [zB]) (by simpa [zB] using h)
 ·exact zp 2 rfl (by simp [zB]) (by simpa [zB] using h)
 ·exact zp 3 rfl (by simp [zB]) (by simpa [zB] using h)
def ZM (p:zI):Nat→Int
 | 0=>p.xFrom
 | 1=>p.xTo
 | 2=>p.xPort
 | _=>p.xProto
def zk3:Nat→Int
 | 0=>65535
 | 1=>65535
 | 2=>255
 | _=>7
theorem zjv (p:zI):pv p↔∀ i,i<4→0≤ZM p i∧ZM p i≤zk3 i:=by
 unfold pv
 constructor
 ·rintro ⟨h0,h1,h2,h3⟩ i hi
  match i,hi with
  | 0,_=>exact h0
  | 1,_=>exact h1
  | 2,_=>exact h2
  | 3,_=>exact h3
 ·intro h
  exact ⟨h 0 (by omega),h 1 (by omega),h 2 (by omega),h 3 (by omega)⟩
theorem zbF {p:zI} {κ:Bool→Prop} (h:κ (decide (pv p))):yY p κ:=by
 unfold yY ux
 refine z6 4 (fun s=>s) (fun k s=>s=(k:Int)∧k≤4∧∀ i,i<k→0≤ZM p i∧ZM p i≤zk3 i) (fun k s h=>h.1) (fun k s h=>h.2.1) ?_ ⟨rfl,by omega,fun i hi=>by omega⟩
 rintro k _ next ⟨rfl,hk,hi⟩ hn
 refine zo (fun hlt=>?_) (fun hge=>?_)
 ·have hlt:k<4:=by simp at hlt;omega
  have hno:¬ (0≤ZM p k∧ZM p k≤zk3 k)→κ false:=fun hno=>by
   rw [decide_eq_false (fun hv=>hno ((zjv p).1 hv k hlt))] at h
   exact h
  refine zp k rfl (by simpa using hlt) ?_
  have e:([p.xFrom,p.xTo,p.xPort,p.xProto]:List Int)[k]'(by simpa using hlt)=ZM p k:=by
   match k,hlt with
   | 0,_=>rfl
   | 1,_=>rfl
   | 2,_=>rfl
   | 3,_=>rfl
  simp only [e]
  unfold jnW
  refine zo (fun hc=>?_) (fun hc=>zh8 (by omega) (by omega) ?_)
  ·simp only [UU];exact hno (by simp at hc;omega)
  ·have et:(if (k:Int)≤1 then (65535:Int) else if (k:Int)=2 then 255 else 7)=zk3 k:=by
    match k,hlt with
    | 0,_=>rfl
    | 1,_=>rfl
    | 2,_=>rfl
    | 3,_=>rfl
   rw [et]
   refine zo (fun h2=>hno (by simp at h2;omega)) (fun h2=>zC (by omega) (by omega) (hn hlt _ ⟨by simp,by omega,fun i hi'=>?_⟩))
   by_cases e:i=k
   ·subst e;simp at hc h2;exact ⟨hc,h2⟩
   ·exact hi i (by omega)
 ·have:k=4:=by simp at hge;omega
  subst this
  rw [decide_eq_true ((zjv p).2 hi)] at h
  exact h
def lv (t:Int):Prop:=0≤t∧t≤1000
instance (t:Int):Decidable (lv t):=by unfold lv;infer_instance
end
section
open Go Go.Proofs
def BV (b:ji):Prop:=∃ a,b=bx a∧B4 a∧F4 a
noncomputable instance (b:ji):Decidable (BV b):=Classical.propDecidable _
def sd (b:ji):za:=match b.xSides with | [x0,x1,x2,x3]=>⟨x0,x1,x2,x3⟩ | _=>zda
theorem BV.eq {b:ji} (h:BV b):b=bx (sd b):=by obtain ⟨a,rfl,_⟩:=h;rfl
theorem BV.b4 {b:ji} (h:BV b):B4 (sd b):=by obtain ⟨a,rfl,h,_⟩:=h;exact h
theorem BV.f4 {b:ji} (h:BV b):F4 (sd b):=by obtain ⟨a,rfl,_,h⟩:=h;exact h
theorem zeW {a:za}:BV (bx a)↔B4 a∧F4 a:=⟨fun h=>⟨h.b4,h.f4⟩,fun h=>⟨a,rfl,h⟩⟩
theorem zd2 {b:ji} (h:BV b):b.xSides.length=4:=by obtain ⟨a,rfl,_⟩:=h;rfl
theorem zm0 {α:Type} {l:List α} (h:l.length=4):∃ a b c d,l=[a,b,c,d]:=by
 match l,h with
 | [a,b,c,d],_=>exact ⟨a,b,c,d,rfl⟩
theorem zmo {b:ji} (h:b.xSides.length=4):b=bx (sd b):=by
 obtain ⟨x0,x1,x2,x3,e⟩:=zm0 h
 obtain ⟨s⟩:=b
 simp only at e
 subst e
 rfl
theorem zgw {a:za}:BV (bx a)↔∀ n:Nat,n<4→SpV (xX a n) (top n):=by
 rw [zeW]
 constructor
 ·rintro ⟨⟨b0,b1,b2,b3⟩,f0,f1,f2,f3⟩ n hn
  rcases XU hn with rfl | rfl | rfl | rfl
  ·exact ⟨f0,b0⟩
  ·exact ⟨f1,b1⟩
  ·exact ⟨f2,b2⟩
  ·exact ⟨f3,b3⟩
 ·intro h
  obtain ⟨f0,b0⟩:=h 0 (by decide)
  obtain ⟨f1,b1⟩:=h 1 (by decide)
  obtain ⟨f2,b2⟩:=h 2 (by decide)
  obtain ⟨f3,b3⟩:=h 3 (by decide)
  exact ⟨⟨b0,b1,b2,b3⟩,f0,f1,f2,f3⟩
def Bb (b:ji):Prop:=b.xSides.length≤4294967296∧∀ x∈b.xSides,x.length≤4294967296
def Fb (l:List zV):Prop:=l.length≤4294967296∧∀ f∈l,Bb f.xWhere
theorem BV.bb {b:ji} (h:BV b):Bb b:=by
 obtain ⟨a,rfl,_,f0,f1,f2,f3⟩:=h
 refine ⟨by simp [bx],fun x hx=>?_⟩
 simp only [bx,List.mem_cons,List.not_mem_nil,or_false] at hx
 rcases hx with rfl | rfl | rfl | rfl <;> omega
theorem zgS (a:za) {n:Nat} (h:n<4):xX a n∈(bx a).xSides:=by
 rcases XU h with rfl | rfl | rfl | rfl <;> simp [xX,bx]
theorem zdH {b:ji} (hb:Bb b) {κ:Bool→Prop} (h:κ (decide (BV b))):YJ b κ:=by
 unfold YJ
 have h1:=hb.1
 refine zo (fun e=>?_) (fun e=>?_)
 ·have e':¬ b.xSides.length=4:=fun q=>by rw [q] at e;simp at e
  rw [decide_eq_false (fun q=>e' (zd2 q))] at h;exact h
 have e4:b.xSides.length=4:=by
  have:(b.xSides.length:Int)=4:=by simpa using e
  omega
 obtain ⟨a,rfl⟩:∃ a,b=bx a:=⟨_,zmo e4⟩
 clear e e4
 refine z6 4 (fun s=>s) (fun k s=>s=(k:Int)∧k≤4∧∀ n:Nat,n<k→SpV (xX a n) (top n)) (fun k s h=>h.1) (fun k s h=>h.2.1) ?_ ⟨rfl,by omega,fun n h=>by omega⟩
 rintro k _ next ⟨rfl,hk,hv⟩ hn
 refine zo (fun hc=>?_) (fun hc=>?_)
 ·have hlt:k<4:=by
   have:(k:Int)<4:=by simpa [bx] using hc
   omega
  have k0:(0:Int)≤k:=by omega
  have k3:(k:Int)≤3:=by omega
  have tl:=VS k
  refine yF k0 k3 (ZH k0 k3 (zch (by have:=hb.2 _ (zgS a hlt);omega) (by omega) (by omega) (zo (fun e=>?_) (fun e=>?_))))
  ·have:¬ SpV (xX a k) (top k):=by simpa using e
   rw [decide_eq_false (fun q=>this (zgw.1 q k hlt))] at h;exact h
  ·have:SpV (xX a k) (top k):=by simpa using e
   refine zC (by omega) (by omega) (hn hlt _ ⟨by simp,by omega,fun n hnk=>?_⟩)
   by_cases q:n=k
   ·subst q;exact this
   ·exact hv n (by omega)
 ·have hge:k=4:=by
   have:(4:Int)≤k:=by simpa [bx] using hc
   omega
  subst hge
  rw [decide_eq_true (zgw.2 hv)] at h;exact h
theorem Zr {b:ji} (hb:Bb b) {κ:Bool→Prop} (h:κ (decide (BV b))):uR b κ:=by
 unfold uR
 have h1:=hb.1
 refine z6 b.xSides.length (fun s=>s) (fun k s=>s=(k:Int)∧k≤b.xSides.length∧k≤4∧∀ n:Nat,n<k→∀ q:n<b.xSides.length,SpV (b.xSides[n]) (top n)) (fun k s h=>h.1) (fun k s h=>h.2.1) ?_ ⟨rfl,by omega,by omega,fun n h=>by omega⟩
 rintro k _ next ⟨rfl,hk,hk4,hv⟩ hn
 refine zo (fun hc=>?_) (fun hc=>?_)
 ·have hlt:k<b.xSides.length:=by simpa using hc
  refine xQ (zo (fun e=>?_) (fun e=>?_))
  ·have e':4≤k:=by
    have:(4:Int)≤k:=by simpa using e
    omega
   rw [decide_eq_false (fun q=>by have:=zd2 q;omega)] at h
   exact jA h
  have e':k<4:=by
   have:¬ (4:Int)≤k:=by simpa using e
   omega
  have k0:(0:Int)≤k:=by omega
  have k3:(k:Int)≤3:=by omega
  have tl:=VS k
  refine zp k rfl hlt (xO k0 k3 (Uc (hb.2 _ (List.getElem_mem hlt)) (by omega) (by omega) (zo (fun e=>?_) (fun e=>?_))))
  ·have no:¬ SpV (b.xSides[k]) (top k):=by simpa using e
   rw [decide_eq_false (fun q=>no ?_)] at h
   ·exact h
   ·obtain ⟨a,rfl,_⟩:=id q
    have:=zgw.1 q k e'
    have e2:(bx a).xSides[k]=xX a k:=by rcases XU e' with rfl | rfl | rfl | rfl <;> rfl
    rw [e2];exact this
  ·have yes:SpV (b.xSides[k]) (top k):=by simpa using e
   refine zC (by omega) (by omega) (hn hlt _ ⟨by simp,by omega,by omega,fun n hnk q=>?_⟩)
   by_cases e:n=k
   ·subst e;exact yes
   ·exact hv n (by omega) q
 ·have hge:b.xSides.length=k:=by
   have:b.xSides.length≤k:=by simpa using hc
   omega
  have:decide (BV b)=decide ((b.xSides.length:Int)=4):=decide_eq_decide.2 ⟨fun q=>by have:=zd2 q;omega,fun q=>by
   have e4:b.xSides.length=4:=by omega
   obtain ⟨a,rfl⟩:∃ a,b=bx a:=⟨_,zmo e4⟩
   refine zgw.2 (fun n hn4=>?_)
   have:=hv n (by omega) (by simpa [bx] using hn4)
   have e2:(bx a).xSides[n]'(by simpa [bx] using hn4)=xX a n:=by rcases XU hn4 with rfl | rfl | rfl | rfl <;> rfl
   rw [e2] at this;exact this⟩
  rw [this] at h;exact h
def FV (l:List zV):Prop:=l.length≤60∧∀ f∈l,BV f.xWhere
noncomputable instance (l:List zV):Decidable (FV l):=Classical.propDecidable _
theorem FV.fb {l:List zV} (h:FV l):Fb l:=⟨by have:=h.1;omega,fun f hf=>(h.2 f hf).bb⟩
theorem VB {l:List zV} (hl:Fb l) {κ:Bool→Prop} (h:κ (decide (FV l))):Zw l κ:=by
 unfold Zw
 have h1:=hl.1
 refine zo (fun e=>?_) (fun e=>?_)
 ·rw [decide_eq_false (fun q=>by have:=q.1;simp at e;omega)] at h;exact h
 have h60:l.length≤60:=by simp at e;omega
 refine z6 l.length (fun s=>s) (fun k s=>s=(k:Int)∧k≤l.length∧∀ f∈l.take k,BV f.xWhere) (fun k s h=>h.1) (fun k s h=>h.2.1) ?_ ⟨rfl,by omega,by simp⟩
 rintro k _ next ⟨rfl,hk,hv⟩ hn
 refine zo (fun hc=>?_) (fun hc=>?_)
 ·have hlt:k<l.length:=by simpa using hc
  refine zp k rfl hlt (zdH (hl.2 _ (List.getElem_mem hlt)) (zo (fun e=>?_) (fun e=>?_)))
  ·have:¬ BV (l[k].xWhere):=by simpa using e
   rw [decide_eq_false (fun q=>this (q.2 _ (List.getElem_mem hlt)))] at h;exact h
  ·have:BV (l[k].xWhere):=by simpa using e
   refine zC (by omega) (by omega) (hn hlt _ ⟨by simp,by omega,fun f hf=>?_⟩)
   rw [List.take_succ_eq_append_getElem hlt] at hf
   rcases List.mem_append.1 hf with q | q
   ·exact hv f q
   ·simp only [List.mem_singleton] at q;rw [q];exact this
 ·have hge:l.length≤k:=by simpa using hc
  rw [List.take_of_length_le hge] at hv
  rw [decide_eq_true (show FV l from ⟨h60,hv⟩)] at h;exact h
theorem Zz {l:List zV} (hl:Fb l) {κ:Bool→Prop} (h:κ (decide (FV l))):uJ l κ:=by
 unfold uJ
 have h1:=hl.1
 refine z6 l.length (fun s=>s) (fun k s=>s=(k:Int)∧k≤l.length∧∀ f∈l.take k,BV f.xWhere) (fun k s h=>h.1) (fun k s h=>h.2.1) ?_ ⟨rfl,by omega,by simp⟩
 rintro k _ next ⟨rfl,hk,hv⟩ hn
 refine zo (fun hc=>?_) (fun hc=>?_)
 ·have hlt:k<l.length:=by simpa using hc
  refine zp k rfl hlt (Zr (hl.2 _ (List.getElem_mem hlt)) (zo (fun e=>?_) (fun e=>?_)))
  ·have:¬ BV (l[k].xWhere):=by simpa using e
   rw [decide_eq_false (fun q=>this (q.2 _ (List.getElem_mem hlt)))] at h;exact h
  ·have:BV (l[k].xWhere):=by simpa using e
   refine zC (by omega) (by omega) (hn hlt _ ⟨by simp,by omega,fun f hf=>?_⟩)
   rw [List.take_succ_eq_append_getElem hlt] at hf
   rcases List.mem_append.1 hf with q | q
   ·exact hv f q
   ·simp only [List.mem_singleton] at q;rw [q];exact this
 ·have hge:l.length≤k:=by simpa using hc
  rw [List.take_of_length_le hge] at hv
  rw [show decide (FV l)=decide ((l.length:Int)≤60) from decide_eq_decide.2 ⟨fun q=>by have:=q.1;omega,fun q=>⟨by omega,hv⟩⟩] at h;exact h
theorem zi3 {b:ji} (hb:b.xSides.length=4) {κ:za→Prop} (h:κ (sd b)):Y6 b κ:=by
 have e:=zmo hb
 rw [e] at h ⊢
 exact ⟨_,_,_,_,[],rfl,h⟩
def fl (f:zV):zn:=⟨sd f.xWhere,f.xAccept⟩
theorem YV {α β:Type} (a:List α) (f:α→β) (hl:a.length≤4294967296) {κ:List β→Prop} (T:α→(β→Prop)→Prop) (hT:∀ x ψ,x∈a→ψ (f x)→T x ψ) (hκ:κ (a.map f))
  (F:(List β×Int→Prop)→List β×Int→Prop)
  (hF:∀ nx xs t,(ifW (decide (t<(a.length:Int))) (zH a t (fun e=>T e (fun r=>xm xs [r] (fun _=>js t 1 (fun u=>nx (xs++[r],u)))))) (κ xs))→F nx (xs,t)):jt F ([],0):=by
 refine z6 a.length (fun s=>s.2) (fun k s=>s.2=(k:Int)∧k≤a.length∧s.1=(a.take k).map f) (fun k s h=>h.1) (fun k s h=>h.2.1) ?_ ⟨rfl,Nat.zero_le _,by simp⟩
 rintro k ⟨ys,t⟩ next ⟨rfl,hk,hy⟩ hn
 simp only at hy
 subst hy
 refine hF _ _ _ (zo (fun hc=>?_) (fun hc=>?_))
 ·have hlt:k<a.length:=by simpa using hc
  refine zp k rfl hlt (hT _ _ (List.getElem_mem hlt) (jo (by simp;omega) (zC (by omega) (by omega) (hn hlt _ ⟨by simp,by omega,?_⟩))))
  rw [List.take_succ_eq_append_getElem hlt,List.map_append];rfl
 ·have hge:a.length≤k:=by simpa using hc
  rw [List.take_of_length_le hge];exact hκ
theorem zfN {l:List zV} (hl:l.length≤4294967296) (h4:∀ f∈l,f.xWhere.xSides.length=4) {κ:List zn→Prop} (h:κ (l.map fl)):X7 l κ:=by
 unfold X7
 refine UX 0 rfl (by omega) (by omega) ?_
 exact YV l fl hl (fun x ψ=>Y6 x.xWhere (fun r=>ψ (zn.mk r x.xAccept))) (fun x ψ hx hψ=>zi3 (h4 x hx) hψ) h _ (fun nx xs t hh=>hh)
theorem zhx {l:List zn} (hl:l.length≤4294967296) {κ:List za→Prop} (h:κ (l.map (·.xWhere))):YE l κ:=by
 unfold YE
 refine UX 0 rfl (by omega) (by omega) ?_
 exact YV l (·.xWhere) hl (fun x ψ=>ψ x.xWhere) (fun x ψ hx hψ=>hψ) h _ (fun nx xs t hh=>hh)
theorem zlF {a:za} (hl:∀ x∈L4 a,x.length≤4294967296) {κ:ji→Prop} (h:κ (bx a)):yi a κ:=by
 unfold yi
 refine UX 4 rfl (by decide) (by decide) ?_
 obtain ⟨x0,x1,x2,x3⟩:=a
 have l0:=hl x0 (by simp [L4])
 have l1:=hl x1 (by simp [L4])
 have l2:=hl x2 (by simp [L4])
 have l3:=hl x3 (by simp [L4])
 refine ⟨5,?_⟩
 refine jA (zp 0 rfl (by simp) (jo (by simpa using l0) (zp 0 rfl (by simp) (zC (by decide) (by decide) ?_))))
 refine jA (zp 1 rfl (by simp) (jo (by simpa using l1) (zp 1 rfl (by simp) (zC (by decide) (by decide) ?_))))
 refine jA (zp 2 rfl (by simp) (jo (by simpa using l2) (zp 2 rfl (by simp) (zC (by decide) (by decide) ?_))))
 refine jA (zp 3 rfl (by simp) (jo (by simpa using l3) (zp 3 rfl (by simp) (zC (by decide) (by decide) ?_))))
 exact xi h
theorem zjh {l:List za} (hl:l.length≤4294967296) (h4:∀ a∈l,∀ x∈L4 a,x.length≤4294967296) {κ:List ji→Prop} (h:κ (l.map bx)):Un l κ:=by
 unfold Un
 refine UX 0 rfl (by omega) (by omega) ?_
 exact YV l bx hl (fun x ψ=>yi x ψ) (fun x ψ hx hψ=>zlF (h4 x hx) hψ) h _ (fun nx xs t hh=>hh)
theorem zkh {a:za} (h:F4 a):∀ x∈L4 a,x.length≤4294967296:=fun x hx=>by
 obtain ⟨f0,f1,f2,f3⟩:=h
 simp only [L4,List.mem_cons,List.not_mem_nil,or_false] at hx
 rcases hx with rfl | rfl | rfl | rfl <;> omega
theorem zc5 {l:List zV} (hl:Fb l) {κ:List ji→Prop} (h1:FV l→κ (l.map (·.xWhere))) (h2:¬ FV l→κ []):Yc l κ:=by
 unfold Yc
 refine VB hl (zo (fun e=>h2 (by simpa using e)) (fun e=>?_))
 have hv:FV l:=by simpa using e
 have:=hl.1
 refine zfN hl.1 (fun f hf=>zd2 (hv.2 f hf)) (zhx (by simpa using hl.1) (zjh (by simpa using hl.1) (fun a ha=>?_) ?_))
 ·simp only [List.map_map,List.mem_map,Function.comp] at ha
  obtain ⟨f,hf,rfl⟩:=ha
  exact zkh (hv.2 f hf).f4
 ·have e:((l.map fl).map (·.xWhere)).map bx=l.map (·.xWhere):=by
   simp only [List.map_map]
   refine List.map_congr_left (fun f hf=>?_)
   exact ((hv.2 f hf).eq).symm
  rw [e];exact h1 hv
theorem zbN {b:ji} (hb:Bb b) {κ:ji→Prop} (h:κ b):Xm b κ:=yx hb.1 hb.2 h
theorem zho {f:zV} (hb:Bb f.xWhere) {κ:zV→Prop} (h:κ f):Yp f κ:=zbN hb h
theorem Xk {l:List zV} (hl:Fb l) {κ:List zV→Prop} (h:κ l):ub l κ:=by
 unfold ub
 exact YV l id hl.1 (fun x ψ=>Yp x ψ) (fun x ψ hx hψ=>zho (hl.2 x hx) hψ) (by simpa using h) _ (fun nx xs t hh=>hh)
def hb4 (a:za) (p:zI):Prop:=hv a.x0 p.xFrom∧hv a.x1 p.xTo∧hv a.x2 p.xPort∧hv a.x3 p.xProto
instance (a:za) (p:zI):Decidable (hb4 a p):=by unfold hb4;infer_instance
theorem zam (a:za) (p:zI):hb4 a p↔∀ n:Nat,n<4→hv (xX a n) (ZM p n):=by
 constructor
 ·rintro ⟨h0,h1,h2,h3⟩ n hn
  rcases XU hn with rfl | rfl | rfl | rfl
  ·exact h0
  ·exact h1
  ·exact h2
  ·exact h3
 ·intro h
  exact ⟨h 0 (by decide),h 1 (by decide),h 2 (by decide),h 3 (by decide)⟩
theorem zkt (p:zI) {n:Nat} (h:n<4) {κ:Int→Prop} (hk:κ (ZM p n)):zH [p.xFrom,p.xTo,p.xPort,p.xProto] (n:Int) κ:=by
 rcases XU h with rfl | rfl | rfl | rfl
 ·exact zp 0 rfl (by simp) hk
 ·exact zp 1 rfl (by simp) hk
 ·exact zp 2 rfl (by simp) hk
 ·exact zp 3 rfl (by simp) hk
theorem zna {a:za} {p:zI} (hl:∀ x∈L4 a,x.length≤4294967296) {κ:Bool→Prop} (h:κ (decide (hb4 a p))):Yn a p κ:=by
 unfold Yn ux
 refine z6 4 (fun s=>s) (fun k s=>s=(k:Int)∧k≤4∧∀ n:Nat,n<k→hv (xX a n) (ZM p n)) (fun k s h=>h.1) (fun k s h=>h.2.1) ?_ ⟨rfl,by omega,fun n h=>by omega⟩
 rintro k _ next ⟨rfl,hk,hw⟩ hn
 refine zo (fun hc=>?_) (fun hc=>?_)
 ·have hlt:k<4:=by
   have:(k:Int)<4:=by simpa using hc
   omega
  have k0:(0:Int)≤k:=by omega
  have k3:(k:Int)≤3:=by omega
  refine zkt p hlt (yF k0 k3 (zdh (hl _ (zgS a hlt)) (zo (fun e=>?_) (fun e=>?_))))
  ·have:¬ hv (xX a k) (ZM p k):=by simpa using e
   rw [decide_eq_false (fun q=>this ((zam a p).1 q k hlt))] at h;exact h
  ·have:hv (xX a k) (ZM p k):=by simpa using e
   refine zC (by omega) (by omega) (hn hlt _ ⟨by simp,by omega,fun n hnk=>?_⟩)
   by_cases q:n=k
   ·subst q;exact this
   ·exact hw n (by omega)
 ·have hge:k=4:=by
   have:(4:Int)≤k:=by simpa using hc
   omega
  subst hge
  rw [decide_eq_true ((zam a p).2 hw)] at h;exact h
end
section
open Go Go.Proofs
def VT (l:List za):Prop:=∀ c∈l,F4 c
instance (l:List za):Decidable (VT l):=by unfold VT;infer_instance
def aB (l:List za):Prop:=∀ c∈l,B4 c
theorem ze7:VT []:=fun c h=>by simp at h
theorem zfX:aB []:=fun c h=>by simp at h
theorem yA {l m:List za}:VT (l++m)↔VT l∧VT m:=by
 unfold VT
 simp only [List.mem_append]
 exact ⟨fun h=>⟨fun c hc=>h c (.inl hc),fun c hc=>h c (.inr hc)⟩,fun h c hc=>hc.elim (h.1 c) (h.2 c)⟩
theorem YW {l m:List za}:aB (l++m)↔aB l∧aB m:=by
 unfold aB
 simp only [List.mem_append]
 exact ⟨fun h=>⟨fun c hc=>h c (.inl hc),fun c hc=>h c (.inr hc)⟩,fun h c hc=>hc.elim (h.1 c) (h.2 c)⟩
def xR (left:List za) (b:za):List za:=left.flatMap (fun c=>Yj c b)
def okR (l:List za):Prop:=VT l∧l.length≤400
instance (l:List za):Decidable (okR l):=by unfold okR;infer_instance
def lgo:List za→List za→Option (List za)
 | left,[]=>some left
 | left,b :: bs=>if okR (xR left b) then lgo (xR left b) bs else none
def zad (a:za) (bs:List za):Option (List za):=if em4 a then some [] else lgo [a] bs
def znc:Option (List za)→List za×Bool
 | some l=>(l,true)
 | none=>([],false)
theorem zgQ:∀ (bs:List za),lgo [] bs=some []
 | []=>rfl
 | b :: bs=>by
  have e:xR [] b=[]:=rfl
  unfold lgo
  rw [e,if_pos ⟨ze7,by simp⟩]
  exact zgQ bs
theorem Xr (l m:List za) (b:za):xR (l++m) b=xR l b++xR m b:=by simp [xR]
theorem Y1 (c b:za):xR [c] b=Yj c b:=by simp [xR]
theorem VG {left:List za} {b:za} (hl:aB left) (hb:B4 b):aB (xR left b):=fun c hc=>by
 obtain ⟨d,hd,hc⟩:=List.mem_flatMap.1 hc
 exact zkx (hl d hd) hb c hc
def hbs (l:List za) (p:zI):Prop:=∃ c∈l,hb4 c p
instance (l:List za) (p:zI):Decidable (hbs l p):=by unfold hbs;infer_instance
theorem VK (p:zI):¬ hbs [] p:=by simp [hbs]
theorem Yg (l m:List za) (p:zI):hbs (l++m) p↔hbs l p∨hbs m p:=by
 unfold hbs
 simp only [List.mem_append]
 constructor
 ·rintro ⟨c,h | h,k⟩
  ·exact .inl ⟨c,h,k⟩
  ·exact .inr ⟨c,h,k⟩
 ·rintro (⟨c,h,k⟩ | ⟨c,h,k⟩)
  ·exact ⟨c,.inl h,k⟩
  ·exact ⟨c,.inr h,k⟩
theorem zan (c:za) (p:zI):hbs [c] p↔hb4 c p:=by simp [hbs]
theorem Vt {a b:List zg} {t x:Int} (ha:St a t) (hb:St b t):hv (xJ a b t) x↔hv a x∧¬ hv b x:=by
 unfold xJ
 rw [XT,zc4 hb]
 exact ⟨fun h=>⟨h.1,h.2.2.2⟩,fun h=>⟨h.1,(Z4 ha h.1).1,(Z4 ha h.1).2,h.2⟩⟩
theorem zcb (a b:za) (p:zI):hb4 (uL a b) p↔hb4 a p∧hb4 b p:=by
 unfold hb4 uL
 simp only [XT]
 exact ⟨fun ⟨⟨a0,b0⟩,⟨a1,b1⟩,⟨a2,b2⟩,a3,b3⟩=>⟨⟨a0,a1,a2,a3⟩,b0,b1,b2,b3⟩,fun ⟨⟨a0,a1,a2,a3⟩,b0,b1,b2,b3⟩=>⟨⟨a0,b0⟩,⟨a1,b1⟩,⟨a2,b2⟩,a3,b3⟩⟩
theorem zgG {a:za} (h:em4 a=true) (p:zI):¬ hb4 a p:=by
 rintro ⟨h0,h1,h2,h3⟩
 simp only [em4,decide_eq_true_eq] at h
 rcases h with e | e | e | e
 ·rw [e] at h0;exact uN _ h0
 ·rw [e] at h1;exact uN _ h1
 ·rw [e] at h2;exact uN _ h2
 ·rw [e] at h3;exact uN _ h3
theorem zf4 {r:List zg} {c:za} {p:zI} (h:r=[]→¬ hb4 c p):hbs (pc r c) p↔hb4 c p:=by
 unfold pc
 split
 ·rename_i e;exact ⟨fun q=>absurd q (VK p),fun q=>absurd q (h e)⟩
 ·exact zan c p
theorem zge {a b:za} (ha:B4 a) (hb:B4 b) (p:zI):hbs (Yj a b) p↔hb4 a p∧¬ hb4 b p:=by
 unfold Yj
 split
 ·rename_i e
  have no:=zgG e p
  rw [zcb] at no
  split
  ·rename_i e2;exact ⟨fun q=>absurd q (VK p),fun q=>absurd q.1 (zgG e2 p)⟩
  ·rw [zan];exact ⟨fun q=>⟨q,fun r=>no ⟨q,r⟩⟩,fun q=>q.1⟩
 ·obtain ⟨p0,p1,p2,p3⟩:=ha
  obtain ⟨q0,q1,q2,q3⟩:=hb
  rw [Yg,Yg,Yg]
  rw [zf4 (fun e q=>uN _ (e ▸ q.1)),zf4 (fun e q=>uN _ (e ▸ q.2.1)),zf4 (fun e q=>uN _ (e ▸ q.2.2.1)),zf4 (fun e q=>uN _ (e ▸ q.2.2.2))]
  simp only [hb4,XT,Vt p0 q0,Vt p1 q1,Vt p2 q2,Vt p3 q3]
  by_cases c0:hv b.x0 p.xFrom <;> by_cases c1:hv b.x1 p.xTo <;> by_cases c2:hv b.x2 p.xPort <;> by_cases c3:hv b.x3 p.xProto <;> simp only [c0,c1,c2,c3,not_true,not_false_eq_true,and_true,and_false,true_and,false_and,or_false,false_or,iff_self,and_self,or_self]
theorem zhA {left:List za} {b:za} (hl:aB left) (hb:B4 b) (p:zI):hbs (xR left b) p↔hbs left p∧¬ hb4 b p:=by
 constructor
 ·rintro ⟨c,hc,k⟩
  obtain ⟨d,hd,hc⟩:=List.mem_flatMap.1 hc
  have:=(zge (hl d hd) hb p).1 ⟨c,hc,k⟩
  exact ⟨⟨d,hd,this.1⟩,this.2⟩
 ·rintro ⟨⟨d,hd,k⟩,hn⟩
  obtain ⟨c,hc,k⟩:=(zge (hl d hd) hb p).2 ⟨k,hn⟩
  exact ⟨c,List.mem_flatMap.2 ⟨d,hd,hc⟩,k⟩
theorem zj5:∀ {bs left r:List za},aB left→aB bs→lgo left bs=some r→∀ p,hbs r p↔hbs left p∧¬ hbs bs p
 | [],left,r,hl,hb,h,p=>by
  simp only [lgo,Option.some.injEq] at h;rw [← h]
  exact ⟨fun q=>⟨q,VK p⟩,fun q=>q.1⟩
 | b :: bs,left,r,hl,hb,h,p=>by
  unfold lgo at h
  split at h
  ·have hb0:=hb b (by simp)
   rw [zj5 (VG hl hb0) (fun c hc=>hb c (by simp [hc])) h p,zhA hl hb0]
   have e:hbs (b :: bs) p↔hb4 b p∨hbs bs p:=by
    have:=Yg [b] bs p
    rw [zan] at this
    exact this
   rw [e]
   exact ⟨fun q=>⟨q.1.1,fun r=>r.elim q.1.2 q.2⟩,fun q=>⟨⟨q.1,fun r=>q.2 (.inl r)⟩,fun r=>q.2 (.inr r)⟩⟩
  ·cases h
theorem zjZ {a:za} {bs r:List za} (ha:B4 a) (hb:aB bs) (h:zad a bs=some r) (p:zI):hbs r p↔hb4 a p∧¬ hbs bs p:=by
 unfold zad at h
 split at h
 ·rename_i e
  injection h with h;subst h
  exact ⟨fun q=>absurd q (VK p),fun q=>absurd q.1 (zgG e p)⟩
 ·rw [zj5 (fun c hc=>by simp only [List.mem_singleton] at hc;subst hc;exact ha) hb h p,zan]
theorem zgY {a:za} {bs:List za} (ha:B4 a) (hf:F4 a) (hb:aB bs) (hl:bs.length≤4294967296) {κ:List za×Bool→Prop} (h:κ (znc (zad a bs))):yr a bs κ:=by
 unfold yr
 refine zex (zo (fun e=>?_) (fun e=>?_))
 ·unfold zad at h;rw [if_pos e] at h;exact h
 unfold zad at h;rw [if_neg (by simp [e])] at h
 refine xQ ?_
 refine z6 bs.length (fun s=>s.2) (fun k (s:List za×Int)=>s.2=(k:Int)∧k≤bs.length∧aB s.1∧okR s.1∧lgo [a] bs=lgo s.1 (bs.drop k)) (fun k s h=>h.1) (fun k s h=>h.2.1) ?_ ⟨rfl,by omega,fun c hc=>by simp only [List.mem_singleton] at hc;subst hc;exact ha,⟨fun c hc=>by simp only [List.mem_singleton] at hc;subst hc;exact hf,by simp⟩,rfl⟩
 rintro k ⟨left,_⟩ next ⟨rfl,hk,hB,hO,he⟩ hn
 simp only at hB hO he
 refine zo (fun hc=>?_) (fun hc=>?_)
 rotate_left
 ·have hge:bs.length≤k:=by simpa using hc
  rw [he,List.drop_of_length_le hge] at h
  exact h
 have hlt:k<bs.length:=by simpa using hc
 rw [List.drop_eq_getElem_cons hlt] at he
 have hbk:=hb _ (List.getElem_mem hlt)
 have no:¬ okR (xR left bs[k])→κ ([],false):=fun q=>by
  rw [he] at h;unfold lgo at h;rw [if_neg q] at h;exact h
 refine zp k rfl hlt ?_
 have hlen:=hO.2
 refine z6 left.length (fun s=>s.2) (fun j (s:List za×Int)=>s.2=(j:Int)∧j≤left.length∧s.1=xR (left.take j) bs[k]∧okR (xR (left.take j) bs[k])) (fun k s h=>h.1) (fun k s h=>h.2.1) ?_ ⟨rfl,by omega,by simp [xR],by simp [xR,okR,VT]⟩
 rintro j ⟨_,_⟩ next2 ⟨rfl,hj,hx,hok⟩ hn2
 simp only at hx
 subst hx
 refine zo (fun hc2=>?_) (fun hc2=>?_)
 ·have hjl:j<left.length:=by simpa using hc2
  have hcB:=hB _ (List.getElem_mem hjl)
  have hcF:=hO.1 _ (List.getElem_mem hjl)
  have hl4:=zaQ left[j] bs[k]
  have hl2:=hok.2
  have split3:xR left bs[k]=xR (left.take j) bs[k]++(Yj left[j] bs[k]++xR (left.drop (j+1)) bs[k]):=by
   have:=List.take_append_drop j left
   rw [List.drop_eq_getElem_cons hjl] at this
   have e2:=congrArg (fun l=>xR l bs[k]) this
   simp only [Xr] at e2
   rw [← e2]
   rw [show left[j] :: left.drop (j+1)=[left[j]]++left.drop (j+1) from rfl,Xr,Y1]
  refine zp j rfl hjl (zed hcB hbk hcF ?_)
  by_cases hFc:∀ c∈Yj left[j] bs[k],F4 c
  ·rw [show zeH left[j] bs[k]=(Yj left[j] bs[k],true) from if_pos hFc]
   refine xQ (xi (zC (by omega) (by omega) (zo (fun e=>no (fun q=>?_)) (fun e=>?_))))
   ·have:=q.2
    rw [split3] at this
    simp only [List.length_append] at this
    simp at e
    omega
   ·have e':(xR (left.take j) bs[k]).length+(Yj left[j] bs[k]).length≤400:=by simp at e;omega
    refine jo (by omega) (zC (by omega) (by omega) (hn2 hjl _ ⟨by simp,by omega,?_,?_⟩))
    ·rw [List.take_succ_eq_append_getElem hjl,Xr,Y1]
    ·rw [List.take_succ_eq_append_getElem hjl,Xr,Y1]
     exact ⟨yA.2 ⟨hok.1,hFc⟩,by rw [List.length_append];exact e'⟩
  ·rw [show zeH left[j] bs[k]=([],false) from if_neg hFc]
   refine xQ (jA (jA (no (fun q=>hFc ?_))))
   have:=q.1
   rw [split3] at this
   exact (yA.1 (yA.1 this).2).1
 ·have hjge:left.length≤j:=by simpa using hc2
  rw [List.take_of_length_le hjge] at hok ⊢
  have he2:lgo [a] bs=lgo (xR left bs[k]) (bs.drop (k+1)):=by
   rw [he];conv=>lhs;unfold lgo
   rw [if_pos hok]
  refine zo (fun e=>?_) (fun e=>?_)
  ·have:xR left bs[k]=[]:=by
    have:(xR left bs[k]).length=0:=by
     have:((xR left bs[k]).length:Int)=0:=by simpa using e
     omega
    exact List.length_eq_zero_iff.1 this
   rw [this] at he2 ⊢
   rw [he2,zgQ] at h
   exact h
  ·exact zC (by omega) (by omega) (hn hlt _ ⟨by simp,by omega,VG hB hbk,hok,he2⟩)
def IV (l:List zn):Prop:=∀ f∈l,B4 f.xWhere∧F4 f.xWhere
theorem FV.iv {l:List zV} (h:FV l):IV (l.map fl):=fun f hf=>by
 obtain ⟨g,hg,rfl⟩:=List.mem_map.1 hf
 exact ⟨(h.2 g hg).b4,(h.2 g hg).f4⟩
def whs (l:List zn):List za:=l.map (·.xWhere)
theorem IV.aB {l:List zn} (h:IV l):aB (whs l):=fun c hc=>by
 obtain ⟨f,hf,rfl⟩:=List.mem_map.1 hc
 exact (h f hf).1
theorem IV.take {l:List zn} (h:IV l) (n:Nat):IV (l.take n):=fun f hf=>h f (List.mem_of_mem_take hf)
def zhZ (l:List zn) (n:Nat) (h:n<l.length):Option (List za):=zad l[n].xWhere (whs (l.take n))
theorem zjr {l:List zn} (hl:l.length≤100000) (hv:IV l) {n:Nat} (hn:n<l.length) {κ:List za×Bool→Prop} (h:κ (znc (zhZ l n hn))):UJ l n κ:=by
 unfold UJ
 refine zp n rfl hn ⟨by omega,by omega,by omega,?_⟩
 have e:(l.take (n:Int).toNat).drop (0:Int).toNat=l.take n:=by simp
 rw [e]
 have hv2:=hv _ (List.getElem_mem hn)
 refine zhx (by simp;omega) (zgY hv2.1 hv2.2 (hv.take n).aB (by unfold whs;rw [List.length_map,List.length_take];omega) ?_)
 exact h
def dd (l:List zn) (n:Nat):Bool:=match h:l[n]? with | some f=>decide (zad f.xWhere (whs (l.take n))=some []) | none=>false
theorem zjx {l:List zn} {n:Nat} (hn:n<l.length):dd l n=decide (zhZ l n hn=some []):=by
 unfold dd
 split
 ·rename_i f hf
  obtain ⟨_,e⟩:=List.getElem?_eq_some_iff.1 hf
  unfold zhZ;rw [e]
 ·rename_i hf
  rw [List.getElem?_eq_none_iff] at hf;omega
def zlz (l:List zn):List Nat:=(List.range l.length).filter (dd l)
theorem zkr {l:List zn} (hl:l.length≤100000) (hv:IV l) {κ:List Int→Prop} (h:κ ((zlz l).map Int.ofNat)):UF l κ:=by
 unfold UF
 refine z6 l.length (fun s=>s.2) (fun k (s:List Int×Int)=>s.2=(k:Int)∧k≤l.length∧s.1=((List.range k).filter (dd l)).map Int.ofNat) (fun k s h=>h.1) (fun k s h=>h.2.1) ?_ ⟨rfl,by omega,rfl⟩
 rintro k ⟨_,_⟩ next ⟨rfl,hk,hx⟩ hn
 simp only at hx
 subst hx
 refine zo (fun hc=>?_) (fun hc=>?_)
 ·have hlt:k<l.length:=by simpa using hc
  have hlen:(((List.range k).filter (dd l)).map Int.ofNat).length≤k:=by
   rw [List.length_map]
   exact Nat.le_trans (List.length_filter_le _ _) (by simp)
  refine xQ (zjr hl hv hlt ?_)
  have step:∀ ys:List Int,ys=((List.range (k+1)).filter (dd l)).map Int.ofNat→js (k:Int) 1 (fun t145=>next (ys,t145)):=fun ys hy =>
   zC (by omega) (by omega) (hn hlt _ ⟨by simp,by omega,hy⟩)
  have e1:dd l k=true→((List.range (k+1)).filter (dd l)).map Int.ofNat=((List.range k).filter (dd l)).map Int.ofNat++[(k:Int)]:=fun q=>by
   rw [List.range_succ,List.filter_append,List.map_append,List.filter_cons,q];rfl
  have e0:dd l k=false→((List.range (k+1)).filter (dd l)).map Int.ofNat=((List.range k).filter (dd l)).map Int.ofNat:=fun q=>by
   rw [List.range_succ,List.filter_append,List.map_append,List.filter_cons,q];simp
  have hd:=zjx hlt
  cases hlv:zhZ l k hlt with
  | none =>
   rw [hlv] at hd
   have hd':dd l k=false:=by rw [hd];simp
   exact xQ (xi (xi (step _ (e0 hd').symm)))
  | some r =>
   rw [hlv] at hd
   refine xQ (jA (zo (fun e=>?_) (fun e=>?_)))
   ·have:r=[]:=by
     have:r.length=0:=by
      have:(r.length:Int)=0:=by simpa using e
      omega
     exact List.length_eq_zero_iff.1 this
    subst this
    have hd':dd l k=true:=by rw [hd];simp
    exact jo (by simp only [List.length_singleton];omega) (step _ (e1 hd').symm)
   ·have:r≠[]:=fun q=>by rw [q] at e;simp at e
    have hd':dd l k=false:=by rw [hd];simpa using this
    exact step _ (e0 hd').symm
 ·have hge:l.length≤k:=by simpa using hc
  have:k=l.length:=by omega
  subst this
  exact h
def fw (l:List zn) (p:zI):Nat:=l.findIdx (fun f=>decide (hb4 f.xWhere p))
def fwI (l:List zn) (p:zI):Int:=if fw l p<l.length then (fw l p:Int) else -1
theorem zk2 {l:List zn} {p:zI} {k:Nat} (hk:k<l.length) (h:∀ f∈l.take k,¬ hb4 f.xWhere p) (h2:hb4 l[k].xWhere p):fw l p=k:=by
 unfold fw
 rw [List.findIdx_eq (by omega)]
 refine ⟨by simpa using h2,fun j hj=>?_⟩
 have:=h l[j] (by rw [List.mem_take_iff_getElem];exact ⟨j,by omega,rfl⟩)
 simpa using this
theorem zkA {l:List zn} {p:zI} (h:∀ f∈l,¬ hb4 f.xWhere p):fw l p=l.length:=by
 unfold fw
 rw [List.findIdx_eq_length]
 intro f hf
 simpa using h f hf
theorem zgZ {l:List zn} {p:zI} (hl:l.length≤4294967296) (hv:IV l) {κ:Int→Prop} (h:κ (fwI l p)):Yq l p κ:=by
 unfold Yq xq
 refine z6 l.length (fun s=>s) (fun k s=>s=(k:Int)∧k≤l.length∧∀ f∈l.take k,¬ hb4 f.xWhere p) (fun k s h=>h.1) (fun k s h=>h.2.1) ?_ ⟨rfl,by omega,by simp⟩
 rintro k _ next ⟨rfl,hk,hno⟩ hn
 refine zo (fun hc=>?_) (fun hc=>?_)
 ·have hlt:k<l.length:=by simpa using hc
  refine zp k rfl hlt ?_
  unfold YY
  refine zna (zkh (hv _ (List.getElem_mem hlt)).2) (zo (fun e=>?_) (fun e=>?_))
  ·have:=zk2 hlt hno (by simpa using e)
   unfold fwI at h;rw [this,if_pos hlt] at h;exact h
  ·refine zC (by omega) (by omega) (hn hlt _ ⟨by simp,by omega,fun f hf=>?_⟩)
   rw [List.take_succ_eq_append_getElem hlt] at hf
   rcases List.mem_append.1 hf with q | q
   ·exact hno f q
   ·simp only [List.mem_singleton] at q;rw [q];simpa using e
 ·have hge:l.length≤k:=by simpa using hc
  rw [List.take_of_length_le hge] at hno
  have:=zkA hno
  unfold fwI at h;rw [this,if_neg (by omega)] at h;exact h
end
section
open Go.Lib (decDigits)
def Dc (c:List zE):Prop:=c.length≤100∧∀ r,r∈c→r.xTests.length≤8
theorem zhR {c:List zE} {r:zE} {n:Nat} (h:Dc c) (hn:c.length≤n) (hn':n<100) (hr:r.xTests.length≤8):Dc (c++[r]):=⟨by simp;omega,fun x hx=>by
 rcases List.mem_append.1 hx with hx | hx
 ·exact h.2 x hx
 ·rw [List.mem_singleton] at hx;subst hx;exact hr⟩
theorem zeV {b:List UInt8} {p n first chains:Int} (hb:b.length≤2000) (h0:0≤p) (hp:p≤500000) (hn:n≤4294967296) (hf0:0≤first) (hf1:first≤100) (hc0:0≤chains) (hc1:chains≤100) {κ:List zE×Int→Prop} (h:∀ c p',p≤p'→p'≤p+5000→Dc c→c.length≤9→κ (c,p')):Xp b p first chains n κ:=by
 have rd:∀ p',p≤p'→p'≤p+5000→RdP b p':=fun p' a c=>⟨hb,by omega,by omega⟩
 unfold Xp
 refine xM (rd p (by omega) (by omega)) (fun v a c=>?_)
 refine u6 (fun s=>0≤s.2.2∧s.2.2≤4∧p≤s.1∧s.1≤p+1+700 * (4 - s.2.2)∧s.2.1.length+s.2.2.toNat≤4∧Dc s.2.1) (fun s=>s.2.2.toNat) ?_ ⟨a,by simp only;omega,by simp only;omega,by simp only;omega,by simp only [List.length_nil];omega,by simp [Dc]⟩
 rintro ⟨q,xs,k⟩ next ⟨k0,k1,q0,q1,hx,hdc⟩ hnx
 simp only at k0 k1 q0 q1 hx hdc
 refine zo (fun hc=>?_) (fun hc=>?_)
 ·simp at hc
  refine zfG hb (by omega) (by omega) (by omega) hf0 hf1 hc0 hc1 (fun r p' g1 g2 hr=>jo (by simp;omega) (yJ (by omega) (by omega) (hnx _ ⟨by simp only;omega,by simp only;omega,by simp only;omega,by simp only;omega,by simp;omega,zhR (n:=4) hdc (by omega) (by omega) hr⟩ (by simp only;omega))))
 ·simp at hc
  unfold jnW
  refine zd1 (rd _ (by omega) (by omega)) hn (fun o p1 f1 f2=>zo (fun _=>?_) (fun _=>h _ _ (by omega) (by omega) hdc (by omega)))
  refine xM (rd _ (by omega) (by omega)) (fun v2 a2 c2=>zo (fun _=>?_) (fun _=>?_))
  ·exact zfG hb (by omega) (by omega) (by omega) hf0 hf1 hc0 hc1 (fun r p' g1 g2 hr=>jo (by simp;omega) (h _ _ (by omega) (by omega) (zhR (n:=4) hdc (by omega) (by omega) hr) (by simp;omega)))
  ·refine u6 (fun s=>s.length≤9∧Dc s) (fun s=>9 - s.length) ?_ ⟨by omega,hdc⟩
   rintro ys next2 ⟨hy,hyd⟩ hn2
   refine zo (fun hc3=>?_) (fun hc3=>h _ _ (by omega) (by omega) hyd hy)
   simp at hc3
   exact jo (by simp;omega) (hn2 _ ⟨by simp;omega,zhR (n:=8) hyd (by omega) (by omega) (by simp)⟩ (by simp;omega))
theorem zf3 {xs:List (List zE)} {i:Nat} {c:List zE} (h:∀ x,x∈xs→Dc x) (hc:Dc c):∀ x,x∈xs.set i c→Dc x:=fun x hx=>by
 rcases List.mem_or_eq_of_mem_set hx with hx | rfl
 ·exact h x hx
 ·exact hc
theorem zkd {r:zE} (h:r.xTests.length≤8):Dc [r]:=⟨by simp,fun x hx=>by rw [List.mem_singleton] at hx;subst hx;exact h⟩
theorem zfd {b:List UInt8} {n:Int} (hb:b.length≤2000) (hn:n≤4294967296) {κ:zQ×Int→Prop} (h:∀ s p',0≤p'→p'≤50000→s.xChains.length≤3→(∀ c,c∈s.xChains→Dc c)→κ (s,p')):ZE b 0 n κ:=by
 have rd:∀ p',0≤p'→p'≤100000→RdP b p':=fun p' a c=>⟨hb,by omega,by omega⟩
 unfold ZE
 refine xM (rd 0 (by omega) (by omega)) (fun v0 a0 c0=>xM (rd _ (by omega) (by omega)) (fun v a c=>zC (by omega) (by omega) ?_))
 refine u6 (fun s=>0≤s.2.2∧s.2.2≤1+v∧0≤s.1∧s.1≤2+5000 * s.2.2∧(s.2.1.length:Int)=s.2.2∧∀ c,c∈s.2.1→Dc c∧c.length≤9) (fun s=>(1+v - s.2.2).toNat) ?_ ⟨by simp,by simp only;omega,by simp only;omega,by simp only;omega,rfl,by simp⟩
 rintro ⟨q,xs,k⟩ next ⟨k0,k1,q0,q1,hx,hdc9⟩ hnx
 simp only at k0 k1 q0 q1 hx hdc9
 have hdc:∀ c,c∈xs→Dc c:=fun c hc=>(hdc9 c hc).1
 unfold jnW
 refine zo (fun hc=>?_) (fun hc=>?_)
 ·simp at hc
  have hw:w64 (k+1)=k+1:=zc1 (by omega) (by omega)
  rw [hw]
  refine zeV hb (by omega) (by omega) (by omega) (by omega) (by omega) (by omega) (by omega) (fun ch p' g1 g2 hd hl=>jo (by simp;omega) (zC (by omega) (by omega) (hnx _ ⟨by simp only;omega,by simp only;omega,by simp only;omega,by simp only;omega,by simp;omega,fun x hx'=>?_⟩ (by simp only;omega))))
  simp only [List.mem_append,List.mem_singleton] at hx'
  rcases hx' with hx' | rfl
  ·exact hdc9 x hx'
  ·exact ⟨hd,hl⟩
 ·simp at hc
  have hk:k=1+v:=by omega
  have hl0:0<xs.length:=by omega
  have hd0:Dc xs[0]:=hdc _ (List.getElem_mem hl0)
  have fin:∀ (p':Int) (ys:List (List zE)),0≤p'→p'≤50000→ys.length≤3→(∀ c,c∈ys→Dc c)→κ ((zQ.mk ys (decide (v0=0))),p'):=fun p' ys e0 e1 g1 g2=>h _ _ e0 e1 g1 g2
  have hx3:xs.length≤3:=by omega
  refine zd1 (rd _ (by omega) (by omega)) hn (fun o p1 f1 f2=>zo (fun _=>?_) (fun _=>fin _ _ (by omega) (by omega) hx3 hdc))
  refine xM (rd _ (by omega) (by omega)) (fun v2 a2 c2=>zo (fun _=>fin _ _ (by omega) (by omega) (by simp) (by simp)) (fun _=>zo (fun _=>?_) (fun _=>zo (fun _=>?_) (fun _=>?_))))
  ·have ap:∀ (e p':Int),0≤p'→p'≤50000→xm xs[0] ([(zE.mk ([]) 3 e)]) (fun _=>zH xs 0 (fun e155=>κ ((zQ.mk (xs.set (0:Int).toNat (xs[0]++([(zE.mk ([]) 3 e)]))) (decide (v0=0))),p'))):=by
    intro e p' e0 e1
    have h9:=(hdc9 _ (List.getElem_mem hl0)).2
    exact jo (by simp;omega) (zp 0 rfl hl0 (fin _ _ e0 e1 (by rw [List.length_set];exact hx3) (zf3 hdc ⟨by simp;omega,fun r hr=>by
     rcases List.mem_append.1 hr with hr | hr
     ·exact hd0.2 r hr
     ·rw [List.mem_singleton] at hr;subst hr;simp⟩)))
   have pk:∀ (v3 p':Int),0≤p'→p'≤50000→0≤v3→(v3=0∨v3<2)→zH ([0,1+v]) v3 (fun e148=>xm xs[0] ([(zE.mk ([]) 3 e148)]) (fun _=>zH xs 0 (fun e155=>κ ((zQ.mk (xs.set (0:Int).toNat (xs[0]++([(zE.mk ([]) 3 e148)]))) (decide (v0=0))),p')))):=fun v3 p' e0 e1 g0 g1=>yC g0 (by simp;omega) (fun e _=>ap e p' e0 e1)
   have ix:∀ (K:List zE→Prop),K xs[0]→zH xs 0 K:=fun K hK=>zp 0 rfl hl0 hK
   refine ⟨ix _ (xM (rd _ (by omega) (by omega)) (fun v3 a3 c3=>pk _ _ (by omega) (by omega) a3 c3)),⟨ix _ (xM (rd _ (by omega) (by omega)) (fun v3 a3 c3=>pk _ _ (by omega) (by omega) a3 c3)),xM (rd _ (by omega) (by omega)) (fun v3 a3 c3=>⟨ix _ (pk _ _ (by omega) (by omega) a3 c3),yC a3 (by simp;omega) (fun e _=>ix _ (ap e _ (by omega) (by omega)))⟩)⟩,xM (rd _ (by omega) (by omega)) (fun v3 a3 c3=>⟨ix _ (pk _ _ (by omega) (by omega) a3 c3),ix _ (pk _ _ (by omega) (by omega) a3 c3),yC a3 (by simp;omega) (fun e _=>ix _ (ap e _ (by omega) (by omega)))⟩)⟩
  ·have hvn:v.toNat<xs.length:=by omega
   refine yJ (by omega) (by omega) (zp v.toNat (by omega) hvn (yJ (by omega) (by omega) (zp 0 rfl (by rw [List.length_set];exact hl0) ?_)))
   exact fin _ _ (by omega) (by omega) (by rw [List.length_set,List.length_set];exact hx3) (zf3 (zf3 hdc (zkd (by simp))) (zkd (by simp)))
  ·refine zeV hb (by omega) (by omega) (by omega) (by omega) (by omega) (by omega) (by omega) (fun ch p' g1 g2 hd hl=>zp 0 rfl hl0 (fin _ _ (by omega) (by omega) (by rw [List.length_set];exact hx3) (zf3 hdc hd)))
theorem zgO {b:List UInt8} {n:Int} (hb:b.length≤2000) (hn:n≤4294967296) {κ:zQ×Int→Prop} (h:∀ s p',s.xChains.length≤3→(∀ c,c∈s.xChains→Dc c)→κ (s,p')):ZE b 0 n κ:=zfd hb hn (fun s p' _ _ a b=>h s p' a b)
end
section
open Go.Lib (decDigits)
def Le (cs ds:List (List zE)):Prop:=cs.length≤ds.length∧∀ (i:Nat) (c:List zE),cs[i]?=some c→∃ e,ds[i]?=some (c++e)
theorem Le.refl (cs:List (List zE)):Le cs cs:=⟨Nat.le_refl _,fun i c h=>⟨[],by simpa using h⟩⟩
theorem Le.trans {a b c:List (List zE)} (h:Le a b) (h':Le b c):Le a c:=⟨Nat.le_trans h.1 h'.1,fun i x hx=>by
 obtain ⟨e,he⟩:=h.2 i x hx
 obtain ⟨e',he'⟩:=h'.2 i _ he
 exact ⟨e++e',by rw [he',List.append_assoc]⟩⟩
end
section
theorem ze3 {α:Type} (a:List α) (hl:a.length≤4294967296) {κ:Bool→Prop} (hκ:κ true) (F:(Int→Prop)→Int→Prop)
  (hF:∀ (nx:Int→Prop) (t:Nat),t≤a.length→(∀ x,a[t]?=some x→x∈a∧nx ((t:Int)+1))→(¬ t<a.length→κ true)→F nx (t:Int)):jt F 0:=by
 refine z6 a.length (fun s=>s) (fun k s=>s=(k:Int)∧k≤a.length) (fun k s h=>h.1) (fun k s h=>h.2) ?_ ⟨rfl,Nat.zero_le _⟩
 rintro k _ next ⟨rfl,hk⟩ hn
 refine hF _ _ hk (fun x hx=>?_) (fun _=>hκ)
 obtain ⟨e1,e2⟩:=List.getElem?_eq_some_iff.1 hx
 exact ⟨e2 ▸ List.getElem_mem e1,hn e1 _ ⟨by omega,by omega⟩⟩
end
section
open Go.Lib (decDigits)
def Br (r:zE):Prop:=r.xTests.length≤1048576
def Bq (c:List zE):Prop:=c.length≤1048576∧∀ r,r∈c→Br r
def Bs (cs:List (List zE)):Prop:=cs.length≤1048576∧∀ c,c∈cs→Bq c
theorem Bs.bd {s:zQ} (h:Bs s.xChains):Bd s:=⟨by have:=h.1;omega,fun c hc=>⟨by have:=(h.2 c hc).1;omega,fun r hr=>by have:r.xTests.length≤1048576:=(h.2 c hc).2 r hr;omega⟩⟩
theorem SV.bs {s:zQ} (h:SV s):Bs s.xChains:=⟨by have:=h.1.1;omega,fun c hc=>⟨by have:=(h.1.2 c hc).1;omega,fun r hr=>by have:r.xTests.length≤6:=((h.1.2 c hc).2 r hr).1.1.2;unfold Br;omega⟩⟩
end
section
open Go.Lib (decDigits)
theorem zjG {x:Int} (h1:-9223372036854775808≤x) (h2:x≤9223372036854775807):w64 x=x:=by
 simp [w64,IntKind.wrap,IntKind.signed,IntKind.bits];omega
def Bl (ls:List (List UInt8)):Prop:=ls.length≤3000000∧∀ l,l∈ls→l.length≤10000000
theorem Bl.take {ls:List (List UInt8)} (h:Bl ls) (n:Nat):Bl (ls.take n):=⟨by have:=h.1;simp;omega,fun l hl=>h.2 l (List.mem_of_mem_take hl)⟩
def Zs (k:Nat) (cs:List (List zE)):Prop:=cs.length≤k∧∀ c,c∈cs→c.length≤k∧∀ r,r∈c→RV r
theorem Zs.bd {k:Nat} {cs:List (List zE)} {a:Bool} (h:Zs k cs) (hk:k≤4000000):Bd ⟨cs,a⟩:=⟨by have:=h.1;simp only;omega,fun c hc=>⟨by have:=(h.2 c hc).1;omega,fun r hr=>by have:r.xTests.length≤6:=((h.2 c hc).2 r hr).1.2;omega⟩⟩
end
section
def th (t:jJ) (p:zI):Bool:=decide (t.xLo≤ZM p t.xField.toNat∧ZM p t.xField.toNat≤t.xHi) != t.xNot
def ft (l:List jJ) (p:zI):Bool:=l.all (fun t=>th t p)
theorem zm9 {a:Int} (h0:0≤a) (h1:a≤3):a=0∨a=1∨a=2∨a=3:=by omega
theorem ziD (x y:Bool):(!(decide (x=y)))=(x != y):=by cases x <;> cases y <;> rfl
theorem zgx {t:jJ} {p:zI} {κ:Bool→Prop} (ht:TV t) (h:κ (th t p)):XH t p κ:=by
 obtain ⟨h0,h1,_⟩:=ht
 unfold XH ux jnW
 have key:∀ v:Int,v=ZM p t.xField.toNat→ifW (decide (t.xLo≤v)) (κ (!(decide ((decide (v≤t.xHi))=t.xNot)))) (κ (!(decide (false=t.xNot)))):=by
  intro v hv
  unfold th at h
  rw [← hv] at h
  refine zo (fun hc=>?_) (fun hc=>?_)
  ·rw [ziD]
   have e:decide (t.xLo≤v∧v≤t.xHi)=decide (v≤t.xHi):=by simp at hc;simp [hc]
   rw [e] at h;exact h
  ·rw [ziD]
   have e:decide (t.xLo≤v∧v≤t.xHi)=false:=by simp at hc;simp;omega
   rw [e] at h;exact h
 rcases zm9 h0 h1 with e | e | e | e
 ·exact zp 0 (by omega) (by simp) (key _ (by rw [e];rfl))
 ·exact zp 1 (by omega) (by simp) (key _ (by rw [e];rfl))
 ·exact zp 2 (by omega) (by simp) (key _ (by rw [e];rfl))
 ·exact zp 3 (by omega) (by simp) (key _ (by rw [e];rfl))
theorem zku (l:List jJ) (p:zI) (k:Nat) (h:k<l.length):ft (l.take (k+1)) p=(ft (l.take k) p && th l[k] p):=by
 unfold ft
 rw [List.take_succ_eq_append_getElem h,List.all_append];simp
theorem zjt {l:List jJ} {p:zI} {k:Nat} (h:k<l.length) (e:th l[k] p=false):ft l p=false:=by
 unfold ft
 rw [List.all_eq_false]
 exact ⟨l[k],List.getElem_mem h,by simp [e]⟩
theorem zd5 {l:List jJ} {p:zI} {κ:Bool→Prop} (hl:l.length≤4294967296) (ht:∀ t,t∈l→TV t) (h:κ (ft l p)):Uf l p κ:=by
 unfold Uf
 refine z6 l.length (fun s=>s) (fun k s=>s=(k:Int)∧k≤l.length∧ft (l.take k) p=true) (fun k s h=>h.1) (fun k s h=>h.2.1) ?_ ⟨rfl,Nat.zero_le _,by simp [ft]⟩
 rintro k _ next ⟨rfl,hk,hf⟩ hn
 refine zo (fun hc=>?_) (fun hc=>?_)
 ·have hlt:k<l.length:=by simpa using hc
  refine zp k rfl hlt (zgx (ht _ (List.getElem_mem hlt)) (zo (fun hx=>?_) (fun hx=>zC (by omega) (by omega) (hn hlt _ ⟨by omega,by omega,?_⟩))))
  ·rw [zjt hlt (by simpa using hx)] at h;exact h
  ·rw [zku l p k hlt,hf];simpa using hx
 ·have hge:l.length≤k:=by simpa using hc
  rw [List.take_of_length_le hge] at hf
  rw [hf] at h;exact h
def Hh (cs:List (List zE)):Nat→Nat→Prop
 | 0,_=>False
 | n+1,i=>∀ j,Ca cs i j→Hh cs n j
theorem zdP {cs:List (List zE)}:∀ {n i:Nat},Hh cs n i→Hh cs (n+1) i
 | 0,i,h=>h.elim
 | n+1,i,h=>fun j hj=>zdP (h j hj)
theorem zlC {cs:List (List zE)} {n m i:Nat} (h:Hh cs n i) (hm:n≤m):Hh cs m i:=by
 induction hm with
 | refl=>exact h
 | step _ ih=>exact zdP ih
theorem zh1 {cs:List (List zE)} {Q:Nat→Prop}:∀ (k:Nat),(∀ j,j<k→Q j→∃ n,Hh cs n j)→∃ N,∀ j,j<k→Q j→Hh cs N j
 | 0,_=>⟨0,fun j hj=>by omega⟩
 | k+1,h=>by
  obtain ⟨N,hN⟩:=zh1 k (fun j hj hq=>h j (by omega) hq)
  by_cases hq:Q k
  ·obtain ⟨n,hn⟩:=h k (by omega) hq
   refine ⟨max N n,fun j hj hqj=>?_⟩
   by_cases e:j=k
   ·subst e;exact zlC hn (by omega)
   ·exact zlC (hN j (by omega) hqj) (by omega)
  ·refine ⟨N,fun j hj hqj=>?_⟩
   by_cases e:j=k
   ·subst e;exact absurd hqj hq
   ·exact hN j (by omega) hqj
theorem zjL {cs:List (List zE)} {i:Nat} (hs:Sf cs i):∃ n,Hh cs n i:=by
 induction hs with
 | intro x hx ih =>
  obtain ⟨N,hN⟩:=zh1 (cs:=cs) (Q:=fun j=>Ca cs x j) cs.length (fun j _ hq=>ih j hq)
  refine ⟨N+1+1,fun j hj=>?_⟩
  by_cases hl:j<cs.length
  ·exact zdP (hN j hl hj)
  ·exact fun k hk=>by
    obtain ⟨c,h1,_⟩:=hk
    have:=(List.getElem?_eq_some_iff.1 h1).1
    omega
theorem zmM {cs:List (List zE)} (hs:∀ i,i<cs.length→Sf cs i):∃ N,∀ i,Hh cs (N+1) i:=by
 obtain ⟨N,hN⟩:=zh1 (cs:=cs) (Q:=fun _=>True) cs.length (fun j hj _=>zjL (hs j hj))
 refine ⟨N,fun i=>?_⟩
 by_cases hl:i<cs.length
 ·exact zdP (hN i hl trivial)
 ·exact fun k hk=>by
   obtain ⟨c,h1,_⟩:=hk
   have:=(List.getElem?_eq_some_iff.1 h1).1
   omega
def jl (p:zI) (call:Nat→Int):List zE→Int
 | []=>5
 | r :: l=>if ft r.xTests p=true then
   (if r.xAction=1 then 1 else if r.xAction=2 then 2 else if r.xAction=4 then 5 else if r.xAction=3 then (if call r.xChain.toNat=5 then jl p call l else call r.xChain.toNat) else jl p call l)
   else jl p call l
def chn (cs:List (List zE)) (i:Nat):List zE:=cs[i]?.getD []
def jc (cs:List (List zE)) (p:zI):Nat→Nat→Int
 | 0,_=>5
 | n+1,i=>jl p (jc cs p n) (chn cs i)
theorem zhw {p:zI} {f g:Nat→Int}:∀ {l:List zE},(∀ r,r∈l→r.xAction=3→f r.xChain.toNat=g r.xChain.toNat)→jl p f l=jl p g l
 | [],_=>rfl
 | r :: l,h=>by
  have ih:=zhw (p:=p) (l:=l) (fun x hx=>h x (by simp [hx]))
  simp only [jl]
  rw [ih]
  by_cases h3:r.xAction=3
  ·rw [h r (by simp) h3]
  ·simp only [h3,if_false]
theorem zbV {cs:List (List zE)} {i:Nat} {r:zE} (hr:r∈chn cs i) (h3:r.xAction=3) (h0:0≤r.xChain):Ca cs i r.xChain.toNat:=by
 unfold chn at hr
 cases h:cs[i]? with
 | none=>rw [h] at hr;simp at hr
 | some c=>rw [h] at hr;exact ⟨c,h,r,hr,h3,by omega⟩
def Cn (cs:List (List zE)):Prop:=∀ i r,r∈chn cs i→r.xAction=3→0≤r.xChain
theorem ziO {cs:List (List zE)} {p:zI} (hc:Cn cs):∀ {n i:Nat},Hh cs n i→jc cs p (n+1) i=jc cs p n i
 | 0,i,h=>h.elim
 | n+1,i,h=>zhw (fun r hr h3=>ziO hc (h _ (zbV hr h3 (hc i r hr h3))))
def wt (cs:List (List zE)):Nat→List zE→Nat
 | 0,l=>l.length+1
 | n+1,l=>1+(l.map (fun r=>1+if r.xAction=3 then wt cs n (chn cs r.xChain.toNat) else 0)).sum
theorem zmk (cs:List (List zE)) (n:Nat):wt cs n []=1:=by cases n <;> simp [wt]
theorem zll (cs:List (List zE)) (n:Nat) (r:zE) (l:List zE):wt cs (n+1) (r :: l)=wt cs (n+1) l+1+(if r.xAction=3 then wt cs n (chn cs r.xChain.toNat) else 0):=by
 simp only [wt,List.map_cons,List.sum_cons];omega
theorem ziv {cs:List (List zE)} (hc:Cn cs):∀ {n i:Nat},Hh cs n i→wt cs (n+1) (chn cs i)=wt cs n (chn cs i)
 | 0,i,h=>h.elim
 | n+1,i,h=>by
  have key:∀ l:List zE,(∀ r,r∈l→r∈chn cs i)→(l.map (fun r=>1+if r.xAction=3 then wt cs (n+1) (chn cs r.xChain.toNat) else 0)).sum=(l.map (fun r=>1+if r.xAction=3 then wt cs n (chn cs r.xChain.toNat) else 0)).sum:=by
   intro l hl
   congr 1
   refine List.map_congr_left (fun r hr=>?_)
   by_cases h3:r.xAction=3
   ·simp only [h3,if_true]
    rw [ziv hc (h _ (zbV (hl r hr) h3 (hc i r (hl r hr) h3)))]
   ·simp only [h3,if_false]
  show 1+_=1+_
  rw [key _ (fun r hr=>hr)]
open Classical in
noncomputable def jN (cs:List (List zE)):Nat:=if h:∃ N,∀ i,Hh cs (N+1) i then h.choose else 0
theorem zfF {cs:List (List zE)} (hs:∀ i,i<cs.length→Sf cs i) (i:Nat):Hh cs (jN cs+1) i:=by
 have h:=zmM hs
 unfold jN
 rw [dif_pos h]
 exact h.choose_spec i
noncomputable def J (cs:List (List zE)) (p:zI) (i:Nat):Int:=jc cs p (jN cs+1) i
theorem zlr {cs:List (List zE)} {p:zI} (hc:Cn cs) (hs:∀ i,i<cs.length→Sf cs i) (i:Nat):J cs p i=jl p (J cs p) (chn cs i):=by
 unfold J
 rw [← ziO hc (zfF hs i)]
 rfl
theorem SV.cn {s:zQ} (h:SV s):Cn s.xChains:=by
 intro i r hr h3
 unfold chn at hr
 cases e:s.xChains[i]? with
 | none=>rw [e] at hr;simp at hr
 | some c =>
  rw [e] at hr
  exact (((h.1.2 c (List.mem_of_getElem? e)).2 r hr).1.2.2.2.1 h3).1
theorem zcS {cs:List (List zE)} {i:Nat} (h:i<cs.length):chn cs i=cs[i]:=by simp [chn,h]
theorem ziz {p:zI} {f:Nat→Int} (hf:∀ i,f i=1∨f i=2∨f i=5):∀ l,jl p f l=1∨jl p f l=2∨jl p f l=5
 | []=>by simp [jl]
 | r :: l=>by
  have ih:=ziz (p:=p) hf l
  have:=hf r.xChain.toNat
  simp only [jl]
  repeat' split
  all_goals omega
theorem zgs {cs:List (List zE)} {p:zI}:∀ n i,jc cs p n i=1∨jc cs p n i=2∨jc cs p n i=5
 | 0,i=>by simp [jc]
 | n+1,i=>ziz (zgs n) _
theorem zmf (cs:List (List zE)) (p:zI) (i:Nat):J cs p i=1∨J cs p i=2∨J cs p i=5:=zgs _ _
noncomputable def jdg (s:zQ) (p:zI):Bool:=if J s.xChains p 0=1 then true else if J s.xChains p 0=2 then false else s.xAccept
end
section
theorem zdk:∀ (n:Nat) (l:List Nat),l.Nodup→(∀ x,x∈l→x<n)→l.length≤n
 | 0,[],_,_=>by simp
 | 0,x :: l,_,h=>by have:=h x (by simp);omega
 | n+1,l,hd,h=>by
  by_cases hm:n∈l
  ·obtain ⟨s,t,rfl⟩:=List.append_of_mem hm
   have hnd:(s++t).Nodup∧n ∉ s++t:=by
    rw [List.nodup_append] at hd ⊢
    simp only [List.nodup_cons,List.mem_cons] at hd
    obtain ⟨h1,⟨h2,h3⟩,h4⟩:=hd
    refine ⟨⟨h1,h3,fun a ha b hb=>h4 a ha b (.inr hb)⟩,fun hmem=>?_⟩
    rcases List.mem_append.1 hmem with hs | ht
    ·exact h4 n hs n (.inl rfl) rfl
    ·exact h2 ht
   have:=zdk n (s++t) hnd.1 (fun x hx=>by
    have h1:=h x (by
     rcases List.mem_append.1 hx with hx | hx
     ·exact List.mem_append.2 (.inl hx)
     ·exact List.mem_append.2 (.inr (List.mem_cons_of_mem _ hx)))
    have h2:x≠n:=fun e=>hnd.2 (e ▸ hx)
    omega)
   simp at this ⊢;omega
  ·have:=zdk n l hd (fun x hx=>by
    have h1:=h x hx
    have h2:x≠n:=fun e=>hm (e ▸ hx)
    omega)
   omega
def okP (cs:List (List zE)) (q:jx):Prop:=0≤q.xChain∧q.xChain.toNat<cs.length∧0≤q.xNext∧q.xNext.toNat≤(chn cs q.xChain.toNat).length
def sfx (cs:List (List zE)) (q:jx):List zE:=(chn cs q.xChain.toNat).drop q.xNext.toNat
noncomputable def Jst (cs:List (List zE)) (p:zI):List jx→Int
 | []=>5
 | q :: st=>if jl p (J cs p) (sfx cs q)=5 then Jst cs p st else jl p (J cs p) (sfx cs q)
noncomputable def wst (cs:List (List zE)) (xs:List jx):Nat:=(xs.map (fun q=>wt cs (jN cs+1) (sfx cs q))).sum
theorem zbc (cs:List (List zE)) (xs:List jx) (q:jx):wst cs (xs++[q])=wst cs xs+wt cs (jN cs+1) (sfx cs q):=by simp [wst]
def Stk (cs:List (List zE)) (xs:List jx):Prop:=(∀ q,q∈xs→okP cs q)∧xs.Pairwise (fun a b=>Wy cs a.xChain.toNat b.xChain.toNat)
theorem Stk.len {cs:List (List zE)} {xs:List jx} (hs:∀ i,i<cs.length→Sf cs i) (h:Stk cs xs):xs.length≤cs.length:=by
 have hn:(xs.map (fun q=>q.xChain.toNat)).Nodup:=by
  rw [List.Nodup,List.pairwise_map]
  refine List.Pairwise.imp_of_mem (fun {a b} ha hb hw e=>?_) h.2
  rw [← e] at hw
  exact zii (hs _ (h.1 a ha).2.1) hw
 have:=zdk cs.length _ hn (fun x hx=>by
  obtain ⟨q,hq,rfl⟩:=List.mem_map.1 hx
  exact (h.1 q hq).2.1)
 simpa using this
theorem Stk.drop {cs:List (List zE)} {ys:List jx} {q:jx} (h:Stk cs (ys++[q])):Stk cs ys:=⟨fun x hx=>h.1 x (List.mem_append.2 (.inl hx)),(List.pairwise_append.1 h.2).1⟩
theorem Stk.move {cs:List (List zE)} {ys:List jx} {q q':jx} (h:Stk cs (ys++[q])) (hq:okP cs q') (hc:q'.xChain=q.xChain):Stk cs (ys++[q']):=by
 refine ⟨fun x hx=>?_,?_⟩
 ·rcases List.mem_append.1 hx with hx | hx
  ·exact h.1 x (List.mem_append.2 (.inl hx))
  ·rw [List.mem_singleton] at hx;subst hx;exact hq
 ·obtain ⟨h1,_,h3⟩:=List.pairwise_append.1 h.2
  refine List.pairwise_append.2 ⟨h1,by simp,fun a ha b hb=>?_⟩
  rw [List.mem_singleton] at hb
  subst hb
  rw [hc]
  exact h3 a ha q (by simp)
theorem Stk.push {cs:List (List zE)} {ys:List jx} {q q':jx} (h:Stk cs (ys++[q])) (hq:okP cs q') (hc:Ca cs q.xChain.toNat q'.xChain.toNat):Stk cs (ys++[q]++[q']):=by
 refine ⟨fun x hx=>?_,?_⟩
 ·rcases List.mem_append.1 hx with hx | hx
  ·exact h.1 x hx
  ·rw [List.mem_singleton] at hx;subst hx;exact hq
 ·refine List.pairwise_append.2 ⟨h.2,by simp,fun a ha b hb=>?_⟩
  rw [List.mem_singleton] at hb
  subst hb
  rcases List.mem_append.1 ha with ha | ha
  ·exact .more ((List.pairwise_append.1 h.2).2.2 a ha q (by simp)) hc
  ·rw [List.mem_singleton] at ha;subst ha;exact .one hc
theorem zhH {α:Type} (xs:List α) (h:0<xs.length):∃ ys q,xs=ys++[q]:=⟨xs.dropLast,xs.getLast (List.ne_nil_of_length_pos h),(List.dropLast_concat_getLast (List.ne_nil_of_length_pos h)).symm⟩
theorem ziI {ys:List jx} {q:jx} {vis:List uP} {d:Int} {κ:List jx→Prop} (hl:ys.length≤50) (h:κ ys):ZD (ys++[q]) vis d κ:=by
 unfold ZD jnW
 have hw:w64 (((ys++[q]).length:Int) - 1)=(ys.length:Int):=by
  rw [zc1 (by simp <;> omega) (by simp <;> omega)];simp
 rw [hw]
 refine ⟨by omega,by omega,by simp <;> omega,?_⟩
 rw [show ((ys.length:Int)).toNat=ys.length from by omega,show ((0:Int)).toNat=0 from rfl,List.drop_zero,List.take_left']
 ·exact h
 ·rfl
theorem zfh {s:zQ} {p:zI} (hv:SV s) {κ:List jx×List uP×Int→Prop} (h:∀ st vis,κ (st,vis,J s.xChains p 0)):Xa s p κ:=by
 unfold Xa
 have hcs:=hv.1.1
 generalize hcc:s.xChains=cs at *
 have hsf:=hv.2.2
 rw [hcc] at hsf
 have hpos:0<cs.length:=by have:=hv.2.1;rw [hcc] at this;omega
 have hcn:Cn cs:=hcc ▸ hv.cn
 have htg:=hv.1.2
 rw [hcc] at htg
 refine u6 (fun t=>Stk cs t.1∧t.2.1.length≤200∧(t.2.2=5→Jst cs p t.1.reverse=J cs p 0)∧(t.2.2≠5→t.2.2=J cs p 0)) (fun t=>if t.2.2=5 then 1+wst cs t.1 else 0) ?_ ⟨⟨fun q hq=>?_,by simp⟩,by simp,fun _=>?_,fun hx=>absurd rfl hx⟩
 rotate_left
 ·simp only [List.mem_singleton] at hq;subst hq
  exact ⟨by simp,by simpa using hpos,by simp,by simp⟩
 ·have:sfx cs ⟨0,0⟩=chn cs 0:=by simp [sfx]
  simp only [List.reverse_cons,List.reverse_nil,List.nil_append,Jst,this]
  rw [← zlr hcn hsf 0]
  split
  ·rename_i e;rw [e]
  ·rfl
 rintro ⟨xs,vis,d⟩ next ⟨hst,hvl,h5,hd⟩ hn
 simp only at hst hvl h5 hd
 unfold jnW
 refine zo (fun hlen=>?_) (fun hlen=>zo (fun hx=>by simp at hx) (fun _=>?_))
 rotate_left
 ·have hx0:xs=[]:=by simp at hlen;exact hlen
  by_cases e:d=5
  ·have:=h5 e
   rw [hx0] at this
   simp only [List.reverse_nil,Jst] at this
   rw [e,this]
   exact h _ _
  ·rw [hd e];exact h _ _
 refine zo (fun h5'=>?_) (fun h5'=>?_)
 rotate_left
 ·have e:d≠5:=by simpa using h5'
  rw [hd e];exact h _ _
 have e5:d=5:=by simpa using h5'
 subst e5
 clear hd
 have hJ:=h5 rfl
 clear h5
 obtain ⟨ys,q,rfl⟩:=zhH xs (by have h':(0:Int)<(xs.length:Int):=of_decide_eq_true hlen;omega)
 have hll:=hst.len hsf
 obtain ⟨q0,q1,q2,q3⟩:=hst.1 q (by simp)
 simp only [List.length_append,List.length_cons,List.length_nil] at hll
 have hchn:=zcS q1
 obtain ⟨h8,hrv⟩:=htg _ (List.getElem_mem q1)
 refine yJ (by simp <;> omega) (by simp <;> omega) (zp ys.length (by simp) (by simp) ?_)
 rw [show (ys++[q])[ys.length]'(by simp)=q by simp]
 refine zp q.xChain.toNat (by omega) q1 ?_
 rw [← hchn]
 rw [← hchn] at h8 hrv
 have hrev:(ys++[q]).reverse=q :: ys.reverse:=by simp
 rw [hrev] at hJ
 have hset:∀ q':jx,(ys++[q]).set ((((ys++[q]).length:Int) - 1)).toNat q'=ys++[q']:=by
  intro q'
  have:((((ys++[q]).length:Int) - 1)).toNat=ys.length:=by simp
  rw [this,List.set_append_right _ _ (Nat.le_refl _)];simp
 have go:∀ (xs':List jx) (vis':List uP),Stk cs xs'→vis'.length≤200→Jst cs p xs'.reverse=J cs p 0→wst cs xs'<wst cs (ys++[q])→next (xs',vis',5):=fun xs' vis' a b c d=>hn _ ⟨a,b,fun _=>c,fun hx=>absurd rfl hx⟩ (by simp only [if_true];omega)
 refine zo (fun hx=>?_) (fun hx=>?_)
 ·have e:q.xNext=((chn cs q.xChain.toNat).length:Int):=by simpa using hx
  have hs0:sfx cs q=[]:=List.drop_eq_nil_of_le (by omega)
  refine ziI (by omega) (go ys vis hst.drop hvl ?_ ?_)
  ·simp only [Jst,hs0,jl,if_true] at hJ;exact hJ
  ·rw [zbc,hs0,zmk];omega
 ·have e:q.xNext≠((chn cs q.xChain.toNat).length:Int):=by simpa using hx
  have hlt:q.xNext.toNat<(chn cs q.xChain.toNat).length:=by omega
  obtain ⟨hr,hrc⟩:=hrv _ (List.getElem_mem hlt)
  have hmem:(chn cs q.xChain.toNat)[q.xNext.toNat]∈chn cs q.xChain.toNat:=List.getElem_mem hlt
  have hok':okP cs ⟨q.xChain,q.xNext+1⟩:=⟨q0,q1,by simp only;omega,by simp only;omega⟩
  have hs1:sfx cs q=(chn cs q.xChain.toNat)[q.xNext.toNat] :: sfx cs ⟨q.xChain,q.xNext+1⟩:=by
   unfold sfx
   rw [List.drop_eq_getElem_cons hlt]
   simp only
   rw [show (q.xNext+1).toNat=q.xNext.toNat+1 by omega]
  generalize hrr:(chn cs q.xChain.toNat)[q.xNext.toNat]=r at *
  have hw0:=zbc cs ys q
  rw [hs1,zll] at hw0
  simp only [Jst,hs1,jl] at hJ
  have hmv:Stk cs (ys++[⟨q.xChain,q.xNext+1⟩]):=hst.move hok' rfl
  have hstay:∀ vis':List uP,vis'.length≤200→(if jl p (J cs p) (sfx cs ⟨q.xChain,q.xNext+1⟩)=5 then Jst cs p ys.reverse else jl p (J cs p) (sfx cs ⟨q.xChain,q.xNext+1⟩))=J cs p 0→next (ys++[⟨q.xChain,q.xNext+1⟩],vis',5):=by
   intro vis' hv' hj
   refine go _ vis' hmv hv' ?_ ?_
   ·simp only [List.reverse_append,List.reverse_cons,List.reverse_nil,List.nil_append,List.singleton_append,Jst];exact hj
   ·rw [zbc,hw0];omega
  have ir:∀ (K:zE→Prop),K r→zH (chn cs q.xChain.toNat) q.xNext K:=fun K hK=>zp q.xNext.toNat (by omega) hlt (by rw [hrr];exact hK)
  refine zC (by omega) (by omega) (ir _ (zd5 (by have:=hr.1.2;omega) hr.1.1 ?_))
  rw [hset]
  refine zo (fun hx=>?_) (fun hx=>?_)
  ·have hf:ft r.xTests p=false:=by simpa using hx
   rw [hf] at hJ
   exact hstay vis hvl (by simpa using hJ)
  ·have hf:ft r.xTests p=true:=by simpa using hx
   rw [hf] at hJ
   simp only [if_true] at hJ
   have core:∀ vis':List uP,vis'.length≤200→zH (chn cs q.xChain.toNat) q.xNext (fun e191=>Zn e191 (fun r197=>xS.casesW r197 (fun x198=>yo x198 (ys++[⟨q.xChain,q.xNext+1⟩]) vis' 5 (fun r202=>next (ys++[⟨q.xChain,q.xNext+1⟩],vis',r202))) (fun x199=>ZW x199 (ys++[⟨q.xChain,q.xNext+1⟩]) vis' 5 (fun r203=>next (r203,vis',5))) (fun x200=>Zg (uo.mk ) (ys++[⟨q.xChain,q.xNext+1⟩]) vis' 5 (fun r206=>next (r206,vis',5))) (fun x201=>ZS (yc.mk ) (ys++[⟨q.xChain,q.xNext+1⟩]) vis' 5 (fun _=>next (ys++[⟨q.xChain,q.xNext+1⟩],vis',5))))):=by
    intro vis' hv'
    refine ir _ ?_
    have dec:∀ d:Int,d≠5→d=J cs p 0→next (ys++[⟨q.xChain,q.xNext+1⟩],vis',d):=fun d hd5 hd=>hn _ ⟨hmv,hv',fun e=>absurd e hd5,fun _=>hd⟩ (by simp only [if_neg hd5,if_true];omega)
    unfold Zn
    by_cases h1:r.xAction=1
    ·rw [if_pos h1] at hJ
     refine zo (fun _=>?_) (fun hx=>by simp at hx;exact absurd h1 hx)
     dsimp only [xS.casesW]
     unfold yo
     exact zo (fun _=>dec 1 (by decide) (by simpa using hJ)) (fun hx=>by simp at hx)
    ·rw [if_neg h1] at hJ
     refine zo (fun hx=>by simp at hx;exact absurd hx h1) (fun _=>?_)
     by_cases h2:r.xAction=2
     ·rw [if_pos h2] at hJ
      refine zo (fun _=>?_) (fun hx=>by simp at hx;exact absurd h2 hx)
      dsimp only [xS.casesW]
      unfold yo
      exact zo (fun hx=>by simp at hx) (fun _=>dec 2 (by decide) (by simpa using hJ))
     ·rw [if_neg h2] at hJ
      refine zo (fun hx=>by simp at hx;exact absurd hx h2) (fun _=>?_)
      by_cases h3:r.xAction=3
      ·have h4:r.xAction≠4:=by omega
       rw [if_neg h4,if_pos h3] at hJ
       rw [if_pos h3] at hw0
       refine zo (fun _=>?_) (fun hx=>by simp at hx;exact absurd h3 hx)
       dsimp only [xS.casesW]
       unfold ZW jnW
       have hch:=hr.2.2.2.1 h3
       have hca:Ca cs q.xChain.toNat r.xChain.toNat:=zbV hmem h3 hch.1
       have hcl:r.xChain.toNat<cs.length:=by have:=hrc;omega
       refine jo (by simp;omega) (go _ vis' (hmv.push ⟨hch.1,hcl,by simp,by simp⟩ hca) hv' ?_ ?_)
       ·have hs2:sfx cs ⟨r.xChain,0⟩=chn cs r.xChain.toNat:=by simp [sfx]
        simp only [List.reverse_append,List.reverse_cons,List.reverse_nil,List.nil_append,List.singleton_append,List.cons_append,Jst,hs2]
        rw [← zlr hcn hsf]
        by_cases hj5:J cs p r.xChain.toNat=5
        ·rw [if_pos hj5] at hJ ⊢;exact hJ
        ·rw [if_neg hj5] at hJ ⊢
         rw [if_neg hj5] at hJ;exact hJ
       ·have hs2:sfx cs ⟨r.xChain,0⟩=chn cs r.xChain.toNat:=by simp [sfx]
        have hhh:Hh cs (jN cs) r.xChain.toNat:=zfF hsf q.xChain.toNat _ hca
        rw [zbc,zbc,hs2,ziv hcn hhh,hw0];omega
      ·refine zo (fun hx=>by simp at hx;exact absurd hx h3) (fun _=>?_)
       by_cases h4:r.xAction=4
       ·rw [if_pos h4] at hJ
        refine zo (fun _=>?_) (fun hx=>by simp at hx;exact absurd h4 hx)
        dsimp only [xS.casesW]
        unfold Zg
        refine ziI (by omega) (go ys vis' hst.drop hv' (by simpa using hJ) ?_)
        rw [hw0];omega
       ·rw [if_neg h4,if_neg h3] at hJ
        refine zo (fun hx=>by simp at hx;exact absurd hx h4) (fun _=>?_)
        dsimp only [xS.casesW]
        unfold ZS
        exact hstay vis' hv' hJ
   refine zo (fun h2=>jo (by simp;omega) (core _ (by simp at h2 ⊢;omega))) (fun _=>core _ hvl)
theorem zgn {s:zQ} {p:zI} (hv:SV s) {κ:Bool→Prop} (h:κ (jdg s p)):XC s p κ:=by
 unfold XC
 refine zfh (p:=p) hv (fun st vis=>?_)
 unfold jdg at h
 show ifW _ _ _
 refine zo (fun hx=>?_) (fun hx=>zo (fun hy=>?_) (fun hy=>?_))
 ·have e:J s.xChains p 0=1:=by simpa using hx
  rw [if_pos e] at h;exact h
 ·have e:J s.xChains p 0=2:=by simpa using hy
  rw [if_neg (by omega),if_pos e] at h;exact h
 ·have e1:¬ J s.xChains p 0=1:=by simpa using hx
  have e2:¬ J s.xChains p 0=2:=by simpa using hy
  rw [if_neg e1,if_neg e2] at h;exact h
theorem zcy {s:zQ} {p:zI} {κ:Bool→Prop} (hb:Bd s) (h1:SV s→pv p→κ (jdg s p)) (h2:¬ (SV s∧pv p)→κ false):Zy s p κ:=by
 unfold Zy jnW
 refine Yw hb (fun b hbv=>zo (fun hx=>zo (fun _=>h2 (fun hh=>?_)) (fun hy=>by simp at hy)) (fun hx=>zbF (zo (fun hy=>h2 (fun hh=>?_)) (fun hy=>?_))))
 ·rw [hbv.2 hh.1] at hx;cases hx
 ·rw [decide_eq_true hh.2] at hy;cases hy
 exact zgn (hbv.1 (by simpa using hx)) (h1 (hbv.1 (by simpa using hx)) (by simpa using hy))
end
section
theorem zg4 {b:List UInt8} {p n:Int} (hb:b.length≤2000) (h0:0≤p) (h1:p≤900000) (hn:n≤4294967296) {κ:zI×Int→Prop} (h:∀ k p',p≤p'→p'≤p+20→κ (k,p')):Yf b p n κ:=by
 unfold Yf
 have rd:∀ q,0≤q→q≤900040→RdP b q:=fun q q1 q2=>⟨hb,q1,by omega⟩
 refine xM (rd _ (by omega) (by omega)) (fun a a1 a2=>xM (rd _ (by omega) (by omega)) (fun c c1 c2=>xM (rd _ (by omega) (by omega)) (fun d d1 d2=>xM (rd _ (by omega) (by omega)) (fun e e1 e2=>?_))))
 have fin:∀ (q x y z:Int),p≤q→q≤p+12→xc b q n (fun (r44,r45)=>ifW r44 (zq b r45 4 (fun (r46,r47)=>ifW (decide (r46=0)) (zq b r47 2 (fun (r50,r51)=>zH ([(-1),65536]) r50 (fun e52=>κ ((zI.mk e52 y z e),r51)))) (ifW (decide (r46=1)) (zq b r47 2 (fun (r56,r57)=>zH ([(-1),65536]) r56 (fun e58=>κ ((zI.mk x e58 z e),r57)))) (ifW (decide (r46=2)) (zq b r47 2 (fun (r62,r63)=>zH ([(-1),256]) r62 (fun e64=>κ ((zI.mk x y e64 e),r63)))) (zq b r47 2 (fun (r68,r69)=>zH ([(-1),8]) r68 (fun e70=>κ ((zI.mk x y z e70),r69)))))))) (κ ((zI.mk x y z e),r45))):=by
  intro q x y z q1 q2
  refine zd1 (rd _ (by omega) (by omega)) hn (fun o r r1 r2=>zo (fun _=>xM (rd _ (by omega) (by omega)) (fun k k1 k2=>?_)) (fun _=>h _ _ (by omega) (by omega)))
  refine zo (fun _=>?_) (fun _=>zo (fun _=>?_) (fun _=>zo (fun _=>?_) (fun _=>?_)))
  all_goals exact xM (rd _ (by omega) (by omega)) (fun j j1 j2=>yC j1 (by simp;omega) (fun x hx=>h _ _ (by omega) (by omega)))
 unfold jnW
 refine xM (rd _ (by omega) (by omega)) (fun v v1 v2=>zo (fun _=>?_) (fun _=>?_))
 ·refine xM (rd _ (by omega) (by omega)) (fun f f1 f2=>zah (by omega) (by omega) (xM (rd _ (by omega) (by omega)) (fun g g1 g2=>zC (by omega) (by omega) (xM (rd _ (by omega) (by omega)) (fun i i1 i2=>zah (by omega) (by omega) (xM (rd _ (by omega) (by omega)) (fun j j1 j2=>zC (by omega) (by omega) (xM (rd _ (by omega) (by omega)) (fun l l1 l2=>?_)))))))))
  exact fin _ _ _ _ (by omega) (by omega)
 ·exact fin _ _ _ _ (by omega) (by omega)
end
section
theorem zmT {s:zQ} (hl:s.xChains.length≤3) (hd:∀ c,c∈s.xChains→Dc c):Bd s:=⟨by omega,fun c hc=>⟨by have:=(hd c hc).1;omega,fun r hr=>by have:=(hd c hc).2 r hr;omega⟩⟩
end
section
open Go Go.Proofs
theorem zbs:∀ (l:List zg) (s:zg) (out:List zg) (pl:Bool),(zaS l s out pl).1.length+(if (zaS l s out pl).2.2 then 0 else 1)≤out.length+l.length+(if pl then 0 else 1)
 | [],s,out,pl=>by cases pl <;> simp [zaS]
 | x :: xs,s,out,pl=>by
  unfold zaS
  by_cases c1:x.xHi+1<s.xLo
  ·rw [if_pos c1]
   have:=zbs xs s (out++[x]) pl
   simp only [List.length_append,List.length_cons,List.length_nil] at this ⊢
   omega
  ·rw [if_neg c1]
   by_cases c2:s.xHi+1<x.xLo
   ·rw [if_pos c2]
    have:=zbs xs s ((if pl then out else out++[s])++[x]) true
    cases pl <;> simp only [List.length_append,List.length_cons,List.length_nil,Bool.false_eq_true,if_true,if_false] at this ⊢ <;> omega
   ·rw [if_neg c2]
    have:=zbs xs (zg.mk (min s.xLo x.xLo) (max s.xHi x.xHi)) out pl
    simp only [List.length_cons]
    omega
theorem ziY (l:List zg) (s:zg):(zci l s).length≤l.length+1:=by
 have:=zbs l s [] false
 unfold zci
 generalize zaS l s [] false=r at *
 obtain ⟨o,s',pl⟩:=r
 cases pl <;> simp at this ⊢ <;> omega
theorem zdx:∀ (xs a:List zg),(xs.foldl zci a).length≤a.length+xs.length
 | [],a=>by simp
 | s :: xs,a=>by
  have h1:=zdx xs (zci a s)
  have h2:=ziY a s
  simp only [List.foldl_cons,List.length_cons]
  omega
theorem zfK {a:za}:F4 a↔le4 a 40:=⟨fun ⟨f0,f1,f2,f3⟩ f h0 h1=>by
 rcases zfb h0 h1 with rfl | rfl | rfl | rfl
 ·exact f0
 ·exact f1
 ·exact f2
 ·exact f3,zhG⟩
end
section
open Go Go.Proofs
def Xu (bs:List za) (w:za):List za:=bs.flatMap (fun b=>if em4 (uL b w) then [] else [uL b w])
theorem zba (l m:List za) (w:za):Xu (l++m) w=Xu l w++Xu m w:=by simp [Xu]
theorem zca (b w:za):Xu [b] w=if em4 (uL b w) then [] else [uL b w]:=by simp [Xu]
theorem zb8 (bs:List za) (w:za):(Xu bs w).length≤bs.length:=by
 induction bs with
 | nil=>simp [Xu]
 | cons b bs ih =>
  rw [show b :: bs=[b]++bs from rfl,zba,zca,List.length_append,List.length_append]
  have:(if em4 (uL b w)=true then [] else [uL b w]:List za).length≤1:=by split <;> simp
  simp only [List.length_singleton];omega
theorem zfZ {bs:List za} {w:za} (hb:aB bs) (hw:B4 w):aB (Xu bs w):=fun c hc=>by
 obtain ⟨b,hb',hc⟩:=List.mem_flatMap.1 hc
 split at hc
 ·simp at hc
 ·rw [List.mem_singleton] at hc;subst hc;exact zg9 (hb b hb') hw
theorem V4 (bs:List za) (w:za):(xR bs w).length≤4 * bs.length:=by
 induction bs with
 | nil=>simp [xR]
 | cons b bs ih =>
  rw [show b :: bs=[b]++bs from rfl,Xr,Y1,List.length_append,List.length_append]
  have:=zaQ b w
  simp only [List.length_singleton];omega
theorem zkE {bs:List za} {w:za} (p:zI):hbs (Xu bs w) p↔hbs bs p∧hb4 w p:=by
 constructor
 ·rintro ⟨c,hc,k⟩
  obtain ⟨b,hb',hc⟩:=List.mem_flatMap.1 hc
  split at hc
  ·simp at hc
  ·rw [List.mem_singleton] at hc;subst hc
   have:=(zcb b w p).1 k
   exact ⟨⟨b,hb',this.1⟩,this.2⟩
 ·rintro ⟨⟨b,hb',k⟩,hw⟩
  refine ⟨uL b w,List.mem_flatMap.2 ⟨b,hb',?_⟩,(zcb b w p).2 ⟨k,hw⟩⟩
  split
  ·rename_i e;exact absurd ((zcb b w p).2 ⟨k,hw⟩) (zgG e p)
  ·simp
def dec (l:List za) (acc:Bool):List zn:=l.map (fun b=>⟨b,acc⟩)
abbrev UR:=Option (List za×List zn)
def url (call:Nat→List za→List zn→UR):List zE→List za→List za→List zn→UR
 | [],going,left,out=>if okR (left++going) then some (left++going,out) else none
 | r :: rs,going,left,out =>
  if okR (Xu going (ZC r.xTests))∧okR (xR going (ZC r.xTests)) then
   if r.xAction=1∨r.xAction=2 then
    if (out++dec (Xu going (ZC r.xTests)) (decide (r.xAction=1))).length≤60 then url call rs (xR going (ZC r.xTests)) left (out++dec (Xu going (ZC r.xTests)) (decide (r.xAction=1))) else none
   else if r.xAction=4 then url call rs (xR going (ZC r.xTests)) (left++Xu going (ZC r.xTests)) out
   else if r.xAction=3 then
    match call r.xChain.toNat (Xu going (ZC r.xTests)) out with
    | none=>none
    | some (b,o)=>if okR (xR going (ZC r.xTests)++b) then url call rs (xR going (ZC r.xTests)++b) left o else none
   else if okR (xR going (ZC r.xTests)++Xu going (ZC r.xTests)) then url call rs (xR going (ZC r.xTests)++Xu going (ZC r.xTests)) left out else none
  else none
def uc (cs:List (List zE)):Nat→Nat→List za→List zn→UR
 | 0,_,_,_=>none
 | n+1,i,boxes,out=>url (uc cs n) (chn cs i) boxes [] out
theorem zfT {f g:Nat→List za→List zn→UR}:∀ {l:List zE},(∀ r,r∈l→r.xAction=3→∀ b o,f r.xChain.toNat b o=g r.xChain.toNat b o)→∀ going left out,url f l going left out=url g l going left out
 | [],_,_,_,_=>rfl
 | r :: l,h,going,left,out=>by
  have ih:=zfT (f:=f) (g:=g) (l:=l) (fun x hx=>h x (by simp [hx]))
  unfold url
  by_cases h3:r.xAction=3
  ·rw [h r (by simp) h3];simp only [ih]
  ·simp only [h3,if_false,ih]
theorem zil {cs:List (List zE)} (hc:Cn cs):∀ {n i:Nat},Hh cs n i→∀ b o,uc cs (n+1) i b o=uc cs n i b o
 | 0,i,h,_,_=>h.elim
 | n+1,i,h,b,o=>zfT (fun r hr h3 b o=>zil hc (h _ (zbV hr h3 (hc i r hr h3))) b o) _ _ _
noncomputable def U (cs:List (List zE)) (i:Nat) (boxes:List za) (out:List zn):UR:=uc cs (jN cs+1) i boxes out
theorem zlD {cs:List (List zE)} (hc:Cn cs) (hs:∀ i,i<cs.length→Sf cs i) (i:Nat) (b:List za) (o:List zn):U cs i b o=url (U cs) (chn cs i) b [] o:=by
 unfold U
 rw [← zil hc (zfF hs i)]
 rfl
theorem zf6 {call:Nat→List za→List zn→UR}:∀ {l:List zE} {going left:List za} {out:List zn},400<left.length→url call l going left out=none
 | [],going,left,out,h=>by
  unfold url
  rw [if_neg (fun q=>by have:=q.2;rw [List.length_append] at this;omega)]
 | r :: l,going,left,out,h=>by
  have ih:∀ {g o},url call l g left o=none:=zf6 h
  have ih2:∀ {g m o},url call l g (left++m) o=none:=zf6 (by rw [List.length_append];omega)
  unfold url
  simp only [ih,ih2]
  repeat' split
  all_goals rfl
theorem zbg:okR []:=⟨ze7,by simp⟩
theorem zkk (w:za):Xu [] w=[]:=rfl
theorem zja (w:za):xR [] w=[]:=rfl
theorem zjq {cs:List (List zE)} (hc:Cn cs):∀ {n i:Nat},Hh cs n i→∀ {o:List zn},o.length≤60→uc cs n i [] o=some ([],o)
 | 0,i,h,_,_=>h.elim
 | n+1,i,h,o,ho=>by
  have key:∀ (l:List zE) (out:List zn),(∀ r,r∈l→r∈chn cs i)→out.length≤60→url (uc cs n) l [] [] out=some ([],out):=by
   intro l
   induction l with
   | nil=>intro out _ _;unfold url;rw [List.append_nil,if_pos zbg]
   | cons r l ih =>
    intro out hl ho
    have ih':=ih out (fun x hx=>hl x (by simp [hx])) ho
    unfold url
    rw [zkk,zja,if_pos ⟨zbg,zbg⟩]
    have ed:∀ a,out++dec [] a=out:=fun a=>by simp [dec]
    split
    ·rw [ed,if_pos ho];exact ih'
    ·split
     ·exact ih'
     ·split
      ·rename_i h3
       have hr:=hl r (by simp)
       rw [zjq hc (h _ (zbV hr h3 (hc i r hr h3))) ho]
       simp only [List.append_nil,zbg,if_true]
       exact ih'
      ·rw [List.append_nil,if_pos zbg];exact ih'
  exact key _ _ (fun r hr=>hr) ho
theorem zm2 {cs:List (List zE)} (hc:Cn cs) (hs:∀ i,i<cs.length→Sf cs i) (i:Nat) {o:List zn} (ho:o.length≤60):U cs i [] o=some ([],o):=zjq hc (zfF hs i) ho
def Uok (r:UR):Prop:=∀ l o,r=some (l,o)→aB l∧okR l∧IV o∧o.length≤60
theorem zhP {l m:List zn} (h1:IV l) (h2:IV m):IV (l++m):=fun f hf=>(List.mem_append.1 hf).elim (h1 f) (h2 f)
theorem zhU {l:List za} {a:Bool} (h1:aB l) (h2:VT l):IV (dec l a):=fun f hf=>by
 obtain ⟨b,hb,rfl⟩:=List.mem_map.1 hf
 exact ⟨h1 b hb,h2 b hb⟩
theorem zhV:IV []:=fun f h=>by simp at h
theorem zg5 (l:List za) (a:Bool):(dec l a).length=l.length:=by simp [dec]
theorem zeK {call:Nat→List za→List zn→UR} (hcall:∀ i b o,aB b→okR b→IV o→o.length≤60→Uok (call i b o)):∀ {l:List zE} {going left:List za} {out:List zn},(∀ r∈l,∀ t∈r.xTests,TV t)→aB going→aB left→IV out→out.length≤60→Uok (url call l going left out)
 | [],going,left,out,_,hg,hl,ho,h60=>by
  intro l o h
  unfold url at h
  split at h
  ·rename_i q
   injection h with h;injection h with h1 h2;subst h1 h2
   exact ⟨YW.2 ⟨hl,hg⟩,q,ho,h60⟩
  ·cases h
 | r :: rs,going,left,out,ht,hg,hl,ho,h60=>by
  have hw:=zbl (ht r (by simp))
  have htr:∀ r∈rs,∀ t∈r.xTests,TV t:=fun x hx=>ht x (by simp [hx])
  have hfB:=zfZ hg hw
  have hmB:=VG hg hw
  intro l o h
  unfold url at h
  split at h
  ·rename_i q
   split at h
   ·split at h
    ·rename_i q2
     exact zeK hcall htr hmB hl (zhP ho (zhU hfB q.1.1)) q2 l o h
    ·cases h
   ·split at h
    ·exact zeK hcall htr hmB (YW.2 ⟨hl,hfB⟩) ho h60 l o h
    ·split at h
     ·split at h
      ·cases h
      ·rename_i b o' hb
       obtain ⟨c1,c2,c3,c4⟩:=hcall _ _ _ hfB q.1 ho h60 _ _ hb
       split at h
       ·exact zeK hcall htr (YW.2 ⟨hmB,c1⟩) hl c3 c4 l o h
       ·cases h
     ·split at h
      ·exact zeK hcall htr (YW.2 ⟨hmB,hfB⟩) hl ho h60 l o h
      ·cases h
  ·cases h
def TVs (cs:List (List zE)):Prop:=∀ c∈cs,∀ r∈c,∀ t∈r.xTests,TV t
theorem TVs.chn {cs:List (List zE)} (h:TVs cs) (i:Nat):∀ r∈chn cs i,∀ t∈r.xTests,TV t:=by
 unfold Go.Proofs.YtgpdnnhmndlljaaGreatDoor.chn
 cases e:cs[i]? with
 | none=>simp
 | some c=>exact h c (List.mem_of_getElem? e)
theorem SV.tvs {s:zQ} (h:SV s):TVs s.xChains:=fun c hc r hr=>((h.1.2 c hc).2 r hr).1.1.1
theorem zlq {cs:List (List zE)} (ht:TVs cs):∀ n i b o,aB b→okR b→IV o→o.length≤60→Uok (uc cs n i b o)
 | 0,i,b,o,_,_,_,_=>fun l o h=>by cases h
 | n+1,i,b,o,hb,hk,ho,h60=>zeK (zlq ht n) (ht.chn i) hb (fun c hc=>by simp at hc) ho h60
theorem zl3 {cs:List (List zE)} (ht:TVs cs) (i:Nat) {b:List za} {o:List zn} (hb:aB b) (hk:okR b) (ho:IV o) (h60:o.length≤60):Uok (U cs i b o):=zlq ht _ i b o hb hk ho h60
end
section
open Go Go.Proofs
theorem UE {cs:List (List zE)} {fl:List zn} {over:Bool} {bs:List za} {κ:List za×Bool→Prop} (h1:400<bs.length→κ (bs,true)) (h2:bs.length≤400→κ (bs,over)):xl cs fl over bs κ:=by
 unfold xl
 exact xQ (zo (fun e=>h1 (by simp at e;omega)) (fun e=>h2 (by simp at e;omega)))
theorem zmA {n:Int} (h0:0≤n) (h1:n≤4294967296) {κ:List za→Prop} (h:κ []):uO [] n κ:=⟨rfl,h0,h1,h⟩
theorem zb6 {x y:List za} (hx:x.length≤1000000) (hy:y.length≤1000000) {κ:List za→Prop} (h:κ (x++y)):jZ [x,y] κ:=by
 unfold jZ
 refine ⟨3,?_⟩
 refine jA (zp 0 rfl (by simp) (zC (by first | (simp;done) | (simp;omega)) (by first | (simp;done) | (simp;omega)) (zo (fun e=>by have:=of_decide_eq_true e;omega) (fun _=>zC (by omega) (by omega) ?_))))
 refine jA (zp 1 rfl (by simp) (zC (by first | (simp;done) | (simp;omega)) (by first | (simp;done) | (simp;omega)) (zo (fun e=>by have:=of_decide_eq_true e;omega) (fun _=>zC (by omega) (by omega) ?_))))
 refine xi (zmA (by simp;omega) (by simp;omega) ⟨3,?_⟩)
 refine jA (zp 0 rfl (by simp) (jo (by simp;omega) (zC (by omega) (by omega) ?_)))
 refine jA (zp 1 rfl (by simp) (jo (by simp;omega) (zC (by omega) (by omega) ?_)))
 exact xi h
theorem zjF {cs:List (List zE)} {fl:List zn} {bs:List za} {w:za} (hB:aB bs) (hF:VT bs) (hl:bs.length≤400) (hw:B4 w) {κ:List za×List za×Bool→Prop}
  (h1:okR (Xu bs w)→okR (xR bs w)→κ (Xu bs w,xR bs w,false)) (h2:¬ (okR (Xu bs w)∧okR (xR bs w))→∀ x y,κ (x,y,true)):yE cs fl false bs w κ:=by
 unfold yE
 refine z6 bs.length (fun s=>s.2.2) (fun k (s:List za×List za×Int)=>s.2.2=(k:Int)∧k≤bs.length∧s.1=Xu (bs.take k) w∧s.2.1=xR (bs.take k) w∧VT (Xu (bs.take k) w)∧VT (xR (bs.take k) w)) (fun k s h=>h.1) (fun k s h=>h.2.1) ?_ ⟨rfl,by omega,by simp [Xu],by simp [xR],by simp [Xu,VT],by simp [xR,VT]⟩
 rintro k ⟨_,_,_⟩ next ⟨rfl,hk,hx,hy,hfx,hfy⟩ hn
 simp only at hx hy
 subst hx hy
 refine zo (fun hc=>?_) (fun hc=>?_)
 ·have hlt:k<bs.length:=by simpa using hc
  have hbB:=hB _ (List.getElem_mem hlt)
  have hbF:=hF _ (List.getElem_mem hlt)
  have hs:bs=bs.take k++(bs[k] :: bs.drop (k+1)):=by rw [← List.drop_eq_getElem_cons hlt,List.take_append_drop]
  have hfl:=zb8 (bs.take k) w
  have hml:=V4 (bs.take k) w
  rw [List.length_take] at hfl hml
  refine zp k rfl hlt (xQ ?_)
  have ef:Xu (bs.take (k+1)) w=Xu (bs.take k) w++(if em4 (uL bs[k] w) then [] else [uL bs[k] w]):=by
   rw [List.take_succ_eq_append_getElem hlt,zba,zca]
  have em:xR (bs.take (k+1)) w=xR (bs.take k) w++Yj bs[k] w:=by
   rw [List.take_succ_eq_append_getElem hlt,Xr,Y1]
  have second:∀ xs,xs=Xu (bs.take (k+1)) w→VT xs→yh bs[k] w (fun (r286,r289)=>ifW (!r289) (κ ([],[],true)) (xm (xR (bs.take k) w) r286 (fun _=>js (k:Int) 1 (fun t294=>next (xs,((xR (bs.take k) w)++r286),t294))))):=by
   rintro _ rfl hxf
   refine zed hbB hw hbF ?_
   by_cases hFc:∀ c∈Yj bs[k] w,F4 c
   ·rw [show zeH bs[k] w=(Yj bs[k] w,true) from if_pos hFc]
    have:=zaQ bs[k] w
    refine xi (jo (by omega) (zC (by omega) (by omega) (hn hlt _ ⟨by simp,by omega,rfl,em.symm,hxf,?_⟩)))
    rw [em];exact yA.2 ⟨hfy,hFc⟩
   ·rw [show zeH bs[k] w=([],false) from if_neg hFc]
    refine jA (h2 (fun q=>hFc ?_) _ _)
    have:=q.2.1
    rw [hs,Xr,show bs[k] :: bs.drop (k+1)=[bs[k]]++bs.drop (k+1) from rfl,Xr,Y1] at this
    exact (yA.1 (yA.1 this).2).1
  refine zfU hbB hw (zo (fun e=>?_) (fun e=>?_))
  ·have e':em4 (uL bs[k] w)=false:=by simpa using e
   refine zkT hbB hw ?_
   by_cases hm:F4 (uL bs[k] w)
   ·rw [show zkj (uL bs[k] w)=(uL bs[k] w,true) from if_pos hm]
    refine xi (jo (by simp;omega) (second _ ?_ ?_))
    ·rw [ef,e'];simp
    ·refine yA.2 ⟨hfx,fun c hc=>?_⟩
     rw [List.mem_singleton] at hc;subst hc;exact hm
   ·rw [show zkj (uL bs[k] w)=(zda,false) from if_neg hm]
    refine jA (h2 (fun q=>hm ?_) _ _)
    have:=q.1.1
    rw [hs,zba,show bs[k] :: bs.drop (k+1)=[bs[k]]++bs.drop (k+1) from rfl,zba,zca,e'] at this
    exact (yA.1 (yA.1 this).2).1 _ (by simp)
  ·have e':em4 (uL bs[k] w)=true:=by simpa using e
   refine second _ ?_ hfx
   rw [ef,e'];simp
 ·have hge:bs.length≤k:=by simpa using hc
  rw [List.take_of_length_le hge] at hfx hfy ⊢
  refine UE (fun q1=>?_) (fun q1=>?_)
  ·have no:¬ (okR (Xu bs w)∧okR (xR bs w)):=fun q=>by have:=q.1.2;omega
   exact UE (fun _=>h2 no _ _) (fun _=>h2 no _ _)
  ·refine UE (fun q2=>?_) (fun q2=>h1 ⟨hfx,q1⟩ ⟨hfy,q2⟩)
   exact h2 (fun q=>by have:=q.2.2;omega) _ _
def Cw (o:UR) (κ:List za×List zn×Bool→Prop):Prop:=match o with | some (l,out)=>κ (l,out,false) | none=>∀ l out,l.length≤10000→κ (l,out,true)
theorem zlh {l:List za} {o:List zn} {κ:List za×List zn×Bool→Prop} (h:κ (l,o,false)):Cw (some (l,o)) κ:=h
theorem zh5 {d:uU} {cs:List (List zE)} {fl:List zn} {x fit miss:List za} (hf:fl.length≤60) (hl:fit.length≤400) {κ:List za×List zn×Bool→Prop} (h1:60<(fl++dec fit d.xAccept).length→κ (miss,fl++dec fit d.xAccept,true)) (h2:(fl++dec fit d.xAccept).length≤60→κ (miss,fl++dec fit d.xAccept,false)):uZ d cs fl false x fit miss κ:=by
 unfold uZ
 refine z6 fit.length (fun s=>s.2) (fun k (s:List zn×Int)=>s.2=(k:Int)∧k≤fit.length∧s.1=fl++dec (fit.take k) d.xAccept) (fun k s h=>h.1) (fun k s h=>h.2.1) ?_ ⟨rfl,by omega,by simp [dec]⟩
 rintro k ⟨_,_⟩ next ⟨rfl,hk,hx⟩ hn
 simp only at hx
 subst hx
 have hln:(fl++dec (fit.take k) d.xAccept).length≤460:=by rw [List.length_append,zg5,List.length_take];omega
 refine zo (fun hc=>?_) (fun hc=>?_)
 ·have hlt:k<fit.length:=by simpa using hc
  refine zp k rfl hlt (xQ (jo (by simp only [List.length_singleton];omega) (zC (by omega) (by omega) (hn hlt _ ⟨by simp,by omega,?_⟩))))
  unfold dec
  rw [List.take_succ_eq_append_getElem hlt,List.map_append,← List.append_assoc];rfl
 ·have hge:fit.length≤k:=by simpa using hc
  rw [List.take_of_length_le hge]
  exact xQ (zo (fun e=>h1 (by simp at e;simp;omega)) (fun e=>h2 (by simp at e;simp;omega)))
theorem zaA {x:uU} {p0:uU→Prop} {p1:Z2→Prop} {p2:uo→Prop} {p3:yc→Prop} (h:p0 x):xS.casesW (.kDeciding x) p0 p1 p2 p3:=h
theorem zej {x:Z2} {p0:uU→Prop} {p1:Z2→Prop} {p2:uo→Prop} {p3:yc→Prop} (h:p1 x):xS.casesW (.kCalling x) p0 p1 p2 p3:=h
theorem zcT {x:uo} {p0:uU→Prop} {p1:Z2→Prop} {p2:uo→Prop} {p3:yc→Prop} (h:p2 x):xS.casesW (.kReturning x) p0 p1 p2 p3:=h
theorem zeg {x:yc} {p0:uU→Prop} {p1:Z2→Prop} {p2:uo→Prop} {p3:yc→Prop} (h:p3 x):xS.casesW (.kPassing x) p0 p1 p2 p3:=h
theorem zj7 {cs:List (List zE)} (hcn:Cn cs) (hs:∀ i,i<cs.length→Sf cs i) (hc5:∀ c∈cs,c.length≤8∧∀ r∈c,TsV r.xTests∧(r.xAction=3→0≤r.xChain∧r.xChain<cs.length)):∀ (n i:Nat) (boxes:List za) (out:List zn) (κ:List za×List zn×Bool→Prop),Hh cs n i→i<cs.length→aB boxes→okR boxes→IV out→out.length≤60→Cw (U cs i boxes out) κ→uq n cs out false i boxes κ:=by
 have htv:TVs cs:=fun c hc r hr=>((hc5 c hc).2 r hr).1.1
 intro n
 induction n with
 | zero=>intro i boxes out κ h;exact h.elim
 | succ n ih =>
  intro i boxes out κ hh hi hB hO hIV h60 h
  show Zh (uq n) cs out false i boxes κ
  unfold Zh
  refine zo (fun e=>?_) (fun e=>?_)
  ·have:boxes=[]:=by
    have:(boxes.length:Int)=0:=of_decide_eq_true e
    exact List.length_eq_zero_iff.1 (by omega)
   subst this
   rw [zm2 hcn hs i h60] at h
   exact h
  clear e
  obtain ⟨h8,hrv⟩:=hc5 _ (List.getElem_mem hi)
  rw [zlD hcn hs i,zcS hi] at h
  have hci:=zcS hi
  refine zp i rfl hi ?_
  generalize hcc:cs[i]=c at *
  generalize hT:url (U cs) c boxes [] out=T at *
  refine z6 c.length (fun s=>s.2.2.2.2) (fun k (s:List za×List zn×Bool×List za×Int)=>s.2.2.2.2=(k:Int)∧k≤c.length∧s.2.2.1=false∧(aB s.1∧VT s.1∧s.1.length≤400 * k)∧(IV s.2.1∧s.2.1.length≤60)∧(aB s.2.2.2.1∧okR s.2.2.2.1)∧T=url (U cs) (c.drop k) s.2.2.2.1 s.1 s.2.1) (fun k s h=>h.1) (fun k s h=>h.2.1) ?_ ⟨rfl,by omega,rfl,⟨zfX,ze7,by simp⟩,⟨hIV,h60⟩,⟨hB,hO⟩,hT.symm⟩
  rintro k ⟨left,fls,_,going,_⟩ next ⟨rfl,hk,rfl,⟨hlB,hlF,hll⟩,⟨hfI,hf60⟩,⟨hgB,hgO⟩,he⟩ hn
  simp only at hlB hlF hll hfI hf60 hgB hgO he
  have hl4:left.length≤3200:=by omega
  have hg4:=hgO.2
  refine zo (fun hc=>?_) (fun hc=>?_)
  ·have hlt:k<c.length:=by simpa using hc
   obtain ⟨hts,hcall⟩:=hrv _ (List.getElem_mem hlt)
   rw [List.drop_eq_getElem_cons hlt] at he
   unfold url at he
   refine xQ (zp k rfl hlt (zf8 hts ?_))
   have hw:=zbl hts.1
   have hm:c[k]∈c:=List.getElem_mem hlt
   have hmc:c[k]∈chn cs i:=by rw [hci];exact hm
   generalize c[k]=r at *
   have hfB:=zfZ hgB hw
   have hmB:=VG hgB hw
   have hfl:=zb8 going (ZC r.xTests)
   have hml:=V4 going (ZC r.xTests)
   refine zjF hgB hgO.1 hg4 hw (fun o1 o2=>xi ?_) (fun q x y=>jA ?_)
   rotate_left
   ·rw [if_neg q] at he
    rw [he] at h
    exact h _ _ (by simp)
   rw [if_pos ⟨o1,o2⟩] at he
   generalize Xu going (ZC r.xTests)=fit at *
   generalize xR going (ZC r.xTests)=miss at *
   have stop:∀ o,T=none→κ ([],o,true):=fun o q=>by rw [q] at h;exact h _ _ (by simp)
   have go:∀ left' fls' going',(aB left'∧VT left'∧left'.length≤400 * (k+1))→(IV fls'∧fls'.length≤60)→(aB going'∧okR going')→T=url (U cs) (c.drop (k+1)) going' left' fls'→js (k:Int) 1 (fun t183=>next (left',fls',false,going',t183)):=fun left' fls' going' a1 a2 a3 a4=>zC (by omega) (by omega) (hn hlt _ ⟨by simp,by omega,rfl,a1,a2,a3,a4⟩)
   have decide12:∀ a:Bool,(r.xAction=1∨r.xAction=2)→a=decide (r.xAction=1)→uZ (uU.mk a) cs fls false left fit miss (fun (r68,r71,r74)=>xl cs r71 r74 r68 (fun (r75,r78)=>ifW r78 (κ ([],r71,r78)) (js (k:Int) 1 (fun t183=>next (left,r71,r78,r75,t183))))):=by
    intro a ha hq
    subst hq
    rw [if_pos ha] at he
    refine zh5 hf60 o1.2 (fun q=>?_) (fun q=>?_)
    ·have q':60<(fls++dec fit (decide (r.xAction=1))).length:=q
     rw [if_neg (by omega)] at he
     exact UE (fun _=>jA (stop _ he)) (fun _=>jA (stop _ he))
    ·rw [if_pos q] at he
     refine UE (fun q2=>absurd q2 (by have:=o2.2;omega)) (fun _=>xi ?_)
     exact go _ _ _ ⟨hlB,hlF,by omega⟩ ⟨zhP hfI (zhU hfB o1.1),q⟩ ⟨hmB,o2⟩ he
   unfold Zn
   refine zo (fun e=>zaA (decide12 true (.inl (of_decide_eq_true e)) (by rw [e]))) (fun e=>?_)
   have n1:¬ r.xAction=1:=of_decide_eq_false e
   refine zo (fun e2=>zaA (decide12 false (.inr (of_decide_eq_true e2)) (by rw [e]))) (fun e2=>?_)
   have n2:¬ r.xAction=2:=of_decide_eq_false e2
   rw [if_neg (fun q=>q.elim n1 n2)] at he
   refine zo (fun e3=>?_) (fun e3=>?_)
   ·have h3:r.xAction=3:=of_decide_eq_true e3
    rw [if_neg (by omega),if_pos h3] at he
    obtain ⟨c0,c1⟩:=hcall h3
    obtain ⟨j,hj⟩:=Int.eq_ofNat_of_zero_le c0
    refine zej ?_
    unfold Xs
    have hca:=zbV hmc h3 c0
    rw [hj] at he hca c1 ⊢
    refine ih j fit fls _ (hh j (by simpa using hca)) (by omega) hfB o1 hfI hf60 ?_
    have hj':((j:Int)).toNat=j:=by simp
    rw [hj'] at he
    cases hU:U cs j fit fls with
    | none =>
     rw [hU] at he
     intro l o hl
     exact zb6 (by have:=o2.2;omega) (by omega) (UE (fun _=>jA (stop _ he)) (fun _=>jA (stop _ he)))
    | some bo =>
     obtain ⟨b,o⟩:=bo
     rw [hU] at he
     obtain ⟨u1,u2,u3,u4⟩:=zl3 htv j hfB o1 hfI hf60 _ _ hU
     simp only at he
     refine zlh ?_
     refine zb6 (by have:=o2.2;omega) (by have:=u2.2;omega) (UE (fun q=>jA (stop _ ?_)) (fun q=>xi ?_))
     ·rw [if_neg (fun q2=>by have:=q2.2;omega)] at he;exact he
     ·have ok:okR (miss++b):=⟨yA.2 ⟨o2.1,u2.1⟩,q⟩
      rw [if_pos ok] at he
      exact go _ _ _ ⟨hlB,hlF,by omega⟩ ⟨u3,u4⟩ ⟨YW.2 ⟨hmB,u1⟩,ok⟩ he
   ·have n3:¬ r.xAction=3:=of_decide_eq_false e3
    refine zo (fun e4=>?_) (fun e4=>?_)
    ·have h4:r.xAction=4:=of_decide_eq_true e4
     rw [if_pos h4] at he
     refine zcT ?_
     unfold ZY
     have:=o1.2
     refine jo (by omega) (UE (fun q=>absurd q (by have:=o2.2;omega)) (fun _=>xi ?_))
     exact go _ _ _ ⟨YW.2 ⟨hlB,hfB⟩,yA.2 ⟨hlF,o1.1⟩,by rw [List.length_append];omega⟩ ⟨hfI,hf60⟩ ⟨hmB,o2⟩ he
    ·have n4:¬ r.xAction=4:=of_decide_eq_false e4
     rw [if_neg n4,if_neg n3] at he
     refine zeg ?_
     unfold Xt
     have:=o1.2
     refine zb6 (by have:=o2.2;omega) (by omega) (UE (fun q=>jA (stop _ ?_)) (fun q=>xi ?_))
     ·rw [if_neg (fun q2=>by have:=q2.2;omega)] at he;exact he
     ·have ok:okR (miss++fit):=⟨yA.2 ⟨o2.1,o1.1⟩,q⟩
      rw [if_pos ok] at he
      exact go _ _ _ ⟨hlB,hlF,by omega⟩ ⟨hfI,hf60⟩ ⟨YW.2 ⟨hmB,hfB⟩,ok⟩ he
  ·have hge:c.length≤k:=by simpa using hc
   rw [List.drop_of_length_le hge] at he
   unfold url at he
   rw [he] at h
   refine zb6 (by omega) (by omega) (UE (fun q=>?_) (fun q=>?_))
   ·rw [if_neg (fun q2=>by have:=q2.2;omega)] at h
    exact h _ _ (by rw [List.length_append];omega)
   ·rw [if_pos ⟨yA.2 ⟨hlF,hgO.1⟩,q⟩] at h
    exact h
noncomputable def uf (s:zQ):Option (List zn):=(U s.xChains 0 [za8] []).map (·.2)
theorem SV.c5 {s:zQ} (h:SV s):∀ c∈s.xChains,c.length≤8∧∀ r∈c,TsV r.xTests∧(r.xAction=3→0≤r.xChain∧r.xChain<s.xChains.length):=fun c hc=>⟨(h.1.2 c hc).1,fun r hr=>⟨((h.1.2 c hc).2 r hr).1.1,fun h3=>⟨(((h.1.2 c hc).2 r hr).1.2.2.2.1 h3).1,((h.1.2 c hc).2 r hr).2⟩⟩⟩
theorem zes:okR [za8]:=⟨fun c hc=>by
 rw [List.mem_singleton] at hc;subst hc
 exact zhG (fun f h0 h1=>by have:=zgy f h0 h1;omega),by simp⟩
theorem zdX:aB [za8]:=fun c hc=>by rw [List.mem_singleton] at hc;subst hc;exact zgu
theorem zeQ {s:zQ} (h:SV s) {l:List zn} (he:uf s=some l):IV l∧l.length≤60:=by
 unfold uf at he
 cases hU:U s.xChains 0 [za8] [] with
 | none=>rw [hU] at he;cases he
 | some bo =>
  obtain ⟨b,o⟩:=bo
  rw [hU] at he
  simp only [Option.map_some,Option.some.injEq] at he
  subst he
  have:=zl3 h.tvs 0 zdX zes zhV (by simp) _ _ hU
  exact ⟨this.2.2.1,this.2.2.2⟩
theorem zbC {s:zQ} (hv':SV s) {κ:List zn×Bool→Prop} (h1:∀ l,uf s=some l→κ (l,true)) (h2:uf s=none→∀ l,κ (l,false)):Zc s κ:=by
 unfold Zc
 refine zeD ⟨jN s.xChains+1,zj7 hv'.cn hv'.2.2 hv'.c5 _ 0 _ _ _ (zfF hv'.2.2 0) hv'.2.1 zdX zes zhV (by simp) ?_⟩
 unfold uf at h1 h2
 cases hU:U s.xChains 0 [za8] [] with
 | none=>rw [hU] at h2;exact fun l o _=>h2 rfl o
 | some bo =>
  obtain ⟨b,o⟩:=bo
  rw [hU] at h1
  exact h1 o rfl
end
section
open Go Go.Proofs
def gf (f:zn):zV:=⟨bx f.xWhere,f.xAccept⟩
theorem ziT (l:List zn):(l.map gf).map fl=l:=by
 rw [List.map_map]
 exact List.map_id' l
theorem zdz {l:List zn} (h:IV l) (hl:l.length≤60):FV (l.map gf):=⟨by simpa using hl,fun f hf=>by
 obtain ⟨g,hg,rfl⟩:=List.mem_map.1 hf
 exact zeW.2 (h g hg)⟩
theorem zmB {a:za} (h:B4 a):Bb (bx a):=⟨by simp [bx],fun x hx=>zbP h x hx⟩
theorem zfi {l:List za} (hB:aB l) (hl:l.length≤1000000) {κ:Bool→Prop} (h:κ (decide (okR l))):xG (l.map bx) κ:=by
 unfold xG
 refine z6 l.length (fun s=>s) (fun k s=>s=(k:Int)∧k≤l.length∧VT (l.take k)) (fun k s h=>h.1) (fun k s h=>h.2.1) ?_ ⟨rfl,by omega,by simp [VT]⟩
 rintro k _ next ⟨rfl,hk,hv'⟩ hn
 refine zo (fun hc=>?_) (fun hc=>?_)
 ·have hlt:k<l.length:=by simpa using hc
  have hb:=hB _ (List.getElem_mem hlt)
  refine zp k rfl (by simpa using hlt) ?_
  rw [List.getElem_map]
  refine Zr (zmB hb) (zo (fun e=>?_) (fun e=>?_))
  ·have:¬ BV (bx l[k]):=by simpa using e
   rw [decide_eq_false (fun q=>this (zeW.2 ⟨hb,q.1 _ (List.getElem_mem hlt)⟩))] at h;exact h
  ·have:BV (bx l[k]):=by simpa using e
   refine zC (by omega) (by omega) (hn hlt _ ⟨by simp,by omega,?_⟩)
   rw [List.take_succ_eq_append_getElem hlt]
   refine yA.2 ⟨hv',fun c hc=>?_⟩
   rw [List.mem_singleton] at hc;subst hc;exact this.f4
 ·have hge:l.length≤k:=by simpa using hc
  rw [List.take_of_length_le hge] at hv'
  rw [show decide (okR l)=decide (((l.map bx).length:Int)≤400) from decide_eq_decide.2 ⟨fun q=>by have:=q.2;simp;omega,fun q=>⟨hv',by simp at q;omega⟩⟩] at h
  exact h
theorem ZZ {l:List za} (hB:aB l) (hl:l.length≤1000000) {κ:Bool→Prop} (h1:okR l→κ true) (h2:¬ okR l→κ false):xG (l.map bx) κ:=by
 refine zfi hB hl ?_
 by_cases h:okR l
 ·rw [decide_eq_true h];exact h1 h
 ·rw [decide_eq_false h];exact h2 h
def Sw (o:UR) (κ:List ji×Bool×List zV→Prop):Prop:=match o with | some (l,out)=>κ (l.map bx,true,out.map gf) | none=>∀ l out,κ (l,false,out)
theorem zlb {l:List za} {o:List zn} {κ:List ji×Bool×List zV→Prop} (h:κ (l.map bx,true,o.map gf)):Sw (some (l,o)) κ:=h
theorem zmg {s:zQ} (hv:SV s):∀ (n i:Nat) (boxes:List za) (out:List zn) (κ:List ji×Bool×List zV→Prop),Hh s.xChains n i→i<s.xChains.length→aB boxes→okR boxes→IV out→out.length≤60→Sw (U s.xChains i boxes out) κ→yU n s i (boxes.map bx) (out.map gf) κ:=by
 have hcn:=hv.cn
 have hs:=hv.2.2
 have hc5:=hv.c5
 have htv:=hv.tvs
 intro n
 induction n with
 | zero=>intro i boxes out κ h;exact h.elim
 | succ n ih =>
  intro i boxes out κ hh hi hB hO hIV h60 h
  show Ul (yU n) s i (boxes.map bx) (out.map gf) κ
  unfold Ul
  obtain ⟨h8,hrv⟩:=hc5 _ (List.getElem_mem hi)
  rw [zlD hcn hs i,zcS hi] at h
  have hci:=zcS hi
  have ix:∀ (K:List zE→Prop),K s.xChains[i]→zH s.xChains (i:Int) K:=fun K hK=>zp i rfl hi hK
  generalize hcc:s.xChains[i]=c at *
  generalize hT:url (U s.xChains) c boxes [] out=T at *
  refine z6 c.length (fun s=>s.2.2.2) (fun k (st:List zV×List ji×List ji×Int)=>st.2.2.2=(k:Int)∧k≤c.length∧∃ fls going left,st.1=fls.map gf∧st.2.1=going.map bx∧st.2.2.1=left.map bx∧(aB left∧okR left)∧(IV fls∧fls.length≤60)∧(aB going∧okR going)∧T=url (U s.xChains) (c.drop k) going left fls) (fun k s h=>h.1) (fun k s h=>h.2.1) ?_ ⟨rfl,by omega,out,boxes,[],rfl,rfl,rfl,⟨zfX,zbg⟩,⟨hIV,h60⟩,⟨hB,hO⟩,hT.symm⟩
  rintro k ⟨_,_,_,_⟩ next ⟨rfl,hk,fls,going,left,e1,e2,e3,⟨hlB,hlO⟩,⟨hfI,hf60⟩,⟨hgB,hgO⟩,he⟩ hn
  simp only at e1 e2 e3
  subst e1 e2 e3
  have hl4:=hlO.2
  have hg4:=hgO.2
  refine ix _ (zo (fun hc=>?_) (fun hc=>?_))
  ·have hlt:k<c.length:=by simpa using hc
   obtain ⟨hts,hcall⟩:=hrv _ (List.getElem_mem hlt)
   rw [List.drop_eq_getElem_cons hlt] at he
   unfold url at he
   refine ix _ (zp k rfl hlt (zh2 hts ?_))
   have hw:=zbl hts.1
   have hm:c[k]∈c:=List.getElem_mem hlt
   have hmc:c[k]∈chn s.xChains i:=by rw [hci];exact hm
   generalize c[k]=r at *
   have hfB:=zfZ hgB hw
   have hmB:=VG hgB hw
   have hfl:=zb8 going (ZC r.xTests)
   have hml:=V4 going (ZC r.xTests)
   generalize ZC r.xTests=w at *
   refine z6 going.length (fun s=>s.2.2) (fun j (st:List ji×List ji×Int)=>st.2.2=(j:Int)∧j≤going.length∧st.1=(Xu (going.take j) w).map bx∧st.2.1=(xR (going.take j) w).map bx) (fun k s h=>h.1) (fun k s h=>h.2.1) ?_ ⟨rfl,by omega,by simp [Xu],by simp [xR]⟩
   rintro j ⟨_,_,_⟩ next2 ⟨rfl,hj,hx,hy⟩ hn2
   simp only at hx hy
   subst hx hy
   refine zo (fun hc2=>?_) (fun hc2=>?_)
   ·have hjl:j<going.length:=by simpa using hc2
    have hbB:=hgB _ (List.getElem_mem hjl)
    have hf2:=zb8 (going.take j) w
    have hm2:=V4 (going.take j) w
    rw [List.length_take] at hf2 hm2
    have ix2:∀ (K:ji→Prop),K (bx going[j])→zH (going.map bx) (j:Int) K:=fun K hK=>zp j rfl (by simpa using hjl) (by rw [List.getElem_map];exact hK)
    have ef:Xu (going.take (j+1)) w=Xu (going.take j) w++(if em4 (uL going[j] w) then [] else [uL going[j] w]):=by
     rw [List.take_succ_eq_append_getElem hjl,zba,zca]
    have em:xR (going.take (j+1)) w=xR (going.take j) w++Yj going[j] w:=by
     rw [List.take_succ_eq_append_getElem hjl,Xr,Y1]
    have hcl:=zaQ going[j] w
    have second:∀ xs,xs=(Xu (going.take (j+1)) w).map bx→zH (going.map bx) (j:Int) (fun e195=>yM e195 (bx w) (fun r201=>xm ((xR (going.take j) w).map bx) r201 (fun _=>js (j:Int) 1 (fun t206=>next2 (xs,(((xR (going.take j) w).map bx)++r201),t206))))):=by
     rintro _ rfl
     refine ix2 _ (zep hbB hw (jo (by simp only [List.length_map];omega) (zC (by omega) (by omega) (hn2 hjl _ ⟨by simp,by omega,rfl,?_⟩))))
     rw [em,List.map_append]
    refine xQ (xQ (ix2 _ (zfS hbB hw ?_)))
    refine zak (a:=uL going[j] w) (zo (fun e=>?_) (fun e=>?_))
    ·have e':em4 (uL going[j] w)=false:=by simpa using e
     refine jo (by simp only [List.length_map,List.length_singleton];omega) (second _ ?_)
     rw [ef,e',List.map_append];rfl
    ·have e':em4 (uL going[j] w)=true:=by simpa using e
     refine second _ ?_
     rw [ef,e'];simp
   ·have hjge:going.length≤j:=by simpa using hc2
    rw [List.take_of_length_le hjge]
    have stop:∀ l o,T=none→κ (l,false,o):=fun l o q=>by rw [q] at h;exact h _ _
    refine xQ (ZZ hfB (by omega) (fun o1=>xi (ZZ hmB (by omega) (fun o2=>xi ?_) (fun no=>jA (stop _ _ ?_)))) (fun no=>jA (jA (stop _ _ ?_))))
    rotate_left
    ·rw [if_neg (fun q=>no q.2)] at he;exact he
    ·rw [if_neg (fun q=>no q.1)] at he;exact he
    rw [if_pos ⟨o1,o2⟩] at he
    generalize Xu going w=fit at *
    generalize xR going w=miss at *
    refine zfs (fun (t:List ji×List ji×List zV)=>∃ left' going' fls',t=(List.map bx left',List.map bx going',List.map gf fls')∧aB left'∧VT left'∧left'.length≤100000∧aB going'∧going'.length≤100000∧IV fls'∧(okR going'→okR left'→fls'.length≤60→T=url (U s.xChains) (c.drop (k+1)) going' left' fls')∧(¬ (okR going'∧okR left'∧fls'.length≤60)→T=none)) ?_ ?_
    ·rintro _ ⟨left',going',fls',rfl,a1,a2,a3,a4,a5,a6,a7,a8⟩
     refine xQ (ZZ a4 (by omega) (fun b1=>xi (ZZ a1 (by omega) (fun b2=>xi (zo (fun e=>?_) (fun e=>?_))) (fun no=>jA (jA (stop _ _ (a8 (fun q=>no q.2.1))))))) (fun no=>jA (jA (stop _ _ (a8 (fun q=>no q.1))))))
     ·have:60<fls'.length:=by have:=of_decide_eq_true e;simp only [List.length_map] at this;omega
      exact stop _ _ (a8 (fun q=>by have:=q.2.2;omega))
     ·have h6:fls'.length≤60:=by have:=of_decide_eq_false e;simp only [List.length_map] at this;omega
      exact zC (by omega) (by omega) (hn hlt _ ⟨by simp,by omega,fls',going',left',rfl,rfl,rfl,⟨a1,b2⟩,⟨a6,h6⟩,⟨a4,b1⟩,a7 b1 b2 h6⟩)
    intro K hK
    have hfl4:=o1.2
    have hml4:=o2.2
    refine zfs (fun t=>t=decide (r.xAction=1∨r.xAction=2)) ?_ (fun K2 hK2=>?_)
    rotate_left
    ·have hK2:=hK2 _ rfl
     refine zo (fun e=>?_) (fun e=>?_)
     ·rw [e];rw [decide_eq_true (.inl (of_decide_eq_true e))] at hK2;exact hK2
     ·have n1:=of_decide_eq_false e
      rw [show decide (r.xAction=2)=decide (r.xAction=1∨r.xAction=2) from decide_eq_decide.2 ⟨.inr,fun q=>q.resolve_left n1⟩];exact hK2
    rintro _ rfl
    refine zo (fun e=>?_) (fun e=>?_)
    ·have ha:=of_decide_eq_true e
     rw [if_pos ha] at he
     refine z6 fit.length (fun s=>s.2) (fun j (st:List zV×Int)=>st.2=(j:Int)∧j≤fit.length∧st.1=(fls++dec (fit.take j) (decide (r.xAction=1))).map gf) (fun k s h=>h.1) (fun k s h=>h.2.1) ?_ ⟨rfl,by omega,by simp [dec]⟩
     rintro j2 ⟨_,_⟩ next3 ⟨rfl,hj2,hx2⟩ hn3
     simp only at hx2
     subst hx2
     refine zo (fun hc3=>?_) (fun hc3=>?_)
     ·have hjl:j2<fit.length:=by simpa using hc3
      refine xQ (zp j2 rfl (by simpa using hjl) ?_)
      rw [List.getElem_map]
      refine jo (by simp only [List.length_map,List.length_append,zg5,List.length_take,List.length_singleton];omega) (zC (by omega) (by omega) (hn3 hjl _ ⟨by simp,by omega,?_⟩))
      simp only [dec,List.take_succ_eq_append_getElem hjl,List.map_append,List.map_cons,List.map_nil,List.append_assoc]
      rfl
     ·have hjge:fit.length≤j2:=by simpa using hc3
      rw [List.take_of_length_le hjge]
      refine hK _ ⟨left,miss,_,rfl,hlB,hlO.1,by omega,hmB,by omega,zhP hfI (zhU hfB o1.1),fun _ _ q=>?_,fun q=>?_⟩
      ·rw [if_pos q] at he;exact he
      ·rw [if_neg (fun q2=>q ⟨o2,hlO,q2⟩)] at he;exact he
    have n12:=of_decide_eq_false e
    rw [if_neg n12] at he
    refine zo (fun e4=>?_) (fun e4=>?_)
    ·rw [if_pos (of_decide_eq_true e4)] at he
     refine jo (by simp only [List.length_map];omega) ?_
     refine hK _ ⟨left++fit,miss,fls,by rw [List.map_append],YW.2 ⟨hlB,hfB⟩,yA.2 ⟨hlO.1,o1.1⟩,by rw [List.length_append];omega,hmB,by omega,hfI,fun _ _ _=>he,fun q=>?_⟩
     rw [he]
     exact zf6 (Nat.lt_of_not_le (fun q2=>q ⟨o2,⟨yA.2 ⟨hlO.1,o1.1⟩,q2⟩,hf60⟩))
    ·rw [if_neg (of_decide_eq_false e4)] at he
     refine zo (fun e3=>?_) (fun e3=>?_)
     ·have h3:=of_decide_eq_true e3
      rw [if_pos h3] at he
      obtain ⟨c0,c1⟩:=hcall h3
      obtain ⟨j,hj⟩:=Int.eq_ofNat_of_zero_le c0
      have hca:=zbV hmc h3 c0
      rw [hj] at he hca c1 ⊢
      have hj':((j:Int)).toNat=j:=by simp
      rw [hj'] at he
      refine ih j fit fls _ (hh j (by simpa using hca)) (by omega) hfB o1 hfI hf60 ?_
      cases hU:U s.xChains j fit fls with
      | none =>
       rw [hU] at he
       intro l o
       exact jA (stop _ _ he)
      | some bo =>
       obtain ⟨b,o⟩:=bo
       rw [hU] at he
       obtain ⟨u1,u2,u3,u4⟩:=zl3 htv j hfB o1 hfI hf60 _ _ hU
       have hu4:=u2.2
       simp only at he
       refine zlb (xi (jo (by simp only [List.length_map];omega) ?_))
       refine hK _ ⟨left,miss++b,o,by rw [List.map_append],hlB,hlO.1,by omega,YW.2 ⟨hmB,u1⟩,by rw [List.length_append];omega,u3,fun q _ _=>?_,fun q=>?_⟩
       ·rw [if_pos q] at he;exact he
       ·rw [if_neg (fun q2=>q ⟨q2,hlO,u4⟩)] at he;exact he
     ·rw [if_neg (of_decide_eq_false e3)] at he
      refine jo (by simp only [List.length_map];omega) ?_
      refine hK _ ⟨left,miss++fit,fls,by rw [List.map_append],hlB,hlO.1,by omega,YW.2 ⟨hmB,hfB⟩,by rw [List.length_append];omega,hfI,fun q _ _=>?_,fun q=>?_⟩
      ·rw [if_pos q] at he;exact he
      ·rw [if_neg (fun q2=>q ⟨q2,hlO,hf60⟩)] at he;exact he
  ·have hge:c.length≤k:=by simpa using hc
   rw [List.drop_of_length_le hge] at he
   unfold url at he
   rw [he] at h
   refine jo (by simp only [List.length_map];omega) ?_
   rw [← List.map_append]
   refine ZZ (YW.2 ⟨hlB,hgB⟩) (by rw [List.length_append];omega) (fun q=>?_) (fun q=>?_)
   ·rw [if_pos q] at h;exact h
   ·rw [if_neg q] at h;exact h _ _
end
section
open Go Go.Proofs
theorem zaV {s:zQ} (hb:Bd s) {κ:zQ→Prop} (h:κ s):yz s κ:=by
 unfold yz XR
 refine YV s.xChains id hb.1 (fun x ψ=>ZG x ψ) (fun x ψ hx hψ=>?_) (by simpa using h) _ (fun nx xs t hh=>hh)
 obtain ⟨h1,h2⟩:=hb.2 x hx
 unfold ZG
 refine YV x id h1 (fun y ψ=>Ym y ψ) (fun y ψ hy hψ=>?_) (by simpa using hψ) _ (fun nx xs t hh=>hh)
 unfold Ym
 exact jo (by have:=h2 y hy;simpa using this) hψ
theorem zek {l:List zn} (hl:l.length≤4294967296) (hv:IV l) {κ:List zV→Prop} (h:κ (l.map gf)):Xl l κ:=by
 unfold Xl
 refine UX 0 rfl (by omega) (by omega) ?_
 exact YV l gf hl (fun x ψ=>yi x.xWhere (fun r=>ψ (zV.mk r x.xAccept))) (fun x ψ hx hψ=>zlF (zkh (hv x hx).2) hψ) h _ (fun nx xs t hh=>hh)
theorem zfe {s:zQ} (hb:Bd s) {κ:List zV×Bool→Prop} (h1:SV s→∀ l,uf s=some l→κ (l.map gf,true)) (h2:(SV s→uf s=none)→κ ([],false)):UK s κ:=by
 unfold UK
 refine Yw hb (fun b hbv=>zo (fun e=>h2 (fun q=>?_)) (fun e=>?_))
 ·rw [hbv.2 q] at e;cases e
 have hv:SV s:=hbv.1 (by simpa using e)
 refine zbC hv (fun l hl=>xi ?_) (fun hn l=>jA (h2 (fun _=>hn)))
 obtain ⟨u1,u2⟩:=zeQ hv hl
 exact zek (by omega) u1 (h1 hv l hl)
theorem zfo {s:zQ} (hb:Bd s) {κ:List zV×Bool→Prop} (h1:SV s→∀ l,uf s=some l→κ (l.map gf,true)) (h2:(SV s→uf s=none)→κ ([],false)):UI s κ:=by
 unfold UI
 refine zaV hb (zby hb (fun b hbv=>zo (fun e=>h2 (fun q=>?_)) (fun e=>zhk ?_)))
 ·rw [hbv.2 q] at e;cases e
 have hv:SV s:=hbv.1 (by simpa using e)
 refine ⟨jN s.xChains+1,zmg hv _ 0 [za8] [] _ (zfF hv.2.2 0) hv.2.1 zdX zes zhV (by simp) ?_⟩
 have h1:=h1 hv
 unfold uf at h1 h2
 cases hU:U s.xChains 0 [za8] [] with
 | none=>rw [hU] at h2;exact fun l o=>jA (h2 (fun _=>rfl))
 | some bo =>
  obtain ⟨b,o⟩:=bo
  rw [hU] at h1
  exact xi (h1 o rfl)
end
section
open Go Go.Proofs
def wdN (l:List zn):Nat→List zn
 | 0=>[]
 | k+1=>wdN l k++(match l[k]? with | some f=>if dd l k then [] else [f] | none=>[])
def wdF (l:List zn):List zn:=wdN l l.length
theorem zb4 (l:List zn):∀ k,(wdN l k).length≤k∧∀ f∈wdN l k,f∈l
 | 0=>by simp [wdN]
 | k+1=>by
  obtain ⟨h1,h2⟩:=zb4 l k
  unfold wdN
  cases e:l[k]? with
  | none=>simp only [List.append_nil];exact ⟨by omega,h2⟩
  | some f =>
   simp only
   split
   ·simp only [List.append_nil];exact ⟨by omega,h2⟩
   ·refine ⟨by rw [List.length_append];simp;omega,fun g hg=>?_⟩
    rcases List.mem_append.1 hg with q | q
    ·exact h2 g q
    ·rw [List.mem_singleton] at q;subst q;exact List.mem_of_getElem? e
theorem zgd (l:List zn):(wdF l).length≤l.length:=(zb4 l _).1
theorem zaU {l:List zn} (h:IV l):IV (wdF l):=fun f hf=>h f ((zb4 l _).2 f hf)
theorem zgI {l:List zn} {k:Nat} (hk:k<l.length) (h:dd l k=true):wdN l (k+1)=wdN l k:=by
 show wdN l k++_=_
 rw [List.getElem?_eq_getElem hk];simp [h]
theorem zhI {l:List zn} {k:Nat} (hk:k<l.length) (h:dd l k=false):wdN l (k+1)=wdN l k++[l[k]]:=by
 show wdN l k++_=_
 rw [List.getElem?_eq_getElem hk];simp [h]
theorem zff {l:List zn} (hl:l.length≤100000) (hv:IV l) {κ:List zn→Prop} (h:κ (wdF l)):Xg l κ:=by
 unfold Xg
 refine zkr hl hv (UX 0 rfl (by omega) (by omega) ?_)
 have rem0:zlz l=((List.range l.length).drop 0).filter (dd l):=rfl
 rw [rem0]
 refine z6 l.length (fun s=>s.2.2) (fun k (s:List Int×List zn×Int)=>s.2.2=(k:Int)∧k≤l.length∧s.1=(((List.range l.length).drop k).filter (dd l)).map Int.ofNat∧s.2.1=wdN l k) (fun k s h=>h.1) (fun k s h=>h.2.1) ?_ ⟨rfl,by omega,rfl,rfl⟩
 rintro k ⟨_,_,_⟩ next ⟨rfl,hk,hx,hy⟩ hn
 simp only at hx hy
 subst hx hy
 refine zo (fun hc=>?_) (fun hc=>?_)
 ·have hlt:k<l.length:=by simpa using hc
  have hd:(List.range l.length).drop k=k :: (List.range l.length).drop (k+1):=by
   rw [List.drop_eq_getElem_cons (by simpa using hlt)];simp
  have hwl:=(zb4 l k).1
  have hfl:∀ m,((((List.range l.length).drop m).filter (dd l)).map Int.ofNat).length≤l.length:=fun m=>by
   rw [List.length_map]
   refine Nat.le_trans (List.length_filter_le _ _) ?_
   rw [List.length_drop,List.length_range];omega
  refine xQ (zp k rfl hlt (xQ ?_))
  have nxt:∀ ws,ws=wdN l (k+1)→js (k:Int) 1 (fun t188=>next ((((List.range l.length).drop (k+1)).filter (dd l)).map Int.ofNat,ws,t188)):=fun ws hw=>zC (by omega) (by omega) (hn hlt _ ⟨by simp,by omega,rfl,hw⟩)
  have app:dd l k=false→xm (wdN l k) [l[k]] (fun _=>js (k:Int) 1 (fun t188=>next ((((List.range l.length).drop (k+1)).filter (dd l)).map Int.ofNat,wdN l k++[l[k]],t188))):=fun q=>jo (by simp;omega) (nxt _ (zhI hlt q).symm)
  by_cases q:dd l k=true
  ·have e:((List.range l.length).drop k).filter (dd l)=k :: ((List.range l.length).drop (k+1)).filter (dd l):=by rw [hd,List.filter_cons,if_pos q]
   rw [e]
   refine zo (fun _=>zp 0 rfl (by simp) ?_) (fun e2=>by simp at e2)
   refine zo (fun _=>?_) (fun e2=>by simp at e2)
   refine ⟨by omega,by simp;omega,by omega,?_⟩
   have e3:(List.take (((k :: ((List.range l.length).drop (k+1)).filter (dd l)).map Int.ofNat).length:Int).toNat ((k :: ((List.range l.length).drop (k+1)).filter (dd l)).map Int.ofNat)).drop (1:Int).toNat=(((List.range l.length).drop (k+1)).filter (dd l)).map Int.ofNat:=by
    rw [Int.toNat_natCast,List.take_length];rfl
   rw [e3]
   exact nxt _ (zgI hlt q).symm
  ·have q':dd l k=false:=by simpa using q
   have e:((List.range l.length).drop k).filter (dd l)=((List.range l.length).drop (k+1)).filter (dd l):=by rw [hd,List.filter_cons,if_neg q]
   rw [e]
   refine zo (fun e2=>?_) (fun e2=>xi (app q'))
   have hpos:0<((((List.range l.length).drop (k+1)).filter (dd l)).map Int.ofNat).length:=by have:=of_decide_eq_true e2;omega
   refine zp 0 rfl hpos ?_
   have hm:((((List.range l.length).drop (k+1)).filter (dd l)).map Int.ofNat)[0]∈(((List.range l.length).drop (k+1)).filter (dd l)).map Int.ofNat:=List.getElem_mem hpos
   obtain ⟨j,hj,ej⟩:=List.mem_map.1 hm
   have hj2:=(List.mem_filter.1 hj).1
   have hjk:k+1≤j:=by
    rw [List.mem_drop_iff_getElem] at hj2
    obtain ⟨m,_,hm2⟩:=hj2
    simp at hm2;omega
   refine zo (fun e3=>?_) (fun _=>app q')
   have e3':=of_decide_eq_true e3
   rw [← ej] at e3'
   have:(j:Int)=(k:Int):=e3'
   omega
 ·have hge:l.length≤k:=by simpa using hc
  have:k=l.length:=by omega
  subst this
  exact h
theorem zko {a:za} (h:B4 a):in4 a a=true:=by
 have z:∀ {l:List zg} {t:Int},St l t→xJ l l t=[]:=fun {l t} hs=>by
  have hn:=V5 hs hs
  cases e:xJ l l t with
  | nil=>rfl
  | cons x r =>
   have hx:=VI hn.1 (show x∈xJ l l t by rw [e];simp)
   have:=(Vt hs hs).1 hx.1
   exact absurd this.1 this.2
 obtain ⟨h0,h1,h2,h3⟩:=h
 simp [in4,zfy,zda,z h0,z h1,z h2,z h3]
theorem zce {a b:List zg} {t:Int} (ha:St a t) (hb:St b t):xJ a b t=[]↔∀ x,hv a x→hv b x:=by
 constructor
 ·intro h x hx
  by_cases q:hv b x
  ·exact q
  ·have:=(Vt ha hb).2 ⟨hx,q⟩
   rw [h] at this;exact absurd this (uN _)
 ·intro h
  have hn:=V5 ha hb
  cases e:xJ a b t with
  | nil=>rfl
  | cons x r =>
   have hx:=VI hn.1 (show x∈xJ a b t by rw [e];simp)
   have:=(Vt ha hb).1 hx.1
   exact absurd (h _ this.1) this.2
theorem zmW {a:List zg} {t:Int} (h:St a t):a≠[]→∃ x,hv a x:=fun q=>by
 cases a with
 | nil=>exact absurd rfl q
 | cons s r=>exact ⟨s.xLo,(VI h.1 (by simp)).1⟩
theorem zkJ {a b:List zg} (h:∃ x,hv a x∧hv b x):ja a b≠[]:=fun e=>by
 obtain ⟨x,h1,h2⟩:=h
 have:=(XT a b x).2 ⟨h1,h2⟩
 rw [e] at this;exact uN _ this
theorem zmJ {a:za}:em4 a=true↔a.x0=[]∨a.x1=[]∨a.x2=[]∨a.x3=[]:=by unfold em4;exact decide_eq_true_iff
theorem zls {a:za}:em4 a=false↔a.x0≠[]∧a.x1≠[]∧a.x2≠[]∧a.x3≠[]:=by unfold em4;rw [decide_eq_false_iff_not];simp only [not_or,ne_eq]
theorem zgH {a b:za} (ha:B4 a) (hb:B4 b):Yj a b=[]↔in4 a b=true:=by
 obtain ⟨p0,p1,p2,p3⟩:=ha
 obtain ⟨q0,q1,q2,q3⟩:=hb
 have hless:zfy a b=zda↔(xJ a.x0 b.x0 65535=[]∧xJ a.x1 b.x1 65535=[]∧xJ a.x2 b.x2 255=[]∧xJ a.x3 b.x3 7=[]):=by
  simp [zfy,zda]
 unfold Yj in4
 by_cases e:em4 (uL a b)=true
 ·rw [if_pos e]
  by_cases e2:em4 a=true
  ·simp [e2]
  ·have e2':em4 a=false:=by simpa using e2
   simp only [e2',Bool.false_eq_true,if_false,Bool.false_or,decide_eq_true_eq]
   refine ⟨fun h=>by simp at h,fun h=>?_⟩
   obtain ⟨l0,l1,l2,l3⟩:=hless.1 h
   rw [zce p0 q0] at l0
   rw [zce p1 q1] at l1
   rw [zce p2 q2] at l2
   rw [zce p3 q3] at l3
   exfalso
   rw [zls] at e2'
   rw [zmJ] at e
   have g:∀ {x y:List zg} {t:Int},St x t→x≠[]→(∀ v,hv x v→hv y v)→ja x y≠[]:=fun hx hne hh=>by
    obtain ⟨v,hv1⟩:=zmW hx hne
    exact zkJ ⟨v,hv1,hh v hv1⟩
   rcases e with e | e | e | e
   ·exact g p0 e2'.1 l0 e
   ·exact g p1 e2'.2.1 l1 e
   ·exact g p2 e2'.2.2.1 l2 e
   ·exact g p3 e2'.2.2.2 l3 e
 ·rw [if_neg e]
  have e2:em4 a=false:=by
   have e':em4 (uL a b)=false:=by simpa using e
   rw [zls] at e' ⊢
   refine ⟨fun q=>e'.1 (by simp only [uL];rw [q];rfl),fun q=>e'.2.1 (by simp only [uL];rw [q];rfl),fun q=>e'.2.2.1 (by simp only [uL];rw [q];rfl),fun q=>e'.2.2.2 (by simp only [uL];rw [q];rfl)⟩
  simp only [e2,Bool.false_or,decide_eq_true_eq,hless]
  have hp:∀ (r:List zg) (c:za),pc r c=[]↔r=[]:=fun r c=>by unfold pc;split <;> simp [*]
  simp only [List.append_eq_nil_iff,hp,and_assoc]
def zbt (a b:za):List Nat:=(List.range 4).filter (fun n=>decide (xX a n≠xX b n))
def uni (a b:za) (n:Nat):List zg:=X3 (xX a n) (xX b n)
def mg (a b:za):Option za :=
 if in4 a b then some b else if in4 b a then some a else
 match zbt a b with
 | [n]=>if (uni a b n).length≤40 then some (Y3 a n (uni a b n)) else none
 | _=>none
theorem zdQ {a b:za} {n:Nat} (h:zbt a b=[n]):n<4∧xX a n≠xX b n:=by
 have:n∈zbt a b:=by rw [h];simp
 obtain ⟨h1,h2⟩:=List.mem_filter.1 this
 exact ⟨by simpa using h1,by simpa using h2⟩
theorem zmQ {a b x:za} (ha:B4 a∧F4 a) (hb:B4 b∧F4 b) (h:mg a b=some x):B4 x∧F4 x:=by
 unfold mg at h
 split at h
 ·injection h with h;subst h;exact hb
 ·split at h
  ·injection h with h;subst h;exact ha
  ·split at h
   ·rename_i n hn
    obtain ⟨h4,_⟩:=zdQ hn
    split at h
    ·rename_i hl
     injection h with h;subst h
     have k0:(0:Int)≤n:=by omega
     have k3:(n:Int)≤3:=by omega
     exact ⟨zic ha.1 k0 k3 (zdn (Yl ha.1 k0 k3) (Yl hb.1 k0 k3)),zhG (ziL (zfK.1 ha.2) k0 k3 hl (Nat.le_refl _))⟩
    ·cases h
   ·cases h
theorem zi4 {a b:List zg} (hl:a.length≤4294967296) {κ:Bool→Prop} (h:κ (decide (a=b))):uh a b κ:=by
 unfold uh
 by_cases hab:a.length=b.length
 ·refine zo (fun e=>by simp [hab] at e) (fun _=>?_)
  exact ziQ a b hab hl (fun x y A=>ifW (!(decide (x=y))) (κ false) A) (fun x y A h1 h2=>zo (fun e=>h2 (by simpa using e)) (fun e=>h1 (by simpa using e))) h _ (fun nx t hh=>hh)
 ·rw [decide_eq_false (fun q=>hab (by rw [q]))] at h
  exact zo (fun _=>h) (fun e=>by simp at e;omega)
def Vo (a b:za) (k:Nat):List Nat:=(List.range k).filter (fun n=>decide (xX a n≠xX b n))
theorem YX (a b:za) (k:Nat):Vo a b (k+1)=Vo a b k++(if xX a k≠xX b k then [k] else []):=by
 unfold Vo
 rw [List.range_succ,List.filter_append,List.filter_cons]
 by_cases h:xX a k=xX b k <;> simp [h]
theorem ziX (a b:za):∀ k,(Vo a b k).length≤k:=fun k=>Nat.le_trans (List.length_filter_le _ _) (by simp)
def znk:Option za→za×Bool
 | some x=>(x,true)
 | none=>(zda,false)
theorem zgo {a b:za} (ha:B4 a∧F4 a) (hb:B4 b∧F4 b) {κ:za×Bool→Prop} (h:κ (znk (mg a b))):Zu a b κ:=by
 unfold Zu
 unfold mg at h
 refine zhj ha.1 hb.1 (zo (fun e=>?_) (fun e=>zhj hb.1 ha.1 (zo (fun e2=>?_) (fun e2=>?_))))
 ·rw [if_pos e] at h;exact h
 ·rw [if_neg (by simp [e]),if_pos e2] at h;exact h
 rw [if_neg (by simp [e]),if_neg (by simp [e2])] at h
 refine z6 4 (fun s=>s.2.2) (fun k (s:Int×Int×Int)=>s.2.2=(k:Int)∧k≤4∧s.2.1=((Vo a b k).length:Int)∧∀ n,(Vo a b k).getLast?=some n→s.1=(n:Int)) (fun k s h=>h.1) (fun k s h=>h.2.1) ?_ ⟨rfl,by omega,rfl,fun n hn=>by simp [Vo] at hn⟩
 rintro k ⟨f,cn,_⟩ next ⟨rfl,hk,hcn,hf⟩ hn
 simp only at hcn hf
 subst hcn
 have hdl:=ziX a b k
 refine zo (fun hc=>?_) (fun hc=>?_)
 ·have hlt:k<4:=by
   have:(k:Int)<4:=of_decide_eq_true hc
   omega
  have k0:(0:Int)≤k:=by omega
  have k3:(k:Int)≤3:=by omega
  refine xQ (xQ (yF k0 k3 (yF k0 k3 (zi4 (by have:=zfK.1 ha.2 k k0 k3;omega) (zo (fun e=>?_) (fun e=>?_))))))
  ·have hne:xX a k≠xX b k:=by simpa using e
   refine zC (by omega) (by omega) (zC (by omega) (by omega) (hn hlt _ ⟨by simp,by omega,?_,fun n hnn=>?_⟩))
   ·rw [YX,if_pos hne];simp
   ·rw [YX,if_pos hne] at hnn
    simp at hnn;simp only;omega
  ·have hne:¬ xX a k≠xX b k:=by simpa using e
   refine zC (by omega) (by omega) (hn hlt _ ⟨by simp,by omega,?_,fun n hnn=>?_⟩)
   ·rw [YX,if_neg hne];simp
   ·rw [YX,if_neg hne,List.append_nil] at hnn
    exact hf n hnn
 ·have hge:k=4:=by
   have:¬ (k:Int)<4:=of_decide_eq_false hc
   omega
  subst hge
  have ed:Vo a b 4=zbt a b:=rfl
  rw [ed] at hf ⊢
  refine zo (fun e3=>?_) (fun e3=>?_)
  ·have h1:¬ (zbt a b).length=1:=by
    have:¬ ((zbt a b).length:Int)=1:=by simpa using e3
    omega
   have:κ (zda,false):=by
    split at h
    ·rename_i n hn';rw [hn'] at h1;simp at h1
    ·exact h
   exact this
  ·have h1:(zbt a b).length=1:=by
    have:((zbt a b).length:Int)=1:=by simpa using e3
    omega
   obtain ⟨n,hn'⟩:=List.length_eq_one_iff.1 h1
   rw [hn'] at h hf
   have hfn:=hf n rfl
   subst hfn
   obtain ⟨h4,_⟩:=zdQ hn'
   have k0:(0:Int)≤n:=by omega
   have k3:(n:Int)≤3:=by omega
   have tl:=VS n
   refine xQ (yF k0 k3 (yF k0 k3 (ZH k0 k3 (zgJ (Yl ha.1 k0 k3) (Yl hb.1 k0 k3) (by omega) (by omega) ?_))))
   simp only at h
   by_cases hl:(uni a b n).length≤40
   ·rw [if_pos hl] at h
    have el:lim (X3 (xX a n) (xX b n))=(uni a b n,true):=by unfold lim;rw [if_neg (by unfold uni at hl;omega)];rfl
    rw [el]
    refine xi (yF k0 k3 ⟨_,_,_,_,VJ k0 k3,h⟩)
   ·rw [if_neg hl] at h
    have el:lim (X3 (xX a n) (xX b n))=([],false):=by unfold lim;rw [if_pos (by unfold uni at hl;omega)]
    rw [el]
    exact jA h
end
section
open Go Go.Proofs
def pm (x y:zn):Option zn:=if x.xAccept=y.xAccept then (mg x.xWhere y.xWhere).map (fun w=>⟨w,x.xAccept⟩) else none
def pmA (l:List zn) (k:Nat):Option zn:=match l[k]?,l[k+1]? with | some x,some y=>pm x y | _,_=>none
def fpN (l:List zn):Nat→Option (Nat×zn)
 | 0=>none
 | n+1=>match fpN l n with | some r=>some r | none=>(pmA l n).map (fun z=>(n,z))
def fp (l:List zn):Option (Nat×zn):=fpN l l.length
def U2 (l:List zn) (k:Nat) (z:zn):List zn:=l.take k++[z]++l.drop (k+2)
def mgN:Nat→List zn→List zn
 | 0,l=>l
 | n+1,l=>match fp l with | none=>l | some (k,z)=>mgN n (U2 l k z)
def mgF (l:List zn):List zn:=mgN l.length l
theorem zbT {l:List zn} {k:Nat} {z:zn} (h:pmA l k=some z):k+1<l.length:=by
 unfold pmA at h
 split at h
 ·rename_i x y h1 h2;exact (List.getElem?_eq_some_iff.1 h2).1
 ·cases h
theorem zjw {l:List zn} {k:Nat} (h:l.length≤k+1):pmA l k=none:=by
 cases e:pmA l k with
 | none=>rfl
 | some z=>have:=zbT e;omega
theorem zdR {l:List zn} {k:Nat} (h:k+1<l.length):pmA l k=pm l[k] l[k+1]:=by
 unfold pmA
 rw [List.getElem?_eq_getElem (by omega:k<l.length),List.getElem?_eq_getElem h]
theorem zd4 {l:List zn}:∀ {n:Nat},(∀ j,j<n→pmA l j=none)→fpN l n=none
 | 0,_=>rfl
 | n+1,h=>by
  unfold fpN
  rw [zd4 (fun j hj=>h j (by omega))]
  simp [h n (by omega)]
theorem zhC {l:List zn} {k:Nat} {z:zn} (h1:∀ j,j<k→pmA l j=none) (h2:pmA l k=some z):∀ {n:Nat},k<n→fpN l n=some (k,z)
 | 0,h=>by omega
 | n+1,h=>by
  unfold fpN
  by_cases e:k=n
  ·subst e;rw [zd4 h1,h2];rfl
  ·rw [zhC h1 h2 (by omega)]
theorem ziM {l:List zn} (h:∀ j,pmA l j=none):fp l=none:=zd4 (fun j _=>h j)
theorem zdZ {l:List zn} {k:Nat} {z:zn} (h1:∀ j,j<k→pmA l j=none) (h2:pmA l k=some z):fp l=some (k,z):=zhC h1 h2 (by have:=zbT h2;omega)
theorem zbh {l:List zn} {k:Nat} {z:zn} (h:k+1<l.length):(U2 l k z).length=l.length - 1:=by
 unfold U2
 simp only [List.length_append,List.length_take,List.length_singleton,List.length_drop];omega
theorem zg8 {l:List zn} (h:∀ j,pmA l j=none):mgF l=l:=by
 unfold mgF
 cases e:l.length with
 | zero=>rfl
 | succ n=>unfold mgN;rw [ziM h]
theorem zgX {l:List zn} {k:Nat} {z:zn} (h1:∀ j,j<k→pmA l j=none) (h2:pmA l k=some z):mgF l=mgF (U2 l k z):=by
 have hk:=zbT h2
 have hl:=zbh (z:=z) hk
 unfold mgF
 rw [hl]
 obtain ⟨n,hn⟩:∃ n,l.length=n+1:=⟨l.length - 1,by omega⟩
 rw [hn]
 conv=>lhs;unfold mgN
 rw [zdZ h1 h2]
 rfl
theorem zmN {x y z:zn} (hx:B4 x.xWhere∧F4 x.xWhere) (hy:B4 y.xWhere∧F4 y.xWhere) (h:pm x y=some z):(B4 z.xWhere∧F4 z.xWhere)∧z.xAccept=x.xAccept:=by
 unfold pm at h
 split at h
 ·cases e:mg x.xWhere y.xWhere with
  | none=>rw [e] at h;cases h
  | some w =>
   rw [e] at h
   simp only [Option.map_some,Option.some.injEq] at h
   subst h
   exact ⟨zmQ hx hy e,rfl⟩
 ·cases h
theorem zcn {l:List zn} {k:Nat} {z:zn} (h:IV l) (h2:pmA l k=some z):IV (U2 l k z):=by
 have hk:=zbT h2
 rw [zdR hk] at h2
 have hz:=zmN (h _ (List.getElem_mem (by omega))) (h _ (List.getElem_mem hk)) h2
 intro f hf
 unfold U2 at hf
 rcases List.mem_append.1 hf with q | q
 ·rcases List.mem_append.1 q with q | q
  ·exact h f (List.mem_of_mem_take q)
  ·rw [List.mem_singleton] at q;subst q;exact hz.1
 ·exact h f (List.mem_of_mem_drop q)
theorem zhJ:∀ (n:Nat) {l:List zn},IV l→IV (mgN n l)∧(mgN n l).length≤l.length
 | 0,l,h=>⟨h,Nat.le_refl _⟩
 | n+1,l,h=>by
  unfold mgN
  cases e:fp l with
  | none=>exact ⟨h,Nat.le_refl _⟩
  | some kz =>
   obtain ⟨k,z⟩:=kz
   have hkz:pmA l k=some z:=by
    have:∀ n,fpN l n=some (k,z)→pmA l k=some z:=by
     intro n
     induction n with
     | zero=>intro q;cases q
     | succ n ih =>
      intro q
      unfold fpN at q
      cases e2:fpN l n with
      | some r=>rw [e2] at q;simp only [Option.some.injEq] at q;subst q;exact ih e2
      | none =>
       rw [e2] at q
       cases e3:pmA l n with
       | none=>rw [e3] at q;cases q
       | some z' =>
        rw [e3] at q
        simp only [Option.map_some,Option.some.injEq,Prod.mk.injEq] at q
        obtain ⟨rfl,rfl⟩:=q
        exact e3
    exact this _ e
   have ih:=zhJ n (zcn h hkz)
   have hl:=zbh (z:=z) (zbT hkz)
   exact ⟨ih.1,by have:=ih.2;simp only;omega⟩
theorem zj6 {l:List zn} (h:IV l):IV (mgF l):=(zhJ _ h).1
theorem zgi {l:List zn} (h:IV l):(mgF l).length≤l.length:=(zhJ _ h).2
theorem zkZ {l:List zn} (hl:l.length≤4294967296) {κ:List zn→Prop} (h:κ l):ug l κ:=by
 unfold ug
 refine ⟨fun _=>xi (jo (by simpa using hl) h),fun e=>?_⟩
 subst e
 exact ⟨jA h,xi (jo (by simp) h)⟩
theorem zjy {l:List zn} {i:Nat} (h:i+2≤l.length) {κ:List zn→Prop} (hκ:κ (l.take (i+1)++l.drop (i+2))):x9 l ((i:Int)+1) ((i:Int)+2) κ:=by
 refine ⟨by omega,by omega,by omega,?_⟩
 rw [show ((i:Int)+1).toNat=i+1 by omega,show ((i:Int)+2).toNat=i+2 by omega]
 exact hκ
theorem zkX {l:List zn} {i:Nat} (h:i+1<l.length) (z:zn):(l.set i z).take (i+1)++(l.set i z).drop (i+2)=U2 l i z:=by
 unfold U2
 rw [List.take_succ_eq_append_getElem (by simp;omega),List.take_set_of_le (by omega),List.drop_set_of_lt (by omega)]
 simp
theorem zi1 {l:List zn} {i j:Nat} {z:zn} (h:i+1<l.length) (hj:j+1<i):pmA (U2 l i z) j=pmA l j:=by
 unfold pmA
 have e:∀ m,m<i→(U2 l i z)[m]?=l[m]?:=fun m hm=>by
  unfold U2
  rw [List.append_assoc,List.getElem?_append_left (by rw [List.length_take];omega),List.getElem?_take,if_pos hm]
 rw [e j (by omega),e (j+1) hj]
theorem zbZ {l:List zn} (hl:l.length≤100000) (hv:IV l) {κ:List zn→Prop} (h:κ (mgF l)):yI l κ:=by
 unfold yI
 refine zkZ (by omega) ?_
 refine u6 (fun (s:List zn×Int)=>∃ i:Nat,s.2=(i:Int)∧i≤s.1.length∧s.1.length≤100000∧IV s.1∧(∀ j,j<i→pmA s.1 j=none)∧mgF s.1=mgF l) (fun s=>2 * s.1.length - s.2.toNat) ?_ ⟨0,rfl,by omega,hl,hv,fun j hj=>by omega,rfl⟩
 rintro ⟨xs,_⟩ next ⟨i,rfl,hi,hxl,hxv,hno,hm⟩ hn
 simp only at hi hxl hxv hno hm hn
 refine zC (by omega) (by omega) (zo (fun hc=>?_) (fun hc=>?_))
 ·have hlt:i+1<xs.length:=by have:=of_decide_eq_true hc;omega
  have hxi:=hxv _ (List.getElem_mem (show i<xs.length by omega))
  have hxj:=hxv _ (List.getElem_mem hlt)
  have hpm:=zdR hlt
  have w64e:w64 ((i:Int)+1)=((i+1:Nat):Int):=by rw [zjG (by omega) (by omega)];omega
  have stepNo:pmA xs i=none→js (i:Int) 1 (fun t153=>next (xs,t153)):=fun q=>zC (by omega) (by omega) (hn _ ⟨i+1,by simp,by simp only;omega,hxl,hxv,fun j hj=>by
   by_cases e:j=i
   ·subst e;exact q
   ·exact hno j (by omega),hm⟩ (by simp only;omega))
  have stepYes:∀ w:za,pmA xs i=some ⟨w,xs[i].xAccept⟩→zH xs (i:Int) (fun e174=>js (i:Int) 1 (fun t189=>js (i:Int) 2 (fun t190=>x9 (xs.set ((i:Int)).toNat (zn.mk w e174.xAccept)) t189 t190 (fun r191=>YU (i:Int) 1 (fun t194=>next (r191,(max t194 0))))))):=fun w q=>by
   refine zp i rfl (by omega) (zC (by omega) (by omega) (zC (by omega) (by omega) ?_))
   rw [Int.toNat_natCast]
   refine zjy (by rw [List.length_set];omega) ?_
   rw [zkX hlt]
   have hml:=zbh (l:=xs) (k:=i) (z:=⟨w,xs[i].xAccept⟩) hlt
   refine yJ (by omega) (by omega) (hn _ ⟨i - 1,by simp only;omega,by simp only;omega,by simp only;omega,zcn hxv q,fun j hj=>?_,?_⟩ (by simp only;omega))
   ·rw [zi1 hlt (by omega)];exact hno j (by omega)
   ·rw [← zgX hno q];exact hm
  refine xQ (zp i rfl (by omega) (zC (by omega) (by omega) (zp (i+1) (by omega) hlt (zo (fun e=>?_) (fun e=>?_)))))
  ·have ea:xs[i].xAccept=xs[i+1].xAccept:=of_decide_eq_true e
   unfold pm at hpm
   rw [if_pos ea] at hpm
   rw [w64e]
   refine xQ (zp i rfl (by omega) (zp (i+1) rfl hlt (zgo hxi hxj ?_)))
   cases em:mg xs[i].xWhere xs[i+1].xWhere with
   | none =>
    rw [em] at hpm
    exact jA (stepNo hpm)
   | some w =>
    rw [em] at hpm
    exact xi ⟨w.x0,w.x1,w.x2,w.x3,rfl,stepYes w hpm⟩
  ·have ea:¬ xs[i].xAccept=xs[i+1].xAccept:=of_decide_eq_false e
   unfold pm at hpm
   rw [if_neg ea] at hpm
   exact jA (stepNo hpm)
 ·have hge:xs.length≤i+1:=by have:=of_decide_eq_false hc;omega
  have:mgF xs=xs:=zg8 (fun j=>by
   by_cases e:j<i
   ·exact hno j e
   ·exact zjw (by omega))
  rw [← hm,this] at h
  exact h
def trN (l:List zn) (rest:Bool):Nat→Nat
 | 0=>0
 | n+1=>if (match l[n]? with | some f=>decide (f.xAccept=rest) | none=>false) then trN l rest n else n+1
def trF (l:List zn) (rest:Bool):List zn:=l.take (trN l rest l.length)
theorem zlc (l:List zn) (rest:Bool):(trF l rest).length≤l.length:=by unfold trF;rw [List.length_take];omega
theorem zmu {l:List zn} {rest:Bool} (h:IV l):IV (trF l rest):=fun f hf=>h f (List.mem_of_mem_take hf)
theorem ziW {l:List zn} {rest:Bool} (hl:l.length≤100000) {κ:List zn→Prop} (h:κ (trF l rest)):Y5 l rest κ:=by
 unfold Y5
 refine u6 (fun (s:Int)=>∃ n:Nat,s=(n:Int)∧n≤l.length∧trN l rest l.length=trN l rest n) (fun s=>s.toNat) ?_ ⟨l.length,rfl,Nat.le_refl _,rfl⟩
 rintro _ next ⟨n,rfl,hn',he⟩ hnx
 have fin:trN l rest n=n→Zk l 0 (n:Int) (fun xs73=>κ xs73):=fun q=>by
  refine ⟨by omega,by omega,by omega,?_⟩
  unfold trF at h
  rw [he,q] at h
  simpa using h
 refine xQ (zo (fun e=>?_) (fun e=>xi (fin ?_)))
 ·have hpos:0<n:=by have:=of_decide_eq_true e;omega
  obtain ⟨m,rfl⟩:∃ m,n=m+1:=⟨n - 1,by omega⟩
  have hlt:m<l.length:=by omega
  have em:((m+1:Nat):Int) - 1=(m:Int):=by omega
  refine yJ (by omega) (by omega) ?_
  rw [em]
  refine zp m rfl hlt (zo (fun e2=>?_) (fun e2=>fin ?_))
  ·have e2':l[m].xAccept=rest:=of_decide_eq_true e2
   refine yJ (by omega) (by omega) (hnx _ ⟨m,by omega,by omega,?_⟩ (by omega))
   rw [he]
   conv=>lhs;unfold trN
   rw [List.getElem?_eq_getElem hlt]
   simp [e2']
  ·have e2':¬ l[m].xAccept=rest:=of_decide_eq_false e2
   unfold trN
   rw [List.getElem?_eq_getElem hlt]
   simp [e2']
 ·have:n=0:=by have:=of_decide_eq_false e;omega
  subst this;rfl
def sh1 (l:List zn) (rest:Bool):List zn:=trF (mgF (wdF l)) rest
theorem za1 {l:List zn} {rest:Bool} (h:IV l):IV (sh1 l rest):=zmu (zj6 (zaU h))
theorem U9 {l:List zn} {rest:Bool} (h:IV l):(sh1 l rest).length≤l.length:=Nat.le_trans (zlc _ _) (Nat.le_trans (zgi (zaU h)) (zgd l))
def shN (rest:Bool):Nat→List zn→List zn
 | 0,l=>sh1 l rest
 | n+1,l=>if (sh1 l rest).length=l.length then sh1 l rest else shN rest n (sh1 l rest)
def shF (l:List zn) (rest:Bool):List zn:=shN rest l.length l
theorem zh6 {rest:Bool}:∀ {n:Nat} {l:List zn},IV l→IV (shN rest n l)∧(shN rest n l).length≤l.length
 | 0,l,h=>⟨za1 h,U9 h⟩
 | n+1,l,h=>by
  unfold shN
  split
  ·exact ⟨za1 h,U9 h⟩
  ·have:=zh6 (rest:=rest) (n:=n) (za1 (rest:=rest) h)
   exact ⟨this.1,Nat.le_trans this.2 (U9 h)⟩
theorem zmy {l:List zn} {rest:Bool} (h:IV l):IV (shF l rest):=(zh6 h).1
theorem ziH {l:List zn} {rest:Bool} (h:IV l):(shF l rest).length≤l.length:=(zh6 h).2
theorem zhs {rest:Bool}:∀ {n m:Nat} {l:List zn},IV l→l.length≤n→l.length≤m→shN rest n l=shN rest m l
 | 0,0,l,_,_,_=>rfl
 | 0,m+1,l,h,h1,h2=>by
  have:=U9 (rest:=rest) h
  unfold shN
  rw [if_pos (by omega)]
 | n+1,0,l,h,h1,h2=>by
  have:=U9 (rest:=rest) h
  conv=>lhs;unfold shN
  rw [if_pos (by omega)]
  rfl
 | n+1,m+1,l,h,h1,h2=>by
  have:=U9 (rest:=rest) h
  conv=>lhs;unfold shN
  conv=>rhs;unfold shN
  split
  ·rfl
  ·exact zhs (za1 h) (by omega) (by omega)
theorem zh9 {l:List zn} {rest:Bool} (h:IV l):shF l rest=if (sh1 l rest).length=l.length then sh1 l rest else shF (sh1 l rest) rest:=by
 have:=U9 (rest:=rest) h
 unfold shF
 cases e:l.length with
 | zero =>
  rw [e] at this
  rw [if_pos (by omega)];rfl
 | succ n =>
  conv=>lhs;unfold shN
  rw [e]
  split
  ·rfl
  ·exact zhs (za1 h) (by omega) (Nat.le_refl _)
theorem zgp {l:List zn} {rest:Bool} (hl:l.length≤100000) (hv:IV l) {κ:List zn→Prop} (h:κ (shF l rest)):XI l rest κ:=by
 unfold XI
 refine u6 (fun (s:List zn)=>s.length≤100000∧IV s∧shF s rest=shF l rest) (fun s=>s.length) ?_ ⟨hl,hv,rfl⟩
 rintro xs next ⟨hx,hxv,he⟩ hn
 have w1:=zgd xs
 have w2:=zgi (zaU hxv)
 have w3:=U9 (rest:=rest) hxv
 refine zff hx hxv (zbZ (by omega) (zaU hxv) (ziW (by omega) ?_))
 have hf:=zh9 (rest:=rest) hxv
 refine zo (fun e=>?_) (fun e=>?_)
 ·have e':((sh1 xs rest).length:Int)=(xs.length:Int):=of_decide_eq_true e
  rw [if_pos (by omega)] at hf
  rw [← he,hf] at h;exact h
 ·have e':¬ ((sh1 xs rest).length:Int)=(xs.length:Int):=of_decide_eq_false e
  rw [if_neg (by omega)] at hf
  exact hn (sh1 xs rest) ⟨by omega,za1 hxv,by rw [← hf];exact he⟩ (by omega)
noncomputable def cf (s:zQ):Option (List zn):=(uf s).map (fun l=>shF l s.xAccept)
theorem zlx {s:zQ} (h:SV s) {l:List zn} (he:cf s=some l):IV l∧l.length≤60:=by
 unfold cf at he
 cases e:uf s with
 | none=>rw [e] at he;cases he
 | some u =>
  rw [e] at he
  simp only [Option.map_some,Option.some.injEq] at he
  subst he
  obtain ⟨u1,u2⟩:=zeQ h e
  exact ⟨zmy u1,Nat.le_trans (ziH u1) u2⟩
theorem zd0 {s:zQ} (hb:Bd s) {κ:List zn×Bool→Prop} (h1:SV s→∀ l,cf s=some l→κ (l,true)) (h2:(SV s→cf s=none)→κ ([],false)):ZU s κ:=by
 unfold ZU
 refine Yw hb (fun b hbv=>zo (fun e=>h2 (fun q=>?_)) (fun e=>?_))
 ·rw [hbv.2 q] at e;cases e
 have hv:SV s:=hbv.1 (by simpa using e)
 refine zbC hv (fun l hl=>xi ?_) (fun hn l=>jA (h2 (fun _=>by unfold cf;rw [hn];rfl)))
 obtain ⟨u1,u2⟩:=zeQ hv hl
 exact zgp (by omega) u1 (h1 hv _ (by unfold cf;rw [hl];rfl))
theorem zeR {s:zQ} (hb:Bd s) {κ:List zV×Bool→Prop} (h1:SV s→∀ l,cf s=some l→κ (l.map gf,true)) (h2:(SV s→cf s=none)→κ ([],false)):X4 s κ:=by
 unfold X4
 refine zd0 hb (fun hv l hl=>xi ?_) (fun q=>jA (h2 q))
 obtain ⟨u1,u2⟩:=zlx hv hl
 exact zek (by omega) u1 (h1 hv l hl)
end
section
open Go Go.Proofs
def znl:Option (List za)→List ji×Bool
 | some l=>(l.map bx,true)
 | none=>([],false)
theorem zi2 {a:za} {bs:List za} (ha:B4 a) (hb:aB bs) (hl:bs.length≤100000) {κ:List ji×Bool→Prop} (h:κ (znl (zad a bs))):Uo (bx a) (bs.map bx) κ:=by
 unfold Uo
 have start:∀ l0:List za,zad a bs=lgo l0 bs→aB l0→l0.length≤400→jt (fun (nx88:((List ji)×Int)→Prop) ((xs84,t87):((List ji)×Int))=>ifW (decide (t87<((bs.map bx).length:Int))) (jt (fun (nx97:((List ji)×Int)→Prop) ((xs93,t96):((List ji)×Int))=>ifW (decide (t96<(xs84.length:Int))) (zH xs84 t96 (fun e98=>zH (bs.map bx) t87 (fun e100=>yM e98 e100 (fun r112=>xm xs93 r112 (fun _=>js t96 1 (fun t117=>nx97 ((xs93++r112),t117))))))) (xG xs93 (fun r118=>ifW (!r118) (κ ([],false)) (js t87 1 (fun t122=>nx88 (xs93,t122)))))) ([],0)) (κ (xs84,true))) (l0.map bx,0):=by
  intro l0 h0 hB0 hl0
  refine z6 bs.length (fun s=>s.2) (fun k (s:List ji×Int)=>s.2=(k:Int)∧k≤bs.length∧∃ left,s.1=left.map bx∧aB left∧left.length≤400∧zad a bs=lgo left (bs.drop k)) (fun k s h=>h.1) (fun k s h=>h.2.1) ?_ ⟨rfl,by omega,l0,rfl,hB0,hl0,h0⟩
  rintro k ⟨_,_⟩ next ⟨rfl,hk,left,hx,hB,hll,he⟩ hn
  simp only at hx
  subst hx
  refine zo (fun hc=>?_) (fun hc=>?_)
  rotate_left
  ·have hge:bs.length≤k:=by simpa using hc
   rw [he,List.drop_of_length_le hge] at h
   exact h
  have hlt:k<bs.length:=by simpa using hc
  rw [List.drop_eq_getElem_cons hlt] at he
  have hbk:=hb _ (List.getElem_mem hlt)
  refine z6 left.length (fun s=>s.2) (fun j (s:List ji×Int)=>s.2=(j:Int)∧j≤left.length∧s.1=(xR (left.take j) bs[k]).map bx) (fun k s h=>h.1) (fun k s h=>h.2.1) ?_ ⟨rfl,by omega,by simp [xR]⟩
  rintro j ⟨_,_⟩ next2 ⟨rfl,hj,hx⟩ hn2
  simp only at hx
  subst hx
  have hsl:=V4 (left.take j) bs[k]
  rw [List.length_take] at hsl
  refine zo (fun hc2=>?_) (fun hc2=>?_)
  ·have hjl:j<left.length:=by simpa using hc2
   refine zp j rfl (by simpa using hjl) (zp k rfl (by simpa using hlt) ?_)
   rw [List.getElem_map,List.getElem_map]
   have hcl:=zaQ left[j] bs[k]
   refine zep (hB _ (List.getElem_mem hjl)) hbk (jo (by simp only [List.length_map];omega) (zC (by omega) (by omega) (hn2 hjl _ ⟨by simp,by omega,?_⟩)))
   rw [List.take_succ_eq_append_getElem hjl,Xr,Y1,List.map_append]
  ·have hjge:left.length≤j:=by simpa using hc2
   rw [List.take_of_length_le hjge] at hsl ⊢
   unfold lgo at he
   refine ZZ (VG hB hbk) (by omega) (fun ok=>?_) (fun no=>?_)
   ·rw [if_pos ok] at he
    exact xi (zC (by omega) (by omega) (hn hlt _ ⟨by simp,by omega,xR left bs[k],rfl,VG hB hbk,ok.2,he⟩))
   ·rw [if_neg no] at he
    rw [he] at h
    exact jA h
 refine xQ (zak (zo (fun e=>?_) (fun e=>?_)))
 ·refine jo (by simp) (start [a] ?_ (fun c hc=>by rw [List.mem_singleton] at hc;subst hc;exact ha) (by simp))
  unfold zad;rw [if_neg (by simpa using e)]
 ·refine start [] ?_ zfX (by simp)
  unfold zad;rw [if_pos (by simpa using e),zgQ]
theorem zdo {l:List zn} (hv:IV l) (hl:l.length≤60) {κ:List ji→Prop} (h:κ ((whs l).map bx)):Yo (l.map gf) κ:=by
 have hF:=zdz hv hl
 unfold Yo
 refine Xk hF.fb ?_
 refine z6 l.length (fun s=>s.2) (fun k (s:List ji×Int)=>s.2=(k:Int)∧k≤l.length∧s.1=(whs (l.take k)).map bx) (fun k s h=>h.1) (fun k s h=>h.2.1) ?_ ⟨rfl,by omega,rfl⟩
 rintro k ⟨_,_⟩ next ⟨rfl,hk,hx⟩ hn
 simp only at hx
 subst hx
 refine xQ (zo (fun hc=>?_) (fun hc=>xi ?_))
 ·have hlt:k<l.length:=by simpa using hc
  refine Zz hF.fb ?_
  rw [decide_eq_true hF]
  refine jA (zp k rfl (by simpa using hlt) ?_)
  rw [List.getElem_map]
  refine jo (by simp [whs];omega) (zC (by omega) (by omega) (hn hlt _ ⟨by simp,by omega,?_⟩))
  simp only [whs,List.take_succ_eq_append_getElem hlt,List.map_append]
  rfl
 ·have hge:l.length≤k:=by simpa using hc
  rw [List.take_of_length_le hge];exact h
theorem ziR {l:List zn} (hv:IV l) (hl:l.length≤60) {k:Nat} (hk:k<l.length) {κ:Bool→Prop} (h:κ (dd l k)):Ue (l.map gf) k κ:=by
 unfold Ue
 refine zp k rfl (by simpa using hk) ?_
 rw [List.getElem_map]
 refine ⟨by omega,by omega,by simp;omega,?_⟩
 have e:((l.map gf).take (k:Int).toNat).drop (0:Int).toNat=(l.take k).map gf:=by simp [List.map_take]
 rw [e]
 refine zdo (hv.take k) (by rw [List.length_take];omega) ?_
 have hk2:=hv _ (List.getElem_mem hk)
 refine zi2 hk2.1 (hv.take k).aB (by unfold whs;simp;omega) ?_
 have hd:=zjx hk
 unfold zhZ at hd
 cases hlr:zad l[k].xWhere (whs (l.take k)) with
 | none =>
  rw [hlr] at hd
  have:dd l k=false:=by rw [hd];simp
  rw [this] at h
  exact xQ (xi h)
 | some r =>
  rw [hlr] at hd
  refine xQ (jA ?_)
  have e2:decide (((r.map bx).length:Int)=0)=dd l k:=by
   rw [hd]
   refine decide_eq_decide.2 ⟨fun q=>?_,fun q=>?_⟩
   ·rw [List.length_eq_zero_iff.1 (show r.length=0 by simp only [List.length_map] at q;omega)]
   ·injection q with q;subst q;rfl
  rw [e2];exact h
theorem zhW {l:List zn} (hv:IV l) (hl:l.length≤60) {κ:List zV→Prop} (h:κ ((wdF l).map gf)):YI (l.map gf) κ:=by
 have hF:=zdz hv hl
 unfold YI
 refine Xk hF.fb ?_
 refine z6 l.length (fun s=>s.2.2) (fun k (s:List zV×List zV×Int)=>s.2.2=(k:Int)∧k≤l.length∧s.1=l.map gf∧s.2.1=(wdN l k).map gf) (fun k s h=>h.1) (fun k s h=>h.2.1) ?_ ⟨rfl,by omega,rfl,rfl⟩
 rintro k ⟨_,_,_⟩ next ⟨rfl,hk,hx,hy⟩ hn
 simp only at hx hy
 subst hx hy
 have hwl:=(zb4 l k).1
 refine xQ (zo (fun hc=>?_) (fun hc=>xi ?_))
 ·have hlt:k<l.length:=by simpa using hc
  refine Zz hF.fb ?_
  rw [decide_eq_true hF]
  refine jA (xQ (ziR hv hl hlt (zo (fun e=>?_) (fun e=>?_))))
  ·have hd:dd l k=false:=by simpa using e
   refine zp k rfl (by simpa using hlt) ?_
   rw [List.getElem_map]
   refine jo (by simp;omega) (zC (by omega) (by omega) (hn hlt _ ⟨by simp,by omega,rfl,?_⟩))
   rw [zhI hlt hd,List.map_append];rfl
  ·have hd:dd l k=true:=by simpa using e
   refine zC (by omega) (by omega) (hn hlt _ ⟨by simp,by omega,rfl,?_⟩)
   rw [zgI hlt hd]
 ·have hge:l.length≤k:=by simpa using hc
  have:k=l.length:=by omega
  subst this
  exact h
theorem V0 {a b:za} (ha:B4 a∧F4 a) (hb:B4 b∧F4 b) {κ:Bool→Prop} (h:κ (in4 a b)):Z0 (bx a) (bx b) κ:=by
 unfold Z0
 have va:BV (bx a):=zeW.2 ha
 have vb:BV (bx b):=zeW.2 hb
 refine xQ (Zr va.bb ?_)
 rw [decide_eq_true va]
 refine jA (Zr vb.bb ?_)
 rw [decide_eq_true vb]
 refine jA (zep ha.1 hb.1 ?_)
 have e:decide ((((Yj a b).map bx).length:Int)=0)=in4 a b:=by
  have:=zgH ha.1 hb.1
  cases hi:in4 a b with
  | true=>rw [this.2 hi];rfl
  | false =>
   refine decide_eq_false (fun q=>?_)
   have:Yj a b=[]:=List.length_eq_zero_iff.1 (by simp only [List.length_map] at q;omega)
   rw [(zgH ha.1 hb.1).1 this] at hi;cases hi
 rw [e];exact h
theorem ziU {a b:List zg} (hl:a.length≤4294967296) {κ:Bool→Prop} (h:κ (decide (a=b))):Uj a b κ:=by
 unfold Uj
 by_cases hab:a.length=b.length
 ·refine zo (fun e=>by simp [hab] at e) (fun _=>?_)
  exact ziQ a b hab hl (fun x y A=>ifW (!(decide (x=y))) (κ false) A) (fun x y A h1 h2=>zo (fun e=>h2 (by simpa using e)) (fun e=>h1 (by simpa using e))) h _ (fun nx t hh=>hh)
 ·rw [decide_eq_false (fun q=>hab (by rw [q]))] at h
  exact zo (fun _=>h) (fun e=>by simp at e;omega)
theorem zcB {a b:List zg} {tp:Int} (h0:0≤tp) (h1:tp≤65535) (ha:SpV a tp) (hb:SpV b tp) {κ:List zg→Prop} (h:κ (if (X3 a b).length≤40 then X3 a b else [])):XL a b tp κ:=by
 unfold XL
 have la:=ha.1
 have lb:=hb.1
 refine xQ (Uc (by omega) h0 h1 ?_)
 rw [decide_eq_true ha]
 refine xi (Uc (by omega) h0 h1 ?_)
 rw [decide_eq_true hb]
 refine xi (jo (by simp;omega) ?_)
 have stp:∀ k,St ((b.take k).foldl zci a) tp:=fun k=>zdn ha.2 ⟨⟨fun s hs=>hb.2.1.1 s (List.mem_of_mem_take hs),hb.2.1.2.sublist (List.take_sublist _ _)⟩,fun s hs=>hb.2.2 s (List.mem_of_mem_take hs)⟩
 refine z6 b.length (fun s=>s.2) (fun k (s:List zg×Int)=>s.2=(k:Int)∧k≤b.length∧s.1=(b.take k).foldl zci a) (fun k s h=>h.1) (fun k s h=>h.2.1) ?_ ⟨rfl,by omega,by simp⟩
 rintro k ⟨_,_⟩ next ⟨rfl,hk,hx⟩ hn
 simp only at hx
 subst hx
 have hln:=zdx (b.take k) a
 rw [List.length_take] at hln
 refine zo (fun hc=>?_) (fun hc=>?_)
 ·have hlt:k<b.length:=by simpa using hc
  have hs:=hb.2.2 _ (List.getElem_mem hlt)
  have hs2:=hb.2.1.1 _ (List.getElem_mem hlt)
  refine zp k rfl hlt (zk4 (by omega) (fun s hs'=>?_) ?_ (zC (by omega) (by omega) (hn hlt _ ⟨by simp,by omega,?_⟩)))
  ·have q1:=(stp k).2 s hs'
   have q2:=(stp k).1.1 s hs'
   unfold Sm;omega
  ·unfold Sm;omega
  ·rw [List.take_succ_eq_append_getElem hlt,List.foldl_append];rfl
 ·have hge:b.length≤k:=by simpa using hc
  rw [List.take_of_length_le hge]
  refine zo (fun e=>?_) (fun e=>?_)
  ·have:¬ (X3 a b).length≤40:=by have:=of_decide_eq_true e;unfold X3;omega
   rw [if_neg this] at h;exact h
  ·have:(X3 a b).length≤40:=by have:=of_decide_eq_false e;unfold X3;omega
   rw [if_pos this] at h;exact h
def msp:Option za→ji×Bool
 | some x=>(bx x,true)
 | none=>(⟨[]⟩,false)
theorem zjE {a b:za} (h:∀ n:Nat,n<4→xX a n=xX b n):a=b:=by
 have h0:a.x0=b.x0:=h 0 (by decide)
 have h1:a.x1=b.x1:=h 1 (by decide)
 have h2:a.x2=b.x2:=h 2 (by decide)
 have h3:a.x3=b.x3:=h 3 (by decide)
 obtain ⟨a0,a1,a2,a3⟩:=a
 obtain ⟨b0,b1,b2,b3⟩:=b
 simp only at h0 h1 h2 h3
 subst h0 h1 h2 h3
 rfl
theorem zk0 {a b:za} (ha:B4 a) (h:in4 a b=false):zbt a b≠[]:=fun e=>by
 have:a=b:=zjE (fun n hn=>by
  by_cases q:xX a n=xX b n
  ·exact q
  ·have:n∈zbt a b:=List.mem_filter.2 ⟨by simpa using hn,by simpa using q⟩
   rw [e] at this;simp at this)
 subst this
 rw [zko ha] at h;cases h
theorem zme {a b:za} {tp:Int} {n:Nat} (ha:St (xX a n) tp) (hb:St (xX b n) tp) (h:xX a n≠xX b n):uni a b n≠[]:=fun e=>by
 have hh:=fun x=>zbr ha hb x
 unfold uni at e
 rw [e] at hh
 have na:xX a n=[]:=by
  cases q:xX a n with
  | nil=>rfl
  | cons s r =>
   have:=(VI ha.1 (show s∈xX a n by rw [q];simp)).1
   exact absurd ((hh _).2 (.inl this)) (uN _)
 have nb:xX b n=[]:=by
  cases q:xX b n with
  | nil=>rfl
  | cons s r =>
   have:=(VI hb.1 (show s∈xX b n by rw [q];simp)).1
   exact absurd ((hh _).2 (.inr this)) (uN _)
 exact h (by rw [na,nb])
theorem zcC {a b:za} (ha:B4 a∧F4 a) (hb:B4 b∧F4 b) {κ:ji×Bool→Prop} (h:κ (msp (mg a b))):XN (bx a) (bx b) κ:=by
 unfold XN
 unfold mg at h
 have va:BV (bx a):=zeW.2 ha
 have vb:BV (bx b):=zeW.2 hb
 refine xQ (Zr va.bb ?_)
 rw [decide_eq_true va]
 refine xi (Zr vb.bb ?_)
 rw [decide_eq_true vb]
 refine xi (V0 ha hb (zo (fun e=>?_) (fun e=>V0 hb ha (zo (fun e2=>?_) (fun e2=>?_)))))
 ·rw [if_pos e] at h;exact zbN vb.bb h
 ·rw [if_neg (by simp [e]),if_pos e2] at h;exact zbN va.bb h
 rw [if_neg (by simp [e]),if_neg (by simp [e2])] at h
 have hne:=zk0 ha.1 e
 have two:∀ {k:Nat},k<4→Vo a b k≠[]→xX a k≠xX b k→κ (⟨[]⟩,false):=fun {k} hk q1 q2=>by
  have hm:zbt a b=Vo a b 4:=rfl
  have:2≤(zbt a b).length:=by
   have h1:(Vo a b (k+1)).length≤(zbt a b).length:=by
    rw [hm];unfold Vo
    exact (List.Sublist.filter _ (List.range_sublist.2 (by omega))).length_le
   rw [YX,if_pos q2,List.length_append] at h1
   have:=List.length_pos_iff.2 q1
   simp at h1;omega
  split at h
  ·rename_i n hn;rw [hn] at this;simp at this
  ·exact h
 refine z6 4 (fun s=>s.2) (fun k (s:Int×Int)=>s.2=(k:Int)∧k≤4∧((Vo a b k=[]∧s.1=-1)∨∃ n:Nat,Vo a b k=[n]∧s.1=n)) (fun k s h=>h.1) (fun k s h=>h.2.1) ?_ ⟨rfl,by omega,.inl ⟨rfl,rfl⟩⟩
 rintro k ⟨f,_⟩ next ⟨rfl,hk,hf⟩ hn
 simp only at hf
 refine zo (fun hc=>?_) (fun hc=>?_)
 ·have hlt:k<4:=by
   have:(k:Int)<4:=of_decide_eq_true hc
   omega
  have k0:(0:Int)≤k:=by omega
  have k3:(k:Int)≤3:=by omega
  refine xQ (yF (a:=a) k0 k3 (yF (a:=b) k0 k3 (ziU (by have:=zfK.1 ha.2 k k0 k3;omega) (zo (fun e=>?_) (fun e=>?_)))))
  ·have hd:xX a k≠xX b k:=by simpa using e
   rcases hf with ⟨q1,rfl⟩ | ⟨n,q1,rfl⟩
   ·refine zo (fun e=>by simp at e) (fun _=>zC (by omega) (by omega) (hn hlt _ ⟨by simp,by omega,.inr ⟨k,?_,rfl⟩⟩))
    rw [YX,if_pos hd,q1];rfl
   ·exact zo (fun _=>two hlt (by rw [q1];simp) hd) (fun e=>by simp at e)
  ·have hd:¬ xX a k≠xX b k:=by simpa using e
   refine zC (by omega) (by omega) (hn hlt _ ⟨by simp,by omega,?_⟩)
   rw [YX,if_neg hd,List.append_nil];exact hf
 ·have hge:k=4:=by
   have:¬ (k:Int)<4:=of_decide_eq_false hc
   omega
  subst hge
  have ed:Vo a b 4=zbt a b:=rfl
  rw [ed] at hf
  rcases hf with ⟨q1,_⟩ | ⟨n,q1,rfl⟩
  ·exact absurd q1 hne
  rw [q1] at h
  obtain ⟨h4,hd⟩:=zdQ q1
  have k0:(0:Int)≤n:=by omega
  have k3:(n:Int)≤3:=by omega
  have tl:=VS n
  have sa:=Yl ha.1 k0 k3
  have sb:=Yl hb.1 k0 k3
  have spa:SpV (xX a n) (top n):=⟨zfK.1 ha.2 _ k0 k3,sa⟩
  have spb:SpV (xX b n) (top n):=⟨zfK.1 hb.2 _ k0 k3,sb⟩
  refine yx (l:=L4 a) (by simp [L4]) (zbP ha.1) (yF (a:=a) k0 k3 (yF (a:=b) k0 k3 (xO k0 k3 (zcB (by omega) (by omega) spa spb (yF (a:=a) k0 k3 ?_)))))
  have hset:∀ x,(L4 a).set ((n:Int)).toNat x=L4 (Y3 a n x):=fun x=>VJ k0 k3
  have hget:∀ x,xX (Y3 a n x) n=x:=fun x=>by rcases zfb k0 k3 with q | q | q | q <;> rw [q] <;> rfl
  simp only at h
  by_cases hl:(uni a b n).length≤40
  ·rw [if_pos hl] at h
   have hl':(X3 (xX a n) (xX b n)).length≤40:=hl
   rw [if_pos hl',hset]
   refine yF (a:=Y3 a n (X3 (xX a n) (xX b n))) k0 k3 ?_
   rw [hget]
   refine zo (fun e=>?_) (fun _=>h)
   have:=of_decide_eq_true e
   exact absurd (List.length_eq_zero_iff.1 (show (uni a b n).length=0 by unfold uni;omega)) (zme sa sb hd)
  ·rw [if_neg hl] at h
   have hl':¬ (X3 (xX a n) (xX b n)).length≤40:=hl
   rw [if_neg hl',hset]
   refine yF (a:=Y3 a n []) k0 k3 ?_
   rw [hget]
   exact jA h
def ppr:Option (Nat×zn)→Int×zV
 | some (k,z)=>(k,gf z)
 | none=>(-1,⟨⟨[]⟩,false⟩)
theorem zi0 {l:List zn} (hv:IV l) (hl:l.length≤60) {κ:Int×zV→Prop} (h:κ (ppr (fp l))):Uq (l.map gf) κ:=by
 unfold Uq
 refine z6 (l.length+1) (fun s=>s) (fun k s=>s=(k:Int)∧k≤l.length+1∧∀ j,j<k→pmA l j=none) (fun k s h=>h.1) (fun k s h=>h.2.1) ?_ ⟨rfl,by omega,fun j hj=>by omega⟩
 rintro k _ next ⟨rfl,hk,hno⟩ hn
 refine zC (by omega) (by omega) (zo (fun hc=>?_) (fun hc=>?_))
 ·have hlt:k+1<l.length:=by have:=of_decide_eq_true hc;simp only [List.length_map] at this;omega
  have hpm:=zdR hlt
  have w64e:w64 ((k:Int)+1)=((k+1:Nat):Int):=by rw [zjG (by omega) (by omega)];omega
  have stepNo:pmA l k=none→js (k:Int) 1 (fun t110=>next t110):=fun q=>zC (by omega) (by omega) (hn (by omega) _ ⟨by simp,by omega,fun j hj=>by
   by_cases e:j=k
   ·subst e;exact q
   ·exact hno j (by omega)⟩)
  have ix:∀ (m:Nat) (hm:m<l.length) (K:zV→Prop),K (gf l[m])→zH (l.map gf) (m:Int) K:=fun m hm K hK=>zp m rfl (by simpa using hm) (by rw [List.getElem_map];exact hK)
  refine xQ (ix k (by omega) _ ?_)
  rw [w64e]
  refine ix (k+1) hlt _ (zcC (hv _ (List.getElem_mem (by omega))) (hv _ (List.getElem_mem hlt)) ?_)
  unfold pm at hpm
  cases em:mg l[k].xWhere l[k+1].xWhere with
  | none =>
   rw [em] at hpm
   refine xQ (xi (xi (stepNo ?_)))
   rw [hpm];split <;> rfl
  | some w =>
   rw [em] at hpm
   refine xQ (jA (ix k (by omega) _ (zC (by omega) (by omega) ?_)))
   have e1:(k:Int)+1=((k+1:Nat):Int):=by omega
   rw [e1]
   refine ix (k+1) hlt _ (zo (fun e=>?_) (fun e=>?_))
   ·have ea:l[k].xAccept=l[k+1].xAccept:=of_decide_eq_true e
    rw [if_pos ea] at hpm
    rw [zdZ hno hpm] at h
    exact ix k (by omega) _ h
   ·have ea:¬ l[k].xAccept=l[k+1].xAccept:=of_decide_eq_false e
    rw [if_neg ea] at hpm
    exact stepNo hpm
 ·have hge:l.length≤k+1:=by have:=of_decide_eq_false hc;simp only [List.length_map] at this;omega
  rw [ziM (fun j=>by
   by_cases e:j<k
   ·exact hno j e
   ·exact zjw (by omega))] at h
  exact h
theorem ziE {l:List zn} {k:Nat} {z:zn} (h:fp l=some (k,z)):pmA l k=some z∧∀ j,j<k→pmA l j=none:=by
 have:∀ n,fpN l n=some (k,z)→pmA l k=some z∧∀ j,j<k→pmA l j=none:=by
  intro n
  induction n with
  | zero=>intro q;cases q
  | succ n ih =>
   intro q
   unfold fpN at q
   cases e2:fpN l n with
   | some r=>rw [e2] at q;simp only [Option.some.injEq] at q;subst q;exact ih e2
   | none =>
    rw [e2] at q
    cases e3:pmA l n with
    | none=>rw [e3] at q;cases q
    | some z' =>
     rw [e3] at q
     simp only [Option.map_some,Option.some.injEq,Prod.mk.injEq] at q
     obtain ⟨rfl,rfl⟩:=q
     refine ⟨e3,fun j hj=>?_⟩
     have key:∀ m,fpN l m=none→∀ j,j<m→pmA l j=none:=by
      intro m
      induction m with
      | zero=>intro _ j hj;omega
      | succ m ih2 =>
       intro q j hj
       unfold fpN at q
       cases e4:fpN l m with
       | some r=>rw [e4] at q;cases q
       | none =>
        rw [e4] at q
        cases e5:pmA l m with
        | some z5=>rw [e5] at q;cases q
        | none =>
         by_cases e6:j=m
         ·subst e6;exact e5
         ·exact ih2 e4 j (by omega)
     exact key _ e2 j hj
 exact this _ h
theorem zmO {l:List zn} (h:fp l=none):∀ j,pmA l j=none:=fun j=>by
 cases e:pmA l j with
 | none=>rfl
 | some z =>
  exfalso
  have:∀ n,n≤j→(∀ i,i<n→pmA l i=none)∨∃ i z,i<n∧pmA l i=some z∧∀ m,m<i→pmA l m=none:=by
   intro n
   induction n with
   | zero=>intro _;exact .inl (fun i hi=>by omega)
   | succ n ih =>
    intro hn
    rcases ih (by omega) with q | ⟨i,z,q1,q2,q3⟩
    ·cases e2:pmA l n with
     | none=>exact .inl (fun i hi=>by
       by_cases e3:i=n
       ·subst e3;exact e2
       ·exact q i (by omega))
     | some z2=>exact .inr ⟨n,z2,by omega,e2,q⟩
    ·exact .inr ⟨i,z,by omega,q2,q3⟩
  rcases this j (Nat.le_refl _) with q | ⟨i,z2,q1,q2,q3⟩
  ·rw [zdZ q e] at h;cases h
  ·rw [zdZ q3 q2] at h;cases h
theorem zgz {l:List zn} (hv:IV l) (hl:l.length≤60) {κ:List zV→Prop} (h:κ ((mgF l).map gf)):XJ (l.map gf) κ:=by
 have hF:=zdz hv hl
 unfold XJ
 refine Xk hF.fb (Zz hF.fb ?_)
 rw [decide_eq_true hF]
 refine xi (jo (by simp;omega) ?_)
 refine u6 (fun (s:List zV)=>∃ xs:List zn,s=xs.map gf∧xs.length≤60∧IV xs∧mgF xs=mgF l) (fun s=>s.length) ?_ ⟨l,by simp,hl,hv,rfl⟩
 rintro _ next ⟨xs,rfl,hxl,hxv,he⟩ hn
 refine zi0 hxv hxl ?_
 cases hfp:fp xs with
 | none =>
  rw [← he,zg8 (zmO hfp)] at h
  exact jA h
 | some kz =>
  obtain ⟨k,z⟩:=kz
  obtain ⟨p1,p2⟩:=ziE hfp
  have hk:=zbT p1
  have hml:=zbh (z:=z) hk
  refine zo (fun e=>by have:(k:Int)<0:=of_decide_eq_true e;omega) (fun _=>zC (by omega) (by omega) ⟨by omega,by simp only [List.length_map];omega,by omega,?_⟩)
  have e1:((xs.map gf).take ((xs.map gf).length:Int).toNat).drop ((k:Int)+2).toNat=(xs.drop (k+2)).map gf:=by
   rw [Int.toNat_natCast,List.take_length,show ((k:Int)+2).toNat=k+2 by omega,List.map_drop]
  have e2:((xs.map gf).take ((k:Int)).toNat).drop (0:Int).toNat=(xs.take k).map gf:=by
   rw [Int.toNat_natCast];simp [List.map_take]
  rw [e1]
  refine jo (by simp;omega) (xQ ⟨by omega,by omega,by simp only [List.length_map];omega,?_⟩)
  show xm [] (((xs.map gf).take ((k:Int)).toNat).drop (0:Int).toNat) _
  rw [e2]
  refine jo (by simp;omega) (jo (by simp;omega) (jo (by simp;omega) (hn _ ⟨U2 xs k z,?_,by omega,zcn hxv p1,?_⟩ ?_)))
  ·unfold U2
   simp only [List.nil_append,List.map_append,List.map_cons,List.map_nil]
  ·rw [← zgX p2 p1];exact he
  ·simp;omega
theorem zhO {l:List zn} {rest:Bool} (hv:IV l) (hl:l.length≤60) {κ:List zV→Prop} (h:κ ((trF l rest).map gf)):YP (l.map gf) rest κ:=by
 have hF:=zdz hv hl
 unfold YP
 refine Xk hF.fb (Zz hF.fb ?_)
 rw [decide_eq_true hF]
 refine xi ?_
 refine u6 (fun (s:Int)=>∃ n:Nat,s=(n:Int)∧n≤l.length∧trN l rest l.length=trN l rest n) (fun s=>s.toNat) ?_ ⟨l.length,by simp,Nat.le_refl _,rfl⟩
 rintro _ next ⟨n,rfl,hn',he⟩ hnx
 have fin:trN l rest n=n→Zk (l.map gf) 0 (n:Int) (fun xs84=>xm ([]) xs84 (fun _=>κ (([])++xs84))):=fun q=>by
  refine ⟨by omega,by omega,by simp;omega,?_⟩
  unfold trF at h
  rw [he,q] at h
  have e:((l.map gf).take (n:Int).toNat).drop (0:Int).toNat=(l.take n).map gf:=by simp [List.map_take]
  rw [e]
  exact jo (by simp;omega) h
 refine xQ (zo (fun e=>?_) (fun e=>xi (fin ?_)))
 ·have hpos:0<n:=by have:=of_decide_eq_true e;omega
  obtain ⟨m,rfl⟩:∃ m,n=m+1:=⟨n - 1,by omega⟩
  have hlt:m<l.length:=by omega
  have em:((m+1:Nat):Int) - 1=(m:Int):=by omega
  refine yJ (by omega) (by omega) ?_
  rw [em]
  refine zp m rfl (by simpa using hlt) ?_
  rw [List.getElem_map]
  refine zo (fun e2=>?_) (fun e2=>fin ?_)
  ·have e2':l[m].xAccept=rest:=of_decide_eq_true e2
   refine yJ (by omega) (by omega) (hnx _ ⟨m,by omega,by omega,?_⟩ (by omega))
   rw [he]
   conv=>lhs;unfold trN
   rw [List.getElem?_eq_getElem hlt]
   simp [e2']
  ·have e2':¬ l[m].xAccept=rest:=of_decide_eq_false e2
   unfold trN
   rw [List.getElem?_eq_getElem hlt]
   simp [e2']
 ·have:n=0:=by have:=of_decide_eq_false e;omega
  subst this;rfl
theorem zi8 {l:List zn} {rest:Bool} (hv:IV l) (hl:l.length≤60) {κ:List zV→Prop} (h:κ ((shF l rest).map gf)):Up (l.map gf) rest κ:=by
 have hF:=zdz hv hl
 unfold Up
 refine Xk hF.fb (Zz hF.fb ?_)
 rw [decide_eq_true hF]
 refine xi (jo (by simp;omega) ?_)
 refine u6 (fun (s:List zV)=>∃ xs:List zn,s=xs.map gf∧xs.length≤60∧IV xs∧shF xs rest=shF l rest) (fun s=>s.length) ?_ ⟨l,by simp,hl,hv,rfl⟩
 rintro _ next ⟨xs,rfl,hx,hxv,he⟩ hn
 have w1:=zgd xs
 have w2:=zgi (zaU hxv)
 have w3:=U9 (rest:=rest) hxv
 refine zhW hxv hx (zgz (zaU hxv) (by omega) (zhO (zj6 (zaU hxv)) (by omega) ?_))
 have hf:=zh9 (rest:=rest) hxv
 refine zo (fun e=>?_) (fun e=>?_)
 ·have e':(sh1 xs rest).length=xs.length:=by
   have:=of_decide_eq_true e
   simp only [List.length_map] at this
   have:((sh1 xs rest).length:Int)=(xs.length:Int):=this
   omega
  rw [if_pos e'] at hf
  rw [← he,hf] at h;exact h
 ·have e':¬ (sh1 xs rest).length=xs.length:=by
   have:=of_decide_eq_false e
   simp only [List.length_map] at this
   have:¬ ((sh1 xs rest).length:Int)=(xs.length:Int):=this
   omega
  rw [if_neg e'] at hf
  exact hn ((sh1 xs rest).map gf) ⟨sh1 xs rest,rfl,by omega,za1 hxv,by rw [← hf];exact he⟩ (by simp only [List.length_map];omega)
theorem zez {s:zQ} (hb:Bd s) {κ:List zV×Bool→Prop} (h1:SV s→∀ l,cf s=some l→κ (l.map gf,true)) (h2:(SV s→cf s=none)→κ ([],false)):X5 s κ:=by
 unfold X5
 refine zaV hb (zfo hb (fun hv l hl=>xi ?_) (fun q=>jA (h2 (fun hv=>by unfold cf;rw [q hv];rfl))))
 obtain ⟨u1,u2⟩:=zeQ hv hl
 exact zi8 u1 u2 (h1 hv _ (by unfold cf;rw [hl];rfl))
end
section
def Sx1 (l:List zg):Prop:=l.length≤1048576
def Sx2 (l:List (List zg)):Prop:=l.length≤1048576∧∀ x,x∈l→Sx1 x
def Sx3 (f:zV):Prop:=Sx2 f.xWhere.xSides
def Sx4 (l:List zV):Prop:=l.length≤1048576∧∀ f,f∈l→Sx3 f
theorem Sx4.fb {l:List zV} (h:Sx4 l):Fb l:=⟨by have:=h.1;omega,fun f hf=>⟨by have:=(h.2 f hf).1;omega,fun x hx=>by have:x.length≤1048576:=(h.2 f hf).2 x hx;omega⟩⟩
theorem BV.sx {b:ji} (h:BV b):Sx2 b.xSides:=by
 obtain ⟨a,rfl,_,f0,f1,f2,f3⟩:=h
 refine ⟨by simp [bx],fun x hx=>?_⟩
 simp only [bx,List.mem_cons,List.not_mem_nil,or_false] at hx
 unfold Sx1
 rcases hx with rfl | rfl | rfl | rfl <;> omega
theorem FV.sx {l:List zV} (h:FV l):Sx4 l:=⟨by have:=h.1;omega,fun f hf=>(h.2 f hf).sx⟩
theorem zkV:Sx4 []:=⟨by simp,by simp⟩
end
section
open Go Go.Proofs
def jf (l:List zn) (rest:Bool) (p:zI):Bool:=match l[fw l p]? with | some f=>f.xAccept | none=>rest
theorem zdt {l:List zV} {rest:Bool} {p:zI} (hl:Fb l) {κ:Bool→Prop} (h1:FV l→pv p→κ (jf (l.map fl) rest p)) (h2:¬ (FV l∧pv p)→κ false):uT l rest p κ:=by
 unfold uT
 have hl1:=hl.1
 refine xQ (VB hl (zo (fun e=>?_) (fun e=>zbF ?_)))
 ·exact jA (h2 (fun q=>by simp [q.1] at e))
 have hv':FV l:=by simpa using e
 refine zo (fun e2=>h2 (fun q=>by simp [q.2] at e2)) (fun e2=>?_)
 have hp:pv p:=by simpa using e2
 have h3:=h1 hv' hp
 refine zfN hl1 (fun f hf=>zd2 (hv'.2 f hf)) (zgZ (by simpa using hl1) hv'.iv ?_)
 unfold jf at h3
 unfold fwI
 by_cases q:fw (l.map fl) p<(l.map fl).length
 ·rw [if_pos q]
  have q':fw (l.map fl) p<l.length:=by simpa using q
  rw [List.getElem?_eq_getElem q] at h3
  refine zo (fun _=>zp _ rfl q' ?_) (fun e=>by simp at e)
  simpa [fl] using h3
 ·rw [if_neg q]
  rw [List.getElem?_eq_none (by omega)] at h3
  exact xi h3
theorem zky {l:List ji} {seed:Int} (h0:0≤seed) (h1:seed≤1048576) (hl:l.length≤1000) (hv':∀ b∈l,BV b) {κ:zI→Prop} (h:∀ p,κ p):U8 l seed κ:=by
 unfold U8
 refine Ui h0 (by omega) (by omega) (fun a _ _=>zgC h0 (by omega) (by omega) (fun b b0 b1=>Ui b0 (by omega) (by omega) (fun c _ _=>Ui h0 (by omega) (by omega) (fun d _ _=>Ui h0 (by omega) (by omega) (fun e _ _=>?_)))))
 refine z6 l.length (fun s=>s.2) (fun k (s:List Int×Int)=>s.2=(k:Int)∧k≤l.length∧s.1.length=4) (fun k s h=>h.1) (fun k s h=>h.2.1) ?_ ⟨rfl,by omega,rfl⟩
 rintro k ⟨vs,_⟩ next ⟨rfl,hk,hvs⟩ hn
 simp only at hvs
 refine zo (fun hc=>?_) (fun hc=>?_)
 ·have hlt:k<l.length:=by simpa using hc
  obtain ⟨bb,hbb,hB,hF⟩:=hv' _ (List.getElem_mem hlt)
  refine z6 4 (fun s=>s.2) (fun j (s:List Int×Int)=>s.2=(j:Int)∧j≤4∧s.1.length=4) (fun k s h=>h.1) (fun k s h=>h.2.1) ?_ ⟨rfl,by omega,hvs⟩
  rintro j ⟨ws,_⟩ next2 ⟨rfl,hj,hws⟩ hn2
  simp only at hws
  have fin:ifW (decide (j=4)) (js (k:Int) 1 (fun t245=>next (ws,t245))) True:=by
   refine zo (fun _=>zC (by omega) (by omega) (hn hlt _ ⟨by simp,by omega,hws⟩)) (fun _=>trivial)
  refine xQ (zo (fun e=>zp k rfl hlt ?_) (fun e=>?_))
  ·have hj4:j<4:=by
    have:(j:Int)<4:=by simpa using e
    omega
   rw [hbb]
   refine zo (fun _=>?_) (fun e2=>by simp [bx] at e2;omega)
   refine xQ (zp k rfl hlt ?_)
   rw [hbb]
   have step:∀ ys:List Int,ys.length=4→js (j:Int) 1 (fun t244=>next2 (ys,t244)):=fun ys hy=>zC (by omega) (by omega) (hn2 hj4 _ ⟨by simp,by omega,hy⟩)
   refine yF (a:=bb) (by omega) (by omega) ?_
   have hfl:(xX bb j).length≤40:=zfK.1 hF _ (by omega) (by omega)
   generalize xX bb j=sj at hfl
   have go:sj≠[]→js seed (j:Int) (fun t167=>zbz t167 (sj.length:Int) (fun t168=>zH sj t168 (fun e169=>zH ws (j:Int) (fun e173=>js seed (k:Int) (fun t176=>zbz t176 2 (fun t177=>ifW (decide (t177=0)) (zH (ws.set ((j:Int)).toNat e169.xLo) (j:Int) (fun e178=>js (j:Int) 1 (fun t244=>next2 (((ws.set ((j:Int)).toNat e169.xLo).set ((j:Int)).toNat e169.xHi),t244)))) (js (j:Int) 1 (fun t244=>next2 ((ws.set ((j:Int)).toNat e169.xLo),t244))))))))):=fun hne=>by
    have hpos:=List.length_pos_iff.2 hne
    refine zC (by omega) (by omega) (Ui (by omega) (by omega) (by omega) (fun z z0 z1=>yC z0 z1 (fun x hx=>zp j rfl (by omega) (zC (by omega) (by omega) (Ui (by omega) (by omega) (by omega) (fun y y0 y1=>zo (fun _=>?_) (fun _=>step _ (by simp [hws]))))))))
    exact zjM (by omega) (step _ (by simp [hws]))
   refine xQ (zo (fun e3=>jA (step ws hws)) (fun e3=>?_))
   have hne:sj≠[]:=fun q=>by rw [q] at e3;simp at e3
   refine zC (by omega) (by omega) (zC (by omega) (by omega) (Ui (by omega) (by omega) (by omega) (fun z z0 z1=>zo (fun _=>step ws hws) (fun _=>go hne))))
  ·have hj4:j=4:=by
    have:(4:Int)≤j:=by simpa using e
    omega
   exact xi (fin.1 (by simp [hj4]))
 ·exact zp 0 rfl (by omega) (zp 1 rfl (by omega) (zp 2 rfl (by omega) (zp 3 rfl (by omega) (h _))))
end
section
open Go Go.Proofs
def dcd:List zn→zI→Option Bool
 | [],_=>none
 | f :: l,p=>if hb4 f.xWhere p then some f.xAccept else dcd l p
theorem U6 (l m:List zn) (p:zI):dcd (l++m) p=(dcd l p).or (dcd m p):=by
 induction l with
 | nil=>simp [dcd]
 | cons f l ih =>
  simp only [List.cons_append,dcd]
  split
  ·simp
  ·exact ih
theorem zkq {l:List zn} {p:zI}:dcd l p=none↔¬ hbs (whs l) p:=by
 induction l with
 | nil=>simp [dcd,whs,hbs]
 | cons f l ih =>
  have e:hbs (whs (f :: l)) p↔hb4 f.xWhere p∨hbs (whs l) p:=by
   have:=Yg [f.xWhere] (whs l) p
   rw [zan] at this
   exact this
  rw [e]
  unfold dcd
  split
  ·rename_i h;simp [h]
  ·rename_i h;rw [ih];simp [h]
theorem zih (f:zn) (p:zI):dcd [f] p=if hb4 f.xWhere p then some f.xAccept else none:=rfl
theorem zh0 (l:List zn) (rest:Bool) (p:zI):jf l rest p=(dcd l p).getD rest:=by
 induction l with
 | nil=>simp [jf,dcd]
 | cons f l ih =>
  unfold dcd
  by_cases h:hb4 f.xWhere p
  ·have e0:fw (f :: l) p=0:=by
    unfold fw;rw [List.findIdx_cons];simp [h]
   unfold jf
   rw [e0,if_pos h];rfl
  ·have e0:fw (f :: l) p=fw l p+1:=by
    unfold fw;rw [List.findIdx_cons];simp [h]
   unfold jf at ih ⊢
   rw [e0,if_neg h,List.getElem?_cons_succ];exact ih
theorem zk8 (l:List za) (a:Bool) (p:zI):dcd (dec l a) p=if hbs l p then some a else none:=by
 induction l with
 | nil=>simp [dec,dcd,hbs]
 | cons b l ih =>
  have e:hbs (b :: l) p↔hb4 b p∨hbs l p:=by
   have:=Yg [b] l p
   rw [zan] at this
   exact this
  show (if hb4 b p then some a else dcd (dec l a) p)=_
  rw [ih]
  by_cases h:hb4 b p
  ·rw [if_pos h,if_pos (e.2 (.inl h))]
  ·rw [if_neg h]
   by_cases h2:hbs l p
   ·rw [if_pos h2,if_pos (e.2 (.inr h2))]
   ·rw [if_neg h2,if_neg (fun q=>(e.1 q).elim h h2)]
theorem zmm {t:jJ} (ht:TV t) {x:Int} (h0:0≤x) (h1:x≤top t.xField):hv (tsp t) x↔(decide (t.xLo≤x∧x≤t.xHi) != t.xNot)=true:=by
 obtain ⟨_,_,h3,h4,h5⟩:=ht
 have hone:hv [(⟨t.xLo,t.xHi⟩:zg)] x↔t.xLo≤x∧x≤t.xHi:=by simp [hv]
 unfold tsp
 cases hn:t.xNot with
 | true =>
  rw [if_pos rfl,zc4 (zf7 h3 h4 h5),hone]
  by_cases q:t.xLo≤x∧x≤t.xHi
  ·simp [q]
  ·simp [q,h0,h1]
 | false =>
  rw [if_neg (by simp),hone]
  by_cases q:t.xLo≤x∧x≤t.xHi
  ·simp [q]
  ·simp [q]
theorem zki {p:zI} (hp:pv p) {n:Nat} (hn:n<4):0≤ZM p n∧ZM p n≤top n:=by
 obtain ⟨h0,h1,h2,h3⟩:=hp
 rcases XU hn with rfl | rfl | rfl | rfl
 ·exact h0
 ·exact h1
 ·exact h2
 ·exact h3
theorem Vr (a:za) (n:Nat) (hn:n<4) (x:List zg) (m:Nat) (hm:m<4):xX (Y3 a n x) m=if m=n then x else xX a m:=by
 rcases XU hn with rfl | rfl | rfl | rfl <;> rcases XU hm with rfl | rfl | rfl | rfl <;> rfl
theorem zkQ {a:za} {t:jJ} {p:zI} (ht:TV t) (hp:pv p):hb4 (zhz a t) p↔hb4 a p∧th t p=true:=by
 obtain ⟨n,hn⟩:=Int.eq_ofNat_of_zero_le ht.1
 have hn4:n<4:=by have:=ht.2.1;omega
 have hf:=zki hp hn4
 have key:=zmm ht (x:=ZM p n) hf.1 (by rw [hn];exact hf.2)
 unfold zhz
 rw [hn,zam,zam]
 have eth:th t p=(decide (t.xLo≤ZM p n∧ZM p n≤t.xHi) != t.xNot):=by unfold th;rw [hn];rfl
 rw [eth,← key]
 constructor
 ·intro h
  have hn2:=h n hn4
  rw [Vr _ _ hn4 _ _ hn4,if_pos rfl,XT] at hn2
  refine ⟨fun m hm=>?_,hn2.2⟩
  by_cases e:m=n
  ·subst e;exact hn2.1
  ·have:=h m hm
   rw [Vr _ _ hn4 _ _ hm,if_neg e] at this
   exact this
 ·rintro ⟨h,h2⟩ m hm
  rw [Vr _ _ hn4 _ _ hm]
  by_cases e:m=n
  ·subst e;rw [if_pos rfl,XT];exact ⟨h _ hm,h2⟩
  ·rw [if_neg e];exact h m hm
theorem ziN {p:zI} (hp:pv p):∀ {ts:List jJ} {a:za},(∀ t∈ts,TV t)→(hb4 (ts.foldl zhz a) p↔hb4 a p∧ft ts p=true)
 | [],a,_=>by simp [ft]
 | t :: ts,a,h=>by
  rw [List.foldl_cons,ziN hp (fun u hu=>h u (by simp [hu])),zkQ (h t (by simp)) hp]
  simp only [ft,List.all_cons,Bool.and_eq_true,and_assoc]
theorem zib {p:zI} (hp:pv p):hb4 za8 p:=by
 obtain ⟨h0,h1,h2,h3⟩:=hp
 exact ⟨⟨_,List.mem_singleton.2 rfl,h0⟩,⟨_,List.mem_singleton.2 rfl,h1⟩,⟨_,List.mem_singleton.2 rfl,h2⟩,⟨_,List.mem_singleton.2 rfl,h3⟩⟩
theorem zkI {p:zI} (hp:pv p) {ts:List jJ} (h:∀ t∈ts,TV t):hb4 (ZC ts) p↔ft ts p=true:=by
 unfold ZC
 rw [ziN hp h]
 exact ⟨fun q=>q.2,fun q=>⟨zib hp,q⟩⟩
def Wyp (inn lf:Prop) (j:Int) (d:Option Bool) (ot:Prop):Prop :=
 (lf→d=none∧ot)∧(¬ lf→¬ inn→d=none∧¬ ot)∧(¬ lf→inn→(j=1→d=some true∧¬ ot)∧(j=2→d=some false∧¬ ot)∧(j=5→d=none∧ot))
theorem zcA {p:zI} (hp:pv p) {call:Nat→List za→List zn→UR} {jcall:Nat→Int} (hj:∀ i,jcall i=1∨jcall i=2∨jcall i=5)
  (hcall:∀ i b o b' o',aB b→call i b o=some (b',o')→aB b'∧∃ n,o'=o++n∧Wyp (hbs b p) False (jcall i) (dcd n p) (hbs b' p)) :
  ∀ {l:List zE} {going left:List za} {out:List zn} {r:List za} {o:List zn},(∀ r∈l,∀ t∈r.xTests,TV t)→aB going→aB left→¬ (hbs left p∧hbs going p)→url call l going left out=some (r,o)→aB r∧∃ n,o=out++n∧Wyp (hbs going p) (hbs left p) (jl p jcall l) (dcd n p) (hbs r p)
 | [],going,left,out,r,o,_,hg,hl,hne,h=>by
  unfold url at h
  split at h
  ·injection h with h;injection h with h1 h2;subst h1 h2
   refine ⟨YW.2 ⟨hl,hg⟩,[],by simp,?_⟩
   rw [Yg]
   unfold Wyp jl dcd
   refine ⟨fun q=>⟨rfl,.inl q⟩,fun q1 q2=>⟨rfl,fun q=>q.elim q1 q2⟩,fun q1 q2=>⟨fun e=>by omega,fun e=>by omega,fun _=>⟨rfl,.inr q2⟩⟩⟩
  ·cases h
 | x :: rs,going,left,out,r,o,ht,hg,hl,hne,h=>by
  have hw:=zbl (ht x (by simp))
  have hwp:=zkI hp (ht x (by simp))
  have htr:∀ r∈rs,∀ t∈r.xTests,TV t:=fun y hy=>ht y (by simp [hy])
  have hfB:=zfZ hg hw
  have hmB:=VG hg hw
  have hfp:=zkE (bs:=going) (w:=ZC x.xTests) p
  have hmp:=zhA hg hw p
  unfold url at h
  unfold jl
  generalize ZC x.xTests=w at *
  generalize Xu going w=fit at *
  generalize xR going w=miss at *
  split at h
  ·split at h
   ·rename_i q ha
    split at h
    ·obtain ⟨g1,n,rfl,g2⟩:=zcA hp hj hcall htr hmB hl (fun q=>hne ⟨q.1,(hmp.1 q.2).1⟩) h
     refine ⟨g1,dec fit (decide (x.xAction=1))++n,by simp,?_⟩
     rw [U6,zk8]
     unfold Wyp at g2 ⊢
     obtain ⟨a1,a2,a3⟩:=g2
     rw [hmp] at a2 a3
     by_cases c1:hbs left p
     ·have c2:¬ hbs going p:=fun q=>hne ⟨c1,q⟩
      rw [if_neg (fun q=>c2 (hfp.1 q).1)]
      refine ⟨fun _=>a1 c1,fun q=>absurd c1 q,fun q=>absurd c1 q⟩
     ·refine ⟨fun q=>absurd q c1,fun _ c2=>?_,fun _ c2=>?_⟩
      ·rw [if_neg (fun q=>c2 (hfp.1 q).1)]
       exact a2 c1 (fun q=>c2 q.1)
      ·by_cases c3:hb4 w p
       ·rw [if_pos (hfp.2 ⟨c2,c3⟩),if_pos (hwp.1 c3)]
        have a2':=a2 c1 (fun q=>q.2 c3)
        refine ⟨fun e=>⟨?_,a2'.2⟩,fun e=>⟨?_,a2'.2⟩,fun e=>?_⟩
        ·split at e
         ·rename_i e1;simp [e1]
         ·split at e
          ·omega
          ·rename_i e1 e2;exact absurd ha (by omega)
        ·split at e
         ·omega
         ·rename_i e1;simp [e1]
        ·split at e
         ·omega
         ·split at e
          ·omega
          ·rename_i e1 e2;exact absurd ha (by omega)
       ·rw [if_neg (fun q=>c3 (hfp.1 q).2),if_neg (fun q=>c3 (hwp.2 q))]
        exact a3 c1 ⟨c2,c3⟩
    ·cases h
   ·rename_i q ha
    rw [if_neg (show ¬ x.xAction=1 from fun e=>ha (.inl e)),if_neg (show ¬ x.xAction=2 from fun e=>ha (.inr e))]
    split at h
    ·rename_i h4
     rw [if_pos h4]
     have hne2:¬ (hbs (left++fit) p∧hbs miss p):=fun q=>by
      have m:=hmp.1 q.2
      rcases (Yg left fit p).1 q.1 with q1 | q1
      ·exact hne ⟨q1,m.1⟩
      ·exact m.2 (hfp.1 q1).2
     obtain ⟨g1,n,rfl,g2⟩:=zcA hp hj hcall htr hmB (YW.2 ⟨hl,hfB⟩) hne2 h
     refine ⟨g1,n,rfl,?_⟩
     unfold Wyp at g2 ⊢
     obtain ⟨a1,a2,a3⟩:=g2
     rw [Yg,hfp] at a1 a2 a3
     rw [hmp] at a2 a3
     refine ⟨fun c1=>a1 (.inl c1),fun c1 c2=>a2 (fun q=>q.elim c1 (fun q=>c2 q.1)) (fun q=>c2 q.1),fun c1 c2=>?_⟩
     by_cases c3:hb4 w p
     ·rw [if_pos (hwp.1 c3)]
      exact ⟨fun e=>by omega,fun e=>by omega,fun _=>a1 (.inr ⟨c2,c3⟩)⟩
     ·rw [if_neg (fun q=>c3 (hwp.2 q))]
      exact a3 (fun q=>q.elim c1 (fun q=>c3 q.2)) ⟨c2,c3⟩
    ·rename_i h4
     rw [if_neg h4]
     split at h
     ·rename_i h3
      rw [if_pos h3]
      split at h
      ·cases h
      ·rename_i b o' hb
       obtain ⟨k1,n1,rfl,k2⟩:=hcall _ _ _ _ _ hfB hb
       split at h
       ·have hbm:hbs b p→hbs fit p:=fun q=>by
         by_cases c:hbs fit p
         ·exact c
         ·exact absurd q (k2.2.1 (fun f=>f) c).2
        have hne2:¬ (hbs left p∧hbs (miss++b) p):=fun q=>by
         rcases (Yg miss b p).1 q.2 with q1 | q1
         ·exact hne ⟨q.1,(hmp.1 q1).1⟩
         ·exact hne ⟨q.1,(hfp.1 (hbm q1)).1⟩
        obtain ⟨g1,n,rfl,g2⟩:=zcA hp hj hcall htr (YW.2 ⟨hmB,k1⟩) hl hne2 h
        refine ⟨g1,n1++n,by simp,?_⟩
        rw [U6]
        unfold Wyp at g2 k2 ⊢
        obtain ⟨a1,a2,a3⟩:=g2
        obtain ⟨_,b2,b3⟩:=k2
        have b2:=b2 (fun f=>f)
        have b3:=b3 (fun f=>f)
        rw [Yg,hmp] at a2 a3
        rw [hfp] at b2 b3 hbm
        refine ⟨fun c1=>?_,fun c1 c2=>?_,fun c1 c2=>?_⟩
        ·rw [(b2 (fun q=>hne ⟨c1,q.1⟩)).1];exact a1 c1
        ·rw [(b2 (fun q=>c2 q.1)).1]
         exact a2 c1 (fun q=>q.elim (fun q=>c2 q.1) (fun q=>c2 (hbm q).1))
        ·by_cases c3:hb4 w p
         ·rw [if_pos (hwp.1 c3)]
          obtain ⟨d1,d2,d5⟩:=b3 ⟨c2,c3⟩
          rcases hj x.xChain.toNat with e | e | e
          ·have d:=d1 e
           rw [if_neg (by omega),e,d.1]
           have a:=a2 c1 (fun q=>q.elim (fun q=>q.2 c3) d.2)
           exact ⟨fun _=>⟨rfl,a.2⟩,fun e=>by omega,fun e=>by omega⟩
          ·have d:=d2 e
           rw [if_neg (by omega),e,d.1]
           have a:=a2 c1 (fun q=>q.elim (fun q=>q.2 c3) d.2)
           exact ⟨fun e=>by omega,fun _=>⟨rfl,a.2⟩,fun e=>by omega⟩
          ·have d:=d5 e
           rw [if_pos e,d.1]
           exact a3 c1 (.inr d.2)
         ·rw [if_neg (fun q=>c3 (hwp.2 q)),(b2 (fun q=>c3 q.2)).1]
          exact a3 c1 (.inl ⟨c2,c3⟩)
       ·cases h
     ·rename_i h3
      rw [if_neg h3]
      split at h
      ·have hne2:¬ (hbs left p∧hbs (miss++fit) p):=fun q=>by
        rcases (Yg miss fit p).1 q.2 with q1 | q1
        ·exact hne ⟨q.1,(hmp.1 q1).1⟩
        ·exact hne ⟨q.1,(hfp.1 q1).1⟩
       obtain ⟨g1,n,rfl,g2⟩:=zcA hp hj hcall htr (YW.2 ⟨hmB,hfB⟩) hl hne2 h
       refine ⟨g1,n,rfl,?_⟩
       have e:hbs (miss++fit) p↔hbs going p:=by
        rw [Yg,hmp,hfp]
        by_cases c3:hb4 w p <;> simp [c3]
       rw [e] at g2
       have:(if ft x.xTests p=true then jl p jcall rs else jl p jcall rs)=jl p jcall rs:=by split <;> rfl
       rw [this]
       exact g2
      ·cases h
  ·cases h
theorem zjN {cs:List (List zE)} (ht:TVs cs) {p:zI} (hp:pv p):∀ n i b o b' o',aB b→uc cs n i b o=some (b',o')→aB b'∧∃ m,o'=o++m∧Wyp (hbs b p) False (jc cs p n i) (dcd m p) (hbs b' p)
 | 0,i,b,o,b',o',_,h=>by cases h
 | n+1,i,b,o,b',o',hb,h=>by
  obtain ⟨g1,m,g2,g3⟩:=zcA hp (zgs n) (zjN ht hp n) (ht.chn i) hb zfX (fun q=>VK p q.1) h
  refine ⟨g1,m,g2,?_⟩
  have e:hbs [] p↔False:=⟨VK p,False.elim⟩
  rw [e] at g3
  exact g3
theorem zl5 {s:zQ} (hs:SV s) {l:List zn} (h:uf s=some l) {p:zI} (hp:pv p):jdg s p=jf l s.xAccept p:=by
 unfold uf at h
 cases hU:U s.xChains 0 [za8] [] with
 | none=>rw [hU] at h;cases h
 | some bo =>
  obtain ⟨b,o⟩:=bo
  rw [hU] at h
  simp only [Option.map_some,Option.some.injEq] at h
  subst h
  obtain ⟨_,n,hn,_,_,g3⟩:=zjN hs.tvs hp _ _ _ _ _ _ zdX hU
  simp only [List.nil_append] at hn
  subst hn
  obtain ⟨d1,d2,d5⟩:=g3 (fun f=>f) ((zan _ _).2 (zib hp))
  rw [zh0]
  unfold jdg
  show (if J s.xChains p 0=1 then true else if J s.xChains p 0=2 then false else s.xAccept)=_
  have e:jc s.xChains p (jN s.xChains+1) 0=J s.xChains p 0:=rfl
  rw [e] at d1 d2 d5
  rcases zmf s.xChains p 0 with e | e | e
  ·rw [(d1 e).1,if_pos e];rfl
  ·rw [(d2 e).1,if_neg (by omega),if_pos e];rfl
  ·rw [(d5 e).1,if_neg (by omega),if_neg (by omega)];rfl
theorem zio {l:List zn} (hv:IV l) (p:zI):∀ k,k≤l.length→dcd (wdN l k) p=dcd (l.take k) p
 | 0,_=>rfl
 | k+1,hk=>by
  have hlt:k<l.length:=by omega
  have ih:=zio hv p k (by omega)
  rw [List.take_succ_eq_append_getElem hlt,U6]
  by_cases hd:dd l k=true
  ·rw [zgI hlt hd,ih]
   have hdo:=zjx hlt
   rw [hd] at hdo
   have hlv:zhZ l k hlt=some []:=by simpa using hdo.symm
   unfold zhZ at hlv
   have hk2:=hv _ (List.getElem_mem hlt)
   have:=zjZ hk2.1 (hv.take k).aB hlv p
   cases e:dcd (l.take k) p with
   | some b=>rfl
   | none =>
    rw [zkq] at e
    have:¬ hb4 l[k].xWhere p:=fun q=>VK p (this.2 ⟨q,e⟩)
    rw [zih,if_neg this];rfl
  ·rw [zhI hlt (by simpa using hd),U6,ih]
theorem zkw {l:List zn} (hv:IV l) (p:zI):dcd (wdF l) p=dcd l p:=by
 unfold wdF
 rw [zio hv p _ (Nat.le_refl _),List.take_length]
theorem zkn {a b:za} (ha:B4 a) (hb:B4 b) (h:in4 a b=true) {p:zI} (hp:hb4 a p):hb4 b p:=by
 have hc:=(zgH ha hb).2 h
 have:=zge ha hb p
 rw [hc] at this
 by_cases q:hb4 b p
 ·exact q
 ·exact absurd (this.2 ⟨hp,q⟩) (VK p)
theorem ziC {a b:za} {n:Nat} (h:zbt a b=[n]) {m:Nat} (hm:m<4) (hne:m≠n):xX a m=xX b m:=by
 by_cases q:xX a m=xX b m
 ·exact q
 ·have:m∈zbt a b:=List.mem_filter.2 ⟨by simpa using hm,by simpa using q⟩
  rw [h,List.mem_singleton] at this
  exact absurd this hne
theorem zm3 {a b x:za} (ha:B4 a) (hb:B4 b) (h:mg a b=some x) (p:zI):hb4 x p↔hb4 a p∨hb4 b p:=by
 unfold mg at h
 split at h
 ·rename_i e
  injection h with h;subst h
  exact ⟨.inr,fun q=>q.elim (zkn ha hb e) id⟩
 ·split at h
  ·rename_i e
   injection h with h;subst h
   exact ⟨.inl,fun q=>q.elim id (zkn hb ha e)⟩
  ·split at h
   ·rename_i n hn
    obtain ⟨h4,_⟩:=zdQ hn
    split at h
    ·injection h with h;subst h
     have hu:=zbr (Yl ha (show (0:Int)≤n by omega) (show (n:Int)≤3 by omega)) (Yl hb (show (0:Int)≤n by omega) (show (n:Int)≤3 by omega)) (ZM p n)
     rw [zam,zam,zam]
     constructor
     ·intro q
      have qn:=q n h4
      rw [Vr _ _ h4 _ _ h4,if_pos rfl] at qn
      unfold uni at qn
      rw [hu] at qn
      refine qn.imp (fun qa m hm=>?_) (fun qb m hm=>?_)
      ·by_cases e:m=n
       ·subst e;exact qa
       ·have:=q m hm
        rw [Vr _ _ h4 _ _ hm,if_neg e] at this
        exact this
      ·by_cases e:m=n
       ·subst e;exact qb
       ·have:=q m hm
        rw [Vr _ _ h4 _ _ hm,if_neg e,ziC hn hm e] at this
        exact this
     ·intro q m hm
      rw [Vr _ _ h4 _ _ hm]
      by_cases e:m=n
      ·subst e
       rw [if_pos rfl]
       unfold uni
       rw [hu]
       exact q.imp (fun q=>q _ hm) (fun q=>q _ hm)
      ·rw [if_neg e]
       exact q.elim (fun q=>q m hm) (fun q=>by rw [ziC hn hm e];exact q m hm)
    ·cases h
   ·cases h
theorem zmr {x y z:zn} (hx:B4 x.xWhere) (hy:B4 y.xWhere) (h:pm x y=some z) (p:zI):dcd [z] p=dcd [x,y] p:=by
 unfold pm at h
 split at h
 ·rename_i ea
  cases e:mg x.xWhere y.xWhere with
  | none=>rw [e] at h;cases h
  | some w =>
   rw [e] at h
   simp only [Option.map_some,Option.some.injEq] at h
   subst h
   have:=zm3 hx hy e p
   simp only [dcd]
   by_cases c1:hb4 x.xWhere p
   ·rw [if_pos c1,if_pos (this.2 (.inl c1))]
   ·rw [if_neg c1]
    by_cases c2:hb4 y.xWhere p
    ·rw [if_pos c2,if_pos (this.2 (.inr c2)),ea]
    ·rw [if_neg c2,if_neg (fun q=>(this.1 q).elim c1 c2)]
 ·cases h
theorem zi9 {l:List zn} (hv:IV l) {k:Nat} {z:zn} (h:pmA l k=some z) (p:zI):dcd (U2 l k z) p=dcd l p:=by
 have hk:=zbT h
 rw [zdR hk] at h
 have e1:l=l.take k++([l[k],l[k+1]]++l.drop (k+2)):=by
  have:=List.take_append_drop k l
  rw [List.drop_eq_getElem_cons (show k<l.length by omega),List.drop_eq_getElem_cons hk] at this
  exact this.symm
 have:=zmr (hv _ (List.getElem_mem (show k<l.length by omega))).1 (hv _ (List.getElem_mem hk)).1 h p
 conv=>rhs;rw [e1]
 unfold U2
 rw [List.append_assoc,U6,U6,this,← U6,← U6]
theorem zkN {l:List zn} {k:Nat} {z:zn} (h:fp l=some (k,z)):pmA l k=some z:=(ziE h).1
theorem zir (p:zI):∀ (n:Nat) {l:List zn},IV l→dcd (mgN n l) p=dcd l p
 | 0,l,_=>rfl
 | n+1,l,h=>by
  unfold mgN
  cases e:fp l with
  | none=>rfl
  | some kz =>
   obtain ⟨k,z⟩:=kz
   have hkz:=zkN e
   show dcd (mgN n (U2 l k z)) p=_
   rw [zir p n (zcn h hkz),zi9 h hkz]
theorem zkH {l:List zn} (h:IV l) (p:zI):dcd (mgF l) p=dcd l p:=zir p _ h
theorem ziK {l:List zn} {rest:Bool} (p:zI):∀ n,n≤l.length→(dcd (l.take (trN l rest n)) p).getD rest=(dcd (l.take n) p).getD rest
 | 0,_=>rfl
 | n+1,hn=>by
  have hlt:n<l.length:=by omega
  have ih:=ziK (l:=l) (rest:=rest) p n (by omega)
  unfold trN
  rw [List.getElem?_eq_getElem hlt]
  simp only
  split
  ·rename_i e
   have e':l[n].xAccept=rest:=of_decide_eq_true e
   rw [ih,List.take_succ_eq_append_getElem hlt,U6]
   cases hd:dcd (l.take n) p with
   | some b=>rfl
   | none =>
    rw [zih]
    split
    ·rw [e'];rfl
    ·rfl
  ·rfl
theorem zk5 {l:List zn} {rest:Bool} (p:zI):(dcd (trF l rest) p).getD rest=(dcd l p).getD rest:=by
 unfold trF
 rw [ziK p _ (Nat.le_refl _),List.take_length]
theorem zgf {l:List zn} {rest:Bool} (h:IV l) (p:zI):(dcd (sh1 l rest) p).getD rest=(dcd l p).getD rest:=by
 unfold sh1
 rw [zk5,zkH (zaU h),zkw h]
theorem ziu {rest:Bool} (p:zI):∀ {n:Nat} {l:List zn},IV l→(dcd (shN rest n l) p).getD rest=(dcd l p).getD rest
 | 0,l,h=>zgf h p
 | n+1,l,h=>by
  unfold shN
  split
  ·exact zgf h p
  ·rw [ziu p (za1 h),zgf h]
theorem zle {l:List zn} {rest:Bool} (h:IV l) (p:zI):jf (shF l rest) rest p=jf l rest p:=by
 rw [zh0,zh0]
 exact ziu p h
theorem zlL {s:zQ} (hs:SV s) {l:List zn} (h:cf s=some l) {p:zI} (hp:pv p):jdg s p=jf l s.xAccept p:=by
 unfold cf at h
 cases e:uf s with
 | none=>rw [e] at h;cases h
 | some u =>
  rw [e] at h
  simp only [Option.map_some,Option.some.injEq] at h
  subst h
  rw [zle (zeQ hs e).1,zl5 hs e hp]
theorem zmG {s:zQ} (hs:SV s) {l u:List zn} (h:cf s=some l) (hu:uf s=some u):l.length≤u.length:=by
 unfold cf at h
 rw [hu] at h
 simp only [Option.map_some,Option.some.injEq] at h
 subst h
 exact ziH (zeQ hs hu).1
theorem zm7 {s:zQ} {l:List zn} (h:cf s=some l):∃ u,uf s=some u:=by
 unfold cf at h
 cases e:uf s with
 | none=>rw [e] at h;cases h
 | some u=>exact ⟨u,rfl⟩
end
section
open Go Go.Proofs
open Classical in
noncomputable def cv (s:zQ):Option (List zn):=if SV s then cf s else none
theorem zdU {s:zQ} {l:List zn} (h:cv s=some l):SV s∧cf s=some l:=by
 unfold cv at h
 split at h
 ·rename_i q;exact ⟨q,h⟩
 ·cases h
theorem zlA {s:zQ} (hs:SV s):cv s=cf s:=by unfold cv;rw [if_pos hs]
theorem zlt {s:zQ} {l:List zn} (h:cv s=some l):IV l∧l.length≤60:=zlx (zdU h).1 (zdU h).2
end
section
open Go Go.Proofs
theorem ziA {s:zQ} (hb:Bd s) {κ:List zV×Bool→Prop} (h1:∀ l,cv s=some l→κ (l.map gf,true)) (h2:cv s=none→κ ([],false)):X5 s κ :=
 zez hb (fun hs l hl=>h1 l (by rw [zlA hs];exact hl)) (fun q=>h2 (by
  unfold cv
  split
  ·rename_i hs;exact q hs
  ·rfl))
end
section
open Go Go.Proofs
theorem zeu {a:List zg} {κ:Bool→Prop} (hb:Sx1 a) (h:κ true):Yh a a κ:=by
 unfold Yh
 have:a.length≤1048576:=hb
 refine zo (fun hc=>by simp at hc) (fun _=>ze3 a (by omega) h _ (fun nx t g ht hf=>zo (fun hc=>?_) (fun hc=>hf (by simpa using hc))))
 have hlt:t<a.length:=by simpa using hc
 obtain ⟨hm,hn⟩:=ht a[t] (by simp [hlt])
 exact zp t rfl hlt (zp t rfl hlt (zo (fun hc=>by simp at hc) (fun _=>zC (by omega) (by omega) hn)))
theorem zf2 {b:ji} {κ:Bool→Prop} (hb:Sx2 b.xSides) (h:κ true):Ub b b κ:=by
 unfold Ub
 have:=hb.1
 refine zo (fun hc=>by simp at hc) (fun _=>ze3 b.xSides (by omega) h _ (fun nx t g ht hf=>zo (fun hc=>?_) (fun hc=>hf (by simpa using hc))))
 have hlt:t<b.xSides.length:=by simpa using hc
 obtain ⟨hm,hn⟩:=ht b.xSides[t] (by simp [hlt])
 exact zp t rfl hlt (zp t rfl hlt (zeu (hb.2 _ hm) (xi (zC (by omega) (by omega) hn))))
theorem zbd {a:List zV} {κ:Bool→Prop} (hb:Sx4 a) (h:κ true):Yd a a κ:=by
 unfold Yd
 have:=hb.1
 refine zo (fun hc=>by simp at hc) (fun _=>ze3 a (by omega) h _ (fun nx t g ht hf=>zo (fun hc=>?_) (fun hc=>hf (by simpa using hc))))
 have hlt:t<a.length:=by simpa using hc
 obtain ⟨hm,hn⟩:=ht a[t] (by simp [hlt])
 refine xQ (zp t rfl hlt (zp t rfl hlt (zo (fun hc=>by simp at hc) (fun _=>zp t rfl hlt (zp t rfl hlt (zf2 (hb.2 _ hm) ?_))))))
 exact xi (zC (by omega) (by omega) hn)
theorem zkC {s:zQ} (hb:Bd s) {κ:List zV×Bool→Prop} (h1:∀ l,cv s=some l→κ (l.map gf,true)) (h2:cv s=none→κ ([],false)):X4 s κ :=
 zeR hb (fun hs l hl=>h1 l (by rw [zlA hs];exact hl)) (fun q=>h2 (by
  unfold cv
  split
  ·rename_i hs;exact q hs
  ·rfl))
theorem zbR {code:List UInt8} {κ:zI→Prop} (h:∀ p,κ p):yt code κ:=by
 unfold yt
 exact zft (fun b2 hb2=>zg4 hb2 (by omega) (by omega) (by omega) (fun q p2 _ _=>h q))
theorem zef {s:zQ} (hb:Bd s) {l:List zn} (h:cv s=some l) (p:zI) {K:Bool→Prop} (hK:K true):uT (l.map gf) s.xAccept p (fun r=>Zy s p (fun r2=>K (decide (r=r2)))):=by
 obtain ⟨hs,hc⟩:=zdU h
 obtain ⟨i1,i2⟩:=zlt h
 have hF:=zdz i1 i2
 by_cases hp:pv p
 ·refine zdt hF.fb (fun _ _=>zcy hb (fun _ _=>?_) (fun q=>absurd ⟨hs,hp⟩ q)) (fun q=>absurd ⟨hF,hp⟩ q)
  rw [ziT,zlL hs hc hp,decide_eq_true rfl];exact hK
 ·refine zdt hF.fb (fun _ q=>absurd q hp) (fun _=>zcy hb (fun _ q=>absurd q hp) (fun _=>?_))
  rw [decide_eq_true rfl];exact hK
theorem zjs {s:zQ} (hb:Bd s) {l:List zn} (h:cv s=some l) (p:zI) {A B:Prop} (hA:A):uT (l.map gf) s.xAccept p (fun r=>Zy s p (fun r2=>ifW (decide (r=r2)) A B)):=zef hb h p (K:=fun c=>ifW c A B) (jA hA)
theorem zkf {s:zQ} (hb:Bd s) {l:List zn} (h:cv s=some l) (p:zI):uT (l.map gf) s.xAccept p (fun r=>Zy s p (fun r2=>decide (r=r2)=true)):=zef hb h p (K:=fun c=>c=true) rfl
theorem zfl (code more:List UInt8):Ux code more (fun r=>r=true):=by
 unfold Ux
 refine xQ (zo (fun _=>jA rfl) (fun _=>zo (fun _=>rfl) (fun hm=>?_)))
 have hml:more.length≤1048576:=by simp at hm;omega
 unfold YT
 refine zft (fun b hb=>zgO hb (by omega) (fun s p' hl hd=>?_))
 have hbd:=zmT hl hd
 refine zkC hbd (fun l hl=>ziA hbd (fun l2 hl2=>?_) (fun q=>by rw [hl] at q;cases q)) (fun q=>ziA hbd (fun l2 hl2=>by rw [q] at hl2;cases hl2) (fun _=>?_))
 ·rw [hl] at hl2;injection hl2 with hl2;subst hl2
  obtain ⟨hs,hc⟩:=zdU hl
  obtain ⟨i1,i2⟩:=zlt hl
  have hF:=zdz i1 i2
  obtain ⟨u,hu⟩:=zm7 hc
  obtain ⟨u1,u2⟩:=zeQ hs hu
  have hFu:=zdz u1 u2
  have hlen:=zmG hs hc hu
  refine xQ (zbd hF.sx (xi (zo (fun e=>by simp at e) (fun _=>xi ?_))))
  refine zfe hbd (fun _ v hv=>?_) (fun q=>by rw [q hs] at hu;cases hu)
  rw [hu] at hv;injection hv with hv;subst hv
  refine zc5 hFu.fb (fun _=>?_) (fun q=>absurd hFu q)
  refine zky (by omega) (by omega) (by simp;omega) (fun x hx=>by obtain ⟨f,hf,rfl⟩:=List.mem_map.1 hx;exact hFu.2 f hf) (fun p=>zbR (fun q=>xQ ?_))
  refine zo (fun _=>zjs hbd hl p (zkf hbd hl q)) (fun e=>?_)
  have:=of_decide_eq_false e
  simp only [List.length_map] at this;omega
 ·refine xQ (zbd zkV (xi (zo (fun e=>by simp at e) (fun _=>jA (xQ ?_)))))
  exact zo (fun _=>zli rfl) (fun e=>by simp at e)
end
end Go.Proofs.YtgpdnnhmndlljaaGreatDoor
