import Derived.Test.YtgpdnnhmndlljaaGreatDoorMP1
set_option linter.unusedSimpArgs false
set_option linter.unusedVariables false
set_option linter.unusedSectionVars false
namespace Go.Proofs.YtgpdnnhmndlljaaGreatDoor
section
open Go Go.Proofs
theorem zdk {a b:za} (ha:B4 a) (hb:B4 b) (hf:F4 a) {κ:List za×Bool→Prop} (h:κ (zdU a b)):yd a b κ:=by
 have yes:(∀ c∈XV a b,F4 c)→κ (zlV (some (XV a b))):=fun q=>by
  unfold zdU at h;rw [if_pos q] at h;exact h
 have no:(¬ ∀ c∈XV a b,F4 c)→κ (zlV none):=fun q=>by
  unfold zdU at h;rw [if_neg q] at h;exact h
 clear h
 unfold yd Xd
 refine zb5 (zp (fun e=>?_) (fun e=>zcu ha hb (zp (fun e2=>?_) (fun e2=>?_))))
 ·have hc:XV a b=[]:=by
   have:em4 (xJ a b)=true:=by
    simp only [em4,decide_eq_true_eq,xJ] at e ⊢
    rcases e with e | e | e | e <;> simp [e,jb]
   unfold XV;rw [if_pos this,if_pos e]
  rw [hc] at yes;exact yes (by simp)
 ·have hc:XV a b=[a]:=by
   unfold XV;rw [if_pos (by simpa using e2),if_neg (by simp [e])]
  rw [hc] at yes
  refine jq (jn (by simp) ?_)
  exact yes (by simpa using hf)
 have e3:em4 (xJ a b)=false:=by simpa using e2
 rw [zjL e3] at yes no
 clear e e2 e3
 refine z6 4 (fun s=>s.2.2.2) (fun k (s:List (List ze)×Option (List za)×Bool×Int)=>s.2.2.2=(k:Int)∧k≤4∧(∃ hd,s.1=L4 hd∧(s.2.2.1=true→hd=hdm a b k))∧(s.2.2.1=true↔∀ j,j<k→(mt a b j).length≤40)∧s.2.1=some (pcs a b k)∧∀ c∈pcs a b k,F4 c) (fun k s h=>h.1) (fun k s h=>h.2.1) ?_ ⟨rfl,by omega,⟨a,rfl,fun _=>rfl⟩,by simp,rfl,by simp [pcs]⟩
 rintro k ⟨xs,z,fits,_⟩ next ⟨rfl,hk,⟨hd,hxs,hfx⟩,hfit,hz,hpre⟩ hn
 simp only at hxs hfx hfit hz
 subst hxs hz
 refine zp (fun hc=>?_) (fun hc=>?_)
 rotate_left
 ·have hge:4≤(k:Int):=by simpa using hc
  obtain rfl:k=4:=by omega
  exact yes hpre
 have hlt:k<4:=by
  have:(k:Int)<4:=by simpa using hc
  omega
 have k0:(0:Int)≤k:=by omega
 have k3:(k:Int)≤3:=by omega
 have sa:=ZV ha k0 k3
 have sb:=ZV hb k0 k3
 have tl:=UM k
 have fin2:∀ (z':List za) (hd':za),z'=pcs a b (k+1)→(∀ c∈z',F4 c)→(fits=true→hd'=hdm a b k)→∀ l ok,(l,ok)=lim (mt a b k)→zB (L4 hd') k (fun e432=>ifW fits (jz (k:Int) 1 (fun t505=>next ((L4 hd').set (k:Int).toNat l,some z',ok,t505))) (jz (k:Int) 1 (fun t505=>next ((L4 hd').set (k:Int).toNat l,some z',false,t505)))):=by
  intro z' hd' hz' hF hh l ok hl
  subst hz'
  refine yJ k0 k3 (zp (fun e=>?_) (fun e=>?_))
  ·refine zC (by omega) (by omega) (hn hlt _ ⟨by simp,by omega,⟨YH hd' k l,U6 k0 k3,fun q=>?_⟩,?_,rfl,hF⟩)
   ·simp only at q
    rw [hh e]
    unfold lim at hl
    split at hl
    ·injection hl with _ h2;rw [q] at h2;cases h2
    ·injection hl with h1 _;rw [h1,zi5 a b hlt]
   ·simp only
    unfold lim at hl
    constructor
    ·intro q j hj
     by_cases ej:j=k
     ·subst ej
      split at hl
      ·injection hl with _ h2;rw [q] at h2;cases h2
      ·omega
     ·exact hfit.1 e j (by omega)
    ·intro q
     have:=q k (by omega)
     rw [if_neg (by omega)] at hl
     injection hl
  ·refine zC (by omega) (by omega) (hn hlt _ ⟨by simp,by omega,⟨YH hd' k l,U6 k0 k3,fun q=>by cases q⟩,?_,rfl,hF⟩)
   simp only
   constructor
   ·intro q;cases q
   ·intro q
    have:=hfit.2 (fun j hj=>q j (by omega))
    rw [this] at e;cases e
 have piece:rst a b k≠[]→YH (hdm a b k) k (rst a b k)∈pcs a b 4:=fun q=>zjU a b hlt _ (by unfold pcn pc;rw [if_neg q];simp)
 refine jW (zeN (fun r=>r=lim (rst a b k)) ?_ ?_)
 rotate_left
 ·intro K hK
  have leaf:ju (xG a k) (xG b k) (top k) K:=zgI sa sb (by omega) (by omega) (hK _ rfl)
  refine ⟨yJ k0 k3 ⟨?_,?_⟩,yJ k0 k3 ⟨?_,?_⟩,Zh k0 k3 ⟨?_,?_⟩⟩
  ·exact yJ k0 k3 (Zh k0 k3 leaf)
  ·exact Zh k0 k3 (yJ k0 k3 leaf)
  ·exact yJ k0 k3 (Zh k0 k3 leaf)
  ·exact Zh k0 k3 (yJ k0 k3 leaf)
  ·exact yJ k0 k3 (yJ k0 k3 leaf)
  ·exact yJ k0 k3 (yJ k0 k3 leaf)
 rintro ⟨l,okl⟩ hl
 refine zeN (fun t=>t=(!okl || (decide (0<(l.length:Int)) && !fits))) ?_ ?_
 rotate_left
 ·intro K hK
  have hK:=hK _ rfl
  refine zp (fun e=>?_) (fun e=>?_)
  ·have:okl=false:=by simpa using e
   rw [this] at hK;simpa using hK
  ·have:okl=true:=by simpa using e
   rw [this] at hK
   refine zp (fun e=>?_) (fun e=>?_)
   ·rw [e] at hK;simpa using hK
   ·rw [e] at hK;simpa using hK
 rintro t rfl
 refine zp (fun e=>?_) (fun e=>?_)
 ·
  refine jG (no (fun q=>?_))
  unfold lim at hl
  split at hl
  ·rename_i h40
   have hne:rst a b k≠[]:=fun f=>by rw [f] at h40;simp at h40
   have:=((zlM hf hlt).1 (q _ (piece hne))).1
   omega
  ·rename_i h40
   injection hl with h1 h2
   subst h1 h2
   have e':0<(rst a b k).length∧fits=false:=by simpa using e
   have hne:rst a b k≠[]:=fun f=>by rw [f] at e';simp at e'
   have:=hfit.2 ((zlM hf hlt).1 (q _ (piece hne))).2
   rw [this] at e';simp at e'
 unfold lim at hl
 split at hl
 ·injection hl with h1 h2
  subst h1 h2
  simp at e
 rename_i h40
 injection hl with h1 h2
 subst h1 h2
 have e':rst a b k≠[]→fits=true:=fun q=>by
  cases fits with
  | true=>rfl
  | false =>
   have:0<(rst a b k).length:=List.length_pos_iff.2 q
   simp [this] at e
 clear e
 refine zeN (fun s=>s.1=some (pcs a b (k+1))∧(∀ c∈pcs a b (k+1),F4 c)∧∃ hd',s.2=L4 hd'∧(fits=true→hd'=hdm a b k)) ?_ ?_
 ·rintro ⟨z,ys⟩ ⟨hz,hF,hd',hy,hh⟩
  simp only at hz hy
  subst hz hy
  refine zeN (fun r=>r=lim (mt a b k)) ?_ ?_
  ·rintro ⟨m,okm⟩ hm
   exact fin2 _ hd' rfl hF hh m okm hm
  ·intro K hK
   have leaf:zH (xG a k) (xG b k) (top k) K:=Yz sa sb (by omega) (by omega) (hK _ rfl)
   refine ⟨yJ k0 k3 ⟨?_,?_⟩,yJ k0 k3 ⟨?_,?_⟩,Zh k0 k3 ⟨?_,?_⟩⟩
   ·exact yJ k0 k3 (Zh k0 k3 leaf)
   ·exact Zh k0 k3 (yJ k0 k3 leaf)
   ·exact yJ k0 k3 (Zh k0 k3 leaf)
   ·exact Zh k0 k3 (yJ k0 k3 leaf)
   ·exact yJ k0 k3 (yJ k0 k3 leaf)
   ·exact yJ k0 k3 (yJ k0 k3 leaf)
 ·intro K hK
  refine zp (fun e=>?_) (fun e=>?_)
  ·have hne:rst a b k≠[]:=fun f=>by rw [f] at e;simp at e
   have hft:=e' hne
   have ed:=hfx hft
   subst ed
   have hpc:pcs a b (k+1)=pcs a b k++[YH (hdm a b k) k (rst a b k)]:=by
    rw [UO];unfold pcn pc;rw [if_neg hne]
   refine ⟨_,_,_,_,rfl,yJ (a:=hdm a b k) k0 k3 ⟨(YH (hdm a b k) k (rst a b k)).x0,(YH (hdm a b k) k (rst a b k)).x1,(YH (hdm a b k) k (rst a b k)).x2,(YH (hdm a b k) k (rst a b k)).x3,U6 (a:=hdm a b k) k0 k3,?_⟩⟩
   have hl1:(pcs a b k).length≤4:=by
    have h1:∀ n,(pcs a b n).length≤n:=by
     intro n
     induction n with
     | zero=>simp [pcs]
     | succ n ih =>
      have:=U0 (rst a b n) (YH (hdm a b n) n (rst a b n))
      rw [UO,List.length_append];unfold pcn;omega
    have:=h1 k;omega
   refine jq (jn (by simp;omega) (jG (hK _ ⟨by rw [hpc],?_,hdm a b k,rfl,fun _=>rfl⟩)))
   intro c hc
   rw [hpc] at hc
   rcases List.mem_append.1 hc with q | q
   ·exact hpre c q
   ·have:c=YH (hdm a b k) k (rst a b k):=by simpa using q
    rw [this]
    exact (zlM hf hlt).2 ⟨by omega,hfit.1 hft⟩
  ·have hnil:rst a b k=[]:=by
    cases hr:rst a b k with
    | nil=>rfl
    | cons x r=>rw [hr] at e;simp at e
   have hpc:pcs a b (k+1)=pcs a b k:=by
    rw [UO];unfold pcn pc;rw [if_pos hnil];simp
   exact hK _ ⟨by rw [hpc],by rw [hpc];exact hpre,hd,rfl,hfx⟩
end
section
def pv (p:js):Prop:=(0≤p.xFrom∧p.xFrom≤65535)∧(0≤p.xTo∧p.xTo≤65535)∧(0≤p.xPort∧p.xPort≤255)∧(0≤p.xProto∧p.xProto≤7)
instance (p:js):Decidable (pv p):=by unfold pv;infer_instance
def tv (t:Int):Prop:=0≤t∧t≤1000000
instance (t:Int):Decidable (tv t):=by unfold tv;infer_instance
def Y9 (p:js):Nat→Int
 | 0=>p.xFrom
 | 1=>p.xTo
 | 2=>p.xPort
 | _=>p.xProto
def lv (t:Int):Prop:=0≤t∧t≤1000
instance (t:Int):Decidable (lv t):=by unfold lv;infer_instance
end
section
open Go Go.Proofs
def BV (b:jd):Prop:=∃ a,b=bx a∧B4 a∧F4 a
noncomputable instance (b:jd):Decidable (BV b):=Classical.propDecidable _
def sd (b:jd):za:=match b.xSides with | [x0,x1,x2,x3]=>⟨x0,x1,x2,x3⟩ | _=>zca
theorem zmq (a:za):sd (bx a)=a:=rfl
theorem BV.eq {b:jd} (h:BV b):b=bx (sd b):=by obtain ⟨a,rfl,_⟩:=h;rfl
theorem BV.b4 {b:jd} (h:BV b):B4 (sd b):=by obtain ⟨a,rfl,h,_⟩:=h;exact h
theorem BV.f4 {b:jd} (h:BV b):F4 (sd b):=by obtain ⟨a,rfl,_,h⟩:=h;exact h
theorem zdl {a:za}:BV (bx a)↔B4 a∧F4 a:=⟨fun h=>⟨h.b4,h.f4⟩,fun h=>⟨a,rfl,h⟩⟩
theorem zfm {b:jd} (h:BV b):b.xSides.length=4:=by obtain ⟨a,rfl,_⟩:=h;rfl
theorem zl8 {α:Type} {l:List α} (h:l.length=4):∃ a b c d,l=[a,b,c,d]:=by
 match l,h with
 | [a,b,c,d],_=>exact ⟨a,b,c,d,rfl⟩
theorem zk2 {b:jd} (h:b.xSides.length=4):b=bx (sd b):=by
 obtain ⟨x0,x1,x2,x3,e⟩:=zl8 h
 obtain ⟨s⟩:=b
 simp only at e
 subst e
 rfl
theorem zfE {a:za}:BV (bx a)↔∀ n:Nat,n<4→SpV (xG a n) (top n):=by
 rw [zdl]
 constructor
 ·rintro ⟨⟨b0,b1,b2,b3⟩,f0,f1,f2,f3⟩ n hn
  rcases XB hn with rfl | rfl | rfl | rfl
  ·exact ⟨f0,b0⟩
  ·exact ⟨f1,b1⟩
  ·exact ⟨f2,b2⟩
  ·exact ⟨f3,b3⟩
 ·intro h
  obtain ⟨f0,b0⟩:=h 0 (by decide)
  obtain ⟨f1,b1⟩:=h 1 (by decide)
  obtain ⟨f2,b2⟩:=h 2 (by decide)
  obtain ⟨f3,b3⟩:=h 3 (by decide)
  exact ⟨⟨b0,b1,b2,b3⟩,f0,f1,f2,f3⟩
def Bb (b:jd):Prop:=b.xSides.length≤4294967296∧∀ x∈b.xSides,x.length≤4294967296
def Fb (l:List zJ):Prop:=l.length≤4294967296∧∀ f∈l,Bb f.xWhere
theorem BV.bb {b:jd} (h:BV b):Bb b:=by
 obtain ⟨a,rfl,_,f0,f1,f2,f3⟩:=h
 refine ⟨by simp [bx],fun x hx=>?_⟩
 simp only [bx,List.mem_cons,List.not_mem_nil,or_false] at hx
 rcases hx with rfl | rfl | rfl | rfl <;> omega
theorem zjf (a:za) {n:Nat} (h:n<4):xG a n∈(bx a).xSides:=by
 rcases XB h with rfl | rfl | rfl | rfl <;> simp [xG,bx]
theorem VY {b:jd} (hb:Bb b) {κ:Bool→Prop} (h:κ (decide (BV b))):Z6 b κ:=by
 unfold Z6
 have h1:=hb.1
 refine zp (fun e=>?_) (fun e=>?_)
 ·have e':¬ b.xSides.length=4:=fun q=>by rw [q] at e;simp at e
  rw [decide_eq_false (fun q=>e' (zfm q))] at h;exact h
 have e4:b.xSides.length=4:=by
  have:(b.xSides.length:Int)=4:=by simpa using e
  omega
 obtain ⟨a,rfl⟩:∃ a,b=bx a:=⟨_,zk2 e4⟩
 clear e e4
 refine z6 4 (fun s=>s) (fun k s=>s=(k:Int)∧k≤4∧∀ n:Nat,n<k→SpV (xG a n) (top n)) (fun k s h=>h.1) (fun k s h=>h.2.1) ?_ ⟨rfl,by omega,fun n h=>by omega⟩
 rintro k _ next ⟨rfl,hk,hv⟩ hn
 refine zp (fun hc=>?_) (fun hc=>?_)
 ·have hlt:k<4:=by
   have:(k:Int)<4:=by simpa [bx] using hc
   omega
  have k0:(0:Int)≤k:=by omega
  have k3:(k:Int)≤3:=by omega
  have tl:=UM k
  refine yJ k0 k3 (Zh k0 k3 (zbo (by have:=hb.2 _ (zjf a hlt);omega) (by omega) (by omega) (zp (fun e=>?_) (fun e=>?_))))
  ·have:¬ SpV (xG a k) (top k):=by simpa using e
   rw [decide_eq_false (fun q=>this (zfE.1 q k hlt))] at h;exact h
  ·have:SpV (xG a k) (top k):=by simpa using e
   refine zC (by omega) (by omega) (hn hlt _ ⟨by simp,by omega,fun n hnk=>?_⟩)
   by_cases q:n=k
   ·subst q;exact this
   ·exact hv n (by omega)
 ·have hge:k=4:=by
   have:(4:Int)≤k:=by simpa [bx] using hc
   omega
  subst hge
  rw [decide_eq_true (zfE.2 hv)] at h;exact h
theorem Zb {b:jd} (hb:Bb b) {κ:Bool→Prop} (h:κ (decide (BV b))):uN b κ:=by
 unfold uN
 have h1:=hb.1
 refine z6 b.xSides.length (fun s=>s) (fun k s=>s=(k:Int)∧k≤b.xSides.length∧k≤4∧∀ n:Nat,n<k→∀ q:n<b.xSides.length,SpV (b.xSides[n]) (top n)) (fun k s h=>h.1) (fun k s h=>h.2.1) ?_ ⟨rfl,by omega,by omega,fun n h=>by omega⟩
 rintro k _ next ⟨rfl,hk,hk4,hv⟩ hn
 refine zp (fun hc=>?_) (fun hc=>?_)
 ·have hlt:k<b.xSides.length:=by simpa using hc
  refine jW (zp (fun e=>?_) (fun e=>?_))
  ·have e':4≤k:=by
    have:(4:Int)≤k:=by simpa using e
    omega
   rw [decide_eq_false (fun q=>by have:=zfm q;omega)] at h
   exact jq h
  have e':k<4:=by
   have:¬ (4:Int)≤k:=by simpa using e
   omega
  have k0:(0:Int)≤k:=by omega
  have k3:(k:Int)≤3:=by omega
  have tl:=UM k
  refine zr k rfl hlt (xO k0 k3 (Y3 (hb.2 _ (List.getElem_mem hlt)) (by omega) (by omega) (zp (fun e=>?_) (fun e=>?_))))
  ·have no:¬ SpV (b.xSides[k]) (top k):=by simpa using e
   rw [decide_eq_false (fun q=>no ?_)] at h
   ·exact h
   ·obtain ⟨a,rfl,_⟩:=id q
    have:=zfE.1 q k e'
    have e2:(bx a).xSides[k]=xG a k:=by rcases XB e' with rfl | rfl | rfl | rfl <;> rfl
    rw [e2];exact this
  ·have yes:SpV (b.xSides[k]) (top k):=by simpa using e
   refine zC (by omega) (by omega) (hn hlt _ ⟨by simp,by omega,by omega,fun n hnk q=>?_⟩)
   by_cases e:n=k
   ·subst e;exact yes
   ·exact hv n (by omega) q
 ·have hge:b.xSides.length=k:=by
   have:b.xSides.length≤k:=by simpa using hc
   omega
  have:decide (BV b)=decide ((b.xSides.length:Int)=4):=decide_eq_decide.2 ⟨fun q=>by have:=zfm q;omega,fun q=>by
   have e4:b.xSides.length=4:=by omega
   obtain ⟨a,rfl⟩:∃ a,b=bx a:=⟨_,zk2 e4⟩
   refine zfE.2 (fun n hn4=>?_)
   have:=hv n (by omega) (by simpa [bx] using hn4)
   have e2:(bx a).xSides[n]'(by simpa [bx] using hn4)=xG a n:=by rcases XB hn4 with rfl | rfl | rfl | rfl <;> rfl
   rw [e2] at this;exact this⟩
  rw [this] at h;exact h
def FV (l:List zJ):Prop:=l.length≤60∧∀ f∈l,BV f.xWhere
noncomputable instance (l:List zJ):Decidable (FV l):=Classical.propDecidable _
theorem FV.fb {l:List zJ} (h:FV l):Fb l:=⟨by have:=h.1;omega,fun f hf=>(h.2 f hf).bb⟩
theorem zbB {l:List zJ} (hl:Fb l) {κ:Bool→Prop} (h:κ (decide (FV l))):Xt l κ:=by
 unfold Xt
 have h1:=hl.1
 refine zp (fun e=>?_) (fun e=>?_)
 ·rw [decide_eq_false (fun q=>by have:=q.1;simp at e;omega)] at h;exact h
 have h60:l.length≤60:=by simp at e;omega
 refine z6 l.length (fun s=>s) (fun k s=>s=(k:Int)∧k≤l.length∧∀ f∈l.take k,BV f.xWhere) (fun k s h=>h.1) (fun k s h=>h.2.1) ?_ ⟨rfl,by omega,by simp⟩
 rintro k _ next ⟨rfl,hk,hv⟩ hn
 refine zp (fun hc=>?_) (fun hc=>?_)
 ·have hlt:k<l.length:=by simpa using hc
  refine zr k rfl hlt (VY (hl.2 _ (List.getElem_mem hlt)) (zp (fun e=>?_) (fun e=>?_)))
  ·have:¬ BV (l[k].xWhere):=by simpa using e
   rw [decide_eq_false (fun q=>this (q.2 _ (List.getElem_mem hlt)))] at h;exact h
  ·have:BV (l[k].xWhere):=by simpa using e
   refine zC (by omega) (by omega) (hn hlt _ ⟨by simp,by omega,fun f hf=>?_⟩)
   rw [List.take_succ_eq_append_getElem hlt] at hf
   rcases List.mem_append.1 hf with q | q
   ·exact hv f q
   ·simp only [List.mem_singleton] at q;rw [q];exact this
 ·have hge:l.length≤k:=by simpa using hc
  rw [List.take_of_length_le hge] at hv
  rw [decide_eq_true (show FV l from ⟨h60,hv⟩)] at h;exact h
theorem Zm {l:List zJ} (hl:Fb l) {κ:Bool→Prop} (h:κ (decide (FV l))):uI l κ:=by
 unfold uI
 have h1:=hl.1
 refine z6 l.length (fun s=>s) (fun k s=>s=(k:Int)∧k≤l.length∧∀ f∈l.take k,BV f.xWhere) (fun k s h=>h.1) (fun k s h=>h.2.1) ?_ ⟨rfl,by omega,by simp⟩
 rintro k _ next ⟨rfl,hk,hv⟩ hn
 refine zp (fun hc=>?_) (fun hc=>?_)
 ·have hlt:k<l.length:=by simpa using hc
  refine zr k rfl hlt (Zb (hl.2 _ (List.getElem_mem hlt)) (zp (fun e=>?_) (fun e=>?_)))
  ·have:¬ BV (l[k].xWhere):=by simpa using e
   rw [decide_eq_false (fun q=>this (q.2 _ (List.getElem_mem hlt)))] at h;exact h
  ·have:BV (l[k].xWhere):=by simpa using e
   refine zC (by omega) (by omega) (hn hlt _ ⟨by simp,by omega,fun f hf=>?_⟩)
   rw [List.take_succ_eq_append_getElem hlt] at hf
   rcases List.mem_append.1 hf with q | q
   ·exact hv f q
   ·simp only [List.mem_singleton] at q;rw [q];exact this
 ·have hge:l.length≤k:=by simpa using hc
  rw [List.take_of_length_le hge] at hv
  rw [show decide (FV l)=decide ((l.length:Int)≤60) from decide_eq_decide.2 ⟨fun q=>by have:=q.1;omega,fun q=>⟨by omega,hv⟩⟩] at h;exact h
theorem zh7 {b:jd} (hb:b.xSides.length=4) {κ:za→Prop} (h:κ (sd b)):UY b κ:=by
 have e:=zk2 hb
 rw [e] at h ⊢
 exact ⟨_,_,_,_,[],rfl,h⟩
def fl (f:zJ):zj:=⟨sd f.xWhere,f.xAccept⟩
theorem U2 {α β:Type} (a:List α) (f:α→β) (hl:a.length≤4294967296) {κ:List β→Prop} (T:α→(β→Prop)→Prop) (hT:∀ x ψ,x∈a→ψ (f x)→T x ψ) (hκ:κ (a.map f))
  (F:(List β×Int→Prop)→List β×Int→Prop)
  (hF:∀ nx xs t,(ifW (decide (t<(a.length:Int))) (zB a t (fun e=>T e (fun r=>jw xs [r] (fun _=>jz t 1 (fun u=>nx (xs++[r],u)))))) (κ xs))→F nx (xs,t)):jy F ([],0):=by
 refine z6 a.length (fun s=>s.2) (fun k s=>s.2=(k:Int)∧k≤a.length∧s.1=(a.take k).map f) (fun k s h=>h.1) (fun k s h=>h.2.1) ?_ ⟨rfl,Nat.zero_le _,by simp⟩
 rintro k ⟨ys,t⟩ next ⟨rfl,hk,hy⟩ hn
 simp only at hy
 subst hy
 refine hF _ _ _ (zp (fun hc=>?_) (fun hc=>?_))
 ·have hlt:k<a.length:=by simpa using hc
  refine zr k rfl hlt (hT _ _ (List.getElem_mem hlt) (jn (by simp;omega) (zC (by omega) (by omega) (hn hlt _ ⟨by simp,by omega,?_⟩))))
  rw [List.take_succ_eq_append_getElem hlt,List.map_append];rfl
 ·have hge:a.length≤k:=by simpa using hc
  rw [List.take_of_length_le hge];exact hκ
theorem zf7 {l:List zj} (hl:l.length≤4294967296) {κ:List za→Prop} (h:κ (l.map (·.xWhere))):X8 l κ:=by
 unfold X8
 refine UU 0 rfl (by omega) (by omega) ?_
 exact U2 l (·.xWhere) hl (fun x ψ=>ψ x.xWhere) (fun x ψ hx hψ=>hψ) h _ (fun nx xs t hh=>hh)
theorem zl0 {a:za} (hl:∀ x∈L4 a,x.length≤4294967296) {κ:jd→Prop} (h:κ (bx a)):ZI a κ:=by
 unfold ZI
 refine UU 4 rfl (by decide) (by decide) ?_
 obtain ⟨x0,x1,x2,x3⟩:=a
 have l0:=hl x0 (by simp [L4])
 have l1:=hl x1 (by simp [L4])
 have l2:=hl x2 (by simp [L4])
 have l3:=hl x3 (by simp [L4])
 refine ⟨5,?_⟩
 refine jq (zr 0 rfl (by simp) (jn (by simpa using l0) (zr 0 rfl (by simp) (zC (by decide) (by decide) ?_))))
 refine jq (zr 1 rfl (by simp) (jn (by simpa using l1) (zr 1 rfl (by simp) (zC (by decide) (by decide) ?_))))
 refine jq (zr 2 rfl (by simp) (jn (by simpa using l2) (zr 2 rfl (by simp) (zC (by decide) (by decide) ?_))))
 refine jq (zr 3 rfl (by simp) (jn (by simpa using l3) (zr 3 rfl (by simp) (zC (by decide) (by decide) ?_))))
 exact jG h
theorem zl9 {a:za} (h:F4 a):∀ x∈L4 a,x.length≤4294967296:=fun x hx=>by
 obtain ⟨f0,f1,f2,f3⟩:=h
 simp only [L4,List.mem_cons,List.not_mem_nil,or_false] at hx
 rcases hx with rfl | rfl | rfl | rfl <;> omega
theorem za9 {b:jd} (hb:Bb b) {κ:jd→Prop} (h:κ b):Z2 b κ:=yu hb.1 hb.2 h
theorem zgD {f:zJ} (hb:Bb f.xWhere) {κ:zJ→Prop} (h:κ f):XR f κ:=za9 hb h
theorem Z4 {l:List zJ} (hl:Fb l) {κ:List zJ→Prop} (h:κ l):ub l κ:=by
 unfold ub
 exact U2 l id hl.1 (fun x ψ=>XR x ψ) (fun x ψ hx hψ=>zgD (hl.2 x hx) hψ) (by simpa using h) _ (fun nx xs t hh=>hh)
def hb4 (a:za) (p:js):Prop:=hv a.x0 p.xFrom∧hv a.x1 p.xTo∧hv a.x2 p.xPort∧hv a.x3 p.xProto
instance (a:za) (p:js):Decidable (hb4 a p):=by unfold hb4;infer_instance
theorem zaH (a:za) (p:js):hb4 a p↔∀ n:Nat,n<4→hv (xG a n) (Y9 p n):=by
 constructor
 ·rintro ⟨h0,h1,h2,h3⟩ n hn
  rcases XB hn with rfl | rfl | rfl | rfl
  ·exact h0
  ·exact h1
  ·exact h2
  ·exact h3
 ·intro h
  exact ⟨h 0 (by decide),h 1 (by decide),h 2 (by decide),h 3 (by decide)⟩
end
section
open Go Go.Proofs
def Vl (l:List za):Prop:=∀ c∈l,F4 c
instance (l:List za):Decidable (Vl l):=by unfold Vl;infer_instance
def aB (l:List za):Prop:=∀ c∈l,B4 c
theorem zbx:Vl []:=fun c h=>by simp at h
theorem zdh:aB []:=fun c h=>by simp at h
theorem yo {l m:List za}:Vl (l++m)↔Vl l∧Vl m:=by
 unfold Vl
 simp only [List.mem_append]
 exact ⟨fun h=>⟨fun c hc=>h c (.inl hc),fun c hc=>h c (.inr hc)⟩,fun h c hc=>hc.elim (h.1 c) (h.2 c)⟩
theorem Yv {l m:List za}:aB (l++m)↔aB l∧aB m:=by
 unfold aB
 simp only [List.mem_append]
 exact ⟨fun h=>⟨fun c hc=>h c (.inl hc),fun c hc=>h c (.inr hc)⟩,fun h c hc=>hc.elim (h.1 c) (h.2 c)⟩
def xP (left:List za) (b:za):List za:=left.flatMap (fun c=>XV c b)
def okR (l:List za):Prop:=Vl l∧l.length≤400
instance (l:List za):Decidable (okR l):=by unfold okR;infer_instance
def lgo:List za→List za→Option (List za)
 | left,[]=>some left
 | left,b :: bs=>if okR (xP left b) then lgo (xP left b) bs else none
def YD (a:za) (bs:List za):Option (List za):=if em4 a then some [] else lgo [a] bs
def zj9:Option (List za)→List za×Bool
 | some l=>(l,true)
 | none=>([],false)
theorem zfC:∀ (bs:List za),lgo [] bs=some []
 | []=>rfl
 | b :: bs=>by
  have e:xP [] b=[]:=rfl
  unfold lgo
  rw [e,if_pos ⟨zbx,by simp⟩]
  exact zfC bs
theorem Z9 (l m:List za) (b:za):xP (l++m) b=xP l b++xP m b:=by simp [xP]
theorem YA (c b:za):xP [c] b=XV c b:=by simp [xP]
theorem UF {left:List za} {b:za} (hl:aB left) (hb:B4 b):aB (xP left b):=fun c hc=>by
 obtain ⟨d,hd,hc⟩:=List.mem_flatMap.1 hc
 exact zj6 (hl d hd) hb c hc
theorem zkI:∀ {bs left r:List za},aB left→aB bs→lgo left bs=some r→aB r
 | [],left,r,hl,hb,h=>by simp only [lgo,Option.some.injEq] at h;rw [← h];exact hl
 | b :: bs,left,r,hl,hb,h=>by
  unfold lgo at h
  split at h
  ·exact zkI (UF hl (hb b (by simp))) (fun c hc=>hb c (by simp [hc])) h
  ·cases h
theorem zjl:∀ {bs left r:List za},okR left→lgo left bs=some r→okR r
 | [],left,r,hl,h=>by simp only [lgo,Option.some.injEq] at h;rw [← h];exact hl
 | b :: bs,left,r,hl,h=>by
  unfold lgo at h
  split at h
  ·rename_i q;exact zjl q h
  ·cases h
theorem zdJ {a:za} {bs r:List za} (ha:B4 a) (hf:F4 a) (hb:aB bs) (h:YD a bs=some r):aB r∧okR r:=by
 unfold YD at h
 split at h
 ·injection h with h;subst h;exact ⟨zdh,zbx,by simp⟩
 ·exact ⟨zkI (fun c hc=>by simp only [List.mem_singleton] at hc;subst hc;exact ha) hb h,zjl ⟨fun c hc=>by simp only [List.mem_singleton] at hc;subst hc;exact hf,by simp⟩ h⟩
def hbs (l:List za) (p:js):Prop:=∃ c∈l,hb4 c p
instance (l:List za) (p:js):Decidable (hbs l p):=by unfold hbs;infer_instance
theorem Xl (p:js):¬ hbs [] p:=by simp [hbs]
theorem ZY (l m:List za) (p:js):hbs (l++m) p↔hbs l p∨hbs m p:=by
 unfold hbs
 simp only [List.mem_append]
 constructor
 ·rintro ⟨c,h | h,k⟩
  ·exact .inl ⟨c,h,k⟩
  ·exact .inr ⟨c,h,k⟩
 ·rintro (⟨c,h,k⟩ | ⟨c,h,k⟩)
  ·exact ⟨c,.inl h,k⟩
  ·exact ⟨c,.inr h,k⟩
theorem VM (c:za) (p:js):hbs [c] p↔hb4 c p:=by simp [hbs]
theorem UQ {a b:List ze} {t x:Int} (ha:St a t) (hb:St b t):hv (xI a b t) x↔hv a x∧¬ hv b x:=by
 unfold xI
 rw [XM,zcf hb]
 exact ⟨fun h=>⟨h.1,h.2.2.2⟩,fun h=>⟨h.1,(ym ha h.1).1,(ym ha h.1).2,h.2⟩⟩
theorem UP (a b:za) (p:js):hb4 (xJ a b) p↔hb4 a p∧hb4 b p:=by
 unfold hb4 xJ
 simp only [XM]
 exact ⟨fun ⟨⟨a0,b0⟩,⟨a1,b1⟩,⟨a2,b2⟩,a3,b3⟩=>⟨⟨a0,a1,a2,a3⟩,b0,b1,b2,b3⟩,fun ⟨⟨a0,a1,a2,a3⟩,b0,b1,b2,b3⟩=>⟨⟨a0,b0⟩,⟨a1,b1⟩,⟨a2,b2⟩,a3,b3⟩⟩
theorem zdT {a:za} (h:em4 a=true) (p:js):¬ hb4 a p:=by
 rintro ⟨h0,h1,h2,h3⟩
 simp only [em4,decide_eq_true_eq] at h
 rcases h with e | e | e | e
 ·rw [e] at h0;exact uP _ h0
 ·rw [e] at h1;exact uP _ h1
 ·rw [e] at h2;exact uP _ h2
 ·rw [e] at h3;exact uP _ h3
theorem zfi {r:List ze} {c:za} {p:js} (h:r=[]→¬ hb4 c p):hbs (pc r c) p↔hb4 c p:=by
 unfold pc
 split
 ·rename_i e;exact ⟨fun q=>absurd q (Xl p),fun q=>absurd q (h e)⟩
 ·exact VM c p
theorem zfn {a b:za} (ha:B4 a) (hb:B4 b) (p:js):hbs (XV a b) p↔hb4 a p∧¬ hb4 b p:=by
 unfold XV
 split
 ·rename_i e
  have no:=zdT e p
  rw [UP] at no
  split
  ·rename_i e2;exact ⟨fun q=>absurd q (Xl p),fun q=>absurd q.1 (zdT e2 p)⟩
  ·rw [VM];exact ⟨fun q=>⟨q,fun r=>no ⟨q,r⟩⟩,fun q=>q.1⟩
 ·obtain ⟨p0,p1,p2,p3⟩:=ha
  obtain ⟨q0,q1,q2,q3⟩:=hb
  rw [ZY,ZY,ZY]
  rw [zfi (fun e q=>uP _ (e ▸ q.1)),zfi (fun e q=>uP _ (e ▸ q.2.1)),zfi (fun e q=>uP _ (e ▸ q.2.2.1)),zfi (fun e q=>uP _ (e ▸ q.2.2.2))]
  simp only [hb4,XM,UQ p0 q0,UQ p1 q1,UQ p2 q2,UQ p3 q3]
  by_cases c0:hv b.x0 p.xFrom <;> by_cases c1:hv b.x1 p.xTo <;> by_cases c2:hv b.x2 p.xPort <;> by_cases c3:hv b.x3 p.xProto <;> simp only [c0,c1,c2,c3,not_true,not_false_eq_true,and_true,and_false,true_and,false_and,or_false,false_or,iff_self,and_self,or_self]
theorem zgM {left:List za} {b:za} (hl:aB left) (hb:B4 b) (p:js):hbs (xP left b) p↔hbs left p∧¬ hb4 b p:=by
 constructor
 ·rintro ⟨c,hc,k⟩
  obtain ⟨d,hd,hc⟩:=List.mem_flatMap.1 hc
  have:=(zfn (hl d hd) hb p).1 ⟨c,hc,k⟩
  exact ⟨⟨d,hd,this.1⟩,this.2⟩
 ·rintro ⟨⟨d,hd,k⟩,hn⟩
  obtain ⟨c,hc,k⟩:=(zfn (hl d hd) hb p).2 ⟨k,hn⟩
  exact ⟨c,List.mem_flatMap.2 ⟨d,hd,hc⟩,k⟩
theorem zjv:∀ {bs left r:List za},aB left→aB bs→lgo left bs=some r→∀ p,hbs r p↔hbs left p∧¬ hbs bs p
 | [],left,r,hl,hb,h,p=>by
  simp only [lgo,Option.some.injEq] at h;rw [← h]
  exact ⟨fun q=>⟨q,Xl p⟩,fun q=>q.1⟩
 | b :: bs,left,r,hl,hb,h,p=>by
  unfold lgo at h
  split at h
  ·have hb0:=hb b (by simp)
   rw [zjv (UF hl hb0) (fun c hc=>hb c (by simp [hc])) h p,zgM hl hb0]
   have e:hbs (b :: bs) p↔hb4 b p∨hbs bs p:=by
    have:=ZY [b] bs p
    rw [VM] at this
    exact this
   rw [e]
   exact ⟨fun q=>⟨q.1.1,fun r=>r.elim q.1.2 q.2⟩,fun q=>⟨⟨q.1,fun r=>q.2 (.inl r)⟩,fun r=>q.2 (.inr r)⟩⟩
  ·cases h
theorem zd0 {a:za} {bs r:List za} (ha:B4 a) (hb:aB bs) (h:YD a bs=some r) (p:js):hbs r p↔hb4 a p∧¬ hbs bs p:=by
 unfold YD at h
 split at h
 ·rename_i e
  injection h with h;subst h
  exact ⟨fun q=>absurd q (Xl p),fun q=>absurd q.1 (zdT e p)⟩
 ·rw [zjv (fun c hc=>by simp only [List.mem_singleton] at hc;subst hc;exact ha) hb h p,VM]
theorem zcM {a:za} {bs:List za} (ha:B4 a) (hf:F4 a) (hb:aB bs) (hl:bs.length≤4294967296) {κ:List za×Bool→Prop} (h:κ (zj9 (YD a bs))):uS a bs κ:=by
 unfold uS
 refine zb5 (zp (fun e=>?_) (fun e=>?_))
 ·unfold YD at h;rw [if_pos e] at h;exact h
 unfold YD at h;rw [if_neg (by simp [e])] at h
 refine jW ?_
 refine z6 bs.length (fun s=>s.2) (fun k (s:List za×Int)=>s.2=(k:Int)∧k≤bs.length∧aB s.1∧okR s.1∧lgo [a] bs=lgo s.1 (bs.drop k)) (fun k s h=>h.1) (fun k s h=>h.2.1) ?_ ⟨rfl,by omega,fun c hc=>by simp only [List.mem_singleton] at hc;subst hc;exact ha,⟨fun c hc=>by simp only [List.mem_singleton] at hc;subst hc;exact hf,by simp⟩,rfl⟩
 rintro k ⟨left,_⟩ next ⟨rfl,hk,hB,hO,he⟩ hn
 simp only at hB hO he
 refine zp (fun hc=>?_) (fun hc=>?_)
 rotate_left
 ·have hge:bs.length≤k:=by simpa using hc
  rw [he,List.drop_of_length_le hge] at h
  exact h
 have hlt:k<bs.length:=by simpa using hc
 rw [List.drop_eq_getElem_cons hlt] at he
 have hbk:=hb _ (List.getElem_mem hlt)
 have no:¬ okR (xP left bs[k])→κ ([],false):=fun q=>by
  rw [he] at h;unfold lgo at h;rw [if_neg q] at h;exact h
 refine zr k rfl hlt ?_
 have hlen:=hO.2
 refine z6 left.length (fun s=>s.2) (fun j (s:List za×Int)=>s.2=(j:Int)∧j≤left.length∧s.1=xP (left.take j) bs[k]∧okR (xP (left.take j) bs[k])) (fun k s h=>h.1) (fun k s h=>h.2.1) ?_ ⟨rfl,by omega,by simp [xP],by simp [xP,okR,Vl]⟩
 rintro j ⟨_,_⟩ next2 ⟨rfl,hj,hx,hok⟩ hn2
 simp only at hx
 subst hx
 refine zp (fun hc2=>?_) (fun hc2=>?_)
 ·have hjl:j<left.length:=by simpa using hc2
  have hcB:=hB _ (List.getElem_mem hjl)
  have hcF:=hO.1 _ (List.getElem_mem hjl)
  have hl4:=zar left[j] bs[k]
  have hl2:=hok.2
  have split3:xP left bs[k]=xP (left.take j) bs[k]++(XV left[j] bs[k]++xP (left.drop (j+1)) bs[k]):=by
   have:=List.take_append_drop j left
   rw [List.drop_eq_getElem_cons hjl] at this
   have e2:=congrArg (fun l=>xP l bs[k]) this
   simp only [Z9] at e2
   rw [← e2]
   rw [show left[j] :: left.drop (j+1)=[left[j]]++left.drop (j+1) from rfl,Z9,YA]
  refine zr j rfl hjl (zdk hcB hbk hcF ?_)
  by_cases hFc:∀ c∈XV left[j] bs[k],F4 c
  ·rw [show zdU left[j] bs[k]=(XV left[j] bs[k],true) from if_pos hFc]
   refine jW (jG (zC (by omega) (by omega) (zp (fun e=>no (fun q=>?_)) (fun e=>?_))))
   ·have:=q.2
    rw [split3] at this
    simp only [List.length_append] at this
    simp at e
    omega
   ·have e':(xP (left.take j) bs[k]).length+(XV left[j] bs[k]).length≤400:=by simp at e;omega
    refine jn (by omega) (zC (by omega) (by omega) (hn2 hjl _ ⟨by simp,by omega,?_,?_⟩))
    ·rw [List.take_succ_eq_append_getElem hjl,Z9,YA]
    ·rw [List.take_succ_eq_append_getElem hjl,Z9,YA]
     exact ⟨yo.2 ⟨hok.1,hFc⟩,by rw [List.length_append];exact e'⟩
  ·rw [show zdU left[j] bs[k]=([],false) from if_neg hFc]
   refine jW (jq (jq (no (fun q=>hFc ?_))))
   have:=q.1
   rw [split3] at this
   exact (yo.1 (yo.1 this).2).1
 ·have hjge:left.length≤j:=by simpa using hc2
  rw [List.take_of_length_le hjge] at hok ⊢
  have he2:lgo [a] bs=lgo (xP left bs[k]) (bs.drop (k+1)):=by
   rw [he];conv=>lhs;unfold lgo
   rw [if_pos hok]
  refine zp (fun e=>?_) (fun e=>?_)
  ·have:xP left bs[k]=[]:=by
    have:(xP left bs[k]).length=0:=by
     have:((xP left bs[k]).length:Int)=0:=by simpa using e
     omega
    exact List.length_eq_zero_iff.1 this
   rw [this] at he2 ⊢
   rw [he2,zfC] at h
   exact h
  ·exact zC (by omega) (by omega) (hn hlt _ ⟨by simp,by omega,UF hB hbk,hok,he2⟩)
def IV (l:List zj):Prop:=∀ f∈l,B4 f.xWhere∧F4 f.xWhere
theorem FV.iv {l:List zJ} (h:FV l):IV (l.map fl):=fun f hf=>by
 obtain ⟨g,hg,rfl⟩:=List.mem_map.1 hf
 exact ⟨(h.2 g hg).b4,(h.2 g hg).f4⟩
def whs (l:List zj):List za:=l.map (·.xWhere)
theorem IV.aB {l:List zj} (h:IV l):aB (whs l):=fun c hc=>by
 obtain ⟨f,hf,rfl⟩:=List.mem_map.1 hc
 exact (h f hf).1
theorem IV.take {l:List zj} (h:IV l) (n:Nat):IV (l.take n):=fun f hf=>h f (List.mem_of_mem_take hf)
def zgo (l:List zj) (n:Nat) (h:n<l.length):Option (List za):=YD l[n].xWhere (whs (l.take n))
theorem zgC {l:List zj} (hl:l.length≤100000) (hv:IV l) {n:Nat} (hn:n<l.length) {κ:List za×Bool→Prop} (h:κ (zj9 (zgo l n hn))):X9 l n κ:=by
 unfold X9
 refine zr n rfl hn ⟨by omega,by omega,by omega,?_⟩
 have e:(l.take (n:Int).toNat).drop (0:Int).toNat=l.take n:=by simp
 rw [e]
 have hv2:=hv _ (List.getElem_mem hn)
 refine zf7 (by simp;omega) (zcM hv2.1 hv2.2 (hv.take n).aB (by unfold whs;rw [List.length_map,List.length_take];omega) ?_)
 exact h
def dd (l:List zj) (n:Nat):Bool:=match h:l[n]? with | some f=>decide (YD f.xWhere (whs (l.take n))=some []) | none=>false
theorem zjK {l:List zj} {n:Nat} (hn:n<l.length):dd l n=decide (zgo l n hn=some []):=by
 unfold dd
 split
 ·rename_i f hf
  obtain ⟨_,e⟩:=List.getElem?_eq_some_iff.1 hf
  unfold zgo;rw [e]
 ·rename_i hf
  rw [List.getElem?_eq_none_iff] at hf;omega
def zkM (l:List zj):List Nat:=(List.range l.length).filter (dd l)
theorem ziC {l:List zj} (hl:l.length≤100000) (hv:IV l) {κ:List Int→Prop} (h:κ ((zkM l).map Int.ofNat)):Uh l κ:=by
 unfold Uh
 refine z6 l.length (fun s=>s.2) (fun k (s:List Int×Int)=>s.2=(k:Int)∧k≤l.length∧s.1=((List.range k).filter (dd l)).map Int.ofNat) (fun k s h=>h.1) (fun k s h=>h.2.1) ?_ ⟨rfl,by omega,rfl⟩
 rintro k ⟨_,_⟩ next ⟨rfl,hk,hx⟩ hn
 simp only at hx
 subst hx
 refine zp (fun hc=>?_) (fun hc=>?_)
 ·have hlt:k<l.length:=by simpa using hc
  have hlen:(((List.range k).filter (dd l)).map Int.ofNat).length≤k:=by
   rw [List.length_map]
   exact Nat.le_trans (List.length_filter_le _ _) (by simp)
  refine jW (zgC hl hv hlt ?_)
  have step:∀ ys:List Int,ys=((List.range (k+1)).filter (dd l)).map Int.ofNat→jz (k:Int) 1 (fun t145=>next (ys,t145)):=fun ys hy =>
   zC (by omega) (by omega) (hn hlt _ ⟨by simp,by omega,hy⟩)
  have e1:dd l k=true→((List.range (k+1)).filter (dd l)).map Int.ofNat=((List.range k).filter (dd l)).map Int.ofNat++[(k:Int)]:=fun q=>by
   rw [List.range_succ,List.filter_append,List.map_append,List.filter_cons,q];rfl
  have e0:dd l k=false→((List.range (k+1)).filter (dd l)).map Int.ofNat=((List.range k).filter (dd l)).map Int.ofNat:=fun q=>by
   rw [List.range_succ,List.filter_append,List.map_append,List.filter_cons,q];simp
  have hd:=zjK hlt
  cases hlv:zgo l k hlt with
  | none =>
   rw [hlv] at hd
   have hd':dd l k=false:=by rw [hd];simp
   exact jW (jG (jG (step _ (e0 hd').symm)))
  | some r =>
   rw [hlv] at hd
   refine jW (jq (zp (fun e=>?_) (fun e=>?_)))
   ·have:r=[]:=by
     have:r.length=0:=by
      have:(r.length:Int)=0:=by simpa using e
      omega
     exact List.length_eq_zero_iff.1 this
    subst this
    have hd':dd l k=true:=by rw [hd];simp
    exact jn (by simp only [List.length_singleton];omega) (step _ (e1 hd').symm)
   ·have:r≠[]:=fun q=>by rw [q] at e;simp at e
    have hd':dd l k=false:=by rw [hd];simpa using this
    exact step _ (e0 hd').symm
 ·have hge:l.length≤k:=by simpa using hc
  have:k=l.length:=by omega
  subst this
  exact h
def fw (l:List zj) (p:js):Nat:=l.findIdx (fun f=>decide (hb4 f.xWhere p))
end
section
open Go.Lib (decDigits)
def Dc (c:List zt):Prop:=c.length≤100∧∀ r,r∈c→r.xTests.length≤8
theorem zgP {c:List zt} {r:zt} {n:Nat} (h:Dc c) (hn:c.length≤n) (hn':n<100) (hr:r.xTests.length≤8):Dc (c++[r]):=⟨by simp;omega,fun x hx=>by
 rcases List.mem_append.1 hx with hx | hx
 ·exact h.2 x hx
 ·rw [List.mem_singleton] at hx;subst hx;exact hr⟩
theorem zes {b:List UInt8} {p n first chains:Int} (hb:b.length≤2000) (h0:0≤p) (hp:p≤500000) (hn:n≤4294967296) (hf0:0≤first) (hf1:first≤100) (hc0:0≤chains) (hc1:chains≤100) {κ:List zt×Int→Prop} (h:∀ c p',p≤p'→p'≤p+5000→Dc c→c.length≤9→κ (c,p')):Za b p first chains n κ:=by
 have rd:∀ p',p≤p'→p'≤p+5000→RdP b p':=fun p' a c=>⟨hb,by omega,by omega⟩
 unfold Za
 refine uH (rd p (by omega) (by omega)) (fun v a c=>?_)
 refine ye (fun s=>0≤s.2.2∧s.2.2≤4∧p≤s.1∧s.1≤p+1+700 * (4 - s.2.2)∧s.2.1.length+s.2.2.toNat≤4∧Dc s.2.1) (fun s=>s.2.2.toNat) ?_ ⟨a,by simp only;omega,by simp only;omega,by simp only;omega,by simp only [List.length_nil];omega,by simp [Dc]⟩
 rintro ⟨q,xs,k⟩ next ⟨k0,k1,q0,q1,hx,hdc⟩ hnx
 simp only at k0 k1 q0 q1 hx hdc
 refine zp (fun hc=>?_) (fun hc=>?_)
 ·simp at hc
  refine zeK hb (by omega) (by omega) (by omega) hf0 hf1 hc0 hc1 (fun r p' g1 g2 hr=>jn (by simp;omega) (yC (by omega) (by omega) (hnx _ ⟨by simp only;omega,by simp only;omega,by simp only;omega,by simp only;omega,by simp;omega,zgP (n:=4) hdc (by omega) (by omega) hr⟩ (by simp only;omega))))
 ·simp at hc
  unfold jnW
  refine zeH (rd _ (by omega) (by omega)) hn (fun o p1 f1 f2=>zp (fun _=>?_) (fun _=>h _ _ (by omega) (by omega) hdc (by omega)))
  refine uH (rd _ (by omega) (by omega)) (fun v2 a2 c2=>zp (fun _=>?_) (fun _=>?_))
  ·exact zeK hb (by omega) (by omega) (by omega) hf0 hf1 hc0 hc1 (fun r p' g1 g2 hr=>jn (by simp;omega) (h _ _ (by omega) (by omega) (zgP (n:=4) hdc (by omega) (by omega) hr) (by simp;omega)))
  ·refine ye (fun s=>s.length≤9∧Dc s) (fun s=>9 - s.length) ?_ ⟨by omega,hdc⟩
   rintro ys next2 ⟨hy,hyd⟩ hn2
   refine zp (fun hc3=>?_) (fun hc3=>h _ _ (by omega) (by omega) hyd hy)
   simp at hc3
   exact jn (by simp;omega) (hn2 _ ⟨by simp;omega,zgP (n:=8) hyd (by omega) (by omega) (by simp)⟩ (by simp;omega))
theorem zfd {xs:List (List zt)} {i:Nat} {c:List zt} (h:∀ x,x∈xs→Dc x) (hc:Dc c):∀ x,x∈xs.set i c→Dc x:=fun x hx=>by
 rcases List.mem_or_eq_of_mem_set hx with hx | rfl
 ·exact h x hx
 ·exact hc
theorem zi1 {r:zt} (h:r.xTests.length≤8):Dc [r]:=⟨by simp,fun x hx=>by rw [List.mem_singleton] at hx;subst hx;exact h⟩
theorem zew {b:List UInt8} {n:Int} (hb:b.length≤2000) (hn:n≤4294967296) {κ:zR×Int→Prop} (h:∀ s p',0≤p'→p'≤50000→s.xChains.length≤3→(∀ c,c∈s.xChains→Dc c)→κ (s,p')):Zn b 0 n κ:=by
 have rd:∀ p',0≤p'→p'≤100000→RdP b p':=fun p' a c=>⟨hb,by omega,by omega⟩
 unfold Zn
 refine uH (rd 0 (by omega) (by omega)) (fun v0 a0 c0=>uH (rd _ (by omega) (by omega)) (fun v a c=>zC (by omega) (by omega) ?_))
 refine ye (fun s=>0≤s.2.2∧s.2.2≤1+v∧0≤s.1∧s.1≤2+5000 * s.2.2∧(s.2.1.length:Int)=s.2.2∧∀ c,c∈s.2.1→Dc c∧c.length≤9) (fun s=>(1+v - s.2.2).toNat) ?_ ⟨by simp,by simp only;omega,by simp only;omega,by simp only;omega,rfl,by simp⟩
 rintro ⟨q,xs,k⟩ next ⟨k0,k1,q0,q1,hx,hdc9⟩ hnx
 simp only at k0 k1 q0 q1 hx hdc9
 have hdc:∀ c,c∈xs→Dc c:=fun c hc=>(hdc9 c hc).1
 unfold jnW
 refine zp (fun hc=>?_) (fun hc=>?_)
 ·simp at hc
  have hw:w64 (k+1)=k+1:=zeT (by omega) (by omega)
  rw [hw]
  refine zes hb (by omega) (by omega) (by omega) (by omega) (by omega) (by omega) (by omega) (fun ch p' g1 g2 hd hl=>jn (by simp;omega) (zC (by omega) (by omega) (hnx _ ⟨by simp only;omega,by simp only;omega,by simp only;omega,by simp only;omega,by simp;omega,fun x hx'=>?_⟩ (by simp only;omega))))
  simp only [List.mem_append,List.mem_singleton] at hx'
  rcases hx' with hx' | rfl
  ·exact hdc9 x hx'
  ·exact ⟨hd,hl⟩
 ·simp at hc
  have hk:k=1+v:=by omega
  have hl0:0<xs.length:=by omega
  have hd0:Dc xs[0]:=hdc _ (List.getElem_mem hl0)
  have fin:∀ (p':Int) (ys:List (List zt)),0≤p'→p'≤50000→ys.length≤3→(∀ c,c∈ys→Dc c)→κ ((zR.mk ys (decide (v0=0))),p'):=fun p' ys e0 e1 g1 g2=>h _ _ e0 e1 g1 g2
  have hx3:xs.length≤3:=by omega
  refine zeH (rd _ (by omega) (by omega)) hn (fun o p1 f1 f2=>zp (fun _=>?_) (fun _=>fin _ _ (by omega) (by omega) hx3 hdc))
  refine uH (rd _ (by omega) (by omega)) (fun v2 a2 c2=>zp (fun _=>fin _ _ (by omega) (by omega) (by simp) (by simp)) (fun _=>zp (fun _=>?_) (fun _=>zp (fun _=>?_) (fun _=>?_))))
  ·have ap:∀ (e p':Int),0≤p'→p'≤50000→jw xs[0] ([(zt.mk ([]) 3 e)]) (fun _=>zB xs 0 (fun e155=>κ ((zR.mk (xs.set (0:Int).toNat (xs[0]++([(zt.mk ([]) 3 e)]))) (decide (v0=0))),p'))):=by
    intro e p' e0 e1
    have h9:=(hdc9 _ (List.getElem_mem hl0)).2
    exact jn (by simp;omega) (zr 0 rfl hl0 (fin _ _ e0 e1 (by rw [List.length_set];exact hx3) (zfd hdc ⟨by simp;omega,fun r hr=>by
     rcases List.mem_append.1 hr with hr | hr
     ·exact hd0.2 r hr
     ·rw [List.mem_singleton] at hr;subst hr;simp⟩)))
   have pk:∀ (v3 p':Int),0≤p'→p'≤50000→0≤v3→(v3=0∨v3<2)→zB ([0,1+v]) v3 (fun e148=>jw xs[0] ([(zt.mk ([]) 3 e148)]) (fun _=>zB xs 0 (fun e155=>κ ((zR.mk (xs.set (0:Int).toNat (xs[0]++([(zt.mk ([]) 3 e148)]))) (decide (v0=0))),p')))):=fun v3 p' e0 e1 g0 g1=>Zo g0 (by simp;omega) (fun e _=>ap e p' e0 e1)
   have ix:∀ (K:List zt→Prop),K xs[0]→zB xs 0 K:=fun K hK=>zr 0 rfl hl0 hK
   refine ⟨ix _ (uH (rd _ (by omega) (by omega)) (fun v3 a3 c3=>pk _ _ (by omega) (by omega) a3 c3)),⟨ix _ (uH (rd _ (by omega) (by omega)) (fun v3 a3 c3=>pk _ _ (by omega) (by omega) a3 c3)),uH (rd _ (by omega) (by omega)) (fun v3 a3 c3=>⟨ix _ (pk _ _ (by omega) (by omega) a3 c3),Zo a3 (by simp;omega) (fun e _=>ix _ (ap e _ (by omega) (by omega)))⟩)⟩,uH (rd _ (by omega) (by omega)) (fun v3 a3 c3=>⟨ix _ (pk _ _ (by omega) (by omega) a3 c3),ix _ (pk _ _ (by omega) (by omega) a3 c3),Zo a3 (by simp;omega) (fun e _=>ix _ (ap e _ (by omega) (by omega)))⟩)⟩
  ·have hvn:v.toNat<xs.length:=by omega
   refine yC (by omega) (by omega) (zr v.toNat (by omega) hvn (yC (by omega) (by omega) (zr 0 rfl (by rw [List.length_set];exact hl0) ?_)))
   exact fin _ _ (by omega) (by omega) (by rw [List.length_set,List.length_set];exact hx3) (zfd (zfd hdc (zi1 (by simp))) (zi1 (by simp)))
  ·refine zes hb (by omega) (by omega) (by omega) (by omega) (by omega) (by omega) (by omega) (fun ch p' g1 g2 hd hl=>zr 0 rfl hl0 (fin _ _ (by omega) (by omega) (by rw [List.length_set];exact hx3) (zfd hdc hd)))
theorem zfD {b:List UInt8} {n:Int} (hb:b.length≤2000) (hn:n≤4294967296) {κ:zR×Int→Prop} (h:∀ s p',s.xChains.length≤3→(∀ c,c∈s.xChains→Dc c)→κ (s,p')):Zn b 0 n κ:=zew hb hn (fun s p' _ _ a b=>h s p' a b)
end
section
open Go.Lib (decDigits)
def Le (cs ds:List (List zt)):Prop:=cs.length≤ds.length∧∀ (i:Nat) (c:List zt),cs[i]?=some c→∃ e,ds[i]?=some (c++e)
theorem Le.refl (cs:List (List zt)):Le cs cs:=⟨Nat.le_refl _,fun i c h=>⟨[],by simpa using h⟩⟩
theorem Le.trans {a b c:List (List zt)} (h:Le a b) (h':Le b c):Le a c:=⟨Nat.le_trans h.1 h'.1,fun i x hx=>by
 obtain ⟨e,he⟩:=h.2 i x hx
 obtain ⟨e',he'⟩:=h'.2 i _ he
 exact ⟨e++e',by rw [he',List.append_assoc]⟩⟩
end
section
theorem zdr {α:Type} (a:List α) (hl:a.length≤4294967296) {κ:Bool→Prop} (hκ:κ true) (F:(Int→Prop)→Int→Prop)
  (hF:∀ (nx:Int→Prop) (t:Nat),t≤a.length→(∀ x,a[t]?=some x→x∈a∧nx ((t:Int)+1))→(¬ t<a.length→κ true)→F nx (t:Int)):jy F 0:=by
 refine z6 a.length (fun s=>s) (fun k s=>s=(k:Int)∧k≤a.length) (fun k s h=>h.1) (fun k s h=>h.2) ?_ ⟨rfl,Nat.zero_le _⟩
 rintro k _ next ⟨rfl,hk⟩ hn
 refine hF _ _ hk (fun x hx=>?_) (fun _=>hκ)
 obtain ⟨e1,e2⟩:=List.getElem?_eq_some_iff.1 hx
 exact ⟨e2 ▸ List.getElem_mem e1,hn e1 _ ⟨by omega,by omega⟩⟩
end
section
open Go.Lib (decDigits)
def Br (r:zt):Prop:=r.xTests.length≤1048576
def Bq (c:List zt):Prop:=c.length≤1048576∧∀ r,r∈c→Br r
def Bs (cs:List (List zt)):Prop:=cs.length≤1048576∧∀ c,c∈cs→Bq c
theorem Bs.bd {s:zR} (h:Bs s.xChains):Bd s:=⟨by have:=h.1;omega,fun c hc=>⟨by have:=(h.2 c hc).1;omega,fun r hr=>by have:r.xTests.length≤1048576:=(h.2 c hc).2 r hr;omega⟩⟩
theorem SV.bs {s:zR} (h:SV s):Bs s.xChains:=⟨by have:=h.1.1;omega,fun c hc=>⟨by have:=(h.1.2 c hc).1;omega,fun r hr=>by have:r.xTests.length≤6:=((h.1.2 c hc).2 r hr).1.1.2;unfold Br;omega⟩⟩
end
section
open Go.Lib (decDigits)
theorem ziA {x:Int} (h1:-9223372036854775808≤x) (h2:x≤9223372036854775807):w64 x=x:=by
 simp [w64,IntKind.wrap,IntKind.signed,IntKind.bits];omega
def Bl (ls:List (List UInt8)):Prop:=ls.length≤3000000∧∀ l,l∈ls→l.length≤10000000
theorem Bl.take {ls:List (List UInt8)} (h:Bl ls) (n:Nat):Bl (ls.take n):=⟨by have:=h.1;simp;omega,fun l hl=>h.2 l (List.mem_of_mem_take hl)⟩
def Zs (k:Nat) (cs:List (List zt)):Prop:=cs.length≤k∧∀ c,c∈cs→c.length≤k∧∀ r,r∈c→RV r
theorem Zs.bd {k:Nat} {cs:List (List zt)} {a:Bool} (h:Zs k cs) (hk:k≤4000000):Bd ⟨cs,a⟩:=⟨by have:=h.1;simp only;omega,fun c hc=>⟨by have:=(h.2 c hc).1;omega,fun r hr=>by have:r.xTests.length≤6:=((h.2 c hc).2 r hr).1.2;omega⟩⟩
end
section
def th (t:jk) (p:js):Bool:=decide (t.xLo≤Y9 p t.xField.toNat∧Y9 p t.xField.toNat≤t.xHi) != t.xNot
def ft (l:List jk) (p:js):Bool:=l.all (fun t=>th t p)
def Hh (cs:List (List zt)):Nat→Nat→Prop
 | 0,_=>False
 | n+1,i=>∀ j,Ca cs i j→Hh cs n j
theorem zdb {cs:List (List zt)}:∀ {n i:Nat},Hh cs n i→Hh cs (n+1) i
 | 0,i,h=>h.elim
 | n+1,i,h=>fun j hj=>zdb (h j hj)
theorem zkL {cs:List (List zt)} {n m i:Nat} (h:Hh cs n i) (hm:n≤m):Hh cs m i:=by
 induction hm with
 | refl=>exact h
 | step _ ih=>exact zdb ih
theorem zg8 {cs:List (List zt)} {Q:Nat→Prop}:∀ (k:Nat),(∀ j,j<k→Q j→∃ n,Hh cs n j)→∃ N,∀ j,j<k→Q j→Hh cs N j
 | 0,_=>⟨0,fun j hj=>by omega⟩
 | k+1,h=>by
  obtain ⟨N,hN⟩:=zg8 k (fun j hj hq=>h j (by omega) hq)
  by_cases hq:Q k
  ·obtain ⟨n,hn⟩:=h k (by omega) hq
   refine ⟨max N n,fun j hj hqj=>?_⟩
   by_cases e:j=k
   ·subst e;exact zkL hn (by omega)
   ·exact zkL (hN j (by omega) hqj) (by omega)
  ·refine ⟨N,fun j hj hqj=>?_⟩
   by_cases e:j=k
   ·subst e;exact absurd hqj hq
   ·exact hN j (by omega) hqj
theorem zjr {cs:List (List zt)} {i:Nat} (hs:Sf cs i):∃ n,Hh cs n i:=by
 induction hs with
 | intro x hx ih =>
  obtain ⟨N,hN⟩:=zg8 (cs:=cs) (Q:=fun j=>Ca cs x j) cs.length (fun j _ hq=>ih j hq)
  refine ⟨N+1+1,fun j hj=>?_⟩
  by_cases hl:j<cs.length
  ·exact zdb (hN j hl hj)
  ·exact fun k hk=>by
    obtain ⟨c,h1,_⟩:=hk
    have:=(List.getElem?_eq_some_iff.1 h1).1
    omega
theorem zma {cs:List (List zt)} (hs:∀ i,i<cs.length→Sf cs i):∃ N,∀ i,Hh cs (N+1) i:=by
 obtain ⟨N,hN⟩:=zg8 (cs:=cs) (Q:=fun _=>True) cs.length (fun j hj _=>zjr (hs j hj))
 refine ⟨N,fun i=>?_⟩
 by_cases hl:i<cs.length
 ·exact zdb (hN i hl trivial)
 ·exact fun k hk=>by
   obtain ⟨c,h1,_⟩:=hk
   have:=(List.getElem?_eq_some_iff.1 h1).1
   omega
def jl (p:js) (call:Nat→Int):List zt→Int
 | []=>5
 | r :: l=>if ft r.xTests p=true then
   (if r.xAction=1 then 1 else if r.xAction=2 then 2 else if r.xAction=4 then 5 else if r.xAction=3 then (if call r.xChain.toNat=5 then jl p call l else call r.xChain.toNat) else jl p call l)
   else jl p call l
def chn (cs:List (List zt)) (i:Nat):List zt:=cs[i]?.getD []
def jc (cs:List (List zt)) (p:js):Nat→Nat→Int
 | 0,_=>5
 | n+1,i=>jl p (jc cs p n) (chn cs i)
theorem zf6 {p:js} {f g:Nat→Int}:∀ {l:List zt},(∀ r,r∈l→r.xAction=3→f r.xChain.toNat=g r.xChain.toNat)→jl p f l=jl p g l
 | [],_=>rfl
 | r :: l,h=>by
  have ih:=zf6 (p:=p) (l:=l) (fun x hx=>h x (by simp [hx]))
  simp only [jl]
  rw [ih]
  by_cases h3:r.xAction=3
  ·rw [h r (by simp) h3]
  ·simp only [h3,if_false]
theorem zdq {cs:List (List zt)} {i:Nat} {r:zt} (hr:r∈chn cs i) (h3:r.xAction=3) (h0:0≤r.xChain):Ca cs i r.xChain.toNat:=by
 unfold chn at hr
 cases h:cs[i]? with
 | none=>rw [h] at hr;simp at hr
 | some c=>rw [h] at hr;exact ⟨c,h,r,hr,h3,by omega⟩
def Cn (cs:List (List zt)):Prop:=∀ i r,r∈chn cs i→r.xAction=3→0≤r.xChain
theorem zhQ {cs:List (List zt)} {p:js} (hc:Cn cs):∀ {n i:Nat},Hh cs n i→jc cs p (n+1) i=jc cs p n i
 | 0,i,h=>h.elim
 | n+1,i,h=>zf6 (fun r hr h3=>zhQ hc (h _ (zdq hr h3 (hc i r hr h3))))
open Classical in
noncomputable def jN (cs:List (List zt)):Nat:=if h:∃ N,∀ i,Hh cs (N+1) i then h.choose else 0
theorem zgJ {cs:List (List zt)} (hs:∀ i,i<cs.length→Sf cs i) (i:Nat):Hh cs (jN cs+1) i:=by
 have h:=zma hs
 unfold jN
 rw [dif_pos h]
 exact h.choose_spec i
noncomputable def J (cs:List (List zt)) (p:js) (i:Nat):Int:=jc cs p (jN cs+1) i
theorem zmn {cs:List (List zt)} {p:js} (hc:Cn cs) (hs:∀ i,i<cs.length→Sf cs i) (i:Nat):J cs p i=jl p (J cs p) (chn cs i):=by
 unfold J
 rw [← zhQ hc (zgJ hs i)]
 rfl
theorem SV.cn {s:zR} (h:SV s):Cn s.xChains:=by
 intro i r hr h3
 unfold chn at hr
 cases e:s.xChains[i]? with
 | none=>rw [e] at hr;simp at hr
 | some c =>
  rw [e] at hr
  exact (((h.1.2 c (List.mem_of_getElem? e)).2 r hr).1.2.2.2.1 h3).1
theorem zc2 {cs:List (List zt)} {i:Nat} (h:i<cs.length):chn cs i=cs[i]:=by simp [chn,h]
theorem zhq {p:js} {f:Nat→Int} (hf:∀ i,f i=1∨f i=2∨f i=5):∀ l,jl p f l=1∨jl p f l=2∨jl p f l=5
 | []=>by simp [jl]
 | r :: l=>by
  have ih:=zhq (p:=p) hf l
  have:=hf r.xChain.toNat
  simp only [jl]
  repeat' split
  all_goals omega
theorem zfg {cs:List (List zt)} {p:js}:∀ n i,jc cs p n i=1∨jc cs p n i=2∨jc cs p n i=5
 | 0,i=>by simp [jc]
 | n+1,i=>zhq (zfg n) _
theorem zlB (cs:List (List zt)) (p:js) (i:Nat):J cs p i=1∨J cs p i=2∨J cs p i=5:=zfg _ _
noncomputable def jdg (s:zR) (p:js):Bool:=if J s.xChains p 0=1 then true else if J s.xChains p 0=2 then false else s.xAccept
end
section
theorem zcq:∀ (n:Nat) (l:List Nat),l.Nodup→(∀ x,x∈l→x<n)→l.length≤n
 | 0,[],_,_=>by simp
 | 0,x :: l,_,h=>by have:=h x (by simp);omega
 | n+1,l,hd,h=>by
  by_cases hm:n∈l
  ·obtain ⟨s,t,rfl⟩:=List.append_of_mem hm
   have hnd:(s++t).Nodup∧n ∉ s++t:=by
    rw [List.nodup_append] at hd ⊢
    simp only [List.nodup_cons,List.mem_cons] at hd
    obtain ⟨h1,⟨h2,h3⟩,h4⟩:=hd
    refine ⟨⟨h1,h3,fun a ha b hb=>h4 a ha b (.inr hb)⟩,fun hmem=>?_⟩
    rcases List.mem_append.1 hmem with hs | ht
    ·exact h4 n hs n (.inl rfl) rfl
    ·exact h2 ht
   have:=zcq n (s++t) hnd.1 (fun x hx=>by
    have h1:=h x (by
     rcases List.mem_append.1 hx with hx | hx
     ·exact List.mem_append.2 (.inl hx)
     ·exact List.mem_append.2 (.inr (List.mem_cons_of_mem _ hx)))
    have h2:x≠n:=fun e=>hnd.2 (e ▸ hx)
    omega)
   simp at this ⊢;omega
  ·have:=zcq n l hd (fun x hx=>by
    have h1:=h x hx
    have h2:x≠n:=fun e=>hm (e ▸ hx)
    omega)
   omega
def okP (cs:List (List zt)) (q:VH):Prop:=0≤q.xChain∧q.xChain.toNat<cs.length∧0≤q.xNext∧q.xNext.toNat≤(chn cs q.xChain.toNat).length
def Stk (cs:List (List zt)) (xs:List VH):Prop:=(∀ q,q∈xs→okP cs q)∧xs.Pairwise (fun a b=>Wy cs a.xChain.toNat b.xChain.toNat)
theorem Stk.len {cs:List (List zt)} {xs:List VH} (hs:∀ i,i<cs.length→Sf cs i) (h:Stk cs xs):xs.length≤cs.length:=by
 have hn:(xs.map (fun q=>q.xChain.toNat)).Nodup:=by
  rw [List.Nodup,List.pairwise_map]
  refine List.Pairwise.imp_of_mem (fun {a b} ha hb hw e=>?_) h.2
  rw [← e] at hw
  exact zhl (hs _ (h.1 a ha).2.1) hw
 have:=zcq cs.length _ hn (fun x hx=>by
  obtain ⟨q,hq,rfl⟩:=List.mem_map.1 hx
  exact (h.1 q hq).2.1)
 simpa using this
theorem Stk.drop {cs:List (List zt)} {ys:List VH} {q:VH} (h:Stk cs (ys++[q])):Stk cs ys:=⟨fun x hx=>h.1 x (List.mem_append.2 (.inl hx)),(List.pairwise_append.1 h.2).1⟩
theorem Stk.move {cs:List (List zt)} {ys:List VH} {q q':VH} (h:Stk cs (ys++[q])) (hq:okP cs q') (hc:q'.xChain=q.xChain):Stk cs (ys++[q']):=by
 refine ⟨fun x hx=>?_,?_⟩
 ·rcases List.mem_append.1 hx with hx | hx
  ·exact h.1 x (List.mem_append.2 (.inl hx))
  ·rw [List.mem_singleton] at hx;subst hx;exact hq
 ·obtain ⟨h1,_,h3⟩:=List.pairwise_append.1 h.2
  refine List.pairwise_append.2 ⟨h1,by simp,fun a ha b hb=>?_⟩
  rw [List.mem_singleton] at hb
  subst hb
  rw [hc]
  exact h3 a ha q (by simp)
theorem Stk.push {cs:List (List zt)} {ys:List VH} {q q':VH} (h:Stk cs (ys++[q])) (hq:okP cs q') (hc:Ca cs q.xChain.toNat q'.xChain.toNat):Stk cs (ys++[q]++[q']):=by
 refine ⟨fun x hx=>?_,?_⟩
 ·rcases List.mem_append.1 hx with hx | hx
  ·exact h.1 x hx
  ·rw [List.mem_singleton] at hx;subst hx;exact hq
 ·refine List.pairwise_append.2 ⟨h.2,by simp,fun a ha b hb=>?_⟩
  rw [List.mem_singleton] at hb
  subst hb
  rcases List.mem_append.1 ha with ha | ha
  ·exact .more ((List.pairwise_append.1 h.2).2.2 a ha q (by simp)) hc
  ·rw [List.mem_singleton] at ha;subst ha;exact .one hc
end
section
theorem zlZ {s:zR} (hl:s.xChains.length≤3) (hd:∀ c,c∈s.xChains→Dc c):Bd s:=⟨by omega,fun c hc=>⟨by have:=(hd c hc).1;omega,fun r hr=>by have:=(hd c hc).2 r hr;omega⟩⟩
end
section
open Go Go.Proofs
theorem zaO:∀ (l:List ze) (s:ze) (out:List ze) (pl:Bool),(zaA l s out pl).1.length+(if (zaA l s out pl).2.2 then 0 else 1)≤out.length+l.length+(if pl then 0 else 1)
 | [],s,out,pl=>by cases pl <;> simp [zaA]
 | x :: xs,s,out,pl=>by
  unfold zaA
  by_cases c1:x.xHi+1<s.xLo
  ·rw [if_pos c1]
   have:=zaO xs s (out++[x]) pl
   simp only [List.length_append,List.length_cons,List.length_nil] at this ⊢
   omega
  ·rw [if_neg c1]
   by_cases c2:s.xHi+1<x.xLo
   ·rw [if_pos c2]
    have:=zaO xs s ((if pl then out else out++[s])++[x]) true
    cases pl <;> simp only [List.length_append,List.length_cons,List.length_nil,Bool.false_eq_true,if_true,if_false] at this ⊢ <;> omega
   ·rw [if_neg c2]
    have:=zaO xs (ze.mk (min s.xLo x.xLo) (max s.xHi x.xHi)) out pl
    simp only [List.length_cons]
    omega
theorem zik (l:List ze) (s:ze):(zbA l s).length≤l.length+1:=by
 have:=zaO l s [] false
 unfold zbA
 generalize zaA l s [] false=r at *
 obtain ⟨o,s',pl⟩:=r
 cases pl <;> simp at this ⊢ <;> omega
theorem zcK:∀ (xs a:List ze),(xs.foldl zbA a).length≤a.length+xs.length
 | [],a=>by simp
 | s :: xs,a=>by
  have h1:=zcK xs (zbA a s)
  have h2:=zik a s
  simp only [List.foldl_cons,List.length_cons]
  omega
theorem zgg {a:za}:F4 a↔le4 a 40:=⟨fun ⟨f0,f1,f2,f3⟩ f h0 h1=>by
 rcases zd6 h0 h1 with rfl | rfl | rfl | rfl
 ·exact f0
 ·exact f1
 ·exact f2
 ·exact f3,zfQ⟩
end
section
open Go Go.Proofs
def Xb (bs:List za) (w:za):List za:=bs.flatMap (fun b=>if em4 (xJ b w) then [] else [xJ b w])
theorem zax (l m:List za) (w:za):Xb (l++m) w=Xb l w++Xb m w:=by simp [Xb]
theorem zbP (b w:za):Xb [b] w=if em4 (xJ b w) then [] else [xJ b w]:=by simp [Xb]
theorem zbS (bs:List za) (w:za):(Xb bs w).length≤bs.length:=by
 induction bs with
 | nil=>simp [Xb]
 | cons b bs ih =>
  rw [show b :: bs=[b]++bs from rfl,zax,zbP,List.length_append,List.length_append]
  have:(if em4 (xJ b w)=true then [] else [xJ b w]:List za).length≤1:=by split <;> simp
  simp only [List.length_singleton];omega
theorem zfx {bs:List za} {w:za} (hb:aB bs) (hw:B4 w):aB (Xb bs w):=fun c hc=>by
 obtain ⟨b,hb',hc⟩:=List.mem_flatMap.1 hc
 split at hc
 ·simp at hc
 ·rw [List.mem_singleton] at hc;subst hc;exact zdz (hb b hb') hw
theorem VC (bs:List za) (w:za):(xP bs w).length≤4 * bs.length:=by
 induction bs with
 | nil=>simp [xP]
 | cons b bs ih =>
  rw [show b :: bs=[b]++bs from rfl,Z9,YA,List.length_append,List.length_append]
  have:=zar b w
  simp only [List.length_singleton];omega
theorem zjV {bs:List za} {w:za} (p:js):hbs (Xb bs w) p↔hbs bs p∧hb4 w p:=by
 constructor
 ·rintro ⟨c,hc,k⟩
  obtain ⟨b,hb',hc⟩:=List.mem_flatMap.1 hc
  split at hc
  ·simp at hc
  ·rw [List.mem_singleton] at hc;subst hc
   have:=(UP b w p).1 k
   exact ⟨⟨b,hb',this.1⟩,this.2⟩
 ·rintro ⟨⟨b,hb',k⟩,hw⟩
  refine ⟨xJ b w,List.mem_flatMap.2 ⟨b,hb',?_⟩,(UP b w p).2 ⟨k,hw⟩⟩
  split
  ·rename_i e;exact absurd ((UP b w p).2 ⟨k,hw⟩) (zdT e p)
  ·simp
def dec (l:List za) (acc:Bool):List zj:=l.map (fun b=>⟨b,acc⟩)
abbrev UR:=Option (List za×List zj)
def url (call:Nat→List za→List zj→UR):List zt→List za→List za→List zj→UR
 | [],going,left,out=>if okR (left++going) then some (left++going,out) else none
 | r :: rs,going,left,out =>
  if okR (Xb going (Zj r.xTests))∧okR (xP going (Zj r.xTests)) then
   if r.xAction=1∨r.xAction=2 then
    if (out++dec (Xb going (Zj r.xTests)) (decide (r.xAction=1))).length≤60 then url call rs (xP going (Zj r.xTests)) left (out++dec (Xb going (Zj r.xTests)) (decide (r.xAction=1))) else none
   else if r.xAction=4 then url call rs (xP going (Zj r.xTests)) (left++Xb going (Zj r.xTests)) out
   else if r.xAction=3 then
    match call r.xChain.toNat (Xb going (Zj r.xTests)) out with
    | none=>none
    | some (b,o)=>if okR (xP going (Zj r.xTests)++b) then url call rs (xP going (Zj r.xTests)++b) left o else none
   else if okR (xP going (Zj r.xTests)++Xb going (Zj r.xTests)) then url call rs (xP going (Zj r.xTests)++Xb going (Zj r.xTests)) left out else none
  else none
def uc (cs:List (List zt)):Nat→Nat→List za→List zj→UR
 | 0,_,_,_=>none
 | n+1,i,boxes,out=>url (uc cs n) (chn cs i) boxes [] out
theorem zeS {f g:Nat→List za→List zj→UR}:∀ {l:List zt},(∀ r,r∈l→r.xAction=3→∀ b o,f r.xChain.toNat b o=g r.xChain.toNat b o)→∀ going left out,url f l going left out=url g l going left out
 | [],_,_,_,_=>rfl
 | r :: l,h,going,left,out=>by
  have ih:=zeS (f:=f) (g:=g) (l:=l) (fun x hx=>h x (by simp [hx]))
  unfold url
  by_cases h3:r.xAction=3
  ·rw [h r (by simp) h3];simp only [ih]
  ·simp only [h3,if_false,ih]
theorem zhE {cs:List (List zt)} (hc:Cn cs):∀ {n i:Nat},Hh cs n i→∀ b o,uc cs (n+1) i b o=uc cs n i b o
 | 0,i,h,_,_=>h.elim
 | n+1,i,h,b,o=>zeS (fun r hr h3 b o=>zhE hc (h _ (zdq hr h3 (hc i r hr h3))) b o) _ _ _
noncomputable def U (cs:List (List zt)) (i:Nat) (boxes:List za) (out:List zj):UR:=uc cs (jN cs+1) i boxes out
theorem zkP {cs:List (List zt)} (hc:Cn cs) (hs:∀ i,i<cs.length→Sf cs i) (i:Nat) (b:List za) (o:List zj):U cs i b o=url (U cs) (chn cs i) b [] o:=by
 unfold U
 rw [← zhE hc (zgJ hs i)]
 rfl
theorem zfR {call:Nat→List za→List zj→UR}:∀ {l:List zt} {going left:List za} {out:List zj},400<left.length→url call l going left out=none
 | [],going,left,out,h=>by
  unfold url
  rw [if_neg (fun q=>by have:=q.2;rw [List.length_append] at this;omega)]
 | r :: l,going,left,out,h=>by
  have ih:∀ {g o},url call l g left o=none:=zfR h
  have ih2:∀ {g m o},url call l g (left++m) o=none:=zfR (by rw [List.length_append];omega)
  unfold url
  simp only [ih,ih2]
  repeat' split
  all_goals rfl
theorem VL:okR []:=⟨zbx,by simp⟩
theorem ziS (w:za):Xb [] w=[]:=rfl
theorem zh5 (w:za):xP [] w=[]:=rfl
theorem zjh {cs:List (List zt)} (hc:Cn cs):∀ {n i:Nat},Hh cs n i→∀ {o:List zj},o.length≤60→uc cs n i [] o=some ([],o)
 | 0,i,h,_,_=>h.elim
 | n+1,i,h,o,ho=>by
  have key:∀ (l:List zt) (out:List zj),(∀ r,r∈l→r∈chn cs i)→out.length≤60→url (uc cs n) l [] [] out=some ([],out):=by
   intro l
   induction l with
   | nil=>intro out _ _;unfold url;rw [List.append_nil,if_pos VL]
   | cons r l ih =>
    intro out hl ho
    have ih':=ih out (fun x hx=>hl x (by simp [hx])) ho
    unfold url
    rw [ziS,zh5,if_pos ⟨VL,VL⟩]
    have ed:∀ a,out++dec [] a=out:=fun a=>by simp [dec]
    split
    ·rw [ed,if_pos ho];exact ih'
    ·split
     ·exact ih'
     ·split
      ·rename_i h3
       have hr:=hl r (by simp)
       rw [zjh hc (h _ (zdq hr h3 (hc i r hr h3))) ho]
       simp only [List.append_nil,VL,if_true]
       exact ih'
      ·rw [List.append_nil,if_pos VL];exact ih'
  exact key _ _ (fun r hr=>hr) ho
theorem zmi {cs:List (List zt)} (hc:Cn cs) (hs:∀ i,i<cs.length→Sf cs i) (i:Nat) {o:List zj} (ho:o.length≤60):U cs i [] o=some ([],o):=zjh hc (zgJ hs i) ho
def Uok (r:UR):Prop:=∀ l o,r=some (l,o)→aB l∧okR l∧IV o∧o.length≤60
theorem zfq {l m:List zj} (h1:IV l) (h2:IV m):IV (l++m):=fun f hf=>(List.mem_append.1 hf).elim (h1 f) (h2 f)
theorem zfA {l:List za} {a:Bool} (h1:aB l) (h2:Vl l):IV (dec l a):=fun f hf=>by
 obtain ⟨b,hb,rfl⟩:=List.mem_map.1 hf
 exact ⟨h1 b hb,h2 b hb⟩
theorem zfc:IV []:=fun f h=>by simp at h
theorem zd8 (l:List za) (a:Bool):(dec l a).length=l.length:=by simp [dec]
theorem zeq {call:Nat→List za→List zj→UR} (hcall:∀ i b o,aB b→okR b→IV o→o.length≤60→Uok (call i b o)):∀ {l:List zt} {going left:List za} {out:List zj},(∀ r∈l,∀ t∈r.xTests,TV t)→aB going→aB left→IV out→out.length≤60→Uok (url call l going left out)
 | [],going,left,out,_,hg,hl,ho,h60=>by
  intro l o h
  unfold url at h
  split at h
  ·rename_i q
   injection h with h;injection h with h1 h2;subst h1 h2
   exact ⟨Yv.2 ⟨hl,hg⟩,q,ho,h60⟩
  ·cases h
 | r :: rs,going,left,out,ht,hg,hl,ho,h60=>by
  have hw:=zaM (ht r (by simp))
  have htr:∀ r∈rs,∀ t∈r.xTests,TV t:=fun x hx=>ht x (by simp [hx])
  have hfB:=zfx hg hw
  have hmB:=UF hg hw
  intro l o h
  unfold url at h
  split at h
  ·rename_i q
   split at h
   ·split at h
    ·rename_i q2
     exact zeq hcall htr hmB hl (zfq ho (zfA hfB q.1.1)) q2 l o h
    ·cases h
   ·split at h
    ·exact zeq hcall htr hmB (Yv.2 ⟨hl,hfB⟩) ho h60 l o h
    ·split at h
     ·split at h
      ·cases h
      ·rename_i b o' hb
       obtain ⟨c1,c2,c3,c4⟩:=hcall _ _ _ hfB q.1 ho h60 _ _ hb
       split at h
       ·exact zeq hcall htr (Yv.2 ⟨hmB,c1⟩) hl c3 c4 l o h
       ·cases h
     ·split at h
      ·exact zeq hcall htr (Yv.2 ⟨hmB,hfB⟩) hl ho h60 l o h
      ·cases h
  ·cases h
def TVs (cs:List (List zt)):Prop:=∀ c∈cs,∀ r∈c,∀ t∈r.xTests,TV t
theorem TVs.chn {cs:List (List zt)} (h:TVs cs) (i:Nat):∀ r∈chn cs i,∀ t∈r.xTests,TV t:=by
 unfold Go.Proofs.YtgpdnnhmndlljaaGreatDoor.chn
 cases e:cs[i]? with
 | none=>simp
 | some c=>exact h c (List.mem_of_getElem? e)
theorem SV.tvs {s:zR} (h:SV s):TVs s.xChains:=fun c hc r hr=>((h.1.2 c hc).2 r hr).1.1.1
theorem zkF {cs:List (List zt)} (ht:TVs cs):∀ n i b o,aB b→okR b→IV o→o.length≤60→Uok (uc cs n i b o)
 | 0,i,b,o,_,_,_,_=>fun l o h=>by cases h
 | n+1,i,b,o,hb,hk,ho,h60=>zeq (zkF ht n) (ht.chn i) hb (fun c hc=>by simp at hc) ho h60
theorem zln {cs:List (List zt)} (ht:TVs cs) (i:Nat) {b:List za} {o:List zj} (hb:aB b) (hk:okR b) (ho:IV o) (h60:o.length≤60):Uok (U cs i b o):=zkF ht _ i b o hb hk ho h60
end
section
open Go Go.Proofs
theorem Uf {cs:List (List zt)} {fl:List zj} {over:Bool} {bs:List za} {κ:List za×Bool→Prop} (h1:400<bs.length→κ (bs,true)) (h2:bs.length≤400→κ (bs,over)):xi cs fl over bs κ:=by
 unfold xi
 exact jW (zp (fun e=>h1 (by simp at e;omega)) (fun e=>h2 (by simp at e;omega)))
theorem zlg {n:Int} (h0:0≤n) (h1:n≤4294967296) {κ:List za→Prop} (h:κ []):uM [] n κ:=⟨rfl,h0,h1,h⟩
theorem zbD {x y:List za} (hx:x.length≤1000000) (hy:y.length≤1000000) {κ:List za→Prop} (h:κ (x++y)):xd [x,y] κ:=by
 unfold xd
 refine ⟨3,?_⟩
 refine jq (zr 0 rfl (by simp) (zC (by first | (simp;done) | (simp;omega)) (by first | (simp;done) | (simp;omega)) (zp (fun e=>by have:=of_decide_eq_true e;omega) (fun _=>zC (by omega) (by omega) ?_))))
 refine jq (zr 1 rfl (by simp) (zC (by first | (simp;done) | (simp;omega)) (by first | (simp;done) | (simp;omega)) (zp (fun e=>by have:=of_decide_eq_true e;omega) (fun _=>zC (by omega) (by omega) ?_))))
 refine jG (zlg (by simp;omega) (by simp;omega) ⟨3,?_⟩)
 refine jq (zr 0 rfl (by simp) (jn (by simp;omega) (zC (by omega) (by omega) ?_)))
 refine jq (zr 1 rfl (by simp) (jn (by simp;omega) (zC (by omega) (by omega) ?_)))
 exact jG h
theorem ziG {cs:List (List zt)} {fl:List zj} {bs:List za} {w:za} (hB:aB bs) (hF:Vl bs) (hl:bs.length≤400) (hw:B4 w) {κ:List za×List za×Bool→Prop}
  (h1:okR (Xb bs w)→okR (xP bs w)→κ (Xb bs w,xP bs w,false)) (h2:¬ (okR (Xb bs w)∧okR (xP bs w))→∀ x y,κ (x,y,true)):yB cs fl false bs w κ:=by
 unfold yB
 refine z6 bs.length (fun s=>s.2.2) (fun k (s:List za×List za×Int)=>s.2.2=(k:Int)∧k≤bs.length∧s.1=Xb (bs.take k) w∧s.2.1=xP (bs.take k) w∧Vl (Xb (bs.take k) w)∧Vl (xP (bs.take k) w)) (fun k s h=>h.1) (fun k s h=>h.2.1) ?_ ⟨rfl,by omega,by simp [Xb],by simp [xP],by simp [Xb,Vl],by simp [xP,Vl]⟩
 rintro k ⟨_,_,_⟩ next ⟨rfl,hk,hx,hy,hfx,hfy⟩ hn
 simp only at hx hy
 subst hx hy
 refine zp (fun hc=>?_) (fun hc=>?_)
 ·have hlt:k<bs.length:=by simpa using hc
  have hbB:=hB _ (List.getElem_mem hlt)
  have hbF:=hF _ (List.getElem_mem hlt)
  have hs:bs=bs.take k++(bs[k] :: bs.drop (k+1)):=by rw [← List.drop_eq_getElem_cons hlt,List.take_append_drop]
  have hfl:=zbS (bs.take k) w
  have hml:=VC (bs.take k) w
  rw [List.length_take] at hfl hml
  refine zr k rfl hlt (jW ?_)
  have ef:Xb (bs.take (k+1)) w=Xb (bs.take k) w++(if em4 (xJ bs[k] w) then [] else [xJ bs[k] w]):=by
   rw [List.take_succ_eq_append_getElem hlt,zax,zbP]
  have em:xP (bs.take (k+1)) w=xP (bs.take k) w++XV bs[k] w:=by
   rw [List.take_succ_eq_append_getElem hlt,Z9,YA]
  have second:∀ xs,xs=Xb (bs.take (k+1)) w→Vl xs→yd bs[k] w (fun (r286,r289)=>ifW (!r289) (κ ([],[],true)) (jw (xP (bs.take k) w) r286 (fun _=>jz (k:Int) 1 (fun t294=>next (xs,((xP (bs.take k) w)++r286),t294))))):=by
   rintro _ rfl hxf
   refine zdk hbB hw hbF ?_
   by_cases hFc:∀ c∈XV bs[k] w,F4 c
   ·rw [show zdU bs[k] w=(XV bs[k] w,true) from if_pos hFc]
    have:=zar bs[k] w
    refine jG (jn (by omega) (zC (by omega) (by omega) (hn hlt _ ⟨by simp,by omega,rfl,em.symm,hxf,?_⟩)))
    rw [em];exact yo.2 ⟨hfy,hFc⟩
   ·rw [show zdU bs[k] w=([],false) from if_neg hFc]
    refine jq (h2 (fun q=>hFc ?_) _ _)
    have:=q.2.1
    rw [hs,Z9,show bs[k] :: bs.drop (k+1)=[bs[k]]++bs.drop (k+1) from rfl,Z9,YA] at this
    exact (yo.1 (yo.1 this).2).1
  refine zcu hbB hw (zp (fun e=>?_) (fun e=>?_))
  ·have e':em4 (xJ bs[k] w)=false:=by simpa using e
   refine zhI hbB hw ?_
   by_cases hm:F4 (xJ bs[k] w)
   ·rw [show zgU (xJ bs[k] w)=(xJ bs[k] w,true) from if_pos hm]
    refine jG (jn (by simp;omega) (second _ ?_ ?_))
    ·rw [ef,e'];simp
    ·refine yo.2 ⟨hfx,fun c hc=>?_⟩
     rw [List.mem_singleton] at hc;subst hc;exact hm
   ·rw [show zgU (xJ bs[k] w)=(zca,false) from if_neg hm]
    refine jq (h2 (fun q=>hm ?_) _ _)
    have:=q.1.1
    rw [hs,zax,show bs[k] :: bs.drop (k+1)=[bs[k]]++bs.drop (k+1) from rfl,zax,zbP,e'] at this
    exact (yo.1 (yo.1 this).2).1 _ (by simp)
  ·have e':em4 (xJ bs[k] w)=true:=by simpa using e
   refine second _ ?_ hfx
   rw [ef,e'];simp
 ·have hge:bs.length≤k:=by simpa using hc
  rw [List.take_of_length_le hge] at hfx hfy ⊢
  refine Uf (fun q1=>?_) (fun q1=>?_)
  ·have no:¬ (okR (Xb bs w)∧okR (xP bs w)):=fun q=>by have:=q.1.2;omega
   exact Uf (fun _=>h2 no _ _) (fun _=>h2 no _ _)
  ·refine Uf (fun q2=>?_) (fun q2=>h1 ⟨hfx,q1⟩ ⟨hfy,q2⟩)
   exact h2 (fun q=>by have:=q.2.2;omega) _ _
def Cw (o:UR) (κ:List za×List zj×Bool→Prop):Prop:=match o with | some (l,out)=>κ (l,out,false) | none=>∀ l out,l.length≤10000→κ (l,out,true)
theorem zkv {l:List za} {o:List zj} {κ:List za×List zj×Bool→Prop} (h:κ (l,o,false)):Cw (some (l,o)) κ:=h
theorem zg9 {d:yb} {cs:List (List zt)} {fl:List zj} {x fit miss:List za} (hf:fl.length≤60) (hl:fit.length≤400) {κ:List za×List zj×Bool→Prop} (h1:60<(fl++dec fit d.xAccept).length→κ (miss,fl++dec fit d.xAccept,true)) (h2:(fl++dec fit d.xAccept).length≤60→κ (miss,fl++dec fit d.xAccept,false)):uY d cs fl false x fit miss κ:=by
 unfold uY
 refine z6 fit.length (fun s=>s.2) (fun k (s:List zj×Int)=>s.2=(k:Int)∧k≤fit.length∧s.1=fl++dec (fit.take k) d.xAccept) (fun k s h=>h.1) (fun k s h=>h.2.1) ?_ ⟨rfl,by omega,by simp [dec]⟩
 rintro k ⟨_,_⟩ next ⟨rfl,hk,hx⟩ hn
 simp only at hx
 subst hx
 have hln:(fl++dec (fit.take k) d.xAccept).length≤460:=by rw [List.length_append,zd8,List.length_take];omega
 refine zp (fun hc=>?_) (fun hc=>?_)
 ·have hlt:k<fit.length:=by simpa using hc
  refine zr k rfl hlt (jW (jn (by simp only [List.length_singleton];omega) (zC (by omega) (by omega) (hn hlt _ ⟨by simp,by omega,?_⟩))))
  unfold dec
  rw [List.take_succ_eq_append_getElem hlt,List.map_append,← List.append_assoc];rfl
 ·have hge:fit.length≤k:=by simpa using hc
  rw [List.take_of_length_le hge]
  exact jW (zp (fun e=>h1 (by simp at e;simp;omega)) (fun e=>h2 (by simp at e;simp;omega)))
theorem VZ {x:yb} {p0:yb→Prop} {p1:XA→Prop} {p2:yc→Prop} {p3:ZJ→Prop} (h:p0 x):uT.casesW (.kDeciding x) p0 p1 p2 p3:=h
theorem zdZ {x:XA} {p0:yb→Prop} {p1:XA→Prop} {p2:yc→Prop} {p3:ZJ→Prop} (h:p1 x):uT.casesW (.kCalling x) p0 p1 p2 p3:=h
theorem zcE {x:yc} {p0:yb→Prop} {p1:XA→Prop} {p2:yc→Prop} {p3:ZJ→Prop} (h:p2 x):uT.casesW (.kReturning x) p0 p1 p2 p3:=h
theorem zek {x:ZJ} {p0:yb→Prop} {p1:XA→Prop} {p2:yc→Prop} {p3:ZJ→Prop} (h:p3 x):uT.casesW (.kPassing x) p0 p1 p2 p3:=h
theorem zjJ {cs:List (List zt)} (hcn:Cn cs) (hs:∀ i,i<cs.length→Sf cs i) (hc5:∀ c∈cs,c.length≤8∧∀ r∈c,TsV r.xTests∧(r.xAction=3→0≤r.xChain∧r.xChain<cs.length)):∀ (n i:Nat) (boxes:List za) (out:List zj) (κ:List za×List zj×Bool→Prop),Hh cs n i→i<cs.length→aB boxes→okR boxes→IV out→out.length≤60→Cw (U cs i boxes out) κ→un n cs out false i boxes κ:=by
 have htv:TVs cs:=fun c hc r hr=>((hc5 c hc).2 r hr).1.1
 intro n
 induction n with
 | zero=>intro i boxes out κ h;exact h.elim
 | succ n ih =>
  intro i boxes out κ hh hi hB hO hIV h60 h
  show yS (un n) cs out false i boxes κ
  unfold yS
  refine zp (fun e=>?_) (fun e=>?_)
  ·have:boxes=[]:=by
    have:(boxes.length:Int)=0:=of_decide_eq_true e
    exact List.length_eq_zero_iff.1 (by omega)
   subst this
   rw [zmi hcn hs i h60] at h
   exact h
  clear e
  obtain ⟨h8,hrv⟩:=hc5 _ (List.getElem_mem hi)
  rw [zkP hcn hs i,zc2 hi] at h
  have hci:=zc2 hi
  refine zr i rfl hi ?_
  generalize hcc:cs[i]=c at *
  generalize hT:url (U cs) c boxes [] out=T at *
  refine z6 c.length (fun s=>s.2.2.2.2) (fun k (s:List za×List zj×Bool×List za×Int)=>s.2.2.2.2=(k:Int)∧k≤c.length∧s.2.2.1=false∧(aB s.1∧Vl s.1∧s.1.length≤400 * k)∧(IV s.2.1∧s.2.1.length≤60)∧(aB s.2.2.2.1∧okR s.2.2.2.1)∧T=url (U cs) (c.drop k) s.2.2.2.1 s.1 s.2.1) (fun k s h=>h.1) (fun k s h=>h.2.1) ?_ ⟨rfl,by omega,rfl,⟨zdh,zbx,by simp⟩,⟨hIV,h60⟩,⟨hB,hO⟩,hT.symm⟩
  rintro k ⟨left,fls,_,going,_⟩ next ⟨rfl,hk,rfl,⟨hlB,hlF,hll⟩,⟨hfI,hf60⟩,⟨hgB,hgO⟩,he⟩ hn
  simp only at hlB hlF hll hfI hf60 hgB hgO he
  have hl4:left.length≤3200:=by omega
  have hg4:=hgO.2
  refine zp (fun hc=>?_) (fun hc=>?_)
  ·have hlt:k<c.length:=by simpa using hc
   obtain ⟨hts,hcall⟩:=hrv _ (List.getElem_mem hlt)
   rw [List.drop_eq_getElem_cons hlt] at he
   unfold url at he
   refine jW (zr k rfl hlt (zfs hts ?_))
   have hw:=zaM hts.1
   have hm:c[k]∈c:=List.getElem_mem hlt
   have hmc:c[k]∈chn cs i:=by rw [hci];exact hm
   generalize c[k]=r at *
   have hfB:=zfx hgB hw
   have hmB:=UF hgB hw
   have hfl:=zbS going (Zj r.xTests)
   have hml:=VC going (Zj r.xTests)
   refine ziG hgB hgO.1 hg4 hw (fun o1 o2=>jG ?_) (fun q x y=>jq ?_)
   rotate_left
   ·rw [if_neg q] at he
    rw [he] at h
    exact h _ _ (by simp)
   rw [if_pos ⟨o1,o2⟩] at he
   generalize Xb going (Zj r.xTests)=fit at *
   generalize xP going (Zj r.xTests)=miss at *
   have stop:∀ o,T=none→κ ([],o,true):=fun o q=>by rw [q] at h;exact h _ _ (by simp)
   have go:∀ left' fls' going',(aB left'∧Vl left'∧left'.length≤400 * (k+1))→(IV fls'∧fls'.length≤60)→(aB going'∧okR going')→T=url (U cs) (c.drop (k+1)) going' left' fls'→jz (k:Int) 1 (fun t183=>next (left',fls',false,going',t183)):=fun left' fls' going' a1 a2 a3 a4=>zC (by omega) (by omega) (hn hlt _ ⟨by simp,by omega,rfl,a1,a2,a3,a4⟩)
   have decide12:∀ a:Bool,(r.xAction=1∨r.xAction=2)→a=decide (r.xAction=1)→uY (yb.mk a) cs fls false left fit miss (fun (r68,r71,r74)=>xi cs r71 r74 r68 (fun (r75,r78)=>ifW r78 (κ ([],r71,r78)) (jz (k:Int) 1 (fun t183=>next (left,r71,r78,r75,t183))))):=by
    intro a ha hq
    subst hq
    rw [if_pos ha] at he
    refine zg9 hf60 o1.2 (fun q=>?_) (fun q=>?_)
    ·have q':60<(fls++dec fit (decide (r.xAction=1))).length:=q
     rw [if_neg (by omega)] at he
     exact Uf (fun _=>jq (stop _ he)) (fun _=>jq (stop _ he))
    ·rw [if_pos q] at he
     refine Uf (fun q2=>absurd q2 (by have:=o2.2;omega)) (fun _=>jG ?_)
     exact go _ _ _ ⟨hlB,hlF,by omega⟩ ⟨zfq hfI (zfA hfB o1.1),q⟩ ⟨hmB,o2⟩ he
   unfold Ut
   refine zp (fun e=>VZ (decide12 true (.inl (of_decide_eq_true e)) (by rw [e]))) (fun e=>?_)
   have n1:¬ r.xAction=1:=of_decide_eq_false e
   refine zp (fun e2=>VZ (decide12 false (.inr (of_decide_eq_true e2)) (by rw [e]))) (fun e2=>?_)
   have n2:¬ r.xAction=2:=of_decide_eq_false e2
   rw [if_neg (fun q=>q.elim n1 n2)] at he
   refine zp (fun e3=>?_) (fun e3=>?_)
   ·have h3:r.xAction=3:=of_decide_eq_true e3
    rw [if_neg (by omega),if_pos h3] at he
    obtain ⟨c0,c1⟩:=hcall h3
    obtain ⟨j,hj⟩:=Int.eq_ofNat_of_zero_le c0
    refine zdZ ?_
    unfold Xg
    have hca:=zdq hmc h3 c0
    rw [hj] at he hca c1 ⊢
    refine ih j fit fls _ (hh j (by simpa using hca)) (by omega) hfB o1 hfI hf60 ?_
    have hj':((j:Int)).toNat=j:=by simp
    rw [hj'] at he
    cases hU:U cs j fit fls with
    | none =>
     rw [hU] at he
     intro l o hl
     exact zbD (by have:=o2.2;omega) (by omega) (Uf (fun _=>jq (stop _ he)) (fun _=>jq (stop _ he)))
    | some bo =>
     obtain ⟨b,o⟩:=bo
     rw [hU] at he
     obtain ⟨u1,u2,u3,u4⟩:=zln htv j hfB o1 hfI hf60 _ _ hU
     simp only at he
     refine zkv ?_
     refine zbD (by have:=o2.2;omega) (by have:=u2.2;omega) (Uf (fun q=>jq (stop _ ?_)) (fun q=>jG ?_))
     ·rw [if_neg (fun q2=>by have:=q2.2;omega)] at he;exact he
     ·have ok:okR (miss++b):=⟨yo.2 ⟨o2.1,u2.1⟩,q⟩
      rw [if_pos ok] at he
      exact go _ _ _ ⟨hlB,hlF,by omega⟩ ⟨u3,u4⟩ ⟨Yv.2 ⟨hmB,u1⟩,ok⟩ he
   ·have n3:¬ r.xAction=3:=of_decide_eq_false e3
    refine zp (fun e4=>?_) (fun e4=>?_)
    ·have h4:r.xAction=4:=of_decide_eq_true e4
     rw [if_pos h4] at he
     refine zcE ?_
     unfold ZC
     have:=o1.2
     refine jn (by omega) (Uf (fun q=>absurd q (by have:=o2.2;omega)) (fun _=>jG ?_))
     exact go _ _ _ ⟨Yv.2 ⟨hlB,hfB⟩,yo.2 ⟨hlF,o1.1⟩,by rw [List.length_append];omega⟩ ⟨hfI,hf60⟩ ⟨hmB,o2⟩ he
    ·have n4:¬ r.xAction=4:=of_decide_eq_false e4
     rw [if_neg n4,if_neg n3] at he
     refine zek ?_
     unfold Xa
     have:=o1.2
     refine zbD (by have:=o2.2;omega) (by omega) (Uf (fun q=>jq (stop _ ?_)) (fun q=>jG ?_))
     ·rw [if_neg (fun q2=>by have:=q2.2;omega)] at he;exact he
     ·have ok:okR (miss++fit):=⟨yo.2 ⟨o2.1,o1.1⟩,q⟩
      rw [if_pos ok] at he
      exact go _ _ _ ⟨hlB,hlF,by omega⟩ ⟨hfI,hf60⟩ ⟨Yv.2 ⟨hmB,hfB⟩,ok⟩ he
  ·have hge:c.length≤k:=by simpa using hc
   rw [List.drop_of_length_le hge] at he
   unfold url at he
   rw [he] at h
   refine zbD (by omega) (by omega) (Uf (fun q=>?_) (fun q=>?_))
   ·rw [if_neg (fun q2=>by have:=q2.2;omega)] at h
    exact h _ _ (by rw [List.length_append];omega)
   ·rw [if_pos ⟨yo.2 ⟨hlF,hgO.1⟩,q⟩] at h
    exact h
noncomputable def uf (s:zR):Option (List zj):=(U s.xChains 0 [US] []).map (·.2)
theorem SV.c5 {s:zR} (h:SV s):∀ c∈s.xChains,c.length≤8∧∀ r∈c,TsV r.xTests∧(r.xAction=3→0≤r.xChain∧r.xChain<s.xChains.length):=fun c hc=>⟨(h.1.2 c hc).1,fun r hr=>⟨((h.1.2 c hc).2 r hr).1.1,fun h3=>⟨(((h.1.2 c hc).2 r hr).1.2.2.2.1 h3).1,((h.1.2 c hc).2 r hr).2⟩⟩⟩
theorem zdX:okR [US]:=⟨fun c hc=>by
 rw [List.mem_singleton] at hc;subst hc
 exact zfQ (fun f h0 h1=>by have:=zdd f h0 h1;omega),by simp⟩
theorem zc5:aB [US]:=fun c hc=>by rw [List.mem_singleton] at hc;subst hc;exact zbU
theorem zho {s:zR} (h:SV s) {l:List zj} (he:uf s=some l):IV l∧l.length≤60:=by
 unfold uf at he
 cases hU:U s.xChains 0 [US] [] with
 | none=>rw [hU] at he;cases he
 | some bo =>
  obtain ⟨b,o⟩:=bo
  rw [hU] at he
  simp only [Option.map_some,Option.some.injEq] at he
  subst he
  have:=zln h.tvs 0 zc5 zdX zfc (by simp) _ _ hU
  exact ⟨this.2.2.1,this.2.2.2⟩
theorem zeD {s:zR} (hv':SV s) {κ:List zj×Bool→Prop} (h1:∀ l,uf s=some l→κ (l,true)) (h2:uf s=none→∀ l,κ (l,false)):ZW s κ:=by
 unfold ZW
 refine zbc ⟨jN s.xChains+1,zjJ hv'.cn hv'.2.2 hv'.c5 _ 0 _ _ _ (zgJ hv'.2.2 0) hv'.2.1 zc5 zdX zfc (by simp) ?_⟩
 unfold uf at h1 h2
 cases hU:U s.xChains 0 [US] [] with
 | none=>rw [hU] at h2;exact fun l o _=>h2 rfl o
 | some bo =>
  obtain ⟨b,o⟩:=bo
  rw [hU] at h1
  exact h1 o rfl
end
section
open Go Go.Proofs
def gf (f:zj):zJ:=⟨bx f.xWhere,f.xAccept⟩
theorem zig (l:List zj):(l.map gf).map fl=l:=by
 rw [List.map_map]
 exact List.map_id' l
theorem zeX {l:List zj} (h:IV l) (hl:l.length≤60):FV (l.map gf):=⟨by simpa using hl,fun f hf=>by
 obtain ⟨g,hg,rfl⟩:=List.mem_map.1 hf
 exact zdl.2 (h g hg)⟩
theorem zlW {a:za} (h:B4 a):Bb (bx a):=⟨by simp [bx],fun x hx=>za7 h x hx⟩
theorem zeA {l:List za} (hB:aB l) (hl:l.length≤1000000) {κ:Bool→Prop} (h:κ (decide (okR l))):xE (l.map bx) κ:=by
 unfold xE
 refine z6 l.length (fun s=>s) (fun k s=>s=(k:Int)∧k≤l.length∧Vl (l.take k)) (fun k s h=>h.1) (fun k s h=>h.2.1) ?_ ⟨rfl,by omega,by simp [Vl]⟩
 rintro k _ next ⟨rfl,hk,hv'⟩ hn
 refine zp (fun hc=>?_) (fun hc=>?_)
 ·have hlt:k<l.length:=by simpa using hc
  have hb:=hB _ (List.getElem_mem hlt)
  refine zr k rfl (by simpa using hlt) ?_
  rw [List.getElem_map]
  refine Zb (zlW hb) (zp (fun e=>?_) (fun e=>?_))
  ·have:¬ BV (bx l[k]):=by simpa using e
   rw [decide_eq_false (fun q=>this (zdl.2 ⟨hb,q.1 _ (List.getElem_mem hlt)⟩))] at h;exact h
  ·have:BV (bx l[k]):=by simpa using e
   refine zC (by omega) (by omega) (hn hlt _ ⟨by simp,by omega,?_⟩)
   rw [List.take_succ_eq_append_getElem hlt]
   refine yo.2 ⟨hv',fun c hc=>?_⟩
   rw [List.mem_singleton] at hc;subst hc;exact this.f4
 ·have hge:l.length≤k:=by simpa using hc
  rw [List.take_of_length_le hge] at hv'
  rw [show decide (okR l)=decide (((l.map bx).length:Int)≤400) from decide_eq_decide.2 ⟨fun q=>by have:=q.2;simp;omega,fun q=>⟨hv',by simp at q;omega⟩⟩] at h
  exact h
theorem ZM {l:List za} (hB:aB l) (hl:l.length≤1000000) {κ:Bool→Prop} (h1:okR l→κ true) (h2:¬ okR l→κ false):xE (l.map bx) κ:=by
 refine zeA hB hl ?_
 by_cases h:okR l
 ·rw [decide_eq_true h];exact h1 h
 ·rw [decide_eq_false h];exact h2 h
def Sw (o:UR) (κ:List jd×Bool×List zJ→Prop):Prop:=match o with | some (l,out)=>κ (l.map bx,true,out.map gf) | none=>∀ l out,κ (l,false,out)
theorem zjO {l:List za} {o:List zj} {κ:List jd×Bool×List zJ→Prop} (h:κ (l.map bx,true,o.map gf)):Sw (some (l,o)) κ:=h
theorem zlX {s:zR} (hv:SV s):∀ (n i:Nat) (boxes:List za) (out:List zj) (κ:List jd×Bool×List zJ→Prop),Hh s.xChains n i→i<s.xChains.length→aB boxes→okR boxes→IV out→out.length≤60→Sw (U s.xChains i boxes out) κ→yM n s i (boxes.map bx) (out.map gf) κ:=by
 have hcn:=hv.cn
 have hs:=hv.2.2
 have hc5:=hv.c5
 have htv:=hv.tvs
 intro n
 induction n with
 | zero=>intro i boxes out κ h;exact h.elim
 | succ n ih =>
  intro i boxes out κ hh hi hB hO hIV h60 h
  show YK (yM n) s i (boxes.map bx) (out.map gf) κ
  unfold YK
  obtain ⟨h8,hrv⟩:=hc5 _ (List.getElem_mem hi)
  rw [zkP hcn hs i,zc2 hi] at h
  have hci:=zc2 hi
  have ix:∀ (K:List zt→Prop),K s.xChains[i]→zB s.xChains (i:Int) K:=fun K hK=>zr i rfl hi hK
  generalize hcc:s.xChains[i]=c at *
  generalize hT:url (U s.xChains) c boxes [] out=T at *
  refine z6 c.length (fun s=>s.2.2.2) (fun k (st:List zJ×List jd×List jd×Int)=>st.2.2.2=(k:Int)∧k≤c.length∧∃ fls going left,st.1=fls.map gf∧st.2.1=going.map bx∧st.2.2.1=left.map bx∧(aB left∧okR left)∧(IV fls∧fls.length≤60)∧(aB going∧okR going)∧T=url (U s.xChains) (c.drop k) going left fls) (fun k s h=>h.1) (fun k s h=>h.2.1) ?_ ⟨rfl,by omega,out,boxes,[],rfl,rfl,rfl,⟨zdh,VL⟩,⟨hIV,h60⟩,⟨hB,hO⟩,hT.symm⟩
  rintro k ⟨_,_,_,_⟩ next ⟨rfl,hk,fls,going,left,e1,e2,e3,⟨hlB,hlO⟩,⟨hfI,hf60⟩,⟨hgB,hgO⟩,he⟩ hn
  simp only at e1 e2 e3
  subst e1 e2 e3
  have hl4:=hlO.2
  have hg4:=hgO.2
  refine ix _ (zp (fun hc=>?_) (fun hc=>?_))
  ·have hlt:k<c.length:=by simpa using hc
   obtain ⟨hts,hcall⟩:=hrv _ (List.getElem_mem hlt)
   rw [List.drop_eq_getElem_cons hlt] at he
   unfold url at he
   refine ix _ (zr k rfl hlt (zg1 hts ?_))
   have hw:=zaM hts.1
   have hm:c[k]∈c:=List.getElem_mem hlt
   have hmc:c[k]∈chn s.xChains i:=by rw [hci];exact hm
   generalize c[k]=r at *
   have hfB:=zfx hgB hw
   have hmB:=UF hgB hw
   have hfl:=zbS going (Zj r.xTests)
   have hml:=VC going (Zj r.xTests)
   generalize Zj r.xTests=w at *
   refine z6 going.length (fun s=>s.2.2) (fun j (st:List jd×List jd×Int)=>st.2.2=(j:Int)∧j≤going.length∧st.1=(Xb (going.take j) w).map bx∧st.2.1=(xP (going.take j) w).map bx) (fun k s h=>h.1) (fun k s h=>h.2.1) ?_ ⟨rfl,by omega,by simp [Xb],by simp [xP]⟩
   rintro j ⟨_,_,_⟩ next2 ⟨rfl,hj,hx,hy⟩ hn2
   simp only at hx hy
   subst hx hy
   refine zp (fun hc2=>?_) (fun hc2=>?_)
   ·have hjl:j<going.length:=by simpa using hc2
    have hbB:=hgB _ (List.getElem_mem hjl)
    have hf2:=zbS (going.take j) w
    have hm2:=VC (going.take j) w
    rw [List.length_take] at hf2 hm2
    have ix2:∀ (K:jd→Prop),K (bx going[j])→zB (going.map bx) (j:Int) K:=fun K hK=>zr j rfl (by simpa using hjl) (by rw [List.getElem_map];exact hK)
    have ef:Xb (going.take (j+1)) w=Xb (going.take j) w++(if em4 (xJ going[j] w) then [] else [xJ going[j] w]):=by
     rw [List.take_succ_eq_append_getElem hjl,zax,zbP]
    have em:xP (going.take (j+1)) w=xP (going.take j) w++XV going[j] w:=by
     rw [List.take_succ_eq_append_getElem hjl,Z9,YA]
    have hcl:=zar going[j] w
    have second:∀ xs,xs=(Xb (going.take (j+1)) w).map bx→zB (going.map bx) (j:Int) (fun e195=>yE e195 (bx w) (fun r201=>jw ((xP (going.take j) w).map bx) r201 (fun _=>jz (j:Int) 1 (fun t206=>next2 (xs,(((xP (going.take j) w).map bx)++r201),t206))))):=by
     rintro _ rfl
     refine ix2 _ (zdK hbB hw (jn (by simp only [List.length_map];omega) (zC (by omega) (by omega) (hn2 hjl _ ⟨by simp,by omega,rfl,?_⟩))))
     rw [em,List.map_append]
    refine jW (jW (ix2 _ (zeM hbB hw ?_)))
    refine VN (a:=xJ going[j] w) (zp (fun e=>?_) (fun e=>?_))
    ·have e':em4 (xJ going[j] w)=false:=by simpa using e
     refine jn (by simp only [List.length_map,List.length_singleton];omega) (second _ ?_)
     rw [ef,e',List.map_append];rfl
    ·have e':em4 (xJ going[j] w)=true:=by simpa using e
     refine second _ ?_
     rw [ef,e'];simp
   ·have hjge:going.length≤j:=by simpa using hc2
    rw [List.take_of_length_le hjge]
    have stop:∀ l o,T=none→κ (l,false,o):=fun l o q=>by rw [q] at h;exact h _ _
    refine jW (ZM hfB (by omega) (fun o1=>jG (ZM hmB (by omega) (fun o2=>jG ?_) (fun no=>jq (stop _ _ ?_)))) (fun no=>jq (jq (stop _ _ ?_))))
    rotate_left
    ·rw [if_neg (fun q=>no q.2)] at he;exact he
    ·rw [if_neg (fun q=>no q.1)] at he;exact he
    rw [if_pos ⟨o1,o2⟩] at he
    generalize Xb going w=fit at *
    generalize xP going w=miss at *
    refine zeN (fun (t:List jd×List jd×List zJ)=>∃ left' going' fls',t=(List.map bx left',List.map bx going',List.map gf fls')∧aB left'∧Vl left'∧left'.length≤100000∧aB going'∧going'.length≤100000∧IV fls'∧(okR going'→okR left'→fls'.length≤60→T=url (U s.xChains) (c.drop (k+1)) going' left' fls')∧(¬ (okR going'∧okR left'∧fls'.length≤60)→T=none)) ?_ ?_
    ·rintro _ ⟨left',going',fls',rfl,a1,a2,a3,a4,a5,a6,a7,a8⟩
     refine jW (ZM a4 (by omega) (fun b1=>jG (ZM a1 (by omega) (fun b2=>jG (zp (fun e=>?_) (fun e=>?_))) (fun no=>jq (jq (stop _ _ (a8 (fun q=>no q.2.1))))))) (fun no=>jq (jq (stop _ _ (a8 (fun q=>no q.1))))))
     ·have:60<fls'.length:=by have:=of_decide_eq_true e;simp only [List.length_map] at this;omega
      exact stop _ _ (a8 (fun q=>by have:=q.2.2;omega))
     ·have h6:fls'.length≤60:=by have:=of_decide_eq_false e;simp only [List.length_map] at this;omega
      exact zC (by omega) (by omega) (hn hlt _ ⟨by simp,by omega,fls',going',left',rfl,rfl,rfl,⟨a1,b2⟩,⟨a6,h6⟩,⟨a4,b1⟩,a7 b1 b2 h6⟩)
    intro K hK
    have hfl4:=o1.2
    have hml4:=o2.2
    refine zeN (fun t=>t=decide (r.xAction=1∨r.xAction=2)) ?_ (fun K2 hK2=>?_)
    rotate_left
    ·have hK2:=hK2 _ rfl
     refine zp (fun e=>?_) (fun e=>?_)
     ·rw [e];rw [decide_eq_true (.inl (of_decide_eq_true e))] at hK2;exact hK2
     ·have n1:=of_decide_eq_false e
      rw [show decide (r.xAction=2)=decide (r.xAction=1∨r.xAction=2) from decide_eq_decide.2 ⟨.inr,fun q=>q.resolve_left n1⟩];exact hK2
    rintro _ rfl
    refine zp (fun e=>?_) (fun e=>?_)
    ·have ha:=of_decide_eq_true e
     rw [if_pos ha] at he
     refine z6 fit.length (fun s=>s.2) (fun j (st:List zJ×Int)=>st.2=(j:Int)∧j≤fit.length∧st.1=(fls++dec (fit.take j) (decide (r.xAction=1))).map gf) (fun k s h=>h.1) (fun k s h=>h.2.1) ?_ ⟨rfl,by omega,by simp [dec]⟩
     rintro j2 ⟨_,_⟩ next3 ⟨rfl,hj2,hx2⟩ hn3
     simp only at hx2
     subst hx2
     refine zp (fun hc3=>?_) (fun hc3=>?_)
     ·have hjl:j2<fit.length:=by simpa using hc3
      refine jW (zr j2 rfl (by simpa using hjl) ?_)
      rw [List.getElem_map]
      refine jn (by simp only [List.length_map,List.length_append,zd8,List.length_take,List.length_singleton];omega) (zC (by omega) (by omega) (hn3 hjl _ ⟨by simp,by omega,?_⟩))
      simp only [dec,List.take_succ_eq_append_getElem hjl,List.map_append,List.map_cons,List.map_nil,List.append_assoc]
      rfl
     ·have hjge:fit.length≤j2:=by simpa using hc3
      rw [List.take_of_length_le hjge]
      refine hK _ ⟨left,miss,_,rfl,hlB,hlO.1,by omega,hmB,by omega,zfq hfI (zfA hfB o1.1),fun _ _ q=>?_,fun q=>?_⟩
      ·rw [if_pos q] at he;exact he
      ·rw [if_neg (fun q2=>q ⟨o2,hlO,q2⟩)] at he;exact he
    have n12:=of_decide_eq_false e
    rw [if_neg n12] at he
    refine zp (fun e4=>?_) (fun e4=>?_)
    ·rw [if_pos (of_decide_eq_true e4)] at he
     refine jn (by simp only [List.length_map];omega) ?_
     refine hK _ ⟨left++fit,miss,fls,by rw [List.map_append],Yv.2 ⟨hlB,hfB⟩,yo.2 ⟨hlO.1,o1.1⟩,by rw [List.length_append];omega,hmB,by omega,hfI,fun _ _ _=>he,fun q=>?_⟩
     rw [he]
     exact zfR (Nat.lt_of_not_le (fun q2=>q ⟨o2,⟨yo.2 ⟨hlO.1,o1.1⟩,q2⟩,hf60⟩))
    ·rw [if_neg (of_decide_eq_false e4)] at he
     refine zp (fun e3=>?_) (fun e3=>?_)
     ·have h3:=of_decide_eq_true e3
      rw [if_pos h3] at he
      obtain ⟨c0,c1⟩:=hcall h3
      obtain ⟨j,hj⟩:=Int.eq_ofNat_of_zero_le c0
      have hca:=zdq hmc h3 c0
      rw [hj] at he hca c1 ⊢
      have hj':((j:Int)).toNat=j:=by simp
      rw [hj'] at he
      refine ih j fit fls _ (hh j (by simpa using hca)) (by omega) hfB o1 hfI hf60 ?_
      cases hU:U s.xChains j fit fls with
      | none =>
       rw [hU] at he
       intro l o
       exact jq (stop _ _ he)
      | some bo =>
       obtain ⟨b,o⟩:=bo
       rw [hU] at he
       obtain ⟨u1,u2,u3,u4⟩:=zln htv j hfB o1 hfI hf60 _ _ hU
       have hu4:=u2.2
       simp only at he
       refine zjO (jG (jn (by simp only [List.length_map];omega) ?_))
       refine hK _ ⟨left,miss++b,o,by rw [List.map_append],hlB,hlO.1,by omega,Yv.2 ⟨hmB,u1⟩,by rw [List.length_append];omega,u3,fun q _ _=>?_,fun q=>?_⟩
       ·rw [if_pos q] at he;exact he
       ·rw [if_neg (fun q2=>q ⟨q2,hlO,u4⟩)] at he;exact he
     ·rw [if_neg (of_decide_eq_false e3)] at he
      refine jn (by simp only [List.length_map];omega) ?_
      refine hK _ ⟨left,miss++fit,fls,by rw [List.map_append],hlB,hlO.1,by omega,Yv.2 ⟨hmB,hfB⟩,by rw [List.length_append];omega,hfI,fun q _ _=>?_,fun q=>?_⟩
      ·rw [if_pos q] at he;exact he
      ·rw [if_neg (fun q2=>q ⟨q2,hlO,hf60⟩)] at he;exact he
  ·have hge:c.length≤k:=by simpa using hc
   rw [List.drop_of_length_le hge] at he
   unfold url at he
   rw [he] at h
   refine jn (by simp only [List.length_map];omega) ?_
   rw [← List.map_append]
   refine ZM (Yv.2 ⟨hlB,hgB⟩) (by rw [List.length_append];omega) (fun q=>?_) (fun q=>?_)
   ·rw [if_pos q] at h;exact h
   ·rw [if_neg q] at h;exact h _ _
end
section
open Go Go.Proofs
theorem zak {s:zR} (hb:Bd s) {κ:zR→Prop} (h:κ s):yw s κ:=by
 unfold yw XI
 refine U2 s.xChains id hb.1 (fun x ψ=>Zi x ψ) (fun x ψ hx hψ=>?_) (by simpa using h) _ (fun nx xs t hh=>hh)
 obtain ⟨h1,h2⟩:=hb.2 x hx
 unfold Zi
 refine U2 x id h1 (fun y ψ=>XZ y ψ) (fun y ψ hy hψ=>?_) (by simpa using hψ) _ (fun nx xs t hh=>hh)
 unfold XZ
 exact jn (by have:=h2 y hy;simpa using this) hψ
theorem zgS {l:List zj} (hl:l.length≤4294967296) (hv:IV l) {κ:List zJ→Prop} (h:κ (l.map gf)):Ym l κ:=by
 unfold Ym
 refine UU 0 rfl (by omega) (by omega) ?_
 exact U2 l gf hl (fun x ψ=>ZI x.xWhere (fun r=>ψ (zJ.mk r x.xAccept))) (fun x ψ hx hψ=>zl0 (zl9 (hv x hx).2) hψ) h _ (fun nx xs t hh=>hh)
theorem zeC {s:zR} (hb:Bd s) {κ:List zJ×Bool→Prop} (h1:SV s→∀ l,uf s=some l→κ (l.map gf,true)) (h2:(SV s→uf s=none)→κ ([],false)):Uj s κ:=by
 unfold Uj
 refine zak hb (zaQ hb (fun b hbv=>zp (fun e=>h2 (fun q=>?_)) (fun e=>zge ?_)))
 ·rw [hbv.2 q] at e;cases e
 have hv:SV s:=hbv.1 (by simpa using e)
 refine ⟨jN s.xChains+1,zlX hv _ 0 [US] [] _ (zgJ hv.2.2 0) hv.2.1 zc5 zdX zfc (by simp) ?_⟩
 have h1:=h1 hv
 unfold uf at h1 h2
 cases hU:U s.xChains 0 [US] [] with
 | none=>rw [hU] at h2;exact fun l o=>jq (h2 (fun _=>rfl))
 | some bo =>
  obtain ⟨b,o⟩:=bo
  rw [hU] at h1
  exact jG (h1 o rfl)
end
section
open Go Go.Proofs
def wdN (l:List zj):Nat→List zj
 | 0=>[]
 | k+1=>wdN l k++(match l[k]? with | some f=>if dd l k then [] else [f] | none=>[])
def wdF (l:List zj):List zj:=wdN l l.length
theorem zbk (l:List zj):∀ k,(wdN l k).length≤k∧∀ f∈wdN l k,f∈l
 | 0=>by simp [wdN]
 | k+1=>by
  obtain ⟨h1,h2⟩:=zbk l k
  unfold wdN
  cases e:l[k]? with
  | none=>simp only [List.append_nil];exact ⟨by omega,h2⟩
  | some f =>
   simp only
   split
   ·simp only [List.append_nil];exact ⟨by omega,h2⟩
   ·refine ⟨by rw [List.length_append];simp;omega,fun g hg=>?_⟩
    rcases List.mem_append.1 hg with q | q
    ·exact h2 g q
    ·rw [List.mem_singleton] at q;subst q;exact List.mem_of_getElem? e
theorem zfW (l:List zj):(wdF l).length≤l.length:=(zbk l _).1
theorem zao {l:List zj} (h:IV l):IV (wdF l):=fun f hf=>h f ((zbk l _).2 f hf)
theorem zfu {l:List zj} {k:Nat} (hk:k<l.length) (h:dd l k=true):wdN l (k+1)=wdN l k:=by
 show wdN l k++_=_
 rw [List.getElem?_eq_getElem hk];simp [h]
theorem zgO {l:List zj} {k:Nat} (hk:k<l.length) (h:dd l k=false):wdN l (k+1)=wdN l k++[l[k]]:=by
 show wdN l k++_=_
 rw [List.getElem?_eq_getElem hk];simp [h]
theorem zex {l:List zj} (hl:l.length≤100000) (hv:IV l) {κ:List zj→Prop} (h:κ (wdF l)):Z0 l κ:=by
 unfold Z0
 refine ziC hl hv (UU 0 rfl (by omega) (by omega) ?_)
 have rem0:zkM l=((List.range l.length).drop 0).filter (dd l):=rfl
 rw [rem0]
 refine z6 l.length (fun s=>s.2.2) (fun k (s:List Int×List zj×Int)=>s.2.2=(k:Int)∧k≤l.length∧s.1=(((List.range l.length).drop k).filter (dd l)).map Int.ofNat∧s.2.1=wdN l k) (fun k s h=>h.1) (fun k s h=>h.2.1) ?_ ⟨rfl,by omega,rfl,rfl⟩
 rintro k ⟨_,_,_⟩ next ⟨rfl,hk,hx,hy⟩ hn
 simp only at hx hy
 subst hx hy
 refine zp (fun hc=>?_) (fun hc=>?_)
 ·have hlt:k<l.length:=by simpa using hc
  have hd:(List.range l.length).drop k=k :: (List.range l.length).drop (k+1):=by
   rw [List.drop_eq_getElem_cons (by simpa using hlt)];simp
  have hwl:=(zbk l k).1
  have hfl:∀ m,((((List.range l.length).drop m).filter (dd l)).map Int.ofNat).length≤l.length:=fun m=>by
   rw [List.length_map]
   refine Nat.le_trans (List.length_filter_le _ _) ?_
   rw [List.length_drop,List.length_range];omega
  refine jW (zr k rfl hlt (jW ?_))
  have nxt:∀ ws,ws=wdN l (k+1)→jz (k:Int) 1 (fun t188=>next ((((List.range l.length).drop (k+1)).filter (dd l)).map Int.ofNat,ws,t188)):=fun ws hw=>zC (by omega) (by omega) (hn hlt _ ⟨by simp,by omega,rfl,hw⟩)
  have app:dd l k=false→jw (wdN l k) [l[k]] (fun _=>jz (k:Int) 1 (fun t188=>next ((((List.range l.length).drop (k+1)).filter (dd l)).map Int.ofNat,wdN l k++[l[k]],t188))):=fun q=>jn (by simp;omega) (nxt _ (zgO hlt q).symm)
  by_cases q:dd l k=true
  ·have e:((List.range l.length).drop k).filter (dd l)=k :: ((List.range l.length).drop (k+1)).filter (dd l):=by rw [hd,List.filter_cons,if_pos q]
   rw [e]
   refine zp (fun _=>zr 0 rfl (by simp) ?_) (fun e2=>by simp at e2)
   refine zp (fun _=>?_) (fun e2=>by simp at e2)
   refine ⟨by omega,by simp;omega,by omega,?_⟩
   have e3:(List.take (((k :: ((List.range l.length).drop (k+1)).filter (dd l)).map Int.ofNat).length:Int).toNat ((k :: ((List.range l.length).drop (k+1)).filter (dd l)).map Int.ofNat)).drop (1:Int).toNat=(((List.range l.length).drop (k+1)).filter (dd l)).map Int.ofNat:=by
    rw [Int.toNat_natCast,List.take_length];rfl
   rw [e3]
   exact nxt _ (zfu hlt q).symm
  ·have q':dd l k=false:=by simpa using q
   have e:((List.range l.length).drop k).filter (dd l)=((List.range l.length).drop (k+1)).filter (dd l):=by rw [hd,List.filter_cons,if_neg q]
   rw [e]
   refine zp (fun e2=>?_) (fun e2=>jG (app q'))
   have hpos:0<((((List.range l.length).drop (k+1)).filter (dd l)).map Int.ofNat).length:=by have:=of_decide_eq_true e2;omega
   refine zr 0 rfl hpos ?_
   have hm:((((List.range l.length).drop (k+1)).filter (dd l)).map Int.ofNat)[0]∈(((List.range l.length).drop (k+1)).filter (dd l)).map Int.ofNat:=List.getElem_mem hpos
   obtain ⟨j,hj,ej⟩:=List.mem_map.1 hm
   have hj2:=(List.mem_filter.1 hj).1
   have hjk:k+1≤j:=by
    rw [List.mem_drop_iff_getElem] at hj2
    obtain ⟨m,_,hm2⟩:=hj2
    simp at hm2;omega
   refine zp (fun e3=>?_) (fun _=>app q')
   have e3':=of_decide_eq_true e3
   rw [← ej] at e3'
   have:(j:Int)=(k:Int):=e3'
   omega
 ·have hge:l.length≤k:=by simpa using hc
  have:k=l.length:=by omega
  subst this
  exact h
theorem zjk {a:za} (h:B4 a):in4 a a=true:=by
 have z:∀ {l:List ze} {t:Int},St l t→xI l l t=[]:=fun {l t} hs=>by
  have hn:=Vw hs hs
  cases e:xI l l t with
  | nil=>rfl
  | cons x r =>
   have hx:=Va hn.1 (show x∈xI l l t by rw [e];simp)
   have:=(UQ hs hs).1 hx.1
   exact absurd this.1 this.2
 obtain ⟨h0,h1,h2,h3⟩:=h
 simp [in4,ze7,zca,z h0,z h1,z h2,z h3]
theorem zbt {a b:List ze} {t:Int} (ha:St a t) (hb:St b t):xI a b t=[]↔∀ x,hv a x→hv b x:=by
 constructor
 ·intro h x hx
  by_cases q:hv b x
  ·exact q
  ·have:=(UQ ha hb).2 ⟨hx,q⟩
   rw [h] at this;exact absurd this (uP _)
 ·intro h
  have hn:=Vw ha hb
  cases e:xI a b t with
  | nil=>rfl
  | cons x r =>
   have hx:=Va hn.1 (show x∈xI a b t by rw [e];simp)
   have:=(UQ ha hb).1 hx.1
   exact absurd (h _ this.1) this.2
theorem zgL {a:List ze} {t:Int} (h:St a t):a≠[]→∃ x,hv a x:=fun q=>by
 cases a with
 | nil=>exact absurd rfl q
 | cons s r=>exact ⟨s.xLo,(Va h.1 (by simp)).1⟩
theorem zko {a b:List ze} (h:∃ x,hv a x∧hv b x):jb a b≠[]:=fun e=>by
 obtain ⟨x,h1,h2⟩:=h
 have:=(XM a b x).2 ⟨h1,h2⟩
 rw [e] at this;exact uP _ this
theorem zmz {a:za}:em4 a=true↔a.x0=[]∨a.x1=[]∨a.x2=[]∨a.x3=[]:=by unfold em4;exact decide_eq_true_iff
theorem zjz {a:za}:em4 a=false↔a.x0≠[]∧a.x1≠[]∧a.x2≠[]∧a.x3≠[]:=by unfold em4;rw [decide_eq_false_iff_not];simp only [not_or,ne_eq]
theorem zfk {a b:za} (ha:B4 a) (hb:B4 b):XV a b=[]↔in4 a b=true:=by
 obtain ⟨p0,p1,p2,p3⟩:=ha
 obtain ⟨q0,q1,q2,q3⟩:=hb
 have hless:ze7 a b=zca↔(xI a.x0 b.x0 65535=[]∧xI a.x1 b.x1 65535=[]∧xI a.x2 b.x2 255=[]∧xI a.x3 b.x3 7=[]):=by
  simp [ze7,zca]
 unfold XV in4
 by_cases e:em4 (xJ a b)=true
 ·rw [if_pos e]
  by_cases e2:em4 a=true
  ·simp [e2]
  ·have e2':em4 a=false:=by simpa using e2
   simp only [e2',Bool.false_eq_true,if_false,Bool.false_or,decide_eq_true_eq]
   refine ⟨fun h=>by simp at h,fun h=>?_⟩
   obtain ⟨l0,l1,l2,l3⟩:=hless.1 h
   rw [zbt p0 q0] at l0
   rw [zbt p1 q1] at l1
   rw [zbt p2 q2] at l2
   rw [zbt p3 q3] at l3
   exfalso
   rw [zjz] at e2'
   rw [zmz] at e
   have g:∀ {x y:List ze} {t:Int},St x t→x≠[]→(∀ v,hv x v→hv y v)→jb x y≠[]:=fun hx hne hh=>by
    obtain ⟨v,hv1⟩:=zgL hx hne
    exact zko ⟨v,hv1,hh v hv1⟩
   rcases e with e | e | e | e
   ·exact g p0 e2'.1 l0 e
   ·exact g p1 e2'.2.1 l1 e
   ·exact g p2 e2'.2.2.1 l2 e
   ·exact g p3 e2'.2.2.2 l3 e
 ·rw [if_neg e]
  have e2:em4 a=false:=by
   have e':em4 (xJ a b)=false:=by simpa using e
   rw [zjz] at e' ⊢
   refine ⟨fun q=>e'.1 (by simp only [xJ];rw [q];rfl),fun q=>e'.2.1 (by simp only [xJ];rw [q];rfl),fun q=>e'.2.2.1 (by simp only [xJ];rw [q];rfl),fun q=>e'.2.2.2 (by simp only [xJ];rw [q];rfl)⟩
  simp only [e2,Bool.false_or,decide_eq_true_eq,hless]
  have hp:∀ (r:List ze) (c:za),pc r c=[]↔r=[]:=fun r c=>by unfold pc;split <;> simp [*]
  simp only [List.append_eq_nil_iff,hp,and_assoc]
def zaU (a b:za):List Nat:=(List.range 4).filter (fun n=>decide (xG a n≠xG b n))
def uni (a b:za) (n:Nat):List ze:=XG (xG a n) (xG b n)
def mg (a b:za):Option za :=
 if in4 a b then some b else if in4 b a then some a else
 match zaU a b with
 | [n]=>if (uni a b n).length≤40 then some (YH a n (uni a b n)) else none
 | _=>none
theorem zc9 {a b:za} {n:Nat} (h:zaU a b=[n]):n<4∧xG a n≠xG b n:=by
 have:n∈zaU a b:=by rw [h];simp
 obtain ⟨h1,h2⟩:=List.mem_filter.1 this
 exact ⟨by simpa using h1,by simpa using h2⟩
theorem zl4 {a b x:za} (ha:B4 a∧F4 a) (hb:B4 b∧F4 b) (h:mg a b=some x):B4 x∧F4 x:=by
 unfold mg at h
 split at h
 ·injection h with h;subst h;exact hb
 ·split at h
  ·injection h with h;subst h;exact ha
  ·split at h
   ·rename_i n hn
    obtain ⟨h4,_⟩:=zc9 hn
    split at h
    ·rename_i hl
     injection h with h;subst h
     have k0:(0:Int)≤n:=by omega
     have k3:(n:Int)≤3:=by omega
     exact ⟨zhv ha.1 k0 k3 (zcn (ZV ha.1 k0 k3) (ZV hb.1 k0 k3)),zfQ (zhx (zgg.1 ha.2) k0 k3 hl (Nat.le_refl _))⟩
    ·cases h
   ·cases h
theorem zif {a b:List ze} (hl:a.length≤4294967296) {κ:Bool→Prop} (h:κ (decide (a=b))):jY a b κ:=by
 unfold jY
 by_cases hab:a.length=b.length
 ·refine zp (fun e=>by simp [hab] at e) (fun _=>?_)
  exact zhy a b hab hl (fun x y A=>ifW (!(decide (x=y))) (κ false) A) (fun x y A h1 h2=>zp (fun e=>h2 (by simpa using e)) (fun e=>h1 (by simpa using e))) h _ (fun nx t hh=>hh)
 ·rw [decide_eq_false (fun q=>hab (by rw [q]))] at h
  exact zp (fun _=>h) (fun e=>by simp at e;omega)
def UN (a b:za) (k:Nat):List Nat:=(List.range k).filter (fun n=>decide (xG a n≠xG b n))
theorem Yx (a b:za) (k:Nat):UN a b (k+1)=UN a b k++(if xG a k≠xG b k then [k] else []):=by
 unfold UN
 rw [List.range_succ,List.filter_append,List.filter_cons]
 by_cases h:xG a k=xG b k <;> simp [h]
theorem zix (a b:za):∀ k,(UN a b k).length≤k:=fun k=>Nat.le_trans (List.length_filter_le _ _) (by simp)
def zmC:Option za→za×Bool
 | some x=>(x,true)
 | none=>(zca,false)
theorem zfB {a b:za} (ha:B4 a∧F4 a) (hb:B4 b∧F4 b) {κ:za×Bool→Prop} (h:κ (zmC (mg a b))):u0 a b κ:=by
 unfold u0
 unfold mg at h
 refine zgf ha.1 hb.1 (zp (fun e=>?_) (fun e=>zgf hb.1 ha.1 (zp (fun e2=>?_) (fun e2=>?_))))
 ·rw [if_pos e] at h;exact h
 ·rw [if_neg (by simp [e]),if_pos e2] at h;exact h
 rw [if_neg (by simp [e]),if_neg (by simp [e2])] at h
 refine z6 4 (fun s=>s.2.2) (fun k (s:Int×Int×Int)=>s.2.2=(k:Int)∧k≤4∧s.2.1=((UN a b k).length:Int)∧∀ n,(UN a b k).getLast?=some n→s.1=(n:Int)) (fun k s h=>h.1) (fun k s h=>h.2.1) ?_ ⟨rfl,by omega,rfl,fun n hn=>by simp [UN] at hn⟩
 rintro k ⟨f,cn,_⟩ next ⟨rfl,hk,hcn,hf⟩ hn
 simp only at hcn hf
 subst hcn
 have hdl:=zix a b k
 refine zp (fun hc=>?_) (fun hc=>?_)
 ·have hlt:k<4:=by
   have:(k:Int)<4:=of_decide_eq_true hc
   omega
  have k0:(0:Int)≤k:=by omega
  have k3:(k:Int)≤3:=by omega
  refine jW (jW (yJ k0 k3 (yJ k0 k3 (zif (by have:=zgg.1 ha.2 k k0 k3;omega) (zp (fun e=>?_) (fun e=>?_))))))
  ·have hne:xG a k≠xG b k:=by simpa using e
   refine zC (by omega) (by omega) (zC (by omega) (by omega) (hn hlt _ ⟨by simp,by omega,?_,fun n hnn=>?_⟩))
   ·rw [Yx,if_pos hne];simp
   ·rw [Yx,if_pos hne] at hnn
    simp at hnn;simp only;omega
  ·have hne:¬ xG a k≠xG b k:=by simpa using e
   refine zC (by omega) (by omega) (hn hlt _ ⟨by simp,by omega,?_,fun n hnn=>?_⟩)
   ·rw [Yx,if_neg hne];simp
   ·rw [Yx,if_neg hne,List.append_nil] at hnn
    exact hf n hnn
 ·have hge:k=4:=by
   have:¬ (k:Int)<4:=of_decide_eq_false hc
   omega
  subst hge
  have ed:UN a b 4=zaU a b:=rfl
  rw [ed] at hf ⊢
  refine zp (fun e3=>?_) (fun e3=>?_)
  ·have h1:¬ (zaU a b).length=1:=by
    have:¬ ((zaU a b).length:Int)=1:=by simpa using e3
    omega
   have:κ (zca,false):=by
    split at h
    ·rename_i n hn';rw [hn'] at h1;simp at h1
    ·exact h
   exact this
  ·have h1:(zaU a b).length=1:=by
    have:((zaU a b).length:Int)=1:=by simpa using e3
    omega
   obtain ⟨n,hn'⟩:=List.length_eq_one_iff.1 h1
   rw [hn'] at h hf
   have hfn:=hf n rfl
   subst hfn
   obtain ⟨h4,_⟩:=zc9 hn'
   have k0:(0:Int)≤n:=by omega
   have k3:(n:Int)≤3:=by omega
   have tl:=UM n
   refine jW (yJ k0 k3 (yJ k0 k3 (Zh k0 k3 (zfy (ZV ha.1 k0 k3) (ZV hb.1 k0 k3) (by omega) (by omega) ?_))))
   simp only at h
   by_cases hl:(uni a b n).length≤40
   ·rw [if_pos hl] at h
    have el:lim (XG (xG a n) (xG b n))=(uni a b n,true):=by unfold lim;rw [if_neg (by unfold uni at hl;omega)];rfl
    rw [el]
    refine jG (yJ k0 k3 ⟨_,_,_,_,U6 k0 k3,h⟩)
   ·rw [if_neg hl] at h
    have el:lim (XG (xG a n) (xG b n))=([],false):=by unfold lim;rw [if_pos (by unfold uni at hl;omega)]
    rw [el]
    exact jq h
end
section
open Go Go.Proofs
def pm (x y:zj):Option zj:=if x.xAccept=y.xAccept then (mg x.xWhere y.xWhere).map (fun w=>⟨w,x.xAccept⟩) else none
def pmA (l:List zj) (k:Nat):Option zj:=match l[k]?,l[k+1]? with | some x,some y=>pm x y | _,_=>none
def fpN (l:List zj):Nat→Option (Nat×zj)
 | 0=>none
 | n+1=>match fpN l n with | some r=>some r | none=>(pmA l n).map (fun z=>(n,z))
def fp (l:List zj):Option (Nat×zj):=fpN l l.length
def Uz (l:List zj) (k:Nat) (z:zj):List zj:=l.take k++[z]++l.drop (k+2)
def mgN:Nat→List zj→List zj
 | 0,l=>l
 | n+1,l=>match fp l with | none=>l | some (k,z)=>mgN n (Uz l k z)
def mgF (l:List zj):List zj:=mgN l.length l
theorem za6 {l:List zj} {k:Nat} {z:zj} (h:pmA l k=some z):k+1<l.length:=by
 unfold pmA at h
 split at h
 ·rename_i x y h1 h2;exact (List.getElem?_eq_some_iff.1 h2).1
 ·cases h
theorem zjF {l:List zj} {k:Nat} (h:l.length≤k+1):pmA l k=none:=by
 cases e:pmA l k with
 | none=>rfl
 | some z=>have:=za6 e;omega
theorem zdg {l:List zj} {k:Nat} (h:k+1<l.length):pmA l k=pm l[k] l[k+1]:=by
 unfold pmA
 rw [List.getElem?_eq_getElem (by omega:k<l.length),List.getElem?_eq_getElem h]
theorem zd7 {l:List zj}:∀ {n:Nat},(∀ j,j<n→pmA l j=none)→fpN l n=none
 | 0,_=>rfl
 | n+1,h=>by
  unfold fpN
  rw [zd7 (fun j hj=>h j (by omega))]
  simp [h n (by omega)]
theorem zf8 {l:List zj} {k:Nat} {z:zj} (h1:∀ j,j<k→pmA l j=none) (h2:pmA l k=some z):∀ {n:Nat},k<n→fpN l n=some (k,z)
 | 0,h=>by omega
 | n+1,h=>by
  unfold fpN
  by_cases e:k=n
  ·subst e;rw [zd7 h1,h2];rfl
  ·rw [zf8 h1 h2 (by omega)]
theorem zhB {l:List zj} (h:∀ j,pmA l j=none):fp l=none:=zd7 (fun j _=>h j)
theorem zc3 {l:List zj} {k:Nat} {z:zj} (h1:∀ j,j<k→pmA l j=none) (h2:pmA l k=some z):fp l=some (k,z):=zf8 h1 h2 (by have:=za6 h2;omega)
theorem zaK {l:List zj} {k:Nat} {z:zj} (h:k+1<l.length):(Uz l k z).length=l.length - 1:=by
 unfold Uz
 simp only [List.length_append,List.length_take,List.length_singleton,List.length_drop];omega
theorem zgk {l:List zj} (h:∀ j,pmA l j=none):mgF l=l:=by
 unfold mgF
 cases e:l.length with
 | zero=>rfl
 | succ n=>unfold mgN;rw [zhB h]
theorem zgK {l:List zj} {k:Nat} {z:zj} (h1:∀ j,j<k→pmA l j=none) (h2:pmA l k=some z):mgF l=mgF (Uz l k z):=by
 have hk:=za6 h2
 have hl:=zaK (z:=z) hk
 unfold mgF
 rw [hl]
 obtain ⟨n,hn⟩:∃ n,l.length=n+1:=⟨l.length - 1,by omega⟩
 rw [hn]
 conv=>lhs;unfold mgN
 rw [zc3 h1 h2]
 rfl
theorem zmt {x y z:zj} (hx:B4 x.xWhere∧F4 x.xWhere) (hy:B4 y.xWhere∧F4 y.xWhere) (h:pm x y=some z):(B4 z.xWhere∧F4 z.xWhere)∧z.xAccept=x.xAccept:=by
 unfold pm at h
 split at h
 ·cases e:mg x.xWhere y.xWhere with
  | none=>rw [e] at h;cases h
  | some w =>
   rw [e] at h
   simp only [Option.map_some,Option.some.injEq] at h
   subst h
   exact ⟨zl4 hx hy e,rfl⟩
 ·cases h
theorem zbR {l:List zj} {k:Nat} {z:zj} (h:IV l) (h2:pmA l k=some z):IV (Uz l k z):=by
 have hk:=za6 h2
 rw [zdg hk] at h2
 have hz:=zmt (h _ (List.getElem_mem (by omega))) (h _ (List.getElem_mem hk)) h2
 intro f hf
 unfold Uz at hf
 rcases List.mem_append.1 hf with q | q
 ·rcases List.mem_append.1 q with q | q
  ·exact h f (List.mem_of_mem_take q)
  ·rw [List.mem_singleton] at q;subst q;exact hz.1
 ·exact h f (List.mem_of_mem_drop q)
theorem zha:∀ (n:Nat) {l:List zj},IV l→IV (mgN n l)∧(mgN n l).length≤l.length
 | 0,l,h=>⟨h,Nat.le_refl _⟩
 | n+1,l,h=>by
  unfold mgN
  cases e:fp l with
  | none=>exact ⟨h,Nat.le_refl _⟩
  | some kz =>
   obtain ⟨k,z⟩:=kz
   have hkz:pmA l k=some z:=by
    have:∀ n,fpN l n=some (k,z)→pmA l k=some z:=by
     intro n
     induction n with
     | zero=>intro q;cases q
     | succ n ih =>
      intro q
      unfold fpN at q
      cases e2:fpN l n with
      | some r=>rw [e2] at q;simp only [Option.some.injEq] at q;subst q;exact ih e2
      | none =>
       rw [e2] at q
       cases e3:pmA l n with
       | none=>rw [e3] at q;cases q
       | some z' =>
        rw [e3] at q
        simp only [Option.map_some,Option.some.injEq,Prod.mk.injEq] at q
        obtain ⟨rfl,rfl⟩:=q
        exact e3
    exact this _ e
   have ih:=zha n (zbR h hkz)
   have hl:=zaK (z:=z) (za6 hkz)
   exact ⟨ih.1,by have:=ih.2;simp only;omega⟩
theorem ziY {l:List zj} (h:IV l):IV (mgF l):=(zha _ h).1
theorem zfS {l:List zj} (h:IV l):(mgF l).length≤l.length:=(zha _ h).2
theorem zkt {l:List zj} (hl:l.length≤4294967296) {κ:List zj→Prop} (h:κ l):ug l κ:=by
 unfold ug
 refine ⟨fun _=>jG (jn (by simpa using hl) h),fun e=>?_⟩
 subst e
 exact ⟨jq h,jG (jn (by simp) h)⟩
theorem ziJ {l:List zj} {i:Nat} (h:i+2≤l.length) {κ:List zj→Prop} (hκ:κ (l.take (i+1)++l.drop (i+2))):x8 l ((i:Int)+1) ((i:Int)+2) κ:=by
 refine ⟨by omega,by omega,by omega,?_⟩
 rw [show ((i:Int)+1).toNat=i+1 by omega,show ((i:Int)+2).toNat=i+2 by omega]
 exact hκ
theorem zkC {l:List zj} {i:Nat} (h:i+1<l.length) (z:zj):(l.set i z).take (i+1)++(l.set i z).drop (i+2)=Uz l i z:=by
 unfold Uz
 rw [List.take_succ_eq_append_getElem (by simp;omega),List.take_set_of_le (by omega),List.drop_set_of_lt (by omega)]
 simp
theorem zii {l:List zj} {i j:Nat} {z:zj} (h:i+1<l.length) (hj:j+1<i):pmA (Uz l i z) j=pmA l j:=by
 unfold pmA
 have e:∀ m,m<i→(Uz l i z)[m]?=l[m]?:=fun m hm=>by
  unfold Uz
  rw [List.append_assoc,List.getElem?_append_left (by rw [List.length_take];omega),List.getElem?_take,if_pos hm]
 rw [e j (by omega),e (j+1) hj]
theorem zb6 {l:List zj} (hl:l.length≤100000) (hv:IV l) {κ:List zj→Prop} (h:κ (mgF l)):yz l κ:=by
 unfold yz
 refine zkt (by omega) ?_
 refine ye (fun (s:List zj×Int)=>∃ i:Nat,s.2=(i:Int)∧i≤s.1.length∧s.1.length≤100000∧IV s.1∧(∀ j,j<i→pmA s.1 j=none)∧mgF s.1=mgF l) (fun s=>2 * s.1.length - s.2.toNat) ?_ ⟨0,rfl,by omega,hl,hv,fun j hj=>by omega,rfl⟩
 rintro ⟨xs,_⟩ next ⟨i,rfl,hi,hxl,hxv,hno,hm⟩ hn
 simp only at hi hxl hxv hno hm hn
 refine zC (by omega) (by omega) (zp (fun hc=>?_) (fun hc=>?_))
 ·have hlt:i+1<xs.length:=by have:=of_decide_eq_true hc;omega
  have hxi:=hxv _ (List.getElem_mem (show i<xs.length by omega))
  have hxj:=hxv _ (List.getElem_mem hlt)
  have hpm:=zdg hlt
  have w64e:w64 ((i:Int)+1)=((i+1:Nat):Int):=by rw [ziA (by omega) (by omega)];omega
  have stepNo:pmA xs i=none→jz (i:Int) 1 (fun t153=>next (xs,t153)):=fun q=>zC (by omega) (by omega) (hn _ ⟨i+1,by simp,by simp only;omega,hxl,hxv,fun j hj=>by
   by_cases e:j=i
   ·subst e;exact q
   ·exact hno j (by omega),hm⟩ (by simp only;omega))
  have stepYes:∀ w:za,pmA xs i=some ⟨w,xs[i].xAccept⟩→zB xs (i:Int) (fun e174=>jz (i:Int) 1 (fun t189=>jz (i:Int) 2 (fun t190=>x8 (xs.set ((i:Int)).toNat (zj.mk w e174.xAccept)) t189 t190 (fun r191=>Yi (i:Int) 1 (fun t194=>next (r191,(max t194 0))))))):=fun w q=>by
   refine zr i rfl (by omega) (zC (by omega) (by omega) (zC (by omega) (by omega) ?_))
   rw [Int.toNat_natCast]
   refine ziJ (by rw [List.length_set];omega) ?_
   rw [zkC hlt]
   have hml:=zaK (l:=xs) (k:=i) (z:=⟨w,xs[i].xAccept⟩) hlt
   refine yC (by omega) (by omega) (hn _ ⟨i - 1,by simp only;omega,by simp only;omega,by simp only;omega,zbR hxv q,fun j hj=>?_,?_⟩ (by simp only;omega))
   ·rw [zii hlt (by omega)];exact hno j (by omega)
   ·rw [← zgK hno q];exact hm
  refine jW (zr i rfl (by omega) (zC (by omega) (by omega) (zr (i+1) (by omega) hlt (zp (fun e=>?_) (fun e=>?_)))))
  ·have ea:xs[i].xAccept=xs[i+1].xAccept:=of_decide_eq_true e
   unfold pm at hpm
   rw [if_pos ea] at hpm
   rw [w64e]
   refine jW (zr i rfl (by omega) (zr (i+1) rfl hlt (zfB hxi hxj ?_)))
   cases em:mg xs[i].xWhere xs[i+1].xWhere with
   | none =>
    rw [em] at hpm
    exact jq (stepNo hpm)
   | some w =>
    rw [em] at hpm
    exact jG ⟨w.x0,w.x1,w.x2,w.x3,rfl,stepYes w hpm⟩
  ·have ea:¬ xs[i].xAccept=xs[i+1].xAccept:=of_decide_eq_false e
   unfold pm at hpm
   rw [if_neg ea] at hpm
   exact jq (stepNo hpm)
 ·have hge:xs.length≤i+1:=by have:=of_decide_eq_false hc;omega
  have:mgF xs=xs:=zgk (fun j=>by
   by_cases e:j<i
   ·exact hno j e
   ·exact zjF (by omega))
  rw [← hm,this] at h
  exact h
def trN (l:List zj) (rest:Bool):Nat→Nat
 | 0=>0
 | n+1=>if (match l[n]? with | some f=>decide (f.xAccept=rest) | none=>false) then trN l rest n else n+1
def trF (l:List zj) (rest:Bool):List zj:=l.take (trN l rest l.length)
theorem zkr (l:List zj) (rest:Bool):(trF l rest).length≤l.length:=by unfold trF;rw [List.length_take];omega
theorem zlJ {l:List zj} {rest:Bool} (h:IV l):IV (trF l rest):=fun f hf=>h f (List.mem_of_mem_take hf)
theorem zh9 {l:List zj} {rest:Bool} (hl:l.length≤100000) {κ:List zj→Prop} (h:κ (trF l rest)):YU l rest κ:=by
 unfold YU
 refine ye (fun (s:Int)=>∃ n:Nat,s=(n:Int)∧n≤l.length∧trN l rest l.length=trN l rest n) (fun s=>s.toNat) ?_ ⟨l.length,rfl,Nat.le_refl _,rfl⟩
 rintro _ next ⟨n,rfl,hn',he⟩ hnx
 have fin:trN l rest n=n→yY l 0 (n:Int) (fun xs73=>κ xs73):=fun q=>by
  refine ⟨by omega,by omega,by omega,?_⟩
  unfold trF at h
  rw [he,q] at h
  simpa using h
 refine jW (zp (fun e=>?_) (fun e=>jG (fin ?_)))
 ·have hpos:0<n:=by have:=of_decide_eq_true e;omega
  obtain ⟨m,rfl⟩:∃ m,n=m+1:=⟨n - 1,by omega⟩
  have hlt:m<l.length:=by omega
  have em:((m+1:Nat):Int) - 1=(m:Int):=by omega
  refine yC (by omega) (by omega) ?_
  rw [em]
  refine zr m rfl hlt (zp (fun e2=>?_) (fun e2=>fin ?_))
  ·have e2':l[m].xAccept=rest:=of_decide_eq_true e2
   refine yC (by omega) (by omega) (hnx _ ⟨m,by omega,by omega,?_⟩ (by omega))
   rw [he]
   conv=>lhs;unfold trN
   rw [List.getElem?_eq_getElem hlt]
   simp [e2']
  ·have e2':¬ l[m].xAccept=rest:=of_decide_eq_false e2
   unfold trN
   rw [List.getElem?_eq_getElem hlt]
   simp [e2']
 ·have:n=0:=by have:=of_decide_eq_false e;omega
  subst this;rfl
def sh1 (l:List zj) (rest:Bool):List zj:=trF (mgF (wdF l)) rest
theorem zat {l:List zj} {rest:Bool} (h:IV l):IV (sh1 l rest):=zlJ (ziY (zao h))
theorem UE {l:List zj} {rest:Bool} (h:IV l):(sh1 l rest).length≤l.length:=Nat.le_trans (zkr _ _) (Nat.le_trans (zfS (zao h)) (zfW l))
def shN (rest:Bool):Nat→List zj→List zj
 | 0,l=>sh1 l rest
 | n+1,l=>if (sh1 l rest).length=l.length then sh1 l rest else shN rest n (sh1 l rest)
def shF (l:List zj) (rest:Bool):List zj:=shN rest l.length l
theorem zg6 {rest:Bool}:∀ {n:Nat} {l:List zj},IV l→IV (shN rest n l)∧(shN rest n l).length≤l.length
 | 0,l,h=>⟨zat h,UE h⟩
 | n+1,l,h=>by
  unfold shN
  split
  ·exact ⟨zat h,UE h⟩
  ·have:=zg6 (rest:=rest) (n:=n) (zat (rest:=rest) h)
   exact ⟨this.1,Nat.le_trans this.2 (UE h)⟩
theorem zlS {l:List zj} {rest:Bool} (h:IV l):IV (shF l rest):=(zg6 h).1
theorem zkm {l:List zj} {rest:Bool} (h:IV l):(shF l rest).length≤l.length:=(zg6 h).2
theorem zgq {rest:Bool}:∀ {n m:Nat} {l:List zj},IV l→l.length≤n→l.length≤m→shN rest n l=shN rest m l
 | 0,0,l,_,_,_=>rfl
 | 0,m+1,l,h,h1,h2=>by
  have:=UE (rest:=rest) h
  unfold shN
  rw [if_pos (by omega)]
 | n+1,0,l,h,h1,h2=>by
  have:=UE (rest:=rest) h
  conv=>lhs;unfold shN
  rw [if_pos (by omega)]
  rfl
 | n+1,m+1,l,h,h1,h2=>by
  have:=UE (rest:=rest) h
  conv=>lhs;unfold shN
  conv=>rhs;unfold shN
  split
  ·rfl
  ·exact zgq (zat h) (by omega) (by omega)
theorem zhG {l:List zj} {rest:Bool} (h:IV l):shF l rest=if (sh1 l rest).length=l.length then sh1 l rest else shF (sh1 l rest) rest:=by
 have:=UE (rest:=rest) h
 unfold shF
 cases e:l.length with
 | zero =>
  rw [e] at this
  rw [if_pos (by omega)];rfl
 | succ n =>
  conv=>lhs;unfold shN
  rw [e]
  split
  ·rfl
  ·exact zgq (zat h) (by omega) (Nat.le_refl _)
theorem zfb {l:List zj} {rest:Bool} (hl:l.length≤100000) (hv:IV l) {κ:List zj→Prop} (h:κ (shF l rest)):Xp l rest κ:=by
 unfold Xp
 refine ye (fun (s:List zj)=>s.length≤100000∧IV s∧shF s rest=shF l rest) (fun s=>s.length) ?_ ⟨hl,hv,rfl⟩
 rintro xs next ⟨hx,hxv,he⟩ hn
 have w1:=zfW xs
 have w2:=zfS (zao hxv)
 have w3:=UE (rest:=rest) hxv
 refine zex hx hxv (zb6 (by omega) (zao hxv) (zh9 (by omega) ?_))
 have hf:=zhG (rest:=rest) hxv
 refine zp (fun e=>?_) (fun e=>?_)
 ·have e':((sh1 xs rest).length:Int)=(xs.length:Int):=of_decide_eq_true e
  rw [if_pos (by omega)] at hf
  rw [← he,hf] at h;exact h
 ·have e':¬ ((sh1 xs rest).length:Int)=(xs.length:Int):=of_decide_eq_false e
  rw [if_neg (by omega)] at hf
  exact hn (sh1 xs rest) ⟨by omega,zat hxv,by rw [← hf];exact he⟩ (by omega)
noncomputable def cf (s:zR):Option (List zj):=(uf s).map (fun l=>shF l s.xAccept)
theorem zkQ {s:zR} (h:SV s) {l:List zj} (he:cf s=some l):IV l∧l.length≤60:=by
 unfold cf at he
 cases e:uf s with
 | none=>rw [e] at he;cases he
 | some u =>
  rw [e] at he
  simp only [Option.map_some,Option.some.injEq] at he
  subst he
  obtain ⟨u1,u2⟩:=zho h e
  exact ⟨zlS u1,Nat.le_trans (zkm u1) u2⟩
theorem zad {s:zR} (hb:Bd s) {κ:List zj×Bool→Prop} (h1:SV s→∀ l,cf s=some l→κ (l,true)) (h2:(SV s→cf s=none)→κ ([],false)):uG s κ:=by
 unfold uG
 refine zaS hb (fun b hbv=>zp (fun e=>h2 (fun q=>?_)) (fun e=>?_))
 ·rw [hbv.2 q] at e;cases e
 have hv:SV s:=hbv.1 (by simpa using e)
 refine zeD hv (fun l hl=>jG ?_) (fun hn l=>jq (h2 (fun _=>by unfold cf;rw [hn];rfl)))
 obtain ⟨u1,u2⟩:=zho hv hl
 exact zfb (by omega) u1 (h1 hv _ (by unfold cf;rw [hl];rfl))
theorem zd1 {s:zR} (hb:Bd s) {κ:List zJ×Bool→Prop} (h1:SV s→∀ l,cf s=some l→κ (l.map gf,true)) (h2:(SV s→cf s=none)→κ ([],false)):Xz s κ:=by
 unfold Xz
 refine zad hb (fun hv l hl=>jG ?_) (fun q=>jq (h2 q))
 obtain ⟨u1,u2⟩:=zkQ hv hl
 exact zgS (by omega) u1 (h1 hv l hl)
end
section
open Go Go.Proofs
def zmF:Option (List za)→List jd×Bool
 | some l=>(l.map bx,true)
 | none=>([],false)
theorem zid {a:za} {bs:List za} (ha:B4 a) (hb:aB bs) (hl:bs.length≤100000) {κ:List jd×Bool→Prop} (h:κ (zmF (YD a bs))):YQ (bx a) (bs.map bx) κ:=by
 unfold YQ
 have start:∀ l0:List za,YD a bs=lgo l0 bs→aB l0→l0.length≤400→jy (fun (nx88:((List jd)×Int)→Prop) ((xs84,t87):((List jd)×Int))=>ifW (decide (t87<((bs.map bx).length:Int))) (jy (fun (nx97:((List jd)×Int)→Prop) ((xs93,t96):((List jd)×Int))=>ifW (decide (t96<(xs84.length:Int))) (zB xs84 t96 (fun e98=>zB (bs.map bx) t87 (fun e100=>yE e98 e100 (fun r112=>jw xs93 r112 (fun _=>jz t96 1 (fun t117=>nx97 ((xs93++r112),t117))))))) (xE xs93 (fun r118=>ifW (!r118) (κ ([],false)) (jz t87 1 (fun t122=>nx88 (xs93,t122)))))) ([],0)) (κ (xs84,true))) (l0.map bx,0):=by
  intro l0 h0 hB0 hl0
  refine z6 bs.length (fun s=>s.2) (fun k (s:List jd×Int)=>s.2=(k:Int)∧k≤bs.length∧∃ left,s.1=left.map bx∧aB left∧left.length≤400∧YD a bs=lgo left (bs.drop k)) (fun k s h=>h.1) (fun k s h=>h.2.1) ?_ ⟨rfl,by omega,l0,rfl,hB0,hl0,h0⟩
  rintro k ⟨_,_⟩ next ⟨rfl,hk,left,hx,hB,hll,he⟩ hn
  simp only at hx
  subst hx
  refine zp (fun hc=>?_) (fun hc=>?_)
  rotate_left
  ·have hge:bs.length≤k:=by simpa using hc
   rw [he,List.drop_of_length_le hge] at h
   exact h
  have hlt:k<bs.length:=by simpa using hc
  rw [List.drop_eq_getElem_cons hlt] at he
  have hbk:=hb _ (List.getElem_mem hlt)
  refine z6 left.length (fun s=>s.2) (fun j (s:List jd×Int)=>s.2=(j:Int)∧j≤left.length∧s.1=(xP (left.take j) bs[k]).map bx) (fun k s h=>h.1) (fun k s h=>h.2.1) ?_ ⟨rfl,by omega,by simp [xP]⟩
  rintro j ⟨_,_⟩ next2 ⟨rfl,hj,hx⟩ hn2
  simp only at hx
  subst hx
  have hsl:=VC (left.take j) bs[k]
  rw [List.length_take] at hsl
  refine zp (fun hc2=>?_) (fun hc2=>?_)
  ·have hjl:j<left.length:=by simpa using hc2
   refine zr j rfl (by simpa using hjl) (zr k rfl (by simpa using hlt) ?_)
   rw [List.getElem_map,List.getElem_map]
   have hcl:=zar left[j] bs[k]
   refine zdK (hB _ (List.getElem_mem hjl)) hbk (jn (by simp only [List.length_map];omega) (zC (by omega) (by omega) (hn2 hjl _ ⟨by simp,by omega,?_⟩)))
   rw [List.take_succ_eq_append_getElem hjl,Z9,YA,List.map_append]
  ·have hjge:left.length≤j:=by simpa using hc2
   rw [List.take_of_length_le hjge] at hsl ⊢
   unfold lgo at he
   refine ZM (UF hB hbk) (by omega) (fun ok=>?_) (fun no=>?_)
   ·rw [if_pos ok] at he
    exact jG (zC (by omega) (by omega) (hn hlt _ ⟨by simp,by omega,xP left bs[k],rfl,UF hB hbk,ok.2,he⟩))
   ·rw [if_neg no] at he
    rw [he] at h
    exact jq h
 refine jW (VN (zp (fun e=>?_) (fun e=>?_)))
 ·refine jn (by simp) (start [a] ?_ (fun c hc=>by rw [List.mem_singleton] at hc;subst hc;exact ha) (by simp))
  unfold YD;rw [if_neg (by simpa using e)]
 ·refine start [] ?_ zdh (by simp)
  unfold YD;rw [if_pos (by simpa using e),zfC]
theorem zcA {l:List zj} (hv:IV l) (hl:l.length≤60) {κ:List jd→Prop} (h:κ ((whs l).map bx)):XW (l.map gf) κ:=by
 have hF:=zeX hv hl
 unfold XW
 refine Z4 hF.fb ?_
 refine z6 l.length (fun s=>s.2) (fun k (s:List jd×Int)=>s.2=(k:Int)∧k≤l.length∧s.1=(whs (l.take k)).map bx) (fun k s h=>h.1) (fun k s h=>h.2.1) ?_ ⟨rfl,by omega,rfl⟩
 rintro k ⟨_,_⟩ next ⟨rfl,hk,hx⟩ hn
 simp only at hx
 subst hx
 refine jW (zp (fun hc=>?_) (fun hc=>jG ?_))
 ·have hlt:k<l.length:=by simpa using hc
  refine Zm hF.fb ?_
  rw [decide_eq_true hF]
  refine jq (zr k rfl (by simpa using hlt) ?_)
  rw [List.getElem_map]
  refine jn (by simp [whs];omega) (zC (by omega) (by omega) (hn hlt _ ⟨by simp,by omega,?_⟩))
  simp only [whs,List.take_succ_eq_append_getElem hlt,List.map_append]
  rfl
 ·have hge:l.length≤k:=by simpa using hc
  rw [List.take_of_length_le hge];exact h
theorem zh8 {l:List zj} (hv:IV l) (hl:l.length≤60) {k:Nat} (hk:k<l.length) {κ:Bool→Prop} (h:κ (dd l k)):Y2 (l.map gf) k κ:=by
 unfold Y2
 refine zr k rfl (by simpa using hk) ?_
 rw [List.getElem_map]
 refine ⟨by omega,by omega,by simp;omega,?_⟩
 have e:((l.map gf).take (k:Int).toNat).drop (0:Int).toNat=(l.take k).map gf:=by simp [List.map_take]
 rw [e]
 refine zcA (hv.take k) (by rw [List.length_take];omega) ?_
 have hk2:=hv _ (List.getElem_mem hk)
 refine zid hk2.1 (hv.take k).aB (by unfold whs;simp;omega) ?_
 have hd:=zjK hk
 unfold zgo at hd
 cases hlr:YD l[k].xWhere (whs (l.take k)) with
 | none =>
  rw [hlr] at hd
  have:dd l k=false:=by rw [hd];simp
  rw [this] at h
  exact jW (jG h)
 | some r =>
  rw [hlr] at hd
  refine jW (jq ?_)
  have e2:decide (((r.map bx).length:Int)=0)=dd l k:=by
   rw [hd]
   refine decide_eq_decide.2 ⟨fun q=>?_,fun q=>?_⟩
   ·rw [List.length_eq_zero_iff.1 (show r.length=0 by simp only [List.length_map] at q;omega)]
   ·injection q with q;subst q;rfl
  rw [e2];exact h
theorem zg2 {l:List zj} (hv:IV l) (hl:l.length≤60) {κ:List zJ→Prop} (h:κ ((wdF l).map gf)):Yo (l.map gf) κ:=by
 have hF:=zeX hv hl
 unfold Yo
 refine Z4 hF.fb ?_
 refine z6 l.length (fun s=>s.2.2) (fun k (s:List zJ×List zJ×Int)=>s.2.2=(k:Int)∧k≤l.length∧s.1=l.map gf∧s.2.1=(wdN l k).map gf) (fun k s h=>h.1) (fun k s h=>h.2.1) ?_ ⟨rfl,by omega,rfl,rfl⟩
 rintro k ⟨_,_,_⟩ next ⟨rfl,hk,hx,hy⟩ hn
 simp only at hx hy
 subst hx hy
 have hwl:=(zbk l k).1
 refine jW (zp (fun hc=>?_) (fun hc=>jG ?_))
 ·have hlt:k<l.length:=by simpa using hc
  refine Zm hF.fb ?_
  rw [decide_eq_true hF]
  refine jq (jW (zh8 hv hl hlt (zp (fun e=>?_) (fun e=>?_))))
  ·have hd:dd l k=false:=by simpa using e
   refine zr k rfl (by simpa using hlt) ?_
   rw [List.getElem_map]
   refine jn (by simp;omega) (zC (by omega) (by omega) (hn hlt _ ⟨by simp,by omega,rfl,?_⟩))
   rw [zgO hlt hd,List.map_append];rfl
  ·have hd:dd l k=true:=by simpa using e
   refine zC (by omega) (by omega) (hn hlt _ ⟨by simp,by omega,rfl,?_⟩)
   rw [zfu hlt hd]
 ·have hge:l.length≤k:=by simpa using hc
  have:k=l.length:=by omega
  subst this
  exact h
theorem Vv {a b:za} (ha:B4 a∧F4 a) (hb:B4 b∧F4 b) {κ:Bool→Prop} (h:κ (in4 a b)):ZK (bx a) (bx b) κ:=by
 unfold ZK
 have va:BV (bx a):=zdl.2 ha
 have vb:BV (bx b):=zdl.2 hb
 refine jW (Zb va.bb ?_)
 rw [decide_eq_true va]
 refine jq (Zb vb.bb ?_)
 rw [decide_eq_true vb]
 refine jq (zdK ha.1 hb.1 ?_)
 have e:decide ((((XV a b).map bx).length:Int)=0)=in4 a b:=by
  have:=zfk ha.1 hb.1
  cases hi:in4 a b with
  | true=>rw [this.2 hi];rfl
  | false =>
   refine decide_eq_false (fun q=>?_)
   have:XV a b=[]:=List.length_eq_zero_iff.1 (by simp only [List.length_map] at q;omega)
   rw [(zfk ha.1 hb.1).1 this] at hi;cases hi
 rw [e];exact h
theorem zit {a b:List ze} (hl:a.length≤4294967296) {κ:Bool→Prop} (h:κ (decide (a=b))):YM a b κ:=by
 unfold YM
 by_cases hab:a.length=b.length
 ·refine zp (fun e=>by simp [hab] at e) (fun _=>?_)
  exact zhy a b hab hl (fun x y A=>ifW (!(decide (x=y))) (κ false) A) (fun x y A h1 h2=>zp (fun e=>h2 (by simpa using e)) (fun e=>h1 (by simpa using e))) h _ (fun nx t hh=>hh)
 ·rw [decide_eq_false (fun q=>hab (by rw [q]))] at h
  exact zp (fun _=>h) (fun e=>by simp at e;omega)
theorem zbX {a b:List ze} {tp:Int} (h0:0≤tp) (h1:tp≤65535) (ha:SpV a tp) (hb:SpV b tp) {κ:List ze→Prop} (h:κ (if (XG a b).length≤40 then XG a b else [])):Xn a b tp κ:=by
 unfold Xn
 have la:=ha.1
 have lb:=hb.1
 refine jW (Y3 (by omega) h0 h1 ?_)
 rw [decide_eq_true ha]
 refine jG (Y3 (by omega) h0 h1 ?_)
 rw [decide_eq_true hb]
 refine jG (jn (by simp;omega) ?_)
 have stp:∀ k,St ((b.take k).foldl zbA a) tp:=fun k=>zcn ha.2 ⟨⟨fun s hs=>hb.2.1.1 s (List.mem_of_mem_take hs),hb.2.1.2.sublist (List.take_sublist _ _)⟩,fun s hs=>hb.2.2 s (List.mem_of_mem_take hs)⟩
 refine z6 b.length (fun s=>s.2) (fun k (s:List ze×Int)=>s.2=(k:Int)∧k≤b.length∧s.1=(b.take k).foldl zbA a) (fun k s h=>h.1) (fun k s h=>h.2.1) ?_ ⟨rfl,by omega,by simp⟩
 rintro k ⟨_,_⟩ next ⟨rfl,hk,hx⟩ hn
 simp only at hx
 subst hx
 have hln:=zcK (b.take k) a
 rw [List.length_take] at hln
 refine zp (fun hc=>?_) (fun hc=>?_)
 ·have hlt:k<b.length:=by simpa using hc
  have hs:=hb.2.2 _ (List.getElem_mem hlt)
  have hs2:=hb.2.1.1 _ (List.getElem_mem hlt)
  refine zr k rfl hlt (zkh (by omega) (fun s hs'=>?_) ?_ (zC (by omega) (by omega) (hn hlt _ ⟨by simp,by omega,?_⟩)))
  ·have q1:=(stp k).2 s hs'
   have q2:=(stp k).1.1 s hs'
   unfold Sm;omega
  ·unfold Sm;omega
  ·rw [List.take_succ_eq_append_getElem hlt,List.foldl_append];rfl
 ·have hge:b.length≤k:=by simpa using hc
  rw [List.take_of_length_le hge]
  refine zp (fun e=>?_) (fun e=>?_)
  ·have:¬ (XG a b).length≤40:=by have:=of_decide_eq_true e;unfold XG;omega
   rw [if_neg this] at h;exact h
  ·have:(XG a b).length≤40:=by have:=of_decide_eq_false e;unfold XG;omega
   rw [if_pos this] at h;exact h
def msp:Option za→jd×Bool
 | some x=>(bx x,true)
 | none=>(⟨[]⟩,false)
theorem ziZ {a b:za} (h:∀ n:Nat,n<4→xG a n=xG b n):a=b:=by
 have h0:a.x0=b.x0:=h 0 (by decide)
 have h1:a.x1=b.x1:=h 1 (by decide)
 have h2:a.x2=b.x2:=h 2 (by decide)
 have h3:a.x3=b.x3:=h 3 (by decide)
 obtain ⟨a0,a1,a2,a3⟩:=a
 obtain ⟨b0,b1,b2,b3⟩:=b
 simp only at h0 h1 h2 h3
 subst h0 h1 h2 h3
 rfl
theorem zkd {a b:za} (ha:B4 a) (h:in4 a b=false):zaU a b≠[]:=fun e=>by
 have:a=b:=ziZ (fun n hn=>by
  by_cases q:xG a n=xG b n
  ·exact q
  ·have:n∈zaU a b:=List.mem_filter.2 ⟨by simpa using hn,by simpa using q⟩
   rw [e] at this;simp at this)
 subst this
 rw [zjk ha] at h;cases h
theorem zlG {a b:za} {tp:Int} {n:Nat} (ha:St (xG a n) tp) (hb:St (xG b n) tp) (h:xG a n≠xG b n):uni a b n≠[]:=fun e=>by
 have hh:=fun x=>zaN ha hb x
 unfold uni at e
 rw [e] at hh
 have na:xG a n=[]:=by
  cases q:xG a n with
  | nil=>rfl
  | cons s r =>
   have:=(Va ha.1 (show s∈xG a n by rw [q];simp)).1
   exact absurd ((hh _).2 (.inl this)) (uP _)
 have nb:xG b n=[]:=by
  cases q:xG b n with
  | nil=>rfl
  | cons s r =>
   have:=(Va hb.1 (show s∈xG b n by rw [q];simp)).1
   exact absurd ((hh _).2 (.inr this)) (uP _)
 exact h (by rw [na,nb])
theorem zby {a b:za} (ha:B4 a∧F4 a) (hb:B4 b∧F4 b) {κ:jd×Bool→Prop} (h:κ (msp (mg a b))):Zf (bx a) (bx b) κ:=by
 unfold Zf
 unfold mg at h
 have va:BV (bx a):=zdl.2 ha
 have vb:BV (bx b):=zdl.2 hb
 refine jW (Zb va.bb ?_)
 rw [decide_eq_true va]
 refine jG (Zb vb.bb ?_)
 rw [decide_eq_true vb]
 refine jG (Vv ha hb (zp (fun e=>?_) (fun e=>Vv hb ha (zp (fun e2=>?_) (fun e2=>?_)))))
 ·rw [if_pos e] at h;exact za9 vb.bb h
 ·rw [if_neg (by simp [e]),if_pos e2] at h;exact za9 va.bb h
 rw [if_neg (by simp [e]),if_neg (by simp [e2])] at h
 have hne:=zkd ha.1 e
 have two:∀ {k:Nat},k<4→UN a b k≠[]→xG a k≠xG b k→κ (⟨[]⟩,false):=fun {k} hk q1 q2=>by
  have hm:zaU a b=UN a b 4:=rfl
  have:2≤(zaU a b).length:=by
   have h1:(UN a b (k+1)).length≤(zaU a b).length:=by
    rw [hm];unfold UN
    exact (List.Sublist.filter _ (List.range_sublist.2 (by omega))).length_le
   rw [Yx,if_pos q2,List.length_append] at h1
   have:=List.length_pos_iff.2 q1
   simp at h1;omega
  split at h
  ·rename_i n hn;rw [hn] at this;simp at this
  ·exact h
 refine z6 4 (fun s=>s.2) (fun k (s:Int×Int)=>s.2=(k:Int)∧k≤4∧((UN a b k=[]∧s.1=-1)∨∃ n:Nat,UN a b k=[n]∧s.1=n)) (fun k s h=>h.1) (fun k s h=>h.2.1) ?_ ⟨rfl,by omega,.inl ⟨rfl,rfl⟩⟩
 rintro k ⟨f,_⟩ next ⟨rfl,hk,hf⟩ hn
 simp only at hf
 refine zp (fun hc=>?_) (fun hc=>?_)
 ·have hlt:k<4:=by
   have:(k:Int)<4:=of_decide_eq_true hc
   omega
  have k0:(0:Int)≤k:=by omega
  have k3:(k:Int)≤3:=by omega
  refine jW (yJ (a:=a) k0 k3 (yJ (a:=b) k0 k3 (zit (by have:=zgg.1 ha.2 k k0 k3;omega) (zp (fun e=>?_) (fun e=>?_)))))
  ·have hd:xG a k≠xG b k:=by simpa using e
   rcases hf with ⟨q1,rfl⟩ | ⟨n,q1,rfl⟩
   ·refine zp (fun e=>by simp at e) (fun _=>zC (by omega) (by omega) (hn hlt _ ⟨by simp,by omega,.inr ⟨k,?_,rfl⟩⟩))
    rw [Yx,if_pos hd,q1];rfl
   ·exact zp (fun _=>two hlt (by rw [q1];simp) hd) (fun e=>by simp at e)
  ·have hd:¬ xG a k≠xG b k:=by simpa using e
   refine zC (by omega) (by omega) (hn hlt _ ⟨by simp,by omega,?_⟩)
   rw [Yx,if_neg hd,List.append_nil];exact hf
 ·have hge:k=4:=by
   have:¬ (k:Int)<4:=of_decide_eq_false hc
   omega
  subst hge
  have ed:UN a b 4=zaU a b:=rfl
  rw [ed] at hf
  rcases hf with ⟨q1,_⟩ | ⟨n,q1,rfl⟩
  ·exact absurd q1 hne
  rw [q1] at h
  obtain ⟨h4,hd⟩:=zc9 q1
  have k0:(0:Int)≤n:=by omega
  have k3:(n:Int)≤3:=by omega
  have tl:=UM n
  have sa:=ZV ha.1 k0 k3
  have sb:=ZV hb.1 k0 k3
  have spa:SpV (xG a n) (top n):=⟨zgg.1 ha.2 _ k0 k3,sa⟩
  have spb:SpV (xG b n) (top n):=⟨zgg.1 hb.2 _ k0 k3,sb⟩
  refine yu (l:=L4 a) (by simp [L4]) (za7 ha.1) (yJ (a:=a) k0 k3 (yJ (a:=b) k0 k3 (xO k0 k3 (zbX (by omega) (by omega) spa spb (yJ (a:=a) k0 k3 ?_)))))
  have hset:∀ x,(L4 a).set ((n:Int)).toNat x=L4 (YH a n x):=fun x=>U6 k0 k3
  have hget:∀ x,xG (YH a n x) n=x:=fun x=>by rcases zd6 k0 k3 with q | q | q | q <;> rw [q] <;> rfl
  simp only at h
  by_cases hl:(uni a b n).length≤40
  ·rw [if_pos hl] at h
   have hl':(XG (xG a n) (xG b n)).length≤40:=hl
   rw [if_pos hl',hset]
   refine yJ (a:=YH a n (XG (xG a n) (xG b n))) k0 k3 ?_
   rw [hget]
   refine zp (fun e=>?_) (fun _=>h)
   have:=of_decide_eq_true e
   exact absurd (List.length_eq_zero_iff.1 (show (uni a b n).length=0 by unfold uni;omega)) (zlG sa sb hd)
  ·rw [if_neg hl] at h
   have hl':¬ (XG (xG a n) (xG b n)).length≤40:=hl
   rw [if_neg hl',hset]
   refine yJ (a:=YH a n []) k0 k3 ?_
   rw [hget]
   exact jq h
def ppr:Option (Nat×zj)→Int×zJ
 | some (k,z)=>(k,gf z)
 | none=>(-1,⟨⟨[]⟩,false⟩)
theorem ziq {l:List zj} (hv:IV l) (hl:l.length≤60) {κ:Int×zJ→Prop} (h:κ (ppr (fp l))):YT (l.map gf) κ:=by
 unfold YT
 refine z6 (l.length+1) (fun s=>s) (fun k s=>s=(k:Int)∧k≤l.length+1∧∀ j,j<k→pmA l j=none) (fun k s h=>h.1) (fun k s h=>h.2.1) ?_ ⟨rfl,by omega,fun j hj=>by omega⟩
 rintro k _ next ⟨rfl,hk,hno⟩ hn
 refine zC (by omega) (by omega) (zp (fun hc=>?_) (fun hc=>?_))
 ·have hlt:k+1<l.length:=by have:=of_decide_eq_true hc;simp only [List.length_map] at this;omega
  have hpm:=zdg hlt
  have w64e:w64 ((k:Int)+1)=((k+1:Nat):Int):=by rw [ziA (by omega) (by omega)];omega
  have stepNo:pmA l k=none→jz (k:Int) 1 (fun t110=>next t110):=fun q=>zC (by omega) (by omega) (hn (by omega) _ ⟨by simp,by omega,fun j hj=>by
   by_cases e:j=k
   ·subst e;exact q
   ·exact hno j (by omega)⟩)
  have ix:∀ (m:Nat) (hm:m<l.length) (K:zJ→Prop),K (gf l[m])→zB (l.map gf) (m:Int) K:=fun m hm K hK=>zr m rfl (by simpa using hm) (by rw [List.getElem_map];exact hK)
  refine jW (ix k (by omega) _ ?_)
  rw [w64e]
  refine ix (k+1) hlt _ (zby (hv _ (List.getElem_mem (by omega))) (hv _ (List.getElem_mem hlt)) ?_)
  unfold pm at hpm
  cases em:mg l[k].xWhere l[k+1].xWhere with
  | none =>
   rw [em] at hpm
   refine jW (jG (jG (stepNo ?_)))
   rw [hpm];split <;> rfl
  | some w =>
   rw [em] at hpm
   refine jW (jq (ix k (by omega) _ (zC (by omega) (by omega) ?_)))
   have e1:(k:Int)+1=((k+1:Nat):Int):=by omega
   rw [e1]
   refine ix (k+1) hlt _ (zp (fun e=>?_) (fun e=>?_))
   ·have ea:l[k].xAccept=l[k+1].xAccept:=of_decide_eq_true e
    rw [if_pos ea] at hpm
    rw [zc3 hno hpm] at h
    exact ix k (by omega) _ h
   ·have ea:¬ l[k].xAccept=l[k+1].xAccept:=of_decide_eq_false e
    rw [if_neg ea] at hpm
    exact stepNo hpm
 ·have hge:l.length≤k+1:=by have:=of_decide_eq_false hc;simp only [List.length_map] at this;omega
  rw [zhB (fun j=>by
   by_cases e:j<k
   ·exact hno j e
   ·exact zjF (by omega))] at h
  exact h
theorem zhs {l:List zj} {k:Nat} {z:zj} (h:fp l=some (k,z)):pmA l k=some z∧∀ j,j<k→pmA l j=none:=by
 have:∀ n,fpN l n=some (k,z)→pmA l k=some z∧∀ j,j<k→pmA l j=none:=by
  intro n
  induction n with
  | zero=>intro q;cases q
  | succ n ih =>
   intro q
   unfold fpN at q
   cases e2:fpN l n with
   | some r=>rw [e2] at q;simp only [Option.some.injEq] at q;subst q;exact ih e2
   | none =>
    rw [e2] at q
    cases e3:pmA l n with
    | none=>rw [e3] at q;cases q
    | some z' =>
     rw [e3] at q
     simp only [Option.map_some,Option.some.injEq,Prod.mk.injEq] at q
     obtain ⟨rfl,rfl⟩:=q
     refine ⟨e3,fun j hj=>?_⟩
     have key:∀ m,fpN l m=none→∀ j,j<m→pmA l j=none:=by
      intro m
      induction m with
      | zero=>intro _ j hj;omega
      | succ m ih2 =>
       intro q j hj
       unfold fpN at q
       cases e4:fpN l m with
       | some r=>rw [e4] at q;cases q
       | none =>
        rw [e4] at q
        cases e5:pmA l m with
        | some z5=>rw [e5] at q;cases q
        | none =>
         by_cases e6:j=m
         ·subst e6;exact e5
         ·exact ih2 e4 j (by omega)
     exact key _ e2 j hj
 exact this _ h
theorem zmk {l:List zj} (h:fp l=none):∀ j,pmA l j=none:=fun j=>by
 cases e:pmA l j with
 | none=>rfl
 | some z =>
  exfalso
  have:∀ n,n≤j→(∀ i,i<n→pmA l i=none)∨∃ i z,i<n∧pmA l i=some z∧∀ m,m<i→pmA l m=none:=by
   intro n
   induction n with
   | zero=>intro _;exact .inl (fun i hi=>by omega)
   | succ n ih =>
    intro hn
    rcases ih (by omega) with q | ⟨i,z,q1,q2,q3⟩
    ·cases e2:pmA l n with
     | none=>exact .inl (fun i hi=>by
       by_cases e3:i=n
       ·subst e3;exact e2
       ·exact q i (by omega))
     | some z2=>exact .inr ⟨n,z2,by omega,e2,q⟩
    ·exact .inr ⟨i,z,by omega,q2,q3⟩
  rcases this j (Nat.le_refl _) with q | ⟨i,z2,q1,q2,q3⟩
  ·rw [zc3 q e] at h;cases h
  ·rw [zc3 q3 q2] at h;cases h
theorem zfX {l:List zj} (hv:IV l) (hl:l.length≤60) {κ:List zJ→Prop} (h:κ ((mgF l).map gf)):Xi (l.map gf) κ:=by
 have hF:=zeX hv hl
 unfold Xi
 refine Z4 hF.fb (Zm hF.fb ?_)
 rw [decide_eq_true hF]
 refine jG (jn (by simp;omega) ?_)
 refine ye (fun (s:List zJ)=>∃ xs:List zj,s=xs.map gf∧xs.length≤60∧IV xs∧mgF xs=mgF l) (fun s=>s.length) ?_ ⟨l,by simp,hl,hv,rfl⟩
 rintro _ next ⟨xs,rfl,hxl,hxv,he⟩ hn
 refine ziq hxv hxl ?_
 cases hfp:fp xs with
 | none =>
  rw [← he,zgk (zmk hfp)] at h
  exact jq h
 | some kz =>
  obtain ⟨k,z⟩:=kz
  obtain ⟨p1,p2⟩:=zhs hfp
  have hk:=za6 p1
  have hml:=zaK (z:=z) hk
  refine zp (fun e=>by have:(k:Int)<0:=of_decide_eq_true e;omega) (fun _=>zC (by omega) (by omega) ⟨by omega,by simp only [List.length_map];omega,by omega,?_⟩)
  have e1:((xs.map gf).take ((xs.map gf).length:Int).toNat).drop ((k:Int)+2).toNat=(xs.drop (k+2)).map gf:=by
   rw [Int.toNat_natCast,List.take_length,show ((k:Int)+2).toNat=k+2 by omega,List.map_drop]
  have e2:((xs.map gf).take ((k:Int)).toNat).drop (0:Int).toNat=(xs.take k).map gf:=by
   rw [Int.toNat_natCast];simp [List.map_take]
  rw [e1]
  refine jn (by simp;omega) (jW ⟨by omega,by omega,by simp only [List.length_map];omega,?_⟩)
  show jw [] (((xs.map gf).take ((k:Int)).toNat).drop (0:Int).toNat) _
  rw [e2]
  refine jn (by simp;omega) (jn (by simp;omega) (jn (by simp;omega) (hn _ ⟨Uz xs k z,?_,by omega,zbR hxv p1,?_⟩ ?_)))
  ·unfold Uz
   simp only [List.nil_append,List.map_append,List.map_cons,List.map_nil]
  ·rw [← zgK p2 p1];exact he
  ·simp;omega
theorem zhe {l:List zj} {rest:Bool} (hv:IV l) (hl:l.length≤60) {κ:List zJ→Prop} (h:κ ((trF l rest).map gf)):Yr (l.map gf) rest κ:=by
 have hF:=zeX hv hl
 unfold Yr
 refine Z4 hF.fb (Zm hF.fb ?_)
 rw [decide_eq_true hF]
 refine jG ?_
 refine ye (fun (s:Int)=>∃ n:Nat,s=(n:Int)∧n≤l.length∧trN l rest l.length=trN l rest n) (fun s=>s.toNat) ?_ ⟨l.length,by simp,Nat.le_refl _,rfl⟩
 rintro _ next ⟨n,rfl,hn',he⟩ hnx
 have fin:trN l rest n=n→yY (l.map gf) 0 (n:Int) (fun xs84=>jw ([]) xs84 (fun _=>κ (([])++xs84))):=fun q=>by
  refine ⟨by omega,by omega,by simp;omega,?_⟩
  unfold trF at h
  rw [he,q] at h
  have e:((l.map gf).take (n:Int).toNat).drop (0:Int).toNat=(l.take n).map gf:=by simp [List.map_take]
  rw [e]
  exact jn (by simp;omega) h
 refine jW (zp (fun e=>?_) (fun e=>jG (fin ?_)))
 ·have hpos:0<n:=by have:=of_decide_eq_true e;omega
  obtain ⟨m,rfl⟩:∃ m,n=m+1:=⟨n - 1,by omega⟩
  have hlt:m<l.length:=by omega
  have em:((m+1:Nat):Int) - 1=(m:Int):=by omega
  refine yC (by omega) (by omega) ?_
  rw [em]
  refine zr m rfl (by simpa using hlt) ?_
  rw [List.getElem_map]
  refine zp (fun e2=>?_) (fun e2=>fin ?_)
  ·have e2':l[m].xAccept=rest:=of_decide_eq_true e2
   refine yC (by omega) (by omega) (hnx _ ⟨m,by omega,by omega,?_⟩ (by omega))
   rw [he]
   conv=>lhs;unfold trN
   rw [List.getElem?_eq_getElem hlt]
   simp [e2']
  ·have e2':¬ l[m].xAccept=rest:=of_decide_eq_false e2
   unfold trN
   rw [List.getElem?_eq_getElem hlt]
   simp [e2']
 ·have:n=0:=by have:=of_decide_eq_false e;omega
  subst this;rfl
theorem zh3 {l:List zj} {rest:Bool} (hv:IV l) (hl:l.length≤60) {κ:List zJ→Prop} (h:κ ((shF l rest).map gf)):YY (l.map gf) rest κ:=by
 have hF:=zeX hv hl
 unfold YY
 refine Z4 hF.fb (Zm hF.fb ?_)
 rw [decide_eq_true hF]
 refine jG (jn (by simp;omega) ?_)
 refine ye (fun (s:List zJ)=>∃ xs:List zj,s=xs.map gf∧xs.length≤60∧IV xs∧shF xs rest=shF l rest) (fun s=>s.length) ?_ ⟨l,by simp,hl,hv,rfl⟩
 rintro _ next ⟨xs,rfl,hx,hxv,he⟩ hn
 have w1:=zfW xs
 have w2:=zfS (zao hxv)
 have w3:=UE (rest:=rest) hxv
 refine zg2 hxv hx (zfX (zao hxv) (by omega) (zhe (ziY (zao hxv)) (by omega) ?_))
 have hf:=zhG (rest:=rest) hxv
 refine zp (fun e=>?_) (fun e=>?_)
 ·have e':(sh1 xs rest).length=xs.length:=by
   have:=of_decide_eq_true e
   simp only [List.length_map] at this
   have:((sh1 xs rest).length:Int)=(xs.length:Int):=this
   omega
  rw [if_pos e'] at hf
  rw [← he,hf] at h;exact h
 ·have e':¬ (sh1 xs rest).length=xs.length:=by
   have:=of_decide_eq_false e
   simp only [List.length_map] at this
   have:¬ ((sh1 xs rest).length:Int)=(xs.length:Int):=this
   omega
  rw [if_neg e'] at hf
  exact hn ((sh1 xs rest).map gf) ⟨sh1 xs rest,rfl,by omega,zat hxv,by rw [← hf];exact he⟩ (by simp only [List.length_map];omega)
theorem zdF {s:zR} (hb:Bd s) {κ:List zJ×Bool→Prop} (h1:SV s→∀ l,cf s=some l→κ (l.map gf,true)) (h2:(SV s→cf s=none)→κ ([],false)):XE s κ:=by
 unfold XE
 refine zak hb (zeC hb (fun hv l hl=>jG ?_) (fun q=>jq (h2 (fun hv=>by unfold cf;rw [q hv];rfl))))
 obtain ⟨u1,u2⟩:=zho hv hl
 exact zh3 u1 u2 (h1 hv _ (by unfold cf;rw [hl];rfl))
end
section
def Sx1 (l:List ze):Prop:=l.length≤1048576
def Sx2 (l:List (List ze)):Prop:=l.length≤1048576∧∀ x,x∈l→Sx1 x
def Sx3 (f:zJ):Prop:=Sx2 f.xWhere.xSides
def Sx4 (l:List zJ):Prop:=l.length≤1048576∧∀ f,f∈l→Sx3 f
theorem Sx4.fb {l:List zJ} (h:Sx4 l):Fb l:=⟨by have:=h.1;omega,fun f hf=>⟨by have:=(h.2 f hf).1;omega,fun x hx=>by have:x.length≤1048576:=(h.2 f hf).2 x hx;omega⟩⟩
theorem BV.sx {b:jd} (h:BV b):Sx2 b.xSides:=by
 obtain ⟨a,rfl,_,f0,f1,f2,f3⟩:=h
 refine ⟨by simp [bx],fun x hx=>?_⟩
 simp only [bx,List.mem_cons,List.not_mem_nil,or_false] at hx
 unfold Sx1
 rcases hx with rfl | rfl | rfl | rfl <;> omega
theorem FV.sx {l:List zJ} (h:FV l):Sx4 l:=⟨by have:=h.1;omega,fun f hf=>(h.2 f hf).sx⟩
theorem zkx:Sx4 []:=⟨by simp,by simp⟩
end
section
open Go Go.Proofs
def bt1 (n:Nat) (s:List ze):Option (List jk) :=
 match s with
 | [x]=>if x=⟨0,top n⟩ then some [] else some [⟨n,x.xLo,x.xHi,false⟩]
 | [x,y]=>if x.xLo=0∧y.xHi=top n then some [⟨n,x.xHi+1,y.xLo - 1,true⟩] else none
 | _=>none
def btN (a:za):Nat→Option (List jk)
 | 0=>some []
 | k+1=>match btN a k with
  | none=>none
  | some l=>match bt1 k (xG a k) with
   | none=>none
   | some m=>some (l++m)
def btF (a:za):Option (List jk):=if em4 a then none else btN a 4
def zj7:Option (List jk)→List jk×Bool
 | some l=>(l,true)
 | none=>([],false)
theorem zj3 {n:Nat} {s:List ze} {l:List jk} (h:bt1 n s=some l):l.length≤1:=by
 unfold bt1 at h
 split at h
 ·split at h <;> (injection h with h;subst h;simp)
 ·split at h
  ·injection h with h;subst h;simp
  ·cases h
 ·cases h
theorem zde {a:za}:∀ {k:Nat} {l:List jk},btN a k=some l→l.length≤k
 | 0,l,h=>by simp only [btN,Option.some.injEq] at h;subst h;simp
 | k+1,l,h=>by
  unfold btN at h
  split at h
  ·cases h
  ·rename_i l1 h1
   split at h
   ·cases h
   ·rename_i m h2
    injection h with h;subst h
    have:=zde h1
    have:=zj3 h2
    rw [List.length_append];omega
theorem ziU {a:za} {k n:Nat} (h:btN a k=none) (hk:k≤n):btN a n=none:=by
 induction n with
 | zero =>
  obtain rfl:k=0:=by omega
  exact h
 | succ n ih =>
  by_cases e:k=n+1
  ·subst e;exact h
  ·unfold btN;rw [ih (by omega)]
theorem zjg {a:za} {k:Nat} {l:List jk} (h:btN a k=some l):btN a (k+1)=(match bt1 k (xG a k) with | none=>none | some m=>some (l++m)):=by
 conv=>lhs;unfold btN
 rw [h]
theorem zhf {n:Int} {κ:XH→Prop} (h0:0≤n) (h1:n≤3) (h:∀ e:XH,e.xTop=top n→κ e):zB zE n κ:=zhK h0 h1 (fun e _=>h e)
theorem zkz {a:za} (hB:B4 a) {k:Nat} (hlt:k<4) {l:List jk} (hb:btN a k=some l) {tp:Int} (htp:tp=top k) {κ:List jk×Bool→Prop} {nx:List jk×Int→Prop} (hl:l.length≤4)
  (hn:∀ m,btN a (k+1)=some m→nx (m,(k:Int)+1)) (hz:btN a (k+1)=none→κ ([],false)) :
  jnW (fun (xs298:(List jk))=>jz (k:Int) 1 (fun t302=>nx (xs298,t302))) (fun k301=>jnW (fun (t150:Bool)=>ifW t150 (k301 l) (ifW (decide (((xG a k).length:Int)=1)) (zB (xG a k) 0 (fun e152=>zB (xG a k) 0 (fun e154=>jw l ([(jk.mk k e152.xLo e154.xHi false)]) (fun _=>k301 (l++([(jk.mk k e152.xLo e154.xHi false)])))))) (jnW (fun (t224:Bool)=>ifW t224 (zB (xG a k) 0 (fun e226=>jz e226.xHi 1 (fun t228=>zB (xG a k) 1 (fun e229=>Yi e229.xLo 1 (fun t231=>jw l ([(jk.mk k t228 t231 true)]) (fun _=>k301 (l++([(jk.mk k t228 t231 true)])))))))) (κ ([],false))) (fun k225=>ifW (decide (((xG a k).length:Int)=2)) (zB (xG a k) 0 (fun e160=>ifW (decide (e160.xLo=0)) (zB (xG a k) 1 (fun e162=>k225 (decide (e162.xHi=tp)))) (k225 false))) (k225 false))))) (fun k151=>ifW (decide (((xG a k).length:Int)=1)) (zB (xG a k) 0 (fun e88=>k151 (decide (e88=(ze.mk 0 tp))))) (k151 false))):=by
 subst htp
 rw [zjg hb] at hn hz
 have hst:=ZV hB (show (0:Int)≤k by omega) (show (k:Int)≤3 by omega)
 have tl:=UM k
 generalize xG a k=s at *
 have go:∀ ys,nx (ys,(k:Int)+1)→jz (k:Int) 1 (fun t302=>nx (ys,t302)):=fun ys h=>zC (by omega) (by omega) h
 refine jW ?_
 match s,hst with
 | [],_ =>
  refine jW (jG (jG (jG (jW (jG (jG ?_))))))
  exact hz rfl
 | [x],_ =>
  refine jW (jq (zr 0 rfl (by simp) ?_))
  refine zp (fun e=>?_) (fun e=>?_)
  ·have e':x=⟨0,top k⟩:=of_decide_eq_true e
   refine go _ (hn _ ?_)
   unfold bt1;simp only;rw [if_pos e'];simp
  ·have e':¬ x=⟨0,top k⟩:=of_decide_eq_false e
   refine jq (zr 0 rfl (by simp) (zr 0 rfl (by simp) (jn (by simp;omega) (go _ (hn _ ?_)))))
   unfold bt1;simp only;rw [if_neg e'];rfl
 | [x,y],hst =>
  have hx:=hst.2 x (by simp)
  have hy:=hst.2 y (by simp)
  have hx2:=hst.1.1 x (by simp)
  have hy2:=hst.1.1 y (by simp)
  refine jW (jG (jG (jG (jW (jq (zr 0 rfl (by simp) (zp (fun e=>?_) (fun e=>?_))))))))
  ·have e':x.xLo=0:=of_decide_eq_true e
   refine zr 1 rfl (by simp) (zp (fun e2=>?_) (fun e2=>?_))
   ·have e2':y.xHi=top k:=of_decide_eq_true e2
    refine zr 0 rfl (by simp) (zC (by simp;omega) (by simp;omega) (zr 1 rfl (by simp) (yC (by simp;omega) (by simp;omega) (jn (by simp;omega) (go _ (hn _ ?_))))))
    unfold bt1;simp only;rw [if_pos ⟨e',e2'⟩];rfl
   ·have e2':¬ y.xHi=top k:=of_decide_eq_false e2
    refine hz ?_
    unfold bt1;simp only;rw [if_neg (fun q=>e2' q.2)]
  ·have e':¬ x.xLo=0:=of_decide_eq_false e
   refine jG (hz ?_)
   unfold bt1;simp only;rw [if_neg (fun q=>e' q.1)]
 | x :: y :: z :: r,_ =>
  refine jW (zp (fun e=>by simp at e;omega) (fun _=>jG (zp (fun e=>by simp at e;omega) (fun _=>jW (zp (fun e=>by simp at e;omega) (fun _=>jG ?_))))))
  exact hz rfl
theorem zcQ {b:jd} (hb:Bb b) {κ:List jk×Bool→Prop} (h1:BV b→κ (zj7 (btF (sd b)))) (h2:¬ BV b→κ ([],false)):Yn b κ:=by
 unfold Yn
 refine jW (VY hb (zp (fun e=>?_) (fun e=>?_)))
 ·exact jq (h2 (by simpa using e))
 have hv':BV b:=by simpa using e
 refine zh7 (zfm hv') (zb5 (zp (fun e2=>?_) (fun e2=>?_)))
 ·have:=h1 hv'
  unfold btF at this;rw [if_pos e2] at this;exact this
 have h3:=h1 hv'
 unfold btF at h3;rw [if_neg (by simp [e2])] at h3
 clear h1 h2 e e2
 have hB:=hv'.b4
 obtain ⟨a,rfl,_⟩:=hv'
 rw [zmq] at h3 hB
 refine z6 4 (fun s=>s.2) (fun k (s:List jk×Int)=>s.2=(k:Int)∧k≤4∧btN a k=some s.1) (fun k s h=>h.1) (fun k s h=>h.2.1) ?_ ⟨rfl,by omega,rfl⟩
 rintro k ⟨l,_⟩ next ⟨rfl,hk,hbt⟩ hn
 simp only at hbt
 refine zp (fun hc=>?_) (fun hc=>?_)
 ·have hlt:k<4:=by
   have:(k:Int)<4:=by simpa [bx] using hc
   omega
  have hl:=zde hbt
  refine yJ (a:=a) (by omega) (by omega) (zhf (by omega) (by omega) (fun e he=>?_))
  refine zkz hB hlt hbt he (by omega) (fun m hm=>hn hlt _ ⟨by simp,by omega,hm⟩) (fun hz=>?_)
  rw [ziU hz (by omega)] at h3;exact h3
 ·have hge:k=4:=by
   have:(4:Int)≤k:=by simpa [bx] using hc
   omega
  subst hge
  rw [hbt] at h3;exact h3
def ruD (f:zJ):zt:=⟨(zj7 (btF (sd f.xWhere))).1,if f.xAccept then 1 else 2,0⟩
def zjI (l:List zJ):Prop:=FV l∧l.length≤8∧∀ f∈l,btF (sd f.xWhere)≠none
def frS (l:List zJ) (rest:Bool):zR:=⟨[l.map ruD],rest⟩
theorem zgH (a:za):(zj7 (btF a)).1.length≤4:=by
 cases h:btF a with
 | none=>simp [zj7]
 | some l =>
  unfold btF at h
  split at h
  ·cases h
  ·exact zde h
theorem Yu {l:List zJ} {rest:Bool} (hl:Fb l) {κ:zR×Bool→Prop} (h1:zjI l→κ (frS l rest,true)) (h2:¬ zjI l→κ (⟨[],false⟩,false)):ZU l rest κ:=by
 unfold ZU
 have hl1:=hl.1
 refine jW (zp (fun e=>?_) (fun e=>?_))
 ·exact jq (h2 (fun q=>by have:=q.2.1;simp at e;omega))
 have h8:l.length≤8:=by simp at e;omega
 refine zbB hl (zp (fun e2=>?_) (fun e2=>?_))
 ·exact h2 (fun q=>by simp [q.1] at e2)
 have hv':FV l:=by simpa using e2
 refine UU 0 rfl (by omega) (by omega) ?_
 refine z6 l.length (fun s=>s.2) (fun k (s:List zt×Int)=>s.2=(k:Int)∧k≤l.length∧s.1=(l.take k).map ruD∧∀ f∈l.take k,btF (sd f.xWhere)≠none) (fun k s h=>h.1) (fun k s h=>h.2.1) ?_ ⟨rfl,by omega,by simp,by simp⟩
 rintro k ⟨_,_⟩ next ⟨rfl,hk,hx,hno⟩ hn
 simp only at hx
 subst hx
 refine zp (fun hc=>?_) (fun hc=>?_)
 ·have hlt:k<l.length:=by simpa using hc
  have hbv:=hv'.2 _ (List.getElem_mem hlt)
  refine zr k rfl hlt (zcQ hbv.bb (fun _=>?_) (fun q=>absurd hbv q))
  have hlen:=zgH (sd l[k].xWhere)
  cases hbt:btF (sd l[k].xWhere) with
  | none=>exact jW (jq (jq (h2 (fun q=>q.2.2 _ (List.getElem_mem hlt) hbt))))
  | some ts =>
   have er:ruD l[k]=⟨ts,if l[k].xAccept then 1 else 2,0⟩:=by unfold ruD;rw [hbt];rfl
   rw [hbt] at hlen
   have hts:ts.length≤4:=hlen
   refine jW (jG (zp (fun e=>by simp at e;omega) (fun _=>jW ?_)))
   have go:∀ act:Int,act=(if l[k].xAccept then 1 else 2)→jw ((l.take k).map ruD) ([(zt.mk ts act 0)]) (fun _=>jz (k:Int) 1 (fun t229=>next ((((l.take k).map ruD)++([(zt.mk ts act 0)])),t229))):=by
    rintro _ rfl
    refine jn (by simp;omega) (zC (by omega) (by omega) (hn hlt _ ⟨by simp,by omega,?_,fun f hf=>?_⟩))
    ·rw [List.take_succ_eq_append_getElem hlt,List.map_append,List.map_singleton,er]
    ·rw [List.take_succ_eq_append_getElem hlt] at hf
     rcases List.mem_append.1 hf with q | q
     ·exact hno f q
     ·simp only [List.mem_singleton] at q;rw [q,hbt];simp
   refine zp (fun e=>go _ (by rw [e];rfl)) (fun e=>go _ (by rw [e];rfl))
 ·have hge:l.length≤k:=by simpa using hc
  rw [List.take_of_length_le hge] at hno ⊢
  exact h1 ⟨hv',h8,hno⟩
theorem zlN {l:List zJ} {rest:Bool} (h:l.length≤8):Bs (frS l rest).xChains:=by
 refine ⟨by simp [frS],fun c hc=>?_⟩
 simp only [frS,List.mem_singleton] at hc
 subst hc
 refine ⟨by simp;omega,fun r hr=>?_⟩
 obtain ⟨f,hf,rfl⟩:=List.mem_map.1 hr
 have:=zgH (sd f.xWhere)
 unfold Br ruD;simp only;omega
end
section
open Go Go.Proofs
theorem zji (x:ze) (v:Int):hv [x] v↔x.xLo≤v∧v≤x.xHi:=by simp [hv]
theorem zls (x y:ze) (v:Int):hv [x,y] v↔(x.xLo≤v∧v≤x.xHi)∨(y.xLo≤v∧v≤y.xHi):=by simp [hv]
theorem zjt {n:Nat} (hn:n<4) {s:List ze} (hs:St s (top n)) {m:List jk} (h:bt1 n s=some m):(∀ t∈m,TV t)∧∀ p,pv p→(ft m p=true↔hv s (Y9 p n)):=by
 have hfl:∀ p,pv p→0≤Y9 p n∧Y9 p n≤top n:=fun p hp=>by
  obtain ⟨h0,h1,h2,h3⟩:=hp
  rcases XB hn with rfl | rfl | rfl | rfl
  ·exact h0
  ·exact h1
  ·exact h2
  ·exact h3
 unfold bt1 at h
 split at h
 ·rename_i x
  have hx:=hs.2 x (by simp)
  have hx2:=hs.1.1 x (by simp)
  split at h
  ·rename_i e
   injection h with h;subst h
   refine ⟨by simp,fun p hp=>?_⟩
   rw [zji,e]
   have:=hfl p hp
   simp [ft,this]
  ·injection h with h;subst h
   refine ⟨fun t ht=>?_,fun p hp=>?_⟩
   ·rw [List.mem_singleton] at ht;subst ht
    exact ⟨by simp only;omega,by simp only;omega,hx.1,hx2,hx.2⟩
   ·rw [zji]
    simp [ft,th]
 ·rename_i x y
  have hx:=hs.2 x (by simp)
  have hx2:=hs.1.1 x (by simp)
  have hy:=hs.2 y (by simp)
  have hy2:=hs.1.1 y (by simp)
  have hg:x.xHi+1<y.xLo:=(List.pairwise_cons.1 hs.1.2).1 y (by simp)
  split at h
  ·rename_i e
   injection h with h;subst h
   refine ⟨fun t ht=>?_,fun p hp=>?_⟩
   ·rw [List.mem_singleton] at ht;subst ht
    exact ⟨by simp only;omega,by simp only;omega,by simp only;omega,by simp only;omega,by simp only;omega⟩
   ·rw [zls]
    have:=hfl p hp
    simp only [ft,th,List.all_cons,List.all_nil,Bool.and_true,bne_iff_ne,ne_eq,decide_eq_true_eq,Int.toNat_natCast]
    omega
  ·cases h
 ·cases h
theorem zf5 {a:za} (ha:B4 a):∀ {k:Nat} {l:List jk},k≤4→btN a k=some l→(∀ t∈l,TV t)∧∀ p,pv p→(ft l p=true↔∀ n:Nat,n<k→hv (xG a n) (Y9 p n))
 | 0,l,_,h=>by
  simp only [btN,Option.some.injEq] at h;subst h
  exact ⟨by simp,fun p _=>by simp [ft]⟩
 | k+1,l,hk,h=>by
  unfold btN at h
  split at h
  ·cases h
  ·rename_i l1 h1
   split at h
   ·cases h
   ·rename_i m h2
    injection h with h;subst h
    obtain ⟨a1,b1⟩:=zf5 ha (by omega) h1
    obtain ⟨a2,b2⟩:=zjt (show k<4 by omega) (ZV ha (by omega) (by omega)) h2
    refine ⟨fun t ht=>(List.mem_append.1 ht).elim (a1 t) (a2 t),fun p hp=>?_⟩
    have e:ft (l1++m) p=(ft l1 p && ft m p):=by simp [ft]
    rw [e,Bool.and_eq_true,b1 p hp,b2 p hp]
    constructor
    ·rintro ⟨q1,q2⟩ n hn
     by_cases en:n=k
     ·subst en;exact q2
     ·exact q1 n (by omega)
    ·intro q
     exact ⟨fun n hn=>q n (by omega),q k (by omega)⟩
theorem zf4 {a:za} (ha:B4 a) {l:List jk} (h:btF a=some l):TsV l∧∀ p,pv p→(ft l p=true↔hb4 a p):=by
 unfold btF at h
 split at h
 ·cases h
 ·obtain ⟨h1,h2⟩:=zf5 ha (by decide) h
  have:=zde h
  exact ⟨⟨h1,by omega⟩,fun p hp=>by rw [h2 p hp,zaH]⟩
theorem zlx {l:List zJ} {rest:Bool} (h:zjI l):SV (frS l rest):=by
 have h8:=h.2.1
 have nocall:∀ i j,¬ Ca (frS l rest).xChains i j:=fun i j ⟨c,hc,r,hr,h3,_⟩=>by
  have hc':=List.mem_of_getElem? hc
  simp only [frS,List.mem_singleton] at hc'
  subst hc'
  obtain ⟨f,hf,rfl⟩:=List.mem_map.1 hr
  unfold ruD at h3
  simp only at h3
  split at h3 <;> omega
 refine ⟨⟨by simp [frS],fun c hc=>?_⟩,by simp [frS],fun i _=>zhX (fun j hj=>absurd hj (nocall i j))⟩
 simp only [frS,List.mem_singleton] at hc
 subst hc
 refine ⟨by simpa using h8,fun r hr=>?_⟩
 obtain ⟨f,hf,rfl⟩:=List.mem_map.1 hr
 refine ⟨⟨?_,?_⟩,by simp [ruD,frS]⟩
 ·cases hbt:btF (sd f.xWhere) with
  | none=>exact absurd hbt (h.2.2 f hf)
  | some ts =>
   unfold ruD;rw [hbt]
   exact (zf4 (h.1.2 f hf).b4 hbt).1
 ·unfold HV ruD;simp only
  split <;> decide
def jf (l:List zj) (rest:Bool) (p:js):Bool:=match l[fw l p]? with | some f=>f.xAccept | none=>rest
theorem zkK {f:Nat→Int} {p:js} (hp:pv p):∀ (l:List zJ),FV l→(∀ f∈l,btF (sd f.xWhere)≠none)→jl p f (l.map ruD)=(match (l.map fl)[fw (l.map fl) p]? with | some g=>if g.xAccept then 1 else 2 | none=>5)
 | [],_,_=>by simp [jl,fw]
 | x :: l,hv',hb=>by
  have hbv:=hv'.2 x (by simp)
  cases hbt:btF (sd x.xWhere) with
  | none=>exact absurd hbt (hb x (by simp))
  | some ts =>
   have hs:=(zf4 hbv.b4 hbt).2 p hp
   have er:ruD x=⟨ts,if x.xAccept then 1 else 2,0⟩:=by unfold ruD;rw [hbt];rfl
   have ih:=zkK (f:=f) hp l ⟨by have:=hv'.1;simp at this;omega,fun g hg=>hv'.2 g (by simp [hg])⟩ (fun g hg=>hb g (by simp [hg]))
   simp only [List.map_cons,jl,er]
   by_cases hh:hb4 (sd x.xWhere) p
   ·rw [if_pos (hs.2 hh)]
    have e0:fw (fl x :: l.map fl) p=0:=by
     unfold fw;rw [List.findIdx_cons];simp [fl,hh]
    rw [e0]
    simp only [List.getElem?_cons_zero,fl]
    cases x.xAccept <;> simp
   ·rw [if_neg (fun q=>hh (hs.1 q)),ih]
    have e0:fw (fl x :: l.map fl) p=fw (l.map fl) p+1:=by
     unfold fw;rw [List.findIdx_cons];simp [fl,hh]
    rw [e0,List.getElem?_cons_succ]
theorem zlt {l:List zJ} {rest:Bool} {p:js} (hp:pv p) (h:zjI l):jdg (frS l rest) p=jf (l.map fl) rest p:=by
 have hsv:=zlx (rest:=rest) h
 have hJ:=zmn (p:=p) hsv.cn hsv.2.2 0
 have ec:chn (frS l rest).xChains 0=l.map ruD:=rfl
 rw [ec,zkK hp l h.1 h.2.2] at hJ
 unfold jdg jf
 rw [hJ]
 cases (l.map fl)[fw (l.map fl) p]? with
 | none=>simp [frS]
 | some g=>cases hg:g.xAccept <;> simp [hg]
end
section
open Go Go.Proofs
def dcd:List zj→js→Option Bool
 | [],_=>none
 | f :: l,p=>if hb4 f.xWhere p then some f.xAccept else dcd l p
theorem Ue (l m:List zj) (p:js):dcd (l++m) p=(dcd l p).or (dcd m p):=by
 induction l with
 | nil=>simp [dcd]
 | cons f l ih =>
  simp only [List.cons_append,dcd]
  split
  ·simp
  ·exact ih
theorem zei {l:List zj} {p:js}:dcd l p=none↔¬ hbs (whs l) p:=by
 induction l with
 | nil=>simp [dcd,whs,hbs]
 | cons f l ih =>
  have e:hbs (whs (f :: l)) p↔hb4 f.xWhere p∨hbs (whs l) p:=by
   have:=ZY [f.xWhere] (whs l) p
   rw [VM] at this
   exact this
  rw [e]
  unfold dcd
  split
  ·rename_i h;simp [h]
  ·rename_i h;rw [ih];simp [h]
theorem zfv (f:zj) (p:js):dcd [f] p=if hb4 f.xWhere p then some f.xAccept else none:=rfl
theorem zfa (l:List zj) (rest:Bool) (p:js):jf l rest p=(dcd l p).getD rest:=by
 induction l with
 | nil=>simp [jf,dcd]
 | cons f l ih =>
  unfold dcd
  by_cases h:hb4 f.xWhere p
  ·have e0:fw (f :: l) p=0:=by
    unfold fw;rw [List.findIdx_cons];simp [h]
   unfold jf
   rw [e0,if_pos h];rfl
  ·have e0:fw (f :: l) p=fw l p+1:=by
    unfold fw;rw [List.findIdx_cons];simp [h]
   unfold jf at ih ⊢
   rw [e0,if_neg h,List.getElem?_cons_succ];exact ih
theorem zku (l:List za) (a:Bool) (p:js):dcd (dec l a) p=if hbs l p then some a else none:=by
 induction l with
 | nil=>simp [dec,dcd,hbs]
 | cons b l ih =>
  have e:hbs (b :: l) p↔hb4 b p∨hbs l p:=by
   have:=ZY [b] l p
   rw [VM] at this
   exact this
  show (if hb4 b p then some a else dcd (dec l a) p)=_
  rw [ih]
  by_cases h:hb4 b p
  ·rw [if_pos h,if_pos (e.2 (.inl h))]
  ·rw [if_neg h]
   by_cases h2:hbs l p
   ·rw [if_pos h2,if_pos (e.2 (.inr h2))]
   ·rw [if_neg h2,if_neg (fun q=>(e.1 q).elim h h2)]
theorem zld {t:jk} (ht:TV t) {x:Int} (h0:0≤x) (h1:x≤top t.xField):hv (tsp t) x↔(decide (t.xLo≤x∧x≤t.xHi) != t.xNot)=true:=by
 obtain ⟨_,_,h3,h4,h5⟩:=ht
 have hone:hv [(⟨t.xLo,t.xHi⟩:ze)] x↔t.xLo≤x∧x≤t.xHi:=by simp [hv]
 unfold tsp
 cases hn:t.xNot with
 | true =>
  rw [if_pos rfl,zcf (zfY h3 h4 h5),hone]
  by_cases q:t.xLo≤x∧x≤t.xHi
  ·simp [q]
  ·simp [q,h0,h1]
 | false =>
  rw [if_neg (by simp),hone]
  by_cases q:t.xLo≤x∧x≤t.xHi
  ·simp [q]
  ·simp [q]
theorem zjp {p:js} (hp:pv p) {n:Nat} (hn:n<4):0≤Y9 p n∧Y9 p n≤top n:=by
 obtain ⟨h0,h1,h2,h3⟩:=hp
 rcases XB hn with rfl | rfl | rfl | rfl
 ·exact h0
 ·exact h1
 ·exact h2
 ·exact h3
theorem U1 (a:za) (n:Nat) (hn:n<4) (x:List ze) (m:Nat) (hm:m<4):xG (YH a n x) m=if m=n then x else xG a m:=by
 rcases XB hn with rfl | rfl | rfl | rfl <;> rcases XB hm with rfl | rfl | rfl | rfl <;> rfl
theorem zkb {a:za} {t:jk} {p:js} (ht:TV t) (hp:pv p):hb4 (zgv a t) p↔hb4 a p∧th t p=true:=by
 obtain ⟨n,hn⟩:=Int.eq_ofNat_of_zero_le ht.1
 have hn4:n<4:=by have:=ht.2.1;omega
 have hf:=zjp hp hn4
 have key:=zld ht (x:=Y9 p n) hf.1 (by rw [hn];exact hf.2)
 unfold zgv
 rw [hn,zaH,zaH]
 have eth:th t p=(decide (t.xLo≤Y9 p n∧Y9 p n≤t.xHi) != t.xNot):=by unfold th;rw [hn];rfl
 rw [eth,← key]
 constructor
 ·intro h
  have hn2:=h n hn4
  rw [U1 _ _ hn4 _ _ hn4,if_pos rfl,XM] at hn2
  refine ⟨fun m hm=>?_,hn2.2⟩
  by_cases e:m=n
  ·subst e;exact hn2.1
  ·have:=h m hm
   rw [U1 _ _ hn4 _ _ hm,if_neg e] at this
   exact this
 ·rintro ⟨h,h2⟩ m hm
  rw [U1 _ _ hn4 _ _ hm]
  by_cases e:m=n
  ·subst e;rw [if_pos rfl,XM];exact ⟨h _ hm,h2⟩
  ·rw [if_neg e];exact h m hm
theorem zhY {p:js} (hp:pv p):∀ {ts:List jk} {a:za},(∀ t∈ts,TV t)→(hb4 (ts.foldl zgv a) p↔hb4 a p∧ft ts p=true)
 | [],a,_=>by simp [ft]
 | t :: ts,a,h=>by
  rw [List.foldl_cons,zhY hp (fun u hu=>h u (by simp [hu])),zkb (h t (by simp)) hp]
  simp only [ft,List.all_cons,Bool.and_eq_true,and_assoc]
theorem zfe {p:js} (hp:pv p):hb4 US p:=by
 obtain ⟨h0,h1,h2,h3⟩:=hp
 exact ⟨⟨_,List.mem_singleton.2 rfl,h0⟩,⟨_,List.mem_singleton.2 rfl,h1⟩,⟨_,List.mem_singleton.2 rfl,h2⟩,⟨_,List.mem_singleton.2 rfl,h3⟩⟩
theorem zj1 {p:js} (hp:pv p) {ts:List jk} (h:∀ t∈ts,TV t):hb4 (Zj ts) p↔ft ts p=true:=by
 unfold Zj
 rw [zhY hp h]
 exact ⟨fun q=>q.2,fun q=>⟨zfe hp,q⟩⟩
def Wyp (inn lf:Prop) (j:Int) (d:Option Bool) (ot:Prop):Prop :=
 (lf→d=none∧ot)∧(¬ lf→¬ inn→d=none∧¬ ot)∧(¬ lf→inn→(j=1→d=some true∧¬ ot)∧(j=2→d=some false∧¬ ot)∧(j=5→d=none∧ot))
theorem zbE {p:js} (hp:pv p) {call:Nat→List za→List zj→UR} {jcall:Nat→Int} (hj:∀ i,jcall i=1∨jcall i=2∨jcall i=5)
  (hcall:∀ i b o b' o',aB b→call i b o=some (b',o')→aB b'∧∃ n,o'=o++n∧Wyp (hbs b p) False (jcall i) (dcd n p) (hbs b' p)) :
  ∀ {l:List zt} {going left:List za} {out:List zj} {r:List za} {o:List zj},(∀ r∈l,∀ t∈r.xTests,TV t)→aB going→aB left→¬ (hbs left p∧hbs going p)→url call l going left out=some (r,o)→aB r∧∃ n,o=out++n∧Wyp (hbs going p) (hbs left p) (jl p jcall l) (dcd n p) (hbs r p)
 | [],going,left,out,r,o,_,hg,hl,hne,h=>by
  unfold url at h
  split at h
  ·injection h with h;injection h with h1 h2;subst h1 h2
   refine ⟨Yv.2 ⟨hl,hg⟩,[],by simp,?_⟩
   rw [ZY]
   unfold Wyp jl dcd
   refine ⟨fun q=>⟨rfl,.inl q⟩,fun q1 q2=>⟨rfl,fun q=>q.elim q1 q2⟩,fun q1 q2=>⟨fun e=>by omega,fun e=>by omega,fun _=>⟨rfl,.inr q2⟩⟩⟩
  ·cases h
 | x :: rs,going,left,out,r,o,ht,hg,hl,hne,h=>by
  have hw:=zaM (ht x (by simp))
  have hwp:=zj1 hp (ht x (by simp))
  have htr:∀ r∈rs,∀ t∈r.xTests,TV t:=fun y hy=>ht y (by simp [hy])
  have hfB:=zfx hg hw
  have hmB:=UF hg hw
  have hfp:=zjV (bs:=going) (w:=Zj x.xTests) p
  have hmp:=zgM hg hw p
  unfold url at h
  unfold jl
  generalize Zj x.xTests=w at *
  generalize Xb going w=fit at *
  generalize xP going w=miss at *
  split at h
  ·split at h
   ·rename_i q ha
    split at h
    ·obtain ⟨g1,n,rfl,g2⟩:=zbE hp hj hcall htr hmB hl (fun q=>hne ⟨q.1,(hmp.1 q.2).1⟩) h
     refine ⟨g1,dec fit (decide (x.xAction=1))++n,by simp,?_⟩
     rw [Ue,zku]
     unfold Wyp at g2 ⊢
     obtain ⟨a1,a2,a3⟩:=g2
     rw [hmp] at a2 a3
     by_cases c1:hbs left p
     ·have c2:¬ hbs going p:=fun q=>hne ⟨c1,q⟩
      rw [if_neg (fun q=>c2 (hfp.1 q).1)]
      refine ⟨fun _=>a1 c1,fun q=>absurd c1 q,fun q=>absurd c1 q⟩
     ·refine ⟨fun q=>absurd q c1,fun _ c2=>?_,fun _ c2=>?_⟩
      ·rw [if_neg (fun q=>c2 (hfp.1 q).1)]
       exact a2 c1 (fun q=>c2 q.1)
      ·by_cases c3:hb4 w p
       ·rw [if_pos (hfp.2 ⟨c2,c3⟩),if_pos (hwp.1 c3)]
        have a2':=a2 c1 (fun q=>q.2 c3)
        refine ⟨fun e=>⟨?_,a2'.2⟩,fun e=>⟨?_,a2'.2⟩,fun e=>?_⟩
        ·split at e
         ·rename_i e1;simp [e1]
         ·split at e
          ·omega
          ·rename_i e1 e2;exact absurd ha (by omega)
        ·split at e
         ·omega
         ·rename_i e1;simp [e1]
        ·split at e
         ·omega
         ·split at e
          ·omega
          ·rename_i e1 e2;exact absurd ha (by omega)
       ·rw [if_neg (fun q=>c3 (hfp.1 q).2),if_neg (fun q=>c3 (hwp.2 q))]
        exact a3 c1 ⟨c2,c3⟩
    ·cases h
   ·rename_i q ha
    rw [if_neg (show ¬ x.xAction=1 from fun e=>ha (.inl e)),if_neg (show ¬ x.xAction=2 from fun e=>ha (.inr e))]
    split at h
    ·rename_i h4
     rw [if_pos h4]
     have hne2:¬ (hbs (left++fit) p∧hbs miss p):=fun q=>by
      have m:=hmp.1 q.2
      rcases (ZY left fit p).1 q.1 with q1 | q1
      ·exact hne ⟨q1,m.1⟩
      ·exact m.2 (hfp.1 q1).2
     obtain ⟨g1,n,rfl,g2⟩:=zbE hp hj hcall htr hmB (Yv.2 ⟨hl,hfB⟩) hne2 h
     refine ⟨g1,n,rfl,?_⟩
     unfold Wyp at g2 ⊢
     obtain ⟨a1,a2,a3⟩:=g2
     rw [ZY,hfp] at a1 a2 a3
     rw [hmp] at a2 a3
     refine ⟨fun c1=>a1 (.inl c1),fun c1 c2=>a2 (fun q=>q.elim c1 (fun q=>c2 q.1)) (fun q=>c2 q.1),fun c1 c2=>?_⟩
     by_cases c3:hb4 w p
     ·rw [if_pos (hwp.1 c3)]
      exact ⟨fun e=>by omega,fun e=>by omega,fun _=>a1 (.inr ⟨c2,c3⟩)⟩
     ·rw [if_neg (fun q=>c3 (hwp.2 q))]
      exact a3 (fun q=>q.elim c1 (fun q=>c3 q.2)) ⟨c2,c3⟩
    ·rename_i h4
     rw [if_neg h4]
     split at h
     ·rename_i h3
      rw [if_pos h3]
      split at h
      ·cases h
      ·rename_i b o' hb
       obtain ⟨k1,n1,rfl,k2⟩:=hcall _ _ _ _ _ hfB hb
       split at h
       ·have hbm:hbs b p→hbs fit p:=fun q=>by
         by_cases c:hbs fit p
         ·exact c
         ·exact absurd q (k2.2.1 (fun f=>f) c).2
        have hne2:¬ (hbs left p∧hbs (miss++b) p):=fun q=>by
         rcases (ZY miss b p).1 q.2 with q1 | q1
         ·exact hne ⟨q.1,(hmp.1 q1).1⟩
         ·exact hne ⟨q.1,(hfp.1 (hbm q1)).1⟩
        obtain ⟨g1,n,rfl,g2⟩:=zbE hp hj hcall htr (Yv.2 ⟨hmB,k1⟩) hl hne2 h
        refine ⟨g1,n1++n,by simp,?_⟩
        rw [Ue]
        unfold Wyp at g2 k2 ⊢
        obtain ⟨a1,a2,a3⟩:=g2
        obtain ⟨_,b2,b3⟩:=k2
        have b2:=b2 (fun f=>f)
        have b3:=b3 (fun f=>f)
        rw [ZY,hmp] at a2 a3
        rw [hfp] at b2 b3 hbm
        refine ⟨fun c1=>?_,fun c1 c2=>?_,fun c1 c2=>?_⟩
        ·rw [(b2 (fun q=>hne ⟨c1,q.1⟩)).1];exact a1 c1
        ·rw [(b2 (fun q=>c2 q.1)).1]
         exact a2 c1 (fun q=>q.elim (fun q=>c2 q.1) (fun q=>c2 (hbm q).1))
        ·by_cases c3:hb4 w p
         ·rw [if_pos (hwp.1 c3)]
          obtain ⟨d1,d2,d5⟩:=b3 ⟨c2,c3⟩
          rcases hj x.xChain.toNat with e | e | e
          ·have d:=d1 e
           rw [if_neg (by omega),e,d.1]
           have a:=a2 c1 (fun q=>q.elim (fun q=>q.2 c3) d.2)
           exact ⟨fun _=>⟨rfl,a.2⟩,fun e=>by omega,fun e=>by omega⟩
          ·have d:=d2 e
           rw [if_neg (by omega),e,d.1]
           have a:=a2 c1 (fun q=>q.elim (fun q=>q.2 c3) d.2)
           exact ⟨fun e=>by omega,fun _=>⟨rfl,a.2⟩,fun e=>by omega⟩
          ·have d:=d5 e
           rw [if_pos e,d.1]
           exact a3 c1 (.inr d.2)
         ·rw [if_neg (fun q=>c3 (hwp.2 q)),(b2 (fun q=>c3 q.2)).1]
          exact a3 c1 (.inl ⟨c2,c3⟩)
       ·cases h
     ·rename_i h3
      rw [if_neg h3]
      split at h
      ·have hne2:¬ (hbs left p∧hbs (miss++fit) p):=fun q=>by
        rcases (ZY miss fit p).1 q.2 with q1 | q1
        ·exact hne ⟨q.1,(hmp.1 q1).1⟩
        ·exact hne ⟨q.1,(hfp.1 q1).1⟩
       obtain ⟨g1,n,rfl,g2⟩:=zbE hp hj hcall htr (Yv.2 ⟨hmB,hfB⟩) hl hne2 h
       refine ⟨g1,n,rfl,?_⟩
       have e:hbs (miss++fit) p↔hbs going p:=by
        rw [ZY,hmp,hfp]
        by_cases c3:hb4 w p <;> simp [c3]
       rw [e] at g2
       have:(if ft x.xTests p=true then jl p jcall rs else jl p jcall rs)=jl p jcall rs:=by split <;> rfl
       rw [this]
       exact g2
      ·cases h
  ·cases h
theorem zjE {cs:List (List zt)} (ht:TVs cs) {p:js} (hp:pv p):∀ n i b o b' o',aB b→uc cs n i b o=some (b',o')→aB b'∧∃ m,o'=o++m∧Wyp (hbs b p) False (jc cs p n i) (dcd m p) (hbs b' p)
 | 0,i,b,o,b',o',_,h=>by cases h
 | n+1,i,b,o,b',o',hb,h=>by
  obtain ⟨g1,m,g2,g3⟩:=zbE hp (zfg n) (zjE ht hp n) (ht.chn i) hb zdh (fun q=>Xl p q.1) h
  refine ⟨g1,m,g2,?_⟩
  have e:hbs [] p↔False:=⟨Xl p,False.elim⟩
  rw [e] at g3
  exact g3
theorem zlc {s:zR} (hs:SV s) {l:List zj} (h:uf s=some l) {p:js} (hp:pv p):jdg s p=jf l s.xAccept p:=by
 unfold uf at h
 cases hU:U s.xChains 0 [US] [] with
 | none=>rw [hU] at h;cases h
 | some bo =>
  obtain ⟨b,o⟩:=bo
  rw [hU] at h
  simp only [Option.map_some,Option.some.injEq] at h
  subst h
  obtain ⟨_,n,hn,_,_,g3⟩:=zjE hs.tvs hp _ _ _ _ _ _ zc5 hU
  simp only [List.nil_append] at hn
  subst hn
  obtain ⟨d1,d2,d5⟩:=g3 (fun f=>f) ((VM _ _).2 (zfe hp))
  rw [zfa]
  unfold jdg
  show (if J s.xChains p 0=1 then true else if J s.xChains p 0=2 then false else s.xAccept)=_
  have e:jc s.xChains p (jN s.xChains+1) 0=J s.xChains p 0:=rfl
  rw [e] at d1 d2 d5
  rcases zlB s.xChains p 0 with e | e | e
  ·rw [(d1 e).1,if_pos e];rfl
  ·rw [(d2 e).1,if_neg (by omega),if_pos e];rfl
  ·rw [(d5 e).1,if_neg (by omega),if_neg (by omega)];rfl
theorem zhu {l:List zj} (hv:IV l) (p:js):∀ k,k≤l.length→dcd (wdN l k) p=dcd (l.take k) p
 | 0,_=>rfl
 | k+1,hk=>by
  have hlt:k<l.length:=by omega
  have ih:=zhu hv p k (by omega)
  rw [List.take_succ_eq_append_getElem hlt,Ue]
  by_cases hd:dd l k=true
  ·rw [zfu hlt hd,ih]
   have hdo:=zjK hlt
   rw [hd] at hdo
   have hlv:zgo l k hlt=some []:=by simpa using hdo.symm
   unfold zgo at hlv
   have hk2:=hv _ (List.getElem_mem hlt)
   have:=zd0 hk2.1 (hv.take k).aB hlv p
   cases e:dcd (l.take k) p with
   | some b=>rfl
   | none =>
    rw [zei] at e
    have:¬ hb4 l[k].xWhere p:=fun q=>Xl p (this.2 ⟨q,e⟩)
    rw [zfv,if_neg this];rfl
  ·rw [zgO hlt (by simpa using hd),Ue,ih]
theorem zkA {l:List zj} (hv:IV l) (p:js):dcd (wdF l) p=dcd l p:=by
 unfold wdF
 rw [zhu hv p _ (Nat.le_refl _),List.take_length]
theorem zi3 {a b:za} (ha:B4 a) (hb:B4 b) (h:in4 a b=true) {p:js} (hp:hb4 a p):hb4 b p:=by
 have hc:=(zfk ha hb).2 h
 have:=zfn ha hb p
 rw [hc] at this
 by_cases q:hb4 b p
 ·exact q
 ·exact absurd (this.2 ⟨hp,q⟩) (Xl p)
theorem zhU {a b:za} {n:Nat} (h:zaU a b=[n]) {m:Nat} (hm:m<4) (hne:m≠n):xG a m=xG b m:=by
 by_cases q:xG a m=xG b m
 ·exact q
 ·have:m∈zaU a b:=List.mem_filter.2 ⟨by simpa using hm,by simpa using q⟩
  rw [h,List.mem_singleton] at this
  exact absurd this hne
theorem zmb {a b x:za} (ha:B4 a) (hb:B4 b) (h:mg a b=some x) (p:js):hb4 x p↔hb4 a p∨hb4 b p:=by
 unfold mg at h
 split at h
 ·rename_i e
  injection h with h;subst h
  exact ⟨.inr,fun q=>q.elim (zi3 ha hb e) id⟩
 ·split at h
  ·rename_i e
   injection h with h;subst h
   exact ⟨.inl,fun q=>q.elim id (zi3 hb ha e)⟩
  ·split at h
   ·rename_i n hn
    obtain ⟨h4,_⟩:=zc9 hn
    split at h
    ·injection h with h;subst h
     have hu:=zaN (ZV ha (show (0:Int)≤n by omega) (show (n:Int)≤3 by omega)) (ZV hb (show (0:Int)≤n by omega) (show (n:Int)≤3 by omega)) (Y9 p n)
     rw [zaH,zaH,zaH]
     constructor
     ·intro q
      have qn:=q n h4
      rw [U1 _ _ h4 _ _ h4,if_pos rfl] at qn
      unfold uni at qn
      rw [hu] at qn
      refine qn.imp (fun qa m hm=>?_) (fun qb m hm=>?_)
      ·by_cases e:m=n
       ·subst e;exact qa
       ·have:=q m hm
        rw [U1 _ _ h4 _ _ hm,if_neg e] at this
        exact this
      ·by_cases e:m=n
       ·subst e;exact qb
       ·have:=q m hm
        rw [U1 _ _ h4 _ _ hm,if_neg e,zhU hn hm e] at this
        exact this
     ·intro q m hm
      rw [U1 _ _ h4 _ _ hm]
      by_cases e:m=n
      ·subst e
       rw [if_pos rfl]
       unfold uni
       rw [hu]
       exact q.imp (fun q=>q _ hm) (fun q=>q _ hm)
      ·rw [if_neg e]
       exact q.elim (fun q=>q m hm) (fun q=>by rw [zhU hn hm e];exact q m hm)
    ·cases h
   ·cases h
theorem zlY {x y z:zj} (hx:B4 x.xWhere) (hy:B4 y.xWhere) (h:pm x y=some z) (p:js):dcd [z] p=dcd [x,y] p:=by
 unfold pm at h
 split at h
 ·rename_i ea
  cases e:mg x.xWhere y.xWhere with
  | none=>rw [e] at h;cases h
  | some w =>
   rw [e] at h
   simp only [Option.map_some,Option.some.injEq] at h
   subst h
   have:=zmb hx hy e p
   simp only [dcd]
   by_cases c1:hb4 x.xWhere p
   ·rw [if_pos c1,if_pos (this.2 (.inl c1))]
   ·rw [if_neg c1]
    by_cases c2:hb4 y.xWhere p
    ·rw [if_pos c2,if_pos (this.2 (.inr c2)),ea]
    ·rw [if_neg c2,if_neg (fun q=>(this.1 q).elim c1 c2)]
 ·cases h
theorem zie {l:List zj} (hv:IV l) {k:Nat} {z:zj} (h:pmA l k=some z) (p:js):dcd (Uz l k z) p=dcd l p:=by
 have hk:=za6 h
 rw [zdg hk] at h
 have e1:l=l.take k++([l[k],l[k+1]]++l.drop (k+2)):=by
  have:=List.take_append_drop k l
  rw [List.drop_eq_getElem_cons (show k<l.length by omega),List.drop_eq_getElem_cons hk] at this
  exact this.symm
 have:=zlY (hv _ (List.getElem_mem (show k<l.length by omega))).1 (hv _ (List.getElem_mem hk)).1 h p
 conv=>rhs;rw [e1]
 unfold Uz
 rw [List.append_assoc,Ue,Ue,this,← Ue,← Ue]
theorem zkw {l:List zj} {k:Nat} {z:zj} (h:fp l=some (k,z)):pmA l k=some z:=(zhs h).1
theorem zhV (p:js):∀ (n:Nat) {l:List zj},IV l→dcd (mgN n l) p=dcd l p
 | 0,l,_=>rfl
 | n+1,l,h=>by
  unfold mgN
  cases e:fp l with
  | none=>rfl
  | some kz =>
   obtain ⟨k,z⟩:=kz
   have hkz:=zkw e
   show dcd (mgN n (Uz l k z)) p=_
   rw [zhV p n (zbR h hkz),zie h hkz]
theorem zks {l:List zj} (h:IV l) (p:js):dcd (mgF l) p=dcd l p:=zhV p _ h
theorem zhP {l:List zj} {rest:Bool} (p:js):∀ n,n≤l.length→(dcd (l.take (trN l rest n)) p).getD rest=(dcd (l.take n) p).getD rest
 | 0,_=>rfl
 | n+1,hn=>by
  have hlt:n<l.length:=by omega
  have ih:=zhP (l:=l) (rest:=rest) p n (by omega)
  unfold trN
  rw [List.getElem?_eq_getElem hlt]
  simp only
  split
  ·rename_i e
   have e':l[n].xAccept=rest:=of_decide_eq_true e
   rw [ih,List.take_succ_eq_append_getElem hlt,Ue]
   cases hd:dcd (l.take n) p with
   | some b=>rfl
   | none =>
    rw [zfv]
    split
    ·rw [e'];rfl
    ·rfl
  ·rfl
theorem zj0 {l:List zj} {rest:Bool} (p:js):(dcd (trF l rest) p).getD rest=(dcd l p).getD rest:=by
 unfold trF
 rw [zhP p _ (Nat.le_refl _),List.take_length]
theorem zfl {l:List zj} {rest:Bool} (h:IV l) (p:js):(dcd (sh1 l rest) p).getD rest=(dcd l p).getD rest:=by
 unfold sh1
 rw [zj0,zks (zao h),zkA h]
theorem zhA {rest:Bool} (p:js):∀ {n:Nat} {l:List zj},IV l→(dcd (shN rest n l) p).getD rest=(dcd l p).getD rest
 | 0,l,h=>zfl h p
 | n+1,l,h=>by
  unfold shN
  split
  ·exact zfl h p
  ·rw [zhA p (zat h),zfl h]
theorem zjP {l:List zj} {rest:Bool} (h:IV l) (p:js):jf (shF l rest) rest p=jf l rest p:=by
 rw [zfa,zfa]
 exact zhA p h
theorem zeb {s:zR} (hs:SV s) {l:List zj} (h:cf s=some l) {p:js} (hp:pv p):jdg s p=jf l s.xAccept p:=by
 unfold cf at h
 cases e:uf s with
 | none=>rw [e] at h;cases h
 | some u =>
  rw [e] at h
  simp only [Option.map_some,Option.some.injEq] at h
  subst h
  rw [zjP (zho hs e).1,zlc hs e hp]
end
section
open Go Go.Proofs
def itm (l:List zj) (rest:Bool) (k:Nat):zj:=match l[k]? with | some f=>f | none=>⟨US,rest⟩
def lvN (l:List zj) (rest:Bool):Nat→Option (List zj)
 | 0=>some []
 | k+1=>match lvN l rest k with
  | none=>none
  | some out=>match YD (itm l rest k).xWhere (whs (l.take k)) with
   | none=>none
   | some lv=>if (out++dec lv (itm l rest k).xAccept).length≤400 then some (out++dec lv (itm l rest k).xAccept) else none
def pt (l:List zj) (rest:Bool):Option (List zj):=lvN l rest (l.length+1)
def acs (out:List zj) (a:Bool):List za:=(out.filter (fun f=>decide (f.xAccept=a))).map (·.xWhere)
theorem zhk {l:List zj} {rest:Bool} {k:Nat} (h:k<l.length):itm l rest k=l[k]:=by
 unfold itm;rw [List.getElem?_eq_getElem h]
theorem zhm (l:List zj) (rest:Bool):itm l rest l.length=⟨US,rest⟩:=by
 unfold itm;rw [List.getElem?_eq_none (Nat.le_refl _)]
theorem zbY:B4 US∧F4 US:=⟨zbU,zfQ (fun f h0 h1=>by have:=zdd f h0 h1;omega)⟩
theorem zk1 {l:List zj} (hv:IV l) (rest:Bool) (k:Nat):B4 (itm l rest k).xWhere∧F4 (itm l rest k).xWhere:=by
 unfold itm
 cases h:l[k]? with
 | none=>exact zbY
 | some f=>exact hv f (List.mem_of_getElem? h)
theorem zf2 {l:List zj} {rest:Bool} {k:Nat} (h:lvN l rest k=none):∀ n,lvN l rest (k+n)=none
 | 0=>h
 | n+1=>by
  rw [← Nat.add_assoc]
  unfold lvN
  rw [zf2 h n]
theorem zlT {l:List zj} {rest:Bool} {k n:Nat} (h:lvN l rest k=none) (hk:k≤n):lvN l rest n=none:=by
 obtain ⟨m,rfl⟩:=Nat.exists_eq_add_of_le hk
 exact zf2 h m
theorem zgQ {l:List zj} {rest:Bool} (hv:IV l):∀ {k:Nat} {out:List zj},lvN l rest k=some out→IV out∧out.length≤400
 | 0,out,h=>by
  simp only [lvN,Option.some.injEq] at h;subst h
  exact ⟨zfc,by simp⟩
 | k+1,out,h=>by
  unfold lvN at h
  split at h
  ·cases h
  ·rename_i o ho
   split at h
   ·cases h
   ·rename_i lv hl
    split at h
    ·rename_i q
     injection h with h;subst h
     have ih:=zgQ hv ho
     have hi:=zk1 hv rest k
     have:=zdJ hi.1 hi.2 (hv.take k).aB hl
     exact ⟨zfq ih.1 (zfA this.1 this.2.1),q⟩
    ·cases h
theorem zda (x y:List zj) (a:Bool):acs (x++y) a=acs x a++acs y a:=by simp [acs]
theorem zc7 (l:List za) (b a:Bool):acs (dec l b) a=if b=a then l else []:=by
 unfold acs dec
 split
 ·rename_i e
  rw [List.filter_eq_self.2 (fun f hf=>by obtain ⟨c,_,rfl⟩:=List.mem_map.1 hf;simpa using e),List.map_map]
  exact List.map_id' l
 ·rename_i e
  rw [List.filter_eq_nil_iff.2 (fun f hf=>by obtain ⟨c,_,rfl⟩:=List.mem_map.1 hf;simpa using e)]
  rfl
theorem zj5 (x:List zj):(acs x true).length+(acs x false).length=x.length:=by
 induction x with
 | nil=>rfl
 | cons f x ih =>
  unfold acs at ih ⊢
  cases h:f.xAccept <;> simp [h] at ih ⊢ <;> omega
theorem ziQ (x:List zj) (a:Bool):(acs x a).length≤x.length:=by
 unfold acs;rw [List.length_map];exact List.length_filter_le _ _
theorem zhh {x:List zj} (h:IV x) (a:Bool):aB (acs x a):=fun c hc=>by
 obtain ⟨f,hf,rfl⟩:=List.mem_map.1 hc
 exact (h f (List.mem_filter.1 hf).1).1
theorem zhN {l:List zj} {rest:Bool} (hv:IV l) (p:js) (a:Bool):∀ {k:Nat} {out:List zj},k≤l.length→lvN l rest k=some out→(hbs (acs out a) p↔dcd (l.take k) p=some a)
 | 0,out,_,h=>by
  simp only [lvN,Option.some.injEq] at h;subst h
  simp [acs,hbs,dcd]
 | k+1,out,hk,h=>by
  have hlt:k<l.length:=by omega
  unfold lvN at h
  split at h
  ·cases h
  ·rename_i o ho
   split at h
   ·cases h
   ·rename_i lv hl
    split at h
    ·injection h with h;subst h
     have ih:=zhN hv p a (by omega) ho
     rw [zhk hlt] at hl ⊢
     have hi:=hv _ (List.getElem_mem hlt)
     have hlb:=zd0 hi.1 (hv.take k).aB hl p
     rw [zda,zc7,ZY,ih,List.take_succ_eq_append_getElem hlt,Ue,zfv]
     rw [← zei] at hlb
     by_cases e:l[k].xAccept=a
     ·rw [if_pos e,hlb,e]
      cases hd:dcd (l.take k) p with
      | none=>by_cases c:hb4 l[k].xWhere p <;> simp [c]
      | some b=>simp
     ·rw [if_neg e]
      cases hd:dcd (l.take k) p with
      | none =>
       by_cases c:hb4 l[k].xWhere p
       ·simp [c,Xl,e]
       ·simp [c,Xl]
      | some b=>simp [Xl]
    ·cases h
theorem zfT {l:List zj} {rest:Bool} (hv:IV l) {out:List zj} (h:pt l rest=some out) {p:js} (hp:pv p) (a:Bool):hbs (acs out a) p↔jf l rest p=a:=by
 unfold pt lvN at h
 rw [zfa]
 split at h
 ·cases h
 ·rename_i o ho
  split at h
  ·cases h
  ·rename_i lv hl
   split at h
   ·injection h with h;subst h
    have ih:=zhN hv p a (Nat.le_refl _) ho
    rw [List.take_length] at ih hl
    rw [zhm] at hl ⊢
    have hlb:=zd0 zbU hv.aB hl p
    rw [← zei] at hlb
    rw [zda,zc7,ZY,ih]
    simp only
    have ha:=zfe hp
    by_cases e:rest=a
    ·rw [if_pos e,hlb]
     cases hd:dcd l p with
     | none=>simp [ha,e]
     | some b=>simp
    ·rw [if_neg e]
     cases hd:dcd l p with
     | none=>simp [Xl,e]
     | some b=>simp [Xl]
   ·cases h
theorem zht {l:List zj} {rest:Bool} (hv:IV l) {out:List zj} (h:pt l rest=some out):IV out∧out.length≤400:=zgQ hv h
def tF (d:za) (as:List za):List za:=as.flatMap (fun c=>if em4 (xJ d c) then [] else [xJ d c])
def opF (ds as:List za):List za:=ds.flatMap (fun d=>tF d as)
theorem zgV (d:za) (l m:List za):tF d (l++m)=tF d l++tF d m:=by simp [tF]
theorem ziP (d c:za):tF d [c]=if em4 (xJ d c) then [] else [xJ d c]:=by simp [tF]
theorem zc0 (l m as:List za):opF (l++m) as=opF l as++opF m as:=by simp [opF]
theorem zfG (d:za) (as:List za):opF [d] as=tF d as:=by simp [opF]
theorem zft {ds as:List za} {c:za}:c∈opF ds as↔∃ d∈ds,∃ e∈as,em4 (xJ d e)=false∧c=xJ d e:=by
 unfold opF tF
 simp only [List.mem_flatMap]
 constructor
 ·rintro ⟨d,hd,e,he,h⟩
  split at h
  ·simp at h
  ·rename_i q
   exact ⟨d,hd,e,he,by simpa using q,by simpa using h⟩
 ·rintro ⟨d,hd,e,he,q,rfl⟩
  exact ⟨d,hd,e,he,by rw [if_neg (by simp [q])];simp⟩
theorem zli (ds as:List za) (p:js):hbs (opF ds as) p↔hbs ds p∧hbs as p:=by
 constructor
 ·rintro ⟨c,hc,k⟩
  obtain ⟨d,hd,e,he,_,rfl⟩:=zft.1 hc
  have:=(UP d e p).1 k
  exact ⟨⟨d,hd,this.1⟩,⟨e,he,this.2⟩⟩
 ·rintro ⟨⟨d,hd,k1⟩,⟨e,he,k2⟩⟩
  have h:=(UP d e p).2 ⟨k1,k2⟩
  refine ⟨xJ d e,zft.2 ⟨d,hd,e,he,?_,rfl⟩,h⟩
  cases q:em4 (xJ d e) with
  | false=>rfl
  | true=>exact absurd h (zdT q p)
theorem zlF {a:za} (ha:B4 a) (h:em4 a=false):∃ p,pv p∧hb4 a p:=by
 rw [zjz] at h
 obtain ⟨h0,h1,h2,h3⟩:=h
 obtain ⟨p0,p1,p2,p3⟩:=ha
 obtain ⟨x0,e0⟩:=zgL p0 h0
 obtain ⟨x1,e1⟩:=zgL p1 h1
 obtain ⟨x2,e2⟩:=zgL p2 h2
 obtain ⟨x3,e3⟩:=zgL p3 h3
 exact ⟨⟨x0,x1,x2,x3⟩,⟨ym p0 e0,ym p1 e1,ym p2 e2,ym p3 e3⟩,e0,e1,e2,e3⟩
theorem zle {ds as:List za} (h1:aB ds) (h2:aB as):opF ds as≠[]↔∃ p,pv p∧hbs ds p∧hbs as p:=by
 constructor
 ·intro h
  obtain ⟨c,hc⟩:=List.exists_mem_of_ne_nil _ h
  obtain ⟨d,hd,e,he,q,rfl⟩:=zft.1 hc
  obtain ⟨p,hp,k⟩:=zlF (zdz (h1 d hd) (h2 e he)) q
  have:=(UP d e p).1 k
  exact ⟨p,hp,⟨d,hd,this.1⟩,⟨e,he,this.2⟩⟩
 ·rintro ⟨p,_,k⟩ e
  have:=(zli ds as p).2 k
  rw [e] at this
  exact Xl p this
def opn (a:List zj) (ra:Bool) (b:List zj) (rb:Bool):Option (List za) :=
 match pt a ra,pt b rb with
 | some x,some y=>if okR (opF (acs x false) (acs y true)) then some (opF (acs x false) (acs y true)) else none
 | _,_=>none
theorem zk9 {a b:List zj} {ra rb:Bool} (ha:IV a) (hb:IV b) {o:List za} (h:opn a ra b rb=some o):o≠[]↔∃ p,pv p∧jf a ra p=false∧jf b rb p=true:=by
 unfold opn at h
 split at h
 ·rename_i x y hx hy
  split at h
  ·injection h with h;subst h
   rw [zle (zhh (zht ha hx).1 _) (zhh (zht hb hy).1 _)]
   constructor
   ·rintro ⟨p,hp,k1,k2⟩
    exact ⟨p,hp,(zfT ha hx hp _).1 k1,(zfT hb hy hp _).1 k2⟩
   ·rintro ⟨p,hp,k1,k2⟩
    exact ⟨p,hp,(zfT ha hx hp _).2 k1,(zfT hb hy hp _).2 k2⟩
  ·cases h
 ·cases h
def zmB:Option (List zj)→Zt×Bool
 | some out=>(⟨acs out true,acs out false⟩,true)
 | none=>(⟨[],[]⟩,false)
theorem zkS {out:List zj} {lv:List za} {acc:Bool} (h1:out.length≤100000) (h2:lv.length≤100000) {κ:Bool×List za×List za→Prop} (h:κ (decide ((out++dec lv acc).length≤400),acs (out++dec lv acc) true,acs (out++dec lv acc) false)):yl (acs out true) (acs out false) lv acc κ:=by
 unfold yl
 have hl:=zj5 out
 have hd:=zd8 lv acc
 rw [zda,zda,zc7,zc7,List.length_append,hd] at h
 refine jW (zp (fun e=>?_) (fun e=>?_))
 ·subst e
  refine jn (by omega) (zC (by omega) (by rw [List.length_append];omega) ?_)
  rw [show decide ((((acs out true++lv).length:Nat):Int)+((acs out false).length:Int)≤400)=decide (out.length+lv.length≤400) from decide_eq_decide.2 (by rw [List.length_append];omega)]
  simpa using h
 ·subst e
  refine jn (by omega) (zC (by omega) (by rw [List.length_append];omega) ?_)
  rw [show decide (((acs out true).length:Int)+(((acs out false++lv).length:Nat):Int)≤400)=decide (out.length+lv.length≤400) from decide_eq_decide.2 (by rw [List.length_append];omega)]
  simpa using h
theorem zi0 {l:List zj} {rest:Bool} {k:Nat} {out:List zj} (h:lvN l rest k=some out):lvN l rest (k+1)=match YD (itm l rest k).xWhere (whs (l.take k)) with | none=>none | some lv=>if (out++dec lv (itm l rest k).xAccept).length≤400 then some (out++dec lv (itm l rest k).xAccept) else none:=by
 conv=>lhs;unfold lvN
 rw [h]
theorem zeV {l:List zj} {rest:Bool} (hl:l.length≤100000) (hv:IV l) {κ:Zt×Bool→Prop} (h:κ (zmB (pt l rest))):Xx l rest κ:=by
 unfold Xx
 have no:∀ {k},k≤l.length+1→lvN l rest k=none→κ (⟨[],[]⟩,false):=fun hk q=>by
  unfold pt at h;rw [zlT q hk] at h;exact h
 refine z6 l.length (fun s=>s.2.2) (fun k (s:List za×List za×Int)=>s.2.2=(k:Int)∧k≤l.length∧∃ out,lvN l rest k=some out∧s.1=acs out true∧s.2.1=acs out false) (fun k s h=>h.1) (fun k s h=>h.2.1) ?_ ⟨rfl,by omega,[],rfl,rfl,rfl⟩
 rintro k ⟨_,_,_⟩ next ⟨rfl,hk,out,ho,hx,hy⟩ hn
 simp only at hx hy
 subst hx hy
 have hok:=zgQ hv ho
 have hst:=zi0 ho
 refine zp (fun hc=>?_) (fun hc=>?_)
 ·have hlt:k<l.length:=by simpa using hc
  rw [zhk hlt] at hst
  have hk2:=hv _ (List.getElem_mem hlt)
  refine zr k rfl hlt (zgC hl hv hlt ?_)
  unfold zgo
  cases hlr:YD l[k].xWhere (whs (l.take k)) with
  | none =>
   rw [hlr] at hst
   exact jW (jq (jq (no (by omega) hst)))
  | some lv =>
   rw [hlr] at hst
   have hlo:=zdJ hk2.1 hk2.2 (hv.take k).aB hlr
   have hl4:=hlo.2.2
   simp only at hst
   refine jW (jG (zkS (by omega) (by omega) ?_))
   by_cases q:(out++dec lv l[k].xAccept).length≤400
   ·rw [if_pos q] at hst
    rw [decide_eq_true q]
    exact jG (zC (by omega) (by omega) (hn hlt _ ⟨by simp,by omega,_,hst,rfl,rfl⟩))
   ·rw [if_neg q] at hst
    rw [decide_eq_false q]
    exact jq (no (by omega) hst)
 ·have hge:k=l.length:=by
   have:¬ (k:Int)<(l.length:Int):=of_decide_eq_false hc
   omega
  subst hge
  rw [zhm,List.take_length] at hst
  refine zbc (zf7 (by omega) (zcM (bs:=whs l) zbY.1 zbY.2 hv.aB (by unfold whs;rw [List.length_map];omega) ?_))
  have hst':pt l rest=match YD US (whs l) with | none=>none | some lv=>if (out++dec lv rest).length≤400 then some (out++dec lv rest) else none:=hst
  rw [hst'] at h
  cases hlr:YD US (whs l) with
  | none =>
   rw [hlr] at h
   exact jW (jq (jq h))
  | some lv =>
   rw [hlr] at h
   have hl4:=(zdJ zbY.1 zbY.2 hv.aB hlr).2.2
   simp only at h
   refine jW (jG (zkS (lv:=lv) (by omega) (by omega) ?_))
   by_cases q:(out++dec lv rest).length≤400
   ·rw [if_pos q] at h
    rw [decide_eq_true q]
    exact jG h
   ·rw [if_neg q] at h
    rw [decide_eq_false q]
    exact jq h
theorem zgY {ds as:List za} (hdB:aB ds) (hcB:aB as) (hdl:ds.length≤400) (hcl:as.length≤400) {κ:List za×Bool→Prop} (h:κ (zj9 (if okR (opF ds as) then some (opF ds as) else none))) :
  jy (fun (nx103:((List za)×Int)→Prop) ((xs99,t102):((List za)×Int))=>ifW (decide (t102<(ds.length:Int))) (zB ds t102 (fun e104=>jy (fun (nx141:((List za)×Int)→Prop) ((xs137,t140):((List za)×Int))=>ifW (decide (t140<(as.length:Int))) (jnW (fun (xs353:(List za))=>jz t140 1 (fun t357=>nx141 (xs353,t357))) (fun k356=>zB as t140 (fun e142=>uA e104 e142 (fun r204=>ifW (!r204) (k356 xs137) (yr e104 e142 (fun (r235,r244)=>ifW (!r244) (κ ([],false)) (ifW (decide ((xs137.length:Int)=400)) (κ ([],false)) (jw xs137 ([r235]) (fun _=>k356 (xs137++([r235]))))))))))) (jz t102 1 (fun t358=>nx103 (xs137,t358)))) (xs99,0))) (κ (xs99,true))) ([],0):=by
 have no:¬ okR (opF ds as)→κ ([],false):=fun q=>by rw [if_neg q] at h;exact h
 refine z6 ds.length (fun s=>s.2) (fun k (s:List za×Int)=>s.2=(k:Int)∧k≤ds.length∧s.1=opF (ds.take k) as∧okR (opF (ds.take k) as)) (fun k s h=>h.1) (fun k s h=>h.2.1) ?_ ⟨rfl,by omega,by simp [opF],by simpa [opF] using VL⟩
 rintro k ⟨_,_⟩ next ⟨rfl,hk,hx,hok⟩ hn
 simp only at hx
 subst hx
 refine zp (fun hc=>?_) (fun hc=>?_)
 ·have hlt:k<ds.length:=by simpa using hc
  have hdk:=hdB _ (List.getElem_mem hlt)
  have hsp:opF ds as=opF (ds.take k) as++(tF ds[k] as++opF (ds.drop (k+1)) as):=by
   conv=>lhs;rw [← List.take_append_drop k ds,List.drop_eq_getElem_cons hlt,show ds[k] :: ds.drop (k+1)=[ds[k]]++ds.drop (k+1) from rfl,zc0,zc0,zfG]
  refine zr k rfl hlt ?_
  refine z6 as.length (fun s=>s.2) (fun j (s:List za×Int)=>s.2=(j:Int)∧j≤as.length∧s.1=opF (ds.take k) as++tF ds[k] (as.take j)∧okR (opF (ds.take k) as++tF ds[k] (as.take j))) (fun k s h=>h.1) (fun k s h=>h.2.1) ?_ ⟨rfl,by omega,by simp [tF],by simpa [tF] using hok⟩
  rintro j ⟨_,_⟩ next2 ⟨rfl,hj,hx,hok2⟩ hn2
  simp only at hx
  subst hx
  refine zp (fun hc2=>?_) (fun hc2=>?_)
  ·have hjl:j<as.length:=by simpa using hc2
   have haj:=hcB _ (List.getElem_mem hjl)
   have hs2:tF ds[k] as=tF ds[k] (as.take j)++((if em4 (xJ ds[k] as[j]) then [] else [xJ ds[k] as[j]])++tF ds[k] (as.drop (j+1))):=by
    conv=>lhs;rw [← List.take_append_drop j as,List.drop_eq_getElem_cons hjl,show as[j] :: as.drop (j+1)=[as[j]]++as.drop (j+1) from rfl,zgV,zgV,ziP]
   have hs3:tF ds[k] (as.take (j+1))=tF ds[k] (as.take j)++(if em4 (xJ ds[k] as[j]) then [] else [xJ ds[k] as[j]]):=by
    rw [List.take_succ_eq_append_getElem hjl,zgV,ziP]
   have hl4:=hok2.2
   refine jW (zr j rfl hjl (zcu hdk haj (zp (fun e=>?_) (fun e=>?_))))
   ·have e':em4 (xJ ds[k] as[j])=true:=by simpa using e
    rw [if_pos e',List.append_nil] at hs3
    refine zC (by omega) (by omega) (hn2 hjl _ ⟨by simp,by omega,?_,?_⟩)
    ·rw [hs3]
    ·rw [hs3];exact hok2
   ·have e':em4 (xJ ds[k] as[j])=false:=by simpa using e
    rw [if_neg (by simp [e'])] at hs2 hs3
    refine zhI hdk haj ?_
    by_cases hm:F4 (xJ ds[k] as[j])
    ·rw [show zgU (xJ ds[k] as[j])=(xJ ds[k] as[j],true) from if_pos hm]
     refine jG (zp (fun e2=>no (fun q=>?_)) (fun e2=>?_))
     ·have e3:=of_decide_eq_true e2
      have:=q.2
      rw [hsp,hs2] at this
      simp only [List.length_append,List.length_singleton] at this e3
      omega
     ·have e3:=of_decide_eq_false e2
      refine jn (by simp only [List.length_singleton];omega) (zC (by omega) (by omega) (hn2 hjl _ ⟨by simp,by omega,?_,?_⟩))
      ·rw [hs3,List.append_assoc]
      ·rw [hs3,← List.append_assoc]
       refine ⟨yo.2 ⟨hok2.1,fun c hc=>by rw [List.mem_singleton] at hc;subst hc;exact hm⟩,?_⟩
       rw [List.length_append,List.length_singleton];omega
    ·rw [show zgU (xJ ds[k] as[j])=(zca,false) from if_neg hm]
     refine jq (no (fun q=>hm ?_))
     have:=q.1
     rw [hsp,hs2] at this
     exact this _ (by simp)
  ·have hjge:as.length≤j:=by simpa using hc2
   rw [List.take_of_length_le hjge] at hok2 ⊢
   refine zC (by omega) (by omega) (hn hlt _ ⟨by simp,by omega,?_,?_⟩)
   ·rw [List.take_succ_eq_append_getElem hlt,zc0,zfG]
   ·rw [List.take_succ_eq_append_getElem hlt,zc0,zfG];exact hok2
 ·have hge:ds.length≤k:=by simpa using hc
  rw [List.take_of_length_le hge] at hok ⊢
  rw [if_pos hok] at h
  exact h
theorem zee {a b:List zj} {ra rb:Bool} (hla:a.length≤100000) (hlb:b.length≤100000) (ha:IV a) (hb:IV b) {κ:List za×Bool→Prop} (h:κ (zj9 (opn a ra b rb))):Z3 a ra b rb κ:=by
 unfold Z3
 unfold opn at h
 refine zeV hla ha (zeV hlb hb ?_)
 cases hx:pt a ra with
 | none =>
  rw [hx] at h
  exact jW (jq (jq h))
 | some x =>
  cases hy:pt b rb with
  | none =>
   rw [hx,hy] at h
   exact jW (jG (jq h))
  | some y =>
   rw [hx,hy] at h
   simp only at h
   obtain ⟨hxI,hxl⟩:=zht ha hx
   obtain ⟨hyI,hyl⟩:=zht hb hy
   have hdB:=zhh hxI false
   have hcB:=zhh hyI true
   have hdl:=ziQ x false
   have hcl:=ziQ y true
   exact jW (jG (jG (zgY hdB hcB (by omega) (by omega) h)))
open Classical in
noncomputable def cv (s:zR):Option (List zj):=if SV s then cf s else none
theorem VR {s:zR} {l:List zj} (h:cv s=some l):SV s∧cf s=some l:=by
 unfold cv at h
 split at h
 ·rename_i q;exact ⟨q,h⟩
 ·cases h
theorem zjM {s:zR} (hs:SV s):cv s=cf s:=by unfold cv;rw [if_pos hs]
def ckO (o c:Option (List za)):Int:=match o,c with
 | some o,some c=>(if c=[] then 0 else 1)+(if o=[] then 0 else 2)
 | _,_=>4
noncomputable def ck (s t:zR):Int:=match cv s,cv t with
 | some a,some b=>ckO (opn a s.xAccept b t.xAccept) (opn b t.xAccept a s.xAccept)
 | _,_=>4
theorem zdH {s:zR} (hb:Bd s) {κ:List zj×Bool→Prop} (h1:∀ l,cv s=some l→κ (l,true)) (h2:cv s=none→κ ([],false)):uG s κ :=
 zad hb (fun hs l hl=>h1 l (by rw [zjM hs];exact hl)) (fun q=>h2 (by
  unfold cv
  split
  ·rename_i hs;exact q hs
  ·rfl))
theorem zgj {s:zR} {l:List zj} (h:cv s=some l):IV l∧l.length≤60:=zkQ (VR h).1 (VR h).2
theorem zml {α:Type} (l:List α):decide (0<(l.length:Int))=!decide (l=[]):=by
 cases l with
 | nil=>rfl
 | cons x l=>simp
theorem zbh {s t:zR} (hs:Bd s) (ht:Bd t) {κ:Int→Prop} (h:κ (ck s t)):ZX s t κ:=by
 unfold ZX
 unfold ck at h
 refine zdH hs (fun a ha=>zdH ht (fun b hb=>?_) (fun q=>?_)) (fun q=>?_)
 ·rw [ha,hb] at h
  obtain ⟨a1,a2⟩:=zgj ha
  obtain ⟨b1,b2⟩:=zgj hb
  refine jW (jG (jG (zee (by omega) (by omega) a1 b1 (zee (by omega) (by omega) b1 a1 ?_))))
  simp only [ckO] at h
  cases ho:opn a s.xAccept b t.xAccept with
  | none =>
   rw [ho] at h
   exact jW (jq (jq h))
  | some o =>
   cases hc:opn b t.xAccept a s.xAccept with
   | none =>
    rw [ho,hc] at h
    exact jW (jG (jq h))
   | some c =>
    rw [ho,hc] at h
    simp only at h
    refine jW (jG (jG (jW ?_)))
    show ifW (decide (0<(o.length:Int))) (ifW (decide (0<(c.length:Int))) _ _) _
    rw [zml,zml]
    by_cases e1:o=[] <;> by_cases e2:c=[] <;> simp only [e1,e2,decide_true,decide_false,if_true,if_false,Bool.not_true,Bool.not_false,Un,zcG] at h ⊢ <;> exact h
 ·rw [ha,q] at h
  exact jW (jG (jq h))
 ·rw [q] at h
  refine zdH ht (fun b hb=>?_) (fun q2=>?_)
  ·exact jW (jq (jq h))
  ·exact jW (jq (jq h))
end
section
open Go Go.Proofs
theorem zhT {s:zR} (hb:Bd s) {κ:List zJ×Bool→Prop} (h1:∀ l,cv s=some l→κ (l.map gf,true)) (h2:cv s=none→κ ([],false)):XE s κ :=
 zdF hb (fun hs l hl=>h1 l (by rw [zjM hs];exact hl)) (fun q=>h2 (by
  unfold cv
  split
  ·rename_i hs;exact q hs
  ·rfl))
theorem zkD {s t:zR}:ck s t=4∨∃ a b o c,cv s=some a∧cv t=some b∧opn a s.xAccept b t.xAccept=some o∧opn b t.xAccept a s.xAccept=some c∧ck s t=(if c=[] then 0 else 1)+(if o=[] then 0 else 2):=by
 unfold ck
 cases ha:cv s with
 | none=>exact .inl rfl
 | some a =>
  cases hb:cv t with
  | none=>exact .inl rfl
  | some b =>
   unfold ckO
   simp only
   cases ho:opn a s.xAccept b t.xAccept with
   | none=>exact .inl rfl
   | some o =>
    cases hc:opn b t.xAccept a s.xAccept with
    | none=>exact .inl rfl
    | some c=>exact .inr ⟨a,b,o,c,rfl,rfl,ho,hc,rfl⟩
theorem zhr {s t:zR} {a b:List zj} (ha:cv s=some a) (hb:cv t=some b) {o:List za} (h:opn a s.xAccept b t.xAccept=some o):o≠[]↔∃ p,pv p∧jdg s p=false∧jdg t p=true:=by
 rw [zk9 (zgj ha).1 (zgj hb).1 h]
 obtain ⟨s1,a1⟩:=VR ha
 obtain ⟨t1,b1⟩:=VR hb
 constructor
 ·rintro ⟨p,hp,k1,k2⟩
  exact ⟨p,hp,by rw [zeb s1 a1 hp];exact k1,by rw [zeb t1 b1 hp];exact k2⟩
 ·rintro ⟨p,hp,k1,k2⟩
  exact ⟨p,hp,by rw [← zeb s1 a1 hp];exact k1,by rw [← zeb t1 b1 hp];exact k2⟩
theorem zkg {s t:zR} (h:SV s→SV t→∀ p,pv p→jdg s p=jdg t p):ck s t=0∨ck s t=4:=by
 rcases zkD (s:=s) (t:=t) with e | ⟨a,b,o,c,ha,hb,ho,hc,e⟩
 ·exact .inr e
 ·have hh:=h (VR ha).1 (VR hb).1
  have e1:o=[]:=by
   by_cases q:o=[]
   ·exact q
   ·obtain ⟨p,hp,k1,k2⟩:=(zhr ha hb ho).1 q
    rw [hh p hp,k2] at k1;cases k1
  have e2:c=[]:=by
   by_cases q:c=[]
   ·exact q
   ·obtain ⟨p,hp,k1,k2⟩:=(zhr hb ha hc).1 q
    rw [hh p hp,k1] at k2;cases k2
  rw [if_pos e1,if_pos e2] at e
  exact .inl e
end
section
open Go Go.Proofs
theorem zdI {a:List ze} {κ:Bool→Prop} (hb:Sx1 a) (h:κ true):XY a a κ:=by
 unfold XY
 have:a.length≤1048576:=hb
 refine zp (fun hc=>by simp at hc) (fun _=>zdr a (by omega) h _ (fun nx t g ht hf=>zp (fun hc=>?_) (fun hc=>hf (by simpa using hc))))
 have hlt:t<a.length:=by simpa using hc
 obtain ⟨hm,hn⟩:=ht a[t] (by simp [hlt])
 exact zr t rfl hlt (zr t rfl hlt (zp (fun hc=>by simp at hc) (fun _=>zC (by omega) (by omega) hn)))
theorem zfZ {b:jd} {κ:Bool→Prop} (hb:Sx2 b.xSides) (h:κ true):YX b b κ:=by
 unfold YX
 have:=hb.1
 refine zp (fun hc=>by simp at hc) (fun _=>zdr b.xSides (by omega) h _ (fun nx t g ht hf=>zp (fun hc=>?_) (fun hc=>hf (by simpa using hc))))
 have hlt:t<b.xSides.length:=by simpa using hc
 obtain ⟨hm,hn⟩:=ht b.xSides[t] (by simp [hlt])
 exact zr t rfl hlt (zr t rfl hlt (zdI (hb.2 _ hm) (jG (zC (by omega) (by omega) hn))))
theorem zay {a:List zJ} {κ:Bool→Prop} (hb:Sx4 a) (h:κ true):XO a a κ:=by
 unfold XO
 have:=hb.1
 refine zp (fun hc=>by simp at hc) (fun _=>zdr a (by omega) h _ (fun nx t g ht hf=>zp (fun hc=>?_) (fun hc=>hf (by simpa using hc))))
 have hlt:t<a.length:=by simpa using hc
 obtain ⟨hm,hn⟩:=ht a[t] (by simp [hlt])
 refine jW (zr t rfl hlt (zr t rfl hlt (zp (fun hc=>by simp at hc) (fun _=>zr t rfl hlt (zr t rfl hlt (zfZ (hb.2 _ hm) ?_))))))
 exact jG (zC (by omega) (by omega) hn)
theorem zka {s:zR} (hb:Bd s) {κ:List zJ×Bool→Prop} (h1:∀ l,cv s=some l→κ (l.map gf,true)) (h2:cv s=none→κ ([],false)):Xz s κ :=
 zd1 hb (fun hs l hl=>h1 l (by rw [zjM hs];exact hl)) (fun q=>h2 (by
  unfold cv
  split
  ·rename_i hs;exact q hs
  ·rfl))
theorem zal (code:List UInt8):ZN code (fun r=>r=true):=by
 unfold ZN
 refine zp (fun _=>rfl) (fun hm=>?_)
 unfold Ys
 refine zij (fun b hb=>zfD hb (by omega) (fun s p' hl hd=>?_))
 have hbd:=zlZ hl hd
 refine zka hbd (fun l hl=>zhT hbd (fun l2 hl2=>?_) (fun q=>by rw [hl] at q;cases q)) (fun q=>zhT hbd (fun l2 hl2=>by rw [q] at hl2;cases hl2) (fun _=>?_))
 ·rw [hl] at hl2;injection hl2 with hl2;subst hl2
  obtain ⟨hs,hc⟩:=VR hl
  obtain ⟨i1,i2⟩:=zgj hl
  have hF:=zeX i1 i2
  refine jW (zay hF.sx (jG (zp (fun e=>by simp at e) (fun _=>?_))))
  by_cases h:zjI (l.map gf)
  ·refine Yu hF.fb (fun _=>jW (jG (jG ?_))) (fun q=>absurd h q)
   have hbs:Bs (frS (l.map gf) s.xAccept).xChains:=zlN h.2.1
   refine zbh hbd hbs.bd ?_
   have hk:ck s (frS (l.map gf) s.xAccept)=0∨ck s (frS (l.map gf) s.xAccept)=4:=zkg (fun _ _ p hp=>by rw [zlt hp h,zig,zeb hs hc hp])
   refine jW ?_
   rcases hk with e | e
   ·rw [e];exact jq rfl
   ·rw [e];exact jG rfl
  ·exact Yu hF.fb (fun q=>absurd q h) (fun _=>jW (jG (jq (zfV rfl))))
 ·refine jW (zay zkx (jG (zp (fun e=>by simp at e) (fun _=>?_))))
  have hF:FV []:=⟨by simp,by simp⟩
  exact Yu hF.fb (fun _=>jW (jq (jq (zfV rfl)))) (fun _=>jW (jq (jq (zfV rfl))))
end
end Go.Proofs.YtgpdnnhmndlljaaGreatDoor
