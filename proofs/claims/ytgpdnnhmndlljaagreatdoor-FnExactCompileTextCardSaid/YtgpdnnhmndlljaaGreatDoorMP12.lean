import Derived.Test.YtgpdnnhmndlljaaGreatDoorMP1
set_option linter.unusedSimpArgs false
set_option linter.unusedVariables false
set_option linter.unusedSectionVars false
namespace Go.Proofs.YtgpdnnhmndlljaaGreatDoor
section
theorem zgM {rules:List zr} {κ:List Int→Prop} (hl:rules.length≤8) (hv:∀ r,r∈rules→RV r) (h:∀ ys:List Int,ys.length≤5→(∀ x,x∈ys↔∃ r,r∈rules∧r.xAction=3∧r.xChain=x)→κ ys):Yv rules κ:=by
 unfold Yv
 refine zK rules.length (fun s=>s.2) (fun k s=>s.2=(k:Int)∧k≤rules.length∧s.1.length=5∧∀ i:Nat,i<5→(s.1[i]?=some true↔∃ r,r∈rules.take k∧r.xAction=3∧r.xChain=(i:Int))) (fun k s h=>h.1) (fun k s h=>h.2.1) ?_ ⟨rfl,Nat.zero_le _,rfl,fun i hi=>?_⟩
 ·rintro k ⟨xs,_⟩ next ⟨rfl,hk,hx,he⟩ hn
  simp only at hx he
  refine zi (fun hc=>?_) (fun hc=>?_)
  ·have hlt:k<rules.length:=by simpa using hc
   have hrv:=hv _ (List.getElem_mem hlt)
   have htk:∀ r,r∈rules.take (k+1)↔r∈rules.take k∨r=rules[k]:=fun r=>by
    rw [List.take_succ_eq_append_getElem hlt,List.mem_append,List.mem_singleton]
   unfold jnW
   refine zp k rfl hlt (zi (fun h3=>?_) (fun h3=>?_))
   ·simp at h3
    have hch:=hrv.2.2.2.1 h3
    obtain ⟨m,hm⟩:=Int.eq_ofNat_of_zero_le hch.1
    refine zln hch.1 (by rw [hx];omega) (fun _ _=>zz (by omega) (by omega) (hn hlt _ ⟨by simp,by omega,by simpa using hx,fun i hi=>?_⟩))
    simp only [htk]
    rw [hm,Int.toNat_natCast]
    by_cases e:i=m
    ·subst e
     simp only [List.getElem?_set_self (show i<xs.length by omega),true_iff]
     exact ⟨_,.inr rfl,h3,hm⟩
    ·rw [List.getElem?_set_ne (by omega),he i hi]
     constructor
     ·rintro ⟨r,h1,h2⟩;exact ⟨r,.inl h1,h2⟩
     ·rintro ⟨r,h1 | rfl,h2,h4⟩
      ·exact ⟨r,h1,h2,h4⟩
      ·omega
   ·simp at h3
    refine zz (by omega) (by omega) (hn hlt _ ⟨by simp,by omega,hx,fun i hi=>?_⟩)
    simp only [htk]
    rw [he i hi]
    constructor
    ·rintro ⟨r,h1,h2⟩;exact ⟨r,.inl h1,h2⟩
    ·rintro ⟨r,h1 | rfl,h2,h4⟩
     ·exact ⟨r,h1,h2,h4⟩
     ·exact absurd h2 h3
  ·have hge:rules.length≤k:=by simpa using hc
   rw [List.take_of_length_le hge] at he
   obtain ⟨e0,e1,e2,e3,e4,rfl⟩:∃ a b c d e,xs=[a,b,c,d,e]:=by
    match xs,hx with
    | [a,b,c,d,e],_=>exact ⟨a,b,c,d,e,rfl⟩
   refine ⟨e0,e1,e2,e3,e4,rfl,?_⟩
   refine zK 5 (fun s=>s.2) (fun j s=>s.2=(j:Int)∧j≤5∧s.1.length≤j∧∀ x,x∈s.1↔∃ i:Nat,i<j∧x=(i:Int)∧[e0,e1,e2,e3,e4][i]?=some true) (fun j s h=>h.1) (fun j s h=>h.2.1) ?_ ⟨rfl,Nat.zero_le _,by simp,by simp⟩
   rintro j ⟨ys,_⟩ next2 ⟨rfl,hj,hyl,hy⟩ hn2
   simp only at hyl hy
   refine zi (fun hc2=>?_) (fun hc2=>?_)
   ·have hj5:j<5:=by simp at hc2;omega
    have hjl:j<[e0,e1,e2,e3,e4].length:=by simpa using hj5
    unfold jnW
    refine zp j rfl hjl (zi (fun h3=>?_) (fun h3=>?_))
    ·refine jj (by simp;omega) (zz (by omega) (by omega) (hn2 hj5 _ ⟨by simp,by omega,by simp;omega,fun x=>?_⟩))
     simp only [List.mem_append,List.mem_singleton,hy]
     constructor
     ·rintro (⟨i,h1,h2,h4⟩ | rfl)
      ·exact ⟨i,by omega,h2,h4⟩
      ·exact ⟨j,by omega,rfl,by rw [List.getElem?_eq_getElem hjl,h3]⟩
     ·rintro ⟨i,h1,h2,h4⟩
      by_cases e:i=j
      ·subst e;exact .inr h2
      ·exact .inl ⟨i,by omega,h2,h4⟩
    ·refine zz (by omega) (by omega) (hn2 hj5 _ ⟨by simp,by omega,by simp only;omega,fun x=>?_⟩)
     simp only [hy]
     constructor
     ·rintro ⟨i,h1,h2,h4⟩;exact ⟨i,by omega,h2,h4⟩
     ·rintro ⟨i,h1,h2,h4⟩
      by_cases e:i=j
      ·subst e;rw [List.getElem?_eq_getElem hjl,h3] at h4;simp at h4
      ·exact ⟨i,by omega,h2,h4⟩
   ·have hj5:j=5:=by simp at hc2;omega
    subst hj5
    refine h ys hyl (fun x=>?_)
    rw [hy]
    constructor
    ·rintro ⟨i,h1,rfl,h4⟩;exact (he i h1).1 h4
    ·rintro ⟨r,h1,h2,rfl⟩
     have hch:=(hv r h1).2.2.2.1 h2
     obtain ⟨m,hm⟩:=Int.eq_ofNat_of_zero_le hch.1
     exact ⟨m,by omega,hm,(he m (by omega)).2 ⟨r,h1,h2,hm⟩⟩
 ·constructor
  ·intro hh
   have:i=0∨i=1∨i=2∨i=3∨i=4:=by omega
   rcases this with rfl | rfl | rfl | rfl | rfl <;> simp at hh
  ·rintro ⟨r,h1,_⟩;simp at h1
def Co (cols:List Int):Prop:=cols.length=5∧∀ x,x∈cols→x=0∨x=1∨x=2
theorem zlX {cols:List Int} {i:Nat} {v:Int} (h:Co cols) (hv:v=0∨v=1∨v=2):Co (cols.set i v):=⟨by rw [List.length_set];exact h.1,fun x hx=>by
 rcases List.mem_or_eq_of_mem_set hx with hx | rfl
 ·exact h.2 x hx
 ·exact hv⟩
structure Vi (cs:List (List zr)) (c:Nat) (cols:List Int) (ok:Bool) (cols':List Int):Prop where
 co:Co cols'
 black:∀ i:Nat,cols[i]?=some 2→cols'[i]?=some 2
 grey:∀ i:Nat,cols'[i]?=some 1↔cols[i]?=some 1
 white:cols'.count 0≤cols.count 0
 good:ok=true→(∀ i:Nat,cols[i]?=some 2→Sf cs i)→(∀ i:Nat,cols'[i]?=some 2→Sf cs i)∧(c<cs.length→cols'[c]?=some 2)
 bad:ok=false→(∀ g:Nat,cols[g]?=some 1→Wy cs g c)→∃ i,i<cs.length∧¬ Sf cs i
theorem zj8 {cols:List Int} (h:cols.length=5):cols.count 0≤5:=by have:=List.count_le_length (a:=(0:Int)) (l:=cols);omega
theorem zhO {cs:List (List zr)} (ht:Tw cs):∀ (n c:Nat) (cols:List Int) (κ:Bool×List Int→Prop),Co cols→cols.count 0<n →
  (∀ ok cols',Vi cs c cols ok cols'→κ (ok,cols'))→yl n cs (c:Int) cols κ
 | 0,c,cols,κ,hco,hw,h=>by omega
 | n+1,c,cols,κ,hco,hw,h=>by
  have hn5:=ht.1
  show X8 (yl n) cs (c:Int) cols κ
  unfold X8
  refine zi (fun hx=>h _ _ ⟨hco,fun i hi=>hi,fun i=>Iff.rfl,Nat.le_refl _,fun _ hb=>⟨hb,fun hlt=>by simp at hx;omega⟩,fun e=>by cases e⟩) (fun hx=>?_)
  have hc:c<cs.length:=by simp at hx;omega
  have hcl:c<cols.length:=by rw [hco.1];omega
  refine zp c rfl hcl (zi (fun h1=>?_) (fun h1=>zi (fun h2=>?_) (fun h2=>?_)))
  ·have e1:cols[c]?=some 1:=by rw [List.getElem?_eq_getElem hcl];simpa using h1
   exact h _ _ ⟨hco,fun i hi=>hi,fun i=>Iff.rfl,Nat.le_refl _,fun e=>(by cases e),fun _ hg=>⟨c,hc,fun hs=>zjB hs (hg c e1)⟩⟩
  ·have e2:cols[c]?=some 2:=by rw [List.getElem?_eq_getElem hcl];simpa using h2
   exact h _ _ ⟨hco,fun i hi=>hi,fun i=>Iff.rfl,Nat.le_refl _,fun _ hb=>⟨hb,fun _=>e2⟩,fun e=>by cases e⟩
  ·have e0:cols[c]=0:=by
    have:=hco.2 _ (List.getElem_mem hcl)
    simp at h1 h2;omega
   have e0':cols[c]?=some 0:=by rw [List.getElem?_eq_getElem hcl,e0]
   have hcs:cs[c]?=some cs[c]:=List.getElem?_eq_getElem hc
   have hch:=ht.2 _ (List.getElem_mem hc)
   refine zp c rfl hcl (zp c rfl hc (zgM hch.1 hch.2 (fun ys hyl hys=>?_)))
   have hca:∀ j:Nat,Ca cs c j↔(j:Int)∈ys:=fun j=>by
    rw [hys]
    constructor
    ·rintro ⟨c',h1,r,h2,h3⟩
     rw [hcs] at h1;cases h1
     exact ⟨r,h2,h3⟩
    ·rintro ⟨r,h2,h3⟩;exact ⟨_,hcs,r,h2,h3⟩
   have hcount:(cols.set c 1).count 0+1=cols.count 0:=by
    rw [List.count_set hcl]
    have:0<cols.count 0:=List.count_pos_iff.2 (by rw [← e0];exact List.getElem_mem hcl)
    simp [e0];omega
   have set1:∀ i:Nat,(cols.set c 1)[i]?=if i=c then some 1 else cols[i]?:=fun i=>by
    by_cases e:i=c
    ·subst e;simp [hcl]
    ·rw [List.getElem?_set_ne (by omega),if_neg e]
   refine zK ys.length (fun s=>s.2.2) (fun k s=>s.2.2=(k:Int)∧k≤ys.length∧Co s.1∧(∀ i:Nat,cols[i]?=some 2→s.1[i]?=some 2)∧(∀ i:Nat,s.1[i]?=some 1↔(cols.set c 1)[i]?=some 1)∧s.1.count 0≤(cols.set c 1).count 0 ∧
    (s.2.1=true→(∀ i:Nat,cols[i]?=some 2→Sf cs i)→(∀ i:Nat,s.1[i]?=some 2→Sf cs i)∧∀ j:Nat,(j:Int)∈ys.take k→j<cs.length→s.1[j]?=some 2) ∧
    (s.2.1=false→(∀ g:Nat,cols[g]?=some 1→Wy cs g c)→∃ i,i<cs.length∧¬ Sf cs i)) (fun k s h=>h.1) (fun k s h=>h.2.1) ?_
    ⟨rfl,Nat.zero_le _,zlX hco (by simp),fun i hi=>?_,fun i=>Iff.rfl,Nat.le_refl _,fun _ hb=>⟨fun i hi=>?_,by simp⟩,fun e=>by cases e⟩
   ·rintro k ⟨X,ok,_⟩ next ⟨rfl,hk,xco,xb,xg,xw,xgood,xbad⟩ hnx
    simp only at xco xb xg xw xgood xbad
    refine zi (fun hlt=>?_) (fun hlt=>?_)
    ·have hlt:k<ys.length:=by simpa using hlt
     obtain ⟨r,hr,hr3,hrc⟩:=(hys ys[k]).1 (List.getElem_mem hlt)
     have hrv:=hch.2 r hr
     have hcc:=hrv.2.2.2.1 hr3
     obtain ⟨j,hj⟩:=Int.eq_ofNat_of_zero_le hcc.1
     have ej:ys[k]=(j:Int):=by omega
     have hcj:Ca cs c j:=⟨_,hcs,r,hr,hr3,hj⟩
     unfold jnW
     refine zp k rfl hlt ?_
     rw [ej]
     refine zhO ht n j X _ xco (by omega) (fun ok' X' v=>?_)
     have fin:∀ o:Bool,(o=true→ok=true∧ok'=true)→(o=false→ok=false∨ok'=false)→jh (k:Int) 1 (fun t93=>next (X',o,t93)):=by
      intro o ho1 ho2
      refine zz (by omega) (by omega) (hnx hlt _ ⟨by simp,by omega,v.co,fun i hi=>v.black i (xb i hi),fun i=>(v.grey i).trans (xg i),Nat.le_trans v.white xw,fun e hb=>?_,fun e hg=>?_⟩)
      ·obtain ⟨g1,g2⟩:=ho1 e
       obtain ⟨q1,q2⟩:=xgood g1 hb
       obtain ⟨q3,q4⟩:=v.good g2 q1
       refine ⟨q3,fun i hi hil=>?_⟩
       rw [List.take_succ_eq_append_getElem hlt,List.mem_append,List.mem_singleton] at hi
       rcases hi with hi | hi
       ·exact v.black i (q2 i hi hil)
       ·have:i=j:=by omega
        subst this;exact q4 hil
      ·rcases ho2 e with e1 | e1
       ·exact xbad e1 hg
       ·refine v.bad e1 (fun g hgx=>?_)
        rw [xg,set1] at hgx
        by_cases e2:g=c
        ·subst e2;exact .one hcj
        ·rw [if_neg e2] at hgx;exact .more (hg g hgx) hcj
     refine zi (fun e=>fin false (fun e=>by cases e) (fun _=>.inr (by simpa using e))) (fun e=>fin ok (fun e1=>⟨e1,by simpa using e⟩) (fun e1=>.inl e1))
    ·have hge:ys.length≤k:=by simpa using hlt
     rw [List.take_of_length_le hge] at xgood
     have hxl:c<X.length:=by rw [xco.1];omega
     have set2:∀ i:Nat,(X.set c 2)[i]?=if i=c then some 2 else X[i]?:=fun i=>by
      by_cases e:i=c
      ·subst e;simp [hxl]
      ·rw [List.getElem?_set_ne (by omega),if_neg e]
     have xc1:X[c]?=some 1:=by rw [xg,set1,if_pos rfl]
     refine zp c rfl hxl ?_
     rw [Int.toNat_natCast]
     refine h _ _ ⟨zlX xco (by simp),fun i hi=>?_,fun i=>?_,?_,fun e hb=>?_,fun e hg=>xbad e hg⟩
     ·rw [set2];split
      ·rfl
      ·exact xb i hi
     ·rw [set2]
      by_cases e:i=c
      ·subst e;rw [if_pos rfl,e0'];simp
      ·rw [if_neg e,xg,set1,if_neg e]
     ·rw [List.count_set hxl]
      have:X[c]=1:=by rw [List.getElem?_eq_getElem hxl] at xc1;exact Option.some.inj xc1
      simp [this];omega
     ·obtain ⟨q1,q2⟩:=xgood e hb
      have sc:Sf cs c:=zgF (fun j hj=>by
       by_cases hjl:j<cs.length
       ·exact q1 j (q2 j ((hca j).1 hj) hjl)
       ·exact zkG (by omega))
      refine ⟨fun i hi=>?_,fun _=>by rw [set2,if_pos rfl]⟩
      rw [set2] at hi
      by_cases e:i=c
      ·subst e;exact sc
      ·rw [if_neg e] at hi;exact q1 i hi
   ·show (cols.set c 1)[i]?=some 2
    rw [set1]
    by_cases e:i=c
    ·subst e;rw [e0'] at hi;simp at hi
    ·rw [if_neg e];exact hi
   ·change (cols.set c 1)[i]?=some 2 at hi
    rw [set1] at hi
    by_cases e:i=c
    ·subst e;simp at hi
    ·rw [if_neg e] at hi;exact hb i hi
theorem zgU {cs:List (List zr)} {κ:Bool→Prop} (ht:Tw cs) (h1:(∀ i,i<cs.length→Sf cs i)→κ true) (h2:(¬ ∀ i,i<cs.length→Sf cs i)→κ false):Yw cs κ:=by
 unfold Yw
 have hn5:=ht.1
 refine zK cs.length (fun s=>s.2) (fun k s=>s.2=(k:Int)∧k≤cs.length∧Co s.1∧(∀ i:Nat,s.1[i]?≠some 1)∧(∀ i:Nat,s.1[i]?=some 2→Sf cs i)∧(∀ i:Nat,i<k→s.1[i]?=some 2)) (fun k s h=>h.1) (fun k s h=>h.2.1) ?_ ⟨rfl,Nat.zero_le _,⟨rfl,by simp⟩,fun i=>?_,fun i hi=>?_,fun i hi=>by omega⟩
 ·rintro k ⟨X,_⟩ next ⟨rfl,hk,xco,xg,xs,xk⟩ hn
  simp only at xco xg xs xk
  refine zi (fun hc=>?_) (fun hc=>?_)
  ·have hlt:k<cs.length:=by simpa using hc
   refine ⟨6,zhO ht 6 k X _ xco (by have:=zj8 xco.1;omega) (fun ok X' v=>?_)⟩
   refine zi (fun e=>h2 (fun hall=>?_)) (fun e=>zz (by omega) (by omega) (hn hlt _ ⟨by simp,by omega,v.co,fun i hi=>xg i ((v.grey i).1 hi),(v.good (by simpa using e) xs).1,fun i hi=>?_⟩))
   ·obtain ⟨i,hi,hns⟩:=v.bad (by simpa using e) (fun g hg=>absurd hg (xg g))
    exact hns (hall i hi)
   ·by_cases e2:i=k
    ·subst e2;exact (v.good (by simpa using e) xs).2 hlt
    ·exact v.black i (xk i (by omega))
  ·have hge:cs.length≤k:=by simpa using hc
   exact h1 (fun i hi=>xs i (xk i (by omega)))
 ·have:i=0∨i=1∨i=2∨i=3∨i=4∨5≤i:=by omega
  rcases this with rfl | rfl | rfl | rfl | rfl | h <;> simp
  rw [List.getElem?_eq_none (by simpa using h)];simp
 ·have:i=0∨i=1∨i=2∨i=3∨i=4∨5≤i:=by omega
  rcases this with rfl | rfl | rfl | rfl | rfl | h
  ·simp at hi
  ·simp at hi
  ·simp at hi
  ·simp at hi
  ·simp at hi
  ·rw [List.getElem?_eq_none (by simpa using h)] at hi;cases hi
end
section
def Rdy (cs:List (List zr)) (D:List Bool) (i:Nat):Prop:=∀ j,Ca cs i j→D[j]?=some true
theorem zoD {cs:List (List zr)} (ht:Tg cs) {i j:Nat} (h:Ca cs i j):i<cs.length∧j<cs.length:=by
 obtain ⟨c,h1,r,h2,h3,h4⟩:=h
 have hm:=List.mem_of_getElem? h1
 have:=(ht.2 c hm).2 r h2
 exact ⟨(List.getElem?_eq_some_iff.1 h1).1,by have:=this.2;omega⟩
theorem zij {cs:List (List zr)} (ht:Tg cs) {D:List Bool} (hst:∀ i,i<cs.length→Rdy cs D i→D[i]?=some true) {i:Nat} (hs:Sf cs i):i<cs.length→D[i]?=some true:=by
 induction hs with
 | intro x _ ih=>exact fun hx=>hst x hx (fun j hj=>ih j hj (zoD ht hj).2)
theorem zki {D:List Bool} (h:∀ i,i<D.length→D[i]?=some true):D.count true=D.length:=by
 rw [List.count_eq_length]
 intro b hb
 obtain ⟨i,hi⟩:=List.getElem?_of_mem hb
 have:=h i (List.getElem?_eq_some_iff.1 hi).1
 rw [hi] at this;exact (Option.some.inj this).symm
theorem zkf {D:List Bool} (h:D.count true=D.length) {i:Nat} (hi:i<D.length):D[i]?=some true:=by
 rw [List.getElem?_eq_getElem hi]
 exact congrArg some (List.count_eq_length.1 h _ (List.getElem_mem hi)).symm
theorem zks {s:zD} {κ:List Int→Prop} (ht:Tg s.xChains) (h1:(∀ i,i<s.xChains.length→Sf s.xChains i)→∀ ys:List Int,ys.length=s.xChains.length→κ ys) (h2:(¬ ∀ i,i<s.xChains.length→Sf s.xChains i)→∀ ys:List Int,ys.length≠s.xChains.length→κ ys):Uz s κ:=by
 have hn5:=ht.1
 generalize hcs:s.xChains=cs at *
 unfold Uz
 rw [hcs]
 refine V6 cs.length rfl (by omega) (by omega) ?_
 refine zK cs.length (fun s=>s.2.2) (fun k s=>s.2.2=(k:Int)∧k≤cs.length∧s.1.length=cs.length∧s.2.1.length=s.1.count true∧(∀ i:Nat,s.1[i]?=some true→Sf cs i)∧(k≤s.1.count true∨∀ i,i<cs.length→Rdy cs s.1 i→s.1[i]?=some true)) (fun k s h=>h.1) (fun k s h=>h.2.1) ?_
  ⟨rfl,Nat.zero_le _,by simp,by simp [List.count_replicate],fun i hi=>?_,.inl (Nat.zero_le _)⟩
 ·rintro k ⟨D0,ys0,_⟩ next ⟨rfl,hk,hD0,hy0,hs0,hst0⟩ hnx
  simp only at hD0 hy0 hs0 hst0
  refine zi (fun hc=>?_) (fun hc=>?_)
  ·have hltk:k<cs.length:=by simpa using hc
   refine zK cs.length (fun s=>s.2.2) (fun m s=>s.2.2=(m:Int)∧m≤cs.length∧s.1.length=cs.length∧s.2.1.length=s.1.count true∧(∀ i:Nat,s.1[i]?=some true→Sf cs i)∧(∀ i:Nat,D0[i]?=some true→s.1[i]?=some true)∧(s.1=D0∨D0.count true<s.1.count true)∧(∀ i,i<m→Rdy cs D0 i→s.1[i]?=some true)) (fun k s h=>h.1) (fun k s h=>h.2.1) ?_
    ⟨rfl,Nat.zero_le _,hD0,hy0,hs0,fun i hi=>hi,.inl rfl,fun i hi=>by omega⟩
   rintro m ⟨D,ys,_⟩ next2 ⟨rfl,hm,hD,hy,hs,hmono,hcnt,hrd⟩ hn2
   simp only at hD hy hs hmono hcnt hrd
   have hDc:D.count true≤5:=by have:=List.count_le_length (a:=true) (l:=D);omega
   refine zi (fun hc2=>?_) (fun hc2=>?_)
   ·have hlt:m<cs.length:=by simpa using hc2
    have hmD:m<D.length:=by omega
    have hch:=ht.2 _ (List.getElem_mem hlt)
    have hcm:cs[m]?=some cs[m]:=List.getElem?_eq_getElem hlt
    unfold jnW
    refine zp m rfl hmD ?_
    refine zK cs[m].length (fun s=>s.2) (fun j s=>s.2=(j:Int)∧j≤cs[m].length∧(s.1=true↔(D[m]=false∧∀ r,r∈cs[m].take j→r.xAction=3→D[r.xChain.toNat]?=some true))) (fun k s h=>h.1) (fun k s h=>h.2.1) ?_ ⟨rfl,Nat.zero_le _,by simp⟩
    rintro j ⟨fl,_⟩ next3 ⟨rfl,hj,hfl⟩ hn3
    simp only at hfl
    refine zp m rfl hlt (zi (fun hc3=>?_) (fun hc3=>?_))
    ·have hltj:j<cs[m].length:=by simpa using hc3
     have htk:∀ r,r∈cs[m].take (j+1)↔r∈cs[m].take j∨r=cs[m][j]:=fun r=>by
      rw [List.take_succ_eq_append_getElem hltj,List.mem_append,List.mem_singleton]
     have hrv:=hch.2 _ (List.getElem_mem hltj)
     refine zp m rfl hlt (zp j rfl hltj (zi (fun hf=>?_) (fun hf=>?_)))
     ·obtain ⟨f1,f2⟩:=hfl.1 hf
      refine zi (fun h3=>?_) (fun h3=>?_)
      ·refine zz (by omega) (by omega) (hn3 hltj _ ⟨by simp,by omega,⟨fun _=>⟨f1,fun r hr hr3=>?_⟩,fun _=>rfl⟩⟩)
       rcases (htk r).1 hr with hr | rfl
       ·exact f2 r hr hr3
       ·simp at h3;exact absurd hr3 h3
      ·have h3':cs[m][j].xAction=3:=by simpa using h3
       have hcc:=hrv.1.2.2.2.1 h3'
       have hc5:=hrv.2
       obtain ⟨q,hq⟩:=Int.eq_ofNat_of_zero_le hcc.1
       have hqD:q<D.length:=by omega
       refine zp q hq hqD (zz (by omega) (by omega) (hn3 hltj _ ⟨by simp,by omega,⟨fun e=>⟨f1,fun r hr hr3=>?_⟩,fun hh=>?_⟩⟩))
       ·rcases (htk r).1 hr with hr | rfl
        ·exact f2 r hr hr3
        ·rw [hq,Int.toNat_natCast,List.getElem?_eq_getElem hqD];exact congrArg some e
       ·have:=hh.2 _ ((htk _).2 (.inr rfl)) h3'
        rw [hq,Int.toNat_natCast,List.getElem?_eq_getElem hqD] at this
        exact Option.some.inj this
     ·refine zz (by omega) (by omega) (hn3 hltj _ ⟨by simp,by omega,⟨fun e=>(by cases e),fun hh=>?_⟩⟩)
      have:fl=true:=hfl.2 ⟨hh.1,fun r hr hr3=>hh.2 r ((htk r).2 (.inl hr)) hr3⟩
      rw [this] at hf;cases hf
    ·have hge:cs[m].length≤j:=by simpa using hc3
     rw [List.take_of_length_le hge] at hfl
     have rdy_of:∀ D':List Bool,Rdy cs D' m→∀ r,r∈cs[m]→r.xAction=3→D'[r.xChain.toNat]?=some true:=by
      intro D' hh r hr hr3
      have hcc:=(hch.2 r hr).1.2.2.2.1 hr3
      exact hh _ ⟨_,hcm,r,hr,hr3,by omega⟩
     refine zi (fun hf=>?_) (fun hf=>?_)
     ·obtain ⟨f1,f2⟩:=hfl.1 hf
      have hr:Rdy cs D m:=by
       rintro q ⟨c',e1,r,e2,e3,e4⟩
       rw [hcm] at e1;cases e1
       have:=f2 r e2 e3
       rw [e4] at this;simpa using this
      have set1:∀ i:Nat,(D.set m true)[i]?=if i=m then some true else D[i]?:=fun i=>by
       by_cases e:i=m
       ·subst e;simp [hmD]
       ·rw [List.getElem?_set_ne (by omega),if_neg e]
      have hcs':(D.set m true).count true=D.count true+1:=by
       rw [List.count_set hmD];simp [f1]
      refine zp m rfl hmD (jj (by simp;omega) (zz (by omega) (by omega) (hn2 hlt _ ⟨by simp,by omega,by simpa using hD,?_,fun i hi=>?_,fun i hi=>?_,.inr ?_,fun i hi hri=>?_⟩)))
      ·simp only [Int.toNat_natCast,hcs'];simp;omega
      ·simp only [Int.toNat_natCast,set1] at hi
       by_cases e:i=m
       ·subst e;exact zgF (fun j hj=>hs j (hr j hj))
       ·rw [if_neg e] at hi;exact hs i hi
      ·simp only [Int.toNat_natCast,set1];split
       ·rfl
       ·exact hmono i hi
      ·simp only [Int.toNat_natCast,hcs']
       rcases hcnt with rfl | h
       ·omega
       ·omega
      ·simp only [Int.toNat_natCast,set1];split
       ·rfl
       ·exact hrd i (by omega) hri
     ·refine zz (by omega) (by omega) (hn2 hlt _ ⟨by simp,by omega,hD,hy,hs,hmono,hcnt,fun i hi hri=>?_⟩)
      by_cases e:i=m
      ·subst e
       rw [List.getElem?_eq_getElem hmD]
       by_cases hDm:D[i]=false
       ·have:fl=true:=hfl.2 ⟨hDm,fun r hr hr3=>hmono _ (rdy_of D0 hri r hr hr3)⟩
        rw [this] at hf;cases hf
       ·simpa using hDm
      ·exact hrd i (by omega) hri
   ·have hme:m=cs.length:=by simp at hc2;omega
    subst hme
    refine zz (by omega) (by omega) (hnx hltk _ ⟨by simp,by omega,hD,hy,hs,?_⟩)
    rcases hcnt with rfl | hlt2
    ·exact .inr (fun i hi hri=>hrd i hi hri)
    ·rcases hst0 with h0 | h0
     ·exact .inl (by simp only;omega)
     ·refine .inr (fun i hi hri=>?_)
      exfalso
      have hall:∀ i:Nat,D[i]?=some true→D0[i]?=some true:=fun i hi=>zij ht h0 (hs i hi) (by have:=(List.getElem?_eq_some_iff.1 hi).1;omega)
      have heq:D=D0:=by
       apply List.ext_getElem?
       intro i
       by_cases hi:i<D.length
       ·rw [List.getElem?_eq_getElem hi,List.getElem?_eq_getElem (show i<D0.length by omega)]
        cases hb:D[i] with
        | true =>
         have:=hall i (by rw [List.getElem?_eq_getElem hi,hb])
         rw [List.getElem?_eq_getElem (show i<D0.length by omega)] at this
         exact this.symm
        | false =>
         cases hb0:D0[i]'(by omega) with
         | false=>rfl
         | true =>
          have:=hmono i (by rw [List.getElem?_eq_getElem (show i<D0.length by omega),hb0])
          rw [List.getElem?_eq_getElem hi,hb] at this
          exact this
       ·rw [List.getElem?_eq_none (by omega),List.getElem?_eq_none (by omega)]
      rw [heq] at hlt2;omega
  ·have hge:k=cs.length:=by simp at hc;omega
   subst hge
   have hle:=List.count_le_length (a:=true) (l:=D0)
   by_cases hcn:D0.count true=cs.length
   ·exact h1 (fun i hi=>hs0 i (zkf (by omega) (by omega))) ys0 (by omega)
   ·refine h2 (fun hall=>?_) ys0 (by omega)
    rcases hst0 with h0 | h0
    ·omega
    ·exact hcn ((zki (fun i hi=>zij ht h0 (hall i (by omega)) (by omega))).trans hD0)
 ·exfalso
  simp only [List.getElem?_replicate] at hi
  split at hi <;> simp at hi
end
section
open Go.Lib (decDigits)
def RsV (c:List zr):Prop:=c.length≤8∧∀ r,r∈c→RV r
def SV (s:zD):Prop:=Tg s.xChains∧1≤s.xChains.length∧∀ i,i<s.xChains.length→Sf s.xChains i
def Bc (c:List zr):Prop:=c.length≤4294967296∧∀ r,r∈c→r.xTests.length≤4294967296
def Bd (s:zD):Prop:=s.xChains.length≤4294967296∧∀ c,c∈s.xChains→Bc c
theorem V4 {α:Type} {l:List α} {k:Nat} (h:k<l.length) (x:α):x∈l.take (k+1)↔x∈l.take k∨x=l[k]:=by
 rw [List.take_succ_eq_append_getElem h,List.mem_append,List.mem_singleton]
theorem zdn {c:List zr} {κ:Bool→Prop} (hb:Bc c) (h:∀ b,(b=true↔RsV c)→κ b):Yd c κ:=by
 have hl:=hb.1
 unfold Yd
 refine zi (fun hc=>h _ ⟨fun e=>(by cases e),fun hh=>by have:=hh.1;simp at hc;omega⟩) (fun hc0=>?_)
 simp at hc0
 refine zK c.length (fun s=>s) (fun k s=>s=(k:Int)∧k≤c.length∧∀ r,r∈c.take k→RV r) (fun k s h=>h.1) (fun k s h=>h.2.1) ?_ ⟨rfl,Nat.zero_le _,by simp⟩
 rintro k _ next ⟨rfl,hk,he⟩ hn
 refine zi (fun hc=>?_) (fun hc=>?_)
 ·have hlt:k<c.length:=by simpa using hc
  refine zp k rfl hlt (UQ (hb.2 _ (List.getElem_mem hlt)) (zi (fun hc2=>?_) (fun hc2=>?_)))
  ·simp at hc2
   exact h _ ⟨fun e=>(by cases e),fun hh=>absurd (hh.2 _ (List.getElem_mem hlt)) hc2⟩
  ·simp at hc2
   refine zz (by omega) (by omega) (hn hlt _ ⟨by omega,by omega,fun r hr=>?_⟩)
   rcases (V4 hlt r).1 hr with hr | rfl
   ·exact he r hr
   ·exact hc2
 ·have hge:c.length≤k:=by simpa using hc
  rw [List.take_of_length_le hge] at he
  exact h _ ⟨fun _=>⟨by omega,he⟩,fun _=>rfl⟩
theorem zdJ {c:List zr} {κ:Bool→Prop} (hb:Bc c) (h:∀ b,(b=true↔RsV c)→κ b):Ye c κ:=by
 have hl:=hb.1
 unfold Ye
 refine zK c.length (fun s=>s) (fun k s=>s=(k:Int)∧k≤c.length∧∀ r,r∈c.take k→RV r) (fun k s h=>h.1) (fun k s h=>h.2.1) ?_ ⟨rfl,Nat.zero_le _,by simp⟩
 rintro k _ next ⟨rfl,hk,he⟩ hn
 refine zi (fun hc=>?_) (fun hc=>?_)
 ·have hlt:k<c.length:=by simpa using hc
  refine zp k rfl hlt (zaU (hb.2 _ (List.getElem_mem hlt)) (zi (fun hc2=>?_) (fun hc2=>?_)))
  ·simp at hc2
   exact h _ ⟨fun e=>(by cases e),fun hh=>absurd (hh.2 _ (List.getElem_mem hlt)) hc2⟩
  ·simp at hc2
   refine zz (by omega) (by omega) (hn hlt _ ⟨by omega,by omega,fun r hr=>?_⟩)
   rcases (V4 hlt r).1 hr with hr | rfl
   ·exact he r hr
   ·exact hc2
 ·have hge:c.length≤k:=by simpa using hc
  rw [List.take_of_length_le hge] at he
  exact h _ ⟨fun e=>⟨by simp at e;omega,he⟩,fun hh=>by have:=hh.1;simp;omega⟩
theorem YR {s:zD} {κ:Bool→Prop} (hb:Bd s) (h:∀ b,(b=true↔SV s)→κ b):uU s κ:=by
 have hn:=hb.1
 have no:¬ SV s→κ false:=fun hns=>h _ ⟨fun e=>(by cases e),fun hh=>absurd hh hns⟩
 unfold uU
 refine zK s.xChains.length (fun s=>s) (fun k t=>t=(k:Int)∧k≤s.xChains.length∧∀ c,c∈s.xChains.take k→RsV c∧∀ r,r∈c→r.xChain<s.xChains.length) (fun k s h=>h.1) (fun k s h=>h.2.1) ?_ ⟨rfl,Nat.zero_le _,by simp⟩
 rintro k _ next ⟨rfl,hk,he⟩ hnx
 refine zi (fun hc=>?_) (fun hc=>?_)
 ·have hlt:k<s.xChains.length:=by simpa using hc
  have hmem:=List.getElem_mem hlt
  have hbc:=hb.2 _ hmem
  have hbl:=hbc.1
  refine zp k rfl hlt (zdJ hbc (fun b hbv=>zi (fun hf=>no (fun hh=>?_)) (fun hf=>?_)))
  ·have:b=true:=hbv.2 ⟨(hh.1.2 _ hmem).1,fun r hr=>((hh.1.2 _ hmem).2 r hr).1⟩
   rw [this] at hf;cases hf
  ·have hv:RsV s.xChains[k]:=hbv.1 (by simpa using hf)
   refine zK s.xChains[k].length (fun s=>s) (fun j t=>t=(j:Int)∧j≤s.xChains[k].length∧∀ r,r∈s.xChains[k].take j→r.xChain<s.xChains.length) (fun k s h=>h.1) (fun k s h=>h.2.1) ?_ ⟨rfl,Nat.zero_le _,by simp⟩
   rintro j _ next2 ⟨rfl,hj,he2⟩ hn2
   refine zp k rfl hlt (zi (fun hc3=>?_) (fun hc3=>?_))
   ·have hltj:j<s.xChains[k].length:=by simpa using hc3
    refine zp k rfl hlt (zp j rfl hltj (zi (fun h3=>no (fun hh=>?_)) (fun h3=>?_)))
    ·have:=((hh.1.2 _ hmem).2 _ (List.getElem_mem hltj)).2
     simp at h3;omega
    ·simp at h3
     refine zz (by omega) (by omega) (hn2 hltj _ ⟨by omega,by omega,fun r hr=>?_⟩)
     rcases (V4 hltj r).1 hr with hr | rfl
     ·exact he2 r hr
     ·omega
   ·have hge:s.xChains[k].length≤j:=by simpa using hc3
    rw [List.take_of_length_le hge] at he2
    refine zz (by omega) (by omega) (hnx hlt _ ⟨by omega,by omega,fun c hc=>?_⟩)
    rcases (V4 hlt c).1 hc with hc | rfl
    ·exact he c hc
    ·exact ⟨hv,he2⟩
 ·have hge:s.xChains.length≤k:=by simpa using hc
  rw [List.take_of_length_le hge] at he
  unfold jnW
  refine zbS (zi (fun h5=>?_) (fun h5=>no (fun hh=>?_)))
  ·simp at h5
   have ht:Tg s.xChains:=⟨by omega,fun c hc=>⟨(he c hc).1.1,fun r hr=>⟨(he c hc).1.2 r hr,(he c hc).2 r hr⟩⟩⟩
   refine zks ht (fun hall ys hy=>h _ ⟨fun _=>⟨ht,by omega,hall⟩,fun _=>by simp;omega⟩) (fun hall ys hy=>h _ ⟨fun e=>absurd (by simp at e;omega) hy,fun hh=>absurd hh.2.2 hall⟩)
  ·have:=hh.1.1;have:=hh.2.1
   simp at h5;omega
theorem YS {s:zD} {κ:Bool→Prop} (hb:Bd s) (h:∀ b,(b=true↔SV s)→κ b):yr s κ:=by
 have no:¬ SV s→κ false:=fun hns=>h _ ⟨fun e=>(by cases e),fun hh=>absurd hh hns⟩
 unfold yr jnW
 simp only [xS]
 refine zi (fun hc=>no (fun hh=>by have:=hh.2.1;simp at hc;omega)) (fun h1=>zi (fun hc=>no (fun hh=>by have:=hh.1.1;simp at hc;omega)) (fun h5=>?_))
 simp at h1 h5
 refine zK s.xChains.length (fun s=>s) (fun k t=>t=(k:Int)∧k≤s.xChains.length∧∀ c,c∈s.xChains.take k→RsV c) (fun k s h=>h.1) (fun k s h=>h.2.1) ?_ ⟨rfl,Nat.zero_le _,by simp⟩
 rintro k _ next ⟨rfl,hk,he⟩ hnx
 refine zi (fun hc=>?_) (fun hc=>?_)
 ·have hlt:k<s.xChains.length:=by simpa using hc
  have hmem:=List.getElem_mem hlt
  refine zp k rfl hlt (zdn (hb.2 _ hmem) (fun b hbv=>zi (fun hf=>no (fun hh=>?_)) (fun hf=>?_)))
  ·have:b=true:=hbv.2 ⟨(hh.1.2 _ hmem).1,fun r hr=>((hh.1.2 _ hmem).2 r hr).1⟩
   rw [this] at hf;cases hf
  ·refine zz (by omega) (by omega) (hnx hlt _ ⟨by omega,by omega,fun c hc=>?_⟩)
   rcases (V4 hlt c).1 hc with hc | rfl
   ·exact he c hc
   ·exact hbv.1 (by simpa using hf)
 ·have hge:s.xChains.length≤k:=by simpa using hc
  rw [List.take_of_length_le hge] at he
  refine zK s.xChains.length (fun s=>s) (fun k t=>t=(k:Int)∧k≤s.xChains.length∧∀ c,c∈s.xChains.take k→∀ r,r∈c→r.xChain<s.xChains.length) (fun k s h=>h.1) (fun k s h=>h.2.1) ?_ ⟨rfl,Nat.zero_le _,by simp⟩
  rintro m _ next2 ⟨rfl,hm,he2⟩ hn2
  refine zi (fun hc2=>?_) (fun hc2=>?_)
  ·have hlt:m<s.xChains.length:=by simpa using hc2
   have hmem:=List.getElem_mem hlt
   have hv:=he _ hmem
   refine zp m rfl hlt (zgM hv.1 hv.2 (fun ys hyl hys=>?_))
   refine zK ys.length (fun s=>s) (fun j t=>t=(j:Int)∧j≤ys.length∧∀ x,x∈ys.take j→x<s.xChains.length) (fun k s h=>h.1) (fun k s h=>h.2.1) ?_ ⟨rfl,Nat.zero_le _,by simp⟩
   rintro j _ next3 ⟨rfl,hj,he3⟩ hn3
   refine zi (fun hc3=>?_) (fun hc3=>?_)
   ·have hltj:j<ys.length:=by simpa using hc3
    refine zp j rfl hltj (zi (fun hx=>no (fun hh=>?_)) (fun hx=>?_))
    ·obtain ⟨r,hr,_,hrc⟩:=(hys _).1 (List.getElem_mem hltj)
     have:=((hh.1.2 _ hmem).2 r hr).2
     simp at hx;omega
    ·simp at hx
     refine zz (by omega) (by omega) (hn3 hltj _ ⟨by omega,by omega,fun x hxx=>?_⟩)
     rcases (V4 hltj x).1 hxx with hxx | rfl
     ·exact he3 x hxx
     ·omega
   ·have hgej:ys.length≤j:=by simpa using hc3
    rw [List.take_of_length_le hgej] at he3
    refine zz (by omega) (by omega) (hn2 hlt _ ⟨by omega,by omega,fun c hc=>?_⟩)
    rcases (V4 hlt c).1 hc with hc | rfl
    ·exact he2 c hc
    ·intro r hr
     by_cases h3:r.xAction=3
     ·exact he3 _ ((hys _).2 ⟨r,hr,h3,rfl⟩)
     ·have:=(hv.2 r hr).2.2.2.2 h3
      omega
  ·have hgem:s.xChains.length≤m:=by simpa using hc2
   rw [List.take_of_length_le hgem] at he2
   have ht:Tg s.xChains:=⟨by omega,fun c hc=>⟨(he c hc).1,fun r hr=>⟨(he c hc).2 r hr,he2 c hc r hr⟩⟩⟩
   exact zgU ht.w (fun hall=>h _ ⟨fun _=>⟨ht,by omega,hall⟩,fun _=>rfl⟩) (fun hall=>h _ ⟨fun e=>(by cases e),fun hh=>absurd hh.2.2 hall⟩)
def chl (k:Nat):List UInt8:=[99,104,97,105,110,32]++decDigits k
def lsF:Nat→List (List zr)→List ByteArray
 | _,[]=>[]
 | k,c :: cs=>(B (chl k) :: c.map (fun r=>B (U0 r)))++lsF (k+1) cs
theorem zf6:∀ (k:Nat) (a:List (List zr)) (c:List zr),lsF k (a++[c])=lsF k a++(B (chl (k+a.length)) :: c.map (fun r=>B (U0 r)))
 | k,[],c=>by simp [lsF]
 | k,x :: a,c=>by
  simp only [List.cons_append,lsF,zf6 (k+1) a c,List.length_cons]
  rw [show k+1+a.length=k+(a.length+1) by omega]
  simp
def zkj:List (List zr)→Nat
 | []=>0
 | c :: cs=>c.length+zkj cs
theorem zeN:∀ (k:Nat) (a:List (List zr)),(lsF k a).length=a.length+zkj a
 | k,[]=>rfl
 | k,x :: a=>by simp only [lsF,List.length_append,List.length_cons,List.length_map,zeN (k+1) a,zkj];omega
theorem zeT:∀ (a:List (List zr)),(∀ c,c∈a→c.length≤8)→zkj a≤8 * a.length
 | [],_=>by simp [zkj]
 | x :: a,h=>by
  have:=zeT a (fun c hc=>h c (by simp [hc]))
  have:=h x (by simp)
  simp only [zkj,List.length_cons];omega
def dft (s:zD):List UInt8:=if s.xAccept then [100,101,102,97,117,108,116,32,97,99,99,101,112,116] else [100,101,102,97,117,108,116,32,100,114,111,112]
def Vn (s:zD):List ByteArray:=B (dft s) :: lsF 0 s.xChains
end
section
open Go Go.Proofs
theorem Yk (a b:List zj):(XE a b).2=false↔ja a b=[]:=by
 unfold XE
 cases ja a b <;> simp
def fpk (a b:za):yn×Bool:=if em4 (yc a b) then (⟨0,0,0,0⟩,false) else (⟨(XE a.x0 b.x0).1,(XE a.x1 b.x1).1,(XE a.x2 b.x2).1,(XE a.x3 b.x3).1⟩,true)
theorem zfJ {a b:za} (ha:B4 a) (hb:B4 b) {κ:yn×Bool→Prop} (h:κ (fpk a b)):yH a b κ:=by
 obtain ⟨a0,a1,a2,a3⟩:=a
 obtain ⟨b0,b1,b2,b3⟩:=b
 obtain ⟨p0,p1,p2,p3⟩:=ha
 obtain ⟨q0,q1,q2,q3⟩:=hb
 simp only at p0 p1 p2 p3 q0 q1 q2 q3
 have hF:ja a0 b0=[]∨ja a1 b1=[]∨ja a2 b2=[]∨ja a3 b3=[]→κ (⟨0,0,0,0⟩,false):=fun e=>by
  have:fpk ⟨a0,a1,a2,a3⟩ ⟨b0,b1,b2,b3⟩=(⟨0,0,0,0⟩,false):=if_pos (decide_eq_true e)
  rw [this] at h;exact h
 have hT:¬ (ja a0 b0=[]∨ja a1 b1=[]∨ja a2 b2=[]∨ja a3 b3=[])→κ (⟨(XE a0 b0).1,(XE a1 b1).1,(XE a2 b2).1,(XE a3 b3).1⟩,true):=fun e=>by
  have:fpk ⟨a0,a1,a2,a3⟩ ⟨b0,b1,b2,b3⟩=(⟨(XE a0 b0).1,(XE a1 b1).1,(XE a2 b2).1,(XE a3 b3).1⟩,true):=if_neg (by rw [show em4 (yc ⟨a0,a1,a2,a3⟩ ⟨b0,b1,b2,b3⟩)=false from decide_eq_false e];decide)
  rw [this] at h;exact h
 clear h
 unfold yH
 refine ⟨5,?_⟩
 refine jt ?_
 unfold jnW
 refine zp 0 rfl (by simp) (zp 0 rfl (by simp) (U8 p0 q0 (by decide) (by decide) (by decide) (by decide) ?_))
 simp only [List.getElem_cons_zero,List.getElem_cons_succ]
 refine zi (fun e=>hF (.inl ((Yk _ _).1 (by simpa using e)))) (fun e=>?_)
 have e0:ja a0 b0≠[]:=fun f=>by have:=(Yk _ _).2 f;simp [this] at e
 refine zp 0 rfl (by simp) (zz (by decide) (by decide) ?_)
 refine jt ?_
 refine zp 1 rfl (by simp) (zp 1 rfl (by simp) (U8 p1 q1 (by decide) (by decide) (by decide) (by decide) ?_))
 simp only [List.getElem_cons_zero,List.getElem_cons_succ]
 refine zi (fun e=>hF (.inr (.inl ((Yk _ _).1 (by simpa using e))))) (fun e=>?_)
 have e1:ja a1 b1≠[]:=fun f=>by have:=(Yk _ _).2 f;simp [this] at e
 refine zp 1 rfl (by simp) (zz (by decide) (by decide) ?_)
 refine jt ?_
 refine zp 2 rfl (by simp) (zp 2 rfl (by simp) (U8 p2 q2 (by decide) (by decide) (by decide) (by decide) ?_))
 simp only [List.getElem_cons_zero,List.getElem_cons_succ]
 refine zi (fun e=>hF (.inr (.inr (.inl ((Yk _ _).1 (by simpa using e)))))) (fun e=>?_)
 have e2:ja a2 b2≠[]:=fun f=>by have:=(Yk _ _).2 f;simp [this] at e
 refine zp 2 rfl (by simp) (zz (by decide) (by decide) ?_)
 refine jt ?_
 refine zp 3 rfl (by simp) (zp 3 rfl (by simp) (U8 p3 q3 (by decide) (by decide) (by decide) (by decide) ?_))
 simp only [List.getElem_cons_zero,List.getElem_cons_succ]
 refine zi (fun e=>hF (.inr (.inr (.inr ((Yk _ _).1 (by simpa using e)))))) (fun e=>?_)
 have e3:ja a3 b3≠[]:=fun f=>by have:=(Yk _ _).2 f;simp [this] at e
 refine zp 3 rfl (by simp) (zz (by decide) (by decide) ?_)
 refine jK ?_
 refine ⟨_,_,_,_,rfl,?_⟩
 unfold Vm
 refine zp 0 rfl (by simp) (zp 1 rfl (by simp) (zp 2 rfl (by simp) (zp 3 rfl (by simp) ?_)))
 exact hT (by rintro (f | f | f | f) <;> contradiction)
theorem zmN (a b:za):(fpk a b).2=!em4 (yc a b):=by
 unfold fpk;cases em4 (yc a b) <;> simp
theorem zgO {a b:za} (ha:B4 a) (hb:B4 b) {κ:Bool→Prop} (h:κ (!em4 (yc a b))):yJ a b κ:=by
 unfold yJ
 refine zfJ ha hb ?_
 rw [← zmN] at h;exact h
theorem zfk {κ:za→Prop} (h:κ zcE):XV κ:=by
 unfold XV
 refine ⟨5,?_⟩
 refine jt (ZR (n:=(0:Int)) (by decide) (by decide) (zp 0 rfl (by simp) (zz (by decide) (by decide) ?_)))
 refine jt (ZR (n:=(1:Int)) (by decide) (by decide) (zp 1 rfl (by simp) (zz (by decide) (by decide) ?_)))
 refine jt (ZR (n:=(2:Int)) (by decide) (by decide) (zp 2 rfl (by simp) (zz (by decide) (by decide) ?_)))
 refine jt (ZR (n:=(3:Int)) (by decide) (by decide) (zp 3 rfl (by simp) (zz (by decide) (by decide) ?_)))
 refine jK ?_
 exact ⟨_,_,_,_,rfl,h⟩
def xC (a b:List zj) (t:Int):List zj:=ja a (ZL b t)
def zgZ (a b:za):za:=⟨xC a.x0 b.x0 65535,xC a.x1 b.x1 65535,xC a.x2 b.x2 255,xC a.x3 b.x3 7⟩
def in4 (a b:za):Bool:=em4 a || decide (zgZ a b=zd4)
theorem zif {a b:za} (ha:B4 a) (hb:B4 b) {κ:Bool→Prop} (h:κ (in4 a b)):Zh a b κ:=by
 unfold Zh
 refine zdC (zi (fun e=>?_) (fun e=>?_))
 ·unfold in4 at h;rw [e] at h;exact h
 unfold in4 at h;rw [e,Bool.false_or] at h
 clear e
 obtain ⟨a0,a1,a2,a3⟩:=a
 obtain ⟨b0,b1,b2,b3⟩:=b
 obtain ⟨p0,p1,p2,p3⟩:=ha
 obtain ⟨q0,q1,q2,q3⟩:=hb
 simp only at p0 p1 p2 p3 q0 q1 q2 q3
 have hT:xC a0 b0 65535=[]→xC a1 b1 65535=[]→xC a2 b2 255=[]→xC a3 b3 7=[]→κ true:=fun e0 e1 e2 e3=>by
  rw [decide_eq_true (by simp only [zgZ,zd4,e0,e1,e2,e3])] at h;exact h
 have hF:¬ (xC a0 b0 65535=[]∧xC a1 b1 65535=[]∧xC a2 b2 255=[]∧xC a3 b3 7=[])→κ false:=fun e=>by
  rw [decide_eq_false (fun f=>e (by simpa only [zgZ,zd4,za.mk.injEq] using f))] at h;exact h
 clear h
 refine ⟨5,?_⟩
 refine jt ?_
 unfold jnW
 refine zp 0 rfl (by simp) (zp 0 rfl (by simp) (ZR (n:=(0:Int)) (by decide) (by decide) (YV (top:=top 0) p0 q0 (by decide) (by decide) (zi (fun e=>hF (fun f=>?_)) (fun e=>zz (by decide) (by decide) ?_)))))
 ·have:=f.1;unfold xC at this;simp [this,zo3] at e
 have e0:xC a0 b0 65535=[]:=by simpa [xC,zo3] using e
 refine jt ?_
 refine zp 1 rfl (by simp) (zp 1 rfl (by simp) (ZR (n:=(1:Int)) (by decide) (by decide) (YV (top:=top 1) p1 q1 (by decide) (by decide) (zi (fun e=>hF (fun f=>?_)) (fun e=>zz (by decide) (by decide) ?_)))))
 ·have:=f.2.1;unfold xC at this;simp [this,zoF] at e
 have e1:xC a1 b1 65535=[]:=by simpa [xC,zoF] using e
 refine jt ?_
 refine zp 2 rfl (by simp) (zp 2 rfl (by simp) (ZR (n:=(2:Int)) (by decide) (by decide) (YV (top:=top 2) p2 q2 (by decide) (by decide) (zi (fun e=>hF (fun f=>?_)) (fun e=>zz (by decide) (by decide) ?_)))))
 ·have:=f.2.2.1;unfold xC at this;simp [this,zoU] at e
 have e2:xC a2 b2 255=[]:=by simpa [xC,zoU] using e
 refine jt ?_
 refine zp 3 rfl (by simp) (zp 3 rfl (by simp) (ZR (n:=(3:Int)) (by decide) (by decide) (YV (top:=top 3) p3 q3 (by decide) (by decide) (zi (fun e=>hF (fun f=>?_)) (fun e=>zz (by decide) (by decide) ?_)))))
 ·have:=f.2.2.2;unfold xC at this;simp [this,zoo] at e
 have e3:xC a3 b3 7=[]:=by simpa [xC,zoo] using e
 exact jK (hT e0 e1 e2 e3)
end
section
open Go Go.Proofs
instance (l:List zj):Decidable (NF l):=by unfold NF;infer_instance
instance (l:List zj) (t:Int):Decidable (St l t):=by unfold St;infer_instance
theorem zfE:∀ {ys:List zj},(∀ s∈ys,s.xLo≤s.xHi)→(ys.Pairwise (fun a b=>a.xHi+1<b.xLo)↔∀ n,(h:n+1<ys.length)→ys[n].xHi+1<ys[n+1].xLo)
 | [],_=>by simp
 | [s],_=>by simp
 | s :: t :: ys,h=>by
  have ih:=zfE (ys:=t :: ys) (fun u hu=>h u (List.mem_cons_of_mem _ hu))
  rw [List.pairwise_cons,ih]
  constructor
  ·rintro ⟨h1,h2⟩ n hn
   cases n with
   | zero=>exact h1 t (by simp)
   | succ n=>exact h2 n (by simpa using hn)
  ·intro hh
   have h0:=hh 0 (by simp)
   have h2:∀ n,(h:n+1<(t :: ys).length)→(t :: ys)[n].xHi+1<(t :: ys)[n+1].xLo:=fun n hn=>hh (n+1) (by simpa using hn)
   refine ⟨fun u hu=>?_,h2⟩
   rcases List.mem_cons.1 hu with e | e
   ·subst e;exact h0
   ·have:=(List.pairwise_cons.1 (ih.2 h2)).1 u e
    have:=h t (by simp)
    simp only [List.getElem_cons_zero,List.getElem_cons_succ] at h0
    omega
theorem zhu {l:List zj} {top:Int}:St l top↔(∀ n,(h:n<l.length)→0≤l[n].xLo∧l[n].xLo≤l[n].xHi∧l[n].xHi≤top)∧∀ n,(h:n+1<l.length)→l[n].xHi+1<l[n+1].xLo:=by
 constructor
 ·rintro ⟨⟨h1,h2⟩,h3⟩
  exact ⟨fun n hn=>by have:=h1 _ (List.getElem_mem hn);have:=h3 _ (List.getElem_mem hn);omega,(zfE h1).1 h2⟩
 ·rintro ⟨h1,h2⟩
  have h3:∀ s∈l,0≤s.xLo∧s.xLo≤s.xHi∧s.xHi≤top:=fun s hs=>by
   obtain ⟨n,hn,e⟩:=List.getElem_of_mem hs
   rw [← e];exact h1 n hn
  exact ⟨⟨fun s hs=>(h3 s hs).2.1,(zfE (fun s hs=>(h3 s hs).2.1)).2 h2⟩,fun s hs=>⟨(h3 s hs).1,(h3 s hs).2.2⟩⟩
def SpV (l:List zj) (top:Int):Prop:=l.length≤40∧St l top
instance (l:List zj) (t:Int):Decidable (SpV l t):=by unfold SpV;infer_instance
theorem UF {l:List zj} {top:Int} (hl:l.length≤4294967296) (h0:0≤top) (ht:top≤65535) {κ:Bool→Prop} (h:κ (decide (SpV l top))):yT l top κ:=by
 unfold yT
 refine zK l.length (fun s=>s) (fun k s=>s=(k:Int)∧k≤l.length∧(∀ n,(h:n<l.length)→n<k→0≤l[n].xLo∧l[n].xLo≤l[n].xHi∧l[n].xHi≤top)∧∀ n,(h:n+1<l.length)→n+1<k→l[n].xHi+1<l[n+1].xLo) (fun k s h=>h.1) (fun k s h=>h.2.1) ?_ ⟨rfl,Nat.zero_le _,fun n _ h=>by omega,fun n _ h=>by omega⟩
 rintro k _ next ⟨rfl,hk,h1,h2⟩ hn
 refine zi (fun hc=>?_) (fun hc=>?_)
 ·have hlt:k<l.length:=by simpa using hc
  have no:¬ (0≤l[k].xLo∧l[k].xLo≤l[k].xHi∧l[k].xHi≤top∧∀ j,(hj:j+1<l.length)→j+1=k→l[j].xHi+1<l[j+1].xLo)→κ false:=fun hh=>by
   rw [decide_eq_false (fun hs=>hh ?_)] at h
   ·exact h
   ·obtain ⟨e1,e2⟩:=zhu.1 hs.2
    exact ⟨(e1 k hlt).1,(e1 k hlt).2.1,(e1 k hlt).2.2,fun j hj _=>e2 j hj⟩
  have yes:(0≤l[k].xLo∧l[k].xLo≤l[k].xHi∧l[k].xHi≤top∧∀ j,(hj:j+1<l.length)→j+1=k→l[j].xHi+1<l[j+1].xLo)→jh (k:Int) 1 (fun t=>next t):=fun ⟨q1,q2,q3,q4⟩ =>
   zz (by omega) (by omega) (hn hlt _ ⟨by simp,by omega,fun n hn hnk=>by
    by_cases e:n=k
    ·subst e;exact ⟨q1,q2,q3⟩
    ·exact h1 n hn (by omega),fun n hn hnk=>by
    by_cases e:n+1=k
    ·exact q4 n hn e
    ·exact h2 n hn (by omega)⟩)
  unfold jnW
  refine zp k rfl hlt (zp k rfl hlt (zbS (zi (fun e=>jt (no (fun f=>?_))) (fun e=>?_))))
  ·simp at e;omega
  simp at e
  refine zp k rfl hlt (zbS (zi (fun e2=>jt (no (fun f=>?_))) (fun e2=>?_)))
  ·simp at e2;omega
  simp at e2
  refine zi (fun e3=>?_) (fun e3=>?_)
  ·have hk0:0<k:=by simpa using e3
   have hp:=h1 (k - 1) (by omega) (by omega)
   refine zp k rfl hlt (ZY (by omega) (by omega) (zp (k - 1) (by omega) (by omega) (zz (by omega) (by omega) (zi (fun e4=>no (fun f=>?_)) (fun e4=>yes ⟨by omega,by omega,by omega,fun j hj hjk=>?_⟩)))))
   ·have:=f.2.2.2 (k - 1) (by omega) (by omega)
    simp at e4
    have ee:k - 1+1=k:=by omega
    simp only [ee] at this
    omega
   ·simp at e4
    obtain rfl:j=k - 1:=by omega
    have ee:k - 1+1=k:=by omega
    simp only [ee]
    omega
  ·have hk0:k=0:=by simpa using e3
   exact jK (yes ⟨by omega,by omega,by omega,fun j hj hjk=>by omega⟩)
 ·have hge:l.length≤k:=by simpa using hc
  have hs:St l top:=zhu.2 ⟨fun n hn=>h1 n hn (by omega),fun n hn=>h2 n hn (by omega)⟩
  unfold jnW
  refine zbS (zi (fun e=>?_) (fun e=>by simp at e;omega))
  rw [show decide (SpV l top)=decide ((l.length:Int)≤40) from decide_eq_decide.2 ⟨fun q=>by have:=q.1;omega,fun q=>⟨by omega,hs⟩⟩] at h
  exact h
theorem zf3 {t:Int} {κ:Bool→Prop} (h0:0≤t) (ht:t≤65535) (h:κ true):Ua t κ:=by
 unfold Ua jnW
 rw [decide_eq_true h0,decide_eq_true ht]
 exact jt h
theorem zdd {l:List zj} {top:Int} (hl:l.length≤9223372036854775807) (h0:0≤top) (ht:top≤65535) {κ:Bool→Prop} (h:κ (decide (SpV l top))):X7 l top κ:=by
 unfold X7 jnW
 refine zf3 h0 ht (jK (zi (fun e=>?_) (fun e=>?_)))
 ·rw [decide_eq_false (fun q=>by have:=q.1;simp at e;omega)] at h;exact h
 have h40:l.length≤40:=by simp at e;omega
 refine zK l.length (fun s=>s.2) (fun k (s:Int×Int)=>s.2=(k:Int)∧k≤l.length∧(∀ n,(h:n<l.length)→n<k→0≤l[n].xLo∧l[n].xLo≤l[n].xHi∧l[n].xHi≤top)∧(∀ n,(h:n+1<l.length)→n+1<k→l[n].xHi+1<l[n+1].xLo)∧(k=0→s.1=-2)∧(∀ n,(h:n<l.length)→n+1=k→s.1=l[n].xHi)) (fun k s h=>h.1) (fun k s h=>h.2.1) ?_ ⟨rfl,Nat.zero_le _,fun n _ h=>by omega,fun n _ h=>by omega,fun _=>rfl,fun n _ h=>by omega⟩
 rintro k ⟨a,_⟩ next ⟨rfl,hk,h1,h2,h3,h4⟩ hn
 simp only at h3 h4
 have ha:-2≤a∧a≤65535:=by
  by_cases e:k=0
  ·have:=h3 e;omega
  ·have:=h4 (k - 1) (by omega) (by omega);have:=h1 (k - 1) (by omega) (by omega);omega
 refine zi (fun hc=>?_) (fun hc=>?_)
 ·have hlt:k<l.length:=by simpa using hc
  have no:¬ (a+1<l[k].xLo∧l[k].xLo≤l[k].xHi∧l[k].xHi≤top)→κ false:=fun hh=>by
   rw [decide_eq_false (fun hs=>hh ?_)] at h
   ·exact h
   ·obtain ⟨e1,e2⟩:=zhu.1 hs.2
    have q:=e1 k hlt
    refine ⟨?_,q.2.1,q.2.2⟩
    by_cases e:k=0
    ·have:=h3 e;omega
    ·obtain ⟨j,rfl⟩:∃ j,k=j+1:=⟨k - 1,by omega⟩
     have:=h4 j (by omega) rfl
     have:=e2 j hlt
     omega
  refine zp k rfl hlt (zz (by omega) (by omega) (zi (fun e=>jt (no (fun f=>by simp at e;omega))) (fun e=>zi (fun e2=>jt (no (fun f=>by simp at e2;omega))) (fun e2=>zi (fun e3=>no (fun f=>by simp at e3;omega)) (fun e3=>?_)))))
  simp at e e2 e3
  have lo:0≤l[k].xLo:=by
   by_cases q:k=0
   ·have:=h3 q;omega
   ·have:=h4 (k - 1) (by omega) (by omega);have:=h1 (k - 1) (by omega) (by omega);omega
  refine zz (by omega) (by omega) (hn hlt _ ⟨by simp,by omega,fun n hn hnk=>?_,fun n hn hnk=>?_,fun f=>by omega,fun n hn hnk=>?_⟩)
  ·by_cases q:n=k
   ·subst q;exact ⟨lo,e2,e3⟩
   ·exact h1 n hn (by omega)
  ·by_cases q:n+1=k
   ·subst q
    have:=h4 n (by omega) rfl
    omega
   ·exact h2 n hn (by omega)
  ·obtain rfl:n=k:=by omega
   rfl
 ·have hge:l.length≤k:=by simpa using hc
  have hs:St l top:=zhu.2 ⟨fun n hn=>h1 n hn (by omega),fun n hn=>h2 n hn (by omega)⟩
  rw [decide_eq_true (show SpV l top from ⟨h40,hs⟩)] at h
  exact h
instance (l:List zj) (x:Int):Decidable (hv l x):=by unfold hv;infer_instance
end
section
open Go Go.Proofs
def bx (a:za):jm:=⟨[a.x0,a.x1,a.x2,a.x3]⟩
theorem VX {a:za} {κ:Bool→Prop} (h:κ (em4 a)):yw (bx a) κ:=by
 obtain ⟨x0,x1,x2,x3⟩:=a
 simp only [em4] at h
 unfold yw
 refine ⟨5,?_⟩
 refine jt (zp 0 rfl (by simp [bx]) (zi (fun e=>?_) (fun e=>zz (by decide) (by decide) ?_)))
 ·have:x0=[]:=by simpa [bx] using e
  subst this;simpa using h
 have e0:x0≠[]:=by simpa [bx] using e
 refine jt (zp 1 rfl (by simp [bx]) (zi (fun e=>?_) (fun e=>zz (by decide) (by decide) ?_)))
 ·have:x1=[]:=by simpa [bx] using e
  subst this;simpa using h
 have e1:x1≠[]:=by simpa [bx] using e
 refine jt (zp 2 rfl (by simp [bx]) (zi (fun e=>?_) (fun e=>zz (by decide) (by decide) ?_)))
 ·have:x2=[]:=by simpa [bx] using e
  subst this;simpa using h
 have e2:x2≠[]:=by simpa [bx] using e
 refine jt (zp 3 rfl (by simp [bx]) (zi (fun e=>?_) (fun e=>zz (by decide) (by decide) ?_)))
 ·have:x3=[]:=by simpa [bx] using e
  subst this;simpa using h
 have e3:x3≠[]:=by simpa [bx] using e
 refine jK ?_
 simpa [e0,e1,e2,e3] using h
theorem zgG {a b:za} (ha:B4 a) (hb:B4 b) {κ:jm→Prop} (h:κ (bx (yc a b))):Yu (bx a) (bx b) κ:=by
 obtain ⟨p0,p1,p2,p3⟩:=ha
 obtain ⟨q0,q1,q2,q3⟩:=hb
 unfold Yu
 refine ⟨5,?_⟩
 refine jt ?_
 unfold jnW
 refine zp 0 rfl (by simp [bx]) (zp 0 rfl (by simp [bx]) (Xo p0 q0 (by decide) (by decide) (by decide) (by decide) (jj (by simp) (zz (by decide) (by decide) ?_))))
 refine jt ?_
 refine zp 1 rfl (by simp [bx]) (zp 1 rfl (by simp [bx]) (Xo p1 q1 (by decide) (by decide) (by decide) (by decide) (jj (by simp) (zz (by decide) (by decide) ?_))))
 refine jt ?_
 refine zp 2 rfl (by simp [bx]) (zp 2 rfl (by simp [bx]) (Xo p2 q2 (by decide) (by decide) (by decide) (by decide) (jj (by simp) (zz (by decide) (by decide) ?_))))
 refine jt ?_
 refine zp 3 rfl (by simp [bx]) (zp 3 rfl (by simp [bx]) (Xo p3 q3 (by decide) (by decide) (by decide) (by decide) (jj (by simp) (zz (by decide) (by decide) ?_))))
 exact jK h
theorem ziB {κ:jm→Prop} (h:κ (bx zcE)):YZ κ:=by
 unfold YZ
 refine ⟨5,?_⟩
 refine jt ?_
 unfold jnW
 refine xJ (n:=(0:Int)) (by decide) (by decide) (jj (by simp) (zz (by decide) (by decide) ?_))
 refine jt ?_
 refine xJ (n:=(1:Int)) (by decide) (by decide) (jj (by simp) (zz (by decide) (by decide) ?_))
 refine jt ?_
 refine xJ (n:=(2:Int)) (by decide) (by decide) (jj (by simp) (zz (by decide) (by decide) ?_))
 refine jt ?_
 refine xJ (n:=(3:Int)) (by decide) (by decide) (jj (by simp) (zz (by decide) (by decide) ?_))
 exact jK h
theorem Za {l:List (List zj)} (hl:l.length≤4294967296) (hl2:∀ x∈l,x.length≤4294967296) {κ:List (List zj)→Prop} (h:κ l):ug l κ:=by
 unfold ug
 refine zK l.length (fun s=>s.2) (fun k s=>s.2=(k:Int)∧k≤l.length∧s.1=l.take k) (fun k s h=>h.1) (fun k s h=>h.2.1) ?_ ⟨rfl,Nat.zero_le _,by simp⟩
 rintro k ⟨xs,t⟩ next ⟨rfl,hk,hx⟩ hn
 simp only at hx
 subst hx
 refine zi (fun hc=>?_) (fun hc=>?_)
 ·have hlt:k<l.length:=by simpa using hc
  have:=hl2 _ (List.getElem_mem hlt)
  refine zp k rfl hlt (jj (by simp;omega) (jj (by simp only [List.length_take,List.length_singleton];omega) (zz (by omega) (by omega) (hn hlt _ ⟨by simp,by omega,?_⟩))))
  rw [List.take_succ_eq_append_getElem hlt];rfl
 ·have hge:l.length≤k:=by simpa using hc
  rw [List.take_of_length_le hge];exact h
end
section
open Go Go.Proofs
def tsp (t:zL):List zj:=if t.xNot then ZL [zj.mk t.xLo t.xHi] (top t.xField) else [zj.mk t.xLo t.xHi]
theorem zji {lo hi t:Int} (h0:0≤lo) (h1:lo≤hi) (h2:hi≤t):St [zj.mk lo hi] t:=⟨VY h1,fun s hs=>by simp only [List.mem_singleton] at hs;subst hs;exact ⟨h0,h2⟩⟩
theorem zfs {t:zL} (h:TV t):St (tsp t) (top t.xField):=by
 obtain ⟨h1,h2,h3,h4,h5⟩:=h
 unfold tsp
 split
 ·exact Uq (zji h3 h4 h5)
 ·exact zji h3 h4 h5
theorem zlB (lo hi t:Int):ZL [zj.mk lo hi] t=(if 0<lo then [zj.mk 0 (lo - 1)] else [])++(if hi+1≤t then [zj.mk (hi+1) t] else []):=rfl
theorem zj6 (t:zL):(tsp t).length≤2:=by
 unfold tsp
 split
 ·rw [zlB];simp only [List.length_append]
  split <;> split <;> simp
 ·simp
theorem zgK (a:List zj) (y:zj):(ja a [y]).length≤a.length:=by
 induction a with
 | nil=>simp [ja]
 | cons x a ih =>
  have e:ja (x :: a) [y]=UI x y++ja a [y]:=by simp [ja]
  have h1:(UI x y).length≤1:=by unfold UI;split <;> simp
  rw [e];simp only [List.length_append,List.length_cons];omega
theorem zgS {y1 y2:zj} (hy:y1.xHi<y2.xLo):∀ {a:List zj},NF a→(ja a [y1,y2]).length≤a.length+1
 | [],_=>by simp [ja]
 | x :: a,h=>by
  have e:ja (x :: a) [y1,y2]=UI x y1++UI x y2++ja a [y1,y2]:=by simp [ja]
  have h1:∀ y,(UI x y).length≤1:=fun y=>by unfold UI;split <;> simp
  have ih:=zgS hy (zaj h)
  rw [e];simp only [List.length_append,List.length_cons]
  have i1:=h1 y1
  have i2:=h1 y2
  by_cases c:max x.xLo y2.xLo≤min x.xHi y2.xHi
  ·have hg:=(List.pairwise_cons.1 h.2).1
   have e2:ja a [y1,y2]=ja a [y2]:=by
    have:∀ m:List zj,(∀ z∈m,y1.xHi<z.xLo)→ja m [y1,y2]=ja m [y2]:=by
     intro m
     induction m with
     | nil=>intro _;rfl
     | cons z m ihm =>
      intro hz
      have ez:UI z y1=[]:=by unfold UI;rw [if_neg (by have:=hz z (by simp);omega)]
      have:=ihm (fun u hu=>hz u (by simp [hu]))
      simp only [ja,List.flatMap_cons,List.flatMap_nil,List.append_nil] at this ⊢
      rw [ez,this];simp
    exact this a (fun z hz=>by have:=hg z hz;omega)
   have:=zgK a y2
   rw [e2];omega
  ·have:UI x y2=[]:=by unfold UI;rw [if_neg c]
   rw [this];simp only [List.length_nil];omega
theorem zh2 {a b:List zj} (ha:NF a) (hb:NF b) (h:b.length≤2):(ja a b).length≤a.length+1:=by
 match b,h,hb with
 | [],_,_ =>
  have:ja a []=[]:=by simp [ja]
  rw [this];simp
 | [y],_,_=>have:=zgK a y;omega
 | [y1,y2],_,hb =>
  have:=(List.pairwise_cons.1 hb.2).1 y2 (by simp)
  exact zgS (by omega) ha
theorem zdG {t:zL} (ht:TV t) {κ:List zj→Prop} (h:κ (tsp t)):ZS t κ:=by
 obtain ⟨h1,h2,h3,h4,h5⟩:=ht
 have:=Uk t.xField
 unfold tsp at h
 unfold ZS
 refine zi (fun e=>?_) (fun e=>?_)
 ·have e':t.xNot=false:=by simpa using e
  rw [e'] at h;simpa using h
 ·have e':t.xNot=true:=by simpa using e
  rw [e',if_pos rfl,zlB] at h
  unfold jnW
  refine zi (fun c=>?_) (fun c=>?_)
  ·have c':0<t.xLo:=by simpa using c
   rw [if_pos c'] at h
   refine ZY (by omega) (by omega) (jj (by simp) (ZR h1 h2 (zi (fun d=>?_) (fun d=>?_))))
   ·have d':t.xHi<top t.xField:=by simpa using d
    rw [if_pos (by omega)] at h
    exact zz (by omega) (by omega) (jj (by simp) (by simpa using h))
   ·have d':¬ t.xHi<top t.xField:=by simpa using d
    rw [if_neg (by omega)] at h
    simpa using h
  ·have c':¬ 0<t.xLo:=by simpa using c
   rw [if_neg c'] at h
   refine ZR h1 h2 (zi (fun d=>?_) (fun d=>?_))
   ·have d':t.xHi<top t.xField:=by simpa using d
    rw [if_pos (by omega)] at h
    exact zz (by omega) (by omega) (jj (by simp) (by simpa using h))
   ·have d':¬ t.xHi<top t.xField:=by simpa using d
    rw [if_neg (by omega)] at h
    simpa using h
theorem zek {t:zL} (ht:TV t) {κ:List zj→Prop} (h:κ (tsp t)):Xm t κ:=by
 have ht':=ht
 obtain ⟨h1,h2,h3,h4,h5⟩:=ht
 have:=Uk t.xField
 unfold Xm
 refine UV ?_
 rw [decide_eq_true ht']
 refine jK (zi (fun e=>?_) (fun e=>?_))
 ·unfold tsp at h;rw [if_pos e] at h
  exact xJ h1 h2 (zaH (zji h3 h4 h5) (by omega) (by omega) h)
 ·unfold tsp at h;rw [if_neg (by simpa using e)] at h
  exact h
def L4 (a:za):List (List zj):=[a.x0,a.x1,a.x2,a.x3]
def xL (a:za) (f:Int):List zj:=if f=0 then a.x0 else if f=1 then a.x1 else if f=2 then a.x2 else a.x3
def UD (a:za) (f:Int) (x:List zj):za:=if f=0 then ⟨x,a.x1,a.x2,a.x3⟩ else if f=1 then ⟨a.x0,x,a.x2,a.x3⟩ else if f=2 then ⟨a.x0,a.x1,x,a.x3⟩ else ⟨a.x0,a.x1,a.x2,x⟩
theorem Zo {a:za} {f:Int} {κ:List zj→Prop} (h0:0≤f) (h1:f≤3) (h:κ (xL a f)):zI (L4 a) f κ:=by
 rcases zaf h0 h1 with rfl | rfl | rfl | rfl
 ·exact zp 0 rfl (by simp [L4]) h
 ·exact zp 1 rfl (by simp [L4]) h
 ·exact zp 2 rfl (by simp [L4]) h
 ·exact zp 3 rfl (by simp [L4]) h
theorem zam {a:za} {f:Int} {x:List zj} (h0:0≤f) (h1:f≤3):(L4 a).set f.toNat x=L4 (UD a f x):=by
 rcases zaf h0 h1 with rfl | rfl | rfl | rfl <;> rfl
theorem YD {a:za} (ha:B4 a) {f:Int} (h0:0≤f) (h1:f≤3):St (xL a f) (top f):=by
 obtain ⟨p0,p1,p2,p3⟩:=ha
 rcases zaf h0 h1 with rfl | rfl | rfl | rfl
 ·exact p0
 ·exact p1
 ·exact p2
 ·exact p3
theorem zjY {a:za} (ha:B4 a) {f:Int} (h0:0≤f) (h1:f≤3) {x:List zj} (hx:St x (top f)):B4 (UD a f x):=by
 obtain ⟨p0,p1,p2,p3⟩:=ha
 rcases zaf h0 h1 with rfl | rfl | rfl | rfl
 ·exact ⟨hx,p1,p2,p3⟩
 ·exact ⟨p0,hx,p2,p3⟩
 ·exact ⟨p0,p1,hx,p3⟩
 ·exact ⟨p0,p1,p2,hx⟩
def le4 (a:za) (n:Nat):Prop:=∀ f,0≤f→f≤3→(xL a f).length≤n
theorem zjK {a:za} {n m:Nat} (h:le4 a n) {f:Int} (h0:0≤f) (h1:f≤3) {x:List zj} (hx:x.length≤m) (hm:n≤m):le4 (UD a f x) m:=by
 intro g g0 g1
 have k:=h g g0 g1
 rcases zaf h0 h1 with rfl | rfl | rfl | rfl <;> rcases zaf g0 g1 with rfl | rfl | rfl | rfl <;> first | exact hx | exact Nat.le_trans k hm
theorem zi6 {a:za} (h:le4 a 40):F4 a:=⟨h 0 (by decide) (by decide),h 1 (by decide) (by decide),h 2 (by decide) (by decide),h 3 (by decide) (by decide)⟩
def zkF (a:za) (t:zL):za:=UD a t.xField (ja (xL a t.xField) (tsp t))
def Xt (ts:List zL):za:=ts.foldl zkF zcE
theorem zg8:∀ (ts:List zL) (a:za) (n:Nat),(∀ t∈ts,TV t)→B4 a→le4 a n→B4 (ts.foldl zkF a)∧le4 (ts.foldl zkF a) (n+ts.length)
 | [],a,n,_,ha,hn=>⟨ha,hn⟩
 | t :: ts,a,n,h,ha,hn=>by
  have ht:=h t (by simp)
  have hs:=YD ha ht.1 ht.2.1
  have:=zg8 ts (zkF a t) (n+1) (fun u hu=>h u (by simp [hu])) (zjY ha ht.1 ht.2.1 (XN hs (zfs ht).1))
   (zjK hn ht.1 ht.2.1 (Nat.le_trans (zh2 hs.1 (zfs ht).1 (zj6 t)) (by have:=hn _ ht.1 ht.2.1;omega)) (by omega))
  refine ⟨this.1,?_⟩
  have e:n+(t :: ts).length=n+1+ts.length:=by simp only [List.length_cons];omega
  rw [e];exact this.2
theorem zhz:le4 zcE 1:=fun f h0 h1=>by
 rcases zaf h0 h1 with rfl | rfl | rfl | rfl <;> decide
theorem zdI {ts:List zL} (h:∀ t∈ts,TV t):B4 (Xt ts):=(zg8 ts zcE 1 h zhg zhz).1
theorem zmw {ts:List zL} (h:∀ t∈ts,TV t):le4 (Xt ts) (1+ts.length):=(zg8 ts zcE 1 h zhg zhz).2
theorem zgE (ts:List zL) (t:zL):Xt (ts++[t])=zkF (Xt ts) t:=by simp [Xt]
theorem zg9 {ts:List zL} (hts:TsV ts) {κ:za→Prop} (hκ:κ (Xt ts)):X5 ts κ:=by
 have h:=hts.1
 have hl:=hts.2
 unfold X5
 refine zfk ?_
 refine zK ts.length (fun s=>s.2) (fun k s=>s.2=(k:Int)∧k≤ts.length∧s.1=L4 (Xt (ts.take k))) (fun k s h=>h.1) (fun k s h=>h.2.1) ?_ ⟨rfl,Nat.zero_le _,by simp [Xt,L4]⟩
 rintro k ⟨xs,t⟩ next ⟨rfl,hk,hx⟩ hn
 simp only at hx
 subst hx
 refine zi (fun hc=>?_) (fun hc=>?_)
 ·have hlt:k<ts.length:=by simpa using hc
  have ht:=h _ (List.getElem_mem hlt)
  have hpre:∀ t∈ts.take k,TV t:=fun t ht=>h t (List.mem_of_mem_take ht)
  have hb:=zdI hpre
  have hs:=YD hb ht.1 ht.2.1
  have hle:=zmw hpre _ ht.1 ht.2.1
  have hml:=zh2 hs.1 (zfs ht).1 (zj6 ts[k])
  have htop:=Uk ts[k].xField
  simp only [List.length_take] at hle
  have hlim:lim (ja (xL (Xt (ts.take k)) ts[k].xField) (tsp ts[k]))=(ja (xL (Xt (ts.take k)) ts[k].xField) (tsp ts[k]),true):=by
   unfold lim;rw [if_neg (by omega)]
  refine zp k rfl hlt ?_
  unfold jnW
  have fin:jO (xL (Xt (ts.take k)) ts[k].xField) (tsp ts[k]) (top ts[k].xField) (fun (r49,r51)=>zI (L4 (Xt (ts.take k))) ts[k].xField (fun e52=>jh (k:Int) 1 (fun t76=>next ((L4 (Xt (ts.take k))).set (ts[k].xField).toNat r49,t76)))):=by
   refine Up hs (zfs ht) (by omega) (by omega) ?_
   rw [hlim]
   refine Zo ht.1 ht.2.1 (zz (by omega) (by omega) (hn hlt _ ⟨by simp,by omega,?_⟩))
   simp only
   rw [zam ht.1 ht.2.1,List.take_succ_eq_append_getElem hlt,zgE];rfl
  exact ⟨Zo ht.1 ht.2.1 (zdG ht (ZR ht.1 ht.2.1 fin)),zdG ht ⟨Zo ht.1 ht.2.1 (ZR ht.1 ht.2.1 fin),ZR ht.1 ht.2.1 (Zo ht.1 ht.2.1 fin)⟩⟩
 ·have hge:ts.length≤k:=by simpa using hc
  rw [List.take_of_length_le hge]
  exact ⟨_,_,_,_,rfl,hκ⟩
theorem zi1 {ts:List zL} (hts:TsV ts) {κ:jm→Prop} (hκ:κ (bx (Xt ts))):Y5 ts κ:=by
 have h:=hts.1
 have hl:=hts.2
 unfold Y5
 refine zah (by omega) ?_
 rw [decide_eq_true hts]
 refine jK (ziB ?_)
 refine zK ts.length (fun s=>s.2) (fun k s=>s.2=(k:Int)∧k≤ts.length∧s.1=L4 (Xt (ts.take k))) (fun k s h=>h.1) (fun k s h=>h.2.1) ?_ ⟨rfl,Nat.zero_le _,by simp [Xt,L4,bx]⟩
 rintro k ⟨xs,t⟩ next ⟨rfl,hk,hx⟩ hn
 simp only at hx
 subst hx
 refine zi (fun hc=>?_) (fun hc=>?_)
 ·have hlt:k<ts.length:=by simpa using hc
  have ht:=h _ (List.getElem_mem hlt)
  have hpre:∀ t∈ts.take k,TV t:=fun t ht=>h t (List.mem_of_mem_take ht)
  have hb:=zdI hpre
  have hs:=YD hb ht.1 ht.2.1
  have htop:=Uk ts[k].xField
  refine zp k rfl hlt ?_
  unfold jnW
  refine zp k rfl hlt ?_
  have fin:yk (xL (Xt (ts.take k)) ts[k].xField) (tsp ts[k]) (fun r40=>zI (L4 (Xt (ts.take k))) ts[k].xField (fun e42=>jh (k:Int) 1 (fun t58=>next ((L4 (Xt (ts.take k))).set (ts[k].xField).toNat r40,t58)))):=by
   refine Xo hs (zfs ht) (by omega) (by omega) (by omega) (by omega) ?_
   refine Zo ht.1 ht.2.1 (zz (by omega) (by omega) (hn hlt _ ⟨by simp,by omega,?_⟩))
   simp only
   rw [zam ht.1 ht.2.1,List.take_succ_eq_append_getElem hlt,zgE];rfl
  exact ⟨Zo ht.1 ht.2.1 (zek ht fin),zek ht (Zo ht.1 ht.2.1 fin)⟩
 ·have hge:ts.length≤k:=by simpa using hc
  rw [List.take_of_length_le hge]
  exact hκ
def pc (r:List zj) (a:za):List za:=if r=[] then [] else [a]
def YX (a b:za):List za :=
 if em4 (yc a b) then (if em4 a then [] else [a]) else
 pc (xC a.x0 b.x0 65535) ⟨xC a.x0 b.x0 65535,a.x1,a.x2,a.x3⟩ ++
 pc (xC a.x1 b.x1 65535) ⟨ja a.x0 b.x0,xC a.x1 b.x1 65535,a.x2,a.x3⟩ ++
 pc (xC a.x2 b.x2 255) ⟨ja a.x0 b.x0,ja a.x1 b.x1,xC a.x2 b.x2 255,a.x3⟩ ++
 pc (xC a.x3 b.x3 7) ⟨ja a.x0 b.x0,ja a.x1 b.x1,ja a.x2 b.x2,xC a.x3 b.x3 7⟩
theorem zaQ {a b:List zj} {t:Int} (ha:St a t) (hb:St b t):St (xC a b t) t:=XN ha (Uq hb).1
theorem zmv {a b:za} (ha:B4 a) (hb:B4 b):∀ c∈YX a b,B4 c:=by
 have hm:=zh6 ha hb
 intro c hc
 unfold YX at hc
 split at hc
 ·split at hc
  ·simp at hc
  ·simp only [List.mem_singleton] at hc;subst hc;exact ha
 ·simp only [List.mem_append,or_assoc] at hc
  have pcm:∀ {r:List zj} {d:za},c∈pc r d→c=d:=fun {r d} h=>by unfold pc at h;split at h <;> simp at h;exact h
  rcases hc with h | h | h | h
  ·rw [pcm h];exact ⟨zaQ ha.1 hb.1,ha.2.1,ha.2.2.1,ha.2.2.2⟩
  ·rw [pcm h];exact ⟨hm.1,zaQ ha.2.1 hb.2.1,ha.2.2.1,ha.2.2.2⟩
  ·rw [pcm h];exact ⟨hm.1,hm.2.1,zaQ ha.2.2.1 hb.2.2.1,ha.2.2.2⟩
  ·rw [pcm h];exact ⟨hm.1,hm.2.1,hm.2.2.1,zaQ ha.2.2.2 hb.2.2.2⟩
theorem VK (r:List zj) (a:za):(pc r a).length≤1:=by unfold pc;split <;> simp
theorem zbQ (a b:za):(YX a b).length≤4:=by
 unfold YX
 split
 ·split <;> simp
 ·simp only [List.length_append]
  have:=VK (xC a.x0 b.x0 65535) ⟨xC a.x0 b.x0 65535,a.x1,a.x2,a.x3⟩
  have:=VK (xC a.x1 b.x1 65535) ⟨ja a.x0 b.x0,xC a.x1 b.x1 65535,a.x2,a.x3⟩
  have:=VK (xC a.x2 b.x2 255) ⟨ja a.x0 b.x0,ja a.x1 b.x1,xC a.x2 b.x2 255,a.x3⟩
  have:=VK (xC a.x3 b.x3 7) ⟨ja a.x0 b.x0,ja a.x1 b.x1,ja a.x2 b.x2,xC a.x3 b.x3 7⟩
  omega
theorem zhc {l:List zj} {t:Int} (h:St l t) (h0:0≤t) (ht:t≤65535):l.length≤4294967296:=by
 have:=VU h (by omega);omega
theorem zcv {a:za} (h:B4 a):∀ x∈L4 a,x.length≤4294967296:=by
 obtain ⟨p0,p1,p2,p3⟩:=h
 intro x hx
 simp only [L4,List.mem_cons,List.not_mem_nil,or_false] at hx
 rcases hx with rfl | rfl | rfl | rfl
 ·exact zhc p0 (by decide) (by decide)
 ·exact zhc p1 (by decide) (by decide)
 ·exact zhc p2 (by decide) (by decide)
 ·exact zhc p3 (by decide) (by decide)
theorem xf {σ:Type} {K:σ→Prop} {B:(σ→Prop)→Prop} (h:B K):jnW K B:=h
theorem za2 {a:za} (ha:B4 a) {t:Int} (h0:0≤t) (h1:t≤3) {r:List zj} {out:List jm} (ho:out.length≤1000) {K:List jm→Prop} (h:K (out++(pc r (UD a t r)).map bx)) :
  jnW K (fun k235=>ifW (decide (0<(r.length:Int))) (ug (L4 a) (fun r149=>zI r149 t (fun _=>jW out ([(jm.mk (r149.set (t).toNat r))]) (fun _=>k235 (out++([(jm.mk (r149.set (t).toNat r))])))))) (k235 out)):=by
 refine zi (fun e=>?_) (fun e=>?_)
 ·have hr:r≠[]:=by intro f;subst f;simp at e
  refine Za (by simp [L4]) (zcv ha) (Zo h0 h1 (jj (by simp only [List.length_singleton];omega) ?_))
  unfold pc at h
  rw [if_neg hr] at h
  rw [zam h0 h1];exact h
 ·have hr:r=[]:=by simpa using e
  unfold pc at h
  rw [if_pos hr] at h
  simpa using h
theorem zfl {a b:za} (ha:B4 a) (hb:B4 b) {κ:List jm→Prop} (h:κ ((YX a b).map bx)):Zt (bx a) (bx b) κ:=by
 unfold Zt
 refine zgG ha hb (VX (zi (fun e=>?_) (fun e=>?_)))
 ·unfold YX at h;rw [if_pos e] at h
  unfold jnW
  refine VX (zi (fun e2=>?_) (fun e2=>?_))
  ·rw [if_neg (by simpa using e2)] at h;exact jj (by simp) h
  ·rw [if_pos (by simpa using e2)] at h;exact h
 unfold YX at h;rw [if_neg (by simp [e])] at h
 clear e
 obtain ⟨a0,a1,a2,a3⟩:=a
 obtain ⟨b0,b1,b2,b3⟩:=b
 have ha0:=ha
 obtain ⟨p0,p1,p2,p3⟩:=ha
 obtain ⟨q0,q1,q2,q3⟩:=hb
 simp only at p0 p1 p2 p3 q0 q1 q2 q3 h
 have m0:=XN p0 q0.1
 have m1:=XN p1 q1.1
 have m2:=XN p2 q2.1
 refine ⟨5,?_⟩
 refine jt (xf (xf ?_))
 refine zp 0 rfl (by simp [L4,bx]) (zp 0 rfl (by simp [L4,bx]) (xJ (n:=(0:Int)) (by decide) (by decide) (zaH (top:=65535) q0 (by decide) (by decide) (Xo p0 (Uq q0) (by decide) (by decide) (by decide) (by decide) ?_))))
 refine zp 0 rfl (by simp [L4,bx]) (zp 0 rfl (by simp [L4,bx]) (Xo p0 q0 (by decide) (by decide) (by decide) (by decide) (za2 (a:=⟨a0,a1,a2,a3⟩) ha0 (t:=(0:Int)) (by decide) (by decide) (by simp) ?_)))
 refine Za (l:=L4 ⟨a0,a1,a2,a3⟩) (by simp [L4,bx]) (zcv ha0) (Zo (a:=⟨a0,a1,a2,a3⟩) (f:=(0:Int)) (by decide) (by decide) (zz (by decide) (by decide) ?_))
 have c1:B4 ⟨ja a0 b0,a1,a2,a3⟩:=⟨m0,p1,p2,p3⟩
 refine jt (xf (xf ?_))
 refine zp 1 rfl (by simp [L4,bx]) (zp 1 rfl (by simp [L4,bx]) (xJ (n:=(1:Int)) (by decide) (by decide) (zaH (top:=65535) q1 (by decide) (by decide) (Xo p1 (Uq q1) (by decide) (by decide) (by decide) (by decide) ?_))))
 refine zp 1 rfl (by simp [L4,bx]) (zp 1 rfl (by simp [L4,bx]) (Xo p1 q1 (by decide) (by decide) (by decide) (by decide) (za2 (a:=⟨ja a0 b0,a1,a2,a3⟩) c1 (t:=(1:Int)) (by decide) (by decide) (by have:=VK (ja a0 (ZL b0 65535)) (UD ⟨a0,a1,a2,a3⟩ 0 (ja a0 (ZL b0 65535)));simp only [List.length_append,List.length_map,List.length_nil];omega) ?_)))
 refine Za (l:=L4 ⟨ja a0 b0,a1,a2,a3⟩) (by simp [L4,bx]) (zcv c1) (Zo (a:=⟨ja a0 b0,a1,a2,a3⟩) (f:=(1:Int)) (by decide) (by decide) (zz (by decide) (by decide) ?_))
 have c2:B4 ⟨ja a0 b0,ja a1 b1,a2,a3⟩:=⟨m0,m1,p2,p3⟩
 refine jt (xf (xf ?_))
 refine zp 2 rfl (by simp [L4,bx]) (zp 2 rfl (by simp [L4,bx]) (xJ (n:=(2:Int)) (by decide) (by decide) (zaH (top:=255) q2 (by decide) (by decide) (Xo p2 (Uq q2) (by decide) (by decide) (by decide) (by decide) ?_))))
 refine zp 2 rfl (by simp [L4,bx]) (zp 2 rfl (by simp [L4,bx]) (Xo p2 q2 (by decide) (by decide) (by decide) (by decide) (za2 (a:=⟨ja a0 b0,ja a1 b1,a2,a3⟩) c2 (t:=(2:Int)) (by decide) (by decide) (by
  have:=VK (ja a0 (ZL b0 65535)) (UD ⟨a0,a1,a2,a3⟩ 0 (ja a0 (ZL b0 65535)))
  have:=VK (ja a1 (ZL b1 65535)) (UD ⟨ja a0 b0,a1,a2,a3⟩ 1 (ja a1 (ZL b1 65535)))
  simp only [List.length_append,List.length_map,List.length_nil];omega) ?_)))
 refine Za (l:=L4 ⟨ja a0 b0,ja a1 b1,a2,a3⟩) (by simp [L4,bx]) (zcv c2) (Zo (a:=⟨ja a0 b0,ja a1 b1,a2,a3⟩) (f:=(2:Int)) (by decide) (by decide) (zz (by decide) (by decide) ?_))
 have c3:B4 ⟨ja a0 b0,ja a1 b1,ja a2 b2,a3⟩:=⟨m0,m1,m2,p3⟩
 refine jt (xf (xf ?_))
 refine zp 3 rfl (by simp [L4,bx]) (zp 3 rfl (by simp [L4,bx]) (xJ (n:=(3:Int)) (by decide) (by decide) (zaH (top:=7) q3 (by decide) (by decide) (Xo p3 (Uq q3) (by decide) (by decide) (by decide) (by decide) ?_))))
 refine zp 3 rfl (by simp [L4,bx]) (zp 3 rfl (by simp [L4,bx]) (Xo p3 q3 (by decide) (by decide) (by decide) (by decide) (za2 (a:=⟨ja a0 b0,ja a1 b1,ja a2 b2,a3⟩) c3 (t:=(3:Int)) (by decide) (by decide) (by
  have:=VK (ja a0 (ZL b0 65535)) (UD ⟨a0,a1,a2,a3⟩ 0 (ja a0 (ZL b0 65535)))
  have:=VK (ja a1 (ZL b1 65535)) (UD ⟨ja a0 b0,a1,a2,a3⟩ 1 (ja a1 (ZL b1 65535)))
  have:=VK (ja a2 (ZL b2 255)) (UD ⟨ja a0 b0,ja a1 b1,a2,a3⟩ 2 (ja a2 (ZL b2 255)))
  simp only [List.length_append,List.length_map,List.length_nil];omega) ?_)))
 refine Za (l:=L4 ⟨ja a0 b0,ja a1 b1,ja a2 b2,a3⟩) (by simp [L4,bx]) (zcv c3) (Zo (a:=⟨ja a0 b0,ja a1 b1,ja a2 b2,a3⟩) (f:=(3:Int)) (by decide) (by decide) (zz (by decide) (by decide) ?_))
 refine jK ?_
 simp only [List.map_append] at h
 exact h
end
section
open Go Go.Proofs
def hdm (a b:za) (k:Nat):za:=⟨if 0<k then ja a.x0 b.x0 else a.x0,if 1<k then ja a.x1 b.x1 else a.x1,if 2<k then ja a.x2 b.x2 else a.x2,if 3<k then ja a.x3 b.x3 else a.x3⟩
def rst (a b:za) (k:Nat):List zj:=xC (xL a k) (xL b k) (top k)
def mt (a b:za) (k:Nat):List zj:=ja (xL a k) (xL b k)
def pcn (a b:za) (k:Nat):List za:=pc (rst a b k) (UD (hdm a b k) k (rst a b k))
def pcs (a b:za) (k:Nat):List za:=(List.range k).flatMap (pcn a b)
theorem zad (a b:za) (k:Nat):pcs a b (k+1)=pcs a b k++pcn a b k:=by simp [pcs,List.range_succ]
theorem zlA (a b:za):pcs a b 4=pc (xC a.x0 b.x0 65535) ⟨xC a.x0 b.x0 65535,a.x1,a.x2,a.x3⟩ ++
 pc (xC a.x1 b.x1 65535) ⟨ja a.x0 b.x0,xC a.x1 b.x1 65535,a.x2,a.x3⟩ ++
 pc (xC a.x2 b.x2 255) ⟨ja a.x0 b.x0,ja a.x1 b.x1,xC a.x2 b.x2 255,a.x3⟩ ++
 pc (xC a.x3 b.x3 7) ⟨ja a.x0 b.x0,ja a.x1 b.x1,ja a.x2 b.x2,xC a.x3 b.x3 7⟩:=by
 rw [zad,zad,zad,zad];rfl
theorem zmb {a b:za} (h:em4 (yc a b)=false):YX a b=pcs a b 4:=by
 unfold YX;rw [if_neg (by simp [h]),zlA]
theorem Vb {k:Nat} (h:k<4):k=0∨k=1∨k=2∨k=3:=by omega
theorem zml (a b:za) {k:Nat} (h:k<4):∀ c∈pcn a b k,c∈pcs a b 4:=fun c hc=>by
 unfold pcs;exact List.mem_flatMap.2 ⟨k,by simpa using h,hc⟩
theorem zlS (a b:za) {k:Nat} (h:k<4):UD (hdm a b k) k (mt a b k)=hdm a b (k+1):=by
 rcases Vb h with rfl | rfl | rfl | rfl <;> rfl
theorem zoj {a b:za} (ha:F4 a) {k:Nat} (h:k<4) {r:List zj}:F4 (UD (hdm a b k) k r)↔r.length≤40∧∀ j,j<k→(mt a b j).length≤40:=by
 obtain ⟨h0,h1,h2,h3⟩:=ha
 rcases Vb h with rfl | rfl | rfl | rfl
 ·constructor
  ·intro q;exact ⟨q.1,fun j hj=>by omega⟩
  ·intro q;exact ⟨q.1,h1,h2,h3⟩
 ·constructor
  ·intro q
   refine ⟨q.2.1,fun j hj=>?_⟩
   have ej:j=0:=by omega
   subst ej
   exact q.1
  ·intro q;exact ⟨q.2 0 (by omega),q.1,h2,h3⟩
 ·constructor
  ·intro q
   refine ⟨q.2.2.1,fun j hj=>?_⟩
   obtain rfl | rfl:j=0∨j=1:=by omega
   ·exact q.1
   ·exact q.2.1
  ·intro q;exact ⟨q.2 0 (by omega),q.2 1 (by omega),q.1,h3⟩
 ·constructor
  ·intro q
   refine ⟨q.2.2.2,fun j hj=>?_⟩
   obtain rfl | rfl | rfl:j=0∨j=1∨j=2:=by omega
   ·exact q.1
   ·exact q.2.1
   ·exact q.2.2.1
  ·intro q;exact ⟨q.2 0 (by omega),q.2 1 (by omega),q.2 2 (by omega),q.1⟩
theorem zgL {σ:Type} {K:σ→Prop} {B:(σ→Prop)→Prop} (P:σ→Prop) (h1:∀ r,P r→K r) (h2:∀ K',(∀ r,P r→K' r)→B K'):jnW K B:=h2 K h1
def ze0 (a b:za):List za×Bool:=if ∀ c∈YX a b,F4 c then (YX a b,true) else ([],false)
theorem zfr {a b:za} (ha:B4 a) (hb:B4 b) (hf:F4 a) {κ:List za×Bool→Prop} (h:κ (ze0 a b)):yF a b κ:=by
 have yes:(∀ c∈YX a b,F4 c)→κ (znD (some (YX a b))):=fun q=>by
  unfold ze0 at h;rw [if_pos q] at h;exact h
 have no:(¬ ∀ c∈YX a b,F4 c)→κ (znD none):=fun q=>by
  unfold ze0 at h;rw [if_neg q] at h;exact h
 clear h
 unfold yF XY
 refine zdC (zi (fun e=>?_) (fun e=>zgO ha hb (zi (fun e2=>?_) (fun e2=>?_))))
 ·have hc:YX a b=[]:=by
   have:em4 (yc a b)=true:=by
    simp only [em4,decide_eq_true_eq,yc] at e ⊢
    rcases e with e | e | e | e <;> simp [e,ja]
   unfold YX;rw [if_pos this,if_pos e]
  rw [hc] at yes;exact yes (by simp)
 ·have hc:YX a b=[a]:=by
   unfold YX;rw [if_pos (by simpa using e2),if_neg (by simp [e])]
  rw [hc] at yes
  refine jt (jj (by simp) ?_)
  exact yes (by simpa using hf)
 have e3:em4 (yc a b)=false:=by simpa using e2
 rw [zmb e3] at yes no
 clear e e2 e3
 refine zK 4 (fun s=>s.2.2.2) (fun k (s:List (List zj)×Option (List za)×Bool×Int)=>s.2.2.2=(k:Int)∧k≤4∧(∃ hd,s.1=L4 hd∧(s.2.2.1=true→hd=hdm a b k))∧(s.2.2.1=true↔∀ j,j<k→(mt a b j).length≤40)∧s.2.1=some (pcs a b k)∧∀ c∈pcs a b k,F4 c) (fun k s h=>h.1) (fun k s h=>h.2.1) ?_ ⟨rfl,by omega,⟨a,rfl,fun _=>rfl⟩,by simp,rfl,by simp [pcs]⟩
 rintro k ⟨xs,z,fits,_⟩ next ⟨rfl,hk,⟨hd,hxs,hfx⟩,hfit,hz,hpre⟩ hn
 simp only at hxs hfx hfit hz
 subst hxs hz
 refine zi (fun hc=>?_) (fun hc=>?_)
 rotate_left
 ·have hge:4≤(k:Int):=by simpa using hc
  obtain rfl:k=4:=by omega
  exact yes hpre
 have hlt:k<4:=by
  have:(k:Int)<4:=by simpa using hc
  omega
 have k0:(0:Int)≤k:=by omega
 have k3:(k:Int)≤3:=by omega
 have sa:=YD ha k0 k3
 have sb:=YD hb k0 k3
 have tl:=Uk k
 have fin2:∀ (z':List za) (hd':za),z'=pcs a b (k+1)→(∀ c∈z',F4 c)→(fits=true→hd'=hdm a b k)→∀ l ok,(l,ok)=lim (mt a b k)→zI (L4 hd') k (fun e432=>ifW fits (jh (k:Int) 1 (fun t505=>next ((L4 hd').set (k:Int).toNat l,some z',ok,t505))) (jh (k:Int) 1 (fun t505=>next ((L4 hd').set (k:Int).toNat l,some z',false,t505)))):=by
  intro z' hd' hz' hF hh l ok hl
  subst hz'
  refine Zo k0 k3 (zi (fun e=>?_) (fun e=>?_))
  ·refine zz (by omega) (by omega) (hn hlt _ ⟨by simp,by omega,⟨UD hd' k l,zam k0 k3,fun q=>?_⟩,?_,rfl,hF⟩)
   ·simp only at q
    rw [hh e]
    unfold lim at hl
    split at hl
    ·injection hl with _ h2;rw [q] at h2;cases h2
    ·injection hl with h1 _;rw [h1,zlS a b hlt]
   ·simp only
    unfold lim at hl
    constructor
    ·intro q j hj
     by_cases ej:j=k
     ·subst ej
      split at hl
      ·injection hl with _ h2;rw [q] at h2;cases h2
      ·omega
     ·exact hfit.1 e j (by omega)
    ·intro q
     have:=q k (by omega)
     rw [if_neg (by omega)] at hl
     injection hl
  ·refine zz (by omega) (by omega) (hn hlt _ ⟨by simp,by omega,⟨UD hd' k l,zam k0 k3,fun q=>by cases q⟩,?_,rfl,hF⟩)
   simp only
   constructor
   ·intro q;cases q
   ·intro q
    have:=hfit.2 (fun j hj=>q j (by omega))
    rw [this] at e;cases e
 have piece:rst a b k≠[]→UD (hdm a b k) k (rst a b k)∈pcs a b 4:=fun q=>zml a b hlt _ (by unfold pcn pc;rw [if_neg q];simp)
 refine xf (zgL (fun r=>r=lim (rst a b k)) ?_ ?_)
 rotate_left
 ·intro K hK
  have leaf:ur (xL a k) (xL b k) (top k) K:=zh3 sa sb (by omega) (by omega) (hK _ rfl)
  refine ⟨Zo k0 k3 ⟨?_,?_⟩,Zo k0 k3 ⟨?_,?_⟩,ZR k0 k3 ⟨?_,?_⟩⟩
  ·exact Zo k0 k3 (ZR k0 k3 leaf)
  ·exact ZR k0 k3 (Zo k0 k3 leaf)
  ·exact Zo k0 k3 (ZR k0 k3 leaf)
  ·exact ZR k0 k3 (Zo k0 k3 leaf)
  ·exact Zo k0 k3 (Zo k0 k3 leaf)
  ·exact Zo k0 k3 (Zo k0 k3 leaf)
 rintro ⟨l,okl⟩ hl
 refine zgL (fun t=>t=(!okl || (decide (0<(l.length:Int)) && !fits))) ?_ ?_
 rotate_left
 ·intro K hK
  have hK:=hK _ rfl
  refine zi (fun e=>?_) (fun e=>?_)
  ·have:okl=false:=by simpa using e
   rw [this] at hK;simpa using hK
  ·have:okl=true:=by simpa using e
   rw [this] at hK
   refine zi (fun e=>?_) (fun e=>?_)
   ·rw [e] at hK;simpa using hK
   ·rw [e] at hK;simpa using hK
 rintro t rfl
 refine zi (fun e=>?_) (fun e=>?_)
 ·
  refine jK (no (fun q=>?_))
  unfold lim at hl
  split at hl
  ·rename_i h40
   have hne:rst a b k≠[]:=fun f=>by rw [f] at h40;simp at h40
   have:=((zoj hf hlt).1 (q _ (piece hne))).1
   omega
  ·rename_i h40
   injection hl with h1 h2
   subst h1 h2
   have e':0<(rst a b k).length∧fits=false:=by simpa using e
   have hne:rst a b k≠[]:=fun f=>by rw [f] at e';simp at e'
   have:=hfit.2 ((zoj hf hlt).1 (q _ (piece hne))).2
   rw [this] at e';simp at e'
 unfold lim at hl
 split at hl
 ·injection hl with h1 h2
  subst h1 h2
  simp at e
 rename_i h40
 injection hl with h1 h2
 subst h1 h2
 have e':rst a b k≠[]→fits=true:=fun q=>by
  cases fits with
  | true=>rfl
  | false =>
   have:0<(rst a b k).length:=List.length_pos_iff.2 q
   simp [this] at e
 clear e
 refine zgL (fun s=>s.1=some (pcs a b (k+1))∧(∀ c∈pcs a b (k+1),F4 c)∧∃ hd',s.2=L4 hd'∧(fits=true→hd'=hdm a b k)) ?_ ?_
 ·rintro ⟨z,ys⟩ ⟨hz,hF,hd',hy,hh⟩
  simp only at hz hy
  subst hz hy
  refine zgL (fun r=>r=lim (mt a b k)) ?_ ?_
  ·rintro ⟨m,okm⟩ hm
   exact fin2 _ hd' rfl hF hh m okm hm
  ·intro K hK
   have leaf:jO (xL a k) (xL b k) (top k) K:=Up sa sb (by omega) (by omega) (hK _ rfl)
   refine ⟨Zo k0 k3 ⟨?_,?_⟩,Zo k0 k3 ⟨?_,?_⟩,ZR k0 k3 ⟨?_,?_⟩⟩
   ·exact Zo k0 k3 (ZR k0 k3 leaf)
   ·exact ZR k0 k3 (Zo k0 k3 leaf)
   ·exact Zo k0 k3 (ZR k0 k3 leaf)
   ·exact ZR k0 k3 (Zo k0 k3 leaf)
   ·exact Zo k0 k3 (Zo k0 k3 leaf)
   ·exact Zo k0 k3 (Zo k0 k3 leaf)
 ·intro K hK
  refine zi (fun e=>?_) (fun e=>?_)
  ·have hne:rst a b k≠[]:=fun f=>by rw [f] at e;simp at e
   have hft:=e' hne
   have ed:=hfx hft
   subst ed
   have hpc:pcs a b (k+1)=pcs a b k++[UD (hdm a b k) k (rst a b k)]:=by
    rw [zad];unfold pcn pc;rw [if_neg hne]
   refine ⟨_,_,_,_,rfl,Zo (a:=hdm a b k) k0 k3 ⟨(UD (hdm a b k) k (rst a b k)).x0,(UD (hdm a b k) k (rst a b k)).x1,(UD (hdm a b k) k (rst a b k)).x2,(UD (hdm a b k) k (rst a b k)).x3,zam (a:=hdm a b k) k0 k3,?_⟩⟩
   have hl1:(pcs a b k).length≤4:=by
    have h1:∀ n,(pcs a b n).length≤n:=by
     intro n
     induction n with
     | zero=>simp [pcs]
     | succ n ih =>
      have:=VK (rst a b n) (UD (hdm a b n) n (rst a b n))
      rw [zad,List.length_append];unfold pcn;omega
    have:=h1 k;omega
   refine jt (jj (by simp;omega) (jK (hK _ ⟨by rw [hpc],?_,hdm a b k,rfl,fun _=>rfl⟩)))
   intro c hc
   rw [hpc] at hc
   rcases List.mem_append.1 hc with q | q
   ·exact hpre c q
   ·have:c=UD (hdm a b k) k (rst a b k):=by simpa using q
    rw [this]
    exact (zoj hf hlt).2 ⟨by omega,hfit.1 hft⟩
  ·have hnil:rst a b k=[]:=by
    cases hr:rst a b k with
    | nil=>rfl
    | cons x r=>rw [hr] at e;simp at e
   have hpc:pcs a b (k+1)=pcs a b k:=by
    rw [zad];unfold pcn pc;rw [if_pos hnil];simp
   exact hK _ ⟨by rw [hpc],by rw [hpc];exact hpre,hd,rfl,hfx⟩
end
section
def pv (p:yn):Prop:=(0≤p.xFrom∧p.xFrom≤65535)∧(0≤p.xTo∧p.xTo≤65535)∧(0≤p.xPort∧p.xPort≤255)∧(0≤p.xProto∧p.xProto≤7)
instance (p:yn):Decidable (pv p):=by unfold pv;infer_instance
def tv (t:Int):Prop:=0≤t∧t≤1000000
instance (t:Int):Decidable (tv t):=by unfold tv;infer_instance
def zct (p:yn):Nat→Int
 | 0=>p.xFrom
 | 1=>p.xTo
 | 2=>p.xPort
 | _=>p.xProto
def lv (t:Int):Prop:=0≤t∧t≤1000
instance (t:Int):Decidable (lv t):=by unfold lv;infer_instance
end
section
open Go Go.Proofs
def BV (b:jm):Prop:=∃ a,b=bx a∧B4 a∧F4 a
noncomputable instance (b:jm):Decidable (BV b):=Classical.propDecidable _
def sd (b:jm):za:=match b.xSides with | [x0,x1,x2,x3]=>⟨x0,x1,x2,x3⟩ | _=>zd4
theorem zng (a:za):sd (bx a)=a:=rfl
theorem BV.eq {b:jm} (h:BV b):b=bx (sd b):=by obtain ⟨a,rfl,_⟩:=h;rfl
theorem BV.b4 {b:jm} (h:BV b):B4 (sd b):=by obtain ⟨a,rfl,h,_⟩:=h;exact h
theorem BV.f4 {b:jm} (h:BV b):F4 (sd b):=by obtain ⟨a,rfl,_,h⟩:=h;exact h
theorem zgf {a:za}:BV (bx a)↔B4 a∧F4 a:=⟨fun h=>⟨h.b4,h.f4⟩,fun h=>⟨a,rfl,h⟩⟩
theorem zhf {b:jm} (h:BV b):b.xSides.length=4:=by obtain ⟨a,rfl,_⟩:=h;rfl
theorem zo5 {α:Type} {l:List α} (h:l.length=4):∃ a b c d,l=[a,b,c,d]:=by
 match l,h with
 | [a,b,c,d],_=>exact ⟨a,b,c,d,rfl⟩
theorem zoi {b:jm} (h:b.xSides.length=4):b=bx (sd b):=by
 obtain ⟨x0,x1,x2,x3,e⟩:=zo5 h
 obtain ⟨s⟩:=b
 simp only at e
 subst e
 rfl
theorem zhh {a:za}:BV (bx a)↔∀ n:Nat,n<4→SpV (xL a n) (top n):=by
 rw [zgf]
 constructor
 ·rintro ⟨⟨b0,b1,b2,b3⟩,f0,f1,f2,f3⟩ n hn
  rcases Vb hn with rfl | rfl | rfl | rfl
  ·exact ⟨f0,b0⟩
  ·exact ⟨f1,b1⟩
  ·exact ⟨f2,b2⟩
  ·exact ⟨f3,b3⟩
 ·intro h
  obtain ⟨f0,b0⟩:=h 0 (by decide)
  obtain ⟨f1,b1⟩:=h 1 (by decide)
  obtain ⟨f2,b2⟩:=h 2 (by decide)
  obtain ⟨f3,b3⟩:=h 3 (by decide)
  exact ⟨⟨b0,b1,b2,b3⟩,f0,f1,f2,f3⟩
def Bb (b:jm):Prop:=b.xSides.length≤4294967296∧∀ x∈b.xSides,x.length≤4294967296
def Fb (l:List zX):Prop:=l.length≤4294967296∧∀ f∈l,Bb f.xWhere
theorem BV.bb {b:jm} (h:BV b):Bb b:=by
 obtain ⟨a,rfl,_,f0,f1,f2,f3⟩:=h
 refine ⟨by simp [bx],fun x hx=>?_⟩
 simp only [bx,List.mem_cons,List.not_mem_nil,or_false] at hx
 rcases hx with rfl | rfl | rfl | rfl <;> omega
theorem zlv (a:za) {n:Nat} (h:n<4):xL a n∈(bx a).xSides:=by
 rcases Vb h with rfl | rfl | rfl | rfl <;> simp [xL,bx]
theorem zbe {b:jm} (hb:Bb b) {κ:Bool→Prop} (h:κ (decide (BV b))):XW b κ:=by
 unfold XW
 have h1:=hb.1
 refine zi (fun e=>?_) (fun e=>?_)
 ·have e':¬ b.xSides.length=4:=fun q=>by rw [q] at e;simp at e
  rw [decide_eq_false (fun q=>e' (zhf q))] at h;exact h
 have e4:b.xSides.length=4:=by
  have:(b.xSides.length:Int)=4:=by simpa using e
  omega
 obtain ⟨a,rfl⟩:∃ a,b=bx a:=⟨_,zoi e4⟩
 clear e e4
 refine zK 4 (fun s=>s) (fun k s=>s=(k:Int)∧k≤4∧∀ n:Nat,n<k→SpV (xL a n) (top n)) (fun k s h=>h.1) (fun k s h=>h.2.1) ?_ ⟨rfl,by omega,fun n h=>by omega⟩
 rintro k _ next ⟨rfl,hk,hv⟩ hn
 refine zi (fun hc=>?_) (fun hc=>?_)
 ·have hlt:k<4:=by
   have:(k:Int)<4:=by simpa [bx] using hc
   omega
  have k0:(0:Int)≤k:=by omega
  have k3:(k:Int)≤3:=by omega
  have tl:=Uk k
  refine Zo k0 k3 (ZR k0 k3 (zdd (by have:=hb.2 _ (zlv a hlt);omega) (by omega) (by omega) (zi (fun e=>?_) (fun e=>?_))))
  ·have:¬ SpV (xL a k) (top k):=by simpa using e
   rw [decide_eq_false (fun q=>this (zhh.1 q k hlt))] at h;exact h
  ·have:SpV (xL a k) (top k):=by simpa using e
   refine zz (by omega) (by omega) (hn hlt _ ⟨by simp,by omega,fun n hnk=>?_⟩)
   by_cases q:n=k
   ·subst q;exact this
   ·exact hv n (by omega)
 ·have hge:k=4:=by
   have:(4:Int)≤k:=by simpa [bx] using hc
   omega
  subst hge
  rw [decide_eq_true (zhh.2 hv)] at h;exact h
theorem Zb {b:jm} (hb:Bb b) {κ:Bool→Prop} (h:κ (decide (BV b))):uL b κ:=by
 unfold uL
 have h1:=hb.1
 refine zK b.xSides.length (fun s=>s) (fun k s=>s=(k:Int)∧k≤b.xSides.length∧k≤4∧∀ n:Nat,n<k→∀ q:n<b.xSides.length,SpV (b.xSides[n]) (top n)) (fun k s h=>h.1) (fun k s h=>h.2.1) ?_ ⟨rfl,by omega,by omega,fun n h=>by omega⟩
 rintro k _ next ⟨rfl,hk,hk4,hv⟩ hn
 refine zi (fun hc=>?_) (fun hc=>?_)
 ·have hlt:k<b.xSides.length:=by simpa using hc
  refine xf (zi (fun e=>?_) (fun e=>?_))
  ·have e':4≤k:=by
    have:(4:Int)≤k:=by simpa using e
    omega
   rw [decide_eq_false (fun q=>by have:=zhf q;omega)] at h
   exact jt h
  have e':k<4:=by
   have:¬ (4:Int)≤k:=by simpa using e
   omega
  have k0:(0:Int)≤k:=by omega
  have k3:(k:Int)≤3:=by omega
  have tl:=Uk k
  refine zp k rfl hlt (xJ k0 k3 (UF (hb.2 _ (List.getElem_mem hlt)) (by omega) (by omega) (zi (fun e=>?_) (fun e=>?_))))
  ·have no:¬ SpV (b.xSides[k]) (top k):=by simpa using e
   rw [decide_eq_false (fun q=>no ?_)] at h
   ·exact h
   ·obtain ⟨a,rfl,_⟩:=id q
    have:=zhh.1 q k e'
    have e2:(bx a).xSides[k]=xL a k:=by rcases Vb e' with rfl | rfl | rfl | rfl <;> rfl
    rw [e2];exact this
  ·have yes:SpV (b.xSides[k]) (top k):=by simpa using e
   refine zz (by omega) (by omega) (hn hlt _ ⟨by simp,by omega,by omega,fun n hnk q=>?_⟩)
   by_cases e:n=k
   ·subst e;exact yes
   ·exact hv n (by omega) q
 ·have hge:b.xSides.length=k:=by
   have:b.xSides.length≤k:=by simpa using hc
   omega
  have:decide (BV b)=decide ((b.xSides.length:Int)=4):=decide_eq_decide.2 ⟨fun q=>by have:=zhf q;omega,fun q=>by
   have e4:b.xSides.length=4:=by omega
   obtain ⟨a,rfl⟩:∃ a,b=bx a:=⟨_,zoi e4⟩
   refine zhh.2 (fun n hn4=>?_)
   have:=hv n (by omega) (by simpa [bx] using hn4)
   have e2:(bx a).xSides[n]'(by simpa [bx] using hn4)=xL a n:=by rcases Vb hn4 with rfl | rfl | rfl | rfl <;> rfl
   rw [e2] at this;exact this⟩
  rw [this] at h;exact h
def FV (l:List zX):Prop:=l.length≤60∧∀ f∈l,BV f.xWhere
noncomputable instance (l:List zX):Decidable (FV l):=Classical.propDecidable _
theorem FV.fb {l:List zX} (h:FV l):Fb l:=⟨by have:=h.1;omega,fun f hf=>(h.2 f hf).bb⟩
theorem zdF {l:List zX} (hl:Fb l) {κ:Bool→Prop} (h:κ (decide (FV l))):X4 l κ:=by
 unfold X4
 have h1:=hl.1
 refine zi (fun e=>?_) (fun e=>?_)
 ·rw [decide_eq_false (fun q=>by have:=q.1;simp at e;omega)] at h;exact h
 have h60:l.length≤60:=by simp at e;omega
 refine zK l.length (fun s=>s) (fun k s=>s=(k:Int)∧k≤l.length∧∀ f∈l.take k,BV f.xWhere) (fun k s h=>h.1) (fun k s h=>h.2.1) ?_ ⟨rfl,by omega,by simp⟩
 rintro k _ next ⟨rfl,hk,hv⟩ hn
 refine zi (fun hc=>?_) (fun hc=>?_)
 ·have hlt:k<l.length:=by simpa using hc
  refine zp k rfl hlt (zbe (hl.2 _ (List.getElem_mem hlt)) (zi (fun e=>?_) (fun e=>?_)))
  ·have:¬ BV (l[k].xWhere):=by simpa using e
   rw [decide_eq_false (fun q=>this (q.2 _ (List.getElem_mem hlt)))] at h;exact h
  ·have:BV (l[k].xWhere):=by simpa using e
   refine zz (by omega) (by omega) (hn hlt _ ⟨by simp,by omega,fun f hf=>?_⟩)
   rw [List.take_succ_eq_append_getElem hlt] at hf
   rcases List.mem_append.1 hf with q | q
   ·exact hv f q
   ·simp only [List.mem_singleton] at q;rw [q];exact this
 ·have hge:l.length≤k:=by simpa using hc
  rw [List.take_of_length_le hge] at hv
  rw [decide_eq_true (show FV l from ⟨h60,hv⟩)] at h;exact h
theorem yS {l:List zX} (hl:Fb l) {κ:Bool→Prop} (h:κ (decide (FV l))):uz l κ:=by
 unfold uz
 have h1:=hl.1
 refine zK l.length (fun s=>s) (fun k s=>s=(k:Int)∧k≤l.length∧∀ f∈l.take k,BV f.xWhere) (fun k s h=>h.1) (fun k s h=>h.2.1) ?_ ⟨rfl,by omega,by simp⟩
 rintro k _ next ⟨rfl,hk,hv⟩ hn
 refine zi (fun hc=>?_) (fun hc=>?_)
 ·have hlt:k<l.length:=by simpa using hc
  refine zp k rfl hlt (Zb (hl.2 _ (List.getElem_mem hlt)) (zi (fun e=>?_) (fun e=>?_)))
  ·have:¬ BV (l[k].xWhere):=by simpa using e
   rw [decide_eq_false (fun q=>this (q.2 _ (List.getElem_mem hlt)))] at h;exact h
  ·have:BV (l[k].xWhere):=by simpa using e
   refine zz (by omega) (by omega) (hn hlt _ ⟨by simp,by omega,fun f hf=>?_⟩)
   rw [List.take_succ_eq_append_getElem hlt] at hf
   rcases List.mem_append.1 hf with q | q
   ·exact hv f q
   ·simp only [List.mem_singleton] at q;rw [q];exact this
 ·have hge:l.length≤k:=by simpa using hc
  rw [List.take_of_length_le hge] at hv
  rw [show decide (FV l)=decide ((l.length:Int)≤60) from decide_eq_decide.2 ⟨fun q=>by have:=q.1;omega,fun q=>⟨by omega,hv⟩⟩] at h;exact h
theorem zkx {b:jm} (hb:b.xSides.length=4) {κ:za→Prop} (h:κ (sd b)):VN b κ:=by
 have e:=zoi hb
 rw [e] at h ⊢
 exact ⟨_,_,_,_,[],rfl,h⟩
def fl (f:zX):zq:=⟨sd f.xWhere,f.xAccept⟩
theorem V0 {α β:Type} (a:List α) (f:α→β) (hl:a.length≤4294967296) {κ:List β→Prop} (T:α→(β→Prop)→Prop) (hT:∀ x ψ,x∈a→ψ (f x)→T x ψ) (hκ:κ (a.map f))
  (F:(List β×Int→Prop)→List β×Int→Prop)
  (hF:∀ nx xs t,(ifW (decide (t<(a.length:Int))) (zI a t (fun e=>T e (fun r=>jW xs [r] (fun _=>jh t 1 (fun u=>nx (xs++[r],u)))))) (κ xs))→F nx (xs,t)):z8 F ([],0):=by
 refine zK a.length (fun s=>s.2) (fun k s=>s.2=(k:Int)∧k≤a.length∧s.1=(a.take k).map f) (fun k s h=>h.1) (fun k s h=>h.2.1) ?_ ⟨rfl,Nat.zero_le _,by simp⟩
 rintro k ⟨ys,t⟩ next ⟨rfl,hk,hy⟩ hn
 simp only at hy
 subst hy
 refine hF _ _ _ (zi (fun hc=>?_) (fun hc=>?_))
 ·have hlt:k<a.length:=by simpa using hc
  refine zp k rfl hlt (hT _ _ (List.getElem_mem hlt) (jj (by simp;omega) (zz (by omega) (by omega) (hn hlt _ ⟨by simp,by omega,?_⟩))))
  rw [List.take_succ_eq_append_getElem hlt,List.map_append];rfl
 ·have hge:a.length≤k:=by simpa using hc
  rw [List.take_of_length_le hge];exact hκ
theorem zmh {l:List zq} (hl:l.length≤4294967296) {κ:List za→Prop} (h:κ (l.map (·.xWhere))):U6 l κ:=by
 unfold U6
 refine V6 0 rfl (by omega) (by omega) ?_
 exact V0 l (·.xWhere) hl (fun x ψ=>ψ x.xWhere) (fun x ψ hx hψ=>hψ) h _ (fun nx xs t hh=>hh)
theorem zo6 {a:za} (hl:∀ x∈L4 a,x.length≤4294967296) {κ:jm→Prop} (h:κ (bx a)):Xq a κ:=by
 unfold Xq
 refine V6 4 rfl (by decide) (by decide) ?_
 obtain ⟨x0,x1,x2,x3⟩:=a
 have l0:=hl x0 (by simp [L4])
 have l1:=hl x1 (by simp [L4])
 have l2:=hl x2 (by simp [L4])
 have l3:=hl x3 (by simp [L4])
 refine ⟨5,?_⟩
 refine jt (zp 0 rfl (by simp) (jj (by simpa using l0) (zp 0 rfl (by simp) (zz (by decide) (by decide) ?_))))
 refine jt (zp 1 rfl (by simp) (jj (by simpa using l1) (zp 1 rfl (by simp) (zz (by decide) (by decide) ?_))))
 refine jt (zp 2 rfl (by simp) (jj (by simpa using l2) (zp 2 rfl (by simp) (zz (by decide) (by decide) ?_))))
 refine jt (zp 3 rfl (by simp) (jj (by simpa using l3) (zp 3 rfl (by simp) (zz (by decide) (by decide) ?_))))
 exact jK h
theorem zoK {a:za} (h:F4 a):∀ x∈L4 a,x.length≤4294967296:=fun x hx=>by
 obtain ⟨f0,f1,f2,f3⟩:=h
 simp only [L4,List.mem_cons,List.not_mem_nil,or_false] at hx
 rcases hx with rfl | rfl | rfl | rfl <;> omega
theorem zcp {b:jm} (hb:Bb b) {κ:jm→Prop} (h:κ b):XR b κ:=Za hb.1 hb.2 h
theorem zh0 {f:zX} (hb:Bb f.xWhere) {κ:zX→Prop} (h:κ f):YG f κ:=zcp hb h
theorem ZQ {l:List zX} (hl:Fb l) {κ:List zX→Prop} (h:κ l):xK l κ:=by
 unfold xK
 exact V0 l id hl.1 (fun x ψ=>YG x ψ) (fun x ψ hx hψ=>zh0 (hl.2 x hx) hψ) (by simpa using h) _ (fun nx xs t hh=>hh)
def hb4 (a:za) (p:yn):Prop:=hv a.x0 p.xFrom∧hv a.x1 p.xTo∧hv a.x2 p.xPort∧hv a.x3 p.xProto
instance (a:za) (p:yn):Decidable (hb4 a p):=by unfold hb4;infer_instance
theorem zmr (a:za) (p:yn):hb4 a p↔∀ n:Nat,n<4→hv (xL a n) (zct p n):=by
 constructor
 ·rintro ⟨h0,h1,h2,h3⟩ n hn
  rcases Vb hn with rfl | rfl | rfl | rfl
  ·exact h0
  ·exact h1
  ·exact h2
  ·exact h3
 ·intro h
  exact ⟨h 0 (by decide),h 1 (by decide),h 2 (by decide),h 3 (by decide)⟩
end
section
open Go Go.Proofs
def zax (l:List za):Prop:=∀ c∈l,F4 c
instance (l:List za):Decidable (zax l):=by unfold zax;infer_instance
def aB (l:List za):Prop:=∀ c∈l,B4 c
theorem zfp:zax []:=fun c h=>by simp at h
theorem zjh:aB []:=fun c h=>by simp at h
theorem Zd {l m:List za}:zax (l++m)↔zax l∧zax m:=by
 unfold zax
 simp only [List.mem_append]
 exact ⟨fun h=>⟨fun c hc=>h c (.inl hc),fun c hc=>h c (.inr hc)⟩,fun h c hc=>hc.elim (h.1 c) (h.2 c)⟩
theorem V9 {l m:List za}:aB (l++m)↔aB l∧aB m:=by
 unfold aB
 simp only [List.mem_append]
 exact ⟨fun h=>⟨fun c hc=>h c (.inl hc),fun c hc=>h c (.inr hc)⟩,fun h c hc=>hc.elim (h.1 c) (h.2 c)⟩
def xT (left:List za) (b:za):List za:=left.flatMap (fun c=>YX c b)
def okR (l:List za):Prop:=zax l∧l.length≤400
instance (l:List za):Decidable (okR l):=by unfold okR;infer_instance
def lgo:List za→List za→Option (List za)
 | left,[]=>some left
 | left,b :: bs=>if okR (xT left b) then lgo (xT left b) bs else none
def zbR (a:za) (bs:List za):Option (List za):=if em4 a then some [] else lgo [a] bs
def zoX:Option (List za)→List za×Bool
 | some l=>(l,true)
 | none=>([],false)
theorem zg0:∀ (bs:List za),lgo [] bs=some []
 | []=>rfl
 | b :: bs=>by
  have e:xT [] b=[]:=rfl
  unfold lgo
  rw [e,if_pos ⟨zfp,by simp⟩]
  exact zg0 bs
theorem XX (l m:List za) (b:za):xT (l++m) b=xT l b++xT m b:=by simp [xT]
theorem Uo (c b:za):xT [c] b=YX c b:=by simp [xT]
theorem zbY {left:List za} {b:za} (hl:aB left) (hb:B4 b):aB (xT left b):=fun c hc=>by
 obtain ⟨d,hd,hc⟩:=List.mem_flatMap.1 hc
 exact zmv (hl d hd) hb c hc
def hbs (l:List za) (p:yn):Prop:=∃ c∈l,hb4 c p
instance (l:List za) (p:yn):Decidable (hbs l p):=by unfold hbs;infer_instance
theorem zfa {a b:List zj} {t x:Int} (ha:St a t) (hb:St b t):hv (xC a b t) x↔hv a x∧¬ hv b x:=by
 unfold xC
 rw [VM,zgv hb]
 exact ⟨fun h=>⟨h.1,h.2.2.2⟩,fun h=>⟨h.1,(Xh ha h.1).1,(Xh ha h.1).2,h.2⟩⟩
theorem zik {a:za} {bs:List za} (ha:B4 a) (hf:F4 a) (hb:aB bs) (hl:bs.length≤4294967296) {κ:List za×Bool→Prop} (h:κ (zoX (zbR a bs))):yX a bs κ:=by
 unfold yX
 refine zdC (zi (fun e=>?_) (fun e=>?_))
 ·unfold zbR at h;rw [if_pos e] at h;exact h
 unfold zbR at h;rw [if_neg (by simp [e])] at h
 refine xf ?_
 refine zK bs.length (fun s=>s.2) (fun k (s:List za×Int)=>s.2=(k:Int)∧k≤bs.length∧aB s.1∧okR s.1∧lgo [a] bs=lgo s.1 (bs.drop k)) (fun k s h=>h.1) (fun k s h=>h.2.1) ?_ ⟨rfl,by omega,fun c hc=>by simp only [List.mem_singleton] at hc;subst hc;exact ha,⟨fun c hc=>by simp only [List.mem_singleton] at hc;subst hc;exact hf,by simp⟩,rfl⟩
 rintro k ⟨left,_⟩ next ⟨rfl,hk,hB,hO,he⟩ hn
 simp only at hB hO he
 refine zi (fun hc=>?_) (fun hc=>?_)
 rotate_left
 ·have hge:bs.length≤k:=by simpa using hc
  rw [he,List.drop_of_length_le hge] at h
  exact h
 have hlt:k<bs.length:=by simpa using hc
 rw [List.drop_eq_getElem_cons hlt] at he
 have hbk:=hb _ (List.getElem_mem hlt)
 have no:¬ okR (xT left bs[k])→κ ([],false):=fun q=>by
  rw [he] at h;unfold lgo at h;rw [if_neg q] at h;exact h
 refine zp k rfl hlt ?_
 have hlen:=hO.2
 refine zK left.length (fun s=>s.2) (fun j (s:List za×Int)=>s.2=(j:Int)∧j≤left.length∧s.1=xT (left.take j) bs[k]∧okR (xT (left.take j) bs[k])) (fun k s h=>h.1) (fun k s h=>h.2.1) ?_ ⟨rfl,by omega,by simp [xT],by simp [xT,okR,zax]⟩
 rintro j ⟨_,_⟩ next2 ⟨rfl,hj,hx,hok⟩ hn2
 simp only at hx
 subst hx
 refine zi (fun hc2=>?_) (fun hc2=>?_)
 ·have hjl:j<left.length:=by simpa using hc2
  have hcB:=hB _ (List.getElem_mem hjl)
  have hcF:=hO.1 _ (List.getElem_mem hjl)
  have hl4:=zbQ left[j] bs[k]
  have hl2:=hok.2
  have split3:xT left bs[k]=xT (left.take j) bs[k]++(YX left[j] bs[k]++xT (left.drop (j+1)) bs[k]):=by
   have:=List.take_append_drop j left
   rw [List.drop_eq_getElem_cons hjl] at this
   have e2:=congrArg (fun l=>xT l bs[k]) this
   simp only [XX] at e2
   rw [← e2]
   rw [show left[j] :: left.drop (j+1)=[left[j]]++left.drop (j+1) from rfl,XX,Uo]
  refine zp j rfl hjl (zfr hcB hbk hcF ?_)
  by_cases hFc:∀ c∈YX left[j] bs[k],F4 c
  ·rw [show ze0 left[j] bs[k]=(YX left[j] bs[k],true) from if_pos hFc]
   refine xf (jK (zz (by omega) (by omega) (zi (fun e=>no (fun q=>?_)) (fun e=>?_))))
   ·have:=q.2
    rw [split3] at this
    simp only [List.length_append] at this
    simp at e
    omega
   ·have e':(xT (left.take j) bs[k]).length+(YX left[j] bs[k]).length≤400:=by simp at e;omega
    refine jj (by omega) (zz (by omega) (by omega) (hn2 hjl _ ⟨by simp,by omega,?_,?_⟩))
    ·rw [List.take_succ_eq_append_getElem hjl,XX,Uo]
    ·rw [List.take_succ_eq_append_getElem hjl,XX,Uo]
     exact ⟨Zd.2 ⟨hok.1,hFc⟩,by rw [List.length_append];exact e'⟩
  ·rw [show ze0 left[j] bs[k]=([],false) from if_neg hFc]
   refine xf (jt (jt (no (fun q=>hFc ?_))))
   have:=q.1
   rw [split3] at this
   exact (Zd.1 (Zd.1 this).2).1
 ·have hjge:left.length≤j:=by simpa using hc2
  rw [List.take_of_length_le hjge] at hok ⊢
  have he2:lgo [a] bs=lgo (xT left bs[k]) (bs.drop (k+1)):=by
   rw [he];conv=>lhs;unfold lgo
   rw [if_pos hok]
  refine zi (fun e=>?_) (fun e=>?_)
  ·have:xT left bs[k]=[]:=by
    have:(xT left bs[k]).length=0:=by
     have:((xT left bs[k]).length:Int)=0:=by simpa using e
     omega
    exact List.length_eq_zero_iff.1 this
   rw [this] at he2 ⊢
   rw [he2,zg0] at h
   exact h
  ·exact zz (by omega) (by omega) (hn hlt _ ⟨by simp,by omega,zbY hB hbk,hok,he2⟩)
def IV (l:List zq):Prop:=∀ f∈l,B4 f.xWhere∧F4 f.xWhere
theorem FV.iv {l:List zX} (h:FV l):IV (l.map fl):=fun f hf=>by
 obtain ⟨g,hg,rfl⟩:=List.mem_map.1 hf
 exact ⟨(h.2 g hg).b4,(h.2 g hg).f4⟩
def whs (l:List zq):List za:=l.map (·.xWhere)
theorem IV.aB {l:List zq} (h:IV l):aB (whs l):=fun c hc=>by
 obtain ⟨f,hf,rfl⟩:=List.mem_map.1 hc
 exact (h f hf).1
theorem IV.take {l:List zq} (h:IV l) (n:Nat):IV (l.take n):=fun f hf=>h f (List.mem_of_mem_take hf)
def zlK (l:List zq) (n:Nat) (h:n<l.length):Option (List za):=zbR l[n].xWhere (whs (l.take n))
theorem zlf {l:List zq} (hl:l.length≤100000) (hv:IV l) {n:Nat} (hn:n<l.length) {κ:List za×Bool→Prop} (h:κ (zoX (zlK l n hn))):Va l n κ:=by
 unfold Va
 refine zp n rfl hn ⟨by omega,by omega,by omega,?_⟩
 have e:(l.take (n:Int).toNat).drop (0:Int).toNat=l.take n:=by simp
 rw [e]
 have hv2:=hv _ (List.getElem_mem hn)
 refine zmh (by simp;omega) (zik hv2.1 hv2.2 (hv.take n).aB (by unfold whs;rw [List.length_map,List.length_take];omega) ?_)
 exact h
def dd (l:List zq) (n:Nat):Bool:=match h:l[n]? with | some f=>decide (zbR f.xWhere (whs (l.take n))=some []) | none=>false
theorem zm7 {l:List zq} {n:Nat} (hn:n<l.length):dd l n=decide (zlK l n hn=some []):=by
 unfold dd
 split
 ·rename_i f hf
  obtain ⟨_,e⟩:=List.getElem?_eq_some_iff.1 hf
  unfold zlK;rw [e]
 ·rename_i hf
  rw [List.getElem?_eq_none_iff] at hf;omega
def znj (l:List zq):List Nat:=(List.range l.length).filter (dd l)
theorem zlI {l:List zq} (hl:l.length≤100000) (hv:IV l) {κ:List Int→Prop} (h:κ ((znj l).map Int.ofNat)):U9 l κ:=by
 unfold U9
 refine zK l.length (fun s=>s.2) (fun k (s:List Int×Int)=>s.2=(k:Int)∧k≤l.length∧s.1=((List.range k).filter (dd l)).map Int.ofNat) (fun k s h=>h.1) (fun k s h=>h.2.1) ?_ ⟨rfl,by omega,rfl⟩
 rintro k ⟨_,_⟩ next ⟨rfl,hk,hx⟩ hn
 simp only at hx
 subst hx
 refine zi (fun hc=>?_) (fun hc=>?_)
 ·have hlt:k<l.length:=by simpa using hc
  have hlen:(((List.range k).filter (dd l)).map Int.ofNat).length≤k:=by
   rw [List.length_map]
   exact Nat.le_trans (List.length_filter_le _ _) (by simp)
  refine xf (zlf hl hv hlt ?_)
  have step:∀ ys:List Int,ys=((List.range (k+1)).filter (dd l)).map Int.ofNat→jh (k:Int) 1 (fun t145=>next (ys,t145)):=fun ys hy =>
   zz (by omega) (by omega) (hn hlt _ ⟨by simp,by omega,hy⟩)
  have e1:dd l k=true→((List.range (k+1)).filter (dd l)).map Int.ofNat=((List.range k).filter (dd l)).map Int.ofNat++[(k:Int)]:=fun q=>by
   rw [List.range_succ,List.filter_append,List.map_append,List.filter_cons,q];rfl
  have e0:dd l k=false→((List.range (k+1)).filter (dd l)).map Int.ofNat=((List.range k).filter (dd l)).map Int.ofNat:=fun q=>by
   rw [List.range_succ,List.filter_append,List.map_append,List.filter_cons,q];simp
  have hd:=zm7 hlt
  cases hlv:zlK l k hlt with
  | none =>
   rw [hlv] at hd
   have hd':dd l k=false:=by rw [hd];simp
   exact xf (jK (jK (step _ (e0 hd').symm)))
  | some r =>
   rw [hlv] at hd
   refine xf (jt (zi (fun e=>?_) (fun e=>?_)))
   ·have:r=[]:=by
     have:r.length=0:=by
      have:(r.length:Int)=0:=by simpa using e
      omega
     exact List.length_eq_zero_iff.1 this
    subst this
    have hd':dd l k=true:=by rw [hd];simp
    exact jj (by simp only [List.length_singleton];omega) (step _ (e1 hd').symm)
   ·have:r≠[]:=fun q=>by rw [q] at e;simp at e
    have hd':dd l k=false:=by rw [hd];simpa using this
    exact step _ (e0 hd').symm
 ·have hge:l.length≤k:=by simpa using hc
  have:k=l.length:=by omega
  subst this
  exact h
end
section
open Go.Lib (decDigits)
theorem zd1 {xs:List ByteArray} {y:ByteArray} {κ:List ByteArray→Prop} (h1:xs.length≤1000) (h:κ (xs++[y])):jW xs [y] κ:=jj (by simp;omega) h
theorem zcG {s:zD} {κ:List ByteArray→Prop} (hb:Bd s) (h1:SV s→κ (Vn s)) (h2:¬ SV s→κ []):XC s κ:=by
 unfold XC
 refine YS hb (fun b hbv=>zi (fun hc=>h2 (fun hh=>?_)) (fun hc=>?_))
 ·rw [hbv.2 hh] at hc;cases hc
 have hv:SV s:=hbv.1 (by simpa using hc)
 have hcl:=hv.1.1
 have key:∀ d:List UInt8,d=dft s→z8 (fun (nx80:((List ByteArray)×Int)→Prop) ((xs76,t79):((List ByteArray)×Int))=>ifW (decide (t79<(s.xChains.length:Int))) (zI s.xChains t79 (fun e81=>Zu t79 (fun r87=>jW xs76 ([r87]) (fun _=>z8 (fun (nx97:((List ByteArray)×Int)→Prop) ((xs93,t96):((List ByteArray)×Int))=>ifW (decide (t96<(e81.length:Int))) (zI e81 t96 (fun e98=>Zw e98 (fun r109=>jW xs93 ([r109]) (fun _=>jh t96 1 (fun t114=>nx97 ((xs93++([r109])),t114)))))) (jh t79 1 (fun t115=>nx80 (xs93,t115)))) ((xs76++([r87])),0))))) (κ xs76)) ([B d],0):=by
  rintro d rfl
  refine zK s.xChains.length (fun s=>s.2) (fun k t=>t=(B (dft s) :: lsF 0 (s.xChains.take k),(k:Int))∧k≤s.xChains.length) (fun k s h=>by rw [h.1]) (fun k s h=>h.2) ?_ ⟨by simp [lsF],Nat.zero_le _⟩
  rintro k _ next ⟨rfl,hk⟩ hn
  have hs:=zeT (s.xChains.take k) (fun c hc=>(hv.1.2 c (List.mem_of_mem_take hc)).1)
  have hll:=zeN 0 (s.xChains.take k)
  rw [List.length_take] at hs hll
  refine zi (fun hc=>?_) (fun hc=>?_)
  ·have hlt:k<s.xChains.length:=by simpa using hc
   have hch:=hv.1.2 _ (List.getElem_mem hlt)
   have hd:=Vo (n:=k) (by omega)
   unfold Zu
   refine zp k rfl hlt (ze1 (by omega) (by omega) (yj (l:=[99,104,97,105,110,32]) (by simp;omega) (zd1 (by simp;omega) ?_)))
   refine zK s.xChains[k].length (fun s=>s.2) (fun j t=>t=((B (dft s) :: lsF 0 (s.xChains.take k))++(B (chl k) :: (s.xChains[k].take j).map (fun r=>B (U0 r))),(j:Int))∧j≤s.xChains[k].length) (fun k s h=>by rw [h.1]) (fun k s h=>h.2) ?_ ⟨by simp [chl],Nat.zero_le _⟩
   rintro j _ next2 ⟨rfl,hj⟩ hn2
   refine zi (fun hc2=>?_) (fun hc2=>?_)
   ·have hltj:j<s.xChains[k].length:=by simpa using hc2
    refine zp j rfl hltj (UT (hch.2 _ (List.getElem_mem hltj)).1 (zd1 (by simp;omega) (zz (by omega) (by omega) (hn2 hltj _ ⟨?_,by omega⟩))))
    simp [-List.map_take]
    rw [List.take_succ_eq_append_getElem hltj,List.map_append];rfl
   ·have hge:s.xChains[k].length≤j:=by simpa using hc2
    rw [List.take_of_length_le hge]
    refine zz (by omega) (by omega) (hn hlt _ ⟨?_,by omega⟩)
    rw [List.take_succ_eq_append_getElem hlt,zf6,List.length_take,Nat.min_eq_left hk,Nat.zero_add]
    simp
  ·have hge:s.xChains.length≤k:=by simpa using hc
   rw [List.take_of_length_le hge]
   exact h1 hv
 unfold jnW
 refine zi (fun ha=>key _ (by simp [dft,ha])) (fun ha=>key _ (by simp [dft,ha]))
theorem zcm {s:zD} {κ:List ByteArray→Prop} (hb:Bd s) (h1:SV s→κ (Vn s)) (h2:¬ SV s→κ []):XD s κ:=by
 unfold XD
 refine YR hb (fun b hbv=>zi (fun hc=>h2 (fun hh=>?_)) (fun hc=>?_))
 ·rw [hbv.2 hh] at hc;cases hc
 have hv:SV s:=hbv.1 (by simpa using hc)
 have hcl:=hv.1.1
 have key:∀ d:List UInt8,d=dft s→z8 (fun (nx89:((List ByteArray)×Int)→Prop) ((xs85,t88):((List ByteArray)×Int))=>ifW (decide (t88<(s.xChains.length:Int))) (jH t88 (fun r90=>uS (ByteArray.mk #[99,104,97,105,110,32]) r90 (fun s91=>jW xs85 ([s91]) (fun _=>z8 (fun (nx101:((List ByteArray)×Int)→Prop) ((xs97,t100):((List ByteArray)×Int))=>zI s.xChains t88 (fun e102=>ifW (decide (t100<(e102.length:Int))) (zI s.xChains t88 (fun e108=>zI e108 t100 (fun e114=>uK e114 (fun r120=>jW xs97 ([r120]) (fun _=>jh t100 1 (fun t125=>nx101 ((xs97++([r120])),t125))))))) (jh t88 1 (fun t126=>nx89 (xs97,t126))))) ((xs85++([s91])),0))))) (κ xs85)) ([B d],0):=by
  rintro d rfl
  refine zK s.xChains.length (fun s=>s.2) (fun k t=>t=(B (dft s) :: lsF 0 (s.xChains.take k),(k:Int))∧k≤s.xChains.length) (fun k s h=>by rw [h.1]) (fun k s h=>h.2) ?_ ⟨by simp [lsF],Nat.zero_le _⟩
  rintro k _ next ⟨rfl,hk⟩ hn
  have hs:=zeT (s.xChains.take k) (fun c hc=>(hv.1.2 c (List.mem_of_mem_take hc)).1)
  have hll:=zeN 0 (s.xChains.take k)
  rw [List.length_take] at hs hll
  refine zi (fun hc=>?_) (fun hc=>?_)
  ·have hlt:k<s.xChains.length:=by simpa using hc
   have hch:=hv.1.2 _ (List.getElem_mem hlt)
   have hd:=Vo (n:=k) (by omega)
   refine Yg (by omega) (by omega) (yj (l:=[99,104,97,105,110,32]) (by simp;omega) (zd1 (by simp;omega) ?_))
   refine zK s.xChains[k].length (fun s=>s.2) (fun j t=>t=((B (dft s) :: lsF 0 (s.xChains.take k))++(B (chl k) :: (s.xChains[k].take j).map (fun r=>B (U0 r))),(j:Int))∧j≤s.xChains[k].length) (fun k s h=>by rw [h.1]) (fun k s h=>h.2) ?_ ⟨by simp [chl],Nat.zero_le _⟩
   rintro j _ next2 ⟨rfl,hj⟩ hn2
   refine zp k rfl hlt (zi (fun hc2=>?_) (fun hc2=>?_))
   ·have hltj:j<s.xChains[k].length:=by simpa using hc2
    have hrv:=(hch.2 _ (List.getElem_mem hltj)).1
    have h6:=hrv.1.2
    refine zp k rfl hlt (zp j rfl hltj (Y9 (by omega) ?_))
    rw [zei,if_pos hrv]
    refine zd1 (by simp;omega) (zz (by omega) (by omega) (hn2 hltj _ ⟨?_,by omega⟩))
    simp [-List.map_take]
    rw [List.take_succ_eq_append_getElem hltj,List.map_append];rfl
   ·have hge:s.xChains[k].length≤j:=by simpa using hc2
    rw [List.take_of_length_le hge]
    refine zz (by omega) (by omega) (hn hlt _ ⟨?_,by omega⟩)
    rw [List.take_succ_eq_append_getElem hlt,zf6,List.length_take,Nat.min_eq_left hk,Nat.zero_add]
    simp
  ·have hge:s.xChains.length≤k:=by simpa using hc
   rw [List.take_of_length_le hge]
   exact h1 hv
 unfold jnW
 refine zi (fun ha=>zd1 (by simp) ?_) (fun ha=>zd1 (by simp) ?_)
 ·exact key _ (by simp [dft,ha])
 ·exact key _ (by simp [dft,ha])
end
section
open Go.Lib (decDigits)
open Classical in
noncomputable def rdr (l:List UInt8):Option zr:=if h:∃ r,RV r∧U0 r=l then some h.choose else none
theorem zbX {l:List UInt8} {r:zr} (h:rdr l=some r):RV r∧U0 r=l:=by
 unfold rdr at h
 split at h
 ·rename_i he
  cases h
  exact he.choose_spec
 ·cases h
theorem zju {l:List UInt8} (h:rdr l=none):¬ ∃ r,RV r∧U0 r=l:=by
 unfold rdr at h
 split at h
 ·cases h
 ·assumption
theorem zkh {l:List UInt8} {κ:zr×Bool→Prop} (hl:l.length≤100000000000) (h1:∀ r,rdr l=some r→κ (r,true)) (h2:rdr l=none→κ (zr.mk [] 0 0,false)):Zc (B l) κ:=by
 cases h:rdr l with
 | none=>exact zeG hl (h2 h) (fun r hr e=>absurd ⟨r,hr,e⟩ (zju h))
 | some r =>
  obtain ⟨a,b⟩:=zbX h
  have:=h1 r h
  rw [← b]
  exact zeI a this
theorem zkq {l:List UInt8} {κ:zr×Bool→Prop} (hl:l.length≤10000000) (h1:∀ r,rdr l=some r→κ (r,true)) (h2:rdr l=none→κ (zr.mk [] 0 0,false)):yt (B l) κ:=by
 cases h:rdr l with
 | none=>exact zeF hl (h2 h) (fun r hr e=>absurd ⟨r,hr,e⟩ (zju h))
 | some r =>
  obtain ⟨a,b⟩:=zbX h
  have:=h1 r h
  rw [← b]
  exact zeJ a this
def zdT:List (List zr)→zr→List (List zr)
 | [],_=>[]
 | [c],r=>[c++[r]]
 | c :: d :: cs,r=>c :: zdT (d :: cs) r
theorem zbB:∀ (cs:List (List zr)) (r:zr),(zdT cs r).length=cs.length
 | [],_=>rfl
 | [c],_=>rfl
 | c :: d :: cs,r=>by simp only [zdT,List.length_cons,zbB (d :: cs) r]
theorem V7:∀ (cs:List (List zr)) (r:zr) (n:Nat) (h:n+1=cs.length),zdT cs r=cs.set n (cs[n]'(by omega)++[r])
 | [],_,n,h=>by simp at h
 | [c],r,n,h=>by
  have:n=0:=by simpa using h
  subst this;rfl
 | c :: d :: cs,r,0,h=>by simp at h
 | c :: d :: cs,r,n+1,h=>by
  simp only [zdT,List.set_cons_succ,List.getElem_cons_succ]
  rw [V7 (d :: cs) r n (by simpa using h)]
open Classical in
noncomputable def zlG (cs:List (List zr)):Bool:=decide (∀ i,i<cs.length→Sf cs i)
noncomputable def zaa (cs:List (List zr)) (l:List UInt8):Option (List (List zr)) :=
 if l=chl cs.length then some (cs++[[]]) else
 match rdr l with
 | none=>none
 | some r=>if cs=[] then none else some (zdT cs r)
noncomputable def VS (cs:List (List zr)) (l:List UInt8):Option (List (List zr)) :=
 if cs.length≠5∧l=chl cs.length then some (cs++[[]]) else
 match rdr l with
 | none=>none
 | some r=>if cs=[] then none else if (cs.getLast?.getD []).length=8 then none else if zlG (zdT cs r) then some (zdT cs r) else none
noncomputable def Ve:List (List zr)→List (List UInt8)→Option (List (List zr))
 | cs,[]=>some cs
 | cs,l :: ls=>match zaa cs l with
  | none=>none
  | some cs'=>Ve cs' ls
noncomputable def Vh:List (List zr)→List (List UInt8)→Option (List (List zr))
 | cs,[]=>some cs
 | cs,l :: ls=>match VS cs l with
  | none=>none
  | some cs'=>Vh cs' ls
def Le (cs ds:List (List zr)):Prop:=cs.length≤ds.length∧∀ (i:Nat) (c:List zr),cs[i]?=some c→∃ e,ds[i]?=some (c++e)
theorem Le.refl (cs:List (List zr)):Le cs cs:=⟨Nat.le_refl _,fun i c h=>⟨[],by simpa using h⟩⟩
theorem Le.trans {a b c:List (List zr)} (h:Le a b) (h':Le b c):Le a c:=⟨Nat.le_trans h.1 h'.1,fun i x hx=>by
 obtain ⟨e,he⟩:=h.2 i x hx
 obtain ⟨e',he'⟩:=h'.2 i _ he
 exact ⟨e++e',by rw [he',List.append_assoc]⟩⟩
theorem zmq (cs:List (List zr)):Le cs (cs++[[]]):=⟨by simp,fun i c h=>⟨[],by
 rw [List.getElem?_append_left (List.getElem?_eq_some_iff.1 h).1];simpa using h⟩⟩
theorem zm3 (cs:List (List zr)) (r:zr):Le cs (zdT cs r):=by
 refine ⟨by rw [zbB];exact Nat.le_refl _,fun i c h=>?_⟩
 have hi:=(List.getElem?_eq_some_iff.1 h).1
 rw [V7 cs r (cs.length - 1) (by omega)]
 by_cases e:i=cs.length - 1
 ·subst e
  rw [List.getElem?_set_self hi]
  have:cs[cs.length - 1]=c:=(List.getElem?_eq_some_iff.1 h).2
  exact ⟨[r],by rw [this]⟩
 ·rw [List.getElem?_set_ne (by omega)]
  exact ⟨[],by simpa using h⟩
theorem zkX {cs ds:List (List zr)} {l:List UInt8} (h:zaa cs l=some ds):Le cs ds:=by
 unfold zaa at h
 split at h
 ·cases h;exact zmq cs
 ·split at h
  ·cases h
  ·split at h
   ·cases h
   ·cases h;exact zm3 _ _
theorem zh7:∀ {ls:List (List UInt8)} {cs ds:List (List zr)},Ve cs ls=some ds→Le cs ds
 | [],cs,ds,h=>by cases h;exact Le.refl _
 | l :: ls,cs,ds,h=>by
  simp only [Ve] at h
  split at h
  ·cases h
  ·rename_i cs' h1
   exact (zkX h1).trans (zh7 h)
theorem zoW {cs ds:List (List zr)} (h:Le cs ds) {i j:Nat} (hc:Ca cs i j):Ca ds i j:=by
 obtain ⟨c,h1,r,h2,h3⟩:=hc
 obtain ⟨e,he⟩:=h.2 i c h1
 exact ⟨_,he,r,List.mem_append.2 (.inl h2),h3⟩
theorem zo4 {cs ds:List (List zr)} (h:Le cs ds) {i:Nat} (hs:Sf ds i):Sf cs i:=by
 induction hs with
 | intro x _ ih=>exact zgF (fun j hj=>ih j (zoW h hj))
open Classical in
theorem zmO {cs ds:List (List zr)} (h:Le cs ds) (hd:∀ i,i<ds.length→Sf ds i):zlG cs=true:=by
 unfold zlG
 exact decide_eq_true (fun i hi=>zo4 h (hd i (Nat.lt_of_lt_of_le hi h.1)))
theorem zn4 (k:Nat):rdr (chl k)=none:=by
 cases h:rdr (chl k) with
 | none=>rfl
 | some r =>
  obtain ⟨h1,h2⟩:=zbX h
  exfalso
  simp only [U0,hd,chl,List.append_assoc] at h2
  rcases ziU h1.2.1 h1.2.2.1 with e | e | e | e | e <;> simp [aw,e] at h2
theorem zid {cs ds:List (List zr)} {l:List UInt8} (h:VS cs l=some ds):zaa cs l=some ds:=by
 unfold VS at h
 unfold zaa
 split at h
 ·rename_i hc
  rw [if_pos hc.2];exact h
 ·split at h
  ·cases h
  ·rename_i r hr
   have hne:l≠chl cs.length:=fun e=>by rw [e,zn4] at hr;cases hr
   rw [if_neg hne]
   split at h
   ·cases h
   ·split at h
    ·cases h
    ·split at h
     ·cases h;rename_i h0 _ _;rw [if_neg h0]
     ·cases h
theorem zhN {cs ds es:List (List zr)} {l:List UInt8} (h:zaa cs l=some ds) (hle:Le ds es) (ht:Tw es) (hs:∀ i,i<es.length→Sf es i):VS cs l=some ds:=by
 unfold zaa at h
 unfold VS
 split at h
 ·rename_i hc
  cases h
  have h1:=hle.1
  have h2:=ht.1
  simp at h1
  rw [if_pos ⟨by omega,hc⟩]
 ·rename_i hc
  rw [if_neg (fun hh=>hc hh.2)]
  split at h
  ·cases h
  ·rename_i r hr
   split at h
   ·cases h
   ·rename_i h0
    cases h
    rw [if_neg h0]
    have hpos:0<cs.length:=by cases cs with
     | nil=>exact absurd rfl h0
     | cons _ _=>simp
    have hlt:cs.length - 1<cs.length:=by omega
    have h8:(cs.getLast?.getD []).length≠8:=by
     intro e8
     have hl:cs.getLast?.getD []=cs[cs.length - 1]:=by
      rw [List.getLast?_eq_getElem?,List.getElem?_eq_getElem hlt];rfl
     have hset:=V7 cs r (cs.length - 1) (by omega)
     have hg:(zdT cs r)[cs.length - 1]?=some (cs[cs.length - 1]++[r]):=by rw [hset,List.getElem?_set_self hlt]
     obtain ⟨e,he⟩:=hle.2 _ _ hg
     have:=(ht.2 _ (List.mem_of_getElem? he)).1
     rw [hl] at e8
     simp at this;omega
    rw [if_neg h8,if_pos (zmO hle hs)]
theorem zen:∀ {ls:List (List UInt8)} {cs ds:List (List zr)},Vh cs ls=some ds→Ve cs ls=some ds
 | [],cs,ds,h=>h
 | l :: ls,cs,ds,h=>by
  simp only [Vh] at h
  split at h
  ·cases h
  ·rename_i cs' h1
   simp only [Ve,zid h1]
   exact zen h
theorem zej:∀ {ls:List (List UInt8)} {cs ds:List (List zr)},Ve cs ls=some ds→Tw ds→(∀ i,i<ds.length→Sf ds i)→Vh cs ls=some ds
 | [],cs,ds,h,_,_=>h
 | l :: ls,cs,ds,h,ht,hs=>by
  simp only [Ve] at h
  split at h
  ·cases h
  ·rename_i cs' h1
   simp only [Vh,zhN h1 (zh7 h) ht hs]
   exact zej h ht hs
end
section
def mkL {α:Type} (f:Int→α→Int×α):Int→List α→Int×List α
 | k,[]=>(k,[])
 | k,x :: xs=>((mkL f (f k x).1 xs).1,(f k x).2 :: (mkL f (f k x).1 xs).2)
theorem zeQ {α:Type} (f:Int→α→Int×α):∀ (k:Int) (xs:List α),(mkL f k xs).2.length=xs.length
 | k,[]=>rfl
 | k,x :: xs=>by simp only [mkL,List.length_cons,zeQ f _ xs]
theorem zfD {α:Type} (f:Int→α→Int×α):∀ (k:Int) (xs:List α) (x:α),mkL f k (xs++[x])=((f (mkL f k xs).1 x).1,(mkL f k xs).2++[(f (mkL f k xs).1 x).2])
 | k,[],x=>rfl
 | k,y :: xs,x=>by simp only [List.cons_append,mkL,zfD f _ xs x]
theorem zhJ {α:Type} (f:Int→α→Int×α) (C:Int) (hC:0≤C):∀ (k:Int) (xs:List α),1≤k→(∀ x,x∈xs→∀ k,1≤k→k≤(f k x).1∧(f k x).1≤k+C)→k≤(mkL f k xs).1∧(mkL f k xs).1≤k+C * xs.length
 | k,[],hk,h=>by simp [mkL]
 | k,x :: xs,hk,h=>by
  obtain ⟨h1,h2⟩:=h x (by simp) k hk
  obtain ⟨h3,h4⟩:=zhJ f C hC (f k x).1 xs (by omega) (fun y hy=>h y (by simp [hy]))
  simp only [mkL,List.length_cons]
  rw [Int.natCast_add,Int.mul_add]
  refine ⟨by omega,?_⟩
  simp
  omega
theorem zj1 {α:Type} (f:Int→α→Int×α):∀ (k:Int) (xs:List α) (t:Nat) (x:α),xs[t]?=some x→(mkL f k xs).2[t]?=some (f (mkL f k (xs.take t)).1 x).2
 | k,[],t,x,h=>by simp at h
 | k,y :: xs,0,x,h=>by simp at h;subst h;simp [mkL]
 | k,y :: xs,t+1,x,h=>by
  simp only [mkL,List.getElem?_cons_succ,List.take_succ_cons]
  exact zj1 f _ xs t x (by simpa using h)
theorem zop {C N:Int} {k:Nat} (hC:0≤C) (hk:(k:Int)<N):0≤C * (k:Int)∧C * (k:Int)+C≤C * N:=by
 refine ⟨Int.mul_nonneg hC (by omega),?_⟩
 have h:=Int.mul_le_mul_of_nonneg_left (show (k:Int)+1≤N by omega) hC
 rw [Int.mul_add] at h
 simpa using h
theorem ziI {α:Type} (f:Int→α→Int×α) (C N:Int) (a:List α) (k0:Int) (hl:(a.length:Int)≤N) (hN:N≤4294967296) (hC:0≤C) (hk1:1≤k0) (hk2:k0+C * N≤9000000000000000000)
  (hf:∀ x,x∈a→∀ k,1≤k→k≤(f k x).1∧(f k x).1≤k+C) {κ:Int×List α→Prop} (hκ:κ (mkL f k0 a)) (F:(List α×Int×Int→Prop)→List α×Int×Int→Prop)
  (hF:∀ (nx:List α×Int×Int→Prop) (xs:List α) (k:Int) (t:Nat),1≤k→(t:Int)≤N→(∀ x,xs[t]?=some x→x∈a∧k+C≤9000000000000000000∧nx (xs.set t (f k x).2,(f k x).1,(t:Int)+1))→(¬ t<xs.length→κ (k,xs))→F nx (xs,k,(t:Int))):z8 F (a,k0,0):=by
 refine zK a.length (fun s=>s.2.2) (fun k s=>s=((mkL f k0 (a.take k)).2++a.drop k,(mkL f k0 (a.take k)).1,(k:Int))∧k≤a.length) (fun k s h=>by rw [h.1]) (fun k s h=>h.2) ?_ ⟨by simp [mkL],Nat.zero_le _⟩
 rintro k _ next ⟨rfl,hk⟩ hn
 obtain ⟨b1,b2⟩:=zhJ f C hC k0 (a.take k) hk1 (fun x hx=>hf x (List.mem_of_mem_take hx))
 have hlt:(a.take k).length=k:=by rw [List.length_take];omega
 have hl2:(mkL f k0 (a.take k)).2.length=k:=by rw [zeQ,hlt]
 refine hF _ _ _ _ (by omega) (by omega) (fun x hx=>?_) (fun hge=>?_)
 ·rw [List.getElem?_append_right (by omega),hl2,Nat.sub_self,List.getElem?_drop,Nat.add_zero] at hx
  obtain ⟨h1,h2⟩:=List.getElem?_eq_some_iff.1 hx
  have hm:x∈a:=h2 ▸ List.getElem_mem h1
  refine ⟨hm,?_,hn h1 _ ⟨?_,by omega⟩⟩
  ·rw [hlt] at b2
   have:=(zop (N:=N) (k:=k) hC (by omega)).2
   omega
  ·have ht:a.take (k+1)=a.take k++[x]:=by rw [List.take_succ_eq_append_getElem h1,h2]
   have hd:a.drop k=x :: a.drop (k+1):=by rw [List.drop_eq_getElem_cons h1,h2]
   rw [ht,zfD,hd]
   refine Prod.ext ?_ rfl
   simp only
   rw [List.set_append_right _ _ (by omega),hl2,Nat.sub_self,List.set_cons_zero,List.append_assoc]
   rfl
 ·rw [List.length_append,hl2,List.length_drop] at hge
  have:k=a.length:=by omega
  rw [this,List.take_length,List.drop_length,List.append_nil]
  exact hκ
theorem zi4 {α:Type} (f:Int→α→Int×α) (C N:Int) (a:List α) (k0:Int) (hl:(a.length:Int)≤N) (hN:N≤4294967296) (hC:0≤C) (hk1:1≤k0) (hk2:k0+C * N≤9000000000000000000)
  (hf:∀ x,x∈a→∀ k,1≤k→k≤(f k x).1∧(f k x).1≤k+C) {κ:Int→Prop} (hκ:κ (mkL f k0 a).1) (F:(Int×Int→Prop)→Int×Int→Prop)
  (hF:∀ (nx:Int×Int→Prop) (k:Int) (t:Nat),1≤k→(t:Int)≤N→(∀ x,a[t]?=some x→x∈a∧k+C≤9000000000000000000∧(mkL f k0 a).2[t]?=some (f k x).2∧nx ((f k x).1,(t:Int)+1))→(¬ t<a.length→κ k)→F nx (k,(t:Int))):z8 F (k0,0):=by
 refine zK a.length (fun s=>s.2) (fun k s=>s=((mkL f k0 (a.take k)).1,(k:Int))∧k≤a.length) (fun k s h=>by rw [h.1]) (fun k s h=>h.2) ?_ ⟨by simp [mkL],Nat.zero_le _⟩
 rintro k _ next ⟨rfl,hk⟩ hn
 obtain ⟨b1,b2⟩:=zhJ f C hC k0 (a.take k) hk1 (fun x hx=>hf x (List.mem_of_mem_take hx))
 have hlt:(a.take k).length=k:=by rw [List.length_take];omega
 refine hF _ _ _ (by omega) (by omega) (fun x hx=>?_) (fun hge=>?_)
 ·obtain ⟨h1,h2⟩:=List.getElem?_eq_some_iff.1 hx
  have hm:x∈a:=h2 ▸ List.getElem_mem h1
  refine ⟨hm,?_,zj1 f k0 a k x hx,hn h1 _ ⟨?_,by omega⟩⟩
  ·rw [hlt] at b2
   have:=(zop (N:=N) (k:=k) hC (by omega)).2
   omega
  ·have ht:a.take (k+1)=a.take k++[x]:=by rw [List.take_succ_eq_append_getElem h1,h2]
   rw [ht,zfD]
   rfl
 ·have:k=a.length:=by omega
  rw [this,List.take_length]
  exact hκ
theorem zl5 {α:Type} (P:α→Prop) (a:List α) (left:Int) (h0:0≤left) (h1:left≤1048576) (hl:a.length≤4294967296) {κ:Int→Prop} (hκ:∀ r,0≤r→r≤left→(∀ x,x∈a→P x)→κ r) (F:(Int×Int→Prop)→Int×Int→Prop)
  (hF:∀ (nx:Int×Int→Prop) (r:Int) (t:Nat),0≤r→r≤1048576→t≤a.length→(∀ x,a[t]?=some x→∀ r',0≤r'→r'≤r→P x→nx (r',(t:Int)+1))→(¬ t<a.length→κ r)→F nx (r,(t:Int))):z8 F (left,0):=by
 refine zK a.length (fun s=>s.2) (fun k s=>s.2=(k:Int)∧k≤a.length∧0≤s.1∧s.1≤left∧∀ x,x∈a.take k→P x) (fun k s h=>h.1) (fun k s h=>h.2.1) ?_ ⟨rfl,Nat.zero_le _,h0,Int.le_refl _,by simp⟩
 rintro k ⟨r,t⟩ next ⟨rfl,hk,hr0,hr1,hP⟩ hn
 simp only at hr0 hr1 hP
 refine hF _ _ _ hr0 (by omega) hk (fun x hx r' g0 g1 hp=>?_) (fun hge=>hκ r hr0 hr1 ?_)
 ·obtain ⟨e1,e2⟩:=List.getElem?_eq_some_iff.1 hx
  refine hn e1 _ ⟨by simp,by omega,g0,by simp only;omega,fun y hy=>?_⟩
  rw [List.take_succ_eq_append_getElem e1,List.mem_append,List.mem_singleton] at hy
  rcases hy with hy | rfl
  ·exact hP y hy
  ·rw [e2];exact hp
 ·have:k=a.length:=by omega
  rw [this,List.take_length] at hP
  exact hP
theorem zlW {α:Type} (a:List α) (hl:a.length≤4294967296) {κ:Bool→Prop} (hκ:κ true) (F:(Int→Prop)→Int→Prop)
  (hF:∀ (nx:Int→Prop) (t:Nat),t≤a.length→(∀ x,a[t]?=some x→x∈a∧nx ((t:Int)+1))→(¬ t<a.length→κ true)→F nx (t:Int)):z8 F 0:=by
 refine zK a.length (fun s=>s) (fun k s=>s=(k:Int)∧k≤a.length) (fun k s h=>h.1) (fun k s h=>h.2) ?_ ⟨rfl,Nat.zero_le _⟩
 rintro k _ next ⟨rfl,hk⟩ hn
 refine hF _ _ hk (fun x hx=>?_) (fun _=>hκ)
 obtain ⟨e1,e2⟩:=List.getElem?_eq_some_iff.1 hx
 exact ⟨e2 ▸ List.getElem_mem e1,hn e1 _ ⟨by omega,by omega⟩⟩
theorem zmI {α:Type} {xs:List α} {t:Nat} {x:α} {κ:α→Prop} (h:xs[t]?=some x) (hk:κ x):zI xs (t:Int) κ:=⟨x,by omega,by simpa using h,hk⟩
end
section
open Go.Lib (decDigits)
def Br (r:zr):Prop:=r.xTests.length≤1048576
def Bq (c:List zr):Prop:=c.length≤1048576∧∀ r,r∈c→Br r
def Bs (cs:List (List zr)):Prop:=cs.length≤1048576∧∀ c,c∈cs→Bq c
theorem Bs.bd {s:zD} (h:Bs s.xChains):Bd s:=⟨by have:=h.1;omega,fun c hc=>⟨by have:=(h.2 c hc).1;omega,fun r hr=>by have:r.xTests.length≤1048576:=(h.2 c hc).2 r hr;omega⟩⟩
theorem SV.bs {s:zD} (h:SV s):Bs s.xChains:=⟨by have:=h.1.1;omega,fun c hc=>⟨by have:=(h.1.2 c hc).1;omega,fun r hr=>by have:r.xTests.length≤6:=((h.1.2 c hc).2 r hr).1.1.2;unfold Br;omega⟩⟩
def Bt (a:List ByteArray):Prop:=a.length≤1048576∧∀ x,x∈a→x.size≤1048576
theorem zh9 {a:List ByteArray} {left:Int} {κ:Int→Prop} (hl:a.length≤9223372036854775807) (hs:∀ x,x∈a→x.size≤9223372036854775807) (h0:0≤left) (h1:left≤1048576) (hn:κ (-1)) (h:∀ r,0≤r→r≤left→Bt a→κ r):YI a left κ:=by
 unfold YI
 refine ZY (by omega) (by omega) (zi (fun _=>hn) (fun hc=>?_))
 simp at hc
 refine zl5 (fun x=>x.size≤1048576) a _ (by omega) (by omega) (by omega) (fun r a b c=>h r a (by omega) ⟨by omega,c⟩) _ (fun nx r t g0 g1 g2 ht hf=>?_)
 refine zi (fun hc=>?_) (fun hc=>hf (by simpa using hc))
 have hlt:t<a.length:=by simpa using hc
 have:=hs _ (List.getElem_mem hlt)
 refine zp t rfl hlt (ZY (by omega) (by omega) (zi (fun _=>hn) (fun hc=>zz (by omega) (by omega) ?_)))
 simp at hc
 exact ht a[t] (by simp [hlt]) _ (by omega) (by omega) (by omega)
theorem VH {a:List ByteArray} {κ:List ByteArray→Prop} (hl:a.length≤4294967296) (h:κ a):yD a κ:=by
 unfold yD
 refine V6 a.length rfl (by omega) (by omega) (zky a id hl (fun x ψ=>ψ x) (fun x ψ _ hh=>hh) (by simpa using h) (by simp) _ (fun nx xs t hh=>hh))
theorem UM {a:List ByteArray} {κ:Bool→Prop} (hl:a.length≤4294967296) (h:κ true):yB a a κ:=by
 unfold yB
 refine zi (fun hc=>by simp at hc) (fun _=>zlW a hl h _ (fun nx t g ht hf=>zi (fun hc=>?_) (fun hc=>hf (by simpa using hc))))
 have hlt:t<a.length:=by simpa using hc
 obtain ⟨hm,hn⟩:=ht a[t] (by simp [hlt])
 refine zp t rfl hlt (zp t rfl hlt (zi (fun hc=>by simp at hc) (fun _=>zz (by omega) (by omega) hn)))
def mkX (k:Int):ByteArray:=B (109 :: decDigits k.toNat)
theorem zfR {k:Int} {κ:ByteArray→Prop} (h0:0<k) (h1:k≤9000000000000000000) (h:κ (mkX k)):XT k κ:=by
 obtain ⟨n,rfl⟩:=Int.eq_ofNat_of_zero_le (Int.le_of_lt h0)
 have hlen:(decDigits n).length≤20:=zag 19 n (Nat.lt_of_le_of_lt (show n≤9000000000000000000 by omega) (by decide))
 unfold mkX at h
 rw [Int.toNat_natCast] at h
 unfold XT
 refine zi (fun hc=>by simp at hc;omega) (fun _=>?_)
 refine yE (fun s=>∃ (m:Nat) (l:List UInt8),s=((m:Int),B l)∧m≤n∧(0<m→decDigits n=decDigits m++l)∧(m=0→decDigits n=l)) (fun s=>s.1.toNat) ?_ ⟨n,[],rfl,Nat.le_refl _,fun _=>by simp,fun hh=>by omega⟩
 rintro _ next ⟨m,l,rfl,hm,he,he0⟩ hn
 have hl:l.length≤20:=by
  rcases Nat.eq_zero_or_pos m with e | e
  ·rw [← he0 e];exact hlen
  ·have:=congrArg List.length (he e);simp at this;omega
 refine zi (fun hc=>?_) (fun hc=>?_)
 ·simp at hc
  refine zhG (by omega) (by omega) (by omega) (zz (by omega) (by omega) (zfI (48+m % 10) (by omega) (by omega) ?_))
  refine yj (l:=[UInt8.ofNat (48+m % 10)]) (by simp;omega) (zjr (by omega) (by omega) (by omega) ?_)
  have hs:=zdK (m:=m)
  refine hn _ ⟨m / 10,_,by rw [show ((m:Int) / 10)=((m / 10:Nat):Int) by omega],by omega,fun hp=>?_,fun hz=>?_⟩ (by simp;omega)
  ·rw [he (by omega),hs,show zeZ m=decDigits (m / 10) by unfold zeZ;rw [if_neg (by omega)]]
   simp
  ·rw [he (by omega),hs,show zeZ m=[] by unfold zeZ;rw [if_pos (by omega)]]
   rfl
 ·simp at hc
  rw [he0 (by omega)] at h
  exact yj (l:=[109]) (by simp;omega) h
def fX (k:Int) (_:ByteArray):Int×ByteArray:=(k+1,mkX k)
theorem zlp (x:ByteArray) (k:Int) (_:1≤k):k≤(fX k x).1∧(fX k x).1≤k+1:=by simp [fX];omega
theorem zby {a:List ByteArray} {κ:Int×List ByteArray→Prop} (hl:a.length≤1048576) (h:κ (mkL fX 1 a)):ZA a 1 κ:=by
 unfold ZA
 refine ziI fX 1 1048576 a 1 (by omega) (by decide) (by decide) (by decide) (by decide) (fun x _=>zlp x) h _ (fun nx xs k t g0 g1 ht hf=>zi (fun hc=>?_) (fun hc=>hf (by simpa using hc)))
 have hlt:t<xs.length:=by simpa using hc
 obtain ⟨_,hk,hn⟩:=ht xs[t] (by simp [hlt])
 refine zfR (by omega) (by omega) (zp t rfl hlt (zz (by omega) (by omega) (zz (by omega) (by omega) ?_)))
 simp only [Int.toNat_natCast]
 exact hn
theorem zbH {a:List ByteArray} {κ:Int→Prop} (hl:a.length≤1048576) (h:κ (mkL fX 1 a).1):yG (mkL fX 1 a).2 1 κ:=by
 unfold yG
 refine zi4 fX 1 1048576 a 1 (by omega) (by decide) (by decide) (by decide) (by decide) (fun x _=>zlp x) h _ (fun nx k t g0 g1 ht hf=>zi (fun hc=>?_) (fun hc=>hf (by rw [zeQ] at hc;simpa using hc)))
 rw [zeQ] at hc
 have hlt:t<a.length:=by simpa using hc
 obtain ⟨_,hk,hg,hn⟩:=ht a[t] (by simp [hlt])
 refine zmI hg (zfR (by omega) (by omega) (zi (fun hc=>by simp [fX] at hc) (fun _=>zz (by omega) (by omega) (zz (by omega) (by omega) hn))))
theorem zkK (a:List ByteArray) (hl:a.length≤1048576):1≤(mkL fX 1 a).1∧(mkL fX 1 a).1≤1048577:=by
 obtain ⟨x,y⟩:=zhJ fX 1 (by decide) 1 a (by decide) (fun x _=>zlp x)
 omega
end
section
open Go.Lib (decDigits)
def zhV:List UInt8:=[100,101,102,97,117,108,116,32,97,99,99,101,112,116]
def zgy:List UInt8:=[100,101,102,97,117,108,116,32,100,114,111,112]
def dfl (l:List UInt8):Option Bool:=if l=zhV then some true else if l=zgy then some false else none
noncomputable def Zk:List (List UInt8)→Option (Int×List (List zr)×Bool)
 | []=>some (0,[],false)
 | l :: ls=>match dfl l with
  | none=>none
  | some a=>match Vh [] ls with
   | none=>none
   | some cs=>some (if ls=[] then 1 else 2,cs,a)
noncomputable def XB:List (List UInt8)→Option (List (List zr)×Bool)
 | []=>none
 | l :: ls=>match dfl l with
  | none=>none
  | some a=>match Ve [] ls with
   | none=>none
   | some cs=>some (cs,a)
theorem zef:∀ (cs:List (List zr)) (a b:List (List UInt8)),Vh cs (a++b)=match Vh cs a with
  | none=>none
  | some ds=>Vh ds b
 | cs,[],b=>rfl
 | cs,l :: a,b=>by
  simp only [List.cons_append,Vh]
  cases VS cs l with
  | none=>rfl
  | some ds=>exact zef ds a b
theorem zdU:∀ (cs:List (List zr)) (a b:List (List UInt8)),Ve cs (a++b)=match Ve cs a with
  | none=>none
  | some ds=>Ve ds b
 | cs,[],b=>rfl
 | cs,l :: a,b=>by
  simp only [List.cons_append,Ve]
  cases zaa cs l with
  | none=>rfl
  | some ds=>exact zdU ds a b
theorem ziD {p q:List (List UInt8)} (h:Zk (p++q)≠none):Zk p≠none:=by
 cases p with
 | nil=>simp [Zk]
 | cons l p =>
  simp only [List.cons_append,Zk] at h ⊢
  cases hd:dfl l with
  | none=>rw [hd] at h;simp at h
  | some a =>
   rw [hd,zef] at h
   cases hf:Vh [] p with
   | none=>rw [hf] at h;simp at h
   | some cs=>simp
theorem zhZ {ls:List (List UInt8)} {k n:Nat} (h:Zk (ls.take n)≠none) (hk:k≤n):Zk (ls.take k)≠none:=by
 have e:ls.take n=ls.take k++(ls.take n).drop k:=by
  have:=List.take_append_drop k (ls.take n)
  rw [List.take_take,Nat.min_eq_left hk] at this
  exact this.symm
 rw [e] at h
 exact ziD h
theorem zjH {cs:List (List zr)} {r:zr} (h:Tw cs) (h0:cs≠[]) (h8:(cs.getLast?.getD []).length≠8) (hr:RV r):Tw (zdT cs r):=by
 have hpos:0<cs.length:=by cases cs with
  | nil=>exact absurd rfl h0
  | cons _ _=>simp
 have hlt:cs.length - 1<cs.length:=by omega
 refine ⟨by rw [zbB];exact h.1,fun c hc=>?_⟩
 rw [V7 cs r (cs.length - 1) (by omega)] at hc
 rcases List.mem_or_eq_of_mem_set hc with hc | rfl
 ·exact h.2 c hc
 ·have hl:cs.getLast?.getD []=cs[cs.length - 1]:=by
   rw [List.getLast?_eq_getElem?,List.getElem?_eq_getElem hlt];rfl
  rw [hl] at h8
  obtain ⟨a,b⟩:=h.2 _ (List.getElem_mem hlt)
  refine ⟨by simp;omega,fun x hx=>?_⟩
  rcases List.mem_append.1 hx with hx | hx
  ·exact b x hx
  ·rw [List.mem_singleton] at hx;subst hx;exact hr
theorem zjx {cs:List (List zr)} (e:List (List zr)) (he:∀ c,c∈e→c=[]) {i:Nat} (hs:Sf cs i):Sf (cs++e) i:=by
 induction hs with
 | intro x _ ih =>
  refine zgF (fun j hj=>ih j ?_)
  obtain ⟨c,h1,r,h2,h3⟩:=hj
  by_cases hx:x<cs.length
  ·rw [List.getElem?_append_left hx] at h1;exact ⟨c,h1,r,h2,h3⟩
  ·rw [List.getElem?_append_right (by omega)] at h1
   have:=he c (List.mem_of_getElem? h1)
   subst this;simp at h2
theorem zk0 {cs:List (List zr)} (hs:∀ i,i<cs.length→Sf cs i) (e:List (List zr)) (he:∀ c,c∈e→c=[]):∀ i,i<(cs++e).length→Sf (cs++e) i:=by
 intro i _
 by_cases hi:i<cs.length
 ·exact zjx e he (hs i hi)
 ·exact zjx e he (zkG (by omega))
open Classical in
theorem zkE {cs ds:List (List zr)} {l:List UInt8} (h:VS cs l=some ds) (ht:Tw cs) (hs:∀ i,i<cs.length→Sf cs i):Tw ds∧(∀ i,i<ds.length→Sf ds i)∧ds≠[]:=by
 unfold VS at h
 split at h
 ·rename_i hc
  cases h
  refine ⟨⟨by have:=ht.1;simp;omega,fun c hc'=>?_⟩,zk0 hs [[]] (by simp),by simp⟩
  rcases List.mem_append.1 hc' with hc' | hc'
  ·exact ht.2 c hc'
  ·simp at hc';subst hc';simp
 ·split at h
  ·cases h
  ·rename_i r hr
   split at h
   ·cases h
   ·split at h
    ·cases h
    ·split at h
     ·cases h
      rename_i h0 h8 ha
      refine ⟨zjH ht h0 h8 (zbX hr).1,of_decide_eq_true ha,fun e=>h0 ?_⟩
      have:=congrArg List.length e
      rw [zbB] at this
      exact List.eq_nil_of_length_eq_zero (by simpa using this)
     ·cases h
theorem ziC:∀ {ls:List (List UInt8)} {cs ds:List (List zr)},Vh cs ls=some ds→Tw cs→(∀ i,i<cs.length→Sf cs i)→Tw ds∧(∀ i,i<ds.length→Sf ds i)∧(ls≠[]→ds≠[])
 | [],cs,ds,h,ht,hs=>by cases h;exact ⟨ht,hs,fun h=>absurd rfl h⟩
 | l :: ls,cs,ds,h,ht,hs=>by
  simp only [Vh] at h
  split at h
  ·cases h
  ·rename_i cs' h1
   obtain ⟨a,b,c⟩:=zkE h1 ht hs
   obtain ⟨x,y,z⟩:=ziC h a b
   refine ⟨x,y,fun _=>?_⟩
   cases ls with
   | nil=>cases h;exact c
   | cons _ _=>exact z (by simp)
theorem zk8:Tw []:=⟨by simp,fun c hc=>by simp at hc⟩
theorem zh5 (p:List (List UInt8)) (l:List UInt8):Zk (p++[l])=match Zk p with
  | none=>none
  | some (st,cs,a)=>if st=0 then (dfl l).map (fun a=>(1,[],a)) else (VS cs l).map (fun ds=>(2,ds,a)):=by
 cases p with
 | nil =>
  simp only [List.nil_append,Zk,Vh,if_true]
  cases dfl l <;> rfl
 | cons x p =>
  simp only [List.cons_append,Zk]
  cases dfl x with
  | none=>rfl
  | some a =>
   simp only [zef]
   cases Vh [] p with
   | none=>rfl
   | some cs =>
    simp only [Vh]
    have hne:p++[l]≠[]:=by simp
    rw [if_neg hne]
    have h0:(if p=[] then (1:Int) else 2)≠0:=by split <;> decide
    rw [if_neg h0]
    cases VS cs l <;> rfl
theorem zgd {p:List (List UInt8)} {st:Int} {cs:List (List zr)} {a:Bool} (h:Zk p=some (st,cs,a)):Tw cs∧(∀ i,i<cs.length→Sf cs i)∧(st=0∧cs=[]∧a=false∧p=[]∨st=1∧cs=[]∨st=2∧cs≠[]):=by
 cases p with
 | nil=>simp only [Zk,Option.some.injEq,Prod.mk.injEq] at h;obtain ⟨rfl,rfl,rfl⟩:=h;exact ⟨zk8,fun i hi=>by simp at hi,.inl ⟨rfl,rfl,rfl,rfl⟩⟩
 | cons l p =>
  simp only [Zk] at h
  split at h
  ·cases h
  ·split at h
   ·cases h
   ·rename_i ds hf
    simp only [Option.some.injEq,Prod.mk.injEq] at h
    obtain ⟨rfl,rfl,rfl⟩:=h
    obtain ⟨x,y,z⟩:=ziC hf zk8 (fun i hi=>by simp at hi)
    refine ⟨x,y,?_⟩
    by_cases hp:p=[]
    ·subst hp
     cases hf
     right;left;simp
    ·right;right
     rw [if_neg hp]
     exact ⟨rfl,z hp⟩
theorem zi3 (l:List UInt8):decide (B l=ByteArray.mk #[100,101,102,97,117,108,116,32,97,99,99,101,112,116])=decide (l=zhV):=zak l zhV
theorem zjF (l:List UInt8):decide (B l=ByteArray.mk #[100,101,102,97,117,108,116,32,100,114,111,112])=decide (l=zgy):=zak l zgy
theorem zep {st:Int} {cs:List (List zr)} {acc:Bool} {l:List UInt8} {κ:Bool×List (List zr)→Prop} (hl:cs.length≤1000000) (h1:cs.length≠5∧l=chl cs.length→κ (true,cs++[[]])) (h2:¬ (cs.length≠5∧l=chl cs.length)→κ (false,cs)):yf st cs acc (B l) κ:=by
 unfold yf jnW Zu
 have hd:=zag 6 cs.length (by omega)
 refine zi (fun hc=>zi (fun _=>h2 (fun hh=>hh.1 (by simp at hc;omega))) (fun hx=>by simp at hx)) (fun hc=>?_)
 simp at hc
 refine ze1 (by omega) (by omega) (yj (l:=[99,104,97,105,110,32]) (by simp;omega) ?_)
 rw [Int.toNat_natCast]
 show ifW (!decide (B l=B (chl cs.length))) _ _
 rw [zak]
 refine zi (fun hx=>h2 (fun hh=>?_)) (fun hx=>jj (by simp;omega) (h1 ⟨by omega,?_⟩))
 ·rw [hh.2] at hx;simp at hx
 ·simpa using hx
open Classical in
theorem zi9 {st:Int} {cs:List (List zr)} {acc:Bool} {l:List UInt8} {κ:Bool×List (List zr)→Prop} (hl:l.length≤100000000) (ht:Tw cs) (h0:cs≠[]) (hne:¬ (cs.length≠5∧l=chl cs.length)) (h1:∀ ds,VS cs l=some ds→κ (true,ds)) (h2:VS cs l=none→∀ ds,κ (false,ds)):Zp st cs acc (B l) κ:=by
 have hpos:0<cs.length:=by cases cs with
  | nil=>exact absurd rfl h0
  | cons _ _=>simp
 have hlt:cs.length - 1<cs.length:=by omega
 have h5:=ht.1
 have hgl:cs.getLast?.getD []=cs[cs.length - 1]:=by
  rw [List.getLast?_eq_getElem?,List.getElem?_eq_getElem hlt];rfl
 have hc8:=(ht.2 _ (List.getElem_mem hlt)).1
 have hi:((cs.length:Int) - 1).toNat=cs.length - 1:=by omega
 unfold Zp
 unfold VS at h1 h2
 rw [if_neg hne] at h1 h2
 refine zkh (by omega) (fun r hr=>?_) (fun hr=>?_)
 ·rw [hr] at h1 h2
  simp only [if_neg h0] at h1 h2
  refine ZY (by omega) (by omega) (zp (cs.length - 1) (by omega) hlt (zi (fun hx=>by simp at hx) (fun _=>?_)))
  refine zi (fun hx=>?_) (fun hx=>?_)
  ·have e8:(cs.getLast?.getD []).length=8:=by rw [hgl];simp at hx;omega
   rw [if_pos e8] at h2
   exact h2 rfl _
  ·have e8:(cs.getLast?.getD []).length≠8:=by rw [hgl];simp at hx;omega
   rw [if_neg e8] at h1 h2
   have hset:=V7 cs r (cs.length - 1) (by omega)
   unfold jnW
   rw [hi,← hset]
   refine jj (by simp;omega) (zgU (zjH ht h0 e8 (zbX hr).1) (fun ha=>?_) (fun ha=>?_))
   ·have:zlG (zdT cs r)=true:=decide_eq_true ha
    rw [if_pos this] at h1
    exact h1 _ rfl
   ·have:¬ zlG (zdT cs r)=true:=fun hh=>ha (of_decide_eq_true hh)
    rw [if_neg this] at h2
    exact h2 rfl _
 ·rw [hr] at h2
  refine ZY (by omega) (by omega) (zp (cs.length - 1) (by omega) hlt (zi (fun _=>h2 rfl _) (fun hx=>by simp at hx)))
theorem zn3 {p:List (List UInt8)} {l:List UInt8} {st:Int} {cs:List (List zr)} {a:Bool} {κ:Bool×Int×List (List zr)×Bool→Prop} (hl:l.length≤100000000) (hp:Zk p=some (st,cs,a))
  (h1:∀ s,Zk (p++[l])=some s→κ (true,s)) (h2:Zk (p++[l])=none→∀ s,κ (false,s)):Xw st cs a (B l) κ:=by
 obtain ⟨ht,hs,hst⟩:=zgd hp
 rw [zh5,hp] at h1 h2
 simp only at h1 h2
 unfold Xw
 rcases hst with ⟨rfl,rfl,rfl,rfl⟩ | ⟨rfl,rfl⟩ | ⟨rfl,hne⟩
 ·simp only [if_true] at h1 h2
  refine zi (fun _=>?_) (fun hx=>by simp at hx)
  unfold jnW
  rw [zi3,zjF]
  unfold dfl at h1 h2
  refine zi (fun hc=>?_) (fun hc=>?_)
  ·have e:l=zhV:=by simpa using hc
   rw [hc]
   rw [if_pos e] at h1
   exact h1 _ rfl
  ·have e:l≠zhV:=by simpa using hc
   rw [hc]
   rw [if_neg e] at h1 h2
   by_cases e2:l=zgy
   ·rw [if_pos e2] at h1
    rw [decide_eq_true e2]
    exact h1 _ rfl
   ·rw [if_neg e2] at h2
    rw [decide_eq_false e2]
    exact h2 rfl _
 ·have n1:¬ (1:Int)=0:=by decide
  rw [if_neg n1] at h1 h2
  refine zi (fun hx=>by simp at hx) (fun _=>zi (fun _=>?_) (fun hx=>by simp at hx))
  unfold VS at h1 h2
  refine zep (by simp) (fun hh=>?_) (fun hh=>?_)
  ·rw [if_pos hh] at h1;exact h1 _ rfl
  ·rw [if_neg hh] at h2
   refine h2 ?_ _
   cases rdr l <;> simp
 ·have n1:¬ (2:Int)=0:=by decide
  rw [if_neg n1] at h1 h2
  refine zi (fun hx=>by simp at hx) (fun _=>zi (fun hx=>by simp at hx) (fun _=>?_))
  unfold jnW
  refine zep (by have:=ht.1;omega) (fun hh=>zi (fun _=>?_) (fun hx=>by simp at hx)) (fun hh=>zi (fun hx=>by simp at hx) (fun _=>?_))
  ·unfold VS at h1
   rw [if_pos hh] at h1;exact h1 _ rfl
  ·refine zi9 hl ht hne hh (fun ds hds=>?_) (fun hn ds=>?_)
   ·rw [hds] at h1;exact h1 _ rfl
   ·rw [hn] at h2;exact h2 rfl _
end
section
open Go.Lib (decDigits)
theorem ziJ {x:Int} (h1:-9223372036854775808≤x) (h2:x≤9223372036854775807):w64 x=x:=by
 simp [w64,IntKind.wrap,IntKind.signed,IntKind.bits];omega
def Bl (ls:List (List UInt8)):Prop:=ls.length≤3000000∧∀ l,l∈ls→l.length≤10000000
theorem Bl.take {ls:List (List UInt8)} (h:Bl ls) (n:Nat):Bl (ls.take n):=⟨by have:=h.1;simp;omega,fun l hl=>h.2 l (List.mem_of_mem_take hl)⟩
theorem zoz {cs:List (List zr)} {a:Bool} (h:Tw cs):Bd ⟨cs,a⟩:=⟨by have:=h.1;simp only;omega,fun c hc=>⟨by have:=(h.2 c hc).1;omega,fun r hr=>by have:r.xTests.length≤6:=((h.2 c hc).2 r hr).1.2;omega⟩⟩
theorem zaT {ls:List (List UInt8)} {k:Nat} (h:k<(ls.map B).length):(ls.map B)[k]=B (ls[k]'(by simpa using h)):=by simp
theorem zbZ {α:Type} {ls:List α} {k:Nat} (h:k<ls.length):ls.take (k+1)=ls.take k++[ls[k]]:=List.take_succ_eq_append_getElem h
theorem zcj {ls:List (List UInt8)} {κ:zD×Bool→Prop} (hb:Bl ls) (h1:∀ st cs a,Zk ls=some (st,cs,a)→SV ⟨cs,a⟩→κ (⟨cs,a⟩,true)) (h2:(∀ st cs a,Zk ls=some (st,cs,a)→¬ SV ⟨cs,a⟩)→κ (⟨[],false⟩,false)):ZM (ls.map B) κ:=by
 unfold ZM
 have hl:=hb.1
 refine zK ls.length (fun s=>s.2.2.2) (fun k s=>(∃ st cs a,Zk (ls.take k)=some (st,cs,a)∧s=(st,cs,a,(k:Int)))∧k≤ls.length) (fun k s ⟨⟨st,cs,a,_,e⟩,_⟩=>by rw [e]) (fun k s h=>h.2) ?_ ⟨⟨0,[],false,rfl,rfl⟩,Nat.zero_le _⟩
 rintro k _ next ⟨⟨st,cs,a,hs,rfl⟩,hk⟩ hn
 obtain ⟨ht,_,_⟩:=zgd hs
 refine zi (fun hc=>?_) (fun hc=>?_)
 ·have hlt:k<ls.length:=by simpa using hc
  have hlt':k<(ls.map B).length:=by simpa using hlt
  refine zp k rfl hlt' ?_
  rw [zaT hlt']
  refine zn3 (by have:=hb.2 _ (List.getElem_mem hlt);omega) hs (fun s hs'=>?_) (fun hs' s=>?_)
  ·obtain ⟨st',cs',a'⟩:=s
   rw [← zbZ hlt] at hs'
   exact zi (fun hx=>by simp at hx) (fun _=>zz (by omega) (by omega) (hn hlt _ ⟨⟨st',cs',a',hs',rfl⟩,by omega⟩))
  ·rw [← zbZ hlt] at hs'
   refine zi (fun _=>h2 (fun st cs a he=>?_)) (fun hx=>by simp at hx)
   exact absurd hs' (zhZ (n:=ls.length) (by rw [List.take_length,he];simp) (by omega))
 ·have hge:ls.length≤k:=by simpa using hc
  rw [List.take_of_length_le hge] at hs
  refine YS (zoz ht) (fun b hbv=>zi (fun hx=>h2 (fun st' cs' a' he hv=>?_)) (fun hx=>h1 _ _ _ hs (hbv.1 (by simpa using hx))))
  rw [hs] at he
  cases he
  rw [hbv.2 hv] at hx;cases hx
theorem zem {p:List (List UInt8)} (hp:p≠[]) (l:List UInt8):XB (p++[l])=match XB p with
  | none=>none
  | some (cs,a)=>(zaa cs l).map (fun ds=>(ds,a)):=by
 cases p with
 | nil=>exact absurd rfl hp
 | cons x p =>
  simp only [List.cons_append,XB]
  cases dfl x with
  | none=>rfl
  | some a =>
   simp only [zdU]
   cases Ve [] p with
   | none=>rfl
   | some cs=>simp only [Ve];cases zaa cs l <;> rfl
def Zs (k:Nat) (cs:List (List zr)):Prop:=cs.length≤k∧∀ c,c∈cs→c.length≤k∧∀ r,r∈c→RV r
theorem Zs.bd {k:Nat} {cs:List (List zr)} {a:Bool} (h:Zs k cs) (hk:k≤4000000):Bd ⟨cs,a⟩:=⟨by have:=h.1;simp only;omega,fun c hc=>⟨by have:=(h.2 c hc).1;omega,fun r hr=>by have:r.xTests.length≤6:=((h.2 c hc).2 r hr).1.2;omega⟩⟩
theorem zmS {k:Nat} {cs ds:List (List zr)} {l:List UInt8} (hz:Zs k cs) (h:zaa cs l=some ds):Zs (k+1) ds:=by
 have mono:∀ c,c∈cs→c.length≤k+1∧∀ r,r∈c→RV r:=fun c hc=>⟨by have:=(hz.2 c hc).1;omega,(hz.2 c hc).2⟩
 unfold zaa at h
 split at h
 ·cases h
  refine ⟨by have:=hz.1;simp;omega,fun c hc=>?_⟩
  rcases List.mem_append.1 hc with hc | hc
  ·exact mono c hc
  ·simp at hc;subst hc;simp
 ·split at h
  ·cases h
  ·rename_i r hr
   split at h
   ·cases h
   ·rename_i h0
    cases h
    have hpos:0<cs.length:=by cases cs with
     | nil=>exact absurd rfl h0
     | cons _ _=>simp
    have hlt:cs.length - 1<cs.length:=by omega
    refine ⟨by rw [zbB];have:=hz.1;omega,fun c hc=>?_⟩
    rw [V7 cs r (cs.length - 1) (by omega)] at hc
    rcases List.mem_or_eq_of_mem_set hc with hc | rfl
    ·exact mono c hc
    ·obtain ⟨a,b⟩:=hz.2 _ (List.getElem_mem hlt)
     refine ⟨by simp;omega,fun x hx=>?_⟩
     rcases List.mem_append.1 hx with hx | hx
     ·exact b x hx
     ·rw [List.mem_singleton] at hx;subst hx;exact (zbX hr).1
theorem zcw {ls:List (List UInt8)} {κ:zD×Bool→Prop} (hb:Bl ls) (h1:∀ cs a,XB ls=some (cs,a)→SV ⟨cs,a⟩→κ (⟨cs,a⟩,true)) (h2:(∀ cs a,XB ls=some (cs,a)→¬ SV ⟨cs,a⟩)→κ (⟨[],false⟩,false)):ZJ (ls.map B) κ:=by
 have hl:=hb.1
 unfold ZJ
 cases ls with
 | nil =>
  unfold jnW
  refine zi (fun _=>zi (fun _=>h2 (fun cs a h=>by simp [XB] at h)) (fun hx=>by simp at hx)) (fun hx=>by simp at hx)
 | cons l ls =>
  have h0:0<((l :: ls).map B).length:=by simp
  have bad:dfl l=none→κ (⟨[],false⟩,false):=fun hd=>h2 (fun cs a h=>by simp [XB,hd] at h)
  have main:∀ a,dfl l=some a→a=decide (l=zhV)→zI ((l :: ls).map B) 0 (fun e74=>z8 (fun (nx87:((List (List zr))×(List (List zr))×Int)→Prop) ((xs77,xs82,t86):((List (List zr))×(List (List zr))×Int))=>ifW (decide (t86<(((l :: ls).map B).length:Int))) (jnW (fun (xs389:(List (List zr)))=>jh t86 1 (fun t394=>nx87 (xs389,xs82,t394))) (fun k393=>jnW (fun (xs170:(List (List zr)))=>zI ((l :: ls).map B) t86 (fun e175=>yt e175 (fun (r177,r180)=>jnW (fun (t246:Bool)=>ifW t246 (κ ((zD.mk ([]) false),false)) (jnW (fun (xs252:(List (List zr)))=>k393 xs252) (fun k255=>zI xs170 (w64 ((xs170.length:Int) - 1)) (fun e256=>jW e256 ([r177]) (fun _=>zI xs170 (w64 ((xs170.length:Int) - 1)) (fun e266=>k255 (xs170.set ((w64 ((xs170.length:Int) - 1))).toNat (e256++([r177]))))))))) (fun k247=>ifW (!r180) (k247 true) (k247 (decide ((xs170.length:Int)=0))))))) (fun k174=>zI ((l :: ls).map B) t86 (fun e91=>jH (xs77.length:Int) (fun r93=>uS (ByteArray.mk #[99,104,97,105,110,32]) r93 (fun s94=>ifW (decide (e91=s94)) (jW xs77 ([[]]) (fun _=>k393 (xs77++([[]])))) (k174 xs77))))))) (uU (zD.mk xs77 (decide (e74=(ByteArray.mk #[100,101,102,97,117,108,116,32,97,99,99,101,112,116])))) (fun r395=>ifW (!r395) (κ ((zD.mk ([]) false),false)) (κ ((zD.mk xs77 (decide (e74=(ByteArray.mk #[100,101,102,97,117,108,116,32,97,99,99,101,112,116])))),true))))) ([],[],1)):=by
   intro a ha haa
   refine zp 0 rfl h0 ?_
   rw [zaT h0]
   show z8 _ _
   rw [show (l :: ls)[0]=l from rfl,zi3,← haa]
   refine Ud 1 (ls.length+1) (fun s=>s.2.2) (fun k s=>(∃ cs,XB ((l :: ls).take k)=some (cs,a)∧Zs k cs∧s=(cs,[],(k:Int)))∧1≤k∧k≤ls.length+1) (fun k s ⟨⟨cs,_,_,e⟩,_⟩=>by rw [e]) (fun k s h=>h.2.2) ?_ ⟨⟨[],by simp [XB,Ve,ha],⟨by simp,fun c hc=>by simp at hc⟩,rfl⟩,by omega,by omega⟩
   rintro k _ next ⟨⟨cs,hs,hz,rfl⟩,hk1,hk⟩ hn
   have hz1:=hz.1
   simp only [List.length_cons] at hl
   refine zi (fun hc=>?_) (fun hc=>?_)
   ·have hlt:k<(l :: ls).length:=by simp at hc ⊢;omega
    have hlt':k<((l :: ls).map B).length:=by simpa using hlt
    have hlb:=hb.2 _ (List.getElem_mem hlt)
    have hne:(l :: ls).take k≠[]:=by cases k with
     | zero=>omega
     | succ k=>simp
    have step:∀ ds,zaa cs (l :: ls)[k]=some ds→next (ds,[],(k:Int)+1):=by
     intro ds hds
     have hlt3:k<ls.length+1:=by simpa using hlt
     refine hn hlt3 _ ⟨⟨ds,?_,zmS hz hds,rfl⟩,by omega,by omega⟩
     rw [zbZ hlt,zem hne,hs]
     simp only [hds,Option.map_some]
    have stop:zaa cs (l :: ls)[k]=none→κ (⟨[],false⟩,false):=by
     intro hds
     refine h2 (fun cs' a' he=>?_)
     exfalso
     have e:(l :: ls)=(l :: ls).take (k+1)++(l :: ls).drop (k+1):=(List.take_append_drop _ _).symm
     have e2:XB ((l :: ls).take (k+1))=none:=by
      rw [zbZ hlt,zem hne,hs]
      simp only [hds,Option.map_none]
     rw [e] at he
     rw [List.take_succ_cons] at he e2
     simp only [List.cons_append,XB,zdU] at he e2
     rw [ha] at he e2
     simp only at he e2
     cases hx:Ve [] (ls.take k) with
     | none=>rw [hx] at he;simp at he
     | some ds=>rw [hx] at e2;simp at e2
    have hd:=zag 7 cs.length (by omega)
    unfold jnW
    refine zp k rfl hlt' (Yg (by omega) (by omega) (yj (l:=[99,104,97,105,110,32]) (by simp;omega) ?_))
    rw [zaT hlt',Int.toNat_natCast]
    show ifW (decide (B (l :: ls)[k]=B (chl cs.length))) _ _
    rw [zak]
    unfold zaa at step stop
    refine zi (fun hx=>?_) (fun hx=>?_)
    ·have e:(l :: ls)[k]=chl cs.length:=by simpa using hx
     rw [if_pos e] at step
     exact jj (by simp;omega) (zz (by omega) (by omega) (step _ rfl))
    ·have e:(l :: ls)[k]≠chl cs.length:=by simpa using hx
     rw [if_neg e] at step stop
     refine zp k rfl hlt' ?_
     rw [zaT hlt']
     refine zkq hlb (fun r hr=>?_) (fun hr=>?_)
     ·rw [hr] at step stop
      simp only at step stop
      refine zi (fun hx=>by simp at hx) (fun _=>?_)
      refine zi (fun hx=>?_) (fun hx=>?_)
      ·have e0:cs=[]:=List.eq_nil_of_length_eq_zero (by simpa using hx)
       rw [if_pos e0] at stop
       exact stop rfl
      ·have e0:cs≠[]:=fun e=>by rw [e] at hx;simp at hx
       have hpos:0<cs.length:=by simp at hx;cases cs with
        | nil=>exact absurd rfl e0
        | cons _ _=>simp
       have hlt2:cs.length - 1<cs.length:=by omega
       rw [if_neg e0] at step
       have hw:w64 ((cs.length:Int) - 1)=((cs.length - 1:Nat):Int):=by rw [ziJ (by omega) (by omega)];omega
       have hcl:=(hz.2 _ (List.getElem_mem hlt2)).1
       rw [hw]
       refine zp _ rfl hlt2 (jj (by simp;omega) (zp _ rfl hlt2 ?_))
       rw [Int.toNat_natCast]
       refine zz (by omega) (by omega) ?_
       have:=step _ rfl
       rw [V7 cs r (cs.length - 1) (by omega)] at this
       exact this
     ·rw [hr] at stop
      exact zi (fun _=>zi (fun _=>stop rfl) (fun hx=>by simp at hx)) (fun hx=>by simp at hx)
   ·have hge:(l :: ls).length≤k:=by simp at hc ⊢;omega
    rw [List.take_of_length_le hge] at hs
    refine YR (hz.bd (by omega)) (fun b hbv=>zi (fun hx=>h2 (fun cs' a' he hv=>?_)) (fun hx=>h1 _ _ hs (hbv.1 (by simpa using hx))))
    rw [hs] at he
    cases he
    rw [hbv.2 hv] at hx;cases hx
  unfold dfl at bad main
  unfold jnW
  refine zi (fun hx=>by simp at hx;omega) (fun _=>zp 0 rfl h0 ?_)
  rw [zaT h0,show (l :: ls)[0]=l from rfl,zi3]
  refine zi (fun hx=>zp 0 rfl h0 ?_) (fun hx=>?_)
  ·have e:l≠zhV:=by simpa using hx
   rw [zaT h0,show (l :: ls)[0]=l from rfl,zjF]
   rw [if_neg e] at bad main
   refine zi (fun hy=>?_) (fun hy=>?_)
   ·have e2:l≠zgy:=by simpa using hy
    rw [if_neg e2] at bad
    exact bad rfl
   ·have e2:l=zgy:=by simpa using hy
    rw [if_pos e2] at main
    exact main _ rfl (by rw [decide_eq_false e])
  ·have e:l=zhV:=by simpa using hx
   rw [if_pos e] at main
   exact zi (fun hx=>by simp at hx) (fun _=>main _ rfl (by rw [decide_eq_true e]))
end
section
open Go.Lib (decDigits)
theorem zgo {ls:List (List UInt8)} {st:Int} {cs:List (List zr)} {a:Bool} (hne:ls≠[]) (h:Zk ls=some (st,cs,a)):XB ls=some (cs,a):=by
 cases ls with
 | nil=>exact absurd rfl hne
 | cons l ls =>
  simp only [Zk,XB] at h ⊢
  cases hd:dfl l with
  | none=>rw [hd] at h;simp at h
  | some b =>
   rw [hd] at h
   simp only at h ⊢
   cases hf:Vh [] ls with
   | none=>rw [hf] at h;simp at h
   | some ds =>
    rw [hf] at h
    simp only [Option.some.injEq,Prod.mk.injEq] at h
    rw [zen hf]
    obtain ⟨_,rfl,rfl⟩:=h
    rfl
theorem zgt {ls:List (List UInt8)} {cs:List (List zr)} {a:Bool} (h:XB ls=some (cs,a)) (hv:SV ⟨cs,a⟩):∃ st,Zk ls=some (st,cs,a):=by
 cases ls with
 | nil=>simp [XB] at h
 | cons l ls =>
  simp only [Zk,XB] at h ⊢
  cases hd:dfl l with
  | none=>rw [hd] at h;simp at h
  | some b =>
   rw [hd] at h
   simp only at h ⊢
   cases hf:Ve [] ls with
   | none=>rw [hf] at h;simp at h
   | some ds =>
    rw [hf] at h
    simp only [Option.some.injEq,Prod.mk.injEq] at h
    obtain ⟨rfl,rfl⟩:=h
    rw [zej hf hv.1.w hv.2.2]
    exact ⟨_,rfl⟩
theorem zov {a:Bool}:¬ SV ⟨[],a⟩:=fun h=>by have:=h.2.1;simp at this
end
section
open Go.Lib (decDigits)
def Bw (ls:List ByteArray):Prop:=ls.length≤1000∧∀ x,x∈ls→x.size≤5000
theorem zkg {s:zD} (h:SV s):Bw (Vn s)∧(Vn s).length≤50∧0<(Vn s).length:=by
 have hc:=h.1.1
 have hs:=zeT s.xChains (fun c hc=>(h.1.2 c hc).1)
 have hl:(Vn s).length≤50:=by simp [Vn,zeN];omega
 refine ⟨⟨by omega,fun x hx=>?_⟩,hl,by simp [Vn]⟩
 simp only [Vn,List.mem_cons] at hx
 rcases hx with rfl | hx
 ·rw [YO];unfold dft;split <;> decide
 ·have key:∀ (cs:List (List zr)) (k:Nat),k+cs.length≤1000→(∀ c,c∈cs→∀ r,r∈c→RV r)→∀ x,x∈lsF k cs→x.size≤5000:=by
   intro cs
   induction cs with
   | nil=>intro k _ _ x hx;simp [lsF] at hx
   | cons c cs ih =>
    intro k hk hv x hx
    simp only [List.length_cons] at hk
    simp only [lsF,List.cons_append,List.mem_cons,List.mem_append,List.mem_map] at hx
    rcases hx with rfl | ⟨r,hr,rfl⟩ | hx
    ·have:=zag 6 k (by omega)
     rw [YO];simp [chl];omega
    ·have:=zfB (hv c (by simp) r hr)
     rw [YO];omega
    ·exact ih (k+1) (by omega) (fun c hc=>hv c (by simp [hc])) x hx
  exact key s.xChains 0 (by omega) (fun c hc r hr=>((h.1.2 c hc).2 r hr).1) x hx
end
section
def th (t:zL) (p:yn):Bool:=decide (t.xLo≤zct p t.xField.toNat∧zct p t.xField.toNat≤t.xHi) != t.xNot
def ft (l:List zL) (p:yn):Bool:=l.all (fun t=>th t p)
def Hh (cs:List (List zr)):Nat→Nat→Prop
 | 0,_=>False
 | n+1,i=>∀ j,Ca cs i j→Hh cs n j
theorem zeU {cs:List (List zr)}:∀ {n i:Nat},Hh cs n i→Hh cs (n+1) i
 | 0,i,h=>h.elim
 | n+1,i,h=>fun j hj=>zeU (h j hj)
theorem zno {cs:List (List zr)} {n m i:Nat} (h:Hh cs n i) (hm:n≤m):Hh cs m i:=by
 induction hm with
 | refl=>exact h
 | step _ ih=>exact zeU ih
theorem ziP {cs:List (List zr)} {Q:Nat→Prop}:∀ (k:Nat),(∀ j,j<k→Q j→∃ n,Hh cs n j)→∃ N,∀ j,j<k→Q j→Hh cs N j
 | 0,_=>⟨0,fun j hj=>by omega⟩
 | k+1,h=>by
  obtain ⟨N,hN⟩:=ziP k (fun j hj hq=>h j (by omega) hq)
  by_cases hq:Q k
  ·obtain ⟨n,hn⟩:=h k (by omega) hq
   refine ⟨max N n,fun j hj hqj=>?_⟩
   by_cases e:j=k
   ·subst e;exact zno hn (by omega)
   ·exact zno (hN j (by omega) hqj) (by omega)
  ·refine ⟨N,fun j hj hqj=>?_⟩
   by_cases e:j=k
   ·subst e;exact absurd hqj hq
   ·exact hN j (by omega) hqj
theorem zl9 {cs:List (List zr)} {i:Nat} (hs:Sf cs i):∃ n,Hh cs n i:=by
 induction hs with
 | intro x hx ih =>
  obtain ⟨N,hN⟩:=ziP (cs:=cs) (Q:=fun j=>Ca cs x j) cs.length (fun j _ hq=>ih j hq)
  refine ⟨N+1+1,fun j hj=>?_⟩
  by_cases hl:j<cs.length
  ·exact zeU (hN j hl hj)
  ·exact fun k hk=>by
    obtain ⟨c,h1,_⟩:=hk
    have:=(List.getElem?_eq_some_iff.1 h1).1
    omega
theorem zoM {cs:List (List zr)} (hs:∀ i,i<cs.length→Sf cs i):∃ N,∀ i,Hh cs (N+1) i:=by
 obtain ⟨N,hN⟩:=ziP (cs:=cs) (Q:=fun _=>True) cs.length (fun j hj _=>zl9 (hs j hj))
 refine ⟨N,fun i=>?_⟩
 by_cases hl:i<cs.length
 ·exact zeU (hN i hl trivial)
 ·exact fun k hk=>by
   obtain ⟨c,h1,_⟩:=hk
   have:=(List.getElem?_eq_some_iff.1 h1).1
   omega
def jl (p:yn) (call:Nat→Int):List zr→Int
 | []=>5
 | r :: l=>if ft r.xTests p=true then
   (if r.xAction=1 then 1 else if r.xAction=2 then 2 else if r.xAction=4 then 5 else if r.xAction=3 then (if call r.xChain.toNat=5 then jl p call l else call r.xChain.toNat) else jl p call l)
   else jl p call l
def chn (cs:List (List zr)) (i:Nat):List zr:=cs[i]?.getD []
def jc (cs:List (List zr)) (p:yn):Nat→Nat→Int
 | 0,_=>5
 | n+1,i=>jl p (jc cs p n) (chn cs i)
theorem zhB {cs:List (List zr)} {i:Nat} {r:zr} (hr:r∈chn cs i) (h3:r.xAction=3) (h0:0≤r.xChain):Ca cs i r.xChain.toNat:=by
 unfold chn at hr
 cases h:cs[i]? with
 | none=>rw [h] at hr;simp at hr
 | some c=>rw [h] at hr;exact ⟨c,h,r,hr,h3,by omega⟩
def Cn (cs:List (List zr)):Prop:=∀ i r,r∈chn cs i→r.xAction=3→0≤r.xChain
open Classical in
noncomputable def jN (cs:List (List zr)):Nat:=if h:∃ N,∀ i,Hh cs (N+1) i then h.choose else 0
theorem zjM {cs:List (List zr)} (hs:∀ i,i<cs.length→Sf cs i) (i:Nat):Hh cs (jN cs+1) i:=by
 have h:=zoM hs
 unfold jN
 rw [dif_pos h]
 exact h.choose_spec i
noncomputable def J (cs:List (List zr)) (p:yn) (i:Nat):Int:=jc cs p (jN cs+1) i
theorem SV.cn {s:zD} (h:SV s):Cn s.xChains:=by
 intro i r hr h3
 unfold chn at hr
 cases e:s.xChains[i]? with
 | none=>rw [e] at hr;simp at hr
 | some c =>
  rw [e] at hr
  exact (((h.1.2 c (List.mem_of_getElem? e)).2 r hr).1.2.2.2.1 h3).1
theorem zeV {cs:List (List zr)} {i:Nat} (h:i<cs.length):chn cs i=cs[i]:=by simp [chn,h]
end
section
theorem zd7:∀ (n:Nat) (l:List Nat),l.Nodup→(∀ x,x∈l→x<n)→l.length≤n
 | 0,[],_,_=>by simp
 | 0,x :: l,_,h=>by have:=h x (by simp);omega
 | n+1,l,hd,h=>by
  by_cases hm:n∈l
  ·obtain ⟨s,t,rfl⟩:=List.append_of_mem hm
   have hnd:(s++t).Nodup∧n ∉ s++t:=by
    rw [List.nodup_append] at hd ⊢
    simp only [List.nodup_cons,List.mem_cons] at hd
    obtain ⟨h1,⟨h2,h3⟩,h4⟩:=hd
    refine ⟨⟨h1,h3,fun a ha b hb=>h4 a ha b (.inr hb)⟩,fun hmem=>?_⟩
    rcases List.mem_append.1 hmem with hs | ht
    ·exact h4 n hs n (.inl rfl) rfl
    ·exact h2 ht
   have:=zd7 n (s++t) hnd.1 (fun x hx=>by
    have h1:=h x (by
     rcases List.mem_append.1 hx with hx | hx
     ·exact List.mem_append.2 (.inl hx)
     ·exact List.mem_append.2 (.inr (List.mem_cons_of_mem _ hx)))
    have h2:x≠n:=fun e=>hnd.2 (e ▸ hx)
    omega)
   simp at this ⊢;omega
  ·have:=zd7 n l hd (fun x hx=>by
    have h1:=h x hx
    have h2:x≠n:=fun e=>hm (e ▸ hx)
    omega)
   omega
def okP (cs:List (List zr)) (q:za5):Prop:=0≤q.xChain∧q.xChain.toNat<cs.length∧0≤q.xNext∧q.xNext.toNat≤(chn cs q.xChain.toNat).length
def Stk (cs:List (List zr)) (xs:List za5):Prop:=(∀ q,q∈xs→okP cs q)∧xs.Pairwise (fun a b=>Wy cs a.xChain.toNat b.xChain.toNat)
theorem Stk.len {cs:List (List zr)} {xs:List za5} (hs:∀ i,i<cs.length→Sf cs i) (h:Stk cs xs):xs.length≤cs.length:=by
 have hn:(xs.map (fun q=>q.xChain.toNat)).Nodup:=by
  rw [List.Nodup,List.pairwise_map]
  refine List.Pairwise.imp_of_mem (fun {a b} ha hb hw e=>?_) h.2
  rw [← e] at hw
  exact zjB (hs _ (h.1 a ha).2.1) hw
 have:=zd7 cs.length _ hn (fun x hx=>by
  obtain ⟨q,hq,rfl⟩:=List.mem_map.1 hx
  exact (h.1 q hq).2.1)
 simpa using this
theorem Stk.drop {cs:List (List zr)} {ys:List za5} {q:za5} (h:Stk cs (ys++[q])):Stk cs ys:=⟨fun x hx=>h.1 x (List.mem_append.2 (.inl hx)),(List.pairwise_append.1 h.2).1⟩
theorem Stk.move {cs:List (List zr)} {ys:List za5} {q q':za5} (h:Stk cs (ys++[q])) (hq:okP cs q') (hc:q'.xChain=q.xChain):Stk cs (ys++[q']):=by
 refine ⟨fun x hx=>?_,?_⟩
 ·rcases List.mem_append.1 hx with hx | hx
  ·exact h.1 x (List.mem_append.2 (.inl hx))
  ·rw [List.mem_singleton] at hx;subst hx;exact hq
 ·obtain ⟨h1,_,h3⟩:=List.pairwise_append.1 h.2
  refine List.pairwise_append.2 ⟨h1,by simp,fun a ha b hb=>?_⟩
  rw [List.mem_singleton] at hb
  subst hb
  rw [hc]
  exact h3 a ha q (by simp)
theorem Stk.push {cs:List (List zr)} {ys:List za5} {q q':za5} (h:Stk cs (ys++[q])) (hq:okP cs q') (hc:Ca cs q.xChain.toNat q'.xChain.toNat):Stk cs (ys++[q]++[q']):=by
 refine ⟨fun x hx=>?_,?_⟩
 ·rcases List.mem_append.1 hx with hx | hx
  ·exact h.1 x hx
  ·rw [List.mem_singleton] at hx;subst hx;exact hq
 ·refine List.pairwise_append.2 ⟨h.2,by simp,fun a ha b hb=>?_⟩
  rw [List.mem_singleton] at hb
  subst hb
  rcases List.mem_append.1 ha with ha | ha
  ·exact .more ((List.pairwise_append.1 h.2).2.2 a ha q (by simp)) hc
  ·rw [List.mem_singleton] at ha;subst ha;exact .one hc
end
section
open Go Go.Proofs
theorem zb0:∀ (l:List zj) (s:zj) (out:List zj) (pl:Bool),(zbv l s out pl).1.length+(if (zbv l s out pl).2.2 then 0 else 1)≤out.length+l.length+(if pl then 0 else 1)
 | [],s,out,pl=>by cases pl <;> simp [zbv]
 | x :: xs,s,out,pl=>by
  unfold zbv
  by_cases c1:x.xHi+1<s.xLo
  ·rw [if_pos c1]
   have:=zb0 xs s (out++[x]) pl
   simp only [List.length_append,List.length_cons,List.length_nil] at this ⊢
   omega
  ·rw [if_neg c1]
   by_cases c2:s.xHi+1<x.xLo
   ·rw [if_pos c2]
    have:=zb0 xs s ((if pl then out else out++[s])++[x]) true
    cases pl <;> simp only [List.length_append,List.length_cons,List.length_nil,Bool.false_eq_true,if_true,if_false] at this ⊢ <;> omega
   ·rw [if_neg c2]
    have:=zb0 xs (zj.mk (min s.xLo x.xLo) (max s.xHi x.xHi)) out pl
    simp only [List.length_cons]
    omega
theorem zkB (l:List zj) (s:zj):(zdq l s).length≤l.length+1:=by
 have:=zb0 l s [] false
 unfold zdq
 generalize zbv l s [] false=r at *
 obtain ⟨o,s',pl⟩:=r
 cases pl <;> simp at this ⊢ <;> omega
theorem zeh:∀ (xs a:List zj),(xs.foldl zdq a).length≤a.length+xs.length
 | [],a=>by simp
 | s :: xs,a=>by
  have h1:=zeh xs (zdq a s)
  have h2:=zkB a s
  simp only [List.foldl_cons,List.length_cons]
  omega
theorem zic {a:za}:F4 a↔le4 a 40:=⟨fun ⟨f0,f1,f2,f3⟩ f h0 h1=>by
 rcases zaf h0 h1 with rfl | rfl | rfl | rfl
 ·exact f0
 ·exact f1
 ·exact f2
 ·exact f3,zi6⟩
end
section
open Go Go.Proofs
def Yh (bs:List za) (w:za):List za:=bs.flatMap (fun b=>if em4 (yc b w) then [] else [yc b w])
theorem zbN (l m:List za) (w:za):Yh (l++m) w=Yh l w++Yh m w:=by simp [Yh]
theorem zdf (b w:za):Yh [b] w=if em4 (yc b w) then [] else [yc b w]:=by simp [Yh]
theorem zdp (bs:List za) (w:za):(Yh bs w).length≤bs.length:=by
 induction bs with
 | nil=>simp [Yh]
 | cons b bs ih =>
  rw [show b :: bs=[b]++bs from rfl,zbN,zdf,List.length_append,List.length_append]
  have:(if em4 (yc b w)=true then [] else [yc b w]:List za).length≤1:=by split <;> simp
  simp only [List.length_singleton];omega
theorem ziX {bs:List za} {w:za} (hb:aB bs) (hw:B4 w):aB (Yh bs w):=fun c hc=>by
 obtain ⟨b,hb',hc⟩:=List.mem_flatMap.1 hc
 split at hc
 ·simp at hc
 ·rw [List.mem_singleton] at hc;subst hc;exact zh6 (hb b hb') hw
theorem zaP (bs:List za) (w:za):(xT bs w).length≤4 * bs.length:=by
 induction bs with
 | nil=>simp [xT]
 | cons b bs ih =>
  rw [show b :: bs=[b]++bs from rfl,XX,Uo,List.length_append,List.length_append]
  have:=zbQ b w
  simp only [List.length_singleton];omega
def dec (l:List za) (acc:Bool):List zq:=l.map (fun b=>⟨b,acc⟩)
abbrev UR:=Option (List za×List zq)
def url (call:Nat→List za→List zq→UR):List zr→List za→List za→List zq→UR
 | [],going,left,out=>if okR (left++going) then some (left++going,out) else none
 | r :: rs,going,left,out =>
  if okR (Yh going (Xt r.xTests))∧okR (xT going (Xt r.xTests)) then
   if r.xAction=1∨r.xAction=2 then
    if (out++dec (Yh going (Xt r.xTests)) (decide (r.xAction=1))).length≤60 then url call rs (xT going (Xt r.xTests)) left (out++dec (Yh going (Xt r.xTests)) (decide (r.xAction=1))) else none
   else if r.xAction=4 then url call rs (xT going (Xt r.xTests)) (left++Yh going (Xt r.xTests)) out
   else if r.xAction=3 then
    match call r.xChain.toNat (Yh going (Xt r.xTests)) out with
    | none=>none
    | some (b,o)=>if okR (xT going (Xt r.xTests)++b) then url call rs (xT going (Xt r.xTests)++b) left o else none
   else if okR (xT going (Xt r.xTests)++Yh going (Xt r.xTests)) then url call rs (xT going (Xt r.xTests)++Yh going (Xt r.xTests)) left out else none
  else none
def uc (cs:List (List zr)):Nat→Nat→List za→List zq→UR
 | 0,_,_,_=>none
 | n+1,i,boxes,out=>url (uc cs n) (chn cs i) boxes [] out
theorem zgN {f g:Nat→List za→List zq→UR}:∀ {l:List zr},(∀ r,r∈l→r.xAction=3→∀ b o,f r.xChain.toNat b o=g r.xChain.toNat b o)→∀ going left out,url f l going left out=url g l going left out
 | [],_,_,_,_=>rfl
 | r :: l,h,going,left,out=>by
  have ih:=zgN (f:=f) (g:=g) (l:=l) (fun x hx=>h x (by simp [hx]))
  unfold url
  by_cases h3:r.xAction=3
  ·rw [h r (by simp) h3];simp only [ih]
  ·simp only [h3,if_false,ih]
theorem zjm {cs:List (List zr)} (hc:Cn cs):∀ {n i:Nat},Hh cs n i→∀ b o,uc cs (n+1) i b o=uc cs n i b o
 | 0,i,h,_,_=>h.elim
 | n+1,i,h,b,o=>zgN (fun r hr h3 b o=>zjm hc (h _ (zhB hr h3 (hc i r hr h3))) b o) _ _ _
noncomputable def U (cs:List (List zr)) (i:Nat) (boxes:List za) (out:List zq):UR:=uc cs (jN cs+1) i boxes out
theorem znd {cs:List (List zr)} (hc:Cn cs) (hs:∀ i,i<cs.length→Sf cs i) (i:Nat) (b:List za) (o:List zq):U cs i b o=url (U cs) (chn cs i) b [] o:=by
 unfold U
 rw [← zjm hc (zjM hs i)]
 rfl
theorem zg2 {call:Nat→List za→List zq→UR}:∀ {l:List zr} {going left:List za} {out:List zq},400<left.length→url call l going left out=none
 | [],going,left,out,h=>by
  unfold url
  rw [if_neg (fun q=>by have:=q.2;rw [List.length_append] at this;omega)]
 | r :: l,going,left,out,h=>by
  have ih:∀ {g o},url call l g left o=none:=zg2 h
  have ih2:∀ {g m o},url call l g (left++m) o=none:=zg2 (by rw [List.length_append];omega)
  unfold url
  simp only [ih,ih2]
  repeat' split
  all_goals rfl
theorem zb1:okR []:=⟨zfp,by simp⟩
theorem zmd (w:za):Yh [] w=[]:=rfl
theorem zkd (w:za):xT [] w=[]:=rfl
theorem zlg {cs:List (List zr)} (hc:Cn cs):∀ {n i:Nat},Hh cs n i→∀ {o:List zq},o.length≤60→uc cs n i [] o=some ([],o)
 | 0,i,h,_,_=>h.elim
 | n+1,i,h,o,ho=>by
  have key:∀ (l:List zr) (out:List zq),(∀ r,r∈l→r∈chn cs i)→out.length≤60→url (uc cs n) l [] [] out=some ([],out):=by
   intro l
   induction l with
   | nil=>intro out _ _;unfold url;rw [List.append_nil,if_pos zb1]
   | cons r l ih =>
    intro out hl ho
    have ih':=ih out (fun x hx=>hl x (by simp [hx])) ho
    unfold url
    rw [zmd,zkd,if_pos ⟨zb1,zb1⟩]
    have ed:∀ a,out++dec [] a=out:=fun a=>by simp [dec]
    split
    ·rw [ed,if_pos ho];exact ih'
    ·split
     ·exact ih'
     ·split
      ·rename_i h3
       have hr:=hl r (by simp)
       rw [zlg hc (h _ (zhB hr h3 (hc i r hr h3))) ho]
       simp only [List.append_nil,zb1,if_true]
       exact ih'
      ·rw [List.append_nil,if_pos zb1];exact ih'
  exact key _ _ (fun r hr=>hr) ho
theorem zoJ {cs:List (List zr)} (hc:Cn cs) (hs:∀ i,i<cs.length→Sf cs i) (i:Nat) {o:List zq} (ho:o.length≤60):U cs i [] o=some ([],o):=zlg hc (zjM hs i) ho
def Uok (r:UR):Prop:=∀ l o,r=some (l,o)→aB l∧okR l∧IV o∧o.length≤60
theorem zi7 {l m:List zq} (h1:IV l) (h2:IV m):IV (l++m):=fun f hf=>(List.mem_append.1 hf).elim (h1 f) (h2 f)
theorem ziH {l:List za} {a:Bool} (h1:aB l) (h2:zax l):IV (dec l a):=fun f hf=>by
 obtain ⟨b,hb,rfl⟩:=List.mem_map.1 hf
 exact ⟨h1 b hb,h2 b hb⟩
theorem zje:IV []:=fun f h=>by simp at h
theorem zhK (l:List za) (a:Bool):(dec l a).length=l.length:=by simp [dec]
theorem zga {call:Nat→List za→List zq→UR} (hcall:∀ i b o,aB b→okR b→IV o→o.length≤60→Uok (call i b o)):∀ {l:List zr} {going left:List za} {out:List zq},(∀ r∈l,∀ t∈r.xTests,TV t)→aB going→aB left→IV out→out.length≤60→Uok (url call l going left out)
 | [],going,left,out,_,hg,hl,ho,h60=>by
  intro l o h
  unfold url at h
  split at h
  ·rename_i q
   injection h with h;injection h with h1 h2;subst h1 h2
   exact ⟨V9.2 ⟨hl,hg⟩,q,ho,h60⟩
  ·cases h
 | r :: rs,going,left,out,ht,hg,hl,ho,h60=>by
  have hw:=zdI (ht r (by simp))
  have htr:∀ r∈rs,∀ t∈r.xTests,TV t:=fun x hx=>ht x (by simp [hx])
  have hfB:=ziX hg hw
  have hmB:=zbY hg hw
  intro l o h
  unfold url at h
  split at h
  ·rename_i q
   split at h
   ·split at h
    ·rename_i q2
     exact zga hcall htr hmB hl (zi7 ho (ziH hfB q.1.1)) q2 l o h
    ·cases h
   ·split at h
    ·exact zga hcall htr hmB (V9.2 ⟨hl,hfB⟩) ho h60 l o h
    ·split at h
     ·split at h
      ·cases h
      ·rename_i b o' hb
       obtain ⟨c1,c2,c3,c4⟩:=hcall _ _ _ hfB q.1 ho h60 _ _ hb
       split at h
       ·exact zga hcall htr (V9.2 ⟨hmB,c1⟩) hl c3 c4 l o h
       ·cases h
     ·split at h
      ·exact zga hcall htr (V9.2 ⟨hmB,hfB⟩) hl ho h60 l o h
      ·cases h
  ·cases h
def TVs (cs:List (List zr)):Prop:=∀ c∈cs,∀ r∈c,∀ t∈r.xTests,TV t
theorem TVs.chn {cs:List (List zr)} (h:TVs cs) (i:Nat):∀ r∈chn cs i,∀ t∈r.xTests,TV t:=by
 unfold Go.Proofs.YtgpdnnhmndlljaaGreatDoor.chn
 cases e:cs[i]? with
 | none=>simp
 | some c=>exact h c (List.mem_of_getElem? e)
theorem SV.tvs {s:zD} (h:SV s):TVs s.xChains:=fun c hc r hr=>((h.1.2 c hc).2 r hr).1.1.1
theorem zm9 {cs:List (List zr)} (ht:TVs cs):∀ n i b o,aB b→okR b→IV o→o.length≤60→Uok (uc cs n i b o)
 | 0,i,b,o,_,_,_,_=>fun l o h=>by cases h
 | n+1,i,b,o,hb,hk,ho,h60=>zga (zm9 ht n) (ht.chn i) hb (fun c hc=>by simp at hc) ho h60
theorem znK {cs:List (List zr)} (ht:TVs cs) (i:Nat) {b:List za} {o:List zq} (hb:aB b) (hk:okR b) (ho:IV o) (h60:o.length≤60):Uok (U cs i b o):=zm9 ht _ i b o hb hk ho h60
end
section
open Go Go.Proofs
theorem U3 {cs:List (List zr)} {fl:List zq} {over:Bool} {bs:List za} {κ:List za×Bool→Prop} (h1:400<bs.length→κ (bs,true)) (h2:bs.length≤400→κ (bs,over)):xe cs fl over bs κ:=by
 unfold xe
 exact xf (zi (fun e=>h1 (by simp at e;omega)) (fun e=>h2 (by simp at e;omega)))
theorem zn6 {n:Int} (h0:0≤n) (h1:n≤4294967296) {κ:List za→Prop} (h:κ []):uZ [] n κ:=⟨rfl,h0,h1,h⟩
theorem zcZ {x y:List za} (hx:x.length≤1000000) (hy:y.length≤1000000) {κ:List za→Prop} (h:κ (x++y)):jV [x,y] κ:=by
 unfold jV
 refine ⟨3,?_⟩
 refine jt (zp 0 rfl (by simp) (zz (by first | (simp;done) | (simp;omega)) (by first | (simp;done) | (simp;omega)) (zi (fun e=>by have:=of_decide_eq_true e;omega) (fun _=>zz (by omega) (by omega) ?_))))
 refine jt (zp 1 rfl (by simp) (zz (by first | (simp;done) | (simp;omega)) (by first | (simp;done) | (simp;omega)) (zi (fun e=>by have:=of_decide_eq_true e;omega) (fun _=>zz (by omega) (by omega) ?_))))
 refine jK (zn6 (by simp;omega) (by simp;omega) ⟨3,?_⟩)
 refine jt (zp 0 rfl (by simp) (jj (by simp;omega) (zz (by omega) (by omega) ?_)))
 refine jt (zp 1 rfl (by simp) (jj (by simp;omega) (zz (by omega) (by omega) ?_)))
 exact jK h
theorem zk5 {cs:List (List zr)} {fl:List zq} {bs:List za} {w:za} (hB:aB bs) (hF:zax bs) (hl:bs.length≤400) (hw:B4 w) {κ:List za×List za×Bool→Prop}
  (h1:okR (Yh bs w)→okR (xT bs w)→κ (Yh bs w,xT bs w,false)) (h2:¬ (okR (Yh bs w)∧okR (xT bs w))→∀ x y,κ (x,y,true)):Zn cs fl false bs w κ:=by
 unfold Zn
 refine zK bs.length (fun s=>s.2.2) (fun k (s:List za×List za×Int)=>s.2.2=(k:Int)∧k≤bs.length∧s.1=Yh (bs.take k) w∧s.2.1=xT (bs.take k) w∧zax (Yh (bs.take k) w)∧zax (xT (bs.take k) w)) (fun k s h=>h.1) (fun k s h=>h.2.1) ?_ ⟨rfl,by omega,by simp [Yh],by simp [xT],by simp [Yh,zax],by simp [xT,zax]⟩
 rintro k ⟨_,_,_⟩ next ⟨rfl,hk,hx,hy,hfx,hfy⟩ hn
 simp only at hx hy
 subst hx hy
 refine zi (fun hc=>?_) (fun hc=>?_)
 ·have hlt:k<bs.length:=by simpa using hc
  have hbB:=hB _ (List.getElem_mem hlt)
  have hbF:=hF _ (List.getElem_mem hlt)
  have hs:bs=bs.take k++(bs[k] :: bs.drop (k+1)):=by rw [← List.drop_eq_getElem_cons hlt,List.take_append_drop]
  have hfl:=zdp (bs.take k) w
  have hml:=zaP (bs.take k) w
  rw [List.length_take] at hfl hml
  refine zp k rfl hlt (xf ?_)
  have ef:Yh (bs.take (k+1)) w=Yh (bs.take k) w++(if em4 (yc bs[k] w) then [] else [yc bs[k] w]):=by
   rw [List.take_succ_eq_append_getElem hlt,zbN,zdf]
  have em:xT (bs.take (k+1)) w=xT (bs.take k) w++YX bs[k] w:=by
   rw [List.take_succ_eq_append_getElem hlt,XX,Uo]
  have second:∀ xs,xs=Yh (bs.take (k+1)) w→zax xs→yF bs[k] w (fun (r286,r289)=>ifW (!r289) (κ ([],[],true)) (jW (xT (bs.take k) w) r286 (fun _=>jh (k:Int) 1 (fun t294=>next (xs,((xT (bs.take k) w)++r286),t294))))):=by
   rintro _ rfl hxf
   refine zfr hbB hw hbF ?_
   by_cases hFc:∀ c∈YX bs[k] w,F4 c
   ·rw [show ze0 bs[k] w=(YX bs[k] w,true) from if_pos hFc]
    have:=zbQ bs[k] w
    refine jK (jj (by omega) (zz (by omega) (by omega) (hn hlt _ ⟨by simp,by omega,rfl,em.symm,hxf,?_⟩)))
    rw [em];exact Zd.2 ⟨hfy,hFc⟩
   ·rw [show ze0 bs[k] w=([],false) from if_neg hFc]
    refine jt (h2 (fun q=>hFc ?_) _ _)
    have:=q.2.1
    rw [hs,XX,show bs[k] :: bs.drop (k+1)=[bs[k]]++bs.drop (k+1) from rfl,XX,Uo] at this
    exact (Zd.1 (Zd.1 this).2).1
  refine zgO hbB hw (zi (fun e=>?_) (fun e=>?_))
  ·have e':em4 (yc bs[k] w)=false:=by simpa using e
   refine zmE hbB hw ?_
   by_cases hm:F4 (yc bs[k] w)
   ·rw [show zkV (yc bs[k] w)=(yc bs[k] w,true) from if_pos hm]
    refine jK (jj (by simp;omega) (second _ ?_ ?_))
    ·rw [ef,e'];simp
    ·refine Zd.2 ⟨hfx,fun c hc=>?_⟩
     rw [List.mem_singleton] at hc;subst hc;exact hm
   ·rw [show zkV (yc bs[k] w)=(zd4,false) from if_neg hm]
    refine jt (h2 (fun q=>hm ?_) _ _)
    have:=q.1.1
    rw [hs,zbN,show bs[k] :: bs.drop (k+1)=[bs[k]]++bs.drop (k+1) from rfl,zbN,zdf,e'] at this
    exact (Zd.1 (Zd.1 this).2).1 _ (by simp)
  ·have e':em4 (yc bs[k] w)=true:=by simpa using e
   refine second _ ?_ hfx
   rw [ef,e'];simp
 ·have hge:bs.length≤k:=by simpa using hc
  rw [List.take_of_length_le hge] at hfx hfy ⊢
  refine U3 (fun q1=>?_) (fun q1=>?_)
  ·have no:¬ (okR (Yh bs w)∧okR (xT bs w)):=fun q=>by have:=q.1.2;omega
   exact U3 (fun _=>h2 no _ _) (fun _=>h2 no _ _)
  ·refine U3 (fun q2=>?_) (fun q2=>h1 ⟨hfx,q1⟩ ⟨hfy,q2⟩)
   exact h2 (fun q=>by have:=q.2.2;omega) _ _
def Cw (o:UR) (κ:List za×List zq×Bool→Prop):Prop:=match o with | some (l,out)=>κ (l,out,false) | none=>∀ l out,l.length≤10000→κ (l,out,true)
theorem zmK {l:List za} {o:List zq} {κ:List za×List zq×Bool→Prop} (h:κ (l,o,false)):Cw (some (l,o)) κ:=h
theorem zi0 {d:yg} {cs:List (List zr)} {fl:List zq} {x fit miss:List za} (hf:fl.length≤60) (hl:fit.length≤400) {κ:List za×List zq×Bool→Prop} (h1:60<(fl++dec fit d.xAccept).length→κ (miss,fl++dec fit d.xAccept,true)) (h2:(fl++dec fit d.xAccept).length≤60→κ (miss,fl++dec fit d.xAccept,false)):ym d cs fl false x fit miss κ:=by
 unfold ym
 refine zK fit.length (fun s=>s.2) (fun k (s:List zq×Int)=>s.2=(k:Int)∧k≤fit.length∧s.1=fl++dec (fit.take k) d.xAccept) (fun k s h=>h.1) (fun k s h=>h.2.1) ?_ ⟨rfl,by omega,by simp [dec]⟩
 rintro k ⟨_,_⟩ next ⟨rfl,hk,hx⟩ hn
 simp only at hx
 subst hx
 have hln:(fl++dec (fit.take k) d.xAccept).length≤460:=by rw [List.length_append,zhK,List.length_take];omega
 refine zi (fun hc=>?_) (fun hc=>?_)
 ·have hlt:k<fit.length:=by simpa using hc
  refine zp k rfl hlt (xf (jj (by simp only [List.length_singleton];omega) (zz (by omega) (by omega) (hn hlt _ ⟨by simp,by omega,?_⟩))))
  unfold dec
  rw [List.take_succ_eq_append_getElem hlt,List.map_append,← List.append_assoc];rfl
 ·have hge:fit.length≤k:=by simpa using hc
  rw [List.take_of_length_le hge]
  exact xf (zi (fun e=>h1 (by simp at e;simp;omega)) (fun e=>h2 (by simp at e;simp;omega)))
theorem zba {x:yg} {p0:yg→Prop} {p1:Xn→Prop} {p2:xZ→Prop} {p3:yd→Prop} (h:p0 x):xn.casesW (.kDeciding x) p0 p1 p2 p3:=h
theorem zgb {x:Xn} {p0:yg→Prop} {p1:Xn→Prop} {p2:xZ→Prop} {p3:yd→Prop} (h:p1 x):xn.casesW (.kCalling x) p0 p1 p2 p3:=h
theorem zdP {x:xZ} {p0:yg→Prop} {p1:Xn→Prop} {p2:xZ→Prop} {p3:yd→Prop} (h:p2 x):xn.casesW (.kReturning x) p0 p1 p2 p3:=h
theorem zfh {x:yd} {p0:yg→Prop} {p1:Xn→Prop} {p2:xZ→Prop} {p3:yd→Prop} (h:p3 x):xn.casesW (.kPassing x) p0 p1 p2 p3:=h
theorem zli {cs:List (List zr)} (hcn:Cn cs) (hs:∀ i,i<cs.length→Sf cs i) (hc5:∀ c∈cs,c.length≤8∧∀ r∈c,TsV r.xTests∧(r.xAction=3→0≤r.xChain∧r.xChain<cs.length)):∀ (n i:Nat) (boxes:List za) (out:List zq) (κ:List za×List zq×Bool→Prop),Hh cs n i→i<cs.length→aB boxes→okR boxes→IV out→out.length≤60→Cw (U cs i boxes out) κ→uw n cs out false i boxes κ:=by
 have htv:TVs cs:=fun c hc r hr=>((hc5 c hc).2 r hr).1.1
 intro n
 induction n with
 | zero=>intro i boxes out κ h;exact h.elim
 | succ n ih =>
  intro i boxes out κ hh hi hB hO hIV h60 h
  show ZO (uw n) cs out false i boxes κ
  unfold ZO
  refine zi (fun e=>?_) (fun e=>?_)
  ·have:boxes=[]:=by
    have:(boxes.length:Int)=0:=of_decide_eq_true e
    exact List.length_eq_zero_iff.1 (by omega)
   subst this
   rw [zoJ hcn hs i h60] at h
   exact h
  clear e
  obtain ⟨h8,hrv⟩:=hc5 _ (List.getElem_mem hi)
  rw [znd hcn hs i,zeV hi] at h
  have hci:=zeV hi
  refine zp i rfl hi ?_
  generalize hcc:cs[i]=c at *
  generalize hT:url (U cs) c boxes [] out=T at *
  refine zK c.length (fun s=>s.2.2.2.2) (fun k (s:List za×List zq×Bool×List za×Int)=>s.2.2.2.2=(k:Int)∧k≤c.length∧s.2.2.1=false∧(aB s.1∧zax s.1∧s.1.length≤400 * k)∧(IV s.2.1∧s.2.1.length≤60)∧(aB s.2.2.2.1∧okR s.2.2.2.1)∧T=url (U cs) (c.drop k) s.2.2.2.1 s.1 s.2.1) (fun k s h=>h.1) (fun k s h=>h.2.1) ?_ ⟨rfl,by omega,rfl,⟨zjh,zfp,by simp⟩,⟨hIV,h60⟩,⟨hB,hO⟩,hT.symm⟩
  rintro k ⟨left,fls,_,going,_⟩ next ⟨rfl,hk,rfl,⟨hlB,hlF,hll⟩,⟨hfI,hf60⟩,⟨hgB,hgO⟩,he⟩ hn
  simp only at hlB hlF hll hfI hf60 hgB hgO he
  have hl4:left.length≤3200:=by omega
  have hg4:=hgO.2
  refine zi (fun hc=>?_) (fun hc=>?_)
  ·have hlt:k<c.length:=by simpa using hc
   obtain ⟨hts,hcall⟩:=hrv _ (List.getElem_mem hlt)
   rw [List.drop_eq_getElem_cons hlt] at he
   unfold url at he
   refine xf (zp k rfl hlt (zg9 hts ?_))
   have hw:=zdI hts.1
   have hm:c[k]∈c:=List.getElem_mem hlt
   have hmc:c[k]∈chn cs i:=by rw [hci];exact hm
   generalize c[k]=r at *
   have hfB:=ziX hgB hw
   have hmB:=zbY hgB hw
   have hfl:=zdp going (Xt r.xTests)
   have hml:=zaP going (Xt r.xTests)
   refine zk5 hgB hgO.1 hg4 hw (fun o1 o2=>jK ?_) (fun q x y=>jt ?_)
   rotate_left
   ·rw [if_neg q] at he
    rw [he] at h
    exact h _ _ (by simp)
   rw [if_pos ⟨o1,o2⟩] at he
   generalize Yh going (Xt r.xTests)=fit at *
   generalize xT going (Xt r.xTests)=miss at *
   have stop:∀ o,T=none→κ ([],o,true):=fun o q=>by rw [q] at h;exact h _ _ (by simp)
   have go:∀ left' fls' going',(aB left'∧zax left'∧left'.length≤400 * (k+1))→(IV fls'∧fls'.length≤60)→(aB going'∧okR going')→T=url (U cs) (c.drop (k+1)) going' left' fls'→jh (k:Int) 1 (fun t183=>next (left',fls',false,going',t183)):=fun left' fls' going' a1 a2 a3 a4=>zz (by omega) (by omega) (hn hlt _ ⟨by simp,by omega,rfl,a1,a2,a3,a4⟩)
   have decide12:∀ a:Bool,(r.xAction=1∨r.xAction=2)→a=decide (r.xAction=1)→ym (yg.mk a) cs fls false left fit miss (fun (r68,r71,r74)=>xe cs r71 r74 r68 (fun (r75,r78)=>ifW r78 (κ ([],r71,r78)) (jh (k:Int) 1 (fun t183=>next (left,r71,r78,r75,t183))))):=by
    intro a ha hq
    subst hq
    rw [if_pos ha] at he
    refine zi0 hf60 o1.2 (fun q=>?_) (fun q=>?_)
    ·have q':60<(fls++dec fit (decide (r.xAction=1))).length:=q
     rw [if_neg (by omega)] at he
     exact U3 (fun _=>jt (stop _ he)) (fun _=>jt (stop _ he))
    ·rw [if_pos q] at he
     refine U3 (fun q2=>absurd q2 (by have:=o2.2;omega)) (fun _=>jK ?_)
     exact go _ _ _ ⟨hlB,hlF,by omega⟩ ⟨zi7 hfI (ziH hfB o1.1),q⟩ ⟨hmB,o2⟩ he
   unfold yv
   refine zi (fun e=>zba (decide12 true (.inl (of_decide_eq_true e)) (by rw [e]))) (fun e=>?_)
   have n1:¬ r.xAction=1:=of_decide_eq_false e
   refine zi (fun e2=>zba (decide12 false (.inr (of_decide_eq_true e2)) (by rw [e]))) (fun e2=>?_)
   have n2:¬ r.xAction=2:=of_decide_eq_false e2
   rw [if_neg (fun q=>q.elim n1 n2)] at he
   refine zi (fun e3=>?_) (fun e3=>?_)
   ·have h3:r.xAction=3:=of_decide_eq_true e3
    rw [if_neg (by omega),if_pos h3] at he
    obtain ⟨c0,c1⟩:=hcall h3
    obtain ⟨j,hj⟩:=Int.eq_ofNat_of_zero_le c0
    refine zgb ?_
    unfold XZ
    have hca:=zhB hmc h3 c0
    rw [hj] at he hca c1 ⊢
    refine ih j fit fls _ (hh j (by simpa using hca)) (by omega) hfB o1 hfI hf60 ?_
    have hj':((j:Int)).toNat=j:=by simp
    rw [hj'] at he
    cases hU:U cs j fit fls with
    | none =>
     rw [hU] at he
     intro l o hl
     exact zcZ (by have:=o2.2;omega) (by omega) (U3 (fun _=>jt (stop _ he)) (fun _=>jt (stop _ he)))
    | some bo =>
     obtain ⟨b,o⟩:=bo
     rw [hU] at he
     obtain ⟨u1,u2,u3,u4⟩:=znK htv j hfB o1 hfI hf60 _ _ hU
     simp only at he
     refine zmK ?_
     refine zcZ (by have:=o2.2;omega) (by have:=u2.2;omega) (U3 (fun q=>jt (stop _ ?_)) (fun q=>jK ?_))
     ·rw [if_neg (fun q2=>by have:=q2.2;omega)] at he;exact he
     ·have ok:okR (miss++b):=⟨Zd.2 ⟨o2.1,u2.1⟩,q⟩
      rw [if_pos ok] at he
      exact go _ _ _ ⟨hlB,hlF,by omega⟩ ⟨u3,u4⟩ ⟨V9.2 ⟨hmB,u1⟩,ok⟩ he
   ·have n3:¬ r.xAction=3:=of_decide_eq_false e3
    refine zi (fun e4=>?_) (fun e4=>?_)
    ·have h4:r.xAction=4:=of_decide_eq_true e4
     rw [if_pos h4] at he
     refine zdP ?_
     unfold Xr
     have:=o1.2
     refine jj (by omega) (U3 (fun q=>absurd q (by have:=o2.2;omega)) (fun _=>jK ?_))
     exact go _ _ _ ⟨V9.2 ⟨hlB,hfB⟩,Zd.2 ⟨hlF,o1.1⟩,by rw [List.length_append];omega⟩ ⟨hfI,hf60⟩ ⟨hmB,o2⟩ he
    ·have n4:¬ r.xAction=4:=of_decide_eq_false e4
     rw [if_neg n4,if_neg n3] at he
     refine zfh ?_
     unfold X2
     have:=o1.2
     refine zcZ (by have:=o2.2;omega) (by omega) (U3 (fun q=>jt (stop _ ?_)) (fun q=>jK ?_))
     ·rw [if_neg (fun q2=>by have:=q2.2;omega)] at he;exact he
     ·have ok:okR (miss++fit):=⟨Zd.2 ⟨o2.1,o1.1⟩,q⟩
      rw [if_pos ok] at he
      exact go _ _ _ ⟨hlB,hlF,by omega⟩ ⟨hfI,hf60⟩ ⟨V9.2 ⟨hmB,hfB⟩,ok⟩ he
  ·have hge:c.length≤k:=by simpa using hc
   rw [List.drop_of_length_le hge] at he
   unfold url at he
   rw [he] at h
   refine zcZ (by omega) (by omega) (U3 (fun q=>?_) (fun q=>?_))
   ·rw [if_neg (fun q2=>by have:=q2.2;omega)] at h
    exact h _ _ (by rw [List.length_append];omega)
   ·rw [if_pos ⟨Zd.2 ⟨hlF,hgO.1⟩,q⟩] at h
    exact h
noncomputable def uf (s:zD):Option (List zq):=(U s.xChains 0 [zcE] []).map (·.2)
theorem SV.c5 {s:zD} (h:SV s):∀ c∈s.xChains,c.length≤8∧∀ r∈c,TsV r.xTests∧(r.xAction=3→0≤r.xChain∧r.xChain<s.xChains.length):=fun c hc=>⟨(h.1.2 c hc).1,fun r hr=>⟨((h.1.2 c hc).2 r hr).1.1,fun h3=>⟨(((h.1.2 c hc).2 r hr).1.2.2.2.1 h3).1,((h.1.2 c hc).2 r hr).2⟩⟩⟩
theorem zf2:okR [zcE]:=⟨fun c hc=>by
 rw [List.mem_singleton] at hc;subst hc
 exact zi6 (fun f h0 h1=>by have:=zhz f h0 h1;omega),by simp⟩
theorem zhr:aB [zcE]:=fun c hc=>by rw [List.mem_singleton] at hc;subst hc;exact zhg
theorem zkI {s:zD} (h:SV s) {l:List zq} (he:uf s=some l):IV l∧l.length≤60:=by
 unfold uf at he
 cases hU:U s.xChains 0 [zcE] [] with
 | none=>rw [hU] at he;cases he
 | some bo =>
  obtain ⟨b,o⟩:=bo
  rw [hU] at he
  simp only [Option.map_some,Option.some.injEq] at he
  subst he
  have:=znK h.tvs 0 zhr zf2 zje (by simp) _ _ hU
  exact ⟨this.2.2.1,this.2.2.2⟩
theorem zgk {s:zD} (hv':SV s) {κ:List zq×Bool→Prop} (h1:∀ l,uf s=some l→κ (l,true)) (h2:uf s=none→∀ l,κ (l,false)):XM s κ:=by
 unfold XM
 refine zfk ⟨jN s.xChains+1,zli hv'.cn hv'.2.2 hv'.c5 _ 0 _ _ _ (zjM hv'.2.2 0) hv'.2.1 zhr zf2 zje (by simp) ?_⟩
 unfold uf at h1 h2
 cases hU:U s.xChains 0 [zcE] [] with
 | none=>rw [hU] at h2;exact fun l o _=>h2 rfl o
 | some bo =>
  obtain ⟨b,o⟩:=bo
  rw [hU] at h1
  exact h1 o rfl
end
section
open Go Go.Proofs
def gf (f:zq):zX:=⟨bx f.xWhere,f.xAccept⟩
theorem zfc {l:List zq} (h:IV l) (hl:l.length≤60):FV (l.map gf):=⟨by simpa using hl,fun f hf=>by
 obtain ⟨g,hg,rfl⟩:=List.mem_map.1 hf
 exact zgf.2 (h g hg)⟩
theorem znA {a:za} (h:B4 a):Bb (bx a):=⟨by simp [bx],fun x hx=>zcv h x hx⟩
theorem zgn {l:List za} (hB:aB l) (hl:l.length≤1000000) {κ:Bool→Prop} (h:κ (decide (okR l))):xx (l.map bx) κ:=by
 unfold xx
 refine zK l.length (fun s=>s) (fun k s=>s=(k:Int)∧k≤l.length∧zax (l.take k)) (fun k s h=>h.1) (fun k s h=>h.2.1) ?_ ⟨rfl,by omega,by simp [zax]⟩
 rintro k _ next ⟨rfl,hk,hv'⟩ hn
 refine zi (fun hc=>?_) (fun hc=>?_)
 ·have hlt:k<l.length:=by simpa using hc
  have hb:=hB _ (List.getElem_mem hlt)
  refine zp k rfl (by simpa using hlt) ?_
  rw [List.getElem_map]
  refine Zb (znA hb) (zi (fun e=>?_) (fun e=>?_))
  ·have:¬ BV (bx l[k]):=by simpa using e
   rw [decide_eq_false (fun q=>this (zgf.2 ⟨hb,q.1 _ (List.getElem_mem hlt)⟩))] at h;exact h
  ·have:BV (bx l[k]):=by simpa using e
   refine zz (by omega) (by omega) (hn hlt _ ⟨by simp,by omega,?_⟩)
   rw [List.take_succ_eq_append_getElem hlt]
   refine Zd.2 ⟨hv',fun c hc=>?_⟩
   rw [List.mem_singleton] at hc;subst hc;exact this.f4
 ·have hge:l.length≤k:=by simpa using hc
  rw [List.take_of_length_le hge] at hv'
  rw [show decide (okR l)=decide (((l.map bx).length:Int)≤400) from decide_eq_decide.2 ⟨fun q=>by have:=q.2;simp;omega,fun q=>⟨hv',by simp at q;omega⟩⟩] at h
  exact h
theorem Xs {l:List za} (hB:aB l) (hl:l.length≤1000000) {κ:Bool→Prop} (h1:okR l→κ true) (h2:¬ okR l→κ false):xx (l.map bx) κ:=by
 refine zgn hB hl ?_
 by_cases h:okR l
 ·rw [decide_eq_true h];exact h1 h
 ·rw [decide_eq_false h];exact h2 h
def Sw (o:UR) (κ:List jm×Bool×List zX→Prop):Prop:=match o with | some (l,out)=>κ (l.map bx,true,out.map gf) | none=>∀ l out,κ (l,false,out)
theorem zmH {l:List za} {o:List zq} {κ:List jm×Bool×List zX→Prop} (h:κ (l.map bx,true,o.map gf)):Sw (some (l,o)) κ:=h
theorem zoe {s:zD} (hv:SV s):∀ (n i:Nat) (boxes:List za) (out:List zq) (κ:List jm×Bool×List zX→Prop),Hh s.xChains n i→i<s.xChains.length→aB boxes→okR boxes→IV out→out.length≤60→Sw (U s.xChains i boxes out) κ→ZH n s i (boxes.map bx) (out.map gf) κ:=by
 have hcn:=hv.cn
 have hs:=hv.2.2
 have hc5:=hv.c5
 have htv:=hv.tvs
 intro n
 induction n with
 | zero=>intro i boxes out κ h;exact h.elim
 | succ n ih =>
  intro i boxes out κ hh hi hB hO hIV h60 h
  show Ut (ZH n) s i (boxes.map bx) (out.map gf) κ
  unfold Ut
  obtain ⟨h8,hrv⟩:=hc5 _ (List.getElem_mem hi)
  rw [znd hcn hs i,zeV hi] at h
  have hci:=zeV hi
  have ix:∀ (K:List zr→Prop),K s.xChains[i]→zI s.xChains (i:Int) K:=fun K hK=>zp i rfl hi hK
  generalize hcc:s.xChains[i]=c at *
  generalize hT:url (U s.xChains) c boxes [] out=T at *
  refine zK c.length (fun s=>s.2.2.2) (fun k (st:List zX×List jm×List jm×Int)=>st.2.2.2=(k:Int)∧k≤c.length∧∃ fls going left,st.1=fls.map gf∧st.2.1=going.map bx∧st.2.2.1=left.map bx∧(aB left∧okR left)∧(IV fls∧fls.length≤60)∧(aB going∧okR going)∧T=url (U s.xChains) (c.drop k) going left fls) (fun k s h=>h.1) (fun k s h=>h.2.1) ?_ ⟨rfl,by omega,out,boxes,[],rfl,rfl,rfl,⟨zjh,zb1⟩,⟨hIV,h60⟩,⟨hB,hO⟩,hT.symm⟩
  rintro k ⟨_,_,_,_⟩ next ⟨rfl,hk,fls,going,left,e1,e2,e3,⟨hlB,hlO⟩,⟨hfI,hf60⟩,⟨hgB,hgO⟩,he⟩ hn
  simp only at e1 e2 e3
  subst e1 e2 e3
  have hl4:=hlO.2
  have hg4:=hgO.2
  refine ix _ (zi (fun hc=>?_) (fun hc=>?_))
  ·have hlt:k<c.length:=by simpa using hc
   obtain ⟨hts,hcall⟩:=hrv _ (List.getElem_mem hlt)
   rw [List.drop_eq_getElem_cons hlt] at he
   unfold url at he
   refine ix _ (zp k rfl hlt (zi1 hts ?_))
   have hw:=zdI hts.1
   have hm:c[k]∈c:=List.getElem_mem hlt
   have hmc:c[k]∈chn s.xChains i:=by rw [hci];exact hm
   generalize c[k]=r at *
   have hfB:=ziX hgB hw
   have hmB:=zbY hgB hw
   have hfl:=zdp going (Xt r.xTests)
   have hml:=zaP going (Xt r.xTests)
   generalize Xt r.xTests=w at *
   refine zK going.length (fun s=>s.2.2) (fun j (st:List jm×List jm×Int)=>st.2.2=(j:Int)∧j≤going.length∧st.1=(Yh (going.take j) w).map bx∧st.2.1=(xT (going.take j) w).map bx) (fun k s h=>h.1) (fun k s h=>h.2.1) ?_ ⟨rfl,by omega,by simp [Yh],by simp [xT]⟩
   rintro j ⟨_,_,_⟩ next2 ⟨rfl,hj,hx,hy⟩ hn2
   simp only at hx hy
   subst hx hy
   refine zi (fun hc2=>?_) (fun hc2=>?_)
   ·have hjl:j<going.length:=by simpa using hc2
    have hbB:=hgB _ (List.getElem_mem hjl)
    have hf2:=zdp (going.take j) w
    have hm2:=zaP (going.take j) w
    rw [List.length_take] at hf2 hm2
    have ix2:∀ (K:jm→Prop),K (bx going[j])→zI (going.map bx) (j:Int) K:=fun K hK=>zp j rfl (by simpa using hjl) (by rw [List.getElem_map];exact hK)
    have ef:Yh (going.take (j+1)) w=Yh (going.take j) w++(if em4 (yc going[j] w) then [] else [yc going[j] w]):=by
     rw [List.take_succ_eq_append_getElem hjl,zbN,zdf]
    have em:xT (going.take (j+1)) w=xT (going.take j) w++YX going[j] w:=by
     rw [List.take_succ_eq_append_getElem hjl,XX,Uo]
    have hcl:=zbQ going[j] w
    have second:∀ xs,xs=(Yh (going.take (j+1)) w).map bx→zI (going.map bx) (j:Int) (fun e195=>Zt e195 (bx w) (fun r201=>jW ((xT (going.take j) w).map bx) r201 (fun _=>jh (j:Int) 1 (fun t206=>next2 (xs,(((xT (going.take j) w).map bx)++r201),t206))))):=by
     rintro _ rfl
     refine ix2 _ (zfl hbB hw (jj (by simp only [List.length_map];omega) (zz (by omega) (by omega) (hn2 hjl _ ⟨by simp,by omega,rfl,?_⟩))))
     rw [em,List.map_append]
    refine xf (xf (ix2 _ (zgG hbB hw ?_)))
    refine VX (a:=yc going[j] w) (zi (fun e=>?_) (fun e=>?_))
    ·have e':em4 (yc going[j] w)=false:=by simpa using e
     refine jj (by simp only [List.length_map,List.length_singleton];omega) (second _ ?_)
     rw [ef,e',List.map_append];rfl
    ·have e':em4 (yc going[j] w)=true:=by simpa using e
     refine second _ ?_
     rw [ef,e'];simp
   ·have hjge:going.length≤j:=by simpa using hc2
    rw [List.take_of_length_le hjge]
    have stop:∀ l o,T=none→κ (l,false,o):=fun l o q=>by rw [q] at h;exact h _ _
    refine xf (Xs hfB (by omega) (fun o1=>jK (Xs hmB (by omega) (fun o2=>jK ?_) (fun no=>jt (stop _ _ ?_)))) (fun no=>jt (jt (stop _ _ ?_))))
    rotate_left
    ·rw [if_neg (fun q=>no q.2)] at he;exact he
    ·rw [if_neg (fun q=>no q.1)] at he;exact he
    rw [if_pos ⟨o1,o2⟩] at he
    generalize Yh going w=fit at *
    generalize xT going w=miss at *
    refine zgL (fun (t:List jm×List jm×List zX)=>∃ left' going' fls',t=(List.map bx left',List.map bx going',List.map gf fls')∧aB left'∧zax left'∧left'.length≤100000∧aB going'∧going'.length≤100000∧IV fls'∧(okR going'→okR left'→fls'.length≤60→T=url (U s.xChains) (c.drop (k+1)) going' left' fls')∧(¬ (okR going'∧okR left'∧fls'.length≤60)→T=none)) ?_ ?_
    ·rintro _ ⟨left',going',fls',rfl,a1,a2,a3,a4,a5,a6,a7,a8⟩
     refine xf (Xs a4 (by omega) (fun b1=>jK (Xs a1 (by omega) (fun b2=>jK (zi (fun e=>?_) (fun e=>?_))) (fun no=>jt (jt (stop _ _ (a8 (fun q=>no q.2.1))))))) (fun no=>jt (jt (stop _ _ (a8 (fun q=>no q.1))))))
     ·have:60<fls'.length:=by have:=of_decide_eq_true e;simp only [List.length_map] at this;omega
      exact stop _ _ (a8 (fun q=>by have:=q.2.2;omega))
     ·have h6:fls'.length≤60:=by have:=of_decide_eq_false e;simp only [List.length_map] at this;omega
      exact zz (by omega) (by omega) (hn hlt _ ⟨by simp,by omega,fls',going',left',rfl,rfl,rfl,⟨a1,b2⟩,⟨a6,h6⟩,⟨a4,b1⟩,a7 b1 b2 h6⟩)
    intro K hK
    have hfl4:=o1.2
    have hml4:=o2.2
    refine zgL (fun t=>t=decide (r.xAction=1∨r.xAction=2)) ?_ (fun K2 hK2=>?_)
    rotate_left
    ·have hK2:=hK2 _ rfl
     refine zi (fun e=>?_) (fun e=>?_)
     ·rw [e];rw [decide_eq_true (.inl (of_decide_eq_true e))] at hK2;exact hK2
     ·have n1:=of_decide_eq_false e
      rw [show decide (r.xAction=2)=decide (r.xAction=1∨r.xAction=2) from decide_eq_decide.2 ⟨.inr,fun q=>q.resolve_left n1⟩];exact hK2
    rintro _ rfl
    refine zi (fun e=>?_) (fun e=>?_)
    ·have ha:=of_decide_eq_true e
     rw [if_pos ha] at he
     refine zK fit.length (fun s=>s.2) (fun j (st:List zX×Int)=>st.2=(j:Int)∧j≤fit.length∧st.1=(fls++dec (fit.take j) (decide (r.xAction=1))).map gf) (fun k s h=>h.1) (fun k s h=>h.2.1) ?_ ⟨rfl,by omega,by simp [dec]⟩
     rintro j2 ⟨_,_⟩ next3 ⟨rfl,hj2,hx2⟩ hn3
     simp only at hx2
     subst hx2
     refine zi (fun hc3=>?_) (fun hc3=>?_)
     ·have hjl:j2<fit.length:=by simpa using hc3
      refine xf (zp j2 rfl (by simpa using hjl) ?_)
      rw [List.getElem_map]
      refine jj (by simp only [List.length_map,List.length_append,zhK,List.length_take,List.length_singleton];omega) (zz (by omega) (by omega) (hn3 hjl _ ⟨by simp,by omega,?_⟩))
      simp only [dec,List.take_succ_eq_append_getElem hjl,List.map_append,List.map_cons,List.map_nil,List.append_assoc]
      rfl
     ·have hjge:fit.length≤j2:=by simpa using hc3
      rw [List.take_of_length_le hjge]
      refine hK _ ⟨left,miss,_,rfl,hlB,hlO.1,by omega,hmB,by omega,zi7 hfI (ziH hfB o1.1),fun _ _ q=>?_,fun q=>?_⟩
      ·rw [if_pos q] at he;exact he
      ·rw [if_neg (fun q2=>q ⟨o2,hlO,q2⟩)] at he;exact he
    have n12:=of_decide_eq_false e
    rw [if_neg n12] at he
    refine zi (fun e4=>?_) (fun e4=>?_)
    ·rw [if_pos (of_decide_eq_true e4)] at he
     refine jj (by simp only [List.length_map];omega) ?_
     refine hK _ ⟨left++fit,miss,fls,by rw [List.map_append],V9.2 ⟨hlB,hfB⟩,Zd.2 ⟨hlO.1,o1.1⟩,by rw [List.length_append];omega,hmB,by omega,hfI,fun _ _ _=>he,fun q=>?_⟩
     rw [he]
     exact zg2 (Nat.lt_of_not_le (fun q2=>q ⟨o2,⟨Zd.2 ⟨hlO.1,o1.1⟩,q2⟩,hf60⟩))
    ·rw [if_neg (of_decide_eq_false e4)] at he
     refine zi (fun e3=>?_) (fun e3=>?_)
     ·have h3:=of_decide_eq_true e3
      rw [if_pos h3] at he
      obtain ⟨c0,c1⟩:=hcall h3
      obtain ⟨j,hj⟩:=Int.eq_ofNat_of_zero_le c0
      have hca:=zhB hmc h3 c0
      rw [hj] at he hca c1 ⊢
      have hj':((j:Int)).toNat=j:=by simp
      rw [hj'] at he
      refine ih j fit fls _ (hh j (by simpa using hca)) (by omega) hfB o1 hfI hf60 ?_
      cases hU:U s.xChains j fit fls with
      | none =>
       rw [hU] at he
       intro l o
       exact jt (stop _ _ he)
      | some bo =>
       obtain ⟨b,o⟩:=bo
       rw [hU] at he
       obtain ⟨u1,u2,u3,u4⟩:=znK htv j hfB o1 hfI hf60 _ _ hU
       have hu4:=u2.2
       simp only at he
       refine zmH (jK (jj (by simp only [List.length_map];omega) ?_))
       refine hK _ ⟨left,miss++b,o,by rw [List.map_append],hlB,hlO.1,by omega,V9.2 ⟨hmB,u1⟩,by rw [List.length_append];omega,u3,fun q _ _=>?_,fun q=>?_⟩
       ·rw [if_pos q] at he;exact he
       ·rw [if_neg (fun q2=>q ⟨q2,hlO,u4⟩)] at he;exact he
     ·rw [if_neg (of_decide_eq_false e3)] at he
      refine jj (by simp only [List.length_map];omega) ?_
      refine hK _ ⟨left,miss++fit,fls,by rw [List.map_append],hlB,hlO.1,by omega,V9.2 ⟨hmB,hfB⟩,by rw [List.length_append];omega,hfI,fun q _ _=>?_,fun q=>?_⟩
      ·rw [if_pos q] at he;exact he
      ·rw [if_neg (fun q2=>q ⟨q2,hlO,hf60⟩)] at he;exact he
  ·have hge:c.length≤k:=by simpa using hc
   rw [List.drop_of_length_le hge] at he
   unfold url at he
   rw [he] at h
   refine jj (by simp only [List.length_map];omega) ?_
   rw [← List.map_append]
   refine Xs (V9.2 ⟨hlB,hgB⟩) (by rw [List.length_append];omega) (fun q=>?_) (fun q=>?_)
   ·rw [if_pos q] at h;exact h
   ·rw [if_neg q] at h;exact h _ _
end
section
open Go Go.Proofs
theorem zbP {s:zD} (hb:Bd s) {κ:zD→Prop} (h:κ s):Zg s κ:=by
 unfold Zg Yq
 refine V0 s.xChains id hb.1 (fun x ψ=>Z3 x ψ) (fun x ψ hx hψ=>?_) (by simpa using h) _ (fun nx xs t hh=>hh)
 obtain ⟨h1,h2⟩:=hb.2 x hx
 unfold Z3
 refine V0 x id h1 (fun y ψ=>YA y ψ) (fun y ψ hy hψ=>?_) (by simpa using hψ) _ (fun nx xs t hh=>hh)
 unfold YA
 exact jj (by have:=h2 y hy;simpa using this) hψ
theorem ziE {l:List zq} (hl:l.length≤4294967296) (hv:IV l) {κ:List zX→Prop} (h:κ (l.map gf)):Ug l κ:=by
 unfold Ug
 refine V6 0 rfl (by omega) (by omega) ?_
 exact V0 l gf hl (fun x ψ=>Xq x.xWhere (fun r=>ψ (zX.mk r x.xAccept))) (fun x ψ hx hψ=>zo6 (zoK (hv x hx).2) hψ) h _ (fun nx xs t hh=>hh)
theorem zgp {s:zD} (hb:Bd s) {κ:List zX×Bool→Prop} (h1:SV s→∀ l,uf s=some l→κ (l.map gf,true)) (h2:(SV s→uf s=none)→κ ([],false)):U5 s κ:=by
 unfold U5
 refine zbP hb (YR hb (fun b hbv=>zi (fun e=>h2 (fun q=>?_)) (fun e=>ziB ?_)))
 ·rw [hbv.2 q] at e;cases e
 have hv:SV s:=hbv.1 (by simpa using e)
 refine ⟨jN s.xChains+1,zoe hv _ 0 [zcE] [] _ (zjM hv.2.2 0) hv.2.1 zhr zf2 zje (by simp) ?_⟩
 have h1:=h1 hv
 unfold uf at h1 h2
 cases hU:U s.xChains 0 [zcE] [] with
 | none=>rw [hU] at h2;exact fun l o=>jt (h2 (fun _=>rfl))
 | some bo =>
  obtain ⟨b,o⟩:=bo
  rw [hU] at h1
  exact jK (h1 o rfl)
end
section
open Go Go.Proofs
def wdN (l:List zq):Nat→List zq
 | 0=>[]
 | k+1=>wdN l k++(match l[k]? with | some f=>if dd l k then [] else [f] | none=>[])
def wdF (l:List zq):List zq:=wdN l l.length
theorem zcT (l:List zq):∀ k,(wdN l k).length≤k∧∀ f∈wdN l k,f∈l
 | 0=>by simp [wdN]
 | k+1=>by
  obtain ⟨h1,h2⟩:=zcT l k
  unfold wdN
  cases e:l[k]? with
  | none=>simp only [List.append_nil];exact ⟨by omega,h2⟩
  | some f =>
   simp only
   split
   ·simp only [List.append_nil];exact ⟨by omega,h2⟩
   ·refine ⟨by rw [List.length_append];simp;omega,fun g hg=>?_⟩
    rcases List.mem_append.1 hg with q | q
    ·exact h2 g q
    ·rw [List.mem_singleton] at q;subst q;exact List.mem_of_getElem? e
theorem zhe (l:List zq):(wdF l).length≤l.length:=(zcT l _).1
theorem zcq {l:List zq} (h:IV l):IV (wdF l):=fun f hf=>h f ((zcT l _).2 f hf)
theorem zjG {l:List zq} {k:Nat} (hk:k<l.length) (h:dd l k=true):wdN l (k+1)=wdN l k:=by
 show wdN l k++_=_
 rw [List.getElem?_eq_getElem hk];simp [h]
theorem zls {l:List zq} {k:Nat} (hk:k<l.length) (h:dd l k=false):wdN l (k+1)=wdN l k++[l[k]]:=by
 show wdN l k++_=_
 rw [List.getElem?_eq_getElem hk];simp [h]
theorem zgl {l:List zq} (hl:l.length≤100000) (hv:IV l) {κ:List zq→Prop} (h:κ (wdF l)):XA l κ:=by
 unfold XA
 refine zlI hl hv (V6 0 rfl (by omega) (by omega) ?_)
 have rem0:znj l=((List.range l.length).drop 0).filter (dd l):=rfl
 rw [rem0]
 refine zK l.length (fun s=>s.2.2) (fun k (s:List Int×List zq×Int)=>s.2.2=(k:Int)∧k≤l.length∧s.1=(((List.range l.length).drop k).filter (dd l)).map Int.ofNat∧s.2.1=wdN l k) (fun k s h=>h.1) (fun k s h=>h.2.1) ?_ ⟨rfl,by omega,rfl,rfl⟩
 rintro k ⟨_,_,_⟩ next ⟨rfl,hk,hx,hy⟩ hn
 simp only at hx hy
 subst hx hy
 refine zi (fun hc=>?_) (fun hc=>?_)
 ·have hlt:k<l.length:=by simpa using hc
  have hd:(List.range l.length).drop k=k :: (List.range l.length).drop (k+1):=by
   rw [List.drop_eq_getElem_cons (by simpa using hlt)];simp
  have hwl:=(zcT l k).1
  have hfl:∀ m,((((List.range l.length).drop m).filter (dd l)).map Int.ofNat).length≤l.length:=fun m=>by
   rw [List.length_map]
   refine Nat.le_trans (List.length_filter_le _ _) ?_
   rw [List.length_drop,List.length_range];omega
  refine xf (zp k rfl hlt (xf ?_))
  have nxt:∀ ws,ws=wdN l (k+1)→jh (k:Int) 1 (fun t188=>next ((((List.range l.length).drop (k+1)).filter (dd l)).map Int.ofNat,ws,t188)):=fun ws hw=>zz (by omega) (by omega) (hn hlt _ ⟨by simp,by omega,rfl,hw⟩)
  have app:dd l k=false→jW (wdN l k) [l[k]] (fun _=>jh (k:Int) 1 (fun t188=>next ((((List.range l.length).drop (k+1)).filter (dd l)).map Int.ofNat,wdN l k++[l[k]],t188))):=fun q=>jj (by simp;omega) (nxt _ (zls hlt q).symm)
  by_cases q:dd l k=true
  ·have e:((List.range l.length).drop k).filter (dd l)=k :: ((List.range l.length).drop (k+1)).filter (dd l):=by rw [hd,List.filter_cons,if_pos q]
   rw [e]
   refine zi (fun _=>zp 0 rfl (by simp) ?_) (fun e2=>by simp at e2)
   refine zi (fun _=>?_) (fun e2=>by simp at e2)
   refine ⟨by omega,by simp;omega,by omega,?_⟩
   have e3:(List.take (((k :: ((List.range l.length).drop (k+1)).filter (dd l)).map Int.ofNat).length:Int).toNat ((k :: ((List.range l.length).drop (k+1)).filter (dd l)).map Int.ofNat)).drop (1:Int).toNat=(((List.range l.length).drop (k+1)).filter (dd l)).map Int.ofNat:=by
    rw [Int.toNat_natCast,List.take_length];rfl
   rw [e3]
   exact nxt _ (zjG hlt q).symm
  ·have q':dd l k=false:=by simpa using q
   have e:((List.range l.length).drop k).filter (dd l)=((List.range l.length).drop (k+1)).filter (dd l):=by rw [hd,List.filter_cons,if_neg q]
   rw [e]
   refine zi (fun e2=>?_) (fun e2=>jK (app q'))
   have hpos:0<((((List.range l.length).drop (k+1)).filter (dd l)).map Int.ofNat).length:=by have:=of_decide_eq_true e2;omega
   refine zp 0 rfl hpos ?_
   have hm:((((List.range l.length).drop (k+1)).filter (dd l)).map Int.ofNat)[0]∈(((List.range l.length).drop (k+1)).filter (dd l)).map Int.ofNat:=List.getElem_mem hpos
   obtain ⟨j,hj,ej⟩:=List.mem_map.1 hm
   have hj2:=(List.mem_filter.1 hj).1
   have hjk:k+1≤j:=by
    rw [List.mem_drop_iff_getElem] at hj2
    obtain ⟨m,_,hm2⟩:=hj2
    simp at hm2;omega
   refine zi (fun e3=>?_) (fun _=>app q')
   have e3':=of_decide_eq_true e3
   rw [← ej] at e3'
   have:(j:Int)=(k:Int):=e3'
   omega
 ·have hge:l.length≤k:=by simpa using hc
  have:k=l.length:=by omega
  subst this
  exact h
theorem zlJ {a:za} (h:B4 a):in4 a a=true:=by
 have z:∀ {l:List zj} {t:Int},St l t→xC l l t=[]:=fun {l t} hs=>by
  have hn:=zaQ hs hs
  cases e:xC l l t with
  | nil=>rfl
  | cons x r =>
   have hx:=zap hn.1 (show x∈xC l l t by rw [e];simp)
   have:=(zfa hs hs).1 hx.1
   exact absurd this.1 this.2
 obtain ⟨h0,h1,h2,h3⟩:=h
 simp [in4,zgZ,zd4,z h0,z h1,z h2,z h3]
theorem zcY {a b:List zj} {t:Int} (ha:St a t) (hb:St b t):xC a b t=[]↔∀ x,hv a x→hv b x:=by
 constructor
 ·intro h x hx
  by_cases q:hv b x
  ·exact q
  ·have:=(zfa ha hb).2 ⟨hx,q⟩
   rw [h] at this;exact absurd this (ZE _)
 ·intro h
  have hn:=zaQ ha hb
  cases e:xC a b t with
  | nil=>rfl
  | cons x r =>
   have hx:=zap hn.1 (show x∈xC a b t by rw [e];simp)
   have:=(zfa ha hb).1 hx.1
   exact absurd (h _ this.1) this.2
theorem zor {a:List zj} {t:Int} (h:St a t):a≠[]→∃ x,hv a x:=fun q=>by
 cases a with
 | nil=>exact absurd rfl q
 | cons s r=>exact ⟨s.xLo,(zap h.1 (by simp)).1⟩
theorem zm2 {a b:List zj} (h:∃ x,hv a x∧hv b x):ja a b≠[]:=fun e=>by
 obtain ⟨x,h1,h2⟩:=h
 have:=(VM a b x).2 ⟨h1,h2⟩
 rw [e] at this;exact ZE _ this
theorem zo9 {a:za}:em4 a=true↔a.x0=[]∨a.x1=[]∨a.x2=[]∨a.x3=[]:=by unfold em4;exact decide_eq_true_iff
theorem znf {a:za}:em4 a=false↔a.x0≠[]∧a.x1≠[]∧a.x2≠[]∧a.x3≠[]:=by unfold em4;rw [decide_eq_false_iff_not];simp only [not_or,ne_eq]
theorem zj4 {a b:za} (ha:B4 a) (hb:B4 b):YX a b=[]↔in4 a b=true:=by
 obtain ⟨p0,p1,p2,p3⟩:=ha
 obtain ⟨q0,q1,q2,q3⟩:=hb
 have hless:zgZ a b=zd4↔(xC a.x0 b.x0 65535=[]∧xC a.x1 b.x1 65535=[]∧xC a.x2 b.x2 255=[]∧xC a.x3 b.x3 7=[]):=by
  simp [zgZ,zd4]
 unfold YX in4
 by_cases e:em4 (yc a b)=true
 ·rw [if_pos e]
  by_cases e2:em4 a=true
  ·simp [e2]
  ·have e2':em4 a=false:=by simpa using e2
   simp only [e2',Bool.false_eq_true,if_false,Bool.false_or,decide_eq_true_eq]
   refine ⟨fun h=>by simp at h,fun h=>?_⟩
   obtain ⟨l0,l1,l2,l3⟩:=hless.1 h
   rw [zcY p0 q0] at l0
   rw [zcY p1 q1] at l1
   rw [zcY p2 q2] at l2
   rw [zcY p3 q3] at l3
   exfalso
   rw [znf] at e2'
   rw [zo9] at e
   have g:∀ {x y:List zj} {t:Int},St x t→x≠[]→(∀ v,hv x v→hv y v)→ja x y≠[]:=fun hx hne hh=>by
    obtain ⟨v,hv1⟩:=zor hx hne
    exact zm2 ⟨v,hv1,hh v hv1⟩
   rcases e with e | e | e | e
   ·exact g p0 e2'.1 l0 e
   ·exact g p1 e2'.2.1 l1 e
   ·exact g p2 e2'.2.2.1 l2 e
   ·exact g p3 e2'.2.2.2 l3 e
 ·rw [if_neg e]
  have e2:em4 a=false:=by
   have e':em4 (yc a b)=false:=by simpa using e
   rw [znf] at e' ⊢
   refine ⟨fun q=>e'.1 (by simp only [yc];rw [q];rfl),fun q=>e'.2.1 (by simp only [yc];rw [q];rfl),fun q=>e'.2.2.1 (by simp only [yc];rw [q];rfl),fun q=>e'.2.2.2 (by simp only [yc];rw [q];rfl)⟩
  simp only [e2,Bool.false_or,decide_eq_true_eq,hless]
  have hp:∀ (r:List zj) (c:za),pc r c=[]↔r=[]:=fun r c=>by unfold pc;split <;> simp [*]
  simp only [List.append_eq_nil_iff,hp,and_assoc]
def zdw (a b:za):List Nat:=(List.range 4).filter (fun n=>decide (xL a n≠xL b n))
def uni (a b:za) (n:Nat):List zj:=Yy (xL a n) (xL b n)
def mg (a b:za):Option za :=
 if in4 a b then some b else if in4 b a then some a else
 match zdw a b with
 | [n]=>if (uni a b n).length≤40 then some (UD a n (uni a b n)) else none
 | _=>none
theorem zhD {a b:za} {n:Nat} (h:zdw a b=[n]):n<4∧xL a n≠xL b n:=by
 have:n∈zdw a b:=by rw [h];simp
 obtain ⟨h1,h2⟩:=List.mem_filter.1 this
 exact ⟨by simpa using h1,by simpa using h2⟩
theorem zo2 {a b x:za} (ha:B4 a∧F4 a) (hb:B4 b∧F4 b) (h:mg a b=some x):B4 x∧F4 x:=by
 unfold mg at h
 split at h
 ·injection h with h;subst h;exact hb
 ·split at h
  ·injection h with h;subst h;exact ha
  ·split at h
   ·rename_i n hn
    obtain ⟨h4,_⟩:=zhD hn
    split at h
    ·rename_i hl
     injection h with h;subst h
     have k0:(0:Int)≤n:=by omega
     have k3:(n:Int)≤3:=by omega
     exact ⟨zjY ha.1 k0 k3 (zd8 (YD ha.1 k0 k3) (YD hb.1 k0 k3)),zi6 (zjK (zic.1 ha.2) k0 k3 hl (Nat.le_refl _))⟩
    ·cases h
   ·cases h
theorem zkb {a b:List zj} (hl:a.length≤4294967296) {κ:Bool→Prop} (h:κ (decide (a=b))):uj a b κ:=by
 unfold uj
 by_cases hab:a.length=b.length
 ·refine zi (fun e=>by simp [hab] at e) (fun _=>?_)
  exact zjQ a b hab hl (fun x y A=>ifW (!(decide (x=y))) (κ false) A) (fun x y A h1 h2=>zi (fun e=>h2 (by simpa using e)) (fun e=>h1 (by simpa using e))) h _ (fun nx t hh=>hh)
 ·rw [decide_eq_false (fun q=>hab (by rw [q]))] at h
  exact zi (fun _=>h) (fun e=>by simp at e;omega)
def V2 (a b:za) (k:Nat):List Nat:=(List.range k).filter (fun n=>decide (xL a n≠xL b n))
theorem Uh (a b:za) (k:Nat):V2 a b (k+1)=V2 a b k++(if xL a k≠xL b k then [k] else []):=by
 unfold V2
 rw [List.range_succ,List.filter_append,List.filter_cons]
 by_cases h:xL a k=xL b k <;> simp [h]
theorem zkc (a b:za):∀ k,(V2 a b k).length≤k:=fun k=>Nat.le_trans (List.length_filter_le _ _) (by simp)
def zph:Option za→za×Bool
 | some x=>(x,true)
 | none=>(zd4,false)
theorem zhm {a b:za} (ha:B4 a∧F4 a) (hb:B4 b∧F4 b) {κ:za×Bool→Prop} (h:κ (zph (mg a b))):Z1 a b κ:=by
 unfold Z1
 unfold mg at h
 refine zif ha.1 hb.1 (zi (fun e=>?_) (fun e=>zif hb.1 ha.1 (zi (fun e2=>?_) (fun e2=>?_))))
 ·rw [if_pos e] at h;exact h
 ·rw [if_neg (by simp [e]),if_pos e2] at h;exact h
 rw [if_neg (by simp [e]),if_neg (by simp [e2])] at h
 refine zK 4 (fun s=>s.2.2) (fun k (s:Int×Int×Int)=>s.2.2=(k:Int)∧k≤4∧s.2.1=((V2 a b k).length:Int)∧∀ n,(V2 a b k).getLast?=some n→s.1=(n:Int)) (fun k s h=>h.1) (fun k s h=>h.2.1) ?_ ⟨rfl,by omega,rfl,fun n hn=>by simp [V2] at hn⟩
 rintro k ⟨f,cn,_⟩ next ⟨rfl,hk,hcn,hf⟩ hn
 simp only at hcn hf
 subst hcn
 have hdl:=zkc a b k
 refine zi (fun hc=>?_) (fun hc=>?_)
 ·have hlt:k<4:=by
   have:(k:Int)<4:=of_decide_eq_true hc
   omega
  have k0:(0:Int)≤k:=by omega
  have k3:(k:Int)≤3:=by omega
  refine xf (xf (Zo k0 k3 (Zo k0 k3 (zkb (by have:=zic.1 ha.2 k k0 k3;omega) (zi (fun e=>?_) (fun e=>?_))))))
  ·have hne:xL a k≠xL b k:=by simpa using e
   refine zz (by omega) (by omega) (zz (by omega) (by omega) (hn hlt _ ⟨by simp,by omega,?_,fun n hnn=>?_⟩))
   ·rw [Uh,if_pos hne];simp
   ·rw [Uh,if_pos hne] at hnn
    simp at hnn;simp only;omega
  ·have hne:¬ xL a k≠xL b k:=by simpa using e
   refine zz (by omega) (by omega) (hn hlt _ ⟨by simp,by omega,?_,fun n hnn=>?_⟩)
   ·rw [Uh,if_neg hne];simp
   ·rw [Uh,if_neg hne,List.append_nil] at hnn
    exact hf n hnn
 ·have hge:k=4:=by
   have:¬ (k:Int)<4:=of_decide_eq_false hc
   omega
  subst hge
  have ed:V2 a b 4=zdw a b:=rfl
  rw [ed] at hf ⊢
  refine zi (fun e3=>?_) (fun e3=>?_)
  ·have h1:¬ (zdw a b).length=1:=by
    have:¬ ((zdw a b).length:Int)=1:=by simpa using e3
    omega
   have:κ (zd4,false):=by
    split at h
    ·rename_i n hn';rw [hn'] at h1;simp at h1
    ·exact h
   exact this
  ·have h1:(zdw a b).length=1:=by
    have:((zdw a b).length:Int)=1:=by simpa using e3
    omega
   obtain ⟨n,hn'⟩:=List.length_eq_one_iff.1 h1
   rw [hn'] at h hf
   have hfn:=hf n rfl
   subst hfn
   obtain ⟨h4,_⟩:=zhD hn'
   have k0:(0:Int)≤n:=by omega
   have k3:(n:Int)≤3:=by omega
   have tl:=Uk n
   refine xf (Zo k0 k3 (Zo k0 k3 (ZR k0 k3 (zho (YD ha.1 k0 k3) (YD hb.1 k0 k3) (by omega) (by omega) ?_))))
   simp only at h
   by_cases hl:(uni a b n).length≤40
   ·rw [if_pos hl] at h
    have el:lim (Yy (xL a n) (xL b n))=(uni a b n,true):=by unfold lim;rw [if_neg (by unfold uni at hl;omega)];rfl
    rw [el]
    refine jK (Zo k0 k3 ⟨_,_,_,_,zam k0 k3,h⟩)
   ·rw [if_neg hl] at h
    have el:lim (Yy (xL a n) (xL b n))=([],false):=by unfold lim;rw [if_pos (by unfold uni at hl;omega)]
    rw [el]
    exact jt h
end
section
open Go Go.Proofs
def pm (x y:zq):Option zq:=if x.xAccept=y.xAccept then (mg x.xWhere y.xWhere).map (fun w=>⟨w,x.xAccept⟩) else none
def pmA (l:List zq) (k:Nat):Option zq:=match l[k]?,l[k+1]? with | some x,some y=>pm x y | _,_=>none
def fpN (l:List zq):Nat→Option (Nat×zq)
 | 0=>none
 | n+1=>match fpN l n with | some r=>some r | none=>(pmA l n).map (fun z=>(n,z))
def fp (l:List zq):Option (Nat×zq):=fpN l l.length
def zaD (l:List zq) (k:Nat) (z:zq):List zq:=l.take k++[z]++l.drop (k+2)
def mgN:Nat→List zq→List zq
 | 0,l=>l
 | n+1,l=>match fp l with | none=>l | some (k,z)=>mgN n (zaD l k z)
def mgF (l:List zq):List zq:=mgN l.length l
theorem zdS {l:List zq} {k:Nat} {z:zq} (h:pmA l k=some z):k+1<l.length:=by
 unfold pmA at h
 split at h
 ·rename_i x y h1 h2;exact (List.getElem?_eq_some_iff.1 h2).1
 ·cases h
theorem zma {l:List zq} {k:Nat} (h:l.length≤k+1):pmA l k=none:=by
 cases e:pmA l k with
 | none=>rfl
 | some z=>have:=zdS e;omega
theorem zhd {l:List zq} {k:Nat} (h:k+1<l.length):pmA l k=pm l[k] l[k+1]:=by
 unfold pmA
 rw [List.getElem?_eq_getElem (by omega:k<l.length),List.getElem?_eq_getElem h]
theorem zf7 {l:List zq}:∀ {n:Nat},(∀ j,j<n→pmA l j=none)→fpN l n=none
 | 0,_=>rfl
 | n+1,h=>by
  unfold fpN
  rw [zf7 (fun j hj=>h j (by omega))]
  simp [h n (by omega)]
theorem zih {l:List zq} {k:Nat} {z:zq} (h1:∀ j,j<k→pmA l j=none) (h2:pmA l k=some z):∀ {n:Nat},k<n→fpN l n=some (k,z)
 | 0,h=>by omega
 | n+1,h=>by
  unfold fpN
  by_cases e:k=n
  ·subst e;rw [zf7 h1,h2];rfl
  ·rw [zih h1 h2 (by omega)]
theorem zjX {l:List zq} (h:∀ j,pmA l j=none):fp l=none:=zf7 (fun j _=>h j)
theorem zeR {l:List zq} {k:Nat} {z:zq} (h1:∀ j,j<k→pmA l j=none) (h2:pmA l k=some z):fp l=some (k,z):=zih h1 h2 (by have:=zdS h2;omega)
theorem zb5 {l:List zq} {k:Nat} {z:zq} (h:k+1<l.length):(zaD l k z).length=l.length - 1:=by
 unfold zaD
 simp only [List.length_append,List.length_take,List.length_singleton,List.length_drop];omega
theorem zib {l:List zq} (h:∀ j,pmA l j=none):mgF l=l:=by
 unfold mgF
 cases e:l.length with
 | zero=>rfl
 | succ n=>unfold mgN;rw [zjX h]
theorem zh4 {l:List zq} {k:Nat} {z:zq} (h1:∀ j,j<k→pmA l j=none) (h2:pmA l k=some z):mgF l=mgF (zaD l k z):=by
 have hk:=zdS h2
 have hl:=zb5 (z:=z) hk
 unfold mgF
 rw [hl]
 obtain ⟨n,hn⟩:∃ n,l.length=n+1:=⟨l.length - 1,by omega⟩
 rw [hn]
 conv=>lhs;unfold mgN
 rw [zeR h1 h2]
 rfl
theorem zoH {x y z:zq} (hx:B4 x.xWhere∧F4 x.xWhere) (hy:B4 y.xWhere∧F4 y.xWhere) (h:pm x y=some z):(B4 z.xWhere∧F4 z.xWhere)∧z.xAccept=x.xAccept:=by
 unfold pm at h
 split at h
 ·cases e:mg x.xWhere y.xWhere with
  | none=>rw [e] at h;cases h
  | some w =>
   rw [e] at h
   simp only [Option.map_some,Option.some.injEq] at h
   subst h
   exact ⟨zo2 hx hy e,rfl⟩
 ·cases h
theorem zfF {l:List zq} {k:Nat} {z:zq} (h:IV l) (h2:pmA l k=some z):IV (zaD l k z):=by
 have hk:=zdS h2
 rw [zhd hk] at h2
 have hz:=zoH (h _ (List.getElem_mem (by omega))) (h _ (List.getElem_mem hk)) h2
 intro f hf
 unfold zaD at hf
 rcases List.mem_append.1 hf with q | q
 ·rcases List.mem_append.1 q with q | q
  ·exact h f (List.mem_of_mem_take q)
  ·rw [List.mem_singleton] at q;subst q;exact hz.1
 ·exact h f (List.mem_of_mem_drop q)
theorem zjb:∀ (n:Nat) {l:List zq},IV l→IV (mgN n l)∧(mgN n l).length≤l.length
 | 0,l,h=>⟨h,Nat.le_refl _⟩
 | n+1,l,h=>by
  unfold mgN
  cases e:fp l with
  | none=>exact ⟨h,Nat.le_refl _⟩
  | some kz =>
   obtain ⟨k,z⟩:=kz
   have hkz:pmA l k=some z:=by
    have:∀ n,fpN l n=some (k,z)→pmA l k=some z:=by
     intro n
     induction n with
     | zero=>intro q;cases q
     | succ n ih =>
      intro q
      unfold fpN at q
      cases e2:fpN l n with
      | some r=>rw [e2] at q;simp only [Option.some.injEq] at q;subst q;exact ih e2
      | none =>
       rw [e2] at q
       cases e3:pmA l n with
       | none=>rw [e3] at q;cases q
       | some z' =>
        rw [e3] at q
        simp only [Option.map_some,Option.some.injEq,Prod.mk.injEq] at q
        obtain ⟨rfl,rfl⟩:=q
        exact e3
    exact this _ e
   have ih:=zjb n (zfF h hkz)
   have hl:=zb5 (z:=z) (zdS hkz)
   exact ⟨ih.1,by have:=ih.2;simp only;omega⟩
theorem zlj {l:List zq} (h:IV l):IV (mgF l):=(zjb _ h).1
theorem zhH {l:List zq} (h:IV l):(mgF l).length≤l.length:=(zjb _ h).2
theorem zm6 {l:List zq} (hl:l.length≤4294967296) {κ:List zq→Prop} (h:κ l):uh l κ:=by
 unfold uh
 refine ⟨fun _=>jK (jj (by simpa using hl) h),fun e=>?_⟩
 subst e
 exact ⟨jt h,jK (jj (by simp) h)⟩
theorem zlb {l:List zq} {i:Nat} (h:i+2≤l.length) {κ:List zq→Prop} (hκ:κ (l.take (i+1)++l.drop (i+2))):ud l ((i:Int)+1) ((i:Int)+2) κ:=by
 refine ⟨by omega,by omega,by omega,?_⟩
 rw [show ((i:Int)+1).toNat=i+1 by omega,show ((i:Int)+2).toNat=i+2 by omega]
 exact hκ
theorem zmM {l:List zq} {i:Nat} (h:i+1<l.length) (z:zq):(l.set i z).take (i+1)++(l.set i z).drop (i+2)=zaD l i z:=by
 unfold zaD
 rw [List.take_succ_eq_append_getElem (by simp;omega),List.take_set_of_le (by omega),List.drop_set_of_lt (by omega)]
 simp
theorem zkm {l:List zq} {i j:Nat} {z:zq} (h:i+1<l.length) (hj:j+1<i):pmA (zaD l i z) j=pmA l j:=by
 unfold pmA
 have e:∀ m,m<i→(zaD l i z)[m]?=l[m]?:=fun m hm=>by
  unfold zaD
  rw [List.append_assoc,List.getElem?_append_left (by rw [List.length_take];omega),List.getElem?_take,if_pos hm]
 rw [e j (by omega),e (j+1) hj]
theorem zcQ {l:List zq} (hl:l.length≤100000) (hv:IV l) {κ:List zq→Prop} (h:κ (mgF l)):Zm l κ:=by
 unfold Zm
 refine zm6 (by omega) ?_
 refine yE (fun (s:List zq×Int)=>∃ i:Nat,s.2=(i:Int)∧i≤s.1.length∧s.1.length≤100000∧IV s.1∧(∀ j,j<i→pmA s.1 j=none)∧mgF s.1=mgF l) (fun s=>2 * s.1.length - s.2.toNat) ?_ ⟨0,rfl,by omega,hl,hv,fun j hj=>by omega,rfl⟩
 rintro ⟨xs,_⟩ next ⟨i,rfl,hi,hxl,hxv,hno,hm⟩ hn
 simp only at hi hxl hxv hno hm hn
 refine zz (by omega) (by omega) (zi (fun hc=>?_) (fun hc=>?_))
 ·have hlt:i+1<xs.length:=by have:=of_decide_eq_true hc;omega
  have hxi:=hxv _ (List.getElem_mem (show i<xs.length by omega))
  have hxj:=hxv _ (List.getElem_mem hlt)
  have hpm:=zhd hlt
  have w64e:w64 ((i:Int)+1)=((i+1:Nat):Int):=by rw [ziJ (by omega) (by omega)];omega
  have stepNo:pmA xs i=none→jh (i:Int) 1 (fun t153=>next (xs,t153)):=fun q=>zz (by omega) (by omega) (hn _ ⟨i+1,by simp,by simp only;omega,hxl,hxv,fun j hj=>by
   by_cases e:j=i
   ·subst e;exact q
   ·exact hno j (by omega),hm⟩ (by simp only;omega))
  have stepYes:∀ w:za,pmA xs i=some ⟨w,xs[i].xAccept⟩→zI xs (i:Int) (fun e174=>jh (i:Int) 1 (fun t189=>jh (i:Int) 2 (fun t190=>ud (xs.set ((i:Int)).toNat (zq.mk w e174.xAccept)) t189 t190 (fun r191=>Ur (i:Int) 1 (fun t194=>next (r191,(max t194 0))))))):=fun w q=>by
   refine zp i rfl (by omega) (zz (by omega) (by omega) (zz (by omega) (by omega) ?_))
   rw [Int.toNat_natCast]
   refine zlb (by rw [List.length_set];omega) ?_
   rw [zmM hlt]
   have hml:=zb5 (l:=xs) (k:=i) (z:=⟨w,xs[i].xAccept⟩) hlt
   refine ZY (by omega) (by omega) (hn _ ⟨i - 1,by simp only;omega,by simp only;omega,by simp only;omega,zfF hxv q,fun j hj=>?_,?_⟩ (by simp only;omega))
   ·rw [zkm hlt (by omega)];exact hno j (by omega)
   ·rw [← zh4 hno q];exact hm
  refine xf (zp i rfl (by omega) (zz (by omega) (by omega) (zp (i+1) (by omega) hlt (zi (fun e=>?_) (fun e=>?_)))))
  ·have ea:xs[i].xAccept=xs[i+1].xAccept:=of_decide_eq_true e
   unfold pm at hpm
   rw [if_pos ea] at hpm
   rw [w64e]
   refine xf (zp i rfl (by omega) (zp (i+1) rfl hlt (zhm hxi hxj ?_)))
   cases em:mg xs[i].xWhere xs[i+1].xWhere with
   | none =>
    rw [em] at hpm
    exact jt (stepNo hpm)
   | some w =>
    rw [em] at hpm
    exact jK ⟨w.x0,w.x1,w.x2,w.x3,rfl,stepYes w hpm⟩
  ·have ea:¬ xs[i].xAccept=xs[i+1].xAccept:=of_decide_eq_false e
   unfold pm at hpm
   rw [if_neg ea] at hpm
   exact jt (stepNo hpm)
 ·have hge:xs.length≤i+1:=by have:=of_decide_eq_false hc;omega
  have:mgF xs=xs:=zib (fun j=>by
   by_cases e:j<i
   ·exact hno j e
   ·exact zma (by omega))
  rw [← hm,this] at h
  exact h
def trN (l:List zq) (rest:Bool):Nat→Nat
 | 0=>0
 | n+1=>if (match l[n]? with | some f=>decide (f.xAccept=rest) | none=>false) then trN l rest n else n+1
def trF (l:List zq) (rest:Bool):List zq:=l.take (trN l rest l.length)
theorem zmZ (l:List zq) (rest:Bool):(trF l rest).length≤l.length:=by unfold trF;rw [List.length_take];omega
theorem znH {l:List zq} {rest:Bool} (h:IV l):IV (trF l rest):=fun f hf=>h f (List.mem_of_mem_take hf)
theorem zko {l:List zq} {rest:Bool} (hl:l.length≤100000) {κ:List zq→Prop} (h:κ (trF l rest)):UE l rest κ:=by
 unfold UE
 refine yE (fun (s:Int)=>∃ n:Nat,s=(n:Int)∧n≤l.length∧trN l rest l.length=trN l rest n) (fun s=>s.toNat) ?_ ⟨l.length,rfl,Nat.le_refl _,rfl⟩
 rintro _ next ⟨n,rfl,hn',he⟩ hnx
 have fin:trN l rest n=n→X3 l 0 (n:Int) (fun xs73=>κ xs73):=fun q=>by
  refine ⟨by omega,by omega,by omega,?_⟩
  unfold trF at h
  rw [he,q] at h
  simpa using h
 refine xf (zi (fun e=>?_) (fun e=>jK (fin ?_)))
 ·have hpos:0<n:=by have:=of_decide_eq_true e;omega
  obtain ⟨m,rfl⟩:∃ m,n=m+1:=⟨n - 1,by omega⟩
  have hlt:m<l.length:=by omega
  have em:((m+1:Nat):Int) - 1=(m:Int):=by omega
  refine ZY (by omega) (by omega) ?_
  rw [em]
  refine zp m rfl hlt (zi (fun e2=>?_) (fun e2=>fin ?_))
  ·have e2':l[m].xAccept=rest:=of_decide_eq_true e2
   refine ZY (by omega) (by omega) (hnx _ ⟨m,by omega,by omega,?_⟩ (by omega))
   rw [he]
   conv=>lhs;unfold trN
   rw [List.getElem?_eq_getElem hlt]
   simp [e2']
  ·have e2':¬ l[m].xAccept=rest:=of_decide_eq_false e2
   unfold trN
   rw [List.getElem?_eq_getElem hlt]
   simp [e2']
 ·have:n=0:=by have:=of_decide_eq_false e;omega
  subst this;rfl
def sh1 (l:List zq) (rest:Bool):List zq:=trF (mgF (wdF l)) rest
theorem zcB {l:List zq} {rest:Bool} (h:IV l):IV (sh1 l rest):=znH (zlj (zcq h))
theorem VD {l:List zq} {rest:Bool} (h:IV l):(sh1 l rest).length≤l.length:=Nat.le_trans (zmZ _ _) (Nat.le_trans (zhH (zcq h)) (zhe l))
def shN (rest:Bool):Nat→List zq→List zq
 | 0,l=>sh1 l rest
 | n+1,l=>if (sh1 l rest).length=l.length then sh1 l rest else shN rest n (sh1 l rest)
def shF (l:List zq) (rest:Bool):List zq:=shN rest l.length l
theorem ziG {rest:Bool}:∀ {n:Nat} {l:List zq},IV l→IV (shN rest n l)∧(shN rest n l).length≤l.length
 | 0,l,h=>⟨zcB h,VD h⟩
 | n+1,l,h=>by
  unfold shN
  split
  ·exact ⟨zcB h,VD h⟩
  ·have:=ziG (rest:=rest) (n:=n) (zcB (rest:=rest) h)
   exact ⟨this.1,Nat.le_trans this.2 (VD h)⟩
theorem zod {l:List zq} {rest:Bool} (h:IV l):IV (shF l rest):=(ziG h).1
theorem zmW {l:List zq} {rest:Bool} (h:IV l):(shF l rest).length≤l.length:=(ziG h).2
theorem zhR {rest:Bool}:∀ {n m:Nat} {l:List zq},IV l→l.length≤n→l.length≤m→shN rest n l=shN rest m l
 | 0,0,l,_,_,_=>rfl
 | 0,m+1,l,h,h1,h2=>by
  have:=VD (rest:=rest) h
  unfold shN
  rw [if_pos (by omega)]
 | n+1,0,l,h,h1,h2=>by
  have:=VD (rest:=rest) h
  conv=>lhs;unfold shN
  rw [if_pos (by omega)]
  rfl
 | n+1,m+1,l,h,h1,h2=>by
  have:=VD (rest:=rest) h
  conv=>lhs;unfold shN
  conv=>rhs;unfold shN
  split
  ·rfl
  ·exact zhR (zcB h) (by omega) (by omega)
theorem zjV {l:List zq} {rest:Bool} (h:IV l):shF l rest=if (sh1 l rest).length=l.length then sh1 l rest else shF (sh1 l rest) rest:=by
 have:=VD (rest:=rest) h
 unfold shF
 cases e:l.length with
 | zero =>
  rw [e] at this
  rw [if_pos (by omega)];rfl
 | succ n =>
  conv=>lhs;unfold shN
  rw [e]
  split
  ·rfl
  ·exact zhR (zcB h) (by omega) (Nat.le_refl _)
theorem zg6 {l:List zq} {rest:Bool} (hl:l.length≤100000) (hv:IV l) {κ:List zq→Prop} (h:κ (shF l rest)):X9 l rest κ:=by
 unfold X9
 refine yE (fun (s:List zq)=>s.length≤100000∧IV s∧shF s rest=shF l rest) (fun s=>s.length) ?_ ⟨hl,hv,rfl⟩
 rintro xs next ⟨hx,hxv,he⟩ hn
 have w1:=zhe xs
 have w2:=zhH (zcq hxv)
 have w3:=VD (rest:=rest) hxv
 refine zgl hx hxv (zcQ (by omega) (zcq hxv) (zko (by omega) ?_))
 have hf:=zjV (rest:=rest) hxv
 refine zi (fun e=>?_) (fun e=>?_)
 ·have e':((sh1 xs rest).length:Int)=(xs.length:Int):=of_decide_eq_true e
  rw [if_pos (by omega)] at hf
  rw [← he,hf] at h;exact h
 ·have e':¬ ((sh1 xs rest).length:Int)=(xs.length:Int):=of_decide_eq_false e
  rw [if_neg (by omega)] at hf
  exact hn (sh1 xs rest) ⟨by omega,zcB hxv,by rw [← hf];exact he⟩ (by omega)
noncomputable def cf (s:zD):Option (List zq):=(uf s).map (fun l=>shF l s.xAccept)
theorem znq {s:zD} (h:SV s) {l:List zq} (he:cf s=some l):IV l∧l.length≤60:=by
 unfold cf at he
 cases e:uf s with
 | none=>rw [e] at he;cases he
 | some u =>
  rw [e] at he
  simp only [Option.map_some,Option.some.injEq] at he
  subst he
  obtain ⟨u1,u2⟩:=zkI h e
  exact ⟨zod u1,Nat.le_trans (zmW u1) u2⟩
theorem zfC {s:zD} (hb:Bd s) {κ:List zq×Bool→Prop} (h1:SV s→∀ l,cf s=some l→κ (l,true)) (h2:(SV s→cf s=none)→κ ([],false)):Xf s κ:=by
 unfold Xf
 refine YS hb (fun b hbv=>zi (fun e=>h2 (fun q=>?_)) (fun e=>?_))
 ·rw [hbv.2 q] at e;cases e
 have hv:SV s:=hbv.1 (by simpa using e)
 refine zgk hv (fun l hl=>jK ?_) (fun hn l=>jt (h2 (fun _=>by unfold cf;rw [hn];rfl)))
 obtain ⟨u1,u2⟩:=zkI hv hl
 exact zg6 (by omega) u1 (h1 hv _ (by unfold cf;rw [hl];rfl))
theorem zfV {s:zD} (hb:Bd s) {κ:List zX×Bool→Prop} (h1:SV s→∀ l,cf s=some l→κ (l.map gf,true)) (h2:(SV s→cf s=none)→κ ([],false)):Yx s κ:=by
 unfold Yx
 refine zfC hb (fun hv l hl=>jK ?_) (fun q=>jt (h2 q))
 obtain ⟨u1,u2⟩:=znq hv hl
 exact ziE (by omega) u1 (h1 hv l hl)
end
section
open Go Go.Proofs
def zpj:Option (List za)→List jm×Bool
 | some l=>(l.map bx,true)
 | none=>([],false)
theorem zkA {a:za} {bs:List za} (ha:B4 a) (hb:aB bs) (hl:bs.length≤100000) {κ:List jm×Bool→Prop} (h:κ (zpj (zbR a bs))):UL (bx a) (bs.map bx) κ:=by
 unfold UL
 have start:∀ l0:List za,zbR a bs=lgo l0 bs→aB l0→l0.length≤400→z8 (fun (nx88:((List jm)×Int)→Prop) ((xs84,t87):((List jm)×Int))=>ifW (decide (t87<((bs.map bx).length:Int))) (z8 (fun (nx97:((List jm)×Int)→Prop) ((xs93,t96):((List jm)×Int))=>ifW (decide (t96<(xs84.length:Int))) (zI xs84 t96 (fun e98=>zI (bs.map bx) t87 (fun e100=>Zt e98 e100 (fun r112=>jW xs93 r112 (fun _=>jh t96 1 (fun t117=>nx97 ((xs93++r112),t117))))))) (xx xs93 (fun r118=>ifW (!r118) (κ ([],false)) (jh t87 1 (fun t122=>nx88 (xs93,t122)))))) ([],0)) (κ (xs84,true))) (l0.map bx,0):=by
  intro l0 h0 hB0 hl0
  refine zK bs.length (fun s=>s.2) (fun k (s:List jm×Int)=>s.2=(k:Int)∧k≤bs.length∧∃ left,s.1=left.map bx∧aB left∧left.length≤400∧zbR a bs=lgo left (bs.drop k)) (fun k s h=>h.1) (fun k s h=>h.2.1) ?_ ⟨rfl,by omega,l0,rfl,hB0,hl0,h0⟩
  rintro k ⟨_,_⟩ next ⟨rfl,hk,left,hx,hB,hll,he⟩ hn
  simp only at hx
  subst hx
  refine zi (fun hc=>?_) (fun hc=>?_)
  rotate_left
  ·have hge:bs.length≤k:=by simpa using hc
   rw [he,List.drop_of_length_le hge] at h
   exact h
  have hlt:k<bs.length:=by simpa using hc
  rw [List.drop_eq_getElem_cons hlt] at he
  have hbk:=hb _ (List.getElem_mem hlt)
  refine zK left.length (fun s=>s.2) (fun j (s:List jm×Int)=>s.2=(j:Int)∧j≤left.length∧s.1=(xT (left.take j) bs[k]).map bx) (fun k s h=>h.1) (fun k s h=>h.2.1) ?_ ⟨rfl,by omega,by simp [xT]⟩
  rintro j ⟨_,_⟩ next2 ⟨rfl,hj,hx⟩ hn2
  simp only at hx
  subst hx
  have hsl:=zaP (left.take j) bs[k]
  rw [List.length_take] at hsl
  refine zi (fun hc2=>?_) (fun hc2=>?_)
  ·have hjl:j<left.length:=by simpa using hc2
   refine zp j rfl (by simpa using hjl) (zp k rfl (by simpa using hlt) ?_)
   rw [List.getElem_map,List.getElem_map]
   have hcl:=zbQ left[j] bs[k]
   refine zfl (hB _ (List.getElem_mem hjl)) hbk (jj (by simp only [List.length_map];omega) (zz (by omega) (by omega) (hn2 hjl _ ⟨by simp,by omega,?_⟩)))
   rw [List.take_succ_eq_append_getElem hjl,XX,Uo,List.map_append]
  ·have hjge:left.length≤j:=by simpa using hc2
   rw [List.take_of_length_le hjge] at hsl ⊢
   unfold lgo at he
   refine Xs (zbY hB hbk) (by omega) (fun ok=>?_) (fun no=>?_)
   ·rw [if_pos ok] at he
    exact jK (zz (by omega) (by omega) (hn hlt _ ⟨by simp,by omega,xT left bs[k],rfl,zbY hB hbk,ok.2,he⟩))
   ·rw [if_neg no] at he
    rw [he] at h
    exact jt h
 refine xf (VX (zi (fun e=>?_) (fun e=>?_)))
 ·refine jj (by simp) (start [a] ?_ (fun c hc=>by rw [List.mem_singleton] at hc;subst hc;exact ha) (by simp))
  unfold zbR;rw [if_neg (by simpa using e)]
 ·refine start [] ?_ zjh (by simp)
  unfold zbR;rw [if_pos (by simpa using e),zg0]
theorem zeb {l:List zq} (hv:IV l) (hl:l.length≤60) {κ:List jm→Prop} (h:κ ((whs l).map bx)):YB (l.map gf) κ:=by
 have hF:=zfc hv hl
 unfold YB
 refine ZQ hF.fb ?_
 refine zK l.length (fun s=>s.2) (fun k (s:List jm×Int)=>s.2=(k:Int)∧k≤l.length∧s.1=(whs (l.take k)).map bx) (fun k s h=>h.1) (fun k s h=>h.2.1) ?_ ⟨rfl,by omega,rfl⟩
 rintro k ⟨_,_⟩ next ⟨rfl,hk,hx⟩ hn
 simp only at hx
 subst hx
 refine xf (zi (fun hc=>?_) (fun hc=>jK ?_))
 ·have hlt:k<l.length:=by simpa using hc
  refine yS hF.fb ?_
  rw [decide_eq_true hF]
  refine jt (zp k rfl (by simpa using hlt) ?_)
  rw [List.getElem_map]
  refine jj (by simp [whs];omega) (zz (by omega) (by omega) (hn hlt _ ⟨by simp,by omega,?_⟩))
  simp only [whs,List.take_succ_eq_append_getElem hlt,List.map_append]
  rfl
 ·have hge:l.length≤k:=by simpa using hc
  rw [List.take_of_length_le hge];exact h
theorem zkp {l:List zq} (hv:IV l) (hl:l.length≤60) {k:Nat} (hk:k<l.length) {κ:Bool→Prop} (h:κ (dd l k)):UK (l.map gf) k κ:=by
 unfold UK
 refine zp k rfl (by simpa using hk) ?_
 rw [List.getElem_map]
 refine ⟨by omega,by omega,by simp;omega,?_⟩
 have e:((l.map gf).take (k:Int).toNat).drop (0:Int).toNat=(l.take k).map gf:=by simp [List.map_take]
 rw [e]
 refine zeb (hv.take k) (by rw [List.length_take];omega) ?_
 have hk2:=hv _ (List.getElem_mem hk)
 refine zkA hk2.1 (hv.take k).aB (by unfold whs;simp;omega) ?_
 have hd:=zm7 hk
 unfold zlK at hd
 cases hlr:zbR l[k].xWhere (whs (l.take k)) with
 | none =>
  rw [hlr] at hd
  have:dd l k=false:=by rw [hd];simp
  rw [this] at h
  exact xf (jK h)
 | some r =>
  rw [hlr] at hd
  refine xf (jt ?_)
  have e2:decide (((r.map bx).length:Int)=0)=dd l k:=by
   rw [hd]
   refine decide_eq_decide.2 ⟨fun q=>?_,fun q=>?_⟩
   ·rw [List.length_eq_zero_iff.1 (show r.length=0 by simp only [List.length_map] at q;omega)]
   ·injection q with q;subst q;rfl
  rw [e2];exact h
theorem ziN {l:List zq} (hv:IV l) (hl:l.length≤60) {κ:List zX→Prop} (h:κ ((wdF l).map gf)):Y6 (l.map gf) κ:=by
 have hF:=zfc hv hl
 unfold Y6
 refine ZQ hF.fb ?_
 refine zK l.length (fun s=>s.2.2) (fun k (s:List zX×List zX×Int)=>s.2.2=(k:Int)∧k≤l.length∧s.1=l.map gf∧s.2.1=(wdN l k).map gf) (fun k s h=>h.1) (fun k s h=>h.2.1) ?_ ⟨rfl,by omega,rfl,rfl⟩
 rintro k ⟨_,_,_⟩ next ⟨rfl,hk,hx,hy⟩ hn
 simp only at hx hy
 subst hx hy
 have hwl:=(zcT l k).1
 refine xf (zi (fun hc=>?_) (fun hc=>jK ?_))
 ·have hlt:k<l.length:=by simpa using hc
  refine yS hF.fb ?_
  rw [decide_eq_true hF]
  refine jt (xf (zkp hv hl hlt (zi (fun e=>?_) (fun e=>?_))))
  ·have hd:dd l k=false:=by simpa using e
   refine zp k rfl (by simpa using hlt) ?_
   rw [List.getElem_map]
   refine jj (by simp;omega) (zz (by omega) (by omega) (hn hlt _ ⟨by simp,by omega,rfl,?_⟩))
   rw [zls hlt hd,List.map_append];rfl
  ·have hd:dd l k=true:=by simpa using e
   refine zz (by omega) (by omega) (hn hlt _ ⟨by simp,by omega,rfl,?_⟩)
   rw [zjG hlt hd]
 ·have hge:l.length≤k:=by simpa using hc
  have:k=l.length:=by omega
  subst this
  exact h
theorem zaI {a b:za} (ha:B4 a∧F4 a) (hb:B4 b∧F4 b) {κ:Bool→Prop} (h:κ (in4 a b)):Xi (bx a) (bx b) κ:=by
 unfold Xi
 have va:BV (bx a):=zgf.2 ha
 have vb:BV (bx b):=zgf.2 hb
 refine xf (Zb va.bb ?_)
 rw [decide_eq_true va]
 refine jt (Zb vb.bb ?_)
 rw [decide_eq_true vb]
 refine jt (zfl ha.1 hb.1 ?_)
 have e:decide ((((YX a b).map bx).length:Int)=0)=in4 a b:=by
  have:=zj4 ha.1 hb.1
  cases hi:in4 a b with
  | true=>rw [this.2 hi];rfl
  | false =>
   refine decide_eq_false (fun q=>?_)
   have:YX a b=[]:=List.length_eq_zero_iff.1 (by simp only [List.length_map] at q;omega)
   rw [(zj4 ha.1 hb.1).1 this] at hi;cases hi
 rw [e];exact h
theorem zkt {a b:List zj} (hl:a.length≤4294967296) {κ:Bool→Prop} (h:κ (decide (a=b))):UA a b κ:=by
 unfold UA
 by_cases hab:a.length=b.length
 ·refine zi (fun e=>by simp [hab] at e) (fun _=>?_)
  exact zjQ a b hab hl (fun x y A=>ifW (!(decide (x=y))) (κ false) A) (fun x y A h1 h2=>zi (fun e=>h2 (by simpa using e)) (fun e=>h1 (by simpa using e))) h _ (fun nx t hh=>hh)
 ·rw [decide_eq_false (fun q=>hab (by rw [q]))] at h
  exact zi (fun _=>h) (fun e=>by simp at e;omega)
theorem zds {a b:List zj} {tp:Int} (h0:0≤tp) (h1:tp≤65535) (ha:SpV a tp) (hb:SpV b tp) {κ:List zj→Prop} (h:κ (if (Yy a b).length≤40 then Yy a b else [])):Ya a b tp κ:=by
 unfold Ya
 have la:=ha.1
 have lb:=hb.1
 refine xf (UF (by omega) h0 h1 ?_)
 rw [decide_eq_true ha]
 refine jK (UF (by omega) h0 h1 ?_)
 rw [decide_eq_true hb]
 refine jK (jj (by simp;omega) ?_)
 have stp:∀ k,St ((b.take k).foldl zdq a) tp:=fun k=>zd8 ha.2 ⟨⟨fun s hs=>hb.2.1.1 s (List.mem_of_mem_take hs),hb.2.1.2.sublist (List.take_sublist _ _)⟩,fun s hs=>hb.2.2 s (List.mem_of_mem_take hs)⟩
 refine zK b.length (fun s=>s.2) (fun k (s:List zj×Int)=>s.2=(k:Int)∧k≤b.length∧s.1=(b.take k).foldl zdq a) (fun k s h=>h.1) (fun k s h=>h.2.1) ?_ ⟨rfl,by omega,by simp⟩
 rintro k ⟨_,_⟩ next ⟨rfl,hk,hx⟩ hn
 simp only at hx
 subst hx
 have hln:=zeh (b.take k) a
 rw [List.length_take] at hln
 refine zi (fun hc=>?_) (fun hc=>?_)
 ·have hlt:k<b.length:=by simpa using hc
  have hs:=hb.2.2 _ (List.getElem_mem hlt)
  have hs2:=hb.2.1.1 _ (List.getElem_mem hlt)
  refine zp k rfl hlt (zmP (by omega) (fun s hs'=>?_) ?_ (zz (by omega) (by omega) (hn hlt _ ⟨by simp,by omega,?_⟩)))
  ·have q1:=(stp k).2 s hs'
   have q2:=(stp k).1.1 s hs'
   unfold Sm;omega
  ·unfold Sm;omega
  ·rw [List.take_succ_eq_append_getElem hlt,List.foldl_append];rfl
 ·have hge:b.length≤k:=by simpa using hc
  rw [List.take_of_length_le hge]
  refine zi (fun e=>?_) (fun e=>?_)
  ·have:¬ (Yy a b).length≤40:=by have:=of_decide_eq_true e;unfold Yy;omega
   rw [if_neg this] at h;exact h
  ·have:(Yy a b).length≤40:=by have:=of_decide_eq_false e;unfold Yy;omega
   rw [if_pos this] at h;exact h
def msp:Option za→jm×Bool
 | some x=>(bx x,true)
 | none=>(⟨[]⟩,false)
theorem zkR {a b:za} (h:∀ n:Nat,n<4→xL a n=xL b n):a=b:=by
 have h0:a.x0=b.x0:=h 0 (by decide)
 have h1:a.x1=b.x1:=h 1 (by decide)
 have h2:a.x2=b.x2:=h 2 (by decide)
 have h3:a.x3=b.x3:=h 3 (by decide)
 obtain ⟨a0,a1,a2,a3⟩:=a
 obtain ⟨b0,b1,b2,b3⟩:=b
 simp only at h0 h1 h2 h3
 subst h0 h1 h2 h3
 rfl
theorem zmo {a b:za} (ha:B4 a) (h:in4 a b=false):zdw a b≠[]:=fun e=>by
 have:a=b:=zkR (fun n hn=>by
  by_cases q:xL a n=xL b n
  ·exact q
  ·have:n∈zdw a b:=List.mem_filter.2 ⟨by simpa using hn,by simpa using q⟩
   rw [e] at this;simp at this)
 subst this
 rw [zlJ ha] at h;cases h
theorem znM {a b:za} {tp:Int} {n:Nat} (ha:St (xL a n) tp) (hb:St (xL b n) tp) (h:xL a n≠xL b n):uni a b n≠[]:=fun e=>by
 have hh:=fun x=>zdZ ha hb x
 unfold uni at e
 rw [e] at hh
 have na:xL a n=[]:=by
  cases q:xL a n with
  | nil=>rfl
  | cons s r =>
   have:=(zap ha.1 (show s∈xL a n by rw [q];simp)).1
   exact absurd ((hh _).2 (.inl this)) (ZE _)
 have nb:xL b n=[]:=by
  cases q:xL b n with
  | nil=>rfl
  | cons s r =>
   have:=(zap hb.1 (show s∈xL b n by rw [q];simp)).1
   exact absurd ((hh _).2 (.inr this)) (ZE _)
 exact h (by rw [na,nb])
theorem zc8 {a b:za} (ha:B4 a∧F4 a) (hb:B4 b∧F4 b) {κ:jm×Bool→Prop} (h:κ (msp (mg a b))):X6 (bx a) (bx b) κ:=by
 unfold X6
 unfold mg at h
 have va:BV (bx a):=zgf.2 ha
 have vb:BV (bx b):=zgf.2 hb
 refine xf (Zb va.bb ?_)
 rw [decide_eq_true va]
 refine jK (Zb vb.bb ?_)
 rw [decide_eq_true vb]
 refine jK (zaI ha hb (zi (fun e=>?_) (fun e=>zaI hb ha (zi (fun e2=>?_) (fun e2=>?_)))))
 ·rw [if_pos e] at h;exact zcp vb.bb h
 ·rw [if_neg (by simp [e]),if_pos e2] at h;exact zcp va.bb h
 rw [if_neg (by simp [e]),if_neg (by simp [e2])] at h
 have hne:=zmo ha.1 e
 have two:∀ {k:Nat},k<4→V2 a b k≠[]→xL a k≠xL b k→κ (⟨[]⟩,false):=fun {k} hk q1 q2=>by
  have hm:zdw a b=V2 a b 4:=rfl
  have:2≤(zdw a b).length:=by
   have h1:(V2 a b (k+1)).length≤(zdw a b).length:=by
    rw [hm];unfold V2
    exact (List.Sublist.filter _ (List.range_sublist.2 (by omega))).length_le
   rw [Uh,if_pos q2,List.length_append] at h1
   have:=List.length_pos_iff.2 q1
   simp at h1;omega
  split at h
  ·rename_i n hn;rw [hn] at this;simp at this
  ·exact h
 refine zK 4 (fun s=>s.2) (fun k (s:Int×Int)=>s.2=(k:Int)∧k≤4∧((V2 a b k=[]∧s.1=-1)∨∃ n:Nat,V2 a b k=[n]∧s.1=n)) (fun k s h=>h.1) (fun k s h=>h.2.1) ?_ ⟨rfl,by omega,.inl ⟨rfl,rfl⟩⟩
 rintro k ⟨f,_⟩ next ⟨rfl,hk,hf⟩ hn
 simp only at hf
 refine zi (fun hc=>?_) (fun hc=>?_)
 ·have hlt:k<4:=by
   have:(k:Int)<4:=of_decide_eq_true hc
   omega
  have k0:(0:Int)≤k:=by omega
  have k3:(k:Int)≤3:=by omega
  refine xf (Zo (a:=a) k0 k3 (Zo (a:=b) k0 k3 (zkt (by have:=zic.1 ha.2 k k0 k3;omega) (zi (fun e=>?_) (fun e=>?_)))))
  ·have hd:xL a k≠xL b k:=by simpa using e
   rcases hf with ⟨q1,rfl⟩ | ⟨n,q1,rfl⟩
   ·refine zi (fun e=>by simp at e) (fun _=>zz (by omega) (by omega) (hn hlt _ ⟨by simp,by omega,.inr ⟨k,?_,rfl⟩⟩))
    rw [Uh,if_pos hd,q1];rfl
   ·exact zi (fun _=>two hlt (by rw [q1];simp) hd) (fun e=>by simp at e)
  ·have hd:¬ xL a k≠xL b k:=by simpa using e
   refine zz (by omega) (by omega) (hn hlt _ ⟨by simp,by omega,?_⟩)
   rw [Uh,if_neg hd,List.append_nil];exact hf
 ·have hge:k=4:=by
   have:¬ (k:Int)<4:=of_decide_eq_false hc
   omega
  subst hge
  have ed:V2 a b 4=zdw a b:=rfl
  rw [ed] at hf
  rcases hf with ⟨q1,_⟩ | ⟨n,q1,rfl⟩
  ·exact absurd q1 hne
  rw [q1] at h
  obtain ⟨h4,hd⟩:=zhD q1
  have k0:(0:Int)≤n:=by omega
  have k3:(n:Int)≤3:=by omega
  have tl:=Uk n
  have sa:=YD ha.1 k0 k3
  have sb:=YD hb.1 k0 k3
  have spa:SpV (xL a n) (top n):=⟨zic.1 ha.2 _ k0 k3,sa⟩
  have spb:SpV (xL b n) (top n):=⟨zic.1 hb.2 _ k0 k3,sb⟩
  refine Za (l:=L4 a) (by simp [L4]) (zcv ha.1) (Zo (a:=a) k0 k3 (Zo (a:=b) k0 k3 (xJ k0 k3 (zds (by omega) (by omega) spa spb (Zo (a:=a) k0 k3 ?_)))))
  have hset:∀ x,(L4 a).set ((n:Int)).toNat x=L4 (UD a n x):=fun x=>zam k0 k3
  have hget:∀ x,xL (UD a n x) n=x:=fun x=>by rcases zaf k0 k3 with q | q | q | q <;> rw [q] <;> rfl
  simp only at h
  by_cases hl:(uni a b n).length≤40
  ·rw [if_pos hl] at h
   have hl':(Yy (xL a n) (xL b n)).length≤40:=hl
   rw [if_pos hl',hset]
   refine Zo (a:=UD a n (Yy (xL a n) (xL b n))) k0 k3 ?_
   rw [hget]
   refine zi (fun e=>?_) (fun _=>h)
   have:=of_decide_eq_true e
   exact absurd (List.length_eq_zero_iff.1 (show (uni a b n).length=0 by unfold uni;omega)) (znM sa sb hd)
  ·rw [if_neg hl] at h
   have hl':¬ (Yy (xL a n) (xL b n)).length≤40:=hl
   rw [if_neg hl',hset]
   refine Zo (a:=UD a n []) k0 k3 ?_
   rw [hget]
   exact jt h
def ppr:Option (Nat×zq)→Int×zX
 | some (k,z)=>(k,gf z)
 | none=>(-1,⟨⟨[]⟩,false⟩)
theorem zka {l:List zq} (hv:IV l) (hl:l.length≤60) {κ:Int×zX→Prop} (h:κ (ppr (fp l))):UB (l.map gf) κ:=by
 unfold UB
 refine zK (l.length+1) (fun s=>s) (fun k s=>s=(k:Int)∧k≤l.length+1∧∀ j,j<k→pmA l j=none) (fun k s h=>h.1) (fun k s h=>h.2.1) ?_ ⟨rfl,by omega,fun j hj=>by omega⟩
 rintro k _ next ⟨rfl,hk,hno⟩ hn
 refine zz (by omega) (by omega) (zi (fun hc=>?_) (fun hc=>?_))
 ·have hlt:k+1<l.length:=by have:=of_decide_eq_true hc;simp only [List.length_map] at this;omega
  have hpm:=zhd hlt
  have w64e:w64 ((k:Int)+1)=((k+1:Nat):Int):=by rw [ziJ (by omega) (by omega)];omega
  have stepNo:pmA l k=none→jh (k:Int) 1 (fun t110=>next t110):=fun q=>zz (by omega) (by omega) (hn (by omega) _ ⟨by simp,by omega,fun j hj=>by
   by_cases e:j=k
   ·subst e;exact q
   ·exact hno j (by omega)⟩)
  have ix:∀ (m:Nat) (hm:m<l.length) (K:zX→Prop),K (gf l[m])→zI (l.map gf) (m:Int) K:=fun m hm K hK=>zp m rfl (by simpa using hm) (by rw [List.getElem_map];exact hK)
  refine xf (ix k (by omega) _ ?_)
  rw [w64e]
  refine ix (k+1) hlt _ (zc8 (hv _ (List.getElem_mem (by omega))) (hv _ (List.getElem_mem hlt)) ?_)
  unfold pm at hpm
  cases em:mg l[k].xWhere l[k+1].xWhere with
  | none =>
   rw [em] at hpm
   refine xf (jK (jK (stepNo ?_)))
   rw [hpm];split <;> rfl
  | some w =>
   rw [em] at hpm
   refine xf (jt (ix k (by omega) _ (zz (by omega) (by omega) ?_)))
   have e1:(k:Int)+1=((k+1:Nat):Int):=by omega
   rw [e1]
   refine ix (k+1) hlt _ (zi (fun e=>?_) (fun e=>?_))
   ·have ea:l[k].xAccept=l[k+1].xAccept:=of_decide_eq_true e
    rw [if_pos ea] at hpm
    rw [zeR hno hpm] at h
    exact ix k (by omega) _ h
   ·have ea:¬ l[k].xAccept=l[k+1].xAccept:=of_decide_eq_false e
    rw [if_neg ea] at hpm
    exact stepNo hpm
 ·have hge:l.length≤k+1:=by have:=of_decide_eq_false hc;simp only [List.length_map] at this;omega
  rw [zjX (fun j=>by
   by_cases e:j<k
   ·exact hno j e
   ·exact zma (by omega))] at h
  exact h
theorem zmA {l:List zq} {k:Nat} {z:zq} (h:fp l=some (k,z)):pmA l k=some z∧∀ j,j<k→pmA l j=none:=by
 have:∀ n,fpN l n=some (k,z)→pmA l k=some z∧∀ j,j<k→pmA l j=none:=by
  intro n
  induction n with
  | zero=>intro q;cases q
  | succ n ih =>
   intro q
   unfold fpN at q
   cases e2:fpN l n with
   | some r=>rw [e2] at q;simp only [Option.some.injEq] at q;subst q;exact ih e2
   | none =>
    rw [e2] at q
    cases e3:pmA l n with
    | none=>rw [e3] at q;cases q
    | some z' =>
     rw [e3] at q
     simp only [Option.map_some,Option.some.injEq,Prod.mk.injEq] at q
     obtain ⟨rfl,rfl⟩:=q
     refine ⟨e3,fun j hj=>?_⟩
     have key:∀ m,fpN l m=none→∀ j,j<m→pmA l j=none:=by
      intro m
      induction m with
      | zero=>intro _ j hj;omega
      | succ m ih2 =>
       intro q j hj
       unfold fpN at q
       cases e4:fpN l m with
       | some r=>rw [e4] at q;cases q
       | none =>
        rw [e4] at q
        cases e5:pmA l m with
        | some z5=>rw [e5] at q;cases q
        | none =>
         by_cases e6:j=m
         ·subst e6;exact e5
         ·exact ih2 e4 j (by omega)
     exact key _ e2 j hj
 exact this _ h
end
end Go.Proofs.YtgpdnnhmndlljaaGreatDoor
