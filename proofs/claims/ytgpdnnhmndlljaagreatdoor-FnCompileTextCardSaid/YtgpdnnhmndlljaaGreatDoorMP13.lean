import Derived.Test.YtgpdnnhmndlljaaGreatDoorMP12
set_option linter.unusedSimpArgs false
set_option linter.unusedVariables false
set_option linter.unusedSectionVars false
namespace Go.Proofs.YtgpdnnhmndlljaaGreatDoor
section
open Go Go.Proofs
theorem ziU {s:zB} (h:SV s) {l:List zr} (he:uf s=some l):IV l∧l.length<=60:=by
 unfold uf at he;cases hU:U s.xChains 0 [zcJ] [] with
 | none=>rw [hU] at he;cases he
 | some bo =>
  obtain ⟨b,o⟩:=bo;rw [hU] at he;simp only [Option.map_some,Option.some.injEq] at he;subst he;have:=zrz h.tvs 0 zgJ zhx zle (by simp) _ _ hU;exact ⟨this.2.2.1,this.2.2.2⟩
theorem zdS {s:zB} (hv':SV s) {O:List zr×Bool->Prop} (h1:∀ l,uf s=some l->O (l,true)) (h2:uf s=none->∀ l,O (l,false)):Xj s O:=by
 unfold Xj;refine zhd ⟨jN s.xChains+1,zoE hv'.cn hv'.2.2 hv'.c5 _ 0 _ _ _ (ziP hv'.2.2 0) hv'.2.1 zgJ zhx zle (by simp) ?_⟩;unfold uf at h1 h2;cases hU:U s.xChains 0 [zcJ] [] with
 | none=>rw [hU] at h2;exact fun l o _=>h2 rfl o
 | some bo =>
  obtain ⟨b,o⟩:=bo;rw [hU] at h1;exact h1 o rfl
end
section
open Go Go.Proofs
def gf (f:zr):ja:=⟨bx f.xWhere,f.xAccept⟩
theorem znz (l:List zr):(l.map gf).map fl=l:=by
 rw [List.map_map];exact List.map_id' l
theorem zf9 {l:List zr} (h:IV l) (hl:l.length<=60):FV (l.map gf):=⟨by simpa using hl,fun f hf=>by
 obtain ⟨g,hg,rfl⟩:=List.mem_map.1 hf
 exact zh7.2 (h g hg)⟩
theorem zrq {a:za} (h:B4 a):Bb (bx a):=⟨by simp [bx],fun x hx=>zd4 h x hx⟩
theorem zij {l:List za} (hB:aB l) (hl:l.length<=1000000) {O:Bool->Prop} (h:O (decide (okR l))):xV (l.map bx) O:=by
 unfold xV;refine zQ l.length (fun s=>s) (fun k s=>s=(k:Int)∧k<=l.length∧zbH (l.take k)) (fun k s h=>h.1) (fun k s h=>h.2.1) ?_ ⟨rfl,by omega,by simp [zbH]⟩;rintro k _ next ⟨rfl,hk,hv'⟩ hn;refine zi (fun hc=>?_) (fun hc=>?_)
 ·have hlt:k<l.length:=by simpa using hc
  have hb:=hB _ (List.getElem_mem hlt);refine zq k rfl (by simpa using hlt) ?_;rw [List.getElem_map];refine ZF (zrq hb) (zi (fun e=>?_) (fun e=>?_))
  ·have:¬ BV (bx l[k]):=by simpa using e
   rw [decide_eq_false (fun q=>this (zh7.2 ⟨hb,q.1 _ (List.getElem_mem hlt)⟩))] at h;exact h
  have:BV (bx l[k]):=by simpa using e
  refine zy (by omega) (by omega) (hn hlt _ ⟨by simp,by omega,?_⟩);rw [List.take_succ_eq_append_getElem hlt];refine ZO.2 ⟨hv',fun c hc=>?_⟩;rw [List.mem_singleton] at hc;subst hc;exact this.f4
 have hge:l.length<=k:=by simpa using hc
 rw [List.take_of_length_le hge] at hv';rw [show decide (okR l)=decide (((l.map bx).length:Int)<=400) from decide_eq_decide.2 ⟨fun q=>by have:=q.2;simp;omega,fun q=>⟨hv',by simp at q;omega⟩⟩] at h;exact h
theorem Yd {l:List za} (hB:aB l) (hl:l.length<=1000000) {O:Bool->Prop} (h1:okR l->O true) (h2:¬ okR l->O false):xV (l.map bx) O:=by
 refine zij hB hl ?_;by_cases h:okR l
 ·rw [decide_eq_true h];exact h1 h
 rw [decide_eq_false h];exact h2 h
def Sw (o:UR) (O:List jy×Bool×List ja->Prop):Prop:=match o with | some (l,out)=>O (l.map bx,true,out.map gf) | none=>∀ l out,O (l,false,out)
theorem zp5 {l:List za} {o:List zr} {O:List jy×Bool×List ja->Prop} (h:O (l.map bx,true,o.map gf)):Sw (some (l,o)) O:=h
theorem zrw {s:zB} (hv:SV s):∀ (n i:Nat) (boxes:List za) (out:List zr) (O:List jy×Bool×List ja->Prop),Hh s.xChains n i->i<s.xChains.length->aB boxes->okR boxes->IV out->out.length<=60->Sw (U s.xChains i boxes out) O->Z8 n s i (boxes.map bx) (out.map gf) O:=by
 have hcn:=hv.cn;have hs:=hv.2.2;have hc5:=hv.c5;have htv:=hv.tvs;intro n;induction n with
 | zero=>intro i boxes out O h;exact h.elim
 | succ n ih =>
  intro i boxes out O hh hi hB hO hIV h60 h;show VE (Z8 n) s i (boxes.map bx) (out.map gf) O;unfold VE;obtain ⟨h8,hrv⟩:=hc5 _ (List.getElem_mem hi);rw [zqr hcn hs i,ze2 hi] at h;have hci:=ze2 hi;have ix:∀ (K:List zo->Prop),K s.xChains[i]->zE s.xChains (i:Int) K:=fun K hK=>zq i rfl hi hK
  generalize hcc:s.xChains[i]=c at *
  generalize hT:url (U s.xChains) c boxes [] out=T at *
  refine zQ c.length (fun s=>s.2.2.2) (fun k (st:List ja×List jy×List jy×Int)=>st.2.2.2=(k:Int)∧k<=c.length∧∃ fls going left,st.1=fls.map gf∧st.2.1=going.map bx∧st.2.2.1=left.map bx∧(aB left∧okR left)∧(IV fls∧fls.length<=60)∧(aB going∧okR going)∧T=url (U s.xChains) (c.drop k) going left fls) (fun k s h=>h.1) (fun k s h=>h.2.1) ?_ ⟨rfl,by omega,out,boxes,[],rfl,rfl,rfl,⟨zjZ,zds⟩,⟨hIV,h60⟩,⟨hB,hO⟩,hT.symm⟩;rintro k ⟨_,_,_,_⟩ next ⟨rfl,hk,fls,going,left,e1,e2,e3,⟨hlB,hlO⟩,⟨hfI,hf60⟩,⟨hgB,hgO⟩,he⟩ hn;simp only at e1 e2 e3;subst e1 e2 e3;have hl4:=hlO.2;have hg4:=hgO.2;refine ix _ (zi (fun hc=>?_) (fun hc=>?_))
  ·have hlt:k<c.length:=by simpa using hc
   obtain ⟨hts,hcall⟩:=hrv _ (List.getElem_mem hlt);rw [List.drop_eq_getElem_cons hlt] at he;unfold url at he;refine ix _ (zq k rfl hlt (zlA hts ?_));have hw:=zdy hts.1;have hm:c[k]∈c:=List.getElem_mem hlt;have hmc:c[k]∈chn s.xChains i:=by rw [hci];exact hm
   generalize c[k]=r at *
   have hfB:=zjc hgB hw;have hmB:=zbw hgB hw;have hfl:=zfe going (XE r.xTests);have hml:=zbZ going (XE r.xTests);generalize XE r.xTests=w at *
   refine zQ going.length (fun s=>s.2.2) (fun j (st:List jy×List jy×Int)=>st.2.2=(j:Int)∧j<=going.length∧st.1=(YN (going.take j) w).map bx∧st.2.1=(ue (going.take j) w).map bx) (fun k s h=>h.1) (fun k s h=>h.2.1) ?_ ⟨rfl,by omega,by simp [YN],by simp [ue]⟩;rintro j ⟨_,_,_⟩ next2 ⟨rfl,hj,hx,hy⟩ hn2;simp only at hx hy;subst hx hy;refine zi (fun hc2=>?_) (fun hc2=>?_)
   ·have hjl:j<going.length:=by simpa using hc2
    have hbB:=hgB _ (List.getElem_mem hjl);have hf2:=zfe (going.take j) w;have hm2:=zbZ (going.take j) w;rw [List.length_take] at hf2 hm2;have ix2:∀ (K:jy->Prop),K (bx going[j])->zE (going.map bx) (j:Int) K:=fun K hK=>zq j rfl (by simpa using hjl) (by rw [List.getElem_map];exact hK)
    have ef:YN (going.take (j+1)) w=YN (going.take j) w++(if em4 (ym going[j] w) then [] else [ym going[j] w]):=by
     rw [List.take_succ_eq_append_getElem hjl,zdb,ze5]
    have em:ue (going.take (j+1)) w=ue (going.take j) w++UD going[j] w:=by
     rw [List.take_succ_eq_append_getElem hjl,YI,Vl]
    have hcl:=zcN going[j] w;have second:∀ xs,xs=(YN (going.take (j+1)) w).map bx->zE (going.map bx) (j:Int) (fun e195=>ZY e195 (bx w) (fun r201=>jQ ((ue (going.take j) w).map bx) r201 (fun _=>je (j:Int) 1 (fun t206=>next2 (xs,(((ue (going.take j) w).map bx)++r201),t206))))):=by
     rintro _ rfl;refine ix2 _ (zia hbB hw (jk (by simp only [List.length_map];omega) (zy (by omega) (by omega) (hn2 hjl _ ⟨by simp,by omega,rfl,?_⟩))));rw [em,List.map_append]
    refine xp (xp (ix2 _ (zja hbB hw ?_)));refine zbb (a:=ym going[j] w) (zi (fun e=>?_) (fun e=>?_))
    ·have e':em4 (ym going[j] w)=false:=by simpa using e
     refine jk (by simp only [List.length_map,List.length_singleton];omega) (second _ ?_);rw [ef,e',List.map_append];rfl
    have e':em4 (ym going[j] w)=true:=by simpa using e
    refine second _ ?_;rw [ef,e'];simp
   have hjge:going.length<=j:=by simpa using hc2
   rw [List.take_of_length_le hjge];have stop:∀ l o,T=none->O (l,false,o):=fun l o q=>by rw [q] at h;exact h _ _
   refine xp (Yd hfB (by omega) (fun o1=>jT (Yd hmB (by omega) (fun o2=>jT ?_) (fun no=>jz (stop _ _ ?_)))) (fun no=>jz (jz (stop _ _ ?_))));rotate_left
   ·rw [if_neg (fun q=>no q.2)] at he;exact he
   ·rw [if_neg (fun q=>no q.1)] at he;exact he
   rw [if_pos ⟨o1,o2⟩] at he;generalize YN going w=fit at *
   generalize ue going w=miss at *
   refine ziN (fun (t:List jy×List jy×List ja)=>∃ left' going' fls',t=(List.map bx left',List.map bx going',List.map gf fls')∧aB left'∧zbH left'∧left'.length<=100000∧aB going'∧going'.length<=100000∧IV fls'∧(okR going'->okR left'->fls'.length<=60->T=url (U s.xChains) (c.drop (k+1)) going' left' fls')∧(¬ (okR going'∧okR left'∧fls'.length<=60)->T=none)) ?_ ?_
   ·rintro _ ⟨left',going',fls',rfl,a1,a2,a3,a4,a5,a6,a7,a8⟩;refine xp (Yd a4 (by omega) (fun b1=>jT (Yd a1 (by omega) (fun b2=>jT (zi (fun e=>?_) (fun e=>?_))) (fun no=>jz (jz (stop _ _ (a8 (fun q=>no q.2.1))))))) (fun no=>jz (jz (stop _ _ (a8 (fun q=>no q.1))))))
    ·have:60<fls'.length:=by have:=of_decide_eq_true e;simp only [List.length_map] at this;omega
     exact stop _ _ (a8 (fun q=>by have:=q.2.2;omega))
    have h6:fls'.length<=60:=by have:=of_decide_eq_false e;simp only [List.length_map] at this;omega
    exact zy (by omega) (by omega) (hn hlt _ ⟨by simp,by omega,fls',going',left',rfl,rfl,rfl,⟨a1,b2⟩,⟨a6,h6⟩,⟨a4,b1⟩,a7 b1 b2 h6⟩)
   intro K hK;have hfl4:=o1.2;have hml4:=o2.2;refine ziN (fun t=>t=decide (r.xAction=1∨r.xAction=2)) ?_ (fun K2 hK2=>?_);rotate_left
   ·have hK2:=hK2 _ rfl;refine zi (fun e=>?_) (fun e=>?_)
    ·rw [e];rw [decide_eq_true (.inl (of_decide_eq_true e))] at hK2;exact hK2
    have n1:=of_decide_eq_false e;rw [show decide (r.xAction=2)=decide (r.xAction=1∨r.xAction=2) from decide_eq_decide.2 ⟨.inr,fun q=>q.resolve_left n1⟩];exact hK2
   rintro _ rfl;refine zi (fun e=>?_) (fun e=>?_)
   ·have ha:=of_decide_eq_true e;rw [if_pos ha] at he;refine zQ fit.length (fun s=>s.2) (fun j (st:List ja×Int)=>st.2=(j:Int)∧j<=fit.length∧st.1=(fls++dec (fit.take j) (decide (r.xAction=1))).map gf) (fun k s h=>h.1) (fun k s h=>h.2.1) ?_ ⟨rfl,by omega,by simp [dec]⟩;rintro j2 ⟨_,_⟩ next3 ⟨rfl,hj2,hx2⟩ hn3;simp only at hx2;subst hx2;refine zi (fun hc3=>?_) (fun hc3=>?_)
    ·have hjl:j2<fit.length:=by simpa using hc3
     refine xp (zq j2 rfl (by simpa using hjl) ?_);rw [List.getElem_map];refine jk (by simp only [List.length_map,List.length_append,zke,List.length_take,List.length_singleton];omega) (zy (by omega) (by omega) (hn3 hjl _ ⟨by simp,by omega,?_⟩));simp only [dec,List.take_succ_eq_append_getElem hjl,List.map_append,List.map_cons,List.map_nil,List.append_assoc];rfl
    have hjge:fit.length<=j2:=by simpa using hc3
    rw [List.take_of_length_le hjge];refine hK _ ⟨left,miss,_,rfl,hlB,hlO.1,by omega,hmB,by omega,zlV hfI (zlg hfB o1.1),fun _ _ q=>?_,fun q=>?_⟩
    ·rw [if_pos q] at he;exact he
    rw [if_neg (fun q2=>q ⟨o2,hlO,q2⟩)] at he;exact he
   have n12:=of_decide_eq_false e;rw [if_neg n12] at he;refine zi (fun e4=>?_) (fun e4=>?_)
   ·rw [if_pos (of_decide_eq_true e4)] at he;refine jk (by simp only [List.length_map];omega) ?_;refine hK _ ⟨left++fit,miss,fls,by rw [List.map_append],Vg.2 ⟨hlB,hfB⟩,ZO.2 ⟨hlO.1,o1.1⟩,by rw [List.length_append];omega,hmB,by omega,hfI,fun _ _ _=>he,fun q=>?_⟩;rw [he];exact zjz (Nat.lt_of_not_le (fun q2=>q ⟨o2,⟨ZO.2 ⟨hlO.1,o1.1⟩,q2⟩,hf60⟩))
   rw [if_neg (of_decide_eq_false e4)] at he;refine zi (fun e3=>?_) (fun e3=>?_)
   ·have h3:=of_decide_eq_true e3;rw [if_pos h3] at he;obtain ⟨c0,c1⟩:=hcall h3;obtain ⟨j,hj⟩:=Int.eq_ofNat_of_zero_le c0;have hca:=zee hmc h3 c0;rw [hj] at he hca c1 ⊢;have hj':((j:Int)).toNat=j:=by simp
    rw [hj'] at he;refine ih j fit fls _ (hh j (by simpa using hca)) (by omega) hfB o1 hfI hf60 ?_;cases hU:U s.xChains j fit fls with
    | none =>
     rw [hU] at he;intro l o;exact jz (stop _ _ he)
    | some bo =>
     obtain ⟨b,o⟩:=bo;rw [hU] at he;obtain ⟨u1,u2,u3,u4⟩:=zrz htv j hfB o1 hfI hf60 _ _ hU;have hu4:=u2.2;simp only at he;refine zp5 (jT (jk (by simp only [List.length_map];omega) ?_));refine hK _ ⟨left,miss++b,o,by rw [List.map_append],hlB,hlO.1,by omega,Vg.2 ⟨hmB,u1⟩,by rw [List.length_append];omega,u3,fun q _ _=>?_,fun q=>?_⟩
     ·rw [if_pos q] at he;exact he
     rw [if_neg (fun q2=>q ⟨q2,hlO,u4⟩)] at he;exact he
   rw [if_neg (of_decide_eq_false e3)] at he;refine jk (by simp only [List.length_map];omega) ?_;refine hK _ ⟨left,miss++fit,fls,by rw [List.map_append],hlB,hlO.1,by omega,Vg.2 ⟨hmB,hfB⟩,by rw [List.length_append];omega,hfI,fun q _ _=>?_,fun q=>?_⟩
   ·rw [if_pos q] at he;exact he
   rw [if_neg (fun q2=>q ⟨q2,hlO,hf60⟩)] at he;exact he
  have hge:c.length<=k:=by simpa using hc
  rw [List.drop_of_length_le hge] at he;unfold url at he;rw [he] at h;refine jk (by simp only [List.length_map];omega) ?_;rw [← List.map_append];refine Yd (Vg.2 ⟨hlB,hgB⟩) (by rw [List.length_append];omega) (fun q=>?_) (fun q=>?_)
  ·rw [if_pos q] at h;exact h
  rw [if_neg q] at h;exact h _ _
end
section
open Go Go.Proofs
theorem zcS {s:zB} (hb:Bd s) {O:zB->Prop} (h:O s):ZJ s O:=by
 unfold ZJ Ul;refine Vd s.xChains id hb.1 (fun x ψ=>Xv x ψ) (fun x ψ hx hψ=>?_) (by simpa using h) _ (fun nx xs t hh=>hh);obtain ⟨h1,h2⟩:=hb.2 x hx;unfold Xv;refine Vd x id h1 (fun y ψ=>UE y ψ) (fun y ψ hy hψ=>?_) (by simpa using hψ) _ (fun nx xs t hh=>hh);unfold UE;exact jk (by have:=h2 y hy;simpa using this) hψ
theorem zhw {l:List zr} (hl:l.length<=4294967296) (hv:IV l) {O:List ja->Prop} (h:O (l.map gf)):Yz l O:=by
 unfold Yz;refine VF 0 rfl (by omega) (by omega) ?_;exact Vd l gf hl (fun x ψ=>Za x.xWhere (fun r=>ψ (ja.mk r x.xAccept))) (fun x ψ hx hψ=>zqA (zqk (hv x hx).2) hψ) h _ (fun nx xs t hh=>hh)
theorem ziA {s:zB} (hb:Bd s) {O:List ja×Bool->Prop} (h1:SV s->∀ l,uf s=some l->O (l.map gf,true)) (h2:(SV s->uf s=none)->O ([],false)):zaf s O:=by
 unfold zaf;refine yR hb (fun b hbv=>zi (fun e=>h2 (fun q=>?_)) (fun e=>?_))
 ·rw [hbv.2 q] at e;cases e
 have hv:SV s:=hbv.1 (by simpa using e);refine zdS hv (fun l hl=>jT ?_) (fun hn l=>jz (h2 (fun _=>hn)));obtain ⟨u1,u2⟩:=ziU hv hl;exact zhw (by omega) u1 (h1 hv l hl)
theorem ziv {s:zB} (hb:Bd s) {O:List ja×Bool->Prop} (h1:SV s->∀ l,uf s=some l->O (l.map gf,true)) (h2:(SV s->uf s=none)->O ([],false)):zae s O:=by
 unfold zae;refine zcS hb (UH hb (fun b hbv=>zi (fun e=>h2 (fun q=>?_)) (fun e=>zk9 ?_)))
 ·rw [hbv.2 q] at e;cases e
 have hv:SV s:=hbv.1 (by simpa using e);refine ⟨jN s.xChains+1,zrw hv _ 0 [zcJ] [] _ (ziP hv.2.2 0) hv.2.1 zgJ zhx zle (by simp) ?_⟩;have h1:=h1 hv;unfold uf at h1 h2;cases hU:U s.xChains 0 [zcJ] [] with
 | none=>rw [hU] at h2;exact fun l o=>jz (h2 (fun _=>rfl))
 | some bo =>
  obtain ⟨b,o⟩:=bo;rw [hU] at h1;exact jT (h1 o rfl)
end
section
open Go Go.Proofs
def wdN (l:List zr):Nat->List zr
 | 0=>[]
 | k+1=>wdN l k++(match l[k]? with | some f=>if dd l k then [] else [f] | none=>[])
def wdF (l:List zr):List zr:=wdN l l.length
theorem zeD (l:List zr):∀ k,(wdN l k).length<=k∧∀ f∈wdN l k,f∈l
 | 0=>by simp [wdN]
 | k+1=>by
  obtain ⟨h1,h2⟩:=zeD l k
  unfold wdN
  cases e:l[k]? with
  | none=>simp only [List.append_nil];exact ⟨by omega,h2⟩
  | some f =>
   simp only
   split
   ·simp only [List.append_nil];exact ⟨by omega,h2⟩
   ·refine ⟨by rw [List.length_append];simp;omega,fun g hg=>?_⟩
    rcases List.mem_append.1 hg with q | q
    ·exact h2 g q
    ·rw [List.mem_singleton] at q;subst q;exact List.mem_of_getElem? e
theorem zjU (l:List zr):(wdF l).length<=l.length:=(zeD l _).1
theorem zdg {l:List zr} (h:IV l):IV (wdF l):=fun f hf=>h f ((zeD l _).2 f hf)
theorem zjN {l:List zr} {k:Nat} (hk:k<l.length) (h:dd l k=true):wdN l (k+1)=wdN l k:=by
 show wdN l k++_=_;rw [List.getElem?_eq_getElem hk];simp [h]
theorem zlr {l:List zr} {k:Nat} (hk:k<l.length) (h:dd l k=false):wdN l (k+1)=wdN l k++[l[k]]:=by
 show wdN l k++_=_;rw [List.getElem?_eq_getElem hk];simp [h]
theorem zik {l:List zr} (hl:l.length<=100000) (hv:IV l) {O:List zr->Prop} (h:O (wdF l)):Yg l O:=by
 unfold Yg;refine zo3 hl hv (VF 0 rfl (by omega) (by omega) ?_);have rem0:zqc l=((List.range l.length).drop 0).filter (dd l):=rfl;rw [rem0];refine zQ l.length (fun s=>s.2.2) (fun k (s:List Int×List zr×Int)=>s.2.2=(k:Int)∧k<=l.length∧s.1=(((List.range l.length).drop k).filter (dd l)).map Int.ofNat∧s.2.1=wdN l k) (fun k s h=>h.1) (fun k s h=>h.2.1) ?_ ⟨rfl,by omega,rfl,rfl⟩;rintro k ⟨_,_,_⟩ next ⟨rfl,hk,hx,hy⟩ hn;simp only at hx hy;subst hx hy;refine zi (fun hc=>?_) (fun hc=>?_)
 ·have hlt:k<l.length:=by simpa using hc
  have hd:(List.range l.length).drop k=k :: (List.range l.length).drop (k+1):=by
   rw [List.drop_eq_getElem_cons (by simpa using hlt)];simp
  have hwl:=(zeD l k).1;have hfl:∀ m,((((List.range l.length).drop m).filter (dd l)).map Int.ofNat).length<=l.length:=fun m=>by
   rw [List.length_map];refine Nat.le_trans (List.length_filter_le _ _) ?_;rw [List.length_drop,List.length_range];omega
  refine xp (zq k rfl hlt (xp ?_));have nxt:∀ ws,ws=wdN l (k+1)->je (k:Int) 1 (fun t188=>next ((((List.range l.length).drop (k+1)).filter (dd l)).map Int.ofNat,ws,t188)):=fun ws hw=>zy (by omega) (by omega) (hn hlt _ ⟨by simp,by omega,rfl,hw⟩)
  have app:dd l k=false->jQ (wdN l k) [l[k]] (fun _=>je (k:Int) 1 (fun t188=>next ((((List.range l.length).drop (k+1)).filter (dd l)).map Int.ofNat,wdN l k++[l[k]],t188))):=fun q=>jk (by simp;omega) (nxt _ (zlr hlt q).symm)
  by_cases q:dd l k=true
  ·have e:((List.range l.length).drop k).filter (dd l)=k :: ((List.range l.length).drop (k+1)).filter (dd l):=by rw [hd,List.filter_cons,if_pos q]
   rw [e];refine zi (fun _=>zq 0 rfl (by simp) ?_) (fun e2=>by simp at e2);refine zi (fun _=>?_) (fun e2=>by simp at e2);refine ⟨by omega,by simp;omega,by omega,?_⟩;have e3:(List.take (((k :: ((List.range l.length).drop (k+1)).filter (dd l)).map Int.ofNat).length:Int).toNat ((k :: ((List.range l.length).drop (k+1)).filter (dd l)).map Int.ofNat)).drop (1:Int).toNat=(((List.range l.length).drop (k+1)).filter (dd l)).map Int.ofNat:=by
    rw [Int.toNat_natCast,List.take_length];rfl
   rw [e3];exact nxt _ (zjN hlt q).symm
  have q':dd l k=false:=by simpa using q
  have e:((List.range l.length).drop k).filter (dd l)=((List.range l.length).drop (k+1)).filter (dd l):=by rw [hd,List.filter_cons,if_neg q]
  rw [e];refine zi (fun e2=>?_) (fun e2=>jT (app q'));have hpos:0<((((List.range l.length).drop (k+1)).filter (dd l)).map Int.ofNat).length:=by have:=of_decide_eq_true e2;omega
  refine zq 0 rfl hpos ?_;have hm:((((List.range l.length).drop (k+1)).filter (dd l)).map Int.ofNat)[0]∈(((List.range l.length).drop (k+1)).filter (dd l)).map Int.ofNat:=List.getElem_mem hpos;obtain ⟨j,hj,ej⟩:=List.mem_map.1 hm;have hj2:=(List.mem_filter.1 hj).1;have hjk:k+1<=j:=by
   rw [List.mem_drop_iff_getElem] at hj2;obtain ⟨m,_,hm2⟩:=hj2;simp at hm2;omega
  refine zi (fun e3=>?_) (fun _=>app q');have e3':=of_decide_eq_true e3;rw [← ej] at e3';have:(j:Int)=(k:Int):=e3';omega
 have hge:l.length<=k:=by simpa using hc
 have:k=l.length:=by omega
 subst this;exact h
theorem zoW {a:za} (h:B4 a):in4 a a=true:=by
 have z:∀ {l:List zk} {t:Int},St l t->x5 l l t=[]:=fun {l t} hs=>by
  have hn:=zbQ hs hs;cases e:x5 l l t with
  | nil=>rfl
  | cons x r =>
   have hx:=zbx hn.1 (show x∈x5 l l t by rw [e];simp);have:=(zbl hs hs).1 hx.1;exact absurd this.1 this.2
 obtain ⟨h0,h1,h2,h3⟩:=h;simp [in4,zi5,zfL,z h0,z h1,z h2,z h3]
theorem zeN {a b:List zk} {t:Int} (ha:St a t) (hb:St b t):x5 a b t=[]↔∀ x,hv a x->hv b x:=by
 constructor
 ·intro h x hx;by_cases q:hv b x
  ·exact q
  have:=(zbl ha hb).2 ⟨hx,q⟩;rw [h] at this;exact absurd this (yx _)
 intro h;have hn:=zbQ ha hb;cases e:x5 a b t with
 | nil=>rfl
 | cons x r =>
  have hx:=zbx hn.1 (show x∈x5 a b t by rw [e];simp);have:=(zbl ha hb).1 hx.1;exact absurd (h _ this.1) this.2
theorem zrS {a:List zk} {t:Int} (h:St a t):a≠[]->∃ x,hv a x:=fun q=>by
 cases a with
 | nil=>exact absurd rfl q
 | cons s r=>exact ⟨s.xLo,(zbx h.1 (by simp)).1⟩
theorem zpo {a b:List zk} (h:∃ x,hv a x∧hv b x):ji a b≠[]:=fun e=>by
 obtain ⟨x,h1,h2⟩:=h
 have:=(Uh a b x).2 ⟨h1,h2⟩
 rw [e] at this;exact yx _ this
theorem zr3 {a:za}:em4 a=true↔a.x0=[]∨a.x1=[]∨a.x2=[]∨a.x3=[]:=by unfold em4;exact decide_eq_true_iff
theorem zqu {a:za}:em4 a=false↔a.x0≠[]∧a.x1≠[]∧a.x2≠[]∧a.x3≠[]:=by unfold em4;rw [decide_eq_false_iff_not];simp only [not_or,ne_eq]
theorem zjf {a b:za} (ha:B4 a) (hb:B4 b):UD a b=[]↔in4 a b=true:=by
 obtain ⟨p0,p1,p2,p3⟩:=ha;obtain ⟨q0,q1,q2,q3⟩:=hb;have hless:zi5 a b=zfL↔(x5 a.x0 b.x0 65535=[]∧x5 a.x1 b.x1 65535=[]∧x5 a.x2 b.x2 255=[]∧x5 a.x3 b.x3 7=[]):=by
  simp [zi5,zfL]
 unfold UD in4;by_cases e:em4 (ym a b)=true
 ·rw [if_pos e];by_cases e2:em4 a=true
  ·simp [e2]
  have e2':em4 a=false:=by simpa using e2
  simp only [e2',Bool.false_eq_true,if_false,Bool.false_or,decide_eq_true_eq];refine ⟨fun h=>by simp at h,fun h=>?_⟩;obtain ⟨l0,l1,l2,l3⟩:=hless.1 h;rw [zeN p0 q0] at l0;rw [zeN p1 q1] at l1;rw [zeN p2 q2] at l2;rw [zeN p3 q3] at l3;exfalso;rw [zqu] at e2';rw [zr3] at e;have g:∀ {x y:List zk} {t:Int},St x t->x≠[]->(∀ v,hv x v->hv y v)->ji x y≠[]:=fun hx hne hh=>by
   obtain ⟨v,hv1⟩:=zrS hx hne;exact zpo ⟨v,hv1,hh v hv1⟩
  rcases e with e | e | e | e
  ·exact g p0 e2'.1 l0 e
  ·exact g p1 e2'.2.1 l1 e
  ·exact g p2 e2'.2.2.1 l2 e
  exact g p3 e2'.2.2.2 l3 e
 rw [if_neg e];have e2:em4 a=false:=by
  have e':em4 (ym a b)=false:=by simpa using e
  rw [zqu] at e' ⊢;refine ⟨fun q=>e'.1 (by simp only [ym];rw [q];rfl),fun q=>e'.2.1 (by simp only [ym];rw [q];rfl),fun q=>e'.2.2.1 (by simp only [ym];rw [q];rfl),fun q=>e'.2.2.2 (by simp only [ym];rw [q];rfl)⟩
 simp only [e2,Bool.false_or,decide_eq_true_eq,hless];have hp:∀ (r:List zk) (c:za),pc r c=[]↔r=[]:=fun r c=>by unfold pc;split <;> simp [*]
 simp only [List.append_eq_nil_iff,hp,and_assoc]
def zdG (a b:za):List Nat:=(List.range 4).filter (fun n=>decide (xR a n≠xR b n))
def uni (a b:za) (n:Nat):List zk:=Uf (xR a n) (xR b n)
def mg (a b:za):Option za :=
 if in4 a b then some b else if in4 b a then some a else
 match zdG a b with
 | [n]=>if (uni a b n).length<=40 then some (Vq a n (uni a b n)) else none
 | _=>none
theorem zgC {a b:za} {n:Nat} (h:zdG a b=[n]):n<4∧xR a n≠xR b n:=by
 have:n∈zdG a b:=by rw [h];simp
 obtain ⟨h1,h2⟩:=List.mem_filter.1 this;exact ⟨by simpa using h1,by simpa using h2⟩
theorem zsq {a b x:za} (ha:B4 a∧F4 a) (hb:B4 b∧F4 b) (h:mg a b=some x):B4 x∧F4 x:=by
 unfold mg at h;split at h
 ·injection h with h;subst h;exact hb
 split at h
 ·injection h with h;subst h;exact ha
 split at h
 ·rename_i n hn;obtain ⟨h4,_⟩:=zgC hn;split at h
  ·rename_i hl;injection h with h;subst h;have k0:(0:Int)<=n:=by omega
   have k3:(n:Int)<=3:=by omega
   exact ⟨zmj ha.1 k0 k3 (zfP (Yq ha.1 k0 k3) (Yq hb.1 k0 k3)),zlz (zmB (ziL.1 ha.2) k0 k3 hl (Nat.le_refl _))⟩
  cases h
 cases h
theorem znn {a b:List zk} (hl:a.length<=4294967296) {O:Bool->Prop} (h:O (decide (a=b))):uz a b O:=by
 unfold uz;by_cases hab:a.length=b.length
 ·refine zi (fun e=>by simp [hab] at e) (fun _=>?_);exact zjh a b hab hl (fun x y A=>ifW (!(decide (x=y))) (O false) A) (fun x y A h1 h2=>zi (fun e=>h2 (by simpa using e)) (fun e=>h1 (by simpa using e))) h _ (fun nx t hh=>hh)
 rw [decide_eq_false (fun q=>hab (by rw [q]))] at h;exact zi (fun _=>h) (fun e=>by simp at e;omega)
def za9 (a b:za) (k:Nat):List Nat:=(List.range k).filter (fun n=>decide (xR a n≠xR b n))
theorem Vh (a b:za) (k:Nat):za9 a b (k+1)=za9 a b k++(if xR a k≠xR b k then [k] else []):=by
 unfold za9;rw [List.range_succ,List.filter_append,List.filter_cons];by_cases h:xR a k=xR b k <;> simp [h]
theorem znw (a b:za):∀ k,(za9 a b k).length<=k:=fun k=>Nat.le_trans (List.length_filter_le _ _) (by simp)
def zss:Option za->za×Bool
 | some x=>(x,true)
 | none=>(zfL,false)
theorem zjH {a b:za} (ha:B4 a∧F4 a) (hb:B4 b∧F4 b) {O:za×Bool->Prop} (h:O (zss (mg a b))):XA a b O:=by
 unfold XA;unfold mg at h;refine zkf ha.1 hb.1 (zi (fun e=>?_) (fun e=>zkf hb.1 ha.1 (zi (fun e2=>?_) (fun e2=>?_))))
 ·rw [if_pos e] at h;exact h
 ·rw [if_neg (by simp [e]),if_pos e2] at h;exact h
 rw [if_neg (by simp [e]),if_neg (by simp [e2])] at h;refine zQ 4 (fun s=>s.2.2) (fun k (s:Int×Int×Int)=>s.2.2=(k:Int)∧k<=4∧s.2.1=((za9 a b k).length:Int)∧∀ n,(za9 a b k).getLast?=some n->s.1=(n:Int)) (fun k s h=>h.1) (fun k s h=>h.2.1) ?_ ⟨rfl,by omega,rfl,fun n hn=>by simp [za9] at hn⟩;rintro k ⟨f,cn,_⟩ next ⟨rfl,hk,hcn,hf⟩ hn;simp only at hcn hf;subst hcn;have hdl:=znw a b k;refine zi (fun hc=>?_) (fun hc=>?_)
 ·have hlt:k<4:=by
   have:(k:Int)<4:=of_decide_eq_true hc;omega
  have k0:(0:Int)<=k:=by omega
  have k3:(k:Int)<=3:=by omega
  refine xp (xp (ZI k0 k3 (ZI k0 k3 (znn (by have:=ziL.1 ha.2 k k0 k3;omega) (zi (fun e=>?_) (fun e=>?_))))))
  ·have hne:xR a k≠xR b k:=by simpa using e
   refine zy (by omega) (by omega) (zy (by omega) (by omega) (hn hlt _ ⟨by simp,by omega,?_,fun n hnn=>?_⟩))
   ·rw [Vh,if_pos hne];simp
   rw [Vh,if_pos hne] at hnn;simp at hnn;simp only;omega
  have hne:¬ xR a k≠xR b k:=by simpa using e
  refine zy (by omega) (by omega) (hn hlt _ ⟨by simp,by omega,?_,fun n hnn=>?_⟩)
  ·rw [Vh,if_neg hne];simp
  rw [Vh,if_neg hne,List.append_nil] at hnn;exact hf n hnn
 have hge:k=4:=by
  have:¬ (k:Int)<4:=of_decide_eq_false hc;omega
 subst hge;have ed:za9 a b 4=zdG a b:=rfl;rw [ed] at hf ⊢;refine zi (fun e3=>?_) (fun e3=>?_)
 ·have h1:¬ (zdG a b).length=1:=by
   have:¬ ((zdG a b).length:Int)=1:=by simpa using e3
   omega
  have:O (zfL,false):=by
   split at h
   ·rename_i n hn';rw [hn'] at h1;simp at h1
   exact h
  exact this
 have h1:(zdG a b).length=1:=by
  have:((zdG a b).length:Int)=1:=by simpa using e3
  omega
 obtain ⟨n,hn'⟩:=List.length_eq_one_iff.1 h1;rw [hn'] at h hf;have hfn:=hf n rfl;subst hfn;obtain ⟨h4,_⟩:=zgC hn';have k0:(0:Int)<=n:=by omega
 have k3:(n:Int)<=3:=by omega
 have tl:=Ur n;refine xp (ZI k0 k3 (ZI k0 k3 (XC k0 k3 (zjY (Yq ha.1 k0 k3) (Yq hb.1 k0 k3) (by omega) (by omega) ?_))));simp only at h;by_cases hl:(uni a b n).length<=40
 ·rw [if_pos hl] at h;have el:lim (Uf (xR a n) (xR b n))=(uni a b n,true):=by unfold lim;rw [if_neg (by unfold uni at hl;omega)];rfl
  rw [el];refine jT (ZI k0 k3 ⟨_,_,_,_,zbr k0 k3,h⟩)
 rw [if_neg hl] at h;have el:lim (Uf (xR a n) (xR b n))=([],false):=by unfold lim;rw [if_pos (by unfold uni at hl;omega)]
 rw [el];exact jz h
end
section
open Go Go.Proofs
def pm (x y:zr):Option zr:=if x.xAccept=y.xAccept then (mg x.xWhere y.xWhere).map (fun w=>⟨w,x.xAccept⟩) else none
def pmA (l:List zr) (k:Nat):Option zr:=match l[k]?,l[k+1]? with | some x,some y=>pm x y | _,_=>none
def fpN (l:List zr):Nat->Option (Nat×zr)
 | 0=>none
 | n+1=>match fpN l n with | some r=>some r | none=>(pmA l n).map (fun z=>(n,z))
def fp (l:List zr):Option (Nat×zr):=fpN l l.length
def zaD (l:List zr) (k:Nat) (z:zr):List zr:=l.take k++[z]++l.drop (k+2)
def mgN:Nat->List zr->List zr
 | 0,l=>l
 | n+1,l=>match fp l with | none=>l | some (k,z)=>mgN n (zaD l k z)
def mgF (l:List zr):List zr:=mgN l.length l
theorem zeh {l:List zr} {k:Nat} {z:zr} (h:pmA l k=some z):k+1<l.length:=by
 unfold pmA at h;split at h
 ·rename_i x y h1 h2;exact (List.getElem?_eq_some_iff.1 h2).1
 cases h
theorem zoc {l:List zr} {k:Nat} (h:l.length<=k+1):pmA l k=none:=by
 cases e:pmA l k with
 | none=>rfl
 | some z=>have:=zeh e;omega
theorem zgF {l:List zr} {k:Nat} (h:k+1<l.length):pmA l k=pm l[k] l[k+1]:=by
 unfold pmA;rw [List.getElem?_eq_getElem (by omega:k<l.length),List.getElem?_eq_getElem h]
theorem zhN {l:List zr}:∀ {n:Nat},(∀ j,j<n->pmA l j=none)->fpN l n=none
 | 0,_=>rfl
 | n+1,h=>by
  unfold fpN
  rw [zhN (fun j hj=>h j (by omega))]
  simp [h n (by omega)]
theorem zkr {l:List zr} {k:Nat} {z:zr} (h1:∀ j,j<k->pmA l j=none) (h2:pmA l k=some z):∀ {n:Nat},k<n->fpN l n=some (k,z)
 | 0,h=>by omega
 | n+1,h=>by
  unfold fpN
  by_cases e:k=n
  ·subst e;rw [zhN h1,h2];rfl
  ·rw [zkr h1 h2 (by omega)]
theorem zmn {l:List zr} (h:∀ j,pmA l j=none):fp l=none:=zhN (fun j _=>h j)
theorem zgL {l:List zr} {k:Nat} {z:zr} (h1:∀ j,j<k->pmA l j=none) (h2:pmA l k=some z):fp l=some (k,z):=zkr h1 h2 (by have:=zeh h2;omega)
theorem zdD {l:List zr} {k:Nat} {z:zr} (h:k+1<l.length):(zaD l k z).length=l.length - 1:=by
 unfold zaD;simp only [List.length_append,List.length_take,List.length_singleton,List.length_drop];omega
theorem zkM {l:List zr} (h:∀ j,pmA l j=none):mgF l=l:=by
 unfold mgF;cases e:l.length with
 | zero=>rfl
 | succ n=>unfold mgN;rw [zmn h]
theorem zkx {l:List zr} {k:Nat} {z:zr} (h1:∀ j,j<k->pmA l j=none) (h2:pmA l k=some z):mgF l=mgF (zaD l k z):=by
 have hk:=zeh h2;have hl:=zdD (z:=z) hk;unfold mgF;rw [hl];obtain ⟨n,hn⟩:∃ n,l.length=n+1:=⟨l.length - 1,by omega⟩;rw [hn]
 conv=>lhs;unfold mgN
 rw [zgL h1 h2];rfl
theorem zr2 {x y z:zr} (hx:B4 x.xWhere∧F4 x.xWhere) (hy:B4 y.xWhere∧F4 y.xWhere) (h:pm x y=some z):(B4 z.xWhere∧F4 z.xWhere)∧z.xAccept=x.xAccept:=by
 unfold pm at h;split at h
 ·cases e:mg x.xWhere y.xWhere with
  | none=>rw [e] at h;cases h
  | some w =>
   rw [e] at h;simp only [Option.map_some,Option.some.injEq] at h;subst h;exact ⟨zsq hx hy e,rfl⟩
 cases h
theorem ze7 {l:List zr} {k:Nat} {z:zr} (h:IV l) (h2:pmA l k=some z):IV (zaD l k z):=by
 have hk:=zeh h2;rw [zgF hk] at h2;have hz:=zr2 (h _ (List.getElem_mem (by omega))) (h _ (List.getElem_mem hk)) h2;intro f hf;unfold zaD at hf;rcases List.mem_append.1 hf with q | q
 ·rcases List.mem_append.1 q with q | q
  ·exact h f (List.mem_of_mem_take q)
  rw [List.mem_singleton] at q;subst q;exact hz.1
 exact h f (List.mem_of_mem_drop q)
theorem zlH:∀ (n:Nat) {l:List zr},IV l->IV (mgN n l)∧(mgN n l).length<=l.length
 | 0,l,h=>⟨h,Nat.le_refl _⟩
 | n+1,l,h=>by
  unfold mgN
  cases e:fp l with
  | none=>exact ⟨h,Nat.le_refl _⟩
  | some kz =>
   obtain ⟨k,z⟩:=kz
   have hkz:pmA l k=some z:=by
    have:∀ n,fpN l n=some (k,z)->pmA l k=some z:=by
     intro n
     induction n with
     | zero=>intro q;cases q
     | succ n ih =>
      intro q
      unfold fpN at q
      cases e2:fpN l n with
      | some r=>rw [e2] at q;simp only [Option.some.injEq] at q;subst q;exact ih e2
      | none =>
       rw [e2] at q
       cases e3:pmA l n with
       | none=>rw [e3] at q;cases q
       | some z' =>
        rw [e3] at q
        simp only [Option.map_some,Option.some.injEq,Prod.mk.injEq] at q
        obtain ⟨rfl,rfl⟩:=q
        exact e3
    exact this _ e
   have ih:=zlH n (ze7 h hkz)
   have hl:=zdD (z:=z) (zeh hkz)
   exact ⟨ih.1,by have:=ih.2;simp only;omega⟩
theorem zof {l:List zr} (h:IV l):IV (mgF l):=(zlH _ h).1
theorem zjD {l:List zr} (h:IV l):(mgF l).length<=l.length:=(zlH _ h).2
theorem zpd {l:List zr} (hl:l.length<=4294967296) {O:List zr->Prop} (h:O l):uA l O:=by
 unfold uA;refine ⟨fun _=>jT (jk (by simpa using hl) h),fun e=>?_⟩;subst e;exact ⟨jz h,jT (jk (by simp) h)⟩
theorem zoq {l:List zr} {i:Nat} (h:i+2<=l.length) {O:List zr->Prop} (hO:O (l.take (i+1)++l.drop (i+2))):ur l ((i:Int)+1) ((i:Int)+2) O:=by
 refine ⟨by omega,by omega,by omega,?_⟩;rw [show ((i:Int)+1).toNat=i+1 by omega,show ((i:Int)+2).toNat=i+2 by omega];exact hO
theorem zps {l:List zr} {i:Nat} (h:i+1<l.length) (z:zr):(l.set i z).take (i+1)++(l.set i z).drop (i+2)=zaD l i z:=by
 unfold zaD;rw [List.take_succ_eq_append_getElem (by simp;omega),List.take_set_of_le (by omega),List.drop_set_of_lt (by omega)];simp
theorem zm6 {l:List zr} {i j:Nat} {z:zr} (h:i+1<l.length) (hj:j+1<i):pmA (zaD l i z) j=pmA l j:=by
 unfold pmA;have e:∀ m,m<i->(zaD l i z)[m]?=l[m]?:=fun m hm=>by
  unfold zaD;rw [List.append_assoc,List.getElem?_append_left (by rw [List.length_take];omega),List.getElem?_take,if_pos hm]
 rw [e j (by omega),e (j+1) hj]
theorem zeu {l:List zr} (hl:l.length<=100000) (hv:IV l) {O:List zr->Prop} (h:O (mgF l)):ZW l O:=by
 unfold ZW;refine zpd (by omega) ?_;refine uV (fun (s:List zr×Int)=>∃ i:Nat,s.2=(i:Int)∧i<=s.1.length∧s.1.length<=100000∧IV s.1∧(∀ j,j<i->pmA s.1 j=none)∧mgF s.1=mgF l) (fun s=>2 * s.1.length - s.2.toNat) ?_ ⟨0,rfl,by omega,hl,hv,fun j hj=>by omega,rfl⟩;rintro ⟨xs,_⟩ next ⟨i,rfl,hi,hxl,hxv,hno,hm⟩ hn;simp only at hi hxl hxv hno hm hn;refine zy (by omega) (by omega) (zi (fun hc=>?_) (fun hc=>?_))
 ·have hlt:i+1<xs.length:=by have:=of_decide_eq_true hc;omega
  have hxi:=hxv _ (List.getElem_mem (show i<xs.length by omega));have hxj:=hxv _ (List.getElem_mem hlt);have hpm:=zgF hlt;have w64e:w64 ((i:Int)+1)=((i+1:Nat):Int):=by rw [zfZ (by omega) (by omega)];omega
  have stepNo:pmA xs i=none->je (i:Int) 1 (fun t153=>next (xs,t153)):=fun q=>zy (by omega) (by omega) (hn _ ⟨i+1,by simp,by simp only;omega,hxl,hxv,fun j hj=>by
   by_cases e:j=i
   ·subst e;exact q
   exact hno j (by omega),hm⟩ (by simp only;omega))
  have stepYes:∀ w:za,pmA xs i=some ⟨w,xs[i].xAccept⟩->zE xs (i:Int) (fun e174=>je (i:Int) 1 (fun t189=>je (i:Int) 2 (fun t190=>ur (xs.set ((i:Int)).toNat (zr.mk w e174.xAccept)) t189 t190 (fun r191=>Y6 (i:Int) 1 (fun t194=>next (r191,(max t194 0))))))):=fun w q=>by
   refine zq i rfl (by omega) (zy (by omega) (by omega) (zy (by omega) (by omega) ?_));rw [Int.toNat_natCast];refine zoq (by rw [List.length_set];omega) ?_;rw [zps hlt];have hml:=zdD (l:=xs) (k:=i) (z:=⟨w,xs[i].xAccept⟩) hlt;refine yK (by omega) (by omega) (hn _ ⟨i - 1,by simp only;omega,by simp only;omega,by simp only;omega,ze7 hxv q,fun j hj=>?_,?_⟩ (by simp only;omega))
   ·rw [zm6 hlt (by omega)];exact hno j (by omega)
   rw [← zkx hno q];exact hm
  refine xp (zq i rfl (by omega) (zy (by omega) (by omega) (zq (i+1) (by omega) hlt (zi (fun e=>?_) (fun e=>?_)))))
  ·have ea:xs[i].xAccept=xs[i+1].xAccept:=of_decide_eq_true e;unfold pm at hpm;rw [if_pos ea] at hpm;rw [w64e];refine xp (zq i rfl (by omega) (zq (i+1) rfl hlt (zjH hxi hxj ?_)));cases em:mg xs[i].xWhere xs[i+1].xWhere with
   | none =>
    rw [em] at hpm;exact jz (stepNo hpm)
   | some w =>
    rw [em] at hpm;exact jT ⟨w.x0,w.x1,w.x2,w.x3,rfl,stepYes w hpm⟩
  have ea:¬ xs[i].xAccept=xs[i+1].xAccept:=of_decide_eq_false e;unfold pm at hpm;rw [if_neg ea] at hpm;exact jz (stepNo hpm)
 have hge:xs.length<=i+1:=by have:=of_decide_eq_false hc;omega
 have:mgF xs=xs:=zkM (fun j=>by
  by_cases e:j<i
  ·exact hno j e
  exact zoc (by omega))
 rw [← hm,this] at h;exact h
def trN (l:List zr) (rest:Bool):Nat->Nat
 | 0=>0
 | n+1=>if (match l[n]? with | some f=>decide (f.xAccept=rest) | none=>false) then trN l rest n else n+1
def trF (l:List zr) (rest:Bool):List zr:=l.take (trN l rest l.length)
theorem zpG (l:List zr) (rest:Bool):(trF l rest).length<=l.length:=by unfold trF;rw [List.length_take];omega
theorem zqY {l:List zr} {rest:Bool} (h:IV l):IV (trF l rest):=fun f hf=>h f (List.mem_of_mem_take hf)
theorem zne {l:List zr} {rest:Bool} (hl:l.length<=100000) {O:List zr->Prop} (h:O (trF l rest)):VU l rest O:=by
 unfold VU;refine uV (fun (s:Int)=>∃ n:Nat,s=(n:Int)∧n<=l.length∧trN l rest l.length=trN l rest n) (fun s=>s.toNat) ?_ ⟨l.length,rfl,Nat.le_refl _,rfl⟩;rintro _ next ⟨n,rfl,hn',he⟩ hnx;have fin:trN l rest n=n->Xg l 0 (n:Int) (fun xs73=>O xs73):=fun q=>by
  refine ⟨by omega,by omega,by omega,?_⟩;unfold trF at h;rw [he,q] at h;simpa using h
 refine xp (zi (fun e=>?_) (fun e=>jT (fin ?_)))
 ·have hpos:0<n:=by have:=of_decide_eq_true e;omega
  obtain ⟨m,rfl⟩:∃ m,n=m+1:=⟨n - 1,by omega⟩;have hlt:m<l.length:=by omega
  have em:((m+1:Nat):Int) - 1=(m:Int):=by omega
  refine yK (by omega) (by omega) ?_;rw [em];refine zq m rfl hlt (zi (fun e2=>?_) (fun e2=>fin ?_))
  ·have e2':l[m].xAccept=rest:=of_decide_eq_true e2;refine yK (by omega) (by omega) (hnx _ ⟨m,by omega,by omega,?_⟩ (by omega));rw [he]
   conv=>lhs;unfold trN
   rw [List.getElem?_eq_getElem hlt];simp [e2']
  have e2':¬ l[m].xAccept=rest:=of_decide_eq_false e2;unfold trN;rw [List.getElem?_eq_getElem hlt];simp [e2']
 have:n=0:=by have:=of_decide_eq_false e;omega
 subst this;rfl
def sh1 (l:List zr) (rest:Bool):List zr:=trF (mgF (wdF l)) rest
theorem zcK {l:List zr} {rest:Bool} (h:IV l):IV (sh1 l rest):=zqY (zof (zdg h))
theorem zaS {l:List zr} {rest:Bool} (h:IV l):(sh1 l rest).length<=l.length:=Nat.le_trans (zpG _ _) (Nat.le_trans (zjD (zdg h)) (zjU l))
def shN (rest:Bool):Nat->List zr->List zr
 | 0,l=>sh1 l rest
 | n+1,l=>if (sh1 l rest).length=l.length then sh1 l rest else shN rest n (sh1 l rest)
def shF (l:List zr) (rest:Bool):List zr:=shN rest l.length l
theorem zlp {rest:Bool}:∀ {n:Nat} {l:List zr},IV l->IV (shN rest n l)∧(shN rest n l).length<=l.length
 | 0,l,h=>⟨zcK h,zaS h⟩
 | n+1,l,h=>by
  unfold shN
  split
  ·exact ⟨zcK h,zaS h⟩
  ·have:=zlp (rest:=rest) (n:=n) (zcK (rest:=rest) h)
   exact ⟨this.1,Nat.le_trans this.2 (zaS h)⟩
theorem zqO {l:List zr} {rest:Bool} (h:IV l):IV (shF l rest):=(zlp h).1
theorem zpb {l:List zr} {rest:Bool} (h:IV l):(shF l rest).length<=l.length:=(zlp h).2
theorem zkt {rest:Bool}:∀ {n m:Nat} {l:List zr},IV l->l.length<=n->l.length<=m->shN rest n l=shN rest m l
 | 0,0,l,_,_,_=>rfl
 | 0,m+1,l,h,h1,h2=>by
  have:=zaS (rest:=rest) h
  unfold shN
  rw [if_pos (by omega)]
 | n+1,0,l,h,h1,h2=>by
  have:=zaS (rest:=rest) h
  conv=>lhs;unfold shN
  rw [if_pos (by omega)]
  rfl
 | n+1,m+1,l,h,h1,h2=>by
  have:=zaS (rest:=rest) h
  conv=>lhs;unfold shN
  conv=>rhs;unfold shN
  split
  ·rfl
  ·exact zkt (zcK h) (by omega) (by omega)
theorem zmm {l:List zr} {rest:Bool} (h:IV l):shF l rest=if (sh1 l rest).length=l.length then sh1 l rest else shF (sh1 l rest) rest:=by
 have:=zaS (rest:=rest) h;unfold shF;cases e:l.length with
 | zero =>
  rw [e] at this;rw [if_pos (by omega)];rfl
 | succ n =>
  conv=>lhs;unfold shN
  rw [e];split
  ·rfl
  ·exact zkt (zcK h) (by omega) (Nat.le_refl _)
theorem zjl {l:List zr} {rest:Bool} (hl:l.length<=100000) (hv:IV l) {O:List zr->Prop} (h:O (shF l rest)):Y1 l rest O:=by
 unfold Y1;refine uV (fun (s:List zr)=>s.length<=100000∧IV s∧shF s rest=shF l rest) (fun s=>s.length) ?_ ⟨hl,hv,rfl⟩;rintro xs next ⟨hx,hxv,he⟩ hn;have w1:=zjU xs;have w2:=zjD (zdg hxv);have w3:=zaS (rest:=rest) hxv;refine zik hx hxv (zeu (by omega) (zdg hxv) (zne (by omega) ?_));have hf:=zmm (rest:=rest) hxv;refine zi (fun e=>?_) (fun e=>?_)
 ·have e':((sh1 xs rest).length:Int)=(xs.length:Int):=of_decide_eq_true e;rw [if_pos (by omega)] at hf;rw [← he,hf] at h;exact h
 have e':¬ ((sh1 xs rest).length:Int)=(xs.length:Int):=of_decide_eq_false e;rw [if_neg (by omega)] at hf;exact hn (sh1 xs rest) ⟨by omega,zcK hxv,by rw [← hf];exact he⟩ (by omega)
noncomputable def cf (s:zB):Option (List zr):=(uf s).map (fun l=>shF l s.xAccept)
theorem zqp {s:zB} (h:SV s) {l:List zr} (he:cf s=some l):IV l∧l.length<=60:=by
 unfold cf at he;cases e:uf s with
 | none=>rw [e] at he;cases he
 | some u =>
  rw [e] at he;simp only [Option.map_some,Option.some.injEq] at he;subst he;obtain ⟨u1,u2⟩:=ziU h e;exact ⟨zqO u1,Nat.le_trans (zpb u1) u2⟩
theorem zhl {s:zB} (hb:Bd s) {O:List zr×Bool->Prop} (h1:SV s->∀ l,cf s=some l->O (l,true)) (h2:(SV s->cf s=none)->O ([],false)):XU s O:=by
 unfold XU;refine yR hb (fun b hbv=>zi (fun e=>h2 (fun q=>?_)) (fun e=>?_))
 ·rw [hbv.2 q] at e;cases e
 have hv:SV s:=hbv.1 (by simpa using e);refine zdS hv (fun l hl=>jT ?_) (fun hn l=>jz (h2 (fun _=>by unfold cf;rw [hn];rfl)));obtain ⟨u1,u2⟩:=ziU hv hl;exact zjl (by omega) u1 (h1 hv _ (by unfold cf;rw [hl];rfl))
theorem zie {s:zB} (hb:Bd s) {O:List ja×Bool->Prop} (h1:SV s->∀ l,cf s=some l->O (l.map gf,true)) (h2:(SV s->cf s=none)->O ([],false)):Uk s O:=by
 unfold Uk;refine zhl hb (fun hv l hl=>jT ?_) (fun q=>jz (h2 q));obtain ⟨u1,u2⟩:=zqp hv hl;exact zhw (by omega) u1 (h1 hv l hl)
end
section
open Go Go.Proofs
def zsz:Option (List za)->List jy×Bool
 | some l=>(l.map bx,true)
 | none=>([],false)
theorem znb {a:za} {bs:List za} (ha:B4 a) (hb:aB bs) (hl:bs.length<=100000) {O:List jy×Bool->Prop} (h:O (zsz (zb9 a bs))):VC (bx a) (bs.map bx) O:=by
 unfold VC;have start:∀ l0:List za,zb9 a bs=lgo l0 bs->aB l0->l0.length<=400->jg (fun (nx88:((List jy)×Int)->Prop) ((xs84,t87):((List jy)×Int))=>ifW (decide (t87<((bs.map bx).length:Int))) (jg (fun (nx97:((List jy)×Int)->Prop) ((xs93,t96):((List jy)×Int))=>ifW (decide (t96<(xs84.length:Int))) (zE xs84 t96 (fun e98=>zE (bs.map bx) t87 (fun e100=>ZY e98 e100 (fun r112=>jQ xs93 r112 (fun _=>je t96 1 (fun t117=>nx97 ((xs93++r112),t117))))))) (xV xs93 (fun r118=>ifW (!r118) (O ([],false)) (je t87 1 (fun t122=>nx88 (xs93,t122)))))) ([],0)) (O (xs84,true))) (l0.map bx,0):=by
  intro l0 h0 hB0 hl0;refine zQ bs.length (fun s=>s.2) (fun k (s:List jy×Int)=>s.2=(k:Int)∧k<=bs.length∧∃ left,s.1=left.map bx∧aB left∧left.length<=400∧zb9 a bs=lgo left (bs.drop k)) (fun k s h=>h.1) (fun k s h=>h.2.1) ?_ ⟨rfl,by omega,l0,rfl,hB0,hl0,h0⟩;rintro k ⟨_,_⟩ next ⟨rfl,hk,left,hx,hB,hll,he⟩ hn;simp only at hx;subst hx;refine zi (fun hc=>?_) (fun hc=>?_);rotate_left
  ·have hge:bs.length<=k:=by simpa using hc
   rw [he,List.drop_of_length_le hge] at h;exact h
  have hlt:k<bs.length:=by simpa using hc
  rw [List.drop_eq_getElem_cons hlt] at he;have hbk:=hb _ (List.getElem_mem hlt);refine zQ left.length (fun s=>s.2) (fun j (s:List jy×Int)=>s.2=(j:Int)∧j<=left.length∧s.1=(ue (left.take j) bs[k]).map bx) (fun k s h=>h.1) (fun k s h=>h.2.1) ?_ ⟨rfl,by omega,by simp [ue]⟩;rintro j ⟨_,_⟩ next2 ⟨rfl,hj,hx⟩ hn2;simp only at hx;subst hx;have hsl:=zbZ (left.take j) bs[k];rw [List.length_take] at hsl;refine zi (fun hc2=>?_) (fun hc2=>?_)
  ·have hjl:j<left.length:=by simpa using hc2
   refine zq j rfl (by simpa using hjl) (zq k rfl (by simpa using hlt) ?_);rw [List.getElem_map,List.getElem_map];have hcl:=zcN left[j] bs[k];refine zia (hB _ (List.getElem_mem hjl)) hbk (jk (by simp only [List.length_map];omega) (zy (by omega) (by omega) (hn2 hjl _ ⟨by simp,by omega,?_⟩)));rw [List.take_succ_eq_append_getElem hjl,YI,Vl,List.map_append]
  have hjge:left.length<=j:=by simpa using hc2
  rw [List.take_of_length_le hjge] at hsl ⊢;unfold lgo at he;refine Yd (zbw hB hbk) (by omega) (fun ok=>?_) (fun no=>?_)
  ·rw [if_pos ok] at he;exact jT (zy (by omega) (by omega) (hn hlt _ ⟨by simp,by omega,ue left bs[k],rfl,zbw hB hbk,ok.2,he⟩))
  rw [if_neg no] at he;rw [he] at h;exact jz h
 refine xp (zbb (zi (fun e=>?_) (fun e=>?_)))
 ·refine jk (by simp) (start [a] ?_ (fun c hc=>by rw [List.mem_singleton] at hc;subst hc;exact ha) (by simp));unfold zb9;rw [if_neg (by simpa using e)]
 refine start [] ?_ zjZ (by simp);unfold zb9;rw [if_pos (by simpa using e),zjS]
theorem zfO {l:List zr} (hv:IV l) (hl:l.length<=60) {O:List jy->Prop} (h:O ((whs l).map bx)):UF (l.map gf) O:=by
 have hF:=zf9 hv hl;unfold UF;refine Xt hF.fb ?_;refine zQ l.length (fun s=>s.2) (fun k (s:List jy×Int)=>s.2=(k:Int)∧k<=l.length∧s.1=(whs (l.take k)).map bx) (fun k s h=>h.1) (fun k s h=>h.2.1) ?_ ⟨rfl,by omega,rfl⟩;rintro k ⟨_,_⟩ next ⟨rfl,hk,hx⟩ hn;simp only at hx;subst hx;refine xp (zi (fun hc=>?_) (fun hc=>jT ?_))
 ·have hlt:k<l.length:=by simpa using hc
  refine Zu hF.fb ?_;rw [decide_eq_true hF];refine jz (zq k rfl (by simpa using hlt) ?_);rw [List.getElem_map];refine jk (by simp [whs];omega) (zy (by omega) (by omega) (hn hlt _ ⟨by simp,by omega,?_⟩));simp only [whs,List.take_succ_eq_append_getElem hlt,List.map_append];rfl
 have hge:l.length<=k:=by simpa using hc
 rw [List.take_of_length_le hge];exact h
theorem znt {l:List zr} (hv:IV l) (hl:l.length<=60) {k:Nat} (hk:k<l.length) {O:Bool->Prop} (h:O (dd l k)):Vv (l.map gf) k O:=by
 unfold Vv;refine zq k rfl (by simpa using hk) ?_;rw [List.getElem_map];refine ⟨by omega,by omega,by simp;omega,?_⟩;have e:((l.map gf).take (k:Int).toNat).drop (0:Int).toNat=(l.take k).map gf:=by simp [List.map_take]
 rw [e];refine zfO (hv.take k) (by rw [List.length_take];omega) ?_;have hk2:=hv _ (List.getElem_mem hk);refine znb hk2.1 (hv.take k).aB (by unfold whs;simp;omega) ?_;have hd:=zoZ hk;unfold zlG at hd;cases hlr:zb9 l[k].xWhere (whs (l.take k)) with
 | none =>
  rw [hlr] at hd;have:dd l k=false:=by rw [hd];simp
  rw [this] at h;exact xp (jT h)
 | some r =>
  rw [hlr] at hd;refine xp (jz ?_);have e2:decide (((r.map bx).length:Int)=0)=dd l k:=by
   rw [hd];refine decide_eq_decide.2 ⟨fun q=>?_,fun q=>?_⟩
   ·rw [List.length_eq_zero_iff.1 (show r.length=0 by simp only [List.length_map] at q;omega)]
   injection q with q;subst q;rfl
  rw [e2];exact h
theorem zlK {l:List zr} (hv:IV l) (hl:l.length<=60) {O:List ja->Prop} (h:O ((wdF l).map gf)):UV (l.map gf) O:=by
 have hF:=zf9 hv hl;unfold UV;refine Xt hF.fb ?_;refine zQ l.length (fun s=>s.2.2) (fun k (s:List ja×List ja×Int)=>s.2.2=(k:Int)∧k<=l.length∧s.1=l.map gf∧s.2.1=(wdN l k).map gf) (fun k s h=>h.1) (fun k s h=>h.2.1) ?_ ⟨rfl,by omega,rfl,rfl⟩;rintro k ⟨_,_,_⟩ next ⟨rfl,hk,hx,hy⟩ hn;simp only at hx hy;subst hx hy;have hwl:=(zeD l k).1;refine xp (zi (fun hc=>?_) (fun hc=>jT ?_))
 ·have hlt:k<l.length:=by simpa using hc
  refine Zu hF.fb ?_;rw [decide_eq_true hF];refine jz (xp (znt hv hl hlt (zi (fun e=>?_) (fun e=>?_))))
  ·have hd:dd l k=false:=by simpa using e
   refine zq k rfl (by simpa using hlt) ?_;rw [List.getElem_map];refine jk (by simp;omega) (zy (by omega) (by omega) (hn hlt _ ⟨by simp,by omega,rfl,?_⟩));rw [zlr hlt hd,List.map_append];rfl
  have hd:dd l k=true:=by simpa using e
  refine zy (by omega) (by omega) (hn hlt _ ⟨by simp,by omega,rfl,?_⟩);rw [zjN hlt hd]
 have hge:l.length<=k:=by simpa using hc
 have:k=l.length:=by omega
 subst this;exact h
theorem zbX {a b:za} (ha:B4 a∧F4 a) (hb:B4 b∧F4 b) {O:Bool->Prop} (h:O (in4 a b)):XY (bx a) (bx b) O:=by
 unfold XY;have va:BV (bx a):=zh7.2 ha;have vb:BV (bx b):=zh7.2 hb;refine xp (ZF va.bb ?_);rw [decide_eq_true va];refine jz (ZF vb.bb ?_);rw [decide_eq_true vb];refine jz (zia ha.1 hb.1 ?_);have e:decide ((((UD a b).map bx).length:Int)=0)=in4 a b:=by
  have:=zjf ha.1 hb.1;cases hi:in4 a b with
  | true=>rw [this.2 hi];rfl
  | false =>
   refine decide_eq_false (fun q=>?_);have:UD a b=[]:=List.length_eq_zero_iff.1 (by simp only [List.length_map] at q;omega);rw [(zjf ha.1 hb.1).1 this] at hi;cases hi
 rw [e];exact h
theorem znm {a b:List zk} (hl:a.length<=4294967296) {O:Bool->Prop} (h:O (decide (a=b))):VM a b O:=by
 unfold VM;by_cases hab:a.length=b.length
 ·refine zi (fun e=>by simp [hab] at e) (fun _=>?_);exact zjh a b hab hl (fun x y A=>ifW (!(decide (x=y))) (O false) A) (fun x y A h1 h2=>zi (fun e=>h2 (by simpa using e)) (fun e=>h1 (by simpa using e))) h _ (fun nx t hh=>hh)
 rw [decide_eq_false (fun q=>hab (by rw [q]))] at h;exact zi (fun _=>h) (fun e=>by simp at e;omega)
theorem zeq {a b:List zk} {tp:Int} (h0:0<=tp) (h1:tp<=65535) (ha:SpV a tp) (hb:SpV b tp) {O:List zk->Prop} (h:O (if (Uf a b).length<=40 then Uf a b else [])):Y0 a b tp O:=by
 unfold Y0;have la:=ha.1;have lb:=hb.1;refine xp (Vy (by omega) h0 h1 ?_);rw [decide_eq_true ha];refine jT (Vy (by omega) h0 h1 ?_);rw [decide_eq_true hb];refine jT (jk (by simp;omega) ?_);have stp:∀ k,St ((b.take k).foldl ze8 a) tp:=fun k=>zfP ha.2 ⟨⟨fun s hs=>hb.2.1.1 s (List.mem_of_mem_take hs),hb.2.1.2.sublist (List.take_sublist _ _)⟩,fun s hs=>hb.2.2 s (List.mem_of_mem_take hs)⟩
 refine zQ b.length (fun s=>s.2) (fun k (s:List zk×Int)=>s.2=(k:Int)∧k<=b.length∧s.1=(b.take k).foldl ze8 a) (fun k s h=>h.1) (fun k s h=>h.2.1) ?_ ⟨rfl,by omega,by simp⟩;rintro k ⟨_,_⟩ next ⟨rfl,hk,hx⟩ hn;simp only at hx;subst hx;have hln:=zf3 (b.take k) a;rw [List.length_take] at hln;refine zi (fun hc=>?_) (fun hc=>?_)
 ·have hlt:k<b.length:=by simpa using hc
  have hs:=hb.2.2 _ (List.getElem_mem hlt);have hs2:=hb.2.1.1 _ (List.getElem_mem hlt);refine zq k rfl hlt (zpj (by omega) (fun s hs'=>?_) ?_ (zy (by omega) (by omega) (hn hlt _ ⟨by simp,by omega,?_⟩)))
  ·have q1:=(stp k).2 s hs';have q2:=(stp k).1.1 s hs';unfold Sm;omega
  ·unfold Sm;omega
  rw [List.take_succ_eq_append_getElem hlt,List.foldl_append];rfl
 have hge:b.length<=k:=by simpa using hc
 rw [List.take_of_length_le hge];refine zi (fun e=>?_) (fun e=>?_)
 ·have:¬ (Uf a b).length<=40:=by have:=of_decide_eq_true e;unfold Uf;omega
  rw [if_neg this] at h;exact h
 have:(Uf a b).length<=40:=by have:=of_decide_eq_false e;unfold Uf;omega
 rw [if_pos this] at h;exact h
def msp:Option za->jy×Bool
 | some x=>(bx x,true)
 | none=>(⟨[]⟩,false)
theorem zou {a b:za} (h:∀ n:Nat,n<4->xR a n=xR b n):a=b:=by
 have h0:a.x0=b.x0:=h 0 (by decide);have h1:a.x1=b.x1:=h 1 (by decide);have h2:a.x2=b.x2:=h 2 (by decide);have h3:a.x3=b.x3:=h 3 (by decide);obtain ⟨a0,a1,a2,a3⟩:=a;obtain ⟨b0,b1,b2,b3⟩:=b;simp only at h0 h1 h2 h3;subst h0 h1 h2 h3;rfl
theorem zp4 {a b:za} (ha:B4 a) (h:in4 a b=false):zdG a b≠[]:=fun e=>by
 have:a=b:=zou (fun n hn=>by
  by_cases q:xR a n=xR b n
  ·exact q
  ·have:n∈zdG a b:=List.mem_filter.2 ⟨by simpa using hn,by simpa using q⟩
   rw [e] at this;simp at this)
 subst this
 rw [zoW ha] at h;cases h
theorem zrl {a b:za} {tp:Int} {n:Nat} (ha:St (xR a n) tp) (hb:St (xR b n) tp) (h:xR a n≠xR b n):uni a b n≠[]:=fun e=>by
 have hh:=fun x=>zdq ha hb x
 unfold uni at e
 rw [e] at hh
 have na:xR a n=[]:=by
  cases q:xR a n with
  | nil=>rfl
  | cons s r =>
   have:=(zbx ha.1 (show s∈xR a n by rw [q];simp)).1
   exact absurd ((hh _).2 (.inl this)) (yx _)
 have nb:xR b n=[]:=by
  cases q:xR b n with
  | nil=>rfl
  | cons s r =>
   have:=(zbx hb.1 (show s∈xR b n by rw [q];simp)).1
   exact absurd ((hh _).2 (.inr this)) (yx _)
 exact h (by rw [na,nb])
theorem zen {a b:za} (ha:B4 a∧F4 a) (hb:B4 b∧F4 b) {O:jy×Bool->Prop} (h:O (msp (mg a b))):YW (bx a) (bx b) O:=by
 unfold YW;unfold mg at h;have va:BV (bx a):=zh7.2 ha;have vb:BV (bx b):=zh7.2 hb;refine xp (ZF va.bb ?_);rw [decide_eq_true va];refine jT (ZF vb.bb ?_);rw [decide_eq_true vb];refine jT (zbX ha hb (zi (fun e=>?_) (fun e=>zbX hb ha (zi (fun e2=>?_) (fun e2=>?_)))))
 ·rw [if_pos e] at h;exact zeb vb.bb h
 ·rw [if_neg (by simp [e]),if_pos e2] at h;exact zeb va.bb h
 rw [if_neg (by simp [e]),if_neg (by simp [e2])] at h;have hne:=zp4 ha.1 e;have two:∀ {k:Nat},k<4->za9 a b k≠[]->xR a k≠xR b k->O (⟨[]⟩,false):=fun {k} hk q1 q2=>by
  have hm:zdG a b=za9 a b 4:=rfl;have:2<=(zdG a b).length:=by
   have h1:(za9 a b (k+1)).length<=(zdG a b).length:=by
    rw [hm];unfold za9;exact (List.Sublist.filter _ (List.range_sublist.2 (by omega))).length_le
   rw [Vh,if_pos q2,List.length_append] at h1;have:=List.length_pos_iff.2 q1;simp at h1;omega
  split at h
  ·rename_i n hn;rw [hn] at this;simp at this
  exact h
 refine zQ 4 (fun s=>s.2) (fun k (s:Int×Int)=>s.2=(k:Int)∧k<=4∧((za9 a b k=[]∧s.1=-1)∨∃ n:Nat,za9 a b k=[n]∧s.1=n)) (fun k s h=>h.1) (fun k s h=>h.2.1) ?_ ⟨rfl,by omega,.inl ⟨rfl,rfl⟩⟩;rintro k ⟨f,_⟩ next ⟨rfl,hk,hf⟩ hn;simp only at hf;refine zi (fun hc=>?_) (fun hc=>?_)
 ·have hlt:k<4:=by
   have:(k:Int)<4:=of_decide_eq_true hc;omega
  have k0:(0:Int)<=k:=by omega
  have k3:(k:Int)<=3:=by omega
  refine xp (ZI (a:=a) k0 k3 (ZI (a:=b) k0 k3 (znm (by have:=ziL.1 ha.2 k k0 k3;omega) (zi (fun e=>?_) (fun e=>?_)))))
  ·have hd:xR a k≠xR b k:=by simpa using e
   rcases hf with ⟨q1,rfl⟩ | ⟨n,q1,rfl⟩
   ·refine zi (fun e=>by simp at e) (fun _=>zy (by omega) (by omega) (hn hlt _ ⟨by simp,by omega,.inr ⟨k,?_,rfl⟩⟩));rw [Vh,if_pos hd,q1];rfl
   exact zi (fun _=>two hlt (by rw [q1];simp) hd) (fun e=>by simp at e)
  have hd:¬ xR a k≠xR b k:=by simpa using e
  refine zy (by omega) (by omega) (hn hlt _ ⟨by simp,by omega,?_⟩);rw [Vh,if_neg hd,List.append_nil];exact hf
 have hge:k=4:=by
  have:¬ (k:Int)<4:=of_decide_eq_false hc;omega
 subst hge;have ed:za9 a b 4=zdG a b:=rfl;rw [ed] at hf;rcases hf with ⟨q1,_⟩ | ⟨n,q1,rfl⟩
 ·exact absurd q1 hne
 rw [q1] at h;obtain ⟨h4,hd⟩:=zgC q1;have k0:(0:Int)<=n:=by omega
 have k3:(n:Int)<=3:=by omega
 have tl:=Ur n;have sa:=Yq ha.1 k0 k3;have sb:=Yq hb.1 k0 k3;have spa:SpV (xR a n) (top n):=⟨ziL.1 ha.2 _ k0 k3,sa⟩;have spb:SpV (xR b n) (top n):=⟨ziL.1 hb.2 _ k0 k3,sb⟩;refine ZH (l:=L4 a) (by simp [L4]) (zd4 ha.1) (ZI (a:=a) k0 k3 (ZI (a:=b) k0 k3 (xF k0 k3 (zeq (by omega) (by omega) spa spb (ZI (a:=a) k0 k3 ?_)))));have hset:∀ x,(L4 a).set ((n:Int)).toNat x=L4 (Vq a n x):=fun x=>zbr k0 k3
 have hget:∀ x,xR (Vq a n x) n=x:=fun x=>by rcases zbm k0 k3 with q | q | q | q <;> rw [q] <;> rfl
 simp only at h;by_cases hl:(uni a b n).length<=40
 ·rw [if_pos hl] at h;have hl':(Uf (xR a n) (xR b n)).length<=40:=hl;rw [if_pos hl',hset];refine ZI (a:=Vq a n (Uf (xR a n) (xR b n))) k0 k3 ?_;rw [hget];refine zi (fun e=>?_) (fun _=>h);have:=of_decide_eq_true e;exact absurd (List.length_eq_zero_iff.1 (show (uni a b n).length=0 by unfold uni;omega)) (zrl sa sb hd)
 rw [if_neg hl] at h;have hl':¬ (Uf (xR a n) (xR b n)).length<=40:=hl;rw [if_neg hl',hset];refine ZI (a:=Vq a n []) k0 k3 ?_;rw [hget];exact jz h
def ppr:Option (Nat×zr)->Int×ja
 | some (k,z)=>(k,gf z)
 | none=>(-1,⟨⟨[]⟩,false⟩)
theorem zm1 {l:List zr} (hv:IV l) (hl:l.length<=60) {O:Int×ja->Prop} (h:O (ppr (fp l))):Vw (l.map gf) O:=by
 unfold Vw;refine zQ (l.length+1) (fun s=>s) (fun k s=>s=(k:Int)∧k<=l.length+1∧∀ j,j<k->pmA l j=none) (fun k s h=>h.1) (fun k s h=>h.2.1) ?_ ⟨rfl,by omega,fun j hj=>by omega⟩;rintro k _ next ⟨rfl,hk,hno⟩ hn;refine zy (by omega) (by omega) (zi (fun hc=>?_) (fun hc=>?_))
 ·have hlt:k+1<l.length:=by have:=of_decide_eq_true hc;simp only [List.length_map] at this;omega
  have hpm:=zgF hlt;have w64e:w64 ((k:Int)+1)=((k+1:Nat):Int):=by rw [zfZ (by omega) (by omega)];omega
  have stepNo:pmA l k=none->je (k:Int) 1 (fun t110=>next t110):=fun q=>zy (by omega) (by omega) (hn (by omega) _ ⟨by simp,by omega,fun j hj=>by
   by_cases e:j=k
   ·subst e;exact q
   exact hno j (by omega)⟩)
  have ix:∀ (m:Nat) (hm:m<l.length) (K:ja->Prop),K (gf l[m])->zE (l.map gf) (m:Int) K:=fun m hm K hK=>zq m rfl (by simpa using hm) (by rw [List.getElem_map];exact hK)
  refine xp (ix k (by omega) _ ?_);rw [w64e];refine ix (k+1) hlt _ (zen (hv _ (List.getElem_mem (by omega))) (hv _ (List.getElem_mem hlt)) ?_);unfold pm at hpm;cases em:mg l[k].xWhere l[k+1].xWhere with
  | none =>
   rw [em] at hpm;refine xp (jT (jT (stepNo ?_)));rw [hpm];split <;> rfl
  | some w =>
   rw [em] at hpm;refine xp (jz (ix k (by omega) _ (zy (by omega) (by omega) ?_)));have e1:(k:Int)+1=((k+1:Nat):Int):=by omega
   rw [e1];refine ix (k+1) hlt _ (zi (fun e=>?_) (fun e=>?_))
   ·have ea:l[k].xAccept=l[k+1].xAccept:=of_decide_eq_true e;rw [if_pos ea] at hpm;rw [zgL hno hpm] at h;exact ix k (by omega) _ h
   have ea:¬ l[k].xAccept=l[k+1].xAccept:=of_decide_eq_false e;rw [if_neg ea] at hpm;exact stepNo hpm
 have hge:l.length<=k+1:=by have:=of_decide_eq_false hc;simp only [List.length_map] at this;omega
 rw [zmn (fun j=>by
  by_cases e:j<k
  ·exact hno j e
  exact zoc (by omega))] at h
 exact h
theorem zmf {l:List zr} {k:Nat} {z:zr} (h:fp l=some (k,z)):pmA l k=some z∧∀ j,j<k->pmA l j=none:=by
 have:∀ n,fpN l n=some (k,z)->pmA l k=some z∧∀ j,j<k->pmA l j=none:=by
  intro n;induction n with
  | zero=>intro q;cases q
  | succ n ih =>
   intro q;unfold fpN at q;cases e2:fpN l n with
   | some r=>rw [e2] at q;simp only [Option.some.injEq] at q;subst q;exact ih e2
   | none =>
    rw [e2] at q;cases e3:pmA l n with
    | none=>rw [e3] at q;cases q
    | some z' =>
     rw [e3] at q;simp only [Option.map_some,Option.some.injEq,Prod.mk.injEq] at q;obtain ⟨rfl,rfl⟩:=q;refine ⟨e3,fun j hj=>?_⟩;have key:∀ m,fpN l m=none->∀ j,j<m->pmA l j=none:=by
      intro m;induction m with
      | zero=>intro _ j hj;omega
      | succ m ih2 =>
       intro q j hj;unfold fpN at q;cases e4:fpN l m with
       | some r=>rw [e4] at q;cases q
       | none =>
        rw [e4] at q;cases e5:pmA l m with
        | some z5=>rw [e5] at q;cases q
        | none =>
         by_cases e6:j=m
         ·subst e6;exact e5
         exact ih2 e4 j (by omega)
     exact key _ e2 j hj
 exact this _ h
theorem zse {l:List zr} (h:fp l=none):∀ j,pmA l j=none:=fun j=>by
 cases e:pmA l j with
 | none=>rfl
 | some z =>
  exfalso
  have:∀ n,n<=j->(∀ i,i<n->pmA l i=none)∨∃ i z,i<n∧pmA l i=some z∧∀ m,m<i->pmA l m=none:=by
   intro n
   induction n with
   | zero=>intro _;exact .inl (fun i hi=>by omega)
   | succ n ih =>
    intro hn
    rcases ih (by omega) with q | ⟨i,z,q1,q2,q3⟩
    ·cases e2:pmA l n with
     | none=>exact .inl (fun i hi=>by
       by_cases e3:i=n
       ·subst e3;exact e2
       ·exact q i (by omega))
     | some z2=>exact .inr ⟨n,z2,by omega,e2,q⟩
    ·exact .inr ⟨i,z,by omega,q2,q3⟩
  rcases this j (Nat.le_refl _) with q | ⟨i,z2,q1,q2,q3⟩
  ·rw [zgL q e] at h;cases h
  ·rw [zgL q3 q2] at h;cases h
theorem zjo {l:List zr} (hv:IV l) (hl:l.length<=60) {O:List ja->Prop} (h:O ((mgF l).map gf)):YR (l.map gf) O:=by
 have hF:=zf9 hv hl;unfold YR;refine Xt hF.fb (Zu hF.fb ?_);rw [decide_eq_true hF];refine jT (jk (by simp;omega) ?_);refine uV (fun (s:List ja)=>∃ xs:List zr,s=xs.map gf∧xs.length<=60∧IV xs∧mgF xs=mgF l) (fun s=>s.length) ?_ ⟨l,by simp,hl,hv,rfl⟩;rintro _ next ⟨xs,rfl,hxl,hxv,he⟩ hn;refine zm1 hxv hxl ?_;cases hfp:fp xs with
 | none =>
  rw [← he,zkM (zse hfp)] at h;exact jz h
 | some kz =>
  obtain ⟨k,z⟩:=kz;obtain ⟨p1,p2⟩:=zmf hfp;have hk:=zeh p1;have hml:=zdD (z:=z) hk;refine zi (fun e=>by have:(k:Int)<0:=of_decide_eq_true e;omega) (fun _=>zy (by omega) (by omega) ⟨by omega,by simp only [List.length_map];omega,by omega,?_⟩);have e1:((xs.map gf).take ((xs.map gf).length:Int).toNat).drop ((k:Int)+2).toNat=(xs.drop (k+2)).map gf:=by
   rw [Int.toNat_natCast,List.take_length,show ((k:Int)+2).toNat=k+2 by omega,List.map_drop]
  have e2:((xs.map gf).take ((k:Int)).toNat).drop (0:Int).toNat=(xs.take k).map gf:=by
   rw [Int.toNat_natCast];simp [List.map_take]
  rw [e1];refine jk (by simp;omega) (xp ⟨by omega,by omega,by simp only [List.length_map];omega,?_⟩);show jQ [] (((xs.map gf).take ((k:Int)).toNat).drop (0:Int).toNat) _;rw [e2];refine jk (by simp;omega) (jk (by simp;omega) (jk (by simp;omega) (hn _ ⟨zaD xs k z,?_,by omega,ze7 hxv p1,?_⟩ ?_)))
  ·unfold zaD;simp only [List.nil_append,List.map_append,List.map_cons,List.map_nil]
  ·rw [← zkx p2 p1];exact he
  simp;omega
theorem zlt {l:List zr} {rest:Bool} (hv:IV l) (hl:l.length<=60) {O:List ja->Prop} (h:O ((trF l rest).map gf)):UU (l.map gf) rest O:=by
 have hF:=zf9 hv hl;unfold UU;refine Xt hF.fb (Zu hF.fb ?_);rw [decide_eq_true hF];refine jT ?_;refine uV (fun (s:Int)=>∃ n:Nat,s=(n:Int)∧n<=l.length∧trN l rest l.length=trN l rest n) (fun s=>s.toNat) ?_ ⟨l.length,by simp,Nat.le_refl _,rfl⟩;rintro _ next ⟨n,rfl,hn',he⟩ hnx;have fin:trN l rest n=n->Xg (l.map gf) 0 (n:Int) (fun xs84=>jQ ([]) xs84 (fun _=>O (([])++xs84))):=fun q=>by
  refine ⟨by omega,by omega,by simp;omega,?_⟩;unfold trF at h;rw [he,q] at h;have e:((l.map gf).take (n:Int).toNat).drop (0:Int).toNat=(l.take n).map gf:=by simp [List.map_take]
  rw [e];exact jk (by simp;omega) h
 refine xp (zi (fun e=>?_) (fun e=>jT (fin ?_)))
 ·have hpos:0<n:=by have:=of_decide_eq_true e;omega
  obtain ⟨m,rfl⟩:∃ m,n=m+1:=⟨n - 1,by omega⟩;have hlt:m<l.length:=by omega
  have em:((m+1:Nat):Int) - 1=(m:Int):=by omega
  refine yK (by omega) (by omega) ?_;rw [em];refine zq m rfl (by simpa using hlt) ?_;rw [List.getElem_map];refine zi (fun e2=>?_) (fun e2=>fin ?_)
  ·have e2':l[m].xAccept=rest:=of_decide_eq_true e2;refine yK (by omega) (by omega) (hnx _ ⟨m,by omega,by omega,?_⟩ (by omega));rw [he]
   conv=>lhs;unfold trN
   rw [List.getElem?_eq_getElem hlt];simp [e2']
  have e2':¬ l[m].xAccept=rest:=of_decide_eq_false e2;unfold trN;rw [List.getElem?_eq_getElem hlt];simp [e2']
 have:n=0:=by have:=of_decide_eq_false e;omega
 subst this;rfl
theorem znv {l:List zr} {rest:Bool} (hv:IV l) (hl:l.length<=60) {O:List ja->Prop} (h:O ((shF l rest).map gf)):VI (l.map gf) rest O:=by
 have hF:=zf9 hv hl;unfold VI;refine Xt hF.fb (Zu hF.fb ?_);rw [decide_eq_true hF];refine jT (jk (by simp;omega) ?_);refine uV (fun (s:List ja)=>∃ xs:List zr,s=xs.map gf∧xs.length<=60∧IV xs∧shF xs rest=shF l rest) (fun s=>s.length) ?_ ⟨l,by simp,hl,hv,rfl⟩;rintro _ next ⟨xs,rfl,hx,hxv,he⟩ hn;have w1:=zjU xs;have w2:=zjD (zdg hxv);have w3:=zaS (rest:=rest) hxv;refine zlK hxv hx (zjo (zdg hxv) (by omega) (zlt (zof (zdg hxv)) (by omega) ?_));have hf:=zmm (rest:=rest) hxv;refine zi (fun e=>?_) (fun e=>?_)
 ·have e':(sh1 xs rest).length=xs.length:=by
   have:=of_decide_eq_true e;simp only [List.length_map] at this;have:((sh1 xs rest).length:Int)=(xs.length:Int):=this;omega
  rw [if_pos e'] at hf;rw [← he,hf] at h;exact h
 have e':¬ (sh1 xs rest).length=xs.length:=by
  have:=of_decide_eq_false e;simp only [List.length_map] at this;have:¬ ((sh1 xs rest).length:Int)=(xs.length:Int):=this;omega
 rw [if_neg e'] at hf;exact hn ((sh1 xs rest).map gf) ⟨sh1 xs rest,rfl,by omega,zcK hxv,by rw [← hf];exact he⟩ (by simp only [List.length_map];omega)
theorem zhi {s:zB} (hb:Bd s) {O:List ja×Bool->Prop} (h1:SV s->∀ l,cf s=some l->O (l.map gf,true)) (h2:(SV s->cf s=none)->O ([],false)):Uo s O:=by
 unfold Uo;refine zcS hb (ziv hb (fun hv l hl=>jT ?_) (fun q=>jz (h2 (fun hv=>by unfold cf;rw [q hv];rfl))));obtain ⟨u1,u2⟩:=ziU hv hl;exact znv u1 u2 (h1 hv _ (by unfold cf;rw [hl];rfl))
end
section
def Sx1 (l:List zk):Prop:=l.length<=1048576
def Sx2 (l:List (List zk)):Prop:=l.length<=1048576∧∀ x,x∈l->Sx1 x
def Sx3 (f:ja):Prop:=Sx2 f.xWhere.xSides
def Sx4 (l:List ja):Prop:=l.length<=1048576∧∀ f,f∈l->Sx3 f
theorem Sx4.fb {l:List ja} (h:Sx4 l):Fb l:=⟨by have:=h.1;omega,fun f hf=>⟨by have:=(h.2 f hf).1;omega,fun x hx=>by have:x.length<=1048576:=(h.2 f hf).2 x hx;omega⟩⟩
end
section
open Go Go.Proofs
def bt1 (n:Nat) (s:List zk):Option (List zI) :=
 match s with
 | [x]=>if x=⟨0,top n⟩ then some [] else some [⟨n,x.xLo,x.xHi,false⟩]
 | [x,y]=>if x.xLo=0∧y.xHi=top n then some [⟨n,x.xHi+1,y.xLo - 1,true⟩] else none
 | _=>none
def btN (a:za):Nat->Option (List zI)
 | 0=>some []
 | k+1=>match btN a k with
  | none=>none
  | some l=>match bt1 k (xR a k) with
   | none=>none
   | some m=>some (l++m)
def btF (a:za):Option (List zI):=if em4 a then none else btN a 4
def zoB:Option (List zI)->List zI×Bool
 | some l=>(l,true)
 | none=>([],false)
theorem zpO {n:Nat} {s:List zk} {l:List zI} (h:bt1 n s=some l):l.length<=1:=by
 unfold bt1 at h;split at h
 ·split at h <;> (injection h with h;subst h;simp)
 ·split at h
  ·injection h with h;subst h;simp
  cases h
 cases h
theorem ze4 {a:za}:∀ {k:Nat} {l:List zI},btN a k=some l->l.length<=k
 | 0,l,h=>by simp only [btN,Option.some.injEq] at h;subst h;simp
 | k+1,l,h=>by
  unfold btN at h
  split at h
  ·cases h
  ·rename_i l1 h1
   split at h
   ·cases h
   ·rename_i m h2
    injection h with h;subst h
    have:=ze4 h1
    have:=zpO h2
    rw [List.length_append];omega
theorem zkQ {a:za} {k n:Nat} (h:btN a k=none) (hk:k<=n):btN a n=none:=by
 induction n with
 | zero =>
  obtain rfl:k=0:=by omega
  exact h
 | succ n ih =>
  by_cases e:k=n+1
  ·subst e;exact h
  unfold btN;rw [ih (by omega)]
theorem zn9 {a:za} {k:Nat} {l:List zI} (h:btN a k=some l):btN a (k+1)=(match bt1 k (xR a k) with | none=>none | some m=>some (l++m)):=by
 conv=>lhs;unfold btN
 rw [h]
theorem zlR {n:Int} {O:Ub->Prop} (h0:0<=n) (h1:n<=3) (h:∀ e:Ub,e.xTop=top n->O e):zE zu n O:=zgK h0 h1 (fun e _=>h e)
theorem zmO {a:za} (hB:B4 a) {k:Nat} (hlt:k<4) {l:List zI} (hb:btN a k=some l) {tp:Int} (htp:tp=top k) {O:List zI×Bool->Prop} {nx:List zI×Int->Prop} (hl:l.length<=4)
  (hn:∀ m,btN a (k+1)=some m->nx (m,(k:Int)+1)) (hz:btN a (k+1)=none->O ([],false)) :
  jnW (fun (xs298:(List zI))=>je (k:Int) 1 (fun t302=>nx (xs298,t302))) (fun k301=>jnW (fun (t150:Bool)=>ifW t150 (k301 l) (ifW (decide (((xR a k).length:Int)=1)) (zE (xR a k) 0 (fun e152=>zE (xR a k) 0 (fun e154=>jQ l ([(zI.mk k e152.xLo e154.xHi false)]) (fun _=>k301 (l++([(zI.mk k e152.xLo e154.xHi false)])))))) (jnW (fun (t224:Bool)=>ifW t224 (zE (xR a k) 0 (fun e226=>je e226.xHi 1 (fun t228=>zE (xR a k) 1 (fun e229=>Y6 e229.xLo 1 (fun t231=>jQ l ([(zI.mk k t228 t231 true)]) (fun _=>k301 (l++([(zI.mk k t228 t231 true)])))))))) (O ([],false))) (fun k225=>ifW (decide (((xR a k).length:Int)=2)) (zE (xR a k) 0 (fun e160=>ifW (decide (e160.xLo=0)) (zE (xR a k) 1 (fun e162=>k225 (decide (e162.xHi=tp)))) (k225 false))) (k225 false))))) (fun k151=>ifW (decide (((xR a k).length:Int)=1)) (zE (xR a k) 0 (fun e88=>k151 (decide (e88=(zk.mk 0 tp))))) (k151 false))):=by
 subst htp;rw [zn9 hb] at hn hz;have hst:=Yq hB (show (0:Int)<=k by omega) (show (k:Int)<=3 by omega);have tl:=Ur k;generalize xR a k=s at *
 have go:∀ ys,nx (ys,(k:Int)+1)->je (k:Int) 1 (fun t302=>nx (ys,t302)):=fun ys h=>zy (by omega) (by omega) h
 refine xp ?_
 match s,hst with
 | [],_ =>
  refine xp (jT (jT (jT (xp (jT (jT ?_))))));exact hz rfl
 | [x],_ =>
  refine xp (jz (zq 0 rfl (by simp) ?_));refine zi (fun e=>?_) (fun e=>?_)
  ·have e':x=⟨0,top k⟩:=of_decide_eq_true e;refine go _ (hn _ ?_);unfold bt1;simp only;rw [if_pos e'];simp
  have e':¬ x=⟨0,top k⟩:=of_decide_eq_false e;refine jz (zq 0 rfl (by simp) (zq 0 rfl (by simp) (jk (by simp;omega) (go _ (hn _ ?_)))));unfold bt1;simp only;rw [if_neg e'];rfl
 | [x,y],hst =>
  have hx:=hst.2 x (by simp);have hy:=hst.2 y (by simp);have hx2:=hst.1.1 x (by simp);have hy2:=hst.1.1 y (by simp);refine xp (jT (jT (jT (xp (jz (zq 0 rfl (by simp) (zi (fun e=>?_) (fun e=>?_))))))))
  ·have e':x.xLo=0:=of_decide_eq_true e;refine zq 1 rfl (by simp) (zi (fun e2=>?_) (fun e2=>?_))
   ·have e2':y.xHi=top k:=of_decide_eq_true e2;refine zq 0 rfl (by simp) (zy (by simp;omega) (by simp;omega) (zq 1 rfl (by simp) (yK (by simp;omega) (by simp;omega) (jk (by simp;omega) (go _ (hn _ ?_))))));unfold bt1;simp only;rw [if_pos ⟨e',e2'⟩];rfl
   have e2':¬ y.xHi=top k:=of_decide_eq_false e2;refine hz ?_;unfold bt1;simp only;rw [if_neg (fun q=>e2' q.2)]
  have e':¬ x.xLo=0:=of_decide_eq_false e;refine jT (hz ?_);unfold bt1;simp only;rw [if_neg (fun q=>e' q.1)]
 | x :: y :: z :: r,_ =>
  refine xp (zi (fun e=>by simp at e;omega) (fun _=>jT (zi (fun e=>by simp at e;omega) (fun _=>xp (zi (fun e=>by simp at e;omega) (fun _=>jT ?_))))));exact hz rfl
theorem zgw {b:jy} (hb:Bb b) {O:List zI×Bool->Prop} (h1:BV b->O (zoB (btF (sd b)))) (h2:¬ BV b->O ([],false)):U4 b O:=by
 unfold U4;refine xp (zcB hb (zi (fun e=>?_) (fun e=>?_)))
 ·exact jz (h2 (by simpa using e))
 have hv':BV b:=by simpa using e
 refine zi3 (zg6 hv') (ze1 (zi (fun e2=>?_) (fun e2=>?_)))
 ·have:=h1 hv';unfold btF at this;rw [if_pos e2] at this;exact this
 have h3:=h1 hv';unfold btF at h3;rw [if_neg (by simp [e2])] at h3;clear h1 h2 e e2;have hB:=hv'.b4;obtain ⟨a,rfl,_⟩:=hv';rw [zqv] at h3 hB;refine zQ 4 (fun s=>s.2) (fun k (s:List zI×Int)=>s.2=(k:Int)∧k<=4∧btN a k=some s.1) (fun k s h=>h.1) (fun k s h=>h.2.1) ?_ ⟨rfl,by omega,rfl⟩;rintro k ⟨l,_⟩ next ⟨rfl,hk,hbt⟩ hn;simp only at hbt;refine zi (fun hc=>?_) (fun hc=>?_)
 ·have hlt:k<4:=by
   have:(k:Int)<4:=by simpa [bx] using hc
   omega
  have hl:=ze4 hbt;refine ZI (a:=a) (by omega) (by omega) (zlR (by omega) (by omega) (fun e he=>?_));refine zmO hB hlt hbt he (by omega) (fun m hm=>hn hlt _ ⟨by simp,by omega,hm⟩) (fun hz=>?_);rw [zkQ hz (by omega)] at h3;exact h3
 have hge:k=4:=by
  have:(4:Int)<=k:=by simpa [bx] using hc
  omega
 subst hge;rw [hbt] at h3;exact h3
theorem zgu {b:jy} (hb:Bb b) {O:List zI×Bool->Prop} (h1:BV b->O (zoB (btF (sd b)))) (h2:¬ BV b->O ([],false)):U5 b O:=by
 unfold U5;refine xp (ZF hb (zi (fun e=>?_) (fun e=>?_)))
 ·exact jz (h2 (by simpa using e))
 have hv':BV b:=by simpa using e
 have h3:=h1 hv';clear h1 h2 e;have hB:=hv'.b4;obtain ⟨a,rfl,_⟩:=hv';rw [zqv] at h3 hB;refine zbb (zi (fun e2=>?_) (fun e2=>?_))
 ·unfold btF at h3;rw [if_pos e2] at h3;exact h3
 unfold btF at h3;rw [if_neg (by simp [e2])] at h3;refine zQ 4 (fun s=>s.2) (fun k (s:List zI×Int)=>s.2=(k:Int)∧k<=4∧btN a k=some s.1) (fun k s h=>h.1) (fun k s h=>h.2.1) ?_ ⟨rfl,by omega,rfl⟩;rintro k ⟨l,_⟩ next ⟨rfl,hk,hbt⟩ hn;simp only at hbt;refine zi (fun hc=>?_) (fun hc=>?_)
 ·have hlt:k<4:=by
   have:(k:Int)<4:=by simpa using hc
   omega
  have hl:=ze4 hbt;refine ZI (a:=a) (by omega) (by omega) (xF (by omega) (by omega) ?_);refine zmO hB hlt hbt rfl (by omega) (fun m hm=>hn hlt _ ⟨by simp,by omega,hm⟩) (fun hz=>?_);rw [zkQ hz (by omega)] at h3;exact h3
 have hge:k=4:=by
  have:(4:Int)<=k:=by simpa using hc
  omega
 subst hge;rw [hbt] at h3;exact h3
def ruD (f:ja):zo:=⟨(zoB (btF (sd f.xWhere))).1,if f.xAccept then 1 else 2,0⟩
def zig (l:List ja):Prop:=FV l∧l.length<=8∧∀ f∈l,btF (sd f.xWhere)≠none
def frS (l:List ja) (rest:Bool):zB:=⟨[l.map ruD],rest⟩
theorem zkm (a:za):(zoB (btF a)).1.length<=4:=by
 cases h:btF a with
 | none=>simp [zoB]
 | some l =>
  unfold btF at h;split at h
  ·cases h
  exact ze4 h
theorem zaX {l:List ja} {rest:Bool} (hl:Fb l) {O:zB×Bool->Prop} (h1:zig l->O (frS l rest,true)) (h2:¬ zig l->O (⟨[],false⟩,false)):Yo l rest O:=by
 unfold Yo;have hl1:=hl.1;refine xp (zi (fun e=>?_) (fun e=>?_))
 ·exact jz (h2 (fun q=>by have:=q.2.1;simp at e;omega))
 have h8:l.length<=8:=by simp at e;omega
 refine zbv hl (zi (fun e2=>?_) (fun e2=>?_))
 ·exact h2 (fun q=>by simp [q.1] at e2)
 have hv':FV l:=by simpa using e2
 refine VF 0 rfl (by omega) (by omega) ?_;refine zQ l.length (fun s=>s.2) (fun k (s:List zo×Int)=>s.2=(k:Int)∧k<=l.length∧s.1=(l.take k).map ruD∧∀ f∈l.take k,btF (sd f.xWhere)≠none) (fun k s h=>h.1) (fun k s h=>h.2.1) ?_ ⟨rfl,by omega,by simp,by simp⟩;rintro k ⟨_,_⟩ next ⟨rfl,hk,hx,hno⟩ hn;simp only at hx;subst hx;refine zi (fun hc=>?_) (fun hc=>?_)
 ·have hlt:k<l.length:=by simpa using hc
  have hbv:=hv'.2 _ (List.getElem_mem hlt);refine zq k rfl hlt (zgw hbv.bb (fun _=>?_) (fun q=>absurd hbv q));have hlen:=zkm (sd l[k].xWhere);cases hbt:btF (sd l[k].xWhere) with
  | none=>exact xp (jz (jz (h2 (fun q=>q.2.2 _ (List.getElem_mem hlt) hbt))))
  | some ts =>
   have er:ruD l[k]=⟨ts,if l[k].xAccept then 1 else 2,0⟩:=by unfold ruD;rw [hbt];rfl
   rw [hbt] at hlen;have hts:ts.length<=4:=hlen;refine xp (jT (zi (fun e=>by simp at e;omega) (fun _=>xp ?_)));have go:∀ act:Int,act=(if l[k].xAccept then 1 else 2)->jQ ((l.take k).map ruD) ([(zo.mk ts act 0)]) (fun _=>je (k:Int) 1 (fun t229=>next ((((l.take k).map ruD)++([(zo.mk ts act 0)])),t229))):=by
    rintro _ rfl;refine jk (by simp;omega) (zy (by omega) (by omega) (hn hlt _ ⟨by simp,by omega,?_,fun f hf=>?_⟩))
    ·rw [List.take_succ_eq_append_getElem hlt,List.map_append,List.map_singleton,er]
    rw [List.take_succ_eq_append_getElem hlt] at hf;rcases List.mem_append.1 hf with q | q
    ·exact hno f q
    simp only [List.mem_singleton] at q;rw [q,hbt];simp
   refine zi (fun e=>go _ (by rw [e];rfl)) (fun e=>go _ (by rw [e];rfl))
 have hge:l.length<=k:=by simpa using hc
 rw [List.take_of_length_le hge] at hno ⊢;exact h1 ⟨hv',h8,hno⟩
theorem Vf {l:List ja} {rest:Bool} (hl:Fb l) {O:zB×Bool->Prop} (h1:zig l->O (frS l rest,true)) (h2:¬ zig l->O (⟨[],false⟩,false)):Yh l rest O:=by
 unfold Yh;have hl1:=hl.1;refine Xt hl (xp (Zu hl (zi (fun e2=>?_) (fun e2=>?_))))
 ·exact jz (h2 (fun q=>by simp [q.1] at e2))
 have hv':FV l:=by simpa using e2
 refine zi (fun e=>h2 (fun q=>by have:=q.2.1;simp at e;omega)) (fun e=>?_);have h8:l.length<=8:=by simp at e;omega
 refine zQ l.length (fun s=>s.2) (fun k (s:List zo×Int)=>s.2=(k:Int)∧k<=l.length∧s.1=(l.take k).map ruD∧∀ f∈l.take k,btF (sd f.xWhere)≠none) (fun k s h=>h.1) (fun k s h=>h.2.1) ?_ ⟨rfl,by omega,by simp,by simp⟩;rintro k ⟨_,_⟩ next ⟨rfl,hk,hx,hno⟩ hn;simp only at hx;subst hx;refine zi (fun hc=>?_) (fun hc=>?_)
 ·have hlt:k<l.length:=by simpa using hc
  have hbv:=hv'.2 _ (List.getElem_mem hlt);refine zq k rfl hlt (zgu hbv.bb (fun _=>?_) (fun q=>absurd hbv q));have hlen:=zkm (sd l[k].xWhere);cases hbt:btF (sd l[k].xWhere) with
  | none=>exact jz (h2 (fun q=>q.2.2 _ (List.getElem_mem hlt) hbt))
  | some ts =>
   have er:ruD l[k]=⟨ts,if l[k].xAccept then 1 else 2,0⟩:=by unfold ruD;rw [hbt];rfl
   rw [hbt] at hlen;have hts:ts.length<=4:=hlen;refine jT (xp (zq k rfl hlt ?_));have go:∀ act:Int,act=(if l[k].xAccept then 1 else 2)->jQ ((l.take k).map ruD) ([(zo.mk ts act 0)]) (fun _=>je (k:Int) 1 (fun t229=>next ((((l.take k).map ruD)++([(zo.mk ts act 0)])),t229))):=by
    rintro _ rfl;refine jk (by simp;omega) (zy (by omega) (by omega) (hn hlt _ ⟨by simp,by omega,?_,fun f hf=>?_⟩))
    ·rw [List.take_succ_eq_append_getElem hlt,List.map_append,List.map_singleton,er]
    rw [List.take_succ_eq_append_getElem hlt] at hf;rcases List.mem_append.1 hf with q | q
    ·exact hno f q
    simp only [List.mem_singleton] at q;rw [q,hbt];simp
   refine zi (fun e=>go _ (by rw [e];rfl)) (fun e=>go _ (by rw [e];rfl))
 have hge:l.length<=k:=by simpa using hc
 rw [List.take_of_length_le hge] at hno ⊢;exact h1 ⟨hv',h8,hno⟩
end
section
open Go Go.Proofs
theorem znG (x:zk) (v:Int):hv [x] v↔x.xLo<=v∧v<=x.xHi:=by simp [hv]
theorem zq7 (x y:zk) (v:Int):hv [x,y] v↔(x.xLo<=v∧v<=x.xHi)∨(y.xLo<=v∧v<=y.xHi):=by simp [hv]
theorem znP {n:Nat} (hn:n<4) {s:List zk} (hs:St s (top n)) {m:List zI} (h:bt1 n s=some m):(∀ t∈m,TV t)∧∀ p,pv p->(ft m p=true↔hv s (XM p n)):=by
 have hfl:∀ p,pv p->0<=XM p n∧XM p n<=top n:=fun p hp=>by
  obtain ⟨h0,h1,h2,h3⟩:=hp;rcases Ui hn with rfl | rfl | rfl | rfl
  ·exact h0
  ·exact h1
  ·exact h2
  exact h3
 unfold bt1 at h;split at h
 ·rename_i x;have hx:=hs.2 x (by simp);have hx2:=hs.1.1 x (by simp);split at h
  ·rename_i e;injection h with h;subst h;refine ⟨by simp,fun p hp=>?_⟩;rw [znG,e];have:=hfl p hp;simp [ft,this]
  injection h with h;subst h;refine ⟨fun t ht=>?_,fun p hp=>?_⟩
  ·rw [List.mem_singleton] at ht;subst ht;exact ⟨by simp only;omega,by simp only;omega,hx.1,hx2,hx.2⟩
  rw [znG];simp [ft,th]
 ·rename_i x y;have hx:=hs.2 x (by simp);have hx2:=hs.1.1 x (by simp);have hy:=hs.2 y (by simp);have hy2:=hs.1.1 y (by simp);have hg:x.xHi+1<y.xLo:=(List.pairwise_cons.1 hs.1.2).1 y (by simp);split at h
  ·rename_i e;injection h with h;subst h;refine ⟨fun t ht=>?_,fun p hp=>?_⟩
   ·rw [List.mem_singleton] at ht;subst ht;exact ⟨by simp only;omega,by simp only;omega,by simp only;omega,by simp only;omega,by simp only;omega⟩
   rw [zq7];have:=hfl p hp;simp only [ft,th,List.all_cons,List.all_nil,Bool.and_true,bne_iff_ne,ne_eq,decide_eq_true_eq,Int.toNat_natCast];omega
  cases h
 cases h
theorem zkS {a:za} (ha:B4 a):∀ {k:Nat} {l:List zI},k<=4->btN a k=some l->(∀ t∈l,TV t)∧∀ p,pv p->(ft l p=true↔∀ n:Nat,n<k->hv (xR a n) (XM p n))
 | 0,l,_,h=>by
  simp only [btN,Option.some.injEq] at h;subst h
  exact ⟨by simp,fun p _=>by simp [ft]⟩
 | k+1,l,hk,h=>by
  unfold btN at h
  split at h
  ·cases h
  ·rename_i l1 h1
   split at h
   ·cases h
   ·rename_i m h2
    injection h with h;subst h
    obtain ⟨a1,b1⟩:=zkS ha (by omega) h1
    obtain ⟨a2,b2⟩:=znP (show k<4 by omega) (Yq ha (by omega) (by omega)) h2
    refine ⟨fun t ht=>(List.mem_append.1 ht).elim (a1 t) (a2 t),fun p hp=>?_⟩
    have e:ft (l1++m) p=(ft l1 p && ft m p):=by simp [ft]
    rw [e,Bool.and_eq_true,b1 p hp,b2 p hp]
    constructor
    ·rintro ⟨q1,q2⟩ n hn
     by_cases en:n=k
     ·subst en;exact q2
     ·exact q1 n (by omega)
    ·intro q
     exact ⟨fun n hn=>q n (by omega),q k (by omega)⟩
theorem zkY {a:za} (ha:B4 a) {l:List zI} (h:btF a=some l):TsV l∧∀ p,pv p->(ft l p=true↔hb4 a p):=by
 unfold btF at h;split at h
 ·cases h
 obtain ⟨h1,h2⟩:=zkS ha (by decide) h;have:=ze4 h;exact ⟨⟨h1,by omega⟩,fun p hp=>by rw [h2 p hp,zdB]⟩
theorem zg4 {l:List ja} {rest:Bool} (h:zig l):SV (frS l rest):=by
 have h8:=h.2.1;have nocall:∀ i j,¬ Ca (frS l rest).xChains i j:=fun i j ⟨c,hc,r,hr,h3,_⟩=>by
  have hc':=List.mem_of_getElem? hc;simp only [frS,List.mem_singleton] at hc';subst hc';obtain ⟨f,hf,rfl⟩:=List.mem_map.1 hr;unfold ruD at h3;simp only at h3;split at h3 <;> omega
 refine ⟨⟨by simp [frS],fun c hc=>?_⟩,by simp [frS],fun i _=>zgU (fun j hj=>absurd hj (nocall i j))⟩;simp only [frS,List.mem_singleton] at hc;subst hc;refine ⟨by simpa using h8,fun r hr=>?_⟩;obtain ⟨f,hf,rfl⟩:=List.mem_map.1 hr;refine ⟨⟨?_,?_⟩,by simp [ruD,frS]⟩
 ·cases hbt:btF (sd f.xWhere) with
  | none=>exact absurd hbt (h.2.2 f hf)
  | some ts =>
   unfold ruD;rw [hbt];exact (zkY (h.1.2 f hf).b4 hbt).1
 unfold HV ruD;simp only;split <;> decide
def jf (l:List zr) (rest:Bool) (p:zZ):Bool:=match l[fw l p]? with | some f=>f.xAccept | none=>rest
theorem zqw {f:Nat->Int} {p:zZ} (hp:pv p):∀ (l:List ja),FV l->(∀ f∈l,btF (sd f.xWhere)≠none)->jl p f (l.map ruD)=(match (l.map fl)[fw (l.map fl) p]? with | some g=>if g.xAccept then 1 else 2 | none=>5)
 | [],_,_=>by simp [jl,fw]
 | x :: l,hv',hb=>by
  have hbv:=hv'.2 x (by simp)
  cases hbt:btF (sd x.xWhere) with
  | none=>exact absurd hbt (hb x (by simp))
  | some ts =>
   have hs:=(zkY hbv.b4 hbt).2 p hp
   have er:ruD x=⟨ts,if x.xAccept then 1 else 2,0⟩:=by unfold ruD;rw [hbt];rfl
   have ih:=zqw (f:=f) hp l ⟨by have:=hv'.1;simp at this;omega,fun g hg=>hv'.2 g (by simp [hg])⟩ (fun g hg=>hb g (by simp [hg]))
   simp only [List.map_cons,jl,er]
   by_cases hh:hb4 (sd x.xWhere) p
   ·rw [if_pos (hs.2 hh)]
    have e0:fw (fl x :: l.map fl) p=0:=by
     unfold fw;rw [List.findIdx_cons];simp [fl,hh]
    rw [e0]
    simp only [List.getElem?_cons_zero,fl]
    cases x.xAccept <;> simp
   ·rw [if_neg (fun q=>hh (hs.1 q)),ih]
    have e0:fw (fl x :: l.map fl) p=fw (l.map fl) p+1:=by
     unfold fw;rw [List.findIdx_cons];simp [fl,hh]
    rw [e0,List.getElem?_cons_succ]
theorem zqV {l:List ja} {rest:Bool} {p:zZ} (hp:pv p) (h:zig l):jdg (frS l rest) p=jf (l.map fl) rest p:=by
 have hsv:=zg4 (rest:=rest) h;have hJ:=zn5 (p:=p) hsv.cn hsv.2.2 0;have ec:chn (frS l rest).xChains 0=l.map ruD:=rfl;rw [ec,zqw hp l h.1 h.2.2] at hJ;unfold jdg jf;rw [hJ];cases (l.map fl)[fw (l.map fl) p]? with
 | none=>simp [frS]
 | some g=>cases hg:g.xAccept <;> simp [hg]
theorem zpV {l:List jy} {seed:Int} (h0:0<=seed) (h1:seed<=1048576) (hl:l.length<=1000) (hv':∀ b∈l,BV b) {O:zZ->Prop} (h:∀ p,O p):zaO l seed O:=by
 unfold zaO;refine VS h0 (by omega) (by omega) (fun a _ _=>zj4 h0 (by omega) (by omega) (fun b b0 b1=>VS b0 (by omega) (by omega) (fun c _ _=>VS h0 (by omega) (by omega) (fun d _ _=>VS h0 (by omega) (by omega) (fun e _ _=>?_)))));refine zQ l.length (fun s=>s.2) (fun k (s:List Int×Int)=>s.2=(k:Int)∧k<=l.length∧s.1.length=4) (fun k s h=>h.1) (fun k s h=>h.2.1) ?_ ⟨rfl,by omega,rfl⟩;rintro k ⟨vs,_⟩ next ⟨rfl,hk,hvs⟩ hn;simp only at hvs;refine zi (fun hc=>?_) (fun hc=>?_)
 ·have hlt:k<l.length:=by simpa using hc
  obtain ⟨bb,hbb,hB,hF⟩:=hv' _ (List.getElem_mem hlt);refine zQ 4 (fun s=>s.2) (fun j (s:List Int×Int)=>s.2=(j:Int)∧j<=4∧s.1.length=4) (fun k s h=>h.1) (fun k s h=>h.2.1) ?_ ⟨rfl,by omega,hvs⟩;rintro j ⟨ws,_⟩ next2 ⟨rfl,hj,hws⟩ hn2;simp only at hws;have fin:ifW (decide (j=4)) (je (k:Int) 1 (fun t245=>next (ws,t245))) True:=by
   refine zi (fun _=>zy (by omega) (by omega) (hn hlt _ ⟨by simp,by omega,hws⟩)) (fun _=>trivial)
  refine xp (zi (fun e=>zq k rfl hlt ?_) (fun e=>?_))
  ·have hj4:j<4:=by
    have:(j:Int)<4:=by simpa using e
    omega
   rw [hbb];refine zi (fun _=>?_) (fun e2=>by simp [bx] at e2;omega);refine xp (zq k rfl hlt ?_);rw [hbb];have step:∀ ys:List Int,ys.length=4->je (j:Int) 1 (fun t244=>next2 (ys,t244)):=fun ys hy=>zy (by omega) (by omega) (hn2 hj4 _ ⟨by simp,by omega,hy⟩)
   refine ZI (a:=bb) (by omega) (by omega) ?_;have hfl:(xR bb j).length<=40:=ziL.1 hF _ (by omega) (by omega);generalize xR bb j=sj at hfl;have go:sj≠[]->je seed (j:Int) (fun t167=>zcD t167 (sj.length:Int) (fun t168=>zE sj t168 (fun e169=>zE ws (j:Int) (fun e173=>je seed (k:Int) (fun t176=>zcD t176 2 (fun t177=>ifW (decide (t177=0)) (zE (ws.set ((j:Int)).toNat e169.xLo) (j:Int) (fun e178=>je (j:Int) 1 (fun t244=>next2 (((ws.set ((j:Int)).toNat e169.xLo).set ((j:Int)).toNat e169.xHi),t244)))) (je (j:Int) 1 (fun t244=>next2 ((ws.set ((j:Int)).toNat e169.xLo),t244))))))))):=fun hne=>by
    have hpos:=List.length_pos_iff.2 hne;refine zy (by omega) (by omega) (VS (by omega) (by omega) (by omega) (fun z z0 z1=>Zp z0 z1 (fun x hx=>zq j rfl (by omega) (zy (by omega) (by omega) (VS (by omega) (by omega) (by omega) (fun y y0 y1=>zi (fun _=>?_) (fun _=>step _ (by simp [hws]))))))));exact znC (by omega) (step _ (by simp [hws]))
   refine xp (zi (fun e3=>jz (step ws hws)) (fun e3=>?_));have hne:sj≠[]:=fun q=>by rw [q] at e3;simp at e3
   refine zy (by omega) (by omega) (zy (by omega) (by omega) (VS (by omega) (by omega) (by omega) (fun z z0 z1=>zi (fun _=>step ws hws) (fun _=>go hne))))
  have hj4:j=4:=by
   have:(4:Int)<=j:=by simpa using e
   omega
  exact jT (fin.1 (by simp [hj4]))
 exact zq 0 rfl (by omega) (zq 1 rfl (by omega) (zq 2 rfl (by omega) (zq 3 rfl (by omega) (h _))))
end
section
open Go Go.Proofs
def dcd:List zr->zZ->Option Bool
 | [],_=>none
 | f :: l,p=>if hb4 f.xWhere p then some f.xAccept else dcd l p
theorem zaT (l m:List zr) (p:zZ):dcd (l++m) p=(dcd l p).or (dcd m p):=by
 induction l with
 | nil=>simp [dcd]
 | cons f l ih =>
  simp only [List.cons_append,dcd];split
  ·simp
  exact ih
theorem znF {l:List zr} {p:zZ}:dcd l p=none↔¬ hbs (whs l) p:=by
 induction l with
 | nil=>simp [dcd,whs,hbs]
 | cons f l ih =>
  have e:hbs (whs (f :: l)) p↔hb4 f.xWhere p∨hbs (whs l) p:=by
   have:=Ux [f.xWhere] (whs l) p;rw [zch] at this;exact this
  rw [e];unfold dcd;split
  ·rename_i h;simp [h]
  rename_i h;rw [ih];simp [h]
theorem zmT (f:zr) (p:zZ):dcd [f] p=if hb4 f.xWhere p then some f.xAccept else none:=rfl
theorem zly (l:List zr) (rest:Bool) (p:zZ):jf l rest p=(dcd l p).getD rest:=by
 induction l with
 | nil=>simp [jf,dcd]
 | cons f l ih =>
  unfold dcd;by_cases h:hb4 f.xWhere p
  ·have e0:fw (f :: l) p=0:=by
    unfold fw;rw [List.findIdx_cons];simp [h]
   unfold jf;rw [e0,if_pos h];rfl
  have e0:fw (f :: l) p=fw l p+1:=by
   unfold fw;rw [List.findIdx_cons];simp [h]
  unfold jf at ih ⊢;rw [e0,if_neg h,List.getElem?_cons_succ];exact ih
theorem zpI (l:List za) (a:Bool) (p:zZ):dcd (dec l a) p=if hbs l p then some a else none:=by
 induction l with
 | nil=>simp [dec,dcd,hbs]
 | cons b l ih =>
  have e:hbs (b :: l) p↔hb4 b p∨hbs l p:=by
   have:=Ux [b] l p;rw [zch] at this;exact this
  show (if hb4 b p then some a else dcd (dec l a) p)=_;rw [ih];by_cases h:hb4 b p
  ·rw [if_pos h,if_pos (e.2 (.inl h))]
  rw [if_neg h];by_cases h2:hbs l p
  ·rw [if_pos h2,if_pos (e.2 (.inr h2))]
  rw [if_neg h2,if_neg (fun q=>(e.1 q).elim h h2)]
theorem zrE {t:zI} (ht:TV t) {x:Int} (h0:0<=x) (h1:x<=top t.xField):hv (tsp t) x↔(decide (t.xLo<=x∧x<=t.xHi) != t.xNot)=true:=by
 obtain ⟨_,_,h3,h4,h5⟩:=ht;have hone:hv [(⟨t.xLo,t.xHi⟩:zk)] x↔t.xLo<=x∧x<=t.xHi:=by simp [hv]
 unfold tsp;cases hn:t.xNot with
 | true =>
  rw [if_pos rfl,zfW (zje h3 h4 h5),hone];by_cases q:t.xLo<=x∧x<=t.xHi
  ·simp [q]
  simp [q,h0,h1]
 | false =>
  rw [if_neg (by simp),hone];by_cases q:t.xLo<=x∧x<=t.xHi
  ·simp [q]
  simp [q]
theorem zoK {p:zZ} (hp:pv p) {n:Nat} (hn:n<4):0<=XM p n∧XM p n<=top n:=by
 obtain ⟨h0,h1,h2,h3⟩:=hp;rcases Ui hn with rfl | rfl | rfl | rfl
 ·exact h0
 ·exact h1
 ·exact h2
 exact h3
theorem zba (a:za) (n:Nat) (hn:n<4) (x:List zk) (m:Nat) (hm:m<4):xR (Vq a n x) m=if m=n then x else xR a m:=by
 rcases Ui hn with rfl | rfl | rfl | rfl <;> rcases Ui hm with rfl | rfl | rfl | rfl <;> rfl
theorem zpC {a:za} {t:zI} {p:zZ} (ht:TV t) (hp:pv p):hb4 (zkg a t) p↔hb4 a p∧th t p=true:=by
 obtain ⟨n,hn⟩:=Int.eq_ofNat_of_zero_le ht.1;have hn4:n<4:=by have:=ht.2.1;omega
 have hf:=zoK hp hn4;have key:=zrE ht (x:=XM p n) hf.1 (by rw [hn];exact hf.2);unfold zkg;rw [hn,zdB,zdB];have eth:th t p=(decide (t.xLo<=XM p n∧XM p n<=t.xHi) != t.xNot):=by unfold th;rw [hn];rfl
 rw [eth,← key];constructor
 ·intro h;have hn2:=h n hn4;rw [zba _ _ hn4 _ _ hn4,if_pos rfl,Uh] at hn2;refine ⟨fun m hm=>?_,hn2.2⟩;by_cases e:m=n
  ·subst e;exact hn2.1
  have:=h m hm;rw [zba _ _ hn4 _ _ hm,if_neg e] at this;exact this
 rintro ⟨h,h2⟩ m hm;rw [zba _ _ hn4 _ _ hm];by_cases e:m=n
 ·subst e;rw [if_pos rfl,Uh];exact ⟨h _ hm,h2⟩
 rw [if_neg e];exact h m hm
theorem zmY {p:zZ} (hp:pv p):∀ {ts:List zI} {a:za},(∀ t∈ts,TV t)->(hb4 (ts.foldl zkg a) p↔hb4 a p∧ft ts p=true)
 | [],a,_=>by simp [ft]
 | t :: ts,a,h=>by
  rw [List.foldl_cons,zmY hp (fun u hu=>h u (by simp [hu])),zpC (h t (by simp)) hp]
  simp only [ft,List.all_cons,Bool.and_eq_true,and_assoc]
theorem zmp {p:zZ} (hp:pv p):hb4 zcJ p:=by
 obtain ⟨h0,h1,h2,h3⟩:=hp;exact ⟨⟨_,List.mem_singleton.2 rfl,h0⟩,⟨_,List.mem_singleton.2 rfl,h1⟩,⟨_,List.mem_singleton.2 rfl,h2⟩,⟨_,List.mem_singleton.2 rfl,h3⟩⟩
theorem zpg {p:zZ} (hp:pv p) {ts:List zI} (h:∀ t∈ts,TV t):hb4 (XE ts) p↔ft ts p=true:=by
 unfold XE;rw [zmY hp h];exact ⟨fun q=>q.2,fun q=>⟨zmp hp,q⟩⟩
def Wyp (inn lf:Prop) (j:Int) (d:Option Bool) (ot:Prop):Prop :=
 (lf->d=none∧ot)∧(¬ lf->¬ inn->d=none∧¬ ot)∧(¬ lf->inn->(j=1->d=some true∧¬ ot)∧(j=2->d=some false∧¬ ot)∧(j=5->d=none∧ot))
theorem zeH {p:zZ} (hp:pv p) {call:Nat->List za->List zr->UR} {jcall:Nat->Int} (hj:∀ i,jcall i=1∨jcall i=2∨jcall i=5)
  (hcall:∀ i b o b' o',aB b->call i b o=some (b',o')->aB b'∧∃ n,o'=o++n∧Wyp (hbs b p) False (jcall i) (dcd n p) (hbs b' p)) :
  ∀ {l:List zo} {going left:List za} {out:List zr} {r:List za} {o:List zr},(∀ r∈l,∀ t∈r.xTests,TV t)->aB going->aB left->¬ (hbs left p∧hbs going p)->url call l going left out=some (r,o)->aB r∧∃ n,o=out++n∧Wyp (hbs going p) (hbs left p) (jl p jcall l) (dcd n p) (hbs r p)
 | [],going,left,out,r,o,_,hg,hl,hne,h=>by
  unfold url at h
  split at h
  ·injection h with h;injection h with h1 h2;subst h1 h2
   refine ⟨Vg.2 ⟨hl,hg⟩,[],by simp,?_⟩
   rw [Ux]
   unfold Wyp jl dcd
   refine ⟨fun q=>⟨rfl,.inl q⟩,fun q1 q2=>⟨rfl,fun q=>q.elim q1 q2⟩,fun q1 q2=>⟨fun e=>by omega,fun e=>by omega,fun _=>⟨rfl,.inr q2⟩⟩⟩
  ·cases h
 | x :: rs,going,left,out,r,o,ht,hg,hl,hne,h=>by
  have hw:=zdy (ht x (by simp))
  have hwp:=zpg hp (ht x (by simp))
  have htr:∀ r∈rs,∀ t∈r.xTests,TV t:=fun y hy=>ht y (by simp [hy])
  have hfB:=zjc hg hw
  have hmB:=zbw hg hw
  have hfp:=zp3 (bs:=going) (w:=XE x.xTests) p
  have hmp:=zk1 hg hw p
  unfold url at h
  unfold jl
  generalize XE x.xTests=w at *
  generalize YN going w=fit at *
  generalize ue going w=miss at *
  split at h
  ·split at h
   ·rename_i q ha
    split at h
    ·obtain ⟨g1,n,rfl,g2⟩:=zeH hp hj hcall htr hmB hl (fun q=>hne ⟨q.1,(hmp.1 q.2).1⟩) h
     refine ⟨g1,dec fit (decide (x.xAction=1))++n,by simp,?_⟩
     rw [zaT,zpI]
     unfold Wyp at g2 ⊢
     obtain ⟨a1,a2,a3⟩:=g2
     rw [hmp] at a2 a3
     by_cases c1:hbs left p
     ·have c2:¬ hbs going p:=fun q=>hne ⟨c1,q⟩
      rw [if_neg (fun q=>c2 (hfp.1 q).1)]
      refine ⟨fun _=>a1 c1,fun q=>absurd c1 q,fun q=>absurd c1 q⟩
     ·refine ⟨fun q=>absurd q c1,fun _ c2=>?_,fun _ c2=>?_⟩
      ·rw [if_neg (fun q=>c2 (hfp.1 q).1)]
       exact a2 c1 (fun q=>c2 q.1)
      ·by_cases c3:hb4 w p
       ·rw [if_pos (hfp.2 ⟨c2,c3⟩),if_pos (hwp.1 c3)]
        have a2':=a2 c1 (fun q=>q.2 c3)
        refine ⟨fun e=>⟨?_,a2'.2⟩,fun e=>⟨?_,a2'.2⟩,fun e=>?_⟩
        ·split at e
         ·rename_i e1;simp [e1]
         ·split at e
          ·omega
          ·rename_i e1 e2;exact absurd ha (by omega)
        ·split at e
         ·omega
         ·rename_i e1;simp [e1]
        ·split at e
         ·omega
         ·split at e
          ·omega
          ·rename_i e1 e2;exact absurd ha (by omega)
       ·rw [if_neg (fun q=>c3 (hfp.1 q).2),if_neg (fun q=>c3 (hwp.2 q))]
        exact a3 c1 ⟨c2,c3⟩
    ·cases h
   ·rename_i q ha
    rw [if_neg (show ¬ x.xAction=1 from fun e=>ha (.inl e)),if_neg (show ¬ x.xAction=2 from fun e=>ha (.inr e))]
    split at h
    ·rename_i h4
     rw [if_pos h4]
     have hne2:¬ (hbs (left++fit) p∧hbs miss p):=fun q=>by
      have m:=hmp.1 q.2
      rcases (Ux left fit p).1 q.1 with q1 | q1
      ·exact hne ⟨q1,m.1⟩
      ·exact m.2 (hfp.1 q1).2
     obtain ⟨g1,n,rfl,g2⟩:=zeH hp hj hcall htr hmB (Vg.2 ⟨hl,hfB⟩) hne2 h
     refine ⟨g1,n,rfl,?_⟩
     unfold Wyp at g2 ⊢
     obtain ⟨a1,a2,a3⟩:=g2
     rw [Ux,hfp] at a1 a2 a3
     rw [hmp] at a2 a3
     refine ⟨fun c1=>a1 (.inl c1),fun c1 c2=>a2 (fun q=>q.elim c1 (fun q=>c2 q.1)) (fun q=>c2 q.1),fun c1 c2=>?_⟩
     by_cases c3:hb4 w p
     ·rw [if_pos (hwp.1 c3)]
      exact ⟨fun e=>by omega,fun e=>by omega,fun _=>a1 (.inr ⟨c2,c3⟩)⟩
     ·rw [if_neg (fun q=>c3 (hwp.2 q))]
      exact a3 (fun q=>q.elim c1 (fun q=>c3 q.2)) ⟨c2,c3⟩
    ·rename_i h4
     rw [if_neg h4]
     split at h
     ·rename_i h3
      rw [if_pos h3]
      split at h
      ·cases h
      ·rename_i b o' hb
       obtain ⟨k1,n1,rfl,k2⟩:=hcall _ _ _ _ _ hfB hb
       split at h
       ·have hbm:hbs b p->hbs fit p:=fun q=>by
         by_cases c:hbs fit p
         ·exact c
         ·exact absurd q (k2.2.1 (fun f=>f) c).2
        have hne2:¬ (hbs left p∧hbs (miss++b) p):=fun q=>by
         rcases (Ux miss b p).1 q.2 with q1 | q1
         ·exact hne ⟨q.1,(hmp.1 q1).1⟩
         ·exact hne ⟨q.1,(hfp.1 (hbm q1)).1⟩
        obtain ⟨g1,n,rfl,g2⟩:=zeH hp hj hcall htr (Vg.2 ⟨hmB,k1⟩) hl hne2 h
        refine ⟨g1,n1++n,by simp,?_⟩
        rw [zaT]
        unfold Wyp at g2 k2 ⊢
        obtain ⟨a1,a2,a3⟩:=g2
        obtain ⟨_,b2,b3⟩:=k2
        have b2:=b2 (fun f=>f)
        have b3:=b3 (fun f=>f)
        rw [Ux,hmp] at a2 a3
        rw [hfp] at b2 b3 hbm
        refine ⟨fun c1=>?_,fun c1 c2=>?_,fun c1 c2=>?_⟩
        ·rw [(b2 (fun q=>hne ⟨c1,q.1⟩)).1];exact a1 c1
        ·rw [(b2 (fun q=>c2 q.1)).1]
         exact a2 c1 (fun q=>q.elim (fun q=>c2 q.1) (fun q=>c2 (hbm q).1))
        ·by_cases c3:hb4 w p
         ·rw [if_pos (hwp.1 c3)]
          obtain ⟨d1,d2,d5⟩:=b3 ⟨c2,c3⟩
          rcases hj x.xChain.toNat with e | e | e
          ·have d:=d1 e
           rw [if_neg (by omega),e,d.1]
           have a:=a2 c1 (fun q=>q.elim (fun q=>q.2 c3) d.2)
           exact ⟨fun _=>⟨rfl,a.2⟩,fun e=>by omega,fun e=>by omega⟩
          ·have d:=d2 e
           rw [if_neg (by omega),e,d.1]
           have a:=a2 c1 (fun q=>q.elim (fun q=>q.2 c3) d.2)
           exact ⟨fun e=>by omega,fun _=>⟨rfl,a.2⟩,fun e=>by omega⟩
          ·have d:=d5 e
           rw [if_pos e,d.1]
           exact a3 c1 (.inr d.2)
         ·rw [if_neg (fun q=>c3 (hwp.2 q)),(b2 (fun q=>c3 q.2)).1]
          exact a3 c1 (.inl ⟨c2,c3⟩)
       ·cases h
     ·rename_i h3
      rw [if_neg h3]
      split at h
      ·have hne2:¬ (hbs left p∧hbs (miss++fit) p):=fun q=>by
        rcases (Ux miss fit p).1 q.2 with q1 | q1
        ·exact hne ⟨q.1,(hmp.1 q1).1⟩
        ·exact hne ⟨q.1,(hfp.1 q1).1⟩
       obtain ⟨g1,n,rfl,g2⟩:=zeH hp hj hcall htr (Vg.2 ⟨hmB,hfB⟩) hl hne2 h
       refine ⟨g1,n,rfl,?_⟩
       have e:hbs (miss++fit) p↔hbs going p:=by
        rw [Ux,hmp,hfp]
        by_cases c3:hb4 w p <;> simp [c3]
       rw [e] at g2
       have:(if ft x.xTests p=true then jl p jcall rs else jl p jcall rs)=jl p jcall rs:=by split <;> rfl
       rw [this]
       exact g2
      ·cases h
  ·cases h
theorem zn0 {cs:List (List zo)} (ht:TVs cs) {p:zZ} (hp:pv p):∀ n i b o b' o',aB b->uc cs n i b o=some (b',o')->aB b'∧∃ m,o'=o++m∧Wyp (hbs b p) False (jc cs p n i) (dcd m p) (hbs b' p)
 | 0,i,b,o,b',o',_,h=>by cases h
 | n+1,i,b,o,b',o',hb,h=>by
  obtain ⟨g1,m,g2,g3⟩:=zeH hp (zjp n) (zn0 ht hp n) (ht.chn i) hb zjZ (fun q=>zbE p q.1) h
  refine ⟨g1,m,g2,?_⟩
  have e:hbs [] p↔False:=⟨zbE p,False.elim⟩
  rw [e] at g3
  exact g3
theorem zqS {s:zB} (hs:SV s) {l:List zr} (h:uf s=some l) {p:zZ} (hp:pv p):jdg s p=jf l s.xAccept p:=by
 unfold uf at h;cases hU:U s.xChains 0 [zcJ] [] with
 | none=>rw [hU] at h;cases h
 | some bo =>
  obtain ⟨b,o⟩:=bo;rw [hU] at h;simp only [Option.map_some,Option.some.injEq] at h;subst h;obtain ⟨_,n,hn,_,_,g3⟩:=zn0 hs.tvs hp _ _ _ _ _ _ zgJ hU;simp only [List.nil_append] at hn;subst hn;obtain ⟨d1,d2,d5⟩:=g3 (fun f=>f) ((zch _ _).2 (zmp hp));rw [zly];unfold jdg;show (if J s.xChains p 0=1 then true else if J s.xChains p 0=2 then false else s.xAccept)=_;have e:jc s.xChains p (jN s.xChains+1) 0=J s.xChains p 0:=rfl;rw [e] at d1 d2 d5;rcases zq3 s.xChains p 0 with e | e | e
  ·rw [(d1 e).1,if_pos e];rfl
  ·rw [(d2 e).1,if_neg (by omega),if_pos e];rfl
  rw [(d5 e).1,if_neg (by omega),if_neg (by omega)];rfl
theorem zmL {l:List zr} (hv:IV l) (p:zZ):∀ k,k<=l.length->dcd (wdN l k) p=dcd (l.take k) p
 | 0,_=>rfl
 | k+1,hk=>by
  have hlt:k<l.length:=by omega
  have ih:=zmL hv p k (by omega)
  rw [List.take_succ_eq_append_getElem hlt,zaT]
  by_cases hd:dd l k=true
  ·rw [zjN hlt hd,ih]
   have hdo:=zoZ hlt
   rw [hd] at hdo
   have hlv:zlG l k hlt=some []:=by simpa using hdo.symm
   unfold zlG at hlv
   have hk2:=hv _ (List.getElem_mem hlt)
   have:=znY hk2.1 (hv.take k).aB hlv p
   cases e:dcd (l.take k) p with
   | some b=>rfl
   | none =>
    rw [znF] at e
    have:¬ hb4 l[k].xWhere p:=fun q=>zbE p (this.2 ⟨q,e⟩)
    rw [zmT,if_neg this];rfl
  ·rw [zlr hlt (by simpa using hd),zaT,ih]
theorem zqb {l:List zr} (hv:IV l) (p:zZ):dcd (wdF l) p=dcd l p:=by
 unfold wdF;rw [zmL hv p _ (Nat.le_refl _),List.take_length]
theorem zoG {a b:za} (ha:B4 a) (hb:B4 b) (h:in4 a b=true) {p:zZ} (hp:hb4 a p):hb4 b p:=by
 have hc:=(zjf ha hb).2 h;have:=zjv ha hb p;rw [hc] at this;by_cases q:hb4 b p
 ·exact q
 exact absurd (this.2 ⟨hp,q⟩) (zbE p)
theorem zmi {a b:za} {n:Nat} (h:zdG a b=[n]) {m:Nat} (hm:m<4) (hne:m≠n):xR a m=xR b m:=by
 by_cases q:xR a m=xR b m
 ·exact q
 have:m∈zdG a b:=List.mem_filter.2 ⟨by simpa using hm,by simpa using q⟩;rw [h,List.mem_singleton] at this;exact absurd this hne
theorem zrK {a b x:za} (ha:B4 a) (hb:B4 b) (h:mg a b=some x) (p:zZ):hb4 x p↔hb4 a p∨hb4 b p:=by
 unfold mg at h;split at h
 ·rename_i e;injection h with h;subst h;exact ⟨.inr,fun q=>q.elim (zoG ha hb e) id⟩
 split at h
 ·rename_i e;injection h with h;subst h;exact ⟨.inl,fun q=>q.elim id (zoG hb ha e)⟩
 split at h
 ·rename_i n hn;obtain ⟨h4,_⟩:=zgC hn;split at h
  ·injection h with h;subst h;have hu:=zdq (Yq ha (show (0:Int)<=n by omega) (show (n:Int)<=3 by omega)) (Yq hb (show (0:Int)<=n by omega) (show (n:Int)<=3 by omega)) (XM p n);rw [zdB,zdB,zdB];constructor
   ·intro q;have qn:=q n h4;rw [zba _ _ h4 _ _ h4,if_pos rfl] at qn;unfold uni at qn;rw [hu] at qn;refine qn.imp (fun qa m hm=>?_) (fun qb m hm=>?_)
    ·by_cases e:m=n
     ·subst e;exact qa
     have:=q m hm;rw [zba _ _ h4 _ _ hm,if_neg e] at this;exact this
    by_cases e:m=n
    ·subst e;exact qb
    have:=q m hm;rw [zba _ _ h4 _ _ hm,if_neg e,zmi hn hm e] at this;exact this
   intro q m hm;rw [zba _ _ h4 _ _ hm];by_cases e:m=n
   ·subst e;rw [if_pos rfl];unfold uni;rw [hu];exact q.imp (fun q=>q _ hm) (fun q=>q _ hm)
   rw [if_neg e];exact q.elim (fun q=>q m hm) (fun q=>by rw [zmi hn hm e];exact q m hm)
  cases h
 cases h
theorem zrf {x y z:zr} (hx:B4 x.xWhere) (hy:B4 y.xWhere) (h:pm x y=some z) (p:zZ):dcd [z] p=dcd [x,y] p:=by
 unfold pm at h;split at h
 ·rename_i ea;cases e:mg x.xWhere y.xWhere with
  | none=>rw [e] at h;cases h
  | some w =>
   rw [e] at h;simp only [Option.map_some,Option.some.injEq] at h;subst h;have:=zrK hx hy e p;simp only [dcd];by_cases c1:hb4 x.xWhere p
   ·rw [if_pos c1,if_pos (this.2 (.inl c1))]
   rw [if_neg c1];by_cases c2:hb4 y.xWhere p
   ·rw [if_pos c2,if_pos (this.2 (.inr c2)),ea]
   rw [if_neg c2,if_neg (fun q=>(this.1 q).elim c1 c2)]
 cases h
theorem zm9 {l:List zr} (hv:IV l) {k:Nat} {z:zr} (h:pmA l k=some z) (p:zZ):dcd (zaD l k z) p=dcd l p:=by
 have hk:=zeh h;rw [zgF hk] at h;have e1:l=l.take k++([l[k],l[k+1]]++l.drop (k+2)):=by
  have:=List.take_append_drop k l;rw [List.drop_eq_getElem_cons (show k<l.length by omega),List.drop_eq_getElem_cons hk] at this;exact this.symm
 have:=zrf (hv _ (List.getElem_mem (show k<l.length by omega))).1 (hv _ (List.getElem_mem hk)).1 h p
 conv=>rhs;rw [e1]
 unfold zaD;rw [List.append_assoc,zaT,zaT,this,← zaT,← zaT]
theorem zpD {l:List zr} {k:Nat} {z:zr} (h:fp l=some (k,z)):pmA l k=some z:=(zmf h).1
theorem zmX (p:zZ):∀ (n:Nat) {l:List zr},IV l->dcd (mgN n l) p=dcd l p
 | 0,l,_=>rfl
 | n+1,l,h=>by
  unfold mgN
  cases e:fp l with
  | none=>rfl
  | some kz =>
   obtain ⟨k,z⟩:=kz
   have hkz:=zpD e
   show dcd (mgN n (zaD l k z)) p=_
   rw [zmX p n (ze7 h hkz),zm9 h hkz]
theorem zpq {l:List zr} (h:IV l) (p:zZ):dcd (mgF l) p=dcd l p:=zmX p _ h
theorem zmF {l:List zr} {rest:Bool} (p:zZ):∀ n,n<=l.length->(dcd (l.take (trN l rest n)) p).getD rest=(dcd (l.take n) p).getD rest
 | 0,_=>rfl
 | n+1,hn=>by
  have hlt:n<l.length:=by omega
  have ih:=zmF (l:=l) (rest:=rest) p n (by omega)
  unfold trN
  rw [List.getElem?_eq_getElem hlt]
  simp only
  split
  ·rename_i e
   have e':l[n].xAccept=rest:=of_decide_eq_true e
   rw [ih,List.take_succ_eq_append_getElem hlt,zaT]
   cases hd:dcd (l.take n) p with
   | some b=>rfl
   | none =>
    rw [zmT]
    split
    ·rw [e'];rfl
    ·rfl
  ·rfl
theorem zp0 {l:List zr} {rest:Bool} (p:zZ):(dcd (trF l rest) p).getD rest=(dcd l p).getD rest:=by
 unfold trF;rw [zmF p _ (Nat.le_refl _),List.take_length]
theorem zjG {l:List zr} {rest:Bool} (h:IV l) (p:zZ):(dcd (sh1 l rest) p).getD rest=(dcd l p).getD rest:=by
 unfold sh1;rw [zp0,zpq (zdg h),zqb h]
theorem zmx {rest:Bool} (p:zZ):∀ {n:Nat} {l:List zr},IV l->(dcd (shN rest n l) p).getD rest=(dcd l p).getD rest
 | 0,l,h=>zjG h p
 | n+1,l,h=>by
  unfold shN
  split
  ·exact zjG h p
  ·rw [zmx p (zcK h),zjG h]
theorem zpY {l:List zr} {rest:Bool} (h:IV l) (p:zZ):jf (shF l rest) rest p=jf l rest p:=by
 rw [zly,zly];exact zmx p h
theorem zqR {s:zB} (hs:SV s) {l:List zr} (h:cf s=some l) {p:zZ} (hp:pv p):jdg s p=jf l s.xAccept p:=by
 unfold cf at h;cases e:uf s with
 | none=>rw [e] at h;cases h
 | some u =>
  rw [e] at h;simp only [Option.map_some,Option.some.injEq] at h;subst h;rw [zpY (ziU hs e).1,zqS hs e hp]
theorem zrP {s:zB} {l:List zr} (h:cf s=some l):∃ u,uf s=some u:=by
 unfold cf at h;cases e:uf s with
 | none=>rw [e] at h;cases h
 | some u=>exact ⟨u,rfl⟩
end
section
open Go Go.Proofs
open Classical in
noncomputable def cv (s:zB):Option (List zr):=if SV s then cf s else none
theorem zjw {s:zB} {l:List zr} (h:cv s=some l):SV s∧cf s=some l:=by
 unfold cv at h;split at h
 ·rename_i q;exact ⟨q,h⟩
 cases h
theorem zqz {s:zB} (hs:SV s):cv s=cf s:=by unfold cv;rw [if_pos hs]
theorem zqs {s:zB} {l:List zr} (h:cv s=some l):IV l∧l.length<=60:=zqp (zjw h).1 (zjw h).2
end
section
open Go Go.Proofs
theorem zpX {s:zB} (hb:Bd s) {O:List ja×Bool->Prop} (h1:∀ l,cv s=some l->O (l.map gf,true)) (h2:cv s=none->O ([],false)):Uo s O :=
 zhi hb (fun hs l hl=>h1 l (by rw [zqz hs];exact hl)) (fun q=>h2 (by
  unfold cv
  split
  ·rename_i hs;exact q hs
  ·rfl))
end
section
open Go Go.Proofs
theorem zpW {s:zB} (hb:Bd s) {O:List ja×Bool->Prop} (h1:∀ l,cv s=some l->O (l.map gf,true)) (h2:cv s=none->O ([],false)):Uk s O :=
 zie hb (fun hs l hl=>h1 l (by rw [zqz hs];exact hl)) (fun q=>h2 (by
  unfold cv
  split
  ·rename_i hs;exact q hs
  ·rfl))
end
section
open Go.Lib (decDigits)
def lsG:Nat->List (List zo)->List (List UInt8)
 | _,[]=>[]
 | k,c :: cs=>(chl k :: c.map Y9)++lsG (k+1) cs
def rl (s:zB):List (List UInt8):=dft s :: lsG 0 s.xChains
theorem zlZ:∀ (k:Nat) (a:List (List zo)),(lsG k a).map B=lsF k a
 | _,[]=>rfl
 | k,c :: cs=>by simp only [lsG,lsF,List.map_append,List.map_cons,List.map_map,zlZ (k+1) cs];rfl
theorem zo8 (s:zB):(rl s).map B=VT s:=by simp only [rl,VT,List.map_cons,zlZ]
theorem zns (cs:List (List zo)) (c:List zo) (r:zo):zei (cs++[c]) r=cs++[c++[r]]:=by
 rw [zas (cs++[c]) r cs.length (by simp)];simp
theorem zmZ {cs:List (List zo)} {r:zo} (h0:cs≠[]) (hr:RV r):VL cs (Y9 r)=some (zei cs r):=by
 unfold VL;have hne:Y9 r≠chl cs.length:=fun e=>by
  have:=zoH hr;rw [e,zom] at this;cases this
 rw [if_neg hne,zoH hr];simp [h0]
theorem zf2:∀ (c:List zo) (cs:List (List zo)) (c0:List zo),(∀ r,r∈c->RV r)->Ug (cs++[c0]) (c.map Y9)=some (cs++[c0++c])
 | [],cs,c0,_=>by simp [Ug]
 | r :: c,cs,c0,h=>by
  simp only [List.map_cons,Ug]
  rw [zmZ (by simp) (h r (by simp)),zns]
  simp only
  rw [zf2 c cs (c0++[r]) (fun x hx=>h x (by simp [hx]))]
  simp
theorem zi7:∀ (a cs:List (List zo)),(∀ c,c∈a->∀ r,r∈c->RV r)->Ug cs (lsG cs.length a)=some (cs++a)
 | [],cs,_=>by simp [lsG,Ug]
 | c :: a,cs,h=>by
  simp only [lsG,List.cons_append,Ug]
  have e:VL cs (chl cs.length)=some (cs++[[]]):=by simp [VL]
  rw [e]
  simp only
  rw [zdE,zf2 c cs [] (h c (by simp))]
  simp only [List.nil_append]
  have e2:cs.length+1=(cs++[c]).length:=by simp
  rw [e2,zi7 a (cs++[c]) (fun x hx=>h x (by simp [hx]))]
  simp
theorem zpp (s:zB):dfl (dft s)=some s.xAccept:=by
 unfold dfl dft;cases s.xAccept <;> simp [zjV,zgR]
theorem zno {s:zB} (h:SV s):XL (rl s)=some (s.xChains,s.xAccept):=by
 simp only [rl,XL,zpp];have:=zi7 s.xChains [] (fun c hc r hr=>((h.1.2 c hc).2 r hr).1);simp only [List.length_nil,List.nil_append] at this;rw [this]
theorem zoI (a:List ByteArray):∃ ls:List (List UInt8),a=ls.map B:=⟨a.map (fun x=>x.data.toList),by
 rw [List.map_map]
 conv=>lhs;rw [← List.map_id a]
 exact List.map_congr_left (fun x _=>(zsn x).symm)⟩
theorem zr1 {s:zB} (hv:SV s):Bl (rl s)∧(rl s).length<=100:=by
 obtain ⟨hw,hl,_⟩:=zfC hv;rw [← zo8] at hw hl;simp only [List.length_map] at hl;refine ⟨⟨by omega,fun l hl=>?_⟩,by omega⟩;have:=hw.2 (B l) (List.mem_map.2 ⟨l,hl,rfl⟩);rw [Xr] at this;omega
theorem zr5 {ls:List (List UInt8)} (h:Bw (ls.map B)):ls.length<=1000∧∀ l,l∈ls->l.length<=5000:=⟨by simpa using h.1,fun l hl=>by have:=h.2 (B l) (List.mem_map.2 ⟨l,hl,rfl⟩);rwa [Xr] at this⟩
end
section
open Go Go.Proofs
open Classical in
noncomputable def rdl (ls:List (List UInt8)):Option zB:=match XL ls with
 | some (cs,b)=>if SV ⟨cs,b⟩ then some ⟨cs,b⟩ else none
 | none=>none
theorem zde {ls:List (List UInt8)} {s:zB} (h:rdl ls=some s):XL ls=some (s.xChains,s.xAccept)∧SV s:=by
 unfold rdl at h;split at h
 ·rename_i cs b e;split at h
  ·rename_i q;injection h with h;subst h;exact ⟨e,q⟩
  cases h
 cases h
theorem zlw {ls:List (List UInt8)} {cs:List (List zo)} {b:Bool} (h:XL ls=some (cs,b)) (hv:SV ⟨cs,b⟩):rdl ls=some ⟨cs,b⟩:=by
 unfold rdl;rw [h];exact if_pos hv
theorem zhb {ls:List (List UInt8)} (hb:Bl ls) {O:zB×Bool->Prop} (h1:∀ s,rdl ls=some s->O (s,true)) (h2:rdl ls=none->O (⟨[],false⟩,false)):yy (ls.map B) O:=by
 refine zd8 hb (fun st cs a e1 e2=>h1 _ ?_) (fun hno=>h2 ?_)
 ·cases ls with
  | nil=>simp only [ZR,Option.some.injEq,Prod.mk.injEq] at e1;obtain ⟨_,rfl,rfl⟩:=e1;exact absurd e2 zrO
  | cons l ls=>exact zlw (zis (by simp) e1) e2
 cases e:rdl ls with
 | none=>rfl
 | some s =>
  obtain ⟨e1,e2⟩:=zde e;obtain ⟨st,h3⟩:=zil e1 e2;exact absurd e2 (hno _ _ _ h3)
theorem znS {ls:List (List UInt8)} (hb:Bl ls) {O:zB×Bool->Prop} (h1:∀ s,rdl ls=some s->O (s,true)) (h2:rdl ls=none->O (⟨[],false⟩,false)):Xa (ls.map B) O:=by
 refine zd5 hb (fun cs a e1 e2=>h1 _ (zlw e1 e2)) (fun hno=>h2 ?_);cases e:rdl ls with
 | none=>rfl
 | some s =>
  obtain ⟨e1,e2⟩:=zde e;exact absurd e2 (hno _ _ e1)
open Classical in
noncomputable def ctR (ls:List (List UInt8)):Option zB:=match rdl ls with
 | none=>none
 | some s=>match cv s with
  | none=>none
  | some l=>if zig (l.map gf) then some (frS (l.map gf) s.xAccept) else none
theorem zo6 {ls:List (List UInt8)} {x:zB} (h:ctR ls=some x):∃ s l,rdl ls=some s∧cv s=some l∧zig (l.map gf)∧x=frS (l.map gf) s.xAccept:=by
 unfold ctR at h;split at h
 ·cases h
 rename_i s hs;split at h
 ·cases h
 rename_i l hl;split at h
 ·rename_i q;injection h with h;exact ⟨s,l,hs,hl,q,h.symm⟩
 cases h
theorem zeg {ls:List (List UInt8)} (hb:Bl ls) {O:List ByteArray×Bool->Prop} (h1:∀ x,ctR ls=some x->O (VT x,true)) (h2:ctR ls=none->O ([],false)):Yp (ls.map B) O:=by
 unfold Yp;unfold ctR at h1 h2;refine zhb hb (fun s hs=>jT ?_) (fun q=>jz (h2 (by rw [q])));have hbs:=(zde hs).2.bs;refine zpW hbs.bd (fun l hl=>jT ?_) (fun q=>jz (h2 (by rw [hs];simp only [q])));obtain ⟨i1,i2⟩:=zqs hl;have hF:=zf9 i1 i2;by_cases h:zig (l.map gf)
 ·refine zaX hF.fb (fun _=>jT ?_) (fun q=>absurd h q);have hx:=zg4 (rest:=s.xAccept) h;refine zef hx.bs.bd (fun _=>h1 _ ?_) (fun q=>absurd hx q);rw [hs];simp only [hl];exact if_pos h
 refine zaX hF.fb (fun q=>absurd q h) (fun _=>jz (h2 ?_));rw [hs];simp only [hl];exact if_neg h
theorem zbe {ls:List (List UInt8)} (hb:Bl ls) {O:List ByteArray×Bool->Prop} (h1:∀ x,ctR ls=some x->O (VT x,true)) (h2:ctR ls=none->O ([],false)):Yu (ls.map B) O:=by
 unfold Yu;unfold ctR at h1 h2;refine znS hb (fun s hs=>jT ?_) (fun q=>jz (h2 (by rw [q])));have hbs:=(zde hs).2.bs;refine zpX hbs.bd (fun l hl=>?_) (fun q=>?_)
 ·obtain ⟨i1,i2⟩:=zqs hl;have hF:=zf9 i1 i2;by_cases h:zig (l.map gf)
  ·refine Vf hF.fb (fun _=>xp (jT (jT ?_))) (fun q=>absurd h q);have hx:=zg4 (rest:=s.xAccept) h;refine zaY hx.bs.bd (fun _=>h1 _ ?_) (fun q=>absurd hx q);rw [hs];simp only [hl];exact if_pos h
  refine Vf hF.fb (fun q=>absurd q h) (fun _=>xp (jT (jz (h2 ?_))));rw [hs];simp only [hl];exact if_neg h
 have h0:O ([],false):=h2 (by rw [hs];simp only [q]);have hF:FV []:=⟨by simp,by simp⟩;exact Vf hF.fb (fun _=>xp (jz (jz h0))) (fun _=>xp (jz (jz h0)))
theorem zjk {l:List ja} {rest:Bool} (h:zig l) {O:Int->Prop} (hO:O 0):Uw (frS l rest) 0 O:=by
 have hv:=zg4 (rest:=rest) h;unfold Uw;refine xp (yR hv.bs.bd (fun t ht=>?_));have et:t=true:=ht.2 hv;subst et;refine jT (jT (zi (fun e=>by simp [frS] at e) (fun _=>?_)));refine ⟨1,?_⟩;show VB _ _ _ _;unfold VB;have h0:=hv.1.2 (l.map ruD) (by simp [frS]);refine zq 0 rfl (by simp [frS]) (zfx h0.1 (fun r hr=>(h0.2 r hr).1) (fun ys hyl hys=>?_));have:ys=[]:=by
  cases ys with
  | nil=>rfl
  | cons y ys =>
   obtain ⟨r,hr,h3,_⟩:=(hys y).1 (by simp);obtain ⟨f,hf,rfl⟩:=List.mem_map.1 hr;unfold ruD at h3;simp only at h3;split at h3 <;> omega
 subst this;refine ⟨1,?_⟩;exact jT hO
theorem zel (code more:List UInt8):Up code more (fun r=>r=true):=by
 unfold Up;refine xp (zi (fun _=>jz rfl) (fun _=>zi (fun _=>rfl) (fun hm=>?_)));have hml:more.length<=1048576:=by simp at hm;omega
 unfold Yw;refine znf (fun b hb=>zlI hb (by omega) (fun ls p' hbw=>?_));obtain ⟨ls,rfl⟩:=zoI ls;have bl:Bl ls:=by
  obtain ⟨b1,b2⟩:=zr5 hbw;exact ⟨by omega,fun l hl=>by have:=b2 l hl;omega⟩
 refine zeg bl (fun x hx=>zbe bl (fun y hy=>?_) (fun q=>by rw [hx] at q;cases q)) (fun q=>zbe bl (fun y hy=>by rw [q] at hy;cases hy) (fun _=>?_))
 ·rw [hx] at hy;injection hy with hy;subst hy;obtain ⟨s,l,hs,hl,hok,rfl⟩:=zo6 hx;have hsv:=(zde hs).2;have hxv:=zg4 (rest:=s.xAccept) hok;obtain ⟨_,hc⟩:=zjw hl;obtain ⟨u,hu⟩:=zrP hc;obtain ⟨u1,u2⟩:=ziU hsv hu;have hFu:=zf9 u1 u2;have hlen:=(zfC hxv).2.1;refine xp (zcY (by omega) (jT (zi (fun e=>by simp at e) (fun _=>jT ?_))));refine zhb bl (fun s2 hs2=>?_) (fun q=>by rw [hs] at q;cases q);rw [hs] at hs2;injection hs2 with hs2;subst hs2;rw [← zo8];have hr:=zlw (zno hxv) hxv;refine zhb (zr1 hxv).1 (fun x2 hx2=>?_) (fun q=>by rw [hr] at q;cases q);rw [hr] at hx2;injection hx2 with hx2;subst hx2;refine ziA hsv.bs.bd (fun _ v hv=>?_) (fun q=>by rw [q hsv] at hu;cases hu);rw [hu] at hv;injection hv with hv;subst hv;refine zfV hFu.fb (fun _=>?_) (fun q=>absurd hFu q);refine zpV (by omega) (by omega) (by simp;omega) (fun x hx=>by obtain ⟨f,hf,rfl⟩:=List.mem_map.1 hx;exact hFu.2 f hf) (fun p=>xp ?_);refine jz (jz (zi (fun _=>?_) (fun e=>by simp [frS] at e)));refine zjk (rest:=s.xAccept) hok (jz ?_);by_cases hp:pv p
  ·refine zaN hxv.bs.bd (fun _ _=>zaN hsv.bs.bd (fun _ _=>?_) (fun q=>absurd ⟨hsv,hp⟩ q)) (fun q=>absurd ⟨hxv,hp⟩ q);have e1:=zqV (rest:=s.xAccept) hp hok;rw [znz,← zqR hsv hc hp] at e1;refine zi (fun _=>?_) (fun e=>?_)
   ·simp [frS]
   have:=of_decide_eq_false e;exact absurd e1 this
  refine zaN hxv.bs.bd (fun _ q=>absurd q hp) (fun _=>zaN hsv.bs.bd (fun _ q=>absurd q hp) (fun _=>?_));refine jz ?_;simp [frS]
 refine xp (zcY (by simp) (jT (zi (fun e=>by simp at e) (fun _=>jz (xp ?_)))));exact zi (fun _=>zpk rfl) (fun e=>by simp at e)
end
end Go.Proofs.YtgpdnnhmndlljaaGreatDoor
