import Derived.Test.YtgpdnnhmndlljaaGreatDoorMP1
set_option linter.unusedSimpArgs false
set_option linter.unusedVariables false
set_option linter.unusedSectionVars false
namespace Go.Proofs.YtgpdnnhmndlljaaGreatDoor
section
open Go.Lib (decDigits)
theorem zkH {ts:List zI} {acc:List UInt8} {O:ByteArray->Prop} (hv:∀ t,t∈ts->TV t) (hl:ts.length<=6) (ha:acc.length<=100) (h:O (B (acc++tl ts))) :
  jg (fun (nx81:(ByteArray×Int)->Prop) ((t79,t80):(ByteArray×Int))=>ifW (decide (t80<(ts.length:Int))) (uY t79 (ByteArray.mk #[44,32]) (fun s82=>zE ts t80 (fun e83=>uH e83 (fun r85=>uY s82 r85 (fun s86=>je t80 1 (fun t87=>nx81 (s86,t87))))))) (O t79)) (B acc,0):=by
 refine zQ ts.length (fun s=>s.2) (fun k s=>s=(B (acc++tl (ts.take k)),(k:Int))∧k<=ts.length) (fun k s h=>by rw [h.1]) (fun k s h=>h.2) ?_ ⟨by simp [tl],Nat.zero_le _⟩;rintro k _ next ⟨rfl,hk⟩ hn;have htl:=zhZ (ts.take k) (fun t ht=>hv t (List.mem_of_mem_take ht));simp only [List.length_take] at htl;refine zi (fun hc=>?_) (fun hc=>?_)
 ·have hlt:k<ts.length:=by simpa using hc
  have htv:=hv _ (List.getElem_mem hlt);have htt:=zeo htv;refine yq (m:=[44,32]) (by simp;omega) (zq k rfl hlt (zaz ?_));rw [zhM,if_pos htv];refine yq (by simp;omega) (zy (by omega) (by omega) (hn hlt _ ⟨?_,by omega⟩));rw [List.take_succ_eq_append_getElem hlt,zjF];simp [tl]
 have hge:ts.length<=k:=by simpa using hc
 rw [List.take_of_length_le hge];exact h
theorem V7 {r:zo} {O:ByteArray->Prop} (hv:RV r) (h:O (B (Y9 r))):Z0 r O:=by
 obtain ⟨⟨v1,v2⟩,v3,v4,v5,v6⟩:=id hv;unfold Z0 uD;have key:∀ w:List UInt8,w.length<=30->hd r.xAction r.xChain=w->jg (fun (nx81:(ByteArray×Int)->Prop) ((t79,t80):(ByteArray×Int))=>ifW (decide (t80<(r.xTests.length:Int))) (zE r.xTests t80 (fun e82=>yc e82 (fun r86=>uY (ByteArray.mk #[44,32]) r86 (fun s87=>uY t79 s87 (fun s88=>je t80 1 (fun t89=>nx81 (s88,t89))))))) (O t79)) (B w,0) :=
  fun w hw e=>zoS v1 v2 (by omega) (by rw [← e];exact h)
 rcases zlf v3 v4 with e | e | e | e | e
 ·simp only [e,decide_true,ua,xe.casesW,yz,jnW];refine zi (fun x=>by simp at x) (fun _=>key [97,99,99,101,112,116] (by simp) (by simp [hd,aw,e]))
 ·simp only [e,decide_true,ua,xe.casesW,yz,jnW];refine zi (fun x=>by simp at x) (fun _=>?_);simp only [xZ];refine zi (fun x=>by simp at x) (fun _=>key [100,114,111,112] (by simp) (by simp [hd,aw,e]))
 ·have hc:=v5 e;have hd1:=zaA (n:=r.xChain.toNat) (by omega);simp only [e,decide_true,ua,xe.casesW,ZK,jnW];refine zi (fun x=>by simp at x) (fun _=>zi (fun x=>by simp at x) (fun _=>?_));refine zhG (by omega) (by omega) (yq (l:=[32]) (by simp;omega) (yq (l:=[99,97,108,108]) (by simp;omega) (key ([99,97,108,108]++([32]++decDigits r.xChain.toNat)) (by simp;omega) (by simp [hd,aw,e]))))
 ·simp only [e,decide_true,ua,xe.casesW,yY,jnW];refine zi (fun x=>by simp at x) (fun _=>zi (fun x=>by simp at x) (fun _=>zi (fun x=>by simp at x) (fun _=>?_)));refine zi (fun x=>by simp at x) (fun _=>key [114,101,116,117,114,110] (by simp) (by simp [hd,aw,e]))
 simp only [e,decide_true,ua,xe.casesW,ZM,jnW];refine zi (fun x=>by simp at x) (fun _=>zi (fun x=>by simp at x) (fun _=>zi (fun x=>by simp at x) (fun _=>zi (fun x=>by simp at x) (fun _=>?_))));refine zi (fun x=>by simp at x) (fun _=>key [110,111,110,101] (by simp) (by simp [hd,aw,e]))
theorem zsy {a:Int} {O:ByteArray->Prop} (h0:1<=a) (h1:a<=5) (h:O (B (aw a))):zE ([(ByteArray.mk #[97,99,99,101,112,116]),(ByteArray.mk #[100,114,111,112]),(ByteArray.mk #[99,97,108,108]),(ByteArray.mk #[114,101,116,117,114,110]),(ByteArray.mk #[110,111,110,101])]) (a - 1) O:=by
 rcases zlf h0 h1 with rfl | rfl | rfl | rfl | rfl
 ·exact zq 0 rfl (by decide) h
 ·exact zq 1 rfl (by decide) h
 ·exact zq 2 rfl (by decide) h
 ·exact zq 3 rfl (by decide) h
 exact zq 4 rfl (by decide) h
theorem Yx {r:zo} {O:ByteArray->Prop} (hl:r.xTests.length<=4294967296) (h:O (B (zdQ r))):uI r O:=by
 unfold uI;refine zbT hl (zi (fun hc=>?_) (fun hc=>?_))
 ·simp at hc;rw [zdQ,if_neg hc] at h;exact h
 simp at hc;rw [zdQ,if_pos hc] at h;obtain ⟨⟨v1,v2⟩,v3,v4,v5,v6⟩:=id hc;have hal:=zjR r.xAction;refine yK (by omega) (by omega) (zsy v3 v4 ?_);unfold jnW;refine zi (fun hc2=>?_) (fun hc2=>?_)
 ·simp at hc2;have hcc:=v5 hc2;have hd1:=zaA (n:=r.xChain.toNat) (by omega);refine yq (m:=[32]) (by simp;omega) (Yf (by omega) (by omega) (yq (by simp;omega) (zkH v1 v2 (by simp;omega) ?_)));simpa [Y9,hd,hc2] using h
 simp at hc2;refine zkH v1 v2 (by omega) ?_;simpa [Y9,hd,hc2] using h
end
section
open Go.Lib (decDigits)
theorem zra {a:Int} {K:ByteArray->Prop} (h0:1<=a) (h1:a<=5) (h:K (B (aw a))):uD (zo.mk [] a 0) (fun r10=>xe.casesW r10 (fun x=>yz x K) (fun x=>ZK x K) (fun x=>yY (ub.mk ) K) (fun x=>ZM (yj.mk ) K)):=by
 unfold uD;rcases zlf h0 h1 with rfl | rfl | rfl | rfl | rfl
 ·refine zi (fun _=>?_) (fun e=>by simp at e);exact zi (fun _=>h) (fun e=>by simp at e)
 ·refine zi (fun e=>by simp at e) (fun _=>zi (fun _=>?_) (fun e=>by simp at e));exact zi (fun e=>by simp at e) (fun _=>h)
 ·refine zi (fun e=>by simp at e) (fun _=>zi (fun e=>by simp at e) (fun _=>zi (fun _=>h) (fun e=>by simp at e)))
 ·refine zi (fun e=>by simp at e) (fun _=>zi (fun e=>by simp at e) (fun _=>zi (fun e=>by simp at e) (fun _=>zi (fun _=>h) (fun e=>by simp at e))))
 refine zi (fun e=>by simp at e) (fun _=>zi (fun e=>by simp at e) (fun _=>zi (fun e=>by simp at e) (fun _=>zi (fun e=>by simp at e) (fun _=>h))))
theorem zju {a b:Int} {r s:List UInt8} (ha:1<=a∧a<=5) (hb:1<=b∧b<=5) (h:aw a++r=aw b++s):a=b:=by
 rcases zlf ha.1 ha.2 with rfl | rfl | rfl | rfl | rfl <;> rcases zlf hb.1 hb.2 with rfl | rfl | rfl | rfl | rfl <;> first | rfl | (simp [aw] at h)
theorem zkC {l:List UInt8} {O:zo×Bool×Int->Prop} (hl:l.length<=100000000000)
  (h1:∀ a:Int,1<=a->a<=5->a≠3->∀ r,l=aw a++r->O (zo.mk [] a 0,true,((aw a).length:Int)))
  (h2:∀ r,l=aw 3++32 :: r->O (zo.mk [] 3 (val (run 6 r):Int),decide (run 6 r≠[]),(((aw 3).length+1+(run 6 r).length:Nat):Int)))
  (h3:∀ r,l=aw 3++r->(∀ r',r≠32 :: r')->O (zo.mk [] 3 0,false,((aw 3).length:Int)))
  (hz:(∀ a:Int,1<=a->a<=5->∀ r,l≠aw a++r)->O (zo.mk [] 0 0,false,0)):yn (B l) 0 O:=by
 unfold yn;refine U3 1 6 (fun s=>s.2) (fun k s=>s=(0,(k:Int))∧1<=k∧k<=6∧∀ i:Nat,1<=i->i<k->∀ r,l≠aw (i:Int)++r) (fun k s h=>by rw [h.1]) (fun k s h=>h.2.2.1) ?_ ⟨rfl,Nat.le_refl _,by omega,fun i hi=>by omega⟩;rintro k _ next ⟨rfl,hk1,hk,he⟩ hn;refine zi (fun hc=>?_) (fun hc=>?_)
 ·have hk5:k<=5:=by simp at hc;omega
  have hal:=zjR (k:Int);unfold jnW;refine zra (by omega) (by omega) (zbh 0 rfl (Nat.zero_le _) (by omega) (by omega) (fun r e=>?_) (fun hno=>?_))
  ·simp only [Bool.not_true,xZ];rw [List.drop_zero] at e;refine zi (fun h3'=>?_) (fun h3'=>?_)
   ·simp at h3';have:=h1 (k:Int) (by omega) (by omega) (by omega) r e;simpa using this
   have e3:k=3:=by simp at h3';omega
   subst e3;rw [Nat.zero_add];have hll:(aw ((3:Nat):Int)).length<=l.length:=by rw [e];simp
   have dr:l.drop (aw ((3:Nat):Int)).length=r:=by rw [e];exact zah rfl
   refine zbh (w:=[32]) (aw ((3:Nat):Int)).length rfl hll (by omega) (by simp) (fun r' e'=>?_) (fun hno=>?_)
   ·simp only [ua];rw [dr] at e';have hm:(aw ((3:Nat):Int)).length+([32]:List UInt8).length<=l.length:=by rw [e,e'];simp
    refine zcU _ rfl hm (by omega) ?_;have d2:l.drop ((aw ((3:Nat):Int)).length+([32]:List UInt8).length)=r':=by rw [← List.drop_drop,dr,e'];rfl
    rw [d2];exact h2 r' (by rw [e,e'];rfl)
   simp only [xZ];rw [dr] at hno;exact h3 r e (fun r' e'=>hno r' (by simpa using e'))
  simp only [Bool.not_false,ua];refine zy (by omega) (by omega) (hn (by omega) _ ⟨by simp,by omega,by omega,fun i i1 i2 r e=>?_⟩);by_cases hik:i=k
  ·subst hik;exact hno r (by simpa using e)
  exact he i i1 (by omega) r e
 have hge:k=6:=by simp at hc;omega
 subst hge;refine hz (fun a a1 a2 r e=>?_);obtain ⟨i,rfl⟩:=Int.eq_ofNat_of_zero_le (show 0<=a by omega);exact he i (by omega) (by omega) r e
theorem zok {l:List UInt8} {O:zo×Bool×Int->Prop} (hl:l.length<=100000000000)
  (h:∀ (a c:Int) (ok:Bool) (m:Nat),m<=l.length->O (zo.mk [] a c,ok,(m:Int))):yn (B l) 0 O:=by
 refine zkC hl (fun a a1 a2 a3 r e=>h _ _ _ _ (by rw [e];simp)) (fun r e=>h _ _ _ _ ?_) (fun r e _=>h _ _ _ _ (by rw [e];simp)) (fun _=>h _ _ _ 0 (Nat.zero_le _));have:=(zfi 6 r).2;rw [e];simp;omega
theorem znH {l r:List UInt8} {a c:Int} {O:zo×Bool×Int->Prop} (hv:HV a c) (hr:zoe r) (el:l=hd a c++r) (hl:l.length<=100000000000)
  (h:O (zo.mk [] a c,true,((hd a c).length:Int))):yn (B l) 0 O:=by
 obtain ⟨a1,a2,a3,a4⟩:=hv;have el':l=aw a++((if a=3 then 32 :: decDigits c.toNat else [])++r):=by rw [el,hd,List.append_assoc]
 refine zkC hl (fun b b1 b2 b3 s e=>?_) (fun s e=>?_) (fun s e hno=>?_) (fun hno=>absurd el' (hno a a1 a2 _))
 ·have:=zju ⟨a1,a2⟩ ⟨b1,b2⟩ (el'.symm.trans e);subst this;rw [a4 b3] at h;simpa [hd,b3] using h
 ·have:=zju ⟨a1,a2⟩ ⟨by omega,by omega⟩ (el'.symm.trans e);subst this;rw [el'] at e;simp only [if_true,List.cons_append,List.append_cancel_left_eq,List.cons.injEq,true_and] at e;subst e;have hc:=a3 rfl;rw [zgI (by omega) hr.dg,decide_eq_true (zfr _),zbD];have ec:((c.toNat:Nat):Int)=c:=by omega
  rw [ec];have en:(aw 3).length+1+(decDigits c.toNat).length=(hd 3 c).length:=by simp [hd];omega
  rw [en];exact h
 have:=zju ⟨a1,a2⟩ ⟨by omega,by omega⟩ (el'.symm.trans e);subst this;rw [el'] at e;simp only [if_true,List.cons_append,List.append_cancel_left_eq] at e;exact absurd e.symm (hno _)
theorem zmI (ts:List zI):zoe (tl ts):=by
 intro c m e;cases ts with
 | nil=>cases e
 | cons t ts=>rw [zdC] at e;cases e;rfl
theorem zgx {l:List UInt8} {O:zo×Bool->Prop} (hl:l.length<=100000000000) (hz:O (zo.mk [] 0 0,false)) (h:∀ r,RV r->Y9 r=l->O (r,true)):ZD (B l) O:=by
 unfold ZD;refine zok hl (fun a c ok m hm=>zi (fun _=>hz) (fun _=>?_));refine uV (fun s=>∃ (m:Nat),s.2=(m:Int)∧m<=l.length∧s.1.length<=6) (fun s=>7 - s.1.length) ?_ ⟨m,rfl,hm,by simp⟩;rintro ⟨xs,_⟩ next ⟨m,rfl,hm,hx⟩ hn;simp only at hx;unfold yQ jnW;refine zi (fun hc=>?_) (fun hc=>?_)
 ·refine zi (fun h6=>by simp only [ua];exact hz) (fun h6=>?_);simp at h6;refine zbh (w:=[44,32]) m rfl hm (by omega) (by simp) (fun r e=>?_) (fun _=>by simp only [Bool.not_false,ua];exact hz);have hm2:m+([44,32]:List UInt8).length<=l.length:=by have:=congrArg List.length e;simp at this;simp;omega
  simp only [Bool.not_true,xZ];refine zgQ _ rfl hm2 hl (fun t m' hf q1 q2=>?_) (fun m' q1 q2=>by simp only [Bool.not_false,ua];exact hz);simp only [Bool.not_true,xZ];refine jk (by simp;omega) (hn _ ⟨m',rfl,q2,by simp;omega⟩ (by simp;omega))
 simp only [ua];refine V6 (by simp only;omega) (zi (fun _=>hz) (fun hv=>?_));simp at hv;refine V7 hv (zi (fun _=>hz) (fun he=>?_));simp [zjb] at he;exact h _ hv he
theorem zgj {r:zo} {O:zo×Bool->Prop} (hv:RV r) (h:O (r,true)):ZD (B (Y9 r)) O:=by
 have hl:=zeY hv;obtain ⟨⟨v1,v2⟩,v3⟩:=id hv;unfold ZD;refine znH v3 (zmI _) rfl (by omega) ?_;simp only [Bool.not_true,xZ];refine zQ r.xTests.length (fun s=>(s.1.length:Int)) (fun k s=>s=(r.xTests.take k,((hd r.xAction r.xChain++tl (r.xTests.take k)).length:Int))∧k<=r.xTests.length) (fun k s h=>by rw [h.1];simp;omega) (fun k s h=>h.2) ?_ ⟨by simp [tl],Nat.zero_le _⟩;rintro k _ next ⟨rfl,hk⟩ hn;have esplit:Y9 r=(hd r.xAction r.xChain++tl (r.xTests.take k))++tl (r.xTests.drop k):=by
  rw [Y9,List.append_assoc,← zjF,List.take_append_drop]
 have hlen:(Y9 r).length=(hd r.xAction r.xChain++tl (r.xTests.take k)).length+(tl (r.xTests.drop k)).length:=by rw [esplit,List.length_append]
 unfold yQ jnW;rw [Xr];by_cases hlt:k<r.xTests.length
 ·have hd1:r.xTests.drop k=r.xTests[k] :: r.xTests.drop (k+1):=List.drop_eq_getElem_cons hlt;have htv:=v1 _ (List.getElem_mem hlt);have et:tl (r.xTests.drop k)=44 :: 32 :: (ttx r.xTests[k]++tl (r.xTests.drop (k+1))):=by rw [hd1,zdC]
  have hpos:2<=(tl (r.xTests.drop k)).length:=by rw [et];simp
  refine zi (fun hc=>?_) (fun hc=>by simp at hc hlen;omega);refine zi (fun h6=>by simp at h6;omega) (fun h6=>?_);refine zbh (w:=[44,32]) _ rfl (by omega) (by omega) (by simp) (fun s e=>?_) (fun hno=>absurd (by rw [esplit,zah rfl,et];rfl) (hno (ttx r.xTests[k]++tl (r.xTests.drop (k+1)))));simp only [Bool.not_true,xZ];refine zhp (p:=(hd r.xAction r.xChain++tl (r.xTests.take k))++[44,32]) (r:=tl (r.xTests.drop (k+1))) htv (zmI _) (by rw [esplit,et];simp) (by simp;omega) (by omega) ?_;simp only [Bool.not_true,xZ];refine jk (by simp;omega) (hn hlt _ ⟨?_,by omega⟩);rw [List.take_succ_eq_append_getElem hlt,zjF,zdC];simp only [zoJ,Prod.mk.injEq,true_and,List.length_append,List.length_cons,List.length_nil,List.append_nil];omega
 have hge:r.xTests.length<=k:=by omega
 have e0:tl (r.xTests.drop k)=[]:=by rw [List.drop_eq_nil_of_le hge];rfl
 rw [e0] at hlen;refine zi (fun hc=>by simp at hc hlen;omega) (fun hc=>?_);rw [List.take_of_length_le hge];refine V6 (r:=r) (by omega) (zi (fun hc=>absurd hv (by simpa using hc)) (fun _=>V7 hv (zi (fun hc=>by simp at hc) (fun _=>h))))
end
section
open Go.Lib (decDigits)
theorem zoQ {a c a' c':Int} (h:HV a c) (h':HV a' c') (e:hd a c=hd a' c'):a=a'∧c=c':=by
 have ea:a=a':=zju ⟨h.1,h.2.1⟩ ⟨h'.1,h'.2.1⟩ e;subst ea;refine ⟨rfl,?_⟩;by_cases h3:a=3
 ·have h1:=h.2.2.1 h3;have h2:=h'.2.2.1 h3;simp only [hd,if_pos h3,List.append_cancel_left_eq,List.cons.injEq,true_and] at e;have:=zjm e;omega
 rw [h.2.2.2 h3,h'.2.2.2 h3]
theorem zp9 (a c:Int):Y9 (zo.mk [] a c)=hd a c:=by simp [Y9,tl]
theorem zsb (a c:Int):hd a c≠[]:=by
 have:=zjR a;intro e;cases h:aw a with
 | nil=>rw [h] at this;simp at this
 | cons x y=>simp [hd,h] at e
theorem zrL {a c:Int}:RV (zo.mk [] a c)↔HV a c:=⟨fun h=>h.2,fun h=>⟨⟨fun t ht=>(by cases ht),(by simp)⟩,h⟩⟩
theorem zhJ {t:zI} (h:TV t):(44:UInt8) ∉ ttx t:=by
 have hn:(44:UInt8) ∉ nm t.xField:=by rcases zbm h.1 h.2.1 with e0 | e0 | e0 | e0 <;> rw [e0] <;> decide
 have hr:(44:UInt8) ∉ rtx t:=by
  unfold rtx;split
  ·simpa using zbK (by decide)
  simp only [List.mem_append,List.mem_cons,not_or];exact ⟨zbK (by decide),by decide,zbK (by decide)⟩
 have hb:(44:UInt8) ∉ btx t:=by
  unfold btx;simp only [List.mem_append,List.mem_cons,not_or];exact ⟨hn,by decide,hr⟩
 unfold ttx;split
 ·simp only [List.mem_cons,not_or];exact ⟨by decide,by decide,by decide,by decide,hb⟩
 exact hb
theorem zj1 {a c:Int} (h:HV a c):(44:UInt8) ∉ hd a c:=by
 have ha:(44:UInt8) ∉ aw a:=by rcases zlf h.1 h.2.1 with e | e | e | e | e <;> rw [e] <;> decide
 unfold hd;split
 ·simp only [List.mem_append,List.mem_cons,not_or];exact ⟨ha,by decide,zbK (by decide)⟩
 simpa using ha
def kl (ts:List zI):List UInt8:=(tl ts).drop 1
theorem zdl (t:zI) (ts:List zI):kl (t :: ts)=32 :: (ttx t++tl ts):=by rw [kl,zdC];rfl
theorem zfJ {x:List UInt8} (hx:(44:UInt8) ∉ x) (ts:List zI):cut 44 (x++tl ts)=(x,kl ts):=by
 cases ts with
 | nil=>rw [zoJ,List.append_nil,zh3 hx];rfl
 | cons t ts=>rw [zdC,zbB hx,zdl]
theorem zoj {x:List UInt8} {O:Int->Int->Prop} (F:((Int×Int×Int)->Prop)->Int×Int×Int->Prop) (hF:∀ nx10 t7 t8 t9,ifW (decide (t9<=5)) (jg (fun (nx14:(Int×Int×Int)->Prop) ((t11,t12,t13):(Int×Int×Int))=>ifW (decide (t13<5)) (jnW (fun ((t140,t141):(Int×Int))=>je t13 1 (fun t143=>nx14 (t140,t141,t143))) (fun k142=>jnW (fun t77=>uI (zo.mk ([]) t9 t77) (fun r79=>ifW (decide (r79=B x)) (k142 (t9,t77)) (k142 (t11,t12)))) (fun k78=>ifW (decide (t9=3)) (k78 t13) (k78 0)))) (je t9 1 (fun t144=>nx10 (t11,t12,t144)))) (t7,t8,0)) (O t7 t8)->F nx10 (t7,t8,t9)) (h:∀ a c:Int,0<=a->a<=5->0<=c->c<=4->(∀ a' c',HV a' c'->hd a' c'=x->a=a'∧c=c')->O a c) :
  jg F (0,0,1):=by
 refine U3 1 6 (fun s=>s.2.2) (fun k s=>s.2.2=(k:Int)∧1<=k∧k<=6∧0<=s.1∧s.1<=5∧0<=s.2.1∧s.2.1<=4∧(∀ a' c',HV a' c'->hd a' c'=x->a'<k->s.1=a'∧s.2.1=c')) (fun k s h=>h.1) (fun k s h=>h.2.2.1) ?_ ⟨rfl,Nat.le_refl _,by omega,by simp,by simp,by simp,by simp,fun a' c' hv _ hl=>by have:=hv.1;omega⟩;rintro k ⟨a,c,_⟩ next ⟨rfl,hk1,hk,a0,a1,c0,c1,he⟩ hn;simp only at a0 a1 c0 c1 he;refine hF _ _ _ _ (zi (fun hc=>?_) (fun hc=>?_))
 ·have hk5:k<=5:=by simp at hc;omega
  refine zQ 5 (fun s=>s.2.2) (fun j s=>s.2.2=(j:Int)∧j<=5∧0<=s.1∧s.1<=5∧0<=s.2.1∧s.2.1<=4∧(∀ a' c',HV a' c'->hd a' c'=x->(a'<k∨a'=k∧(if (k:Int)=3 then c'<j else 0<j))->s.1=a'∧s.2.1=c')) (fun j s h=>h.1) (fun j s h=>h.2.1) ?_ ⟨rfl,Nat.zero_le _,a0,a1,c0,c1,fun a' c' hv hx hl=>?_⟩
  ·rintro j ⟨u,v,_⟩ next2 ⟨rfl,hj,u0,u1,v0,v1,he2⟩ hn2;simp only at u0 u1 v0 v1 he2;refine zi (fun hc2=>?_) (fun hc2=>?_)
   ·have hj5:j<5:=by simp at hc2;omega
    unfold jnW;have step:∀ cc:Int,0<=cc->cc<=4->HV k cc->(∀ c',HV k c'->(if (k:Int)=3 then c'<j+1 else 0<j+1)->(if (k:Int)=3 then c'<j else 0<j)∨c'=cc)->uI (zo.mk ([]) (k:Int) cc) (fun r79=>ifW (decide (r79=B x)) (je (j:Int) 1 (fun t143=>next2 ((k:Int),cc,t143))) (je (j:Int) 1 (fun t143=>next2 (u,v,t143)))):=by
     intro cc q0 q1 hv hcc;refine Yx (by simp) ?_;rw [zdQ,if_pos (zrL.2 hv),zp9,zbs];refine zi (fun hx=>?_) (fun hx=>?_)
     ·simp at hx;refine zy (by omega) (by omega) (hn2 hj5 _ ⟨by simp,by omega,by simp only;omega,by simp only;omega,q0,q1,fun a' c' hv' hx' _=>?_⟩);exact zoQ hv hv' (hx.trans hx'.symm)
     simp at hx;refine zy (by omega) (by omega) (hn2 hj5 _ ⟨by simp,by omega,u0,u1,v0,v1,fun a' c' hv' hx' hl=>?_⟩);rcases hl with hl | ⟨rfl,hl⟩
     ·exact he2 a' c' hv' hx' (.inl hl)
     rcases hcc c' hv' (by simpa using hl) with hl' | rfl
     ·exact he2 _ c' hv' hx' (.inr ⟨rfl,hl'⟩)
     exact absurd hx' hx
    refine zi (fun h3=>?_) (fun h3=>?_)
    ·have h3':(k:Int)=3:=by simpa using h3
     refine step (j:Int) (by omega) (by omega) ⟨by omega,by omega,fun _=>⟨by omega,by omega⟩,fun e=>absurd h3' e⟩ (fun c' hv' hl=>?_);rw [if_pos h3'] at hl ⊢;omega
    have h3':¬ (k:Int)=3:=by simpa using h3
    refine step 0 (by omega) (by omega) ⟨by omega,by omega,fun e=>absurd e h3',fun _=>rfl⟩ (fun c' hv' hl=>.inr (hv'.2.2.2 h3'))
   have hj5:j=5:=by simp at hc2;omega
   subst hj5;refine zy (by omega) (by omega) (hn (by omega) _ ⟨by simp,by omega,by omega,u0,u1,v0,v1,fun a' c' hv hx hl=>?_⟩);refine he2 a' c' hv hx ?_;by_cases hlt:a'<k
   ·exact .inl hlt
   refine .inr ⟨by omega,?_⟩;split
   ·have:=hv.2.2.1 (by omega);omega
   omega
  refine he a' c' hv hx ?_;rcases hl with hl | ⟨hl,hl2⟩
  ·exact hl
  exfalso;split at hl2
  ·have:=hv.2.2.1 (by omega);omega
  omega
 have hge:k=6:=by simp at hc;omega
 subst hge;exact h a c a0 a1 c0 c1 (fun a' c' hv hx=>he a' c' hv hx (by have:=hv.2.1;omega))
theorem zrQ {z:List UInt8} {c:UInt8} {O:UInt8->Prop} (h:O c):zE (B (c :: z)).data.toList 0 O:=by
 rw [zj7];exact zq 0 rfl (by simp) h
theorem zgr {l:List UInt8} {O:zo×Bool->Prop} (hl:l.length<=10000000) (hz:O (zo.mk [] 0 0,false)) (h:∀ r,RV r->Y9 r=l->O (r,true)):yU (B l) O:=by
 unfold yU;refine ziD (by omega) ?_;have l1:=ze0 (c:=44) l;generalize (cut 44 l).1=x at *
 generalize (cut 44 l).2=y0 at *
 show jg _ (0,0,1);refine zoj _ (fun nx t7 t8 t9 hh=>hh) (fun a c a0 a1 c0 c1 _=>?_);refine uV (fun s=>∃ (y:List UInt8) (k:Nat),s.2.1=B y∧s.2.2=(k:Int)∧y.length<=10000000∧k<=7∧s.1.length=k) (fun s=>8 - s.1.length) ?_ ⟨y0,0,rfl,rfl,by omega,by omega,rfl⟩;rintro ⟨xs,_,_⟩ next ⟨y,k,rfl,rfl,hy,hk,hx⟩ hn;simp only at hx;unfold jnW;have fin:uI (zo.mk xs a c) (fun r294=>ifW (!(decide (r294=B l))) (ifW true (O ((zo.mk ([]) 0 0),false)) (O ((zo.mk xs a c),true))) (ifW (decide (B l=(ByteArray.mk #[]))) (O ((zo.mk ([]) 0 0),false)) (O ((zo.mk xs a c),true)))):=by
  refine Yx (by simp only;omega) ?_;simp only [ua];refine zi (fun _=>hz) (fun hc=>zi (fun _=>hz) (fun hc2=>?_));rw [zdO] at hc2;simp [zjb] at hc hc2;by_cases hv:RV (zo.mk xs a c)
  ·rw [zdQ,if_pos hv] at hc;exact h _ hv hc
  rw [zdQ,if_neg hv] at hc;exact absurd hc.symm hc2
 refine zi (fun hc=>?_) (fun hc=>?_)
 ·refine zi (fun hc2=>?_) (fun hc2=>?_)
  ·simp at hc2;refine ziD (by omega) ?_;have l2:=ze0 (c:=44) y;generalize (cut 44 y).1=u at *
   generalize (cut 44 y).2=v at *
   have cont:∀ z,z.length<=10000000->ZB (B z) (fun (r281,r282)=>ifW (!r282) (O ((zo.mk ([]) 0 0),false)) (jQ xs ([r281]) (fun _=>je (k:Int) 1 (fun t293=>next ((xs++([r281])),B v,t293))))):=by
    intro z hz';refine zgB (by omega) (by simp only [Bool.not_false,ua];exact hz) (fun t _ _=>?_);simp only [Bool.not_true,xZ];refine jk (by simp;omega) (zy (by omega) (by omega) (hn _ ⟨v,k+1,rfl,by simp,by omega,by omega,by simp;omega⟩ (by simp;omega)))
   refine zi (fun hc3=>?_) (fun hc3=>?_)
   ·simp only [ua];exact hz
   rw [zdO,zbs] at hc3
   replace hc3:=of_decide_eq_false hc3
   cases u with
   | nil=>exact absurd rfl hc3
   | cons d z =>
    refine zrQ (zi (fun _=>hz) (fun _=>?_));refine za0 1 (d :: z).length rfl (by rw [Xr]) (by simp) (by omega) ?_;rw [List.take_length];exact cont z (by simp at l2;omega)
  simp only [xZ];exact fin
 simp only [xZ];exact fin
theorem zgp {r:zo} {O:zo×Bool->Prop} (hv:RV r) (h:O (r,true)):yU (B (Y9 r)) O:=by
 have hl:=zeY hv;obtain ⟨⟨v1,v2⟩,v3⟩:=id hv;have c0:cut 44 (Y9 r)=(hd r.xAction r.xChain,kl r.xTests):=zfJ (zj1 v3) _;unfold yU;refine ziD (by omega) ?_;rw [c0];show jg _ (0,0,1);refine zoj _ (fun nx t7 t8 t9 hh=>hh) (fun a c a0 a1 c0 c1 hac=>?_);obtain ⟨rfl,rfl⟩:=hac _ _ v3 rfl;refine zQ r.xTests.length (fun s=>s.2.2) (fun k s=>s=(r.xTests.take k,B (kl (r.xTests.drop k)),(k:Int))∧k<=r.xTests.length) (fun k s h=>by rw [h.1]) (fun k s h=>h.2) ?_ ⟨by simp,Nat.zero_le _⟩;rintro k _ next ⟨rfl,hk⟩ hn;unfold jnW;by_cases hlt:k<r.xTests.length
 ·have hd1:r.xTests.drop k=r.xTests[k] :: r.xTests.drop (k+1):=List.drop_eq_getElem_cons hlt;have htv:=v1 _ (List.getElem_mem hlt);have htl:=zeo htv;have hkl:kl (r.xTests.drop k)=32 :: ttx r.xTests[k]++tl (r.xTests.drop (k+1)):=by rw [hd1,zdl];rfl
  have hcut:cut 44 (kl (r.xTests.drop k))=(32 :: ttx r.xTests[k],kl (r.xTests.drop (k+1))):=by
   rw [hkl];exact zfJ (by simp only [List.mem_cons,not_or];exact ⟨by decide,zhJ htv⟩) _
  have hkk:=zhZ (r.xTests.drop (k+1)) (fun t ht=>v1 t (List.mem_of_mem_drop ht));rw [List.length_drop] at hkk;have hlen:(kl (r.xTests.drop k)).length<=1000:=by rw [hkl];simp;omega
  refine zi (fun hc=>?_) (fun hc=>?_)
  ·refine zi (fun hc2=>?_) (fun hc2=>by simp at hc2;omega);refine ziD (by omega) ?_;rw [hcut];refine zi (fun hc3=>?_) (fun hc3=>?_)
   ·rw [zdO,zbs] at hc3;simp at hc3
   refine zrQ (zi (fun hx=>by simp at hx) (fun _=>?_));refine za0 1 (32 :: ttx r.xTests[k]).length rfl (by rw [Xr]) (by simp) (Nat.le_refl _) ?_;rw [List.take_length];refine zgo htv ?_;simp only [Bool.not_true,xZ];refine jk (by simp;omega) (zy (by omega) (by omega) (hn hlt _ ⟨?_,by omega⟩));rw [List.take_succ_eq_append_getElem hlt];simp
  rw [zdO,zbs,hkl] at hc;simp at hc
 have hge:r.xTests.length<=k:=by omega
 refine zi (fun hc=>?_) (fun hc=>?_)
 ·rw [List.drop_eq_nil_of_le hge,zdO,zbs] at hc;simp [kl,tl] at hc
 simp only [xZ];rw [List.take_of_length_le hge];refine Yx (r:=r) (by omega) ?_;rw [zdQ,if_pos hv,zdO];have hne:Y9 r≠[]:=by
  have:=zsb r.xAction r.xChain;simp [Y9,this]
 simp [zjb,hne];exact h
end
section
open Go.Lib (decDigits)
theorem zid {b:List UInt8} {p n:Int} (hb:b.length<=2000) (h0:0<=p) (hp:p<=700000) (hn:n<=4294967296) {O:List zI×Int->Prop} (h:∀ ts p',p<=p'->p'<=p+300->ts.length<=8->O (ts,p')):yV b p n O:=by
 have rd:∀ p',p<=p'->p'<=p+300->RdP b p':=fun p' a c=>⟨hb,by omega,by omega⟩
 unfold yV;refine xO (rd p (by omega) (by omega)) (fun v a c=>?_);refine uV (fun s=>0<=s.2.2∧s.2.2<=3∧p<=s.1∧s.1<=p+1+50 * (3 - s.2.2)∧s.2.1.length+s.2.2.toNat<=3) (fun s=>s.2.2.toNat) ?_ ⟨a,by simp only;omega,by simp only;omega,by simp only;omega,by simp only [List.length_nil];omega⟩;rintro ⟨q,xs,k⟩ next ⟨k0,k1,q0,q1,hx⟩ hnx;simp only at k0 k1 q0 q1 hx;refine zi (fun hc=>?_) (fun hc=>?_)
 ·simp at hc;refine zi4 hb (by omega) (by omega) (by omega) (fun t p' g1 g2=>jk (by simp;omega) (yK (by omega) (by omega) (hnx _ ⟨by simp only;omega,by simp only;omega,by simp only;omega,by simp only;omega,by simp;omega⟩ (by simp only;omega))))
 simp at hc;unfold jnW;refine ziE (rd _ (by omega) (by omega)) hn (fun o p1 f1 f2=>zi (fun _=>?_) (fun _=>h _ _ (by omega) (by omega) (by omega)));refine xO (rd _ (by omega) (by omega)) (fun v2 a2 c2=>zi (fun _=>?_) (fun _=>?_))
 ·exact zi4 hb (by omega) (by omega) (by omega) (fun t p' g1 g2=>jk (by simp;omega) (h _ _ (by omega) (by omega) (by simp;omega)))
 exact VF 7 rfl (by omega) (by omega) (h _ _ (by omega) (by omega) (by simp))
theorem znq {b:List UInt8} {p n first chains:Int} (hb:b.length<=2000) (h0:0<=p) (hp:p<=600000) (hn:n<=4294967296) (hf0:0<=first) (hf1:first<=100) (hc0:0<=chains) (hc1:chains<=100) {O:zo×Int->Prop} (h:∀ r p',p<=p'->p'<=p+700->r.xTests.length<=8->O (r,p')):Zk b p first chains n O:=by
 have rd:∀ p',p<=p'->p'<=p+700->RdP b p':=fun p' a c=>⟨hb,by omega,by omega⟩
 unfold Zk;refine zid hb h0 (by omega) (by omega) (fun ts p1 g1 g2 hts=>xO (rd _ (by omega) (by omega)) (fun v a c=>Zp (by omega) (by simp;omega) (fun act _=>?_)));unfold jnW;have fin:∀ (t86 t87 t88:Int),p<=t88->t88<=p+310->jH b t88 n (fun (r90,r91)=>ifW r90 (zw b r91 3 (fun (r92,r93)=>ifW (decide (r92=0)) (zw b r93 2 (fun (r96,r97)=>zE ([0,6]) r96 (fun e98=>O ((zo.mk ts e98 t87),r97)))) (ifW (decide (r92=1)) (zw b r93 3 (fun (r102,r103)=>zE ([(-1),5,1]) r102 (fun e104=>O ((zo.mk ts t86 e104),r103)))) (yV b r93 1 (fun (r106,r109)=>O ((zo.mk r106 t86 t87),r109)))))) (O ((zo.mk ts t86 t87),r91))):=by
  intro t86 t87 t88 q1 q2;refine ziE (rd _ (by omega) (by omega)) hn (fun o p2 f1 f2=>zi (fun _=>?_) (fun _=>h _ _ (by omega) (by omega) hts));refine xO (rd _ (by omega) (by omega)) (fun v2 a2 c2=>zi (fun _=>?_) (fun _=>zi (fun _=>?_) (fun _=>?_)))
  ·exact xO (rd _ (by omega) (by omega)) (fun v3 a3 c3=>Zp (by omega) (by simp;omega) (fun x _=>h _ _ (by omega) (by omega) hts))
  ·exact xO (rd _ (by omega) (by omega)) (fun v3 a3 c3=>Zp (by omega) (by simp;omega) (fun x _=>h _ _ (by omega) (by omega) hts))
  exact zid hb (by omega) (by omega) (by omega) (fun ts2 p3 f3 f4 hts2=>h _ _ (by omega) (by omega) hts2)
 refine zi (fun _=>zi (fun _=>fin _ _ _ (by omega) (by omega)) (fun hc=>?_)) (fun _=>fin _ _ _ (by omega) (by omega));simp at hc;refine yK (by omega) (by omega) (xO (rd _ (by omega) (by omega)) (fun v2 a2 c2=>zy (by omega) (by omega) (fin _ _ _ (by omega) (by omega))))
end
section
def Ca (cs:List (List zo)) (i j:Nat):Prop:=∃ c,cs[i]?=some c∧∃ r,r∈c∧r.xAction=3∧r.xChain=(j:Int)
def Sf (cs:List (List zo)) (i:Nat):Prop:=Acc (fun j i=>Ca cs i j) i
theorem zgU {cs:List (List zo)} {i:Nat} (h:∀ j,Ca cs i j->Sf cs j):Sf cs i:=Acc.intro _ h
inductive Wy (cs:List (List zo)):Nat->Nat->Prop
 | one {i j:Nat}:Ca cs i j->Wy cs i j
 | more {i j k:Nat}:Wy cs i j->Ca cs j k->Wy cs i k
theorem znQ {cs:List (List zo)} {i k:Nat} (w:Wy cs i k):∃ j,Ca cs i j∧(j=k∨Wy cs j k):=by
 induction w with
 | one h=>exact ⟨_,h,.inl rfl⟩
 | more _ h ih =>
  obtain ⟨j,h1,h2⟩:=ih;rcases h2 with rfl | h2
  ·exact ⟨_,h1,.inr (.one h)⟩
  exact ⟨_,h1,.inr (.more h2 h)⟩
theorem zmg {cs:List (List zo)} {i:Nat} (hs:Sf cs i):¬ Wy cs i i:=by
 induction hs with
 | intro x _ ih =>
  intro w;obtain ⟨j,h1,h2⟩:=znQ w;rcases h2 with rfl | h2
  ·exact ih _ h1 w
  exact ih j h1 (.more h2 h1)
def Tg (cs:List (List zo)):Prop:=cs.length<=5∧∀ c,c∈cs->(c.length<=8∧∀ r,r∈c->RV r∧r.xChain<cs.length)
def Tw (cs:List (List zo)):Prop:=cs.length<=5∧∀ c,c∈cs->(c.length<=8∧∀ r,r∈c->RV r)
theorem Tg.w {cs:List (List zo)} (h:Tg cs):Tw cs:=⟨h.1,fun c hc=>⟨(h.2 c hc).1,fun r hr=>((h.2 c hc).2 r hr).1⟩⟩
theorem zlP {cs:List (List zo)} {j:Nat} (h:cs.length<=j):Sf cs j:=zgU (fun i ⟨c,h1,_⟩=>by have:=(List.getElem?_eq_some_iff.1 h1).1;omega)
theorem zfx {rules:List zo} {O:List Int->Prop} (hl:rules.length<=8) (hv:∀ r,r∈rules->RV r) (h:∀ ys:List Int,ys.length<=5->(∀ x,x∈ys↔∃ r,r∈rules∧r.xAction=3∧r.xChain=x)->O ys):XZ rules O:=by
 unfold XZ;refine zQ rules.length (fun s=>s.2) (fun k s=>s.2=(k:Int)∧k<=rules.length∧s.1.length=5∧∀ i:Nat,i<5->(s.1[i]?=some true↔∃ r,r∈rules.take k∧r.xAction=3∧r.xChain=(i:Int))) (fun k s h=>h.1) (fun k s h=>h.2.1) ?_ ⟨rfl,Nat.zero_le _,rfl,fun i hi=>?_⟩
 ·rintro k ⟨xs,_⟩ next ⟨rfl,hk,hx,he⟩ hn;simp only at hx he;refine zi (fun hc=>?_) (fun hc=>?_)
  ·have hlt:k<rules.length:=by simpa using hc
   have hrv:=hv _ (List.getElem_mem hlt);have htk:∀ r,r∈rules.take (k+1)↔r∈rules.take k∨r=rules[k]:=fun r=>by
    rw [List.take_succ_eq_append_getElem hlt,List.mem_append,List.mem_singleton]
   unfold jnW;refine zq k rfl hlt (zi (fun h3=>?_) (fun h3=>?_))
   ·simp at h3;have hch:=hrv.2.2.2.1 h3;obtain ⟨m,hm⟩:=Int.eq_ofNat_of_zero_le hch.1;refine Zp hch.1 (by rw [hx];omega) (fun _ _=>zy (by omega) (by omega) (hn hlt _ ⟨by simp,by omega,by simpa using hx,fun i hi=>?_⟩));simp only [htk];rw [hm,Int.toNat_natCast];by_cases e:i=m
    ·subst e;simp only [List.getElem?_set_self (show i<xs.length by omega),true_iff];exact ⟨_,.inr rfl,h3,hm⟩
    rw [List.getElem?_set_ne (by omega),he i hi];constructor
    ·rintro ⟨r,h1,h2⟩;exact ⟨r,.inl h1,h2⟩
    rintro ⟨r,h1 | rfl,h2,h4⟩
    ·exact ⟨r,h1,h2,h4⟩
    omega
   simp at h3;refine zy (by omega) (by omega) (hn hlt _ ⟨by simp,by omega,hx,fun i hi=>?_⟩);simp only [htk];rw [he i hi];constructor
   ·rintro ⟨r,h1,h2⟩;exact ⟨r,.inl h1,h2⟩
   rintro ⟨r,h1 | rfl,h2,h4⟩
   ·exact ⟨r,h1,h2,h4⟩
   exact absurd h2 h3
  have hge:rules.length<=k:=by simpa using hc
  rw [List.take_of_length_le hge] at he;obtain ⟨e0,e1,e2,e3,e4,rfl⟩:∃ a b c d e,xs=[a,b,c,d,e]:=by
   match xs,hx with
   | [a,b,c,d,e],_=>exact ⟨a,b,c,d,e,rfl⟩
  refine ⟨e0,e1,e2,e3,e4,rfl,?_⟩;refine zQ 5 (fun s=>s.2) (fun j s=>s.2=(j:Int)∧j<=5∧s.1.length<=j∧∀ x,x∈s.1↔∃ i:Nat,i<j∧x=(i:Int)∧[e0,e1,e2,e3,e4][i]?=some true) (fun j s h=>h.1) (fun j s h=>h.2.1) ?_ ⟨rfl,Nat.zero_le _,by simp,by simp⟩;rintro j ⟨ys,_⟩ next2 ⟨rfl,hj,hyl,hy⟩ hn2;simp only at hyl hy;refine zi (fun hc2=>?_) (fun hc2=>?_)
  ·have hj5:j<5:=by simp at hc2;omega
   have hjl:j<[e0,e1,e2,e3,e4].length:=by simpa using hj5
   unfold jnW;refine zq j rfl hjl (zi (fun h3=>?_) (fun h3=>?_))
   ·refine jk (by simp;omega) (zy (by omega) (by omega) (hn2 hj5 _ ⟨by simp,by omega,by simp;omega,fun x=>?_⟩));simp only [List.mem_append,List.mem_singleton,hy];constructor
    ·rintro (⟨i,h1,h2,h4⟩ | rfl)
     ·exact ⟨i,by omega,h2,h4⟩
     exact ⟨j,by omega,rfl,by rw [List.getElem?_eq_getElem hjl,h3]⟩
    rintro ⟨i,h1,h2,h4⟩;by_cases e:i=j
    ·subst e;exact .inr h2
    exact .inl ⟨i,by omega,h2,h4⟩
   refine zy (by omega) (by omega) (hn2 hj5 _ ⟨by simp,by omega,by simp only;omega,fun x=>?_⟩);simp only [hy];constructor
   ·rintro ⟨i,h1,h2,h4⟩;exact ⟨i,by omega,h2,h4⟩
   rintro ⟨i,h1,h2,h4⟩;by_cases e:i=j
   ·subst e;rw [List.getElem?_eq_getElem hjl,h3] at h4;simp at h4
   exact ⟨i,by omega,h2,h4⟩
  have hj5:j=5:=by simp at hc2;omega
  subst hj5;refine h ys hyl (fun x=>?_);rw [hy];constructor
  ·rintro ⟨i,h1,rfl,h4⟩;exact (he i h1).1 h4
  rintro ⟨r,h1,h2,rfl⟩;have hch:=(hv r h1).2.2.2.1 h2;obtain ⟨m,hm⟩:=Int.eq_ofNat_of_zero_le hch.1;exact ⟨m,by omega,hm,(he m (by omega)).2 ⟨r,h1,h2,hm⟩⟩
 constructor
 ·intro hh;have:i=0∨i=1∨i=2∨i=3∨i=4:=by omega
  rcases this with rfl | rfl | rfl | rfl | rfl <;> simp at hh
 rintro ⟨r,h1,_⟩;simp at h1
def Co (cols:List Int):Prop:=cols.length=5∧∀ x,x∈cols->x=0∨x=1∨x=2
theorem zn1 {cols:List Int} {i:Nat} {v:Int} (h:Co cols) (hv:v=0∨v=1∨v=2):Co (cols.set i v):=⟨by rw [List.length_set];exact h.1,fun x hx=>by
 rcases List.mem_or_eq_of_mem_set hx with hx | rfl
 ·exact h.2 x hx
 ·exact hv⟩
structure Vi (cs:List (List zo)) (c:Nat) (cols:List Int) (ok:Bool) (cols':List Int):Prop where
 co:Co cols'
 black:∀ i:Nat,cols[i]?=some 2->cols'[i]?=some 2
 grey:∀ i:Nat,cols'[i]?=some 1↔cols[i]?=some 1
 white:cols'.count 0<=cols.count 0
 good:ok=true->(∀ i:Nat,cols[i]?=some 2->Sf cs i)->(∀ i:Nat,cols'[i]?=some 2->Sf cs i)∧(c<cs.length->cols'[c]?=some 2)
 bad:ok=false->(∀ g:Nat,cols[g]?=some 1->Wy cs g c)->∃ i,i<cs.length∧¬ Sf cs i
theorem znB {cols:List Int} (h:cols.length=5):cols.count 0<=5:=by have:=List.count_le_length (a:=(0:Int)) (l:=cols);omega
theorem zld {cs:List (List zo)} (ht:Tw cs):∀ (n c:Nat) (cols:List Int) (O:Bool×List Int->Prop),Co cols->cols.count 0<n ->
  (∀ ok cols',Vi cs c cols ok cols'->O (ok,cols'))->yG n cs (c:Int) cols O
 | 0,c,cols,O,hco,hw,h=>by omega
 | n+1,c,cols,O,hco,hw,h=>by
  have hn5:=ht.1
  show Y3 (yG n) cs (c:Int) cols O
  unfold Y3
  refine zi (fun hx=>h _ _ ⟨hco,fun i hi=>hi,fun i=>Iff.rfl,Nat.le_refl _,fun _ hb=>⟨hb,fun hlt=>by simp at hx;omega⟩,fun e=>by cases e⟩) (fun hx=>?_)
  have hc:c<cs.length:=by simp at hx;omega
  have hcl:c<cols.length:=by rw [hco.1];omega
  refine zq c rfl hcl (zi (fun h1=>?_) (fun h1=>zi (fun h2=>?_) (fun h2=>?_)))
  ·have e1:cols[c]?=some 1:=by rw [List.getElem?_eq_getElem hcl];simpa using h1
   exact h _ _ ⟨hco,fun i hi=>hi,fun i=>Iff.rfl,Nat.le_refl _,fun e=>(by cases e),fun _ hg=>⟨c,hc,fun hs=>zmg hs (hg c e1)⟩⟩
  ·have e2:cols[c]?=some 2:=by rw [List.getElem?_eq_getElem hcl];simpa using h2
   exact h _ _ ⟨hco,fun i hi=>hi,fun i=>Iff.rfl,Nat.le_refl _,fun _ hb=>⟨hb,fun _=>e2⟩,fun e=>by cases e⟩
  ·have e0:cols[c]=0:=by
    have:=hco.2 _ (List.getElem_mem hcl)
    simp at h1 h2;omega
   have e0':cols[c]?=some 0:=by rw [List.getElem?_eq_getElem hcl,e0]
   have hcs:cs[c]?=some cs[c]:=List.getElem?_eq_getElem hc
   have hch:=ht.2 _ (List.getElem_mem hc)
   refine zq c rfl hcl (zq c rfl hc (zfx hch.1 hch.2 (fun ys hyl hys=>?_)))
   have hca:∀ j:Nat,Ca cs c j↔(j:Int)∈ys:=fun j=>by
    rw [hys]
    constructor
    ·rintro ⟨c',h1,r,h2,h3⟩
     rw [hcs] at h1;cases h1
     exact ⟨r,h2,h3⟩
    ·rintro ⟨r,h2,h3⟩;exact ⟨_,hcs,r,h2,h3⟩
   have hcount:(cols.set c 1).count 0+1=cols.count 0:=by
    rw [List.count_set hcl]
    have:0<cols.count 0:=List.count_pos_iff.2 (by rw [← e0];exact List.getElem_mem hcl)
    simp [e0];omega
   have set1:∀ i:Nat,(cols.set c 1)[i]?=if i=c then some 1 else cols[i]?:=fun i=>by
    by_cases e:i=c
    ·subst e;simp [hcl]
    ·rw [List.getElem?_set_ne (by omega),if_neg e]
   refine zQ ys.length (fun s=>s.2.2) (fun k s=>s.2.2=(k:Int)∧k<=ys.length∧Co s.1∧(∀ i:Nat,cols[i]?=some 2->s.1[i]?=some 2)∧(∀ i:Nat,s.1[i]?=some 1↔(cols.set c 1)[i]?=some 1)∧s.1.count 0<=(cols.set c 1).count 0 ∧
    (s.2.1=true->(∀ i:Nat,cols[i]?=some 2->Sf cs i)->(∀ i:Nat,s.1[i]?=some 2->Sf cs i)∧∀ j:Nat,(j:Int)∈ys.take k->j<cs.length->s.1[j]?=some 2) ∧
    (s.2.1=false->(∀ g:Nat,cols[g]?=some 1->Wy cs g c)->∃ i,i<cs.length∧¬ Sf cs i)) (fun k s h=>h.1) (fun k s h=>h.2.1) ?_
    ⟨rfl,Nat.zero_le _,zn1 hco (by simp),fun i hi=>?_,fun i=>Iff.rfl,Nat.le_refl _,fun _ hb=>⟨fun i hi=>?_,by simp⟩,fun e=>by cases e⟩
   ·rintro k ⟨X,ok,_⟩ next ⟨rfl,hk,xco,xb,xg,xw,xgood,xbad⟩ hnx
    simp only at xco xb xg xw xgood xbad
    refine zi (fun hlt=>?_) (fun hlt=>?_)
    ·have hlt:k<ys.length:=by simpa using hlt
     obtain ⟨r,hr,hr3,hrc⟩:=(hys ys[k]).1 (List.getElem_mem hlt)
     have hrv:=hch.2 r hr
     have hcc:=hrv.2.2.2.1 hr3
     obtain ⟨j,hj⟩:=Int.eq_ofNat_of_zero_le hcc.1
     have ej:ys[k]=(j:Int):=by omega
     have hcj:Ca cs c j:=⟨_,hcs,r,hr,hr3,hj⟩
     unfold jnW
     refine zq k rfl hlt ?_
     rw [ej]
     refine zld ht n j X _ xco (by omega) (fun ok' X' v=>?_)
     have fin:∀ o:Bool,(o=true->ok=true∧ok'=true)->(o=false->ok=false∨ok'=false)->je (k:Int) 1 (fun t93=>next (X',o,t93)):=by
      intro o ho1 ho2
      refine zy (by omega) (by omega) (hnx hlt _ ⟨by simp,by omega,v.co,fun i hi=>v.black i (xb i hi),fun i=>(v.grey i).trans (xg i),Nat.le_trans v.white xw,fun e hb=>?_,fun e hg=>?_⟩)
      ·obtain ⟨g1,g2⟩:=ho1 e
       obtain ⟨q1,q2⟩:=xgood g1 hb
       obtain ⟨q3,q4⟩:=v.good g2 q1
       refine ⟨q3,fun i hi hil=>?_⟩
       rw [List.take_succ_eq_append_getElem hlt,List.mem_append,List.mem_singleton] at hi
       rcases hi with hi | hi
       ·exact v.black i (q2 i hi hil)
       ·have:i=j:=by omega
        subst this;exact q4 hil
      ·rcases ho2 e with e1 | e1
       ·exact xbad e1 hg
       ·refine v.bad e1 (fun g hgx=>?_)
        rw [xg,set1] at hgx
        by_cases e2:g=c
        ·subst e2;exact .one hcj
        ·rw [if_neg e2] at hgx;exact .more (hg g hgx) hcj
     refine zi (fun e=>fin false (fun e=>by cases e) (fun _=>.inr (by simpa using e))) (fun e=>fin ok (fun e1=>⟨e1,by simpa using e⟩) (fun e1=>.inl e1))
    ·have hge:ys.length<=k:=by simpa using hlt
     rw [List.take_of_length_le hge] at xgood
     have hxl:c<X.length:=by rw [xco.1];omega
     have set2:∀ i:Nat,(X.set c 2)[i]?=if i=c then some 2 else X[i]?:=fun i=>by
      by_cases e:i=c
      ·subst e;simp [hxl]
      ·rw [List.getElem?_set_ne (by omega),if_neg e]
     have xc1:X[c]?=some 1:=by rw [xg,set1,if_pos rfl]
     refine zq c rfl hxl ?_
     rw [Int.toNat_natCast]
     refine h _ _ ⟨zn1 xco (by simp),fun i hi=>?_,fun i=>?_,?_,fun e hb=>?_,fun e hg=>xbad e hg⟩
     ·rw [set2];split
      ·rfl
      ·exact xb i hi
     ·rw [set2]
      by_cases e:i=c
      ·subst e;rw [if_pos rfl,e0'];simp
      ·rw [if_neg e,xg,set1,if_neg e]
     ·rw [List.count_set hxl]
      have:X[c]=1:=by rw [List.getElem?_eq_getElem hxl] at xc1;exact Option.some.inj xc1
      simp [this];omega
     ·obtain ⟨q1,q2⟩:=xgood e hb
      have sc:Sf cs c:=zgU (fun j hj=>by
       by_cases hjl:j<cs.length
       ·exact q1 j (q2 j ((hca j).1 hj) hjl)
       ·exact zlP (by omega))
      refine ⟨fun i hi=>?_,fun _=>by rw [set2,if_pos rfl]⟩
      rw [set2] at hi
      by_cases e:i=c
      ·subst e;exact sc
      ·rw [if_neg e] at hi;exact q1 i hi
   ·show (cols.set c 1)[i]?=some 2
    rw [set1]
    by_cases e:i=c
    ·subst e;rw [e0'] at hi;simp at hi
    ·rw [if_neg e];exact hi
   ·change (cols.set c 1)[i]?=some 2 at hi
    rw [set1] at hi
    by_cases e:i=c
    ·subst e;simp at hi
    ·rw [if_neg e] at hi;exact hb i hi
theorem ziT {cs:List (List zo)} {O:Bool->Prop} (ht:Tw cs) (h1:(∀ i,i<cs.length->Sf cs i)->O true) (h2:(¬ ∀ i,i<cs.length->Sf cs i)->O false):Us cs O:=by
 unfold Us;have hn5:=ht.1;refine zQ cs.length (fun s=>s.2) (fun k s=>s.2=(k:Int)∧k<=cs.length∧Co s.1∧(∀ i:Nat,s.1[i]?≠some 1)∧(∀ i:Nat,s.1[i]?=some 2->Sf cs i)∧(∀ i:Nat,i<k->s.1[i]?=some 2)) (fun k s h=>h.1) (fun k s h=>h.2.1) ?_ ⟨rfl,Nat.zero_le _,⟨rfl,by simp⟩,fun i=>?_,fun i hi=>?_,fun i hi=>by omega⟩
 ·rintro k ⟨X,_⟩ next ⟨rfl,hk,xco,xg,xs,xk⟩ hn;simp only at xco xg xs xk;refine zi (fun hc=>?_) (fun hc=>?_)
  ·have hlt:k<cs.length:=by simpa using hc
   refine ⟨6,zld ht 6 k X _ xco (by have:=znB xco.1;omega) (fun ok X' v=>?_)⟩;refine zi (fun e=>h2 (fun hall=>?_)) (fun e=>zy (by omega) (by omega) (hn hlt _ ⟨by simp,by omega,v.co,fun i hi=>xg i ((v.grey i).1 hi),(v.good (by simpa using e) xs).1,fun i hi=>?_⟩))
   ·obtain ⟨i,hi,hns⟩:=v.bad (by simpa using e) (fun g hg=>absurd hg (xg g));exact hns (hall i hi)
   by_cases e2:i=k
   ·subst e2;exact (v.good (by simpa using e) xs).2 hlt
   exact v.black i (xk i (by omega))
  have hge:cs.length<=k:=by simpa using hc
  exact h1 (fun i hi=>xs i (xk i (by omega)))
 ·have:i=0∨i=1∨i=2∨i=3∨i=4∨5<=i:=by omega
  rcases this with rfl | rfl | rfl | rfl | rfl | h <;> simp;rw [List.getElem?_eq_none (by simpa using h)];simp
 have:i=0∨i=1∨i=2∨i=3∨i=4∨5<=i:=by omega
 rcases this with rfl | rfl | rfl | rfl | rfl | h
 ·simp at hi
 ·simp at hi
 ·simp at hi
 ·simp at hi
 ·simp at hi
 rw [List.getElem?_eq_none (by simpa using h)] at hi;cases hi
end
section
def Rdy (cs:List (List zo)) (D:List Bool) (i:Nat):Prop:=∀ j,Ca cs i j->D[j]?=some true
theorem zr7 {cs:List (List zo)} (ht:Tg cs) {i j:Nat} (h:Ca cs i j):i<cs.length∧j<cs.length:=by
 obtain ⟨c,h1,r,h2,h3,h4⟩:=h;have hm:=List.mem_of_getElem? h1;have:=(ht.2 c hm).2 r h2;exact ⟨(List.getElem?_eq_some_iff.1 h1).1,by have:=this.2;omega⟩
theorem zkO {cs:List (List zo)} (ht:Tg cs) {D:List Bool} (hst:∀ i,i<cs.length->Rdy cs D i->D[i]?=some true) {i:Nat} (hs:Sf cs i):i<cs.length->D[i]?=some true:=by
 induction hs with
 | intro x _ ih=>exact fun hx=>hst x hx (fun j hj=>ih j hj (zr7 ht hj).2)
theorem zm7 {D:List Bool} (h:∀ i,i<D.length->D[i]?=some true):D.count true=D.length:=by
 rw [List.count_eq_length];intro b hb;obtain ⟨i,hi⟩:=List.getElem?_of_mem hb;have:=h i (List.getElem?_eq_some_iff.1 hi).1;rw [hi] at this;exact (Option.some.inj this).symm
theorem znp {D:List Bool} (h:D.count true=D.length) {i:Nat} (hi:i<D.length):D[i]?=some true:=by
 rw [List.getElem?_eq_getElem hi];exact congrArg some (List.count_eq_length.1 h _ (List.getElem_mem hi)).symm
theorem zm5 {s:zB} {O:List Int->Prop} (ht:Tg s.xChains) (h1:(∀ i,i<s.xChains.length->Sf s.xChains i)->∀ ys:List Int,ys.length=s.xChains.length->O ys) (h2:(¬ ∀ i,i<s.xChains.length->Sf s.xChains i)->∀ ys:List Int,ys.length≠s.xChains.length->O ys):VD s O:=by
 have hn5:=ht.1;generalize hcs:s.xChains=cs at *
 unfold VD;rw [hcs];refine VF cs.length rfl (by omega) (by omega) ?_;refine zQ cs.length (fun s=>s.2.2) (fun k s=>s.2.2=(k:Int)∧k<=cs.length∧s.1.length=cs.length∧s.2.1.length=s.1.count true∧(∀ i:Nat,s.1[i]?=some true->Sf cs i)∧(k<=s.1.count true∨∀ i,i<cs.length->Rdy cs s.1 i->s.1[i]?=some true)) (fun k s h=>h.1) (fun k s h=>h.2.1) ?_
  ⟨rfl,Nat.zero_le _,by simp,by simp [List.count_replicate],fun i hi=>?_,.inl (Nat.zero_le _)⟩
 ·rintro k ⟨D0,ys0,_⟩ next ⟨rfl,hk,hD0,hy0,hs0,hst0⟩ hnx;simp only at hD0 hy0 hs0 hst0;refine zi (fun hc=>?_) (fun hc=>?_)
  ·have hltk:k<cs.length:=by simpa using hc
   refine zQ cs.length (fun s=>s.2.2) (fun m s=>s.2.2=(m:Int)∧m<=cs.length∧s.1.length=cs.length∧s.2.1.length=s.1.count true∧(∀ i:Nat,s.1[i]?=some true->Sf cs i)∧(∀ i:Nat,D0[i]?=some true->s.1[i]?=some true)∧(s.1=D0∨D0.count true<s.1.count true)∧(∀ i,i<m->Rdy cs D0 i->s.1[i]?=some true)) (fun k s h=>h.1) (fun k s h=>h.2.1) ?_
    ⟨rfl,Nat.zero_le _,hD0,hy0,hs0,fun i hi=>hi,.inl rfl,fun i hi=>by omega⟩
   rintro m ⟨D,ys,_⟩ next2 ⟨rfl,hm,hD,hy,hs,hmono,hcnt,hrd⟩ hn2;simp only at hD hy hs hmono hcnt hrd;have hDc:D.count true<=5:=by have:=List.count_le_length (a:=true) (l:=D);omega
   refine zi (fun hc2=>?_) (fun hc2=>?_)
   ·have hlt:m<cs.length:=by simpa using hc2
    have hmD:m<D.length:=by omega
    have hch:=ht.2 _ (List.getElem_mem hlt);have hcm:cs[m]?=some cs[m]:=List.getElem?_eq_getElem hlt;unfold jnW;refine zq m rfl hmD ?_;refine zQ cs[m].length (fun s=>s.2) (fun j s=>s.2=(j:Int)∧j<=cs[m].length∧(s.1=true↔(D[m]=false∧∀ r,r∈cs[m].take j->r.xAction=3->D[r.xChain.toNat]?=some true))) (fun k s h=>h.1) (fun k s h=>h.2.1) ?_ ⟨rfl,Nat.zero_le _,by simp⟩;rintro j ⟨fl,_⟩ next3 ⟨rfl,hj,hfl⟩ hn3;simp only at hfl;refine zq m rfl hlt (zi (fun hc3=>?_) (fun hc3=>?_))
    ·have hltj:j<cs[m].length:=by simpa using hc3
     have htk:∀ r,r∈cs[m].take (j+1)↔r∈cs[m].take j∨r=cs[m][j]:=fun r=>by
      rw [List.take_succ_eq_append_getElem hltj,List.mem_append,List.mem_singleton]
     have hrv:=hch.2 _ (List.getElem_mem hltj);refine zq m rfl hlt (zq j rfl hltj (zi (fun hf=>?_) (fun hf=>?_)))
     ·obtain ⟨f1,f2⟩:=hfl.1 hf;refine zi (fun h3=>?_) (fun h3=>?_)
      ·refine zy (by omega) (by omega) (hn3 hltj _ ⟨by simp,by omega,⟨fun _=>⟨f1,fun r hr hr3=>?_⟩,fun _=>rfl⟩⟩);rcases (htk r).1 hr with hr | rfl
       ·exact f2 r hr hr3
       simp at h3;exact absurd hr3 h3
      have h3':cs[m][j].xAction=3:=by simpa using h3
      have hcc:=hrv.1.2.2.2.1 h3';have hc5:=hrv.2;obtain ⟨q,hq⟩:=Int.eq_ofNat_of_zero_le hcc.1;have hqD:q<D.length:=by omega
      refine zq q hq hqD (zy (by omega) (by omega) (hn3 hltj _ ⟨by simp,by omega,⟨fun e=>⟨f1,fun r hr hr3=>?_⟩,fun hh=>?_⟩⟩))
      ·rcases (htk r).1 hr with hr | rfl
       ·exact f2 r hr hr3
       rw [hq,Int.toNat_natCast,List.getElem?_eq_getElem hqD];exact congrArg some e
      have:=hh.2 _ ((htk _).2 (.inr rfl)) h3';rw [hq,Int.toNat_natCast,List.getElem?_eq_getElem hqD] at this;exact Option.some.inj this
     refine zy (by omega) (by omega) (hn3 hltj _ ⟨by simp,by omega,⟨fun e=>(by cases e),fun hh=>?_⟩⟩);have:fl=true:=hfl.2 ⟨hh.1,fun r hr hr3=>hh.2 r ((htk r).2 (.inl hr)) hr3⟩;rw [this] at hf;cases hf
    have hge:cs[m].length<=j:=by simpa using hc3
    rw [List.take_of_length_le hge] at hfl;have rdy_of:∀ D':List Bool,Rdy cs D' m->∀ r,r∈cs[m]->r.xAction=3->D'[r.xChain.toNat]?=some true:=by
     intro D' hh r hr hr3;have hcc:=(hch.2 r hr).1.2.2.2.1 hr3;exact hh _ ⟨_,hcm,r,hr,hr3,by omega⟩
    refine zi (fun hf=>?_) (fun hf=>?_)
    ·obtain ⟨f1,f2⟩:=hfl.1 hf;have hr:Rdy cs D m:=by
      rintro q ⟨c',e1,r,e2,e3,e4⟩;rw [hcm] at e1;cases e1;have:=f2 r e2 e3;rw [e4] at this;simpa using this
     have set1:∀ i:Nat,(D.set m true)[i]?=if i=m then some true else D[i]?:=fun i=>by
      by_cases e:i=m
      ·subst e;simp [hmD]
      rw [List.getElem?_set_ne (by omega),if_neg e]
     have hcs':(D.set m true).count true=D.count true+1:=by
      rw [List.count_set hmD];simp [f1]
     refine zq m rfl hmD (jk (by simp;omega) (zy (by omega) (by omega) (hn2 hlt _ ⟨by simp,by omega,by simpa using hD,?_,fun i hi=>?_,fun i hi=>?_,.inr ?_,fun i hi hri=>?_⟩)))
     ·simp only [Int.toNat_natCast,hcs'];simp;omega
     ·simp only [Int.toNat_natCast,set1] at hi;by_cases e:i=m
      ·subst e;exact zgU (fun j hj=>hs j (hr j hj))
      rw [if_neg e] at hi;exact hs i hi
     ·simp only [Int.toNat_natCast,set1];split
      ·rfl
      exact hmono i hi
     ·simp only [Int.toNat_natCast,hcs'];rcases hcnt with rfl | h
      ·omega
      omega
     simp only [Int.toNat_natCast,set1];split
     ·rfl
     exact hrd i (by omega) hri
    refine zy (by omega) (by omega) (hn2 hlt _ ⟨by simp,by omega,hD,hy,hs,hmono,hcnt,fun i hi hri=>?_⟩);by_cases e:i=m
    ·subst e;rw [List.getElem?_eq_getElem hmD];by_cases hDm:D[i]=false
     ·have:fl=true:=hfl.2 ⟨hDm,fun r hr hr3=>hmono _ (rdy_of D0 hri r hr hr3)⟩;rw [this] at hf;cases hf
     simpa using hDm
    exact hrd i (by omega) hri
   have hme:m=cs.length:=by simp at hc2;omega
   subst hme;refine zy (by omega) (by omega) (hnx hltk _ ⟨by simp,by omega,hD,hy,hs,?_⟩);rcases hcnt with rfl | hlt2
   ·exact .inr (fun i hi hri=>hrd i hi hri)
   rcases hst0 with h0 | h0
   ·exact .inl (by simp only;omega)
   refine .inr (fun i hi hri=>?_);exfalso;have hall:∀ i:Nat,D[i]?=some true->D0[i]?=some true:=fun i hi=>zkO ht h0 (hs i hi) (by have:=(List.getElem?_eq_some_iff.1 hi).1;omega)
   have heq:D=D0:=by
    apply List.ext_getElem?;intro i;by_cases hi:i<D.length
    ·rw [List.getElem?_eq_getElem hi,List.getElem?_eq_getElem (show i<D0.length by omega)];cases hb:D[i] with
     | true =>
      have:=hall i (by rw [List.getElem?_eq_getElem hi,hb]);rw [List.getElem?_eq_getElem (show i<D0.length by omega)] at this;exact this.symm
     | false =>
      cases hb0:D0[i]'(by omega) with
      | false=>rfl
      | true =>
       have:=hmono i (by rw [List.getElem?_eq_getElem (show i<D0.length by omega),hb0]);rw [List.getElem?_eq_getElem hi,hb] at this;exact this
    rw [List.getElem?_eq_none (by omega),List.getElem?_eq_none (by omega)]
   rw [heq] at hlt2;omega
  have hge:k=cs.length:=by simp at hc;omega
  subst hge;have hle:=List.count_le_length (a:=true) (l:=D0);by_cases hcn:D0.count true=cs.length
  ·exact h1 (fun i hi=>hs0 i (znp (by omega) (by omega))) ys0 (by omega)
  refine h2 (fun hall=>?_) ys0 (by omega);rcases hst0 with h0 | h0
  ·omega
  exact hcn ((zm7 (fun i hi=>zkO ht h0 (hall i (by omega)) (by omega))).trans hD0)
 exfalso;simp only [List.getElem?_replicate] at hi;split at hi <;> simp at hi
end
section
open Go.Lib (decDigits)
def RsV (c:List zo):Prop:=c.length<=8∧∀ r,r∈c->RV r
def SV (s:zB):Prop:=Tg s.xChains∧1<=s.xChains.length∧∀ i,i<s.xChains.length->Sf s.xChains i
def Bc (c:List zo):Prop:=c.length<=4294967296∧∀ r,r∈c->r.xTests.length<=4294967296
def Bd (s:zB):Prop:=s.xChains.length<=4294967296∧∀ c,c∈s.xChains->Bc c
theorem za4 {V:Type} {l:List V} {k:Nat} (h:k<l.length) (x:V):x∈l.take (k+1)↔x∈l.take k∨x=l[k]:=by
 rw [List.take_succ_eq_append_getElem h,List.mem_append,List.mem_singleton]
theorem ze9 {c:List zo} {O:Bool->Prop} (hb:Bc c) (h:∀ b,(b=true↔RsV c)->O b):Y2 c O:=by
 have hl:=hb.1;unfold Y2;refine zi (fun hc=>h _ ⟨fun e=>(by cases e),fun hh=>by have:=hh.1;simp at hc;omega⟩) (fun hc0=>?_);simp at hc0;refine zQ c.length (fun s=>s) (fun k s=>s=(k:Int)∧k<=c.length∧∀ r,r∈c.take k->RV r) (fun k s h=>h.1) (fun k s h=>h.2.1) ?_ ⟨rfl,Nat.zero_le _,by simp⟩;rintro k _ next ⟨rfl,hk,he⟩ hn;refine zi (fun hc=>?_) (fun hc=>?_)
 ·have hlt:k<c.length:=by simpa using hc
  refine zq k rfl hlt (V6 (hb.2 _ (List.getElem_mem hlt)) (zi (fun hc2=>?_) (fun hc2=>?_)))
  ·simp at hc2;exact h _ ⟨fun e=>(by cases e),fun hh=>absurd (hh.2 _ (List.getElem_mem hlt)) hc2⟩
  simp at hc2;refine zy (by omega) (by omega) (hn hlt _ ⟨by omega,by omega,fun r hr=>?_⟩);rcases (za4 hlt r).1 hr with hr | rfl
  ·exact he r hr
  exact hc2
 have hge:c.length<=k:=by simpa using hc
 rw [List.take_of_length_le hge] at he;exact h _ ⟨fun _=>⟨by omega,he⟩,fun _=>rfl⟩
theorem zfp {c:List zo} {O:Bool->Prop} (hb:Bc c) (h:∀ b,(b=true↔RsV c)->O b):YT c O:=by
 have hl:=hb.1;unfold YT;refine zQ c.length (fun s=>s) (fun k s=>s=(k:Int)∧k<=c.length∧∀ r,r∈c.take k->RV r) (fun k s h=>h.1) (fun k s h=>h.2.1) ?_ ⟨rfl,Nat.zero_le _,by simp⟩;rintro k _ next ⟨rfl,hk,he⟩ hn;refine zi (fun hc=>?_) (fun hc=>?_)
 ·have hlt:k<c.length:=by simpa using hc
  refine zq k rfl hlt (zbT (hb.2 _ (List.getElem_mem hlt)) (zi (fun hc2=>?_) (fun hc2=>?_)))
  ·simp at hc2;exact h _ ⟨fun e=>(by cases e),fun hh=>absurd (hh.2 _ (List.getElem_mem hlt)) hc2⟩
  simp at hc2;refine zy (by omega) (by omega) (hn hlt _ ⟨by omega,by omega,fun r hr=>?_⟩);rcases (za4 hlt r).1 hr with hr | rfl
  ·exact he r hr
  exact hc2
 have hge:c.length<=k:=by simpa using hc
 rw [List.take_of_length_le hge] at he;exact h _ ⟨fun e=>⟨by simp at e;omega,he⟩,fun hh=>by have:=hh.1;simp;omega⟩
theorem UH {s:zB} {O:Bool->Prop} (hb:Bd s) (h:∀ b,(b=true↔SV s)->O b):yl s O:=by
 have hn:=hb.1;have no:¬ SV s->O false:=fun hns=>h _ ⟨fun e=>(by cases e),fun hh=>absurd hh hns⟩
 unfold yl;refine zQ s.xChains.length (fun s=>s) (fun k t=>t=(k:Int)∧k<=s.xChains.length∧∀ c,c∈s.xChains.take k->RsV c∧∀ r,r∈c->r.xChain<s.xChains.length) (fun k s h=>h.1) (fun k s h=>h.2.1) ?_ ⟨rfl,Nat.zero_le _,by simp⟩;rintro k _ next ⟨rfl,hk,he⟩ hnx;refine zi (fun hc=>?_) (fun hc=>?_)
 ·have hlt:k<s.xChains.length:=by simpa using hc
  have hmem:=List.getElem_mem hlt;have hbc:=hb.2 _ hmem;have hbl:=hbc.1;refine zq k rfl hlt (zfp hbc (fun b hbv=>zi (fun hf=>no (fun hh=>?_)) (fun hf=>?_)))
  ·have:b=true:=hbv.2 ⟨(hh.1.2 _ hmem).1,fun r hr=>((hh.1.2 _ hmem).2 r hr).1⟩;rw [this] at hf;cases hf
  have hv:RsV s.xChains[k]:=hbv.1 (by simpa using hf);refine zQ s.xChains[k].length (fun s=>s) (fun j t=>t=(j:Int)∧j<=s.xChains[k].length∧∀ r,r∈s.xChains[k].take j->r.xChain<s.xChains.length) (fun k s h=>h.1) (fun k s h=>h.2.1) ?_ ⟨rfl,Nat.zero_le _,by simp⟩;rintro j _ next2 ⟨rfl,hj,he2⟩ hn2;refine zq k rfl hlt (zi (fun hc3=>?_) (fun hc3=>?_))
  ·have hltj:j<s.xChains[k].length:=by simpa using hc3
   refine zq k rfl hlt (zq j rfl hltj (zi (fun h3=>no (fun hh=>?_)) (fun h3=>?_)))
   ·have:=((hh.1.2 _ hmem).2 _ (List.getElem_mem hltj)).2;simp at h3;omega
   simp at h3;refine zy (by omega) (by omega) (hn2 hltj _ ⟨by omega,by omega,fun r hr=>?_⟩);rcases (za4 hltj r).1 hr with hr | rfl
   ·exact he2 r hr
   omega
  have hge:s.xChains[k].length<=j:=by simpa using hc3
  rw [List.take_of_length_le hge] at he2;refine zy (by omega) (by omega) (hnx hlt _ ⟨by omega,by omega,fun c hc=>?_⟩);rcases (za4 hlt c).1 hc with hc | rfl
  ·exact he c hc
  exact ⟨hv,he2⟩
 have hge:s.xChains.length<=k:=by simpa using hc
 rw [List.take_of_length_le hge] at he;unfold jnW;refine zc7 (zi (fun h5=>?_) (fun h5=>no (fun hh=>?_)))
 ·simp at h5;have ht:Tg s.xChains:=⟨by omega,fun c hc=>⟨(he c hc).1.1,fun r hr=>⟨(he c hc).1.2 r hr,(he c hc).2 r hr⟩⟩⟩;refine zm5 ht (fun hall ys hy=>h _ ⟨fun _=>⟨ht,by omega,hall⟩,fun _=>by simp;omega⟩) (fun hall ys hy=>h _ ⟨fun e=>absurd (by simp at e;omega) hy,fun hh=>absurd hh.2.2 hall⟩)
 have:=hh.1.1;have:=hh.2.1;simp at h5;omega
theorem yR {s:zB} {O:Bool->Prop} (hb:Bd s) (h:∀ b,(b=true↔SV s)->O b):um s O:=by
 have no:¬ SV s->O false:=fun hns=>h _ ⟨fun e=>(by cases e),fun hh=>absurd hh hns⟩
 unfold um jnW;simp only [ua];refine zi (fun hc=>no (fun hh=>by have:=hh.2.1;simp at hc;omega)) (fun h1=>zi (fun hc=>no (fun hh=>by have:=hh.1.1;simp at hc;omega)) (fun h5=>?_));simp at h1 h5;refine zQ s.xChains.length (fun s=>s) (fun k t=>t=(k:Int)∧k<=s.xChains.length∧∀ c,c∈s.xChains.take k->RsV c) (fun k s h=>h.1) (fun k s h=>h.2.1) ?_ ⟨rfl,Nat.zero_le _,by simp⟩;rintro k _ next ⟨rfl,hk,he⟩ hnx;refine zi (fun hc=>?_) (fun hc=>?_)
 ·have hlt:k<s.xChains.length:=by simpa using hc
  have hmem:=List.getElem_mem hlt;refine zq k rfl hlt (ze9 (hb.2 _ hmem) (fun b hbv=>zi (fun hf=>no (fun hh=>?_)) (fun hf=>?_)))
  ·have:b=true:=hbv.2 ⟨(hh.1.2 _ hmem).1,fun r hr=>((hh.1.2 _ hmem).2 r hr).1⟩;rw [this] at hf;cases hf
  refine zy (by omega) (by omega) (hnx hlt _ ⟨by omega,by omega,fun c hc=>?_⟩);rcases (za4 hlt c).1 hc with hc | rfl
  ·exact he c hc
  exact hbv.1 (by simpa using hf)
 have hge:s.xChains.length<=k:=by simpa using hc
 rw [List.take_of_length_le hge] at he;refine zQ s.xChains.length (fun s=>s) (fun k t=>t=(k:Int)∧k<=s.xChains.length∧∀ c,c∈s.xChains.take k->∀ r,r∈c->r.xChain<s.xChains.length) (fun k s h=>h.1) (fun k s h=>h.2.1) ?_ ⟨rfl,Nat.zero_le _,by simp⟩;rintro m _ next2 ⟨rfl,hm,he2⟩ hn2;refine zi (fun hc2=>?_) (fun hc2=>?_)
 ·have hlt:m<s.xChains.length:=by simpa using hc2
  have hmem:=List.getElem_mem hlt;have hv:=he _ hmem;refine zq m rfl hlt (zfx hv.1 hv.2 (fun ys hyl hys=>?_));refine zQ ys.length (fun s=>s) (fun j t=>t=(j:Int)∧j<=ys.length∧∀ x,x∈ys.take j->x<s.xChains.length) (fun k s h=>h.1) (fun k s h=>h.2.1) ?_ ⟨rfl,Nat.zero_le _,by simp⟩;rintro j _ next3 ⟨rfl,hj,he3⟩ hn3;refine zi (fun hc3=>?_) (fun hc3=>?_)
  ·have hltj:j<ys.length:=by simpa using hc3
   refine zq j rfl hltj (zi (fun hx=>no (fun hh=>?_)) (fun hx=>?_))
   ·obtain ⟨r,hr,_,hrc⟩:=(hys _).1 (List.getElem_mem hltj);have:=((hh.1.2 _ hmem).2 r hr).2;simp at hx;omega
   simp at hx;refine zy (by omega) (by omega) (hn3 hltj _ ⟨by omega,by omega,fun x hxx=>?_⟩);rcases (za4 hltj x).1 hxx with hxx | rfl
   ·exact he3 x hxx
   omega
  have hgej:ys.length<=j:=by simpa using hc3
  rw [List.take_of_length_le hgej] at he3;refine zy (by omega) (by omega) (hn2 hlt _ ⟨by omega,by omega,fun c hc=>?_⟩);rcases (za4 hlt c).1 hc with hc | rfl
  ·exact he2 c hc
  intro r hr;by_cases h3:r.xAction=3
  ·exact he3 _ ((hys _).2 ⟨r,hr,h3,rfl⟩)
  have:=(hv.2 r hr).2.2.2.2 h3;omega
 have hgem:s.xChains.length<=m:=by simpa using hc2
 rw [List.take_of_length_le hgem] at he2;have ht:Tg s.xChains:=⟨by omega,fun c hc=>⟨(he c hc).1,fun r hr=>⟨(he c hc).2 r hr,he2 c hc r hr⟩⟩⟩;exact ziT ht.w (fun hall=>h _ ⟨fun _=>⟨ht,by omega,hall⟩,fun _=>rfl⟩) (fun hall=>h _ ⟨fun e=>(by cases e),fun hh=>absurd hh.2.2 hall⟩)
def chl (k:Nat):List UInt8:=[99,104,97,105,110,32]++decDigits k
def lsF:Nat->List (List zo)->List ByteArray
 | _,[]=>[]
 | k,c :: cs=>(B (chl k) :: c.map (fun r=>B (Y9 r)))++lsF (k+1) cs
theorem zh4:∀ (k:Nat) (a:List (List zo)) (c:List zo),lsF k (a++[c])=lsF k a++(B (chl (k+a.length)) :: c.map (fun r=>B (Y9 r)))
 | k,[],c=>by simp [lsF]
 | k,x :: a,c=>by
  simp only [List.cons_append,lsF,zh4 (k+1) a c,List.length_cons]
  rw [show k+1+a.length=k+(a.length+1) by omega]
  simp
def znA:List (List zo)->Nat
 | []=>0
 | c :: cs=>c.length+znA cs
theorem zgH:∀ (k:Nat) (a:List (List zo)),(lsF k a).length=a.length+znA a
 | k,[]=>rfl
 | k,x :: a=>by simp only [lsF,List.length_append,List.length_cons,List.length_map,zgH (k+1) a,znA];omega
theorem zgE:∀ (a:List (List zo)),(∀ c,c∈a->c.length<=8)->znA a<=8 * a.length
 | [],_=>by simp [znA]
 | x :: a,h=>by
  have:=zgE a (fun c hc=>h c (by simp [hc]))
  have:=h x (by simp)
  simp only [znA,List.length_cons];omega
def dft (s:zB):List UInt8:=if s.xAccept then [100,101,102,97,117,108,116,32,97,99,99,101,112,116] else [100,101,102,97,117,108,116,32,100,114,111,112]
def VT (s:zB):List ByteArray:=B (dft s) :: lsF 0 s.xChains
end
section
open Go Go.Proofs
theorem Ut (a b:List zk):(Yl a b).2=false↔ji a b=[]:=by
 unfold Yl;cases ji a b <;> simp
def fpk (a b:za):zZ×Bool:=if em4 (ym a b) then (⟨0,0,0,0⟩,false) else (⟨(Yl a.x0 b.x0).1,(Yl a.x1 b.x1).1,(Yl a.x2 b.x2).1,(Yl a.x3 b.x3).1⟩,true)
theorem zif {a b:za} (ha:B4 a) (hb:B4 b) {O:zZ×Bool->Prop} (h:O (fpk a b)):Zh a b O:=by
 obtain ⟨a0,a1,a2,a3⟩:=a;obtain ⟨b0,b1,b2,b3⟩:=b;obtain ⟨p0,p1,p2,p3⟩:=ha;obtain ⟨q0,q1,q2,q3⟩:=hb;simp only at p0 p1 p2 p3 q0 q1 q2 q3;have hF:ji a0 b0=[]∨ji a1 b1=[]∨ji a2 b2=[]∨ji a3 b3=[]->O (⟨0,0,0,0⟩,false):=fun e=>by
  have:fpk ⟨a0,a1,a2,a3⟩ ⟨b0,b1,b2,b3⟩=(⟨0,0,0,0⟩,false):=if_pos (decide_eq_true e);rw [this] at h;exact h
 have hT:¬ (ji a0 b0=[]∨ji a1 b1=[]∨ji a2 b2=[]∨ji a3 b3=[])->O (⟨(Yl a0 b0).1,(Yl a1 b1).1,(Yl a2 b2).1,(Yl a3 b3).1⟩,true):=fun e=>by
  have:fpk ⟨a0,a1,a2,a3⟩ ⟨b0,b1,b2,b3⟩=(⟨(Yl a0 b0).1,(Yl a1 b1).1,(Yl a2 b2).1,(Yl a3 b3).1⟩,true):=if_neg (by rw [show em4 (ym ⟨a0,a1,a2,a3⟩ ⟨b0,b1,b2,b3⟩)=false from decide_eq_false e];decide);rw [this] at h;exact h
 clear h;unfold Zh;refine ⟨5,?_⟩;refine jz ?_;unfold jnW;refine zq 0 rfl (by simp) (zq 0 rfl (by simp) (zag p0 q0 (by decide) (by decide) (by decide) (by decide) ?_));simp only [List.getElem_cons_zero,List.getElem_cons_succ];refine zi (fun e=>hF (.inl ((Ut _ _).1 (by simpa using e)))) (fun e=>?_);have e0:ji a0 b0≠[]:=fun f=>by have:=(Ut _ _).2 f;simp [this] at e
 refine zq 0 rfl (by simp) (zy (by decide) (by decide) ?_);refine jz ?_;refine zq 1 rfl (by simp) (zq 1 rfl (by simp) (zag p1 q1 (by decide) (by decide) (by decide) (by decide) ?_));simp only [List.getElem_cons_zero,List.getElem_cons_succ];refine zi (fun e=>hF (.inr (.inl ((Ut _ _).1 (by simpa using e))))) (fun e=>?_);have e1:ji a1 b1≠[]:=fun f=>by have:=(Ut _ _).2 f;simp [this] at e
 refine zq 1 rfl (by simp) (zy (by decide) (by decide) ?_);refine jz ?_;refine zq 2 rfl (by simp) (zq 2 rfl (by simp) (zag p2 q2 (by decide) (by decide) (by decide) (by decide) ?_));simp only [List.getElem_cons_zero,List.getElem_cons_succ];refine zi (fun e=>hF (.inr (.inr (.inl ((Ut _ _).1 (by simpa using e)))))) (fun e=>?_);have e2:ji a2 b2≠[]:=fun f=>by have:=(Ut _ _).2 f;simp [this] at e
 refine zq 2 rfl (by simp) (zy (by decide) (by decide) ?_);refine jz ?_;refine zq 3 rfl (by simp) (zq 3 rfl (by simp) (zag p3 q3 (by decide) (by decide) (by decide) (by decide) ?_));simp only [List.getElem_cons_zero,List.getElem_cons_succ];refine zi (fun e=>hF (.inr (.inr (.inr ((Ut _ _).1 (by simpa using e)))))) (fun e=>?_);have e3:ji a3 b3≠[]:=fun f=>by have:=(Ut _ _).2 f;simp [this] at e
 refine zq 3 rfl (by simp) (zy (by decide) (by decide) ?_);refine jT ?_;refine ⟨_,_,_,_,rfl,?_⟩;unfold zat;refine zq 0 rfl (by simp) (zq 1 rfl (by simp) (zq 2 rfl (by simp) (zq 3 rfl (by simp) ?_)));exact hT (by rintro (f | f | f | f) <;> contradiction)
theorem zpf (a b:za):(fpk a b).2=!em4 (ym a b):=by
 unfold fpk;cases em4 (ym a b) <;> simp
theorem ziF {a b:za} (ha:B4 a) (hb:B4 b) {O:Bool->Prop} (h:O (!em4 (ym a b))):Zt a b O:=by
 unfold Zt;refine zif ha hb ?_;rw [← zpf] at h;exact h
theorem zhd {O:za->Prop} (h:O zcJ):YF O:=by
 unfold YF;refine ⟨5,?_⟩;refine jz (XC (n:=(0:Int)) (by decide) (by decide) (zq 0 rfl (by simp) (zy (by decide) (by decide) ?_)));refine jz (XC (n:=(1:Int)) (by decide) (by decide) (zq 1 rfl (by simp) (zy (by decide) (by decide) ?_)));refine jz (XC (n:=(2:Int)) (by decide) (by decide) (zq 2 rfl (by simp) (zy (by decide) (by decide) ?_)));refine jz (XC (n:=(3:Int)) (by decide) (by decide) (zq 3 rfl (by simp) (zy (by decide) (by decide) ?_)));refine jT ?_;exact ⟨_,_,_,_,rfl,h⟩
def x5 (a b:List zk) (t:Int):List zk:=ji a (Xh b t)
def zi5 (a b:za):za:=⟨x5 a.x0 b.x0 65535,x5 a.x1 b.x1 65535,x5 a.x2 b.x2 255,x5 a.x3 b.x3 7⟩
def in4 (a b:za):Bool:=em4 a || decide (zi5 a b=zfL)
theorem zkf {a b:za} (ha:B4 a) (hb:B4 b) {O:Bool->Prop} (h:O (in4 a b)):ZN a b O:=by
 unfold ZN;refine ze1 (zi (fun e=>?_) (fun e=>?_))
 ·unfold in4 at h;rw [e] at h;exact h
 unfold in4 at h;rw [e,Bool.false_or] at h;clear e;obtain ⟨a0,a1,a2,a3⟩:=a;obtain ⟨b0,b1,b2,b3⟩:=b;obtain ⟨p0,p1,p2,p3⟩:=ha;obtain ⟨q0,q1,q2,q3⟩:=hb;simp only at p0 p1 p2 p3 q0 q1 q2 q3;have hT:x5 a0 b0 65535=[]->x5 a1 b1 65535=[]->x5 a2 b2 255=[]->x5 a3 b3 7=[]->O true:=fun e0 e1 e2 e3=>by
  rw [decide_eq_true (by simp only [zi5,zfL,e0,e1,e2,e3])] at h;exact h
 have hF:¬ (x5 a0 b0 65535=[]∧x5 a1 b1 65535=[]∧x5 a2 b2 255=[]∧x5 a3 b3 7=[])->O false:=fun e=>by
  rw [decide_eq_false (fun f=>e (by simpa only [zi5,zfL,za.mk.injEq] using f))] at h;exact h
 clear h;refine ⟨5,?_⟩;refine jz ?_;unfold jnW;refine zq 0 rfl (by simp) (zq 0 rfl (by simp) (XC (n:=(0:Int)) (by decide) (by decide) (UM (top:=top 0) p0 q0 (by decide) (by decide) (zi (fun e=>hF (fun f=>?_)) (fun e=>zy (by decide) (by decide) ?_)))))
 ·have:=f.1;unfold x5 at this;simp [this,zsk] at e
 have e0:x5 a0 b0 65535=[]:=by simpa [x5,zsk] using e
 refine jz ?_;refine zq 1 rfl (by simp) (zq 1 rfl (by simp) (XC (n:=(1:Int)) (by decide) (by decide) (UM (top:=top 1) p1 q1 (by decide) (by decide) (zi (fun e=>hF (fun f=>?_)) (fun e=>zy (by decide) (by decide) ?_)))))
 ·have:=f.2.1;unfold x5 at this;simp [this,zr8] at e
 have e1:x5 a1 b1 65535=[]:=by simpa [x5,zr8] using e
 refine jz ?_;refine zq 2 rfl (by simp) (zq 2 rfl (by simp) (XC (n:=(2:Int)) (by decide) (by decide) (UM (top:=top 2) p2 q2 (by decide) (by decide) (zi (fun e=>hF (fun f=>?_)) (fun e=>zy (by decide) (by decide) ?_)))))
 ·have:=f.2.2.1;unfold x5 at this;simp [this,zsi] at e
 have e2:x5 a2 b2 255=[]:=by simpa [x5,zsi] using e
 refine jz ?_;refine zq 3 rfl (by simp) (zq 3 rfl (by simp) (XC (n:=(3:Int)) (by decide) (by decide) (UM (top:=top 3) p3 q3 (by decide) (by decide) (zi (fun e=>hF (fun f=>?_)) (fun e=>zy (by decide) (by decide) ?_)))))
 ·have:=f.2.2.2;unfold x5 at this;simp [this,zr6] at e
 have e3:x5 a3 b3 7=[]:=by simpa [x5,zr6] using e
 exact jT (hT e0 e1 e2 e3)
end
section
open Go Go.Proofs
instance (l:List zk):Decidable (NF l):=by unfold NF;infer_instance
instance (l:List zk) (t:Int):Decidable (St l t):=by unfold St;infer_instance
theorem zh8:∀ {ys:List zk},(∀ s∈ys,s.xLo<=s.xHi)->(ys.Pairwise (fun a b=>a.xHi+1<b.xLo)↔∀ n,(h:n+1<ys.length)->ys[n].xHi+1<ys[n+1].xLo)
 | [],_=>by simp
 | [s],_=>by simp
 | s :: t :: ys,h=>by
  have ih:=zh8 (ys:=t :: ys) (fun u hu=>h u (List.mem_cons_of_mem _ hu))
  rw [List.pairwise_cons,ih]
  constructor
  ·rintro ⟨h1,h2⟩ n hn
   cases n with
   | zero=>exact h1 t (by simp)
   | succ n=>exact h2 n (by simpa using hn)
  ·intro hh
   have h0:=hh 0 (by simp)
   have h2:∀ n,(h:n+1<(t :: ys).length)->(t :: ys)[n].xHi+1<(t :: ys)[n+1].xLo:=fun n hn=>hh (n+1) (by simpa using hn)
   refine ⟨fun u hu=>?_,h2⟩
   rcases List.mem_cons.1 hu with e | e
   ·subst e;exact h0
   ·have:=(List.pairwise_cons.1 (ih.2 h2)).1 u e
    have:=h t (by simp)
    simp only [List.getElem_cons_zero,List.getElem_cons_succ] at h0
    omega
theorem zjy {l:List zk} {top:Int}:St l top↔(∀ n,(h:n<l.length)->0<=l[n].xLo∧l[n].xLo<=l[n].xHi∧l[n].xHi<=top)∧∀ n,(h:n+1<l.length)->l[n].xHi+1<l[n+1].xLo:=by
 constructor
 ·rintro ⟨⟨h1,h2⟩,h3⟩;exact ⟨fun n hn=>by have:=h1 _ (List.getElem_mem hn);have:=h3 _ (List.getElem_mem hn);omega,(zh8 h1).1 h2⟩
 rintro ⟨h1,h2⟩;have h3:∀ s∈l,0<=s.xLo∧s.xLo<=s.xHi∧s.xHi<=top:=fun s hs=>by
  obtain ⟨n,hn,e⟩:=List.getElem_of_mem hs;rw [← e];exact h1 n hn
 exact ⟨⟨fun s hs=>(h3 s hs).2.1,(zh8 (fun s hs=>(h3 s hs).2.1)).2 h2⟩,fun s hs=>⟨(h3 s hs).1,(h3 s hs).2.2⟩⟩
def SpV (l:List zk) (top:Int):Prop:=l.length<=40∧St l top
instance (l:List zk) (t:Int):Decidable (SpV l t):=by unfold SpV;infer_instance
theorem Vy {l:List zk} {top:Int} (hl:l.length<=4294967296) (h0:0<=top) (ht:top<=65535) {O:Bool->Prop} (h:O (decide (SpV l top))):ZA l top O:=by
 unfold ZA;refine zQ l.length (fun s=>s) (fun k s=>s=(k:Int)∧k<=l.length∧(∀ n,(h:n<l.length)->n<k->0<=l[n].xLo∧l[n].xLo<=l[n].xHi∧l[n].xHi<=top)∧∀ n,(h:n+1<l.length)->n+1<k->l[n].xHi+1<l[n+1].xLo) (fun k s h=>h.1) (fun k s h=>h.2.1) ?_ ⟨rfl,Nat.zero_le _,fun n _ h=>by omega,fun n _ h=>by omega⟩;rintro k _ next ⟨rfl,hk,h1,h2⟩ hn;refine zi (fun hc=>?_) (fun hc=>?_)
 ·have hlt:k<l.length:=by simpa using hc
  have no:¬ (0<=l[k].xLo∧l[k].xLo<=l[k].xHi∧l[k].xHi<=top∧∀ j,(hj:j+1<l.length)->j+1=k->l[j].xHi+1<l[j+1].xLo)->O false:=fun hh=>by
   rw [decide_eq_false (fun hs=>hh ?_)] at h
   ·exact h
   obtain ⟨e1,e2⟩:=zjy.1 hs.2;exact ⟨(e1 k hlt).1,(e1 k hlt).2.1,(e1 k hlt).2.2,fun j hj _=>e2 j hj⟩
  have yes:(0<=l[k].xLo∧l[k].xLo<=l[k].xHi∧l[k].xHi<=top∧∀ j,(hj:j+1<l.length)->j+1=k->l[j].xHi+1<l[j+1].xLo)->je (k:Int) 1 (fun t=>next t):=fun ⟨q1,q2,q3,q4⟩ =>
   zy (by omega) (by omega) (hn hlt _ ⟨by simp,by omega,fun n hn hnk=>by
    by_cases e:n=k
    ·subst e;exact ⟨q1,q2,q3⟩
    ·exact h1 n hn (by omega),fun n hn hnk=>by
    by_cases e:n+1=k
    ·exact q4 n hn e
    ·exact h2 n hn (by omega)⟩)
  unfold jnW;refine zq k rfl hlt (zq k rfl hlt (zc7 (zi (fun e=>jz (no (fun f=>?_))) (fun e=>?_))))
  ·simp at e;omega
  simp at e;refine zq k rfl hlt (zc7 (zi (fun e2=>jz (no (fun f=>?_))) (fun e2=>?_)))
  ·simp at e2;omega
  simp at e2;refine zi (fun e3=>?_) (fun e3=>?_)
  ·have hk0:0<k:=by simpa using e3
   have hp:=h1 (k - 1) (by omega) (by omega);refine zq k rfl hlt (yK (by omega) (by omega) (zq (k - 1) (by omega) (by omega) (zy (by omega) (by omega) (zi (fun e4=>no (fun f=>?_)) (fun e4=>yes ⟨by omega,by omega,by omega,fun j hj hjk=>?_⟩)))))
   ·have:=f.2.2.2 (k - 1) (by omega) (by omega);simp at e4;have ee:k - 1+1=k:=by omega
    simp only [ee] at this;omega
   simp at e4;obtain rfl:j=k - 1:=by omega
   have ee:k - 1+1=k:=by omega
   simp only [ee];omega
  have hk0:k=0:=by simpa using e3
  exact jT (yes ⟨by omega,by omega,by omega,fun j hj hjk=>by omega⟩)
 have hge:l.length<=k:=by simpa using hc
 have hs:St l top:=zjy.2 ⟨fun n hn=>h1 n hn (by omega),fun n hn=>h2 n hn (by omega)⟩;unfold jnW;refine zc7 (zi (fun e=>?_) (fun e=>by simp at e;omega));rw [show decide (SpV l top)=decide ((l.length:Int)<=40) from decide_eq_decide.2 ⟨fun q=>by have:=q.1;omega,fun q=>⟨by omega,hs⟩⟩] at h;exact h
theorem zhu {t:Int} {O:Bool->Prop} (h0:0<=t) (ht:t<=65535) (h:O true):UZ t O:=by
 unfold UZ jnW;rw [decide_eq_true h0,decide_eq_true ht];exact jz h
theorem zfq {l:List zk} {top:Int} (hl:l.length<=9223372036854775807) (h0:0<=top) (ht:top<=65535) {O:Bool->Prop} (h:O (decide (SpV l top))):YQ l top O:=by
 unfold YQ jnW;refine zhu h0 ht (jT (zi (fun e=>?_) (fun e=>?_)))
 ·rw [decide_eq_false (fun q=>by have:=q.1;simp at e;omega)] at h;exact h
 have h40:l.length<=40:=by simp at e;omega
 refine zQ l.length (fun s=>s.2) (fun k (s:Int×Int)=>s.2=(k:Int)∧k<=l.length∧(∀ n,(h:n<l.length)->n<k->0<=l[n].xLo∧l[n].xLo<=l[n].xHi∧l[n].xHi<=top)∧(∀ n,(h:n+1<l.length)->n+1<k->l[n].xHi+1<l[n+1].xLo)∧(k=0->s.1=-2)∧(∀ n,(h:n<l.length)->n+1=k->s.1=l[n].xHi)) (fun k s h=>h.1) (fun k s h=>h.2.1) ?_ ⟨rfl,Nat.zero_le _,fun n _ h=>by omega,fun n _ h=>by omega,fun _=>rfl,fun n _ h=>by omega⟩;rintro k ⟨a,_⟩ next ⟨rfl,hk,h1,h2,h3,h4⟩ hn;simp only at h3 h4;have ha:-2<=a∧a<=65535:=by
  by_cases e:k=0
  ·have:=h3 e;omega
  have:=h4 (k - 1) (by omega) (by omega);have:=h1 (k - 1) (by omega) (by omega);omega
 refine zi (fun hc=>?_) (fun hc=>?_)
 ·have hlt:k<l.length:=by simpa using hc
  have no:¬ (a+1<l[k].xLo∧l[k].xLo<=l[k].xHi∧l[k].xHi<=top)->O false:=fun hh=>by
   rw [decide_eq_false (fun hs=>hh ?_)] at h
   ·exact h
   obtain ⟨e1,e2⟩:=zjy.1 hs.2;have q:=e1 k hlt;refine ⟨?_,q.2.1,q.2.2⟩;by_cases e:k=0
   ·have:=h3 e;omega
   obtain ⟨j,rfl⟩:∃ j,k=j+1:=⟨k - 1,by omega⟩;have:=h4 j (by omega) rfl;have:=e2 j hlt;omega
  refine zq k rfl hlt (zy (by omega) (by omega) (zi (fun e=>jz (no (fun f=>by simp at e;omega))) (fun e=>zi (fun e2=>jz (no (fun f=>by simp at e2;omega))) (fun e2=>zi (fun e3=>no (fun f=>by simp at e3;omega)) (fun e3=>?_)))));simp at e e2 e3;have lo:0<=l[k].xLo:=by
   by_cases q:k=0
   ·have:=h3 q;omega
   have:=h4 (k - 1) (by omega) (by omega);have:=h1 (k - 1) (by omega) (by omega);omega
  refine zy (by omega) (by omega) (hn hlt _ ⟨by simp,by omega,fun n hn hnk=>?_,fun n hn hnk=>?_,fun f=>by omega,fun n hn hnk=>?_⟩)
  ·by_cases q:n=k
   ·subst q;exact ⟨lo,e2,e3⟩
   exact h1 n hn (by omega)
  ·by_cases q:n+1=k
   ·subst q;have:=h4 n (by omega) rfl;omega
   exact h2 n hn (by omega)
  obtain rfl:n=k:=by omega
  rfl
 have hge:l.length<=k:=by simpa using hc
 have hs:St l top:=zjy.2 ⟨fun n hn=>h1 n hn (by omega),fun n hn=>h2 n hn (by omega)⟩;rw [decide_eq_true (show SpV l top from ⟨h40,hs⟩)] at h;exact h
instance (l:List zk) (x:Int):Decidable (hv l x):=by unfold hv;infer_instance
end
section
open Go Go.Proofs
def bx (a:za):jy:=⟨[a.x0,a.x1,a.x2,a.x3]⟩
theorem zbb {a:za} {O:Bool->Prop} (h:O (em4 a)):yT (bx a) O:=by
 obtain ⟨x0,x1,x2,x3⟩:=a;simp only [em4] at h;unfold yT;refine ⟨5,?_⟩;refine jz (zq 0 rfl (by simp [bx]) (zi (fun e=>?_) (fun e=>zy (by decide) (by decide) ?_)))
 ·have:x0=[]:=by simpa [bx] using e
  subst this;simpa using h
 have e0:x0≠[]:=by simpa [bx] using e
 refine jz (zq 1 rfl (by simp [bx]) (zi (fun e=>?_) (fun e=>zy (by decide) (by decide) ?_)))
 ·have:x1=[]:=by simpa [bx] using e
  subst this;simpa using h
 have e1:x1≠[]:=by simpa [bx] using e
 refine jz (zq 2 rfl (by simp [bx]) (zi (fun e=>?_) (fun e=>zy (by decide) (by decide) ?_)))
 ·have:x2=[]:=by simpa [bx] using e
  subst this;simpa using h
 have e2:x2≠[]:=by simpa [bx] using e
 refine jz (zq 3 rfl (by simp [bx]) (zi (fun e=>?_) (fun e=>zy (by decide) (by decide) ?_)))
 ·have:x3=[]:=by simpa [bx] using e
  subst this;simpa using h
 have e3:x3≠[]:=by simpa [bx] using e
 refine jT ?_;simpa [e0,e1,e2,e3] using h
theorem zja {a b:za} (ha:B4 a) (hb:B4 b) {O:jy->Prop} (h:O (bx (ym a b))):Uq (bx a) (bx b) O:=by
 obtain ⟨p0,p1,p2,p3⟩:=ha;obtain ⟨q0,q1,q2,q3⟩:=hb;unfold Uq;refine ⟨5,?_⟩;refine jz ?_;unfold jnW;refine zq 0 rfl (by simp [bx]) (zq 0 rfl (by simp [bx]) (X7 p0 q0 (by decide) (by decide) (by decide) (by decide) (jk (by simp) (zy (by decide) (by decide) ?_))));refine jz ?_;refine zq 1 rfl (by simp [bx]) (zq 1 rfl (by simp [bx]) (X7 p1 q1 (by decide) (by decide) (by decide) (by decide) (jk (by simp) (zy (by decide) (by decide) ?_))));refine jz ?_;refine zq 2 rfl (by simp [bx]) (zq 2 rfl (by simp [bx]) (X7 p2 q2 (by decide) (by decide) (by decide) (by decide) (jk (by simp) (zy (by decide) (by decide) ?_))));refine jz ?_;refine zq 3 rfl (by simp [bx]) (zq 3 rfl (by simp [bx]) (X7 p3 q3 (by decide) (by decide) (by decide) (by decide) (jk (by simp) (zy (by decide) (by decide) ?_))));exact jT h
theorem zk9 {O:jy->Prop} (h:O (bx zcJ)):UO O:=by
 unfold UO;refine ⟨5,?_⟩;refine jz ?_;unfold jnW;refine xF (n:=(0:Int)) (by decide) (by decide) (jk (by simp) (zy (by decide) (by decide) ?_));refine jz ?_;refine xF (n:=(1:Int)) (by decide) (by decide) (jk (by simp) (zy (by decide) (by decide) ?_));refine jz ?_;refine xF (n:=(2:Int)) (by decide) (by decide) (jk (by simp) (zy (by decide) (by decide) ?_));refine jz ?_;refine xF (n:=(3:Int)) (by decide) (by decide) (jk (by simp) (zy (by decide) (by decide) ?_));exact jT h
theorem ZH {l:List (List zk)} (hl:l.length<=4294967296) (hl2:∀ x∈l,x.length<=4294967296) {O:List (List zk)->Prop} (h:O l):uw l O:=by
 unfold uw;refine zQ l.length (fun s=>s.2) (fun k s=>s.2=(k:Int)∧k<=l.length∧s.1=l.take k) (fun k s h=>h.1) (fun k s h=>h.2.1) ?_ ⟨rfl,Nat.zero_le _,by simp⟩;rintro k ⟨xs,t⟩ next ⟨rfl,hk,hx⟩ hn;simp only at hx;subst hx;refine zi (fun hc=>?_) (fun hc=>?_)
 ·have hlt:k<l.length:=by simpa using hc
  have:=hl2 _ (List.getElem_mem hlt);refine zq k rfl hlt (jk (by simp;omega) (jk (by simp only [List.length_take,List.length_singleton];omega) (zy (by omega) (by omega) (hn hlt _ ⟨by simp,by omega,?_⟩))));rw [List.take_succ_eq_append_getElem hlt];rfl
 have hge:l.length<=k:=by simpa using hc
 rw [List.take_of_length_le hge];exact h
end
section
open Go Go.Proofs
def tsp (t:zI):List zk:=if t.xNot then Xh [zk.mk t.xLo t.xHi] (top t.xField) else [zk.mk t.xLo t.xHi]
theorem zje {lo hi t:Int} (h0:0<=lo) (h1:lo<=hi) (h2:hi<=t):St [zk.mk lo hi] t:=⟨za5 h1,fun s hs=>by simp only [List.mem_singleton] at hs;subst hs;exact ⟨h0,h2⟩⟩
theorem zg5 {t:zI} (h:TV t):St (tsp t) (top t.xField):=by
 obtain ⟨h1,h2,h3,h4,h5⟩:=h;unfold tsp;split
 ·exact Vj (zje h3 h4 h5)
 exact zje h3 h4 h5
theorem zn6 (lo hi t:Int):Xh [zk.mk lo hi] t=(if 0<lo then [zk.mk 0 (lo - 1)] else [])++(if hi+1<=t then [zk.mk (hi+1) t] else []):=rfl
theorem zmr (t:zI):(tsp t).length<=2:=by
 unfold tsp;split
 ·rw [zn6];simp only [List.length_append];split <;> split <;> simp
 simp
theorem zi9 (a:List zk) (y:zk):(ji a [y]).length<=a.length:=by
 induction a with
 | nil=>simp [ji]
 | cons x a ih =>
  have e:ji (x :: a) [y]=U8 x y++ji a [y]:=by simp [ji]
  have h1:(U8 x y).length<=1:=by unfold U8;split <;> simp
  rw [e];simp only [List.length_append,List.length_cons];omega
theorem ziI {y1 y2:zk} (hy:y1.xHi<y2.xLo):∀ {a:List zk},NF a->(ji a [y1,y2]).length<=a.length+1
 | [],_=>by simp [ji]
 | x :: a,h=>by
  have e:ji (x :: a) [y1,y2]=U8 x y1++U8 x y2++ji a [y1,y2]:=by simp [ji]
  have h1:∀ y,(U8 x y).length<=1:=fun y=>by unfold U8;split <;> simp
  have ih:=ziI hy (zbq h)
  rw [e];simp only [List.length_append,List.length_cons]
  have i1:=h1 y1
  have i2:=h1 y2
  by_cases c:max x.xLo y2.xLo<=min x.xHi y2.xHi
  ·have hg:=(List.pairwise_cons.1 h.2).1
   have e2:ji a [y1,y2]=ji a [y2]:=by
    have:∀ m:List zk,(∀ z∈m,y1.xHi<z.xLo)->ji m [y1,y2]=ji m [y2]:=by
     intro m
     induction m with
     | nil=>intro _;rfl
     | cons z m ihm =>
      intro hz
      have ez:U8 z y1=[]:=by unfold U8;rw [if_neg (by have:=hz z (by simp);omega)]
      have:=ihm (fun u hu=>hz u (by simp [hu]))
      simp only [ji,List.flatMap_cons,List.flatMap_nil,List.append_nil] at this ⊢
      rw [ez,this];simp
    exact this a (fun z hz=>by have:=hg z hz;omega)
   have:=zi9 a y2
   rw [e2];omega
  ·have:U8 x y2=[]:=by unfold U8;rw [if_neg c]
   rw [this];simp only [List.length_nil];omega
theorem zkp {a b:List zk} (ha:NF a) (hb:NF b) (h:b.length<=2):(ji a b).length<=a.length+1:=by
 match b,h,hb with
 | [],_,_ =>
  have:ji a []=[]:=by simp [ji]
  rw [this];simp
 | [y],_,_=>have:=zi9 a y;omega
 | [y1,y2],_,hb =>
  have:=(List.pairwise_cons.1 hb.2).1 y2 (by simp)
  exact ziI (by omega) ha
theorem zff {t:zI} (ht:TV t) {O:List zk->Prop} (h:O (tsp t)):XF t O:=by
 obtain ⟨h1,h2,h3,h4,h5⟩:=ht;have:=Ur t.xField;unfold tsp at h;unfold XF;refine zi (fun e=>?_) (fun e=>?_)
 ·have e':t.xNot=false:=by simpa using e
  rw [e'] at h;simpa using h
 have e':t.xNot=true:=by simpa using e
 rw [e',if_pos rfl,zn6] at h;unfold jnW;refine zi (fun c=>?_) (fun c=>?_)
 ·have c':0<t.xLo:=by simpa using c
  rw [if_pos c'] at h;refine yK (by omega) (by omega) (jk (by simp) (XC h1 h2 (zi (fun d=>?_) (fun d=>?_))))
  ·have d':t.xHi<top t.xField:=by simpa using d
   rw [if_pos (by omega)] at h;exact zy (by omega) (by omega) (jk (by simp) (by simpa using h))
  have d':¬ t.xHi<top t.xField:=by simpa using d
  rw [if_neg (by omega)] at h;simpa using h
 have c':¬ 0<t.xLo:=by simpa using c
 rw [if_neg c'] at h;refine XC h1 h2 (zi (fun d=>?_) (fun d=>?_))
 ·have d':t.xHi<top t.xField:=by simpa using d
  rw [if_pos (by omega)] at h;exact zy (by omega) (by omega) (jk (by simp) (by simpa using h))
 have d':¬ t.xHi<top t.xField:=by simpa using d
 rw [if_neg (by omega)] at h;simpa using h
theorem zgb {t:zI} (ht:TV t) {O:List zk->Prop} (h:O (tsp t)):Ya t O:=by
 have ht':=ht;obtain ⟨h1,h2,h3,h4,h5⟩:=ht;have:=Ur t.xField;unfold Ya;refine V1 ?_;rw [decide_eq_true ht'];refine jT (zi (fun e=>?_) (fun e=>?_))
 ·unfold tsp at h;rw [if_pos e] at h;exact xF h1 h2 (zb4 (zje h3 h4 h5) (by omega) (by omega) h)
 unfold tsp at h;rw [if_neg (by simpa using e)] at h;exact h
def L4 (a:za):List (List zk):=[a.x0,a.x1,a.x2,a.x3]
def xR (a:za) (f:Int):List zk:=if f=0 then a.x0 else if f=1 then a.x1 else if f=2 then a.x2 else a.x3
def Vq (a:za) (f:Int) (x:List zk):za:=if f=0 then ⟨x,a.x1,a.x2,a.x3⟩ else if f=1 then ⟨a.x0,x,a.x2,a.x3⟩ else if f=2 then ⟨a.x0,a.x1,x,a.x3⟩ else ⟨a.x0,a.x1,a.x2,x⟩
theorem ZI {a:za} {f:Int} {O:List zk->Prop} (h0:0<=f) (h1:f<=3) (h:O (xR a f)):zE (L4 a) f O:=by
 rcases zbm h0 h1 with rfl | rfl | rfl | rfl
 ·exact zq 0 rfl (by simp [L4]) h
 ·exact zq 1 rfl (by simp [L4]) h
 ·exact zq 2 rfl (by simp [L4]) h
 exact zq 3 rfl (by simp [L4]) h
theorem zbr {a:za} {f:Int} {x:List zk} (h0:0<=f) (h1:f<=3):(L4 a).set f.toNat x=L4 (Vq a f x):=by
 rcases zbm h0 h1 with rfl | rfl | rfl | rfl <;> rfl
theorem Yq {a:za} (ha:B4 a) {f:Int} (h0:0<=f) (h1:f<=3):St (xR a f) (top f):=by
 obtain ⟨p0,p1,p2,p3⟩:=ha;rcases zbm h0 h1 with rfl | rfl | rfl | rfl
 ·exact p0
 ·exact p1
 ·exact p2
 exact p3
theorem zmj {a:za} (ha:B4 a) {f:Int} (h0:0<=f) (h1:f<=3) {x:List zk} (hx:St x (top f)):B4 (Vq a f x):=by
 obtain ⟨p0,p1,p2,p3⟩:=ha;rcases zbm h0 h1 with rfl | rfl | rfl | rfl
 ·exact ⟨hx,p1,p2,p3⟩
 ·exact ⟨p0,hx,p2,p3⟩
 ·exact ⟨p0,p1,hx,p3⟩
 exact ⟨p0,p1,p2,hx⟩
def le4 (a:za) (n:Nat):Prop:=∀ f,0<=f->f<=3->(xR a f).length<=n
theorem zmB {a:za} {n m:Nat} (h:le4 a n) {f:Int} (h0:0<=f) (h1:f<=3) {x:List zk} (hx:x.length<=m) (hm:n<=m):le4 (Vq a f x) m:=by
 intro g g0 g1;have k:=h g g0 g1;rcases zbm h0 h1 with rfl | rfl | rfl | rfl <;> rcases zbm g0 g1 with rfl | rfl | rfl | rfl <;> first | exact hx | exact Nat.le_trans k hm
theorem zlz {a:za} (h:le4 a 40):F4 a:=⟨h 0 (by decide) (by decide),h 1 (by decide) (by decide),h 2 (by decide) (by decide),h 3 (by decide) (by decide)⟩
def zkg (a:za) (t:zI):za:=Vq a t.xField (ji (xR a t.xField) (tsp t))
def XE (ts:List zI):za:=ts.foldl zkg zcJ
theorem zjI:∀ (ts:List zI) (a:za) (n:Nat),(∀ t∈ts,TV t)->B4 a->le4 a n->B4 (ts.foldl zkg a)∧le4 (ts.foldl zkg a) (n+ts.length)
 | [],a,n,_,ha,hn=>⟨ha,hn⟩
 | t :: ts,a,n,h,ha,hn=>by
  have ht:=h t (by simp)
  have hs:=Yq ha ht.1 ht.2.1
  have:=zjI ts (zkg a t) (n+1) (fun u hu=>h u (by simp [hu])) (zmj ha ht.1 ht.2.1 (YD hs (zg5 ht).1))
   (zmB hn ht.1 ht.2.1 (Nat.le_trans (zkp hs.1 (zg5 ht).1 (zmr t)) (by have:=hn _ ht.1 ht.2.1;omega)) (by omega))
  refine ⟨this.1,?_⟩
  have e:n+(t :: ts).length=n+1+ts.length:=by simp only [List.length_cons];omega
  rw [e];exact this.2
theorem zj2:le4 zcJ 1:=fun f h0 h1=>by
 rcases zbm h0 h1 with rfl | rfl | rfl | rfl <;> decide
theorem zdy {ts:List zI} (h:∀ t∈ts,TV t):B4 (XE ts):=(zjI ts zcJ 1 h zjK zj2).1
theorem zp7 {ts:List zI} (h:∀ t∈ts,TV t):le4 (XE ts) (1+ts.length):=(zjI ts zcJ 1 h zjK zj2).2
theorem ziX (ts:List zI) (t:zI):XE (ts++[t])=zkg (XE ts) t:=by simp [XE]
theorem zjq {ts:List zI} (hts:TsV ts) {O:za->Prop} (hO:O (XE ts)):YS ts O:=by
 have h:=hts.1;have hl:=hts.2;unfold YS;refine zhd ?_;refine zQ ts.length (fun s=>s.2) (fun k s=>s.2=(k:Int)∧k<=ts.length∧s.1=L4 (XE (ts.take k))) (fun k s h=>h.1) (fun k s h=>h.2.1) ?_ ⟨rfl,Nat.zero_le _,by simp [XE,L4]⟩;rintro k ⟨xs,t⟩ next ⟨rfl,hk,hx⟩ hn;simp only at hx;subst hx;refine zi (fun hc=>?_) (fun hc=>?_)
 ·have hlt:k<ts.length:=by simpa using hc
  have ht:=h _ (List.getElem_mem hlt);have hpre:∀ t∈ts.take k,TV t:=fun t ht=>h t (List.mem_of_mem_take ht)
  have hb:=zdy hpre;have hs:=Yq hb ht.1 ht.2.1;have hle:=zp7 hpre _ ht.1 ht.2.1;have hml:=zkp hs.1 (zg5 ht).1 (zmr ts[k]);have htop:=Ur ts[k].xField;simp only [List.length_take] at hle;have hlim:lim (ji (xR (XE (ts.take k)) ts[k].xField) (tsp ts[k]))=(ji (xR (XE (ts.take k)) ts[k].xField) (tsp ts[k]),true):=by
   unfold lim;rw [if_neg (by omega)]
  refine zq k rfl hlt ?_;unfold jnW;have fin:xa (xR (XE (ts.take k)) ts[k].xField) (tsp ts[k]) (top ts[k].xField) (fun (r49,r51)=>zE (L4 (XE (ts.take k))) ts[k].xField (fun e52=>je (k:Int) 1 (fun t76=>next ((L4 (XE (ts.take k))).set (ts[k].xField).toNat r49,t76)))):=by
   refine Vk hs (zg5 ht) (by omega) (by omega) ?_;rw [hlim];refine ZI ht.1 ht.2.1 (zy (by omega) (by omega) (hn hlt _ ⟨by simp,by omega,?_⟩));simp only;rw [zbr ht.1 ht.2.1,List.take_succ_eq_append_getElem hlt,ziX];rfl
  exact ⟨ZI ht.1 ht.2.1 (zff ht (XC ht.1 ht.2.1 fin)),zff ht ⟨ZI ht.1 ht.2.1 (XC ht.1 ht.2.1 fin),XC ht.1 ht.2.1 (ZI ht.1 ht.2.1 fin)⟩⟩
 have hge:ts.length<=k:=by simpa using hc
 rw [List.take_of_length_le hge];exact ⟨_,_,_,_,rfl,hO⟩
theorem zlA {ts:List zI} (hts:TsV ts) {O:jy->Prop} (hO:O (bx (XE ts))):UX ts O:=by
 have h:=hts.1;have hl:=hts.2;unfold UX;refine zbC (by omega) ?_;rw [decide_eq_true hts];refine jT (zk9 ?_);refine zQ ts.length (fun s=>s.2) (fun k s=>s.2=(k:Int)∧k<=ts.length∧s.1=L4 (XE (ts.take k))) (fun k s h=>h.1) (fun k s h=>h.2.1) ?_ ⟨rfl,Nat.zero_le _,by simp [XE,L4,bx]⟩;rintro k ⟨xs,t⟩ next ⟨rfl,hk,hx⟩ hn;simp only at hx;subst hx;refine zi (fun hc=>?_) (fun hc=>?_)
 ·have hlt:k<ts.length:=by simpa using hc
  have ht:=h _ (List.getElem_mem hlt);have hpre:∀ t∈ts.take k,TV t:=fun t ht=>h t (List.mem_of_mem_take ht)
  have hb:=zdy hpre;have hs:=Yq hb ht.1 ht.2.1;have htop:=Ur ts[k].xField;refine zq k rfl hlt ?_;unfold jnW;refine zq k rfl hlt ?_;have fin:yF (xR (XE (ts.take k)) ts[k].xField) (tsp ts[k]) (fun r40=>zE (L4 (XE (ts.take k))) ts[k].xField (fun e42=>je (k:Int) 1 (fun t58=>next ((L4 (XE (ts.take k))).set (ts[k].xField).toNat r40,t58)))):=by
   refine X7 hs (zg5 ht) (by omega) (by omega) (by omega) (by omega) ?_;refine ZI ht.1 ht.2.1 (zy (by omega) (by omega) (hn hlt _ ⟨by simp,by omega,?_⟩));simp only;rw [zbr ht.1 ht.2.1,List.take_succ_eq_append_getElem hlt,ziX];rfl
  exact ⟨ZI ht.1 ht.2.1 (zgb ht fin),zgb ht (ZI ht.1 ht.2.1 fin)⟩
 have hge:ts.length<=k:=by simpa using hc
 rw [List.take_of_length_le hge];exact hO
def pc (r:List zk) (a:za):List za:=if r=[] then [] else [a]
def UD (a b:za):List za :=
 if em4 (ym a b) then (if em4 a then [] else [a]) else
 pc (x5 a.x0 b.x0 65535) ⟨x5 a.x0 b.x0 65535,a.x1,a.x2,a.x3⟩ ++
 pc (x5 a.x1 b.x1 65535) ⟨ji a.x0 b.x0,x5 a.x1 b.x1 65535,a.x2,a.x3⟩ ++
 pc (x5 a.x2 b.x2 255) ⟨ji a.x0 b.x0,ji a.x1 b.x1,x5 a.x2 b.x2 255,a.x3⟩ ++
 pc (x5 a.x3 b.x3 7) ⟨ji a.x0 b.x0,ji a.x1 b.x1,ji a.x2 b.x2,x5 a.x3 b.x3 7⟩
theorem zbQ {a b:List zk} {t:Int} (ha:St a t) (hb:St b t):St (x5 a b t) t:=YD ha (Vj hb).1
theorem zpv {a b:za} (ha:B4 a) (hb:B4 b):∀ c∈UD a b,B4 c:=by
 have hm:=zkF ha hb;intro c hc;unfold UD at hc;split at hc
 ·split at hc
  ·simp at hc
  simp only [List.mem_singleton] at hc;subst hc;exact ha
 simp only [List.mem_append,or_assoc] at hc;have pcm:∀ {r:List zk} {d:za},c∈pc r d->c=d:=fun {r d} h=>by unfold pc at h;split at h <;> simp at h;exact h
 rcases hc with h | h | h | h
 ·rw [pcm h];exact ⟨zbQ ha.1 hb.1,ha.2.1,ha.2.2.1,ha.2.2.2⟩
 ·rw [pcm h];exact ⟨hm.1,zbQ ha.2.1 hb.2.1,ha.2.2.1,ha.2.2.2⟩
 ·rw [pcm h];exact ⟨hm.1,hm.2.1,zbQ ha.2.2.1 hb.2.2.1,ha.2.2.2⟩
 rw [pcm h];exact ⟨hm.1,hm.2.1,hm.2.2.1,zbQ ha.2.2.2 hb.2.2.2⟩
theorem za1 (r:List zk) (a:za):(pc r a).length<=1:=by unfold pc;split <;> simp
theorem zcN (a b:za):(UD a b).length<=4:=by
 unfold UD;split
 ·split <;> simp
 simp only [List.length_append];have:=za1 (x5 a.x0 b.x0 65535) ⟨x5 a.x0 b.x0 65535,a.x1,a.x2,a.x3⟩;have:=za1 (x5 a.x1 b.x1 65535) ⟨ji a.x0 b.x0,x5 a.x1 b.x1 65535,a.x2,a.x3⟩;have:=za1 (x5 a.x2 b.x2 255) ⟨ji a.x0 b.x0,ji a.x1 b.x1,x5 a.x2 b.x2 255,a.x3⟩;have:=za1 (x5 a.x3 b.x3 7) ⟨ji a.x0 b.x0,ji a.x1 b.x1,ji a.x2 b.x2,x5 a.x3 b.x3 7⟩;omega
theorem zj8 {l:List zk} {t:Int} (h:St l t) (h0:0<=t) (ht:t<=65535):l.length<=4294967296:=by
 have:=zbj h (by omega);omega
theorem zd4 {a:za} (h:B4 a):∀ x∈L4 a,x.length<=4294967296:=by
 obtain ⟨p0,p1,p2,p3⟩:=h;intro x hx;simp only [L4,List.mem_cons,List.not_mem_nil,or_false] at hx;rcases hx with rfl | rfl | rfl | rfl
 ·exact zj8 p0 (by decide) (by decide)
 ·exact zj8 p1 (by decide) (by decide)
 ·exact zj8 p2 (by decide) (by decide)
 exact zj8 p3 (by decide) (by decide)
theorem xp {W:Type} {K:W->Prop} {B:(W->Prop)->Prop} (h:B K):jnW K B:=h
theorem zci {a:za} (ha:B4 a) {t:Int} (h0:0<=t) (h1:t<=3) {r:List zk} {out:List jy} (ho:out.length<=1000) {K:List jy->Prop} (h:K (out++(pc r (Vq a t r)).map bx)) :
  jnW K (fun k235=>ifW (decide (0<(r.length:Int))) (uw (L4 a) (fun r149=>zE r149 t (fun _=>jQ out ([(jy.mk (r149.set (t).toNat r))]) (fun _=>k235 (out++([(jy.mk (r149.set (t).toNat r))])))))) (k235 out)):=by
 refine zi (fun e=>?_) (fun e=>?_)
 ·have hr:r≠[]:=by intro f;subst f;simp at e
  refine ZH (by simp [L4]) (zd4 ha) (ZI h0 h1 (jk (by simp only [List.length_singleton];omega) ?_));unfold pc at h;rw [if_neg hr] at h;rw [zbr h0 h1];exact h
 have hr:r=[]:=by simpa using e
 unfold pc at h;rw [if_pos hr] at h;simpa using h
theorem zia {a b:za} (ha:B4 a) (hb:B4 b) {O:List jy->Prop} (h:O ((UD a b).map bx)):ZY (bx a) (bx b) O:=by
 unfold ZY;refine zja ha hb (zbb (zi (fun e=>?_) (fun e=>?_)))
 ·unfold UD at h;rw [if_pos e] at h;unfold jnW;refine zbb (zi (fun e2=>?_) (fun e2=>?_))
  ·rw [if_neg (by simpa using e2)] at h;exact jk (by simp) h
  rw [if_pos (by simpa using e2)] at h;exact h
 unfold UD at h;rw [if_neg (by simp [e])] at h;clear e;obtain ⟨a0,a1,a2,a3⟩:=a;obtain ⟨b0,b1,b2,b3⟩:=b;have ha0:=ha;obtain ⟨p0,p1,p2,p3⟩:=ha;obtain ⟨q0,q1,q2,q3⟩:=hb;simp only at p0 p1 p2 p3 q0 q1 q2 q3 h;have m0:=YD p0 q0.1;have m1:=YD p1 q1.1;have m2:=YD p2 q2.1;refine ⟨5,?_⟩;refine jz (xp (xp ?_));refine zq 0 rfl (by simp [L4,bx]) (zq 0 rfl (by simp [L4,bx]) (xF (n:=(0:Int)) (by decide) (by decide) (zb4 (top:=65535) q0 (by decide) (by decide) (X7 p0 (Vj q0) (by decide) (by decide) (by decide) (by decide) ?_))));refine zq 0 rfl (by simp [L4,bx]) (zq 0 rfl (by simp [L4,bx]) (X7 p0 q0 (by decide) (by decide) (by decide) (by decide) (zci (a:=⟨a0,a1,a2,a3⟩) ha0 (t:=(0:Int)) (by decide) (by decide) (by simp) ?_)));refine ZH (l:=L4 ⟨a0,a1,a2,a3⟩) (by simp [L4,bx]) (zd4 ha0) (ZI (a:=⟨a0,a1,a2,a3⟩) (f:=(0:Int)) (by decide) (by decide) (zy (by decide) (by decide) ?_));have c1:B4 ⟨ji a0 b0,a1,a2,a3⟩:=⟨m0,p1,p2,p3⟩;refine jz (xp (xp ?_));refine zq 1 rfl (by simp [L4,bx]) (zq 1 rfl (by simp [L4,bx]) (xF (n:=(1:Int)) (by decide) (by decide) (zb4 (top:=65535) q1 (by decide) (by decide) (X7 p1 (Vj q1) (by decide) (by decide) (by decide) (by decide) ?_))));refine zq 1 rfl (by simp [L4,bx]) (zq 1 rfl (by simp [L4,bx]) (X7 p1 q1 (by decide) (by decide) (by decide) (by decide) (zci (a:=⟨ji a0 b0,a1,a2,a3⟩) c1 (t:=(1:Int)) (by decide) (by decide) (by have:=za1 (ji a0 (Xh b0 65535)) (Vq ⟨a0,a1,a2,a3⟩ 0 (ji a0 (Xh b0 65535)));simp only [List.length_append,List.length_map,List.length_nil];omega) ?_)));refine ZH (l:=L4 ⟨ji a0 b0,a1,a2,a3⟩) (by simp [L4,bx]) (zd4 c1) (ZI (a:=⟨ji a0 b0,a1,a2,a3⟩) (f:=(1:Int)) (by decide) (by decide) (zy (by decide) (by decide) ?_));have c2:B4 ⟨ji a0 b0,ji a1 b1,a2,a3⟩:=⟨m0,m1,p2,p3⟩;refine jz (xp (xp ?_));refine zq 2 rfl (by simp [L4,bx]) (zq 2 rfl (by simp [L4,bx]) (xF (n:=(2:Int)) (by decide) (by decide) (zb4 (top:=255) q2 (by decide) (by decide) (X7 p2 (Vj q2) (by decide) (by decide) (by decide) (by decide) ?_))));refine zq 2 rfl (by simp [L4,bx]) (zq 2 rfl (by simp [L4,bx]) (X7 p2 q2 (by decide) (by decide) (by decide) (by decide) (zci (a:=⟨ji a0 b0,ji a1 b1,a2,a3⟩) c2 (t:=(2:Int)) (by decide) (by decide) (by
  have:=za1 (ji a0 (Xh b0 65535)) (Vq ⟨a0,a1,a2,a3⟩ 0 (ji a0 (Xh b0 65535)));have:=za1 (ji a1 (Xh b1 65535)) (Vq ⟨ji a0 b0,a1,a2,a3⟩ 1 (ji a1 (Xh b1 65535)));simp only [List.length_append,List.length_map,List.length_nil];omega) ?_)))
 refine ZH (l:=L4 ⟨ji a0 b0,ji a1 b1,a2,a3⟩) (by simp [L4,bx]) (zd4 c2) (ZI (a:=⟨ji a0 b0,ji a1 b1,a2,a3⟩) (f:=(2:Int)) (by decide) (by decide) (zy (by decide) (by decide) ?_));have c3:B4 ⟨ji a0 b0,ji a1 b1,ji a2 b2,a3⟩:=⟨m0,m1,m2,p3⟩;refine jz (xp (xp ?_));refine zq 3 rfl (by simp [L4,bx]) (zq 3 rfl (by simp [L4,bx]) (xF (n:=(3:Int)) (by decide) (by decide) (zb4 (top:=7) q3 (by decide) (by decide) (X7 p3 (Vj q3) (by decide) (by decide) (by decide) (by decide) ?_))));refine zq 3 rfl (by simp [L4,bx]) (zq 3 rfl (by simp [L4,bx]) (X7 p3 q3 (by decide) (by decide) (by decide) (by decide) (zci (a:=⟨ji a0 b0,ji a1 b1,ji a2 b2,a3⟩) c3 (t:=(3:Int)) (by decide) (by decide) (by
  have:=za1 (ji a0 (Xh b0 65535)) (Vq ⟨a0,a1,a2,a3⟩ 0 (ji a0 (Xh b0 65535)));have:=za1 (ji a1 (Xh b1 65535)) (Vq ⟨ji a0 b0,a1,a2,a3⟩ 1 (ji a1 (Xh b1 65535)));have:=za1 (ji a2 (Xh b2 255)) (Vq ⟨ji a0 b0,ji a1 b1,a2,a3⟩ 2 (ji a2 (Xh b2 255)));simp only [List.length_append,List.length_map,List.length_nil];omega) ?_)))
 refine ZH (l:=L4 ⟨ji a0 b0,ji a1 b1,ji a2 b2,a3⟩) (by simp [L4,bx]) (zd4 c3) (ZI (a:=⟨ji a0 b0,ji a1 b1,ji a2 b2,a3⟩) (f:=(3:Int)) (by decide) (by decide) (zy (by decide) (by decide) ?_));refine jT ?_;simp only [List.map_append] at h;exact h
end
section
open Go Go.Proofs
def hdm (a b:za) (k:Nat):za:=⟨if 0<k then ji a.x0 b.x0 else a.x0,if 1<k then ji a.x1 b.x1 else a.x1,if 2<k then ji a.x2 b.x2 else a.x2,if 3<k then ji a.x3 b.x3 else a.x3⟩
def rst (a b:za) (k:Nat):List zk:=x5 (xR a k) (xR b k) (top k)
def mt (a b:za) (k:Nat):List zk:=ji (xR a k) (xR b k)
def pcn (a b:za) (k:Nat):List za:=pc (rst a b k) (Vq (hdm a b k) k (rst a b k))
def pcs (a b:za) (k:Nat):List za:=(List.range k).flatMap (pcn a b)
theorem zbg (a b:za) (k:Nat):pcs a b (k+1)=pcs a b k++pcn a b k:=by simp [pcs,List.range_succ]
theorem zoR (a b:za):pcs a b 4=pc (x5 a.x0 b.x0 65535) ⟨x5 a.x0 b.x0 65535,a.x1,a.x2,a.x3⟩ ++
 pc (x5 a.x1 b.x1 65535) ⟨ji a.x0 b.x0,x5 a.x1 b.x1 65535,a.x2,a.x3⟩ ++
 pc (x5 a.x2 b.x2 255) ⟨ji a.x0 b.x0,ji a.x1 b.x1,x5 a.x2 b.x2 255,a.x3⟩ ++
 pc (x5 a.x3 b.x3 7) ⟨ji a.x0 b.x0,ji a.x1 b.x1,ji a.x2 b.x2,x5 a.x3 b.x3 7⟩:=by
 rw [zbg,zbg,zbg,zbg];rfl
theorem zoU {a b:za} (h:em4 (ym a b)=false):UD a b=pcs a b 4:=by
 unfold UD;rw [if_neg (by simp [h]),zoR]
theorem Ui {k:Nat} (h:k<4):k=0∨k=1∨k=2∨k=3:=by omega
theorem zpE (a b:za) {k:Nat} (h:k<4):∀ c∈pcn a b k,c∈pcs a b 4:=fun c hc=>by
 unfold pcs;exact List.mem_flatMap.2 ⟨k,by simpa using h,hc⟩
theorem znL (a b:za) {k:Nat} (h:k<4):Vq (hdm a b k) k (mt a b k)=hdm a b (k+1):=by
 rcases Ui h with rfl | rfl | rfl | rfl <;> rfl
theorem zqZ {a b:za} (ha:F4 a) {k:Nat} (h:k<4) {r:List zk}:F4 (Vq (hdm a b k) k r)↔r.length<=40∧∀ j,j<k->(mt a b j).length<=40:=by
 obtain ⟨h0,h1,h2,h3⟩:=ha;rcases Ui h with rfl | rfl | rfl | rfl
 ·constructor
  ·intro q;exact ⟨q.1,fun j hj=>by omega⟩
  intro q;exact ⟨q.1,h1,h2,h3⟩
 ·constructor
  ·intro q;refine ⟨q.2.1,fun j hj=>?_⟩;have ej:j=0:=by omega
   subst ej;exact q.1
  intro q;exact ⟨q.2 0 (by omega),q.1,h2,h3⟩
 ·constructor
  ·intro q;refine ⟨q.2.2.1,fun j hj=>?_⟩;obtain rfl | rfl:j=0∨j=1:=by omega
   ·exact q.1
   exact q.2.1
  intro q;exact ⟨q.2 0 (by omega),q.2 1 (by omega),q.1,h3⟩
 constructor
 ·intro q;refine ⟨q.2.2.2,fun j hj=>?_⟩;obtain rfl | rfl | rfl:j=0∨j=1∨j=2:=by omega
  ·exact q.1
  ·exact q.2.1
  exact q.2.2.1
 intro q;exact ⟨q.2 0 (by omega),q.2 1 (by omega),q.2 2 (by omega),q.1⟩
theorem ziN {W:Type} {K:W->Prop} {B:(W->Prop)->Prop} (P:W->Prop) (h1:∀ r,P r->K r) (h2:∀ K',(∀ r,P r->K' r)->B K'):jnW K B:=h2 K h1
def zhc (a b:za):List za×Bool:=if ∀ c∈UD a b,F4 c then (UD a b,true) else ([],false)
theorem zhg {a b:za} (ha:B4 a) (hb:B4 b) (hf:F4 a) {O:List za×Bool->Prop} (h:O (zhc a b)):Ze a b O:=by
 have yes:(∀ c∈UD a b,F4 c)->O (zrA (some (UD a b))):=fun q=>by
  unfold zhc at h;rw [if_pos q] at h;exact h
 have no:(¬ ∀ c∈UD a b,F4 c)->O (zrA none):=fun q=>by
  unfold zhc at h;rw [if_neg q] at h;exact h
 clear h;unfold Ze YM;refine ze1 (zi (fun e=>?_) (fun e=>ziF ha hb (zi (fun e2=>?_) (fun e2=>?_))))
 ·have hc:UD a b=[]:=by
   have:em4 (ym a b)=true:=by
    simp only [em4,decide_eq_true_eq,ym] at e ⊢;rcases e with e | e | e | e <;> simp [e,ji]
   unfold UD;rw [if_pos this,if_pos e]
  rw [hc] at yes;exact yes (by simp)
 ·have hc:UD a b=[a]:=by
   unfold UD;rw [if_pos (by simpa using e2),if_neg (by simp [e])]
  rw [hc] at yes;refine jz (jk (by simp) ?_);exact yes (by simpa using hf)
 have e3:em4 (ym a b)=false:=by simpa using e2
 rw [zoU e3] at yes no;clear e e2 e3;refine zQ 4 (fun s=>s.2.2.2) (fun k (s:List (List zk)×Option (List za)×Bool×Int)=>s.2.2.2=(k:Int)∧k<=4∧(∃ hd,s.1=L4 hd∧(s.2.2.1=true->hd=hdm a b k))∧(s.2.2.1=true↔∀ j,j<k->(mt a b j).length<=40)∧s.2.1=some (pcs a b k)∧∀ c∈pcs a b k,F4 c) (fun k s h=>h.1) (fun k s h=>h.2.1) ?_ ⟨rfl,by omega,⟨a,rfl,fun _=>rfl⟩,by simp,rfl,by simp [pcs]⟩;rintro k ⟨xs,z,fits,_⟩ next ⟨rfl,hk,⟨hd,hxs,hfx⟩,hfit,hz,hpre⟩ hn;simp only at hxs hfx hfit hz;subst hxs hz;refine zi (fun hc=>?_) (fun hc=>?_);rotate_left
 ·have hge:4<=(k:Int):=by simpa using hc
  obtain rfl:k=4:=by omega
  exact yes hpre
 have hlt:k<4:=by
  have:(k:Int)<4:=by simpa using hc
  omega
 have k0:(0:Int)<=k:=by omega
 have k3:(k:Int)<=3:=by omega
 have sa:=Yq ha k0 k3;have sb:=Yq hb k0 k3;have tl:=Ur k;have fin2:∀ (z':List za) (hd':za),z'=pcs a b (k+1)->(∀ c∈z',F4 c)->(fits=true->hd'=hdm a b k)->∀ l ok,(l,ok)=lim (mt a b k)->zE (L4 hd') k (fun e432=>ifW fits (je (k:Int) 1 (fun t505=>next ((L4 hd').set (k:Int).toNat l,some z',ok,t505))) (je (k:Int) 1 (fun t505=>next ((L4 hd').set (k:Int).toNat l,some z',false,t505)))):=by
  intro z' hd' hz' hF hh l ok hl;subst hz';refine ZI k0 k3 (zi (fun e=>?_) (fun e=>?_))
  ·refine zy (by omega) (by omega) (hn hlt _ ⟨by simp,by omega,⟨Vq hd' k l,zbr k0 k3,fun q=>?_⟩,?_,rfl,hF⟩)
   ·simp only at q;rw [hh e];unfold lim at hl;split at hl
    ·injection hl with _ h2;rw [q] at h2;cases h2
    injection hl with h1 _;rw [h1,znL a b hlt]
   simp only;unfold lim at hl;constructor
   ·intro q j hj;by_cases ej:j=k
    ·subst ej;split at hl
     ·injection hl with _ h2;rw [q] at h2;cases h2
     omega
    exact hfit.1 e j (by omega)
   intro q;have:=q k (by omega);rw [if_neg (by omega)] at hl;injection hl
  refine zy (by omega) (by omega) (hn hlt _ ⟨by simp,by omega,⟨Vq hd' k l,zbr k0 k3,fun q=>by cases q⟩,?_,rfl,hF⟩);simp only;constructor
  ·intro q;cases q
  intro q;have:=hfit.2 (fun j hj=>q j (by omega));rw [this] at e;cases e
 have piece:rst a b k≠[]->Vq (hdm a b k) k (rst a b k)∈pcs a b 4:=fun q=>zpE a b hlt _ (by unfold pcn pc;rw [if_neg q];simp)
 refine xp (ziN (fun r=>r=lim (rst a b k)) ?_ ?_);rotate_left
 ·intro K hK;have leaf:uK (xR a k) (xR b k) (top k) K:=zkP sa sb (by omega) (by omega) (hK _ rfl);refine ⟨ZI k0 k3 ⟨?_,?_⟩,ZI k0 k3 ⟨?_,?_⟩,XC k0 k3 ⟨?_,?_⟩⟩
  ·exact ZI k0 k3 (XC k0 k3 leaf)
  ·exact XC k0 k3 (ZI k0 k3 leaf)
  ·exact ZI k0 k3 (XC k0 k3 leaf)
  ·exact XC k0 k3 (ZI k0 k3 leaf)
  ·exact ZI k0 k3 (ZI k0 k3 leaf)
  exact ZI k0 k3 (ZI k0 k3 leaf)
 rintro ⟨l,okl⟩ hl;refine ziN (fun t=>t=(!okl || (decide (0<(l.length:Int)) && !fits))) ?_ ?_;rotate_left
 ·intro K hK;have hK:=hK _ rfl;refine zi (fun e=>?_) (fun e=>?_)
  ·have:okl=false:=by simpa using e
   rw [this] at hK;simpa using hK
  have:okl=true:=by simpa using e
  rw [this] at hK;refine zi (fun e=>?_) (fun e=>?_)
  ·rw [e] at hK;simpa using hK
  rw [e] at hK;simpa using hK
 rintro t rfl;refine zi (fun e=>?_) (fun e=>?_)
 ·
  refine jT (no (fun q=>?_));unfold lim at hl;split at hl
  ·rename_i h40;have hne:rst a b k≠[]:=fun f=>by rw [f] at h40;simp at h40
   have:=((zqZ hf hlt).1 (q _ (piece hne))).1;omega
  rename_i h40;injection hl with h1 h2;subst h1 h2;have e':0<(rst a b k).length∧fits=false:=by simpa using e
  have hne:rst a b k≠[]:=fun f=>by rw [f] at e';simp at e'
  have:=hfit.2 ((zqZ hf hlt).1 (q _ (piece hne))).2;rw [this] at e';simp at e'
 unfold lim at hl;split at hl
 ·injection hl with h1 h2;subst h1 h2;simp at e
 rename_i h40;injection hl with h1 h2;subst h1 h2;have e':rst a b k≠[]->fits=true:=fun q=>by
  cases fits with
  | true=>rfl
  | false =>
   have:0<(rst a b k).length:=List.length_pos_iff.2 q;simp [this] at e
 clear e;refine ziN (fun s=>s.1=some (pcs a b (k+1))∧(∀ c∈pcs a b (k+1),F4 c)∧∃ hd',s.2=L4 hd'∧(fits=true->hd'=hdm a b k)) ?_ ?_
 ·rintro ⟨z,ys⟩ ⟨hz,hF,hd',hy,hh⟩;simp only at hz hy;subst hz hy;refine ziN (fun r=>r=lim (mt a b k)) ?_ ?_
  ·rintro ⟨m,okm⟩ hm;exact fin2 _ hd' rfl hF hh m okm hm
  intro K hK;have leaf:xa (xR a k) (xR b k) (top k) K:=Vk sa sb (by omega) (by omega) (hK _ rfl);refine ⟨ZI k0 k3 ⟨?_,?_⟩,ZI k0 k3 ⟨?_,?_⟩,XC k0 k3 ⟨?_,?_⟩⟩
  ·exact ZI k0 k3 (XC k0 k3 leaf)
  ·exact XC k0 k3 (ZI k0 k3 leaf)
  ·exact ZI k0 k3 (XC k0 k3 leaf)
  ·exact XC k0 k3 (ZI k0 k3 leaf)
  ·exact ZI k0 k3 (ZI k0 k3 leaf)
  exact ZI k0 k3 (ZI k0 k3 leaf)
 intro K hK;refine zi (fun e=>?_) (fun e=>?_)
 ·have hne:rst a b k≠[]:=fun f=>by rw [f] at e;simp at e
  have hft:=e' hne;have ed:=hfx hft;subst ed;have hpc:pcs a b (k+1)=pcs a b k++[Vq (hdm a b k) k (rst a b k)]:=by
   rw [zbg];unfold pcn pc;rw [if_neg hne]
  refine ⟨_,_,_,_,rfl,ZI (a:=hdm a b k) k0 k3 ⟨(Vq (hdm a b k) k (rst a b k)).x0,(Vq (hdm a b k) k (rst a b k)).x1,(Vq (hdm a b k) k (rst a b k)).x2,(Vq (hdm a b k) k (rst a b k)).x3,zbr (a:=hdm a b k) k0 k3,?_⟩⟩;have hl1:(pcs a b k).length<=4:=by
   have h1:∀ n,(pcs a b n).length<=n:=by
    intro n;induction n with
    | zero=>simp [pcs]
    | succ n ih =>
     have:=za1 (rst a b n) (Vq (hdm a b n) n (rst a b n));rw [zbg,List.length_append];unfold pcn;omega
   have:=h1 k;omega
  refine jz (jk (by simp;omega) (jT (hK _ ⟨by rw [hpc],?_,hdm a b k,rfl,fun _=>rfl⟩)));intro c hc;rw [hpc] at hc;rcases List.mem_append.1 hc with q | q
  ·exact hpre c q
  have:c=Vq (hdm a b k) k (rst a b k):=by simpa using q
  rw [this];exact (zqZ hf hlt).2 ⟨by omega,hfit.1 hft⟩
 have hnil:rst a b k=[]:=by
  cases hr:rst a b k with
  | nil=>rfl
  | cons x r=>rw [hr] at e;simp at e
 have hpc:pcs a b (k+1)=pcs a b k:=by
  rw [zbg];unfold pcn pc;rw [if_pos hnil];simp
 exact hK _ ⟨by rw [hpc],by rw [hpc];exact hpre,hd,rfl,hfx⟩
end
section
def pv (p:zZ):Prop:=(0<=p.xFrom∧p.xFrom<=65535)∧(0<=p.xTo∧p.xTo<=65535)∧(0<=p.xPort∧p.xPort<=255)∧(0<=p.xProto∧p.xProto<=7)
instance (p:zZ):Decidable (pv p):=by unfold pv;infer_instance
def tv (t:Int):Prop:=0<=t∧t<=1000000
instance (t:Int):Decidable (tv t):=by unfold tv;infer_instance
theorem zlS {n:Int} (h0:0<=n) (h1:n<4) {O:Int->Prop} (h:O (if n<=1 then 65535 else if n=2 then 255 else 7)):jx n O:=by
 unfold jx jnW;refine zi (fun hc=>by simp at hc;omega) (fun _=>zi (fun hc=>by simp at hc;omega) (fun _=>?_));have:n=0∨n=1∨n=2∨n=3:=by omega
 rcases this with rfl | rfl | rfl | rfl
 ·exact zq 0 rfl (by simp [zu]) (by simpa [zu] using h)
 ·exact zq 1 rfl (by simp [zu]) (by simpa [zu] using h)
 ·exact zq 2 rfl (by simp [zu]) (by simpa [zu] using h)
 exact zq 3 rfl (by simp [zu]) (by simpa [zu] using h)
def XM (p:zZ):Nat->Int
 | 0=>p.xFrom
 | 1=>p.xTo
 | 2=>p.xPort
 | _=>p.xProto
def zpJ:Nat->Int
 | 0=>65535
 | 1=>65535
 | 2=>255
 | _=>7
theorem zon (p:zZ):pv p↔∀ i,i<4->0<=XM p i∧XM p i<=zpJ i:=by
 unfold pv;constructor
 ·rintro ⟨h0,h1,h2,h3⟩ i hi
  match i,hi with
  | 0,_=>exact h0
  | 1,_=>exact h1
  | 2,_=>exact h2
  | 3,_=>exact h3
 intro h;exact ⟨h 0 (by omega),h 1 (by omega),h 2 (by omega),h 3 (by omega)⟩
theorem ziw {p:zZ} {O:Bool->Prop} (h:O (decide (pv p))):Ym p O:=by
 unfold Ym Zn;refine zQ 4 (fun s=>s) (fun k s=>s=(k:Int)∧k<=4∧∀ i,i<k->0<=XM p i∧XM p i<=zpJ i) (fun k s h=>h.1) (fun k s h=>h.2.1) ?_ ⟨rfl,by omega,fun i hi=>by omega⟩;rintro k _ next ⟨rfl,hk,hi⟩ hn;refine zi (fun hlt=>?_) (fun hge=>?_)
 ·have hlt:k<4:=by simp at hlt;omega
  have hno:¬ (0<=XM p k∧XM p k<=zpJ k)->O false:=fun hno=>by
   rw [decide_eq_false (fun hv=>hno ((zon p).1 hv k hlt))] at h;exact h
  refine zq k rfl (by simpa using hlt) ?_;have e:([p.xFrom,p.xTo,p.xPort,p.xProto]:List Int)[k]'(by simpa using hlt)=XM p k:=by
   match k,hlt with
   | 0,_=>rfl
   | 1,_=>rfl
   | 2,_=>rfl
   | 3,_=>rfl
  simp only [e];unfold jnW;refine zi (fun hc=>?_) (fun hc=>zlS (by omega) (by omega) ?_)
  ·simp only [ua];exact hno (by simp at hc;omega)
  have et:(if (k:Int)<=1 then (65535:Int) else if (k:Int)=2 then 255 else 7)=zpJ k:=by
   match k,hlt with
   | 0,_=>rfl
   | 1,_=>rfl
   | 2,_=>rfl
   | 3,_=>rfl
  rw [et];refine zi (fun h2=>hno (by simp at h2;omega)) (fun h2=>zy (by omega) (by omega) (hn hlt _ ⟨by simp,by omega,fun i hi'=>?_⟩));by_cases e:i=k
  ·subst e;simp at hc h2;exact ⟨hc,h2⟩
  exact hi i (by omega)
 have:k=4:=by simp at hge;omega
 subst this;rw [decide_eq_true ((zon p).2 hi)] at h;exact h
def lv (t:Int):Prop:=0<=t∧t<=1000
instance (t:Int):Decidable (lv t):=by unfold lv;infer_instance
end
section
open Go Go.Proofs
def BV (b:jy):Prop:=∃ a,b=bx a∧B4 a∧F4 a
noncomputable instance (b:jy):Decidable (BV b):=Classical.propDecidable _
def sd (b:jy):za:=match b.xSides with | [x0,x1,x2,x3]=>⟨x0,x1,x2,x3⟩ | _=>zfL
theorem zqv (a:za):sd (bx a)=a:=rfl
theorem BV.eq {b:jy} (h:BV b):b=bx (sd b):=by obtain ⟨a,rfl,_⟩:=h;rfl
theorem BV.b4 {b:jy} (h:BV b):B4 (sd b):=by obtain ⟨a,rfl,h,_⟩:=h;exact h
theorem BV.f4 {b:jy} (h:BV b):F4 (sd b):=by obtain ⟨a,rfl,_,h⟩:=h;exact h
theorem zh7 {a:za}:BV (bx a)↔B4 a∧F4 a:=⟨fun h=>⟨h.b4,h.f4⟩,fun h=>⟨a,rfl,h⟩⟩
theorem zg6 {b:jy} (h:BV b):b.xSides.length=4:=by obtain ⟨a,rfl,_⟩:=h;rfl
theorem zrN {V:Type} {l:List V} (h:l.length=4):∃ a b c d,l=[a,b,c,d]:=by
 match l,h with
 | [a,b,c,d],_=>exact ⟨a,b,c,d,rfl⟩
theorem zqG {b:jy} (h:b.xSides.length=4):b=bx (sd b):=by
 obtain ⟨x0,x1,x2,x3,e⟩:=zrN h;obtain ⟨s⟩:=b;simp only at e;subst e;rfl
theorem zj5 {a:za}:BV (bx a)↔∀ n:Nat,n<4->SpV (xR a n) (top n):=by
 rw [zh7];constructor
 ·rintro ⟨⟨b0,b1,b2,b3⟩,f0,f1,f2,f3⟩ n hn;rcases Ui hn with rfl | rfl | rfl | rfl
  ·exact ⟨f0,b0⟩
  ·exact ⟨f1,b1⟩
  ·exact ⟨f2,b2⟩
  exact ⟨f3,b3⟩
 intro h;obtain ⟨f0,b0⟩:=h 0 (by decide);obtain ⟨f1,b1⟩:=h 1 (by decide);obtain ⟨f2,b2⟩:=h 2 (by decide);obtain ⟨f3,b3⟩:=h 3 (by decide);exact ⟨⟨b0,b1,b2,b3⟩,f0,f1,f2,f3⟩
def Bb (b:jy):Prop:=b.xSides.length<=4294967296∧∀ x∈b.xSides,x.length<=4294967296
def Fb (l:List ja):Prop:=l.length<=4294967296∧∀ f∈l,Bb f.xWhere
theorem BV.bb {b:jy} (h:BV b):Bb b:=by
 obtain ⟨a,rfl,_,f0,f1,f2,f3⟩:=h;refine ⟨by simp [bx],fun x hx=>?_⟩;simp only [bx,List.mem_cons,List.not_mem_nil,or_false] at hx;rcases hx with rfl | rfl | rfl | rfl <;> omega
theorem zo9 (a:za) {n:Nat} (h:n<4):xR a n∈(bx a).xSides:=by
 rcases Ui h with rfl | rfl | rfl | rfl <;> simp [xR,bx]
theorem zcB {b:jy} (hb:Bb b) {O:Bool->Prop} (h:O (decide (BV b))):YE b O:=by
 unfold YE;have h1:=hb.1;refine zi (fun e=>?_) (fun e=>?_)
 ·have e':¬ b.xSides.length=4:=fun q=>by rw [q] at e;simp at e
  rw [decide_eq_false (fun q=>e' (zg6 q))] at h;exact h
 have e4:b.xSides.length=4:=by
  have:(b.xSides.length:Int)=4:=by simpa using e
  omega
 obtain ⟨a,rfl⟩:∃ a,b=bx a:=⟨_,zqG e4⟩;clear e e4;refine zQ 4 (fun s=>s) (fun k s=>s=(k:Int)∧k<=4∧∀ n:Nat,n<k->SpV (xR a n) (top n)) (fun k s h=>h.1) (fun k s h=>h.2.1) ?_ ⟨rfl,by omega,fun n h=>by omega⟩;rintro k _ next ⟨rfl,hk,hv⟩ hn;refine zi (fun hc=>?_) (fun hc=>?_)
 ·have hlt:k<4:=by
   have:(k:Int)<4:=by simpa [bx] using hc
   omega
  have k0:(0:Int)<=k:=by omega
  have k3:(k:Int)<=3:=by omega
  have tl:=Ur k;refine ZI k0 k3 (XC k0 k3 (zfq (by have:=hb.2 _ (zo9 a hlt);omega) (by omega) (by omega) (zi (fun e=>?_) (fun e=>?_))))
  ·have:¬ SpV (xR a k) (top k):=by simpa using e
   rw [decide_eq_false (fun q=>this (zj5.1 q k hlt))] at h;exact h
  have:SpV (xR a k) (top k):=by simpa using e
  refine zy (by omega) (by omega) (hn hlt _ ⟨by simp,by omega,fun n hnk=>?_⟩);by_cases q:n=k
  ·subst q;exact this
  exact hv n (by omega)
 have hge:k=4:=by
  have:(4:Int)<=k:=by simpa [bx] using hc
  omega
 subst hge;rw [decide_eq_true (zj5.2 hv)] at h;exact h
theorem ZF {b:jy} (hb:Bb b) {O:Bool->Prop} (h:O (decide (BV b))):yb b O:=by
 unfold yb;have h1:=hb.1;refine zQ b.xSides.length (fun s=>s) (fun k s=>s=(k:Int)∧k<=b.xSides.length∧k<=4∧∀ n:Nat,n<k->∀ q:n<b.xSides.length,SpV (b.xSides[n]) (top n)) (fun k s h=>h.1) (fun k s h=>h.2.1) ?_ ⟨rfl,by omega,by omega,fun n h=>by omega⟩;rintro k _ next ⟨rfl,hk,hk4,hv⟩ hn;refine zi (fun hc=>?_) (fun hc=>?_)
 ·have hlt:k<b.xSides.length:=by simpa using hc
  refine xp (zi (fun e=>?_) (fun e=>?_))
  ·have e':4<=k:=by
    have:(4:Int)<=k:=by simpa using e
    omega
   rw [decide_eq_false (fun q=>by have:=zg6 q;omega)] at h;exact jz h
  have e':k<4:=by
   have:¬ (4:Int)<=k:=by simpa using e
   omega
  have k0:(0:Int)<=k:=by omega
  have k3:(k:Int)<=3:=by omega
  have tl:=Ur k;refine zq k rfl hlt (xF k0 k3 (Vy (hb.2 _ (List.getElem_mem hlt)) (by omega) (by omega) (zi (fun e=>?_) (fun e=>?_))))
  ·have no:¬ SpV (b.xSides[k]) (top k):=by simpa using e
   rw [decide_eq_false (fun q=>no ?_)] at h
   ·exact h
   obtain ⟨a,rfl,_⟩:=id q;have:=zj5.1 q k e';have e2:(bx a).xSides[k]=xR a k:=by rcases Ui e' with rfl | rfl | rfl | rfl <;> rfl
   rw [e2];exact this
  have yes:SpV (b.xSides[k]) (top k):=by simpa using e
  refine zy (by omega) (by omega) (hn hlt _ ⟨by simp,by omega,by omega,fun n hnk q=>?_⟩);by_cases e:n=k
  ·subst e;exact yes
  exact hv n (by omega) q
 have hge:b.xSides.length=k:=by
  have:b.xSides.length<=k:=by simpa using hc
  omega
 have:decide (BV b)=decide ((b.xSides.length:Int)=4):=decide_eq_decide.2 ⟨fun q=>by have:=zg6 q;omega,fun q=>by
  have e4:b.xSides.length=4:=by omega
  obtain ⟨a,rfl⟩:∃ a,b=bx a:=⟨_,zqG e4⟩;refine zj5.2 (fun n hn4=>?_);have:=hv n (by omega) (by simpa [bx] using hn4);have e2:(bx a).xSides[n]'(by simpa [bx] using hn4)=xR a n:=by rcases Ui hn4 with rfl | rfl | rfl | rfl <;> rfl
  rw [e2] at this;exact this⟩
 rw [this] at h;exact h
def FV (l:List ja):Prop:=l.length<=60∧∀ f∈l,BV f.xWhere
noncomputable instance (l:List ja):Decidable (FV l):=Classical.propDecidable _
theorem FV.fb {l:List ja} (h:FV l):Fb l:=⟨by have:=h.1;omega,fun f hf=>(h.2 f hf).bb⟩
theorem zbv {l:List ja} (hl:Fb l) {O:Bool->Prop} (h:O (decide (FV l))):Xy l O:=by
 unfold Xy;have h1:=hl.1;refine zi (fun e=>?_) (fun e=>?_)
 ·rw [decide_eq_false (fun q=>by have:=q.1;simp at e;omega)] at h;exact h
 have h60:l.length<=60:=by simp at e;omega
 refine zQ l.length (fun s=>s) (fun k s=>s=(k:Int)∧k<=l.length∧∀ f∈l.take k,BV f.xWhere) (fun k s h=>h.1) (fun k s h=>h.2.1) ?_ ⟨rfl,by omega,by simp⟩;rintro k _ next ⟨rfl,hk,hv⟩ hn;refine zi (fun hc=>?_) (fun hc=>?_)
 ·have hlt:k<l.length:=by simpa using hc
  refine zq k rfl hlt (zcB (hl.2 _ (List.getElem_mem hlt)) (zi (fun e=>?_) (fun e=>?_)))
  ·have:¬ BV (l[k].xWhere):=by simpa using e
   rw [decide_eq_false (fun q=>this (q.2 _ (List.getElem_mem hlt)))] at h;exact h
  have:BV (l[k].xWhere):=by simpa using e
  refine zy (by omega) (by omega) (hn hlt _ ⟨by simp,by omega,fun f hf=>?_⟩);rw [List.take_succ_eq_append_getElem hlt] at hf;rcases List.mem_append.1 hf with q | q
  ·exact hv f q
  simp only [List.mem_singleton] at q;rw [q];exact this
 have hge:l.length<=k:=by simpa using hc
 rw [List.take_of_length_le hge] at hv;rw [decide_eq_true (show FV l from ⟨h60,hv⟩)] at h;exact h
theorem Zu {l:List ja} (hl:Fb l) {O:Bool->Prop} (h:O (decide (FV l))):uT l O:=by
 unfold uT;have h1:=hl.1;refine zQ l.length (fun s=>s) (fun k s=>s=(k:Int)∧k<=l.length∧∀ f∈l.take k,BV f.xWhere) (fun k s h=>h.1) (fun k s h=>h.2.1) ?_ ⟨rfl,by omega,by simp⟩;rintro k _ next ⟨rfl,hk,hv⟩ hn;refine zi (fun hc=>?_) (fun hc=>?_)
 ·have hlt:k<l.length:=by simpa using hc
  refine zq k rfl hlt (ZF (hl.2 _ (List.getElem_mem hlt)) (zi (fun e=>?_) (fun e=>?_)))
  ·have:¬ BV (l[k].xWhere):=by simpa using e
   rw [decide_eq_false (fun q=>this (q.2 _ (List.getElem_mem hlt)))] at h;exact h
  have:BV (l[k].xWhere):=by simpa using e
  refine zy (by omega) (by omega) (hn hlt _ ⟨by simp,by omega,fun f hf=>?_⟩);rw [List.take_succ_eq_append_getElem hlt] at hf;rcases List.mem_append.1 hf with q | q
  ·exact hv f q
  simp only [List.mem_singleton] at q;rw [q];exact this
 have hge:l.length<=k:=by simpa using hc
 rw [List.take_of_length_le hge] at hv;rw [show decide (FV l)=decide ((l.length:Int)<=60) from decide_eq_decide.2 ⟨fun q=>by have:=q.1;omega,fun q=>⟨by omega,hv⟩⟩] at h;exact h
theorem zi3 {b:jy} (hb:b.xSides.length=4) {O:za->Prop} (h:O (sd b)):Ua b O:=by
 have e:=zqG hb;rw [e] at h ⊢;exact ⟨_,_,_,_,[],rfl,h⟩
def fl (f:ja):zr:=⟨sd f.xWhere,f.xAccept⟩
theorem Vd {V β:Type} (a:List V) (f:V->β) (hl:a.length<=4294967296) {O:List β->Prop} (T:V->(β->Prop)->Prop) (hT:∀ x ψ,x∈a->ψ (f x)->T x ψ) (hO:O (a.map f))
  (F:(List β×Int->Prop)->List β×Int->Prop)
  (hF:∀ nx xs t,(ifW (decide (t<(a.length:Int))) (zE a t (fun e=>T e (fun r=>jQ xs [r] (fun _=>je t 1 (fun u=>nx (xs++[r],u)))))) (O xs))->F nx (xs,t)):jg F ([],0):=by
 refine zQ a.length (fun s=>s.2) (fun k s=>s.2=(k:Int)∧k<=a.length∧s.1=(a.take k).map f) (fun k s h=>h.1) (fun k s h=>h.2.1) ?_ ⟨rfl,Nat.zero_le _,by simp⟩;rintro k ⟨ys,t⟩ next ⟨rfl,hk,hy⟩ hn;simp only at hy;subst hy;refine hF _ _ _ (zi (fun hc=>?_) (fun hc=>?_))
 ·have hlt:k<a.length:=by simpa using hc
  refine zq k rfl hlt (hT _ _ (List.getElem_mem hlt) (jk (by simp;omega) (zy (by omega) (by omega) (hn hlt _ ⟨by simp,by omega,?_⟩))));rw [List.take_succ_eq_append_getElem hlt,List.map_append];rfl
 have hge:a.length<=k:=by simpa using hc
 rw [List.take_of_length_le hge];exact hO
theorem znh {l:List ja} (hl:l.length<=4294967296) (h4:∀ f∈l,f.xWhere.xSides.length=4) {O:List zr->Prop} (h:O (l.map fl)):VN l O:=by
 unfold VN;refine VF 0 rfl (by omega) (by omega) ?_;exact Vd l fl hl (fun x ψ=>Ua x.xWhere (fun r=>ψ (zr.mk r x.xAccept))) (fun x ψ hx hψ=>zi3 (h4 x hx) hψ) h _ (fun nx xs t hh=>hh)
theorem zkK {l:List zr} (hl:l.length<=4294967296) {O:List za->Prop} (h:O (l.map (·.xWhere))):US l O:=by
 unfold US;refine VF 0 rfl (by omega) (by omega) ?_;exact Vd l (·.xWhere) hl (fun x ψ=>ψ x.xWhere) (fun x ψ hx hψ=>hψ) h _ (fun nx xs t hh=>hh)
theorem zqA {a:za} (hl:∀ x∈L4 a,x.length<=4294967296) {O:jy->Prop} (h:O (bx a)):Za a O:=by
 unfold Za;refine VF 4 rfl (by decide) (by decide) ?_;obtain ⟨x0,x1,x2,x3⟩:=a;have l0:=hl x0 (by simp [L4]);have l1:=hl x1 (by simp [L4]);have l2:=hl x2 (by simp [L4]);have l3:=hl x3 (by simp [L4]);refine ⟨5,?_⟩;refine jz (zq 0 rfl (by simp) (jk (by simpa using l0) (zq 0 rfl (by simp) (zy (by decide) (by decide) ?_))));refine jz (zq 1 rfl (by simp) (jk (by simpa using l1) (zq 1 rfl (by simp) (zy (by decide) (by decide) ?_))));refine jz (zq 2 rfl (by simp) (jk (by simpa using l2) (zq 2 rfl (by simp) (zy (by decide) (by decide) ?_))));refine jz (zq 3 rfl (by simp) (jk (by simpa using l3) (zq 3 rfl (by simp) (zy (by decide) (by decide) ?_))));exact jT h
theorem zm4 {l:List za} (hl:l.length<=4294967296) (h4:∀ a∈l,∀ x∈L4 a,x.length<=4294967296) {O:List jy->Prop} (h:O (l.map bx)):VR l O:=by
 unfold VR;refine VF 0 rfl (by omega) (by omega) ?_;exact Vd l bx hl (fun x ψ=>Za x ψ) (fun x ψ hx hψ=>zqA (h4 x hx) hψ) h _ (fun nx xs t hh=>hh)
theorem zqk {a:za} (h:F4 a):∀ x∈L4 a,x.length<=4294967296:=fun x hx=>by
 obtain ⟨f0,f1,f2,f3⟩:=h
 simp only [L4,List.mem_cons,List.not_mem_nil,or_false] at hx
 rcases hx with rfl | rfl | rfl | rfl <;> omega
theorem zfV {l:List ja} (hl:Fb l) {O:List jy->Prop} (h1:FV l->O (l.map (·.xWhere))) (h2:¬ FV l->O []):UB l O:=by
 unfold UB;refine zbv hl (zi (fun e=>h2 (by simpa using e)) (fun e=>?_));have hv:FV l:=by simpa using e
 have:=hl.1;refine znh hl.1 (fun f hf=>zg6 (hv.2 f hf)) (zkK (by simpa using hl.1) (zm4 (by simpa using hl.1) (fun a ha=>?_) ?_))
 ·simp only [List.map_map,List.mem_map,Function.comp] at ha;obtain ⟨f,hf,rfl⟩:=ha;exact zqk (hv.2 f hf).f4
 have e:((l.map fl).map (·.xWhere)).map bx=l.map (·.xWhere):=by
  simp only [List.map_map];refine List.map_congr_left (fun f hf=>?_);exact ((hv.2 f hf).eq).symm
 rw [e];exact h1 hv
theorem zeb {b:jy} (hb:Bb b) {O:jy->Prop} (h:O b):Yy b O:=ZH hb.1 hb.2 h
theorem zkj {f:ja} (hb:Bb f.xWhere) {O:ja->Prop} (h:O f):UA f O:=zeb hb h
theorem Xt {l:List ja} (hl:Fb l) {O:List ja->Prop} (h:O l):uh l O:=by
 unfold uh;exact Vd l id hl.1 (fun x ψ=>UA x ψ) (fun x ψ hx hψ=>zkj (hl.2 x hx) hψ) (by simpa using h) _ (fun nx xs t hh=>hh)
def hb4 (a:za) (p:zZ):Prop:=hv a.x0 p.xFrom∧hv a.x1 p.xTo∧hv a.x2 p.xPort∧hv a.x3 p.xProto
instance (a:za) (p:zZ):Decidable (hb4 a p):=by unfold hb4;infer_instance
theorem zdB (a:za) (p:zZ):hb4 a p↔∀ n:Nat,n<4->hv (xR a n) (XM p n):=by
 constructor
 ·rintro ⟨h0,h1,h2,h3⟩ n hn;rcases Ui hn with rfl | rfl | rfl | rfl
  ·exact h0
  ·exact h1
  ·exact h2
  exact h3
 intro h;exact ⟨h 0 (by decide),h 1 (by decide),h 2 (by decide),h 3 (by decide)⟩
end
section
open Go Go.Proofs
def zbH (l:List za):Prop:=∀ c∈l,F4 c
instance (l:List za):Decidable (zbH l):=by unfold zbH;infer_instance
def aB (l:List za):Prop:=∀ c∈l,B4 c
theorem zhk:zbH []:=fun c h=>by simp at h
theorem zjZ:aB []:=fun c h=>by simp at h
theorem ZO {l m:List za}:zbH (l++m)↔zbH l∧zbH m:=by
 unfold zbH;simp only [List.mem_append];exact ⟨fun h=>⟨fun c hc=>h c (.inl hc),fun c hc=>h c (.inr hc)⟩,fun h c hc=>hc.elim (h.1 c) (h.2 c)⟩
theorem Vg {l m:List za}:aB (l++m)↔aB l∧aB m:=by
 unfold aB;simp only [List.mem_append];exact ⟨fun h=>⟨fun c hc=>h c (.inl hc),fun c hc=>h c (.inr hc)⟩,fun h c hc=>hc.elim (h.1 c) (h.2 c)⟩
def ue (left:List za) (b:za):List za:=left.flatMap (fun c=>UD c b)
def okR (l:List za):Prop:=zbH l∧l.length<=400
instance (l:List za):Decidable (okR l):=by unfold okR;infer_instance
def lgo:List za->List za->Option (List za)
 | left,[]=>some left
 | left,b :: bs=>if okR (ue left b) then lgo (ue left b) bs else none
def zb9 (a:za) (bs:List za):Option (List za):=if em4 a then some [] else lgo [a] bs
def zrZ:Option (List za)->List za×Bool
 | some l=>(l,true)
 | none=>([],false)
theorem zjS:∀ (bs:List za),lgo [] bs=some []
 | []=>rfl
 | b :: bs=>by
  have e:ue [] b=[]:=rfl
  unfold lgo
  rw [e,if_pos ⟨zhk,by simp⟩]
  exact zjS bs
theorem YI (l m:List za) (b:za):ue (l++m) b=ue l b++ue m b:=by simp [ue]
theorem Vl (c b:za):ue [c] b=UD c b:=by simp [ue]
theorem zbw {left:List za} {b:za} (hl:aB left) (hb:B4 b):aB (ue left b):=fun c hc=>by
 obtain ⟨d,hd,hc⟩:=List.mem_flatMap.1 hc
 exact zpv (hl d hd) hb c hc
def hbs (l:List za) (p:zZ):Prop:=∃ c∈l,hb4 c p
instance (l:List za) (p:zZ):Decidable (hbs l p):=by unfold hbs;infer_instance
theorem zbE (p:zZ):¬ hbs [] p:=by simp [hbs]
theorem Ux (l m:List za) (p:zZ):hbs (l++m) p↔hbs l p∨hbs m p:=by
 unfold hbs;simp only [List.mem_append];constructor
 ·rintro ⟨c,h | h,k⟩
  ·exact .inl ⟨c,h,k⟩
  exact .inr ⟨c,h,k⟩
 rintro (⟨c,h,k⟩ | ⟨c,h,k⟩)
 ·exact ⟨c,.inl h,k⟩
 exact ⟨c,.inr h,k⟩
theorem zch (c:za) (p:zZ):hbs [c] p↔hb4 c p:=by simp [hbs]
theorem zbl {a b:List zk} {t x:Int} (ha:St a t) (hb:St b t):hv (x5 a b t) x↔hv a x∧¬ hv b x:=by
 unfold x5;rw [Uh,zfW hb];exact ⟨fun h=>⟨h.1,h.2.2.2⟩,fun h=>⟨h.1,(XX ha h.1).1,(XX ha h.1).2,h.2⟩⟩
theorem zeW (a b:za) (p:zZ):hb4 (ym a b) p↔hb4 a p∧hb4 b p:=by
 unfold hb4 ym;simp only [Uh];exact ⟨fun ⟨⟨a0,b0⟩,⟨a1,b1⟩,⟨a2,b2⟩,a3,b3⟩=>⟨⟨a0,a1,a2,a3⟩,b0,b1,b2,b3⟩,fun ⟨⟨a0,a1,a2,a3⟩,b0,b1,b2,b3⟩=>⟨⟨a0,b0⟩,⟨a1,b1⟩,⟨a2,b2⟩,a3,b3⟩⟩
theorem zjW {a:za} (h:em4 a=true) (p:zZ):¬ hb4 a p:=by
 rintro ⟨h0,h1,h2,h3⟩;simp only [em4,decide_eq_true_eq] at h;rcases h with e | e | e | e
 ·rw [e] at h0;exact yx _ h0
 ·rw [e] at h1;exact yx _ h1
 ·rw [e] at h2;exact yx _ h2
 rw [e] at h3;exact yx _ h3
theorem zj3 {r:List zk} {c:za} {p:zZ} (h:r=[]->¬ hb4 c p):hbs (pc r c) p↔hb4 c p:=by
 unfold pc;split
 ·rename_i e;exact ⟨fun q=>absurd q (zbE p),fun q=>absurd q (h e)⟩
 exact zch c p
theorem zjv {a b:za} (ha:B4 a) (hb:B4 b) (p:zZ):hbs (UD a b) p↔hb4 a p∧¬ hb4 b p:=by
 unfold UD;split
 ·rename_i e;have no:=zjW e p;rw [zeW] at no;split
  ·rename_i e2;exact ⟨fun q=>absurd q (zbE p),fun q=>absurd q.1 (zjW e2 p)⟩
  rw [zch];exact ⟨fun q=>⟨q,fun r=>no ⟨q,r⟩⟩,fun q=>q.1⟩
 obtain ⟨p0,p1,p2,p3⟩:=ha;obtain ⟨q0,q1,q2,q3⟩:=hb;rw [Ux,Ux,Ux];rw [zj3 (fun e q=>yx _ (e ▸ q.1)),zj3 (fun e q=>yx _ (e ▸ q.2.1)),zj3 (fun e q=>yx _ (e ▸ q.2.2.1)),zj3 (fun e q=>yx _ (e ▸ q.2.2.2))];simp only [hb4,Uh,zbl p0 q0,zbl p1 q1,zbl p2 q2,zbl p3 q3];by_cases c0:hv b.x0 p.xFrom <;> by_cases c1:hv b.x1 p.xTo <;> by_cases c2:hv b.x2 p.xPort <;> by_cases c3:hv b.x3 p.xProto <;> simp only [c0,c1,c2,c3,not_true,not_false_eq_true,and_true,and_false,true_and,false_and,or_false,false_or,iff_self,and_self,or_self]
theorem zk1 {left:List za} {b:za} (hl:aB left) (hb:B4 b) (p:zZ):hbs (ue left b) p↔hbs left p∧¬ hb4 b p:=by
 constructor
 ·rintro ⟨c,hc,k⟩;obtain ⟨d,hd,hc⟩:=List.mem_flatMap.1 hc;have:=(zjv (hl d hd) hb p).1 ⟨c,hc,k⟩;exact ⟨⟨d,hd,this.1⟩,this.2⟩
 rintro ⟨⟨d,hd,k⟩,hn⟩;obtain ⟨c,hc,k⟩:=(zjv (hl d hd) hb p).2 ⟨k,hn⟩;exact ⟨c,List.mem_flatMap.2 ⟨d,hd,hc⟩,k⟩
theorem znO:∀ {bs left r:List za},aB left->aB bs->lgo left bs=some r->∀ p,hbs r p↔hbs left p∧¬ hbs bs p
 | [],left,r,hl,hb,h,p=>by
  simp only [lgo,Option.some.injEq] at h;rw [← h]
  exact ⟨fun q=>⟨q,zbE p⟩,fun q=>q.1⟩
 | b :: bs,left,r,hl,hb,h,p=>by
  unfold lgo at h
  split at h
  ·have hb0:=hb b (by simp)
   rw [znO (zbw hl hb0) (fun c hc=>hb c (by simp [hc])) h p,zk1 hl hb0]
   have e:hbs (b :: bs) p↔hb4 b p∨hbs bs p:=by
    have:=Ux [b] bs p
    rw [zch] at this
    exact this
   rw [e]
   exact ⟨fun q=>⟨q.1.1,fun r=>r.elim q.1.2 q.2⟩,fun q=>⟨⟨q.1,fun r=>q.2 (.inl r)⟩,fun r=>q.2 (.inr r)⟩⟩
  ·cases h
theorem znY {a:za} {bs r:List za} (ha:B4 a) (hb:aB bs) (h:zb9 a bs=some r) (p:zZ):hbs r p↔hb4 a p∧¬ hbs bs p:=by
 unfold zb9 at h;split at h
 ·rename_i e;injection h with h;subst h;exact ⟨fun q=>absurd q (zbE p),fun q=>absurd q.1 (zjW e p)⟩
 rw [znO (fun c hc=>by simp only [List.mem_singleton] at hc;subst hc;exact ha) hb h p,zch]
theorem zks {a:za} {bs:List za} (ha:B4 a) (hf:F4 a) (hb:aB bs) (hl:bs.length<=4294967296) {O:List za×Bool->Prop} (h:O (zrZ (zb9 a bs))):Zx a bs O:=by
 unfold Zx;refine ze1 (zi (fun e=>?_) (fun e=>?_))
 ·unfold zb9 at h;rw [if_pos e] at h;exact h
 unfold zb9 at h;rw [if_neg (by simp [e])] at h;refine xp ?_;refine zQ bs.length (fun s=>s.2) (fun k (s:List za×Int)=>s.2=(k:Int)∧k<=bs.length∧aB s.1∧okR s.1∧lgo [a] bs=lgo s.1 (bs.drop k)) (fun k s h=>h.1) (fun k s h=>h.2.1) ?_ ⟨rfl,by omega,fun c hc=>by simp only [List.mem_singleton] at hc;subst hc;exact ha,⟨fun c hc=>by simp only [List.mem_singleton] at hc;subst hc;exact hf,by simp⟩,rfl⟩;rintro k ⟨left,_⟩ next ⟨rfl,hk,hB,hO,he⟩ hn;simp only at hB hO he;refine zi (fun hc=>?_) (fun hc=>?_);rotate_left
 ·have hge:bs.length<=k:=by simpa using hc
  rw [he,List.drop_of_length_le hge] at h;exact h
 have hlt:k<bs.length:=by simpa using hc
 rw [List.drop_eq_getElem_cons hlt] at he;have hbk:=hb _ (List.getElem_mem hlt);have no:¬ okR (ue left bs[k])->O ([],false):=fun q=>by
  rw [he] at h;unfold lgo at h;rw [if_neg q] at h;exact h
 refine zq k rfl hlt ?_;have hlen:=hO.2;refine zQ left.length (fun s=>s.2) (fun j (s:List za×Int)=>s.2=(j:Int)∧j<=left.length∧s.1=ue (left.take j) bs[k]∧okR (ue (left.take j) bs[k])) (fun k s h=>h.1) (fun k s h=>h.2.1) ?_ ⟨rfl,by omega,by simp [ue],by simp [ue,okR,zbH]⟩;rintro j ⟨_,_⟩ next2 ⟨rfl,hj,hx,hok⟩ hn2;simp only at hx;subst hx;refine zi (fun hc2=>?_) (fun hc2=>?_)
 ·have hjl:j<left.length:=by simpa using hc2
  have hcB:=hB _ (List.getElem_mem hjl);have hcF:=hO.1 _ (List.getElem_mem hjl);have hl4:=zcN left[j] bs[k];have hl2:=hok.2;have split3:ue left bs[k]=ue (left.take j) bs[k]++(UD left[j] bs[k]++ue (left.drop (j+1)) bs[k]):=by
   have:=List.take_append_drop j left;rw [List.drop_eq_getElem_cons hjl] at this;have e2:=congrArg (fun l=>ue l bs[k]) this;simp only [YI] at e2;rw [← e2];rw [show left[j] :: left.drop (j+1)=[left[j]]++left.drop (j+1) from rfl,YI,Vl]
  refine zq j rfl hjl (zhg hcB hbk hcF ?_);by_cases hFc:∀ c∈UD left[j] bs[k],F4 c
  ·rw [show zhc left[j] bs[k]=(UD left[j] bs[k],true) from if_pos hFc];refine xp (jT (zy (by omega) (by omega) (zi (fun e=>no (fun q=>?_)) (fun e=>?_))))
   ·have:=q.2;rw [split3] at this;simp only [List.length_append] at this;simp at e;omega
   have e':(ue (left.take j) bs[k]).length+(UD left[j] bs[k]).length<=400:=by simp at e;omega
   refine jk (by omega) (zy (by omega) (by omega) (hn2 hjl _ ⟨by simp,by omega,?_,?_⟩))
   ·rw [List.take_succ_eq_append_getElem hjl,YI,Vl]
   rw [List.take_succ_eq_append_getElem hjl,YI,Vl];exact ⟨ZO.2 ⟨hok.1,hFc⟩,by rw [List.length_append];exact e'⟩
  rw [show zhc left[j] bs[k]=([],false) from if_neg hFc];refine xp (jz (jz (no (fun q=>hFc ?_))));have:=q.1;rw [split3] at this;exact (ZO.1 (ZO.1 this).2).1
 have hjge:left.length<=j:=by simpa using hc2
 rw [List.take_of_length_le hjge] at hok ⊢;have he2:lgo [a] bs=lgo (ue left bs[k]) (bs.drop (k+1)):=by
  rw [he];conv=>lhs;unfold lgo
  rw [if_pos hok]
 refine zi (fun e=>?_) (fun e=>?_)
 ·have:ue left bs[k]=[]:=by
   have:(ue left bs[k]).length=0:=by
    have:((ue left bs[k]).length:Int)=0:=by simpa using e
    omega
   exact List.length_eq_zero_iff.1 this
  rw [this] at he2 ⊢;rw [he2,zjS] at h;exact h
 exact zy (by omega) (by omega) (hn hlt _ ⟨by simp,by omega,zbw hB hbk,hok,he2⟩)
def IV (l:List zr):Prop:=∀ f∈l,B4 f.xWhere∧F4 f.xWhere
def whs (l:List zr):List za:=l.map (·.xWhere)
theorem IV.aB {l:List zr} (h:IV l):aB (whs l):=fun c hc=>by
 obtain ⟨f,hf,rfl⟩:=List.mem_map.1 hc
 exact (h f hf).1
theorem IV.take {l:List zr} (h:IV l) (n:Nat):IV (l.take n):=fun f hf=>h f (List.mem_of_mem_take hf)
def zlG (l:List zr) (n:Nat) (h:n<l.length):Option (List za):=zb9 l[n].xWhere (whs (l.take n))
theorem znR {l:List zr} (hl:l.length<=100000) (hv:IV l) {n:Nat} (hn:n<l.length) {O:List za×Bool->Prop} (h:O (zrZ (zlG l n hn))):V9 l n O:=by
 unfold V9;refine zq n rfl hn ⟨by omega,by omega,by omega,?_⟩;have e:(l.take (n:Int).toNat).drop (0:Int).toNat=l.take n:=by simp
 rw [e];have hv2:=hv _ (List.getElem_mem hn);refine zkK (by simp;omega) (zks hv2.1 hv2.2 (hv.take n).aB (by unfold whs;rw [List.length_map,List.length_take];omega) ?_);exact h
def dd (l:List zr) (n:Nat):Bool:=match h:l[n]? with | some f=>decide (zb9 f.xWhere (whs (l.take n))=some []) | none=>false
theorem zoZ {l:List zr} {n:Nat} (hn:n<l.length):dd l n=decide (zlG l n hn=some []):=by
 unfold dd;split
 ·rename_i f hf;obtain ⟨_,e⟩:=List.getElem?_eq_some_iff.1 hf;unfold zlG;rw [e]
 rename_i hf;rw [List.getElem?_eq_none_iff] at hf;omega
def zqc (l:List zr):List Nat:=(List.range l.length).filter (dd l)
theorem zo3 {l:List zr} (hl:l.length<=100000) (hv:IV l) {O:List Int->Prop} (h:O ((zqc l).map Int.ofNat)):zad l O:=by
 unfold zad;refine zQ l.length (fun s=>s.2) (fun k (s:List Int×Int)=>s.2=(k:Int)∧k<=l.length∧s.1=((List.range k).filter (dd l)).map Int.ofNat) (fun k s h=>h.1) (fun k s h=>h.2.1) ?_ ⟨rfl,by omega,rfl⟩;rintro k ⟨_,_⟩ next ⟨rfl,hk,hx⟩ hn;simp only at hx;subst hx;refine zi (fun hc=>?_) (fun hc=>?_)
 ·have hlt:k<l.length:=by simpa using hc
  have hlen:(((List.range k).filter (dd l)).map Int.ofNat).length<=k:=by
   rw [List.length_map];exact Nat.le_trans (List.length_filter_le _ _) (by simp)
  refine xp (znR hl hv hlt ?_);have step:∀ ys:List Int,ys=((List.range (k+1)).filter (dd l)).map Int.ofNat->je (k:Int) 1 (fun t145=>next (ys,t145)):=fun ys hy =>
   zy (by omega) (by omega) (hn hlt _ ⟨by simp,by omega,hy⟩)
  have e1:dd l k=true->((List.range (k+1)).filter (dd l)).map Int.ofNat=((List.range k).filter (dd l)).map Int.ofNat++[(k:Int)]:=fun q=>by
   rw [List.range_succ,List.filter_append,List.map_append,List.filter_cons,q];rfl
  have e0:dd l k=false->((List.range (k+1)).filter (dd l)).map Int.ofNat=((List.range k).filter (dd l)).map Int.ofNat:=fun q=>by
   rw [List.range_succ,List.filter_append,List.map_append,List.filter_cons,q];simp
  have hd:=zoZ hlt;cases hlv:zlG l k hlt with
  | none =>
   rw [hlv] at hd;have hd':dd l k=false:=by rw [hd];simp
   exact xp (jT (jT (step _ (e0 hd').symm)))
  | some r =>
   rw [hlv] at hd;refine xp (jz (zi (fun e=>?_) (fun e=>?_)))
   ·have:r=[]:=by
     have:r.length=0:=by
      have:(r.length:Int)=0:=by simpa using e
      omega
     exact List.length_eq_zero_iff.1 this
    subst this;have hd':dd l k=true:=by rw [hd];simp
    exact jk (by simp only [List.length_singleton];omega) (step _ (e1 hd').symm)
   have:r≠[]:=fun q=>by rw [q] at e;simp at e
   have hd':dd l k=false:=by rw [hd];simpa using this
   exact step _ (e0 hd').symm
 have hge:l.length<=k:=by simpa using hc
 have:k=l.length:=by omega
 subst this;exact h
def fw (l:List zr) (p:zZ):Nat:=l.findIdx (fun f=>decide (hb4 f.xWhere p))
end
section
open Go.Lib (decDigits)
theorem zfB {xs:List ByteArray} {y:ByteArray} {O:List ByteArray->Prop} (h1:xs.length<=1000) (h:O (xs++[y])):jQ xs [y] O:=jk (by simp;omega) h
theorem zef {s:zB} {O:List ByteArray->Prop} (hb:Bd s) (h1:SV s->O (VT s)) (h2:¬ SV s->O []):Yj s O:=by
 unfold Yj;refine yR hb (fun b hbv=>zi (fun hc=>h2 (fun hh=>?_)) (fun hc=>?_))
 ·rw [hbv.2 hh] at hc;cases hc
 have hv:SV s:=hbv.1 (by simpa using hc);have hcl:=hv.1.1;have key:∀ d:List UInt8,d=dft s->jg (fun (nx80:((List ByteArray)×Int)->Prop) ((xs76,t79):((List ByteArray)×Int))=>ifW (decide (t79<(s.xChains.length:Int))) (zE s.xChains t79 (fun e81=>Z2 t79 (fun r87=>jQ xs76 ([r87]) (fun _=>jg (fun (nx97:((List ByteArray)×Int)->Prop) ((xs93,t96):((List ByteArray)×Int))=>ifW (decide (t96<(e81.length:Int))) (zE e81 t96 (fun e98=>Z0 e98 (fun r109=>jQ xs93 ([r109]) (fun _=>je t96 1 (fun t114=>nx97 ((xs93++([r109])),t114)))))) (je t79 1 (fun t115=>nx80 (xs93,t115)))) ((xs76++([r87])),0))))) (O xs76)) ([B d],0):=by
  rintro d rfl;refine zQ s.xChains.length (fun s=>s.2) (fun k t=>t=(B (dft s) :: lsF 0 (s.xChains.take k),(k:Int))∧k<=s.xChains.length) (fun k s h=>by rw [h.1]) (fun k s h=>h.2) ?_ ⟨by simp [lsF],Nat.zero_le _⟩;rintro k _ next ⟨rfl,hk⟩ hn;have hs:=zgE (s.xChains.take k) (fun c hc=>(hv.1.2 c (List.mem_of_mem_take hc)).1);have hll:=zgH 0 (s.xChains.take k);rw [List.length_take] at hs hll;refine zi (fun hc=>?_) (fun hc=>?_)
  ·have hlt:k<s.xChains.length:=by simpa using hc
   have hch:=hv.1.2 _ (List.getElem_mem hlt);have hd:=zaA (n:=k) (by omega);unfold Z2;refine zq k rfl hlt (zhG (by omega) (by omega) (yq (l:=[99,104,97,105,110,32]) (by simp;omega) (zfB (by simp;omega) ?_)));refine zQ s.xChains[k].length (fun s=>s.2) (fun j t=>t=((B (dft s) :: lsF 0 (s.xChains.take k))++(B (chl k) :: (s.xChains[k].take j).map (fun r=>B (Y9 r))),(j:Int))∧j<=s.xChains[k].length) (fun k s h=>by rw [h.1]) (fun k s h=>h.2) ?_ ⟨by simp [chl],Nat.zero_le _⟩;rintro j _ next2 ⟨rfl,hj⟩ hn2;refine zi (fun hc2=>?_) (fun hc2=>?_)
   ·have hltj:j<s.xChains[k].length:=by simpa using hc2
    refine zq j rfl hltj (V7 (hch.2 _ (List.getElem_mem hltj)).1 (zfB (by simp;omega) (zy (by omega) (by omega) (hn2 hltj _ ⟨?_,by omega⟩))));simp [-List.map_take];rw [List.take_succ_eq_append_getElem hltj,List.map_append];rfl
   have hge:s.xChains[k].length<=j:=by simpa using hc2
   rw [List.take_of_length_le hge];refine zy (by omega) (by omega) (hn hlt _ ⟨?_,by omega⟩);rw [List.take_succ_eq_append_getElem hlt,zh4,List.length_take,Nat.min_eq_left hk,Nat.zero_add];simp
  have hge:s.xChains.length<=k:=by simpa using hc
  rw [List.take_of_length_le hge];exact h1 hv
 unfold jnW;refine zi (fun ha=>key _ (by simp [dft,ha])) (fun ha=>key _ (by simp [dft,ha]))
theorem zaY {s:zB} {O:List ByteArray->Prop} (hb:Bd s) (h1:SV s->O (VT s)) (h2:¬ SV s->O []):Z5 s O:=by
 unfold Z5;refine UH hb (fun b hbv=>zi (fun hc=>h2 (fun hh=>?_)) (fun hc=>?_))
 ·rw [hbv.2 hh] at hc;cases hc
 have hv:SV s:=hbv.1 (by simpa using hc);have hcl:=hv.1.1;have key:∀ d:List UInt8,d=dft s->jg (fun (nx89:((List ByteArray)×Int)->Prop) ((xs85,t88):((List ByteArray)×Int))=>ifW (decide (t88<(s.xChains.length:Int))) (jS t88 (fun r90=>uY (ByteArray.mk #[99,104,97,105,110,32]) r90 (fun s91=>jQ xs85 ([s91]) (fun _=>jg (fun (nx101:((List ByteArray)×Int)->Prop) ((xs97,t100):((List ByteArray)×Int))=>zE s.xChains t88 (fun e102=>ifW (decide (t100<(e102.length:Int))) (zE s.xChains t88 (fun e108=>zE e108 t100 (fun e114=>uI e114 (fun r120=>jQ xs97 ([r120]) (fun _=>je t100 1 (fun t125=>nx101 ((xs97++([r120])),t125))))))) (je t88 1 (fun t126=>nx89 (xs97,t126))))) ((xs85++([s91])),0))))) (O xs85)) ([B d],0):=by
  rintro d rfl;refine zQ s.xChains.length (fun s=>s.2) (fun k t=>t=(B (dft s) :: lsF 0 (s.xChains.take k),(k:Int))∧k<=s.xChains.length) (fun k s h=>by rw [h.1]) (fun k s h=>h.2) ?_ ⟨by simp [lsF],Nat.zero_le _⟩;rintro k _ next ⟨rfl,hk⟩ hn;have hs:=zgE (s.xChains.take k) (fun c hc=>(hv.1.2 c (List.mem_of_mem_take hc)).1);have hll:=zgH 0 (s.xChains.take k);rw [List.length_take] at hs hll;refine zi (fun hc=>?_) (fun hc=>?_)
  ·have hlt:k<s.xChains.length:=by simpa using hc
   have hch:=hv.1.2 _ (List.getElem_mem hlt);have hd:=zaA (n:=k) (by omega);refine Yf (by omega) (by omega) (yq (l:=[99,104,97,105,110,32]) (by simp;omega) (zfB (by simp;omega) ?_));refine zQ s.xChains[k].length (fun s=>s.2) (fun j t=>t=((B (dft s) :: lsF 0 (s.xChains.take k))++(B (chl k) :: (s.xChains[k].take j).map (fun r=>B (Y9 r))),(j:Int))∧j<=s.xChains[k].length) (fun k s h=>by rw [h.1]) (fun k s h=>h.2) ?_ ⟨by simp [chl],Nat.zero_le _⟩;rintro j _ next2 ⟨rfl,hj⟩ hn2;refine zq k rfl hlt (zi (fun hc2=>?_) (fun hc2=>?_))
   ·have hltj:j<s.xChains[k].length:=by simpa using hc2
    have hrv:=(hch.2 _ (List.getElem_mem hltj)).1;have h6:=hrv.1.2;refine zq k rfl hlt (zq j rfl hltj (Yx (by omega) ?_));rw [zdQ,if_pos hrv];refine zfB (by simp;omega) (zy (by omega) (by omega) (hn2 hltj _ ⟨?_,by omega⟩));simp [-List.map_take];rw [List.take_succ_eq_append_getElem hltj,List.map_append];rfl
   have hge:s.xChains[k].length<=j:=by simpa using hc2
   rw [List.take_of_length_le hge];refine zy (by omega) (by omega) (hn hlt _ ⟨?_,by omega⟩);rw [List.take_succ_eq_append_getElem hlt,zh4,List.length_take,Nat.min_eq_left hk,Nat.zero_add];simp
  have hge:s.xChains.length<=k:=by simpa using hc
  rw [List.take_of_length_le hge];exact h1 hv
 unfold jnW;refine zi (fun ha=>zfB (by simp) ?_) (fun ha=>zfB (by simp) ?_)
 ·exact key _ (by simp [dft,ha])
 exact key _ (by simp [dft,ha])
theorem zcY {a:List ByteArray} {O:Bool->Prop} (hl:a.length<=4294967296) (h:O true):Uz a a O:=by
 unfold Uz;refine zi (fun hc=>by simp at hc) (fun _=>?_);refine zjh a a rfl hl (fun x y A=>ifW (!(decide (x=y))) (O false) A) (fun x y A h1 h2=>zi (fun hc=>h2 (by simpa using hc)) (fun hc=>h1 (by simpa using hc))) (by simpa using h) _ (fun nx t hh=>hh)
end
section
open Go.Lib (decDigits)
open Classical in
noncomputable def rdr (l:List UInt8):Option zo:=if h:∃ r,RV r∧Y9 r=l then some h.choose else none
theorem zcd {l:List UInt8} {r:zo} (h:rdr l=some r):RV r∧Y9 r=l:=by
 unfold rdr at h;split at h
 ·rename_i he;cases h;exact he.choose_spec
 cases h
theorem zjB {l:List UInt8} (h:rdr l=none):¬ ∃ r,RV r∧Y9 r=l:=by
 unfold rdr at h;split at h
 ·cases h
 assumption
theorem znd {l:List UInt8} {O:zo×Bool->Prop} (hl:l.length<=100000000000) (h1:∀ r,rdr l=some r->O (r,true)) (h2:rdr l=none->O (zo.mk [] 0 0,false)):ZD (B l) O:=by
 cases h:rdr l with
 | none=>exact zgx hl (h2 h) (fun r hr e=>absurd ⟨r,hr,e⟩ (zjB h))
 | some r =>
  obtain ⟨a,b⟩:=zcd h;have:=h1 r h;rw [← b];exact zgj a this
theorem zny {l:List UInt8} {O:zo×Bool->Prop} (hl:l.length<=10000000) (h1:∀ r,rdr l=some r->O (r,true)) (h2:rdr l=none->O (zo.mk [] 0 0,false)):yU (B l) O:=by
 cases h:rdr l with
 | none=>exact zgr hl (h2 h) (fun r hr e=>absurd ⟨r,hr,e⟩ (zjB h))
 | some r =>
  obtain ⟨a,b⟩:=zcd h;have:=h1 r h;rw [← b];exact zgp a this
def zei:List (List zo)->zo->List (List zo)
 | [],_=>[]
 | [c],r=>[c++[r]]
 | c :: d :: cs,r=>c :: zei (d :: cs) r
theorem zdk:∀ (cs:List (List zo)) (r:zo),(zei cs r).length=cs.length
 | [],_=>rfl
 | [c],_=>rfl
 | c :: d :: cs,r=>by simp only [zei,List.length_cons,zdk (d :: cs) r]
theorem zas:∀ (cs:List (List zo)) (r:zo) (n:Nat) (h:n+1=cs.length),zei cs r=cs.set n (cs[n]'(by omega)++[r])
 | [],_,n,h=>by simp at h
 | [c],r,n,h=>by
  have:n=0:=by simpa using h
  subst this;rfl
 | c :: d :: cs,r,0,h=>by simp at h
 | c :: d :: cs,r,n+1,h=>by
  simp only [zei,List.set_cons_succ,List.getElem_cons_succ]
  rw [zas (d :: cs) r n (by simpa using h)]
open Classical in
noncomputable def zn2 (cs:List (List zo)):Bool:=decide (∀ i,i<cs.length->Sf cs i)
noncomputable def VL (cs:List (List zo)) (l:List UInt8):Option (List (List zo)) :=
 if l=chl cs.length then some (cs++[[]]) else
 match rdr l with
 | none=>none
 | some r=>if cs=[] then none else some (zei cs r)
noncomputable def zaW (cs:List (List zo)) (l:List UInt8):Option (List (List zo)) :=
 if cs.length≠5∧l=chl cs.length then some (cs++[[]]) else
 match rdr l with
 | none=>none
 | some r=>if cs=[] then none else if (cs.getLast?.getD []).length=8 then none else if zn2 (zei cs r) then some (zei cs r) else none
noncomputable def Ug:List (List zo)->List (List UInt8)->Option (List (List zo))
 | cs,[]=>some cs
 | cs,l :: ls=>match VL cs l with
  | none=>none
  | some cs'=>Ug cs' ls
noncomputable def zal:List (List zo)->List (List UInt8)->Option (List (List zo))
 | cs,[]=>some cs
 | cs,l :: ls=>match zaW cs l with
  | none=>none
  | some cs'=>zal cs' ls
def Le (cs ds:List (List zo)):Prop:=cs.length<=ds.length∧∀ (i:Nat) (c:List zo),cs[i]?=some c->∃ e,ds[i]?=some (c++e)
theorem Le.refl (cs:List (List zo)):Le cs cs:=⟨Nat.le_refl _,fun i c h=>⟨[],by simpa using h⟩⟩
theorem Le.trans {a b c:List (List zo)} (h:Le a b) (h':Le b c):Le a c:=⟨Nat.le_trans h.1 h'.1,fun i x hx=>by
 obtain ⟨e,he⟩:=h.2 i x hx
 obtain ⟨e',he'⟩:=h'.2 i _ he
 exact ⟨e++e',by rw [he',List.append_assoc]⟩⟩
theorem zpK (cs:List (List zo)):Le cs (cs++[[]]):=⟨by simp,fun i c h=>⟨[],by
 rw [List.getElem?_append_left (List.getElem?_eq_some_iff.1 h).1];simpa using h⟩⟩
theorem zpQ (cs:List (List zo)) (r:zo):Le cs (zei cs r):=by
 refine ⟨by rw [zdk];exact Nat.le_refl _,fun i c h=>?_⟩;have hi:=(List.getElem?_eq_some_iff.1 h).1;rw [zas cs r (cs.length - 1) (by omega)];by_cases e:i=cs.length - 1
 ·subst e;rw [List.getElem?_set_self hi];have:cs[cs.length - 1]=c:=(List.getElem?_eq_some_iff.1 h).2;exact ⟨[r],by rw [this]⟩
 rw [List.getElem?_set_ne (by omega)];exact ⟨[],by simpa using h⟩
theorem zo0 {cs ds:List (List zo)} {l:List UInt8} (h:VL cs l=some ds):Le cs ds:=by
 unfold VL at h;split at h
 ·cases h;exact zpK cs
 split at h
 ·cases h
 split at h
 ·cases h
 cases h;exact zpQ _ _
theorem zkd:∀ {ls:List (List UInt8)} {cs ds:List (List zo)},Ug cs ls=some ds->Le cs ds
 | [],cs,ds,h=>by cases h;exact Le.refl _
 | l :: ls,cs,ds,h=>by
  simp only [Ug] at h
  split at h
  ·cases h
  ·rename_i cs' h1
   exact (zo0 h1).trans (zkd h)
theorem zrV {cs ds:List (List zo)} (h:Le cs ds) {i j:Nat} (hc:Ca cs i j):Ca ds i j:=by
 obtain ⟨c,h1,r,h2,h3⟩:=hc;obtain ⟨e,he⟩:=h.2 i c h1;exact ⟨_,he,r,List.mem_append.2 (.inl h2),h3⟩
theorem zrT {cs ds:List (List zo)} (h:Le cs ds) {i:Nat} (hs:Sf ds i):Sf cs i:=by
 induction hs with
 | intro x _ ih=>exact zgU (fun j hj=>ih j (zrV h hj))
open Classical in
theorem zpF {cs ds:List (List zo)} (h:Le cs ds) (hd:∀ i,i<ds.length->Sf ds i):zn2 cs=true:=by
 unfold zn2;exact decide_eq_true (fun i hi=>zrT h (hd i (Nat.lt_of_lt_of_le hi h.1)))
theorem zom (k:Nat):rdr (chl k)=none:=by
 cases h:rdr (chl k) with
 | none=>rfl
 | some r =>
  obtain ⟨h1,h2⟩:=zcd h;exfalso;simp only [Y9,hd,chl,List.append_assoc] at h2;rcases zlf h1.2.1 h1.2.2.1 with e | e | e | e | e <;> simp [aw,e] at h2
theorem zkv {cs ds:List (List zo)} {l:List UInt8} (h:zaW cs l=some ds):VL cs l=some ds:=by
 unfold zaW at h;unfold VL;split at h
 ·rename_i hc;rw [if_pos hc.2];exact h
 split at h
 ·cases h
 rename_i r hr;have hne:l≠chl cs.length:=fun e=>by rw [e,zom] at hr;cases hr
 rw [if_neg hne];split at h
 ·cases h
 split at h
 ·cases h
 split at h
 ·cases h;rename_i h0 _ _;rw [if_neg h0]
 cases h
theorem zki {cs ds es:List (List zo)} {l:List UInt8} (h:VL cs l=some ds) (hle:Le ds es) (ht:Tw es) (hs:∀ i,i<es.length->Sf es i):zaW cs l=some ds:=by
 unfold VL at h;unfold zaW;split at h
 ·rename_i hc;cases h;have h1:=hle.1;have h2:=ht.1;simp at h1;rw [if_pos ⟨by omega,hc⟩]
 rename_i hc;rw [if_neg (fun hh=>hc hh.2)];split at h
 ·cases h
 rename_i r hr;split at h
 ·cases h
 rename_i h0;cases h;rw [if_neg h0];have hpos:0<cs.length:=by cases cs with
  | nil=>exact absurd rfl h0
  | cons _ _=>simp
 have hlt:cs.length - 1<cs.length:=by omega
 have h8:(cs.getLast?.getD []).length≠8:=by
  intro e8;have hl:cs.getLast?.getD []=cs[cs.length - 1]:=by
   rw [List.getLast?_eq_getElem?,List.getElem?_eq_getElem hlt];rfl
  have hset:=zas cs r (cs.length - 1) (by omega);have hg:(zei cs r)[cs.length - 1]?=some (cs[cs.length - 1]++[r]):=by rw [hset,List.getElem?_set_self hlt]
  obtain ⟨e,he⟩:=hle.2 _ _ hg;have:=(ht.2 _ (List.mem_of_getElem? he)).1;rw [hl] at e8;simp at this;omega
 rw [if_neg h8,if_pos (zpF hle hs)]
theorem zf7:∀ {ls:List (List UInt8)} {cs ds:List (List zo)},zal cs ls=some ds->Ug cs ls=some ds
 | [],cs,ds,h=>h
 | l :: ls,cs,ds,h=>by
  simp only [zal] at h
  split at h
  ·cases h
  ·rename_i cs' h1
   simp only [Ug,zkv h1]
   exact zf7 h
theorem zf6:∀ {ls:List (List UInt8)} {cs ds:List (List zo)},Ug cs ls=some ds->Tw ds->(∀ i,i<ds.length->Sf ds i)->zal cs ls=some ds
 | [],cs,ds,h,_,_=>h
 | l :: ls,cs,ds,h,ht,hs=>by
  simp only [Ug] at h
  split at h
  ·cases h
  ·rename_i cs' h1
   simp only [zal,zki h1 (zkd h) ht hs]
   exact zf6 h ht hs
end
section
open Go.Lib (decDigits)
def Br (r:zo):Prop:=r.xTests.length<=1048576
def Bq (c:List zo):Prop:=c.length<=1048576∧∀ r,r∈c->Br r
def Bs (cs:List (List zo)):Prop:=cs.length<=1048576∧∀ c,c∈cs->Bq c
theorem Bs.bd {s:zB} (h:Bs s.xChains):Bd s:=⟨by have:=h.1;omega,fun c hc=>⟨by have:=(h.2 c hc).1;omega,fun r hr=>by have:r.xTests.length<=1048576:=(h.2 c hc).2 r hr;omega⟩⟩
theorem SV.bs {s:zB} (h:SV s):Bs s.xChains:=⟨by have:=h.1.1;omega,fun c hc=>⟨by have:=(h.1.2 c hc).1;omega,fun r hr=>by have:r.xTests.length<=6:=((h.1.2 c hc).2 r hr).1.1.2;unfold Br;omega⟩⟩
end
section
open Go.Lib (decDigits)
theorem zmq (t:zI):∀ c l,(if t.xHi=t.xLo then ([]:List UInt8) else 45 :: decDigits t.xHi.toNat)=c :: l->dg c=false:=by
 intro c l h;split at h
 ·cases h
 cases h;decide
theorem zpt {t u:zI} (ht:TV t) (hu:TV u) (h:rtx t=rtx u):t.xLo=u.xLo∧t.xHi=u.xHi:=by
 obtain ⟨t1,t2,t3,t4,t5⟩:=ht;obtain ⟨u1,u2,u3,u4,u5⟩:=hu;unfold rtx at h;obtain ⟨e1,e2⟩:=ziG (zhB _) (zhB _) (zmq t) (zmq u) h;have e3:=zjm e1;have e4:t.xLo=u.xLo:=by omega
 refine ⟨e4,?_⟩;split at e2
 ·split at e2
  ·omega
  cases e2
 split at e2
 ·cases e2
 have:=zjm (List.cons.inj e2).2;omega
theorem zpy {t u:zI} (ht:TV t) (hu:TV u) (h:ttx t=ttx u):t=u:=by
 have key:∀ a b,nm t.xField++32 :: a=nm u.xField++32 :: b->t.xField=u.xField∧a=b:=by
  intro a b e;have hf:=zqy ⟨ht.1,ht.2.1⟩ ⟨hu.1,hu.2.1⟩ (s:=b) (r:=a) (by rw [e];simp);refine ⟨hf,?_⟩;rw [hf] at e;exact (List.cons.inj (List.append_cancel_left e)).2
 have first:∀ (v:zI) (r:List UInt8),TV v->btx v≠110 :: r:=by
  intro v r hv e;unfold btx nm at e
  repeat' split at e
  all_goals simp at e
 have hn:t.xNot=u.xNot:=by
  unfold ttx at h;cases h1:t.xNot <;> cases h2:u.xNot
  ·rfl
  ·rw [h1,h2] at h;simp at h;exact absurd h (first _ _ ht)
  ·rw [h1,h2] at h;simp at h;exact absurd h.symm (first _ _ hu)
  rfl
 have hb:btx t=btx u:=by
  unfold ttx at h;rw [hn] at h;cases h2:u.xNot
  ·rw [h2] at h;simpa using h
  rw [h2] at h;simpa using h
 unfold btx at hb;obtain ⟨a,b⟩:=key _ _ hb;obtain ⟨c,d⟩:=zpt ht hu b;cases t;cases u;simp_all
theorem znV:∀ {a b:List zI},(∀ t,t∈a->TV t)->(∀ t,t∈b->TV t)->kl a=kl b->a=b
 | [],[],_,_,_=>rfl
 | [],u :: b,_,_,h=>by rw [zdl] at h;simp [kl,tl] at h
 | t :: a,[],_,_,h=>by rw [zdl] at h;simp [kl,tl] at h
 | t :: a,u :: b,ha,hb,h=>by
  rw [zdl,zdl] at h
  have h':=(List.cons.inj h).2
  have c1:=zfJ (zhJ (ha t (by simp))) a
  have c2:=zfJ (zhJ (hb u (by simp))) b
  rw [h',c2] at c1
  obtain ⟨e1,e2⟩:=Prod.mk.inj c1
  rw [zpy (hb u (by simp)) (ha t (by simp)) e1,znV (fun t ht=>ha t (by simp [ht])) (fun t ht=>hb t (by simp [ht])) e2.symm]
theorem zo4 {r s:zo} (hr:RV r) (hs:RV s) (h:Y9 r=Y9 s):r=s:=by
 unfold Y9 at h;have c1:=zfJ (zj1 hr.2) r.xTests;have c2:=zfJ (zj1 hs.2) s.xTests;rw [h,c2] at c1;obtain ⟨e1,e2⟩:=Prod.mk.inj c1;obtain ⟨a,b⟩:=zoQ hs.2 hr.2 e1;have c:=znV hs.1.1 hr.1.1 e2;cases r;cases s;simp_all
theorem zoH {r:zo} (h:RV r):rdr (Y9 r)=some r:=by
 cases e:rdr (Y9 r) with
 | none=>exact absurd ⟨r,h,rfl⟩ (zjB e)
 | some s =>
  obtain ⟨a,b⟩:=zcd e;rw [zo4 a h b]
def zjV:List UInt8:=[100,101,102,97,117,108,116,32,97,99,99,101,112,116]
def zgR:List UInt8:=[100,101,102,97,117,108,116,32,100,114,111,112]
def dfl (l:List UInt8):Option Bool:=if l=zjV then some true else if l=zgR then some false else none
noncomputable def ZR:List (List UInt8)->Option (Int×List (List zo)×Bool)
 | []=>some (0,[],false)
 | l :: ls=>match dfl l with
  | none=>none
  | some a=>match zal [] ls with
   | none=>none
   | some cs=>some (if ls=[] then 1 else 2,cs,a)
noncomputable def XL:List (List UInt8)->Option (List (List zo)×Bool)
 | []=>none
 | l :: ls=>match dfl l with
  | none=>none
  | some a=>match Ug [] ls with
   | none=>none
   | some cs=>some (cs,a)
theorem zfX:∀ (cs:List (List zo)) (a b:List (List UInt8)),zal cs (a++b)=match zal cs a with
  | none=>none
  | some ds=>zal ds b
 | cs,[],b=>rfl
 | cs,l :: a,b=>by
  simp only [List.cons_append,zal]
  cases zaW cs l with
  | none=>rfl
  | some ds=>exact zfX ds a b
theorem zdE:∀ (cs:List (List zo)) (a b:List (List UInt8)),Ug cs (a++b)=match Ug cs a with
  | none=>none
  | some ds=>Ug ds b
 | cs,[],b=>rfl
 | cs,l :: a,b=>by
  simp only [List.cons_append,Ug]
  cases VL cs l with
  | none=>rfl
  | some ds=>exact zdE ds a b
theorem zlL {p q:List (List UInt8)} (h:ZR (p++q)≠none):ZR p≠none:=by
 cases p with
 | nil=>simp [ZR]
 | cons l p =>
  simp only [List.cons_append,ZR] at h ⊢;cases hd:dfl l with
  | none=>rw [hd] at h;simp at h
  | some a =>
   rw [hd,zfX] at h;cases hf:zal [] p with
   | none=>rw [hf] at h;simp at h
   | some cs=>simp
theorem zkT {ls:List (List UInt8)} {k n:Nat} (h:ZR (ls.take n)≠none) (hk:k<=n):ZR (ls.take k)≠none:=by
 have e:ls.take n=ls.take k++(ls.take n).drop k:=by
  have:=List.take_append_drop k (ls.take n);rw [List.take_take,Nat.min_eq_left hk] at this;exact this.symm
 rw [e] at h;exact zlL h
theorem zl4 {cs:List (List zo)} {r:zo} (h:Tw cs) (h0:cs≠[]) (h8:(cs.getLast?.getD []).length≠8) (hr:RV r):Tw (zei cs r):=by
 have hpos:0<cs.length:=by cases cs with
  | nil=>exact absurd rfl h0
  | cons _ _=>simp
 have hlt:cs.length - 1<cs.length:=by omega
 refine ⟨by rw [zdk];exact h.1,fun c hc=>?_⟩;rw [zas cs r (cs.length - 1) (by omega)] at hc;rcases List.mem_or_eq_of_mem_set hc with hc | rfl
 ·exact h.2 c hc
 have hl:cs.getLast?.getD []=cs[cs.length - 1]:=by
  rw [List.getLast?_eq_getElem?,List.getElem?_eq_getElem hlt];rfl
 rw [hl] at h8;obtain ⟨a,b⟩:=h.2 _ (List.getElem_mem hlt);refine ⟨by simp;omega,fun x hx=>?_⟩;rcases List.mem_append.1 hx with hx | hx
 ·exact b x hx
 rw [List.mem_singleton] at hx;subst hx;exact hr
theorem zl2 {cs:List (List zo)} (e:List (List zo)) (he:∀ c,c∈e->c=[]) {i:Nat} (hs:Sf cs i):Sf (cs++e) i:=by
 induction hs with
 | intro x _ ih =>
  refine zgU (fun j hj=>ih j ?_);obtain ⟨c,h1,r,h2,h3⟩:=hj;by_cases hx:x<cs.length
  ·rw [List.getElem?_append_left hx] at h1;exact ⟨c,h1,r,h2,h3⟩
  rw [List.getElem?_append_right (by omega)] at h1;have:=he c (List.mem_of_getElem? h1);subst this;simp at h2
theorem znM {cs:List (List zo)} (hs:∀ i,i<cs.length->Sf cs i) (e:List (List zo)) (he:∀ c,c∈e->c=[]):∀ i,i<(cs++e).length->Sf (cs++e) i:=by
 intro i _;by_cases hi:i<cs.length
 ·exact zl2 e he (hs i hi)
 exact zl2 e he (zlP (by omega))
open Classical in
theorem zop {cs ds:List (List zo)} {l:List UInt8} (h:zaW cs l=some ds) (ht:Tw cs) (hs:∀ i,i<cs.length->Sf cs i):Tw ds∧(∀ i,i<ds.length->Sf ds i)∧ds≠[]:=by
 unfold zaW at h;split at h
 ·rename_i hc;cases h;refine ⟨⟨by have:=ht.1;simp;omega,fun c hc'=>?_⟩,znM hs [[]] (by simp),by simp⟩;rcases List.mem_append.1 hc' with hc' | hc'
  ·exact ht.2 c hc'
  simp at hc';subst hc';simp
 split at h
 ·cases h
 rename_i r hr;split at h
 ·cases h
 split at h
 ·cases h
 split at h
 ·cases h;rename_i h0 h8 ha;refine ⟨zl4 ht h0 h8 (zcd hr).1,of_decide_eq_true ha,fun e=>h0 ?_⟩;have:=congrArg List.length e;rw [zdk] at this;exact List.eq_nil_of_length_eq_zero (by simpa using this)
 cases h
theorem zkV:∀ {ls:List (List UInt8)} {cs ds:List (List zo)},zal cs ls=some ds->Tw cs->(∀ i,i<cs.length->Sf cs i)->Tw ds∧(∀ i,i<ds.length->Sf ds i)∧(ls≠[]->ds≠[])
 | [],cs,ds,h,ht,hs=>by cases h;exact ⟨ht,hs,fun h=>absurd rfl h⟩
 | l :: ls,cs,ds,h,ht,hs=>by
  simp only [zal] at h
  split at h
  ·cases h
  ·rename_i cs' h1
   obtain ⟨a,b,c⟩:=zop h1 ht hs
   obtain ⟨x,y,z⟩:=zkV h a b
   refine ⟨x,y,fun _=>?_⟩
   cases ls with
   | nil=>cases h;exact c
   | cons _ _=>exact z (by simp)
theorem zoF:Tw []:=⟨by simp,fun c hc=>by simp at hc⟩
theorem zk8 (p:List (List UInt8)) (l:List UInt8):ZR (p++[l])=match ZR p with
  | none=>none
  | some (st,cs,a)=>if st=0 then (dfl l).map (fun a=>(1,[],a)) else (zaW cs l).map (fun ds=>(2,ds,a)):=by
 cases p with
 | nil =>
  simp only [List.nil_append,ZR,zal,if_true];cases dfl l <;> rfl
 | cons x p =>
  simp only [List.cons_append,ZR];cases dfl x with
  | none=>rfl
  | some a =>
   simp only [zfX];cases zal [] p with
   | none=>rfl
   | some cs =>
    simp only [zal];have hne:p++[l]≠[]:=by simp
    rw [if_neg hne];have h0:(if p=[] then (1:Int) else 2)≠0:=by split <;> decide
    rw [if_neg h0];cases zaW cs l <;> rfl
theorem zhW {p:List (List UInt8)} {st:Int} {cs:List (List zo)} {a:Bool} (h:ZR p=some (st,cs,a)):Tw cs∧(∀ i,i<cs.length->Sf cs i)∧(st=0∧cs=[]∧a=false∧p=[]∨st=1∧cs=[]∨st=2∧cs≠[]):=by
 cases p with
 | nil=>simp only [ZR,Option.some.injEq,Prod.mk.injEq] at h;obtain ⟨rfl,rfl,rfl⟩:=h;exact ⟨zoF,fun i hi=>by simp at hi,.inl ⟨rfl,rfl,rfl,rfl⟩⟩
 | cons l p =>
  simp only [ZR] at h;split at h
  ·cases h
  split at h
  ·cases h
  rename_i ds hf;simp only [Option.some.injEq,Prod.mk.injEq] at h;obtain ⟨rfl,rfl,rfl⟩:=h;obtain ⟨x,y,z⟩:=zkV hf zoF (fun i hi=>by simp at hi);refine ⟨x,y,?_⟩;by_cases hp:p=[]
  ·subst hp;cases hf;right;left;simp
  right;right;rw [if_neg hp];exact ⟨rfl,z hp⟩
theorem zlB (l:List UInt8):decide (B l=ByteArray.mk #[100,101,102,97,117,108,116,32,97,99,99,101,112,116])=decide (l=zjV):=zbs l zjV
theorem zlX (l:List UInt8):decide (B l=ByteArray.mk #[100,101,102,97,117,108,116,32,100,114,111,112])=decide (l=zgR):=zbs l zgR
theorem zga {st:Int} {cs:List (List zo)} {acc:Bool} {l:List UInt8} {O:Bool×List (List zo)->Prop} (hl:cs.length<=1000000) (h1:cs.length≠5∧l=chl cs.length->O (true,cs++[[]])) (h2:¬ (cs.length≠5∧l=chl cs.length)->O (false,cs)):yB st cs acc (B l) O:=by
 unfold yB jnW Z2;have hd:=zby 6 cs.length (by omega);refine zi (fun hc=>zi (fun _=>h2 (fun hh=>hh.1 (by simp at hc;omega))) (fun hx=>by simp at hx)) (fun hc=>?_);simp at hc;refine zhG (by omega) (by omega) (yq (l:=[99,104,97,105,110,32]) (by simp;omega) ?_);rw [Int.toNat_natCast];show ifW (!decide (B l=B (chl cs.length))) _ _;rw [zbs];refine zi (fun hx=>h2 (fun hh=>?_)) (fun hx=>jk (by simp;omega) (h1 ⟨by omega,?_⟩))
 ·rw [hh.2] at hx;simp at hx
 simpa using hx
open Classical in
theorem zlo {st:Int} {cs:List (List zo)} {acc:Bool} {l:List UInt8} {O:Bool×List (List zo)->Prop} (hl:l.length<=100000000) (ht:Tw cs) (h0:cs≠[]) (hne:¬ (cs.length≠5∧l=chl cs.length)) (h1:∀ ds,zaW cs l=some ds->O (true,ds)) (h2:zaW cs l=none->∀ ds,O (false,ds)):ZP st cs acc (B l) O:=by
 have hpos:0<cs.length:=by cases cs with
  | nil=>exact absurd rfl h0
  | cons _ _=>simp
 have hlt:cs.length - 1<cs.length:=by omega
 have h5:=ht.1;have hgl:cs.getLast?.getD []=cs[cs.length - 1]:=by
  rw [List.getLast?_eq_getElem?,List.getElem?_eq_getElem hlt];rfl
 have hc8:=(ht.2 _ (List.getElem_mem hlt)).1;have hi:((cs.length:Int) - 1).toNat=cs.length - 1:=by omega
 unfold ZP;unfold zaW at h1 h2;rw [if_neg hne] at h1 h2;refine znd (by omega) (fun r hr=>?_) (fun hr=>?_)
 ·rw [hr] at h1 h2;simp only [if_neg h0] at h1 h2;refine yK (by omega) (by omega) (zq (cs.length - 1) (by omega) hlt (zi (fun hx=>by simp at hx) (fun _=>?_)));refine zi (fun hx=>?_) (fun hx=>?_)
  ·have e8:(cs.getLast?.getD []).length=8:=by rw [hgl];simp at hx;omega
   rw [if_pos e8] at h2;exact h2 rfl _
  have e8:(cs.getLast?.getD []).length≠8:=by rw [hgl];simp at hx;omega
  rw [if_neg e8] at h1 h2;have hset:=zas cs r (cs.length - 1) (by omega);unfold jnW;rw [hi,← hset];refine jk (by simp;omega) (ziT (zl4 ht h0 e8 (zcd hr).1) (fun ha=>?_) (fun ha=>?_))
  ·have:zn2 (zei cs r)=true:=decide_eq_true ha;rw [if_pos this] at h1;exact h1 _ rfl
  have:¬ zn2 (zei cs r)=true:=fun hh=>ha (of_decide_eq_true hh)
  rw [if_neg this] at h2;exact h2 rfl _
 rw [hr] at h2;refine yK (by omega) (by omega) (zq (cs.length - 1) (by omega) hlt (zi (fun _=>h2 rfl _) (fun hx=>by simp at hx)))
theorem zq2 {p:List (List UInt8)} {l:List UInt8} {st:Int} {cs:List (List zo)} {a:Bool} {O:Bool×Int×List (List zo)×Bool->Prop} (hl:l.length<=100000000) (hp:ZR p=some (st,cs,a))
  (h1:∀ s,ZR (p++[l])=some s->O (true,s)) (h2:ZR (p++[l])=none->∀ s,O (false,s)):Yt st cs a (B l) O:=by
 obtain ⟨ht,hs,hst⟩:=zhW hp;rw [zk8,hp] at h1 h2;simp only at h1 h2;unfold Yt;rcases hst with ⟨rfl,rfl,rfl,rfl⟩ | ⟨rfl,rfl⟩ | ⟨rfl,hne⟩
 ·simp only [if_true] at h1 h2;refine zi (fun _=>?_) (fun hx=>by simp at hx);unfold jnW;rw [zlB,zlX];unfold dfl at h1 h2;refine zi (fun hc=>?_) (fun hc=>?_)
  ·have e:l=zjV:=by simpa using hc
   rw [hc];rw [if_pos e] at h1;exact h1 _ rfl
  have e:l≠zjV:=by simpa using hc
  rw [hc];rw [if_neg e] at h1 h2;by_cases e2:l=zgR
  ·rw [if_pos e2] at h1;rw [decide_eq_true e2];exact h1 _ rfl
  rw [if_neg e2] at h2;rw [decide_eq_false e2];exact h2 rfl _
 ·have n1:¬ (1:Int)=0:=by decide
  rw [if_neg n1] at h1 h2;refine zi (fun hx=>by simp at hx) (fun _=>zi (fun _=>?_) (fun hx=>by simp at hx));unfold zaW at h1 h2;refine zga (by simp) (fun hh=>?_) (fun hh=>?_)
  ·rw [if_pos hh] at h1;exact h1 _ rfl
  rw [if_neg hh] at h2;refine h2 ?_ _;cases rdr l <;> simp
 have n1:¬ (2:Int)=0:=by decide
 rw [if_neg n1] at h1 h2;refine zi (fun hx=>by simp at hx) (fun _=>zi (fun hx=>by simp at hx) (fun _=>?_));unfold jnW;refine zga (by have:=ht.1;omega) (fun hh=>zi (fun _=>?_) (fun hx=>by simp at hx)) (fun hh=>zi (fun hx=>by simp at hx) (fun _=>?_))
 ·unfold zaW at h1;rw [if_pos hh] at h1;exact h1 _ rfl
 refine zlo hl ht hne hh (fun ds hds=>?_) (fun hn ds=>?_)
 ·rw [hds] at h1;exact h1 _ rfl
 rw [hn] at h2;exact h2 rfl _
end
section
open Go.Lib (decDigits)
theorem zfZ {x:Int} (h1:-9223372036854775808<=x) (h2:x<=9223372036854775807):w64 x=x:=by
 simp [w64,IntKind.wrap,IntKind.signed,IntKind.bits];omega
def Bl (ls:List (List UInt8)):Prop:=ls.length<=3000000∧∀ l,l∈ls->l.length<=10000000
theorem Bl.take {ls:List (List UInt8)} (h:Bl ls) (n:Nat):Bl (ls.take n):=⟨by have:=h.1;simp;omega,fun l hl=>h.2 l (List.mem_of_mem_take hl)⟩
theorem zrJ {cs:List (List zo)} {a:Bool} (h:Tw cs):Bd ⟨cs,a⟩:=⟨by have:=h.1;simp only;omega,fun c hc=>⟨by have:=(h.2 c hc).1;omega,fun r hr=>by have:r.xTests.length<=6:=((h.2 c hc).2 r hr).1.2;omega⟩⟩
theorem zbV {ls:List (List UInt8)} {k:Nat} (h:k<(ls.map B).length):(ls.map B)[k]=B (ls[k]'(by simpa using h)):=by simp
theorem zdo {V:Type} {ls:List V} {k:Nat} (h:k<ls.length):ls.take (k+1)=ls.take k++[ls[k]]:=List.take_succ_eq_append_getElem h
theorem zd8 {ls:List (List UInt8)} {O:zB×Bool->Prop} (hb:Bl ls) (h1:∀ st cs a,ZR ls=some (st,cs,a)->SV ⟨cs,a⟩->O (⟨cs,a⟩,true)) (h2:(∀ st cs a,ZR ls=some (st,cs,a)->¬ SV ⟨cs,a⟩)->O (⟨[],false⟩,false)):yy (ls.map B) O:=by
 unfold yy;have hl:=hb.1;refine zQ ls.length (fun s=>s.2.2.2) (fun k s=>(∃ st cs a,ZR (ls.take k)=some (st,cs,a)∧s=(st,cs,a,(k:Int)))∧k<=ls.length) (fun k s ⟨⟨st,cs,a,_,e⟩,_⟩=>by rw [e]) (fun k s h=>h.2) ?_ ⟨⟨0,[],false,rfl,rfl⟩,Nat.zero_le _⟩;rintro k _ next ⟨⟨st,cs,a,hs,rfl⟩,hk⟩ hn;obtain ⟨ht,_,_⟩:=zhW hs;refine zi (fun hc=>?_) (fun hc=>?_)
 ·have hlt:k<ls.length:=by simpa using hc
  have hlt':k<(ls.map B).length:=by simpa using hlt
  refine zq k rfl hlt' ?_;rw [zbV hlt'];refine zq2 (by have:=hb.2 _ (List.getElem_mem hlt);omega) hs (fun s hs'=>?_) (fun hs' s=>?_)
  ·obtain ⟨st',cs',a'⟩:=s;rw [← zdo hlt] at hs';exact zi (fun hx=>by simp at hx) (fun _=>zy (by omega) (by omega) (hn hlt _ ⟨⟨st',cs',a',hs',rfl⟩,by omega⟩))
  rw [← zdo hlt] at hs';refine zi (fun _=>h2 (fun st cs a he=>?_)) (fun hx=>by simp at hx);exact absurd hs' (zkT (n:=ls.length) (by rw [List.take_length,he];simp) (by omega))
 have hge:ls.length<=k:=by simpa using hc
 rw [List.take_of_length_le hge] at hs;refine yR (zrJ ht) (fun b hbv=>zi (fun hx=>h2 (fun st' cs' a' he hv=>?_)) (fun hx=>h1 _ _ _ hs (hbv.1 (by simpa using hx))));rw [hs] at he;cases he;rw [hbv.2 hv] at hx;cases hx
theorem zgc {p:List (List UInt8)} (hp:p≠[]) (l:List UInt8):XL (p++[l])=match XL p with
  | none=>none
  | some (cs,a)=>(VL cs l).map (fun ds=>(ds,a)):=by
 cases p with
 | nil=>exact absurd rfl hp
 | cons x p =>
  simp only [List.cons_append,XL];cases dfl x with
  | none=>rfl
  | some a =>
   simp only [zdE];cases Ug [] p with
   | none=>rfl
   | some cs=>simp only [Ug];cases VL cs l <;> rfl
def Zs (k:Nat) (cs:List (List zo)):Prop:=cs.length<=k∧∀ c,c∈cs->c.length<=k∧∀ r,r∈c->RV r
theorem Zs.bd {k:Nat} {cs:List (List zo)} {a:Bool} (h:Zs k cs) (hk:k<=4000000):Bd ⟨cs,a⟩:=⟨by have:=h.1;simp only;omega,fun c hc=>⟨by have:=(h.2 c hc).1;omega,fun r hr=>by have:r.xTests.length<=6:=((h.2 c hc).2 r hr).1.2;omega⟩⟩
theorem zph {k:Nat} {cs ds:List (List zo)} {l:List UInt8} (hz:Zs k cs) (h:VL cs l=some ds):Zs (k+1) ds:=by
 have mono:∀ c,c∈cs->c.length<=k+1∧∀ r,r∈c->RV r:=fun c hc=>⟨by have:=(hz.2 c hc).1;omega,(hz.2 c hc).2⟩
 unfold VL at h;split at h
 ·cases h;refine ⟨by have:=hz.1;simp;omega,fun c hc=>?_⟩;rcases List.mem_append.1 hc with hc | hc
  ·exact mono c hc
  simp at hc;subst hc;simp
 split at h
 ·cases h
 rename_i r hr;split at h
 ·cases h
 rename_i h0;cases h;have hpos:0<cs.length:=by cases cs with
  | nil=>exact absurd rfl h0
  | cons _ _=>simp
 have hlt:cs.length - 1<cs.length:=by omega
 refine ⟨by rw [zdk];have:=hz.1;omega,fun c hc=>?_⟩;rw [zas cs r (cs.length - 1) (by omega)] at hc;rcases List.mem_or_eq_of_mem_set hc with hc | rfl
 ·exact mono c hc
 obtain ⟨a,b⟩:=hz.2 _ (List.getElem_mem hlt);refine ⟨by simp;omega,fun x hx=>?_⟩;rcases List.mem_append.1 hx with hx | hx
 ·exact b x hx
 rw [List.mem_singleton] at hx;subst hx;exact (zcd hr).1
theorem zd5 {ls:List (List UInt8)} {O:zB×Bool->Prop} (hb:Bl ls) (h1:∀ cs a,XL ls=some (cs,a)->SV ⟨cs,a⟩->O (⟨cs,a⟩,true)) (h2:(∀ cs a,XL ls=some (cs,a)->¬ SV ⟨cs,a⟩)->O (⟨[],false⟩,false)):Xa (ls.map B) O:=by
 have hl:=hb.1;unfold Xa;cases ls with
 | nil =>
  unfold jnW;refine zi (fun _=>zi (fun _=>h2 (fun cs a h=>by simp [XL] at h)) (fun hx=>by simp at hx)) (fun hx=>by simp at hx)
 | cons l ls =>
  have h0:0<((l :: ls).map B).length:=by simp
  have bad:dfl l=none->O (⟨[],false⟩,false):=fun hd=>h2 (fun cs a h=>by simp [XL,hd] at h)
  have main:∀ a,dfl l=some a->a=decide (l=zjV)->zE ((l :: ls).map B) 0 (fun e74=>jg (fun (nx87:((List (List zo))×(List (List zo))×Int)->Prop) ((xs77,xs82,t86):((List (List zo))×(List (List zo))×Int))=>ifW (decide (t86<(((l :: ls).map B).length:Int))) (jnW (fun (xs389:(List (List zo)))=>je t86 1 (fun t394=>nx87 (xs389,xs82,t394))) (fun k393=>jnW (fun (xs170:(List (List zo)))=>zE ((l :: ls).map B) t86 (fun e175=>yU e175 (fun (r177,r180)=>jnW (fun (t246:Bool)=>ifW t246 (O ((zB.mk ([]) false),false)) (jnW (fun (xs252:(List (List zo)))=>k393 xs252) (fun k255=>zE xs170 (w64 ((xs170.length:Int) - 1)) (fun e256=>jQ e256 ([r177]) (fun _=>zE xs170 (w64 ((xs170.length:Int) - 1)) (fun e266=>k255 (xs170.set ((w64 ((xs170.length:Int) - 1))).toNat (e256++([r177]))))))))) (fun k247=>ifW (!r180) (k247 true) (k247 (decide ((xs170.length:Int)=0))))))) (fun k174=>zE ((l :: ls).map B) t86 (fun e91=>jS (xs77.length:Int) (fun r93=>uY (ByteArray.mk #[99,104,97,105,110,32]) r93 (fun s94=>ifW (decide (e91=s94)) (jQ xs77 ([[]]) (fun _=>k393 (xs77++([[]])))) (k174 xs77))))))) (yl (zB.mk xs77 (decide (e74=(ByteArray.mk #[100,101,102,97,117,108,116,32,97,99,99,101,112,116])))) (fun r395=>ifW (!r395) (O ((zB.mk ([]) false),false)) (O ((zB.mk xs77 (decide (e74=(ByteArray.mk #[100,101,102,97,117,108,116,32,97,99,99,101,112,116])))),true))))) ([],[],1)):=by
   intro a ha haa;refine zq 0 rfl h0 ?_;rw [zbV h0];show jg _ _;rw [show (l :: ls)[0]=l from rfl,zlB,← haa];refine U3 1 (ls.length+1) (fun s=>s.2.2) (fun k s=>(∃ cs,XL ((l :: ls).take k)=some (cs,a)∧Zs k cs∧s=(cs,[],(k:Int)))∧1<=k∧k<=ls.length+1) (fun k s ⟨⟨cs,_,_,e⟩,_⟩=>by rw [e]) (fun k s h=>h.2.2) ?_ ⟨⟨[],by simp [XL,Ug,ha],⟨by simp,fun c hc=>by simp at hc⟩,rfl⟩,by omega,by omega⟩;rintro k _ next ⟨⟨cs,hs,hz,rfl⟩,hk1,hk⟩ hn;have hz1:=hz.1;simp only [List.length_cons] at hl;refine zi (fun hc=>?_) (fun hc=>?_)
   ·have hlt:k<(l :: ls).length:=by simp at hc ⊢;omega
    have hlt':k<((l :: ls).map B).length:=by simpa using hlt
    have hlb:=hb.2 _ (List.getElem_mem hlt);have hne:(l :: ls).take k≠[]:=by cases k with
     | zero=>omega
     | succ k=>simp
    have step:∀ ds,VL cs (l :: ls)[k]=some ds->next (ds,[],(k:Int)+1):=by
     intro ds hds;have hlt3:k<ls.length+1:=by simpa using hlt
     refine hn hlt3 _ ⟨⟨ds,?_,zph hz hds,rfl⟩,by omega,by omega⟩;rw [zdo hlt,zgc hne,hs];simp only [hds,Option.map_some]
    have stop:VL cs (l :: ls)[k]=none->O (⟨[],false⟩,false):=by
     intro hds;refine h2 (fun cs' a' he=>?_);exfalso;have e:(l :: ls)=(l :: ls).take (k+1)++(l :: ls).drop (k+1):=(List.take_append_drop _ _).symm;have e2:XL ((l :: ls).take (k+1))=none:=by
      rw [zdo hlt,zgc hne,hs];simp only [hds,Option.map_none]
     rw [e] at he;rw [List.take_succ_cons] at he e2;simp only [List.cons_append,XL,zdE] at he e2;rw [ha] at he e2;simp only at he e2;cases hx:Ug [] (ls.take k) with
     | none=>rw [hx] at he;simp at he
     | some ds=>rw [hx] at e2;simp at e2
    have hd:=zby 7 cs.length (by omega);unfold jnW;refine zq k rfl hlt' (Yf (by omega) (by omega) (yq (l:=[99,104,97,105,110,32]) (by simp;omega) ?_));rw [zbV hlt',Int.toNat_natCast];show ifW (decide (B (l :: ls)[k]=B (chl cs.length))) _ _;rw [zbs];unfold VL at step stop;refine zi (fun hx=>?_) (fun hx=>?_)
    ·have e:(l :: ls)[k]=chl cs.length:=by simpa using hx
     rw [if_pos e] at step;exact jk (by simp;omega) (zy (by omega) (by omega) (step _ rfl))
    have e:(l :: ls)[k]≠chl cs.length:=by simpa using hx
    rw [if_neg e] at step stop;refine zq k rfl hlt' ?_;rw [zbV hlt'];refine zny hlb (fun r hr=>?_) (fun hr=>?_)
    ·rw [hr] at step stop;simp only at step stop;refine zi (fun hx=>by simp at hx) (fun _=>?_);refine zi (fun hx=>?_) (fun hx=>?_)
     ·have e0:cs=[]:=List.eq_nil_of_length_eq_zero (by simpa using hx);rw [if_pos e0] at stop;exact stop rfl
     have e0:cs≠[]:=fun e=>by rw [e] at hx;simp at hx
     have hpos:0<cs.length:=by simp at hx;cases cs with
      | nil=>exact absurd rfl e0
      | cons _ _=>simp
     have hlt2:cs.length - 1<cs.length:=by omega
     rw [if_neg e0] at step;have hw:w64 ((cs.length:Int) - 1)=((cs.length - 1:Nat):Int):=by rw [zfZ (by omega) (by omega)];omega
     have hcl:=(hz.2 _ (List.getElem_mem hlt2)).1;rw [hw];refine zq _ rfl hlt2 (jk (by simp;omega) (zq _ rfl hlt2 ?_));rw [Int.toNat_natCast];refine zy (by omega) (by omega) ?_;have:=step _ rfl;rw [zas cs r (cs.length - 1) (by omega)] at this;exact this
    rw [hr] at stop;exact zi (fun _=>zi (fun _=>stop rfl) (fun hx=>by simp at hx)) (fun hx=>by simp at hx)
   have hge:(l :: ls).length<=k:=by simp at hc ⊢;omega
   rw [List.take_of_length_le hge] at hs;refine UH (hz.bd (by omega)) (fun b hbv=>zi (fun hx=>h2 (fun cs' a' he hv=>?_)) (fun hx=>h1 _ _ hs (hbv.1 (by simpa using hx))));rw [hs] at he;cases he;rw [hbv.2 hv] at hx;cases hx
  unfold dfl at bad main;unfold jnW;refine zi (fun hx=>by simp at hx;omega) (fun _=>zq 0 rfl h0 ?_);rw [zbV h0,show (l :: ls)[0]=l from rfl,zlB];refine zi (fun hx=>zq 0 rfl h0 ?_) (fun hx=>?_)
  ·have e:l≠zjV:=by simpa using hx
   rw [zbV h0,show (l :: ls)[0]=l from rfl,zlX];rw [if_neg e] at bad main;refine zi (fun hy=>?_) (fun hy=>?_)
   ·have e2:l≠zgR:=by simpa using hy
    rw [if_neg e2] at bad;exact bad rfl
   have e2:l=zgR:=by simpa using hy
   rw [if_pos e2] at main;exact main _ rfl (by rw [decide_eq_false e])
  have e:l=zjV:=by simpa using hx
  rw [if_pos e] at main;exact zi (fun hx=>by simp at hx) (fun _=>main _ rfl (by rw [decide_eq_true e]))
end
section
open Go.Lib (decDigits)
theorem zis {ls:List (List UInt8)} {st:Int} {cs:List (List zo)} {a:Bool} (hne:ls≠[]) (h:ZR ls=some (st,cs,a)):XL ls=some (cs,a):=by
 cases ls with
 | nil=>exact absurd rfl hne
 | cons l ls =>
  simp only [ZR,XL] at h ⊢;cases hd:dfl l with
  | none=>rw [hd] at h;simp at h
  | some b =>
   rw [hd] at h;simp only at h ⊢;cases hf:zal [] ls with
   | none=>rw [hf] at h;simp at h
   | some ds =>
    rw [hf] at h;simp only [Option.some.injEq,Prod.mk.injEq] at h;rw [zf7 hf];obtain ⟨_,rfl,rfl⟩:=h;rfl
theorem zil {ls:List (List UInt8)} {cs:List (List zo)} {a:Bool} (h:XL ls=some (cs,a)) (hv:SV ⟨cs,a⟩):∃ st,ZR ls=some (st,cs,a):=by
 cases ls with
 | nil=>simp [XL] at h
 | cons l ls =>
  simp only [ZR,XL] at h ⊢;cases hd:dfl l with
  | none=>rw [hd] at h;simp at h
  | some b =>
   rw [hd] at h;simp only at h ⊢;cases hf:Ug [] ls with
   | none=>rw [hf] at h;simp at h
   | some ds =>
    rw [hf] at h;simp only [Option.some.injEq,Prod.mk.injEq] at h;obtain ⟨rfl,rfl⟩:=h;rw [zf6 hf hv.1.w hv.2.2];exact ⟨_,rfl⟩
theorem zrO {a:Bool}:¬ SV ⟨[],a⟩:=fun h=>by have:=h.2.1;simp at this
end
section
open Go.Lib (decDigits)
theorem zcV {b:List UInt8} {p:Int} {O:Bool×Int->Prop} (h:O (false,p)):jH b p 0 O:=by
 unfold jH jnW;exact zi (fun hx=>by simp at hx) (fun _=>h)
def SpW (tp:Int) (q:zk):Prop:=0<=q.xLo∧q.xLo<=q.xHi∧q.xHi<=tp
theorem zlJ {b:List UInt8} {p tp:Int} (hb:b.length<=2000) (h0:0<=p) (hp:p<=900000) (ht0:7<=tp) (ht:tp<=65535) {O:zk×Int->Prop} (h:∀ q p',p<=p'->p'<=p+20->SpW tp q->O (q,p')):X1 b p tp 0 O:=by
 have rdr:∀ p',p<=p'->p'<=p+30->RdP b p':=fun p' a c=>⟨hb,by omega,by omega⟩
 have B3:∀ (t144 t145:Int),p<=t144->t144<=p+6->0<=t145->t145<=tp->zw b t144 4 (fun (r150,r151)=>zw b r151 256 (fun (r152,r153)=>zw b r153 4 (fun (r155,r156)=>zE ([0,r150,r152,4096]) r155 (fun e157=>jH b r156 0 (fun (r174,r175)=>ifW r174 (zw b r175 3 (fun (r181,r182)=>zE ([(zk.mk (w64 ((min tp (w64 (t145+e157)))+1)) (min tp (w64 (t145+e157)))),(zk.mk (-1) (min tp (w64 (t145+e157)))),(zk.mk t145 (w64 (tp+1)))]) r181 (fun e183=>O ((zk.mk e183.xLo e183.xHi),r182)))) (O ((zk.mk t145 (min tp (w64 (t145+e157)))),r175))))))):=by
  intro t144 t145 g1 g2 g3 g4;refine xO (rdr _ (by omega) (by omega)) (fun v1 a1 c1=>xO (rdr _ (by omega) (by omega)) (fun v2 a2 c2=>xO (rdr _ (by omega) (by omega)) (fun v3 a3 c3=>Zp (by omega) (by simp;omega) (fun x hx=>?_))));have hx2:0<=x∧x<=4096:=by
   simp only [List.mem_cons,List.not_mem_nil,or_false] at hx;rcases hx with e | e | e | e <;> subst e <;> omega
  have hw:w64 (t145+x)=t145+x:=zfZ (by omega) (by omega);refine zcV (zi (fun hx=>by simp at hx) (fun _=>h _ _ (by omega) (by omega) ?_));rw [hw];refine ⟨g3,?_,?_⟩ <;> simp only <;> omega
 unfold X1;refine zy (by omega) (by omega) (xO (rdr p (by omega) (by omega)) (fun v a c=>?_));unfold jnW;refine zi (fun _=>?_) (fun _=>?_)
 ·refine xO (rdr _ (by omega) (by omega)) (fun v5 a5 c5=>?_);refine zi (fun _=>?_) (fun _=>?_)
  ·refine xO (rdr _ (by omega) (by omega)) (fun v6 a6 c6=>?_);have hw1:w64 (v * 256)=v * 256:=zfZ (by omega) (by omega);have hw2:w64 (v * 256+v6)=v * 256+v6:=zfZ (by omega) (by omega);refine B3 _ _ (by omega) (by omega) ?_ ?_ <;> rw [hw1,hw2] <;> omega
  exact B3 _ _ (by omega) (by omega) (by omega) (by omega)
 refine zi (fun e=>by cases e) (fun _=>B3 _ _ (by omega) (by omega) (by omega) (by omega))
theorem zlM {b:List UInt8} {p:Int} (hb:b.length<=2000) (h0:0<=p) (hp:p<=800000) {O:zI×Int->Prop} (h:∀ q p',p<=p'->p'<=p+50->TV q->O (q,p')):Xd b p 0 O:=by
 have rdr:∀ p',p<=p'->p'<=p+60->RdP b p':=fun p' a c=>⟨hb,by omega,by omega⟩
 unfold Xd;refine xO (rdr p (by omega) (by omega)) (fun f a1 c1=>xO (rdr _ (by omega) (by omega)) (fun nt a2 c2=>xF (by omega) (by omega) ?_));have ht:=Ur f;refine zlJ hb (by omega) (by omega) ht.1 ht.2 (fun sp p1 g1 g2 hsp=>?_);unfold jnW;have fin:∀ (t241 t242 t243:Int),p<=t241->t241<=p+35->0<=t242->t242<=t243->t243<=top f->jH b t241 0 (fun (r245,r246)=>ifW r245 (zw b r246 3 (fun (r247,r248)=>ifW (decide (r247=0)) (zw b r248 2 (fun (r251,r252)=>zE ([(-1),4]) r251 (fun e253=>O ((zI.mk e253 t242 t243 (decide (nt=0))),r252)))) (ifW (decide (r247=1)) (je t243 1 (fun t255=>O ((zI.mk f t255 t243 (decide (nt=0))),r248))) (je (top f) 1 (fun t256=>O ((zI.mk f t242 t256 (decide (nt=0))),r248)))))) (O ((zI.mk f t242 t243 (decide (nt=0))),r246))):=by
  intro t241 t242 t243 q1 q2 q3 q4 q5;exact zcV (zi (fun hx=>by simp at hx) (fun _=>h _ _ (by omega) (by omega) ⟨a1,by simp only;omega,q3,q4,q5⟩))
 have mid:∀ (t152 t153 t154:Int),p<=t152->t152<=p+30->0<=t153->t153<=t154->t154<=top f->zw b t152 8 (fun (r156,r157)=>ifW (decide (r156=0)) (zw b r157 3 (fun (r163,r164)=>zE ([(zk.mk 0 (top f)),(zk.mk 0 t154),(zk.mk t153 (top f))]) r163 (fun e165=>jH b r164 0 (fun (r245,r246)=>ifW r245 (zw b r246 3 (fun (r247,r248)=>ifW (decide (r247=0)) (zw b r248 2 (fun (r251,r252)=>zE ([(-1),4]) r251 (fun e253=>O ((zI.mk e253 e165.xLo e165.xHi (decide (nt=0))),r252)))) (ifW (decide (r247=1)) (je e165.xHi 1 (fun t255=>O ((zI.mk f t255 e165.xHi (decide (nt=0))),r248))) (je (top f) 1 (fun t256=>O ((zI.mk f e165.xLo t256 (decide (nt=0))),r248)))))) (O ((zI.mk f e165.xLo e165.xHi (decide (nt=0))),r246)))))) (jH b r157 0 (fun (r245,r246)=>ifW r245 (zw b r246 3 (fun (r247,r248)=>ifW (decide (r247=0)) (zw b r248 2 (fun (r251,r252)=>zE ([(-1),4]) r251 (fun e253=>O ((zI.mk e253 t153 t154 (decide (nt=0))),r252)))) (ifW (decide (r247=1)) (je t154 1 (fun t255=>O ((zI.mk f t255 t154 (decide (nt=0))),r248))) (je (top f) 1 (fun t256=>O ((zI.mk f t153 t256 (decide (nt=0))),r248)))))) (O ((zI.mk f t153 t154 (decide (nt=0))),r246))))):=by
  intro t152 t153 t154 q1 q2 q3 q4 q5;refine xO (rdr _ (by omega) (by omega)) (fun v4 a4 c4=>zi (fun _=>?_) (fun _=>fin _ _ _ (by omega) (by omega) q3 q4 q5));refine xO (rdr _ (by omega) (by omega)) (fun v5 a5 c5=>Zp (by omega) (by simp;omega) (fun y hy=>?_));have hb:0<=y.xLo∧y.xLo<=y.xHi∧y.xHi<=top f:=by rcases zru hy with e | e | e <;> subst e <;> simp only <;> omega
  exact fin _ _ _ (by omega) (by omega) hb.1 hb.2.1 hb.2.2
 refine zi (fun hf=>?_) (fun _=>?_)
 ·have htf:top f=65535:=by simp at hf;unfold top;rw [if_pos (by omega)]
  refine xO (rdr _ (by omega) (by omega)) (fun v a c=>?_);refine zi (fun _=>?_) (fun _=>mid _ _ _ (by omega) (by omega) hsp.1 hsp.2.1 hsp.2.2);refine xO (rdr _ (by omega) (by omega)) (fun v2 a2 c2=>xO (rdr _ (by omega) (by omega)) (fun v3 a3 c3=>?_));have hw:w64 (v2+v3)=v2+v3:=zdu (by omega) (by omega);exact mid _ _ _ (by omega) (by omega) (by omega) (by rw [hw];omega) (by rw [hw];omega)
 exact zi (fun e=>by cases e) (fun _=>mid _ _ _ (by omega) (by omega) hsp.1 hsp.2.1 hsp.2.2)
theorem zk2 {b:List UInt8} {p:Int} (hb:b.length<=2000) (h0:0<=p) (hp:p<=700000) {O:List zI×Int->Prop} (h:∀ ts p',p<=p'->p'<=p+300->TsV ts->O (ts,p')):yV b p 0 O:=by
 have rdr:∀ p',p<=p'->p'<=p+300->RdP b p':=fun p' a c=>⟨hb,by omega,by omega⟩
 unfold yV;refine xO (rdr p (by omega) (by omega)) (fun v a c=>?_);refine uV (fun s=>0<=s.2.2∧s.2.2<=3∧p<=s.1∧s.1<=p+1+50 * (3 - s.2.2)∧s.2.1.length+s.2.2.toNat<=3∧∀ t,t∈s.2.1->TV t) (fun s=>s.2.2.toNat) ?_ ⟨a,by simp only;omega,by simp only;omega,by simp only;omega,by simp only [List.length_nil];omega,by simp⟩;rintro ⟨q,xs,k⟩ next ⟨k0,k1,q0,q1,hx,hv⟩ hnx;simp only at k0 k1 q0 q1 hx hv;refine zi (fun hc=>?_) (fun hc=>?_)
 ·simp at hc;refine zlM hb (by omega) (by omega) (fun t p' g1 g2 tv=>jk (by simp;omega) (yK (by omega) (by omega) (hnx _ ⟨by simp only;omega,by simp only;omega,by simp only;omega,by simp only;omega,by simp;omega,fun y hy=>?_⟩ (by simp only;omega))));rcases List.mem_append.1 hy with hy | hy
  ·exact hv y hy
  rw [List.mem_singleton] at hy;subst hy;exact tv
 simp at hc;unfold jnW;exact zcV (zi (fun hx=>by simp at hx) (fun _=>h _ _ (by omega) (by omega) ⟨hv,by omega⟩))
def RvF (first chains:Int) (r:zo):Prop:=RV r∧(r.xAction=3->first<=r.xChain∧r.xChain<chains)
theorem zli {b:List UInt8} {p first chains:Int} (hb:b.length<=2000) (h0:0<=p) (hp:p<=600000) (hf0:0<=first) (hf1:first<=100) (hc0:0<=chains) (hc1:chains<=5) {O:zo×Int->Prop} (h:∀ r p',p<=p'->p'<=p+700->RvF first chains r->O (r,p')):Zk b p first chains 0 O:=by
 have rdr:∀ p',p<=p'->p'<=p+700->RdP b p':=fun p' a c=>⟨hb,by omega,by omega⟩
 unfold Zk;refine zk2 hb h0 (by omega) (fun ts p1 g1 g2 hts=>xO (rdr _ (by omega) (by omega)) (fun v a c=>Zp (by omega) (by simp;omega) (fun act hact=>?_)));have ha:act=1∨act=2∨act=3∨act=4∨act=5:=by
  simp only [List.mem_cons,List.not_mem_nil,or_false] at hact;rcases hact with e | e | e | e | e | e | e | e <;> omega
 unfold jnW;refine zi (fun h3=>?_) (fun h3=>?_)
 ·have e3:act=3:=by simpa using h3
  refine zi (fun hc=>?_) (fun hc=>?_)
  ·exact zcV (zi (fun hx=>by simp at hx) (fun _=>h _ _ (by omega) (by omega) ⟨⟨hts,show HV 2 0 from by decide⟩,fun e=>by simp at e⟩))
  simp at hc;refine yK (by omega) (by omega) (xO (rdr _ (by omega) (by omega)) (fun v2 a2 c2=>zy (by omega) (by omega) ?_));exact zcV (zi (fun hx=>by simp at hx) (fun _=>h _ _ (by omega) (by omega) ⟨⟨hts,by simp only [HV];omega⟩,fun e=>by simp only;omega⟩))
 have e3:act≠3:=by simpa using h3
 exact zcV (zi (fun hx=>by simp at hx) (fun _=>h _ _ (by omega) (by omega) ⟨⟨hts,show HV act 0 from ⟨by omega,by omega,fun h=>absurd h e3,fun _=>rfl⟩⟩,fun e=>absurd e e3⟩))
theorem zkW {b:List UInt8} {p first chains:Int} (hb:b.length<=2000) (h0:0<=p) (hp:p<=500000) (hf0:0<=first) (hf1:first<=100) (hc0:0<=chains) (hc1:chains<=5) {O:List zo×Int->Prop} (h:∀ c p',p<=p'->p'<=p+5000->c.length<=4->(∀ r,r∈c->RvF first chains r)->O (c,p')):YG b p first chains 0 O:=by
 have rdr:∀ p',p<=p'->p'<=p+5000->RdP b p':=fun p' a c=>⟨hb,by omega,by omega⟩
 unfold YG;refine xO (rdr p (by omega) (by omega)) (fun v a c=>?_);refine uV (fun s=>0<=s.2.2∧s.2.2<=4∧p<=s.1∧s.1<=p+1+700 * (4 - s.2.2)∧s.2.1.length+s.2.2.toNat<=4∧∀ r,r∈s.2.1->RvF first chains r) (fun s=>s.2.2.toNat) ?_ ⟨a,by simp only;omega,by simp only;omega,by simp only;omega,by simp only [List.length_nil];omega,by simp⟩;rintro ⟨q,xs,k⟩ next ⟨k0,k1,q0,q1,hx,hv⟩ hnx;simp only at k0 k1 q0 q1 hx hv;refine zi (fun hc=>?_) (fun hc=>?_)
 ·simp at hc;refine zli hb (by omega) (by omega) hf0 hf1 hc0 hc1 (fun r p' g1 g2 hr=>jk (by simp;omega) (yK (by omega) (by omega) (hnx _ ⟨by simp only;omega,by simp only;omega,by simp only;omega,by simp only;omega,by simp;omega,fun y hy=>?_⟩ (by simp only;omega))));rcases List.mem_append.1 hy with hy | hy
  ·exact hv y hy
  rw [List.mem_singleton] at hy;subst hy;exact hr
 simp at hc;unfold jnW;exact zcV (zi (fun hx=>by simp at hx) (fun _=>h _ _ (by omega) (by omega) (by omega) hv))
theorem ziz {b:List UInt8} (hb:b.length<=2000) {O:zB×Int->Prop} (h:∀ s p',0<=p'->p'<=50000->SV s->O (s,p')):YZ b 0 0 O:=by
 have rdr:∀ p',0<=p'->p'<=100000->RdP b p':=fun p' a c=>⟨hb,by omega,by omega⟩
 unfold YZ;refine xO (rdr 0 (by omega) (by omega)) (fun v0 a0 c0=>xO (rdr _ (by omega) (by omega)) (fun v a c=>zy (by omega) (by omega) ?_));refine uV (fun s=>0<=s.2.2∧s.2.2<=1+v∧0<=s.1∧s.1<=2+5000 * s.2.2∧(s.2.1.length:Int)=s.2.2∧∀ (i:Nat) c,s.2.1[i]?=some c->c.length<=4∧∀ r,r∈c->RvF (i+1) (1+v) r) (fun s=>(1+v - s.2.2).toNat) ?_ ⟨by simp,by simp only;omega,by simp only;omega,by simp only;omega,rfl,by simp⟩;rintro ⟨q,xs,k⟩ next ⟨k0,k1,q0,q1,hx,hv⟩ hnx;simp only at k0 k1 q0 q1 hx hv;unfold jnW;refine zi (fun hc=>?_) (fun hc=>?_)
 ·simp at hc;have hw:w64 (k+1)=k+1:=zdu (by omega) (by omega);rw [hw];refine zkW hb (by omega) (by omega) (by omega) (by omega) (by omega) (by omega) (fun ch p' g1 g2 hl hd=>jk (by simp;omega) (zy (by omega) (by omega) (hnx _ ⟨by simp only;omega,by simp only;omega,by simp only;omega,by simp only;omega,by simp;omega,fun i c hi=>?_⟩ (by simp only;omega))));by_cases hlt:i<xs.length
  ·rw [List.getElem?_append_left hlt] at hi;exact hv i c hi
  rw [List.getElem?_append_right (by omega)] at hi;have he:i - xs.length=0:=by
   have:=(List.getElem?_eq_some_iff.1 hi).1;simp at this;omega
  rw [he] at hi;simp at hi;subst hi;have e2:(i:Int)=k:=by omega
  rw [e2];exact ⟨hl,hd⟩
 simp at hc;have hk:k=1+v:=by omega
 refine zcV (zi (fun hx=>by simp at hx) (fun _=>h _ _ (by omega) (by omega) ?_));have hcall:∀ (i j:Nat),Ca xs i j->i<j∧j<xs.length:=by
  rintro i j ⟨c,h1,r,h2,h3,h4⟩;have:=((hv i c h1).2 r h2).2 h3;omega
 have hsf:∀ (n i:Nat),xs.length - i<=n->Sf xs i:=by
  intro n;induction n with
  | zero=>intro i hi;exact zlP (by omega)
  | succ n ih=>intro i hi;exact zgU (fun j hj=>ih j (by have:=hcall i j hj;omega))
 refine ⟨⟨by simp only;omega,fun c hc'=>?_⟩,by simp only;omega,fun i _=>hsf _ i (Nat.le_refl _)⟩;obtain ⟨i,hi⟩:=List.mem_iff_getElem?.1 hc';obtain ⟨h4,h5⟩:=hv i c hi;refine ⟨by omega,fun r hr=>⟨(h5 r hr).1,?_⟩⟩;have hr':=(h5 r hr).2;have hhv:=(h5 r hr).1.2;simp only;by_cases h3:r.xAction=3
 ·have:=hr' h3;omega
 have:=hhv.2.2.2 h3;omega
def Bw (ls:List ByteArray):Prop:=ls.length<=1000∧∀ x,x∈ls->x.size<=5000
theorem zjn {a:List ByteArray} {c:List ByteArray} (h:Bw a) (ha:a.length<=100) (hc:c.length<=100) (hx:∀ x,x∈c->x.size<=5000):Bw (a++c):=⟨by simp;omega,fun x hm=>by
 rcases List.mem_append.1 hm with hm | hm
 ·exact h.2 x hm
 ·exact hx x hm⟩
theorem ziR {b:List UInt8} {p n:Int} (hb:b.length<=2000) (h0:0<=p) (hp:p<=200000) (hn:n<=4294967296) {O:ByteArray×Int->Prop} (h:∀ s p',p<=p'->p'<=p+710->s.size<=1000->O (s,p')):Uc b p n O:=by
 unfold Uc jnW;refine znq hb (by omega) (by omega) (by omega) (by omega) (by omega) (by omega) (by omega) (fun r p' f1 f2 hr=>Yx (by omega) ?_);have hl:=znj r;refine ziE ⟨hb,by omega,by omega⟩ (by omega) (fun c p1 g1 g2=>zi (fun hc=>?_) (fun hc=>h _ _ (by omega) (by omega) (by rw [Xr];omega)));refine yq (m:=[44]) (by simp;omega) (yq (m:=[44,32]) (by simp;omega) (yq (m:=[44,32,110,111,110,101]) (by simp;omega) (xO ⟨hb,by omega,by omega⟩ (fun v v1 v2=>Zp (by omega) (by simp;omega) (fun x hx=>h x _ (by omega) (by omega) ?_)))));simp only [List.mem_cons,List.not_mem_nil,or_false] at hx;rcases hx with rfl | rfl | rfl | rfl | rfl | rfl | rfl | rfl | rfl | rfl | rfl
 ·rw [Xr];simp;omega
 ·rw [Xr];simp;omega
 ·decide
 ·decide
 ·decide
 ·decide
 ·decide
 ·decide
 ·rw [Xr];simp;omega
 ·decide
 decide
theorem zfC {s:zB} (h:SV s):Bw (VT s)∧(VT s).length<=50∧0<(VT s).length:=by
 have hc:=h.1.1;have hs:=zgE s.xChains (fun c hc=>(h.1.2 c hc).1);have hl:(VT s).length<=50:=by simp [VT,zgH];omega
 refine ⟨⟨by omega,fun x hx=>?_⟩,hl,by simp [VT]⟩;simp only [VT,List.mem_cons] at hx;rcases hx with rfl | hx
 ·rw [Xr];unfold dft;split <;> decide
 have key:∀ (cs:List (List zo)) (k:Nat),k+cs.length<=1000->(∀ c,c∈cs->∀ r,r∈c->RV r)->∀ x,x∈lsF k cs->x.size<=5000:=by
  intro cs;induction cs with
  | nil=>intro k _ _ x hx;simp [lsF] at hx
  | cons c cs ih =>
   intro k hk hv x hx;simp only [List.length_cons] at hk;simp only [lsF,List.cons_append,List.mem_cons,List.mem_append,List.mem_map] at hx;rcases hx with rfl | ⟨r,hr,rfl⟩ | hx
   ·have:=zby 6 k (by omega);rw [Xr];simp [chl];omega
   ·have:=zeY (hv c (by simp) r hr);rw [Xr];omega
   exact ih (k+1) (by omega) (fun c hc=>hv c (by simp [hc])) x hx
 exact key s.xChains 0 (by omega) (fun c hc r hr=>((h.1.2 c hc).2 r hr).1) x hx
theorem zlI {b:List UInt8} {n:Int} (hb:b.length<=2000) (hn:n<=4294967296) {O:List ByteArray×Int->Prop} (h:∀ ls p',Bw ls->O (ls,p')):U0 b 0 n O:=by
 have rdr:∀ p',0<=p'->p'<=100000->RdP b p':=fun p' a c=>⟨hb,by omega,by omega⟩
 unfold U0 jnW;refine ziz hb (fun s p1 e1 e2 hv=>zaY hv.bs.bd (fun _=>?_) (fun hno=>absurd hv hno));obtain ⟨hw,hl,hpos⟩:=zfC hv;generalize VT s=xs at *
 refine ziE (rdr _ (by omega) (by omega)) hn (fun o p2 f1 f2=>zi (fun _=>?_) (fun _=>h _ _ hw));refine xO (rdr _ (by omega) (by omega)) (fun v a c=>zi (fun _=>?_) (fun _=>zi (fun _=>?_) (fun _=>zi (fun _=>?_) (fun _=>zi (fun _=>?_) (fun _=>zi (fun _=>?_) (fun _=>?_))))))
 ·exact ziR hb (by omega) (by omega) (by omega) (fun l p3 d1 d2 hs=>jk (by simp;omega) (h _ _ (zjn hw (by omega) (by simp) (fun x hx=>by rw [List.mem_singleton] at hx;subst hx;omega))))
 ·exact jk (by simp;omega) (h _ _ (zjn hw (by omega) (by simp) (fun x hx=>by rw [List.mem_singleton] at hx;subst hx;decide)))
 ·refine xO (rdr _ (by omega) (by omega)) (fun v2 a2 c2=>⟨by omega,by omega,by omega,h _ _ ⟨by have:=hw.1;simp;omega,fun x hx=>hw.2 x (List.mem_of_mem_take (List.mem_of_mem_drop hx))⟩⟩)
 ·refine xO (rdr _ (by omega) (by omega)) (fun v2 a2 c2=>ziR hb (by omega) (by omega) (by omega) (fun l p3 d1 d2 hs=>Zp (by omega) (by omega) (fun _ _=>h _ _ ⟨by have:=hw.1;simp;omega,fun x hx=>?_⟩)));rcases List.mem_or_eq_of_mem_set hx with hx | rfl
  ·exact hw.2 x hx
  omega
 ·exact jk (by simp;omega) (h _ _ (zjn hw (by omega) (by simp) (fun x hx=>by rw [List.mem_singleton] at hx;subst hx;decide)))
 refine xO (rdr _ (by omega) (by omega)) (fun v2 a2 c2=>Yf (by omega) (by omega) ?_);have hd:=zby 6 v2.toNat (by omega);refine yq (l:=[99,104,97,105,110,32]) (by simp;omega) (jk (by simp;omega) (h _ _ (zjn hw (by omega) (by simp) (fun x hx=>?_))));rcases zsv hx with rfl | rfl
 ·decide
 rw [Xr];simp;omega
end
section
def th (t:zI) (p:zZ):Bool:=decide (t.xLo<=XM p t.xField.toNat∧XM p t.xField.toNat<=t.xHi) != t.xNot
def ft (l:List zI) (p:zZ):Bool:=l.all (fun t=>th t p)
theorem zrM {a:Int} (h0:0<=a) (h1:a<=3):a=0∨a=1∨a=2∨a=3:=by omega
theorem zml (x y:Bool):(!(decide (x=y)))=(x != y):=by cases x <;> cases y <;> rfl
theorem zjP {t:zI} {p:zZ} {O:Bool->Prop} (ht:TV t) (h:O (th t p)):YV t p O:=by
 obtain ⟨h0,h1,_⟩:=ht;unfold YV Zn jnW;have key:∀ v:Int,v=XM p t.xField.toNat->ifW (decide (t.xLo<=v)) (O (!(decide ((decide (v<=t.xHi))=t.xNot)))) (O (!(decide (false=t.xNot)))):=by
  intro v hv;unfold th at h;rw [← hv] at h;refine zi (fun hc=>?_) (fun hc=>?_)
  ·rw [zml];have e:decide (t.xLo<=v∧v<=t.xHi)=decide (v<=t.xHi):=by simp at hc;simp [hc]
   rw [e] at h;exact h
  rw [zml];have e:decide (t.xLo<=v∧v<=t.xHi)=false:=by simp at hc;simp;omega
  rw [e] at h;exact h
 rcases zrM h0 h1 with e | e | e | e
 ·exact zq 0 (by omega) (by simp) (key _ (by rw [e];rfl))
 ·exact zq 1 (by omega) (by simp) (key _ (by rw [e];rfl))
 ·exact zq 2 (by omega) (by simp) (key _ (by rw [e];rfl))
 exact zq 3 (by omega) (by simp) (key _ (by rw [e];rfl))
theorem zpP (l:List zI) (p:zZ) (k:Nat) (h:k<l.length):ft (l.take (k+1)) p=(ft (l.take k) p && th l[k] p):=by
 unfold ft;rw [List.take_succ_eq_append_getElem h,List.all_append];simp
theorem zos {l:List zI} {p:zZ} {k:Nat} (h:k<l.length) (e:th l[k] p=false):ft l p=false:=by
 unfold ft;rw [List.all_eq_false];exact ⟨l[k],List.getElem_mem h,by simp [e]⟩
theorem zg0 {l:List zI} {p:zZ} {O:Bool->Prop} (hl:l.length<=4294967296) (ht:∀ t,t∈l->TV t) (h:O (ft l p)):Vs l p O:=by
 unfold Vs;refine zQ l.length (fun s=>s) (fun k s=>s=(k:Int)∧k<=l.length∧ft (l.take k) p=true) (fun k s h=>h.1) (fun k s h=>h.2.1) ?_ ⟨rfl,Nat.zero_le _,by simp [ft]⟩;rintro k _ next ⟨rfl,hk,hf⟩ hn;refine zi (fun hc=>?_) (fun hc=>?_)
 ·have hlt:k<l.length:=by simpa using hc
  refine zq k rfl hlt (zjP (ht _ (List.getElem_mem hlt)) (zi (fun hx=>?_) (fun hx=>zy (by omega) (by omega) (hn hlt _ ⟨by omega,by omega,?_⟩))))
  ·rw [zos hlt (by simpa using hx)] at h;exact h
  rw [zpP l p k hlt,hf];simpa using hx
 have hge:l.length<=k:=by simpa using hc
 rw [List.take_of_length_le hge] at hf;rw [hf] at h;exact h
def Hh (cs:List (List zo)):Nat->Nat->Prop
 | 0,_=>False
 | n+1,i=>∀ j,Ca cs i j->Hh cs n j
theorem zgN {cs:List (List zo)}:∀ {n i:Nat},Hh cs n i->Hh cs (n+1) i
 | 0,i,h=>h.elim
 | n+1,i,h=>fun j hj=>zgN (h j hj)
theorem zqf {cs:List (List zo)} {n m i:Nat} (h:Hh cs n i) (hm:n<=m):Hh cs m i:=by
 induction hm with
 | refl=>exact h
 | step _ ih=>exact zgN ih
theorem zlu {cs:List (List zo)} {Q:Nat->Prop}:∀ (k:Nat),(∀ j,j<k->Q j->∃ n,Hh cs n j)->∃ N,∀ j,j<k->Q j->Hh cs N j
 | 0,_=>⟨0,fun j hj=>by omega⟩
 | k+1,h=>by
  obtain ⟨N,hN⟩:=zlu k (fun j hj hq=>h j (by omega) hq)
  by_cases hq:Q k
  ·obtain ⟨n,hn⟩:=h k (by omega) hq
   refine ⟨max N n,fun j hj hqj=>?_⟩
   by_cases e:j=k
   ·subst e;exact zqf hn (by omega)
   ·exact zqf (hN j (by omega) hqj) (by omega)
  ·refine ⟨N,fun j hj hqj=>?_⟩
   by_cases e:j=k
   ·subst e;exact absurd hqj hq
   ·exact hN j (by omega) hqj
theorem zoo {cs:List (List zo)} {i:Nat} (hs:Sf cs i):∃ n,Hh cs n i:=by
 induction hs with
 | intro x hx ih =>
  obtain ⟨N,hN⟩:=zlu (cs:=cs) (Q:=fun j=>Ca cs x j) cs.length (fun j _ hq=>ih j hq);refine ⟨N+1+1,fun j hj=>?_⟩;by_cases hl:j<cs.length
  ·exact zgN (hN j hl hj)
  exact fun k hk=>by
   obtain ⟨c,h1,_⟩:=hk;have:=(List.getElem?_eq_some_iff.1 h1).1;omega
theorem zsg {cs:List (List zo)} (hs:∀ i,i<cs.length->Sf cs i):∃ N,∀ i,Hh cs (N+1) i:=by
 obtain ⟨N,hN⟩:=zlu (cs:=cs) (Q:=fun _=>True) cs.length (fun j hj _=>zoo (hs j hj));refine ⟨N,fun i=>?_⟩;by_cases hl:i<cs.length
 ·exact zgN (hN i hl trivial)
 exact fun k hk=>by
  obtain ⟨c,h1,_⟩:=hk;have:=(List.getElem?_eq_some_iff.1 h1).1;omega
def jl (p:zZ) (call:Nat->Int):List zo->Int
 | []=>5
 | r :: l=>if ft r.xTests p=true then
   (if r.xAction=1 then 1 else if r.xAction=2 then 2 else if r.xAction=4 then 5 else if r.xAction=3 then (if call r.xChain.toNat=5 then jl p call l else call r.xChain.toNat) else jl p call l)
   else jl p call l
def chn (cs:List (List zo)) (i:Nat):List zo:=cs[i]?.getD []
def jc (cs:List (List zo)) (p:zZ):Nat->Nat->Int
 | 0,_=>5
 | n+1,i=>jl p (jc cs p n) (chn cs i)
theorem zkX {p:zZ} {f g:Nat->Int}:∀ {l:List zo},(∀ r,r∈l->r.xAction=3->f r.xChain.toNat=g r.xChain.toNat)->jl p f l=jl p g l
 | [],_=>rfl
 | r :: l,h=>by
  have ih:=zkX (p:=p) (l:=l) (fun x hx=>h x (by simp [hx]))
  simp only [jl]
  rw [ih]
  by_cases h3:r.xAction=3
  ·rw [h r (by simp) h3]
  ·simp only [h3,if_false]
theorem zee {cs:List (List zo)} {i:Nat} {r:zo} (hr:r∈chn cs i) (h3:r.xAction=3) (h0:0<=r.xChain):Ca cs i r.xChain.toNat:=by
 unfold chn at hr;cases h:cs[i]? with
 | none=>rw [h] at hr;simp at hr
 | some c=>rw [h] at hr;exact ⟨c,h,r,hr,h3,by omega⟩
def Cn (cs:List (List zo)):Prop:=∀ i r,r∈chn cs i->r.xAction=3->0<=r.xChain
theorem zlW {cs:List (List zo)} {p:zZ} (hc:Cn cs):∀ {n i:Nat},Hh cs n i->jc cs p (n+1) i=jc cs p n i
 | 0,i,h=>h.elim
 | n+1,i,h=>zkX (fun r hr h3=>zlW hc (h _ (zee hr h3 (hc i r hr h3))))
def wt (cs:List (List zo)):Nat->List zo->Nat
 | 0,l=>l.length+1
 | n+1,l=>1+(l.map (fun r=>1+if r.xAction=3 then wt cs n (chn cs r.xChain.toNat) else 0)).sum
theorem zrv (cs:List (List zo)) (n:Nat):wt cs n []=1:=by cases n <;> simp [wt]
theorem zp8 (cs:List (List zo)) (n:Nat) (r:zo) (l:List zo):wt cs (n+1) (r :: l)=wt cs (n+1) l+1+(if r.xAction=3 then wt cs n (chn cs r.xChain.toNat) else 0):=by
 simp only [wt,List.map_cons,List.sum_cons];omega
theorem zlY {cs:List (List zo)} (hc:Cn cs):∀ {n i:Nat},Hh cs n i->wt cs (n+1) (chn cs i)=wt cs n (chn cs i)
 | 0,i,h=>h.elim
 | n+1,i,h=>by
  have key:∀ l:List zo,(∀ r,r∈l->r∈chn cs i)->(l.map (fun r=>1+if r.xAction=3 then wt cs (n+1) (chn cs r.xChain.toNat) else 0)).sum=(l.map (fun r=>1+if r.xAction=3 then wt cs n (chn cs r.xChain.toNat) else 0)).sum:=by
   intro l hl
   congr 1
   refine List.map_congr_left (fun r hr=>?_)
   by_cases h3:r.xAction=3
   ·simp only [h3,if_true]
    rw [zlY hc (h _ (zee (hl r hr) h3 (hc i r (hl r hr) h3)))]
   ·simp only [h3,if_false]
  show 1+_=1+_
  rw [key _ (fun r hr=>hr)]
open Classical in
noncomputable def jN (cs:List (List zo)):Nat:=if h:∃ N,∀ i,Hh cs (N+1) i then h.choose else 0
theorem ziP {cs:List (List zo)} (hs:∀ i,i<cs.length->Sf cs i) (i:Nat):Hh cs (jN cs+1) i:=by
 have h:=zsg hs;unfold jN;rw [dif_pos h];exact h.choose_spec i
noncomputable def J (cs:List (List zo)) (p:zZ) (i:Nat):Int:=jc cs p (jN cs+1) i
theorem zn5 {cs:List (List zo)} {p:zZ} (hc:Cn cs) (hs:∀ i,i<cs.length->Sf cs i) (i:Nat):J cs p i=jl p (J cs p) (chn cs i):=by
 unfold J;rw [← zlW hc (ziP hs i)];rfl
theorem SV.cn {s:zB} (h:SV s):Cn s.xChains:=by
 intro i r hr h3;unfold chn at hr;cases e:s.xChains[i]? with
 | none=>rw [e] at hr;simp at hr
 | some c =>
  rw [e] at hr;exact (((h.1.2 c (List.mem_of_getElem? e)).2 r hr).1.2.2.2.1 h3).1
theorem ze2 {cs:List (List zo)} {i:Nat} (h:i<cs.length):chn cs i=cs[i]:=by simp [chn,h]
theorem zmH {p:zZ} {f:Nat->Int} (hf:∀ i,f i=1∨f i=2∨f i=5):∀ l,jl p f l=1∨jl p f l=2∨jl p f l=5
 | []=>by simp [jl]
 | r :: l=>by
  have ih:=zmH (p:=p) hf l
  have:=hf r.xChain.toNat
  simp only [jl]
  repeat' split
  all_goals omega
theorem zjp {cs:List (List zo)} {p:zZ}:∀ n i,jc cs p n i=1∨jc cs p n i=2∨jc cs p n i=5
 | 0,i=>by simp [jc]
 | n+1,i=>zmH (zjp n) _
theorem zq3 (cs:List (List zo)) (p:zZ) (i:Nat):J cs p i=1∨J cs p i=2∨J cs p i=5:=zjp _ _
noncomputable def jdg (s:zB) (p:zZ):Bool:=if J s.xChains p 0=1 then true else if J s.xChains p 0=2 then false else s.xAccept
end
section
theorem zfv:∀ (n:Nat) (l:List Nat),l.Nodup->(∀ x,x∈l->x<n)->l.length<=n
 | 0,[],_,_=>by simp
 | 0,x :: l,_,h=>by have:=h x (by simp);omega
 | n+1,l,hd,h=>by
  by_cases hm:n∈l
  ·obtain ⟨s,t,rfl⟩:=List.append_of_mem hm
   have hnd:(s++t).Nodup∧n ∉ s++t:=by
    rw [List.nodup_append] at hd ⊢
    simp only [List.nodup_cons,List.mem_cons] at hd
    obtain ⟨h1,⟨h2,h3⟩,h4⟩:=hd
    refine ⟨⟨h1,h3,fun a ha b hb=>h4 a ha b (.inr hb)⟩,fun hmem=>?_⟩
    rcases List.mem_append.1 hmem with hs | ht
    ·exact h4 n hs n (.inl rfl) rfl
    ·exact h2 ht
   have:=zfv n (s++t) hnd.1 (fun x hx=>by
    have h1:=h x (by
     rcases List.mem_append.1 hx with hx | hx
     ·exact List.mem_append.2 (.inl hx)
     ·exact List.mem_append.2 (.inr (List.mem_cons_of_mem _ hx)))
    have h2:x≠n:=fun e=>hnd.2 (e ▸ hx)
    omega)
   simp at this ⊢;omega
  ·have:=zfv n l hd (fun x hx=>by
    have h1:=h x hx
    have h2:x≠n:=fun e=>hm (e ▸ hx)
    omega)
   omega
def okP (cs:List (List zo)) (q:jP):Prop:=0<=q.xChain∧q.xChain.toNat<cs.length∧0<=q.xNext∧q.xNext.toNat<=(chn cs q.xChain.toNat).length
def sfx (cs:List (List zo)) (q:jP):List zo:=(chn cs q.xChain.toNat).drop q.xNext.toNat
noncomputable def Jst (cs:List (List zo)) (p:zZ):List jP->Int
 | []=>5
 | q :: st=>if jl p (J cs p) (sfx cs q)=5 then Jst cs p st else jl p (J cs p) (sfx cs q)
noncomputable def wst (cs:List (List zo)) (xs:List jP):Nat:=(xs.map (fun q=>wt cs (jN cs+1) (sfx cs q))).sum
theorem zcO (cs:List (List zo)) (xs:List jP) (q:jP):wst cs (xs++[q])=wst cs xs+wt cs (jN cs+1) (sfx cs q):=by simp [wst]
def Stk (cs:List (List zo)) (xs:List jP):Prop:=(∀ q,q∈xs->okP cs q)∧xs.Pairwise (fun a b=>Wy cs a.xChain.toNat b.xChain.toNat)
theorem Stk.len {cs:List (List zo)} {xs:List jP} (hs:∀ i,i<cs.length->Sf cs i) (h:Stk cs xs):xs.length<=cs.length:=by
 have hn:(xs.map (fun q=>q.xChain.toNat)).Nodup:=by
  rw [List.Nodup,List.pairwise_map];refine List.Pairwise.imp_of_mem (fun {a b} ha hb hw e=>?_) h.2;rw [← e] at hw;exact zmg (hs _ (h.1 a ha).2.1) hw
 have:=zfv cs.length _ hn (fun x hx=>by
  obtain ⟨q,hq,rfl⟩:=List.mem_map.1 hx;exact (h.1 q hq).2.1)
 simpa using this
theorem Stk.drop {cs:List (List zo)} {ys:List jP} {q:jP} (h:Stk cs (ys++[q])):Stk cs ys:=⟨fun x hx=>h.1 x (List.mem_append.2 (.inl hx)),(List.pairwise_append.1 h.2).1⟩
theorem Stk.move {cs:List (List zo)} {ys:List jP} {q q':jP} (h:Stk cs (ys++[q])) (hq:okP cs q') (hc:q'.xChain=q.xChain):Stk cs (ys++[q']):=by
 refine ⟨fun x hx=>?_,?_⟩
 ·rcases List.mem_append.1 hx with hx | hx
  ·exact h.1 x (List.mem_append.2 (.inl hx))
  rw [List.mem_singleton] at hx;subst hx;exact hq
 obtain ⟨h1,_,h3⟩:=List.pairwise_append.1 h.2;refine List.pairwise_append.2 ⟨h1,by simp,fun a ha b hb=>?_⟩;rw [List.mem_singleton] at hb;subst hb;rw [hc];exact h3 a ha q (by simp)
theorem Stk.push {cs:List (List zo)} {ys:List jP} {q q':jP} (h:Stk cs (ys++[q])) (hq:okP cs q') (hc:Ca cs q.xChain.toNat q'.xChain.toNat):Stk cs (ys++[q]++[q']):=by
 refine ⟨fun x hx=>?_,?_⟩
 ·rcases List.mem_append.1 hx with hx | hx
  ·exact h.1 x hx
  rw [List.mem_singleton] at hx;subst hx;exact hq
 refine List.pairwise_append.2 ⟨h.2,by simp,fun a ha b hb=>?_⟩;rw [List.mem_singleton] at hb;subst hb;rcases List.mem_append.1 ha with ha | ha
 ·exact .more ((List.pairwise_append.1 h.2).2.2 a ha q (by simp)) hc
 rw [List.mem_singleton] at ha;subst ha;exact .one hc
theorem zlT {V:Type} (xs:List V) (h:0<xs.length):∃ ys q,xs=ys++[q]:=⟨xs.dropLast,xs.getLast (List.ne_nil_of_length_pos h),(List.dropLast_concat_getLast (List.ne_nil_of_length_pos h)).symm⟩
theorem zl6 {ys:List jP} {q:jP} {vis:List yM} {d:Int} {O:List jP->Prop} (hl:ys.length<=50) (h:O ys):Xu (ys++[q]) vis d O:=by
 unfold Xu jnW;have hw:w64 (((ys++[q]).length:Int) - 1)=(ys.length:Int):=by
  rw [zdu (by simp <;> omega) (by simp <;> omega)];simp
 rw [hw];refine ⟨by omega,by omega,by simp <;> omega,?_⟩;rw [show ((ys.length:Int)).toNat=ys.length from by omega,show ((0:Int)).toNat=0 from rfl,List.drop_zero,List.take_left']
 ·exact h
 rfl
theorem zir {s:zB} {p:zZ} (hv:SV s) {O:List jP×List yM×Int->Prop} (h:∀ st vis,O (st,vis,J s.xChains p 0)):Yv s p O:=by
 unfold Yv;have hcs:=hv.1.1;generalize hcc:s.xChains=cs at *
 have hsf:=hv.2.2;rw [hcc] at hsf;have hpos:0<cs.length:=by have:=hv.2.1;rw [hcc] at this;omega
 have hcn:Cn cs:=hcc ▸ hv.cn;have htg:=hv.1.2;rw [hcc] at htg;refine uV (fun t=>Stk cs t.1∧t.2.1.length<=200∧(t.2.2=5->Jst cs p t.1.reverse=J cs p 0)∧(t.2.2≠5->t.2.2=J cs p 0)) (fun t=>if t.2.2=5 then 1+wst cs t.1 else 0) ?_ ⟨⟨fun q hq=>?_,by simp⟩,by simp,fun _=>?_,fun hx=>absurd rfl hx⟩;rotate_left
 ·simp only [List.mem_singleton] at hq;subst hq;exact ⟨by simp,by simpa using hpos,by simp,by simp⟩
 ·have:sfx cs ⟨0,0⟩=chn cs 0:=by simp [sfx]
  simp only [List.reverse_cons,List.reverse_nil,List.nil_append,Jst,this];rw [← zn5 hcn hsf 0];split
  ·rename_i e;rw [e]
  rfl
 rintro ⟨xs,vis,d⟩ next ⟨hst,hvl,h5,hd⟩ hn;simp only at hst hvl h5 hd;unfold jnW;refine zi (fun hlen=>?_) (fun hlen=>zi (fun hx=>by simp at hx) (fun _=>?_));rotate_left
 ·have hx0:xs=[]:=by simp at hlen;exact hlen
  by_cases e:d=5
  ·have:=h5 e;rw [hx0] at this;simp only [List.reverse_nil,Jst] at this;rw [e,this];exact h _ _
  rw [hd e];exact h _ _
 refine zi (fun h5'=>?_) (fun h5'=>?_);rotate_left
 ·have e:d≠5:=by simpa using h5'
  rw [hd e];exact h _ _
 have e5:d=5:=by simpa using h5'
 subst e5;clear hd;have hJ:=h5 rfl;clear h5;obtain ⟨ys,q,rfl⟩:=zlT xs (by have h':(0:Int)<(xs.length:Int):=of_decide_eq_true hlen;omega);have hll:=hst.len hsf;obtain ⟨q0,q1,q2,q3⟩:=hst.1 q (by simp);simp only [List.length_append,List.length_cons,List.length_nil] at hll;have hchn:=ze2 q1;obtain ⟨h8,hrv⟩:=htg _ (List.getElem_mem q1);refine yK (by simp <;> omega) (by simp <;> omega) (zq ys.length (by simp) (by simp) ?_);rw [show (ys++[q])[ys.length]'(by simp)=q by simp];refine zq q.xChain.toNat (by omega) q1 ?_;rw [← hchn];rw [← hchn] at h8 hrv;have hrev:(ys++[q]).reverse=q :: ys.reverse:=by simp
 rw [hrev] at hJ;have hset:∀ q':jP,(ys++[q]).set ((((ys++[q]).length:Int) - 1)).toNat q'=ys++[q']:=by
  intro q';have:((((ys++[q]).length:Int) - 1)).toNat=ys.length:=by simp
  rw [this,List.set_append_right _ _ (Nat.le_refl _)];simp
 have go:∀ (xs':List jP) (vis':List yM),Stk cs xs'->vis'.length<=200->Jst cs p xs'.reverse=J cs p 0->wst cs xs'<wst cs (ys++[q])->next (xs',vis',5):=fun xs' vis' a b c d=>hn _ ⟨a,b,fun _=>c,fun hx=>absurd rfl hx⟩ (by simp only [if_true];omega)
 refine zi (fun hx=>?_) (fun hx=>?_)
 ·have e:q.xNext=((chn cs q.xChain.toNat).length:Int):=by simpa using hx
  have hs0:sfx cs q=[]:=List.drop_eq_nil_of_le (by omega);refine zl6 (by omega) (go ys vis hst.drop hvl ?_ ?_)
  ·simp only [Jst,hs0,jl,if_true] at hJ;exact hJ
  rw [zcO,hs0,zrv];omega
 have e:q.xNext≠((chn cs q.xChain.toNat).length:Int):=by simpa using hx
 have hlt:q.xNext.toNat<(chn cs q.xChain.toNat).length:=by omega
 obtain ⟨hr,hrc⟩:=hrv _ (List.getElem_mem hlt);have hmem:(chn cs q.xChain.toNat)[q.xNext.toNat]∈chn cs q.xChain.toNat:=List.getElem_mem hlt;have hok':okP cs ⟨q.xChain,q.xNext+1⟩:=⟨q0,q1,by simp only;omega,by simp only;omega⟩;have hs1:sfx cs q=(chn cs q.xChain.toNat)[q.xNext.toNat] :: sfx cs ⟨q.xChain,q.xNext+1⟩:=by
  unfold sfx;rw [List.drop_eq_getElem_cons hlt];simp only;rw [show (q.xNext+1).toNat=q.xNext.toNat+1 by omega]
 generalize hrr:(chn cs q.xChain.toNat)[q.xNext.toNat]=r at *
 have hw0:=zcO cs ys q;rw [hs1,zp8] at hw0;simp only [Jst,hs1,jl] at hJ;have hmv:Stk cs (ys++[⟨q.xChain,q.xNext+1⟩]):=hst.move hok' rfl;have hstay:∀ vis':List yM,vis'.length<=200->(if jl p (J cs p) (sfx cs ⟨q.xChain,q.xNext+1⟩)=5 then Jst cs p ys.reverse else jl p (J cs p) (sfx cs ⟨q.xChain,q.xNext+1⟩))=J cs p 0->next (ys++[⟨q.xChain,q.xNext+1⟩],vis',5):=by
  intro vis' hv' hj;refine go _ vis' hmv hv' ?_ ?_
  ·simp only [List.reverse_append,List.reverse_cons,List.reverse_nil,List.nil_append,List.singleton_append,Jst];exact hj
  rw [zcO,hw0];omega
 have ir:∀ (K:zo->Prop),K r->zE (chn cs q.xChain.toNat) q.xNext K:=fun K hK=>zq q.xNext.toNat (by omega) hlt (by rw [hrr];exact hK)
 refine zy (by omega) (by omega) (ir _ (zg0 (by have:=hr.1.2;omega) hr.1.1 ?_));rw [hset];refine zi (fun hx=>?_) (fun hx=>?_)
 ·have hf:ft r.xTests p=false:=by simpa using hx
  rw [hf] at hJ;exact hstay vis hvl (by simpa using hJ)
 have hf:ft r.xTests p=true:=by simpa using hx
 rw [hf] at hJ;simp only [if_true] at hJ;have core:∀ vis':List yM,vis'.length<=200->zE (chn cs q.xChain.toNat) q.xNext (fun e191=>uD e191 (fun r197=>xe.casesW r197 (fun x198=>Zq x198 (ys++[⟨q.xChain,q.xNext+1⟩]) vis' 5 (fun r202=>next (ys++[⟨q.xChain,q.xNext+1⟩],vis',r202))) (fun x199=>XT x199 (ys++[⟨q.xChain,q.xNext+1⟩]) vis' 5 (fun r203=>next (r203,vis',5))) (fun x200=>Xl (ub.mk ) (ys++[⟨q.xChain,q.xNext+1⟩]) vis' 5 (fun r206=>next (r206,vis',5))) (fun x201=>XV (yj.mk ) (ys++[⟨q.xChain,q.xNext+1⟩]) vis' 5 (fun _=>next (ys++[⟨q.xChain,q.xNext+1⟩],vis',5))))):=by
  intro vis' hv';refine ir _ ?_;have dec:∀ d:Int,d≠5->d=J cs p 0->next (ys++[⟨q.xChain,q.xNext+1⟩],vis',d):=fun d hd5 hd=>hn _ ⟨hmv,hv',fun e=>absurd e hd5,fun _=>hd⟩ (by simp only [if_neg hd5,if_true];omega)
  unfold uD;by_cases h1:r.xAction=1
  ·rw [if_pos h1] at hJ;refine zi (fun _=>?_) (fun hx=>by simp at hx;exact absurd h1 hx);dsimp only [xe.casesW];unfold Zq;exact zi (fun _=>dec 1 (by decide) (by simpa using hJ)) (fun hx=>by simp at hx)
  rw [if_neg h1] at hJ;refine zi (fun hx=>by simp at hx;exact absurd hx h1) (fun _=>?_);by_cases h2:r.xAction=2
  ·rw [if_pos h2] at hJ;refine zi (fun _=>?_) (fun hx=>by simp at hx;exact absurd h2 hx);dsimp only [xe.casesW];unfold Zq;exact zi (fun hx=>by simp at hx) (fun _=>dec 2 (by decide) (by simpa using hJ))
  rw [if_neg h2] at hJ;refine zi (fun hx=>by simp at hx;exact absurd hx h2) (fun _=>?_);by_cases h3:r.xAction=3
  ·have h4:r.xAction≠4:=by omega
   rw [if_neg h4,if_pos h3] at hJ;rw [if_pos h3] at hw0;refine zi (fun _=>?_) (fun hx=>by simp at hx;exact absurd h3 hx);dsimp only [xe.casesW];unfold XT jnW;have hch:=hr.2.2.2.1 h3;have hca:Ca cs q.xChain.toNat r.xChain.toNat:=zee hmem h3 hch.1;have hcl:r.xChain.toNat<cs.length:=by have:=hrc;omega
   refine jk (by simp;omega) (go _ vis' (hmv.push ⟨hch.1,hcl,by simp,by simp⟩ hca) hv' ?_ ?_)
   ·have hs2:sfx cs ⟨r.xChain,0⟩=chn cs r.xChain.toNat:=by simp [sfx]
    simp only [List.reverse_append,List.reverse_cons,List.reverse_nil,List.nil_append,List.singleton_append,List.cons_append,Jst,hs2];rw [← zn5 hcn hsf];by_cases hj5:J cs p r.xChain.toNat=5
    ·rw [if_pos hj5] at hJ ⊢;exact hJ
    rw [if_neg hj5] at hJ ⊢;rw [if_neg hj5] at hJ;exact hJ
   have hs2:sfx cs ⟨r.xChain,0⟩=chn cs r.xChain.toNat:=by simp [sfx]
   have hhh:Hh cs (jN cs) r.xChain.toNat:=ziP hsf q.xChain.toNat _ hca;rw [zcO,zcO,hs2,zlY hcn hhh,hw0];omega
  refine zi (fun hx=>by simp at hx;exact absurd hx h3) (fun _=>?_);by_cases h4:r.xAction=4
  ·rw [if_pos h4] at hJ;refine zi (fun _=>?_) (fun hx=>by simp at hx;exact absurd h4 hx);dsimp only [xe.casesW];unfold Xl;refine zl6 (by omega) (go ys vis' hst.drop hv' (by simpa using hJ) ?_);rw [hw0];omega
  rw [if_neg h4,if_neg h3] at hJ;refine zi (fun hx=>by simp at hx;exact absurd hx h4) (fun _=>?_);dsimp only [xe.casesW];unfold XV;exact hstay vis' hv' hJ
 refine zi (fun h2=>jk (by simp;omega) (core _ (by simp at h2 ⊢;omega))) (fun _=>core _ hvl)
theorem zjC {s:zB} {p:zZ} (hv:SV s) {O:Bool->Prop} (h:O (jdg s p)):YY s p O:=by
 unfold YY;refine zir (p:=p) hv (fun st vis=>?_);unfold jdg at h;show ifW _ _ _;refine zi (fun hx=>?_) (fun hx=>zi (fun hy=>?_) (fun hy=>?_))
 ·have e:J s.xChains p 0=1:=by simpa using hx
  rw [if_pos e] at h;exact h
 ·have e:J s.xChains p 0=2:=by simpa using hy
  rw [if_neg (by omega),if_pos e] at h;exact h
 have e1:¬ J s.xChains p 0=1:=by simpa using hx
 have e2:¬ J s.xChains p 0=2:=by simpa using hy
 rw [if_neg e1,if_neg e2] at h;exact h
theorem zaN {s:zB} {p:zZ} {O:Bool->Prop} (hb:Bd s) (h1:SV s->pv p->O (jdg s p)) (h2:¬ (SV s∧pv p)->O false):VK s p O:=by
 unfold VK jnW;refine yR hb (fun b hbv=>zi (fun hx=>zi (fun _=>h2 (fun hh=>?_)) (fun hy=>by simp at hy)) (fun hx=>ziw (zi (fun hy=>h2 (fun hh=>?_)) (fun hy=>?_))))
 ·rw [hbv.2 hh.1] at hx;cases hx
 ·rw [decide_eq_true hh.2] at hy;cases hy
 exact zjC (hbv.1 (by simpa using hx)) (h1 (hbv.1 (by simpa using hx)) (by simpa using hy))
end
section
open Go Go.Proofs
theorem zdt:∀ (l:List zk) (s:zk) (out:List zk) (pl:Bool),(zdi l s out pl).1.length+(if (zdi l s out pl).2.2 then 0 else 1)<=out.length+l.length+(if pl then 0 else 1)
 | [],s,out,pl=>by cases pl <;> simp [zdi]
 | x :: xs,s,out,pl=>by
  unfold zdi
  by_cases c1:x.xHi+1<s.xLo
  ·rw [if_pos c1]
   have:=zdt xs s (out++[x]) pl
   simp only [List.length_append,List.length_cons,List.length_nil] at this ⊢
   omega
  ·rw [if_neg c1]
   by_cases c2:s.xHi+1<x.xLo
   ·rw [if_pos c2]
    have:=zdt xs s ((if pl then out else out++[s])++[x]) true
    cases pl <;> simp only [List.length_append,List.length_cons,List.length_nil,Bool.false_eq_true,if_true,if_false] at this ⊢ <;> omega
   ·rw [if_neg c2]
    have:=zdt xs (zk.mk (min s.xLo x.xLo) (max s.xHi x.xHi)) out pl
    simp only [List.length_cons]
    omega
theorem znk (l:List zk) (s:zk):(ze8 l s).length<=l.length+1:=by
 have:=zdt l s [] false;unfold ze8;generalize zdi l s [] false=r at *
 obtain ⟨o,s',pl⟩:=r;cases pl <;> simp at this ⊢ <;> omega
theorem zf3:∀ (xs a:List zk),(xs.foldl ze8 a).length<=a.length+xs.length
 | [],a=>by simp
 | s :: xs,a=>by
  have h1:=zf3 xs (ze8 a s)
  have h2:=znk a s
  simp only [List.foldl_cons,List.length_cons]
  omega
theorem ziL {a:za}:F4 a↔le4 a 40:=⟨fun ⟨f0,f1,f2,f3⟩ f h0 h1=>by
 rcases zbm h0 h1 with rfl | rfl | rfl | rfl
 ·exact f0
 ·exact f1
 ·exact f2
 ·exact f3,zlz⟩
end
section
open Go Go.Proofs
def YN (bs:List za) (w:za):List za:=bs.flatMap (fun b=>if em4 (ym b w) then [] else [ym b w])
theorem zdb (l m:List za) (w:za):YN (l++m) w=YN l w++YN m w:=by simp [YN]
theorem ze5 (b w:za):YN [b] w=if em4 (ym b w) then [] else [ym b w]:=by simp [YN]
theorem zfe (bs:List za) (w:za):(YN bs w).length<=bs.length:=by
 induction bs with
 | nil=>simp [YN]
 | cons b bs ih =>
  rw [show b :: bs=[b]++bs from rfl,zdb,ze5,List.length_append,List.length_append];have:(if em4 (ym b w)=true then [] else [ym b w]:List za).length<=1:=by split <;> simp
  simp only [List.length_singleton];omega
theorem zjc {bs:List za} {w:za} (hb:aB bs) (hw:B4 w):aB (YN bs w):=fun c hc=>by
 obtain ⟨b,hb',hc⟩:=List.mem_flatMap.1 hc
 split at hc
 ·simp at hc
 ·rw [List.mem_singleton] at hc;subst hc;exact zkF (hb b hb') hw
theorem zbZ (bs:List za) (w:za):(ue bs w).length<=4 * bs.length:=by
 induction bs with
 | nil=>simp [ue]
 | cons b bs ih =>
  rw [show b :: bs=[b]++bs from rfl,YI,Vl,List.length_append,List.length_append];have:=zcN b w;simp only [List.length_singleton];omega
theorem zp3 {bs:List za} {w:za} (p:zZ):hbs (YN bs w) p↔hbs bs p∧hb4 w p:=by
 constructor
 ·rintro ⟨c,hc,k⟩;obtain ⟨b,hb',hc⟩:=List.mem_flatMap.1 hc;split at hc
  ·simp at hc
  rw [List.mem_singleton] at hc;subst hc;have:=(zeW b w p).1 k;exact ⟨⟨b,hb',this.1⟩,this.2⟩
 rintro ⟨⟨b,hb',k⟩,hw⟩;refine ⟨ym b w,List.mem_flatMap.2 ⟨b,hb',?_⟩,(zeW b w p).2 ⟨k,hw⟩⟩;split
 ·rename_i e;exact absurd ((zeW b w p).2 ⟨k,hw⟩) (zjW e p)
 simp
def dec (l:List za) (acc:Bool):List zr:=l.map (fun b=>⟨b,acc⟩)
abbrev UR:=Option (List za×List zr)
def url (call:Nat->List za->List zr->UR):List zo->List za->List za->List zr->UR
 | [],going,left,out=>if okR (left++going) then some (left++going,out) else none
 | r :: rs,going,left,out =>
  if okR (YN going (XE r.xTests))∧okR (ue going (XE r.xTests)) then
   if r.xAction=1∨r.xAction=2 then
    if (out++dec (YN going (XE r.xTests)) (decide (r.xAction=1))).length<=60 then url call rs (ue going (XE r.xTests)) left (out++dec (YN going (XE r.xTests)) (decide (r.xAction=1))) else none
   else if r.xAction=4 then url call rs (ue going (XE r.xTests)) (left++YN going (XE r.xTests)) out
   else if r.xAction=3 then
    match call r.xChain.toNat (YN going (XE r.xTests)) out with
    | none=>none
    | some (b,o)=>if okR (ue going (XE r.xTests)++b) then url call rs (ue going (XE r.xTests)++b) left o else none
   else if okR (ue going (XE r.xTests)++YN going (XE r.xTests)) then url call rs (ue going (XE r.xTests)++YN going (XE r.xTests)) left out else none
  else none
def uc (cs:List (List zo)):Nat->Nat->List za->List zr->UR
 | 0,_,_,_=>none
 | n+1,i,boxes,out=>url (uc cs n) (chn cs i) boxes [] out
theorem ziS {f g:Nat->List za->List zr->UR}:∀ {l:List zo},(∀ r,r∈l->r.xAction=3->∀ b o,f r.xChain.toNat b o=g r.xChain.toNat b o)->∀ going left out,url f l going left out=url g l going left out
 | [],_,_,_,_=>rfl
 | r :: l,h,going,left,out=>by
  have ih:=ziS (f:=f) (g:=g) (l:=l) (fun x hx=>h x (by simp [hx]))
  unfold url
  by_cases h3:r.xAction=3
  ·rw [h r (by simp) h3];simp only [ih]
  ·simp only [h3,if_false,ih]
theorem zmP {cs:List (List zo)} (hc:Cn cs):∀ {n i:Nat},Hh cs n i->∀ b o,uc cs (n+1) i b o=uc cs n i b o
 | 0,i,h,_,_=>h.elim
 | n+1,i,h,b,o=>ziS (fun r hr h3 b o=>zmP hc (h _ (zee hr h3 (hc i r hr h3))) b o) _ _ _
noncomputable def U (cs:List (List zo)) (i:Nat) (boxes:List za) (out:List zr):UR:=uc cs (jN cs+1) i boxes out
theorem zqr {cs:List (List zo)} (hc:Cn cs) (hs:∀ i,i<cs.length->Sf cs i) (i:Nat) (b:List za) (o:List zr):U cs i b o=url (U cs) (chn cs i) b [] o:=by
 unfold U;rw [← zmP hc (ziP hs i)];rfl
theorem zjz {call:Nat->List za->List zr->UR}:∀ {l:List zo} {going left:List za} {out:List zr},400<left.length->url call l going left out=none
 | [],going,left,out,h=>by
  unfold url
  rw [if_neg (fun q=>by have:=q.2;rw [List.length_append] at this;omega)]
 | r :: l,going,left,out,h=>by
  have ih:∀ {g o},url call l g left o=none:=zjz h
  have ih2:∀ {g m o},url call l g (left++m) o=none:=zjz (by rw [List.length_append];omega)
  unfold url
  simp only [ih,ih2]
  repeat' split
  all_goals rfl
theorem zds:okR []:=⟨zhk,by simp⟩
theorem znJ (w:za):YN [] w=[]:=rfl
theorem znx (w:za):ue [] w=[]:=rfl
theorem zov {cs:List (List zo)} (hc:Cn cs):∀ {n i:Nat},Hh cs n i->∀ {o:List zr},o.length<=60->uc cs n i [] o=some ([],o)
 | 0,i,h,_,_=>h.elim
 | n+1,i,h,o,ho=>by
  have key:∀ (l:List zo) (out:List zr),(∀ r,r∈l->r∈chn cs i)->out.length<=60->url (uc cs n) l [] [] out=some ([],out):=by
   intro l
   induction l with
   | nil=>intro out _ _;unfold url;rw [List.append_nil,if_pos zds]
   | cons r l ih =>
    intro out hl ho
    have ih':=ih out (fun x hx=>hl x (by simp [hx])) ho
    unfold url
    rw [znJ,znx,if_pos ⟨zds,zds⟩]
    have ed:∀ a,out++dec [] a=out:=fun a=>by simp [dec]
    split
    ·rw [ed,if_pos ho];exact ih'
    ·split
     ·exact ih'
     ·split
      ·rename_i h3
       have hr:=hl r (by simp)
       rw [zov hc (h _ (zee hr h3 (hc i r hr h3))) ho]
       simp only [List.append_nil,zds,if_true]
       exact ih'
      ·rw [List.append_nil,if_pos zds];exact ih'
  exact key _ _ (fun r hr=>hr) ho
theorem zsa {cs:List (List zo)} (hc:Cn cs) (hs:∀ i,i<cs.length->Sf cs i) (i:Nat) {o:List zr} (ho:o.length<=60):U cs i [] o=some ([],o):=zov hc (ziP hs i) ho
def Uok (r:UR):Prop:=∀ l o,r=some (l,o)->aB l∧okR l∧IV o∧o.length<=60
theorem zlV {l m:List zr} (h1:IV l) (h2:IV m):IV (l++m):=fun f hf=>(List.mem_append.1 hf).elim (h1 f) (h2 f)
theorem zlg {l:List za} {a:Bool} (h1:aB l) (h2:zbH l):IV (dec l a):=fun f hf=>by
 obtain ⟨b,hb,rfl⟩:=List.mem_map.1 hf
 exact ⟨h1 b hb,h2 b hb⟩
theorem zle:IV []:=fun f h=>by simp at h
theorem zke (l:List za) (a:Bool):(dec l a).length=l.length:=by simp [dec]
theorem zhQ {call:Nat->List za->List zr->UR} (hcall:∀ i b o,aB b->okR b->IV o->o.length<=60->Uok (call i b o)):∀ {l:List zo} {going left:List za} {out:List zr},(∀ r∈l,∀ t∈r.xTests,TV t)->aB going->aB left->IV out->out.length<=60->Uok (url call l going left out)
 | [],going,left,out,_,hg,hl,ho,h60=>by
  intro l o h
  unfold url at h
  split at h
  ·rename_i q
   injection h with h;injection h with h1 h2;subst h1 h2
   exact ⟨Vg.2 ⟨hl,hg⟩,q,ho,h60⟩
  ·cases h
 | r :: rs,going,left,out,ht,hg,hl,ho,h60=>by
  have hw:=zdy (ht r (by simp))
  have htr:∀ r∈rs,∀ t∈r.xTests,TV t:=fun x hx=>ht x (by simp [hx])
  have hfB:=zjc hg hw
  have hmB:=zbw hg hw
  intro l o h
  unfold url at h
  split at h
  ·rename_i q
   split at h
   ·split at h
    ·rename_i q2
     exact zhQ hcall htr hmB hl (zlV ho (zlg hfB q.1.1)) q2 l o h
    ·cases h
   ·split at h
    ·exact zhQ hcall htr hmB (Vg.2 ⟨hl,hfB⟩) ho h60 l o h
    ·split at h
     ·split at h
      ·cases h
      ·rename_i b o' hb
       obtain ⟨c1,c2,c3,c4⟩:=hcall _ _ _ hfB q.1 ho h60 _ _ hb
       split at h
       ·exact zhQ hcall htr (Vg.2 ⟨hmB,c1⟩) hl c3 c4 l o h
       ·cases h
     ·split at h
      ·exact zhQ hcall htr (Vg.2 ⟨hmB,hfB⟩) hl ho h60 l o h
      ·cases h
  ·cases h
def TVs (cs:List (List zo)):Prop:=∀ c∈cs,∀ r∈c,∀ t∈r.xTests,TV t
theorem TVs.chn {cs:List (List zo)} (h:TVs cs) (i:Nat):∀ r∈chn cs i,∀ t∈r.xTests,TV t:=by
 unfold Go.Proofs.YtgpdnnhmndlljaaGreatDoor.chn;cases e:cs[i]? with
 | none=>simp
 | some c=>exact h c (List.mem_of_getElem? e)
theorem SV.tvs {s:zB} (h:SV s):TVs s.xChains:=fun c hc r hr=>((h.1.2 c hc).2 r hr).1.1.1
theorem zqn {cs:List (List zo)} (ht:TVs cs):∀ n i b o,aB b->okR b->IV o->o.length<=60->Uok (uc cs n i b o)
 | 0,i,b,o,_,_,_,_=>fun l o h=>by cases h
 | n+1,i,b,o,hb,hk,ho,h60=>zhQ (zqn ht n) (ht.chn i) hb (fun c hc=>by simp at hc) ho h60
theorem zrz {cs:List (List zo)} (ht:TVs cs) (i:Nat) {b:List za} {o:List zr} (hb:aB b) (hk:okR b) (ho:IV o) (h60:o.length<=60):Uok (U cs i b o):=zqn ht _ i b o hb hk ho h60
end
section
open Go Go.Proofs
theorem zaa {cs:List (List zo)} {fl:List zr} {over:Bool} {bs:List za} {O:List za×Bool->Prop} (h1:400<bs.length->O (bs,true)) (h2:bs.length<=400->O (bs,over)):xx cs fl over bs O:=by
 unfold xx;exact xp (zi (fun e=>h1 (by simp at e;omega)) (fun e=>h2 (by simp at e;omega)))
theorem zqQ {n:Int} (h0:0<=n) (h1:n<=4294967296) {O:List za->Prop} (h:O []):yp [] n O:=⟨rfl,h0,h1,h⟩
theorem zeA {x y:List za} (hx:x.length<=1000000) (hy:y.length<=1000000) {O:List za->Prop} (h:O (x++y)):xm [x,y] O:=by
 unfold xm;refine ⟨3,?_⟩;refine jz (zq 0 rfl (by simp) (zy (by first | (simp;done) | (simp;omega)) (by first | (simp;done) | (simp;omega)) (zi (fun e=>by have:=of_decide_eq_true e;omega) (fun _=>zy (by omega) (by omega) ?_))));refine jz (zq 1 rfl (by simp) (zy (by first | (simp;done) | (simp;omega)) (by first | (simp;done) | (simp;omega)) (zi (fun e=>by have:=of_decide_eq_true e;omega) (fun _=>zy (by omega) (by omega) ?_))));refine jT (zqQ (by simp;omega) (by simp;omega) ⟨3,?_⟩);refine jz (zq 0 rfl (by simp) (jk (by simp;omega) (zy (by omega) (by omega) ?_)));refine jz (zq 1 rfl (by simp) (jk (by simp;omega) (zy (by omega) (by omega) ?_)));exact jT h
theorem zoC {cs:List (List zo)} {fl:List zr} {bs:List za} {w:za} (hB:aB bs) (hF:zbH bs) (hl:bs.length<=400) (hw:B4 w) {O:List za×List za×Bool->Prop}
  (h1:okR (YN bs w)->okR (ue bs w)->O (YN bs w,ue bs w,false)) (h2:¬ (okR (YN bs w)∧okR (ue bs w))->∀ x y,O (x,y,true)):ZT cs fl false bs w O:=by
 unfold ZT;refine zQ bs.length (fun s=>s.2.2) (fun k (s:List za×List za×Int)=>s.2.2=(k:Int)∧k<=bs.length∧s.1=YN (bs.take k) w∧s.2.1=ue (bs.take k) w∧zbH (YN (bs.take k) w)∧zbH (ue (bs.take k) w)) (fun k s h=>h.1) (fun k s h=>h.2.1) ?_ ⟨rfl,by omega,by simp [YN],by simp [ue],by simp [YN,zbH],by simp [ue,zbH]⟩;rintro k ⟨_,_,_⟩ next ⟨rfl,hk,hx,hy,hfx,hfy⟩ hn;simp only at hx hy;subst hx hy;refine zi (fun hc=>?_) (fun hc=>?_)
 ·have hlt:k<bs.length:=by simpa using hc
  have hbB:=hB _ (List.getElem_mem hlt);have hbF:=hF _ (List.getElem_mem hlt);have hs:bs=bs.take k++(bs[k] :: bs.drop (k+1)):=by rw [← List.drop_eq_getElem_cons hlt,List.take_append_drop]
  have hfl:=zfe (bs.take k) w;have hml:=zbZ (bs.take k) w;rw [List.length_take] at hfl hml;refine zq k rfl hlt (xp ?_);have ef:YN (bs.take (k+1)) w=YN (bs.take k) w++(if em4 (ym bs[k] w) then [] else [ym bs[k] w]):=by
   rw [List.take_succ_eq_append_getElem hlt,zdb,ze5]
  have em:ue (bs.take (k+1)) w=ue (bs.take k) w++UD bs[k] w:=by
   rw [List.take_succ_eq_append_getElem hlt,YI,Vl]
  have second:∀ xs,xs=YN (bs.take (k+1)) w->zbH xs->Ze bs[k] w (fun (r286,r289)=>ifW (!r289) (O ([],[],true)) (jQ (ue (bs.take k) w) r286 (fun _=>je (k:Int) 1 (fun t294=>next (xs,((ue (bs.take k) w)++r286),t294))))):=by
   rintro _ rfl hxf;refine zhg hbB hw hbF ?_;by_cases hFc:∀ c∈UD bs[k] w,F4 c
   ·rw [show zhc bs[k] w=(UD bs[k] w,true) from if_pos hFc];have:=zcN bs[k] w;refine jT (jk (by omega) (zy (by omega) (by omega) (hn hlt _ ⟨by simp,by omega,rfl,em.symm,hxf,?_⟩)));rw [em];exact ZO.2 ⟨hfy,hFc⟩
   rw [show zhc bs[k] w=([],false) from if_neg hFc];refine jz (h2 (fun q=>hFc ?_) _ _);have:=q.2.1;rw [hs,YI,show bs[k] :: bs.drop (k+1)=[bs[k]]++bs.drop (k+1) from rfl,YI,Vl] at this;exact (ZO.1 (ZO.1 this).2).1
  refine ziF hbB hw (zi (fun e=>?_) (fun e=>?_))
  ·have e':em4 (ym bs[k] w)=false:=by simpa using e
   refine zpr hbB hw ?_;by_cases hm:F4 (ym bs[k] w)
   ·rw [show zoP (ym bs[k] w)=(ym bs[k] w,true) from if_pos hm];refine jT (jk (by simp;omega) (second _ ?_ ?_))
    ·rw [ef,e'];simp
    refine ZO.2 ⟨hfx,fun c hc=>?_⟩;rw [List.mem_singleton] at hc;subst hc;exact hm
   rw [show zoP (ym bs[k] w)=(zfL,false) from if_neg hm];refine jz (h2 (fun q=>hm ?_) _ _);have:=q.1.1;rw [hs,zdb,show bs[k] :: bs.drop (k+1)=[bs[k]]++bs.drop (k+1) from rfl,zdb,ze5,e'] at this;exact (ZO.1 (ZO.1 this).2).1 _ (by simp)
  have e':em4 (ym bs[k] w)=true:=by simpa using e
  refine second _ ?_ hfx;rw [ef,e'];simp
 have hge:bs.length<=k:=by simpa using hc
 rw [List.take_of_length_le hge] at hfx hfy ⊢;refine zaa (fun q1=>?_) (fun q1=>?_)
 ·have no:¬ (okR (YN bs w)∧okR (ue bs w)):=fun q=>by have:=q.1.2;omega
  exact zaa (fun _=>h2 no _ _) (fun _=>h2 no _ _)
 refine zaa (fun q2=>?_) (fun q2=>h1 ⟨hfx,q1⟩ ⟨hfy,q2⟩);exact h2 (fun q=>by have:=q.2.2;omega) _ _
def Cw (o:UR) (O:List za×List zr×Bool->Prop):Prop:=match o with | some (l,out)=>O (l,out,false) | none=>∀ l out,l.length<=10000->O (l,out,true)
theorem zpL {l:List za} {o:List zr} {O:List za×List zr×Bool->Prop} (h:O (l,o,false)):Cw (some (l,o)) O:=h
theorem zlh {d:yh} {cs:List (List zo)} {fl:List zr} {x fit miss:List za} (hf:fl.length<=60) (hl:fit.length<=400) {O:List za×List zr×Bool->Prop} (h1:60<(fl++dec fit d.xAccept).length->O (miss,fl++dec fit d.xAccept,true)) (h2:(fl++dec fit d.xAccept).length<=60->O (miss,fl++dec fit d.xAccept,false)):yJ d cs fl false x fit miss O:=by
 unfold yJ;refine zQ fit.length (fun s=>s.2) (fun k (s:List zr×Int)=>s.2=(k:Int)∧k<=fit.length∧s.1=fl++dec (fit.take k) d.xAccept) (fun k s h=>h.1) (fun k s h=>h.2.1) ?_ ⟨rfl,by omega,by simp [dec]⟩;rintro k ⟨_,_⟩ next ⟨rfl,hk,hx⟩ hn;simp only at hx;subst hx;have hln:(fl++dec (fit.take k) d.xAccept).length<=460:=by rw [List.length_append,zke,List.length_take];omega
 refine zi (fun hc=>?_) (fun hc=>?_)
 ·have hlt:k<fit.length:=by simpa using hc
  refine zq k rfl hlt (xp (jk (by simp only [List.length_singleton];omega) (zy (by omega) (by omega) (hn hlt _ ⟨by simp,by omega,?_⟩))));unfold dec;rw [List.take_succ_eq_append_getElem hlt,List.map_append,← List.append_assoc];rfl
 have hge:fit.length<=k:=by simpa using hc
 rw [List.take_of_length_le hge];exact xp (zi (fun e=>h1 (by simp at e;simp;omega)) (fun e=>h2 (by simp at e;simp;omega)))
theorem zcu {x:yh} {p0:yh->Prop} {p1:Xi->Prop} {p2:ub->Prop} {p3:yj->Prop} (h:p0 x):xe.casesW (.kDeciding x) p0 p1 p2 p3:=h
theorem zhv {x:Xi} {p0:yh->Prop} {p1:Xi->Prop} {p2:ub->Prop} {p3:yj->Prop} (h:p1 x):xe.casesW (.kCalling x) p0 p1 p2 p3:=h
theorem zf1 {x:ub} {p0:yh->Prop} {p1:Xi->Prop} {p2:ub->Prop} {p3:yj->Prop} (h:p2 x):xe.casesW (.kReturning x) p0 p1 p2 p3:=h
theorem zhA {x:yj} {p0:yh->Prop} {p1:Xi->Prop} {p2:ub->Prop} {p3:yj->Prop} (h:p3 x):xe.casesW (.kPassing x) p0 p1 p2 p3:=h
theorem zoE {cs:List (List zo)} (hcn:Cn cs) (hs:∀ i,i<cs.length->Sf cs i) (hc5:∀ c∈cs,c.length<=8∧∀ r∈c,TsV r.xTests∧(r.xAction=3->0<=r.xChain∧r.xChain<cs.length)):∀ (n i:Nat) (boxes:List za) (out:List zr) (O:List za×List zr×Bool->Prop),Hh cs n i->i<cs.length->aB boxes->okR boxes->IV out->out.length<=60->Cw (U cs i boxes out) O->uQ n cs out false i boxes O:=by
 have htv:TVs cs:=fun c hc r hr=>((hc5 c hc).2 r hr).1.1
 intro n;induction n with
 | zero=>intro i boxes out O h;exact h.elim
 | succ n ih =>
  intro i boxes out O hh hi hB hO hIV h60 h;show Xm (uQ n) cs out false i boxes O;unfold Xm;refine zi (fun e=>?_) (fun e=>?_)
  ·have:boxes=[]:=by
    have:(boxes.length:Int)=0:=of_decide_eq_true e;exact List.length_eq_zero_iff.1 (by omega)
   subst this;rw [zsa hcn hs i h60] at h;exact h
  clear e;obtain ⟨h8,hrv⟩:=hc5 _ (List.getElem_mem hi);rw [zqr hcn hs i,ze2 hi] at h;have hci:=ze2 hi;refine zq i rfl hi ?_;generalize hcc:cs[i]=c at *
  generalize hT:url (U cs) c boxes [] out=T at *
  refine zQ c.length (fun s=>s.2.2.2.2) (fun k (s:List za×List zr×Bool×List za×Int)=>s.2.2.2.2=(k:Int)∧k<=c.length∧s.2.2.1=false∧(aB s.1∧zbH s.1∧s.1.length<=400 * k)∧(IV s.2.1∧s.2.1.length<=60)∧(aB s.2.2.2.1∧okR s.2.2.2.1)∧T=url (U cs) (c.drop k) s.2.2.2.1 s.1 s.2.1) (fun k s h=>h.1) (fun k s h=>h.2.1) ?_ ⟨rfl,by omega,rfl,⟨zjZ,zhk,by simp⟩,⟨hIV,h60⟩,⟨hB,hO⟩,hT.symm⟩;rintro k ⟨left,fls,_,going,_⟩ next ⟨rfl,hk,rfl,⟨hlB,hlF,hll⟩,⟨hfI,hf60⟩,⟨hgB,hgO⟩,he⟩ hn;simp only at hlB hlF hll hfI hf60 hgB hgO he;have hl4:left.length<=3200:=by omega
  have hg4:=hgO.2;refine zi (fun hc=>?_) (fun hc=>?_)
  ·have hlt:k<c.length:=by simpa using hc
   obtain ⟨hts,hcall⟩:=hrv _ (List.getElem_mem hlt);rw [List.drop_eq_getElem_cons hlt] at he;unfold url at he;refine xp (zq k rfl hlt (zjq hts ?_));have hw:=zdy hts.1;have hm:c[k]∈c:=List.getElem_mem hlt;have hmc:c[k]∈chn cs i:=by rw [hci];exact hm
   generalize c[k]=r at *
   have hfB:=zjc hgB hw;have hmB:=zbw hgB hw;have hfl:=zfe going (XE r.xTests);have hml:=zbZ going (XE r.xTests);refine zoC hgB hgO.1 hg4 hw (fun o1 o2=>jT ?_) (fun q x y=>jz ?_);rotate_left
   ·rw [if_neg q] at he;rw [he] at h;exact h _ _ (by simp)
   rw [if_pos ⟨o1,o2⟩] at he;generalize YN going (XE r.xTests)=fit at *
   generalize ue going (XE r.xTests)=miss at *
   have stop:∀ o,T=none->O ([],o,true):=fun o q=>by rw [q] at h;exact h _ _ (by simp)
   have go:∀ left' fls' going',(aB left'∧zbH left'∧left'.length<=400 * (k+1))->(IV fls'∧fls'.length<=60)->(aB going'∧okR going')->T=url (U cs) (c.drop (k+1)) going' left' fls'->je (k:Int) 1 (fun t183=>next (left',fls',false,going',t183)):=fun left' fls' going' a1 a2 a3 a4=>zy (by omega) (by omega) (hn hlt _ ⟨by simp,by omega,rfl,a1,a2,a3,a4⟩)
   have decide12:∀ a:Bool,(r.xAction=1∨r.xAction=2)->a=decide (r.xAction=1)->yJ (yh.mk a) cs fls false left fit miss (fun (r68,r71,r74)=>xx cs r71 r74 r68 (fun (r75,r78)=>ifW r78 (O ([],r71,r78)) (je (k:Int) 1 (fun t183=>next (left,r71,r78,r75,t183))))):=by
    intro a ha hq;subst hq;rw [if_pos ha] at he;refine zlh hf60 o1.2 (fun q=>?_) (fun q=>?_)
    ·have q':60<(fls++dec fit (decide (r.xAction=1))).length:=q;rw [if_neg (by omega)] at he;exact zaa (fun _=>jz (stop _ he)) (fun _=>jz (stop _ he))
    rw [if_pos q] at he;refine zaa (fun q2=>absurd q2 (by have:=o2.2;omega)) (fun _=>jT ?_);exact go _ _ _ ⟨hlB,hlF,by omega⟩ ⟨zlV hfI (zlg hfB o1.1),q⟩ ⟨hmB,o2⟩ he
   unfold uD;refine zi (fun e=>zcu (decide12 true (.inl (of_decide_eq_true e)) (by rw [e]))) (fun e=>?_);have n1:¬ r.xAction=1:=of_decide_eq_false e;refine zi (fun e2=>zcu (decide12 false (.inr (of_decide_eq_true e2)) (by rw [e]))) (fun e2=>?_);have n2:¬ r.xAction=2:=of_decide_eq_false e2;rw [if_neg (fun q=>q.elim n1 n2)] at he;refine zi (fun e3=>?_) (fun e3=>?_)
   ·have h3:r.xAction=3:=of_decide_eq_true e3;rw [if_neg (by omega),if_pos h3] at he;obtain ⟨c0,c1⟩:=hcall h3;obtain ⟨j,hj⟩:=Int.eq_ofNat_of_zero_le c0;refine zhv ?_;unfold YK;have hca:=zee hmc h3 c0;rw [hj] at he hca c1 ⊢;refine ih j fit fls _ (hh j (by simpa using hca)) (by omega) hfB o1 hfI hf60 ?_;have hj':((j:Int)).toNat=j:=by simp
    rw [hj'] at he;cases hU:U cs j fit fls with
    | none =>
     rw [hU] at he;intro l o hl;exact zeA (by have:=o2.2;omega) (by omega) (zaa (fun _=>jz (stop _ he)) (fun _=>jz (stop _ he)))
    | some bo =>
     obtain ⟨b,o⟩:=bo;rw [hU] at he;obtain ⟨u1,u2,u3,u4⟩:=zrz htv j hfB o1 hfI hf60 _ _ hU;simp only at he;refine zpL ?_;refine zeA (by have:=o2.2;omega) (by have:=u2.2;omega) (zaa (fun q=>jz (stop _ ?_)) (fun q=>jT ?_))
     ·rw [if_neg (fun q2=>by have:=q2.2;omega)] at he;exact he
     have ok:okR (miss++b):=⟨ZO.2 ⟨o2.1,u2.1⟩,q⟩;rw [if_pos ok] at he;exact go _ _ _ ⟨hlB,hlF,by omega⟩ ⟨u3,u4⟩ ⟨Vg.2 ⟨hmB,u1⟩,ok⟩ he
   have n3:¬ r.xAction=3:=of_decide_eq_false e3;refine zi (fun e4=>?_) (fun e4=>?_)
   ·have h4:r.xAction=4:=of_decide_eq_true e4;rw [if_pos h4] at he;refine zf1 ?_;unfold Yc;have:=o1.2;refine jk (by omega) (zaa (fun q=>absurd q (by have:=o2.2;omega)) (fun _=>jT ?_));exact go _ _ _ ⟨Vg.2 ⟨hlB,hfB⟩,ZO.2 ⟨hlF,o1.1⟩,by rw [List.length_append];omega⟩ ⟨hfI,hf60⟩ ⟨hmB,o2⟩ he
   have n4:¬ r.xAction=4:=of_decide_eq_false e4;rw [if_neg n4,if_neg n3] at he;refine zhA ?_;unfold YL;have:=o1.2;refine zeA (by have:=o2.2;omega) (by omega) (zaa (fun q=>jz (stop _ ?_)) (fun q=>jT ?_))
   ·rw [if_neg (fun q2=>by have:=q2.2;omega)] at he;exact he
   have ok:okR (miss++fit):=⟨ZO.2 ⟨o2.1,o1.1⟩,q⟩;rw [if_pos ok] at he;exact go _ _ _ ⟨hlB,hlF,by omega⟩ ⟨hfI,hf60⟩ ⟨Vg.2 ⟨hmB,hfB⟩,ok⟩ he
  have hge:c.length<=k:=by simpa using hc
  rw [List.drop_of_length_le hge] at he;unfold url at he;rw [he] at h;refine zeA (by omega) (by omega) (zaa (fun q=>?_) (fun q=>?_))
  ·rw [if_neg (fun q2=>by have:=q2.2;omega)] at h;exact h _ _ (by rw [List.length_append];omega)
  rw [if_pos ⟨ZO.2 ⟨hlF,hgO.1⟩,q⟩] at h;exact h
noncomputable def uf (s:zB):Option (List zr):=(U s.xChains 0 [zcJ] []).map (·.2)
theorem SV.c5 {s:zB} (h:SV s):∀ c∈s.xChains,c.length<=8∧∀ r∈c,TsV r.xTests∧(r.xAction=3->0<=r.xChain∧r.xChain<s.xChains.length):=fun c hc=>⟨(h.1.2 c hc).1,fun r hr=>⟨((h.1.2 c hc).2 r hr).1.1,fun h3=>⟨(((h.1.2 c hc).2 r hr).1.2.2.2.1 h3).1,((h.1.2 c hc).2 r hr).2⟩⟩⟩
theorem zhx:okR [zcJ]:=⟨fun c hc=>by
 rw [List.mem_singleton] at hc;subst hc
 exact zlz (fun f h0 h1=>by have:=zj2 f h0 h1;omega),by simp⟩
theorem zgJ:aB [zcJ]:=fun c hc=>by rw [List.mem_singleton] at hc;subst hc;exact zjK
end
end Go.Proofs.YtgpdnnhmndlljaaGreatDoor
