import Derived.Test.YtgpdnnhmndlljaaGreatDoorMP1
set_option linter.unusedSimpArgs false
set_option linter.unusedVariables false
set_option linter.unusedSectionVars false
namespace Go.Proofs.YtgpdnnhmndlljaaGreatDoor
section
open Go Go.Proofs
theorem zfa {b:List UInt8} {p tp:Int} (hb:b.length≤2000) (h0:0≤p) (hp:p≤800000) (ht0:7≤tp) (ht:tp≤65535) {κ:List zd×Int→Prop} (h:∀ l p',p≤p'→p'≤p+101→l.length≤5→(∀ s∈l,SpW tp s)→κ (l,p')):XB b p tp 0 κ:=by
 have rd:∀ p',p≤p'→p'≤p+300→RdP b p':=fun p' a c=>⟨hb,by omega,by omega⟩
 unfold XB
 refine uG (rd p (by omega) (by omega)) (fun v a c=>?_)
 refine Zo (fun (s:Int×List zd×Int)=>0≤s.2.2∧s.2.2≤5∧p≤s.1∧s.1≤p+1+20 * (5 - s.2.2)∧s.2.1.length+s.2.2.toNat≤5∧∀ t,t∈s.2.1→SpW tp t) (fun s=>s.2.2.toNat) ?_ ⟨a,by simp only;omega,by simp only;omega,by simp only;omega,by simp only [List.length_nil];omega,by simp⟩
 rintro ⟨q,xs,k⟩ next ⟨k0,k1,q0,q1,hx,hvl⟩ hnx
 simp only at k0 k1 q0 q1 hx hvl
 refine zr (fun hc=>?_) (fun hc=>?_)
 ·simp at hc
  refine zbK hb (by omega) (by omega) ht0 ht (fun t p' g1 g2 tv=>jx (by simp;omega) (yP (by omega) (by omega) (hnx _ ⟨by simp only;omega,by simp only;omega,by simp only;omega,by simp only;omega,by simp;omega,fun y hy=>?_⟩ (by simp only;omega))))
  rcases List.mem_append.1 hy with hy | hy
  ·exact hvl y hy
  ·rw [List.mem_singleton] at hy;subst hy;exact tv
 ·simp at hc
  exact h _ _ (by omega) (by omega) (by omega) hvl
theorem zcF {b:List UInt8} {p tp:Int} (hb:b.length≤2000) (h0:0≤p) (hp:p≤800000) (ht0:7≤tp) (ht:tp≤65535) {κ:List zd×Int→Prop} (h:∀ l p',p≤p'→p'≤p+101→SpV l tp→κ (l,p')):ZB b p tp 0 κ:=by
 unfold ZB
 refine zfa hb h0 hp ht0 ht (fun l p' g1 g2 hl hs=>zaG (by omega) ht (by omega) hs (xx (zam (jO (h _ _ g1 g2 ⟨?_,zbl hs⟩)))))
 have:=Ue l []
 simp only [List.length_nil] at this
 omega
theorem ziz {a:za}:F4 a↔le4 a 40:=⟨fun ⟨f0,f1,f2,f3⟩ f h0 h1=>by
 rcases zcd h0 h1 with rfl | rfl | rfl | rfl
 ·exact f0
 ·exact f1
 ·exact f2
 ·exact f3,zaf⟩
theorem zfP {a:za} (hb:B4 a) (hf:F4 a) {f:Int} (h0:0≤f) (h1:f≤3) {x:List zd} (hx:SpV x (top f)):BV (bx (Yb a f x)) :=
 zdz.2 ⟨zez hb h0 h1 hx.2,zaf (zeW (ziz.1 hf) h0 h1 hx.1 (Nat.le_refl _))⟩
theorem zgU {ts:List zI} (h:TsV ts):BV (bx (uQ ts)):=by
 have hl:=h.2
 refine zdz.2 ⟨UG h.1,zaf (fun f h0 h1=>?_)⟩
 have:=zeU h.1 f h0 h1
 omega
theorem zfh {b:List UInt8} {p:Int} (hb:b.length≤2000) (h0:0≤p) (hp:p≤600000) {κ:xv×Int→Prop} (h:∀ x p',p≤p'→p'≤p+450→BV x→κ (x,p')):XC b p 0 κ:=by
 have rd:∀ p',p≤p'→p'≤p+1000→RdP b p':=fun p' a c=>⟨hb,by omega,by omega⟩
 unfold XC
 refine zdB hb h0 (by omega) (fun ts p1 g1 g2 hts=>zem hts (xx (uG (rd _ (by omega) (by omega)) (fun v a c=>?_))))
 have hv':=zgU hts
 have hB:=hv'.b4
 have hF:=hv'.f4
 rw [zf8] at hB hF
 refine zr (fun _=>?_) (fun _=>xx (zam (jO (h _ _ (by omega) (by omega) hv'))))
 refine uG (rd _ (by omega) (by omega)) (fun f a2 c2=>?_)
 have f3:f≤3:=by omega
 have tl:=X5 f
 refine xl a2 f3 (zcF hb (by omega) (by omega) tl.1 tl.2 (fun x p2 g3 g4 hx=>?_))
 refine Zp (a:=uQ ts) a2 f3 (xx (zam (jO ?_)))
 have e:(bx (uQ ts)).xSides.set f.toNat x=L4 (Yb (uQ ts) f x):=YI a2 f3
 rw [e]
 exact h _ _ (by omega) (by omega) (zfP hB hF a2 f3 hx)
theorem zdG {b:List UInt8} {p n:Int} (hb:b.length≤2000) (h0:0≤p) (hp:p≤500000) (hn:n≤4294967296) {κ:List z8×Int→Prop} (h:∀ l p',p≤p'→p'≤p+6100→l.length≤61→(∀ f∈l,Bb f.xWhere)→κ (l,p')):ZU b p n κ:=by
 have rd:∀ p',p≤p'→p'≤p+10000→RdP b p':=fun p' a c=>⟨hb,by omega,by omega⟩
 unfold ZU
 refine uG (rd p (by omega) (by omega)) (fun v a c=>?_)
 refine Zo (fun (s:Int×List z8×Int)=>0≤s.2.2∧s.2.2≤6∧p≤s.1∧s.1≤p+1+1000 * (6 - s.2.2)∧s.2.1.length+s.2.2.toNat≤6∧∀ f,f∈s.2.1→BV f.xWhere) (fun s=>s.2.2.toNat) ?_ ⟨a,by simp only;omega,by simp only;omega,by simp only;omega,by simp only [List.length_nil];omega,by simp⟩
 rintro ⟨q,xs,k⟩ next ⟨k0,k1,q0,q1,hx,hvl⟩ hnx
 simp only at k0 k1 q0 q1 hx hvl
 refine zr (fun hc=>?_) (fun hc=>?_)
 ·simp at hc
  refine zfh hb (by omega) (by omega) (fun x p1 g1 g2 bv=>uG (rd _ (by omega) (by omega)) (fun v2 a2 c2=>?_))
  have fin:∀ (p2:Int) (ys:List (List zd)) (acc:Bool),p1≤p2→p2≤p1+500→BV (xv.mk ys)→xu xs ([(z8.mk (xv.mk ys) acc)]) (fun _=>XK k 1 (fun t201=>next (p2,(xs++([(z8.mk (xv.mk ys) acc)])),t201))):=fun p2 ys acc e1 e2 bv2=>by
   refine jx (by simp;omega) (yP (by omega) (by omega) (hnx _ ⟨by simp only;omega,by simp only;omega,by simp only;omega,by simp only;omega,by simp;omega,fun y hy=>?_⟩ (by simp only;omega)))
   rcases List.mem_append.1 hy with hy | hy
   ·exact hvl y hy
   ·rw [List.mem_singleton] at hy;subst hy;exact bv2
  refine xx (xx (zr (fun e=>?_) (fun e=>?_)))
  ·refine uG (rd _ (by omega) (by omega)) (fun v3 a3 c3=>zr (fun e3=>?_) (fun e3=>fin _ _ _ (by omega) (by omega) bv))
   have hpos:0<xs.length:=by simpa using e
   refine yP (by omega) (by omega) (zt (xs.length - 1) (by omega) (by omega) ?_)
   have hlast:=hvl _ (List.getElem_mem (show xs.length - 1<xs.length by omega))
   generalize hz:xs[xs.length - 1]=z at *
   have hz4:=Vf hlast
   obtain ⟨bz,acz⟩:=z
   obtain ⟨az,rfl,hBz,hFz⟩:=hlast
   refine jx (by simp [bx]) (uG (rd _ (by omega) (by omega)) (fun f a4 c4=>?_))
   have f3:f≤3:=by omega
   have tl:=X5 f
   refine xl a4 f3 (zcF hb (by omega) (by omega) tl.1 tl.2 (fun x p2 g3 g4 hx=>?_))
   refine Zp (a:=az) a4 f3 (yP (by omega) (by omega) (zt (xs.length - 1) (by omega) (by omega) ?_))
   have e:List.set ([]++(bx az).xSides) f.toNat x=L4 (Yb az f x):=YI a4 f3
   rw [e]
   exact fin _ _ _ (by omega) (by omega) (zfP hBz hFz a4 f3 hx)
  ·exact jO (fin _ _ _ (by omega) (by omega) bv)
 ·simp at hc
  refine xx (zio (rd _ (by omega) (by omega)) hn (fun o p1 f1 f2=>zr (fun _=>?_) (fun _=>h _ _ (by omega) (by omega) (by omega) (fun f hf=>(hvl f hf).bb))))
  refine uG (rd _ (by omega) (by omega)) (fun v2 a2 c2=>zr (fun _=>?_) (fun _=>?_))
  ·refine jx (by simp;omega) (h _ _ (by omega) (by omega) (by simp;omega) (fun f hf=>?_))
   rcases List.mem_append.1 hf with hf | hf
   ·exact (hvl f hf).bb
   ·rw [List.mem_singleton] at hf;subst hf;exact ⟨by simp,by simp⟩
  ·refine Zo (fun (s:List z8)=>s.length≤61∧∀ f,f∈s→BV f.xWhere) (fun s=>61 - s.length) ?_ ⟨by omega,hvl⟩
   rintro ys next2 ⟨hy,hvy⟩ hnx2
   refine zr (fun e=>?_) (fun e=>h _ _ (by omega) (by omega) hy (fun f hf=>(hvy f hf).bb))
   have e':ys.length≤60:=by
    have:(ys.length:Int)≤60:=by simpa using e
    omega
   refine zdO (jx (by simp;omega) (hnx2 _ ⟨by simp;omega,fun f hf=>?_⟩ (by simp;omega)))
   rcases List.mem_append.1 hf with hf | hf
   ·exact hvy f hf
   ·rw [List.mem_singleton] at hf;subst hf;exact zdz.2 ⟨UH,zaf (fun f h0 h1=>by have:=Vr f h0 h1;omega)⟩
end
section
open Go Go.Proofs
def Z0 (bs:List za) (w:za):List za:=bs.flatMap (fun b=>if em4 (ut b w) then [] else [ut b w])
theorem zab (l m:List za) (w:za):Z0 (l++m) w=Z0 l w++Z0 m w:=by simp [Z0]
theorem zbV (b w:za):Z0 [b] w=if em4 (ut b w) then [] else [ut b w]:=by simp [Z0]
theorem zdC (bs:List za) (w:za):(Z0 bs w).length≤bs.length:=by
 induction bs with
 | nil=>simp [Z0]
 | cons b bs ih =>
  rw [show b :: bs=[b]++bs from rfl,zab,zbV,List.length_append,List.length_append]
  have:(if em4 (ut b w)=true then [] else [ut b w]:List za).length≤1:=by split <;> simp
  simp only [List.length_singleton];omega
theorem zd8 {bs:List za} {w:za} (hb:aB bs) (hw:B4 w):aB (Z0 bs w):=fun c hc=>by
 obtain ⟨b,hb',hc⟩:=List.mem_flatMap.1 hc
 split at hc
 ·simp at hc
 ·rw [List.mem_singleton] at hc;subst hc;exact zbF (hb b hb') hw
theorem zcp (bs:List za) (w:za):(xq bs w).length≤4 * bs.length:=by
 induction bs with
 | nil=>simp [xq]
 | cons b bs ih =>
  rw [show b :: bs=[b]++bs from rfl,Z1,XX,List.length_append,List.length_append]
  have:=zbB b w
  simp only [List.length_singleton];omega
theorem zg0 {bs:List za} {w:za} (p:z7):hbs (Z0 bs w) p↔hbs bs p∧hb4 w p:=by
 constructor
 ·rintro ⟨c,hc,k⟩
  obtain ⟨b,hb',hc⟩:=List.mem_flatMap.1 hc
  split at hc
  ·simp at hc
  ·rw [List.mem_singleton] at hc;subst hc
   have:=(Uk b w p).1 k
   exact ⟨⟨b,hb',this.1⟩,this.2⟩
 ·rintro ⟨⟨b,hb',k⟩,hw⟩
  refine ⟨ut b w,List.mem_flatMap.2 ⟨b,hb',?_⟩,(Uk b w p).2 ⟨k,hw⟩⟩
  split
  ·rename_i e;exact absurd ((Uk b w p).2 ⟨k,hw⟩) (zc0 e p)
  ·simp
def dec (l:List za) (acc:Bool):List zo:=l.map (fun b=>⟨b,acc⟩)
abbrev UR:=Option (List za×List zo)
def url (call:Nat→List za→List zo→UR):List zK→List za→List za→List zo→UR
 | [],going,left,out=>if okR (left++going) then some (left++going,out) else none
 | r :: rs,going,left,out =>
  if okR (Z0 going (uQ r.xTests))∧okR (xq going (uQ r.xTests)) then
   if r.xAction=1∨r.xAction=2 then
    if (out++dec (Z0 going (uQ r.xTests)) (decide (r.xAction=1))).length≤60 then url call rs (xq going (uQ r.xTests)) left (out++dec (Z0 going (uQ r.xTests)) (decide (r.xAction=1))) else none
   else if r.xAction=4 then url call rs (xq going (uQ r.xTests)) (left++Z0 going (uQ r.xTests)) out
   else if r.xAction=3 then
    match call r.xChain.toNat (Z0 going (uQ r.xTests)) out with
    | none=>none
    | some (b,o)=>if okR (xq going (uQ r.xTests)++b) then url call rs (xq going (uQ r.xTests)++b) left o else none
   else if okR (xq going (uQ r.xTests)++Z0 going (uQ r.xTests)) then url call rs (xq going (uQ r.xTests)++Z0 going (uQ r.xTests)) left out else none
  else none
def uc (cs:List (List zK)):Nat→Nat→List za→List zo→UR
 | 0,_,_,_=>none
 | n+1,i,boxes,out=>url (uc cs n) (chn cs i) boxes [] out
theorem zct {f g:Nat→List za→List zo→UR}:∀ {l:List zK},(∀ r,r∈l→r.xAction=3→∀ b o,f r.xChain.toNat b o=g r.xChain.toNat b o)→∀ going left out,url f l going left out=url g l going left out
 | [],_,_,_,_=>rfl
 | r :: l,h,going,left,out=>by
  have ih:=zct (f:=f) (g:=g) (l:=l) (fun x hx=>h x (by simp [hx]))
  unfold url
  by_cases h3:r.xAction=3
  ·rw [h r (by simp) h3];simp only [ih]
  ·simp only [h3,if_false,ih]
theorem zeu {cs:List (List zK)} (hc:Cn cs):∀ {n i:Nat},Hh cs n i→∀ b o,uc cs (n+1) i b o=uc cs n i b o
 | 0,i,h,_,_=>h.elim
 | n+1,i,h,b,o=>zct (fun r hr h3 b o=>zeu hc (h _ (zcP hr h3 (hc i r hr h3))) b o) _ _ _
noncomputable def U (cs:List (List zK)) (i:Nat) (boxes:List za) (out:List zo):UR:=uc cs (jN cs+1) i boxes out
theorem ziu {cs:List (List zK)} (hc:Cn cs) (hs:∀ i,i<cs.length→Sf cs i) (i:Nat) (b:List za) (o:List zo):U cs i b o=url (U cs) (chn cs i) b [] o:=by
 unfold U
 rw [← zeu hc (zeY hs i)]
 rfl
theorem VD:okR []:=⟨VA,by simp⟩
theorem zfs (w:za):Z0 [] w=[]:=rfl
theorem ze5 (w:za):xq [] w=[]:=rfl
theorem zgo {cs:List (List zK)} (hc:Cn cs):∀ {n i:Nat},Hh cs n i→∀ {o:List zo},o.length≤60→uc cs n i [] o=some ([],o)
 | 0,i,h,_,_=>h.elim
 | n+1,i,h,o,ho=>by
  have key:∀ (l:List zK) (out:List zo),(∀ r,r∈l→r∈chn cs i)→out.length≤60→url (uc cs n) l [] [] out=some ([],out):=by
   intro l
   induction l with
   | nil=>intro out _ _;unfold url;rw [List.append_nil,if_pos VD]
   | cons r l ih =>
    intro out hl ho
    have ih':=ih out (fun x hx=>hl x (by simp [hx])) ho
    unfold url
    rw [zfs,ze5,if_pos ⟨VD,VD⟩]
    have ed:∀ a,out++dec [] a=out:=fun a=>by simp [dec]
    split
    ·rw [ed,if_pos ho];exact ih'
    ·split
     ·exact ih'
     ·split
      ·rename_i h3
       have hr:=hl r (by simp)
       rw [zgo hc (h _ (zcP hr h3 (hc i r hr h3))) ho]
       simp only [List.append_nil,VD,if_true]
       exact ih'
      ·rw [List.append_nil,if_pos VD];exact ih'
  exact key _ _ (fun r hr=>hr) ho
theorem zir {cs:List (List zK)} (hc:Cn cs) (hs:∀ i,i<cs.length→Sf cs i) (i:Nat) {o:List zo} (ho:o.length≤60):U cs i [] o=some ([],o):=zgo hc (zeY hs i) ho
def Uok (r:UR):Prop:=∀ l o,r=some (l,o)→aB l∧okR l∧IV o∧o.length≤60
theorem zeh {l m:List zo} (h1:IV l) (h2:IV m):IV (l++m):=fun f hf=>(List.mem_append.1 hf).elim (h1 f) (h2 f)
theorem zek {l:List za} {a:Bool} (h1:aB l) (h2:Y7 l):IV (dec l a):=fun f hf=>by
 obtain ⟨b,hb,rfl⟩:=List.mem_map.1 hf
 exact ⟨h1 b hb,h2 b hb⟩
theorem zei:IV []:=fun f h=>by simp at h
theorem zdN (l:List za) (a:Bool):(dec l a).length=l.length:=by simp [dec]
theorem zbx {call:Nat→List za→List zo→UR} (hcall:∀ i b o,aB b→okR b→IV o→o.length≤60→Uok (call i b o)):∀ {l:List zK} {going left:List za} {out:List zo},(∀ r∈l,∀ t∈r.xTests,TV t)→aB going→aB left→IV out→out.length≤60→Uok (url call l going left out)
 | [],going,left,out,_,hg,hl,ho,h60=>by
  intro l o h
  unfold url at h
  split at h
  ·rename_i q
   injection h with h;injection h with h1 h2;subst h1 h2
   exact ⟨X1.2 ⟨hl,hg⟩,q,ho,h60⟩
  ·cases h
 | r :: rs,going,left,out,ht,hg,hl,ho,h60=>by
  have hw:=UG (ht r (by simp))
  have htr:∀ r∈rs,∀ t∈r.xTests,TV t:=fun x hx=>ht x (by simp [hx])
  have hfB:=zd8 hg hw
  have hmB:=UT hg hw
  intro l o h
  unfold url at h
  split at h
  ·rename_i q
   split at h
   ·split at h
    ·rename_i q2
     exact zbx hcall htr hmB hl (zeh ho (zek hfB q.1.1)) q2 l o h
    ·cases h
   ·split at h
    ·exact zbx hcall htr hmB (X1.2 ⟨hl,hfB⟩) ho h60 l o h
    ·split at h
     ·split at h
      ·cases h
      ·rename_i b o' hb
       obtain ⟨c1,c2,c3,c4⟩:=hcall _ _ _ hfB q.1 ho h60 _ _ hb
       split at h
       ·exact zbx hcall htr (X1.2 ⟨hmB,c1⟩) hl c3 c4 l o h
       ·cases h
     ·split at h
      ·exact zbx hcall htr (X1.2 ⟨hmB,hfB⟩) hl ho h60 l o h
      ·cases h
  ·cases h
def TVs (cs:List (List zK)):Prop:=∀ c∈cs,∀ r∈c,∀ t∈r.xTests,TV t
theorem TVs.chn {cs:List (List zK)} (h:TVs cs) (i:Nat):∀ r∈chn cs i,∀ t∈r.xTests,TV t:=by
 unfold Go.Proofs.YtgpdnnhmndlljaaGreatDoor.chn
 cases e:cs[i]? with
 | none=>simp
 | some c=>exact h c (List.mem_of_getElem? e)
theorem SV.tvs {s:jm} (h:SV s):TVs s.xChains:=fun c hc r hr=>((h.1.2 c hc).2 r hr).1.1.1
theorem zho {cs:List (List zK)} (ht:TVs cs):∀ n i b o,aB b→okR b→IV o→o.length≤60→Uok (uc cs n i b o)
 | 0,i,b,o,_,_,_,_=>fun l o h=>by cases h
 | n+1,i,b,o,hb,hk,ho,h60=>zbx (zho ht n) (ht.chn i) hb (fun c hc=>by simp at hc) ho h60
theorem ziE {cs:List (List zK)} (ht:TVs cs) (i:Nat) {b:List za} {o:List zo} (hb:aB b) (hk:okR b) (ho:IV o) (h60:o.length≤60):Uok (U cs i b o):=zho ht _ i b o hb hk ho h60
end
section
open Go Go.Proofs
theorem Xz {cs:List (List zK)} {fl:List zo} {over:Bool} {bs:List za} {κ:List za×Bool→Prop} (h1:400<bs.length→κ (bs,true)) (h2:bs.length≤400→κ (bs,over)):jz cs fl over bs κ:=by
 unfold jz
 exact xx (zr (fun e=>h1 (by simp at e;omega)) (fun e=>h2 (by simp at e;omega)))
theorem zh4 {n:Int} (h0:0≤n) (h1:n≤4294967296) {κ:List za→Prop} (h:κ []):xN [] n κ:=⟨rfl,h0,h1,h⟩
theorem V4 {x y:List za} (hx:x.length≤1000000) (hy:y.length≤1000000) {κ:List za→Prop} (h:κ (x++y)):jw [x,y] κ:=by
 unfold jw
 refine ⟨3,?_⟩
 refine jt (zt 0 rfl (by simp) (zG (by first | (simp;done) | (simp;omega)) (by first | (simp;done) | (simp;omega)) (zr (fun e=>by have:=of_decide_eq_true e;omega) (fun _=>zG (by omega) (by omega) ?_))))
 refine jt (zt 1 rfl (by simp) (zG (by first | (simp;done) | (simp;omega)) (by first | (simp;done) | (simp;omega)) (zr (fun e=>by have:=of_decide_eq_true e;omega) (fun _=>zG (by omega) (by omega) ?_))))
 refine jO (zh4 (by simp;omega) (by simp;omega) ⟨3,?_⟩)
 refine jt (zt 0 rfl (by simp) (jx (by simp;omega) (zG (by omega) (by omega) ?_)))
 refine jt (zt 1 rfl (by simp) (jx (by simp;omega) (zG (by omega) (by omega) ?_)))
 exact jO h
theorem zfK {cs:List (List zK)} {fl:List zo} {bs:List za} {w:za} (hB:aB bs) (hF:Y7 bs) (hl:bs.length≤400) (hw:B4 w) {κ:List za×List za×Bool→Prop}
  (h1:okR (Z0 bs w)→okR (xq bs w)→κ (Z0 bs w,xq bs w,false)) (h2:¬ (okR (Z0 bs w)∧okR (xq bs w))→∀ x y,κ (x,y,true)):uE cs fl false bs w κ:=by
 unfold uE
 refine jb bs.length (fun s=>s.2.2) (fun k (s:List za×List za×Int)=>s.2.2=(k:Int)∧k≤bs.length∧s.1=Z0 (bs.take k) w∧s.2.1=xq (bs.take k) w∧Y7 (Z0 (bs.take k) w)∧Y7 (xq (bs.take k) w)) (fun k s h=>h.1) (fun k s h=>h.2.1) ?_ ⟨rfl,by omega,by simp [Z0],by simp [xq],by simp [Z0,Y7],by simp [xq,Y7]⟩
 rintro k ⟨_,_,_⟩ next ⟨rfl,hk,hx,hy,hfx,hfy⟩ hn
 simp only at hx hy
 subst hx hy
 refine zr (fun hc=>?_) (fun hc=>?_)
 ·have hlt:k<bs.length:=by simpa using hc
  have hbB:=hB _ (List.getElem_mem hlt)
  have hbF:=hF _ (List.getElem_mem hlt)
  have hs:bs=bs.take k++(bs[k] :: bs.drop (k+1)):=by rw [← List.drop_eq_getElem_cons hlt,List.take_append_drop]
  have hfl:=zdC (bs.take k) w
  have hml:=zcp (bs.take k) w
  rw [List.length_take] at hfl hml
  refine zt k rfl hlt (xx ?_)
  have ef:Z0 (bs.take (k+1)) w=Z0 (bs.take k) w++(if em4 (ut bs[k] w) then [] else [ut bs[k] w]):=by
   rw [List.take_succ_eq_append_getElem hlt,zab,zbV]
  have em:xq (bs.take (k+1)) w=xq (bs.take k) w++XL bs[k] w:=by
   rw [List.take_succ_eq_append_getElem hlt,Z1,XX]
  have second:∀ xs,xs=Z0 (bs.take (k+1)) w→Y7 xs→un bs[k] w (fun (r286,r289)=>ifW (!r289) (κ ([],[],true)) (xu (xq (bs.take k) w) r286 (fun _=>jy (k:Int) 1 (fun t294=>next (xs,((xq (bs.take k) w)++r286),t294))))):=by
   rintro _ rfl hxf
   refine zbh hbB hw hbF ?_
   by_cases hFc:∀ c∈XL bs[k] w,F4 c
   ·rw [show zbX bs[k] w=(XL bs[k] w,true) from if_pos hFc]
    have:=zbB bs[k] w
    refine jO (jx (by omega) (zG (by omega) (by omega) (hn hlt _ ⟨by simp,by omega,rfl,em.symm,hxf,?_⟩)))
    rw [em];exact ym.2 ⟨hfy,hFc⟩
   ·rw [show zbX bs[k] w=([],false) from if_neg hFc]
    refine jt (h2 (fun q=>hFc ?_) _ _)
    have:=q.2.1
    rw [hs,Z1,show bs[k] :: bs.drop (k+1)=[bs[k]]++bs.drop (k+1) from rfl,Z1,XX] at this
    exact (ym.1 (ym.1 this).2).1
  refine zcB hbB hw (zr (fun e=>?_) (fun e=>?_))
  ·have e':em4 (ut bs[k] w)=false:=by simpa using e
   refine zg7 hbB hw ?_
   by_cases hm:F4 (ut bs[k] w)
   ·rw [show zf9 (ut bs[k] w)=(ut bs[k] w,true) from if_pos hm]
    refine jO (jx (by simp;omega) (second _ ?_ ?_))
    ·rw [ef,e'];simp
    ·refine ym.2 ⟨hfx,fun c hc=>?_⟩
     rw [List.mem_singleton] at hc;subst hc;exact hm
   ·rw [show zf9 (ut bs[k] w)=(zfb,false) from if_neg hm]
    refine jt (h2 (fun q=>hm ?_) _ _)
    have:=q.1.1
    rw [hs,zab,show bs[k] :: bs.drop (k+1)=[bs[k]]++bs.drop (k+1) from rfl,zab,zbV,e'] at this
    exact (ym.1 (ym.1 this).2).1 _ (by simp)
  ·have e':em4 (ut bs[k] w)=true:=by simpa using e
   refine second _ ?_ hfx
   rw [ef,e'];simp
 ·have hge:bs.length≤k:=by simpa using hc
  rw [List.take_of_length_le hge] at hfx hfy ⊢
  refine Xz (fun q1=>?_) (fun q1=>?_)
  ·have no:¬ (okR (Z0 bs w)∧okR (xq bs w)):=fun q=>by have:=q.1.2;omega
   exact Xz (fun _=>h2 no _ _) (fun _=>h2 no _ _)
  ·refine Xz (fun q2=>?_) (fun q2=>h1 ⟨hfx,q1⟩ ⟨hfy,q2⟩)
   exact h2 (fun q=>by have:=q.2.2;omega) _ _
def Cw (o:UR) (κ:List za×List zo×Bool→Prop):Prop:=match o with | some (l,out)=>κ (l,out,false) | none=>∀ l out,l.length≤10000→κ (l,out,true)
theorem zgG {l:List za} {o:List zo} {κ:List za×List zo×Bool→Prop} (h:κ (l,o,false)):Cw (some (l,o)) κ:=h
theorem zd0 {d:uq} {cs:List (List zK)} {fl:List zo} {x fit miss:List za} (hf:fl.length≤60) (hl:fit.length≤400) {κ:List za×List zo×Bool→Prop} (h1:60<(fl++dec fit d.xAccept).length→κ (miss,fl++dec fit d.xAccept,true)) (h2:(fl++dec fit d.xAccept).length≤60→κ (miss,fl++dec fit d.xAccept,false)):x8 d cs fl false x fit miss κ:=by
 unfold x8
 refine jb fit.length (fun s=>s.2) (fun k (s:List zo×Int)=>s.2=(k:Int)∧k≤fit.length∧s.1=fl++dec (fit.take k) d.xAccept) (fun k s h=>h.1) (fun k s h=>h.2.1) ?_ ⟨rfl,by omega,by simp [dec]⟩
 rintro k ⟨_,_⟩ next ⟨rfl,hk,hx⟩ hn
 simp only at hx
 subst hx
 have hln:(fl++dec (fit.take k) d.xAccept).length≤460:=by rw [List.length_append,zdN,List.length_take];omega
 refine zr (fun hc=>?_) (fun hc=>?_)
 ·have hlt:k<fit.length:=by simpa using hc
  refine zt k rfl hlt (xx (jx (by simp only [List.length_singleton];omega) (zG (by omega) (by omega) (hn hlt _ ⟨by simp,by omega,?_⟩))))
  unfold dec
  rw [List.take_succ_eq_append_getElem hlt,List.map_append,← List.append_assoc];rfl
 ·have hge:fit.length≤k:=by simpa using hc
  rw [List.take_of_length_le hge]
  exact xx (zr (fun e=>h1 (by simp at e;simp;omega)) (fun e=>h2 (by simp at e;simp;omega)))
theorem Y2 {x:uq} {p0:uq→Prop} {p1:Zf→Prop} {p2:um→Prop} {p3:yk→Prop} (h:p0 x):xY.casesW (.kDeciding x) p0 p1 p2 p3:=h
theorem zbu {x:Zf} {p0:uq→Prop} {p1:Zf→Prop} {p2:um→Prop} {p3:yk→Prop} (h:p1 x):xY.casesW (.kCalling x) p0 p1 p2 p3:=h
theorem zal {x:um} {p0:uq→Prop} {p1:Zf→Prop} {p2:um→Prop} {p3:yk→Prop} (h:p2 x):xY.casesW (.kReturning x) p0 p1 p2 p3:=h
theorem zbc {x:yk} {p0:uq→Prop} {p1:Zf→Prop} {p2:um→Prop} {p3:yk→Prop} (h:p3 x):xY.casesW (.kPassing x) p0 p1 p2 p3:=h
theorem zgv {cs:List (List zK)} (hcn:Cn cs) (hs:∀ i,i<cs.length→Sf cs i) (hc5:∀ c∈cs,c.length≤8∧∀ r∈c,TsV r.xTests∧(r.xAction=3→0≤r.xChain∧r.xChain<cs.length)):∀ (n i:Nat) (boxes:List za) (out:List zo) (κ:List za×List zo×Bool→Prop),Hh cs n i→i<cs.length→aB boxes→okR boxes→IV out→out.length≤60→Cw (U cs i boxes out) κ→xp n cs out false i boxes κ:=by
 have htv:TVs cs:=fun c hc r hr=>((hc5 c hc).2 r hr).1.1
 intro n
 induction n with
 | zero=>intro i boxes out κ h;exact h.elim
 | succ n ih =>
  intro i boxes out κ hh hi hB hO hIV h60 h
  show uP (xp n) cs out false i boxes κ
  unfold uP
  refine zr (fun e=>?_) (fun e=>?_)
  ·have:boxes=[]:=by
    have:(boxes.length:Int)=0:=of_decide_eq_true e
    exact List.length_eq_zero_iff.1 (by omega)
   subst this
   rw [zir hcn hs i h60] at h
   exact h
  clear e
  obtain ⟨h8,hrv⟩:=hc5 _ (List.getElem_mem hi)
  rw [ziu hcn hs i,ze1 hi] at h
  have hci:=ze1 hi
  refine zt i rfl hi ?_
  generalize hcc:cs[i]=c at *
  generalize hT:url (U cs) c boxes [] out=T at *
  refine jb c.length (fun s=>s.2.2.2.2) (fun k (s:List za×List zo×Bool×List za×Int)=>s.2.2.2.2=(k:Int)∧k≤c.length∧s.2.2.1=false∧(aB s.1∧Y7 s.1∧s.1.length≤400 * k)∧(IV s.2.1∧s.2.1.length≤60)∧(aB s.2.2.2.1∧okR s.2.2.2.1)∧T=url (U cs) (c.drop k) s.2.2.2.1 s.1 s.2.1) (fun k s h=>h.1) (fun k s h=>h.2.1) ?_ ⟨rfl,by omega,rfl,⟨zd2,VA,by simp⟩,⟨hIV,h60⟩,⟨hB,hO⟩,hT.symm⟩
  rintro k ⟨left,fls,_,going,_⟩ next ⟨rfl,hk,rfl,⟨hlB,hlF,hll⟩,⟨hfI,hf60⟩,⟨hgB,hgO⟩,he⟩ hn
  simp only at hlB hlF hll hfI hf60 hgB hgO he
  have hl4:left.length≤3200:=by omega
  have hg4:=hgO.2
  refine zr (fun hc=>?_) (fun hc=>?_)
  ·have hlt:k<c.length:=by simpa using hc
   obtain ⟨hts,hcall⟩:=hrv _ (List.getElem_mem hlt)
   rw [List.drop_eq_getElem_cons hlt] at he
   unfold url at he
   refine xx (zt k rfl hlt (zc8 hts ?_))
   have hw:=UG hts.1
   have hm:c[k]∈c:=List.getElem_mem hlt
   have hmc:c[k]∈chn cs i:=by rw [hci];exact hm
   generalize c[k]=r at *
   have hfB:=zd8 hgB hw
   have hmB:=UT hgB hw
   have hfl:=zdC going (uQ r.xTests)
   have hml:=zcp going (uQ r.xTests)
   refine zfK hgB hgO.1 hg4 hw (fun o1 o2=>jO ?_) (fun q x y=>jt ?_)
   rotate_left
   ·rw [if_neg q] at he
    rw [he] at h
    exact h _ _ (by simp)
   rw [if_pos ⟨o1,o2⟩] at he
   generalize Z0 going (uQ r.xTests)=fit at *
   generalize xq going (uQ r.xTests)=miss at *
   have stop:∀ o,T=none→κ ([],o,true):=fun o q=>by rw [q] at h;exact h _ _ (by simp)
   have go:∀ left' fls' going',(aB left'∧Y7 left'∧left'.length≤400 * (k+1))→(IV fls'∧fls'.length≤60)→(aB going'∧okR going')→T=url (U cs) (c.drop (k+1)) going' left' fls'→jy (k:Int) 1 (fun t183=>next (left',fls',false,going',t183)):=fun left' fls' going' a1 a2 a3 a4=>zG (by omega) (by omega) (hn hlt _ ⟨by simp,by omega,rfl,a1,a2,a3,a4⟩)
   have decide12:∀ a:Bool,(r.xAction=1∨r.xAction=2)→a=decide (r.xAction=1)→x8 (uq.mk a) cs fls false left fit miss (fun (r68,r71,r74)=>jz cs r71 r74 r68 (fun (r75,r78)=>ifW r78 (κ ([],r71,r78)) (jy (k:Int) 1 (fun t183=>next (left,r71,r78,r75,t183))))):=by
    intro a ha hq
    subst hq
    rw [if_pos ha] at he
    refine zd0 hf60 o1.2 (fun q=>?_) (fun q=>?_)
    ·have q':60<(fls++dec fit (decide (r.xAction=1))).length:=q
     rw [if_neg (by omega)] at he
     exact Xz (fun _=>jt (stop _ he)) (fun _=>jt (stop _ he))
    ·rw [if_pos q] at he
     refine Xz (fun q2=>absurd q2 (by have:=o2.2;omega)) (fun _=>jO ?_)
     exact go _ _ _ ⟨hlB,hlF,by omega⟩ ⟨zeh hfI (zek hfB o1.1),q⟩ ⟨hmB,o2⟩ he
   unfold XM
   refine zr (fun e=>Y2 (decide12 true (.inl (of_decide_eq_true e)) (by rw [e]))) (fun e=>?_)
   have n1:¬ r.xAction=1:=of_decide_eq_false e
   refine zr (fun e2=>Y2 (decide12 false (.inr (of_decide_eq_true e2)) (by rw [e]))) (fun e2=>?_)
   have n2:¬ r.xAction=2:=of_decide_eq_false e2
   rw [if_neg (fun q=>q.elim n1 n2)] at he
   refine zr (fun e3=>?_) (fun e3=>?_)
   ·have h3:r.xAction=3:=of_decide_eq_true e3
    rw [if_neg (by omega),if_pos h3] at he
    obtain ⟨c0,c1⟩:=hcall h3
    obtain ⟨j,hj⟩:=Int.eq_ofNat_of_zero_le c0
    refine zbu ?_
    unfold yI
    have hca:=zcP hmc h3 c0
    rw [hj] at he hca c1 ⊢
    refine ih j fit fls _ (hh j (by simpa using hca)) (by omega) hfB o1 hfI hf60 ?_
    have hj':((j:Int)).toNat=j:=by simp
    rw [hj'] at he
    cases hU:U cs j fit fls with
    | none =>
     rw [hU] at he
     intro l o hl
     exact V4 (by have:=o2.2;omega) (by omega) (Xz (fun _=>jt (stop _ he)) (fun _=>jt (stop _ he)))
    | some bo =>
     obtain ⟨b,o⟩:=bo
     rw [hU] at he
     obtain ⟨u1,u2,u3,u4⟩:=ziE htv j hfB o1 hfI hf60 _ _ hU
     simp only at he
     refine zgG ?_
     refine V4 (by have:=o2.2;omega) (by have:=u2.2;omega) (Xz (fun q=>jt (stop _ ?_)) (fun q=>jO ?_))
     ·rw [if_neg (fun q2=>by have:=q2.2;omega)] at he;exact he
     ·have ok:okR (miss++b):=⟨ym.2 ⟨o2.1,u2.1⟩,q⟩
      rw [if_pos ok] at he
      exact go _ _ _ ⟨hlB,hlF,by omega⟩ ⟨u3,u4⟩ ⟨X1.2 ⟨hmB,u1⟩,ok⟩ he
   ·have n3:¬ r.xAction=3:=of_decide_eq_false e3
    refine zr (fun e4=>?_) (fun e4=>?_)
    ·have h4:r.xAction=4:=of_decide_eq_true e4
     rw [if_pos h4] at he
     refine zal ?_
     unfold yg
     have:=o1.2
     refine jx (by omega) (Xz (fun q=>absurd q (by have:=o2.2;omega)) (fun _=>jO ?_))
     exact go _ _ _ ⟨X1.2 ⟨hlB,hfB⟩,ym.2 ⟨hlF,o1.1⟩,by rw [List.length_append];omega⟩ ⟨hfI,hf60⟩ ⟨hmB,o2⟩ he
    ·have n4:¬ r.xAction=4:=of_decide_eq_false e4
     rw [if_neg n4,if_neg n3] at he
     refine zbc ?_
     unfold yF
     have:=o1.2
     refine V4 (by have:=o2.2;omega) (by omega) (Xz (fun q=>jt (stop _ ?_)) (fun q=>jO ?_))
     ·rw [if_neg (fun q2=>by have:=q2.2;omega)] at he;exact he
     ·have ok:okR (miss++fit):=⟨ym.2 ⟨o2.1,o1.1⟩,q⟩
      rw [if_pos ok] at he
      exact go _ _ _ ⟨hlB,hlF,by omega⟩ ⟨hfI,hf60⟩ ⟨X1.2 ⟨hmB,hfB⟩,ok⟩ he
  ·have hge:c.length≤k:=by simpa using hc
   rw [List.drop_of_length_le hge] at he
   unfold url at he
   rw [he] at h
   refine V4 (by omega) (by omega) (Xz (fun q=>?_) (fun q=>?_))
   ·rw [if_neg (fun q2=>by have:=q2.2;omega)] at h
    exact h _ _ (by rw [List.length_append];omega)
   ·rw [if_pos ⟨ym.2 ⟨hlF,hgO.1⟩,q⟩] at h
    exact h
noncomputable def uf (s:jm):Option (List zo):=(U s.xChains 0 [Yv] []).map (·.2)
theorem SV.c5 {s:jm} (h:SV s):∀ c∈s.xChains,c.length≤8∧∀ r∈c,TsV r.xTests∧(r.xAction=3→0≤r.xChain∧r.xChain<s.xChains.length):=fun c hc=>⟨(h.1.2 c hc).1,fun r hr=>⟨((h.1.2 c hc).2 r hr).1.1,fun h3=>⟨(((h.1.2 c hc).2 r hr).1.2.2.2.1 h3).1,((h.1.2 c hc).2 r hr).2⟩⟩⟩
theorem zdf:okR [Yv]:=⟨fun c hc=>by
 rw [List.mem_singleton] at hc;subst hc
 exact zaf (fun f h0 h1=>by have:=Vr f h0 h1;omega),by simp⟩
theorem zda:aB [Yv]:=fun c hc=>by rw [List.mem_singleton] at hc;subst hc;exact UH
theorem zhi {s:jm} (h:SV s) {l:List zo} (he:uf s=some l):IV l∧l.length≤60:=by
 unfold uf at he
 cases hU:U s.xChains 0 [Yv] [] with
 | none=>rw [hU] at he;cases he
 | some bo =>
  obtain ⟨b,o⟩:=bo
  rw [hU] at he
  simp only [Option.map_some,Option.some.injEq] at he
  subst he
  have:=ziE h.tvs 0 zda zdf zei (by simp) _ _ hU
  exact ⟨this.2.2.1,this.2.2.2⟩
theorem zca {s:jm} (hv':SV s) {κ:List zo×Bool→Prop} (h1:∀ l,uf s=some l→κ (l,true)) (h2:uf s=none→∀ l,κ (l,false)):yu s κ:=by
 unfold yu
 refine Vm ⟨jN s.xChains+1,zgv hv'.cn hv'.2.2 hv'.c5 _ 0 _ _ _ (zeY hv'.2.2 0) hv'.2.1 zda zdf zei (by simp) ?_⟩
 unfold uf at h1 h2
 cases hU:U s.xChains 0 [Yv] [] with
 | none=>rw [hU] at h2;exact fun l o _=>h2 rfl o
 | some bo =>
  obtain ⟨b,o⟩:=bo
  rw [hU] at h1
  exact h1 o rfl
end
section
open Go Go.Proofs
def gf (f:zo):z8:=⟨bx f.xWhere,f.xAccept⟩
theorem zfj (l:List zo):(l.map gf).map fl=l:=by
 rw [List.map_map]
 exact List.map_id' l
theorem ziI {l:List zo} (h:IV l) (hl:l.length≤60):FV (l.map gf):=⟨by simpa using hl,fun f hf=>by
 obtain ⟨g,hg,rfl⟩:=List.mem_map.1 hf
 exact zdz.2 (h g hg)⟩
end
section
open Go Go.Proofs
theorem zed {l:List zo} (hl:l.length≤4294967296) (hv:IV l) {κ:List z8→Prop} (h:κ (l.map gf)):ZR l κ:=by
 unfold ZR
 refine Un 0 rfl (by omega) (by omega) ?_
 exact YJ l gf hl (fun x ψ=>yn x.xWhere (fun r=>ψ (z8.mk r x.xAccept))) (fun x ψ hx hψ=>zis (zii (hv x hx).2) hψ) h _ (fun nx xs t hh=>hh)
theorem U7 {s:jm} (hb:Bd s) {κ:List z8×Bool→Prop} (h1:SV s→∀ l,uf s=some l→κ (l.map gf,true)) (h2:(SV s→uf s=none)→κ ([],false)):XA s κ:=by
 unfold XA
 refine UX hb (fun b hbv=>zr (fun e=>h2 (fun q=>?_)) (fun e=>?_))
 ·rw [hbv.2 q] at e;cases e
 have hv:SV s:=hbv.1 (by simpa using e)
 refine zca hv (fun l hl=>jO ?_) (fun hn l=>jt (h2 (fun _=>hn)))
 obtain ⟨u1,u2⟩:=zhi hv hl
 exact zed (by omega) u1 (h1 hv l hl)
end
section
open Go Go.Proofs
def wdN (l:List zo):Nat→List zo
 | 0=>[]
 | k+1=>wdN l k++(match l[k]? with | some f=>if dd l k then [] else [f] | none=>[])
def wdF (l:List zo):List zo:=wdN l l.length
theorem zeJ {a:List zd} {t:Int} (h:St a t):a≠[]→∃ x,hv a x:=fun q=>by
 cases a with
 | nil=>exact absurd rfl q
 | cons s r=>exact ⟨s.xLo,(za3 h.1 (by simp)).1⟩
theorem zih {a:za}:em4 a=false↔a.x0≠[]∧a.x1≠[]∧a.x2≠[]∧a.x3≠[]:=by unfold em4;rw [decide_eq_false_iff_not];simp only [not_or,ne_eq]
def ziP (a b:za):List Nat:=(List.range 4).filter (fun n=>decide (uR a n≠uR b n))
def uni (a b:za) (n:Nat):List zd:=zhq (uR a n) (uR b n)
def mg (a b:za):Option za :=
 if in4 a b then some b else if in4 b a then some a else
 match ziP a b with
 | [n]=>if (uni a b n).length≤40 then some (Yb a n (uni a b n)) else none
 | _=>none
end
section
open Go Go.Proofs
def pm (x y:zo):Option zo:=if x.xAccept=y.xAccept then (mg x.xWhere y.xWhere).map (fun w=>⟨w,x.xAccept⟩) else none
def pmA (l:List zo) (k:Nat):Option zo:=match l[k]?,l[k+1]? with | some x,some y=>pm x y | _,_=>none
def fpN (l:List zo):Nat→Option (Nat×zo)
 | 0=>none
 | n+1=>match fpN l n with | some r=>some r | none=>(pmA l n).map (fun z=>(n,z))
def fp (l:List zo):Option (Nat×zo):=fpN l l.length
def zie (l:List zo) (k:Nat) (z:zo):List zo:=l.take k++[z]++l.drop (k+2)
def mgN:Nat→List zo→List zo
 | 0,l=>l
 | n+1,l=>match fp l with | none=>l | some (k,z)=>mgN n (zie l k z)
def mgF (l:List zo):List zo:=mgN l.length l
def trN (l:List zo) (rest:Bool):Nat→Nat
 | 0=>0
 | n+1=>if (match l[n]? with | some f=>decide (f.xAccept=rest) | none=>false) then trN l rest n else n+1
def trF (l:List zo) (rest:Bool):List zo:=l.take (trN l rest l.length)
def sh1 (l:List zo) (rest:Bool):List zo:=trF (mgF (wdF l)) rest
def shN (rest:Bool):Nat→List zo→List zo
 | 0,l=>sh1 l rest
 | n+1,l=>if (sh1 l rest).length=l.length then sh1 l rest else shN rest n (sh1 l rest)
def shF (l:List zo) (rest:Bool):List zo:=shN rest l.length l
noncomputable def cf (s:jm):Option (List zo):=(uf s).map (fun l=>shF l s.xAccept)
end
section
def Sx1 (l:List zd):Prop:=l.length≤1048576
def Sx2 (l:List (List zd)):Prop:=l.length≤1048576∧∀ x,x∈l→Sx1 x
def Sx3 (f:z8):Prop:=Sx2 f.xWhere.xSides
def Sx4 (l:List z8):Prop:=l.length≤1048576∧∀ f,f∈l→Sx3 f
theorem Sx4.fb {l:List z8} (h:Sx4 l):Fb l:=⟨by have:=h.1;omega,fun f hf=>⟨by have:=(h.2 f hf).1;omega,fun x hx=>by have:x.length≤1048576:=(h.2 f hf).2 x hx;omega⟩⟩
theorem BV.sx {b:xv} (h:BV b):Sx2 b.xSides:=by
 obtain ⟨a,rfl,_,f0,f1,f2,f3⟩:=h
 refine ⟨by simp [bx],fun x hx=>?_⟩
 simp only [bx,List.mem_cons,List.not_mem_nil,or_false] at hx
 unfold Sx1
 rcases hx with rfl | rfl | rfl | rfl <;> omega
theorem FV.sx {l:List z8} (h:FV l):Sx4 l:=⟨by have:=h.1;omega,fun f hf=>(h.2 f hf).sx⟩
end
section
open Go Go.Proofs
def bt1 (n:Nat) (s:List zd):Option (List zI) :=
 match s with
 | [x]=>if x=⟨0,top n⟩ then some [] else some [⟨n,x.xLo,x.xHi,false⟩]
 | [x,y]=>if x.xLo=0∧y.xHi=top n then some [⟨n,x.xHi+1,y.xLo - 1,true⟩] else none
 | _=>none
def btN (a:za):Nat→Option (List zI)
 | 0=>some []
 | k+1=>match btN a k with
  | none=>none
  | some l=>match bt1 k (uR a k) with
   | none=>none
   | some m=>some (l++m)
def btF (a:za):Option (List zI):=if em4 a then none else btN a 4
def zfV:Option (List zI)→List zI×Bool
 | some l=>(l,true)
 | none=>([],false)
theorem zgT {n:Nat} {s:List zd} {l:List zI} (h:bt1 n s=some l):l.length≤1:=by
 unfold bt1 at h
 split at h
 ·split at h <;> (injection h with h;subst h;simp)
 ·split at h
  ·injection h with h;subst h;simp
  ·cases h
 ·cases h
theorem VQ {a:za}:∀ {k:Nat} {l:List zI},btN a k=some l→l.length≤k
 | 0,l,h=>by simp only [btN,Option.some.injEq] at h;subst h;simp
 | k+1,l,h=>by
  unfold btN at h
  split at h
  ·cases h
  ·rename_i l1 h1
   split at h
   ·cases h
   ·rename_i m h2
    injection h with h;subst h
    have:=VQ h1
    have:=zgT h2
    rw [List.length_append];omega
theorem zdA {a:za} {k n:Nat} (h:btN a k=none) (hk:k≤n):btN a n=none:=by
 induction n with
 | zero =>
  obtain rfl:k=0:=by omega
  exact h
 | succ n ih =>
  by_cases e:k=n+1
  ·subst e;exact h
  ·unfold btN;rw [ih (by omega)]
theorem zfz {a:za} {k:Nat} {l:List zI} (h:btN a k=some l):btN a (k+1)=(match bt1 k (uR a k) with | none=>none | some m=>some (l++m)):=by
 conv=>lhs;unfold btN
 rw [h]
theorem zeo {n:Int} {κ:yW→Prop} (h0:0≤n) (h1:n≤3) (h:∀ e:yW,e.xTop=top n→κ e):zF zC n κ:=zet h0 h1 (fun e _=>h e)
theorem zeS {a:za} (hB:B4 a) {k:Nat} (hlt:k<4) {l:List zI} (hb:btN a k=some l) {tp:Int} (htp:tp=top k) {κ:List zI×Bool→Prop} {nx:List zI×Int→Prop} (hl:l.length≤4)
  (hn:∀ m,btN a (k+1)=some m→nx (m,(k:Int)+1)) (hz:btN a (k+1)=none→κ ([],false)) :
  jnW (fun (xs298:(List zI))=>jy (k:Int) 1 (fun t302=>nx (xs298,t302))) (fun k301=>jnW (fun (t150:Bool)=>ifW t150 (k301 l) (ifW (decide (((uR a k).length:Int)=1)) (zF (uR a k) 0 (fun e152=>zF (uR a k) 0 (fun e154=>xu l ([(zI.mk k e152.xLo e154.xHi false)]) (fun _=>k301 (l++([(zI.mk k e152.xLo e154.xHi false)])))))) (jnW (fun (t224:Bool)=>ifW t224 (zF (uR a k) 0 (fun e226=>jy e226.xHi 1 (fun t228=>zF (uR a k) 1 (fun e229=>XK e229.xLo 1 (fun t231=>xu l ([(zI.mk k t228 t231 true)]) (fun _=>k301 (l++([(zI.mk k t228 t231 true)])))))))) (κ ([],false))) (fun k225=>ifW (decide (((uR a k).length:Int)=2)) (zF (uR a k) 0 (fun e160=>ifW (decide (e160.xLo=0)) (zF (uR a k) 1 (fun e162=>k225 (decide (e162.xHi=tp)))) (k225 false))) (k225 false))))) (fun k151=>ifW (decide (((uR a k).length:Int)=1)) (zF (uR a k) 0 (fun e88=>k151 (decide (e88=(zd.mk 0 tp))))) (k151 false))):=by
 subst htp
 rw [zfz hb] at hn hz
 have hst:=YU hB (show (0:Int)≤k by omega) (show (k:Int)≤3 by omega)
 have tl:=X5 k
 generalize uR a k=s at *
 have go:∀ ys,nx (ys,(k:Int)+1)→jy (k:Int) 1 (fun t302=>nx (ys,t302)):=fun ys h=>zG (by omega) (by omega) h
 refine xx ?_
 match s,hst with
 | [],_ =>
  refine xx (jO (jO (jO (xx (jO (jO ?_))))))
  exact hz rfl
 | [x],_ =>
  refine xx (jt (zt 0 rfl (by simp) ?_))
  refine zr (fun e=>?_) (fun e=>?_)
  ·have e':x=⟨0,top k⟩:=of_decide_eq_true e
   refine go _ (hn _ ?_)
   unfold bt1;simp only;rw [if_pos e'];simp
  ·have e':¬ x=⟨0,top k⟩:=of_decide_eq_false e
   refine jt (zt 0 rfl (by simp) (zt 0 rfl (by simp) (jx (by simp;omega) (go _ (hn _ ?_)))))
   unfold bt1;simp only;rw [if_neg e'];rfl
 | [x,y],hst =>
  have hx:=hst.2 x (by simp)
  have hy:=hst.2 y (by simp)
  have hx2:=hst.1.1 x (by simp)
  have hy2:=hst.1.1 y (by simp)
  refine xx (jO (jO (jO (xx (jt (zt 0 rfl (by simp) (zr (fun e=>?_) (fun e=>?_))))))))
  ·have e':x.xLo=0:=of_decide_eq_true e
   refine zt 1 rfl (by simp) (zr (fun e2=>?_) (fun e2=>?_))
   ·have e2':y.xHi=top k:=of_decide_eq_true e2
    refine zt 0 rfl (by simp) (zG (by simp;omega) (by simp;omega) (zt 1 rfl (by simp) (yP (by simp;omega) (by simp;omega) (jx (by simp;omega) (go _ (hn _ ?_))))))
    unfold bt1;simp only;rw [if_pos ⟨e',e2'⟩];rfl
   ·have e2':¬ y.xHi=top k:=of_decide_eq_false e2
    refine hz ?_
    unfold bt1;simp only;rw [if_neg (fun q=>e2' q.2)]
  ·have e':¬ x.xLo=0:=of_decide_eq_false e
   refine jO (hz ?_)
   unfold bt1;simp only;rw [if_neg (fun q=>e' q.1)]
 | x :: y :: z :: r,_ =>
  refine xx (zr (fun e=>by simp at e;omega) (fun _=>jO (zr (fun e=>by simp at e;omega) (fun _=>xx (zr (fun e=>by simp at e;omega) (fun _=>jO ?_))))))
  exact hz rfl
theorem zaQ {b:xv} (hb:Bb b) {κ:List zI×Bool→Prop} (h1:BV b→κ (zfV (btF (sd b)))) (h2:¬ BV b→κ ([],false)):ZV b κ:=by
 unfold ZV
 refine xx (Y5 hb (zr (fun e=>?_) (fun e=>?_)))
 ·exact jt (h2 (by simpa using e))
 have hv':BV b:=by simpa using e
 refine zcG (Vf hv') (zbE (zr (fun e2=>?_) (fun e2=>?_)))
 ·have:=h1 hv'
  unfold btF at this;rw [if_pos e2] at this;exact this
 have h3:=h1 hv'
 unfold btF at h3;rw [if_neg (by simp [e2])] at h3
 clear h1 h2 e e2
 have hB:=hv'.b4
 obtain ⟨a,rfl,_⟩:=hv'
 rw [zf8] at h3 hB
 refine jb 4 (fun s=>s.2) (fun k (s:List zI×Int)=>s.2=(k:Int)∧k≤4∧btN a k=some s.1) (fun k s h=>h.1) (fun k s h=>h.2.1) ?_ ⟨rfl,by omega,rfl⟩
 rintro k ⟨l,_⟩ next ⟨rfl,hk,hbt⟩ hn
 simp only at hbt
 refine zr (fun hc=>?_) (fun hc=>?_)
 ·have hlt:k<4:=by
   have:(k:Int)<4:=by simpa [bx] using hc
   omega
  have hl:=VQ hbt
  refine Zp (a:=a) (by omega) (by omega) (zeo (by omega) (by omega) (fun e he=>?_))
  refine zeS hB hlt hbt he (by omega) (fun m hm=>hn hlt _ ⟨by simp,by omega,hm⟩) (fun hz=>?_)
  rw [zdA hz (by omega)] at h3;exact h3
 ·have hge:k=4:=by
   have:(4:Int)≤k:=by simpa [bx] using hc
   omega
  subst hge
  rw [hbt] at h3;exact h3
theorem zaI {b:xv} (hb:Bb b) {κ:List zI×Bool→Prop} (h1:BV b→κ (zfV (btF (sd b)))) (h2:¬ BV b→κ ([],false)):ZP b κ:=by
 unfold ZP
 refine xx (Y3 hb (zr (fun e=>?_) (fun e=>?_)))
 ·exact jt (h2 (by simpa using e))
 have hv':BV b:=by simpa using e
 have h3:=h1 hv'
 clear h1 h2 e
 have hB:=hv'.b4
 obtain ⟨a,rfl,_⟩:=hv'
 rw [zf8] at h3 hB
 refine zep (zr (fun e2=>?_) (fun e2=>?_))
 ·unfold btF at h3;rw [if_pos e2] at h3;exact h3
 unfold btF at h3;rw [if_neg (by simp [e2])] at h3
 refine jb 4 (fun s=>s.2) (fun k (s:List zI×Int)=>s.2=(k:Int)∧k≤4∧btN a k=some s.1) (fun k s h=>h.1) (fun k s h=>h.2.1) ?_ ⟨rfl,by omega,rfl⟩
 rintro k ⟨l,_⟩ next ⟨rfl,hk,hbt⟩ hn
 simp only at hbt
 refine zr (fun hc=>?_) (fun hc=>?_)
 ·have hlt:k<4:=by
   have:(k:Int)<4:=by simpa using hc
   omega
  have hl:=VQ hbt
  refine Zp (a:=a) (by omega) (by omega) (xl (by omega) (by omega) ?_)
  refine zeS hB hlt hbt rfl (by omega) (fun m hm=>hn hlt _ ⟨by simp,by omega,hm⟩) (fun hz=>?_)
  rw [zdA hz (by omega)] at h3;exact h3
 ·have hge:k=4:=by
   have:(4:Int)≤k:=by simpa using hc
   omega
  subst hge
  rw [hbt] at h3;exact h3
def ruD (f:z8):zK:=⟨(zfV (btF (sd f.xWhere))).1,if f.xAccept then 1 else 2,0⟩
def zeg (l:List z8):Prop:=FV l∧l.length≤8∧∀ f∈l,btF (sd f.xWhere)≠none
def frS (l:List z8) (rest:Bool):jm:=⟨[l.map ruD],rest⟩
theorem zbW (a:za):(zfV (btF a)).1.length≤4:=by
 cases h:btF a with
 | none=>simp [zfV]
 | some l =>
  unfold btF at h
  split at h
  ·cases h
  ·exact VQ h
theorem X6 {l:List z8} {rest:Bool} (hl:Fb l) {κ:jm×Bool→Prop} (h1:zeg l→κ (frS l rest,true)) (h2:¬ zeg l→κ (⟨[],false⟩,false)):yw l rest κ:=by
 unfold yw
 have hl1:=hl.1
 refine xx (zr (fun e=>?_) (fun e=>?_))
 ·exact jt (h2 (fun q=>by have:=q.2.1;simp at e;omega))
 have h8:l.length≤8:=by simp at e;omega
 refine Xa hl (zr (fun e2=>?_) (fun e2=>?_))
 ·exact h2 (fun q=>by simp [q.1] at e2)
 have hv':FV l:=by simpa using e2
 refine Un 0 rfl (by omega) (by omega) ?_
 refine jb l.length (fun s=>s.2) (fun k (s:List zK×Int)=>s.2=(k:Int)∧k≤l.length∧s.1=(l.take k).map ruD∧∀ f∈l.take k,btF (sd f.xWhere)≠none) (fun k s h=>h.1) (fun k s h=>h.2.1) ?_ ⟨rfl,by omega,by simp,by simp⟩
 rintro k ⟨_,_⟩ next ⟨rfl,hk,hx,hno⟩ hn
 simp only at hx
 subst hx
 refine zr (fun hc=>?_) (fun hc=>?_)
 ·have hlt:k<l.length:=by simpa using hc
  have hbv:=hv'.2 _ (List.getElem_mem hlt)
  refine zt k rfl hlt (zaQ hbv.bb (fun _=>?_) (fun q=>absurd hbv q))
  have hlen:=zbW (sd l[k].xWhere)
  cases hbt:btF (sd l[k].xWhere) with
  | none=>exact xx (jt (jt (h2 (fun q=>q.2.2 _ (List.getElem_mem hlt) hbt))))
  | some ts =>
   have er:ruD l[k]=⟨ts,if l[k].xAccept then 1 else 2,0⟩:=by unfold ruD;rw [hbt];rfl
   rw [hbt] at hlen
   have hts:ts.length≤4:=hlen
   refine xx (jO (zr (fun e=>by simp at e;omega) (fun _=>xx ?_)))
   have go:∀ act:Int,act=(if l[k].xAccept then 1 else 2)→xu ((l.take k).map ruD) ([(zK.mk ts act 0)]) (fun _=>jy (k:Int) 1 (fun t229=>next ((((l.take k).map ruD)++([(zK.mk ts act 0)])),t229))):=by
    rintro _ rfl
    refine jx (by simp;omega) (zG (by omega) (by omega) (hn hlt _ ⟨by simp,by omega,?_,fun f hf=>?_⟩))
    ·rw [List.take_succ_eq_append_getElem hlt,List.map_append,List.map_singleton,er]
    ·rw [List.take_succ_eq_append_getElem hlt] at hf
     rcases List.mem_append.1 hf with q | q
     ·exact hno f q
     ·simp only [List.mem_singleton] at q;rw [q,hbt];simp
   refine zr (fun e=>go _ (by rw [e];rfl)) (fun e=>go _ (by rw [e];rfl))
 ·have hge:l.length≤k:=by simpa using hc
  rw [List.take_of_length_le hge] at hno ⊢
  exact h1 ⟨hv',h8,hno⟩
theorem X8 {l:List z8} {rest:Bool} (hl:Fb l) {κ:jm×Bool→Prop} (h1:zeg l→κ (frS l rest,true)) (h2:¬ zeg l→κ (⟨[],false⟩,false)):yt l rest κ:=by
 unfold yt
 have hl1:=hl.1
 refine zaF hl (xx (Vq hl (zr (fun e2=>?_) (fun e2=>?_))))
 ·exact jt (h2 (fun q=>by simp [q.1] at e2))
 have hv':FV l:=by simpa using e2
 refine zr (fun e=>h2 (fun q=>by have:=q.2.1;simp at e;omega)) (fun e=>?_)
 have h8:l.length≤8:=by simp at e;omega
 refine jb l.length (fun s=>s.2) (fun k (s:List zK×Int)=>s.2=(k:Int)∧k≤l.length∧s.1=(l.take k).map ruD∧∀ f∈l.take k,btF (sd f.xWhere)≠none) (fun k s h=>h.1) (fun k s h=>h.2.1) ?_ ⟨rfl,by omega,by simp,by simp⟩
 rintro k ⟨_,_⟩ next ⟨rfl,hk,hx,hno⟩ hn
 simp only at hx
 subst hx
 refine zr (fun hc=>?_) (fun hc=>?_)
 ·have hlt:k<l.length:=by simpa using hc
  have hbv:=hv'.2 _ (List.getElem_mem hlt)
  refine zt k rfl hlt (zaI hbv.bb (fun _=>?_) (fun q=>absurd hbv q))
  have hlen:=zbW (sd l[k].xWhere)
  cases hbt:btF (sd l[k].xWhere) with
  | none=>exact jt (h2 (fun q=>q.2.2 _ (List.getElem_mem hlt) hbt))
  | some ts =>
   have er:ruD l[k]=⟨ts,if l[k].xAccept then 1 else 2,0⟩:=by unfold ruD;rw [hbt];rfl
   rw [hbt] at hlen
   have hts:ts.length≤4:=hlen
   refine jO (xx (zt k rfl hlt ?_))
   have go:∀ act:Int,act=(if l[k].xAccept then 1 else 2)→xu ((l.take k).map ruD) ([(zK.mk ts act 0)]) (fun _=>jy (k:Int) 1 (fun t229=>next ((((l.take k).map ruD)++([(zK.mk ts act 0)])),t229))):=by
    rintro _ rfl
    refine jx (by simp;omega) (zG (by omega) (by omega) (hn hlt _ ⟨by simp,by omega,?_,fun f hf=>?_⟩))
    ·rw [List.take_succ_eq_append_getElem hlt,List.map_append,List.map_singleton,er]
    ·rw [List.take_succ_eq_append_getElem hlt] at hf
     rcases List.mem_append.1 hf with q | q
     ·exact hno f q
     ·simp only [List.mem_singleton] at q;rw [q,hbt];simp
   refine zr (fun e=>go _ (by rw [e];rfl)) (fun e=>go _ (by rw [e];rfl))
 ·have hge:l.length≤k:=by simpa using hc
  rw [List.take_of_length_le hge] at hno ⊢
  exact h1 ⟨hv',h8,hno⟩
theorem zhK {l:List z8} {rest:Bool} (h:l.length≤8):Bs (frS l rest).xChains:=by
 refine ⟨by simp [frS],fun c hc=>?_⟩
 simp only [frS,List.mem_singleton] at hc
 subst hc
 refine ⟨by simp;omega,fun r hr=>?_⟩
 obtain ⟨f,hf,rfl⟩:=List.mem_map.1 hr
 have:=zbW (sd f.xWhere)
 unfold Br ruD;simp only;omega
end
section
open Go Go.Proofs
theorem zgm (x:zd) (v:Int):hv [x] v↔x.xLo≤v∧v≤x.xHi:=by simp [hv]
theorem zhu (x y:zd) (v:Int):hv [x,y] v↔(x.xLo≤v∧v≤x.xHi)∨(y.xLo≤v∧v≤y.xHi):=by simp [hv]
theorem zfF {n:Nat} (hn:n<4) {s:List zd} (hs:St s (top n)) {m:List zI} (h:bt1 n s=some m):(∀ t∈m,TV t)∧∀ p,pv p→(ft m p=true↔hv s (XR p n)):=by
 have hfl:∀ p,pv p→0≤XR p n∧XR p n≤top n:=fun p hp=>by
  obtain ⟨h0,h1,h2,h3⟩:=hp
  rcases Zi hn with rfl | rfl | rfl | rfl
  ·exact h0
  ·exact h1
  ·exact h2
  ·exact h3
 unfold bt1 at h
 split at h
 ·rename_i x
  have hx:=hs.2 x (by simp)
  have hx2:=hs.1.1 x (by simp)
  split at h
  ·rename_i e
   injection h with h;subst h
   refine ⟨by simp,fun p hp=>?_⟩
   rw [zgm,e]
   have:=hfl p hp
   simp [ft,this]
  ·injection h with h;subst h
   refine ⟨fun t ht=>?_,fun p hp=>?_⟩
   ·rw [List.mem_singleton] at ht;subst ht
    exact ⟨by simp only;omega,by simp only;omega,hx.1,hx2,hx.2⟩
   ·rw [zgm]
    simp [ft,th]
 ·rename_i x y
  have hx:=hs.2 x (by simp)
  have hx2:=hs.1.1 x (by simp)
  have hy:=hs.2 y (by simp)
  have hy2:=hs.1.1 y (by simp)
  have hg:x.xHi+1<y.xLo:=(List.pairwise_cons.1 hs.1.2).1 y (by simp)
  split at h
  ·rename_i e
   injection h with h;subst h
   refine ⟨fun t ht=>?_,fun p hp=>?_⟩
   ·rw [List.mem_singleton] at ht;subst ht
    exact ⟨by simp only;omega,by simp only;omega,by simp only;omega,by simp only;omega,by simp only;omega⟩
   ·rw [zhu]
    have:=hfl p hp
    simp only [ft,th,List.all_cons,List.all_nil,Bool.and_true,bne_iff_ne,ne_eq,decide_eq_true_eq,Int.toNat_natCast]
    omega
  ·cases h
 ·cases h
theorem zdL {a:za} (ha:B4 a):∀ {k:Nat} {l:List zI},k≤4→btN a k=some l→(∀ t∈l,TV t)∧∀ p,pv p→(ft l p=true↔∀ n:Nat,n<k→hv (uR a n) (XR p n))
 | 0,l,_,h=>by
  simp only [btN,Option.some.injEq] at h;subst h
  exact ⟨by simp,fun p _=>by simp [ft]⟩
 | k+1,l,hk,h=>by
  unfold btN at h
  split at h
  ·cases h
  ·rename_i l1 h1
   split at h
   ·cases h
   ·rename_i m h2
    injection h with h;subst h
    obtain ⟨a1,b1⟩:=zdL ha (by omega) h1
    obtain ⟨a2,b2⟩:=zfF (show k<4 by omega) (YU ha (by omega) (by omega)) h2
    refine ⟨fun t ht=>(List.mem_append.1 ht).elim (a1 t) (a2 t),fun p hp=>?_⟩
    have e:ft (l1++m) p=(ft l1 p && ft m p):=by simp [ft]
    rw [e,Bool.and_eq_true,b1 p hp,b2 p hp]
    constructor
    ·rintro ⟨q1,q2⟩ n hn
     by_cases en:n=k
     ·subst en;exact q2
     ·exact q1 n (by omega)
    ·intro q
     exact ⟨fun n hn=>q n (by omega),q k (by omega)⟩
theorem zdi {a:za} (ha:B4 a) {l:List zI} (h:btF a=some l):TsV l∧∀ p,pv p→(ft l p=true↔hb4 a p):=by
 unfold btF at h
 split at h
 ·cases h
 ·obtain ⟨h1,h2⟩:=zdL ha (by decide) h
  have:=VQ h
  exact ⟨⟨h1,by omega⟩,fun p hp=>by rw [h2 p hp,zcY]⟩
theorem zgn {l:List z8} {rest:Bool} (h:zeg l):SV (frS l rest):=by
 have h8:=h.2.1
 have nocall:∀ i j,¬ Ca (frS l rest).xChains i j:=fun i j ⟨c,hc,r,hr,h3,_⟩=>by
  have hc':=List.mem_of_getElem? hc
  simp only [frS,List.mem_singleton] at hc'
  subst hc'
  obtain ⟨f,hf,rfl⟩:=List.mem_map.1 hr
  unfold ruD at h3
  simp only at h3
  split at h3 <;> omega
 refine ⟨⟨by simp [frS],fun c hc=>?_⟩,by simp [frS],fun i _=>zfx (fun j hj=>absurd hj (nocall i j))⟩
 simp only [frS,List.mem_singleton] at hc
 subst hc
 refine ⟨by simpa using h8,fun r hr=>?_⟩
 obtain ⟨f,hf,rfl⟩:=List.mem_map.1 hr
 refine ⟨⟨?_,?_⟩,by simp [ruD,frS]⟩
 ·cases hbt:btF (sd f.xWhere) with
  | none=>exact absurd hbt (h.2.2 f hf)
  | some ts =>
   unfold ruD;rw [hbt]
   exact (zdi (h.1.2 f hf).b4 hbt).1
 ·unfold HV ruD;simp only
  split <;> decide
def jf (l:List zo) (rest:Bool) (p:z7):Bool:=match l[fw l p]? with | some f=>f.xAccept | none=>rest
theorem zg9 {f:Nat→Int} {p:z7} (hp:pv p):∀ (l:List z8),FV l→(∀ f∈l,btF (sd f.xWhere)≠none)→jl p f (l.map ruD)=(match (l.map fl)[fw (l.map fl) p]? with | some g=>if g.xAccept then 1 else 2 | none=>5)
 | [],_,_=>by simp [jl,fw]
 | x :: l,hv',hb=>by
  have hbv:=hv'.2 x (by simp)
  cases hbt:btF (sd x.xWhere) with
  | none=>exact absurd hbt (hb x (by simp))
  | some ts =>
   have hs:=(zdi hbv.b4 hbt).2 p hp
   have er:ruD x=⟨ts,if x.xAccept then 1 else 2,0⟩:=by unfold ruD;rw [hbt];rfl
   have ih:=zg9 (f:=f) hp l ⟨by have:=hv'.1;simp at this;omega,fun g hg=>hv'.2 g (by simp [hg])⟩ (fun g hg=>hb g (by simp [hg]))
   simp only [List.map_cons,jl,er]
   by_cases hh:hb4 (sd x.xWhere) p
   ·rw [if_pos (hs.2 hh)]
    have e0:fw (fl x :: l.map fl) p=0:=by
     unfold fw;rw [List.findIdx_cons];simp [fl,hh]
    rw [e0]
    simp only [List.getElem?_cons_zero,fl]
    cases x.xAccept <;> simp
   ·rw [if_neg (fun q=>hh (hs.1 q)),ih]
    have e0:fw (fl x :: l.map fl) p=fw (l.map fl) p+1:=by
     unfold fw;rw [List.findIdx_cons];simp [fl,hh]
    rw [e0,List.getElem?_cons_succ]
theorem zh5 {l:List z8} {rest:Bool} {p:z7} (hp:pv p) (h:zeg l):jdg (frS l rest) p=jf (l.map fl) rest p:=by
 have hsv:=zgn (rest:=rest) h
 have hJ:=zil (p:=p) hsv.cn hsv.2.2 0
 have ec:chn (frS l rest).xChains 0=l.map ruD:=rfl
 rw [ec,zg9 hp l h.1 h.2.2] at hJ
 unfold jdg jf
 rw [hJ]
 cases (l.map fl)[fw (l.map fl) p]? with
 | none=>simp [frS]
 | some g=>cases hg:g.xAccept <;> simp [hg]
end
section
open Go Go.Proofs
def dcd:List zo→z7→Option Bool
 | [],_=>none
 | f :: l,p=>if hb4 f.xWhere p then some f.xAccept else dcd l p
theorem zcW (l m:List zo) (p:z7):dcd (l++m) p=(dcd l p).or (dcd m p):=by
 induction l with
 | nil=>simp [dcd]
 | cons f l ih =>
  simp only [List.cons_append,dcd]
  split
  ·simp
  ·exact ih
theorem zdq {l:List zo} {p:z7}:dcd l p=none↔¬ hbs (whs l) p:=by
 induction l with
 | nil=>simp [dcd,whs,hbs]
 | cons f l ih =>
  have e:hbs (whs (f :: l)) p↔hb4 f.xWhere p∨hbs (whs l) p:=by
   have:=yx [f.xWhere] (whs l) p
   rw [YM] at this
   exact this
  rw [e]
  unfold dcd
  split
  ·rename_i h;simp [h]
  ·rename_i h;rw [ih];simp [h]
theorem zg1 (f:zo) (p:z7):dcd [f] p=if hb4 f.xWhere p then some f.xAccept else none:=rfl
theorem zgk (l:List zo) (rest:Bool) (p:z7):jf l rest p=(dcd l p).getD rest:=by
 induction l with
 | nil=>simp [jf,dcd]
 | cons f l ih =>
  unfold dcd
  by_cases h:hb4 f.xWhere p
  ·have e0:fw (f :: l) p=0:=by
    unfold fw;rw [List.findIdx_cons];simp [h]
   unfold jf
   rw [e0,if_pos h];rfl
  ·have e0:fw (f :: l) p=fw l p+1:=by
    unfold fw;rw [List.findIdx_cons];simp [h]
   unfold jf at ih ⊢
   rw [e0,if_neg h,List.getElem?_cons_succ];exact ih
theorem zg4 (l:List za) (a:Bool) (p:z7):dcd (dec l a) p=if hbs l p then some a else none:=by
 induction l with
 | nil=>simp [dec,dcd,hbs]
 | cons b l ih =>
  have e:hbs (b :: l) p↔hb4 b p∨hbs l p:=by
   have:=yx [b] l p
   rw [YM] at this
   exact this
  show (if hb4 b p then some a else dcd (dec l a) p)=_
  rw [ih]
  by_cases h:hb4 b p
  ·rw [if_pos h,if_pos (e.2 (.inl h))]
  ·rw [if_neg h]
   by_cases h2:hbs l p
   ·rw [if_pos h2,if_pos (e.2 (.inr h2))]
   ·rw [if_neg h2,if_neg (fun q=>(e.1 q).elim h h2)]
theorem zhW {t:zI} (ht:TV t) {x:Int} (h0:0≤x) (h1:x≤top t.xField):hv (tsp t) x↔(decide (t.xLo≤x∧x≤t.xHi) != t.xNot)=true:=by
 obtain ⟨_,_,h3,h4,h5⟩:=ht
 have hone:hv [(⟨t.xLo,t.xHi⟩:zd)] x↔t.xLo≤x∧x≤t.xHi:=by simp [hv]
 unfold tsp
 cases hn:t.xNot with
 | true =>
  rw [if_pos rfl,zaw (zcI h3 h4 h5),hone]
  by_cases q:t.xLo≤x∧x≤t.xHi
  ·simp [q]
  ·simp [q,h0,h1]
 | false =>
  rw [if_neg (by simp),hone]
  by_cases q:t.xLo≤x∧x≤t.xHi
  ·simp [q]
  ·simp [q]
theorem zgs {p:z7} (hp:pv p) {n:Nat} (hn:n<4):0≤XR p n∧XR p n≤top n:=by
 obtain ⟨h0,h1,h2,h3⟩:=hp
 rcases Zi hn with rfl | rfl | rfl | rfl
 ·exact h0
 ·exact h1
 ·exact h2
 ·exact h3
theorem zbe (a:za) (n:Nat) (hn:n<4) (x:List zd) (m:Nat) (hm:m<4):uR (Yb a n x) m=if m=n then x else uR a m:=by
 rcases Zi hn with rfl | rfl | rfl | rfl <;> rcases Zi hm with rfl | rfl | rfl | rfl <;> rfl
theorem zgA {a:za} {t:zI} {p:z7} (ht:TV t) (hp:pv p):hb4 (zdl a t) p↔hb4 a p∧th t p=true:=by
 obtain ⟨n,hn⟩:=Int.eq_ofNat_of_zero_le ht.1
 have hn4:n<4:=by have:=ht.2.1;omega
 have hf:=zgs hp hn4
 have key:=zhW ht (x:=XR p n) hf.1 (by rw [hn];exact hf.2)
 unfold zdl
 rw [hn,zcY,zcY]
 have eth:th t p=(decide (t.xLo≤XR p n∧XR p n≤t.xHi) != t.xNot):=by unfold th;rw [hn];rfl
 rw [eth,← key]
 constructor
 ·intro h
  have hn2:=h n hn4
  rw [zbe _ _ hn4 _ _ hn4,if_pos rfl,Zz] at hn2
  refine ⟨fun m hm=>?_,hn2.2⟩
  by_cases e:m=n
  ·subst e;exact hn2.1
  ·have:=h m hm
   rw [zbe _ _ hn4 _ _ hm,if_neg e] at this
   exact this
 ·rintro ⟨h,h2⟩ m hm
  rw [zbe _ _ hn4 _ _ hm]
  by_cases e:m=n
  ·subst e;rw [if_pos rfl,Zz];exact ⟨h _ hm,h2⟩
  ·rw [if_neg e];exact h m hm
theorem zeZ {p:z7} (hp:pv p):∀ {ts:List zI} {a:za},(∀ t∈ts,TV t)→(hb4 (ts.foldl zdl a) p↔hb4 a p∧ft ts p=true)
 | [],a,_=>by simp [ft]
 | t :: ts,a,h=>by
  rw [List.foldl_cons,zeZ hp (fun u hu=>h u (by simp [hu])),zgA (h t (by simp)) hp]
  simp only [ft,List.all_cons,Bool.and_eq_true,and_assoc]
theorem zcV {p:z7} (hp:pv p):hb4 Yv p:=by
 obtain ⟨h0,h1,h2,h3⟩:=hp
 exact ⟨⟨_,List.mem_singleton.2 rfl,h0⟩,⟨_,List.mem_singleton.2 rfl,h1⟩,⟨_,List.mem_singleton.2 rfl,h2⟩,⟨_,List.mem_singleton.2 rfl,h3⟩⟩
theorem zgy {p:z7} (hp:pv p) {ts:List zI} (h:∀ t∈ts,TV t):hb4 (uQ ts) p↔ft ts p=true:=by
 unfold uQ
 rw [zeZ hp h]
 exact ⟨fun q=>q.2,fun q=>⟨zcV hp,q⟩⟩
def Wyp (inn lf:Prop) (j:Int) (d:Option Bool) (ot:Prop):Prop :=
 (lf→d=none∧ot)∧(¬ lf→¬ inn→d=none∧¬ ot)∧(¬ lf→inn→(j=1→d=some true∧¬ ot)∧(j=2→d=some false∧¬ ot)∧(j=5→d=none∧ot))
theorem VP {p:z7} (hp:pv p) {call:Nat→List za→List zo→UR} {jcall:Nat→Int} (hj:∀ i,jcall i=1∨jcall i=2∨jcall i=5)
  (hcall:∀ i b o b' o',aB b→call i b o=some (b',o')→aB b'∧∃ n,o'=o++n∧Wyp (hbs b p) False (jcall i) (dcd n p) (hbs b' p)) :
  ∀ {l:List zK} {going left:List za} {out:List zo} {r:List za} {o:List zo},(∀ r∈l,∀ t∈r.xTests,TV t)→aB going→aB left→¬ (hbs left p∧hbs going p)→url call l going left out=some (r,o)→aB r∧∃ n,o=out++n∧Wyp (hbs going p) (hbs left p) (jl p jcall l) (dcd n p) (hbs r p)
 | [],going,left,out,r,o,_,hg,hl,hne,h=>by
  unfold url at h
  split at h
  ·injection h with h;injection h with h1 h2;subst h1 h2
   refine ⟨X1.2 ⟨hl,hg⟩,[],by simp,?_⟩
   rw [yx]
   unfold Wyp jl dcd
   refine ⟨fun q=>⟨rfl,.inl q⟩,fun q1 q2=>⟨rfl,fun q=>q.elim q1 q2⟩,fun q1 q2=>⟨fun e=>by omega,fun e=>by omega,fun _=>⟨rfl,.inr q2⟩⟩⟩
  ·cases h
 | x :: rs,going,left,out,r,o,ht,hg,hl,hne,h=>by
  have hw:=UG (ht x (by simp))
  have hwp:=zgy hp (ht x (by simp))
  have htr:∀ r∈rs,∀ t∈r.xTests,TV t:=fun y hy=>ht y (by simp [hy])
  have hfB:=zd8 hg hw
  have hmB:=UT hg hw
  have hfp:=zg0 (bs:=going) (w:=uQ x.xTests) p
  have hmp:=zdu hg hw p
  unfold url at h
  unfold jl
  generalize uQ x.xTests=w at *
  generalize Z0 going w=fit at *
  generalize xq going w=miss at *
  split at h
  ·split at h
   ·rename_i q ha
    split at h
    ·obtain ⟨g1,n,rfl,g2⟩:=VP hp hj hcall htr hmB hl (fun q=>hne ⟨q.1,(hmp.1 q.2).1⟩) h
     refine ⟨g1,dec fit (decide (x.xAction=1))++n,by simp,?_⟩
     rw [zcW,zg4]
     unfold Wyp at g2 ⊢
     obtain ⟨a1,a2,a3⟩:=g2
     rw [hmp] at a2 a3
     by_cases c1:hbs left p
     ·have c2:¬ hbs going p:=fun q=>hne ⟨c1,q⟩
      rw [if_neg (fun q=>c2 (hfp.1 q).1)]
      refine ⟨fun _=>a1 c1,fun q=>absurd c1 q,fun q=>absurd c1 q⟩
     ·refine ⟨fun q=>absurd q c1,fun _ c2=>?_,fun _ c2=>?_⟩
      ·rw [if_neg (fun q=>c2 (hfp.1 q).1)]
       exact a2 c1 (fun q=>c2 q.1)
      ·by_cases c3:hb4 w p
       ·rw [if_pos (hfp.2 ⟨c2,c3⟩),if_pos (hwp.1 c3)]
        have a2':=a2 c1 (fun q=>q.2 c3)
        refine ⟨fun e=>⟨?_,a2'.2⟩,fun e=>⟨?_,a2'.2⟩,fun e=>?_⟩
        ·split at e
         ·rename_i e1;simp [e1]
         ·split at e
          ·omega
          ·rename_i e1 e2;exact absurd ha (by omega)
        ·split at e
         ·omega
         ·rename_i e1;simp [e1]
        ·split at e
         ·omega
         ·split at e
          ·omega
          ·rename_i e1 e2;exact absurd ha (by omega)
       ·rw [if_neg (fun q=>c3 (hfp.1 q).2),if_neg (fun q=>c3 (hwp.2 q))]
        exact a3 c1 ⟨c2,c3⟩
    ·cases h
   ·rename_i q ha
    rw [if_neg (show ¬ x.xAction=1 from fun e=>ha (.inl e)),if_neg (show ¬ x.xAction=2 from fun e=>ha (.inr e))]
    split at h
    ·rename_i h4
     rw [if_pos h4]
     have hne2:¬ (hbs (left++fit) p∧hbs miss p):=fun q=>by
      have m:=hmp.1 q.2
      rcases (yx left fit p).1 q.1 with q1 | q1
      ·exact hne ⟨q1,m.1⟩
      ·exact m.2 (hfp.1 q1).2
     obtain ⟨g1,n,rfl,g2⟩:=VP hp hj hcall htr hmB (X1.2 ⟨hl,hfB⟩) hne2 h
     refine ⟨g1,n,rfl,?_⟩
     unfold Wyp at g2 ⊢
     obtain ⟨a1,a2,a3⟩:=g2
     rw [yx,hfp] at a1 a2 a3
     rw [hmp] at a2 a3
     refine ⟨fun c1=>a1 (.inl c1),fun c1 c2=>a2 (fun q=>q.elim c1 (fun q=>c2 q.1)) (fun q=>c2 q.1),fun c1 c2=>?_⟩
     by_cases c3:hb4 w p
     ·rw [if_pos (hwp.1 c3)]
      exact ⟨fun e=>by omega,fun e=>by omega,fun _=>a1 (.inr ⟨c2,c3⟩)⟩
     ·rw [if_neg (fun q=>c3 (hwp.2 q))]
      exact a3 (fun q=>q.elim c1 (fun q=>c3 q.2)) ⟨c2,c3⟩
    ·rename_i h4
     rw [if_neg h4]
     split at h
     ·rename_i h3
      rw [if_pos h3]
      split at h
      ·cases h
      ·rename_i b o' hb
       obtain ⟨k1,n1,rfl,k2⟩:=hcall _ _ _ _ _ hfB hb
       split at h
       ·have hbm:hbs b p→hbs fit p:=fun q=>by
         by_cases c:hbs fit p
         ·exact c
         ·exact absurd q (k2.2.1 (fun f=>f) c).2
        have hne2:¬ (hbs left p∧hbs (miss++b) p):=fun q=>by
         rcases (yx miss b p).1 q.2 with q1 | q1
         ·exact hne ⟨q.1,(hmp.1 q1).1⟩
         ·exact hne ⟨q.1,(hfp.1 (hbm q1)).1⟩
        obtain ⟨g1,n,rfl,g2⟩:=VP hp hj hcall htr (X1.2 ⟨hmB,k1⟩) hl hne2 h
        refine ⟨g1,n1++n,by simp,?_⟩
        rw [zcW]
        unfold Wyp at g2 k2 ⊢
        obtain ⟨a1,a2,a3⟩:=g2
        obtain ⟨_,b2,b3⟩:=k2
        have b2:=b2 (fun f=>f)
        have b3:=b3 (fun f=>f)
        rw [yx,hmp] at a2 a3
        rw [hfp] at b2 b3 hbm
        refine ⟨fun c1=>?_,fun c1 c2=>?_,fun c1 c2=>?_⟩
        ·rw [(b2 (fun q=>hne ⟨c1,q.1⟩)).1];exact a1 c1
        ·rw [(b2 (fun q=>c2 q.1)).1]
         exact a2 c1 (fun q=>q.elim (fun q=>c2 q.1) (fun q=>c2 (hbm q).1))
        ·by_cases c3:hb4 w p
         ·rw [if_pos (hwp.1 c3)]
          obtain ⟨d1,d2,d5⟩:=b3 ⟨c2,c3⟩
          rcases hj x.xChain.toNat with e | e | e
          ·have d:=d1 e
           rw [if_neg (by omega),e,d.1]
           have a:=a2 c1 (fun q=>q.elim (fun q=>q.2 c3) d.2)
           exact ⟨fun _=>⟨rfl,a.2⟩,fun e=>by omega,fun e=>by omega⟩
          ·have d:=d2 e
           rw [if_neg (by omega),e,d.1]
           have a:=a2 c1 (fun q=>q.elim (fun q=>q.2 c3) d.2)
           exact ⟨fun e=>by omega,fun _=>⟨rfl,a.2⟩,fun e=>by omega⟩
          ·have d:=d5 e
           rw [if_pos e,d.1]
           exact a3 c1 (.inr d.2)
         ·rw [if_neg (fun q=>c3 (hwp.2 q)),(b2 (fun q=>c3 q.2)).1]
          exact a3 c1 (.inl ⟨c2,c3⟩)
       ·cases h
     ·rename_i h3
      rw [if_neg h3]
      split at h
      ·have hne2:¬ (hbs left p∧hbs (miss++fit) p):=fun q=>by
        rcases (yx miss fit p).1 q.2 with q1 | q1
        ·exact hne ⟨q.1,(hmp.1 q1).1⟩
        ·exact hne ⟨q.1,(hfp.1 q1).1⟩
       obtain ⟨g1,n,rfl,g2⟩:=VP hp hj hcall htr (X1.2 ⟨hmB,hfB⟩) hl hne2 h
       refine ⟨g1,n,rfl,?_⟩
       have e:hbs (miss++fit) p↔hbs going p:=by
        rw [yx,hmp,hfp]
        by_cases c3:hb4 w p <;> simp [c3]
       rw [e] at g2
       have:(if ft x.xTests p=true then jl p jcall rs else jl p jcall rs)=jl p jcall rs:=by split <;> rfl
       rw [this]
       exact g2
      ·cases h
  ·cases h
theorem zgt {cs:List (List zK)} (ht:TVs cs) {p:z7} (hp:pv p):∀ n i b o b' o',aB b→uc cs n i b o=some (b',o')→aB b'∧∃ m,o'=o++m∧Wyp (hbs b p) False (jc cs p n i) (dcd m p) (hbs b' p)
 | 0,i,b,o,b',o',_,h=>by cases h
 | n+1,i,b,o,b',o',hb,h=>by
  obtain ⟨g1,m,g2,g3⟩:=VP hp (zc3 n) (zgt ht hp n) (ht.chn i) hb zd2 (fun q=>Xh p q.1) h
  refine ⟨g1,m,g2,?_⟩
  have e:hbs [] p↔False:=⟨Xh p,False.elim⟩
  rw [e] at g3
  exact g3
theorem zhM {s:jm} (hs:SV s) {l:List zo} (h:uf s=some l) {p:z7} (hp:pv p):jdg s p=jf l s.xAccept p:=by
 unfold uf at h
 cases hU:U s.xChains 0 [Yv] [] with
 | none=>rw [hU] at h;cases h
 | some bo =>
  obtain ⟨b,o⟩:=bo
  rw [hU] at h
  simp only [Option.map_some,Option.some.injEq] at h
  subst h
  obtain ⟨_,n,hn,_,_,g3⟩:=zgt hs.tvs hp _ _ _ _ _ _ zda hU
  simp only [List.nil_append] at hn
  subst hn
  obtain ⟨d1,d2,d5⟩:=g3 (fun f=>f) ((YM _ _).2 (zcV hp))
  rw [zgk]
  unfold jdg
  show (if J s.xChains p 0=1 then true else if J s.xChains p 0=2 then false else s.xAccept)=_
  have e:jc s.xChains p (jN s.xChains+1) 0=J s.xChains p 0:=rfl
  rw [e] at d1 d2 d5
  rcases zhY s.xChains p 0 with e | e | e
  ·rw [(d1 e).1,if_pos e];rfl
  ·rw [(d2 e).1,if_neg (by omega),if_pos e];rfl
  ·rw [(d5 e).1,if_neg (by omega),if_neg (by omega)];rfl
end
section
open Go Go.Proofs
def itm (l:List zo) (rest:Bool) (k:Nat):zo:=match l[k]? with | some f=>f | none=>⟨Yv,rest⟩
def lvN (l:List zo) (rest:Bool):Nat→Option (List zo)
 | 0=>some []
 | k+1=>match lvN l rest k with
  | none=>none
  | some out=>match Ye (itm l rest k).xWhere (whs (l.take k)) with
   | none=>none
   | some lv=>if (out++dec lv (itm l rest k).xAccept).length≤400 then some (out++dec lv (itm l rest k).xAccept) else none
def pt (l:List zo) (rest:Bool):Option (List zo):=lvN l rest (l.length+1)
def acs (out:List zo) (a:Bool):List za:=(out.filter (fun f=>decide (f.xAccept=a))).map (·.xWhere)
theorem zeB {l:List zo} {rest:Bool} {k:Nat} (h:k<l.length):itm l rest k=l[k]:=by
 unfold itm;rw [List.getElem?_eq_getElem h]
theorem zey (l:List zo) (rest:Bool):itm l rest l.length=⟨Yv,rest⟩:=by
 unfold itm;rw [List.getElem?_eq_none (Nat.le_refl _)]
theorem V6:B4 Yv∧F4 Yv:=⟨UH,zaf (fun f h0 h1=>by have:=Vr f h0 h1;omega)⟩
theorem zhD {l:List zo} (hv:IV l) (rest:Bool) (k:Nat):B4 (itm l rest k).xWhere∧F4 (itm l rest k).xWhere:=by
 unfold itm
 cases h:l[k]? with
 | none=>exact V6
 | some f=>exact hv f (List.mem_of_getElem? h)
theorem zde {l:List zo} {rest:Bool} {k:Nat} (h:lvN l rest k=none):∀ n,lvN l rest (k+n)=none
 | 0=>h
 | n+1=>by
  rw [← Nat.add_assoc]
  unfold lvN
  rw [zde h n]
theorem zhv {l:List zo} {rest:Bool} {k n:Nat} (h:lvN l rest k=none) (hk:k≤n):lvN l rest n=none:=by
 obtain ⟨m,rfl⟩:=Nat.exists_eq_add_of_le hk
 exact zde h m
theorem zel {l:List zo} {rest:Bool} (hv:IV l):∀ {k:Nat} {out:List zo},lvN l rest k=some out→IV out∧out.length≤400
 | 0,out,h=>by
  simp only [lvN,Option.some.injEq] at h;subst h
  exact ⟨zei,by simp⟩
 | k+1,out,h=>by
  unfold lvN at h
  split at h
  ·cases h
  ·rename_i o ho
   split at h
   ·cases h
   ·rename_i lv hl
    split at h
    ·rename_i q
     injection h with h;subst h
     have ih:=zel hv ho
     have hi:=zhD hv rest k
     have:=zbd hi.1 hi.2 (hv.take k).aB hl
     exact ⟨zeh ih.1 (zek this.1 this.2.1),q⟩
    ·cases h
theorem zaY (x y:List zo) (a:Bool):acs (x++y) a=acs x a++acs y a:=by simp [acs]
theorem za4 (l:List za) (b a:Bool):acs (dec l b) a=if b=a then l else []:=by
 unfold acs dec
 split
 ·rename_i e
  rw [List.filter_eq_self.2 (fun f hf=>by obtain ⟨c,_,rfl⟩:=List.mem_map.1 hf;simpa using e),List.map_map]
  exact List.map_id' l
 ·rename_i e
  rw [List.filter_eq_nil_iff.2 (fun f hf=>by obtain ⟨c,_,rfl⟩:=List.mem_map.1 hf;simpa using e)]
  rfl
theorem zgQ (x:List zo):(acs x true).length+(acs x false).length=x.length:=by
 induction x with
 | nil=>rfl
 | cons f x ih =>
  unfold acs at ih ⊢
  cases h:f.xAccept <;> simp [h] at ih ⊢ <;> omega
theorem zdd (x:List zo) (a:Bool):(acs x a).length≤x.length:=by
 unfold acs;rw [List.length_map];exact List.length_filter_le _ _
theorem zcC {x:List zo} (h:IV x) (a:Bool):aB (acs x a):=fun c hc=>by
 obtain ⟨f,hf,rfl⟩:=List.mem_map.1 hc
 exact (h f (List.mem_filter.1 hf).1).1
theorem zeN {l:List zo} {rest:Bool} (hv:IV l) (p:z7) (a:Bool):∀ {k:Nat} {out:List zo},k≤l.length→lvN l rest k=some out→(hbs (acs out a) p↔dcd (l.take k) p=some a)
 | 0,out,_,h=>by
  simp only [lvN,Option.some.injEq] at h;subst h
  simp [acs,hbs,dcd]
 | k+1,out,hk,h=>by
  have hlt:k<l.length:=by omega
  unfold lvN at h
  split at h
  ·cases h
  ·rename_i o ho
   split at h
   ·cases h
   ·rename_i lv hl
    split at h
    ·injection h with h;subst h
     have ih:=zeN hv p a (by omega) ho
     rw [zeB hlt] at hl ⊢
     have hi:=hv _ (List.getElem_mem hlt)
     have hlb:=zdv hi.1 (hv.take k).aB hl p
     rw [zaY,za4,yx,ih,List.take_succ_eq_append_getElem hlt,zcW,zg1]
     rw [← zdq] at hlb
     by_cases e:l[k].xAccept=a
     ·rw [if_pos e,hlb,e]
      cases hd:dcd (l.take k) p with
      | none=>by_cases c:hb4 l[k].xWhere p <;> simp [c]
      | some b=>simp
     ·rw [if_neg e]
      cases hd:dcd (l.take k) p with
      | none =>
       by_cases c:hb4 l[k].xWhere p
       ·simp [c,Xh,e]
       ·simp [c,Xh]
      | some b=>simp [Xh]
    ·cases h
theorem zf6 {l:List zo} {rest:Bool} (hv:IV l) {out:List zo} (h:pt l rest=some out) {p:z7} (hp:pv p) (a:Bool):hbs (acs out a) p↔jf l rest p=a:=by
 unfold pt lvN at h
 rw [zgk]
 split at h
 ·cases h
 ·rename_i o ho
  split at h
  ·cases h
  ·rename_i lv hl
   split at h
   ·injection h with h;subst h
    have ih:=zeN hv p a (Nat.le_refl _) ho
    rw [List.take_length] at ih hl
    rw [zey] at hl ⊢
    have hlb:=zdv UH hv.aB hl p
    rw [← zdq] at hlb
    rw [zaY,za4,yx,ih]
    simp only
    have ha:=zcV hp
    by_cases e:rest=a
    ·rw [if_pos e,hlb]
     cases hd:dcd l p with
     | none=>simp [ha,e]
     | some b=>simp
    ·rw [if_neg e]
     cases hd:dcd l p with
     | none=>simp [Xh,e]
     | some b=>simp [Xh]
   ·cases h
theorem zew {l:List zo} {rest:Bool} (hv:IV l) {out:List zo} (h:pt l rest=some out):IV out∧out.length≤400:=zel hv h
theorem zhJ {a:za} (ha:B4 a) (h:em4 a=false):∃ p,pv p∧hb4 a p:=by
 rw [zih] at h
 obtain ⟨h0,h1,h2,h3⟩:=h
 obtain ⟨p0,p1,p2,p3⟩:=ha
 obtain ⟨x0,e0⟩:=zeJ p0 h0
 obtain ⟨x1,e1⟩:=zeJ p1 h1
 obtain ⟨x2,e2⟩:=zeJ p2 h2
 obtain ⟨x3,e3⟩:=zeJ p3 h3
 exact ⟨⟨x0,x1,x2,x3⟩,⟨ZH p0 e0,ZH p1 e1,ZH p2 e2,ZH p3 e3⟩,e0,e1,e2,e3⟩
def ziN:Option (List zo)→uo×Bool
 | some out=>(⟨acs out true,acs out false⟩,true)
 | none=>(⟨[],[]⟩,false)
theorem zhh {out:List zo} {lv:List za} {acc:Bool} (h1:out.length≤100000) (h2:lv.length≤100000) {κ:Bool×List za×List za→Prop} (h:κ (decide ((out++dec lv acc).length≤400),acs (out++dec lv acc) true,acs (out++dec lv acc) false)):uu (acs out true) (acs out false) lv acc κ:=by
 unfold uu
 have hl:=zgQ out
 have hd:=zdN lv acc
 rw [zaY,zaY,za4,za4,List.length_append,hd] at h
 refine xx (zr (fun e=>?_) (fun e=>?_))
 ·subst e
  refine jx (by omega) (zG (by omega) (by rw [List.length_append];omega) ?_)
  rw [show decide ((((acs out true++lv).length:Nat):Int)+((acs out false).length:Int)≤400)=decide (out.length+lv.length≤400) from decide_eq_decide.2 (by rw [List.length_append];omega)]
  simpa using h
 ·subst e
  refine jx (by omega) (zG (by omega) (by rw [List.length_append];omega) ?_)
  rw [show decide (((acs out true).length:Int)+(((acs out false++lv).length:Nat):Int)≤400)=decide (out.length+lv.length≤400) from decide_eq_decide.2 (by rw [List.length_append];omega)]
  simpa using h
theorem zfI {l:List zo} {rest:Bool} {k:Nat} {out:List zo} (h:lvN l rest k=some out):lvN l rest (k+1)=match Ye (itm l rest k).xWhere (whs (l.take k)) with | none=>none | some lv=>if (out++dec lv (itm l rest k).xAccept).length≤400 then some (out++dec lv (itm l rest k).xAccept) else none:=by
 conv=>lhs;unfold lvN
 rw [h]
theorem zco {l:List zo} {rest:Bool} (hl:l.length≤100000) (hv:IV l) {κ:uo×Bool→Prop} (h:κ (ziN (pt l rest))):yX l rest κ:=by
 unfold yX
 have no:∀ {k},k≤l.length+1→lvN l rest k=none→κ (⟨[],[]⟩,false):=fun hk q=>by
  unfold pt at h;rw [zhv q hk] at h;exact h
 refine jb l.length (fun s=>s.2.2) (fun k (s:List za×List za×Int)=>s.2.2=(k:Int)∧k≤l.length∧∃ out,lvN l rest k=some out∧s.1=acs out true∧s.2.1=acs out false) (fun k s h=>h.1) (fun k s h=>h.2.1) ?_ ⟨rfl,by omega,[],rfl,rfl,rfl⟩
 rintro k ⟨_,_,_⟩ next ⟨rfl,hk,out,ho,hx,hy⟩ hn
 simp only at hx hy
 subst hx hy
 have hok:=zel hv ho
 have hst:=zfI ho
 refine zr (fun hc=>?_) (fun hc=>?_)
 ·have hlt:k<l.length:=by simpa using hc
  rw [zeB hlt] at hst
  have hk2:=hv _ (List.getElem_mem hlt)
  refine zt k rfl hlt (zfD hl hv hlt ?_)
  unfold zia
  cases hlr:Ye l[k].xWhere (whs (l.take k)) with
  | none =>
   rw [hlr] at hst
   exact xx (jt (jt (no (by omega) hst)))
  | some lv =>
   rw [hlr] at hst
   have hlo:=zbd hk2.1 hk2.2 (hv.take k).aB hlr
   have hl4:=hlo.2.2
   simp only at hst
   refine xx (jO (zhh (by omega) (by omega) ?_))
   by_cases q:(out++dec lv l[k].xAccept).length≤400
   ·rw [if_pos q] at hst
    rw [decide_eq_true q]
    exact jO (zG (by omega) (by omega) (hn hlt _ ⟨by simp,by omega,_,hst,rfl,rfl⟩))
   ·rw [if_neg q] at hst
    rw [decide_eq_false q]
    exact jt (no (by omega) hst)
 ·have hge:k=l.length:=by
   have:¬ (k:Int)<(l.length:Int):=of_decide_eq_false hc
   omega
  subst hge
  rw [zey,List.take_length] at hst
  refine Vm (zds (by omega) (zaA (bs:=whs l) V6.1 V6.2 hv.aB (by unfold whs;rw [List.length_map];omega) ?_))
  have hst':pt l rest=match Ye Yv (whs l) with | none=>none | some lv=>if (out++dec lv rest).length≤400 then some (out++dec lv rest) else none:=hst
  rw [hst'] at h
  cases hlr:Ye Yv (whs l) with
  | none =>
   rw [hlr] at h
   exact xx (jt (jt h))
  | some lv =>
   rw [hlr] at h
   have hl4:=(zbd V6.1 V6.2 hv.aB hlr).2.2
   simp only at h
   refine xx (jO (zhh (lv:=lv) (by omega) (by omega) ?_))
   by_cases q:(out++dec lv rest).length≤400
   ·rw [if_pos q] at h
    rw [decide_eq_true q]
    exact jO h
   ·rw [if_neg q] at h
    rw [decide_eq_false q]
    exact jt h
open Classical in
noncomputable def cv (s:jm):Option (List zo):=if SV s then cf s else none
end
section
open Go Go.Proofs
theorem zcE {a b:List za} (ha:aB a) (hb:aB b) (hla:a.length≤100000) (hlb:b.length≤100000) (hno:∀ x∈a,∀ y∈b,em4 (ut x y)=true) {κ:z7×Bool→Prop} (h:κ (⟨0,0,0,0⟩,false)):uX a b κ:=by
 unfold uX
 refine jb a.length (fun s=>s) (fun k s=>s=(k:Int)∧k≤a.length) (fun k s h=>h.1) (fun k s h=>h.2) ?_ ⟨rfl,by omega⟩
 rintro k _ next ⟨rfl,hk⟩ hn
 refine zr (fun hc=>?_) (fun _=>h)
 have hlt:k<a.length:=by simpa using hc
 have hm:a[k]∈a:=List.getElem_mem hlt
 refine zt k rfl hlt ?_
 refine jb b.length (fun s=>s) (fun k s=>s=(k:Int)∧k≤b.length) (fun k s h=>h.1) (fun k s h=>h.2) ?_ ⟨rfl,by omega⟩
 rintro j _ next2 ⟨rfl,hj⟩ hn2
 refine zr (fun hc=>?_) (fun _=>zG (by omega) (by omega) (hn hlt _ ⟨by simp,by omega⟩))
 have hjl:j<b.length:=by simpa using hc
 have hmj:b[j]∈b:=List.getElem_mem hjl
 refine zt j rfl hjl (Ui (ha _ hm) (hb _ hmj) ?_)
 have e:fpk a[k] b[j]=(⟨0,0,0,0⟩,false):=if_pos (hno _ hm _ hmj)
 rw [e]
 exact jO (zG (by omega) (by omega) (hn2 hjl _ ⟨by simp,by omega⟩))
theorem zbk {a b:List zo} {ra rb:Bool} (ha:IV a) (hb:IV b) (h:∀ p,pv p→jf a ra p=jf b rb p) {x y:List zo} (hx:pt a ra=some x) (hy:pt b rb=some y) (c:Bool):∀ u∈acs x c,∀ v∈acs y (!c),em4 (ut u v)=true:=fun u hu v hv=>by
 cases e:em4 (ut u v) with
 | true=>rfl
 | false =>
  exfalso
  obtain ⟨hxI,_⟩:=zew ha hx
  obtain ⟨hyI,_⟩:=zew hb hy
  obtain ⟨p,hp,k⟩:=zhJ (zbF (zcC hxI c u hu) (zcC hyI _ v hv)) e
  obtain ⟨k1,k2⟩:=(Uk u v p).1 k
  have e1:=(zf6 ha hx hp c).1 ⟨u,hu,k1⟩
  have e2:=(zf6 hb hy hp (!c)).1 ⟨v,hv,k2⟩
  have:=h p hp
  rw [e1,e2] at this
  cases c <;> cases this
theorem zdF {a b:List z8} {ra rb:Bool} (fa:FV a) (fb:FV b) (h:∀ p,pv p→jf (a.map fl) ra p=jf (b.map fl) rb p) {κ:Int→Prop} (h1:κ 1) (h2:κ (-1)):Zn a ra b rb κ:=by
 unfold Zn
 have a60:=fa.1
 have b60:=fb.1
 refine xx (Xa fa.fb ?_)
 rw [decide_eq_true fa]
 refine jO (Xa fb.fb ?_)
 rw [decide_eq_true fb]
 refine jO (zcn (by omega) (fun f hf=>Vf (fa.2 f hf)) (zco (by simp;omega) fa.iv (zcn (by omega) (fun f hf=>Vf (fb.2 f hf)) (zco (by simp;omega) fb.iv ?_))))
 cases hx:pt (a.map fl) ra with
 | none=>exact xx (jt (jt h2))
 | some x =>
  cases hy:pt (b.map fl) rb with
  | none=>exact xx (jO (jt h2))
  | some y =>
   obtain ⟨hxI,hxl⟩:=zew fa.iv hx
   obtain ⟨hyI,hyl⟩:=zew fb.iv hy
   refine xx (jO (jO ?_))
   unfold u9
   have l1:=zdd x true
   have l2:=zdd x false
   have l3:=zdd y true
   have l4:=zdd y false
   refine zcE (a:=acs x true) (b:=acs y false) (zcC hxI _) (zcC hyI _) (by omega) (by omega) (zbk fa.iv fb.iv h hx hy true) (jO ?_)
   exact zcE (a:=acs x false) (b:=acs y true) (zcC hxI _) (zcC hyI _) (by omega) (by omega) (zbk fa.iv fb.iv h hx hy false) (jO h1)
theorem zat (code:List UInt8):Zy code (fun r=>r=true):=by
 unfold Zy
 refine zr (fun _=>rfl) (fun hm=>?_)
 unfold yz Zv
 refine zfl (fun b hb=>zdG hb (by omega) (by omega) (by omega) (fun l p g1 g2 hl hbb=>uG ⟨hb,by omega,by omega⟩ (fun v _ _=>?_)))
 have hfb:Fb l:=⟨by omega,hbb⟩
 by_cases h:zeg l
 ·have hbs:Bs (frS l (decide (v=0))).xChains:=zhK h.2.1
  have hsv:=zgn (rest:=decide (v=0)) h
  refine X6 hfb (fun _=>X8 hfb (fun _=>?_) (fun q=>absurd h q)) (fun q=>absurd h q)
  refine xx (YD hbs (jO (zr (fun e=>by simp at e) (fun _=>?_))))
  refine U7 hbs.bd (fun _ u hu=>?_) (fun _=>?_)
  rotate_left
  ·exact xx (jO (jt (VJ rfl)))
  refine xx (jO (jO ?_))
  obtain ⟨u1,u2⟩:=zhi hsv hu
  refine zdF h.1 (ziI u1 u2) (fun p hp=>?_) (jt (VJ rfl)) (jt (VJ rfl))
  rw [zfj,← zh5 hp h,zhM hsv hu hp];rfl
 ·refine X6 hfb (fun q=>absurd q h) (fun _=>X8 hfb (fun q=>absurd q h) (fun _=>?_))
  refine xx (YD zh9 (jO (zr (fun e=>by simp at e) (fun _=>?_))))
  have hbd0:Bd (⟨[],false⟩:jm):=⟨by simp,by simp⟩
  refine U7 hbd0 (fun _ u hu=>?_) (fun _=>?_)
  ·exact xx (jt (VJ rfl))
  ·exact xx (jt (VJ rfl))
end
end Go.Proofs.YtgpdnnhmndlljaaGreatDoor
