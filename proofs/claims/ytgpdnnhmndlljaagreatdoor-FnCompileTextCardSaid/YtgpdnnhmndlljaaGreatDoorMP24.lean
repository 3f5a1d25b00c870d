import Derived.Test.YtgpdnnhmndlljaaGreatDoorMP23
set_option linter.unusedSimpArgs false
set_option linter.unusedVariables false
set_option linter.unusedSectionVars false
set_option maxHeartbeats 8000000
set_option maxRecDepth 100000
namespace Go.Proofs.YtgpdnnhmndlljaaGreatDoor
section
open Go.RowKit Go.Proofs.Tryz
variable {w0:World} {F:Nat->Prop}
theorem zgv:∀ (n:Nat) {w0:World} {F:Nat->Prop} {v1:Value} {p0:(List (List zo))} {p1:Int} {O:Int->Prop} (hF:Fr [] F w0) (hv1:Sl (z8 xQ) F w0 v1 p0) (h:Un n p0 p1 O),
  Cl prog 95 #[v1,(I p1)] w0 [] F O (fun r (u:Unit)=>(I r)) (fun r u=>[]):=by
 intro n;induction n with
 | zero =>
  intro w0 F v1 p0 p1 O hF hv1 h;exact (h:False).elim
 | succ n ih =>
  intro w0 F v1 p0 p1 O hF hv1 h;replace h:VB (Un n) p0 p1 O:=h;revert h ih;generalize Un n=rec;intro ih h;refine eS hF func95 ntmps95 h ?_;let JJ:=Jn 26 [] F w0;refine y0<|ma<|y2<|ma<|y4<|mv<|mv<|zz st 0 (zb hv1) xU<|fun e3 h4=>?_;obtain ⟨_,⟨v6,rfl,sl7⟩,rw5⟩:=jj hv1 h4;refine jC st (u:=v6) 0 rw5 Xq<|stw (zh call110 (fun w m h=>rfo jA (zbi zj (m.q 0 sl7) h))<|fun r9 v10=>zF st Zr 0 ze<|mv<|y5<|z7 (fun (t12,t13)=>JJ [(0,v1),(5,I t12),(12,v10),(13,I (r9.length:Int)),(14,I t13)] [zf xT 3 v10 r9,zl w0 F]) (jI [0,1]) ?_);rintro nx14 ⟨t12,t13⟩;refine nxj<|y0<|zX st<|y9<|zg ?_ ?_
  ·exact y11<|zz st 0 ze Zr<|fun e15 h16=>jb st (enc:=xy) (u:=(I e15)) 0 ze jA h16 ty3<|ma<|y17<|mv<|mv<|mv<|stw (zh call95 (fun w m h=>rf0 (ih zj (m.q 1 hv1) h))<|fun r17 _=>zO st<|fun t18=>zh5 st<|ma<|y15<|zO st<|fun t19=>mv<|zt<|lj [0,1])
  exact y7<|mv<|ma<|y3<|lu results95
theorem zhn {v1:Value} {p0:(List (List zo))} {p1:Int} {O:Int->Prop} (hF:Fr [] F w0) (hv1:Sl (z8 xQ) F w0 v1 p0) (h:zdf p0 p1 O) :
  Cl prog 95 #[v1,(I p1)] w0 [] F O (fun r (u:Unit)=>(I r)) (fun r u=>[]):=by
 obtain ⟨n,h⟩:=h;exact zgv n hF hv1 h
theorem zfY {v1:Value} {s_0:zB} {p1:Int} {O:Int->Prop} (hF:Fr [] F w0) (hv1:Sl (z8 xQ) F w0 v1 s_0.xChains) (hgl0:Sl zU F w0 (.slice (some ⟨0,0,none⟩) 4 4) zu) (h:Uw s_0 p1 O) :
  Cl prog 49 #[(.agg #[v1,(.bool s_0.xAccept)]),(I p1)] w0 [] F O (fun r (u:Unit)=>(I r)) (fun r u=>[]):=by
 refine eS hF func49 ntmps49 h ?_;let JJ:=Jn 23 [] F w0;refine y0 ?_;obtain ⟨a3,l4,q5,rfl⟩:=zA hv1;refine stw (jV [.slice a3 l4 q5,.bool s_0.xAccept]<|fun b6=>ma<|y9<|zM (fun t69=>JJ [(1,I p1),(2,pp b6),(18,.bool t69)] [zc b6 [.slice a3 l4 q5,.bool s_0.xAccept] 25,zl w0 F]) ?_ ?_)
 ·intro k70;refine zn<|zL st 0 uO<|stw (zh call63 (fun w m h=>rf0 (yS zj (m.q 1 hv1) (m.q 1 hgl0) h))<|fun r8 _=>jn st<|mv ?_);refine jF (dj:=8) rfl ?_ ?_
  ·refine ss ?_;refine ss ?_;refine zK st<|mv ?_;refine ss ?_;refine ss ?_;refine ss ?_;refine ss ?_;refine ss ?_;exact zK st<|zt<|lj [0,1]
  refine zp sg<|zX sg ?_;refine zD st<|mv ?_;refine jF (dj:=12) rfl ?_ ?_
  ·refine ss ?_;refine ss ?_;refine ss ?_;refine ss ?_;refine ss ?_;exact zK st<|zt<|lj [0,1]
  refine zp sg<|zfl sg sg jY 0 yX<|zF sg xU 1 (zb hv1)<|V0 sg ?_;exact zD st<|zt<|lj [0,1]
 rintro t69;refine nxj<|zg ?_ ?_
 ·exact y0<|ma<|y6<|lu results49
 exact y8<|zfl st st jY 0 yX<|mv<|stw (zh call95 (fun w m h=>rf0 (zhn zj (m.q 1 hv1) h))<|fun r71 _=>ma<|y3<|lu results49)
end
section
open Go.RowKit Go.Proofs.Tryz
variable {w0:World} {F:Nat->Prop}
theorem zcP {v1 v3:Value} {code_0 p1:(List UInt8)} {O:Bool->Prop} (hF:Fr [] F w0) (hv1:Sl zbn F w0 v1 code_0) (hv3:Sl zbn F w0 v3 p1) (hgl0:Sl zU F w0 (.slice (some ⟨0,0,none⟩) 4 4) zu) (hgl1:Tb F w0) (h:Up code_0 p1 O) :
  Cl prog 11 #[v1,v3] w0 [] F O (fun r (u:Unit)=>(.bool r)) (fun r u=>[]):=by
 refine eS hF func11 ntmps11 h ?_;let JJ:=Jn 105 [] F w0;refine y0<|ma<|y9<|zM (fun t65=>JJ [(0,v1),(1,v3),(24,.bool t65)] [zl w0 F]) ?_ ?_
 ·intro k66;refine zn<|mv<|zF st zd3 0 (zb hv1)<|ug st<|mv ?_;refine jF (dj:=20) rfl ?_ ?_
  ·refine ss ?_;refine ss ?_;refine ss ?_;exact zK st<|zt<|lj [0]
  refine zp sg<|zF sg zd3 0 (zb hv3)<|ug sg ?_;exact zD st<|zt<|lj [0]
 rintro t65;refine nxj<|zg ?_ ?_
 ·exact y0<|ma<|y6<|lu results11
 refine y8<|mv<|stw (zh call46 (fun w m h=>zcc jL (m.roS 0 rfl hv1) h)<|fun r67 v68=>ma<|y2<|mv<|stw (zh call42 (fun w m h=>rfo xh (zed zj (m.rd0 0 rfl uG) (m.q 1 hgl0) ((hgl1.of (m.get (i:=1) rfl)).mono jL) h)) ?_));rintro ⟨r70,r73⟩ v71;refine mv<|zW st (vs:=[v71,.bool r73])<|zW st (vs:=[v71,.bool r73])<|ma<|ma<|y2<|mv<|stw (zh call40 (fun w m h=>rfo xh (zdT zj (m.rd0 1 rfl uG) h)) ?_);rintro ⟨r74,r77⟩ v75;refine mv<|zW st (vs:=[v75,.bool r77])<|zW st (vs:=[v75,.bool r77])<|ma<|ma<|y9<|zM (fun t139=>JJ [(1,v3),(5,v68),(6,v71),(7,.bool r73),(45,.bool t139)] [zf Zg 9 v71 r70,xB Zg v68 r67,zl w0 F]) ?_ ?_
 ·intro k140;refine zn<|mv<|mv<|stw (zh call47 (fun w m h=>rf0 (zfS zj (m.rd0 1 rfl ze) (m.rd0 0 rfl ze) h))<|fun r78 _=>jn st<|mv ?_);refine jF (dj:=41) rfl ?_ ?_
  ·refine ss ?_;refine ss ?_;refine ss ?_;exact zK st<|zt<|lj [1,2,3]
  refine zp sg<|zp sg<|zmw sg zkN ?_;exact zD st<|zt<|lj [1,2,3]
 rintro t139;refine nxj<|zg ?_ ?_
 ·exact y0<|ma<|y6<|lu results11
 refine y13<|mv<|jn st<|y1<|zg ?_ ?_
 ·refine zM (fun t202=>JJ [(4,.bool t202)] [zl w0 F]) ?_ ?_
  ·intro k203;refine zn<|mv<|zF st Zf 0 ze<|js st xo<|mv ?_;refine jF (dj:=51) rfl ?_ ?_
   ·refine X0 rfl rfl (zh call15 (fun w m h=>rf0 (zkc zj h)) ?_);rintro r141 _;exact zK st<|ma<|zt<|lj [2]
   refine ss ?_;exact zD st<|ma<|zt<|lj [2]
  rintro t202;refine nxj<|uq (xq ?_);exact lu results11
 refine y8<|mv<|stw (zh call48 (fun w m h=>rfD (U9 zj (m.rd0 1 rfl uG) (m.q 2 hgl0) ((hgl1.of (m.get (i:=2) rfl)).mono jL) h)) ?_);rintro ⟨r204,r208⟩ ⟨v205,bb206⟩;refine mv<|zW st (vs:=[.agg #[v205,.bool r204.xAccept],.bool r208])<|zW st (vs:=[.agg #[v205,.bool r204.xAccept],.bool r208])<|stw (zS [S0,.bool false] Vc<|fun b209=>xS 1 rfl ?_);rintro a211 l212 q213 rfl;refine stw (zH (cs':=[.slice a211 l212 q213,.bool r204.xAccept]) 0 uO<|ma<|y2<|mv<|stw (zh call48 (fun w m h=>rfD (U9 zj (m.rd0 2 rfl ze) (m.q 4 hgl0) ((hgl1.of (m.get (i:=4) rfl)).mono jL) h)) ?_));rintro ⟨r214,r218⟩ ⟨v215,bb216⟩;refine mv<|zW st (vs:=[.agg #[v215,.bool r214.xAccept],.bool r218])<|zW st (vs:=[.agg #[v215,.bool r214.xAccept],.bool r218])<|stw (zS [S0,.bool false] Vc<|fun b219=>xS 1 rfl ?_);rintro a221 l222 q223 rfl;refine stw (zH (cs':=[.slice a221 l222 q223,.bool r214.xAccept]) 0 uO<|ma<|y2<|zL st 2 uO<|stw (zh call24 (fun w m h=>rfD (zii zj (m.rd0 3 rfl z6) (m.q 6 hgl0) h)) ?_));rintro ⟨r224,r228⟩ ⟨v225,bb226⟩;refine mv<|zW st (vs:=[v225,.bool r228])<|zW st (vs:=[v225,.bool r228])<|ma<|ma<|y2<|mv<|stw (zh call18 (fun w m h=>rfD (zfK zj (m.rd0 0 rfl z6) (m.q 7 hgl0) h)) ?_);rintro r229 ⟨v230,bb231⟩;refine mv<|zF st zd3 8 (zb hv3)<|stw (zh call17 (fun w m h=>rf0 (zjs zj (m.rd0 0 rfl z6) h))<|fun r233 _=>stw (zS [I 0,I 0,I 0,I 0] zfE<|fun b234=>stw (zH (cs':=[I r233.xFrom,I r233.xTo,I r233.xPort,I r233.xProto]) 0 zbO<|y1<|zM (fun t299=>JJ [(4,.bool t299)] [zl w0 F]) ?_ ?_)))
 ·intro k300;refine xA mixed 32 rfl [zc b234 [I r233.xFrom,I r233.xTo,I r233.xPort,I r233.xProto] 34,jq uM 94 bb231 v230 r229,jq x6 101 bb226 v225 r224,zc b219 [.slice a221 l222 q223,.bool r214.xAccept] 25,jq (dSl zJ 77) 47 bb216 (.slice a221 l222 q223) r214.xChains,zc b209 [.slice a211 l212 q213,.bool r204.xAccept] 25,jq (dSl zJ 77) 47 bb206 (.slice a211 l212 q213) r204.xChains,zf Zg 9 v71 r70,xB Zg v68 r67,zl w0 F]<|zp (dI 0)<|zp (dI 1) ?_;refine jF (dj:=75) rfl ?_ ?_
  ·refine zp (dG 2) ?_;refine zK (dI 3)<|zp (dI 4) ?_;refine jF (dj:=78) rfl ?_ ?_
   ·refine zfl (dG 5) (dG 6) jY 3 yX<|zF (dG 7) xU 4 z6<|js (dG 8) xo ?_;refine zK (dI 9)<|zp (dI 10) ?_;refine jF (dj:=84) rfl ?_ ?_
    ·refine zL (dG 11) 3 uO<|za7 (i:=12) rfl rfl rfl (by kernel_rfl) (zh call49 (fun w m h=>rf0 (zfY zj (m.rd0 4 rfl z6) (m.q 9 hgl0) h)) ?_);rintro r236 _;refine da0<|js (dG 13) xo ?_;refine zK (dI 14)<|zp (dI 15) ?_;refine jF (dj:=89) rfl ?_ ?_
     ·refine zL (dG 16) 3 uO<|zL (dG 17) 0 zbO<|zL (dG 19) 5 uO<|zL (dG 20) 0 zbO<|za7 (i:=18) rfl rfl rfl (by kernel_rfl) (zh call19 (fun w m h=>rf0 (zeS zj (m.rd0 4 rfl z6) (m.q 9 hgl0) h)) ?_);rintro r237 _;refine da0<|za7 (i:=21) rfl rfl rfl (by kernel_rfl) (zh call19 (fun w m h=>rf0 (zeS zj (m.rd0 6 rfl z6) (m.q 9 hgl0) h)) ?_);rintro r238 _;refine da0<|zdr (dG 22) zkN ?_;refine zK (dI 23)<|zp (dI 24) ?_;refine jF (dj:=98) rfl ?_ ?_
      ·refine zfl (dG 25) (dG 26) Vz 3 ty4<|zfl (dG 27) (dG 28) Vz 5 ty4<|zdr (dG 29) zkN ?_;exact zK (dI 30)<|jU (dI 31)<|zY<|lj [9]
      refine dK3 25 26 27 ?_;refine dK2 28 29 ?_;exact zD (dI 30)<|jU (dI 31)<|zY<|lj [9]
     refine dK4 16 17 18 19 ?_;refine dK3 20 21 22 ?_;refine zD (dI 23)<|zp (dI 24) ?_;refine dK3 25 26 27 ?_;refine dK2 28 29 ?_;exact zD (dI 30)<|jU (dI 31)<|zY<|lj [9]
    refine dK3 11 12 13 ?_;refine zD (dI 14)<|zp (dI 15) ?_;refine dK4 16 17 18 19 ?_;refine dK3 20 21 22 ?_;refine zD (dI 23)<|zp (dI 24) ?_;refine dK3 25 26 27 ?_;refine dK2 28 29 ?_;exact zD (dI 30)<|jU (dI 31)<|zY<|lj [9]
   refine dK4 5 6 7 8 ?_;refine zD (dI 9)<|zp (dI 10) ?_;refine dK3 11 12 13 ?_;refine zD (dI 14)<|zp (dI 15) ?_;refine dK4 16 17 18 19 ?_;refine dK3 20 21 22 ?_;refine zD (dI 23)<|zp (dI 24) ?_;refine dK3 25 26 27 ?_;refine dK2 28 29 ?_;exact zD (dI 30)<|jU (dI 31)<|zY<|lj [9]
  refine dK 2 ?_;refine zD (dI 3)<|zp (dI 4) ?_;refine dK4 5 6 7 8 ?_;refine zD (dI 9)<|zp (dI 10) ?_;refine dK3 11 12 13 ?_;refine zD (dI 14)<|zp (dI 15) ?_;refine dK4 16 17 18 19 ?_;refine dK3 20 21 22 ?_;refine zD (dI 23)<|zp (dI 24) ?_;refine dK3 25 26 27 ?_;refine dK2 28 29 ?_;exact zD (dI 30)<|jU (dI 31)<|zY<|lj [9]
 rintro t299;exact nxj<|uq<|lu results11
end
end Go.Proofs.YtgpdnnhmndlljaaGreatDoor
