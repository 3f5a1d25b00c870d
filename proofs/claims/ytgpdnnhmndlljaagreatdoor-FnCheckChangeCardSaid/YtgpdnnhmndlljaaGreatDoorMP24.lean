import Derived.Test.YtgpdnnhmndlljaaGreatDoorMP23
set_option linter.unusedSimpArgs false
set_option linter.unusedVariables false
set_option linter.unusedSectionVars false
set_option maxHeartbeats 8000000
set_option maxRecDepth 100000
namespace Go.Proofs.YtgpdnnhmndlljaaGreatDoor
section
open Go.RowKit
variable {w0:World} {F:Nat→Prop}
theorem za4 {b1:Nat} {v2 v4:Value} {a_0:uA} {w_1_stack:(List jF)} {w_1_visits:(List uX)} {w_1_decision:Int} {κ:(List jF)→Prop} (hF:Fr [zb b1 [v2,v4,(I w_1_decision)] 157,zf jL 208 v2 w_1_stack,zf jH 212 v4 w_1_visits] F w0) (hg:uj [zb b1 [v2,v4,(I w_1_decision)] 157,zf jL 208 v2 w_1_stack,zf jH 212 v4 w_1_visits] F w0) (h:Zz a_0 w_1_stack w_1_visits w_1_decision κ) :
  Cl Tryz.prog 286 #[(.agg #[]),(pp b1)] w0 [zb b1 [v2,v4,(I w_1_decision)] 157,zf jL 208 v2 w_1_stack,zf jH 212 v4 w_1_visits] F κ (fun r (u:Value)=>.tuple #[]) (fun r u=>[zb b1 [u,v4,(I w_1_decision)] 157,zf jL 208 u r,zf jH 212 v4 w_1_visits]):=by
 refine XR (args:=[.agg #[],pp b1]) [zb b1 [v2,v4,I w_1_decision] 157,zf jL 208 v2 w_1_stack,zf jH 212 v4 w_1_visits] hF hg Tryz.func286 rfl Tryz.ntmps286 rfl h ?_;clear h hF hg;refine y0 ?_;refine stw (xp [] ?_);intro b7;refine y17 ?_;refine mv ?_;refine pk' [1,2,3,0] ?_;refine stw (jg (M0:=[zb b1 [v2,v4,I w_1_decision] 157,zf jL 208 v2 w_1_stack,zf jH 212 v4 w_1_visits]) Tryz.call164 (by intro w m h;exact rf (fun _ _=>(zz zR (zz (jW uK) (zz (jW Zm) zO)))) (V7 (w_0_stack:=w_1_stack) (w_0_visits:=w_1_visits) (w_0_decision:=w_1_decision) zm m.given h)) ?_);rintro r9 v10;refine zu ?_;exact Uo Tryz.results286 r9 v10 rfl (fun w m=>zP.ofB m [0,1,2] rfl)
theorem zbZ {b1:Nat} {v2 v4:Value} {a_0:yl} {a_1_stack:(List jF)} {a_1_visits:(List uX)} {a_1_decision:Int} {κ:Unit→Prop} (hF:Fr [zb b1 [v2,v4,(I a_1_decision)] 157,zf jL 208 v2 a_1_stack,zf jH 212 v4 a_1_visits] F w0) (hg:uj [zb b1 [v2,v4,(I a_1_decision)] 157,zf jL 208 v2 a_1_stack,zf jH 212 v4 a_1_visits] F w0) (h:Z2 a_0 a_1_stack a_1_visits a_1_decision κ) :
  Cl Tryz.prog 289 #[(.agg #[]),(pp b1)] w0 [zb b1 [v2,v4,(I a_1_decision)] 157,zf jL 208 v2 a_1_stack,zf jH 212 v4 a_1_visits] F κ (fun r (u:Unit)=>.tuple #[]) (fun r u=>[zb b1 [v2,v4,(I a_1_decision)] 157,zf jL 208 v2 a_1_stack,zf jH 212 v4 a_1_visits]):=by
 refine XR (args:=[.agg #[],pp b1]) [zb b1 [v2,v4,I a_1_decision] 157,zf jL 208 v2 a_1_stack,zf jH 212 v4 a_1_visits] hF hg Tryz.func289 rfl Tryz.ntmps289 rfl h ?_;clear h hF hg;refine zp ?_;refine stw (xp [] ?_);intro b7;refine zu ?_;exact Uo Tryz.results289 () () rfl (fun w m=>zP.ofB m [1,2,3] rfl)
theorem zck {v1:Value} {s_0:zN} {p_1:zW} {κ:((List jF)×(List uX)×Int)→Prop} (hF:Fr [] F w0) (hv1:Sl (zQ xt) F w0 v1 s_0.xChains) (h:Xx s_0 p_1 κ) :
  Cl Tryz.prog 114 #[(.agg #[v1,(.bool s_0.xAccept)]),(.agg #[(I p_1.xFrom),(I p_1.xTo),(I p_1.xPort),(I p_1.xProto)])] w0 [] F κ (fun r (u:Nat×Value×Value)=>.pointer (some ⟨u.1,0,none⟩)) (fun r u=>[zb u.1 [u.2.1,u.2.2,(I r.2.2)] 157,zf jL 208 u.2.1 r.1,zf jH 212 u.2.2 r.2.1]):=by
 refine eS hF Tryz.func114 Tryz.ntmps114 h ?_;clear h hF;let JJ:=Jn 102 [] F w0;refine y0 ?_;obtain ⟨a3,l4,q5,rfl⟩:=zw hv1;refine stw (xp [.slice a3 l4 q5,.bool s_0.xAccept] ?_);intro b6;refine stw (xp [I p_1.xFrom,I p_1.xTo,I p_1.xPort,I p_1.xProto] ?_);intro b8;refine ma ?_;refine y2 ?_;refine jP st (cells:=[I 0,I 0]) (bqi rfl) zku ?_;refine stw (jX (enc:=ZG) (cells:=[I 0,I 0]) ([jF.mk 0 0]) uK (bqi rfl) zbA zet ?_);intro v10;refine xF 0 rfl ?_;rintro a12 l13 q14 rfl;refine jP st (cells:=[.slice a12 l13 q14,S0,I 5]) (bqi rfl) zm7 ?_;refine stw (xp [.slice a12 l13 q14,S0,I 5] ?_);intro b15;refine ma ?_;refine zu (zY (jA (uq ?_)));refine jn (σ:=((List jF)×(List uX)×Int)) (fun (xs18,xs22,t25) a w=>∃ (v17:Value) (v21:Value),JJ [(2,pp b6),(3,pp b8),(5,pp b15)] [zb b15 [v17,v21,I t25] 157,zb b8 [I p_1.xFrom,I p_1.xTo,I p_1.xPort,I p_1.xProto] 34,zb b6 [.slice a3 l4 q5,.bool s_0.xAccept] 25,zl w0 F,zf jL 208 v17 xs18,zf jH 212 v21 xs22] a w) (fun a w hE hm=>⟨.slice a12 l13 q14,S0,hE.sub g3,(zbW jH 212 hm).pick [1,3,4,5,2,0] rfl⟩) ?_;rintro nx26 ⟨xs18,xs22,t25⟩ a w ⟨v17,v21,hE,hm⟩ h;refine jt hE hm h ?_;clear hE hm h;refine jA ?_;refine zT (σ:=Bool) (fun t87=>JJ [(2,pp b6),(3,pp b8),(5,pp b15),(25,.bool t87)] [zb b15 [v17,v21,I t25] 157,zb b8 [I p_1.xFrom,I p_1.xTo,I p_1.xPort,I p_1.xProto] 34,zb b6 [.slice a3 l4 q5,.bool s_0.xAccept] 25,zf jL 208 v17 xs18,zf jH 212 v21 xs22,zl w0 F]) ?_ ?_
 ·intro k88;refine zp ?_;refine mv ?_;refine xa st ?_;refine zt st Vb ?_;refine zk st (v:=v17) 0 za3 ?_;refine zK st zbA 4 zg ?_;refine xZ st ?_;refine mv ?_;refine jO (dj:=19) rfl ?_ ?_
  ·refine zr (zH rfl rfl) ?_;refine xa (zH rfl rfl) ?_;refine zt (zH rfl rfl) zc8 ?_;refine zk (zH rfl rfl) (v:=(I t25)) 0 ty3 ?_;refine jB (zH rfl rfl) xS ?_;refine zG st ?_;refine zu ?_;exact lj [0,1,2,4,5,3]
  ·refine ss ?_;refine ss ?_;refine ss ?_;refine ss ?_;refine ss ?_;refine zI st ?_;refine zu ?_;exact lj [0,1,2,4,5,3]
 ·rintro t87;refine nxj ?_;refine zj ?_ ?_
  ·refine xc (zY (uq (jA ?_)));refine xF 3 rfl ?_;rintro a89 l90 q91 rfl;refine xF 4 rfl ?_;rintro a92 l93 q94 rfl;refine x8 mixed 12 rfl [zb b15 [.slice a89 l90 q91,.slice a92 l93 q94,I t25] 157,zb b8 [I p_1.xFrom,I p_1.xTo,I p_1.xPort,I p_1.xProto] 34,zb b6 [.slice a3 l4 q5,.bool s_0.xAccept] 25,zf jL 208 (.slice a89 l90 q91) xs18,zf jH 212 (.slice a92 l93 q94) xs22,zl w0 F] ?_;refine zr (dI 0) ?_;refine xa (dI 1) ?_;refine zt (dI 2) Vb ?_;refine zk (dI 3) (v:=(.slice a89 l90 q91)) 0 za3 ?_;refine zr (dI 4) ?_;refine xa (dI 5) ?_;refine zt (dI 6) Vb ?_;refine zk (dI 7) (v:=(.slice a89 l90 q91)) 0 za3 ?_;refine zK (dI 8) zbA 3 zg ?_;refine Zw (dI 9) ?_;intro t95;refine zF (dI 10) 3 zg zbA ?_;intro e96 h97;refine xy (dI 11) ?_;refine jv (by kernel_rfl) ?_;refine zY (jA ?_);refine x8 mixed 9 rfl [zb b15 [.slice a89 l90 q91,.slice a92 l93 q94,I t25] 157,zb b8 [I p_1.xFrom,I p_1.xTo,I p_1.xPort,I p_1.xProto] 34,zb b6 [.slice a3 l4 q5,.bool s_0.xAccept] 25,zf jL 208 (.slice a89 l90 q91) xs18,zf jH 212 (.slice a92 l93 q94) xs22,zl w0 F] ?_;refine zt (dI 0) xD ?_;refine zk (dI 1) (v:=(.slice a3 l4 q5)) 2 yR ?_;refine zr (dI 2) ?_;refine zbI (dI 3) 3 zg h97 ?_;refine jD (dI 4) 3 zg h97 zhH ?_;refine jG (dI 5) (enc:=ZG) (u:=(I e96.xChain)) 3 zg uK h97 ty3 ?_;refine zF (dI 6) 5 (zc hv1) u7 ?_;intro e98 h99;obtain ⟨_,⟨v101,rfl,sl102⟩,rw100⟩:=jm hv1 h99;refine jz (dI 7) (u:=v101) 5 rw100 Ya ?_;refine xy (dI 8) ?_;refine jv (by kernel_rfl) ?_;refine zY (jA (jA (zp ?_)));refine mv ?_;refine zbI st 3 zg h97 ?_;refine jD st 3 zg h97 zct ?_;refine jG st (enc:=ZG) (u:=(I e96.xNext)) 3 zg uK h97 ty3 ?_;refine mv ?_;refine zK st yG 5 (zc sl102) ?_;refine jB st xS ?_;refine y1 ?_;refine zj ?_ ?_
   ·refine y0 ?_;refine mv ?_;refine pk' [0,3,4,1,2,5] ?_;refine stw (jg (M0:=[zb b15 [.slice a89 l90 q91,.slice a92 l93 q94,I t25] 157,zf jL 208 (.slice a89 l90 q91) xs18,zf jH 212 (.slice a92 l93 q94) xs22]) Tryz.call164 (by intro w m h;exact rf (fun _ _=>(zz zR (zz (jW uK) (zz (jW Zm) zO)))) (V7 (w_0_stack:=xs18) (w_0_visits:=xs22) (w_0_decision:=t25) zm m.given h)) ?_);rintro r104 v105;refine zu (zY (Xc (uQ (Z5 ?_))));exact zM (r104,xs22,t25) (fun a w hE hm=>⟨v105,.slice a92 l93 q94,hE.sub g3,hm.pick [0,3,4,5,1,2] rfl⟩)
   ·refine y8 ?_;refine mv ?_;refine zbI st 3 zg h97 ?_;refine jD st 3 zg h97 zct ?_;refine jG st (enc:=ZG) (u:=(I e96.xNext)) 3 zg uK h97 ty3 ?_;refine ma ?_;refine y2 ?_;refine mv ?_;refine zbI st 3 zg h97 ?_;refine jD st 3 zg h97 zct ?_;refine jG st (enc:=ZG) (u:=(I e96.xNext)) 3 zg uK h97 ty3 ?_;refine zV st ?_;intro t107;refine zbI st 3 zg h97 ?_;refine jD st 3 zg h97 zct ?_;refine stw (VO (enc:=ZG) (y':=(jF.mk e96.xChain t107)) 3 uK h97 ty3 ?_);refine zu (zY (jA (jA ?_)));refine x8 mixed 8 rfl [zb b15 [.slice a89 l90 q91,.slice a92 l93 q94,I t25] 157,zb b8 [I p_1.xFrom,I p_1.xTo,I p_1.xPort,I p_1.xProto] 34,zb b6 [.slice a3 l4 q5,.bool s_0.xAccept] 25,zf jL 208 (.slice a89 l90 q91) (xs18.set (t95).toNat (jF.mk e96.xChain t107)),zf jH 212 (.slice a92 l93 q94) xs22,zl w0 F] ?_;refine zr (dI 0) ?_;refine zr (dI 1) ?_;refine zF (dI 2) 5 (zc sl102) yG ?_;intro e109 h110;refine jD (dI 3) 5 (zc sl102) h110 VW ?_;obtain ⟨_,⟨v112,rfl,sl113⟩,rw111⟩:=jm sl102 h110;refine jz (dI 4) (u:=v112) 5 rw111 zid ?_;refine zk (dI 5) (v:=(.agg #[I p_1.xFrom,I p_1.xTo,I p_1.xPort,I p_1.xProto])) 1 VT ?_;refine d1 6 rfl (zi Tryz.call165 (by intro w m h;exact rf0 (zfu (list_0:=e109.xTests) (p_1:=p_1) zm (m.q 5 sl113) h)) ?_);rintro r115 _;refine uD (fun _ m=>m) ?_;refine jp (dI 7) ?_;refine jv (by kernel_rfl) ?_;refine zY ?_;refine zj ?_ ?_
    ·refine Xc (uQ (Z5 ?_));exact zM (xs18.set (t95).toNat (jF.mk e96.xChain t107),xs22,t25) (fun a w hE hm=>⟨.slice a89 l90 q91,.slice a92 l93 q94,hE.sub g3,hm.pick [0,1,2,5,3,4] rfl⟩)
    ·refine y18 ?_;refine zT (σ:=(List uX)) (fun xs187 a w=>∃ (v188:Value),JJ [(2,pp b6),(3,pp b8),(5,pp b15),(7,v101),(8,I e96.xNext)] [zb b15 [.slice a89 l90 q91,v188,I t25] 157,zb b8 [I p_1.xFrom,I p_1.xTo,I p_1.xPort,I p_1.xProto] 34,zb b6 [.slice a3 l4 q5,.bool s_0.xAccept] 25,zf jL 208 (.slice a89 l90 q91) (xs18.set (t95).toNat (jF.mk e96.xChain t107)),zf jH 212 v188 xs187,zl w0 F] a w) ?_ ?_
     ·intro k190;refine y0 ?_;refine mv ?_;refine xa st ?_;refine zt st zcE ?_;refine zk st (v:=(.slice a92 l93 q94)) 0 zhu ?_;refine zK st zhQ 4 zg ?_;refine jd st ?_;refine y1 ?_;refine zj ?_ ?_
      ·refine ZB (σ:=(List uX)) (fun xs116 a w=>∃ (v117:Value),JJ [(2,pp b6),(3,pp b8),(5,pp b15),(7,v101),(8,I e96.xNext)] [zb b15 [.slice a89 l90 q91,v117,I t25] 157,zb b8 [I p_1.xFrom,I p_1.xTo,I p_1.xPort,I p_1.xProto] 34,zb b6 [.slice a3 l4 q5,.bool s_0.xAccept] 25,zf jL 208 (.slice a89 l90 q91) (xs18.set (t95).toNat (jF.mk e96.xChain t107)),zf jH 212 v117 xs116,zl w0 F] a w) ?_ ?_
       ·intro k119;refine ur mixed 16 rfl [zb b8 [I p_1.xFrom,I p_1.xTo,I p_1.xPort,I p_1.xProto] 34,zb b6 [.slice a3 l4 q5,.bool s_0.xAccept] 25,zf jL 208 (.slice a89 l90 q91) (xs18.set (t95).toNat (jF.mk e96.xChain t107)),zl w0 F] ?_;intro Qd hP hQ;refine zr (dp 0 [1,2,3,5]) ?_;refine zr (dp 1 [1,2,3,5]) ?_;refine xa (dp 2 [1,2,3,5]) ?_;refine zt (dp 3 [1,2,3,5]) zcE ?_;refine zr (dp 5 [1,2,3,5]) ?_;refine zbI (dp 6 [1,2,3,5]) 2 zg (znD h97) ?_;refine jD (dp 7 [1,2,3,5]) 2 zg (znD h97) zhH ?_;refine jG (dp 8 [1,2,3,5]) (enc:=ZG) (u:=(I e96.xChain)) 2 zg uK (znD h97) ty3 ?_;refine zr (dp 9 [1,2,3,5]) ?_;refine jP (dp 10 [1,2,3,5]) (cells:=[I e96.xChain,I e96.xNext]) (bqi rfl) znl ?_;refine dtw 4 11 rfl rfl ?_ ?_
        ·refine zk xq (v:=(.slice a92 l93 q94)) 0 zhu ?_;refine da [1,2,3,5] ?_;refine pk' [0,1,2,3,4,5] ?_;refine d1 11 rfl (jX (enc:=zaA) (cells:=[I e96.xChain,I e96.xNext]) ([uX.mk e96.xChain e96.xNext]) Zm (bqi rfl) zhQ zew ?_);intro v120;refine da [2,3,4,6] ?_;refine pk' [0,1,2,3,4,5,6] ?_;refine d1 12 rfl (xo 5 0 (ub Zm zg) zhQ zew ?_);intro v121;refine da [2,3,4,6] ?_;refine pk' [1,2,3,4,5,6] ?_;refine xa (dp 13 [1,2,3,5]) ?_;refine zt (dp 14 [1,2,3,5]) zcE ?_;refine xF 4 rfl ?_;rintro a123 l124 q125 rfl;refine d1 15 rfl (zU (cs':=[.slice a89 l90 q91,.slice a123 l124 q125,I t25]) 0 zhu ?_);refine da [1,2,3,5] ?_;refine pk' [0,1,2,3,4,5] ?_;refine jv (by kernel_rfl) ?_;exact fun a w hE hm hφ=>hQ (xs22++([uX.mk e96.xChain e96.xNext])) a w hφ ((jE (.slice a123 l124 q125) [0,1,2,3,4,5]) a w hE hm)
        ·refine jX (enc:=zaA) (cells:=[I e96.xChain,I e96.xNext]) ([uX.mk e96.xChain e96.xNext]) Zm (bqi rfl) zhQ zew ?_;intro v126;refine da [2,3,4,6] ?_;refine pk' [0,1,2,3,4,5,6] ?_;refine d1 4 rfl (zk xq (v:=(.slice a92 l93 q94)) 1 zhu ?_);refine da [2,3,4,6] ?_;refine pk' [0,1,2,3,4,5,6] ?_;refine d1 12 rfl (xo 5 0 (ub Zm zg) zhQ zew ?_);intro v121;refine da [2,3,4,6] ?_;refine pk' [1,2,3,4,5,6] ?_;refine xa (dp 13 [1,2,3,5]) ?_;refine zt (dp 14 [1,2,3,5]) zcE ?_;refine xF 4 rfl ?_;rintro a123 l124 q125 rfl;refine d1 15 rfl (zU (cs':=[.slice a89 l90 q91,.slice a123 l124 q125,I t25]) 0 zhu ?_);refine da [1,2,3,5] ?_;refine pk' [0,1,2,3,4,5] ?_;refine jv (by kernel_rfl) ?_;exact fun a w hE hm hφ=>hQ (xs22++([uX.mk e96.xChain e96.xNext])) a w hφ ((jE (.slice a123 l124 q125) [0,1,2,3,4,5]) a w hE hm)
       ·rintro xs116 a w ⟨v117,hE,hm⟩ h;refine jt hE hm h ?_;clear hE hm h;exact zM xs116 (jE v117 [0,1,2,3,4,5])
      ·refine xc ?_;exact zM xs22 (jE (.slice a92 l93 q94) [0,1,2,3,4,5])
     ·rintro xs187 a w ⟨v188,hE,hm⟩ h;refine jt hE hm h ?_;clear hE hm h;refine zp ?_;refine mv ?_;refine mv ?_;refine zF st 5 (zc sl102) yG ?_;intro e191 h192;obtain ⟨_,⟨v194,rfl,sl195⟩,rw193⟩:=jm sl102 h192;refine jz st (u:=(.agg #[v194,I e191.xAction,I e191.xChain])) 5 rw193 Vy ?_;refine stw (zi Tryz.call166 (by intro w m h;exact rf0 (zaY (r_0:=e191) zm (m.q 5 sl195) h)) ?_);rintro r197 _;refine mv ?_;rcases r197 with x198 | x199 | x200 | x201
      ·dsimp only [x9.casesW];refine pk' [0,3,4,1,2,5] ?_;refine stw (U8 (M0:=[zb b15 [.slice a89 l90 q91,v188,I t25] 157,zf jL 208 (.slice a89 l90 q91) (xs18.set (t95).toNat (jF.mk e96.xChain t107)),zf jH 212 v188 xs187]) (U6 rfl rfl (fun w=>zgP _ w) Tryz.call280) (by intro w m h;exact rf (fun _ _=>(zz zR (zz (jW uK) (zz (jW Zm) zO)))) (zbB (d_0:=x198) (w_1_stack:=(xs18.set (t95).toNat (jF.mk e96.xChain t107))) (w_1_visits:=xs187) (w_1_decision:=t25) zm m.given h)) ?_);rintro r202 _;refine y12 ?_;exact zM (xs18.set (t95).toNat (jF.mk e96.xChain t107),xs187,r202) (fun a w hE hm=>⟨.slice a89 l90 q91,v188,hE.sub g3,hm.pick [0,3,4,5,1,2] rfl⟩)
      ·dsimp only [x9.casesW];refine pk' [0,3,4,1,2,5] ?_;refine stw (U8 (M0:=[zb b15 [.slice a89 l90 q91,v188,I t25] 157,zf jL 208 (.slice a89 l90 q91) (xs18.set (t95).toNat (jF.mk e96.xChain t107)),zf jH 212 v188 xs187]) (U6 rfl rfl (fun w=>zg7 _ w) Tryz.call283) (by intro w m h;exact rf (fun _ _=>(zz zR (zz (jW uK) (zz (jW Zm) zO)))) (zb1 (c_0:=x199) (w_1_stack:=(xs18.set (t95).toNat (jF.mk e96.xChain t107))) (w_1_visits:=xs187) (w_1_decision:=t25) zm m.given h)) ?_);rintro r203 v204;refine y12 ?_;exact zM (r203,xs187,t25) (fun a w hE hm=>⟨v204,v188,hE.sub g3,hm.pick [0,3,4,5,1,2] rfl⟩)
      ·dsimp only [x9.casesW];refine pk' [0,3,4,1,2,5] ?_;refine stw (U8 (M0:=[zb b15 [.slice a89 l90 q91,v188,I t25] 157,zf jL 208 (.slice a89 l90 q91) (xs18.set (t95).toNat (jF.mk e96.xChain t107)),zf jH 212 v188 xs187]) (U6 rfl rfl (fun w=>zgY _ w) Tryz.call286) (by intro w m h;exact rf (fun _ _=>(zz zR (zz (jW uK) (zz (jW Zm) zO)))) (za4 (a_0:=(uA.mk )) (w_1_stack:=(xs18.set (t95).toNat (jF.mk e96.xChain t107))) (w_1_visits:=xs187) (w_1_decision:=t25) zm m.given h)) ?_);rintro r206 v207;refine y12 ?_;exact zM (r206,xs187,t25) (fun a w hE hm=>⟨v207,v188,hE.sub g3,hm.pick [0,3,4,5,1,2] rfl⟩)
      ·dsimp only [x9.casesW];refine pk' [0,3,4,1,2,5] ?_;refine stw (U8 (M0:=[zb b15 [.slice a89 l90 q91,v188,I t25] 157,zf jL 208 (.slice a89 l90 q91) (xs18.set (t95).toNat (jF.mk e96.xChain t107)),zf jH 212 v188 xs187]) (U6 rfl rfl (fun w=>zhc _ w) Tryz.call289) (by intro w m h;exact rf (fun _ _=>(zz zR (zz (jW uK) (zz (jW Zm) zO)))) (zbZ (a_0:=(yl.mk )) (a_1_stack:=(xs18.set (t95).toNat (jF.mk e96.xChain t107))) (a_1_visits:=xs187) (a_1_decision:=t25) zm m.given h)) ?_);rintro _ _;refine y12 ?_;exact zM (xs18.set (t95).toNat (jF.mk e96.xChain t107),xs187,t25) (fun a w hE hm=>⟨.slice a89 l90 q91,v188,hE.sub g3,hm.pick [0,3,4,5,1,2] rfl⟩)
  ·refine y7 ?_;refine mv ?_;refine ma ?_;refine y3 ?_;exact jq Tryz.results114 (xs18,xs22,t25) (b15,v17,v21) (jr rfl) (fun w m=>zP.ofB m [0,3,4] rfl)
theorem zcG {v1:Value} {s_0:zN} {p_1:zW} {κ:Bool→Prop} (hF:Fr [] F w0) (hv1:Sl (zQ xt) F w0 v1 s_0.xChains) (h:XX s_0 p_1 κ) :
  Cl Tryz.prog 65 #[(.agg #[v1,(.bool s_0.xAccept)]),(.agg #[(I p_1.xFrom),(I p_1.xTo),(I p_1.xPort),(I p_1.xProto)])] w0 [] F κ (fun r (u:Unit)=>(.bool r)) (fun r u=>[]):=by
 refine eS hF Tryz.func65 Tryz.ntmps65 h ?_;clear h hF;refine y0 ?_;obtain ⟨a3,l4,q5,rfl⟩:=zw hv1;refine stw (xp [.slice a3 l4 q5,.bool s_0.xAccept] ?_);intro b6;refine stw (xp [I p_1.xFrom,I p_1.xTo,I p_1.xPort,I p_1.xProto] ?_);intro b8;refine ma ?_;refine y4 ?_;refine zk st (v:=(.agg #[.slice a3 l4 q5,.bool s_0.xAccept])) 1 yv ?_;refine zk st (v:=(.agg #[I p_1.xFrom,I p_1.xTo,I p_1.xPort,I p_1.xProto])) 0 VT ?_;refine stw (zi Tryz.call114 (by intro w m h;exact rf (fun _ _=>(zz zR (zz (jW uK) (zz (jW Zm) zO)))) (zck (s_0:=s_0) (p_1:=p_1) zm (m.q 2 hv1) h)) ?_);rintro ⟨r12,r15,r18⟩ ⟨b10,v13,v16⟩;refine xa st ?_;refine zt st zc8 ?_;refine zk st (v:=(I r18)) 0 ty3 ?_;refine y26 ?_;refine jB st xS ?_;refine ma ?_;refine y1 ?_;refine zj ?_ ?_
 ·refine y0 ?_;refine ma ?_;refine y24 ?_;exact lu Tryz.results65
 ·refine y0 ?_;refine jB st xS ?_;refine ma ?_;refine y1 ?_;refine zj ?_ ?_
  ·refine y0 ?_;refine ma ?_;refine y24 ?_;exact lu Tryz.results65
  ·refine xc (yM (zY (jA (zp ?_))));refine zt st X6 ?_;refine zk st (v:=(.bool s_0.xAccept)) 4 ty4 ?_;refine ma ?_;refine y3 ?_;exact lu Tryz.results65
theorem Vt {v1:Value} {s_0:zN} {p_1:zW} {κ:Bool→Prop} (hF:Fr [] F w0) (hv1:Sl (zQ xt) F w0 v1 s_0.xChains) (hgl0:Sl ji F w0 (.slice (some ⟨0,0,none⟩) 4 4) zA) (h:yV s_0 p_1 κ) :
  Cl Tryz.prog 19 #[(.agg #[v1,(.bool s_0.xAccept)]),(.agg #[(I p_1.xFrom),(I p_1.xTo),(I p_1.xPort),(I p_1.xProto)])] w0 [] F κ (fun r (u:Unit)=>(.bool r)) (fun r u=>[]):=by
 refine eS hF Tryz.func19 Tryz.ntmps19 h ?_;clear h hF;let JJ:=Jn 16 [] F w0;refine y0 ?_;obtain ⟨a3,l4,q5,rfl⟩:=zw hv1;refine stw (xp [.slice a3 l4 q5,.bool s_0.xAccept] ?_);intro b6;refine stw (xp [I p_1.xFrom,I p_1.xTo,I p_1.xPort,I p_1.xProto] ?_);intro b8;refine ma ?_;refine y9 ?_;refine zT (σ:=Bool) (fun t72=>JJ [(2,pp b6),(3,pp b8),(12,.bool t72)] [zb b8 [I p_1.xFrom,I p_1.xTo,I p_1.xPort,I p_1.xProto] 34,zb b6 [.slice a3 l4 q5,.bool s_0.xAccept] 25,zl w0 F]) ?_ ?_
 ·intro k73;refine zp ?_;refine zk st (v:=(.agg #[.slice a3 l4 q5,.bool s_0.xAccept])) 1 yv ?_;refine stw (zi Tryz.call63 (by intro w m h;exact rf0 (Vn (s_0:=s_0) zm (m.q 2 hv1) (m.q 2 hgl0) h)) ?_);rintro r10 _;refine jp st ?_;refine mv ?_;refine jO (dj:=8) rfl ?_ ?_
  ·refine ss ?_;refine ss ?_;refine ss ?_;refine zG st ?_;refine zu ?_;exact lj [0,1,2]
  ·refine zk (zH rfl rfl) (v:=(.agg #[I p_1.xFrom,I p_1.xTo,I p_1.xPort,I p_1.xProto])) 0 VT ?_;refine Yq rfl rfl (zi Tryz.call64 (by intro w m h;exact rf0 (zcr (p_0:=p_1) zm (m.q 2 hgl0) h)) ?_);rintro r11 _;refine jp (zH rfl rfl) ?_;refine zI st ?_;refine zu ?_;exact lj [0,1,2]
 ·rintro t72;refine nxj ?_;refine zj ?_ ?_
  ·refine y0 ?_;refine ma ?_;refine y6 ?_;exact lu Tryz.results19
  ·refine y8 ?_;refine zk st (v:=(.agg #[.slice a3 l4 q5,.bool s_0.xAccept])) 1 yv ?_;refine zk st (v:=(.agg #[I p_1.xFrom,I p_1.xTo,I p_1.xPort,I p_1.xProto])) 0 VT ?_;refine stw (zi Tryz.call65 (by intro w m h;exact rf0 (zcG (s_0:=s_0) (p_1:=p_1) zm (m.q 2 hv1) h)) ?_);rintro r74 _;refine ma ?_;refine y3 ?_;exact lu Tryz.results19
end
section
open Go.RowKit
structure GHd where
 a:Option Addr
 l:Nat
 c:Nat
 t:List jY
structure RR where
 xTests:GHd
 xAction:Int
 xChain:Int
structure RS where
 xChains:List (List RR)
 xAccept:Bool
def hdV (h:GHd):Value:=.slice h.a h.l h.c
def zdv (x:RR):List Value:=[hdV x.xTests,.int .i64 x.xAction,.int .i64 x.xChain]
def ZK:El RR:=El.flat 3 zdv (by decide) (fun _=>rfl) (fun x u h=>by
 simp only [zdv,List.mem_cons,List.not_mem_nil,or_false] at h
 rcases h with rfl | rfl | rfl <;> rfl)
theorem US:Up ZK zdv:=XK
abbrev dRR:DEl RR:=zbb ZK zdv US
def er (x:RR):zD:=⟨x.xTests.t,x.xAction,x.xChain⟩
def erS (x:RS):zN:=⟨x.xChains.map (List.map er),x.xAccept⟩
def zjE (F:Nat→Prop) (w:World) (r:RR):Prop:=Sl uS F w (hdV r.xTests) r.xTests.t
def zat (zs:List RR):Ch where
 foot:=fun _=>False
 holds:=fun F w=>∀ r,r∈zs→zjE F w r
 keep:=fun F F' w w' hF hb h r hr=>Sl.keep (h r hr) hF (fun b hb'=>hb b (.inl hb'))
def rdS (v:Value) (xs:List (List RR)):Ch where
 foot:=fun _=>False
 holds:=fun F w=>Sl (zQ ZK) F w v xs∧∀ r,r∈xs.flatten→zjE F w r
 keep:=fun F F' w w' hF hb h=>⟨Sl.keep h.1 hF (fun b hb'=>hb b (.inl hb')),fun r hr=>Sl.keep (h.2 r hr) hF (fun b hb'=>hb b (.inl hb'))⟩
theorem zj4 {v:Value} {xs:List (List RR)}:YF (rdS v xs) (zQ ZK) v xs:=fun F w h=>h.1.keep (fun b hb=>.inl hb) (fun _ _=>rfl)
theorem zh3 {α β:Type} {E:El α} {E':El β} {F:Nat→Prop} {w:World} {v:Value} {xs:List α} (f:β→α) (P:β→Prop) (hs:E'.size=E.size) (h:Sl E F w v xs) (hc:∀ x cs,E.cells F w x cs→∃ y,f y=x∧E'.cells F w y cs∧P y):∃ ys:List β,ys.map f=xs∧Sl E' F w v ys∧∀ y,y∈ys→P y:=by
 obtain ⟨a,cap,rfl,hl,hr⟩:=h
 by_cases h0:0<xs.length
 ·obtain ⟨b,off,rfl,hb,hx⟩:=hr h0
  have hy:∀ i:Fin xs.length,∃ y,f y=xs[i.1]∧(∃ cs,E'.cells F w y cs∧w.rangeAt b (off+i.1 * E'.size) cs)∧P y:=fun i=>by
   obtain ⟨cs,c1,c2⟩:=hx i.1 xs[i.1] (List.getElem?_eq_getElem i.2)
   obtain ⟨y,y1,y2,y3⟩:=hc _ _ c1
   exact ⟨y,y1,⟨cs,y2,by rw [hs];exact c2⟩,y3⟩
  obtain ⟨g,hg⟩:=Classical.axiomOfChoice hy
  refine ⟨List.ofFn g,?_,⟨_,cap,by simp,by simpa using hl,fun _=>⟨b,off,rfl,hb,fun i x hi=>?_⟩⟩,fun y hy'=>?_⟩
  ·apply List.ext_getElem (by simp)
   intro i h1 h2
   simp only [List.getElem_map,List.getElem_ofFn]
   exact (hg ⟨i,h2⟩).1
  ·have hi':i<xs.length:=by have:=(List.getElem?_eq_some_iff.1 hi).1;simpa using this
   have e:=(List.getElem?_eq_some_iff.1 hi).2
   rw [List.getElem_ofFn] at e
   rw [← e]
   exact (hg ⟨i,hi'⟩).2.1
  ·rw [List.mem_ofFn] at hy'
   obtain ⟨i,rfl⟩:=hy'
   exact (hg i).2.2
 ·have e:xs=[]:=List.eq_nil_of_length_eq_zero (by omega)
  subst e
  exact ⟨[],rfl,⟨a,cap,rfl,by simp,fun h=>by simp at h⟩,fun y hy=>by cases hy⟩
theorem zhY {α β:Type} {E:El α} {E':El β} {F:Nat→Prop} {w:World} {v:Value} {ys:List β} (f:β→α) (hs:E'.size=E.size) (h:Sl E' F w v ys) (hc:∀ y,y∈ys→∀ cs,E'.cells F w y cs→E.cells F w (f y) cs):Sl E F w v (ys.map f):=by
 obtain ⟨a,cap,rfl,hl,hr⟩:=h
 refine ⟨a,cap,by simp,by simpa using hl,fun h0=>?_⟩
 obtain ⟨b,off,rfl,hb,hx⟩:=hr (by simpa using h0)
 refine ⟨b,off,rfl,hb,fun i x hi=>?_⟩
 rw [List.getElem?_map] at hi
 cases hy:ys[i]? with
 | none=>rw [hy] at hi;cases hi
 | some y =>
  rw [hy] at hi
  cases hi
  obtain ⟨cs,c1,c2⟩:=hx i y hy
  exact ⟨cs,hc y (List.mem_of_getElem? hy) cs c1,by rw [← hs];exact c2⟩
theorem zke {F:Nat→Prop} {w:World} {v:Value} {xs:List (List zD)} (h:Sl (zQ xt) F w v xs):∃ ys:List (List RR),ys.map (List.map er)=xs∧Sl (zQ ZK) F w v ys∧∀ y,y∈ys→∀ r,r∈y→zjE F w r :=
 zh3 (List.map er) (fun y=>∀ r,r∈y→zjE F w r) rfl h (fun x cs ⟨u,hu,hs⟩=>by
  obtain ⟨ys,y1,y2,y3⟩:=zh3 er (zjE F w) (E':=ZK) rfl hs (fun z ds ⟨q,hq,hz⟩=>by
   obtain ⟨a,l,c,rfl⟩:=zw hz
   exact ⟨⟨⟨a,l,c,z.xTests⟩,z.xAction,z.xChain⟩,rfl,hq,hz⟩)
  exact ⟨ys,y1,⟨u,hu,y2⟩,y3⟩)
theorem zhG {F:Nat→Prop} {w:World} {v:Value} {ys:List (List RR)} (h:Sl (zQ ZK) F w v ys) (hp:∀ r,r∈ys.flatten→zjE F w r):Sl (zQ xt) F w v (ys.map (List.map er)) :=
 zhY (List.map er) rfl h (fun y hy cs ⟨u,hu,hs⟩=>⟨u,hu,zhY er rfl hs (fun r hr ds hd=>⟨hdV r.xTests,hd,hp r (List.mem_flatten.2 ⟨y,hy,hr⟩)⟩)⟩)
section
variable {n:Nat} {G D:Nat→Prop} {w0 w:World} {R:Act→World→Prop} {E:Env} {L:List Ch}
theorem Mem.sd0 (m:Mem G D w0 L w):Mem G D w0 (zat [] :: L) w:=m.note (fun _ h=>h) (fun r hr=>by cases hr)
theorem Mem.spl {v:Value} {xs:List (List RR)} (m:Mem G D w0 L w) (i:Nat) (hi:xO L i=some (rdS v xs)):Mem G D w0 (jR (zQ ZK) v xs :: zat xs.flatten :: L) w:=by
 have h:=m.get hi
 have m1:=m.note (c:=zat xs.flatten) (fun _ h=>h) h.2
 have h2:(rdS v xs).holds _ w:=m1.get (i:=i+1) hi
 exact m1.note (c:=jR (zQ ZK) v xs) (fun _ h=>h) h2.1
theorem zkE {v:Value} {xs:List (List RR)} {φ:Prop} (i:Nat) (hi:xO L i=some (rdS v xs)) (h:∀ a l c,v=.slice a l c→Nx n G D w0 R E L φ):Nx n G D w0 R E L φ:=fun a w hE hm hφ=>by
 obtain ⟨⟨a',c',hv,_⟩,_⟩:=(hm.get hi:(rdS v xs).holds _ w)
 exact h _ _ _ hv a w hE hm hφ
theorem zkP {g:zN} {B:List Nat} {v:Value} {κ:RS→Prop} (h:∀ s:RS,erS s=g→Nx n G D w0 R E (rdS v s.xChains :: L) (κ s)):Nx n G D w0 R E (jC (dSl xd 77) 47 B v g.xChains :: L) (∀ s:RS,erS s=g→κ s):=fun a w hE hm hφ=>by
 have m1:Mem G D w0 (jR (zQ xt) v g.xChains :: L) w:=hm.freeze 0 rfl jy
 have hs:Sl (zQ xt) _ w v g.xChains:=m1.get (i:=0) rfl
 obtain ⟨rows,e,hr,hp⟩:=zke hs
 have eg:erS ⟨rows,g.xAccept⟩=g:=by
  show zN.mk (rows.map (List.map er)) g.xAccept=g
  rw [e]
 exact h ⟨rows,g.xAccept⟩ eg a w hE ((m1.note (c:=rdS v rows) (fun _ h=>h) ⟨hr,fun r hr'=>by
  obtain ⟨y,hy,hry⟩:=List.mem_flatten.1 hr'
  exact hp y hy r hry⟩).drop 1) (hφ _ eg)
theorem zmS {c:Ch} {M:List Ch} (m:Mem G D w0 (c :: M) w) (hf:∀ b,¬ c.foot b):Mem G D w0 (M++[c]) w:=by
 have hF:∀ F,fz G (M++[c]) w F↔fz G (c :: M) w F:=fun b=>by
  unfold fz
  simp only [List.mem_append,List.mem_cons,List.not_mem_nil,or_false]
  constructor
  ·rintro ⟨h1,h2,h3⟩;exact ⟨h1,h2,fun d hd=>h3 d (hd.symm)⟩
  ·rintro ⟨h1,h2,h3⟩;exact ⟨h1,h2,fun d hd=>h3 d (hd.symm)⟩
 have e:fz G (M++[c]) w=fz G (c :: M) w:=funext fun b=>propext (hF b)
 have mem:∀ d,d∈M++[c]→d∈c :: M:=fun d hd=>by
  rcases List.mem_append.1 hd with h | h
  ·exact List.mem_cons_of_mem _ h
  ·rw [List.mem_singleton] at h;subst h;exact List.mem_cons_self ..
 refine ⟨m.fresh,m.os,m.tape,m.output,m.size,m.old,fun d hd=>m.range d (mem d hd),?_,fun d hd=>?_⟩
 ·rw [List.pairwise_append]
  exact ⟨(List.pairwise_cons.1 m.disj).2,List.pairwise_singleton _ _,fun d _ c' hc' b _ hcb=>by
   rw [List.mem_singleton] at hc';subst hc';exact hf b hcb⟩
 ·rw [e];exact m.hold d (mem d hd)
theorem zhn {g:zD} {u:Value} {d:Nat} {κ:RR→Prop} (h:∀ s:RR,er s=g→Nx n G D w0 R ((d,.agg #[hdV s.xTests,.int .i64 s.xAction,.int .i64 s.xChain]) :: E) (L++[zat [s]]) (κ s)):Nx n G D w0 R ((d,.agg #[u,.int .i64 g.xAction,.int .i64 g.xChain]) :: E) (zf uS 165 u g.xTests :: L) (∀ s:RR,er s=g→κ s):=fun a w hE hm hφ=>by
 have m1:Mem G D w0 (jR uS u g.xTests :: L) w:=hm.freeze 0 rfl zg
 have hs:Sl uS _ w u g.xTests:=m1.get (i:=0) rfl
 obtain ⟨p,l,c,rfl⟩:=zw hs
 have m2:Mem G D w0 (zat [⟨⟨p,l,c,g.xTests⟩,g.xAction,g.xChain⟩] :: L) w:=(m1.note (c:=zat [⟨⟨p,l,c,g.xTests⟩,g.xAction,g.xChain⟩]) (fun _ h=>h) (fun r hr=>by
  rw [List.mem_singleton] at hr;subst hr;exact hs)).drop 1
 exact h ⟨⟨p,l,c,g.xTests⟩,g.xAction,g.xChain⟩ rfl a w hE (zmS m2 (fun _ h=>h)) (hφ _ rfl)
end
def Ub (b:List UInt8) (p n:Int) (κ:RS×Int→Prop):Prop:=X5 b p n (fun r=>∀ s:RS,erS s=r.1→κ (s,r.2))
def XI (b:List UInt8) (p x y n:Int) (κ:RR×Int→Prop):Prop:=Zj b p x y n (fun r=>∀ s:RR,er s=r.1→κ (s,r.2))
def Z9 (code_0:(List UInt8)) (κ:(RS×RS×(List RR))→Prop):Prop :=
 UA code_0 (fun (r9,r12)=>Ub r9 r12 16 (fun (r13,r16)=>jw (fun (nx30:((List (List RR))×Int)→Prop) ((xs25,t29):((List (List RR))×Int))=>ifW (decide (t29<(r13.xChains.length:Int))) (jnW (fun (xs42:(List (List RR)))=>jx t29 1 (fun t74=>nx30 (xs42,t74))) (fun k46=>zJ r13.xChains t29 (fun e47=>jU ([]) e47 (fun _=>jU xs25 ([(([])++e47)]) (fun _=>k46 (xs25++([(([])++e47)]))))))) (jnW (fun ((xs354,t357,zs354):((List (List RR))×Bool×(List RR)))=>κ (r13,(RS.mk xs354 t357),zs354)) (fun k358=>zC r9 r16 4 (fun (r75,r76)=>ifW (decide (r75=0)) (Ub r9 r76 16 (fun (r77,r80)=>k358 (r77.xChains,r77.xAccept,r77.xChains.flatten))) (ifW (decide (r75=1)) (k358 (xs25,(!r13.xAccept),[])) (ifW (decide (r75=2)) (jnW (fun ((xs152,t154):((List (List RR))×Bool))=>ifW t154 (zJ xs152 0 (fun e159=>yZ e159 1 (e159.length:Int) (fun xs168=>zJ xs152 0 (fun e171=>k358 ((xs152.set (0:Int).toNat xs168),r13.xAccept,[]))))) (k358 (xs152,r13.xAccept,[]))) (fun k155=>ifW (decide (0<(xs25.length:Int))) (zJ xs25 0 (fun e84=>k155 (xs25,(decide (0<(e84.length:Int)))))) (k155 (xs25,false)))) (jnW (fun ((xs245,t248):((List (List RR))×Bool))=>ifW t248 (jnW (fun ((xs256,zs256):((List (List RR))×(List RR)))=>k358 (xs256,r13.xAccept,zs256)) (fun k259=>(zJ xs245 0 (fun e260=>XI r9 r76 9 9 0 (fun (r265,r266)=>jU e260 ([r265]) (fun _=>zJ xs245 0 (fun e270=>k259 ((xs245.set (0:Int).toNat (e260++([r265]))),[r265]))))))∧(XI r9 r76 9 9 0 (fun (r286,r287)=>zJ xs245 0 (fun e288=>jU e288 ([r286]) (fun _=>zJ xs245 0 (fun e270=>k259 ((xs245.set (0:Int).toNat (e288++([r286]))),[r286])))))))) (k358 (xs245,r13.xAccept,[]))) (fun k249=>ifW (decide (0<(xs25.length:Int))) (zJ xs25 0 (fun e177=>k249 ((xs25.set (0:Int).toNat e177),(decide ((e177.length:Int)<8))))) (k249 (xs25,false)))))))))) ([],0)))
theorem zaD {w0:World} {F:Nat→Prop} {v1:Value} {code_0:(List UInt8)} {κ:(RS×RS×(List RR))→Prop} (hF:Fr [] F w0) (hv1:Sl Zb F w0 v1 code_0) (h:Z9 code_0 κ) :
  Cl Tryz.prog 12 #[v1] w0 [] F κ (fun r (u:Value×Value)=>.tuple #[(.agg #[u.1,(.bool r.1.xAccept)]),(.agg #[u.2,(.bool r.2.1.xAccept)])]) (fun r u=>[rdS u.1 r.1.xChains,jR (zQ ZK) u.2 r.2.1.xChains,zat r.2.2]):=by
 refine eS hF Tryz.func12 Tryz.ntmps12 h ?_;clear h hF;let JJ:=Jn 93 [] F w0;refine y0 ?_;refine stw (je [S0,.bool false] V9 ?_);intro b3;refine stw (je [S0,.bool false] V9 ?_);intro b5;refine y2 ?_;refine mv ?_;refine stw (zi Tryz.call50 (by intro w m h;exact zfQ (code_0:=code_0) jJ (m.roS 2 rfl hv1) h) ?_);rintro ⟨r9,r12⟩ ⟨b7,v10⟩;refine ma ?_;refine y2 ?_;refine mv ?_;refine stw (jg (M0:=[zb b7 [v10,I r12] 131]) Tryz.call51 (by intro w m h;exact rf (fun _ _=>(zz xH (zz zR zO))) (VY (r_0_b:=r9) (r_0_p:=r12) (n_1:=16) zm m.given (m.rdM 0 rfl xu) h)) ?_);rintro ⟨g13,r16⟩ ⟨v14,bb14⟩;refine zkP ?_;rintro r13 rfl;refine stw (je [S0,.bool false] V9 ?_);intro b17;refine zkE 1 rfl ?_;rintro a19 l20 q21 rfl;refine stw (zU (cs':=[.slice a19 l20 q21,.bool r13.xAccept]) 0 yv ?_);refine y2 ?_;refine zt st X6 ?_;refine zk st (v:=(.bool r13.xAccept)) 0 ty4 ?_;refine jP st (cells:=[S0,.bool r13.xAccept]) (bqi rfl) zmG ?_;refine stw (je [S0,.bool false] V9 ?_);intro b22;refine stw (zU (cs':=[S0,.bool r13.xAccept]) 0 yv ?_);refine y4 ?_;refine ma ?_;refine y5 ?_;refine jn (σ:=((List (List RR))×Int)) (fun (xs25,t29) a w=>∃ (v24:Value) (bb27:List Nat),JJ [(2,pp b3),(3,pp b5),(4,pp b7),(5,pp b17),(6,pp b22),(7,I t29)] [zb b22 [v24,.bool r13.xAccept] 25,zb b17 [.slice a19 l20 q21,.bool r13.xAccept] 25,rdS (.slice a19 l20 q21) r13.xChains,zb b7 [v10,I r16] 131,jR Zb v10 r9,zb b5 [S0,.bool false] 25,zb b3 [S0,.bool false] 25,jC (dSl dRR 77) 47 bb27 v24 xs25] a w) (fun a w hE hm=>⟨S0,[],hE.sub g6,(zbo (dSl dRR 77) 47 hm).pick [1,2,3,4,5,6,7,0] rfl⟩) ?_;rintro nx30 ⟨xs25,t29⟩ a w ⟨v24,bb27,hE,hm⟩ h;refine jt hE hm h ?_;clear hE hm h;refine y10 ?_;refine mv ?_;refine zt st xD ?_;refine zk st (v:=(.slice a19 l20 q21)) 1 yR ?_;refine zK st u7 2 zj4 ?_;refine jd st ?_;refine y1 ?_;refine zj ?_ ?_
 ·refine y28 ?_;refine zaO ?_;intro wr31 ff32 hk33;have sl35:Sl (zQ ZK) ff32 wr31 (.slice a19 l20 q21) r13.xChains:=(hk33 (rdS (.slice a19 l20 q21) r13.xChains) (xB (i:=2) rfl)).1;have sl37:Sl Zb ff32 wr31 v10 r9:=hk33 (jR Zb v10 r9) (xB (i:=4) rfl);refine uw 8 rfl ?_;rintro a39 l40 q41 rfl;refine ZB (σ:=(List (List RR))) (fun xs42 a w=>∃ (v43:Value) (bb45:List Nat),JJ [(2,pp b3),(3,pp b5),(4,pp b7),(5,pp b17),(6,pp b22),(7,I t29)] [jC (dSl dRR 77) 47 bb45 v43 xs42,zb b22 [v43,.bool r13.xAccept] 25,zb b17 [.slice a19 l20 q21,.bool r13.xAccept] 25,zb b7 [v10,I r16] 131,zb b5 [S0,.bool false] 25,zb b3 [S0,.bool false] 25,zl wr31 ff32,rdS (.slice a19 l20 q21) r13.xChains] a w) ?_ ?_
  ·intro k46;refine ur mixed 13 rfl [zl wr31 ff32,zb b17 [.slice a19 l20 q21,.bool r13.xAccept] 25,rdS (.slice a19 l20 q21) r13.xChains,zb b7 [v10,I r16] 131,jR Zb v10 r9,zb b5 [S0,.bool false] 25,zb b3 [S0,.bool false] 25] ?_;intro Qd hP hQ;let NN:=fun i l E L=>Nn 93 [] F w0 Tryz.prog (YP Tryz.f12 [1,1,1,1,0,1,0,0,1,0,0]) Qd [zl wr31 ff32,zb b17 [.slice a19 l20 q21,.bool r13.xAccept] 25,rdS (.slice a19 l20 q21) r13.xChains,zb b7 [v10,I r16] 131,jR Zb v10 r9,zb b5 [S0,.bool false] 25,zb b3 [S0,.bool false] 25] i l ([(2,pp b3),(3,pp b5),(4,pp b7),(5,pp b17),(6,pp b22),(7,I t29)]++E) (L++[]);have H874 (e47:(List RR)) (h48:r13.xChains[(t29).toNat]?=some e47) (v50:Value) (sl51:Sl ZK ff32 wr31 v50 e47) (rw49:VZ wr31 ff32 (.slice a19 l20 q21) t29 1 [v50]) (v52:Value) (a55:Option Addr) (l56 q57:Nat) (v58:Value) (bb59:List Nat) (a63:Option Addr) (l64 q65:Nat) (bb61:List Nat):NN 0 #[Y,Y,Y,Y,Y,Y,Y,Y,Y,Y,Y,Y,Y] [] [jC (dSl dRR 77) 47 bb61 (.slice a63 l64 q65) (xs25++([([])++e47])),zl wr31 ff32,zb b22 [.slice a63 l64 q65,.bool r13.xAccept] 25,zb b17 [.slice a19 l20 q21,.bool r13.xAccept] 25,rdS (.slice a19 l20 q21) r13.xChains,zb b7 [v10,I r16] 131,jR Zb v10 r9,zb b5 [S0,.bool false] 25,zb b3 [S0,.bool false] 25] (k46 (xs25++([([])++e47]))):=by
    refine jv (by kernel_rfl) ?_;exact fun a w hE hm hφ=>hQ (xs25++([([])++e47])) a w hφ ((fun a w hE hm=>⟨.slice a63 l64 q65,bb61,hE.sub g6,hm.pick [0,2,3,5,7,8,1,4] rfl⟩) a w hE hm)
   have H875 (e47:(List RR)) (h48:r13.xChains[(t29).toNat]?=some e47) (v50:Value) (sl51:Sl ZK ff32 wr31 v50 e47) (rw49:VZ wr31 ff32 (.slice a19 l20 q21) t29 1 [v50]) (v52:Value) (a55:Option Addr) (l56 q57:Nat) (v58:Value) (bb59:List Nat) (v60:Value) (bb61:List Nat):NN 2 #[Y,Y,Y,Y,Y,Y,Y,Y,Y,Y,Y,Z,Z] [(32,v60)] [jC (dSl dRR 77) 47 bb61 v60 (xs25++([([])++e47])),zl wr31 ff32,zb b22 [.slice a39 l40 q41,.bool r13.xAccept] 25,zb b17 [.slice a19 l20 q21,.bool r13.xAccept] 25,rdS (.slice a19 l20 q21) r13.xChains,zb b7 [v10,I r16] 131,jR Zb v10 r9,zb b5 [S0,.bool false] 25,zb b3 [S0,.bool false] 25] (k46 (xs25++([([])++e47]))):=by
    refine zt (dp 11 [1,3,4,5,6,7,8]) xD ?_;refine uw 0 rfl ?_;rintro a63 l64 q65 rfl;refine d1 12 rfl (zU (cs':=[.slice a63 l64 q65,.bool r13.xAccept]) 2 yR ?_);exact rd [1,3,4,5,6,7,8] [0,1,2,3,4,5,6,7,8] (H874 e47 h48 v50 sl51 rw49 v52 a55 l56 q57 v58 bb59 a63 l64 q65 bb61)
   have H876 (e47:(List RR)) (h48:r13.xChains[(t29).toNat]?=some e47) (v50:Value) (sl51:Sl ZK ff32 wr31 v50 e47) (rw49:VZ wr31 ff32 (.slice a19 l20 q21) t29 1 [v50]) (v52:Value) (a55:Option Addr) (l56 q57:Nat) (v58:Value) (bb59:List Nat):NN 3 #[Y,Y,Y,Y,Y,Y,Y,Y,Y,Y,Z,Z,Z] [(23,.slice a39 l40 q41),(31,v58)] [jC (dSl dRR 77) 47 bb59 v58 ([([])++e47]),zl wr31 ff32,zb b22 [.slice a39 l40 q41,.bool r13.xAccept] 25,zb b17 [.slice a19 l20 q21,.bool r13.xAccept] 25,rdS (.slice a19 l20 q21) r13.xChains,zb b7 [v10,I r16] 131,jR Zb v10 r9,zb b5 [S0,.bool false] 25,zb b3 [S0,.bool false] 25,jC (dSl dRR 77) 47 bb27 (.slice a39 l40 q41) xs25] (jU xs25 ([([])++e47]) (fun _=>k46 (xs25++([([])++e47])))):=by
    refine pk' [9,0,1,2,3,4,5,6,7,8] ?_;refine d1 10 rfl (yf u7 VD ?_);intro bb61 v60;exact rd [1,3,4,5,6,7,8] [0,1,2,3,4,5,6,7,8] (H875 e47 h48 v50 sl51 rw49 v52 a55 l56 q57 v58 bb59 v60 bb61)
   have H877 (e47:(List RR)) (h48:r13.xChains[(t29).toNat]?=some e47) (v50:Value) (sl51:Sl ZK ff32 wr31 v50 e47) (rw49:VZ wr31 ff32 (.slice a19 l20 q21) t29 1 [v50]) (v52 v53:Value):NN 4 #[Y,Y,Y,Y,Y,Y,Y,Y,Y,Z,Z,Z,Z] [(23,.slice a39 l40 q41),(30,v53)] [zf ZK 77 v53 (([])++e47),zl wr31 ff32,zb b22 [.slice a39 l40 q41,.bool r13.xAccept] 25,zb b17 [.slice a19 l20 q21,.bool r13.xAccept] 25,rdS (.slice a19 l20 q21) r13.xChains,zb b7 [v10,I r16] 131,jR Zb v10 r9,zb b5 [S0,.bool false] 25,zb b3 [S0,.bool false] 25,jC (dSl dRR 77) 47 bb27 (.slice a39 l40 q41) xs25] (jU xs25 ([([])++e47]) (fun _=>k46 (xs25++([([])++e47])))):=by
    refine xF 0 rfl ?_;rintro a55 l56 q57 rfl;refine d1 9 rfl (uo (M:=[zf ZK 77 (.slice a55 l56 q57) (([])++e47)]) (E':=(dSl dRR 77)) (cs:=[.slice a55 l56 q57]) (([])++e47) (xm (yh US) (fun B w h=>⟨_,rfl,h⟩)) (bqi rfl) u7 VD ?_);intro bb59 v58;exact rd [1,3,4,5,6,7,8] [0,1,2,3,4,5,6,7,8,9] (H876 e47 h48 v50 sl51 rw49 v52 a55 l56 q57 v58 bb59)
   have H878 (e47:(List RR)) (h48:r13.xChains[(t29).toNat]?=some e47) (v50:Value) (sl51:Sl ZK ff32 wr31 v50 e47) (rw49:VZ wr31 ff32 (.slice a19 l20 q21) t29 1 [v50]) (v52:Value):NN 5 #[Y,Y,Y,Y,Y,Y,Y,Y,Z,Z,Z,Z,Z] [(29,v50),(23,.slice a39 l40 q41),(24,v52)] [zf ZK 77 v52 ([]),zl wr31 ff32,zb b22 [.slice a39 l40 q41,.bool r13.xAccept] 25,zb b17 [.slice a19 l20 q21,.bool r13.xAccept] 25,rdS (.slice a19 l20 q21) r13.xChains,zb b7 [v10,I r16] 131,jR Zb v10 r9,zb b5 [S0,.bool false] 25,zb b3 [S0,.bool false] 25,jC (dSl dRR 77) 47 bb27 (.slice a39 l40 q41) xs25] (jU ([]) e47 (fun _=>jU xs25 ([([])++e47]) (fun _=>k46 (xs25++([([])++e47]))))):=by
    refine d1 8 rfl (xo 0 1 (ub US (zc sl51)) yG uF ?_);intro v53;exact rd [1,3,4,5,6,7,8] [0,1,2,3,4,5,6,7,8,9] (H877 e47 h48 v50 sl51 rw49 v52 v53)
   have H879 (e47:(List RR)) (h48:r13.xChains[(t29).toNat]?=some e47) (v50:Value) (sl51:Sl ZK ff32 wr31 v50 e47) (rw49:VZ wr31 ff32 (.slice a19 l20 q21) t29 1 [v50]):NN 6 #[Y,Y,Z,Y,Y,Y,Y,Y,Z,Z,Z,Z,Z] [(29,v50),(23,.slice a39 l40 q41)] [zl wr31 ff32,zb b22 [.slice a39 l40 q41,.bool r13.xAccept] 25,zb b17 [.slice a19 l20 q21,.bool r13.xAccept] 25,rdS (.slice a19 l20 q21) r13.xChains,zb b7 [v10,I r16] 131,jR Zb v10 r9,zb b5 [S0,.bool false] 25,zb b3 [S0,.bool false] 25,jC (dSl dRR 77) 47 bb27 (.slice a39 l40 q41) xs25] (jU ([]) e47 (fun _=>jU xs25 ([([])++e47]) (fun _=>k46 (xs25++([([])++e47]))))):=by
    refine d1 2 rfl (jX (enc:=zdv) (cells:=[]) ([]:(List RR)) US (bqi rfl) yG uF ?_);intro v52;exact rd [1,3,4,5,6,7,8] [0,1,2,3,4,5,6,7,8,9] (H878 e47 h48 v50 sl51 rw49 v52)
   have H880 (e47:(List RR)) (h48:r13.xChains[(t29).toNat]?=some e47) (v50:Value) (sl51:Sl ZK ff32 wr31 v50 e47) (rw49:VZ wr31 ff32 (.slice a19 l20 q21) t29 1 [v50]) (v66:Value) (a69:Option Addr) (l70 q71:Nat) (v72:Value) (bb73:List Nat):NN 4 #[Y,Z,Y,Y,Y,Y,Y,Y,Y,Y,Z,Z,Z] [(22,pp b22),(31,v72)] [jC (dSl dRR 77) 47 bb73 v72 ([([])++e47]),zl wr31 ff32,zb b22 [.slice a39 l40 q41,.bool r13.xAccept] 25,zb b17 [.slice a19 l20 q21,.bool r13.xAccept] 25,rdS (.slice a19 l20 q21) r13.xChains,zb b7 [v10,I r16] 131,jR Zb v10 r9,zb b5 [S0,.bool false] 25,zb b3 [S0,.bool false] 25,jC (dSl dRR 77) 47 bb27 (.slice a39 l40 q41) xs25] (jU xs25 ([([])++e47]) (fun _=>k46 (xs25++([([])++e47])))):=by
    refine d1 1 rfl (zk xq (v:=(.slice a39 l40 q41)) 2 yR ?_);exact rd [1,3,4,5,6,7,8] [0,1,2,3,4,5,6,7,8,9] (H876 e47 h48 v50 sl51 rw49 v66 a69 l70 q71 v72 bb73)
   have H881 (e47:(List RR)) (h48:r13.xChains[(t29).toNat]?=some e47) (v50:Value) (sl51:Sl ZK ff32 wr31 v50 e47) (rw49:VZ wr31 ff32 (.slice a19 l20 q21) t29 1 [v50]) (v66 v67:Value):NN 5 #[Y,Z,Y,Y,Y,Y,Y,Y,Y,Z,Z,Z,Z] [(22,pp b22),(30,v67)] [zf ZK 77 v67 (([])++e47),zl wr31 ff32,zb b22 [.slice a39 l40 q41,.bool r13.xAccept] 25,zb b17 [.slice a19 l20 q21,.bool r13.xAccept] 25,rdS (.slice a19 l20 q21) r13.xChains,zb b7 [v10,I r16] 131,jR Zb v10 r9,zb b5 [S0,.bool false] 25,zb b3 [S0,.bool false] 25,jC (dSl dRR 77) 47 bb27 (.slice a39 l40 q41) xs25] (jU xs25 ([([])++e47]) (fun _=>k46 (xs25++([([])++e47])))):=by
    refine dtw 1 9 rfl rfl ?_ ?_
    ·refine zk xq (v:=(.slice a39 l40 q41)) 2 yR ?_;exact rd [1,3,4,5,6,7,8] [0,1,2,3,4,5,6,7,8,9] (H877 e47 h48 v50 sl51 rw49 v66 v67)
    ·refine xF 0 rfl ?_;rintro a69 l70 q71 rfl;refine uo (M:=[zf ZK 77 (.slice a69 l70 q71) (([])++e47)]) (E':=(dSl dRR 77)) (cs:=[.slice a69 l70 q71]) (([])++e47) (xm (yh US) (fun B w h=>⟨_,rfl,h⟩)) (bqi rfl) u7 VD ?_;intro bb73 v72;exact rd [1,3,4,5,6,7,8] [0,1,2,3,4,5,6,7,8,9] (H880 e47 h48 v50 sl51 rw49 v66 a69 l70 q71 v72 bb73)
   have H882 (e47:(List RR)) (h48:r13.xChains[(t29).toNat]?=some e47) (v50:Value) (sl51:Sl ZK ff32 wr31 v50 e47) (rw49:VZ wr31 ff32 (.slice a19 l20 q21) t29 1 [v50]) (v66:Value):NN 6 #[Y,Z,Y,Y,Y,Y,Y,Y,Z,Z,Z,Z,Z] [(22,pp b22),(29,v50),(24,v66)] [zf ZK 77 v66 ([]),zl wr31 ff32,zb b22 [.slice a39 l40 q41,.bool r13.xAccept] 25,zb b17 [.slice a19 l20 q21,.bool r13.xAccept] 25,rdS (.slice a19 l20 q21) r13.xChains,zb b7 [v10,I r16] 131,jR Zb v10 r9,zb b5 [S0,.bool false] 25,zb b3 [S0,.bool false] 25,jC (dSl dRR 77) 47 bb27 (.slice a39 l40 q41) xs25] (jU ([]) e47 (fun _=>jU xs25 ([([])++e47]) (fun _=>k46 (xs25++([([])++e47]))))):=by
    refine dtw 1 8 rfl rfl ?_ ?_
    ·refine zk xq (v:=(.slice a39 l40 q41)) 2 yR ?_;exact rd [1,3,4,5,6,7,8] [0,1,2,3,4,5,6,7,8,9] (H878 e47 h48 v50 sl51 rw49 v66)
    ·refine xo 0 1 (ub US (zc sl51)) yG uF ?_;intro v67;exact rd [1,3,4,5,6,7,8] [0,1,2,3,4,5,6,7,8,9] (H881 e47 h48 v50 sl51 rw49 v66 v67)
   refine zt (dp 0 [0,2,3,4,5,6,7]) xD ?_;refine zt (dp 3 [0,2,3,4,5,6,7]) xD ?_;refine zk (dp 4 [0,2,3,4,5,6,7]) (v:=(.slice a19 l20 q21)) 1 yR ?_;refine zr (dp 5 [0,2,3,4,5,6,7]) ?_;refine zF (dp 6 [0,2,3,4,5,6,7]) 0 (zc sl35) u7 ?_;intro e47 h48;obtain ⟨_,⟨v50,rfl,sl51⟩,rw49⟩:=jm sl35 h48;refine jz (dp 7 [0,2,3,4,5,6,7]) (u:=v50) 0 rw49 Ya ?_;refine dtw 1 2 rfl rfl ?_ ?_
   ·refine zk xq (v:=(.slice a39 l40 q41)) 1 yR ?_;exact rd [0,2,3,4,5,6,7] [0,1,2,3,4,5,6,7,8] (H879 e47 h48 v50 sl51 rw49)
   ·refine jX (enc:=zdv) (cells:=[]) ([]:(List RR)) US (bqi rfl) yG uF ?_;intro v66;exact rd [1,3,4,5,6,7,8] [0,1,2,3,4,5,6,7,8,9] (H882 e47 h48 v50 sl51 rw49 v66)
  ·rintro xs42 a w ⟨v43,bb45,hE,hm⟩ h;refine jt hE hm h ?_;clear hE hm h;refine y29 ?_;refine mv ?_;refine zV st ?_;intro t74;refine ma ?_;refine zu ?_;exact zM (xs42,t74) (fun a w hE hm=>⟨v43,bb45,hE.sub g6,(hm.snote 6 rfl sl37).pick [2,3,8,4,0,5,6,1] rfl⟩)
 ·refine y30 ?_;refine zT (σ:=((List (List RR))×Bool×(List RR))) (fun (xs354,t357,zs354) a w=>∃ (v353:Value),JJ [(2,pp b3),(3,pp b5),(5,pp b17),(6,pp b22)] [zb b22 [v353,.bool t357] 25,zb b17 [.slice a19 l20 q21,.bool r13.xAccept] 25,rdS (.slice a19 l20 q21) r13.xChains,zb b5 [S0,.bool false] 25,zb b3 [S0,.bool false] 25,jR (zQ ZK) v353 xs354,zat zs354] a w) ?_ ?_
  ·intro k358;refine y0 ?_;refine mv ?_;refine pk' [3,0,1,2,4,5,6,7] ?_;refine stw (jg (M0:=[zb b7 [v10,I r16] 131]) Tryz.call52 (by intro w m h;exact rf (fun _ _=>(zz zR zO)) (zE (r_0_b:=r9) (r_0_p:=r16) (n_1:=4) zm m.given (m.rdM 3 rfl xu) h)) ?_);rintro ⟨r75,r76⟩ _;refine y26 ?_;refine jB st xS ?_;refine ma ?_;refine y1 ?_;refine zj ?_ ?_
   ·refine zp ?_;refine mv ?_;refine stw (jg (M0:=[zb b7 [v10,I r76] 131]) Tryz.call51 (by intro w m h;exact rf (fun _ _=>(zz xH (zz zR zO))) (VY (r_0_b:=r9) (r_0_p:=r76) (n_1:=16) zm m.given (m.rdM 3 rfl xu) h)) ?_);rintro ⟨g77,r80⟩ ⟨v78,bb78⟩;refine zkP ?_;rintro r77 rfl;refine zkE 0 rfl ?_;rintro a81 l82 q83 rfl;refine stw (zU (cs':=[.slice a81 l82 q83,.bool r77.xAccept]) 2 yv ?_);refine y12 ?_;exact zM (r77.xChains,r77.xAccept,r77.xChains.flatten) (fun a w hE hm=>⟨.slice a81 l82 q83,hE.sub g4,(hm.spl 0 rfl).pick [4,5,6,8,9,0,1] rfl⟩)
   ·refine y0 ?_;refine jB st xS ?_;refine ma ?_;refine y1 ?_;refine zj ?_ ?_
    ·refine zp ?_;refine zt st X6 ?_;refine zk st (v:=(.bool r13.xAccept)) 1 ty4 ?_;refine jp st ?_;refine zt st X6 ?_;refine stw (zU (cs':=[v24,.bool (!r13.xAccept)]) 1 ty4 ?_);refine y12 ?_;exact zM (xs25,!r13.xAccept,[]) (fun a w hE hm=>⟨v24,hE.sub g4,(hm.freeze 7 rfl jy).sd0.pick [2,3,4,6,7,8,0] rfl⟩)
    ·refine y0 ?_;refine jB st xS ?_;refine ma ?_;refine y1 ?_;refine zj ?_ ?_
     ·refine zT (σ:=((List (List RR))×Bool)) (fun (xs152,t154) a w=>JJ [(2,pp b3),(3,pp b5),(5,pp b17),(6,pp b22),(82,.bool t154)] [zb b22 [v24,.bool r13.xAccept] 25,zb b17 [.slice a19 l20 q21,.bool r13.xAccept] 25,rdS (.slice a19 l20 q21) r13.xChains,zb b5 [S0,.bool false] 25,zb b3 [S0,.bool false] 25,zf (zQ ZK) 47 v24 xs152] a w) ?_ ?_
      ·intro k155;refine zp ?_;refine zt st xD ?_;refine zk st (v:=v24) 1 yR ?_;refine zK st u7 7 jy ?_;refine xZ st ?_;refine mv ?_;refine jO (dj:=75) rfl ?_ ?_
       ·refine zt (zH rfl rfl) xD ?_;refine zk (zH rfl rfl) (v:=v24) 1 yR ?_;refine zF (zH rfl rfl) 7 jy u7 ?_;intro e84 h85;refine uH 7 rfl ?_;refine Yq rfl rfl (jV 7 zL h85 Ya ?_);rintro wr86 ff87 _ ⟨v89,rfl,sl90⟩;refine ⟨v89,rfl,?_⟩;refine zK (zH rfl rfl) yG 0 (zc sl90) ?_;refine xZ (zH rfl rfl) ?_;refine zG st ?_;refine zu ?_;exact lj [2,3,4,6,7,8]
       ·refine ss ?_;refine ss ?_;refine ss ?_;refine ss ?_;refine ss ?_;refine ss ?_;refine zI st ?_;refine zu ?_;exact zM (xs25,false) (fun a w hE hm=>⟨hE.sub g5,(hm.undp 7 rfl).pick [1,2,3,5,6,7] rfl⟩)
      ·rintro ⟨xs152,t154⟩;refine nxj ?_;refine zj ?_ ?_
       ·refine xF 5 rfl ?_;rintro a156 l157 q158 rfl;refine x8 mixed 9 rfl [zb b22 [.slice a156 l157 q158,.bool r13.xAccept] 25,zb b17 [.slice a19 l20 q21,.bool r13.xAccept] 25,rdS (.slice a19 l20 q21) r13.xChains,zb b5 [S0,.bool false] 25,zb b3 [S0,.bool false] 25] ?_;refine zt (dp 0 [0,1,2,3,4]) xD ?_;refine zk (dp 1 [0,1,2,3,4]) (v:=(.slice a156 l157 q158)) 0 yR ?_;refine zt (dp 2 [0,1,2,3,4]) xD ?_;refine zk (dp 3 [0,1,2,3,4]) (v:=(.slice a156 l157 q158)) 0 yR ?_;refine d1 4 rfl (zF xq 5 zg u7 ?_);intro e159 h160;refine da [0,1,2,3,4] ?_;refine d1 5 rfl (jV 5 zL h160 Ya ?_);rintro wr161 ff162 _ ⟨v164,rfl,sl165⟩;refine ⟨v164,rfl,?_⟩;refine da [1,2,3,4,5] ?_;refine jM 0 rfl sl165 ?_;refine d1 6 rfl (Xg (I:=1) (J:=(e159.length:Int)) 0 yG ?_);intro v167 xs168;refine da [3,4,5,6,7] ?_;refine d1 7 rfl (zF xq 8 zg u7 ?_);intro e171 h172;refine da [3,4,5,6,7] ?_;refine yr 0 rfl ?_;rintro a173 l174 q175 rfl;refine d1 8 rfl (zaQ (El':=(zQ ZK)) (y':=xs168) 8 rfl rfl h172 (fun w cs m h=>by obtain ⟨u0_,rfl,s0_⟩:=h;exact ⟨.slice a173 l174 q175,rfl,m.ro 0 rfl⟩) Ya rfl rfl rfl rfl rfl ?_);refine da [3,4,5,6,7] ?_;refine jv (by kernel_rfl) ?_;refine yM ?_;exact zM (xs152.set (0:Int).toNat xs168,r13.xAccept,[]) (fun a w hE hm=>⟨.slice a156 l157 q158,hE.sub g4,(hm.freeze 8 rfl zg).sd0.pick [4,5,6,7,8,9,0] rfl⟩)
       ·refine y23 ?_;exact zM (xs152,r13.xAccept,[]) (fun a w hE hm=>⟨v24,hE.sub g4,(hm.freeze 5 rfl zg).sd0.pick [1,2,3,4,5,6,0] rfl⟩)
     ·refine zT (σ:=((List (List RR))×Bool)) (fun (xs245,t248) a w=>∃ (bb247:List Nat),JJ [(2,pp b3),(3,pp b5),(4,pp b7),(5,pp b17),(6,pp b22),(47,.bool t248)] [jC (dSl dRR 77) 47 bb247 v24 xs245,zb b7 [v10,I r76] 131,zb b22 [v24,.bool r13.xAccept] 25,zb b17 [.slice a19 l20 q21,.bool r13.xAccept] 25,rdS (.slice a19 l20 q21) r13.xChains,jR Zb v10 r9,zb b5 [S0,.bool false] 25,zb b3 [S0,.bool false] 25] a w) ?_ ?_
      ·intro k249;refine zp ?_;refine zt st xD ?_;refine zk st (v:=v24) 1 yR ?_;refine zK st u7 7 jy ?_;refine xZ st ?_;refine mv ?_;refine jO (dj:=40) rfl ?_ ?_
       ·refine zt (zH rfl rfl) xD ?_;refine zk (zH rfl rfl) (v:=v24) 1 yR ?_;refine zF (zH rfl rfl) 7 jy u7 ?_;intro e177 h178;refine pk' [7,0,1,2,3,4,5,6] ?_;refine Yq rfl rfl (Uw (E1:=dRR) (t1:=77) (zin:=e177) (encz:=fun v=>[v]) h178 (fun B w cs h=>h) Ya ?_);rintro v179 bb180 bb181;refine ⟨v179,rfl,?_⟩;refine zbN 1 rfl ?_;refine zK (zH rfl rfl) yG 1 zg ?_;refine jd (zH rfl rfl) ?_;refine zG st ?_;refine zu ?_;refine zle (M:=[zf ZK 77 v179 e177]) (y':=e177) (xm (yh US) (fun B w h=>⟨_,rfl,h⟩)) ?_;intro bb183;exact zM (xs25.set (0:Int).toNat e177,decide ((e177.length:Int)<8)) (jE bb183 [0,1,2,3,4,5,6,7])
       ·refine ss ?_;refine ss ?_;refine ss ?_;refine ss ?_;refine ss ?_;refine ss ?_;refine zI st ?_;refine zu ?_;exact zM (xs25,false) (jE bb27 [7,0,1,2,3,4,5,6])
      ·rintro ⟨xs245,t248⟩ a w ⟨bb247,hE,hm⟩ h;refine jt hE hm h ?_;clear hE hm h;refine zj ?_ ?_
       ·refine yr 5 rfl ?_;rintro a250 l251 q252 rfl;refine uw 0 rfl ?_;rintro a253 l254 q255 rfl;refine ZB (σ:=((List (List RR))×(List RR))) (fun (xs256,zs256) a w=>∃ (bb258:List Nat),JJ [(2,pp b3),(3,pp b5),(5,pp b17),(6,pp b22)] [jC (dSl dRR 77) 47 bb258 (.slice a253 l254 q255) xs256,zb b22 [.slice a253 l254 q255,.bool r13.xAccept] 25,zb b17 [.slice a19 l20 q21,.bool r13.xAccept] 25,rdS (.slice a19 l20 q21) r13.xChains,zb b5 [S0,.bool false] 25,zb b3 [S0,.bool false] 25,zat zs256] a w) ?_ ?_
        ·intro k259;refine ur mixed 12 rfl [zb b22 [.slice a253 l254 q255,.bool r13.xAccept] 25,zb b17 [.slice a19 l20 q21,.bool r13.xAccept] 25,rdS (.slice a19 l20 q21) r13.xChains,jR Zb (.slice a250 l251 q252) r9,zb b5 [S0,.bool false] 25,zb b3 [S0,.bool false] 25] ?_;intro Qd hP hQ;let NN:=fun i l E L=>Nn 93 [] F w0 Tryz.prog (YP Tryz.f12 [1,1,1,1,1,0,1,0,1,1,1,1,1,1,1,0]) Qd [zb b22 [.slice a253 l254 q255,.bool r13.xAccept] 25,zb b17 [.slice a19 l20 q21,.bool r13.xAccept] 25,rdS (.slice a19 l20 q21) r13.xChains,jR Zb (.slice a250 l251 q252) r9,zb b5 [S0,.bool false] 25,zb b3 [S0,.bool false] 25] i l ([]++E) (L++[]);have H896 (e260:(List RR)) (h261:xs245[(0:Int).toNat]?=some e260) (v262:Value) (bb263 bb264:List Nat) (r265:RR) (r266:Int) (v267:Value) (a272:Option Addr) (l273 q274:Nat) (e270:(List RR)) (h271:xs245[(0:Int).toNat]?=some e270) (bb275:List Nat):NN 0 #[Y,Y,Y,Y,Y,Y,Y,Y,Y,Y,Y,Y] [(2,pp b3),(3,pp b5),(5,pp b17),(6,pp b22)] [jC (dSl dRR 77) 47 bb275 (.slice a253 l254 q255) (xs245.set (0:Int).toNat (e260++([r265]))),zb b7 [.slice a250 l251 q252,I r266] 131,zb b22 [.slice a253 l254 q255,.bool r13.xAccept] 25,zb b17 [.slice a19 l20 q21,.bool r13.xAccept] 25,rdS (.slice a19 l20 q21) r13.xChains,jR Zb (.slice a250 l251 q252) r9,zb b5 [S0,.bool false] 25,zb b3 [S0,.bool false] 25,zat [r265]] (k259 (xs245.set (0:Int).toNat (e260++([r265])),[r265])):=by
          refine jv (by kernel_rfl) ?_;exact fun a w hE hm hφ=>hQ (xs245.set (0:Int).toNat (e260++([r265])),[r265]) a w hφ ((jE bb275 [0,2,3,4,6,7,8]) a w hE hm)
         have H897 (e260:(List RR)) (h261:xs245[(0:Int).toNat]?=some e260) (v262:Value) (bb263 bb264:List Nat) (r265:RR) (r266:Int) (v267 v268:Value) (e270:(List RR)) (h271:xs245[(0:Int).toNat]?=some e270):NN 1 #[Y,Y,Y,Y,Y,Y,Y,Y,Y,Y,Y,Z] [(2,pp b3),(3,pp b5),(5,pp b17),(6,pp b22),(57,v268),(58,pEl (.slice a253 l254 q255) 0 1 0)] [zb b7 [.slice a250 l251 q252,I r266] 131,Um (dSl dRR 77) 47 bb263 (.slice a253 l254 q255) xs245 (0:Int).toNat [v262],zf ZK 77 v268 (e260++([r265])),zb b22 [.slice a253 l254 q255,.bool r13.xAccept] 25,zb b17 [.slice a19 l20 q21,.bool r13.xAccept] 25,rdS (.slice a19 l20 q21) r13.xChains,jR Zb (.slice a250 l251 q252) r9,zb b5 [S0,.bool false] 25,zb b3 [S0,.bool false] 25,zat [r265]] (k259 (xs245.set (0:Int).toNat (e260++([r265])),[r265])):=by
          refine xF 2 rfl ?_;rintro a272 l273 q274 rfl;refine pk' [1,2,0,3,4,5,6,7,8,9] ?_;refine d1 11 rfl (zmk (M:=[zf ZK 77 (.slice a272 l273 q274) (e260++([r265]))]) (y':=(e260++([r265]))) rfl (.inr (zf5 h261)) (xm (yh US) (fun B w h=>⟨_,rfl,h⟩)) Ya rfl rfl rfl rfl rfl ?_);intro bb275;exact rd [2,3,4,5,6,7] [0,1,2,3,4,5,6,7,8] (H896 e260 h261 v262 bb263 bb264 r265 r266 v267 a272 l273 q274 e270 h271 bb275)
         have H898 (e260:(List RR)) (h261:xs245[(0:Int).toNat]?=some e260) (v262:Value) (bb263 bb264:List Nat) (r265:RR) (r266:Int) (v267 v268:Value):NN 2 #[Y,Y,Y,Y,Y,Y,Y,Y,Y,Y,Z,Z] [(2,pp b3),(3,pp b5),(5,pp b17),(6,pp b22),(49,.slice a253 l254 q255),(57,v268)] [zb b7 [.slice a250 l251 q252,I r266] 131,Um (dSl dRR 77) 47 bb263 (.slice a253 l254 q255) xs245 (0:Int).toNat [v262],zf ZK 77 v268 (e260++([r265])),zb b22 [.slice a253 l254 q255,.bool r13.xAccept] 25,zb b17 [.slice a19 l20 q21,.bool r13.xAccept] 25,rdS (.slice a19 l20 q21) r13.xChains,jR Zb (.slice a250 l251 q252) r9,zb b5 [S0,.bool false] 25,zb b3 [S0,.bool false] 25,zat [r265]] (zJ xs245 0 (fun e270=>k259 (xs245.set (0:Int).toNat (e260++([r265])),[r265]))):=by
          refine d1 10 rfl (ziZ xq 1 u7 ?_);intro e270 h271;exact rd [3,4,5,6,7,8] [0,1,2,3,4,5,6,7,8,9] (H897 e260 h261 v262 bb263 bb264 r265 r266 v267 v268 e270 h271)
         have H899 (e260:(List RR)) (h261:xs245[(0:Int).toNat]?=some e260) (v262:Value) (bb263 bb264:List Nat) (r265:RR) (r266:Int) (v267:Value):NN 3 #[Y,Y,Y,Y,Y,Y,Y,Y,Y,Z,Z,Z] [(2,pp b3),(3,pp b5),(5,pp b17),(6,pp b22),(49,.slice a253 l254 q255),(53,v262),(56,v267)] [zf ZK 77 v267 ([r265]),zb b7 [.slice a250 l251 q252,I r266] 131,Um (dSl dRR 77) 47 bb263 (.slice a253 l254 q255) xs245 (0:Int).toNat [v262],zf ZK 77 v262 e260,zb b22 [.slice a253 l254 q255,.bool r13.xAccept] 25,zb b17 [.slice a19 l20 q21,.bool r13.xAccept] 25,rdS (.slice a19 l20 q21) r13.xChains,jR Zb (.slice a250 l251 q252) r9,zb b5 [S0,.bool false] 25,zb b3 [S0,.bool false] 25,zat [r265]] (jU e260 ([r265]) (fun _=>zJ xs245 0 (fun e270=>k259 (xs245.set (0:Int).toNat (e260++([r265])),[r265])))):=by
          refine d1 9 rfl (xo 3 0 (ub US zg) yG uF ?_);intro v268;exact rd [4,5,6,7,8,9] [1,2,3,4,5,6,7,8,9,10] (H898 e260 h261 v262 bb263 bb264 r265 r266 v267 v268)
         have H900 (e260:(List RR)) (h261:xs245[(0:Int).toNat]?=some e260) (v262:Value) (bb263 bb264:List Nat) (r265:RR) (r266:Int):NN 4 #[Y,Y,Y,Y,Y,Y,Y,Y,Z,Z,Z,Z] [(2,pp b3),(3,pp b5),(5,pp b17),(6,pp b22),(49,.slice a253 l254 q255),(53,v262),(55,.agg #[hdV r265.xTests,I r265.xAction,I r265.xChain])] [zb b7 [.slice a250 l251 q252,I r266] 131,Um (dSl dRR 77) 47 bb263 (.slice a253 l254 q255) xs245 (0:Int).toNat [v262],zf ZK 77 v262 e260,zb b22 [.slice a253 l254 q255,.bool r13.xAccept] 25,zb b17 [.slice a19 l20 q21,.bool r13.xAccept] 25,rdS (.slice a19 l20 q21) r13.xChains,jR Zb (.slice a250 l251 q252) r9,zb b5 [S0,.bool false] 25,zb b3 [S0,.bool false] 25,zat [r265]] (jU e260 ([r265]) (fun _=>zJ xs245 0 (fun e270=>k259 (xs245.set (0:Int).toNat (e260++([r265])),[r265])))):=by
          refine d1 8 rfl (jX (enc:=zdv) (cells:=[hdV r265.xTests,I r265.xAction,I r265.xChain]) ([r265]) US (bqi rfl) yG uF ?_);intro v267;exact rd [4,5,6,7,8,9] [0,1,2,3,4,5,6,7,8,9,10] (H899 e260 h261 v262 bb263 bb264 r265 r266 v267)
         have H901 (e260:(List RR)) (h261:xs245[(0:Int).toNat]?=some e260) (v262:Value) (bb263 bb264:List Nat):NN 5 #[Y,Y,Y,Y,Y,Y,Y,Z,Z,Z,Z,Z] [(2,pp b3),(3,pp b5),(5,pp b17),(6,pp b22),(49,.slice a253 l254 q255),(54,pp b7),(53,v262)] [Um (dSl dRR 77) 47 bb263 (.slice a253 l254 q255) xs245 (0:Int).toNat [v262],zf ZK 77 v262 e260,zb b7 [.slice a250 l251 q252,I r76] 131,zb b22 [.slice a253 l254 q255,.bool r13.xAccept] 25,zb b17 [.slice a19 l20 q21,.bool r13.xAccept] 25,rdS (.slice a19 l20 q21) r13.xChains,jR Zb (.slice a250 l251 q252) r9,zb b5 [S0,.bool false] 25,zb b3 [S0,.bool false] 25] (XI r9 r76 9 9 0 (fun (r265,r266)=>jU e260 ([r265]) (fun _=>zJ xs245 0 (fun e270=>k259 (xs245.set (0:Int).toNat (e260++([r265])),[r265]))))):=by
          refine pk' [2,0,1,3,4,5,6,7,8] ?_;refine d1 7 rfl (jg (M0:=[zb b7 [.slice a250 l251 q252,I r76] 131]) Tryz.call53 (by intro w m h;exact rf (fun _ _=>(zz (jW xU) (zz zR zO))) (Yt (r_0_b:=r9) (r_0_p:=r76) (first_1:=9) (chains_2:=9) (n_3:=0) zm m.given (m.rdM 5 rfl xu) h)) ?_);rintro ⟨g265,r266⟩ u265;refine zhn ?_;rintro r265 rfl;exact rd [3,4,5,6,7,8] [0,1,2,3,4,5,6,7,8,9] (H900 e260 h261 v262 bb263 bb264 r265 r266)
         have H902 (e260:(List RR)) (h261:xs245[(0:Int).toNat]?=some e260) (r277:RR) (r278:Int) (v282:Value):NN 4 #[Y,Y,Y,Y,Y,Z,Y,Y,Y,Z,Z,Z] [(2,pp b3),(3,pp b5),(5,pp b17),(6,pp b22),(49,.slice a253 l254 q255),(52,pEl (.slice a253 l254 q255) 0 1 0),(56,v282)] [zf ZK 77 v282 ([r277]),zb b7 [.slice a250 l251 q252,I r278] 131,jC (dSl dRR 77) 47 bb247 (.slice a253 l254 q255) xs245,zb b22 [.slice a253 l254 q255,.bool r13.xAccept] 25,zb b17 [.slice a19 l20 q21,.bool r13.xAccept] 25,rdS (.slice a19 l20 q21) r13.xChains,jR Zb (.slice a250 l251 q252) r9,zb b5 [S0,.bool false] 25,zb b3 [S0,.bool false] 25,zat [r277]] (jU e260 ([r277]) (fun _=>zJ xs245 0 (fun e270=>k259 (xs245.set (0:Int).toNat (e260++([r277])),[r277])))):=by
          refine pk' [2,0,1,3,4,5,6,7,8,9] ?_;refine d1 5 rfl (Uw (E1:=dRR) (t1:=77) (zin:=e260) (encz:=fun v=>[v]) h261 (fun B w cs h=>h) Ya ?_);rintro v283 bb284 bb285;refine ⟨v283,rfl,?_⟩;refine zbN 1 rfl ?_;exact rd [4,5,6,7,8,9] [2,3,0,1,4,5,6,7,8,9,10] (H899 e260 h261 v283 bb284 bb285 r277 r278 v282)
         have H903 (e260:(List RR)) (h261:xs245[(0:Int).toNat]?=some e260) (r277:RR) (r278:Int):NN 5 #[Y,Y,Y,Y,Y,Z,Y,Y,Z,Z,Z,Z] [(2,pp b3),(3,pp b5),(5,pp b17),(6,pp b22),(49,.slice a253 l254 q255),(52,pEl (.slice a253 l254 q255) 0 1 0),(55,.agg #[hdV r277.xTests,I r277.xAction,I r277.xChain])] [zb b7 [.slice a250 l251 q252,I r278] 131,jC (dSl dRR 77) 47 bb247 (.slice a253 l254 q255) xs245,zb b22 [.slice a253 l254 q255,.bool r13.xAccept] 25,zb b17 [.slice a19 l20 q21,.bool r13.xAccept] 25,rdS (.slice a19 l20 q21) r13.xChains,jR Zb (.slice a250 l251 q252) r9,zb b5 [S0,.bool false] 25,zb b3 [S0,.bool false] 25,zat [r277]] (jU e260 ([r277]) (fun _=>zJ xs245 0 (fun e270=>k259 (xs245.set (0:Int).toNat (e260++([r277])),[r277])))):=by
          refine dtw 5 8 rfl rfl ?_ ?_
          ·refine pk' [1,0,2,3,4,5,6,7,8] ?_;refine Uw (E1:=dRR) (t1:=77) (zin:=e260) (encz:=fun v=>[v]) h261 (fun B w cs h=>h) Ya ?_;rintro v279 bb280 bb281;refine ⟨v279,rfl,?_⟩;refine zbN 1 rfl ?_;exact rd [3,4,5,6,7,8] [2,0,1,3,4,5,6,7,8,9] (H900 e260 h261 v279 bb280 bb281 r277 r278)
          ·refine jX (enc:=zdv) (cells:=[hdV r277.xTests,I r277.xAction,I r277.xChain]) ([r277]) US (bqi rfl) yG uF ?_;intro v282;exact rd [3,4,5,6,7,8] [0,1,2,3,4,5,6,7,8,9] (H902 e260 h261 r277 r278 v282)
         have H904 (e260:(List RR)) (h261:xs245[(0:Int).toNat]?=some e260):NN 6 #[Y,Y,Y,Y,Y,Z,Y,Z,Z,Z,Z,Z] [(2,pp b3),(3,pp b5),(5,pp b17),(6,pp b22),(49,.slice a253 l254 q255),(54,pp b7),(52,pEl (.slice a253 l254 q255) 0 1 0)] [jC (dSl dRR 77) 47 bb247 (.slice a253 l254 q255) xs245,zb b7 [.slice a250 l251 q252,I r76] 131,zb b22 [.slice a253 l254 q255,.bool r13.xAccept] 25,zb b17 [.slice a19 l20 q21,.bool r13.xAccept] 25,rdS (.slice a19 l20 q21) r13.xChains,jR Zb (.slice a250 l251 q252) r9,zb b5 [S0,.bool false] 25,zb b3 [S0,.bool false] 25] (XI r9 r76 9 9 0 (fun (r265,r266)=>jU e260 ([r265]) (fun _=>zJ xs245 0 (fun e270=>k259 (xs245.set (0:Int).toNat (e260++([r265])),[r265]))))):=by
          refine dtw 5 7 rfl rfl ?_ ?_
          ·refine Uw (E1:=dRR) (t1:=77) (zin:=e260) (encz:=fun v=>[v]) h261 (fun B w cs h=>h) Ya ?_;rintro v262 bb263 bb264;refine ⟨v262,rfl,?_⟩;refine zbN 1 rfl ?_;exact rd [3,4,5,6,7,8] [0,1,2,3,4,5,6,7,8] (H901 e260 h261 v262 bb263 bb264)
          ·refine pk' [1,0,2,3,4,5,6,7] ?_;refine jg (vs:=[pp b7,I 9,I 9,I 0]) (M0:=[zb b7 [.slice a250 l251 q252,I r76] 131]) Tryz.call53 (by intro w m h;exact rf (fun _ _=>(zz (jW xU) (zz zR zO))) (Yt (r_0_b:=r9) (r_0_p:=r76) (first_1:=9) (chains_2:=9) (n_3:=0) zm m.given (m.rdM 4 rfl xu) h)) ?_;rintro ⟨g277,r278⟩ u277;refine zhn ?_;rintro r277 rfl;exact rd [2,3,4,5,6,7] [0,1,2,3,4,5,6,7,8] (H903 e260 h261 r277 r278)
         have H905 (r286:RR) (r287:Int) (v290:Value):NN 5 #[Y,Y,Y,Y,Z,Z,Y,Y,Y,Z,Z,Z] [(2,pp b3),(3,pp b5),(5,pp b17),(6,pp b22),(49,.slice a253 l254 q255),(51,.slice a253 l254 q255),(56,v290)] [zf ZK 77 v290 ([r286]),zb b7 [.slice a250 l251 q252,I r287] 131,jC (dSl dRR 77) 47 bb247 (.slice a253 l254 q255) xs245,zb b22 [.slice a253 l254 q255,.bool r13.xAccept] 25,zb b17 [.slice a19 l20 q21,.bool r13.xAccept] 25,rdS (.slice a19 l20 q21) r13.xChains,jR Zb (.slice a250 l251 q252) r9,zb b5 [S0,.bool false] 25,zb b3 [S0,.bool false] 25,zat [r286]] (zJ xs245 0 (fun e291=>jU e291 ([r286]) (fun _=>zJ xs245 0 (fun e270=>k259 (xs245.set (0:Int).toNat (e291++([r286])),[r286]))))):=by
          refine d1 4 rfl (zF xq 2 jy u7 ?_);intro e291 h292;exact rd [3,4,5,6,7,8] [0,1,2,3,4,5,6,7,8,9] (H902 e291 h292 r286 r287 v290)
         have H906 (r286:RR) (r287:Int):NN 6 #[Y,Y,Y,Y,Z,Z,Y,Y,Z,Z,Z,Z] [(2,pp b3),(3,pp b5),(5,pp b17),(6,pp b22),(49,.slice a253 l254 q255),(51,.slice a253 l254 q255),(55,.agg #[hdV r286.xTests,I r286.xAction,I r286.xChain])] [zb b7 [.slice a250 l251 q252,I r287] 131,jC (dSl dRR 77) 47 bb247 (.slice a253 l254 q255) xs245,zb b22 [.slice a253 l254 q255,.bool r13.xAccept] 25,zb b17 [.slice a19 l20 q21,.bool r13.xAccept] 25,rdS (.slice a19 l20 q21) r13.xChains,jR Zb (.slice a250 l251 q252) r9,zb b5 [S0,.bool false] 25,zb b3 [S0,.bool false] 25,zat [r286]] (zJ xs245 0 (fun e288=>jU e288 ([r286]) (fun _=>zJ xs245 0 (fun e270=>k259 (xs245.set (0:Int).toNat (e288++([r286])),[r286]))))):=by
          refine dtw 4 8 rfl rfl ?_ ?_
          ·refine zF xq 1 jy u7 ?_;intro e288 h289;exact rd [2,3,4,5,6,7] [0,1,2,3,4,5,6,7,8] (H903 e288 h289 r286 r287)
          ·refine jX (enc:=zdv) (cells:=[hdV r286.xTests,I r286.xAction,I r286.xChain]) ([r286]) US (bqi rfl) yG uF ?_;intro v290;exact rd [3,4,5,6,7,8] [0,1,2,3,4,5,6,7,8,9] (H905 r286 r287 v290)
         refine zt (dp 0 [2,3,4,5,6,7]) xD ?_;refine zk (dp 1 [2,3,4,5,6,7]) (v:=(.slice a253 l254 q255)) 0 yR ?_;refine zt (dp 2 [2,3,4,5,6,7]) xD ?_;refine zk (dp 3 [2,3,4,5,6,7]) (v:=(.slice a253 l254 q255)) 0 yR ?_;refine zr (dp 6 [2,3,4,5,6,7]) ?_;refine dtw 4 7 rfl rfl ?_ ?_
         ·refine zaM ?_;refine zF xq 0 jy u7 ?_;intro e260 h261;exact rd [2,3,4,5,6,7] [0,1,2,3,4,5,6,7] (H904 e260 h261)
         ·refine VU ?_;refine pk' [1,0,2,3,4,5,6,7] ?_;refine jg (vs:=[pp b7,I 9,I 9,I 0]) (M0:=[zb b7 [.slice a250 l251 q252,I r76] 131]) Tryz.call53 (by intro w m h;exact rf (fun _ _=>(zz (jW xU) (zz zR zO))) (Yt (r_0_b:=r9) (r_0_p:=r76) (first_1:=9) (chains_2:=9) (n_3:=0) zm m.given (m.rdM 4 rfl xu) h)) ?_;rintro ⟨g286,r287⟩ u286;refine zhn ?_;rintro r286 rfl;exact rd [2,3,4,5,6,7] [0,1,2,3,4,5,6,7,8] (H906 r286 r287)
        ·rintro ⟨xs256,zs256⟩ a w ⟨bb258,hE,hm⟩ h;refine jt hE hm h ?_;clear hE hm h;refine yM ?_;exact zM (xs256,r13.xAccept,zs256) (fun a w hE hm=>⟨.slice a253 l254 q255,hE.sub g4,(hm.freeze 0 rfl jy).pick [1,2,3,4,5,0,6] rfl⟩)
       ·refine y23 ?_;exact zM (xs245,r13.xAccept,[]) (fun a w hE hm=>⟨v24,hE.sub g4,(hm.freeze 0 rfl jy).sd0.pick [3,4,5,7,8,1,0] rfl⟩)
  ·rintro ⟨xs354,t357,zs354⟩ a w ⟨v353,hE,hm⟩ h;refine jt hE hm h ?_;clear hE hm h;refine jA ?_;refine zaO ?_;intro wr359 ff360 hk361;have sl365:Sl (zQ ZK) ff360 wr359 v353 xs354:=hk361 (jR (zQ ZK) v353 xs354) (xB (i:=5) rfl);obtain ⟨a367,l368,q369,rfl⟩:=zw sl365;refine x8 mixed 4 rfl [zl wr359 ff360,zb b22 [.slice a367 l368 q369,.bool t357] 25,zb b17 [.slice a19 l20 q21,.bool r13.xAccept] 25,rdS (.slice a19 l20 q21) r13.xChains,jR (zQ ZK) (.slice a367 l368 q369) xs354] ?_;refine zk (dp 0 [0,1,2,3,6]) (v:=(.agg #[.slice a19 l20 q21,.bool r13.xAccept])) 2 yv ?_;refine zk (dp 1 [0,1,2,3,6]) (v:=(.agg #[.slice a367 l368 q369,.bool t357])) 1 yv ?_;refine d1 2 rfl (zU (cs':=[.slice a19 l20 q21,.bool r13.xAccept]) 5 yv ?_);refine da [0,1,2,3,6] ?_;refine d1 3 rfl (zU (cs':=[.slice a367 l368 q369,.bool t357]) 4 yv ?_);refine da [0,1,2,3,6] ?_;refine jv (by kernel_rfl) ?_;refine zY (uv ?_);exact xf Tryz.results12 (r13,RS.mk xs354 t357,zs354) (.slice a19 l20 q21,.slice a367 l368 q369) (ZC 5 rfl rfl yv rfl) (ZC 4 rfl rfl yv rfl) rfl (fun w m=>zP.ofB m [3,6,7] rfl)
def Pok (r:RS×RS×List RR):Prop:=∀ x,x∈r.2.1.xChains.flatten→x∈r.1.xChains.flatten∨x∈r.2.2
def yX (code_0:List UInt8) (κ:zN×zN→Prop):Prop:=Z9 code_0 (fun r=>Pok r∧κ (erS r.1,erS r.2.1))
theorem zaS {w0:World} {F:Nat→Prop} {v1:Value} {code_0:List UInt8} {κ:(zN×zN)→Prop} (hF:Fr [] F w0) (hv1:Sl Zb F w0 v1 code_0) (h:yX code_0 κ) :
  Calls Tryz.prog 12 #[v1] w0 (Ret [] F w0 κ (fun (r:(zN×zN)) (u:Value×Value)=>.tuple #[(.agg #[u.1,(.bool r.1.xAccept)]),(.agg #[u.2,(.bool r.2.xAccept)])]) (fun (r:(zN×zN)) (u:Value×Value)=>[jR (zQ xt) u.1 r.1.xChains,jR (zQ xt) u.2 r.2.xChains])):=by
 refine (zaD hF hv1 h).mono ?_
 rintro e w' ⟨r,u,⟨hp,hk⟩,he,hu,hn⟩
 refine ⟨(erS r.1,erS r.2.1),u,hk,he,hu,?_⟩
 have fzE:∀ (X:Nat→Prop) b,fz X [rdS u.1 r.1.xChains,jR (zQ ZK) u.2 r.2.1.xChains,zat r.2.2] w' b→fz X [jR (zQ xt) u.1 (erS r.1).xChains,jR (zQ xt) u.2 (erS r.2.1).xChains] w' b:=fun X b hb=>⟨hb.1,hb.2.1,fun c hc=>by
  simp only [List.mem_cons,List.not_mem_nil,or_false] at hc
  rcases hc with rfl | rfl <;> exact fun h=>h⟩
 have h1:=hn.hold (rdS u.1 r.1.xChains) (by simp)
 have h2:=hn.hold (jR (zQ ZK) u.2 r.2.1.xChains) (by simp)
 have h3:=hn.hold (zat r.2.2) (by simp)
 refine ⟨fun c hc b hb=>?_,?_,fun c hc=>?_⟩
 ·simp only [List.mem_cons,List.not_mem_nil,or_false] at hc
  rcases hc with rfl | rfl <;> exact hb.elim
 ·simp only [List.pairwise_cons,List.mem_cons,List.not_mem_nil,or_false]
  exact ⟨fun c hc b hb=>hb.elim,fun c hc=>hc.elim,List.Pairwise.nil⟩
 ·simp only [List.mem_cons,List.not_mem_nil,or_false] at hc
  rcases hc with rfl | rfl
  ·exact Sl.keep (zhG h1.1 h1.2) (fzE _) (fun _ _=>rfl)
  ·exact Sl.keep (zhG h2 (fun x hx=>(hp x hx).elim (h1.2 x) (h3 x))) (fzE _) (fun _ _=>rfl)
end
section
open Go.RowKit
variable {w0:World} {F:Nat→Prop}
def Yn (code_0:(List UInt8)) (p1:(List UInt8)) (κ:Bool→Prop):Prop :=
 jnW (fun (t65:Bool)=>ifW t65 (κ true) (yX code_0 (fun (r67,r70)=>yn r67 r70 (fun r83=>Xu r67 r70 (fun r84=>ifW (!(decide (r83=r84))) (κ false) (yn r70 r67 (fun r85=>yn r67 r67 (fun r86=>ifW (decide (r83=4)) (jnW (fun (t148:Bool)=>κ t148) (fun k149=>ifW (decide (r85=4)) (Vx (fun r87=>k149 r87)) (k149 false))) (Z4 r67 (fun (r150,r154)=>Z4 r70 (fun (r155,r159)=>Xb r150 (fun r163=>jU ([]) r163 (fun _=>Xb r155 (fun r170=>jU (([])++r163) r170 (fun _=>Vs ((([])++r163)++r170) (p1.length:Int) (fun r177=>jnW (fun (t242:Bool)=>jnW (fun (t306:Bool)=>jnW (fun (t372:Bool)=>κ t372) (fun k373=>zJ ([0,2,1,3]) (bits .and .i64 r83 3) (fun e310=>ifW (decide (r85=e310)) (ifW (decide (r86=0)) (ifW (!t242) (ifW (!t306) (k373 true) (ifW (decide (r83=1)) (k373 true) (k373 (decide (r83=3))))) (ifW (decide (2≤r83)) (ifW (!t306) (k373 true) (ifW (decide (r83=1)) (k373 true) (k373 (decide (r83=3))))) (k373 false))) (ifW (decide (r86=4)) (ifW (!t242) (ifW (!t306) (k373 true) (ifW (decide (r83=1)) (k373 true) (k373 (decide (r83=3))))) (ifW (decide (2≤r83)) (ifW (!t306) (k373 true) (ifW (decide (r83=1)) (k373 true) (k373 (decide (r83=3))))) (k373 false))) (k373 false))) (k373 false)))) (fun k307=>yV r67 r177 (fun r244=>ifW r244 (yV r70 r177 (fun r245=>k307 (!r245))) (k307 false)))) (fun k243=>yV r67 r177 (fun r180=>ifW (!r180) (yV r70 r177 (fun r181=>k243 r181)) (k243 false))))))))))))))))))) (fun k66=>ifW (decide (1048576<(code_0.length:Int))) (k66 true) (k66 (decide (1048576<(p1.length:Int)))))
theorem zby {v1 v3:Value} {code_0 p1:(List UInt8)} {κ:Bool→Prop} (hF:Fr [] F w0) (hv1:Sl Zb F w0 v1 code_0) (hv3:Sl Zb F w0 v3 p1) (hgl0:Sl ji F w0 (.slice (some ⟨0,0,none⟩) 4 4) zA) (h:Yn code_0 p1 κ) :
  Cl Tryz.prog 3 #[v1,v3] w0 [] F κ (fun r (u:Unit)=>(.bool r)) (fun r u=>[]):=by
 refine eS hF Tryz.func3 Tryz.ntmps3 h ?_;clear h hF;let JJ:=Jn 124 [] F w0;refine y0 ?_;refine ma ?_;refine y9 ?_;refine zT (σ:=Bool) (fun t65=>JJ [(0,v1),(1,v3),(24,.bool t65)] [zl w0 F]) ?_ ?_
 ·intro k66;refine zp ?_;refine mv ?_;refine zK st zdV 0 (zc hv1) ?_;refine xZ st ?_;refine mv ?_;refine jO (dj:=20) rfl ?_ ?_
  ·refine ss ?_;refine ss ?_;refine ss ?_;refine zG st ?_;refine zu ?_;exact lj [0]
  ·refine zr (zH rfl rfl) ?_;refine zK (zH rfl rfl) zdV 0 (zc hv3) ?_;refine xZ (zH rfl rfl) ?_;refine zI st ?_;refine zu ?_;exact lj [0]
 ·rintro t65;refine nxj ?_;refine zj ?_ ?_
  ·refine y0 ?_;refine ma ?_;refine y6 ?_;exact lu Tryz.results3
  ·refine y8 ?_;refine mv ?_;refine stw (zi Tryz.call12 (by intro w m h;exact zaS (code_0:=code_0) jJ (m.roS 0 rfl hv1) h) ?_);rintro ⟨r67,r70⟩ ⟨v68,v71⟩;refine mv ?_;refine zZ st (vs:=[.agg #[v68,.bool r67.xAccept],.agg #[v71,.bool r70.xAccept]]) ?_;refine zZ st (vs:=[.agg #[v68,.bool r67.xAccept],.agg #[v71,.bool r70.xAccept]]) ?_;refine stw (je [S0,.bool false] V9 ?_);intro b73;refine stw (je [S0,.bool false] V9 ?_);intro b75;refine yr 2 rfl ?_;rintro a77 l78 q79 rfl;refine stw (zU (cs':=[.slice a77 l78 q79,.bool r67.xAccept]) 1 yv ?_);refine yr 3 rfl ?_;rintro a80 l81 q82 rfl;refine stw (zU (cs':=[.slice a80 l81 q82,.bool r70.xAccept]) 0 yv ?_);refine y2 ?_;refine zk st (v:=(.agg #[.slice a77 l78 q79,.bool r67.xAccept])) 1 yv ?_;refine zk st (v:=(.agg #[.slice a80 l81 q82,.bool r70.xAccept])) 0 yv ?_;refine stw (zi Tryz.call13 (by intro w m h;exact rf0 (Y6 (old_0:=r67) (next_1:=r70) zm (m.rd0 2 rfl xu) (m.rd0 3 rfl xu) (m.q 4 hgl0) h)) ?_);rintro r83 _;refine ma ?_;refine y4 ?_;refine mv ?_;refine zk st (v:=(.agg #[.slice a77 l78 q79,.bool r67.xAccept])) 1 yv ?_;refine zk st (v:=(.agg #[.slice a80 l81 q82,.bool r70.xAccept])) 0 yv ?_;refine stw (zi Tryz.call14 (by intro w m h;exact rf0 (zcf (old_0:=r67) (next_1:=r70) zm (m.rd0 2 rfl xu) (m.rd0 3 rfl xu) h)) ?_);rintro r84 _;refine zbt st xS ?_;refine y1 ?_;refine zj ?_ ?_
   ·refine y0 ?_;refine ma ?_;refine y6 ?_;exact lu Tryz.results3
   ·refine y8 ?_;refine zk st (v:=(.agg #[.slice a80 l81 q82,.bool r70.xAccept])) 0 yv ?_;refine zk st (v:=(.agg #[.slice a77 l78 q79,.bool r67.xAccept])) 1 yv ?_;refine stw (zi Tryz.call13 (by intro w m h;exact rf0 (Y6 (old_0:=r70) (next_1:=r67) zm (m.rd0 3 rfl xu) (m.rd0 2 rfl xu) (m.q 4 hgl0) h)) ?_);rintro r85 _;refine ma ?_;refine y2 ?_;refine zk st (v:=(.agg #[.slice a77 l78 q79,.bool r67.xAccept])) 1 yv ?_;refine zk st (v:=(.agg #[.slice a77 l78 q79,.bool r67.xAccept])) 1 yv ?_;refine stw (zi Tryz.call13 (by intro w m h;exact rf0 (Y6 (old_0:=r67) (next_1:=r67) zm (m.rd0 2 rfl xu) (m.rd0 2 rfl xu) (m.q 4 hgl0) h)) ?_);rintro r86 _;refine ma ?_;refine y4 ?_;refine mv ?_;refine jB st xS ?_;refine y1 ?_;refine zj ?_ ?_
    ·refine zT (σ:=Bool) (fun t148=>JJ [(4,.bool t148)] [zl w0 F]) ?_ ?_
     ·intro k149;refine zp ?_;refine mv ?_;refine jB st xS ?_;refine mv ?_;refine jO (dj:=48) rfl ?_ ?_
      ·refine Yq rfl rfl (zi Tryz.call15 (by intro w m h;exact rf0 (zhe zm h)) ?_);rintro r87 _;refine zG st ?_;refine ma ?_;refine zu ?_;exact lj [4]
      ·refine ss ?_;refine zI st ?_;refine ma ?_;refine zu ?_;exact lj [4]
     ·rintro t148;refine nxj ?_;refine uv (xC ?_);exact lu Tryz.results3
    ·refine y8 ?_;refine zk st (v:=(.agg #[.slice a77 l78 q79,.bool r67.xAccept])) 1 yv ?_;refine stw (zi Tryz.call16 (by intro w m h;exact rf (fun _ _=>(zz xH zO)) (zbG (s_0:=r67) zm (m.rd0 2 rfl xu) (m.q 4 hgl0) h)) ?_);rintro ⟨r150,r154⟩ ⟨v151,bb152⟩;refine mv ?_;refine zZ st (vs:=[v151,.bool r154]) ?_;refine zZ st (vs:=[v151,.bool r154]) ?_;refine ma ?_;refine ma ?_;refine y2 ?_;refine zk st (v:=(.agg #[.slice a80 l81 q82,.bool r70.xAccept])) 1 yv ?_;refine stw (zi Tryz.call16 (by intro w m h;exact rf (fun _ _=>(zz xH zO)) (zbG (s_0:=r70) zm (m.rd0 4 rfl xu) (m.q 5 hgl0) h)) ?_);rintro ⟨r155,r159⟩ ⟨v156,bb157⟩;refine mv ?_;refine zZ st (vs:=[v156,.bool r159]) ?_;refine zZ st (vs:=[v156,.bool r159]) ?_;refine ma ?_;refine ma ?_;refine y2 ?_;refine stw (xr (E':=xK) (bqi rfl) uW xi ?_);intro bb161 v160;refine mv ?_;refine stw (zi Tryz.call18 (by intro w m h;exact rf (fun _ _=>(zz xH zO)) (zay (list_0:=r150) zm (m.rd0 2 rfl jy) (m.q 7 hgl0) h)) ?_);rintro r163 ⟨v164,bb165⟩;refine pk' [1,0,2,3,4,5,6,7,8] ?_;refine stw (yf uW xi ?_);intro bb168 v167;refine mv ?_;refine stw (zi Tryz.call18 (by intro w m h;exact rf (fun _ _=>(zz xH zO)) (zay (list_0:=r155) zm (m.rd0 1 rfl jy) (m.q 7 hgl0) h)) ?_);rintro r170 ⟨v171,bb172⟩;refine pk' [1,0,2,3,4,5,6,7,8] ?_;refine stw (yf uW xi ?_);intro bb175 v174;refine mv ?_;refine zK st zdV 7 (zc hv3) ?_;refine stw (zi Tryz.call17 (by intro w m h;exact rf0 (zg4 (list_0:=((([])++r163)++r170)) (seed_1:=(p1.length:Int)) zm (m.rd0 0 rfl jy) h)) ?_);rintro r177 _;refine stw (je [I 0,I 0,I 0,I 0] zdH ?_);intro b178;refine stw (zU (cs':=[I r177.xFrom,I r177.xTo,I r177.xPort,I r177.xProto]) 0 VT ?_);refine y1 ?_;refine zT (σ:=Bool) (fun t242=>JJ [(5,pp b73),(6,pp b75),(7,I r83),(8,I r85),(9,I r86),(14,pp b178),(15,.bool t242)] [zb b178 [I r177.xFrom,I r177.xTo,I r177.xPort,I r177.xProto] 34,zb b75 [.slice a80 l81 q82,.bool r70.xAccept] 25,zb b73 [.slice a77 l78 q79,.bool r67.xAccept] 25,jR (zQ xt) (.slice a77 l78 q79) r67.xChains,jR (zQ xt) (.slice a80 l81 q82) r70.xChains,zl w0 F]) ?_ ?_
     ·intro k243;refine zp ?_;refine zk st (v:=(.agg #[.slice a77 l78 q79,.bool r67.xAccept])) 5 yv ?_;refine zk st (v:=(.agg #[I r177.xFrom,I r177.xTo,I r177.xPort,I r177.xProto])) 0 VT ?_;refine stw (zi Tryz.call19 (by intro w m h;exact rf0 (Vt (s_0:=r67) (p_1:=r177) zm (m.rd0 6 rfl xu) (m.q 8 hgl0) h)) ?_);rintro r180 _;refine jp st ?_;refine mv ?_;refine jO (dj:=75) rfl ?_ ?_
      ·refine zk (zH rfl rfl) (v:=(.agg #[.slice a80 l81 q82,.bool r70.xAccept])) 4 yv ?_;refine zk (zH rfl rfl) (v:=(.agg #[I r177.xFrom,I r177.xTo,I r177.xPort,I r177.xProto])) 0 VT ?_;refine Yq rfl rfl (zi Tryz.call19 (by intro w m h;exact rf0 (Vt (s_0:=r70) (p_1:=r177) zm (m.rd0 7 rfl xu) (m.q 8 hgl0) h)) ?_);rintro r181 _;refine zG st ?_;refine ma ?_;refine zu ?_;exact lj [0,4,5,6,7,8]
      ·refine ss ?_;refine ss ?_;refine ss ?_;refine zI st ?_;refine ma ?_;refine zu ?_;exact lj [0,4,5,6,7,8]
     ·rintro t242;refine nxj ?_;refine zT (σ:=Bool) (fun t306=>JJ [(7,I r83),(8,I r85),(9,I r86),(15,.bool t242),(16,.bool t306)] [zl w0 F]) ?_ ?_
      ·intro k307;refine zp ?_;refine zk st (v:=(.agg #[.slice a77 l78 q79,.bool r67.xAccept])) 2 yv ?_;refine zk st (v:=(.agg #[I r177.xFrom,I r177.xTo,I r177.xPort,I r177.xProto])) 0 VT ?_;refine stw (zi Tryz.call19 (by intro w m h;exact rf0 (Vt (s_0:=r67) (p_1:=r177) zm (m.rd0 3 rfl xu) (m.q 5 hgl0) h)) ?_);rintro r244 _;refine mv ?_;refine jO (dj:=83) rfl ?_ ?_
       ·refine zk (zH rfl rfl) (v:=(.agg #[.slice a80 l81 q82,.bool r70.xAccept])) 1 yv ?_;refine zk (zH rfl rfl) (v:=(.agg #[I r177.xFrom,I r177.xTo,I r177.xPort,I r177.xProto])) 0 VT ?_;refine Yq rfl rfl (zi Tryz.call19 (by intro w m h;exact rf0 (Vt (s_0:=r70) (p_1:=r177) zm (m.rd0 4 rfl xu) (m.q 5 hgl0) h)) ?_);rintro r245 _;refine jp (zH rfl rfl) ?_;refine zG st ?_;refine ma ?_;refine zu ?_;exact lj [5]
       ·refine ss ?_;refine ss ?_;refine ss ?_;refine ss ?_;refine zI st ?_;refine ma ?_;refine zu ?_;exact lj [5]
      ·rintro t306;refine nxj ?_;refine zT (σ:=Bool) (fun t372=>JJ [(4,.bool t372)] [zl w0 F]) ?_ ?_
       ·intro k373;refine zp ?_;refine mv ?_;refine stw (jX (enc:=xz) (cells:=[I 0,I 2,I 1,I 3]) ([0,2,1,3]) ju (bqi rfl) yF XD ?_);intro v308;refine mv ?_;refine zn2 st rfl rfl rfl ?_;refine zF st 0 zg yF ?_;intro e310 h311;refine jG st (enc:=xz) (u:=(I e310)) 0 zg ju h311 ty3 ?_;refine jB st xS ?_;refine mv ?_;refine jO (dj:=96) rfl ?_ ?_
        ·refine zr (zH rfl rfl) ?_;refine jB (zH rfl rfl) xS ?_;refine zr (zH rfl rfl) ?_;refine jO (dj:=99) rfl ?_ ?_
         ·refine ss ?_;refine ss ?_;refine zG (zH rfl rfl) ?_;refine zG st ?_;refine mv ?_;refine zr (zH rfl rfl) ?_;refine jp (zH rfl rfl) ?_;refine zr (zH rfl rfl) ?_;refine jO (dj:=107) rfl ?_ ?_
          ·refine ss ?_;refine ss ?_;refine zG (zH rfl rfl) ?_;refine zG st ?_;refine mv ?_;refine zr (zH rfl rfl) ?_;refine jp (zH rfl rfl) ?_;refine zr (zH rfl rfl) ?_;refine jO (dj:=115) rfl ?_ ?_
           ·refine ss ?_;refine ss ?_;refine zG (zH rfl rfl) ?_;refine zr (zH rfl rfl) ?_;refine ss ?_;refine ss ?_;refine zG (zH rfl rfl) ?_;refine zG st ?_;refine ma ?_;refine zu ?_;exact lj [1]
           ·refine zr (zH rfl rfl) ?_;refine jB (zH rfl rfl) xS ?_;refine zI (zH rfl rfl) ?_;refine zr (zH rfl rfl) ?_;refine jO (dj:=119) rfl ?_ ?_
            ·refine ss ?_;refine ss ?_;refine zG (zH rfl rfl) ?_;refine zG st ?_;refine ma ?_;refine zu ?_;exact lj [1]
            ·refine zr (zH rfl rfl) ?_;refine jB (zH rfl rfl) xS ?_;refine zI (zH rfl rfl) ?_;refine zG st ?_;refine ma ?_;refine zu ?_;exact lj [1]
          ·refine zr (zH rfl rfl) ?_;refine Uq (zH rfl rfl) ?_;refine zI (zH rfl rfl) ?_;refine zG st ?_;refine mv ?_;refine jO (dj:=112) rfl ?_ ?_
           ·refine zr (zH rfl rfl) ?_;refine jp (zH rfl rfl) ?_;refine zr (zH rfl rfl) ?_;refine jO (dj:=115) rfl ?_ ?_
            ·refine ss ?_;refine ss ?_;refine zG (zH rfl rfl) ?_;refine zr (zH rfl rfl) ?_;refine ss ?_;refine ss ?_;refine zG (zH rfl rfl) ?_;refine zG st ?_;refine ma ?_;refine zu ?_;exact lj [1]
            ·refine zr (zH rfl rfl) ?_;refine jB (zH rfl rfl) xS ?_;refine zI (zH rfl rfl) ?_;refine zr (zH rfl rfl) ?_;refine jO (dj:=119) rfl ?_ ?_
             ·refine ss ?_;refine ss ?_;refine zG (zH rfl rfl) ?_;refine zG st ?_;refine ma ?_;refine zu ?_;exact lj [1]
             ·refine zr (zH rfl rfl) ?_;refine jB (zH rfl rfl) xS ?_;refine zI (zH rfl rfl) ?_;refine zG st ?_;refine ma ?_;refine zu ?_;exact lj [1]
           ·refine ss ?_;refine ss ?_;refine ss ?_;refine ss ?_;refine ss ?_;refine ss ?_;refine ss ?_;refine ss ?_;refine ss ?_;refine ss ?_;refine zI st ?_;refine ma ?_;refine zu ?_;exact lj [1]
         ·refine zr (zH rfl rfl) ?_;refine jB (zH rfl rfl) xS ?_;refine zI (zH rfl rfl) ?_;refine zG st ?_;refine mv ?_;refine jO (dj:=104) rfl ?_ ?_
          ·refine zr (zH rfl rfl) ?_;refine jp (zH rfl rfl) ?_;refine zr (zH rfl rfl) ?_;refine jO (dj:=107) rfl ?_ ?_
           ·refine ss ?_;refine ss ?_;refine zG (zH rfl rfl) ?_;refine zG st ?_;refine mv ?_;refine zr (zH rfl rfl) ?_;refine jp (zH rfl rfl) ?_;refine zr (zH rfl rfl) ?_;refine jO (dj:=115) rfl ?_ ?_
            ·refine ss ?_;refine ss ?_;refine zG (zH rfl rfl) ?_;refine zr (zH rfl rfl) ?_;refine ss ?_;refine ss ?_;refine zG (zH rfl rfl) ?_;refine zG st ?_;refine ma ?_;refine zu ?_;exact lj [1]
            ·refine zr (zH rfl rfl) ?_;refine jB (zH rfl rfl) xS ?_;refine zI (zH rfl rfl) ?_;refine zr (zH rfl rfl) ?_;refine jO (dj:=119) rfl ?_ ?_
             ·refine ss ?_;refine ss ?_;refine zG (zH rfl rfl) ?_;refine zG st ?_;refine ma ?_;refine zu ?_;exact lj [1]
             ·refine zr (zH rfl rfl) ?_;refine jB (zH rfl rfl) xS ?_;refine zI (zH rfl rfl) ?_;refine zG st ?_;refine ma ?_;refine zu ?_;exact lj [1]
           ·refine zr (zH rfl rfl) ?_;refine Uq (zH rfl rfl) ?_;refine zI (zH rfl rfl) ?_;refine zG st ?_;refine mv ?_;refine jO (dj:=112) rfl ?_ ?_
            ·refine zr (zH rfl rfl) ?_;refine jp (zH rfl rfl) ?_;refine zr (zH rfl rfl) ?_;refine jO (dj:=115) rfl ?_ ?_
             ·refine ss ?_;refine ss ?_;refine zG (zH rfl rfl) ?_;refine zr (zH rfl rfl) ?_;refine ss ?_;refine ss ?_;refine zG (zH rfl rfl) ?_;refine zG st ?_;refine ma ?_;refine zu ?_;exact lj [1]
             ·refine zr (zH rfl rfl) ?_;refine jB (zH rfl rfl) xS ?_;refine zI (zH rfl rfl) ?_;refine zr (zH rfl rfl) ?_;refine jO (dj:=119) rfl ?_ ?_
              ·refine ss ?_;refine ss ?_;refine zG (zH rfl rfl) ?_;refine zG st ?_;refine ma ?_;refine zu ?_;exact lj [1]
              ·refine zr (zH rfl rfl) ?_;refine jB (zH rfl rfl) xS ?_;refine zI (zH rfl rfl) ?_;refine zG st ?_;refine ma ?_;refine zu ?_;exact lj [1]
            ·refine ss ?_;refine ss ?_;refine ss ?_;refine ss ?_;refine ss ?_;refine ss ?_;refine ss ?_;refine ss ?_;refine ss ?_;refine ss ?_;refine zI st ?_;refine ma ?_;refine zu ?_;exact lj [1]
          ·refine ss ?_;refine ss ?_;refine ss ?_;refine ss ?_;refine ss ?_;refine ss ?_;refine zI st ?_;refine mv ?_;refine ss ?_;refine ss ?_;refine ss ?_;refine ss ?_;refine ss ?_;refine ss ?_;refine ss ?_;refine ss ?_;refine ss ?_;refine ss ?_;refine zI st ?_;refine ma ?_;refine zu ?_;exact lj [1]
        ·refine ss ?_;refine ss ?_;refine ss ?_;refine ss ?_;refine ss ?_;refine ss ?_;refine zI st ?_;refine mv ?_;refine ss ?_;refine ss ?_;refine ss ?_;refine ss ?_;refine ss ?_;refine ss ?_;refine zI st ?_;refine mv ?_;refine ss ?_;refine ss ?_;refine ss ?_;refine ss ?_;refine ss ?_;refine ss ?_;refine ss ?_;refine ss ?_;refine ss ?_;refine ss ?_;refine zI st ?_;refine ma ?_;refine zu ?_;exact lj [1]
       ·rintro t372;refine nxj ?_;refine uv ?_;exact lu Tryz.results3
end
section
open Go Go.Proofs
theorem zb7 {b:List UInt8} {p0 n:Int} (hb:b.length≤2000) (hp0:0≤p0) (hp1:p0≤100000) (hn:n≤4294967296) {κ:zN×Int→Prop} (h:∀ s p',0≤p'→p'≤p0+50000→s.xChains.length≤3→(∀ c,c∈s.xChains→Dc c)→κ (s,p')):X5 b p0 n κ:=by
 have rd:∀ p',0≤p'→p'≤600000→RdP b p':=fun p' a c=>⟨hb,by omega,by omega⟩
 unfold X5
 refine uO (rd p0 (by omega) (by omega)) (fun v0 a0 c0=>uO (rd _ (by omega) (by omega)) (fun v a c=>zy (by omega) (by omega) ?_))
 refine yi (fun s=>0≤s.2.2∧s.2.2≤1+v∧0≤s.1∧s.1≤p0+2+5000 * s.2.2∧(s.2.1.length:Int)=s.2.2∧∀ c,c∈s.2.1→Dc c∧c.length≤9) (fun s=>(1+v - s.2.2).toNat) ?_ ⟨by simp,by simp only;omega,by simp only;omega,by simp only;omega,rfl,by simp⟩
 rintro ⟨q,xs,k⟩ next ⟨k0,k1,q0,q1,hx,hdc9⟩ hnx
 simp only at k0 k1 q0 q1 hx hdc9
 have hdc:∀ c,c∈xs→Dc c:=fun c hc=>(hdc9 c hc).1
 unfold jnW
 refine zo (fun hc=>?_) (fun hc=>?_)
 ·simp at hc
  have hw:w64 (k+1)=k+1:=zd1 (by omega) (by omega)
  rw [hw]
  refine zeC hb (by omega) (by omega) (by omega) (by omega) (by omega) (by omega) (by omega) (fun ch p' g1 g2 hd hl=>jk (by simp;omega) (zy (by omega) (by omega) (hnx _ ⟨by simp only;omega,by simp only;omega,by simp only;omega,by simp only;omega,by simp;omega,fun x hx'=>?_⟩ (by simp only;omega))))
  simp only [List.mem_append,List.mem_singleton] at hx'
  rcases hx' with hx' | rfl
  ·exact hdc9 x hx'
  ·exact ⟨hd,hl⟩
 ·simp at hc
  have hk:k=1+v:=by omega
  have hl0:0<xs.length:=by omega
  have hd0:Dc xs[0]:=hdc _ (List.getElem_mem hl0)
  have fin:∀ (p':Int) (ys:List (List zD)),0≤p'→p'≤p0+50000→ys.length≤3→(∀ c,c∈ys→Dc c)→κ ((zN.mk ys (decide (v0=0))),p'):=fun p' ys e0 e1 g1 g2=>h _ _ e0 e1 g1 g2
  have hx3:xs.length≤3:=by omega
  refine zf9 (rd _ (by omega) (by omega)) hn (fun o p1 f1 f2=>zo (fun _=>?_) (fun _=>fin _ _ (by omega) (by omega) hx3 hdc))
  refine uO (rd _ (by omega) (by omega)) (fun v2 a2 c2=>zo (fun _=>fin _ _ (by omega) (by omega) (by simp) (by simp)) (fun _=>zo (fun _=>?_) (fun _=>zo (fun _=>?_) (fun _=>?_))))
  ·have ap:∀ (e p':Int),0≤p'→p'≤p0+50000→jU xs[0] ([(zD.mk ([]) 3 e)]) (fun _=>zJ xs 0 (fun e155=>κ ((zN.mk (xs.set (0:Int).toNat (xs[0]++([(zD.mk ([]) 3 e)]))) (decide (v0=0))),p'))):=by
    intro e p' e0 e1
    have h9:=(hdc9 _ (List.getElem_mem hl0)).2
    exact jk (by simp;omega) (zq 0 rfl hl0 (fin _ _ e0 e1 (by rw [List.length_set];exact hx3) (zgy hdc ⟨by simp;omega,fun r hr=>by
     rcases List.mem_append.1 hr with hr | hr
     ·exact hd0.2 r hr
     ·rw [List.mem_singleton] at hr;subst hr;simp⟩)))
   have pk:∀ (v3 p':Int),0≤p'→p'≤p0+50000→0≤v3→(v3=0∨v3<2)→zJ ([0,1+v]) v3 (fun e148=>jU xs[0] ([(zD.mk ([]) 3 e148)]) (fun _=>zJ xs 0 (fun e155=>κ ((zN.mk (xs.set (0:Int).toNat (xs[0]++([(zD.mk ([]) 3 e148)]))) (decide (v0=0))),p')))):=fun v3 p' e0 e1 g0 g1=>Zq g0 (by simp;omega) (fun e _=>ap e p' e0 e1)
   have ix:∀ (K:List zD→Prop),K xs[0]→zJ xs 0 K:=fun K hK=>zq 0 rfl hl0 hK
   refine ⟨ix _ (uO (rd _ (by omega) (by omega)) (fun v3 a3 c3=>pk _ _ (by omega) (by omega) a3 c3)),⟨ix _ (uO (rd _ (by omega) (by omega)) (fun v3 a3 c3=>pk _ _ (by omega) (by omega) a3 c3)),uO (rd _ (by omega) (by omega)) (fun v3 a3 c3=>⟨ix _ (pk _ _ (by omega) (by omega) a3 c3),Zq a3 (by simp;omega) (fun e _=>ix _ (ap e _ (by omega) (by omega)))⟩)⟩,uO (rd _ (by omega) (by omega)) (fun v3 a3 c3=>⟨ix _ (pk _ _ (by omega) (by omega) a3 c3),ix _ (pk _ _ (by omega) (by omega) a3 c3),Zq a3 (by simp;omega) (fun e _=>ix _ (ap e _ (by omega) (by omega)))⟩)⟩
  ·have hvn:v.toNat<xs.length:=by omega
   refine yU (by omega) (by omega) (zq v.toNat (by omega) hvn (yU (by omega) (by omega) (zq 0 rfl (by rw [List.length_set];exact hl0) ?_)))
   exact fin _ _ (by omega) (by omega) (by rw [List.length_set,List.length_set];exact hx3) (zgy (zgy hdc (zko (by simp))) (zko (by simp)))
  ·refine zeC hb (by omega) (by omega) (by omega) (by omega) (by omega) (by omega) (by omega) (fun ch p' g1 g2 hd hl=>zq 0 rfl hl0 (fin _ _ (by omega) (by omega) (by rw [List.length_set];exact hx3) (zgy hdc hd)))
def Rk (xs:List (List RR)):Prop:=xs.length≤3∧∀ y,y∈xs→y.length≤200∧∀ r,r∈y→r.xTests.t.length≤8
theorem zmB {xs:List (List RR)} (h:Rk xs) (t:Bool):Bd (erS ⟨xs,t⟩):=by
 refine ⟨by simp [erS];have:=h.1;omega,fun c hc=>?_⟩
 obtain ⟨y,hy,rfl⟩:=List.mem_map.1 hc
 obtain ⟨h1,h2⟩:=h.2 y hy
 refine ⟨by simp;omega,fun r hr=>?_⟩
 obtain ⟨q,hq,rfl⟩:=List.mem_map.1 hr
 have:=h2 q hq
 simp only [er];omega
theorem zmD {s:zN} {S:RS} (e:erS S=s) (hl:s.xChains.length≤3) (hd:∀ c,c∈s.xChains→Dc c):Rk S.xChains∧∀ y,y∈S.xChains→y.length≤100:=by
 subst e
 have key:∀ y,y∈S.xChains→y.length≤100∧∀ r,r∈y→r.xTests.t.length≤8:=fun y hy=>by
  have:=hd (y.map er) (List.mem_map.2 ⟨y,hy,rfl⟩)
  exact ⟨by simpa using this.1,fun r hr=>this.2 (er r) (List.mem_map.2 ⟨r,hr,rfl⟩)⟩
 exact ⟨⟨by simpa [erS] using hl,fun y hy=>⟨by have:=(key y hy).1;omega,(key y hy).2⟩⟩,fun y hy=>(key y hy).1⟩
theorem zkp {xs:List (List RR)} (h:Rk xs) {y:List RR} (h1:y.length≤200) (h2:∀ r,r∈y→r.xTests.t.length≤8) (i:Nat):Rk (xs.set i y):=⟨by rw [List.length_set];exact h.1,fun z hz=>by
 rcases List.mem_or_eq_of_mem_set hz with hz | rfl
 ·exact h.2 z hz
 ·exact ⟨h1,h2⟩⟩
theorem ziQ {xs:List (List RR)} {y:List RR} {i:Nat} {A:RR→Prop} (h1:∀ r,r∈xs.flatten→A r) (h2:∀ r,r∈y→A r):∀ r,r∈(xs.set i y).flatten→A r:=fun r hr=>by
 obtain ⟨z,hz,hrz⟩:=List.mem_flatten.1 hr
 rcases List.mem_or_eq_of_mem_set hz with hz | rfl
 ·exact h1 r (List.mem_flatten.2 ⟨z,hz,hrz⟩)
 ·exact h2 r hrz
theorem zaP {code:List UInt8} {κ:zN×zN→Prop} (h:∀ a b,Bd a→Bd b→κ (a,b)):yX code κ:=by
 unfold yX Z9 Ub XI
 refine zjH (fun b hb=>zb7 hb (by omega) (by omega) (by omega) (fun s p' e0 e1 hl hd S hS=>?_))
 obtain ⟨hk,hk100⟩:=zmD hS hl hd
 have hl3:=hk.1
 have fin:∀ (xs:List (List RR)) (t:Bool) (zs:List RR),Rk xs→(∀ r,r∈xs.flatten→r∈S.xChains.flatten∨r∈zs)→Pok (S,RS.mk xs t,zs)∧κ (erS S,erS (RS.mk xs t)):=fun xs t zs h1 h2=>⟨h2,h _ _ (zmB hk S.xAccept) (zmB h1 t)⟩
 refine zX S.xChains.length (fun s=>s.2) (fun k s=>s.2=(k:Int)∧k≤S.xChains.length∧s.1=S.xChains.take k) (fun k s h=>h.1) (fun k s h=>h.2.1) ?_ ⟨rfl,by omega,by simp⟩
 rintro k ⟨xs,t⟩ next ⟨ht,hkl,hx⟩ hn
 simp only at ht hx
 subst ht hx
 refine zo (fun hc=>?_) (fun hc=>?_)
 ·have hlt:k<S.xChains.length:=by simpa using hc
  have h100:=hk100 _ (List.getElem_mem hlt)
  refine jQ (zq k rfl hlt (jk (by simp;omega) (jk (by simp;omega) (zy (by omega) (by omega) (hn hlt _ ⟨by simp,by omega,?_⟩)))))
  simp only [List.nil_append]
  exact (List.take_succ_eq_append_getElem hlt).symm
 ·have hke:k=S.xChains.length:=by simp at hc;omega
  have hxs:S.xChains.take k=S.xChains:=by rw [hke,List.take_length]
  rw [hxs]
  refine jQ (uO ⟨hb,e0,by omega⟩ (fun v a c=>?_))
  refine zo (fun _=>?_) (fun _=>zo (fun _=>?_) (fun _=>zo (fun _=>?_) (fun _=>?_)))
  ·exact zb7 hb (by omega) (by omega) (by omega) (fun s2 p2 _ _ hl2 hd2 S2 hS2=>fin S2.xChains S2.xAccept _ (zmD hS2 hl2 hd2).1 (fun r hr=>.inr hr))
  ·exact fin _ _ [] hk (fun r hr=>.inl hr)
  ·have base:=fin S.xChains S.xAccept [] hk (fun r hr=>.inl hr)
   refine jQ (zo (fun hc=>?_) (fun _=>jK base))
   have h0:0<S.xChains.length:=by simpa using hc
   refine zq 0 rfl h0 (zo (fun hc=>?_) (fun _=>base))
   have h1:0<S.xChains[0].length:=by simpa using hc
   have h8:=hk.2 _ (List.getElem_mem h0)
   refine zq 0 rfl h0 ⟨by omega,by omega,by omega,zq 0 rfl h0 (fin _ _ [] (zkp hk ?_ ?_ _) ?_)⟩
   ·simp;omega
   ·exact fun r hr=>h8.2 r (List.mem_of_mem_take (List.mem_of_mem_drop hr))
   ·exact ziQ (fun r hr=>.inl hr) (fun r hr=>.inl (List.mem_flatten.2 ⟨_,List.getElem_mem h0,List.mem_of_mem_take (List.mem_of_mem_drop hr)⟩))
  ·have base:=fin S.xChains S.xAccept [] hk (fun r hr=>.inl hr)
   refine jQ (zo (fun hc=>?_) (fun _=>jK base))
   have h0:0<S.xChains.length:=by simpa using hc
   have hset:S.xChains.set (0:Int).toNat S.xChains[0]=S.xChains:=by simp
   refine zq 0 rfl h0 ?_
   rw [hset]
   refine zo (fun hc=>?_) (fun _=>base)
   have h1:S.xChains[0].length<8:=by have:=of_decide_eq_true hc;omega
   have h8:=hk.2 _ (List.getElem_mem h0)
   have one:∀ R:RR,R.xTests.t.length≤8→Pok (S,RS.mk (S.xChains.set (0:Int).toNat (S.xChains[0]++[R])) S.xAccept,[R])∧κ (erS S,erS (RS.mk (S.xChains.set (0:Int).toNat (S.xChains[0]++[R])) S.xAccept)):=fun R hR=>by
    refine fin _ _ _ (zkp hk (by simp;omega) (fun r hr=>?_) _) (ziQ (fun r hr=>.inl hr) (fun r hr=>?_))
    ·rcases List.mem_append.1 hr with hr | hr
     ·exact h8.2 r hr
     ·rw [List.mem_singleton] at hr;subst hr;exact hR
    ·rcases List.mem_append.1 hr with hr | hr
     ·exact .inl (List.mem_flatten.2 ⟨_,List.getElem_mem h0,hr⟩)
     ·exact .inr hr
   have rl:∀ (K:zD×Int→Prop),(∀ r q,r.xTests.length≤8→K (r,q))→Zj b (p'+1) 9 9 0 K:=fun K hK=>zdR hb (by omega) (by omega) (by omega) (by omega) (by omega) (by omega) (by omega) (fun r q _ _ hr=>hK r q hr)
   refine jQ ⟨zq 0 rfl h0 (rl _ (fun r q hr R hR=>jk (by simp;omega) (zq 0 rfl h0 (one R (by subst hR;exact hr))))),rl _ (fun r q hr R hR=>zq 0 rfl h0 (jk (by simp;omega) (zq 0 rfl h0 (one R (by subst hR;exact hr)))))⟩
theorem zkA {a b:zN} (ha:Bd a) (hb:Bd b) (h4:ck a b≠4) (sa:SV a) (sb:SV b) (p:zW):∃ ja jb:Bool,(∀ K:Bool→Prop,K ja→yV a p K)∧(∀ K:Bool→Prop,K jb→yV b p K)∧(ja=false→jb=true→ck a b=2∨ck a b=3)∧(ja=true→jb=false→ck a b=1∨ck a b=3):=by
 by_cases hp:pv p
 ·exact ⟨jdg a p,jdg b p,fun K hK=>Vw ha (fun _ _=>hK) (fun q=>absurd ⟨sa,hp⟩ q),fun K hK=>Vw hb (fun _ _=>hK) (fun q=>absurd ⟨sb,hp⟩ q),fun h1 h2=>zli h4 hp h1 h2,fun h1 h2=>zj1 h4 hp h1 h2⟩
 ·exact ⟨false,false,fun K hK=>Vw ha (fun _ q=>absurd q hp) (fun _=>hK),fun K hK=>Vw hb (fun _ q=>absurd q hp) (fun _=>hK),fun _ h=>(by simp at h),fun h=>(by simp at h)⟩
theorem zh4 {n:Int} {t1 t2:Bool} (h1:t1=true→2≤n) (h2:t2=true→n=1∨n=3) {k:Bool→Prop} (hk:k true):(ifW (!t1) (ifW (!t2) (k true) (ifW (decide (n=1)) (k true) (k (decide (n=3))))) (ifW (decide (2≤n)) (ifW (!t2) (k true) (ifW (decide (n=1)) (k true) (k (decide (n=3))))) (k false))):=by
 have tl:ifW (!t2) (k true) (ifW (decide (n=1)) (k true) (k (decide (n=3)))):=by
  cases t2 with
  | false=>exact jo hk
  | true =>
   refine jK (zo (fun _=>hk) (fun e=>?_))
   have e1:=of_decide_eq_false e
   have e3:n=3:=(h2 rfl).resolve_left e1
   rw [decide_eq_true e3];exact hk
 cases t1 with
 | false=>exact jo tl
 | true=>exact jK (zo (fun _=>tl) (fun e=>absurd (h1 rfl) (of_decide_eq_false e)))
theorem zi7 {n m u:Int} {t1 t2:Bool} (hb:(n=0∧m=0)∨(n=1∧m=2)∨(n=2∧m=1)∨(n=3∧m=3)) (hs:u=0∨u=4) (h1:t1=true→2≤n) (h2:t2=true→n=1∨n=3):jnW (fun (t:Bool)=>t=true) (fun k=>zJ ([0,2,1,3]) (bits .and .i64 n 3) (fun e=>ifW (decide (m=e)) (ifW (decide (u=0)) (ifW (!t1) (ifW (!t2) (k true) (ifW (decide (n=1)) (k true) (k (decide (n=3))))) (ifW (decide (2≤n)) (ifW (!t2) (k true) (ifW (decide (n=1)) (k true) (k (decide (n=3))))) (k false))) (ifW (decide (u=4)) (ifW (!t1) (ifW (!t2) (k true) (ifW (decide (n=1)) (k true) (k (decide (n=3))))) (ifW (decide (2≤n)) (ifW (!t2) (k true) (ifW (decide (n=1)) (k true) (k (decide (n=3))))) (k false))) (k false))) (k false))):=by
 have tl:∀ {k:Bool→Prop},k true→ifW (decide (u=0)) (ifW (!t1) (ifW (!t2) (k true) (ifW (decide (n=1)) (k true) (k (decide (n=3))))) (ifW (decide (2≤n)) (ifW (!t2) (k true) (ifW (decide (n=1)) (k true) (k (decide (n=3))))) (k false))) (ifW (decide (u=4)) (ifW (!t1) (ifW (!t2) (k true) (ifW (decide (n=1)) (k true) (k (decide (n=3))))) (ifW (decide (2≤n)) (ifW (!t2) (k true) (ifW (decide (n=1)) (k true) (k (decide (n=3))))) (k false))) (k false)):=fun {k} hk=>zo (fun _=>zh4 h1 h2 hk) (fun e=>zo (fun _=>zh4 h1 h2 hk) (fun e2=>absurd hs (fun q=>q.elim (of_decide_eq_false e) (of_decide_eq_false e2))))
 rcases hb with ⟨rfl,rfl⟩ | ⟨rfl,rfl⟩ | ⟨rfl,rfl⟩ | ⟨rfl,rfl⟩
 ·exact jQ (zq 0 (by decide) (by decide) (zo (fun _=>tl (k:=fun t=>t=true) rfl) (fun e=>absurd rfl (of_decide_eq_false e))))
 ·exact jQ (zq 1 (by decide) (by decide) (zo (fun _=>tl (k:=fun t=>t=true) rfl) (fun e=>absurd rfl (of_decide_eq_false e))))
 ·exact jQ (zq 2 (by decide) (by decide) (zo (fun _=>tl (k:=fun t=>t=true) rfl) (fun e=>absurd rfl (of_decide_eq_false e))))
 ·exact jQ (zq 3 (by decide) (by decide) (zo (fun _=>tl (k:=fun t=>t=true) rfl) (fun e=>absurd rfl (of_decide_eq_false e))))
theorem zcy (code more:List UInt8):Yn code more (fun r=>r=true):=by
 unfold Yn
 refine jQ (zo (fun _=>jo rfl) (fun _=>zo (fun _=>rfl) (fun hm=>?_)))
 have hml:more.length≤1048576:=by simp at hm;omega
 refine zaP (fun a b ha hb=>Y4 ha hb (zcb ha hb (zo (fun e=>by simp at e) (fun _=>Y4 hb ha (Y4 ha ha ?_)))))
 have hbk:=zlX a b
 have hself:ck a a=0∨ck a a=4:=zlp (fun _ _ _ _=>rfl)
 refine zo (fun e=>?_) (fun e=>?_)
 ·have h4:ck a b=4:=of_decide_eq_true e
  have h5:ck b a=4:=by omega
  refine jQ (zo (fun _=>zlx rfl) (fun e2=>?_))
  rw [h5] at e2
  simp at e2
 ·have h4:ck a b≠4:=of_decide_eq_false e
  rcases zev (s:=a) (t:=b) with q | ⟨x,y,o,c,hx,hy,ho,hc,q⟩
  ·exact absurd q h4
  obtain ⟨sa,ca⟩:=V8 hx
  obtain ⟨sb,cb⟩:=V8 hy
  refine ziM ha (fun l hl=>ziM hb (fun l2 hl2=>?_) (fun q=>by rw [hy] at q;cases q)) (fun q=>by rw [hx] at q;cases q)
  obtain ⟨i1,i2⟩:=zd7 hl
  obtain ⟨j1,j2⟩:=zd7 hl2
  have hF:=zb6 i1 i2
  have hG:=zb6 j1 j2
  have l1:=hF.1
  have l2':=hG.1
  simp only [List.length_map] at l1 l2'
  refine zaG hF.fb (fun _=>jk (by simp;omega) (zaG hG.fb (fun _=>jk (by simp;omega) ?_) (fun q=>absurd hG q))) (fun q=>absurd hF q)
  refine zlF (by omega) (by omega) (by simp;omega) (fun z hz=>?_) (fun p=>?_)
  ·simp only [List.nil_append] at hz
   rcases List.mem_append.1 hz with hz | hz
   ·obtain ⟨f,hf,rfl⟩:=List.mem_map.1 hz;exact hF.2 f hf
   ·obtain ⟨f,hf,rfl⟩:=List.mem_map.1 hz;exact hG.2 f hf
  obtain ⟨ja,jb,JA,JB,k1,k2⟩:=zkA ha hb h4 sa sb p
  refine jQ (JA _ ?_)
  have hbk':(ck a b=0∧ck b a=0)∨(ck a b=1∧ck b a=2)∨(ck a b=2∧ck b a=1)∨(ck a b=3∧ck b a=3):=by omega
  cases ja with
  | false=>exact jo (JB _ (jQ (JA _ (jK (zi7 hbk' hself (fun h=>by have:=k1 rfl h;omega) (fun h=>by cases h))))))
  | true=>exact jK (jQ (JA _ (jo (JB _ (zi7 hbk' hself (fun h=>by cases h) (fun h=>k2 rfl (by simpa using h)))))))
end
end Go.Proofs.YtgpdnnhmndlljaaGreatDoor
