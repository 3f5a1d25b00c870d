/- The law FnExactCheckChange holds for every input. -/
import Derived.Test.YtgpdnnhmndlljaaGreatDoorMP12
import Derived.Test.YtgpdnnhmndlljaaGreatDoorMP24
import Derived.Test.YtgpdnnhmndlljaaGreatDoorShapes
import Derived.Test.YtgpdnnhmndlljaaGreatDoorMP3
namespace Go.Proofs.YtgpdnnhmndlljaaGreatDoor.exactCheckChange
open Go.ChangeShapes Go.WideShapes Go.ChangeAt Go.RowKit Go.Joins
set_option linter.unusedVariables false
set_option linter.unusedSimpArgs false
theorem own:ownKnob Tryz.prog.godebug=none:=by kernel_rfl
theorem laidOut:laidOutB Tryz.prog=true:=by kernel_rfl
set_option maxRecDepth 100000 in
theorem lifted (os:Os) (started:os.Started) (H:Type) (enc:TypeId×Value→H) :
  ReturnsInHanded {} Tryz.checked os 6 .any (fun w args=>(Rows.fnExactCheckChangeSpec.pre enc Tryz.prog Tryz.f6 [] false w args∧laidMetH Tryz.prog ze3 w)∧sizedMet enc Tryz.prog Tryz.f6 (OpenSpec.ofChange Rows.fnExactCheckChangeSpec) false w args)
   (Rows.fnExactCheckChangeSpec.post enc Tryz.prog Tryz.f6 false true false false):=by
 refine returnsInHanded_of_change_and (C:=Tryz.checked) (X:=fun w _=>laidMetH Tryz.prog ze3 w) (fun _ _ _ hh h=>h.of_heap hh) own started (by kernel_rfl) Tryz.func6
  (ChangeSpec.witness_shaped (enc:=enc) (C:=Tryz.checked) (os:=os) (X:=fun w _=>laidMetH Tryz.prog ze3 w) false (World.doorLaid Tryz.prog 400 os) #[.agg #[.slice none 0 0,.bool false],.agg #[.slice none 0 0,.bool false]] 8 rfl (World.shaped_of_RefB (by kernel_rfl) (by kernel_rfl)) (by kernel_rfl) (by kernel_rfl) (by kernel_rfl) (zhL os _)) ?_
 intro W base args ds gs before hval0 hW _ _ hL _
 have hval:∀ (j:Nat) t v,Tryz.f6.params[j]?=some t→args[j]?=some v→Value.okWide Tryz.prog W .any base t v:=hval0
 have hW':=hW
 obtain ⟨p,q,hA0,hV0,rfl,hfz,hnd⟩:=hW
 have hA:DataW.TrodAll enc Tryz.prog W 0 (fun _=>true) true Tryz.f6.params.toList args.toList ds p:=hA0
 have hV:DataW.TrodVars enc Tryz.prog W (fun _=>true) ["loop.example/packetfilter/impl.fieldShapes"] gs q:=hV0
 rw [Tryz.params6] at hA hval
 obtain ⟨v0,vs0,d0,ds0,p0,q0,hargs,rfl,rfl,h0,r0⟩:=trodAll_cons hA
 obtain ⟨v1,vs1,d1,ds1,p1,q1,rfl,rfl,rfl,h1,r1⟩:=trodAll_cons r0
 obtain ⟨rfl,rfl,rfl⟩:=trodAll_nil r1
 obtain rfl:args=#[v0,v1]:=by cases args;simp_all
 have hV':=hV
 obtain ⟨_,_,_,_,g1,_,rfl,_,_,_,_,_⟩:=trodVars_one hV
 have SG:=zgR hL
 have k0:=h0
 have lt0:∀ x∈p0,x.block<W.heap.size:=by obtain ⟨m,hm⟩:=k0;exact DataW.trod_lt m _ _ _ hm
 have hv0:=hval 0 52 v0 rfl rfl
 have k1:=h1
 have lt1:∀ x∈p1,x.block<W.heap.size:=by obtain ⟨m,hm⟩:=k1;exact DataW.trod_lt m _ _ _ hm
 have hv1:=hval 1 52 v1 rfl rfl
 obtain ⟨cs0,rfl,_⟩:=okWide_struct Tryz.underlying52 hv0
 obtain ⟨fuel0,hf0⟩:=h0
 obtain ⟨x0,⟨u0,e0,S0⟩,hl0⟩:=zjm zdt hf0
 obtain ⟨cs0⟩:=cs0
 simp only [Value.cells] at e0
 subst e0
 obtain ⟨cs1,rfl,_⟩:=okWide_struct Tryz.underlying52 hv1
 obtain ⟨fuel1,hf1⟩:=h1
 obtain ⟨x1,⟨u1,e1,S1⟩,hl1⟩:=zjm zdt hf1
 obtain ⟨cs1⟩:=cs1
 simp only [Value.cells] at e1
 subst e1
 clear hA0 hval0 hV0
 refine ((Ut (F:=fun b=>b<W.heap.size∧¬ ue [] b) (fun _ h=>h) S0 S1 SG (Vn x0 x1 ⟨hl0.1,fun c hc=>⟨(hl0.2 c hc).1,fun r hr=>((hl0.2 c hc).2 r hr).1⟩⟩ ⟨hl1.1,fun c hc=>⟨(hl1.2 c hc).1,fun r hr=>((hl1.2 c hc).2 r hr).1⟩⟩)).mono fun en w' ⟨r,_,h1,h2,h3,_⟩=>(show en=Ending.returned (Value.bool true)∧Below W.heap.size W w' from ⟨by rw [h2,h1],h3.below⟩)).mono fun e W' ⟨he,bel⟩=>?_
 subst he
 exact ⟨_,rfl,_,_,_,[],_,_,hW',trodAll_mk1 (shut_bool Tryz.underlying4 _),(trodAll_cons_mk (Below.trod laidOut (by kernel_rfl) (of_decide_eq_true (by kernel_rfl)) k0 bel lt0) (trodAll_cons_mk (Below.trod laidOut (by kernel_rfl) (of_decide_eq_true (by kernel_rfl)) k1 bel lt1) trodAll_mk0)),Below.trodVars laidOut bel (by kernel_rfl) hV',bel.frame _,fun h=>by cases h⟩
theorem j0:Rows.fnExactCheckChangeRow.wf (OpenSpec.ofChange Rows.fnExactCheckChangeSpec)=true:=by kernel_rfl
theorem j1:laidOutB Tryz.prog=true:=by kernel_rfl
theorem j2:mapsRowed Tryz.prog=true:=by kernel_rfl
theorem j3:Tryz.f6.params.all (Tryz.prog.readableRec ·)=true:=by kernel_rfl
theorem j4:namedTie Tryz.prog Rows.fnExactCheckChangeRow.named Rows.fnExactCheckChangeSpec.vars=true:=by kernel_rfl
theorem j5:(Rows.fnExactCheckChangeRow.stops == [])=true:=by kernel_rfl
theorem j6:(Tryz.prog.stops == [])=true:=by kernel_rfl
theorem j7:(Rows.fnExactCheckChangeRow.knobs == [])=true:=by kernel_rfl
theorem j8:(Tryz.prog.stopKnobs == [])=true:=by kernel_rfl
theorem j9:(Rows.fnExactCheckChangeRow.inPlace == Tryz.prog.inPlace 6)=true:=by kernel_rfl
theorem j10:(Rows.fnExactCheckChangeRow.unfollowed == Tryz.prog.unfollowed 6)=true:=by kernel_rfl
theorem j11:(Rows.fnExactCheckChangeRow.recurses == Tryz.prog.recurses 6)=true:=by kernel_rfl
theorem j12:(Rows.fnExactCheckChangeRow.named == Tryz.prog.varsNamed 6)=true:=by kernel_rfl
theorem j13:(Rows.fnExactCheckChangeRow.maps == (Tryz.f6.params.toList++Rows.fnExactCheckChangeSpec.plain.varTypes Tryz.prog).any (Tryz.prog.mapsRec ·))=true:=by kernel_rfl
theorem j14:(Rows.fnExactCheckChangeRow.ifaces == (Tryz.f6.params.toList++Rows.fnExactCheckChangeSpec.plain.varTypes Tryz.prog).any (Tryz.prog.ifacesRec ·))=true:=by kernel_rfl
theorem j15:(Rows.fnExactCheckChangeRow.mapsOut == Tryz.prog.mapsAmong Tryz.f6.resultTypes.toList)=true:=by kernel_rfl
theorem j16:(Rows.fnExactCheckChangeRow.loops == (Tryz.f6.params.toList++Rows.fnExactCheckChangeSpec.plain.varTypes Tryz.prog).any (Tryz.prog.loopsFrom ·))=true:=by kernel_rfl
theorem j17:(Rows.fnExactCheckChangeRow.wideKeys == (Tryz.f6.params.toList++Rows.fnExactCheckChangeSpec.plain.varTypes Tryz.prog++Tryz.f6.resultTypes.toList).any (Tryz.prog.wideKeysFrom ·))=true:=by kernel_rfl
theorem j18:Rows.fnExactCheckChangeSpec.vars.all (Tryz.prog.varReadable ·)=true:=by kernel_rfl
theorem j19:Tryz.f6.resultTypes.all (fun t=>Tryz.prog.readableRec t && decide (t<Tryz.prog.types.size))=true:=by kernel_rfl
theorem j20:(Rows.fnExactCheckChangeRow.ifacesOut == Tryz.f6.resultTypes.toList.any (Tryz.prog.ifacesRec ·))=true:=by kernel_rfl
theorem j21:(Rows.fnExactCheckChangeRow.loopsOut == Tryz.f6.resultTypes.toList.any (Tryz.prog.loopsFrom ·))=true:=by kernel_rfl
theorem j22:(Rows.fnExactCheckChangeRow.plainKeys == Tryz.prog.plainKeys)=true:=by kernel_rfl
theorem j23:Rows.fnExactCheckChangeRow.shortTexts.isNone=true:=by kernel_rfl
theorem j24:Tryz.prog.stopsHeard=true:=by kernel_rfl
theorem j25:Tryz.prog.mayEnter=true:=by kernel_rfl
theorem j26:(Rows.fnExactCheckChangeRow.lifted == Tryz.prog.liftsFinal)=true:=by kernel_rfl
theorem j27:(Tryz.prog.make == some Rows.fnExactCheckChangeRow.make)=true:=by kernel_rfl
theorem j29:(Rows.fnExactCheckChangeRow.pinned == Rows.fnExactCheckChangeRow.pinnedBy)=true:=by kernel_rfl
theorem j30:(Rows.fnExactCheckChangeRow.veiled == (Tryz.f6.params.toList++Rows.fnExactCheckChangeSpec.plain.varTypes Tryz.prog++Tryz.f6.resultTypes.toList).any (Tryz.prog.veiledRec ·))=true:=by kernel_rfl
theorem j31:Rows.fnExactCheckChangeRow.veiledFits Tryz.prog Tryz.f6.params.toList (Tryz.f6.params.toList++Rows.fnExactCheckChangeSpec.plain.varTypes Tryz.prog++Tryz.f6.resultTypes.toList)=true:=by kernel_rfl
theorem yz {a b:Bool} (h1:a=true) (h2:b=true):(a && b)=true:=by rw [h1,h2];rfl
theorem ziF:joinedFacts Tryz.prog 6 Tryz.f6 Rows.fnExactCheckChangeSpec Rows.fnExactCheckChangeRow=true:=by
 unfold joinedFacts
 exact yz (yz (yz (yz (yz (yz (yz (yz (yz (yz (yz (yz (yz (yz (yz (yz (yz (yz (yz (yz (yz (yz (yz (yz (yz (yz (yz (yz (yz (yz (yz (j0) j1) j2) j3) j4) j5) j6) j7) j8) j9) j10) j11) j12) j13) j14) j15) j16) j17) j18) j19) j20) j21) j22) j23) j24) j25) j26) j27) (by kernel_rfl)) j29) j30) j31
theorem zkf:Rows.fnExactCheckChangeRow.wfByText (OpenSpec.ofChange Rows.fnExactCheckChangeSpec)=true:=by kernel_rfl
theorem zhU:Tryz.prog.mainIs=some (Rows.fnExactCheckChangeCard.stood.harness.1,Rows.fnExactCheckChangeCard.stood.harness.2.toList):=by kernel_rfl
theorem zej:Tryz.prog.funcNamed "loop.example/packetfilter/laws.FnExactCheckChange"=some 6:=by kernel_rfl
theorem zgP:Rows.fnExactCheckChangeCard.stood.looks=Tryz.prog.looks []:=by kernel_rfl
theorem zh8:false=Rows.fnExactCheckChangeRow.goesBy Tryz.prog:=by kernel_rfl
theorem over:Rows.fnExactCheckChangeRow.holds Tryz.pinned (OpenSpec.ofChange Rows.fnExactCheckChangeSpec) :=
 OpenClaim.holds_of_wide 6 Tryz.f6 rfl rfl rfl rfl rfl rfl rfl ⟨rfl,rfl,rfl,rfl,rfl⟩ rfl rfl rfl rfl rfl zej Tryz.func6 ziF
  (of_decide_eq_true (by kernel_rfl)) (by unfold Func.isWrapper;first | (rw [if_pos (by decide +kernel)];kernel_rfl) | (rw [if_neg (by decide +kernel)];exact ⟨rfl,rfl⟩))
  (fun os started H enc _=>lifted os started H enc)
theorem proved:Rows.FnExactCheckChangeSaid:=over
theorem carded:Rows.FnExactCheckChangeCardSaid :=
 Claim7.holds_tied_plain_at .later [] [.data] true Rows.fnExactCheckChangeCard.stood.harness Rows.fnExactCheckChangeCard.stood.looks
  proved (fun _ h=>by cases h) zkf (fun _ h=>by cases h) fnExactCheckChange_row_tie rfl ⟨rfl,rfl⟩ zhU rfl
  (fun f fn hf hfn=>by
   obtain rfl:f=6:=Option.some.inj (zej.symm.trans hf) |>.symm
   obtain rfl:fn=Tryz.f6:=(Option.some.inj (Tryz.func6.symm.trans hfn)).symm
   exact ⟨zgP,fun j t ht=>by
    rw [Tryz.params6] at ht
    have hm:t∈[52,52]:=by simpa using Array.mem_of_getElem? ht
    have hall:([52,52].all fun u=>!Tryz.prog.wantsStandIn u)=true:=by kernel_rfl
    exact (show Tryz.prog.wantsStandIn t=false by simpa using List.all_eq_true.1 hall t hm)⟩)
  zh8
end Go.Proofs.YtgpdnnhmndlljaaGreatDoor.exactCheckChange
