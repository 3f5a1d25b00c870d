/- The law FnExactCompile holds for every input. -/
import Derived.Test.YtgpdnnhmndlljaaGreatDoorMP12
import Derived.Test.YtgpdnnhmndlljaaGreatDoorMP23
import Derived.Test.YtgpdnnhmndlljaaGreatDoorShapes
import Derived.Test.YtgpdnnhmndlljaaGreatDoorMP3
namespace Go.Proofs.YtgpdnnhmndlljaaGreatDoor.exactCompile
open Go.ChangeShapes Go.WideShapes Go.ChangeAt Go.RowKit Go.Joins
set_option linter.unusedVariables false
set_option linter.unusedSimpArgs false
theorem own:ownKnob Tryz.prog.godebug=none:=by kernel_rfl
theorem laidOut:laidOutB Tryz.prog=true:=by kernel_rfl
set_option maxRecDepth 100000 in
theorem lifted (os:Os) (started:os.Started) (H:Type) (enc:TypeId×Value→H) :
  ReturnsInHanded {} Tryz.checked os 7 .any (fun w args=>(Rows.fnExactCompileSpec.pre enc Tryz.prog Tryz.f7 [] false w args∧laidMetH Tryz.prog zfP w)∧sizedMet enc Tryz.prog Tryz.f7 (OpenSpec.ofChange Rows.fnExactCompileSpec) false w args)
   (Rows.fnExactCompileSpec.post enc Tryz.prog Tryz.f7 false true false false):=by
 refine returnsInHanded_of_change_and (C:=Tryz.checked) (X:=fun w _=>laidMetH Tryz.prog zfP w) (fun _ _ _ hh h=>h.of_heap hh) own started (by kernel_rfl) Tryz.func7
  (ChangeSpec.witness_shaped (enc:=enc) (C:=Tryz.checked) (os:=os) (X:=fun w _=>laidMetH Tryz.prog zfP w) false (World.doorLaid Tryz.prog 400 os) #[.agg #[.slice none 0 0,.bool false]] 8 rfl (World.shaped_of_RefB (by kernel_rfl) (by kernel_rfl)) (by kernel_rfl) (by kernel_rfl) (by kernel_rfl) (zhU os _)) ?_
 intro W base args ds gs before hval0 hW _ _ hL _
 have hval:∀ (j:Nat) t v,Tryz.f7.params[j]?=some t→args[j]?=some v→Value.okWide Tryz.prog W .any base t v:=hval0
 have hW':=hW
 obtain ⟨p,q,hA0,hV0,rfl,hfz,hnd⟩:=hW
 have hA:DataW.TrodAll enc Tryz.prog W 0 (fun _=>true) true Tryz.f7.params.toList args.toList ds p:=hA0
 have hV:DataW.TrodVars enc Tryz.prog W (fun _=>true) ["loop.example/packetfilter/impl.fieldShapes"] gs q:=hV0
 rw [Tryz.params7] at hA hval
 obtain ⟨v0,vs0,d0,ds0,p0,q0,hargs,rfl,rfl,h0,r0⟩:=trodAll_cons hA
 obtain ⟨rfl,rfl,rfl⟩:=trodAll_nil r0
 obtain rfl:args=#[v0]:=by cases args;simp_all
 have hV':=hV
 obtain ⟨_,_,_,_,g1,_,rfl,_,_,_,_,_⟩:=trodVars_one hV
 have SG:=zhb hL
 have k0:=h0
 have lt0:∀ x∈p0,x.block<W.heap.size:=by obtain ⟨m,hm⟩:=k0;exact DataW.trod_lt m _ _ _ hm
 have hv0:=hval 0 52 v0 rfl rfl
 obtain ⟨cs0,rfl,_⟩:=okWide_struct Tryz.underlying52 hv0
 obtain ⟨fuel0,hf0⟩:=h0
 obtain ⟨x0,⟨u0,e0,S0⟩,hl0⟩:=zk0 zeH hf0
 obtain ⟨cs0⟩:=cs0
 simp only [Value.cells] at e0
 subst e0
 clear hA0 hval0 hV0
 refine ((VB (F:=fun b=>b<W.heap.size∧¬ xZ [] b) (fun _ h=>h) S0 SG (zaA x0 ⟨hl0.1,fun c hc=>⟨(hl0.2 c hc).1,fun r hr=>((hl0.2 c hc).2 r hr).1⟩⟩)).mono fun en w' ⟨r,_,h1,h2,h3,_⟩=>(show en=Ending.returned (Value.bool true)∧Below W.heap.size W w' from ⟨by rw [h2,h1],h3.below⟩)).mono fun e W' ⟨he,bel⟩=>?_
 subst he
 exact ⟨_,rfl,_,_,_,[],_,_,hW',trodAll_mk1 (shut_bool Tryz.underlying4 _),(trodAll_cons_mk (Below.trod laidOut (by kernel_rfl) (of_decide_eq_true (by kernel_rfl)) k0 bel lt0) trodAll_mk0),Below.trodVars laidOut bel (by kernel_rfl) hV',bel.frame _,fun h=>by cases h⟩
theorem j0:Rows.fnExactCompileRow.wf (OpenSpec.ofChange Rows.fnExactCompileSpec)=true:=by kernel_rfl
theorem j1:laidOutB Tryz.prog=true:=by kernel_rfl
theorem j2:mapsRowed Tryz.prog=true:=by kernel_rfl
theorem j3:Tryz.f7.params.all (Tryz.prog.readableRec ·)=true:=by kernel_rfl
theorem j4:namedTie Tryz.prog Rows.fnExactCompileRow.named Rows.fnExactCompileSpec.vars=true:=by kernel_rfl
theorem j5:(Rows.fnExactCompileRow.stops == [])=true:=by kernel_rfl
theorem j6:(Tryz.prog.stops == [])=true:=by kernel_rfl
theorem j7:(Rows.fnExactCompileRow.knobs == [])=true:=by kernel_rfl
theorem j8:(Tryz.prog.stopKnobs == [])=true:=by kernel_rfl
theorem j9:(Rows.fnExactCompileRow.inPlace == Tryz.prog.inPlace 7)=true:=by kernel_rfl
theorem j10:(Rows.fnExactCompileRow.unfollowed == Tryz.prog.unfollowed 7)=true:=by kernel_rfl
theorem j11:(Rows.fnExactCompileRow.recurses == Tryz.prog.recurses 7)=true:=by kernel_rfl
theorem j12:(Rows.fnExactCompileRow.named == Tryz.prog.varsNamed 7)=true:=by kernel_rfl
theorem j13:(Rows.fnExactCompileRow.maps == (Tryz.f7.params.toList++Rows.fnExactCompileSpec.plain.varTypes Tryz.prog).any (Tryz.prog.mapsRec ·))=true:=by kernel_rfl
theorem j14:(Rows.fnExactCompileRow.ifaces == (Tryz.f7.params.toList++Rows.fnExactCompileSpec.plain.varTypes Tryz.prog).any (Tryz.prog.ifacesRec ·))=true:=by kernel_rfl
theorem j15:(Rows.fnExactCompileRow.mapsOut == Tryz.prog.mapsAmong Tryz.f7.resultTypes.toList)=true:=by kernel_rfl
theorem j16:(Rows.fnExactCompileRow.loops == (Tryz.f7.params.toList++Rows.fnExactCompileSpec.plain.varTypes Tryz.prog).any (Tryz.prog.loopsFrom ·))=true:=by kernel_rfl
theorem j17:(Rows.fnExactCompileRow.wideKeys == (Tryz.f7.params.toList++Rows.fnExactCompileSpec.plain.varTypes Tryz.prog++Tryz.f7.resultTypes.toList).any (Tryz.prog.wideKeysFrom ·))=true:=by kernel_rfl
theorem j18:Rows.fnExactCompileSpec.vars.all (Tryz.prog.varReadable ·)=true:=by kernel_rfl
theorem j19:Tryz.f7.resultTypes.all (fun t=>Tryz.prog.readableRec t && decide (t<Tryz.prog.types.size))=true:=by kernel_rfl
theorem j20:(Rows.fnExactCompileRow.ifacesOut == Tryz.f7.resultTypes.toList.any (Tryz.prog.ifacesRec ·))=true:=by kernel_rfl
theorem j21:(Rows.fnExactCompileRow.loopsOut == Tryz.f7.resultTypes.toList.any (Tryz.prog.loopsFrom ·))=true:=by kernel_rfl
theorem j22:(Rows.fnExactCompileRow.plainKeys == Tryz.prog.plainKeys)=true:=by kernel_rfl
theorem j23:Rows.fnExactCompileRow.shortTexts.isNone=true:=by kernel_rfl
theorem j24:Tryz.prog.stopsHeard=true:=by kernel_rfl
theorem j25:Tryz.prog.mayEnter=true:=by kernel_rfl
theorem j26:(Rows.fnExactCompileRow.lifted == Tryz.prog.liftsFinal)=true:=by kernel_rfl
theorem j27:(Tryz.prog.make == some Rows.fnExactCompileRow.make)=true:=by kernel_rfl
theorem j29:(Rows.fnExactCompileRow.pinned == Rows.fnExactCompileRow.pinnedBy)=true:=by kernel_rfl
theorem j30:(Rows.fnExactCompileRow.veiled == (Tryz.f7.params.toList++Rows.fnExactCompileSpec.plain.varTypes Tryz.prog++Tryz.f7.resultTypes.toList).any (Tryz.prog.veiledRec ·))=true:=by kernel_rfl
theorem j31:Rows.fnExactCompileRow.veiledFits Tryz.prog Tryz.f7.params.toList (Tryz.f7.params.toList++Rows.fnExactCompileSpec.plain.varTypes Tryz.prog++Tryz.f7.resultTypes.toList)=true:=by kernel_rfl
theorem yt {a b:Bool} (h1:a=true) (h2:b=true):(a && b)=true:=by rw [h1,h2];rfl
theorem ziX:joinedFacts Tryz.prog 7 Tryz.f7 Rows.fnExactCompileSpec Rows.fnExactCompileRow=true:=by
 unfold joinedFacts
 exact yt (yt (yt (yt (yt (yt (yt (yt (yt (yt (yt (yt (yt (yt (yt (yt (yt (yt (yt (yt (yt (yt (yt (yt (yt (yt (yt (yt (yt (yt (yt (j0) j1) j2) j3) j4) j5) j6) j7) j8) j9) j10) j11) j12) j13) j14) j15) j16) j17) j18) j19) j20) j21) j22) j23) j24) j25) j26) j27) (by kernel_rfl)) j29) j30) j31
theorem zkl:Rows.fnExactCompileRow.wfByText (OpenSpec.ofChange Rows.fnExactCompileSpec)=true:=by kernel_rfl
theorem zhL:Tryz.prog.mainIs=some (Rows.fnExactCompileCard.stood.harness.1,Rows.fnExactCompileCard.stood.harness.2.toList):=by kernel_rfl
theorem zeb:Tryz.prog.funcNamed "loop.example/packetfilter/laws.FnExactCompile"=some 7:=by kernel_rfl
theorem zhc:Rows.fnExactCompileCard.stood.looks=Tryz.prog.looks []:=by kernel_rfl
theorem ziQ:false=Rows.fnExactCompileRow.goesBy Tryz.prog:=by kernel_rfl
theorem over:Rows.fnExactCompileRow.holds Tryz.pinned (OpenSpec.ofChange Rows.fnExactCompileSpec) :=
 OpenClaim.holds_of_wide 7 Tryz.f7 rfl rfl rfl rfl rfl rfl rfl ⟨rfl,rfl,rfl,rfl,rfl⟩ rfl rfl rfl rfl rfl zeb Tryz.func7 ziX
  (of_decide_eq_true (by kernel_rfl)) (by unfold Func.isWrapper;first | (rw [if_pos (by decide +kernel)];kernel_rfl) | (rw [if_neg (by decide +kernel)];exact ⟨rfl,rfl⟩))
  (fun os started H enc _=>lifted os started H enc)
theorem proved:Rows.FnExactCompileSaid:=over
theorem carded:Rows.FnExactCompileCardSaid :=
 Claim7.holds_tied_plain_at .later [] [.data] true Rows.fnExactCompileCard.stood.harness Rows.fnExactCompileCard.stood.looks
  proved (fun _ h=>by cases h) zkl (fun _ h=>by cases h) fnExactCompile_row_tie rfl ⟨rfl,rfl⟩ zhL rfl
  (fun f fn hf hfn=>by
   obtain rfl:f=7:=Option.some.inj (zeb.symm.trans hf) |>.symm
   obtain rfl:fn=Tryz.f7:=(Option.some.inj (Tryz.func7.symm.trans hfn)).symm
   exact ⟨zhc,fun j t ht=>by
    rw [Tryz.params7] at ht
    have hm:t∈[52]:=by simpa using Array.mem_of_getElem? ht
    have hall:([52].all fun u=>!Tryz.prog.wantsStandIn u)=true:=by kernel_rfl
    exact (show Tryz.prog.wantsStandIn t=false by simpa using List.all_eq_true.1 hall t hm)⟩)
  ziQ
end Go.Proofs.YtgpdnnhmndlljaaGreatDoor.exactCompile
