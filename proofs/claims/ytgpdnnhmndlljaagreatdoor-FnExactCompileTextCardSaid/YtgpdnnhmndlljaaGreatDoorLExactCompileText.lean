/- The law FnExactCompileText holds for every input. -/
import Derived.Test.YtgpdnnhmndlljaaGreatDoorMP13
import Derived.Test.YtgpdnnhmndlljaaGreatDoorMP24
import Derived.Test.YtgpdnnhmndlljaaGreatDoorLaid
import Derived.Test.YtgpdnnhmndlljaaGreatDoorMP3
namespace Go.Proofs.YtgpdnnhmndlljaaGreatDoor.exactCompileText
open Go.ChangeShapes Go.WideShapes Go.ChangeAt Go.RowKit Go.Joins
set_option linter.unusedVariables false
set_option linter.unusedSimpArgs false
theorem own:ownKnob Tryz.prog.godebug=none:=by kernel_rfl
theorem laidOut:laidOutB Tryz.prog=true:=by kernel_rfl
set_option maxRecDepth 100000 in
theorem lifted (os:Os) (started:os.Started) (H:Type) (enc:TypeId×Value→H) :
  ReturnsInHanded {} Tryz.checked os 10 .any (fun w args=>(Rows.fnExactCompileTextSpec.pre enc Tryz.prog Tryz.f10 [] false w args∧laidMetH Tryz.prog zgC w)∧sizedMet enc Tryz.prog Tryz.f10 (OpenSpec.ofChange Rows.fnExactCompileTextSpec) false w args)
   (Rows.fnExactCompileTextSpec.post enc Tryz.prog Tryz.f10 false true false false):=by
 refine returnsInHanded_of_change_and (C:=Tryz.checked) (X:=fun w _=>laidMetH Tryz.prog zgC w) (fun _ _ _ hh h=>h.of_heap hh) own started (by kernel_rfl) Tryz.func10
  (ChangeSpec.witness_shaped (enc:=enc) (C:=Tryz.checked) (os:=os) (X:=fun w _=>laidMetH Tryz.prog zgC w) false (World.doorLaid Tryz.prog 400 os) #[.slice none 0 0] 8 rfl (World.shaped_of_RefB (by kernel_rfl) (by kernel_rfl)) (by kernel_rfl) (by kernel_rfl) (by kernel_rfl) (zkC os _)) ?_
 intro W base args ds gs before hval0 hW _ _ hL _
 have hval:∀ (j:Nat) t v,Tryz.f10.params[j]?=some t→args[j]?=some v→Value.okWide Tryz.prog W .any base t v:=hval0
 have hW':=hW
 obtain ⟨p,q,hA0,hV0,rfl,hfz,hnd⟩:=hW
 have hA:DataW.TrodAll enc Tryz.prog W 0 (fun _=>true) true Tryz.f10.params.toList args.toList ds p:=hA0
 have hV:DataW.TrodVars enc Tryz.prog W (fun _=>true) ["loop.example/packetfilter/impl.fieldShapes"] gs q:=hV0
 rw [Tryz.params10] at hA hval
 obtain ⟨v0,vs0,d0,ds0,p0,q0,hargs,rfl,rfl,h0,r0⟩:=trodAll_cons hA
 obtain ⟨rfl,rfl,rfl⟩:=trodAll_nil r0
 obtain rfl:args=#[v0]:=by cases args;simp_all
 have hV':=hV
 obtain ⟨_,_,_,_,g1,_,rfl,_,_,_,_,_⟩:=trodVars_one hV
 have SG:=zm5 hL
 have TB:=tb4 hL
 have k0:=h0
 have lt0:∀ x∈p0,x.block<W.heap.size:=by obtain ⟨m,hm⟩:=k0;exact DataW.trod_lt m _ _ _ hm
 have hv0:=hval 0 62 v0 rfl rfl
 obtain ⟨a0,len0,cap0,rfl⟩:=okWide_slice Tryz.underlying62 hv0
 obtain ⟨fuel0,hf0⟩:=h0
 obtain ⟨w0,xs0,e0,S0,hl0⟩:=zox zfQ hf0
 simp [Value.cells] at e0
 subst e0
 clear hA0 hval0 hV0
 refine ((zae (F:=fun b=>b<W.heap.size∧¬ uq [] b) (fun _ h=>h) S0 SG TB (zaZ xs0 hl0)).mono fun en w' ⟨r,_,h1,h2,h3,_⟩=>(show en=Ending.returned (Value.bool true)∧Below W.heap.size W w' from ⟨by rw [h2,h1],h3.below⟩)).mono fun e W' ⟨he,bel⟩=>?_
 subst he
 exact ⟨_,rfl,_,_,_,[],_,_,hW',trodAll_mk1 (shut_bool Tryz.underlying4 _),(trodAll_cons_mk (Below.trod laidOut (by kernel_rfl) (of_decide_eq_true (by kernel_rfl)) k0 bel lt0) trodAll_mk0),Below.trodVars laidOut bel (by kernel_rfl) hV',bel.frame _,fun h=>by cases h⟩
theorem j0:Rows.fnExactCompileTextRow.wf (OpenSpec.ofChange Rows.fnExactCompileTextSpec)=true:=by kernel_rfl
theorem j1:laidOutB Tryz.prog=true:=by kernel_rfl
theorem j2:mapsRowed Tryz.prog=true:=by kernel_rfl
theorem j3:Tryz.f10.params.all (Tryz.prog.readableRec ·)=true:=by kernel_rfl
theorem j4:namedTie Tryz.prog Rows.fnExactCompileTextRow.named Rows.fnExactCompileTextSpec.vars=true:=by kernel_rfl
theorem j5:(Rows.fnExactCompileTextRow.stops == [])=true:=by kernel_rfl
theorem j6:(Tryz.prog.stops == [])=true:=by kernel_rfl
theorem j7:(Rows.fnExactCompileTextRow.knobs == [])=true:=by kernel_rfl
theorem j8:(Tryz.prog.stopKnobs == [])=true:=by kernel_rfl
theorem j9:(Rows.fnExactCompileTextRow.inPlace == Tryz.prog.inPlace 10)=true:=by kernel_rfl
theorem j10:(Rows.fnExactCompileTextRow.unfollowed == Tryz.prog.unfollowed 10)=true:=by kernel_rfl
theorem j11:(Rows.fnExactCompileTextRow.recurses == Tryz.prog.recurses 10)=true:=by kernel_rfl
theorem j12:(Rows.fnExactCompileTextRow.named == Tryz.prog.varsNamed 10)=true:=by kernel_rfl
theorem j13:(Rows.fnExactCompileTextRow.maps == (Tryz.f10.params.toList++Rows.fnExactCompileTextSpec.plain.varTypes Tryz.prog).any (Tryz.prog.mapsRec ·))=true:=by kernel_rfl
theorem j14:(Rows.fnExactCompileTextRow.ifaces == (Tryz.f10.params.toList++Rows.fnExactCompileTextSpec.plain.varTypes Tryz.prog).any (Tryz.prog.ifacesRec ·))=true:=by kernel_rfl
theorem j15:(Rows.fnExactCompileTextRow.mapsOut == Tryz.prog.mapsAmong Tryz.f10.resultTypes.toList)=true:=by kernel_rfl
theorem j16:(Rows.fnExactCompileTextRow.loops == (Tryz.f10.params.toList++Rows.fnExactCompileTextSpec.plain.varTypes Tryz.prog).any (Tryz.prog.loopsFrom ·))=true:=by kernel_rfl
theorem j17:(Rows.fnExactCompileTextRow.wideKeys == (Tryz.f10.params.toList++Rows.fnExactCompileTextSpec.plain.varTypes Tryz.prog++Tryz.f10.resultTypes.toList).any (Tryz.prog.wideKeysFrom ·))=true:=by kernel_rfl
theorem j18:Rows.fnExactCompileTextSpec.vars.all (Tryz.prog.varReadable ·)=true:=by kernel_rfl
theorem j19:Tryz.f10.resultTypes.all (fun t=>Tryz.prog.readableRec t && decide (t<Tryz.prog.types.size))=true:=by kernel_rfl
theorem j20:(Rows.fnExactCompileTextRow.ifacesOut == Tryz.f10.resultTypes.toList.any (Tryz.prog.ifacesRec ·))=true:=by kernel_rfl
theorem j21:(Rows.fnExactCompileTextRow.loopsOut == Tryz.f10.resultTypes.toList.any (Tryz.prog.loopsFrom ·))=true:=by kernel_rfl
theorem j22:(Rows.fnExactCompileTextRow.plainKeys == Tryz.prog.plainKeys)=true:=by kernel_rfl
theorem j23:Rows.fnExactCompileTextRow.shortTexts.isNone=true:=by kernel_rfl
theorem j24:Tryz.prog.stopsHeard=true:=by kernel_rfl
theorem j25:Tryz.prog.mayEnter=true:=by kernel_rfl
theorem j26:(Rows.fnExactCompileTextRow.lifted == Tryz.prog.liftsFinal)=true:=by kernel_rfl
theorem j27:(Tryz.prog.make == some Rows.fnExactCompileTextRow.make)=true:=by kernel_rfl
theorem j29:(Rows.fnExactCompileTextRow.pinned == Rows.fnExactCompileTextRow.pinnedBy)=true:=by kernel_rfl
theorem j30:(Rows.fnExactCompileTextRow.veiled == (Tryz.f10.params.toList++Rows.fnExactCompileTextSpec.plain.varTypes Tryz.prog++Tryz.f10.resultTypes.toList).any (Tryz.prog.veiledRec ·))=true:=by kernel_rfl
theorem j31:Rows.fnExactCompileTextRow.veiledFits Tryz.prog Tryz.f10.params.toList (Tryz.f10.params.toList++Rows.fnExactCompileTextSpec.plain.varTypes Tryz.prog++Tryz.f10.resultTypes.toList)=true:=by kernel_rfl
theorem ZD {a b:Bool} (h1:a=true) (h2:b=true):(a && b)=true:=by rw [h1,h2];rfl
theorem zmD:joinedFacts Tryz.prog 10 Tryz.f10 Rows.fnExactCompileTextSpec Rows.fnExactCompileTextRow=true:=by
 unfold joinedFacts
 exact ZD (ZD (ZD (ZD (ZD (ZD (ZD (ZD (ZD (ZD (ZD (ZD (ZD (ZD (ZD (ZD (ZD (ZD (ZD (ZD (ZD (ZD (ZD (ZD (ZD (ZD (ZD (ZD (ZD (ZD (ZD (j0) j1) j2) j3) j4) j5) j6) j7) j8) j9) j10) j11) j12) j13) j14) j15) j16) j17) j18) j19) j20) j21) j22) j23) j24) j25) j26) j27) (by kernel_rfl)) j29) j30) j31
theorem znQ:Rows.fnExactCompileTextRow.wfByText (OpenSpec.ofChange Rows.fnExactCompileTextSpec)=true:=by kernel_rfl
theorem zlL:Tryz.prog.mainIs=some (Rows.fnExactCompileTextCard.stood.harness.1,Rows.fnExactCompileTextCard.stood.harness.2.toList):=by kernel_rfl
theorem zgz:Tryz.prog.funcNamed "loop.example/packetfilter/laws.FnExactCompileText"=some 10:=by kernel_rfl
theorem zkz:Rows.fnExactCompileTextCard.stood.looks=Tryz.prog.looks []:=by kernel_rfl
theorem zk2:false=Rows.fnExactCompileTextRow.goesBy Tryz.prog:=by kernel_rfl
theorem over:Rows.fnExactCompileTextRow.holds Tryz.pinned (OpenSpec.ofChange Rows.fnExactCompileTextSpec) :=
 OpenClaim.holds_of_wide 10 Tryz.f10 rfl rfl rfl rfl rfl rfl rfl ⟨rfl,rfl,rfl,rfl,rfl⟩ rfl rfl rfl rfl rfl zgz Tryz.func10 zmD
  (of_decide_eq_true (by kernel_rfl)) (by unfold Func.isWrapper;first | (rw [if_pos (by decide +kernel)];kernel_rfl) | (rw [if_neg (by decide +kernel)];exact ⟨rfl,rfl⟩))
  (fun os started H enc _=>lifted os started H enc)
theorem proved:Rows.FnExactCompileTextSaid:=over
theorem carded:Rows.FnExactCompileTextCardSaid :=
 Claim7.holds_tied_plain_at .later [] [.data,.data,.data,.data] true Rows.fnExactCompileTextCard.stood.harness Rows.fnExactCompileTextCard.stood.looks
  proved (fun _ h=>by cases h) znQ (fun _ h=>by cases h) fnExactCompileText_row_tie rfl ⟨rfl,rfl⟩ zlL rfl
  (fun f fn hf hfn=>by
   obtain rfl:f=10:=Option.some.inj (zgz.symm.trans hf) |>.symm
   obtain rfl:fn=Tryz.f10:=(Option.some.inj (Tryz.func10.symm.trans hfn)).symm
   exact ⟨zkz,fun j t ht=>by
    rw [Tryz.params10] at ht
    have hm:t∈[62]:=by simpa using Array.mem_of_getElem? ht
    have hall:([62].all fun u=>!Tryz.prog.wantsStandIn u)=true:=by kernel_rfl
    exact (show Tryz.prog.wantsStandIn t=false by simpa using List.all_eq_true.1 hall t hm)⟩)
  zk2
end Go.Proofs.YtgpdnnhmndlljaaGreatDoor.exactCompileText
