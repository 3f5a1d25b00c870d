/- The law FnUnfoldFlat holds for every input. -/
import Derived.Test.YtgpdnnhmndlljaaGreatDoorMP12
import Derived.Test.YtgpdnnhmndlljaaGreatDoorMP23
import Derived.Test.YtgpdnnhmndlljaaGreatDoorShapes
namespace Go.Proofs.YtgpdnnhmndlljaaGreatDoor.unfoldFlat
open Go.ChangeShapes Go.WideShapes Go.ChangeAt Go.RowKit Go.Joins
set_option linter.unusedVariables false
set_option linter.unusedSimpArgs false
theorem own:ownKnob Tryz.prog.godebug=none:=by kernel_rfl
theorem laidOut:laidOutB Tryz.prog=true:=by kernel_rfl
set_option maxRecDepth 100000 in
theorem lifted (os:Os) (started:os.Started) (H:Type) (enc:TypeId×Value→H) :
  ReturnsInHanded {} Tryz.checked os 4 .any (fun w args=>(Rows.fnUnfoldFlatSpec.pre enc Tryz.prog Tryz.f4 [] false w args∧laidMetH Tryz.prog zdp w)∧sizedMet enc Tryz.prog Tryz.f4 (OpenSpec.ofChange Rows.fnUnfoldFlatSpec) false w args)
   (Rows.fnUnfoldFlatSpec.post enc Tryz.prog Tryz.f4 false true false false):=by
 refine returnsInHanded_of_change_and (C:=Tryz.checked) (X:=fun w _=>laidMetH Tryz.prog zdp w) (fun _ _ _ hh h=>h.of_heap hh) own started (by kernel_rfl) Tryz.func4
  (ChangeSpec.witness_shaped (enc:=enc) (C:=Tryz.checked) (os:=os) (X:=fun w _=>laidMetH Tryz.prog zdp w) false (World.doorLaid Tryz.prog 400 os) #[.slice none 0 0] 8 rfl (World.shaped_of_RefB (by kernel_rfl) (by kernel_rfl)) (by kernel_rfl) (by kernel_rfl) (by kernel_rfl) (zfC os _)) ?_
 intro W base args ds gs before hval0 hW _ _ hL _
 have hval:∀ (j:Nat) t v,Tryz.f4.params[j]?=some t→args[j]?=some v→Value.okWide Tryz.prog W .any base t v:=hval0
 have hW':=hW
 obtain ⟨p,q,hA0,hV0,rfl,hfz,hnd⟩:=hW
 have hA:DataW.TrodAll enc Tryz.prog W 0 (fun _=>true) true Tryz.f4.params.toList args.toList ds p:=hA0
 have hV:DataW.TrodVars enc Tryz.prog W (fun _=>true) ["loop.example/packetfilter/impl.fieldShapes"] gs q:=hV0
 rw [Tryz.params4] at hA hval
 obtain ⟨v0,vs0,d0,ds0,p0,q0,hargs,rfl,rfl,h0,r0⟩:=trodAll_cons hA
 obtain ⟨rfl,rfl,rfl⟩:=trodAll_nil r0
 obtain rfl:args=#[v0]:=by cases args;simp_all
 have hV':=hV
 obtain ⟨_,_,_,_,g1,_,rfl,_,_,_,_,_⟩:=trodVars_one hV
 have SG:=ze6 hL
 have k0:=h0
 have lt0:∀ x∈p0,x.block<W.heap.size:=by obtain ⟨m,hm⟩:=k0;exact DataW.trod_lt m _ _ _ hm
 have hv0:=hval 0 22 v0 rfl rfl
 obtain ⟨a0,len0,cap0,rfl⟩:=okWide_slice Tryz.underlying22 hv0
 obtain ⟨xs0,S0⟩:∃ xs,Sl YB (fun b=>b<W.heap.size∧¬ xF [] b) W (.slice a0 len0 cap0) xs:=by
  obtain ⟨fuel,hf⟩:=h0
  rcases open_ints Tryz.underlying22 Tryz.underlying5 (by kernel_rfl) hf with ⟨hcs,_⟩ | ⟨x,l,c,zs,hcs,_,hl,hm,hz,_,hcell,hwz⟩
  ·simp [Value.cells] at hcs
   obtain ⟨rfl,rfl,rfl⟩:=hcs
   exact ⟨_,Sl.nil ..⟩
  ·simp [Value.cells] at hcs
   obtain ⟨rfl,rfl,rfl⟩:=hcs
   exact ⟨_,zgl hl (by simp at hz;omega) hwz hcell⟩
 clear hA0 hval0 hV0
 refine ((UZ (F:=fun b=>b<W.heap.size∧¬ xF [] b) (fun _ h=>h) S0 SG (zat xs0)).mono fun en w' ⟨r,_,h1,h2,h3,_⟩=>(show en=Ending.returned (Value.bool true)∧Below W.heap.size W w' from ⟨by rw [h2,h1],h3.below⟩)).mono fun e W' ⟨he,bel⟩=>?_
 subst he
 exact ⟨_,rfl,_,_,_,[],_,_,hW',trodAll_mk1 (shut_bool Tryz.underlying4 _),(trodAll_cons_mk (Below.trod laidOut (by kernel_rfl) (of_decide_eq_true (by kernel_rfl)) k0 bel lt0) trodAll_mk0),Below.trodVars laidOut bel (by kernel_rfl) hV',bel.frame _,fun h=>by cases h⟩
theorem j0:Rows.fnUnfoldFlatRow.wf (OpenSpec.ofChange Rows.fnUnfoldFlatSpec)=true:=by kernel_rfl
theorem j1:laidOutB Tryz.prog=true:=by kernel_rfl
theorem j2:mapsRowed Tryz.prog=true:=by kernel_rfl
theorem j3:Tryz.f4.params.all (Tryz.prog.readableRec ·)=true:=by kernel_rfl
theorem j4:namedTie Tryz.prog Rows.fnUnfoldFlatRow.named Rows.fnUnfoldFlatSpec.vars=true:=by kernel_rfl
theorem j5:(Rows.fnUnfoldFlatRow.stops == [])=true:=by kernel_rfl
theorem j6:(Tryz.prog.stops == [])=true:=by kernel_rfl
theorem j7:(Rows.fnUnfoldFlatRow.knobs == [])=true:=by kernel_rfl
theorem j8:(Tryz.prog.stopKnobs == [])=true:=by kernel_rfl
theorem j9:(Rows.fnUnfoldFlatRow.inPlace == Tryz.prog.inPlace 4)=true:=by kernel_rfl
theorem j10:(Rows.fnUnfoldFlatRow.unfollowed == Tryz.prog.unfollowed 4)=true:=by kernel_rfl
theorem j11:(Rows.fnUnfoldFlatRow.recurses == Tryz.prog.recurses 4)=true:=by kernel_rfl
theorem j12:(Rows.fnUnfoldFlatRow.named == Tryz.prog.varsNamed 4)=true:=by kernel_rfl
theorem j13:(Rows.fnUnfoldFlatRow.maps == (Tryz.f4.params.toList++Rows.fnUnfoldFlatSpec.plain.varTypes Tryz.prog).any (Tryz.prog.mapsRec ·))=true:=by kernel_rfl
theorem j14:(Rows.fnUnfoldFlatRow.ifaces == (Tryz.f4.params.toList++Rows.fnUnfoldFlatSpec.plain.varTypes Tryz.prog).any (Tryz.prog.ifacesRec ·))=true:=by kernel_rfl
theorem j15:(Rows.fnUnfoldFlatRow.mapsOut == Tryz.prog.mapsAmong Tryz.f4.resultTypes.toList)=true:=by kernel_rfl
theorem j16:(Rows.fnUnfoldFlatRow.loops == (Tryz.f4.params.toList++Rows.fnUnfoldFlatSpec.plain.varTypes Tryz.prog).any (Tryz.prog.loopsFrom ·))=true:=by kernel_rfl
theorem j17:(Rows.fnUnfoldFlatRow.wideKeys == (Tryz.f4.params.toList++Rows.fnUnfoldFlatSpec.plain.varTypes Tryz.prog++Tryz.f4.resultTypes.toList).any (Tryz.prog.wideKeysFrom ·))=true:=by kernel_rfl
theorem j18:Rows.fnUnfoldFlatSpec.vars.all (Tryz.prog.varReadable ·)=true:=by kernel_rfl
theorem j19:Tryz.f4.resultTypes.all (fun t=>Tryz.prog.readableRec t && decide (t<Tryz.prog.types.size))=true:=by kernel_rfl
theorem j20:(Rows.fnUnfoldFlatRow.ifacesOut == Tryz.f4.resultTypes.toList.any (Tryz.prog.ifacesRec ·))=true:=by kernel_rfl
theorem j21:(Rows.fnUnfoldFlatRow.loopsOut == Tryz.f4.resultTypes.toList.any (Tryz.prog.loopsFrom ·))=true:=by kernel_rfl
theorem j22:(Rows.fnUnfoldFlatRow.plainKeys == Tryz.prog.plainKeys)=true:=by kernel_rfl
theorem j23:Rows.fnUnfoldFlatRow.shortTexts.isNone=true:=by kernel_rfl
theorem j24:Tryz.prog.stopsHeard=true:=by kernel_rfl
theorem j25:Tryz.prog.mayEnter=true:=by kernel_rfl
theorem j26:(Rows.fnUnfoldFlatRow.lifted == Tryz.prog.liftsFinal)=true:=by kernel_rfl
theorem j27:(Tryz.prog.make == some Rows.fnUnfoldFlatRow.make)=true:=by kernel_rfl
theorem j29:(Rows.fnUnfoldFlatRow.pinned == Rows.fnUnfoldFlatRow.pinnedBy)=true:=by kernel_rfl
theorem j30:(Rows.fnUnfoldFlatRow.veiled == (Tryz.f4.params.toList++Rows.fnUnfoldFlatSpec.plain.varTypes Tryz.prog++Tryz.f4.resultTypes.toList).any (Tryz.prog.veiledRec ·))=true:=by kernel_rfl
theorem j31:Rows.fnUnfoldFlatRow.veiledFits Tryz.prog Tryz.f4.params.toList (Tryz.f4.params.toList++Rows.fnUnfoldFlatSpec.plain.varTypes Tryz.prog++Tryz.f4.resultTypes.toList)=true:=by kernel_rfl
theorem uM {a b:Bool} (h1:a=true) (h2:b=true):(a && b)=true:=by rw [h1,h2];rfl
theorem zgK:joinedFacts Tryz.prog 4 Tryz.f4 Rows.fnUnfoldFlatSpec Rows.fnUnfoldFlatRow=true:=by
 unfold joinedFacts
 exact uM (uM (uM (uM (uM (uM (uM (uM (uM (uM (uM (uM (uM (uM (uM (uM (uM (uM (uM (uM (uM (uM (uM (uM (uM (uM (uM (uM (uM (uM (uM (j0) j1) j2) j3) j4) j5) j6) j7) j8) j9) j10) j11) j12) j13) j14) j15) j16) j17) j18) j19) j20) j21) j22) j23) j24) j25) j26) j27) (by kernel_rfl)) j29) j30) j31
theorem zhU:Rows.fnUnfoldFlatRow.wfByText (OpenSpec.ofChange Rows.fnUnfoldFlatSpec)=true:=by kernel_rfl
theorem zfS:Tryz.prog.mainIs=some (Rows.fnUnfoldFlatCard.stood.harness.1,Rows.fnUnfoldFlatCard.stood.harness.2.toList):=by kernel_rfl
theorem zcg:Tryz.prog.funcNamed "loop.example/packetfilter/laws.FnUnfoldFlat"=some 4:=by kernel_rfl
theorem zfg:Rows.fnUnfoldFlatCard.stood.looks=Tryz.prog.looks []:=by kernel_rfl
theorem zfL:false=Rows.fnUnfoldFlatRow.goesBy Tryz.prog:=by kernel_rfl
theorem over:Rows.fnUnfoldFlatRow.holds Tryz.pinned (OpenSpec.ofChange Rows.fnUnfoldFlatSpec) :=
 OpenClaim.holds_of_wide 4 Tryz.f4 rfl rfl rfl rfl rfl rfl rfl ⟨rfl,rfl,rfl,rfl,rfl⟩ rfl rfl rfl rfl rfl zcg Tryz.func4 zgK
  (of_decide_eq_true (by kernel_rfl)) (by unfold Func.isWrapper;first | (rw [if_pos (by decide +kernel)];kernel_rfl) | (rw [if_neg (by decide +kernel)];exact ⟨rfl,rfl⟩))
  (fun os started H enc _=>lifted os started H enc)
theorem proved:Rows.FnUnfoldFlatSaid:=over
theorem carded:Rows.FnUnfoldFlatCardSaid :=
 Claim7.holds_tied_plain_at .later [] [.data] true Rows.fnUnfoldFlatCard.stood.harness Rows.fnUnfoldFlatCard.stood.looks
  proved (fun _ h=>by cases h) zhU (fun _ h=>by cases h) fnUnfoldFlat_row_tie rfl ⟨rfl,rfl⟩ zfS rfl
  (fun f fn hf hfn=>by
   obtain rfl:f=4:=Option.some.inj (zcg.symm.trans hf) |>.symm
   obtain rfl:fn=Tryz.f4:=(Option.some.inj (Tryz.func4.symm.trans hfn)).symm
   exact ⟨zfg,fun j t ht=>by
    rw [Tryz.params4] at ht
    have hm:t∈[22]:=by simpa using Array.mem_of_getElem? ht
    have hall:([22].all fun u=>!Tryz.prog.wantsStandIn u)=true:=by kernel_rfl
    exact (show Tryz.prog.wantsStandIn t=false by simpa using List.all_eq_true.1 hall t hm)⟩)
  zfL
end Go.Proofs.YtgpdnnhmndlljaaGreatDoor.unfoldFlat
