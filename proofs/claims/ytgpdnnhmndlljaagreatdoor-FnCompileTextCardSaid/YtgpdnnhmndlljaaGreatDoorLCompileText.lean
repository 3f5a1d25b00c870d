/- The law FnCompileText holds for every input. -/
import Derived.Test.YtgpdnnhmndlljaaGreatDoorMP13
import Derived.Test.YtgpdnnhmndlljaaGreatDoorMP24
import Derived.Test.YtgpdnnhmndlljaaGreatDoorLaid
namespace Go.Proofs.YtgpdnnhmndlljaaGreatDoor.compileText
open Go.ChangeShapes Go.WideShapes Go.ChangeAt Go.RowKit Go.Joins
set_option linter.unusedVariables false
set_option linter.unusedSimpArgs false
theorem own:ownKnob Tryz.prog.godebug=none:=by kernel_rfl
theorem laidOut:laidOutB Tryz.prog=true:=by kernel_rfl
set_option maxRecDepth 100000 in
theorem lifted (os:Os) (started:os.Started) (H:Type) (enc:TypeId×Value->H) :
  ReturnsInHanded {} Tryz.checked os 11 .any (fun w args=>(Rows.fnCompileTextSpec.pre enc Tryz.prog Tryz.f11 [] false w args∧laidMetH Tryz.prog ziM w)∧sizedMet enc Tryz.prog Tryz.f11 (OpenSpec.ofChange Rows.fnCompileTextSpec) false w args)
   (Rows.fnCompileTextSpec.post enc Tryz.prog Tryz.f11 false true false false):=by
 refine returnsInHanded_of_change_and (C:=Tryz.checked) (X:=fun w _=>laidMetH Tryz.prog ziM w) (fun _ _ _ hh h=>h.of_heap hh) own started (by kernel_rfl) Tryz.func11
  (ChangeSpec.witness_shaped (enc:=enc) (C:=Tryz.checked) (os:=os) (X:=fun w _=>laidMetH Tryz.prog ziM w) false (World.doorLaid Tryz.prog 400 os) #[.slice none 0 0,.slice none 0 0] 8 rfl (World.shaped_of_RefB (by kernel_rfl) (by kernel_rfl)) (by kernel_rfl) (by kernel_rfl) (by kernel_rfl) (zng os _)) ?_
 intro W base args ds gs before hval0 hW _ _ hL _;have hval:∀ (j:Nat) t v,Tryz.f11.params[j]?=some t->args[j]?=some v->Value.okWide Tryz.prog W .any base t v:=hval0;have hW':=hW;obtain ⟨p,q,hA0,hV0,rfl,hfz,hnd⟩:=hW;have hA:DataW.TrodAll enc Tryz.prog W 0 (fun _=>true) true Tryz.f11.params.toList args.toList ds p:=hA0;have hV:DataW.TrodVars enc Tryz.prog W (fun _=>true) ["loop.example/packetfilter/impl.fieldShapes"] gs q:=hV0;rw [Tryz.params11] at hA hval;obtain ⟨v0,vs0,d0,ds0,p0,q0,hargs,rfl,rfl,h0,r0⟩:=trodAll_cons hA;obtain ⟨v1,vs1,d1,ds1,p1,q1,rfl,rfl,rfl,h1,r1⟩:=trodAll_cons r0;obtain ⟨rfl,rfl,rfl⟩:=trodAll_nil r1;obtain rfl:args=#[v0,v1]:=by cases args;simp_all
 have hV':=hV;obtain ⟨_,_,_,_,g1,_,rfl,_,_,_,_,_⟩:=trodVars_one hV;have SG:=zpa hL;have TB:=tb4 hL;have k0:=h0;have lt0:∀ x∈p0,x.block<W.heap.size:=by obtain ⟨m,hm⟩:=k0;exact DataW.trod_lt m _ _ _ hm
 have hv0:=hval 0 22 v0 rfl rfl;have k1:=h1;have lt1:∀ x∈p1,x.block<W.heap.size:=by obtain ⟨m,hm⟩:=k1;exact DataW.trod_lt m _ _ _ hm
 have hv1:=hval 1 22 v1 rfl rfl;obtain ⟨a0,len0,cap0,rfl⟩:=okWide_slice Tryz.underlying22 hv0;obtain ⟨xs0,S0⟩:∃ xs,Sl zbn (fun b=>b<W.heap.size∧¬ uv [] b) W (.slice a0 len0 cap0) xs:=by
  obtain ⟨fuel,hf⟩:=h0;rcases open_ints Tryz.underlying22 Tryz.underlying5 (by kernel_rfl) hf with ⟨hcs,_⟩ | ⟨x,l,c,zs,hcs,_,hl,hm,hz,_,hcell,hwz⟩
  ·simp [Value.cells] at hcs;obtain ⟨rfl,rfl,rfl⟩:=hcs;exact ⟨_,Sl.nil ..⟩
  simp [Value.cells] at hcs;obtain ⟨rfl,rfl,rfl⟩:=hcs;exact ⟨_,zkE hl (by simp at hz;omega) hwz hcell⟩
 obtain ⟨a1,len1,U8,rfl⟩:=okWide_slice Tryz.underlying22 hv1;obtain ⟨xs1,S1⟩:∃ xs,Sl zbn (fun b=>b<W.heap.size∧¬ uv [] b) W (.slice a1 len1 U8) xs:=by
  obtain ⟨fuel,hf⟩:=h1;rcases open_ints Tryz.underlying22 Tryz.underlying5 (by kernel_rfl) hf with ⟨hcs,_⟩ | ⟨x,l,c,zs,hcs,_,hl,hm,hz,_,hcell,hwz⟩
  ·simp [Value.cells] at hcs;obtain ⟨rfl,rfl,rfl⟩:=hcs;exact ⟨_,Sl.nil ..⟩
  simp [Value.cells] at hcs;obtain ⟨rfl,rfl,rfl⟩:=hcs;exact ⟨_,zkE hl (by simp at hz;omega) hwz hcell⟩
 clear hA0 hval0 hV0;refine ((zcP (F:=fun b=>b<W.heap.size∧¬ uv [] b) (fun _ h=>h) S0 S1 SG TB (zel xs0 xs1)).mono fun en w' ⟨r,_,h1,h2,h3,_⟩=>(show en=Ending.returned (Value.bool true)∧Below W.heap.size W w' from ⟨by rw [h2,h1],h3.below⟩)).mono fun e W' ⟨he,bel⟩=>?_
 subst he;exact ⟨_,rfl,_,_,_,[],_,_,hW',trodAll_mk1 (shut_bool Tryz.underlying4 _),(trodAll_cons_mk (Below.trod laidOut (by kernel_rfl) (of_decide_eq_true (by kernel_rfl)) k0 bel lt0) (trodAll_cons_mk (Below.trod laidOut (by kernel_rfl) (of_decide_eq_true (by kernel_rfl)) k1 bel lt1) trodAll_mk0)),Below.trodVars laidOut bel (by kernel_rfl) hV',bel.frame _,fun h=>by cases h⟩
theorem j0:Rows.fnCompileTextRow.wf (OpenSpec.ofChange Rows.fnCompileTextSpec)=true:=by kernel_rfl
theorem j1:laidOutB Tryz.prog=true:=by kernel_rfl
theorem j2:mapsRowed Tryz.prog=true:=by kernel_rfl
theorem j3:Tryz.f11.params.all (Tryz.prog.readableRec ·)=true:=by kernel_rfl
theorem j4:namedTie Tryz.prog Rows.fnCompileTextRow.named Rows.fnCompileTextSpec.vars=true:=by kernel_rfl
theorem j5:(Rows.fnCompileTextRow.stops == [])=true:=by kernel_rfl
theorem j6:(Tryz.prog.stops == [])=true:=by kernel_rfl
theorem j7:(Rows.fnCompileTextRow.knobs == [])=true:=by kernel_rfl
theorem j8:(Tryz.prog.stopKnobs == [])=true:=by kernel_rfl
theorem j9:(Rows.fnCompileTextRow.inPlace == Tryz.prog.inPlace 11)=true:=by kernel_rfl
theorem j10:(Rows.fnCompileTextRow.unfollowed == Tryz.prog.unfollowed 11)=true:=by kernel_rfl
theorem j11:(Rows.fnCompileTextRow.recurses == Tryz.prog.recurses 11)=true:=by kernel_rfl
theorem j12:(Rows.fnCompileTextRow.named == Tryz.prog.varsNamed 11)=true:=by kernel_rfl
theorem j13:(Rows.fnCompileTextRow.maps == (Tryz.f11.params.toList++Rows.fnCompileTextSpec.plain.varTypes Tryz.prog).any (Tryz.prog.mapsRec ·))=true:=by kernel_rfl
theorem j14:(Rows.fnCompileTextRow.ifaces == (Tryz.f11.params.toList++Rows.fnCompileTextSpec.plain.varTypes Tryz.prog).any (Tryz.prog.ifacesRec ·))=true:=by kernel_rfl
theorem j15:(Rows.fnCompileTextRow.mapsOut == Tryz.prog.mapsAmong Tryz.f11.resultTypes.toList)=true:=by kernel_rfl
theorem j16:(Rows.fnCompileTextRow.loops == (Tryz.f11.params.toList++Rows.fnCompileTextSpec.plain.varTypes Tryz.prog).any (Tryz.prog.loopsFrom ·))=true:=by kernel_rfl
theorem j17:(Rows.fnCompileTextRow.wideKeys == (Tryz.f11.params.toList++Rows.fnCompileTextSpec.plain.varTypes Tryz.prog++Tryz.f11.resultTypes.toList).any (Tryz.prog.wideKeysFrom ·))=true:=by kernel_rfl
theorem j18:Rows.fnCompileTextSpec.vars.all (Tryz.prog.varReadable ·)=true:=by kernel_rfl
theorem j19:Tryz.f11.resultTypes.all (fun t=>Tryz.prog.readableRec t && decide (t<Tryz.prog.types.size))=true:=by kernel_rfl
theorem j20:(Rows.fnCompileTextRow.ifacesOut == Tryz.f11.resultTypes.toList.any (Tryz.prog.ifacesRec ·))=true:=by kernel_rfl
theorem j21:(Rows.fnCompileTextRow.loopsOut == Tryz.f11.resultTypes.toList.any (Tryz.prog.loopsFrom ·))=true:=by kernel_rfl
theorem j22:(Rows.fnCompileTextRow.plainKeys == Tryz.prog.plainKeys)=true:=by kernel_rfl
theorem j23:Rows.fnCompileTextRow.shortTexts.isNone=true:=by kernel_rfl
theorem j24:Tryz.prog.stopsHeard=true:=by kernel_rfl
theorem j25:Tryz.prog.mayEnter=true:=by kernel_rfl
theorem j26:(Rows.fnCompileTextRow.lifted == Tryz.prog.liftsFinal)=true:=by kernel_rfl
theorem j27:(Tryz.prog.make == some Rows.fnCompileTextRow.make)=true:=by kernel_rfl
theorem j29:(Rows.fnCompileTextRow.pinned == Rows.fnCompileTextRow.pinnedBy)=true:=by kernel_rfl
theorem j30:(Rows.fnCompileTextRow.veiled == (Tryz.f11.params.toList++Rows.fnCompileTextSpec.plain.varTypes Tryz.prog++Tryz.f11.resultTypes.toList).any (Tryz.prog.veiledRec ·))=true:=by kernel_rfl
theorem j31:Rows.fnCompileTextRow.veiledFits Tryz.prog Tryz.f11.params.toList (Tryz.f11.params.toList++Rows.fnCompileTextSpec.plain.varTypes Tryz.prog++Tryz.f11.resultTypes.toList)=true:=by kernel_rfl
theorem Xb {a b:Bool} (h1:a=true) (h2:b=true):(a && b)=true:=by rw [h1,h2];rfl
theorem zpe:joinedFacts Tryz.prog 11 Tryz.f11 Rows.fnCompileTextSpec Rows.fnCompileTextRow=true:=by
 unfold joinedFacts;exact Xb (Xb (Xb (Xb (Xb (Xb (Xb (Xb (Xb (Xb (Xb (Xb (Xb (Xb (Xb (Xb (Xb (Xb (Xb (Xb (Xb (Xb (Xb (Xb (Xb (Xb (Xb (Xb (Xb (Xb (Xb (j0) j1) j2) j3) j4) j5) j6) j7) j8) j9) j10) j11) j12) j13) j14) j15) j16) j17) j18) j19) j20) j21) j22) j23) j24) j25) j26) j27) (by kernel_rfl)) j29) j30) j31
theorem zqT:Rows.fnCompileTextRow.wfByText (OpenSpec.ofChange Rows.fnCompileTextSpec)=true:=by kernel_rfl
theorem zoV:Tryz.prog.mainIs=some (Rows.fnCompileTextCard.stood.harness.1,Rows.fnCompileTextCard.stood.harness.2.toList):=by kernel_rfl
theorem ziV:Tryz.prog.funcNamed "loop.example/packetfilter/laws.FnCompileText"=some 11:=by kernel_rfl
theorem zm8:Rows.fnCompileTextCard.stood.looks=Tryz.prog.looks []:=by kernel_rfl
theorem zoL:false=Rows.fnCompileTextRow.goesBy Tryz.prog:=by kernel_rfl
theorem over:Rows.fnCompileTextRow.holds Tryz.pinned (OpenSpec.ofChange Rows.fnCompileTextSpec) :=
 OpenClaim.holds_of_wide 11 Tryz.f11 rfl rfl rfl rfl rfl rfl rfl ⟨rfl,rfl,rfl,rfl,rfl⟩ rfl rfl rfl rfl rfl ziV Tryz.func11 zpe
  (of_decide_eq_true (by kernel_rfl)) (by unfold Func.isWrapper;first | (rw [if_pos (by decide +kernel)];kernel_rfl) | (rw [if_neg (by decide +kernel)];exact ⟨rfl,rfl⟩))
  (fun os started H enc _=>lifted os started H enc)
theorem proved:Rows.FnCompileTextSaid:=over
theorem carded:Rows.FnCompileTextCardSaid :=
 Claim7.holds_tied_plain_at .later [] [.data,.data,.data,.data] true Rows.fnCompileTextCard.stood.harness Rows.fnCompileTextCard.stood.looks
  proved (fun _ h=>by cases h) zqT (fun _ h=>by cases h) fnCompileText_row_tie rfl ⟨rfl,rfl⟩ zoV rfl
  (fun f fn hf hfn=>by
   obtain rfl:f=11:=Option.some.inj (ziV.symm.trans hf) |>.symm
   obtain rfl:fn=Tryz.f11:=(Option.some.inj (Tryz.func11.symm.trans hfn)).symm
   exact ⟨zm8,fun j t ht=>by
    rw [Tryz.params11] at ht
    have hm:t∈[22,22]:=by simpa using Array.mem_of_getElem? ht
    have hall:([22,22].all fun u=>!Tryz.prog.wantsStandIn u)=true:=by kernel_rfl
    exact (show Tryz.prog.wantsStandIn t=false by simpa using List.all_eq_true.1 hall t hm)⟩)
  zoL
end Go.Proofs.YtgpdnnhmndlljaaGreatDoor.compileText
