/- The law FnCheckChange holds for every input. -/
import Derived.Test.YtgpdnnhmndlljaaGreatDoorMP24
import Derived.Test.YtgpdnnhmndlljaaGreatDoorShapes
namespace Go.Proofs.YtgpdnnhmndlljaaGreatDoor.checkChange
open Go.ChangeShapes Go.WideShapes Go.ChangeAt Go.RowKit Go.Joins
set_option linter.unusedVariables false
set_option linter.unusedSimpArgs false
theorem own:ownKnob Tryz.prog.godebug=none:=by kernel_rfl
theorem laidOut:laidOutB Tryz.prog=true:=by kernel_rfl
set_option maxRecDepth 100000 in
theorem lifted (os:Os) (started:os.Started) (H:Type) (enc:TypeId×Value→H) :
  ReturnsInHanded {} Tryz.checked os 3 .any (fun w args=>(Rows.fnCheckChangeSpec.pre enc Tryz.prog Tryz.f3 [] false w args∧laidMetH Tryz.prog zhE w)∧sizedMet enc Tryz.prog Tryz.f3 (OpenSpec.ofChange Rows.fnCheckChangeSpec) false w args)
   (Rows.fnCheckChangeSpec.post enc Tryz.prog Tryz.f3 false true false false):=by
 refine returnsInHanded_of_change_and (C:=Tryz.checked) (X:=fun w _=>laidMetH Tryz.prog zhE w) (fun _ _ _ hh h=>h.of_heap hh) own started (by kernel_rfl) Tryz.func3
  (ChangeSpec.witness_shaped (enc:=enc) (C:=Tryz.checked) (os:=os) (X:=fun w _=>laidMetH Tryz.prog zhE w) false (World.doorLaid Tryz.prog 400 os) #[.slice none 0 0,.slice none 0 0] 8 rfl (World.shaped_of_RefB (by kernel_rfl) (by kernel_rfl)) (by kernel_rfl) (by kernel_rfl) (by kernel_rfl) (zkX os _)) ?_
 intro W base args ds gs before hval0 hW _ _ hL _
 have hval:∀ (j:Nat) t v,Tryz.f3.params[j]?=some t→args[j]?=some v→Value.okWide Tryz.prog W .any base t v:=hval0
 have hW':=hW
 obtain ⟨p,q,hA0,hV0,rfl,hfz,hnd⟩:=hW
 have hA:DataW.TrodAll enc Tryz.prog W 0 (fun _=>true) true Tryz.f3.params.toList args.toList ds p:=hA0
 have hV:DataW.TrodVars enc Tryz.prog W (fun _=>true) ["loop.example/packetfilter/impl.fieldShapes"] gs q:=hV0
 rw [Tryz.params3] at hA hval
 obtain ⟨v0,vs0,d0,ds0,p0,q0,hargs,rfl,rfl,h0,r0⟩:=trodAll_cons hA
 obtain ⟨v1,vs1,d1,ds1,p1,q1,rfl,rfl,rfl,h1,r1⟩:=trodAll_cons r0
 obtain ⟨rfl,rfl,rfl⟩:=trodAll_nil r1
 obtain rfl:args=#[v0,v1]:=by cases args;simp_all
 have hV':=hV
 obtain ⟨_,_,_,_,g1,_,rfl,_,_,_,_,_⟩:=trodVars_one hV
 have SG:=zjz hL
 have k0:=h0
 have lt0:∀ x∈p0,x.block<W.heap.size:=by obtain ⟨m,hm⟩:=k0;exact DataW.trod_lt m _ _ _ hm
 have hv0:=hval 0 22 v0 rfl rfl
 have k1:=h1
 have lt1:∀ x∈p1,x.block<W.heap.size:=by obtain ⟨m,hm⟩:=k1;exact DataW.trod_lt m _ _ _ hm
 have hv1:=hval 1 22 v1 rfl rfl
 obtain ⟨a0,len0,cap0,rfl⟩:=okWide_slice Tryz.underlying22 hv0
 obtain ⟨xs0,S0⟩:∃ xs,Sl Zb (fun b=>b<W.heap.size∧¬ uy [] b) W (.slice a0 len0 cap0) xs:=by
  obtain ⟨fuel,hf⟩:=h0
  rcases open_ints Tryz.underlying22 Tryz.underlying5 (by kernel_rfl) hf with ⟨hcs,_⟩ | ⟨x,l,c,zs,hcs,_,hl,hm,hz,_,hcell,hwz⟩
  ·simp [Value.cells] at hcs
   obtain ⟨rfl,rfl,rfl⟩:=hcs
   exact ⟨_,Sl.nil ..⟩
  ·simp [Value.cells] at hcs
   obtain ⟨rfl,rfl,rfl⟩:=hcs
   exact ⟨_,zh5 hl (by simp at hz;omega) hwz hcell⟩
 obtain ⟨a1,len1,Ua,rfl⟩:=okWide_slice Tryz.underlying22 hv1
 obtain ⟨xs1,S1⟩:∃ xs,Sl Zb (fun b=>b<W.heap.size∧¬ uy [] b) W (.slice a1 len1 Ua) xs:=by
  obtain ⟨fuel,hf⟩:=h1
  rcases open_ints Tryz.underlying22 Tryz.underlying5 (by kernel_rfl) hf with ⟨hcs,_⟩ | ⟨x,l,c,zs,hcs,_,hl,hm,hz,_,hcell,hwz⟩
  ·simp [Value.cells] at hcs
   obtain ⟨rfl,rfl,rfl⟩:=hcs
   exact ⟨_,Sl.nil ..⟩
  ·simp [Value.cells] at hcs
   obtain ⟨rfl,rfl,rfl⟩:=hcs
   exact ⟨_,zh5 hl (by simp at hz;omega) hwz hcell⟩
 clear hA0 hval0 hV0
 refine ((zby (F:=fun b=>b<W.heap.size∧¬ uy [] b) (fun _ h=>h) S0 S1 SG (zcy xs0 xs1)).mono fun en w' ⟨r,_,h1,h2,h3,_⟩=>(show en=Ending.returned (Value.bool true)∧Below W.heap.size W w' from ⟨by rw [h2,h1],h3.below⟩)).mono fun e W' ⟨he,bel⟩=>?_
 subst he
 exact ⟨_,rfl,_,_,_,[],_,_,hW',trodAll_mk1 (shut_bool Tryz.underlying4 _),(trodAll_cons_mk (Below.trod laidOut (by kernel_rfl) (of_decide_eq_true (by kernel_rfl)) k0 bel lt0) (trodAll_cons_mk (Below.trod laidOut (by kernel_rfl) (of_decide_eq_true (by kernel_rfl)) k1 bel lt1) trodAll_mk0)),Below.trodVars laidOut bel (by kernel_rfl) hV',bel.frame _,fun h=>by cases h⟩
theorem j0:Rows.fnCheckChangeRow.wf (OpenSpec.ofChange Rows.fnCheckChangeSpec)=true:=by kernel_rfl
theorem j1:laidOutB Tryz.prog=true:=by kernel_rfl
theorem j2:mapsRowed Tryz.prog=true:=by kernel_rfl
theorem j3:Tryz.f3.params.all (Tryz.prog.readableRec ·)=true:=by kernel_rfl
theorem j4:namedTie Tryz.prog Rows.fnCheckChangeRow.named Rows.fnCheckChangeSpec.vars=true:=by kernel_rfl
theorem j5:(Rows.fnCheckChangeRow.stops == [])=true:=by kernel_rfl
theorem j6:(Tryz.prog.stops == [])=true:=by kernel_rfl
theorem j7:(Rows.fnCheckChangeRow.knobs == [])=true:=by kernel_rfl
theorem j8:(Tryz.prog.stopKnobs == [])=true:=by kernel_rfl
theorem j9:(Rows.fnCheckChangeRow.inPlace == Tryz.prog.inPlace 3)=true:=by kernel_rfl
theorem j10:(Rows.fnCheckChangeRow.unfollowed == Tryz.prog.unfollowed 3)=true:=by kernel_rfl
theorem j11:(Rows.fnCheckChangeRow.recurses == Tryz.prog.recurses 3)=true:=by kernel_rfl
theorem j12:(Rows.fnCheckChangeRow.named == Tryz.prog.varsNamed 3)=true:=by kernel_rfl
theorem j13:(Rows.fnCheckChangeRow.maps == (Tryz.f3.params.toList++Rows.fnCheckChangeSpec.plain.varTypes Tryz.prog).any (Tryz.prog.mapsRec ·))=true:=by kernel_rfl
theorem j14:(Rows.fnCheckChangeRow.ifaces == (Tryz.f3.params.toList++Rows.fnCheckChangeSpec.plain.varTypes Tryz.prog).any (Tryz.prog.ifacesRec ·))=true:=by kernel_rfl
theorem j15:(Rows.fnCheckChangeRow.mapsOut == Tryz.prog.mapsAmong Tryz.f3.resultTypes.toList)=true:=by kernel_rfl
theorem j16:(Rows.fnCheckChangeRow.loops == (Tryz.f3.params.toList++Rows.fnCheckChangeSpec.plain.varTypes Tryz.prog).any (Tryz.prog.loopsFrom ·))=true:=by kernel_rfl
theorem j17:(Rows.fnCheckChangeRow.wideKeys == (Tryz.f3.params.toList++Rows.fnCheckChangeSpec.plain.varTypes Tryz.prog++Tryz.f3.resultTypes.toList).any (Tryz.prog.wideKeysFrom ·))=true:=by kernel_rfl
theorem j18:Rows.fnCheckChangeSpec.vars.all (Tryz.prog.varReadable ·)=true:=by kernel_rfl
theorem j19:Tryz.f3.resultTypes.all (fun t=>Tryz.prog.readableRec t && decide (t<Tryz.prog.types.size))=true:=by kernel_rfl
theorem j20:(Rows.fnCheckChangeRow.ifacesOut == Tryz.f3.resultTypes.toList.any (Tryz.prog.ifacesRec ·))=true:=by kernel_rfl
theorem j21:(Rows.fnCheckChangeRow.loopsOut == Tryz.f3.resultTypes.toList.any (Tryz.prog.loopsFrom ·))=true:=by kernel_rfl
theorem j22:(Rows.fnCheckChangeRow.plainKeys == Tryz.prog.plainKeys)=true:=by kernel_rfl
theorem j23:Rows.fnCheckChangeRow.shortTexts.isNone=true:=by kernel_rfl
theorem j24:Tryz.prog.stopsHeard=true:=by kernel_rfl
theorem j25:Tryz.prog.mayEnter=true:=by kernel_rfl
theorem j26:(Rows.fnCheckChangeRow.lifted == Tryz.prog.liftsFinal)=true:=by kernel_rfl
theorem j27:(Tryz.prog.make == some Rows.fnCheckChangeRow.make)=true:=by kernel_rfl
theorem j29:(Rows.fnCheckChangeRow.pinned == Rows.fnCheckChangeRow.pinnedBy)=true:=by kernel_rfl
theorem j30:(Rows.fnCheckChangeRow.veiled == (Tryz.f3.params.toList++Rows.fnCheckChangeSpec.plain.varTypes Tryz.prog++Tryz.f3.resultTypes.toList).any (Tryz.prog.veiledRec ·))=true:=by kernel_rfl
theorem j31:Rows.fnCheckChangeRow.veiledFits Tryz.prog Tryz.f3.params.toList (Tryz.f3.params.toList++Rows.fnCheckChangeSpec.plain.varTypes Tryz.prog++Tryz.f3.resultTypes.toList)=true:=by kernel_rfl
theorem Zv {a b:Bool} (h1:a=true) (h2:b=true):(a && b)=true:=by rw [h1,h2];rfl
theorem zl2:joinedFacts Tryz.prog 3 Tryz.f3 Rows.fnCheckChangeSpec Rows.fnCheckChangeRow=true:=by
 unfold joinedFacts
 exact Zv (Zv (Zv (Zv (Zv (Zv (Zv (Zv (Zv (Zv (Zv (Zv (Zv (Zv (Zv (Zv (Zv (Zv (Zv (Zv (Zv (Zv (Zv (Zv (Zv (Zv (Zv (Zv (Zv (Zv (Zv (j0) j1) j2) j3) j4) j5) j6) j7) j8) j9) j10) j11) j12) j13) j14) j15) j16) j17) j18) j19) j20) j21) j22) j23) j24) j25) j26) j27) (by kernel_rfl)) j29) j30) j31
theorem znh:Rows.fnCheckChangeRow.wfByText (OpenSpec.ofChange Rows.fnCheckChangeSpec)=true:=by kernel_rfl
theorem zkI:Tryz.prog.mainIs=some (Rows.fnCheckChangeCard.stood.harness.1,Rows.fnCheckChangeCard.stood.harness.2.toList):=by kernel_rfl
theorem zgu:Tryz.prog.funcNamed "loop.example/packetfilter/laws.FnCheckChange"=some 3:=by kernel_rfl
theorem zjS:Rows.fnCheckChangeCard.stood.looks=Tryz.prog.looks []:=by kernel_rfl
theorem zlc:false=Rows.fnCheckChangeRow.goesBy Tryz.prog:=by kernel_rfl
theorem over:Rows.fnCheckChangeRow.holds Tryz.pinned (OpenSpec.ofChange Rows.fnCheckChangeSpec) :=
 OpenClaim.holds_of_wide 3 Tryz.f3 rfl rfl rfl rfl rfl rfl rfl ⟨rfl,rfl,rfl,rfl,rfl⟩ rfl rfl rfl rfl rfl zgu Tryz.func3 zl2
  (of_decide_eq_true (by kernel_rfl)) (by unfold Func.isWrapper;first | (rw [if_pos (by decide +kernel)];kernel_rfl) | (rw [if_neg (by decide +kernel)];exact ⟨rfl,rfl⟩))
  (fun os started H enc _=>lifted os started H enc)
theorem proved:Rows.FnCheckChangeSaid:=over
theorem carded:Rows.FnCheckChangeCardSaid :=
 Claim7.holds_tied_plain_at .later [] [.data] true Rows.fnCheckChangeCard.stood.harness Rows.fnCheckChangeCard.stood.looks
  proved (fun _ h=>by cases h) znh (fun _ h=>by cases h) fnCheckChange_row_tie rfl ⟨rfl,rfl⟩ zkI rfl
  (fun f fn hf hfn=>by
   obtain rfl:f=3:=Option.some.inj (zgu.symm.trans hf) |>.symm
   obtain rfl:fn=Tryz.f3:=(Option.some.inj (Tryz.func3.symm.trans hfn)).symm
   exact ⟨zjS,fun j t ht=>by
    rw [Tryz.params3] at ht
    have hm:t∈[22,22]:=by simpa using Array.mem_of_getElem? ht
    have hall:([22,22].all fun u=>!Tryz.prog.wantsStandIn u)=true:=by kernel_rfl
    exact (show Tryz.prog.wantsStandIn t=false by simpa using List.all_eq_true.1 hall t hm)⟩)
  zlc
end Go.Proofs.YtgpdnnhmndlljaaGreatDoor.checkChange
