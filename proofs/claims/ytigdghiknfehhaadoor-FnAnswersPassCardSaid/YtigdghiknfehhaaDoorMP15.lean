/- Texts of this seat, put together. -/
import Derived.Test.YtigdghiknfehhaaDoorMP14
set_option linter.unusedSimpArgs false
set_option linter.unusedVariables false
namespace Go.Proofs.YtigdghiknfehhaaDoor
section
open Go.RowKit
set_option maxRecDepth 100000 in
set_option maxHeartbeats 8000000 in
theorem w_spec_DrawAnswersPass {w0 : World} {F : Nat → Prop} {v1 : Value} {code_0 : (List UInt8)} {κ : (GRuleset × GPacket × Int × Int) → Prop} (hF : ∀ b, F b → b < w0.heap.size ∧ ¬ feet [] b) (hv1 : Sl elU8 F w0 v1 code_0) (h : L_spec_DrawAnswersPass code_0 κ) :
    Calls Tryd.prog 21 #[v1] w0 (Ret [] F w0 κ (fun (r : (GRuleset × GPacket × Int × Int)) (u : Value) => .tuple #[(.agg #[u, (.bool r.1.xAccept)]), (.agg #[(.int .i64 r.2.1.xFrom), (.int .i64 r.2.1.xTo), (.int .i64 r.2.1.xPort), (.int .i64 r.2.1.xProto)]), (.int .i64 r.2.2.1), (.int .i64 r.2.2.2)]) (fun (r : (GRuleset × GPacket × Int × Int)) (u : Value) => [ownCh (elSl elGRule) 101 u r.1.xChains])) := by
  refine enterS (args := [v1]) [] hF (Given.nil _ _) Tryd.func21 rfl Tryd.ntmps21 rfl h ?_
  clear h hF
  refine c_seq ?_
  refine c_region ?_
  refine stw (o_alloc rfl [(.slice none 0 0), (.bool false)] zero25 ?_); intro b3
  refine stw (o_alloc rfl [(.int .i64 0), (.int .i64 0), (.int .i64 0), (.int .i64 0)] zero40 ?_); intro b5
  refine o_as st rfl rfl ?_
  refine o_as st rfl rfl ?_
  refine c_nil ?_
  refine l_then ?_
  refine c_seq ?_
  refine c_region ?_
  refine o_mv st rfl rfl ?_
  refine stw (o_callP (vs := [v1]) Tryd.call49 rfl rfl (by intro w m h; exact w_spec_l20Open (code_0 := code_0) fz_ok0 (m.roS 2 rfl hv1) h) ?_); rintro ⟨r9, r12⟩ ⟨b7, v10⟩
  refine o_as st rfl rfl ?_
  refine c_nil ?_
  refine l_then ?_
  refine c_seq ?_
  refine c_region ?_
  refine o_mv st rfl rfl ?_
  refine stw (o_call (vs := [(.pointer (some ⟨b7, 0, none⟩)), (.int .i64 20)]) (M0 := [cellCh b7 [v10, (.int .i64 r12)] 122]) Tryd.call66 rfl rfl (by intro w m h; exact w_spec_l20Case (r_0_b := r9) (r_0_p := r12) (n_1 := 20) fz_ok m.givenB (m.ro 1 rfl) h) ?_); rintro ⟨r13, r16, r17⟩ v14
  refine o_mv st rfl rfl ?_
  refine o_ext st (vs := [(.agg #[v14, (.bool r13.xAccept)]), (.agg #[(.int .i64 r16.xFrom), (.int .i64 r16.xTo), (.int .i64 r16.xPort), (.int .i64 r16.xProto)])]) rfl rfl rfl ?_
  refine o_ext st (vs := [(.agg #[v14, (.bool r13.xAccept)]), (.agg #[(.int .i64 r16.xFrom), (.int .i64 r16.xTo), (.int .i64 r16.xPort), (.int .i64 r16.xProto)])]) rfl rfl rfl ?_
  refine stw (o_alloc rfl [(.slice none 0 0), (.bool false)] zero25 ?_); intro b18
  refine stw (o_alloc rfl [(.int .i64 0), (.int .i64 0), (.int .i64 0), (.int .i64 0)] zero40 ?_); intro b20
  refine nx_own 2 rfl ?_; rintro a22 l23 q24 rfl
  refine stw (o_stc (cs' := [(.slice a22 l23 q24), (.bool r13.xAccept)]) 1 rfl rfl rfl ty25 rfl rfl rfl rfl ?_)
  refine stw (o_stc (cs' := [(.int .i64 r16.xFrom), (.int .i64 r16.xTo), (.int .i64 r16.xPort), (.int .i64 r16.xProto)]) 0 rfl rfl rfl ty40 rfl rfl rfl rfl ?_)
  refine c_nil ?_
  refine l_then ?_
  refine c_seq ?_
  refine c_region ?_
  refine o_mv st rfl rfl ?_
  refine pk [3, 0, 1, 2, 4, 5, 6, 7] rfl ?_
  refine stw (o_call (vs := [(.pointer (some ⟨b7, 0, none⟩))]) (M0 := [cellCh b7 [v10, (.int .i64 r17)] 122]) Tryd.call67 rfl rfl (by intro w m h; exact (w_spec_l20Life (F := allB [cellCh b7 [v10, (.int .i64 r17)] 122] w) (r_0_b := r9) (r_0_p := r17) allB_ok m.given (m.rdM 3 rfl reads_ro) h).mono (fun _ _ k => ret_free (fun r u => (fr_cons free_cell fr_nil)) k)) ?_); rintro ⟨r25, r26⟩ _
  refine o_as st rfl rfl ?_
  refine c_nil ?_
  refine l_then ?_
  refine nx_ro 4 rfl ?_; rintro a27 l28 q29 rfl
  refine c_join (σ := Int) (fun (t30 : Int) (a : Act) (w : World) => Has 39 [(2, (.pointer (some ⟨b3, 0, none⟩))), (3, (.pointer (some ⟨b5, 0, none⟩))), (4, (.int .i64 r25)), (5, (.int .i64 t30))] a ∧ Mem (gB F [] w0) (feet []) w0 [ownCh (elSl elGRule) 101 (.slice a22 l23 q24) r13.xChains, cellCh b5 [(.int .i64 r16.xFrom), (.int .i64 r16.xTo), (.int .i64 r16.xPort), (.int .i64 r16.xProto)] 40, cellCh b3 [(.slice a22 l23 q24), (.bool r13.xAccept)] 25] w) ?_ ?_
  · intro k31
    refine c_drawQ mixed 24 rfl [cellCh b20 [(.int .i64 r16.xFrom), (.int .i64 r16.xTo), (.int .i64 r16.xPort), (.int .i64 r16.xProto)] 40, cellCh b18 [(.slice a22 l23 q24), (.bool r13.xAccept)] 25, ownCh (elSl elGRule) 101 (.slice a22 l23 q24) r13.xChains, roCh elU8 (.slice a27 l28 q29) r9, snapCh w0 F] ?_
    intro Qd hP hQ
    have H803 : ∀ (r32 : Int) (r33 : Int) (v34 : Value) (v35 : Value) (r36 : Int) (r37 : Int) (e38 : Int) (h39 : ([0, 0, 0, 1, 2, 3])[(r36).toNat]? = some e38) (e40 : Int) (h41 : ([r32, r25, (w64 (r25 + 1)), (-1)])[(e38).toNat]? = some e40), Nx 39 (gB F [] w0) (feet []) w0 (wpAnyH Tryd.prog .any (opsAt Tryd.f21 [1, 1, 1, 1, 0]) Qd (Mem (gB F [] w0) (feet []) w0 [cellCh b20 [(.int .i64 r16.xFrom), (.int .i64 r16.xTo), (.int .i64 r16.xPort), (.int .i64 r16.xProto)] 40, cellCh b18 [(.slice a22 l23 q24), (.bool r13.xAccept)] 25, ownCh (elSl elGRule) 101 (.slice a22 l23 q24) r13.xChains, roCh elU8 (.slice a27 l28 q29) r9, snapCh w0 F]) 2 #[true, true, true, true, true, true, true, true, true, true, true, true, true, true, true, true, true, true, true, true, true, true, false, false]) [(2, (.pointer (some ⟨b3, 0, none⟩))), (3, (.pointer (some ⟨b5, 0, none⟩))), (4, (.int .i64 0)), (5, (.int .i64 0)), (21, (.int .i64 r25)), (38, (.int .i64 e40))] [cellCh b7 [(.slice a27 l28 q29), (.int .i64 r37)] 122, cellCh b20 [(.int .i64 r16.xFrom), (.int .i64 r16.xTo), (.int .i64 r16.xPort), (.int .i64 r16.xProto)] 40, cellCh b18 [(.slice a22 l23 q24), (.bool r13.xAccept)] 25, ownCh (elSl elGRule) 101 (.slice a22 l23 q24) r13.xChains, roCh elU8 (.slice a27 l28 q29) r9, cellCh b5 [(.int .i64 r16.xFrom), (.int .i64 r16.xTo), (.int .i64 r16.xPort), (.int .i64 r16.xProto)] 40, cellCh b3 [(.slice a22 l23 q24), (.bool r13.xAccept)] 25, snapCh w0 F] (k31 e40) := by
      intro r32 r33 v34 v35 r36 r37 e38 h39 e40 h41
      refine o_as (dt 22 (fun w m => m.pick [1, 2, 3, 4, 7] rfl)) rfl rfl ?_
      refine o_as (dt 23 (fun w m => m.pick [1, 2, 3, 4, 7] rfl)) rfl rfl ?_
      refine d_done (by kernel_rfl) ?_
      exact fun a w hE hm hφ => hQ e40 a w hφ ((fun a w hE hm => ⟨hE.sub ⟨rfl, rfl, rfl, rfl, trivial⟩, (hm.pick [3, 5, 6] rfl)⟩) a w hE hm)
    have H804 : ∀ (r32 : Int) (r33 : Int) (v34 : Value) (v35 : Value) (r36 : Int) (r37 : Int) (e38 : Int) (h39 : ([0, 0, 0, 1, 2, 3])[(r36).toNat]? = some e38) (e40 : Int) (h41 : ([r32, r25, (w64 (r25 + 1)), (-1)])[(e38).toNat]? = some e40), Nx 39 (gB F [] w0) (feet []) w0 (wpAnyH Tryd.prog .any (opsAt Tryd.f21 [1, 1, 1, 1, 0]) Qd (Mem (gB F [] w0) (feet []) w0 [cellCh b20 [(.int .i64 r16.xFrom), (.int .i64 r16.xTo), (.int .i64 r16.xPort), (.int .i64 r16.xProto)] 40, cellCh b18 [(.slice a22 l23 q24), (.bool r13.xAccept)] 25, ownCh (elSl elGRule) 101 (.slice a22 l23 q24) r13.xChains, roCh elU8 (.slice a27 l28 q29) r9, snapCh w0 F]) 3 #[true, true, true, true, true, true, true, true, true, true, true, true, true, true, true, true, true, true, true, true, true, false, false, false]) [(2, (.pointer (some ⟨b3, 0, none⟩))), (3, (.pointer (some ⟨b5, 0, none⟩))), (4, (.int .i64 0)), (5, (.int .i64 0)), (20, (.agg #[(.int .i64 r16.xFrom), (.int .i64 r16.xTo), (.int .i64 r16.xPort), (.int .i64 r16.xProto)])), (21, (.int .i64 r25)), (38, (.int .i64 e40))] [cellCh b7 [(.slice a27 l28 q29), (.int .i64 r37)] 122, cellCh b20 [(.int .i64 r16.xFrom), (.int .i64 r16.xTo), (.int .i64 r16.xPort), (.int .i64 r16.xProto)] 40, cellCh b18 [(.slice a22 l23 q24), (.bool r13.xAccept)] 25, ownCh (elSl elGRule) 101 (.slice a22 l23 q24) r13.xChains, roCh elU8 (.slice a27 l28 q29) r9, cellCh b5 [(.int .i64 0), (.int .i64 0), (.int .i64 0), (.int .i64 0)] 40, cellCh b3 [(.slice a22 l23 q24), (.bool r13.xAccept)] 25, snapCh w0 F] (k31 e40) := by
      intro r32 r33 v34 v35 r36 r37 e38 h39 e40 h41
      refine d_one (i := 21) rfl (by kernel_rfl) (o_stc (cs' := [(.int .i64 r16.xFrom), (.int .i64 r16.xTo), (.int .i64 r16.xPort), (.int .i64 r16.xProto)]) 5 rfl rfl rfl ty40 rfl rfl rfl rfl ?_)
      refine d_and (fun w m => m.pick [1, 2, 3, 4, 7] rfl) ?_
      refine pk [0, 1, 2, 3, 4, 5, 6, 7] rfl ?_
      refine re (E' := [(2, (.pointer (some ⟨b3, 0, none⟩))), (3, (.pointer (some ⟨b5, 0, none⟩))), (4, (.int .i64 0)), (5, (.int .i64 0)), (21, (.int .i64 r25)), (38, (.int .i64 e40))]) ⟨rfl, rfl, rfl, rfl, rfl, rfl, trivial⟩ ?_
      exact H803 r32 r33 v34 v35 r36 r37 e38 h39 e40 h41
    have H805 : ∀ (r32 : Int) (r33 : Int) (v34 : Value) (v35 : Value) (r36 : Int) (r37 : Int) (e38 : Int) (h39 : ([0, 0, 0, 1, 2, 3])[(r36).toNat]? = some e38) (e40 : Int) (h41 : ([r32, r25, (w64 (r25 + 1)), (-1)])[(e38).toNat]? = some e40), Nx 39 (gB F [] w0) (feet []) w0 (wpAnyH Tryd.prog .any (opsAt Tryd.f21 [1, 1, 1, 1, 0]) Qd (Mem (gB F [] w0) (feet []) w0 [cellCh b20 [(.int .i64 r16.xFrom), (.int .i64 r16.xTo), (.int .i64 r16.xPort), (.int .i64 r16.xProto)] 40, cellCh b18 [(.slice a22 l23 q24), (.bool r13.xAccept)] 25, ownCh (elSl elGRule) 101 (.slice a22 l23 q24) r13.xChains, roCh elU8 (.slice a27 l28 q29) r9, snapCh w0 F]) 4 #[true, true, true, true, true, true, true, true, true, true, true, true, true, true, true, true, true, true, true, true, false, false, false, false]) [(2, (.pointer (some ⟨b3, 0, none⟩))), (3, (.pointer (some ⟨b5, 0, none⟩))), (4, (.int .i64 0)), (5, (.int .i64 0)), (19, (.agg #[(.slice a22 l23 q24), (.bool r13.xAccept)])), (20, (.agg #[(.int .i64 r16.xFrom), (.int .i64 r16.xTo), (.int .i64 r16.xPort), (.int .i64 r16.xProto)])), (21, (.int .i64 r25)), (38, (.int .i64 e40))] [cellCh b7 [(.slice a27 l28 q29), (.int .i64 r37)] 122, cellCh b20 [(.int .i64 r16.xFrom), (.int .i64 r16.xTo), (.int .i64 r16.xPort), (.int .i64 r16.xProto)] 40, cellCh b18 [(.slice a22 l23 q24), (.bool r13.xAccept)] 25, ownCh (elSl elGRule) 101 (.slice a22 l23 q24) r13.xChains, roCh elU8 (.slice a27 l28 q29) r9, cellCh b5 [(.int .i64 0), (.int .i64 0), (.int .i64 0), (.int .i64 0)] 40, cellCh b3 [(.slice none 0 0), (.bool false)] 25, snapCh w0 F] (k31 e40) := by
      intro r32 r33 v34 v35 r36 r37 e38 h39 e40 h41
      refine d_one (i := 20) rfl (by kernel_rfl) (o_stc (cs' := [(.slice a22 l23 q24), (.bool r13.xAccept)]) 6 rfl rfl rfl ty25 rfl rfl rfl rfl ?_)
      refine d_and (fun w m => m.pick [1, 2, 3, 4, 7] rfl) ?_
      refine pk [0, 1, 2, 3, 4, 5, 6, 7] rfl ?_
      refine re (E' := [(2, (.pointer (some ⟨b3, 0, none⟩))), (3, (.pointer (some ⟨b5, 0, none⟩))), (4, (.int .i64 0)), (5, (.int .i64 0)), (20, (.agg #[(.int .i64 r16.xFrom), (.int .i64 r16.xTo), (.int .i64 r16.xPort), (.int .i64 r16.xProto)])), (21, (.int .i64 r25)), (38, (.int .i64 e40))]) ⟨rfl, rfl, rfl, rfl, rfl, rfl, rfl, trivial⟩ ?_
      exact H804 r32 r33 v34 v35 r36 r37 e38 h39 e40 h41
    have H806 : ∀ (r32 : Int) (r33 : Int) (v34 : Value) (v35 : Value) (r36 : Int) (r37 : Int) (e38 : Int) (h39 : ([0, 0, 0, 1, 2, 3])[(r36).toNat]? = some e38) (e40 : Int) (h41 : ([r32, r25, (w64 (r25 + 1)), (-1)])[(e38).toNat]? = some e40), Nx 39 (gB F [] w0) (feet []) w0 (wpAnyH Tryd.prog .any (opsAt Tryd.f21 [1, 1, 1, 1, 0]) Qd (Mem (gB F [] w0) (feet []) w0 [cellCh b20 [(.int .i64 r16.xFrom), (.int .i64 r16.xTo), (.int .i64 r16.xPort), (.int .i64 r16.xProto)] 40, cellCh b18 [(.slice a22 l23 q24), (.bool r13.xAccept)] 25, ownCh (elSl elGRule) 101 (.slice a22 l23 q24) r13.xChains, roCh elU8 (.slice a27 l28 q29) r9, snapCh w0 F]) 1 #[true, true, true, true, true, true, true, true, true, true, true, true, true, true, true, true, true, true, true, true, true, true, true, false]) [(2, (.pointer (some ⟨b3, 0, none⟩))), (3, (.pointer (some ⟨b5, 0, none⟩))), (4, (.int .i64 r25)), (5, (.int .i64 0)), (38, (.int .i64 e40))] [cellCh b7 [(.slice a27 l28 q29), (.int .i64 r37)] 122, cellCh b20 [(.int .i64 r16.xFrom), (.int .i64 r16.xTo), (.int .i64 r16.xPort), (.int .i64 r16.xProto)] 40, cellCh b18 [(.slice a22 l23 q24), (.bool r13.xAccept)] 25, ownCh (elSl elGRule) 101 (.slice a22 l23 q24) r13.xChains, roCh elU8 (.slice a27 l28 q29) r9, cellCh b5 [(.int .i64 r16.xFrom), (.int .i64 r16.xTo), (.int .i64 r16.xPort), (.int .i64 r16.xProto)] 40, cellCh b3 [(.slice a22 l23 q24), (.bool r13.xAccept)] 25, snapCh w0 F] (k31 e40) := by
      intro r32 r33 v34 v35 r36 r37 e38 h39 e40 h41
      refine o_as (dt 23 (fun w m => m.pick [1, 2, 3, 4, 7] rfl)) rfl rfl ?_
      refine d_done (by kernel_rfl) ?_
      exact fun a w hE hm hφ => hQ e40 a w hφ ((fun a w hE hm => ⟨hE.sub ⟨rfl, rfl, rfl, rfl, trivial⟩, (hm.pick [3, 5, 6] rfl)⟩) a w hE hm)
    have H807 : ∀ (r32 : Int) (r33 : Int) (v34 : Value) (v35 : Value) (r36 : Int) (r37 : Int) (e38 : Int) (h39 : ([0, 0, 0, 1, 2, 3])[(r36).toNat]? = some e38) (e40 : Int) (h41 : ([r32, r25, (w64 (r25 + 1)), (-1)])[(e38).toNat]? = some e40), Nx 39 (gB F [] w0) (feet []) w0 (wpAnyH Tryd.prog .any (opsAt Tryd.f21 [1, 1, 1, 1, 0]) Qd (Mem (gB F [] w0) (feet []) w0 [cellCh b20 [(.int .i64 r16.xFrom), (.int .i64 r16.xTo), (.int .i64 r16.xPort), (.int .i64 r16.xProto)] 40, cellCh b18 [(.slice a22 l23 q24), (.bool r13.xAccept)] 25, ownCh (elSl elGRule) 101 (.slice a22 l23 q24) r13.xChains, roCh elU8 (.slice a27 l28 q29) r9, snapCh w0 F]) 3 #[true, true, true, true, true, true, true, true, true, true, true, true, true, true, true, true, true, true, true, false, true, true, false, false]) [(2, (.pointer (some ⟨b3, 0, none⟩))), (3, (.pointer (some ⟨b5, 0, none⟩))), (4, (.int .i64 0)), (5, (.int .i64 0)), (21, (.int .i64 r25)), (37, (pEl v34 e38 1 0))] [cellCh b7 [(.slice a27 l28 q29), (.int .i64 r37)] 122, ownCh elInt 3 v34 ([r32, r25, (w64 (r25 + 1)), (-1)]), cellCh b20 [(.int .i64 r16.xFrom), (.int .i64 r16.xTo), (.int .i64 r16.xPort), (.int .i64 r16.xProto)] 40, cellCh b18 [(.slice a22 l23 q24), (.bool r13.xAccept)] 25, ownCh (elSl elGRule) 101 (.slice a22 l23 q24) r13.xChains, roCh elU8 (.slice a27 l28 q29) r9, cellCh b5 [(.int .i64 r16.xFrom), (.int .i64 r16.xTo), (.int .i64 r16.xPort), (.int .i64 r16.xProto)] 40, cellCh b3 [(.slice a22 l23 q24), (.bool r13.xAccept)] 25, snapCh w0 F] (k31 e40) := by
      intro r32 r33 v34 v35 r36 r37 e38 h39 e40 h41
      refine o_as (dt 22 (fun w m => m.pick [2, 3, 4, 5, 8] rfl)) rfl rfl ?_
      refine d_one (i := 19) rfl (by kernel_rfl) (o_lds m_op (enc := encInt) (u := (.int .i64 e40)) 1 rfl reads_own flelInt rfl h41 rfl rfl ty3 rfl ?_)
      refine d_and (fun w m => m.pick [2, 3, 4, 5, 8] rfl) ?_
      refine pk [0, 2, 3, 4, 5, 6, 7, 8] rfl ?_
      refine re (E' := [(2, (.pointer (some ⟨b3, 0, none⟩))), (3, (.pointer (some ⟨b5, 0, none⟩))), (4, (.int .i64 r25)), (5, (.int .i64 0)), (38, (.int .i64 e40))]) ⟨rfl, rfl, rfl, rfl, rfl, trivial⟩ ?_
      exact H806 r32 r33 v34 v35 r36 r37 e38 h39 e40 h41
    have H808 : ∀ (r32 : Int) (r33 : Int) (v34 : Value) (v35 : Value) (r36 : Int) (r37 : Int) (e38 : Int) (h39 : ([0, 0, 0, 1, 2, 3])[(r36).toNat]? = some e38) (e40 : Int) (h41 : ([r32, r25, (w64 (r25 + 1)), (-1)])[(e38).toNat]? = some e40), Nx 39 (gB F [] w0) (feet []) w0 (wpAnyH Tryd.prog .any (opsAt Tryd.f21 [1, 1, 1, 1, 0]) Qd (Mem (gB F [] w0) (feet []) w0 [cellCh b20 [(.int .i64 r16.xFrom), (.int .i64 r16.xTo), (.int .i64 r16.xPort), (.int .i64 r16.xProto)] 40, cellCh b18 [(.slice a22 l23 q24), (.bool r13.xAccept)] 25, ownCh (elSl elGRule) 101 (.slice a22 l23 q24) r13.xChains, roCh elU8 (.slice a27 l28 q29) r9, snapCh w0 F]) 4 #[true, true, true, true, true, true, true, true, true, true, true, true, true, true, true, true, true, true, true, false, true, false, false, false]) [(2, (.pointer (some ⟨b3, 0, none⟩))), (3, (.pointer (some ⟨b5, 0, none⟩))), (4, (.int .i64 0)), (5, (.int .i64 0)), (20, (.agg #[(.int .i64 r16.xFrom), (.int .i64 r16.xTo), (.int .i64 r16.xPort), (.int .i64 r16.xProto)])), (21, (.int .i64 r25)), (37, (pEl v34 e38 1 0))] [cellCh b7 [(.slice a27 l28 q29), (.int .i64 r37)] 122, ownCh elInt 3 v34 ([r32, r25, (w64 (r25 + 1)), (-1)]), cellCh b20 [(.int .i64 r16.xFrom), (.int .i64 r16.xTo), (.int .i64 r16.xPort), (.int .i64 r16.xProto)] 40, cellCh b18 [(.slice a22 l23 q24), (.bool r13.xAccept)] 25, ownCh (elSl elGRule) 101 (.slice a22 l23 q24) r13.xChains, roCh elU8 (.slice a27 l28 q29) r9, cellCh b5 [(.int .i64 0), (.int .i64 0), (.int .i64 0), (.int .i64 0)] 40, cellCh b3 [(.slice a22 l23 q24), (.bool r13.xAccept)] 25, snapCh w0 F] (k31 e40) := by
      intro r32 r33 v34 v35 r36 r37 e38 h39 e40 h41
      refine d_two (i := 19) (j := 21) rfl rfl (by kernel_rfl) ?_ ?_
      · intro o ho; cases ho
        refine o_lds m_op (enc := encInt) (u := (.int .i64 e40)) 1 rfl reads_own flelInt rfl h41 rfl rfl ty3 rfl ?_
        refine d_and (fun w m => m.pick [2, 3, 4, 5, 8] rfl) ?_
        refine pk [0, 2, 3, 4, 5, 6, 7, 8] rfl ?_
        refine re (E' := [(2, (.pointer (some ⟨b3, 0, none⟩))), (3, (.pointer (some ⟨b5, 0, none⟩))), (4, (.int .i64 0)), (5, (.int .i64 0)), (20, (.agg #[(.int .i64 r16.xFrom), (.int .i64 r16.xTo), (.int .i64 r16.xPort), (.int .i64 r16.xProto)])), (21, (.int .i64 r25)), (38, (.int .i64 e40))]) ⟨rfl, rfl, rfl, rfl, rfl, rfl, rfl, trivial⟩ ?_
        exact H804 r32 r33 v34 v35 r36 r37 e38 h39 e40 h41
      · intro o ho; cases ho
        refine o_stc (cs' := [(.int .i64 r16.xFrom), (.int .i64 r16.xTo), (.int .i64 r16.xPort), (.int .i64 r16.xProto)]) 6 rfl rfl rfl ty40 rfl rfl rfl rfl ?_
        refine d_and (fun w m => m.pick [2, 3, 4, 5, 8] rfl) ?_
        refine pk [0, 1, 2, 3, 4, 5, 6, 7, 8] rfl ?_
        refine re (E' := [(2, (.pointer (some ⟨b3, 0, none⟩))), (3, (.pointer (some ⟨b5, 0, none⟩))), (4, (.int .i64 0)), (5, (.int .i64 0)), (21, (.int .i64 r25)), (37, (pEl v34 e38 1 0))]) ⟨rfl, rfl, rfl, rfl, rfl, rfl, trivial⟩ ?_
        exact H807 r32 r33 v34 v35 r36 r37 e38 h39 e40 h41
    have H809 : ∀ (r32 : Int) (r33 : Int) (v34 : Value) (v35 : Value) (r36 : Int) (r37 : Int) (e38 : Int) (h39 : ([0, 0, 0, 1, 2, 3])[(r36).toNat]? = some e38) (e40 : Int) (h41 : ([r32, r25, (w64 (r25 + 1)), (-1)])[(e38).toNat]? = some e40), Nx 39 (gB F [] w0) (feet []) w0 (wpAnyH Tryd.prog .any (opsAt Tryd.f21 [1, 1, 1, 1, 0]) Qd (Mem (gB F [] w0) (feet []) w0 [cellCh b20 [(.int .i64 r16.xFrom), (.int .i64 r16.xTo), (.int .i64 r16.xPort), (.int .i64 r16.xProto)] 40, cellCh b18 [(.slice a22 l23 q24), (.bool r13.xAccept)] 25, ownCh (elSl elGRule) 101 (.slice a22 l23 q24) r13.xChains, roCh elU8 (.slice a27 l28 q29) r9, snapCh w0 F]) 5 #[true, true, true, true, true, true, true, true, true, true, true, true, true, true, true, true, true, true, true, false, false, false, false, false]) [(2, (.pointer (some ⟨b3, 0, none⟩))), (3, (.pointer (some ⟨b5, 0, none⟩))), (4, (.int .i64 0)), (5, (.int .i64 0)), (19, (.agg #[(.slice a22 l23 q24), (.bool r13.xAccept)])), (20, (.agg #[(.int .i64 r16.xFrom), (.int .i64 r16.xTo), (.int .i64 r16.xPort), (.int .i64 r16.xProto)])), (21, (.int .i64 r25)), (37, (pEl v34 e38 1 0))] [cellCh b7 [(.slice a27 l28 q29), (.int .i64 r37)] 122, ownCh elInt 3 v34 ([r32, r25, (w64 (r25 + 1)), (-1)]), cellCh b20 [(.int .i64 r16.xFrom), (.int .i64 r16.xTo), (.int .i64 r16.xPort), (.int .i64 r16.xProto)] 40, cellCh b18 [(.slice a22 l23 q24), (.bool r13.xAccept)] 25, ownCh (elSl elGRule) 101 (.slice a22 l23 q24) r13.xChains, roCh elU8 (.slice a27 l28 q29) r9, cellCh b5 [(.int .i64 0), (.int .i64 0), (.int .i64 0), (.int .i64 0)] 40, cellCh b3 [(.slice none 0 0), (.bool false)] 25, snapCh w0 F] (k31 e40) := by
      intro r32 r33 v34 v35 r36 r37 e38 h39 e40 h41
      refine d_two (i := 19) (j := 20) rfl rfl (by kernel_rfl) ?_ ?_
      · intro o ho; cases ho
        refine o_lds m_op (enc := encInt) (u := (.int .i64 e40)) 1 rfl reads_own flelInt rfl h41 rfl rfl ty3 rfl ?_
        refine d_and (fun w m => m.pick [2, 3, 4, 5, 8] rfl) ?_
        refine pk [0, 2, 3, 4, 5, 6, 7, 8] rfl ?_
        refine re (E' := [(2, (.pointer (some ⟨b3, 0, none⟩))), (3, (.pointer (some ⟨b5, 0, none⟩))), (4, (.int .i64 0)), (5, (.int .i64 0)), (19, (.agg #[(.slice a22 l23 q24), (.bool r13.xAccept)])), (20, (.agg #[(.int .i64 r16.xFrom), (.int .i64 r16.xTo), (.int .i64 r16.xPort), (.int .i64 r16.xProto)])), (21, (.int .i64 r25)), (38, (.int .i64 e40))]) ⟨rfl, rfl, rfl, rfl, rfl, rfl, rfl, rfl, trivial⟩ ?_
        exact H805 r32 r33 v34 v35 r36 r37 e38 h39 e40 h41
      · intro o ho; cases ho
        refine o_stc (cs' := [(.slice a22 l23 q24), (.bool r13.xAccept)]) 7 rfl rfl rfl ty25 rfl rfl rfl rfl ?_
        refine d_and (fun w m => m.pick [2, 3, 4, 5, 8] rfl) ?_
        refine pk [0, 1, 2, 3, 4, 5, 6, 7, 8] rfl ?_
        refine re (E' := [(2, (.pointer (some ⟨b3, 0, none⟩))), (3, (.pointer (some ⟨b5, 0, none⟩))), (4, (.int .i64 0)), (5, (.int .i64 0)), (20, (.agg #[(.int .i64 r16.xFrom), (.int .i64 r16.xTo), (.int .i64 r16.xPort), (.int .i64 r16.xProto)])), (21, (.int .i64 r25)), (37, (pEl v34 e38 1 0))]) ⟨rfl, rfl, rfl, rfl, rfl, rfl, rfl, trivial⟩ ?_
        exact H808 r32 r33 v34 v35 r36 r37 e38 h39 e40 h41
    have H810 : ∀ (r32 : Int) (r33 : Int) (v34 : Value) (v35 : Value) (r36 : Int) (r37 : Int) (e38 : Int) (h39 : ([0, 0, 0, 1, 2, 3])[(r36).toNat]? = some e38) (e44 : Int) (h45 : ([r32, r25, (w64 (r25 + 1)), (-1)])[(e38).toNat]? = some e44), Nx 39 (gB F [] w0) (feet []) w0 (wpAnyH Tryd.prog .any (opsAt Tryd.f21 [1, 1, 1, 1, 0]) Qd (Mem (gB F [] w0) (feet []) w0 [cellCh b20 [(.int .i64 r16.xFrom), (.int .i64 r16.xTo), (.int .i64 r16.xPort), (.int .i64 r16.xProto)] 40, cellCh b18 [(.slice a22 l23 q24), (.bool r13.xAccept)] 25, ownCh (elSl elGRule) 101 (.slice a22 l23 q24) r13.xChains, roCh elU8 (.slice a27 l28 q29) r9, snapCh w0 F]) 2 #[true, true, true, true, true, true, true, true, true, true, true, true, true, true, true, true, true, true, true, false, true, true, true, false]) [(2, (.pointer (some ⟨b3, 0, none⟩))), (3, (.pointer (some ⟨b5, 0, none⟩))), (4, (.int .i64 r25)), (5, (.int .i64 0)), (37, (pEl v34 e38 1 0))] [cellCh b7 [(.slice a27 l28 q29), (.int .i64 r37)] 122, ownCh elInt 3 v34 ([r32, r25, (w64 (r25 + 1)), (-1)]), cellCh b20 [(.int .i64 r16.xFrom), (.int .i64 r16.xTo), (.int .i64 r16.xPort), (.int .i64 r16.xProto)] 40, cellCh b18 [(.slice a22 l23 q24), (.bool r13.xAccept)] 25, ownCh (elSl elGRule) 101 (.slice a22 l23 q24) r13.xChains, roCh elU8 (.slice a27 l28 q29) r9, cellCh b5 [(.int .i64 r16.xFrom), (.int .i64 r16.xTo), (.int .i64 r16.xPort), (.int .i64 r16.xProto)] 40, cellCh b3 [(.slice a22 l23 q24), (.bool r13.xAccept)] 25, snapCh w0 F] (k31 e44) := by
      intro r32 r33 v34 v35 r36 r37 e38 h39 e44 h45
      refine d_one (i := 19) rfl (by kernel_rfl) (o_lds m_op (enc := encInt) (u := (.int .i64 e44)) 1 rfl reads_own flelInt rfl h45 rfl rfl ty3 rfl ?_)
      refine d_and (fun w m => m.pick [2, 3, 4, 5, 8] rfl) ?_
      refine pk [0, 2, 3, 4, 5, 6, 7, 8] rfl ?_
      refine re (E' := [(2, (.pointer (some ⟨b3, 0, none⟩))), (3, (.pointer (some ⟨b5, 0, none⟩))), (4, (.int .i64 r25)), (5, (.int .i64 0)), (38, (.int .i64 e44))]) ⟨rfl, rfl, rfl, rfl, rfl, trivial⟩ ?_
      exact H806 r32 r33 v34 v35 r36 r37 e38 h39 e44 h45
    have H811 : ∀ (r32 : Int) (r33 : Int) (v34 : Value) (v35 : Value) (r36 : Int) (r37 : Int) (e38 : Int) (h39 : ([0, 0, 0, 1, 2, 3])[(r36).toNat]? = some e38), Nx 39 (gB F [] w0) (feet []) w0 (wpAnyH Tryd.prog .any (opsAt Tryd.f21 [1, 1, 1, 1, 0]) Qd (Mem (gB F [] w0) (feet []) w0 [cellCh b20 [(.int .i64 r16.xFrom), (.int .i64 r16.xTo), (.int .i64 r16.xPort), (.int .i64 r16.xProto)] 40, cellCh b18 [(.slice a22 l23 q24), (.bool r13.xAccept)] 25, ownCh (elSl elGRule) 101 (.slice a22 l23 q24) r13.xChains, roCh elU8 (.slice a27 l28 q29) r9, snapCh w0 F]) 4 #[true, true, true, true, true, true, true, true, true, true, true, true, true, true, true, true, true, true, false, false, true, true, false, false]) [(2, (.pointer (some ⟨b3, 0, none⟩))), (3, (.pointer (some ⟨b5, 0, none⟩))), (4, (.int .i64 0)), (5, (.int .i64 0)), (21, (.int .i64 r25)), (31, v34), (36, (.int .i64 e38))] [cellCh b7 [(.slice a27 l28 q29), (.int .i64 r37)] 122, ownCh elInt 3 v34 ([r32, r25, (w64 (r25 + 1)), (-1)]), cellCh b20 [(.int .i64 r16.xFrom), (.int .i64 r16.xTo), (.int .i64 r16.xPort), (.int .i64 r16.xProto)] 40, cellCh b18 [(.slice a22 l23 q24), (.bool r13.xAccept)] 25, ownCh (elSl elGRule) 101 (.slice a22 l23 q24) r13.xChains, roCh elU8 (.slice a27 l28 q29) r9, cellCh b5 [(.int .i64 r16.xFrom), (.int .i64 r16.xTo), (.int .i64 r16.xPort), (.int .i64 r16.xProto)] 40, cellCh b3 [(.slice a22 l23 q24), (.bool r13.xAccept)] 25, snapCh w0 F] (idxW ([r32, r25, (w64 (r25 + 1)), (-1)]) e38 (fun e44 => k31 e44)) := by
      intro r32 r33 v34 v35 r36 r37 e38 h39
      refine o_as (dt 22 (fun w m => m.pick [2, 3, 4, 5, 8] rfl)) rfl rfl ?_
      refine d_one (i := 18) rfl (by kernel_rfl) (o_idx m_op 1 rfl reads_own rfl rfl rfl el99 ?_); intro e44 h45
      refine d_and (fun w m => m.pick [2, 3, 4, 5, 8] rfl) ?_
      refine pk [0, 1, 2, 3, 4, 5, 6, 7, 8] rfl ?_
      refine re (E' := [(2, (.pointer (some ⟨b3, 0, none⟩))), (3, (.pointer (some ⟨b5, 0, none⟩))), (4, (.int .i64 r25)), (5, (.int .i64 0)), (37, (pEl v34 e38 1 0))]) ⟨rfl, rfl, rfl, rfl, rfl, trivial⟩ ?_
      exact H810 r32 r33 v34 v35 r36 r37 e38 h39 e44 h45
    have H812 : ∀ (r32 : Int) (r33 : Int) (v34 : Value) (v35 : Value) (r36 : Int) (r37 : Int) (e38 : Int) (h39 : ([0, 0, 0, 1, 2, 3])[(r36).toNat]? = some e38), Nx 39 (gB F [] w0) (feet []) w0 (wpAnyH Tryd.prog .any (opsAt Tryd.f21 [1, 1, 1, 1, 0]) Qd (Mem (gB F [] w0) (feet []) w0 [cellCh b20 [(.int .i64 r16.xFrom), (.int .i64 r16.xTo), (.int .i64 r16.xPort), (.int .i64 r16.xProto)] 40, cellCh b18 [(.slice a22 l23 q24), (.bool r13.xAccept)] 25, ownCh (elSl elGRule) 101 (.slice a22 l23 q24) r13.xChains, roCh elU8 (.slice a27 l28 q29) r9, snapCh w0 F]) 5 #[true, true, true, true, true, true, true, true, true, true, true, true, true, true, true, true, true, true, false, false, true, false, false, false]) [(2, (.pointer (some ⟨b3, 0, none⟩))), (3, (.pointer (some ⟨b5, 0, none⟩))), (4, (.int .i64 0)), (5, (.int .i64 0)), (20, (.agg #[(.int .i64 r16.xFrom), (.int .i64 r16.xTo), (.int .i64 r16.xPort), (.int .i64 r16.xProto)])), (21, (.int .i64 r25)), (31, v34), (36, (.int .i64 e38))] [cellCh b7 [(.slice a27 l28 q29), (.int .i64 r37)] 122, ownCh elInt 3 v34 ([r32, r25, (w64 (r25 + 1)), (-1)]), cellCh b20 [(.int .i64 r16.xFrom), (.int .i64 r16.xTo), (.int .i64 r16.xPort), (.int .i64 r16.xProto)] 40, cellCh b18 [(.slice a22 l23 q24), (.bool r13.xAccept)] 25, ownCh (elSl elGRule) 101 (.slice a22 l23 q24) r13.xChains, roCh elU8 (.slice a27 l28 q29) r9, cellCh b5 [(.int .i64 0), (.int .i64 0), (.int .i64 0), (.int .i64 0)] 40, cellCh b3 [(.slice a22 l23 q24), (.bool r13.xAccept)] 25, snapCh w0 F] (idxW ([r32, r25, (w64 (r25 + 1)), (-1)]) e38 (fun e42 => k31 e42)) := by
      intro r32 r33 v34 v35 r36 r37 e38 h39
      refine d_two (i := 18) (j := 21) rfl rfl (by kernel_rfl) ?_ ?_
      · intro o ho; cases ho
        refine o_idx m_op 1 rfl reads_own rfl rfl rfl el99 ?_; intro e42 h43
        refine d_and (fun w m => m.pick [2, 3, 4, 5, 8] rfl) ?_
        refine pk [0, 1, 2, 3, 4, 5, 6, 7, 8] rfl ?_
        refine re (E' := [(2, (.pointer (some ⟨b3, 0, none⟩))), (3, (.pointer (some ⟨b5, 0, none⟩))), (4, (.int .i64 0)), (5, (.int .i64 0)), (20, (.agg #[(.int .i64 r16.xFrom), (.int .i64 r16.xTo), (.int .i64 r16.xPort), (.int .i64 r16.xProto)])), (21, (.int .i64 r25)), (37, (pEl v34 e38 1 0))]) ⟨rfl, rfl, rfl, rfl, rfl, rfl, rfl, trivial⟩ ?_
        exact H808 r32 r33 v34 v35 r36 r37 e38 h39 e42 h43
      · intro o ho; cases ho
        refine o_stc (cs' := [(.int .i64 r16.xFrom), (.int .i64 r16.xTo), (.int .i64 r16.xPort), (.int .i64 r16.xProto)]) 6 rfl rfl rfl ty40 rfl rfl rfl rfl ?_
        refine d_and (fun w m => m.pick [2, 3, 4, 5, 8] rfl) ?_
        refine pk [0, 1, 2, 3, 4, 5, 6, 7, 8] rfl ?_
        refine re (E' := [(2, (.pointer (some ⟨b3, 0, none⟩))), (3, (.pointer (some ⟨b5, 0, none⟩))), (4, (.int .i64 0)), (5, (.int .i64 0)), (21, (.int .i64 r25)), (31, v34), (36, (.int .i64 e38))]) ⟨rfl, rfl, rfl, rfl, rfl, rfl, rfl, trivial⟩ ?_
        exact H811 r32 r33 v34 v35 r36 r37 e38 h39
    have H813 : ∀ (r32 : Int) (r33 : Int) (v34 : Value) (v35 : Value) (r36 : Int) (r37 : Int) (e38 : Int) (h39 : ([0, 0, 0, 1, 2, 3])[(r36).toNat]? = some e38), Nx 39 (gB F [] w0) (feet []) w0 (wpAnyH Tryd.prog .any (opsAt Tryd.f21 [1, 1, 1, 1, 0]) Qd (Mem (gB F [] w0) (feet []) w0 [cellCh b20 [(.int .i64 r16.xFrom), (.int .i64 r16.xTo), (.int .i64 r16.xPort), (.int .i64 r16.xProto)] 40, cellCh b18 [(.slice a22 l23 q24), (.bool r13.xAccept)] 25, ownCh (elSl elGRule) 101 (.slice a22 l23 q24) r13.xChains, roCh elU8 (.slice a27 l28 q29) r9, snapCh w0 F]) 6 #[true, true, true, true, true, true, true, true, true, true, true, true, true, true, true, true, true, true, false, false, false, false, false, false]) [(2, (.pointer (some ⟨b3, 0, none⟩))), (3, (.pointer (some ⟨b5, 0, none⟩))), (4, (.int .i64 0)), (5, (.int .i64 0)), (19, (.agg #[(.slice a22 l23 q24), (.bool r13.xAccept)])), (20, (.agg #[(.int .i64 r16.xFrom), (.int .i64 r16.xTo), (.int .i64 r16.xPort), (.int .i64 r16.xProto)])), (21, (.int .i64 r25)), (31, v34), (36, (.int .i64 e38))] [cellCh b7 [(.slice a27 l28 q29), (.int .i64 r37)] 122, ownCh elInt 3 v34 ([r32, r25, (w64 (r25 + 1)), (-1)]), cellCh b20 [(.int .i64 r16.xFrom), (.int .i64 r16.xTo), (.int .i64 r16.xPort), (.int .i64 r16.xProto)] 40, cellCh b18 [(.slice a22 l23 q24), (.bool r13.xAccept)] 25, ownCh (elSl elGRule) 101 (.slice a22 l23 q24) r13.xChains, roCh elU8 (.slice a27 l28 q29) r9, cellCh b5 [(.int .i64 0), (.int .i64 0), (.int .i64 0), (.int .i64 0)] 40, cellCh b3 [(.slice none 0 0), (.bool false)] 25, snapCh w0 F] (idxW ([r32, r25, (w64 (r25 + 1)), (-1)]) e38 (fun e40 => k31 e40)) := by
      intro r32 r33 v34 v35 r36 r37 e38 h39
      refine d_two (i := 18) (j := 20) rfl rfl (by kernel_rfl) ?_ ?_
      · intro o ho; cases ho
        refine o_idx m_op 1 rfl reads_own rfl rfl rfl el99 ?_; intro e40 h41
        refine d_and (fun w m => m.pick [2, 3, 4, 5, 8] rfl) ?_
        refine pk [0, 1, 2, 3, 4, 5, 6, 7, 8] rfl ?_
        refine re (E' := [(2, (.pointer (some ⟨b3, 0, none⟩))), (3, (.pointer (some ⟨b5, 0, none⟩))), (4, (.int .i64 0)), (5, (.int .i64 0)), (19, (.agg #[(.slice a22 l23 q24), (.bool r13.xAccept)])), (20, (.agg #[(.int .i64 r16.xFrom), (.int .i64 r16.xTo), (.int .i64 r16.xPort), (.int .i64 r16.xProto)])), (21, (.int .i64 r25)), (37, (pEl v34 e38 1 0))]) ⟨rfl, rfl, rfl, rfl, rfl, rfl, rfl, rfl, trivial⟩ ?_
        exact H809 r32 r33 v34 v35 r36 r37 e38 h39 e40 h41
      · intro o ho; cases ho
        refine o_stc (cs' := [(.slice a22 l23 q24), (.bool r13.xAccept)]) 7 rfl rfl rfl ty25 rfl rfl rfl rfl ?_
        refine d_and (fun w m => m.pick [2, 3, 4, 5, 8] rfl) ?_
        refine pk [0, 1, 2, 3, 4, 5, 6, 7, 8] rfl ?_
        refine re (E' := [(2, (.pointer (some ⟨b3, 0, none⟩))), (3, (.pointer (some ⟨b5, 0, none⟩))), (4, (.int .i64 0)), (5, (.int .i64 0)), (20, (.agg #[(.int .i64 r16.xFrom), (.int .i64 r16.xTo), (.int .i64 r16.xPort), (.int .i64 r16.xProto)])), (21, (.int .i64 r25)), (31, v34), (36, (.int .i64 e38))]) ⟨rfl, rfl, rfl, rfl, rfl, rfl, rfl, rfl, trivial⟩ ?_
        exact H812 r32 r33 v34 v35 r36 r37 e38 h39
    have H814 : ∀ (r32 : Int) (r33 : Int) (v34 : Value) (v35 : Value) (r36 : Int) (r37 : Int) (e38 : Int) (h39 : ([0, 0, 0, 1, 2, 3])[(r36).toNat]? = some e38), Nx 39 (gB F [] w0) (feet []) w0 (wpAnyH Tryd.prog .any (opsAt Tryd.f21 [1, 1, 1, 1, 0]) Qd (Mem (gB F [] w0) (feet []) w0 [cellCh b20 [(.int .i64 r16.xFrom), (.int .i64 r16.xTo), (.int .i64 r16.xPort), (.int .i64 r16.xProto)] 40, cellCh b18 [(.slice a22 l23 q24), (.bool r13.xAccept)] 25, ownCh (elSl elGRule) 101 (.slice a22 l23 q24) r13.xChains, roCh elU8 (.slice a27 l28 q29) r9, snapCh w0 F]) 3 #[true, true, true, true, true, true, true, true, true, true, true, true, true, true, true, true, true, true, false, false, true, true, true, false]) [(2, (.pointer (some ⟨b3, 0, none⟩))), (3, (.pointer (some ⟨b5, 0, none⟩))), (4, (.int .i64 r25)), (5, (.int .i64 0)), (31, v34), (36, (.int .i64 e38))] [cellCh b7 [(.slice a27 l28 q29), (.int .i64 r37)] 122, ownCh elInt 3 v34 ([r32, r25, (w64 (r25 + 1)), (-1)]), cellCh b20 [(.int .i64 r16.xFrom), (.int .i64 r16.xTo), (.int .i64 r16.xPort), (.int .i64 r16.xProto)] 40, cellCh b18 [(.slice a22 l23 q24), (.bool r13.xAccept)] 25, ownCh (elSl elGRule) 101 (.slice a22 l23 q24) r13.xChains, roCh elU8 (.slice a27 l28 q29) r9, cellCh b5 [(.int .i64 r16.xFrom), (.int .i64 r16.xTo), (.int .i64 r16.xPort), (.int .i64 r16.xProto)] 40, cellCh b3 [(.slice a22 l23 q24), (.bool r13.xAccept)] 25, snapCh w0 F] (idxW ([r32, r25, (w64 (r25 + 1)), (-1)]) e38 (fun e46 => k31 e46)) := by
      intro r32 r33 v34 v35 r36 r37 e38 h39
      refine d_one (i := 18) rfl (by kernel_rfl) (o_idx m_op 1 rfl reads_own rfl rfl rfl el99 ?_); intro e46 h47
      refine d_and (fun w m => m.pick [2, 3, 4, 5, 8] rfl) ?_
      refine pk [0, 1, 2, 3, 4, 5, 6, 7, 8] rfl ?_
      refine re (E' := [(2, (.pointer (some ⟨b3, 0, none⟩))), (3, (.pointer (some ⟨b5, 0, none⟩))), (4, (.int .i64 r25)), (5, (.int .i64 0)), (37, (pEl v34 e38 1 0))]) ⟨rfl, rfl, rfl, rfl, rfl, trivial⟩ ?_
      exact H810 r32 r33 v34 v35 r36 r37 e38 h39 e46 h47
    have H815 : ∀ (r32 : Int) (r33 : Int) (v34 : Value) (v35 : Value) (r36 : Int) (r37 : Int) (e38 : Int) (h39 : ([0, 0, 0, 1, 2, 3])[(r36).toNat]? = some e38), Nx 39 (gB F [] w0) (feet []) w0 (wpAnyH Tryd.prog .any (opsAt Tryd.f21 [1, 1, 1, 1, 0]) Qd (Mem (gB F [] w0) (feet []) w0 [cellCh b20 [(.int .i64 r16.xFrom), (.int .i64 r16.xTo), (.int .i64 r16.xPort), (.int .i64 r16.xProto)] 40, cellCh b18 [(.slice a22 l23 q24), (.bool r13.xAccept)] 25, ownCh (elSl elGRule) 101 (.slice a22 l23 q24) r13.xChains, roCh elU8 (.slice a27 l28 q29) r9, snapCh w0 F]) 5 #[true, true, true, true, true, true, true, true, true, true, true, true, true, true, true, true, true, false, false, false, true, true, false, false]) [(2, (.pointer (some ⟨b3, 0, none⟩))), (3, (.pointer (some ⟨b5, 0, none⟩))), (4, (.int .i64 0)), (5, (.int .i64 0)), (21, (.int .i64 r25)), (31, v34), (35, (pEl v35 r36 1 0))] [cellCh b7 [(.slice a27 l28 q29), (.int .i64 r37)] 122, ownCh elInt 3 v35 ([0, 0, 0, 1, 2, 3]), ownCh elInt 3 v34 ([r32, r25, (w64 (r25 + 1)), (-1)]), cellCh b20 [(.int .i64 r16.xFrom), (.int .i64 r16.xTo), (.int .i64 r16.xPort), (.int .i64 r16.xProto)] 40, cellCh b18 [(.slice a22 l23 q24), (.bool r13.xAccept)] 25, ownCh (elSl elGRule) 101 (.slice a22 l23 q24) r13.xChains, roCh elU8 (.slice a27 l28 q29) r9, cellCh b5 [(.int .i64 r16.xFrom), (.int .i64 r16.xTo), (.int .i64 r16.xPort), (.int .i64 r16.xProto)] 40, cellCh b3 [(.slice a22 l23 q24), (.bool r13.xAccept)] 25, snapCh w0 F] (idxW ([r32, r25, (w64 (r25 + 1)), (-1)]) e38 (fun e46 => k31 e46)) := by
      intro r32 r33 v34 v35 r36 r37 e38 h39
      refine o_as (dt 22 (fun w m => m.pick [3, 4, 5, 6, 9] rfl)) rfl rfl ?_
      refine d_one (i := 17) rfl (by kernel_rfl) (o_lds m_op (enc := encInt) (u := (.int .i64 e38)) 1 rfl reads_own flelInt rfl h39 rfl rfl ty3 rfl ?_)
      refine d_and (fun w m => m.pick [3, 4, 5, 6, 9] rfl) ?_
      refine pk [0, 2, 3, 4, 5, 6, 7, 8, 9] rfl ?_
      refine re (E' := [(2, (.pointer (some ⟨b3, 0, none⟩))), (3, (.pointer (some ⟨b5, 0, none⟩))), (4, (.int .i64 r25)), (5, (.int .i64 0)), (31, v34), (36, (.int .i64 e38))]) ⟨rfl, rfl, rfl, rfl, rfl, rfl, trivial⟩ ?_
      exact H814 r32 r33 v34 v35 r36 r37 e38 h39
    have H816 : ∀ (r32 : Int) (r33 : Int) (v34 : Value) (v35 : Value) (r36 : Int) (r37 : Int) (e38 : Int) (h39 : ([0, 0, 0, 1, 2, 3])[(r36).toNat]? = some e38), Nx 39 (gB F [] w0) (feet []) w0 (wpAnyH Tryd.prog .any (opsAt Tryd.f21 [1, 1, 1, 1, 0]) Qd (Mem (gB F [] w0) (feet []) w0 [cellCh b20 [(.int .i64 r16.xFrom), (.int .i64 r16.xTo), (.int .i64 r16.xPort), (.int .i64 r16.xProto)] 40, cellCh b18 [(.slice a22 l23 q24), (.bool r13.xAccept)] 25, ownCh (elSl elGRule) 101 (.slice a22 l23 q24) r13.xChains, roCh elU8 (.slice a27 l28 q29) r9, snapCh w0 F]) 6 #[true, true, true, true, true, true, true, true, true, true, true, true, true, true, true, true, true, false, false, false, true, false, false, false]) [(2, (.pointer (some ⟨b3, 0, none⟩))), (3, (.pointer (some ⟨b5, 0, none⟩))), (4, (.int .i64 0)), (5, (.int .i64 0)), (20, (.agg #[(.int .i64 r16.xFrom), (.int .i64 r16.xTo), (.int .i64 r16.xPort), (.int .i64 r16.xProto)])), (21, (.int .i64 r25)), (31, v34), (35, (pEl v35 r36 1 0))] [cellCh b7 [(.slice a27 l28 q29), (.int .i64 r37)] 122, ownCh elInt 3 v35 ([0, 0, 0, 1, 2, 3]), ownCh elInt 3 v34 ([r32, r25, (w64 (r25 + 1)), (-1)]), cellCh b20 [(.int .i64 r16.xFrom), (.int .i64 r16.xTo), (.int .i64 r16.xPort), (.int .i64 r16.xProto)] 40, cellCh b18 [(.slice a22 l23 q24), (.bool r13.xAccept)] 25, ownCh (elSl elGRule) 101 (.slice a22 l23 q24) r13.xChains, roCh elU8 (.slice a27 l28 q29) r9, cellCh b5 [(.int .i64 0), (.int .i64 0), (.int .i64 0), (.int .i64 0)] 40, cellCh b3 [(.slice a22 l23 q24), (.bool r13.xAccept)] 25, snapCh w0 F] (idxW ([r32, r25, (w64 (r25 + 1)), (-1)]) e38 (fun e42 => k31 e42)) := by
      intro r32 r33 v34 v35 r36 r37 e38 h39
      refine d_two (i := 17) (j := 21) rfl rfl (by kernel_rfl) ?_ ?_
      · intro o ho; cases ho
        refine o_lds m_op (enc := encInt) (u := (.int .i64 e38)) 1 rfl reads_own flelInt rfl h39 rfl rfl ty3 rfl ?_
        refine d_and (fun w m => m.pick [3, 4, 5, 6, 9] rfl) ?_
        refine pk [0, 2, 3, 4, 5, 6, 7, 8, 9] rfl ?_
        refine re (E' := [(2, (.pointer (some ⟨b3, 0, none⟩))), (3, (.pointer (some ⟨b5, 0, none⟩))), (4, (.int .i64 0)), (5, (.int .i64 0)), (20, (.agg #[(.int .i64 r16.xFrom), (.int .i64 r16.xTo), (.int .i64 r16.xPort), (.int .i64 r16.xProto)])), (21, (.int .i64 r25)), (31, v34), (36, (.int .i64 e38))]) ⟨rfl, rfl, rfl, rfl, rfl, rfl, rfl, rfl, trivial⟩ ?_
        exact H812 r32 r33 v34 v35 r36 r37 e38 h39
      · intro o ho; cases ho
        refine o_stc (cs' := [(.int .i64 r16.xFrom), (.int .i64 r16.xTo), (.int .i64 r16.xPort), (.int .i64 r16.xProto)]) 7 rfl rfl rfl ty40 rfl rfl rfl rfl ?_
        refine d_and (fun w m => m.pick [3, 4, 5, 6, 9] rfl) ?_
        refine pk [0, 1, 2, 3, 4, 5, 6, 7, 8, 9] rfl ?_
        refine re (E' := [(2, (.pointer (some ⟨b3, 0, none⟩))), (3, (.pointer (some ⟨b5, 0, none⟩))), (4, (.int .i64 0)), (5, (.int .i64 0)), (21, (.int .i64 r25)), (31, v34), (35, (pEl v35 r36 1 0))]) ⟨rfl, rfl, rfl, rfl, rfl, rfl, rfl, trivial⟩ ?_
        exact H815 r32 r33 v34 v35 r36 r37 e38 h39
    have H817 : ∀ (r32 : Int) (r33 : Int) (v34 : Value) (v35 : Value) (r36 : Int) (r37 : Int) (e38 : Int) (h39 : ([0, 0, 0, 1, 2, 3])[(r36).toNat]? = some e38), Nx 39 (gB F [] w0) (feet []) w0 (wpAnyH Tryd.prog .any (opsAt Tryd.f21 [1, 1, 1, 1, 0]) Qd (Mem (gB F [] w0) (feet []) w0 [cellCh b20 [(.int .i64 r16.xFrom), (.int .i64 r16.xTo), (.int .i64 r16.xPort), (.int .i64 r16.xProto)] 40, cellCh b18 [(.slice a22 l23 q24), (.bool r13.xAccept)] 25, ownCh (elSl elGRule) 101 (.slice a22 l23 q24) r13.xChains, roCh elU8 (.slice a27 l28 q29) r9, snapCh w0 F]) 7 #[true, true, true, true, true, true, true, true, true, true, true, true, true, true, true, true, true, false, false, false, false, false, false, false]) [(2, (.pointer (some ⟨b3, 0, none⟩))), (3, (.pointer (some ⟨b5, 0, none⟩))), (4, (.int .i64 0)), (5, (.int .i64 0)), (19, (.agg #[(.slice a22 l23 q24), (.bool r13.xAccept)])), (20, (.agg #[(.int .i64 r16.xFrom), (.int .i64 r16.xTo), (.int .i64 r16.xPort), (.int .i64 r16.xProto)])), (21, (.int .i64 r25)), (31, v34), (35, (pEl v35 r36 1 0))] [cellCh b7 [(.slice a27 l28 q29), (.int .i64 r37)] 122, ownCh elInt 3 v35 ([0, 0, 0, 1, 2, 3]), ownCh elInt 3 v34 ([r32, r25, (w64 (r25 + 1)), (-1)]), cellCh b20 [(.int .i64 r16.xFrom), (.int .i64 r16.xTo), (.int .i64 r16.xPort), (.int .i64 r16.xProto)] 40, cellCh b18 [(.slice a22 l23 q24), (.bool r13.xAccept)] 25, ownCh (elSl elGRule) 101 (.slice a22 l23 q24) r13.xChains, roCh elU8 (.slice a27 l28 q29) r9, cellCh b5 [(.int .i64 0), (.int .i64 0), (.int .i64 0), (.int .i64 0)] 40, cellCh b3 [(.slice none 0 0), (.bool false)] 25, snapCh w0 F] (idxW ([r32, r25, (w64 (r25 + 1)), (-1)]) e38 (fun e40 => k31 e40)) := by
      intro r32 r33 v34 v35 r36 r37 e38 h39
      refine d_two (i := 17) (j := 20) rfl rfl (by kernel_rfl) ?_ ?_
      · intro o ho; cases ho
        refine o_lds m_op (enc := encInt) (u := (.int .i64 e38)) 1 rfl reads_own flelInt rfl h39 rfl rfl ty3 rfl ?_
        refine d_and (fun w m => m.pick [3, 4, 5, 6, 9] rfl) ?_
        refine pk [0, 2, 3, 4, 5, 6, 7, 8, 9] rfl ?_
        refine re (E' := [(2, (.pointer (some ⟨b3, 0, none⟩))), (3, (.pointer (some ⟨b5, 0, none⟩))), (4, (.int .i64 0)), (5, (.int .i64 0)), (19, (.agg #[(.slice a22 l23 q24), (.bool r13.xAccept)])), (20, (.agg #[(.int .i64 r16.xFrom), (.int .i64 r16.xTo), (.int .i64 r16.xPort), (.int .i64 r16.xProto)])), (21, (.int .i64 r25)), (31, v34), (36, (.int .i64 e38))]) ⟨rfl, rfl, rfl, rfl, rfl, rfl, rfl, rfl, rfl, trivial⟩ ?_
        exact H813 r32 r33 v34 v35 r36 r37 e38 h39
      · intro o ho; cases ho
        refine o_stc (cs' := [(.slice a22 l23 q24), (.bool r13.xAccept)]) 8 rfl rfl rfl ty25 rfl rfl rfl rfl ?_
        refine d_and (fun w m => m.pick [3, 4, 5, 6, 9] rfl) ?_
        refine pk [0, 1, 2, 3, 4, 5, 6, 7, 8, 9] rfl ?_
        refine re (E' := [(2, (.pointer (some ⟨b3, 0, none⟩))), (3, (.pointer (some ⟨b5, 0, none⟩))), (4, (.int .i64 0)), (5, (.int .i64 0)), (20, (.agg #[(.int .i64 r16.xFrom), (.int .i64 r16.xTo), (.int .i64 r16.xPort), (.int .i64 r16.xProto)])), (21, (.int .i64 r25)), (31, v34), (35, (pEl v35 r36 1 0))]) ⟨rfl, rfl, rfl, rfl, rfl, rfl, rfl, rfl, trivial⟩ ?_
        exact H816 r32 r33 v34 v35 r36 r37 e38 h39
    have H818 : ∀ (r32 : Int) (r33 : Int) (v34 : Value) (v35 : Value) (r36 : Int) (r37 : Int) (e50 : Int) (h51 : ([0, 0, 0, 1, 2, 3])[(r36).toNat]? = some e50), Nx 39 (gB F [] w0) (feet []) w0 (wpAnyH Tryd.prog .any (opsAt Tryd.f21 [1, 1, 1, 1, 0]) Qd (Mem (gB F [] w0) (feet []) w0 [cellCh b20 [(.int .i64 r16.xFrom), (.int .i64 r16.xTo), (.int .i64 r16.xPort), (.int .i64 r16.xProto)] 40, cellCh b18 [(.slice a22 l23 q24), (.bool r13.xAccept)] 25, ownCh (elSl elGRule) 101 (.slice a22 l23 q24) r13.xChains, roCh elU8 (.slice a27 l28 q29) r9, snapCh w0 F]) 4 #[true, true, true, true, true, true, true, true, true, true, true, true, true, true, true, true, true, false, false, false, true, true, true, false]) [(2, (.pointer (some ⟨b3, 0, none⟩))), (3, (.pointer (some ⟨b5, 0, none⟩))), (4, (.int .i64 r25)), (5, (.int .i64 0)), (31, v34), (35, (pEl v35 r36 1 0))] [cellCh b7 [(.slice a27 l28 q29), (.int .i64 r37)] 122, ownCh elInt 3 v35 ([0, 0, 0, 1, 2, 3]), ownCh elInt 3 v34 ([r32, r25, (w64 (r25 + 1)), (-1)]), cellCh b20 [(.int .i64 r16.xFrom), (.int .i64 r16.xTo), (.int .i64 r16.xPort), (.int .i64 r16.xProto)] 40, cellCh b18 [(.slice a22 l23 q24), (.bool r13.xAccept)] 25, ownCh (elSl elGRule) 101 (.slice a22 l23 q24) r13.xChains, roCh elU8 (.slice a27 l28 q29) r9, cellCh b5 [(.int .i64 r16.xFrom), (.int .i64 r16.xTo), (.int .i64 r16.xPort), (.int .i64 r16.xProto)] 40, cellCh b3 [(.slice a22 l23 q24), (.bool r13.xAccept)] 25, snapCh w0 F] (idxW ([r32, r25, (w64 (r25 + 1)), (-1)]) e50 (fun e46 => k31 e46)) := by
      intro r32 r33 v34 v35 r36 r37 e50 h51
      refine d_one (i := 17) rfl (by kernel_rfl) (o_lds m_op (enc := encInt) (u := (.int .i64 e50)) 1 rfl reads_own flelInt rfl h51 rfl rfl ty3 rfl ?_)
      refine d_and (fun w m => m.pick [3, 4, 5, 6, 9] rfl) ?_
      refine pk [0, 2, 3, 4, 5, 6, 7, 8, 9] rfl ?_
      refine re (E' := [(2, (.pointer (some ⟨b3, 0, none⟩))), (3, (.pointer (some ⟨b5, 0, none⟩))), (4, (.int .i64 r25)), (5, (.int .i64 0)), (31, v34), (36, (.int .i64 e50))]) ⟨rfl, rfl, rfl, rfl, rfl, rfl, trivial⟩ ?_
      exact H814 r32 r33 v34 v35 r36 r37 e50 h51
    have H819 : ∀ (r32 : Int) (r33 : Int) (v34 : Value) (v35 : Value) (r36 : Int) (r37 : Int), Nx 39 (gB F [] w0) (feet []) w0 (wpAnyH Tryd.prog .any (opsAt Tryd.f21 [1, 1, 1, 1, 0]) Qd (Mem (gB F [] w0) (feet []) w0 [cellCh b20 [(.int .i64 r16.xFrom), (.int .i64 r16.xTo), (.int .i64 r16.xPort), (.int .i64 r16.xProto)] 40, cellCh b18 [(.slice a22 l23 q24), (.bool r13.xAccept)] 25, ownCh (elSl elGRule) 101 (.slice a22 l23 q24) r13.xChains, roCh elU8 (.slice a27 l28 q29) r9, snapCh w0 F]) 6 #[true, true, true, true, true, true, true, true, true, true, true, true, true, true, true, true, false, false, false, false, true, true, false, false]) [(2, (.pointer (some ⟨b3, 0, none⟩))), (3, (.pointer (some ⟨b5, 0, none⟩))), (4, (.int .i64 0)), (5, (.int .i64 0)), (21, (.int .i64 r25)), (31, v34), (32, v35), (34, (.int .i64 r36))] [cellCh b7 [(.slice a27 l28 q29), (.int .i64 r37)] 122, ownCh elInt 3 v35 ([0, 0, 0, 1, 2, 3]), ownCh elInt 3 v34 ([r32, r25, (w64 (r25 + 1)), (-1)]), cellCh b20 [(.int .i64 r16.xFrom), (.int .i64 r16.xTo), (.int .i64 r16.xPort), (.int .i64 r16.xProto)] 40, cellCh b18 [(.slice a22 l23 q24), (.bool r13.xAccept)] 25, ownCh (elSl elGRule) 101 (.slice a22 l23 q24) r13.xChains, roCh elU8 (.slice a27 l28 q29) r9, cellCh b5 [(.int .i64 r16.xFrom), (.int .i64 r16.xTo), (.int .i64 r16.xPort), (.int .i64 r16.xProto)] 40, cellCh b3 [(.slice a22 l23 q24), (.bool r13.xAccept)] 25, snapCh w0 F] (idxW ([0, 0, 0, 1, 2, 3]) r36 (fun e50 => idxW ([r32, r25, (w64 (r25 + 1)), (-1)]) e50 (fun e46 => k31 e46))) := by
      intro r32 r33 v34 v35 r36 r37
      refine o_as (dt 22 (fun w m => m.pick [3, 4, 5, 6, 9] rfl)) rfl rfl ?_
      refine d_one (i := 16) rfl (by kernel_rfl) (o_idx m_op 1 rfl reads_own rfl rfl rfl el99 ?_); intro e50 h51
      refine d_and (fun w m => m.pick [3, 4, 5, 6, 9] rfl) ?_
      refine pk [0, 1, 2, 3, 4, 5, 6, 7, 8, 9] rfl ?_
      refine re (E' := [(2, (.pointer (some ⟨b3, 0, none⟩))), (3, (.pointer (some ⟨b5, 0, none⟩))), (4, (.int .i64 r25)), (5, (.int .i64 0)), (31, v34), (35, (pEl v35 r36 1 0))]) ⟨rfl, rfl, rfl, rfl, rfl, rfl, trivial⟩ ?_
      exact H818 r32 r33 v34 v35 r36 r37 e50 h51
    have H820 : ∀ (r32 : Int) (r33 : Int) (v34 : Value) (v35 : Value) (r36 : Int) (r37 : Int), Nx 39 (gB F [] w0) (feet []) w0 (wpAnyH Tryd.prog .any (opsAt Tryd.f21 [1, 1, 1, 1, 0]) Qd (Mem (gB F [] w0) (feet []) w0 [cellCh b20 [(.int .i64 r16.xFrom), (.int .i64 r16.xTo), (.int .i64 r16.xPort), (.int .i64 r16.xProto)] 40, cellCh b18 [(.slice a22 l23 q24), (.bool r13.xAccept)] 25, ownCh (elSl elGRule) 101 (.slice a22 l23 q24) r13.xChains, roCh elU8 (.slice a27 l28 q29) r9, snapCh w0 F]) 7 #[true, true, true, true, true, true, true, true, true, true, true, true, true, true, true, true, false, false, false, false, true, false, false, false]) [(2, (.pointer (some ⟨b3, 0, none⟩))), (3, (.pointer (some ⟨b5, 0, none⟩))), (4, (.int .i64 0)), (5, (.int .i64 0)), (20, (.agg #[(.int .i64 r16.xFrom), (.int .i64 r16.xTo), (.int .i64 r16.xPort), (.int .i64 r16.xProto)])), (21, (.int .i64 r25)), (31, v34), (32, v35), (34, (.int .i64 r36))] [cellCh b7 [(.slice a27 l28 q29), (.int .i64 r37)] 122, ownCh elInt 3 v35 ([0, 0, 0, 1, 2, 3]), ownCh elInt 3 v34 ([r32, r25, (w64 (r25 + 1)), (-1)]), cellCh b20 [(.int .i64 r16.xFrom), (.int .i64 r16.xTo), (.int .i64 r16.xPort), (.int .i64 r16.xProto)] 40, cellCh b18 [(.slice a22 l23 q24), (.bool r13.xAccept)] 25, ownCh (elSl elGRule) 101 (.slice a22 l23 q24) r13.xChains, roCh elU8 (.slice a27 l28 q29) r9, cellCh b5 [(.int .i64 0), (.int .i64 0), (.int .i64 0), (.int .i64 0)] 40, cellCh b3 [(.slice a22 l23 q24), (.bool r13.xAccept)] 25, snapCh w0 F] (idxW ([0, 0, 0, 1, 2, 3]) r36 (fun e48 => idxW ([r32, r25, (w64 (r25 + 1)), (-1)]) e48 (fun e42 => k31 e42))) := by
      intro r32 r33 v34 v35 r36 r37
      refine d_two (i := 16) (j := 21) rfl rfl (by kernel_rfl) ?_ ?_
      · intro o ho; cases ho
        refine o_idx m_op 1 rfl reads_own rfl rfl rfl el99 ?_; intro e48 h49
        refine d_and (fun w m => m.pick [3, 4, 5, 6, 9] rfl) ?_
        refine pk [0, 1, 2, 3, 4, 5, 6, 7, 8, 9] rfl ?_
        refine re (E' := [(2, (.pointer (some ⟨b3, 0, none⟩))), (3, (.pointer (some ⟨b5, 0, none⟩))), (4, (.int .i64 0)), (5, (.int .i64 0)), (20, (.agg #[(.int .i64 r16.xFrom), (.int .i64 r16.xTo), (.int .i64 r16.xPort), (.int .i64 r16.xProto)])), (21, (.int .i64 r25)), (31, v34), (35, (pEl v35 r36 1 0))]) ⟨rfl, rfl, rfl, rfl, rfl, rfl, rfl, rfl, trivial⟩ ?_
        exact H816 r32 r33 v34 v35 r36 r37 e48 h49
      · intro o ho; cases ho
        refine o_stc (cs' := [(.int .i64 r16.xFrom), (.int .i64 r16.xTo), (.int .i64 r16.xPort), (.int .i64 r16.xProto)]) 7 rfl rfl rfl ty40 rfl rfl rfl rfl ?_
        refine d_and (fun w m => m.pick [3, 4, 5, 6, 9] rfl) ?_
        refine pk [0, 1, 2, 3, 4, 5, 6, 7, 8, 9] rfl ?_
        refine re (E' := [(2, (.pointer (some ⟨b3, 0, none⟩))), (3, (.pointer (some ⟨b5, 0, none⟩))), (4, (.int .i64 0)), (5, (.int .i64 0)), (21, (.int .i64 r25)), (31, v34), (32, v35), (34, (.int .i64 r36))]) ⟨rfl, rfl, rfl, rfl, rfl, rfl, rfl, rfl, trivial⟩ ?_
        exact H819 r32 r33 v34 v35 r36 r37
    have H821 : ∀ (r32 : Int) (r33 : Int) (v34 : Value) (v35 : Value) (r36 : Int) (r37 : Int), Nx 39 (gB F [] w0) (feet []) w0 (wpAnyH Tryd.prog .any (opsAt Tryd.f21 [1, 1, 1, 1, 0]) Qd (Mem (gB F [] w0) (feet []) w0 [cellCh b20 [(.int .i64 r16.xFrom), (.int .i64 r16.xTo), (.int .i64 r16.xPort), (.int .i64 r16.xProto)] 40, cellCh b18 [(.slice a22 l23 q24), (.bool r13.xAccept)] 25, ownCh (elSl elGRule) 101 (.slice a22 l23 q24) r13.xChains, roCh elU8 (.slice a27 l28 q29) r9, snapCh w0 F]) 8 #[true, true, true, true, true, true, true, true, true, true, true, true, true, true, true, true, false, false, false, false, false, false, false, false]) [(2, (.pointer (some ⟨b3, 0, none⟩))), (3, (.pointer (some ⟨b5, 0, none⟩))), (4, (.int .i64 0)), (5, (.int .i64 0)), (19, (.agg #[(.slice a22 l23 q24), (.bool r13.xAccept)])), (20, (.agg #[(.int .i64 r16.xFrom), (.int .i64 r16.xTo), (.int .i64 r16.xPort), (.int .i64 r16.xProto)])), (21, (.int .i64 r25)), (31, v34), (32, v35), (34, (.int .i64 r36))] [cellCh b7 [(.slice a27 l28 q29), (.int .i64 r37)] 122, ownCh elInt 3 v35 ([0, 0, 0, 1, 2, 3]), ownCh elInt 3 v34 ([r32, r25, (w64 (r25 + 1)), (-1)]), cellCh b20 [(.int .i64 r16.xFrom), (.int .i64 r16.xTo), (.int .i64 r16.xPort), (.int .i64 r16.xProto)] 40, cellCh b18 [(.slice a22 l23 q24), (.bool r13.xAccept)] 25, ownCh (elSl elGRule) 101 (.slice a22 l23 q24) r13.xChains, roCh elU8 (.slice a27 l28 q29) r9, cellCh b5 [(.int .i64 0), (.int .i64 0), (.int .i64 0), (.int .i64 0)] 40, cellCh b3 [(.slice none 0 0), (.bool false)] 25, snapCh w0 F] (idxW ([0, 0, 0, 1, 2, 3]) r36 (fun e38 => idxW ([r32, r25, (w64 (r25 + 1)), (-1)]) e38 (fun e40 => k31 e40))) := by
      intro r32 r33 v34 v35 r36 r37
      refine d_two (i := 16) (j := 20) rfl rfl (by kernel_rfl) ?_ ?_
      · intro o ho; cases ho
        refine o_idx m_op 1 rfl reads_own rfl rfl rfl el99 ?_; intro e38 h39
        refine d_and (fun w m => m.pick [3, 4, 5, 6, 9] rfl) ?_
        refine pk [0, 1, 2, 3, 4, 5, 6, 7, 8, 9] rfl ?_
        refine re (E' := [(2, (.pointer (some ⟨b3, 0, none⟩))), (3, (.pointer (some ⟨b5, 0, none⟩))), (4, (.int .i64 0)), (5, (.int .i64 0)), (19, (.agg #[(.slice a22 l23 q24), (.bool r13.xAccept)])), (20, (.agg #[(.int .i64 r16.xFrom), (.int .i64 r16.xTo), (.int .i64 r16.xPort), (.int .i64 r16.xProto)])), (21, (.int .i64 r25)), (31, v34), (35, (pEl v35 r36 1 0))]) ⟨rfl, rfl, rfl, rfl, rfl, rfl, rfl, rfl, rfl, trivial⟩ ?_
        exact H817 r32 r33 v34 v35 r36 r37 e38 h39
      · intro o ho; cases ho
        refine o_stc (cs' := [(.slice a22 l23 q24), (.bool r13.xAccept)]) 8 rfl rfl rfl ty25 rfl rfl rfl rfl ?_
        refine d_and (fun w m => m.pick [3, 4, 5, 6, 9] rfl) ?_
        refine pk [0, 1, 2, 3, 4, 5, 6, 7, 8, 9] rfl ?_
        refine re (E' := [(2, (.pointer (some ⟨b3, 0, none⟩))), (3, (.pointer (some ⟨b5, 0, none⟩))), (4, (.int .i64 0)), (5, (.int .i64 0)), (20, (.agg #[(.int .i64 r16.xFrom), (.int .i64 r16.xTo), (.int .i64 r16.xPort), (.int .i64 r16.xProto)])), (21, (.int .i64 r25)), (31, v34), (32, v35), (34, (.int .i64 r36))]) ⟨rfl, rfl, rfl, rfl, rfl, rfl, rfl, rfl, rfl, trivial⟩ ?_
        exact H820 r32 r33 v34 v35 r36 r37
    have H822 : ∀ (r32 : Int) (r33 : Int) (v34 : Value) (v35 : Value), Nx 39 (gB F [] w0) (feet []) w0 (wpAnyH Tryd.prog .any (opsAt Tryd.f21 [1, 1, 1, 1, 0]) Qd (Mem (gB F [] w0) (feet []) w0 [cellCh b20 [(.int .i64 r16.xFrom), (.int .i64 r16.xTo), (.int .i64 r16.xPort), (.int .i64 r16.xProto)] 40, cellCh b18 [(.slice a22 l23 q24), (.bool r13.xAccept)] 25, ownCh (elSl elGRule) 101 (.slice a22 l23 q24) r13.xChains, roCh elU8 (.slice a27 l28 q29) r9, snapCh w0 F]) 9 #[true, true, true, true, true, true, true, true, true, true, true, true, true, true, true, false, false, false, false, false, false, false, false, false]) [(2, (.pointer (some ⟨b3, 0, none⟩))), (3, (.pointer (some ⟨b5, 0, none⟩))), (4, (.int .i64 0)), (5, (.int .i64 0)), (19, (.agg #[(.slice a22 l23 q24), (.bool r13.xAccept)])), (20, (.agg #[(.int .i64 r16.xFrom), (.int .i64 r16.xTo), (.int .i64 r16.xPort), (.int .i64 r16.xProto)])), (21, (.int .i64 r25)), (33, (.pointer (some ⟨b7, 0, none⟩))), (31, v34), (32, v35)] [ownCh elInt 3 v35 ([0, 0, 0, 1, 2, 3]), ownCh elInt 3 v34 ([r32, r25, (w64 (r25 + 1)), (-1)]), cellCh b7 [(.slice a27 l28 q29), (.int .i64 r33)] 122, cellCh b20 [(.int .i64 r16.xFrom), (.int .i64 r16.xTo), (.int .i64 r16.xPort), (.int .i64 r16.xProto)] 40, cellCh b18 [(.slice a22 l23 q24), (.bool r13.xAccept)] 25, ownCh (elSl elGRule) 101 (.slice a22 l23 q24) r13.xChains, roCh elU8 (.slice a27 l28 q29) r9, cellCh b5 [(.int .i64 0), (.int .i64 0), (.int .i64 0), (.int .i64 0)] 40, cellCh b3 [(.slice none 0 0), (.bool false)] 25, snapCh w0 F] (L_spec_l20Rd_pick r9 r33 6 (fun (r36, r37) => idxW ([0, 0, 0, 1, 2, 3]) r36 (fun e38 => idxW ([r32, r25, (w64 (r25 + 1)), (-1)]) e38 (fun e40 => k31 e40)))) := by
      intro r32 r33 v34 v35
      refine pk [2, 0, 1, 3, 4, 5, 6, 7, 8, 9] rfl ?_
      refine d_one (i := 15) rfl (by kernel_rfl) (o_call (vs := [(.pointer (some ⟨b7, 0, none⟩)), (.int .i64 6)]) (M0 := [cellCh b7 [(.slice a27 l28 q29), (.int .i64 r33)] 122]) Tryd.call68 rfl rfl (by intro w m h; exact (w_spec_l20Rd_pick (F := allB [cellCh b7 [(.slice a27 l28 q29), (.int .i64 r33)] 122] w) (r_0_b := r9) (r_0_p := r33) (n_1 := 6) allB_ok m.given (m.rdM 5 rfl reads_ro) h).mono (fun _ _ k => ret_free (fun r u => (fr_cons free_cell fr_nil)) k)) ?_); rintro ⟨r36, r37⟩ _
      refine d_and (fun w m => m.pick [3, 4, 5, 6, 9] rfl) ?_
      refine pk [0, 1, 2, 3, 4, 5, 6, 7, 8, 9] rfl ?_
      refine re (E' := [(2, (.pointer (some ⟨b3, 0, none⟩))), (3, (.pointer (some ⟨b5, 0, none⟩))), (4, (.int .i64 0)), (5, (.int .i64 0)), (19, (.agg #[(.slice a22 l23 q24), (.bool r13.xAccept)])), (20, (.agg #[(.int .i64 r16.xFrom), (.int .i64 r16.xTo), (.int .i64 r16.xPort), (.int .i64 r16.xProto)])), (21, (.int .i64 r25)), (31, v34), (32, v35), (34, (.int .i64 r36))]) ⟨rfl, rfl, rfl, rfl, rfl, rfl, rfl, rfl, rfl, rfl, trivial⟩ ?_
      exact H821 r32 r33 v34 v35 r36 r37
    have H823 : ∀ (r32 : Int) (r33 : Int) (v34 : Value) (r52 : Int) (r53 : Int) (v56 : Value), Nx 39 (gB F [] w0) (feet []) w0 (wpAnyH Tryd.prog .any (opsAt Tryd.f21 [1, 1, 1, 1, 0]) Qd (Mem (gB F [] w0) (feet []) w0 [cellCh b20 [(.int .i64 r16.xFrom), (.int .i64 r16.xTo), (.int .i64 r16.xPort), (.int .i64 r16.xProto)] 40, cellCh b18 [(.slice a22 l23 q24), (.bool r13.xAccept)] 25, ownCh (elSl elGRule) 101 (.slice a22 l23 q24) r13.xChains, roCh elU8 (.slice a27 l28 q29) r9, snapCh w0 F]) 5 #[true, true, true, true, true, true, true, true, true, true, true, true, true, true, true, true, false, false, false, false, true, true, true, false]) [(2, (.pointer (some ⟨b3, 0, none⟩))), (3, (.pointer (some ⟨b5, 0, none⟩))), (4, (.int .i64 r25)), (5, (.int .i64 0)), (31, v34), (34, (.int .i64 r52)), (32, v56)] [ownCh elInt 3 v56 ([0, 0, 0, 1, 2, 3]), cellCh b7 [(.slice a27 l28 q29), (.int .i64 r53)] 122, ownCh elInt 3 v34 ([r32, r25, (w64 (r25 + 1)), (-1)]), cellCh b20 [(.int .i64 r16.xFrom), (.int .i64 r16.xTo), (.int .i64 r16.xPort), (.int .i64 r16.xProto)] 40, cellCh b18 [(.slice a22 l23 q24), (.bool r13.xAccept)] 25, ownCh (elSl elGRule) 101 (.slice a22 l23 q24) r13.xChains, roCh elU8 (.slice a27 l28 q29) r9, cellCh b5 [(.int .i64 r16.xFrom), (.int .i64 r16.xTo), (.int .i64 r16.xPort), (.int .i64 r16.xProto)] 40, cellCh b3 [(.slice a22 l23 q24), (.bool r13.xAccept)] 25, snapCh w0 F] (idxW ([0, 0, 0, 1, 2, 3]) r52 (fun e57 => idxW ([r32, r25, (w64 (r25 + 1)), (-1)]) e57 (fun e46 => k31 e46))) := by
      intro r32 r33 v34 r52 r53 v56
      refine d_one (i := 16) rfl (by kernel_rfl) (o_idx m_op 0 rfl reads_own rfl rfl rfl el99 ?_); intro e57 h58
      refine d_and (fun w m => m.pick [3, 4, 5, 6, 9] rfl) ?_
      refine pk [1, 0, 2, 3, 4, 5, 6, 7, 8, 9] rfl ?_
      refine re (E' := [(2, (.pointer (some ⟨b3, 0, none⟩))), (3, (.pointer (some ⟨b5, 0, none⟩))), (4, (.int .i64 r25)), (5, (.int .i64 0)), (31, v34), (35, (pEl v56 r52 1 0))]) ⟨rfl, rfl, rfl, rfl, rfl, rfl, trivial⟩ ?_
      exact H818 r32 r33 v34 v56 r52 r53 e57 h58
    have H824 : ∀ (r32 : Int) (r33 : Int) (v34 : Value) (r52 : Int) (r53 : Int), Nx 39 (gB F [] w0) (feet []) w0 (wpAnyH Tryd.prog .any (opsAt Tryd.f21 [1, 1, 1, 1, 0]) Qd (Mem (gB F [] w0) (feet []) w0 [cellCh b20 [(.int .i64 r16.xFrom), (.int .i64 r16.xTo), (.int .i64 r16.xPort), (.int .i64 r16.xProto)] 40, cellCh b18 [(.slice a22 l23 q24), (.bool r13.xAccept)] 25, ownCh (elSl elGRule) 101 (.slice a22 l23 q24) r13.xChains, roCh elU8 (.slice a27 l28 q29) r9, snapCh w0 F]) 7 #[true, true, true, true, true, true, true, true, true, true, true, true, true, false, true, true, false, false, false, false, true, true, false, false]) [(2, (.pointer (some ⟨b3, 0, none⟩))), (3, (.pointer (some ⟨b5, 0, none⟩))), (4, (.int .i64 0)), (5, (.int .i64 0)), (21, (.int .i64 r25)), (31, v34), (34, (.int .i64 r52))] [cellCh b7 [(.slice a27 l28 q29), (.int .i64 r53)] 122, ownCh elInt 3 v34 ([r32, r25, (w64 (r25 + 1)), (-1)]), cellCh b20 [(.int .i64 r16.xFrom), (.int .i64 r16.xTo), (.int .i64 r16.xPort), (.int .i64 r16.xProto)] 40, cellCh b18 [(.slice a22 l23 q24), (.bool r13.xAccept)] 25, ownCh (elSl elGRule) 101 (.slice a22 l23 q24) r13.xChains, roCh elU8 (.slice a27 l28 q29) r9, cellCh b5 [(.int .i64 r16.xFrom), (.int .i64 r16.xTo), (.int .i64 r16.xPort), (.int .i64 r16.xProto)] 40, cellCh b3 [(.slice a22 l23 q24), (.bool r13.xAccept)] 25, snapCh w0 F] (idxW ([0, 0, 0, 1, 2, 3]) r52 (fun e57 => idxW ([r32, r25, (w64 (r25 + 1)), (-1)]) e57 (fun e46 => k31 e46))) := by
      intro r32 r33 v34 r52 r53
      refine o_as (dt 22 (fun w m => m.pick [2, 3, 4, 5, 8] rfl)) rfl rfl ?_
      refine d_one (i := 13) rfl (by kernel_rfl) (o_bsl (enc := encInt) (qs := [(0, (.int .i64 0)), (1, (.int .i64 0)), (2, (.int .i64 0)), (3, (.int .i64 1)), (4, (.int .i64 2)), (5, (.int .i64 3))]) (cells := [(.int .i64 0), (.int .i64 0), (.int .i64 0), (.int .i64 1), (.int .i64 2), (.int .i64 3)]) ([0, 0, 0, 1, 2, 3]) flelInt (by intro ρ h; simp only [List.map_toArray, List.map_cons, List.map_nil, h (.const (.int .i64 0)) _ rfl, h (.const (.int .i64 0)) _ rfl, h (.const (.int .i64 0)) _ rfl, h (.const (.int .i64 1)) _ rfl, h (.const (.int .i64 2)) _ rfl, h (.const (.int .i64 3)) _ rfl]) rfl el99 zero3 rfl rfl rfl rfl rfl rfl ?_); intro v56
      refine d_and (fun w m => m.pick [3, 4, 5, 6, 9] rfl) ?_
      refine pk [0, 1, 2, 3, 4, 5, 6, 7, 8, 9] rfl ?_
      refine re (E' := [(2, (.pointer (some ⟨b3, 0, none⟩))), (3, (.pointer (some ⟨b5, 0, none⟩))), (4, (.int .i64 r25)), (5, (.int .i64 0)), (31, v34), (34, (.int .i64 r52)), (32, v56)]) ⟨rfl, rfl, rfl, rfl, rfl, rfl, rfl, trivial⟩ ?_
      exact H823 r32 r33 v34 r52 r53 v56
    have H825 : ∀ (r32 : Int) (r33 : Int) (v34 : Value) (r52 : Int) (r53 : Int), Nx 39 (gB F [] w0) (feet []) w0 (wpAnyH Tryd.prog .any (opsAt Tryd.f21 [1, 1, 1, 1, 0]) Qd (Mem (gB F [] w0) (feet []) w0 [cellCh b20 [(.int .i64 r16.xFrom), (.int .i64 r16.xTo), (.int .i64 r16.xPort), (.int .i64 r16.xProto)] 40, cellCh b18 [(.slice a22 l23 q24), (.bool r13.xAccept)] 25, ownCh (elSl elGRule) 101 (.slice a22 l23 q24) r13.xChains, roCh elU8 (.slice a27 l28 q29) r9, snapCh w0 F]) 8 #[true, true, true, true, true, true, true, true, true, true, true, true, true, false, true, true, false, false, false, false, true, false, false, false]) [(2, (.pointer (some ⟨b3, 0, none⟩))), (3, (.pointer (some ⟨b5, 0, none⟩))), (4, (.int .i64 0)), (5, (.int .i64 0)), (20, (.agg #[(.int .i64 r16.xFrom), (.int .i64 r16.xTo), (.int .i64 r16.xPort), (.int .i64 r16.xProto)])), (21, (.int .i64 r25)), (31, v34), (34, (.int .i64 r52))] [cellCh b7 [(.slice a27 l28 q29), (.int .i64 r53)] 122, ownCh elInt 3 v34 ([r32, r25, (w64 (r25 + 1)), (-1)]), cellCh b20 [(.int .i64 r16.xFrom), (.int .i64 r16.xTo), (.int .i64 r16.xPort), (.int .i64 r16.xProto)] 40, cellCh b18 [(.slice a22 l23 q24), (.bool r13.xAccept)] 25, ownCh (elSl elGRule) 101 (.slice a22 l23 q24) r13.xChains, roCh elU8 (.slice a27 l28 q29) r9, cellCh b5 [(.int .i64 0), (.int .i64 0), (.int .i64 0), (.int .i64 0)] 40, cellCh b3 [(.slice a22 l23 q24), (.bool r13.xAccept)] 25, snapCh w0 F] (idxW ([0, 0, 0, 1, 2, 3]) r52 (fun e48 => idxW ([r32, r25, (w64 (r25 + 1)), (-1)]) e48 (fun e42 => k31 e42))) := by
      intro r32 r33 v34 r52 r53
      refine d_two (i := 13) (j := 21) rfl rfl (by kernel_rfl) ?_ ?_
      · intro o ho; cases ho
        refine o_bsl (enc := encInt) (qs := [(0, (.int .i64 0)), (1, (.int .i64 0)), (2, (.int .i64 0)), (3, (.int .i64 1)), (4, (.int .i64 2)), (5, (.int .i64 3))]) (cells := [(.int .i64 0), (.int .i64 0), (.int .i64 0), (.int .i64 1), (.int .i64 2), (.int .i64 3)]) ([0, 0, 0, 1, 2, 3]) flelInt (by intro ρ h; simp only [List.map_toArray, List.map_cons, List.map_nil, h (.const (.int .i64 0)) _ rfl, h (.const (.int .i64 0)) _ rfl, h (.const (.int .i64 0)) _ rfl, h (.const (.int .i64 1)) _ rfl, h (.const (.int .i64 2)) _ rfl, h (.const (.int .i64 3)) _ rfl]) rfl el99 zero3 rfl rfl rfl rfl rfl rfl ?_; intro v55
        refine d_and (fun w m => m.pick [3, 4, 5, 6, 9] rfl) ?_
        refine pk [1, 0, 2, 3, 4, 5, 6, 7, 8, 9] rfl ?_
        refine re (E' := [(2, (.pointer (some ⟨b3, 0, none⟩))), (3, (.pointer (some ⟨b5, 0, none⟩))), (4, (.int .i64 0)), (5, (.int .i64 0)), (20, (.agg #[(.int .i64 r16.xFrom), (.int .i64 r16.xTo), (.int .i64 r16.xPort), (.int .i64 r16.xProto)])), (21, (.int .i64 r25)), (31, v34), (32, v55), (34, (.int .i64 r52))]) ⟨rfl, rfl, rfl, rfl, rfl, rfl, rfl, rfl, rfl, trivial⟩ ?_
        exact H820 r32 r33 v34 v55 r52 r53
      · intro o ho; cases ho
        refine o_stc (cs' := [(.int .i64 r16.xFrom), (.int .i64 r16.xTo), (.int .i64 r16.xPort), (.int .i64 r16.xProto)]) 6 rfl rfl rfl ty40 rfl rfl rfl rfl ?_
        refine d_and (fun w m => m.pick [2, 3, 4, 5, 8] rfl) ?_
        refine pk [0, 1, 2, 3, 4, 5, 6, 7, 8] rfl ?_
        refine re (E' := [(2, (.pointer (some ⟨b3, 0, none⟩))), (3, (.pointer (some ⟨b5, 0, none⟩))), (4, (.int .i64 0)), (5, (.int .i64 0)), (21, (.int .i64 r25)), (31, v34), (34, (.int .i64 r52))]) ⟨rfl, rfl, rfl, rfl, rfl, rfl, rfl, trivial⟩ ?_
        exact H824 r32 r33 v34 r52 r53
    have H826 : ∀ (r32 : Int) (r33 : Int) (v34 : Value) (r52 : Int) (r53 : Int), Nx 39 (gB F [] w0) (feet []) w0 (wpAnyH Tryd.prog .any (opsAt Tryd.f21 [1, 1, 1, 1, 0]) Qd (Mem (gB F [] w0) (feet []) w0 [cellCh b20 [(.int .i64 r16.xFrom), (.int .i64 r16.xTo), (.int .i64 r16.xPort), (.int .i64 r16.xProto)] 40, cellCh b18 [(.slice a22 l23 q24), (.bool r13.xAccept)] 25, ownCh (elSl elGRule) 101 (.slice a22 l23 q24) r13.xChains, roCh elU8 (.slice a27 l28 q29) r9, snapCh w0 F]) 9 #[true, true, true, true, true, true, true, true, true, true, true, true, true, false, true, true, false, false, false, false, false, false, false, false]) [(2, (.pointer (some ⟨b3, 0, none⟩))), (3, (.pointer (some ⟨b5, 0, none⟩))), (4, (.int .i64 0)), (5, (.int .i64 0)), (19, (.agg #[(.slice a22 l23 q24), (.bool r13.xAccept)])), (20, (.agg #[(.int .i64 r16.xFrom), (.int .i64 r16.xTo), (.int .i64 r16.xPort), (.int .i64 r16.xProto)])), (21, (.int .i64 r25)), (31, v34), (34, (.int .i64 r52))] [cellCh b7 [(.slice a27 l28 q29), (.int .i64 r53)] 122, ownCh elInt 3 v34 ([r32, r25, (w64 (r25 + 1)), (-1)]), cellCh b20 [(.int .i64 r16.xFrom), (.int .i64 r16.xTo), (.int .i64 r16.xPort), (.int .i64 r16.xProto)] 40, cellCh b18 [(.slice a22 l23 q24), (.bool r13.xAccept)] 25, ownCh (elSl elGRule) 101 (.slice a22 l23 q24) r13.xChains, roCh elU8 (.slice a27 l28 q29) r9, cellCh b5 [(.int .i64 0), (.int .i64 0), (.int .i64 0), (.int .i64 0)] 40, cellCh b3 [(.slice none 0 0), (.bool false)] 25, snapCh w0 F] (idxW ([0, 0, 0, 1, 2, 3]) r52 (fun e38 => idxW ([r32, r25, (w64 (r25 + 1)), (-1)]) e38 (fun e40 => k31 e40))) := by
      intro r32 r33 v34 r52 r53
      refine d_two (i := 13) (j := 20) rfl rfl (by kernel_rfl) ?_ ?_
      · intro o ho; cases ho
        refine o_bsl (enc := encInt) (qs := [(0, (.int .i64 0)), (1, (.int .i64 0)), (2, (.int .i64 0)), (3, (.int .i64 1)), (4, (.int .i64 2)), (5, (.int .i64 3))]) (cells := [(.int .i64 0), (.int .i64 0), (.int .i64 0), (.int .i64 1), (.int .i64 2), (.int .i64 3)]) ([0, 0, 0, 1, 2, 3]) flelInt (by intro ρ h; simp only [List.map_toArray, List.map_cons, List.map_nil, h (.const (.int .i64 0)) _ rfl, h (.const (.int .i64 0)) _ rfl, h (.const (.int .i64 0)) _ rfl, h (.const (.int .i64 1)) _ rfl, h (.const (.int .i64 2)) _ rfl, h (.const (.int .i64 3)) _ rfl]) rfl el99 zero3 rfl rfl rfl rfl rfl rfl ?_; intro v54
        refine d_and (fun w m => m.pick [3, 4, 5, 6, 9] rfl) ?_
        refine pk [1, 0, 2, 3, 4, 5, 6, 7, 8, 9] rfl ?_
        refine re (E' := [(2, (.pointer (some ⟨b3, 0, none⟩))), (3, (.pointer (some ⟨b5, 0, none⟩))), (4, (.int .i64 0)), (5, (.int .i64 0)), (19, (.agg #[(.slice a22 l23 q24), (.bool r13.xAccept)])), (20, (.agg #[(.int .i64 r16.xFrom), (.int .i64 r16.xTo), (.int .i64 r16.xPort), (.int .i64 r16.xProto)])), (21, (.int .i64 r25)), (31, v34), (32, v54), (34, (.int .i64 r52))]) ⟨rfl, rfl, rfl, rfl, rfl, rfl, rfl, rfl, rfl, rfl, trivial⟩ ?_
        exact H821 r32 r33 v34 v54 r52 r53
      · intro o ho; cases ho
        refine o_stc (cs' := [(.slice a22 l23 q24), (.bool r13.xAccept)]) 7 rfl rfl rfl ty25 rfl rfl rfl rfl ?_
        refine d_and (fun w m => m.pick [2, 3, 4, 5, 8] rfl) ?_
        refine pk [0, 1, 2, 3, 4, 5, 6, 7, 8] rfl ?_
        refine re (E' := [(2, (.pointer (some ⟨b3, 0, none⟩))), (3, (.pointer (some ⟨b5, 0, none⟩))), (4, (.int .i64 0)), (5, (.int .i64 0)), (20, (.agg #[(.int .i64 r16.xFrom), (.int .i64 r16.xTo), (.int .i64 r16.xPort), (.int .i64 r16.xProto)])), (21, (.int .i64 r25)), (31, v34), (34, (.int .i64 r52))]) ⟨rfl, rfl, rfl, rfl, rfl, rfl, rfl, rfl, trivial⟩ ?_
        exact H825 r32 r33 v34 r52 r53
    have H827 : ∀ (r32 : Int) (r33 : Int) (v34 : Value), Nx 39 (gB F [] w0) (feet []) w0 (wpAnyH Tryd.prog .any (opsAt Tryd.f21 [1, 1, 1, 1, 0]) Qd (Mem (gB F [] w0) (feet []) w0 [cellCh b20 [(.int .i64 r16.xFrom), (.int .i64 r16.xTo), (.int .i64 r16.xPort), (.int .i64 r16.xProto)] 40, cellCh b18 [(.slice a22 l23 q24), (.bool r13.xAccept)] 25, ownCh (elSl elGRule) 101 (.slice a22 l23 q24) r13.xChains, roCh elU8 (.slice a27 l28 q29) r9, snapCh w0 F]) 10 #[true, true, true, true, true, true, true, true, true, true, true, true, true, false, true, false, false, false, false, false, false, false, false, false]) [(2, (.pointer (some ⟨b3, 0, none⟩))), (3, (.pointer (some ⟨b5, 0, none⟩))), (4, (.int .i64 0)), (5, (.int .i64 0)), (19, (.agg #[(.slice a22 l23 q24), (.bool r13.xAccept)])), (20, (.agg #[(.int .i64 r16.xFrom), (.int .i64 r16.xTo), (.int .i64 r16.xPort), (.int .i64 r16.xProto)])), (21, (.int .i64 r25)), (33, (.pointer (some ⟨b7, 0, none⟩))), (31, v34)] [ownCh elInt 3 v34 ([r32, r25, (w64 (r25 + 1)), (-1)]), cellCh b7 [(.slice a27 l28 q29), (.int .i64 r33)] 122, cellCh b20 [(.int .i64 r16.xFrom), (.int .i64 r16.xTo), (.int .i64 r16.xPort), (.int .i64 r16.xProto)] 40, cellCh b18 [(.slice a22 l23 q24), (.bool r13.xAccept)] 25, ownCh (elSl elGRule) 101 (.slice a22 l23 q24) r13.xChains, roCh elU8 (.slice a27 l28 q29) r9, cellCh b5 [(.int .i64 0), (.int .i64 0), (.int .i64 0), (.int .i64 0)] 40, cellCh b3 [(.slice none 0 0), (.bool false)] 25, snapCh w0 F] (L_spec_l20Rd_pick r9 r33 6 (fun (r36, r37) => idxW ([0, 0, 0, 1, 2, 3]) r36 (fun e38 => idxW ([r32, r25, (w64 (r25 + 1)), (-1)]) e38 (fun e40 => k31 e40)))) := by
      intro r32 r33 v34
      refine d_two (i := 13) (j := 15) rfl rfl (by kernel_rfl) ?_ ?_
      · intro o ho; cases ho
        refine o_bsl (enc := encInt) (qs := [(0, (.int .i64 0)), (1, (.int .i64 0)), (2, (.int .i64 0)), (3, (.int .i64 1)), (4, (.int .i64 2)), (5, (.int .i64 3))]) (cells := [(.int .i64 0), (.int .i64 0), (.int .i64 0), (.int .i64 1), (.int .i64 2), (.int .i64 3)]) ([0, 0, 0, 1, 2, 3]) flelInt (by intro ρ h; simp only [List.map_toArray, List.map_cons, List.map_nil, h (.const (.int .i64 0)) _ rfl, h (.const (.int .i64 0)) _ rfl, h (.const (.int .i64 0)) _ rfl, h (.const (.int .i64 1)) _ rfl, h (.const (.int .i64 2)) _ rfl, h (.const (.int .i64 3)) _ rfl]) rfl el99 zero3 rfl rfl rfl rfl rfl rfl ?_; intro v35
        refine d_and (fun w m => m.pick [3, 4, 5, 6, 9] rfl) ?_
        refine pk [0, 1, 2, 3, 4, 5, 6, 7, 8, 9] rfl ?_
        refine re (E' := [(2, (.pointer (some ⟨b3, 0, none⟩))), (3, (.pointer (some ⟨b5, 0, none⟩))), (4, (.int .i64 0)), (5, (.int .i64 0)), (19, (.agg #[(.slice a22 l23 q24), (.bool r13.xAccept)])), (20, (.agg #[(.int .i64 r16.xFrom), (.int .i64 r16.xTo), (.int .i64 r16.xPort), (.int .i64 r16.xProto)])), (21, (.int .i64 r25)), (33, (.pointer (some ⟨b7, 0, none⟩))), (31, v34), (32, v35)]) ⟨rfl, rfl, rfl, rfl, rfl, rfl, rfl, rfl, rfl, rfl, trivial⟩ ?_
        exact H822 r32 r33 v34 v35
      · intro o ho; cases ho
        refine pk [1, 0, 2, 3, 4, 5, 6, 7, 8] rfl ?_
        refine o_call (vs := [(.pointer (some ⟨b7, 0, none⟩)), (.int .i64 6)]) (M0 := [cellCh b7 [(.slice a27 l28 q29), (.int .i64 r33)] 122]) Tryd.call68 rfl rfl (by intro w m h; exact (w_spec_l20Rd_pick (F := allB [cellCh b7 [(.slice a27 l28 q29), (.int .i64 r33)] 122] w) (r_0_b := r9) (r_0_p := r33) (n_1 := 6) allB_ok m.given (m.rdM 4 rfl reads_ro) h).mono (fun _ _ k => ret_free (fun r u => (fr_cons free_cell fr_nil)) k)) ?_; rintro ⟨r52, r53⟩ _
        refine d_and (fun w m => m.pick [2, 3, 4, 5, 8] rfl) ?_
        refine pk [0, 1, 2, 3, 4, 5, 6, 7, 8] rfl ?_
        refine re (E' := [(2, (.pointer (some ⟨b3, 0, none⟩))), (3, (.pointer (some ⟨b5, 0, none⟩))), (4, (.int .i64 0)), (5, (.int .i64 0)), (19, (.agg #[(.slice a22 l23 q24), (.bool r13.xAccept)])), (20, (.agg #[(.int .i64 r16.xFrom), (.int .i64 r16.xTo), (.int .i64 r16.xPort), (.int .i64 r16.xProto)])), (21, (.int .i64 r25)), (31, v34), (34, (.int .i64 r52))]) ⟨rfl, rfl, rfl, rfl, rfl, rfl, rfl, rfl, rfl, trivial⟩ ?_
        exact H826 r32 r33 v34 r52 r53
    have H828 : ∀ (r32 : Int) (r33 : Int) (v59 : Value) (r61 : Int) (r62 : Int) (e64 : Int) (h65 : ([0, 0, 0, 1, 2, 3])[(r61).toNat]? = some e64), Nx 39 (gB F [] w0) (feet []) w0 (wpAnyH Tryd.prog .any (opsAt Tryd.f21 [1, 1, 1, 1, 0]) Qd (Mem (gB F [] w0) (feet []) w0 [cellCh b20 [(.int .i64 r16.xFrom), (.int .i64 r16.xTo), (.int .i64 r16.xPort), (.int .i64 r16.xProto)] 40, cellCh b18 [(.slice a22 l23 q24), (.bool r13.xAccept)] 25, ownCh (elSl elGRule) 101 (.slice a22 l23 q24) r13.xChains, roCh elU8 (.slice a27 l28 q29) r9, snapCh w0 F]) 5 #[true, true, true, true, true, true, true, true, true, true, true, true, false, true, true, true, true, true, false, false, true, true, false, false]) [(2, (.pointer (some ⟨b3, 0, none⟩))), (3, (.pointer (some ⟨b5, 0, none⟩))), (4, (.int .i64 0)), (5, (.int .i64 0)), (21, (.int .i64 r25)), (28, (.int .i64 r25)), (30, (.int .i64 (w64 (r25 + 1)))), (27, (.int .i64 r32)), (36, (.int .i64 e64))] [cellCh b7 [(.slice a27 l28 q29), (.int .i64 r62)] 122, cellCh b20 [(.int .i64 r16.xFrom), (.int .i64 r16.xTo), (.int .i64 r16.xPort), (.int .i64 r16.xProto)] 40, cellCh b18 [(.slice a22 l23 q24), (.bool r13.xAccept)] 25, ownCh (elSl elGRule) 101 (.slice a22 l23 q24) r13.xChains, roCh elU8 (.slice a27 l28 q29) r9, cellCh b5 [(.int .i64 r16.xFrom), (.int .i64 r16.xTo), (.int .i64 r16.xPort), (.int .i64 r16.xProto)] 40, cellCh b3 [(.slice a22 l23 q24), (.bool r13.xAccept)] 25, snapCh w0 F] (idxW ([r32, r25, (w64 (r25 + 1)), (-1)]) e64 (fun e46 => k31 e46)) := by
      intro r32 r33 v59 r61 r62 e64 h65
      refine o_as (dt 22 (fun w m => m.pick [1, 2, 3, 4, 7] rfl)) rfl rfl ?_
      refine d_one (i := 12) rfl (by kernel_rfl) (o_bsl (enc := encInt) (qs := [(0, (.int .i64 r32)), (1, (.int .i64 r25)), (2, (.int .i64 (w64 (r25 + 1)))), (3, (.int .i64 (-1)))]) (cells := [(.int .i64 r32), (.int .i64 r25), (.int .i64 (w64 (r25 + 1))), (.int .i64 (-1))]) ([r32, r25, (w64 (r25 + 1)), (-1)]) flelInt (by intro ρ h; simp only [List.map_toArray, List.map_cons, List.map_nil, h (.tmp 27) _ rfl, h (.tmp 28) _ rfl, h (.tmp 30) _ rfl, h (.const (.int .i64 (-1))) _ rfl]) rfl el99 zero3 rfl rfl rfl rfl rfl rfl ?_); intro v69
      refine d_and (fun w m => m.pick [2, 3, 4, 5, 8] rfl) ?_
      refine pk [1, 0, 2, 3, 4, 5, 6, 7, 8] rfl ?_
      refine re (E' := [(2, (.pointer (some ⟨b3, 0, none⟩))), (3, (.pointer (some ⟨b5, 0, none⟩))), (4, (.int .i64 r25)), (5, (.int .i64 0)), (31, v69), (36, (.int .i64 e64))]) ⟨rfl, rfl, rfl, rfl, rfl, rfl, trivial⟩ ?_
      exact H814 r32 r33 v69 v59 r61 r62 e64 h65
    have H829 : ∀ (r32 : Int) (r33 : Int) (v59 : Value) (r61 : Int) (r62 : Int) (e64 : Int) (h65 : ([0, 0, 0, 1, 2, 3])[(r61).toNat]? = some e64), Nx 39 (gB F [] w0) (feet []) w0 (wpAnyH Tryd.prog .any (opsAt Tryd.f21 [1, 1, 1, 1, 0]) Qd (Mem (gB F [] w0) (feet []) w0 [cellCh b20 [(.int .i64 r16.xFrom), (.int .i64 r16.xTo), (.int .i64 r16.xPort), (.int .i64 r16.xProto)] 40, cellCh b18 [(.slice a22 l23 q24), (.bool r13.xAccept)] 25, ownCh (elSl elGRule) 101 (.slice a22 l23 q24) r13.xChains, roCh elU8 (.slice a27 l28 q29) r9, snapCh w0 F]) 6 #[true, true, true, true, true, true, true, true, true, true, true, true, false, true, true, true, true, true, false, false, true, false, false, false]) [(2, (.pointer (some ⟨b3, 0, none⟩))), (3, (.pointer (some ⟨b5, 0, none⟩))), (4, (.int .i64 0)), (5, (.int .i64 0)), (20, (.agg #[(.int .i64 r16.xFrom), (.int .i64 r16.xTo), (.int .i64 r16.xPort), (.int .i64 r16.xProto)])), (21, (.int .i64 r25)), (28, (.int .i64 r25)), (30, (.int .i64 (w64 (r25 + 1)))), (27, (.int .i64 r32)), (36, (.int .i64 e64))] [cellCh b7 [(.slice a27 l28 q29), (.int .i64 r62)] 122, cellCh b20 [(.int .i64 r16.xFrom), (.int .i64 r16.xTo), (.int .i64 r16.xPort), (.int .i64 r16.xProto)] 40, cellCh b18 [(.slice a22 l23 q24), (.bool r13.xAccept)] 25, ownCh (elSl elGRule) 101 (.slice a22 l23 q24) r13.xChains, roCh elU8 (.slice a27 l28 q29) r9, cellCh b5 [(.int .i64 0), (.int .i64 0), (.int .i64 0), (.int .i64 0)] 40, cellCh b3 [(.slice a22 l23 q24), (.bool r13.xAccept)] 25, snapCh w0 F] (idxW ([r32, r25, (w64 (r25 + 1)), (-1)]) e64 (fun e42 => k31 e42)) := by
      intro r32 r33 v59 r61 r62 e64 h65
      refine d_two (i := 12) (j := 21) rfl rfl (by kernel_rfl) ?_ ?_
      · intro o ho; cases ho
        refine o_bsl (enc := encInt) (qs := [(0, (.int .i64 r32)), (1, (.int .i64 r25)), (2, (.int .i64 (w64 (r25 + 1)))), (3, (.int .i64 (-1)))]) (cells := [(.int .i64 r32), (.int .i64 r25), (.int .i64 (w64 (r25 + 1))), (.int .i64 (-1))]) ([r32, r25, (w64 (r25 + 1)), (-1)]) flelInt (by intro ρ h; simp only [List.map_toArray, List.map_cons, List.map_nil, h (.tmp 27) _ rfl, h (.tmp 28) _ rfl, h (.tmp 30) _ rfl, h (.const (.int .i64 (-1))) _ rfl]) rfl el99 zero3 rfl rfl rfl rfl rfl rfl ?_; intro v68
        refine d_and (fun w m => m.pick [2, 3, 4, 5, 8] rfl) ?_
        refine pk [1, 0, 2, 3, 4, 5, 6, 7, 8] rfl ?_
        refine re (E' := [(2, (.pointer (some ⟨b3, 0, none⟩))), (3, (.pointer (some ⟨b5, 0, none⟩))), (4, (.int .i64 0)), (5, (.int .i64 0)), (20, (.agg #[(.int .i64 r16.xFrom), (.int .i64 r16.xTo), (.int .i64 r16.xPort), (.int .i64 r16.xProto)])), (21, (.int .i64 r25)), (31, v68), (36, (.int .i64 e64))]) ⟨rfl, rfl, rfl, rfl, rfl, rfl, rfl, rfl, trivial⟩ ?_
        exact H812 r32 r33 v68 v59 r61 r62 e64 h65
      · intro o ho; cases ho
        refine o_stc (cs' := [(.int .i64 r16.xFrom), (.int .i64 r16.xTo), (.int .i64 r16.xPort), (.int .i64 r16.xProto)]) 5 rfl rfl rfl ty40 rfl rfl rfl rfl ?_
        refine d_and (fun w m => m.pick [1, 2, 3, 4, 7] rfl) ?_
        refine pk [0, 1, 2, 3, 4, 5, 6, 7] rfl ?_
        refine re (E' := [(2, (.pointer (some ⟨b3, 0, none⟩))), (3, (.pointer (some ⟨b5, 0, none⟩))), (4, (.int .i64 0)), (5, (.int .i64 0)), (21, (.int .i64 r25)), (28, (.int .i64 r25)), (30, (.int .i64 (w64 (r25 + 1)))), (27, (.int .i64 r32)), (36, (.int .i64 e64))]) ⟨rfl, rfl, rfl, rfl, rfl, rfl, rfl, rfl, rfl, trivial⟩ ?_
        exact H828 r32 r33 v59 r61 r62 e64 h65
    have H830 : ∀ (r32 : Int) (r33 : Int) (v59 : Value) (r61 : Int) (r62 : Int) (e64 : Int) (h65 : ([0, 0, 0, 1, 2, 3])[(r61).toNat]? = some e64), Nx 39 (gB F [] w0) (feet []) w0 (wpAnyH Tryd.prog .any (opsAt Tryd.f21 [1, 1, 1, 1, 0]) Qd (Mem (gB F [] w0) (feet []) w0 [cellCh b20 [(.int .i64 r16.xFrom), (.int .i64 r16.xTo), (.int .i64 r16.xPort), (.int .i64 r16.xProto)] 40, cellCh b18 [(.slice a22 l23 q24), (.bool r13.xAccept)] 25, ownCh (elSl elGRule) 101 (.slice a22 l23 q24) r13.xChains, roCh elU8 (.slice a27 l28 q29) r9, snapCh w0 F]) 7 #[true, true, true, true, true, true, true, true, true, true, true, true, false, true, true, true, true, true, false, false, false, false, false, false]) [(2, (.pointer (some ⟨b3, 0, none⟩))), (3, (.pointer (some ⟨b5, 0, none⟩))), (4, (.int .i64 0)), (5, (.int .i64 0)), (19, (.agg #[(.slice a22 l23 q24), (.bool r13.xAccept)])), (20, (.agg #[(.int .i64 r16.xFrom), (.int .i64 r16.xTo), (.int .i64 r16.xPort), (.int .i64 r16.xProto)])), (21, (.int .i64 r25)), (28, (.int .i64 r25)), (30, (.int .i64 (w64 (r25 + 1)))), (27, (.int .i64 r32)), (36, (.int .i64 e64))] [cellCh b7 [(.slice a27 l28 q29), (.int .i64 r62)] 122, cellCh b20 [(.int .i64 r16.xFrom), (.int .i64 r16.xTo), (.int .i64 r16.xPort), (.int .i64 r16.xProto)] 40, cellCh b18 [(.slice a22 l23 q24), (.bool r13.xAccept)] 25, ownCh (elSl elGRule) 101 (.slice a22 l23 q24) r13.xChains, roCh elU8 (.slice a27 l28 q29) r9, cellCh b5 [(.int .i64 0), (.int .i64 0), (.int .i64 0), (.int .i64 0)] 40, cellCh b3 [(.slice none 0 0), (.bool false)] 25, snapCh w0 F] (idxW ([r32, r25, (w64 (r25 + 1)), (-1)]) e64 (fun e40 => k31 e40)) := by
      intro r32 r33 v59 r61 r62 e64 h65
      refine d_two (i := 12) (j := 20) rfl rfl (by kernel_rfl) ?_ ?_
      · intro o ho; cases ho
        refine o_bsl (enc := encInt) (qs := [(0, (.int .i64 r32)), (1, (.int .i64 r25)), (2, (.int .i64 (w64 (r25 + 1)))), (3, (.int .i64 (-1)))]) (cells := [(.int .i64 r32), (.int .i64 r25), (.int .i64 (w64 (r25 + 1))), (.int .i64 (-1))]) ([r32, r25, (w64 (r25 + 1)), (-1)]) flelInt (by intro ρ h; simp only [List.map_toArray, List.map_cons, List.map_nil, h (.tmp 27) _ rfl, h (.tmp 28) _ rfl, h (.tmp 30) _ rfl, h (.const (.int .i64 (-1))) _ rfl]) rfl el99 zero3 rfl rfl rfl rfl rfl rfl ?_; intro v67
        refine d_and (fun w m => m.pick [2, 3, 4, 5, 8] rfl) ?_
        refine pk [1, 0, 2, 3, 4, 5, 6, 7, 8] rfl ?_
        refine re (E' := [(2, (.pointer (some ⟨b3, 0, none⟩))), (3, (.pointer (some ⟨b5, 0, none⟩))), (4, (.int .i64 0)), (5, (.int .i64 0)), (19, (.agg #[(.slice a22 l23 q24), (.bool r13.xAccept)])), (20, (.agg #[(.int .i64 r16.xFrom), (.int .i64 r16.xTo), (.int .i64 r16.xPort), (.int .i64 r16.xProto)])), (21, (.int .i64 r25)), (31, v67), (36, (.int .i64 e64))]) ⟨rfl, rfl, rfl, rfl, rfl, rfl, rfl, rfl, rfl, trivial⟩ ?_
        exact H813 r32 r33 v67 v59 r61 r62 e64 h65
      · intro o ho; cases ho
        refine o_stc (cs' := [(.slice a22 l23 q24), (.bool r13.xAccept)]) 6 rfl rfl rfl ty25 rfl rfl rfl rfl ?_
        refine d_and (fun w m => m.pick [1, 2, 3, 4, 7] rfl) ?_
        refine pk [0, 1, 2, 3, 4, 5, 6, 7] rfl ?_
        refine re (E' := [(2, (.pointer (some ⟨b3, 0, none⟩))), (3, (.pointer (some ⟨b5, 0, none⟩))), (4, (.int .i64 0)), (5, (.int .i64 0)), (20, (.agg #[(.int .i64 r16.xFrom), (.int .i64 r16.xTo), (.int .i64 r16.xPort), (.int .i64 r16.xProto)])), (21, (.int .i64 r25)), (28, (.int .i64 r25)), (30, (.int .i64 (w64 (r25 + 1)))), (27, (.int .i64 r32)), (36, (.int .i64 e64))]) ⟨rfl, rfl, rfl, rfl, rfl, rfl, rfl, rfl, rfl, rfl, trivial⟩ ?_
        exact H829 r32 r33 v59 r61 r62 e64 h65
    have H831 : ∀ (r32 : Int) (r33 : Int) (v59 : Value) (r61 : Int) (r62 : Int) (e64 : Int) (h65 : ([0, 0, 0, 1, 2, 3])[(r61).toNat]? = some e64), Nx 39 (gB F [] w0) (feet []) w0 (wpAnyH Tryd.prog .any (opsAt Tryd.f21 [1, 1, 1, 1, 0]) Qd (Mem (gB F [] w0) (feet []) w0 [cellCh b20 [(.int .i64 r16.xFrom), (.int .i64 r16.xTo), (.int .i64 r16.xPort), (.int .i64 r16.xProto)] 40, cellCh b18 [(.slice a22 l23 q24), (.bool r13.xAccept)] 25, ownCh (elSl elGRule) 101 (.slice a22 l23 q24) r13.xChains, roCh elU8 (.slice a27 l28 q29) r9, snapCh w0 F]) 4 #[true, true, true, true, true, true, true, true, true, true, true, true, false, true, true, true, true, true, false, false, true, true, true, false]) [(2, (.pointer (some ⟨b3, 0, none⟩))), (3, (.pointer (some ⟨b5, 0, none⟩))), (4, (.int .i64 r25)), (5, (.int .i64 0)), (28, (.int .i64 r25)), (30, (.int .i64 (w64 (r25 + 1)))), (27, (.int .i64 r32)), (36, (.int .i64 e64))] [cellCh b7 [(.slice a27 l28 q29), (.int .i64 r62)] 122, cellCh b20 [(.int .i64 r16.xFrom), (.int .i64 r16.xTo), (.int .i64 r16.xPort), (.int .i64 r16.xProto)] 40, cellCh b18 [(.slice a22 l23 q24), (.bool r13.xAccept)] 25, ownCh (elSl elGRule) 101 (.slice a22 l23 q24) r13.xChains, roCh elU8 (.slice a27 l28 q29) r9, cellCh b5 [(.int .i64 r16.xFrom), (.int .i64 r16.xTo), (.int .i64 r16.xPort), (.int .i64 r16.xProto)] 40, cellCh b3 [(.slice a22 l23 q24), (.bool r13.xAccept)] 25, snapCh w0 F] (idxW ([r32, r25, (w64 (r25 + 1)), (-1)]) e64 (fun e46 => k31 e46)) := by
      intro r32 r33 v59 r61 r62 e64 h65
      refine d_one (i := 12) rfl (by kernel_rfl) (o_bsl (enc := encInt) (qs := [(0, (.int .i64 r32)), (1, (.int .i64 r25)), (2, (.int .i64 (w64 (r25 + 1)))), (3, (.int .i64 (-1)))]) (cells := [(.int .i64 r32), (.int .i64 r25), (.int .i64 (w64 (r25 + 1))), (.int .i64 (-1))]) ([r32, r25, (w64 (r25 + 1)), (-1)]) flelInt (by intro ρ h; simp only [List.map_toArray, List.map_cons, List.map_nil, h (.tmp 27) _ rfl, h (.tmp 28) _ rfl, h (.tmp 30) _ rfl, h (.const (.int .i64 (-1))) _ rfl]) rfl el99 zero3 rfl rfl rfl rfl rfl rfl ?_); intro v72
      refine d_and (fun w m => m.pick [2, 3, 4, 5, 8] rfl) ?_
      refine pk [1, 0, 2, 3, 4, 5, 6, 7, 8] rfl ?_
      refine re (E' := [(2, (.pointer (some ⟨b3, 0, none⟩))), (3, (.pointer (some ⟨b5, 0, none⟩))), (4, (.int .i64 r25)), (5, (.int .i64 0)), (31, v72), (36, (.int .i64 e64))]) ⟨rfl, rfl, rfl, rfl, rfl, rfl, trivial⟩ ?_
      exact H814 r32 r33 v72 v59 r61 r62 e64 h65
    have H832 : ∀ (r32 : Int) (r33 : Int) (v59 : Value) (r61 : Int) (r62 : Int) (e64 : Int) (h65 : ([0, 0, 0, 1, 2, 3])[(r61).toNat]? = some e64), Nx 39 (gB F [] w0) (feet []) w0 (wpAnyH Tryd.prog .any (opsAt Tryd.f21 [1, 1, 1, 1, 0]) Qd (Mem (gB F [] w0) (feet []) w0 [cellCh b20 [(.int .i64 r16.xFrom), (.int .i64 r16.xTo), (.int .i64 r16.xPort), (.int .i64 r16.xProto)] 40, cellCh b18 [(.slice a22 l23 q24), (.bool r13.xAccept)] 25, ownCh (elSl elGRule) 101 (.slice a22 l23 q24) r13.xChains, roCh elU8 (.slice a27 l28 q29) r9, snapCh w0 F]) 6 #[true, true, true, true, true, true, true, true, true, true, true, true, false, true, true, true, true, false, false, false, true, true, false, false]) [(2, (.pointer (some ⟨b3, 0, none⟩))), (3, (.pointer (some ⟨b5, 0, none⟩))), (4, (.int .i64 0)), (5, (.int .i64 0)), (21, (.int .i64 r25)), (28, (.int .i64 r25)), (30, (.int .i64 (w64 (r25 + 1)))), (27, (.int .i64 r32)), (35, (pEl v59 r61 1 0))] [cellCh b7 [(.slice a27 l28 q29), (.int .i64 r62)] 122, ownCh elInt 3 v59 ([0, 0, 0, 1, 2, 3]), cellCh b20 [(.int .i64 r16.xFrom), (.int .i64 r16.xTo), (.int .i64 r16.xPort), (.int .i64 r16.xProto)] 40, cellCh b18 [(.slice a22 l23 q24), (.bool r13.xAccept)] 25, ownCh (elSl elGRule) 101 (.slice a22 l23 q24) r13.xChains, roCh elU8 (.slice a27 l28 q29) r9, cellCh b5 [(.int .i64 r16.xFrom), (.int .i64 r16.xTo), (.int .i64 r16.xPort), (.int .i64 r16.xProto)] 40, cellCh b3 [(.slice a22 l23 q24), (.bool r13.xAccept)] 25, snapCh w0 F] (idxW ([r32, r25, (w64 (r25 + 1)), (-1)]) e64 (fun e46 => k31 e46)) := by
      intro r32 r33 v59 r61 r62 e64 h65
      refine o_as (dt 22 (fun w m => m.pick [2, 3, 4, 5, 8] rfl)) rfl rfl ?_
      refine d_two (i := 12) (j := 17) rfl rfl (by kernel_rfl) ?_ ?_
      · intro o ho; cases ho
        refine o_bsl (enc := encInt) (qs := [(0, (.int .i64 r32)), (1, (.int .i64 r25)), (2, (.int .i64 (w64 (r25 + 1)))), (3, (.int .i64 (-1)))]) (cells := [(.int .i64 r32), (.int .i64 r25), (.int .i64 (w64 (r25 + 1))), (.int .i64 (-1))]) ([r32, r25, (w64 (r25 + 1)), (-1)]) flelInt (by intro ρ h; simp only [List.map_toArray, List.map_cons, List.map_nil, h (.tmp 27) _ rfl, h (.tmp 28) _ rfl, h (.tmp 30) _ rfl, h (.const (.int .i64 (-1))) _ rfl]) rfl el99 zero3 rfl rfl rfl rfl rfl rfl ?_; intro v71
        refine d_and (fun w m => m.pick [3, 4, 5, 6, 9] rfl) ?_
        refine pk [1, 2, 0, 3, 4, 5, 6, 7, 8, 9] rfl ?_
        refine re (E' := [(2, (.pointer (some ⟨b3, 0, none⟩))), (3, (.pointer (some ⟨b5, 0, none⟩))), (4, (.int .i64 r25)), (5, (.int .i64 0)), (31, v71), (35, (pEl v59 r61 1 0))]) ⟨rfl, rfl, rfl, rfl, rfl, rfl, trivial⟩ ?_
        exact H818 r32 r33 v71 v59 r61 r62 e64 h65
      · intro o ho; cases ho
        refine o_lds m_op (enc := encInt) (u := (.int .i64 e64)) 1 rfl reads_own flelInt rfl h65 rfl rfl ty3 rfl ?_
        refine d_and (fun w m => m.pick [2, 3, 4, 5, 8] rfl) ?_
        refine pk [0, 2, 3, 4, 5, 6, 7, 8] rfl ?_
        refine re (E' := [(2, (.pointer (some ⟨b3, 0, none⟩))), (3, (.pointer (some ⟨b5, 0, none⟩))), (4, (.int .i64 r25)), (5, (.int .i64 0)), (28, (.int .i64 r25)), (30, (.int .i64 (w64 (r25 + 1)))), (27, (.int .i64 r32)), (36, (.int .i64 e64))]) ⟨rfl, rfl, rfl, rfl, rfl, rfl, rfl, rfl, trivial⟩ ?_
        exact H831 r32 r33 v59 r61 r62 e64 h65
    have H833 : ∀ (r32 : Int) (r33 : Int) (v59 : Value) (r61 : Int) (r62 : Int) (e64 : Int) (h65 : ([0, 0, 0, 1, 2, 3])[(r61).toNat]? = some e64), Nx 39 (gB F [] w0) (feet []) w0 (wpAnyH Tryd.prog .any (opsAt Tryd.f21 [1, 1, 1, 1, 0]) Qd (Mem (gB F [] w0) (feet []) w0 [cellCh b20 [(.int .i64 r16.xFrom), (.int .i64 r16.xTo), (.int .i64 r16.xPort), (.int .i64 r16.xProto)] 40, cellCh b18 [(.slice a22 l23 q24), (.bool r13.xAccept)] 25, ownCh (elSl elGRule) 101 (.slice a22 l23 q24) r13.xChains, roCh elU8 (.slice a27 l28 q29) r9, snapCh w0 F]) 7 #[true, true, true, true, true, true, true, true, true, true, true, true, false, true, true, true, true, false, false, false, true, false, false, false]) [(2, (.pointer (some ⟨b3, 0, none⟩))), (3, (.pointer (some ⟨b5, 0, none⟩))), (4, (.int .i64 0)), (5, (.int .i64 0)), (20, (.agg #[(.int .i64 r16.xFrom), (.int .i64 r16.xTo), (.int .i64 r16.xPort), (.int .i64 r16.xProto)])), (21, (.int .i64 r25)), (28, (.int .i64 r25)), (30, (.int .i64 (w64 (r25 + 1)))), (27, (.int .i64 r32)), (35, (pEl v59 r61 1 0))] [cellCh b7 [(.slice a27 l28 q29), (.int .i64 r62)] 122, ownCh elInt 3 v59 ([0, 0, 0, 1, 2, 3]), cellCh b20 [(.int .i64 r16.xFrom), (.int .i64 r16.xTo), (.int .i64 r16.xPort), (.int .i64 r16.xProto)] 40, cellCh b18 [(.slice a22 l23 q24), (.bool r13.xAccept)] 25, ownCh (elSl elGRule) 101 (.slice a22 l23 q24) r13.xChains, roCh elU8 (.slice a27 l28 q29) r9, cellCh b5 [(.int .i64 0), (.int .i64 0), (.int .i64 0), (.int .i64 0)] 40, cellCh b3 [(.slice a22 l23 q24), (.bool r13.xAccept)] 25, snapCh w0 F] (idxW ([r32, r25, (w64 (r25 + 1)), (-1)]) e64 (fun e42 => k31 e42)) := by
      intro r32 r33 v59 r61 r62 e64 h65
      refine d_three (i := 12) (j := 17) (l := 21) rfl rfl rfl (by kernel_rfl) ?_ ?_ ?_
      · intro o ho; cases ho
        refine o_bsl (enc := encInt) (qs := [(0, (.int .i64 r32)), (1, (.int .i64 r25)), (2, (.int .i64 (w64 (r25 + 1)))), (3, (.int .i64 (-1)))]) (cells := [(.int .i64 r32), (.int .i64 r25), (.int .i64 (w64 (r25 + 1))), (.int .i64 (-1))]) ([r32, r25, (w64 (r25 + 1)), (-1)]) flelInt (by intro ρ h; simp only [List.map_toArray, List.map_cons, List.map_nil, h (.tmp 27) _ rfl, h (.tmp 28) _ rfl, h (.tmp 30) _ rfl, h (.const (.int .i64 (-1))) _ rfl]) rfl el99 zero3 rfl rfl rfl rfl rfl rfl ?_; intro v70
        refine d_and (fun w m => m.pick [3, 4, 5, 6, 9] rfl) ?_
        refine pk [1, 2, 0, 3, 4, 5, 6, 7, 8, 9] rfl ?_
        refine re (E' := [(2, (.pointer (some ⟨b3, 0, none⟩))), (3, (.pointer (some ⟨b5, 0, none⟩))), (4, (.int .i64 0)), (5, (.int .i64 0)), (20, (.agg #[(.int .i64 r16.xFrom), (.int .i64 r16.xTo), (.int .i64 r16.xPort), (.int .i64 r16.xProto)])), (21, (.int .i64 r25)), (31, v70), (35, (pEl v59 r61 1 0))]) ⟨rfl, rfl, rfl, rfl, rfl, rfl, rfl, rfl, trivial⟩ ?_
        exact H816 r32 r33 v70 v59 r61 r62 e64 h65
      · intro o ho; cases ho
        refine o_lds m_op (enc := encInt) (u := (.int .i64 e64)) 1 rfl reads_own flelInt rfl h65 rfl rfl ty3 rfl ?_
        refine d_and (fun w m => m.pick [2, 3, 4, 5, 8] rfl) ?_
        refine pk [0, 2, 3, 4, 5, 6, 7, 8] rfl ?_
        refine re (E' := [(2, (.pointer (some ⟨b3, 0, none⟩))), (3, (.pointer (some ⟨b5, 0, none⟩))), (4, (.int .i64 0)), (5, (.int .i64 0)), (20, (.agg #[(.int .i64 r16.xFrom), (.int .i64 r16.xTo), (.int .i64 r16.xPort), (.int .i64 r16.xProto)])), (21, (.int .i64 r25)), (28, (.int .i64 r25)), (30, (.int .i64 (w64 (r25 + 1)))), (27, (.int .i64 r32)), (36, (.int .i64 e64))]) ⟨rfl, rfl, rfl, rfl, rfl, rfl, rfl, rfl, rfl, rfl, trivial⟩ ?_
        exact H829 r32 r33 v59 r61 r62 e64 h65
      · intro o ho; cases ho
        refine o_stc (cs' := [(.int .i64 r16.xFrom), (.int .i64 r16.xTo), (.int .i64 r16.xPort), (.int .i64 r16.xProto)]) 6 rfl rfl rfl ty40 rfl rfl rfl rfl ?_
        refine d_and (fun w m => m.pick [2, 3, 4, 5, 8] rfl) ?_
        refine pk [0, 1, 2, 3, 4, 5, 6, 7, 8] rfl ?_
        refine re (E' := [(2, (.pointer (some ⟨b3, 0, none⟩))), (3, (.pointer (some ⟨b5, 0, none⟩))), (4, (.int .i64 0)), (5, (.int .i64 0)), (21, (.int .i64 r25)), (28, (.int .i64 r25)), (30, (.int .i64 (w64 (r25 + 1)))), (27, (.int .i64 r32)), (35, (pEl v59 r61 1 0))]) ⟨rfl, rfl, rfl, rfl, rfl, rfl, rfl, rfl, rfl, trivial⟩ ?_
        exact H832 r32 r33 v59 r61 r62 e64 h65
    have H834 : ∀ (r32 : Int) (r33 : Int) (v59 : Value) (r61 : Int) (r62 : Int) (e64 : Int) (h65 : ([0, 0, 0, 1, 2, 3])[(r61).toNat]? = some e64), Nx 39 (gB F [] w0) (feet []) w0 (wpAnyH Tryd.prog .any (opsAt Tryd.f21 [1, 1, 1, 1, 0]) Qd (Mem (gB F [] w0) (feet []) w0 [cellCh b20 [(.int .i64 r16.xFrom), (.int .i64 r16.xTo), (.int .i64 r16.xPort), (.int .i64 r16.xProto)] 40, cellCh b18 [(.slice a22 l23 q24), (.bool r13.xAccept)] 25, ownCh (elSl elGRule) 101 (.slice a22 l23 q24) r13.xChains, roCh elU8 (.slice a27 l28 q29) r9, snapCh w0 F]) 8 #[true, true, true, true, true, true, true, true, true, true, true, true, false, true, true, true, true, false, false, false, false, false, false, false]) [(2, (.pointer (some ⟨b3, 0, none⟩))), (3, (.pointer (some ⟨b5, 0, none⟩))), (4, (.int .i64 0)), (5, (.int .i64 0)), (19, (.agg #[(.slice a22 l23 q24), (.bool r13.xAccept)])), (20, (.agg #[(.int .i64 r16.xFrom), (.int .i64 r16.xTo), (.int .i64 r16.xPort), (.int .i64 r16.xProto)])), (21, (.int .i64 r25)), (28, (.int .i64 r25)), (30, (.int .i64 (w64 (r25 + 1)))), (27, (.int .i64 r32)), (35, (pEl v59 r61 1 0))] [cellCh b7 [(.slice a27 l28 q29), (.int .i64 r62)] 122, ownCh elInt 3 v59 ([0, 0, 0, 1, 2, 3]), cellCh b20 [(.int .i64 r16.xFrom), (.int .i64 r16.xTo), (.int .i64 r16.xPort), (.int .i64 r16.xProto)] 40, cellCh b18 [(.slice a22 l23 q24), (.bool r13.xAccept)] 25, ownCh (elSl elGRule) 101 (.slice a22 l23 q24) r13.xChains, roCh elU8 (.slice a27 l28 q29) r9, cellCh b5 [(.int .i64 0), (.int .i64 0), (.int .i64 0), (.int .i64 0)] 40, cellCh b3 [(.slice none 0 0), (.bool false)] 25, snapCh w0 F] (idxW ([r32, r25, (w64 (r25 + 1)), (-1)]) e64 (fun e40 => k31 e40)) := by
      intro r32 r33 v59 r61 r62 e64 h65
      refine d_three (i := 12) (j := 17) (l := 20) rfl rfl rfl (by kernel_rfl) ?_ ?_ ?_
      · intro o ho; cases ho
        refine o_bsl (enc := encInt) (qs := [(0, (.int .i64 r32)), (1, (.int .i64 r25)), (2, (.int .i64 (w64 (r25 + 1)))), (3, (.int .i64 (-1)))]) (cells := [(.int .i64 r32), (.int .i64 r25), (.int .i64 (w64 (r25 + 1))), (.int .i64 (-1))]) ([r32, r25, (w64 (r25 + 1)), (-1)]) flelInt (by intro ρ h; simp only [List.map_toArray, List.map_cons, List.map_nil, h (.tmp 27) _ rfl, h (.tmp 28) _ rfl, h (.tmp 30) _ rfl, h (.const (.int .i64 (-1))) _ rfl]) rfl el99 zero3 rfl rfl rfl rfl rfl rfl ?_; intro v66
        refine d_and (fun w m => m.pick [3, 4, 5, 6, 9] rfl) ?_
        refine pk [1, 2, 0, 3, 4, 5, 6, 7, 8, 9] rfl ?_
        refine re (E' := [(2, (.pointer (some ⟨b3, 0, none⟩))), (3, (.pointer (some ⟨b5, 0, none⟩))), (4, (.int .i64 0)), (5, (.int .i64 0)), (19, (.agg #[(.slice a22 l23 q24), (.bool r13.xAccept)])), (20, (.agg #[(.int .i64 r16.xFrom), (.int .i64 r16.xTo), (.int .i64 r16.xPort), (.int .i64 r16.xProto)])), (21, (.int .i64 r25)), (31, v66), (35, (pEl v59 r61 1 0))]) ⟨rfl, rfl, rfl, rfl, rfl, rfl, rfl, rfl, rfl, trivial⟩ ?_
        exact H817 r32 r33 v66 v59 r61 r62 e64 h65
      · intro o ho; cases ho
        refine o_lds m_op (enc := encInt) (u := (.int .i64 e64)) 1 rfl reads_own flelInt rfl h65 rfl rfl ty3 rfl ?_
        refine d_and (fun w m => m.pick [2, 3, 4, 5, 8] rfl) ?_
        refine pk [0, 2, 3, 4, 5, 6, 7, 8] rfl ?_
        refine re (E' := [(2, (.pointer (some ⟨b3, 0, none⟩))), (3, (.pointer (some ⟨b5, 0, none⟩))), (4, (.int .i64 0)), (5, (.int .i64 0)), (19, (.agg #[(.slice a22 l23 q24), (.bool r13.xAccept)])), (20, (.agg #[(.int .i64 r16.xFrom), (.int .i64 r16.xTo), (.int .i64 r16.xPort), (.int .i64 r16.xProto)])), (21, (.int .i64 r25)), (28, (.int .i64 r25)), (30, (.int .i64 (w64 (r25 + 1)))), (27, (.int .i64 r32)), (36, (.int .i64 e64))]) ⟨rfl, rfl, rfl, rfl, rfl, rfl, rfl, rfl, rfl, rfl, rfl, trivial⟩ ?_
        exact H830 r32 r33 v59 r61 r62 e64 h65
      · intro o ho; cases ho
        refine o_stc (cs' := [(.slice a22 l23 q24), (.bool r13.xAccept)]) 7 rfl rfl rfl ty25 rfl rfl rfl rfl ?_
        refine d_and (fun w m => m.pick [2, 3, 4, 5, 8] rfl) ?_
        refine pk [0, 1, 2, 3, 4, 5, 6, 7, 8] rfl ?_
        refine re (E' := [(2, (.pointer (some ⟨b3, 0, none⟩))), (3, (.pointer (some ⟨b5, 0, none⟩))), (4, (.int .i64 0)), (5, (.int .i64 0)), (20, (.agg #[(.int .i64 r16.xFrom), (.int .i64 r16.xTo), (.int .i64 r16.xPort), (.int .i64 r16.xProto)])), (21, (.int .i64 r25)), (28, (.int .i64 r25)), (30, (.int .i64 (w64 (r25 + 1)))), (27, (.int .i64 r32)), (35, (pEl v59 r61 1 0))]) ⟨rfl, rfl, rfl, rfl, rfl, rfl, rfl, rfl, rfl, rfl, trivial⟩ ?_
        exact H833 r32 r33 v59 r61 r62 e64 h65
    have H835 : ∀ (r32 : Int) (r33 : Int) (v59 : Value) (r61 : Int) (r62 : Int) (e77 : Int) (h78 : ([0, 0, 0, 1, 2, 3])[(r61).toNat]? = some e77), Nx 39 (gB F [] w0) (feet []) w0 (wpAnyH Tryd.prog .any (opsAt Tryd.f21 [1, 1, 1, 1, 0]) Qd (Mem (gB F [] w0) (feet []) w0 [cellCh b20 [(.int .i64 r16.xFrom), (.int .i64 r16.xTo), (.int .i64 r16.xPort), (.int .i64 r16.xProto)] 40, cellCh b18 [(.slice a22 l23 q24), (.bool r13.xAccept)] 25, ownCh (elSl elGRule) 101 (.slice a22 l23 q24) r13.xChains, roCh elU8 (.slice a27 l28 q29) r9, snapCh w0 F]) 5 #[true, true, true, true, true, true, true, true, true, true, true, true, false, true, true, true, true, false, false, false, true, true, true, false]) [(2, (.pointer (some ⟨b3, 0, none⟩))), (3, (.pointer (some ⟨b5, 0, none⟩))), (4, (.int .i64 r25)), (5, (.int .i64 0)), (28, (.int .i64 r25)), (30, (.int .i64 (w64 (r25 + 1)))), (27, (.int .i64 r32)), (35, (pEl v59 r61 1 0))] [cellCh b7 [(.slice a27 l28 q29), (.int .i64 r62)] 122, ownCh elInt 3 v59 ([0, 0, 0, 1, 2, 3]), cellCh b20 [(.int .i64 r16.xFrom), (.int .i64 r16.xTo), (.int .i64 r16.xPort), (.int .i64 r16.xProto)] 40, cellCh b18 [(.slice a22 l23 q24), (.bool r13.xAccept)] 25, ownCh (elSl elGRule) 101 (.slice a22 l23 q24) r13.xChains, roCh elU8 (.slice a27 l28 q29) r9, cellCh b5 [(.int .i64 r16.xFrom), (.int .i64 r16.xTo), (.int .i64 r16.xPort), (.int .i64 r16.xProto)] 40, cellCh b3 [(.slice a22 l23 q24), (.bool r13.xAccept)] 25, snapCh w0 F] (idxW ([r32, r25, (w64 (r25 + 1)), (-1)]) e77 (fun e46 => k31 e46)) := by
      intro r32 r33 v59 r61 r62 e77 h78
      refine d_two (i := 12) (j := 17) rfl rfl (by kernel_rfl) ?_ ?_
      · intro o ho; cases ho
        refine o_bsl (enc := encInt) (qs := [(0, (.int .i64 r32)), (1, (.int .i64 r25)), (2, (.int .i64 (w64 (r25 + 1)))), (3, (.int .i64 (-1)))]) (cells := [(.int .i64 r32), (.int .i64 r25), (.int .i64 (w64 (r25 + 1))), (.int .i64 (-1))]) ([r32, r25, (w64 (r25 + 1)), (-1)]) flelInt (by intro ρ h; simp only [List.map_toArray, List.map_cons, List.map_nil, h (.tmp 27) _ rfl, h (.tmp 28) _ rfl, h (.tmp 30) _ rfl, h (.const (.int .i64 (-1))) _ rfl]) rfl el99 zero3 rfl rfl rfl rfl rfl rfl ?_; intro v79
        refine d_and (fun w m => m.pick [3, 4, 5, 6, 9] rfl) ?_
        refine pk [1, 2, 0, 3, 4, 5, 6, 7, 8, 9] rfl ?_
        refine re (E' := [(2, (.pointer (some ⟨b3, 0, none⟩))), (3, (.pointer (some ⟨b5, 0, none⟩))), (4, (.int .i64 r25)), (5, (.int .i64 0)), (31, v79), (35, (pEl v59 r61 1 0))]) ⟨rfl, rfl, rfl, rfl, rfl, rfl, trivial⟩ ?_
        exact H818 r32 r33 v79 v59 r61 r62 e77 h78
      · intro o ho; cases ho
        refine o_lds m_op (enc := encInt) (u := (.int .i64 e77)) 1 rfl reads_own flelInt rfl h78 rfl rfl ty3 rfl ?_
        refine d_and (fun w m => m.pick [2, 3, 4, 5, 8] rfl) ?_
        refine pk [0, 2, 3, 4, 5, 6, 7, 8] rfl ?_
        refine re (E' := [(2, (.pointer (some ⟨b3, 0, none⟩))), (3, (.pointer (some ⟨b5, 0, none⟩))), (4, (.int .i64 r25)), (5, (.int .i64 0)), (28, (.int .i64 r25)), (30, (.int .i64 (w64 (r25 + 1)))), (27, (.int .i64 r32)), (36, (.int .i64 e77))]) ⟨rfl, rfl, rfl, rfl, rfl, rfl, rfl, rfl, trivial⟩ ?_
        exact H831 r32 r33 v59 r61 r62 e77 h78
    have H836 : ∀ (r32 : Int) (r33 : Int) (v59 : Value) (r61 : Int) (r62 : Int), Nx 39 (gB F [] w0) (feet []) w0 (wpAnyH Tryd.prog .any (opsAt Tryd.f21 [1, 1, 1, 1, 0]) Qd (Mem (gB F [] w0) (feet []) w0 [cellCh b20 [(.int .i64 r16.xFrom), (.int .i64 r16.xTo), (.int .i64 r16.xPort), (.int .i64 r16.xProto)] 40, cellCh b18 [(.slice a22 l23 q24), (.bool r13.xAccept)] 25, ownCh (elSl elGRule) 101 (.slice a22 l23 q24) r13.xChains, roCh elU8 (.slice a27 l28 q29) r9, snapCh w0 F]) 7 #[true, true, true, true, true, true, true, true, true, true, true, true, false, true, true, true, false, false, false, false, true, true, false, false]) [(2, (.pointer (some ⟨b3, 0, none⟩))), (3, (.pointer (some ⟨b5, 0, none⟩))), (4, (.int .i64 0)), (5, (.int .i64 0)), (21, (.int .i64 r25)), (28, (.int .i64 r25)), (30, (.int .i64 (w64 (r25 + 1)))), (27, (.int .i64 r32)), (32, v59), (34, (.int .i64 r61))] [cellCh b7 [(.slice a27 l28 q29), (.int .i64 r62)] 122, ownCh elInt 3 v59 ([0, 0, 0, 1, 2, 3]), cellCh b20 [(.int .i64 r16.xFrom), (.int .i64 r16.xTo), (.int .i64 r16.xPort), (.int .i64 r16.xProto)] 40, cellCh b18 [(.slice a22 l23 q24), (.bool r13.xAccept)] 25, ownCh (elSl elGRule) 101 (.slice a22 l23 q24) r13.xChains, roCh elU8 (.slice a27 l28 q29) r9, cellCh b5 [(.int .i64 r16.xFrom), (.int .i64 r16.xTo), (.int .i64 r16.xPort), (.int .i64 r16.xProto)] 40, cellCh b3 [(.slice a22 l23 q24), (.bool r13.xAccept)] 25, snapCh w0 F] (idxW ([0, 0, 0, 1, 2, 3]) r61 (fun e57 => idxW ([r32, r25, (w64 (r25 + 1)), (-1)]) e57 (fun e46 => k31 e46))) := by
      intro r32 r33 v59 r61 r62
      refine o_as (dt 22 (fun w m => m.pick [2, 3, 4, 5, 8] rfl)) rfl rfl ?_
      refine d_two (i := 12) (j := 16) rfl rfl (by kernel_rfl) ?_ ?_
      · intro o ho; cases ho
        refine o_bsl (enc := encInt) (qs := [(0, (.int .i64 r32)), (1, (.int .i64 r25)), (2, (.int .i64 (w64 (r25 + 1)))), (3, (.int .i64 (-1)))]) (cells := [(.int .i64 r32), (.int .i64 r25), (.int .i64 (w64 (r25 + 1))), (.int .i64 (-1))]) ([r32, r25, (w64 (r25 + 1)), (-1)]) flelInt (by intro ρ h; simp only [List.map_toArray, List.map_cons, List.map_nil, h (.tmp 27) _ rfl, h (.tmp 28) _ rfl, h (.tmp 30) _ rfl, h (.const (.int .i64 (-1))) _ rfl]) rfl el99 zero3 rfl rfl rfl rfl rfl rfl ?_; intro v76
        refine d_and (fun w m => m.pick [3, 4, 5, 6, 9] rfl) ?_
        refine pk [2, 1, 0, 3, 4, 5, 6, 7, 8, 9] rfl ?_
        refine re (E' := [(2, (.pointer (some ⟨b3, 0, none⟩))), (3, (.pointer (some ⟨b5, 0, none⟩))), (4, (.int .i64 r25)), (5, (.int .i64 0)), (31, v76), (34, (.int .i64 r61)), (32, v59)]) ⟨rfl, rfl, rfl, rfl, rfl, rfl, rfl, trivial⟩ ?_
        exact H823 r32 r33 v76 r61 r62 v59
      · intro o ho; cases ho
        refine o_idx m_op 1 rfl reads_own rfl rfl rfl el99 ?_; intro e77 h78
        refine d_and (fun w m => m.pick [2, 3, 4, 5, 8] rfl) ?_
        refine pk [0, 1, 2, 3, 4, 5, 6, 7, 8] rfl ?_
        refine re (E' := [(2, (.pointer (some ⟨b3, 0, none⟩))), (3, (.pointer (some ⟨b5, 0, none⟩))), (4, (.int .i64 r25)), (5, (.int .i64 0)), (28, (.int .i64 r25)), (30, (.int .i64 (w64 (r25 + 1)))), (27, (.int .i64 r32)), (35, (pEl v59 r61 1 0))]) ⟨rfl, rfl, rfl, rfl, rfl, rfl, rfl, rfl, trivial⟩ ?_
        exact H835 r32 r33 v59 r61 r62 e77 h78
    have H837 : ∀ (r32 : Int) (r33 : Int) (v59 : Value) (r61 : Int) (r62 : Int), Nx 39 (gB F [] w0) (feet []) w0 (wpAnyH Tryd.prog .any (opsAt Tryd.f21 [1, 1, 1, 1, 0]) Qd (Mem (gB F [] w0) (feet []) w0 [cellCh b20 [(.int .i64 r16.xFrom), (.int .i64 r16.xTo), (.int .i64 r16.xPort), (.int .i64 r16.xProto)] 40, cellCh b18 [(.slice a22 l23 q24), (.bool r13.xAccept)] 25, ownCh (elSl elGRule) 101 (.slice a22 l23 q24) r13.xChains, roCh elU8 (.slice a27 l28 q29) r9, snapCh w0 F]) 8 #[true, true, true, true, true, true, true, true, true, true, true, true, false, true, true, true, false, false, false, false, true, false, false, false]) [(2, (.pointer (some ⟨b3, 0, none⟩))), (3, (.pointer (some ⟨b5, 0, none⟩))), (4, (.int .i64 0)), (5, (.int .i64 0)), (20, (.agg #[(.int .i64 r16.xFrom), (.int .i64 r16.xTo), (.int .i64 r16.xPort), (.int .i64 r16.xProto)])), (21, (.int .i64 r25)), (28, (.int .i64 r25)), (30, (.int .i64 (w64 (r25 + 1)))), (27, (.int .i64 r32)), (32, v59), (34, (.int .i64 r61))] [cellCh b7 [(.slice a27 l28 q29), (.int .i64 r62)] 122, ownCh elInt 3 v59 ([0, 0, 0, 1, 2, 3]), cellCh b20 [(.int .i64 r16.xFrom), (.int .i64 r16.xTo), (.int .i64 r16.xPort), (.int .i64 r16.xProto)] 40, cellCh b18 [(.slice a22 l23 q24), (.bool r13.xAccept)] 25, ownCh (elSl elGRule) 101 (.slice a22 l23 q24) r13.xChains, roCh elU8 (.slice a27 l28 q29) r9, cellCh b5 [(.int .i64 0), (.int .i64 0), (.int .i64 0), (.int .i64 0)] 40, cellCh b3 [(.slice a22 l23 q24), (.bool r13.xAccept)] 25, snapCh w0 F] (idxW ([0, 0, 0, 1, 2, 3]) r61 (fun e48 => idxW ([r32, r25, (w64 (r25 + 1)), (-1)]) e48 (fun e42 => k31 e42))) := by
      intro r32 r33 v59 r61 r62
      refine d_three (i := 12) (j := 16) (l := 21) rfl rfl rfl (by kernel_rfl) ?_ ?_ ?_
      · intro o ho; cases ho
        refine o_bsl (enc := encInt) (qs := [(0, (.int .i64 r32)), (1, (.int .i64 r25)), (2, (.int .i64 (w64 (r25 + 1)))), (3, (.int .i64 (-1)))]) (cells := [(.int .i64 r32), (.int .i64 r25), (.int .i64 (w64 (r25 + 1))), (.int .i64 (-1))]) ([r32, r25, (w64 (r25 + 1)), (-1)]) flelInt (by intro ρ h; simp only [List.map_toArray, List.map_cons, List.map_nil, h (.tmp 27) _ rfl, h (.tmp 28) _ rfl, h (.tmp 30) _ rfl, h (.const (.int .i64 (-1))) _ rfl]) rfl el99 zero3 rfl rfl rfl rfl rfl rfl ?_; intro v73
        refine d_and (fun w m => m.pick [3, 4, 5, 6, 9] rfl) ?_
        refine pk [1, 2, 0, 3, 4, 5, 6, 7, 8, 9] rfl ?_
        refine re (E' := [(2, (.pointer (some ⟨b3, 0, none⟩))), (3, (.pointer (some ⟨b5, 0, none⟩))), (4, (.int .i64 0)), (5, (.int .i64 0)), (20, (.agg #[(.int .i64 r16.xFrom), (.int .i64 r16.xTo), (.int .i64 r16.xPort), (.int .i64 r16.xProto)])), (21, (.int .i64 r25)), (31, v73), (32, v59), (34, (.int .i64 r61))]) ⟨rfl, rfl, rfl, rfl, rfl, rfl, rfl, rfl, rfl, trivial⟩ ?_
        exact H820 r32 r33 v73 v59 r61 r62
      · intro o ho; cases ho
        refine o_idx m_op 1 rfl reads_own rfl rfl rfl el99 ?_; intro e74 h75
        refine d_and (fun w m => m.pick [2, 3, 4, 5, 8] rfl) ?_
        refine pk [0, 1, 2, 3, 4, 5, 6, 7, 8] rfl ?_
        refine re (E' := [(2, (.pointer (some ⟨b3, 0, none⟩))), (3, (.pointer (some ⟨b5, 0, none⟩))), (4, (.int .i64 0)), (5, (.int .i64 0)), (20, (.agg #[(.int .i64 r16.xFrom), (.int .i64 r16.xTo), (.int .i64 r16.xPort), (.int .i64 r16.xProto)])), (21, (.int .i64 r25)), (28, (.int .i64 r25)), (30, (.int .i64 (w64 (r25 + 1)))), (27, (.int .i64 r32)), (35, (pEl v59 r61 1 0))]) ⟨rfl, rfl, rfl, rfl, rfl, rfl, rfl, rfl, rfl, rfl, trivial⟩ ?_
        exact H833 r32 r33 v59 r61 r62 e74 h75
      · intro o ho; cases ho
        refine o_stc (cs' := [(.int .i64 r16.xFrom), (.int .i64 r16.xTo), (.int .i64 r16.xPort), (.int .i64 r16.xProto)]) 6 rfl rfl rfl ty40 rfl rfl rfl rfl ?_
        refine d_and (fun w m => m.pick [2, 3, 4, 5, 8] rfl) ?_
        refine pk [0, 1, 2, 3, 4, 5, 6, 7, 8] rfl ?_
        refine re (E' := [(2, (.pointer (some ⟨b3, 0, none⟩))), (3, (.pointer (some ⟨b5, 0, none⟩))), (4, (.int .i64 0)), (5, (.int .i64 0)), (21, (.int .i64 r25)), (28, (.int .i64 r25)), (30, (.int .i64 (w64 (r25 + 1)))), (27, (.int .i64 r32)), (32, v59), (34, (.int .i64 r61))]) ⟨rfl, rfl, rfl, rfl, rfl, rfl, rfl, rfl, rfl, rfl, trivial⟩ ?_
        exact H836 r32 r33 v59 r61 r62
    have H838 : ∀ (r32 : Int) (r33 : Int) (v59 : Value) (r61 : Int) (r62 : Int), Nx 39 (gB F [] w0) (feet []) w0 (wpAnyH Tryd.prog .any (opsAt Tryd.f21 [1, 1, 1, 1, 0]) Qd (Mem (gB F [] w0) (feet []) w0 [cellCh b20 [(.int .i64 r16.xFrom), (.int .i64 r16.xTo), (.int .i64 r16.xPort), (.int .i64 r16.xProto)] 40, cellCh b18 [(.slice a22 l23 q24), (.bool r13.xAccept)] 25, ownCh (elSl elGRule) 101 (.slice a22 l23 q24) r13.xChains, roCh elU8 (.slice a27 l28 q29) r9, snapCh w0 F]) 9 #[true, true, true, true, true, true, true, true, true, true, true, true, false, true, true, true, false, false, false, false, false, false, false, false]) [(2, (.pointer (some ⟨b3, 0, none⟩))), (3, (.pointer (some ⟨b5, 0, none⟩))), (4, (.int .i64 0)), (5, (.int .i64 0)), (19, (.agg #[(.slice a22 l23 q24), (.bool r13.xAccept)])), (20, (.agg #[(.int .i64 r16.xFrom), (.int .i64 r16.xTo), (.int .i64 r16.xPort), (.int .i64 r16.xProto)])), (21, (.int .i64 r25)), (28, (.int .i64 r25)), (30, (.int .i64 (w64 (r25 + 1)))), (27, (.int .i64 r32)), (32, v59), (34, (.int .i64 r61))] [cellCh b7 [(.slice a27 l28 q29), (.int .i64 r62)] 122, ownCh elInt 3 v59 ([0, 0, 0, 1, 2, 3]), cellCh b20 [(.int .i64 r16.xFrom), (.int .i64 r16.xTo), (.int .i64 r16.xPort), (.int .i64 r16.xProto)] 40, cellCh b18 [(.slice a22 l23 q24), (.bool r13.xAccept)] 25, ownCh (elSl elGRule) 101 (.slice a22 l23 q24) r13.xChains, roCh elU8 (.slice a27 l28 q29) r9, cellCh b5 [(.int .i64 0), (.int .i64 0), (.int .i64 0), (.int .i64 0)] 40, cellCh b3 [(.slice none 0 0), (.bool false)] 25, snapCh w0 F] (idxW ([0, 0, 0, 1, 2, 3]) r61 (fun e38 => idxW ([r32, r25, (w64 (r25 + 1)), (-1)]) e38 (fun e40 => k31 e40))) := by
      intro r32 r33 v59 r61 r62
      refine d_three (i := 12) (j := 16) (l := 20) rfl rfl rfl (by kernel_rfl) ?_ ?_ ?_
      · intro o ho; cases ho
        refine o_bsl (enc := encInt) (qs := [(0, (.int .i64 r32)), (1, (.int .i64 r25)), (2, (.int .i64 (w64 (r25 + 1)))), (3, (.int .i64 (-1)))]) (cells := [(.int .i64 r32), (.int .i64 r25), (.int .i64 (w64 (r25 + 1))), (.int .i64 (-1))]) ([r32, r25, (w64 (r25 + 1)), (-1)]) flelInt (by intro ρ h; simp only [List.map_toArray, List.map_cons, List.map_nil, h (.tmp 27) _ rfl, h (.tmp 28) _ rfl, h (.tmp 30) _ rfl, h (.const (.int .i64 (-1))) _ rfl]) rfl el99 zero3 rfl rfl rfl rfl rfl rfl ?_; intro v63
        refine d_and (fun w m => m.pick [3, 4, 5, 6, 9] rfl) ?_
        refine pk [1, 2, 0, 3, 4, 5, 6, 7, 8, 9] rfl ?_
        refine re (E' := [(2, (.pointer (some ⟨b3, 0, none⟩))), (3, (.pointer (some ⟨b5, 0, none⟩))), (4, (.int .i64 0)), (5, (.int .i64 0)), (19, (.agg #[(.slice a22 l23 q24), (.bool r13.xAccept)])), (20, (.agg #[(.int .i64 r16.xFrom), (.int .i64 r16.xTo), (.int .i64 r16.xPort), (.int .i64 r16.xProto)])), (21, (.int .i64 r25)), (31, v63), (32, v59), (34, (.int .i64 r61))]) ⟨rfl, rfl, rfl, rfl, rfl, rfl, rfl, rfl, rfl, rfl, trivial⟩ ?_
        exact H821 r32 r33 v63 v59 r61 r62
      · intro o ho; cases ho
        refine o_idx m_op 1 rfl reads_own rfl rfl rfl el99 ?_; intro e64 h65
        refine d_and (fun w m => m.pick [2, 3, 4, 5, 8] rfl) ?_
        refine pk [0, 1, 2, 3, 4, 5, 6, 7, 8] rfl ?_
        refine re (E' := [(2, (.pointer (some ⟨b3, 0, none⟩))), (3, (.pointer (some ⟨b5, 0, none⟩))), (4, (.int .i64 0)), (5, (.int .i64 0)), (19, (.agg #[(.slice a22 l23 q24), (.bool r13.xAccept)])), (20, (.agg #[(.int .i64 r16.xFrom), (.int .i64 r16.xTo), (.int .i64 r16.xPort), (.int .i64 r16.xProto)])), (21, (.int .i64 r25)), (28, (.int .i64 r25)), (30, (.int .i64 (w64 (r25 + 1)))), (27, (.int .i64 r32)), (35, (pEl v59 r61 1 0))]) ⟨rfl, rfl, rfl, rfl, rfl, rfl, rfl, rfl, rfl, rfl, rfl, trivial⟩ ?_
        exact H834 r32 r33 v59 r61 r62 e64 h65
      · intro o ho; cases ho
        refine o_stc (cs' := [(.slice a22 l23 q24), (.bool r13.xAccept)]) 7 rfl rfl rfl ty25 rfl rfl rfl rfl ?_
        refine d_and (fun w m => m.pick [2, 3, 4, 5, 8] rfl) ?_
        refine pk [0, 1, 2, 3, 4, 5, 6, 7, 8] rfl ?_
        refine re (E' := [(2, (.pointer (some ⟨b3, 0, none⟩))), (3, (.pointer (some ⟨b5, 0, none⟩))), (4, (.int .i64 0)), (5, (.int .i64 0)), (20, (.agg #[(.int .i64 r16.xFrom), (.int .i64 r16.xTo), (.int .i64 r16.xPort), (.int .i64 r16.xProto)])), (21, (.int .i64 r25)), (28, (.int .i64 r25)), (30, (.int .i64 (w64 (r25 + 1)))), (27, (.int .i64 r32)), (32, v59), (34, (.int .i64 r61))]) ⟨rfl, rfl, rfl, rfl, rfl, rfl, rfl, rfl, rfl, rfl, rfl, trivial⟩ ?_
        exact H837 r32 r33 v59 r61 r62
    have H839 : ∀ (r32 : Int) (r33 : Int) (v59 : Value), Nx 39 (gB F [] w0) (feet []) w0 (wpAnyH Tryd.prog .any (opsAt Tryd.f21 [1, 1, 1, 1, 0]) Qd (Mem (gB F [] w0) (feet []) w0 [cellCh b20 [(.int .i64 r16.xFrom), (.int .i64 r16.xTo), (.int .i64 r16.xPort), (.int .i64 r16.xProto)] 40, cellCh b18 [(.slice a22 l23 q24), (.bool r13.xAccept)] 25, ownCh (elSl elGRule) 101 (.slice a22 l23 q24) r13.xChains, roCh elU8 (.slice a27 l28 q29) r9, snapCh w0 F]) 10 #[true, true, true, true, true, true, true, true, true, true, true, true, false, true, true, false, false, false, false, false, false, false, false, false]) [(2, (.pointer (some ⟨b3, 0, none⟩))), (3, (.pointer (some ⟨b5, 0, none⟩))), (4, (.int .i64 0)), (5, (.int .i64 0)), (19, (.agg #[(.slice a22 l23 q24), (.bool r13.xAccept)])), (20, (.agg #[(.int .i64 r16.xFrom), (.int .i64 r16.xTo), (.int .i64 r16.xPort), (.int .i64 r16.xProto)])), (21, (.int .i64 r25)), (28, (.int .i64 r25)), (30, (.int .i64 (w64 (r25 + 1)))), (33, (.pointer (some ⟨b7, 0, none⟩))), (27, (.int .i64 r32)), (32, v59)] [ownCh elInt 3 v59 ([0, 0, 0, 1, 2, 3]), cellCh b7 [(.slice a27 l28 q29), (.int .i64 r33)] 122, cellCh b20 [(.int .i64 r16.xFrom), (.int .i64 r16.xTo), (.int .i64 r16.xPort), (.int .i64 r16.xProto)] 40, cellCh b18 [(.slice a22 l23 q24), (.bool r13.xAccept)] 25, ownCh (elSl elGRule) 101 (.slice a22 l23 q24) r13.xChains, roCh elU8 (.slice a27 l28 q29) r9, cellCh b5 [(.int .i64 0), (.int .i64 0), (.int .i64 0), (.int .i64 0)] 40, cellCh b3 [(.slice none 0 0), (.bool false)] 25, snapCh w0 F] (L_spec_l20Rd_pick r9 r33 6 (fun (r36, r37) => idxW ([0, 0, 0, 1, 2, 3]) r36 (fun e38 => idxW ([r32, r25, (w64 (r25 + 1)), (-1)]) e38 (fun e40 => k31 e40)))) := by
      intro r32 r33 v59
      refine d_two (i := 12) (j := 15) rfl rfl (by kernel_rfl) ?_ ?_
      · intro o ho; cases ho
        refine o_bsl (enc := encInt) (qs := [(0, (.int .i64 r32)), (1, (.int .i64 r25)), (2, (.int .i64 (w64 (r25 + 1)))), (3, (.int .i64 (-1)))]) (cells := [(.int .i64 r32), (.int .i64 r25), (.int .i64 (w64 (r25 + 1))), (.int .i64 (-1))]) ([r32, r25, (w64 (r25 + 1)), (-1)]) flelInt (by intro ρ h; simp only [List.map_toArray, List.map_cons, List.map_nil, h (.tmp 27) _ rfl, h (.tmp 28) _ rfl, h (.tmp 30) _ rfl, h (.const (.int .i64 (-1))) _ rfl]) rfl el99 zero3 rfl rfl rfl rfl rfl rfl ?_; intro v60
        refine d_and (fun w m => m.pick [3, 4, 5, 6, 9] rfl) ?_
        refine pk [1, 0, 2, 3, 4, 5, 6, 7, 8, 9] rfl ?_
        refine re (E' := [(2, (.pointer (some ⟨b3, 0, none⟩))), (3, (.pointer (some ⟨b5, 0, none⟩))), (4, (.int .i64 0)), (5, (.int .i64 0)), (19, (.agg #[(.slice a22 l23 q24), (.bool r13.xAccept)])), (20, (.agg #[(.int .i64 r16.xFrom), (.int .i64 r16.xTo), (.int .i64 r16.xPort), (.int .i64 r16.xProto)])), (21, (.int .i64 r25)), (33, (.pointer (some ⟨b7, 0, none⟩))), (31, v60), (32, v59)]) ⟨rfl, rfl, rfl, rfl, rfl, rfl, rfl, rfl, rfl, rfl, trivial⟩ ?_
        exact H822 r32 r33 v60 v59
      · intro o ho; cases ho
        refine pk [1, 0, 2, 3, 4, 5, 6, 7, 8] rfl ?_
        refine o_call (vs := [(.pointer (some ⟨b7, 0, none⟩)), (.int .i64 6)]) (M0 := [cellCh b7 [(.slice a27 l28 q29), (.int .i64 r33)] 122]) Tryd.call68 rfl rfl (by intro w m h; exact (w_spec_l20Rd_pick (F := allB [cellCh b7 [(.slice a27 l28 q29), (.int .i64 r33)] 122] w) (r_0_b := r9) (r_0_p := r33) (n_1 := 6) allB_ok m.given (m.rdM 4 rfl reads_ro) h).mono (fun _ _ k => ret_free (fun r u => (fr_cons free_cell fr_nil)) k)) ?_; rintro ⟨r61, r62⟩ _
        refine d_and (fun w m => m.pick [2, 3, 4, 5, 8] rfl) ?_
        refine pk [0, 1, 2, 3, 4, 5, 6, 7, 8] rfl ?_
        refine re (E' := [(2, (.pointer (some ⟨b3, 0, none⟩))), (3, (.pointer (some ⟨b5, 0, none⟩))), (4, (.int .i64 0)), (5, (.int .i64 0)), (19, (.agg #[(.slice a22 l23 q24), (.bool r13.xAccept)])), (20, (.agg #[(.int .i64 r16.xFrom), (.int .i64 r16.xTo), (.int .i64 r16.xPort), (.int .i64 r16.xProto)])), (21, (.int .i64 r25)), (28, (.int .i64 r25)), (30, (.int .i64 (w64 (r25 + 1)))), (27, (.int .i64 r32)), (32, v59), (34, (.int .i64 r61))]) ⟨rfl, rfl, rfl, rfl, rfl, rfl, rfl, rfl, rfl, rfl, rfl, rfl, trivial⟩ ?_
        exact H838 r32 r33 v59 r61 r62
    have H840 : ∀ (r32 : Int) (r33 : Int) (r80 : Int) (r81 : Int) (v86 : Value), Nx 39 (gB F [] w0) (feet []) w0 (wpAnyH Tryd.prog .any (opsAt Tryd.f21 [1, 1, 1, 1, 0]) Qd (Mem (gB F [] w0) (feet []) w0 [cellCh b20 [(.int .i64 r16.xFrom), (.int .i64 r16.xTo), (.int .i64 r16.xPort), (.int .i64 r16.xProto)] 40, cellCh b18 [(.slice a22 l23 q24), (.bool r13.xAccept)] 25, ownCh (elSl elGRule) 101 (.slice a22 l23 q24) r13.xChains, roCh elU8 (.slice a27 l28 q29) r9, snapCh w0 F]) 6 #[true, true, true, true, true, true, true, true, true, true, true, true, true, false, true, true, false, false, false, false, true, true, true, false]) [(2, (.pointer (some ⟨b3, 0, none⟩))), (3, (.pointer (some ⟨b5, 0, none⟩))), (4, (.int .i64 r25)), (5, (.int .i64 0)), (34, (.int .i64 r80)), (31, v86)] [ownCh elInt 3 v86 ([r32, r25, (w64 (r25 + 1)), (-1)]), cellCh b7 [(.slice a27 l28 q29), (.int .i64 r81)] 122, cellCh b20 [(.int .i64 r16.xFrom), (.int .i64 r16.xTo), (.int .i64 r16.xPort), (.int .i64 r16.xProto)] 40, cellCh b18 [(.slice a22 l23 q24), (.bool r13.xAccept)] 25, ownCh (elSl elGRule) 101 (.slice a22 l23 q24) r13.xChains, roCh elU8 (.slice a27 l28 q29) r9, cellCh b5 [(.int .i64 r16.xFrom), (.int .i64 r16.xTo), (.int .i64 r16.xPort), (.int .i64 r16.xProto)] 40, cellCh b3 [(.slice a22 l23 q24), (.bool r13.xAccept)] 25, snapCh w0 F] (idxW ([0, 0, 0, 1, 2, 3]) r80 (fun e57 => idxW ([r32, r25, (w64 (r25 + 1)), (-1)]) e57 (fun e46 => k31 e46))) := by
      intro r32 r33 r80 r81 v86
      refine d_one (i := 13) rfl (by kernel_rfl) (o_bsl (enc := encInt) (qs := [(0, (.int .i64 0)), (1, (.int .i64 0)), (2, (.int .i64 0)), (3, (.int .i64 1)), (4, (.int .i64 2)), (5, (.int .i64 3))]) (cells := [(.int .i64 0), (.int .i64 0), (.int .i64 0), (.int .i64 1), (.int .i64 2), (.int .i64 3)]) ([0, 0, 0, 1, 2, 3]) flelInt (by intro ρ h; simp only [List.map_toArray, List.map_cons, List.map_nil, h (.const (.int .i64 0)) _ rfl, h (.const (.int .i64 0)) _ rfl, h (.const (.int .i64 0)) _ rfl, h (.const (.int .i64 1)) _ rfl, h (.const (.int .i64 2)) _ rfl, h (.const (.int .i64 3)) _ rfl]) rfl el99 zero3 rfl rfl rfl rfl rfl rfl ?_); intro v87
      refine d_and (fun w m => m.pick [3, 4, 5, 6, 9] rfl) ?_
      refine pk [0, 2, 1, 3, 4, 5, 6, 7, 8, 9] rfl ?_
      refine re (E' := [(2, (.pointer (some ⟨b3, 0, none⟩))), (3, (.pointer (some ⟨b5, 0, none⟩))), (4, (.int .i64 r25)), (5, (.int .i64 0)), (31, v86), (34, (.int .i64 r80)), (32, v87)]) ⟨rfl, rfl, rfl, rfl, rfl, rfl, rfl, trivial⟩ ?_
      exact H823 r32 r33 v86 r80 r81 v87
    have H841 : ∀ (r32 : Int) (r33 : Int) (r80 : Int) (r81 : Int) (v88 : Value), Nx 39 (gB F [] w0) (feet []) w0 (wpAnyH Tryd.prog .any (opsAt Tryd.f21 [1, 1, 1, 1, 0]) Qd (Mem (gB F [] w0) (feet []) w0 [cellCh b20 [(.int .i64 r16.xFrom), (.int .i64 r16.xTo), (.int .i64 r16.xPort), (.int .i64 r16.xProto)] 40, cellCh b18 [(.slice a22 l23 q24), (.bool r13.xAccept)] 25, ownCh (elSl elGRule) 101 (.slice a22 l23 q24) r13.xChains, roCh elU8 (.slice a27 l28 q29) r9, snapCh w0 F]) 6 #[true, true, true, true, true, true, true, true, true, true, true, true, false, true, true, true, false, false, false, false, true, true, true, false]) [(2, (.pointer (some ⟨b3, 0, none⟩))), (3, (.pointer (some ⟨b5, 0, none⟩))), (4, (.int .i64 r25)), (5, (.int .i64 0)), (28, (.int .i64 r25)), (30, (.int .i64 (w64 (r25 + 1)))), (27, (.int .i64 r32)), (34, (.int .i64 r80)), (32, v88)] [ownCh elInt 3 v88 ([0, 0, 0, 1, 2, 3]), cellCh b7 [(.slice a27 l28 q29), (.int .i64 r81)] 122, cellCh b20 [(.int .i64 r16.xFrom), (.int .i64 r16.xTo), (.int .i64 r16.xPort), (.int .i64 r16.xProto)] 40, cellCh b18 [(.slice a22 l23 q24), (.bool r13.xAccept)] 25, ownCh (elSl elGRule) 101 (.slice a22 l23 q24) r13.xChains, roCh elU8 (.slice a27 l28 q29) r9, cellCh b5 [(.int .i64 r16.xFrom), (.int .i64 r16.xTo), (.int .i64 r16.xPort), (.int .i64 r16.xProto)] 40, cellCh b3 [(.slice a22 l23 q24), (.bool r13.xAccept)] 25, snapCh w0 F] (idxW ([0, 0, 0, 1, 2, 3]) r80 (fun e57 => idxW ([r32, r25, (w64 (r25 + 1)), (-1)]) e57 (fun e46 => k31 e46))) := by
      intro r32 r33 r80 r81 v88
      refine d_two (i := 12) (j := 16) rfl rfl (by kernel_rfl) ?_ ?_
      · intro o ho; cases ho
        refine o_bsl (enc := encInt) (qs := [(0, (.int .i64 r32)), (1, (.int .i64 r25)), (2, (.int .i64 (w64 (r25 + 1)))), (3, (.int .i64 (-1)))]) (cells := [(.int .i64 r32), (.int .i64 r25), (.int .i64 (w64 (r25 + 1))), (.int .i64 (-1))]) ([r32, r25, (w64 (r25 + 1)), (-1)]) flelInt (by intro ρ h; simp only [List.map_toArray, List.map_cons, List.map_nil, h (.tmp 27) _ rfl, h (.tmp 28) _ rfl, h (.tmp 30) _ rfl, h (.const (.int .i64 (-1))) _ rfl]) rfl el99 zero3 rfl rfl rfl rfl rfl rfl ?_; intro v89
        refine d_and (fun w m => m.pick [3, 4, 5, 6, 9] rfl) ?_
        refine pk [1, 2, 0, 3, 4, 5, 6, 7, 8, 9] rfl ?_
        refine re (E' := [(2, (.pointer (some ⟨b3, 0, none⟩))), (3, (.pointer (some ⟨b5, 0, none⟩))), (4, (.int .i64 r25)), (5, (.int .i64 0)), (31, v89), (34, (.int .i64 r80)), (32, v88)]) ⟨rfl, rfl, rfl, rfl, rfl, rfl, rfl, trivial⟩ ?_
        exact H823 r32 r33 v89 r80 r81 v88
      · intro o ho; cases ho
        refine o_idx m_op 0 rfl reads_own rfl rfl rfl el99 ?_; intro e90 h91
        refine d_and (fun w m => m.pick [2, 3, 4, 5, 8] rfl) ?_
        refine pk [1, 0, 2, 3, 4, 5, 6, 7, 8] rfl ?_
        refine re (E' := [(2, (.pointer (some ⟨b3, 0, none⟩))), (3, (.pointer (some ⟨b5, 0, none⟩))), (4, (.int .i64 r25)), (5, (.int .i64 0)), (28, (.int .i64 r25)), (30, (.int .i64 (w64 (r25 + 1)))), (27, (.int .i64 r32)), (35, (pEl v88 r80 1 0))]) ⟨rfl, rfl, rfl, rfl, rfl, rfl, rfl, rfl, trivial⟩ ?_
        exact H835 r32 r33 v88 r80 r81 e90 h91
    have H842 : ∀ (r32 : Int) (r33 : Int) (r80 : Int) (r81 : Int), Nx 39 (gB F [] w0) (feet []) w0 (wpAnyH Tryd.prog .any (opsAt Tryd.f21 [1, 1, 1, 1, 0]) Qd (Mem (gB F [] w0) (feet []) w0 [cellCh b20 [(.int .i64 r16.xFrom), (.int .i64 r16.xTo), (.int .i64 r16.xPort), (.int .i64 r16.xProto)] 40, cellCh b18 [(.slice a22 l23 q24), (.bool r13.xAccept)] 25, ownCh (elSl elGRule) 101 (.slice a22 l23 q24) r13.xChains, roCh elU8 (.slice a27 l28 q29) r9, snapCh w0 F]) 8 #[true, true, true, true, true, true, true, true, true, true, true, true, false, false, true, true, false, false, false, false, true, true, false, false]) [(2, (.pointer (some ⟨b3, 0, none⟩))), (3, (.pointer (some ⟨b5, 0, none⟩))), (4, (.int .i64 0)), (5, (.int .i64 0)), (21, (.int .i64 r25)), (28, (.int .i64 r25)), (30, (.int .i64 (w64 (r25 + 1)))), (27, (.int .i64 r32)), (34, (.int .i64 r80))] [cellCh b7 [(.slice a27 l28 q29), (.int .i64 r81)] 122, cellCh b20 [(.int .i64 r16.xFrom), (.int .i64 r16.xTo), (.int .i64 r16.xPort), (.int .i64 r16.xProto)] 40, cellCh b18 [(.slice a22 l23 q24), (.bool r13.xAccept)] 25, ownCh (elSl elGRule) 101 (.slice a22 l23 q24) r13.xChains, roCh elU8 (.slice a27 l28 q29) r9, cellCh b5 [(.int .i64 r16.xFrom), (.int .i64 r16.xTo), (.int .i64 r16.xPort), (.int .i64 r16.xProto)] 40, cellCh b3 [(.slice a22 l23 q24), (.bool r13.xAccept)] 25, snapCh w0 F] (idxW ([0, 0, 0, 1, 2, 3]) r80 (fun e57 => idxW ([r32, r25, (w64 (r25 + 1)), (-1)]) e57 (fun e46 => k31 e46))) := by
      intro r32 r33 r80 r81
      refine o_as (dt 22 (fun w m => m.pick [1, 2, 3, 4, 7] rfl)) rfl rfl ?_
      refine d_two (i := 12) (j := 13) rfl rfl (by kernel_rfl) ?_ ?_
      · intro o ho; cases ho
        refine o_bsl (enc := encInt) (qs := [(0, (.int .i64 r32)), (1, (.int .i64 r25)), (2, (.int .i64 (w64 (r25 + 1)))), (3, (.int .i64 (-1)))]) (cells := [(.int .i64 r32), (.int .i64 r25), (.int .i64 (w64 (r25 + 1))), (.int .i64 (-1))]) ([r32, r25, (w64 (r25 + 1)), (-1)]) flelInt (by intro ρ h; simp only [List.map_toArray, List.map_cons, List.map_nil, h (.tmp 27) _ rfl, h (.tmp 28) _ rfl, h (.tmp 30) _ rfl, h (.const (.int .i64 (-1))) _ rfl]) rfl el99 zero3 rfl rfl rfl rfl rfl rfl ?_; intro v86
        refine d_and (fun w m => m.pick [2, 3, 4, 5, 8] rfl) ?_
        refine pk [0, 1, 2, 3, 4, 5, 6, 7, 8] rfl ?_
        refine re (E' := [(2, (.pointer (some ⟨b3, 0, none⟩))), (3, (.pointer (some ⟨b5, 0, none⟩))), (4, (.int .i64 r25)), (5, (.int .i64 0)), (34, (.int .i64 r80)), (31, v86)]) ⟨rfl, rfl, rfl, rfl, rfl, rfl, trivial⟩ ?_
        exact H840 r32 r33 r80 r81 v86
      · intro o ho; cases ho
        refine o_bsl (enc := encInt) (qs := [(0, (.int .i64 0)), (1, (.int .i64 0)), (2, (.int .i64 0)), (3, (.int .i64 1)), (4, (.int .i64 2)), (5, (.int .i64 3))]) (cells := [(.int .i64 0), (.int .i64 0), (.int .i64 0), (.int .i64 1), (.int .i64 2), (.int .i64 3)]) ([0, 0, 0, 1, 2, 3]) flelInt (by intro ρ h; simp only [List.map_toArray, List.map_cons, List.map_nil, h (.const (.int .i64 0)) _ rfl, h (.const (.int .i64 0)) _ rfl, h (.const (.int .i64 0)) _ rfl, h (.const (.int .i64 1)) _ rfl, h (.const (.int .i64 2)) _ rfl, h (.const (.int .i64 3)) _ rfl]) rfl el99 zero3 rfl rfl rfl rfl rfl rfl ?_; intro v88
        refine d_and (fun w m => m.pick [2, 3, 4, 5, 8] rfl) ?_
        refine pk [0, 1, 2, 3, 4, 5, 6, 7, 8] rfl ?_
        refine re (E' := [(2, (.pointer (some ⟨b3, 0, none⟩))), (3, (.pointer (some ⟨b5, 0, none⟩))), (4, (.int .i64 r25)), (5, (.int .i64 0)), (28, (.int .i64 r25)), (30, (.int .i64 (w64 (r25 + 1)))), (27, (.int .i64 r32)), (34, (.int .i64 r80)), (32, v88)]) ⟨rfl, rfl, rfl, rfl, rfl, rfl, rfl, rfl, rfl, trivial⟩ ?_
        exact H841 r32 r33 r80 r81 v88
    have H843 : ∀ (r32 : Int) (r33 : Int) (r80 : Int) (r81 : Int), Nx 39 (gB F [] w0) (feet []) w0 (wpAnyH Tryd.prog .any (opsAt Tryd.f21 [1, 1, 1, 1, 0]) Qd (Mem (gB F [] w0) (feet []) w0 [cellCh b20 [(.int .i64 r16.xFrom), (.int .i64 r16.xTo), (.int .i64 r16.xPort), (.int .i64 r16.xProto)] 40, cellCh b18 [(.slice a22 l23 q24), (.bool r13.xAccept)] 25, ownCh (elSl elGRule) 101 (.slice a22 l23 q24) r13.xChains, roCh elU8 (.slice a27 l28 q29) r9, snapCh w0 F]) 9 #[true, true, true, true, true, true, true, true, true, true, true, true, false, false, true, true, false, false, false, false, true, false, false, false]) [(2, (.pointer (some ⟨b3, 0, none⟩))), (3, (.pointer (some ⟨b5, 0, none⟩))), (4, (.int .i64 0)), (5, (.int .i64 0)), (20, (.agg #[(.int .i64 r16.xFrom), (.int .i64 r16.xTo), (.int .i64 r16.xPort), (.int .i64 r16.xProto)])), (21, (.int .i64 r25)), (28, (.int .i64 r25)), (30, (.int .i64 (w64 (r25 + 1)))), (27, (.int .i64 r32)), (34, (.int .i64 r80))] [cellCh b7 [(.slice a27 l28 q29), (.int .i64 r81)] 122, cellCh b20 [(.int .i64 r16.xFrom), (.int .i64 r16.xTo), (.int .i64 r16.xPort), (.int .i64 r16.xProto)] 40, cellCh b18 [(.slice a22 l23 q24), (.bool r13.xAccept)] 25, ownCh (elSl elGRule) 101 (.slice a22 l23 q24) r13.xChains, roCh elU8 (.slice a27 l28 q29) r9, cellCh b5 [(.int .i64 0), (.int .i64 0), (.int .i64 0), (.int .i64 0)] 40, cellCh b3 [(.slice a22 l23 q24), (.bool r13.xAccept)] 25, snapCh w0 F] (idxW ([0, 0, 0, 1, 2, 3]) r80 (fun e48 => idxW ([r32, r25, (w64 (r25 + 1)), (-1)]) e48 (fun e42 => k31 e42))) := by
      intro r32 r33 r80 r81
      refine d_three (i := 12) (j := 13) (l := 21) rfl rfl rfl (by kernel_rfl) ?_ ?_ ?_
      · intro o ho; cases ho
        refine o_bsl (enc := encInt) (qs := [(0, (.int .i64 r32)), (1, (.int .i64 r25)), (2, (.int .i64 (w64 (r25 + 1)))), (3, (.int .i64 (-1)))]) (cells := [(.int .i64 r32), (.int .i64 r25), (.int .i64 (w64 (r25 + 1))), (.int .i64 (-1))]) ([r32, r25, (w64 (r25 + 1)), (-1)]) flelInt (by intro ρ h; simp only [List.map_toArray, List.map_cons, List.map_nil, h (.tmp 27) _ rfl, h (.tmp 28) _ rfl, h (.tmp 30) _ rfl, h (.const (.int .i64 (-1))) _ rfl]) rfl el99 zero3 rfl rfl rfl rfl rfl rfl ?_; intro v84
        refine d_and (fun w m => m.pick [2, 3, 4, 5, 8] rfl) ?_
        refine pk [1, 0, 2, 3, 4, 5, 6, 7, 8] rfl ?_
        refine re (E' := [(2, (.pointer (some ⟨b3, 0, none⟩))), (3, (.pointer (some ⟨b5, 0, none⟩))), (4, (.int .i64 0)), (5, (.int .i64 0)), (20, (.agg #[(.int .i64 r16.xFrom), (.int .i64 r16.xTo), (.int .i64 r16.xPort), (.int .i64 r16.xProto)])), (21, (.int .i64 r25)), (31, v84), (34, (.int .i64 r80))]) ⟨rfl, rfl, rfl, rfl, rfl, rfl, rfl, rfl, trivial⟩ ?_
        exact H825 r32 r33 v84 r80 r81
      · intro o ho; cases ho
        refine o_bsl (enc := encInt) (qs := [(0, (.int .i64 0)), (1, (.int .i64 0)), (2, (.int .i64 0)), (3, (.int .i64 1)), (4, (.int .i64 2)), (5, (.int .i64 3))]) (cells := [(.int .i64 0), (.int .i64 0), (.int .i64 0), (.int .i64 1), (.int .i64 2), (.int .i64 3)]) ([0, 0, 0, 1, 2, 3]) flelInt (by intro ρ h; simp only [List.map_toArray, List.map_cons, List.map_nil, h (.const (.int .i64 0)) _ rfl, h (.const (.int .i64 0)) _ rfl, h (.const (.int .i64 0)) _ rfl, h (.const (.int .i64 1)) _ rfl, h (.const (.int .i64 2)) _ rfl, h (.const (.int .i64 3)) _ rfl]) rfl el99 zero3 rfl rfl rfl rfl rfl rfl ?_; intro v85
        refine d_and (fun w m => m.pick [2, 3, 4, 5, 8] rfl) ?_
        refine pk [1, 0, 2, 3, 4, 5, 6, 7, 8] rfl ?_
        refine re (E' := [(2, (.pointer (some ⟨b3, 0, none⟩))), (3, (.pointer (some ⟨b5, 0, none⟩))), (4, (.int .i64 0)), (5, (.int .i64 0)), (20, (.agg #[(.int .i64 r16.xFrom), (.int .i64 r16.xTo), (.int .i64 r16.xPort), (.int .i64 r16.xProto)])), (21, (.int .i64 r25)), (28, (.int .i64 r25)), (30, (.int .i64 (w64 (r25 + 1)))), (27, (.int .i64 r32)), (32, v85), (34, (.int .i64 r80))]) ⟨rfl, rfl, rfl, rfl, rfl, rfl, rfl, rfl, rfl, rfl, rfl, trivial⟩ ?_
        exact H837 r32 r33 v85 r80 r81
      · intro o ho; cases ho
        refine o_stc (cs' := [(.int .i64 r16.xFrom), (.int .i64 r16.xTo), (.int .i64 r16.xPort), (.int .i64 r16.xProto)]) 5 rfl rfl rfl ty40 rfl rfl rfl rfl ?_
        refine d_and (fun w m => m.pick [1, 2, 3, 4, 7] rfl) ?_
        refine pk [0, 1, 2, 3, 4, 5, 6, 7] rfl ?_
        refine re (E' := [(2, (.pointer (some ⟨b3, 0, none⟩))), (3, (.pointer (some ⟨b5, 0, none⟩))), (4, (.int .i64 0)), (5, (.int .i64 0)), (21, (.int .i64 r25)), (28, (.int .i64 r25)), (30, (.int .i64 (w64 (r25 + 1)))), (27, (.int .i64 r32)), (34, (.int .i64 r80))]) ⟨rfl, rfl, rfl, rfl, rfl, rfl, rfl, rfl, rfl, trivial⟩ ?_
        exact H842 r32 r33 r80 r81
    have H844 : ∀ (r32 : Int) (r33 : Int) (r80 : Int) (r81 : Int), Nx 39 (gB F [] w0) (feet []) w0 (wpAnyH Tryd.prog .any (opsAt Tryd.f21 [1, 1, 1, 1, 0]) Qd (Mem (gB F [] w0) (feet []) w0 [cellCh b20 [(.int .i64 r16.xFrom), (.int .i64 r16.xTo), (.int .i64 r16.xPort), (.int .i64 r16.xProto)] 40, cellCh b18 [(.slice a22 l23 q24), (.bool r13.xAccept)] 25, ownCh (elSl elGRule) 101 (.slice a22 l23 q24) r13.xChains, roCh elU8 (.slice a27 l28 q29) r9, snapCh w0 F]) 10 #[true, true, true, true, true, true, true, true, true, true, true, true, false, false, true, true, false, false, false, false, false, false, false, false]) [(2, (.pointer (some ⟨b3, 0, none⟩))), (3, (.pointer (some ⟨b5, 0, none⟩))), (4, (.int .i64 0)), (5, (.int .i64 0)), (19, (.agg #[(.slice a22 l23 q24), (.bool r13.xAccept)])), (20, (.agg #[(.int .i64 r16.xFrom), (.int .i64 r16.xTo), (.int .i64 r16.xPort), (.int .i64 r16.xProto)])), (21, (.int .i64 r25)), (28, (.int .i64 r25)), (30, (.int .i64 (w64 (r25 + 1)))), (27, (.int .i64 r32)), (34, (.int .i64 r80))] [cellCh b7 [(.slice a27 l28 q29), (.int .i64 r81)] 122, cellCh b20 [(.int .i64 r16.xFrom), (.int .i64 r16.xTo), (.int .i64 r16.xPort), (.int .i64 r16.xProto)] 40, cellCh b18 [(.slice a22 l23 q24), (.bool r13.xAccept)] 25, ownCh (elSl elGRule) 101 (.slice a22 l23 q24) r13.xChains, roCh elU8 (.slice a27 l28 q29) r9, cellCh b5 [(.int .i64 0), (.int .i64 0), (.int .i64 0), (.int .i64 0)] 40, cellCh b3 [(.slice none 0 0), (.bool false)] 25, snapCh w0 F] (idxW ([0, 0, 0, 1, 2, 3]) r80 (fun e38 => idxW ([r32, r25, (w64 (r25 + 1)), (-1)]) e38 (fun e40 => k31 e40))) := by
      intro r32 r33 r80 r81
      refine d_three (i := 12) (j := 13) (l := 20) rfl rfl rfl (by kernel_rfl) ?_ ?_ ?_
      · intro o ho; cases ho
        refine o_bsl (enc := encInt) (qs := [(0, (.int .i64 r32)), (1, (.int .i64 r25)), (2, (.int .i64 (w64 (r25 + 1)))), (3, (.int .i64 (-1)))]) (cells := [(.int .i64 r32), (.int .i64 r25), (.int .i64 (w64 (r25 + 1))), (.int .i64 (-1))]) ([r32, r25, (w64 (r25 + 1)), (-1)]) flelInt (by intro ρ h; simp only [List.map_toArray, List.map_cons, List.map_nil, h (.tmp 27) _ rfl, h (.tmp 28) _ rfl, h (.tmp 30) _ rfl, h (.const (.int .i64 (-1))) _ rfl]) rfl el99 zero3 rfl rfl rfl rfl rfl rfl ?_; intro v82
        refine d_and (fun w m => m.pick [2, 3, 4, 5, 8] rfl) ?_
        refine pk [1, 0, 2, 3, 4, 5, 6, 7, 8] rfl ?_
        refine re (E' := [(2, (.pointer (some ⟨b3, 0, none⟩))), (3, (.pointer (some ⟨b5, 0, none⟩))), (4, (.int .i64 0)), (5, (.int .i64 0)), (19, (.agg #[(.slice a22 l23 q24), (.bool r13.xAccept)])), (20, (.agg #[(.int .i64 r16.xFrom), (.int .i64 r16.xTo), (.int .i64 r16.xPort), (.int .i64 r16.xProto)])), (21, (.int .i64 r25)), (31, v82), (34, (.int .i64 r80))]) ⟨rfl, rfl, rfl, rfl, rfl, rfl, rfl, rfl, rfl, trivial⟩ ?_
        exact H826 r32 r33 v82 r80 r81
      · intro o ho; cases ho
        refine o_bsl (enc := encInt) (qs := [(0, (.int .i64 0)), (1, (.int .i64 0)), (2, (.int .i64 0)), (3, (.int .i64 1)), (4, (.int .i64 2)), (5, (.int .i64 3))]) (cells := [(.int .i64 0), (.int .i64 0), (.int .i64 0), (.int .i64 1), (.int .i64 2), (.int .i64 3)]) ([0, 0, 0, 1, 2, 3]) flelInt (by intro ρ h; simp only [List.map_toArray, List.map_cons, List.map_nil, h (.const (.int .i64 0)) _ rfl, h (.const (.int .i64 0)) _ rfl, h (.const (.int .i64 0)) _ rfl, h (.const (.int .i64 1)) _ rfl, h (.const (.int .i64 2)) _ rfl, h (.const (.int .i64 3)) _ rfl]) rfl el99 zero3 rfl rfl rfl rfl rfl rfl ?_; intro v83
        refine d_and (fun w m => m.pick [2, 3, 4, 5, 8] rfl) ?_
        refine pk [1, 0, 2, 3, 4, 5, 6, 7, 8] rfl ?_
        refine re (E' := [(2, (.pointer (some ⟨b3, 0, none⟩))), (3, (.pointer (some ⟨b5, 0, none⟩))), (4, (.int .i64 0)), (5, (.int .i64 0)), (19, (.agg #[(.slice a22 l23 q24), (.bool r13.xAccept)])), (20, (.agg #[(.int .i64 r16.xFrom), (.int .i64 r16.xTo), (.int .i64 r16.xPort), (.int .i64 r16.xProto)])), (21, (.int .i64 r25)), (28, (.int .i64 r25)), (30, (.int .i64 (w64 (r25 + 1)))), (27, (.int .i64 r32)), (32, v83), (34, (.int .i64 r80))]) ⟨rfl, rfl, rfl, rfl, rfl, rfl, rfl, rfl, rfl, rfl, rfl, rfl, trivial⟩ ?_
        exact H838 r32 r33 v83 r80 r81
      · intro o ho; cases ho
        refine o_stc (cs' := [(.slice a22 l23 q24), (.bool r13.xAccept)]) 6 rfl rfl rfl ty25 rfl rfl rfl rfl ?_
        refine d_and (fun w m => m.pick [1, 2, 3, 4, 7] rfl) ?_
        refine pk [0, 1, 2, 3, 4, 5, 6, 7] rfl ?_
        refine re (E' := [(2, (.pointer (some ⟨b3, 0, none⟩))), (3, (.pointer (some ⟨b5, 0, none⟩))), (4, (.int .i64 0)), (5, (.int .i64 0)), (20, (.agg #[(.int .i64 r16.xFrom), (.int .i64 r16.xTo), (.int .i64 r16.xPort), (.int .i64 r16.xProto)])), (21, (.int .i64 r25)), (28, (.int .i64 r25)), (30, (.int .i64 (w64 (r25 + 1)))), (27, (.int .i64 r32)), (34, (.int .i64 r80))]) ⟨rfl, rfl, rfl, rfl, rfl, rfl, rfl, rfl, rfl, rfl, trivial⟩ ?_
        exact H843 r32 r33 r80 r81
    have H845 : ∀ (r32 : Int) (r33 : Int), Nx 39 (gB F [] w0) (feet []) w0 (wpAnyH Tryd.prog .any (opsAt Tryd.f21 [1, 1, 1, 1, 0]) Qd (Mem (gB F [] w0) (feet []) w0 [cellCh b20 [(.int .i64 r16.xFrom), (.int .i64 r16.xTo), (.int .i64 r16.xPort), (.int .i64 r16.xProto)] 40, cellCh b18 [(.slice a22 l23 q24), (.bool r13.xAccept)] 25, ownCh (elSl elGRule) 101 (.slice a22 l23 q24) r13.xChains, roCh elU8 (.slice a27 l28 q29) r9, snapCh w0 F]) 11 #[true, true, true, true, true, true, true, true, true, true, true, true, false, false, true, false, false, false, false, false, false, false, false, false]) [(2, (.pointer (some ⟨b3, 0, none⟩))), (3, (.pointer (some ⟨b5, 0, none⟩))), (4, (.int .i64 0)), (5, (.int .i64 0)), (19, (.agg #[(.slice a22 l23 q24), (.bool r13.xAccept)])), (20, (.agg #[(.int .i64 r16.xFrom), (.int .i64 r16.xTo), (.int .i64 r16.xPort), (.int .i64 r16.xProto)])), (21, (.int .i64 r25)), (28, (.int .i64 r25)), (30, (.int .i64 (w64 (r25 + 1)))), (33, (.pointer (some ⟨b7, 0, none⟩))), (27, (.int .i64 r32))] [cellCh b7 [(.slice a27 l28 q29), (.int .i64 r33)] 122, cellCh b20 [(.int .i64 r16.xFrom), (.int .i64 r16.xTo), (.int .i64 r16.xPort), (.int .i64 r16.xProto)] 40, cellCh b18 [(.slice a22 l23 q24), (.bool r13.xAccept)] 25, ownCh (elSl elGRule) 101 (.slice a22 l23 q24) r13.xChains, roCh elU8 (.slice a27 l28 q29) r9, cellCh b5 [(.int .i64 0), (.int .i64 0), (.int .i64 0), (.int .i64 0)] 40, cellCh b3 [(.slice none 0 0), (.bool false)] 25, snapCh w0 F] (L_spec_l20Rd_pick r9 r33 6 (fun (r36, r37) => idxW ([0, 0, 0, 1, 2, 3]) r36 (fun e38 => idxW ([r32, r25, (w64 (r25 + 1)), (-1)]) e38 (fun e40 => k31 e40)))) := by
      intro r32 r33
      refine d_three (i := 12) (j := 13) (l := 15) rfl rfl rfl (by kernel_rfl) ?_ ?_ ?_
      · intro o ho; cases ho
        refine o_bsl (enc := encInt) (qs := [(0, (.int .i64 r32)), (1, (.int .i64 r25)), (2, (.int .i64 (w64 (r25 + 1)))), (3, (.int .i64 (-1)))]) (cells := [(.int .i64 r32), (.int .i64 r25), (.int .i64 (w64 (r25 + 1))), (.int .i64 (-1))]) ([r32, r25, (w64 (r25 + 1)), (-1)]) flelInt (by intro ρ h; simp only [List.map_toArray, List.map_cons, List.map_nil, h (.tmp 27) _ rfl, h (.tmp 28) _ rfl, h (.tmp 30) _ rfl, h (.const (.int .i64 (-1))) _ rfl]) rfl el99 zero3 rfl rfl rfl rfl rfl rfl ?_; intro v34
        refine d_and (fun w m => m.pick [2, 3, 4, 5, 8] rfl) ?_
        refine pk [0, 1, 2, 3, 4, 5, 6, 7, 8] rfl ?_
        refine re (E' := [(2, (.pointer (some ⟨b3, 0, none⟩))), (3, (.pointer (some ⟨b5, 0, none⟩))), (4, (.int .i64 0)), (5, (.int .i64 0)), (19, (.agg #[(.slice a22 l23 q24), (.bool r13.xAccept)])), (20, (.agg #[(.int .i64 r16.xFrom), (.int .i64 r16.xTo), (.int .i64 r16.xPort), (.int .i64 r16.xProto)])), (21, (.int .i64 r25)), (33, (.pointer (some ⟨b7, 0, none⟩))), (31, v34)]) ⟨rfl, rfl, rfl, rfl, rfl, rfl, rfl, rfl, rfl, trivial⟩ ?_
        exact H827 r32 r33 v34
      · intro o ho; cases ho
        refine o_bsl (enc := encInt) (qs := [(0, (.int .i64 0)), (1, (.int .i64 0)), (2, (.int .i64 0)), (3, (.int .i64 1)), (4, (.int .i64 2)), (5, (.int .i64 3))]) (cells := [(.int .i64 0), (.int .i64 0), (.int .i64 0), (.int .i64 1), (.int .i64 2), (.int .i64 3)]) ([0, 0, 0, 1, 2, 3]) flelInt (by intro ρ h; simp only [List.map_toArray, List.map_cons, List.map_nil, h (.const (.int .i64 0)) _ rfl, h (.const (.int .i64 0)) _ rfl, h (.const (.int .i64 0)) _ rfl, h (.const (.int .i64 1)) _ rfl, h (.const (.int .i64 2)) _ rfl, h (.const (.int .i64 3)) _ rfl]) rfl el99 zero3 rfl rfl rfl rfl rfl rfl ?_; intro v59
        refine d_and (fun w m => m.pick [2, 3, 4, 5, 8] rfl) ?_
        refine pk [0, 1, 2, 3, 4, 5, 6, 7, 8] rfl ?_
        refine re (E' := [(2, (.pointer (some ⟨b3, 0, none⟩))), (3, (.pointer (some ⟨b5, 0, none⟩))), (4, (.int .i64 0)), (5, (.int .i64 0)), (19, (.agg #[(.slice a22 l23 q24), (.bool r13.xAccept)])), (20, (.agg #[(.int .i64 r16.xFrom), (.int .i64 r16.xTo), (.int .i64 r16.xPort), (.int .i64 r16.xProto)])), (21, (.int .i64 r25)), (28, (.int .i64 r25)), (30, (.int .i64 (w64 (r25 + 1)))), (33, (.pointer (some ⟨b7, 0, none⟩))), (27, (.int .i64 r32)), (32, v59)]) ⟨rfl, rfl, rfl, rfl, rfl, rfl, rfl, rfl, rfl, rfl, rfl, rfl, trivial⟩ ?_
        exact H839 r32 r33 v59
      · intro o ho; cases ho
        refine o_call (vs := [(.pointer (some ⟨b7, 0, none⟩)), (.int .i64 6)]) (M0 := [cellCh b7 [(.slice a27 l28 q29), (.int .i64 r33)] 122]) Tryd.call68 rfl rfl (by intro w m h; exact (w_spec_l20Rd_pick (F := allB [cellCh b7 [(.slice a27 l28 q29), (.int .i64 r33)] 122] w) (r_0_b := r9) (r_0_p := r33) (n_1 := 6) allB_ok m.given (m.rdM 3 rfl reads_ro) h).mono (fun _ _ k => ret_free (fun r u => (fr_cons free_cell fr_nil)) k)) ?_; rintro ⟨r80, r81⟩ _
        refine d_and (fun w m => m.pick [1, 2, 3, 4, 7] rfl) ?_
        refine pk [0, 1, 2, 3, 4, 5, 6, 7] rfl ?_
        refine re (E' := [(2, (.pointer (some ⟨b3, 0, none⟩))), (3, (.pointer (some ⟨b5, 0, none⟩))), (4, (.int .i64 0)), (5, (.int .i64 0)), (19, (.agg #[(.slice a22 l23 q24), (.bool r13.xAccept)])), (20, (.agg #[(.int .i64 r16.xFrom), (.int .i64 r16.xTo), (.int .i64 r16.xPort), (.int .i64 r16.xProto)])), (21, (.int .i64 r25)), (28, (.int .i64 r25)), (30, (.int .i64 (w64 (r25 + 1)))), (27, (.int .i64 r32)), (34, (.int .i64 r80))]) ⟨rfl, rfl, rfl, rfl, rfl, rfl, rfl, rfl, rfl, rfl, rfl, trivial⟩ ?_
        exact H844 r32 r33 r80 r81
    have H846 : ∀ (v92 : Value), Nx 39 (gB F [] w0) (feet []) w0 (wpAnyH Tryd.prog .any (opsAt Tryd.f21 [1, 1, 1, 1, 0]) Qd (Mem (gB F [] w0) (feet []) w0 [cellCh b20 [(.int .i64 r16.xFrom), (.int .i64 r16.xTo), (.int .i64 r16.xPort), (.int .i64 r16.xProto)] 40, cellCh b18 [(.slice a22 l23 q24), (.bool r13.xAccept)] 25, ownCh (elSl elGRule) 101 (.slice a22 l23 q24) r13.xChains, roCh elU8 (.slice a27 l28 q29) r9, snapCh w0 F]) 11 #[true, true, true, true, true, true, true, true, false, true, true, true, false, true, true, false, false, false, false, false, false, false, false, false]) [(2, (.pointer (some ⟨b3, 0, none⟩))), (3, (.pointer (some ⟨b5, 0, none⟩))), (4, (.int .i64 0)), (5, (.int .i64 0)), (19, (.agg #[(.slice a22 l23 q24), (.bool r13.xAccept)])), (20, (.agg #[(.int .i64 r16.xFrom), (.int .i64 r16.xTo), (.int .i64 r16.xPort), (.int .i64 r16.xProto)])), (21, (.int .i64 r25)), (22, (.pointer (some ⟨b7, 0, none⟩))), (26, (.int .i64 (max 1 (min 256 (w64 (r25 + 1)))))), (28, (.int .i64 r25)), (30, (.int .i64 (w64 (r25 + 1)))), (33, (.pointer (some ⟨b7, 0, none⟩))), (32, v92)] [ownCh elInt 3 v92 ([0, 0, 0, 1, 2, 3]), cellCh b7 [(.slice a27 l28 q29), (.int .i64 r26)] 122, cellCh b20 [(.int .i64 r16.xFrom), (.int .i64 r16.xTo), (.int .i64 r16.xPort), (.int .i64 r16.xProto)] 40, cellCh b18 [(.slice a22 l23 q24), (.bool r13.xAccept)] 25, ownCh (elSl elGRule) 101 (.slice a22 l23 q24) r13.xChains, roCh elU8 (.slice a27 l28 q29) r9, cellCh b5 [(.int .i64 0), (.int .i64 0), (.int .i64 0), (.int .i64 0)] 40, cellCh b3 [(.slice none 0 0), (.bool false)] 25, snapCh w0 F] (L_spec_l20Rd_pick r9 r26 (max 1 (min 256 (w64 (r25 + 1)))) (fun (r93, r94) => L_spec_l20Rd_pick r9 r94 6 (fun (r36, r37) => idxW ([0, 0, 0, 1, 2, 3]) r36 (fun e38 => idxW ([r93, r25, (w64 (r25 + 1)), (-1)]) e38 (fun e40 => k31 e40))))) := by
      intro v92
      refine pk [1, 0, 2, 3, 4, 5, 6, 7, 8] rfl ?_
      refine d_one (i := 8) rfl (by kernel_rfl) (o_call (vs := [(.pointer (some ⟨b7, 0, none⟩)), (.int .i64 (max 1 (min 256 (w64 (r25 + 1)))))]) (M0 := [cellCh b7 [(.slice a27 l28 q29), (.int .i64 r26)] 122]) Tryd.call68 rfl rfl (by intro w m h; exact (w_spec_l20Rd_pick (F := allB [cellCh b7 [(.slice a27 l28 q29), (.int .i64 r26)] 122] w) (r_0_b := r9) (r_0_p := r26) (n_1 := (max 1 (min 256 (w64 (r25 + 1))))) allB_ok m.given (m.rdM 4 rfl reads_ro) h).mono (fun _ _ k => ret_free (fun r u => (fr_cons free_cell fr_nil)) k)) ?_); rintro ⟨r93, r94⟩ _
      refine d_and (fun w m => m.pick [2, 3, 4, 5, 8] rfl) ?_
      refine pk [1, 0, 2, 3, 4, 5, 6, 7, 8] rfl ?_
      refine re (E' := [(2, (.pointer (some ⟨b3, 0, none⟩))), (3, (.pointer (some ⟨b5, 0, none⟩))), (4, (.int .i64 0)), (5, (.int .i64 0)), (19, (.agg #[(.slice a22 l23 q24), (.bool r13.xAccept)])), (20, (.agg #[(.int .i64 r16.xFrom), (.int .i64 r16.xTo), (.int .i64 r16.xPort), (.int .i64 r16.xProto)])), (21, (.int .i64 r25)), (28, (.int .i64 r25)), (30, (.int .i64 (w64 (r25 + 1)))), (33, (.pointer (some ⟨b7, 0, none⟩))), (27, (.int .i64 r93)), (32, v92)]) ⟨rfl, rfl, rfl, rfl, rfl, rfl, rfl, rfl, rfl, rfl, rfl, rfl, trivial⟩ ?_
      exact H839 r93 r94 v92
    refine o_ldc (dt 0 (fun w m => m.pick [1, 2, 3, 4, 7] rfl)) (v := (.agg #[(.slice a22 l23 q24), (.bool r13.xAccept)])) 1 rfl rfl rfl ty25 rfl ?_
    refine o_ldc (dt 1 (fun w m => m.pick [1, 2, 3, 4, 7] rfl)) (v := (.agg #[(.int .i64 r16.xFrom), (.int .i64 r16.xTo), (.int .i64 r16.xPort), (.int .i64 r16.xProto)])) 0 rfl rfl rfl ty40 rfl ?_
    refine o_mv (dt 2 (fun w m => m.pick [1, 2, 3, 4, 7] rfl)) rfl rfl ?_
    refine o_mv (dt 3 (fun w m => m.pick [1, 2, 3, 4, 7] rfl)) rfl rfl ?_
    refine o_mv (dt 4 (fun w m => m.pick [1, 2, 3, 4, 7] rfl)) rfl rfl ?_
    refine o_addw (dt 5 (fun w m => m.pick [1, 2, 3, 4, 7] rfl)) rfl rfl rfl ?_
    refine o_min (dt 6 (fun w m => m.pick [1, 2, 3, 4, 7] rfl)) rfl rfl rfl ?_
    refine o_max (dt 7 (fun w m => m.pick [1, 2, 3, 4, 7] rfl)) rfl rfl rfl ?_
    refine o_mv (dt 9 (fun w m => m.pick [1, 2, 3, 4, 7] rfl)) rfl rfl ?_
    refine o_mv (dt 10 (fun w m => m.pick [1, 2, 3, 4, 7] rfl)) rfl rfl ?_
    refine o_addw (dt 11 (fun w m => m.pick [1, 2, 3, 4, 7] rfl)) rfl rfl rfl ?_
    refine o_mv (dt 14 (fun w m => m.pick [1, 2, 3, 4, 7] rfl)) rfl rfl ?_
    refine d_two (i := 8) (j := 13) rfl rfl (by kernel_rfl) ?_ ?_
    · intro o ho; cases ho
      refine o_call (vs := [(.pointer (some ⟨b7, 0, none⟩)), (.int .i64 (max 1 (min 256 (w64 (r25 + 1)))))]) (M0 := [cellCh b7 [(.slice a27 l28 q29), (.int .i64 r26)] 122]) Tryd.call68 rfl rfl (by intro w m h; exact (w_spec_l20Rd_pick (F := allB [cellCh b7 [(.slice a27 l28 q29), (.int .i64 r26)] 122] w) (r_0_b := r9) (r_0_p := r26) (n_1 := (max 1 (min 256 (w64 (r25 + 1))))) allB_ok m.given (m.rdM 3 rfl reads_ro) h).mono (fun _ _ k => ret_free (fun r u => (fr_cons free_cell fr_nil)) k)) ?_; rintro ⟨r32, r33⟩ _
      refine d_and (fun w m => m.pick [1, 2, 3, 4, 7] rfl) ?_
      refine pk [0, 1, 2, 3, 4, 5, 6, 7] rfl ?_
      refine re (E' := [(2, (.pointer (some ⟨b3, 0, none⟩))), (3, (.pointer (some ⟨b5, 0, none⟩))), (4, (.int .i64 0)), (5, (.int .i64 0)), (19, (.agg #[(.slice a22 l23 q24), (.bool r13.xAccept)])), (20, (.agg #[(.int .i64 r16.xFrom), (.int .i64 r16.xTo), (.int .i64 r16.xPort), (.int .i64 r16.xProto)])), (21, (.int .i64 r25)), (28, (.int .i64 r25)), (30, (.int .i64 (w64 (r25 + 1)))), (33, (.pointer (some ⟨b7, 0, none⟩))), (27, (.int .i64 r32))]) ⟨rfl, rfl, rfl, rfl, rfl, rfl, rfl, rfl, rfl, rfl, rfl, trivial⟩ ?_
      exact H845 r32 r33
    · intro o ho; cases ho
      refine o_bsl (enc := encInt) (qs := [(0, (.int .i64 0)), (1, (.int .i64 0)), (2, (.int .i64 0)), (3, (.int .i64 1)), (4, (.int .i64 2)), (5, (.int .i64 3))]) (cells := [(.int .i64 0), (.int .i64 0), (.int .i64 0), (.int .i64 1), (.int .i64 2), (.int .i64 3)]) ([0, 0, 0, 1, 2, 3]) flelInt (by intro ρ h; simp only [List.map_toArray, List.map_cons, List.map_nil, h (.const (.int .i64 0)) _ rfl, h (.const (.int .i64 0)) _ rfl, h (.const (.int .i64 0)) _ rfl, h (.const (.int .i64 1)) _ rfl, h (.const (.int .i64 2)) _ rfl, h (.const (.int .i64 3)) _ rfl]) rfl el99 zero3 rfl rfl rfl rfl rfl rfl ?_; intro v92
      refine d_and (fun w m => m.pick [2, 3, 4, 5, 8] rfl) ?_
      refine pk [0, 1, 2, 3, 4, 5, 6, 7, 8] rfl ?_
      refine re (E' := [(2, (.pointer (some ⟨b3, 0, none⟩))), (3, (.pointer (some ⟨b5, 0, none⟩))), (4, (.int .i64 0)), (5, (.int .i64 0)), (19, (.agg #[(.slice a22 l23 q24), (.bool r13.xAccept)])), (20, (.agg #[(.int .i64 r16.xFrom), (.int .i64 r16.xTo), (.int .i64 r16.xPort), (.int .i64 r16.xProto)])), (21, (.int .i64 r25)), (22, (.pointer (some ⟨b7, 0, none⟩))), (26, (.int .i64 (max 1 (min 256 (w64 (r25 + 1)))))), (28, (.int .i64 r25)), (30, (.int .i64 (w64 (r25 + 1)))), (33, (.pointer (some ⟨b7, 0, none⟩))), (32, v92)]) ⟨rfl, rfl, rfl, rfl, rfl, rfl, rfl, rfl, rfl, rfl, rfl, rfl, rfl, trivial⟩ ?_
      exact H846 v92
  · rintro t30 a w ⟨hE, hm⟩ h
    refine nx_of hE hm h ?_
    clear hE hm h
    refine c_ret ?_
    exact l_end4 Tryd.results21 (r13, r16, r25, t30) (.slice a22 l23 q24) (rv_c 2 rfl rfl ty25 rfl) (rv_c 1 rfl rfl ty40 rfl) (rv_t rfl) (rv_t rfl) rfl (fun w m => NewCh.ofB m [0] rfl)

set_option maxRecDepth 100000 in
set_option maxHeartbeats 8000000 in
theorem w_laws_FnAnswersPass {w0 : World} {F : Nat → Prop} {v1 : Value} {code_0 : (List UInt8)} {κ : Bool → Prop} (hF : ∀ b, F b → b < w0.heap.size ∧ ¬ feet [] b) (hv1 : Sl elU8 F w0 v1 code_0) (hgl0 : Sl elGFieldShape F w0 (.slice (some ⟨0, 0, none⟩) 4 4) gl_impl_fieldShapes) (h : L_laws_FnAnswersPass code_0 κ) :
    Calls Tryd.prog 5 #[v1] w0 (Ret [] F w0 κ (fun (r : Bool) (u : Unit) => (.bool r)) (fun (r : Bool) (u : Unit) => [])) := by
  refine enterS (args := [v1]) [] hF (Given.nil _ _) Tryd.func5 rfl Tryd.ntmps5 rfl h ?_
  clear h hF
  refine c_seq ?_
  refine c_region ?_
  refine o_as st rfl rfl ?_
  refine c_nil ?_
  refine l_then ?_
  refine c_seq ?_
  refine c_seq ?_
  refine c_region ?_
  refine o_mv st rfl rfl ?_
  refine o_len st el22 0 rfl (reads_snap hv1) rfl rfl ?_
  refine o_gtr st rfl rfl rfl ?_
  refine c_nil ?_
  refine l_then ?_
  refine c_cond rfl ?_ ?_
  · refine c_seq ?_
    refine c_region ?_
    refine o_as st rfl rfl ?_
    refine c_nil ?_
    refine l_then ?_
    refine c_ret ?_
    refine l_ret ?_
    exact l_end1 Tryd.results5 true () (rv_t rfl) (fun _ _ => NewCh.nil _ _ _ _)
  · refine c_skip ?_
    refine l_then ?_
    refine c_seq ?_
    refine c_region ?_
    refine o_mv st rfl rfl ?_
    refine stw (o_callP (vs := [v1]) Tryd.call21 rfl rfl (by intro w m h; exact w_spec_DrawAnswersPass (code_0 := code_0) fz_ok0 (m.roS 0 rfl hv1) h) ?_); rintro ⟨r3, r6, r7, r8⟩ v4
    refine o_mv st rfl rfl ?_
    refine o_ext st (vs := [(.agg #[v4, (.bool r3.xAccept)]), (.agg #[(.int .i64 r6.xFrom), (.int .i64 r6.xTo), (.int .i64 r6.xPort), (.int .i64 r6.xProto)]), (.int .i64 r7), (.int .i64 r8)]) rfl rfl rfl ?_
    refine o_ext st (vs := [(.agg #[v4, (.bool r3.xAccept)]), (.agg #[(.int .i64 r6.xFrom), (.int .i64 r6.xTo), (.int .i64 r6.xPort), (.int .i64 r6.xProto)]), (.int .i64 r7), (.int .i64 r8)]) rfl rfl rfl ?_
    refine o_ext st (vs := [(.agg #[v4, (.bool r3.xAccept)]), (.agg #[(.int .i64 r6.xFrom), (.int .i64 r6.xTo), (.int .i64 r6.xPort), (.int .i64 r6.xProto)]), (.int .i64 r7), (.int .i64 r8)]) rfl rfl rfl ?_
    refine o_ext st (vs := [(.agg #[v4, (.bool r3.xAccept)]), (.agg #[(.int .i64 r6.xFrom), (.int .i64 r6.xTo), (.int .i64 r6.xPort), (.int .i64 r6.xProto)]), (.int .i64 r7), (.int .i64 r8)]) rfl rfl rfl ?_
    refine stw (o_alloc rfl [(.slice none 0 0), (.bool false)] zero25 ?_); intro b9
    refine stw (o_alloc rfl [(.int .i64 0), (.int .i64 0), (.int .i64 0), (.int .i64 0)] zero40 ?_); intro b11
    refine nx_own 2 rfl ?_; rintro a13 l14 q15 rfl
    refine stw (o_stc (cs' := [(.slice a13 l14 q15), (.bool r3.xAccept)]) 1 rfl rfl rfl ty25 rfl rfl rfl rfl ?_)
    refine stw (o_stc (cs' := [(.int .i64 r6.xFrom), (.int .i64 r6.xTo), (.int .i64 r6.xPort), (.int .i64 r6.xProto)]) 0 rfl rfl rfl ty40 rfl rfl rfl rfl ?_)
    refine o_as st rfl rfl ?_
    refine o_as st rfl rfl ?_
    refine c_nil ?_
    refine l_then ?_
    refine c_seq ?_
    refine c_region ?_
    refine o_ldc st (v := (.agg #[(.slice a13 l14 q15), (.bool r3.xAccept)])) 1 rfl rfl rfl ty25 rfl ?_
    refine o_ldc st (v := (.agg #[(.int .i64 r6.xFrom), (.int .i64 r6.xTo), (.int .i64 r6.xPort), (.int .i64 r6.xProto)])) 0 rfl rfl rfl ty40 rfl ?_
    refine o_mv st rfl rfl ?_
    refine o_mv st rfl rfl ?_
    refine stw (o_callP (vs := [(.agg #[(.slice a13 l14 q15), (.bool r3.xAccept)]), (.agg #[(.int .i64 r6.xFrom), (.int .i64 r6.xTo), (.int .i64 r6.xPort), (.int .i64 r6.xProto)]), (.int .i64 r7), (.int .i64 r8)]) Tryd.call19 rfl rfl (by intro w m h; exact (w_impl_AnswersPass (F := allB [] w) (s_0 := r3) (p_1 := r6) (life_2 := r7) (later_3 := r8) allB_ok (m.rd0 2 rfl reads_own) (m.rd0 3 rfl (reads_snap hgl0)) h).mono (fun _ _ k => ret_free (fun r u => fr_nil) k)) ?_); rintro r16 _
    refine o_as st rfl rfl ?_
    refine c_nil ?_
    refine l_then ?_
    refine c_seq ?_
    refine c_seq ?_
    refine c_region ?_
    refine o_mv st rfl rfl ?_
    refine o_ldc st (v := (.agg #[(.slice a13 l14 q15), (.bool r3.xAccept)])) 1 rfl rfl rfl ty25 rfl ?_
    refine o_ldc st (v := (.agg #[(.int .i64 r6.xFrom), (.int .i64 r6.xTo), (.int .i64 r6.xPort), (.int .i64 r6.xProto)])) 0 rfl rfl rfl ty40 rfl ?_
    refine o_mv st rfl rfl ?_
    refine o_mv st rfl rfl ?_
    refine stw (o_callP (vs := [(.agg #[(.slice a13 l14 q15), (.bool r3.xAccept)]), (.agg #[(.int .i64 r6.xFrom), (.int .i64 r6.xTo), (.int .i64 r6.xPort), (.int .i64 r6.xProto)]), (.int .i64 r7), (.int .i64 r8)]) Tryd.call16 rfl rfl (by intro w m h; exact (w_spec_AnswersPass (F := allB [] w) (s_0 := r3) (p_1 := r6) (life_2 := r7) (later_3 := r8) allB_ok (m.rd0 2 rfl reads_own) h).mono (fun _ _ k => ret_free (fun r u => fr_nil) k)) ?_); rintro r17 _
    refine o_neqB st und4 rfl rfl rfl ?_
    refine c_nil ?_
    refine l_then ?_
    refine c_cond rfl ?_ ?_
    · refine c_seq ?_
      refine c_region ?_
      refine o_as st rfl rfl ?_
      refine c_nil ?_
      refine l_then ?_
      refine c_ret ?_
      refine l_ret ?_
      exact l_end1 Tryd.results5 false () (rv_t rfl) (fun _ _ => NewCh.nil _ _ _ _)
    · refine c_skip ?_
      refine l_then ?_
      refine c_join (σ := Bool) (fun (t86 : Bool) (a : Act) (w : World) => Has 58 [(2, (.bool t86))] a ∧ Mem (gB F [] w0) (feet []) w0 [snapCh w0 F] w) ?_ ?_
      · intro k87
        refine c_region ?_
        refine o_mv st rfl rfl ?_
        refine o_ldc st (v := (.agg #[(.slice a13 l14 q15), (.bool r3.xAccept)])) 1 rfl rfl rfl ty25 rfl ?_
        refine stw (o_callP (vs := [(.agg #[(.slice a13 l14 q15), (.bool r3.xAccept)])]) Tryd.call22 rfl rfl (by intro w m h; exact (w_spec_RulesetValid (F := allB [] w) (s_0 := r3) allB_ok (m.rd0 2 rfl reads_own) h).mono (fun _ _ k => ret_free (fun r u => fr_nil) k)) ?_); rintro r18 _
        refine o_mv st rfl rfl ?_
        refine st_sp (dj := 33) rfl ?_ ?_
        · refine o_ldc (st_g rfl rfl) (v := (.agg #[(.int .i64 r6.xFrom), (.int .i64 r6.xTo), (.int .i64 r6.xPort), (.int .i64 r6.xProto)])) 0 rfl rfl rfl ty40 rfl ?_
          refine st_gw rfl rfl (o_callP (vs := [(.agg #[(.int .i64 r6.xFrom), (.int .i64 r6.xTo), (.int .i64 r6.xPort), (.int .i64 r6.xProto)])]) Tryd.call23 rfl rfl (by intro w m h; exact (w_spec_PacketValid (F := allB [] w) (p_0 := r6) allB_ok h).mono (fun _ _ k => ret_free (fun r u => fr_nil) k)) ?_); rintro r19 _
          refine o_pickT st rfl rfl rfl ?_
          refine o_mv st rfl rfl ?_
          refine st_sp (dj := 37) rfl ?_ ?_
          · refine o_mv (st_g rfl rfl) rfl rfl ?_
            refine o_geq (st_g rfl rfl) rfl rfl rfl ?_
            refine o_pickT st rfl rfl rfl ?_
            refine o_mv st rfl rfl ?_
            refine st_sp (dj := 41) rfl ?_ ?_
            · refine o_mv (st_g rfl rfl) rfl rfl ?_
              refine o_leq (st_g rfl rfl) rfl rfl rfl ?_
              refine o_pickT st rfl rfl rfl ?_
              refine o_mv st rfl rfl ?_
              refine st_sp (dj := 45) rfl ?_ ?_
              · refine o_mv (st_g rfl rfl) rfl rfl ?_
                refine o_geq (st_g rfl rfl) rfl rfl rfl ?_
                refine o_pickT st rfl rfl rfl ?_
                refine o_mv st rfl rfl ?_
                refine st_sp (dj := 49) rfl ?_ ?_
                · refine o_mv (st_g rfl rfl) rfl rfl ?_
                  refine o_mv (st_g rfl rfl) rfl rfl ?_
                  refine o_leq (st_g rfl rfl) rfl rfl rfl ?_
                  refine o_pickT st rfl rfl rfl ?_
                  refine o_eqlB st und4 rfl rfl rfl ?_
                  refine o_mv st rfl rfl ?_
                  refine st_sp (dj := 55) rfl ?_ ?_
                  · refine st_gw rfl rfl (o_callP (vs := []) Tryd.call14 rfl rfl (by intro w m h; exact (w_laws_alive (F := allB [] w) allB_ok h).mono (fun _ _ k => ret_free (fun r u => fr_nil) k)) ?_); rintro r20 _
                    refine o_pickT st rfl rfl rfl ?_
                    refine o_as st rfl rfl ?_
                    refine c_nil ?_
                    exact l_join r20 (fun a w hE hm => ⟨hE.sub ⟨rfl, trivial⟩, (hm.pick [3] rfl)⟩)
                  · refine st_s rfl rfl rfl rfl ?_
                    refine o_pickF st rfl rfl rfl ?_
                    refine o_as st rfl rfl ?_
                    refine c_nil ?_
                    exact l_join false (fun a w hE hm => ⟨hE.sub ⟨rfl, trivial⟩, (hm.pick [3] rfl)⟩)
                · refine st_s rfl rfl rfl rfl ?_
                  refine st_s rfl rfl rfl rfl ?_
                  refine st_s rfl rfl rfl rfl ?_
                  refine o_pickF st rfl rfl rfl ?_
                  refine o_eqlB st und4 rfl rfl rfl ?_
                  refine o_mv st rfl rfl ?_
                  refine st_sp (dj := 55) rfl ?_ ?_
                  · refine st_gw rfl rfl (o_callP (vs := []) Tryd.call14 rfl rfl (by intro w m h; exact (w_laws_alive (F := allB [] w) allB_ok h).mono (fun _ _ k => ret_free (fun r u => fr_nil) k)) ?_); rintro r21 _
                    refine o_pickT st rfl rfl rfl ?_
                    refine o_as st rfl rfl ?_
                    refine c_nil ?_
                    exact l_join r21 (fun a w hE hm => ⟨hE.sub ⟨rfl, trivial⟩, (hm.pick [3] rfl)⟩)
                  · refine st_s rfl rfl rfl rfl ?_
                    refine o_pickF st rfl rfl rfl ?_
                    refine o_as st rfl rfl ?_
                    refine c_nil ?_
                    exact l_join false (fun a w hE hm => ⟨hE.sub ⟨rfl, trivial⟩, (hm.pick [3] rfl)⟩)
              · refine st_s rfl rfl rfl rfl ?_
                refine st_s rfl rfl rfl rfl ?_
                refine o_pickF st rfl rfl rfl ?_
                refine o_mv st rfl rfl ?_
                refine st_s rfl rfl rfl rfl ?_
                refine st_s rfl rfl rfl rfl ?_
                refine st_s rfl rfl rfl rfl ?_
                refine o_pickF st rfl rfl rfl ?_
                refine o_eqlB st und4 rfl rfl rfl ?_
                refine o_mv st rfl rfl ?_
                refine st_sp (dj := 55) rfl ?_ ?_
                · refine st_gw rfl rfl (o_callP (vs := []) Tryd.call14 rfl rfl (by intro w m h; exact (w_laws_alive (F := allB [] w) allB_ok h).mono (fun _ _ k => ret_free (fun r u => fr_nil) k)) ?_); rintro r22 _
                  refine o_pickT st rfl rfl rfl ?_
                  refine o_as st rfl rfl ?_
                  refine c_nil ?_
                  exact l_join r22 (fun a w hE hm => ⟨hE.sub ⟨rfl, trivial⟩, (hm.pick [3] rfl)⟩)
                · refine st_s rfl rfl rfl rfl ?_
                  refine o_pickF st rfl rfl rfl ?_
                  refine o_as st rfl rfl ?_
                  refine c_nil ?_
                  exact l_join false (fun a w hE hm => ⟨hE.sub ⟨rfl, trivial⟩, (hm.pick [3] rfl)⟩)
            · refine st_s rfl rfl rfl rfl ?_
              refine st_s rfl rfl rfl rfl ?_
              refine o_pickF st rfl rfl rfl ?_
              refine o_mv st rfl rfl ?_
              refine st_s rfl rfl rfl rfl ?_
              refine st_s rfl rfl rfl rfl ?_
              refine o_pickF st rfl rfl rfl ?_
              refine o_mv st rfl rfl ?_
              refine st_s rfl rfl rfl rfl ?_
              refine st_s rfl rfl rfl rfl ?_
              refine st_s rfl rfl rfl rfl ?_
              refine o_pickF st rfl rfl rfl ?_
              refine o_eqlB st und4 rfl rfl rfl ?_
              refine o_mv st rfl rfl ?_
              refine st_sp (dj := 55) rfl ?_ ?_
              · refine st_gw rfl rfl (o_callP (vs := []) Tryd.call14 rfl rfl (by intro w m h; exact (w_laws_alive (F := allB [] w) allB_ok h).mono (fun _ _ k => ret_free (fun r u => fr_nil) k)) ?_); rintro r23 _
                refine o_pickT st rfl rfl rfl ?_
                refine o_as st rfl rfl ?_
                refine c_nil ?_
                exact l_join r23 (fun a w hE hm => ⟨hE.sub ⟨rfl, trivial⟩, (hm.pick [3] rfl)⟩)
              · refine st_s rfl rfl rfl rfl ?_
                refine o_pickF st rfl rfl rfl ?_
                refine o_as st rfl rfl ?_
                refine c_nil ?_
                exact l_join false (fun a w hE hm => ⟨hE.sub ⟨rfl, trivial⟩, (hm.pick [3] rfl)⟩)
          · refine st_s rfl rfl rfl rfl ?_
            refine st_s rfl rfl rfl rfl ?_
            refine o_pickF st rfl rfl rfl ?_
            refine o_mv st rfl rfl ?_
            refine st_s rfl rfl rfl rfl ?_
            refine st_s rfl rfl rfl rfl ?_
            refine o_pickF st rfl rfl rfl ?_
            refine o_mv st rfl rfl ?_
            refine st_s rfl rfl rfl rfl ?_
            refine st_s rfl rfl rfl rfl ?_
            refine o_pickF st rfl rfl rfl ?_
            refine o_mv st rfl rfl ?_
            refine st_s rfl rfl rfl rfl ?_
            refine st_s rfl rfl rfl rfl ?_
            refine st_s rfl rfl rfl rfl ?_
            refine o_pickF st rfl rfl rfl ?_
            refine o_eqlB st und4 rfl rfl rfl ?_
            refine o_mv st rfl rfl ?_
            refine st_sp (dj := 55) rfl ?_ ?_
            · refine st_gw rfl rfl (o_callP (vs := []) Tryd.call14 rfl rfl (by intro w m h; exact (w_laws_alive (F := allB [] w) allB_ok h).mono (fun _ _ k => ret_free (fun r u => fr_nil) k)) ?_); rintro r24 _
              refine o_pickT st rfl rfl rfl ?_
              refine o_as st rfl rfl ?_
              refine c_nil ?_
              exact l_join r24 (fun a w hE hm => ⟨hE.sub ⟨rfl, trivial⟩, (hm.pick [3] rfl)⟩)
            · refine st_s rfl rfl rfl rfl ?_
              refine o_pickF st rfl rfl rfl ?_
              refine o_as st rfl rfl ?_
              refine c_nil ?_
              exact l_join false (fun a w hE hm => ⟨hE.sub ⟨rfl, trivial⟩, (hm.pick [3] rfl)⟩)
        · refine st_s rfl rfl rfl rfl ?_
          refine st_s rfl rfl rfl rfl ?_
          refine o_pickF st rfl rfl rfl ?_
          refine o_mv st rfl rfl ?_
          refine st_s rfl rfl rfl rfl ?_
          refine st_s rfl rfl rfl rfl ?_
          refine o_pickF st rfl rfl rfl ?_
          refine o_mv st rfl rfl ?_
          refine st_s rfl rfl rfl rfl ?_
          refine st_s rfl rfl rfl rfl ?_
          refine o_pickF st rfl rfl rfl ?_
          refine o_mv st rfl rfl ?_
          refine st_s rfl rfl rfl rfl ?_
          refine st_s rfl rfl rfl rfl ?_
          refine o_pickF st rfl rfl rfl ?_
          refine o_mv st rfl rfl ?_
          refine st_s rfl rfl rfl rfl ?_
          refine st_s rfl rfl rfl rfl ?_
          refine st_s rfl rfl rfl rfl ?_
          refine o_pickF st rfl rfl rfl ?_
          refine o_eqlB st und4 rfl rfl rfl ?_
          refine o_mv st rfl rfl ?_
          refine st_sp (dj := 55) rfl ?_ ?_
          · refine st_gw rfl rfl (o_callP (vs := []) Tryd.call14 rfl rfl (by intro w m h; exact (w_laws_alive (F := allB [] w) allB_ok h).mono (fun _ _ k => ret_free (fun r u => fr_nil) k)) ?_); rintro r25 _
            refine o_pickT st rfl rfl rfl ?_
            refine o_as st rfl rfl ?_
            refine c_nil ?_
            exact l_join r25 (fun a w hE hm => ⟨hE.sub ⟨rfl, trivial⟩, (hm.pick [3] rfl)⟩)
          · refine st_s rfl rfl rfl rfl ?_
            refine o_pickF st rfl rfl rfl ?_
            refine o_as st rfl rfl ?_
            refine c_nil ?_
            exact l_join false (fun a w hE hm => ⟨hE.sub ⟨rfl, trivial⟩, (hm.pick [3] rfl)⟩)
      · rintro t86 a w ⟨hE, hm⟩ h
        refine nx_of hE hm h ?_
        clear hE hm h
        refine c_ret ?_
        exact l_end1 Tryd.results5 t86 () (rv_t rfl) (fun _ _ => NewCh.nil _ _ _ _)

end

end Go.Proofs.YtigdghiknfehhaaDoor
