/- The walks of the functions of this seat (printed), on. -/
import Derived.Test.YtnogaeckmiekdaaDoorG3Walk2
set_option linter.unusedSimpArgs false
set_option linter.unusedVariables false
namespace Go.Proofs.YtnogaeckmiekdaaDoor
open Go.RowKit
set_option maxRecDepth 100000 in
set_option maxHeartbeats 8000000 in
theorem w_spec_l20Span {w0 : World} {F : Nat → Prop} {b1 : Nat} {v2 : Value} {r_0_b : (List UInt8)} {r_0_p : Int} {top_1 : Int} {n_2 : Int} {κ : (GSpan × Int) → Prop} (hF : ∀ b, F b → b < w0.heap.size ∧ ¬ feet [cellCh b1 [v2, (.int .i64 r_0_p)] 111] b) (hg : Given [cellCh b1 [v2, (.int .i64 r_0_p)] 111] F w0) (hv2 : Sl elU8 F w0 v2 r_0_b) (h : L_spec_l20Span r_0_b r_0_p top_1 n_2 κ) :
    Calls Tryd.prog 91 #[(.pointer (some ⟨b1, 0, none⟩)), (.int .i64 top_1), (.int .i64 n_2)] w0 (Ret [cellCh b1 [v2, (.int .i64 r_0_p)] 111] F w0 κ (fun (r : (GSpan × Int)) (u : Unit) => (.agg #[(.int .i64 r.1.xLo), (.int .i64 r.1.xHi)])) (fun (r : (GSpan × Int)) (u : Unit) => [cellCh b1 [v2, (.int .i64 r.2)] 111])) := by
  refine enterS (args := [(.pointer (some ⟨b1, 0, none⟩)), (.int .i64 top_1), (.int .i64 n_2)]) [cellCh b1 [v2, (.int .i64 r_0_p)] 111] hF hg Tryd.func91 rfl Tryd.ntmps91 rfl h ?_
  clear h hF hg
  refine c_seq ?_
  refine c_region ?_
  refine stw (o_alloc rfl [(.int .i64 0), (.int .i64 0)] zero87 ?_); intro b5
  refine c_nil ?_
  refine l_then ?_
  refine c_seq ?_
  refine c_region ?_
  refine o_mv st rfl rfl ?_
  refine o_mv st rfl rfl ?_
  refine o_add st rfl rfl rfl ?_; intro t7
  refine o_min st rfl rfl rfl ?_
  refine pk [1, 0, 2] rfl ?_
  refine stw (o_call (vs := [(.pointer (some ⟨b1, 0, none⟩)), (.int .i64 (min 256 t7))]) (M0 := [cellCh b1 [v2, (.int .i64 r_0_p)] 111]) Tryd.call65 rfl rfl (by intro w m h; exact (w_spec_l20Rd_pick (F := allB [cellCh b1 [v2, (.int .i64 r_0_p)] 111] w) (r_0_b := r_0_b) (r_0_p := r_0_p) (n_1 := (min 256 t7)) allB_ok m.given (m.rdM 1 rfl (reads_snap hv2)) h).mono (fun _ _ k => ret_free (fun r u => (fr_cons free_cell fr_nil)) k)) ?_); rintro ⟨r8, r9⟩ _
  refine o_bld st (qs := [(0, (.int .i64 r8))]) (cells := [(.int .i64 r8), (.int .i64 0)]) (by intro ρ h; simp only [List.map_toArray, List.map_cons, List.map_nil, h (.tmp 12) _ rfl]) rfl bld87 rfl ?_
  refine stw (o_alloc rfl [(.int .i64 0), (.int .i64 0)] zero87 ?_); intro b10
  refine stw (o_stc (cs' := [(.int .i64 r8), (.int .i64 0)]) 0 rfl rfl rfl ty87 rfl rfl rfl rfl ?_)
  refine c_nil ?_
  refine l_then ?_
  refine c_join (σ := (Int × Int)) (fun ((t144, t145) : (Int × Int)) (a : Act) (w : World) => Has 68 [(0, (.pointer (some ⟨b1, 0, none⟩))), (1, (.int .i64 top_1)), (2, (.int .i64 n_2)), (6, (.pointer (some ⟨b5, 0, none⟩))), (7, (.pointer (some ⟨b10, 0, none⟩)))] a ∧ Mem (gB F [cellCh b1 [v2, (.int .i64 r_0_p)] 111] w0) (feet [cellCh b1 [v2, (.int .i64 r_0_p)] 111]) w0 [cellCh b1 [v2, (.int .i64 t144)] 111, cellCh b10 [(.int .i64 t145), (.int .i64 0)] 87, cellCh b5 [(.int .i64 0), (.int .i64 0)] 87, snapCh w0 F] w) ?_ ?_
  · intro k146
    refine c_join (σ := (Int × Bool)) (fun ((t74, t75) : (Int × Bool)) (a : Act) (w : World) => Has 68 [(0, (.pointer (some ⟨b1, 0, none⟩))), (1, (.int .i64 top_1)), (2, (.int .i64 n_2)), (6, (.pointer (some ⟨b5, 0, none⟩))), (7, (.pointer (some ⟨b10, 0, none⟩))), (20, (.bool t75))] a ∧ Mem (gB F [cellCh b1 [v2, (.int .i64 r_0_p)] 111] w0) (feet [cellCh b1 [v2, (.int .i64 r_0_p)] 111]) w0 [cellCh b1 [v2, (.int .i64 t74)] 111, cellCh b10 [(.int .i64 r8), (.int .i64 0)] 87, cellCh b5 [(.int .i64 0), (.int .i64 0)] 87, snapCh w0 F] w) ?_ ?_
    · intro k76
      refine c_region ?_
      refine o_mv st rfl rfl ?_
      refine o_gtr st rfl rfl rfl ?_
      refine o_mv st rfl rfl ?_
      refine st_sp (dj := 16) rfl ?_ ?_
      · refine o_mv (st_g rfl rfl) rfl rfl ?_
        refine pk [1, 0, 2, 3] rfl ?_
        refine st_gw rfl rfl (o_call (vs := [(.pointer (some ⟨b1, 0, none⟩)), (.int .i64 2)]) (M0 := [cellCh b1 [v2, (.int .i64 r9)] 111]) Tryd.call65 rfl rfl (by intro w m h; exact (w_spec_l20Rd_pick (F := allB [cellCh b1 [v2, (.int .i64 r9)] 111] w) (r_0_b := r_0_b) (r_0_p := r9) (n_1 := 2) allB_ok m.given (m.rdM 2 rfl (reads_snap hv2)) h).mono (fun _ _ k => ret_free (fun r u => (fr_cons free_cell fr_nil)) k)) ?_); rintro ⟨r12, r13⟩ _
        refine o_eql (st_g rfl rfl) und3 rfl rfl rfl ?_
        refine o_pickT st rfl rfl rfl ?_
        refine c_nil ?_
        exact l_join (r13, (decide (r12 = 0))) (fun a w hE hm => ⟨hE.sub ⟨rfl, rfl, rfl, rfl, rfl, rfl, trivial⟩, (hm.pick [0, 1, 2, 3] rfl)⟩)
      · refine st_s rfl rfl rfl rfl ?_
        refine st_s rfl rfl rfl rfl ?_
        refine st_s rfl rfl rfl rfl ?_
        refine o_pickF st rfl rfl rfl ?_
        refine c_nil ?_
        exact l_join (r9, false) (fun a w hE hm => ⟨hE.sub ⟨rfl, rfl, rfl, rfl, rfl, rfl, trivial⟩, (hm.pick [1, 0, 2, 3] rfl)⟩)
    · rintro ⟨t74, t75⟩ a w ⟨hE, hm⟩ h
      refine nx_of hE hm h ?_
      clear hE hm h
      refine c_cond rfl ?_ ?_
      · refine c_join1 (σ := (Int × Int)) (fun ((t77, t78) : (Int × Int)) (a : Act) (w : World) => Has 68 [(0, (.pointer (some ⟨b1, 0, none⟩))), (1, (.int .i64 top_1)), (2, (.int .i64 n_2)), (6, (.pointer (some ⟨b5, 0, none⟩))), (7, (.pointer (some ⟨b10, 0, none⟩)))] a ∧ Mem (gB F [cellCh b1 [v2, (.int .i64 r_0_p)] 111] w0) (feet [cellCh b1 [v2, (.int .i64 r_0_p)] 111]) w0 [cellCh b1 [v2, (.int .i64 t77)] 111, cellCh b10 [(.int .i64 t78), (.int .i64 0)] 87, cellCh b5 [(.int .i64 0), (.int .i64 0)] 87, snapCh w0 F] w) ?_ ?_
        · intro k79
          refine c_drawQ mixed 10 rfl [cellCh b5 [(.int .i64 0), (.int .i64 0)] 87, snapCh w0 F] ?_
          intro Qd hP hQ
          have H128 : ∀ (r80 : Int) (r81 : Int), Nx 68 (gB F [cellCh b1 [v2, (.int .i64 r_0_p)] 111] w0) (feet [cellCh b1 [v2, (.int .i64 r_0_p)] 111]) w0 (wpAnyH Tryd.prog .any (opsAt Tryd.f91 [1, 1, 0, 1, 0]) Qd (Mem (gB F [cellCh b1 [v2, (.int .i64 r_0_p)] 111] w0) (feet [cellCh b1 [v2, (.int .i64 r_0_p)] 111]) w0 [cellCh b5 [(.int .i64 0), (.int .i64 0)] 87, snapCh w0 F]) 0 #[true, true, true, true, true, true, true, true, true, true]) [(0, (.pointer (some ⟨b1, 0, none⟩))), (1, (.int .i64 top_1)), (2, (.int .i64 n_2)), (6, (.pointer (some ⟨b5, 0, none⟩))), (7, (.pointer (some ⟨b10, 0, none⟩)))] [cellCh b1 [v2, (.int .i64 r81)] 111, cellCh b10 [(.int .i64 (min top_1 (w64 ((w64 (r8 * 256)) + r80)))), (.int .i64 0)] 87, cellCh b5 [(.int .i64 0), (.int .i64 0)] 87, snapCh w0 F] (k79 (r81, (min top_1 (w64 ((w64 (r8 * 256)) + r80))))) := by
            intro r80 r81
            refine d_done (by kernel_rfl) ?_
            exact fun a w hE hm hφ => hQ (r81, (min top_1 (w64 ((w64 (r8 * 256)) + r80)))) a w hφ ((fun a w hE hm => ⟨hE.sub ⟨rfl, rfl, rfl, rfl, rfl, trivial⟩, (hm.pick [0, 1, 2, 3] rfl)⟩) a w hE hm)
          have H129 : ∀ (r80 : Int) (r81 : Int), Nx 68 (gB F [cellCh b1 [v2, (.int .i64 r_0_p)] 111] w0) (feet [cellCh b1 [v2, (.int .i64 r_0_p)] 111]) w0 (wpAnyH Tryd.prog .any (opsAt Tryd.f91 [1, 1, 0, 1, 0]) Qd (Mem (gB F [cellCh b1 [v2, (.int .i64 r_0_p)] 111] w0) (feet [cellCh b1 [v2, (.int .i64 r_0_p)] 111]) w0 [cellCh b5 [(.int .i64 0), (.int .i64 0)] 87, snapCh w0 F]) 4 #[true, true, true, true, true, true, false, false, false, false]) [(0, (.pointer (some ⟨b1, 0, none⟩))), (1, (.int .i64 top_1)), (2, (.int .i64 n_2)), (6, (.pointer (some ⟨b5, 0, none⟩))), (7, (.pointer (some ⟨b10, 0, none⟩))), (21, (.int .i64 top_1)), (24, (.int .i64 (w64 (r8 * 256)))), (26, (.int .i64 r80))] [cellCh b1 [v2, (.int .i64 r81)] 111, cellCh b10 [(.int .i64 r8), (.int .i64 0)] 87, cellCh b5 [(.int .i64 0), (.int .i64 0)] 87, snapCh w0 F] (k79 (r81, (min top_1 (w64 ((w64 (r8 * 256)) + r80))))) := by
            intro r80 r81
            refine o_addw (dt 6 (fun w m => m.pick [2, 3] rfl)) rfl rfl rfl ?_
            refine o_min (dt 7 (fun w m => m.pick [2, 3] rfl)) rfl rfl rfl ?_
            refine o_fad (dt 8 (fun w m => m.pick [2, 3] rfl)) rfl rfl fld87_0 rfl ?_
            refine d_one (i := 9) rfl (by kernel_rfl) (o_stc (cs' := [(.int .i64 (min top_1 (w64 ((w64 (r8 * 256)) + r80)))), (.int .i64 0)]) 1 rfl rfl rfl ty3 rfl rfl rfl rfl ?_)
            refine d_and (fun w m => m.pick [2, 3] rfl) ?_
            refine pk [0, 1, 2, 3] rfl ?_
            refine re (E' := [(0, (.pointer (some ⟨b1, 0, none⟩))), (1, (.int .i64 top_1)), (2, (.int .i64 n_2)), (6, (.pointer (some ⟨b5, 0, none⟩))), (7, (.pointer (some ⟨b10, 0, none⟩)))]) ⟨rfl, rfl, rfl, rfl, rfl, trivial⟩ ?_
            exact H128 r80 r81
          have H130 : ∀ (_ : Unit), Nx 68 (gB F [cellCh b1 [v2, (.int .i64 r_0_p)] 111] w0) (feet [cellCh b1 [v2, (.int .i64 r_0_p)] 111]) w0 (wpAnyH Tryd.prog .any (opsAt Tryd.f91 [1, 1, 0, 1, 0]) Qd (Mem (gB F [cellCh b1 [v2, (.int .i64 r_0_p)] 111] w0) (feet [cellCh b1 [v2, (.int .i64 r_0_p)] 111]) w0 [cellCh b5 [(.int .i64 0), (.int .i64 0)] 87, snapCh w0 F]) 6 #[true, true, true, false, true, false, false, false, false, false]) [(0, (.pointer (some ⟨b1, 0, none⟩))), (1, (.int .i64 top_1)), (2, (.int .i64 n_2)), (6, (.pointer (some ⟨b5, 0, none⟩))), (7, (.pointer (some ⟨b10, 0, none⟩))), (21, (.int .i64 top_1)), (25, (.pointer (some ⟨b1, 0, none⟩))), (23, (.int .i64 r8))] [cellCh b1 [v2, (.int .i64 t74)] 111, cellCh b10 [(.int .i64 r8), (.int .i64 0)] 87, cellCh b5 [(.int .i64 0), (.int .i64 0)] 87, snapCh w0 F] (L_spec_l20Rd_pick r_0_b t74 256 (fun (r80, r81) => k79 (r81, (min top_1 (w64 ((w64 (r8 * 256)) + r80)))))) := by
            intro _
            refine o_mulw (dt 3 (fun w m => m.pick [2, 3] rfl)) rfl rfl rfl ?_
            refine d_one (i := 5) rfl (by kernel_rfl) (o_call (vs := [(.pointer (some ⟨b1, 0, none⟩)), (.int .i64 256)]) (M0 := [cellCh b1 [v2, (.int .i64 t74)] 111]) Tryd.call65 rfl rfl (by intro w m h; exact (w_spec_l20Rd_pick (F := allB [cellCh b1 [v2, (.int .i64 t74)] 111] w) (r_0_b := r_0_b) (r_0_p := t74) (n_1 := 256) allB_ok m.given (m.rdM 2 rfl (reads_snap hv2)) h).mono (fun _ _ k => ret_free (fun r u => (fr_cons free_cell fr_nil)) k)) ?_); rintro ⟨r80, r81⟩ _
            refine d_and (fun w m => m.pick [2, 3] rfl) ?_
            refine pk [0, 1, 2, 3] rfl ?_
            refine re (E' := [(0, (.pointer (some ⟨b1, 0, none⟩))), (1, (.int .i64 top_1)), (2, (.int .i64 n_2)), (6, (.pointer (some ⟨b5, 0, none⟩))), (7, (.pointer (some ⟨b10, 0, none⟩))), (21, (.int .i64 top_1)), (24, (.int .i64 (w64 (r8 * 256)))), (26, (.int .i64 r80))]) ⟨rfl, rfl, rfl, rfl, rfl, rfl, rfl, rfl, trivial⟩ ?_
            exact H129 r80 r81
          have H131 : ∀ (r82 : Int) (r83 : Int), Nx 68 (gB F [cellCh b1 [v2, (.int .i64 r_0_p)] 111] w0) (feet [cellCh b1 [v2, (.int .i64 r_0_p)] 111]) w0 (wpAnyH Tryd.prog .any (opsAt Tryd.f91 [1, 1, 0, 1, 0]) Qd (Mem (gB F [cellCh b1 [v2, (.int .i64 r_0_p)] 111] w0) (feet [cellCh b1 [v2, (.int .i64 r_0_p)] 111]) w0 [cellCh b5 [(.int .i64 0), (.int .i64 0)] 87, snapCh w0 F]) 5 #[true, true, true, false, true, true, false, false, false, false]) [(0, (.pointer (some ⟨b1, 0, none⟩))), (1, (.int .i64 top_1)), (2, (.int .i64 n_2)), (6, (.pointer (some ⟨b5, 0, none⟩))), (7, (.pointer (some ⟨b10, 0, none⟩))), (21, (.int .i64 top_1)), (26, (.int .i64 r82)), (23, (.int .i64 r8))] [cellCh b1 [v2, (.int .i64 r83)] 111, cellCh b10 [(.int .i64 r8), (.int .i64 0)] 87, cellCh b5 [(.int .i64 0), (.int .i64 0)] 87, snapCh w0 F] (k79 (r83, (min top_1 (w64 ((w64 (r8 * 256)) + r82))))) := by
            intro r82 r83
            refine o_mulw (dt 3 (fun w m => m.pick [2, 3] rfl)) rfl rfl rfl ?_
            refine o_addw (dt 6 (fun w m => m.pick [2, 3] rfl)) rfl rfl rfl ?_
            refine o_min (dt 7 (fun w m => m.pick [2, 3] rfl)) rfl rfl rfl ?_
            refine o_fad (dt 8 (fun w m => m.pick [2, 3] rfl)) rfl rfl fld87_0 rfl ?_
            refine d_one (i := 9) rfl (by kernel_rfl) (o_stc (cs' := [(.int .i64 (min top_1 (w64 ((w64 (r8 * 256)) + r82)))), (.int .i64 0)]) 1 rfl rfl rfl ty3 rfl rfl rfl rfl ?_)
            refine d_and (fun w m => m.pick [2, 3] rfl) ?_
            refine pk [0, 1, 2, 3] rfl ?_
            refine re (E' := [(0, (.pointer (some ⟨b1, 0, none⟩))), (1, (.int .i64 top_1)), (2, (.int .i64 n_2)), (6, (.pointer (some ⟨b5, 0, none⟩))), (7, (.pointer (some ⟨b10, 0, none⟩)))]) ⟨rfl, rfl, rfl, rfl, rfl, trivial⟩ ?_
            exact H128 r82 r83
          have H132 : ∀ (r82 : Int) (r83 : Int), Nx 68 (gB F [cellCh b1 [v2, (.int .i64 r_0_p)] 111] w0) (feet [cellCh b1 [v2, (.int .i64 r_0_p)] 111]) w0 (wpAnyH Tryd.prog .any (opsAt Tryd.f91 [1, 1, 0, 1, 0]) Qd (Mem (gB F [cellCh b1 [v2, (.int .i64 r_0_p)] 111] w0) (feet [cellCh b1 [v2, (.int .i64 r_0_p)] 111]) w0 [cellCh b5 [(.int .i64 0), (.int .i64 0)] 87, snapCh w0 F]) 6 #[true, true, false, false, true, true, false, false, false, false]) [(0, (.pointer (some ⟨b1, 0, none⟩))), (1, (.int .i64 top_1)), (2, (.int .i64 n_2)), (6, (.pointer (some ⟨b5, 0, none⟩))), (7, (.pointer (some ⟨b10, 0, none⟩))), (21, (.int .i64 top_1)), (22, (.pointer (some ⟨b10, 0, none⟩))), (26, (.int .i64 r82))] [cellCh b1 [v2, (.int .i64 r83)] 111, cellCh b10 [(.int .i64 r8), (.int .i64 0)] 87, cellCh b5 [(.int .i64 0), (.int .i64 0)] 87, snapCh w0 F] (k79 (r83, (min top_1 (w64 ((w64 (r8 * 256)) + r82))))) := by
            intro r82 r83
            refine d_one (i := 2) rfl (by kernel_rfl) (o_ldc m_op (v := (.int .i64 r8)) 1 rfl rfl rfl ty3 rfl ?_)
            refine d_and (fun w m => m.pick [2, 3] rfl) ?_
            refine pk [0, 1, 2, 3] rfl ?_
            refine re (E' := [(0, (.pointer (some ⟨b1, 0, none⟩))), (1, (.int .i64 top_1)), (2, (.int .i64 n_2)), (6, (.pointer (some ⟨b5, 0, none⟩))), (7, (.pointer (some ⟨b10, 0, none⟩))), (21, (.int .i64 top_1)), (26, (.int .i64 r82)), (23, (.int .i64 r8))]) ⟨rfl, rfl, rfl, rfl, rfl, rfl, rfl, rfl, trivial⟩ ?_
            exact H131 r82 r83
          refine o_mv (dt 0 (fun w m => m.pick [2, 3] rfl)) rfl rfl ?_
          refine o_fad (dt 1 (fun w m => m.pick [2, 3] rfl)) rfl rfl fld87_0 rfl ?_
          refine o_mv (dt 4 (fun w m => m.pick [2, 3] rfl)) rfl rfl ?_
          refine d_two (i := 2) (j := 5) rfl rfl (by kernel_rfl) ?_ ?_
          · intro o ho; cases ho
            refine o_ldc m_op (v := (.int .i64 r8)) 1 rfl rfl rfl ty3 rfl ?_
            refine d_and (fun w m => m.pick [2, 3] rfl) ?_
            refine pk [0, 1, 2, 3] rfl ?_
            refine re (E' := [(0, (.pointer (some ⟨b1, 0, none⟩))), (1, (.int .i64 top_1)), (2, (.int .i64 n_2)), (6, (.pointer (some ⟨b5, 0, none⟩))), (7, (.pointer (some ⟨b10, 0, none⟩))), (21, (.int .i64 top_1)), (25, (.pointer (some ⟨b1, 0, none⟩))), (23, (.int .i64 r8))]) ⟨rfl, rfl, rfl, rfl, rfl, rfl, rfl, rfl, trivial⟩ ?_
            exact H130 ()
          · intro o ho; cases ho
            refine o_call (vs := [(.pointer (some ⟨b1, 0, none⟩)), (.int .i64 256)]) (M0 := [cellCh b1 [v2, (.int .i64 t74)] 111]) Tryd.call65 rfl rfl (by intro w m h; exact (w_spec_l20Rd_pick (F := allB [cellCh b1 [v2, (.int .i64 t74)] 111] w) (r_0_b := r_0_b) (r_0_p := t74) (n_1 := 256) allB_ok m.given (m.rdM 2 rfl (reads_snap hv2)) h).mono (fun _ _ k => ret_free (fun r u => (fr_cons free_cell fr_nil)) k)) ?_; rintro ⟨r82, r83⟩ _
            refine d_and (fun w m => m.pick [2, 3] rfl) ?_
            refine pk [0, 1, 2, 3] rfl ?_
            refine re (E' := [(0, (.pointer (some ⟨b1, 0, none⟩))), (1, (.int .i64 top_1)), (2, (.int .i64 n_2)), (6, (.pointer (some ⟨b5, 0, none⟩))), (7, (.pointer (some ⟨b10, 0, none⟩))), (21, (.int .i64 top_1)), (22, (.pointer (some ⟨b10, 0, none⟩))), (26, (.int .i64 r82))]) ⟨rfl, rfl, rfl, rfl, rfl, rfl, rfl, rfl, trivial⟩ ?_
            exact H132 r82 r83
        · rintro ⟨t77, t78⟩ a w ⟨hE, hm⟩ h
          refine nx_of hE hm h ?_
          clear hE hm h
          exact l_join (t77, t78) (fun a w hE hm => ⟨hE.sub ⟨rfl, rfl, rfl, rfl, rfl, trivial⟩, (hm.pick [0, 1, 2, 3] rfl)⟩)
      · refine c_skip ?_
        exact l_join (t74, r8) (fun a w hE hm => ⟨hE.sub ⟨rfl, rfl, rfl, rfl, rfl, trivial⟩, (hm.pick [0, 1, 2, 3] rfl)⟩)
  · rintro ⟨t144, t145⟩ a w ⟨hE, hm⟩ h
    refine nx_of hE hm h ?_
    clear hE hm h
    refine c_join (σ := (Int × Int)) (fun ((t147, t148) : (Int × Int)) (a : Act) (w : World) => Has 68 [(0, (.pointer (some ⟨b1, 0, none⟩))), (1, (.int .i64 top_1)), (2, (.int .i64 n_2)), (6, (.pointer (some ⟨b5, 0, none⟩))), (7, (.pointer (some ⟨b10, 0, none⟩)))] a ∧ Mem (gB F [cellCh b1 [v2, (.int .i64 r_0_p)] 111] w0) (feet [cellCh b1 [v2, (.int .i64 r_0_p)] 111]) w0 [cellCh b1 [v2, (.int .i64 t147)] 111, cellCh b10 [(.int .i64 t145), (.int .i64 t148)] 87, cellCh b5 [(.int .i64 0), (.int .i64 0)] 87, snapCh w0 F] w) ?_ ?_
    · intro k149
      refine c_drawQ mixed 16 rfl [cellCh b5 [(.int .i64 0), (.int .i64 0)] 87, snapCh w0 F] ?_
      intro Qd hP hQ
      have H134 : ∀ (r150 : Int) (r151 : Int) (r152 : Int) (r153 : Int) (v154 : Value) (r155 : Int) (r156 : Int) (e157 : Int) (h158 : ([0, r150, r152, 4096])[(r155).toNat]? = some e157), Nx 68 (gB F [cellCh b1 [v2, (.int .i64 r_0_p)] 111] w0) (feet [cellCh b1 [v2, (.int .i64 r_0_p)] 111]) w0 (wpAnyH Tryd.prog .any (opsAt Tryd.f91 [1, 1, 1, 0]) Qd (Mem (gB F [cellCh b1 [v2, (.int .i64 r_0_p)] 111] w0) (feet [cellCh b1 [v2, (.int .i64 r_0_p)] 111]) w0 [cellCh b5 [(.int .i64 0), (.int .i64 0)] 87, snapCh w0 F]) 0 #[true, true, true, true, true, true, true, true, true, true, true, true, true, true, true, true]) [(0, (.pointer (some ⟨b1, 0, none⟩))), (1, (.int .i64 top_1)), (2, (.int .i64 n_2)), (6, (.pointer (some ⟨b5, 0, none⟩))), (7, (.pointer (some ⟨b10, 0, none⟩)))] [cellCh b1 [v2, (.int .i64 r156)] 111, cellCh b10 [(.int .i64 t145), (.int .i64 (min top_1 (w64 (t145 + e157))))] 87, cellCh b5 [(.int .i64 0), (.int .i64 0)] 87, snapCh w0 F] (k149 (r156, (min top_1 (w64 (t145 + e157))))) := by
        intro r150 r151 r152 r153 v154 r155 r156 e157 h158
        refine d_done (by kernel_rfl) ?_
        exact fun a w hE hm hφ => hQ (r156, (min top_1 (w64 (t145 + e157)))) a w hφ ((fun a w hE hm => ⟨hE.sub ⟨rfl, rfl, rfl, rfl, rfl, trivial⟩, (hm.pick [0, 1, 2, 3] rfl)⟩) a w hE hm)
      have H135 : ∀ (r150 : Int) (r151 : Int) (r152 : Int) (r153 : Int) (v154 : Value) (r155 : Int) (r156 : Int) (e157 : Int) (h158 : ([0, r150, r152, 4096])[(r155).toNat]? = some e157), Nx 68 (gB F [cellCh b1 [v2, (.int .i64 r_0_p)] 111] w0) (feet [cellCh b1 [v2, (.int .i64 r_0_p)] 111]) w0 (wpAnyH Tryd.prog .any (opsAt Tryd.f91 [1, 1, 1, 0]) Qd (Mem (gB F [cellCh b1 [v2, (.int .i64 r_0_p)] 111] w0) (feet [cellCh b1 [v2, (.int .i64 r_0_p)] 111]) w0 [cellCh b5 [(.int .i64 0), (.int .i64 0)] 87, snapCh w0 F]) 4 #[true, true, true, true, true, true, true, true, true, true, true, true, false, false, false, false]) [(0, (.pointer (some ⟨b1, 0, none⟩))), (1, (.int .i64 top_1)), (2, (.int .i64 n_2)), (6, (.pointer (some ⟨b5, 0, none⟩))), (7, (.pointer (some ⟨b10, 0, none⟩))), (30, (.int .i64 top_1)), (32, (.int .i64 t145)), (41, (.int .i64 e157))] [cellCh b1 [v2, (.int .i64 r156)] 111, cellCh b10 [(.int .i64 t145), (.int .i64 0)] 87, cellCh b5 [(.int .i64 0), (.int .i64 0)] 87, snapCh w0 F] (k149 (r156, (min top_1 (w64 (t145 + e157))))) := by
        intro r150 r151 r152 r153 v154 r155 r156 e157 h158
        refine o_addw (dt 12 (fun w m => m.pick [2, 3] rfl)) rfl rfl rfl ?_
        refine o_min (dt 13 (fun w m => m.pick [2, 3] rfl)) rfl rfl rfl ?_
        refine o_fad (dt 14 (fun w m => m.pick [2, 3] rfl)) rfl rfl fld87_1 rfl ?_
        refine d_one (i := 15) rfl (by kernel_rfl) (o_stc (cs' := [(.int .i64 t145), (.int .i64 (min top_1 (w64 (t145 + e157))))]) 1 rfl rfl rfl ty3 rfl rfl rfl rfl ?_)
        refine d_and (fun w m => m.pick [2, 3] rfl) ?_
        refine pk [0, 1, 2, 3] rfl ?_
        refine re (E' := [(0, (.pointer (some ⟨b1, 0, none⟩))), (1, (.int .i64 top_1)), (2, (.int .i64 n_2)), (6, (.pointer (some ⟨b5, 0, none⟩))), (7, (.pointer (some ⟨b10, 0, none⟩)))]) ⟨rfl, rfl, rfl, rfl, rfl, trivial⟩ ?_
        exact H134 r150 r151 r152 r153 v154 r155 r156 e157 h158
      have H136 : ∀ (r150 : Int) (r151 : Int) (r152 : Int) (r153 : Int) (v154 : Value) (r155 : Int) (r156 : Int) (e157 : Int) (h158 : ([0, r150, r152, 4096])[(r155).toNat]? = some e157), Nx 68 (gB F [cellCh b1 [v2, (.int .i64 r_0_p)] 111] w0) (feet [cellCh b1 [v2, (.int .i64 r_0_p)] 111]) w0 (wpAnyH Tryd.prog .any (opsAt Tryd.f91 [1, 1, 1, 0]) Qd (Mem (gB F [cellCh b1 [v2, (.int .i64 r_0_p)] 111] w0) (feet [cellCh b1 [v2, (.int .i64 r_0_p)] 111]) w0 [cellCh b5 [(.int .i64 0), (.int .i64 0)] 87, snapCh w0 F]) 5 #[true, true, true, true, true, true, true, true, true, true, true, false, false, false, false, false]) [(0, (.pointer (some ⟨b1, 0, none⟩))), (1, (.int .i64 top_1)), (2, (.int .i64 n_2)), (6, (.pointer (some ⟨b5, 0, none⟩))), (7, (.pointer (some ⟨b10, 0, none⟩))), (30, (.int .i64 top_1)), (32, (.int .i64 t145)), (40, (pEl v154 r155 1 0))] [cellCh b1 [v2, (.int .i64 r156)] 111, ownCh elInt 3 v154 ([0, r150, r152, 4096]), cellCh b10 [(.int .i64 t145), (.int .i64 0)] 87, cellCh b5 [(.int .i64 0), (.int .i64 0)] 87, snapCh w0 F] (k149 (r156, (min top_1 (w64 (t145 + e157))))) := by
        intro r150 r151 r152 r153 v154 r155 r156 e157 h158
        refine d_one (i := 11) rfl (by kernel_rfl) (o_lds m_op (enc := encInt) (u := (.int .i64 e157)) 1 rfl reads_own flelInt rfl h158 rfl rfl ty3 rfl ?_)
        refine d_and (fun w m => m.pick [3, 4] rfl) ?_
        refine pk [0, 2, 3, 4] rfl ?_
        refine re (E' := [(0, (.pointer (some ⟨b1, 0, none⟩))), (1, (.int .i64 top_1)), (2, (.int .i64 n_2)), (6, (.pointer (some ⟨b5, 0, none⟩))), (7, (.pointer (some ⟨b10, 0, none⟩))), (30, (.int .i64 top_1)), (32, (.int .i64 t145)), (41, (.int .i64 e157))]) ⟨rfl, rfl, rfl, rfl, rfl, rfl, rfl, rfl, trivial⟩ ?_
        exact H135 r150 r151 r152 r153 v154 r155 r156 e157 h158
      have H137 : ∀ (r150 : Int) (r151 : Int) (r152 : Int) (r153 : Int) (v154 : Value) (r155 : Int) (r156 : Int), Nx 68 (gB F [cellCh b1 [v2, (.int .i64 r_0_p)] 111] w0) (feet [cellCh b1 [v2, (.int .i64 r_0_p)] 111]) w0 (wpAnyH Tryd.prog .any (opsAt Tryd.f91 [1, 1, 1, 0]) Qd (Mem (gB F [cellCh b1 [v2, (.int .i64 r_0_p)] 111] w0) (feet [cellCh b1 [v2, (.int .i64 r_0_p)] 111]) w0 [cellCh b5 [(.int .i64 0), (.int .i64 0)] 87, snapCh w0 F]) 6 #[true, true, true, true, true, true, true, true, true, true, false, false, false, false, false, false]) [(0, (.pointer (some ⟨b1, 0, none⟩))), (1, (.int .i64 top_1)), (2, (.int .i64 n_2)), (6, (.pointer (some ⟨b5, 0, none⟩))), (7, (.pointer (some ⟨b10, 0, none⟩))), (30, (.int .i64 top_1)), (32, (.int .i64 t145)), (37, v154), (39, (.int .i64 r155))] [cellCh b1 [v2, (.int .i64 r156)] 111, ownCh elInt 3 v154 ([0, r150, r152, 4096]), cellCh b10 [(.int .i64 t145), (.int .i64 0)] 87, cellCh b5 [(.int .i64 0), (.int .i64 0)] 87, snapCh w0 F] (idxW ([0, r150, r152, 4096]) r155 (fun e157 => k149 (r156, (min top_1 (w64 (t145 + e157)))))) := by
        intro r150 r151 r152 r153 v154 r155 r156
        refine d_one (i := 10) rfl (by kernel_rfl) (o_idx m_op 1 rfl reads_own rfl rfl rfl el103 ?_); intro e157 h158
        refine d_and (fun w m => m.pick [3, 4] rfl) ?_
        refine pk [0, 1, 2, 3, 4] rfl ?_
        refine re (E' := [(0, (.pointer (some ⟨b1, 0, none⟩))), (1, (.int .i64 top_1)), (2, (.int .i64 n_2)), (6, (.pointer (some ⟨b5, 0, none⟩))), (7, (.pointer (some ⟨b10, 0, none⟩))), (30, (.int .i64 top_1)), (32, (.int .i64 t145)), (40, (pEl v154 r155 1 0))]) ⟨rfl, rfl, rfl, rfl, rfl, rfl, rfl, rfl, trivial⟩ ?_
        exact H136 r150 r151 r152 r153 v154 r155 r156 e157 h158
      have H138 : ∀ (r150 : Int) (r151 : Int) (r152 : Int) (r153 : Int) (v154 : Value), Nx 68 (gB F [cellCh b1 [v2, (.int .i64 r_0_p)] 111] w0) (feet [cellCh b1 [v2, (.int .i64 r_0_p)] 111]) w0 (wpAnyH Tryd.prog .any (opsAt Tryd.f91 [1, 1, 1, 0]) Qd (Mem (gB F [cellCh b1 [v2, (.int .i64 r_0_p)] 111] w0) (feet [cellCh b1 [v2, (.int .i64 r_0_p)] 111]) w0 [cellCh b5 [(.int .i64 0), (.int .i64 0)] 87, snapCh w0 F]) 7 #[true, true, true, true, true, true, true, true, true, false, false, false, false, false, false, false]) [(0, (.pointer (some ⟨b1, 0, none⟩))), (1, (.int .i64 top_1)), (2, (.int .i64 n_2)), (6, (.pointer (some ⟨b5, 0, none⟩))), (7, (.pointer (some ⟨b10, 0, none⟩))), (30, (.int .i64 top_1)), (38, (.pointer (some ⟨b1, 0, none⟩))), (32, (.int .i64 t145)), (37, v154)] [ownCh elInt 3 v154 ([0, r150, r152, 4096]), cellCh b1 [v2, (.int .i64 r153)] 111, cellCh b10 [(.int .i64 t145), (.int .i64 0)] 87, cellCh b5 [(.int .i64 0), (.int .i64 0)] 87, snapCh w0 F] (L_spec_l20Rd_pick r_0_b r153 4 (fun (r155, r156) => idxW ([0, r150, r152, 4096]) r155 (fun e157 => k149 (r156, (min top_1 (w64 (t145 + e157))))))) := by
        intro r150 r151 r152 r153 v154
        refine pk [1, 0, 2, 3, 4] rfl ?_
        refine d_one (i := 9) rfl (by kernel_rfl) (o_call (vs := [(.pointer (some ⟨b1, 0, none⟩)), (.int .i64 4)]) (M0 := [cellCh b1 [v2, (.int .i64 r153)] 111]) Tryd.call65 rfl rfl (by intro w m h; exact (w_spec_l20Rd_pick (F := allB [cellCh b1 [v2, (.int .i64 r153)] 111] w) (r_0_b := r_0_b) (r_0_p := r153) (n_1 := 4) allB_ok m.given (m.rdM 3 rfl (reads_snap hv2)) h).mono (fun _ _ k => ret_free (fun r u => (fr_cons free_cell fr_nil)) k)) ?_); rintro ⟨r155, r156⟩ _
        refine d_and (fun w m => m.pick [3, 4] rfl) ?_
        refine pk [0, 1, 2, 3, 4] rfl ?_
        refine re (E' := [(0, (.pointer (some ⟨b1, 0, none⟩))), (1, (.int .i64 top_1)), (2, (.int .i64 n_2)), (6, (.pointer (some ⟨b5, 0, none⟩))), (7, (.pointer (some ⟨b10, 0, none⟩))), (30, (.int .i64 top_1)), (32, (.int .i64 t145)), (37, v154), (39, (.int .i64 r155))]) ⟨rfl, rfl, rfl, rfl, rfl, rfl, rfl, rfl, rfl, trivial⟩ ?_
        exact H137 r150 r151 r152 r153 v154 r155 r156
      have H139 : ∀ (r150 : Int) (r151 : Int) (r152 : Int) (r153 : Int) (r159 : Int) (r160 : Int), Nx 68 (gB F [cellCh b1 [v2, (.int .i64 r_0_p)] 111] w0) (feet [cellCh b1 [v2, (.int .i64 r_0_p)] 111]) w0 (wpAnyH Tryd.prog .any (opsAt Tryd.f91 [1, 1, 1, 0]) Qd (Mem (gB F [cellCh b1 [v2, (.int .i64 r_0_p)] 111] w0) (feet [cellCh b1 [v2, (.int .i64 r_0_p)] 111]) w0 [cellCh b5 [(.int .i64 0), (.int .i64 0)] 87, snapCh w0 F]) 7 #[true, true, true, true, true, true, true, false, true, true, false, false, false, false, false, false]) [(0, (.pointer (some ⟨b1, 0, none⟩))), (1, (.int .i64 top_1)), (2, (.int .i64 n_2)), (6, (.pointer (some ⟨b5, 0, none⟩))), (7, (.pointer (some ⟨b10, 0, none⟩))), (30, (.int .i64 top_1)), (32, (.int .i64 t145)), (34, (.int .i64 r150)), (36, (.int .i64 r152)), (39, (.int .i64 r159))] [cellCh b1 [v2, (.int .i64 r160)] 111, cellCh b10 [(.int .i64 t145), (.int .i64 0)] 87, cellCh b5 [(.int .i64 0), (.int .i64 0)] 87, snapCh w0 F] (idxW ([0, r150, r152, 4096]) r159 (fun e157 => k149 (r160, (min top_1 (w64 (t145 + e157)))))) := by
        intro r150 r151 r152 r153 r159 r160
        refine d_one (i := 7) rfl (by kernel_rfl) (o_bsl (enc := encInt) (qs := [(0, (.int .i64 0)), (1, (.int .i64 r150)), (2, (.int .i64 r152)), (3, (.int .i64 4096))]) (cells := [(.int .i64 0), (.int .i64 r150), (.int .i64 r152), (.int .i64 4096)]) ([0, r150, r152, 4096]) flelInt (by intro ρ h; simp only [List.map_toArray, List.map_cons, List.map_nil, h (.const (.int .i64 0)) _ rfl, h (.tmp 34) _ rfl, h (.tmp 36) _ rfl, h (.const (.int .i64 4096)) _ rfl]) rfl el103 zero3 rfl rfl rfl rfl rfl rfl ?_); intro v161
        refine d_and (fun w m => m.pick [3, 4] rfl) ?_
        refine pk [1, 0, 2, 3, 4] rfl ?_
        refine re (E' := [(0, (.pointer (some ⟨b1, 0, none⟩))), (1, (.int .i64 top_1)), (2, (.int .i64 n_2)), (6, (.pointer (some ⟨b5, 0, none⟩))), (7, (.pointer (some ⟨b10, 0, none⟩))), (30, (.int .i64 top_1)), (32, (.int .i64 t145)), (37, v161), (39, (.int .i64 r159))]) ⟨rfl, rfl, rfl, rfl, rfl, rfl, rfl, rfl, rfl, trivial⟩ ?_
        exact H137 r150 r151 r152 r153 v161 r159 r160
      have H140 : ∀ (r150 : Int) (r151 : Int) (r152 : Int) (r153 : Int), Nx 68 (gB F [cellCh b1 [v2, (.int .i64 r_0_p)] 111] w0) (feet [cellCh b1 [v2, (.int .i64 r_0_p)] 111]) w0 (wpAnyH Tryd.prog .any (opsAt Tryd.f91 [1, 1, 1, 0]) Qd (Mem (gB F [cellCh b1 [v2, (.int .i64 r_0_p)] 111] w0) (feet [cellCh b1 [v2, (.int .i64 r_0_p)] 111]) w0 [cellCh b5 [(.int .i64 0), (.int .i64 0)] 87, snapCh w0 F]) 8 #[true, true, true, true, true, true, true, false, true, false, false, false, false, false, false, false]) [(0, (.pointer (some ⟨b1, 0, none⟩))), (1, (.int .i64 top_1)), (2, (.int .i64 n_2)), (6, (.pointer (some ⟨b5, 0, none⟩))), (7, (.pointer (some ⟨b10, 0, none⟩))), (30, (.int .i64 top_1)), (38, (.pointer (some ⟨b1, 0, none⟩))), (32, (.int .i64 t145)), (34, (.int .i64 r150)), (36, (.int .i64 r152))] [cellCh b1 [v2, (.int .i64 r153)] 111, cellCh b10 [(.int .i64 t145), (.int .i64 0)] 87, cellCh b5 [(.int .i64 0), (.int .i64 0)] 87, snapCh w0 F] (L_spec_l20Rd_pick r_0_b r153 4 (fun (r155, r156) => idxW ([0, r150, r152, 4096]) r155 (fun e157 => k149 (r156, (min top_1 (w64 (t145 + e157))))))) := by
        intro r150 r151 r152 r153
        refine d_two (i := 7) (j := 9) rfl rfl (by kernel_rfl) ?_ ?_
        · intro o ho; cases ho
          refine o_bsl (enc := encInt) (qs := [(0, (.int .i64 0)), (1, (.int .i64 r150)), (2, (.int .i64 r152)), (3, (.int .i64 4096))]) (cells := [(.int .i64 0), (.int .i64 r150), (.int .i64 r152), (.int .i64 4096)]) ([0, r150, r152, 4096]) flelInt (by intro ρ h; simp only [List.map_toArray, List.map_cons, List.map_nil, h (.const (.int .i64 0)) _ rfl, h (.tmp 34) _ rfl, h (.tmp 36) _ rfl, h (.const (.int .i64 4096)) _ rfl]) rfl el103 zero3 rfl rfl rfl rfl rfl rfl ?_; intro v154
          refine d_and (fun w m => m.pick [3, 4] rfl) ?_
          refine pk [0, 1, 2, 3, 4] rfl ?_
          refine re (E' := [(0, (.pointer (some ⟨b1, 0, none⟩))), (1, (.int .i64 top_1)), (2, (.int .i64 n_2)), (6, (.pointer (some ⟨b5, 0, none⟩))), (7, (.pointer (some ⟨b10, 0, none⟩))), (30, (.int .i64 top_1)), (38, (.pointer (some ⟨b1, 0, none⟩))), (32, (.int .i64 t145)), (37, v154)]) ⟨rfl, rfl, rfl, rfl, rfl, rfl, rfl, rfl, rfl, trivial⟩ ?_
          exact H138 r150 r151 r152 r153 v154
        · intro o ho; cases ho
          refine o_call (vs := [(.pointer (some ⟨b1, 0, none⟩)), (.int .i64 4)]) (M0 := [cellCh b1 [v2, (.int .i64 r153)] 111]) Tryd.call65 rfl rfl (by intro w m h; exact (w_spec_l20Rd_pick (F := allB [cellCh b1 [v2, (.int .i64 r153)] 111] w) (r_0_b := r_0_b) (r_0_p := r153) (n_1 := 4) allB_ok m.given (m.rdM 2 rfl (reads_snap hv2)) h).mono (fun _ _ k => ret_free (fun r u => (fr_cons free_cell fr_nil)) k)) ?_; rintro ⟨r159, r160⟩ _
          refine d_and (fun w m => m.pick [2, 3] rfl) ?_
          refine pk [0, 1, 2, 3] rfl ?_
          refine re (E' := [(0, (.pointer (some ⟨b1, 0, none⟩))), (1, (.int .i64 top_1)), (2, (.int .i64 n_2)), (6, (.pointer (some ⟨b5, 0, none⟩))), (7, (.pointer (some ⟨b10, 0, none⟩))), (30, (.int .i64 top_1)), (32, (.int .i64 t145)), (34, (.int .i64 r150)), (36, (.int .i64 r152)), (39, (.int .i64 r159))]) ⟨rfl, rfl, rfl, rfl, rfl, rfl, rfl, rfl, rfl, rfl, trivial⟩ ?_
          exact H139 r150 r151 r152 r153 r159 r160
      have H141 : ∀ (r150 : Int) (r151 : Int), Nx 68 (gB F [cellCh b1 [v2, (.int .i64 r_0_p)] 111] w0) (feet [cellCh b1 [v2, (.int .i64 r_0_p)] 111]) w0 (wpAnyH Tryd.prog .any (opsAt Tryd.f91 [1, 1, 1, 0]) Qd (Mem (gB F [cellCh b1 [v2, (.int .i64 r_0_p)] 111] w0) (feet [cellCh b1 [v2, (.int .i64 r_0_p)] 111]) w0 [cellCh b5 [(.int .i64 0), (.int .i64 0)] 87, snapCh w0 F]) 9 #[true, true, true, true, true, true, false, false, true, false, false, false, false, false, false, false]) [(0, (.pointer (some ⟨b1, 0, none⟩))), (1, (.int .i64 top_1)), (2, (.int .i64 n_2)), (6, (.pointer (some ⟨b5, 0, none⟩))), (7, (.pointer (some ⟨b10, 0, none⟩))), (30, (.int .i64 top_1)), (35, (.pointer (some ⟨b1, 0, none⟩))), (38, (.pointer (some ⟨b1, 0, none⟩))), (32, (.int .i64 t145)), (34, (.int .i64 r150))] [cellCh b1 [v2, (.int .i64 r151)] 111, cellCh b10 [(.int .i64 t145), (.int .i64 0)] 87, cellCh b5 [(.int .i64 0), (.int .i64 0)] 87, snapCh w0 F] (L_spec_l20Rd_pick r_0_b r151 256 (fun (r152, r153) => L_spec_l20Rd_pick r_0_b r153 4 (fun (r155, r156) => idxW ([0, r150, r152, 4096]) r155 (fun e157 => k149 (r156, (min top_1 (w64 (t145 + e157)))))))) := by
        intro r150 r151
        refine d_one (i := 6) rfl (by kernel_rfl) (o_call (vs := [(.pointer (some ⟨b1, 0, none⟩)), (.int .i64 256)]) (M0 := [cellCh b1 [v2, (.int .i64 r151)] 111]) Tryd.call65 rfl rfl (by intro w m h; exact (w_spec_l20Rd_pick (F := allB [cellCh b1 [v2, (.int .i64 r151)] 111] w) (r_0_b := r_0_b) (r_0_p := r151) (n_1 := 256) allB_ok m.given (m.rdM 2 rfl (reads_snap hv2)) h).mono (fun _ _ k => ret_free (fun r u => (fr_cons free_cell fr_nil)) k)) ?_); rintro ⟨r152, r153⟩ _
        refine d_and (fun w m => m.pick [2, 3] rfl) ?_
        refine pk [0, 1, 2, 3] rfl ?_
        refine re (E' := [(0, (.pointer (some ⟨b1, 0, none⟩))), (1, (.int .i64 top_1)), (2, (.int .i64 n_2)), (6, (.pointer (some ⟨b5, 0, none⟩))), (7, (.pointer (some ⟨b10, 0, none⟩))), (30, (.int .i64 top_1)), (38, (.pointer (some ⟨b1, 0, none⟩))), (32, (.int .i64 t145)), (34, (.int .i64 r150)), (36, (.int .i64 r152))]) ⟨rfl, rfl, rfl, rfl, rfl, rfl, rfl, rfl, rfl, rfl, trivial⟩ ?_
        exact H140 r150 r151 r152 r153
      have H142 : ∀ (_ : Unit), Nx 68 (gB F [cellCh b1 [v2, (.int .i64 r_0_p)] 111] w0) (feet [cellCh b1 [v2, (.int .i64 r_0_p)] 111]) w0 (wpAnyH Tryd.prog .any (opsAt Tryd.f91 [1, 1, 1, 0]) Qd (Mem (gB F [cellCh b1 [v2, (.int .i64 r_0_p)] 111] w0) (feet [cellCh b1 [v2, (.int .i64 r_0_p)] 111]) w0 [cellCh b5 [(.int .i64 0), (.int .i64 0)] 87, snapCh w0 F]) 10 #[true, true, true, true, false, true, false, false, true, false, false, false, false, false, false, false]) [(0, (.pointer (some ⟨b1, 0, none⟩))), (1, (.int .i64 top_1)), (2, (.int .i64 n_2)), (6, (.pointer (some ⟨b5, 0, none⟩))), (7, (.pointer (some ⟨b10, 0, none⟩))), (30, (.int .i64 top_1)), (33, (.pointer (some ⟨b1, 0, none⟩))), (35, (.pointer (some ⟨b1, 0, none⟩))), (38, (.pointer (some ⟨b1, 0, none⟩))), (32, (.int .i64 t145))] [cellCh b1 [v2, (.int .i64 t144)] 111, cellCh b10 [(.int .i64 t145), (.int .i64 0)] 87, cellCh b5 [(.int .i64 0), (.int .i64 0)] 87, snapCh w0 F] (L_spec_l20Rd_pick r_0_b t144 4 (fun (r150, r151) => L_spec_l20Rd_pick r_0_b r151 256 (fun (r152, r153) => L_spec_l20Rd_pick r_0_b r153 4 (fun (r155, r156) => idxW ([0, r150, r152, 4096]) r155 (fun e157 => k149 (r156, (min top_1 (w64 (t145 + e157))))))))) := by
        intro _
        refine d_one (i := 4) rfl (by kernel_rfl) (o_call (vs := [(.pointer (some ⟨b1, 0, none⟩)), (.int .i64 4)]) (M0 := [cellCh b1 [v2, (.int .i64 t144)] 111]) Tryd.call65 rfl rfl (by intro w m h; exact (w_spec_l20Rd_pick (F := allB [cellCh b1 [v2, (.int .i64 t144)] 111] w) (r_0_b := r_0_b) (r_0_p := t144) (n_1 := 4) allB_ok m.given (m.rdM 2 rfl (reads_snap hv2)) h).mono (fun _ _ k => ret_free (fun r u => (fr_cons free_cell fr_nil)) k)) ?_); rintro ⟨r150, r151⟩ _
        refine d_and (fun w m => m.pick [2, 3] rfl) ?_
        refine pk [0, 1, 2, 3] rfl ?_
        refine re (E' := [(0, (.pointer (some ⟨b1, 0, none⟩))), (1, (.int .i64 top_1)), (2, (.int .i64 n_2)), (6, (.pointer (some ⟨b5, 0, none⟩))), (7, (.pointer (some ⟨b10, 0, none⟩))), (30, (.int .i64 top_1)), (35, (.pointer (some ⟨b1, 0, none⟩))), (38, (.pointer (some ⟨b1, 0, none⟩))), (32, (.int .i64 t145)), (34, (.int .i64 r150))]) ⟨rfl, rfl, rfl, rfl, rfl, rfl, rfl, rfl, rfl, rfl, trivial⟩ ?_
        exact H141 r150 r151
      have H143 : ∀ (r162 : Int) (r163 : Int) (r164 : Int) (r165 : Int) (v166 : Value) (r167 : Int) (r168 : Int) (e169 : Int) (h170 : ([0, r162, r164, 4096])[(r167).toNat]? = some e169), Nx 68 (gB F [cellCh b1 [v2, (.int .i64 r_0_p)] 111] w0) (feet [cellCh b1 [v2, (.int .i64 r_0_p)] 111]) w0 (wpAnyH Tryd.prog .any (opsAt Tryd.f91 [1, 1, 1, 0]) Qd (Mem (gB F [cellCh b1 [v2, (.int .i64 r_0_p)] 111] w0) (feet [cellCh b1 [v2, (.int .i64 r_0_p)] 111]) w0 [cellCh b5 [(.int .i64 0), (.int .i64 0)] 87, snapCh w0 F]) 5 #[true, true, false, true, true, true, true, true, true, true, true, true, false, false, false, false]) [(0, (.pointer (some ⟨b1, 0, none⟩))), (1, (.int .i64 top_1)), (2, (.int .i64 n_2)), (6, (.pointer (some ⟨b5, 0, none⟩))), (7, (.pointer (some ⟨b10, 0, none⟩))), (30, (.int .i64 top_1)), (31, (.pointer (some ⟨b10, 0, none⟩))), (41, (.int .i64 e169))] [cellCh b1 [v2, (.int .i64 r168)] 111, cellCh b10 [(.int .i64 t145), (.int .i64 0)] 87, cellCh b5 [(.int .i64 0), (.int .i64 0)] 87, snapCh w0 F] (k149 (r168, (min top_1 (w64 (t145 + e169))))) := by
        intro r162 r163 r164 r165 v166 r167 r168 e169 h170
        refine d_one (i := 2) rfl (by kernel_rfl) (o_ldc m_op (v := (.int .i64 t145)) 1 rfl rfl rfl ty3 rfl ?_)
        refine d_and (fun w m => m.pick [2, 3] rfl) ?_
        refine pk [0, 1, 2, 3] rfl ?_
        refine re (E' := [(0, (.pointer (some ⟨b1, 0, none⟩))), (1, (.int .i64 top_1)), (2, (.int .i64 n_2)), (6, (.pointer (some ⟨b5, 0, none⟩))), (7, (.pointer (some ⟨b10, 0, none⟩))), (30, (.int .i64 top_1)), (32, (.int .i64 t145)), (41, (.int .i64 e169))]) ⟨rfl, rfl, rfl, rfl, rfl, rfl, rfl, rfl, trivial⟩ ?_
        exact H135 r162 r163 r164 r165 v166 r167 r168 e169 h170
      have H144 : ∀ (r162 : Int) (r163 : Int) (r164 : Int) (r165 : Int) (v166 : Value) (r167 : Int) (r168 : Int) (e169 : Int) (h170 : ([0, r162, r164, 4096])[(r167).toNat]? = some e169), Nx 68 (gB F [cellCh b1 [v2, (.int .i64 r_0_p)] 111] w0) (feet [cellCh b1 [v2, (.int .i64 r_0_p)] 111]) w0 (wpAnyH Tryd.prog .any (opsAt Tryd.f91 [1, 1, 1, 0]) Qd (Mem (gB F [cellCh b1 [v2, (.int .i64 r_0_p)] 111] w0) (feet [cellCh b1 [v2, (.int .i64 r_0_p)] 111]) w0 [cellCh b5 [(.int .i64 0), (.int .i64 0)] 87, snapCh w0 F]) 6 #[true, true, false, true, true, true, true, true, true, true, true, false, false, false, false, false]) [(0, (.pointer (some ⟨b1, 0, none⟩))), (1, (.int .i64 top_1)), (2, (.int .i64 n_2)), (6, (.pointer (some ⟨b5, 0, none⟩))), (7, (.pointer (some ⟨b10, 0, none⟩))), (30, (.int .i64 top_1)), (31, (.pointer (some ⟨b10, 0, none⟩))), (40, (pEl v166 r167 1 0))] [cellCh b1 [v2, (.int .i64 r168)] 111, ownCh elInt 3 v166 ([0, r162, r164, 4096]), cellCh b10 [(.int .i64 t145), (.int .i64 0)] 87, cellCh b5 [(.int .i64 0), (.int .i64 0)] 87, snapCh w0 F] (k149 (r168, (min top_1 (w64 (t145 + e169))))) := by
        intro r162 r163 r164 r165 v166 r167 r168 e169 h170
        refine d_two (i := 2) (j := 11) rfl rfl (by kernel_rfl) ?_ ?_
        · intro o ho; cases ho
          refine o_ldc m_op (v := (.int .i64 t145)) 2 rfl rfl rfl ty3 rfl ?_
          refine d_and (fun w m => m.pick [3, 4] rfl) ?_
          refine pk [0, 1, 2, 3, 4] rfl ?_
          refine re (E' := [(0, (.pointer (some ⟨b1, 0, none⟩))), (1, (.int .i64 top_1)), (2, (.int .i64 n_2)), (6, (.pointer (some ⟨b5, 0, none⟩))), (7, (.pointer (some ⟨b10, 0, none⟩))), (30, (.int .i64 top_1)), (32, (.int .i64 t145)), (40, (pEl v166 r167 1 0))]) ⟨rfl, rfl, rfl, rfl, rfl, rfl, rfl, rfl, trivial⟩ ?_
          exact H136 r162 r163 r164 r165 v166 r167 r168 e169 h170
        · intro o ho; cases ho
          refine o_lds m_op (enc := encInt) (u := (.int .i64 e169)) 1 rfl reads_own flelInt rfl h170 rfl rfl ty3 rfl ?_
          refine d_and (fun w m => m.pick [3, 4] rfl) ?_
          refine pk [0, 2, 3, 4] rfl ?_
          refine re (E' := [(0, (.pointer (some ⟨b1, 0, none⟩))), (1, (.int .i64 top_1)), (2, (.int .i64 n_2)), (6, (.pointer (some ⟨b5, 0, none⟩))), (7, (.pointer (some ⟨b10, 0, none⟩))), (30, (.int .i64 top_1)), (31, (.pointer (some ⟨b10, 0, none⟩))), (41, (.int .i64 e169))]) ⟨rfl, rfl, rfl, rfl, rfl, rfl, rfl, rfl, trivial⟩ ?_
          exact H143 r162 r163 r164 r165 v166 r167 r168 e169 h170
      have H145 : ∀ (r162 : Int) (r163 : Int) (r164 : Int) (r165 : Int) (v166 : Value) (r167 : Int) (r168 : Int), Nx 68 (gB F [cellCh b1 [v2, (.int .i64 r_0_p)] 111] w0) (feet [cellCh b1 [v2, (.int .i64 r_0_p)] 111]) w0 (wpAnyH Tryd.prog .any (opsAt Tryd.f91 [1, 1, 1, 0]) Qd (Mem (gB F [cellCh b1 [v2, (.int .i64 r_0_p)] 111] w0) (feet [cellCh b1 [v2, (.int .i64 r_0_p)] 111]) w0 [cellCh b5 [(.int .i64 0), (.int .i64 0)] 87, snapCh w0 F]) 7 #[true, true, false, true, true, true, true, true, true, true, false, false, false, false, false, false]) [(0, (.pointer (some ⟨b1, 0, none⟩))), (1, (.int .i64 top_1)), (2, (.int .i64 n_2)), (6, (.pointer (some ⟨b5, 0, none⟩))), (7, (.pointer (some ⟨b10, 0, none⟩))), (30, (.int .i64 top_1)), (31, (.pointer (some ⟨b10, 0, none⟩))), (37, v166), (39, (.int .i64 r167))] [cellCh b1 [v2, (.int .i64 r168)] 111, ownCh elInt 3 v166 ([0, r162, r164, 4096]), cellCh b10 [(.int .i64 t145), (.int .i64 0)] 87, cellCh b5 [(.int .i64 0), (.int .i64 0)] 87, snapCh w0 F] (idxW ([0, r162, r164, 4096]) r167 (fun e157 => k149 (r168, (min top_1 (w64 (t145 + e157)))))) := by
        intro r162 r163 r164 r165 v166 r167 r168
        refine d_two (i := 2) (j := 10) rfl rfl (by kernel_rfl) ?_ ?_
        · intro o ho; cases ho
          refine o_ldc m_op (v := (.int .i64 t145)) 2 rfl rfl rfl ty3 rfl ?_
          refine d_and (fun w m => m.pick [3, 4] rfl) ?_
          refine pk [0, 1, 2, 3, 4] rfl ?_
          refine re (E' := [(0, (.pointer (some ⟨b1, 0, none⟩))), (1, (.int .i64 top_1)), (2, (.int .i64 n_2)), (6, (.pointer (some ⟨b5, 0, none⟩))), (7, (.pointer (some ⟨b10, 0, none⟩))), (30, (.int .i64 top_1)), (32, (.int .i64 t145)), (37, v166), (39, (.int .i64 r167))]) ⟨rfl, rfl, rfl, rfl, rfl, rfl, rfl, rfl, rfl, trivial⟩ ?_
          exact H137 r162 r163 r164 r165 v166 r167 r168
        · intro o ho; cases ho
          refine o_idx m_op 1 rfl reads_own rfl rfl rfl el103 ?_; intro e169 h170
          refine d_and (fun w m => m.pick [3, 4] rfl) ?_
          refine pk [0, 1, 2, 3, 4] rfl ?_
          refine re (E' := [(0, (.pointer (some ⟨b1, 0, none⟩))), (1, (.int .i64 top_1)), (2, (.int .i64 n_2)), (6, (.pointer (some ⟨b5, 0, none⟩))), (7, (.pointer (some ⟨b10, 0, none⟩))), (30, (.int .i64 top_1)), (31, (.pointer (some ⟨b10, 0, none⟩))), (40, (pEl v166 r167 1 0))]) ⟨rfl, rfl, rfl, rfl, rfl, rfl, rfl, rfl, trivial⟩ ?_
          exact H144 r162 r163 r164 r165 v166 r167 r168 e169 h170
      have H146 : ∀ (r162 : Int) (r163 : Int) (r164 : Int) (r165 : Int) (v166 : Value), Nx 68 (gB F [cellCh b1 [v2, (.int .i64 r_0_p)] 111] w0) (feet [cellCh b1 [v2, (.int .i64 r_0_p)] 111]) w0 (wpAnyH Tryd.prog .any (opsAt Tryd.f91 [1, 1, 1, 0]) Qd (Mem (gB F [cellCh b1 [v2, (.int .i64 r_0_p)] 111] w0) (feet [cellCh b1 [v2, (.int .i64 r_0_p)] 111]) w0 [cellCh b5 [(.int .i64 0), (.int .i64 0)] 87, snapCh w0 F]) 8 #[true, true, false, true, true, true, true, true, true, false, false, false, false, false, false, false]) [(0, (.pointer (some ⟨b1, 0, none⟩))), (1, (.int .i64 top_1)), (2, (.int .i64 n_2)), (6, (.pointer (some ⟨b5, 0, none⟩))), (7, (.pointer (some ⟨b10, 0, none⟩))), (30, (.int .i64 top_1)), (31, (.pointer (some ⟨b10, 0, none⟩))), (38, (.pointer (some ⟨b1, 0, none⟩))), (37, v166)] [ownCh elInt 3 v166 ([0, r162, r164, 4096]), cellCh b1 [v2, (.int .i64 r165)] 111, cellCh b10 [(.int .i64 t145), (.int .i64 0)] 87, cellCh b5 [(.int .i64 0), (.int .i64 0)] 87, snapCh w0 F] (L_spec_l20Rd_pick r_0_b r165 4 (fun (r155, r156) => idxW ([0, r162, r164, 4096]) r155 (fun e157 => k149 (r156, (min top_1 (w64 (t145 + e157))))))) := by
        intro r162 r163 r164 r165 v166
        refine d_two (i := 2) (j := 9) rfl rfl (by kernel_rfl) ?_ ?_
        · intro o ho; cases ho
          refine o_ldc m_op (v := (.int .i64 t145)) 2 rfl rfl rfl ty3 rfl ?_
          refine d_and (fun w m => m.pick [3, 4] rfl) ?_
          refine pk [0, 1, 2, 3, 4] rfl ?_
          refine re (E' := [(0, (.pointer (some ⟨b1, 0, none⟩))), (1, (.int .i64 top_1)), (2, (.int .i64 n_2)), (6, (.pointer (some ⟨b5, 0, none⟩))), (7, (.pointer (some ⟨b10, 0, none⟩))), (30, (.int .i64 top_1)), (38, (.pointer (some ⟨b1, 0, none⟩))), (32, (.int .i64 t145)), (37, v166)]) ⟨rfl, rfl, rfl, rfl, rfl, rfl, rfl, rfl, rfl, trivial⟩ ?_
          exact H138 r162 r163 r164 r165 v166
        · intro o ho; cases ho
          refine pk [1, 0, 2, 3, 4] rfl ?_
          refine o_call (vs := [(.pointer (some ⟨b1, 0, none⟩)), (.int .i64 4)]) (M0 := [cellCh b1 [v2, (.int .i64 r165)] 111]) Tryd.call65 rfl rfl (by intro w m h; exact (w_spec_l20Rd_pick (F := allB [cellCh b1 [v2, (.int .i64 r165)] 111] w) (r_0_b := r_0_b) (r_0_p := r165) (n_1 := 4) allB_ok m.given (m.rdM 3 rfl (reads_snap hv2)) h).mono (fun _ _ k => ret_free (fun r u => (fr_cons free_cell fr_nil)) k)) ?_; rintro ⟨r167, r168⟩ _
          refine d_and (fun w m => m.pick [3, 4] rfl) ?_
          refine pk [0, 1, 2, 3, 4] rfl ?_
          refine re (E' := [(0, (.pointer (some ⟨b1, 0, none⟩))), (1, (.int .i64 top_1)), (2, (.int .i64 n_2)), (6, (.pointer (some ⟨b5, 0, none⟩))), (7, (.pointer (some ⟨b10, 0, none⟩))), (30, (.int .i64 top_1)), (31, (.pointer (some ⟨b10, 0, none⟩))), (37, v166), (39, (.int .i64 r167))]) ⟨rfl, rfl, rfl, rfl, rfl, rfl, rfl, rfl, rfl, trivial⟩ ?_
          exact H145 r162 r163 r164 r165 v166 r167 r168
      have H147 : ∀ (r162 : Int) (r163 : Int) (r164 : Int) (r165 : Int) (r171 : Int) (r172 : Int), Nx 68 (gB F [cellCh b1 [v2, (.int .i64 r_0_p)] 111] w0) (feet [cellCh b1 [v2, (.int .i64 r_0_p)] 111]) w0 (wpAnyH Tryd.prog .any (opsAt Tryd.f91 [1, 1, 1, 0]) Qd (Mem (gB F [cellCh b1 [v2, (.int .i64 r_0_p)] 111] w0) (feet [cellCh b1 [v2, (.int .i64 r_0_p)] 111]) w0 [cellCh b5 [(.int .i64 0), (.int .i64 0)] 87, snapCh w0 F]) 8 #[true, true, false, true, true, true, true, false, true, true, false, false, false, false, false, false]) [(0, (.pointer (some ⟨b1, 0, none⟩))), (1, (.int .i64 top_1)), (2, (.int .i64 n_2)), (6, (.pointer (some ⟨b5, 0, none⟩))), (7, (.pointer (some ⟨b10, 0, none⟩))), (30, (.int .i64 top_1)), (31, (.pointer (some ⟨b10, 0, none⟩))), (34, (.int .i64 r162)), (36, (.int .i64 r164)), (39, (.int .i64 r171))] [cellCh b1 [v2, (.int .i64 r172)] 111, cellCh b10 [(.int .i64 t145), (.int .i64 0)] 87, cellCh b5 [(.int .i64 0), (.int .i64 0)] 87, snapCh w0 F] (idxW ([0, r162, r164, 4096]) r171 (fun e157 => k149 (r172, (min top_1 (w64 (t145 + e157)))))) := by
        intro r162 r163 r164 r165 r171 r172
        refine d_two (i := 2) (j := 7) rfl rfl (by kernel_rfl) ?_ ?_
        · intro o ho; cases ho
          refine o_ldc m_op (v := (.int .i64 t145)) 1 rfl rfl rfl ty3 rfl ?_
          refine d_and (fun w m => m.pick [2, 3] rfl) ?_
          refine pk [0, 1, 2, 3] rfl ?_
          refine re (E' := [(0, (.pointer (some ⟨b1, 0, none⟩))), (1, (.int .i64 top_1)), (2, (.int .i64 n_2)), (6, (.pointer (some ⟨b5, 0, none⟩))), (7, (.pointer (some ⟨b10, 0, none⟩))), (30, (.int .i64 top_1)), (32, (.int .i64 t145)), (34, (.int .i64 r162)), (36, (.int .i64 r164)), (39, (.int .i64 r171))]) ⟨rfl, rfl, rfl, rfl, rfl, rfl, rfl, rfl, rfl, rfl, trivial⟩ ?_
          exact H139 r162 r163 r164 r165 r171 r172
        · intro o ho; cases ho
          refine o_bsl (enc := encInt) (qs := [(0, (.int .i64 0)), (1, (.int .i64 r162)), (2, (.int .i64 r164)), (3, (.int .i64 4096))]) (cells := [(.int .i64 0), (.int .i64 r162), (.int .i64 r164), (.int .i64 4096)]) ([0, r162, r164, 4096]) flelInt (by intro ρ h; simp only [List.map_toArray, List.map_cons, List.map_nil, h (.const (.int .i64 0)) _ rfl, h (.tmp 34) _ rfl, h (.tmp 36) _ rfl, h (.const (.int .i64 4096)) _ rfl]) rfl el103 zero3 rfl rfl rfl rfl rfl rfl ?_; intro v173
          refine d_and (fun w m => m.pick [3, 4] rfl) ?_
          refine pk [1, 0, 2, 3, 4] rfl ?_
          refine re (E' := [(0, (.pointer (some ⟨b1, 0, none⟩))), (1, (.int .i64 top_1)), (2, (.int .i64 n_2)), (6, (.pointer (some ⟨b5, 0, none⟩))), (7, (.pointer (some ⟨b10, 0, none⟩))), (30, (.int .i64 top_1)), (31, (.pointer (some ⟨b10, 0, none⟩))), (37, v173), (39, (.int .i64 r171))]) ⟨rfl, rfl, rfl, rfl, rfl, rfl, rfl, rfl, rfl, trivial⟩ ?_
          exact H145 r162 r163 r164 r165 v173 r171 r172
      have H148 : ∀ (r162 : Int) (r163 : Int) (r164 : Int) (r165 : Int), Nx 68 (gB F [cellCh b1 [v2, (.int .i64 r_0_p)] 111] w0) (feet [cellCh b1 [v2, (.int .i64 r_0_p)] 111]) w0 (wpAnyH Tryd.prog .any (opsAt Tryd.f91 [1, 1, 1, 0]) Qd (Mem (gB F [cellCh b1 [v2, (.int .i64 r_0_p)] 111] w0) (feet [cellCh b1 [v2, (.int .i64 r_0_p)] 111]) w0 [cellCh b5 [(.int .i64 0), (.int .i64 0)] 87, snapCh w0 F]) 9 #[true, true, false, true, true, true, true, false, true, false, false, false, false, false, false, false]) [(0, (.pointer (some ⟨b1, 0, none⟩))), (1, (.int .i64 top_1)), (2, (.int .i64 n_2)), (6, (.pointer (some ⟨b5, 0, none⟩))), (7, (.pointer (some ⟨b10, 0, none⟩))), (30, (.int .i64 top_1)), (31, (.pointer (some ⟨b10, 0, none⟩))), (38, (.pointer (some ⟨b1, 0, none⟩))), (34, (.int .i64 r162)), (36, (.int .i64 r164))] [cellCh b1 [v2, (.int .i64 r165)] 111, cellCh b10 [(.int .i64 t145), (.int .i64 0)] 87, cellCh b5 [(.int .i64 0), (.int .i64 0)] 87, snapCh w0 F] (L_spec_l20Rd_pick r_0_b r165 4 (fun (r155, r156) => idxW ([0, r162, r164, 4096]) r155 (fun e157 => k149 (r156, (min top_1 (w64 (t145 + e157))))))) := by
        intro r162 r163 r164 r165
        refine d_three (i := 2) (j := 7) (l := 9) rfl rfl rfl (by kernel_rfl) ?_ ?_ ?_
        · intro o ho; cases ho
          refine o_ldc m_op (v := (.int .i64 t145)) 1 rfl rfl rfl ty3 rfl ?_
          refine d_and (fun w m => m.pick [2, 3] rfl) ?_
          refine pk [0, 1, 2, 3] rfl ?_
          refine re (E' := [(0, (.pointer (some ⟨b1, 0, none⟩))), (1, (.int .i64 top_1)), (2, (.int .i64 n_2)), (6, (.pointer (some ⟨b5, 0, none⟩))), (7, (.pointer (some ⟨b10, 0, none⟩))), (30, (.int .i64 top_1)), (38, (.pointer (some ⟨b1, 0, none⟩))), (32, (.int .i64 t145)), (34, (.int .i64 r162)), (36, (.int .i64 r164))]) ⟨rfl, rfl, rfl, rfl, rfl, rfl, rfl, rfl, rfl, rfl, trivial⟩ ?_
          exact H140 r162 r163 r164 r165
        · intro o ho; cases ho
          refine o_bsl (enc := encInt) (qs := [(0, (.int .i64 0)), (1, (.int .i64 r162)), (2, (.int .i64 r164)), (3, (.int .i64 4096))]) (cells := [(.int .i64 0), (.int .i64 r162), (.int .i64 r164), (.int .i64 4096)]) ([0, r162, r164, 4096]) flelInt (by intro ρ h; simp only [List.map_toArray, List.map_cons, List.map_nil, h (.const (.int .i64 0)) _ rfl, h (.tmp 34) _ rfl, h (.tmp 36) _ rfl, h (.const (.int .i64 4096)) _ rfl]) rfl el103 zero3 rfl rfl rfl rfl rfl rfl ?_; intro v166
          refine d_and (fun w m => m.pick [3, 4] rfl) ?_
          refine pk [0, 1, 2, 3, 4] rfl ?_
          refine re (E' := [(0, (.pointer (some ⟨b1, 0, none⟩))), (1, (.int .i64 top_1)), (2, (.int .i64 n_2)), (6, (.pointer (some ⟨b5, 0, none⟩))), (7, (.pointer (some ⟨b10, 0, none⟩))), (30, (.int .i64 top_1)), (31, (.pointer (some ⟨b10, 0, none⟩))), (38, (.pointer (some ⟨b1, 0, none⟩))), (37, v166)]) ⟨rfl, rfl, rfl, rfl, rfl, rfl, rfl, rfl, rfl, trivial⟩ ?_
          exact H146 r162 r163 r164 r165 v166
        · intro o ho; cases ho
          refine o_call (vs := [(.pointer (some ⟨b1, 0, none⟩)), (.int .i64 4)]) (M0 := [cellCh b1 [v2, (.int .i64 r165)] 111]) Tryd.call65 rfl rfl (by intro w m h; exact (w_spec_l20Rd_pick (F := allB [cellCh b1 [v2, (.int .i64 r165)] 111] w) (r_0_b := r_0_b) (r_0_p := r165) (n_1 := 4) allB_ok m.given (m.rdM 2 rfl (reads_snap hv2)) h).mono (fun _ _ k => ret_free (fun r u => (fr_cons free_cell fr_nil)) k)) ?_; rintro ⟨r171, r172⟩ _
          refine d_and (fun w m => m.pick [2, 3] rfl) ?_
          refine pk [0, 1, 2, 3] rfl ?_
          refine re (E' := [(0, (.pointer (some ⟨b1, 0, none⟩))), (1, (.int .i64 top_1)), (2, (.int .i64 n_2)), (6, (.pointer (some ⟨b5, 0, none⟩))), (7, (.pointer (some ⟨b10, 0, none⟩))), (30, (.int .i64 top_1)), (31, (.pointer (some ⟨b10, 0, none⟩))), (34, (.int .i64 r162)), (36, (.int .i64 r164)), (39, (.int .i64 r171))]) ⟨rfl, rfl, rfl, rfl, rfl, rfl, rfl, rfl, rfl, rfl, trivial⟩ ?_
          exact H147 r162 r163 r164 r165 r171 r172
      have H149 : ∀ (r162 : Int) (r163 : Int), Nx 68 (gB F [cellCh b1 [v2, (.int .i64 r_0_p)] 111] w0) (feet [cellCh b1 [v2, (.int .i64 r_0_p)] 111]) w0 (wpAnyH Tryd.prog .any (opsAt Tryd.f91 [1, 1, 1, 0]) Qd (Mem (gB F [cellCh b1 [v2, (.int .i64 r_0_p)] 111] w0) (feet [cellCh b1 [v2, (.int .i64 r_0_p)] 111]) w0 [cellCh b5 [(.int .i64 0), (.int .i64 0)] 87, snapCh w0 F]) 10 #[true, true, false, true, true, true, false, false, true, false, false, false, false, false, false, false]) [(0, (.pointer (some ⟨b1, 0, none⟩))), (1, (.int .i64 top_1)), (2, (.int .i64 n_2)), (6, (.pointer (some ⟨b5, 0, none⟩))), (7, (.pointer (some ⟨b10, 0, none⟩))), (30, (.int .i64 top_1)), (31, (.pointer (some ⟨b10, 0, none⟩))), (35, (.pointer (some ⟨b1, 0, none⟩))), (38, (.pointer (some ⟨b1, 0, none⟩))), (34, (.int .i64 r162))] [cellCh b1 [v2, (.int .i64 r163)] 111, cellCh b10 [(.int .i64 t145), (.int .i64 0)] 87, cellCh b5 [(.int .i64 0), (.int .i64 0)] 87, snapCh w0 F] (L_spec_l20Rd_pick r_0_b r163 256 (fun (r152, r153) => L_spec_l20Rd_pick r_0_b r153 4 (fun (r155, r156) => idxW ([0, r162, r152, 4096]) r155 (fun e157 => k149 (r156, (min top_1 (w64 (t145 + e157)))))))) := by
        intro r162 r163
        refine d_two (i := 2) (j := 6) rfl rfl (by kernel_rfl) ?_ ?_
        · intro o ho; cases ho
          refine o_ldc m_op (v := (.int .i64 t145)) 1 rfl rfl rfl ty3 rfl ?_
          refine d_and (fun w m => m.pick [2, 3] rfl) ?_
          refine pk [0, 1, 2, 3] rfl ?_
          refine re (E' := [(0, (.pointer (some ⟨b1, 0, none⟩))), (1, (.int .i64 top_1)), (2, (.int .i64 n_2)), (6, (.pointer (some ⟨b5, 0, none⟩))), (7, (.pointer (some ⟨b10, 0, none⟩))), (30, (.int .i64 top_1)), (35, (.pointer (some ⟨b1, 0, none⟩))), (38, (.pointer (some ⟨b1, 0, none⟩))), (32, (.int .i64 t145)), (34, (.int .i64 r162))]) ⟨rfl, rfl, rfl, rfl, rfl, rfl, rfl, rfl, rfl, rfl, trivial⟩ ?_
          exact H141 r162 r163
        · intro o ho; cases ho
          refine o_call (vs := [(.pointer (some ⟨b1, 0, none⟩)), (.int .i64 256)]) (M0 := [cellCh b1 [v2, (.int .i64 r163)] 111]) Tryd.call65 rfl rfl (by intro w m h; exact (w_spec_l20Rd_pick (F := allB [cellCh b1 [v2, (.int .i64 r163)] 111] w) (r_0_b := r_0_b) (r_0_p := r163) (n_1 := 256) allB_ok m.given (m.rdM 2 rfl (reads_snap hv2)) h).mono (fun _ _ k => ret_free (fun r u => (fr_cons free_cell fr_nil)) k)) ?_; rintro ⟨r164, r165⟩ _
          refine d_and (fun w m => m.pick [2, 3] rfl) ?_
          refine pk [0, 1, 2, 3] rfl ?_
          refine re (E' := [(0, (.pointer (some ⟨b1, 0, none⟩))), (1, (.int .i64 top_1)), (2, (.int .i64 n_2)), (6, (.pointer (some ⟨b5, 0, none⟩))), (7, (.pointer (some ⟨b10, 0, none⟩))), (30, (.int .i64 top_1)), (31, (.pointer (some ⟨b10, 0, none⟩))), (38, (.pointer (some ⟨b1, 0, none⟩))), (34, (.int .i64 r162)), (36, (.int .i64 r164))]) ⟨rfl, rfl, rfl, rfl, rfl, rfl, rfl, rfl, rfl, rfl, trivial⟩ ?_
          exact H148 r162 r163 r164 r165
      refine o_mv (dt 0 (fun w m => m.pick [2, 3] rfl)) rfl rfl ?_
      refine o_fad (dt 1 (fun w m => m.pick [2, 3] rfl)) rfl rfl fld87_0 rfl ?_
      refine o_mv (dt 3 (fun w m => m.pick [2, 3] rfl)) rfl rfl ?_
      refine o_mv (dt 5 (fun w m => m.pick [2, 3] rfl)) rfl rfl ?_
      refine o_mv (dt 8 (fun w m => m.pick [2, 3] rfl)) rfl rfl ?_
      refine d_two (i := 2) (j := 4) rfl rfl (by kernel_rfl) ?_ ?_
      · intro o ho; cases ho
        refine o_ldc m_op (v := (.int .i64 t145)) 1 rfl rfl rfl ty3 rfl ?_
        refine d_and (fun w m => m.pick [2, 3] rfl) ?_
        refine pk [0, 1, 2, 3] rfl ?_
        refine re (E' := [(0, (.pointer (some ⟨b1, 0, none⟩))), (1, (.int .i64 top_1)), (2, (.int .i64 n_2)), (6, (.pointer (some ⟨b5, 0, none⟩))), (7, (.pointer (some ⟨b10, 0, none⟩))), (30, (.int .i64 top_1)), (33, (.pointer (some ⟨b1, 0, none⟩))), (35, (.pointer (some ⟨b1, 0, none⟩))), (38, (.pointer (some ⟨b1, 0, none⟩))), (32, (.int .i64 t145))]) ⟨rfl, rfl, rfl, rfl, rfl, rfl, rfl, rfl, rfl, rfl, trivial⟩ ?_
        exact H142 ()
      · intro o ho; cases ho
        refine o_call (vs := [(.pointer (some ⟨b1, 0, none⟩)), (.int .i64 4)]) (M0 := [cellCh b1 [v2, (.int .i64 t144)] 111]) Tryd.call65 rfl rfl (by intro w m h; exact (w_spec_l20Rd_pick (F := allB [cellCh b1 [v2, (.int .i64 t144)] 111] w) (r_0_b := r_0_b) (r_0_p := t144) (n_1 := 4) allB_ok m.given (m.rdM 2 rfl (reads_snap hv2)) h).mono (fun _ _ k => ret_free (fun r u => (fr_cons free_cell fr_nil)) k)) ?_; rintro ⟨r162, r163⟩ _
        refine d_and (fun w m => m.pick [2, 3] rfl) ?_
        refine pk [0, 1, 2, 3] rfl ?_
        refine re (E' := [(0, (.pointer (some ⟨b1, 0, none⟩))), (1, (.int .i64 top_1)), (2, (.int .i64 n_2)), (6, (.pointer (some ⟨b5, 0, none⟩))), (7, (.pointer (some ⟨b10, 0, none⟩))), (30, (.int .i64 top_1)), (31, (.pointer (some ⟨b10, 0, none⟩))), (35, (.pointer (some ⟨b1, 0, none⟩))), (38, (.pointer (some ⟨b1, 0, none⟩))), (34, (.int .i64 r162))]) ⟨rfl, rfl, rfl, rfl, rfl, rfl, rfl, rfl, rfl, rfl, trivial⟩ ?_
        exact H149 r162 r163
    · rintro ⟨t147, t148⟩ a w ⟨hE, hm⟩ h
      refine nx_of hE hm h ?_
      clear hE hm h
      refine c_seq ?_
      refine c_seq ?_
      refine c_region ?_
      refine o_mv st rfl rfl ?_
      refine o_mv st rfl rfl ?_
      refine stw (o_call (vs := [(.pointer (some ⟨b1, 0, none⟩)), (.int .i64 n_2)]) (M0 := [cellCh b1 [v2, (.int .i64 t147)] 111]) Tryd.call64 rfl rfl (by intro w m h; exact (w_spec_l20Rd_odd (F := allB [cellCh b1 [v2, (.int .i64 t147)] 111] w) (r_0_b := r_0_b) (r_0_p := t147) (n_1 := n_2) allB_ok m.given (m.rdM 2 rfl (reads_snap hv2)) h).mono (fun _ _ k => ret_free (fun r u => (fr_cons free_cell fr_nil)) k)) ?_); rintro ⟨r174, r175⟩ _
      refine c_nil ?_
      refine l_then ?_
      refine c_cond rfl ?_ ?_
      · refine c_join (σ := (Int × Int × Int)) (fun ((t176, t177, t178) : (Int × Int × Int)) (a : Act) (w : World) => Has 68 [(6, (.pointer (some ⟨b5, 0, none⟩)))] a ∧ Mem (gB F [cellCh b1 [v2, (.int .i64 r_0_p)] 111] w0) (feet [cellCh b1 [v2, (.int .i64 r_0_p)] 111]) w0 [cellCh b1 [v2, (.int .i64 t176)] 111, cellCh b5 [(.int .i64 t177), (.int .i64 t178)] 87, snapCh w0 F] w) ?_ ?_
        · intro k179
          refine c_drawQ mixed 20 rfl [cellCh b10 [(.int .i64 t145), (.int .i64 t148)] 87, snapCh w0 F] ?_
          intro Qd hP hQ
          have H158 : ∀ (v180 : Value) (r181 : Int) (r182 : Int) (e183 : GSpan) (h184 : ([(GSpan.mk (w64 (t148 + 1)) t148), (GSpan.mk (-1) t148), (GSpan.mk t145 (w64 (top_1 + 1)))])[(r181).toNat]? = some e183), Nx 68 (gB F [cellCh b1 [v2, (.int .i64 r_0_p)] 111] w0) (feet [cellCh b1 [v2, (.int .i64 r_0_p)] 111]) w0 (wpAnyH Tryd.prog .any (opsAt Tryd.f91 [1, 1, 1, 1, 0, 1, 0, 0]) Qd (Mem (gB F [cellCh b1 [v2, (.int .i64 r_0_p)] 111] w0) (feet [cellCh b1 [v2, (.int .i64 r_0_p)] 111]) w0 [cellCh b10 [(.int .i64 t145), (.int .i64 t148)] 87, snapCh w0 F]) 0 #[true, true, true, true, true, true, true, true, true, true, true, true, true, true, true, true, true, true, true, true]) [(6, (.pointer (some ⟨b5, 0, none⟩)))] [cellCh b1 [v2, (.int .i64 r182)] 111, cellCh b10 [(.int .i64 t145), (.int .i64 t148)] 87, cellCh b5 [(.int .i64 e183.xLo), (.int .i64 e183.xHi)] 87, snapCh w0 F] (k179 (r182, e183.xLo, e183.xHi)) := by
            intro v180 r181 r182 e183 h184
            refine d_done (by kernel_rfl) ?_
            exact fun a w hE hm hφ => hQ (r182, e183.xLo, e183.xHi) a w hφ ((fun a w hE hm => ⟨hE.sub ⟨rfl, trivial⟩, (hm.pick [0, 2, 3] rfl)⟩) a w hE hm)
          have H159 : ∀ (v180 : Value) (r181 : Int) (r182 : Int) (e183 : GSpan) (h184 : ([(GSpan.mk (w64 (t148 + 1)) t148), (GSpan.mk (-1) t148), (GSpan.mk t145 (w64 (top_1 + 1)))])[(r181).toNat]? = some e183), Nx 68 (gB F [cellCh b1 [v2, (.int .i64 r_0_p)] 111] w0) (feet [cellCh b1 [v2, (.int .i64 r_0_p)] 111]) w0 (wpAnyH Tryd.prog .any (opsAt Tryd.f91 [1, 1, 1, 1, 0, 1, 0, 0]) Qd (Mem (gB F [cellCh b1 [v2, (.int .i64 r_0_p)] 111] w0) (feet [cellCh b1 [v2, (.int .i64 r_0_p)] 111]) w0 [cellCh b10 [(.int .i64 t145), (.int .i64 t148)] 87, snapCh w0 F]) 1 #[true, true, true, true, true, true, true, true, true, true, true, true, true, true, true, true, true, true, true, false]) [(6, (.pointer (some ⟨b5, 0, none⟩))), (66, (.agg #[(.int .i64 e183.xLo), (.int .i64 e183.xHi)]))] [cellCh b1 [v2, (.int .i64 r182)] 111, cellCh b10 [(.int .i64 t145), (.int .i64 t148)] 87, cellCh b5 [(.int .i64 0), (.int .i64 0)] 87, snapCh w0 F] (k179 (r182, e183.xLo, e183.xHi)) := by
            intro v180 r181 r182 e183 h184
            refine d_one (i := 19) rfl (by kernel_rfl) (o_stc (cs' := [(.int .i64 e183.xLo), (.int .i64 e183.xHi)]) 2 rfl rfl rfl ty87 rfl rfl rfl rfl ?_)
            refine d_and (fun w m => m.pick [1, 3] rfl) ?_
            refine pk [0, 1, 2, 3] rfl ?_
            refine re (E' := [(6, (.pointer (some ⟨b5, 0, none⟩)))]) ⟨rfl, trivial⟩ ?_
            exact H158 v180 r181 r182 e183 h184
          have H160 : ∀ (v180 : Value) (r181 : Int) (r182 : Int) (e183 : GSpan) (h184 : ([(GSpan.mk (w64 (t148 + 1)) t148), (GSpan.mk (-1) t148), (GSpan.mk t145 (w64 (top_1 + 1)))])[(r181).toNat]? = some e183), Nx 68 (gB F [cellCh b1 [v2, (.int .i64 r_0_p)] 111] w0) (feet [cellCh b1 [v2, (.int .i64 r_0_p)] 111]) w0 (wpAnyH Tryd.prog .any (opsAt Tryd.f91 [1, 1, 1, 1, 0, 1, 0, 0]) Qd (Mem (gB F [cellCh b1 [v2, (.int .i64 r_0_p)] 111] w0) (feet [cellCh b1 [v2, (.int .i64 r_0_p)] 111]) w0 [cellCh b10 [(.int .i64 t145), (.int .i64 t148)] 87, snapCh w0 F]) 2 #[true, true, true, true, true, true, true, true, true, true, true, true, true, true, true, true, true, true, false, false]) [(6, (.pointer (some ⟨b5, 0, none⟩))), (65, (pEl v180 r181 2 0))] [cellCh b1 [v2, (.int .i64 r182)] 111, ownCh elGSpan 87 v180 ([(GSpan.mk (w64 (t148 + 1)) t148), (GSpan.mk (-1) t148), (GSpan.mk t145 (w64 (top_1 + 1)))]), cellCh b10 [(.int .i64 t145), (.int .i64 t148)] 87, cellCh b5 [(.int .i64 0), (.int .i64 0)] 87, snapCh w0 F] (k179 (r182, e183.xLo, e183.xHi)) := by
            intro v180 r181 r182 e183 h184
            refine d_one (i := 18) rfl (by kernel_rfl) (o_lds m_op (enc := encGSpan) (u := (.agg #[(.int .i64 e183.xLo), (.int .i64 e183.xHi)])) 1 rfl reads_own flelGSpan rfl h184 rfl rfl ty87 rfl ?_)
            refine d_and (fun w m => m.pick [2, 4] rfl) ?_
            refine pk [0, 2, 3, 4] rfl ?_
            refine re (E' := [(6, (.pointer (some ⟨b5, 0, none⟩))), (66, (.agg #[(.int .i64 e183.xLo), (.int .i64 e183.xHi)]))]) ⟨rfl, rfl, trivial⟩ ?_
            exact H159 v180 r181 r182 e183 h184
          have H161 : ∀ (v180 : Value) (r181 : Int) (r182 : Int), Nx 68 (gB F [cellCh b1 [v2, (.int .i64 r_0_p)] 111] w0) (feet [cellCh b1 [v2, (.int .i64 r_0_p)] 111]) w0 (wpAnyH Tryd.prog .any (opsAt Tryd.f91 [1, 1, 1, 1, 0, 1, 0, 0]) Qd (Mem (gB F [cellCh b1 [v2, (.int .i64 r_0_p)] 111] w0) (feet [cellCh b1 [v2, (.int .i64 r_0_p)] 111]) w0 [cellCh b10 [(.int .i64 t145), (.int .i64 t148)] 87, snapCh w0 F]) 3 #[true, true, true, true, true, true, true, true, true, true, true, true, true, true, true, true, true, false, false, false]) [(6, (.pointer (some ⟨b5, 0, none⟩))), (62, v180), (64, (.int .i64 r181))] [cellCh b1 [v2, (.int .i64 r182)] 111, ownCh elGSpan 87 v180 ([(GSpan.mk (w64 (t148 + 1)) t148), (GSpan.mk (-1) t148), (GSpan.mk t145 (w64 (top_1 + 1)))]), cellCh b10 [(.int .i64 t145), (.int .i64 t148)] 87, cellCh b5 [(.int .i64 0), (.int .i64 0)] 87, snapCh w0 F] (idxW ([(GSpan.mk (w64 (t148 + 1)) t148), (GSpan.mk (-1) t148), (GSpan.mk t145 (w64 (top_1 + 1)))]) r181 (fun e183 => k179 (r182, e183.xLo, e183.xHi))) := by
            intro v180 r181 r182
            refine d_one (i := 17) rfl (by kernel_rfl) (o_idx m_op 1 rfl reads_own rfl rfl rfl el88 ?_); intro e183 h184
            refine d_and (fun w m => m.pick [2, 4] rfl) ?_
            refine pk [0, 1, 2, 3, 4] rfl ?_
            refine re (E' := [(6, (.pointer (some ⟨b5, 0, none⟩))), (65, (pEl v180 r181 2 0))]) ⟨rfl, rfl, trivial⟩ ?_
            exact H160 v180 r181 r182 e183 h184
          have H162 : ∀ (v180 : Value), Nx 68 (gB F [cellCh b1 [v2, (.int .i64 r_0_p)] 111] w0) (feet [cellCh b1 [v2, (.int .i64 r_0_p)] 111]) w0 (wpAnyH Tryd.prog .any (opsAt Tryd.f91 [1, 1, 1, 1, 0, 1, 0, 0]) Qd (Mem (gB F [cellCh b1 [v2, (.int .i64 r_0_p)] 111] w0) (feet [cellCh b1 [v2, (.int .i64 r_0_p)] 111]) w0 [cellCh b10 [(.int .i64 t145), (.int .i64 t148)] 87, snapCh w0 F]) 4 #[true, true, true, true, true, true, true, true, true, true, true, true, true, true, true, true, false, false, false, false]) [(6, (.pointer (some ⟨b5, 0, none⟩))), (63, (.pointer (some ⟨b1, 0, none⟩))), (62, v180)] [ownCh elGSpan 87 v180 ([(GSpan.mk (w64 (t148 + 1)) t148), (GSpan.mk (-1) t148), (GSpan.mk t145 (w64 (top_1 + 1)))]), cellCh b1 [v2, (.int .i64 r175)] 111, cellCh b10 [(.int .i64 t145), (.int .i64 t148)] 87, cellCh b5 [(.int .i64 0), (.int .i64 0)] 87, snapCh w0 F] (L_spec_l20Rd_pick r_0_b r175 3 (fun (r181, r182) => idxW ([(GSpan.mk (w64 (t148 + 1)) t148), (GSpan.mk (-1) t148), (GSpan.mk t145 (w64 (top_1 + 1)))]) r181 (fun e183 => k179 (r182, e183.xLo, e183.xHi)))) := by
            intro v180
            refine pk [1, 0, 2, 3, 4] rfl ?_
            refine d_one (i := 16) rfl (by kernel_rfl) (o_call (vs := [(.pointer (some ⟨b1, 0, none⟩)), (.int .i64 3)]) (M0 := [cellCh b1 [v2, (.int .i64 r175)] 111]) Tryd.call65 rfl rfl (by intro w m h; exact (w_spec_l20Rd_pick (F := allB [cellCh b1 [v2, (.int .i64 r175)] 111] w) (r_0_b := r_0_b) (r_0_p := r175) (n_1 := 3) allB_ok m.given (m.rdM 3 rfl (reads_snap hv2)) h).mono (fun _ _ k => ret_free (fun r u => (fr_cons free_cell fr_nil)) k)) ?_); rintro ⟨r181, r182⟩ _
            refine d_and (fun w m => m.pick [2, 4] rfl) ?_
            refine pk [0, 1, 2, 3, 4] rfl ?_
            refine re (E' := [(6, (.pointer (some ⟨b5, 0, none⟩))), (62, v180), (64, (.int .i64 r181))]) ⟨rfl, rfl, rfl, trivial⟩ ?_
            exact H161 v180 r181 r182
          have H163 : ∀ (r185 : Int) (r186 : Int), Nx 68 (gB F [cellCh b1 [v2, (.int .i64 r_0_p)] 111] w0) (feet [cellCh b1 [v2, (.int .i64 r_0_p)] 111]) w0 (wpAnyH Tryd.prog .any (opsAt Tryd.f91 [1, 1, 1, 1, 0, 1, 0, 0]) Qd (Mem (gB F [cellCh b1 [v2, (.int .i64 r_0_p)] 111] w0) (feet [cellCh b1 [v2, (.int .i64 r_0_p)] 111]) w0 [cellCh b10 [(.int .i64 t145), (.int .i64 t148)] 87, snapCh w0 F]) 4 #[true, true, true, true, true, true, true, true, true, true, true, true, true, true, false, true, true, false, false, false]) [(6, (.pointer (some ⟨b5, 0, none⟩))), (53, (.agg #[(.int .i64 (w64 (t148 + 1))), (.int .i64 t148)])), (56, (.agg #[(.int .i64 (-1)), (.int .i64 t148)])), (61, (.agg #[(.int .i64 t145), (.int .i64 (w64 (top_1 + 1)))])), (64, (.int .i64 r185))] [cellCh b1 [v2, (.int .i64 r186)] 111, cellCh b10 [(.int .i64 t145), (.int .i64 t148)] 87, cellCh b5 [(.int .i64 0), (.int .i64 0)] 87, snapCh w0 F] (idxW ([(GSpan.mk (w64 (t148 + 1)) t148), (GSpan.mk (-1) t148), (GSpan.mk t145 (w64 (top_1 + 1)))]) r185 (fun e183 => k179 (r186, e183.xLo, e183.xHi))) := by
            intro r185 r186
            refine d_one (i := 14) rfl (by kernel_rfl) (o_bsl (enc := encGSpan) (qs := [(0, (.agg #[(.int .i64 (w64 (t148 + 1))), (.int .i64 t148)])), (1, (.agg #[(.int .i64 (-1)), (.int .i64 t148)])), (2, (.agg #[(.int .i64 t145), (.int .i64 (w64 (top_1 + 1)))]))]) (cells := [(.int .i64 (w64 (t148 + 1))), (.int .i64 t148), (.int .i64 (-1)), (.int .i64 t148), (.int .i64 t145), (.int .i64 (w64 (top_1 + 1)))]) ([(GSpan.mk (w64 (t148 + 1)) t148), (GSpan.mk (-1) t148), (GSpan.mk t145 (w64 (top_1 + 1)))]) flelGSpan (by intro ρ h; simp only [List.map_toArray, List.map_cons, List.map_nil, h (.tmp 53) _ rfl, h (.tmp 56) _ rfl, h (.tmp 61) _ rfl]) rfl el88 zero87 rfl rfl rfl rfl rfl rfl ?_); intro v187
            refine d_and (fun w m => m.pick [2, 4] rfl) ?_
            refine pk [1, 0, 2, 3, 4] rfl ?_
            refine re (E' := [(6, (.pointer (some ⟨b5, 0, none⟩))), (62, v187), (64, (.int .i64 r185))]) ⟨rfl, rfl, rfl, trivial⟩ ?_
            exact H161 v187 r185 r186
          refine o_fad (dt 0 (fun w m => m.pick [1, 3] rfl)) rfl rfl fld87_1 rfl ?_
          refine o_ldc (dt 1 (fun w m => m.pick [1, 3] rfl)) (v := (.int .i64 t148)) 0 rfl rfl rfl ty3 rfl ?_
          refine o_addw (dt 2 (fun w m => m.pick [1, 3] rfl)) rfl rfl rfl ?_
          refine o_fad (dt 3 (fun w m => m.pick [1, 3] rfl)) rfl rfl fld87_1 rfl ?_
          refine o_ldc (dt 4 (fun w m => m.pick [1, 3] rfl)) (v := (.int .i64 t148)) 0 rfl rfl rfl ty3 rfl ?_
          refine o_bld (dt 5 (fun w m => m.pick [1, 3] rfl)) (qs := [(0, (.int .i64 (w64 (t148 + 1)))), (1, (.int .i64 t148))]) (cells := [(.int .i64 (w64 (t148 + 1))), (.int .i64 t148)]) (by intro ρ h; simp only [List.map_toArray, List.map_cons, List.map_nil, h (.tmp 50) _ rfl, h (.tmp 52) _ rfl]) rfl bld87 rfl ?_
          refine o_fad (dt 6 (fun w m => m.pick [1, 3] rfl)) rfl rfl fld87_1 rfl ?_
          refine o_ldc (dt 7 (fun w m => m.pick [1, 3] rfl)) (v := (.int .i64 t148)) 0 rfl rfl rfl ty3 rfl ?_
          refine o_bld (dt 8 (fun w m => m.pick [1, 3] rfl)) (qs := [(0, (.int .i64 (-1))), (1, (.int .i64 t148))]) (cells := [(.int .i64 (-1)), (.int .i64 t148)]) (by intro ρ h; simp only [List.map_toArray, List.map_cons, List.map_nil, h (.const (.int .i64 (-1))) _ rfl, h (.tmp 55) _ rfl]) rfl bld87 rfl ?_
          refine o_fad (dt 9 (fun w m => m.pick [1, 3] rfl)) rfl rfl fld87_0 rfl ?_
          refine o_ldc (dt 10 (fun w m => m.pick [1, 3] rfl)) (v := (.int .i64 t145)) 0 rfl rfl rfl ty3 rfl ?_
          refine o_mv (dt 11 (fun w m => m.pick [1, 3] rfl)) rfl rfl ?_
          refine o_addw (dt 12 (fun w m => m.pick [1, 3] rfl)) rfl rfl rfl ?_
          refine o_bld (dt 13 (fun w m => m.pick [1, 3] rfl)) (qs := [(0, (.int .i64 t145)), (1, (.int .i64 (w64 (top_1 + 1))))]) (cells := [(.int .i64 t145), (.int .i64 (w64 (top_1 + 1)))]) (by intro ρ h; simp only [List.map_toArray, List.map_cons, List.map_nil, h (.tmp 58) _ rfl, h (.tmp 60) _ rfl]) rfl bld87 rfl ?_
          refine o_mv (dt 15 (fun w m => m.pick [1, 3] rfl)) rfl rfl ?_
          refine d_two (i := 14) (j := 16) rfl rfl (by kernel_rfl) ?_ ?_
          · intro o ho; cases ho
            refine o_bsl (enc := encGSpan) (qs := [(0, (.agg #[(.int .i64 (w64 (t148 + 1))), (.int .i64 t148)])), (1, (.agg #[(.int .i64 (-1)), (.int .i64 t148)])), (2, (.agg #[(.int .i64 t145), (.int .i64 (w64 (top_1 + 1)))]))]) (cells := [(.int .i64 (w64 (t148 + 1))), (.int .i64 t148), (.int .i64 (-1)), (.int .i64 t148), (.int .i64 t145), (.int .i64 (w64 (top_1 + 1)))]) ([(GSpan.mk (w64 (t148 + 1)) t148), (GSpan.mk (-1) t148), (GSpan.mk t145 (w64 (top_1 + 1)))]) flelGSpan (by intro ρ h; simp only [List.map_toArray, List.map_cons, List.map_nil, h (.tmp 53) _ rfl, h (.tmp 56) _ rfl, h (.tmp 61) _ rfl]) rfl el88 zero87 rfl rfl rfl rfl rfl rfl ?_; intro v180
            refine d_and (fun w m => m.pick [2, 4] rfl) ?_
            refine pk [0, 1, 2, 3, 4] rfl ?_
            refine re (E' := [(6, (.pointer (some ⟨b5, 0, none⟩))), (63, (.pointer (some ⟨b1, 0, none⟩))), (62, v180)]) ⟨rfl, rfl, rfl, trivial⟩ ?_
            exact H162 v180
          · intro o ho; cases ho
            refine o_call (vs := [(.pointer (some ⟨b1, 0, none⟩)), (.int .i64 3)]) (M0 := [cellCh b1 [v2, (.int .i64 r175)] 111]) Tryd.call65 rfl rfl (by intro w m h; exact (w_spec_l20Rd_pick (F := allB [cellCh b1 [v2, (.int .i64 r175)] 111] w) (r_0_b := r_0_b) (r_0_p := r175) (n_1 := 3) allB_ok m.given (m.rdM 2 rfl (reads_snap hv2)) h).mono (fun _ _ k => ret_free (fun r u => (fr_cons free_cell fr_nil)) k)) ?_; rintro ⟨r185, r186⟩ _
            refine d_and (fun w m => m.pick [1, 3] rfl) ?_
            refine pk [0, 1, 2, 3] rfl ?_
            refine re (E' := [(6, (.pointer (some ⟨b5, 0, none⟩))), (53, (.agg #[(.int .i64 (w64 (t148 + 1))), (.int .i64 t148)])), (56, (.agg #[(.int .i64 (-1)), (.int .i64 t148)])), (61, (.agg #[(.int .i64 t145), (.int .i64 (w64 (top_1 + 1)))])), (64, (.int .i64 r185))]) ⟨rfl, rfl, rfl, rfl, rfl, trivial⟩ ?_
            exact H163 r185 r186
        · rintro ⟨t176, t177, t178⟩ a w ⟨hE, hm⟩ h
          refine nx_of hE hm h ?_
          clear hE hm h
          refine c_ret ?_
          refine l_ret ?_
          exact l_end1 Tryd.results91 ((GSpan.mk t177 t178), t176) () (rv_c 1 rfl rfl ty87 rfl) (fun w m => NewCh.ofB m [0] rfl)
      · refine c_skip ?_
        refine l_then ?_
        refine c_seq ?_
        refine c_region ?_
        refine o_ldc st (v := (.agg #[(.int .i64 t145), (.int .i64 t148)])) 1 rfl rfl rfl ty87 rfl ?_
        refine stw (o_stc (cs' := [(.int .i64 t145), (.int .i64 t148)]) 2 rfl rfl rfl ty87 rfl rfl rfl rfl ?_)
        refine c_nil ?_
        refine l_then ?_
        refine c_ret ?_
        exact l_end1 Tryd.results91 ((GSpan.mk t145 t148), r175) () (rv_c 2 rfl rfl ty87 rfl) (fun w m => NewCh.ofB m [0] rfl)

set_option maxRecDepth 100000 in
set_option maxHeartbeats 8000000 in
theorem w_spec_l20Test {w0 : World} {F : Nat → Prop} {b1 : Nat} {v2 : Value} {r_0_b : (List UInt8)} {r_0_p : Int} {n_1 : Int} {κ : (GTest × Int) → Prop} (hF : ∀ b, F b → b < w0.heap.size ∧ ¬ feet [cellCh b1 [v2, (.int .i64 r_0_p)] 111] b) (hg : Given [cellCh b1 [v2, (.int .i64 r_0_p)] 111] F w0) (hv2 : Sl elU8 F w0 v2 r_0_b) (h : L_spec_l20Test r_0_b r_0_p n_1 κ) :
    Calls Tryd.prog 68 #[(.pointer (some ⟨b1, 0, none⟩)), (.int .i64 n_1)] w0 (Ret [cellCh b1 [v2, (.int .i64 r_0_p)] 111] F w0 κ (fun (r : (GTest × Int)) (u : Unit) => (.agg #[(.int .i64 r.1.xField), (.int .i64 r.1.xLo), (.int .i64 r.1.xHi), (.bool r.1.xNot)])) (fun (r : (GTest × Int)) (u : Unit) => [cellCh b1 [v2, (.int .i64 r.2)] 111])) := by
  refine enterS (args := [(.pointer (some ⟨b1, 0, none⟩)), (.int .i64 n_1)]) [cellCh b1 [v2, (.int .i64 r_0_p)] 111] hF hg Tryd.func68 rfl Tryd.ntmps68 rfl h ?_
  clear h hF hg
  refine c_seq ?_
  refine c_region ?_
  refine stw (o_alloc rfl [(.int .i64 0), (.int .i64 0), (.int .i64 0), (.bool false)] zero25 ?_); intro b5
  refine c_nil ?_
  refine l_then ?_
  refine c_seq ?_
  refine c_region ?_
  refine o_mv st rfl rfl ?_
  refine pk [1, 0, 2] rfl ?_
  refine stw (o_call (vs := [(.pointer (some ⟨b1, 0, none⟩)), (.int .i64 4)]) (M0 := [cellCh b1 [v2, (.int .i64 r_0_p)] 111]) Tryd.call65 rfl rfl (by intro w m h; exact (w_spec_l20Rd_pick (F := allB [cellCh b1 [v2, (.int .i64 r_0_p)] 111] w) (r_0_b := r_0_b) (r_0_p := r_0_p) (n_1 := 4) allB_ok m.given (m.rdM 1 rfl (reads_snap hv2)) h).mono (fun _ _ k => ret_free (fun r u => (fr_cons free_cell fr_nil)) k)) ?_); rintro ⟨r7, r8⟩ _
  refine o_mv st rfl rfl ?_
  refine stw (o_call (vs := [(.pointer (some ⟨b1, 0, none⟩)), (.int .i64 4)]) (M0 := [cellCh b1 [v2, (.int .i64 r8)] 111]) Tryd.call65 rfl rfl (by intro w m h; exact (w_spec_l20Rd_pick (F := allB [cellCh b1 [v2, (.int .i64 r8)] 111] w) (r_0_b := r_0_b) (r_0_p := r8) (n_1 := 4) allB_ok m.given (m.rdM 1 rfl (reads_snap hv2)) h).mono (fun _ _ k => ret_free (fun r u => (fr_cons free_cell fr_nil)) k)) ?_); rintro ⟨r9, r10⟩ _
  refine o_eql st und3 rfl rfl rfl ?_
  refine o_bld st (qs := [(0, (.int .i64 r7)), (3, (.bool (decide (r9 = 0))))]) (cells := [(.int .i64 r7), (.int .i64 0), (.int .i64 0), (.bool (decide (r9 = 0)))]) (by intro ρ h; simp only [List.map_toArray, List.map_cons, List.map_nil, h (.tmp 9) _ rfl, h (.tmp 12) _ rfl]) rfl bld25 rfl ?_
  refine stw (o_alloc rfl [(.int .i64 0), (.int .i64 0), (.int .i64 0), (.bool false)] zero25 ?_); intro b11
  refine stw (o_stc (cs' := [(.int .i64 r7), (.int .i64 0), (.int .i64 0), (.bool (decide (r9 = 0)))]) 0 rfl rfl rfl ty25 rfl rfl rfl rfl ?_)
  refine c_nil ?_
  refine l_then ?_
  refine c_seq ?_
  refine c_region ?_
  refine o_fad st rfl rfl fld25_0 rfl ?_
  refine o_ldc st (v := (.int .i64 r7)) 0 rfl rfl rfl ty3 rfl ?_
  refine stw (o_callP (vs := [(.int .i64 r7)]) Tryd.call69 rfl rfl (by intro w m h; exact (w_spec_FieldTop (F := allB [] w) (n_0 := r7) allB_ok h).mono (fun _ _ k => ret_free (fun r u => fr_nil) k)) ?_); rintro r13 _
  refine o_as st rfl rfl ?_
  refine c_nil ?_
  refine l_then ?_
  refine c_seq ?_
  refine c_region ?_
  refine o_mv st rfl rfl ?_
  refine o_mv st rfl rfl ?_
  refine pk [1, 0, 2, 3] rfl ?_
  refine stw (o_call (vs := [(.pointer (some ⟨b1, 0, none⟩)), (.int .i64 r13), (.int .i64 0)]) (M0 := [cellCh b1 [v2, (.int .i64 r10)] 111]) Tryd.call91 rfl rfl (by intro w m h; exact (w_spec_l20Span (F := allB [cellCh b1 [v2, (.int .i64 r10)] 111] w) (r_0_b := r_0_b) (r_0_p := r10) (top_1 := r13) (n_2 := 0) allB_ok m.given (m.rdM 2 rfl (reads_snap hv2)) h).mono (fun _ _ k => ret_free (fun r u => (fr_cons free_cell fr_nil)) k)) ?_); rintro ⟨r14, r15⟩ _
  refine stw (o_alloc rfl [(.int .i64 0), (.int .i64 0)] zero87 ?_); intro b16
  refine stw (o_stc (cs' := [(.int .i64 r14.xLo), (.int .i64 r14.xHi)]) 0 rfl rfl rfl ty87 rfl rfl rfl rfl ?_)
  refine c_nil ?_
  refine l_then ?_
  refine c_join (σ := (Int × Int × Int)) (fun ((t152, t153, t154) : (Int × Int × Int)) (a : Act) (w : World) => Has 83 [(0, (.pointer (some ⟨b1, 0, none⟩))), (1, (.int .i64 n_1)), (4, (.pointer (some ⟨b5, 0, none⟩))), (5, (.pointer (some ⟨b11, 0, none⟩))), (6, (.int .i64 r13)), (7, (.pointer (some ⟨b16, 0, none⟩)))] a ∧ Mem (gB F [cellCh b1 [v2, (.int .i64 r_0_p)] 111] w0) (feet [cellCh b1 [v2, (.int .i64 r_0_p)] 111]) w0 [cellCh b1 [v2, (.int .i64 t152)] 111, cellCh b16 [(.int .i64 t153), (.int .i64 t154)] 87, cellCh b11 [(.int .i64 r7), (.int .i64 0), (.int .i64 0), (.bool (decide (r9 = 0)))] 25, cellCh b5 [(.int .i64 0), (.int .i64 0), (.int .i64 0), (.bool false)] 25, snapCh w0 F] w) ?_ ?_
  · intro k155
    refine c_join (σ := (Int × Bool)) (fun ((t80, t81) : (Int × Bool)) (a : Act) (w : World) => Has 83 [(0, (.pointer (some ⟨b1, 0, none⟩))), (1, (.int .i64 n_1)), (4, (.pointer (some ⟨b5, 0, none⟩))), (5, (.pointer (some ⟨b11, 0, none⟩))), (6, (.int .i64 r13)), (7, (.pointer (some ⟨b16, 0, none⟩))), (27, (.bool t81))] a ∧ Mem (gB F [cellCh b1 [v2, (.int .i64 r_0_p)] 111] w0) (feet [cellCh b1 [v2, (.int .i64 r_0_p)] 111]) w0 [cellCh b1 [v2, (.int .i64 t80)] 111, cellCh b16 [(.int .i64 r14.xLo), (.int .i64 r14.xHi)] 87, cellCh b11 [(.int .i64 r7), (.int .i64 0), (.int .i64 0), (.bool (decide (r9 = 0)))] 25, cellCh b5 [(.int .i64 0), (.int .i64 0), (.int .i64 0), (.bool false)] 25, snapCh w0 F] w) ?_ ?_
    · intro k82
      refine c_region ?_
      refine o_fad st rfl rfl fld25_0 rfl ?_
      refine o_ldc st (v := (.int .i64 r7)) 2 rfl rfl rfl ty3 rfl ?_
      refine o_lss st rfl rfl rfl ?_
      refine o_mv st rfl rfl ?_
      refine st_sp (dj := 23) rfl ?_ ?_
      · refine o_mv (st_g rfl rfl) rfl rfl ?_
        refine pk [1, 0, 2, 3, 4] rfl ?_
        refine st_gw rfl rfl (o_call (vs := [(.pointer (some ⟨b1, 0, none⟩)), (.int .i64 2)]) (M0 := [cellCh b1 [v2, (.int .i64 r15)] 111]) Tryd.call65 rfl rfl (by intro w m h; exact (w_spec_l20Rd_pick (F := allB [cellCh b1 [v2, (.int .i64 r15)] 111] w) (r_0_b := r_0_b) (r_0_p := r15) (n_1 := 2) allB_ok m.given (m.rdM 3 rfl (reads_snap hv2)) h).mono (fun _ _ k => ret_free (fun r u => (fr_cons free_cell fr_nil)) k)) ?_); rintro ⟨r18, r19⟩ _
        refine o_eql (st_g rfl rfl) und3 rfl rfl rfl ?_
        refine o_pickT st rfl rfl rfl ?_
        refine c_nil ?_
        exact l_join (r19, (decide (r18 = 0))) (fun a w hE hm => ⟨hE.sub ⟨rfl, rfl, rfl, rfl, rfl, rfl, rfl, trivial⟩, (hm.pick [0, 1, 2, 3, 4] rfl)⟩)
      · refine st_s rfl rfl rfl rfl ?_
        refine st_s rfl rfl rfl rfl ?_
        refine st_s rfl rfl rfl rfl ?_
        refine o_pickF st rfl rfl rfl ?_
        refine c_nil ?_
        exact l_join (r15, false) (fun a w hE hm => ⟨hE.sub ⟨rfl, rfl, rfl, rfl, rfl, rfl, rfl, trivial⟩, (hm.pick [1, 0, 2, 3, 4] rfl)⟩)
    · rintro ⟨t80, t81⟩ a w ⟨hE, hm⟩ h
      refine nx_of hE hm h ?_
      clear hE hm h
      refine c_cond rfl ?_ ?_
      · refine c_seq ?_
        refine c_region ?_
        refine o_mv st rfl rfl ?_
        refine stw (o_call (vs := [(.pointer (some ⟨b1, 0, none⟩)), (.int .i64 20)]) (M0 := [cellCh b1 [v2, (.int .i64 t80)] 111]) Tryd.call65 rfl rfl (by intro w m h; exact (w_spec_l20Rd_pick (F := allB [cellCh b1 [v2, (.int .i64 t80)] 111] w) (r_0_b := r_0_b) (r_0_p := t80) (n_1 := 20) allB_ok m.given (m.rdM 3 rfl (reads_snap hv2)) h).mono (fun _ _ k => ret_free (fun r u => (fr_cons free_cell fr_nil)) k)) ?_); rintro ⟨r83, r84⟩ _
        refine o_bld st (qs := [(0, (.int .i64 r83))]) (cells := [(.int .i64 r83), (.int .i64 0)]) (by intro ρ h; simp only [List.map_toArray, List.map_cons, List.map_nil, h (.tmp 29) _ rfl]) rfl bld87 rfl ?_
        refine stw (o_stc (cs' := [(.int .i64 r83), (.int .i64 0)]) 1 rfl rfl rfl ty87 rfl rfl rfl rfl ?_)
        refine c_nil ?_
        refine l_then ?_
        refine c_join1 (σ := (Int × Int)) (fun ((t85, t86) : (Int × Int)) (a : Act) (w : World) => Has 83 [(0, (.pointer (some ⟨b1, 0, none⟩))), (1, (.int .i64 n_1)), (4, (.pointer (some ⟨b5, 0, none⟩))), (5, (.pointer (some ⟨b11, 0, none⟩))), (6, (.int .i64 r13)), (7, (.pointer (some ⟨b16, 0, none⟩)))] a ∧ Mem (gB F [cellCh b1 [v2, (.int .i64 r_0_p)] 111] w0) (feet [cellCh b1 [v2, (.int .i64 r_0_p)] 111]) w0 [cellCh b1 [v2, (.int .i64 t85)] 111, cellCh b16 [(.int .i64 r83), (.int .i64 t86)] 87, cellCh b11 [(.int .i64 r7), (.int .i64 0), (.int .i64 0), (.bool (decide (r9 = 0)))] 25, cellCh b5 [(.int .i64 0), (.int .i64 0), (.int .i64 0), (.bool false)] 25, snapCh w0 F] w) ?_ ?_
        · intro k87
          refine c_drawQ mixed 7 rfl [cellCh b11 [(.int .i64 r7), (.int .i64 0), (.int .i64 0), (.bool (decide (r9 = 0)))] 25, cellCh b5 [(.int .i64 0), (.int .i64 0), (.int .i64 0), (.bool false)] 25, snapCh w0 F] ?_
          intro Qd hP hQ
          have H216 : ∀ (r88 : Int) (r89 : Int), Nx 83 (gB F [cellCh b1 [v2, (.int .i64 r_0_p)] 111] w0) (feet [cellCh b1 [v2, (.int .i64 r_0_p)] 111]) w0 (wpAnyH Tryd.prog .any (opsAt Tryd.f68 [1, 1, 1, 1, 0, 1, 0, 1]) Qd (Mem (gB F [cellCh b1 [v2, (.int .i64 r_0_p)] 111] w0) (feet [cellCh b1 [v2, (.int .i64 r_0_p)] 111]) w0 [cellCh b11 [(.int .i64 r7), (.int .i64 0), (.int .i64 0), (.bool (decide (r9 = 0)))] 25, cellCh b5 [(.int .i64 0), (.int .i64 0), (.int .i64 0), (.bool false)] 25, snapCh w0 F]) 0 #[true, true, true, true, true, true, true]) [(0, (.pointer (some ⟨b1, 0, none⟩))), (1, (.int .i64 n_1)), (4, (.pointer (some ⟨b5, 0, none⟩))), (5, (.pointer (some ⟨b11, 0, none⟩))), (6, (.int .i64 r13)), (7, (.pointer (some ⟨b16, 0, none⟩)))] [cellCh b1 [v2, (.int .i64 r89)] 111, cellCh b16 [(.int .i64 r83), (.int .i64 (w64 (r83 + r88)))] 87, cellCh b11 [(.int .i64 r7), (.int .i64 0), (.int .i64 0), (.bool (decide (r9 = 0)))] 25, cellCh b5 [(.int .i64 0), (.int .i64 0), (.int .i64 0), (.bool false)] 25, snapCh w0 F] (k87 (r89, (w64 (r83 + r88)))) := by
            intro r88 r89
            refine d_done (by kernel_rfl) ?_
            exact fun a w hE hm hφ => hQ (r89, (w64 (r83 + r88))) a w hφ ((fun a w hE hm => ⟨hE.sub ⟨rfl, rfl, rfl, rfl, rfl, rfl, trivial⟩, (hm.pick [0, 1, 2, 3, 4] rfl)⟩) a w hE hm)
          have H217 : ∀ (r88 : Int) (r89 : Int), Nx 83 (gB F [cellCh b1 [v2, (.int .i64 r_0_p)] 111] w0) (feet [cellCh b1 [v2, (.int .i64 r_0_p)] 111]) w0 (wpAnyH Tryd.prog .any (opsAt Tryd.f68 [1, 1, 1, 1, 0, 1, 0, 1]) Qd (Mem (gB F [cellCh b1 [v2, (.int .i64 r_0_p)] 111] w0) (feet [cellCh b1 [v2, (.int .i64 r_0_p)] 111]) w0 [cellCh b11 [(.int .i64 r7), (.int .i64 0), (.int .i64 0), (.bool (decide (r9 = 0)))] 25, cellCh b5 [(.int .i64 0), (.int .i64 0), (.int .i64 0), (.bool false)] 25, snapCh w0 F]) 3 #[true, true, true, true, false, false, false]) [(0, (.pointer (some ⟨b1, 0, none⟩))), (1, (.int .i64 n_1)), (4, (.pointer (some ⟨b5, 0, none⟩))), (5, (.pointer (some ⟨b11, 0, none⟩))), (6, (.int .i64 r13)), (7, (.pointer (some ⟨b16, 0, none⟩))), (32, (.int .i64 r83)), (34, (.int .i64 r88))] [cellCh b1 [v2, (.int .i64 r89)] 111, cellCh b16 [(.int .i64 r83), (.int .i64 0)] 87, cellCh b11 [(.int .i64 r7), (.int .i64 0), (.int .i64 0), (.bool (decide (r9 = 0)))] 25, cellCh b5 [(.int .i64 0), (.int .i64 0), (.int .i64 0), (.bool false)] 25, snapCh w0 F] (k87 (r89, (w64 (r83 + r88)))) := by
            intro r88 r89
            refine o_addw (dt 4 (fun w m => m.pick [2, 3, 4] rfl)) rfl rfl rfl ?_
            refine o_fad (dt 5 (fun w m => m.pick [2, 3, 4] rfl)) rfl rfl fld87_1 rfl ?_
            refine d_one (i := 6) rfl (by kernel_rfl) (o_stc (cs' := [(.int .i64 r83), (.int .i64 (w64 (r83 + r88)))]) 1 rfl rfl rfl ty3 rfl rfl rfl rfl ?_)
            refine d_and (fun w m => m.pick [2, 3, 4] rfl) ?_
            refine pk [0, 1, 2, 3, 4] rfl ?_
            refine re (E' := [(0, (.pointer (some ⟨b1, 0, none⟩))), (1, (.int .i64 n_1)), (4, (.pointer (some ⟨b5, 0, none⟩))), (5, (.pointer (some ⟨b11, 0, none⟩))), (6, (.int .i64 r13)), (7, (.pointer (some ⟨b16, 0, none⟩)))]) ⟨rfl, rfl, rfl, rfl, rfl, rfl, trivial⟩ ?_
            exact H216 r88 r89
          have H218 : ∀ (_ : Unit), Nx 83 (gB F [cellCh b1 [v2, (.int .i64 r_0_p)] 111] w0) (feet [cellCh b1 [v2, (.int .i64 r_0_p)] 111]) w0 (wpAnyH Tryd.prog .any (opsAt Tryd.f68 [1, 1, 1, 1, 0, 1, 0, 1]) Qd (Mem (gB F [cellCh b1 [v2, (.int .i64 r_0_p)] 111] w0) (feet [cellCh b1 [v2, (.int .i64 r_0_p)] 111]) w0 [cellCh b11 [(.int .i64 r7), (.int .i64 0), (.int .i64 0), (.bool (decide (r9 = 0)))] 25, cellCh b5 [(.int .i64 0), (.int .i64 0), (.int .i64 0), (.bool false)] 25, snapCh w0 F]) 4 #[true, true, true, false, false, false, false]) [(0, (.pointer (some ⟨b1, 0, none⟩))), (1, (.int .i64 n_1)), (4, (.pointer (some ⟨b5, 0, none⟩))), (5, (.pointer (some ⟨b11, 0, none⟩))), (6, (.int .i64 r13)), (7, (.pointer (some ⟨b16, 0, none⟩))), (33, (.pointer (some ⟨b1, 0, none⟩))), (32, (.int .i64 r83))] [cellCh b1 [v2, (.int .i64 r84)] 111, cellCh b16 [(.int .i64 r83), (.int .i64 0)] 87, cellCh b11 [(.int .i64 r7), (.int .i64 0), (.int .i64 0), (.bool (decide (r9 = 0)))] 25, cellCh b5 [(.int .i64 0), (.int .i64 0), (.int .i64 0), (.bool false)] 25, snapCh w0 F] (L_spec_l20Rd_pick r_0_b r84 8 (fun (r88, r89) => k87 (r89, (w64 (r83 + r88))))) := by
            intro _
            refine d_one (i := 3) rfl (by kernel_rfl) (o_call (vs := [(.pointer (some ⟨b1, 0, none⟩)), (.int .i64 8)]) (M0 := [cellCh b1 [v2, (.int .i64 r84)] 111]) Tryd.call65 rfl rfl (by intro w m h; exact (w_spec_l20Rd_pick (F := allB [cellCh b1 [v2, (.int .i64 r84)] 111] w) (r_0_b := r_0_b) (r_0_p := r84) (n_1 := 8) allB_ok m.given (m.rdM 3 rfl (reads_snap hv2)) h).mono (fun _ _ k => ret_free (fun r u => (fr_cons free_cell fr_nil)) k)) ?_); rintro ⟨r88, r89⟩ _
            refine d_and (fun w m => m.pick [2, 3, 4] rfl) ?_
            refine pk [0, 1, 2, 3, 4] rfl ?_
            refine re (E' := [(0, (.pointer (some ⟨b1, 0, none⟩))), (1, (.int .i64 n_1)), (4, (.pointer (some ⟨b5, 0, none⟩))), (5, (.pointer (some ⟨b11, 0, none⟩))), (6, (.int .i64 r13)), (7, (.pointer (some ⟨b16, 0, none⟩))), (32, (.int .i64 r83)), (34, (.int .i64 r88))]) ⟨rfl, rfl, rfl, rfl, rfl, rfl, rfl, rfl, trivial⟩ ?_
            exact H217 r88 r89
          have H219 : ∀ (r90 : Int) (r91 : Int), Nx 83 (gB F [cellCh b1 [v2, (.int .i64 r_0_p)] 111] w0) (feet [cellCh b1 [v2, (.int .i64 r_0_p)] 111]) w0 (wpAnyH Tryd.prog .any (opsAt Tryd.f68 [1, 1, 1, 1, 0, 1, 0, 1]) Qd (Mem (gB F [cellCh b1 [v2, (.int .i64 r_0_p)] 111] w0) (feet [cellCh b1 [v2, (.int .i64 r_0_p)] 111]) w0 [cellCh b11 [(.int .i64 r7), (.int .i64 0), (.int .i64 0), (.bool (decide (r9 = 0)))] 25, cellCh b5 [(.int .i64 0), (.int .i64 0), (.int .i64 0), (.bool false)] 25, snapCh w0 F]) 4 #[true, false, true, true, false, false, false]) [(0, (.pointer (some ⟨b1, 0, none⟩))), (1, (.int .i64 n_1)), (4, (.pointer (some ⟨b5, 0, none⟩))), (5, (.pointer (some ⟨b11, 0, none⟩))), (6, (.int .i64 r13)), (7, (.pointer (some ⟨b16, 0, none⟩))), (31, (.pointer (some ⟨b16, 0, none⟩))), (34, (.int .i64 r90))] [cellCh b1 [v2, (.int .i64 r91)] 111, cellCh b16 [(.int .i64 r83), (.int .i64 0)] 87, cellCh b11 [(.int .i64 r7), (.int .i64 0), (.int .i64 0), (.bool (decide (r9 = 0)))] 25, cellCh b5 [(.int .i64 0), (.int .i64 0), (.int .i64 0), (.bool false)] 25, snapCh w0 F] (k87 (r91, (w64 (r83 + r90)))) := by
            intro r90 r91
            refine d_one (i := 1) rfl (by kernel_rfl) (o_ldc m_op (v := (.int .i64 r83)) 1 rfl rfl rfl ty3 rfl ?_)
            refine d_and (fun w m => m.pick [2, 3, 4] rfl) ?_
            refine pk [0, 1, 2, 3, 4] rfl ?_
            refine re (E' := [(0, (.pointer (some ⟨b1, 0, none⟩))), (1, (.int .i64 n_1)), (4, (.pointer (some ⟨b5, 0, none⟩))), (5, (.pointer (some ⟨b11, 0, none⟩))), (6, (.int .i64 r13)), (7, (.pointer (some ⟨b16, 0, none⟩))), (32, (.int .i64 r83)), (34, (.int .i64 r90))]) ⟨rfl, rfl, rfl, rfl, rfl, rfl, rfl, rfl, trivial⟩ ?_
            exact H217 r90 r91
          refine o_fad (dt 0 (fun w m => m.pick [2, 3, 4] rfl)) rfl rfl fld87_0 rfl ?_
          refine o_mv (dt 2 (fun w m => m.pick [2, 3, 4] rfl)) rfl rfl ?_
          refine d_two (i := 1) (j := 3) rfl rfl (by kernel_rfl) ?_ ?_
          · intro o ho; cases ho
            refine o_ldc m_op (v := (.int .i64 r83)) 1 rfl rfl rfl ty3 rfl ?_
            refine d_and (fun w m => m.pick [2, 3, 4] rfl) ?_
            refine pk [0, 1, 2, 3, 4] rfl ?_
            refine re (E' := [(0, (.pointer (some ⟨b1, 0, none⟩))), (1, (.int .i64 n_1)), (4, (.pointer (some ⟨b5, 0, none⟩))), (5, (.pointer (some ⟨b11, 0, none⟩))), (6, (.int .i64 r13)), (7, (.pointer (some ⟨b16, 0, none⟩))), (33, (.pointer (some ⟨b1, 0, none⟩))), (32, (.int .i64 r83))]) ⟨rfl, rfl, rfl, rfl, rfl, rfl, rfl, rfl, trivial⟩ ?_
            exact H218 ()
          · intro o ho; cases ho
            refine o_call (vs := [(.pointer (some ⟨b1, 0, none⟩)), (.int .i64 8)]) (M0 := [cellCh b1 [v2, (.int .i64 r84)] 111]) Tryd.call65 rfl rfl (by intro w m h; exact (w_spec_l20Rd_pick (F := allB [cellCh b1 [v2, (.int .i64 r84)] 111] w) (r_0_b := r_0_b) (r_0_p := r84) (n_1 := 8) allB_ok m.given (m.rdM 3 rfl (reads_snap hv2)) h).mono (fun _ _ k => ret_free (fun r u => (fr_cons free_cell fr_nil)) k)) ?_; rintro ⟨r90, r91⟩ _
            refine d_and (fun w m => m.pick [2, 3, 4] rfl) ?_
            refine pk [0, 1, 2, 3, 4] rfl ?_
            refine re (E' := [(0, (.pointer (some ⟨b1, 0, none⟩))), (1, (.int .i64 n_1)), (4, (.pointer (some ⟨b5, 0, none⟩))), (5, (.pointer (some ⟨b11, 0, none⟩))), (6, (.int .i64 r13)), (7, (.pointer (some ⟨b16, 0, none⟩))), (31, (.pointer (some ⟨b16, 0, none⟩))), (34, (.int .i64 r90))]) ⟨rfl, rfl, rfl, rfl, rfl, rfl, rfl, rfl, trivial⟩ ?_
            exact H219 r90 r91
        · rintro ⟨t85, t86⟩ a w ⟨hE, hm⟩ h
          refine nx_of hE hm h ?_
          clear hE hm h
          exact l_join (t85, r83, t86) (fun a w hE hm => ⟨hE.sub ⟨rfl, rfl, rfl, rfl, rfl, rfl, trivial⟩, (hm.pick [0, 1, 2, 3, 4] rfl)⟩)
      · refine c_skip ?_
        exact l_join (t80, r14.xLo, r14.xHi) (fun a w hE hm => ⟨hE.sub ⟨rfl, rfl, rfl, rfl, rfl, rfl, trivial⟩, (hm.pick [0, 1, 2, 3, 4] rfl)⟩)
  · rintro ⟨t152, t153, t154⟩ a w ⟨hE, hm⟩ h
    refine nx_of hE hm h ?_
    clear hE hm h
    refine c_join (σ := (Int × Int × Int)) (fun ((t241, t242, t243) : (Int × Int × Int)) (a : Act) (w : World) => Has 83 [(0, (.pointer (some ⟨b1, 0, none⟩))), (1, (.int .i64 n_1)), (4, (.pointer (some ⟨b5, 0, none⟩))), (5, (.pointer (some ⟨b11, 0, none⟩))), (6, (.int .i64 r13)), (7, (.pointer (some ⟨b16, 0, none⟩)))] a ∧ Mem (gB F [cellCh b1 [v2, (.int .i64 r_0_p)] 111] w0) (feet [cellCh b1 [v2, (.int .i64 r_0_p)] 111]) w0 [cellCh b1 [v2, (.int .i64 t241)] 111, cellCh b16 [(.int .i64 t242), (.int .i64 t243)] 87, cellCh b11 [(.int .i64 r7), (.int .i64 0), (.int .i64 0), (.bool (decide (r9 = 0)))] 25, cellCh b5 [(.int .i64 0), (.int .i64 0), (.int .i64 0), (.bool false)] 25, snapCh w0 F] w) ?_ ?_
    · intro k244
      refine c_seq ?_
      refine c_region ?_
      refine o_mv st rfl rfl ?_
      refine stw (o_call (vs := [(.pointer (some ⟨b1, 0, none⟩)), (.int .i64 8)]) (M0 := [cellCh b1 [v2, (.int .i64 t152)] 111]) Tryd.call65 rfl rfl (by intro w m h; exact (w_spec_l20Rd_pick (F := allB [cellCh b1 [v2, (.int .i64 t152)] 111] w) (r_0_b := r_0_b) (r_0_p := t152) (n_1 := 8) allB_ok m.given (m.rdM 3 rfl (reads_snap hv2)) h).mono (fun _ _ k => ret_free (fun r u => (fr_cons free_cell fr_nil)) k)) ?_); rintro ⟨r156, r157⟩ _
      refine o_eql st und3 rfl rfl rfl ?_
      refine c_nil ?_
      refine l_then ?_
      refine c_cond rfl ?_ ?_
      · refine c_join1 (σ := (Int × Int × Int)) (fun ((t158, t159, t160) : (Int × Int × Int)) (a : Act) (w : World) => Has 83 [(0, (.pointer (some ⟨b1, 0, none⟩))), (1, (.int .i64 n_1)), (4, (.pointer (some ⟨b5, 0, none⟩))), (5, (.pointer (some ⟨b11, 0, none⟩))), (6, (.int .i64 r13)), (7, (.pointer (some ⟨b16, 0, none⟩)))] a ∧ Mem (gB F [cellCh b1 [v2, (.int .i64 r_0_p)] 111] w0) (feet [cellCh b1 [v2, (.int .i64 r_0_p)] 111]) w0 [cellCh b1 [v2, (.int .i64 t158)] 111, cellCh b16 [(.int .i64 t159), (.int .i64 t160)] 87, cellCh b11 [(.int .i64 r7), (.int .i64 0), (.int .i64 0), (.bool (decide (r9 = 0)))] 25, cellCh b5 [(.int .i64 0), (.int .i64 0), (.int .i64 0), (.bool false)] 25, snapCh w0 F] w) ?_ ?_
        · intro k161
          refine c_drawQ mixed 15 rfl [cellCh b11 [(.int .i64 r7), (.int .i64 0), (.int .i64 0), (.bool (decide (r9 = 0)))] 25, cellCh b5 [(.int .i64 0), (.int .i64 0), (.int .i64 0), (.bool false)] 25, snapCh w0 F] ?_
          intro Qd hP hQ
          have H239 : ∀ (v162 : Value) (r163 : Int) (r164 : Int) (e165 : GSpan) (h166 : ([(GSpan.mk 0 r13), (GSpan.mk 0 t154), (GSpan.mk t153 r13)])[(r163).toNat]? = some e165), Nx 83 (gB F [cellCh b1 [v2, (.int .i64 r_0_p)] 111] w0) (feet [cellCh b1 [v2, (.int .i64 r_0_p)] 111]) w0 (wpAnyH Tryd.prog .any (opsAt Tryd.f68 [1, 1, 1, 1, 1, 0, 1, 0]) Qd (Mem (gB F [cellCh b1 [v2, (.int .i64 r_0_p)] 111] w0) (feet [cellCh b1 [v2, (.int .i64 r_0_p)] 111]) w0 [cellCh b11 [(.int .i64 r7), (.int .i64 0), (.int .i64 0), (.bool (decide (r9 = 0)))] 25, cellCh b5 [(.int .i64 0), (.int .i64 0), (.int .i64 0), (.bool false)] 25, snapCh w0 F]) 0 #[true, true, true, true, true, true, true, true, true, true, true, true, true, true, true]) [(0, (.pointer (some ⟨b1, 0, none⟩))), (1, (.int .i64 n_1)), (4, (.pointer (some ⟨b5, 0, none⟩))), (5, (.pointer (some ⟨b11, 0, none⟩))), (6, (.int .i64 r13)), (7, (.pointer (some ⟨b16, 0, none⟩)))] [cellCh b1 [v2, (.int .i64 r164)] 111, cellCh b16 [(.int .i64 e165.xLo), (.int .i64 e165.xHi)] 87, cellCh b11 [(.int .i64 r7), (.int .i64 0), (.int .i64 0), (.bool (decide (r9 = 0)))] 25, cellCh b5 [(.int .i64 0), (.int .i64 0), (.int .i64 0), (.bool false)] 25, snapCh w0 F] (k161 (r164, e165.xLo, e165.xHi)) := by
            intro v162 r163 r164 e165 h166
            refine d_done (by kernel_rfl) ?_
            exact fun a w hE hm hφ => hQ (r164, e165.xLo, e165.xHi) a w hφ ((fun a w hE hm => ⟨hE.sub ⟨rfl, rfl, rfl, rfl, rfl, rfl, trivial⟩, (hm.pick [0, 1, 2, 3, 4] rfl)⟩) a w hE hm)
          have H240 : ∀ (v162 : Value) (r163 : Int) (r164 : Int) (e165 : GSpan) (h166 : ([(GSpan.mk 0 r13), (GSpan.mk 0 t154), (GSpan.mk t153 r13)])[(r163).toNat]? = some e165), Nx 83 (gB F [cellCh b1 [v2, (.int .i64 r_0_p)] 111] w0) (feet [cellCh b1 [v2, (.int .i64 r_0_p)] 111]) w0 (wpAnyH Tryd.prog .any (opsAt Tryd.f68 [1, 1, 1, 1, 1, 0, 1, 0]) Qd (Mem (gB F [cellCh b1 [v2, (.int .i64 r_0_p)] 111] w0) (feet [cellCh b1 [v2, (.int .i64 r_0_p)] 111]) w0 [cellCh b11 [(.int .i64 r7), (.int .i64 0), (.int .i64 0), (.bool (decide (r9 = 0)))] 25, cellCh b5 [(.int .i64 0), (.int .i64 0), (.int .i64 0), (.bool false)] 25, snapCh w0 F]) 1 #[true, true, true, true, true, true, true, true, true, true, true, true, true, true, false]) [(0, (.pointer (some ⟨b1, 0, none⟩))), (1, (.int .i64 n_1)), (4, (.pointer (some ⟨b5, 0, none⟩))), (5, (.pointer (some ⟨b11, 0, none⟩))), (6, (.int .i64 r13)), (7, (.pointer (some ⟨b16, 0, none⟩))), (53, (.agg #[(.int .i64 e165.xLo), (.int .i64 e165.xHi)]))] [cellCh b1 [v2, (.int .i64 r164)] 111, cellCh b16 [(.int .i64 t153), (.int .i64 t154)] 87, cellCh b11 [(.int .i64 r7), (.int .i64 0), (.int .i64 0), (.bool (decide (r9 = 0)))] 25, cellCh b5 [(.int .i64 0), (.int .i64 0), (.int .i64 0), (.bool false)] 25, snapCh w0 F] (k161 (r164, e165.xLo, e165.xHi)) := by
            intro v162 r163 r164 e165 h166
            refine d_one (i := 14) rfl (by kernel_rfl) (o_stc (cs' := [(.int .i64 e165.xLo), (.int .i64 e165.xHi)]) 1 rfl rfl rfl ty87 rfl rfl rfl rfl ?_)
            refine d_and (fun w m => m.pick [2, 3, 4] rfl) ?_
            refine pk [0, 1, 2, 3, 4] rfl ?_
            refine re (E' := [(0, (.pointer (some ⟨b1, 0, none⟩))), (1, (.int .i64 n_1)), (4, (.pointer (some ⟨b5, 0, none⟩))), (5, (.pointer (some ⟨b11, 0, none⟩))), (6, (.int .i64 r13)), (7, (.pointer (some ⟨b16, 0, none⟩)))]) ⟨rfl, rfl, rfl, rfl, rfl, rfl, trivial⟩ ?_
            exact H239 v162 r163 r164 e165 h166
          have H241 : ∀ (v162 : Value) (r163 : Int) (r164 : Int) (e165 : GSpan) (h166 : ([(GSpan.mk 0 r13), (GSpan.mk 0 t154), (GSpan.mk t153 r13)])[(r163).toNat]? = some e165), Nx 83 (gB F [cellCh b1 [v2, (.int .i64 r_0_p)] 111] w0) (feet [cellCh b1 [v2, (.int .i64 r_0_p)] 111]) w0 (wpAnyH Tryd.prog .any (opsAt Tryd.f68 [1, 1, 1, 1, 1, 0, 1, 0]) Qd (Mem (gB F [cellCh b1 [v2, (.int .i64 r_0_p)] 111] w0) (feet [cellCh b1 [v2, (.int .i64 r_0_p)] 111]) w0 [cellCh b11 [(.int .i64 r7), (.int .i64 0), (.int .i64 0), (.bool (decide (r9 = 0)))] 25, cellCh b5 [(.int .i64 0), (.int .i64 0), (.int .i64 0), (.bool false)] 25, snapCh w0 F]) 2 #[true, true, true, true, true, true, true, true, true, true, true, true, true, false, false]) [(0, (.pointer (some ⟨b1, 0, none⟩))), (1, (.int .i64 n_1)), (4, (.pointer (some ⟨b5, 0, none⟩))), (5, (.pointer (some ⟨b11, 0, none⟩))), (6, (.int .i64 r13)), (7, (.pointer (some ⟨b16, 0, none⟩))), (52, (pEl v162 r163 2 0))] [cellCh b1 [v2, (.int .i64 r164)] 111, ownCh elGSpan 87 v162 ([(GSpan.mk 0 r13), (GSpan.mk 0 t154), (GSpan.mk t153 r13)]), cellCh b16 [(.int .i64 t153), (.int .i64 t154)] 87, cellCh b11 [(.int .i64 r7), (.int .i64 0), (.int .i64 0), (.bool (decide (r9 = 0)))] 25, cellCh b5 [(.int .i64 0), (.int .i64 0), (.int .i64 0), (.bool false)] 25, snapCh w0 F] (k161 (r164, e165.xLo, e165.xHi)) := by
            intro v162 r163 r164 e165 h166
            refine d_one (i := 13) rfl (by kernel_rfl) (o_lds m_op (enc := encGSpan) (u := (.agg #[(.int .i64 e165.xLo), (.int .i64 e165.xHi)])) 1 rfl reads_own flelGSpan rfl h166 rfl rfl ty87 rfl ?_)
            refine d_and (fun w m => m.pick [3, 4, 5] rfl) ?_
            refine pk [0, 2, 3, 4, 5] rfl ?_
            refine re (E' := [(0, (.pointer (some ⟨b1, 0, none⟩))), (1, (.int .i64 n_1)), (4, (.pointer (some ⟨b5, 0, none⟩))), (5, (.pointer (some ⟨b11, 0, none⟩))), (6, (.int .i64 r13)), (7, (.pointer (some ⟨b16, 0, none⟩))), (53, (.agg #[(.int .i64 e165.xLo), (.int .i64 e165.xHi)]))]) ⟨rfl, rfl, rfl, rfl, rfl, rfl, rfl, trivial⟩ ?_
            exact H240 v162 r163 r164 e165 h166
          have H242 : ∀ (v162 : Value) (r163 : Int) (r164 : Int), Nx 83 (gB F [cellCh b1 [v2, (.int .i64 r_0_p)] 111] w0) (feet [cellCh b1 [v2, (.int .i64 r_0_p)] 111]) w0 (wpAnyH Tryd.prog .any (opsAt Tryd.f68 [1, 1, 1, 1, 1, 0, 1, 0]) Qd (Mem (gB F [cellCh b1 [v2, (.int .i64 r_0_p)] 111] w0) (feet [cellCh b1 [v2, (.int .i64 r_0_p)] 111]) w0 [cellCh b11 [(.int .i64 r7), (.int .i64 0), (.int .i64 0), (.bool (decide (r9 = 0)))] 25, cellCh b5 [(.int .i64 0), (.int .i64 0), (.int .i64 0), (.bool false)] 25, snapCh w0 F]) 3 #[true, true, true, true, true, true, true, true, true, true, true, true, false, false, false]) [(0, (.pointer (some ⟨b1, 0, none⟩))), (1, (.int .i64 n_1)), (4, (.pointer (some ⟨b5, 0, none⟩))), (5, (.pointer (some ⟨b11, 0, none⟩))), (6, (.int .i64 r13)), (7, (.pointer (some ⟨b16, 0, none⟩))), (49, v162), (51, (.int .i64 r163))] [cellCh b1 [v2, (.int .i64 r164)] 111, ownCh elGSpan 87 v162 ([(GSpan.mk 0 r13), (GSpan.mk 0 t154), (GSpan.mk t153 r13)]), cellCh b16 [(.int .i64 t153), (.int .i64 t154)] 87, cellCh b11 [(.int .i64 r7), (.int .i64 0), (.int .i64 0), (.bool (decide (r9 = 0)))] 25, cellCh b5 [(.int .i64 0), (.int .i64 0), (.int .i64 0), (.bool false)] 25, snapCh w0 F] (idxW ([(GSpan.mk 0 r13), (GSpan.mk 0 t154), (GSpan.mk t153 r13)]) r163 (fun e165 => k161 (r164, e165.xLo, e165.xHi))) := by
            intro v162 r163 r164
            refine d_one (i := 12) rfl (by kernel_rfl) (o_idx m_op 1 rfl reads_own rfl rfl rfl el88 ?_); intro e165 h166
            refine d_and (fun w m => m.pick [3, 4, 5] rfl) ?_
            refine pk [0, 1, 2, 3, 4, 5] rfl ?_
            refine re (E' := [(0, (.pointer (some ⟨b1, 0, none⟩))), (1, (.int .i64 n_1)), (4, (.pointer (some ⟨b5, 0, none⟩))), (5, (.pointer (some ⟨b11, 0, none⟩))), (6, (.int .i64 r13)), (7, (.pointer (some ⟨b16, 0, none⟩))), (52, (pEl v162 r163 2 0))]) ⟨rfl, rfl, rfl, rfl, rfl, rfl, rfl, trivial⟩ ?_
            exact H241 v162 r163 r164 e165 h166
          have H243 : ∀ (v162 : Value), Nx 83 (gB F [cellCh b1 [v2, (.int .i64 r_0_p)] 111] w0) (feet [cellCh b1 [v2, (.int .i64 r_0_p)] 111]) w0 (wpAnyH Tryd.prog .any (opsAt Tryd.f68 [1, 1, 1, 1, 1, 0, 1, 0]) Qd (Mem (gB F [cellCh b1 [v2, (.int .i64 r_0_p)] 111] w0) (feet [cellCh b1 [v2, (.int .i64 r_0_p)] 111]) w0 [cellCh b11 [(.int .i64 r7), (.int .i64 0), (.int .i64 0), (.bool (decide (r9 = 0)))] 25, cellCh b5 [(.int .i64 0), (.int .i64 0), (.int .i64 0), (.bool false)] 25, snapCh w0 F]) 4 #[true, true, true, true, true, true, true, true, true, true, true, false, false, false, false]) [(0, (.pointer (some ⟨b1, 0, none⟩))), (1, (.int .i64 n_1)), (4, (.pointer (some ⟨b5, 0, none⟩))), (5, (.pointer (some ⟨b11, 0, none⟩))), (6, (.int .i64 r13)), (7, (.pointer (some ⟨b16, 0, none⟩))), (50, (.pointer (some ⟨b1, 0, none⟩))), (49, v162)] [ownCh elGSpan 87 v162 ([(GSpan.mk 0 r13), (GSpan.mk 0 t154), (GSpan.mk t153 r13)]), cellCh b1 [v2, (.int .i64 r157)] 111, cellCh b16 [(.int .i64 t153), (.int .i64 t154)] 87, cellCh b11 [(.int .i64 r7), (.int .i64 0), (.int .i64 0), (.bool (decide (r9 = 0)))] 25, cellCh b5 [(.int .i64 0), (.int .i64 0), (.int .i64 0), (.bool false)] 25, snapCh w0 F] (L_spec_l20Rd_pick r_0_b r157 3 (fun (r163, r164) => idxW ([(GSpan.mk 0 r13), (GSpan.mk 0 t154), (GSpan.mk t153 r13)]) r163 (fun e165 => k161 (r164, e165.xLo, e165.xHi)))) := by
            intro v162
            refine pk [1, 0, 2, 3, 4, 5] rfl ?_
            refine d_one (i := 11) rfl (by kernel_rfl) (o_call (vs := [(.pointer (some ⟨b1, 0, none⟩)), (.int .i64 3)]) (M0 := [cellCh b1 [v2, (.int .i64 r157)] 111]) Tryd.call65 rfl rfl (by intro w m h; exact (w_spec_l20Rd_pick (F := allB [cellCh b1 [v2, (.int .i64 r157)] 111] w) (r_0_b := r_0_b) (r_0_p := r157) (n_1 := 3) allB_ok m.given (m.rdM 4 rfl (reads_snap hv2)) h).mono (fun _ _ k => ret_free (fun r u => (fr_cons free_cell fr_nil)) k)) ?_); rintro ⟨r163, r164⟩ _
            refine d_and (fun w m => m.pick [3, 4, 5] rfl) ?_
            refine pk [0, 1, 2, 3, 4, 5] rfl ?_
            refine re (E' := [(0, (.pointer (some ⟨b1, 0, none⟩))), (1, (.int .i64 n_1)), (4, (.pointer (some ⟨b5, 0, none⟩))), (5, (.pointer (some ⟨b11, 0, none⟩))), (6, (.int .i64 r13)), (7, (.pointer (some ⟨b16, 0, none⟩))), (49, v162), (51, (.int .i64 r163))]) ⟨rfl, rfl, rfl, rfl, rfl, rfl, rfl, rfl, trivial⟩ ?_
            exact H242 v162 r163 r164
          have H244 : ∀ (r167 : Int) (r168 : Int), Nx 83 (gB F [cellCh b1 [v2, (.int .i64 r_0_p)] 111] w0) (feet [cellCh b1 [v2, (.int .i64 r_0_p)] 111]) w0 (wpAnyH Tryd.prog .any (opsAt Tryd.f68 [1, 1, 1, 1, 1, 0, 1, 0]) Qd (Mem (gB F [cellCh b1 [v2, (.int .i64 r_0_p)] 111] w0) (feet [cellCh b1 [v2, (.int .i64 r_0_p)] 111]) w0 [cellCh b11 [(.int .i64 r7), (.int .i64 0), (.int .i64 0), (.bool (decide (r9 = 0)))] 25, cellCh b5 [(.int .i64 0), (.int .i64 0), (.int .i64 0), (.bool false)] 25, snapCh w0 F]) 4 #[true, true, true, true, true, true, true, true, true, false, true, true, false, false, false]) [(0, (.pointer (some ⟨b1, 0, none⟩))), (1, (.int .i64 n_1)), (4, (.pointer (some ⟨b5, 0, none⟩))), (5, (.pointer (some ⟨b11, 0, none⟩))), (6, (.int .i64 r13)), (7, (.pointer (some ⟨b16, 0, none⟩))), (41, (.agg #[(.int .i64 0), (.int .i64 r13)])), (44, (.agg #[(.int .i64 0), (.int .i64 t154)])), (48, (.agg #[(.int .i64 t153), (.int .i64 r13)])), (51, (.int .i64 r167))] [cellCh b1 [v2, (.int .i64 r168)] 111, cellCh b16 [(.int .i64 t153), (.int .i64 t154)] 87, cellCh b11 [(.int .i64 r7), (.int .i64 0), (.int .i64 0), (.bool (decide (r9 = 0)))] 25, cellCh b5 [(.int .i64 0), (.int .i64 0), (.int .i64 0), (.bool false)] 25, snapCh w0 F] (idxW ([(GSpan.mk 0 r13), (GSpan.mk 0 t154), (GSpan.mk t153 r13)]) r167 (fun e165 => k161 (r168, e165.xLo, e165.xHi))) := by
            intro r167 r168
            refine d_one (i := 9) rfl (by kernel_rfl) (o_bsl (enc := encGSpan) (qs := [(0, (.agg #[(.int .i64 0), (.int .i64 r13)])), (1, (.agg #[(.int .i64 0), (.int .i64 t154)])), (2, (.agg #[(.int .i64 t153), (.int .i64 r13)]))]) (cells := [(.int .i64 0), (.int .i64 r13), (.int .i64 0), (.int .i64 t154), (.int .i64 t153), (.int .i64 r13)]) ([(GSpan.mk 0 r13), (GSpan.mk 0 t154), (GSpan.mk t153 r13)]) flelGSpan (by intro ρ h; simp only [List.map_toArray, List.map_cons, List.map_nil, h (.tmp 41) _ rfl, h (.tmp 44) _ rfl, h (.tmp 48) _ rfl]) rfl el88 zero87 rfl rfl rfl rfl rfl rfl ?_); intro v169
            refine d_and (fun w m => m.pick [3, 4, 5] rfl) ?_
            refine pk [1, 0, 2, 3, 4, 5] rfl ?_
            refine re (E' := [(0, (.pointer (some ⟨b1, 0, none⟩))), (1, (.int .i64 n_1)), (4, (.pointer (some ⟨b5, 0, none⟩))), (5, (.pointer (some ⟨b11, 0, none⟩))), (6, (.int .i64 r13)), (7, (.pointer (some ⟨b16, 0, none⟩))), (49, v169), (51, (.int .i64 r167))]) ⟨rfl, rfl, rfl, rfl, rfl, rfl, rfl, rfl, trivial⟩ ?_
            exact H242 v169 r167 r168
          have H245 : ∀ (_ : Unit), Nx 83 (gB F [cellCh b1 [v2, (.int .i64 r_0_p)] 111] w0) (feet [cellCh b1 [v2, (.int .i64 r_0_p)] 111]) w0 (wpAnyH Tryd.prog .any (opsAt Tryd.f68 [1, 1, 1, 1, 1, 0, 1, 0]) Qd (Mem (gB F [cellCh b1 [v2, (.int .i64 r_0_p)] 111] w0) (feet [cellCh b1 [v2, (.int .i64 r_0_p)] 111]) w0 [cellCh b11 [(.int .i64 r7), (.int .i64 0), (.int .i64 0), (.bool (decide (r9 = 0)))] 25, cellCh b5 [(.int .i64 0), (.int .i64 0), (.int .i64 0), (.bool false)] 25, snapCh w0 F]) 6 #[true, true, true, true, true, true, true, true, false, false, true, false, false, false, false]) [(0, (.pointer (some ⟨b1, 0, none⟩))), (1, (.int .i64 n_1)), (4, (.pointer (some ⟨b5, 0, none⟩))), (5, (.pointer (some ⟨b11, 0, none⟩))), (6, (.int .i64 r13)), (7, (.pointer (some ⟨b16, 0, none⟩))), (41, (.agg #[(.int .i64 0), (.int .i64 r13)])), (47, (.int .i64 r13)), (50, (.pointer (some ⟨b1, 0, none⟩))), (44, (.agg #[(.int .i64 0), (.int .i64 t154)])), (46, (.int .i64 t153))] [cellCh b1 [v2, (.int .i64 r157)] 111, cellCh b16 [(.int .i64 t153), (.int .i64 t154)] 87, cellCh b11 [(.int .i64 r7), (.int .i64 0), (.int .i64 0), (.bool (decide (r9 = 0)))] 25, cellCh b5 [(.int .i64 0), (.int .i64 0), (.int .i64 0), (.bool false)] 25, snapCh w0 F] (L_spec_l20Rd_pick r_0_b r157 3 (fun (r163, r164) => idxW ([(GSpan.mk 0 r13), (GSpan.mk 0 t154), (GSpan.mk t153 r13)]) r163 (fun e165 => k161 (r164, e165.xLo, e165.xHi)))) := by
            intro _
            refine o_bld (dt 8 (fun w m => m.pick [2, 3, 4] rfl)) (qs := [(0, (.int .i64 t153)), (1, (.int .i64 r13))]) (cells := [(.int .i64 t153), (.int .i64 r13)]) (by intro ρ h; simp only [List.map_toArray, List.map_cons, List.map_nil, h (.tmp 46) _ rfl, h (.tmp 47) _ rfl]) rfl bld87 rfl ?_
            refine d_two (i := 9) (j := 11) rfl rfl (by kernel_rfl) ?_ ?_
            · intro o ho; cases ho
              refine o_bsl (enc := encGSpan) (qs := [(0, (.agg #[(.int .i64 0), (.int .i64 r13)])), (1, (.agg #[(.int .i64 0), (.int .i64 t154)])), (2, (.agg #[(.int .i64 t153), (.int .i64 r13)]))]) (cells := [(.int .i64 0), (.int .i64 r13), (.int .i64 0), (.int .i64 t154), (.int .i64 t153), (.int .i64 r13)]) ([(GSpan.mk 0 r13), (GSpan.mk 0 t154), (GSpan.mk t153 r13)]) flelGSpan (by intro ρ h; simp only [List.map_toArray, List.map_cons, List.map_nil, h (.tmp 41) _ rfl, h (.tmp 44) _ rfl, h (.tmp 48) _ rfl]) rfl el88 zero87 rfl rfl rfl rfl rfl rfl ?_; intro v162
              refine d_and (fun w m => m.pick [3, 4, 5] rfl) ?_
              refine pk [0, 1, 2, 3, 4, 5] rfl ?_
              refine re (E' := [(0, (.pointer (some ⟨b1, 0, none⟩))), (1, (.int .i64 n_1)), (4, (.pointer (some ⟨b5, 0, none⟩))), (5, (.pointer (some ⟨b11, 0, none⟩))), (6, (.int .i64 r13)), (7, (.pointer (some ⟨b16, 0, none⟩))), (50, (.pointer (some ⟨b1, 0, none⟩))), (49, v162)]) ⟨rfl, rfl, rfl, rfl, rfl, rfl, rfl, rfl, trivial⟩ ?_
              exact H243 v162
            · intro o ho; cases ho
              refine o_call (vs := [(.pointer (some ⟨b1, 0, none⟩)), (.int .i64 3)]) (M0 := [cellCh b1 [v2, (.int .i64 r157)] 111]) Tryd.call65 rfl rfl (by intro w m h; exact (w_spec_l20Rd_pick (F := allB [cellCh b1 [v2, (.int .i64 r157)] 111] w) (r_0_b := r_0_b) (r_0_p := r157) (n_1 := 3) allB_ok m.given (m.rdM 3 rfl (reads_snap hv2)) h).mono (fun _ _ k => ret_free (fun r u => (fr_cons free_cell fr_nil)) k)) ?_; rintro ⟨r167, r168⟩ _
              refine d_and (fun w m => m.pick [2, 3, 4] rfl) ?_
              refine pk [0, 1, 2, 3, 4] rfl ?_
              refine re (E' := [(0, (.pointer (some ⟨b1, 0, none⟩))), (1, (.int .i64 n_1)), (4, (.pointer (some ⟨b5, 0, none⟩))), (5, (.pointer (some ⟨b11, 0, none⟩))), (6, (.int .i64 r13)), (7, (.pointer (some ⟨b16, 0, none⟩))), (41, (.agg #[(.int .i64 0), (.int .i64 r13)])), (44, (.agg #[(.int .i64 0), (.int .i64 t154)])), (48, (.agg #[(.int .i64 t153), (.int .i64 r13)])), (51, (.int .i64 r167))]) ⟨rfl, rfl, rfl, rfl, rfl, rfl, rfl, rfl, rfl, rfl, trivial⟩ ?_
              exact H244 r167 r168
          have H246 : ∀ (r170 : Int) (r171 : Int), Nx 83 (gB F [cellCh b1 [v2, (.int .i64 r_0_p)] 111] w0) (feet [cellCh b1 [v2, (.int .i64 r_0_p)] 111]) w0 (wpAnyH Tryd.prog .any (opsAt Tryd.f68 [1, 1, 1, 1, 1, 0, 1, 0]) Qd (Mem (gB F [cellCh b1 [v2, (.int .i64 r_0_p)] 111] w0) (feet [cellCh b1 [v2, (.int .i64 r_0_p)] 111]) w0 [cellCh b11 [(.int .i64 r7), (.int .i64 0), (.int .i64 0), (.bool (decide (r9 = 0)))] 25, cellCh b5 [(.int .i64 0), (.int .i64 0), (.int .i64 0), (.bool false)] 25, snapCh w0 F]) 5 #[true, true, true, true, true, true, true, true, false, false, true, true, false, false, false]) [(0, (.pointer (some ⟨b1, 0, none⟩))), (1, (.int .i64 n_1)), (4, (.pointer (some ⟨b5, 0, none⟩))), (5, (.pointer (some ⟨b11, 0, none⟩))), (6, (.int .i64 r13)), (7, (.pointer (some ⟨b16, 0, none⟩))), (41, (.agg #[(.int .i64 0), (.int .i64 r13)])), (47, (.int .i64 r13)), (44, (.agg #[(.int .i64 0), (.int .i64 t154)])), (51, (.int .i64 r170)), (46, (.int .i64 t153))] [cellCh b1 [v2, (.int .i64 r171)] 111, cellCh b16 [(.int .i64 t153), (.int .i64 t154)] 87, cellCh b11 [(.int .i64 r7), (.int .i64 0), (.int .i64 0), (.bool (decide (r9 = 0)))] 25, cellCh b5 [(.int .i64 0), (.int .i64 0), (.int .i64 0), (.bool false)] 25, snapCh w0 F] (idxW ([(GSpan.mk 0 r13), (GSpan.mk 0 t154), (GSpan.mk t153 r13)]) r170 (fun e165 => k161 (r171, e165.xLo, e165.xHi))) := by
            intro r170 r171
            refine o_bld (dt 8 (fun w m => m.pick [2, 3, 4] rfl)) (qs := [(0, (.int .i64 t153)), (1, (.int .i64 r13))]) (cells := [(.int .i64 t153), (.int .i64 r13)]) (by intro ρ h; simp only [List.map_toArray, List.map_cons, List.map_nil, h (.tmp 46) _ rfl, h (.tmp 47) _ rfl]) rfl bld87 rfl ?_
            refine d_one (i := 9) rfl (by kernel_rfl) (o_bsl (enc := encGSpan) (qs := [(0, (.agg #[(.int .i64 0), (.int .i64 r13)])), (1, (.agg #[(.int .i64 0), (.int .i64 t154)])), (2, (.agg #[(.int .i64 t153), (.int .i64 r13)]))]) (cells := [(.int .i64 0), (.int .i64 r13), (.int .i64 0), (.int .i64 t154), (.int .i64 t153), (.int .i64 r13)]) ([(GSpan.mk 0 r13), (GSpan.mk 0 t154), (GSpan.mk t153 r13)]) flelGSpan (by intro ρ h; simp only [List.map_toArray, List.map_cons, List.map_nil, h (.tmp 41) _ rfl, h (.tmp 44) _ rfl, h (.tmp 48) _ rfl]) rfl el88 zero87 rfl rfl rfl rfl rfl rfl ?_); intro v172
            refine d_and (fun w m => m.pick [3, 4, 5] rfl) ?_
            refine pk [1, 0, 2, 3, 4, 5] rfl ?_
            refine re (E' := [(0, (.pointer (some ⟨b1, 0, none⟩))), (1, (.int .i64 n_1)), (4, (.pointer (some ⟨b5, 0, none⟩))), (5, (.pointer (some ⟨b11, 0, none⟩))), (6, (.int .i64 r13)), (7, (.pointer (some ⟨b16, 0, none⟩))), (49, v172), (51, (.int .i64 r170))]) ⟨rfl, rfl, rfl, rfl, rfl, rfl, rfl, rfl, trivial⟩ ?_
            exact H242 v172 r170 r171
          have H247 : ∀ (r170 : Int) (r171 : Int), Nx 83 (gB F [cellCh b1 [v2, (.int .i64 r_0_p)] 111] w0) (feet [cellCh b1 [v2, (.int .i64 r_0_p)] 111]) w0 (wpAnyH Tryd.prog .any (opsAt Tryd.f68 [1, 1, 1, 1, 1, 0, 1, 0]) Qd (Mem (gB F [cellCh b1 [v2, (.int .i64 r_0_p)] 111] w0) (feet [cellCh b1 [v2, (.int .i64 r_0_p)] 111]) w0 [cellCh b11 [(.int .i64 r7), (.int .i64 0), (.int .i64 0), (.bool (decide (r9 = 0)))] 25, cellCh b5 [(.int .i64 0), (.int .i64 0), (.int .i64 0), (.bool false)] 25, snapCh w0 F]) 6 #[true, true, true, true, true, true, false, true, false, false, true, true, false, false, false]) [(0, (.pointer (some ⟨b1, 0, none⟩))), (1, (.int .i64 n_1)), (4, (.pointer (some ⟨b5, 0, none⟩))), (5, (.pointer (some ⟨b11, 0, none⟩))), (6, (.int .i64 r13)), (7, (.pointer (some ⟨b16, 0, none⟩))), (41, (.agg #[(.int .i64 0), (.int .i64 r13)])), (45, (.pointer (some ⟨b16, 0, none⟩))), (47, (.int .i64 r13)), (44, (.agg #[(.int .i64 0), (.int .i64 t154)])), (51, (.int .i64 r170))] [cellCh b1 [v2, (.int .i64 r171)] 111, cellCh b16 [(.int .i64 t153), (.int .i64 t154)] 87, cellCh b11 [(.int .i64 r7), (.int .i64 0), (.int .i64 0), (.bool (decide (r9 = 0)))] 25, cellCh b5 [(.int .i64 0), (.int .i64 0), (.int .i64 0), (.bool false)] 25, snapCh w0 F] (idxW ([(GSpan.mk 0 r13), (GSpan.mk 0 t154), (GSpan.mk t153 r13)]) r170 (fun e165 => k161 (r171, e165.xLo, e165.xHi))) := by
            intro r170 r171
            refine d_one (i := 6) rfl (by kernel_rfl) (o_ldc m_op (v := (.int .i64 t153)) 1 rfl rfl rfl ty3 rfl ?_)
            refine d_and (fun w m => m.pick [2, 3, 4] rfl) ?_
            refine pk [0, 1, 2, 3, 4] rfl ?_
            refine re (E' := [(0, (.pointer (some ⟨b1, 0, none⟩))), (1, (.int .i64 n_1)), (4, (.pointer (some ⟨b5, 0, none⟩))), (5, (.pointer (some ⟨b11, 0, none⟩))), (6, (.int .i64 r13)), (7, (.pointer (some ⟨b16, 0, none⟩))), (41, (.agg #[(.int .i64 0), (.int .i64 r13)])), (47, (.int .i64 r13)), (44, (.agg #[(.int .i64 0), (.int .i64 t154)])), (51, (.int .i64 r170)), (46, (.int .i64 t153))]) ⟨rfl, rfl, rfl, rfl, rfl, rfl, rfl, rfl, rfl, rfl, rfl, trivial⟩ ?_
            exact H246 r170 r171
          have H248 : ∀ (_ : Unit), Nx 83 (gB F [cellCh b1 [v2, (.int .i64 r_0_p)] 111] w0) (feet [cellCh b1 [v2, (.int .i64 r_0_p)] 111]) w0 (wpAnyH Tryd.prog .any (opsAt Tryd.f68 [1, 1, 1, 1, 1, 0, 1, 0]) Qd (Mem (gB F [cellCh b1 [v2, (.int .i64 r_0_p)] 111] w0) (feet [cellCh b1 [v2, (.int .i64 r_0_p)] 111]) w0 [cellCh b11 [(.int .i64 r7), (.int .i64 0), (.int .i64 0), (.bool (decide (r9 = 0)))] 25, cellCh b5 [(.int .i64 0), (.int .i64 0), (.int .i64 0), (.bool false)] 25, snapCh w0 F]) 8 #[true, true, true, true, false, true, false, true, false, false, true, false, false, false, false]) [(0, (.pointer (some ⟨b1, 0, none⟩))), (1, (.int .i64 n_1)), (4, (.pointer (some ⟨b5, 0, none⟩))), (5, (.pointer (some ⟨b11, 0, none⟩))), (6, (.int .i64 r13)), (7, (.pointer (some ⟨b16, 0, none⟩))), (41, (.agg #[(.int .i64 0), (.int .i64 r13)])), (45, (.pointer (some ⟨b16, 0, none⟩))), (47, (.int .i64 r13)), (50, (.pointer (some ⟨b1, 0, none⟩))), (43, (.int .i64 t154))] [cellCh b1 [v2, (.int .i64 r157)] 111, cellCh b16 [(.int .i64 t153), (.int .i64 t154)] 87, cellCh b11 [(.int .i64 r7), (.int .i64 0), (.int .i64 0), (.bool (decide (r9 = 0)))] 25, cellCh b5 [(.int .i64 0), (.int .i64 0), (.int .i64 0), (.bool false)] 25, snapCh w0 F] (L_spec_l20Rd_pick r_0_b r157 3 (fun (r163, r164) => idxW ([(GSpan.mk 0 r13), (GSpan.mk 0 t154), (GSpan.mk t153 r13)]) r163 (fun e165 => k161 (r164, e165.xLo, e165.xHi)))) := by
            intro _
            refine o_bld (dt 4 (fun w m => m.pick [2, 3, 4] rfl)) (qs := [(0, (.int .i64 0)), (1, (.int .i64 t154))]) (cells := [(.int .i64 0), (.int .i64 t154)]) (by intro ρ h; simp only [List.map_toArray, List.map_cons, List.map_nil, h (.const (.int .i64 0)) _ rfl, h (.tmp 43) _ rfl]) rfl bld87 rfl ?_
            refine d_two (i := 6) (j := 11) rfl rfl (by kernel_rfl) ?_ ?_
            · intro o ho; cases ho
              refine o_ldc m_op (v := (.int .i64 t153)) 1 rfl rfl rfl ty3 rfl ?_
              refine d_and (fun w m => m.pick [2, 3, 4] rfl) ?_
              refine pk [0, 1, 2, 3, 4] rfl ?_
              refine re (E' := [(0, (.pointer (some ⟨b1, 0, none⟩))), (1, (.int .i64 n_1)), (4, (.pointer (some ⟨b5, 0, none⟩))), (5, (.pointer (some ⟨b11, 0, none⟩))), (6, (.int .i64 r13)), (7, (.pointer (some ⟨b16, 0, none⟩))), (41, (.agg #[(.int .i64 0), (.int .i64 r13)])), (47, (.int .i64 r13)), (50, (.pointer (some ⟨b1, 0, none⟩))), (44, (.agg #[(.int .i64 0), (.int .i64 t154)])), (46, (.int .i64 t153))]) ⟨rfl, rfl, rfl, rfl, rfl, rfl, rfl, rfl, rfl, rfl, rfl, trivial⟩ ?_
              exact H245 ()
            · intro o ho; cases ho
              refine o_call (vs := [(.pointer (some ⟨b1, 0, none⟩)), (.int .i64 3)]) (M0 := [cellCh b1 [v2, (.int .i64 r157)] 111]) Tryd.call65 rfl rfl (by intro w m h; exact (w_spec_l20Rd_pick (F := allB [cellCh b1 [v2, (.int .i64 r157)] 111] w) (r_0_b := r_0_b) (r_0_p := r157) (n_1 := 3) allB_ok m.given (m.rdM 3 rfl (reads_snap hv2)) h).mono (fun _ _ k => ret_free (fun r u => (fr_cons free_cell fr_nil)) k)) ?_; rintro ⟨r170, r171⟩ _
              refine d_and (fun w m => m.pick [2, 3, 4] rfl) ?_
              refine pk [0, 1, 2, 3, 4] rfl ?_
              refine re (E' := [(0, (.pointer (some ⟨b1, 0, none⟩))), (1, (.int .i64 n_1)), (4, (.pointer (some ⟨b5, 0, none⟩))), (5, (.pointer (some ⟨b11, 0, none⟩))), (6, (.int .i64 r13)), (7, (.pointer (some ⟨b16, 0, none⟩))), (41, (.agg #[(.int .i64 0), (.int .i64 r13)])), (45, (.pointer (some ⟨b16, 0, none⟩))), (47, (.int .i64 r13)), (44, (.agg #[(.int .i64 0), (.int .i64 t154)])), (51, (.int .i64 r170))]) ⟨rfl, rfl, rfl, rfl, rfl, rfl, rfl, rfl, rfl, rfl, rfl, trivial⟩ ?_
              exact H247 r170 r171
          have H249 : ∀ (_ : Unit), Nx 83 (gB F [cellCh b1 [v2, (.int .i64 r_0_p)] 111] w0) (feet [cellCh b1 [v2, (.int .i64 r_0_p)] 111]) w0 (wpAnyH Tryd.prog .any (opsAt Tryd.f68 [1, 1, 1, 1, 1, 0, 1, 0]) Qd (Mem (gB F [cellCh b1 [v2, (.int .i64 r_0_p)] 111] w0) (feet [cellCh b1 [v2, (.int .i64 r_0_p)] 111]) w0 [cellCh b11 [(.int .i64 r7), (.int .i64 0), (.int .i64 0), (.bool (decide (r9 = 0)))] 25, cellCh b5 [(.int .i64 0), (.int .i64 0), (.int .i64 0), (.bool false)] 25, snapCh w0 F]) 6 #[true, true, true, true, false, true, true, true, true, false, true, false, false, false, false]) [(0, (.pointer (some ⟨b1, 0, none⟩))), (1, (.int .i64 n_1)), (4, (.pointer (some ⟨b5, 0, none⟩))), (5, (.pointer (some ⟨b11, 0, none⟩))), (6, (.int .i64 r13)), (7, (.pointer (some ⟨b16, 0, none⟩))), (41, (.agg #[(.int .i64 0), (.int .i64 r13)])), (50, (.pointer (some ⟨b1, 0, none⟩))), (48, (.agg #[(.int .i64 t153), (.int .i64 r13)])), (43, (.int .i64 t154))] [cellCh b1 [v2, (.int .i64 r157)] 111, cellCh b16 [(.int .i64 t153), (.int .i64 t154)] 87, cellCh b11 [(.int .i64 r7), (.int .i64 0), (.int .i64 0), (.bool (decide (r9 = 0)))] 25, cellCh b5 [(.int .i64 0), (.int .i64 0), (.int .i64 0), (.bool false)] 25, snapCh w0 F] (L_spec_l20Rd_pick r_0_b r157 3 (fun (r163, r164) => idxW ([(GSpan.mk 0 r13), (GSpan.mk 0 t154), (GSpan.mk t153 r13)]) r163 (fun e165 => k161 (r164, e165.xLo, e165.xHi)))) := by
            intro _
            refine o_bld (dt 4 (fun w m => m.pick [2, 3, 4] rfl)) (qs := [(0, (.int .i64 0)), (1, (.int .i64 t154))]) (cells := [(.int .i64 0), (.int .i64 t154)]) (by intro ρ h; simp only [List.map_toArray, List.map_cons, List.map_nil, h (.const (.int .i64 0)) _ rfl, h (.tmp 43) _ rfl]) rfl bld87 rfl ?_
            refine d_two (i := 9) (j := 11) rfl rfl (by kernel_rfl) ?_ ?_
            · intro o ho; cases ho
              refine o_bsl (enc := encGSpan) (qs := [(0, (.agg #[(.int .i64 0), (.int .i64 r13)])), (1, (.agg #[(.int .i64 0), (.int .i64 t154)])), (2, (.agg #[(.int .i64 t153), (.int .i64 r13)]))]) (cells := [(.int .i64 0), (.int .i64 r13), (.int .i64 0), (.int .i64 t154), (.int .i64 t153), (.int .i64 r13)]) ([(GSpan.mk 0 r13), (GSpan.mk 0 t154), (GSpan.mk t153 r13)]) flelGSpan (by intro ρ h; simp only [List.map_toArray, List.map_cons, List.map_nil, h (.tmp 41) _ rfl, h (.tmp 44) _ rfl, h (.tmp 48) _ rfl]) rfl el88 zero87 rfl rfl rfl rfl rfl rfl ?_; intro v173
              refine d_and (fun w m => m.pick [3, 4, 5] rfl) ?_
              refine pk [0, 1, 2, 3, 4, 5] rfl ?_
              refine re (E' := [(0, (.pointer (some ⟨b1, 0, none⟩))), (1, (.int .i64 n_1)), (4, (.pointer (some ⟨b5, 0, none⟩))), (5, (.pointer (some ⟨b11, 0, none⟩))), (6, (.int .i64 r13)), (7, (.pointer (some ⟨b16, 0, none⟩))), (50, (.pointer (some ⟨b1, 0, none⟩))), (49, v173)]) ⟨rfl, rfl, rfl, rfl, rfl, rfl, rfl, rfl, trivial⟩ ?_
              exact H243 v173
            · intro o ho; cases ho
              refine o_call (vs := [(.pointer (some ⟨b1, 0, none⟩)), (.int .i64 3)]) (M0 := [cellCh b1 [v2, (.int .i64 r157)] 111]) Tryd.call65 rfl rfl (by intro w m h; exact (w_spec_l20Rd_pick (F := allB [cellCh b1 [v2, (.int .i64 r157)] 111] w) (r_0_b := r_0_b) (r_0_p := r157) (n_1 := 3) allB_ok m.given (m.rdM 3 rfl (reads_snap hv2)) h).mono (fun _ _ k => ret_free (fun r u => (fr_cons free_cell fr_nil)) k)) ?_; rintro ⟨r174, r175⟩ _
              refine d_and (fun w m => m.pick [2, 3, 4] rfl) ?_
              refine pk [0, 1, 2, 3, 4] rfl ?_
              refine re (E' := [(0, (.pointer (some ⟨b1, 0, none⟩))), (1, (.int .i64 n_1)), (4, (.pointer (some ⟨b5, 0, none⟩))), (5, (.pointer (some ⟨b11, 0, none⟩))), (6, (.int .i64 r13)), (7, (.pointer (some ⟨b16, 0, none⟩))), (41, (.agg #[(.int .i64 0), (.int .i64 r13)])), (44, (.agg #[(.int .i64 0), (.int .i64 t154)])), (48, (.agg #[(.int .i64 t153), (.int .i64 r13)])), (51, (.int .i64 r174))]) ⟨rfl, rfl, rfl, rfl, rfl, rfl, rfl, rfl, rfl, rfl, trivial⟩ ?_
              exact H244 r174 r175
          have H250 : ∀ (r176 : Int) (r177 : Int), Nx 83 (gB F [cellCh b1 [v2, (.int .i64 r_0_p)] 111] w0) (feet [cellCh b1 [v2, (.int .i64 r_0_p)] 111]) w0 (wpAnyH Tryd.prog .any (opsAt Tryd.f68 [1, 1, 1, 1, 1, 0, 1, 0]) Qd (Mem (gB F [cellCh b1 [v2, (.int .i64 r_0_p)] 111] w0) (feet [cellCh b1 [v2, (.int .i64 r_0_p)] 111]) w0 [cellCh b11 [(.int .i64 r7), (.int .i64 0), (.int .i64 0), (.bool (decide (r9 = 0)))] 25, cellCh b5 [(.int .i64 0), (.int .i64 0), (.int .i64 0), (.bool false)] 25, snapCh w0 F]) 5 #[true, true, true, true, false, true, true, true, true, false, true, true, false, false, false]) [(0, (.pointer (some ⟨b1, 0, none⟩))), (1, (.int .i64 n_1)), (4, (.pointer (some ⟨b5, 0, none⟩))), (5, (.pointer (some ⟨b11, 0, none⟩))), (6, (.int .i64 r13)), (7, (.pointer (some ⟨b16, 0, none⟩))), (41, (.agg #[(.int .i64 0), (.int .i64 r13)])), (48, (.agg #[(.int .i64 t153), (.int .i64 r13)])), (51, (.int .i64 r176)), (43, (.int .i64 t154))] [cellCh b1 [v2, (.int .i64 r177)] 111, cellCh b16 [(.int .i64 t153), (.int .i64 t154)] 87, cellCh b11 [(.int .i64 r7), (.int .i64 0), (.int .i64 0), (.bool (decide (r9 = 0)))] 25, cellCh b5 [(.int .i64 0), (.int .i64 0), (.int .i64 0), (.bool false)] 25, snapCh w0 F] (idxW ([(GSpan.mk 0 r13), (GSpan.mk 0 t154), (GSpan.mk t153 r13)]) r176 (fun e165 => k161 (r177, e165.xLo, e165.xHi))) := by
            intro r176 r177
            refine o_bld (dt 4 (fun w m => m.pick [2, 3, 4] rfl)) (qs := [(0, (.int .i64 0)), (1, (.int .i64 t154))]) (cells := [(.int .i64 0), (.int .i64 t154)]) (by intro ρ h; simp only [List.map_toArray, List.map_cons, List.map_nil, h (.const (.int .i64 0)) _ rfl, h (.tmp 43) _ rfl]) rfl bld87 rfl ?_
            refine d_one (i := 9) rfl (by kernel_rfl) (o_bsl (enc := encGSpan) (qs := [(0, (.agg #[(.int .i64 0), (.int .i64 r13)])), (1, (.agg #[(.int .i64 0), (.int .i64 t154)])), (2, (.agg #[(.int .i64 t153), (.int .i64 r13)]))]) (cells := [(.int .i64 0), (.int .i64 r13), (.int .i64 0), (.int .i64 t154), (.int .i64 t153), (.int .i64 r13)]) ([(GSpan.mk 0 r13), (GSpan.mk 0 t154), (GSpan.mk t153 r13)]) flelGSpan (by intro ρ h; simp only [List.map_toArray, List.map_cons, List.map_nil, h (.tmp 41) _ rfl, h (.tmp 44) _ rfl, h (.tmp 48) _ rfl]) rfl el88 zero87 rfl rfl rfl rfl rfl rfl ?_); intro v178
            refine d_and (fun w m => m.pick [3, 4, 5] rfl) ?_
            refine pk [1, 0, 2, 3, 4, 5] rfl ?_
            refine re (E' := [(0, (.pointer (some ⟨b1, 0, none⟩))), (1, (.int .i64 n_1)), (4, (.pointer (some ⟨b5, 0, none⟩))), (5, (.pointer (some ⟨b11, 0, none⟩))), (6, (.int .i64 r13)), (7, (.pointer (some ⟨b16, 0, none⟩))), (49, v178), (51, (.int .i64 r176))]) ⟨rfl, rfl, rfl, rfl, rfl, rfl, rfl, rfl, trivial⟩ ?_
            exact H242 v178 r176 r177
          have H251 : ∀ (r176 : Int) (r177 : Int), Nx 83 (gB F [cellCh b1 [v2, (.int .i64 r_0_p)] 111] w0) (feet [cellCh b1 [v2, (.int .i64 r_0_p)] 111]) w0 (wpAnyH Tryd.prog .any (opsAt Tryd.f68 [1, 1, 1, 1, 1, 0, 1, 0]) Qd (Mem (gB F [cellCh b1 [v2, (.int .i64 r_0_p)] 111] w0) (feet [cellCh b1 [v2, (.int .i64 r_0_p)] 111]) w0 [cellCh b11 [(.int .i64 r7), (.int .i64 0), (.int .i64 0), (.bool (decide (r9 = 0)))] 25, cellCh b5 [(.int .i64 0), (.int .i64 0), (.int .i64 0), (.bool false)] 25, snapCh w0 F]) 6 #[true, true, true, false, false, true, true, true, true, false, true, true, false, false, false]) [(0, (.pointer (some ⟨b1, 0, none⟩))), (1, (.int .i64 n_1)), (4, (.pointer (some ⟨b5, 0, none⟩))), (5, (.pointer (some ⟨b11, 0, none⟩))), (6, (.int .i64 r13)), (7, (.pointer (some ⟨b16, 0, none⟩))), (41, (.agg #[(.int .i64 0), (.int .i64 r13)])), (42, (.pointer (some ⟨b16, 1, none⟩))), (48, (.agg #[(.int .i64 t153), (.int .i64 r13)])), (51, (.int .i64 r176))] [cellCh b1 [v2, (.int .i64 r177)] 111, cellCh b16 [(.int .i64 t153), (.int .i64 t154)] 87, cellCh b11 [(.int .i64 r7), (.int .i64 0), (.int .i64 0), (.bool (decide (r9 = 0)))] 25, cellCh b5 [(.int .i64 0), (.int .i64 0), (.int .i64 0), (.bool false)] 25, snapCh w0 F] (idxW ([(GSpan.mk 0 r13), (GSpan.mk 0 t154), (GSpan.mk t153 r13)]) r176 (fun e165 => k161 (r177, e165.xLo, e165.xHi))) := by
            intro r176 r177
            refine d_one (i := 3) rfl (by kernel_rfl) (o_ldc m_op (v := (.int .i64 t154)) 1 rfl rfl rfl ty3 rfl ?_)
            refine d_and (fun w m => m.pick [2, 3, 4] rfl) ?_
            refine pk [0, 1, 2, 3, 4] rfl ?_
            refine re (E' := [(0, (.pointer (some ⟨b1, 0, none⟩))), (1, (.int .i64 n_1)), (4, (.pointer (some ⟨b5, 0, none⟩))), (5, (.pointer (some ⟨b11, 0, none⟩))), (6, (.int .i64 r13)), (7, (.pointer (some ⟨b16, 0, none⟩))), (41, (.agg #[(.int .i64 0), (.int .i64 r13)])), (48, (.agg #[(.int .i64 t153), (.int .i64 r13)])), (51, (.int .i64 r176)), (43, (.int .i64 t154))]) ⟨rfl, rfl, rfl, rfl, rfl, rfl, rfl, rfl, rfl, rfl, trivial⟩ ?_
            exact H250 r176 r177
          have H252 : ∀ (_ : Unit), Nx 83 (gB F [cellCh b1 [v2, (.int .i64 r_0_p)] 111] w0) (feet [cellCh b1 [v2, (.int .i64 r_0_p)] 111]) w0 (wpAnyH Tryd.prog .any (opsAt Tryd.f68 [1, 1, 1, 1, 1, 0, 1, 0]) Qd (Mem (gB F [cellCh b1 [v2, (.int .i64 r_0_p)] 111] w0) (feet [cellCh b1 [v2, (.int .i64 r_0_p)] 111]) w0 [cellCh b11 [(.int .i64 r7), (.int .i64 0), (.int .i64 0), (.bool (decide (r9 = 0)))] 25, cellCh b5 [(.int .i64 0), (.int .i64 0), (.int .i64 0), (.bool false)] 25, snapCh w0 F]) 8 #[true, true, true, false, false, true, true, true, false, false, true, false, false, false, false]) [(0, (.pointer (some ⟨b1, 0, none⟩))), (1, (.int .i64 n_1)), (4, (.pointer (some ⟨b5, 0, none⟩))), (5, (.pointer (some ⟨b11, 0, none⟩))), (6, (.int .i64 r13)), (7, (.pointer (some ⟨b16, 0, none⟩))), (41, (.agg #[(.int .i64 0), (.int .i64 r13)])), (42, (.pointer (some ⟨b16, 1, none⟩))), (47, (.int .i64 r13)), (50, (.pointer (some ⟨b1, 0, none⟩))), (46, (.int .i64 t153))] [cellCh b1 [v2, (.int .i64 r157)] 111, cellCh b16 [(.int .i64 t153), (.int .i64 t154)] 87, cellCh b11 [(.int .i64 r7), (.int .i64 0), (.int .i64 0), (.bool (decide (r9 = 0)))] 25, cellCh b5 [(.int .i64 0), (.int .i64 0), (.int .i64 0), (.bool false)] 25, snapCh w0 F] (L_spec_l20Rd_pick r_0_b r157 3 (fun (r163, r164) => idxW ([(GSpan.mk 0 r13), (GSpan.mk 0 t154), (GSpan.mk t153 r13)]) r163 (fun e165 => k161 (r164, e165.xLo, e165.xHi)))) := by
            intro _
            refine o_bld (dt 8 (fun w m => m.pick [2, 3, 4] rfl)) (qs := [(0, (.int .i64 t153)), (1, (.int .i64 r13))]) (cells := [(.int .i64 t153), (.int .i64 r13)]) (by intro ρ h; simp only [List.map_toArray, List.map_cons, List.map_nil, h (.tmp 46) _ rfl, h (.tmp 47) _ rfl]) rfl bld87 rfl ?_
            refine d_two (i := 3) (j := 11) rfl rfl (by kernel_rfl) ?_ ?_
            · intro o ho; cases ho
              refine o_ldc m_op (v := (.int .i64 t154)) 1 rfl rfl rfl ty3 rfl ?_
              refine d_and (fun w m => m.pick [2, 3, 4] rfl) ?_
              refine pk [0, 1, 2, 3, 4] rfl ?_
              refine re (E' := [(0, (.pointer (some ⟨b1, 0, none⟩))), (1, (.int .i64 n_1)), (4, (.pointer (some ⟨b5, 0, none⟩))), (5, (.pointer (some ⟨b11, 0, none⟩))), (6, (.int .i64 r13)), (7, (.pointer (some ⟨b16, 0, none⟩))), (41, (.agg #[(.int .i64 0), (.int .i64 r13)])), (50, (.pointer (some ⟨b1, 0, none⟩))), (48, (.agg #[(.int .i64 t153), (.int .i64 r13)])), (43, (.int .i64 t154))]) ⟨rfl, rfl, rfl, rfl, rfl, rfl, rfl, rfl, rfl, rfl, trivial⟩ ?_
              exact H249 ()
            · intro o ho; cases ho
              refine o_call (vs := [(.pointer (some ⟨b1, 0, none⟩)), (.int .i64 3)]) (M0 := [cellCh b1 [v2, (.int .i64 r157)] 111]) Tryd.call65 rfl rfl (by intro w m h; exact (w_spec_l20Rd_pick (F := allB [cellCh b1 [v2, (.int .i64 r157)] 111] w) (r_0_b := r_0_b) (r_0_p := r157) (n_1 := 3) allB_ok m.given (m.rdM 3 rfl (reads_snap hv2)) h).mono (fun _ _ k => ret_free (fun r u => (fr_cons free_cell fr_nil)) k)) ?_; rintro ⟨r176, r177⟩ _
              refine d_and (fun w m => m.pick [2, 3, 4] rfl) ?_
              refine pk [0, 1, 2, 3, 4] rfl ?_
              refine re (E' := [(0, (.pointer (some ⟨b1, 0, none⟩))), (1, (.int .i64 n_1)), (4, (.pointer (some ⟨b5, 0, none⟩))), (5, (.pointer (some ⟨b11, 0, none⟩))), (6, (.int .i64 r13)), (7, (.pointer (some ⟨b16, 0, none⟩))), (41, (.agg #[(.int .i64 0), (.int .i64 r13)])), (42, (.pointer (some ⟨b16, 1, none⟩))), (48, (.agg #[(.int .i64 t153), (.int .i64 r13)])), (51, (.int .i64 r176))]) ⟨rfl, rfl, rfl, rfl, rfl, rfl, rfl, rfl, rfl, rfl, trivial⟩ ?_
              exact H251 r176 r177
          have H253 : ∀ (r179 : Int) (r180 : Int), Nx 83 (gB F [cellCh b1 [v2, (.int .i64 r_0_p)] 111] w0) (feet [cellCh b1 [v2, (.int .i64 r_0_p)] 111]) w0 (wpAnyH Tryd.prog .any (opsAt Tryd.f68 [1, 1, 1, 1, 1, 0, 1, 0]) Qd (Mem (gB F [cellCh b1 [v2, (.int .i64 r_0_p)] 111] w0) (feet [cellCh b1 [v2, (.int .i64 r_0_p)] 111]) w0 [cellCh b11 [(.int .i64 r7), (.int .i64 0), (.int .i64 0), (.bool (decide (r9 = 0)))] 25, cellCh b5 [(.int .i64 0), (.int .i64 0), (.int .i64 0), (.bool false)] 25, snapCh w0 F]) 7 #[true, true, true, true, false, true, false, true, false, false, true, true, false, false, false]) [(0, (.pointer (some ⟨b1, 0, none⟩))), (1, (.int .i64 n_1)), (4, (.pointer (some ⟨b5, 0, none⟩))), (5, (.pointer (some ⟨b11, 0, none⟩))), (6, (.int .i64 r13)), (7, (.pointer (some ⟨b16, 0, none⟩))), (41, (.agg #[(.int .i64 0), (.int .i64 r13)])), (45, (.pointer (some ⟨b16, 0, none⟩))), (47, (.int .i64 r13)), (51, (.int .i64 r179)), (43, (.int .i64 t154))] [cellCh b1 [v2, (.int .i64 r180)] 111, cellCh b16 [(.int .i64 t153), (.int .i64 t154)] 87, cellCh b11 [(.int .i64 r7), (.int .i64 0), (.int .i64 0), (.bool (decide (r9 = 0)))] 25, cellCh b5 [(.int .i64 0), (.int .i64 0), (.int .i64 0), (.bool false)] 25, snapCh w0 F] (idxW ([(GSpan.mk 0 r13), (GSpan.mk 0 t154), (GSpan.mk t153 r13)]) r179 (fun e165 => k161 (r180, e165.xLo, e165.xHi))) := by
            intro r179 r180
            refine o_bld (dt 4 (fun w m => m.pick [2, 3, 4] rfl)) (qs := [(0, (.int .i64 0)), (1, (.int .i64 t154))]) (cells := [(.int .i64 0), (.int .i64 t154)]) (by intro ρ h; simp only [List.map_toArray, List.map_cons, List.map_nil, h (.const (.int .i64 0)) _ rfl, h (.tmp 43) _ rfl]) rfl bld87 rfl ?_
            refine d_one (i := 6) rfl (by kernel_rfl) (o_ldc m_op (v := (.int .i64 t153)) 1 rfl rfl rfl ty3 rfl ?_)
            refine d_and (fun w m => m.pick [2, 3, 4] rfl) ?_
            refine pk [0, 1, 2, 3, 4] rfl ?_
            refine re (E' := [(0, (.pointer (some ⟨b1, 0, none⟩))), (1, (.int .i64 n_1)), (4, (.pointer (some ⟨b5, 0, none⟩))), (5, (.pointer (some ⟨b11, 0, none⟩))), (6, (.int .i64 r13)), (7, (.pointer (some ⟨b16, 0, none⟩))), (41, (.agg #[(.int .i64 0), (.int .i64 r13)])), (47, (.int .i64 r13)), (44, (.agg #[(.int .i64 0), (.int .i64 t154)])), (51, (.int .i64 r179)), (46, (.int .i64 t153))]) ⟨rfl, rfl, rfl, rfl, rfl, rfl, rfl, rfl, rfl, rfl, rfl, trivial⟩ ?_
            exact H246 r179 r180
          have H254 : ∀ (r179 : Int) (r180 : Int), Nx 83 (gB F [cellCh b1 [v2, (.int .i64 r_0_p)] 111] w0) (feet [cellCh b1 [v2, (.int .i64 r_0_p)] 111]) w0 (wpAnyH Tryd.prog .any (opsAt Tryd.f68 [1, 1, 1, 1, 1, 0, 1, 0]) Qd (Mem (gB F [cellCh b1 [v2, (.int .i64 r_0_p)] 111] w0) (feet [cellCh b1 [v2, (.int .i64 r_0_p)] 111]) w0 [cellCh b11 [(.int .i64 r7), (.int .i64 0), (.int .i64 0), (.bool (decide (r9 = 0)))] 25, cellCh b5 [(.int .i64 0), (.int .i64 0), (.int .i64 0), (.bool false)] 25, snapCh w0 F]) 7 #[true, true, true, false, false, true, true, true, false, false, true, true, false, false, false]) [(0, (.pointer (some ⟨b1, 0, none⟩))), (1, (.int .i64 n_1)), (4, (.pointer (some ⟨b5, 0, none⟩))), (5, (.pointer (some ⟨b11, 0, none⟩))), (6, (.int .i64 r13)), (7, (.pointer (some ⟨b16, 0, none⟩))), (41, (.agg #[(.int .i64 0), (.int .i64 r13)])), (42, (.pointer (some ⟨b16, 1, none⟩))), (47, (.int .i64 r13)), (51, (.int .i64 r179)), (46, (.int .i64 t153))] [cellCh b1 [v2, (.int .i64 r180)] 111, cellCh b16 [(.int .i64 t153), (.int .i64 t154)] 87, cellCh b11 [(.int .i64 r7), (.int .i64 0), (.int .i64 0), (.bool (decide (r9 = 0)))] 25, cellCh b5 [(.int .i64 0), (.int .i64 0), (.int .i64 0), (.bool false)] 25, snapCh w0 F] (idxW ([(GSpan.mk 0 r13), (GSpan.mk 0 t154), (GSpan.mk t153 r13)]) r179 (fun e165 => k161 (r180, e165.xLo, e165.xHi))) := by
            intro r179 r180
            refine o_bld (dt 8 (fun w m => m.pick [2, 3, 4] rfl)) (qs := [(0, (.int .i64 t153)), (1, (.int .i64 r13))]) (cells := [(.int .i64 t153), (.int .i64 r13)]) (by intro ρ h; simp only [List.map_toArray, List.map_cons, List.map_nil, h (.tmp 46) _ rfl, h (.tmp 47) _ rfl]) rfl bld87 rfl ?_
            refine d_one (i := 3) rfl (by kernel_rfl) (o_ldc m_op (v := (.int .i64 t154)) 1 rfl rfl rfl ty3 rfl ?_)
            refine d_and (fun w m => m.pick [2, 3, 4] rfl) ?_
            refine pk [0, 1, 2, 3, 4] rfl ?_
            refine re (E' := [(0, (.pointer (some ⟨b1, 0, none⟩))), (1, (.int .i64 n_1)), (4, (.pointer (some ⟨b5, 0, none⟩))), (5, (.pointer (some ⟨b11, 0, none⟩))), (6, (.int .i64 r13)), (7, (.pointer (some ⟨b16, 0, none⟩))), (41, (.agg #[(.int .i64 0), (.int .i64 r13)])), (48, (.agg #[(.int .i64 t153), (.int .i64 r13)])), (51, (.int .i64 r179)), (43, (.int .i64 t154))]) ⟨rfl, rfl, rfl, rfl, rfl, rfl, rfl, rfl, rfl, rfl, trivial⟩ ?_
            exact H250 r179 r180
          have H255 : ∀ (r179 : Int) (r180 : Int), Nx 83 (gB F [cellCh b1 [v2, (.int .i64 r_0_p)] 111] w0) (feet [cellCh b1 [v2, (.int .i64 r_0_p)] 111]) w0 (wpAnyH Tryd.prog .any (opsAt Tryd.f68 [1, 1, 1, 1, 1, 0, 1, 0]) Qd (Mem (gB F [cellCh b1 [v2, (.int .i64 r_0_p)] 111] w0) (feet [cellCh b1 [v2, (.int .i64 r_0_p)] 111]) w0 [cellCh b11 [(.int .i64 r7), (.int .i64 0), (.int .i64 0), (.bool (decide (r9 = 0)))] 25, cellCh b5 [(.int .i64 0), (.int .i64 0), (.int .i64 0), (.bool false)] 25, snapCh w0 F]) 8 #[true, true, true, false, false, true, false, true, false, false, true, true, false, false, false]) [(0, (.pointer (some ⟨b1, 0, none⟩))), (1, (.int .i64 n_1)), (4, (.pointer (some ⟨b5, 0, none⟩))), (5, (.pointer (some ⟨b11, 0, none⟩))), (6, (.int .i64 r13)), (7, (.pointer (some ⟨b16, 0, none⟩))), (41, (.agg #[(.int .i64 0), (.int .i64 r13)])), (42, (.pointer (some ⟨b16, 1, none⟩))), (45, (.pointer (some ⟨b16, 0, none⟩))), (47, (.int .i64 r13)), (51, (.int .i64 r179))] [cellCh b1 [v2, (.int .i64 r180)] 111, cellCh b16 [(.int .i64 t153), (.int .i64 t154)] 87, cellCh b11 [(.int .i64 r7), (.int .i64 0), (.int .i64 0), (.bool (decide (r9 = 0)))] 25, cellCh b5 [(.int .i64 0), (.int .i64 0), (.int .i64 0), (.bool false)] 25, snapCh w0 F] (idxW ([(GSpan.mk 0 r13), (GSpan.mk 0 t154), (GSpan.mk t153 r13)]) r179 (fun e165 => k161 (r180, e165.xLo, e165.xHi))) := by
            intro r179 r180
            refine d_two (i := 3) (j := 6) rfl rfl (by kernel_rfl) ?_ ?_
            · intro o ho; cases ho
              refine o_ldc m_op (v := (.int .i64 t154)) 1 rfl rfl rfl ty3 rfl ?_
              refine d_and (fun w m => m.pick [2, 3, 4] rfl) ?_
              refine pk [0, 1, 2, 3, 4] rfl ?_
              refine re (E' := [(0, (.pointer (some ⟨b1, 0, none⟩))), (1, (.int .i64 n_1)), (4, (.pointer (some ⟨b5, 0, none⟩))), (5, (.pointer (some ⟨b11, 0, none⟩))), (6, (.int .i64 r13)), (7, (.pointer (some ⟨b16, 0, none⟩))), (41, (.agg #[(.int .i64 0), (.int .i64 r13)])), (45, (.pointer (some ⟨b16, 0, none⟩))), (47, (.int .i64 r13)), (51, (.int .i64 r179)), (43, (.int .i64 t154))]) ⟨rfl, rfl, rfl, rfl, rfl, rfl, rfl, rfl, rfl, rfl, rfl, trivial⟩ ?_
              exact H253 r179 r180
            · intro o ho; cases ho
              refine o_ldc m_op (v := (.int .i64 t153)) 1 rfl rfl rfl ty3 rfl ?_
              refine d_and (fun w m => m.pick [2, 3, 4] rfl) ?_
              refine pk [0, 1, 2, 3, 4] rfl ?_
              refine re (E' := [(0, (.pointer (some ⟨b1, 0, none⟩))), (1, (.int .i64 n_1)), (4, (.pointer (some ⟨b5, 0, none⟩))), (5, (.pointer (some ⟨b11, 0, none⟩))), (6, (.int .i64 r13)), (7, (.pointer (some ⟨b16, 0, none⟩))), (41, (.agg #[(.int .i64 0), (.int .i64 r13)])), (42, (.pointer (some ⟨b16, 1, none⟩))), (47, (.int .i64 r13)), (51, (.int .i64 r179)), (46, (.int .i64 t153))]) ⟨rfl, rfl, rfl, rfl, rfl, rfl, rfl, rfl, rfl, rfl, rfl, trivial⟩ ?_
              exact H254 r179 r180
          refine o_mv (dt 0 (fun w m => m.pick [2, 3, 4] rfl)) rfl rfl ?_
          refine o_bld (dt 1 (fun w m => m.pick [2, 3, 4] rfl)) (qs := [(0, (.int .i64 0)), (1, (.int .i64 r13))]) (cells := [(.int .i64 0), (.int .i64 r13)]) (by intro ρ h; simp only [List.map_toArray, List.map_cons, List.map_nil, h (.const (.int .i64 0)) _ rfl, h (.tmp 40) _ rfl]) rfl bld87 rfl ?_
          refine o_fad (dt 2 (fun w m => m.pick [2, 3, 4] rfl)) rfl rfl fld87_1 rfl ?_
          refine o_fad (dt 5 (fun w m => m.pick [2, 3, 4] rfl)) rfl rfl fld87_0 rfl ?_
          refine o_mv (dt 7 (fun w m => m.pick [2, 3, 4] rfl)) rfl rfl ?_
          refine o_mv (dt 10 (fun w m => m.pick [2, 3, 4] rfl)) rfl rfl ?_
          refine d_three (i := 3) (j := 6) (l := 11) rfl rfl rfl (by kernel_rfl) ?_ ?_ ?_
          · intro o ho; cases ho
            refine o_ldc m_op (v := (.int .i64 t154)) 1 rfl rfl rfl ty3 rfl ?_
            refine d_and (fun w m => m.pick [2, 3, 4] rfl) ?_
            refine pk [0, 1, 2, 3, 4] rfl ?_
            refine re (E' := [(0, (.pointer (some ⟨b1, 0, none⟩))), (1, (.int .i64 n_1)), (4, (.pointer (some ⟨b5, 0, none⟩))), (5, (.pointer (some ⟨b11, 0, none⟩))), (6, (.int .i64 r13)), (7, (.pointer (some ⟨b16, 0, none⟩))), (41, (.agg #[(.int .i64 0), (.int .i64 r13)])), (45, (.pointer (some ⟨b16, 0, none⟩))), (47, (.int .i64 r13)), (50, (.pointer (some ⟨b1, 0, none⟩))), (43, (.int .i64 t154))]) ⟨rfl, rfl, rfl, rfl, rfl, rfl, rfl, rfl, rfl, rfl, rfl, trivial⟩ ?_
            exact H248 ()
          · intro o ho; cases ho
            refine o_ldc m_op (v := (.int .i64 t153)) 1 rfl rfl rfl ty3 rfl ?_
            refine d_and (fun w m => m.pick [2, 3, 4] rfl) ?_
            refine pk [0, 1, 2, 3, 4] rfl ?_
            refine re (E' := [(0, (.pointer (some ⟨b1, 0, none⟩))), (1, (.int .i64 n_1)), (4, (.pointer (some ⟨b5, 0, none⟩))), (5, (.pointer (some ⟨b11, 0, none⟩))), (6, (.int .i64 r13)), (7, (.pointer (some ⟨b16, 0, none⟩))), (41, (.agg #[(.int .i64 0), (.int .i64 r13)])), (42, (.pointer (some ⟨b16, 1, none⟩))), (47, (.int .i64 r13)), (50, (.pointer (some ⟨b1, 0, none⟩))), (46, (.int .i64 t153))]) ⟨rfl, rfl, rfl, rfl, rfl, rfl, rfl, rfl, rfl, rfl, rfl, trivial⟩ ?_
            exact H252 ()
          · intro o ho; cases ho
            refine o_call (vs := [(.pointer (some ⟨b1, 0, none⟩)), (.int .i64 3)]) (M0 := [cellCh b1 [v2, (.int .i64 r157)] 111]) Tryd.call65 rfl rfl (by intro w m h; exact (w_spec_l20Rd_pick (F := allB [cellCh b1 [v2, (.int .i64 r157)] 111] w) (r_0_b := r_0_b) (r_0_p := r157) (n_1 := 3) allB_ok m.given (m.rdM 3 rfl (reads_snap hv2)) h).mono (fun _ _ k => ret_free (fun r u => (fr_cons free_cell fr_nil)) k)) ?_; rintro ⟨r179, r180⟩ _
            refine d_and (fun w m => m.pick [2, 3, 4] rfl) ?_
            refine pk [0, 1, 2, 3, 4] rfl ?_
            refine re (E' := [(0, (.pointer (some ⟨b1, 0, none⟩))), (1, (.int .i64 n_1)), (4, (.pointer (some ⟨b5, 0, none⟩))), (5, (.pointer (some ⟨b11, 0, none⟩))), (6, (.int .i64 r13)), (7, (.pointer (some ⟨b16, 0, none⟩))), (41, (.agg #[(.int .i64 0), (.int .i64 r13)])), (42, (.pointer (some ⟨b16, 1, none⟩))), (45, (.pointer (some ⟨b16, 0, none⟩))), (47, (.int .i64 r13)), (51, (.int .i64 r179))]) ⟨rfl, rfl, rfl, rfl, rfl, rfl, rfl, rfl, rfl, rfl, rfl, trivial⟩ ?_
            exact H255 r179 r180
        · rintro ⟨t158, t159, t160⟩ a w ⟨hE, hm⟩ h
          refine nx_of hE hm h ?_
          clear hE hm h
          exact l_join (t158, t159, t160) (fun a w hE hm => ⟨hE.sub ⟨rfl, rfl, rfl, rfl, rfl, rfl, trivial⟩, (hm.pick [0, 1, 2, 3, 4] rfl)⟩)
      · refine c_skip ?_
        exact l_join (r157, t153, t154) (fun a w hE hm => ⟨hE.sub ⟨rfl, rfl, rfl, rfl, rfl, rfl, trivial⟩, (hm.pick [0, 1, 2, 3, 4] rfl)⟩)
    · rintro ⟨t241, t242, t243⟩ a w ⟨hE, hm⟩ h
      refine nx_of hE hm h ?_
      clear hE hm h
      refine c_seq ?_
      refine c_region ?_
      refine o_fad st rfl rfl fld87_0 rfl ?_
      refine o_ldc st (v := (.int .i64 t242)) 1 rfl rfl rfl ty3 rfl ?_
      refine o_fad st rfl rfl fld25_1 rfl ?_
      refine stw (o_stc (cs' := [(.int .i64 r7), (.int .i64 t242), (.int .i64 0), (.bool (decide (r9 = 0)))]) 2 rfl rfl rfl ty3 rfl rfl rfl rfl ?_)
      refine c_nil ?_
      refine l_then ?_
      refine c_seq ?_
      refine c_region ?_
      refine o_fad st rfl rfl fld87_1 rfl ?_
      refine o_ldc st (v := (.int .i64 t243)) 1 rfl rfl rfl ty3 rfl ?_
      refine o_fad st rfl rfl fld25_2 rfl ?_
      refine stw (o_stc (cs' := [(.int .i64 r7), (.int .i64 t242), (.int .i64 t243), (.bool (decide (r9 = 0)))]) 2 rfl rfl rfl ty3 rfl rfl rfl rfl ?_)
      refine c_nil ?_
      refine l_then ?_
      refine c_join (σ := (Int × Int × Int × Int)) (fun ((t317, t318, t319, t320) : (Int × Int × Int × Int)) (a : Act) (w : World) => Has 83 [(4, (.pointer (some ⟨b5, 0, none⟩))), (5, (.pointer (some ⟨b11, 0, none⟩)))] a ∧ Mem (gB F [cellCh b1 [v2, (.int .i64 r_0_p)] 111] w0) (feet [cellCh b1 [v2, (.int .i64 r_0_p)] 111]) w0 [cellCh b1 [v2, (.int .i64 t317)] 111, cellCh b11 [(.int .i64 t318), (.int .i64 t319), (.int .i64 t320), (.bool (decide (r9 = 0)))] 25, cellCh b5 [(.int .i64 0), (.int .i64 0), (.int .i64 0), (.bool false)] 25, snapCh w0 F] w) ?_ ?_
      · intro k321
        refine c_seq ?_
        refine c_region ?_
        refine o_mv st rfl rfl ?_
        refine o_mv st rfl rfl ?_
        refine stw (o_call (vs := [(.pointer (some ⟨b1, 0, none⟩)), (.int .i64 n_1)]) (M0 := [cellCh b1 [v2, (.int .i64 t241)] 111]) Tryd.call64 rfl rfl (by intro w m h; exact (w_spec_l20Rd_odd (F := allB [cellCh b1 [v2, (.int .i64 t241)] 111] w) (r_0_b := r_0_b) (r_0_p := t241) (n_1 := n_1) allB_ok m.given (m.rdM 3 rfl (reads_snap hv2)) h).mono (fun _ _ k => ret_free (fun r u => (fr_cons free_cell fr_nil)) k)) ?_); rintro ⟨r245, r246⟩ _
        refine c_nil ?_
        refine l_then ?_
        refine c_cond rfl ?_ ?_
        · refine c_seq ?_
          refine c_region ?_
          refine o_mv st rfl rfl ?_
          refine stw (o_call (vs := [(.pointer (some ⟨b1, 0, none⟩)), (.int .i64 3)]) (M0 := [cellCh b1 [v2, (.int .i64 r246)] 111]) Tryd.call65 rfl rfl (by intro w m h; exact (w_spec_l20Rd_pick (F := allB [cellCh b1 [v2, (.int .i64 r246)] 111] w) (r_0_b := r_0_b) (r_0_p := r246) (n_1 := 3) allB_ok m.given (m.rdM 3 rfl (reads_snap hv2)) h).mono (fun _ _ k => ret_free (fun r u => (fr_cons free_cell fr_nil)) k)) ?_); rintro ⟨r247, r248⟩ _
          refine c_nil ?_
          refine l_then ?_
          refine c_block ?_
          refine c_seq ?_
          refine c_region ?_
          refine o_eql st und3 rfl rfl rfl ?_
          refine o_as st rfl rfl ?_
          refine c_nil ?_
          refine l_then ?_
          refine c_cond rfl ?_ ?_
          · refine c_region ?_
            refine stw (o_bsl (enc := encInt) (qs := [(0, (.int .i64 (-1))), (1, (.int .i64 4))]) (cells := [(.int .i64 (-1)), (.int .i64 4)]) ([(-1), 4]) flelInt (by intro ρ h; simp only [List.map_toArray, List.map_cons, List.map_nil, h (.const (.int .i64 (-1))) _ rfl, h (.const (.int .i64 4)) _ rfl]) rfl el103 zero3 rfl rfl rfl rfl rfl rfl ?_); intro v249
            refine o_mv st rfl rfl ?_
            refine pk [1, 0, 2, 3, 4, 5] rfl ?_
            refine stw (o_call (vs := [(.pointer (some ⟨b1, 0, none⟩)), (.int .i64 2)]) (M0 := [cellCh b1 [v2, (.int .i64 r248)] 111]) Tryd.call65 rfl rfl (by intro w m h; exact (w_spec_l20Rd_pick (F := allB [cellCh b1 [v2, (.int .i64 r248)] 111] w) (r_0_b := r_0_b) (r_0_p := r248) (n_1 := 2) allB_ok m.given (m.rdM 4 rfl (reads_snap hv2)) h).mono (fun _ _ k => ret_free (fun r u => (fr_cons free_cell fr_nil)) k)) ?_); rintro ⟨r251, r252⟩ _
            refine o_idx st 1 rfl reads_own rfl rfl rfl el103 ?_; intro e253 h254
            refine o_lds st (enc := encInt) (u := (.int .i64 e253)) 1 rfl reads_own flelInt rfl h254 rfl rfl ty3 rfl ?_
            refine o_fad st rfl rfl fld25_0 rfl ?_
            refine stw (o_stc (cs' := [(.int .i64 e253), (.int .i64 t242), (.int .i64 t243), (.bool (decide (r9 = 0)))]) 3 rfl rfl rfl ty3 rfl rfl rfl rfl ?_)
            refine c_nil ?_
            refine b_norm ?_
            exact l_join (r252, e253, t242, t243) (fun a w hE hm => ⟨hE.sub ⟨rfl, rfl, trivial⟩, (hm.pick [0, 3, 4, 5] rfl)⟩)
          · refine c_seq ?_
            refine c_region ?_
            refine o_eql st und3 rfl rfl rfl ?_
            refine o_as st rfl rfl ?_
            refine c_nil ?_
            refine l_then ?_
            refine c_cond rfl ?_ ?_
            · refine c_region ?_
              refine o_fad st rfl rfl fld25_2 rfl ?_
              refine o_ldc st (v := (.int .i64 t243)) 2 rfl rfl rfl ty3 rfl ?_
              refine o_add st rfl rfl rfl ?_; intro t255
              refine o_fad st rfl rfl fld25_1 rfl ?_
              refine stw (o_stc (cs' := [(.int .i64 r7), (.int .i64 t255), (.int .i64 t243), (.bool (decide (r9 = 0)))]) 2 rfl rfl rfl ty3 rfl rfl rfl rfl ?_)
              refine c_nil ?_
              refine b_norm ?_
              exact l_join (r248, r7, t255, t243) (fun a w hE hm => ⟨hE.sub ⟨rfl, rfl, trivial⟩, (hm.pick [0, 2, 3, 4] rfl)⟩)
            · refine c_region ?_
              refine o_mv st rfl rfl ?_
              refine o_add st rfl rfl rfl ?_; intro t256
              refine o_fad st rfl rfl fld25_2 rfl ?_
              refine stw (o_stc (cs' := [(.int .i64 r7), (.int .i64 t242), (.int .i64 t256), (.bool (decide (r9 = 0)))]) 2 rfl rfl rfl ty3 rfl rfl rfl rfl ?_)
              refine c_nil ?_
              refine b_norm ?_
              exact l_join (r248, r7, t242, t256) (fun a w hE hm => ⟨hE.sub ⟨rfl, rfl, trivial⟩, (hm.pick [0, 2, 3, 4] rfl)⟩)
        · refine c_skip ?_
          exact l_join (r246, r7, t242, t243) (fun a w hE hm => ⟨hE.sub ⟨rfl, rfl, trivial⟩, (hm.pick [0, 2, 3, 4] rfl)⟩)
      · rintro ⟨t317, t318, t319, t320⟩ a w ⟨hE, hm⟩ h
        refine nx_of hE hm h ?_
        clear hE hm h
        refine c_seq ?_
        refine c_region ?_
        refine o_ldc st (v := (.agg #[(.int .i64 t318), (.int .i64 t319), (.int .i64 t320), (.bool (decide (r9 = 0)))])) 1 rfl rfl rfl ty25 rfl ?_
        refine stw (o_stc (cs' := [(.int .i64 t318), (.int .i64 t319), (.int .i64 t320), (.bool (decide (r9 = 0)))]) 2 rfl rfl rfl ty25 rfl rfl rfl rfl ?_)
        refine c_nil ?_
        refine l_then ?_
        refine c_ret ?_
        exact l_end1 Tryd.results68 ((GTest.mk t318 t319 t320 (decide (r9 = 0))), t317) () (rv_c 2 rfl rfl ty25 rfl) (fun w m => NewCh.ofB m [0] rfl)

set_option maxRecDepth 100000 in
set_option maxHeartbeats 8000000 in
theorem w_spec_DrawTestText {w0 : World} {F : Nat → Prop} {v1 : Value} {code_0 : (List UInt8)} {κ : GTest → Prop} (hF : ∀ b, F b → b < w0.heap.size ∧ ¬ feet [] b) (hv1 : Sl elU8 F w0 v1 code_0) (h : L_spec_DrawTestText code_0 κ) :
    Calls Tryd.prog 30 #[v1] w0 (Ret [] F w0 κ (fun (r : GTest) (u : Unit) => (.agg #[(.int .i64 r.xField), (.int .i64 r.xLo), (.int .i64 r.xHi), (.bool r.xNot)])) (fun (r : GTest) (u : Unit) => [])) := by
  refine enterS (args := [v1]) [] hF (Given.nil _ _) Tryd.func30 rfl Tryd.ntmps30 rfl h ?_
  clear h hF
  refine c_seq ?_
  refine c_region ?_
  refine stw (o_alloc rfl [(.int .i64 0), (.int .i64 0), (.int .i64 0), (.bool false)] zero25 ?_); intro b3
  refine c_nil ?_
  refine l_then ?_
  refine c_seq ?_
  refine c_region ?_
  refine o_mv st rfl rfl ?_
  refine stw (o_callP (vs := [v1]) Tryd.call60 rfl rfl (by intro w m h; exact w_spec_l20Open (code_0 := code_0) fz_ok0 (m.roS 1 rfl hv1) h) ?_); rintro ⟨r7, r10⟩ ⟨b5, v8⟩
  refine stw (o_call (vs := [(.pointer (some ⟨b5, 0, none⟩)), (.int .i64 6)]) (M0 := [cellCh b5 [v8, (.int .i64 r10)] 111]) Tryd.call68 rfl rfl (by intro w m h; exact (w_spec_l20Test (F := allB [cellCh b5 [v8, (.int .i64 r10)] 111] w) (r_0_b := r7) (r_0_p := r10) (n_1 := 6) allB_ok m.given (m.rdM 0 rfl reads_ro) h).mono (fun _ _ k => ret_free (fun r u => (fr_cons free_cell fr_nil)) k)) ?_); rintro ⟨r11, r12⟩ _
  refine stw (o_stc (cs' := [(.int .i64 r11.xField), (.int .i64 r11.xLo), (.int .i64 r11.xHi), (.bool r11.xNot)]) 2 rfl rfl rfl ty25 rfl rfl rfl rfl ?_)
  refine c_nil ?_
  refine l_then ?_
  refine c_ret ?_
  exact l_end1 Tryd.results30 r11 () (rv_c 2 rfl rfl ty25 rfl) (fun _ _ => NewCh.nil _ _ _ _)

set_option maxRecDepth 100000 in
set_option maxHeartbeats 8000000 in
theorem w_laws_FnTestText {w0 : World} {F : Nat → Prop} {v1 : Value} {code_0 : (List UInt8)} {κ : Bool → Prop} (hF : ∀ b, F b → b < w0.heap.size ∧ ¬ feet [] b) (hv1 : Sl elU8 F w0 v1 code_0) (hgl0 : Sl elGFieldShape F w0 (.slice (some ⟨0, 0, none⟩) 4 4) gl_impl_fieldShapes) (hgl1 : Tb F w0) (h : L_laws_FnTestText code_0 κ) :
    Calls Tryd.prog 8 #[v1] w0 (Ret [] F w0 κ (fun (r : Bool) (u : Unit) => (.bool r)) (fun (r : Bool) (u : Unit) => [])) := by
  refine enterS (args := [v1]) [] hF (Given.nil _ _) Tryd.func8 rfl Tryd.ntmps8 rfl h ?_
  clear h hF
  refine c_seq ?_
  refine c_region ?_
  refine o_as st rfl rfl ?_
  refine c_nil ?_
  refine l_then ?_
  refine c_seq ?_
  refine c_seq ?_
  refine c_region ?_
  refine o_mv st rfl rfl ?_
  refine o_len st el34 0 rfl (reads_snap hv1) rfl rfl ?_
  refine o_gtr st rfl rfl rfl ?_
  refine c_nil ?_
  refine l_then ?_
  refine c_cond rfl ?_ ?_
  · refine c_seq ?_
    refine c_region ?_
    refine o_as st rfl rfl ?_
    refine c_nil ?_
    refine l_then ?_
    refine c_ret ?_
    refine l_ret ?_
    exact l_end1 Tryd.results8 true () (rv_t rfl) (fun _ _ => NewCh.nil _ _ _ _)
  · refine c_skip ?_
    refine l_then ?_
    refine c_seq ?_
    refine c_region ?_
    refine o_mv st rfl rfl ?_
    refine stw (o_callP (vs := [v1]) Tryd.call30 rfl rfl (by intro w m h; exact (w_spec_DrawTestText (F := allB [] w) (code_0 := code_0) allB_ok (m.rd0 0 rfl (reads_snap hv1)) h).mono (fun _ _ k => ret_free (fun r u => fr_nil) k)) ?_); rintro r3 _
    refine stw (o_alloc rfl [(.int .i64 0), (.int .i64 0), (.int .i64 0), (.bool false)] zero25 ?_); intro b4
    refine stw (o_stc (cs' := [(.int .i64 r3.xField), (.int .i64 r3.xLo), (.int .i64 r3.xHi), (.bool r3.xNot)]) 0 rfl rfl rfl ty25 rfl rfl rfl rfl ?_)
    refine c_nil ?_
    refine l_then ?_
    refine c_seq ?_
    refine c_region ?_
    refine o_ldc st (v := (.agg #[(.int .i64 r3.xField), (.int .i64 r3.xLo), (.int .i64 r3.xHi), (.bool r3.xNot)])) 0 rfl rfl rfl ty25 rfl ?_
    refine stw (o_callP (vs := [(.agg #[(.int .i64 r3.xField), (.int .i64 r3.xLo), (.int .i64 r3.xHi), (.bool r3.xNot)])]) Tryd.call17 rfl rfl (by intro w m h; exact (w_impl_TestText (F := allB [] w) (t_0 := r3) allB_ok (m.rd0 1 rfl (reads_snap hgl0)) ((hgl1.of (m.get (i := 1) rfl)).mono fz_ok0) h).mono (fun _ _ k => ret_free (fun r u => fr_nil) k)) ?_); rintro r6 _
    refine o_as st rfl rfl ?_
    refine c_nil ?_
    refine l_then ?_
    refine c_seq ?_
    refine c_seq ?_
    refine c_region ?_
    refine o_mv st rfl rfl ?_
    refine o_ldc st (v := (.agg #[(.int .i64 r3.xField), (.int .i64 r3.xLo), (.int .i64 r3.xHi), (.bool r3.xNot)])) 0 rfl rfl rfl ty25 rfl ?_
    refine stw (o_callP (vs := [(.agg #[(.int .i64 r3.xField), (.int .i64 r3.xLo), (.int .i64 r3.xHi), (.bool r3.xNot)])]) Tryd.call15 rfl rfl (by intro w m h; exact (w_spec_TestText (F := allB [] w) (t_0 := r3) allB_ok h).mono (fun _ _ k => ret_free (fun r u => fr_nil) k)) ?_); rintro r7 _
    refine o_neqS st und9 rfl rfl rfl ?_
    refine c_nil ?_
    refine l_then ?_
    refine c_cond rfl ?_ ?_
    · refine c_seq ?_
      refine c_region ?_
      refine o_as st rfl rfl ?_
      refine c_nil ?_
      refine l_then ?_
      refine c_ret ?_
      refine l_ret ?_
      exact l_end1 Tryd.results8 false () (rv_t rfl) (fun _ _ => NewCh.nil _ _ _ _)
    · refine c_skip ?_
      refine l_then ?_
      refine c_seq ?_
      refine c_seq ?_
      refine c_region ?_
      refine o_ldc st (v := (.agg #[(.int .i64 r3.xField), (.int .i64 r3.xLo), (.int .i64 r3.xHi), (.bool r3.xNot)])) 0 rfl rfl rfl ty25 rfl ?_
      refine stw (o_callP (vs := [(.agg #[(.int .i64 r3.xField), (.int .i64 r3.xLo), (.int .i64 r3.xHi), (.bool r3.xNot)])]) Tryd.call31 rfl rfl (by intro w m h; exact (w_spec_TestValid (F := allB [] w) (t_0 := r3) allB_ok h).mono (fun _ _ k => ret_free (fun r u => fr_nil) k)) ?_); rintro r8 _
      refine o_not st rfl rfl ?_
      refine c_nil ?_
      refine l_then ?_
      refine c_cond rfl ?_ ?_
      · refine c_join (σ := Bool) (fun (t70 : Bool) (a : Act) (w : World) => Has 67 [(2, (.bool t70))] a ∧ Mem (gB F [] w0) (feet []) w0 [snapCh w0 F] w) ?_ ?_
        · intro k71
          refine c_region ?_
          refine o_mv st rfl rfl ?_
          refine o_eqlS st und9 rfl rfl rfl ?_
          refine o_mv st rfl rfl ?_
          refine st_sp (dj := 25) rfl ?_ ?_
          · refine st_gw rfl rfl (o_callP (vs := []) Tryd.call25 rfl rfl (by intro w m h; exact (w_laws_alive (F := allB [] w) allB_ok h).mono (fun _ _ k => ret_free (fun r u => fr_nil) k)) ?_); rintro r9 _
            refine o_pickT st rfl rfl rfl ?_
            refine o_as st rfl rfl ?_
            refine c_nil ?_
            exact l_join r9 (fun a w hE hm => ⟨hE.sub ⟨rfl, trivial⟩, (hm.pick [1] rfl)⟩)
          · refine st_s rfl rfl rfl rfl ?_
            refine o_pickF st rfl rfl rfl ?_
            refine o_as st rfl rfl ?_
            refine c_nil ?_
            exact l_join false (fun a w hE hm => ⟨hE.sub ⟨rfl, trivial⟩, (hm.pick [1] rfl)⟩)
        · rintro t70 a w ⟨hE, hm⟩ h
          refine nx_of hE hm h ?_
          clear hE hm h
          refine c_ret ?_
          refine l_ret ?_
          exact l_end1 Tryd.results8 t70 () (rv_t rfl) (fun _ _ => NewCh.nil _ _ _ _)
      · refine c_skip ?_
        refine l_then ?_
        refine c_seq ?_
        refine c_region ?_
        refine o_mv st rfl rfl ?_
        refine stw (o_callP (vs := [(.string r6)]) Tryd.call28 rfl rfl (by intro w m h; exact (w_impl_ReadTest (F := allB [] w) (s_0 := r6) allB_ok (m.rd0 1 rfl (reads_snap hgl0)) ((hgl1.of (m.get (i := 1) rfl)).mono fz_ok0) h).mono (fun _ _ k => ret_free (fun r u => fr_nil) k)) ?_); rintro ⟨r72, r73⟩ _
        refine o_mv st rfl rfl ?_
        refine o_ext st (vs := [(.agg #[(.int .i64 r72.xField), (.int .i64 r72.xLo), (.int .i64 r72.xHi), (.bool r72.xNot)]), (.bool r73)]) rfl rfl rfl ?_
        refine o_ext st (vs := [(.agg #[(.int .i64 r72.xField), (.int .i64 r72.xLo), (.int .i64 r72.xHi), (.bool r72.xNot)]), (.bool r73)]) rfl rfl rfl ?_
        refine stw (o_alloc rfl [(.int .i64 0), (.int .i64 0), (.int .i64 0), (.bool false)] zero25 ?_); intro b74
        refine stw (o_stc (cs' := [(.int .i64 r72.xField), (.int .i64 r72.xLo), (.int .i64 r72.xHi), (.bool r72.xNot)]) 0 rfl rfl rfl ty25 rfl rfl rfl rfl ?_)
        refine o_as st rfl rfl ?_
        refine c_nil ?_
        refine l_then ?_
        refine c_seq ?_
        refine c_region ?_
        refine o_ldc st (v := (.agg #[(.int .i64 r3.xField), (.int .i64 r3.xLo), (.int .i64 r3.xHi), (.bool r3.xNot)])) 1 rfl rfl rfl ty25 rfl ?_
        refine stw (o_alloc rfl [(.int .i64 0), (.int .i64 0), (.int .i64 0), (.bool false)] zero25 ?_); intro b76
        refine stw (o_stc (cs' := [(.int .i64 r3.xField), (.int .i64 r3.xLo), (.int .i64 r3.xHi), (.bool r3.xNot)]) 0 rfl rfl rfl ty25 rfl rfl rfl rfl ?_)
        refine c_nil ?_
        refine l_then ?_
        refine c_seq ?_
        refine c_region ?_
        refine o_fad st rfl rfl fld25_3 rfl ?_
        refine o_ldc st (v := (.bool r3.xNot)) 2 rfl rfl rfl ty4 rfl ?_
        refine o_not st rfl rfl ?_
        refine o_fad st rfl rfl fld25_3 rfl ?_
        refine stw (o_stc (cs' := [(.int .i64 r3.xField), (.int .i64 r3.xLo), (.int .i64 r3.xHi), (.bool (!r3.xNot))]) 0 rfl rfl rfl ty4 rfl rfl rfl rfl ?_)
        refine c_nil ?_
        refine l_then ?_
        refine c_seq ?_
        refine c_region ?_
        refine o_ldc st (v := (.agg #[(.int .i64 r3.xField), (.int .i64 r3.xLo), (.int .i64 r3.xHi), (.bool (!r3.xNot))])) 0 rfl rfl rfl ty25 rfl ?_
        refine stw (o_callP (vs := [(.agg #[(.int .i64 r3.xField), (.int .i64 r3.xLo), (.int .i64 r3.xHi), (.bool (!r3.xNot))])]) Tryd.call17 rfl rfl (by intro w m h; exact (w_impl_TestText (F := allB [] w) (t_0 := (GTest.mk r3.xField r3.xLo r3.xHi (!r3.xNot))) allB_ok (m.rd0 3 rfl (reads_snap hgl0)) ((hgl1.of (m.get (i := 3) rfl)).mono fz_ok0) h).mono (fun _ _ k => ret_free (fun r u => fr_nil) k)) ?_); rintro r78 _
        refine o_as st rfl rfl ?_
        refine c_nil ?_
        refine l_then ?_
        refine c_join (σ := Bool) (fun (t142 : Bool) (a : Act) (w : World) => Has 67 [(2, (.bool t142))] a ∧ Mem (gB F [] w0) (feet []) w0 [snapCh w0 F] w) ?_ ?_
        · intro k143
          refine c_region ?_
          refine o_mv st rfl rfl ?_
          refine o_mv st rfl rfl ?_
          refine st_sp (dj := 41) rfl ?_ ?_
          · refine o_ldc (st_g rfl rfl) (v := (.agg #[(.int .i64 r72.xField), (.int .i64 r72.xLo), (.int .i64 r72.xHi), (.bool r72.xNot)])) 1 rfl rfl rfl ty25 rfl ?_
            refine o_ldc (st_g rfl rfl) (v := (.agg #[(.int .i64 r3.xField), (.int .i64 r3.xLo), (.int .i64 r3.xHi), (.bool r3.xNot)])) 2 rfl rfl rfl ty25 rfl ?_
            refine o_bin (st_g rfl rfl) (.bool (decide (r72 = r3))) rfl rfl rfl (eqls25 _ _ r72.xField r72.xLo r72.xHi r72.xNot r3.xField r3.xLo r3.xHi r3.xNot) ?_
            refine o_pickT st rfl rfl rfl ?_
            refine o_mv st rfl rfl ?_
            refine st_sp (dj := 46) rfl ?_ ?_
            · refine o_fad (st_g rfl rfl) rfl rfl fld25_3 rfl ?_
              refine o_ldc (st_g rfl rfl) (v := (.bool r3.xNot)) 2 rfl rfl rfl ty4 rfl ?_
              refine o_mv (st_g rfl rfl) rfl rfl ?_
              refine st_sp (dj := 49) rfl ?_ ?_
              · refine o_mv (st_g rfl rfl) rfl rfl ?_
                refine o_mv (st_g rfl rfl) rfl rfl ?_
                refine o_cat (st_g rfl rfl) rfl rfl rfl ?_; intro s79
                refine o_eqlS (st_g rfl rfl) und9 rfl rfl rfl ?_
                refine o_pickT (st_g rfl rfl) rfl rfl rfl ?_
                refine o_mv (st_g rfl rfl) rfl rfl ?_
                refine st_sp (dj := 55) rfl ?_ ?_
                · refine st_s rfl rfl rfl rfl ?_
                  refine st_s rfl rfl rfl rfl ?_
                  refine st_s rfl rfl rfl rfl ?_
                  refine st_s rfl rfl rfl rfl ?_
                  refine st_s rfl rfl rfl rfl ?_
                  refine st_s rfl rfl rfl rfl ?_
                  refine st_s rfl rfl rfl rfl ?_
                  refine st_s rfl rfl rfl rfl ?_
                  refine st_s rfl rfl rfl rfl ?_
                  refine o_pickT (st_g rfl rfl) rfl rfl rfl ?_
                  refine o_pickT st rfl rfl rfl ?_
                  refine o_as st rfl rfl ?_
                  refine c_nil ?_
                  exact l_join true (fun a w hE hm => ⟨hE.sub ⟨rfl, trivial⟩, (hm.pick [3] rfl)⟩)
                · refine o_fad (st_g rfl rfl) rfl rfl fld25_3 rfl ?_
                  refine o_ldc (st_g rfl rfl) (v := (.bool r3.xNot)) 2 rfl rfl rfl ty4 rfl ?_
                  refine o_not (st_g rfl rfl) rfl rfl ?_
                  refine o_mv (st_g rfl rfl) rfl rfl ?_
                  refine st_sp (dj := 59) rfl ?_ ?_
                  · refine o_mv (st_g rfl rfl) rfl rfl ?_
                    refine o_mv (st_g rfl rfl) rfl rfl ?_
                    refine o_cat (st_g rfl rfl) rfl rfl rfl ?_; intro s80
                    refine o_eqlS (st_g rfl rfl) und9 rfl rfl rfl ?_
                    refine o_pickT (st_g rfl rfl) rfl rfl rfl ?_
                    refine o_pickF (st_g rfl rfl) rfl rfl rfl ?_
                    refine o_pickT st rfl rfl rfl ?_
                    refine o_as st rfl rfl ?_
                    refine c_nil ?_
                    exact l_join (decide (r78 = s80)) (fun a w hE hm => ⟨hE.sub ⟨rfl, trivial⟩, (hm.pick [3] rfl)⟩)
                  · refine st_s rfl rfl rfl rfl ?_
                    refine st_s rfl rfl rfl rfl ?_
                    refine st_s rfl rfl rfl rfl ?_
                    refine st_s rfl rfl rfl rfl ?_
                    refine o_pickF (st_g rfl rfl) rfl rfl rfl ?_
                    refine o_pickF (st_g rfl rfl) rfl rfl rfl ?_
                    refine o_pickT st rfl rfl rfl ?_
                    refine o_as st rfl rfl ?_
                    refine c_nil ?_
                    exact l_join false (fun a w hE hm => ⟨hE.sub ⟨rfl, trivial⟩, (hm.pick [3] rfl)⟩)
              · refine st_s rfl rfl rfl rfl ?_
                refine st_s rfl rfl rfl rfl ?_
                refine st_s rfl rfl rfl rfl ?_
                refine st_s rfl rfl rfl rfl ?_
                refine o_pickF (st_g rfl rfl) rfl rfl rfl ?_
                refine o_mv (st_g rfl rfl) rfl rfl ?_
                refine o_fad (st_g rfl rfl) rfl rfl fld25_3 rfl ?_
                refine o_ldc (st_g rfl rfl) (v := (.bool r3.xNot)) 2 rfl rfl rfl ty4 rfl ?_
                refine o_not (st_g rfl rfl) rfl rfl ?_
                refine o_mv (st_g rfl rfl) rfl rfl ?_
                refine st_sp (dj := 59) rfl ?_ ?_
                · refine o_mv (st_g rfl rfl) rfl rfl ?_
                  refine o_mv (st_g rfl rfl) rfl rfl ?_
                  refine o_cat (st_g rfl rfl) rfl rfl rfl ?_; intro s81
                  refine o_eqlS (st_g rfl rfl) und9 rfl rfl rfl ?_
                  refine o_pickT (st_g rfl rfl) rfl rfl rfl ?_
                  refine o_pickF (st_g rfl rfl) rfl rfl rfl ?_
                  refine o_pickT st rfl rfl rfl ?_
                  refine o_as st rfl rfl ?_
                  refine c_nil ?_
                  exact l_join (decide (r78 = s81)) (fun a w hE hm => ⟨hE.sub ⟨rfl, trivial⟩, (hm.pick [3] rfl)⟩)
                · refine st_s rfl rfl rfl rfl ?_
                  refine st_s rfl rfl rfl rfl ?_
                  refine st_s rfl rfl rfl rfl ?_
                  refine st_s rfl rfl rfl rfl ?_
                  refine o_pickF (st_g rfl rfl) rfl rfl rfl ?_
                  refine o_pickF (st_g rfl rfl) rfl rfl rfl ?_
                  refine o_pickT st rfl rfl rfl ?_
                  refine o_as st rfl rfl ?_
                  refine c_nil ?_
                  exact l_join false (fun a w hE hm => ⟨hE.sub ⟨rfl, trivial⟩, (hm.pick [3] rfl)⟩)
            · refine st_s rfl rfl rfl rfl ?_
              refine st_s rfl rfl rfl rfl ?_
              refine st_s rfl rfl rfl rfl ?_
              refine st_s rfl rfl rfl rfl ?_
              refine st_s rfl rfl rfl rfl ?_
              refine st_s rfl rfl rfl rfl ?_
              refine st_s rfl rfl rfl rfl ?_
              refine st_s rfl rfl rfl rfl ?_
              refine st_s rfl rfl rfl rfl ?_
              refine st_s rfl rfl rfl rfl ?_
              refine st_s rfl rfl rfl rfl ?_
              refine st_s rfl rfl rfl rfl ?_
              refine st_s rfl rfl rfl rfl ?_
              refine st_s rfl rfl rfl rfl ?_
              refine st_s rfl rfl rfl rfl ?_
              refine st_s rfl rfl rfl rfl ?_
              refine st_s rfl rfl rfl rfl ?_
              refine st_s rfl rfl rfl rfl ?_
              refine st_s rfl rfl rfl rfl ?_
              refine o_pickF st rfl rfl rfl ?_
              refine o_as st rfl rfl ?_
              refine c_nil ?_
              exact l_join false (fun a w hE hm => ⟨hE.sub ⟨rfl, trivial⟩, (hm.pick [3] rfl)⟩)
          · refine st_s rfl rfl rfl rfl ?_
            refine st_s rfl rfl rfl rfl ?_
            refine st_s rfl rfl rfl rfl ?_
            refine o_pickF st rfl rfl rfl ?_
            refine o_mv st rfl rfl ?_
            refine st_s rfl rfl rfl rfl ?_
            refine st_s rfl rfl rfl rfl ?_
            refine st_s rfl rfl rfl rfl ?_
            refine st_s rfl rfl rfl rfl ?_
            refine st_s rfl rfl rfl rfl ?_
            refine st_s rfl rfl rfl rfl ?_
            refine st_s rfl rfl rfl rfl ?_
            refine st_s rfl rfl rfl rfl ?_
            refine st_s rfl rfl rfl rfl ?_
            refine st_s rfl rfl rfl rfl ?_
            refine st_s rfl rfl rfl rfl ?_
            refine st_s rfl rfl rfl rfl ?_
            refine st_s rfl rfl rfl rfl ?_
            refine st_s rfl rfl rfl rfl ?_
            refine st_s rfl rfl rfl rfl ?_
            refine st_s rfl rfl rfl rfl ?_
            refine st_s rfl rfl rfl rfl ?_
            refine st_s rfl rfl rfl rfl ?_
            refine st_s rfl rfl rfl rfl ?_
            refine o_pickF st rfl rfl rfl ?_
            refine o_as st rfl rfl ?_
            refine c_nil ?_
            exact l_join false (fun a w hE hm => ⟨hE.sub ⟨rfl, trivial⟩, (hm.pick [3] rfl)⟩)
        · rintro t142 a w ⟨hE, hm⟩ h
          refine nx_of hE hm h ?_
          clear hE hm h
          refine c_ret ?_
          exact l_end1 Tryd.results8 t142 () (rv_t rfl) (fun _ _ => NewCh.nil _ _ _ _)

set_option maxRecDepth 100000 in
set_option maxHeartbeats 8000000 in
theorem w_laws_szTestS {w0 : World} {F : Nat → Prop} {v1 : Value} {a_0 : (List GTest)} {left_1 : Int} {κ : Int → Prop} (hF : ∀ b, F b → b < w0.heap.size ∧ ¬ feet [] b) (hv1 : Sl elGTest F w0 v1 a_0) (h : L_laws_szTestS a_0 left_1 κ) :
    Calls Tryd.prog 70 #[v1, (.int .i64 left_1)] w0 (Ret [] F w0 κ (fun (r : Int) (u : Unit) => (.int .i64 r)) (fun (r : Int) (u : Unit) => [])) := by
  refine enterS (args := [v1, (.int .i64 left_1)]) [] hF (Given.nil _ _) Tryd.func70 rfl Tryd.ntmps70 rfl h ?_
  clear h hF
  refine c_seq ?_
  refine c_region ?_
  refine o_as st rfl rfl ?_
  refine c_nil ?_
  refine l_then ?_
  refine c_seq ?_
  refine c_region ?_
  refine o_mv st rfl rfl ?_
  refine o_mv st rfl rfl ?_
  refine o_len st el46 0 rfl (reads_snap hv1) rfl rfl ?_
  refine o_sub st rfl rfl rfl ?_; intro t3
  refine o_as st rfl rfl ?_
  refine c_nil ?_
  refine l_then ?_
  refine c_seq ?_
  refine c_seq ?_
  refine c_region ?_
  refine o_mv st rfl rfl ?_
  refine o_lss st rfl rfl rfl ?_
  refine c_nil ?_
  refine l_then ?_
  refine c_cond rfl ?_ ?_
  · refine c_seq ?_
    refine c_region ?_
    refine o_as st rfl rfl ?_
    refine c_nil ?_
    refine l_then ?_
    refine c_ret ?_
    refine l_ret ?_
    exact l_end1 Tryd.results70 (-1) () (rv_t rfl) (fun _ _ => NewCh.nil _ _ _ _)
  · refine c_skip ?_
    refine l_then ?_
    refine c_seq ?_
    refine c_region ?_
    refine o_mv st rfl rfl ?_
    refine o_as st rfl rfl ?_
    refine c_nil ?_
    refine l_then ?_
    refine c_ret ?_
    exact l_end1 Tryd.results70 t3 () (rv_t rfl) (fun _ _ => NewCh.nil _ _ _ _)

set_option maxRecDepth 100000 in
set_option maxHeartbeats 8000000 in
theorem w_laws_szRule {w0 : World} {F : Nat → Prop} {v1 : Value} {a_0 : GRule} {left_1 : Int} {κ : Int → Prop} (hF : ∀ b, F b → b < w0.heap.size ∧ ¬ feet [] b) (hv1 : Sl elGTest F w0 v1 a_0.xTests) (h : L_laws_szRule a_0 left_1 κ) :
    Calls Tryd.prog 32 #[(.agg #[v1, (.int .i64 a_0.xAction), (.int .i64 a_0.xChain)]), (.int .i64 left_1)] w0 (Ret [] F w0 κ (fun (r : Int) (u : Unit) => (.int .i64 r)) (fun (r : Int) (u : Unit) => [])) := by
  refine enterS (args := [(.agg #[v1, (.int .i64 a_0.xAction), (.int .i64 a_0.xChain)]), (.int .i64 left_1)]) [] hF (Given.nil _ _) Tryd.func32 rfl Tryd.ntmps32 rfl h ?_
  clear h hF
  refine c_seq ?_
  refine c_region ?_
  obtain ⟨a3, l4, q5, hs_⟩ := sl_val hv1; subst hs_
  refine stw (o_box rfl rfl [(.slice a3 l4 q5), (.int .i64 a_0.xAction), (.int .i64 a_0.xChain)] rfl ?_); intro b6
  refine o_as st rfl rfl ?_
  refine c_nil ?_
  refine l_then ?_
  refine c_seq ?_
  refine c_region ?_
  refine o_fad st rfl rfl fld48_0 rfl ?_
  refine o_ldc st (v := (.slice a3 l4 q5)) 0 rfl rfl rfl ty46 rfl ?_
  refine o_mv st rfl rfl ?_
  refine stw (o_callP (vs := [(.slice a3 l4 q5), (.int .i64 left_1)]) Tryd.call70 rfl rfl (by intro w m h; exact (w_laws_szTestS (F := allB [] w) (a_0 := a_0.xTests) (left_1 := left_1) allB_ok (m.rd0 1 rfl (reads_snap hv1)) h).mono (fun _ _ k => ret_free (fun r u => fr_nil) k)) ?_); rintro r8 _
  refine o_as st rfl rfl ?_
  refine c_nil ?_
  refine l_then ?_
  refine c_seq ?_
  refine c_seq ?_
  refine c_region ?_
  refine o_mv st rfl rfl ?_
  refine o_lss st rfl rfl rfl ?_
  refine c_nil ?_
  refine l_then ?_
  refine c_cond rfl ?_ ?_
  · refine c_seq ?_
    refine c_region ?_
    refine o_as st rfl rfl ?_
    refine c_nil ?_
    refine l_then ?_
    refine c_ret ?_
    refine l_ret ?_
    exact l_end1 Tryd.results32 (-1) () (rv_t rfl) (fun _ _ => NewCh.nil _ _ _ _)
  · refine c_skip ?_
    refine l_then ?_
    refine c_seq ?_
    refine c_region ?_
    refine o_mv st rfl rfl ?_
    refine o_as st rfl rfl ?_
    refine c_nil ?_
    refine l_then ?_
    refine c_ret ?_
    exact l_end1 Tryd.results32 r8 () (rv_t rfl) (fun _ _ => NewCh.nil _ _ _ _)

set_option maxRecDepth 100000 in
set_option maxHeartbeats 8000000 in
theorem w_spec_TestsValid {w0 : World} {F : Nat → Prop} {v1 : Value} {list_0 : (List GTest)} {κ : Bool → Prop} (hF : ∀ b, F b → b < w0.heap.size ∧ ¬ feet [] b) (hv1 : Sl elGTest F w0 v1 list_0) (h : L_spec_TestsValid list_0 κ) :
    Calls Tryd.prog 76 #[v1] w0 (Ret [] F w0 κ (fun (r : Bool) (u : Unit) => (.bool r)) (fun (r : Bool) (u : Unit) => [])) := by
  refine enterS (args := [v1]) [] hF (Given.nil _ _) Tryd.func76 rfl Tryd.ntmps76 rfl h ?_
  clear h hF
  refine c_seq ?_
  refine c_region ?_
  refine o_as st rfl rfl ?_
  refine c_nil ?_
  refine l_then ?_
  refine c_seq ?_
  refine c_seq ?_
  refine c_region ?_
  refine o_as st rfl rfl ?_
  refine c_nil ?_
  refine l_then ?_
  refine c_block ?_
  refine c_loop (σ := Int) (fun (t3 : Int) (a : Act) (w : World) => Has 19 [(0, v1), (3, (.int .i64 t3))] a ∧ Mem (gB F [] w0) (feet []) w0 [snapCh w0 F] w) (fun a w hE hm => ⟨hE.sub ⟨rfl, rfl, trivial⟩, (hm.pick [0] rfl)⟩) ?_
  rintro nx4 t3 a w ⟨hE, hm⟩ h
  refine nx_of hE hm h ?_
  clear hE hm h
  refine c_seq ?_
  refine c_seq ?_
  refine c_region ?_
  refine o_mv st rfl rfl ?_
  refine o_mv st rfl rfl ?_
  refine o_len st el51 0 rfl (reads_snap hv1) rfl rfl ?_
  refine o_lss st rfl rfl rfl ?_
  refine c_nil ?_
  refine l_then ?_
  refine c_cond rfl ?_ ?_
  · refine c_skip ?_
    refine l_then ?_
    refine c_seq ?_
    refine c_block ?_
    refine c_seq ?_
    refine c_region ?_
    refine o_mv st rfl rfl ?_
    refine o_mv st rfl rfl ?_
    refine o_idx st 0 rfl (reads_snap hv1) rfl rfl rfl el51 ?_; intro e5 h6
    refine o_lds st (enc := encGTest) (u := (.agg #[(.int .i64 e5.xField), (.int .i64 e5.xLo), (.int .i64 e5.xHi), (.bool e5.xNot)])) 0 rfl (reads_snap hv1) flelGTest rfl h6 rfl rfl ty25 rfl ?_
    refine stw (o_callP (vs := [(.agg #[(.int .i64 e5.xField), (.int .i64 e5.xLo), (.int .i64 e5.xHi), (.bool e5.xNot)])]) Tryd.call31 rfl rfl (by intro w m h; exact (w_spec_TestValid (F := allB [] w) (t_0 := e5) allB_ok h).mono (fun _ _ k => ret_free (fun r u => fr_nil) k)) ?_); rintro r7 _
    refine o_not st rfl rfl ?_
    refine c_nil ?_
    refine l_then ?_
    refine c_cond rfl ?_ ?_
    · refine c_seq ?_
      refine c_region ?_
      refine o_as st rfl rfl ?_
      refine c_nil ?_
      refine l_then ?_
      refine c_ret ?_
      refine b_ret ?_
      refine l_ret ?_
      refine l_ret ?_
      refine b_ret ?_
      refine l_ret ?_
      exact l_end1 Tryd.results76 false () (rv_t rfl) (fun _ _ => NewCh.nil _ _ _ _)
    · refine c_skip ?_
      refine b_norm ?_
      refine l_then ?_
      refine c_region ?_
      refine o_mv st rfl rfl ?_
      refine o_add st rfl rfl rfl ?_; intro t8
      refine o_as st rfl rfl ?_
      refine c_nil ?_
      exact l_join t8 (fun a w hE hm => ⟨hE.sub ⟨rfl, rfl, trivial⟩, (hm.pick [0] rfl)⟩)
  · refine c_exit ?_
    refine l_exit ?_
    refine l_exit ?_
    refine b_exit ?_
    refine l_then ?_
    refine c_seq ?_
    refine c_region ?_
    refine o_mv st rfl rfl ?_
    refine o_len st el51 0 rfl (reads_snap hv1) rfl rfl ?_
    refine o_leq st rfl rfl rfl ?_
    refine o_as st rfl rfl ?_
    refine c_nil ?_
    refine l_then ?_
    refine c_ret ?_
    exact l_end1 Tryd.results76 (decide ((list_0.length : Int) ≤ 6)) () (rv_t rfl) (fun _ _ => NewCh.nil _ _ _ _)

set_option maxRecDepth 100000 in
set_option maxHeartbeats 8000000 in
theorem w_spec_RuleValid {w0 : World} {F : Nat → Prop} {v1 : Value} {r_0 : GRule} {κ : Bool → Prop} (hF : ∀ b, F b → b < w0.heap.size ∧ ¬ feet [] b) (hv1 : Sl elGTest F w0 v1 r_0.xTests) (h : L_spec_RuleValid r_0 κ) :
    Calls Tryd.prog 39 #[(.agg #[v1, (.int .i64 r_0.xAction), (.int .i64 r_0.xChain)])] w0 (Ret [] F w0 κ (fun (r : Bool) (u : Unit) => (.bool r)) (fun (r : Bool) (u : Unit) => [])) := by
  refine enterS (args := [(.agg #[v1, (.int .i64 r_0.xAction), (.int .i64 r_0.xChain)])]) [] hF (Given.nil _ _) Tryd.func39 rfl Tryd.ntmps39 rfl h ?_
  clear h hF
  refine c_seq ?_
  refine c_region ?_
  obtain ⟨a3, l4, q5, hs_⟩ := sl_val hv1; subst hs_
  refine stw (o_box rfl rfl [(.slice a3 l4 q5), (.int .i64 r_0.xAction), (.int .i64 r_0.xChain)] rfl ?_); intro b6
  refine o_as st rfl rfl ?_
  refine c_nil ?_
  refine l_then ?_
  refine c_join (σ := Bool) (fun (t71 : Bool) (a : Act) (w : World) => Has 31 [(2, (.bool t71))] a ∧ Mem (gB F [] w0) (feet []) w0 [] w) ?_ ?_
  · intro k72
    refine c_region ?_
    refine o_fad st rfl rfl fld53_0 rfl ?_
    refine o_ldc st (v := (.slice a3 l4 q5)) 0 rfl rfl rfl ty51 rfl ?_
    refine stw (o_callP (vs := [(.slice a3 l4 q5)]) Tryd.call76 rfl rfl (by intro w m h; exact (w_spec_TestsValid (F := allB [] w) (list_0 := r_0.xTests) allB_ok (m.rd0 1 rfl (reads_snap hv1)) h).mono (fun _ _ k => ret_free (fun r u => fr_nil) k)) ?_); rintro r8 _
    refine o_mv st rfl rfl ?_
    refine st_sp (dj := 6) rfl ?_ ?_
    · refine o_fad (st_g rfl rfl) rfl rfl fld53_1 rfl ?_
      refine o_ldc (st_g rfl rfl) (v := (.int .i64 r_0.xAction)) 0 rfl rfl rfl ty3 rfl ?_
      refine st_gw rfl rfl (o_callP (vs := [(.int .i64 r_0.xAction), (.int .i64 1), (.int .i64 5)]) Tryd.call62 rfl rfl (by intro w m h; exact (w_spec_l1In (F := allB [] w) (n_0 := r_0.xAction) (lo_1 := 1) (hi_2 := 5) allB_ok h).mono (fun _ _ k => ret_free (fun r u => fr_nil) k)) ?_); rintro r9 _
      refine o_pickT st rfl rfl rfl ?_
      refine o_mv st rfl rfl ?_
      refine st_sp (dj := 11) rfl ?_ ?_
      · refine o_fad (st_g rfl rfl) rfl rfl fld53_1 rfl ?_
        refine o_ldc (st_g rfl rfl) (v := (.int .i64 r_0.xAction)) 0 rfl rfl rfl ty3 rfl ?_
        refine o_eql (st_g rfl rfl) und3 rfl rfl rfl ?_
        refine o_mv (st_g rfl rfl) rfl rfl ?_
        refine st_sp (dj := 15) rfl ?_ ?_
        · refine o_fad (st_g rfl rfl) rfl rfl fld53_2 rfl ?_
          refine o_ldc (st_g rfl rfl) (v := (.int .i64 r_0.xChain)) 0 rfl rfl rfl ty3 rfl ?_
          refine st_gw rfl rfl (o_callP (vs := [(.int .i64 r_0.xChain), (.int .i64 0), (.int .i64 4)]) Tryd.call62 rfl rfl (by intro w m h; exact (w_spec_l1In (F := allB [] w) (n_0 := r_0.xChain) (lo_1 := 0) (hi_2 := 4) allB_ok h).mono (fun _ _ k => ret_free (fun r u => fr_nil) k)) ?_); rintro r10 _
          refine o_pickT (st_g rfl rfl) rfl rfl rfl ?_
          refine o_mv (st_g rfl rfl) rfl rfl ?_
          refine st_sp (dj := 20) rfl ?_ ?_
          · refine st_s rfl rfl rfl rfl ?_
            refine st_s rfl rfl rfl rfl ?_
            refine st_s rfl rfl rfl rfl ?_
            refine st_s rfl rfl rfl rfl ?_
            refine st_s rfl rfl rfl rfl ?_
            refine st_s rfl rfl rfl rfl ?_
            refine st_s rfl rfl rfl rfl ?_
            refine st_s rfl rfl rfl rfl ?_
            refine o_pickT (st_g rfl rfl) rfl rfl rfl ?_
            refine o_pickT st rfl rfl rfl ?_
            refine o_as st rfl rfl ?_
            refine c_nil ?_
            exact l_join true (fun a w hE hm => ⟨hE.sub ⟨rfl, trivial⟩, (hm.pick [] rfl)⟩)
          · refine o_fad (st_g rfl rfl) rfl rfl fld53_1 rfl ?_
            refine o_ldc (st_g rfl rfl) (v := (.int .i64 r_0.xAction)) 0 rfl rfl rfl ty3 rfl ?_
            refine o_neq (st_g rfl rfl) und3 rfl rfl rfl ?_
            refine o_mv (st_g rfl rfl) rfl rfl ?_
            refine st_sp (dj := 24) rfl ?_ ?_
            · refine o_fad (st_g rfl rfl) rfl rfl fld53_2 rfl ?_
              refine o_ldc (st_g rfl rfl) (v := (.int .i64 r_0.xChain)) 0 rfl rfl rfl ty3 rfl ?_
              refine o_eql (st_g rfl rfl) und3 rfl rfl rfl ?_
              refine o_pickT (st_g rfl rfl) rfl rfl rfl ?_
              refine o_pickF (st_g rfl rfl) rfl rfl rfl ?_
              refine o_pickT st rfl rfl rfl ?_
              refine o_as st rfl rfl ?_
              refine c_nil ?_
              exact l_join (decide (r_0.xChain = 0)) (fun a w hE hm => ⟨hE.sub ⟨rfl, trivial⟩, (hm.pick [] rfl)⟩)
            · refine st_s rfl rfl rfl rfl ?_
              refine st_s rfl rfl rfl rfl ?_
              refine st_s rfl rfl rfl rfl ?_
              refine o_pickF (st_g rfl rfl) rfl rfl rfl ?_
              refine o_pickF (st_g rfl rfl) rfl rfl rfl ?_
              refine o_pickT st rfl rfl rfl ?_
              refine o_as st rfl rfl ?_
              refine c_nil ?_
              exact l_join false (fun a w hE hm => ⟨hE.sub ⟨rfl, trivial⟩, (hm.pick [] rfl)⟩)
        · refine st_s rfl rfl rfl rfl ?_
          refine st_s rfl rfl rfl rfl ?_
          refine st_s rfl rfl rfl rfl ?_
          refine o_pickF (st_g rfl rfl) rfl rfl rfl ?_
          refine o_mv (st_g rfl rfl) rfl rfl ?_
          refine o_fad (st_g rfl rfl) rfl rfl fld53_1 rfl ?_
          refine o_ldc (st_g rfl rfl) (v := (.int .i64 r_0.xAction)) 0 rfl rfl rfl ty3 rfl ?_
          refine o_neq (st_g rfl rfl) und3 rfl rfl rfl ?_
          refine o_mv (st_g rfl rfl) rfl rfl ?_
          refine st_sp (dj := 24) rfl ?_ ?_
          · refine o_fad (st_g rfl rfl) rfl rfl fld53_2 rfl ?_
            refine o_ldc (st_g rfl rfl) (v := (.int .i64 r_0.xChain)) 0 rfl rfl rfl ty3 rfl ?_
            refine o_eql (st_g rfl rfl) und3 rfl rfl rfl ?_
            refine o_pickT (st_g rfl rfl) rfl rfl rfl ?_
            refine o_pickF (st_g rfl rfl) rfl rfl rfl ?_
            refine o_pickT st rfl rfl rfl ?_
            refine o_as st rfl rfl ?_
            refine c_nil ?_
            exact l_join (decide (r_0.xChain = 0)) (fun a w hE hm => ⟨hE.sub ⟨rfl, trivial⟩, (hm.pick [] rfl)⟩)
          · refine st_s rfl rfl rfl rfl ?_
            refine st_s rfl rfl rfl rfl ?_
            refine st_s rfl rfl rfl rfl ?_
            refine o_pickF (st_g rfl rfl) rfl rfl rfl ?_
            refine o_pickF (st_g rfl rfl) rfl rfl rfl ?_
            refine o_pickT st rfl rfl rfl ?_
            refine o_as st rfl rfl ?_
            refine c_nil ?_
            exact l_join false (fun a w hE hm => ⟨hE.sub ⟨rfl, trivial⟩, (hm.pick [] rfl)⟩)
      · refine st_s rfl rfl rfl rfl ?_
        refine st_s rfl rfl rfl rfl ?_
        refine st_s rfl rfl rfl rfl ?_
        refine st_s rfl rfl rfl rfl ?_
        refine st_s rfl rfl rfl rfl ?_
        refine st_s rfl rfl rfl rfl ?_
        refine st_s rfl rfl rfl rfl ?_
        refine st_s rfl rfl rfl rfl ?_
        refine st_s rfl rfl rfl rfl ?_
        refine st_s rfl rfl rfl rfl ?_
        refine st_s rfl rfl rfl rfl ?_
        refine st_s rfl rfl rfl rfl ?_
        refine st_s rfl rfl rfl rfl ?_
        refine st_s rfl rfl rfl rfl ?_
        refine st_s rfl rfl rfl rfl ?_
        refine st_s rfl rfl rfl rfl ?_
        refine st_s rfl rfl rfl rfl ?_
        refine st_s rfl rfl rfl rfl ?_
        refine o_pickF st rfl rfl rfl ?_
        refine o_as st rfl rfl ?_
        refine c_nil ?_
        exact l_join false (fun a w hE hm => ⟨hE.sub ⟨rfl, trivial⟩, (hm.pick [] rfl)⟩)
    · refine st_s rfl rfl rfl rfl ?_
      refine st_s rfl rfl rfl rfl ?_
      refine st_s rfl rfl rfl rfl ?_
      refine o_pickF st rfl rfl rfl ?_
      refine o_mv st rfl rfl ?_
      refine st_s rfl rfl rfl rfl ?_
      refine st_s rfl rfl rfl rfl ?_
      refine st_s rfl rfl rfl rfl ?_
      refine st_s rfl rfl rfl rfl ?_
      refine st_s rfl rfl rfl rfl ?_
      refine st_s rfl rfl rfl rfl ?_
      refine st_s rfl rfl rfl rfl ?_
      refine st_s rfl rfl rfl rfl ?_
      refine st_s rfl rfl rfl rfl ?_
      refine st_s rfl rfl rfl rfl ?_
      refine st_s rfl rfl rfl rfl ?_
      refine st_s rfl rfl rfl rfl ?_
      refine st_s rfl rfl rfl rfl ?_
      refine st_s rfl rfl rfl rfl ?_
      refine st_s rfl rfl rfl rfl ?_
      refine st_s rfl rfl rfl rfl ?_
      refine st_s rfl rfl rfl rfl ?_
      refine st_s rfl rfl rfl rfl ?_
      refine o_pickF st rfl rfl rfl ?_
      refine o_as st rfl rfl ?_
      refine c_nil ?_
      exact l_join false (fun a w hE hm => ⟨hE.sub ⟨rfl, trivial⟩, (hm.pick [] rfl)⟩)
  · rintro t71 a w ⟨hE, hm⟩ h
    refine nx_of hE hm h ?_
    clear hE hm h
    refine c_ret ?_
    exact l_end1 Tryd.results39 t71 () (rv_t rfl) (fun _ _ => NewCh.nil _ _ _ _)

set_option maxRecDepth 100000 in
set_option maxHeartbeats 8000000 in
theorem w_spec_RuleText {w0 : World} {F : Nat → Prop} {v1 : Value} {r_0 : GRule} {κ : ByteArray → Prop} (hF : ∀ b, F b → b < w0.heap.size ∧ ¬ feet [] b) (hv1 : Sl elGTest F w0 v1 r_0.xTests) (h : L_spec_RuleText r_0 κ) :
    Calls Tryd.prog 33 #[(.agg #[v1, (.int .i64 r_0.xAction), (.int .i64 r_0.xChain)])] w0 (Ret [] F w0 κ (fun (r : ByteArray) (u : Unit) => (.string r)) (fun (r : ByteArray) (u : Unit) => [])) := by
  refine enterS (args := [(.agg #[v1, (.int .i64 r_0.xAction), (.int .i64 r_0.xChain)])]) [] hF (Given.nil _ _) Tryd.func33 rfl Tryd.ntmps33 rfl h ?_
  clear h hF
  refine c_seq ?_
  refine c_region ?_
  obtain ⟨a3, l4, q5, hs_⟩ := sl_val hv1; subst hs_
  refine stw (o_box rfl rfl [(.slice a3 l4 q5), (.int .i64 r_0.xAction), (.int .i64 r_0.xChain)] rfl ?_); intro b6
  refine o_as st rfl rfl ?_
  refine c_nil ?_
  refine l_then ?_
  refine c_seq ?_
  refine c_seq ?_
  refine c_region ?_
  refine o_ldc st (v := (.agg #[(.slice a3 l4 q5), (.int .i64 r_0.xAction), (.int .i64 r_0.xChain)])) 0 rfl rfl rfl ty53 rfl ?_
  refine stw (o_callP (vs := [(.agg #[(.slice a3 l4 q5), (.int .i64 r_0.xAction), (.int .i64 r_0.xChain)])]) Tryd.call39 rfl rfl (by intro w m h; exact (w_spec_RuleValid (F := allB [] w) (r_0 := r_0) allB_ok (m.rd0 1 rfl (reads_snap hv1)) h).mono (fun _ _ k => ret_free (fun r u => fr_nil) k)) ?_); rintro r8 _
  refine o_not st rfl rfl ?_
  refine c_nil ?_
  refine l_then ?_
  refine c_cond rfl ?_ ?_
  · refine c_seq ?_
    refine c_region ?_
    refine o_as st rfl rfl ?_
    refine c_nil ?_
    refine l_then ?_
    refine c_ret ?_
    refine l_ret ?_
    exact l_end1 Tryd.results33 (ByteArray.mk #[]) () (rv_t rfl) (fun _ _ => NewCh.nil _ _ _ _)
  · refine c_skip ?_
    refine l_then ?_
    refine c_seq ?_
    refine c_region ?_
    refine stw (o_bsl (enc := encStr) (qs := [(0, (.string (ByteArray.mk #[97, 99, 99, 101, 112, 116]))), (1, (.string (ByteArray.mk #[100, 114, 111, 112]))), (2, (.string (ByteArray.mk #[99, 97, 108, 108]))), (3, (.string (ByteArray.mk #[114, 101, 116, 117, 114, 110]))), (4, (.string (ByteArray.mk #[110, 111, 110, 101])))]) (cells := [(.string (ByteArray.mk #[97, 99, 99, 101, 112, 116])), (.string (ByteArray.mk #[100, 114, 111, 112])), (.string (ByteArray.mk #[99, 97, 108, 108])), (.string (ByteArray.mk #[114, 101, 116, 117, 114, 110])), (.string (ByteArray.mk #[110, 111, 110, 101]))]) ([(ByteArray.mk #[97, 99, 99, 101, 112, 116]), (ByteArray.mk #[100, 114, 111, 112]), (ByteArray.mk #[99, 97, 108, 108]), (ByteArray.mk #[114, 101, 116, 117, 114, 110]), (ByteArray.mk #[110, 111, 110, 101])]) flelStr (by intro ρ h; simp only [List.map_toArray, List.map_cons, List.map_nil, h (.const (.string (ByteArray.mk #[97, 99, 99, 101, 112, 116]))) _ rfl, h (.const (.string (ByteArray.mk #[100, 114, 111, 112]))) _ rfl, h (.const (.string (ByteArray.mk #[99, 97, 108, 108]))) _ rfl, h (.const (.string (ByteArray.mk #[114, 101, 116, 117, 114, 110]))) _ rfl, h (.const (.string (ByteArray.mk #[110, 111, 110, 101]))) _ rfl]) rfl el66 zero9 rfl rfl rfl rfl rfl rfl ?_); intro v9
    refine o_fad st rfl rfl fld53_1 rfl ?_
    refine o_ldc st (v := (.int .i64 r_0.xAction)) 1 rfl rfl rfl ty3 rfl ?_
    refine o_sub st rfl rfl rfl ?_; intro t11
    refine o_idx st 0 rfl reads_own rfl rfl rfl el66 ?_; intro e12 h13
    refine o_lds st (enc := encStr) (u := (.string e12)) 0 rfl reads_own flelStr rfl h13 rfl rfl ty9 rfl ?_
    refine o_as st rfl rfl ?_
    refine c_nil ?_
    refine l_then ?_
    refine c_join (σ := ByteArray) (fun (t77 : ByteArray) (a : Act) (w : World) => Has 40 [(1, (.pointer (some ⟨b6, 0, none⟩))), (3, (.string t77))] a ∧ Mem (gB F [] w0) (feet []) w0 [cellCh b6 [(.slice a3 l4 q5), (.int .i64 r_0.xAction), (.int .i64 r_0.xChain)] 53, snapCh w0 F] w) ?_ ?_
    · intro k78
      refine c_seq ?_
      refine c_region ?_
      refine o_fad st rfl rfl fld53_1 rfl ?_
      refine o_ldc st (v := (.int .i64 r_0.xAction)) 1 rfl rfl rfl ty3 rfl ?_
      refine o_eql st und3 rfl rfl rfl ?_
      refine c_nil ?_
      refine l_then ?_
      refine c_cond rfl ?_ ?_
      · refine c_region ?_
        refine o_mv st rfl rfl ?_
        refine o_cat st rfl rfl rfl ?_; intro s14
        refine o_fad st rfl rfl fld53_2 rfl ?_
        refine o_ldc st (v := (.int .i64 r_0.xChain)) 1 rfl rfl rfl ty3 rfl ?_
        refine stw (o_callP (vs := [(.int .i64 r_0.xChain)]) Tryd.call51 rfl rfl (by intro w m h; exact (w_spec_l3Number (F := allB [] w) (n_0 := r_0.xChain) allB_ok h).mono (fun _ _ k => ret_free (fun r u => fr_nil) k)) ?_); rintro r15 _
        refine o_cat st rfl rfl rfl ?_; intro s16
        refine o_as st rfl rfl ?_
        refine c_nil ?_
        exact l_join s16 (fun a w hE hm => ⟨hE.sub ⟨rfl, rfl, trivial⟩, (hm.pick [1, 2] rfl)⟩)
      · refine c_skip ?_
        exact l_join e12 (fun a w hE hm => ⟨hE.sub ⟨rfl, rfl, trivial⟩, (hm.pick [1, 2] rfl)⟩)
    · rintro t77 a w ⟨hE, hm⟩ h
      refine nx_of hE hm h ?_
      clear hE hm h
      refine c_seq ?_
      refine c_seq ?_
      refine c_region ?_
      refine o_as st rfl rfl ?_
      refine c_nil ?_
      refine l_then ?_
      refine c_block ?_
      refine c_loop (σ := (ByteArray × Int)) (fun ((t79, t80) : (ByteArray × Int)) (a : Act) (w : World) => Has 40 [(1, (.pointer (some ⟨b6, 0, none⟩))), (3, (.string t79)), (4, (.int .i64 t80))] a ∧ Mem (gB F [] w0) (feet []) w0 [cellCh b6 [(.slice a3 l4 q5), (.int .i64 r_0.xAction), (.int .i64 r_0.xChain)] 53, snapCh w0 F] w) (fun a w hE hm => ⟨hE.sub ⟨rfl, rfl, rfl, trivial⟩, (hm.pick [0, 1] rfl)⟩) ?_
      rintro nx81 ⟨t79, t80⟩ a w ⟨hE, hm⟩ h
      refine nx_of hE hm h ?_
      clear hE hm h
      refine c_seq ?_
      refine c_seq ?_
      refine c_region ?_
      refine o_mv st rfl rfl ?_
      refine o_fad st rfl rfl fld53_0 rfl ?_
      refine o_ldc st (v := (.slice a3 l4 q5)) 0 rfl rfl rfl ty51 rfl ?_
      refine o_len st el51 1 rfl (reads_snap hv1) rfl rfl ?_
      refine o_lss st rfl rfl rfl ?_
      refine c_nil ?_
      refine l_then ?_
      refine c_cond rfl ?_ ?_
      · refine c_skip ?_
        refine l_then ?_
        refine c_seq ?_
        refine c_block ?_
        refine c_region ?_
        refine o_mv st rfl rfl ?_
        refine o_cat st rfl rfl rfl ?_; intro s82
        refine o_fad st rfl rfl fld53_0 rfl ?_
        refine o_ldc st (v := (.slice a3 l4 q5)) 0 rfl rfl rfl ty51 rfl ?_
        refine o_mv st rfl rfl ?_
        refine o_idx st 1 rfl (reads_snap hv1) rfl rfl rfl el51 ?_; intro e83 h84
        refine o_lds st (enc := encGTest) (u := (.agg #[(.int .i64 e83.xField), (.int .i64 e83.xLo), (.int .i64 e83.xHi), (.bool e83.xNot)])) 1 rfl (reads_snap hv1) flelGTest rfl h84 rfl rfl ty25 rfl ?_
        refine stw (o_callP (vs := [(.agg #[(.int .i64 e83.xField), (.int .i64 e83.xLo), (.int .i64 e83.xHi), (.bool e83.xNot)])]) Tryd.call15 rfl rfl (by intro w m h; exact (w_spec_TestText (F := allB [] w) (t_0 := e83) allB_ok h).mono (fun _ _ k => ret_free (fun r u => fr_nil) k)) ?_); rintro r85 _
        refine o_cat st rfl rfl rfl ?_; intro s86
        refine o_as st rfl rfl ?_
        refine c_nil ?_
        refine b_norm ?_
        refine l_then ?_
        refine c_region ?_
        refine o_mv st rfl rfl ?_
        refine o_add st rfl rfl rfl ?_; intro t87
        refine o_as st rfl rfl ?_
        refine c_nil ?_
        exact l_join (s86, t87) (fun a w hE hm => ⟨hE.sub ⟨rfl, rfl, rfl, trivial⟩, (hm.pick [0, 1] rfl)⟩)
      · refine c_exit ?_
        refine l_exit ?_
        refine l_exit ?_
        refine b_exit ?_
        refine l_then ?_
        refine c_seq ?_
        refine c_region ?_
        refine o_mv st rfl rfl ?_
        refine o_as st rfl rfl ?_
        refine c_nil ?_
        refine l_then ?_
        refine c_ret ?_
        exact l_end1 Tryd.results33 t79 () (rv_t rfl) (fun _ _ => NewCh.nil _ _ _ _)

set_option maxRecDepth 100000 in
set_option maxHeartbeats 8000000 in
theorem w_laws_toTestS {w0 : World} {F : Nat → Prop} {v1 : Value} {a_0 : (List GTest)} {κ : (List GTest) → Prop} (hF : ∀ b, F b → b < w0.heap.size ∧ ¬ feet [] b) (hv1 : Sl elGTest F w0 v1 a_0) (h : L_laws_toTestS a_0 κ) :
    Calls Tryd.prog 71 #[v1] w0 (Ret [] F w0 κ (fun (r : (List GTest)) (u : Value) => u) (fun (r : (List GTest)) (u : Value) => [ownCh elGTest 25 u r])) := by
  refine enterS (args := [v1]) [] hF (Given.nil _ _) Tryd.func71 rfl Tryd.ntmps71 rfl h ?_
  clear h hF
  refine c_seq ?_
  refine c_region ?_
  refine stw (o_asn elGTest 25 rfl rfl ?_)
  refine c_nil ?_
  refine l_then ?_
  refine c_seq ?_
  refine c_region ?_
  refine o_mv st rfl rfl ?_
  refine o_len st el46 1 rfl (reads_snap hv1) rfl rfl ?_
  refine stw (o_make (z := (GTest.mk 0 0 0 false)) flelGTest rfl rfl rfl el51 rfl zero25 rfl rfl ?_); intro v4 xs5
  refine o_as st rfl rfl ?_
  refine c_nil ?_
  refine l_then ?_
  refine c_seq ?_
  refine c_seq ?_
  refine c_region ?_
  refine o_as st rfl rfl ?_
  refine c_nil ?_
  refine l_then ?_
  refine c_block ?_
  refine c_loop (σ := ((List GTest) × Int)) (fun ((xs7, t9) : ((List GTest) × Int)) (a : Act) (w : World) => Has 23 [(0, v1), (3, v4), (4, (.int .i64 t9))] a ∧ Mem (gB F [] w0) (feet []) w0 [ownCh elGTest 25 v4 xs7, snapCh w0 F] w) (fun a w hE hm => ⟨hE.sub ⟨rfl, rfl, rfl, trivial⟩, (hm.pick [0, 2] rfl)⟩) ?_
  rintro nx10 ⟨xs7, t9⟩ a w ⟨hE, hm⟩ h
  refine nx_of hE hm h ?_
  clear hE hm h
  refine c_seq ?_
  refine c_seq ?_
  refine c_region ?_
  refine o_mv st rfl rfl ?_
  refine o_mv st rfl rfl ?_
  refine o_len st el46 1 rfl (reads_snap hv1) rfl rfl ?_
  refine o_lss st rfl rfl rfl ?_
  refine c_nil ?_
  refine l_then ?_
  refine c_cond rfl ?_ ?_
  · refine c_skip ?_
    refine l_then ?_
    refine c_seq ?_
    refine c_block ?_
    refine c_region ?_
    refine o_mv st rfl rfl ?_
    refine o_mv st rfl rfl ?_
    refine o_mv st rfl rfl ?_
    refine o_mv st rfl rfl ?_
    refine o_idx st 1 rfl (reads_snap hv1) rfl rfl rfl el46 ?_; intro e11 h12
    refine o_lds st (enc := encGTest) (u := (.agg #[(.int .i64 e11.xField), (.int .i64 e11.xLo), (.int .i64 e11.xHi), (.bool e11.xNot)])) 1 rfl (reads_snap hv1) flelGTest rfl h12 rfl rfl ty23 rfl ?_
    refine stw (o_callP (vs := [(.agg #[(.int .i64 e11.xField), (.int .i64 e11.xLo), (.int .i64 e11.xHi), (.bool e11.xNot)])]) Tryd.call16 rfl rfl (by intro w m h; exact (w_laws_toTest (F := allB [] w) (a_0 := e11) allB_ok h).mono (fun _ _ k => ret_free (fun r u => fr_nil) k)) ?_); rintro r13 _
    refine o_idx st 0 rfl reads_own rfl rfl rfl el51 ?_; intro e14 h15
    refine stw (o_sts (enc := encGTest) (y' := r13) 0 rfl flelGTest rfl h15 ty25 rfl rfl rfl rfl rfl rfl ?_)
    refine c_nil ?_
    refine b_norm ?_
    refine l_then ?_
    refine c_region ?_
    refine o_mv st rfl rfl ?_
    refine o_add st rfl rfl rfl ?_; intro t17
    refine o_as st rfl rfl ?_
    refine c_nil ?_
    exact l_join ((xs7.set (t9).toNat r13), t17) (fun a w hE hm => ⟨hE.sub ⟨rfl, rfl, rfl, trivial⟩, (hm.pick [0, 1] rfl)⟩)
  · refine c_exit ?_
    refine l_exit ?_
    refine l_exit ?_
    refine b_exit ?_
    refine l_then ?_
    refine c_seq ?_
    refine c_region ?_
    refine o_mv st rfl rfl ?_
    refine o_as st rfl rfl ?_
    refine c_nil ?_
    refine l_then ?_
    refine c_ret ?_
    exact l_end1 Tryd.results71 xs7 v4 (rv_t rfl) (fun w m => NewCh.ofB m [0] rfl)

set_option maxRecDepth 100000 in
set_option maxHeartbeats 8000000 in
theorem w_laws_toRule {w0 : World} {F : Nat → Prop} {v1 : Value} {a_0 : GRule} {κ : GRule → Prop} (hF : ∀ b, F b → b < w0.heap.size ∧ ¬ feet [] b) (hv1 : Sl elGTest F w0 v1 a_0.xTests) (h : L_laws_toRule a_0 κ) :
    Calls Tryd.prog 34 #[(.agg #[v1, (.int .i64 a_0.xAction), (.int .i64 a_0.xChain)])] w0 (Ret [] F w0 κ (fun (r : GRule) (u : Value) => (.agg #[u, (.int .i64 r.xAction), (.int .i64 r.xChain)])) (fun (r : GRule) (u : Value) => [ownCh elGTest 25 u r.xTests])) := by
  refine enterS (args := [(.agg #[v1, (.int .i64 a_0.xAction), (.int .i64 a_0.xChain)])]) [] hF (Given.nil _ _) Tryd.func34 rfl Tryd.ntmps34 rfl h ?_
  clear h hF
  refine c_seq ?_
  refine c_region ?_
  obtain ⟨a3, l4, q5, hs_⟩ := sl_val hv1; subst hs_
  refine stw (o_box rfl rfl [(.slice a3 l4 q5), (.int .i64 a_0.xAction), (.int .i64 a_0.xChain)] rfl ?_); intro b6
  refine stw (o_alloc rfl [(.slice none 0 0), (.int .i64 0), (.int .i64 0)] zero53 ?_); intro b8
  refine c_nil ?_
  refine l_then ?_
  refine c_seq ?_
  refine c_region ?_
  refine stw (o_alloc rfl [(.slice none 0 0), (.int .i64 0), (.int .i64 0)] zero53 ?_); intro b10
  refine c_nil ?_
  refine l_then ?_
  refine c_seq ?_
  refine c_region ?_
  refine o_fad st rfl rfl fld48_0 rfl ?_
  refine o_ldc st (v := (.slice a3 l4 q5)) 2 rfl rfl rfl ty46 rfl ?_
  refine stw (o_callP (vs := [(.slice a3 l4 q5)]) Tryd.call71 rfl rfl (by intro w m h; exact (w_laws_toTestS (F := allB [] w) (a_0 := a_0.xTests) allB_ok (m.rd0 3 rfl (reads_snap hv1)) h).mono (fun _ _ k => ret_free (fun r u => (fr_cons (free_own flelGTest) fr_nil)) k)) ?_); rintro r12 v13
  refine o_fad st rfl rfl fld53_0 rfl ?_
  refine nx_own 0 rfl ?_; rintro a15 l16 q17 rfl
  refine stw (o_stc (cs' := [(.slice a15 l16 q17), (.int .i64 0), (.int .i64 0)]) 1 rfl rfl rfl ty51 rfl rfl rfl rfl ?_)
  refine c_nil ?_
  refine l_then ?_
  refine c_seq ?_
  refine c_region ?_
  refine o_fad st rfl rfl fld48_1 rfl ?_
  refine o_ldc st (v := (.int .i64 a_0.xAction)) 3 rfl rfl rfl ty3 rfl ?_
  refine o_fad st rfl rfl fld53_1 rfl ?_
  refine stw (o_stc (cs' := [(.slice a15 l16 q17), (.int .i64 a_0.xAction), (.int .i64 0)]) 1 rfl rfl rfl ty3 rfl rfl rfl rfl ?_)
  refine c_nil ?_
  refine l_then ?_
  refine c_seq ?_
  refine c_region ?_
  refine o_fad st rfl rfl fld48_2 rfl ?_
  refine o_ldc st (v := (.int .i64 a_0.xChain)) 3 rfl rfl rfl ty3 rfl ?_
  refine o_fad st rfl rfl fld53_2 rfl ?_
  refine stw (o_stc (cs' := [(.slice a15 l16 q17), (.int .i64 a_0.xAction), (.int .i64 a_0.xChain)]) 1 rfl rfl rfl ty3 rfl rfl rfl rfl ?_)
  refine c_nil ?_
  refine l_then ?_
  refine c_seq ?_
  refine c_region ?_
  refine o_ldc st (v := (.agg #[(.slice a15 l16 q17), (.int .i64 a_0.xAction), (.int .i64 a_0.xChain)])) 1 rfl rfl rfl ty53 rfl ?_
  refine stw (o_stc (cs' := [(.slice a15 l16 q17), (.int .i64 a_0.xAction), (.int .i64 a_0.xChain)]) 2 rfl rfl rfl ty53 rfl rfl rfl rfl ?_)
  refine c_nil ?_
  refine l_then ?_
  refine c_ret ?_
  exact l_end1 Tryd.results34 (GRule.mk r12 a_0.xAction a_0.xChain) (.slice a15 l16 q17) (rv_c 2 rfl rfl ty53 rfl) (fun w m => NewCh.ofB m [0] rfl)


end Go.Proofs.YtnogaeckmiekdaaDoor
