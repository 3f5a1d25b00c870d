/- Texts of this seat, put together. -/
import Derived.Test.YtigdghiknfehhaaDoorMP1
set_option linter.unusedSimpArgs false
set_option linter.unusedVariables false
namespace Go.Proofs.YtigdghiknfehhaaDoor
section
open Go.RowKit
set_option maxRecDepth 100000 in
set_option maxHeartbeats 8000000 in
theorem w_spec_l20Span {w0 : World} {F : Nat → Prop} {b1 : Nat} {v2 : Value} {r_0_b : (List UInt8)} {r_0_p : Int} {top_1 : Int} {n_2 : Int} {κ : (GSpan × Int) → Prop} (hF : ∀ b, F b → b < w0.heap.size ∧ ¬ feet [cellCh b1 [v2, (.int .i64 r_0_p)] 122] b) (hg : Given [cellCh b1 [v2, (.int .i64 r_0_p)] 122] F w0) (hv2 : Sl elU8 F w0 v2 r_0_b) (h : L_spec_l20Span r_0_b r_0_p top_1 n_2 κ) :
    Calls Tryd.prog 128 #[(.pointer (some ⟨b1, 0, none⟩)), (.int .i64 top_1), (.int .i64 n_2)] w0 (Ret [cellCh b1 [v2, (.int .i64 r_0_p)] 122] F w0 κ (fun (r : (GSpan × Int)) (u : Unit) => (.agg #[(.int .i64 r.1.xLo), (.int .i64 r.1.xHi)])) (fun (r : (GSpan × Int)) (u : Unit) => [cellCh b1 [v2, (.int .i64 r.2)] 122])) := by
  refine enterS (args := [(.pointer (some ⟨b1, 0, none⟩)), (.int .i64 top_1), (.int .i64 n_2)]) [cellCh b1 [v2, (.int .i64 r_0_p)] 122] hF hg Tryd.func128 rfl Tryd.ntmps128 rfl h ?_
  clear h hF hg
  refine c_seq ?_
  refine c_region ?_
  refine stw (o_alloc rfl [(.int .i64 0), (.int .i64 0)] zero83 ?_); intro b5
  refine c_nil ?_
  refine l_then ?_
  refine c_seq ?_
  refine c_region ?_
  refine o_mv st rfl rfl ?_
  refine o_mv st rfl rfl ?_
  refine o_add st rfl rfl rfl ?_; intro t7
  refine o_min st rfl rfl rfl ?_
  refine pk [1, 0, 2] rfl ?_
  refine stw (o_call (vs := [(.pointer (some ⟨b1, 0, none⟩)), (.int .i64 (min 256 t7))]) (M0 := [cellCh b1 [v2, (.int .i64 r_0_p)] 122]) Tryd.call68 rfl rfl (by intro w m h; exact (w_spec_l20Rd_pick (F := allB [cellCh b1 [v2, (.int .i64 r_0_p)] 122] w) (r_0_b := r_0_b) (r_0_p := r_0_p) (n_1 := (min 256 t7)) allB_ok m.given (m.rdM 1 rfl (reads_snap hv2)) h).mono (fun _ _ k => ret_free (fun r u => (fr_cons free_cell fr_nil)) k)) ?_); rintro ⟨r8, r9⟩ _
  refine o_bld st (qs := [(0, (.int .i64 r8))]) (cells := [(.int .i64 r8), (.int .i64 0)]) (by intro ρ h; simp only [List.map_toArray, List.map_cons, List.map_nil, h (.tmp 12) _ rfl]) rfl bld83 rfl ?_
  refine stw (o_alloc rfl [(.int .i64 0), (.int .i64 0)] zero83 ?_); intro b10
  refine stw (o_stc (cs' := [(.int .i64 r8), (.int .i64 0)]) 0 rfl rfl rfl ty83 rfl rfl rfl rfl ?_)
  refine c_nil ?_
  refine l_then ?_
  refine c_join (σ := (Int × Int)) (fun ((t144, t145) : (Int × Int)) (a : Act) (w : World) => Has 68 [(0, (.pointer (some ⟨b1, 0, none⟩))), (1, (.int .i64 top_1)), (2, (.int .i64 n_2)), (6, (.pointer (some ⟨b5, 0, none⟩))), (7, (.pointer (some ⟨b10, 0, none⟩)))] a ∧ Mem (gB F [cellCh b1 [v2, (.int .i64 r_0_p)] 122] w0) (feet [cellCh b1 [v2, (.int .i64 r_0_p)] 122]) w0 [cellCh b1 [v2, (.int .i64 t144)] 122, cellCh b10 [(.int .i64 t145), (.int .i64 0)] 83, cellCh b5 [(.int .i64 0), (.int .i64 0)] 83, snapCh w0 F] w) ?_ ?_
  · intro k146
    refine c_join (σ := (Int × Bool)) (fun ((t74, t75) : (Int × Bool)) (a : Act) (w : World) => Has 68 [(0, (.pointer (some ⟨b1, 0, none⟩))), (1, (.int .i64 top_1)), (2, (.int .i64 n_2)), (6, (.pointer (some ⟨b5, 0, none⟩))), (7, (.pointer (some ⟨b10, 0, none⟩))), (20, (.bool t75))] a ∧ Mem (gB F [cellCh b1 [v2, (.int .i64 r_0_p)] 122] w0) (feet [cellCh b1 [v2, (.int .i64 r_0_p)] 122]) w0 [cellCh b1 [v2, (.int .i64 t74)] 122, cellCh b10 [(.int .i64 r8), (.int .i64 0)] 83, cellCh b5 [(.int .i64 0), (.int .i64 0)] 83, snapCh w0 F] w) ?_ ?_
    · intro k76
      refine c_region ?_
      refine o_mv st rfl rfl ?_
      refine o_gtr st rfl rfl rfl ?_
      refine o_mv st rfl rfl ?_
      refine st_sp (dj := 16) rfl ?_ ?_
      · refine o_mv (st_g rfl rfl) rfl rfl ?_
        refine pk [1, 0, 2, 3] rfl ?_
        refine st_gw rfl rfl (o_call (vs := [(.pointer (some ⟨b1, 0, none⟩)), (.int .i64 2)]) (M0 := [cellCh b1 [v2, (.int .i64 r9)] 122]) Tryd.call68 rfl rfl (by intro w m h; exact (w_spec_l20Rd_pick (F := allB [cellCh b1 [v2, (.int .i64 r9)] 122] w) (r_0_b := r_0_b) (r_0_p := r9) (n_1 := 2) allB_ok m.given (m.rdM 2 rfl (reads_snap hv2)) h).mono (fun _ _ k => ret_free (fun r u => (fr_cons free_cell fr_nil)) k)) ?_); rintro ⟨r12, r13⟩ _
        refine o_eql (st_g rfl rfl) und3 rfl rfl rfl ?_
        refine o_pickT st rfl rfl rfl ?_
        refine c_nil ?_
        exact l_join (r13, (decide (r12 = 0))) (fun a w hE hm => ⟨hE.sub ⟨rfl, rfl, rfl, rfl, rfl, rfl, trivial⟩, (hm.pick [0, 1, 2, 3] rfl)⟩)
      · refine st_s rfl rfl rfl rfl ?_
        refine st_s rfl rfl rfl rfl ?_
        refine st_s rfl rfl rfl rfl ?_
        refine o_pickF st rfl rfl rfl ?_
        refine c_nil ?_
        exact l_join (r9, false) (fun a w hE hm => ⟨hE.sub ⟨rfl, rfl, rfl, rfl, rfl, rfl, trivial⟩, (hm.pick [1, 0, 2, 3] rfl)⟩)
    · rintro ⟨t74, t75⟩ a w ⟨hE, hm⟩ h
      refine nx_of hE hm h ?_
      clear hE hm h
      refine c_cond rfl ?_ ?_
      · refine c_join1 (σ := (Int × Int)) (fun ((t77, t78) : (Int × Int)) (a : Act) (w : World) => Has 68 [(0, (.pointer (some ⟨b1, 0, none⟩))), (1, (.int .i64 top_1)), (2, (.int .i64 n_2)), (6, (.pointer (some ⟨b5, 0, none⟩))), (7, (.pointer (some ⟨b10, 0, none⟩)))] a ∧ Mem (gB F [cellCh b1 [v2, (.int .i64 r_0_p)] 122] w0) (feet [cellCh b1 [v2, (.int .i64 r_0_p)] 122]) w0 [cellCh b1 [v2, (.int .i64 t77)] 122, cellCh b10 [(.int .i64 t78), (.int .i64 0)] 83, cellCh b5 [(.int .i64 0), (.int .i64 0)] 83, snapCh w0 F] w) ?_ ?_
        · intro k79
          refine c_drawQ mixed 10 rfl [cellCh b5 [(.int .i64 0), (.int .i64 0)] 83, snapCh w0 F] ?_
          intro Qd hP hQ
          have H51 : ∀ (r80 : Int) (r81 : Int), Nx 68 (gB F [cellCh b1 [v2, (.int .i64 r_0_p)] 122] w0) (feet [cellCh b1 [v2, (.int .i64 r_0_p)] 122]) w0 (wpAnyH Tryd.prog .any (opsAt Tryd.f128 [1, 1, 0, 1, 0]) Qd (Mem (gB F [cellCh b1 [v2, (.int .i64 r_0_p)] 122] w0) (feet [cellCh b1 [v2, (.int .i64 r_0_p)] 122]) w0 [cellCh b5 [(.int .i64 0), (.int .i64 0)] 83, snapCh w0 F]) 0 #[true, true, true, true, true, true, true, true, true, true]) [(0, (.pointer (some ⟨b1, 0, none⟩))), (1, (.int .i64 top_1)), (2, (.int .i64 n_2)), (6, (.pointer (some ⟨b5, 0, none⟩))), (7, (.pointer (some ⟨b10, 0, none⟩)))] [cellCh b1 [v2, (.int .i64 r81)] 122, cellCh b10 [(.int .i64 (min top_1 (w64 ((w64 (r8 * 256)) + r80)))), (.int .i64 0)] 83, cellCh b5 [(.int .i64 0), (.int .i64 0)] 83, snapCh w0 F] (k79 (r81, (min top_1 (w64 ((w64 (r8 * 256)) + r80))))) := by
            intro r80 r81
            refine d_done (by kernel_rfl) ?_
            exact fun a w hE hm hφ => hQ (r81, (min top_1 (w64 ((w64 (r8 * 256)) + r80)))) a w hφ ((fun a w hE hm => ⟨hE.sub ⟨rfl, rfl, rfl, rfl, rfl, trivial⟩, (hm.pick [0, 1, 2, 3] rfl)⟩) a w hE hm)
          have H52 : ∀ (r80 : Int) (r81 : Int), Nx 68 (gB F [cellCh b1 [v2, (.int .i64 r_0_p)] 122] w0) (feet [cellCh b1 [v2, (.int .i64 r_0_p)] 122]) w0 (wpAnyH Tryd.prog .any (opsAt Tryd.f128 [1, 1, 0, 1, 0]) Qd (Mem (gB F [cellCh b1 [v2, (.int .i64 r_0_p)] 122] w0) (feet [cellCh b1 [v2, (.int .i64 r_0_p)] 122]) w0 [cellCh b5 [(.int .i64 0), (.int .i64 0)] 83, snapCh w0 F]) 4 #[true, true, true, true, true, true, false, false, false, false]) [(0, (.pointer (some ⟨b1, 0, none⟩))), (1, (.int .i64 top_1)), (2, (.int .i64 n_2)), (6, (.pointer (some ⟨b5, 0, none⟩))), (7, (.pointer (some ⟨b10, 0, none⟩))), (21, (.int .i64 top_1)), (24, (.int .i64 (w64 (r8 * 256)))), (26, (.int .i64 r80))] [cellCh b1 [v2, (.int .i64 r81)] 122, cellCh b10 [(.int .i64 r8), (.int .i64 0)] 83, cellCh b5 [(.int .i64 0), (.int .i64 0)] 83, snapCh w0 F] (k79 (r81, (min top_1 (w64 ((w64 (r8 * 256)) + r80))))) := by
            intro r80 r81
            refine o_addw (dt 6 (fun w m => m.pick [2, 3] rfl)) rfl rfl rfl ?_
            refine o_min (dt 7 (fun w m => m.pick [2, 3] rfl)) rfl rfl rfl ?_
            refine o_fad (dt 8 (fun w m => m.pick [2, 3] rfl)) rfl rfl fld83_0 rfl ?_
            refine d_one (i := 9) rfl (by kernel_rfl) (o_stc (cs' := [(.int .i64 (min top_1 (w64 ((w64 (r8 * 256)) + r80)))), (.int .i64 0)]) 1 rfl rfl rfl ty3 rfl rfl rfl rfl ?_)
            refine d_and (fun w m => m.pick [2, 3] rfl) ?_
            refine pk [0, 1, 2, 3] rfl ?_
            refine re (E' := [(0, (.pointer (some ⟨b1, 0, none⟩))), (1, (.int .i64 top_1)), (2, (.int .i64 n_2)), (6, (.pointer (some ⟨b5, 0, none⟩))), (7, (.pointer (some ⟨b10, 0, none⟩)))]) ⟨rfl, rfl, rfl, rfl, rfl, trivial⟩ ?_
            exact H51 r80 r81
          have H53 : ∀ (_ : Unit), Nx 68 (gB F [cellCh b1 [v2, (.int .i64 r_0_p)] 122] w0) (feet [cellCh b1 [v2, (.int .i64 r_0_p)] 122]) w0 (wpAnyH Tryd.prog .any (opsAt Tryd.f128 [1, 1, 0, 1, 0]) Qd (Mem (gB F [cellCh b1 [v2, (.int .i64 r_0_p)] 122] w0) (feet [cellCh b1 [v2, (.int .i64 r_0_p)] 122]) w0 [cellCh b5 [(.int .i64 0), (.int .i64 0)] 83, snapCh w0 F]) 6 #[true, true, true, false, true, false, false, false, false, false]) [(0, (.pointer (some ⟨b1, 0, none⟩))), (1, (.int .i64 top_1)), (2, (.int .i64 n_2)), (6, (.pointer (some ⟨b5, 0, none⟩))), (7, (.pointer (some ⟨b10, 0, none⟩))), (21, (.int .i64 top_1)), (25, (.pointer (some ⟨b1, 0, none⟩))), (23, (.int .i64 r8))] [cellCh b1 [v2, (.int .i64 t74)] 122, cellCh b10 [(.int .i64 r8), (.int .i64 0)] 83, cellCh b5 [(.int .i64 0), (.int .i64 0)] 83, snapCh w0 F] (L_spec_l20Rd_pick r_0_b t74 256 (fun (r80, r81) => k79 (r81, (min top_1 (w64 ((w64 (r8 * 256)) + r80)))))) := by
            intro _
            refine o_mulw (dt 3 (fun w m => m.pick [2, 3] rfl)) rfl rfl rfl ?_
            refine d_one (i := 5) rfl (by kernel_rfl) (o_call (vs := [(.pointer (some ⟨b1, 0, none⟩)), (.int .i64 256)]) (M0 := [cellCh b1 [v2, (.int .i64 t74)] 122]) Tryd.call68 rfl rfl (by intro w m h; exact (w_spec_l20Rd_pick (F := allB [cellCh b1 [v2, (.int .i64 t74)] 122] w) (r_0_b := r_0_b) (r_0_p := t74) (n_1 := 256) allB_ok m.given (m.rdM 2 rfl (reads_snap hv2)) h).mono (fun _ _ k => ret_free (fun r u => (fr_cons free_cell fr_nil)) k)) ?_); rintro ⟨r80, r81⟩ _
            refine d_and (fun w m => m.pick [2, 3] rfl) ?_
            refine pk [0, 1, 2, 3] rfl ?_
            refine re (E' := [(0, (.pointer (some ⟨b1, 0, none⟩))), (1, (.int .i64 top_1)), (2, (.int .i64 n_2)), (6, (.pointer (some ⟨b5, 0, none⟩))), (7, (.pointer (some ⟨b10, 0, none⟩))), (21, (.int .i64 top_1)), (24, (.int .i64 (w64 (r8 * 256)))), (26, (.int .i64 r80))]) ⟨rfl, rfl, rfl, rfl, rfl, rfl, rfl, rfl, trivial⟩ ?_
            exact H52 r80 r81
          have H54 : ∀ (r82 : Int) (r83 : Int), Nx 68 (gB F [cellCh b1 [v2, (.int .i64 r_0_p)] 122] w0) (feet [cellCh b1 [v2, (.int .i64 r_0_p)] 122]) w0 (wpAnyH Tryd.prog .any (opsAt Tryd.f128 [1, 1, 0, 1, 0]) Qd (Mem (gB F [cellCh b1 [v2, (.int .i64 r_0_p)] 122] w0) (feet [cellCh b1 [v2, (.int .i64 r_0_p)] 122]) w0 [cellCh b5 [(.int .i64 0), (.int .i64 0)] 83, snapCh w0 F]) 5 #[true, true, true, false, true, true, false, false, false, false]) [(0, (.pointer (some ⟨b1, 0, none⟩))), (1, (.int .i64 top_1)), (2, (.int .i64 n_2)), (6, (.pointer (some ⟨b5, 0, none⟩))), (7, (.pointer (some ⟨b10, 0, none⟩))), (21, (.int .i64 top_1)), (26, (.int .i64 r82)), (23, (.int .i64 r8))] [cellCh b1 [v2, (.int .i64 r83)] 122, cellCh b10 [(.int .i64 r8), (.int .i64 0)] 83, cellCh b5 [(.int .i64 0), (.int .i64 0)] 83, snapCh w0 F] (k79 (r83, (min top_1 (w64 ((w64 (r8 * 256)) + r82))))) := by
            intro r82 r83
            refine o_mulw (dt 3 (fun w m => m.pick [2, 3] rfl)) rfl rfl rfl ?_
            refine o_addw (dt 6 (fun w m => m.pick [2, 3] rfl)) rfl rfl rfl ?_
            refine o_min (dt 7 (fun w m => m.pick [2, 3] rfl)) rfl rfl rfl ?_
            refine o_fad (dt 8 (fun w m => m.pick [2, 3] rfl)) rfl rfl fld83_0 rfl ?_
            refine d_one (i := 9) rfl (by kernel_rfl) (o_stc (cs' := [(.int .i64 (min top_1 (w64 ((w64 (r8 * 256)) + r82)))), (.int .i64 0)]) 1 rfl rfl rfl ty3 rfl rfl rfl rfl ?_)
            refine d_and (fun w m => m.pick [2, 3] rfl) ?_
            refine pk [0, 1, 2, 3] rfl ?_
            refine re (E' := [(0, (.pointer (some ⟨b1, 0, none⟩))), (1, (.int .i64 top_1)), (2, (.int .i64 n_2)), (6, (.pointer (some ⟨b5, 0, none⟩))), (7, (.pointer (some ⟨b10, 0, none⟩)))]) ⟨rfl, rfl, rfl, rfl, rfl, trivial⟩ ?_
            exact H51 r82 r83
          have H55 : ∀ (r82 : Int) (r83 : Int), Nx 68 (gB F [cellCh b1 [v2, (.int .i64 r_0_p)] 122] w0) (feet [cellCh b1 [v2, (.int .i64 r_0_p)] 122]) w0 (wpAnyH Tryd.prog .any (opsAt Tryd.f128 [1, 1, 0, 1, 0]) Qd (Mem (gB F [cellCh b1 [v2, (.int .i64 r_0_p)] 122] w0) (feet [cellCh b1 [v2, (.int .i64 r_0_p)] 122]) w0 [cellCh b5 [(.int .i64 0), (.int .i64 0)] 83, snapCh w0 F]) 6 #[true, true, false, false, true, true, false, false, false, false]) [(0, (.pointer (some ⟨b1, 0, none⟩))), (1, (.int .i64 top_1)), (2, (.int .i64 n_2)), (6, (.pointer (some ⟨b5, 0, none⟩))), (7, (.pointer (some ⟨b10, 0, none⟩))), (21, (.int .i64 top_1)), (22, (.pointer (some ⟨b10, 0, none⟩))), (26, (.int .i64 r82))] [cellCh b1 [v2, (.int .i64 r83)] 122, cellCh b10 [(.int .i64 r8), (.int .i64 0)] 83, cellCh b5 [(.int .i64 0), (.int .i64 0)] 83, snapCh w0 F] (k79 (r83, (min top_1 (w64 ((w64 (r8 * 256)) + r82))))) := by
            intro r82 r83
            refine d_one (i := 2) rfl (by kernel_rfl) (o_ldc m_op (v := (.int .i64 r8)) 1 rfl rfl rfl ty3 rfl ?_)
            refine d_and (fun w m => m.pick [2, 3] rfl) ?_
            refine pk [0, 1, 2, 3] rfl ?_
            refine re (E' := [(0, (.pointer (some ⟨b1, 0, none⟩))), (1, (.int .i64 top_1)), (2, (.int .i64 n_2)), (6, (.pointer (some ⟨b5, 0, none⟩))), (7, (.pointer (some ⟨b10, 0, none⟩))), (21, (.int .i64 top_1)), (26, (.int .i64 r82)), (23, (.int .i64 r8))]) ⟨rfl, rfl, rfl, rfl, rfl, rfl, rfl, rfl, trivial⟩ ?_
            exact H54 r82 r83
          refine o_mv (dt 0 (fun w m => m.pick [2, 3] rfl)) rfl rfl ?_
          refine o_fad (dt 1 (fun w m => m.pick [2, 3] rfl)) rfl rfl fld83_0 rfl ?_
          refine o_mv (dt 4 (fun w m => m.pick [2, 3] rfl)) rfl rfl ?_
          refine d_two (i := 2) (j := 5) rfl rfl (by kernel_rfl) ?_ ?_
          · intro o ho; cases ho
            refine o_ldc m_op (v := (.int .i64 r8)) 1 rfl rfl rfl ty3 rfl ?_
            refine d_and (fun w m => m.pick [2, 3] rfl) ?_
            refine pk [0, 1, 2, 3] rfl ?_
            refine re (E' := [(0, (.pointer (some ⟨b1, 0, none⟩))), (1, (.int .i64 top_1)), (2, (.int .i64 n_2)), (6, (.pointer (some ⟨b5, 0, none⟩))), (7, (.pointer (some ⟨b10, 0, none⟩))), (21, (.int .i64 top_1)), (25, (.pointer (some ⟨b1, 0, none⟩))), (23, (.int .i64 r8))]) ⟨rfl, rfl, rfl, rfl, rfl, rfl, rfl, rfl, trivial⟩ ?_
            exact H53 ()
          · intro o ho; cases ho
            refine o_call (vs := [(.pointer (some ⟨b1, 0, none⟩)), (.int .i64 256)]) (M0 := [cellCh b1 [v2, (.int .i64 t74)] 122]) Tryd.call68 rfl rfl (by intro w m h; exact (w_spec_l20Rd_pick (F := allB [cellCh b1 [v2, (.int .i64 t74)] 122] w) (r_0_b := r_0_b) (r_0_p := t74) (n_1 := 256) allB_ok m.given (m.rdM 2 rfl (reads_snap hv2)) h).mono (fun _ _ k => ret_free (fun r u => (fr_cons free_cell fr_nil)) k)) ?_; rintro ⟨r82, r83⟩ _
            refine d_and (fun w m => m.pick [2, 3] rfl) ?_
            refine pk [0, 1, 2, 3] rfl ?_
            refine re (E' := [(0, (.pointer (some ⟨b1, 0, none⟩))), (1, (.int .i64 top_1)), (2, (.int .i64 n_2)), (6, (.pointer (some ⟨b5, 0, none⟩))), (7, (.pointer (some ⟨b10, 0, none⟩))), (21, (.int .i64 top_1)), (22, (.pointer (some ⟨b10, 0, none⟩))), (26, (.int .i64 r82))]) ⟨rfl, rfl, rfl, rfl, rfl, rfl, rfl, rfl, trivial⟩ ?_
            exact H55 r82 r83
        · rintro ⟨t77, t78⟩ a w ⟨hE, hm⟩ h
          refine nx_of hE hm h ?_
          clear hE hm h
          exact l_join (t77, t78) (fun a w hE hm => ⟨hE.sub ⟨rfl, rfl, rfl, rfl, rfl, trivial⟩, (hm.pick [0, 1, 2, 3] rfl)⟩)
      · refine c_skip ?_
        exact l_join (t74, r8) (fun a w hE hm => ⟨hE.sub ⟨rfl, rfl, rfl, rfl, rfl, trivial⟩, (hm.pick [0, 1, 2, 3] rfl)⟩)
  · rintro ⟨t144, t145⟩ a w ⟨hE, hm⟩ h
    refine nx_of hE hm h ?_
    clear hE hm h
    refine c_join (σ := (Int × Int)) (fun ((t147, t148) : (Int × Int)) (a : Act) (w : World) => Has 68 [(0, (.pointer (some ⟨b1, 0, none⟩))), (1, (.int .i64 top_1)), (2, (.int .i64 n_2)), (6, (.pointer (some ⟨b5, 0, none⟩))), (7, (.pointer (some ⟨b10, 0, none⟩)))] a ∧ Mem (gB F [cellCh b1 [v2, (.int .i64 r_0_p)] 122] w0) (feet [cellCh b1 [v2, (.int .i64 r_0_p)] 122]) w0 [cellCh b1 [v2, (.int .i64 t147)] 122, cellCh b10 [(.int .i64 t145), (.int .i64 t148)] 83, cellCh b5 [(.int .i64 0), (.int .i64 0)] 83, snapCh w0 F] w) ?_ ?_
    · intro k149
      refine c_drawQ mixed 16 rfl [cellCh b5 [(.int .i64 0), (.int .i64 0)] 83, snapCh w0 F] ?_
      intro Qd hP hQ
      have H57 : ∀ (r150 : Int) (r151 : Int) (r152 : Int) (r153 : Int) (v154 : Value) (r155 : Int) (r156 : Int) (e157 : Int) (h158 : ([0, r150, r152, 4096])[(r155).toNat]? = some e157), Nx 68 (gB F [cellCh b1 [v2, (.int .i64 r_0_p)] 122] w0) (feet [cellCh b1 [v2, (.int .i64 r_0_p)] 122]) w0 (wpAnyH Tryd.prog .any (opsAt Tryd.f128 [1, 1, 1, 0]) Qd (Mem (gB F [cellCh b1 [v2, (.int .i64 r_0_p)] 122] w0) (feet [cellCh b1 [v2, (.int .i64 r_0_p)] 122]) w0 [cellCh b5 [(.int .i64 0), (.int .i64 0)] 83, snapCh w0 F]) 0 #[true, true, true, true, true, true, true, true, true, true, true, true, true, true, true, true]) [(0, (.pointer (some ⟨b1, 0, none⟩))), (1, (.int .i64 top_1)), (2, (.int .i64 n_2)), (6, (.pointer (some ⟨b5, 0, none⟩))), (7, (.pointer (some ⟨b10, 0, none⟩)))] [cellCh b1 [v2, (.int .i64 r156)] 122, cellCh b10 [(.int .i64 t145), (.int .i64 (min top_1 (w64 (t145 + e157))))] 83, cellCh b5 [(.int .i64 0), (.int .i64 0)] 83, snapCh w0 F] (k149 (r156, (min top_1 (w64 (t145 + e157))))) := by
        intro r150 r151 r152 r153 v154 r155 r156 e157 h158
        refine d_done (by kernel_rfl) ?_
        exact fun a w hE hm hφ => hQ (r156, (min top_1 (w64 (t145 + e157)))) a w hφ ((fun a w hE hm => ⟨hE.sub ⟨rfl, rfl, rfl, rfl, rfl, trivial⟩, (hm.pick [0, 1, 2, 3] rfl)⟩) a w hE hm)
      have H58 : ∀ (r150 : Int) (r151 : Int) (r152 : Int) (r153 : Int) (v154 : Value) (r155 : Int) (r156 : Int) (e157 : Int) (h158 : ([0, r150, r152, 4096])[(r155).toNat]? = some e157), Nx 68 (gB F [cellCh b1 [v2, (.int .i64 r_0_p)] 122] w0) (feet [cellCh b1 [v2, (.int .i64 r_0_p)] 122]) w0 (wpAnyH Tryd.prog .any (opsAt Tryd.f128 [1, 1, 1, 0]) Qd (Mem (gB F [cellCh b1 [v2, (.int .i64 r_0_p)] 122] w0) (feet [cellCh b1 [v2, (.int .i64 r_0_p)] 122]) w0 [cellCh b5 [(.int .i64 0), (.int .i64 0)] 83, snapCh w0 F]) 4 #[true, true, true, true, true, true, true, true, true, true, true, true, false, false, false, false]) [(0, (.pointer (some ⟨b1, 0, none⟩))), (1, (.int .i64 top_1)), (2, (.int .i64 n_2)), (6, (.pointer (some ⟨b5, 0, none⟩))), (7, (.pointer (some ⟨b10, 0, none⟩))), (30, (.int .i64 top_1)), (32, (.int .i64 t145)), (41, (.int .i64 e157))] [cellCh b1 [v2, (.int .i64 r156)] 122, cellCh b10 [(.int .i64 t145), (.int .i64 0)] 83, cellCh b5 [(.int .i64 0), (.int .i64 0)] 83, snapCh w0 F] (k149 (r156, (min top_1 (w64 (t145 + e157))))) := by
        intro r150 r151 r152 r153 v154 r155 r156 e157 h158
        refine o_addw (dt 12 (fun w m => m.pick [2, 3] rfl)) rfl rfl rfl ?_
        refine o_min (dt 13 (fun w m => m.pick [2, 3] rfl)) rfl rfl rfl ?_
        refine o_fad (dt 14 (fun w m => m.pick [2, 3] rfl)) rfl rfl fld83_1 rfl ?_
        refine d_one (i := 15) rfl (by kernel_rfl) (o_stc (cs' := [(.int .i64 t145), (.int .i64 (min top_1 (w64 (t145 + e157))))]) 1 rfl rfl rfl ty3 rfl rfl rfl rfl ?_)
        refine d_and (fun w m => m.pick [2, 3] rfl) ?_
        refine pk [0, 1, 2, 3] rfl ?_
        refine re (E' := [(0, (.pointer (some ⟨b1, 0, none⟩))), (1, (.int .i64 top_1)), (2, (.int .i64 n_2)), (6, (.pointer (some ⟨b5, 0, none⟩))), (7, (.pointer (some ⟨b10, 0, none⟩)))]) ⟨rfl, rfl, rfl, rfl, rfl, trivial⟩ ?_
        exact H57 r150 r151 r152 r153 v154 r155 r156 e157 h158
      have H59 : ∀ (r150 : Int) (r151 : Int) (r152 : Int) (r153 : Int) (v154 : Value) (r155 : Int) (r156 : Int) (e157 : Int) (h158 : ([0, r150, r152, 4096])[(r155).toNat]? = some e157), Nx 68 (gB F [cellCh b1 [v2, (.int .i64 r_0_p)] 122] w0) (feet [cellCh b1 [v2, (.int .i64 r_0_p)] 122]) w0 (wpAnyH Tryd.prog .any (opsAt Tryd.f128 [1, 1, 1, 0]) Qd (Mem (gB F [cellCh b1 [v2, (.int .i64 r_0_p)] 122] w0) (feet [cellCh b1 [v2, (.int .i64 r_0_p)] 122]) w0 [cellCh b5 [(.int .i64 0), (.int .i64 0)] 83, snapCh w0 F]) 5 #[true, true, true, true, true, true, true, true, true, true, true, false, false, false, false, false]) [(0, (.pointer (some ⟨b1, 0, none⟩))), (1, (.int .i64 top_1)), (2, (.int .i64 n_2)), (6, (.pointer (some ⟨b5, 0, none⟩))), (7, (.pointer (some ⟨b10, 0, none⟩))), (30, (.int .i64 top_1)), (32, (.int .i64 t145)), (40, (pEl v154 r155 1 0))] [cellCh b1 [v2, (.int .i64 r156)] 122, ownCh elInt 3 v154 ([0, r150, r152, 4096]), cellCh b10 [(.int .i64 t145), (.int .i64 0)] 83, cellCh b5 [(.int .i64 0), (.int .i64 0)] 83, snapCh w0 F] (k149 (r156, (min top_1 (w64 (t145 + e157))))) := by
        intro r150 r151 r152 r153 v154 r155 r156 e157 h158
        refine d_one (i := 11) rfl (by kernel_rfl) (o_lds m_op (enc := encInt) (u := (.int .i64 e157)) 1 rfl reads_own flelInt rfl h158 rfl rfl ty3 rfl ?_)
        refine d_and (fun w m => m.pick [3, 4] rfl) ?_
        refine pk [0, 2, 3, 4] rfl ?_
        refine re (E' := [(0, (.pointer (some ⟨b1, 0, none⟩))), (1, (.int .i64 top_1)), (2, (.int .i64 n_2)), (6, (.pointer (some ⟨b5, 0, none⟩))), (7, (.pointer (some ⟨b10, 0, none⟩))), (30, (.int .i64 top_1)), (32, (.int .i64 t145)), (41, (.int .i64 e157))]) ⟨rfl, rfl, rfl, rfl, rfl, rfl, rfl, rfl, trivial⟩ ?_
        exact H58 r150 r151 r152 r153 v154 r155 r156 e157 h158
      have H60 : ∀ (r150 : Int) (r151 : Int) (r152 : Int) (r153 : Int) (v154 : Value) (r155 : Int) (r156 : Int), Nx 68 (gB F [cellCh b1 [v2, (.int .i64 r_0_p)] 122] w0) (feet [cellCh b1 [v2, (.int .i64 r_0_p)] 122]) w0 (wpAnyH Tryd.prog .any (opsAt Tryd.f128 [1, 1, 1, 0]) Qd (Mem (gB F [cellCh b1 [v2, (.int .i64 r_0_p)] 122] w0) (feet [cellCh b1 [v2, (.int .i64 r_0_p)] 122]) w0 [cellCh b5 [(.int .i64 0), (.int .i64 0)] 83, snapCh w0 F]) 6 #[true, true, true, true, true, true, true, true, true, true, false, false, false, false, false, false]) [(0, (.pointer (some ⟨b1, 0, none⟩))), (1, (.int .i64 top_1)), (2, (.int .i64 n_2)), (6, (.pointer (some ⟨b5, 0, none⟩))), (7, (.pointer (some ⟨b10, 0, none⟩))), (30, (.int .i64 top_1)), (32, (.int .i64 t145)), (37, v154), (39, (.int .i64 r155))] [cellCh b1 [v2, (.int .i64 r156)] 122, ownCh elInt 3 v154 ([0, r150, r152, 4096]), cellCh b10 [(.int .i64 t145), (.int .i64 0)] 83, cellCh b5 [(.int .i64 0), (.int .i64 0)] 83, snapCh w0 F] (idxW ([0, r150, r152, 4096]) r155 (fun e157 => k149 (r156, (min top_1 (w64 (t145 + e157)))))) := by
        intro r150 r151 r152 r153 v154 r155 r156
        refine d_one (i := 10) rfl (by kernel_rfl) (o_idx m_op 1 rfl reads_own rfl rfl rfl el99 ?_); intro e157 h158
        refine d_and (fun w m => m.pick [3, 4] rfl) ?_
        refine pk [0, 1, 2, 3, 4] rfl ?_
        refine re (E' := [(0, (.pointer (some ⟨b1, 0, none⟩))), (1, (.int .i64 top_1)), (2, (.int .i64 n_2)), (6, (.pointer (some ⟨b5, 0, none⟩))), (7, (.pointer (some ⟨b10, 0, none⟩))), (30, (.int .i64 top_1)), (32, (.int .i64 t145)), (40, (pEl v154 r155 1 0))]) ⟨rfl, rfl, rfl, rfl, rfl, rfl, rfl, rfl, trivial⟩ ?_
        exact H59 r150 r151 r152 r153 v154 r155 r156 e157 h158
      have H61 : ∀ (r150 : Int) (r151 : Int) (r152 : Int) (r153 : Int) (v154 : Value), Nx 68 (gB F [cellCh b1 [v2, (.int .i64 r_0_p)] 122] w0) (feet [cellCh b1 [v2, (.int .i64 r_0_p)] 122]) w0 (wpAnyH Tryd.prog .any (opsAt Tryd.f128 [1, 1, 1, 0]) Qd (Mem (gB F [cellCh b1 [v2, (.int .i64 r_0_p)] 122] w0) (feet [cellCh b1 [v2, (.int .i64 r_0_p)] 122]) w0 [cellCh b5 [(.int .i64 0), (.int .i64 0)] 83, snapCh w0 F]) 7 #[true, true, true, true, true, true, true, true, true, false, false, false, false, false, false, false]) [(0, (.pointer (some ⟨b1, 0, none⟩))), (1, (.int .i64 top_1)), (2, (.int .i64 n_2)), (6, (.pointer (some ⟨b5, 0, none⟩))), (7, (.pointer (some ⟨b10, 0, none⟩))), (30, (.int .i64 top_1)), (38, (.pointer (some ⟨b1, 0, none⟩))), (32, (.int .i64 t145)), (37, v154)] [ownCh elInt 3 v154 ([0, r150, r152, 4096]), cellCh b1 [v2, (.int .i64 r153)] 122, cellCh b10 [(.int .i64 t145), (.int .i64 0)] 83, cellCh b5 [(.int .i64 0), (.int .i64 0)] 83, snapCh w0 F] (L_spec_l20Rd_pick r_0_b r153 4 (fun (r155, r156) => idxW ([0, r150, r152, 4096]) r155 (fun e157 => k149 (r156, (min top_1 (w64 (t145 + e157))))))) := by
        intro r150 r151 r152 r153 v154
        refine pk [1, 0, 2, 3, 4] rfl ?_
        refine d_one (i := 9) rfl (by kernel_rfl) (o_call (vs := [(.pointer (some ⟨b1, 0, none⟩)), (.int .i64 4)]) (M0 := [cellCh b1 [v2, (.int .i64 r153)] 122]) Tryd.call68 rfl rfl (by intro w m h; exact (w_spec_l20Rd_pick (F := allB [cellCh b1 [v2, (.int .i64 r153)] 122] w) (r_0_b := r_0_b) (r_0_p := r153) (n_1 := 4) allB_ok m.given (m.rdM 3 rfl (reads_snap hv2)) h).mono (fun _ _ k => ret_free (fun r u => (fr_cons free_cell fr_nil)) k)) ?_); rintro ⟨r155, r156⟩ _
        refine d_and (fun w m => m.pick [3, 4] rfl) ?_
        refine pk [0, 1, 2, 3, 4] rfl ?_
        refine re (E' := [(0, (.pointer (some ⟨b1, 0, none⟩))), (1, (.int .i64 top_1)), (2, (.int .i64 n_2)), (6, (.pointer (some ⟨b5, 0, none⟩))), (7, (.pointer (some ⟨b10, 0, none⟩))), (30, (.int .i64 top_1)), (32, (.int .i64 t145)), (37, v154), (39, (.int .i64 r155))]) ⟨rfl, rfl, rfl, rfl, rfl, rfl, rfl, rfl, rfl, trivial⟩ ?_
        exact H60 r150 r151 r152 r153 v154 r155 r156
      have H62 : ∀ (r150 : Int) (r151 : Int) (r152 : Int) (r153 : Int) (r159 : Int) (r160 : Int), Nx 68 (gB F [cellCh b1 [v2, (.int .i64 r_0_p)] 122] w0) (feet [cellCh b1 [v2, (.int .i64 r_0_p)] 122]) w0 (wpAnyH Tryd.prog .any (opsAt Tryd.f128 [1, 1, 1, 0]) Qd (Mem (gB F [cellCh b1 [v2, (.int .i64 r_0_p)] 122] w0) (feet [cellCh b1 [v2, (.int .i64 r_0_p)] 122]) w0 [cellCh b5 [(.int .i64 0), (.int .i64 0)] 83, snapCh w0 F]) 7 #[true, true, true, true, true, true, true, false, true, true, false, false, false, false, false, false]) [(0, (.pointer (some ⟨b1, 0, none⟩))), (1, (.int .i64 top_1)), (2, (.int .i64 n_2)), (6, (.pointer (some ⟨b5, 0, none⟩))), (7, (.pointer (some ⟨b10, 0, none⟩))), (30, (.int .i64 top_1)), (32, (.int .i64 t145)), (34, (.int .i64 r150)), (36, (.int .i64 r152)), (39, (.int .i64 r159))] [cellCh b1 [v2, (.int .i64 r160)] 122, cellCh b10 [(.int .i64 t145), (.int .i64 0)] 83, cellCh b5 [(.int .i64 0), (.int .i64 0)] 83, snapCh w0 F] (idxW ([0, r150, r152, 4096]) r159 (fun e157 => k149 (r160, (min top_1 (w64 (t145 + e157)))))) := by
        intro r150 r151 r152 r153 r159 r160
        refine d_one (i := 7) rfl (by kernel_rfl) (o_bsl (enc := encInt) (qs := [(0, (.int .i64 0)), (1, (.int .i64 r150)), (2, (.int .i64 r152)), (3, (.int .i64 4096))]) (cells := [(.int .i64 0), (.int .i64 r150), (.int .i64 r152), (.int .i64 4096)]) ([0, r150, r152, 4096]) flelInt (by intro ρ h; simp only [List.map_toArray, List.map_cons, List.map_nil, h (.const (.int .i64 0)) _ rfl, h (.tmp 34) _ rfl, h (.tmp 36) _ rfl, h (.const (.int .i64 4096)) _ rfl]) rfl el99 zero3 rfl rfl rfl rfl rfl rfl ?_); intro v161
        refine d_and (fun w m => m.pick [3, 4] rfl) ?_
        refine pk [1, 0, 2, 3, 4] rfl ?_
        refine re (E' := [(0, (.pointer (some ⟨b1, 0, none⟩))), (1, (.int .i64 top_1)), (2, (.int .i64 n_2)), (6, (.pointer (some ⟨b5, 0, none⟩))), (7, (.pointer (some ⟨b10, 0, none⟩))), (30, (.int .i64 top_1)), (32, (.int .i64 t145)), (37, v161), (39, (.int .i64 r159))]) ⟨rfl, rfl, rfl, rfl, rfl, rfl, rfl, rfl, rfl, trivial⟩ ?_
        exact H60 r150 r151 r152 r153 v161 r159 r160
      have H63 : ∀ (r150 : Int) (r151 : Int) (r152 : Int) (r153 : Int), Nx 68 (gB F [cellCh b1 [v2, (.int .i64 r_0_p)] 122] w0) (feet [cellCh b1 [v2, (.int .i64 r_0_p)] 122]) w0 (wpAnyH Tryd.prog .any (opsAt Tryd.f128 [1, 1, 1, 0]) Qd (Mem (gB F [cellCh b1 [v2, (.int .i64 r_0_p)] 122] w0) (feet [cellCh b1 [v2, (.int .i64 r_0_p)] 122]) w0 [cellCh b5 [(.int .i64 0), (.int .i64 0)] 83, snapCh w0 F]) 8 #[true, true, true, true, true, true, true, false, true, false, false, false, false, false, false, false]) [(0, (.pointer (some ⟨b1, 0, none⟩))), (1, (.int .i64 top_1)), (2, (.int .i64 n_2)), (6, (.pointer (some ⟨b5, 0, none⟩))), (7, (.pointer (some ⟨b10, 0, none⟩))), (30, (.int .i64 top_1)), (38, (.pointer (some ⟨b1, 0, none⟩))), (32, (.int .i64 t145)), (34, (.int .i64 r150)), (36, (.int .i64 r152))] [cellCh b1 [v2, (.int .i64 r153)] 122, cellCh b10 [(.int .i64 t145), (.int .i64 0)] 83, cellCh b5 [(.int .i64 0), (.int .i64 0)] 83, snapCh w0 F] (L_spec_l20Rd_pick r_0_b r153 4 (fun (r155, r156) => idxW ([0, r150, r152, 4096]) r155 (fun e157 => k149 (r156, (min top_1 (w64 (t145 + e157))))))) := by
        intro r150 r151 r152 r153
        refine d_two (i := 7) (j := 9) rfl rfl (by kernel_rfl) ?_ ?_
        · intro o ho; cases ho
          refine o_bsl (enc := encInt) (qs := [(0, (.int .i64 0)), (1, (.int .i64 r150)), (2, (.int .i64 r152)), (3, (.int .i64 4096))]) (cells := [(.int .i64 0), (.int .i64 r150), (.int .i64 r152), (.int .i64 4096)]) ([0, r150, r152, 4096]) flelInt (by intro ρ h; simp only [List.map_toArray, List.map_cons, List.map_nil, h (.const (.int .i64 0)) _ rfl, h (.tmp 34) _ rfl, h (.tmp 36) _ rfl, h (.const (.int .i64 4096)) _ rfl]) rfl el99 zero3 rfl rfl rfl rfl rfl rfl ?_; intro v154
          refine d_and (fun w m => m.pick [3, 4] rfl) ?_
          refine pk [0, 1, 2, 3, 4] rfl ?_
          refine re (E' := [(0, (.pointer (some ⟨b1, 0, none⟩))), (1, (.int .i64 top_1)), (2, (.int .i64 n_2)), (6, (.pointer (some ⟨b5, 0, none⟩))), (7, (.pointer (some ⟨b10, 0, none⟩))), (30, (.int .i64 top_1)), (38, (.pointer (some ⟨b1, 0, none⟩))), (32, (.int .i64 t145)), (37, v154)]) ⟨rfl, rfl, rfl, rfl, rfl, rfl, rfl, rfl, rfl, trivial⟩ ?_
          exact H61 r150 r151 r152 r153 v154
        · intro o ho; cases ho
          refine o_call (vs := [(.pointer (some ⟨b1, 0, none⟩)), (.int .i64 4)]) (M0 := [cellCh b1 [v2, (.int .i64 r153)] 122]) Tryd.call68 rfl rfl (by intro w m h; exact (w_spec_l20Rd_pick (F := allB [cellCh b1 [v2, (.int .i64 r153)] 122] w) (r_0_b := r_0_b) (r_0_p := r153) (n_1 := 4) allB_ok m.given (m.rdM 2 rfl (reads_snap hv2)) h).mono (fun _ _ k => ret_free (fun r u => (fr_cons free_cell fr_nil)) k)) ?_; rintro ⟨r159, r160⟩ _
          refine d_and (fun w m => m.pick [2, 3] rfl) ?_
          refine pk [0, 1, 2, 3] rfl ?_
          refine re (E' := [(0, (.pointer (some ⟨b1, 0, none⟩))), (1, (.int .i64 top_1)), (2, (.int .i64 n_2)), (6, (.pointer (some ⟨b5, 0, none⟩))), (7, (.pointer (some ⟨b10, 0, none⟩))), (30, (.int .i64 top_1)), (32, (.int .i64 t145)), (34, (.int .i64 r150)), (36, (.int .i64 r152)), (39, (.int .i64 r159))]) ⟨rfl, rfl, rfl, rfl, rfl, rfl, rfl, rfl, rfl, rfl, trivial⟩ ?_
          exact H62 r150 r151 r152 r153 r159 r160
      have H64 : ∀ (r150 : Int) (r151 : Int), Nx 68 (gB F [cellCh b1 [v2, (.int .i64 r_0_p)] 122] w0) (feet [cellCh b1 [v2, (.int .i64 r_0_p)] 122]) w0 (wpAnyH Tryd.prog .any (opsAt Tryd.f128 [1, 1, 1, 0]) Qd (Mem (gB F [cellCh b1 [v2, (.int .i64 r_0_p)] 122] w0) (feet [cellCh b1 [v2, (.int .i64 r_0_p)] 122]) w0 [cellCh b5 [(.int .i64 0), (.int .i64 0)] 83, snapCh w0 F]) 9 #[true, true, true, true, true, true, false, false, true, false, false, false, false, false, false, false]) [(0, (.pointer (some ⟨b1, 0, none⟩))), (1, (.int .i64 top_1)), (2, (.int .i64 n_2)), (6, (.pointer (some ⟨b5, 0, none⟩))), (7, (.pointer (some ⟨b10, 0, none⟩))), (30, (.int .i64 top_1)), (35, (.pointer (some ⟨b1, 0, none⟩))), (38, (.pointer (some ⟨b1, 0, none⟩))), (32, (.int .i64 t145)), (34, (.int .i64 r150))] [cellCh b1 [v2, (.int .i64 r151)] 122, cellCh b10 [(.int .i64 t145), (.int .i64 0)] 83, cellCh b5 [(.int .i64 0), (.int .i64 0)] 83, snapCh w0 F] (L_spec_l20Rd_pick r_0_b r151 256 (fun (r152, r153) => L_spec_l20Rd_pick r_0_b r153 4 (fun (r155, r156) => idxW ([0, r150, r152, 4096]) r155 (fun e157 => k149 (r156, (min top_1 (w64 (t145 + e157)))))))) := by
        intro r150 r151
        refine d_one (i := 6) rfl (by kernel_rfl) (o_call (vs := [(.pointer (some ⟨b1, 0, none⟩)), (.int .i64 256)]) (M0 := [cellCh b1 [v2, (.int .i64 r151)] 122]) Tryd.call68 rfl rfl (by intro w m h; exact (w_spec_l20Rd_pick (F := allB [cellCh b1 [v2, (.int .i64 r151)] 122] w) (r_0_b := r_0_b) (r_0_p := r151) (n_1 := 256) allB_ok m.given (m.rdM 2 rfl (reads_snap hv2)) h).mono (fun _ _ k => ret_free (fun r u => (fr_cons free_cell fr_nil)) k)) ?_); rintro ⟨r152, r153⟩ _
        refine d_and (fun w m => m.pick [2, 3] rfl) ?_
        refine pk [0, 1, 2, 3] rfl ?_
        refine re (E' := [(0, (.pointer (some ⟨b1, 0, none⟩))), (1, (.int .i64 top_1)), (2, (.int .i64 n_2)), (6, (.pointer (some ⟨b5, 0, none⟩))), (7, (.pointer (some ⟨b10, 0, none⟩))), (30, (.int .i64 top_1)), (38, (.pointer (some ⟨b1, 0, none⟩))), (32, (.int .i64 t145)), (34, (.int .i64 r150)), (36, (.int .i64 r152))]) ⟨rfl, rfl, rfl, rfl, rfl, rfl, rfl, rfl, rfl, rfl, trivial⟩ ?_
        exact H63 r150 r151 r152 r153
      have H65 : ∀ (_ : Unit), Nx 68 (gB F [cellCh b1 [v2, (.int .i64 r_0_p)] 122] w0) (feet [cellCh b1 [v2, (.int .i64 r_0_p)] 122]) w0 (wpAnyH Tryd.prog .any (opsAt Tryd.f128 [1, 1, 1, 0]) Qd (Mem (gB F [cellCh b1 [v2, (.int .i64 r_0_p)] 122] w0) (feet [cellCh b1 [v2, (.int .i64 r_0_p)] 122]) w0 [cellCh b5 [(.int .i64 0), (.int .i64 0)] 83, snapCh w0 F]) 10 #[true, true, true, true, false, true, false, false, true, false, false, false, false, false, false, false]) [(0, (.pointer (some ⟨b1, 0, none⟩))), (1, (.int .i64 top_1)), (2, (.int .i64 n_2)), (6, (.pointer (some ⟨b5, 0, none⟩))), (7, (.pointer (some ⟨b10, 0, none⟩))), (30, (.int .i64 top_1)), (33, (.pointer (some ⟨b1, 0, none⟩))), (35, (.pointer (some ⟨b1, 0, none⟩))), (38, (.pointer (some ⟨b1, 0, none⟩))), (32, (.int .i64 t145))] [cellCh b1 [v2, (.int .i64 t144)] 122, cellCh b10 [(.int .i64 t145), (.int .i64 0)] 83, cellCh b5 [(.int .i64 0), (.int .i64 0)] 83, snapCh w0 F] (L_spec_l20Rd_pick r_0_b t144 4 (fun (r150, r151) => L_spec_l20Rd_pick r_0_b r151 256 (fun (r152, r153) => L_spec_l20Rd_pick r_0_b r153 4 (fun (r155, r156) => idxW ([0, r150, r152, 4096]) r155 (fun e157 => k149 (r156, (min top_1 (w64 (t145 + e157))))))))) := by
        intro _
        refine d_one (i := 4) rfl (by kernel_rfl) (o_call (vs := [(.pointer (some ⟨b1, 0, none⟩)), (.int .i64 4)]) (M0 := [cellCh b1 [v2, (.int .i64 t144)] 122]) Tryd.call68 rfl rfl (by intro w m h; exact (w_spec_l20Rd_pick (F := allB [cellCh b1 [v2, (.int .i64 t144)] 122] w) (r_0_b := r_0_b) (r_0_p := t144) (n_1 := 4) allB_ok m.given (m.rdM 2 rfl (reads_snap hv2)) h).mono (fun _ _ k => ret_free (fun r u => (fr_cons free_cell fr_nil)) k)) ?_); rintro ⟨r150, r151⟩ _
        refine d_and (fun w m => m.pick [2, 3] rfl) ?_
        refine pk [0, 1, 2, 3] rfl ?_
        refine re (E' := [(0, (.pointer (some ⟨b1, 0, none⟩))), (1, (.int .i64 top_1)), (2, (.int .i64 n_2)), (6, (.pointer (some ⟨b5, 0, none⟩))), (7, (.pointer (some ⟨b10, 0, none⟩))), (30, (.int .i64 top_1)), (35, (.pointer (some ⟨b1, 0, none⟩))), (38, (.pointer (some ⟨b1, 0, none⟩))), (32, (.int .i64 t145)), (34, (.int .i64 r150))]) ⟨rfl, rfl, rfl, rfl, rfl, rfl, rfl, rfl, rfl, rfl, trivial⟩ ?_
        exact H64 r150 r151
      have H66 : ∀ (r162 : Int) (r163 : Int) (r164 : Int) (r165 : Int) (v166 : Value) (r167 : Int) (r168 : Int) (e169 : Int) (h170 : ([0, r162, r164, 4096])[(r167).toNat]? = some e169), Nx 68 (gB F [cellCh b1 [v2, (.int .i64 r_0_p)] 122] w0) (feet [cellCh b1 [v2, (.int .i64 r_0_p)] 122]) w0 (wpAnyH Tryd.prog .any (opsAt Tryd.f128 [1, 1, 1, 0]) Qd (Mem (gB F [cellCh b1 [v2, (.int .i64 r_0_p)] 122] w0) (feet [cellCh b1 [v2, (.int .i64 r_0_p)] 122]) w0 [cellCh b5 [(.int .i64 0), (.int .i64 0)] 83, snapCh w0 F]) 5 #[true, true, false, true, true, true, true, true, true, true, true, true, false, false, false, false]) [(0, (.pointer (some ⟨b1, 0, none⟩))), (1, (.int .i64 top_1)), (2, (.int .i64 n_2)), (6, (.pointer (some ⟨b5, 0, none⟩))), (7, (.pointer (some ⟨b10, 0, none⟩))), (30, (.int .i64 top_1)), (31, (.pointer (some ⟨b10, 0, none⟩))), (41, (.int .i64 e169))] [cellCh b1 [v2, (.int .i64 r168)] 122, cellCh b10 [(.int .i64 t145), (.int .i64 0)] 83, cellCh b5 [(.int .i64 0), (.int .i64 0)] 83, snapCh w0 F] (k149 (r168, (min top_1 (w64 (t145 + e169))))) := by
        intro r162 r163 r164 r165 v166 r167 r168 e169 h170
        refine d_one (i := 2) rfl (by kernel_rfl) (o_ldc m_op (v := (.int .i64 t145)) 1 rfl rfl rfl ty3 rfl ?_)
        refine d_and (fun w m => m.pick [2, 3] rfl) ?_
        refine pk [0, 1, 2, 3] rfl ?_
        refine re (E' := [(0, (.pointer (some ⟨b1, 0, none⟩))), (1, (.int .i64 top_1)), (2, (.int .i64 n_2)), (6, (.pointer (some ⟨b5, 0, none⟩))), (7, (.pointer (some ⟨b10, 0, none⟩))), (30, (.int .i64 top_1)), (32, (.int .i64 t145)), (41, (.int .i64 e169))]) ⟨rfl, rfl, rfl, rfl, rfl, rfl, rfl, rfl, trivial⟩ ?_
        exact H58 r162 r163 r164 r165 v166 r167 r168 e169 h170
      have H67 : ∀ (r162 : Int) (r163 : Int) (r164 : Int) (r165 : Int) (v166 : Value) (r167 : Int) (r168 : Int) (e169 : Int) (h170 : ([0, r162, r164, 4096])[(r167).toNat]? = some e169), Nx 68 (gB F [cellCh b1 [v2, (.int .i64 r_0_p)] 122] w0) (feet [cellCh b1 [v2, (.int .i64 r_0_p)] 122]) w0 (wpAnyH Tryd.prog .any (opsAt Tryd.f128 [1, 1, 1, 0]) Qd (Mem (gB F [cellCh b1 [v2, (.int .i64 r_0_p)] 122] w0) (feet [cellCh b1 [v2, (.int .i64 r_0_p)] 122]) w0 [cellCh b5 [(.int .i64 0), (.int .i64 0)] 83, snapCh w0 F]) 6 #[true, true, false, true, true, true, true, true, true, true, true, false, false, false, false, false]) [(0, (.pointer (some ⟨b1, 0, none⟩))), (1, (.int .i64 top_1)), (2, (.int .i64 n_2)), (6, (.pointer (some ⟨b5, 0, none⟩))), (7, (.pointer (some ⟨b10, 0, none⟩))), (30, (.int .i64 top_1)), (31, (.pointer (some ⟨b10, 0, none⟩))), (40, (pEl v166 r167 1 0))] [cellCh b1 [v2, (.int .i64 r168)] 122, ownCh elInt 3 v166 ([0, r162, r164, 4096]), cellCh b10 [(.int .i64 t145), (.int .i64 0)] 83, cellCh b5 [(.int .i64 0), (.int .i64 0)] 83, snapCh w0 F] (k149 (r168, (min top_1 (w64 (t145 + e169))))) := by
        intro r162 r163 r164 r165 v166 r167 r168 e169 h170
        refine d_two (i := 2) (j := 11) rfl rfl (by kernel_rfl) ?_ ?_
        · intro o ho; cases ho
          refine o_ldc m_op (v := (.int .i64 t145)) 2 rfl rfl rfl ty3 rfl ?_
          refine d_and (fun w m => m.pick [3, 4] rfl) ?_
          refine pk [0, 1, 2, 3, 4] rfl ?_
          refine re (E' := [(0, (.pointer (some ⟨b1, 0, none⟩))), (1, (.int .i64 top_1)), (2, (.int .i64 n_2)), (6, (.pointer (some ⟨b5, 0, none⟩))), (7, (.pointer (some ⟨b10, 0, none⟩))), (30, (.int .i64 top_1)), (32, (.int .i64 t145)), (40, (pEl v166 r167 1 0))]) ⟨rfl, rfl, rfl, rfl, rfl, rfl, rfl, rfl, trivial⟩ ?_
          exact H59 r162 r163 r164 r165 v166 r167 r168 e169 h170
        · intro o ho; cases ho
          refine o_lds m_op (enc := encInt) (u := (.int .i64 e169)) 1 rfl reads_own flelInt rfl h170 rfl rfl ty3 rfl ?_
          refine d_and (fun w m => m.pick [3, 4] rfl) ?_
          refine pk [0, 2, 3, 4] rfl ?_
          refine re (E' := [(0, (.pointer (some ⟨b1, 0, none⟩))), (1, (.int .i64 top_1)), (2, (.int .i64 n_2)), (6, (.pointer (some ⟨b5, 0, none⟩))), (7, (.pointer (some ⟨b10, 0, none⟩))), (30, (.int .i64 top_1)), (31, (.pointer (some ⟨b10, 0, none⟩))), (41, (.int .i64 e169))]) ⟨rfl, rfl, rfl, rfl, rfl, rfl, rfl, rfl, trivial⟩ ?_
          exact H66 r162 r163 r164 r165 v166 r167 r168 e169 h170
      have H68 : ∀ (r162 : Int) (r163 : Int) (r164 : Int) (r165 : Int) (v166 : Value) (r167 : Int) (r168 : Int), Nx 68 (gB F [cellCh b1 [v2, (.int .i64 r_0_p)] 122] w0) (feet [cellCh b1 [v2, (.int .i64 r_0_p)] 122]) w0 (wpAnyH Tryd.prog .any (opsAt Tryd.f128 [1, 1, 1, 0]) Qd (Mem (gB F [cellCh b1 [v2, (.int .i64 r_0_p)] 122] w0) (feet [cellCh b1 [v2, (.int .i64 r_0_p)] 122]) w0 [cellCh b5 [(.int .i64 0), (.int .i64 0)] 83, snapCh w0 F]) 7 #[true, true, false, true, true, true, true, true, true, true, false, false, false, false, false, false]) [(0, (.pointer (some ⟨b1, 0, none⟩))), (1, (.int .i64 top_1)), (2, (.int .i64 n_2)), (6, (.pointer (some ⟨b5, 0, none⟩))), (7, (.pointer (some ⟨b10, 0, none⟩))), (30, (.int .i64 top_1)), (31, (.pointer (some ⟨b10, 0, none⟩))), (37, v166), (39, (.int .i64 r167))] [cellCh b1 [v2, (.int .i64 r168)] 122, ownCh elInt 3 v166 ([0, r162, r164, 4096]), cellCh b10 [(.int .i64 t145), (.int .i64 0)] 83, cellCh b5 [(.int .i64 0), (.int .i64 0)] 83, snapCh w0 F] (idxW ([0, r162, r164, 4096]) r167 (fun e157 => k149 (r168, (min top_1 (w64 (t145 + e157)))))) := by
        intro r162 r163 r164 r165 v166 r167 r168
        refine d_two (i := 2) (j := 10) rfl rfl (by kernel_rfl) ?_ ?_
        · intro o ho; cases ho
          refine o_ldc m_op (v := (.int .i64 t145)) 2 rfl rfl rfl ty3 rfl ?_
          refine d_and (fun w m => m.pick [3, 4] rfl) ?_
          refine pk [0, 1, 2, 3, 4] rfl ?_
          refine re (E' := [(0, (.pointer (some ⟨b1, 0, none⟩))), (1, (.int .i64 top_1)), (2, (.int .i64 n_2)), (6, (.pointer (some ⟨b5, 0, none⟩))), (7, (.pointer (some ⟨b10, 0, none⟩))), (30, (.int .i64 top_1)), (32, (.int .i64 t145)), (37, v166), (39, (.int .i64 r167))]) ⟨rfl, rfl, rfl, rfl, rfl, rfl, rfl, rfl, rfl, trivial⟩ ?_
          exact H60 r162 r163 r164 r165 v166 r167 r168
        · intro o ho; cases ho
          refine o_idx m_op 1 rfl reads_own rfl rfl rfl el99 ?_; intro e169 h170
          refine d_and (fun w m => m.pick [3, 4] rfl) ?_
          refine pk [0, 1, 2, 3, 4] rfl ?_
          refine re (E' := [(0, (.pointer (some ⟨b1, 0, none⟩))), (1, (.int .i64 top_1)), (2, (.int .i64 n_2)), (6, (.pointer (some ⟨b5, 0, none⟩))), (7, (.pointer (some ⟨b10, 0, none⟩))), (30, (.int .i64 top_1)), (31, (.pointer (some ⟨b10, 0, none⟩))), (40, (pEl v166 r167 1 0))]) ⟨rfl, rfl, rfl, rfl, rfl, rfl, rfl, rfl, trivial⟩ ?_
          exact H67 r162 r163 r164 r165 v166 r167 r168 e169 h170
      have H69 : ∀ (r162 : Int) (r163 : Int) (r164 : Int) (r165 : Int) (v166 : Value), Nx 68 (gB F [cellCh b1 [v2, (.int .i64 r_0_p)] 122] w0) (feet [cellCh b1 [v2, (.int .i64 r_0_p)] 122]) w0 (wpAnyH Tryd.prog .any (opsAt Tryd.f128 [1, 1, 1, 0]) Qd (Mem (gB F [cellCh b1 [v2, (.int .i64 r_0_p)] 122] w0) (feet [cellCh b1 [v2, (.int .i64 r_0_p)] 122]) w0 [cellCh b5 [(.int .i64 0), (.int .i64 0)] 83, snapCh w0 F]) 8 #[true, true, false, true, true, true, true, true, true, false, false, false, false, false, false, false]) [(0, (.pointer (some ⟨b1, 0, none⟩))), (1, (.int .i64 top_1)), (2, (.int .i64 n_2)), (6, (.pointer (some ⟨b5, 0, none⟩))), (7, (.pointer (some ⟨b10, 0, none⟩))), (30, (.int .i64 top_1)), (31, (.pointer (some ⟨b10, 0, none⟩))), (38, (.pointer (some ⟨b1, 0, none⟩))), (37, v166)] [ownCh elInt 3 v166 ([0, r162, r164, 4096]), cellCh b1 [v2, (.int .i64 r165)] 122, cellCh b10 [(.int .i64 t145), (.int .i64 0)] 83, cellCh b5 [(.int .i64 0), (.int .i64 0)] 83, snapCh w0 F] (L_spec_l20Rd_pick r_0_b r165 4 (fun (r155, r156) => idxW ([0, r162, r164, 4096]) r155 (fun e157 => k149 (r156, (min top_1 (w64 (t145 + e157))))))) := by
        intro r162 r163 r164 r165 v166
        refine d_two (i := 2) (j := 9) rfl rfl (by kernel_rfl) ?_ ?_
        · intro o ho; cases ho
          refine o_ldc m_op (v := (.int .i64 t145)) 2 rfl rfl rfl ty3 rfl ?_
          refine d_and (fun w m => m.pick [3, 4] rfl) ?_
          refine pk [0, 1, 2, 3, 4] rfl ?_
          refine re (E' := [(0, (.pointer (some ⟨b1, 0, none⟩))), (1, (.int .i64 top_1)), (2, (.int .i64 n_2)), (6, (.pointer (some ⟨b5, 0, none⟩))), (7, (.pointer (some ⟨b10, 0, none⟩))), (30, (.int .i64 top_1)), (38, (.pointer (some ⟨b1, 0, none⟩))), (32, (.int .i64 t145)), (37, v166)]) ⟨rfl, rfl, rfl, rfl, rfl, rfl, rfl, rfl, rfl, trivial⟩ ?_
          exact H61 r162 r163 r164 r165 v166
        · intro o ho; cases ho
          refine pk [1, 0, 2, 3, 4] rfl ?_
          refine o_call (vs := [(.pointer (some ⟨b1, 0, none⟩)), (.int .i64 4)]) (M0 := [cellCh b1 [v2, (.int .i64 r165)] 122]) Tryd.call68 rfl rfl (by intro w m h; exact (w_spec_l20Rd_pick (F := allB [cellCh b1 [v2, (.int .i64 r165)] 122] w) (r_0_b := r_0_b) (r_0_p := r165) (n_1 := 4) allB_ok m.given (m.rdM 3 rfl (reads_snap hv2)) h).mono (fun _ _ k => ret_free (fun r u => (fr_cons free_cell fr_nil)) k)) ?_; rintro ⟨r167, r168⟩ _
          refine d_and (fun w m => m.pick [3, 4] rfl) ?_
          refine pk [0, 1, 2, 3, 4] rfl ?_
          refine re (E' := [(0, (.pointer (some ⟨b1, 0, none⟩))), (1, (.int .i64 top_1)), (2, (.int .i64 n_2)), (6, (.pointer (some ⟨b5, 0, none⟩))), (7, (.pointer (some ⟨b10, 0, none⟩))), (30, (.int .i64 top_1)), (31, (.pointer (some ⟨b10, 0, none⟩))), (37, v166), (39, (.int .i64 r167))]) ⟨rfl, rfl, rfl, rfl, rfl, rfl, rfl, rfl, rfl, trivial⟩ ?_
          exact H68 r162 r163 r164 r165 v166 r167 r168
      have H70 : ∀ (r162 : Int) (r163 : Int) (r164 : Int) (r165 : Int) (r171 : Int) (r172 : Int), Nx 68 (gB F [cellCh b1 [v2, (.int .i64 r_0_p)] 122] w0) (feet [cellCh b1 [v2, (.int .i64 r_0_p)] 122]) w0 (wpAnyH Tryd.prog .any (opsAt Tryd.f128 [1, 1, 1, 0]) Qd (Mem (gB F [cellCh b1 [v2, (.int .i64 r_0_p)] 122] w0) (feet [cellCh b1 [v2, (.int .i64 r_0_p)] 122]) w0 [cellCh b5 [(.int .i64 0), (.int .i64 0)] 83, snapCh w0 F]) 8 #[true, true, false, true, true, true, true, false, true, true, false, false, false, false, false, false]) [(0, (.pointer (some ⟨b1, 0, none⟩))), (1, (.int .i64 top_1)), (2, (.int .i64 n_2)), (6, (.pointer (some ⟨b5, 0, none⟩))), (7, (.pointer (some ⟨b10, 0, none⟩))), (30, (.int .i64 top_1)), (31, (.pointer (some ⟨b10, 0, none⟩))), (34, (.int .i64 r162)), (36, (.int .i64 r164)), (39, (.int .i64 r171))] [cellCh b1 [v2, (.int .i64 r172)] 122, cellCh b10 [(.int .i64 t145), (.int .i64 0)] 83, cellCh b5 [(.int .i64 0), (.int .i64 0)] 83, snapCh w0 F] (idxW ([0, r162, r164, 4096]) r171 (fun e157 => k149 (r172, (min top_1 (w64 (t145 + e157)))))) := by
        intro r162 r163 r164 r165 r171 r172
        refine d_two (i := 2) (j := 7) rfl rfl (by kernel_rfl) ?_ ?_
        · intro o ho; cases ho
          refine o_ldc m_op (v := (.int .i64 t145)) 1 rfl rfl rfl ty3 rfl ?_
          refine d_and (fun w m => m.pick [2, 3] rfl) ?_
          refine pk [0, 1, 2, 3] rfl ?_
          refine re (E' := [(0, (.pointer (some ⟨b1, 0, none⟩))), (1, (.int .i64 top_1)), (2, (.int .i64 n_2)), (6, (.pointer (some ⟨b5, 0, none⟩))), (7, (.pointer (some ⟨b10, 0, none⟩))), (30, (.int .i64 top_1)), (32, (.int .i64 t145)), (34, (.int .i64 r162)), (36, (.int .i64 r164)), (39, (.int .i64 r171))]) ⟨rfl, rfl, rfl, rfl, rfl, rfl, rfl, rfl, rfl, rfl, trivial⟩ ?_
          exact H62 r162 r163 r164 r165 r171 r172
        · intro o ho; cases ho
          refine o_bsl (enc := encInt) (qs := [(0, (.int .i64 0)), (1, (.int .i64 r162)), (2, (.int .i64 r164)), (3, (.int .i64 4096))]) (cells := [(.int .i64 0), (.int .i64 r162), (.int .i64 r164), (.int .i64 4096)]) ([0, r162, r164, 4096]) flelInt (by intro ρ h; simp only [List.map_toArray, List.map_cons, List.map_nil, h (.const (.int .i64 0)) _ rfl, h (.tmp 34) _ rfl, h (.tmp 36) _ rfl, h (.const (.int .i64 4096)) _ rfl]) rfl el99 zero3 rfl rfl rfl rfl rfl rfl ?_; intro v173
          refine d_and (fun w m => m.pick [3, 4] rfl) ?_
          refine pk [1, 0, 2, 3, 4] rfl ?_
          refine re (E' := [(0, (.pointer (some ⟨b1, 0, none⟩))), (1, (.int .i64 top_1)), (2, (.int .i64 n_2)), (6, (.pointer (some ⟨b5, 0, none⟩))), (7, (.pointer (some ⟨b10, 0, none⟩))), (30, (.int .i64 top_1)), (31, (.pointer (some ⟨b10, 0, none⟩))), (37, v173), (39, (.int .i64 r171))]) ⟨rfl, rfl, rfl, rfl, rfl, rfl, rfl, rfl, rfl, trivial⟩ ?_
          exact H68 r162 r163 r164 r165 v173 r171 r172
      have H71 : ∀ (r162 : Int) (r163 : Int) (r164 : Int) (r165 : Int), Nx 68 (gB F [cellCh b1 [v2, (.int .i64 r_0_p)] 122] w0) (feet [cellCh b1 [v2, (.int .i64 r_0_p)] 122]) w0 (wpAnyH Tryd.prog .any (opsAt Tryd.f128 [1, 1, 1, 0]) Qd (Mem (gB F [cellCh b1 [v2, (.int .i64 r_0_p)] 122] w0) (feet [cellCh b1 [v2, (.int .i64 r_0_p)] 122]) w0 [cellCh b5 [(.int .i64 0), (.int .i64 0)] 83, snapCh w0 F]) 9 #[true, true, false, true, true, true, true, false, true, false, false, false, false, false, false, false]) [(0, (.pointer (some ⟨b1, 0, none⟩))), (1, (.int .i64 top_1)), (2, (.int .i64 n_2)), (6, (.pointer (some ⟨b5, 0, none⟩))), (7, (.pointer (some ⟨b10, 0, none⟩))), (30, (.int .i64 top_1)), (31, (.pointer (some ⟨b10, 0, none⟩))), (38, (.pointer (some ⟨b1, 0, none⟩))), (34, (.int .i64 r162)), (36, (.int .i64 r164))] [cellCh b1 [v2, (.int .i64 r165)] 122, cellCh b10 [(.int .i64 t145), (.int .i64 0)] 83, cellCh b5 [(.int .i64 0), (.int .i64 0)] 83, snapCh w0 F] (L_spec_l20Rd_pick r_0_b r165 4 (fun (r155, r156) => idxW ([0, r162, r164, 4096]) r155 (fun e157 => k149 (r156, (min top_1 (w64 (t145 + e157))))))) := by
        intro r162 r163 r164 r165
        refine d_three (i := 2) (j := 7) (l := 9) rfl rfl rfl (by kernel_rfl) ?_ ?_ ?_
        · intro o ho; cases ho
          refine o_ldc m_op (v := (.int .i64 t145)) 1 rfl rfl rfl ty3 rfl ?_
          refine d_and (fun w m => m.pick [2, 3] rfl) ?_
          refine pk [0, 1, 2, 3] rfl ?_
          refine re (E' := [(0, (.pointer (some ⟨b1, 0, none⟩))), (1, (.int .i64 top_1)), (2, (.int .i64 n_2)), (6, (.pointer (some ⟨b5, 0, none⟩))), (7, (.pointer (some ⟨b10, 0, none⟩))), (30, (.int .i64 top_1)), (38, (.pointer (some ⟨b1, 0, none⟩))), (32, (.int .i64 t145)), (34, (.int .i64 r162)), (36, (.int .i64 r164))]) ⟨rfl, rfl, rfl, rfl, rfl, rfl, rfl, rfl, rfl, rfl, trivial⟩ ?_
          exact H63 r162 r163 r164 r165
        · intro o ho; cases ho
          refine o_bsl (enc := encInt) (qs := [(0, (.int .i64 0)), (1, (.int .i64 r162)), (2, (.int .i64 r164)), (3, (.int .i64 4096))]) (cells := [(.int .i64 0), (.int .i64 r162), (.int .i64 r164), (.int .i64 4096)]) ([0, r162, r164, 4096]) flelInt (by intro ρ h; simp only [List.map_toArray, List.map_cons, List.map_nil, h (.const (.int .i64 0)) _ rfl, h (.tmp 34) _ rfl, h (.tmp 36) _ rfl, h (.const (.int .i64 4096)) _ rfl]) rfl el99 zero3 rfl rfl rfl rfl rfl rfl ?_; intro v166
          refine d_and (fun w m => m.pick [3, 4] rfl) ?_
          refine pk [0, 1, 2, 3, 4] rfl ?_
          refine re (E' := [(0, (.pointer (some ⟨b1, 0, none⟩))), (1, (.int .i64 top_1)), (2, (.int .i64 n_2)), (6, (.pointer (some ⟨b5, 0, none⟩))), (7, (.pointer (some ⟨b10, 0, none⟩))), (30, (.int .i64 top_1)), (31, (.pointer (some ⟨b10, 0, none⟩))), (38, (.pointer (some ⟨b1, 0, none⟩))), (37, v166)]) ⟨rfl, rfl, rfl, rfl, rfl, rfl, rfl, rfl, rfl, trivial⟩ ?_
          exact H69 r162 r163 r164 r165 v166
        · intro o ho; cases ho
          refine o_call (vs := [(.pointer (some ⟨b1, 0, none⟩)), (.int .i64 4)]) (M0 := [cellCh b1 [v2, (.int .i64 r165)] 122]) Tryd.call68 rfl rfl (by intro w m h; exact (w_spec_l20Rd_pick (F := allB [cellCh b1 [v2, (.int .i64 r165)] 122] w) (r_0_b := r_0_b) (r_0_p := r165) (n_1 := 4) allB_ok m.given (m.rdM 2 rfl (reads_snap hv2)) h).mono (fun _ _ k => ret_free (fun r u => (fr_cons free_cell fr_nil)) k)) ?_; rintro ⟨r171, r172⟩ _
          refine d_and (fun w m => m.pick [2, 3] rfl) ?_
          refine pk [0, 1, 2, 3] rfl ?_
          refine re (E' := [(0, (.pointer (some ⟨b1, 0, none⟩))), (1, (.int .i64 top_1)), (2, (.int .i64 n_2)), (6, (.pointer (some ⟨b5, 0, none⟩))), (7, (.pointer (some ⟨b10, 0, none⟩))), (30, (.int .i64 top_1)), (31, (.pointer (some ⟨b10, 0, none⟩))), (34, (.int .i64 r162)), (36, (.int .i64 r164)), (39, (.int .i64 r171))]) ⟨rfl, rfl, rfl, rfl, rfl, rfl, rfl, rfl, rfl, rfl, trivial⟩ ?_
          exact H70 r162 r163 r164 r165 r171 r172
      have H72 : ∀ (r162 : Int) (r163 : Int), Nx 68 (gB F [cellCh b1 [v2, (.int .i64 r_0_p)] 122] w0) (feet [cellCh b1 [v2, (.int .i64 r_0_p)] 122]) w0 (wpAnyH Tryd.prog .any (opsAt Tryd.f128 [1, 1, 1, 0]) Qd (Mem (gB F [cellCh b1 [v2, (.int .i64 r_0_p)] 122] w0) (feet [cellCh b1 [v2, (.int .i64 r_0_p)] 122]) w0 [cellCh b5 [(.int .i64 0), (.int .i64 0)] 83, snapCh w0 F]) 10 #[true, true, false, true, true, true, false, false, true, false, false, false, false, false, false, false]) [(0, (.pointer (some ⟨b1, 0, none⟩))), (1, (.int .i64 top_1)), (2, (.int .i64 n_2)), (6, (.pointer (some ⟨b5, 0, none⟩))), (7, (.pointer (some ⟨b10, 0, none⟩))), (30, (.int .i64 top_1)), (31, (.pointer (some ⟨b10, 0, none⟩))), (35, (.pointer (some ⟨b1, 0, none⟩))), (38, (.pointer (some ⟨b1, 0, none⟩))), (34, (.int .i64 r162))] [cellCh b1 [v2, (.int .i64 r163)] 122, cellCh b10 [(.int .i64 t145), (.int .i64 0)] 83, cellCh b5 [(.int .i64 0), (.int .i64 0)] 83, snapCh w0 F] (L_spec_l20Rd_pick r_0_b r163 256 (fun (r152, r153) => L_spec_l20Rd_pick r_0_b r153 4 (fun (r155, r156) => idxW ([0, r162, r152, 4096]) r155 (fun e157 => k149 (r156, (min top_1 (w64 (t145 + e157)))))))) := by
        intro r162 r163
        refine d_two (i := 2) (j := 6) rfl rfl (by kernel_rfl) ?_ ?_
        · intro o ho; cases ho
          refine o_ldc m_op (v := (.int .i64 t145)) 1 rfl rfl rfl ty3 rfl ?_
          refine d_and (fun w m => m.pick [2, 3] rfl) ?_
          refine pk [0, 1, 2, 3] rfl ?_
          refine re (E' := [(0, (.pointer (some ⟨b1, 0, none⟩))), (1, (.int .i64 top_1)), (2, (.int .i64 n_2)), (6, (.pointer (some ⟨b5, 0, none⟩))), (7, (.pointer (some ⟨b10, 0, none⟩))), (30, (.int .i64 top_1)), (35, (.pointer (some ⟨b1, 0, none⟩))), (38, (.pointer (some ⟨b1, 0, none⟩))), (32, (.int .i64 t145)), (34, (.int .i64 r162))]) ⟨rfl, rfl, rfl, rfl, rfl, rfl, rfl, rfl, rfl, rfl, trivial⟩ ?_
          exact H64 r162 r163
        · intro o ho; cases ho
          refine o_call (vs := [(.pointer (some ⟨b1, 0, none⟩)), (.int .i64 256)]) (M0 := [cellCh b1 [v2, (.int .i64 r163)] 122]) Tryd.call68 rfl rfl (by intro w m h; exact (w_spec_l20Rd_pick (F := allB [cellCh b1 [v2, (.int .i64 r163)] 122] w) (r_0_b := r_0_b) (r_0_p := r163) (n_1 := 256) allB_ok m.given (m.rdM 2 rfl (reads_snap hv2)) h).mono (fun _ _ k => ret_free (fun r u => (fr_cons free_cell fr_nil)) k)) ?_; rintro ⟨r164, r165⟩ _
          refine d_and (fun w m => m.pick [2, 3] rfl) ?_
          refine pk [0, 1, 2, 3] rfl ?_
          refine re (E' := [(0, (.pointer (some ⟨b1, 0, none⟩))), (1, (.int .i64 top_1)), (2, (.int .i64 n_2)), (6, (.pointer (some ⟨b5, 0, none⟩))), (7, (.pointer (some ⟨b10, 0, none⟩))), (30, (.int .i64 top_1)), (31, (.pointer (some ⟨b10, 0, none⟩))), (38, (.pointer (some ⟨b1, 0, none⟩))), (34, (.int .i64 r162)), (36, (.int .i64 r164))]) ⟨rfl, rfl, rfl, rfl, rfl, rfl, rfl, rfl, rfl, rfl, trivial⟩ ?_
          exact H71 r162 r163 r164 r165
      refine o_mv (dt 0 (fun w m => m.pick [2, 3] rfl)) rfl rfl ?_
      refine o_fad (dt 1 (fun w m => m.pick [2, 3] rfl)) rfl rfl fld83_0 rfl ?_
      refine o_mv (dt 3 (fun w m => m.pick [2, 3] rfl)) rfl rfl ?_
      refine o_mv (dt 5 (fun w m => m.pick [2, 3] rfl)) rfl rfl ?_
      refine o_mv (dt 8 (fun w m => m.pick [2, 3] rfl)) rfl rfl ?_
      refine d_two (i := 2) (j := 4) rfl rfl (by kernel_rfl) ?_ ?_
      · intro o ho; cases ho
        refine o_ldc m_op (v := (.int .i64 t145)) 1 rfl rfl rfl ty3 rfl ?_
        refine d_and (fun w m => m.pick [2, 3] rfl) ?_
        refine pk [0, 1, 2, 3] rfl ?_
        refine re (E' := [(0, (.pointer (some ⟨b1, 0, none⟩))), (1, (.int .i64 top_1)), (2, (.int .i64 n_2)), (6, (.pointer (some ⟨b5, 0, none⟩))), (7, (.pointer (some ⟨b10, 0, none⟩))), (30, (.int .i64 top_1)), (33, (.pointer (some ⟨b1, 0, none⟩))), (35, (.pointer (some ⟨b1, 0, none⟩))), (38, (.pointer (some ⟨b1, 0, none⟩))), (32, (.int .i64 t145))]) ⟨rfl, rfl, rfl, rfl, rfl, rfl, rfl, rfl, rfl, rfl, trivial⟩ ?_
        exact H65 ()
      · intro o ho; cases ho
        refine o_call (vs := [(.pointer (some ⟨b1, 0, none⟩)), (.int .i64 4)]) (M0 := [cellCh b1 [v2, (.int .i64 t144)] 122]) Tryd.call68 rfl rfl (by intro w m h; exact (w_spec_l20Rd_pick (F := allB [cellCh b1 [v2, (.int .i64 t144)] 122] w) (r_0_b := r_0_b) (r_0_p := t144) (n_1 := 4) allB_ok m.given (m.rdM 2 rfl (reads_snap hv2)) h).mono (fun _ _ k => ret_free (fun r u => (fr_cons free_cell fr_nil)) k)) ?_; rintro ⟨r162, r163⟩ _
        refine d_and (fun w m => m.pick [2, 3] rfl) ?_
        refine pk [0, 1, 2, 3] rfl ?_
        refine re (E' := [(0, (.pointer (some ⟨b1, 0, none⟩))), (1, (.int .i64 top_1)), (2, (.int .i64 n_2)), (6, (.pointer (some ⟨b5, 0, none⟩))), (7, (.pointer (some ⟨b10, 0, none⟩))), (30, (.int .i64 top_1)), (31, (.pointer (some ⟨b10, 0, none⟩))), (35, (.pointer (some ⟨b1, 0, none⟩))), (38, (.pointer (some ⟨b1, 0, none⟩))), (34, (.int .i64 r162))]) ⟨rfl, rfl, rfl, rfl, rfl, rfl, rfl, rfl, rfl, rfl, trivial⟩ ?_
        exact H72 r162 r163
    · rintro ⟨t147, t148⟩ a w ⟨hE, hm⟩ h
      refine nx_of hE hm h ?_
      clear hE hm h
      refine c_seq ?_
      refine c_seq ?_
      refine c_region ?_
      refine o_mv st rfl rfl ?_
      refine o_mv st rfl rfl ?_
      refine stw (o_call (vs := [(.pointer (some ⟨b1, 0, none⟩)), (.int .i64 n_2)]) (M0 := [cellCh b1 [v2, (.int .i64 t147)] 122]) Tryd.call85 rfl rfl (by intro w m h; exact (w_spec_l20Rd_odd (F := allB [cellCh b1 [v2, (.int .i64 t147)] 122] w) (r_0_b := r_0_b) (r_0_p := t147) (n_1 := n_2) allB_ok m.given (m.rdM 2 rfl (reads_snap hv2)) h).mono (fun _ _ k => ret_free (fun r u => (fr_cons free_cell fr_nil)) k)) ?_); rintro ⟨r174, r175⟩ _
      refine c_nil ?_
      refine l_then ?_
      refine c_cond rfl ?_ ?_
      · refine c_join (σ := (Int × Int × Int)) (fun ((t176, t177, t178) : (Int × Int × Int)) (a : Act) (w : World) => Has 68 [(6, (.pointer (some ⟨b5, 0, none⟩)))] a ∧ Mem (gB F [cellCh b1 [v2, (.int .i64 r_0_p)] 122] w0) (feet [cellCh b1 [v2, (.int .i64 r_0_p)] 122]) w0 [cellCh b1 [v2, (.int .i64 t176)] 122, cellCh b5 [(.int .i64 t177), (.int .i64 t178)] 83, snapCh w0 F] w) ?_ ?_
        · intro k179
          refine c_drawQ mixed 20 rfl [cellCh b10 [(.int .i64 t145), (.int .i64 t148)] 83, snapCh w0 F] ?_
          intro Qd hP hQ
          have H81 : ∀ (v180 : Value) (r181 : Int) (r182 : Int) (e183 : GSpan) (h184 : ([(GSpan.mk (w64 (t148 + 1)) t148), (GSpan.mk (-1) t148), (GSpan.mk t145 (w64 (top_1 + 1)))])[(r181).toNat]? = some e183), Nx 68 (gB F [cellCh b1 [v2, (.int .i64 r_0_p)] 122] w0) (feet [cellCh b1 [v2, (.int .i64 r_0_p)] 122]) w0 (wpAnyH Tryd.prog .any (opsAt Tryd.f128 [1, 1, 1, 1, 0, 1, 0, 0]) Qd (Mem (gB F [cellCh b1 [v2, (.int .i64 r_0_p)] 122] w0) (feet [cellCh b1 [v2, (.int .i64 r_0_p)] 122]) w0 [cellCh b10 [(.int .i64 t145), (.int .i64 t148)] 83, snapCh w0 F]) 0 #[true, true, true, true, true, true, true, true, true, true, true, true, true, true, true, true, true, true, true, true]) [(6, (.pointer (some ⟨b5, 0, none⟩)))] [cellCh b1 [v2, (.int .i64 r182)] 122, cellCh b10 [(.int .i64 t145), (.int .i64 t148)] 83, cellCh b5 [(.int .i64 e183.xLo), (.int .i64 e183.xHi)] 83, snapCh w0 F] (k179 (r182, e183.xLo, e183.xHi)) := by
            intro v180 r181 r182 e183 h184
            refine d_done (by kernel_rfl) ?_
            exact fun a w hE hm hφ => hQ (r182, e183.xLo, e183.xHi) a w hφ ((fun a w hE hm => ⟨hE.sub ⟨rfl, trivial⟩, (hm.pick [0, 2, 3] rfl)⟩) a w hE hm)
          have H82 : ∀ (v180 : Value) (r181 : Int) (r182 : Int) (e183 : GSpan) (h184 : ([(GSpan.mk (w64 (t148 + 1)) t148), (GSpan.mk (-1) t148), (GSpan.mk t145 (w64 (top_1 + 1)))])[(r181).toNat]? = some e183), Nx 68 (gB F [cellCh b1 [v2, (.int .i64 r_0_p)] 122] w0) (feet [cellCh b1 [v2, (.int .i64 r_0_p)] 122]) w0 (wpAnyH Tryd.prog .any (opsAt Tryd.f128 [1, 1, 1, 1, 0, 1, 0, 0]) Qd (Mem (gB F [cellCh b1 [v2, (.int .i64 r_0_p)] 122] w0) (feet [cellCh b1 [v2, (.int .i64 r_0_p)] 122]) w0 [cellCh b10 [(.int .i64 t145), (.int .i64 t148)] 83, snapCh w0 F]) 1 #[true, true, true, true, true, true, true, true, true, true, true, true, true, true, true, true, true, true, true, false]) [(6, (.pointer (some ⟨b5, 0, none⟩))), (66, (.agg #[(.int .i64 e183.xLo), (.int .i64 e183.xHi)]))] [cellCh b1 [v2, (.int .i64 r182)] 122, cellCh b10 [(.int .i64 t145), (.int .i64 t148)] 83, cellCh b5 [(.int .i64 0), (.int .i64 0)] 83, snapCh w0 F] (k179 (r182, e183.xLo, e183.xHi)) := by
            intro v180 r181 r182 e183 h184
            refine d_one (i := 19) rfl (by kernel_rfl) (o_stc (cs' := [(.int .i64 e183.xLo), (.int .i64 e183.xHi)]) 2 rfl rfl rfl ty83 rfl rfl rfl rfl ?_)
            refine d_and (fun w m => m.pick [1, 3] rfl) ?_
            refine pk [0, 1, 2, 3] rfl ?_
            refine re (E' := [(6, (.pointer (some ⟨b5, 0, none⟩)))]) ⟨rfl, trivial⟩ ?_
            exact H81 v180 r181 r182 e183 h184
          have H83 : ∀ (v180 : Value) (r181 : Int) (r182 : Int) (e183 : GSpan) (h184 : ([(GSpan.mk (w64 (t148 + 1)) t148), (GSpan.mk (-1) t148), (GSpan.mk t145 (w64 (top_1 + 1)))])[(r181).toNat]? = some e183), Nx 68 (gB F [cellCh b1 [v2, (.int .i64 r_0_p)] 122] w0) (feet [cellCh b1 [v2, (.int .i64 r_0_p)] 122]) w0 (wpAnyH Tryd.prog .any (opsAt Tryd.f128 [1, 1, 1, 1, 0, 1, 0, 0]) Qd (Mem (gB F [cellCh b1 [v2, (.int .i64 r_0_p)] 122] w0) (feet [cellCh b1 [v2, (.int .i64 r_0_p)] 122]) w0 [cellCh b10 [(.int .i64 t145), (.int .i64 t148)] 83, snapCh w0 F]) 2 #[true, true, true, true, true, true, true, true, true, true, true, true, true, true, true, true, true, true, false, false]) [(6, (.pointer (some ⟨b5, 0, none⟩))), (65, (pEl v180 r181 2 0))] [cellCh b1 [v2, (.int .i64 r182)] 122, ownCh elGSpan 83 v180 ([(GSpan.mk (w64 (t148 + 1)) t148), (GSpan.mk (-1) t148), (GSpan.mk t145 (w64 (top_1 + 1)))]), cellCh b10 [(.int .i64 t145), (.int .i64 t148)] 83, cellCh b5 [(.int .i64 0), (.int .i64 0)] 83, snapCh w0 F] (k179 (r182, e183.xLo, e183.xHi)) := by
            intro v180 r181 r182 e183 h184
            refine d_one (i := 18) rfl (by kernel_rfl) (o_lds m_op (enc := encGSpan) (u := (.agg #[(.int .i64 e183.xLo), (.int .i64 e183.xHi)])) 1 rfl reads_own flelGSpan rfl h184 rfl rfl ty83 rfl ?_)
            refine d_and (fun w m => m.pick [2, 4] rfl) ?_
            refine pk [0, 2, 3, 4] rfl ?_
            refine re (E' := [(6, (.pointer (some ⟨b5, 0, none⟩))), (66, (.agg #[(.int .i64 e183.xLo), (.int .i64 e183.xHi)]))]) ⟨rfl, rfl, trivial⟩ ?_
            exact H82 v180 r181 r182 e183 h184
          have H84 : ∀ (v180 : Value) (r181 : Int) (r182 : Int), Nx 68 (gB F [cellCh b1 [v2, (.int .i64 r_0_p)] 122] w0) (feet [cellCh b1 [v2, (.int .i64 r_0_p)] 122]) w0 (wpAnyH Tryd.prog .any (opsAt Tryd.f128 [1, 1, 1, 1, 0, 1, 0, 0]) Qd (Mem (gB F [cellCh b1 [v2, (.int .i64 r_0_p)] 122] w0) (feet [cellCh b1 [v2, (.int .i64 r_0_p)] 122]) w0 [cellCh b10 [(.int .i64 t145), (.int .i64 t148)] 83, snapCh w0 F]) 3 #[true, true, true, true, true, true, true, true, true, true, true, true, true, true, true, true, true, false, false, false]) [(6, (.pointer (some ⟨b5, 0, none⟩))), (62, v180), (64, (.int .i64 r181))] [cellCh b1 [v2, (.int .i64 r182)] 122, ownCh elGSpan 83 v180 ([(GSpan.mk (w64 (t148 + 1)) t148), (GSpan.mk (-1) t148), (GSpan.mk t145 (w64 (top_1 + 1)))]), cellCh b10 [(.int .i64 t145), (.int .i64 t148)] 83, cellCh b5 [(.int .i64 0), (.int .i64 0)] 83, snapCh w0 F] (idxW ([(GSpan.mk (w64 (t148 + 1)) t148), (GSpan.mk (-1) t148), (GSpan.mk t145 (w64 (top_1 + 1)))]) r181 (fun e183 => k179 (r182, e183.xLo, e183.xHi))) := by
            intro v180 r181 r182
            refine d_one (i := 17) rfl (by kernel_rfl) (o_idx m_op 1 rfl reads_own rfl rfl rfl el84 ?_); intro e183 h184
            refine d_and (fun w m => m.pick [2, 4] rfl) ?_
            refine pk [0, 1, 2, 3, 4] rfl ?_
            refine re (E' := [(6, (.pointer (some ⟨b5, 0, none⟩))), (65, (pEl v180 r181 2 0))]) ⟨rfl, rfl, trivial⟩ ?_
            exact H83 v180 r181 r182 e183 h184
          have H85 : ∀ (v180 : Value), Nx 68 (gB F [cellCh b1 [v2, (.int .i64 r_0_p)] 122] w0) (feet [cellCh b1 [v2, (.int .i64 r_0_p)] 122]) w0 (wpAnyH Tryd.prog .any (opsAt Tryd.f128 [1, 1, 1, 1, 0, 1, 0, 0]) Qd (Mem (gB F [cellCh b1 [v2, (.int .i64 r_0_p)] 122] w0) (feet [cellCh b1 [v2, (.int .i64 r_0_p)] 122]) w0 [cellCh b10 [(.int .i64 t145), (.int .i64 t148)] 83, snapCh w0 F]) 4 #[true, true, true, true, true, true, true, true, true, true, true, true, true, true, true, true, false, false, false, false]) [(6, (.pointer (some ⟨b5, 0, none⟩))), (63, (.pointer (some ⟨b1, 0, none⟩))), (62, v180)] [ownCh elGSpan 83 v180 ([(GSpan.mk (w64 (t148 + 1)) t148), (GSpan.mk (-1) t148), (GSpan.mk t145 (w64 (top_1 + 1)))]), cellCh b1 [v2, (.int .i64 r175)] 122, cellCh b10 [(.int .i64 t145), (.int .i64 t148)] 83, cellCh b5 [(.int .i64 0), (.int .i64 0)] 83, snapCh w0 F] (L_spec_l20Rd_pick r_0_b r175 3 (fun (r181, r182) => idxW ([(GSpan.mk (w64 (t148 + 1)) t148), (GSpan.mk (-1) t148), (GSpan.mk t145 (w64 (top_1 + 1)))]) r181 (fun e183 => k179 (r182, e183.xLo, e183.xHi)))) := by
            intro v180
            refine pk [1, 0, 2, 3, 4] rfl ?_
            refine d_one (i := 16) rfl (by kernel_rfl) (o_call (vs := [(.pointer (some ⟨b1, 0, none⟩)), (.int .i64 3)]) (M0 := [cellCh b1 [v2, (.int .i64 r175)] 122]) Tryd.call68 rfl rfl (by intro w m h; exact (w_spec_l20Rd_pick (F := allB [cellCh b1 [v2, (.int .i64 r175)] 122] w) (r_0_b := r_0_b) (r_0_p := r175) (n_1 := 3) allB_ok m.given (m.rdM 3 rfl (reads_snap hv2)) h).mono (fun _ _ k => ret_free (fun r u => (fr_cons free_cell fr_nil)) k)) ?_); rintro ⟨r181, r182⟩ _
            refine d_and (fun w m => m.pick [2, 4] rfl) ?_
            refine pk [0, 1, 2, 3, 4] rfl ?_
            refine re (E' := [(6, (.pointer (some ⟨b5, 0, none⟩))), (62, v180), (64, (.int .i64 r181))]) ⟨rfl, rfl, rfl, trivial⟩ ?_
            exact H84 v180 r181 r182
          have H86 : ∀ (r185 : Int) (r186 : Int), Nx 68 (gB F [cellCh b1 [v2, (.int .i64 r_0_p)] 122] w0) (feet [cellCh b1 [v2, (.int .i64 r_0_p)] 122]) w0 (wpAnyH Tryd.prog .any (opsAt Tryd.f128 [1, 1, 1, 1, 0, 1, 0, 0]) Qd (Mem (gB F [cellCh b1 [v2, (.int .i64 r_0_p)] 122] w0) (feet [cellCh b1 [v2, (.int .i64 r_0_p)] 122]) w0 [cellCh b10 [(.int .i64 t145), (.int .i64 t148)] 83, snapCh w0 F]) 4 #[true, true, true, true, true, true, true, true, true, true, true, true, true, true, false, true, true, false, false, false]) [(6, (.pointer (some ⟨b5, 0, none⟩))), (53, (.agg #[(.int .i64 (w64 (t148 + 1))), (.int .i64 t148)])), (56, (.agg #[(.int .i64 (-1)), (.int .i64 t148)])), (61, (.agg #[(.int .i64 t145), (.int .i64 (w64 (top_1 + 1)))])), (64, (.int .i64 r185))] [cellCh b1 [v2, (.int .i64 r186)] 122, cellCh b10 [(.int .i64 t145), (.int .i64 t148)] 83, cellCh b5 [(.int .i64 0), (.int .i64 0)] 83, snapCh w0 F] (idxW ([(GSpan.mk (w64 (t148 + 1)) t148), (GSpan.mk (-1) t148), (GSpan.mk t145 (w64 (top_1 + 1)))]) r185 (fun e183 => k179 (r186, e183.xLo, e183.xHi))) := by
            intro r185 r186
            refine d_one (i := 14) rfl (by kernel_rfl) (o_bsl (enc := encGSpan) (qs := [(0, (.agg #[(.int .i64 (w64 (t148 + 1))), (.int .i64 t148)])), (1, (.agg #[(.int .i64 (-1)), (.int .i64 t148)])), (2, (.agg #[(.int .i64 t145), (.int .i64 (w64 (top_1 + 1)))]))]) (cells := [(.int .i64 (w64 (t148 + 1))), (.int .i64 t148), (.int .i64 (-1)), (.int .i64 t148), (.int .i64 t145), (.int .i64 (w64 (top_1 + 1)))]) ([(GSpan.mk (w64 (t148 + 1)) t148), (GSpan.mk (-1) t148), (GSpan.mk t145 (w64 (top_1 + 1)))]) flelGSpan (by intro ρ h; simp only [List.map_toArray, List.map_cons, List.map_nil, h (.tmp 53) _ rfl, h (.tmp 56) _ rfl, h (.tmp 61) _ rfl]) rfl el84 zero83 rfl rfl rfl rfl rfl rfl ?_); intro v187
            refine d_and (fun w m => m.pick [2, 4] rfl) ?_
            refine pk [1, 0, 2, 3, 4] rfl ?_
            refine re (E' := [(6, (.pointer (some ⟨b5, 0, none⟩))), (62, v187), (64, (.int .i64 r185))]) ⟨rfl, rfl, rfl, trivial⟩ ?_
            exact H84 v187 r185 r186
          refine o_fad (dt 0 (fun w m => m.pick [1, 3] rfl)) rfl rfl fld83_1 rfl ?_
          refine o_ldc (dt 1 (fun w m => m.pick [1, 3] rfl)) (v := (.int .i64 t148)) 0 rfl rfl rfl ty3 rfl ?_
          refine o_addw (dt 2 (fun w m => m.pick [1, 3] rfl)) rfl rfl rfl ?_
          refine o_fad (dt 3 (fun w m => m.pick [1, 3] rfl)) rfl rfl fld83_1 rfl ?_
          refine o_ldc (dt 4 (fun w m => m.pick [1, 3] rfl)) (v := (.int .i64 t148)) 0 rfl rfl rfl ty3 rfl ?_
          refine o_bld (dt 5 (fun w m => m.pick [1, 3] rfl)) (qs := [(0, (.int .i64 (w64 (t148 + 1)))), (1, (.int .i64 t148))]) (cells := [(.int .i64 (w64 (t148 + 1))), (.int .i64 t148)]) (by intro ρ h; simp only [List.map_toArray, List.map_cons, List.map_nil, h (.tmp 50) _ rfl, h (.tmp 52) _ rfl]) rfl bld83 rfl ?_
          refine o_fad (dt 6 (fun w m => m.pick [1, 3] rfl)) rfl rfl fld83_1 rfl ?_
          refine o_ldc (dt 7 (fun w m => m.pick [1, 3] rfl)) (v := (.int .i64 t148)) 0 rfl rfl rfl ty3 rfl ?_
          refine o_bld (dt 8 (fun w m => m.pick [1, 3] rfl)) (qs := [(0, (.int .i64 (-1))), (1, (.int .i64 t148))]) (cells := [(.int .i64 (-1)), (.int .i64 t148)]) (by intro ρ h; simp only [List.map_toArray, List.map_cons, List.map_nil, h (.const (.int .i64 (-1))) _ rfl, h (.tmp 55) _ rfl]) rfl bld83 rfl ?_
          refine o_fad (dt 9 (fun w m => m.pick [1, 3] rfl)) rfl rfl fld83_0 rfl ?_
          refine o_ldc (dt 10 (fun w m => m.pick [1, 3] rfl)) (v := (.int .i64 t145)) 0 rfl rfl rfl ty3 rfl ?_
          refine o_mv (dt 11 (fun w m => m.pick [1, 3] rfl)) rfl rfl ?_
          refine o_addw (dt 12 (fun w m => m.pick [1, 3] rfl)) rfl rfl rfl ?_
          refine o_bld (dt 13 (fun w m => m.pick [1, 3] rfl)) (qs := [(0, (.int .i64 t145)), (1, (.int .i64 (w64 (top_1 + 1))))]) (cells := [(.int .i64 t145), (.int .i64 (w64 (top_1 + 1)))]) (by intro ρ h; simp only [List.map_toArray, List.map_cons, List.map_nil, h (.tmp 58) _ rfl, h (.tmp 60) _ rfl]) rfl bld83 rfl ?_
          refine o_mv (dt 15 (fun w m => m.pick [1, 3] rfl)) rfl rfl ?_
          refine d_two (i := 14) (j := 16) rfl rfl (by kernel_rfl) ?_ ?_
          · intro o ho; cases ho
            refine o_bsl (enc := encGSpan) (qs := [(0, (.agg #[(.int .i64 (w64 (t148 + 1))), (.int .i64 t148)])), (1, (.agg #[(.int .i64 (-1)), (.int .i64 t148)])), (2, (.agg #[(.int .i64 t145), (.int .i64 (w64 (top_1 + 1)))]))]) (cells := [(.int .i64 (w64 (t148 + 1))), (.int .i64 t148), (.int .i64 (-1)), (.int .i64 t148), (.int .i64 t145), (.int .i64 (w64 (top_1 + 1)))]) ([(GSpan.mk (w64 (t148 + 1)) t148), (GSpan.mk (-1) t148), (GSpan.mk t145 (w64 (top_1 + 1)))]) flelGSpan (by intro ρ h; simp only [List.map_toArray, List.map_cons, List.map_nil, h (.tmp 53) _ rfl, h (.tmp 56) _ rfl, h (.tmp 61) _ rfl]) rfl el84 zero83 rfl rfl rfl rfl rfl rfl ?_; intro v180
            refine d_and (fun w m => m.pick [2, 4] rfl) ?_
            refine pk [0, 1, 2, 3, 4] rfl ?_
            refine re (E' := [(6, (.pointer (some ⟨b5, 0, none⟩))), (63, (.pointer (some ⟨b1, 0, none⟩))), (62, v180)]) ⟨rfl, rfl, rfl, trivial⟩ ?_
            exact H85 v180
          · intro o ho; cases ho
            refine o_call (vs := [(.pointer (some ⟨b1, 0, none⟩)), (.int .i64 3)]) (M0 := [cellCh b1 [v2, (.int .i64 r175)] 122]) Tryd.call68 rfl rfl (by intro w m h; exact (w_spec_l20Rd_pick (F := allB [cellCh b1 [v2, (.int .i64 r175)] 122] w) (r_0_b := r_0_b) (r_0_p := r175) (n_1 := 3) allB_ok m.given (m.rdM 2 rfl (reads_snap hv2)) h).mono (fun _ _ k => ret_free (fun r u => (fr_cons free_cell fr_nil)) k)) ?_; rintro ⟨r185, r186⟩ _
            refine d_and (fun w m => m.pick [1, 3] rfl) ?_
            refine pk [0, 1, 2, 3] rfl ?_
            refine re (E' := [(6, (.pointer (some ⟨b5, 0, none⟩))), (53, (.agg #[(.int .i64 (w64 (t148 + 1))), (.int .i64 t148)])), (56, (.agg #[(.int .i64 (-1)), (.int .i64 t148)])), (61, (.agg #[(.int .i64 t145), (.int .i64 (w64 (top_1 + 1)))])), (64, (.int .i64 r185))]) ⟨rfl, rfl, rfl, rfl, rfl, trivial⟩ ?_
            exact H86 r185 r186
        · rintro ⟨t176, t177, t178⟩ a w ⟨hE, hm⟩ h
          refine nx_of hE hm h ?_
          clear hE hm h
          refine c_ret ?_
          refine l_ret ?_
          exact l_end1 Tryd.results128 ((GSpan.mk t177 t178), t176) () (rv_c 1 rfl rfl ty83 rfl) (fun w m => NewCh.ofB m [0] rfl)
      · refine c_skip ?_
        refine l_then ?_
        refine c_seq ?_
        refine c_region ?_
        refine o_ldc st (v := (.agg #[(.int .i64 t145), (.int .i64 t148)])) 1 rfl rfl rfl ty83 rfl ?_
        refine stw (o_stc (cs' := [(.int .i64 t145), (.int .i64 t148)]) 2 rfl rfl rfl ty83 rfl rfl rfl rfl ?_)
        refine c_nil ?_
        refine l_then ?_
        refine c_ret ?_
        exact l_end1 Tryd.results128 ((GSpan.mk t145 t148), r175) () (rv_c 2 rfl rfl ty83 rfl) (fun w m => NewCh.ofB m [0] rfl)

set_option maxRecDepth 100000 in
set_option maxHeartbeats 8000000 in
theorem w_spec_l20Test {w0 : World} {F : Nat → Prop} {b1 : Nat} {v2 : Value} {r_0_b : (List UInt8)} {r_0_p : Int} {n_1 : Int} {κ : (GTest × Int) → Prop} (hF : ∀ b, F b → b < w0.heap.size ∧ ¬ feet [cellCh b1 [v2, (.int .i64 r_0_p)] 122] b) (hg : Given [cellCh b1 [v2, (.int .i64 r_0_p)] 122] F w0) (hv2 : Sl elU8 F w0 v2 r_0_b) (h : L_spec_l20Test r_0_b r_0_p n_1 κ) :
    Calls Tryd.prog 123 #[(.pointer (some ⟨b1, 0, none⟩)), (.int .i64 n_1)] w0 (Ret [cellCh b1 [v2, (.int .i64 r_0_p)] 122] F w0 κ (fun (r : (GTest × Int)) (u : Unit) => (.agg #[(.int .i64 r.1.xField), (.int .i64 r.1.xLo), (.int .i64 r.1.xHi), (.bool r.1.xNot)])) (fun (r : (GTest × Int)) (u : Unit) => [cellCh b1 [v2, (.int .i64 r.2)] 122])) := by
  refine enterS (args := [(.pointer (some ⟨b1, 0, none⟩)), (.int .i64 n_1)]) [cellCh b1 [v2, (.int .i64 r_0_p)] 122] hF hg Tryd.func123 rfl Tryd.ntmps123 rfl h ?_
  clear h hF hg
  refine c_seq ?_
  refine c_region ?_
  refine stw (o_alloc rfl [(.int .i64 0), (.int .i64 0), (.int .i64 0), (.bool false)] zero173 ?_); intro b5
  refine c_nil ?_
  refine l_then ?_
  refine c_seq ?_
  refine c_region ?_
  refine o_mv st rfl rfl ?_
  refine pk [1, 0, 2] rfl ?_
  refine stw (o_call (vs := [(.pointer (some ⟨b1, 0, none⟩)), (.int .i64 4)]) (M0 := [cellCh b1 [v2, (.int .i64 r_0_p)] 122]) Tryd.call68 rfl rfl (by intro w m h; exact (w_spec_l20Rd_pick (F := allB [cellCh b1 [v2, (.int .i64 r_0_p)] 122] w) (r_0_b := r_0_b) (r_0_p := r_0_p) (n_1 := 4) allB_ok m.given (m.rdM 1 rfl (reads_snap hv2)) h).mono (fun _ _ k => ret_free (fun r u => (fr_cons free_cell fr_nil)) k)) ?_); rintro ⟨r7, r8⟩ _
  refine o_mv st rfl rfl ?_
  refine stw (o_call (vs := [(.pointer (some ⟨b1, 0, none⟩)), (.int .i64 4)]) (M0 := [cellCh b1 [v2, (.int .i64 r8)] 122]) Tryd.call68 rfl rfl (by intro w m h; exact (w_spec_l20Rd_pick (F := allB [cellCh b1 [v2, (.int .i64 r8)] 122] w) (r_0_b := r_0_b) (r_0_p := r8) (n_1 := 4) allB_ok m.given (m.rdM 1 rfl (reads_snap hv2)) h).mono (fun _ _ k => ret_free (fun r u => (fr_cons free_cell fr_nil)) k)) ?_); rintro ⟨r9, r10⟩ _
  refine o_eql st und3 rfl rfl rfl ?_
  refine o_bld st (qs := [(0, (.int .i64 r7)), (3, (.bool (decide (r9 = 0))))]) (cells := [(.int .i64 r7), (.int .i64 0), (.int .i64 0), (.bool (decide (r9 = 0)))]) (by intro ρ h; simp only [List.map_toArray, List.map_cons, List.map_nil, h (.tmp 9) _ rfl, h (.tmp 12) _ rfl]) rfl bld173 rfl ?_
  refine stw (o_alloc rfl [(.int .i64 0), (.int .i64 0), (.int .i64 0), (.bool false)] zero173 ?_); intro b11
  refine stw (o_stc (cs' := [(.int .i64 r7), (.int .i64 0), (.int .i64 0), (.bool (decide (r9 = 0)))]) 0 rfl rfl rfl ty173 rfl rfl rfl rfl ?_)
  refine c_nil ?_
  refine l_then ?_
  refine c_seq ?_
  refine c_region ?_
  refine o_fad st rfl rfl fld173_0 rfl ?_
  refine o_ldc st (v := (.int .i64 r7)) 0 rfl rfl rfl ty3 rfl ?_
  refine stw (o_callP (vs := [(.int .i64 r7)]) Tryd.call113 rfl rfl (by intro w m h; exact (w_spec_FieldTop (F := allB [] w) (n_0 := r7) allB_ok h).mono (fun _ _ k => ret_free (fun r u => fr_nil) k)) ?_); rintro r13 _
  refine o_as st rfl rfl ?_
  refine c_nil ?_
  refine l_then ?_
  refine c_seq ?_
  refine c_region ?_
  refine o_mv st rfl rfl ?_
  refine o_mv st rfl rfl ?_
  refine pk [1, 0, 2, 3] rfl ?_
  refine stw (o_call (vs := [(.pointer (some ⟨b1, 0, none⟩)), (.int .i64 r13), (.int .i64 0)]) (M0 := [cellCh b1 [v2, (.int .i64 r10)] 122]) Tryd.call128 rfl rfl (by intro w m h; exact (w_spec_l20Span (F := allB [cellCh b1 [v2, (.int .i64 r10)] 122] w) (r_0_b := r_0_b) (r_0_p := r10) (top_1 := r13) (n_2 := 0) allB_ok m.given (m.rdM 2 rfl (reads_snap hv2)) h).mono (fun _ _ k => ret_free (fun r u => (fr_cons free_cell fr_nil)) k)) ?_); rintro ⟨r14, r15⟩ _
  refine stw (o_alloc rfl [(.int .i64 0), (.int .i64 0)] zero83 ?_); intro b16
  refine stw (o_stc (cs' := [(.int .i64 r14.xLo), (.int .i64 r14.xHi)]) 0 rfl rfl rfl ty83 rfl rfl rfl rfl ?_)
  refine c_nil ?_
  refine l_then ?_
  refine c_join (σ := (Int × Int × Int)) (fun ((t152, t153, t154) : (Int × Int × Int)) (a : Act) (w : World) => Has 83 [(0, (.pointer (some ⟨b1, 0, none⟩))), (1, (.int .i64 n_1)), (4, (.pointer (some ⟨b5, 0, none⟩))), (5, (.pointer (some ⟨b11, 0, none⟩))), (6, (.int .i64 r13)), (7, (.pointer (some ⟨b16, 0, none⟩)))] a ∧ Mem (gB F [cellCh b1 [v2, (.int .i64 r_0_p)] 122] w0) (feet [cellCh b1 [v2, (.int .i64 r_0_p)] 122]) w0 [cellCh b1 [v2, (.int .i64 t152)] 122, cellCh b16 [(.int .i64 t153), (.int .i64 t154)] 83, cellCh b11 [(.int .i64 r7), (.int .i64 0), (.int .i64 0), (.bool (decide (r9 = 0)))] 173, cellCh b5 [(.int .i64 0), (.int .i64 0), (.int .i64 0), (.bool false)] 173, snapCh w0 F] w) ?_ ?_
  · intro k155
    refine c_join (σ := (Int × Bool)) (fun ((t80, t81) : (Int × Bool)) (a : Act) (w : World) => Has 83 [(0, (.pointer (some ⟨b1, 0, none⟩))), (1, (.int .i64 n_1)), (4, (.pointer (some ⟨b5, 0, none⟩))), (5, (.pointer (some ⟨b11, 0, none⟩))), (6, (.int .i64 r13)), (7, (.pointer (some ⟨b16, 0, none⟩))), (27, (.bool t81))] a ∧ Mem (gB F [cellCh b1 [v2, (.int .i64 r_0_p)] 122] w0) (feet [cellCh b1 [v2, (.int .i64 r_0_p)] 122]) w0 [cellCh b1 [v2, (.int .i64 t80)] 122, cellCh b16 [(.int .i64 r14.xLo), (.int .i64 r14.xHi)] 83, cellCh b11 [(.int .i64 r7), (.int .i64 0), (.int .i64 0), (.bool (decide (r9 = 0)))] 173, cellCh b5 [(.int .i64 0), (.int .i64 0), (.int .i64 0), (.bool false)] 173, snapCh w0 F] w) ?_ ?_
    · intro k82
      refine c_region ?_
      refine o_fad st rfl rfl fld173_0 rfl ?_
      refine o_ldc st (v := (.int .i64 r7)) 2 rfl rfl rfl ty3 rfl ?_
      refine o_lss st rfl rfl rfl ?_
      refine o_mv st rfl rfl ?_
      refine st_sp (dj := 23) rfl ?_ ?_
      · refine o_mv (st_g rfl rfl) rfl rfl ?_
        refine pk [1, 0, 2, 3, 4] rfl ?_
        refine st_gw rfl rfl (o_call (vs := [(.pointer (some ⟨b1, 0, none⟩)), (.int .i64 2)]) (M0 := [cellCh b1 [v2, (.int .i64 r15)] 122]) Tryd.call68 rfl rfl (by intro w m h; exact (w_spec_l20Rd_pick (F := allB [cellCh b1 [v2, (.int .i64 r15)] 122] w) (r_0_b := r_0_b) (r_0_p := r15) (n_1 := 2) allB_ok m.given (m.rdM 3 rfl (reads_snap hv2)) h).mono (fun _ _ k => ret_free (fun r u => (fr_cons free_cell fr_nil)) k)) ?_); rintro ⟨r18, r19⟩ _
        refine o_eql (st_g rfl rfl) und3 rfl rfl rfl ?_
        refine o_pickT st rfl rfl rfl ?_
        refine c_nil ?_
        exact l_join (r19, (decide (r18 = 0))) (fun a w hE hm => ⟨hE.sub ⟨rfl, rfl, rfl, rfl, rfl, rfl, rfl, trivial⟩, (hm.pick [0, 1, 2, 3, 4] rfl)⟩)
      · refine st_s rfl rfl rfl rfl ?_
        refine st_s rfl rfl rfl rfl ?_
        refine st_s rfl rfl rfl rfl ?_
        refine o_pickF st rfl rfl rfl ?_
        refine c_nil ?_
        exact l_join (r15, false) (fun a w hE hm => ⟨hE.sub ⟨rfl, rfl, rfl, rfl, rfl, rfl, rfl, trivial⟩, (hm.pick [1, 0, 2, 3, 4] rfl)⟩)
    · rintro ⟨t80, t81⟩ a w ⟨hE, hm⟩ h
      refine nx_of hE hm h ?_
      clear hE hm h
      refine c_cond rfl ?_ ?_
      · refine c_seq ?_
        refine c_region ?_
        refine o_mv st rfl rfl ?_
        refine stw (o_call (vs := [(.pointer (some ⟨b1, 0, none⟩)), (.int .i64 20)]) (M0 := [cellCh b1 [v2, (.int .i64 t80)] 122]) Tryd.call68 rfl rfl (by intro w m h; exact (w_spec_l20Rd_pick (F := allB [cellCh b1 [v2, (.int .i64 t80)] 122] w) (r_0_b := r_0_b) (r_0_p := t80) (n_1 := 20) allB_ok m.given (m.rdM 3 rfl (reads_snap hv2)) h).mono (fun _ _ k => ret_free (fun r u => (fr_cons free_cell fr_nil)) k)) ?_); rintro ⟨r83, r84⟩ _
        refine o_bld st (qs := [(0, (.int .i64 r83))]) (cells := [(.int .i64 r83), (.int .i64 0)]) (by intro ρ h; simp only [List.map_toArray, List.map_cons, List.map_nil, h (.tmp 29) _ rfl]) rfl bld83 rfl ?_
        refine stw (o_stc (cs' := [(.int .i64 r83), (.int .i64 0)]) 1 rfl rfl rfl ty83 rfl rfl rfl rfl ?_)
        refine c_nil ?_
        refine l_then ?_
        refine c_join1 (σ := (Int × Int)) (fun ((t85, t86) : (Int × Int)) (a : Act) (w : World) => Has 83 [(0, (.pointer (some ⟨b1, 0, none⟩))), (1, (.int .i64 n_1)), (4, (.pointer (some ⟨b5, 0, none⟩))), (5, (.pointer (some ⟨b11, 0, none⟩))), (6, (.int .i64 r13)), (7, (.pointer (some ⟨b16, 0, none⟩)))] a ∧ Mem (gB F [cellCh b1 [v2, (.int .i64 r_0_p)] 122] w0) (feet [cellCh b1 [v2, (.int .i64 r_0_p)] 122]) w0 [cellCh b1 [v2, (.int .i64 t85)] 122, cellCh b16 [(.int .i64 r83), (.int .i64 t86)] 83, cellCh b11 [(.int .i64 r7), (.int .i64 0), (.int .i64 0), (.bool (decide (r9 = 0)))] 173, cellCh b5 [(.int .i64 0), (.int .i64 0), (.int .i64 0), (.bool false)] 173, snapCh w0 F] w) ?_ ?_
        · intro k87
          refine c_drawQ mixed 7 rfl [cellCh b11 [(.int .i64 r7), (.int .i64 0), (.int .i64 0), (.bool (decide (r9 = 0)))] 173, cellCh b5 [(.int .i64 0), (.int .i64 0), (.int .i64 0), (.bool false)] 173, snapCh w0 F] ?_
          intro Qd hP hQ
          have H139 : ∀ (r88 : Int) (r89 : Int), Nx 83 (gB F [cellCh b1 [v2, (.int .i64 r_0_p)] 122] w0) (feet [cellCh b1 [v2, (.int .i64 r_0_p)] 122]) w0 (wpAnyH Tryd.prog .any (opsAt Tryd.f123 [1, 1, 1, 1, 0, 1, 0, 1]) Qd (Mem (gB F [cellCh b1 [v2, (.int .i64 r_0_p)] 122] w0) (feet [cellCh b1 [v2, (.int .i64 r_0_p)] 122]) w0 [cellCh b11 [(.int .i64 r7), (.int .i64 0), (.int .i64 0), (.bool (decide (r9 = 0)))] 173, cellCh b5 [(.int .i64 0), (.int .i64 0), (.int .i64 0), (.bool false)] 173, snapCh w0 F]) 0 #[true, true, true, true, true, true, true]) [(0, (.pointer (some ⟨b1, 0, none⟩))), (1, (.int .i64 n_1)), (4, (.pointer (some ⟨b5, 0, none⟩))), (5, (.pointer (some ⟨b11, 0, none⟩))), (6, (.int .i64 r13)), (7, (.pointer (some ⟨b16, 0, none⟩)))] [cellCh b1 [v2, (.int .i64 r89)] 122, cellCh b16 [(.int .i64 r83), (.int .i64 (w64 (r83 + r88)))] 83, cellCh b11 [(.int .i64 r7), (.int .i64 0), (.int .i64 0), (.bool (decide (r9 = 0)))] 173, cellCh b5 [(.int .i64 0), (.int .i64 0), (.int .i64 0), (.bool false)] 173, snapCh w0 F] (k87 (r89, (w64 (r83 + r88)))) := by
            intro r88 r89
            refine d_done (by kernel_rfl) ?_
            exact fun a w hE hm hφ => hQ (r89, (w64 (r83 + r88))) a w hφ ((fun a w hE hm => ⟨hE.sub ⟨rfl, rfl, rfl, rfl, rfl, rfl, trivial⟩, (hm.pick [0, 1, 2, 3, 4] rfl)⟩) a w hE hm)
          have H140 : ∀ (r88 : Int) (r89 : Int), Nx 83 (gB F [cellCh b1 [v2, (.int .i64 r_0_p)] 122] w0) (feet [cellCh b1 [v2, (.int .i64 r_0_p)] 122]) w0 (wpAnyH Tryd.prog .any (opsAt Tryd.f123 [1, 1, 1, 1, 0, 1, 0, 1]) Qd (Mem (gB F [cellCh b1 [v2, (.int .i64 r_0_p)] 122] w0) (feet [cellCh b1 [v2, (.int .i64 r_0_p)] 122]) w0 [cellCh b11 [(.int .i64 r7), (.int .i64 0), (.int .i64 0), (.bool (decide (r9 = 0)))] 173, cellCh b5 [(.int .i64 0), (.int .i64 0), (.int .i64 0), (.bool false)] 173, snapCh w0 F]) 3 #[true, true, true, true, false, false, false]) [(0, (.pointer (some ⟨b1, 0, none⟩))), (1, (.int .i64 n_1)), (4, (.pointer (some ⟨b5, 0, none⟩))), (5, (.pointer (some ⟨b11, 0, none⟩))), (6, (.int .i64 r13)), (7, (.pointer (some ⟨b16, 0, none⟩))), (32, (.int .i64 r83)), (34, (.int .i64 r88))] [cellCh b1 [v2, (.int .i64 r89)] 122, cellCh b16 [(.int .i64 r83), (.int .i64 0)] 83, cellCh b11 [(.int .i64 r7), (.int .i64 0), (.int .i64 0), (.bool (decide (r9 = 0)))] 173, cellCh b5 [(.int .i64 0), (.int .i64 0), (.int .i64 0), (.bool false)] 173, snapCh w0 F] (k87 (r89, (w64 (r83 + r88)))) := by
            intro r88 r89
            refine o_addw (dt 4 (fun w m => m.pick [2, 3, 4] rfl)) rfl rfl rfl ?_
            refine o_fad (dt 5 (fun w m => m.pick [2, 3, 4] rfl)) rfl rfl fld83_1 rfl ?_
            refine d_one (i := 6) rfl (by kernel_rfl) (o_stc (cs' := [(.int .i64 r83), (.int .i64 (w64 (r83 + r88)))]) 1 rfl rfl rfl ty3 rfl rfl rfl rfl ?_)
            refine d_and (fun w m => m.pick [2, 3, 4] rfl) ?_
            refine pk [0, 1, 2, 3, 4] rfl ?_
            refine re (E' := [(0, (.pointer (some ⟨b1, 0, none⟩))), (1, (.int .i64 n_1)), (4, (.pointer (some ⟨b5, 0, none⟩))), (5, (.pointer (some ⟨b11, 0, none⟩))), (6, (.int .i64 r13)), (7, (.pointer (some ⟨b16, 0, none⟩)))]) ⟨rfl, rfl, rfl, rfl, rfl, rfl, trivial⟩ ?_
            exact H139 r88 r89
          have H141 : ∀ (_ : Unit), Nx 83 (gB F [cellCh b1 [v2, (.int .i64 r_0_p)] 122] w0) (feet [cellCh b1 [v2, (.int .i64 r_0_p)] 122]) w0 (wpAnyH Tryd.prog .any (opsAt Tryd.f123 [1, 1, 1, 1, 0, 1, 0, 1]) Qd (Mem (gB F [cellCh b1 [v2, (.int .i64 r_0_p)] 122] w0) (feet [cellCh b1 [v2, (.int .i64 r_0_p)] 122]) w0 [cellCh b11 [(.int .i64 r7), (.int .i64 0), (.int .i64 0), (.bool (decide (r9 = 0)))] 173, cellCh b5 [(.int .i64 0), (.int .i64 0), (.int .i64 0), (.bool false)] 173, snapCh w0 F]) 4 #[true, true, true, false, false, false, false]) [(0, (.pointer (some ⟨b1, 0, none⟩))), (1, (.int .i64 n_1)), (4, (.pointer (some ⟨b5, 0, none⟩))), (5, (.pointer (some ⟨b11, 0, none⟩))), (6, (.int .i64 r13)), (7, (.pointer (some ⟨b16, 0, none⟩))), (33, (.pointer (some ⟨b1, 0, none⟩))), (32, (.int .i64 r83))] [cellCh b1 [v2, (.int .i64 r84)] 122, cellCh b16 [(.int .i64 r83), (.int .i64 0)] 83, cellCh b11 [(.int .i64 r7), (.int .i64 0), (.int .i64 0), (.bool (decide (r9 = 0)))] 173, cellCh b5 [(.int .i64 0), (.int .i64 0), (.int .i64 0), (.bool false)] 173, snapCh w0 F] (L_spec_l20Rd_pick r_0_b r84 8 (fun (r88, r89) => k87 (r89, (w64 (r83 + r88))))) := by
            intro _
            refine d_one (i := 3) rfl (by kernel_rfl) (o_call (vs := [(.pointer (some ⟨b1, 0, none⟩)), (.int .i64 8)]) (M0 := [cellCh b1 [v2, (.int .i64 r84)] 122]) Tryd.call68 rfl rfl (by intro w m h; exact (w_spec_l20Rd_pick (F := allB [cellCh b1 [v2, (.int .i64 r84)] 122] w) (r_0_b := r_0_b) (r_0_p := r84) (n_1 := 8) allB_ok m.given (m.rdM 3 rfl (reads_snap hv2)) h).mono (fun _ _ k => ret_free (fun r u => (fr_cons free_cell fr_nil)) k)) ?_); rintro ⟨r88, r89⟩ _
            refine d_and (fun w m => m.pick [2, 3, 4] rfl) ?_
            refine pk [0, 1, 2, 3, 4] rfl ?_
            refine re (E' := [(0, (.pointer (some ⟨b1, 0, none⟩))), (1, (.int .i64 n_1)), (4, (.pointer (some ⟨b5, 0, none⟩))), (5, (.pointer (some ⟨b11, 0, none⟩))), (6, (.int .i64 r13)), (7, (.pointer (some ⟨b16, 0, none⟩))), (32, (.int .i64 r83)), (34, (.int .i64 r88))]) ⟨rfl, rfl, rfl, rfl, rfl, rfl, rfl, rfl, trivial⟩ ?_
            exact H140 r88 r89
          have H142 : ∀ (r90 : Int) (r91 : Int), Nx 83 (gB F [cellCh b1 [v2, (.int .i64 r_0_p)] 122] w0) (feet [cellCh b1 [v2, (.int .i64 r_0_p)] 122]) w0 (wpAnyH Tryd.prog .any (opsAt Tryd.f123 [1, 1, 1, 1, 0, 1, 0, 1]) Qd (Mem (gB F [cellCh b1 [v2, (.int .i64 r_0_p)] 122] w0) (feet [cellCh b1 [v2, (.int .i64 r_0_p)] 122]) w0 [cellCh b11 [(.int .i64 r7), (.int .i64 0), (.int .i64 0), (.bool (decide (r9 = 0)))] 173, cellCh b5 [(.int .i64 0), (.int .i64 0), (.int .i64 0), (.bool false)] 173, snapCh w0 F]) 4 #[true, false, true, true, false, false, false]) [(0, (.pointer (some ⟨b1, 0, none⟩))), (1, (.int .i64 n_1)), (4, (.pointer (some ⟨b5, 0, none⟩))), (5, (.pointer (some ⟨b11, 0, none⟩))), (6, (.int .i64 r13)), (7, (.pointer (some ⟨b16, 0, none⟩))), (31, (.pointer (some ⟨b16, 0, none⟩))), (34, (.int .i64 r90))] [cellCh b1 [v2, (.int .i64 r91)] 122, cellCh b16 [(.int .i64 r83), (.int .i64 0)] 83, cellCh b11 [(.int .i64 r7), (.int .i64 0), (.int .i64 0), (.bool (decide (r9 = 0)))] 173, cellCh b5 [(.int .i64 0), (.int .i64 0), (.int .i64 0), (.bool false)] 173, snapCh w0 F] (k87 (r91, (w64 (r83 + r90)))) := by
            intro r90 r91
            refine d_one (i := 1) rfl (by kernel_rfl) (o_ldc m_op (v := (.int .i64 r83)) 1 rfl rfl rfl ty3 rfl ?_)
            refine d_and (fun w m => m.pick [2, 3, 4] rfl) ?_
            refine pk [0, 1, 2, 3, 4] rfl ?_
            refine re (E' := [(0, (.pointer (some ⟨b1, 0, none⟩))), (1, (.int .i64 n_1)), (4, (.pointer (some ⟨b5, 0, none⟩))), (5, (.pointer (some ⟨b11, 0, none⟩))), (6, (.int .i64 r13)), (7, (.pointer (some ⟨b16, 0, none⟩))), (32, (.int .i64 r83)), (34, (.int .i64 r90))]) ⟨rfl, rfl, rfl, rfl, rfl, rfl, rfl, rfl, trivial⟩ ?_
            exact H140 r90 r91
          refine o_fad (dt 0 (fun w m => m.pick [2, 3, 4] rfl)) rfl rfl fld83_0 rfl ?_
          refine o_mv (dt 2 (fun w m => m.pick [2, 3, 4] rfl)) rfl rfl ?_
          refine d_two (i := 1) (j := 3) rfl rfl (by kernel_rfl) ?_ ?_
          · intro o ho; cases ho
            refine o_ldc m_op (v := (.int .i64 r83)) 1 rfl rfl rfl ty3 rfl ?_
            refine d_and (fun w m => m.pick [2, 3, 4] rfl) ?_
            refine pk [0, 1, 2, 3, 4] rfl ?_
            refine re (E' := [(0, (.pointer (some ⟨b1, 0, none⟩))), (1, (.int .i64 n_1)), (4, (.pointer (some ⟨b5, 0, none⟩))), (5, (.pointer (some ⟨b11, 0, none⟩))), (6, (.int .i64 r13)), (7, (.pointer (some ⟨b16, 0, none⟩))), (33, (.pointer (some ⟨b1, 0, none⟩))), (32, (.int .i64 r83))]) ⟨rfl, rfl, rfl, rfl, rfl, rfl, rfl, rfl, trivial⟩ ?_
            exact H141 ()
          · intro o ho; cases ho
            refine o_call (vs := [(.pointer (some ⟨b1, 0, none⟩)), (.int .i64 8)]) (M0 := [cellCh b1 [v2, (.int .i64 r84)] 122]) Tryd.call68 rfl rfl (by intro w m h; exact (w_spec_l20Rd_pick (F := allB [cellCh b1 [v2, (.int .i64 r84)] 122] w) (r_0_b := r_0_b) (r_0_p := r84) (n_1 := 8) allB_ok m.given (m.rdM 3 rfl (reads_snap hv2)) h).mono (fun _ _ k => ret_free (fun r u => (fr_cons free_cell fr_nil)) k)) ?_; rintro ⟨r90, r91⟩ _
            refine d_and (fun w m => m.pick [2, 3, 4] rfl) ?_
            refine pk [0, 1, 2, 3, 4] rfl ?_
            refine re (E' := [(0, (.pointer (some ⟨b1, 0, none⟩))), (1, (.int .i64 n_1)), (4, (.pointer (some ⟨b5, 0, none⟩))), (5, (.pointer (some ⟨b11, 0, none⟩))), (6, (.int .i64 r13)), (7, (.pointer (some ⟨b16, 0, none⟩))), (31, (.pointer (some ⟨b16, 0, none⟩))), (34, (.int .i64 r90))]) ⟨rfl, rfl, rfl, rfl, rfl, rfl, rfl, rfl, trivial⟩ ?_
            exact H142 r90 r91
        · rintro ⟨t85, t86⟩ a w ⟨hE, hm⟩ h
          refine nx_of hE hm h ?_
          clear hE hm h
          exact l_join (t85, r83, t86) (fun a w hE hm => ⟨hE.sub ⟨rfl, rfl, rfl, rfl, rfl, rfl, trivial⟩, (hm.pick [0, 1, 2, 3, 4] rfl)⟩)
      · refine c_skip ?_
        exact l_join (t80, r14.xLo, r14.xHi) (fun a w hE hm => ⟨hE.sub ⟨rfl, rfl, rfl, rfl, rfl, rfl, trivial⟩, (hm.pick [0, 1, 2, 3, 4] rfl)⟩)
  · rintro ⟨t152, t153, t154⟩ a w ⟨hE, hm⟩ h
    refine nx_of hE hm h ?_
    clear hE hm h
    refine c_join (σ := (Int × Int × Int)) (fun ((t241, t242, t243) : (Int × Int × Int)) (a : Act) (w : World) => Has 83 [(0, (.pointer (some ⟨b1, 0, none⟩))), (1, (.int .i64 n_1)), (4, (.pointer (some ⟨b5, 0, none⟩))), (5, (.pointer (some ⟨b11, 0, none⟩))), (6, (.int .i64 r13)), (7, (.pointer (some ⟨b16, 0, none⟩)))] a ∧ Mem (gB F [cellCh b1 [v2, (.int .i64 r_0_p)] 122] w0) (feet [cellCh b1 [v2, (.int .i64 r_0_p)] 122]) w0 [cellCh b1 [v2, (.int .i64 t241)] 122, cellCh b16 [(.int .i64 t242), (.int .i64 t243)] 83, cellCh b11 [(.int .i64 r7), (.int .i64 0), (.int .i64 0), (.bool (decide (r9 = 0)))] 173, cellCh b5 [(.int .i64 0), (.int .i64 0), (.int .i64 0), (.bool false)] 173, snapCh w0 F] w) ?_ ?_
    · intro k244
      refine c_seq ?_
      refine c_region ?_
      refine o_mv st rfl rfl ?_
      refine stw (o_call (vs := [(.pointer (some ⟨b1, 0, none⟩)), (.int .i64 8)]) (M0 := [cellCh b1 [v2, (.int .i64 t152)] 122]) Tryd.call68 rfl rfl (by intro w m h; exact (w_spec_l20Rd_pick (F := allB [cellCh b1 [v2, (.int .i64 t152)] 122] w) (r_0_b := r_0_b) (r_0_p := t152) (n_1 := 8) allB_ok m.given (m.rdM 3 rfl (reads_snap hv2)) h).mono (fun _ _ k => ret_free (fun r u => (fr_cons free_cell fr_nil)) k)) ?_); rintro ⟨r156, r157⟩ _
      refine o_eql st und3 rfl rfl rfl ?_
      refine c_nil ?_
      refine l_then ?_
      refine c_cond rfl ?_ ?_
      · refine c_join1 (σ := (Int × Int × Int)) (fun ((t158, t159, t160) : (Int × Int × Int)) (a : Act) (w : World) => Has 83 [(0, (.pointer (some ⟨b1, 0, none⟩))), (1, (.int .i64 n_1)), (4, (.pointer (some ⟨b5, 0, none⟩))), (5, (.pointer (some ⟨b11, 0, none⟩))), (6, (.int .i64 r13)), (7, (.pointer (some ⟨b16, 0, none⟩)))] a ∧ Mem (gB F [cellCh b1 [v2, (.int .i64 r_0_p)] 122] w0) (feet [cellCh b1 [v2, (.int .i64 r_0_p)] 122]) w0 [cellCh b1 [v2, (.int .i64 t158)] 122, cellCh b16 [(.int .i64 t159), (.int .i64 t160)] 83, cellCh b11 [(.int .i64 r7), (.int .i64 0), (.int .i64 0), (.bool (decide (r9 = 0)))] 173, cellCh b5 [(.int .i64 0), (.int .i64 0), (.int .i64 0), (.bool false)] 173, snapCh w0 F] w) ?_ ?_
        · intro k161
          refine c_drawQ mixed 15 rfl [cellCh b11 [(.int .i64 r7), (.int .i64 0), (.int .i64 0), (.bool (decide (r9 = 0)))] 173, cellCh b5 [(.int .i64 0), (.int .i64 0), (.int .i64 0), (.bool false)] 173, snapCh w0 F] ?_
          intro Qd hP hQ
          have H162 : ∀ (v162 : Value) (r163 : Int) (r164 : Int) (e165 : GSpan) (h166 : ([(GSpan.mk 0 r13), (GSpan.mk 0 t154), (GSpan.mk t153 r13)])[(r163).toNat]? = some e165), Nx 83 (gB F [cellCh b1 [v2, (.int .i64 r_0_p)] 122] w0) (feet [cellCh b1 [v2, (.int .i64 r_0_p)] 122]) w0 (wpAnyH Tryd.prog .any (opsAt Tryd.f123 [1, 1, 1, 1, 1, 0, 1, 0]) Qd (Mem (gB F [cellCh b1 [v2, (.int .i64 r_0_p)] 122] w0) (feet [cellCh b1 [v2, (.int .i64 r_0_p)] 122]) w0 [cellCh b11 [(.int .i64 r7), (.int .i64 0), (.int .i64 0), (.bool (decide (r9 = 0)))] 173, cellCh b5 [(.int .i64 0), (.int .i64 0), (.int .i64 0), (.bool false)] 173, snapCh w0 F]) 0 #[true, true, true, true, true, true, true, true, true, true, true, true, true, true, true]) [(0, (.pointer (some ⟨b1, 0, none⟩))), (1, (.int .i64 n_1)), (4, (.pointer (some ⟨b5, 0, none⟩))), (5, (.pointer (some ⟨b11, 0, none⟩))), (6, (.int .i64 r13)), (7, (.pointer (some ⟨b16, 0, none⟩)))] [cellCh b1 [v2, (.int .i64 r164)] 122, cellCh b16 [(.int .i64 e165.xLo), (.int .i64 e165.xHi)] 83, cellCh b11 [(.int .i64 r7), (.int .i64 0), (.int .i64 0), (.bool (decide (r9 = 0)))] 173, cellCh b5 [(.int .i64 0), (.int .i64 0), (.int .i64 0), (.bool false)] 173, snapCh w0 F] (k161 (r164, e165.xLo, e165.xHi)) := by
            intro v162 r163 r164 e165 h166
            refine d_done (by kernel_rfl) ?_
            exact fun a w hE hm hφ => hQ (r164, e165.xLo, e165.xHi) a w hφ ((fun a w hE hm => ⟨hE.sub ⟨rfl, rfl, rfl, rfl, rfl, rfl, trivial⟩, (hm.pick [0, 1, 2, 3, 4] rfl)⟩) a w hE hm)
          have H163 : ∀ (v162 : Value) (r163 : Int) (r164 : Int) (e165 : GSpan) (h166 : ([(GSpan.mk 0 r13), (GSpan.mk 0 t154), (GSpan.mk t153 r13)])[(r163).toNat]? = some e165), Nx 83 (gB F [cellCh b1 [v2, (.int .i64 r_0_p)] 122] w0) (feet [cellCh b1 [v2, (.int .i64 r_0_p)] 122]) w0 (wpAnyH Tryd.prog .any (opsAt Tryd.f123 [1, 1, 1, 1, 1, 0, 1, 0]) Qd (Mem (gB F [cellCh b1 [v2, (.int .i64 r_0_p)] 122] w0) (feet [cellCh b1 [v2, (.int .i64 r_0_p)] 122]) w0 [cellCh b11 [(.int .i64 r7), (.int .i64 0), (.int .i64 0), (.bool (decide (r9 = 0)))] 173, cellCh b5 [(.int .i64 0), (.int .i64 0), (.int .i64 0), (.bool false)] 173, snapCh w0 F]) 1 #[true, true, true, true, true, true, true, true, true, true, true, true, true, true, false]) [(0, (.pointer (some ⟨b1, 0, none⟩))), (1, (.int .i64 n_1)), (4, (.pointer (some ⟨b5, 0, none⟩))), (5, (.pointer (some ⟨b11, 0, none⟩))), (6, (.int .i64 r13)), (7, (.pointer (some ⟨b16, 0, none⟩))), (53, (.agg #[(.int .i64 e165.xLo), (.int .i64 e165.xHi)]))] [cellCh b1 [v2, (.int .i64 r164)] 122, cellCh b16 [(.int .i64 t153), (.int .i64 t154)] 83, cellCh b11 [(.int .i64 r7), (.int .i64 0), (.int .i64 0), (.bool (decide (r9 = 0)))] 173, cellCh b5 [(.int .i64 0), (.int .i64 0), (.int .i64 0), (.bool false)] 173, snapCh w0 F] (k161 (r164, e165.xLo, e165.xHi)) := by
            intro v162 r163 r164 e165 h166
            refine d_one (i := 14) rfl (by kernel_rfl) (o_stc (cs' := [(.int .i64 e165.xLo), (.int .i64 e165.xHi)]) 1 rfl rfl rfl ty83 rfl rfl rfl rfl ?_)
            refine d_and (fun w m => m.pick [2, 3, 4] rfl) ?_
            refine pk [0, 1, 2, 3, 4] rfl ?_
            refine re (E' := [(0, (.pointer (some ⟨b1, 0, none⟩))), (1, (.int .i64 n_1)), (4, (.pointer (some ⟨b5, 0, none⟩))), (5, (.pointer (some ⟨b11, 0, none⟩))), (6, (.int .i64 r13)), (7, (.pointer (some ⟨b16, 0, none⟩)))]) ⟨rfl, rfl, rfl, rfl, rfl, rfl, trivial⟩ ?_
            exact H162 v162 r163 r164 e165 h166
          have H164 : ∀ (v162 : Value) (r163 : Int) (r164 : Int) (e165 : GSpan) (h166 : ([(GSpan.mk 0 r13), (GSpan.mk 0 t154), (GSpan.mk t153 r13)])[(r163).toNat]? = some e165), Nx 83 (gB F [cellCh b1 [v2, (.int .i64 r_0_p)] 122] w0) (feet [cellCh b1 [v2, (.int .i64 r_0_p)] 122]) w0 (wpAnyH Tryd.prog .any (opsAt Tryd.f123 [1, 1, 1, 1, 1, 0, 1, 0]) Qd (Mem (gB F [cellCh b1 [v2, (.int .i64 r_0_p)] 122] w0) (feet [cellCh b1 [v2, (.int .i64 r_0_p)] 122]) w0 [cellCh b11 [(.int .i64 r7), (.int .i64 0), (.int .i64 0), (.bool (decide (r9 = 0)))] 173, cellCh b5 [(.int .i64 0), (.int .i64 0), (.int .i64 0), (.bool false)] 173, snapCh w0 F]) 2 #[true, true, true, true, true, true, true, true, true, true, true, true, true, false, false]) [(0, (.pointer (some ⟨b1, 0, none⟩))), (1, (.int .i64 n_1)), (4, (.pointer (some ⟨b5, 0, none⟩))), (5, (.pointer (some ⟨b11, 0, none⟩))), (6, (.int .i64 r13)), (7, (.pointer (some ⟨b16, 0, none⟩))), (52, (pEl v162 r163 2 0))] [cellCh b1 [v2, (.int .i64 r164)] 122, ownCh elGSpan 83 v162 ([(GSpan.mk 0 r13), (GSpan.mk 0 t154), (GSpan.mk t153 r13)]), cellCh b16 [(.int .i64 t153), (.int .i64 t154)] 83, cellCh b11 [(.int .i64 r7), (.int .i64 0), (.int .i64 0), (.bool (decide (r9 = 0)))] 173, cellCh b5 [(.int .i64 0), (.int .i64 0), (.int .i64 0), (.bool false)] 173, snapCh w0 F] (k161 (r164, e165.xLo, e165.xHi)) := by
            intro v162 r163 r164 e165 h166
            refine d_one (i := 13) rfl (by kernel_rfl) (o_lds m_op (enc := encGSpan) (u := (.agg #[(.int .i64 e165.xLo), (.int .i64 e165.xHi)])) 1 rfl reads_own flelGSpan rfl h166 rfl rfl ty83 rfl ?_)
            refine d_and (fun w m => m.pick [3, 4, 5] rfl) ?_
            refine pk [0, 2, 3, 4, 5] rfl ?_
            refine re (E' := [(0, (.pointer (some ⟨b1, 0, none⟩))), (1, (.int .i64 n_1)), (4, (.pointer (some ⟨b5, 0, none⟩))), (5, (.pointer (some ⟨b11, 0, none⟩))), (6, (.int .i64 r13)), (7, (.pointer (some ⟨b16, 0, none⟩))), (53, (.agg #[(.int .i64 e165.xLo), (.int .i64 e165.xHi)]))]) ⟨rfl, rfl, rfl, rfl, rfl, rfl, rfl, trivial⟩ ?_
            exact H163 v162 r163 r164 e165 h166
          have H165 : ∀ (v162 : Value) (r163 : Int) (r164 : Int), Nx 83 (gB F [cellCh b1 [v2, (.int .i64 r_0_p)] 122] w0) (feet [cellCh b1 [v2, (.int .i64 r_0_p)] 122]) w0 (wpAnyH Tryd.prog .any (opsAt Tryd.f123 [1, 1, 1, 1, 1, 0, 1, 0]) Qd (Mem (gB F [cellCh b1 [v2, (.int .i64 r_0_p)] 122] w0) (feet [cellCh b1 [v2, (.int .i64 r_0_p)] 122]) w0 [cellCh b11 [(.int .i64 r7), (.int .i64 0), (.int .i64 0), (.bool (decide (r9 = 0)))] 173, cellCh b5 [(.int .i64 0), (.int .i64 0), (.int .i64 0), (.bool false)] 173, snapCh w0 F]) 3 #[true, true, true, true, true, true, true, true, true, true, true, true, false, false, false]) [(0, (.pointer (some ⟨b1, 0, none⟩))), (1, (.int .i64 n_1)), (4, (.pointer (some ⟨b5, 0, none⟩))), (5, (.pointer (some ⟨b11, 0, none⟩))), (6, (.int .i64 r13)), (7, (.pointer (some ⟨b16, 0, none⟩))), (49, v162), (51, (.int .i64 r163))] [cellCh b1 [v2, (.int .i64 r164)] 122, ownCh elGSpan 83 v162 ([(GSpan.mk 0 r13), (GSpan.mk 0 t154), (GSpan.mk t153 r13)]), cellCh b16 [(.int .i64 t153), (.int .i64 t154)] 83, cellCh b11 [(.int .i64 r7), (.int .i64 0), (.int .i64 0), (.bool (decide (r9 = 0)))] 173, cellCh b5 [(.int .i64 0), (.int .i64 0), (.int .i64 0), (.bool false)] 173, snapCh w0 F] (idxW ([(GSpan.mk 0 r13), (GSpan.mk 0 t154), (GSpan.mk t153 r13)]) r163 (fun e165 => k161 (r164, e165.xLo, e165.xHi))) := by
            intro v162 r163 r164
            refine d_one (i := 12) rfl (by kernel_rfl) (o_idx m_op 1 rfl reads_own rfl rfl rfl el84 ?_); intro e165 h166
            refine d_and (fun w m => m.pick [3, 4, 5] rfl) ?_
            refine pk [0, 1, 2, 3, 4, 5] rfl ?_
            refine re (E' := [(0, (.pointer (some ⟨b1, 0, none⟩))), (1, (.int .i64 n_1)), (4, (.pointer (some ⟨b5, 0, none⟩))), (5, (.pointer (some ⟨b11, 0, none⟩))), (6, (.int .i64 r13)), (7, (.pointer (some ⟨b16, 0, none⟩))), (52, (pEl v162 r163 2 0))]) ⟨rfl, rfl, rfl, rfl, rfl, rfl, rfl, trivial⟩ ?_
            exact H164 v162 r163 r164 e165 h166
          have H166 : ∀ (v162 : Value), Nx 83 (gB F [cellCh b1 [v2, (.int .i64 r_0_p)] 122] w0) (feet [cellCh b1 [v2, (.int .i64 r_0_p)] 122]) w0 (wpAnyH Tryd.prog .any (opsAt Tryd.f123 [1, 1, 1, 1, 1, 0, 1, 0]) Qd (Mem (gB F [cellCh b1 [v2, (.int .i64 r_0_p)] 122] w0) (feet [cellCh b1 [v2, (.int .i64 r_0_p)] 122]) w0 [cellCh b11 [(.int .i64 r7), (.int .i64 0), (.int .i64 0), (.bool (decide (r9 = 0)))] 173, cellCh b5 [(.int .i64 0), (.int .i64 0), (.int .i64 0), (.bool false)] 173, snapCh w0 F]) 4 #[true, true, true, true, true, true, true, true, true, true, true, false, false, false, false]) [(0, (.pointer (some ⟨b1, 0, none⟩))), (1, (.int .i64 n_1)), (4, (.pointer (some ⟨b5, 0, none⟩))), (5, (.pointer (some ⟨b11, 0, none⟩))), (6, (.int .i64 r13)), (7, (.pointer (some ⟨b16, 0, none⟩))), (50, (.pointer (some ⟨b1, 0, none⟩))), (49, v162)] [ownCh elGSpan 83 v162 ([(GSpan.mk 0 r13), (GSpan.mk 0 t154), (GSpan.mk t153 r13)]), cellCh b1 [v2, (.int .i64 r157)] 122, cellCh b16 [(.int .i64 t153), (.int .i64 t154)] 83, cellCh b11 [(.int .i64 r7), (.int .i64 0), (.int .i64 0), (.bool (decide (r9 = 0)))] 173, cellCh b5 [(.int .i64 0), (.int .i64 0), (.int .i64 0), (.bool false)] 173, snapCh w0 F] (L_spec_l20Rd_pick r_0_b r157 3 (fun (r163, r164) => idxW ([(GSpan.mk 0 r13), (GSpan.mk 0 t154), (GSpan.mk t153 r13)]) r163 (fun e165 => k161 (r164, e165.xLo, e165.xHi)))) := by
            intro v162
            refine pk [1, 0, 2, 3, 4, 5] rfl ?_
            refine d_one (i := 11) rfl (by kernel_rfl) (o_call (vs := [(.pointer (some ⟨b1, 0, none⟩)), (.int .i64 3)]) (M0 := [cellCh b1 [v2, (.int .i64 r157)] 122]) Tryd.call68 rfl rfl (by intro w m h; exact (w_spec_l20Rd_pick (F := allB [cellCh b1 [v2, (.int .i64 r157)] 122] w) (r_0_b := r_0_b) (r_0_p := r157) (n_1 := 3) allB_ok m.given (m.rdM 4 rfl (reads_snap hv2)) h).mono (fun _ _ k => ret_free (fun r u => (fr_cons free_cell fr_nil)) k)) ?_); rintro ⟨r163, r164⟩ _
            refine d_and (fun w m => m.pick [3, 4, 5] rfl) ?_
            refine pk [0, 1, 2, 3, 4, 5] rfl ?_
            refine re (E' := [(0, (.pointer (some ⟨b1, 0, none⟩))), (1, (.int .i64 n_1)), (4, (.pointer (some ⟨b5, 0, none⟩))), (5, (.pointer (some ⟨b11, 0, none⟩))), (6, (.int .i64 r13)), (7, (.pointer (some ⟨b16, 0, none⟩))), (49, v162), (51, (.int .i64 r163))]) ⟨rfl, rfl, rfl, rfl, rfl, rfl, rfl, rfl, trivial⟩ ?_
            exact H165 v162 r163 r164
          have H167 : ∀ (r167 : Int) (r168 : Int), Nx 83 (gB F [cellCh b1 [v2, (.int .i64 r_0_p)] 122] w0) (feet [cellCh b1 [v2, (.int .i64 r_0_p)] 122]) w0 (wpAnyH Tryd.prog .any (opsAt Tryd.f123 [1, 1, 1, 1, 1, 0, 1, 0]) Qd (Mem (gB F [cellCh b1 [v2, (.int .i64 r_0_p)] 122] w0) (feet [cellCh b1 [v2, (.int .i64 r_0_p)] 122]) w0 [cellCh b11 [(.int .i64 r7), (.int .i64 0), (.int .i64 0), (.bool (decide (r9 = 0)))] 173, cellCh b5 [(.int .i64 0), (.int .i64 0), (.int .i64 0), (.bool false)] 173, snapCh w0 F]) 4 #[true, true, true, true, true, true, true, true, true, false, true, true, false, false, false]) [(0, (.pointer (some ⟨b1, 0, none⟩))), (1, (.int .i64 n_1)), (4, (.pointer (some ⟨b5, 0, none⟩))), (5, (.pointer (some ⟨b11, 0, none⟩))), (6, (.int .i64 r13)), (7, (.pointer (some ⟨b16, 0, none⟩))), (41, (.agg #[(.int .i64 0), (.int .i64 r13)])), (44, (.agg #[(.int .i64 0), (.int .i64 t154)])), (48, (.agg #[(.int .i64 t153), (.int .i64 r13)])), (51, (.int .i64 r167))] [cellCh b1 [v2, (.int .i64 r168)] 122, cellCh b16 [(.int .i64 t153), (.int .i64 t154)] 83, cellCh b11 [(.int .i64 r7), (.int .i64 0), (.int .i64 0), (.bool (decide (r9 = 0)))] 173, cellCh b5 [(.int .i64 0), (.int .i64 0), (.int .i64 0), (.bool false)] 173, snapCh w0 F] (idxW ([(GSpan.mk 0 r13), (GSpan.mk 0 t154), (GSpan.mk t153 r13)]) r167 (fun e165 => k161 (r168, e165.xLo, e165.xHi))) := by
            intro r167 r168
            refine d_one (i := 9) rfl (by kernel_rfl) (o_bsl (enc := encGSpan) (qs := [(0, (.agg #[(.int .i64 0), (.int .i64 r13)])), (1, (.agg #[(.int .i64 0), (.int .i64 t154)])), (2, (.agg #[(.int .i64 t153), (.int .i64 r13)]))]) (cells := [(.int .i64 0), (.int .i64 r13), (.int .i64 0), (.int .i64 t154), (.int .i64 t153), (.int .i64 r13)]) ([(GSpan.mk 0 r13), (GSpan.mk 0 t154), (GSpan.mk t153 r13)]) flelGSpan (by intro ρ h; simp only [List.map_toArray, List.map_cons, List.map_nil, h (.tmp 41) _ rfl, h (.tmp 44) _ rfl, h (.tmp 48) _ rfl]) rfl el84 zero83 rfl rfl rfl rfl rfl rfl ?_); intro v169
            refine d_and (fun w m => m.pick [3, 4, 5] rfl) ?_
            refine pk [1, 0, 2, 3, 4, 5] rfl ?_
            refine re (E' := [(0, (.pointer (some ⟨b1, 0, none⟩))), (1, (.int .i64 n_1)), (4, (.pointer (some ⟨b5, 0, none⟩))), (5, (.pointer (some ⟨b11, 0, none⟩))), (6, (.int .i64 r13)), (7, (.pointer (some ⟨b16, 0, none⟩))), (49, v169), (51, (.int .i64 r167))]) ⟨rfl, rfl, rfl, rfl, rfl, rfl, rfl, rfl, trivial⟩ ?_
            exact H165 v169 r167 r168
          have H168 : ∀ (_ : Unit), Nx 83 (gB F [cellCh b1 [v2, (.int .i64 r_0_p)] 122] w0) (feet [cellCh b1 [v2, (.int .i64 r_0_p)] 122]) w0 (wpAnyH Tryd.prog .any (opsAt Tryd.f123 [1, 1, 1, 1, 1, 0, 1, 0]) Qd (Mem (gB F [cellCh b1 [v2, (.int .i64 r_0_p)] 122] w0) (feet [cellCh b1 [v2, (.int .i64 r_0_p)] 122]) w0 [cellCh b11 [(.int .i64 r7), (.int .i64 0), (.int .i64 0), (.bool (decide (r9 = 0)))] 173, cellCh b5 [(.int .i64 0), (.int .i64 0), (.int .i64 0), (.bool false)] 173, snapCh w0 F]) 6 #[true, true, true, true, true, true, true, true, false, false, true, false, false, false, false]) [(0, (.pointer (some ⟨b1, 0, none⟩))), (1, (.int .i64 n_1)), (4, (.pointer (some ⟨b5, 0, none⟩))), (5, (.pointer (some ⟨b11, 0, none⟩))), (6, (.int .i64 r13)), (7, (.pointer (some ⟨b16, 0, none⟩))), (41, (.agg #[(.int .i64 0), (.int .i64 r13)])), (47, (.int .i64 r13)), (50, (.pointer (some ⟨b1, 0, none⟩))), (44, (.agg #[(.int .i64 0), (.int .i64 t154)])), (46, (.int .i64 t153))] [cellCh b1 [v2, (.int .i64 r157)] 122, cellCh b16 [(.int .i64 t153), (.int .i64 t154)] 83, cellCh b11 [(.int .i64 r7), (.int .i64 0), (.int .i64 0), (.bool (decide (r9 = 0)))] 173, cellCh b5 [(.int .i64 0), (.int .i64 0), (.int .i64 0), (.bool false)] 173, snapCh w0 F] (L_spec_l20Rd_pick r_0_b r157 3 (fun (r163, r164) => idxW ([(GSpan.mk 0 r13), (GSpan.mk 0 t154), (GSpan.mk t153 r13)]) r163 (fun e165 => k161 (r164, e165.xLo, e165.xHi)))) := by
            intro _
            refine o_bld (dt 8 (fun w m => m.pick [2, 3, 4] rfl)) (qs := [(0, (.int .i64 t153)), (1, (.int .i64 r13))]) (cells := [(.int .i64 t153), (.int .i64 r13)]) (by intro ρ h; simp only [List.map_toArray, List.map_cons, List.map_nil, h (.tmp 46) _ rfl, h (.tmp 47) _ rfl]) rfl bld83 rfl ?_
            refine d_two (i := 9) (j := 11) rfl rfl (by kernel_rfl) ?_ ?_
            · intro o ho; cases ho
              refine o_bsl (enc := encGSpan) (qs := [(0, (.agg #[(.int .i64 0), (.int .i64 r13)])), (1, (.agg #[(.int .i64 0), (.int .i64 t154)])), (2, (.agg #[(.int .i64 t153), (.int .i64 r13)]))]) (cells := [(.int .i64 0), (.int .i64 r13), (.int .i64 0), (.int .i64 t154), (.int .i64 t153), (.int .i64 r13)]) ([(GSpan.mk 0 r13), (GSpan.mk 0 t154), (GSpan.mk t153 r13)]) flelGSpan (by intro ρ h; simp only [List.map_toArray, List.map_cons, List.map_nil, h (.tmp 41) _ rfl, h (.tmp 44) _ rfl, h (.tmp 48) _ rfl]) rfl el84 zero83 rfl rfl rfl rfl rfl rfl ?_; intro v162
              refine d_and (fun w m => m.pick [3, 4, 5] rfl) ?_
              refine pk [0, 1, 2, 3, 4, 5] rfl ?_
              refine re (E' := [(0, (.pointer (some ⟨b1, 0, none⟩))), (1, (.int .i64 n_1)), (4, (.pointer (some ⟨b5, 0, none⟩))), (5, (.pointer (some ⟨b11, 0, none⟩))), (6, (.int .i64 r13)), (7, (.pointer (some ⟨b16, 0, none⟩))), (50, (.pointer (some ⟨b1, 0, none⟩))), (49, v162)]) ⟨rfl, rfl, rfl, rfl, rfl, rfl, rfl, rfl, trivial⟩ ?_
              exact H166 v162
            · intro o ho; cases ho
              refine o_call (vs := [(.pointer (some ⟨b1, 0, none⟩)), (.int .i64 3)]) (M0 := [cellCh b1 [v2, (.int .i64 r157)] 122]) Tryd.call68 rfl rfl (by intro w m h; exact (w_spec_l20Rd_pick (F := allB [cellCh b1 [v2, (.int .i64 r157)] 122] w) (r_0_b := r_0_b) (r_0_p := r157) (n_1 := 3) allB_ok m.given (m.rdM 3 rfl (reads_snap hv2)) h).mono (fun _ _ k => ret_free (fun r u => (fr_cons free_cell fr_nil)) k)) ?_; rintro ⟨r167, r168⟩ _
              refine d_and (fun w m => m.pick [2, 3, 4] rfl) ?_
              refine pk [0, 1, 2, 3, 4] rfl ?_
              refine re (E' := [(0, (.pointer (some ⟨b1, 0, none⟩))), (1, (.int .i64 n_1)), (4, (.pointer (some ⟨b5, 0, none⟩))), (5, (.pointer (some ⟨b11, 0, none⟩))), (6, (.int .i64 r13)), (7, (.pointer (some ⟨b16, 0, none⟩))), (41, (.agg #[(.int .i64 0), (.int .i64 r13)])), (44, (.agg #[(.int .i64 0), (.int .i64 t154)])), (48, (.agg #[(.int .i64 t153), (.int .i64 r13)])), (51, (.int .i64 r167))]) ⟨rfl, rfl, rfl, rfl, rfl, rfl, rfl, rfl, rfl, rfl, trivial⟩ ?_
              exact H167 r167 r168
          have H169 : ∀ (r170 : Int) (r171 : Int), Nx 83 (gB F [cellCh b1 [v2, (.int .i64 r_0_p)] 122] w0) (feet [cellCh b1 [v2, (.int .i64 r_0_p)] 122]) w0 (wpAnyH Tryd.prog .any (opsAt Tryd.f123 [1, 1, 1, 1, 1, 0, 1, 0]) Qd (Mem (gB F [cellCh b1 [v2, (.int .i64 r_0_p)] 122] w0) (feet [cellCh b1 [v2, (.int .i64 r_0_p)] 122]) w0 [cellCh b11 [(.int .i64 r7), (.int .i64 0), (.int .i64 0), (.bool (decide (r9 = 0)))] 173, cellCh b5 [(.int .i64 0), (.int .i64 0), (.int .i64 0), (.bool false)] 173, snapCh w0 F]) 5 #[true, true, true, true, true, true, true, true, false, false, true, true, false, false, false]) [(0, (.pointer (some ⟨b1, 0, none⟩))), (1, (.int .i64 n_1)), (4, (.pointer (some ⟨b5, 0, none⟩))), (5, (.pointer (some ⟨b11, 0, none⟩))), (6, (.int .i64 r13)), (7, (.pointer (some ⟨b16, 0, none⟩))), (41, (.agg #[(.int .i64 0), (.int .i64 r13)])), (47, (.int .i64 r13)), (44, (.agg #[(.int .i64 0), (.int .i64 t154)])), (51, (.int .i64 r170)), (46, (.int .i64 t153))] [cellCh b1 [v2, (.int .i64 r171)] 122, cellCh b16 [(.int .i64 t153), (.int .i64 t154)] 83, cellCh b11 [(.int .i64 r7), (.int .i64 0), (.int .i64 0), (.bool (decide (r9 = 0)))] 173, cellCh b5 [(.int .i64 0), (.int .i64 0), (.int .i64 0), (.bool false)] 173, snapCh w0 F] (idxW ([(GSpan.mk 0 r13), (GSpan.mk 0 t154), (GSpan.mk t153 r13)]) r170 (fun e165 => k161 (r171, e165.xLo, e165.xHi))) := by
            intro r170 r171
            refine o_bld (dt 8 (fun w m => m.pick [2, 3, 4] rfl)) (qs := [(0, (.int .i64 t153)), (1, (.int .i64 r13))]) (cells := [(.int .i64 t153), (.int .i64 r13)]) (by intro ρ h; simp only [List.map_toArray, List.map_cons, List.map_nil, h (.tmp 46) _ rfl, h (.tmp 47) _ rfl]) rfl bld83 rfl ?_
            refine d_one (i := 9) rfl (by kernel_rfl) (o_bsl (enc := encGSpan) (qs := [(0, (.agg #[(.int .i64 0), (.int .i64 r13)])), (1, (.agg #[(.int .i64 0), (.int .i64 t154)])), (2, (.agg #[(.int .i64 t153), (.int .i64 r13)]))]) (cells := [(.int .i64 0), (.int .i64 r13), (.int .i64 0), (.int .i64 t154), (.int .i64 t153), (.int .i64 r13)]) ([(GSpan.mk 0 r13), (GSpan.mk 0 t154), (GSpan.mk t153 r13)]) flelGSpan (by intro ρ h; simp only [List.map_toArray, List.map_cons, List.map_nil, h (.tmp 41) _ rfl, h (.tmp 44) _ rfl, h (.tmp 48) _ rfl]) rfl el84 zero83 rfl rfl rfl rfl rfl rfl ?_); intro v172
            refine d_and (fun w m => m.pick [3, 4, 5] rfl) ?_
            refine pk [1, 0, 2, 3, 4, 5] rfl ?_
            refine re (E' := [(0, (.pointer (some ⟨b1, 0, none⟩))), (1, (.int .i64 n_1)), (4, (.pointer (some ⟨b5, 0, none⟩))), (5, (.pointer (some ⟨b11, 0, none⟩))), (6, (.int .i64 r13)), (7, (.pointer (some ⟨b16, 0, none⟩))), (49, v172), (51, (.int .i64 r170))]) ⟨rfl, rfl, rfl, rfl, rfl, rfl, rfl, rfl, trivial⟩ ?_
            exact H165 v172 r170 r171
          have H170 : ∀ (r170 : Int) (r171 : Int), Nx 83 (gB F [cellCh b1 [v2, (.int .i64 r_0_p)] 122] w0) (feet [cellCh b1 [v2, (.int .i64 r_0_p)] 122]) w0 (wpAnyH Tryd.prog .any (opsAt Tryd.f123 [1, 1, 1, 1, 1, 0, 1, 0]) Qd (Mem (gB F [cellCh b1 [v2, (.int .i64 r_0_p)] 122] w0) (feet [cellCh b1 [v2, (.int .i64 r_0_p)] 122]) w0 [cellCh b11 [(.int .i64 r7), (.int .i64 0), (.int .i64 0), (.bool (decide (r9 = 0)))] 173, cellCh b5 [(.int .i64 0), (.int .i64 0), (.int .i64 0), (.bool false)] 173, snapCh w0 F]) 6 #[true, true, true, true, true, true, false, true, false, false, true, true, false, false, false]) [(0, (.pointer (some ⟨b1, 0, none⟩))), (1, (.int .i64 n_1)), (4, (.pointer (some ⟨b5, 0, none⟩))), (5, (.pointer (some ⟨b11, 0, none⟩))), (6, (.int .i64 r13)), (7, (.pointer (some ⟨b16, 0, none⟩))), (41, (.agg #[(.int .i64 0), (.int .i64 r13)])), (45, (.pointer (some ⟨b16, 0, none⟩))), (47, (.int .i64 r13)), (44, (.agg #[(.int .i64 0), (.int .i64 t154)])), (51, (.int .i64 r170))] [cellCh b1 [v2, (.int .i64 r171)] 122, cellCh b16 [(.int .i64 t153), (.int .i64 t154)] 83, cellCh b11 [(.int .i64 r7), (.int .i64 0), (.int .i64 0), (.bool (decide (r9 = 0)))] 173, cellCh b5 [(.int .i64 0), (.int .i64 0), (.int .i64 0), (.bool false)] 173, snapCh w0 F] (idxW ([(GSpan.mk 0 r13), (GSpan.mk 0 t154), (GSpan.mk t153 r13)]) r170 (fun e165 => k161 (r171, e165.xLo, e165.xHi))) := by
            intro r170 r171
            refine d_one (i := 6) rfl (by kernel_rfl) (o_ldc m_op (v := (.int .i64 t153)) 1 rfl rfl rfl ty3 rfl ?_)
            refine d_and (fun w m => m.pick [2, 3, 4] rfl) ?_
            refine pk [0, 1, 2, 3, 4] rfl ?_
            refine re (E' := [(0, (.pointer (some ⟨b1, 0, none⟩))), (1, (.int .i64 n_1)), (4, (.pointer (some ⟨b5, 0, none⟩))), (5, (.pointer (some ⟨b11, 0, none⟩))), (6, (.int .i64 r13)), (7, (.pointer (some ⟨b16, 0, none⟩))), (41, (.agg #[(.int .i64 0), (.int .i64 r13)])), (47, (.int .i64 r13)), (44, (.agg #[(.int .i64 0), (.int .i64 t154)])), (51, (.int .i64 r170)), (46, (.int .i64 t153))]) ⟨rfl, rfl, rfl, rfl, rfl, rfl, rfl, rfl, rfl, rfl, rfl, trivial⟩ ?_
            exact H169 r170 r171
          have H171 : ∀ (_ : Unit), Nx 83 (gB F [cellCh b1 [v2, (.int .i64 r_0_p)] 122] w0) (feet [cellCh b1 [v2, (.int .i64 r_0_p)] 122]) w0 (wpAnyH Tryd.prog .any (opsAt Tryd.f123 [1, 1, 1, 1, 1, 0, 1, 0]) Qd (Mem (gB F [cellCh b1 [v2, (.int .i64 r_0_p)] 122] w0) (feet [cellCh b1 [v2, (.int .i64 r_0_p)] 122]) w0 [cellCh b11 [(.int .i64 r7), (.int .i64 0), (.int .i64 0), (.bool (decide (r9 = 0)))] 173, cellCh b5 [(.int .i64 0), (.int .i64 0), (.int .i64 0), (.bool false)] 173, snapCh w0 F]) 8 #[true, true, true, true, false, true, false, true, false, false, true, false, false, false, false]) [(0, (.pointer (some ⟨b1, 0, none⟩))), (1, (.int .i64 n_1)), (4, (.pointer (some ⟨b5, 0, none⟩))), (5, (.pointer (some ⟨b11, 0, none⟩))), (6, (.int .i64 r13)), (7, (.pointer (some ⟨b16, 0, none⟩))), (41, (.agg #[(.int .i64 0), (.int .i64 r13)])), (45, (.pointer (some ⟨b16, 0, none⟩))), (47, (.int .i64 r13)), (50, (.pointer (some ⟨b1, 0, none⟩))), (43, (.int .i64 t154))] [cellCh b1 [v2, (.int .i64 r157)] 122, cellCh b16 [(.int .i64 t153), (.int .i64 t154)] 83, cellCh b11 [(.int .i64 r7), (.int .i64 0), (.int .i64 0), (.bool (decide (r9 = 0)))] 173, cellCh b5 [(.int .i64 0), (.int .i64 0), (.int .i64 0), (.bool false)] 173, snapCh w0 F] (L_spec_l20Rd_pick r_0_b r157 3 (fun (r163, r164) => idxW ([(GSpan.mk 0 r13), (GSpan.mk 0 t154), (GSpan.mk t153 r13)]) r163 (fun e165 => k161 (r164, e165.xLo, e165.xHi)))) := by
            intro _
            refine o_bld (dt 4 (fun w m => m.pick [2, 3, 4] rfl)) (qs := [(0, (.int .i64 0)), (1, (.int .i64 t154))]) (cells := [(.int .i64 0), (.int .i64 t154)]) (by intro ρ h; simp only [List.map_toArray, List.map_cons, List.map_nil, h (.const (.int .i64 0)) _ rfl, h (.tmp 43) _ rfl]) rfl bld83 rfl ?_
            refine d_two (i := 6) (j := 11) rfl rfl (by kernel_rfl) ?_ ?_
            · intro o ho; cases ho
              refine o_ldc m_op (v := (.int .i64 t153)) 1 rfl rfl rfl ty3 rfl ?_
              refine d_and (fun w m => m.pick [2, 3, 4] rfl) ?_
              refine pk [0, 1, 2, 3, 4] rfl ?_
              refine re (E' := [(0, (.pointer (some ⟨b1, 0, none⟩))), (1, (.int .i64 n_1)), (4, (.pointer (some ⟨b5, 0, none⟩))), (5, (.pointer (some ⟨b11, 0, none⟩))), (6, (.int .i64 r13)), (7, (.pointer (some ⟨b16, 0, none⟩))), (41, (.agg #[(.int .i64 0), (.int .i64 r13)])), (47, (.int .i64 r13)), (50, (.pointer (some ⟨b1, 0, none⟩))), (44, (.agg #[(.int .i64 0), (.int .i64 t154)])), (46, (.int .i64 t153))]) ⟨rfl, rfl, rfl, rfl, rfl, rfl, rfl, rfl, rfl, rfl, rfl, trivial⟩ ?_
              exact H168 ()
            · intro o ho; cases ho
              refine o_call (vs := [(.pointer (some ⟨b1, 0, none⟩)), (.int .i64 3)]) (M0 := [cellCh b1 [v2, (.int .i64 r157)] 122]) Tryd.call68 rfl rfl (by intro w m h; exact (w_spec_l20Rd_pick (F := allB [cellCh b1 [v2, (.int .i64 r157)] 122] w) (r_0_b := r_0_b) (r_0_p := r157) (n_1 := 3) allB_ok m.given (m.rdM 3 rfl (reads_snap hv2)) h).mono (fun _ _ k => ret_free (fun r u => (fr_cons free_cell fr_nil)) k)) ?_; rintro ⟨r170, r171⟩ _
              refine d_and (fun w m => m.pick [2, 3, 4] rfl) ?_
              refine pk [0, 1, 2, 3, 4] rfl ?_
              refine re (E' := [(0, (.pointer (some ⟨b1, 0, none⟩))), (1, (.int .i64 n_1)), (4, (.pointer (some ⟨b5, 0, none⟩))), (5, (.pointer (some ⟨b11, 0, none⟩))), (6, (.int .i64 r13)), (7, (.pointer (some ⟨b16, 0, none⟩))), (41, (.agg #[(.int .i64 0), (.int .i64 r13)])), (45, (.pointer (some ⟨b16, 0, none⟩))), (47, (.int .i64 r13)), (44, (.agg #[(.int .i64 0), (.int .i64 t154)])), (51, (.int .i64 r170))]) ⟨rfl, rfl, rfl, rfl, rfl, rfl, rfl, rfl, rfl, rfl, rfl, trivial⟩ ?_
              exact H170 r170 r171
          have H172 : ∀ (_ : Unit), Nx 83 (gB F [cellCh b1 [v2, (.int .i64 r_0_p)] 122] w0) (feet [cellCh b1 [v2, (.int .i64 r_0_p)] 122]) w0 (wpAnyH Tryd.prog .any (opsAt Tryd.f123 [1, 1, 1, 1, 1, 0, 1, 0]) Qd (Mem (gB F [cellCh b1 [v2, (.int .i64 r_0_p)] 122] w0) (feet [cellCh b1 [v2, (.int .i64 r_0_p)] 122]) w0 [cellCh b11 [(.int .i64 r7), (.int .i64 0), (.int .i64 0), (.bool (decide (r9 = 0)))] 173, cellCh b5 [(.int .i64 0), (.int .i64 0), (.int .i64 0), (.bool false)] 173, snapCh w0 F]) 6 #[true, true, true, true, false, true, true, true, true, false, true, false, false, false, false]) [(0, (.pointer (some ⟨b1, 0, none⟩))), (1, (.int .i64 n_1)), (4, (.pointer (some ⟨b5, 0, none⟩))), (5, (.pointer (some ⟨b11, 0, none⟩))), (6, (.int .i64 r13)), (7, (.pointer (some ⟨b16, 0, none⟩))), (41, (.agg #[(.int .i64 0), (.int .i64 r13)])), (50, (.pointer (some ⟨b1, 0, none⟩))), (48, (.agg #[(.int .i64 t153), (.int .i64 r13)])), (43, (.int .i64 t154))] [cellCh b1 [v2, (.int .i64 r157)] 122, cellCh b16 [(.int .i64 t153), (.int .i64 t154)] 83, cellCh b11 [(.int .i64 r7), (.int .i64 0), (.int .i64 0), (.bool (decide (r9 = 0)))] 173, cellCh b5 [(.int .i64 0), (.int .i64 0), (.int .i64 0), (.bool false)] 173, snapCh w0 F] (L_spec_l20Rd_pick r_0_b r157 3 (fun (r163, r164) => idxW ([(GSpan.mk 0 r13), (GSpan.mk 0 t154), (GSpan.mk t153 r13)]) r163 (fun e165 => k161 (r164, e165.xLo, e165.xHi)))) := by
            intro _
            refine o_bld (dt 4 (fun w m => m.pick [2, 3, 4] rfl)) (qs := [(0, (.int .i64 0)), (1, (.int .i64 t154))]) (cells := [(.int .i64 0), (.int .i64 t154)]) (by intro ρ h; simp only [List.map_toArray, List.map_cons, List.map_nil, h (.const (.int .i64 0)) _ rfl, h (.tmp 43) _ rfl]) rfl bld83 rfl ?_
            refine d_two (i := 9) (j := 11) rfl rfl (by kernel_rfl) ?_ ?_
            · intro o ho; cases ho
              refine o_bsl (enc := encGSpan) (qs := [(0, (.agg #[(.int .i64 0), (.int .i64 r13)])), (1, (.agg #[(.int .i64 0), (.int .i64 t154)])), (2, (.agg #[(.int .i64 t153), (.int .i64 r13)]))]) (cells := [(.int .i64 0), (.int .i64 r13), (.int .i64 0), (.int .i64 t154), (.int .i64 t153), (.int .i64 r13)]) ([(GSpan.mk 0 r13), (GSpan.mk 0 t154), (GSpan.mk t153 r13)]) flelGSpan (by intro ρ h; simp only [List.map_toArray, List.map_cons, List.map_nil, h (.tmp 41) _ rfl, h (.tmp 44) _ rfl, h (.tmp 48) _ rfl]) rfl el84 zero83 rfl rfl rfl rfl rfl rfl ?_; intro v173
              refine d_and (fun w m => m.pick [3, 4, 5] rfl) ?_
              refine pk [0, 1, 2, 3, 4, 5] rfl ?_
              refine re (E' := [(0, (.pointer (some ⟨b1, 0, none⟩))), (1, (.int .i64 n_1)), (4, (.pointer (some ⟨b5, 0, none⟩))), (5, (.pointer (some ⟨b11, 0, none⟩))), (6, (.int .i64 r13)), (7, (.pointer (some ⟨b16, 0, none⟩))), (50, (.pointer (some ⟨b1, 0, none⟩))), (49, v173)]) ⟨rfl, rfl, rfl, rfl, rfl, rfl, rfl, rfl, trivial⟩ ?_
              exact H166 v173
            · intro o ho; cases ho
              refine o_call (vs := [(.pointer (some ⟨b1, 0, none⟩)), (.int .i64 3)]) (M0 := [cellCh b1 [v2, (.int .i64 r157)] 122]) Tryd.call68 rfl rfl (by intro w m h; exact (w_spec_l20Rd_pick (F := allB [cellCh b1 [v2, (.int .i64 r157)] 122] w) (r_0_b := r_0_b) (r_0_p := r157) (n_1 := 3) allB_ok m.given (m.rdM 3 rfl (reads_snap hv2)) h).mono (fun _ _ k => ret_free (fun r u => (fr_cons free_cell fr_nil)) k)) ?_; rintro ⟨r174, r175⟩ _
              refine d_and (fun w m => m.pick [2, 3, 4] rfl) ?_
              refine pk [0, 1, 2, 3, 4] rfl ?_
              refine re (E' := [(0, (.pointer (some ⟨b1, 0, none⟩))), (1, (.int .i64 n_1)), (4, (.pointer (some ⟨b5, 0, none⟩))), (5, (.pointer (some ⟨b11, 0, none⟩))), (6, (.int .i64 r13)), (7, (.pointer (some ⟨b16, 0, none⟩))), (41, (.agg #[(.int .i64 0), (.int .i64 r13)])), (44, (.agg #[(.int .i64 0), (.int .i64 t154)])), (48, (.agg #[(.int .i64 t153), (.int .i64 r13)])), (51, (.int .i64 r174))]) ⟨rfl, rfl, rfl, rfl, rfl, rfl, rfl, rfl, rfl, rfl, trivial⟩ ?_
              exact H167 r174 r175
          have H173 : ∀ (r176 : Int) (r177 : Int), Nx 83 (gB F [cellCh b1 [v2, (.int .i64 r_0_p)] 122] w0) (feet [cellCh b1 [v2, (.int .i64 r_0_p)] 122]) w0 (wpAnyH Tryd.prog .any (opsAt Tryd.f123 [1, 1, 1, 1, 1, 0, 1, 0]) Qd (Mem (gB F [cellCh b1 [v2, (.int .i64 r_0_p)] 122] w0) (feet [cellCh b1 [v2, (.int .i64 r_0_p)] 122]) w0 [cellCh b11 [(.int .i64 r7), (.int .i64 0), (.int .i64 0), (.bool (decide (r9 = 0)))] 173, cellCh b5 [(.int .i64 0), (.int .i64 0), (.int .i64 0), (.bool false)] 173, snapCh w0 F]) 5 #[true, true, true, true, false, true, true, true, true, false, true, true, false, false, false]) [(0, (.pointer (some ⟨b1, 0, none⟩))), (1, (.int .i64 n_1)), (4, (.pointer (some ⟨b5, 0, none⟩))), (5, (.pointer (some ⟨b11, 0, none⟩))), (6, (.int .i64 r13)), (7, (.pointer (some ⟨b16, 0, none⟩))), (41, (.agg #[(.int .i64 0), (.int .i64 r13)])), (48, (.agg #[(.int .i64 t153), (.int .i64 r13)])), (51, (.int .i64 r176)), (43, (.int .i64 t154))] [cellCh b1 [v2, (.int .i64 r177)] 122, cellCh b16 [(.int .i64 t153), (.int .i64 t154)] 83, cellCh b11 [(.int .i64 r7), (.int .i64 0), (.int .i64 0), (.bool (decide (r9 = 0)))] 173, cellCh b5 [(.int .i64 0), (.int .i64 0), (.int .i64 0), (.bool false)] 173, snapCh w0 F] (idxW ([(GSpan.mk 0 r13), (GSpan.mk 0 t154), (GSpan.mk t153 r13)]) r176 (fun e165 => k161 (r177, e165.xLo, e165.xHi))) := by
            intro r176 r177
            refine o_bld (dt 4 (fun w m => m.pick [2, 3, 4] rfl)) (qs := [(0, (.int .i64 0)), (1, (.int .i64 t154))]) (cells := [(.int .i64 0), (.int .i64 t154)]) (by intro ρ h; simp only [List.map_toArray, List.map_cons, List.map_nil, h (.const (.int .i64 0)) _ rfl, h (.tmp 43) _ rfl]) rfl bld83 rfl ?_
            refine d_one (i := 9) rfl (by kernel_rfl) (o_bsl (enc := encGSpan) (qs := [(0, (.agg #[(.int .i64 0), (.int .i64 r13)])), (1, (.agg #[(.int .i64 0), (.int .i64 t154)])), (2, (.agg #[(.int .i64 t153), (.int .i64 r13)]))]) (cells := [(.int .i64 0), (.int .i64 r13), (.int .i64 0), (.int .i64 t154), (.int .i64 t153), (.int .i64 r13)]) ([(GSpan.mk 0 r13), (GSpan.mk 0 t154), (GSpan.mk t153 r13)]) flelGSpan (by intro ρ h; simp only [List.map_toArray, List.map_cons, List.map_nil, h (.tmp 41) _ rfl, h (.tmp 44) _ rfl, h (.tmp 48) _ rfl]) rfl el84 zero83 rfl rfl rfl rfl rfl rfl ?_); intro v178
            refine d_and (fun w m => m.pick [3, 4, 5] rfl) ?_
            refine pk [1, 0, 2, 3, 4, 5] rfl ?_
            refine re (E' := [(0, (.pointer (some ⟨b1, 0, none⟩))), (1, (.int .i64 n_1)), (4, (.pointer (some ⟨b5, 0, none⟩))), (5, (.pointer (some ⟨b11, 0, none⟩))), (6, (.int .i64 r13)), (7, (.pointer (some ⟨b16, 0, none⟩))), (49, v178), (51, (.int .i64 r176))]) ⟨rfl, rfl, rfl, rfl, rfl, rfl, rfl, rfl, trivial⟩ ?_
            exact H165 v178 r176 r177
          have H174 : ∀ (r176 : Int) (r177 : Int), Nx 83 (gB F [cellCh b1 [v2, (.int .i64 r_0_p)] 122] w0) (feet [cellCh b1 [v2, (.int .i64 r_0_p)] 122]) w0 (wpAnyH Tryd.prog .any (opsAt Tryd.f123 [1, 1, 1, 1, 1, 0, 1, 0]) Qd (Mem (gB F [cellCh b1 [v2, (.int .i64 r_0_p)] 122] w0) (feet [cellCh b1 [v2, (.int .i64 r_0_p)] 122]) w0 [cellCh b11 [(.int .i64 r7), (.int .i64 0), (.int .i64 0), (.bool (decide (r9 = 0)))] 173, cellCh b5 [(.int .i64 0), (.int .i64 0), (.int .i64 0), (.bool false)] 173, snapCh w0 F]) 6 #[true, true, true, false, false, true, true, true, true, false, true, true, false, false, false]) [(0, (.pointer (some ⟨b1, 0, none⟩))), (1, (.int .i64 n_1)), (4, (.pointer (some ⟨b5, 0, none⟩))), (5, (.pointer (some ⟨b11, 0, none⟩))), (6, (.int .i64 r13)), (7, (.pointer (some ⟨b16, 0, none⟩))), (41, (.agg #[(.int .i64 0), (.int .i64 r13)])), (42, (.pointer (some ⟨b16, 1, none⟩))), (48, (.agg #[(.int .i64 t153), (.int .i64 r13)])), (51, (.int .i64 r176))] [cellCh b1 [v2, (.int .i64 r177)] 122, cellCh b16 [(.int .i64 t153), (.int .i64 t154)] 83, cellCh b11 [(.int .i64 r7), (.int .i64 0), (.int .i64 0), (.bool (decide (r9 = 0)))] 173, cellCh b5 [(.int .i64 0), (.int .i64 0), (.int .i64 0), (.bool false)] 173, snapCh w0 F] (idxW ([(GSpan.mk 0 r13), (GSpan.mk 0 t154), (GSpan.mk t153 r13)]) r176 (fun e165 => k161 (r177, e165.xLo, e165.xHi))) := by
            intro r176 r177
            refine d_one (i := 3) rfl (by kernel_rfl) (o_ldc m_op (v := (.int .i64 t154)) 1 rfl rfl rfl ty3 rfl ?_)
            refine d_and (fun w m => m.pick [2, 3, 4] rfl) ?_
            refine pk [0, 1, 2, 3, 4] rfl ?_
            refine re (E' := [(0, (.pointer (some ⟨b1, 0, none⟩))), (1, (.int .i64 n_1)), (4, (.pointer (some ⟨b5, 0, none⟩))), (5, (.pointer (some ⟨b11, 0, none⟩))), (6, (.int .i64 r13)), (7, (.pointer (some ⟨b16, 0, none⟩))), (41, (.agg #[(.int .i64 0), (.int .i64 r13)])), (48, (.agg #[(.int .i64 t153), (.int .i64 r13)])), (51, (.int .i64 r176)), (43, (.int .i64 t154))]) ⟨rfl, rfl, rfl, rfl, rfl, rfl, rfl, rfl, rfl, rfl, trivial⟩ ?_
            exact H173 r176 r177
          have H175 : ∀ (_ : Unit), Nx 83 (gB F [cellCh b1 [v2, (.int .i64 r_0_p)] 122] w0) (feet [cellCh b1 [v2, (.int .i64 r_0_p)] 122]) w0 (wpAnyH Tryd.prog .any (opsAt Tryd.f123 [1, 1, 1, 1, 1, 0, 1, 0]) Qd (Mem (gB F [cellCh b1 [v2, (.int .i64 r_0_p)] 122] w0) (feet [cellCh b1 [v2, (.int .i64 r_0_p)] 122]) w0 [cellCh b11 [(.int .i64 r7), (.int .i64 0), (.int .i64 0), (.bool (decide (r9 = 0)))] 173, cellCh b5 [(.int .i64 0), (.int .i64 0), (.int .i64 0), (.bool false)] 173, snapCh w0 F]) 8 #[true, true, true, false, false, true, true, true, false, false, true, false, false, false, false]) [(0, (.pointer (some ⟨b1, 0, none⟩))), (1, (.int .i64 n_1)), (4, (.pointer (some ⟨b5, 0, none⟩))), (5, (.pointer (some ⟨b11, 0, none⟩))), (6, (.int .i64 r13)), (7, (.pointer (some ⟨b16, 0, none⟩))), (41, (.agg #[(.int .i64 0), (.int .i64 r13)])), (42, (.pointer (some ⟨b16, 1, none⟩))), (47, (.int .i64 r13)), (50, (.pointer (some ⟨b1, 0, none⟩))), (46, (.int .i64 t153))] [cellCh b1 [v2, (.int .i64 r157)] 122, cellCh b16 [(.int .i64 t153), (.int .i64 t154)] 83, cellCh b11 [(.int .i64 r7), (.int .i64 0), (.int .i64 0), (.bool (decide (r9 = 0)))] 173, cellCh b5 [(.int .i64 0), (.int .i64 0), (.int .i64 0), (.bool false)] 173, snapCh w0 F] (L_spec_l20Rd_pick r_0_b r157 3 (fun (r163, r164) => idxW ([(GSpan.mk 0 r13), (GSpan.mk 0 t154), (GSpan.mk t153 r13)]) r163 (fun e165 => k161 (r164, e165.xLo, e165.xHi)))) := by
            intro _
            refine o_bld (dt 8 (fun w m => m.pick [2, 3, 4] rfl)) (qs := [(0, (.int .i64 t153)), (1, (.int .i64 r13))]) (cells := [(.int .i64 t153), (.int .i64 r13)]) (by intro ρ h; simp only [List.map_toArray, List.map_cons, List.map_nil, h (.tmp 46) _ rfl, h (.tmp 47) _ rfl]) rfl bld83 rfl ?_
            refine d_two (i := 3) (j := 11) rfl rfl (by kernel_rfl) ?_ ?_
            · intro o ho; cases ho
              refine o_ldc m_op (v := (.int .i64 t154)) 1 rfl rfl rfl ty3 rfl ?_
              refine d_and (fun w m => m.pick [2, 3, 4] rfl) ?_
              refine pk [0, 1, 2, 3, 4] rfl ?_
              refine re (E' := [(0, (.pointer (some ⟨b1, 0, none⟩))), (1, (.int .i64 n_1)), (4, (.pointer (some ⟨b5, 0, none⟩))), (5, (.pointer (some ⟨b11, 0, none⟩))), (6, (.int .i64 r13)), (7, (.pointer (some ⟨b16, 0, none⟩))), (41, (.agg #[(.int .i64 0), (.int .i64 r13)])), (50, (.pointer (some ⟨b1, 0, none⟩))), (48, (.agg #[(.int .i64 t153), (.int .i64 r13)])), (43, (.int .i64 t154))]) ⟨rfl, rfl, rfl, rfl, rfl, rfl, rfl, rfl, rfl, rfl, trivial⟩ ?_
              exact H172 ()
            · intro o ho; cases ho
              refine o_call (vs := [(.pointer (some ⟨b1, 0, none⟩)), (.int .i64 3)]) (M0 := [cellCh b1 [v2, (.int .i64 r157)] 122]) Tryd.call68 rfl rfl (by intro w m h; exact (w_spec_l20Rd_pick (F := allB [cellCh b1 [v2, (.int .i64 r157)] 122] w) (r_0_b := r_0_b) (r_0_p := r157) (n_1 := 3) allB_ok m.given (m.rdM 3 rfl (reads_snap hv2)) h).mono (fun _ _ k => ret_free (fun r u => (fr_cons free_cell fr_nil)) k)) ?_; rintro ⟨r176, r177⟩ _
              refine d_and (fun w m => m.pick [2, 3, 4] rfl) ?_
              refine pk [0, 1, 2, 3, 4] rfl ?_
              refine re (E' := [(0, (.pointer (some ⟨b1, 0, none⟩))), (1, (.int .i64 n_1)), (4, (.pointer (some ⟨b5, 0, none⟩))), (5, (.pointer (some ⟨b11, 0, none⟩))), (6, (.int .i64 r13)), (7, (.pointer (some ⟨b16, 0, none⟩))), (41, (.agg #[(.int .i64 0), (.int .i64 r13)])), (42, (.pointer (some ⟨b16, 1, none⟩))), (48, (.agg #[(.int .i64 t153), (.int .i64 r13)])), (51, (.int .i64 r176))]) ⟨rfl, rfl, rfl, rfl, rfl, rfl, rfl, rfl, rfl, rfl, trivial⟩ ?_
              exact H174 r176 r177
          have H176 : ∀ (r179 : Int) (r180 : Int), Nx 83 (gB F [cellCh b1 [v2, (.int .i64 r_0_p)] 122] w0) (feet [cellCh b1 [v2, (.int .i64 r_0_p)] 122]) w0 (wpAnyH Tryd.prog .any (opsAt Tryd.f123 [1, 1, 1, 1, 1, 0, 1, 0]) Qd (Mem (gB F [cellCh b1 [v2, (.int .i64 r_0_p)] 122] w0) (feet [cellCh b1 [v2, (.int .i64 r_0_p)] 122]) w0 [cellCh b11 [(.int .i64 r7), (.int .i64 0), (.int .i64 0), (.bool (decide (r9 = 0)))] 173, cellCh b5 [(.int .i64 0), (.int .i64 0), (.int .i64 0), (.bool false)] 173, snapCh w0 F]) 7 #[true, true, true, true, false, true, false, true, false, false, true, true, false, false, false]) [(0, (.pointer (some ⟨b1, 0, none⟩))), (1, (.int .i64 n_1)), (4, (.pointer (some ⟨b5, 0, none⟩))), (5, (.pointer (some ⟨b11, 0, none⟩))), (6, (.int .i64 r13)), (7, (.pointer (some ⟨b16, 0, none⟩))), (41, (.agg #[(.int .i64 0), (.int .i64 r13)])), (45, (.pointer (some ⟨b16, 0, none⟩))), (47, (.int .i64 r13)), (51, (.int .i64 r179)), (43, (.int .i64 t154))] [cellCh b1 [v2, (.int .i64 r180)] 122, cellCh b16 [(.int .i64 t153), (.int .i64 t154)] 83, cellCh b11 [(.int .i64 r7), (.int .i64 0), (.int .i64 0), (.bool (decide (r9 = 0)))] 173, cellCh b5 [(.int .i64 0), (.int .i64 0), (.int .i64 0), (.bool false)] 173, snapCh w0 F] (idxW ([(GSpan.mk 0 r13), (GSpan.mk 0 t154), (GSpan.mk t153 r13)]) r179 (fun e165 => k161 (r180, e165.xLo, e165.xHi))) := by
            intro r179 r180
            refine o_bld (dt 4 (fun w m => m.pick [2, 3, 4] rfl)) (qs := [(0, (.int .i64 0)), (1, (.int .i64 t154))]) (cells := [(.int .i64 0), (.int .i64 t154)]) (by intro ρ h; simp only [List.map_toArray, List.map_cons, List.map_nil, h (.const (.int .i64 0)) _ rfl, h (.tmp 43) _ rfl]) rfl bld83 rfl ?_
            refine d_one (i := 6) rfl (by kernel_rfl) (o_ldc m_op (v := (.int .i64 t153)) 1 rfl rfl rfl ty3 rfl ?_)
            refine d_and (fun w m => m.pick [2, 3, 4] rfl) ?_
            refine pk [0, 1, 2, 3, 4] rfl ?_
            refine re (E' := [(0, (.pointer (some ⟨b1, 0, none⟩))), (1, (.int .i64 n_1)), (4, (.pointer (some ⟨b5, 0, none⟩))), (5, (.pointer (some ⟨b11, 0, none⟩))), (6, (.int .i64 r13)), (7, (.pointer (some ⟨b16, 0, none⟩))), (41, (.agg #[(.int .i64 0), (.int .i64 r13)])), (47, (.int .i64 r13)), (44, (.agg #[(.int .i64 0), (.int .i64 t154)])), (51, (.int .i64 r179)), (46, (.int .i64 t153))]) ⟨rfl, rfl, rfl, rfl, rfl, rfl, rfl, rfl, rfl, rfl, rfl, trivial⟩ ?_
            exact H169 r179 r180
          have H177 : ∀ (r179 : Int) (r180 : Int), Nx 83 (gB F [cellCh b1 [v2, (.int .i64 r_0_p)] 122] w0) (feet [cellCh b1 [v2, (.int .i64 r_0_p)] 122]) w0 (wpAnyH Tryd.prog .any (opsAt Tryd.f123 [1, 1, 1, 1, 1, 0, 1, 0]) Qd (Mem (gB F [cellCh b1 [v2, (.int .i64 r_0_p)] 122] w0) (feet [cellCh b1 [v2, (.int .i64 r_0_p)] 122]) w0 [cellCh b11 [(.int .i64 r7), (.int .i64 0), (.int .i64 0), (.bool (decide (r9 = 0)))] 173, cellCh b5 [(.int .i64 0), (.int .i64 0), (.int .i64 0), (.bool false)] 173, snapCh w0 F]) 7 #[true, true, true, false, false, true, true, true, false, false, true, true, false, false, false]) [(0, (.pointer (some ⟨b1, 0, none⟩))), (1, (.int .i64 n_1)), (4, (.pointer (some ⟨b5, 0, none⟩))), (5, (.pointer (some ⟨b11, 0, none⟩))), (6, (.int .i64 r13)), (7, (.pointer (some ⟨b16, 0, none⟩))), (41, (.agg #[(.int .i64 0), (.int .i64 r13)])), (42, (.pointer (some ⟨b16, 1, none⟩))), (47, (.int .i64 r13)), (51, (.int .i64 r179)), (46, (.int .i64 t153))] [cellCh b1 [v2, (.int .i64 r180)] 122, cellCh b16 [(.int .i64 t153), (.int .i64 t154)] 83, cellCh b11 [(.int .i64 r7), (.int .i64 0), (.int .i64 0), (.bool (decide (r9 = 0)))] 173, cellCh b5 [(.int .i64 0), (.int .i64 0), (.int .i64 0), (.bool false)] 173, snapCh w0 F] (idxW ([(GSpan.mk 0 r13), (GSpan.mk 0 t154), (GSpan.mk t153 r13)]) r179 (fun e165 => k161 (r180, e165.xLo, e165.xHi))) := by
            intro r179 r180
            refine o_bld (dt 8 (fun w m => m.pick [2, 3, 4] rfl)) (qs := [(0, (.int .i64 t153)), (1, (.int .i64 r13))]) (cells := [(.int .i64 t153), (.int .i64 r13)]) (by intro ρ h; simp only [List.map_toArray, List.map_cons, List.map_nil, h (.tmp 46) _ rfl, h (.tmp 47) _ rfl]) rfl bld83 rfl ?_
            refine d_one (i := 3) rfl (by kernel_rfl) (o_ldc m_op (v := (.int .i64 t154)) 1 rfl rfl rfl ty3 rfl ?_)
            refine d_and (fun w m => m.pick [2, 3, 4] rfl) ?_
            refine pk [0, 1, 2, 3, 4] rfl ?_
            refine re (E' := [(0, (.pointer (some ⟨b1, 0, none⟩))), (1, (.int .i64 n_1)), (4, (.pointer (some ⟨b5, 0, none⟩))), (5, (.pointer (some ⟨b11, 0, none⟩))), (6, (.int .i64 r13)), (7, (.pointer (some ⟨b16, 0, none⟩))), (41, (.agg #[(.int .i64 0), (.int .i64 r13)])), (48, (.agg #[(.int .i64 t153), (.int .i64 r13)])), (51, (.int .i64 r179)), (43, (.int .i64 t154))]) ⟨rfl, rfl, rfl, rfl, rfl, rfl, rfl, rfl, rfl, rfl, trivial⟩ ?_
            exact H173 r179 r180
          have H178 : ∀ (r179 : Int) (r180 : Int), Nx 83 (gB F [cellCh b1 [v2, (.int .i64 r_0_p)] 122] w0) (feet [cellCh b1 [v2, (.int .i64 r_0_p)] 122]) w0 (wpAnyH Tryd.prog .any (opsAt Tryd.f123 [1, 1, 1, 1, 1, 0, 1, 0]) Qd (Mem (gB F [cellCh b1 [v2, (.int .i64 r_0_p)] 122] w0) (feet [cellCh b1 [v2, (.int .i64 r_0_p)] 122]) w0 [cellCh b11 [(.int .i64 r7), (.int .i64 0), (.int .i64 0), (.bool (decide (r9 = 0)))] 173, cellCh b5 [(.int .i64 0), (.int .i64 0), (.int .i64 0), (.bool false)] 173, snapCh w0 F]) 8 #[true, true, true, false, false, true, false, true, false, false, true, true, false, false, false]) [(0, (.pointer (some ⟨b1, 0, none⟩))), (1, (.int .i64 n_1)), (4, (.pointer (some ⟨b5, 0, none⟩))), (5, (.pointer (some ⟨b11, 0, none⟩))), (6, (.int .i64 r13)), (7, (.pointer (some ⟨b16, 0, none⟩))), (41, (.agg #[(.int .i64 0), (.int .i64 r13)])), (42, (.pointer (some ⟨b16, 1, none⟩))), (45, (.pointer (some ⟨b16, 0, none⟩))), (47, (.int .i64 r13)), (51, (.int .i64 r179))] [cellCh b1 [v2, (.int .i64 r180)] 122, cellCh b16 [(.int .i64 t153), (.int .i64 t154)] 83, cellCh b11 [(.int .i64 r7), (.int .i64 0), (.int .i64 0), (.bool (decide (r9 = 0)))] 173, cellCh b5 [(.int .i64 0), (.int .i64 0), (.int .i64 0), (.bool false)] 173, snapCh w0 F] (idxW ([(GSpan.mk 0 r13), (GSpan.mk 0 t154), (GSpan.mk t153 r13)]) r179 (fun e165 => k161 (r180, e165.xLo, e165.xHi))) := by
            intro r179 r180
            refine d_two (i := 3) (j := 6) rfl rfl (by kernel_rfl) ?_ ?_
            · intro o ho; cases ho
              refine o_ldc m_op (v := (.int .i64 t154)) 1 rfl rfl rfl ty3 rfl ?_
              refine d_and (fun w m => m.pick [2, 3, 4] rfl) ?_
              refine pk [0, 1, 2, 3, 4] rfl ?_
              refine re (E' := [(0, (.pointer (some ⟨b1, 0, none⟩))), (1, (.int .i64 n_1)), (4, (.pointer (some ⟨b5, 0, none⟩))), (5, (.pointer (some ⟨b11, 0, none⟩))), (6, (.int .i64 r13)), (7, (.pointer (some ⟨b16, 0, none⟩))), (41, (.agg #[(.int .i64 0), (.int .i64 r13)])), (45, (.pointer (some ⟨b16, 0, none⟩))), (47, (.int .i64 r13)), (51, (.int .i64 r179)), (43, (.int .i64 t154))]) ⟨rfl, rfl, rfl, rfl, rfl, rfl, rfl, rfl, rfl, rfl, rfl, trivial⟩ ?_
              exact H176 r179 r180
            · intro o ho; cases ho
              refine o_ldc m_op (v := (.int .i64 t153)) 1 rfl rfl rfl ty3 rfl ?_
              refine d_and (fun w m => m.pick [2, 3, 4] rfl) ?_
              refine pk [0, 1, 2, 3, 4] rfl ?_
              refine re (E' := [(0, (.pointer (some ⟨b1, 0, none⟩))), (1, (.int .i64 n_1)), (4, (.pointer (some ⟨b5, 0, none⟩))), (5, (.pointer (some ⟨b11, 0, none⟩))), (6, (.int .i64 r13)), (7, (.pointer (some ⟨b16, 0, none⟩))), (41, (.agg #[(.int .i64 0), (.int .i64 r13)])), (42, (.pointer (some ⟨b16, 1, none⟩))), (47, (.int .i64 r13)), (51, (.int .i64 r179)), (46, (.int .i64 t153))]) ⟨rfl, rfl, rfl, rfl, rfl, rfl, rfl, rfl, rfl, rfl, rfl, trivial⟩ ?_
              exact H177 r179 r180
          refine o_mv (dt 0 (fun w m => m.pick [2, 3, 4] rfl)) rfl rfl ?_
          refine o_bld (dt 1 (fun w m => m.pick [2, 3, 4] rfl)) (qs := [(0, (.int .i64 0)), (1, (.int .i64 r13))]) (cells := [(.int .i64 0), (.int .i64 r13)]) (by intro ρ h; simp only [List.map_toArray, List.map_cons, List.map_nil, h (.const (.int .i64 0)) _ rfl, h (.tmp 40) _ rfl]) rfl bld83 rfl ?_
          refine o_fad (dt 2 (fun w m => m.pick [2, 3, 4] rfl)) rfl rfl fld83_1 rfl ?_
          refine o_fad (dt 5 (fun w m => m.pick [2, 3, 4] rfl)) rfl rfl fld83_0 rfl ?_
          refine o_mv (dt 7 (fun w m => m.pick [2, 3, 4] rfl)) rfl rfl ?_
          refine o_mv (dt 10 (fun w m => m.pick [2, 3, 4] rfl)) rfl rfl ?_
          refine d_three (i := 3) (j := 6) (l := 11) rfl rfl rfl (by kernel_rfl) ?_ ?_ ?_
          · intro o ho; cases ho
            refine o_ldc m_op (v := (.int .i64 t154)) 1 rfl rfl rfl ty3 rfl ?_
            refine d_and (fun w m => m.pick [2, 3, 4] rfl) ?_
            refine pk [0, 1, 2, 3, 4] rfl ?_
            refine re (E' := [(0, (.pointer (some ⟨b1, 0, none⟩))), (1, (.int .i64 n_1)), (4, (.pointer (some ⟨b5, 0, none⟩))), (5, (.pointer (some ⟨b11, 0, none⟩))), (6, (.int .i64 r13)), (7, (.pointer (some ⟨b16, 0, none⟩))), (41, (.agg #[(.int .i64 0), (.int .i64 r13)])), (45, (.pointer (some ⟨b16, 0, none⟩))), (47, (.int .i64 r13)), (50, (.pointer (some ⟨b1, 0, none⟩))), (43, (.int .i64 t154))]) ⟨rfl, rfl, rfl, rfl, rfl, rfl, rfl, rfl, rfl, rfl, rfl, trivial⟩ ?_
            exact H171 ()
          · intro o ho; cases ho
            refine o_ldc m_op (v := (.int .i64 t153)) 1 rfl rfl rfl ty3 rfl ?_
            refine d_and (fun w m => m.pick [2, 3, 4] rfl) ?_
            refine pk [0, 1, 2, 3, 4] rfl ?_
            refine re (E' := [(0, (.pointer (some ⟨b1, 0, none⟩))), (1, (.int .i64 n_1)), (4, (.pointer (some ⟨b5, 0, none⟩))), (5, (.pointer (some ⟨b11, 0, none⟩))), (6, (.int .i64 r13)), (7, (.pointer (some ⟨b16, 0, none⟩))), (41, (.agg #[(.int .i64 0), (.int .i64 r13)])), (42, (.pointer (some ⟨b16, 1, none⟩))), (47, (.int .i64 r13)), (50, (.pointer (some ⟨b1, 0, none⟩))), (46, (.int .i64 t153))]) ⟨rfl, rfl, rfl, rfl, rfl, rfl, rfl, rfl, rfl, rfl, rfl, trivial⟩ ?_
            exact H175 ()
          · intro o ho; cases ho
            refine o_call (vs := [(.pointer (some ⟨b1, 0, none⟩)), (.int .i64 3)]) (M0 := [cellCh b1 [v2, (.int .i64 r157)] 122]) Tryd.call68 rfl rfl (by intro w m h; exact (w_spec_l20Rd_pick (F := allB [cellCh b1 [v2, (.int .i64 r157)] 122] w) (r_0_b := r_0_b) (r_0_p := r157) (n_1 := 3) allB_ok m.given (m.rdM 3 rfl (reads_snap hv2)) h).mono (fun _ _ k => ret_free (fun r u => (fr_cons free_cell fr_nil)) k)) ?_; rintro ⟨r179, r180⟩ _
            refine d_and (fun w m => m.pick [2, 3, 4] rfl) ?_
            refine pk [0, 1, 2, 3, 4] rfl ?_
            refine re (E' := [(0, (.pointer (some ⟨b1, 0, none⟩))), (1, (.int .i64 n_1)), (4, (.pointer (some ⟨b5, 0, none⟩))), (5, (.pointer (some ⟨b11, 0, none⟩))), (6, (.int .i64 r13)), (7, (.pointer (some ⟨b16, 0, none⟩))), (41, (.agg #[(.int .i64 0), (.int .i64 r13)])), (42, (.pointer (some ⟨b16, 1, none⟩))), (45, (.pointer (some ⟨b16, 0, none⟩))), (47, (.int .i64 r13)), (51, (.int .i64 r179))]) ⟨rfl, rfl, rfl, rfl, rfl, rfl, rfl, rfl, rfl, rfl, rfl, trivial⟩ ?_
            exact H178 r179 r180
        · rintro ⟨t158, t159, t160⟩ a w ⟨hE, hm⟩ h
          refine nx_of hE hm h ?_
          clear hE hm h
          exact l_join (t158, t159, t160) (fun a w hE hm => ⟨hE.sub ⟨rfl, rfl, rfl, rfl, rfl, rfl, trivial⟩, (hm.pick [0, 1, 2, 3, 4] rfl)⟩)
      · refine c_skip ?_
        exact l_join (r157, t153, t154) (fun a w hE hm => ⟨hE.sub ⟨rfl, rfl, rfl, rfl, rfl, rfl, trivial⟩, (hm.pick [0, 1, 2, 3, 4] rfl)⟩)
    · rintro ⟨t241, t242, t243⟩ a w ⟨hE, hm⟩ h
      refine nx_of hE hm h ?_
      clear hE hm h
      refine c_seq ?_
      refine c_region ?_
      refine o_fad st rfl rfl fld83_0 rfl ?_
      refine o_ldc st (v := (.int .i64 t242)) 1 rfl rfl rfl ty3 rfl ?_
      refine o_fad st rfl rfl fld173_1 rfl ?_
      refine stw (o_stc (cs' := [(.int .i64 r7), (.int .i64 t242), (.int .i64 0), (.bool (decide (r9 = 0)))]) 2 rfl rfl rfl ty3 rfl rfl rfl rfl ?_)
      refine c_nil ?_
      refine l_then ?_
      refine c_seq ?_
      refine c_region ?_
      refine o_fad st rfl rfl fld83_1 rfl ?_
      refine o_ldc st (v := (.int .i64 t243)) 1 rfl rfl rfl ty3 rfl ?_
      refine o_fad st rfl rfl fld173_2 rfl ?_
      refine stw (o_stc (cs' := [(.int .i64 r7), (.int .i64 t242), (.int .i64 t243), (.bool (decide (r9 = 0)))]) 2 rfl rfl rfl ty3 rfl rfl rfl rfl ?_)
      refine c_nil ?_
      refine l_then ?_
      refine c_join (σ := (Int × Int × Int × Int)) (fun ((t317, t318, t319, t320) : (Int × Int × Int × Int)) (a : Act) (w : World) => Has 83 [(4, (.pointer (some ⟨b5, 0, none⟩))), (5, (.pointer (some ⟨b11, 0, none⟩)))] a ∧ Mem (gB F [cellCh b1 [v2, (.int .i64 r_0_p)] 122] w0) (feet [cellCh b1 [v2, (.int .i64 r_0_p)] 122]) w0 [cellCh b1 [v2, (.int .i64 t317)] 122, cellCh b11 [(.int .i64 t318), (.int .i64 t319), (.int .i64 t320), (.bool (decide (r9 = 0)))] 173, cellCh b5 [(.int .i64 0), (.int .i64 0), (.int .i64 0), (.bool false)] 173, snapCh w0 F] w) ?_ ?_
      · intro k321
        refine c_seq ?_
        refine c_region ?_
        refine o_mv st rfl rfl ?_
        refine o_mv st rfl rfl ?_
        refine stw (o_call (vs := [(.pointer (some ⟨b1, 0, none⟩)), (.int .i64 n_1)]) (M0 := [cellCh b1 [v2, (.int .i64 t241)] 122]) Tryd.call85 rfl rfl (by intro w m h; exact (w_spec_l20Rd_odd (F := allB [cellCh b1 [v2, (.int .i64 t241)] 122] w) (r_0_b := r_0_b) (r_0_p := t241) (n_1 := n_1) allB_ok m.given (m.rdM 3 rfl (reads_snap hv2)) h).mono (fun _ _ k => ret_free (fun r u => (fr_cons free_cell fr_nil)) k)) ?_); rintro ⟨r245, r246⟩ _
        refine c_nil ?_
        refine l_then ?_
        refine c_cond rfl ?_ ?_
        · refine c_seq ?_
          refine c_region ?_
          refine o_mv st rfl rfl ?_
          refine stw (o_call (vs := [(.pointer (some ⟨b1, 0, none⟩)), (.int .i64 3)]) (M0 := [cellCh b1 [v2, (.int .i64 r246)] 122]) Tryd.call68 rfl rfl (by intro w m h; exact (w_spec_l20Rd_pick (F := allB [cellCh b1 [v2, (.int .i64 r246)] 122] w) (r_0_b := r_0_b) (r_0_p := r246) (n_1 := 3) allB_ok m.given (m.rdM 3 rfl (reads_snap hv2)) h).mono (fun _ _ k => ret_free (fun r u => (fr_cons free_cell fr_nil)) k)) ?_); rintro ⟨r247, r248⟩ _
          refine c_nil ?_
          refine l_then ?_
          refine c_block ?_
          refine c_seq ?_
          refine c_region ?_
          refine o_eql st und3 rfl rfl rfl ?_
          refine o_as st rfl rfl ?_
          refine c_nil ?_
          refine l_then ?_
          refine c_cond rfl ?_ ?_
          · refine c_region ?_
            refine stw (o_bsl (enc := encInt) (qs := [(0, (.int .i64 (-1))), (1, (.int .i64 4))]) (cells := [(.int .i64 (-1)), (.int .i64 4)]) ([(-1), 4]) flelInt (by intro ρ h; simp only [List.map_toArray, List.map_cons, List.map_nil, h (.const (.int .i64 (-1))) _ rfl, h (.const (.int .i64 4)) _ rfl]) rfl el99 zero3 rfl rfl rfl rfl rfl rfl ?_); intro v249
            refine o_mv st rfl rfl ?_
            refine pk [1, 0, 2, 3, 4, 5] rfl ?_
            refine stw (o_call (vs := [(.pointer (some ⟨b1, 0, none⟩)), (.int .i64 2)]) (M0 := [cellCh b1 [v2, (.int .i64 r248)] 122]) Tryd.call68 rfl rfl (by intro w m h; exact (w_spec_l20Rd_pick (F := allB [cellCh b1 [v2, (.int .i64 r248)] 122] w) (r_0_b := r_0_b) (r_0_p := r248) (n_1 := 2) allB_ok m.given (m.rdM 4 rfl (reads_snap hv2)) h).mono (fun _ _ k => ret_free (fun r u => (fr_cons free_cell fr_nil)) k)) ?_); rintro ⟨r251, r252⟩ _
            refine o_idx st 1 rfl reads_own rfl rfl rfl el99 ?_; intro e253 h254
            refine o_lds st (enc := encInt) (u := (.int .i64 e253)) 1 rfl reads_own flelInt rfl h254 rfl rfl ty3 rfl ?_
            refine o_fad st rfl rfl fld173_0 rfl ?_
            refine stw (o_stc (cs' := [(.int .i64 e253), (.int .i64 t242), (.int .i64 t243), (.bool (decide (r9 = 0)))]) 3 rfl rfl rfl ty3 rfl rfl rfl rfl ?_)
            refine c_nil ?_
            refine b_norm ?_
            exact l_join (r252, e253, t242, t243) (fun a w hE hm => ⟨hE.sub ⟨rfl, rfl, trivial⟩, (hm.pick [0, 3, 4, 5] rfl)⟩)
          · refine c_seq ?_
            refine c_region ?_
            refine o_eql st und3 rfl rfl rfl ?_
            refine o_as st rfl rfl ?_
            refine c_nil ?_
            refine l_then ?_
            refine c_cond rfl ?_ ?_
            · refine c_region ?_
              refine o_fad st rfl rfl fld173_2 rfl ?_
              refine o_ldc st (v := (.int .i64 t243)) 2 rfl rfl rfl ty3 rfl ?_
              refine o_add st rfl rfl rfl ?_; intro t255
              refine o_fad st rfl rfl fld173_1 rfl ?_
              refine stw (o_stc (cs' := [(.int .i64 r7), (.int .i64 t255), (.int .i64 t243), (.bool (decide (r9 = 0)))]) 2 rfl rfl rfl ty3 rfl rfl rfl rfl ?_)
              refine c_nil ?_
              refine b_norm ?_
              exact l_join (r248, r7, t255, t243) (fun a w hE hm => ⟨hE.sub ⟨rfl, rfl, trivial⟩, (hm.pick [0, 2, 3, 4] rfl)⟩)
            · refine c_region ?_
              refine o_mv st rfl rfl ?_
              refine o_add st rfl rfl rfl ?_; intro t256
              refine o_fad st rfl rfl fld173_2 rfl ?_
              refine stw (o_stc (cs' := [(.int .i64 r7), (.int .i64 t242), (.int .i64 t256), (.bool (decide (r9 = 0)))]) 2 rfl rfl rfl ty3 rfl rfl rfl rfl ?_)
              refine c_nil ?_
              refine b_norm ?_
              exact l_join (r248, r7, t242, t256) (fun a w hE hm => ⟨hE.sub ⟨rfl, rfl, trivial⟩, (hm.pick [0, 2, 3, 4] rfl)⟩)
        · refine c_skip ?_
          exact l_join (r246, r7, t242, t243) (fun a w hE hm => ⟨hE.sub ⟨rfl, rfl, trivial⟩, (hm.pick [0, 2, 3, 4] rfl)⟩)
      · rintro ⟨t317, t318, t319, t320⟩ a w ⟨hE, hm⟩ h
        refine nx_of hE hm h ?_
        clear hE hm h
        refine c_seq ?_
        refine c_region ?_
        refine o_ldc st (v := (.agg #[(.int .i64 t318), (.int .i64 t319), (.int .i64 t320), (.bool (decide (r9 = 0)))])) 1 rfl rfl rfl ty173 rfl ?_
        refine stw (o_stc (cs' := [(.int .i64 t318), (.int .i64 t319), (.int .i64 t320), (.bool (decide (r9 = 0)))]) 2 rfl rfl rfl ty173 rfl rfl rfl rfl ?_)
        refine c_nil ?_
        refine l_then ?_
        refine c_ret ?_
        exact l_end1 Tryd.results123 ((GTest.mk t318 t319 t320 (decide (r9 = 0))), t317) () (rv_c 2 rfl rfl ty173 rfl) (fun w m => NewCh.ofB m [0] rfl)

set_option maxRecDepth 100000 in
set_option maxHeartbeats 8000000 in
theorem w_spec_l20Tests {w0 : World} {F : Nat → Prop} {b1 : Nat} {v2 : Value} {r_0_b : (List UInt8)} {r_0_p : Int} {n_1 : Int} {κ : ((List GTest) × Int) → Prop} (hF : ∀ b, F b → b < w0.heap.size ∧ ¬ feet [cellCh b1 [v2, (.int .i64 r_0_p)] 122] b) (hg : Given [cellCh b1 [v2, (.int .i64 r_0_p)] 122] F w0) (hv2 : Sl elU8 F w0 v2 r_0_b) (h : L_spec_l20Tests r_0_b r_0_p n_1 κ) :
    Calls Tryd.prog 116 #[(.pointer (some ⟨b1, 0, none⟩)), (.int .i64 n_1)] w0 (Ret [cellCh b1 [v2, (.int .i64 r_0_p)] 122] F w0 κ (fun (r : ((List GTest) × Int)) (u : Value) => u) (fun (r : ((List GTest) × Int)) (u : Value) => [ownCh elGTest 173 u r.1, cellCh b1 [v2, (.int .i64 r.2)] 122])) := by
  refine enterS (args := [(.pointer (some ⟨b1, 0, none⟩)), (.int .i64 n_1)]) [cellCh b1 [v2, (.int .i64 r_0_p)] 122] hF hg Tryd.func116 rfl Tryd.ntmps116 rfl h ?_
  clear h hF hg
  refine c_seq ?_
  refine c_region ?_
  refine stw (o_asn elGTest 173 rfl rfl ?_)
  refine c_nil ?_
  refine l_then ?_
  refine c_seq ?_
  refine c_region ?_
  refine stw (o_bsl (enc := encGTest) (qs := []) (cells := []) ([] : (List GTest)) flelGTest (by intro ρ h; simp only [List.map_toArray, List.map_cons, List.map_nil]) rfl el102 zero173 rfl rfl rfl rfl rfl rfl ?_); intro v6
  refine o_as st rfl rfl ?_
  refine c_nil ?_
  refine l_then ?_
  refine c_seq ?_
  refine c_seq ?_
  refine c_region ?_
  refine o_mv st rfl rfl ?_
  refine pk [2, 0, 1, 3] rfl ?_
  refine stw (o_call (vs := [(.pointer (some ⟨b1, 0, none⟩)), (.int .i64 4)]) (M0 := [cellCh b1 [v2, (.int .i64 r_0_p)] 122]) Tryd.call68 rfl rfl (by intro w m h; exact (w_spec_l20Rd_pick (F := allB [cellCh b1 [v2, (.int .i64 r_0_p)] 122] w) (r_0_b := r_0_b) (r_0_p := r_0_p) (n_1 := 4) allB_ok m.given (m.rdM 2 rfl (reads_snap hv2)) h).mono (fun _ _ k => ret_free (fun r u => (fr_cons free_cell fr_nil)) k)) ?_); rintro ⟨r8, r9⟩ _
  refine o_as st rfl rfl ?_
  refine c_nil ?_
  refine l_then ?_
  refine c_block ?_
  refine c_loop (σ := (Int × (List GTest) × Int)) (fun ((t10, xs12, t15) : (Int × (List GTest) × Int)) (a : Act) (w : World) => ∃ (v11 : Value), Has 32 [(0, (.pointer (some ⟨b1, 0, none⟩))), (1, (.int .i64 n_1)), (5, v11), (6, (.int .i64 t15))] a ∧ Mem (gB F [cellCh b1 [v2, (.int .i64 r_0_p)] 122] w0) (feet [cellCh b1 [v2, (.int .i64 r_0_p)] 122]) w0 [cellCh b1 [v2, (.int .i64 t10)] 122, snapCh w0 F, ownCh elGTest 173 v11 xs12] w) (fun a w hE hm => ⟨v6, hE.sub ⟨rfl, rfl, rfl, rfl, trivial⟩, (hm.pick [0, 3, 1] rfl)⟩) ?_
  rintro nx16 ⟨t10, xs12, t15⟩ a w ⟨v11, hE, hm⟩ h
  refine nx_of hE hm h ?_
  clear hE hm h
  refine c_seq ?_
  refine c_seq ?_
  refine c_region ?_
  refine o_mv st rfl rfl ?_
  refine o_gtr st rfl rfl rfl ?_
  refine c_nil ?_
  refine l_then ?_
  refine c_cond rfl ?_ ?_
  · refine c_skip ?_
    refine l_then ?_
    refine c_seq ?_
    refine c_block ?_
    refine c_region ?_
    refine o_mv st rfl rfl ?_
    refine o_mv st rfl rfl ?_
    refine stw (o_call (vs := [(.pointer (some ⟨b1, 0, none⟩)), (.int .i64 0)]) (M0 := [cellCh b1 [v2, (.int .i64 t10)] 122]) Tryd.call123 rfl rfl (by intro w m h; exact (w_spec_l20Test (F := allB [cellCh b1 [v2, (.int .i64 t10)] 122] w) (r_0_b := r_0_b) (r_0_p := t10) (n_1 := 0) allB_ok m.given (m.rdM 0 rfl (reads_snap hv2)) h).mono (fun _ _ k => ret_free (fun r u => (fr_cons free_cell fr_nil)) k)) ?_); rintro ⟨r17, r18⟩ _
    refine stw (o_bsl (enc := encGTest) (qs := [(0, (.agg #[(.int .i64 r17.xField), (.int .i64 r17.xLo), (.int .i64 r17.xHi), (.bool r17.xNot)]))]) (cells := [(.int .i64 r17.xField), (.int .i64 r17.xLo), (.int .i64 r17.xHi), (.bool r17.xNot)]) ([r17]) flelGTest (by intro ρ h; simp only [List.map_toArray, List.map_cons, List.map_nil, h (.tmp 16) _ rfl]) rfl el102 zero173 rfl rfl rfl rfl rfl rfl ?_); intro v19
    refine stw (o_app 3 0 rfl rfl (src_flat flelGTest reads_own) rfl rfl rfl el102 rfl zero173 rfl rfl ?_); intro v21
    refine o_as st rfl rfl ?_
    refine c_nil ?_
    refine b_norm ?_
    refine l_then ?_
    refine c_region ?_
    refine o_mv st rfl rfl ?_
    refine o_sub st rfl rfl rfl ?_; intro t23
    refine o_as st rfl rfl ?_
    refine c_nil ?_
    exact l_join (r18, (xs12 ++ ([r17])), t23) (fun a w hE hm => ⟨v21, hE.sub ⟨rfl, rfl, rfl, rfl, trivial⟩, (hm.pick [1, 2, 3] rfl)⟩)
  · refine c_exit ?_
    refine l_exit ?_
    refine l_exit ?_
    refine b_exit ?_
    refine l_then ?_
    refine c_join (σ := (Int × (List GTest))) (fun ((t97, xs99) : (Int × (List GTest))) (a : Act) (w : World) => ∃ (v98 : Value), Has 32 [(5, v98)] a ∧ Mem (gB F [cellCh b1 [v2, (.int .i64 r_0_p)] 122] w0) (feet [cellCh b1 [v2, (.int .i64 r_0_p)] 122]) w0 [cellCh b1 [v2, (.int .i64 t97)] 122, snapCh w0 F, ownCh elGTest 173 v98 xs99] w) ?_ ?_
    · intro k102
      refine c_seq ?_
      refine c_region ?_
      refine o_mv st rfl rfl ?_
      refine o_mv st rfl rfl ?_
      refine stw (o_call (vs := [(.pointer (some ⟨b1, 0, none⟩)), (.int .i64 n_1)]) (M0 := [cellCh b1 [v2, (.int .i64 t10)] 122]) Tryd.call85 rfl rfl (by intro w m h; exact (w_spec_l20Rd_odd (F := allB [cellCh b1 [v2, (.int .i64 t10)] 122] w) (r_0_b := r_0_b) (r_0_p := t10) (n_1 := n_1) allB_ok m.given (m.rdM 0 rfl (reads_snap hv2)) h).mono (fun _ _ k => ret_free (fun r u => (fr_cons free_cell fr_nil)) k)) ?_); rintro ⟨r24, r25⟩ _
      refine c_nil ?_
      refine l_then ?_
      refine c_cond rfl ?_ ?_
      · refine c_seq ?_
        refine c_region ?_
        refine o_mv st rfl rfl ?_
        refine stw (o_call (vs := [(.pointer (some ⟨b1, 0, none⟩)), (.int .i64 2)]) (M0 := [cellCh b1 [v2, (.int .i64 r25)] 122]) Tryd.call68 rfl rfl (by intro w m h; exact (w_spec_l20Rd_pick (F := allB [cellCh b1 [v2, (.int .i64 r25)] 122] w) (r_0_b := r_0_b) (r_0_p := r25) (n_1 := 2) allB_ok m.given (m.rdM 0 rfl (reads_snap hv2)) h).mono (fun _ _ k => ret_free (fun r u => (fr_cons free_cell fr_nil)) k)) ?_); rintro ⟨r26, r27⟩ _
        refine o_eql st und3 rfl rfl rfl ?_
        refine c_nil ?_
        refine l_then ?_
        refine c_cond rfl ?_ ?_
        · refine c_region ?_
          refine o_mv st rfl rfl ?_
          refine o_mv st rfl rfl ?_
          refine stw (o_call (vs := [(.pointer (some ⟨b1, 0, none⟩)), (.int .i64 1)]) (M0 := [cellCh b1 [v2, (.int .i64 r27)] 122]) Tryd.call123 rfl rfl (by intro w m h; exact (w_spec_l20Test (F := allB [cellCh b1 [v2, (.int .i64 r27)] 122] w) (r_0_b := r_0_b) (r_0_p := r27) (n_1 := 1) allB_ok m.given (m.rdM 0 rfl (reads_snap hv2)) h).mono (fun _ _ k => ret_free (fun r u => (fr_cons free_cell fr_nil)) k)) ?_); rintro ⟨r28, r29⟩ _
          refine stw (o_bsl (enc := encGTest) (qs := [(0, (.agg #[(.int .i64 r28.xField), (.int .i64 r28.xLo), (.int .i64 r28.xHi), (.bool r28.xNot)]))]) (cells := [(.int .i64 r28.xField), (.int .i64 r28.xLo), (.int .i64 r28.xHi), (.bool r28.xNot)]) ([r28]) flelGTest (by intro ρ h; simp only [List.map_toArray, List.map_cons, List.map_nil, h (.tmp 27) _ rfl]) rfl el102 zero173 rfl rfl rfl rfl rfl rfl ?_); intro v30
          refine stw (o_app 3 0 rfl rfl (src_flat flelGTest reads_own) rfl rfl rfl el102 rfl zero173 rfl rfl ?_); intro v32
          refine o_as st rfl rfl ?_
          refine c_nil ?_
          exact l_join (r29, (xs12 ++ ([r28]))) (fun a w hE hm => ⟨v32, hE.sub ⟨rfl, trivial⟩, (hm.pick [1, 2, 3] rfl)⟩)
        · refine c_region ?_
          refine stw (o_make (z := (GTest.mk 0 0 0 false)) flelGTest rfl rfl rfl el102 rfl zero173 rfl rfl ?_); intro v34 xs35
          refine o_as st rfl rfl ?_
          refine c_nil ?_
          exact l_join (r27, xs35) (fun a w hE hm => ⟨v34, hE.sub ⟨rfl, trivial⟩, (hm.pick [1, 2, 0] rfl)⟩)
      · refine c_skip ?_
        exact l_join (r25, xs12) (fun a w hE hm => ⟨v11, hE.sub ⟨rfl, trivial⟩, (hm.pick [0, 1, 2] rfl)⟩)
    · rintro ⟨t97, xs99⟩ a w ⟨v98, hE, hm⟩ h
      refine nx_of hE hm h ?_
      clear hE hm h
      refine c_seq ?_
      refine c_region ?_
      refine o_mv st rfl rfl ?_
      refine o_as st rfl rfl ?_
      refine c_nil ?_
      refine l_then ?_
      refine c_ret ?_
      exact l_end1 Tryd.results116 (xs99, t97) v98 (rv_t rfl) (fun w m => NewCh.ofB m [2, 0] rfl)



end
section
open Go.RowKit
set_option maxRecDepth 100000 in
set_option maxHeartbeats 8000000 in
theorem w_spec_l20Rule {w0 : World} {F : Nat → Prop} {b1 : Nat} {v2 : Value} {r_0_b : (List UInt8)} {r_0_p : Int} {first_1 : Int} {chains_2 : Int} {n_3 : Int} {κ : (GRule × Int) → Prop} (hF : ∀ b, F b → b < w0.heap.size ∧ ¬ feet [cellCh b1 [v2, (.int .i64 r_0_p)] 122] b) (hg : Given [cellCh b1 [v2, (.int .i64 r_0_p)] 122] F w0) (hv2 : Sl elU8 F w0 v2 r_0_b) (h : L_spec_l20Rule r_0_b r_0_p first_1 chains_2 n_3 κ) :
    Calls Tryd.prog 102 #[(.pointer (some ⟨b1, 0, none⟩)), (.int .i64 first_1), (.int .i64 chains_2), (.int .i64 n_3)] w0 (Ret [cellCh b1 [v2, (.int .i64 r_0_p)] 122] F w0 κ (fun (r : (GRule × Int)) (u : Value) => (.agg #[u, (.int .i64 r.1.xAction), (.int .i64 r.1.xChain)])) (fun (r : (GRule × Int)) (u : Value) => [ownCh elGTest 173 u r.1.xTests, cellCh b1 [v2, (.int .i64 r.2)] 122])) := by
  refine enterS (args := [(.pointer (some ⟨b1, 0, none⟩)), (.int .i64 first_1), (.int .i64 chains_2), (.int .i64 n_3)]) [cellCh b1 [v2, (.int .i64 r_0_p)] 122] hF hg Tryd.func102 rfl Tryd.ntmps102 rfl h ?_
  clear h hF hg
  refine c_seq ?_
  refine c_region ?_
  refine stw (o_alloc rfl [(.slice none 0 0), (.int .i64 0), (.int .i64 0)] zero104 ?_); intro b5
  refine c_nil ?_
  refine l_then ?_
  refine c_seq ?_
  refine c_region ?_
  refine o_mv st rfl rfl ?_
  refine pk [1, 0, 2] rfl ?_
  refine stw (o_call (vs := [(.pointer (some ⟨b1, 0, none⟩)), (.int .i64 0)]) (M0 := [cellCh b1 [v2, (.int .i64 r_0_p)] 122]) Tryd.call116 rfl rfl (by intro w m h; exact (w_spec_l20Tests (F := allB [cellCh b1 [v2, (.int .i64 r_0_p)] 122] w) (r_0_b := r_0_b) (r_0_p := r_0_p) (n_1 := 0) allB_ok m.given (m.rdM 1 rfl (reads_snap hv2)) h).mono (fun _ _ k => ret_free (fun r u => (fr_cons (free_own flelGTest) (fr_cons free_cell fr_nil))) k)) ?_); rintro ⟨r7, r10⟩ v8
  refine stw (o_bsl (enc := encInt) (qs := [(0, (.int .i64 1)), (1, (.int .i64 1)), (2, (.int .i64 2)), (3, (.int .i64 2)), (4, (.int .i64 3)), (5, (.int .i64 3)), (6, (.int .i64 4)), (7, (.int .i64 5))]) (cells := [(.int .i64 1), (.int .i64 1), (.int .i64 2), (.int .i64 2), (.int .i64 3), (.int .i64 3), (.int .i64 4), (.int .i64 5)]) ([1, 1, 2, 2, 3, 3, 4, 5]) flelInt (by intro ρ h; simp only [List.map_toArray, List.map_cons, List.map_nil, h (.const (.int .i64 1)) _ rfl, h (.const (.int .i64 1)) _ rfl, h (.const (.int .i64 2)) _ rfl, h (.const (.int .i64 2)) _ rfl, h (.const (.int .i64 3)) _ rfl, h (.const (.int .i64 3)) _ rfl, h (.const (.int .i64 4)) _ rfl, h (.const (.int .i64 5)) _ rfl]) rfl el99 zero3 rfl rfl rfl rfl rfl rfl ?_); intro v11
  refine o_mv st rfl rfl ?_
  refine pk [2, 0, 1, 3, 4] rfl ?_
  refine stw (o_call (vs := [(.pointer (some ⟨b1, 0, none⟩)), (.int .i64 8)]) (M0 := [cellCh b1 [v2, (.int .i64 r10)] 122]) Tryd.call68 rfl rfl (by intro w m h; exact (w_spec_l20Rd_pick (F := allB [cellCh b1 [v2, (.int .i64 r10)] 122] w) (r_0_b := r_0_b) (r_0_p := r10) (n_1 := 8) allB_ok m.given (m.rdM 3 rfl (reads_snap hv2)) h).mono (fun _ _ k => ret_free (fun r u => (fr_cons free_cell fr_nil)) k)) ?_); rintro ⟨r13, r14⟩ _
  refine o_idx st 1 rfl reads_own rfl rfl rfl el99 ?_; intro e15 h16
  refine o_lds st (enc := encInt) (u := (.int .i64 e15)) 1 rfl reads_own flelInt rfl h16 rfl rfl ty3 rfl ?_
  refine nx_own 2 rfl ?_; rintro a17 l18 q19 rfl
  refine o_bld st (qs := [(0, (.slice a17 l18 q19)), (1, (.int .i64 e15))]) (cells := [(.slice a17 l18 q19), (.int .i64 e15), (.int .i64 0)]) (by intro ρ h; simp only [List.map_toArray, List.map_cons, List.map_nil, h (.tmp 11) _ rfl, h (.tmp 16) _ rfl]) rfl bld104 rfl ?_
  refine stw (o_alloc rfl [(.slice none 0 0), (.int .i64 0), (.int .i64 0)] zero104 ?_); intro b20
  refine stw (o_stc (cs' := [(.slice a17 l18 q19), (.int .i64 e15), (.int .i64 0)]) 0 rfl rfl rfl ty104 rfl rfl rfl rfl ?_)
  refine c_nil ?_
  refine l_then ?_
  refine c_join (σ := (Int × Int × Int)) (fun ((t86, t87, t88) : (Int × Int × Int)) (a : Act) (w : World) => Has 58 [(0, (.pointer (some ⟨b1, 0, none⟩))), (3, (.int .i64 n_3)), (8, (.pointer (some ⟨b5, 0, none⟩))), (9, (.pointer (some ⟨b20, 0, none⟩)))] a ∧ Mem (gB F [cellCh b1 [v2, (.int .i64 r_0_p)] 122] w0) (feet [cellCh b1 [v2, (.int .i64 r_0_p)] 122]) w0 [cellCh b20 [(.slice a17 l18 q19), (.int .i64 t86), (.int .i64 t87)] 104, cellCh b1 [v2, (.int .i64 t88)] 122, ownCh elGTest 173 (.slice a17 l18 q19) r7, cellCh b5 [(.slice none 0 0), (.int .i64 0), (.int .i64 0)] 104, snapCh w0 F] w) ?_ ?_
  · intro k89
    refine c_seq ?_
    refine c_region ?_
    refine o_fad st rfl rfl fld104_1 rfl ?_
    refine o_ldc st (v := (.int .i64 e15)) 0 rfl rfl rfl ty3 rfl ?_
    refine o_eql st und3 rfl rfl rfl ?_
    refine c_nil ?_
    refine l_then ?_
    refine c_cond rfl ?_ ?_
    · refine c_seq ?_
      refine c_region ?_
      refine o_mv st rfl rfl ?_
      refine o_mv st rfl rfl ?_
      refine o_geq st rfl rfl rfl ?_
      refine c_nil ?_
      refine l_then ?_
      refine c_cond rfl ?_ ?_
      · refine c_region ?_
        refine o_fad st rfl rfl fld104_1 rfl ?_
        refine stw (o_stc (cs' := [(.slice a17 l18 q19), (.int .i64 2), (.int .i64 0)]) 0 rfl rfl rfl ty3 rfl rfl rfl rfl ?_)
        refine c_nil ?_
        exact l_join (2, 0, r14) (fun a w hE hm => ⟨hE.sub ⟨rfl, rfl, rfl, rfl, trivial⟩, (hm.pick [0, 1, 3, 4, 5] rfl)⟩)
      · refine c_region ?_
        refine o_mv st rfl rfl ?_
        refine o_mv st rfl rfl ?_
        refine o_mv st rfl rfl ?_
        refine o_mv st rfl rfl ?_
        refine o_sub st rfl rfl rfl ?_; intro t22
        refine pk [1, 0, 2, 3, 4, 5] rfl ?_
        refine stw (o_call (vs := [(.pointer (some ⟨b1, 0, none⟩)), (.int .i64 t22)]) (M0 := [cellCh b1 [v2, (.int .i64 r14)] 122]) Tryd.call68 rfl rfl (by intro w m h; exact (w_spec_l20Rd_pick (F := allB [cellCh b1 [v2, (.int .i64 r14)] 122] w) (r_0_b := r_0_b) (r_0_p := r14) (n_1 := t22) allB_ok m.given (m.rdM 4 rfl (reads_snap hv2)) h).mono (fun _ _ k => ret_free (fun r u => (fr_cons free_cell fr_nil)) k)) ?_); rintro ⟨r23, r24⟩ _
        refine o_add st rfl rfl rfl ?_; intro t25
        refine o_fad st rfl rfl fld104_2 rfl ?_
        refine stw (o_stc (cs' := [(.slice a17 l18 q19), (.int .i64 e15), (.int .i64 t25)]) 1 rfl rfl rfl ty3 rfl rfl rfl rfl ?_)
        refine c_nil ?_
        exact l_join (e15, t25, r24) (fun a w hE hm => ⟨hE.sub ⟨rfl, rfl, rfl, rfl, trivial⟩, (hm.pick [1, 0, 3, 4, 5] rfl)⟩)
    · refine c_skip ?_
      exact l_join (e15, 0, r14) (fun a w hE hm => ⟨hE.sub ⟨rfl, rfl, rfl, rfl, trivial⟩, (hm.pick [0, 1, 3, 4, 5] rfl)⟩)
  · rintro ⟨t86, t87, t88⟩ a w ⟨hE, hm⟩ h
    refine nx_of hE hm h ?_
    clear hE hm h
    refine c_join (σ := (Int × (List GTest) × Int × Int)) (fun ((t173, xs175, t178, t179) : (Int × (List GTest) × Int × Int)) (a : Act) (w : World) => ∃ (v174 : Value), Has 58 [(8, (.pointer (some ⟨b5, 0, none⟩))), (9, (.pointer (some ⟨b20, 0, none⟩)))] a ∧ Mem (gB F [cellCh b1 [v2, (.int .i64 r_0_p)] 122] w0) (feet [cellCh b1 [v2, (.int .i64 r_0_p)] 122]) w0 [cellCh b1 [v2, (.int .i64 t173)] 122, cellCh b20 [v174, (.int .i64 t178), (.int .i64 t179)] 104, cellCh b5 [(.slice none 0 0), (.int .i64 0), (.int .i64 0)] 104, snapCh w0 F, ownCh elGTest 173 v174 xs175] w) ?_ ?_
    · intro k180
      refine c_seq ?_
      refine c_region ?_
      refine o_mv st rfl rfl ?_
      refine o_mv st rfl rfl ?_
      refine pk [1, 0, 2, 3, 4] rfl ?_
      refine stw (o_call (vs := [(.pointer (some ⟨b1, 0, none⟩)), (.int .i64 n_3)]) (M0 := [cellCh b1 [v2, (.int .i64 t88)] 122]) Tryd.call85 rfl rfl (by intro w m h; exact (w_spec_l20Rd_odd (F := allB [cellCh b1 [v2, (.int .i64 t88)] 122] w) (r_0_b := r_0_b) (r_0_p := t88) (n_1 := n_3) allB_ok m.given (m.rdM 3 rfl (reads_snap hv2)) h).mono (fun _ _ k => ret_free (fun r u => (fr_cons free_cell fr_nil)) k)) ?_); rintro ⟨r90, r91⟩ _
      refine c_nil ?_
      refine l_then ?_
      refine c_cond rfl ?_ ?_
      · refine c_seq ?_
        refine c_region ?_
        refine o_mv st rfl rfl ?_
        refine stw (o_call (vs := [(.pointer (some ⟨b1, 0, none⟩)), (.int .i64 3)]) (M0 := [cellCh b1 [v2, (.int .i64 r91)] 122]) Tryd.call68 rfl rfl (by intro w m h; exact (w_spec_l20Rd_pick (F := allB [cellCh b1 [v2, (.int .i64 r91)] 122] w) (r_0_b := r_0_b) (r_0_p := r91) (n_1 := 3) allB_ok m.given (m.rdM 3 rfl (reads_snap hv2)) h).mono (fun _ _ k => ret_free (fun r u => (fr_cons free_cell fr_nil)) k)) ?_); rintro ⟨r92, r93⟩ _
        refine c_nil ?_
        refine l_then ?_
        refine c_block ?_
        refine c_seq ?_
        refine c_region ?_
        refine o_eql st und3 rfl rfl rfl ?_
        refine o_as st rfl rfl ?_
        refine c_nil ?_
        refine l_then ?_
        refine c_cond rfl ?_ ?_
        · refine c_region ?_
          refine stw (o_bsl (enc := encInt) (qs := [(0, (.int .i64 0)), (1, (.int .i64 6))]) (cells := [(.int .i64 0), (.int .i64 6)]) ([0, 6]) flelInt (by intro ρ h; simp only [List.map_toArray, List.map_cons, List.map_nil, h (.const (.int .i64 0)) _ rfl, h (.const (.int .i64 6)) _ rfl]) rfl el99 zero3 rfl rfl rfl rfl rfl rfl ?_); intro v94
          refine o_mv st rfl rfl ?_
          refine pk [1, 0, 2, 3, 4, 5] rfl ?_
          refine stw (o_call (vs := [(.pointer (some ⟨b1, 0, none⟩)), (.int .i64 2)]) (M0 := [cellCh b1 [v2, (.int .i64 r93)] 122]) Tryd.call68 rfl rfl (by intro w m h; exact (w_spec_l20Rd_pick (F := allB [cellCh b1 [v2, (.int .i64 r93)] 122] w) (r_0_b := r_0_b) (r_0_p := r93) (n_1 := 2) allB_ok m.given (m.rdM 4 rfl (reads_snap hv2)) h).mono (fun _ _ k => ret_free (fun r u => (fr_cons free_cell fr_nil)) k)) ?_); rintro ⟨r96, r97⟩ _
          refine o_idx st 1 rfl reads_own rfl rfl rfl el99 ?_; intro e98 h99
          refine o_lds st (enc := encInt) (u := (.int .i64 e98)) 1 rfl reads_own flelInt rfl h99 rfl rfl ty3 rfl ?_
          refine o_fad st rfl rfl fld104_1 rfl ?_
          refine stw (o_stc (cs' := [(.slice a17 l18 q19), (.int .i64 e98), (.int .i64 t87)]) 2 rfl rfl rfl ty3 rfl rfl rfl rfl ?_)
          refine c_nil ?_
          refine b_norm ?_
          exact l_join (r97, r7, e98, t87) (fun a w hE hm => ⟨(.slice a17 l18 q19), hE.sub ⟨rfl, rfl, trivial⟩, (hm.pick [0, 2, 4, 5, 3] rfl)⟩)
        · refine c_seq ?_
          refine c_region ?_
          refine o_eql st und3 rfl rfl rfl ?_
          refine o_as st rfl rfl ?_
          refine c_nil ?_
          refine l_then ?_
          refine c_cond rfl ?_ ?_
          · refine c_region ?_
            refine stw (o_bsl (enc := encInt) (qs := [(0, (.int .i64 (-1))), (1, (.int .i64 5)), (2, (.int .i64 1))]) (cells := [(.int .i64 (-1)), (.int .i64 5), (.int .i64 1)]) ([(-1), 5, 1]) flelInt (by intro ρ h; simp only [List.map_toArray, List.map_cons, List.map_nil, h (.const (.int .i64 (-1))) _ rfl, h (.const (.int .i64 5)) _ rfl, h (.const (.int .i64 1)) _ rfl]) rfl el99 zero3 rfl rfl rfl rfl rfl rfl ?_); intro v100
            refine o_mv st rfl rfl ?_
            refine pk [1, 0, 2, 3, 4, 5] rfl ?_
            refine stw (o_call (vs := [(.pointer (some ⟨b1, 0, none⟩)), (.int .i64 3)]) (M0 := [cellCh b1 [v2, (.int .i64 r93)] 122]) Tryd.call68 rfl rfl (by intro w m h; exact (w_spec_l20Rd_pick (F := allB [cellCh b1 [v2, (.int .i64 r93)] 122] w) (r_0_b := r_0_b) (r_0_p := r93) (n_1 := 3) allB_ok m.given (m.rdM 4 rfl (reads_snap hv2)) h).mono (fun _ _ k => ret_free (fun r u => (fr_cons free_cell fr_nil)) k)) ?_); rintro ⟨r102, r103⟩ _
            refine o_idx st 1 rfl reads_own rfl rfl rfl el99 ?_; intro e104 h105
            refine o_lds st (enc := encInt) (u := (.int .i64 e104)) 1 rfl reads_own flelInt rfl h105 rfl rfl ty3 rfl ?_
            refine o_fad st rfl rfl fld104_2 rfl ?_
            refine stw (o_stc (cs' := [(.slice a17 l18 q19), (.int .i64 t86), (.int .i64 e104)]) 2 rfl rfl rfl ty3 rfl rfl rfl rfl ?_)
            refine c_nil ?_
            refine b_norm ?_
            exact l_join (r103, r7, t86, e104) (fun a w hE hm => ⟨(.slice a17 l18 q19), hE.sub ⟨rfl, rfl, trivial⟩, (hm.pick [0, 2, 4, 5, 3] rfl)⟩)
          · refine c_region ?_
            refine o_mv st rfl rfl ?_
            refine stw (o_call (vs := [(.pointer (some ⟨b1, 0, none⟩)), (.int .i64 1)]) (M0 := [cellCh b1 [v2, (.int .i64 r93)] 122]) Tryd.call116 rfl rfl (by intro w m h; exact (w_spec_l20Tests (F := allB [cellCh b1 [v2, (.int .i64 r93)] 122] w) (r_0_b := r_0_b) (r_0_p := r93) (n_1 := 1) allB_ok m.given (m.rdM 3 rfl (reads_snap hv2)) h).mono (fun _ _ k => ret_free (fun r u => (fr_cons (free_own flelGTest) (fr_cons free_cell fr_nil))) k)) ?_); rintro ⟨r106, r109⟩ v107
            refine o_fad st rfl rfl fld104_0 rfl ?_
            refine nx_own 0 rfl ?_; rintro a110 l111 q112 rfl
            refine stw (o_stc (cs' := [(.slice a110 l111 q112), (.int .i64 t86), (.int .i64 t87)]) 2 rfl rfl rfl ty102 rfl rfl rfl rfl ?_)
            refine c_nil ?_
            refine b_norm ?_
            exact l_join (r109, r106, t86, t87) (fun a w hE hm => ⟨(.slice a110 l111 q112), hE.sub ⟨rfl, rfl, trivial⟩, (hm.pick [1, 2, 4, 5, 0] rfl)⟩)
      · refine c_skip ?_
        exact l_join (r91, r7, t86, t87) (fun a w hE hm => ⟨(.slice a17 l18 q19), hE.sub ⟨rfl, rfl, trivial⟩, (hm.pick [0, 1, 3, 4, 2] rfl)⟩)
    · rintro ⟨t173, xs175, t178, t179⟩ a w ⟨v174, hE, hm⟩ h
      refine nx_of hE hm h ?_
      clear hE hm h
      refine c_seq ?_
      refine c_region ?_
      refine o_ldc st (v := (.agg #[v174, (.int .i64 t178), (.int .i64 t179)])) 1 rfl rfl rfl ty104 rfl ?_
      refine nx_own 4 rfl ?_; rintro a181 l182 q183 rfl
      refine stw (o_stc (cs' := [(.slice a181 l182 q183), (.int .i64 t178), (.int .i64 t179)]) 2 rfl rfl rfl ty104 rfl rfl rfl rfl ?_)
      refine c_nil ?_
      refine l_then ?_
      refine c_ret ?_
      exact l_end1 Tryd.results102 ((GRule.mk xs175 t178 t179), t173) (.slice a181 l182 q183) (rv_c 2 rfl rfl ty104 rfl) (fun w m => NewCh.ofB m [4, 0] rfl)

set_option maxRecDepth 100000 in
set_option maxHeartbeats 8000000 in
theorem w_spec_l20Rules {w0 : World} {F : Nat → Prop} {b1 : Nat} {v2 : Value} {r_0_b : (List UInt8)} {r_0_p : Int} {first_1 : Int} {chains_2 : Int} {n_3 : Int} {κ : ((List GRule) × Int) → Prop} (hF : ∀ b, F b → b < w0.heap.size ∧ ¬ feet [cellCh b1 [v2, (.int .i64 r_0_p)] 122] b) (hg : Given [cellCh b1 [v2, (.int .i64 r_0_p)] 122] F w0) (hv2 : Sl elU8 F w0 v2 r_0_b) (h : L_spec_l20Rules r_0_b r_0_p first_1 chains_2 n_3 κ) :
    Calls Tryd.prog 84 #[(.pointer (some ⟨b1, 0, none⟩)), (.int .i64 first_1), (.int .i64 chains_2), (.int .i64 n_3)] w0 (Ret [cellCh b1 [v2, (.int .i64 r_0_p)] 122] F w0 κ (fun (r : ((List GRule) × Int)) (u : Value × List Nat) => u.1) (fun (r : ((List GRule) × Int)) (u : Value × List Nat) => [dpCh dGRule 104 u.2 u.1 r.1, cellCh b1 [v2, (.int .i64 r.2)] 122])) := by
  refine enterS (args := [(.pointer (some ⟨b1, 0, none⟩)), (.int .i64 first_1), (.int .i64 chains_2), (.int .i64 n_3)]) [cellCh b1 [v2, (.int .i64 r_0_p)] 122] hF hg Tryd.func84 rfl Tryd.ntmps84 rfl h ?_
  clear h hF hg
  refine c_seq ?_
  refine c_region ?_
  refine stw (o_asd dGRule 104 rfl rfl ?_)
  refine c_nil ?_
  refine l_then ?_
  refine c_seq ?_
  refine c_region ?_
  refine stw (o_bslD0 (E' := dGRule) (qs := []) (by intro ρ h; simp only [List.map_toArray, List.map_cons, List.map_nil]) rfl el101 zero104 rfl rfl rfl ?_); intro bb7 v6
  refine o_as st rfl rfl ?_
  refine c_nil ?_
  refine l_then ?_
  refine c_seq ?_
  refine c_seq ?_
  refine c_region ?_
  refine o_mv st rfl rfl ?_
  refine pk [2, 0, 1, 3] rfl ?_
  refine stw (o_call (vs := [(.pointer (some ⟨b1, 0, none⟩)), (.int .i64 5)]) (M0 := [cellCh b1 [v2, (.int .i64 r_0_p)] 122]) Tryd.call68 rfl rfl (by intro w m h; exact (w_spec_l20Rd_pick (F := allB [cellCh b1 [v2, (.int .i64 r_0_p)] 122] w) (r_0_b := r_0_b) (r_0_p := r_0_p) (n_1 := 5) allB_ok m.given (m.rdM 2 rfl (reads_snap hv2)) h).mono (fun _ _ k => ret_free (fun r u => (fr_cons free_cell fr_nil)) k)) ?_); rintro ⟨r9, r10⟩ _
  refine o_as st rfl rfl ?_
  refine c_nil ?_
  refine l_then ?_
  refine c_block ?_
  refine c_loop (σ := (Int × (List GRule) × Int)) (fun ((t11, xs13, t17) : (Int × (List GRule) × Int)) (a : Act) (w : World) => ∃ (v12 : Value) (bb15 : List Nat), Has 46 [(0, (.pointer (some ⟨b1, 0, none⟩))), (1, (.int .i64 first_1)), (2, (.int .i64 chains_2)), (3, (.int .i64 n_3)), (9, v12), (10, (.int .i64 t17))] a ∧ Mem (gB F [cellCh b1 [v2, (.int .i64 r_0_p)] 122] w0) (feet [cellCh b1 [v2, (.int .i64 r_0_p)] 122]) w0 [cellCh b1 [v2, (.int .i64 t11)] 122, snapCh w0 F, dpCh dGRule 104 bb15 v12 xs13] w) (fun a w hE hm => ⟨v6, bb7, hE.sub ⟨rfl, rfl, rfl, rfl, rfl, rfl, trivial⟩, (hm.pick [0, 3, 1] rfl)⟩) ?_
  rintro nx18 ⟨t11, xs13, t17⟩ a w ⟨v12, bb15, hE, hm⟩ h
  refine nx_of hE hm h ?_
  clear hE hm h
  refine c_seq ?_
  refine c_seq ?_
  refine c_region ?_
  refine o_mv st rfl rfl ?_
  refine o_gtr st rfl rfl rfl ?_
  refine c_nil ?_
  refine l_then ?_
  refine c_cond rfl ?_ ?_
  · refine c_skip ?_
    refine l_then ?_
    refine c_seq ?_
    refine c_block ?_
    refine c_region ?_
    refine o_mv st rfl rfl ?_
    refine o_mv st rfl rfl ?_
    refine o_mv st rfl rfl ?_
    refine o_mv st rfl rfl ?_
    refine stw (o_call (vs := [(.pointer (some ⟨b1, 0, none⟩)), (.int .i64 first_1), (.int .i64 chains_2), (.int .i64 0)]) (M0 := [cellCh b1 [v2, (.int .i64 t11)] 122]) Tryd.call102 rfl rfl (by intro w m h; exact (w_spec_l20Rule (F := allB [cellCh b1 [v2, (.int .i64 t11)] 122] w) (r_0_b := r_0_b) (r_0_p := t11) (first_1 := first_1) (chains_2 := chains_2) (n_3 := 0) allB_ok m.given (m.rdM 0 rfl (reads_snap hv2)) h).mono (fun _ _ k => ret_free (fun r u => (fr_cons (free_own flelGTest) (fr_cons free_cell fr_nil))) k)) ?_); rintro ⟨r19, r22⟩ v20
    refine nx_own 0 rfl ?_; rintro a23 l24 q25 rfl
    refine stw (o_bslD (M := [ownCh elGTest 173 (.slice a23 l24 q25) r19.xTests]) (E' := dGRule) (qs := [(0, (.agg #[(.slice a23 l24 q25), (.int .i64 r19.xAction), (.int .i64 r19.xChain)]))]) (cs := [(.slice a23 l24 q25), (.int .i64 r19.xAction), (.int .i64 r19.xChain)]) r19 (absorb_one (gives_own flelGTest) (fun B w h => ⟨_, rfl, h⟩)) (by intro ρ h; simp only [List.map_toArray, List.map_cons, List.map_nil, h (.tmp 22) _ rfl]) rfl el101 zero104 rfl rfl rfl rfl ?_); intro bb27 v26
    refine pk [3, 0, 1, 2] rfl ?_
    refine stw (o_appD rfl rfl rfl el101 rfl zero104 rfl rfl ?_); intro bb30 v29
    refine o_as st rfl rfl ?_
    refine c_nil ?_
    refine b_norm ?_
    refine l_then ?_
    refine c_region ?_
    refine o_mv st rfl rfl ?_
    refine o_sub st rfl rfl rfl ?_; intro t32
    refine o_as st rfl rfl ?_
    refine c_nil ?_
    exact l_join (r22, (xs13 ++ ([r19])), t32) (fun a w hE hm => ⟨v29, bb30, hE.sub ⟨rfl, rfl, rfl, rfl, rfl, rfl, trivial⟩, (hm.pick [1, 2, 0] rfl)⟩)
  · refine c_exit ?_
    refine l_exit ?_
    refine l_exit ?_
    refine b_exit ?_
    refine l_then ?_
    refine c_join (σ := (Int × (List GRule))) (fun ((t122, xs124) : (Int × (List GRule))) (a : Act) (w : World) => ∃ (v123 : Value) (bb126 : List Nat), Has 46 [(9, v123)] a ∧ Mem (gB F [cellCh b1 [v2, (.int .i64 r_0_p)] 122] w0) (feet [cellCh b1 [v2, (.int .i64 r_0_p)] 122]) w0 [cellCh b1 [v2, (.int .i64 t122)] 122, snapCh w0 F, dpCh dGRule 104 bb126 v123 xs124] w) ?_ ?_
    · intro k128
      refine c_seq ?_
      refine c_region ?_
      refine o_mv st rfl rfl ?_
      refine o_mv st rfl rfl ?_
      refine stw (o_call (vs := [(.pointer (some ⟨b1, 0, none⟩)), (.int .i64 n_3)]) (M0 := [cellCh b1 [v2, (.int .i64 t11)] 122]) Tryd.call85 rfl rfl (by intro w m h; exact (w_spec_l20Rd_odd (F := allB [cellCh b1 [v2, (.int .i64 t11)] 122] w) (r_0_b := r_0_b) (r_0_p := t11) (n_1 := n_3) allB_ok m.given (m.rdM 0 rfl (reads_snap hv2)) h).mono (fun _ _ k => ret_free (fun r u => (fr_cons free_cell fr_nil)) k)) ?_); rintro ⟨r33, r34⟩ _
      refine c_nil ?_
      refine l_then ?_
      refine c_cond rfl ?_ ?_
      · refine c_seq ?_
        refine c_region ?_
        refine o_mv st rfl rfl ?_
        refine stw (o_call (vs := [(.pointer (some ⟨b1, 0, none⟩)), (.int .i64 2)]) (M0 := [cellCh b1 [v2, (.int .i64 r34)] 122]) Tryd.call68 rfl rfl (by intro w m h; exact (w_spec_l20Rd_pick (F := allB [cellCh b1 [v2, (.int .i64 r34)] 122] w) (r_0_b := r_0_b) (r_0_p := r34) (n_1 := 2) allB_ok m.given (m.rdM 0 rfl (reads_snap hv2)) h).mono (fun _ _ k => ret_free (fun r u => (fr_cons free_cell fr_nil)) k)) ?_); rintro ⟨r35, r36⟩ _
        refine o_eql st und3 rfl rfl rfl ?_
        refine c_nil ?_
        refine l_then ?_
        refine c_cond rfl ?_ ?_
        · refine c_region ?_
          refine o_mv st rfl rfl ?_
          refine o_mv st rfl rfl ?_
          refine o_mv st rfl rfl ?_
          refine o_mv st rfl rfl ?_
          refine stw (o_call (vs := [(.pointer (some ⟨b1, 0, none⟩)), (.int .i64 first_1), (.int .i64 chains_2), (.int .i64 1)]) (M0 := [cellCh b1 [v2, (.int .i64 r36)] 122]) Tryd.call102 rfl rfl (by intro w m h; exact (w_spec_l20Rule (F := allB [cellCh b1 [v2, (.int .i64 r36)] 122] w) (r_0_b := r_0_b) (r_0_p := r36) (first_1 := first_1) (chains_2 := chains_2) (n_3 := 1) allB_ok m.given (m.rdM 0 rfl (reads_snap hv2)) h).mono (fun _ _ k => ret_free (fun r u => (fr_cons (free_own flelGTest) (fr_cons free_cell fr_nil))) k)) ?_); rintro ⟨r37, r40⟩ v38
          refine nx_own 0 rfl ?_; rintro a41 l42 q43 rfl
          refine stw (o_bslD (M := [ownCh elGTest 173 (.slice a41 l42 q43) r37.xTests]) (E' := dGRule) (qs := [(0, (.agg #[(.slice a41 l42 q43), (.int .i64 r37.xAction), (.int .i64 r37.xChain)]))]) (cs := [(.slice a41 l42 q43), (.int .i64 r37.xAction), (.int .i64 r37.xChain)]) r37 (absorb_one (gives_own flelGTest) (fun B w h => ⟨_, rfl, h⟩)) (by intro ρ h; simp only [List.map_toArray, List.map_cons, List.map_nil, h (.tmp 35) _ rfl]) rfl el101 zero104 rfl rfl rfl rfl ?_); intro bb45 v44
          refine pk [3, 0, 1, 2] rfl ?_
          refine stw (o_appD rfl rfl rfl el101 rfl zero104 rfl rfl ?_); intro bb48 v47
          refine o_as st rfl rfl ?_
          refine c_nil ?_
          exact l_join (r40, (xs13 ++ ([r37]))) (fun a w hE hm => ⟨v47, bb48, hE.sub ⟨rfl, trivial⟩, (hm.pick [1, 2, 0] rfl)⟩)
        · refine c_block ?_
          refine c_loop (σ := (List GRule)) (fun (xs51 : (List GRule)) (a : Act) (w : World) => ∃ (v50 : Value) (bb53 : List Nat), Has 46 [(9, v50)] a ∧ Mem (gB F [cellCh b1 [v2, (.int .i64 r_0_p)] 122] w0) (feet [cellCh b1 [v2, (.int .i64 r_0_p)] 122]) w0 [cellCh b1 [v2, (.int .i64 r36)] 122, snapCh w0 F, dpCh dGRule 104 bb53 v50 xs51] w) (fun a w hE hm => ⟨v12, bb15, hE.sub ⟨rfl, trivial⟩, (hm.pick [0, 1, 2] rfl)⟩) ?_
          rintro nx55 xs51 a w ⟨v50, bb53, hE, hm⟩ h
          refine nx_of hE hm h ?_
          clear hE hm h
          refine c_seq ?_
          refine c_seq ?_
          refine c_region ?_
          refine o_mv st rfl rfl ?_
          refine o_len st el101 2 rfl reads_dp rfl rfl ?_
          refine o_leq st rfl rfl rfl ?_
          refine c_nil ?_
          refine l_then ?_
          refine c_cond rfl ?_ ?_
          · refine c_skip ?_
            refine l_then ?_
            refine c_block ?_
            refine c_region ?_
            refine o_mv st rfl rfl ?_
            refine o_bld st (qs := [(1, (.int .i64 5))]) (cells := [(.slice none 0 0), (.int .i64 5), (.int .i64 0)]) (by intro ρ h; simp only [List.map_toArray, List.map_cons, List.map_nil, h (.const (.int .i64 5)) _ rfl]) rfl bld104 rfl ?_
            refine stw (o_bslD (M := []) (E' := dGRule) (qs := [(0, (.agg #[(.slice none 0 0), (.int .i64 5), (.int .i64 0)]))]) (cs := [(.slice none 0 0), (.int .i64 5), (.int .i64 0)]) (GRule.mk ([]) 5 0) (absorb_nil (fun w => ⟨_, rfl, Dp.nil⟩)) (by intro ρ h; simp only [List.map_toArray, List.map_cons, List.map_nil, h (.tmp 42) _ rfl]) rfl el101 zero104 rfl rfl rfl rfl ?_); intro bb57 v56
            refine pk [3, 0, 1, 2] rfl ?_
            refine stw (o_appD rfl rfl rfl el101 rfl zero104 rfl rfl ?_); intro bb60 v59
            refine o_as st rfl rfl ?_
            refine c_nil ?_
            refine b_norm ?_
            exact l_join (xs51 ++ ([(GRule.mk ([]) 5 0)])) (fun a w hE hm => ⟨v59, bb60, hE.sub ⟨rfl, trivial⟩, (hm.pick [1, 2, 0] rfl)⟩)
          · refine c_exit ?_
            refine l_exit ?_
            refine l_exit ?_
            refine b_exit ?_
            exact l_join (r36, xs51) (fun a w hE hm => ⟨v50, bb53, hE.sub ⟨rfl, trivial⟩, (hm.pick [0, 1, 2] rfl)⟩)
      · refine c_skip ?_
        exact l_join (r34, xs13) (fun a w hE hm => ⟨v12, bb15, hE.sub ⟨rfl, trivial⟩, (hm.pick [0, 1, 2] rfl)⟩)
    · rintro ⟨t122, xs124⟩ a w ⟨v123, bb126, hE, hm⟩ h
      refine nx_of hE hm h ?_
      clear hE hm h
      refine c_seq ?_
      refine c_region ?_
      refine o_mv st rfl rfl ?_
      refine o_as st rfl rfl ?_
      refine c_nil ?_
      refine l_then ?_
      refine c_ret ?_
      exact l_end1 Tryd.results84 (xs124, t122) (v123, bb126) (rv_t rfl) (fun w m => NewCh.ofB m [2, 0] rfl)

end

end Go.Proofs.YtigdghiknfehhaaDoor
