/- The walks of the functions of this seat (printed), on. -/
import Derived.Test.YtcinklbbacmihaaG1Walk
set_option linter.unusedSimpArgs false
set_option linter.unusedVariables false
namespace Go.Proofs.Ytcinklbbacmihaa
open Go.RowKit
set_option maxRecDepth 100000 in
set_option maxHeartbeats 8000000 in
theorem w_laws_FnTakeMany {w0 : World} {F : Nat → Prop} {v1 : Value} {code_0 : (List UInt8)} {κ : Bool → Prop} (hv1 : Sl elU8 (fun b => b < w0.heap.size ∧ ¬ feet [] b) w0 v1 code_0) (h : L_laws_FnTakeMany code_0 κ) :
    Calls Try.prog 13 #[v1] w0 (Ret [] F w0 κ (fun (r : Bool) (u : Unit) => (.bool r)) (fun (r : Bool) (u : Unit) => [])) := by
  refine enter (args := [v1]) [] Try.func13 rfl Try.ntmps13 rfl [roCh elU8 v1 code_0] (hf_cons hf_nil) (hh_cons hv1 hh_nil) (Given.nil w0).lt (Given.nil w0).disj (Given.nil w0).hold h ?_
  clear h hv1
  refine c_seq ?_
  refine c_region ?_
  refine o_as st rfl rfl ?_
  refine c_nil ?_
  refine l_then ?_
  refine c_seq ?_
  refine c_seq ?_
  refine c_region ?_
  refine o_mv st rfl rfl ?_
  refine o_len st el28 0 rfl reads_ro rfl rfl ?_
  refine o_gtr st rfl rfl rfl ?_
  refine c_nil ?_
  refine l_then ?_
  refine c_cond rfl ?_ ?_
  · refine c_seq ?_
    refine c_region ?_
    refine o_as st rfl rfl ?_
    refine c_nil ?_
    refine l_then ?_
    refine c_ret ?_
    refine l_ret ?_
    exact l_end1 Try.results13 true () (rv_t rfl) (fun _ _ => NewCh.nil _ _ _ _)
  · refine c_skip ?_
    refine l_then ?_
    refine c_seq ?_
    refine c_region ?_
    refine o_mv st rfl rfl ?_
    refine stw (o_callP (vs := [v1]) Try.call27 rfl rfl (by intro w m h; exact w_spec_DrawTakeMany (code_0 := code_0) (m.rd0 0 rfl reads_ro) h) ?_); rintro ⟨r3, r4⟩ v5
    refine o_mv st rfl rfl ?_
    refine o_ext st (vs := [(.agg #[(.int .i64 r3.xSize), (.int .i64 r3.xEvery), (.int .i64 r3.xTokens), (.int .i64 r3.xLast)]), v5]) rfl rfl rfl ?_
    refine o_ext st (vs := [(.agg #[(.int .i64 r3.xSize), (.int .i64 r3.xEvery), (.int .i64 r3.xTokens), (.int .i64 r3.xLast)]), v5]) rfl rfl rfl ?_
    refine stw (o_alloc rfl [(.int .i64 0), (.int .i64 0), (.int .i64 0), (.int .i64 0)] zero25 ?_); intro b7
    refine stw (o_stc (cs' := [(.int .i64 r3.xSize), (.int .i64 r3.xEvery), (.int .i64 r3.xTokens), (.int .i64 r3.xLast)]) 0 rfl rfl rfl ty25 rfl rfl rfl rfl ?_)
    refine o_as st rfl rfl ?_
    refine c_nil ?_
    refine l_then ?_
    refine c_seq ?_
    refine c_region ?_
    refine o_ldc st (v := (.agg #[(.int .i64 r3.xSize), (.int .i64 r3.xEvery), (.int .i64 r3.xTokens), (.int .i64 r3.xLast)])) 0 rfl rfl rfl ty25 rfl ?_
    refine o_mv st rfl rfl ?_
    refine stw (o_callP (vs := [(.agg #[(.int .i64 r3.xSize), (.int .i64 r3.xEvery), (.int .i64 r3.xTokens), (.int .i64 r3.xLast)]), v5]) Try.call28 rfl rfl (by intro w m h; exact w_impl_TakeMany (b_0 := r3) (times_1 := r4) (m.rd0 1 rfl reads_own) h) ?_); rintro r9 v10
    refine o_as st rfl rfl ?_
    refine c_nil ?_
    refine l_then ?_
    refine c_seq ?_
    refine c_region ?_
    refine o_ldc st (v := (.agg #[(.int .i64 r3.xSize), (.int .i64 r3.xEvery), (.int .i64 r3.xTokens), (.int .i64 r3.xLast)])) 1 rfl rfl rfl ty25 rfl ?_
    refine o_mv st rfl rfl ?_
    refine stw (o_callP (vs := [(.agg #[(.int .i64 r3.xSize), (.int .i64 r3.xEvery), (.int .i64 r3.xTokens), (.int .i64 r3.xLast)]), v5]) Try.call31 rfl rfl (by intro w m h; exact w_spec_TakeMany (b_0 := r3) (times_1 := r4) (m.rd0 2 rfl reads_own) h) ?_); rintro r12 v13
    refine o_as st rfl rfl ?_
    refine c_nil ?_
    refine l_then ?_
    refine c_seq ?_
    refine c_seq ?_
    refine c_region ?_
    refine o_mv st rfl rfl ?_
    refine o_len st el44 1 rfl reads_own rfl rfl ?_
    refine o_mv st rfl rfl ?_
    refine o_len st el44 0 rfl reads_own rfl rfl ?_
    refine o_neq st und3 rfl rfl rfl ?_
    refine c_nil ?_
    refine l_then ?_
    refine c_cond rfl ?_ ?_
    · refine c_seq ?_
      refine c_region ?_
      refine o_as st rfl rfl ?_
      refine c_nil ?_
      refine l_then ?_
      refine c_ret ?_
      refine l_ret ?_
      exact l_end1 Try.results13 false () (rv_t rfl) (fun _ _ => NewCh.nil _ _ _ _)
    · refine c_skip ?_
      refine l_then ?_
      refine c_seq ?_
      refine c_seq ?_
      refine c_region ?_
      refine o_mv st rfl rfl ?_
      refine o_len st el44 1 rfl reads_own rfl rfl ?_
      refine o_eql st und3 rfl rfl rfl ?_
      refine c_nil ?_
      refine l_then ?_
      refine c_cond rfl ?_ ?_
      · refine c_seq ?_
        refine c_region ?_
        refine stw (o_callP (vs := []) Try.call18 rfl rfl (by intro w m h; exact w_laws_alive h) ?_); rintro r15 _
        refine o_as st rfl rfl ?_
        refine c_nil ?_
        refine l_then ?_
        refine c_ret ?_
        refine l_ret ?_
        exact l_end1 Try.results13 r15 () (rv_t rfl) (fun _ _ => NewCh.nil _ _ _ _)
      · refine c_skip ?_
        refine l_then ?_
        refine c_seq ?_
        refine c_seq ?_
        refine c_region ?_
        refine o_as st rfl rfl ?_
        refine c_nil ?_
        refine l_then ?_
        refine c_block ?_
        refine c_loop (σ := Int) (fun (t16 : Int) (a : Act) (w : World) => Has 84 [(3, (.pointer (some ⟨b7, 0, none⟩))), (4, v5), (5, v10), (6, v13), (7, (.int .i64 t16))] a ∧ Mem (fun _ => True) (feet []) w0 [ownCh elBool 4 v13 r12, ownCh elBool 4 v10 r9, cellCh b7 [(.int .i64 r3.xSize), (.int .i64 r3.xEvery), (.int .i64 r3.xTokens), (.int .i64 r3.xLast)] 25, ownCh elInt 3 v5 r4] w) (fun a w hE hm => ⟨hE.sub ⟨rfl, rfl, rfl, rfl, rfl, trivial⟩, (hm.pick [0, 1, 2, 3] rfl)⟩) ?_
        rintro nx17 t16 a w ⟨hE, hm⟩ h
        refine nx_of hE hm h ?_
        clear hE hm h
        refine c_seq ?_
        refine c_seq ?_
        refine c_region ?_
        refine o_mv st rfl rfl ?_
        refine o_mv st rfl rfl ?_
        refine o_len st el44 1 rfl reads_own rfl rfl ?_
        refine o_lss st rfl rfl rfl ?_
        refine c_nil ?_
        refine l_then ?_
        refine c_cond rfl ?_ ?_
        · refine c_skip ?_
          refine l_then ?_
          refine c_seq ?_
          refine c_block ?_
          refine c_seq ?_
          refine c_region ?_
          refine o_as st rfl rfl ?_
          refine c_nil ?_
          refine l_then ?_
          refine c_seq ?_
          refine c_seq ?_
          refine c_draw mixed 9 rfl [ownCh elBool 4 v13 r12, ownCh elBool 4 v10 r9, cellCh b7 [(.int .i64 r3.xSize), (.int .i64 r3.xEvery), (.int .i64 r3.xTokens), (.int .i64 r3.xLast)] 25, ownCh elInt 3 v5 r4] ?_
          refine o_mv (d_take (i := 0) rfl (by kernel_rfl) (by kernel_rfl) (by kernel_rfl) (fun c a d v w h => by cases d <;> exact h) (fun w m => m.pick [0, 1, 2, 3] rfl)) rfl rfl ?_
          refine o_mv (d_take (i := 1) rfl (by kernel_rfl) (by kernel_rfl) (by kernel_rfl) (fun c a d v w h => by cases d <;> exact h) (fun w m => m.pick [0, 1, 2, 3] rfl)) rfl rfl ?_
          refine o_idx (d_take (i := 2) rfl (by kernel_rfl) (by kernel_rfl) (by kernel_rfl) (fun c a d v w h => by cases d <;> exact h) (fun w m => m.pick [0, 1, 2, 3] rfl)) 1 rfl reads_own rfl rfl rfl el44 ?_; intro e18 h19
          refine o_lds (d_take (i := 3) rfl (by kernel_rfl) (by kernel_rfl) (by kernel_rfl) (fun c a d v w h => by cases d <;> exact h) (fun w m => m.pick [0, 1, 2, 3] rfl)) (enc := encBool) (u := (.bool e18)) 1 rfl reads_own flelBool rfl h19 rfl rfl ty4 rfl ?_
          refine o_mv (d_take (i := 4) rfl (by kernel_rfl) (by kernel_rfl) (by kernel_rfl) (fun c a d v w h => by cases d <;> exact h) (fun w m => m.pick [0, 1, 2, 3] rfl)) rfl rfl ?_
          refine o_mv (d_take (i := 5) rfl (by kernel_rfl) (by kernel_rfl) (by kernel_rfl) (fun c a d v w h => by cases d <;> exact h) (fun w m => m.pick [0, 1, 2, 3] rfl)) rfl rfl ?_
          refine o_idx (d_take (i := 6) rfl (by kernel_rfl) (by kernel_rfl) (by kernel_rfl) (fun c a d v w h => by cases d <;> exact h) (fun w m => m.pick [0, 1, 2, 3] rfl)) 0 rfl reads_own rfl rfl rfl el44 ?_; intro e20 h21
          refine o_lds (d_take (i := 7) rfl (by kernel_rfl) (by kernel_rfl) (by kernel_rfl) (fun c a d v w h => by cases d <;> exact h) (fun w m => m.pick [0, 1, 2, 3] rfl)) (enc := encBool) (u := (.bool e20)) 0 rfl reads_own flelBool rfl h21 rfl rfl ty4 rfl ?_
          refine o_neqB (d_take (i := 8) rfl (by kernel_rfl) (by kernel_rfl) (by kernel_rfl) (fun c a d v w h => by cases d <;> exact h) (fun w m => m.pick [0, 1, 2, 3] rfl)) und4 rfl rfl rfl ?_
          refine d_done (by kernel_rfl) ?_
          refine l_then ?_
          refine c_cond rfl ?_ ?_
          · refine c_seq ?_
            refine c_region ?_
            refine o_as st rfl rfl ?_
            refine c_nil ?_
            refine l_then ?_
            refine c_ret ?_
            refine l_ret ?_
            refine b_ret ?_
            refine l_ret ?_
            refine l_ret ?_
            refine b_ret ?_
            refine l_ret ?_
            exact l_end1 Try.results13 false () (rv_t rfl) (fun _ _ => NewCh.nil _ _ _ _)
          · refine c_skip ?_
            refine l_then ?_
            refine c_seq ?_
            refine c_region ?_
            refine o_mv st rfl rfl ?_
            refine o_as st rfl rfl ?_
            refine c_nil ?_
            refine l_then ?_
            refine c_block ?_
            refine c_loop (σ := (Int × Int)) (fun ((t22, t23) : (Int × Int)) (a : Act) (w : World) => Has 84 [(3, (.pointer (some ⟨b7, 0, none⟩))), (4, v5), (5, v10), (6, v13), (7, (.int .i64 t16)), (8, (.int .i64 t22)), (9, (.int .i64 t23))] a ∧ Mem (fun _ => True) (feet []) w0 [ownCh elBool 4 v13 r12, ownCh elBool 4 v10 r9, cellCh b7 [(.int .i64 r3.xSize), (.int .i64 r3.xEvery), (.int .i64 r3.xTokens), (.int .i64 r3.xLast)] 25, ownCh elInt 3 v5 r4] w) (fun a w hE hm => ⟨hE.sub ⟨rfl, rfl, rfl, rfl, rfl, rfl, rfl, trivial⟩, (hm.pick [0, 1, 2, 3] rfl)⟩) ?_
            rintro nx24 ⟨t22, t23⟩ a w ⟨hE, hm⟩ h
            refine nx_of hE hm h ?_
            clear hE hm h
            refine c_seq ?_
            refine c_seq ?_
            refine c_region ?_
            refine o_mv st rfl rfl ?_
            refine o_mv st rfl rfl ?_
            refine o_len st el44 1 rfl reads_own rfl rfl ?_
            refine o_lss st rfl rfl rfl ?_
            refine c_nil ?_
            refine l_then ?_
            refine c_cond rfl ?_ ?_
            · refine c_skip ?_
              refine l_then ?_
              refine c_seq ?_
              refine c_block ?_
              refine c_join (σ := Int) (fun (t25 : Int) (a : Act) (w : World) => Has 84 [(3, (.pointer (some ⟨b7, 0, none⟩))), (4, v5), (5, v10), (6, v13), (7, (.int .i64 t16)), (8, (.int .i64 t25)), (9, (.int .i64 t23))] a ∧ Mem (fun _ => True) (feet []) w0 [ownCh elBool 4 v13 r12, ownCh elBool 4 v10 r9, cellCh b7 [(.int .i64 r3.xSize), (.int .i64 r3.xEvery), (.int .i64 r3.xTokens), (.int .i64 r3.xLast)] 25, ownCh elInt 3 v5 r4] w) ?_ ?_
              · intro k26
                refine c_seq ?_
                refine c_region ?_
                refine o_mv st rfl rfl ?_
                refine o_mv st rfl rfl ?_
                refine o_idx st 1 rfl reads_own rfl rfl rfl el44 ?_; intro e27 h28
                refine o_lds st (enc := encBool) (u := (.bool e27)) 1 rfl reads_own flelBool rfl h28 rfl rfl ty4 rfl ?_
                refine c_nil ?_
                refine l_then ?_
                refine c_cond rfl ?_ ?_
                · refine c_region ?_
                  refine o_mv st rfl rfl ?_
                  refine o_add st rfl rfl rfl ?_; intro t29
                  refine o_as st rfl rfl ?_
                  refine c_nil ?_
                  exact l_join t29 (fun a w hE hm => ⟨hE.sub ⟨rfl, rfl, rfl, rfl, rfl, rfl, rfl, trivial⟩, (hm.pick [0, 1, 2, 3] rfl)⟩)
                · refine c_skip ?_
                  exact l_join t22 (fun a w hE hm => ⟨hE.sub ⟨rfl, rfl, rfl, rfl, rfl, rfl, rfl, trivial⟩, (hm.pick [0, 1, 2, 3] rfl)⟩)
              · rintro t25 a w ⟨hE, hm⟩ h
                refine nx_of hE hm h ?_
                clear hE hm h
                refine c_seq ?_
                refine c_draw mixed 18 rfl [ownCh elBool 4 v13 r12, ownCh elBool 4 v10 r9, cellCh b7 [(.int .i64 r3.xSize), (.int .i64 r3.xEvery), (.int .i64 r3.xTokens), (.int .i64 r3.xLast)] 25, ownCh elInt 3 v5 r4] ?_
                refine o_mv (d_take (i := 0) rfl (by kernel_rfl) (by kernel_rfl) (by kernel_rfl) (fun c a d v w h => by cases d <;> exact h) (fun w m => m.pick [0, 1, 2, 3] rfl)) rfl rfl ?_
                refine o_fad (d_take (i := 1) rfl (by kernel_rfl) (by kernel_rfl) (by kernel_rfl) (fun c a d v w h => by cases d <;> exact h) (fun w m => m.pick [0, 1, 2, 3] rfl)) rfl rfl fld25_0 rfl ?_
                refine o_ldc (d_take (i := 2) rfl (by kernel_rfl) (by kernel_rfl) (by kernel_rfl) (fun c a d v w h => by cases d <;> exact h) (fun w m => m.pick [0, 1, 2, 3] rfl)) (v := (.int .i64 r3.xSize)) 2 rfl rfl rfl ty3 rfl ?_
                refine o_mv (d_take (i := 3) rfl (by kernel_rfl) (by kernel_rfl) (by kernel_rfl) (fun c a d v w h => by cases d <;> exact h) (fun w m => m.pick [0, 1, 2, 3] rfl)) rfl rfl ?_
                refine o_mv (d_take (i := 4) rfl (by kernel_rfl) (by kernel_rfl) (by kernel_rfl) (fun c a d v w h => by cases d <;> exact h) (fun w m => m.pick [0, 1, 2, 3] rfl)) rfl rfl ?_
                refine o_idx (d_take (i := 5) rfl (by kernel_rfl) (by kernel_rfl) (by kernel_rfl) (fun c a d v w h => by cases d <;> exact h) (fun w m => m.pick [0, 1, 2, 3] rfl)) 3 rfl reads_own rfl rfl rfl el41 ?_; intro e30 h31
                refine o_lds (d_take (i := 6) rfl (by kernel_rfl) (by kernel_rfl) (by kernel_rfl) (fun c a d v w h => by cases d <;> exact h) (fun w m => m.pick [0, 1, 2, 3] rfl)) (enc := encInt) (u := (.int .i64 e30)) 3 rfl reads_own flelInt rfl h31 rfl rfl ty3 rfl ?_
                refine o_mv (d_take (i := 7) rfl (by kernel_rfl) (by kernel_rfl) (by kernel_rfl) (fun c a d v w h => by cases d <;> exact h) (fun w m => m.pick [0, 1, 2, 3] rfl)) rfl rfl ?_
                refine o_mv (d_take (i := 8) rfl (by kernel_rfl) (by kernel_rfl) (by kernel_rfl) (fun c a d v w h => by cases d <;> exact h) (fun w m => m.pick [0, 1, 2, 3] rfl)) rfl rfl ?_
                refine o_idx (d_take (i := 9) rfl (by kernel_rfl) (by kernel_rfl) (by kernel_rfl) (fun c a d v w h => by cases d <;> exact h) (fun w m => m.pick [0, 1, 2, 3] rfl)) 3 rfl reads_own rfl rfl rfl el41 ?_; intro e32 h33
                refine o_lds (d_take (i := 10) rfl (by kernel_rfl) (by kernel_rfl) (by kernel_rfl) (fun c a d v w h => by cases d <;> exact h) (fun w m => m.pick [0, 1, 2, 3] rfl)) (enc := encInt) (u := (.int .i64 e32)) 3 rfl reads_own flelInt rfl h33 rfl rfl ty3 rfl ?_
                refine o_sub (d_take (i := 11) rfl (by kernel_rfl) (by kernel_rfl) (by kernel_rfl) (fun c a d v w h => by cases d <;> exact h) (fun w m => m.pick [0, 1, 2, 3] rfl)) rfl rfl rfl ?_; intro t34
                refine o_fad (d_take (i := 12) rfl (by kernel_rfl) (by kernel_rfl) (by kernel_rfl) (fun c a d v w h => by cases d <;> exact h) (fun w m => m.pick [0, 1, 2, 3] rfl)) rfl rfl fld25_1 rfl ?_
                refine o_ldc (d_take (i := 13) rfl (by kernel_rfl) (by kernel_rfl) (by kernel_rfl) (fun c a d v w h => by cases d <;> exact h) (fun w m => m.pick [0, 1, 2, 3] rfl)) (v := (.int .i64 r3.xEvery)) 2 rfl rfl rfl ty3 rfl ?_
                refine o_quo (d_take (i := 14) rfl (by kernel_rfl) (by kernel_rfl) (by kernel_rfl) (fun c a d v w h => by cases d <;> exact h) (fun w m => m.pick [0, 1, 2, 3] rfl)) rfl rfl rfl ?_; intro t35
                refine o_add (d_take (i := 15) rfl (by kernel_rfl) (by kernel_rfl) (by kernel_rfl) (fun c a d v w h => by cases d <;> exact h) (fun w m => m.pick [0, 1, 2, 3] rfl)) rfl rfl rfl ?_; intro t36
                refine o_add (d_take (i := 16) rfl (by kernel_rfl) (by kernel_rfl) (by kernel_rfl) (fun c a d v w h => by cases d <;> exact h) (fun w m => m.pick [0, 1, 2, 3] rfl)) rfl rfl rfl ?_; intro t37
                refine o_gtr (d_take (i := 17) rfl (by kernel_rfl) (by kernel_rfl) (by kernel_rfl) (fun c a d v w h => by cases d <;> exact h) (fun w m => m.pick [0, 1, 2, 3] rfl)) rfl rfl rfl ?_
                refine d_done (by kernel_rfl) ?_
                refine l_then ?_
                refine c_cond rfl ?_ ?_
                · refine c_seq ?_
                  refine c_region ?_
                  refine o_as st rfl rfl ?_
                  refine c_nil ?_
                  refine l_then ?_
                  refine c_ret ?_
                  refine b_ret ?_
                  refine l_ret ?_
                  refine l_ret ?_
                  refine b_ret ?_
                  refine b_ret ?_
                  refine l_ret ?_
                  refine l_ret ?_
                  refine b_ret ?_
                  refine l_ret ?_
                  exact l_end1 Try.results13 false () (rv_t rfl) (fun _ _ => NewCh.nil _ _ _ _)
                · refine c_skip ?_
                  refine b_norm ?_
                  refine l_then ?_
                  refine c_region ?_
                  refine o_mv st rfl rfl ?_
                  refine o_add st rfl rfl rfl ?_; intro t38
                  refine o_as st rfl rfl ?_
                  refine c_nil ?_
                  exact l_join (t25, t38) (fun a w hE hm => ⟨hE.sub ⟨rfl, rfl, rfl, rfl, rfl, rfl, rfl, trivial⟩, (hm.pick [0, 1, 2, 3] rfl)⟩)
            · refine c_exit ?_
              refine l_exit ?_
              refine l_exit ?_
              refine b_exit ?_
              refine b_norm ?_
              refine l_then ?_
              refine c_region ?_
              refine o_mv st rfl rfl ?_
              refine o_add st rfl rfl rfl ?_; intro t39
              refine o_as st rfl rfl ?_
              refine c_nil ?_
              exact l_join t39 (fun a w hE hm => ⟨hE.sub ⟨rfl, rfl, rfl, rfl, rfl, trivial⟩, (hm.pick [0, 1, 2, 3] rfl)⟩)
        · refine c_exit ?_
          refine l_exit ?_
          refine l_exit ?_
          refine b_exit ?_
          refine l_then ?_
          refine c_seq ?_
          refine c_region ?_
          refine o_mv st rfl rfl ?_
          refine o_len st el44 1 rfl reads_own rfl rfl ?_
          refine o_mv st rfl rfl ?_
          refine o_len st el41 3 rfl reads_own rfl rfl ?_
          refine o_eql st und3 rfl rfl rfl ?_
          refine o_as st rfl rfl ?_
          refine c_nil ?_
          refine l_then ?_
          refine c_ret ?_
          exact l_end1 Try.results13 (decide ((r9.length : Int) = (r4.length : Int))) () (rv_t rfl) (fun _ _ => NewCh.nil _ _ _ _)

set_option maxRecDepth 100000 in
set_option maxHeartbeats 8000000 in
theorem w_laws_FnTakeSteady {w0 : World} {F : Nat → Prop} {v1 : Value} {code_0 : (List UInt8)} {κ : Bool → Prop} (hv1 : Sl elU8 (fun b => b < w0.heap.size ∧ ¬ feet [] b) w0 v1 code_0) (h : L_laws_FnTakeSteady code_0 κ) :
    Calls Try.prog 9 #[v1] w0 (Ret [] F w0 κ (fun (r : Bool) (u : Unit) => (.bool r)) (fun (r : Bool) (u : Unit) => [])) := by
  refine enter (args := [v1]) [] Try.func9 rfl Try.ntmps9 rfl [roCh elU8 v1 code_0] (hf_cons hf_nil) (hh_cons hv1 hh_nil) (Given.nil w0).lt (Given.nil w0).disj (Given.nil w0).hold h ?_
  clear h hv1
  refine c_seq ?_
  refine c_region ?_
  refine o_as st rfl rfl ?_
  refine c_nil ?_
  refine l_then ?_
  refine c_seq ?_
  refine c_seq ?_
  refine c_region ?_
  refine o_mv st rfl rfl ?_
  refine o_len st el28 0 rfl reads_ro rfl rfl ?_
  refine o_gtr st rfl rfl rfl ?_
  refine c_nil ?_
  refine l_then ?_
  refine c_cond rfl ?_ ?_
  · refine c_seq ?_
    refine c_region ?_
    refine o_as st rfl rfl ?_
    refine c_nil ?_
    refine l_then ?_
    refine c_ret ?_
    refine l_ret ?_
    exact l_end1 Try.results9 true () (rv_t rfl) (fun _ _ => NewCh.nil _ _ _ _)
  · refine c_skip ?_
    refine l_then ?_
    refine c_seq ?_
    refine c_region ?_
    refine o_mv st rfl rfl ?_
    refine stw (o_callP (vs := [v1]) Try.call27 rfl rfl (by intro w m h; exact w_spec_DrawTakeMany (code_0 := code_0) (m.rd0 0 rfl reads_ro) h) ?_); rintro ⟨r3, r4⟩ v5
    refine o_mv st rfl rfl ?_
    refine o_ext st (vs := [(.agg #[(.int .i64 r3.xSize), (.int .i64 r3.xEvery), (.int .i64 r3.xTokens), (.int .i64 r3.xLast)]), v5]) rfl rfl rfl ?_
    refine o_ext st (vs := [(.agg #[(.int .i64 r3.xSize), (.int .i64 r3.xEvery), (.int .i64 r3.xTokens), (.int .i64 r3.xLast)]), v5]) rfl rfl rfl ?_
    refine stw (o_alloc rfl [(.int .i64 0), (.int .i64 0), (.int .i64 0), (.int .i64 0)] zero25 ?_); intro b7
    refine stw (o_stc (cs' := [(.int .i64 r3.xSize), (.int .i64 r3.xEvery), (.int .i64 r3.xTokens), (.int .i64 r3.xLast)]) 0 rfl rfl rfl ty25 rfl rfl rfl rfl ?_)
    refine o_as st rfl rfl ?_
    refine c_nil ?_
    refine l_then ?_
    refine c_seq ?_
    refine c_seq ?_
    refine c_draw mixed 5 rfl [cellCh b7 [(.int .i64 r3.xSize), (.int .i64 r3.xEvery), (.int .i64 r3.xTokens), (.int .i64 r3.xLast)] 25, ownCh elInt 3 v5 r4, roCh elU8 v1 code_0] ?_
    refine o_ldc (d_take (i := 0) rfl (by kernel_rfl) (by kernel_rfl) (by kernel_rfl) (fun c a d v w h => by cases d <;> exact h) (fun w m => m.pick [0, 1, 2] rfl)) (v := (.agg #[(.int .i64 r3.xSize), (.int .i64 r3.xEvery), (.int .i64 r3.xTokens), (.int .i64 r3.xLast)])) 0 rfl rfl rfl ty25 rfl ?_
    refine o_ldc (d_take (i := 2) rfl (by kernel_rfl) (by kernel_rfl) (by kernel_rfl) (fun c a d v w h => by cases d <;> exact h) (fun w m => m.pick [0, 1, 2] rfl)) (v := (.agg #[(.int .i64 r3.xSize), (.int .i64 r3.xEvery), (.int .i64 r3.xTokens), (.int .i64 r3.xLast)])) 0 rfl rfl rfl ty25 rfl ?_
    refine d_one (i := 1) rfl (by kernel_rfl) (o_callP (vs := [(.agg #[(.int .i64 r3.xSize), (.int .i64 r3.xEvery), (.int .i64 r3.xTokens), (.int .i64 r3.xLast)])]) Try.call16 rfl rfl (by intro w m h; exact w_impl_BucketValid (b_0 := r3) h) ?_); rintro r9 _
    refine d_and (fun w m => m.pick [0, 1, 2] rfl) ?_
    refine d_one (i := 3) rfl (by kernel_rfl) (o_callP (vs := [(.agg #[(.int .i64 r3.xSize), (.int .i64 r3.xEvery), (.int .i64 r3.xTokens), (.int .i64 r3.xLast)])]) Try.call14 rfl rfl (by intro w m h; exact w_spec_BucketValid (b_0 := r3) h) ?_); rintro r10 _
    refine d_and (fun w m => m.pick [0, 1, 2] rfl) ?_
    refine o_neqB (d_take (i := 4) rfl (by kernel_rfl) (by kernel_rfl) (by kernel_rfl) (fun c a d v w h => by cases d <;> exact h) (fun w m => m.pick [0, 1, 2] rfl)) und4 rfl rfl rfl ?_
    refine d_done (by kernel_rfl) ?_
    refine l_then ?_
    refine c_cond rfl ?_ ?_
    · refine c_seq ?_
      refine c_region ?_
      refine o_as st rfl rfl ?_
      refine c_nil ?_
      refine l_then ?_
      refine c_ret ?_
      refine l_ret ?_
      exact l_end1 Try.results9 false () (rv_t rfl) (fun _ _ => NewCh.nil _ _ _ _)
    · refine c_skip ?_
      refine l_then ?_
      refine c_seq ?_
      refine c_join (σ := Bool) (fun (t11 : Bool) (a : Act) (w : World) => Has 72 [(3, (.pointer (some ⟨b7, 0, none⟩))), (38, (.bool t11))] a ∧ Mem (fun _ => True) (feet []) w0 [cellCh b7 [(.int .i64 r3.xSize), (.int .i64 r3.xEvery), (.int .i64 r3.xTokens), (.int .i64 r3.xLast)] 25] w) ?_ ?_
      · intro k12
        refine c_region ?_
        refine o_ldc st (v := (.agg #[(.int .i64 r3.xSize), (.int .i64 r3.xEvery), (.int .i64 r3.xTokens), (.int .i64 r3.xLast)])) 0 rfl rfl rfl ty25 rfl ?_
        refine stw (o_callP (vs := [(.agg #[(.int .i64 r3.xSize), (.int .i64 r3.xEvery), (.int .i64 r3.xTokens), (.int .i64 r3.xLast)])]) Try.call14 rfl rfl (by intro w m h; exact w_spec_BucketValid (b_0 := r3) h) ?_); rintro r13 _
        refine o_not st rfl rfl ?_
        refine o_mv st rfl rfl ?_
        refine st_sp (dj := 25) rfl ?_ ?_
        · refine st_s rfl rfl rfl rfl ?_
          refine st_s rfl rfl rfl rfl ?_
          refine st_s rfl rfl rfl rfl ?_
          refine o_pickT st rfl rfl rfl ?_
          refine o_mv st rfl rfl ?_
          refine st_s rfl rfl rfl rfl ?_
          refine st_s rfl rfl rfl rfl ?_
          refine st_s rfl rfl rfl rfl ?_
          refine st_s rfl rfl rfl rfl ?_
          refine st_s rfl rfl rfl rfl ?_
          refine st_s rfl rfl rfl rfl ?_
          refine st_s rfl rfl rfl rfl ?_
          refine o_pickT st rfl rfl rfl ?_
          refine c_nil ?_
          exact l_join true (fun a w hE hm => ⟨hE.sub ⟨rfl, rfl, trivial⟩, (hm.pick [0] rfl)⟩)
        · refine o_fad (st_g rfl rfl) rfl rfl fld25_2 rfl ?_
          refine o_ldc (st_g rfl rfl) (v := (.int .i64 r3.xTokens)) 0 rfl rfl rfl ty3 rfl ?_
          refine o_eql (st_g rfl rfl) und3 rfl rfl rfl ?_
          refine o_pickF st rfl rfl rfl ?_
          refine o_mv st rfl rfl ?_
          refine st_sp (dj := 30) rfl ?_ ?_
          · refine st_s rfl rfl rfl rfl ?_
            refine st_s rfl rfl rfl rfl ?_
            refine st_s rfl rfl rfl rfl ?_
            refine st_s rfl rfl rfl rfl ?_
            refine st_s rfl rfl rfl rfl ?_
            refine st_s rfl rfl rfl rfl ?_
            refine st_s rfl rfl rfl rfl ?_
            refine o_pickT st rfl rfl rfl ?_
            refine c_nil ?_
            exact l_join true (fun a w hE hm => ⟨hE.sub ⟨rfl, rfl, trivial⟩, (hm.pick [0] rfl)⟩)
          · refine o_fad (st_g rfl rfl) rfl rfl fld25_3 rfl ?_
            refine o_ldc (st_g rfl rfl) (v := (.int .i64 r3.xLast)) 0 rfl rfl rfl ty3 rfl ?_
            refine o_fad (st_g rfl rfl) rfl rfl fld25_1 rfl ?_
            refine o_ldc (st_g rfl rfl) (v := (.int .i64 r3.xEvery)) 0 rfl rfl rfl ty3 rfl ?_
            refine o_mul (st_g rfl rfl) rfl rfl rfl ?_; intro t14
            refine o_add (st_g rfl rfl) rfl rfl rfl ?_; intro t15
            refine o_gtr (st_g rfl rfl) rfl rfl rfl ?_
            refine o_pickF st rfl rfl rfl ?_
            refine c_nil ?_
            exact l_join (decide (1000000 < t15)) (fun a w hE hm => ⟨hE.sub ⟨rfl, rfl, trivial⟩, (hm.pick [0] rfl)⟩)
      · rintro t11 a w ⟨hE, hm⟩ h
        refine nx_of hE hm h ?_
        clear hE hm h
        refine c_cond rfl ?_ ?_
        · refine c_seq ?_
          refine c_region ?_
          refine stw (o_callP (vs := []) Try.call18 rfl rfl (by intro w m h; exact w_laws_alive h) ?_); rintro r16 _
          refine o_as st rfl rfl ?_
          refine c_nil ?_
          refine l_then ?_
          refine c_ret ?_
          refine l_ret ?_
          exact l_end1 Try.results9 r16 () (rv_t rfl) (fun _ _ => NewCh.nil _ _ _ _)
        · refine c_skip ?_
          refine l_then ?_
          refine c_seq ?_
          refine c_region ?_
          refine stw (o_bsl (enc := encInt) (qs := []) (cells := []) ([]) flelInt (by intro ρ h; simp only [List.map_toArray, List.map_cons, List.map_nil]) rfl el41 zero3 rfl rfl rfl rfl rfl rfl ?_); intro v17
          refine o_as st rfl rfl ?_
          refine c_nil ?_
          refine l_then ?_
          refine c_seq ?_
          refine c_seq ?_
          refine c_region ?_
          refine o_as st rfl rfl ?_
          refine c_nil ?_
          refine l_then ?_
          refine c_block ?_
          refine c_loop (σ := ((List Int) × Int)) (fun ((xs20, t23) : ((List Int) × Int)) (a : Act) (w : World) => ∃ (v21 : Value), Has 72 [(3, (.pointer (some ⟨b7, 0, none⟩))), (5, v21), (6, (.int .i64 t23))] a ∧ Mem (fun _ => True) (feet []) w0 [cellCh b7 [(.int .i64 r3.xSize), (.int .i64 r3.xEvery), (.int .i64 r3.xTokens), (.int .i64 r3.xLast)] 25, ownCh elInt 3 v21 xs20] w) (fun a w hE hm => ⟨v17, hE.sub ⟨rfl, rfl, rfl, trivial⟩, (hm.pick [1, 0] rfl)⟩) ?_
          rintro nx24 ⟨xs20, t23⟩ a w ⟨v21, hE, hm⟩ h
          refine nx_of hE hm h ?_
          clear hE hm h
          refine c_seq ?_
          refine c_seq ?_
          refine c_region ?_
          refine o_mv st rfl rfl ?_
          refine o_leq st rfl rfl rfl ?_
          refine c_nil ?_
          refine l_then ?_
          refine c_cond rfl ?_ ?_
          · refine c_skip ?_
            refine l_then ?_
            refine c_seq ?_
            refine c_block ?_
            refine c_region ?_
            refine o_mv st rfl rfl ?_
            refine o_fad st rfl rfl fld25_3 rfl ?_
            refine o_ldc st (v := (.int .i64 r3.xLast)) 0 rfl rfl rfl ty3 rfl ?_
            refine o_mv st rfl rfl ?_
            refine o_fad st rfl rfl fld25_1 rfl ?_
            refine o_ldc st (v := (.int .i64 r3.xEvery)) 0 rfl rfl rfl ty3 rfl ?_
            refine o_mul st rfl rfl rfl ?_; intro t25
            refine o_add st rfl rfl rfl ?_; intro t26
            refine stw (o_bsl (enc := encInt) (qs := [(0, (.int .i64 t26))]) (cells := [(.int .i64 t26)]) ([t26]) flelInt (by intro ρ h; simp only [List.map_toArray, List.map_cons, List.map_nil, h (.tmp 52) _ rfl]) rfl el41 zero3 rfl rfl rfl rfl rfl rfl ?_); intro v27
            refine stw (o_app 2 0 rfl rfl reads_own (.inr flelInt.free) rfl rfl rfl el41 rfl zero3 rfl rfl ?_); intro v29
            refine o_as st rfl rfl ?_
            refine c_nil ?_
            refine b_norm ?_
            refine l_then ?_
            refine c_region ?_
            refine o_mv st rfl rfl ?_
            refine o_add st rfl rfl rfl ?_; intro t31
            refine o_as st rfl rfl ?_
            refine c_nil ?_
            exact l_join ((xs20 ++ ([t26])), t31) (fun a w hE hm => ⟨v29, hE.sub ⟨rfl, rfl, rfl, trivial⟩, (hm.pick [1, 2] rfl)⟩)
          · refine c_exit ?_
            refine l_exit ?_
            refine l_exit ?_
            refine b_exit ?_
            refine l_then ?_
            refine c_seq ?_
            refine c_region ?_
            refine o_ldc st (v := (.agg #[(.int .i64 r3.xSize), (.int .i64 r3.xEvery), (.int .i64 r3.xTokens), (.int .i64 r3.xLast)])) 0 rfl rfl rfl ty25 rfl ?_
            refine o_mv st rfl rfl ?_
            refine stw (o_callP (vs := [(.agg #[(.int .i64 r3.xSize), (.int .i64 r3.xEvery), (.int .i64 r3.xTokens), (.int .i64 r3.xLast)]), v21]) Try.call28 rfl rfl (by intro w m h; exact w_impl_TakeMany (b_0 := r3) (times_1 := xs20) (m.rd0 1 rfl reads_own) h) ?_); rintro r32 v33
            refine o_as st rfl rfl ?_
            refine c_nil ?_
            refine l_then ?_
            refine c_seq ?_
            refine c_seq ?_
            refine c_region ?_
            refine o_as st rfl rfl ?_
            refine c_nil ?_
            refine l_then ?_
            refine c_block ?_
            refine c_loop (σ := Int) (fun (t35 : Int) (a : Act) (w : World) => Has 72 [(7, v33), (8, (.int .i64 t35))] a ∧ Mem (fun _ => True) (feet []) w0 [ownCh elBool 4 v33 r32] w) (fun a w hE hm => ⟨hE.sub ⟨rfl, rfl, trivial⟩, (hm.pick [0] rfl)⟩) ?_
            rintro nx36 t35 a w ⟨hE, hm⟩ h
            refine nx_of hE hm h ?_
            clear hE hm h
            refine c_seq ?_
            refine c_seq ?_
            refine c_region ?_
            refine o_mv st rfl rfl ?_
            refine o_mv st rfl rfl ?_
            refine o_len st el44 0 rfl reads_own rfl rfl ?_
            refine o_lss st rfl rfl rfl ?_
            refine c_nil ?_
            refine l_then ?_
            refine c_cond rfl ?_ ?_
            · refine c_skip ?_
              refine l_then ?_
              refine c_seq ?_
              refine c_block ?_
              refine c_seq ?_
              refine c_region ?_
              refine o_mv st rfl rfl ?_
              refine o_mv st rfl rfl ?_
              refine o_idx st 0 rfl reads_own rfl rfl rfl el44 ?_; intro e37 h38
              refine o_lds st (enc := encBool) (u := (.bool e37)) 0 rfl reads_own flelBool rfl h38 rfl rfl ty4 rfl ?_
              refine o_not st rfl rfl ?_
              refine c_nil ?_
              refine l_then ?_
              refine c_cond rfl ?_ ?_
              · refine c_seq ?_
                refine c_region ?_
                refine o_as st rfl rfl ?_
                refine c_nil ?_
                refine l_then ?_
                refine c_ret ?_
                refine b_ret ?_
                refine l_ret ?_
                refine l_ret ?_
                refine b_ret ?_
                refine l_ret ?_
                exact l_end1 Try.results9 false () (rv_t rfl) (fun _ _ => NewCh.nil _ _ _ _)
              · refine c_skip ?_
                refine b_norm ?_
                refine l_then ?_
                refine c_region ?_
                refine o_mv st rfl rfl ?_
                refine o_add st rfl rfl rfl ?_; intro t39
                refine o_as st rfl rfl ?_
                refine c_nil ?_
                exact l_join t39 (fun a w hE hm => ⟨hE.sub ⟨rfl, rfl, trivial⟩, (hm.pick [0] rfl)⟩)
            · refine c_exit ?_
              refine l_exit ?_
              refine l_exit ?_
              refine b_exit ?_
              refine l_then ?_
              refine c_seq ?_
              refine c_region ?_
              refine o_mv st rfl rfl ?_
              refine o_len st el44 0 rfl reads_own rfl rfl ?_
              refine o_eql st und3 rfl rfl rfl ?_
              refine o_as st rfl rfl ?_
              refine c_nil ?_
              refine l_then ?_
              refine c_ret ?_
              exact l_end1 Try.results9 (decide ((r32.length : Int) = 21)) () (rv_t rfl) (fun _ _ => NewCh.nil _ _ _ _)

set_option maxRecDepth 100000 in
set_option maxHeartbeats 8000000 in
theorem w_impl_Bucket_canLook {w0 : World} {F : Nat → Prop} {b_0 : GBucket} {now_1 : Int} {κ : Bool → Prop} (h : L_impl_Bucket_canLook b_0 now_1 κ) :
    Calls Try.prog 43 #[(.agg #[(.int .i64 b_0.xSize), (.int .i64 b_0.xEvery), (.int .i64 b_0.xTokens), (.int .i64 b_0.xLast)]), (.int .i64 now_1)] w0 (Ret [] F w0 κ (fun (r : Bool) (u : Unit) => (.bool r)) (fun (r : Bool) (u : Unit) => [])) := by
  refine enter (args := [(.agg #[(.int .i64 b_0.xSize), (.int .i64 b_0.xEvery), (.int .i64 b_0.xTokens), (.int .i64 b_0.xLast)]), (.int .i64 now_1)]) [] Try.func43 rfl Try.ntmps43 rfl [] hf_nil hh_nil (Given.nil w0).lt (Given.nil w0).disj (Given.nil w0).hold h ?_
  clear h
  refine c_seq ?_
  refine c_region ?_
  refine stw (o_box rfl rfl [(.int .i64 b_0.xSize), (.int .i64 b_0.xEvery), (.int .i64 b_0.xTokens), (.int .i64 b_0.xLast)] rfl ?_); intro b1
  refine o_as st rfl rfl ?_
  refine c_nil ?_
  refine l_then ?_
  refine c_join (σ := Bool) (fun (t3 : Bool) (a : Act) (w : World) => Has 17 [(4, (.bool t3))] a ∧ Mem (fun _ => True) (feet []) w0 [] w) ?_ ?_
  · intro k4
    refine c_region ?_
    refine o_ldc st (v := (.agg #[(.int .i64 b_0.xSize), (.int .i64 b_0.xEvery), (.int .i64 b_0.xTokens), (.int .i64 b_0.xLast)])) 0 rfl rfl rfl ty25 rfl ?_
    refine stw (o_callP (vs := [(.agg #[(.int .i64 b_0.xSize), (.int .i64 b_0.xEvery), (.int .i64 b_0.xTokens), (.int .i64 b_0.xLast)])]) Try.call16 rfl rfl (by intro w m h; exact w_impl_BucketValid (b_0 := b_0) h) ?_); rintro r5 _
    refine o_mv st rfl rfl ?_
    refine st_sp (dj := 7) rfl ?_ ?_
    · refine o_mv (st_g rfl rfl) rfl rfl ?_
      refine o_fad (st_g rfl rfl) rfl rfl fld25_3 rfl ?_
      refine o_ldc (st_g rfl rfl) (v := (.int .i64 b_0.xLast)) 0 rfl rfl rfl ty3 rfl ?_
      refine o_geq (st_g rfl rfl) rfl rfl rfl ?_
      refine o_pickT st rfl rfl rfl ?_
      refine o_mv st rfl rfl ?_
      refine st_sp (dj := 13) rfl ?_ ?_
      · refine o_mv (st_g rfl rfl) rfl rfl ?_
        refine o_leq (st_g rfl rfl) rfl rfl rfl ?_
        refine o_pickT st rfl rfl rfl ?_
        refine o_as st rfl rfl ?_
        refine c_nil ?_
        exact l_join (decide (now_1 ≤ 1000000)) (fun a w hE hm => ⟨hE.sub ⟨rfl, trivial⟩, (hm.pick [] rfl)⟩)
      · refine st_s rfl rfl rfl rfl ?_
        refine st_s rfl rfl rfl rfl ?_
        refine o_pickF st rfl rfl rfl ?_
        refine o_as st rfl rfl ?_
        refine c_nil ?_
        exact l_join false (fun a w hE hm => ⟨hE.sub ⟨rfl, trivial⟩, (hm.pick [] rfl)⟩)
    · refine st_s rfl rfl rfl rfl ?_
      refine st_s rfl rfl rfl rfl ?_
      refine st_s rfl rfl rfl rfl ?_
      refine st_s rfl rfl rfl rfl ?_
      refine o_pickF st rfl rfl rfl ?_
      refine o_mv st rfl rfl ?_
      refine st_s rfl rfl rfl rfl ?_
      refine st_s rfl rfl rfl rfl ?_
      refine o_pickF st rfl rfl rfl ?_
      refine o_as st rfl rfl ?_
      refine c_nil ?_
      exact l_join false (fun a w hE hm => ⟨hE.sub ⟨rfl, trivial⟩, (hm.pick [] rfl)⟩)
  · rintro t3 a w ⟨hE, hm⟩ h
    refine nx_of hE hm h ?_
    clear hE hm h
    refine c_ret ?_
    exact l_end1 Try.results43 t3 () (rv_t rfl) (fun _ _ => NewCh.nil _ _ _ _)

set_option maxRecDepth 100000 in
set_option maxHeartbeats 8000000 in
theorem w_impl_BucketAt {w0 : World} {F : Nat → Prop} {b_0 : GBucket} {now_1 : Int} {κ : GBucket → Prop} (h : L_impl_BucketAt b_0 now_1 κ) :
    Calls Try.prog 22 #[(.agg #[(.int .i64 b_0.xSize), (.int .i64 b_0.xEvery), (.int .i64 b_0.xTokens), (.int .i64 b_0.xLast)]), (.int .i64 now_1)] w0 (Ret [] F w0 κ (fun (r : GBucket) (u : Unit) => (.agg #[(.int .i64 r.xSize), (.int .i64 r.xEvery), (.int .i64 r.xTokens), (.int .i64 r.xLast)])) (fun (r : GBucket) (u : Unit) => [])) := by
  refine enter (args := [(.agg #[(.int .i64 b_0.xSize), (.int .i64 b_0.xEvery), (.int .i64 b_0.xTokens), (.int .i64 b_0.xLast)]), (.int .i64 now_1)]) [] Try.func22 rfl Try.ntmps22 rfl [] hf_nil hh_nil (Given.nil w0).lt (Given.nil w0).disj (Given.nil w0).hold h ?_
  clear h
  refine c_seq ?_
  refine c_region ?_
  refine stw (o_box rfl rfl [(.int .i64 b_0.xSize), (.int .i64 b_0.xEvery), (.int .i64 b_0.xTokens), (.int .i64 b_0.xLast)] rfl ?_); intro b1
  refine stw (o_alloc rfl [(.int .i64 0), (.int .i64 0), (.int .i64 0), (.int .i64 0)] zero25 ?_); intro b3
  refine c_nil ?_
  refine l_then ?_
  refine c_seq ?_
  refine c_seq ?_
  refine c_region ?_
  refine o_ldc st (v := (.agg #[(.int .i64 b_0.xSize), (.int .i64 b_0.xEvery), (.int .i64 b_0.xTokens), (.int .i64 b_0.xLast)])) 1 rfl rfl rfl ty25 rfl ?_
  refine o_mv st rfl rfl ?_
  refine stw (o_callP (vs := [(.agg #[(.int .i64 b_0.xSize), (.int .i64 b_0.xEvery), (.int .i64 b_0.xTokens), (.int .i64 b_0.xLast)]), (.int .i64 now_1)]) Try.call43 rfl rfl (by intro w m h; exact w_impl_Bucket_canLook (b_0 := b_0) (now_1 := now_1) h) ?_); rintro r5 _
  refine o_not st rfl rfl ?_
  refine c_nil ?_
  refine l_then ?_
  refine c_cond rfl ?_ ?_
  · refine c_seq ?_
    refine c_region ?_
    refine o_bld st (qs := []) (cells := [(.int .i64 0), (.int .i64 0), (.int .i64 0), (.int .i64 0)]) (by intro ρ h; simp only [List.map_toArray, List.map_cons, List.map_nil]) rfl bld25 rfl ?_
    refine stw (o_stc (cs' := [(.int .i64 0), (.int .i64 0), (.int .i64 0), (.int .i64 0)]) 0 rfl rfl rfl ty25 rfl rfl rfl rfl ?_)
    refine c_nil ?_
    refine l_then ?_
    refine c_ret ?_
    refine l_ret ?_
    exact l_end1 Try.results22 (GBucket.mk 0 0 0 0) () (rv_c 0 rfl rfl ty25 rfl) (fun _ _ => NewCh.nil _ _ _ _)
  · refine c_skip ?_
    refine l_then ?_
    refine c_seq ?_
    refine c_region ?_
    refine o_ldc st (v := (.agg #[(.int .i64 b_0.xSize), (.int .i64 b_0.xEvery), (.int .i64 b_0.xTokens), (.int .i64 b_0.xLast)])) 1 rfl rfl rfl ty25 rfl ?_
    refine o_mv st rfl rfl ?_
    refine stw (o_callP (vs := [(.agg #[(.int .i64 b_0.xSize), (.int .i64 b_0.xEvery), (.int .i64 b_0.xTokens), (.int .i64 b_0.xLast)]), (.int .i64 now_1)]) Try.call44 rfl rfl (by intro w m h; exact w_impl_Bucket_at (b_0 := b_0) (now_1 := now_1) h) ?_); rintro r6 _
    refine stw (o_stc (cs' := [(.int .i64 r6.xSize), (.int .i64 r6.xEvery), (.int .i64 r6.xTokens), (.int .i64 r6.xLast)]) 0 rfl rfl rfl ty25 rfl rfl rfl rfl ?_)
    refine c_nil ?_
    refine l_then ?_
    refine c_ret ?_
    exact l_end1 Try.results22 r6 () (rv_c 0 rfl rfl ty25 rfl) (fun _ _ => NewCh.nil _ _ _ _)

set_option maxRecDepth 100000 in
set_option maxHeartbeats 8000000 in
theorem w_impl_TakeToken {w0 : World} {F : Nat → Prop} {b_0 : GBucket} {now_1 : Int} {κ : (GBucket × Bool) → Prop} (h : L_impl_TakeToken b_0 now_1 κ) :
    Calls Try.prog 25 #[(.agg #[(.int .i64 b_0.xSize), (.int .i64 b_0.xEvery), (.int .i64 b_0.xTokens), (.int .i64 b_0.xLast)]), (.int .i64 now_1)] w0 (Ret [] F w0 κ (fun (r : (GBucket × Bool)) (u : Unit) => .tuple #[(.agg #[(.int .i64 r.1.xSize), (.int .i64 r.1.xEvery), (.int .i64 r.1.xTokens), (.int .i64 r.1.xLast)]), (.bool r.2)]) (fun (r : (GBucket × Bool)) (u : Unit) => [])) := by
  refine enter (args := [(.agg #[(.int .i64 b_0.xSize), (.int .i64 b_0.xEvery), (.int .i64 b_0.xTokens), (.int .i64 b_0.xLast)]), (.int .i64 now_1)]) [] Try.func25 rfl Try.ntmps25 rfl [] hf_nil hh_nil (Given.nil w0).lt (Given.nil w0).disj (Given.nil w0).hold h ?_
  clear h
  refine c_seq ?_
  refine c_region ?_
  refine stw (o_box rfl rfl [(.int .i64 b_0.xSize), (.int .i64 b_0.xEvery), (.int .i64 b_0.xTokens), (.int .i64 b_0.xLast)] rfl ?_); intro b1
  refine stw (o_alloc rfl [(.int .i64 0), (.int .i64 0), (.int .i64 0), (.int .i64 0)] zero25 ?_); intro b3
  refine o_as st rfl rfl ?_
  refine c_nil ?_
  refine l_then ?_
  refine c_seq ?_
  refine c_seq ?_
  refine c_region ?_
  refine o_ldc st (v := (.agg #[(.int .i64 b_0.xSize), (.int .i64 b_0.xEvery), (.int .i64 b_0.xTokens), (.int .i64 b_0.xLast)])) 1 rfl rfl rfl ty25 rfl ?_
  refine o_mv st rfl rfl ?_
  refine stw (o_callP (vs := [(.agg #[(.int .i64 b_0.xSize), (.int .i64 b_0.xEvery), (.int .i64 b_0.xTokens), (.int .i64 b_0.xLast)]), (.int .i64 now_1)]) Try.call43 rfl rfl (by intro w m h; exact w_impl_Bucket_canLook (b_0 := b_0) (now_1 := now_1) h) ?_); rintro r5 _
  refine o_not st rfl rfl ?_
  refine c_nil ?_
  refine l_then ?_
  refine c_cond rfl ?_ ?_
  · refine c_seq ?_
    refine c_region ?_
    refine o_bld st (qs := []) (cells := [(.int .i64 0), (.int .i64 0), (.int .i64 0), (.int .i64 0)]) (by intro ρ h; simp only [List.map_toArray, List.map_cons, List.map_nil]) rfl bld25 rfl ?_
    refine stw (o_stc (cs' := [(.int .i64 0), (.int .i64 0), (.int .i64 0), (.int .i64 0)]) 0 rfl rfl rfl ty25 rfl rfl rfl rfl ?_)
    refine o_as st rfl rfl ?_
    refine c_nil ?_
    refine l_then ?_
    refine c_ret ?_
    refine l_ret ?_
    exact l_end2 Try.results25 ((GBucket.mk 0 0 0 0), false) () (rv_c 0 rfl rfl ty25 rfl) (rv_t rfl) rfl (fun _ _ => NewCh.nil _ _ _ _)
  · refine c_skip ?_
    refine l_then ?_
    refine c_seq ?_
    refine c_region ?_
    refine o_ldc st (v := (.agg #[(.int .i64 b_0.xSize), (.int .i64 b_0.xEvery), (.int .i64 b_0.xTokens), (.int .i64 b_0.xLast)])) 1 rfl rfl rfl ty25 rfl ?_
    refine o_mv st rfl rfl ?_
    refine stw (o_callP (vs := [(.agg #[(.int .i64 b_0.xSize), (.int .i64 b_0.xEvery), (.int .i64 b_0.xTokens), (.int .i64 b_0.xLast)]), (.int .i64 now_1)]) Try.call45 rfl rfl (by intro w m h; exact w_impl_Bucket_take (b_0 := b_0) (now_1 := now_1) h) ?_); rintro ⟨r6, r7⟩ _
    refine o_ext st (vs := [(.agg #[(.int .i64 r6.xSize), (.int .i64 r6.xEvery), (.int .i64 r6.xTokens), (.int .i64 r6.xLast)]), (.bool r7)]) rfl rfl rfl ?_
    refine o_ext st (vs := [(.agg #[(.int .i64 r6.xSize), (.int .i64 r6.xEvery), (.int .i64 r6.xTokens), (.int .i64 r6.xLast)]), (.bool r7)]) rfl rfl rfl ?_
    refine stw (o_stc (cs' := [(.int .i64 r6.xSize), (.int .i64 r6.xEvery), (.int .i64 r6.xTokens), (.int .i64 r6.xLast)]) 0 rfl rfl rfl ty25 rfl rfl rfl rfl ?_)
    refine o_as st rfl rfl ?_
    refine c_nil ?_
    refine l_then ?_
    refine c_ret ?_
    exact l_end2 Try.results25 (r6, r7) () (rv_c 0 rfl rfl ty25 rfl) (rv_t rfl) rfl (fun _ _ => NewCh.nil _ _ _ _)

set_option maxRecDepth 100000 in
set_option maxHeartbeats 8000000 in
theorem w_spec_l20Later {w0 : World} {F : Nat → Prop} {b1 : Nat} {v2 : Value} {r_0_b : (List UInt8)} {r_0_p : Int} {κ : (GBucket × Int × Int) → Prop} (hg : Given [cellCh b1 [v2, (.int .i64 r_0_p)] 66] w0) (hv2 : Sl elU8 (fun b => b < w0.heap.size ∧ ¬ feet [cellCh b1 [v2, (.int .i64 r_0_p)] 66] b) w0 v2 r_0_b) (h : L_spec_l20Later r_0_b r_0_p κ) :
    Calls Try.prog 46 #[(.pointer (some ⟨b1, 0, none⟩))] w0 (Ret [cellCh b1 [v2, (.int .i64 r_0_p)] 66] F w0 κ (fun (r : (GBucket × Int × Int)) (u : Unit) => .tuple #[(.agg #[(.int .i64 r.1.xSize), (.int .i64 r.1.xEvery), (.int .i64 r.1.xTokens), (.int .i64 r.1.xLast)]), (.int .i64 r.2.1)]) (fun (r : (GBucket × Int × Int)) (u : Unit) => [cellCh b1 [v2, (.int .i64 r.2.2)] 66])) := by
  refine enter (args := [(.pointer (some ⟨b1, 0, none⟩))]) [cellCh b1 [v2, (.int .i64 r_0_p)] 66] Try.func46 rfl Try.ntmps46 rfl [roCh elU8 v2 r_0_b] (hf_cons hf_nil) (hh_cons hv2 hh_nil) hg.lt hg.disj hg.hold h ?_
  clear h hg hv2
  refine c_seq ?_
  refine c_region ?_
  refine stw (o_alloc rfl [(.int .i64 0), (.int .i64 0), (.int .i64 0), (.int .i64 0)] zero25 ?_); intro b5
  refine o_as st rfl rfl ?_
  refine c_nil ?_
  refine l_then ?_
  refine c_seq ?_
  refine c_region ?_
  refine o_mv st rfl rfl ?_
  refine pk [1, 0, 2] rfl ?_
  refine stw (o_call (vs := [(.pointer (some ⟨b1, 0, none⟩)), (.int .i64 12)]) (M0 := [cellCh b1 [v2, (.int .i64 r_0_p)] 66]) Try.call40 rfl rfl (by intro w m h; exact w_spec_l20Bucket (r_0_b := r_0_b) (r_0_p := r_0_p) (n_1 := 12) m.given (m.rdM 1 rfl reads_ro) h) ?_); rintro ⟨r7, r8⟩ _
  refine stw (o_alloc rfl [(.int .i64 0), (.int .i64 0), (.int .i64 0), (.int .i64 0)] zero25 ?_); intro b9
  refine stw (o_stc (cs' := [(.int .i64 r7.xSize), (.int .i64 r7.xEvery), (.int .i64 r7.xTokens), (.int .i64 r7.xLast)]) 0 rfl rfl rfl ty25 rfl rfl rfl rfl ?_)
  refine c_nil ?_
  refine l_then ?_
  refine c_join (σ := (Int × Int)) (fun ((t11, t12) : (Int × Int)) (a : Act) (w : World) => Has 24 [(2, (.pointer (some ⟨b5, 0, none⟩))), (3, (.int .i64 t12))] a ∧ Mem (fun _ => True) (feet [cellCh b1 [v2, (.int .i64 r_0_p)] 66]) w0 [cellCh b1 [v2, (.int .i64 t11)] 66, cellCh b5 [(.int .i64 r7.xSize), (.int .i64 r7.xEvery), (.int .i64 r7.xTokens), (.int .i64 r7.xLast)] 25, roCh elU8 v2 r_0_b] w) ?_ ?_
  · intro k13
    refine c_drawQ mixed 19 rfl [cellCh b9 [(.int .i64 r7.xSize), (.int .i64 r7.xEvery), (.int .i64 r7.xTokens), (.int .i64 r7.xLast)] 25, roCh elU8 v2 r_0_b] (fun c a d v w h => by cases d <;> exact h) ?_
    intro Qd hP hQ
    have H141 : ∀ (r14 : Int) (r15 : Int) (v16 : Value) (v17 : Value) (r18 : Int) (r19 : Int) (e20 : Int) (h21 : ([0, 0, 0, 0, 0, 1, 2, 3])[(r18).toNat]? = some e20) (e22 : Int) (h23 : ([(w64 (r7.xLast + r14)), (w64 (r7.xLast - 1)), 1000000, 1000001])[(e20).toNat]? = some e22), Nx 24 (fun _ => True) (feet [cellCh b1 [v2, (.int .i64 r_0_p)] 66]) w0 (wpAnyH Try.prog .any (opsAt Try.f46 [1, 1, 0]) Qd (Mem (fun _ => True) (feet [cellCh b1 [v2, (.int .i64 r_0_p)] 66]) w0 [cellCh b9 [(.int .i64 r7.xSize), (.int .i64 r7.xEvery), (.int .i64 r7.xTokens), (.int .i64 r7.xLast)] 25, roCh elU8 v2 r_0_b]) 1 #[true, true, true, true, true, true, true, true, true, true, true, true, true, true, true, true, true, true, false]) [(2, (.pointer (some ⟨b5, 0, none⟩))), (3, (.int .i64 0)), (23, (.int .i64 e22))] [cellCh b1 [v2, (.int .i64 r19)] 66, cellCh b9 [(.int .i64 r7.xSize), (.int .i64 r7.xEvery), (.int .i64 r7.xTokens), (.int .i64 r7.xLast)] 25, cellCh b5 [(.int .i64 r7.xSize), (.int .i64 r7.xEvery), (.int .i64 r7.xTokens), (.int .i64 r7.xLast)] 25, roCh elU8 v2 r_0_b] (k13 (r19, e22)) := by
      intro r14 r15 v16 v17 r18 r19 e20 h21 e22 h23
      refine o_as (d_take (i := 18) rfl (by kernel_rfl) (by kernel_rfl) (by kernel_rfl) hP (fun w m => m.pick [1, 3] rfl)) rfl rfl ?_
      refine d_done (by kernel_rfl) ?_
      exact fun a w hE hm hφ => hQ (r19, e22) a w hφ ((fun a w hE hm => ⟨hE.sub ⟨rfl, rfl, trivial⟩, (hm.pick [0, 2, 3] rfl)⟩) a w hE hm)
    have H142 : ∀ (r14 : Int) (r15 : Int) (v16 : Value) (v17 : Value) (r18 : Int) (r19 : Int) (e20 : Int) (h21 : ([0, 0, 0, 0, 0, 1, 2, 3])[(r18).toNat]? = some e20) (e22 : Int) (h23 : ([(w64 (r7.xLast + r14)), (w64 (r7.xLast - 1)), 1000000, 1000001])[(e20).toNat]? = some e22), Nx 24 (fun _ => True) (feet [cellCh b1 [v2, (.int .i64 r_0_p)] 66]) w0 (wpAnyH Try.prog .any (opsAt Try.f46 [1, 1, 0]) Qd (Mem (fun _ => True) (feet [cellCh b1 [v2, (.int .i64 r_0_p)] 66]) w0 [cellCh b9 [(.int .i64 r7.xSize), (.int .i64 r7.xEvery), (.int .i64 r7.xTokens), (.int .i64 r7.xLast)] 25, roCh elU8 v2 r_0_b]) 2 #[true, true, true, true, true, true, true, true, true, true, true, true, true, true, true, true, true, false, false]) [(2, (.pointer (some ⟨b5, 0, none⟩))), (3, (.int .i64 0)), (7, (.agg #[(.int .i64 r7.xSize), (.int .i64 r7.xEvery), (.int .i64 r7.xTokens), (.int .i64 r7.xLast)])), (23, (.int .i64 e22))] [cellCh b1 [v2, (.int .i64 r19)] 66, cellCh b9 [(.int .i64 r7.xSize), (.int .i64 r7.xEvery), (.int .i64 r7.xTokens), (.int .i64 r7.xLast)] 25, cellCh b5 [(.int .i64 0), (.int .i64 0), (.int .i64 0), (.int .i64 0)] 25, roCh elU8 v2 r_0_b] (k13 (r19, e22)) := by
      intro r14 r15 v16 v17 r18 r19 e20 h21 e22 h23
      refine d_one (i := 17) rfl (by kernel_rfl) (o_stc (cs' := [(.int .i64 r7.xSize), (.int .i64 r7.xEvery), (.int .i64 r7.xTokens), (.int .i64 r7.xLast)]) 2 rfl rfl rfl ty25 rfl rfl rfl rfl ?_)
      refine d_and (fun w m => m.pick [1, 3] rfl) ?_
      refine pk [0, 1, 2, 3] rfl ?_
      refine re (E' := [(2, (.pointer (some ⟨b5, 0, none⟩))), (3, (.int .i64 0)), (23, (.int .i64 e22))]) ⟨rfl, rfl, rfl, trivial⟩ ?_
      exact H141 r14 r15 v16 v17 r18 r19 e20 h21 e22 h23
    have H143 : ∀ (r14 : Int) (r15 : Int) (v16 : Value) (v17 : Value) (r18 : Int) (r19 : Int) (e20 : Int) (h21 : ([0, 0, 0, 0, 0, 1, 2, 3])[(r18).toNat]? = some e20) (e22 : Int) (h23 : ([(w64 (r7.xLast + r14)), (w64 (r7.xLast - 1)), 1000000, 1000001])[(e20).toNat]? = some e22), Nx 24 (fun _ => True) (feet [cellCh b1 [v2, (.int .i64 r_0_p)] 66]) w0 (wpAnyH Try.prog .any (opsAt Try.f46 [1, 1, 0]) Qd (Mem (fun _ => True) (feet [cellCh b1 [v2, (.int .i64 r_0_p)] 66]) w0 [cellCh b9 [(.int .i64 r7.xSize), (.int .i64 r7.xEvery), (.int .i64 r7.xTokens), (.int .i64 r7.xLast)] 25, roCh elU8 v2 r_0_b]) 2 #[true, true, true, true, true, true, true, true, true, true, true, true, true, true, true, true, false, true, false]) [(2, (.pointer (some ⟨b5, 0, none⟩))), (3, (.int .i64 0)), (22, (pEl v16 e20 1 0))] [cellCh b1 [v2, (.int .i64 r19)] 66, ownCh elInt 3 v16 ([(w64 (r7.xLast + r14)), (w64 (r7.xLast - 1)), 1000000, 1000001]), cellCh b9 [(.int .i64 r7.xSize), (.int .i64 r7.xEvery), (.int .i64 r7.xTokens), (.int .i64 r7.xLast)] 25, cellCh b5 [(.int .i64 r7.xSize), (.int .i64 r7.xEvery), (.int .i64 r7.xTokens), (.int .i64 r7.xLast)] 25, roCh elU8 v2 r_0_b] (k13 (r19, e22)) := by
      intro r14 r15 v16 v17 r18 r19 e20 h21 e22 h23
      refine d_one (i := 16) rfl (by kernel_rfl) (o_lds m_op (enc := encInt) (u := (.int .i64 e22)) 1 rfl reads_own flelInt rfl h23 rfl rfl ty3 rfl ?_)
      refine d_and (fun w m => m.pick [2, 4] rfl) ?_
      refine pk [0, 2, 3, 4] rfl ?_
      refine re (E' := [(2, (.pointer (some ⟨b5, 0, none⟩))), (3, (.int .i64 0)), (23, (.int .i64 e22))]) ⟨rfl, rfl, rfl, trivial⟩ ?_
      exact H141 r14 r15 v16 v17 r18 r19 e20 h21 e22 h23
    have H144 : ∀ (r14 : Int) (r15 : Int) (v16 : Value) (v17 : Value) (r18 : Int) (r19 : Int) (e20 : Int) (h21 : ([0, 0, 0, 0, 0, 1, 2, 3])[(r18).toNat]? = some e20) (e22 : Int) (h23 : ([(w64 (r7.xLast + r14)), (w64 (r7.xLast - 1)), 1000000, 1000001])[(e20).toNat]? = some e22), Nx 24 (fun _ => True) (feet [cellCh b1 [v2, (.int .i64 r_0_p)] 66]) w0 (wpAnyH Try.prog .any (opsAt Try.f46 [1, 1, 0]) Qd (Mem (fun _ => True) (feet [cellCh b1 [v2, (.int .i64 r_0_p)] 66]) w0 [cellCh b9 [(.int .i64 r7.xSize), (.int .i64 r7.xEvery), (.int .i64 r7.xTokens), (.int .i64 r7.xLast)] 25, roCh elU8 v2 r_0_b]) 3 #[true, true, true, true, true, true, true, true, true, true, true, true, true, true, true, true, false, false, false]) [(2, (.pointer (some ⟨b5, 0, none⟩))), (3, (.int .i64 0)), (7, (.agg #[(.int .i64 r7.xSize), (.int .i64 r7.xEvery), (.int .i64 r7.xTokens), (.int .i64 r7.xLast)])), (22, (pEl v16 e20 1 0))] [cellCh b1 [v2, (.int .i64 r19)] 66, ownCh elInt 3 v16 ([(w64 (r7.xLast + r14)), (w64 (r7.xLast - 1)), 1000000, 1000001]), cellCh b9 [(.int .i64 r7.xSize), (.int .i64 r7.xEvery), (.int .i64 r7.xTokens), (.int .i64 r7.xLast)] 25, cellCh b5 [(.int .i64 0), (.int .i64 0), (.int .i64 0), (.int .i64 0)] 25, roCh elU8 v2 r_0_b] (k13 (r19, e22)) := by
      intro r14 r15 v16 v17 r18 r19 e20 h21 e22 h23
      refine d_two (i := 16) (j := 17) rfl rfl (by kernel_rfl) ?_ ?_
      · intro o ho; cases ho
        refine o_lds m_op (enc := encInt) (u := (.int .i64 e22)) 1 rfl reads_own flelInt rfl h23 rfl rfl ty3 rfl ?_
        refine d_and (fun w m => m.pick [2, 4] rfl) ?_
        refine pk [0, 2, 3, 4] rfl ?_
        refine re (E' := [(2, (.pointer (some ⟨b5, 0, none⟩))), (3, (.int .i64 0)), (7, (.agg #[(.int .i64 r7.xSize), (.int .i64 r7.xEvery), (.int .i64 r7.xTokens), (.int .i64 r7.xLast)])), (23, (.int .i64 e22))]) ⟨rfl, rfl, rfl, rfl, trivial⟩ ?_
        exact H142 r14 r15 v16 v17 r18 r19 e20 h21 e22 h23
      · intro o ho; cases ho
        refine o_stc (cs' := [(.int .i64 r7.xSize), (.int .i64 r7.xEvery), (.int .i64 r7.xTokens), (.int .i64 r7.xLast)]) 3 rfl rfl rfl ty25 rfl rfl rfl rfl ?_
        refine d_and (fun w m => m.pick [2, 4] rfl) ?_
        refine pk [0, 1, 2, 3, 4] rfl ?_
        refine re (E' := [(2, (.pointer (some ⟨b5, 0, none⟩))), (3, (.int .i64 0)), (22, (pEl v16 e20 1 0))]) ⟨rfl, rfl, rfl, trivial⟩ ?_
        exact H143 r14 r15 v16 v17 r18 r19 e20 h21 e22 h23
    have H145 : ∀ (r14 : Int) (r15 : Int) (v16 : Value) (v17 : Value) (r18 : Int) (r19 : Int) (e20 : Int) (h21 : ([0, 0, 0, 0, 0, 1, 2, 3])[(r18).toNat]? = some e20), Nx 24 (fun _ => True) (feet [cellCh b1 [v2, (.int .i64 r_0_p)] 66]) w0 (wpAnyH Try.prog .any (opsAt Try.f46 [1, 1, 0]) Qd (Mem (fun _ => True) (feet [cellCh b1 [v2, (.int .i64 r_0_p)] 66]) w0 [cellCh b9 [(.int .i64 r7.xSize), (.int .i64 r7.xEvery), (.int .i64 r7.xTokens), (.int .i64 r7.xLast)] 25, roCh elU8 v2 r_0_b]) 3 #[true, true, true, true, true, true, true, true, true, true, true, true, true, true, true, false, false, true, false]) [(2, (.pointer (some ⟨b5, 0, none⟩))), (3, (.int .i64 0)), (16, v16), (21, (.int .i64 e20))] [cellCh b1 [v2, (.int .i64 r19)] 66, ownCh elInt 3 v16 ([(w64 (r7.xLast + r14)), (w64 (r7.xLast - 1)), 1000000, 1000001]), cellCh b9 [(.int .i64 r7.xSize), (.int .i64 r7.xEvery), (.int .i64 r7.xTokens), (.int .i64 r7.xLast)] 25, cellCh b5 [(.int .i64 r7.xSize), (.int .i64 r7.xEvery), (.int .i64 r7.xTokens), (.int .i64 r7.xLast)] 25, roCh elU8 v2 r_0_b] (idxW ([(w64 (r7.xLast + r14)), (w64 (r7.xLast - 1)), 1000000, 1000001]) e20 (fun e24 => k13 (r19, e24))) := by
      intro r14 r15 v16 v17 r18 r19 e20 h21
      refine d_one (i := 15) rfl (by kernel_rfl) (o_idx m_op 1 rfl reads_own rfl rfl rfl el41 ?_); intro e24 h25
      refine d_and (fun w m => m.pick [2, 4] rfl) ?_
      refine pk [0, 1, 2, 3, 4] rfl ?_
      refine re (E' := [(2, (.pointer (some ⟨b5, 0, none⟩))), (3, (.int .i64 0)), (22, (pEl v16 e20 1 0))]) ⟨rfl, rfl, rfl, trivial⟩ ?_
      exact H143 r14 r15 v16 v17 r18 r19 e20 h21 e24 h25
    have H146 : ∀ (r14 : Int) (r15 : Int) (v16 : Value) (v17 : Value) (r18 : Int) (r19 : Int) (e20 : Int) (h21 : ([0, 0, 0, 0, 0, 1, 2, 3])[(r18).toNat]? = some e20), Nx 24 (fun _ => True) (feet [cellCh b1 [v2, (.int .i64 r_0_p)] 66]) w0 (wpAnyH Try.prog .any (opsAt Try.f46 [1, 1, 0]) Qd (Mem (fun _ => True) (feet [cellCh b1 [v2, (.int .i64 r_0_p)] 66]) w0 [cellCh b9 [(.int .i64 r7.xSize), (.int .i64 r7.xEvery), (.int .i64 r7.xTokens), (.int .i64 r7.xLast)] 25, roCh elU8 v2 r_0_b]) 4 #[true, true, true, true, true, true, true, true, true, true, true, true, true, true, true, false, false, false, false]) [(2, (.pointer (some ⟨b5, 0, none⟩))), (3, (.int .i64 0)), (7, (.agg #[(.int .i64 r7.xSize), (.int .i64 r7.xEvery), (.int .i64 r7.xTokens), (.int .i64 r7.xLast)])), (16, v16), (21, (.int .i64 e20))] [cellCh b1 [v2, (.int .i64 r19)] 66, ownCh elInt 3 v16 ([(w64 (r7.xLast + r14)), (w64 (r7.xLast - 1)), 1000000, 1000001]), cellCh b9 [(.int .i64 r7.xSize), (.int .i64 r7.xEvery), (.int .i64 r7.xTokens), (.int .i64 r7.xLast)] 25, cellCh b5 [(.int .i64 0), (.int .i64 0), (.int .i64 0), (.int .i64 0)] 25, roCh elU8 v2 r_0_b] (idxW ([(w64 (r7.xLast + r14)), (w64 (r7.xLast - 1)), 1000000, 1000001]) e20 (fun e22 => k13 (r19, e22))) := by
      intro r14 r15 v16 v17 r18 r19 e20 h21
      refine d_two (i := 15) (j := 17) rfl rfl (by kernel_rfl) ?_ ?_
      · intro o ho; cases ho
        refine o_idx m_op 1 rfl reads_own rfl rfl rfl el41 ?_; intro e22 h23
        refine d_and (fun w m => m.pick [2, 4] rfl) ?_
        refine pk [0, 1, 2, 3, 4] rfl ?_
        refine re (E' := [(2, (.pointer (some ⟨b5, 0, none⟩))), (3, (.int .i64 0)), (7, (.agg #[(.int .i64 r7.xSize), (.int .i64 r7.xEvery), (.int .i64 r7.xTokens), (.int .i64 r7.xLast)])), (22, (pEl v16 e20 1 0))]) ⟨rfl, rfl, rfl, rfl, trivial⟩ ?_
        exact H144 r14 r15 v16 v17 r18 r19 e20 h21 e22 h23
      · intro o ho; cases ho
        refine o_stc (cs' := [(.int .i64 r7.xSize), (.int .i64 r7.xEvery), (.int .i64 r7.xTokens), (.int .i64 r7.xLast)]) 3 rfl rfl rfl ty25 rfl rfl rfl rfl ?_
        refine d_and (fun w m => m.pick [2, 4] rfl) ?_
        refine pk [0, 1, 2, 3, 4] rfl ?_
        refine re (E' := [(2, (.pointer (some ⟨b5, 0, none⟩))), (3, (.int .i64 0)), (16, v16), (21, (.int .i64 e20))]) ⟨rfl, rfl, rfl, rfl, trivial⟩ ?_
        exact H145 r14 r15 v16 v17 r18 r19 e20 h21
    have H147 : ∀ (r14 : Int) (r15 : Int) (v16 : Value) (v17 : Value) (r18 : Int) (r19 : Int) (e20 : Int) (h21 : ([0, 0, 0, 0, 0, 1, 2, 3])[(r18).toNat]? = some e20), Nx 24 (fun _ => True) (feet [cellCh b1 [v2, (.int .i64 r_0_p)] 66]) w0 (wpAnyH Try.prog .any (opsAt Try.f46 [1, 1, 0]) Qd (Mem (fun _ => True) (feet [cellCh b1 [v2, (.int .i64 r_0_p)] 66]) w0 [cellCh b9 [(.int .i64 r7.xSize), (.int .i64 r7.xEvery), (.int .i64 r7.xTokens), (.int .i64 r7.xLast)] 25, roCh elU8 v2 r_0_b]) 4 #[true, true, true, true, true, true, true, true, true, true, true, true, true, true, false, false, false, true, false]) [(2, (.pointer (some ⟨b5, 0, none⟩))), (3, (.int .i64 0)), (16, v16), (20, (pEl v17 r18 1 0))] [cellCh b1 [v2, (.int .i64 r19)] 66, ownCh elInt 3 v17 ([0, 0, 0, 0, 0, 1, 2, 3]), ownCh elInt 3 v16 ([(w64 (r7.xLast + r14)), (w64 (r7.xLast - 1)), 1000000, 1000001]), cellCh b9 [(.int .i64 r7.xSize), (.int .i64 r7.xEvery), (.int .i64 r7.xTokens), (.int .i64 r7.xLast)] 25, cellCh b5 [(.int .i64 r7.xSize), (.int .i64 r7.xEvery), (.int .i64 r7.xTokens), (.int .i64 r7.xLast)] 25, roCh elU8 v2 r_0_b] (idxW ([(w64 (r7.xLast + r14)), (w64 (r7.xLast - 1)), 1000000, 1000001]) e20 (fun e24 => k13 (r19, e24))) := by
      intro r14 r15 v16 v17 r18 r19 e20 h21
      refine d_one (i := 14) rfl (by kernel_rfl) (o_lds m_op (enc := encInt) (u := (.int .i64 e20)) 1 rfl reads_own flelInt rfl h21 rfl rfl ty3 rfl ?_)
      refine d_and (fun w m => m.pick [3, 5] rfl) ?_
      refine pk [0, 2, 3, 4, 5] rfl ?_
      refine re (E' := [(2, (.pointer (some ⟨b5, 0, none⟩))), (3, (.int .i64 0)), (16, v16), (21, (.int .i64 e20))]) ⟨rfl, rfl, rfl, rfl, trivial⟩ ?_
      exact H145 r14 r15 v16 v17 r18 r19 e20 h21
    have H148 : ∀ (r14 : Int) (r15 : Int) (v16 : Value) (v17 : Value) (r18 : Int) (r19 : Int) (e20 : Int) (h21 : ([0, 0, 0, 0, 0, 1, 2, 3])[(r18).toNat]? = some e20), Nx 24 (fun _ => True) (feet [cellCh b1 [v2, (.int .i64 r_0_p)] 66]) w0 (wpAnyH Try.prog .any (opsAt Try.f46 [1, 1, 0]) Qd (Mem (fun _ => True) (feet [cellCh b1 [v2, (.int .i64 r_0_p)] 66]) w0 [cellCh b9 [(.int .i64 r7.xSize), (.int .i64 r7.xEvery), (.int .i64 r7.xTokens), (.int .i64 r7.xLast)] 25, roCh elU8 v2 r_0_b]) 5 #[true, true, true, true, true, true, true, true, true, true, true, true, true, true, false, false, false, false, false]) [(2, (.pointer (some ⟨b5, 0, none⟩))), (3, (.int .i64 0)), (7, (.agg #[(.int .i64 r7.xSize), (.int .i64 r7.xEvery), (.int .i64 r7.xTokens), (.int .i64 r7.xLast)])), (16, v16), (20, (pEl v17 r18 1 0))] [cellCh b1 [v2, (.int .i64 r19)] 66, ownCh elInt 3 v17 ([0, 0, 0, 0, 0, 1, 2, 3]), ownCh elInt 3 v16 ([(w64 (r7.xLast + r14)), (w64 (r7.xLast - 1)), 1000000, 1000001]), cellCh b9 [(.int .i64 r7.xSize), (.int .i64 r7.xEvery), (.int .i64 r7.xTokens), (.int .i64 r7.xLast)] 25, cellCh b5 [(.int .i64 0), (.int .i64 0), (.int .i64 0), (.int .i64 0)] 25, roCh elU8 v2 r_0_b] (idxW ([(w64 (r7.xLast + r14)), (w64 (r7.xLast - 1)), 1000000, 1000001]) e20 (fun e22 => k13 (r19, e22))) := by
      intro r14 r15 v16 v17 r18 r19 e20 h21
      refine d_two (i := 14) (j := 17) rfl rfl (by kernel_rfl) ?_ ?_
      · intro o ho; cases ho
        refine o_lds m_op (enc := encInt) (u := (.int .i64 e20)) 1 rfl reads_own flelInt rfl h21 rfl rfl ty3 rfl ?_
        refine d_and (fun w m => m.pick [3, 5] rfl) ?_
        refine pk [0, 2, 3, 4, 5] rfl ?_
        refine re (E' := [(2, (.pointer (some ⟨b5, 0, none⟩))), (3, (.int .i64 0)), (7, (.agg #[(.int .i64 r7.xSize), (.int .i64 r7.xEvery), (.int .i64 r7.xTokens), (.int .i64 r7.xLast)])), (16, v16), (21, (.int .i64 e20))]) ⟨rfl, rfl, rfl, rfl, rfl, trivial⟩ ?_
        exact H146 r14 r15 v16 v17 r18 r19 e20 h21
      · intro o ho; cases ho
        refine o_stc (cs' := [(.int .i64 r7.xSize), (.int .i64 r7.xEvery), (.int .i64 r7.xTokens), (.int .i64 r7.xLast)]) 4 rfl rfl rfl ty25 rfl rfl rfl rfl ?_
        refine d_and (fun w m => m.pick [3, 5] rfl) ?_
        refine pk [0, 1, 2, 3, 4, 5] rfl ?_
        refine re (E' := [(2, (.pointer (some ⟨b5, 0, none⟩))), (3, (.int .i64 0)), (16, v16), (20, (pEl v17 r18 1 0))]) ⟨rfl, rfl, rfl, rfl, trivial⟩ ?_
        exact H147 r14 r15 v16 v17 r18 r19 e20 h21
    have H149 : ∀ (r14 : Int) (r15 : Int) (v16 : Value) (v17 : Value) (r18 : Int) (r19 : Int), Nx 24 (fun _ => True) (feet [cellCh b1 [v2, (.int .i64 r_0_p)] 66]) w0 (wpAnyH Try.prog .any (opsAt Try.f46 [1, 1, 0]) Qd (Mem (fun _ => True) (feet [cellCh b1 [v2, (.int .i64 r_0_p)] 66]) w0 [cellCh b9 [(.int .i64 r7.xSize), (.int .i64 r7.xEvery), (.int .i64 r7.xTokens), (.int .i64 r7.xLast)] 25, roCh elU8 v2 r_0_b]) 5 #[true, true, true, true, true, true, true, true, true, true, true, true, true, false, false, false, false, true, false]) [(2, (.pointer (some ⟨b5, 0, none⟩))), (3, (.int .i64 0)), (16, v16), (17, v17), (19, (.int .i64 r18))] [cellCh b1 [v2, (.int .i64 r19)] 66, ownCh elInt 3 v17 ([0, 0, 0, 0, 0, 1, 2, 3]), ownCh elInt 3 v16 ([(w64 (r7.xLast + r14)), (w64 (r7.xLast - 1)), 1000000, 1000001]), cellCh b9 [(.int .i64 r7.xSize), (.int .i64 r7.xEvery), (.int .i64 r7.xTokens), (.int .i64 r7.xLast)] 25, cellCh b5 [(.int .i64 r7.xSize), (.int .i64 r7.xEvery), (.int .i64 r7.xTokens), (.int .i64 r7.xLast)] 25, roCh elU8 v2 r_0_b] (idxW ([0, 0, 0, 0, 0, 1, 2, 3]) r18 (fun e26 => idxW ([(w64 (r7.xLast + r14)), (w64 (r7.xLast - 1)), 1000000, 1000001]) e26 (fun e24 => k13 (r19, e24)))) := by
      intro r14 r15 v16 v17 r18 r19
      refine d_one (i := 13) rfl (by kernel_rfl) (o_idx m_op 1 rfl reads_own rfl rfl rfl el41 ?_); intro e26 h27
      refine d_and (fun w m => m.pick [3, 5] rfl) ?_
      refine pk [0, 1, 2, 3, 4, 5] rfl ?_
      refine re (E' := [(2, (.pointer (some ⟨b5, 0, none⟩))), (3, (.int .i64 0)), (16, v16), (20, (pEl v17 r18 1 0))]) ⟨rfl, rfl, rfl, rfl, trivial⟩ ?_
      exact H147 r14 r15 v16 v17 r18 r19 e26 h27
    have H150 : ∀ (r14 : Int) (r15 : Int) (v16 : Value) (v17 : Value) (r18 : Int) (r19 : Int), Nx 24 (fun _ => True) (feet [cellCh b1 [v2, (.int .i64 r_0_p)] 66]) w0 (wpAnyH Try.prog .any (opsAt Try.f46 [1, 1, 0]) Qd (Mem (fun _ => True) (feet [cellCh b1 [v2, (.int .i64 r_0_p)] 66]) w0 [cellCh b9 [(.int .i64 r7.xSize), (.int .i64 r7.xEvery), (.int .i64 r7.xTokens), (.int .i64 r7.xLast)] 25, roCh elU8 v2 r_0_b]) 6 #[true, true, true, true, true, true, true, true, true, true, true, true, true, false, false, false, false, false, false]) [(2, (.pointer (some ⟨b5, 0, none⟩))), (3, (.int .i64 0)), (7, (.agg #[(.int .i64 r7.xSize), (.int .i64 r7.xEvery), (.int .i64 r7.xTokens), (.int .i64 r7.xLast)])), (16, v16), (17, v17), (19, (.int .i64 r18))] [cellCh b1 [v2, (.int .i64 r19)] 66, ownCh elInt 3 v17 ([0, 0, 0, 0, 0, 1, 2, 3]), ownCh elInt 3 v16 ([(w64 (r7.xLast + r14)), (w64 (r7.xLast - 1)), 1000000, 1000001]), cellCh b9 [(.int .i64 r7.xSize), (.int .i64 r7.xEvery), (.int .i64 r7.xTokens), (.int .i64 r7.xLast)] 25, cellCh b5 [(.int .i64 0), (.int .i64 0), (.int .i64 0), (.int .i64 0)] 25, roCh elU8 v2 r_0_b] (idxW ([0, 0, 0, 0, 0, 1, 2, 3]) r18 (fun e20 => idxW ([(w64 (r7.xLast + r14)), (w64 (r7.xLast - 1)), 1000000, 1000001]) e20 (fun e22 => k13 (r19, e22)))) := by
      intro r14 r15 v16 v17 r18 r19
      refine d_two (i := 13) (j := 17) rfl rfl (by kernel_rfl) ?_ ?_
      · intro o ho; cases ho
        refine o_idx m_op 1 rfl reads_own rfl rfl rfl el41 ?_; intro e20 h21
        refine d_and (fun w m => m.pick [3, 5] rfl) ?_
        refine pk [0, 1, 2, 3, 4, 5] rfl ?_
        refine re (E' := [(2, (.pointer (some ⟨b5, 0, none⟩))), (3, (.int .i64 0)), (7, (.agg #[(.int .i64 r7.xSize), (.int .i64 r7.xEvery), (.int .i64 r7.xTokens), (.int .i64 r7.xLast)])), (16, v16), (20, (pEl v17 r18 1 0))]) ⟨rfl, rfl, rfl, rfl, rfl, trivial⟩ ?_
        exact H148 r14 r15 v16 v17 r18 r19 e20 h21
      · intro o ho; cases ho
        refine o_stc (cs' := [(.int .i64 r7.xSize), (.int .i64 r7.xEvery), (.int .i64 r7.xTokens), (.int .i64 r7.xLast)]) 4 rfl rfl rfl ty25 rfl rfl rfl rfl ?_
        refine d_and (fun w m => m.pick [3, 5] rfl) ?_
        refine pk [0, 1, 2, 3, 4, 5] rfl ?_
        refine re (E' := [(2, (.pointer (some ⟨b5, 0, none⟩))), (3, (.int .i64 0)), (16, v16), (17, v17), (19, (.int .i64 r18))]) ⟨rfl, rfl, rfl, rfl, rfl, trivial⟩ ?_
        exact H149 r14 r15 v16 v17 r18 r19
    have H151 : ∀ (r14 : Int) (r15 : Int) (v16 : Value) (v17 : Value), Nx 24 (fun _ => True) (feet [cellCh b1 [v2, (.int .i64 r_0_p)] 66]) w0 (wpAnyH Try.prog .any (opsAt Try.f46 [1, 1, 0]) Qd (Mem (fun _ => True) (feet [cellCh b1 [v2, (.int .i64 r_0_p)] 66]) w0 [cellCh b9 [(.int .i64 r7.xSize), (.int .i64 r7.xEvery), (.int .i64 r7.xTokens), (.int .i64 r7.xLast)] 25, roCh elU8 v2 r_0_b]) 7 #[true, true, true, true, true, true, true, true, true, true, true, true, false, false, false, false, false, false, false]) [(2, (.pointer (some ⟨b5, 0, none⟩))), (3, (.int .i64 0)), (7, (.agg #[(.int .i64 r7.xSize), (.int .i64 r7.xEvery), (.int .i64 r7.xTokens), (.int .i64 r7.xLast)])), (18, (.pointer (some ⟨b1, 0, none⟩))), (16, v16), (17, v17)] [ownCh elInt 3 v17 ([0, 0, 0, 0, 0, 1, 2, 3]), ownCh elInt 3 v16 ([(w64 (r7.xLast + r14)), (w64 (r7.xLast - 1)), 1000000, 1000001]), cellCh b1 [v2, (.int .i64 r15)] 66, cellCh b9 [(.int .i64 r7.xSize), (.int .i64 r7.xEvery), (.int .i64 r7.xTokens), (.int .i64 r7.xLast)] 25, cellCh b5 [(.int .i64 0), (.int .i64 0), (.int .i64 0), (.int .i64 0)] 25, roCh elU8 v2 r_0_b] (L_spec_l20Rd_pick r_0_b r15 8 (fun (r18, r19) => idxW ([0, 0, 0, 0, 0, 1, 2, 3]) r18 (fun e20 => idxW ([(w64 (r7.xLast + r14)), (w64 (r7.xLast - 1)), 1000000, 1000001]) e20 (fun e22 => k13 (r19, e22))))) := by
      intro r14 r15 v16 v17
      refine pk [2, 0, 1, 3, 4, 5] rfl ?_
      refine d_one (i := 12) rfl (by kernel_rfl) (o_call (vs := [(.pointer (some ⟨b1, 0, none⟩)), (.int .i64 8)]) (M0 := [cellCh b1 [v2, (.int .i64 r15)] 66]) Try.call47 rfl rfl (by intro w m h; exact w_spec_l20Rd_pick (r_0_b := r_0_b) (r_0_p := r15) (n_1 := 8) m.given (m.rdM 4 rfl reads_ro) h) ?_); rintro ⟨r18, r19⟩ _
      refine d_and (fun w m => m.pick [3, 5] rfl) ?_
      refine pk [0, 1, 2, 3, 4, 5] rfl ?_
      refine re (E' := [(2, (.pointer (some ⟨b5, 0, none⟩))), (3, (.int .i64 0)), (7, (.agg #[(.int .i64 r7.xSize), (.int .i64 r7.xEvery), (.int .i64 r7.xTokens), (.int .i64 r7.xLast)])), (16, v16), (17, v17), (19, (.int .i64 r18))]) ⟨rfl, rfl, rfl, rfl, rfl, rfl, trivial⟩ ?_
      exact H150 r14 r15 v16 v17 r18 r19
    have H152 : ∀ (r14 : Int) (r15 : Int) (v16 : Value) (r28 : Int) (r29 : Int), Nx 24 (fun _ => True) (feet [cellCh b1 [v2, (.int .i64 r_0_p)] 66]) w0 (wpAnyH Try.prog .any (opsAt Try.f46 [1, 1, 0]) Qd (Mem (fun _ => True) (feet [cellCh b1 [v2, (.int .i64 r_0_p)] 66]) w0 [cellCh b9 [(.int .i64 r7.xSize), (.int .i64 r7.xEvery), (.int .i64 r7.xTokens), (.int .i64 r7.xLast)] 25, roCh elU8 v2 r_0_b]) 6 #[true, true, true, true, true, true, true, true, true, true, false, true, true, false, false, false, false, true, false]) [(2, (.pointer (some ⟨b5, 0, none⟩))), (3, (.int .i64 0)), (16, v16), (19, (.int .i64 r28))] [cellCh b1 [v2, (.int .i64 r29)] 66, ownCh elInt 3 v16 ([(w64 (r7.xLast + r14)), (w64 (r7.xLast - 1)), 1000000, 1000001]), cellCh b9 [(.int .i64 r7.xSize), (.int .i64 r7.xEvery), (.int .i64 r7.xTokens), (.int .i64 r7.xLast)] 25, cellCh b5 [(.int .i64 r7.xSize), (.int .i64 r7.xEvery), (.int .i64 r7.xTokens), (.int .i64 r7.xLast)] 25, roCh elU8 v2 r_0_b] (idxW ([0, 0, 0, 0, 0, 1, 2, 3]) r28 (fun e26 => idxW ([(w64 (r7.xLast + r14)), (w64 (r7.xLast - 1)), 1000000, 1000001]) e26 (fun e24 => k13 (r29, e24)))) := by
      intro r14 r15 v16 r28 r29
      refine d_one (i := 10) rfl (by kernel_rfl) (o_bsl (enc := encInt) (qs := [(0, (.int .i64 0)), (1, (.int .i64 0)), (2, (.int .i64 0)), (3, (.int .i64 0)), (4, (.int .i64 0)), (5, (.int .i64 1)), (6, (.int .i64 2)), (7, (.int .i64 3))]) (cells := [(.int .i64 0), (.int .i64 0), (.int .i64 0), (.int .i64 0), (.int .i64 0), (.int .i64 1), (.int .i64 2), (.int .i64 3)]) ([0, 0, 0, 0, 0, 1, 2, 3]) flelInt (by intro ρ h; simp only [List.map_toArray, List.map_cons, List.map_nil, h (.const (.int .i64 0)) _ rfl, h (.const (.int .i64 0)) _ rfl, h (.const (.int .i64 0)) _ rfl, h (.const (.int .i64 0)) _ rfl, h (.const (.int .i64 0)) _ rfl, h (.const (.int .i64 1)) _ rfl, h (.const (.int .i64 2)) _ rfl, h (.const (.int .i64 3)) _ rfl]) rfl el41 zero3 rfl rfl rfl rfl rfl rfl ?_); intro v31
      refine d_and (fun w m => m.pick [3, 5] rfl) ?_
      refine pk [1, 0, 2, 3, 4, 5] rfl ?_
      refine re (E' := [(2, (.pointer (some ⟨b5, 0, none⟩))), (3, (.int .i64 0)), (16, v16), (17, v31), (19, (.int .i64 r28))]) ⟨rfl, rfl, rfl, rfl, rfl, trivial⟩ ?_
      exact H149 r14 r15 v16 v31 r28 r29
    have H153 : ∀ (r14 : Int) (r15 : Int) (v16 : Value) (r28 : Int) (r29 : Int), Nx 24 (fun _ => True) (feet [cellCh b1 [v2, (.int .i64 r_0_p)] 66]) w0 (wpAnyH Try.prog .any (opsAt Try.f46 [1, 1, 0]) Qd (Mem (fun _ => True) (feet [cellCh b1 [v2, (.int .i64 r_0_p)] 66]) w0 [cellCh b9 [(.int .i64 r7.xSize), (.int .i64 r7.xEvery), (.int .i64 r7.xTokens), (.int .i64 r7.xLast)] 25, roCh elU8 v2 r_0_b]) 7 #[true, true, true, true, true, true, true, true, true, true, false, true, true, false, false, false, false, false, false]) [(2, (.pointer (some ⟨b5, 0, none⟩))), (3, (.int .i64 0)), (7, (.agg #[(.int .i64 r7.xSize), (.int .i64 r7.xEvery), (.int .i64 r7.xTokens), (.int .i64 r7.xLast)])), (16, v16), (19, (.int .i64 r28))] [cellCh b1 [v2, (.int .i64 r29)] 66, ownCh elInt 3 v16 ([(w64 (r7.xLast + r14)), (w64 (r7.xLast - 1)), 1000000, 1000001]), cellCh b9 [(.int .i64 r7.xSize), (.int .i64 r7.xEvery), (.int .i64 r7.xTokens), (.int .i64 r7.xLast)] 25, cellCh b5 [(.int .i64 0), (.int .i64 0), (.int .i64 0), (.int .i64 0)] 25, roCh elU8 v2 r_0_b] (idxW ([0, 0, 0, 0, 0, 1, 2, 3]) r28 (fun e20 => idxW ([(w64 (r7.xLast + r14)), (w64 (r7.xLast - 1)), 1000000, 1000001]) e20 (fun e22 => k13 (r29, e22)))) := by
      intro r14 r15 v16 r28 r29
      refine d_two (i := 10) (j := 17) rfl rfl (by kernel_rfl) ?_ ?_
      · intro o ho; cases ho
        refine o_bsl (enc := encInt) (qs := [(0, (.int .i64 0)), (1, (.int .i64 0)), (2, (.int .i64 0)), (3, (.int .i64 0)), (4, (.int .i64 0)), (5, (.int .i64 1)), (6, (.int .i64 2)), (7, (.int .i64 3))]) (cells := [(.int .i64 0), (.int .i64 0), (.int .i64 0), (.int .i64 0), (.int .i64 0), (.int .i64 1), (.int .i64 2), (.int .i64 3)]) ([0, 0, 0, 0, 0, 1, 2, 3]) flelInt (by intro ρ h; simp only [List.map_toArray, List.map_cons, List.map_nil, h (.const (.int .i64 0)) _ rfl, h (.const (.int .i64 0)) _ rfl, h (.const (.int .i64 0)) _ rfl, h (.const (.int .i64 0)) _ rfl, h (.const (.int .i64 0)) _ rfl, h (.const (.int .i64 1)) _ rfl, h (.const (.int .i64 2)) _ rfl, h (.const (.int .i64 3)) _ rfl]) rfl el41 zero3 rfl rfl rfl rfl rfl rfl ?_; intro v30
        refine d_and (fun w m => m.pick [3, 5] rfl) ?_
        refine pk [1, 0, 2, 3, 4, 5] rfl ?_
        refine re (E' := [(2, (.pointer (some ⟨b5, 0, none⟩))), (3, (.int .i64 0)), (7, (.agg #[(.int .i64 r7.xSize), (.int .i64 r7.xEvery), (.int .i64 r7.xTokens), (.int .i64 r7.xLast)])), (16, v16), (17, v30), (19, (.int .i64 r28))]) ⟨rfl, rfl, rfl, rfl, rfl, rfl, trivial⟩ ?_
        exact H150 r14 r15 v16 v30 r28 r29
      · intro o ho; cases ho
        refine o_stc (cs' := [(.int .i64 r7.xSize), (.int .i64 r7.xEvery), (.int .i64 r7.xTokens), (.int .i64 r7.xLast)]) 3 rfl rfl rfl ty25 rfl rfl rfl rfl ?_
        refine d_and (fun w m => m.pick [2, 4] rfl) ?_
        refine pk [0, 1, 2, 3, 4] rfl ?_
        refine re (E' := [(2, (.pointer (some ⟨b5, 0, none⟩))), (3, (.int .i64 0)), (16, v16), (19, (.int .i64 r28))]) ⟨rfl, rfl, rfl, rfl, trivial⟩ ?_
        exact H152 r14 r15 v16 r28 r29
    have H154 : ∀ (r14 : Int) (r15 : Int) (v16 : Value), Nx 24 (fun _ => True) (feet [cellCh b1 [v2, (.int .i64 r_0_p)] 66]) w0 (wpAnyH Try.prog .any (opsAt Try.f46 [1, 1, 0]) Qd (Mem (fun _ => True) (feet [cellCh b1 [v2, (.int .i64 r_0_p)] 66]) w0 [cellCh b9 [(.int .i64 r7.xSize), (.int .i64 r7.xEvery), (.int .i64 r7.xTokens), (.int .i64 r7.xLast)] 25, roCh elU8 v2 r_0_b]) 8 #[true, true, true, true, true, true, true, true, true, true, false, true, false, false, false, false, false, false, false]) [(2, (.pointer (some ⟨b5, 0, none⟩))), (3, (.int .i64 0)), (7, (.agg #[(.int .i64 r7.xSize), (.int .i64 r7.xEvery), (.int .i64 r7.xTokens), (.int .i64 r7.xLast)])), (18, (.pointer (some ⟨b1, 0, none⟩))), (16, v16)] [ownCh elInt 3 v16 ([(w64 (r7.xLast + r14)), (w64 (r7.xLast - 1)), 1000000, 1000001]), cellCh b1 [v2, (.int .i64 r15)] 66, cellCh b9 [(.int .i64 r7.xSize), (.int .i64 r7.xEvery), (.int .i64 r7.xTokens), (.int .i64 r7.xLast)] 25, cellCh b5 [(.int .i64 0), (.int .i64 0), (.int .i64 0), (.int .i64 0)] 25, roCh elU8 v2 r_0_b] (L_spec_l20Rd_pick r_0_b r15 8 (fun (r18, r19) => idxW ([0, 0, 0, 0, 0, 1, 2, 3]) r18 (fun e20 => idxW ([(w64 (r7.xLast + r14)), (w64 (r7.xLast - 1)), 1000000, 1000001]) e20 (fun e22 => k13 (r19, e22))))) := by
      intro r14 r15 v16
      refine d_two (i := 10) (j := 12) rfl rfl (by kernel_rfl) ?_ ?_
      · intro o ho; cases ho
        refine o_bsl (enc := encInt) (qs := [(0, (.int .i64 0)), (1, (.int .i64 0)), (2, (.int .i64 0)), (3, (.int .i64 0)), (4, (.int .i64 0)), (5, (.int .i64 1)), (6, (.int .i64 2)), (7, (.int .i64 3))]) (cells := [(.int .i64 0), (.int .i64 0), (.int .i64 0), (.int .i64 0), (.int .i64 0), (.int .i64 1), (.int .i64 2), (.int .i64 3)]) ([0, 0, 0, 0, 0, 1, 2, 3]) flelInt (by intro ρ h; simp only [List.map_toArray, List.map_cons, List.map_nil, h (.const (.int .i64 0)) _ rfl, h (.const (.int .i64 0)) _ rfl, h (.const (.int .i64 0)) _ rfl, h (.const (.int .i64 0)) _ rfl, h (.const (.int .i64 0)) _ rfl, h (.const (.int .i64 1)) _ rfl, h (.const (.int .i64 2)) _ rfl, h (.const (.int .i64 3)) _ rfl]) rfl el41 zero3 rfl rfl rfl rfl rfl rfl ?_; intro v17
        refine d_and (fun w m => m.pick [3, 5] rfl) ?_
        refine pk [0, 1, 2, 3, 4, 5] rfl ?_
        refine re (E' := [(2, (.pointer (some ⟨b5, 0, none⟩))), (3, (.int .i64 0)), (7, (.agg #[(.int .i64 r7.xSize), (.int .i64 r7.xEvery), (.int .i64 r7.xTokens), (.int .i64 r7.xLast)])), (18, (.pointer (some ⟨b1, 0, none⟩))), (16, v16), (17, v17)]) ⟨rfl, rfl, rfl, rfl, rfl, rfl, trivial⟩ ?_
        exact H151 r14 r15 v16 v17
      · intro o ho; cases ho
        refine pk [1, 0, 2, 3, 4] rfl ?_
        refine o_call (vs := [(.pointer (some ⟨b1, 0, none⟩)), (.int .i64 8)]) (M0 := [cellCh b1 [v2, (.int .i64 r15)] 66]) Try.call47 rfl rfl (by intro w m h; exact w_spec_l20Rd_pick (r_0_b := r_0_b) (r_0_p := r15) (n_1 := 8) m.given (m.rdM 3 rfl reads_ro) h) ?_; rintro ⟨r28, r29⟩ _
        refine d_and (fun w m => m.pick [2, 4] rfl) ?_
        refine pk [0, 1, 2, 3, 4] rfl ?_
        refine re (E' := [(2, (.pointer (some ⟨b5, 0, none⟩))), (3, (.int .i64 0)), (7, (.agg #[(.int .i64 r7.xSize), (.int .i64 r7.xEvery), (.int .i64 r7.xTokens), (.int .i64 r7.xLast)])), (16, v16), (19, (.int .i64 r28))]) ⟨rfl, rfl, rfl, rfl, rfl, trivial⟩ ?_
        exact H153 r14 r15 v16 r28 r29
    have H155 : ∀ (r14 : Int) (r15 : Int) (v32 : Value) (r34 : Int) (r35 : Int) (e37 : Int) (h38 : ([0, 0, 0, 0, 0, 1, 2, 3])[(r34).toNat]? = some e37), Nx 24 (fun _ => True) (feet [cellCh b1 [v2, (.int .i64 r_0_p)] 66]) w0 (wpAnyH Try.prog .any (opsAt Try.f46 [1, 1, 0]) Qd (Mem (fun _ => True) (feet [cellCh b1 [v2, (.int .i64 r_0_p)] 66]) w0 [cellCh b9 [(.int .i64 r7.xSize), (.int .i64 r7.xEvery), (.int .i64 r7.xTokens), (.int .i64 r7.xLast)] 25, roCh elU8 v2 r_0_b]) 4 #[true, true, true, true, true, true, true, true, true, false, true, true, true, true, true, false, false, true, false]) [(2, (.pointer (some ⟨b5, 0, none⟩))), (3, (.int .i64 0)), (15, (.int .i64 (w64 (r7.xLast - 1)))), (12, (.int .i64 (w64 (r7.xLast + r14)))), (21, (.int .i64 e37))] [cellCh b1 [v2, (.int .i64 r35)] 66, cellCh b9 [(.int .i64 r7.xSize), (.int .i64 r7.xEvery), (.int .i64 r7.xTokens), (.int .i64 r7.xLast)] 25, cellCh b5 [(.int .i64 r7.xSize), (.int .i64 r7.xEvery), (.int .i64 r7.xTokens), (.int .i64 r7.xLast)] 25, roCh elU8 v2 r_0_b] (idxW ([(w64 (r7.xLast + r14)), (w64 (r7.xLast - 1)), 1000000, 1000001]) e37 (fun e24 => k13 (r35, e24))) := by
      intro r14 r15 v32 r34 r35 e37 h38
      refine d_one (i := 9) rfl (by kernel_rfl) (o_bsl (enc := encInt) (qs := [(0, (.int .i64 (w64 (r7.xLast + r14)))), (1, (.int .i64 (w64 (r7.xLast - 1)))), (2, (.int .i64 1000000)), (3, (.int .i64 1000001))]) (cells := [(.int .i64 (w64 (r7.xLast + r14))), (.int .i64 (w64 (r7.xLast - 1))), (.int .i64 1000000), (.int .i64 1000001)]) ([(w64 (r7.xLast + r14)), (w64 (r7.xLast - 1)), 1000000, 1000001]) flelInt (by intro ρ h; simp only [List.map_toArray, List.map_cons, List.map_nil, h (.tmp 12) _ rfl, h (.tmp 15) _ rfl, h (.const (.int .i64 1000000)) _ rfl, h (.const (.int .i64 1000001)) _ rfl]) rfl el41 zero3 rfl rfl rfl rfl rfl rfl ?_); intro v41
      refine d_and (fun w m => m.pick [2, 4] rfl) ?_
      refine pk [1, 0, 2, 3, 4] rfl ?_
      refine re (E' := [(2, (.pointer (some ⟨b5, 0, none⟩))), (3, (.int .i64 0)), (16, v41), (21, (.int .i64 e37))]) ⟨rfl, rfl, rfl, rfl, trivial⟩ ?_
      exact H145 r14 r15 v41 v32 r34 r35 e37 h38
    have H156 : ∀ (r14 : Int) (r15 : Int) (v32 : Value) (r34 : Int) (r35 : Int) (e37 : Int) (h38 : ([0, 0, 0, 0, 0, 1, 2, 3])[(r34).toNat]? = some e37), Nx 24 (fun _ => True) (feet [cellCh b1 [v2, (.int .i64 r_0_p)] 66]) w0 (wpAnyH Try.prog .any (opsAt Try.f46 [1, 1, 0]) Qd (Mem (fun _ => True) (feet [cellCh b1 [v2, (.int .i64 r_0_p)] 66]) w0 [cellCh b9 [(.int .i64 r7.xSize), (.int .i64 r7.xEvery), (.int .i64 r7.xTokens), (.int .i64 r7.xLast)] 25, roCh elU8 v2 r_0_b]) 5 #[true, true, true, true, true, true, true, true, true, false, true, true, true, true, true, false, false, false, false]) [(2, (.pointer (some ⟨b5, 0, none⟩))), (3, (.int .i64 0)), (7, (.agg #[(.int .i64 r7.xSize), (.int .i64 r7.xEvery), (.int .i64 r7.xTokens), (.int .i64 r7.xLast)])), (15, (.int .i64 (w64 (r7.xLast - 1)))), (12, (.int .i64 (w64 (r7.xLast + r14)))), (21, (.int .i64 e37))] [cellCh b1 [v2, (.int .i64 r35)] 66, cellCh b9 [(.int .i64 r7.xSize), (.int .i64 r7.xEvery), (.int .i64 r7.xTokens), (.int .i64 r7.xLast)] 25, cellCh b5 [(.int .i64 0), (.int .i64 0), (.int .i64 0), (.int .i64 0)] 25, roCh elU8 v2 r_0_b] (idxW ([(w64 (r7.xLast + r14)), (w64 (r7.xLast - 1)), 1000000, 1000001]) e37 (fun e22 => k13 (r35, e22))) := by
      intro r14 r15 v32 r34 r35 e37 h38
      refine d_two (i := 9) (j := 17) rfl rfl (by kernel_rfl) ?_ ?_
      · intro o ho; cases ho
        refine o_bsl (enc := encInt) (qs := [(0, (.int .i64 (w64 (r7.xLast + r14)))), (1, (.int .i64 (w64 (r7.xLast - 1)))), (2, (.int .i64 1000000)), (3, (.int .i64 1000001))]) (cells := [(.int .i64 (w64 (r7.xLast + r14))), (.int .i64 (w64 (r7.xLast - 1))), (.int .i64 1000000), (.int .i64 1000001)]) ([(w64 (r7.xLast + r14)), (w64 (r7.xLast - 1)), 1000000, 1000001]) flelInt (by intro ρ h; simp only [List.map_toArray, List.map_cons, List.map_nil, h (.tmp 12) _ rfl, h (.tmp 15) _ rfl, h (.const (.int .i64 1000000)) _ rfl, h (.const (.int .i64 1000001)) _ rfl]) rfl el41 zero3 rfl rfl rfl rfl rfl rfl ?_; intro v40
        refine d_and (fun w m => m.pick [2, 4] rfl) ?_
        refine pk [1, 0, 2, 3, 4] rfl ?_
        refine re (E' := [(2, (.pointer (some ⟨b5, 0, none⟩))), (3, (.int .i64 0)), (7, (.agg #[(.int .i64 r7.xSize), (.int .i64 r7.xEvery), (.int .i64 r7.xTokens), (.int .i64 r7.xLast)])), (16, v40), (21, (.int .i64 e37))]) ⟨rfl, rfl, rfl, rfl, rfl, trivial⟩ ?_
        exact H146 r14 r15 v40 v32 r34 r35 e37 h38
      · intro o ho; cases ho
        refine o_stc (cs' := [(.int .i64 r7.xSize), (.int .i64 r7.xEvery), (.int .i64 r7.xTokens), (.int .i64 r7.xLast)]) 2 rfl rfl rfl ty25 rfl rfl rfl rfl ?_
        refine d_and (fun w m => m.pick [1, 3] rfl) ?_
        refine pk [0, 1, 2, 3] rfl ?_
        refine re (E' := [(2, (.pointer (some ⟨b5, 0, none⟩))), (3, (.int .i64 0)), (15, (.int .i64 (w64 (r7.xLast - 1)))), (12, (.int .i64 (w64 (r7.xLast + r14)))), (21, (.int .i64 e37))]) ⟨rfl, rfl, rfl, rfl, rfl, trivial⟩ ?_
        exact H155 r14 r15 v32 r34 r35 e37 h38
    have H157 : ∀ (r14 : Int) (r15 : Int) (v32 : Value) (r34 : Int) (r35 : Int) (e37 : Int) (h38 : ([0, 0, 0, 0, 0, 1, 2, 3])[(r34).toNat]? = some e37), Nx 24 (fun _ => True) (feet [cellCh b1 [v2, (.int .i64 r_0_p)] 66]) w0 (wpAnyH Try.prog .any (opsAt Try.f46 [1, 1, 0]) Qd (Mem (fun _ => True) (feet [cellCh b1 [v2, (.int .i64 r_0_p)] 66]) w0 [cellCh b9 [(.int .i64 r7.xSize), (.int .i64 r7.xEvery), (.int .i64 r7.xTokens), (.int .i64 r7.xLast)] 25, roCh elU8 v2 r_0_b]) 5 #[true, true, true, true, true, true, true, true, true, false, true, true, true, true, false, false, false, true, false]) [(2, (.pointer (some ⟨b5, 0, none⟩))), (3, (.int .i64 0)), (15, (.int .i64 (w64 (r7.xLast - 1)))), (12, (.int .i64 (w64 (r7.xLast + r14)))), (20, (pEl v32 r34 1 0))] [cellCh b1 [v2, (.int .i64 r35)] 66, ownCh elInt 3 v32 ([0, 0, 0, 0, 0, 1, 2, 3]), cellCh b9 [(.int .i64 r7.xSize), (.int .i64 r7.xEvery), (.int .i64 r7.xTokens), (.int .i64 r7.xLast)] 25, cellCh b5 [(.int .i64 r7.xSize), (.int .i64 r7.xEvery), (.int .i64 r7.xTokens), (.int .i64 r7.xLast)] 25, roCh elU8 v2 r_0_b] (idxW ([(w64 (r7.xLast + r14)), (w64 (r7.xLast - 1)), 1000000, 1000001]) e37 (fun e24 => k13 (r35, e24))) := by
      intro r14 r15 v32 r34 r35 e37 h38
      refine d_two (i := 9) (j := 14) rfl rfl (by kernel_rfl) ?_ ?_
      · intro o ho; cases ho
        refine o_bsl (enc := encInt) (qs := [(0, (.int .i64 (w64 (r7.xLast + r14)))), (1, (.int .i64 (w64 (r7.xLast - 1)))), (2, (.int .i64 1000000)), (3, (.int .i64 1000001))]) (cells := [(.int .i64 (w64 (r7.xLast + r14))), (.int .i64 (w64 (r7.xLast - 1))), (.int .i64 1000000), (.int .i64 1000001)]) ([(w64 (r7.xLast + r14)), (w64 (r7.xLast - 1)), 1000000, 1000001]) flelInt (by intro ρ h; simp only [List.map_toArray, List.map_cons, List.map_nil, h (.tmp 12) _ rfl, h (.tmp 15) _ rfl, h (.const (.int .i64 1000000)) _ rfl, h (.const (.int .i64 1000001)) _ rfl]) rfl el41 zero3 rfl rfl rfl rfl rfl rfl ?_; intro v42
        refine d_and (fun w m => m.pick [3, 5] rfl) ?_
        refine pk [1, 2, 0, 3, 4, 5] rfl ?_
        refine re (E' := [(2, (.pointer (some ⟨b5, 0, none⟩))), (3, (.int .i64 0)), (16, v42), (20, (pEl v32 r34 1 0))]) ⟨rfl, rfl, rfl, rfl, trivial⟩ ?_
        exact H147 r14 r15 v42 v32 r34 r35 e37 h38
      · intro o ho; cases ho
        refine o_lds m_op (enc := encInt) (u := (.int .i64 e37)) 1 rfl reads_own flelInt rfl h38 rfl rfl ty3 rfl ?_
        refine d_and (fun w m => m.pick [2, 4] rfl) ?_
        refine pk [0, 2, 3, 4] rfl ?_
        refine re (E' := [(2, (.pointer (some ⟨b5, 0, none⟩))), (3, (.int .i64 0)), (15, (.int .i64 (w64 (r7.xLast - 1)))), (12, (.int .i64 (w64 (r7.xLast + r14)))), (21, (.int .i64 e37))]) ⟨rfl, rfl, rfl, rfl, rfl, trivial⟩ ?_
        exact H155 r14 r15 v32 r34 r35 e37 h38
    have H158 : ∀ (r14 : Int) (r15 : Int) (v32 : Value) (r34 : Int) (r35 : Int) (e37 : Int) (h38 : ([0, 0, 0, 0, 0, 1, 2, 3])[(r34).toNat]? = some e37), Nx 24 (fun _ => True) (feet [cellCh b1 [v2, (.int .i64 r_0_p)] 66]) w0 (wpAnyH Try.prog .any (opsAt Try.f46 [1, 1, 0]) Qd (Mem (fun _ => True) (feet [cellCh b1 [v2, (.int .i64 r_0_p)] 66]) w0 [cellCh b9 [(.int .i64 r7.xSize), (.int .i64 r7.xEvery), (.int .i64 r7.xTokens), (.int .i64 r7.xLast)] 25, roCh elU8 v2 r_0_b]) 6 #[true, true, true, true, true, true, true, true, true, false, true, true, true, true, false, false, false, false, false]) [(2, (.pointer (some ⟨b5, 0, none⟩))), (3, (.int .i64 0)), (7, (.agg #[(.int .i64 r7.xSize), (.int .i64 r7.xEvery), (.int .i64 r7.xTokens), (.int .i64 r7.xLast)])), (15, (.int .i64 (w64 (r7.xLast - 1)))), (12, (.int .i64 (w64 (r7.xLast + r14)))), (20, (pEl v32 r34 1 0))] [cellCh b1 [v2, (.int .i64 r35)] 66, ownCh elInt 3 v32 ([0, 0, 0, 0, 0, 1, 2, 3]), cellCh b9 [(.int .i64 r7.xSize), (.int .i64 r7.xEvery), (.int .i64 r7.xTokens), (.int .i64 r7.xLast)] 25, cellCh b5 [(.int .i64 0), (.int .i64 0), (.int .i64 0), (.int .i64 0)] 25, roCh elU8 v2 r_0_b] (idxW ([(w64 (r7.xLast + r14)), (w64 (r7.xLast - 1)), 1000000, 1000001]) e37 (fun e22 => k13 (r35, e22))) := by
      intro r14 r15 v32 r34 r35 e37 h38
      refine d_three (i := 9) (j := 14) (l := 17) rfl rfl rfl (by kernel_rfl) ?_ ?_ ?_
      · intro o ho; cases ho
        refine o_bsl (enc := encInt) (qs := [(0, (.int .i64 (w64 (r7.xLast + r14)))), (1, (.int .i64 (w64 (r7.xLast - 1)))), (2, (.int .i64 1000000)), (3, (.int .i64 1000001))]) (cells := [(.int .i64 (w64 (r7.xLast + r14))), (.int .i64 (w64 (r7.xLast - 1))), (.int .i64 1000000), (.int .i64 1000001)]) ([(w64 (r7.xLast + r14)), (w64 (r7.xLast - 1)), 1000000, 1000001]) flelInt (by intro ρ h; simp only [List.map_toArray, List.map_cons, List.map_nil, h (.tmp 12) _ rfl, h (.tmp 15) _ rfl, h (.const (.int .i64 1000000)) _ rfl, h (.const (.int .i64 1000001)) _ rfl]) rfl el41 zero3 rfl rfl rfl rfl rfl rfl ?_; intro v39
        refine d_and (fun w m => m.pick [3, 5] rfl) ?_
        refine pk [1, 2, 0, 3, 4, 5] rfl ?_
        refine re (E' := [(2, (.pointer (some ⟨b5, 0, none⟩))), (3, (.int .i64 0)), (7, (.agg #[(.int .i64 r7.xSize), (.int .i64 r7.xEvery), (.int .i64 r7.xTokens), (.int .i64 r7.xLast)])), (16, v39), (20, (pEl v32 r34 1 0))]) ⟨rfl, rfl, rfl, rfl, rfl, trivial⟩ ?_
        exact H148 r14 r15 v39 v32 r34 r35 e37 h38
      · intro o ho; cases ho
        refine o_lds m_op (enc := encInt) (u := (.int .i64 e37)) 1 rfl reads_own flelInt rfl h38 rfl rfl ty3 rfl ?_
        refine d_and (fun w m => m.pick [2, 4] rfl) ?_
        refine pk [0, 2, 3, 4] rfl ?_
        refine re (E' := [(2, (.pointer (some ⟨b5, 0, none⟩))), (3, (.int .i64 0)), (7, (.agg #[(.int .i64 r7.xSize), (.int .i64 r7.xEvery), (.int .i64 r7.xTokens), (.int .i64 r7.xLast)])), (15, (.int .i64 (w64 (r7.xLast - 1)))), (12, (.int .i64 (w64 (r7.xLast + r14)))), (21, (.int .i64 e37))]) ⟨rfl, rfl, rfl, rfl, rfl, rfl, trivial⟩ ?_
        exact H156 r14 r15 v32 r34 r35 e37 h38
      · intro o ho; cases ho
        refine o_stc (cs' := [(.int .i64 r7.xSize), (.int .i64 r7.xEvery), (.int .i64 r7.xTokens), (.int .i64 r7.xLast)]) 3 rfl rfl rfl ty25 rfl rfl rfl rfl ?_
        refine d_and (fun w m => m.pick [2, 4] rfl) ?_
        refine pk [0, 1, 2, 3, 4] rfl ?_
        refine re (E' := [(2, (.pointer (some ⟨b5, 0, none⟩))), (3, (.int .i64 0)), (15, (.int .i64 (w64 (r7.xLast - 1)))), (12, (.int .i64 (w64 (r7.xLast + r14)))), (20, (pEl v32 r34 1 0))]) ⟨rfl, rfl, rfl, rfl, rfl, trivial⟩ ?_
        exact H157 r14 r15 v32 r34 r35 e37 h38
    have H159 : ∀ (r14 : Int) (r15 : Int) (v32 : Value) (r34 : Int) (r35 : Int), Nx 24 (fun _ => True) (feet [cellCh b1 [v2, (.int .i64 r_0_p)] 66]) w0 (wpAnyH Try.prog .any (opsAt Try.f46 [1, 1, 0]) Qd (Mem (fun _ => True) (feet [cellCh b1 [v2, (.int .i64 r_0_p)] 66]) w0 [cellCh b9 [(.int .i64 r7.xSize), (.int .i64 r7.xEvery), (.int .i64 r7.xTokens), (.int .i64 r7.xLast)] 25, roCh elU8 v2 r_0_b]) 6 #[true, true, true, true, true, true, true, true, true, false, true, true, true, false, false, false, false, true, false]) [(2, (.pointer (some ⟨b5, 0, none⟩))), (3, (.int .i64 0)), (15, (.int .i64 (w64 (r7.xLast - 1)))), (12, (.int .i64 (w64 (r7.xLast + r14)))), (17, v32), (19, (.int .i64 r34))] [cellCh b1 [v2, (.int .i64 r35)] 66, ownCh elInt 3 v32 ([0, 0, 0, 0, 0, 1, 2, 3]), cellCh b9 [(.int .i64 r7.xSize), (.int .i64 r7.xEvery), (.int .i64 r7.xTokens), (.int .i64 r7.xLast)] 25, cellCh b5 [(.int .i64 r7.xSize), (.int .i64 r7.xEvery), (.int .i64 r7.xTokens), (.int .i64 r7.xLast)] 25, roCh elU8 v2 r_0_b] (idxW ([0, 0, 0, 0, 0, 1, 2, 3]) r34 (fun e26 => idxW ([(w64 (r7.xLast + r14)), (w64 (r7.xLast - 1)), 1000000, 1000001]) e26 (fun e24 => k13 (r35, e24)))) := by
      intro r14 r15 v32 r34 r35
      refine d_two (i := 9) (j := 13) rfl rfl (by kernel_rfl) ?_ ?_
      · intro o ho; cases ho
        refine o_bsl (enc := encInt) (qs := [(0, (.int .i64 (w64 (r7.xLast + r14)))), (1, (.int .i64 (w64 (r7.xLast - 1)))), (2, (.int .i64 1000000)), (3, (.int .i64 1000001))]) (cells := [(.int .i64 (w64 (r7.xLast + r14))), (.int .i64 (w64 (r7.xLast - 1))), (.int .i64 1000000), (.int .i64 1000001)]) ([(w64 (r7.xLast + r14)), (w64 (r7.xLast - 1)), 1000000, 1000001]) flelInt (by intro ρ h; simp only [List.map_toArray, List.map_cons, List.map_nil, h (.tmp 12) _ rfl, h (.tmp 15) _ rfl, h (.const (.int .i64 1000000)) _ rfl, h (.const (.int .i64 1000001)) _ rfl]) rfl el41 zero3 rfl rfl rfl rfl rfl rfl ?_; intro v43
        refine d_and (fun w m => m.pick [3, 5] rfl) ?_
        refine pk [1, 2, 0, 3, 4, 5] rfl ?_
        refine re (E' := [(2, (.pointer (some ⟨b5, 0, none⟩))), (3, (.int .i64 0)), (16, v43), (17, v32), (19, (.int .i64 r34))]) ⟨rfl, rfl, rfl, rfl, rfl, trivial⟩ ?_
        exact H149 r14 r15 v43 v32 r34 r35
      · intro o ho; cases ho
        refine o_idx m_op 1 rfl reads_own rfl rfl rfl el41 ?_; intro e44 h45
        refine d_and (fun w m => m.pick [2, 4] rfl) ?_
        refine pk [0, 1, 2, 3, 4] rfl ?_
        refine re (E' := [(2, (.pointer (some ⟨b5, 0, none⟩))), (3, (.int .i64 0)), (15, (.int .i64 (w64 (r7.xLast - 1)))), (12, (.int .i64 (w64 (r7.xLast + r14)))), (20, (pEl v32 r34 1 0))]) ⟨rfl, rfl, rfl, rfl, rfl, trivial⟩ ?_
        exact H157 r14 r15 v32 r34 r35 e44 h45
    have H160 : ∀ (r14 : Int) (r15 : Int) (v32 : Value) (r34 : Int) (r35 : Int), Nx 24 (fun _ => True) (feet [cellCh b1 [v2, (.int .i64 r_0_p)] 66]) w0 (wpAnyH Try.prog .any (opsAt Try.f46 [1, 1, 0]) Qd (Mem (fun _ => True) (feet [cellCh b1 [v2, (.int .i64 r_0_p)] 66]) w0 [cellCh b9 [(.int .i64 r7.xSize), (.int .i64 r7.xEvery), (.int .i64 r7.xTokens), (.int .i64 r7.xLast)] 25, roCh elU8 v2 r_0_b]) 7 #[true, true, true, true, true, true, true, true, true, false, true, true, true, false, false, false, false, false, false]) [(2, (.pointer (some ⟨b5, 0, none⟩))), (3, (.int .i64 0)), (7, (.agg #[(.int .i64 r7.xSize), (.int .i64 r7.xEvery), (.int .i64 r7.xTokens), (.int .i64 r7.xLast)])), (15, (.int .i64 (w64 (r7.xLast - 1)))), (12, (.int .i64 (w64 (r7.xLast + r14)))), (17, v32), (19, (.int .i64 r34))] [cellCh b1 [v2, (.int .i64 r35)] 66, ownCh elInt 3 v32 ([0, 0, 0, 0, 0, 1, 2, 3]), cellCh b9 [(.int .i64 r7.xSize), (.int .i64 r7.xEvery), (.int .i64 r7.xTokens), (.int .i64 r7.xLast)] 25, cellCh b5 [(.int .i64 0), (.int .i64 0), (.int .i64 0), (.int .i64 0)] 25, roCh elU8 v2 r_0_b] (idxW ([0, 0, 0, 0, 0, 1, 2, 3]) r34 (fun e20 => idxW ([(w64 (r7.xLast + r14)), (w64 (r7.xLast - 1)), 1000000, 1000001]) e20 (fun e22 => k13 (r35, e22)))) := by
      intro r14 r15 v32 r34 r35
      refine d_three (i := 9) (j := 13) (l := 17) rfl rfl rfl (by kernel_rfl) ?_ ?_ ?_
      · intro o ho; cases ho
        refine o_bsl (enc := encInt) (qs := [(0, (.int .i64 (w64 (r7.xLast + r14)))), (1, (.int .i64 (w64 (r7.xLast - 1)))), (2, (.int .i64 1000000)), (3, (.int .i64 1000001))]) (cells := [(.int .i64 (w64 (r7.xLast + r14))), (.int .i64 (w64 (r7.xLast - 1))), (.int .i64 1000000), (.int .i64 1000001)]) ([(w64 (r7.xLast + r14)), (w64 (r7.xLast - 1)), 1000000, 1000001]) flelInt (by intro ρ h; simp only [List.map_toArray, List.map_cons, List.map_nil, h (.tmp 12) _ rfl, h (.tmp 15) _ rfl, h (.const (.int .i64 1000000)) _ rfl, h (.const (.int .i64 1000001)) _ rfl]) rfl el41 zero3 rfl rfl rfl rfl rfl rfl ?_; intro v36
        refine d_and (fun w m => m.pick [3, 5] rfl) ?_
        refine pk [1, 2, 0, 3, 4, 5] rfl ?_
        refine re (E' := [(2, (.pointer (some ⟨b5, 0, none⟩))), (3, (.int .i64 0)), (7, (.agg #[(.int .i64 r7.xSize), (.int .i64 r7.xEvery), (.int .i64 r7.xTokens), (.int .i64 r7.xLast)])), (16, v36), (17, v32), (19, (.int .i64 r34))]) ⟨rfl, rfl, rfl, rfl, rfl, rfl, trivial⟩ ?_
        exact H150 r14 r15 v36 v32 r34 r35
      · intro o ho; cases ho
        refine o_idx m_op 1 rfl reads_own rfl rfl rfl el41 ?_; intro e37 h38
        refine d_and (fun w m => m.pick [2, 4] rfl) ?_
        refine pk [0, 1, 2, 3, 4] rfl ?_
        refine re (E' := [(2, (.pointer (some ⟨b5, 0, none⟩))), (3, (.int .i64 0)), (7, (.agg #[(.int .i64 r7.xSize), (.int .i64 r7.xEvery), (.int .i64 r7.xTokens), (.int .i64 r7.xLast)])), (15, (.int .i64 (w64 (r7.xLast - 1)))), (12, (.int .i64 (w64 (r7.xLast + r14)))), (20, (pEl v32 r34 1 0))]) ⟨rfl, rfl, rfl, rfl, rfl, rfl, trivial⟩ ?_
        exact H158 r14 r15 v32 r34 r35 e37 h38
      · intro o ho; cases ho
        refine o_stc (cs' := [(.int .i64 r7.xSize), (.int .i64 r7.xEvery), (.int .i64 r7.xTokens), (.int .i64 r7.xLast)]) 3 rfl rfl rfl ty25 rfl rfl rfl rfl ?_
        refine d_and (fun w m => m.pick [2, 4] rfl) ?_
        refine pk [0, 1, 2, 3, 4] rfl ?_
        refine re (E' := [(2, (.pointer (some ⟨b5, 0, none⟩))), (3, (.int .i64 0)), (15, (.int .i64 (w64 (r7.xLast - 1)))), (12, (.int .i64 (w64 (r7.xLast + r14)))), (17, v32), (19, (.int .i64 r34))]) ⟨rfl, rfl, rfl, rfl, rfl, rfl, trivial⟩ ?_
        exact H159 r14 r15 v32 r34 r35
    have H161 : ∀ (r14 : Int) (r15 : Int) (v32 : Value), Nx 24 (fun _ => True) (feet [cellCh b1 [v2, (.int .i64 r_0_p)] 66]) w0 (wpAnyH Try.prog .any (opsAt Try.f46 [1, 1, 0]) Qd (Mem (fun _ => True) (feet [cellCh b1 [v2, (.int .i64 r_0_p)] 66]) w0 [cellCh b9 [(.int .i64 r7.xSize), (.int .i64 r7.xEvery), (.int .i64 r7.xTokens), (.int .i64 r7.xLast)] 25, roCh elU8 v2 r_0_b]) 8 #[true, true, true, true, true, true, true, true, true, false, true, true, false, false, false, false, false, false, false]) [(2, (.pointer (some ⟨b5, 0, none⟩))), (3, (.int .i64 0)), (7, (.agg #[(.int .i64 r7.xSize), (.int .i64 r7.xEvery), (.int .i64 r7.xTokens), (.int .i64 r7.xLast)])), (15, (.int .i64 (w64 (r7.xLast - 1)))), (18, (.pointer (some ⟨b1, 0, none⟩))), (12, (.int .i64 (w64 (r7.xLast + r14)))), (17, v32)] [ownCh elInt 3 v32 ([0, 0, 0, 0, 0, 1, 2, 3]), cellCh b1 [v2, (.int .i64 r15)] 66, cellCh b9 [(.int .i64 r7.xSize), (.int .i64 r7.xEvery), (.int .i64 r7.xTokens), (.int .i64 r7.xLast)] 25, cellCh b5 [(.int .i64 0), (.int .i64 0), (.int .i64 0), (.int .i64 0)] 25, roCh elU8 v2 r_0_b] (L_spec_l20Rd_pick r_0_b r15 8 (fun (r18, r19) => idxW ([0, 0, 0, 0, 0, 1, 2, 3]) r18 (fun e20 => idxW ([(w64 (r7.xLast + r14)), (w64 (r7.xLast - 1)), 1000000, 1000001]) e20 (fun e22 => k13 (r19, e22))))) := by
      intro r14 r15 v32
      refine d_two (i := 9) (j := 12) rfl rfl (by kernel_rfl) ?_ ?_
      · intro o ho; cases ho
        refine o_bsl (enc := encInt) (qs := [(0, (.int .i64 (w64 (r7.xLast + r14)))), (1, (.int .i64 (w64 (r7.xLast - 1)))), (2, (.int .i64 1000000)), (3, (.int .i64 1000001))]) (cells := [(.int .i64 (w64 (r7.xLast + r14))), (.int .i64 (w64 (r7.xLast - 1))), (.int .i64 1000000), (.int .i64 1000001)]) ([(w64 (r7.xLast + r14)), (w64 (r7.xLast - 1)), 1000000, 1000001]) flelInt (by intro ρ h; simp only [List.map_toArray, List.map_cons, List.map_nil, h (.tmp 12) _ rfl, h (.tmp 15) _ rfl, h (.const (.int .i64 1000000)) _ rfl, h (.const (.int .i64 1000001)) _ rfl]) rfl el41 zero3 rfl rfl rfl rfl rfl rfl ?_; intro v33
        refine d_and (fun w m => m.pick [3, 5] rfl) ?_
        refine pk [1, 0, 2, 3, 4, 5] rfl ?_
        refine re (E' := [(2, (.pointer (some ⟨b5, 0, none⟩))), (3, (.int .i64 0)), (7, (.agg #[(.int .i64 r7.xSize), (.int .i64 r7.xEvery), (.int .i64 r7.xTokens), (.int .i64 r7.xLast)])), (18, (.pointer (some ⟨b1, 0, none⟩))), (16, v33), (17, v32)]) ⟨rfl, rfl, rfl, rfl, rfl, rfl, trivial⟩ ?_
        exact H151 r14 r15 v33 v32
      · intro o ho; cases ho
        refine pk [1, 0, 2, 3, 4] rfl ?_
        refine o_call (vs := [(.pointer (some ⟨b1, 0, none⟩)), (.int .i64 8)]) (M0 := [cellCh b1 [v2, (.int .i64 r15)] 66]) Try.call47 rfl rfl (by intro w m h; exact w_spec_l20Rd_pick (r_0_b := r_0_b) (r_0_p := r15) (n_1 := 8) m.given (m.rdM 3 rfl reads_ro) h) ?_; rintro ⟨r34, r35⟩ _
        refine d_and (fun w m => m.pick [2, 4] rfl) ?_
        refine pk [0, 1, 2, 3, 4] rfl ?_
        refine re (E' := [(2, (.pointer (some ⟨b5, 0, none⟩))), (3, (.int .i64 0)), (7, (.agg #[(.int .i64 r7.xSize), (.int .i64 r7.xEvery), (.int .i64 r7.xTokens), (.int .i64 r7.xLast)])), (15, (.int .i64 (w64 (r7.xLast - 1)))), (12, (.int .i64 (w64 (r7.xLast + r14)))), (17, v32), (19, (.int .i64 r34))]) ⟨rfl, rfl, rfl, rfl, rfl, rfl, rfl, trivial⟩ ?_
        exact H160 r14 r15 v32 r34 r35
    have H162 : ∀ (r14 : Int) (r15 : Int) (r46 : Int) (r47 : Int), Nx 24 (fun _ => True) (feet [cellCh b1 [v2, (.int .i64 r_0_p)] 66]) w0 (wpAnyH Try.prog .any (opsAt Try.f46 [1, 1, 0]) Qd (Mem (fun _ => True) (feet [cellCh b1 [v2, (.int .i64 r_0_p)] 66]) w0 [cellCh b9 [(.int .i64 r7.xSize), (.int .i64 r7.xEvery), (.int .i64 r7.xTokens), (.int .i64 r7.xLast)] 25, roCh elU8 v2 r_0_b]) 7 #[true, true, true, true, true, true, true, true, true, false, false, true, true, false, false, false, false, true, false]) [(2, (.pointer (some ⟨b5, 0, none⟩))), (3, (.int .i64 0)), (15, (.int .i64 (w64 (r7.xLast - 1)))), (12, (.int .i64 (w64 (r7.xLast + r14)))), (19, (.int .i64 r46))] [cellCh b1 [v2, (.int .i64 r47)] 66, cellCh b9 [(.int .i64 r7.xSize), (.int .i64 r7.xEvery), (.int .i64 r7.xTokens), (.int .i64 r7.xLast)] 25, cellCh b5 [(.int .i64 r7.xSize), (.int .i64 r7.xEvery), (.int .i64 r7.xTokens), (.int .i64 r7.xLast)] 25, roCh elU8 v2 r_0_b] (idxW ([0, 0, 0, 0, 0, 1, 2, 3]) r46 (fun e26 => idxW ([(w64 (r7.xLast + r14)), (w64 (r7.xLast - 1)), 1000000, 1000001]) e26 (fun e24 => k13 (r47, e24)))) := by
      intro r14 r15 r46 r47
      refine d_two (i := 9) (j := 10) rfl rfl (by kernel_rfl) ?_ ?_
      · intro o ho; cases ho
        refine o_bsl (enc := encInt) (qs := [(0, (.int .i64 (w64 (r7.xLast + r14)))), (1, (.int .i64 (w64 (r7.xLast - 1)))), (2, (.int .i64 1000000)), (3, (.int .i64 1000001))]) (cells := [(.int .i64 (w64 (r7.xLast + r14))), (.int .i64 (w64 (r7.xLast - 1))), (.int .i64 1000000), (.int .i64 1000001)]) ([(w64 (r7.xLast + r14)), (w64 (r7.xLast - 1)), 1000000, 1000001]) flelInt (by intro ρ h; simp only [List.map_toArray, List.map_cons, List.map_nil, h (.tmp 12) _ rfl, h (.tmp 15) _ rfl, h (.const (.int .i64 1000000)) _ rfl, h (.const (.int .i64 1000001)) _ rfl]) rfl el41 zero3 rfl rfl rfl rfl rfl rfl ?_; intro v50
        refine d_and (fun w m => m.pick [2, 4] rfl) ?_
        refine pk [1, 0, 2, 3, 4] rfl ?_
        refine re (E' := [(2, (.pointer (some ⟨b5, 0, none⟩))), (3, (.int .i64 0)), (16, v50), (19, (.int .i64 r46))]) ⟨rfl, rfl, rfl, rfl, trivial⟩ ?_
        exact H152 r14 r15 v50 r46 r47
      · intro o ho; cases ho
        refine o_bsl (enc := encInt) (qs := [(0, (.int .i64 0)), (1, (.int .i64 0)), (2, (.int .i64 0)), (3, (.int .i64 0)), (4, (.int .i64 0)), (5, (.int .i64 1)), (6, (.int .i64 2)), (7, (.int .i64 3))]) (cells := [(.int .i64 0), (.int .i64 0), (.int .i64 0), (.int .i64 0), (.int .i64 0), (.int .i64 1), (.int .i64 2), (.int .i64 3)]) ([0, 0, 0, 0, 0, 1, 2, 3]) flelInt (by intro ρ h; simp only [List.map_toArray, List.map_cons, List.map_nil, h (.const (.int .i64 0)) _ rfl, h (.const (.int .i64 0)) _ rfl, h (.const (.int .i64 0)) _ rfl, h (.const (.int .i64 0)) _ rfl, h (.const (.int .i64 0)) _ rfl, h (.const (.int .i64 1)) _ rfl, h (.const (.int .i64 2)) _ rfl, h (.const (.int .i64 3)) _ rfl]) rfl el41 zero3 rfl rfl rfl rfl rfl rfl ?_; intro v51
        refine d_and (fun w m => m.pick [2, 4] rfl) ?_
        refine pk [1, 0, 2, 3, 4] rfl ?_
        refine re (E' := [(2, (.pointer (some ⟨b5, 0, none⟩))), (3, (.int .i64 0)), (15, (.int .i64 (w64 (r7.xLast - 1)))), (12, (.int .i64 (w64 (r7.xLast + r14)))), (17, v51), (19, (.int .i64 r46))]) ⟨rfl, rfl, rfl, rfl, rfl, rfl, trivial⟩ ?_
        exact H159 r14 r15 v51 r46 r47
    have H163 : ∀ (r14 : Int) (r15 : Int) (r46 : Int) (r47 : Int), Nx 24 (fun _ => True) (feet [cellCh b1 [v2, (.int .i64 r_0_p)] 66]) w0 (wpAnyH Try.prog .any (opsAt Try.f46 [1, 1, 0]) Qd (Mem (fun _ => True) (feet [cellCh b1 [v2, (.int .i64 r_0_p)] 66]) w0 [cellCh b9 [(.int .i64 r7.xSize), (.int .i64 r7.xEvery), (.int .i64 r7.xTokens), (.int .i64 r7.xLast)] 25, roCh elU8 v2 r_0_b]) 8 #[true, true, true, true, true, true, true, true, true, false, false, true, true, false, false, false, false, false, false]) [(2, (.pointer (some ⟨b5, 0, none⟩))), (3, (.int .i64 0)), (7, (.agg #[(.int .i64 r7.xSize), (.int .i64 r7.xEvery), (.int .i64 r7.xTokens), (.int .i64 r7.xLast)])), (15, (.int .i64 (w64 (r7.xLast - 1)))), (12, (.int .i64 (w64 (r7.xLast + r14)))), (19, (.int .i64 r46))] [cellCh b1 [v2, (.int .i64 r47)] 66, cellCh b9 [(.int .i64 r7.xSize), (.int .i64 r7.xEvery), (.int .i64 r7.xTokens), (.int .i64 r7.xLast)] 25, cellCh b5 [(.int .i64 0), (.int .i64 0), (.int .i64 0), (.int .i64 0)] 25, roCh elU8 v2 r_0_b] (idxW ([0, 0, 0, 0, 0, 1, 2, 3]) r46 (fun e20 => idxW ([(w64 (r7.xLast + r14)), (w64 (r7.xLast - 1)), 1000000, 1000001]) e20 (fun e22 => k13 (r47, e22)))) := by
      intro r14 r15 r46 r47
      refine d_three (i := 9) (j := 10) (l := 17) rfl rfl rfl (by kernel_rfl) ?_ ?_ ?_
      · intro o ho; cases ho
        refine o_bsl (enc := encInt) (qs := [(0, (.int .i64 (w64 (r7.xLast + r14)))), (1, (.int .i64 (w64 (r7.xLast - 1)))), (2, (.int .i64 1000000)), (3, (.int .i64 1000001))]) (cells := [(.int .i64 (w64 (r7.xLast + r14))), (.int .i64 (w64 (r7.xLast - 1))), (.int .i64 1000000), (.int .i64 1000001)]) ([(w64 (r7.xLast + r14)), (w64 (r7.xLast - 1)), 1000000, 1000001]) flelInt (by intro ρ h; simp only [List.map_toArray, List.map_cons, List.map_nil, h (.tmp 12) _ rfl, h (.tmp 15) _ rfl, h (.const (.int .i64 1000000)) _ rfl, h (.const (.int .i64 1000001)) _ rfl]) rfl el41 zero3 rfl rfl rfl rfl rfl rfl ?_; intro v48
        refine d_and (fun w m => m.pick [2, 4] rfl) ?_
        refine pk [1, 0, 2, 3, 4] rfl ?_
        refine re (E' := [(2, (.pointer (some ⟨b5, 0, none⟩))), (3, (.int .i64 0)), (7, (.agg #[(.int .i64 r7.xSize), (.int .i64 r7.xEvery), (.int .i64 r7.xTokens), (.int .i64 r7.xLast)])), (16, v48), (19, (.int .i64 r46))]) ⟨rfl, rfl, rfl, rfl, rfl, trivial⟩ ?_
        exact H153 r14 r15 v48 r46 r47
      · intro o ho; cases ho
        refine o_bsl (enc := encInt) (qs := [(0, (.int .i64 0)), (1, (.int .i64 0)), (2, (.int .i64 0)), (3, (.int .i64 0)), (4, (.int .i64 0)), (5, (.int .i64 1)), (6, (.int .i64 2)), (7, (.int .i64 3))]) (cells := [(.int .i64 0), (.int .i64 0), (.int .i64 0), (.int .i64 0), (.int .i64 0), (.int .i64 1), (.int .i64 2), (.int .i64 3)]) ([0, 0, 0, 0, 0, 1, 2, 3]) flelInt (by intro ρ h; simp only [List.map_toArray, List.map_cons, List.map_nil, h (.const (.int .i64 0)) _ rfl, h (.const (.int .i64 0)) _ rfl, h (.const (.int .i64 0)) _ rfl, h (.const (.int .i64 0)) _ rfl, h (.const (.int .i64 0)) _ rfl, h (.const (.int .i64 1)) _ rfl, h (.const (.int .i64 2)) _ rfl, h (.const (.int .i64 3)) _ rfl]) rfl el41 zero3 rfl rfl rfl rfl rfl rfl ?_; intro v49
        refine d_and (fun w m => m.pick [2, 4] rfl) ?_
        refine pk [1, 0, 2, 3, 4] rfl ?_
        refine re (E' := [(2, (.pointer (some ⟨b5, 0, none⟩))), (3, (.int .i64 0)), (7, (.agg #[(.int .i64 r7.xSize), (.int .i64 r7.xEvery), (.int .i64 r7.xTokens), (.int .i64 r7.xLast)])), (15, (.int .i64 (w64 (r7.xLast - 1)))), (12, (.int .i64 (w64 (r7.xLast + r14)))), (17, v49), (19, (.int .i64 r46))]) ⟨rfl, rfl, rfl, rfl, rfl, rfl, rfl, trivial⟩ ?_
        exact H160 r14 r15 v49 r46 r47
      · intro o ho; cases ho
        refine o_stc (cs' := [(.int .i64 r7.xSize), (.int .i64 r7.xEvery), (.int .i64 r7.xTokens), (.int .i64 r7.xLast)]) 2 rfl rfl rfl ty25 rfl rfl rfl rfl ?_
        refine d_and (fun w m => m.pick [1, 3] rfl) ?_
        refine pk [0, 1, 2, 3] rfl ?_
        refine re (E' := [(2, (.pointer (some ⟨b5, 0, none⟩))), (3, (.int .i64 0)), (15, (.int .i64 (w64 (r7.xLast - 1)))), (12, (.int .i64 (w64 (r7.xLast + r14)))), (19, (.int .i64 r46))]) ⟨rfl, rfl, rfl, rfl, rfl, trivial⟩ ?_
        exact H162 r14 r15 r46 r47
    have H164 : ∀ (r14 : Int) (r15 : Int), Nx 24 (fun _ => True) (feet [cellCh b1 [v2, (.int .i64 r_0_p)] 66]) w0 (wpAnyH Try.prog .any (opsAt Try.f46 [1, 1, 0]) Qd (Mem (fun _ => True) (feet [cellCh b1 [v2, (.int .i64 r_0_p)] 66]) w0 [cellCh b9 [(.int .i64 r7.xSize), (.int .i64 r7.xEvery), (.int .i64 r7.xTokens), (.int .i64 r7.xLast)] 25, roCh elU8 v2 r_0_b]) 10 #[true, true, true, true, true, false, true, true, true, false, false, true, false, false, false, false, false, false, false]) [(2, (.pointer (some ⟨b5, 0, none⟩))), (3, (.int .i64 0)), (7, (.agg #[(.int .i64 r7.xSize), (.int .i64 r7.xEvery), (.int .i64 r7.xTokens), (.int .i64 r7.xLast)])), (9, (.int .i64 r7.xLast)), (15, (.int .i64 (w64 (r7.xLast - 1)))), (18, (.pointer (some ⟨b1, 0, none⟩))), (11, (.int .i64 r14))] [cellCh b1 [v2, (.int .i64 r15)] 66, cellCh b9 [(.int .i64 r7.xSize), (.int .i64 r7.xEvery), (.int .i64 r7.xTokens), (.int .i64 r7.xLast)] 25, cellCh b5 [(.int .i64 0), (.int .i64 0), (.int .i64 0), (.int .i64 0)] 25, roCh elU8 v2 r_0_b] (L_spec_l20Rd_pick r_0_b r15 8 (fun (r18, r19) => idxW ([0, 0, 0, 0, 0, 1, 2, 3]) r18 (fun e20 => idxW ([(w64 (r7.xLast + r14)), (w64 (r7.xLast - 1)), 1000000, 1000001]) e20 (fun e22 => k13 (r19, e22))))) := by
      intro r14 r15
      refine o_addw (d_take (i := 5) rfl (by kernel_rfl) (by kernel_rfl) (by kernel_rfl) hP (fun w m => m.pick [1, 3] rfl)) rfl rfl rfl ?_
      refine d_three (i := 9) (j := 10) (l := 12) rfl rfl rfl (by kernel_rfl) ?_ ?_ ?_
      · intro o ho; cases ho
        refine o_bsl (enc := encInt) (qs := [(0, (.int .i64 (w64 (r7.xLast + r14)))), (1, (.int .i64 (w64 (r7.xLast - 1)))), (2, (.int .i64 1000000)), (3, (.int .i64 1000001))]) (cells := [(.int .i64 (w64 (r7.xLast + r14))), (.int .i64 (w64 (r7.xLast - 1))), (.int .i64 1000000), (.int .i64 1000001)]) ([(w64 (r7.xLast + r14)), (w64 (r7.xLast - 1)), 1000000, 1000001]) flelInt (by intro ρ h; simp only [List.map_toArray, List.map_cons, List.map_nil, h (.tmp 12) _ rfl, h (.tmp 15) _ rfl, h (.const (.int .i64 1000000)) _ rfl, h (.const (.int .i64 1000001)) _ rfl]) rfl el41 zero3 rfl rfl rfl rfl rfl rfl ?_; intro v16
        refine d_and (fun w m => m.pick [2, 4] rfl) ?_
        refine pk [0, 1, 2, 3, 4] rfl ?_
        refine re (E' := [(2, (.pointer (some ⟨b5, 0, none⟩))), (3, (.int .i64 0)), (7, (.agg #[(.int .i64 r7.xSize), (.int .i64 r7.xEvery), (.int .i64 r7.xTokens), (.int .i64 r7.xLast)])), (18, (.pointer (some ⟨b1, 0, none⟩))), (16, v16)]) ⟨rfl, rfl, rfl, rfl, rfl, trivial⟩ ?_
        exact H154 r14 r15 v16
      · intro o ho; cases ho
        refine o_bsl (enc := encInt) (qs := [(0, (.int .i64 0)), (1, (.int .i64 0)), (2, (.int .i64 0)), (3, (.int .i64 0)), (4, (.int .i64 0)), (5, (.int .i64 1)), (6, (.int .i64 2)), (7, (.int .i64 3))]) (cells := [(.int .i64 0), (.int .i64 0), (.int .i64 0), (.int .i64 0), (.int .i64 0), (.int .i64 1), (.int .i64 2), (.int .i64 3)]) ([0, 0, 0, 0, 0, 1, 2, 3]) flelInt (by intro ρ h; simp only [List.map_toArray, List.map_cons, List.map_nil, h (.const (.int .i64 0)) _ rfl, h (.const (.int .i64 0)) _ rfl, h (.const (.int .i64 0)) _ rfl, h (.const (.int .i64 0)) _ rfl, h (.const (.int .i64 0)) _ rfl, h (.const (.int .i64 1)) _ rfl, h (.const (.int .i64 2)) _ rfl, h (.const (.int .i64 3)) _ rfl]) rfl el41 zero3 rfl rfl rfl rfl rfl rfl ?_; intro v32
        refine d_and (fun w m => m.pick [2, 4] rfl) ?_
        refine pk [0, 1, 2, 3, 4] rfl ?_
        refine re (E' := [(2, (.pointer (some ⟨b5, 0, none⟩))), (3, (.int .i64 0)), (7, (.agg #[(.int .i64 r7.xSize), (.int .i64 r7.xEvery), (.int .i64 r7.xTokens), (.int .i64 r7.xLast)])), (15, (.int .i64 (w64 (r7.xLast - 1)))), (18, (.pointer (some ⟨b1, 0, none⟩))), (12, (.int .i64 (w64 (r7.xLast + r14)))), (17, v32)]) ⟨rfl, rfl, rfl, rfl, rfl, rfl, rfl, trivial⟩ ?_
        exact H161 r14 r15 v32
      · intro o ho; cases ho
        refine pk [0, 1, 2, 3] rfl ?_
        refine o_call (vs := [(.pointer (some ⟨b1, 0, none⟩)), (.int .i64 8)]) (M0 := [cellCh b1 [v2, (.int .i64 r15)] 66]) Try.call47 rfl rfl (by intro w m h; exact w_spec_l20Rd_pick (r_0_b := r_0_b) (r_0_p := r15) (n_1 := 8) m.given (m.rdM 2 rfl reads_ro) h) ?_; rintro ⟨r46, r47⟩ _
        refine d_and (fun w m => m.pick [1, 3] rfl) ?_
        refine pk [0, 1, 2, 3] rfl ?_
        refine re (E' := [(2, (.pointer (some ⟨b5, 0, none⟩))), (3, (.int .i64 0)), (7, (.agg #[(.int .i64 r7.xSize), (.int .i64 r7.xEvery), (.int .i64 r7.xTokens), (.int .i64 r7.xLast)])), (15, (.int .i64 (w64 (r7.xLast - 1)))), (12, (.int .i64 (w64 (r7.xLast + r14)))), (19, (.int .i64 r46))]) ⟨rfl, rfl, rfl, rfl, rfl, rfl, trivial⟩ ?_
        exact H163 r14 r15 r46 r47
    have H165 : ∀ (v52 : Value) (r53 : Int) (r54 : Int), Nx 24 (fun _ => True) (feet [cellCh b1 [v2, (.int .i64 r_0_p)] 66]) w0 (wpAnyH Try.prog .any (opsAt Try.f46 [1, 1, 0]) Qd (Mem (fun _ => True) (feet [cellCh b1 [v2, (.int .i64 r_0_p)] 66]) w0 [cellCh b9 [(.int .i64 r7.xSize), (.int .i64 r7.xEvery), (.int .i64 r7.xTokens), (.int .i64 r7.xLast)] 25, roCh elU8 v2 r_0_b]) 9 #[true, true, true, true, true, false, true, true, true, false, true, true, false, false, false, false, false, false, false]) [(2, (.pointer (some ⟨b5, 0, none⟩))), (3, (.int .i64 0)), (7, (.agg #[(.int .i64 r7.xSize), (.int .i64 r7.xEvery), (.int .i64 r7.xTokens), (.int .i64 r7.xLast)])), (9, (.int .i64 r7.xLast)), (15, (.int .i64 (w64 (r7.xLast - 1)))), (18, (.pointer (some ⟨b1, 0, none⟩))), (17, v52), (11, (.int .i64 r53))] [cellCh b1 [v2, (.int .i64 r54)] 66, ownCh elInt 3 v52 ([0, 0, 0, 0, 0, 1, 2, 3]), cellCh b9 [(.int .i64 r7.xSize), (.int .i64 r7.xEvery), (.int .i64 r7.xTokens), (.int .i64 r7.xLast)] 25, cellCh b5 [(.int .i64 0), (.int .i64 0), (.int .i64 0), (.int .i64 0)] 25, roCh elU8 v2 r_0_b] (L_spec_l20Rd_pick r_0_b r54 8 (fun (r18, r19) => idxW ([0, 0, 0, 0, 0, 1, 2, 3]) r18 (fun e20 => idxW ([(w64 (r7.xLast + r53)), (w64 (r7.xLast - 1)), 1000000, 1000001]) e20 (fun e22 => k13 (r19, e22))))) := by
      intro v52 r53 r54
      refine o_addw (d_take (i := 5) rfl (by kernel_rfl) (by kernel_rfl) (by kernel_rfl) hP (fun w m => m.pick [2, 4] rfl)) rfl rfl rfl ?_
      refine d_two (i := 9) (j := 12) rfl rfl (by kernel_rfl) ?_ ?_
      · intro o ho; cases ho
        refine o_bsl (enc := encInt) (qs := [(0, (.int .i64 (w64 (r7.xLast + r53)))), (1, (.int .i64 (w64 (r7.xLast - 1)))), (2, (.int .i64 1000000)), (3, (.int .i64 1000001))]) (cells := [(.int .i64 (w64 (r7.xLast + r53))), (.int .i64 (w64 (r7.xLast - 1))), (.int .i64 1000000), (.int .i64 1000001)]) ([(w64 (r7.xLast + r53)), (w64 (r7.xLast - 1)), 1000000, 1000001]) flelInt (by intro ρ h; simp only [List.map_toArray, List.map_cons, List.map_nil, h (.tmp 12) _ rfl, h (.tmp 15) _ rfl, h (.const (.int .i64 1000000)) _ rfl, h (.const (.int .i64 1000001)) _ rfl]) rfl el41 zero3 rfl rfl rfl rfl rfl rfl ?_; intro v55
        refine d_and (fun w m => m.pick [3, 5] rfl) ?_
        refine pk [2, 0, 1, 3, 4, 5] rfl ?_
        refine re (E' := [(2, (.pointer (some ⟨b5, 0, none⟩))), (3, (.int .i64 0)), (7, (.agg #[(.int .i64 r7.xSize), (.int .i64 r7.xEvery), (.int .i64 r7.xTokens), (.int .i64 r7.xLast)])), (18, (.pointer (some ⟨b1, 0, none⟩))), (16, v55), (17, v52)]) ⟨rfl, rfl, rfl, rfl, rfl, rfl, trivial⟩ ?_
        exact H151 r53 r54 v55 v52
      · intro o ho; cases ho
        refine pk [0, 1, 2, 3, 4] rfl ?_
        refine o_call (vs := [(.pointer (some ⟨b1, 0, none⟩)), (.int .i64 8)]) (M0 := [cellCh b1 [v2, (.int .i64 r54)] 66]) Try.call47 rfl rfl (by intro w m h; exact w_spec_l20Rd_pick (r_0_b := r_0_b) (r_0_p := r54) (n_1 := 8) m.given (m.rdM 3 rfl reads_ro) h) ?_; rintro ⟨r56, r57⟩ _
        refine d_and (fun w m => m.pick [2, 4] rfl) ?_
        refine pk [0, 1, 2, 3, 4] rfl ?_
        refine re (E' := [(2, (.pointer (some ⟨b5, 0, none⟩))), (3, (.int .i64 0)), (7, (.agg #[(.int .i64 r7.xSize), (.int .i64 r7.xEvery), (.int .i64 r7.xTokens), (.int .i64 r7.xLast)])), (15, (.int .i64 (w64 (r7.xLast - 1)))), (12, (.int .i64 (w64 (r7.xLast + r53)))), (17, v52), (19, (.int .i64 r56))]) ⟨rfl, rfl, rfl, rfl, rfl, rfl, rfl, trivial⟩ ?_
        exact H160 r53 r54 v52 r56 r57
    have H166 : ∀ (v52 : Value), Nx 24 (fun _ => True) (feet [cellCh b1 [v2, (.int .i64 r_0_p)] 66]) w0 (wpAnyH Try.prog .any (opsAt Try.f46 [1, 1, 0]) Qd (Mem (fun _ => True) (feet [cellCh b1 [v2, (.int .i64 r_0_p)] 66]) w0 [cellCh b9 [(.int .i64 r7.xSize), (.int .i64 r7.xEvery), (.int .i64 r7.xTokens), (.int .i64 r7.xLast)] 25, roCh elU8 v2 r_0_b]) 10 #[true, true, true, true, false, false, true, true, true, false, true, true, false, false, false, false, false, false, false]) [(2, (.pointer (some ⟨b5, 0, none⟩))), (3, (.int .i64 0)), (7, (.agg #[(.int .i64 r7.xSize), (.int .i64 r7.xEvery), (.int .i64 r7.xTokens), (.int .i64 r7.xLast)])), (9, (.int .i64 r7.xLast)), (10, (.pointer (some ⟨b1, 0, none⟩))), (15, (.int .i64 (w64 (r7.xLast - 1)))), (18, (.pointer (some ⟨b1, 0, none⟩))), (17, v52)] [ownCh elInt 3 v52 ([0, 0, 0, 0, 0, 1, 2, 3]), cellCh b9 [(.int .i64 r7.xSize), (.int .i64 r7.xEvery), (.int .i64 r7.xTokens), (.int .i64 r7.xLast)] 25, cellCh b1 [v2, (.int .i64 r8)] 66, cellCh b5 [(.int .i64 0), (.int .i64 0), (.int .i64 0), (.int .i64 0)] 25, roCh elU8 v2 r_0_b] (L_spec_l20Rd_pick r_0_b r8 120 (fun (r53, r54) => L_spec_l20Rd_pick r_0_b r54 8 (fun (r18, r19) => idxW ([0, 0, 0, 0, 0, 1, 2, 3]) r18 (fun e20 => idxW ([(w64 (r7.xLast + r53)), (w64 (r7.xLast - 1)), 1000000, 1000001]) e20 (fun e22 => k13 (r19, e22)))))) := by
      intro v52
      refine pk [2, 0, 1, 3, 4] rfl ?_
      refine d_one (i := 4) rfl (by kernel_rfl) (o_call (vs := [(.pointer (some ⟨b1, 0, none⟩)), (.int .i64 120)]) (M0 := [cellCh b1 [v2, (.int .i64 r8)] 66]) Try.call47 rfl rfl (by intro w m h; exact w_spec_l20Rd_pick (r_0_b := r_0_b) (r_0_p := r8) (n_1 := 120) m.given (m.rdM 3 rfl reads_ro) h) ?_); rintro ⟨r53, r54⟩ _
      refine d_and (fun w m => m.pick [2, 4] rfl) ?_
      refine pk [0, 1, 2, 3, 4] rfl ?_
      refine re (E' := [(2, (.pointer (some ⟨b5, 0, none⟩))), (3, (.int .i64 0)), (7, (.agg #[(.int .i64 r7.xSize), (.int .i64 r7.xEvery), (.int .i64 r7.xTokens), (.int .i64 r7.xLast)])), (9, (.int .i64 r7.xLast)), (15, (.int .i64 (w64 (r7.xLast - 1)))), (18, (.pointer (some ⟨b1, 0, none⟩))), (17, v52), (11, (.int .i64 r53))]) ⟨rfl, rfl, rfl, rfl, rfl, rfl, rfl, rfl, trivial⟩ ?_
      exact H165 v52 r53 r54
    refine o_ldc (d_take (i := 0) rfl (by kernel_rfl) (by kernel_rfl) (by kernel_rfl) hP (fun w m => m.pick [0, 3] rfl)) (v := (.agg #[(.int .i64 r7.xSize), (.int .i64 r7.xEvery), (.int .i64 r7.xTokens), (.int .i64 r7.xLast)])) 0 rfl rfl rfl ty25 rfl ?_
    refine o_fad (d_take (i := 1) rfl (by kernel_rfl) (by kernel_rfl) (by kernel_rfl) hP (fun w m => m.pick [0, 3] rfl)) rfl rfl fld25_3 rfl ?_
    refine o_ldc (d_take (i := 2) rfl (by kernel_rfl) (by kernel_rfl) (by kernel_rfl) hP (fun w m => m.pick [0, 3] rfl)) (v := (.int .i64 r7.xLast)) 0 rfl rfl rfl ty3 rfl ?_
    refine o_mv (d_take (i := 3) rfl (by kernel_rfl) (by kernel_rfl) (by kernel_rfl) hP (fun w m => m.pick [0, 3] rfl)) rfl rfl ?_
    refine o_fad (d_take (i := 6) rfl (by kernel_rfl) (by kernel_rfl) (by kernel_rfl) hP (fun w m => m.pick [0, 3] rfl)) rfl rfl fld25_3 rfl ?_
    refine o_ldc (d_take (i := 7) rfl (by kernel_rfl) (by kernel_rfl) (by kernel_rfl) hP (fun w m => m.pick [0, 3] rfl)) (v := (.int .i64 r7.xLast)) 0 rfl rfl rfl ty3 rfl ?_
    refine o_subw (d_take (i := 8) rfl (by kernel_rfl) (by kernel_rfl) (by kernel_rfl) hP (fun w m => m.pick [0, 3] rfl)) rfl rfl rfl ?_
    refine o_mv (d_take (i := 11) rfl (by kernel_rfl) (by kernel_rfl) (by kernel_rfl) hP (fun w m => m.pick [0, 3] rfl)) rfl rfl ?_
    refine d_two (i := 4) (j := 10) rfl rfl (by kernel_rfl) ?_ ?_
    · intro o ho; cases ho
      refine pk [1, 0, 2, 3] rfl ?_
      refine o_call (vs := [(.pointer (some ⟨b1, 0, none⟩)), (.int .i64 120)]) (M0 := [cellCh b1 [v2, (.int .i64 r8)] 66]) Try.call47 rfl rfl (by intro w m h; exact w_spec_l20Rd_pick (r_0_b := r_0_b) (r_0_p := r8) (n_1 := 120) m.given (m.rdM 2 rfl reads_ro) h) ?_; rintro ⟨r14, r15⟩ _
      refine d_and (fun w m => m.pick [1, 3] rfl) ?_
      refine pk [0, 1, 2, 3] rfl ?_
      refine re (E' := [(2, (.pointer (some ⟨b5, 0, none⟩))), (3, (.int .i64 0)), (7, (.agg #[(.int .i64 r7.xSize), (.int .i64 r7.xEvery), (.int .i64 r7.xTokens), (.int .i64 r7.xLast)])), (9, (.int .i64 r7.xLast)), (15, (.int .i64 (w64 (r7.xLast - 1)))), (18, (.pointer (some ⟨b1, 0, none⟩))), (11, (.int .i64 r14))]) ⟨rfl, rfl, rfl, rfl, rfl, rfl, rfl, trivial⟩ ?_
      exact H164 r14 r15
    · intro o ho; cases ho
      refine o_bsl (enc := encInt) (qs := [(0, (.int .i64 0)), (1, (.int .i64 0)), (2, (.int .i64 0)), (3, (.int .i64 0)), (4, (.int .i64 0)), (5, (.int .i64 1)), (6, (.int .i64 2)), (7, (.int .i64 3))]) (cells := [(.int .i64 0), (.int .i64 0), (.int .i64 0), (.int .i64 0), (.int .i64 0), (.int .i64 1), (.int .i64 2), (.int .i64 3)]) ([0, 0, 0, 0, 0, 1, 2, 3]) flelInt (by intro ρ h; simp only [List.map_toArray, List.map_cons, List.map_nil, h (.const (.int .i64 0)) _ rfl, h (.const (.int .i64 0)) _ rfl, h (.const (.int .i64 0)) _ rfl, h (.const (.int .i64 0)) _ rfl, h (.const (.int .i64 0)) _ rfl, h (.const (.int .i64 1)) _ rfl, h (.const (.int .i64 2)) _ rfl, h (.const (.int .i64 3)) _ rfl]) rfl el41 zero3 rfl rfl rfl rfl rfl rfl ?_; intro v52
      refine d_and (fun w m => m.pick [1, 4] rfl) ?_
      refine pk [0, 1, 2, 3, 4] rfl ?_
      refine re (E' := [(2, (.pointer (some ⟨b5, 0, none⟩))), (3, (.int .i64 0)), (7, (.agg #[(.int .i64 r7.xSize), (.int .i64 r7.xEvery), (.int .i64 r7.xTokens), (.int .i64 r7.xLast)])), (9, (.int .i64 r7.xLast)), (10, (.pointer (some ⟨b1, 0, none⟩))), (15, (.int .i64 (w64 (r7.xLast - 1)))), (18, (.pointer (some ⟨b1, 0, none⟩))), (17, v52)]) ⟨rfl, rfl, rfl, rfl, rfl, rfl, rfl, rfl, trivial⟩ ?_
      exact H166 v52
  · rintro ⟨t11, t12⟩ a w ⟨hE, hm⟩ h
    refine nx_of hE hm h ?_
    clear hE hm h
    refine c_ret ?_
    exact l_end2 Try.results46 (r7, t12, t11) () (rv_c 1 rfl rfl ty25 rfl) (rv_t rfl) rfl (fun w m => NewCh.of m [0] rfl (fr_cons free_cell fr_nil))

set_option maxRecDepth 100000 in
set_option maxHeartbeats 8000000 in
theorem w_spec_DrawTakeToken {w0 : World} {F : Nat → Prop} {v1 : Value} {code_0 : (List UInt8)} {κ : (GBucket × Int) → Prop} (hv1 : Sl elU8 (fun b => b < w0.heap.size ∧ ¬ feet [] b) w0 v1 code_0) (h : L_spec_DrawTakeToken code_0 κ) :
    Calls Try.prog 29 #[v1] w0 (Ret [] F w0 κ (fun (r : (GBucket × Int)) (u : Unit) => .tuple #[(.agg #[(.int .i64 r.1.xSize), (.int .i64 r.1.xEvery), (.int .i64 r.1.xTokens), (.int .i64 r.1.xLast)]), (.int .i64 r.2)]) (fun (r : (GBucket × Int)) (u : Unit) => [])) := by
  refine enter (args := [v1]) [] Try.func29 rfl Try.ntmps29 rfl [roCh elU8 v1 code_0] (hf_cons hf_nil) (hh_cons hv1 hh_nil) (Given.nil w0).lt (Given.nil w0).disj (Given.nil w0).hold h ?_
  clear h hv1
  refine c_seq ?_
  refine c_region ?_
  refine stw (o_alloc rfl [(.int .i64 0), (.int .i64 0), (.int .i64 0), (.int .i64 0)] zero25 ?_); intro b3
  refine o_as st rfl rfl ?_
  refine c_nil ?_
  refine l_then ?_
  refine c_seq ?_
  refine c_region ?_
  refine o_mv st rfl rfl ?_
  refine stw (o_callP (vs := [v1]) Try.call41 rfl rfl (by intro w m h; exact w_spec_l20Open (code_0 := code_0) fz_ok0 (m.ro 1 rfl) h) ?_); rintro ⟨r7, r10⟩ ⟨b6, v8⟩
  refine pk [0, 1, 2, 3] rfl ?_
  refine stw (o_call (vs := [(.pointer (some ⟨b6, 0, none⟩))]) (M0 := [cellCh b6 [v8, (.int .i64 r10)] 66]) Try.call46 rfl rfl (by intro w m h; exact w_spec_l20Later (r_0_b := r7) (r_0_p := r10) m.given (m.rdM 0 rfl reads_ro) h) ?_); rintro ⟨r12, r13, r14⟩ _
  refine o_ext st (vs := [(.agg #[(.int .i64 r12.xSize), (.int .i64 r12.xEvery), (.int .i64 r12.xTokens), (.int .i64 r12.xLast)]), (.int .i64 r13)]) rfl rfl rfl ?_
  refine o_ext st (vs := [(.agg #[(.int .i64 r12.xSize), (.int .i64 r12.xEvery), (.int .i64 r12.xTokens), (.int .i64 r12.xLast)]), (.int .i64 r13)]) rfl rfl rfl ?_
  refine stw (o_stc (cs' := [(.int .i64 r12.xSize), (.int .i64 r12.xEvery), (.int .i64 r12.xTokens), (.int .i64 r12.xLast)]) 2 rfl rfl rfl ty25 rfl rfl rfl rfl ?_)
  refine o_as st rfl rfl ?_
  refine c_nil ?_
  refine l_then ?_
  refine c_ret ?_
  exact l_end2 Try.results29 (r12, r13) () (rv_c 2 rfl rfl ty25 rfl) (rv_t rfl) rfl (fun _ _ => NewCh.nil _ _ _ _)

set_option maxRecDepth 100000 in
set_option maxHeartbeats 8000000 in
theorem w_laws_FnTakeToken {w0 : World} {F : Nat → Prop} {v1 : Value} {code_0 : (List UInt8)} {κ : Bool → Prop} (hv1 : Sl elU8 (fun b => b < w0.heap.size ∧ ¬ feet [] b) w0 v1 code_0) (h : L_laws_FnTakeToken code_0 κ) :
    Calls Try.prog 10 #[v1] w0 (Ret [] F w0 κ (fun (r : Bool) (u : Unit) => (.bool r)) (fun (r : Bool) (u : Unit) => [])) := by
  refine enter (args := [v1]) [] Try.func10 rfl Try.ntmps10 rfl [roCh elU8 v1 code_0] (hf_cons hf_nil) (hh_cons hv1 hh_nil) (Given.nil w0).lt (Given.nil w0).disj (Given.nil w0).hold h ?_
  clear h hv1
  refine c_seq ?_
  refine c_region ?_
  refine o_as st rfl rfl ?_
  refine c_nil ?_
  refine l_then ?_
  refine c_seq ?_
  refine c_seq ?_
  refine c_region ?_
  refine o_mv st rfl rfl ?_
  refine o_len st el28 0 rfl reads_ro rfl rfl ?_
  refine o_gtr st rfl rfl rfl ?_
  refine c_nil ?_
  refine l_then ?_
  refine c_cond rfl ?_ ?_
  · refine c_seq ?_
    refine c_region ?_
    refine o_as st rfl rfl ?_
    refine c_nil ?_
    refine l_then ?_
    refine c_ret ?_
    refine l_ret ?_
    exact l_end1 Try.results10 true () (rv_t rfl) (fun _ _ => NewCh.nil _ _ _ _)
  · refine c_skip ?_
    refine l_then ?_
    refine c_seq ?_
    refine c_region ?_
    refine o_mv st rfl rfl ?_
    refine stw (o_callP (vs := [v1]) Try.call29 rfl rfl (by intro w m h; exact w_spec_DrawTakeToken (code_0 := code_0) (m.rd0 0 rfl reads_ro) h) ?_); rintro ⟨r3, r4⟩ _
    refine o_mv st rfl rfl ?_
    refine o_ext st (vs := [(.agg #[(.int .i64 r3.xSize), (.int .i64 r3.xEvery), (.int .i64 r3.xTokens), (.int .i64 r3.xLast)]), (.int .i64 r4)]) rfl rfl rfl ?_
    refine o_ext st (vs := [(.agg #[(.int .i64 r3.xSize), (.int .i64 r3.xEvery), (.int .i64 r3.xTokens), (.int .i64 r3.xLast)]), (.int .i64 r4)]) rfl rfl rfl ?_
    refine stw (o_alloc rfl [(.int .i64 0), (.int .i64 0), (.int .i64 0), (.int .i64 0)] zero25 ?_); intro b5
    refine stw (o_stc (cs' := [(.int .i64 r3.xSize), (.int .i64 r3.xEvery), (.int .i64 r3.xTokens), (.int .i64 r3.xLast)]) 0 rfl rfl rfl ty25 rfl rfl rfl rfl ?_)
    refine o_as st rfl rfl ?_
    refine c_nil ?_
    refine l_then ?_
    refine c_seq ?_
    refine c_region ?_
    refine o_ldc st (v := (.agg #[(.int .i64 r3.xSize), (.int .i64 r3.xEvery), (.int .i64 r3.xTokens), (.int .i64 r3.xLast)])) 0 rfl rfl rfl ty25 rfl ?_
    refine o_mv st rfl rfl ?_
    refine stw (o_callP (vs := [(.agg #[(.int .i64 r3.xSize), (.int .i64 r3.xEvery), (.int .i64 r3.xTokens), (.int .i64 r3.xLast)]), (.int .i64 r4)]) Try.call25 rfl rfl (by intro w m h; exact w_impl_TakeToken (b_0 := r3) (now_1 := r4) h) ?_); rintro ⟨r7, r8⟩ _
    refine o_mv st rfl rfl ?_
    refine o_ext st (vs := [(.agg #[(.int .i64 r7.xSize), (.int .i64 r7.xEvery), (.int .i64 r7.xTokens), (.int .i64 r7.xLast)]), (.bool r8)]) rfl rfl rfl ?_
    refine o_ext st (vs := [(.agg #[(.int .i64 r7.xSize), (.int .i64 r7.xEvery), (.int .i64 r7.xTokens), (.int .i64 r7.xLast)]), (.bool r8)]) rfl rfl rfl ?_
    refine stw (o_alloc rfl [(.int .i64 0), (.int .i64 0), (.int .i64 0), (.int .i64 0)] zero25 ?_); intro b9
    refine stw (o_stc (cs' := [(.int .i64 r7.xSize), (.int .i64 r7.xEvery), (.int .i64 r7.xTokens), (.int .i64 r7.xLast)]) 0 rfl rfl rfl ty25 rfl rfl rfl rfl ?_)
    refine o_as st rfl rfl ?_
    refine c_nil ?_
    refine l_then ?_
    refine c_seq ?_
    refine c_region ?_
    refine o_ldc st (v := (.agg #[(.int .i64 r3.xSize), (.int .i64 r3.xEvery), (.int .i64 r3.xTokens), (.int .i64 r3.xLast)])) 1 rfl rfl rfl ty25 rfl ?_
    refine o_mv st rfl rfl ?_
    refine stw (o_callP (vs := [(.agg #[(.int .i64 r3.xSize), (.int .i64 r3.xEvery), (.int .i64 r3.xTokens), (.int .i64 r3.xLast)]), (.int .i64 r4)]) Try.call24 rfl rfl (by intro w m h; exact w_spec_TakeToken (b_0 := r3) (now_1 := r4) h) ?_); rintro ⟨r11, r12⟩ _
    refine o_mv st rfl rfl ?_
    refine o_ext st (vs := [(.agg #[(.int .i64 r11.xSize), (.int .i64 r11.xEvery), (.int .i64 r11.xTokens), (.int .i64 r11.xLast)]), (.bool r12)]) rfl rfl rfl ?_
    refine o_ext st (vs := [(.agg #[(.int .i64 r11.xSize), (.int .i64 r11.xEvery), (.int .i64 r11.xTokens), (.int .i64 r11.xLast)]), (.bool r12)]) rfl rfl rfl ?_
    refine stw (o_alloc rfl [(.int .i64 0), (.int .i64 0), (.int .i64 0), (.int .i64 0)] zero25 ?_); intro b13
    refine stw (o_stc (cs' := [(.int .i64 r11.xSize), (.int .i64 r11.xEvery), (.int .i64 r11.xTokens), (.int .i64 r11.xLast)]) 0 rfl rfl rfl ty25 rfl rfl rfl rfl ?_)
    refine o_as st rfl rfl ?_
    refine c_nil ?_
    refine l_then ?_
    refine c_seq ?_
    refine c_join (σ := Bool) (fun (t15 : Bool) (a : Act) (w : World) => Has 97 [(3, (.pointer (some ⟨b5, 0, none⟩))), (4, (.int .i64 r4)), (5, (.pointer (some ⟨b9, 0, none⟩))), (6, (.bool r8)), (41, (.bool t15))] a ∧ Mem (fun _ => True) (feet []) w0 [cellCh b9 [(.int .i64 r7.xSize), (.int .i64 r7.xEvery), (.int .i64 r7.xTokens), (.int .i64 r7.xLast)] 25, cellCh b5 [(.int .i64 r3.xSize), (.int .i64 r3.xEvery), (.int .i64 r3.xTokens), (.int .i64 r3.xLast)] 25] w) ?_ ?_
    · intro k16
      refine c_region ?_
      refine o_ldc st (v := (.agg #[(.int .i64 r7.xSize), (.int .i64 r7.xEvery), (.int .i64 r7.xTokens), (.int .i64 r7.xLast)])) 1 rfl rfl rfl ty25 rfl ?_
      refine o_ldc st (v := (.agg #[(.int .i64 r11.xSize), (.int .i64 r11.xEvery), (.int .i64 r11.xTokens), (.int .i64 r11.xLast)])) 0 rfl rfl rfl ty25 rfl ?_
      refine o_bin st (.bool (!(decide (r7 = r11)))) rfl rfl rfl (neqs25 _ _ r7.xSize r7.xEvery r7.xTokens r7.xLast r11.xSize r11.xEvery r11.xTokens r11.xLast) ?_
      refine o_mv st rfl rfl ?_
      refine st_sp (dj := 37) rfl ?_ ?_
      · refine st_s rfl rfl rfl rfl ?_
        refine st_s rfl rfl rfl rfl ?_
        refine st_s rfl rfl rfl rfl ?_
        refine o_pickT st rfl rfl rfl ?_
        refine c_nil ?_
        exact l_join true (fun a w hE hm => ⟨hE.sub ⟨rfl, rfl, rfl, rfl, rfl, trivial⟩, (hm.pick [1, 2] rfl)⟩)
      · refine o_mv (st_g rfl rfl) rfl rfl ?_
        refine o_mv (st_g rfl rfl) rfl rfl ?_
        refine o_neqB (st_g rfl rfl) und4 rfl rfl rfl ?_
        refine o_pickF st rfl rfl rfl ?_
        refine c_nil ?_
        exact l_join (!(decide (r8 = r12))) (fun a w hE hm => ⟨hE.sub ⟨rfl, rfl, rfl, rfl, rfl, trivial⟩, (hm.pick [1, 2] rfl)⟩)
    · rintro t15 a w ⟨hE, hm⟩ h
      refine nx_of hE hm h ?_
      clear hE hm h
      refine c_cond rfl ?_ ?_
      · refine c_seq ?_
        refine c_region ?_
        refine o_as st rfl rfl ?_
        refine c_nil ?_
        refine l_then ?_
        refine c_ret ?_
        refine l_ret ?_
        exact l_end1 Try.results10 false () (rv_t rfl) (fun _ _ => NewCh.nil _ _ _ _)
      · refine c_skip ?_
        refine l_then ?_
        refine c_seq ?_
        refine c_join (σ := Bool) (fun (t17 : Bool) (a : Act) (w : World) => Has 97 [(3, (.pointer (some ⟨b5, 0, none⟩))), (4, (.int .i64 r4)), (5, (.pointer (some ⟨b9, 0, none⟩))), (6, (.bool r8)), (54, (.bool t17))] a ∧ Mem (fun _ => True) (feet []) w0 [cellCh b9 [(.int .i64 r7.xSize), (.int .i64 r7.xEvery), (.int .i64 r7.xTokens), (.int .i64 r7.xLast)] 25, cellCh b5 [(.int .i64 r3.xSize), (.int .i64 r3.xEvery), (.int .i64 r3.xTokens), (.int .i64 r3.xLast)] 25] w) ?_ ?_
        · intro k18
          refine c_region ?_
          refine o_ldc st (v := (.agg #[(.int .i64 r3.xSize), (.int .i64 r3.xEvery), (.int .i64 r3.xTokens), (.int .i64 r3.xLast)])) 1 rfl rfl rfl ty25 rfl ?_
          refine stw (o_callP (vs := [(.agg #[(.int .i64 r3.xSize), (.int .i64 r3.xEvery), (.int .i64 r3.xTokens), (.int .i64 r3.xLast)])]) Try.call14 rfl rfl (by intro w m h; exact w_spec_BucketValid (b_0 := r3) h) ?_); rintro r19 _
          refine o_not st rfl rfl ?_
          refine o_mv st rfl rfl ?_
          refine st_sp (dj := 45) rfl ?_ ?_
          · refine st_s rfl rfl rfl rfl ?_
            refine st_s rfl rfl rfl rfl ?_
            refine st_s rfl rfl rfl rfl ?_
            refine st_s rfl rfl rfl rfl ?_
            refine o_pickT st rfl rfl rfl ?_
            refine o_mv st rfl rfl ?_
            refine st_s rfl rfl rfl rfl ?_
            refine st_s rfl rfl rfl rfl ?_
            refine o_pickT st rfl rfl rfl ?_
            refine c_nil ?_
            exact l_join true (fun a w hE hm => ⟨hE.sub ⟨rfl, rfl, rfl, rfl, rfl, trivial⟩, (hm.pick [0, 1] rfl)⟩)
          · refine o_mv (st_g rfl rfl) rfl rfl ?_
            refine o_fad (st_g rfl rfl) rfl rfl fld25_3 rfl ?_
            refine o_ldc (st_g rfl rfl) (v := (.int .i64 r3.xLast)) 1 rfl rfl rfl ty3 rfl ?_
            refine o_lss (st_g rfl rfl) rfl rfl rfl ?_
            refine o_pickF st rfl rfl rfl ?_
            refine o_mv st rfl rfl ?_
            refine st_sp (dj := 51) rfl ?_ ?_
            · refine st_s rfl rfl rfl rfl ?_
              refine st_s rfl rfl rfl rfl ?_
              refine o_pickT st rfl rfl rfl ?_
              refine c_nil ?_
              exact l_join true (fun a w hE hm => ⟨hE.sub ⟨rfl, rfl, rfl, rfl, rfl, trivial⟩, (hm.pick [0, 1] rfl)⟩)
            · refine o_mv (st_g rfl rfl) rfl rfl ?_
              refine o_gtr (st_g rfl rfl) rfl rfl rfl ?_
              refine o_pickF st rfl rfl rfl ?_
              refine c_nil ?_
              exact l_join (decide (1000000 < r4)) (fun a w hE hm => ⟨hE.sub ⟨rfl, rfl, rfl, rfl, rfl, trivial⟩, (hm.pick [0, 1] rfl)⟩)
        · rintro t17 a w ⟨hE, hm⟩ h
          refine nx_of hE hm h ?_
          clear hE hm h
          refine c_cond rfl ?_ ?_
          · refine c_join (σ := Bool) (fun (t20 : Bool) (a : Act) (w : World) => Has 97 [(2, (.bool t20))] a ∧ Mem (fun _ => True) (feet []) w0 [] w) ?_ ?_
            · intro k21
              refine c_region ?_
              refine o_mv st rfl rfl ?_
              refine o_not st rfl rfl ?_
              refine o_mv st rfl rfl ?_
              refine st_sp (dj := 57) rfl ?_ ?_
              · refine o_ldc (st_g rfl rfl) (v := (.agg #[(.int .i64 r7.xSize), (.int .i64 r7.xEvery), (.int .i64 r7.xTokens), (.int .i64 r7.xLast)])) 0 rfl rfl rfl ty25 rfl ?_
                refine o_bld (st_g rfl rfl) (qs := []) (cells := [(.int .i64 0), (.int .i64 0), (.int .i64 0), (.int .i64 0)]) (by intro ρ h; simp only [List.map_toArray, List.map_cons, List.map_nil]) rfl bld25 rfl ?_
                refine o_bin (st_g rfl rfl) (.bool (decide (r7 = (GBucket.mk 0 0 0 0)))) rfl rfl rfl (eqls25 _ _ r7.xSize r7.xEvery r7.xTokens r7.xLast 0 0 0 0) ?_
                refine o_pickT st rfl rfl rfl ?_
                refine o_mv st rfl rfl ?_
                refine st_sp (dj := 62) rfl ?_ ?_
                · refine st_gw rfl rfl (o_callP (vs := []) Try.call18 rfl rfl (by intro w m h; exact w_laws_alive h) ?_); rintro r22 _
                  refine o_pickT st rfl rfl rfl ?_
                  refine o_as st rfl rfl ?_
                  refine c_nil ?_
                  exact l_join r22 (fun a w hE hm => ⟨hE.sub ⟨rfl, trivial⟩, (hm.pick [] rfl)⟩)
                · refine st_s rfl rfl rfl rfl ?_
                  refine o_pickF st rfl rfl rfl ?_
                  refine o_as st rfl rfl ?_
                  refine c_nil ?_
                  exact l_join false (fun a w hE hm => ⟨hE.sub ⟨rfl, trivial⟩, (hm.pick [] rfl)⟩)
              · refine st_s rfl rfl rfl rfl ?_
                refine st_s rfl rfl rfl rfl ?_
                refine st_s rfl rfl rfl rfl ?_
                refine o_pickF st rfl rfl rfl ?_
                refine o_mv st rfl rfl ?_
                refine st_s rfl rfl rfl rfl ?_
                refine o_pickF st rfl rfl rfl ?_
                refine o_as st rfl rfl ?_
                refine c_nil ?_
                exact l_join false (fun a w hE hm => ⟨hE.sub ⟨rfl, trivial⟩, (hm.pick [] rfl)⟩)
            · rintro t20 a w ⟨hE, hm⟩ h
              refine nx_of hE hm h ?_
              clear hE hm h
              refine c_ret ?_
              refine l_ret ?_
              exact l_end1 Try.results10 t20 () (rv_t rfl) (fun _ _ => NewCh.nil _ _ _ _)
          · refine c_skip ?_
            refine l_then ?_
            refine c_seq ?_
            refine c_region ?_
            refine o_ldc st (v := (.agg #[(.int .i64 r3.xSize), (.int .i64 r3.xEvery), (.int .i64 r3.xTokens), (.int .i64 r3.xLast)])) 1 rfl rfl rfl ty25 rfl ?_
            refine o_mv st rfl rfl ?_
            refine stw (o_callP (vs := [(.agg #[(.int .i64 r3.xSize), (.int .i64 r3.xEvery), (.int .i64 r3.xTokens), (.int .i64 r3.xLast)]), (.int .i64 r4)]) Try.call22 rfl rfl (by intro w m h; exact w_impl_BucketAt (b_0 := r3) (now_1 := r4) h) ?_); rintro r23 _
            refine stw (o_alloc rfl [(.int .i64 0), (.int .i64 0), (.int .i64 0), (.int .i64 0)] zero25 ?_); intro b24
            refine stw (o_stc (cs' := [(.int .i64 r23.xSize), (.int .i64 r23.xEvery), (.int .i64 r23.xTokens), (.int .i64 r23.xLast)]) 0 rfl rfl rfl ty25 rfl rfl rfl rfl ?_)
            refine c_nil ?_
            refine l_then ?_
            refine c_seq ?_
            refine c_region ?_
            refine o_as st rfl rfl ?_
            refine c_nil ?_
            refine l_then ?_
            refine c_seq ?_
            refine c_region ?_
            refine o_ldc st (v := (.agg #[(.int .i64 r3.xSize), (.int .i64 r3.xEvery), (.int .i64 r3.xTokens), (.int .i64 r3.xLast)])) 2 rfl rfl rfl ty25 rfl ?_
            refine stw (o_alloc rfl [(.int .i64 0), (.int .i64 0), (.int .i64 0), (.int .i64 0)] zero25 ?_); intro b26
            refine stw (o_stc (cs' := [(.int .i64 r3.xSize), (.int .i64 r3.xEvery), (.int .i64 r3.xTokens), (.int .i64 r3.xLast)]) 0 rfl rfl rfl ty25 rfl rfl rfl rfl ?_)
            refine c_nil ?_
            refine l_then ?_
            refine c_join (σ := Int) (fun (t28 : Int) (a : Act) (w : World) => Has 97 [(5, (.pointer (some ⟨b9, 0, none⟩))), (6, (.bool r8)), (9, (.pointer (some ⟨b24, 0, none⟩))), (10, (.int .i64 t28))] a ∧ Mem (fun _ => True) (feet []) w0 [cellCh b24 [(.int .i64 r23.xSize), (.int .i64 r23.xEvery), (.int .i64 r23.xTokens), (.int .i64 r23.xLast)] 25, cellCh b9 [(.int .i64 r7.xSize), (.int .i64 r7.xEvery), (.int .i64 r7.xTokens), (.int .i64 r7.xLast)] 25] w) ?_ ?_
            · intro k29
              refine c_block ?_
              refine c_loop (σ := (Int × Int × Int × Int × Int)) (fun ((t30, t31, t32, t33, t34) : (Int × Int × Int × Int × Int)) (a : Act) (w : World) => Has 97 [(4, (.int .i64 r4)), (5, (.pointer (some ⟨b9, 0, none⟩))), (6, (.bool r8)), (9, (.pointer (some ⟨b24, 0, none⟩))), (10, (.int .i64 t34)), (11, (.pointer (some ⟨b26, 0, none⟩)))] a ∧ Mem (fun _ => True) (feet []) w0 [cellCh b26 [(.int .i64 t30), (.int .i64 t31), (.int .i64 t32), (.int .i64 t33)] 25, cellCh b24 [(.int .i64 r23.xSize), (.int .i64 r23.xEvery), (.int .i64 r23.xTokens), (.int .i64 r23.xLast)] 25, cellCh b9 [(.int .i64 r7.xSize), (.int .i64 r7.xEvery), (.int .i64 r7.xTokens), (.int .i64 r7.xLast)] 25] w) (fun a w hE hm => ⟨hE.sub ⟨rfl, rfl, rfl, rfl, rfl, rfl, trivial⟩, (hm.pick [0, 1, 2] rfl)⟩) ?_
              rintro nx35 ⟨t30, t31, t32, t33, t34⟩ a w ⟨hE, hm⟩ h
              refine nx_of hE hm h ?_
              clear hE hm h
              refine c_seq ?_
              refine c_seq ?_
              refine c_region ?_
              refine o_mv st rfl rfl ?_
              refine o_leq st rfl rfl rfl ?_
              refine c_nil ?_
              refine l_then ?_
              refine c_cond rfl ?_ ?_
              · refine c_skip ?_
                refine l_then ?_
                refine c_block ?_
                refine c_seq ?_
                refine c_region ?_
                refine o_ldc st (v := (.agg #[(.int .i64 t30), (.int .i64 t31), (.int .i64 t32), (.int .i64 t33)])) 0 rfl rfl rfl ty25 rfl ?_
                refine o_mv st rfl rfl ?_
                refine stw (o_callP (vs := [(.agg #[(.int .i64 t30), (.int .i64 t31), (.int .i64 t32), (.int .i64 t33)]), (.int .i64 r4)]) Try.call25 rfl rfl (by intro w m h; exact w_impl_TakeToken (b_0 := (GBucket.mk t30 t31 t32 t33)) (now_1 := r4) h) ?_); rintro ⟨r36, r37⟩ _
                refine o_mv st rfl rfl ?_
                refine o_ext st (vs := [(.agg #[(.int .i64 r36.xSize), (.int .i64 r36.xEvery), (.int .i64 r36.xTokens), (.int .i64 r36.xLast)]), (.bool r37)]) rfl rfl rfl ?_
                refine o_ext st (vs := [(.agg #[(.int .i64 r36.xSize), (.int .i64 r36.xEvery), (.int .i64 r36.xTokens), (.int .i64 r36.xLast)]), (.bool r37)]) rfl rfl rfl ?_
                refine stw (o_alloc rfl [(.int .i64 0), (.int .i64 0), (.int .i64 0), (.int .i64 0)] zero25 ?_); intro b38
                refine stw (o_stc (cs' := [(.int .i64 r36.xSize), (.int .i64 r36.xEvery), (.int .i64 r36.xTokens), (.int .i64 r36.xLast)]) 0 rfl rfl rfl ty25 rfl rfl rfl rfl ?_)
                refine o_as st rfl rfl ?_
                refine c_nil ?_
                refine l_then ?_
                refine c_seq ?_
                refine c_seq ?_
                refine c_region ?_
                refine o_mv st rfl rfl ?_
                refine o_not st rfl rfl ?_
                refine c_nil ?_
                refine l_then ?_
                refine c_cond rfl ?_ ?_
                · refine c_exit ?_
                  refine l_exit ?_
                  refine b_pass rfl ?_
                  refine l_exit ?_
                  refine b_exit ?_
                  exact l_join t34 (fun a w hE hm => ⟨hE.sub ⟨rfl, rfl, rfl, rfl, trivial⟩, (hm.pick [2, 3] rfl)⟩)
                · refine c_skip ?_
                  refine l_then ?_
                  refine c_seq ?_
                  refine c_region ?_
                  refine o_ldc st (v := (.agg #[(.int .i64 r36.xSize), (.int .i64 r36.xEvery), (.int .i64 r36.xTokens), (.int .i64 r36.xLast)])) 0 rfl rfl rfl ty25 rfl ?_
                  refine stw (o_stc (cs' := [(.int .i64 r36.xSize), (.int .i64 r36.xEvery), (.int .i64 r36.xTokens), (.int .i64 r36.xLast)]) 1 rfl rfl rfl ty25 rfl rfl rfl rfl ?_)
                  refine c_nil ?_
                  refine l_then ?_
                  refine c_region ?_
                  refine o_mv st rfl rfl ?_
                  refine o_add st rfl rfl rfl ?_; intro t40
                  refine o_as st rfl rfl ?_
                  refine c_nil ?_
                  refine b_norm ?_
                  exact l_join (r36.xSize, r36.xEvery, r36.xTokens, r36.xLast, t40) (fun a w hE hm => ⟨hE.sub ⟨rfl, rfl, rfl, rfl, rfl, rfl, trivial⟩, (hm.pick [1, 2, 3] rfl)⟩)
              · refine c_exit ?_
                refine l_exit ?_
                refine l_exit ?_
                refine b_exit ?_
                exact l_join t34 (fun a w hE hm => ⟨hE.sub ⟨rfl, rfl, rfl, rfl, trivial⟩, (hm.pick [1, 2] rfl)⟩)
            · rintro t28 a w ⟨hE, hm⟩ h
              refine nx_of hE hm h ?_
              clear hE hm h
              refine c_join (σ := Bool) (fun (t41 : Bool) (a : Act) (w : World) => Has 97 [(2, (.bool t41))] a ∧ Mem (fun _ => True) (feet []) w0 [] w) ?_ ?_
              · intro k42
                refine c_region ?_
                refine o_mv st rfl rfl ?_
                refine o_fad st rfl rfl fld25_2 rfl ?_
                refine o_ldc st (v := (.int .i64 r23.xTokens)) 0 rfl rfl rfl ty3 rfl ?_
                refine o_gtr st rfl rfl rfl ?_
                refine o_eqlB st und4 rfl rfl rfl ?_
                refine o_mv st rfl rfl ?_
                refine st_sp (dj := 87) rfl ?_ ?_
                · refine o_mv (st_g rfl rfl) rfl rfl ?_
                  refine o_fad (st_g rfl rfl) rfl rfl fld25_2 rfl ?_
                  refine o_ldc (st_g rfl rfl) (v := (.int .i64 r23.xTokens)) 0 rfl rfl rfl ty3 rfl ?_
                  refine o_eql (st_g rfl rfl) und3 rfl rfl rfl ?_
                  refine o_pickT st rfl rfl rfl ?_
                  refine o_mv st rfl rfl ?_
                  refine st_sp (dj := 93) rfl ?_ ?_
                  · refine o_ldc (st_g rfl rfl) (v := (.agg #[(.int .i64 r7.xSize), (.int .i64 r7.xEvery), (.int .i64 r7.xTokens), (.int .i64 r7.xLast)])) 1 rfl rfl rfl ty25 rfl ?_
                    refine st_gw rfl rfl (o_callP (vs := [(.agg #[(.int .i64 r7.xSize), (.int .i64 r7.xEvery), (.int .i64 r7.xTokens), (.int .i64 r7.xLast)])]) Try.call16 rfl rfl (by intro w m h; exact w_impl_BucketValid (b_0 := r7) h) ?_); rintro r43 _
                    refine o_pickT st rfl rfl rfl ?_
                    refine o_as st rfl rfl ?_
                    refine c_nil ?_
                    exact l_join r43 (fun a w hE hm => ⟨hE.sub ⟨rfl, trivial⟩, (hm.pick [] rfl)⟩)
                  · refine st_s rfl rfl rfl rfl ?_
                    refine st_s rfl rfl rfl rfl ?_
                    refine o_pickF st rfl rfl rfl ?_
                    refine o_as st rfl rfl ?_
                    refine c_nil ?_
                    exact l_join false (fun a w hE hm => ⟨hE.sub ⟨rfl, trivial⟩, (hm.pick [] rfl)⟩)
                · refine st_s rfl rfl rfl rfl ?_
                  refine st_s rfl rfl rfl rfl ?_
                  refine st_s rfl rfl rfl rfl ?_
                  refine st_s rfl rfl rfl rfl ?_
                  refine o_pickF st rfl rfl rfl ?_
                  refine o_mv st rfl rfl ?_
                  refine st_s rfl rfl rfl rfl ?_
                  refine st_s rfl rfl rfl rfl ?_
                  refine o_pickF st rfl rfl rfl ?_
                  refine o_as st rfl rfl ?_
                  refine c_nil ?_
                  exact l_join false (fun a w hE hm => ⟨hE.sub ⟨rfl, trivial⟩, (hm.pick [] rfl)⟩)
              · rintro t41 a w ⟨hE, hm⟩ h
                refine nx_of hE hm h ?_
                clear hE hm h
                refine c_ret ?_
                exact l_end1 Try.results10 t41 () (rv_t rfl) (fun _ _ => NewCh.nil _ _ _ _)

set_option maxRecDepth 100000 in
set_option maxHeartbeats 8000000 in
theorem w_spec_DrawBucketAt {w0 : World} {F : Nat → Prop} {v1 : Value} {code_0 : (List UInt8)} {κ : (GBucket × Int) → Prop} (hv1 : Sl elU8 (fun b => b < w0.heap.size ∧ ¬ feet [] b) w0 v1 code_0) (h : L_spec_DrawBucketAt code_0 κ) :
    Calls Try.prog 26 #[v1] w0 (Ret [] F w0 κ (fun (r : (GBucket × Int)) (u : Unit) => .tuple #[(.agg #[(.int .i64 r.1.xSize), (.int .i64 r.1.xEvery), (.int .i64 r.1.xTokens), (.int .i64 r.1.xLast)]), (.int .i64 r.2)]) (fun (r : (GBucket × Int)) (u : Unit) => [])) := by
  refine enter (args := [v1]) [] Try.func26 rfl Try.ntmps26 rfl [roCh elU8 v1 code_0] (hf_cons hf_nil) (hh_cons hv1 hh_nil) (Given.nil w0).lt (Given.nil w0).disj (Given.nil w0).hold h ?_
  clear h hv1
  refine c_seq ?_
  refine c_region ?_
  refine stw (o_alloc rfl [(.int .i64 0), (.int .i64 0), (.int .i64 0), (.int .i64 0)] zero25 ?_); intro b3
  refine o_as st rfl rfl ?_
  refine c_nil ?_
  refine l_then ?_
  refine c_seq ?_
  refine c_region ?_
  refine o_mv st rfl rfl ?_
  refine stw (o_callP (vs := [v1]) Try.call41 rfl rfl (by intro w m h; exact w_spec_l20Open (code_0 := code_0) fz_ok0 (m.ro 1 rfl) h) ?_); rintro ⟨r7, r10⟩ ⟨b6, v8⟩
  refine pk [0, 1, 2, 3] rfl ?_
  refine stw (o_call (vs := [(.pointer (some ⟨b6, 0, none⟩))]) (M0 := [cellCh b6 [v8, (.int .i64 r10)] 66]) Try.call46 rfl rfl (by intro w m h; exact w_spec_l20Later (r_0_b := r7) (r_0_p := r10) m.given (m.rdM 0 rfl reads_ro) h) ?_); rintro ⟨r12, r13, r14⟩ _
  refine o_ext st (vs := [(.agg #[(.int .i64 r12.xSize), (.int .i64 r12.xEvery), (.int .i64 r12.xTokens), (.int .i64 r12.xLast)]), (.int .i64 r13)]) rfl rfl rfl ?_
  refine o_ext st (vs := [(.agg #[(.int .i64 r12.xSize), (.int .i64 r12.xEvery), (.int .i64 r12.xTokens), (.int .i64 r12.xLast)]), (.int .i64 r13)]) rfl rfl rfl ?_
  refine stw (o_stc (cs' := [(.int .i64 r12.xSize), (.int .i64 r12.xEvery), (.int .i64 r12.xTokens), (.int .i64 r12.xLast)]) 2 rfl rfl rfl ty25 rfl rfl rfl rfl ?_)
  refine o_as st rfl rfl ?_
  refine c_nil ?_
  refine l_then ?_
  refine c_ret ?_
  exact l_end2 Try.results26 (r12, r13) () (rv_c 2 rfl rfl ty25 rfl) (rv_t rfl) rfl (fun _ _ => NewCh.nil _ _ _ _)

set_option maxRecDepth 100000 in
set_option maxHeartbeats 8000000 in
theorem w_laws_FnBucketAt {w0 : World} {F : Nat → Prop} {v1 v3 : Value} {code_0 : (List UInt8)} {more_1 : (List UInt8)} {κ : Bool → Prop} (hv1 : Sl elU8 (fun b => b < w0.heap.size ∧ ¬ feet [] b) w0 v1 code_0) (hv3 : Sl elU8 (fun b => b < w0.heap.size ∧ ¬ feet [] b) w0 v3 more_1) (h : L_laws_FnBucketAt code_0 more_1 κ) :
    Calls Try.prog 8 #[v1, v3] w0 (Ret [] F w0 κ (fun (r : Bool) (u : Unit) => (.bool r)) (fun (r : Bool) (u : Unit) => [])) := by
  refine enter (args := [v1, v3]) [] Try.func8 rfl Try.ntmps8 rfl [roCh elU8 v1 code_0, roCh elU8 v3 more_1] (hf_cons (hf_cons hf_nil)) (hh_cons hv1 (hh_cons hv3 hh_nil)) (Given.nil w0).lt (Given.nil w0).disj (Given.nil w0).hold h ?_
  clear h hv1 hv3
  refine c_seq ?_
  refine c_region ?_
  refine o_as st rfl rfl ?_
  refine c_nil ?_
  refine l_then ?_
  refine c_seq ?_
  refine c_join (σ := Bool) (fun (t5 : Bool) (a : Act) (w : World) => Has 113 [(0, v1), (1, v3), (18, (.bool t5))] a ∧ Mem (fun _ => True) (feet []) w0 [roCh elU8 v1 code_0, roCh elU8 v3 more_1] w) ?_ ?_
  · intro k6
    refine c_region ?_
    refine o_mv st rfl rfl ?_
    refine o_len st el28 0 rfl reads_ro rfl rfl ?_
    refine o_gtr st rfl rfl rfl ?_
    refine o_mv st rfl rfl ?_
    refine st_sp (dj := 14) rfl ?_ ?_
    · refine st_s rfl rfl rfl rfl ?_
      refine st_s rfl rfl rfl rfl ?_
      refine st_s rfl rfl rfl rfl ?_
      refine o_pickT st rfl rfl rfl ?_
      refine c_nil ?_
      exact l_join true (fun a w hE hm => ⟨hE.sub ⟨rfl, rfl, rfl, trivial⟩, (hm.pick [0, 1] rfl)⟩)
    · refine o_mv (st_g rfl rfl) rfl rfl ?_
      refine o_len (st_g rfl rfl) el28 1 rfl reads_ro rfl rfl ?_
      refine o_gtr (st_g rfl rfl) rfl rfl rfl ?_
      refine o_pickF st rfl rfl rfl ?_
      refine c_nil ?_
      exact l_join (decide (1048576 < (more_1.length : Int))) (fun a w hE hm => ⟨hE.sub ⟨rfl, rfl, rfl, trivial⟩, (hm.pick [0, 1] rfl)⟩)
  · rintro t5 a w ⟨hE, hm⟩ h
    refine nx_of hE hm h ?_
    clear hE hm h
    refine c_cond rfl ?_ ?_
    · refine c_seq ?_
      refine c_region ?_
      refine o_as st rfl rfl ?_
      refine c_nil ?_
      refine l_then ?_
      refine c_ret ?_
      refine l_ret ?_
      exact l_end1 Try.results8 true () (rv_t rfl) (fun _ _ => NewCh.nil _ _ _ _)
    · refine c_skip ?_
      refine l_then ?_
      refine c_seq ?_
      refine c_region ?_
      refine o_mv st rfl rfl ?_
      refine stw (o_callP (vs := [v1]) Try.call26 rfl rfl (by intro w m h; exact w_spec_DrawBucketAt (code_0 := code_0) (m.rd0 0 rfl reads_ro) h) ?_); rintro ⟨r7, r8⟩ _
      refine o_mv st rfl rfl ?_
      refine o_ext st (vs := [(.agg #[(.int .i64 r7.xSize), (.int .i64 r7.xEvery), (.int .i64 r7.xTokens), (.int .i64 r7.xLast)]), (.int .i64 r8)]) rfl rfl rfl ?_
      refine o_ext st (vs := [(.agg #[(.int .i64 r7.xSize), (.int .i64 r7.xEvery), (.int .i64 r7.xTokens), (.int .i64 r7.xLast)]), (.int .i64 r8)]) rfl rfl rfl ?_
      refine stw (o_alloc rfl [(.int .i64 0), (.int .i64 0), (.int .i64 0), (.int .i64 0)] zero25 ?_); intro b9
      refine stw (o_stc (cs' := [(.int .i64 r7.xSize), (.int .i64 r7.xEvery), (.int .i64 r7.xTokens), (.int .i64 r7.xLast)]) 0 rfl rfl rfl ty25 rfl rfl rfl rfl ?_)
      refine o_as st rfl rfl ?_
      refine c_nil ?_
      refine l_then ?_
      refine c_seq ?_
      refine c_region ?_
      refine o_ldc st (v := (.agg #[(.int .i64 r7.xSize), (.int .i64 r7.xEvery), (.int .i64 r7.xTokens), (.int .i64 r7.xLast)])) 0 rfl rfl rfl ty25 rfl ?_
      refine o_mv st rfl rfl ?_
      refine stw (o_callP (vs := [(.agg #[(.int .i64 r7.xSize), (.int .i64 r7.xEvery), (.int .i64 r7.xTokens), (.int .i64 r7.xLast)]), (.int .i64 r8)]) Try.call22 rfl rfl (by intro w m h; exact w_impl_BucketAt (b_0 := r7) (now_1 := r8) h) ?_); rintro r11 _
      refine stw (o_alloc rfl [(.int .i64 0), (.int .i64 0), (.int .i64 0), (.int .i64 0)] zero25 ?_); intro b12
      refine stw (o_stc (cs' := [(.int .i64 r11.xSize), (.int .i64 r11.xEvery), (.int .i64 r11.xTokens), (.int .i64 r11.xLast)]) 0 rfl rfl rfl ty25 rfl rfl rfl rfl ?_)
      refine c_nil ?_
      refine l_then ?_
      refine c_seq ?_
      refine c_seq ?_
      refine c_draw mixed 5 rfl [cellCh b12 [(.int .i64 r11.xSize), (.int .i64 r11.xEvery), (.int .i64 r11.xTokens), (.int .i64 r11.xLast)] 25, cellCh b9 [(.int .i64 r7.xSize), (.int .i64 r7.xEvery), (.int .i64 r7.xTokens), (.int .i64 r7.xLast)] 25, roCh elU8 v1 code_0, roCh elU8 v3 more_1] ?_
      refine o_ldc (d_take (i := 0) rfl (by kernel_rfl) (by kernel_rfl) (by kernel_rfl) (fun c a d v w h => by cases d <;> exact h) (fun w m => m.pick [0, 1, 2, 3] rfl)) (v := (.agg #[(.int .i64 r11.xSize), (.int .i64 r11.xEvery), (.int .i64 r11.xTokens), (.int .i64 r11.xLast)])) 0 rfl rfl rfl ty25 rfl ?_
      refine o_ldc (d_take (i := 1) rfl (by kernel_rfl) (by kernel_rfl) (by kernel_rfl) (fun c a d v w h => by cases d <;> exact h) (fun w m => m.pick [0, 1, 2, 3] rfl)) (v := (.agg #[(.int .i64 r7.xSize), (.int .i64 r7.xEvery), (.int .i64 r7.xTokens), (.int .i64 r7.xLast)])) 1 rfl rfl rfl ty25 rfl ?_
      refine o_mv (d_take (i := 2) rfl (by kernel_rfl) (by kernel_rfl) (by kernel_rfl) (fun c a d v w h => by cases d <;> exact h) (fun w m => m.pick [0, 1, 2, 3] rfl)) rfl rfl ?_
      refine d_one (i := 3) rfl (by kernel_rfl) (o_callP (vs := [(.agg #[(.int .i64 r7.xSize), (.int .i64 r7.xEvery), (.int .i64 r7.xTokens), (.int .i64 r7.xLast)]), (.int .i64 r8)]) Try.call21 rfl rfl (by intro w m h; exact w_spec_BucketAt (b_0 := r7) (now_1 := r8) h) ?_); rintro r14 _
      refine d_and (fun w m => m.pick [0, 1, 2, 3] rfl) ?_
      refine o_bin (d_take (i := 4) rfl (by kernel_rfl) (by kernel_rfl) (by kernel_rfl) (fun c a d v w h => by cases d <;> exact h) (fun w m => m.pick [0, 1, 2, 3] rfl)) (.bool (!(decide (r11 = r14)))) rfl rfl rfl (neqs25 _ _ r11.xSize r11.xEvery r11.xTokens r11.xLast r14.xSize r14.xEvery r14.xTokens r14.xLast) ?_
      refine d_done (by kernel_rfl) ?_
      refine l_then ?_
      refine c_cond rfl ?_ ?_
      · refine c_seq ?_
        refine c_region ?_
        refine o_as st rfl rfl ?_
        refine c_nil ?_
        refine l_then ?_
        refine c_ret ?_
        refine l_ret ?_
        exact l_end1 Try.results8 false () (rv_t rfl) (fun _ _ => NewCh.nil _ _ _ _)
      · refine c_skip ?_
        refine l_then ?_
        refine c_seq ?_
        refine c_join (σ := Bool) (fun (t15 : Bool) (a : Act) (w : World) => Has 113 [(1, v3), (5, (.pointer (some ⟨b9, 0, none⟩))), (6, (.int .i64 r8)), (7, (.pointer (some ⟨b12, 0, none⟩))), (44, (.bool t15))] a ∧ Mem (fun _ => True) (feet []) w0 [cellCh b12 [(.int .i64 r11.xSize), (.int .i64 r11.xEvery), (.int .i64 r11.xTokens), (.int .i64 r11.xLast)] 25, cellCh b9 [(.int .i64 r7.xSize), (.int .i64 r7.xEvery), (.int .i64 r7.xTokens), (.int .i64 r7.xLast)] 25, roCh elU8 v3 more_1] w) ?_ ?_
        · intro k16
          refine c_region ?_
          refine o_ldc st (v := (.agg #[(.int .i64 r7.xSize), (.int .i64 r7.xEvery), (.int .i64 r7.xTokens), (.int .i64 r7.xLast)])) 1 rfl rfl rfl ty25 rfl ?_
          refine stw (o_callP (vs := [(.agg #[(.int .i64 r7.xSize), (.int .i64 r7.xEvery), (.int .i64 r7.xTokens), (.int .i64 r7.xLast)])]) Try.call14 rfl rfl (by intro w m h; exact w_spec_BucketValid (b_0 := r7) h) ?_); rintro r17 _
          refine o_not st rfl rfl ?_
          refine o_mv st rfl rfl ?_
          refine st_sp (dj := 35) rfl ?_ ?_
          · refine st_s rfl rfl rfl rfl ?_
            refine st_s rfl rfl rfl rfl ?_
            refine st_s rfl rfl rfl rfl ?_
            refine st_s rfl rfl rfl rfl ?_
            refine o_pickT st rfl rfl rfl ?_
            refine o_mv st rfl rfl ?_
            refine st_s rfl rfl rfl rfl ?_
            refine st_s rfl rfl rfl rfl ?_
            refine o_pickT st rfl rfl rfl ?_
            refine c_nil ?_
            exact l_join true (fun a w hE hm => ⟨hE.sub ⟨rfl, rfl, rfl, rfl, rfl, trivial⟩, (hm.pick [0, 1, 3] rfl)⟩)
          · refine o_mv (st_g rfl rfl) rfl rfl ?_
            refine o_fad (st_g rfl rfl) rfl rfl fld25_3 rfl ?_
            refine o_ldc (st_g rfl rfl) (v := (.int .i64 r7.xLast)) 1 rfl rfl rfl ty3 rfl ?_
            refine o_lss (st_g rfl rfl) rfl rfl rfl ?_
            refine o_pickF st rfl rfl rfl ?_
            refine o_mv st rfl rfl ?_
            refine st_sp (dj := 41) rfl ?_ ?_
            · refine st_s rfl rfl rfl rfl ?_
              refine st_s rfl rfl rfl rfl ?_
              refine o_pickT st rfl rfl rfl ?_
              refine c_nil ?_
              exact l_join true (fun a w hE hm => ⟨hE.sub ⟨rfl, rfl, rfl, rfl, rfl, trivial⟩, (hm.pick [0, 1, 3] rfl)⟩)
            · refine o_mv (st_g rfl rfl) rfl rfl ?_
              refine o_gtr (st_g rfl rfl) rfl rfl rfl ?_
              refine o_pickF st rfl rfl rfl ?_
              refine c_nil ?_
              exact l_join (decide (1000000 < r8)) (fun a w hE hm => ⟨hE.sub ⟨rfl, rfl, rfl, rfl, rfl, trivial⟩, (hm.pick [0, 1, 3] rfl)⟩)
        · rintro t15 a w ⟨hE, hm⟩ h
          refine nx_of hE hm h ?_
          clear hE hm h
          refine c_cond rfl ?_ ?_
          · refine c_join (σ := Bool) (fun (t18 : Bool) (a : Act) (w : World) => Has 113 [(4, (.bool t18))] a ∧ Mem (fun _ => True) (feet []) w0 [] w) ?_ ?_
            · intro k19
              refine c_region ?_
              refine o_ldc st (v := (.agg #[(.int .i64 r11.xSize), (.int .i64 r11.xEvery), (.int .i64 r11.xTokens), (.int .i64 r11.xLast)])) 0 rfl rfl rfl ty25 rfl ?_
              refine o_bld st (qs := []) (cells := [(.int .i64 0), (.int .i64 0), (.int .i64 0), (.int .i64 0)]) (by intro ρ h; simp only [List.map_toArray, List.map_cons, List.map_nil]) rfl bld25 rfl ?_
              refine o_bin st (.bool (decide (r11 = (GBucket.mk 0 0 0 0)))) rfl rfl rfl (eqls25 _ _ r11.xSize r11.xEvery r11.xTokens r11.xLast 0 0 0 0) ?_
              refine o_mv st rfl rfl ?_
              refine st_sp (dj := 48) rfl ?_ ?_
              · refine st_gw rfl rfl (o_callP (vs := []) Try.call18 rfl rfl (by intro w m h; exact w_laws_alive h) ?_); rintro r20 _
                refine o_pickT st rfl rfl rfl ?_
                refine o_as st rfl rfl ?_
                refine c_nil ?_
                exact l_join r20 (fun a w hE hm => ⟨hE.sub ⟨rfl, trivial⟩, (hm.pick [] rfl)⟩)
              · refine st_s rfl rfl rfl rfl ?_
                refine o_pickF st rfl rfl rfl ?_
                refine o_as st rfl rfl ?_
                refine c_nil ?_
                exact l_join false (fun a w hE hm => ⟨hE.sub ⟨rfl, trivial⟩, (hm.pick [] rfl)⟩)
            · rintro t18 a w ⟨hE, hm⟩ h
              refine nx_of hE hm h ?_
              clear hE hm h
              refine c_ret ?_
              refine l_ret ?_
              exact l_end1 Try.results8 t18 () (rv_t rfl) (fun _ _ => NewCh.nil _ _ _ _)
          · refine c_skip ?_
            refine l_then ?_
            refine c_seq ?_
            refine c_region ?_
            refine o_mv st rfl rfl ?_
            refine o_mv st rfl rfl ?_
            refine o_len st el28 2 rfl reads_ro rfl rfl ?_
            refine o_rem st rfl rfl rfl ?_; intro t21
            refine o_add st rfl rfl rfl ?_; intro t22
            refine o_min st rfl rfl rfl ?_
            refine o_as st rfl rfl ?_
            refine c_nil ?_
            refine l_then ?_
            refine c_seq ?_
            refine c_region ?_
            refine o_ldc st (v := (.agg #[(.int .i64 r11.xSize), (.int .i64 r11.xEvery), (.int .i64 r11.xTokens), (.int .i64 r11.xLast)])) 0 rfl rfl rfl ty25 rfl ?_
            refine o_mv st rfl rfl ?_
            refine stw (o_callP (vs := [(.agg #[(.int .i64 r11.xSize), (.int .i64 r11.xEvery), (.int .i64 r11.xTokens), (.int .i64 r11.xLast)]), (.int .i64 (min 1000000 t22))]) Try.call22 rfl rfl (by intro w m h; exact w_impl_BucketAt (b_0 := r11) (now_1 := (min 1000000 t22)) h) ?_); rintro r23 _
            refine stw (o_alloc rfl [(.int .i64 0), (.int .i64 0), (.int .i64 0), (.int .i64 0)] zero25 ?_); intro b24
            refine stw (o_stc (cs' := [(.int .i64 r23.xSize), (.int .i64 r23.xEvery), (.int .i64 r23.xTokens), (.int .i64 r23.xLast)]) 0 rfl rfl rfl ty25 rfl rfl rfl rfl ?_)
            refine c_nil ?_
            refine l_then ?_
            refine c_seq ?_
            refine c_region ?_
            refine o_ldc st (v := (.agg #[(.int .i64 r7.xSize), (.int .i64 r7.xEvery), (.int .i64 r7.xTokens), (.int .i64 r7.xLast)])) 2 rfl rfl rfl ty25 rfl ?_
            refine o_mv st rfl rfl ?_
            refine stw (o_callP (vs := [(.agg #[(.int .i64 r7.xSize), (.int .i64 r7.xEvery), (.int .i64 r7.xTokens), (.int .i64 r7.xLast)]), (.int .i64 (min 1000000 t22))]) Try.call22 rfl rfl (by intro w m h; exact w_impl_BucketAt (b_0 := r7) (now_1 := (min 1000000 t22)) h) ?_); rintro r26 _
            refine stw (o_alloc rfl [(.int .i64 0), (.int .i64 0), (.int .i64 0), (.int .i64 0)] zero25 ?_); intro b27
            refine stw (o_stc (cs' := [(.int .i64 r26.xSize), (.int .i64 r26.xEvery), (.int .i64 r26.xTokens), (.int .i64 r26.xLast)]) 0 rfl rfl rfl ty25 rfl rfl rfl rfl ?_)
            refine c_nil ?_
            refine l_then ?_
            refine c_join (σ := Bool) (fun (t29 : Bool) (a : Act) (w : World) => Has 113 [(4, (.bool t29))] a ∧ Mem (fun _ => True) (feet []) w0 [] w) ?_ ?_
            · intro k30
              refine c_region ?_
              refine o_ldc st (v := (.agg #[(.int .i64 r11.xSize), (.int .i64 r11.xEvery), (.int .i64 r11.xTokens), (.int .i64 r11.xLast)])) 2 rfl rfl rfl ty25 rfl ?_
              refine stw (o_callP (vs := [(.agg #[(.int .i64 r11.xSize), (.int .i64 r11.xEvery), (.int .i64 r11.xTokens), (.int .i64 r11.xLast)])]) Try.call16 rfl rfl (by intro w m h; exact w_impl_BucketValid (b_0 := r11) h) ?_); rintro r31 _
              refine o_mv st rfl rfl ?_
              refine st_sp (dj := 65) rfl ?_ ?_
              · refine o_fad (st_g rfl rfl) rfl rfl fld25_2 rfl ?_
                refine o_ldc (st_g rfl rfl) (v := (.int .i64 r11.xTokens)) 2 rfl rfl rfl ty3 rfl ?_
                refine o_fad (st_g rfl rfl) rfl rfl fld25_2 rfl ?_
                refine o_ldc (st_g rfl rfl) (v := (.int .i64 r7.xTokens)) 3 rfl rfl rfl ty3 rfl ?_
                refine o_geq (st_g rfl rfl) rfl rfl rfl ?_
                refine o_pickT st rfl rfl rfl ?_
                refine o_mv st rfl rfl ?_
                refine st_sp (dj := 72) rfl ?_ ?_
                · refine o_fad (st_g rfl rfl) rfl rfl fld25_2 rfl ?_
                  refine o_ldc (st_g rfl rfl) (v := (.int .i64 r23.xTokens)) 1 rfl rfl rfl ty3 rfl ?_
                  refine o_fad (st_g rfl rfl) rfl rfl fld25_2 rfl ?_
                  refine o_ldc (st_g rfl rfl) (v := (.int .i64 r26.xTokens)) 0 rfl rfl rfl ty3 rfl ?_
                  refine o_eql (st_g rfl rfl) und3 rfl rfl rfl ?_
                  refine o_pickT st rfl rfl rfl ?_
                  refine o_mv st rfl rfl ?_
                  refine st_sp (dj := 79) rfl ?_ ?_
                  · refine o_ldc (st_g rfl rfl) (v := (.agg #[(.int .i64 r23.xSize), (.int .i64 r23.xEvery), (.int .i64 r23.xTokens), (.int .i64 r23.xLast)])) 1 rfl rfl rfl ty25 rfl ?_
                    refine o_ldc (st_g rfl rfl) (v := (.agg #[(.int .i64 r26.xSize), (.int .i64 r26.xEvery), (.int .i64 r26.xTokens), (.int .i64 r26.xLast)])) 0 rfl rfl rfl ty25 rfl ?_
                    refine o_bin (st_g rfl rfl) (.bool (decide (r23 = r26))) rfl rfl rfl (eqls25 _ _ r23.xSize r23.xEvery r23.xTokens r23.xLast r26.xSize r26.xEvery r26.xTokens r26.xLast) ?_
                    refine o_mv (st_g rfl rfl) rfl rfl ?_
                    refine st_sp (dj := 83) rfl ?_ ?_
                    · refine st_s rfl rfl rfl rfl ?_
                      refine st_s rfl rfl rfl rfl ?_
                      refine st_s rfl rfl rfl rfl ?_
                      refine st_s rfl rfl rfl rfl ?_
                      refine st_s rfl rfl rfl rfl ?_
                      refine o_pickT (st_g rfl rfl) rfl rfl rfl ?_
                      refine o_pickT st rfl rfl rfl ?_
                      refine o_mv st rfl rfl ?_
                      refine o_fad (st_g rfl rfl) rfl rfl fld25_3 rfl ?_
                      refine o_ldc (st_g rfl rfl) (v := (.int .i64 r11.xLast)) 2 rfl rfl rfl ty3 rfl ?_
                      refine o_mv (st_g rfl rfl) rfl rfl ?_
                      refine o_leq (st_g rfl rfl) rfl rfl rfl ?_
                      refine o_pickT st rfl rfl rfl ?_
                      refine o_mv st rfl rfl ?_
                      refine st_sp (dj := 97) rfl ?_ ?_
                      · refine o_fad (st_g rfl rfl) rfl rfl fld25_2 rfl ?_
                        refine o_ldc (st_g rfl rfl) (v := (.int .i64 r11.xTokens)) 2 rfl rfl rfl ty3 rfl ?_
                        refine o_fad (st_g rfl rfl) rfl rfl fld25_0 rfl ?_
                        refine o_ldc (st_g rfl rfl) (v := (.int .i64 r11.xSize)) 2 rfl rfl rfl ty3 rfl ?_
                        refine o_eql (st_g rfl rfl) und3 rfl rfl rfl ?_
                        refine o_mv (st_g rfl rfl) rfl rfl ?_
                        refine st_sp (dj := 103) rfl ?_ ?_
                        · refine st_s rfl rfl rfl rfl ?_
                          refine st_s rfl rfl rfl rfl ?_
                          refine st_s rfl rfl rfl rfl ?_
                          refine st_s rfl rfl rfl rfl ?_
                          refine st_s rfl rfl rfl rfl ?_
                          refine st_s rfl rfl rfl rfl ?_
                          refine st_s rfl rfl rfl rfl ?_
                          refine o_pickT (st_g rfl rfl) rfl rfl rfl ?_
                          refine o_pickT st rfl rfl rfl ?_
                          refine o_as st rfl rfl ?_
                          refine c_nil ?_
                          exact l_join true (fun a w hE hm => ⟨hE.sub ⟨rfl, trivial⟩, (hm.pick [] rfl)⟩)
                        · refine o_mv (st_g rfl rfl) rfl rfl ?_
                          refine o_fad (st_g rfl rfl) rfl rfl fld25_3 rfl ?_
                          refine o_ldc (st_g rfl rfl) (v := (.int .i64 r11.xLast)) 2 rfl rfl rfl ty3 rfl ?_
                          refine o_sub (st_g rfl rfl) rfl rfl rfl ?_; intro t32
                          refine o_fad (st_g rfl rfl) rfl rfl fld25_1 rfl ?_
                          refine o_ldc (st_g rfl rfl) (v := (.int .i64 r7.xEvery)) 3 rfl rfl rfl ty3 rfl ?_
                          refine o_lss (st_g rfl rfl) rfl rfl rfl ?_
                          refine o_pickF (st_g rfl rfl) rfl rfl rfl ?_
                          refine o_pickT st rfl rfl rfl ?_
                          refine o_as st rfl rfl ?_
                          refine c_nil ?_
                          exact l_join (decide (t32 < r7.xEvery)) (fun a w hE hm => ⟨hE.sub ⟨rfl, trivial⟩, (hm.pick [] rfl)⟩)
                      · refine st_s rfl rfl rfl rfl ?_
                        refine st_s rfl rfl rfl rfl ?_
                        refine st_s rfl rfl rfl rfl ?_
                        refine st_s rfl rfl rfl rfl ?_
                        refine st_s rfl rfl rfl rfl ?_
                        refine st_s rfl rfl rfl rfl ?_
                        refine st_s rfl rfl rfl rfl ?_
                        refine st_s rfl rfl rfl rfl ?_
                        refine st_s rfl rfl rfl rfl ?_
                        refine st_s rfl rfl rfl rfl ?_
                        refine st_s rfl rfl rfl rfl ?_
                        refine st_s rfl rfl rfl rfl ?_
                        refine st_s rfl rfl rfl rfl ?_
                        refine st_s rfl rfl rfl rfl ?_
                        refine o_pickF st rfl rfl rfl ?_
                        refine o_as st rfl rfl ?_
                        refine c_nil ?_
                        exact l_join false (fun a w hE hm => ⟨hE.sub ⟨rfl, trivial⟩, (hm.pick [] rfl)⟩)
                    · refine o_fad (st_g rfl rfl) rfl rfl fld25_2 rfl ?_
                      refine o_ldc (st_g rfl rfl) (v := (.int .i64 r23.xTokens)) 1 rfl rfl rfl ty3 rfl ?_
                      refine o_fad (st_g rfl rfl) rfl rfl fld25_0 rfl ?_
                      refine o_ldc (st_g rfl rfl) (v := (.int .i64 r23.xSize)) 1 rfl rfl rfl ty3 rfl ?_
                      refine o_eql (st_g rfl rfl) und3 rfl rfl rfl ?_
                      refine o_pickF (st_g rfl rfl) rfl rfl rfl ?_
                      refine o_pickT st rfl rfl rfl ?_
                      refine o_mv st rfl rfl ?_
                      refine st_sp (dj := 91) rfl ?_ ?_
                      · refine o_fad (st_g rfl rfl) rfl rfl fld25_3 rfl ?_
                        refine o_ldc (st_g rfl rfl) (v := (.int .i64 r11.xLast)) 2 rfl rfl rfl ty3 rfl ?_
                        refine o_mv (st_g rfl rfl) rfl rfl ?_
                        refine o_leq (st_g rfl rfl) rfl rfl rfl ?_
                        refine o_pickT st rfl rfl rfl ?_
                        refine o_mv st rfl rfl ?_
                        refine st_sp (dj := 97) rfl ?_ ?_
                        · refine o_fad (st_g rfl rfl) rfl rfl fld25_2 rfl ?_
                          refine o_ldc (st_g rfl rfl) (v := (.int .i64 r11.xTokens)) 2 rfl rfl rfl ty3 rfl ?_
                          refine o_fad (st_g rfl rfl) rfl rfl fld25_0 rfl ?_
                          refine o_ldc (st_g rfl rfl) (v := (.int .i64 r11.xSize)) 2 rfl rfl rfl ty3 rfl ?_
                          refine o_eql (st_g rfl rfl) und3 rfl rfl rfl ?_
                          refine o_mv (st_g rfl rfl) rfl rfl ?_
                          refine st_sp (dj := 103) rfl ?_ ?_
                          · refine st_s rfl rfl rfl rfl ?_
                            refine st_s rfl rfl rfl rfl ?_
                            refine st_s rfl rfl rfl rfl ?_
                            refine st_s rfl rfl rfl rfl ?_
                            refine st_s rfl rfl rfl rfl ?_
                            refine st_s rfl rfl rfl rfl ?_
                            refine st_s rfl rfl rfl rfl ?_
                            refine o_pickT (st_g rfl rfl) rfl rfl rfl ?_
                            refine o_pickT st rfl rfl rfl ?_
                            refine o_as st rfl rfl ?_
                            refine c_nil ?_
                            exact l_join true (fun a w hE hm => ⟨hE.sub ⟨rfl, trivial⟩, (hm.pick [] rfl)⟩)
                          · refine o_mv (st_g rfl rfl) rfl rfl ?_
                            refine o_fad (st_g rfl rfl) rfl rfl fld25_3 rfl ?_
                            refine o_ldc (st_g rfl rfl) (v := (.int .i64 r11.xLast)) 2 rfl rfl rfl ty3 rfl ?_
                            refine o_sub (st_g rfl rfl) rfl rfl rfl ?_; intro t33
                            refine o_fad (st_g rfl rfl) rfl rfl fld25_1 rfl ?_
                            refine o_ldc (st_g rfl rfl) (v := (.int .i64 r7.xEvery)) 3 rfl rfl rfl ty3 rfl ?_
                            refine o_lss (st_g rfl rfl) rfl rfl rfl ?_
                            refine o_pickF (st_g rfl rfl) rfl rfl rfl ?_
                            refine o_pickT st rfl rfl rfl ?_
                            refine o_as st rfl rfl ?_
                            refine c_nil ?_
                            exact l_join (decide (t33 < r7.xEvery)) (fun a w hE hm => ⟨hE.sub ⟨rfl, trivial⟩, (hm.pick [] rfl)⟩)
                        · refine st_s rfl rfl rfl rfl ?_
                          refine st_s rfl rfl rfl rfl ?_
                          refine st_s rfl rfl rfl rfl ?_
                          refine st_s rfl rfl rfl rfl ?_
                          refine st_s rfl rfl rfl rfl ?_
                          refine st_s rfl rfl rfl rfl ?_
                          refine st_s rfl rfl rfl rfl ?_
                          refine st_s rfl rfl rfl rfl ?_
                          refine st_s rfl rfl rfl rfl ?_
                          refine st_s rfl rfl rfl rfl ?_
                          refine st_s rfl rfl rfl rfl ?_
                          refine st_s rfl rfl rfl rfl ?_
                          refine st_s rfl rfl rfl rfl ?_
                          refine st_s rfl rfl rfl rfl ?_
                          refine o_pickF st rfl rfl rfl ?_
                          refine o_as st rfl rfl ?_
                          refine c_nil ?_
                          exact l_join false (fun a w hE hm => ⟨hE.sub ⟨rfl, trivial⟩, (hm.pick [] rfl)⟩)
                      · refine st_s rfl rfl rfl rfl ?_
                        refine st_s rfl rfl rfl rfl ?_
                        refine st_s rfl rfl rfl rfl ?_
                        refine st_s rfl rfl rfl rfl ?_
                        refine o_pickF st rfl rfl rfl ?_
                        refine o_mv st rfl rfl ?_
                        refine st_s rfl rfl rfl rfl ?_
                        refine st_s rfl rfl rfl rfl ?_
                        refine st_s rfl rfl rfl rfl ?_
                        refine st_s rfl rfl rfl rfl ?_
                        refine st_s rfl rfl rfl rfl ?_
                        refine st_s rfl rfl rfl rfl ?_
                        refine st_s rfl rfl rfl rfl ?_
                        refine st_s rfl rfl rfl rfl ?_
                        refine st_s rfl rfl rfl rfl ?_
                        refine st_s rfl rfl rfl rfl ?_
                        refine st_s rfl rfl rfl rfl ?_
                        refine st_s rfl rfl rfl rfl ?_
                        refine st_s rfl rfl rfl rfl ?_
                        refine st_s rfl rfl rfl rfl ?_
                        refine o_pickF st rfl rfl rfl ?_
                        refine o_as st rfl rfl ?_
                        refine c_nil ?_
                        exact l_join false (fun a w hE hm => ⟨hE.sub ⟨rfl, trivial⟩, (hm.pick [] rfl)⟩)
                  · refine st_s rfl rfl rfl rfl ?_
                    refine st_s rfl rfl rfl rfl ?_
                    refine st_s rfl rfl rfl rfl ?_
                    refine st_s rfl rfl rfl rfl ?_
                    refine st_s rfl rfl rfl rfl ?_
                    refine st_s rfl rfl rfl rfl ?_
                    refine st_s rfl rfl rfl rfl ?_
                    refine st_s rfl rfl rfl rfl ?_
                    refine st_s rfl rfl rfl rfl ?_
                    refine st_s rfl rfl rfl rfl ?_
                    refine o_pickF st rfl rfl rfl ?_
                    refine o_mv st rfl rfl ?_
                    refine st_s rfl rfl rfl rfl ?_
                    refine st_s rfl rfl rfl rfl ?_
                    refine st_s rfl rfl rfl rfl ?_
                    refine st_s rfl rfl rfl rfl ?_
                    refine o_pickF st rfl rfl rfl ?_
                    refine o_mv st rfl rfl ?_
                    refine st_s rfl rfl rfl rfl ?_
                    refine st_s rfl rfl rfl rfl ?_
                    refine st_s rfl rfl rfl rfl ?_
                    refine st_s rfl rfl rfl rfl ?_
                    refine st_s rfl rfl rfl rfl ?_
                    refine st_s rfl rfl rfl rfl ?_
                    refine st_s rfl rfl rfl rfl ?_
                    refine st_s rfl rfl rfl rfl ?_
                    refine st_s rfl rfl rfl rfl ?_
                    refine st_s rfl rfl rfl rfl ?_
                    refine st_s rfl rfl rfl rfl ?_
                    refine st_s rfl rfl rfl rfl ?_
                    refine st_s rfl rfl rfl rfl ?_
                    refine st_s rfl rfl rfl rfl ?_
                    refine o_pickF st rfl rfl rfl ?_
                    refine o_as st rfl rfl ?_
                    refine c_nil ?_
                    exact l_join false (fun a w hE hm => ⟨hE.sub ⟨rfl, trivial⟩, (hm.pick [] rfl)⟩)
                · refine st_s rfl rfl rfl rfl ?_
                  refine st_s rfl rfl rfl rfl ?_
                  refine st_s rfl rfl rfl rfl ?_
                  refine st_s rfl rfl rfl rfl ?_
                  refine st_s rfl rfl rfl rfl ?_
                  refine o_pickF st rfl rfl rfl ?_
                  refine o_mv st rfl rfl ?_
                  refine st_s rfl rfl rfl rfl ?_
                  refine st_s rfl rfl rfl rfl ?_
                  refine st_s rfl rfl rfl rfl ?_
                  refine st_s rfl rfl rfl rfl ?_
                  refine st_s rfl rfl rfl rfl ?_
                  refine st_s rfl rfl rfl rfl ?_
                  refine st_s rfl rfl rfl rfl ?_
                  refine st_s rfl rfl rfl rfl ?_
                  refine st_s rfl rfl rfl rfl ?_
                  refine st_s rfl rfl rfl rfl ?_
                  refine o_pickF st rfl rfl rfl ?_
                  refine o_mv st rfl rfl ?_
                  refine st_s rfl rfl rfl rfl ?_
                  refine st_s rfl rfl rfl rfl ?_
                  refine st_s rfl rfl rfl rfl ?_
                  refine st_s rfl rfl rfl rfl ?_
                  refine o_pickF st rfl rfl rfl ?_
                  refine o_mv st rfl rfl ?_
                  refine st_s rfl rfl rfl rfl ?_
                  refine st_s rfl rfl rfl rfl ?_
                  refine st_s rfl rfl rfl rfl ?_
                  refine st_s rfl rfl rfl rfl ?_
                  refine st_s rfl rfl rfl rfl ?_
                  refine st_s rfl rfl rfl rfl ?_
                  refine st_s rfl rfl rfl rfl ?_
                  refine st_s rfl rfl rfl rfl ?_
                  refine st_s rfl rfl rfl rfl ?_
                  refine st_s rfl rfl rfl rfl ?_
                  refine st_s rfl rfl rfl rfl ?_
                  refine st_s rfl rfl rfl rfl ?_
                  refine st_s rfl rfl rfl rfl ?_
                  refine st_s rfl rfl rfl rfl ?_
                  refine o_pickF st rfl rfl rfl ?_
                  refine o_as st rfl rfl ?_
                  refine c_nil ?_
                  exact l_join false (fun a w hE hm => ⟨hE.sub ⟨rfl, trivial⟩, (hm.pick [] rfl)⟩)
              · refine st_s rfl rfl rfl rfl ?_
                refine st_s rfl rfl rfl rfl ?_
                refine st_s rfl rfl rfl rfl ?_
                refine st_s rfl rfl rfl rfl ?_
                refine st_s rfl rfl rfl rfl ?_
                refine o_pickF st rfl rfl rfl ?_
                refine o_mv st rfl rfl ?_
                refine st_s rfl rfl rfl rfl ?_
                refine st_s rfl rfl rfl rfl ?_
                refine st_s rfl rfl rfl rfl ?_
                refine st_s rfl rfl rfl rfl ?_
                refine st_s rfl rfl rfl rfl ?_
                refine o_pickF st rfl rfl rfl ?_
                refine o_mv st rfl rfl ?_
                refine st_s rfl rfl rfl rfl ?_
                refine st_s rfl rfl rfl rfl ?_
                refine st_s rfl rfl rfl rfl ?_
                refine st_s rfl rfl rfl rfl ?_
                refine st_s rfl rfl rfl rfl ?_
                refine st_s rfl rfl rfl rfl ?_
                refine st_s rfl rfl rfl rfl ?_
                refine st_s rfl rfl rfl rfl ?_
                refine st_s rfl rfl rfl rfl ?_
                refine st_s rfl rfl rfl rfl ?_
                refine o_pickF st rfl rfl rfl ?_
                refine o_mv st rfl rfl ?_
                refine st_s rfl rfl rfl rfl ?_
                refine st_s rfl rfl rfl rfl ?_
                refine st_s rfl rfl rfl rfl ?_
                refine st_s rfl rfl rfl rfl ?_
                refine o_pickF st rfl rfl rfl ?_
                refine o_mv st rfl rfl ?_
                refine st_s rfl rfl rfl rfl ?_
                refine st_s rfl rfl rfl rfl ?_
                refine st_s rfl rfl rfl rfl ?_
                refine st_s rfl rfl rfl rfl ?_
                refine st_s rfl rfl rfl rfl ?_
                refine st_s rfl rfl rfl rfl ?_
                refine st_s rfl rfl rfl rfl ?_
                refine st_s rfl rfl rfl rfl ?_
                refine st_s rfl rfl rfl rfl ?_
                refine st_s rfl rfl rfl rfl ?_
                refine st_s rfl rfl rfl rfl ?_
                refine st_s rfl rfl rfl rfl ?_
                refine st_s rfl rfl rfl rfl ?_
                refine st_s rfl rfl rfl rfl ?_
                refine o_pickF st rfl rfl rfl ?_
                refine o_as st rfl rfl ?_
                refine c_nil ?_
                exact l_join false (fun a w hE hm => ⟨hE.sub ⟨rfl, trivial⟩, (hm.pick [] rfl)⟩)
            · rintro t29 a w ⟨hE, hm⟩ h
              refine nx_of hE hm h ?_
              clear hE hm h
              refine c_ret ?_
              exact l_end1 Try.results8 t29 () (rv_t rfl) (fun _ _ => NewCh.nil _ _ _ _)


end Go.Proofs.Ytcinklbbacmihaa
