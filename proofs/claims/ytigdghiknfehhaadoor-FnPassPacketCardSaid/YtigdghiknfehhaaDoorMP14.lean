/- Texts of this seat, put together. -/
import Derived.Test.YtigdghiknfehhaaDoorMP13
set_option linter.unusedSimpArgs false
set_option linter.unusedVariables false
namespace Go.Proofs.YtigdghiknfehhaaDoor
section
open Go.RowKit
set_option maxRecDepth 100000 in
set_option maxHeartbeats 8000000 in
theorem w_impl_judgeValid {w0 : World} {F : Nat → Prop} {v1 : Value} {s_0 : GRuleset} {p_1 : GPacket} {κ : Bool → Prop} (hF : ∀ b, F b → b < w0.heap.size ∧ ¬ feet [] b) (hv1 : Sl (elSl elGRule) F w0 v1 s_0.xChains) (h : L_impl_judgeValid s_0 p_1 κ) :
    Calls Tryd.prog 54 #[(.agg #[v1, (.bool s_0.xAccept)]), (.agg #[(.int .i64 p_1.xFrom), (.int .i64 p_1.xTo), (.int .i64 p_1.xPort), (.int .i64 p_1.xProto)])] w0 (Ret [] F w0 κ (fun (r : Bool) (u : Unit) => (.bool r)) (fun (r : Bool) (u : Unit) => [])) := by
  refine enterS (args := [(.agg #[v1, (.bool s_0.xAccept)]), (.agg #[(.int .i64 p_1.xFrom), (.int .i64 p_1.xTo), (.int .i64 p_1.xPort), (.int .i64 p_1.xProto)])]) [] hF (Given.nil _ _) Tryd.func54 rfl Tryd.ntmps54 rfl h ?_
  clear h hF
  refine c_seq ?_
  refine c_region ?_
  obtain ⟨a3, l4, q5, hs_⟩ := sl_val hv1; subst hs_
  refine stw (o_box rfl rfl [(.slice a3 l4 q5), (.bool s_0.xAccept)] rfl ?_); intro b6
  refine stw (o_box rfl rfl [(.int .i64 p_1.xFrom), (.int .i64 p_1.xTo), (.int .i64 p_1.xPort), (.int .i64 p_1.xProto)] rfl ?_); intro b8
  refine o_as st rfl rfl ?_
  refine c_nil ?_
  refine l_then ?_
  refine c_seq ?_
  refine c_seq ?_
  refine c_region ?_
  refine o_ldc st (v := (.agg #[(.slice a3 l4 q5), (.bool s_0.xAccept)])) 1 rfl rfl rfl ty25 rfl ?_
  refine o_ldc st (v := (.agg #[(.int .i64 p_1.xFrom), (.int .i64 p_1.xTo), (.int .i64 p_1.xPort), (.int .i64 p_1.xProto)])) 0 rfl rfl rfl ty40 rfl ?_
  refine stw (o_callP (vs := [(.agg #[(.slice a3 l4 q5), (.bool s_0.xAccept)]), (.agg #[(.int .i64 p_1.xFrom), (.int .i64 p_1.xTo), (.int .i64 p_1.xPort), (.int .i64 p_1.xProto)])]) Tryd.call90 rfl rfl (by intro w m h; exact (w_impl_walkThrough (F := allB [] w) (s_0 := s_0) (p_1 := p_1) allB_ok (m.rd0 2 rfl (reads_snap hv1)) h).mono (fun _ _ k => ret_free (fun r u => (fr_cons free_cell (fr_cons (free_own flelGPlace) (fr_cons (free_own flelGVisit) fr_nil)))) k)) ?_); rintro ⟨r12, r15, r18⟩ ⟨b10, v13, v16⟩
  refine o_nilc st rfl rfl ?_
  refine o_fad st rfl rfl fld130_2 rfl ?_
  refine o_ldc st (v := (.int .i64 r18)) 0 rfl rfl rfl ty3 rfl ?_
  refine c_nil ?_
  refine l_then ?_
  refine c_block ?_
  refine c_seq ?_
  refine c_region ?_
  refine o_eql st und3 rfl rfl rfl ?_
  refine o_as st rfl rfl ?_
  refine c_nil ?_
  refine l_then ?_
  refine c_cond rfl ?_ ?_
  · refine c_seq ?_
    refine c_region ?_
    refine o_as st rfl rfl ?_
    refine c_nil ?_
    refine l_then ?_
    refine c_ret ?_
    refine b_ret ?_
    refine l_ret ?_
    exact l_end1 Tryd.results54 true () (rv_t rfl) (fun _ _ => NewCh.nil _ _ _ _)
  · refine c_seq ?_
    refine c_region ?_
    refine o_eql st und3 rfl rfl rfl ?_
    refine o_as st rfl rfl ?_
    refine c_nil ?_
    refine l_then ?_
    refine c_cond rfl ?_ ?_
    · refine c_seq ?_
      refine c_region ?_
      refine o_as st rfl rfl ?_
      refine c_nil ?_
      refine l_then ?_
      refine c_ret ?_
      refine b_ret ?_
      refine l_ret ?_
      exact l_end1 Tryd.results54 false () (rv_t rfl) (fun _ _ => NewCh.nil _ _ _ _)
    · refine c_skip ?_
      refine b_norm ?_
      refine l_then ?_
      refine c_seq ?_
      refine c_region ?_
      refine o_fad st rfl rfl fld25_1 rfl ?_
      refine o_ldc st (v := (.bool s_0.xAccept)) 4 rfl rfl rfl ty4 rfl ?_
      refine o_as st rfl rfl ?_
      refine c_nil ?_
      refine l_then ?_
      refine c_ret ?_
      exact l_end1 Tryd.results54 s_0.xAccept () (rv_t rfl) (fun _ _ => NewCh.nil _ _ _ _)

set_option maxRecDepth 100000 in
set_option maxHeartbeats 8000000 in
theorem w_spec_TestValid {w0 : World} {F : Nat → Prop} {t_0 : GTest} {κ : Bool → Prop} (hF : ∀ b, F b → b < w0.heap.size ∧ ¬ feet [] b) (h : L_spec_TestValid t_0 κ) :
    Calls Tryd.prog 112 #[(.agg #[(.int .i64 t_0.xField), (.int .i64 t_0.xLo), (.int .i64 t_0.xHi), (.bool t_0.xNot)])] w0 (Ret [] F w0 κ (fun (r : Bool) (u : Unit) => (.bool r)) (fun (r : Bool) (u : Unit) => [])) := by
  refine enter0 (args := [(.agg #[(.int .i64 t_0.xField), (.int .i64 t_0.xLo), (.int .i64 t_0.xHi), (.bool t_0.xNot)])]) [] hF (Given.nil _ _) Tryd.func112 rfl Tryd.ntmps112 rfl h ?_
  clear h hF
  refine c_seq ?_
  refine c_region ?_
  refine stw (o_box rfl rfl [(.int .i64 t_0.xField), (.int .i64 t_0.xLo), (.int .i64 t_0.xHi), (.bool t_0.xNot)] rfl ?_); intro b1
  refine o_as st rfl rfl ?_
  refine c_nil ?_
  refine l_then ?_
  refine c_join (σ := Bool) (fun (t66 : Bool) (a : Act) (w : World) => Has 21 [(2, (.bool t66))] a ∧ Mem (gB F [] w0) (feet []) w0 [] w) ?_ ?_
  · intro k67
    refine c_draw mixed 19 rfl [cellCh b1 [(.int .i64 t_0.xField), (.int .i64 t_0.xLo), (.int .i64 t_0.xHi), (.bool t_0.xNot)] 173] ?_
    refine o_fad (dt 0 (fun _ m => m)) rfl rfl fld173_0 rfl ?_
    refine o_ldc (dt 1 (fun _ m => m)) (v := (.int .i64 t_0.xField)) 0 rfl rfl rfl ty3 rfl ?_
    refine d_one (i := 2) rfl (by kernel_rfl) (o_callP (vs := [(.int .i64 t_0.xField), (.int .i64 0), (.int .i64 3)]) Tryd.call58 rfl rfl (by intro w m h; exact (w_spec_l1In (F := allB [] w) (n_0 := t_0.xField) (lo_1 := 0) (hi_2 := 3) allB_ok h).mono (fun _ _ k => ret_free (fun r u => fr_nil) k)) ?_); rintro r3 _
    refine d_and (fun _ m => m) ?_
    refine o_mv (dt 3 (fun _ m => m)) rfl rfl ?_
    refine st_sp (dj := 6) rfl ?_ ?_
    · refine o_fad (dtg 4 (fun _ m => m)) rfl rfl fld173_1 rfl ?_
      refine o_ldc (dtg 5 (fun _ m => m)) (v := (.int .i64 t_0.xLo)) 0 rfl rfl rfl ty3 rfl ?_
      refine o_fad (dtg 6 (fun _ m => m)) rfl rfl fld173_2 rfl ?_
      refine o_ldc (dtg 7 (fun _ m => m)) (v := (.int .i64 t_0.xHi)) 0 rfl rfl rfl ty3 rfl ?_
      refine d_oneg (i := 8) rfl rfl rfl (by kernel_rfl) (o_callP (vs := [(.int .i64 t_0.xLo), (.int .i64 0), (.int .i64 t_0.xHi)]) Tryd.call58 rfl rfl (by intro w m h; exact (w_spec_l1In (F := allB [] w) (n_0 := t_0.xLo) (lo_1 := 0) (hi_2 := t_0.xHi) allB_ok h).mono (fun _ _ k => ret_free (fun r u => fr_nil) k)) ?_); rintro r4 _
      refine d_and (fun _ m => m) ?_
      refine o_pickT (dt 9 (fun _ m => m)) rfl rfl rfl ?_
      refine o_mv (dt 10 (fun _ m => m)) rfl rfl ?_
      refine st_sp (dj := 13) rfl ?_ ?_
      · refine o_fad (dtg 11 (fun _ m => m)) rfl rfl fld173_2 rfl ?_
        refine o_ldc (dtg 12 (fun _ m => m)) (v := (.int .i64 t_0.xHi)) 0 rfl rfl rfl ty3 rfl ?_
        refine o_fad (dtg 13 (fun _ m => m)) rfl rfl fld173_0 rfl ?_
        refine o_ldc (dtg 14 (fun _ m => m)) (v := (.int .i64 t_0.xField)) 0 rfl rfl rfl ty3 rfl ?_
        refine d_oneg (i := 15) rfl rfl rfl (by kernel_rfl) (o_callP (vs := [(.int .i64 t_0.xField)]) Tryd.call113 rfl rfl (by intro w m h; exact (w_spec_FieldTop (F := allB [] w) (n_0 := t_0.xField) allB_ok h).mono (fun _ _ k => ret_free (fun r u => fr_nil) k)) ?_); rintro r5 _
        refine d_and (fun _ m => m) ?_
        refine o_leq (dtg 16 (fun _ m => m)) rfl rfl rfl ?_
        refine o_pickT (dt 17 (fun _ m => m)) rfl rfl rfl ?_
        refine o_as (dt 18 (fun _ m => m)) rfl rfl ?_
        refine d_done (by kernel_rfl) ?_
        exact l_join (decide (t_0.xHi ≤ r5)) (fun a w hE hm => ⟨hE.sub ⟨rfl, trivial⟩, (hm.pick [] rfl)⟩)
      · refine dsk 11 (fun _ m => m) rfl (by kernel_rfl) rfl rfl rfl rfl ?_
        refine dsk 12 (fun _ m => m) rfl (by kernel_rfl) rfl rfl rfl rfl ?_
        refine dsk 13 (fun _ m => m) rfl (by kernel_rfl) rfl rfl rfl rfl ?_
        refine dsk 14 (fun _ m => m) rfl (by kernel_rfl) rfl rfl rfl rfl ?_
        refine dsk 15 (fun _ m => m) rfl (by kernel_rfl) rfl rfl rfl rfl ?_
        refine dsk 16 (fun _ m => m) rfl (by kernel_rfl) rfl rfl rfl rfl ?_
        refine o_pickF (dt 17 (fun _ m => m)) rfl rfl rfl ?_
        refine o_as (dt 18 (fun _ m => m)) rfl rfl ?_
        refine d_done (by kernel_rfl) ?_
        exact l_join false (fun a w hE hm => ⟨hE.sub ⟨rfl, trivial⟩, (hm.pick [] rfl)⟩)
    · refine dsk 4 (fun _ m => m) rfl (by kernel_rfl) rfl rfl rfl rfl ?_
      refine dsk 5 (fun _ m => m) rfl (by kernel_rfl) rfl rfl rfl rfl ?_
      refine dsk 6 (fun _ m => m) rfl (by kernel_rfl) rfl rfl rfl rfl ?_
      refine dsk 7 (fun _ m => m) rfl (by kernel_rfl) rfl rfl rfl rfl ?_
      refine dsk 8 (fun _ m => m) rfl (by kernel_rfl) rfl rfl rfl rfl ?_
      refine o_pickF (dt 9 (fun _ m => m)) rfl rfl rfl ?_
      refine o_mv (dt 10 (fun _ m => m)) rfl rfl ?_
      refine dsk 11 (fun _ m => m) rfl (by kernel_rfl) rfl rfl rfl rfl ?_
      refine dsk 12 (fun _ m => m) rfl (by kernel_rfl) rfl rfl rfl rfl ?_
      refine dsk 13 (fun _ m => m) rfl (by kernel_rfl) rfl rfl rfl rfl ?_
      refine dsk 14 (fun _ m => m) rfl (by kernel_rfl) rfl rfl rfl rfl ?_
      refine dsk 15 (fun _ m => m) rfl (by kernel_rfl) rfl rfl rfl rfl ?_
      refine dsk 16 (fun _ m => m) rfl (by kernel_rfl) rfl rfl rfl rfl ?_
      refine o_pickF (dt 17 (fun _ m => m)) rfl rfl rfl ?_
      refine o_as (dt 18 (fun _ m => m)) rfl rfl ?_
      refine d_done (by kernel_rfl) ?_
      exact l_join false (fun a w hE hm => ⟨hE.sub ⟨rfl, trivial⟩, (hm.pick [] rfl)⟩)
  · rintro t66 a w ⟨hE, hm⟩ h
    refine nx_of hE hm h ?_
    clear hE hm h
    refine c_ret ?_
    exact l_end1 Tryd.results112 t66 () (rv_t rfl) (fun _ _ => NewCh.nil _ _ _ _)

set_option maxRecDepth 100000 in
set_option maxHeartbeats 8000000 in
theorem w_spec_TestsValid {w0 : World} {F : Nat → Prop} {v1 : Value} {list_0 : (List GTest)} {κ : Bool → Prop} (hF : ∀ b, F b → b < w0.heap.size ∧ ¬ feet [] b) (hv1 : Sl elGTest F w0 v1 list_0) (h : L_spec_TestsValid list_0 κ) :
    Calls Tryd.prog 114 #[v1] w0 (Ret [] F w0 κ (fun (r : Bool) (u : Unit) => (.bool r)) (fun (r : Bool) (u : Unit) => [])) := by
  refine enterS (args := [v1]) [] hF (Given.nil _ _) Tryd.func114 rfl Tryd.ntmps114 rfl h ?_
  clear h hF
  refine c_seq ?_
  refine c_region ?_
  refine o_as st rfl rfl ?_
  refine c_nil ?_
  refine l_then ?_
  refine c_seq ?_
  refine c_seq ?_
  refine c_region ?_
  refine o_as st rfl rfl ?_
  refine c_nil ?_
  refine l_then ?_
  refine c_block ?_
  refine c_loop (σ := Int) (fun (t3 : Int) (a : Act) (w : World) => Has 19 [(0, v1), (3, (.int .i64 t3))] a ∧ Mem (gB F [] w0) (feet []) w0 [snapCh w0 F] w) (fun a w hE hm => ⟨hE.sub ⟨rfl, rfl, trivial⟩, (hm.pick [0] rfl)⟩) ?_
  rintro nx4 t3 a w ⟨hE, hm⟩ h
  refine nx_of hE hm h ?_
  clear hE hm h
  refine c_seq ?_
  refine c_seq ?_
  refine c_region ?_
  refine o_mv st rfl rfl ?_
  refine o_mv st rfl rfl ?_
  refine o_len st el102 0 rfl (reads_snap hv1) rfl rfl ?_
  refine o_lss st rfl rfl rfl ?_
  refine c_nil ?_
  refine l_then ?_
  refine c_cond rfl ?_ ?_
  · refine c_skip ?_
    refine l_then ?_
    refine c_seq ?_
    refine c_block ?_
    refine c_seq ?_
    refine c_region ?_
    refine o_mv st rfl rfl ?_
    refine o_mv st rfl rfl ?_
    refine o_idx st 0 rfl (reads_snap hv1) rfl rfl rfl el102 ?_; intro e5 h6
    refine o_lds st (enc := encGTest) (u := (.agg #[(.int .i64 e5.xField), (.int .i64 e5.xLo), (.int .i64 e5.xHi), (.bool e5.xNot)])) 0 rfl (reads_snap hv1) flelGTest rfl h6 rfl rfl ty173 rfl ?_
    refine stw (o_callP (vs := [(.agg #[(.int .i64 e5.xField), (.int .i64 e5.xLo), (.int .i64 e5.xHi), (.bool e5.xNot)])]) Tryd.call112 rfl rfl (by intro w m h; exact (w_spec_TestValid (F := allB [] w) (t_0 := e5) allB_ok h).mono (fun _ _ k => ret_free (fun r u => fr_nil) k)) ?_); rintro r7 _
    refine o_not st rfl rfl ?_
    refine c_nil ?_
    refine l_then ?_
    refine c_cond rfl ?_ ?_
    · refine c_seq ?_
      refine c_region ?_
      refine o_as st rfl rfl ?_
      refine c_nil ?_
      refine l_then ?_
      refine c_ret ?_
      refine b_ret ?_
      refine l_ret ?_
      refine l_ret ?_
      refine b_ret ?_
      refine l_ret ?_
      exact l_end1 Tryd.results114 false () (rv_t rfl) (fun _ _ => NewCh.nil _ _ _ _)
    · refine c_skip ?_
      refine b_norm ?_
      refine l_then ?_
      refine c_region ?_
      refine o_mv st rfl rfl ?_
      refine o_add st rfl rfl rfl ?_; intro t8
      refine o_as st rfl rfl ?_
      refine c_nil ?_
      exact l_join t8 (fun a w hE hm => ⟨hE.sub ⟨rfl, rfl, trivial⟩, (hm.pick [0] rfl)⟩)
  · refine c_exit ?_
    refine l_exit ?_
    refine l_exit ?_
    refine b_exit ?_
    refine l_then ?_
    refine c_seq ?_
    refine c_region ?_
    refine o_mv st rfl rfl ?_
    refine o_len st el102 0 rfl (reads_snap hv1) rfl rfl ?_
    refine o_leq st rfl rfl rfl ?_
    refine o_as st rfl rfl ?_
    refine c_nil ?_
    refine l_then ?_
    refine c_ret ?_
    exact l_end1 Tryd.results114 (decide ((list_0.length : Int) ≤ 6)) () (rv_t rfl) (fun _ _ => NewCh.nil _ _ _ _)

set_option maxRecDepth 100000 in
set_option maxHeartbeats 8000000 in
theorem w_spec_RuleValid {w0 : World} {F : Nat → Prop} {v1 : Value} {r_0 : GRule} {κ : Bool → Prop} (hF : ∀ b, F b → b < w0.heap.size ∧ ¬ feet [] b) (hv1 : Sl elGTest F w0 v1 r_0.xTests) (h : L_spec_RuleValid r_0 κ) :
    Calls Tryd.prog 99 #[(.agg #[v1, (.int .i64 r_0.xAction), (.int .i64 r_0.xChain)])] w0 (Ret [] F w0 κ (fun (r : Bool) (u : Unit) => (.bool r)) (fun (r : Bool) (u : Unit) => [])) := by
  refine enterS (args := [(.agg #[v1, (.int .i64 r_0.xAction), (.int .i64 r_0.xChain)])]) [] hF (Given.nil _ _) Tryd.func99 rfl Tryd.ntmps99 rfl h ?_
  clear h hF
  refine c_seq ?_
  refine c_region ?_
  obtain ⟨a3, l4, q5, hs_⟩ := sl_val hv1; subst hs_
  refine stw (o_box rfl rfl [(.slice a3 l4 q5), (.int .i64 r_0.xAction), (.int .i64 r_0.xChain)] rfl ?_); intro b6
  refine o_as st rfl rfl ?_
  refine c_nil ?_
  refine l_then ?_
  refine c_join (σ := Bool) (fun (t71 : Bool) (a : Act) (w : World) => Has 31 [(2, (.bool t71))] a ∧ Mem (gB F [] w0) (feet []) w0 [] w) ?_ ?_
  · intro k72
    refine c_region ?_
    refine o_fad st rfl rfl fld104_0 rfl ?_
    refine o_ldc st (v := (.slice a3 l4 q5)) 0 rfl rfl rfl ty102 rfl ?_
    refine stw (o_callP (vs := [(.slice a3 l4 q5)]) Tryd.call114 rfl rfl (by intro w m h; exact (w_spec_TestsValid (F := allB [] w) (list_0 := r_0.xTests) allB_ok (m.rd0 1 rfl (reads_snap hv1)) h).mono (fun _ _ k => ret_free (fun r u => fr_nil) k)) ?_); rintro r8 _
    refine o_mv st rfl rfl ?_
    refine st_sp (dj := 6) rfl ?_ ?_
    · refine o_fad (st_g rfl rfl) rfl rfl fld104_1 rfl ?_
      refine o_ldc (st_g rfl rfl) (v := (.int .i64 r_0.xAction)) 0 rfl rfl rfl ty3 rfl ?_
      refine st_gw rfl rfl (o_callP (vs := [(.int .i64 r_0.xAction), (.int .i64 1), (.int .i64 5)]) Tryd.call58 rfl rfl (by intro w m h; exact (w_spec_l1In (F := allB [] w) (n_0 := r_0.xAction) (lo_1 := 1) (hi_2 := 5) allB_ok h).mono (fun _ _ k => ret_free (fun r u => fr_nil) k)) ?_); rintro r9 _
      refine o_pickT st rfl rfl rfl ?_
      refine o_mv st rfl rfl ?_
      refine st_sp (dj := 11) rfl ?_ ?_
      · refine o_fad (st_g rfl rfl) rfl rfl fld104_1 rfl ?_
        refine o_ldc (st_g rfl rfl) (v := (.int .i64 r_0.xAction)) 0 rfl rfl rfl ty3 rfl ?_
        refine o_eql (st_g rfl rfl) und3 rfl rfl rfl ?_
        refine o_mv (st_g rfl rfl) rfl rfl ?_
        refine st_sp (dj := 15) rfl ?_ ?_
        · refine o_fad (st_g rfl rfl) rfl rfl fld104_2 rfl ?_
          refine o_ldc (st_g rfl rfl) (v := (.int .i64 r_0.xChain)) 0 rfl rfl rfl ty3 rfl ?_
          refine st_gw rfl rfl (o_callP (vs := [(.int .i64 r_0.xChain), (.int .i64 0), (.int .i64 4)]) Tryd.call58 rfl rfl (by intro w m h; exact (w_spec_l1In (F := allB [] w) (n_0 := r_0.xChain) (lo_1 := 0) (hi_2 := 4) allB_ok h).mono (fun _ _ k => ret_free (fun r u => fr_nil) k)) ?_); rintro r10 _
          refine o_pickT (st_g rfl rfl) rfl rfl rfl ?_
          refine o_mv (st_g rfl rfl) rfl rfl ?_
          refine st_sp (dj := 20) rfl ?_ ?_
          · refine st_s rfl rfl rfl rfl ?_
            refine st_s rfl rfl rfl rfl ?_
            refine st_s rfl rfl rfl rfl ?_
            refine st_s rfl rfl rfl rfl ?_
            refine st_s rfl rfl rfl rfl ?_
            refine st_s rfl rfl rfl rfl ?_
            refine st_s rfl rfl rfl rfl ?_
            refine st_s rfl rfl rfl rfl ?_
            refine o_pickT (st_g rfl rfl) rfl rfl rfl ?_
            refine o_pickT st rfl rfl rfl ?_
            refine o_as st rfl rfl ?_
            refine c_nil ?_
            exact l_join true (fun a w hE hm => ⟨hE.sub ⟨rfl, trivial⟩, (hm.pick [] rfl)⟩)
          · refine o_fad (st_g rfl rfl) rfl rfl fld104_1 rfl ?_
            refine o_ldc (st_g rfl rfl) (v := (.int .i64 r_0.xAction)) 0 rfl rfl rfl ty3 rfl ?_
            refine o_neq (st_g rfl rfl) und3 rfl rfl rfl ?_
            refine o_mv (st_g rfl rfl) rfl rfl ?_
            refine st_sp (dj := 24) rfl ?_ ?_
            · refine o_fad (st_g rfl rfl) rfl rfl fld104_2 rfl ?_
              refine o_ldc (st_g rfl rfl) (v := (.int .i64 r_0.xChain)) 0 rfl rfl rfl ty3 rfl ?_
              refine o_eql (st_g rfl rfl) und3 rfl rfl rfl ?_
              refine o_pickT (st_g rfl rfl) rfl rfl rfl ?_
              refine o_pickF (st_g rfl rfl) rfl rfl rfl ?_
              refine o_pickT st rfl rfl rfl ?_
              refine o_as st rfl rfl ?_
              refine c_nil ?_
              exact l_join (decide (r_0.xChain = 0)) (fun a w hE hm => ⟨hE.sub ⟨rfl, trivial⟩, (hm.pick [] rfl)⟩)
            · refine st_s rfl rfl rfl rfl ?_
              refine st_s rfl rfl rfl rfl ?_
              refine st_s rfl rfl rfl rfl ?_
              refine o_pickF (st_g rfl rfl) rfl rfl rfl ?_
              refine o_pickF (st_g rfl rfl) rfl rfl rfl ?_
              refine o_pickT st rfl rfl rfl ?_
              refine o_as st rfl rfl ?_
              refine c_nil ?_
              exact l_join false (fun a w hE hm => ⟨hE.sub ⟨rfl, trivial⟩, (hm.pick [] rfl)⟩)
        · refine st_s rfl rfl rfl rfl ?_
          refine st_s rfl rfl rfl rfl ?_
          refine st_s rfl rfl rfl rfl ?_
          refine o_pickF (st_g rfl rfl) rfl rfl rfl ?_
          refine o_mv (st_g rfl rfl) rfl rfl ?_
          refine o_fad (st_g rfl rfl) rfl rfl fld104_1 rfl ?_
          refine o_ldc (st_g rfl rfl) (v := (.int .i64 r_0.xAction)) 0 rfl rfl rfl ty3 rfl ?_
          refine o_neq (st_g rfl rfl) und3 rfl rfl rfl ?_
          refine o_mv (st_g rfl rfl) rfl rfl ?_
          refine st_sp (dj := 24) rfl ?_ ?_
          · refine o_fad (st_g rfl rfl) rfl rfl fld104_2 rfl ?_
            refine o_ldc (st_g rfl rfl) (v := (.int .i64 r_0.xChain)) 0 rfl rfl rfl ty3 rfl ?_
            refine o_eql (st_g rfl rfl) und3 rfl rfl rfl ?_
            refine o_pickT (st_g rfl rfl) rfl rfl rfl ?_
            refine o_pickF (st_g rfl rfl) rfl rfl rfl ?_
            refine o_pickT st rfl rfl rfl ?_
            refine o_as st rfl rfl ?_
            refine c_nil ?_
            exact l_join (decide (r_0.xChain = 0)) (fun a w hE hm => ⟨hE.sub ⟨rfl, trivial⟩, (hm.pick [] rfl)⟩)
          · refine st_s rfl rfl rfl rfl ?_
            refine st_s rfl rfl rfl rfl ?_
            refine st_s rfl rfl rfl rfl ?_
            refine o_pickF (st_g rfl rfl) rfl rfl rfl ?_
            refine o_pickF (st_g rfl rfl) rfl rfl rfl ?_
            refine o_pickT st rfl rfl rfl ?_
            refine o_as st rfl rfl ?_
            refine c_nil ?_
            exact l_join false (fun a w hE hm => ⟨hE.sub ⟨rfl, trivial⟩, (hm.pick [] rfl)⟩)
      · refine st_s rfl rfl rfl rfl ?_
        refine st_s rfl rfl rfl rfl ?_
        refine st_s rfl rfl rfl rfl ?_
        refine st_s rfl rfl rfl rfl ?_
        refine st_s rfl rfl rfl rfl ?_
        refine st_s rfl rfl rfl rfl ?_
        refine st_s rfl rfl rfl rfl ?_
        refine st_s rfl rfl rfl rfl ?_
        refine st_s rfl rfl rfl rfl ?_
        refine st_s rfl rfl rfl rfl ?_
        refine st_s rfl rfl rfl rfl ?_
        refine st_s rfl rfl rfl rfl ?_
        refine st_s rfl rfl rfl rfl ?_
        refine st_s rfl rfl rfl rfl ?_
        refine st_s rfl rfl rfl rfl ?_
        refine st_s rfl rfl rfl rfl ?_
        refine st_s rfl rfl rfl rfl ?_
        refine st_s rfl rfl rfl rfl ?_
        refine o_pickF st rfl rfl rfl ?_
        refine o_as st rfl rfl ?_
        refine c_nil ?_
        exact l_join false (fun a w hE hm => ⟨hE.sub ⟨rfl, trivial⟩, (hm.pick [] rfl)⟩)
    · refine st_s rfl rfl rfl rfl ?_
      refine st_s rfl rfl rfl rfl ?_
      refine st_s rfl rfl rfl rfl ?_
      refine o_pickF st rfl rfl rfl ?_
      refine o_mv st rfl rfl ?_
      refine st_s rfl rfl rfl rfl ?_
      refine st_s rfl rfl rfl rfl ?_
      refine st_s rfl rfl rfl rfl ?_
      refine st_s rfl rfl rfl rfl ?_
      refine st_s rfl rfl rfl rfl ?_
      refine st_s rfl rfl rfl rfl ?_
      refine st_s rfl rfl rfl rfl ?_
      refine st_s rfl rfl rfl rfl ?_
      refine st_s rfl rfl rfl rfl ?_
      refine st_s rfl rfl rfl rfl ?_
      refine st_s rfl rfl rfl rfl ?_
      refine st_s rfl rfl rfl rfl ?_
      refine st_s rfl rfl rfl rfl ?_
      refine st_s rfl rfl rfl rfl ?_
      refine st_s rfl rfl rfl rfl ?_
      refine st_s rfl rfl rfl rfl ?_
      refine st_s rfl rfl rfl rfl ?_
      refine st_s rfl rfl rfl rfl ?_
      refine o_pickF st rfl rfl rfl ?_
      refine o_as st rfl rfl ?_
      refine c_nil ?_
      exact l_join false (fun a w hE hm => ⟨hE.sub ⟨rfl, trivial⟩, (hm.pick [] rfl)⟩)
  · rintro t71 a w ⟨hE, hm⟩ h
    refine nx_of hE hm h ?_
    clear hE hm h
    refine c_ret ?_
    exact l_end1 Tryd.results99 t71 () (rv_t rfl) (fun _ _ => NewCh.nil _ _ _ _)

set_option maxRecDepth 100000 in
set_option maxHeartbeats 8000000 in
theorem w_spec_RulesValid {w0 : World} {F : Nat → Prop} {v1 : Value} {list_0 : (List GRule)} {κ : Bool → Prop} (hF : ∀ b, F b → b < w0.heap.size ∧ ¬ feet [] b) (hv1 : Sl elGRule F w0 v1 list_0) (h : L_spec_RulesValid list_0 κ) :
    Calls Tryd.prog 69 #[v1] w0 (Ret [] F w0 κ (fun (r : Bool) (u : Unit) => (.bool r)) (fun (r : Bool) (u : Unit) => [])) := by
  refine enterS (args := [v1]) [] hF (Given.nil _ _) Tryd.func69 rfl Tryd.ntmps69 rfl h ?_
  clear h hF
  refine c_seq ?_
  refine c_region ?_
  refine o_as st rfl rfl ?_
  refine c_nil ?_
  refine l_then ?_
  refine c_seq ?_
  refine c_seq ?_
  refine c_region ?_
  refine o_as st rfl rfl ?_
  refine c_nil ?_
  refine l_then ?_
  refine c_block ?_
  refine c_loop (σ := Int) (fun (t3 : Int) (a : Act) (w : World) => Has 19 [(0, v1), (3, (.int .i64 t3))] a ∧ Mem (gB F [] w0) (feet []) w0 [snapCh w0 F] w) (fun a w hE hm => ⟨hE.sub ⟨rfl, rfl, trivial⟩, (hm.pick [0] rfl)⟩) ?_
  rintro nx4 t3 a w ⟨hE, hm⟩ h
  refine nx_of hE hm h ?_
  clear hE hm h
  refine c_seq ?_
  refine c_seq ?_
  refine c_region ?_
  refine o_mv st rfl rfl ?_
  refine o_mv st rfl rfl ?_
  refine o_len st el101 0 rfl (reads_snap hv1) rfl rfl ?_
  refine o_lss st rfl rfl rfl ?_
  refine c_nil ?_
  refine l_then ?_
  refine c_cond rfl ?_ ?_
  · refine c_skip ?_
    refine l_then ?_
    refine c_seq ?_
    refine c_block ?_
    refine c_seq ?_
    refine c_region ?_
    refine o_mv st rfl rfl ?_
    refine o_mv st rfl rfl ?_
    refine o_idx st 0 rfl (reads_snap hv1) rfl rfl rfl el101 ?_; intro e5 h6
    obtain ⟨_, ⟨v8, rfl, sl9⟩, rw7⟩ := sl_open hv1 h6
    refine o_ldR st (u := (.agg #[v8, (.int .i64 e5.xAction), (.int .i64 e5.xChain)])) 0 rfl rw7 rfl rfl ty104 rfl ?_
    refine stw (o_callP (vs := [(.agg #[v8, (.int .i64 e5.xAction), (.int .i64 e5.xChain)])]) Tryd.call99 rfl rfl (by intro w m h; exact (w_spec_RuleValid (F := allB [] w) (r_0 := e5) allB_ok (m.rd0 0 rfl (reads_snap sl9)) h).mono (fun _ _ k => ret_free (fun r u => fr_nil) k)) ?_); rintro r11 _
    refine o_not st rfl rfl ?_
    refine c_nil ?_
    refine l_then ?_
    refine c_cond rfl ?_ ?_
    · refine c_seq ?_
      refine c_region ?_
      refine o_as st rfl rfl ?_
      refine c_nil ?_
      refine l_then ?_
      refine c_ret ?_
      refine b_ret ?_
      refine l_ret ?_
      refine l_ret ?_
      refine b_ret ?_
      refine l_ret ?_
      exact l_end1 Tryd.results69 false () (rv_t rfl) (fun _ _ => NewCh.nil _ _ _ _)
    · refine c_skip ?_
      refine b_norm ?_
      refine l_then ?_
      refine c_region ?_
      refine o_mv st rfl rfl ?_
      refine o_add st rfl rfl rfl ?_; intro t12
      refine o_as st rfl rfl ?_
      refine c_nil ?_
      exact l_join t12 (fun a w hE hm => ⟨hE.sub ⟨rfl, rfl, trivial⟩, (hm.pick [0] rfl)⟩)
  · refine c_exit ?_
    refine l_exit ?_
    refine l_exit ?_
    refine b_exit ?_
    refine l_then ?_
    refine c_seq ?_
    refine c_region ?_
    refine o_mv st rfl rfl ?_
    refine o_len st el101 0 rfl (reads_snap hv1) rfl rfl ?_
    refine o_leq st rfl rfl rfl ?_
    refine o_as st rfl rfl ?_
    refine c_nil ?_
    refine l_then ?_
    refine c_ret ?_
    exact l_end1 Tryd.results69 (decide ((list_0.length : Int) ≤ 8)) () (rv_t rfl) (fun _ _ => NewCh.nil _ _ _ _)

set_option maxRecDepth 100000 in
set_option maxHeartbeats 8000000 in
theorem w_spec_l8Order {w0 : World} {F : Nat → Prop} {v1 : Value} {s_0 : GRuleset} {κ : (List Int) → Prop} (hF : ∀ b, F b → b < w0.heap.size ∧ ¬ feet [] b) (hv1 : Sl (elSl elGRule) F w0 v1 s_0.xChains) (h : L_spec_l8Order s_0 κ) :
    Calls Tryd.prog 70 #[(.agg #[v1, (.bool s_0.xAccept)])] w0 (Ret [] F w0 κ (fun (r : (List Int)) (u : Value) => u) (fun (r : (List Int)) (u : Value) => [ownCh elInt 3 u r])) := by
  refine enterS (args := [(.agg #[v1, (.bool s_0.xAccept)])]) [] hF (Given.nil _ _) Tryd.func70 rfl Tryd.ntmps70 rfl h ?_
  clear h hF
  refine c_seq ?_
  refine c_region ?_
  obtain ⟨a3, l4, q5, hs_⟩ := sl_val hv1; subst hs_
  refine stw (o_box rfl rfl [(.slice a3 l4 q5), (.bool s_0.xAccept)] rfl ?_); intro b6
  refine stw (o_asn elInt 3 rfl rfl ?_)
  refine c_nil ?_
  refine l_then ?_
  refine c_seq ?_
  refine c_region ?_
  refine o_fad st rfl rfl fld25_0 rfl ?_
  refine o_ldc st (v := (.slice a3 l4 q5)) 1 rfl rfl rfl ty23 rfl ?_
  refine o_len st el23 2 rfl (reads_snap hv1) rfl rfl ?_
  refine stw (o_make (z := false) flelBool rfl rfl rfl el50 rfl zero4 rfl rfl ?_); intro v9 xs10
  refine o_as st rfl rfl ?_
  refine c_nil ?_
  refine l_then ?_
  refine c_seq ?_
  refine c_region ?_
  refine stw (o_bsl (enc := encInt) (qs := []) (cells := []) ([] : (List Int)) flelInt (by intro ρ h; simp only [List.map_toArray, List.map_cons, List.map_nil]) rfl el99 zero3 rfl rfl rfl rfl rfl rfl ?_); intro v12
  refine o_as st rfl rfl ?_
  refine c_nil ?_
  refine l_then ?_
  refine c_seq ?_
  refine c_seq ?_
  refine c_region ?_
  refine o_as st rfl rfl ?_
  refine c_nil ?_
  refine l_then ?_
  refine c_block ?_
  refine c_loop (σ := ((List Bool) × (List Int) × Int)) (fun ((xs14, xs17, t20) : ((List Bool) × (List Int) × Int)) (a : Act) (w : World) => ∃ (v16 : Value), Has 74 [(1, (.pointer (some ⟨b6, 0, none⟩))), (3, v9), (4, v16), (5, (.int .i64 t20))] a ∧ Mem (gB F [] w0) (feet []) w0 [ownCh elBool 4 v9 xs14, cellCh b6 [(.slice a3 l4 q5), (.bool s_0.xAccept)] 25, snapCh w0 F, ownCh elInt 3 v16 xs17] w) (fun a w hE hm => ⟨v12, hE.sub ⟨rfl, rfl, rfl, rfl, trivial⟩, (hm.pick [1, 3, 4, 0] rfl)⟩) ?_
  rintro nx21 ⟨xs14, xs17, t20⟩ a w ⟨v16, hE, hm⟩ h
  refine nx_of hE hm h ?_
  clear hE hm h
  refine c_seq ?_
  refine c_seq ?_
  refine c_region ?_
  refine o_mv st rfl rfl ?_
  refine o_fad st rfl rfl fld25_0 rfl ?_
  refine o_ldc st (v := (.slice a3 l4 q5)) 1 rfl rfl rfl ty23 rfl ?_
  refine o_len st el23 2 rfl (reads_snap hv1) rfl rfl ?_
  refine o_lss st rfl rfl rfl ?_
  refine c_nil ?_
  refine l_then ?_
  refine c_cond rfl ?_ ?_
  · refine c_skip ?_
    refine l_then ?_
    refine c_seq ?_
    refine c_block ?_
    refine c_seq ?_
    refine c_region ?_
    refine o_as st rfl rfl ?_
    refine c_nil ?_
    refine l_then ?_
    refine c_block ?_
    refine c_loop (σ := ((List Bool) × (List Int) × Int)) (fun ((xs22, xs25, t28) : ((List Bool) × (List Int) × Int)) (a : Act) (w : World) => ∃ (v24 : Value), Has 74 [(1, (.pointer (some ⟨b6, 0, none⟩))), (3, v9), (4, v24), (5, (.int .i64 t20)), (6, (.int .i64 t28))] a ∧ Mem (gB F [] w0) (feet []) w0 [ownCh elBool 4 v9 xs22, cellCh b6 [(.slice a3 l4 q5), (.bool s_0.xAccept)] 25, snapCh w0 F, ownCh elInt 3 v24 xs25] w) (fun a w hE hm => ⟨v16, hE.sub ⟨rfl, rfl, rfl, rfl, rfl, trivial⟩, (hm.pick [0, 1, 2, 3] rfl)⟩) ?_
    rintro nx29 ⟨xs22, xs25, t28⟩ a w ⟨v24, hE, hm⟩ h
    refine nx_of hE hm h ?_
    clear hE hm h
    refine c_seq ?_
    refine c_seq ?_
    refine c_region ?_
    refine o_mv st rfl rfl ?_
    refine o_fad st rfl rfl fld25_0 rfl ?_
    refine o_ldc st (v := (.slice a3 l4 q5)) 1 rfl rfl rfl ty23 rfl ?_
    refine o_len st el23 2 rfl (reads_snap hv1) rfl rfl ?_
    refine o_lss st rfl rfl rfl ?_
    refine c_nil ?_
    refine l_then ?_
    refine c_cond rfl ?_ ?_
    · refine c_skip ?_
      refine l_then ?_
      refine c_join (σ := ((List Bool) × (List Int))) (fun ((xs190, xs192) : ((List Bool) × (List Int))) (a : Act) (w : World) => ∃ (v193 : Value), Has 74 [(1, (.pointer (some ⟨b6, 0, none⟩))), (3, v9), (4, v193), (5, (.int .i64 t20)), (6, (.int .i64 t28))] a ∧ Mem (gB F [] w0) (feet []) w0 [ownCh elBool 4 v9 xs190, cellCh b6 [(.slice a3 l4 q5), (.bool s_0.xAccept)] 25, ownCh elInt 3 v193 xs192, snapCh w0 F] w) ?_ ?_
      · intro k195
        refine c_block ?_
        refine c_seq ?_
        refine c_region ?_
        refine o_mv st rfl rfl ?_
        refine o_mv st rfl rfl ?_
        refine o_idx st 0 rfl reads_own rfl rfl rfl el50 ?_; intro e30 h31
        refine o_lds st (enc := encBool) (u := (.bool e30)) 0 rfl reads_own flelBool rfl h31 rfl rfl ty4 rfl ?_
        refine o_not st rfl rfl ?_
        refine o_as st rfl rfl ?_
        refine c_nil ?_
        refine l_then ?_
        refine c_seq ?_
        refine c_seq ?_
        refine c_region ?_
        refine o_as st rfl rfl ?_
        refine c_nil ?_
        refine l_then ?_
        refine c_block ?_
        refine c_loop (σ := (Bool × Int)) (fun ((t32, t33) : (Bool × Int)) (a : Act) (w : World) => Has 74 [(1, (.pointer (some ⟨b6, 0, none⟩))), (3, v9), (4, v24), (5, (.int .i64 t20)), (6, (.int .i64 t28)), (7, (.bool t32)), (8, (.int .i64 t33))] a ∧ Mem (gB F [] w0) (feet []) w0 [ownCh elBool 4 v9 xs22, cellCh b6 [(.slice a3 l4 q5), (.bool s_0.xAccept)] 25, ownCh elInt 3 v24 xs25, snapCh w0 F] w) (fun a w hE hm => ⟨hE.sub ⟨rfl, rfl, rfl, rfl, rfl, rfl, rfl, trivial⟩, (hm.pick [0, 1, 3, 2] rfl)⟩) ?_
        rintro nx34 ⟨t32, t33⟩ a w ⟨hE, hm⟩ h
        refine nx_of hE hm h ?_
        clear hE hm h
        refine c_seq ?_
        refine c_seq ?_
        refine c_region ?_
        refine o_mv st rfl rfl ?_
        refine o_fad st rfl rfl fld25_0 rfl ?_
        refine o_ldc st (v := (.slice a3 l4 q5)) 1 rfl rfl rfl ty23 rfl ?_
        refine o_mv st rfl rfl ?_
        refine o_idx st 3 rfl (reads_snap hv1) rfl rfl rfl el23 ?_; intro e35 h36
        obtain ⟨_, ⟨v38, rfl, sl39⟩, rw37⟩ := sl_open hv1 h36
        refine o_ldR st (u := v38) 3 rfl rw37 rfl rfl ty101 rfl ?_
        refine o_len st el101 3 rfl (reads_snap sl39) rfl rfl ?_
        refine o_lss st rfl rfl rfl ?_
        refine c_nil ?_
        refine l_then ?_
        refine c_cond rfl ?_ ?_
        · refine c_skip ?_
          refine l_then ?_
          refine c_join (σ := Bool) (fun (t120 : Bool) (a : Act) (w : World) => Has 74 [(1, (.pointer (some ⟨b6, 0, none⟩))), (3, v9), (4, v24), (5, (.int .i64 t20)), (6, (.int .i64 t28)), (7, (.bool t120)), (8, (.int .i64 t33))] a ∧ Mem (gB F [] w0) (feet []) w0 [ownCh elBool 4 v9 xs22, cellCh b6 [(.slice a3 l4 q5), (.bool s_0.xAccept)] 25, ownCh elInt 3 v24 xs25, snapCh w0 F] w) ?_ ?_
          · intro k121
            refine c_block ?_
            refine c_seq ?_
            refine c_region ?_
            refine o_fad st rfl rfl fld25_0 rfl ?_
            refine o_ldc st (v := (.slice a3 l4 q5)) 1 rfl rfl rfl ty23 rfl ?_
            refine o_mv st rfl rfl ?_
            refine o_idx st 3 rfl (reads_snap hv1) rfl rfl rfl el23 ?_; intro e41 h42
            obtain ⟨_, ⟨v44, rfl, sl45⟩, rw43⟩ := sl_open hv1 h42
            refine o_ldR st (u := v44) 3 rfl rw43 rfl rfl ty101 rfl ?_
            refine o_mv st rfl rfl ?_
            refine o_idx st 3 rfl (reads_snap sl45) rfl rfl rfl el101 ?_; intro e47 h48
            obtain ⟨_, ⟨v50, rfl, sl51⟩, rw49⟩ := sl_open sl45 h48
            refine o_ldR st (u := (.agg #[v50, (.int .i64 e47.xAction), (.int .i64 e47.xChain)])) 3 rfl rw49 rfl rfl ty104 rfl ?_
            refine stw (o_alloc rfl [(.slice none 0 0), (.int .i64 0), (.int .i64 0)] zero104 ?_); intro b53
            obtain ⟨a55, l56, q57, hs_⟩ := sl_val sl51; subst hs_
            refine stw (o_stc (cs' := [(.slice a55 l56 q57), (.int .i64 e47.xAction), (.int .i64 e47.xChain)]) 0 rfl rfl rfl ty104 rfl rfl rfl rfl ?_)
            refine c_nil ?_
            refine l_then ?_
            refine c_region ?_
            refine o_mv st rfl rfl ?_
            refine o_mv st rfl rfl ?_
            refine st_sp (dj := 53) rfl ?_ ?_
            · refine o_fad (st_g rfl rfl) rfl rfl fld104_1 rfl ?_
              refine o_ldc (st_g rfl rfl) (v := (.int .i64 e47.xAction)) 0 rfl rfl rfl ty3 rfl ?_
              refine o_neq (st_g rfl rfl) und3 rfl rfl rfl ?_
              refine o_mv (st_g rfl rfl) rfl rfl ?_
              refine st_sp (dj := 57) rfl ?_ ?_
              · refine st_s rfl rfl rfl rfl ?_
                refine st_s rfl rfl rfl rfl ?_
                refine st_s rfl rfl rfl rfl ?_
                refine st_s rfl rfl rfl rfl ?_
                refine st_s rfl rfl rfl rfl ?_
                refine o_pickT (st_g rfl rfl) rfl rfl rfl ?_
                refine o_pickT st rfl rfl rfl ?_
                refine o_as st rfl rfl ?_
                refine c_nil ?_
                refine b_norm ?_
                exact l_join true (fun a w hE hm => ⟨hE.sub ⟨rfl, rfl, rfl, rfl, rfl, rfl, rfl, trivial⟩, (hm.pick [1, 2, 3, 4] rfl)⟩)
              · refine o_mv (st_g rfl rfl) rfl rfl ?_
                refine o_fad (st_g rfl rfl) rfl rfl fld104_2 rfl ?_
                refine o_ldc (st_g rfl rfl) (v := (.int .i64 e47.xChain)) 0 rfl rfl rfl ty3 rfl ?_
                refine o_idx (st_g rfl rfl) 1 rfl reads_own rfl rfl rfl el50 ?_; intro e58 h59
                refine o_lds (st_g rfl rfl) (enc := encBool) (u := (.bool e58)) 1 rfl reads_own flelBool rfl h59 rfl rfl ty4 rfl ?_
                refine o_pickF (st_g rfl rfl) rfl rfl rfl ?_
                refine o_pickT st rfl rfl rfl ?_
                refine o_as st rfl rfl ?_
                refine c_nil ?_
                refine b_norm ?_
                exact l_join e58 (fun a w hE hm => ⟨hE.sub ⟨rfl, rfl, rfl, rfl, rfl, rfl, rfl, trivial⟩, (hm.pick [1, 2, 3, 4] rfl)⟩)
            · refine st_s rfl rfl rfl rfl ?_
              refine st_s rfl rfl rfl rfl ?_
              refine st_s rfl rfl rfl rfl ?_
              refine st_s rfl rfl rfl rfl ?_
              refine st_s rfl rfl rfl rfl ?_
              refine st_s rfl rfl rfl rfl ?_
              refine st_s rfl rfl rfl rfl ?_
              refine st_s rfl rfl rfl rfl ?_
              refine st_s rfl rfl rfl rfl ?_
              refine st_s rfl rfl rfl rfl ?_
              refine o_pickF st rfl rfl rfl ?_
              refine o_as st rfl rfl ?_
              refine c_nil ?_
              refine b_norm ?_
              exact l_join false (fun a w hE hm => ⟨hE.sub ⟨rfl, rfl, rfl, rfl, rfl, rfl, rfl, trivial⟩, (hm.pick [1, 2, 3, 4] rfl)⟩)
          · rintro t120 a w ⟨hE, hm⟩ h
            refine nx_of hE hm h ?_
            clear hE hm h
            refine c_region ?_
            refine o_mv st rfl rfl ?_
            refine o_add st rfl rfl rfl ?_; intro t122
            refine o_as st rfl rfl ?_
            refine c_nil ?_
            exact l_join (t120, t122) (fun a w hE hm => ⟨hE.sub ⟨rfl, rfl, rfl, rfl, rfl, rfl, rfl, trivial⟩, (hm.pick [0, 1, 2, 3] rfl)⟩)
        · refine c_exit ?_
          refine l_exit ?_
          refine l_exit ?_
          refine b_exit ?_
          refine l_then ?_
          refine c_seq ?_
          refine c_region ?_
          refine o_mv st rfl rfl ?_
          refine c_nil ?_
          refine l_then ?_
          refine c_cond rfl ?_ ?_
          · refine c_seq ?_
            refine c_region ?_
            refine o_mv st rfl rfl ?_
            refine o_mv st rfl rfl ?_
            refine o_idx st 0 rfl reads_own rfl rfl rfl el50 ?_; intro e123 h124
            refine stw (o_sts (enc := encBool) (y' := true) 0 rfl flelBool rfl h124 ty4 rfl rfl rfl rfl rfl rfl ?_)
            refine c_nil ?_
            refine l_then ?_
            refine c_region ?_
            refine o_mv st rfl rfl ?_
            refine o_mv st rfl rfl ?_
            refine stw (o_bsl (enc := encInt) (qs := [(0, (.int .i64 t28))]) (cells := [(.int .i64 t28)]) ([t28]) flelInt (by intro ρ h; simp only [List.map_toArray, List.map_cons, List.map_nil, h (.tmp 70) _ rfl]) rfl el99 zero3 rfl rfl rfl rfl rfl rfl ?_); intro v126
            refine stw (o_app 3 0 rfl rfl (src_flat flelInt reads_own) rfl rfl rfl el99 rfl zero3 rfl rfl ?_); intro v128
            refine o_as st rfl rfl ?_
            refine c_nil ?_
            refine b_norm ?_
            exact l_join ((xs22.set (t28).toNat true), (xs25 ++ ([t28]))) (fun a w hE hm => ⟨v128, hE.sub ⟨rfl, rfl, rfl, rfl, rfl, trivial⟩, (hm.pick [1, 2, 3, 4] rfl)⟩)
          · refine c_skip ?_
            refine b_norm ?_
            exact l_join (xs22, xs25) (fun a w hE hm => ⟨v24, hE.sub ⟨rfl, rfl, rfl, rfl, rfl, trivial⟩, (hm.pick [0, 1, 2, 3] rfl)⟩)
      · rintro ⟨xs190, xs192⟩ a w ⟨v193, hE, hm⟩ h
        refine nx_of hE hm h ?_
        clear hE hm h
        refine c_region ?_
        refine o_mv st rfl rfl ?_
        refine o_add st rfl rfl rfl ?_; intro t196
        refine o_as st rfl rfl ?_
        refine c_nil ?_
        exact l_join (xs190, xs192, t196) (fun a w hE hm => ⟨v193, hE.sub ⟨rfl, rfl, rfl, rfl, rfl, trivial⟩, (hm.pick [0, 1, 3, 2] rfl)⟩)
    · refine c_exit ?_
      refine l_exit ?_
      refine l_exit ?_
      refine b_exit ?_
      refine b_norm ?_
      refine l_then ?_
      refine c_region ?_
      refine o_mv st rfl rfl ?_
      refine o_add st rfl rfl rfl ?_; intro t197
      refine o_as st rfl rfl ?_
      refine c_nil ?_
      exact l_join (xs22, xs25, t197) (fun a w hE hm => ⟨v24, hE.sub ⟨rfl, rfl, rfl, rfl, trivial⟩, (hm.pick [0, 1, 2, 3] rfl)⟩)
  · refine c_exit ?_
    refine l_exit ?_
    refine l_exit ?_
    refine b_exit ?_
    refine l_then ?_
    refine c_seq ?_
    refine c_region ?_
    refine o_mv st rfl rfl ?_
    refine o_as st rfl rfl ?_
    refine c_nil ?_
    refine l_then ?_
    refine c_ret ?_
    exact l_end1 Tryd.results70 xs17 v16 (rv_t rfl) (fun w m => NewCh.ofB m [3] rfl)

set_option maxRecDepth 100000 in
set_option maxHeartbeats 8000000 in
theorem w_spec_RulesetValid {w0 : World} {F : Nat → Prop} {v1 : Value} {s_0 : GRuleset} {κ : Bool → Prop} (hF : ∀ b, F b → b < w0.heap.size ∧ ¬ feet [] b) (hv1 : Sl (elSl elGRule) F w0 v1 s_0.xChains) (h : L_spec_RulesetValid s_0 κ) :
    Calls Tryd.prog 22 #[(.agg #[v1, (.bool s_0.xAccept)])] w0 (Ret [] F w0 κ (fun (r : Bool) (u : Unit) => (.bool r)) (fun (r : Bool) (u : Unit) => [])) := by
  refine enterS (args := [(.agg #[v1, (.bool s_0.xAccept)])]) [] hF (Given.nil _ _) Tryd.func22 rfl Tryd.ntmps22 rfl h ?_
  clear h hF
  refine c_seq ?_
  refine c_region ?_
  obtain ⟨a3, l4, q5, hs_⟩ := sl_val hv1; subst hs_
  refine stw (o_box rfl rfl [(.slice a3 l4 q5), (.bool s_0.xAccept)] rfl ?_); intro b6
  refine o_as st rfl rfl ?_
  refine c_nil ?_
  refine l_then ?_
  refine c_seq ?_
  refine c_seq ?_
  refine c_region ?_
  refine o_as st rfl rfl ?_
  refine c_nil ?_
  refine l_then ?_
  refine c_block ?_
  refine c_loop (σ := Int) (fun (t8 : Int) (a : Act) (w : World) => Has 55 [(1, (.pointer (some ⟨b6, 0, none⟩))), (3, (.int .i64 t8))] a ∧ Mem (gB F [] w0) (feet []) w0 [cellCh b6 [(.slice a3 l4 q5), (.bool s_0.xAccept)] 25, snapCh w0 F] w) (fun a w hE hm => ⟨hE.sub ⟨rfl, rfl, trivial⟩, (hm.pick [0, 1] rfl)⟩) ?_
  rintro nx9 t8 a w ⟨hE, hm⟩ h
  refine nx_of hE hm h ?_
  clear hE hm h
  refine c_seq ?_
  refine c_seq ?_
  refine c_region ?_
  refine o_mv st rfl rfl ?_
  refine o_fad st rfl rfl fld25_0 rfl ?_
  refine o_ldc st (v := (.slice a3 l4 q5)) 0 rfl rfl rfl ty23 rfl ?_
  refine o_len st el23 1 rfl (reads_snap hv1) rfl rfl ?_
  refine o_lss st rfl rfl rfl ?_
  refine c_nil ?_
  refine l_then ?_
  refine c_cond rfl ?_ ?_
  · refine c_skip ?_
    refine l_then ?_
    refine c_seq ?_
    refine c_block ?_
    refine c_seq ?_
    refine c_seq ?_
    refine c_region ?_
    refine o_fad st rfl rfl fld25_0 rfl ?_
    refine o_ldc st (v := (.slice a3 l4 q5)) 0 rfl rfl rfl ty23 rfl ?_
    refine o_mv st rfl rfl ?_
    refine o_idx st 1 rfl (reads_snap hv1) rfl rfl rfl el23 ?_; intro e10 h11
    obtain ⟨_, ⟨v13, rfl, sl14⟩, rw12⟩ := sl_open hv1 h11
    refine o_ldR st (u := v13) 1 rfl rw12 rfl rfl ty101 rfl ?_
    refine stw (o_callP (vs := [v13]) Tryd.call69 rfl rfl (by intro w m h; exact (w_spec_RulesValid (F := allB [] w) (list_0 := e10) allB_ok (m.rd0 1 rfl (reads_snap sl14)) h).mono (fun _ _ k => ret_free (fun r u => fr_nil) k)) ?_); rintro r16 _
    refine o_not st rfl rfl ?_
    refine c_nil ?_
    refine l_then ?_
    refine c_cond rfl ?_ ?_
    · refine c_seq ?_
      refine c_region ?_
      refine o_as st rfl rfl ?_
      refine c_nil ?_
      refine l_then ?_
      refine c_ret ?_
      refine l_ret ?_
      refine b_ret ?_
      refine l_ret ?_
      refine l_ret ?_
      refine b_ret ?_
      refine l_ret ?_
      exact l_end1 Tryd.results22 false () (rv_t rfl) (fun _ _ => NewCh.nil _ _ _ _)
    · refine c_skip ?_
      refine l_then ?_
      refine c_seq ?_
      refine c_region ?_
      refine o_as st rfl rfl ?_
      refine c_nil ?_
      refine l_then ?_
      refine c_block ?_
      refine c_loop (σ := Int) (fun (t17 : Int) (a : Act) (w : World) => Has 55 [(1, (.pointer (some ⟨b6, 0, none⟩))), (3, (.int .i64 t8)), (4, (.int .i64 t17))] a ∧ Mem (gB F [] w0) (feet []) w0 [cellCh b6 [(.slice a3 l4 q5), (.bool s_0.xAccept)] 25, snapCh w0 F] w) (fun a w hE hm => ⟨hE.sub ⟨rfl, rfl, rfl, trivial⟩, (hm.pick [0, 1] rfl)⟩) ?_
      rintro nx18 t17 a w ⟨hE, hm⟩ h
      refine nx_of hE hm h ?_
      clear hE hm h
      refine c_seq ?_
      refine c_seq ?_
      refine c_region ?_
      refine o_mv st rfl rfl ?_
      refine o_fad st rfl rfl fld25_0 rfl ?_
      refine o_ldc st (v := (.slice a3 l4 q5)) 0 rfl rfl rfl ty23 rfl ?_
      refine o_mv st rfl rfl ?_
      refine o_idx st 1 rfl (reads_snap hv1) rfl rfl rfl el23 ?_; intro e19 h20
      obtain ⟨_, ⟨v22, rfl, sl23⟩, rw21⟩ := sl_open hv1 h20
      refine o_ldR st (u := v22) 1 rfl rw21 rfl rfl ty101 rfl ?_
      refine o_len st el101 1 rfl (reads_snap sl23) rfl rfl ?_
      refine o_lss st rfl rfl rfl ?_
      refine c_nil ?_
      refine l_then ?_
      refine c_cond rfl ?_ ?_
      · refine c_skip ?_
        refine l_then ?_
        refine c_seq ?_
        refine c_block ?_
        refine c_seq ?_
        refine c_draw mixed 13 rfl [cellCh b6 [(.slice a3 l4 q5), (.bool s_0.xAccept)] 25, snapCh w0 F] ?_
        refine o_fad (dt 0 (fun _ m => m)) rfl rfl fld25_0 rfl ?_
        refine o_ldc (dt 1 (fun _ m => m)) (v := (.slice a3 l4 q5)) 0 rfl rfl rfl ty23 rfl ?_
        refine o_mv (dt 2 (fun _ m => m)) rfl rfl ?_
        refine o_idx (dt 3 (fun _ m => m)) 1 rfl (reads_snap hv1) rfl rfl rfl el23 ?_; intro e25 h26
        obtain ⟨_, ⟨v28, rfl, sl29⟩, rw27⟩ := sl_open hv1 h26
        refine o_ldR (dt 4 (fun _ m => m)) (u := v28) 1 rfl rw27 rfl rfl ty101 rfl ?_
        refine o_mv (dt 5 (fun _ m => m)) rfl rfl ?_
        refine o_idx (dt 6 (fun _ m => m)) 1 rfl (reads_snap sl29) rfl rfl rfl el101 ?_; intro e31 h32
        refine o_fadS (dt 7 (fun _ m => m)) 1 rfl (reads_snap sl29) h32 rfl rfl fld104_2 rfl ?_
        refine o_ldP (dt 8 (fun _ m => m)) (u := (.int .i64 e31.xChain)) 1 rfl (reads_snap sl29) h32 rfl rfl rfl ty3 (fun F w cs h => by obtain ⟨u, rfl, _⟩ := h; rfl) ?_
        refine o_fad (dt 9 (fun _ m => m)) rfl rfl fld25_0 rfl ?_
        refine o_ldc (dt 10 (fun _ m => m)) (v := (.slice a3 l4 q5)) 0 rfl rfl rfl ty23 rfl ?_
        refine o_len (dt 11 (fun _ m => m)) el23 1 rfl (reads_snap hv1) rfl rfl ?_
        refine o_geq (dt 12 (fun _ m => m)) rfl rfl rfl ?_
        refine d_done (by kernel_rfl) ?_
        refine l_then ?_
        refine c_cond rfl ?_ ?_
        · refine c_seq ?_
          refine c_region ?_
          refine o_as st rfl rfl ?_
          refine c_nil ?_
          refine l_then ?_
          refine c_ret ?_
          refine b_ret ?_
          refine l_ret ?_
          refine l_ret ?_
          refine b_ret ?_
          refine b_ret ?_
          refine l_ret ?_
          refine l_ret ?_
          refine b_ret ?_
          refine l_ret ?_
          exact l_end1 Tryd.results22 false () (rv_t rfl) (fun _ _ => NewCh.nil _ _ _ _)
        · refine c_skip ?_
          refine b_norm ?_
          refine l_then ?_
          refine c_region ?_
          refine o_mv st rfl rfl ?_
          refine o_add st rfl rfl rfl ?_; intro t33
          refine o_as st rfl rfl ?_
          refine c_nil ?_
          exact l_join t33 (fun a w hE hm => ⟨hE.sub ⟨rfl, rfl, rfl, trivial⟩, (hm.pick [0, 1] rfl)⟩)
      · refine c_exit ?_
        refine l_exit ?_
        refine l_exit ?_
        refine b_exit ?_
        refine b_norm ?_
        refine l_then ?_
        refine c_region ?_
        refine o_mv st rfl rfl ?_
        refine o_add st rfl rfl rfl ?_; intro t34
        refine o_as st rfl rfl ?_
        refine c_nil ?_
        exact l_join t34 (fun a w hE hm => ⟨hE.sub ⟨rfl, rfl, trivial⟩, (hm.pick [0, 1] rfl)⟩)
  · refine c_exit ?_
    refine l_exit ?_
    refine l_exit ?_
    refine b_exit ?_
    refine l_then ?_
    refine c_join (σ := Bool) (fun (t99 : Bool) (a : Act) (w : World) => Has 55 [(2, (.bool t99))] a ∧ Mem (gB F [] w0) (feet []) w0 [] w) ?_ ?_
    · intro k100
      refine c_draw mixed 14 rfl [cellCh b6 [(.slice a3 l4 q5), (.bool s_0.xAccept)] 25, snapCh w0 F] ?_
      refine o_fad (dt 0 (fun _ m => m)) rfl rfl fld25_0 rfl ?_
      refine o_ldc (dt 1 (fun _ m => m)) (v := (.slice a3 l4 q5)) 0 rfl rfl rfl ty23 rfl ?_
      refine o_len (dt 2 (fun _ m => m)) el23 1 rfl (reads_snap hv1) rfl rfl ?_
      refine d_one (i := 3) rfl (by kernel_rfl) (o_callP (vs := [(.int .i64 (s_0.xChains.length : Int)), (.int .i64 1), (.int .i64 5)]) Tryd.call58 rfl rfl (by intro w m h; exact (w_spec_l1In (F := allB [] w) (n_0 := (s_0.xChains.length : Int)) (lo_1 := 1) (hi_2 := 5) allB_ok h).mono (fun _ _ k => ret_free (fun r u => fr_nil) k)) ?_); rintro r35 _
      refine d_and (fun _ m => m) ?_
      refine o_mv (dt 4 (fun _ m => m)) rfl rfl ?_
      refine st_sp (dj := 46) rfl ?_ ?_
      · refine o_ldc (dtg 5 (fun _ m => m)) (v := (.agg #[(.slice a3 l4 q5), (.bool s_0.xAccept)])) 0 rfl rfl rfl ty25 rfl ?_
        refine o_fad (dtg 8 (fun _ m => m)) rfl rfl fld25_0 rfl ?_
        refine o_ldc (dtg 9 (fun _ m => m)) (v := (.slice a3 l4 q5)) 0 rfl rfl rfl ty23 rfl ?_
        refine o_len (dtg 10 (fun _ m => m)) el23 1 rfl (reads_snap hv1) rfl rfl ?_
        refine d_oneg (i := 6) rfl rfl rfl (by kernel_rfl) (o_callP (vs := [(.agg #[(.slice a3 l4 q5), (.bool s_0.xAccept)])]) Tryd.call70 rfl rfl (by intro w m h; exact (w_spec_l8Order (F := allB [] w) (s_0 := s_0) allB_ok (m.rd0 1 rfl (reads_snap hv1)) h).mono (fun _ _ k => ret_free (fun r u => (fr_cons (free_own flelInt) fr_nil)) k)) ?_); rintro r36 v37
        refine d_and (fun w m => m.pick [1, 2] rfl) ?_
        refine d_oneg (i := 7) rfl rfl rfl (by kernel_rfl) (o_len m_op el99 0 rfl reads_own rfl rfl ?_)
        refine d_and (fun w m => m.pick [1, 2] rfl) ?_
        refine o_eql (dtg 11 (fun w m => m.pick [1, 2] rfl)) und3 rfl rfl rfl ?_
        refine o_pickT (dt 12 (fun w m => m.pick [1, 2] rfl)) rfl rfl rfl ?_
        refine o_as (dt 13 (fun w m => m.pick [1, 2] rfl)) rfl rfl ?_
        refine d_done (by kernel_rfl) ?_
        exact l_join (decide ((r36.length : Int) = (s_0.xChains.length : Int))) (fun a w hE hm => ⟨hE.sub ⟨rfl, trivial⟩, (hm.pick [] rfl)⟩)
      · refine dsk 5 (fun _ m => m) rfl (by kernel_rfl) rfl rfl rfl rfl ?_
        refine dsk 6 (fun _ m => m) rfl (by kernel_rfl) rfl rfl rfl rfl ?_
        refine dsk 7 (fun _ m => m) rfl (by kernel_rfl) rfl rfl rfl rfl ?_
        refine dsk 8 (fun _ m => m) rfl (by kernel_rfl) rfl rfl rfl rfl ?_
        refine dsk 9 (fun _ m => m) rfl (by kernel_rfl) rfl rfl rfl rfl ?_
        refine dsk 10 (fun _ m => m) rfl (by kernel_rfl) rfl rfl rfl rfl ?_
        refine dsk 11 (fun _ m => m) rfl (by kernel_rfl) rfl rfl rfl rfl ?_
        refine o_pickF (dt 12 (fun _ m => m)) rfl rfl rfl ?_
        refine o_as (dt 13 (fun _ m => m)) rfl rfl ?_
        refine d_done (by kernel_rfl) ?_
        exact l_join false (fun a w hE hm => ⟨hE.sub ⟨rfl, trivial⟩, (hm.pick [] rfl)⟩)
    · rintro t99 a w ⟨hE, hm⟩ h
      refine nx_of hE hm h ?_
      clear hE hm h
      refine c_ret ?_
      exact l_end1 Tryd.results22 t99 () (rv_t rfl) (fun _ _ => NewCh.nil _ _ _ _)

set_option maxRecDepth 100000 in
set_option maxHeartbeats 8000000 in
theorem w_spec_PacketField {w0 : World} {F : Nat → Prop} {p_0 : GPacket} {n_1 : Int} {κ : Int → Prop} (hF : ∀ b, F b → b < w0.heap.size ∧ ¬ feet [] b) (h : L_spec_PacketField p_0 n_1 κ) :
    Calls Tryd.prog 125 #[(.agg #[(.int .i64 p_0.xFrom), (.int .i64 p_0.xTo), (.int .i64 p_0.xPort), (.int .i64 p_0.xProto)]), (.int .i64 n_1)] w0 (Ret [] F w0 κ (fun (r : Int) (u : Unit) => (.int .i64 r)) (fun (r : Int) (u : Unit) => [])) := by
  refine enter0 (args := [(.agg #[(.int .i64 p_0.xFrom), (.int .i64 p_0.xTo), (.int .i64 p_0.xPort), (.int .i64 p_0.xProto)]), (.int .i64 n_1)]) [] hF (Given.nil _ _) Tryd.func125 rfl Tryd.ntmps125 rfl h ?_
  clear h hF
  refine c_seq ?_
  refine c_region ?_
  refine stw (o_box rfl rfl [(.int .i64 p_0.xFrom), (.int .i64 p_0.xTo), (.int .i64 p_0.xPort), (.int .i64 p_0.xProto)] rfl ?_); intro b1
  refine o_as st rfl rfl ?_
  refine c_nil ?_
  refine l_then ?_
  refine c_seq ?_
  refine c_join (σ := Bool) (fun (t65 : Bool) (a : Act) (w : World) => Has 25 [(1, (.int .i64 n_1)), (2, (.pointer (some ⟨b1, 0, none⟩))), (12, (.bool t65))] a ∧ Mem (gB F [] w0) (feet []) w0 [cellCh b1 [(.int .i64 p_0.xFrom), (.int .i64 p_0.xTo), (.int .i64 p_0.xPort), (.int .i64 p_0.xProto)] 40] w) ?_ ?_
  · intro k66
    refine c_region ?_
    refine o_ldc st (v := (.agg #[(.int .i64 p_0.xFrom), (.int .i64 p_0.xTo), (.int .i64 p_0.xPort), (.int .i64 p_0.xProto)])) 0 rfl rfl rfl ty40 rfl ?_
    refine stw (o_callP (vs := [(.agg #[(.int .i64 p_0.xFrom), (.int .i64 p_0.xTo), (.int .i64 p_0.xPort), (.int .i64 p_0.xProto)])]) Tryd.call23 rfl rfl (by intro w m h; exact (w_spec_PacketValid (F := allB [] w) (p_0 := p_0) allB_ok h).mono (fun _ _ k => ret_free (fun r u => fr_nil) k)) ?_); rintro r3 _
    refine o_not st rfl rfl ?_
    refine o_mv st rfl rfl ?_
    refine st_sp (dj := 8) rfl ?_ ?_
    · refine st_s rfl rfl rfl rfl ?_
      refine st_s rfl rfl rfl rfl ?_
      refine st_s rfl rfl rfl rfl ?_
      refine o_pickT st rfl rfl rfl ?_
      refine c_nil ?_
      exact l_join true (fun a w hE hm => ⟨hE.sub ⟨rfl, rfl, rfl, trivial⟩, (hm.pick [0] rfl)⟩)
    · refine o_mv (st_g rfl rfl) rfl rfl ?_
      refine st_gw rfl rfl (o_callP (vs := [(.int .i64 n_1), (.int .i64 0), (.int .i64 3)]) Tryd.call58 rfl rfl (by intro w m h; exact (w_spec_l1In (F := allB [] w) (n_0 := n_1) (lo_1 := 0) (hi_2 := 3) allB_ok h).mono (fun _ _ k => ret_free (fun r u => fr_nil) k)) ?_); rintro r4 _
      refine o_not (st_g rfl rfl) rfl rfl ?_
      refine o_pickF st rfl rfl rfl ?_
      refine c_nil ?_
      exact l_join (!r4) (fun a w hE hm => ⟨hE.sub ⟨rfl, rfl, rfl, trivial⟩, (hm.pick [0] rfl)⟩)
  · rintro t65 a w ⟨hE, hm⟩ h
    refine nx_of hE hm h ?_
    clear hE hm h
    refine c_cond rfl ?_ ?_
    · refine c_seq ?_
      refine c_region ?_
      refine o_as st rfl rfl ?_
      refine c_nil ?_
      refine l_then ?_
      refine c_ret ?_
      refine l_ret ?_
      exact l_end1 Tryd.results125 (-1) () (rv_t rfl) (fun _ _ => NewCh.nil _ _ _ _)
    · refine c_skip ?_
      refine l_then ?_
      refine c_seq ?_
      refine c_region ?_
      refine o_fad st rfl rfl fld40_0 rfl ?_
      refine o_ldc st (v := (.int .i64 p_0.xFrom)) 0 rfl rfl rfl ty3 rfl ?_
      refine o_fad st rfl rfl fld40_1 rfl ?_
      refine o_ldc st (v := (.int .i64 p_0.xTo)) 0 rfl rfl rfl ty3 rfl ?_
      refine o_fad st rfl rfl fld40_2 rfl ?_
      refine o_ldc st (v := (.int .i64 p_0.xPort)) 0 rfl rfl rfl ty3 rfl ?_
      refine o_fad st rfl rfl fld40_3 rfl ?_
      refine o_ldc st (v := (.int .i64 p_0.xProto)) 0 rfl rfl rfl ty3 rfl ?_
      refine stw (o_bsl (enc := encInt) (qs := [(0, (.int .i64 p_0.xFrom)), (1, (.int .i64 p_0.xTo)), (2, (.int .i64 p_0.xPort)), (3, (.int .i64 p_0.xProto))]) (cells := [(.int .i64 p_0.xFrom), (.int .i64 p_0.xTo), (.int .i64 p_0.xPort), (.int .i64 p_0.xProto)]) ([p_0.xFrom, p_0.xTo, p_0.xPort, p_0.xProto]) flelInt (by intro ρ h; simp only [List.map_toArray, List.map_cons, List.map_nil, h (.tmp 14) _ rfl, h (.tmp 16) _ rfl, h (.tmp 18) _ rfl, h (.tmp 20) _ rfl]) rfl el99 zero3 rfl rfl rfl rfl rfl rfl ?_); intro v67
      refine o_mv st rfl rfl ?_
      refine o_idx st 0 rfl reads_own rfl rfl rfl el99 ?_; intro e69 h70
      refine o_lds st (enc := encInt) (u := (.int .i64 e69)) 0 rfl reads_own flelInt rfl h70 rfl rfl ty3 rfl ?_
      refine o_as st rfl rfl ?_
      refine c_nil ?_
      refine l_then ?_
      refine c_ret ?_
      exact l_end1 Tryd.results125 e69 () (rv_t rfl) (fun _ _ => NewCh.nil _ _ _ _)

set_option maxRecDepth 100000 in
set_option maxHeartbeats 8000000 in
theorem w_spec_TestHolds {w0 : World} {F : Nat → Prop} {t_0 : GTest} {p_1 : GPacket} {κ : Bool → Prop} (hF : ∀ b, F b → b < w0.heap.size ∧ ¬ feet [] b) (h : L_spec_TestHolds t_0 p_1 κ) :
    Calls Tryd.prog 119 #[(.agg #[(.int .i64 t_0.xField), (.int .i64 t_0.xLo), (.int .i64 t_0.xHi), (.bool t_0.xNot)]), (.agg #[(.int .i64 p_1.xFrom), (.int .i64 p_1.xTo), (.int .i64 p_1.xPort), (.int .i64 p_1.xProto)])] w0 (Ret [] F w0 κ (fun (r : Bool) (u : Unit) => (.bool r)) (fun (r : Bool) (u : Unit) => [])) := by
  refine enter0 (args := [(.agg #[(.int .i64 t_0.xField), (.int .i64 t_0.xLo), (.int .i64 t_0.xHi), (.bool t_0.xNot)]), (.agg #[(.int .i64 p_1.xFrom), (.int .i64 p_1.xTo), (.int .i64 p_1.xPort), (.int .i64 p_1.xProto)])]) [] hF (Given.nil _ _) Tryd.func119 rfl Tryd.ntmps119 rfl h ?_
  clear h hF
  refine c_seq ?_
  refine c_region ?_
  refine stw (o_box rfl rfl [(.int .i64 t_0.xField), (.int .i64 t_0.xLo), (.int .i64 t_0.xHi), (.bool t_0.xNot)] rfl ?_); intro b1
  refine stw (o_box rfl rfl [(.int .i64 p_1.xFrom), (.int .i64 p_1.xTo), (.int .i64 p_1.xPort), (.int .i64 p_1.xProto)] rfl ?_); intro b3
  refine o_as st rfl rfl ?_
  refine c_nil ?_
  refine l_then ?_
  refine c_join (σ := Bool) (fun (t69 : Bool) (a : Act) (w : World) => Has 25 [(4, (.bool t69))] a ∧ Mem (gB F [] w0) (feet []) w0 [] w) ?_ ?_
  · intro k70
    refine c_draw mixed 21 rfl [cellCh b3 [(.int .i64 p_1.xFrom), (.int .i64 p_1.xTo), (.int .i64 p_1.xPort), (.int .i64 p_1.xProto)] 40, cellCh b1 [(.int .i64 t_0.xField), (.int .i64 t_0.xLo), (.int .i64 t_0.xHi), (.bool t_0.xNot)] 173] ?_
    refine o_ldc (dt 0 (fun _ m => m)) (v := (.agg #[(.int .i64 t_0.xField), (.int .i64 t_0.xLo), (.int .i64 t_0.xHi), (.bool t_0.xNot)])) 1 rfl rfl rfl ty173 rfl ?_
    refine d_one (i := 1) rfl (by kernel_rfl) (o_callP (vs := [(.agg #[(.int .i64 t_0.xField), (.int .i64 t_0.xLo), (.int .i64 t_0.xHi), (.bool t_0.xNot)])]) Tryd.call112 rfl rfl (by intro w m h; exact (w_spec_TestValid (F := allB [] w) (t_0 := t_0) allB_ok h).mono (fun _ _ k => ret_free (fun r u => fr_nil) k)) ?_); rintro r5 _
    refine d_and (fun _ m => m) ?_
    refine o_mv (dt 2 (fun _ m => m)) rfl rfl ?_
    refine st_sp (dj := 7) rfl ?_ ?_
    · refine o_ldc (dtg 3 (fun _ m => m)) (v := (.agg #[(.int .i64 p_1.xFrom), (.int .i64 p_1.xTo), (.int .i64 p_1.xPort), (.int .i64 p_1.xProto)])) 0 rfl rfl rfl ty40 rfl ?_
      refine d_oneg (i := 4) rfl rfl rfl (by kernel_rfl) (o_callP (vs := [(.agg #[(.int .i64 p_1.xFrom), (.int .i64 p_1.xTo), (.int .i64 p_1.xPort), (.int .i64 p_1.xProto)])]) Tryd.call23 rfl rfl (by intro w m h; exact (w_spec_PacketValid (F := allB [] w) (p_0 := p_1) allB_ok h).mono (fun _ _ k => ret_free (fun r u => fr_nil) k)) ?_); rintro r6 _
      refine d_and (fun _ m => m) ?_
      refine o_pickT (dt 5 (fun _ m => m)) rfl rfl rfl ?_
      refine o_mv (dt 6 (fun _ m => m)) rfl rfl ?_
      refine st_sp (dj := 11) rfl ?_ ?_
      · refine o_ldc (dtg 7 (fun _ m => m)) (v := (.agg #[(.int .i64 p_1.xFrom), (.int .i64 p_1.xTo), (.int .i64 p_1.xPort), (.int .i64 p_1.xProto)])) 0 rfl rfl rfl ty40 rfl ?_
        refine o_fad (dtg 8 (fun _ m => m)) rfl rfl fld173_0 rfl ?_
        refine o_ldc (dtg 9 (fun _ m => m)) (v := (.int .i64 t_0.xField)) 1 rfl rfl rfl ty3 rfl ?_
        refine o_fad (dtg 11 (fun _ m => m)) rfl rfl fld173_1 rfl ?_
        refine o_ldc (dtg 12 (fun _ m => m)) (v := (.int .i64 t_0.xLo)) 1 rfl rfl rfl ty3 rfl ?_
        refine o_fad (dtg 13 (fun _ m => m)) rfl rfl fld173_2 rfl ?_
        refine o_ldc (dtg 14 (fun _ m => m)) (v := (.int .i64 t_0.xHi)) 1 rfl rfl rfl ty3 rfl ?_
        refine o_fad (dtg 16 (fun _ m => m)) rfl rfl fld173_3 rfl ?_
        refine o_ldc (dtg 17 (fun _ m => m)) (v := (.bool t_0.xNot)) 1 rfl rfl rfl ty4 rfl ?_
        refine d_oneg (i := 10) rfl rfl rfl (by kernel_rfl) (o_callP (vs := [(.agg #[(.int .i64 p_1.xFrom), (.int .i64 p_1.xTo), (.int .i64 p_1.xPort), (.int .i64 p_1.xProto)]), (.int .i64 t_0.xField)]) Tryd.call125 rfl rfl (by intro w m h; exact (w_spec_PacketField (F := allB [] w) (p_0 := p_1) (n_1 := t_0.xField) allB_ok h).mono (fun _ _ k => ret_free (fun r u => fr_nil) k)) ?_); rintro r7 _
        refine d_and (fun _ m => m) ?_
        refine d_oneg (i := 15) rfl rfl rfl (by kernel_rfl) (o_callP (vs := [(.int .i64 r7), (.int .i64 t_0.xLo), (.int .i64 t_0.xHi)]) Tryd.call58 rfl rfl (by intro w m h; exact (w_spec_l1In (F := allB [] w) (n_0 := r7) (lo_1 := t_0.xLo) (hi_2 := t_0.xHi) allB_ok h).mono (fun _ _ k => ret_free (fun r u => fr_nil) k)) ?_); rintro r8 _
        refine d_and (fun _ m => m) ?_
        refine o_neqB (dtg 18 (fun _ m => m)) und4 rfl rfl rfl ?_
        refine o_pickT (dt 19 (fun _ m => m)) rfl rfl rfl ?_
        refine o_as (dt 20 (fun _ m => m)) rfl rfl ?_
        refine d_done (by kernel_rfl) ?_
        exact l_join (!(decide (r8 = t_0.xNot))) (fun a w hE hm => ⟨hE.sub ⟨rfl, trivial⟩, (hm.pick [] rfl)⟩)
      · refine dsk 7 (fun _ m => m) rfl (by kernel_rfl) rfl rfl rfl rfl ?_
        refine dsk 8 (fun _ m => m) rfl (by kernel_rfl) rfl rfl rfl rfl ?_
        refine dsk 9 (fun _ m => m) rfl (by kernel_rfl) rfl rfl rfl rfl ?_
        refine dsk 10 (fun _ m => m) rfl (by kernel_rfl) rfl rfl rfl rfl ?_
        refine dsk 11 (fun _ m => m) rfl (by kernel_rfl) rfl rfl rfl rfl ?_
        refine dsk 12 (fun _ m => m) rfl (by kernel_rfl) rfl rfl rfl rfl ?_
        refine dsk 13 (fun _ m => m) rfl (by kernel_rfl) rfl rfl rfl rfl ?_
        refine dsk 14 (fun _ m => m) rfl (by kernel_rfl) rfl rfl rfl rfl ?_
        refine dsk 15 (fun _ m => m) rfl (by kernel_rfl) rfl rfl rfl rfl ?_
        refine dsk 16 (fun _ m => m) rfl (by kernel_rfl) rfl rfl rfl rfl ?_
        refine dsk 17 (fun _ m => m) rfl (by kernel_rfl) rfl rfl rfl rfl ?_
        refine dsk 18 (fun _ m => m) rfl (by kernel_rfl) rfl rfl rfl rfl ?_
        refine o_pickF (dt 19 (fun _ m => m)) rfl rfl rfl ?_
        refine o_as (dt 20 (fun _ m => m)) rfl rfl ?_
        refine d_done (by kernel_rfl) ?_
        exact l_join false (fun a w hE hm => ⟨hE.sub ⟨rfl, trivial⟩, (hm.pick [] rfl)⟩)
    · refine dsk 3 (fun _ m => m) rfl (by kernel_rfl) rfl rfl rfl rfl ?_
      refine dsk 4 (fun _ m => m) rfl (by kernel_rfl) rfl rfl rfl rfl ?_
      refine o_pickF (dt 5 (fun _ m => m)) rfl rfl rfl ?_
      refine o_mv (dt 6 (fun _ m => m)) rfl rfl ?_
      refine dsk 7 (fun _ m => m) rfl (by kernel_rfl) rfl rfl rfl rfl ?_
      refine dsk 8 (fun _ m => m) rfl (by kernel_rfl) rfl rfl rfl rfl ?_
      refine dsk 9 (fun _ m => m) rfl (by kernel_rfl) rfl rfl rfl rfl ?_
      refine dsk 10 (fun _ m => m) rfl (by kernel_rfl) rfl rfl rfl rfl ?_
      refine dsk 11 (fun _ m => m) rfl (by kernel_rfl) rfl rfl rfl rfl ?_
      refine dsk 12 (fun _ m => m) rfl (by kernel_rfl) rfl rfl rfl rfl ?_
      refine dsk 13 (fun _ m => m) rfl (by kernel_rfl) rfl rfl rfl rfl ?_
      refine dsk 14 (fun _ m => m) rfl (by kernel_rfl) rfl rfl rfl rfl ?_
      refine dsk 15 (fun _ m => m) rfl (by kernel_rfl) rfl rfl rfl rfl ?_
      refine dsk 16 (fun _ m => m) rfl (by kernel_rfl) rfl rfl rfl rfl ?_
      refine dsk 17 (fun _ m => m) rfl (by kernel_rfl) rfl rfl rfl rfl ?_
      refine dsk 18 (fun _ m => m) rfl (by kernel_rfl) rfl rfl rfl rfl ?_
      refine o_pickF (dt 19 (fun _ m => m)) rfl rfl rfl ?_
      refine o_as (dt 20 (fun _ m => m)) rfl rfl ?_
      refine d_done (by kernel_rfl) ?_
      exact l_join false (fun a w hE hm => ⟨hE.sub ⟨rfl, trivial⟩, (hm.pick [] rfl)⟩)
  · rintro t69 a w ⟨hE, hm⟩ h
    refine nx_of hE hm h ?_
    clear hE hm h
    refine c_ret ?_
    exact l_end1 Tryd.results119 t69 () (rv_t rfl) (fun _ _ => NewCh.nil _ _ _ _)



end
section
open Go.RowKit
set_option maxRecDepth 100000 in
set_option maxHeartbeats 8000000 in
theorem w_spec_TestsHold {w0 : World} {F : Nat → Prop} {v1 : Value} {list_0 : (List GTest)} {p_1 : GPacket} {κ : Bool → Prop} (hF : ∀ b, F b → b < w0.heap.size ∧ ¬ feet [] b) (hv1 : Sl elGTest F w0 v1 list_0) (h : L_spec_TestsHold list_0 p_1 κ) :
    Calls Tryd.prog 108 #[v1, (.agg #[(.int .i64 p_1.xFrom), (.int .i64 p_1.xTo), (.int .i64 p_1.xPort), (.int .i64 p_1.xProto)])] w0 (Ret [] F w0 κ (fun (r : Bool) (u : Unit) => (.bool r)) (fun (r : Bool) (u : Unit) => [])) := by
  refine enterS (args := [v1, (.agg #[(.int .i64 p_1.xFrom), (.int .i64 p_1.xTo), (.int .i64 p_1.xPort), (.int .i64 p_1.xProto)])]) [] hF (Given.nil _ _) Tryd.func108 rfl Tryd.ntmps108 rfl h ?_
  clear h hF
  refine c_seq ?_
  refine c_region ?_
  refine stw (o_box rfl rfl [(.int .i64 p_1.xFrom), (.int .i64 p_1.xTo), (.int .i64 p_1.xPort), (.int .i64 p_1.xProto)] rfl ?_); intro b3
  refine o_as st rfl rfl ?_
  refine c_nil ?_
  refine l_then ?_
  refine c_seq ?_
  refine c_seq ?_
  refine c_region ?_
  refine o_as st rfl rfl ?_
  refine c_nil ?_
  refine l_then ?_
  refine c_block ?_
  refine c_loop (σ := Int) (fun (t5 : Int) (a : Act) (w : World) => Has 25 [(0, v1), (3, (.pointer (some ⟨b3, 0, none⟩))), (5, (.int .i64 t5))] a ∧ Mem (gB F [] w0) (feet []) w0 [cellCh b3 [(.int .i64 p_1.xFrom), (.int .i64 p_1.xTo), (.int .i64 p_1.xPort), (.int .i64 p_1.xProto)] 40, snapCh w0 F] w) (fun a w hE hm => ⟨hE.sub ⟨rfl, rfl, rfl, trivial⟩, (hm.pick [0, 1] rfl)⟩) ?_
  rintro nx6 t5 a w ⟨hE, hm⟩ h
  refine nx_of hE hm h ?_
  clear hE hm h
  refine c_seq ?_
  refine c_seq ?_
  refine c_region ?_
  refine o_mv st rfl rfl ?_
  refine o_mv st rfl rfl ?_
  refine o_len st el102 1 rfl (reads_snap hv1) rfl rfl ?_
  refine o_lss st rfl rfl rfl ?_
  refine c_nil ?_
  refine l_then ?_
  refine c_cond rfl ?_ ?_
  · refine c_skip ?_
    refine l_then ?_
    refine c_seq ?_
    refine c_block ?_
    refine c_seq ?_
    refine c_draw mixed 7 rfl [cellCh b3 [(.int .i64 p_1.xFrom), (.int .i64 p_1.xTo), (.int .i64 p_1.xPort), (.int .i64 p_1.xProto)] 40, snapCh w0 F] ?_
    refine o_mv (dt 0 (fun _ m => m)) rfl rfl ?_
    refine o_mv (dt 1 (fun _ m => m)) rfl rfl ?_
    refine o_idx (dt 2 (fun _ m => m)) 1 rfl (reads_snap hv1) rfl rfl rfl el102 ?_; intro e7 h8
    refine o_lds (dt 3 (fun _ m => m)) (enc := encGTest) (u := (.agg #[(.int .i64 e7.xField), (.int .i64 e7.xLo), (.int .i64 e7.xHi), (.bool e7.xNot)])) 1 rfl (reads_snap hv1) flelGTest rfl h8 rfl rfl ty173 rfl ?_
    refine o_ldc (dt 4 (fun _ m => m)) (v := (.agg #[(.int .i64 p_1.xFrom), (.int .i64 p_1.xTo), (.int .i64 p_1.xPort), (.int .i64 p_1.xProto)])) 0 rfl rfl rfl ty40 rfl ?_
    refine d_one (i := 5) rfl (by kernel_rfl) (o_callP (vs := [(.agg #[(.int .i64 e7.xField), (.int .i64 e7.xLo), (.int .i64 e7.xHi), (.bool e7.xNot)]), (.agg #[(.int .i64 p_1.xFrom), (.int .i64 p_1.xTo), (.int .i64 p_1.xPort), (.int .i64 p_1.xProto)])]) Tryd.call119 rfl rfl (by intro w m h; exact (w_spec_TestHolds (F := allB [] w) (t_0 := e7) (p_1 := p_1) allB_ok h).mono (fun _ _ k => ret_free (fun r u => fr_nil) k)) ?_); rintro r9 _
    refine d_and (fun _ m => m) ?_
    refine o_not (dt 6 (fun _ m => m)) rfl rfl ?_
    refine d_done (by kernel_rfl) ?_
    refine l_then ?_
    refine c_cond rfl ?_ ?_
    · refine c_seq ?_
      refine c_region ?_
      refine o_as st rfl rfl ?_
      refine c_nil ?_
      refine l_then ?_
      refine c_ret ?_
      refine b_ret ?_
      refine l_ret ?_
      refine l_ret ?_
      refine b_ret ?_
      refine l_ret ?_
      exact l_end1 Tryd.results108 false () (rv_t rfl) (fun _ _ => NewCh.nil _ _ _ _)
    · refine c_skip ?_
      refine b_norm ?_
      refine l_then ?_
      refine c_region ?_
      refine o_mv st rfl rfl ?_
      refine o_add st rfl rfl rfl ?_; intro t10
      refine o_as st rfl rfl ?_
      refine c_nil ?_
      exact l_join t10 (fun a w hE hm => ⟨hE.sub ⟨rfl, rfl, rfl, trivial⟩, (hm.pick [0, 1] rfl)⟩)
  · refine c_exit ?_
    refine l_exit ?_
    refine l_exit ?_
    refine b_exit ?_
    refine l_then ?_
    refine c_join (σ := Bool) (fun (t73 : Bool) (a : Act) (w : World) => Has 25 [(4, (.bool t73))] a ∧ Mem (gB F [] w0) (feet []) w0 [] w) ?_ ?_
    · intro k74
      refine c_region ?_
      refine o_mv st rfl rfl ?_
      refine stw (o_callP (vs := [v1]) Tryd.call114 rfl rfl (by intro w m h; exact (w_spec_TestsValid (F := allB [] w) (list_0 := list_0) allB_ok (m.rd0 1 rfl (reads_snap hv1)) h).mono (fun _ _ k => ret_free (fun r u => fr_nil) k)) ?_); rintro r11 _
      refine o_mv st rfl rfl ?_
      refine st_sp (dj := 21) rfl ?_ ?_
      · refine o_ldc (st_g rfl rfl) (v := (.agg #[(.int .i64 p_1.xFrom), (.int .i64 p_1.xTo), (.int .i64 p_1.xPort), (.int .i64 p_1.xProto)])) 0 rfl rfl rfl ty40 rfl ?_
        refine st_gw rfl rfl (o_callP (vs := [(.agg #[(.int .i64 p_1.xFrom), (.int .i64 p_1.xTo), (.int .i64 p_1.xPort), (.int .i64 p_1.xProto)])]) Tryd.call23 rfl rfl (by intro w m h; exact (w_spec_PacketValid (F := allB [] w) (p_0 := p_1) allB_ok h).mono (fun _ _ k => ret_free (fun r u => fr_nil) k)) ?_); rintro r12 _
        refine o_pickT st rfl rfl rfl ?_
        refine o_as st rfl rfl ?_
        refine c_nil ?_
        exact l_join r12 (fun a w hE hm => ⟨hE.sub ⟨rfl, trivial⟩, (hm.pick [] rfl)⟩)
      · refine st_s rfl rfl rfl rfl ?_
        refine st_s rfl rfl rfl rfl ?_
        refine o_pickF st rfl rfl rfl ?_
        refine o_as st rfl rfl ?_
        refine c_nil ?_
        exact l_join false (fun a w hE hm => ⟨hE.sub ⟨rfl, trivial⟩, (hm.pick [] rfl)⟩)
    · rintro t73 a w ⟨hE, hm⟩ h
      refine nx_of hE hm h ?_
      clear hE hm h
      refine c_ret ?_
      exact l_end1 Tryd.results108 t73 () (rv_t rfl) (fun _ _ => NewCh.nil _ _ _ _)

set_option maxRecDepth 100000 in
set_option maxHeartbeats 8000000 in
theorem wr_spec_l9Walk : ∀ (n : Nat) {w0 : World} {F : Nat → Prop} {b3 : Nat} {v1 : Value} {v4 : Value} {s_0 : GRuleset} {chain_1 : Int} {p_2 : GPacket} {out_3 : (List GVisit)} {κ : (Int × (List GVisit)) → Prop} (hF : ∀ b, F b → b < w0.heap.size ∧ ¬ feet [cellCh b3 [v4] 128, ownCh elGVisit 157 v4 out_3] b) (hg : Given [cellCh b3 [v4] 128, ownCh elGVisit 157 v4 out_3] F w0) (hv1 : Sl (elSl elGRule) F w0 v1 s_0.xChains) (h : R_spec_l9Walk n s_0 chain_1 p_2 out_3 κ),
    Calls Tryd.prog 91 #[(.agg #[v1, (.bool s_0.xAccept)]), (.int .i64 chain_1), (.agg #[(.int .i64 p_2.xFrom), (.int .i64 p_2.xTo), (.int .i64 p_2.xPort), (.int .i64 p_2.xProto)]), (.pointer (some ⟨b3, 0, none⟩))] w0 (Ret [cellCh b3 [v4] 128, ownCh elGVisit 157 v4 out_3] F w0 κ (fun (r : (Int × (List GVisit))) (u : Value) => (.int .i64 r.1)) (fun (r : (Int × (List GVisit))) (u : Value) => [cellCh b3 [u] 128, ownCh elGVisit 157 u r.2])) := by
  intro n
  induction n with
  | zero =>
    intro w0 F b3 v1 v4 s_0 chain_1 p_2 out_3 κ hF hg hv1 h
    exact (h : False).elim
  | succ n ih =>
    intro w0 F b3 v1 v4 s_0 chain_1 p_2 out_3 κ hF hg hv1 h
    replace h : B_spec_l9Walk (R_spec_l9Walk n) s_0 chain_1 p_2 out_3 κ := h
    revert h ih
    generalize R_spec_l9Walk n = rec
    intro ih h
    refine enterS (args := [(.agg #[v1, (.bool s_0.xAccept)]), (.int .i64 chain_1), (.agg #[(.int .i64 p_2.xFrom), (.int .i64 p_2.xTo), (.int .i64 p_2.xPort), (.int .i64 p_2.xProto)]), (.pointer (some ⟨b3, 0, none⟩))]) [cellCh b3 [v4] 128, ownCh elGVisit 157 v4 out_3] hF hg Tryd.func91 rfl Tryd.ntmps91 rfl h ?_
    clear h hF hg
    refine c_seq ?_
    refine c_region ?_
    obtain ⟨a7, l8, q9, hs_⟩ := sl_val hv1; subst hs_
    refine stw (o_box rfl rfl [(.slice a7 l8 q9), (.bool s_0.xAccept)] rfl ?_); intro b10
    refine stw (o_box rfl rfl [(.int .i64 p_2.xFrom), (.int .i64 p_2.xTo), (.int .i64 p_2.xPort), (.int .i64 p_2.xProto)] rfl ?_); intro b12
    refine o_as st rfl rfl ?_
    refine c_nil ?_
    refine l_then ?_
    refine c_seq ?_
    refine c_seq ?_
    refine c_region ?_
    refine o_as st rfl rfl ?_
    refine c_nil ?_
    refine l_then ?_
    refine c_block ?_
    refine c_loop (σ := ((List GVisit) × Int)) (fun ((xs15, t18) : ((List GVisit) × Int)) (a : Act) (w : World) => ∃ (v14 : Value), Has 70 [(1, (.int .i64 chain_1)), (3, (.pointer (some ⟨b3, 0, none⟩))), (4, (.pointer (some ⟨b10, 0, none⟩))), (6, (.pointer (some ⟨b12, 0, none⟩))), (9, (.int .i64 t18))] a ∧ Mem (gB F [cellCh b3 [v4] 128, ownCh elGVisit 157 v4 out_3] w0) (feet [cellCh b3 [v4] 128, ownCh elGVisit 157 v4 out_3]) w0 [cellCh b12 [(.int .i64 p_2.xFrom), (.int .i64 p_2.xTo), (.int .i64 p_2.xPort), (.int .i64 p_2.xProto)] 40, cellCh b10 [(.slice a7 l8 q9), (.bool s_0.xAccept)] 25, cellCh b3 [v14] 128, snapCh w0 F, ownCh elGVisit 157 v14 xs15] w) (fun a w hE hm => ⟨v4, hE.sub ⟨rfl, rfl, rfl, rfl, rfl, trivial⟩, (hm.pick [0, 1, 2, 4, 3] rfl)⟩) ?_
    rintro nx19 ⟨xs15, t18⟩ a w ⟨v14, hE, hm⟩ h
    refine nx_of hE hm h ?_
    clear hE hm h
    refine c_seq ?_
    refine c_seq ?_
    refine c_region ?_
    refine o_mv st rfl rfl ?_
    refine o_fad st rfl rfl fld25_0 rfl ?_
    refine o_ldc st (v := (.slice a7 l8 q9)) 1 rfl rfl rfl ty23 rfl ?_
    refine o_mv st rfl rfl ?_
    refine o_idx st 3 rfl (reads_snap hv1) rfl rfl rfl el23 ?_; intro e20 h21
    obtain ⟨_, ⟨v23, rfl, sl24⟩, rw22⟩ := sl_open hv1 h21
    refine o_ldR st (u := v23) 3 rfl rw22 rfl rfl ty101 rfl ?_
    refine o_len st el101 3 rfl (reads_snap sl24) rfl rfl ?_
    refine o_lss st rfl rfl rfl ?_
    refine c_nil ?_
    refine l_then ?_
    refine c_cond rfl ?_ ?_
    · refine c_skip ?_
      refine l_then ?_
      refine c_join (σ := (List GVisit)) (fun (xs241 : (List GVisit)) (a : Act) (w : World) => ∃ (v242 : Value), Has 70 [(1, (.int .i64 chain_1)), (3, (.pointer (some ⟨b3, 0, none⟩))), (4, (.pointer (some ⟨b10, 0, none⟩))), (6, (.pointer (some ⟨b12, 0, none⟩))), (9, (.int .i64 t18))] a ∧ Mem (gB F [cellCh b3 [v4] 128, ownCh elGVisit 157 v4 out_3] w0) (feet [cellCh b3 [v4] 128, ownCh elGVisit 157 v4 out_3]) w0 [cellCh b12 [(.int .i64 p_2.xFrom), (.int .i64 p_2.xTo), (.int .i64 p_2.xPort), (.int .i64 p_2.xProto)] 40, cellCh b10 [(.slice a7 l8 q9), (.bool s_0.xAccept)] 25, cellCh b3 [v242] 128, ownCh elGVisit 157 v242 xs241, snapCh w0 F] w) ?_ ?_
      · intro k244
        refine c_block ?_
        refine c_seq ?_
        refine c_region ?_
        refine o_fad st rfl rfl fld25_0 rfl ?_
        refine o_ldc st (v := (.slice a7 l8 q9)) 1 rfl rfl rfl ty23 rfl ?_
        refine o_mv st rfl rfl ?_
        refine o_idx st 3 rfl (reads_snap hv1) rfl rfl rfl el23 ?_; intro e26 h27
        obtain ⟨_, ⟨v29, rfl, sl30⟩, rw28⟩ := sl_open hv1 h27
        refine o_ldR st (u := v29) 3 rfl rw28 rfl rfl ty101 rfl ?_
        refine o_mv st rfl rfl ?_
        refine o_idx st 3 rfl (reads_snap sl30) rfl rfl rfl el101 ?_; intro e32 h33
        obtain ⟨_, ⟨v35, rfl, sl36⟩, rw34⟩ := sl_open sl30 h33
        refine o_ldR st (u := (.agg #[v35, (.int .i64 e32.xAction), (.int .i64 e32.xChain)])) 3 rfl rw34 rfl rfl ty104 rfl ?_
        refine stw (o_alloc rfl [(.slice none 0 0), (.int .i64 0), (.int .i64 0)] zero104 ?_); intro b38
        obtain ⟨a40, l41, q42, hs_⟩ := sl_val sl36; subst hs_
        refine stw (o_stc (cs' := [(.slice a40 l41 q42), (.int .i64 e32.xAction), (.int .i64 e32.xChain)]) 0 rfl rfl rfl ty104 rfl rfl rfl rfl ?_)
        refine c_nil ?_
        refine l_then ?_
        refine c_seq ?_
        refine c_seq ?_
        refine c_region ?_
        refine o_fad st rfl rfl fld104_0 rfl ?_
        refine o_ldc st (v := (.slice a40 l41 q42)) 0 rfl rfl rfl ty102 rfl ?_
        refine o_ldc st (v := (.agg #[(.int .i64 p_2.xFrom), (.int .i64 p_2.xTo), (.int .i64 p_2.xPort), (.int .i64 p_2.xProto)])) 1 rfl rfl rfl ty40 rfl ?_
        refine stw (o_callP (vs := [(.slice a40 l41 q42), (.agg #[(.int .i64 p_2.xFrom), (.int .i64 p_2.xTo), (.int .i64 p_2.xPort), (.int .i64 p_2.xProto)])]) Tryd.call108 rfl rfl (by intro w m h; exact (w_spec_TestsHold (F := allB [] w) (list_0 := e32.xTests) (p_1 := p_2) allB_ok (m.rd0 4 rfl (reads_snap sl36)) h).mono (fun _ _ k => ret_free (fun r u => fr_nil) k)) ?_); rintro r43 _
        refine o_not st rfl rfl ?_
        refine c_nil ?_
        refine l_then ?_
        refine c_cond rfl ?_ ?_
        · refine c_exit ?_
          refine l_exit ?_
          refine b_exit ?_
          exact l_join xs15 (fun a w hE hm => ⟨v14, hE.sub ⟨rfl, rfl, rfl, rfl, rfl, trivial⟩, (hm.pick [1, 2, 3, 5, 4] rfl)⟩)
        · refine c_skip ?_
          refine l_then ?_
          refine c_join (σ := (List GVisit)) (fun (xs111 : (List GVisit)) (a : Act) (w : World) => ∃ (v112 : Value), Has 70 [(1, (.int .i64 chain_1)), (3, (.pointer (some ⟨b3, 0, none⟩))), (4, (.pointer (some ⟨b10, 0, none⟩))), (6, (.pointer (some ⟨b12, 0, none⟩))), (9, (.int .i64 t18)), (10, (.pointer (some ⟨b38, 0, none⟩)))] a ∧ Mem (gB F [cellCh b3 [v4] 128, ownCh elGVisit 157 v4 out_3] w0) (feet [cellCh b3 [v4] 128, ownCh elGVisit 157 v4 out_3]) w0 [cellCh b38 [(.slice a40 l41 q42), (.int .i64 e32.xAction), (.int .i64 e32.xChain)] 104, cellCh b12 [(.int .i64 p_2.xFrom), (.int .i64 p_2.xTo), (.int .i64 p_2.xPort), (.int .i64 p_2.xProto)] 40, cellCh b10 [(.slice a7 l8 q9), (.bool s_0.xAccept)] 25, cellCh b3 [v112] 128, ownCh elGVisit 157 v112 xs111, snapCh w0 F] w) ?_ ?_
          · intro k114
            refine c_seq ?_
            refine c_region ?_
            refine o_mv st rfl rfl ?_
            refine o_nilc st rfl rfl ?_
            refine o_ldc st (v := v14) 3 rfl rfl rfl ty128 rfl ?_
            refine o_len st el128 5 rfl reads_own rfl rfl ?_
            refine o_lss st rfl rfl rfl ?_
            refine c_nil ?_
            refine l_then ?_
            refine c_cond rfl ?_ ?_
            · refine c_region ?_
              refine o_mv st rfl rfl ?_
              refine o_mv st rfl rfl ?_
              refine o_nilc st rfl rfl ?_
              refine o_ldc st (v := v14) 3 rfl rfl rfl ty128 rfl ?_
              refine o_mv st rfl rfl ?_
              refine o_mv st rfl rfl ?_
              refine o_bld st (qs := [(0, (.int .i64 chain_1)), (1, (.int .i64 t18))]) (cells := [(.int .i64 chain_1), (.int .i64 t18)]) (by intro ρ h; simp only [List.map_toArray, List.map_cons, List.map_nil, h (.tmp 44) _ rfl, h (.tmp 45) _ rfl]) rfl bld157 rfl ?_
              refine stw (o_bsl (enc := encGVisit) (qs := [(0, (.agg #[(.int .i64 chain_1), (.int .i64 t18)]))]) (cells := [(.int .i64 chain_1), (.int .i64 t18)]) ([(GVisit.mk chain_1 t18)]) flelGVisit (by intro ρ h; simp only [List.map_toArray, List.map_cons, List.map_nil, h (.tmp 46) _ rfl]) rfl el128 zero157 rfl rfl rfl rfl rfl rfl ?_); intro v44
              refine stw (o_app 6 0 rfl rfl (src_flat flelGVisit reads_own) rfl rfl rfl el128 rfl zero157 rfl rfl ?_); intro v46
              refine o_nilc st rfl rfl ?_
              refine nx_own 6 rfl ?_; rintro a48 l49 q50 rfl
              refine stw (o_stc (cs' := [(.slice a48 l49 q50)]) 4 rfl rfl rfl ty128 rfl rfl rfl rfl ?_)
              refine c_nil ?_
              exact l_join (xs15 ++ ([(GVisit.mk chain_1 t18)])) (fun a w hE hm => ⟨(.slice a48 l49 q50), hE.sub ⟨rfl, rfl, rfl, rfl, rfl, rfl, trivial⟩, (hm.pick [1, 2, 3, 4, 6, 5] rfl)⟩)
            · refine c_skip ?_
              exact l_join xs15 (fun a w hE hm => ⟨v14, hE.sub ⟨rfl, rfl, rfl, rfl, rfl, rfl, trivial⟩, (hm.pick [0, 1, 2, 3, 5, 4] rfl)⟩)
          · rintro xs111 a w ⟨v112, hE, hm⟩ h
            refine nx_of hE hm h ?_
            clear hE hm h
            refine c_seq ?_
            refine c_region ?_
            refine o_fad st rfl rfl fld104_1 rfl ?_
            refine o_ldc st (v := (.int .i64 e32.xAction)) 0 rfl rfl rfl ty3 rfl ?_
            refine c_nil ?_
            refine l_then ?_
            refine c_block ?_
            refine c_join (σ := Bool) (fun (t175 : Bool) (a : Act) (w : World) => Has 70 [(1, (.int .i64 chain_1)), (3, (.pointer (some ⟨b3, 0, none⟩))), (4, (.pointer (some ⟨b10, 0, none⟩))), (6, (.pointer (some ⟨b12, 0, none⟩))), (9, (.int .i64 t18)), (10, (.pointer (some ⟨b38, 0, none⟩))), (51, (.int .i64 e32.xAction)), (52, (.bool t175))] a ∧ Mem (gB F [cellCh b3 [v4] 128, ownCh elGVisit 157 v4 out_3] w0) (feet [cellCh b3 [v4] 128, ownCh elGVisit 157 v4 out_3]) w0 [cellCh b38 [(.slice a40 l41 q42), (.int .i64 e32.xAction), (.int .i64 e32.xChain)] 104, cellCh b12 [(.int .i64 p_2.xFrom), (.int .i64 p_2.xTo), (.int .i64 p_2.xPort), (.int .i64 p_2.xProto)] 40, cellCh b10 [(.slice a7 l8 q9), (.bool s_0.xAccept)] 25, cellCh b3 [v112] 128, ownCh elGVisit 157 v112 xs111, snapCh w0 F] w) ?_ ?_
            · intro k176
              refine c_seq ?_
              refine c_region ?_
              refine o_eql st und3 rfl rfl rfl ?_
              refine o_as st rfl rfl ?_
              refine c_nil ?_
              refine l_then ?_
              refine c_cond rfl ?_ ?_
              · refine c_skip ?_
                exact l_join (decide (e32.xAction = 1)) (fun a w hE hm => ⟨hE.sub ⟨rfl, rfl, rfl, rfl, rfl, rfl, rfl, rfl, trivial⟩, (hm.pick [0, 1, 2, 3, 4, 5] rfl)⟩)
              · refine c_region ?_
                refine o_eql st und3 rfl rfl rfl ?_
                refine o_as st rfl rfl ?_
                refine c_nil ?_
                exact l_join (decide (e32.xAction = 2)) (fun a w hE hm => ⟨hE.sub ⟨rfl, rfl, rfl, rfl, rfl, rfl, rfl, rfl, trivial⟩, (hm.pick [0, 1, 2, 3, 4, 5] rfl)⟩)
            · rintro t175 a w ⟨hE, hm⟩ h
              refine nx_of hE hm h ?_
              clear hE hm h
              refine c_cond rfl ?_ ?_
              · refine c_seq ?_
                refine c_region ?_
                refine o_fad st rfl rfl fld104_1 rfl ?_
                refine o_ldc st (v := (.int .i64 e32.xAction)) 0 rfl rfl rfl ty3 rfl ?_
                refine o_as st rfl rfl ?_
                refine c_nil ?_
                refine l_then ?_
                refine c_ret ?_
                refine b_ret ?_
                refine b_ret ?_
                refine l_ret ?_
                refine l_ret ?_
                refine b_ret ?_
                refine l_ret ?_
                exact l_end1 Tryd.results91 (e32.xAction, xs111) v112 (rv_t rfl) (fun w m => NewCh.ofB m [3, 4] rfl)
              · refine c_seq ?_
                refine c_region ?_
                refine o_eql st und3 rfl rfl rfl ?_
                refine o_as st rfl rfl ?_
                refine c_nil ?_
                refine l_then ?_
                refine c_cond rfl ?_ ?_
                · refine c_seq ?_
                  refine c_region ?_
                  refine o_as st rfl rfl ?_
                  refine c_nil ?_
                  refine l_then ?_
                  refine c_ret ?_
                  refine b_ret ?_
                  refine b_ret ?_
                  refine l_ret ?_
                  refine l_ret ?_
                  refine b_ret ?_
                  refine l_ret ?_
                  exact l_end1 Tryd.results91 (5, xs111) v112 (rv_t rfl) (fun w m => NewCh.ofB m [3, 4] rfl)
                · refine c_seq ?_
                  refine c_region ?_
                  refine o_eql st und3 rfl rfl rfl ?_
                  refine o_as st rfl rfl ?_
                  refine c_nil ?_
                  refine l_then ?_
                  refine c_cond rfl ?_ ?_
                  · refine c_seq ?_
                    refine c_region ?_
                    refine o_ldc st (v := (.agg #[(.slice a7 l8 q9), (.bool s_0.xAccept)])) 2 rfl rfl rfl ty25 rfl ?_
                    refine o_fad st rfl rfl fld104_2 rfl ?_
                    refine o_ldc st (v := (.int .i64 e32.xChain)) 0 rfl rfl rfl ty3 rfl ?_
                    refine o_ldc st (v := (.agg #[(.int .i64 p_2.xFrom), (.int .i64 p_2.xTo), (.int .i64 p_2.xPort), (.int .i64 p_2.xProto)])) 1 rfl rfl rfl ty40 rfl ?_
                    refine o_mv st rfl rfl ?_
                    refine pk [3, 4, 0, 1, 2, 5] rfl ?_
                    refine stw (o_call (vs := [(.agg #[(.slice a7 l8 q9), (.bool s_0.xAccept)]), (.int .i64 e32.xChain), (.agg #[(.int .i64 p_2.xFrom), (.int .i64 p_2.xTo), (.int .i64 p_2.xPort), (.int .i64 p_2.xProto)]), (.pointer (some ⟨b3, 0, none⟩))]) (M0 := [cellCh b3 [v112] 128, ownCh elGVisit 157 v112 xs111]) Tryd.call91 rfl rfl (by intro w m h; exact (ih (F := allB [cellCh b3 [v112] 128, ownCh elGVisit 157 v112 xs111] w) (s_0 := s_0) (chain_1 := e32.xChain) (p_2 := p_2) (out_3 := xs111) allB_ok m.given (m.rdM 3 rfl (reads_snap hv1)) h).mono (fun _ _ k => ret_free (fun r u => (fr_cons free_cell (fr_cons (free_own flelGVisit) fr_nil))) k)) ?_); rintro ⟨r177, r178⟩ v179
                    refine o_as st rfl rfl ?_
                    refine c_nil ?_
                    refine l_then ?_
                    refine c_seq ?_
                    refine c_region ?_
                    refine o_mv st rfl rfl ?_
                    refine o_neq st und3 rfl rfl rfl ?_
                    refine c_nil ?_
                    refine l_then ?_
                    refine c_cond rfl ?_ ?_
                    · refine c_seq ?_
                      refine c_region ?_
                      refine o_mv st rfl rfl ?_
                      refine o_as st rfl rfl ?_
                      refine c_nil ?_
                      refine l_then ?_
                      refine c_ret ?_
                      refine b_ret ?_
                      refine b_ret ?_
                      refine l_ret ?_
                      refine l_ret ?_
                      refine b_ret ?_
                      refine l_ret ?_
                      exact l_end1 Tryd.results91 (r177, r178) v179 (rv_t rfl) (fun w m => NewCh.ofB m [0, 1] rfl)
                    · refine c_skip ?_
                      refine b_norm ?_
                      refine b_norm ?_
                      exact l_join r178 (fun a w hE hm => ⟨v179, hE.sub ⟨rfl, rfl, rfl, rfl, rfl, trivial⟩, (hm.pick [3, 4, 0, 1, 5] rfl)⟩)
                  · refine c_skip ?_
                    refine b_norm ?_
                    refine b_norm ?_
                    exact l_join xs111 (fun a w hE hm => ⟨v112, hE.sub ⟨rfl, rfl, rfl, rfl, rfl, trivial⟩, (hm.pick [1, 2, 3, 4, 5] rfl)⟩)
      · rintro xs241 a w ⟨v242, hE, hm⟩ h
        refine nx_of hE hm h ?_
        clear hE hm h
        refine c_region ?_
        refine o_mv st rfl rfl ?_
        refine o_add st rfl rfl rfl ?_; intro t245
        refine o_as st rfl rfl ?_
        refine c_nil ?_
        exact l_join (xs241, t245) (fun a w hE hm => ⟨v242, hE.sub ⟨rfl, rfl, rfl, rfl, rfl, trivial⟩, (hm.pick [0, 1, 2, 4, 3] rfl)⟩)
    · refine c_exit ?_
      refine l_exit ?_
      refine l_exit ?_
      refine b_exit ?_
      refine l_then ?_
      refine c_seq ?_
      refine c_region ?_
      refine o_as st rfl rfl ?_
      refine c_nil ?_
      refine l_then ?_
      refine c_ret ?_
      exact l_end1 Tryd.results91 (5, xs15) v14 (rv_t rfl) (fun w m => NewCh.ofB m [2, 4] rfl)
theorem w_spec_l9Walk {w0 : World} {F : Nat → Prop} {b3 : Nat} {v1 : Value} {v4 : Value} {s_0 : GRuleset} {chain_1 : Int} {p_2 : GPacket} {out_3 : (List GVisit)} {κ : (Int × (List GVisit)) → Prop} (hF : ∀ b, F b → b < w0.heap.size ∧ ¬ feet [cellCh b3 [v4] 128, ownCh elGVisit 157 v4 out_3] b) (hg : Given [cellCh b3 [v4] 128, ownCh elGVisit 157 v4 out_3] F w0) (hv1 : Sl (elSl elGRule) F w0 v1 s_0.xChains) (h : L_spec_l9Walk s_0 chain_1 p_2 out_3 κ) :
    Calls Tryd.prog 91 #[(.agg #[v1, (.bool s_0.xAccept)]), (.int .i64 chain_1), (.agg #[(.int .i64 p_2.xFrom), (.int .i64 p_2.xTo), (.int .i64 p_2.xPort), (.int .i64 p_2.xProto)]), (.pointer (some ⟨b3, 0, none⟩))] w0 (Ret [cellCh b3 [v4] 128, ownCh elGVisit 157 v4 out_3] F w0 κ (fun (r : (Int × (List GVisit))) (u : Value) => (.int .i64 r.1)) (fun (r : (Int × (List GVisit))) (u : Value) => [cellCh b3 [u] 128, ownCh elGVisit 157 u r.2])) := by
  obtain ⟨n, h⟩ := h
  exact wr_spec_l9Walk n hF hg hv1 h

set_option maxRecDepth 100000 in
set_option maxHeartbeats 8000000 in
theorem w_spec_Judge {w0 : World} {F : Nat → Prop} {v1 : Value} {s_0 : GRuleset} {p_1 : GPacket} {κ : Bool → Prop} (hF : ∀ b, F b → b < w0.heap.size ∧ ¬ feet [] b) (hv1 : Sl (elSl elGRule) F w0 v1 s_0.xChains) (h : L_spec_Judge s_0 p_1 κ) :
    Calls Tryd.prog 55 #[(.agg #[v1, (.bool s_0.xAccept)]), (.agg #[(.int .i64 p_1.xFrom), (.int .i64 p_1.xTo), (.int .i64 p_1.xPort), (.int .i64 p_1.xProto)])] w0 (Ret [] F w0 κ (fun (r : Bool) (u : Unit) => (.bool r)) (fun (r : Bool) (u : Unit) => [])) := by
  refine enterS (args := [(.agg #[v1, (.bool s_0.xAccept)]), (.agg #[(.int .i64 p_1.xFrom), (.int .i64 p_1.xTo), (.int .i64 p_1.xPort), (.int .i64 p_1.xProto)])]) [] hF (Given.nil _ _) Tryd.func55 rfl Tryd.ntmps55 rfl h ?_
  clear h hF
  refine c_seq ?_
  refine c_region ?_
  obtain ⟨a3, l4, q5, hs_⟩ := sl_val hv1; subst hs_
  refine stw (o_box rfl rfl [(.slice a3 l4 q5), (.bool s_0.xAccept)] rfl ?_); intro b6
  refine stw (o_box rfl rfl [(.int .i64 p_1.xFrom), (.int .i64 p_1.xTo), (.int .i64 p_1.xPort), (.int .i64 p_1.xProto)] rfl ?_); intro b8
  refine o_as st rfl rfl ?_
  refine c_nil ?_
  refine l_then ?_
  refine c_seq ?_
  refine c_join (σ := Bool) (fun (t72 : Bool) (a : Act) (w : World) => Has 29 [(2, (.pointer (some ⟨b6, 0, none⟩))), (3, (.pointer (some ⟨b8, 0, none⟩))), (14, (.bool t72))] a ∧ Mem (gB F [] w0) (feet []) w0 [cellCh b8 [(.int .i64 p_1.xFrom), (.int .i64 p_1.xTo), (.int .i64 p_1.xPort), (.int .i64 p_1.xProto)] 40, cellCh b6 [(.slice a3 l4 q5), (.bool s_0.xAccept)] 25, snapCh w0 F] w) ?_ ?_
  · intro k73
    refine c_region ?_
    refine o_ldc st (v := (.agg #[(.slice a3 l4 q5), (.bool s_0.xAccept)])) 1 rfl rfl rfl ty25 rfl ?_
    refine stw (o_callP (vs := [(.agg #[(.slice a3 l4 q5), (.bool s_0.xAccept)])]) Tryd.call22 rfl rfl (by intro w m h; exact (w_spec_RulesetValid (F := allB [] w) (s_0 := s_0) allB_ok (m.rd0 2 rfl (reads_snap hv1)) h).mono (fun _ _ k => ret_free (fun r u => fr_nil) k)) ?_); rintro r10 _
    refine o_not st rfl rfl ?_
    refine o_mv st rfl rfl ?_
    refine st_sp (dj := 10) rfl ?_ ?_
    · refine st_s rfl rfl rfl rfl ?_
      refine st_s rfl rfl rfl rfl ?_
      refine st_s rfl rfl rfl rfl ?_
      refine o_pickT st rfl rfl rfl ?_
      refine c_nil ?_
      exact l_join true (fun a w hE hm => ⟨hE.sub ⟨rfl, rfl, rfl, trivial⟩, (hm.pick [0, 1, 2] rfl)⟩)
    · refine o_ldc (st_g rfl rfl) (v := (.agg #[(.int .i64 p_1.xFrom), (.int .i64 p_1.xTo), (.int .i64 p_1.xPort), (.int .i64 p_1.xProto)])) 0 rfl rfl rfl ty40 rfl ?_
      refine st_gw rfl rfl (o_callP (vs := [(.agg #[(.int .i64 p_1.xFrom), (.int .i64 p_1.xTo), (.int .i64 p_1.xPort), (.int .i64 p_1.xProto)])]) Tryd.call23 rfl rfl (by intro w m h; exact (w_spec_PacketValid (F := allB [] w) (p_0 := p_1) allB_ok h).mono (fun _ _ k => ret_free (fun r u => fr_nil) k)) ?_); rintro r11 _
      refine o_not (st_g rfl rfl) rfl rfl ?_
      refine o_pickF st rfl rfl rfl ?_
      refine c_nil ?_
      exact l_join (!r11) (fun a w hE hm => ⟨hE.sub ⟨rfl, rfl, rfl, trivial⟩, (hm.pick [0, 1, 2] rfl)⟩)
  · rintro t72 a w ⟨hE, hm⟩ h
    refine nx_of hE hm h ?_
    clear hE hm h
    refine c_cond rfl ?_ ?_
    · refine c_seq ?_
      refine c_region ?_
      refine o_as st rfl rfl ?_
      refine c_nil ?_
      refine l_then ?_
      refine c_ret ?_
      refine l_ret ?_
      exact l_end1 Tryd.results55 false () (rv_t rfl) (fun _ _ => NewCh.nil _ _ _ _)
    · refine c_skip ?_
      refine l_then ?_
      refine c_seq ?_
      refine c_region ?_
      refine stw (o_bsl (enc := encGVisit) (qs := []) (cells := []) ([] : (List GVisit)) flelGVisit (by intro ρ h; simp only [List.map_toArray, List.map_cons, List.map_nil]) rfl el128 zero157 rfl rfl rfl rfl rfl rfl ?_); intro v74
      refine stw (o_alloc rfl [(.slice none 0 0)] zero128 ?_); intro b76
      refine nx_own 1 rfl ?_; rintro a78 l79 q80 rfl
      refine stw (o_stc (cs' := [(.slice a78 l79 q80)]) 0 rfl rfl rfl ty128 rfl rfl rfl rfl ?_)
      refine c_nil ?_
      refine l_then ?_
      refine c_seq ?_
      refine c_region ?_
      refine o_ldc st (v := (.agg #[(.slice a3 l4 q5), (.bool s_0.xAccept)])) 3 rfl rfl rfl ty25 rfl ?_
      refine o_ldc st (v := (.agg #[(.int .i64 p_1.xFrom), (.int .i64 p_1.xTo), (.int .i64 p_1.xPort), (.int .i64 p_1.xProto)])) 2 rfl rfl rfl ty40 rfl ?_
      refine stw (o_call (vs := [(.agg #[(.slice a3 l4 q5), (.bool s_0.xAccept)]), (.int .i64 0), (.agg #[(.int .i64 p_1.xFrom), (.int .i64 p_1.xTo), (.int .i64 p_1.xPort), (.int .i64 p_1.xProto)]), (.pointer (some ⟨b76, 0, none⟩))]) (M0 := [cellCh b76 [(.slice a78 l79 q80)] 128, ownCh elGVisit 157 (.slice a78 l79 q80) ([])]) Tryd.call91 rfl rfl (by intro w m h; exact (w_spec_l9Walk (F := allB [cellCh b76 [(.slice a78 l79 q80)] 128, ownCh elGVisit 157 (.slice a78 l79 q80) ([])] w) (s_0 := s_0) (chain_1 := 0) (p_2 := p_1) (out_3 := ([])) allB_ok m.given (m.rdM 2 rfl (reads_snap hv1)) h).mono (fun _ _ k => ret_free (fun r u => (fr_cons free_cell (fr_cons (free_own flelGVisit) fr_nil))) k)) ?_); rintro ⟨r81, r82⟩ v83
      refine o_as st rfl rfl ?_
      refine c_nil ?_
      refine l_then ?_
      refine c_join (σ := Bool) (fun (t145 : Bool) (a : Act) (w : World) => Has 29 [(4, (.bool t145))] a ∧ Mem (gB F [] w0) (feet []) w0 [] w) ?_ ?_
      · intro k146
        refine c_region ?_
        refine o_mv st rfl rfl ?_
        refine o_eql st und3 rfl rfl rfl ?_
        refine o_mv st rfl rfl ?_
        refine st_sp (dj := 21) rfl ?_ ?_
        · refine st_s rfl rfl rfl rfl ?_
          refine st_s rfl rfl rfl rfl ?_
          refine st_s rfl rfl rfl rfl ?_
          refine st_s rfl rfl rfl rfl ?_
          refine st_s rfl rfl rfl rfl ?_
          refine st_s rfl rfl rfl rfl ?_
          refine o_pickT st rfl rfl rfl ?_
          refine o_as st rfl rfl ?_
          refine c_nil ?_
          exact l_join true (fun a w hE hm => ⟨hE.sub ⟨rfl, trivial⟩, (hm.pick [] rfl)⟩)
        · refine o_mv (st_g rfl rfl) rfl rfl ?_
          refine o_eql (st_g rfl rfl) und3 rfl rfl rfl ?_
          refine o_mv (st_g rfl rfl) rfl rfl ?_
          refine st_sp (dj := 24) rfl ?_ ?_
          · refine o_fad (st_g rfl rfl) rfl rfl fld25_1 rfl ?_
            refine o_ldc (st_g rfl rfl) (v := (.bool s_0.xAccept)) 3 rfl rfl rfl ty4 rfl ?_
            refine o_pickT (st_g rfl rfl) rfl rfl rfl ?_
            refine o_pickF st rfl rfl rfl ?_
            refine o_as st rfl rfl ?_
            refine c_nil ?_
            exact l_join s_0.xAccept (fun a w hE hm => ⟨hE.sub ⟨rfl, trivial⟩, (hm.pick [] rfl)⟩)
          · refine st_s rfl rfl rfl rfl ?_
            refine st_s rfl rfl rfl rfl ?_
            refine o_pickF (st_g rfl rfl) rfl rfl rfl ?_
            refine o_pickF st rfl rfl rfl ?_
            refine o_as st rfl rfl ?_
            refine c_nil ?_
            exact l_join false (fun a w hE hm => ⟨hE.sub ⟨rfl, trivial⟩, (hm.pick [] rfl)⟩)
      · rintro t145 a w ⟨hE, hm⟩ h
        refine nx_of hE hm h ?_
        clear hE hm h
        refine c_ret ?_
        exact l_end1 Tryd.results55 t145 () (rv_t rfl) (fun _ _ => NewCh.nil _ _ _ _)

set_option maxRecDepth 100000 in
set_option maxHeartbeats 8000000 in
theorem w_impl_SpansHave {w0 : World} {F : Nat → Prop} {v1 : Value} {list_0 : (List GSpan)} {n_1 : Int} {κ : Bool → Prop} (hF : ∀ b, F b → b < w0.heap.size ∧ ¬ feet [] b) (hv1 : Sl elGSpan F w0 v1 list_0) (h : L_impl_SpansHave list_0 n_1 κ) :
    Calls Tryd.prog 56 #[v1, (.int .i64 n_1)] w0 (Ret [] F w0 κ (fun (r : Bool) (u : Unit) => (.bool r)) (fun (r : Bool) (u : Unit) => [])) := by
  refine enterS (args := [v1, (.int .i64 n_1)]) [] hF (Given.nil _ _) Tryd.func56 rfl Tryd.ntmps56 rfl h ?_
  clear h hF
  refine c_seq ?_
  refine c_region ?_
  refine o_as st rfl rfl ?_
  refine c_nil ?_
  refine l_then ?_
  refine c_seq ?_
  refine c_seq ?_
  refine c_region ?_
  refine o_mv st rfl rfl ?_
  refine o_len st el84 0 rfl (reads_snap hv1) rfl rfl ?_
  refine o_mv st rfl rfl ?_
  refine c_nil ?_
  refine l_then ?_
  refine c_block ?_
  refine c_loop (σ := Int) (fun (t3 : Int) (a : Act) (w : World) => Has 24 [(1, (.int .i64 n_1)), (7, v1), (8, (.int .i64 (list_0.length : Int))), (9, (.int .i64 t3))] a ∧ Mem (gB F [] w0) (feet []) w0 [snapCh w0 F] w) (fun a w hE hm => ⟨hE.sub ⟨rfl, rfl, rfl, rfl, trivial⟩, (hm.pick [0] rfl)⟩) ?_
  rintro nx4 t3 a w ⟨hE, hm⟩ h
  refine nx_of hE hm h ?_
  clear hE hm h
  refine c_seq ?_
  refine c_region ?_
  refine o_lss st rfl rfl rfl ?_
  refine c_nil ?_
  refine l_then ?_
  refine c_seq ?_
  refine c_cond rfl ?_ ?_
  · refine c_skip ?_
    refine l_then ?_
    refine c_seq ?_
    refine c_block ?_
    refine c_seq ?_
    refine c_region ?_
    refine o_idx st 0 rfl (reads_snap hv1) rfl rfl rfl el84 ?_; intro e5 h6
    refine o_lds st (enc := encGSpan) (u := (.agg #[(.int .i64 e5.xLo), (.int .i64 e5.xHi)])) 0 rfl (reads_snap hv1) flelGSpan rfl h6 rfl rfl ty83 rfl ?_
    refine stw (o_alloc rfl [(.int .i64 0), (.int .i64 0)] zero83 ?_); intro b7
    refine stw (o_stc (cs' := [(.int .i64 e5.xLo), (.int .i64 e5.xHi)]) 0 rfl rfl rfl ty83 rfl rfl rfl rfl ?_)
    refine c_nil ?_
    refine l_then ?_
    refine c_join (σ := Bool) (fun (t69 : Bool) (a : Act) (w : World) => Has 24 [(1, (.int .i64 n_1)), (7, v1), (8, (.int .i64 (list_0.length : Int))), (9, (.int .i64 t3)), (22, (.bool t69))] a ∧ Mem (gB F [] w0) (feet []) w0 [snapCh w0 F] w) ?_ ?_
    · intro k70
      refine c_region ?_
      refine o_fad st rfl rfl fld83_0 rfl ?_
      refine o_ldc st (v := (.int .i64 e5.xLo)) 0 rfl rfl rfl ty3 rfl ?_
      refine o_mv st rfl rfl ?_
      refine o_leq st rfl rfl rfl ?_
      refine o_mv st rfl rfl ?_
      refine st_sp (dj := 17) rfl ?_ ?_
      · refine o_mv (st_g rfl rfl) rfl rfl ?_
        refine o_fad (st_g rfl rfl) rfl rfl fld83_1 rfl ?_
        refine o_ldc (st_g rfl rfl) (v := (.int .i64 e5.xHi)) 0 rfl rfl rfl ty3 rfl ?_
        refine o_leq (st_g rfl rfl) rfl rfl rfl ?_
        refine o_pickT st rfl rfl rfl ?_
        refine c_nil ?_
        exact l_join (decide (n_1 ≤ e5.xHi)) (fun a w hE hm => ⟨hE.sub ⟨rfl, rfl, rfl, rfl, rfl, trivial⟩, (hm.pick [1] rfl)⟩)
      · refine st_s rfl rfl rfl rfl ?_
        refine st_s rfl rfl rfl rfl ?_
        refine st_s rfl rfl rfl rfl ?_
        refine st_s rfl rfl rfl rfl ?_
        refine o_pickF st rfl rfl rfl ?_
        refine c_nil ?_
        exact l_join false (fun a w hE hm => ⟨hE.sub ⟨rfl, rfl, rfl, rfl, rfl, trivial⟩, (hm.pick [1] rfl)⟩)
    · rintro t69 a w ⟨hE, hm⟩ h
      refine nx_of hE hm h ?_
      clear hE hm h
      refine c_cond rfl ?_ ?_
      · refine c_seq ?_
        refine c_region ?_
        refine o_as st rfl rfl ?_
        refine c_nil ?_
        refine l_then ?_
        refine c_ret ?_
        refine b_ret ?_
        refine l_ret ?_
        refine l_ret ?_
        refine b_ret ?_
        refine l_ret ?_
        exact l_end1 Tryd.results56 true () (rv_t rfl) (fun _ _ => NewCh.nil _ _ _ _)
      · refine c_skip ?_
        refine b_norm ?_
        refine l_then ?_
        refine c_region ?_
        refine o_add st rfl rfl rfl ?_; intro t71
        refine o_mv st rfl rfl ?_
        refine c_nil ?_
        exact l_join t71 (fun a w hE hm => ⟨hE.sub ⟨rfl, rfl, rfl, rfl, trivial⟩, (hm.pick [0] rfl)⟩)
  · refine c_exit ?_
    refine l_exit ?_
    refine l_exit ?_
    refine b_exit ?_
    refine l_then ?_
    refine c_seq ?_
    refine c_region ?_
    refine o_as st rfl rfl ?_
    refine c_nil ?_
    refine l_then ?_
    refine c_ret ?_
    exact l_end1 Tryd.results56 false () (rv_t rfl) (fun _ _ => NewCh.nil _ _ _ _)

set_option maxRecDepth 100000 in
set_option maxHeartbeats 8000000 in
theorem w_laws_alive {w0 : World} {F : Nat → Prop} {κ : Bool → Prop} (hF : ∀ b, F b → b < w0.heap.size ∧ ¬ feet [] b) (h : L_laws_alive κ) :
    Calls Tryd.prog 14 #[] w0 (Ret [] F w0 κ (fun (r : Bool) (u : Unit) => (.bool r)) (fun (r : Bool) (u : Unit) => [])) := by
  refine enter0 (args := []) [] hF (Given.nil _ _) Tryd.func14 rfl Tryd.ntmps14 rfl h ?_
  clear h hF
  refine c_seq ?_
  refine c_region ?_
  refine o_as st rfl rfl ?_
  refine c_nil ?_
  refine l_then ?_
  refine c_seq ?_
  refine c_region ?_
  refine o_bld st (qs := [(0, (.int .i64 2)), (1, (.int .i64 4))]) (cells := [(.int .i64 2), (.int .i64 4)]) (by intro ρ h; simp only [List.map_toArray, List.map_cons, List.map_nil, h (.const (.int .i64 2)) _ rfl, h (.const (.int .i64 4)) _ rfl]) rfl bld83 rfl ?_
  refine stw (o_bsl (enc := encGSpan) (qs := [(0, (.agg #[(.int .i64 2), (.int .i64 4)]))]) (cells := [(.int .i64 2), (.int .i64 4)]) ([(GSpan.mk 2 4)]) flelGSpan (by intro ρ h; simp only [List.map_toArray, List.map_cons, List.map_nil, h (.tmp 1) _ rfl]) rfl el84 zero83 rfl rfl rfl rfl rfl rfl ?_); intro v1
  refine stw (o_callP (vs := [v1, (.int .i64 3)]) Tryd.call56 rfl rfl (by intro w m h; exact (w_impl_SpansHave (F := allB [] w) (list_0 := ([(GSpan.mk 2 4)])) (n_1 := 3) allB_ok (m.rd0 0 rfl reads_own) h).mono (fun _ _ k => ret_free (fun r u => fr_nil) k)) ?_); rintro r3 _
  refine o_as st rfl rfl ?_
  refine c_nil ?_
  refine l_then ?_
  refine c_ret ?_
  exact l_end1 Tryd.results14 r3 () (rv_t rfl) (fun _ _ => NewCh.nil _ _ _ _)

set_option maxRecDepth 100000 in
set_option maxHeartbeats 8000000 in
theorem w_spec_l19Same {w0 : World} {F : Nat → Prop} {a_0 : GPacket} {b_1 : GPacket} {κ : Bool → Prop} (hF : ∀ b, F b → b < w0.heap.size ∧ ¬ feet [] b) (h : L_spec_l19Same a_0 b_1 κ) :
    Calls Tryd.prog 76 #[(.agg #[(.int .i64 a_0.xFrom), (.int .i64 a_0.xTo), (.int .i64 a_0.xPort), (.int .i64 a_0.xProto)]), (.agg #[(.int .i64 b_1.xFrom), (.int .i64 b_1.xTo), (.int .i64 b_1.xPort), (.int .i64 b_1.xProto)])] w0 (Ret [] F w0 κ (fun (r : Bool) (u : Unit) => (.bool r)) (fun (r : Bool) (u : Unit) => [])) := by
  refine enter0 (args := [(.agg #[(.int .i64 a_0.xFrom), (.int .i64 a_0.xTo), (.int .i64 a_0.xPort), (.int .i64 a_0.xProto)]), (.agg #[(.int .i64 b_1.xFrom), (.int .i64 b_1.xTo), (.int .i64 b_1.xPort), (.int .i64 b_1.xProto)])]) [] hF (Given.nil _ _) Tryd.func76 rfl Tryd.ntmps76 rfl h ?_
  clear h hF
  refine c_seq ?_
  refine c_region ?_
  refine stw (o_box rfl rfl [(.int .i64 a_0.xFrom), (.int .i64 a_0.xTo), (.int .i64 a_0.xPort), (.int .i64 a_0.xProto)] rfl ?_); intro b1
  refine stw (o_box rfl rfl [(.int .i64 b_1.xFrom), (.int .i64 b_1.xTo), (.int .i64 b_1.xPort), (.int .i64 b_1.xProto)] rfl ?_); intro b3
  refine o_as st rfl rfl ?_
  refine c_nil ?_
  refine l_then ?_
  refine c_join (σ := Bool) (fun (t66 : Bool) (a : Act) (w : World) => Has 14 [(4, (.bool t66))] a ∧ Mem (gB F [] w0) (feet []) w0 [] w) ?_ ?_
  · intro k67
    refine c_draw mixed 10 rfl [cellCh b3 [(.int .i64 b_1.xFrom), (.int .i64 b_1.xTo), (.int .i64 b_1.xPort), (.int .i64 b_1.xProto)] 40, cellCh b1 [(.int .i64 a_0.xFrom), (.int .i64 a_0.xTo), (.int .i64 a_0.xPort), (.int .i64 a_0.xProto)] 40] ?_
    refine o_ldc (dt 0 (fun _ m => m)) (v := (.agg #[(.int .i64 a_0.xFrom), (.int .i64 a_0.xTo), (.int .i64 a_0.xPort), (.int .i64 a_0.xProto)])) 1 rfl rfl rfl ty40 rfl ?_
    refine o_ldc (dt 1 (fun _ m => m)) (v := (.agg #[(.int .i64 b_1.xFrom), (.int .i64 b_1.xTo), (.int .i64 b_1.xPort), (.int .i64 b_1.xProto)])) 0 rfl rfl rfl ty40 rfl ?_
    refine o_bin (dt 2 (fun _ m => m)) (.bool (decide (a_0 = b_1))) rfl rfl rfl (eqls40 _ _ a_0.xFrom a_0.xTo a_0.xPort a_0.xProto b_1.xFrom b_1.xTo b_1.xPort b_1.xProto) ?_
    refine o_mv (dt 3 (fun _ m => m)) rfl rfl ?_
    refine st_sp (dj := 8) rfl ?_ ?_
    · refine dsk 4 (fun _ m => m) rfl (by kernel_rfl) rfl rfl rfl rfl ?_
      refine dsk 5 (fun _ m => m) rfl (by kernel_rfl) rfl rfl rfl rfl ?_
      refine dsk 6 (fun _ m => m) rfl (by kernel_rfl) rfl rfl rfl rfl ?_
      refine dsk 7 (fun _ m => m) rfl (by kernel_rfl) rfl rfl rfl rfl ?_
      refine o_pickT (dt 8 (fun _ m => m)) rfl rfl rfl ?_
      refine o_as (dt 9 (fun _ m => m)) rfl rfl ?_
      refine d_done (by kernel_rfl) ?_
      exact l_join true (fun a w hE hm => ⟨hE.sub ⟨rfl, trivial⟩, (hm.pick [] rfl)⟩)
    · refine o_ldc (dtg 4 (fun _ m => m)) (v := (.agg #[(.int .i64 a_0.xFrom), (.int .i64 a_0.xTo), (.int .i64 a_0.xPort), (.int .i64 a_0.xProto)])) 1 rfl rfl rfl ty40 rfl ?_
      refine o_ldc (dtg 5 (fun _ m => m)) (v := (.agg #[(.int .i64 b_1.xFrom), (.int .i64 b_1.xTo), (.int .i64 b_1.xPort), (.int .i64 b_1.xProto)])) 0 rfl rfl rfl ty40 rfl ?_
      refine d_oneg (i := 6) rfl rfl rfl (by kernel_rfl) (o_callP (vs := [(.agg #[(.int .i64 b_1.xFrom), (.int .i64 b_1.xTo), (.int .i64 b_1.xPort), (.int .i64 b_1.xProto)])]) Tryd.call59 rfl rfl (by intro w m h; exact (w_spec_ReversePacket (F := allB [] w) (p_0 := b_1) allB_ok h).mono (fun _ _ k => ret_free (fun r u => fr_nil) k)) ?_); rintro r5 _
      refine d_and (fun _ m => m) ?_
      refine o_bin (dtg 7 (fun _ m => m)) (.bool (decide (a_0 = r5))) rfl rfl rfl (eqls40 _ _ a_0.xFrom a_0.xTo a_0.xPort a_0.xProto r5.xFrom r5.xTo r5.xPort r5.xProto) ?_
      refine o_pickF (dt 8 (fun _ m => m)) rfl rfl rfl ?_
      refine o_as (dt 9 (fun _ m => m)) rfl rfl ?_
      refine d_done (by kernel_rfl) ?_
      exact l_join (decide (a_0 = r5)) (fun a w hE hm => ⟨hE.sub ⟨rfl, trivial⟩, (hm.pick [] rfl)⟩)
  · rintro t66 a w ⟨hE, hm⟩ h
    refine nx_of hE hm h ?_
    clear hE hm h
    refine c_ret ?_
    exact l_end1 Tryd.results76 t66 () (rv_t rfl) (fun _ _ => NewCh.nil _ _ _ _)

set_option maxRecDepth 100000 in
set_option maxHeartbeats 8000000 in
theorem w_spec_FlowsValid {w0 : World} {F : Nat → Prop} {v1 : Value} {list_0 : (List GFlow)} {κ : Bool → Prop} (hF : ∀ b, F b → b < w0.heap.size ∧ ¬ feet [] b) (hv1 : Sl elGFlow F w0 v1 list_0) (h : L_spec_FlowsValid list_0 κ) :
    Calls Tryd.prog 32 #[v1] w0 (Ret [] F w0 κ (fun (r : Bool) (u : Unit) => (.bool r)) (fun (r : Bool) (u : Unit) => [])) := by
  refine enterS (args := [v1]) [] hF (Given.nil _ _) Tryd.func32 rfl Tryd.ntmps32 rfl h ?_
  clear h hF
  refine c_seq ?_
  refine c_region ?_
  refine o_as st rfl rfl ?_
  refine c_nil ?_
  refine l_then ?_
  refine c_seq ?_
  refine c_seq ?_
  refine c_region ?_
  refine o_as st rfl rfl ?_
  refine c_nil ?_
  refine l_then ?_
  refine c_block ?_
  refine c_loop (σ := Int) (fun (t3 : Int) (a : Act) (w : World) => Has 46 [(0, v1), (3, (.int .i64 t3))] a ∧ Mem (gB F [] w0) (feet []) w0 [snapCh w0 F] w) (fun a w hE hm => ⟨hE.sub ⟨rfl, rfl, trivial⟩, (hm.pick [0] rfl)⟩) ?_
  rintro nx4 t3 a w ⟨hE, hm⟩ h
  refine nx_of hE hm h ?_
  clear hE hm h
  refine c_seq ?_
  refine c_seq ?_
  refine c_region ?_
  refine o_mv st rfl rfl ?_
  refine o_mv st rfl rfl ?_
  refine o_len st el53 0 rfl (reads_snap hv1) rfl rfl ?_
  refine o_lss st rfl rfl rfl ?_
  refine c_nil ?_
  refine l_then ?_
  refine c_cond rfl ?_ ?_
  · refine c_skip ?_
    refine l_then ?_
    refine c_seq ?_
    refine c_block ?_
    refine c_seq ?_
    refine c_join (σ := Bool) (fun (t71 : Bool) (a : Act) (w : World) => Has 46 [(0, v1), (3, (.int .i64 t3)), (26, (.bool t71))] a ∧ Mem (gB F [] w0) (feet []) w0 [snapCh w0 F] w) ?_ ?_
    · intro k72
      refine c_region ?_
      refine o_mv st rfl rfl ?_
      refine o_mv st rfl rfl ?_
      refine o_idx st 0 rfl (reads_snap hv1) rfl rfl rfl el53 ?_; intro e5 h6
      refine o_fadS st 0 rfl (reads_snap hv1) h6 rfl rfl fld110_0 rfl ?_
      refine o_lds st (enc := encGFlow) (u := (.agg #[(.int .i64 e5.xWho.xFrom), (.int .i64 e5.xWho.xTo), (.int .i64 e5.xWho.xPort), (.int .i64 e5.xWho.xProto)])) 0 rfl (reads_snap hv1) flelGFlow rfl h6 rfl rfl ty40 rfl ?_
      refine stw (o_callP (vs := [(.agg #[(.int .i64 e5.xWho.xFrom), (.int .i64 e5.xWho.xTo), (.int .i64 e5.xWho.xPort), (.int .i64 e5.xWho.xProto)])]) Tryd.call23 rfl rfl (by intro w m h; exact (w_spec_PacketValid (F := allB [] w) (p_0 := e5.xWho) allB_ok h).mono (fun _ _ k => ret_free (fun r u => fr_nil) k)) ?_); rintro r7 _
      refine o_not st rfl rfl ?_
      refine o_mv st rfl rfl ?_
      refine st_sp (dj := 18) rfl ?_ ?_
      · refine st_s rfl rfl rfl rfl ?_
        refine st_s rfl rfl rfl rfl ?_
        refine st_s rfl rfl rfl rfl ?_
        refine st_s rfl rfl rfl rfl ?_
        refine st_s rfl rfl rfl rfl ?_
        refine st_s rfl rfl rfl rfl ?_
        refine st_s rfl rfl rfl rfl ?_
        refine o_pickT st rfl rfl rfl ?_
        refine c_nil ?_
        exact l_join true (fun a w hE hm => ⟨hE.sub ⟨rfl, rfl, rfl, trivial⟩, (hm.pick [0] rfl)⟩)
      · refine o_mv (st_g rfl rfl) rfl rfl ?_
        refine o_mv (st_g rfl rfl) rfl rfl ?_
        refine o_idx (st_g rfl rfl) 0 rfl (reads_snap hv1) rfl rfl rfl el53 ?_; intro e8 h9
        refine o_fadS (st_g rfl rfl) 0 rfl (reads_snap hv1) h9 rfl rfl fld110_1 rfl ?_
        refine o_lds (st_g rfl rfl) (enc := encGFlow) (u := (.int .i64 e8.xUntil)) 0 rfl (reads_snap hv1) flelGFlow rfl h9 rfl rfl ty3 rfl ?_
        refine st_gw rfl rfl (o_callP (vs := [(.int .i64 e8.xUntil), (.int .i64 0), (.int .i64 1000000)]) Tryd.call58 rfl rfl (by intro w m h; exact (w_spec_l1In (F := allB [] w) (n_0 := e8.xUntil) (lo_1 := 0) (hi_2 := 1000000) allB_ok h).mono (fun _ _ k => ret_free (fun r u => fr_nil) k)) ?_); rintro r10 _
        refine o_not (st_g rfl rfl) rfl rfl ?_
        refine o_pickF st rfl rfl rfl ?_
        refine c_nil ?_
        exact l_join (!r10) (fun a w hE hm => ⟨hE.sub ⟨rfl, rfl, rfl, trivial⟩, (hm.pick [0] rfl)⟩)
    · rintro t71 a w ⟨hE, hm⟩ h
      refine nx_of hE hm h ?_
      clear hE hm h
      refine c_cond rfl ?_ ?_
      · refine c_seq ?_
        refine c_region ?_
        refine o_as st rfl rfl ?_
        refine c_nil ?_
        refine l_then ?_
        refine c_ret ?_
        refine l_ret ?_
        refine b_ret ?_
        refine l_ret ?_
        refine l_ret ?_
        refine b_ret ?_
        refine l_ret ?_
        exact l_end1 Tryd.results32 false () (rv_t rfl) (fun _ _ => NewCh.nil _ _ _ _)
      · refine c_skip ?_
        refine l_then ?_
        refine c_seq ?_
        refine c_region ?_
        refine o_as st rfl rfl ?_
        refine c_nil ?_
        refine l_then ?_
        refine c_block ?_
        refine c_loop (σ := Int) (fun (t73 : Int) (a : Act) (w : World) => Has 46 [(0, v1), (3, (.int .i64 t3)), (4, (.int .i64 t73))] a ∧ Mem (gB F [] w0) (feet []) w0 [snapCh w0 F] w) (fun a w hE hm => ⟨hE.sub ⟨rfl, rfl, rfl, trivial⟩, (hm.pick [0] rfl)⟩) ?_
        rintro nx74 t73 a w ⟨hE, hm⟩ h
        refine nx_of hE hm h ?_
        clear hE hm h
        refine c_seq ?_
        refine c_seq ?_
        refine c_region ?_
        refine o_mv st rfl rfl ?_
        refine o_mv st rfl rfl ?_
        refine o_lss st rfl rfl rfl ?_
        refine c_nil ?_
        refine l_then ?_
        refine c_cond rfl ?_ ?_
        · refine c_skip ?_
          refine l_then ?_
          refine c_seq ?_
          refine c_block ?_
          refine c_seq ?_
          refine c_draw mixed 11 rfl [snapCh w0 F] ?_
          refine o_mv (dt 0 (fun _ m => m)) rfl rfl ?_
          refine o_mv (dt 1 (fun _ m => m)) rfl rfl ?_
          refine o_idx (dt 2 (fun _ m => m)) 0 rfl (reads_snap hv1) rfl rfl rfl el53 ?_; intro e75 h76
          refine o_fadS (dt 3 (fun _ m => m)) 0 rfl (reads_snap hv1) h76 rfl rfl fld110_0 rfl ?_
          refine o_lds (dt 4 (fun _ m => m)) (enc := encGFlow) (u := (.agg #[(.int .i64 e75.xWho.xFrom), (.int .i64 e75.xWho.xTo), (.int .i64 e75.xWho.xPort), (.int .i64 e75.xWho.xProto)])) 0 rfl (reads_snap hv1) flelGFlow rfl h76 rfl rfl ty40 rfl ?_
          refine o_mv (dt 5 (fun _ m => m)) rfl rfl ?_
          refine o_mv (dt 6 (fun _ m => m)) rfl rfl ?_
          refine o_idx (dt 7 (fun _ m => m)) 0 rfl (reads_snap hv1) rfl rfl rfl el53 ?_; intro e77 h78
          refine o_fadS (dt 8 (fun _ m => m)) 0 rfl (reads_snap hv1) h78 rfl rfl fld110_0 rfl ?_
          refine o_lds (dt 9 (fun _ m => m)) (enc := encGFlow) (u := (.agg #[(.int .i64 e77.xWho.xFrom), (.int .i64 e77.xWho.xTo), (.int .i64 e77.xWho.xPort), (.int .i64 e77.xWho.xProto)])) 0 rfl (reads_snap hv1) flelGFlow rfl h78 rfl rfl ty40 rfl ?_
          refine d_one (i := 10) rfl (by kernel_rfl) (o_callP (vs := [(.agg #[(.int .i64 e75.xWho.xFrom), (.int .i64 e75.xWho.xTo), (.int .i64 e75.xWho.xPort), (.int .i64 e75.xWho.xProto)]), (.agg #[(.int .i64 e77.xWho.xFrom), (.int .i64 e77.xWho.xTo), (.int .i64 e77.xWho.xPort), (.int .i64 e77.xWho.xProto)])]) Tryd.call76 rfl rfl (by intro w m h; exact (w_spec_l19Same (F := allB [] w) (a_0 := e75.xWho) (b_1 := e77.xWho) allB_ok h).mono (fun _ _ k => ret_free (fun r u => fr_nil) k)) ?_); rintro r79 _
          refine d_and (fun _ m => m) ?_
          refine d_done (by kernel_rfl) ?_
          refine l_then ?_
          refine c_cond rfl ?_ ?_
          · refine c_seq ?_
            refine c_region ?_
            refine o_as st rfl rfl ?_
            refine c_nil ?_
            refine l_then ?_
            refine c_ret ?_
            refine b_ret ?_
            refine l_ret ?_
            refine l_ret ?_
            refine b_ret ?_
            refine b_ret ?_
            refine l_ret ?_
            refine l_ret ?_
            refine b_ret ?_
            refine l_ret ?_
            exact l_end1 Tryd.results32 false () (rv_t rfl) (fun _ _ => NewCh.nil _ _ _ _)
          · refine c_skip ?_
            refine b_norm ?_
            refine l_then ?_
            refine c_region ?_
            refine o_mv st rfl rfl ?_
            refine o_add st rfl rfl rfl ?_; intro t80
            refine o_as st rfl rfl ?_
            refine c_nil ?_
            exact l_join t80 (fun a w hE hm => ⟨hE.sub ⟨rfl, rfl, rfl, trivial⟩, (hm.pick [0] rfl)⟩)
        · refine c_exit ?_
          refine l_exit ?_
          refine l_exit ?_
          refine b_exit ?_
          refine b_norm ?_
          refine l_then ?_
          refine c_region ?_
          refine o_mv st rfl rfl ?_
          refine o_add st rfl rfl rfl ?_; intro t81
          refine o_as st rfl rfl ?_
          refine c_nil ?_
          exact l_join t81 (fun a w hE hm => ⟨hE.sub ⟨rfl, rfl, trivial⟩, (hm.pick [0] rfl)⟩)
  · refine c_exit ?_
    refine l_exit ?_
    refine l_exit ?_
    refine b_exit ?_
    refine l_then ?_
    refine c_seq ?_
    refine c_region ?_
    refine o_mv st rfl rfl ?_
    refine o_len st el53 0 rfl (reads_snap hv1) rfl rfl ?_
    refine o_leq st rfl rfl rfl ?_
    refine o_as st rfl rfl ?_
    refine c_nil ?_
    refine l_then ?_
    refine c_ret ?_
    exact l_end1 Tryd.results32 (decide ((list_0.length : Int) ≤ 20)) () (rv_t rfl) (fun _ _ => NewCh.nil _ _ _ _)

set_option maxRecDepth 100000 in
set_option maxHeartbeats 8000000 in
theorem w_spec_KnownFlow {w0 : World} {F : Nat → Prop} {v1 : Value} {list_0 : (List GFlow)} {p_1 : GPacket} {now_2 : Int} {κ : Int → Prop} (hF : ∀ b, F b → b < w0.heap.size ∧ ¬ feet [] b) (hv1 : Sl elGFlow F w0 v1 list_0) (h : L_spec_KnownFlow list_0 p_1 now_2 κ) :
    Calls Tryd.prog 73 #[v1, (.agg #[(.int .i64 p_1.xFrom), (.int .i64 p_1.xTo), (.int .i64 p_1.xPort), (.int .i64 p_1.xProto)]), (.int .i64 now_2)] w0 (Ret [] F w0 κ (fun (r : Int) (u : Unit) => (.int .i64 r)) (fun (r : Int) (u : Unit) => [])) := by
  refine enterS (args := [v1, (.agg #[(.int .i64 p_1.xFrom), (.int .i64 p_1.xTo), (.int .i64 p_1.xPort), (.int .i64 p_1.xProto)]), (.int .i64 now_2)]) [] hF (Given.nil _ _) Tryd.func73 rfl Tryd.ntmps73 rfl h ?_
  clear h hF
  refine c_seq ?_
  refine c_region ?_
  refine stw (o_box rfl rfl [(.int .i64 p_1.xFrom), (.int .i64 p_1.xTo), (.int .i64 p_1.xPort), (.int .i64 p_1.xProto)] rfl ?_); intro b3
  refine o_as st rfl rfl ?_
  refine c_nil ?_
  refine l_then ?_
  refine c_seq ?_
  refine c_seq ?_
  refine c_region ?_
  refine o_as st rfl rfl ?_
  refine c_nil ?_
  refine l_then ?_
  refine c_block ?_
  refine c_loop (σ := Int) (fun (t5 : Int) (a : Act) (w : World) => Has 43 [(0, v1), (2, (.int .i64 now_2)), (4, (.pointer (some ⟨b3, 0, none⟩))), (7, (.int .i64 t5))] a ∧ Mem (gB F [] w0) (feet []) w0 [cellCh b3 [(.int .i64 p_1.xFrom), (.int .i64 p_1.xTo), (.int .i64 p_1.xPort), (.int .i64 p_1.xProto)] 40, snapCh w0 F] w) (fun a w hE hm => ⟨hE.sub ⟨rfl, rfl, rfl, rfl, trivial⟩, (hm.pick [0, 1] rfl)⟩) ?_
  rintro nx6 t5 a w ⟨hE, hm⟩ h
  refine nx_of hE hm h ?_
  clear hE hm h
  refine c_seq ?_
  refine c_join (σ := Bool) (fun (t70 : Bool) (a : Act) (w : World) => Has 43 [(0, v1), (2, (.int .i64 now_2)), (4, (.pointer (some ⟨b3, 0, none⟩))), (7, (.int .i64 t5)), (23, (.bool t70))] a ∧ Mem (gB F [] w0) (feet []) w0 [cellCh b3 [(.int .i64 p_1.xFrom), (.int .i64 p_1.xTo), (.int .i64 p_1.xPort), (.int .i64 p_1.xProto)] 40, snapCh w0 F] w) ?_ ?_
  · intro k71
    refine c_region ?_
    refine o_mv st rfl rfl ?_
    refine o_mv st rfl rfl ?_
    refine o_len st el53 1 rfl (reads_snap hv1) rfl rfl ?_
    refine o_lss st rfl rfl rfl ?_
    refine o_mv st rfl rfl ?_
    refine st_sp (dj := 12) rfl ?_ ?_
    · refine o_mv (st_g rfl rfl) rfl rfl ?_
      refine st_gw rfl rfl (o_callP (vs := [v1]) Tryd.call32 rfl rfl (by intro w m h; exact (w_spec_FlowsValid (F := allB [] w) (list_0 := list_0) allB_ok (m.rd0 1 rfl (reads_snap hv1)) h).mono (fun _ _ k => ret_free (fun r u => fr_nil) k)) ?_); rintro r7 _
      refine o_pickT st rfl rfl rfl ?_
      refine o_mv st rfl rfl ?_
      refine st_sp (dj := 16) rfl ?_ ?_
      · refine o_ldc (st_g rfl rfl) (v := (.agg #[(.int .i64 p_1.xFrom), (.int .i64 p_1.xTo), (.int .i64 p_1.xPort), (.int .i64 p_1.xProto)])) 0 rfl rfl rfl ty40 rfl ?_
        refine st_gw rfl rfl (o_callP (vs := [(.agg #[(.int .i64 p_1.xFrom), (.int .i64 p_1.xTo), (.int .i64 p_1.xPort), (.int .i64 p_1.xProto)])]) Tryd.call23 rfl rfl (by intro w m h; exact (w_spec_PacketValid (F := allB [] w) (p_0 := p_1) allB_ok h).mono (fun _ _ k => ret_free (fun r u => fr_nil) k)) ?_); rintro r8 _
        refine o_pickT st rfl rfl rfl ?_
        refine o_mv st rfl rfl ?_
        refine st_sp (dj := 20) rfl ?_ ?_
        · refine o_mv (st_g rfl rfl) rfl rfl ?_
          refine st_gw rfl rfl (o_callP (vs := [(.int .i64 now_2), (.int .i64 0), (.int .i64 1000000)]) Tryd.call58 rfl rfl (by intro w m h; exact (w_spec_l1In (F := allB [] w) (n_0 := now_2) (lo_1 := 0) (hi_2 := 1000000) allB_ok h).mono (fun _ _ k => ret_free (fun r u => fr_nil) k)) ?_); rintro r9 _
          refine o_pickT st rfl rfl rfl ?_
          refine c_nil ?_
          exact l_join r9 (fun a w hE hm => ⟨hE.sub ⟨rfl, rfl, rfl, rfl, rfl, trivial⟩, (hm.pick [0, 1] rfl)⟩)
        · refine st_s rfl rfl rfl rfl ?_
          refine st_s rfl rfl rfl rfl ?_
          refine o_pickF st rfl rfl rfl ?_
          refine c_nil ?_
          exact l_join false (fun a w hE hm => ⟨hE.sub ⟨rfl, rfl, rfl, rfl, rfl, trivial⟩, (hm.pick [0, 1] rfl)⟩)
      · refine st_s rfl rfl rfl rfl ?_
        refine st_s rfl rfl rfl rfl ?_
        refine o_pickF st rfl rfl rfl ?_
        refine o_mv st rfl rfl ?_
        refine st_s rfl rfl rfl rfl ?_
        refine st_s rfl rfl rfl rfl ?_
        refine o_pickF st rfl rfl rfl ?_
        refine c_nil ?_
        exact l_join false (fun a w hE hm => ⟨hE.sub ⟨rfl, rfl, rfl, rfl, rfl, trivial⟩, (hm.pick [0, 1] rfl)⟩)
    · refine st_s rfl rfl rfl rfl ?_
      refine st_s rfl rfl rfl rfl ?_
      refine o_pickF st rfl rfl rfl ?_
      refine o_mv st rfl rfl ?_
      refine st_s rfl rfl rfl rfl ?_
      refine st_s rfl rfl rfl rfl ?_
      refine o_pickF st rfl rfl rfl ?_
      refine o_mv st rfl rfl ?_
      refine st_s rfl rfl rfl rfl ?_
      refine st_s rfl rfl rfl rfl ?_
      refine o_pickF st rfl rfl rfl ?_
      refine c_nil ?_
      exact l_join false (fun a w hE hm => ⟨hE.sub ⟨rfl, rfl, rfl, rfl, rfl, trivial⟩, (hm.pick [0, 1] rfl)⟩)
  · rintro t70 a w ⟨hE, hm⟩ h
    refine nx_of hE hm h ?_
    clear hE hm h
    refine c_cond rfl ?_ ?_
    · refine c_skip ?_
      refine l_then ?_
      refine c_seq ?_
      refine c_block ?_
      refine c_join (σ := Bool) (fun (t137 : Bool) (a : Act) (w : World) => Has 43 [(0, v1), (2, (.int .i64 now_2)), (4, (.pointer (some ⟨b3, 0, none⟩))), (7, (.int .i64 t5)), (41, (.bool t137))] a ∧ Mem (gB F [] w0) (feet []) w0 [cellCh b3 [(.int .i64 p_1.xFrom), (.int .i64 p_1.xTo), (.int .i64 p_1.xPort), (.int .i64 p_1.xProto)] 40, snapCh w0 F] w) ?_ ?_
      · intro k138
        refine c_draw mixed 16 rfl [cellCh b3 [(.int .i64 p_1.xFrom), (.int .i64 p_1.xTo), (.int .i64 p_1.xPort), (.int .i64 p_1.xProto)] 40, snapCh w0 F] ?_
        refine o_mv (dt 0 (fun _ m => m)) rfl rfl ?_
        refine o_mv (dt 1 (fun _ m => m)) rfl rfl ?_
        refine o_idx (dt 2 (fun _ m => m)) 1 rfl (reads_snap hv1) rfl rfl rfl el53 ?_; intro e72 h73
        refine o_fadS (dt 3 (fun _ m => m)) 1 rfl (reads_snap hv1) h73 rfl rfl fld110_0 rfl ?_
        refine o_lds (dt 4 (fun _ m => m)) (enc := encGFlow) (u := (.agg #[(.int .i64 e72.xWho.xFrom), (.int .i64 e72.xWho.xTo), (.int .i64 e72.xWho.xPort), (.int .i64 e72.xWho.xProto)])) 1 rfl (reads_snap hv1) flelGFlow rfl h73 rfl rfl ty40 rfl ?_
        refine o_ldc (dt 5 (fun _ m => m)) (v := (.agg #[(.int .i64 p_1.xFrom), (.int .i64 p_1.xTo), (.int .i64 p_1.xPort), (.int .i64 p_1.xProto)])) 0 rfl rfl rfl ty40 rfl ?_
        refine d_one (i := 6) rfl (by kernel_rfl) (o_callP (vs := [(.agg #[(.int .i64 e72.xWho.xFrom), (.int .i64 e72.xWho.xTo), (.int .i64 e72.xWho.xPort), (.int .i64 e72.xWho.xProto)]), (.agg #[(.int .i64 p_1.xFrom), (.int .i64 p_1.xTo), (.int .i64 p_1.xPort), (.int .i64 p_1.xProto)])]) Tryd.call76 rfl rfl (by intro w m h; exact (w_spec_l19Same (F := allB [] w) (a_0 := e72.xWho) (b_1 := p_1) allB_ok h).mono (fun _ _ k => ret_free (fun r u => fr_nil) k)) ?_); rintro r74 _
        refine d_and (fun _ m => m) ?_
        refine o_mv (dt 7 (fun _ m => m)) rfl rfl ?_
        refine st_sp (dj := 33) rfl ?_ ?_
        · refine o_mv (dtg 8 (fun _ m => m)) rfl rfl ?_
          refine o_mv (dtg 9 (fun _ m => m)) rfl rfl ?_
          refine o_idx (dtg 10 (fun _ m => m)) 1 rfl (reads_snap hv1) rfl rfl rfl el53 ?_; intro e75 h76
          refine o_fadS (dtg 11 (fun _ m => m)) 1 rfl (reads_snap hv1) h76 rfl rfl fld110_1 rfl ?_
          refine o_lds (dtg 12 (fun _ m => m)) (enc := encGFlow) (u := (.int .i64 e75.xUntil)) 1 rfl (reads_snap hv1) flelGFlow rfl h76 rfl rfl ty3 rfl ?_
          refine o_mv (dtg 13 (fun _ m => m)) rfl rfl ?_
          refine o_geq (dtg 14 (fun _ m => m)) rfl rfl rfl ?_
          refine o_pickT (dt 15 (fun _ m => m)) rfl rfl rfl ?_
          refine d_done (by kernel_rfl) ?_
          exact l_join (decide (now_2 ≤ e75.xUntil)) (fun a w hE hm => ⟨hE.sub ⟨rfl, rfl, rfl, rfl, rfl, trivial⟩, (hm.pick [0, 1] rfl)⟩)
        · refine dsk 8 (fun _ m => m) rfl (by kernel_rfl) rfl rfl rfl rfl ?_
          refine dsk 9 (fun _ m => m) rfl (by kernel_rfl) rfl rfl rfl rfl ?_
          refine dsk 10 (fun _ m => m) rfl (by kernel_rfl) rfl rfl rfl rfl ?_
          refine dsk 11 (fun _ m => m) rfl (by kernel_rfl) rfl rfl rfl rfl ?_
          refine dsk 12 (fun _ m => m) rfl (by kernel_rfl) rfl rfl rfl rfl ?_
          refine dsk 13 (fun _ m => m) rfl (by kernel_rfl) rfl rfl rfl rfl ?_
          refine dsk 14 (fun _ m => m) rfl (by kernel_rfl) rfl rfl rfl rfl ?_
          refine o_pickF (dt 15 (fun _ m => m)) rfl rfl rfl ?_
          refine d_done (by kernel_rfl) ?_
          exact l_join false (fun a w hE hm => ⟨hE.sub ⟨rfl, rfl, rfl, rfl, rfl, trivial⟩, (hm.pick [0, 1] rfl)⟩)
      · rintro t137 a w ⟨hE, hm⟩ h
        refine nx_of hE hm h ?_
        clear hE hm h
        refine c_cond rfl ?_ ?_
        · refine c_seq ?_
          refine c_region ?_
          refine o_mv st rfl rfl ?_
          refine o_as st rfl rfl ?_
          refine c_nil ?_
          refine l_then ?_
          refine c_ret ?_
          refine b_ret ?_
          refine l_ret ?_
          refine l_ret ?_
          refine b_ret ?_
          refine l_ret ?_
          exact l_end1 Tryd.results73 t5 () (rv_t rfl) (fun _ _ => NewCh.nil _ _ _ _)
        · refine c_skip ?_
          refine b_norm ?_
          refine l_then ?_
          refine c_region ?_
          refine o_mv st rfl rfl ?_
          refine o_add st rfl rfl rfl ?_; intro t139
          refine o_as st rfl rfl ?_
          refine c_nil ?_
          exact l_join t139 (fun a w hE hm => ⟨hE.sub ⟨rfl, rfl, rfl, rfl, trivial⟩, (hm.pick [0, 1] rfl)⟩)
    · refine c_exit ?_
      refine l_exit ?_
      refine l_exit ?_
      refine b_exit ?_
      refine l_then ?_
      refine c_seq ?_
      refine c_region ?_
      refine o_as st rfl rfl ?_
      refine c_nil ?_
      refine l_then ?_
      refine c_ret ?_
      exact l_end1 Tryd.results73 (-1) () (rv_t rfl) (fun _ _ => NewCh.nil _ _ _ _)

set_option maxRecDepth 100000 in
set_option maxHeartbeats 8000000 in
theorem w_spec_ExpireFlows {w0 : World} {F : Nat → Prop} {v1 : Value} {list_0 : (List GFlow)} {now_1 : Int} {κ : (List GFlow) → Prop} (hF : ∀ b, F b → b < w0.heap.size ∧ ¬ feet [] b) (hv1 : Sl elGFlow F w0 v1 list_0) (h : L_spec_ExpireFlows list_0 now_1 κ) :
    Calls Tryd.prog 74 #[v1, (.int .i64 now_1)] w0 (Ret [] F w0 κ (fun (r : (List GFlow)) (u : Value) => u) (fun (r : (List GFlow)) (u : Value) => [ownCh elGFlow 110 u r])) := by
  refine enterS (args := [v1, (.int .i64 now_1)]) [] hF (Given.nil _ _) Tryd.func74 rfl Tryd.ntmps74 rfl h ?_
  clear h hF
  refine c_seq ?_
  refine c_region ?_
  refine stw (o_asn elGFlow 110 rfl rfl ?_)
  refine c_nil ?_
  refine l_then ?_
  refine c_seq ?_
  refine c_region ?_
  refine stw (o_bsl (enc := encGFlow) (qs := []) (cells := []) ([] : (List GFlow)) flelGFlow (by intro ρ h; simp only [List.map_toArray, List.map_cons, List.map_nil]) rfl el53 zero110 rfl rfl rfl rfl rfl rfl ?_); intro v4
  refine o_as st rfl rfl ?_
  refine c_nil ?_
  refine l_then ?_
  refine c_seq ?_
  refine c_seq ?_
  refine c_region ?_
  refine o_as st rfl rfl ?_
  refine c_nil ?_
  refine l_then ?_
  refine c_block ?_
  refine c_loop (σ := ((List GFlow) × Int)) (fun ((xs7, t10) : ((List GFlow) × Int)) (a : Act) (w : World) => ∃ (v6 : Value), Has 37 [(0, v1), (1, (.int .i64 now_1)), (5, v6), (6, (.int .i64 t10))] a ∧ Mem (gB F [] w0) (feet []) w0 [snapCh w0 F, ownCh elGFlow 110 v6 xs7] w) (fun a w hE hm => ⟨v4, hE.sub ⟨rfl, rfl, rfl, rfl, trivial⟩, (hm.pick [2, 0] rfl)⟩) ?_
  rintro nx11 ⟨xs7, t10⟩ a w ⟨v6, hE, hm⟩ h
  refine nx_of hE hm h ?_
  clear hE hm h
  refine c_seq ?_
  refine c_join (σ := Bool) (fun (t74 : Bool) (a : Act) (w : World) => Has 37 [(0, v1), (1, (.int .i64 now_1)), (5, v6), (6, (.int .i64 t10)), (19, (.bool t74))] a ∧ Mem (gB F [] w0) (feet []) w0 [ownCh elGFlow 110 v6 xs7, snapCh w0 F] w) ?_ ?_
  · intro k75
    refine c_region ?_
    refine o_mv st rfl rfl ?_
    refine o_mv st rfl rfl ?_
    refine o_len st el53 0 rfl (reads_snap hv1) rfl rfl ?_
    refine o_lss st rfl rfl rfl ?_
    refine o_mv st rfl rfl ?_
    refine st_sp (dj := 12) rfl ?_ ?_
    · refine o_mv (st_g rfl rfl) rfl rfl ?_
      refine st_gw rfl rfl (o_callP (vs := [v1]) Tryd.call32 rfl rfl (by intro w m h; exact (w_spec_FlowsValid (F := allB [] w) (list_0 := list_0) allB_ok (m.rd0 0 rfl (reads_snap hv1)) h).mono (fun _ _ k => ret_free (fun r u => fr_nil) k)) ?_); rintro r12 _
      refine o_pickT st rfl rfl rfl ?_
      refine o_mv st rfl rfl ?_
      refine st_sp (dj := 16) rfl ?_ ?_
      · refine o_mv (st_g rfl rfl) rfl rfl ?_
        refine st_gw rfl rfl (o_callP (vs := [(.int .i64 now_1), (.int .i64 0), (.int .i64 1000000)]) Tryd.call58 rfl rfl (by intro w m h; exact (w_spec_l1In (F := allB [] w) (n_0 := now_1) (lo_1 := 0) (hi_2 := 1000000) allB_ok h).mono (fun _ _ k => ret_free (fun r u => fr_nil) k)) ?_); rintro r13 _
        refine o_pickT st rfl rfl rfl ?_
        refine c_nil ?_
        exact l_join r13 (fun a w hE hm => ⟨hE.sub ⟨rfl, rfl, rfl, rfl, rfl, trivial⟩, (hm.pick [1, 0] rfl)⟩)
      · refine st_s rfl rfl rfl rfl ?_
        refine st_s rfl rfl rfl rfl ?_
        refine o_pickF st rfl rfl rfl ?_
        refine c_nil ?_
        exact l_join false (fun a w hE hm => ⟨hE.sub ⟨rfl, rfl, rfl, rfl, rfl, trivial⟩, (hm.pick [1, 0] rfl)⟩)
    · refine st_s rfl rfl rfl rfl ?_
      refine st_s rfl rfl rfl rfl ?_
      refine o_pickF st rfl rfl rfl ?_
      refine o_mv st rfl rfl ?_
      refine st_s rfl rfl rfl rfl ?_
      refine st_s rfl rfl rfl rfl ?_
      refine o_pickF st rfl rfl rfl ?_
      refine c_nil ?_
      exact l_join false (fun a w hE hm => ⟨hE.sub ⟨rfl, rfl, rfl, rfl, rfl, trivial⟩, (hm.pick [1, 0] rfl)⟩)
  · rintro t74 a w ⟨hE, hm⟩ h
    refine nx_of hE hm h ?_
    clear hE hm h
    refine c_cond rfl ?_ ?_
    · refine c_skip ?_
      refine l_then ?_
      refine c_join (σ := (List GFlow)) (fun (xs144 : (List GFlow)) (a : Act) (w : World) => ∃ (v145 : Value), Has 37 [(0, v1), (1, (.int .i64 now_1)), (5, v145), (6, (.int .i64 t10))] a ∧ Mem (gB F [] w0) (feet []) w0 [ownCh elGFlow 110 v145 xs144, snapCh w0 F] w) ?_ ?_
      · intro k147
        refine c_block ?_
        refine c_seq ?_
        refine c_region ?_
        refine o_mv st rfl rfl ?_
        refine o_mv st rfl rfl ?_
        refine o_idx st 1 rfl (reads_snap hv1) rfl rfl rfl el53 ?_; intro e76 h77
        refine o_fadS st 1 rfl (reads_snap hv1) h77 rfl rfl fld110_1 rfl ?_
        refine o_lds st (enc := encGFlow) (u := (.int .i64 e76.xUntil)) 1 rfl (reads_snap hv1) flelGFlow rfl h77 rfl rfl ty3 rfl ?_
        refine o_mv st rfl rfl ?_
        refine o_geq st rfl rfl rfl ?_
        refine c_nil ?_
        refine l_then ?_
        refine c_cond rfl ?_ ?_
        · refine c_region ?_
          refine o_mv st rfl rfl ?_
          refine o_mv st rfl rfl ?_
          refine o_mv st rfl rfl ?_
          refine o_idx st 1 rfl (reads_snap hv1) rfl rfl rfl el53 ?_; intro e78 h79
          refine o_lds st (enc := encGFlow) (u := (.agg #[(.int .i64 e78.xWho.xFrom), (.int .i64 e78.xWho.xTo), (.int .i64 e78.xWho.xPort), (.int .i64 e78.xWho.xProto), (.int .i64 e78.xUntil)])) 1 rfl (reads_snap hv1) flelGFlow rfl h79 rfl rfl ty110 rfl ?_
          refine stw (o_bsl (enc := encGFlow) (qs := [(0, (.agg #[(.int .i64 e78.xWho.xFrom), (.int .i64 e78.xWho.xTo), (.int .i64 e78.xWho.xPort), (.int .i64 e78.xWho.xProto), (.int .i64 e78.xUntil)]))]) (cells := [(.int .i64 e78.xWho.xFrom), (.int .i64 e78.xWho.xTo), (.int .i64 e78.xWho.xPort), (.int .i64 e78.xWho.xProto), (.int .i64 e78.xUntil)]) ([e78]) flelGFlow (by intro ρ h; simp only [List.map_toArray, List.map_cons, List.map_nil, h (.tmp 33) _ rfl]) rfl el53 zero110 rfl rfl rfl rfl rfl rfl ?_); intro v80
          refine stw (o_app 1 0 rfl rfl (src_flat flelGFlow reads_own) rfl rfl rfl el53 rfl zero110 rfl rfl ?_); intro v82
          refine o_as st rfl rfl ?_
          refine c_nil ?_
          refine b_norm ?_
          exact l_join (xs7 ++ ([e78])) (fun a w hE hm => ⟨v82, hE.sub ⟨rfl, rfl, rfl, rfl, trivial⟩, (hm.pick [1, 2] rfl)⟩)
        · refine c_skip ?_
          refine b_norm ?_
          exact l_join xs7 (fun a w hE hm => ⟨v6, hE.sub ⟨rfl, rfl, rfl, rfl, trivial⟩, (hm.pick [0, 1] rfl)⟩)
      · rintro xs144 a w ⟨v145, hE, hm⟩ h
        refine nx_of hE hm h ?_
        clear hE hm h
        refine c_region ?_
        refine o_mv st rfl rfl ?_
        refine o_add st rfl rfl rfl ?_; intro t148
        refine o_as st rfl rfl ?_
        refine c_nil ?_
        exact l_join (xs144, t148) (fun a w hE hm => ⟨v145, hE.sub ⟨rfl, rfl, rfl, rfl, trivial⟩, (hm.pick [1, 0] rfl)⟩)
    · refine c_exit ?_
      refine l_exit ?_
      refine l_exit ?_
      refine b_exit ?_
      refine l_then ?_
      refine c_seq ?_
      refine c_region ?_
      refine o_mv st rfl rfl ?_
      refine o_as st rfl rfl ?_
      refine c_nil ?_
      refine l_then ?_
      refine c_ret ?_
      exact l_end1 Tryd.results74 xs7 v6 (rv_t rfl) (fun w m => NewCh.ofB m [0] rfl)

set_option maxRecDepth 100000 in
set_option maxHeartbeats 8000000 in
theorem w_spec_TrackFlow {w0 : World} {F : Nat → Prop} {v1 : Value} {list_0 : (List GFlow)} {p_1 : GPacket} {now_2 : Int} {life_3 : Int} {κ : ((List GFlow) × Bool) → Prop} (hF : ∀ b, F b → b < w0.heap.size ∧ ¬ feet [] b) (hv1 : Sl elGFlow F w0 v1 list_0) (h : L_spec_TrackFlow list_0 p_1 now_2 life_3 κ) :
    Calls Tryd.prog 75 #[v1, (.agg #[(.int .i64 p_1.xFrom), (.int .i64 p_1.xTo), (.int .i64 p_1.xPort), (.int .i64 p_1.xProto)]), (.int .i64 now_2), (.int .i64 life_3)] w0 (Ret [] F w0 κ (fun (r : ((List GFlow) × Bool)) (u : Value) => .tuple #[u, (.bool r.2)]) (fun (r : ((List GFlow) × Bool)) (u : Value) => [ownCh elGFlow 110 u r.1])) := by
  refine enterS (args := [v1, (.agg #[(.int .i64 p_1.xFrom), (.int .i64 p_1.xTo), (.int .i64 p_1.xPort), (.int .i64 p_1.xProto)]), (.int .i64 now_2), (.int .i64 life_3)]) [] hF (Given.nil _ _) Tryd.func75 rfl Tryd.ntmps75 rfl h ?_
  clear h hF
  refine c_seq ?_
  refine c_region ?_
  refine stw (o_box rfl rfl [(.int .i64 p_1.xFrom), (.int .i64 p_1.xTo), (.int .i64 p_1.xPort), (.int .i64 p_1.xProto)] rfl ?_); intro b3
  refine stw (o_asn elGFlow 110 rfl rfl ?_)
  refine o_as st rfl rfl ?_
  refine c_nil ?_
  refine l_then ?_
  refine c_seq ?_
  refine c_join (σ := Bool) (fun (t70 : Bool) (a : Act) (w : World) => Has 61 [(0, v1), (2, (.int .i64 now_2)), (3, (.int .i64 life_3)), (5, (.pointer (some ⟨b3, 0, none⟩))), (30, (.bool t70))] a ∧ Mem (gB F [] w0) (feet []) w0 [cellCh b3 [(.int .i64 p_1.xFrom), (.int .i64 p_1.xTo), (.int .i64 p_1.xPort), (.int .i64 p_1.xProto)] 40, snapCh w0 F] w) ?_ ?_
  · intro k71
    refine c_region ?_
    refine o_mv st rfl rfl ?_
    refine stw (o_callP (vs := [v1]) Tryd.call32 rfl rfl (by intro w m h; exact (w_spec_FlowsValid (F := allB [] w) (list_0 := list_0) allB_ok (m.rd0 2 rfl (reads_snap hv1)) h).mono (fun _ _ k => ret_free (fun r u => fr_nil) k)) ?_); rintro r6 _
    refine o_not st rfl rfl ?_
    refine o_mv st rfl rfl ?_
    refine st_sp (dj := 16) rfl ?_ ?_
    · refine st_s rfl rfl rfl rfl ?_
      refine st_s rfl rfl rfl rfl ?_
      refine st_s rfl rfl rfl rfl ?_
      refine o_pickT st rfl rfl rfl ?_
      refine o_mv st rfl rfl ?_
      refine st_s rfl rfl rfl rfl ?_
      refine st_s rfl rfl rfl rfl ?_
      refine st_s rfl rfl rfl rfl ?_
      refine o_pickT st rfl rfl rfl ?_
      refine o_mv st rfl rfl ?_
      refine st_s rfl rfl rfl rfl ?_
      refine st_s rfl rfl rfl rfl ?_
      refine st_s rfl rfl rfl rfl ?_
      refine o_pickT st rfl rfl rfl ?_
      refine c_nil ?_
      exact l_join true (fun a w hE hm => ⟨hE.sub ⟨rfl, rfl, rfl, rfl, rfl, trivial⟩, (hm.pick [1, 2] rfl)⟩)
    · refine o_ldc (st_g rfl rfl) (v := (.agg #[(.int .i64 p_1.xFrom), (.int .i64 p_1.xTo), (.int .i64 p_1.xPort), (.int .i64 p_1.xProto)])) 1 rfl rfl rfl ty40 rfl ?_
      refine st_gw rfl rfl (o_callP (vs := [(.agg #[(.int .i64 p_1.xFrom), (.int .i64 p_1.xTo), (.int .i64 p_1.xPort), (.int .i64 p_1.xProto)])]) Tryd.call23 rfl rfl (by intro w m h; exact (w_spec_PacketValid (F := allB [] w) (p_0 := p_1) allB_ok h).mono (fun _ _ k => ret_free (fun r u => fr_nil) k)) ?_); rintro r7 _
      refine o_not (st_g rfl rfl) rfl rfl ?_
      refine o_pickF st rfl rfl rfl ?_
      refine o_mv st rfl rfl ?_
      refine st_sp (dj := 21) rfl ?_ ?_
      · refine st_s rfl rfl rfl rfl ?_
        refine st_s rfl rfl rfl rfl ?_
        refine st_s rfl rfl rfl rfl ?_
        refine o_pickT st rfl rfl rfl ?_
        refine o_mv st rfl rfl ?_
        refine st_s rfl rfl rfl rfl ?_
        refine st_s rfl rfl rfl rfl ?_
        refine st_s rfl rfl rfl rfl ?_
        refine o_pickT st rfl rfl rfl ?_
        refine c_nil ?_
        exact l_join true (fun a w hE hm => ⟨hE.sub ⟨rfl, rfl, rfl, rfl, rfl, trivial⟩, (hm.pick [1, 2] rfl)⟩)
      · refine o_mv (st_g rfl rfl) rfl rfl ?_
        refine st_gw rfl rfl (o_callP (vs := [(.int .i64 now_2), (.int .i64 0), (.int .i64 1000000)]) Tryd.call58 rfl rfl (by intro w m h; exact (w_spec_l1In (F := allB [] w) (n_0 := now_2) (lo_1 := 0) (hi_2 := 1000000) allB_ok h).mono (fun _ _ k => ret_free (fun r u => fr_nil) k)) ?_); rintro r8 _
        refine o_not (st_g rfl rfl) rfl rfl ?_
        refine o_pickF st rfl rfl rfl ?_
        refine o_mv st rfl rfl ?_
        refine st_sp (dj := 26) rfl ?_ ?_
        · refine st_s rfl rfl rfl rfl ?_
          refine st_s rfl rfl rfl rfl ?_
          refine st_s rfl rfl rfl rfl ?_
          refine o_pickT st rfl rfl rfl ?_
          refine c_nil ?_
          exact l_join true (fun a w hE hm => ⟨hE.sub ⟨rfl, rfl, rfl, rfl, rfl, trivial⟩, (hm.pick [1, 2] rfl)⟩)
        · refine o_mv (st_g rfl rfl) rfl rfl ?_
          refine st_gw rfl rfl (o_callP (vs := [(.int .i64 life_3), (.int .i64 0), (.int .i64 1000)]) Tryd.call58 rfl rfl (by intro w m h; exact (w_spec_l1In (F := allB [] w) (n_0 := life_3) (lo_1 := 0) (hi_2 := 1000) allB_ok h).mono (fun _ _ k => ret_free (fun r u => fr_nil) k)) ?_); rintro r9 _
          refine o_not (st_g rfl rfl) rfl rfl ?_
          refine o_pickF st rfl rfl rfl ?_
          refine c_nil ?_
          exact l_join (!r9) (fun a w hE hm => ⟨hE.sub ⟨rfl, rfl, rfl, rfl, rfl, trivial⟩, (hm.pick [1, 2] rfl)⟩)
  · rintro t70 a w ⟨hE, hm⟩ h
    refine nx_of hE hm h ?_
    clear hE hm h
    refine c_cond rfl ?_ ?_
    · refine c_seq ?_
      refine c_region ?_
      refine stw (o_bsl (enc := encGFlow) (qs := []) (cells := []) ([] : (List GFlow)) flelGFlow (by intro ρ h; simp only [List.map_toArray, List.map_cons, List.map_nil]) rfl el53 zero110 rfl rfl rfl rfl rfl rfl ?_); intro v72
      refine o_as st rfl rfl ?_
      refine o_as st rfl rfl ?_
      refine c_nil ?_
      refine l_then ?_
      refine c_ret ?_
      refine l_ret ?_
      exact l_end2 Tryd.results75 ([], false) v72 (rv_t rfl) (rv_t rfl) rfl (fun w m => NewCh.ofB m [0] rfl)
    · refine c_skip ?_
      refine l_then ?_
      refine c_seq ?_
      refine c_region ?_
      refine o_mv st rfl rfl ?_
      refine o_mv st rfl rfl ?_
      refine stw (o_callP (vs := [v1, (.int .i64 now_2)]) Tryd.call74 rfl rfl (by intro w m h; exact (w_spec_ExpireFlows (F := allB [] w) (list_0 := list_0) (now_1 := now_2) allB_ok (m.rd0 1 rfl (reads_snap hv1)) h).mono (fun _ _ k => ret_free (fun r u => (fr_cons (free_own flelGFlow) fr_nil)) k)) ?_); rintro r74 v75
      refine o_as st rfl rfl ?_
      refine c_nil ?_
      refine l_then ?_
      refine c_seq ?_
      refine c_region ?_
      refine o_mv st rfl rfl ?_
      refine o_mv st rfl rfl ?_
      refine o_add st rfl rfl rfl ?_; intro t77
      refine o_min st rfl rfl rfl ?_
      refine o_as st rfl rfl ?_
      refine c_nil ?_
      refine l_then ?_
      refine c_seq ?_
      refine c_region ?_
      refine o_mv st rfl rfl ?_
      refine o_ldc st (v := (.agg #[(.int .i64 p_1.xFrom), (.int .i64 p_1.xTo), (.int .i64 p_1.xPort), (.int .i64 p_1.xProto)])) 1 rfl rfl rfl ty40 rfl ?_
      refine o_mv st rfl rfl ?_
      refine stw (o_callP (vs := [v75, (.agg #[(.int .i64 p_1.xFrom), (.int .i64 p_1.xTo), (.int .i64 p_1.xPort), (.int .i64 p_1.xProto)]), (.int .i64 now_2)]) Tryd.call73 rfl rfl (by intro w m h; exact (w_spec_KnownFlow (F := allB [] w) (list_0 := r74) (p_1 := p_1) (now_2 := now_2) allB_ok (m.rd0 0 rfl reads_own) h).mono (fun _ _ k => ret_free (fun r u => fr_nil) k)) ?_); rintro r78 _
      refine o_as st rfl rfl ?_
      refine c_nil ?_
      refine l_then ?_
      refine c_seq ?_
      refine c_seq ?_
      refine c_region ?_
      refine o_mv st rfl rfl ?_
      refine o_geq st rfl rfl rfl ?_
      refine c_nil ?_
      refine l_then ?_
      refine c_cond rfl ?_ ?_
      · refine c_seq ?_
        refine c_region ?_
        refine o_mv st rfl rfl ?_
        refine o_mv st rfl rfl ?_
        refine o_mv st rfl rfl ?_
        refine o_idx st 0 rfl reads_own rfl rfl rfl el53 ?_; intro e79 h80
        refine o_fadS st 0 rfl reads_own h80 rfl rfl fld110_1 rfl ?_
        refine stw (o_sts (enc := encGFlow) (y' := (GFlow.mk e79.xWho (min 1000000 t77))) 0 rfl flelGFlow rfl h80 ty3 rfl rfl rfl rfl rfl rfl ?_)
        refine c_nil ?_
        refine l_then ?_
        refine c_seq ?_
        refine c_region ?_
        refine o_mv st rfl rfl ?_
        refine o_as st rfl rfl ?_
        refine o_as st rfl rfl ?_
        refine c_nil ?_
        refine l_then ?_
        refine c_ret ?_
        refine l_ret ?_
        exact l_end2 Tryd.results75 ((r74.set (r78).toNat (GFlow.mk e79.xWho (min 1000000 t77))), true) v75 (rv_t rfl) (rv_t rfl) rfl (fun w m => NewCh.ofB m [0] rfl)
      · refine c_skip ?_
        refine l_then ?_
        refine c_seq ?_
        refine c_seq ?_
        refine c_region ?_
        refine o_mv st rfl rfl ?_
        refine o_len st el53 0 rfl reads_own rfl rfl ?_
        refine o_eql st und3 rfl rfl rfl ?_
        refine c_nil ?_
        refine l_then ?_
        refine c_cond rfl ?_ ?_
        · refine c_seq ?_
          refine c_region ?_
          refine o_mv st rfl rfl ?_
          refine o_as st rfl rfl ?_
          refine o_as st rfl rfl ?_
          refine c_nil ?_
          refine l_then ?_
          refine c_ret ?_
          refine l_ret ?_
          exact l_end2 Tryd.results75 (r74, false) v75 (rv_t rfl) (rv_t rfl) rfl (fun w m => NewCh.ofB m [0] rfl)
        · refine c_skip ?_
          refine l_then ?_
          refine c_seq ?_
          refine c_region ?_
          refine o_mv st rfl rfl ?_
          refine o_ldc st (v := (.agg #[(.int .i64 p_1.xFrom), (.int .i64 p_1.xTo), (.int .i64 p_1.xPort), (.int .i64 p_1.xProto)])) 1 rfl rfl rfl ty40 rfl ?_
          refine o_mv st rfl rfl ?_
          refine o_bld st (qs := [(0, (.agg #[(.int .i64 p_1.xFrom), (.int .i64 p_1.xTo), (.int .i64 p_1.xPort), (.int .i64 p_1.xProto)])), (1, (.int .i64 (min 1000000 t77)))]) (cells := [(.int .i64 p_1.xFrom), (.int .i64 p_1.xTo), (.int .i64 p_1.xPort), (.int .i64 p_1.xProto), (.int .i64 (min 1000000 t77))]) (by intro ρ h; simp only [List.map_toArray, List.map_cons, List.map_nil, h (.tmp 56) _ rfl, h (.tmp 57) _ rfl]) rfl bld110 rfl ?_
          refine stw (o_bsl (enc := encGFlow) (qs := [(0, (.agg #[(.int .i64 p_1.xFrom), (.int .i64 p_1.xTo), (.int .i64 p_1.xPort), (.int .i64 p_1.xProto), (.int .i64 (min 1000000 t77))]))]) (cells := [(.int .i64 p_1.xFrom), (.int .i64 p_1.xTo), (.int .i64 p_1.xPort), (.int .i64 p_1.xProto), (.int .i64 (min 1000000 t77))]) ([(GFlow.mk p_1 (min 1000000 t77))]) flelGFlow (by intro ρ h; simp only [List.map_toArray, List.map_cons, List.map_nil, h (.tmp 58) _ rfl]) rfl el53 zero110 rfl rfl rfl rfl rfl rfl ?_); intro v82
          refine stw (o_app 1 0 rfl rfl (src_flat flelGFlow reads_own) rfl rfl rfl el53 rfl zero110 rfl rfl ?_); intro v84
          refine o_as st rfl rfl ?_
          refine o_as st rfl rfl ?_
          refine c_nil ?_
          refine l_then ?_
          refine c_ret ?_
          exact l_end2 Tryd.results75 ((r74 ++ ([(GFlow.mk p_1 (min 1000000 t77))])), true) v84 (rv_t rfl) (rv_t rfl) rfl (fun w m => NewCh.ofB m [1] rfl)

set_option maxRecDepth 100000 in
set_option maxHeartbeats 8000000 in
theorem w_spec_PassPacket {w0 : World} {F : Nat → Prop} {v1 : Value} {v3 : Value} {s_0 : GRuleset} {list_1 : (List GFlow)} {p_2 : GPacket} {now_3 : Int} {life_4 : Int} {κ : ((List GFlow) × Bool) → Prop} (hF : ∀ b, F b → b < w0.heap.size ∧ ¬ feet [] b) (hv1 : Sl (elSl elGRule) F w0 v1 s_0.xChains) (hv3 : Sl elGFlow F w0 v3 list_1) (h : L_spec_PassPacket s_0 list_1 p_2 now_3 life_4 κ) :
    Calls Tryd.prog 30 #[(.agg #[v1, (.bool s_0.xAccept)]), v3, (.agg #[(.int .i64 p_2.xFrom), (.int .i64 p_2.xTo), (.int .i64 p_2.xPort), (.int .i64 p_2.xProto)]), (.int .i64 now_3), (.int .i64 life_4)] w0 (Ret [] F w0 κ (fun (r : ((List GFlow) × Bool)) (u : Value) => .tuple #[u, (.bool r.2)]) (fun (r : ((List GFlow) × Bool)) (u : Value) => [ownCh elGFlow 110 u r.1])) := by
  refine enterS (args := [(.agg #[v1, (.bool s_0.xAccept)]), v3, (.agg #[(.int .i64 p_2.xFrom), (.int .i64 p_2.xTo), (.int .i64 p_2.xPort), (.int .i64 p_2.xProto)]), (.int .i64 now_3), (.int .i64 life_4)]) [] hF (Given.nil _ _) Tryd.func30 rfl Tryd.ntmps30 rfl h ?_
  clear h hF
  refine c_seq ?_
  refine c_region ?_
  obtain ⟨a5, l6, q7, hs_⟩ := sl_val hv1; subst hs_
  refine stw (o_box rfl rfl [(.slice a5 l6 q7), (.bool s_0.xAccept)] rfl ?_); intro b8
  refine stw (o_box rfl rfl [(.int .i64 p_2.xFrom), (.int .i64 p_2.xTo), (.int .i64 p_2.xPort), (.int .i64 p_2.xProto)] rfl ?_); intro b10
  refine stw (o_asn elGFlow 110 rfl rfl ?_)
  refine o_as st rfl rfl ?_
  refine c_nil ?_
  refine l_then ?_
  refine c_seq ?_
  refine c_join (σ := Bool) (fun (t78 : Bool) (a : Act) (w : World) => Has 61 [(1, v3), (3, (.int .i64 now_3)), (4, (.int .i64 life_4)), (5, (.pointer (some ⟨b8, 0, none⟩))), (7, (.pointer (some ⟨b10, 0, none⟩))), (36, (.bool t78))] a ∧ Mem (gB F [] w0) (feet []) w0 [cellCh b10 [(.int .i64 p_2.xFrom), (.int .i64 p_2.xTo), (.int .i64 p_2.xPort), (.int .i64 p_2.xProto)] 40, cellCh b8 [(.slice a5 l6 q7), (.bool s_0.xAccept)] 25, snapCh w0 F] w) ?_ ?_
  · intro k79
    refine c_region ?_
    refine o_ldc st (v := (.agg #[(.slice a5 l6 q7), (.bool s_0.xAccept)])) 2 rfl rfl rfl ty25 rfl ?_
    refine stw (o_callP (vs := [(.agg #[(.slice a5 l6 q7), (.bool s_0.xAccept)])]) Tryd.call22 rfl rfl (by intro w m h; exact (w_spec_RulesetValid (F := allB [] w) (s_0 := s_0) allB_ok (m.rd0 3 rfl (reads_snap hv1)) h).mono (fun _ _ k => ret_free (fun r u => fr_nil) k)) ?_); rintro r13 _
    refine o_not st rfl rfl ?_
    refine o_mv st rfl rfl ?_
    refine st_sp (dj := 17) rfl ?_ ?_
    · refine st_s rfl rfl rfl rfl ?_
      refine st_s rfl rfl rfl rfl ?_
      refine st_s rfl rfl rfl rfl ?_
      refine o_pickT st rfl rfl rfl ?_
      refine o_mv st rfl rfl ?_
      refine st_s rfl rfl rfl rfl ?_
      refine st_s rfl rfl rfl rfl ?_
      refine st_s rfl rfl rfl rfl ?_
      refine o_pickT st rfl rfl rfl ?_
      refine o_mv st rfl rfl ?_
      refine st_s rfl rfl rfl rfl ?_
      refine st_s rfl rfl rfl rfl ?_
      refine st_s rfl rfl rfl rfl ?_
      refine o_pickT st rfl rfl rfl ?_
      refine o_mv st rfl rfl ?_
      refine st_s rfl rfl rfl rfl ?_
      refine st_s rfl rfl rfl rfl ?_
      refine st_s rfl rfl rfl rfl ?_
      refine o_pickT st rfl rfl rfl ?_
      refine c_nil ?_
      exact l_join true (fun a w hE hm => ⟨hE.sub ⟨rfl, rfl, rfl, rfl, rfl, rfl, trivial⟩, (hm.pick [1, 2, 3] rfl)⟩)
    · refine o_mv (st_g rfl rfl) rfl rfl ?_
      refine st_gw rfl rfl (o_callP (vs := [v3]) Tryd.call32 rfl rfl (by intro w m h; exact (w_spec_FlowsValid (F := allB [] w) (list_0 := list_1) allB_ok (m.rd0 3 rfl (reads_snap hv3)) h).mono (fun _ _ k => ret_free (fun r u => fr_nil) k)) ?_); rintro r14 _
      refine o_not (st_g rfl rfl) rfl rfl ?_
      refine o_pickF st rfl rfl rfl ?_
      refine o_mv st rfl rfl ?_
      refine st_sp (dj := 22) rfl ?_ ?_
      · refine st_s rfl rfl rfl rfl ?_
        refine st_s rfl rfl rfl rfl ?_
        refine st_s rfl rfl rfl rfl ?_
        refine o_pickT st rfl rfl rfl ?_
        refine o_mv st rfl rfl ?_
        refine st_s rfl rfl rfl rfl ?_
        refine st_s rfl rfl rfl rfl ?_
        refine st_s rfl rfl rfl rfl ?_
        refine o_pickT st rfl rfl rfl ?_
        refine o_mv st rfl rfl ?_
        refine st_s rfl rfl rfl rfl ?_
        refine st_s rfl rfl rfl rfl ?_
        refine st_s rfl rfl rfl rfl ?_
        refine o_pickT st rfl rfl rfl ?_
        refine c_nil ?_
        exact l_join true (fun a w hE hm => ⟨hE.sub ⟨rfl, rfl, rfl, rfl, rfl, rfl, trivial⟩, (hm.pick [1, 2, 3] rfl)⟩)
      · refine o_ldc (st_g rfl rfl) (v := (.agg #[(.int .i64 p_2.xFrom), (.int .i64 p_2.xTo), (.int .i64 p_2.xPort), (.int .i64 p_2.xProto)])) 1 rfl rfl rfl ty40 rfl ?_
        refine st_gw rfl rfl (o_callP (vs := [(.agg #[(.int .i64 p_2.xFrom), (.int .i64 p_2.xTo), (.int .i64 p_2.xPort), (.int .i64 p_2.xProto)])]) Tryd.call23 rfl rfl (by intro w m h; exact (w_spec_PacketValid (F := allB [] w) (p_0 := p_2) allB_ok h).mono (fun _ _ k => ret_free (fun r u => fr_nil) k)) ?_); rintro r15 _
        refine o_not (st_g rfl rfl) rfl rfl ?_
        refine o_pickF st rfl rfl rfl ?_
        refine o_mv st rfl rfl ?_
        refine st_sp (dj := 27) rfl ?_ ?_
        · refine st_s rfl rfl rfl rfl ?_
          refine st_s rfl rfl rfl rfl ?_
          refine st_s rfl rfl rfl rfl ?_
          refine o_pickT st rfl rfl rfl ?_
          refine o_mv st rfl rfl ?_
          refine st_s rfl rfl rfl rfl ?_
          refine st_s rfl rfl rfl rfl ?_
          refine st_s rfl rfl rfl rfl ?_
          refine o_pickT st rfl rfl rfl ?_
          refine c_nil ?_
          exact l_join true (fun a w hE hm => ⟨hE.sub ⟨rfl, rfl, rfl, rfl, rfl, rfl, trivial⟩, (hm.pick [1, 2, 3] rfl)⟩)
        · refine o_mv (st_g rfl rfl) rfl rfl ?_
          refine st_gw rfl rfl (o_callP (vs := [(.int .i64 now_3), (.int .i64 0), (.int .i64 1000000)]) Tryd.call58 rfl rfl (by intro w m h; exact (w_spec_l1In (F := allB [] w) (n_0 := now_3) (lo_1 := 0) (hi_2 := 1000000) allB_ok h).mono (fun _ _ k => ret_free (fun r u => fr_nil) k)) ?_); rintro r16 _
          refine o_not (st_g rfl rfl) rfl rfl ?_
          refine o_pickF st rfl rfl rfl ?_
          refine o_mv st rfl rfl ?_
          refine st_sp (dj := 32) rfl ?_ ?_
          · refine st_s rfl rfl rfl rfl ?_
            refine st_s rfl rfl rfl rfl ?_
            refine st_s rfl rfl rfl rfl ?_
            refine o_pickT st rfl rfl rfl ?_
            refine c_nil ?_
            exact l_join true (fun a w hE hm => ⟨hE.sub ⟨rfl, rfl, rfl, rfl, rfl, rfl, trivial⟩, (hm.pick [1, 2, 3] rfl)⟩)
          · refine o_mv (st_g rfl rfl) rfl rfl ?_
            refine st_gw rfl rfl (o_callP (vs := [(.int .i64 life_4), (.int .i64 0), (.int .i64 1000)]) Tryd.call58 rfl rfl (by intro w m h; exact (w_spec_l1In (F := allB [] w) (n_0 := life_4) (lo_1 := 0) (hi_2 := 1000) allB_ok h).mono (fun _ _ k => ret_free (fun r u => fr_nil) k)) ?_); rintro r17 _
            refine o_not (st_g rfl rfl) rfl rfl ?_
            refine o_pickF st rfl rfl rfl ?_
            refine c_nil ?_
            exact l_join (!r17) (fun a w hE hm => ⟨hE.sub ⟨rfl, rfl, rfl, rfl, rfl, rfl, trivial⟩, (hm.pick [1, 2, 3] rfl)⟩)
  · rintro t78 a w ⟨hE, hm⟩ h
    refine nx_of hE hm h ?_
    clear hE hm h
    refine c_cond rfl ?_ ?_
    · refine c_seq ?_
      refine c_region ?_
      refine stw (o_bsl (enc := encGFlow) (qs := []) (cells := []) ([] : (List GFlow)) flelGFlow (by intro ρ h; simp only [List.map_toArray, List.map_cons, List.map_nil]) rfl el53 zero110 rfl rfl rfl rfl rfl rfl ?_); intro v80
      refine o_as st rfl rfl ?_
      refine o_as st rfl rfl ?_
      refine c_nil ?_
      refine l_then ?_
      refine c_ret ?_
      refine l_ret ?_
      exact l_end2 Tryd.results30 ([], false) v80 (rv_t rfl) (rv_t rfl) rfl (fun w m => NewCh.ofB m [0] rfl)
    · refine c_skip ?_
      refine l_then ?_
      refine c_seq ?_
      refine c_join (σ := Bool) (fun (t144 : Bool) (a : Act) (w : World) => Has 61 [(1, v3), (3, (.int .i64 now_3)), (4, (.int .i64 life_4)), (7, (.pointer (some ⟨b10, 0, none⟩))), (48, (.bool t144))] a ∧ Mem (gB F [] w0) (feet []) w0 [cellCh b10 [(.int .i64 p_2.xFrom), (.int .i64 p_2.xTo), (.int .i64 p_2.xPort), (.int .i64 p_2.xProto)] 40, snapCh w0 F] w) ?_ ?_
      · intro k145
        refine c_region ?_
        refine o_mv st rfl rfl ?_
        refine o_ldc st (v := (.agg #[(.int .i64 p_2.xFrom), (.int .i64 p_2.xTo), (.int .i64 p_2.xPort), (.int .i64 p_2.xProto)])) 0 rfl rfl rfl ty40 rfl ?_
        refine o_mv st rfl rfl ?_
        refine stw (o_callP (vs := [v3, (.agg #[(.int .i64 p_2.xFrom), (.int .i64 p_2.xTo), (.int .i64 p_2.xPort), (.int .i64 p_2.xProto)]), (.int .i64 now_3)]) Tryd.call73 rfl rfl (by intro w m h; exact (w_spec_KnownFlow (F := allB [] w) (list_0 := list_1) (p_1 := p_2) (now_2 := now_3) allB_ok (m.rd0 2 rfl (reads_snap hv3)) h).mono (fun _ _ k => ret_free (fun r u => fr_nil) k)) ?_); rintro r82 _
        refine o_lss st rfl rfl rfl ?_
        refine o_mv st rfl rfl ?_
        refine st_sp (dj := 43) rfl ?_ ?_
        · refine o_ldc (st_g rfl rfl) (v := (.agg #[(.slice a5 l6 q7), (.bool s_0.xAccept)])) 1 rfl rfl rfl ty25 rfl ?_
          refine o_ldc (st_g rfl rfl) (v := (.agg #[(.int .i64 p_2.xFrom), (.int .i64 p_2.xTo), (.int .i64 p_2.xPort), (.int .i64 p_2.xProto)])) 0 rfl rfl rfl ty40 rfl ?_
          refine st_gw rfl rfl (o_callP (vs := [(.agg #[(.slice a5 l6 q7), (.bool s_0.xAccept)]), (.agg #[(.int .i64 p_2.xFrom), (.int .i64 p_2.xTo), (.int .i64 p_2.xPort), (.int .i64 p_2.xProto)])]) Tryd.call55 rfl rfl (by intro w m h; exact (w_spec_Judge (F := allB [] w) (s_0 := s_0) (p_1 := p_2) allB_ok (m.rd0 2 rfl (reads_snap hv1)) h).mono (fun _ _ k => ret_free (fun r u => fr_nil) k)) ?_); rintro r83 _
          refine o_not (st_g rfl rfl) rfl rfl ?_
          refine o_pickT st rfl rfl rfl ?_
          refine c_nil ?_
          exact l_join (!r83) (fun a w hE hm => ⟨hE.sub ⟨rfl, rfl, rfl, rfl, rfl, trivial⟩, (hm.pick [0, 2] rfl)⟩)
        · refine st_s rfl rfl rfl rfl ?_
          refine st_s rfl rfl rfl rfl ?_
          refine st_s rfl rfl rfl rfl ?_
          refine st_s rfl rfl rfl rfl ?_
          refine o_pickF st rfl rfl rfl ?_
          refine c_nil ?_
          exact l_join false (fun a w hE hm => ⟨hE.sub ⟨rfl, rfl, rfl, rfl, rfl, trivial⟩, (hm.pick [0, 2] rfl)⟩)
      · rintro t144 a w ⟨hE, hm⟩ h
        refine nx_of hE hm h ?_
        clear hE hm h
        refine c_cond rfl ?_ ?_
        · refine c_seq ?_
          refine c_region ?_
          refine o_mv st rfl rfl ?_
          refine o_mv st rfl rfl ?_
          refine stw (o_callP (vs := [v3, (.int .i64 now_3)]) Tryd.call74 rfl rfl (by intro w m h; exact (w_spec_ExpireFlows (F := allB [] w) (list_0 := list_1) (now_1 := now_3) allB_ok (m.rd0 1 rfl (reads_snap hv3)) h).mono (fun _ _ k => ret_free (fun r u => (fr_cons (free_own flelGFlow) fr_nil)) k)) ?_); rintro r146 v147
          refine o_as st rfl rfl ?_
          refine o_as st rfl rfl ?_
          refine c_nil ?_
          refine l_then ?_
          refine c_ret ?_
          refine l_ret ?_
          exact l_end2 Tryd.results30 (r146, false) v147 (rv_t rfl) (rv_t rfl) rfl (fun w m => NewCh.ofB m [0] rfl)
        · refine c_skip ?_
          refine l_then ?_
          refine c_seq ?_
          refine c_region ?_
          refine o_mv st rfl rfl ?_
          refine o_ldc st (v := (.agg #[(.int .i64 p_2.xFrom), (.int .i64 p_2.xTo), (.int .i64 p_2.xPort), (.int .i64 p_2.xProto)])) 0 rfl rfl rfl ty40 rfl ?_
          refine o_mv st rfl rfl ?_
          refine o_mv st rfl rfl ?_
          refine stw (o_callP (vs := [v3, (.agg #[(.int .i64 p_2.xFrom), (.int .i64 p_2.xTo), (.int .i64 p_2.xPort), (.int .i64 p_2.xProto)]), (.int .i64 now_3), (.int .i64 life_4)]) Tryd.call75 rfl rfl (by intro w m h; exact (w_spec_TrackFlow (F := allB [] w) (list_0 := list_1) (p_1 := p_2) (now_2 := now_3) (life_3 := life_4) allB_ok (m.rd0 1 rfl (reads_snap hv3)) h).mono (fun _ _ k => ret_free (fun r u => (fr_cons (free_own flelGFlow) fr_nil)) k)) ?_); rintro ⟨r149, r152⟩ v150
          refine o_mv st rfl rfl ?_
          refine o_ext st (vs := [v150, (.bool r152)]) rfl rfl rfl ?_
          refine o_ext st (vs := [v150, (.bool r152)]) rfl rfl rfl ?_
          refine o_as st rfl rfl ?_
          refine o_as st rfl rfl ?_
          refine c_nil ?_
          refine l_then ?_
          refine c_seq ?_
          refine c_region ?_
          refine o_mv st rfl rfl ?_
          refine o_as st rfl rfl ?_
          refine o_as st rfl rfl ?_
          refine c_nil ?_
          refine l_then ?_
          refine c_ret ?_
          exact l_end2 Tryd.results30 (r149, true) v150 (rv_t rfl) (rv_t rfl) rfl (fun w m => NewCh.ofB m [0] rfl)

set_option maxRecDepth 100000 in
set_option maxHeartbeats 8000000 in
theorem w_impl_lifeValid {w0 : World} {F : Nat → Prop} {life_0 : Int} {κ : Bool → Prop} (hF : ∀ b, F b → b < w0.heap.size ∧ ¬ feet [] b) (h : L_impl_lifeValid life_0 κ) :
    Calls Tryd.prog 62 #[(.int .i64 life_0)] w0 (Ret [] F w0 κ (fun (r : Bool) (u : Unit) => (.bool r)) (fun (r : Bool) (u : Unit) => [])) := by
  refine enter0 (args := [(.int .i64 life_0)]) [] hF (Given.nil _ _) Tryd.func62 rfl Tryd.ntmps62 rfl h ?_
  clear h hF
  refine c_seq ?_
  refine c_region ?_
  refine o_as st rfl rfl ?_
  refine c_nil ?_
  refine l_then ?_
  refine c_join (σ := Bool) (fun (t61 : Bool) (a : Act) (w : World) => Has 9 [(2, (.bool t61))] a ∧ Mem (gB F [] w0) (feet []) w0 [] w) ?_ ?_
  · intro k62
    refine c_region ?_
    refine o_mv st rfl rfl ?_
    refine o_geq st rfl rfl rfl ?_
    refine o_mv st rfl rfl ?_
    refine st_sp (dj := 5) rfl ?_ ?_
    · refine o_mv (st_g rfl rfl) rfl rfl ?_
      refine o_leq (st_g rfl rfl) rfl rfl rfl ?_
      refine o_pickT st rfl rfl rfl ?_
      refine o_as st rfl rfl ?_
      refine c_nil ?_
      exact l_join (decide (life_0 ≤ 1000)) (fun a w hE hm => ⟨hE.sub ⟨rfl, trivial⟩, (hm.pick [] rfl)⟩)
    · refine st_s rfl rfl rfl rfl ?_
      refine st_s rfl rfl rfl rfl ?_
      refine o_pickF st rfl rfl rfl ?_
      refine o_as st rfl rfl ?_
      refine c_nil ?_
      exact l_join false (fun a w hE hm => ⟨hE.sub ⟨rfl, trivial⟩, (hm.pick [] rfl)⟩)
  · rintro t61 a w ⟨hE, hm⟩ h
    refine nx_of hE hm h ?_
    clear hE hm h
    refine c_ret ?_
    exact l_end1 Tryd.results62 t61 () (rv_t rfl) (fun _ _ => NewCh.nil _ _ _ _)

set_option maxRecDepth 100000 in
set_option maxHeartbeats 8000000 in
theorem w_impl_timeValid {w0 : World} {F : Nat → Prop} {now_0 : Int} {κ : Bool → Prop} (hF : ∀ b, F b → b < w0.heap.size ∧ ¬ feet [] b) (h : L_impl_timeValid now_0 κ) :
    Calls Tryd.prog 72 #[(.int .i64 now_0)] w0 (Ret [] F w0 κ (fun (r : Bool) (u : Unit) => (.bool r)) (fun (r : Bool) (u : Unit) => [])) := by
  refine enter0 (args := [(.int .i64 now_0)]) [] hF (Given.nil _ _) Tryd.func72 rfl Tryd.ntmps72 rfl h ?_
  clear h hF
  refine c_seq ?_
  refine c_region ?_
  refine o_as st rfl rfl ?_
  refine c_nil ?_
  refine l_then ?_
  refine c_join (σ := Bool) (fun (t61 : Bool) (a : Act) (w : World) => Has 9 [(2, (.bool t61))] a ∧ Mem (gB F [] w0) (feet []) w0 [] w) ?_ ?_
  · intro k62
    refine c_region ?_
    refine o_mv st rfl rfl ?_
    refine o_geq st rfl rfl rfl ?_
    refine o_mv st rfl rfl ?_
    refine st_sp (dj := 5) rfl ?_ ?_
    · refine o_mv (st_g rfl rfl) rfl rfl ?_
      refine o_leq (st_g rfl rfl) rfl rfl rfl ?_
      refine o_pickT st rfl rfl rfl ?_
      refine o_as st rfl rfl ?_
      refine c_nil ?_
      exact l_join (decide (now_0 ≤ 1000000)) (fun a w hE hm => ⟨hE.sub ⟨rfl, trivial⟩, (hm.pick [] rfl)⟩)
    · refine st_s rfl rfl rfl rfl ?_
      refine st_s rfl rfl rfl rfl ?_
      refine o_pickF st rfl rfl rfl ?_
      refine o_as st rfl rfl ?_
      refine c_nil ?_
      exact l_join false (fun a w hE hm => ⟨hE.sub ⟨rfl, trivial⟩, (hm.pick [] rfl)⟩)
  · rintro t61 a w ⟨hE, hm⟩ h
    refine nx_of hE hm h ?_
    clear hE hm h
    refine c_ret ?_
    exact l_end1 Tryd.results72 t61 () (rv_t rfl) (fun _ _ => NewCh.nil _ _ _ _)

set_option maxRecDepth 100000 in
set_option maxHeartbeats 8000000 in
theorem w_impl_Packet_reverse {w0 : World} {F : Nat → Prop} {p_0 : GPacket} {κ : GPacket → Prop} (hF : ∀ b, F b → b < w0.heap.size ∧ ¬ feet [] b) (h : L_impl_Packet_reverse p_0 κ) :
    Calls Tryd.prog 64 #[(.agg #[(.int .i64 p_0.xFrom), (.int .i64 p_0.xTo), (.int .i64 p_0.xPort), (.int .i64 p_0.xProto)])] w0 (Ret [] F w0 κ (fun (r : GPacket) (u : Unit) => (.agg #[(.int .i64 r.xFrom), (.int .i64 r.xTo), (.int .i64 r.xPort), (.int .i64 r.xProto)])) (fun (r : GPacket) (u : Unit) => [])) := by
  refine enter0 (args := [(.agg #[(.int .i64 p_0.xFrom), (.int .i64 p_0.xTo), (.int .i64 p_0.xPort), (.int .i64 p_0.xProto)])]) [] hF (Given.nil _ _) Tryd.func64 rfl Tryd.ntmps64 rfl h ?_
  clear h hF
  refine c_seq ?_
  refine c_region ?_
  refine stw (o_box rfl rfl [(.int .i64 p_0.xFrom), (.int .i64 p_0.xTo), (.int .i64 p_0.xPort), (.int .i64 p_0.xProto)] rfl ?_); intro b1
  refine stw (o_alloc rfl [(.int .i64 0), (.int .i64 0), (.int .i64 0), (.int .i64 0)] zero40 ?_); intro b3
  refine c_nil ?_
  refine l_then ?_
  refine c_seq ?_
  refine c_region ?_
  refine o_fad st rfl rfl fld40_1 rfl ?_
  refine o_ldc st (v := (.int .i64 p_0.xTo)) 1 rfl rfl rfl ty3 rfl ?_
  refine o_fad st rfl rfl fld40_0 rfl ?_
  refine o_ldc st (v := (.int .i64 p_0.xFrom)) 1 rfl rfl rfl ty3 rfl ?_
  refine o_fad st rfl rfl fld40_0 rfl ?_
  refine stw (o_stc (cs' := [(.int .i64 p_0.xTo), (.int .i64 p_0.xTo), (.int .i64 p_0.xPort), (.int .i64 p_0.xProto)]) 1 rfl rfl rfl ty3 rfl rfl rfl rfl ?_)
  refine o_fad st rfl rfl fld40_1 rfl ?_
  refine stw (o_stc (cs' := [(.int .i64 p_0.xTo), (.int .i64 p_0.xFrom), (.int .i64 p_0.xPort), (.int .i64 p_0.xProto)]) 1 rfl rfl rfl ty3 rfl rfl rfl rfl ?_)
  refine c_nil ?_
  refine l_then ?_
  refine c_seq ?_
  refine c_region ?_
  refine o_ldc st (v := (.agg #[(.int .i64 p_0.xTo), (.int .i64 p_0.xFrom), (.int .i64 p_0.xPort), (.int .i64 p_0.xProto)])) 1 rfl rfl rfl ty40 rfl ?_
  refine stw (o_stc (cs' := [(.int .i64 p_0.xTo), (.int .i64 p_0.xFrom), (.int .i64 p_0.xPort), (.int .i64 p_0.xProto)]) 0 rfl rfl rfl ty40 rfl rfl rfl rfl ?_)
  refine c_nil ?_
  refine l_then ?_
  refine c_ret ?_
  exact l_end1 Tryd.results64 (GPacket.mk p_0.xTo p_0.xFrom p_0.xPort p_0.xProto) () (rv_c 0 rfl rfl ty40 rfl) (fun _ _ => NewCh.nil _ _ _ _)

set_option maxRecDepth 100000 in
set_option maxHeartbeats 8000000 in
theorem w_impl_indexFlows {w0 : World} {F : Nat → Prop} {v1 : Value} {list_0 : (List GFlow)} {κ : ((List (GPacket × Int)) × Bool) → Prop} (hF : ∀ b, F b → b < w0.heap.size ∧ ¬ feet [] b) (hv1 : Sl elGFlow F w0 v1 list_0) (hgl0 : Sl elGFieldShape F w0 (.slice (some ⟨0, 0, none⟩) 4 4) gl_impl_fieldShapes) (h : L_impl_indexFlows list_0 κ) :
    Calls Tryd.prog 77 #[v1] w0 (Ret [] F w0 κ (fun (r : ((List (GPacket × Int)) × Bool)) (u : Value) => .tuple #[u, (.bool r.2)]) (fun (r : ((List (GPacket × Int)) × Bool)) (u : Value) => [mOwn encGPacket u r.1])) := by
  refine enterS (args := [v1]) [] hF (Given.nil _ _) Tryd.func77 rfl Tryd.ntmps77 rfl h ?_
  clear h hF
  refine c_seq ?_
  refine c_region ?_
  refine stw (o_asm encGPacket rfl rfl ?_)
  refine o_as st rfl rfl ?_
  refine c_nil ?_
  refine l_then ?_
  refine c_seq ?_
  refine c_seq ?_
  refine c_region ?_
  refine o_mv st rfl rfl ?_
  refine o_len st el53 1 rfl (reads_snap hv1) rfl rfl ?_
  refine o_gtr st rfl rfl rfl ?_
  refine c_nil ?_
  refine l_then ?_
  refine c_cond rfl ?_ ?_
  · refine c_seq ?_
    refine c_region ?_
    refine stw (o_asm encGPacket rfl rfl ?_)
    refine o_as st rfl rfl ?_
    refine c_nil ?_
    refine l_then ?_
    refine c_ret ?_
    refine l_ret ?_
    exact l_end2 Tryd.results77 ([], false) (.map none) (rv_t rfl) (rv_t rfl) rfl (fun w m => NewCh.ofB m [0] rfl)
  · refine c_skip ?_
    refine l_then ?_
    refine c_seq ?_
    refine c_region ?_
    refine stw (o_mkm encGPacket rfl ?_); intro b5
    refine o_as st rfl rfl ?_
    refine c_nil ?_
    refine l_then ?_
    refine c_seq ?_
    refine c_seq ?_
    refine c_region ?_
    refine o_mv st rfl rfl ?_
    refine o_len st el53 2 rfl (reads_snap hv1) rfl rfl ?_
    refine o_mv st rfl rfl ?_
    refine c_nil ?_
    refine l_then ?_
    refine c_block ?_
    refine c_loop (σ := ((List (GPacket × Int)) × Int)) (fun ((xs7, t9) : ((List (GPacket × Int)) × Int)) (a : Act) (w : World) => Has 49 [(4, (.map (some b5))), (13, v1), (14, (.int .i64 (list_0.length : Int))), (15, (.int .i64 t9))] a ∧ Mem (gB F [] w0) (feet []) w0 [mOwn encGPacket (.map (some b5)) xs7, snapCh w0 F] w) (fun a w hE hm => ⟨hE.sub ⟨rfl, rfl, rfl, rfl, trivial⟩, (hm.pick [0, 2] rfl)⟩) ?_
    rintro nx10 ⟨xs7, t9⟩ a w ⟨hE, hm⟩ h
    refine nx_of hE hm h ?_
    clear hE hm h
    refine c_seq ?_
    refine c_region ?_
    refine o_lss st rfl rfl rfl ?_
    refine c_nil ?_
    refine l_then ?_
    refine c_seq ?_
    refine c_cond rfl ?_ ?_
    · refine c_skip ?_
      refine l_then ?_
      refine c_seq ?_
      refine c_block ?_
      refine c_seq ?_
      refine c_region ?_
      refine o_mv st rfl rfl ?_
      refine o_idx st 1 rfl (reads_snap hv1) rfl rfl rfl el53 ?_; intro e11 h12
      refine o_lds st (enc := encGFlow) (u := (.agg #[(.int .i64 e11.xWho.xFrom), (.int .i64 e11.xWho.xTo), (.int .i64 e11.xWho.xPort), (.int .i64 e11.xWho.xProto), (.int .i64 e11.xUntil)])) 1 rfl (reads_snap hv1) flelGFlow rfl h12 rfl rfl ty110 rfl ?_
      refine stw (o_alloc rfl [(.int .i64 0), (.int .i64 0), (.int .i64 0), (.int .i64 0), (.int .i64 0)] zero110 ?_); intro b13
      refine o_as st rfl rfl ?_
      refine stw (o_stc (cs' := [(.int .i64 e11.xWho.xFrom), (.int .i64 e11.xWho.xTo), (.int .i64 e11.xWho.xPort), (.int .i64 e11.xWho.xProto), (.int .i64 e11.xUntil)]) 0 rfl rfl rfl ty110 rfl rfl rfl rfl ?_)
      refine c_nil ?_
      refine l_then ?_
      refine c_seq ?_
      refine c_join (σ := Bool) (fun (t77 : Bool) (a : Act) (w : World) => Has 49 [(4, (.map (some b5))), (13, v1), (14, (.int .i64 (list_0.length : Int))), (15, (.int .i64 t9)), (6, (.pointer (some ⟨b13, 0, none⟩))), (5, (.int .i64 t9)), (29, (.bool t77))] a ∧ Mem (gB F [] w0) (feet []) w0 [cellCh b13 [(.int .i64 e11.xWho.xFrom), (.int .i64 e11.xWho.xTo), (.int .i64 e11.xWho.xPort), (.int .i64 e11.xWho.xProto), (.int .i64 e11.xUntil)] 110, mOwn encGPacket (.map (some b5)) xs7, snapCh w0 F] w) ?_ ?_
      · intro k78
        refine c_region ?_
        refine o_fad st rfl rfl fld110_0 rfl ?_
        refine o_ldc st (v := (.agg #[(.int .i64 e11.xWho.xFrom), (.int .i64 e11.xWho.xTo), (.int .i64 e11.xWho.xPort), (.int .i64 e11.xWho.xProto)])) 0 rfl rfl rfl ty40 rfl ?_
        refine stw (o_callP (vs := [(.agg #[(.int .i64 e11.xWho.xFrom), (.int .i64 e11.xWho.xTo), (.int .i64 e11.xWho.xPort), (.int .i64 e11.xWho.xProto)])]) Tryd.call61 rfl rfl (by intro w m h; exact (w_impl_PacketValid (F := allB [] w) (p_0 := e11.xWho) allB_ok (m.rd0 2 rfl (reads_snap hgl0)) h).mono (fun _ _ k => ret_free (fun r u => fr_nil) k)) ?_); rintro r15 _
        refine o_not st rfl rfl ?_
        refine o_mv st rfl rfl ?_
        refine st_sp (dj := 24) rfl ?_ ?_
        · refine st_s rfl rfl rfl rfl ?_
          refine st_s rfl rfl rfl rfl ?_
          refine st_s rfl rfl rfl rfl ?_
          refine st_s rfl rfl rfl rfl ?_
          refine o_pickT st rfl rfl rfl ?_
          refine c_nil ?_
          exact l_join true (fun a w hE hm => ⟨hE.sub ⟨rfl, rfl, rfl, rfl, rfl, rfl, rfl, trivial⟩, (hm.pick [0, 1, 2] rfl)⟩)
        · refine o_fad (st_g rfl rfl) rfl rfl fld110_1 rfl ?_
          refine o_ldc (st_g rfl rfl) (v := (.int .i64 e11.xUntil)) 0 rfl rfl rfl ty3 rfl ?_
          refine st_gw rfl rfl (o_callP (vs := [(.int .i64 e11.xUntil)]) Tryd.call72 rfl rfl (by intro w m h; exact (w_impl_timeValid (F := allB [] w) (now_0 := e11.xUntil) allB_ok h).mono (fun _ _ k => ret_free (fun r u => fr_nil) k)) ?_); rintro r16 _
          refine o_not (st_g rfl rfl) rfl rfl ?_
          refine o_pickF st rfl rfl rfl ?_
          refine c_nil ?_
          exact l_join (!r16) (fun a w hE hm => ⟨hE.sub ⟨rfl, rfl, rfl, rfl, rfl, rfl, rfl, trivial⟩, (hm.pick [0, 1, 2] rfl)⟩)
      · rintro t77 a w ⟨hE, hm⟩ h
        refine nx_of hE hm h ?_
        clear hE hm h
        refine c_cond rfl ?_ ?_
        · refine c_seq ?_
          refine c_region ?_
          refine stw (o_asm encGPacket rfl rfl ?_)
          refine o_as st rfl rfl ?_
          refine c_nil ?_
          refine l_then ?_
          refine c_ret ?_
          refine l_ret ?_
          refine b_ret ?_
          refine l_ret ?_
          refine l_ret ?_
          refine b_ret ?_
          refine l_ret ?_
          exact l_end2 Tryd.results77 ([], false) (.map none) (rv_t rfl) (rv_t rfl) rfl (fun w m => NewCh.ofB m [0] rfl)
        · refine c_skip ?_
          refine l_then ?_
          refine c_seq ?_
          refine c_seq ?_
          refine c_region ?_
          refine o_mv st rfl rfl ?_
          refine o_fad st rfl rfl fld110_0 rfl ?_
          refine o_ldc st (v := (.agg #[(.int .i64 e11.xWho.xFrom), (.int .i64 e11.xWho.xTo), (.int .i64 e11.xWho.xPort), (.int .i64 e11.xWho.xProto)])) 0 rfl rfl rfl ty40 rfl ?_
          refine o_lkp st (k0 := e11.xWho) 1 rfl mreads_own rfl rfl rfl mapty113 ?_
          refine o_mv st rfl rfl ?_
          refine o_ext st (vs := [(.int .i64 ((mget e11.xWho xs7).1)), (.bool ((mget e11.xWho xs7).2))]) rfl rfl rfl ?_
          refine o_ext st (vs := [(.int .i64 ((mget e11.xWho xs7).1)), (.bool ((mget e11.xWho xs7).2))]) rfl rfl rfl ?_
          refine o_as st rfl rfl ?_
          refine o_as st rfl rfl ?_
          refine c_nil ?_
          refine l_then ?_
          refine c_seq ?_
          refine c_region ?_
          refine o_mv st rfl rfl ?_
          refine c_nil ?_
          refine l_then ?_
          refine c_cond rfl ?_ ?_
          · refine c_seq ?_
            refine c_region ?_
            refine stw (o_asm encGPacket rfl rfl ?_)
            refine o_as st rfl rfl ?_
            refine c_nil ?_
            refine l_then ?_
            refine c_ret ?_
            refine l_ret ?_
            refine b_ret ?_
            refine l_ret ?_
            refine l_ret ?_
            refine b_ret ?_
            refine l_ret ?_
            exact l_end2 Tryd.results77 ([], false) (.map none) (rv_t rfl) (rv_t rfl) rfl (fun w m => NewCh.ofB m [0] rfl)
          · refine c_skip ?_
            refine l_then ?_
            refine c_seq ?_
            refine c_region ?_
            refine o_mv st rfl rfl ?_
            refine o_fad st rfl rfl fld110_0 rfl ?_
            refine o_ldc st (v := (.agg #[(.int .i64 e11.xWho.xFrom), (.int .i64 e11.xWho.xTo), (.int .i64 e11.xWho.xPort), (.int .i64 e11.xWho.xProto)])) 0 rfl rfl rfl ty40 rfl ?_
            refine o_mv st rfl rfl ?_
            refine stw (o_mput (k0 := e11.xWho) 1 rfl rfl rfl rfl mapty113 ?_)
            refine c_nil ?_
            refine l_then ?_
            refine c_region ?_
            refine o_mv st rfl rfl ?_
            refine o_fad st rfl rfl fld110_0 rfl ?_
            refine o_ldc st (v := (.agg #[(.int .i64 e11.xWho.xFrom), (.int .i64 e11.xWho.xTo), (.int .i64 e11.xWho.xPort), (.int .i64 e11.xWho.xProto)])) 0 rfl rfl rfl ty40 rfl ?_
            refine stw (o_callP (vs := [(.agg #[(.int .i64 e11.xWho.xFrom), (.int .i64 e11.xWho.xTo), (.int .i64 e11.xWho.xPort), (.int .i64 e11.xWho.xProto)])]) Tryd.call64 rfl rfl (by intro w m h; exact (w_impl_Packet_reverse (F := allB [] w) (p_0 := e11.xWho) allB_ok h).mono (fun _ _ k => ret_free (fun r u => fr_nil) k)) ?_); rintro r82 _
            refine o_mv st rfl rfl ?_
            refine stw (o_mput (k0 := r82) 1 rfl rfl rfl rfl mapty113 ?_)
            refine c_nil ?_
            refine b_norm ?_
            refine l_then ?_
            refine c_region ?_
            refine o_add st rfl rfl rfl ?_; intro t84
            refine o_mv st rfl rfl ?_
            refine c_nil ?_
            exact l_join ((mput r82 t9 (mput e11.xWho t9 xs7)), t84) (fun a w hE hm => ⟨hE.sub ⟨rfl, rfl, rfl, rfl, trivial⟩, (hm.pick [1, 2] rfl)⟩)
    · refine c_exit ?_
      refine l_exit ?_
      refine l_exit ?_
      refine b_exit ?_
      refine l_then ?_
      refine c_seq ?_
      refine c_region ?_
      refine o_mv st rfl rfl ?_
      refine o_as st rfl rfl ?_
      refine o_as st rfl rfl ?_
      refine c_nil ?_
      refine l_then ?_
      refine c_ret ?_
      exact l_end2 Tryd.results77 (xs7, true) (.map (some b5)) (rv_t rfl) (rv_t rfl) rfl (fun w m => NewCh.ofB m [0] rfl)

set_option maxRecDepth 100000 in
set_option maxHeartbeats 8000000 in
theorem w_impl_flowIndex_known {w0 : World} {F : Nat → Prop} {v1 : Value} {v3 : Value} {x_0 : (List (GPacket × Int))} {list_1 : (List GFlow)} {p_2 : GPacket} {now_3 : Int} {κ : Int → Prop} (hF : ∀ b, F b → b < w0.heap.size ∧ ¬ feet [] b) (hv1 : Mp encGPacket F w0 v1 x_0) (hv3 : Sl elGFlow F w0 v3 list_1) (h : L_impl_flowIndex_known x_0 list_1 p_2 now_3 κ) :
    Calls Tryd.prog 78 #[v1, v3, (.agg #[(.int .i64 p_2.xFrom), (.int .i64 p_2.xTo), (.int .i64 p_2.xPort), (.int .i64 p_2.xProto)]), (.int .i64 now_3)] w0 (Ret [] F w0 κ (fun (r : Int) (u : Unit) => (.int .i64 r)) (fun (r : Int) (u : Unit) => [])) := by
  refine enterS (args := [v1, v3, (.agg #[(.int .i64 p_2.xFrom), (.int .i64 p_2.xTo), (.int .i64 p_2.xPort), (.int .i64 p_2.xProto)]), (.int .i64 now_3)]) [] hF (Given.nil _ _) Tryd.func78 rfl Tryd.ntmps78 rfl h ?_
  clear h hF
  refine c_seq ?_
  refine c_region ?_
  refine stw (o_box rfl rfl [(.int .i64 p_2.xFrom), (.int .i64 p_2.xTo), (.int .i64 p_2.xPort), (.int .i64 p_2.xProto)] rfl ?_); intro b5
  refine o_as st rfl rfl ?_
  refine c_nil ?_
  refine l_then ?_
  refine c_seq ?_
  refine c_region ?_
  refine o_mv st rfl rfl ?_
  refine o_ldc st (v := (.agg #[(.int .i64 p_2.xFrom), (.int .i64 p_2.xTo), (.int .i64 p_2.xPort), (.int .i64 p_2.xProto)])) 0 rfl rfl rfl ty40 rfl ?_
  refine o_lkp st (k0 := p_2) 1 rfl (mreads_snap hv1) rfl rfl rfl mapty113 ?_
  refine o_mv st rfl rfl ?_
  refine o_ext st (vs := [(.int .i64 ((mget p_2 x_0).1)), (.bool ((mget p_2 x_0).2))]) rfl rfl rfl ?_
  refine o_ext st (vs := [(.int .i64 ((mget p_2 x_0).1)), (.bool ((mget p_2 x_0).2))]) rfl rfl rfl ?_
  refine o_as st rfl rfl ?_
  refine o_as st rfl rfl ?_
  refine c_nil ?_
  refine l_then ?_
  refine c_seq ?_
  refine c_join (σ := Bool) (fun (t69 : Bool) (a : Act) (w : World) => Has 29 [(9, (.int .i64 ((mget p_2 x_0).1))), (27, (.bool t69))] a ∧ Mem (gB F [] w0) (feet []) w0 [] w) ?_ ?_
  · intro k70
    refine c_region ?_
    refine o_mv st rfl rfl ?_
    refine o_not st rfl rfl ?_
    refine o_mv st rfl rfl ?_
    refine st_sp (dj := 19) rfl ?_ ?_
    · refine st_s rfl rfl rfl rfl ?_
      refine st_s rfl rfl rfl rfl ?_
      refine st_s rfl rfl rfl rfl ?_
      refine st_s rfl rfl rfl rfl ?_
      refine st_s rfl rfl rfl rfl ?_
      refine st_s rfl rfl rfl rfl ?_
      refine st_s rfl rfl rfl rfl ?_
      refine o_pickT st rfl rfl rfl ?_
      refine c_nil ?_
      exact l_join true (fun a w hE hm => ⟨hE.sub ⟨rfl, rfl, trivial⟩, (hm.pick [] rfl)⟩)
    · refine o_mv (st_g rfl rfl) rfl rfl ?_
      refine o_mv (st_g rfl rfl) rfl rfl ?_
      refine o_idx (st_g rfl rfl) 1 rfl (reads_snap hv3) rfl rfl rfl el53 ?_; intro e7 h8
      refine o_fadS (st_g rfl rfl) 1 rfl (reads_snap hv3) h8 rfl rfl fld110_1 rfl ?_
      refine o_lds (st_g rfl rfl) (enc := encGFlow) (u := (.int .i64 e7.xUntil)) 1 rfl (reads_snap hv3) flelGFlow rfl h8 rfl rfl ty3 rfl ?_
      refine o_mv (st_g rfl rfl) rfl rfl ?_
      refine o_lss (st_g rfl rfl) rfl rfl rfl ?_
      refine o_pickF st rfl rfl rfl ?_
      refine c_nil ?_
      exact l_join (decide (e7.xUntil < now_3)) (fun a w hE hm => ⟨hE.sub ⟨rfl, rfl, trivial⟩, (hm.pick [] rfl)⟩)
  · rintro t69 a w ⟨hE, hm⟩ h
    refine nx_of hE hm h ?_
    clear hE hm h
    refine c_cond rfl ?_ ?_
    · refine c_seq ?_
      refine c_region ?_
      refine o_as st rfl rfl ?_
      refine c_nil ?_
      refine l_then ?_
      refine c_ret ?_
      refine l_ret ?_
      exact l_end1 Tryd.results78 (-1) () (rv_t rfl) (fun _ _ => NewCh.nil _ _ _ _)
    · refine c_skip ?_
      refine l_then ?_
      refine c_seq ?_
      refine c_region ?_
      refine o_mv st rfl rfl ?_
      refine o_as st rfl rfl ?_
      refine c_nil ?_
      refine l_then ?_
      refine c_ret ?_
      exact l_end1 Tryd.results78 ((mget p_2 x_0).1) () (rv_t rfl) (fun _ _ => NewCh.nil _ _ _ _)

set_option maxRecDepth 100000 in
set_option maxHeartbeats 8000000 in
theorem w_impl_KnownFlow {w0 : World} {F : Nat → Prop} {v1 : Value} {list_0 : (List GFlow)} {p_1 : GPacket} {now_2 : Int} {κ : Int → Prop} (hF : ∀ b, F b → b < w0.heap.size ∧ ¬ feet [] b) (hv1 : Sl elGFlow F w0 v1 list_0) (hgl0 : Sl elGFieldShape F w0 (.slice (some ⟨0, 0, none⟩) 4 4) gl_impl_fieldShapes) (h : L_impl_KnownFlow list_0 p_1 now_2 κ) :
    Calls Tryd.prog 33 #[v1, (.agg #[(.int .i64 p_1.xFrom), (.int .i64 p_1.xTo), (.int .i64 p_1.xPort), (.int .i64 p_1.xProto)]), (.int .i64 now_2)] w0 (Ret [] F w0 κ (fun (r : Int) (u : Unit) => (.int .i64 r)) (fun (r : Int) (u : Unit) => [])) := by
  refine enterS (args := [v1, (.agg #[(.int .i64 p_1.xFrom), (.int .i64 p_1.xTo), (.int .i64 p_1.xPort), (.int .i64 p_1.xProto)]), (.int .i64 now_2)]) [] hF (Given.nil _ _) Tryd.func33 rfl Tryd.ntmps33 rfl h ?_
  clear h hF
  refine c_seq ?_
  refine c_region ?_
  refine stw (o_box rfl rfl [(.int .i64 p_1.xFrom), (.int .i64 p_1.xTo), (.int .i64 p_1.xPort), (.int .i64 p_1.xProto)] rfl ?_); intro b3
  refine o_as st rfl rfl ?_
  refine c_nil ?_
  refine l_then ?_
  refine c_seq ?_
  refine c_region ?_
  refine o_mv st rfl rfl ?_
  refine stw (o_callP (vs := [v1]) Tryd.call77 rfl rfl (by intro w m h; exact (w_impl_indexFlows (F := allB [] w) (list_0 := list_0) allB_ok (m.rd0 1 rfl (reads_snap hv1)) (m.rd0 1 rfl (reads_snap hgl0)) h).mono (fun _ _ k => ret_free (fun r u => (fr_cons free_mown fr_nil)) k)) ?_); rintro ⟨r5, r8⟩ v6
  refine o_mv st rfl rfl ?_
  refine o_ext st (vs := [v6, (.bool r8)]) rfl rfl rfl ?_
  refine o_ext st (vs := [v6, (.bool r8)]) rfl rfl rfl ?_
  refine o_as st rfl rfl ?_
  refine o_as st rfl rfl ?_
  refine c_nil ?_
  refine l_then ?_
  refine c_seq ?_
  refine c_join (σ := Bool) (fun (t71 : Bool) (a : Act) (w : World) => Has 31 [(0, v1), (2, (.int .i64 now_2)), (4, (.pointer (some ⟨b3, 0, none⟩))), (7, v6), (25, (.bool t71))] a ∧ Mem (gB F [] w0) (feet []) w0 [mOwn encGPacket v6 r5, cellCh b3 [(.int .i64 p_1.xFrom), (.int .i64 p_1.xTo), (.int .i64 p_1.xPort), (.int .i64 p_1.xProto)] 40, snapCh w0 F] w) ?_ ?_
  · intro k72
    refine c_region ?_
    refine o_mv st rfl rfl ?_
    refine o_not st rfl rfl ?_
    refine o_mv st rfl rfl ?_
    refine st_sp (dj := 16) rfl ?_ ?_
    · refine st_s rfl rfl rfl rfl ?_
      refine st_s rfl rfl rfl rfl ?_
      refine st_s rfl rfl rfl rfl ?_
      refine o_pickT st rfl rfl rfl ?_
      refine o_mv st rfl rfl ?_
      refine st_s rfl rfl rfl rfl ?_
      refine st_s rfl rfl rfl rfl ?_
      refine st_s rfl rfl rfl rfl ?_
      refine o_pickT st rfl rfl rfl ?_
      refine c_nil ?_
      exact l_join true (fun a w hE hm => ⟨hE.sub ⟨rfl, rfl, rfl, rfl, rfl, trivial⟩, (hm.pick [0, 1, 2] rfl)⟩)
    · refine o_ldc (st_g rfl rfl) (v := (.agg #[(.int .i64 p_1.xFrom), (.int .i64 p_1.xTo), (.int .i64 p_1.xPort), (.int .i64 p_1.xProto)])) 1 rfl rfl rfl ty40 rfl ?_
      refine st_gw rfl rfl (o_callP (vs := [(.agg #[(.int .i64 p_1.xFrom), (.int .i64 p_1.xTo), (.int .i64 p_1.xPort), (.int .i64 p_1.xProto)])]) Tryd.call61 rfl rfl (by intro w m h; exact (w_impl_PacketValid (F := allB [] w) (p_0 := p_1) allB_ok (m.rd0 2 rfl (reads_snap hgl0)) h).mono (fun _ _ k => ret_free (fun r u => fr_nil) k)) ?_); rintro r9 _
      refine o_not (st_g rfl rfl) rfl rfl ?_
      refine o_pickF st rfl rfl rfl ?_
      refine o_mv st rfl rfl ?_
      refine st_sp (dj := 21) rfl ?_ ?_
      · refine st_s rfl rfl rfl rfl ?_
        refine st_s rfl rfl rfl rfl ?_
        refine st_s rfl rfl rfl rfl ?_
        refine o_pickT st rfl rfl rfl ?_
        refine c_nil ?_
        exact l_join true (fun a w hE hm => ⟨hE.sub ⟨rfl, rfl, rfl, rfl, rfl, trivial⟩, (hm.pick [0, 1, 2] rfl)⟩)
      · refine o_mv (st_g rfl rfl) rfl rfl ?_
        refine st_gw rfl rfl (o_callP (vs := [(.int .i64 now_2)]) Tryd.call72 rfl rfl (by intro w m h; exact (w_impl_timeValid (F := allB [] w) (now_0 := now_2) allB_ok h).mono (fun _ _ k => ret_free (fun r u => fr_nil) k)) ?_); rintro r10 _
        refine o_not (st_g rfl rfl) rfl rfl ?_
        refine o_pickF st rfl rfl rfl ?_
        refine c_nil ?_
        exact l_join (!r10) (fun a w hE hm => ⟨hE.sub ⟨rfl, rfl, rfl, rfl, rfl, trivial⟩, (hm.pick [0, 1, 2] rfl)⟩)
  · rintro t71 a w ⟨hE, hm⟩ h
    refine nx_of hE hm h ?_
    clear hE hm h
    refine c_cond rfl ?_ ?_
    · refine c_seq ?_
      refine c_region ?_
      refine o_as st rfl rfl ?_
      refine c_nil ?_
      refine l_then ?_
      refine c_ret ?_
      refine l_ret ?_
      exact l_end1 Tryd.results33 (-1) () (rv_t rfl) (fun _ _ => NewCh.nil _ _ _ _)
    · refine c_skip ?_
      refine l_then ?_
      refine c_seq ?_
      refine c_region ?_
      refine o_mv st rfl rfl ?_
      refine o_mv st rfl rfl ?_
      refine o_ldc st (v := (.agg #[(.int .i64 p_1.xFrom), (.int .i64 p_1.xTo), (.int .i64 p_1.xPort), (.int .i64 p_1.xProto)])) 1 rfl rfl rfl ty40 rfl ?_
      refine o_mv st rfl rfl ?_
      refine stw (o_callP (vs := [v6, v1, (.agg #[(.int .i64 p_1.xFrom), (.int .i64 p_1.xTo), (.int .i64 p_1.xPort), (.int .i64 p_1.xProto)]), (.int .i64 now_2)]) Tryd.call78 rfl rfl (by intro w m h; exact (w_impl_flowIndex_known (F := allB [] w) (x_0 := r5) (list_1 := list_0) (p_2 := p_1) (now_3 := now_2) allB_ok (m.mrd0 0 rfl mreads_own) (m.rd0 2 rfl (reads_snap hv1)) h).mono (fun _ _ k => ret_free (fun r u => fr_nil) k)) ?_); rintro r73 _
      refine o_as st rfl rfl ?_
      refine c_nil ?_
      refine l_then ?_
      refine c_ret ?_
      exact l_end1 Tryd.results33 r73 () (rv_t rfl) (fun _ _ => NewCh.nil _ _ _ _)

set_option maxRecDepth 100000 in
set_option maxHeartbeats 8000000 in
theorem w_impl_notExpired {w0 : World} {F : Nat → Prop} {v1 : Value} {list_0 : (List GFlow)} {now_1 : Int} {κ : (List GFlow) → Prop} (hF : ∀ b, F b → b < w0.heap.size ∧ ¬ feet [] b) (hv1 : Sl elGFlow F w0 v1 list_0) (h : L_impl_notExpired list_0 now_1 κ) :
    Calls Tryd.prog 79 #[v1, (.int .i64 now_1)] w0 (Ret [] F w0 κ (fun (r : (List GFlow)) (u : Value) => u) (fun (r : (List GFlow)) (u : Value) => [ownCh elGFlow 110 u r])) := by
  refine enterS (args := [v1, (.int .i64 now_1)]) [] hF (Given.nil _ _) Tryd.func79 rfl Tryd.ntmps79 rfl h ?_
  clear h hF
  refine c_seq ?_
  refine c_region ?_
  refine stw (o_asn elGFlow 110 rfl rfl ?_)
  refine c_nil ?_
  refine l_then ?_
  refine c_seq ?_
  refine c_region ?_
  refine o_mv st rfl rfl ?_
  refine o_len st el53 1 rfl (reads_snap hv1) rfl rfl ?_
  refine stw (o_make (z := (GFlow.mk (GPacket.mk 0 0 0 0) 0)) flelGFlow rfl rfl rfl el53 rfl zero110 rfl rfl ?_); intro v4 xs5
  refine o_as st rfl rfl ?_
  refine c_nil ?_
  refine l_then ?_
  refine c_seq ?_
  refine c_seq ?_
  refine c_region ?_
  refine o_mv st rfl rfl ?_
  refine o_len st el53 2 rfl (reads_snap hv1) rfl rfl ?_
  refine o_mv st rfl rfl ?_
  refine c_nil ?_
  refine l_then ?_
  refine c_block ?_
  refine c_loop (σ := ((List GFlow) × Int)) (fun ((xs8, t11) : ((List GFlow) × Int)) (a : Act) (w : World) => ∃ (v7 : Value), Has 27 [(1, (.int .i64 now_1)), (5, v7), (11, v1), (12, (.int .i64 (list_0.length : Int))), (13, (.int .i64 t11))] a ∧ Mem (gB F [] w0) (feet []) w0 [snapCh w0 F, ownCh elGFlow 110 v7 xs8] w) (fun a w hE hm => ⟨v4, hE.sub ⟨rfl, rfl, rfl, rfl, rfl, trivial⟩, (hm.pick [2, 0] rfl)⟩) ?_
  rintro nx12 ⟨xs8, t11⟩ a w ⟨v7, hE, hm⟩ h
  refine nx_of hE hm h ?_
  clear hE hm h
  refine c_seq ?_
  refine c_region ?_
  refine o_lss st rfl rfl rfl ?_
  refine c_nil ?_
  refine l_then ?_
  refine c_seq ?_
  refine c_cond rfl ?_ ?_
  · refine c_skip ?_
    refine l_then ?_
    refine c_join (σ := (List GFlow)) (fun (xs81 : (List GFlow)) (a : Act) (w : World) => ∃ (v82 : Value), Has 27 [(1, (.int .i64 now_1)), (5, v82), (11, v1), (12, (.int .i64 (list_0.length : Int))), (13, (.int .i64 t11))] a ∧ Mem (gB F [] w0) (feet []) w0 [ownCh elGFlow 110 v82 xs81, snapCh w0 F] w) ?_ ?_
    · intro k84
      refine c_block ?_
      refine c_seq ?_
      refine c_region ?_
      refine o_idx st 0 rfl (reads_snap hv1) rfl rfl rfl el53 ?_; intro e13 h14
      refine o_lds st (enc := encGFlow) (u := (.agg #[(.int .i64 e13.xWho.xFrom), (.int .i64 e13.xWho.xTo), (.int .i64 e13.xWho.xPort), (.int .i64 e13.xWho.xProto), (.int .i64 e13.xUntil)])) 0 rfl (reads_snap hv1) flelGFlow rfl h14 rfl rfl ty110 rfl ?_
      refine stw (o_alloc rfl [(.int .i64 0), (.int .i64 0), (.int .i64 0), (.int .i64 0), (.int .i64 0)] zero110 ?_); intro b15
      refine stw (o_stc (cs' := [(.int .i64 e13.xWho.xFrom), (.int .i64 e13.xWho.xTo), (.int .i64 e13.xWho.xPort), (.int .i64 e13.xWho.xProto), (.int .i64 e13.xUntil)]) 0 rfl rfl rfl ty110 rfl rfl rfl rfl ?_)
      refine c_nil ?_
      refine l_then ?_
      refine c_seq ?_
      refine c_region ?_
      refine o_fad st rfl rfl fld110_1 rfl ?_
      refine o_ldc st (v := (.int .i64 e13.xUntil)) 0 rfl rfl rfl ty3 rfl ?_
      refine o_mv st rfl rfl ?_
      refine o_geq st rfl rfl rfl ?_
      refine c_nil ?_
      refine l_then ?_
      refine c_cond rfl ?_ ?_
      · refine c_region ?_
        refine o_mv st rfl rfl ?_
        refine o_ldc st (v := (.agg #[(.int .i64 e13.xWho.xFrom), (.int .i64 e13.xWho.xTo), (.int .i64 e13.xWho.xPort), (.int .i64 e13.xWho.xProto), (.int .i64 e13.xUntil)])) 0 rfl rfl rfl ty110 rfl ?_
        refine stw (o_bsl (enc := encGFlow) (qs := [(0, (.agg #[(.int .i64 e13.xWho.xFrom), (.int .i64 e13.xWho.xTo), (.int .i64 e13.xWho.xPort), (.int .i64 e13.xWho.xProto), (.int .i64 e13.xUntil)]))]) (cells := [(.int .i64 e13.xWho.xFrom), (.int .i64 e13.xWho.xTo), (.int .i64 e13.xWho.xPort), (.int .i64 e13.xWho.xProto), (.int .i64 e13.xUntil)]) ([e13]) flelGFlow (by intro ρ h; simp only [List.map_toArray, List.map_cons, List.map_nil, h (.tmp 22) _ rfl]) rfl el53 zero110 rfl rfl rfl rfl rfl rfl ?_); intro v17
        refine stw (o_app 3 0 rfl rfl (src_flat flelGFlow reads_own) rfl rfl rfl el53 rfl zero110 rfl rfl ?_); intro v19
        refine o_as st rfl rfl ?_
        refine c_nil ?_
        refine b_norm ?_
        exact l_join (xs8 ++ ([e13])) (fun a w hE hm => ⟨v19, hE.sub ⟨rfl, rfl, rfl, rfl, rfl, trivial⟩, (hm.pick [3, 2] rfl)⟩)
      · refine c_skip ?_
        refine b_norm ?_
        exact l_join xs8 (fun a w hE hm => ⟨v7, hE.sub ⟨rfl, rfl, rfl, rfl, rfl, trivial⟩, (hm.pick [2, 1] rfl)⟩)
    · rintro xs81 a w ⟨v82, hE, hm⟩ h
      refine nx_of hE hm h ?_
      clear hE hm h
      refine c_region ?_
      refine o_add st rfl rfl rfl ?_; intro t85
      refine o_mv st rfl rfl ?_
      refine c_nil ?_
      exact l_join (xs81, t85) (fun a w hE hm => ⟨v82, hE.sub ⟨rfl, rfl, rfl, rfl, rfl, trivial⟩, (hm.pick [1, 0] rfl)⟩)
  · refine c_exit ?_
    refine l_exit ?_
    refine l_exit ?_
    refine b_exit ?_
    refine l_then ?_
    refine c_seq ?_
    refine c_region ?_
    refine o_mv st rfl rfl ?_
    refine o_as st rfl rfl ?_
    refine c_nil ?_
    refine l_then ?_
    refine c_ret ?_
    exact l_end1 Tryd.results79 xs8 v7 (rv_t rfl) (fun w m => NewCh.ofB m [1] rfl)

set_option maxRecDepth 100000 in
set_option maxHeartbeats 8000000 in
theorem w_impl_trackValid {w0 : World} {F : Nat → Prop} {v1 : Value} {list_0 : (List GFlow)} {p_1 : GPacket} {now_2 : Int} {life_3 : Int} {κ : ((List GFlow) × Bool) → Prop} (hF : ∀ b, F b → b < w0.heap.size ∧ ¬ feet [] b) (hv1 : Sl elGFlow F w0 v1 list_0) (hgl0 : Sl elGFieldShape F w0 (.slice (some ⟨0, 0, none⟩) 4 4) gl_impl_fieldShapes) (h : L_impl_trackValid list_0 p_1 now_2 life_3 κ) :
    Calls Tryd.prog 96 #[v1, (.agg #[(.int .i64 p_1.xFrom), (.int .i64 p_1.xTo), (.int .i64 p_1.xPort), (.int .i64 p_1.xProto)]), (.int .i64 now_2), (.int .i64 life_3)] w0 (Ret [] F w0 κ (fun (r : ((List GFlow) × Bool)) (u : Value) => .tuple #[u, (.bool r.2)]) (fun (r : ((List GFlow) × Bool)) (u : Value) => [ownCh elGFlow 110 u r.1])) := by
  refine enterS (args := [v1, (.agg #[(.int .i64 p_1.xFrom), (.int .i64 p_1.xTo), (.int .i64 p_1.xPort), (.int .i64 p_1.xProto)]), (.int .i64 now_2), (.int .i64 life_3)]) [] hF (Given.nil _ _) Tryd.func96 rfl Tryd.ntmps96 rfl h ?_
  clear h hF
  refine c_seq ?_
  refine c_region ?_
  refine stw (o_box rfl rfl [(.int .i64 p_1.xFrom), (.int .i64 p_1.xTo), (.int .i64 p_1.xPort), (.int .i64 p_1.xProto)] rfl ?_); intro b3
  refine stw (o_asn elGFlow 110 rfl rfl ?_)
  refine o_as st rfl rfl ?_
  refine c_nil ?_
  refine l_then ?_
  refine c_seq ?_
  refine c_region ?_
  refine o_mv st rfl rfl ?_
  refine o_mv st rfl rfl ?_
  refine stw (o_callP (vs := [v1, (.int .i64 now_2)]) Tryd.call79 rfl rfl (by intro w m h; exact (w_impl_notExpired (F := allB [] w) (list_0 := list_0) (now_1 := now_2) allB_ok (m.rd0 2 rfl (reads_snap hv1)) h).mono (fun _ _ k => ret_free (fun r u => (fr_cons (free_own flelGFlow) fr_nil)) k)) ?_); rintro r6 v7
  refine o_as st rfl rfl ?_
  refine c_nil ?_
  refine l_then ?_
  refine c_seq ?_
  refine c_region ?_
  refine o_mv st rfl rfl ?_
  refine o_mv st rfl rfl ?_
  refine o_add st rfl rfl rfl ?_; intro t9
  refine o_min st rfl rfl rfl ?_
  refine o_as st rfl rfl ?_
  refine c_nil ?_
  refine l_then ?_
  refine c_seq ?_
  refine c_region ?_
  refine o_mv st rfl rfl ?_
  refine stw (o_callP (vs := [v7]) Tryd.call77 rfl rfl (by intro w m h; exact (w_impl_indexFlows (F := allB [] w) (list_0 := r6) allB_ok (m.rd0 0 rfl reads_own) (m.rd0 3 rfl (reads_snap hgl0)) h).mono (fun _ _ k => ret_free (fun r u => (fr_cons free_mown fr_nil)) k)) ?_); rintro ⟨r10, r13⟩ v11
  refine o_mv st rfl rfl ?_
  refine o_ext st (vs := [v11, (.bool r13)]) rfl rfl rfl ?_
  refine o_ext st (vs := [v11, (.bool r13)]) rfl rfl rfl ?_
  refine o_as st rfl rfl ?_
  refine o_as st rfl rfl ?_
  refine c_nil ?_
  refine l_then ?_
  refine c_seq ?_
  refine c_seq ?_
  refine c_region ?_
  refine o_mv st rfl rfl ?_
  refine o_mv st rfl rfl ?_
  refine o_ldc st (v := (.agg #[(.int .i64 p_1.xFrom), (.int .i64 p_1.xTo), (.int .i64 p_1.xPort), (.int .i64 p_1.xProto)])) 3 rfl rfl rfl ty40 rfl ?_
  refine o_mv st rfl rfl ?_
  refine stw (o_callP (vs := [v11, v7, (.agg #[(.int .i64 p_1.xFrom), (.int .i64 p_1.xTo), (.int .i64 p_1.xPort), (.int .i64 p_1.xProto)]), (.int .i64 now_2)]) Tryd.call78 rfl rfl (by intro w m h; exact (w_impl_flowIndex_known (F := allB [] w) (x_0 := r10) (list_1 := r6) (p_2 := p_1) (now_3 := now_2) allB_ok (m.mrd0 0 rfl mreads_own) (m.rd0 1 rfl reads_own) h).mono (fun _ _ k => ret_free (fun r u => fr_nil) k)) ?_); rintro r14 _
  refine o_as st rfl rfl ?_
  refine c_nil ?_
  refine l_then ?_
  refine c_seq ?_
  refine c_region ?_
  refine o_mv st rfl rfl ?_
  refine o_geq st rfl rfl rfl ?_
  refine c_nil ?_
  refine l_then ?_
  refine c_cond rfl ?_ ?_
  · refine c_seq ?_
    refine c_region ?_
    refine o_mv st rfl rfl ?_
    refine o_mv st rfl rfl ?_
    refine o_mv st rfl rfl ?_
    refine o_idx st 1 rfl reads_own rfl rfl rfl el53 ?_; intro e15 h16
    refine o_fadS st 1 rfl reads_own h16 rfl rfl fld110_1 rfl ?_
    refine stw (o_sts (enc := encGFlow) (y' := (GFlow.mk e15.xWho (min t9 1000000))) 1 rfl flelGFlow rfl h16 ty3 rfl rfl rfl rfl rfl rfl ?_)
    refine c_nil ?_
    refine l_then ?_
    refine c_seq ?_
    refine c_region ?_
    refine o_mv st rfl rfl ?_
    refine o_as st rfl rfl ?_
    refine o_as st rfl rfl ?_
    refine c_nil ?_
    refine l_then ?_
    refine c_ret ?_
    refine l_ret ?_
    exact l_end2 Tryd.results96 ((r6.set (r14).toNat (GFlow.mk e15.xWho (min t9 1000000))), true) v7 (rv_t rfl) (rv_t rfl) rfl (fun w m => NewCh.ofB m [1] rfl)
  · refine c_skip ?_
    refine l_then ?_
    refine c_seq ?_
    refine c_seq ?_
    refine c_region ?_
    refine o_mv st rfl rfl ?_
    refine o_len st el53 1 rfl reads_own rfl rfl ?_
    refine o_eql st und3 rfl rfl rfl ?_
    refine c_nil ?_
    refine l_then ?_
    refine c_cond rfl ?_ ?_
    · refine c_seq ?_
      refine c_region ?_
      refine o_mv st rfl rfl ?_
      refine o_as st rfl rfl ?_
      refine o_as st rfl rfl ?_
      refine c_nil ?_
      refine l_then ?_
      refine c_ret ?_
      refine l_ret ?_
      exact l_end2 Tryd.results96 (r6, false) v7 (rv_t rfl) (rv_t rfl) rfl (fun w m => NewCh.ofB m [1] rfl)
    · refine c_skip ?_
      refine l_then ?_
      refine c_seq ?_
      refine c_region ?_
      refine o_mv st rfl rfl ?_
      refine o_ldc st (v := (.agg #[(.int .i64 p_1.xFrom), (.int .i64 p_1.xTo), (.int .i64 p_1.xPort), (.int .i64 p_1.xProto)])) 3 rfl rfl rfl ty40 rfl ?_
      refine o_mv st rfl rfl ?_
      refine o_bld st (qs := [(0, (.agg #[(.int .i64 p_1.xFrom), (.int .i64 p_1.xTo), (.int .i64 p_1.xPort), (.int .i64 p_1.xProto)])), (1, (.int .i64 (min t9 1000000)))]) (cells := [(.int .i64 p_1.xFrom), (.int .i64 p_1.xTo), (.int .i64 p_1.xPort), (.int .i64 p_1.xProto), (.int .i64 (min t9 1000000))]) (by intro ρ h; simp only [List.map_toArray, List.map_cons, List.map_nil, h (.tmp 45) _ rfl, h (.tmp 46) _ rfl]) rfl bld110 rfl ?_
      refine stw (o_bsl (enc := encGFlow) (qs := [(0, (.agg #[(.int .i64 p_1.xFrom), (.int .i64 p_1.xTo), (.int .i64 p_1.xPort), (.int .i64 p_1.xProto), (.int .i64 (min t9 1000000))]))]) (cells := [(.int .i64 p_1.xFrom), (.int .i64 p_1.xTo), (.int .i64 p_1.xPort), (.int .i64 p_1.xProto), (.int .i64 (min t9 1000000))]) ([(GFlow.mk p_1 (min t9 1000000))]) flelGFlow (by intro ρ h; simp only [List.map_toArray, List.map_cons, List.map_nil, h (.tmp 47) _ rfl]) rfl el53 zero110 rfl rfl rfl rfl rfl rfl ?_); intro v18
      refine stw (o_app 2 0 rfl rfl (src_flat flelGFlow reads_own) rfl rfl rfl el53 rfl zero110 rfl rfl ?_); intro v20
      refine o_as st rfl rfl ?_
      refine o_as st rfl rfl ?_
      refine c_nil ?_
      refine l_then ?_
      refine c_ret ?_
      exact l_end2 Tryd.results96 ((r6 ++ ([(GFlow.mk p_1 (min t9 1000000))])), true) v20 (rv_t rfl) (rv_t rfl) rfl (fun w m => NewCh.ofB m [2] rfl)



end
section
open Go.RowKit
set_option maxRecDepth 100000 in
set_option maxHeartbeats 8000000 in
theorem w_impl_tracker_pass {w0 : World} {F : Nat → Prop} {b1 : Nat} {v2 : Value} {v4 : Value} {t_0_set_Chains : (List (List GRule))} {t_0_set_Accept : Bool} {t_0_flows : (List GFlow)} {t_0_life : Int} {p_1 : GPacket} {now_2 : Int} {κ : (Bool × (List GFlow)) → Prop} (hF : ∀ b, F b → b < w0.heap.size ∧ ¬ feet [cellCh b1 [v2, (.bool t_0_set_Accept), v4, (.int .i64 t_0_life)] 91] b) (hg : Given [cellCh b1 [v2, (.bool t_0_set_Accept), v4, (.int .i64 t_0_life)] 91] F w0) (hv2 : Sl (elSl elGRule) F w0 v2 t_0_set_Chains) (hv4 : Sl elGFlow F w0 v4 t_0_flows) (hgl0 : Sl elGFieldShape F w0 (.slice (some ⟨0, 0, none⟩) 4 4) gl_impl_fieldShapes) (h : L_impl_tracker_pass t_0_set_Chains t_0_set_Accept t_0_flows t_0_life p_1 now_2 κ) :
    Calls Tryd.prog 63 #[(.pointer (some ⟨b1, 0, none⟩)), (.agg #[(.int .i64 p_1.xFrom), (.int .i64 p_1.xTo), (.int .i64 p_1.xPort), (.int .i64 p_1.xProto)]), (.int .i64 now_2)] w0 (Ret [cellCh b1 [v2, (.bool t_0_set_Accept), v4, (.int .i64 t_0_life)] 91] F w0 κ (fun (r : (Bool × (List GFlow))) (u : Value) => (.bool r.1)) (fun (r : (Bool × (List GFlow))) (u : Value) => [cellCh b1 [v2, (.bool t_0_set_Accept), u, (.int .i64 t_0_life)] 91, ownCh elGFlow 110 u r.2])) := by
  refine enterS (args := [(.pointer (some ⟨b1, 0, none⟩)), (.agg #[(.int .i64 p_1.xFrom), (.int .i64 p_1.xTo), (.int .i64 p_1.xPort), (.int .i64 p_1.xProto)]), (.int .i64 now_2)]) [cellCh b1 [v2, (.bool t_0_set_Accept), v4, (.int .i64 t_0_life)] 91] hF hg Tryd.func63 rfl Tryd.ntmps63 rfl h ?_
  clear h hF hg
  refine c_seq ?_
  refine c_region ?_
  refine stw (o_box rfl rfl [(.int .i64 p_1.xFrom), (.int .i64 p_1.xTo), (.int .i64 p_1.xPort), (.int .i64 p_1.xProto)] rfl ?_); intro b7
  refine o_as st rfl rfl ?_
  refine c_nil ?_
  refine l_then ?_
  refine c_seq ?_
  refine c_join (σ := Bool) (fun (t71 : Bool) (a : Act) (w : World) => Has 50 [(0, (.pointer (some ⟨b1, 0, none⟩))), (2, (.int .i64 now_2)), (4, (.pointer (some ⟨b7, 0, none⟩))), (23, (.bool t71))] a ∧ Mem (gB F [cellCh b1 [v2, (.bool t_0_set_Accept), v4, (.int .i64 t_0_life)] 91] w0) (feet [cellCh b1 [v2, (.bool t_0_set_Accept), v4, (.int .i64 t_0_life)] 91]) w0 [cellCh b7 [(.int .i64 p_1.xFrom), (.int .i64 p_1.xTo), (.int .i64 p_1.xPort), (.int .i64 p_1.xProto)] 40, cellCh b1 [v2, (.bool t_0_set_Accept), v4, (.int .i64 t_0_life)] 91, snapCh w0 F] w) ?_ ?_
  · intro k72
    refine c_draw mixed 17 rfl [cellCh b7 [(.int .i64 p_1.xFrom), (.int .i64 p_1.xTo), (.int .i64 p_1.xPort), (.int .i64 p_1.xProto)] 40, cellCh b1 [v2, (.bool t_0_set_Accept), v4, (.int .i64 t_0_life)] 91, snapCh w0 F] ?_
    refine o_mv (dt 0 (fun _ m => m)) rfl rfl ?_
    refine o_nilc (dt 1 (fun _ m => m)) rfl rfl ?_
    refine o_fad (dt 2 (fun _ m => m)) rfl rfl fld91_1 rfl ?_
    refine o_ldc (dt 3 (fun _ m => m)) (v := v4) 1 rfl rfl rfl ty53 rfl ?_
    refine o_ldc (dt 4 (fun _ m => m)) (v := (.agg #[(.int .i64 p_1.xFrom), (.int .i64 p_1.xTo), (.int .i64 p_1.xPort), (.int .i64 p_1.xProto)])) 0 rfl rfl rfl ty40 rfl ?_
    refine o_mv (dt 5 (fun _ m => m)) rfl rfl ?_
    refine d_one (i := 6) rfl (by kernel_rfl) (o_callP (vs := [v4, (.agg #[(.int .i64 p_1.xFrom), (.int .i64 p_1.xTo), (.int .i64 p_1.xPort), (.int .i64 p_1.xProto)]), (.int .i64 now_2)]) Tryd.call33 rfl rfl (by intro w m h; exact (w_impl_KnownFlow (F := allB [] w) (list_0 := t_0_flows) (p_1 := p_1) (now_2 := now_2) allB_ok (m.rd0 2 rfl (reads_snap hv4)) (m.rd0 2 rfl (reads_snap hgl0)) h).mono (fun _ _ k => ret_free (fun r u => fr_nil) k)) ?_); rintro r9 _
    refine d_and (fun _ m => m) ?_
    refine o_lss (dt 7 (fun _ m => m)) rfl rfl rfl ?_
    refine o_mv (dt 8 (fun _ m => m)) rfl rfl ?_
    refine st_sp (dj := 15) rfl ?_ ?_
    · refine o_mv (dtg 9 (fun _ m => m)) rfl rfl ?_
      refine o_nilc (dtg 10 (fun _ m => m)) rfl rfl ?_
      refine o_fad (dtg 11 (fun _ m => m)) rfl rfl fld91_0 rfl ?_
      refine o_ldc (dtg 12 (fun _ m => m)) (v := (.agg #[v2, (.bool t_0_set_Accept)])) 1 rfl rfl rfl ty25 rfl ?_
      refine o_ldc (dtg 13 (fun _ m => m)) (v := (.agg #[(.int .i64 p_1.xFrom), (.int .i64 p_1.xTo), (.int .i64 p_1.xPort), (.int .i64 p_1.xProto)])) 0 rfl rfl rfl ty40 rfl ?_
      refine d_oneg (i := 14) rfl rfl rfl (by kernel_rfl) (o_callP (vs := [(.agg #[v2, (.bool t_0_set_Accept)]), (.agg #[(.int .i64 p_1.xFrom), (.int .i64 p_1.xTo), (.int .i64 p_1.xPort), (.int .i64 p_1.xProto)])]) Tryd.call54 rfl rfl (by intro w m h; exact (w_impl_judgeValid (F := allB [] w) (s_0 := (GRuleset.mk t_0_set_Chains t_0_set_Accept)) (p_1 := p_1) allB_ok (m.rd0 2 rfl (reads_snap hv2)) h).mono (fun _ _ k => ret_free (fun r u => fr_nil) k)) ?_); rintro r10 _
      refine d_and (fun _ m => m) ?_
      refine o_not (dtg 15 (fun _ m => m)) rfl rfl ?_
      refine o_pickT (dt 16 (fun _ m => m)) rfl rfl rfl ?_
      refine d_done (by kernel_rfl) ?_
      exact l_join (!r10) (fun a w hE hm => ⟨hE.sub ⟨rfl, rfl, rfl, rfl, trivial⟩, (hm.pick [0, 1, 2] rfl)⟩)
    · refine dsk 9 (fun _ m => m) rfl (by kernel_rfl) rfl rfl rfl rfl ?_
      refine dsk 10 (fun _ m => m) rfl (by kernel_rfl) rfl rfl rfl rfl ?_
      refine dsk 11 (fun _ m => m) rfl (by kernel_rfl) rfl rfl rfl rfl ?_
      refine dsk 12 (fun _ m => m) rfl (by kernel_rfl) rfl rfl rfl rfl ?_
      refine dsk 13 (fun _ m => m) rfl (by kernel_rfl) rfl rfl rfl rfl ?_
      refine dsk 14 (fun _ m => m) rfl (by kernel_rfl) rfl rfl rfl rfl ?_
      refine dsk 15 (fun _ m => m) rfl (by kernel_rfl) rfl rfl rfl rfl ?_
      refine o_pickF (dt 16 (fun _ m => m)) rfl rfl rfl ?_
      refine d_done (by kernel_rfl) ?_
      exact l_join false (fun a w hE hm => ⟨hE.sub ⟨rfl, rfl, rfl, rfl, trivial⟩, (hm.pick [0, 1, 2] rfl)⟩)
  · rintro t71 a w ⟨hE, hm⟩ h
    refine nx_of hE hm h ?_
    clear hE hm h
    refine c_cond rfl ?_ ?_
    · refine c_seq ?_
      refine c_region ?_
      refine o_mv st rfl rfl ?_
      refine o_mv st rfl rfl ?_
      refine o_nilc st rfl rfl ?_
      refine o_fad st rfl rfl fld91_1 rfl ?_
      refine o_ldc st (v := v4) 1 rfl rfl rfl ty53 rfl ?_
      refine o_mv st rfl rfl ?_
      refine stw (o_callP (vs := [v4, (.int .i64 now_2)]) Tryd.call79 rfl rfl (by intro w m h; exact (w_impl_notExpired (F := allB [] w) (list_0 := t_0_flows) (now_1 := now_2) allB_ok (m.rd0 2 rfl (reads_snap hv4)) h).mono (fun _ _ k => ret_free (fun r u => (fr_cons (free_own flelGFlow) fr_nil)) k)) ?_); rintro r73 v74
      refine o_nilc st rfl rfl ?_
      refine o_fad st rfl rfl fld91_1 rfl ?_
      refine nx_own 0 rfl ?_; rintro a76 l77 q78 rfl
      refine stw (o_stc (cs' := [v2, (.bool t_0_set_Accept), (.slice a76 l77 q78), (.int .i64 t_0_life)]) 2 rfl rfl rfl ty53 rfl rfl rfl rfl ?_)
      refine c_nil ?_
      refine l_then ?_
      refine c_seq ?_
      refine c_region ?_
      refine o_as st rfl rfl ?_
      refine c_nil ?_
      refine l_then ?_
      refine c_ret ?_
      refine l_ret ?_
      exact l_end1 Tryd.results63 (false, r73) (.slice a76 l77 q78) (rv_t rfl) (fun w m => NewCh.ofB m [2, 0] rfl)
    · refine c_skip ?_
      refine l_then ?_
      refine c_join (σ := (List GFlow)) (fun (xs79 : (List GFlow)) (a : Act) (w : World) => ∃ (v80 : Value), Has 50 [] a ∧ Mem (gB F [cellCh b1 [v2, (.bool t_0_set_Accept), v4, (.int .i64 t_0_life)] 91] w0) (feet [cellCh b1 [v2, (.bool t_0_set_Accept), v4, (.int .i64 t_0_life)] 91]) w0 [ownCh elGFlow 110 v80 xs79, cellCh b1 [v2, (.bool t_0_set_Accept), v80, (.int .i64 t_0_life)] 91, snapCh w0 F] w) ?_ ?_
      · intro k82
        refine c_drawQ mixed 18 rfl [cellCh b7 [(.int .i64 p_1.xFrom), (.int .i64 p_1.xTo), (.int .i64 p_1.xPort), (.int .i64 p_1.xProto)] 40, snapCh w0 F] ?_
        intro Qd hP hQ
        have H584 : ∀ (r83 : (List GFlow)) (a86 : Option Addr) (l87 : Nat) (q88 : Nat) (r85 : Bool), Nx 50 (gB F [cellCh b1 [v2, (.bool t_0_set_Accept), v4, (.int .i64 t_0_life)] 91] w0) (feet [cellCh b1 [v2, (.bool t_0_set_Accept), v4, (.int .i64 t_0_life)] 91]) w0 (wpAnyH Tryd.prog .any (opsAt Tryd.f63 [1, 1, 0]) Qd (Mem (gB F [cellCh b1 [v2, (.bool t_0_set_Accept), v4, (.int .i64 t_0_life)] 91] w0) (feet [cellCh b1 [v2, (.bool t_0_set_Accept), v4, (.int .i64 t_0_life)] 91]) w0 [cellCh b7 [(.int .i64 p_1.xFrom), (.int .i64 p_1.xTo), (.int .i64 p_1.xPort), (.int .i64 p_1.xProto)] 40, snapCh w0 F]) 0 #[true, true, true, true, true, true, true, true, true, true, true, true, true, true, true, true, true, true]) [] [ownCh elGFlow 110 (.slice a86 l87 q88) r83, cellCh b7 [(.int .i64 p_1.xFrom), (.int .i64 p_1.xTo), (.int .i64 p_1.xPort), (.int .i64 p_1.xProto)] 40, cellCh b1 [v2, (.bool t_0_set_Accept), (.slice a86 l87 q88), (.int .i64 t_0_life)] 91, snapCh w0 F] (k82 r83) := by
          intro r83 a86 l87 q88 r85
          refine d_done (by kernel_rfl) ?_
          exact fun a w hE hm hφ => hQ r83 a w hφ ((fun a w hE hm => ⟨(.slice a86 l87 q88), hE.sub trivial, (hm.pick [0, 2, 3] rfl)⟩) a w hE hm)
        have H585 : ∀ (r83 : (List GFlow)) (v84 : Value) (r85 : Bool), Nx 50 (gB F [cellCh b1 [v2, (.bool t_0_set_Accept), v4, (.int .i64 t_0_life)] 91] w0) (feet [cellCh b1 [v2, (.bool t_0_set_Accept), v4, (.int .i64 t_0_life)] 91]) w0 (wpAnyH Tryd.prog .any (opsAt Tryd.f63 [1, 1, 0]) Qd (Mem (gB F [cellCh b1 [v2, (.bool t_0_set_Accept), v4, (.int .i64 t_0_life)] 91] w0) (feet [cellCh b1 [v2, (.bool t_0_set_Accept), v4, (.int .i64 t_0_life)] 91]) w0 [cellCh b7 [(.int .i64 p_1.xFrom), (.int .i64 p_1.xTo), (.int .i64 p_1.xPort), (.int .i64 p_1.xProto)] 40, snapCh w0 F]) 6 #[true, true, true, true, true, true, true, true, true, true, true, true, false, false, false, false, false, false]) [(34, (.pointer (some ⟨b1, 0, none⟩))), (45, (.tuple #[v84, (.bool r85)]))] [ownCh elGFlow 110 v84 r83, cellCh b7 [(.int .i64 p_1.xFrom), (.int .i64 p_1.xTo), (.int .i64 p_1.xPort), (.int .i64 p_1.xProto)] 40, cellCh b1 [v2, (.bool t_0_set_Accept), v4, (.int .i64 t_0_life)] 91, snapCh w0 F] (k82 r83) := by
          intro r83 v84 r85
          refine o_mv (dt 12 (fun w m => m.pick [1, 3] rfl)) rfl rfl ?_
          refine o_ext (dt 13 (fun w m => m.pick [1, 3] rfl)) (vs := [v84, (.bool r85)]) rfl rfl rfl ?_
          refine o_ext (dt 14 (fun w m => m.pick [1, 3] rfl)) (vs := [v84, (.bool r85)]) rfl rfl rfl ?_
          refine o_nilc (dt 15 (fun w m => m.pick [1, 3] rfl)) rfl rfl ?_
          refine o_fad (dt 16 (fun w m => m.pick [1, 3] rfl)) rfl rfl fld91_1 rfl ?_
          refine nx_own 0 rfl ?_; rintro a86 l87 q88 rfl
          refine d_one (i := 17) rfl (by kernel_rfl) (o_stc (cs' := [v2, (.bool t_0_set_Accept), (.slice a86 l87 q88), (.int .i64 t_0_life)]) 2 rfl rfl rfl ty53 rfl rfl rfl rfl ?_)
          refine d_and (fun w m => m.pick [1, 3] rfl) ?_
          refine pk [0, 1, 2, 3] rfl ?_
          refine re (E' := []) trivial ?_
          exact H584 r83 a86 l87 q88 r85
        have H586 : ∀ (_ : Unit), Nx 50 (gB F [cellCh b1 [v2, (.bool t_0_set_Accept), v4, (.int .i64 t_0_life)] 91] w0) (feet [cellCh b1 [v2, (.bool t_0_set_Accept), v4, (.int .i64 t_0_life)] 91]) w0 (wpAnyH Tryd.prog .any (opsAt Tryd.f63 [1, 1, 0]) Qd (Mem (gB F [cellCh b1 [v2, (.bool t_0_set_Accept), v4, (.int .i64 t_0_life)] 91] w0) (feet [cellCh b1 [v2, (.bool t_0_set_Accept), v4, (.int .i64 t_0_life)] 91]) w0 [cellCh b7 [(.int .i64 p_1.xFrom), (.int .i64 p_1.xTo), (.int .i64 p_1.xPort), (.int .i64 p_1.xProto)] 40, snapCh w0 F]) 7 #[true, true, true, true, true, true, true, true, true, true, true, false, false, false, false, false, false, false]) [(34, (.pointer (some ⟨b1, 0, none⟩))), (39, (.agg #[(.int .i64 p_1.xFrom), (.int .i64 p_1.xTo), (.int .i64 p_1.xPort), (.int .i64 p_1.xProto)])), (40, (.int .i64 now_2)), (38, v4), (44, (.int .i64 t_0_life))] [cellCh b7 [(.int .i64 p_1.xFrom), (.int .i64 p_1.xTo), (.int .i64 p_1.xPort), (.int .i64 p_1.xProto)] 40, cellCh b1 [v2, (.bool t_0_set_Accept), v4, (.int .i64 t_0_life)] 91, snapCh w0 F] (L_impl_trackValid t_0_flows p_1 now_2 t_0_life (fun (r83, r85) => k82 r83)) := by
          intro _
          refine d_one (i := 11) rfl (by kernel_rfl) (o_callP (vs := [v4, (.agg #[(.int .i64 p_1.xFrom), (.int .i64 p_1.xTo), (.int .i64 p_1.xPort), (.int .i64 p_1.xProto)]), (.int .i64 now_2), (.int .i64 t_0_life)]) Tryd.call96 rfl rfl (by intro w m h; exact (w_impl_trackValid (F := allB [] w) (list_0 := t_0_flows) (p_1 := p_1) (now_2 := now_2) (life_3 := t_0_life) allB_ok (m.rd0 2 rfl (reads_snap hv4)) (m.rd0 2 rfl (reads_snap hgl0)) h).mono (fun _ _ k => ret_free (fun r u => (fr_cons (free_own flelGFlow) fr_nil)) k)) ?_); rintro ⟨r83, r85⟩ v84
          refine d_and (fun w m => m.pick [1, 3] rfl) ?_
          refine pk [0, 1, 2, 3] rfl ?_
          refine re (E' := [(34, (.pointer (some ⟨b1, 0, none⟩))), (45, (.tuple #[v84, (.bool r85)]))]) ⟨rfl, rfl, trivial⟩ ?_
          exact H585 r83 v84 r85
        have H587 : ∀ (_ : Unit), Nx 50 (gB F [cellCh b1 [v2, (.bool t_0_set_Accept), v4, (.int .i64 t_0_life)] 91] w0) (feet [cellCh b1 [v2, (.bool t_0_set_Accept), v4, (.int .i64 t_0_life)] 91]) w0 (wpAnyH Tryd.prog .any (opsAt Tryd.f63 [1, 1, 0]) Qd (Mem (gB F [cellCh b1 [v2, (.bool t_0_set_Accept), v4, (.int .i64 t_0_life)] 91] w0) (feet [cellCh b1 [v2, (.bool t_0_set_Accept), v4, (.int .i64 t_0_life)] 91]) w0 [cellCh b7 [(.int .i64 p_1.xFrom), (.int .i64 p_1.xTo), (.int .i64 p_1.xPort), (.int .i64 p_1.xProto)] 40, snapCh w0 F]) 8 #[true, true, true, true, true, true, true, true, true, true, false, false, false, false, false, false, false, false]) [(34, (.pointer (some ⟨b1, 0, none⟩))), (39, (.agg #[(.int .i64 p_1.xFrom), (.int .i64 p_1.xTo), (.int .i64 p_1.xPort), (.int .i64 p_1.xProto)])), (40, (.int .i64 now_2)), (43, (.pointer (some ⟨b1, 3, none⟩))), (38, v4)] [cellCh b7 [(.int .i64 p_1.xFrom), (.int .i64 p_1.xTo), (.int .i64 p_1.xPort), (.int .i64 p_1.xProto)] 40, cellCh b1 [v2, (.bool t_0_set_Accept), v4, (.int .i64 t_0_life)] 91, snapCh w0 F] (L_impl_trackValid t_0_flows p_1 now_2 t_0_life (fun (r83, r85) => k82 r83)) := by
          intro _
          refine d_one (i := 10) rfl (by kernel_rfl) (o_ldc m_op (v := (.int .i64 t_0_life)) 1 rfl rfl rfl ty3 rfl ?_)
          refine d_and (fun w m => m.pick [0, 2] rfl) ?_
          refine pk [0, 1, 2] rfl ?_
          refine re (E' := [(34, (.pointer (some ⟨b1, 0, none⟩))), (39, (.agg #[(.int .i64 p_1.xFrom), (.int .i64 p_1.xTo), (.int .i64 p_1.xPort), (.int .i64 p_1.xProto)])), (40, (.int .i64 now_2)), (38, v4), (44, (.int .i64 t_0_life))]) ⟨rfl, rfl, rfl, rfl, rfl, trivial⟩ ?_
          exact H586 ()
        have H588 : ∀ (_ : Unit), Nx 50 (gB F [cellCh b1 [v2, (.bool t_0_set_Accept), v4, (.int .i64 t_0_life)] 91] w0) (feet [cellCh b1 [v2, (.bool t_0_set_Accept), v4, (.int .i64 t_0_life)] 91]) w0 (wpAnyH Tryd.prog .any (opsAt Tryd.f63 [1, 1, 0]) Qd (Mem (gB F [cellCh b1 [v2, (.bool t_0_set_Accept), v4, (.int .i64 t_0_life)] 91] w0) (feet [cellCh b1 [v2, (.bool t_0_set_Accept), v4, (.int .i64 t_0_life)] 91]) w0 [cellCh b7 [(.int .i64 p_1.xFrom), (.int .i64 p_1.xTo), (.int .i64 p_1.xPort), (.int .i64 p_1.xProto)] 40, snapCh w0 F]) 8 #[true, true, true, true, false, true, true, true, true, true, true, false, false, false, false, false, false, false]) [(34, (.pointer (some ⟨b1, 0, none⟩))), (37, (.pointer (some ⟨b1, 2, none⟩))), (39, (.agg #[(.int .i64 p_1.xFrom), (.int .i64 p_1.xTo), (.int .i64 p_1.xPort), (.int .i64 p_1.xProto)])), (40, (.int .i64 now_2)), (44, (.int .i64 t_0_life))] [cellCh b7 [(.int .i64 p_1.xFrom), (.int .i64 p_1.xTo), (.int .i64 p_1.xPort), (.int .i64 p_1.xProto)] 40, cellCh b1 [v2, (.bool t_0_set_Accept), v4, (.int .i64 t_0_life)] 91, snapCh w0 F] (L_impl_trackValid t_0_flows p_1 now_2 t_0_life (fun (r83, r85) => k82 r83)) := by
          intro _
          refine d_one (i := 4) rfl (by kernel_rfl) (o_ldc m_op (v := v4) 1 rfl rfl rfl ty53 rfl ?_)
          refine d_and (fun w m => m.pick [0, 2] rfl) ?_
          refine pk [0, 1, 2] rfl ?_
          refine re (E' := [(34, (.pointer (some ⟨b1, 0, none⟩))), (39, (.agg #[(.int .i64 p_1.xFrom), (.int .i64 p_1.xTo), (.int .i64 p_1.xPort), (.int .i64 p_1.xProto)])), (40, (.int .i64 now_2)), (38, v4), (44, (.int .i64 t_0_life))]) ⟨rfl, rfl, rfl, rfl, rfl, trivial⟩ ?_
          exact H586 ()
        refine o_mv (dt 0 (fun w m => m.pick [0, 2] rfl)) rfl rfl ?_
        refine o_mv (dt 1 (fun w m => m.pick [0, 2] rfl)) rfl rfl ?_
        refine o_nilc (dt 2 (fun w m => m.pick [0, 2] rfl)) rfl rfl ?_
        refine o_fad (dt 3 (fun w m => m.pick [0, 2] rfl)) rfl rfl fld91_1 rfl ?_
        refine o_ldc (dt 5 (fun w m => m.pick [0, 2] rfl)) (v := (.agg #[(.int .i64 p_1.xFrom), (.int .i64 p_1.xTo), (.int .i64 p_1.xPort), (.int .i64 p_1.xProto)])) 0 rfl rfl rfl ty40 rfl ?_
        refine o_mv (dt 6 (fun w m => m.pick [0, 2] rfl)) rfl rfl ?_
        refine o_mv (dt 7 (fun w m => m.pick [0, 2] rfl)) rfl rfl ?_
        refine o_nilc (dt 8 (fun w m => m.pick [0, 2] rfl)) rfl rfl ?_
        refine o_fad (dt 9 (fun w m => m.pick [0, 2] rfl)) rfl rfl fld91_2 rfl ?_
        refine d_two (i := 4) (j := 10) rfl rfl (by kernel_rfl) ?_ ?_
        · intro o ho; cases ho
          refine o_ldc m_op (v := v4) 1 rfl rfl rfl ty53 rfl ?_
          refine d_and (fun w m => m.pick [0, 2] rfl) ?_
          refine pk [0, 1, 2] rfl ?_
          refine re (E' := [(34, (.pointer (some ⟨b1, 0, none⟩))), (39, (.agg #[(.int .i64 p_1.xFrom), (.int .i64 p_1.xTo), (.int .i64 p_1.xPort), (.int .i64 p_1.xProto)])), (40, (.int .i64 now_2)), (43, (.pointer (some ⟨b1, 3, none⟩))), (38, v4)]) ⟨rfl, rfl, rfl, rfl, rfl, trivial⟩ ?_
          exact H587 ()
        · intro o ho; cases ho
          refine o_ldc m_op (v := (.int .i64 t_0_life)) 1 rfl rfl rfl ty3 rfl ?_
          refine d_and (fun w m => m.pick [0, 2] rfl) ?_
          refine pk [0, 1, 2] rfl ?_
          refine re (E' := [(34, (.pointer (some ⟨b1, 0, none⟩))), (37, (.pointer (some ⟨b1, 2, none⟩))), (39, (.agg #[(.int .i64 p_1.xFrom), (.int .i64 p_1.xTo), (.int .i64 p_1.xPort), (.int .i64 p_1.xProto)])), (40, (.int .i64 now_2)), (44, (.int .i64 t_0_life))]) ⟨rfl, rfl, rfl, rfl, rfl, trivial⟩ ?_
          exact H588 ()
      · rintro xs79 a w ⟨v80, hE, hm⟩ h
        refine nx_of hE hm h ?_
        clear hE hm h
        refine c_seq ?_
        refine c_region ?_
        refine o_as st rfl rfl ?_
        refine c_nil ?_
        refine l_then ?_
        refine c_ret ?_
        exact l_end1 Tryd.results63 (true, xs79) v80 (rv_t rfl) (fun w m => NewCh.ofB m [1, 0] rfl)

set_option maxRecDepth 100000 in
set_option maxHeartbeats 8000000 in
theorem w_spec_l20Life {w0 : World} {F : Nat → Prop} {b1 : Nat} {v2 : Value} {r_0_b : (List UInt8)} {r_0_p : Int} {κ : (Int × Int) → Prop} (hF : ∀ b, F b → b < w0.heap.size ∧ ¬ feet [cellCh b1 [v2, (.int .i64 r_0_p)] 122] b) (hg : Given [cellCh b1 [v2, (.int .i64 r_0_p)] 122] F w0) (hv2 : Sl elU8 F w0 v2 r_0_b) (h : L_spec_l20Life r_0_b r_0_p κ) :
    Calls Tryd.prog 67 #[(.pointer (some ⟨b1, 0, none⟩))] w0 (Ret [cellCh b1 [v2, (.int .i64 r_0_p)] 122] F w0 κ (fun (r : (Int × Int)) (u : Unit) => (.int .i64 r.1)) (fun (r : (Int × Int)) (u : Unit) => [cellCh b1 [v2, (.int .i64 r.2)] 122])) := by
  refine enterS (args := [(.pointer (some ⟨b1, 0, none⟩))]) [cellCh b1 [v2, (.int .i64 r_0_p)] 122] hF hg Tryd.func67 rfl Tryd.ntmps67 rfl h ?_
  clear h hF hg
  refine c_seq ?_
  refine c_region ?_
  refine o_as st rfl rfl ?_
  refine c_nil ?_
  refine l_then ?_
  refine c_seq ?_
  refine c_region ?_
  refine o_mv st rfl rfl ?_
  refine stw (o_call (vs := [(.pointer (some ⟨b1, 0, none⟩)), (.int .i64 60)]) (M0 := [cellCh b1 [v2, (.int .i64 r_0_p)] 122]) Tryd.call68 rfl rfl (by intro w m h; exact (w_spec_l20Rd_pick (F := allB [cellCh b1 [v2, (.int .i64 r_0_p)] 122] w) (r_0_b := r_0_b) (r_0_p := r_0_p) (n_1 := 60) allB_ok m.given (m.rdM 0 rfl (reads_snap hv2)) h).mono (fun _ _ k => ret_free (fun r u => (fr_cons free_cell fr_nil)) k)) ?_); rintro ⟨r5, r6⟩ _
  refine stw (o_bsl (enc := encInt) (qs := [(0, (.int .i64 r5)), (1, (.int .i64 0)), (2, (.int .i64 1000)), (3, (.int .i64 (-1))), (4, (.int .i64 1001))]) (cells := [(.int .i64 r5), (.int .i64 0), (.int .i64 1000), (.int .i64 (-1)), (.int .i64 1001)]) ([r5, 0, 1000, (-1), 1001]) flelInt (by intro ρ h; simp only [List.map_toArray, List.map_cons, List.map_nil, h (.tmp 4) _ rfl, h (.const (.int .i64 0)) _ rfl, h (.const (.int .i64 1000)) _ rfl, h (.const (.int .i64 (-1))) _ rfl, h (.const (.int .i64 1001)) _ rfl]) rfl el99 zero3 rfl rfl rfl rfl rfl rfl ?_); intro v7
  refine stw (o_bsl (enc := encInt) (qs := [(0, (.int .i64 0)), (1, (.int .i64 0)), (2, (.int .i64 0)), (3, (.int .i64 0)), (4, (.int .i64 1)), (5, (.int .i64 2)), (6, (.int .i64 3)), (7, (.int .i64 4))]) (cells := [(.int .i64 0), (.int .i64 0), (.int .i64 0), (.int .i64 0), (.int .i64 1), (.int .i64 2), (.int .i64 3), (.int .i64 4)]) ([0, 0, 0, 0, 1, 2, 3, 4]) flelInt (by intro ρ h; simp only [List.map_toArray, List.map_cons, List.map_nil, h (.const (.int .i64 0)) _ rfl, h (.const (.int .i64 0)) _ rfl, h (.const (.int .i64 0)) _ rfl, h (.const (.int .i64 0)) _ rfl, h (.const (.int .i64 1)) _ rfl, h (.const (.int .i64 2)) _ rfl, h (.const (.int .i64 3)) _ rfl, h (.const (.int .i64 4)) _ rfl]) rfl el99 zero3 rfl rfl rfl rfl rfl rfl ?_); intro v9
  refine o_mv st rfl rfl ?_
  refine pk [2, 0, 1, 3] rfl ?_
  refine stw (o_call (vs := [(.pointer (some ⟨b1, 0, none⟩)), (.int .i64 8)]) (M0 := [cellCh b1 [v2, (.int .i64 r6)] 122]) Tryd.call68 rfl rfl (by intro w m h; exact (w_spec_l20Rd_pick (F := allB [cellCh b1 [v2, (.int .i64 r6)] 122] w) (r_0_b := r_0_b) (r_0_p := r6) (n_1 := 8) allB_ok m.given (m.rdM 2 rfl (reads_snap hv2)) h).mono (fun _ _ k => ret_free (fun r u => (fr_cons free_cell fr_nil)) k)) ?_); rintro ⟨r11, r12⟩ _
  refine o_idx st 1 rfl reads_own rfl rfl rfl el99 ?_; intro e13 h14
  refine o_lds st (enc := encInt) (u := (.int .i64 e13)) 1 rfl reads_own flelInt rfl h14 rfl rfl ty3 rfl ?_
  refine o_idx st 2 rfl reads_own rfl rfl rfl el99 ?_; intro e15 h16
  refine o_lds st (enc := encInt) (u := (.int .i64 e15)) 2 rfl reads_own flelInt rfl h16 rfl rfl ty3 rfl ?_
  refine o_as st rfl rfl ?_
  refine c_nil ?_
  refine l_then ?_
  refine c_ret ?_
  exact l_end1 Tryd.results67 (e15, r12) () (rv_t rfl) (fun w m => NewCh.ofB m [0] rfl)



end
section
open Go.RowKit
set_option maxRecDepth 100000 in
set_option maxHeartbeats 8000000 in
theorem w_impl_Judge {w0 : World} {F : Nat → Prop} {v1 : Value} {s_0 : GRuleset} {p_1 : GPacket} {κ : Bool → Prop} (hF : ∀ b, F b → b < w0.heap.size ∧ ¬ feet [] b) (hv1 : Sl (elSl elGRule) F w0 v1 s_0.xChains) (hgl0 : Sl elGFieldShape F w0 (.slice (some ⟨0, 0, none⟩) 4 4) gl_impl_fieldShapes) (h : L_impl_Judge s_0 p_1 κ) :
    Calls Tryd.prog 27 #[(.agg #[v1, (.bool s_0.xAccept)]), (.agg #[(.int .i64 p_1.xFrom), (.int .i64 p_1.xTo), (.int .i64 p_1.xPort), (.int .i64 p_1.xProto)])] w0 (Ret [] F w0 κ (fun (r : Bool) (u : Unit) => (.bool r)) (fun (r : Bool) (u : Unit) => [])) := by
  refine enterS (args := [(.agg #[v1, (.bool s_0.xAccept)]), (.agg #[(.int .i64 p_1.xFrom), (.int .i64 p_1.xTo), (.int .i64 p_1.xPort), (.int .i64 p_1.xProto)])]) [] hF (Given.nil _ _) Tryd.func27 rfl Tryd.ntmps27 rfl h ?_
  clear h hF
  refine c_seq ?_
  refine c_region ?_
  obtain ⟨a3, l4, q5, hs_⟩ := sl_val hv1; subst hs_
  refine stw (o_box rfl rfl [(.slice a3 l4 q5), (.bool s_0.xAccept)] rfl ?_); intro b6
  refine stw (o_box rfl rfl [(.int .i64 p_1.xFrom), (.int .i64 p_1.xTo), (.int .i64 p_1.xPort), (.int .i64 p_1.xProto)] rfl ?_); intro b8
  refine o_as st rfl rfl ?_
  refine c_nil ?_
  refine l_then ?_
  refine c_seq ?_
  refine c_join (σ := Bool) (fun (t72 : Bool) (a : Act) (w : World) => Has 16 [(2, (.pointer (some ⟨b6, 0, none⟩))), (3, (.pointer (some ⟨b8, 0, none⟩))), (12, (.bool t72))] a ∧ Mem (gB F [] w0) (feet []) w0 [cellCh b8 [(.int .i64 p_1.xFrom), (.int .i64 p_1.xTo), (.int .i64 p_1.xPort), (.int .i64 p_1.xProto)] 40, cellCh b6 [(.slice a3 l4 q5), (.bool s_0.xAccept)] 25, snapCh w0 F] w) ?_ ?_
  · intro k73
    refine c_region ?_
    refine o_ldc st (v := (.agg #[(.slice a3 l4 q5), (.bool s_0.xAccept)])) 1 rfl rfl rfl ty25 rfl ?_
    refine stw (o_callP (vs := [(.agg #[(.slice a3 l4 q5), (.bool s_0.xAccept)])]) Tryd.call52 rfl rfl (by intro w m h; exact (w_impl_RulesetValid (F := allB [] w) (s_0 := s_0) allB_ok (m.rd0 2 rfl (reads_snap hv1)) (m.rd0 2 rfl (reads_snap hgl0)) h).mono (fun _ _ k => ret_free (fun r u => fr_nil) k)) ?_); rintro r10 _
    refine o_not st rfl rfl ?_
    refine o_mv st rfl rfl ?_
    refine st_sp (dj := 8) rfl ?_ ?_
    · refine st_s rfl rfl rfl rfl ?_
      refine st_s rfl rfl rfl rfl ?_
      refine st_s rfl rfl rfl rfl ?_
      refine o_pickT st rfl rfl rfl ?_
      refine c_nil ?_
      exact l_join true (fun a w hE hm => ⟨hE.sub ⟨rfl, rfl, rfl, trivial⟩, (hm.pick [0, 1, 2] rfl)⟩)
    · refine o_ldc (st_g rfl rfl) (v := (.agg #[(.int .i64 p_1.xFrom), (.int .i64 p_1.xTo), (.int .i64 p_1.xPort), (.int .i64 p_1.xProto)])) 0 rfl rfl rfl ty40 rfl ?_
      refine st_gw rfl rfl (o_callP (vs := [(.agg #[(.int .i64 p_1.xFrom), (.int .i64 p_1.xTo), (.int .i64 p_1.xPort), (.int .i64 p_1.xProto)])]) Tryd.call61 rfl rfl (by intro w m h; exact (w_impl_PacketValid (F := allB [] w) (p_0 := p_1) allB_ok (m.rd0 2 rfl (reads_snap hgl0)) h).mono (fun _ _ k => ret_free (fun r u => fr_nil) k)) ?_); rintro r11 _
      refine o_not (st_g rfl rfl) rfl rfl ?_
      refine o_pickF st rfl rfl rfl ?_
      refine c_nil ?_
      exact l_join (!r11) (fun a w hE hm => ⟨hE.sub ⟨rfl, rfl, rfl, trivial⟩, (hm.pick [0, 1, 2] rfl)⟩)
  · rintro t72 a w ⟨hE, hm⟩ h
    refine nx_of hE hm h ?_
    clear hE hm h
    refine c_cond rfl ?_ ?_
    · refine c_seq ?_
      refine c_region ?_
      refine o_as st rfl rfl ?_
      refine c_nil ?_
      refine l_then ?_
      refine c_ret ?_
      refine l_ret ?_
      exact l_end1 Tryd.results27 false () (rv_t rfl) (fun _ _ => NewCh.nil _ _ _ _)
    · refine c_skip ?_
      refine l_then ?_
      refine c_seq ?_
      refine c_region ?_
      refine o_ldc st (v := (.agg #[(.slice a3 l4 q5), (.bool s_0.xAccept)])) 1 rfl rfl rfl ty25 rfl ?_
      refine o_ldc st (v := (.agg #[(.int .i64 p_1.xFrom), (.int .i64 p_1.xTo), (.int .i64 p_1.xPort), (.int .i64 p_1.xProto)])) 0 rfl rfl rfl ty40 rfl ?_
      refine stw (o_callP (vs := [(.agg #[(.slice a3 l4 q5), (.bool s_0.xAccept)]), (.agg #[(.int .i64 p_1.xFrom), (.int .i64 p_1.xTo), (.int .i64 p_1.xPort), (.int .i64 p_1.xProto)])]) Tryd.call54 rfl rfl (by intro w m h; exact (w_impl_judgeValid (F := allB [] w) (s_0 := s_0) (p_1 := p_1) allB_ok (m.rd0 2 rfl (reads_snap hv1)) h).mono (fun _ _ k => ret_free (fun r u => fr_nil) k)) ?_); rintro r74 _
      refine o_as st rfl rfl ?_
      refine c_nil ?_
      refine l_then ?_
      refine c_ret ?_
      exact l_end1 Tryd.results27 r74 () (rv_t rfl) (fun _ _ => NewCh.nil _ _ _ _)



end
section
open Go.RowKit
set_option maxRecDepth 100000 in
set_option maxHeartbeats 8000000 in
theorem w_spec_l20Flows {w0 : World} {F : Nat → Prop} {b1 : Nat} {v2 : Value} {r_0_b : (List UInt8)} {r_0_p : Int} {n_1 : Int} {κ : ((List GFlow) × Int) → Prop} (hF : ∀ b, F b → b < w0.heap.size ∧ ¬ feet [cellCh b1 [v2, (.int .i64 r_0_p)] 122] b) (hg : Given [cellCh b1 [v2, (.int .i64 r_0_p)] 122] F w0) (hv2 : Sl elU8 F w0 v2 r_0_b) (h : L_spec_l20Flows r_0_b r_0_p n_1 κ) :
    Calls Tryd.prog 100 #[(.pointer (some ⟨b1, 0, none⟩)), (.int .i64 n_1)] w0 (Ret [cellCh b1 [v2, (.int .i64 r_0_p)] 122] F w0 κ (fun (r : ((List GFlow) × Int)) (u : Value) => u) (fun (r : ((List GFlow) × Int)) (u : Value) => [ownCh elGFlow 110 u r.1, cellCh b1 [v2, (.int .i64 r.2)] 122])) := by
  refine enterS (args := [(.pointer (some ⟨b1, 0, none⟩)), (.int .i64 n_1)]) [cellCh b1 [v2, (.int .i64 r_0_p)] 122] hF hg Tryd.func100 rfl Tryd.ntmps100 rfl h ?_
  clear h hF hg
  refine c_seq ?_
  refine c_region ?_
  refine stw (o_asn elGFlow 110 rfl rfl ?_)
  refine c_nil ?_
  refine l_then ?_
  refine c_seq ?_
  refine c_region ?_
  refine stw (o_bsl (enc := encGFlow) (qs := []) (cells := []) ([] : (List GFlow)) flelGFlow (by intro ρ h; simp only [List.map_toArray, List.map_cons, List.map_nil]) rfl el53 zero110 rfl rfl rfl rfl rfl rfl ?_); intro v6
  refine o_as st rfl rfl ?_
  refine c_nil ?_
  refine l_then ?_
  refine c_seq ?_
  refine c_seq ?_
  refine c_region ?_
  refine o_mv st rfl rfl ?_
  refine pk [2, 0, 1, 3] rfl ?_
  refine stw (o_call (vs := [(.pointer (some ⟨b1, 0, none⟩)), (.int .i64 7)]) (M0 := [cellCh b1 [v2, (.int .i64 r_0_p)] 122]) Tryd.call68 rfl rfl (by intro w m h; exact (w_spec_l20Rd_pick (F := allB [cellCh b1 [v2, (.int .i64 r_0_p)] 122] w) (r_0_b := r_0_b) (r_0_p := r_0_p) (n_1 := 7) allB_ok m.given (m.rdM 2 rfl (reads_snap hv2)) h).mono (fun _ _ k => ret_free (fun r u => (fr_cons free_cell fr_nil)) k)) ?_); rintro ⟨r8, r9⟩ _
  refine o_as st rfl rfl ?_
  refine c_nil ?_
  refine l_then ?_
  refine c_block ?_
  refine c_loop (σ := (Int × (List GFlow) × Int)) (fun ((t10, xs12, t15) : (Int × (List GFlow) × Int)) (a : Act) (w : World) => ∃ (v11 : Value), Has 74 [(0, (.pointer (some ⟨b1, 0, none⟩))), (1, (.int .i64 n_1)), (5, v11), (6, (.int .i64 t15))] a ∧ Mem (gB F [cellCh b1 [v2, (.int .i64 r_0_p)] 122] w0) (feet [cellCh b1 [v2, (.int .i64 r_0_p)] 122]) w0 [cellCh b1 [v2, (.int .i64 t10)] 122, snapCh w0 F, ownCh elGFlow 110 v11 xs12] w) (fun a w hE hm => ⟨v6, hE.sub ⟨rfl, rfl, rfl, rfl, trivial⟩, (hm.pick [0, 3, 1] rfl)⟩) ?_
  rintro nx16 ⟨t10, xs12, t15⟩ a w ⟨v11, hE, hm⟩ h
  refine nx_of hE hm h ?_
  clear hE hm h
  refine c_seq ?_
  refine c_seq ?_
  refine c_region ?_
  refine o_mv st rfl rfl ?_
  refine o_gtr st rfl rfl rfl ?_
  refine c_nil ?_
  refine l_then ?_
  refine c_cond rfl ?_ ?_
  · refine c_skip ?_
    refine l_then ?_
    refine c_seq ?_
    refine c_block ?_
    refine c_region ?_
    refine o_mv st rfl rfl ?_
    refine o_mv st rfl rfl ?_
    refine stw (o_call (vs := [(.pointer (some ⟨b1, 0, none⟩)), (.int .i64 0)]) (M0 := [cellCh b1 [v2, (.int .i64 t10)] 122]) Tryd.call86 rfl rfl (by intro w m h; exact (w_spec_l20Packet (F := allB [cellCh b1 [v2, (.int .i64 t10)] 122] w) (r_0_b := r_0_b) (r_0_p := t10) (n_1 := 0) allB_ok m.given (m.rdM 0 rfl (reads_snap hv2)) h).mono (fun _ _ k => ret_free (fun r u => (fr_cons free_cell fr_nil)) k)) ?_); rintro ⟨r17, r18⟩ _
    refine o_mv st rfl rfl ?_
    refine stw (o_call (vs := [(.pointer (some ⟨b1, 0, none⟩)), (.int .i64 60)]) (M0 := [cellCh b1 [v2, (.int .i64 r18)] 122]) Tryd.call68 rfl rfl (by intro w m h; exact (w_spec_l20Rd_pick (F := allB [cellCh b1 [v2, (.int .i64 r18)] 122] w) (r_0_b := r_0_b) (r_0_p := r18) (n_1 := 60) allB_ok m.given (m.rdM 0 rfl (reads_snap hv2)) h).mono (fun _ _ k => ret_free (fun r u => (fr_cons free_cell fr_nil)) k)) ?_); rintro ⟨r19, r20⟩ _
    refine stw (o_callP (vs := [v11, (.agg #[(.int .i64 r17.xFrom), (.int .i64 r17.xTo), (.int .i64 r17.xPort), (.int .i64 r17.xProto)]), (.int .i64 0), (.int .i64 r19)]) Tryd.call75 rfl rfl (by intro w m h; exact (w_spec_TrackFlow (F := allB [] w) (list_0 := xs12) (p_1 := r17) (now_2 := 0) (life_3 := r19) allB_ok (m.rd0 2 rfl reads_own) h).mono (fun _ _ k => ret_free (fun r u => (fr_cons (free_own flelGFlow) fr_nil)) k)) ?_); rintro ⟨r21, r24⟩ v22
    refine o_mv st rfl rfl ?_
    refine o_ext st (vs := [v22, (.bool r24)]) rfl rfl rfl ?_
    refine o_ext st (vs := [v22, (.bool r24)]) rfl rfl rfl ?_
    refine o_as st rfl rfl ?_
    refine c_nil ?_
    refine b_norm ?_
    refine l_then ?_
    refine c_region ?_
    refine o_mv st rfl rfl ?_
    refine o_sub st rfl rfl rfl ?_; intro t25
    refine o_as st rfl rfl ?_
    refine c_nil ?_
    exact l_join (r20, r21, t25) (fun a w hE hm => ⟨v22, hE.sub ⟨rfl, rfl, rfl, rfl, trivial⟩, (hm.pick [1, 2, 0] rfl)⟩)
  · refine c_exit ?_
    refine l_exit ?_
    refine l_exit ?_
    refine b_exit ?_
    refine l_then ?_
    refine c_join (σ := (Int × (List GFlow))) (fun ((t100, xs102) : (Int × (List GFlow))) (a : Act) (w : World) => ∃ (v101 : Value), Has 74 [(0, (.pointer (some ⟨b1, 0, none⟩))), (1, (.int .i64 n_1)), (5, v101)] a ∧ Mem (gB F [cellCh b1 [v2, (.int .i64 r_0_p)] 122] w0) (feet [cellCh b1 [v2, (.int .i64 r_0_p)] 122]) w0 [cellCh b1 [v2, (.int .i64 t100)] 122, snapCh w0 F, ownCh elGFlow 110 v101 xs102] w) ?_ ?_
    · intro k105
      refine c_seq ?_
      refine c_region ?_
      refine o_mv st rfl rfl ?_
      refine stw (o_call (vs := [(.pointer (some ⟨b1, 0, none⟩)), (.int .i64 14)]) (M0 := [cellCh b1 [v2, (.int .i64 t10)] 122]) Tryd.call85 rfl rfl (by intro w m h; exact (w_spec_l20Rd_odd (F := allB [cellCh b1 [v2, (.int .i64 t10)] 122] w) (r_0_b := r_0_b) (r_0_p := t10) (n_1 := 14) allB_ok m.given (m.rdM 0 rfl (reads_snap hv2)) h).mono (fun _ _ k => ret_free (fun r u => (fr_cons free_cell fr_nil)) k)) ?_); rintro ⟨r26, r27⟩ _
      refine c_nil ?_
      refine l_then ?_
      refine c_cond rfl ?_ ?_
      · refine c_seq ?_
        refine c_region ?_
        refine o_as st rfl rfl ?_
        refine c_nil ?_
        refine l_then ?_
        refine c_block ?_
        refine c_loop (σ := ((List GFlow) × Int)) (fun ((xs29, t32) : ((List GFlow) × Int)) (a : Act) (w : World) => ∃ (v28 : Value), Has 74 [(0, (.pointer (some ⟨b1, 0, none⟩))), (1, (.int .i64 n_1)), (5, v28), (7, (.int .i64 t32))] a ∧ Mem (gB F [cellCh b1 [v2, (.int .i64 r_0_p)] 122] w0) (feet [cellCh b1 [v2, (.int .i64 r_0_p)] 122]) w0 [cellCh b1 [v2, (.int .i64 r27)] 122, snapCh w0 F, ownCh elGFlow 110 v28 xs29] w) (fun a w hE hm => ⟨v11, hE.sub ⟨rfl, rfl, rfl, rfl, trivial⟩, (hm.pick [0, 1, 2] rfl)⟩) ?_
        rintro nx33 ⟨xs29, t32⟩ a w ⟨v28, hE, hm⟩ h
        refine nx_of hE hm h ?_
        clear hE hm h
        refine c_seq ?_
        refine c_seq ?_
        refine c_region ?_
        refine o_mv st rfl rfl ?_
        refine o_len st el53 2 rfl reads_own rfl rfl ?_
        refine o_lss st rfl rfl rfl ?_
        refine c_nil ?_
        refine l_then ?_
        refine c_cond rfl ?_ ?_
        · refine c_skip ?_
          refine l_then ?_
          refine c_seq ?_
          refine c_block ?_
          refine c_region ?_
          refine o_mv st rfl rfl ?_
          refine o_mv st rfl rfl ?_
          refine o_add st rfl rfl rfl ?_; intro t34
          refine o_bld st (qs := [(0, (.int .i64 t34))]) (cells := [(.int .i64 t34), (.int .i64 0), (.int .i64 0), (.int .i64 0)]) (by intro ρ h; simp only [List.map_toArray, List.map_cons, List.map_nil, h (.tmp 33) _ rfl]) rfl bld40 rfl ?_
          refine o_bld st (qs := [(0, (.agg #[(.int .i64 t34), (.int .i64 0), (.int .i64 0), (.int .i64 0)])), (1, (.int .i64 30))]) (cells := [(.int .i64 t34), (.int .i64 0), (.int .i64 0), (.int .i64 0), (.int .i64 30)]) (by intro ρ h; simp only [List.map_toArray, List.map_cons, List.map_nil, h (.tmp 34) _ rfl, h (.const (.int .i64 30)) _ rfl]) rfl bld110 rfl ?_
          refine stw (o_bsl (enc := encGFlow) (qs := [(0, (.agg #[(.int .i64 t34), (.int .i64 0), (.int .i64 0), (.int .i64 0), (.int .i64 30)]))]) (cells := [(.int .i64 t34), (.int .i64 0), (.int .i64 0), (.int .i64 0), (.int .i64 30)]) ([(GFlow.mk (GPacket.mk t34 0 0 0) 30)]) flelGFlow (by intro ρ h; simp only [List.map_toArray, List.map_cons, List.map_nil, h (.tmp 35) _ rfl]) rfl el53 zero110 rfl rfl rfl rfl rfl rfl ?_); intro v35
          refine stw (o_app 3 0 rfl rfl (src_flat flelGFlow reads_own) rfl rfl rfl el53 rfl zero110 rfl rfl ?_); intro v37
          refine o_as st rfl rfl ?_
          refine c_nil ?_
          refine b_norm ?_
          refine l_then ?_
          refine c_region ?_
          refine o_mv st rfl rfl ?_
          refine o_add st rfl rfl rfl ?_; intro t39
          refine o_as st rfl rfl ?_
          refine c_nil ?_
          exact l_join ((xs29 ++ ([(GFlow.mk (GPacket.mk t34 0 0 0) 30)])), t39) (fun a w hE hm => ⟨v37, hE.sub ⟨rfl, rfl, rfl, rfl, trivial⟩, (hm.pick [1, 2, 3] rfl)⟩)
        · refine c_exit ?_
          refine l_exit ?_
          refine l_exit ?_
          refine b_exit ?_
          exact l_join (r27, xs29) (fun a w hE hm => ⟨v28, hE.sub ⟨rfl, rfl, rfl, trivial⟩, (hm.pick [0, 1, 2] rfl)⟩)
      · refine c_skip ?_
        exact l_join (r27, xs12) (fun a w hE hm => ⟨v11, hE.sub ⟨rfl, rfl, rfl, trivial⟩, (hm.pick [0, 1, 2] rfl)⟩)
    · rintro ⟨t100, xs102⟩ a w ⟨v101, hE, hm⟩ h
      refine nx_of hE hm h ?_
      clear hE hm h
      refine c_join (σ := (Int × (List GFlow))) (fun ((t193, xs195) : (Int × (List GFlow))) (a : Act) (w : World) => ∃ (v194 : Value), Has 74 [(5, v194)] a ∧ Mem (gB F [cellCh b1 [v2, (.int .i64 r_0_p)] 122] w0) (feet [cellCh b1 [v2, (.int .i64 r_0_p)] 122]) w0 [cellCh b1 [v2, (.int .i64 t193)] 122, snapCh w0 F, ownCh elGFlow 110 v194 xs195] w) ?_ ?_
      · intro k198
        refine c_seq ?_
        refine c_region ?_
        refine o_mv st rfl rfl ?_
        refine o_mv st rfl rfl ?_
        refine stw (o_call (vs := [(.pointer (some ⟨b1, 0, none⟩)), (.int .i64 n_1)]) (M0 := [cellCh b1 [v2, (.int .i64 t100)] 122]) Tryd.call85 rfl rfl (by intro w m h; exact (w_spec_l20Rd_odd (F := allB [cellCh b1 [v2, (.int .i64 t100)] 122] w) (r_0_b := r_0_b) (r_0_p := t100) (n_1 := n_1) allB_ok m.given (m.rdM 0 rfl (reads_snap hv2)) h).mono (fun _ _ k => ret_free (fun r u => (fr_cons free_cell fr_nil)) k)) ?_); rintro ⟨r106, r107⟩ _
        refine c_nil ?_
        refine l_then ?_
        refine c_cond rfl ?_ ?_
        · refine c_seq ?_
          refine c_region ?_
          refine o_mv st rfl rfl ?_
          refine stw (o_call (vs := [(.pointer (some ⟨b1, 0, none⟩)), (.int .i64 4)]) (M0 := [cellCh b1 [v2, (.int .i64 r107)] 122]) Tryd.call68 rfl rfl (by intro w m h; exact (w_spec_l20Rd_pick (F := allB [cellCh b1 [v2, (.int .i64 r107)] 122] w) (r_0_b := r_0_b) (r_0_p := r107) (n_1 := 4) allB_ok m.given (m.rdM 0 rfl (reads_snap hv2)) h).mono (fun _ _ k => ret_free (fun r u => (fr_cons free_cell fr_nil)) k)) ?_); rintro ⟨r108, r109⟩ _
          refine c_nil ?_
          refine l_then ?_
          refine c_block ?_
          refine c_seq ?_
          refine c_region ?_
          refine o_eql st und3 rfl rfl rfl ?_
          refine o_as st rfl rfl ?_
          refine c_nil ?_
          refine l_then ?_
          refine c_cond rfl ?_ ?_
          · refine c_region ?_
            refine o_mv st rfl rfl ?_
            refine o_mv st rfl rfl ?_
            refine stw (o_call (vs := [(.pointer (some ⟨b1, 0, none⟩)), (.int .i64 1)]) (M0 := [cellCh b1 [v2, (.int .i64 r109)] 122]) Tryd.call86 rfl rfl (by intro w m h; exact (w_spec_l20Packet (F := allB [cellCh b1 [v2, (.int .i64 r109)] 122] w) (r_0_b := r_0_b) (r_0_p := r109) (n_1 := 1) allB_ok m.given (m.rdM 0 rfl (reads_snap hv2)) h).mono (fun _ _ k => ret_free (fun r u => (fr_cons free_cell fr_nil)) k)) ?_); rintro ⟨r110, r111⟩ _
            refine o_bld st (qs := [(0, (.agg #[(.int .i64 r110.xFrom), (.int .i64 r110.xTo), (.int .i64 r110.xPort), (.int .i64 r110.xProto)]))]) (cells := [(.int .i64 r110.xFrom), (.int .i64 r110.xTo), (.int .i64 r110.xPort), (.int .i64 r110.xProto), (.int .i64 0)]) (by intro ρ h; simp only [List.map_toArray, List.map_cons, List.map_nil, h (.tmp 48) _ rfl]) rfl bld110 rfl ?_
            refine stw (o_bsl (enc := encGFlow) (qs := [(0, (.agg #[(.int .i64 r110.xFrom), (.int .i64 r110.xTo), (.int .i64 r110.xPort), (.int .i64 r110.xProto), (.int .i64 0)]))]) (cells := [(.int .i64 r110.xFrom), (.int .i64 r110.xTo), (.int .i64 r110.xPort), (.int .i64 r110.xProto), (.int .i64 0)]) ([(GFlow.mk r110 0)]) flelGFlow (by intro ρ h; simp only [List.map_toArray, List.map_cons, List.map_nil, h (.tmp 49) _ rfl]) rfl el53 zero110 rfl rfl rfl rfl rfl rfl ?_); intro v112
            refine stw (o_app 3 0 rfl rfl (src_flat flelGFlow reads_own) rfl rfl rfl el53 rfl zero110 rfl rfl ?_); intro v114
            refine o_as st rfl rfl ?_
            refine c_nil ?_
            refine b_norm ?_
            exact l_join (r111, (xs102 ++ ([(GFlow.mk r110 0)]))) (fun a w hE hm => ⟨v114, hE.sub ⟨rfl, trivial⟩, (hm.pick [1, 2, 3] rfl)⟩)
          · refine c_seq ?_
            refine c_region ?_
            refine o_eql st und3 rfl rfl rfl ?_
            refine o_as st rfl rfl ?_
            refine c_nil ?_
            refine l_then ?_
            refine c_cond rfl ?_ ?_
            · refine c_region ?_
              refine o_mv st rfl rfl ?_
              refine o_bld st (qs := [(0, (.int .i64 7777))]) (cells := [(.int .i64 7777), (.int .i64 0), (.int .i64 0), (.int .i64 0)]) (by intro ρ h; simp only [List.map_toArray, List.map_cons, List.map_nil, h (.const (.int .i64 7777)) _ rfl]) rfl bld40 rfl ?_
              refine stw (o_bsl (enc := encInt) (qs := [(0, (.int .i64 (-1))), (1, (.int .i64 1000001))]) (cells := [(.int .i64 (-1)), (.int .i64 1000001)]) ([(-1), 1000001]) flelInt (by intro ρ h; simp only [List.map_toArray, List.map_cons, List.map_nil, h (.const (.int .i64 (-1))) _ rfl, h (.const (.int .i64 1000001)) _ rfl]) rfl el99 zero3 rfl rfl rfl rfl rfl rfl ?_); intro v116
              refine o_mv st rfl rfl ?_
              refine pk [1, 0, 2, 3] rfl ?_
              refine stw (o_call (vs := [(.pointer (some ⟨b1, 0, none⟩)), (.int .i64 2)]) (M0 := [cellCh b1 [v2, (.int .i64 r109)] 122]) Tryd.call68 rfl rfl (by intro w m h; exact (w_spec_l20Rd_pick (F := allB [cellCh b1 [v2, (.int .i64 r109)] 122] w) (r_0_b := r_0_b) (r_0_p := r109) (n_1 := 2) allB_ok m.given (m.rdM 1 rfl (reads_snap hv2)) h).mono (fun _ _ k => ret_free (fun r u => (fr_cons free_cell fr_nil)) k)) ?_); rintro ⟨r118, r119⟩ _
              refine o_idx st 1 rfl reads_own rfl rfl rfl el99 ?_; intro e120 h121
              refine o_lds st (enc := encInt) (u := (.int .i64 e120)) 1 rfl reads_own flelInt rfl h121 rfl rfl ty3 rfl ?_
              refine o_bld st (qs := [(0, (.agg #[(.int .i64 7777), (.int .i64 0), (.int .i64 0), (.int .i64 0)])), (1, (.int .i64 e120))]) (cells := [(.int .i64 7777), (.int .i64 0), (.int .i64 0), (.int .i64 0), (.int .i64 e120)]) (by intro ρ h; simp only [List.map_toArray, List.map_cons, List.map_nil, h (.tmp 55) _ rfl, h (.tmp 60) _ rfl]) rfl bld110 rfl ?_
              refine stw (o_bsl (enc := encGFlow) (qs := [(0, (.agg #[(.int .i64 7777), (.int .i64 0), (.int .i64 0), (.int .i64 0), (.int .i64 e120)]))]) (cells := [(.int .i64 7777), (.int .i64 0), (.int .i64 0), (.int .i64 0), (.int .i64 e120)]) ([(GFlow.mk (GPacket.mk 7777 0 0 0) e120)]) flelGFlow (by intro ρ h; simp only [List.map_toArray, List.map_cons, List.map_nil, h (.tmp 61) _ rfl]) rfl el53 zero110 rfl rfl rfl rfl rfl rfl ?_); intro v122
              refine stw (o_app 4 0 rfl rfl (src_flat flelGFlow reads_own) rfl rfl rfl el53 rfl zero110 rfl rfl ?_); intro v124
              refine o_as st rfl rfl ?_
              refine c_nil ?_
              refine b_norm ?_
              exact l_join (r119, (xs102 ++ ([(GFlow.mk (GPacket.mk 7777 0 0 0) e120)]))) (fun a w hE hm => ⟨v124, hE.sub ⟨rfl, trivial⟩, (hm.pick [1, 3, 4] rfl)⟩)
            · refine c_seq ?_
              refine c_region ?_
              refine o_eql st und3 rfl rfl rfl ?_
              refine o_as st rfl rfl ?_
              refine c_nil ?_
              refine l_then ?_
              refine c_cond rfl ?_ ?_
              · refine c_region ?_
                refine o_mv st rfl rfl ?_
                refine o_bld st (qs := [(0, (.int .i64 5)), (1, (.int .i64 6))]) (cells := [(.int .i64 5), (.int .i64 6), (.int .i64 0), (.int .i64 0)]) (by intro ρ h; simp only [List.map_toArray, List.map_cons, List.map_nil, h (.const (.int .i64 5)) _ rfl, h (.const (.int .i64 6)) _ rfl]) rfl bld40 rfl ?_
                refine o_bld st (qs := [(0, (.agg #[(.int .i64 5), (.int .i64 6), (.int .i64 0), (.int .i64 0)]))]) (cells := [(.int .i64 5), (.int .i64 6), (.int .i64 0), (.int .i64 0), (.int .i64 0)]) (by intro ρ h; simp only [List.map_toArray, List.map_cons, List.map_nil, h (.tmp 67) _ rfl]) rfl bld110 rfl ?_
                refine o_bld st (qs := [(0, (.int .i64 6)), (1, (.int .i64 5))]) (cells := [(.int .i64 6), (.int .i64 5), (.int .i64 0), (.int .i64 0)]) (by intro ρ h; simp only [List.map_toArray, List.map_cons, List.map_nil, h (.const (.int .i64 6)) _ rfl, h (.const (.int .i64 5)) _ rfl]) rfl bld40 rfl ?_
                refine o_bld st (qs := [(0, (.agg #[(.int .i64 6), (.int .i64 5), (.int .i64 0), (.int .i64 0)]))]) (cells := [(.int .i64 6), (.int .i64 5), (.int .i64 0), (.int .i64 0), (.int .i64 0)]) (by intro ρ h; simp only [List.map_toArray, List.map_cons, List.map_nil, h (.tmp 69) _ rfl]) rfl bld110 rfl ?_
                refine stw (o_bsl (enc := encGFlow) (qs := [(0, (.agg #[(.int .i64 5), (.int .i64 6), (.int .i64 0), (.int .i64 0), (.int .i64 0)])), (1, (.agg #[(.int .i64 6), (.int .i64 5), (.int .i64 0), (.int .i64 0), (.int .i64 0)]))]) (cells := [(.int .i64 5), (.int .i64 6), (.int .i64 0), (.int .i64 0), (.int .i64 0), (.int .i64 6), (.int .i64 5), (.int .i64 0), (.int .i64 0), (.int .i64 0)]) ([(GFlow.mk (GPacket.mk 5 6 0 0) 0), (GFlow.mk (GPacket.mk 6 5 0 0) 0)]) flelGFlow (by intro ρ h; simp only [List.map_toArray, List.map_cons, List.map_nil, h (.tmp 68) _ rfl, h (.tmp 70) _ rfl]) rfl el53 zero110 rfl rfl rfl rfl rfl rfl ?_); intro v126
                refine stw (o_app 3 0 rfl rfl (src_flat flelGFlow reads_own) rfl rfl rfl el53 rfl zero110 rfl rfl ?_); intro v128
                refine o_as st rfl rfl ?_
                refine c_nil ?_
                refine b_norm ?_
                exact l_join (r109, (xs102 ++ ([(GFlow.mk (GPacket.mk 5 6 0 0) 0), (GFlow.mk (GPacket.mk 6 5 0 0) 0)]))) (fun a w hE hm => ⟨v128, hE.sub ⟨rfl, trivial⟩, (hm.pick [1, 2, 3] rfl)⟩)
              · refine c_region ?_
                refine stw (o_make (z := (GFlow.mk (GPacket.mk 0 0 0 0) 0)) flelGFlow rfl rfl rfl el53 rfl zero110 rfl rfl ?_); intro v130 xs131
                refine o_as st rfl rfl ?_
                refine c_nil ?_
                refine b_norm ?_
                exact l_join (r109, xs131) (fun a w hE hm => ⟨v130, hE.sub ⟨rfl, trivial⟩, (hm.pick [1, 2, 0] rfl)⟩)
        · refine c_skip ?_
          exact l_join (r107, xs102) (fun a w hE hm => ⟨v101, hE.sub ⟨rfl, trivial⟩, (hm.pick [0, 1, 2] rfl)⟩)
      · rintro ⟨t193, xs195⟩ a w ⟨v194, hE, hm⟩ h
        refine nx_of hE hm h ?_
        clear hE hm h
        refine c_seq ?_
        refine c_region ?_
        refine o_mv st rfl rfl ?_
        refine o_as st rfl rfl ?_
        refine c_nil ?_
        refine l_then ?_
        refine c_ret ?_
        exact l_end1 Tryd.results100 (xs195, t193) v194 (rv_t rfl) (fun w m => NewCh.ofB m [2, 0] rfl)

end

end Go.Proofs.YtigdghiknfehhaaDoor
