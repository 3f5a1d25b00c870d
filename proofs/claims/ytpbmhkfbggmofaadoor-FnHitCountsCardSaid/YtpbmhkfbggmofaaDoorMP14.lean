/- Texts of this seat, put together. -/
import Derived.Test.YtpbmhkfbggmofaaDoorMP13
set_option linter.unusedSimpArgs false
set_option linter.unusedVariables false
set_option linter.unusedSectionVars false
namespace Go.Proofs.YtpbmhkfbggmofaaDoor
section
open Go.RowKit
set_option maxRecDepth 100000 in
set_option maxHeartbeats 8000000 in
theorem w_impl_lessSpans {w0 : World} {F : Nat → Prop} {v1 : Value} {v3 : Value} {a_0 : (List GSpan)} {b_1 : (List GSpan)} {top_2 : Int} {κ : ((List GSpan) × Bool) → Prop} (hF : ∀ b, F b → b < w0.heap.size ∧ ¬ feet [] b) (hv1 : Sl elGSpan F w0 v1 a_0) (hv3 : Sl elGSpan F w0 v3 b_1) (h : L_impl_lessSpans a_0 b_1 top_2 κ) :
    Calls Tryd.prog 136 #[v1, v3, (.int .i64 top_2)] w0 (Ret [] F w0 κ (fun (r : ((List GSpan) × Bool)) (u : Value) => .tuple #[u, (.bool r.2)]) (fun (r : ((List GSpan) × Bool)) (u : Value) => [roCh elGSpan u r.1])) := by
  refine enterS (args := [v1, v3, (.int .i64 top_2)]) [] hF (Given.nil _ _) Tryd.func136 rfl Tryd.ntmps136 rfl h ?_
  clear h hF
  refine c_seq ?_
  refine c_region ?_
  refine stw (o_asn elGSpan 71 rfl rfl ?_)
  refine o_as st rfl rfl ?_
  refine c_nil ?_
  refine l_then ?_
  refine c_seq ?_
  refine c_region ?_
  refine o_mv st rfl rfl ?_
  refine o_mv st rfl rfl ?_
  refine o_mv st rfl rfl ?_
  refine stw (o_callP (vs := [v1, v3, (.int .i64 top_2), (.func (.func 141) #[] #[])]) Tryd.call140 rfl rfl (by intro w m h; exact (w_impl_sweepSpans__impl_inFirstOnly (F := allB [] w) (a_0 := a_0) (b_1 := b_1) (top_2 := top_2) allB_ok (m.rd0 1 rfl (reads_snap hv1)) (m.rd0 1 rfl (reads_snap hv3)) h).mono (fun _ _ k => ret_free (fun r u => (fr_cons (free_own flelGSpan) fr_nil)) k)) ?_); rintro r6 v7
  refine frz 0 rfl reads_own ?_
  refine stw (o_callP (vs := [v7]) Tryd.call139 rfl rfl (by intro w m h; exact w_impl_limitSpans (list_0 := r6) fz_ok0 (m.ro 0 rfl) h) ?_); rintro ⟨r9, r12⟩ v10
  refine o_ext st (vs := [v10, (.bool r12)]) rfl rfl rfl ?_
  refine o_ext st (vs := [v10, (.bool r12)]) rfl rfl rfl ?_
  refine o_as st rfl rfl ?_
  refine o_as st rfl rfl ?_
  refine c_nil ?_
  refine l_then ?_
  refine c_ret ?_
  exact l_end2 Tryd.results136 (r9, r12) v10 (rv_t rfl) (rv_t rfl) rfl (fun w m => NewCh.ofB m [0] rfl)

set_option maxRecDepth 100000 in
set_option maxHeartbeats 8000000 in
theorem w_impl_inBoth {w0 : World} {F : Nat → Prop} {inA_0 : Bool} {inB_1 : Bool} {κ : Bool → Prop} (hF : ∀ b, F b → b < w0.heap.size ∧ ¬ feet [] b) (h : L_impl_inBoth inA_0 inB_1 κ) :
    Calls Tryd.prog 142 #[(.bool inA_0), (.bool inB_1)] w0 (Ret [] F w0 κ (fun (r : Bool) (u : Unit) => (.bool r)) (fun (r : Bool) (u : Unit) => [])) := by
  refine enter0 (args := [(.bool inA_0), (.bool inB_1)]) [] hF (Given.nil _ _) Tryd.func142 rfl Tryd.ntmps142 rfl h ?_
  clear h hF
  refine c_seq ?_
  refine c_region ?_
  refine o_as st rfl rfl ?_
  refine c_nil ?_
  refine l_then ?_
  refine c_join (σ := Bool) (fun (t61 : Bool) (a : Act) (w : World) => Has 9 [(4, (.bool t61))] a ∧ Mem (gB F [] w0) (feet []) w0 [] w) ?_ ?_
  · intro k62
    refine c_region ?_
    refine o_mv st rfl rfl ?_
    refine o_mv st rfl rfl ?_
    refine st_sp (dj := 6) rfl ?_ ?_
    · refine o_mv (st_g rfl rfl) rfl rfl ?_
      refine o_pickT st rfl rfl rfl ?_
      refine o_as st rfl rfl ?_
      refine c_nil ?_
      exact l_join inB_1 (fun a w hE hm => ⟨hE.sub ⟨rfl, trivial⟩, (hm.pick [] rfl)⟩)
    · refine st_s rfl rfl rfl rfl ?_
      refine o_pickF st rfl rfl rfl ?_
      refine o_as st rfl rfl ?_
      refine c_nil ?_
      exact l_join false (fun a w hE hm => ⟨hE.sub ⟨rfl, trivial⟩, (hm.pick [] rfl)⟩)
  · rintro t61 a w ⟨hE, hm⟩ h
    refine nx_of hE hm h ?_
    clear hE hm h
    refine c_ret ?_
    exact l_end1 Tryd.results142 t61 () (rv_t rfl) (fun _ _ => NewCh.nil _ _ _ _)

set_option maxRecDepth 100000 in
set_option maxHeartbeats 8000000 in
theorem w_impl_sweepSpans__impl_inBoth {w0 : World} {F : Nat → Prop} {v1 : Value} {v3 : Value} {a_0 : (List GSpan)} {b_1 : (List GSpan)} {top_2 : Int} {κ : (List GSpan) → Prop} (hF : ∀ b, F b → b < w0.heap.size ∧ ¬ feet [] b) (hv1 : Sl elGSpan F w0 v1 a_0) (hv3 : Sl elGSpan F w0 v3 b_1) (h : L_impl_sweepSpans__impl_inBoth a_0 b_1 top_2 κ) :
    Calls Tryd.prog 140 #[v1, v3, (.int .i64 top_2), (.func (.func 142) #[] #[])] w0 (Ret [] F w0 κ (fun (r : (List GSpan)) (u : Value) => u) (fun (r : (List GSpan)) (u : Value) => [ownCh elGSpan 71 u r])) := by
  refine enterS (args := [v1, v3, (.int .i64 top_2), (.func (.func 142) #[] #[])]) [] hF (Given.nil _ _) Tryd.func140 rfl Tryd.ntmps140 rfl h ?_
  clear h hF
  refine c_seq ?_
  refine c_region ?_
  refine stw (o_asn elGSpan 71 rfl rfl ?_)
  refine c_nil ?_
  refine l_then ?_
  refine c_seq ?_
  refine c_region ?_
  refine stw (o_asn elGSpan 71 rfl rfl ?_)
  refine c_nil ?_
  refine l_then ?_
  refine c_seq ?_
  refine c_region ?_
  refine o_as st rfl rfl ?_
  refine o_as st rfl rfl ?_
  refine c_nil ?_
  refine l_then ?_
  refine c_seq ?_
  refine c_seq ?_
  refine c_region ?_
  refine o_as st rfl rfl ?_
  refine c_nil ?_
  refine l_then ?_
  refine c_block ?_
  refine c_loop (σ := ((List GSpan) × Int × Int × Int)) (fun ((xs8, t11, t12, t13) : ((List GSpan) × Int × Int × Int)) (a : Act) (w : World) => ∃ (v7 : Value), Has 107 [(0, v1), (1, v3), (2, (.int .i64 top_2)), (3, (.func (.func 142) #[] #[])), (9, v7), (10, (.int .i64 t11)), (11, (.int .i64 t12)), (12, (.int .i64 t13))] a ∧ Mem (gB F [] w0) (feet []) w0 [snapCh w0 F, ownCh elGSpan 71 v7 xs8] w) (fun a w hE hm => ⟨(.slice none 0 0), hE.sub ⟨rfl, rfl, rfl, rfl, rfl, rfl, rfl, rfl, trivial⟩, (hm.pick [2, 0] rfl)⟩) ?_
  rintro nx14 ⟨xs8, t11, t12, t13⟩ a w ⟨v7, hE, hm⟩ h
  refine nx_of hE hm h ?_
  clear hE hm h
  refine c_seq ?_
  refine c_seq ?_
  refine c_region ?_
  refine o_mv st rfl rfl ?_
  refine o_mv st rfl rfl ?_
  refine o_leq st rfl rfl rfl ?_
  refine c_nil ?_
  refine l_then ?_
  refine c_cond rfl ?_ ?_
  · refine c_skip ?_
    refine l_then ?_
    refine c_block ?_
    refine c_seq ?_
    refine c_block ?_
    refine c_loop (σ := Int) (fun (t15 : Int) (a : Act) (w : World) => Has 107 [(0, v1), (1, v3), (2, (.int .i64 top_2)), (3, (.func (.func 142) #[] #[])), (9, v7), (10, (.int .i64 t15)), (11, (.int .i64 t12)), (12, (.int .i64 t13))] a ∧ Mem (gB F [] w0) (feet []) w0 [ownCh elGSpan 71 v7 xs8, snapCh w0 F] w) (fun a w hE hm => ⟨hE.sub ⟨rfl, rfl, rfl, rfl, rfl, rfl, rfl, rfl, trivial⟩, (hm.pick [1, 0] rfl)⟩) ?_
    rintro nx16 t15 a w ⟨hE, hm⟩ h
    refine nx_of hE hm h ?_
    clear hE hm h
    refine c_seq ?_
    refine c_join (σ := Bool) (fun (t79 : Bool) (a : Act) (w : World) => Has 107 [(0, v1), (1, v3), (2, (.int .i64 top_2)), (3, (.func (.func 142) #[] #[])), (9, v7), (10, (.int .i64 t15)), (11, (.int .i64 t12)), (12, (.int .i64 t13)), (34, (.bool t79))] a ∧ Mem (gB F [] w0) (feet []) w0 [ownCh elGSpan 71 v7 xs8, snapCh w0 F] w) ?_ ?_
    · intro k80
      refine c_region ?_
      refine o_mv st rfl rfl ?_
      refine o_mv st rfl rfl ?_
      refine o_len st el72 1 rfl (reads_snap hv1) rfl rfl ?_
      refine o_lss st rfl rfl rfl ?_
      refine o_mv st rfl rfl ?_
      refine st_sp (dj := 26) rfl ?_ ?_
      · refine o_mv (st_g rfl rfl) rfl rfl ?_
        refine o_mv (st_g rfl rfl) rfl rfl ?_
        refine o_idx (st_g rfl rfl) 1 rfl (reads_snap hv1) rfl rfl rfl el72 ?_; intro e17 h18
        refine o_fadS (st_g rfl rfl) 1 rfl (reads_snap hv1) h18 rfl rfl fld71_1 rfl ?_
        refine o_lds (st_g rfl rfl) (enc := encGSpan) (u := (.int .i64 e17.xHi)) 1 rfl (reads_snap hv1) flelGSpan rfl h18 rfl rfl ty3 rfl ?_
        refine o_mv (st_g rfl rfl) rfl rfl ?_
        refine o_lss (st_g rfl rfl) rfl rfl rfl ?_
        refine o_pickT st rfl rfl rfl ?_
        refine c_nil ?_
        exact l_join (decide (e17.xHi < t13)) (fun a w hE hm => ⟨hE.sub ⟨rfl, rfl, rfl, rfl, rfl, rfl, rfl, rfl, rfl, trivial⟩, (hm.pick [0, 1] rfl)⟩)
      · refine st_s rfl rfl rfl rfl ?_
        refine st_s rfl rfl rfl rfl ?_
        refine st_s rfl rfl rfl rfl ?_
        refine st_s rfl rfl rfl rfl ?_
        refine st_s rfl rfl rfl rfl ?_
        refine st_s rfl rfl rfl rfl ?_
        refine st_s rfl rfl rfl rfl ?_
        refine o_pickF st rfl rfl rfl ?_
        refine c_nil ?_
        exact l_join false (fun a w hE hm => ⟨hE.sub ⟨rfl, rfl, rfl, rfl, rfl, rfl, rfl, rfl, rfl, trivial⟩, (hm.pick [0, 1] rfl)⟩)
    · rintro t79 a w ⟨hE, hm⟩ h
      refine nx_of hE hm h ?_
      clear hE hm h
      refine c_cond rfl ?_ ?_
      · refine c_skip ?_
        refine l_then ?_
        refine c_block ?_
        refine c_region ?_
        refine o_mv st rfl rfl ?_
        refine o_add st rfl rfl rfl ?_; intro t81
        refine o_as st rfl rfl ?_
        refine c_nil ?_
        refine b_norm ?_
        exact l_join t81 (fun a w hE hm => ⟨hE.sub ⟨rfl, rfl, rfl, rfl, rfl, rfl, rfl, rfl, trivial⟩, (hm.pick [0, 1] rfl)⟩)
      · refine c_exit ?_
        refine l_exit ?_
        refine l_exit ?_
        refine b_exit ?_
        refine l_then ?_
        refine c_seq ?_
        refine c_block ?_
        refine c_loop (σ := Int) (fun (t82 : Int) (a : Act) (w : World) => Has 107 [(0, v1), (1, v3), (2, (.int .i64 top_2)), (3, (.func (.func 142) #[] #[])), (9, v7), (10, (.int .i64 t15)), (11, (.int .i64 t82)), (12, (.int .i64 t13))] a ∧ Mem (gB F [] w0) (feet []) w0 [ownCh elGSpan 71 v7 xs8, snapCh w0 F] w) (fun a w hE hm => ⟨hE.sub ⟨rfl, rfl, rfl, rfl, rfl, rfl, rfl, rfl, trivial⟩, (hm.pick [0, 1] rfl)⟩) ?_
        rintro nx83 t82 a w ⟨hE, hm⟩ h
        refine nx_of hE hm h ?_
        clear hE hm h
        refine c_seq ?_
        refine c_join (σ := Bool) (fun (t146 : Bool) (a : Act) (w : World) => Has 107 [(0, v1), (1, v3), (2, (.int .i64 top_2)), (3, (.func (.func 142) #[] #[])), (9, v7), (10, (.int .i64 t15)), (11, (.int .i64 t82)), (12, (.int .i64 t13)), (49, (.bool t146))] a ∧ Mem (gB F [] w0) (feet []) w0 [ownCh elGSpan 71 v7 xs8, snapCh w0 F] w) ?_ ?_
        · intro k147
          refine c_region ?_
          refine o_mv st rfl rfl ?_
          refine o_mv st rfl rfl ?_
          refine o_len st el72 1 rfl (reads_snap hv3) rfl rfl ?_
          refine o_lss st rfl rfl rfl ?_
          refine o_mv st rfl rfl ?_
          refine st_sp (dj := 41) rfl ?_ ?_
          · refine o_mv (st_g rfl rfl) rfl rfl ?_
            refine o_mv (st_g rfl rfl) rfl rfl ?_
            refine o_idx (st_g rfl rfl) 1 rfl (reads_snap hv3) rfl rfl rfl el72 ?_; intro e84 h85
            refine o_fadS (st_g rfl rfl) 1 rfl (reads_snap hv3) h85 rfl rfl fld71_1 rfl ?_
            refine o_lds (st_g rfl rfl) (enc := encGSpan) (u := (.int .i64 e84.xHi)) 1 rfl (reads_snap hv3) flelGSpan rfl h85 rfl rfl ty3 rfl ?_
            refine o_mv (st_g rfl rfl) rfl rfl ?_
            refine o_lss (st_g rfl rfl) rfl rfl rfl ?_
            refine o_pickT st rfl rfl rfl ?_
            refine c_nil ?_
            exact l_join (decide (e84.xHi < t13)) (fun a w hE hm => ⟨hE.sub ⟨rfl, rfl, rfl, rfl, rfl, rfl, rfl, rfl, rfl, trivial⟩, (hm.pick [0, 1] rfl)⟩)
          · refine st_s rfl rfl rfl rfl ?_
            refine st_s rfl rfl rfl rfl ?_
            refine st_s rfl rfl rfl rfl ?_
            refine st_s rfl rfl rfl rfl ?_
            refine st_s rfl rfl rfl rfl ?_
            refine st_s rfl rfl rfl rfl ?_
            refine st_s rfl rfl rfl rfl ?_
            refine o_pickF st rfl rfl rfl ?_
            refine c_nil ?_
            exact l_join false (fun a w hE hm => ⟨hE.sub ⟨rfl, rfl, rfl, rfl, rfl, rfl, rfl, rfl, rfl, trivial⟩, (hm.pick [0, 1] rfl)⟩)
        · rintro t146 a w ⟨hE, hm⟩ h
          refine nx_of hE hm h ?_
          clear hE hm h
          refine c_cond rfl ?_ ?_
          · refine c_skip ?_
            refine l_then ?_
            refine c_block ?_
            refine c_region ?_
            refine o_mv st rfl rfl ?_
            refine o_add st rfl rfl rfl ?_; intro t148
            refine o_as st rfl rfl ?_
            refine c_nil ?_
            refine b_norm ?_
            exact l_join t148 (fun a w hE hm => ⟨hE.sub ⟨rfl, rfl, rfl, rfl, rfl, rfl, rfl, rfl, trivial⟩, (hm.pick [0, 1] rfl)⟩)
          · refine c_exit ?_
            refine l_exit ?_
            refine l_exit ?_
            refine b_exit ?_
            refine l_then ?_
            refine c_seq ?_
            refine c_region ?_
            refine o_mv st rfl rfl ?_
            refine o_mv st rfl rfl ?_
            refine nx_note 1 rfl hv1 ?_
            refine stw (o_slc (I := t15) (J := (a_0.length : Int)) 0 rfl rfl rfl rfl rfl el72 rfl ?_); intro v149 xs150
            refine o_mv st rfl rfl ?_
            refine o_mv st rfl rfl ?_
            refine stw (o_callP (vs := [v149, (.int .i64 t13), (.int .i64 top_2)]) Tryd.call145 rfl rfl (by intro w m h; exact (w_impl_stretch (F := allB [] w) (rest_0 := xs150) (at_1 := t13) (top_2 := top_2) allB_ok (m.rd0 0 rfl reads_ro) h).mono (fun _ _ k => ret_free (fun r u => fr_nil) k)) ?_); rintro ⟨r153, r154⟩ _
            refine o_mv st rfl rfl ?_
            refine o_ext st (vs := [(.bool r153), (.int .i64 r154)]) rfl rfl rfl ?_
            refine o_ext st (vs := [(.bool r153), (.int .i64 r154)]) rfl rfl rfl ?_
            refine o_as st rfl rfl ?_
            refine o_as st rfl rfl ?_
            refine c_nil ?_
            refine l_then ?_
            refine c_seq ?_
            refine c_region ?_
            refine o_mv st rfl rfl ?_
            refine o_mv st rfl rfl ?_
            refine nx_note 3 rfl hv3 ?_
            refine stw (o_slc (I := t82) (J := (b_1.length : Int)) 0 rfl rfl rfl rfl rfl el72 rfl ?_); intro v155 xs156
            refine o_mv st rfl rfl ?_
            refine o_mv st rfl rfl ?_
            refine stw (o_callP (vs := [v155, (.int .i64 t13), (.int .i64 top_2)]) Tryd.call145 rfl rfl (by intro w m h; exact (w_impl_stretch (F := allB [] w) (rest_0 := xs156) (at_1 := t13) (top_2 := top_2) allB_ok (m.rd0 0 rfl reads_ro) h).mono (fun _ _ k => ret_free (fun r u => fr_nil) k)) ?_); rintro ⟨r159, r160⟩ _
            refine o_mv st rfl rfl ?_
            refine o_ext st (vs := [(.bool r159), (.int .i64 r160)]) rfl rfl rfl ?_
            refine o_ext st (vs := [(.bool r159), (.int .i64 r160)]) rfl rfl rfl ?_
            refine o_as st rfl rfl ?_
            refine o_as st rfl rfl ?_
            refine c_nil ?_
            refine l_then ?_
            refine c_seq ?_
            refine c_region ?_
            refine o_mv st rfl rfl ?_
            refine o_mv st rfl rfl ?_
            refine o_min st rfl rfl rfl ?_
            refine o_as st rfl rfl ?_
            refine c_nil ?_
            refine l_then ?_
            refine c_join (σ := (List GSpan)) (fun (xs296 : (List GSpan)) (a : Act) (w : World) => ∃ (v297 : Value), Has 107 [(0, v1), (1, v3), (2, (.int .i64 top_2)), (3, (.func (.func 142) #[] #[])), (9, v297), (10, (.int .i64 t15)), (11, (.int .i64 t82)), (17, (.int .i64 (min r154 r160)))] a ∧ Mem (gB F [] w0) (feet []) w0 [ownCh elGSpan 71 v297 xs296, snapCh w0 F] w) ?_ ?_
            · intro k299
              refine c_seq ?_
              refine c_region ?_
              refine o_mv st rfl rfl ?_
              refine o_mv st rfl rfl ?_
              refine o_mv st rfl rfl ?_
              refine stw (o_callXP rfl (runs_val rfl rfl Tryd.call142) rfl (by intro w m h; exact (w_impl_inBoth (F := allB [] w) (inA_0 := r153) (inB_1 := r159) allB_ok h).mono (fun _ _ k => ret_free (fun r u => fr_nil) k)) ?_); rintro r161 _
              refine c_nil ?_
              refine l_then ?_
              refine c_cond rfl ?_ ?_
              · refine c_seq ?_
                refine c_region ?_
                refine o_mv st rfl rfl ?_
                refine o_len st el72 4 rfl reads_own rfl rfl ?_
                refine o_as st rfl rfl ?_
                refine c_nil ?_
                refine l_then ?_
                refine c_join (σ := Bool) (fun (t226 : Bool) (a : Act) (w : World) => Has 107 [(0, v1), (1, v3), (2, (.int .i64 top_2)), (3, (.func (.func 142) #[] #[])), (9, v7), (10, (.int .i64 t15)), (11, (.int .i64 t82)), (12, (.int .i64 t13)), (17, (.int .i64 (min r154 r160))), (18, (.int .i64 (xs8.length : Int))), (91, (.bool t226))] a ∧ Mem (gB F [] w0) (feet []) w0 [ownCh elGSpan 71 v7 xs8, snapCh w0 F] w) ?_ ?_
                · intro k227
                  refine c_region ?_
                  refine o_mv st rfl rfl ?_
                  refine o_gtr st rfl rfl rfl ?_
                  refine o_mv st rfl rfl ?_
                  refine st_sp (dj := 81) rfl ?_ ?_
                  · refine o_mv (st_g rfl rfl) rfl rfl ?_
                    refine o_mv (st_g rfl rfl) rfl rfl ?_
                    refine o_sub (st_g rfl rfl) rfl rfl rfl ?_; intro t162
                    refine o_idx (st_g rfl rfl) 4 rfl reads_own rfl rfl rfl el72 ?_; intro e163 h164
                    refine o_fadS (st_g rfl rfl) 4 rfl reads_own h164 rfl rfl fld71_1 rfl ?_
                    refine o_lds (st_g rfl rfl) (enc := encGSpan) (u := (.int .i64 e163.xHi)) 4 rfl reads_own flelGSpan rfl h164 rfl rfl ty3 rfl ?_
                    refine o_add (st_g rfl rfl) rfl rfl rfl ?_; intro t165
                    refine o_mv (st_g rfl rfl) rfl rfl ?_
                    refine o_eql (st_g rfl rfl) und3 rfl rfl rfl ?_
                    refine o_pickT st rfl rfl rfl ?_
                    refine c_nil ?_
                    exact l_join (decide (t165 = t13)) (fun a w hE hm => ⟨hE.sub ⟨rfl, rfl, rfl, rfl, rfl, rfl, rfl, rfl, rfl, rfl, rfl, trivial⟩, (hm.pick [4, 5] rfl)⟩)
                  · refine st_s rfl rfl rfl rfl ?_
                    refine st_s rfl rfl rfl rfl ?_
                    refine st_s rfl rfl rfl rfl ?_
                    refine st_s rfl rfl rfl rfl ?_
                    refine st_s rfl rfl rfl rfl ?_
                    refine st_s rfl rfl rfl rfl ?_
                    refine st_s rfl rfl rfl rfl ?_
                    refine st_s rfl rfl rfl rfl ?_
                    refine st_s rfl rfl rfl rfl ?_
                    refine o_pickF st rfl rfl rfl ?_
                    refine c_nil ?_
                    exact l_join false (fun a w hE hm => ⟨hE.sub ⟨rfl, rfl, rfl, rfl, rfl, rfl, rfl, rfl, rfl, rfl, rfl, trivial⟩, (hm.pick [4, 5] rfl)⟩)
                · rintro t226 a w ⟨hE, hm⟩ h
                  refine nx_of hE hm h ?_
                  clear hE hm h
                  refine c_cond rfl ?_ ?_
                  · refine c_region ?_
                    refine o_mv st rfl rfl ?_
                    refine o_mv st rfl rfl ?_
                    refine o_sub st rfl rfl rfl ?_; intro t228
                    refine o_mv st rfl rfl ?_
                    refine o_idx st 0 rfl reads_own rfl rfl rfl el72 ?_; intro e229 h230
                    refine o_fadS st 0 rfl reads_own h230 rfl rfl fld71_1 rfl ?_
                    refine stw (o_sts (enc := encGSpan) (y' := (GSpan.mk e229.xLo (min r154 r160))) 0 rfl flelGSpan rfl h230 ty3 rfl rfl rfl rfl rfl rfl ?_)
                    refine c_nil ?_
                    exact l_join (xs8.set (t228).toNat (GSpan.mk e229.xLo (min r154 r160))) (fun a w hE hm => ⟨v7, hE.sub ⟨rfl, rfl, rfl, rfl, rfl, rfl, rfl, rfl, trivial⟩, (hm.pick [0, 1] rfl)⟩)
                  · refine c_region ?_
                    refine o_mv st rfl rfl ?_
                    refine o_mv st rfl rfl ?_
                    refine o_mv st rfl rfl ?_
                    refine o_bld st (qs := [(0, (.int .i64 t13)), (1, (.int .i64 (min r154 r160)))]) (cells := [(.int .i64 t13), (.int .i64 (min r154 r160))]) (by intro ρ h; simp only [List.map_toArray, List.map_cons, List.map_nil, h (.tmp 99) _ rfl, h (.tmp 100) _ rfl]) rfl bld71 rfl ?_
                    refine stw (o_bsl (enc := encGSpan) (qs := [(0, (.agg #[(.int .i64 t13), (.int .i64 (min r154 r160))]))]) (cells := [(.int .i64 t13), (.int .i64 (min r154 r160))]) ([(GSpan.mk t13 (min r154 r160))]) flelGSpan (by intro ρ h; simp only [List.map_toArray, List.map_cons, List.map_nil, h (.tmp 101) _ rfl]) rfl el72 zero71 rfl rfl rfl rfl rfl rfl ?_); intro v232
                    refine stw (o_app 1 0 rfl rfl (src_flat flelGSpan reads_own) rfl rfl rfl el72 rfl zero71 rfl rfl ?_); intro v234
                    refine o_as st rfl rfl ?_
                    refine c_nil ?_
                    exact l_join (xs8 ++ ([(GSpan.mk t13 (min r154 r160))])) (fun a w hE hm => ⟨v234, hE.sub ⟨rfl, rfl, rfl, rfl, rfl, rfl, rfl, rfl, trivial⟩, (hm.pick [1, 2] rfl)⟩)
              · refine c_skip ?_
                exact l_join xs8 (fun a w hE hm => ⟨v7, hE.sub ⟨rfl, rfl, rfl, rfl, rfl, rfl, rfl, rfl, trivial⟩, (hm.pick [4, 5] rfl)⟩)
            · rintro xs296 a w ⟨v297, hE, hm⟩ h
              refine nx_of hE hm h ?_
              clear hE hm h
              refine c_region ?_
              refine o_mv st rfl rfl ?_
              refine o_add st rfl rfl rfl ?_; intro t300
              refine o_as st rfl rfl ?_
              refine c_nil ?_
              refine b_norm ?_
              exact l_join (xs296, t15, t82, t300) (fun a w hE hm => ⟨v297, hE.sub ⟨rfl, rfl, rfl, rfl, rfl, rfl, rfl, rfl, trivial⟩, (hm.pick [1, 0] rfl)⟩)
  · refine c_exit ?_
    refine l_exit ?_
    refine l_exit ?_
    refine b_exit ?_
    refine l_then ?_
    refine c_seq ?_
    refine c_region ?_
    refine o_mv st rfl rfl ?_
    refine o_as st rfl rfl ?_
    refine c_nil ?_
    refine l_then ?_
    refine c_ret ?_
    exact l_end1 Tryd.results140 xs8 v7 (rv_t rfl) (fun w m => NewCh.ofB m [1] rfl)

set_option maxRecDepth 100000 in
set_option maxHeartbeats 8000000 in
theorem w_impl_meetSpans {w0 : World} {F : Nat → Prop} {v1 : Value} {v3 : Value} {a_0 : (List GSpan)} {b_1 : (List GSpan)} {top_2 : Int} {κ : ((List GSpan) × Bool) → Prop} (hF : ∀ b, F b → b < w0.heap.size ∧ ¬ feet [] b) (hv1 : Sl elGSpan F w0 v1 a_0) (hv3 : Sl elGSpan F w0 v3 b_1) (h : L_impl_meetSpans a_0 b_1 top_2 κ) :
    Calls Tryd.prog 137 #[v1, v3, (.int .i64 top_2)] w0 (Ret [] F w0 κ (fun (r : ((List GSpan) × Bool)) (u : Value) => .tuple #[u, (.bool r.2)]) (fun (r : ((List GSpan) × Bool)) (u : Value) => [roCh elGSpan u r.1])) := by
  refine enterS (args := [v1, v3, (.int .i64 top_2)]) [] hF (Given.nil _ _) Tryd.func137 rfl Tryd.ntmps137 rfl h ?_
  clear h hF
  refine c_seq ?_
  refine c_region ?_
  refine stw (o_asn elGSpan 71 rfl rfl ?_)
  refine o_as st rfl rfl ?_
  refine c_nil ?_
  refine l_then ?_
  refine c_seq ?_
  refine c_region ?_
  refine o_mv st rfl rfl ?_
  refine o_mv st rfl rfl ?_
  refine o_mv st rfl rfl ?_
  refine stw (o_callP (vs := [v1, v3, (.int .i64 top_2), (.func (.func 142) #[] #[])]) Tryd.call140 rfl rfl (by intro w m h; exact (w_impl_sweepSpans__impl_inBoth (F := allB [] w) (a_0 := a_0) (b_1 := b_1) (top_2 := top_2) allB_ok (m.rd0 1 rfl (reads_snap hv1)) (m.rd0 1 rfl (reads_snap hv3)) h).mono (fun _ _ k => ret_free (fun r u => (fr_cons (free_own flelGSpan) fr_nil)) k)) ?_); rintro r6 v7
  refine frz 0 rfl reads_own ?_
  refine stw (o_callP (vs := [v7]) Tryd.call139 rfl rfl (by intro w m h; exact w_impl_limitSpans (list_0 := r6) fz_ok0 (m.ro 0 rfl) h) ?_); rintro ⟨r9, r12⟩ v10
  refine o_ext st (vs := [v10, (.bool r12)]) rfl rfl rfl ?_
  refine o_ext st (vs := [v10, (.bool r12)]) rfl rfl rfl ?_
  refine o_as st rfl rfl ?_
  refine o_as st rfl rfl ?_
  refine c_nil ?_
  refine l_then ?_
  refine c_ret ?_
  exact l_end2 Tryd.results137 (r9, r12) v10 (rv_t rfl) (rv_t rfl) rfl (fun w m => NewCh.ofB m [0] rfl)

set_option maxRecDepth 100000 in
set_option maxHeartbeats 8000000 in
theorem w_impl_sides_pieces_1 {σ_ : Type} {C_ : σ_ → List Ch → Prop} {Y_ : σ_ → A4ListGSpan → Bool → (Bool × σ_ → Prop) → Prop} {l_ : Nat} (hY : Yields Tryd.prog l_ elA4ListGSpan C_ Y_) {w0 : World} {F : Nat → Prop} {b1 b3 : Nat} {B_ : Nat → Prop} {z_ : σ_} {a_1 : A4ListGSpan} {b_2 : A4ListGSpan} {κ : σ_ → Prop} (hF : ∀ b, F b → b < w0.heap.size ∧ ¬ feet [consCh C_ B_ z_] b) (hg : Given [consCh C_ B_ z_] F w0) (ha_1 : Sl (elSl elGSpan) F w0 (.slice (some ⟨b1, 0, none⟩) 4 4) ([a_1.x0, a_1.x1, a_1.x2, a_1.x3])) (hb_2 : Sl (elSl elGSpan) F w0 (.slice (some ⟨b3, 0, none⟩) 4 4) ([b_2.x0, b_2.x1, b_2.x2, b_2.x3])) (hgl0 : Sl elGFieldShape F w0 (.slice (some ⟨0, 0, none⟩) 4 4) gl_impl_fieldShapes) (h : L_impl_sides_pieces_1 Y_ z_ a_1 b_2 κ) :
    Calls Tryd.prog 134 #[(.func (.yield l_) #[] #[]), (.pointer (some ⟨b1, 0, none⟩)), (.pointer (some ⟨b3, 0, none⟩))] w0 (Ret [consCh C_ B_ z_] F w0 κ (fun (r : σ_) (u : (Nat → Prop)) => .tuple #[]) (fun (r : σ_) (u : (Nat → Prop)) => [consCh C_ u r])) := by
  refine enterS (args := [(.func (.yield l_) #[] #[]), (.pointer (some ⟨b1, 0, none⟩)), (.pointer (some ⟨b3, 0, none⟩))]) [consCh C_ B_ z_] hF hg Tryd.func134 rfl Tryd.ntmps134 rfl h ?_
  clear h hF hg
  refine c_seq ?_
  refine c_seq ?_
  refine c_region ?_
  refine stw (o_ldAN (len := 4) 1 rfl (src_snap ha_1) rfl rfl rfl ty114 rfl ?_); rintro wr5 ff6 _ hrows_; obtain ⟨_, _, _, _, rfl, hc0_, hc1_, hc2_, hc3_⟩ := rows_l4 hrows_; obtain ⟨v8, rfl, sl9⟩ := hc0_; obtain ⟨v11, rfl, sl12⟩ := hc1_; obtain ⟨v14, rfl, sl15⟩ := hc2_; obtain ⟨v17, rfl, sl18⟩ := hc3_; refine ⟨[v8, v11, v14, v17], rfl, ?_⟩
  refine stw (o_callP (vs := [(.agg #[v8, v11, v14, v17])]) Tryd.call80 rfl rfl (by intro w m h; exact (w_impl_sides_empty (F := allB [] w) (s_0 := a_1) allB_ok (m.rd0 0 rfl (reads_snap sl9)) (m.rd0 0 rfl (reads_snap sl12)) (m.rd0 0 rfl (reads_snap sl15)) (m.rd0 0 rfl (reads_snap sl18)) h).mono (fun _ _ k => ret_free (fun r u => fr_nil) k)) ?_); rintro r20 _
  refine c_nil ?_
  refine l_then ?_
  refine c_cond rfl ?_ ?_
  · refine c_ret ?_
    refine l_ret ?_
    exact l_end0m Tryd.results134 z_ B_ rfl (fun w m => NewCh.ofB m [1] rfl)
  · refine c_skip ?_
    refine l_then ?_
    refine c_seq ?_
    refine c_seq ?_
    refine c_region ?_
    refine stw (o_ldAN (len := 4) 2 rfl (src_snap ha_1) rfl rfl rfl ty114 rfl ?_); rintro wr21 ff22 _ hrows_; obtain ⟨_, _, _, _, rfl, hc0_, hc1_, hc2_, hc3_⟩ := rows_l4 hrows_; obtain ⟨v24, rfl, sl25⟩ := hc0_; obtain ⟨v27, rfl, sl28⟩ := hc1_; obtain ⟨v30, rfl, sl31⟩ := hc2_; obtain ⟨v33, rfl, sl34⟩ := hc3_; refine ⟨[v24, v27, v30, v33], rfl, ?_⟩
    refine stw (o_ldAN (len := 4) 3 rfl (src_snap hb_2) rfl rfl rfl ty114 rfl ?_); rintro wr36 ff37 _ hrows_; obtain ⟨_, _, _, _, rfl, hc0_, hc1_, hc2_, hc3_⟩ := rows_l4 hrows_; obtain ⟨v39, rfl, sl40⟩ := hc0_; obtain ⟨v42, rfl, sl43⟩ := hc1_; obtain ⟨v45, rfl, sl46⟩ := hc2_; obtain ⟨v48, rfl, sl49⟩ := hc3_; refine ⟨[v39, v42, v45, v48], rfl, ?_⟩
    refine stw (o_callP (vs := [(.agg #[v24, v27, v30, v33]), (.agg #[v39, v42, v45, v48])]) Tryd.call135 rfl rfl (by intro w m h; exact (w_impl_sides_touches (F := allB [] w) (s_0 := a_1) (other_1 := b_2) allB_ok (m.rd0 1 rfl (reads_snap sl25)) (m.rd0 1 rfl (reads_snap sl28)) (m.rd0 1 rfl (reads_snap sl31)) (m.rd0 1 rfl (reads_snap sl34)) (m.rd0 0 rfl (reads_snap sl40)) (m.rd0 0 rfl (reads_snap sl43)) (m.rd0 0 rfl (reads_snap sl46)) (m.rd0 0 rfl (reads_snap sl49)) h).mono (fun _ _ k => ret_free (fun r u => fr_nil) k)) ?_); rintro r51 _
    refine o_not st rfl rfl ?_
    refine c_nil ?_
    refine l_then ?_
    refine c_cond rfl ?_ ?_
    · refine c_seq ?_
      refine c_regionY ?_
      refine o_mv stY rfl rfl ?_
      refine stYw (o_ldAN (len := 4) 4 rfl (src_snap ha_1) rfl rfl rfl ty114 rfl ?_); rintro wr52 ff53 _ hrows_; obtain ⟨_, _, _, _, rfl, hc0_, hc1_, hc2_, hc3_⟩ := rows_l4 hrows_; obtain ⟨v55, rfl, sl56⟩ := hc0_; obtain ⟨v58, rfl, sl59⟩ := hc1_; obtain ⟨v61, rfl, sl62⟩ := hc2_; obtain ⟨v64, rfl, sl65⟩ := hc3_; refine ⟨[v55, v58, v61, v64], rfl, ?_⟩
      refine pk [4, 0, 1, 2, 3, 5] rfl ?_
      refine y_yield (El' := elA4ListGSpan) (z := a_1) (ok := true) (cs := [v55, v58, v61, v64]) hY rfl rfl rfl (fun w m => ⟨⟨v55, v58, v61, v64⟩, rfl, ⟨(m.roS 1 rfl sl56), (m.roS 1 rfl sl59), (m.roS 1 rfl sl62), (m.roS 1 rfl sl65)⟩⟩) ?_; intro t67 z68 bb69
      refine y_nil ?_
      refine l_then ?_
      refine c_ret ?_
      refine l_ret ?_
      exact l_end0m Tryd.results134 z68 bb69 rfl (fun w m => NewCh.ofB m [0] rfl)
    · refine c_skip ?_
      refine l_then ?_
      refine c_seq ?_
      refine c_region ?_
      refine stw (o_ldAN (len := 4) 4 rfl (src_snap ha_1) rfl rfl rfl ty114 rfl ?_); rintro wr71 ff72 _ hrows_; obtain ⟨_, _, _, _, rfl, hc0_, hc1_, hc2_, hc3_⟩ := rows_l4 hrows_; obtain ⟨v74, rfl, sl75⟩ := hc0_; obtain ⟨v77, rfl, sl78⟩ := hc1_; obtain ⟨v80, rfl, sl81⟩ := hc2_; obtain ⟨v83, rfl, sl84⟩ := hc3_; refine ⟨[v74, v77, v80, v83], rfl, ?_⟩
      refine stw (o_allocA (El' := (elSl elGSpan)) (z := ([] : (List GSpan))) (len := 4) (zs := [(.slice none 0 0)]) (fun F w => ⟨_, rfl, Sl.nil ..⟩) rfl zero114 rfl rfl ?_); intro b86
      obtain ⟨a88, l89, q90, hs_⟩ := sl_val sl75; subst hs_
      obtain ⟨a91, l92, q93, hs_⟩ := sl_val sl78; subst hs_
      obtain ⟨a94, l95, q96, hs_⟩ := sl_val sl81; subst hs_
      obtain ⟨a97, l98, q99, hs_⟩ := sl_val sl84; subst hs_
      refine stw (o_stA (El' := (elSl elGSpan)) (len := 4) 0 rfl ([a_1.x0, a_1.x1, a_1.x2, a_1.x3]) ([[(.slice a88 l89 q90)], [(.slice a91 l92 q93)], [(.slice a94 l95 q96)], [(.slice a97 l98 q99)]]) (fun w m => ⟨⟨(.slice a88 l89 q90), rfl, (m.roS 1 rfl sl75)⟩, ⟨(.slice a91 l92 q93), rfl, (m.roS 1 rfl sl78)⟩, ⟨(.slice a94 l95 q96), rfl, (m.roS 1 rfl sl81)⟩, ⟨(.slice a97 l98 q99), rfl, (m.roS 1 rfl sl84)⟩, trivial⟩) rfl rfl rfl rfl rfl rfl ty114 rfl rfl ?_)
      refine o_as st rfl rfl ?_
      refine c_nil ?_
      refine l_then ?_
      refine c_seq ?_
      refine c_region ?_
      refine o_mv st rfl rfl ?_
      refine c_nil ?_
      refine l_then ?_
      refine c_block ?_
      refine c_loop (σ := ((List (List GSpan)) × σ_ × Bool × Int)) (fun ((xs101, z103, t106, t107) : ((List (List GSpan)) × σ_ × Bool × Int)) (a : Act) (w : World) => ∃ (bb105 : Nat → Prop), Has 82 [(0, (.func (.yield l_) #[] #[])), (1, (.pointer (some ⟨b1, 0, none⟩))), (2, (.pointer (some ⟨b3, 0, none⟩))), (4, (.pointer (some ⟨b86, 0, none⟩))), (5, (.bool t106)), (22, (.int .i64 t107))] a ∧ Mem (gB F [consCh C_ B_ z_] w0) (feet [consCh C_ B_ z_]) w0 [ownCh (elSl elGSpan) 114 (.slice (some ⟨b86, 0, none⟩) 4 4) xs101, consCh C_ bb105 z103, snapCh w0 F] w) (fun a w hE hm => ⟨B_, hE.sub ⟨rfl, rfl, rfl, rfl, rfl, rfl, trivial⟩, (hm.pick [0, 5, 6] rfl)⟩) ?_
      rintro nx108 ⟨xs101, z103, t106, t107⟩ a w ⟨bb105, hE, hm⟩ h
      refine nx_of hE hm h ?_
      clear hE hm h
      refine c_seq ?_
      refine c_region ?_
      refine o_lss st rfl rfl rfl ?_
      refine c_nil ?_
      refine l_then ?_
      refine c_seq ?_
      refine c_cond rfl ?_ ?_
      · refine c_skip ?_
        refine l_then ?_
        refine c_join (σ := (σ_ × (List (List GSpan)) × Bool)) (fun ((z498, xs501, t503) : (σ_ × (List (List GSpan)) × Bool)) (a : Act) (w : World) => ∃ (bb500 : Nat → Prop), Has 82 [(0, (.func (.yield l_) #[] #[])), (1, (.pointer (some ⟨b1, 0, none⟩))), (2, (.pointer (some ⟨b3, 0, none⟩))), (4, (.pointer (some ⟨b86, 0, none⟩))), (5, (.bool t503)), (22, (.int .i64 t107))] a ∧ Mem (gB F [consCh C_ B_ z_] w0) (feet [consCh C_ B_ z_]) w0 [consCh C_ bb500 z498, ownCh (elSl elGSpan) 114 (.slice (some ⟨b86, 0, none⟩) 4 4) xs501, snapCh w0 F] w) ?_ ?_
        · intro k504
          refine c_block ?_
          refine c_seq ?_
          refine c_region ?_
          refine o_mv st rfl rfl ?_
          refine o_as st rfl rfl ?_
          refine c_nil ?_
          refine l_then ?_
          refine c_join (σ := ((List GSpan) × Bool)) (fun ((xs109, t112) : ((List GSpan) × Bool)) (a : Act) (w : World) => ∃ (v110 : Value), Has 82 [(0, (.func (.yield l_) #[] #[])), (1, (.pointer (some ⟨b1, 0, none⟩))), (2, (.pointer (some ⟨b3, 0, none⟩))), (4, (.pointer (some ⟨b86, 0, none⟩))), (5, (.bool t106)), (22, (.int .i64 t107)), (6, (.int .i64 t107)), (7, v110), (8, (.bool t112))] a ∧ Mem (gB F [consCh C_ B_ z_] w0) (feet [consCh C_ B_ z_]) w0 [roCh elGSpan v110 xs109, ownCh (elSl elGSpan) 114 (.slice (some ⟨b86, 0, none⟩) 4 4) xs101, consCh C_ bb105 z103, snapCh w0 F] w) ?_ ?_
          · intro k113
            refine c_drawQ mixed 14 rfl [ownCh (elSl elGSpan) 114 (.slice (some ⟨b86, 0, none⟩) 4 4) xs101, consCh C_ bb105 z103, snapCh w0 F] ?_
            intro Qd hP hQ
            have H800 : ∀ (e114 : (List GSpan)) (h115 : ([a_1.x0, a_1.x1, a_1.x2, a_1.x3])[(t107).toNat]? = some e114) (v117 : Value) (sl118 : Sl elGSpan F w0 v117 e114) (rw116 : RowAt w0 F (.slice (some ⟨b1, 0, none⟩) 4 4) t107 1 [v117]) (e119 : (List GSpan)) (h120 : ([b_2.x0, b_2.x1, b_2.x2, b_2.x3])[(t107).toNat]? = some e119) (v122 : Value) (sl123 : Sl elGSpan F w0 v122 e119) (rw121 : RowAt w0 F (.slice (some ⟨b3, 0, none⟩) 4 4) t107 1 [v122]) (r124 : Int) (r125 : (List GSpan)) (v126 : Value) (r127 : Bool), Nx 82 (gB F [consCh C_ B_ z_] w0) (feet [consCh C_ B_ z_]) w0 (wpAnyH Tryd.prog .any (opsAt Tryd.f134 [1, 1, 1, 1, 0, 0, 1, 1, 0, 0, 1, 0]) Qd (Mem (gB F [consCh C_ B_ z_] w0) (feet [consCh C_ B_ z_]) w0 [ownCh (elSl elGSpan) 114 (.slice (some ⟨b86, 0, none⟩) 4 4) xs101, consCh C_ bb105 z103, snapCh w0 F]) 5 #[true, true, true, true, true, true, true, true, true, false, false, false, false, false]) [(0, (.func (.yield l_) #[] #[])), (1, (.pointer (some ⟨b1, 0, none⟩))), (2, (.pointer (some ⟨b3, 0, none⟩))), (4, (.pointer (some ⟨b86, 0, none⟩))), (5, (.bool t106)), (22, (.int .i64 t107)), (6, (.int .i64 t107)), (34, (.tuple #[v126, (.bool r127)]))] [roCh elGSpan v126 r125, ownCh (elSl elGSpan) 114 (.slice (some ⟨b86, 0, none⟩) 4 4) xs101, consCh C_ bb105 z103, snapCh w0 F] (k113 (r125, r127)) := by
              intro e114 h115 v117 sl118 rw116 e119 h120 v122 sl123 rw121 r124 r125 v126 r127
              refine o_mv (dt 9 (fun w m => m.pick [1, 2, 3] rfl)) rfl rfl ?_
              refine o_ext (dt 10 (fun w m => m.pick [1, 2, 3] rfl)) (vs := [v126, (.bool r127)]) rfl rfl rfl ?_
              refine o_ext (dt 11 (fun w m => m.pick [1, 2, 3] rfl)) (vs := [v126, (.bool r127)]) rfl rfl rfl ?_
              refine o_as (dt 12 (fun w m => m.pick [1, 2, 3] rfl)) rfl rfl ?_
              refine o_as (dt 13 (fun w m => m.pick [1, 2, 3] rfl)) rfl rfl ?_
              refine d_done (by kernel_rfl) ?_
              exact fun a w hE hm hφ => hQ (r125, r127) a w hφ ((fun a w hE hm => ⟨v126, hE.sub ⟨rfl, rfl, rfl, rfl, rfl, rfl, rfl, rfl, rfl, trivial⟩, (hm.pick [0, 1, 2, 3] rfl)⟩) a w hE hm)
            have H801 : ∀ (e114 : (List GSpan)) (h115 : ([a_1.x0, a_1.x1, a_1.x2, a_1.x3])[(t107).toNat]? = some e114) (v117 : Value) (sl118 : Sl elGSpan F w0 v117 e114) (rw116 : RowAt w0 F (.slice (some ⟨b1, 0, none⟩) 4 4) t107 1 [v117]) (e119 : (List GSpan)) (h120 : ([b_2.x0, b_2.x1, b_2.x2, b_2.x3])[(t107).toNat]? = some e119) (v122 : Value) (sl123 : Sl elGSpan F w0 v122 e119) (rw121 : RowAt w0 F (.slice (some ⟨b3, 0, none⟩) 4 4) t107 1 [v122]) (r124 : Int), Nx 82 (gB F [consCh C_ B_ z_] w0) (feet [consCh C_ B_ z_]) w0 (wpAnyH Tryd.prog .any (opsAt Tryd.f134 [1, 1, 1, 1, 0, 0, 1, 1, 0, 0, 1, 0]) Qd (Mem (gB F [consCh C_ B_ z_] w0) (feet [consCh C_ B_ z_]) w0 [ownCh (elSl elGSpan) 114 (.slice (some ⟨b86, 0, none⟩) 4 4) xs101, consCh C_ bb105 z103, snapCh w0 F]) 6 #[true, true, true, true, true, true, true, true, false, false, false, false, false, false]) [(0, (.func (.yield l_) #[] #[])), (1, (.pointer (some ⟨b1, 0, none⟩))), (2, (.pointer (some ⟨b3, 0, none⟩))), (4, (.pointer (some ⟨b86, 0, none⟩))), (5, (.bool t106)), (22, (.int .i64 t107)), (6, (.int .i64 t107)), (28, v117), (31, v122), (33, (.int .i64 r124))] [ownCh (elSl elGSpan) 114 (.slice (some ⟨b86, 0, none⟩) 4 4) xs101, consCh C_ bb105 z103, snapCh w0 F] (L_impl_lessSpans e114 e119 r124 (fun (r125, r127) => k113 (r125, r127))) := by
              intro e114 h115 v117 sl118 rw116 e119 h120 v122 sl123 rw121 r124
              refine d_one (i := 8) rfl (by kernel_rfl) (o_callP (vs := [v117, v122, (.int .i64 r124)]) Tryd.call136 rfl rfl (by intro w m h; exact w_impl_lessSpans (a_0 := e114) (b_1 := e119) (top_2 := r124) fz_ok0 (m.roS 2 rfl sl118) (m.roS 2 rfl sl123) h) ?_); rintro ⟨r125, r127⟩ v126
              refine d_and (fun w m => m.pick [1, 2, 3] rfl) ?_
              refine pk [0, 1, 2, 3] rfl ?_
              refine re (E' := [(0, (.func (.yield l_) #[] #[])), (1, (.pointer (some ⟨b1, 0, none⟩))), (2, (.pointer (some ⟨b3, 0, none⟩))), (4, (.pointer (some ⟨b86, 0, none⟩))), (5, (.bool t106)), (22, (.int .i64 t107)), (6, (.int .i64 t107)), (34, (.tuple #[v126, (.bool r127)]))]) ⟨rfl, rfl, rfl, rfl, rfl, rfl, rfl, rfl, trivial⟩ ?_
              exact H800 e114 h115 v117 sl118 rw116 e119 h120 v122 sl123 rw121 r124 r125 v126 r127
            have H802 : ∀ (e114 : (List GSpan)) (h115 : ([a_1.x0, a_1.x1, a_1.x2, a_1.x3])[(t107).toNat]? = some e114) (v117 : Value) (sl118 : Sl elGSpan F w0 v117 e114) (rw116 : RowAt w0 F (.slice (some ⟨b1, 0, none⟩) 4 4) t107 1 [v117]) (e119 : (List GSpan)) (h120 : ([b_2.x0, b_2.x1, b_2.x2, b_2.x3])[(t107).toNat]? = some e119), Nx 82 (gB F [consCh C_ B_ z_] w0) (feet [consCh C_ B_ z_]) w0 (wpAnyH Tryd.prog .any (opsAt Tryd.f134 [1, 1, 1, 1, 0, 0, 1, 1, 0, 0, 1, 0]) Qd (Mem (gB F [consCh C_ B_ z_] w0) (feet [consCh C_ B_ z_]) w0 [ownCh (elSl elGSpan) 114 (.slice (some ⟨b86, 0, none⟩) 4 4) xs101, consCh C_ bb105 z103, snapCh w0 F]) 8 #[true, true, true, true, true, false, true, false, false, false, false, false, false, false]) [(0, (.func (.yield l_) #[] #[])), (1, (.pointer (some ⟨b1, 0, none⟩))), (2, (.pointer (some ⟨b3, 0, none⟩))), (4, (.pointer (some ⟨b86, 0, none⟩))), (5, (.bool t106)), (22, (.int .i64 t107)), (6, (.int .i64 t107)), (32, (.int .i64 t107)), (28, v117), (30, (pEl (.slice (some ⟨b3, 0, none⟩) 4 4) t107 1 0))] [ownCh (elSl elGSpan) 114 (.slice (some ⟨b86, 0, none⟩) 4 4) xs101, consCh C_ bb105 z103, snapCh w0 F] (L_impl_FieldTop t107 (fun r124 => L_impl_lessSpans e114 e119 r124 (fun (r125, r127) => k113 (r125, r127)))) := by
              intro e114 h115 v117 sl118 rw116 e119 h120
              obtain ⟨_, ⟨v122, rfl, sl123⟩, rw121⟩ := sl_open hb_2 h120
              refine o_ldR (dt 5 (fun _ m => m)) (u := v122) 2 rfl rw121 rfl rfl ty72 rfl ?_
              refine d_one (i := 7) rfl (by kernel_rfl) (o_callP (vs := [(.int .i64 t107)]) Tryd.call91 rfl rfl (by intro w m h; exact (w_impl_FieldTop (F := allB [] w) (n_0 := t107) allB_ok (m.rd0 2 rfl (reads_snap hgl0)) h).mono (fun _ _ k => ret_free (fun r u => fr_nil) k)) ?_); rintro r124 _
              refine d_and (fun _ m => m) ?_
              refine pk [0, 1, 2] rfl ?_
              refine re (E' := [(0, (.func (.yield l_) #[] #[])), (1, (.pointer (some ⟨b1, 0, none⟩))), (2, (.pointer (some ⟨b3, 0, none⟩))), (4, (.pointer (some ⟨b86, 0, none⟩))), (5, (.bool t106)), (22, (.int .i64 t107)), (6, (.int .i64 t107)), (28, v117), (31, v122), (33, (.int .i64 r124))]) ⟨rfl, rfl, rfl, rfl, rfl, rfl, rfl, rfl, rfl, rfl, trivial⟩ ?_
              exact H801 e114 h115 v117 sl118 rw116 e119 h120 v122 sl123 rw121 r124
            have H803 : ∀ (e114 : (List GSpan)) (h115 : ([a_1.x0, a_1.x1, a_1.x2, a_1.x3])[(t107).toNat]? = some e114) (v117 : Value) (sl118 : Sl elGSpan F w0 v117 e114) (rw116 : RowAt w0 F (.slice (some ⟨b1, 0, none⟩) 4 4) t107 1 [v117]) (r128 : Int) (e129 : (List GSpan)) (h130 : ([b_2.x0, b_2.x1, b_2.x2, b_2.x3])[(t107).toNat]? = some e129), Nx 82 (gB F [consCh C_ B_ z_] w0) (feet [consCh C_ B_ z_]) w0 (wpAnyH Tryd.prog .any (opsAt Tryd.f134 [1, 1, 1, 1, 0, 0, 1, 1, 0, 0, 1, 0]) Qd (Mem (gB F [consCh C_ B_ z_] w0) (feet [consCh C_ B_ z_]) w0 [ownCh (elSl elGSpan) 114 (.slice (some ⟨b86, 0, none⟩) 4 4) xs101, consCh C_ bb105 z103, snapCh w0 F]) 7 #[true, true, true, true, true, false, true, true, false, false, false, false, false, false]) [(0, (.func (.yield l_) #[] #[])), (1, (.pointer (some ⟨b1, 0, none⟩))), (2, (.pointer (some ⟨b3, 0, none⟩))), (4, (.pointer (some ⟨b86, 0, none⟩))), (5, (.bool t106)), (22, (.int .i64 t107)), (6, (.int .i64 t107)), (28, v117), (33, (.int .i64 r128)), (30, (pEl (.slice (some ⟨b3, 0, none⟩) 4 4) t107 1 0))] [ownCh (elSl elGSpan) 114 (.slice (some ⟨b86, 0, none⟩) 4 4) xs101, consCh C_ bb105 z103, snapCh w0 F] (L_impl_lessSpans e114 e129 r128 (fun (r134, r136) => k113 (r134, r136))) := by
              intro e114 h115 v117 sl118 rw116 r128 e129 h130
              obtain ⟨_, ⟨v132, rfl, sl133⟩, rw131⟩ := sl_open hb_2 h130
              refine o_ldR (dt 5 (fun _ m => m)) (u := v132) 2 rfl rw131 rfl rfl ty72 rfl ?_
              refine d_one (i := 8) rfl (by kernel_rfl) (o_callP (vs := [v117, v132, (.int .i64 r128)]) Tryd.call136 rfl rfl (by intro w m h; exact w_impl_lessSpans (a_0 := e114) (b_1 := e129) (top_2 := r128) fz_ok0 (m.roS 2 rfl sl118) (m.roS 2 rfl sl133) h) ?_); rintro ⟨r134, r136⟩ v135
              refine d_and (fun w m => m.pick [1, 2, 3] rfl) ?_
              refine pk [0, 1, 2, 3] rfl ?_
              refine re (E' := [(0, (.func (.yield l_) #[] #[])), (1, (.pointer (some ⟨b1, 0, none⟩))), (2, (.pointer (some ⟨b3, 0, none⟩))), (4, (.pointer (some ⟨b86, 0, none⟩))), (5, (.bool t106)), (22, (.int .i64 t107)), (6, (.int .i64 t107)), (34, (.tuple #[v135, (.bool r136)]))]) ⟨rfl, rfl, rfl, rfl, rfl, rfl, rfl, rfl, trivial⟩ ?_
              exact H800 e114 h115 v117 sl118 rw116 e129 h130 v132 sl133 rw131 r128 r134 v135 r136
            have H804 : ∀ (e114 : (List GSpan)) (h115 : ([a_1.x0, a_1.x1, a_1.x2, a_1.x3])[(t107).toNat]? = some e114) (v117 : Value) (sl118 : Sl elGSpan F w0 v117 e114) (rw116 : RowAt w0 F (.slice (some ⟨b1, 0, none⟩) 4 4) t107 1 [v117]) (r128 : Int), Nx 82 (gB F [consCh C_ B_ z_] w0) (feet [consCh C_ B_ z_]) w0 (wpAnyH Tryd.prog .any (opsAt Tryd.f134 [1, 1, 1, 1, 0, 0, 1, 1, 0, 0, 1, 0]) Qd (Mem (gB F [consCh C_ B_ z_] w0) (feet [consCh C_ B_ z_]) w0 [ownCh (elSl elGSpan) 114 (.slice (some ⟨b86, 0, none⟩) 4 4) xs101, consCh C_ bb105 z103, snapCh w0 F]) 8 #[true, true, true, true, false, false, true, true, false, false, false, false, false, false]) [(0, (.func (.yield l_) #[] #[])), (1, (.pointer (some ⟨b1, 0, none⟩))), (2, (.pointer (some ⟨b3, 0, none⟩))), (4, (.pointer (some ⟨b86, 0, none⟩))), (5, (.bool t106)), (22, (.int .i64 t107)), (6, (.int .i64 t107)), (29, (.int .i64 t107)), (28, v117), (33, (.int .i64 r128))] [ownCh (elSl elGSpan) 114 (.slice (some ⟨b86, 0, none⟩) 4 4) xs101, consCh C_ bb105 z103, snapCh w0 F] (idxW ([b_2.x0, b_2.x1, b_2.x2, b_2.x3]) t107 (fun e129 => L_impl_lessSpans e114 e129 r128 (fun (r134, r136) => k113 (r134, r136)))) := by
              intro e114 h115 v117 sl118 rw116 r128
              refine d_one (i := 4) rfl (by kernel_rfl) (o_ixa m_op 2 rfl (reads_snap hb_2) rfl rfl rfl arr114 ?_); intro e129 h130
              refine d_and (fun _ m => m) ?_
              refine pk [0, 1, 2] rfl ?_
              refine re (E' := [(0, (.func (.yield l_) #[] #[])), (1, (.pointer (some ⟨b1, 0, none⟩))), (2, (.pointer (some ⟨b3, 0, none⟩))), (4, (.pointer (some ⟨b86, 0, none⟩))), (5, (.bool t106)), (22, (.int .i64 t107)), (6, (.int .i64 t107)), (28, v117), (33, (.int .i64 r128)), (30, (pEl (.slice (some ⟨b3, 0, none⟩) 4 4) t107 1 0))]) ⟨rfl, rfl, rfl, rfl, rfl, rfl, rfl, rfl, rfl, rfl, trivial⟩ ?_
              exact H803 e114 h115 v117 sl118 rw116 r128 e129 h130
            have H805 : ∀ (e114 : (List GSpan)) (h115 : ([a_1.x0, a_1.x1, a_1.x2, a_1.x3])[(t107).toNat]? = some e114), Nx 82 (gB F [consCh C_ B_ z_] w0) (feet [consCh C_ B_ z_]) w0 (wpAnyH Tryd.prog .any (opsAt Tryd.f134 [1, 1, 1, 1, 0, 0, 1, 1, 0, 0, 1, 0]) Qd (Mem (gB F [consCh C_ B_ z_] w0) (feet [consCh C_ B_ z_]) w0 [ownCh (elSl elGSpan) 114 (.slice (some ⟨b86, 0, none⟩) 4 4) xs101, consCh C_ bb105 z103, snapCh w0 F]) 10 #[true, true, false, true, false, false, true, false, false, false, false, false, false, false]) [(0, (.func (.yield l_) #[] #[])), (1, (.pointer (some ⟨b1, 0, none⟩))), (2, (.pointer (some ⟨b3, 0, none⟩))), (4, (.pointer (some ⟨b86, 0, none⟩))), (5, (.bool t106)), (22, (.int .i64 t107)), (6, (.int .i64 t107)), (29, (.int .i64 t107)), (32, (.int .i64 t107)), (27, (pEl (.slice (some ⟨b1, 0, none⟩) 4 4) t107 1 0))] [ownCh (elSl elGSpan) 114 (.slice (some ⟨b86, 0, none⟩) 4 4) xs101, consCh C_ bb105 z103, snapCh w0 F] ((idxW ([b_2.x0, b_2.x1, b_2.x2, b_2.x3]) t107 (fun e119 => L_impl_FieldTop t107 (fun r124 => L_impl_lessSpans e114 e119 r124 (fun (r125, r127) => k113 (r125, r127))))) ∧ (L_impl_FieldTop t107 (fun r128 => idxW ([b_2.x0, b_2.x1, b_2.x2, b_2.x3]) t107 (fun e129 => L_impl_lessSpans e114 e129 r128 (fun (r134, r136) => k113 (r134, r136)))))) := by
              intro e114 h115
              obtain ⟨_, ⟨v117, rfl, sl118⟩, rw116⟩ := sl_open ha_1 h115
              refine o_ldR (dt 2 (fun _ m => m)) (u := v117) 2 rfl rw116 rfl rfl ty72 rfl ?_
              refine d_two (i := 4) (j := 7) rfl rfl (by kernel_rfl) ?_ ?_
              · intro o ho; cases ho
                refine nx_l ?_
                refine o_ixa m_op 2 rfl (reads_snap hb_2) rfl rfl rfl arr114 ?_; intro e119 h120
                refine d_and (fun _ m => m) ?_
                refine pk [0, 1, 2] rfl ?_
                refine re (E' := [(0, (.func (.yield l_) #[] #[])), (1, (.pointer (some ⟨b1, 0, none⟩))), (2, (.pointer (some ⟨b3, 0, none⟩))), (4, (.pointer (some ⟨b86, 0, none⟩))), (5, (.bool t106)), (22, (.int .i64 t107)), (6, (.int .i64 t107)), (32, (.int .i64 t107)), (28, v117), (30, (pEl (.slice (some ⟨b3, 0, none⟩) 4 4) t107 1 0))]) ⟨rfl, rfl, rfl, rfl, rfl, rfl, rfl, rfl, rfl, rfl, trivial⟩ ?_
                exact H802 e114 h115 v117 sl118 rw116 e119 h120
              · intro o ho; cases ho
                refine nx_r ?_
                refine o_callP (vs := [(.int .i64 t107)]) Tryd.call91 rfl rfl (by intro w m h; exact (w_impl_FieldTop (F := allB [] w) (n_0 := t107) allB_ok (m.rd0 2 rfl (reads_snap hgl0)) h).mono (fun _ _ k => ret_free (fun r u => fr_nil) k)) ?_; rintro r128 _
                refine d_and (fun _ m => m) ?_
                refine pk [0, 1, 2] rfl ?_
                refine re (E' := [(0, (.func (.yield l_) #[] #[])), (1, (.pointer (some ⟨b1, 0, none⟩))), (2, (.pointer (some ⟨b3, 0, none⟩))), (4, (.pointer (some ⟨b86, 0, none⟩))), (5, (.bool t106)), (22, (.int .i64 t107)), (6, (.int .i64 t107)), (29, (.int .i64 t107)), (28, v117), (33, (.int .i64 r128))]) ⟨rfl, rfl, rfl, rfl, rfl, rfl, rfl, rfl, rfl, rfl, trivial⟩ ?_
                exact H804 e114 h115 v117 sl118 rw116 r128
            have H806 : ∀ (e137 : (List GSpan)) (h138 : ([b_2.x0, b_2.x1, b_2.x2, b_2.x3])[(t107).toNat]? = some e137) (v140 : Value) (sl141 : Sl elGSpan F w0 v140 e137) (rw139 : RowAt w0 F (.slice (some ⟨b3, 0, none⟩) 4 4) t107 1 [v140]) (e142 : (List GSpan)) (h143 : ([a_1.x0, a_1.x1, a_1.x2, a_1.x3])[(t107).toNat]? = some e142), Nx 82 (gB F [consCh C_ B_ z_] w0) (feet [consCh C_ B_ z_]) w0 (wpAnyH Tryd.prog .any (opsAt Tryd.f134 [1, 1, 1, 1, 0, 0, 1, 1, 0, 0, 1, 0]) Qd (Mem (gB F [consCh C_ B_ z_] w0) (feet [consCh C_ B_ z_]) w0 [ownCh (elSl elGSpan) 114 (.slice (some ⟨b86, 0, none⟩) 4 4) xs101, consCh C_ bb105 z103, snapCh w0 F]) 8 #[true, true, false, true, true, true, true, false, false, false, false, false, false, false]) [(0, (.func (.yield l_) #[] #[])), (1, (.pointer (some ⟨b1, 0, none⟩))), (2, (.pointer (some ⟨b3, 0, none⟩))), (4, (.pointer (some ⟨b86, 0, none⟩))), (5, (.bool t106)), (22, (.int .i64 t107)), (6, (.int .i64 t107)), (32, (.int .i64 t107)), (31, v140), (27, (pEl (.slice (some ⟨b1, 0, none⟩) 4 4) t107 1 0))] [ownCh (elSl elGSpan) 114 (.slice (some ⟨b86, 0, none⟩) 4 4) xs101, consCh C_ bb105 z103, snapCh w0 F] (L_impl_FieldTop t107 (fun r147 => L_impl_lessSpans e142 e137 r147 (fun (r125, r127) => k113 (r125, r127)))) := by
              intro e137 h138 v140 sl141 rw139 e142 h143
              obtain ⟨_, ⟨v145, rfl, sl146⟩, rw144⟩ := sl_open ha_1 h143
              refine o_ldR (dt 2 (fun _ m => m)) (u := v145) 2 rfl rw144 rfl rfl ty72 rfl ?_
              refine d_one (i := 7) rfl (by kernel_rfl) (o_callP (vs := [(.int .i64 t107)]) Tryd.call91 rfl rfl (by intro w m h; exact (w_impl_FieldTop (F := allB [] w) (n_0 := t107) allB_ok (m.rd0 2 rfl (reads_snap hgl0)) h).mono (fun _ _ k => ret_free (fun r u => fr_nil) k)) ?_); rintro r147 _
              refine d_and (fun _ m => m) ?_
              refine pk [0, 1, 2] rfl ?_
              refine re (E' := [(0, (.func (.yield l_) #[] #[])), (1, (.pointer (some ⟨b1, 0, none⟩))), (2, (.pointer (some ⟨b3, 0, none⟩))), (4, (.pointer (some ⟨b86, 0, none⟩))), (5, (.bool t106)), (22, (.int .i64 t107)), (6, (.int .i64 t107)), (28, v145), (31, v140), (33, (.int .i64 r147))]) ⟨rfl, rfl, rfl, rfl, rfl, rfl, rfl, rfl, rfl, rfl, trivial⟩ ?_
              exact H801 e142 h143 v145 sl146 rw144 e137 h138 v140 sl141 rw139 r147
            have H807 : ∀ (e137 : (List GSpan)) (h138 : ([b_2.x0, b_2.x1, b_2.x2, b_2.x3])[(t107).toNat]? = some e137) (v140 : Value) (sl141 : Sl elGSpan F w0 v140 e137) (rw139 : RowAt w0 F (.slice (some ⟨b3, 0, none⟩) 4 4) t107 1 [v140]) (r148 : Int) (e149 : (List GSpan)) (h150 : ([a_1.x0, a_1.x1, a_1.x2, a_1.x3])[(t107).toNat]? = some e149), Nx 82 (gB F [consCh C_ B_ z_] w0) (feet [consCh C_ B_ z_]) w0 (wpAnyH Tryd.prog .any (opsAt Tryd.f134 [1, 1, 1, 1, 0, 0, 1, 1, 0, 0, 1, 0]) Qd (Mem (gB F [consCh C_ B_ z_] w0) (feet [consCh C_ B_ z_]) w0 [ownCh (elSl elGSpan) 114 (.slice (some ⟨b86, 0, none⟩) 4 4) xs101, consCh C_ bb105 z103, snapCh w0 F]) 7 #[true, true, false, true, true, true, true, true, false, false, false, false, false, false]) [(0, (.func (.yield l_) #[] #[])), (1, (.pointer (some ⟨b1, 0, none⟩))), (2, (.pointer (some ⟨b3, 0, none⟩))), (4, (.pointer (some ⟨b86, 0, none⟩))), (5, (.bool t106)), (22, (.int .i64 t107)), (6, (.int .i64 t107)), (31, v140), (33, (.int .i64 r148)), (27, (pEl (.slice (some ⟨b1, 0, none⟩) 4 4) t107 1 0))] [ownCh (elSl elGSpan) 114 (.slice (some ⟨b86, 0, none⟩) 4 4) xs101, consCh C_ bb105 z103, snapCh w0 F] (L_impl_lessSpans e149 e137 r148 (fun (r154, r156) => k113 (r154, r156))) := by
              intro e137 h138 v140 sl141 rw139 r148 e149 h150
              obtain ⟨_, ⟨v152, rfl, sl153⟩, rw151⟩ := sl_open ha_1 h150
              refine o_ldR (dt 2 (fun _ m => m)) (u := v152) 2 rfl rw151 rfl rfl ty72 rfl ?_
              refine d_one (i := 8) rfl (by kernel_rfl) (o_callP (vs := [v152, v140, (.int .i64 r148)]) Tryd.call136 rfl rfl (by intro w m h; exact w_impl_lessSpans (a_0 := e149) (b_1 := e137) (top_2 := r148) fz_ok0 (m.roS 2 rfl sl153) (m.roS 2 rfl sl141) h) ?_); rintro ⟨r154, r156⟩ v155
              refine d_and (fun w m => m.pick [1, 2, 3] rfl) ?_
              refine pk [0, 1, 2, 3] rfl ?_
              refine re (E' := [(0, (.func (.yield l_) #[] #[])), (1, (.pointer (some ⟨b1, 0, none⟩))), (2, (.pointer (some ⟨b3, 0, none⟩))), (4, (.pointer (some ⟨b86, 0, none⟩))), (5, (.bool t106)), (22, (.int .i64 t107)), (6, (.int .i64 t107)), (34, (.tuple #[v155, (.bool r156)]))]) ⟨rfl, rfl, rfl, rfl, rfl, rfl, rfl, rfl, trivial⟩ ?_
              exact H800 e149 h150 v152 sl153 rw151 e137 h138 v140 sl141 rw139 r148 r154 v155 r156
            have H808 : ∀ (e137 : (List GSpan)) (h138 : ([b_2.x0, b_2.x1, b_2.x2, b_2.x3])[(t107).toNat]? = some e137) (v140 : Value) (sl141 : Sl elGSpan F w0 v140 e137) (rw139 : RowAt w0 F (.slice (some ⟨b3, 0, none⟩) 4 4) t107 1 [v140]) (r148 : Int), Nx 82 (gB F [consCh C_ B_ z_] w0) (feet [consCh C_ B_ z_]) w0 (wpAnyH Tryd.prog .any (opsAt Tryd.f134 [1, 1, 1, 1, 0, 0, 1, 1, 0, 0, 1, 0]) Qd (Mem (gB F [consCh C_ B_ z_] w0) (feet [consCh C_ B_ z_]) w0 [ownCh (elSl elGSpan) 114 (.slice (some ⟨b86, 0, none⟩) 4 4) xs101, consCh C_ bb105 z103, snapCh w0 F]) 8 #[true, false, false, true, true, true, true, true, false, false, false, false, false, false]) [(0, (.func (.yield l_) #[] #[])), (1, (.pointer (some ⟨b1, 0, none⟩))), (2, (.pointer (some ⟨b3, 0, none⟩))), (4, (.pointer (some ⟨b86, 0, none⟩))), (5, (.bool t106)), (22, (.int .i64 t107)), (6, (.int .i64 t107)), (26, (.int .i64 t107)), (31, v140), (33, (.int .i64 r148))] [ownCh (elSl elGSpan) 114 (.slice (some ⟨b86, 0, none⟩) 4 4) xs101, consCh C_ bb105 z103, snapCh w0 F] (idxW ([a_1.x0, a_1.x1, a_1.x2, a_1.x3]) t107 (fun e149 => L_impl_lessSpans e149 e137 r148 (fun (r154, r156) => k113 (r154, r156)))) := by
              intro e137 h138 v140 sl141 rw139 r148
              refine d_one (i := 1) rfl (by kernel_rfl) (o_ixa m_op 2 rfl (reads_snap ha_1) rfl rfl rfl arr114 ?_); intro e149 h150
              refine d_and (fun _ m => m) ?_
              refine pk [0, 1, 2] rfl ?_
              refine re (E' := [(0, (.func (.yield l_) #[] #[])), (1, (.pointer (some ⟨b1, 0, none⟩))), (2, (.pointer (some ⟨b3, 0, none⟩))), (4, (.pointer (some ⟨b86, 0, none⟩))), (5, (.bool t106)), (22, (.int .i64 t107)), (6, (.int .i64 t107)), (31, v140), (33, (.int .i64 r148)), (27, (pEl (.slice (some ⟨b1, 0, none⟩) 4 4) t107 1 0))]) ⟨rfl, rfl, rfl, rfl, rfl, rfl, rfl, rfl, rfl, rfl, trivial⟩ ?_
              exact H807 e137 h138 v140 sl141 rw139 r148 e149 h150
            have H809 : ∀ (e137 : (List GSpan)) (h138 : ([b_2.x0, b_2.x1, b_2.x2, b_2.x3])[(t107).toNat]? = some e137), Nx 82 (gB F [consCh C_ B_ z_] w0) (feet [consCh C_ B_ z_]) w0 (wpAnyH Tryd.prog .any (opsAt Tryd.f134 [1, 1, 1, 1, 0, 0, 1, 1, 0, 0, 1, 0]) Qd (Mem (gB F [consCh C_ B_ z_] w0) (feet [consCh C_ B_ z_]) w0 [ownCh (elSl elGSpan) 114 (.slice (some ⟨b86, 0, none⟩) 4 4) xs101, consCh C_ bb105 z103, snapCh w0 F]) 10 #[true, false, false, true, true, false, true, false, false, false, false, false, false, false]) [(0, (.func (.yield l_) #[] #[])), (1, (.pointer (some ⟨b1, 0, none⟩))), (2, (.pointer (some ⟨b3, 0, none⟩))), (4, (.pointer (some ⟨b86, 0, none⟩))), (5, (.bool t106)), (22, (.int .i64 t107)), (6, (.int .i64 t107)), (26, (.int .i64 t107)), (32, (.int .i64 t107)), (30, (pEl (.slice (some ⟨b3, 0, none⟩) 4 4) t107 1 0))] [ownCh (elSl elGSpan) 114 (.slice (some ⟨b86, 0, none⟩) 4 4) xs101, consCh C_ bb105 z103, snapCh w0 F] ((idxW ([a_1.x0, a_1.x1, a_1.x2, a_1.x3]) t107 (fun e142 => L_impl_FieldTop t107 (fun r147 => L_impl_lessSpans e142 e137 r147 (fun (r125, r127) => k113 (r125, r127))))) ∧ (L_impl_FieldTop t107 (fun r148 => idxW ([a_1.x0, a_1.x1, a_1.x2, a_1.x3]) t107 (fun e149 => L_impl_lessSpans e149 e137 r148 (fun (r154, r156) => k113 (r154, r156)))))) := by
              intro e137 h138
              obtain ⟨_, ⟨v140, rfl, sl141⟩, rw139⟩ := sl_open hb_2 h138
              refine o_ldR (dt 5 (fun _ m => m)) (u := v140) 2 rfl rw139 rfl rfl ty72 rfl ?_
              refine d_two (i := 1) (j := 7) rfl rfl (by kernel_rfl) ?_ ?_
              · intro o ho; cases ho
                refine nx_l ?_
                refine o_ixa m_op 2 rfl (reads_snap ha_1) rfl rfl rfl arr114 ?_; intro e142 h143
                refine d_and (fun _ m => m) ?_
                refine pk [0, 1, 2] rfl ?_
                refine re (E' := [(0, (.func (.yield l_) #[] #[])), (1, (.pointer (some ⟨b1, 0, none⟩))), (2, (.pointer (some ⟨b3, 0, none⟩))), (4, (.pointer (some ⟨b86, 0, none⟩))), (5, (.bool t106)), (22, (.int .i64 t107)), (6, (.int .i64 t107)), (32, (.int .i64 t107)), (31, v140), (27, (pEl (.slice (some ⟨b1, 0, none⟩) 4 4) t107 1 0))]) ⟨rfl, rfl, rfl, rfl, rfl, rfl, rfl, rfl, rfl, rfl, trivial⟩ ?_
                exact H806 e137 h138 v140 sl141 rw139 e142 h143
              · intro o ho; cases ho
                refine nx_r ?_
                refine o_callP (vs := [(.int .i64 t107)]) Tryd.call91 rfl rfl (by intro w m h; exact (w_impl_FieldTop (F := allB [] w) (n_0 := t107) allB_ok (m.rd0 2 rfl (reads_snap hgl0)) h).mono (fun _ _ k => ret_free (fun r u => fr_nil) k)) ?_; rintro r148 _
                refine d_and (fun _ m => m) ?_
                refine pk [0, 1, 2] rfl ?_
                refine re (E' := [(0, (.func (.yield l_) #[] #[])), (1, (.pointer (some ⟨b1, 0, none⟩))), (2, (.pointer (some ⟨b3, 0, none⟩))), (4, (.pointer (some ⟨b86, 0, none⟩))), (5, (.bool t106)), (22, (.int .i64 t107)), (6, (.int .i64 t107)), (26, (.int .i64 t107)), (31, v140), (33, (.int .i64 r148))]) ⟨rfl, rfl, rfl, rfl, rfl, rfl, rfl, rfl, rfl, rfl, trivial⟩ ?_
                exact H808 e137 h138 v140 sl141 rw139 r148
            have H810 : ∀ (r157 : Int) (e158 : (List GSpan)) (h159 : ([a_1.x0, a_1.x1, a_1.x2, a_1.x3])[(t107).toNat]? = some e158), Nx 82 (gB F [consCh C_ B_ z_] w0) (feet [consCh C_ B_ z_]) w0 (wpAnyH Tryd.prog .any (opsAt Tryd.f134 [1, 1, 1, 1, 0, 0, 1, 1, 0, 0, 1, 0]) Qd (Mem (gB F [consCh C_ B_ z_] w0) (feet [consCh C_ B_ z_]) w0 [ownCh (elSl elGSpan) 114 (.slice (some ⟨b86, 0, none⟩) 4 4) xs101, consCh C_ bb105 z103, snapCh w0 F]) 9 #[true, true, false, true, false, false, true, true, false, false, false, false, false, false]) [(0, (.func (.yield l_) #[] #[])), (1, (.pointer (some ⟨b1, 0, none⟩))), (2, (.pointer (some ⟨b3, 0, none⟩))), (4, (.pointer (some ⟨b86, 0, none⟩))), (5, (.bool t106)), (22, (.int .i64 t107)), (6, (.int .i64 t107)), (29, (.int .i64 t107)), (33, (.int .i64 r157)), (27, (pEl (.slice (some ⟨b1, 0, none⟩) 4 4) t107 1 0))] [ownCh (elSl elGSpan) 114 (.slice (some ⟨b86, 0, none⟩) 4 4) xs101, consCh C_ bb105 z103, snapCh w0 F] (idxW ([b_2.x0, b_2.x1, b_2.x2, b_2.x3]) t107 (fun e163 => L_impl_lessSpans e158 e163 r157 (fun (r134, r136) => k113 (r134, r136)))) := by
              intro r157 e158 h159
              obtain ⟨_, ⟨v161, rfl, sl162⟩, rw160⟩ := sl_open ha_1 h159
              refine o_ldR (dt 2 (fun _ m => m)) (u := v161) 2 rfl rw160 rfl rfl ty72 rfl ?_
              refine d_one (i := 4) rfl (by kernel_rfl) (o_ixa m_op 2 rfl (reads_snap hb_2) rfl rfl rfl arr114 ?_); intro e163 h164
              refine d_and (fun _ m => m) ?_
              refine pk [0, 1, 2] rfl ?_
              refine re (E' := [(0, (.func (.yield l_) #[] #[])), (1, (.pointer (some ⟨b1, 0, none⟩))), (2, (.pointer (some ⟨b3, 0, none⟩))), (4, (.pointer (some ⟨b86, 0, none⟩))), (5, (.bool t106)), (22, (.int .i64 t107)), (6, (.int .i64 t107)), (28, v161), (33, (.int .i64 r157)), (30, (pEl (.slice (some ⟨b3, 0, none⟩) 4 4) t107 1 0))]) ⟨rfl, rfl, rfl, rfl, rfl, rfl, rfl, rfl, rfl, rfl, trivial⟩ ?_
              exact H803 e158 h159 v161 sl162 rw160 r157 e163 h164
            have H811 : ∀ (r157 : Int) (e165 : (List GSpan)) (h166 : ([b_2.x0, b_2.x1, b_2.x2, b_2.x3])[(t107).toNat]? = some e165), Nx 82 (gB F [consCh C_ B_ z_] w0) (feet [consCh C_ B_ z_]) w0 (wpAnyH Tryd.prog .any (opsAt Tryd.f134 [1, 1, 1, 1, 0, 0, 1, 1, 0, 0, 1, 0]) Qd (Mem (gB F [consCh C_ B_ z_] w0) (feet [consCh C_ B_ z_]) w0 [ownCh (elSl elGSpan) 114 (.slice (some ⟨b86, 0, none⟩) 4 4) xs101, consCh C_ bb105 z103, snapCh w0 F]) 9 #[true, false, false, true, true, false, true, true, false, false, false, false, false, false]) [(0, (.func (.yield l_) #[] #[])), (1, (.pointer (some ⟨b1, 0, none⟩))), (2, (.pointer (some ⟨b3, 0, none⟩))), (4, (.pointer (some ⟨b86, 0, none⟩))), (5, (.bool t106)), (22, (.int .i64 t107)), (6, (.int .i64 t107)), (26, (.int .i64 t107)), (33, (.int .i64 r157)), (30, (pEl (.slice (some ⟨b3, 0, none⟩) 4 4) t107 1 0))] [ownCh (elSl elGSpan) 114 (.slice (some ⟨b86, 0, none⟩) 4 4) xs101, consCh C_ bb105 z103, snapCh w0 F] (idxW ([a_1.x0, a_1.x1, a_1.x2, a_1.x3]) t107 (fun e170 => L_impl_lessSpans e170 e165 r157 (fun (r154, r156) => k113 (r154, r156)))) := by
              intro r157 e165 h166
              obtain ⟨_, ⟨v168, rfl, sl169⟩, rw167⟩ := sl_open hb_2 h166
              refine o_ldR (dt 5 (fun _ m => m)) (u := v168) 2 rfl rw167 rfl rfl ty72 rfl ?_
              refine d_one (i := 1) rfl (by kernel_rfl) (o_ixa m_op 2 rfl (reads_snap ha_1) rfl rfl rfl arr114 ?_); intro e170 h171
              refine d_and (fun _ m => m) ?_
              refine pk [0, 1, 2] rfl ?_
              refine re (E' := [(0, (.func (.yield l_) #[] #[])), (1, (.pointer (some ⟨b1, 0, none⟩))), (2, (.pointer (some ⟨b3, 0, none⟩))), (4, (.pointer (some ⟨b86, 0, none⟩))), (5, (.bool t106)), (22, (.int .i64 t107)), (6, (.int .i64 t107)), (31, v168), (33, (.int .i64 r157)), (27, (pEl (.slice (some ⟨b1, 0, none⟩) 4 4) t107 1 0))]) ⟨rfl, rfl, rfl, rfl, rfl, rfl, rfl, rfl, rfl, rfl, trivial⟩ ?_
              exact H807 e165 h166 v168 sl169 rw167 r157 e170 h171
            have H812 : ∀ (r157 : Int), Nx 82 (gB F [consCh C_ B_ z_] w0) (feet [consCh C_ B_ z_]) w0 (wpAnyH Tryd.prog .any (opsAt Tryd.f134 [1, 1, 1, 1, 0, 0, 1, 1, 0, 0, 1, 0]) Qd (Mem (gB F [consCh C_ B_ z_] w0) (feet [consCh C_ B_ z_]) w0 [ownCh (elSl elGSpan) 114 (.slice (some ⟨b86, 0, none⟩) 4 4) xs101, consCh C_ bb105 z103, snapCh w0 F]) 10 #[true, false, false, true, false, false, true, true, false, false, false, false, false, false]) [(0, (.func (.yield l_) #[] #[])), (1, (.pointer (some ⟨b1, 0, none⟩))), (2, (.pointer (some ⟨b3, 0, none⟩))), (4, (.pointer (some ⟨b86, 0, none⟩))), (5, (.bool t106)), (22, (.int .i64 t107)), (6, (.int .i64 t107)), (26, (.int .i64 t107)), (29, (.int .i64 t107)), (33, (.int .i64 r157))] [ownCh (elSl elGSpan) 114 (.slice (some ⟨b86, 0, none⟩) 4 4) xs101, consCh C_ bb105 z103, snapCh w0 F] ((idxW ([a_1.x0, a_1.x1, a_1.x2, a_1.x3]) t107 (fun e158 => idxW ([b_2.x0, b_2.x1, b_2.x2, b_2.x3]) t107 (fun e163 => L_impl_lessSpans e158 e163 r157 (fun (r134, r136) => k113 (r134, r136))))) ∧ (idxW ([b_2.x0, b_2.x1, b_2.x2, b_2.x3]) t107 (fun e165 => idxW ([a_1.x0, a_1.x1, a_1.x2, a_1.x3]) t107 (fun e170 => L_impl_lessSpans e170 e165 r157 (fun (r154, r156) => k113 (r154, r156)))))) := by
              intro r157
              refine d_two (i := 1) (j := 4) rfl rfl (by kernel_rfl) ?_ ?_
              · intro o ho; cases ho
                refine nx_l ?_
                refine o_ixa m_op 2 rfl (reads_snap ha_1) rfl rfl rfl arr114 ?_; intro e158 h159
                refine d_and (fun _ m => m) ?_
                refine pk [0, 1, 2] rfl ?_
                refine re (E' := [(0, (.func (.yield l_) #[] #[])), (1, (.pointer (some ⟨b1, 0, none⟩))), (2, (.pointer (some ⟨b3, 0, none⟩))), (4, (.pointer (some ⟨b86, 0, none⟩))), (5, (.bool t106)), (22, (.int .i64 t107)), (6, (.int .i64 t107)), (29, (.int .i64 t107)), (33, (.int .i64 r157)), (27, (pEl (.slice (some ⟨b1, 0, none⟩) 4 4) t107 1 0))]) ⟨rfl, rfl, rfl, rfl, rfl, rfl, rfl, rfl, rfl, rfl, trivial⟩ ?_
                exact H810 r157 e158 h159
              · intro o ho; cases ho
                refine nx_r ?_
                refine o_ixa m_op 2 rfl (reads_snap hb_2) rfl rfl rfl arr114 ?_; intro e165 h166
                refine d_and (fun _ m => m) ?_
                refine pk [0, 1, 2] rfl ?_
                refine re (E' := [(0, (.func (.yield l_) #[] #[])), (1, (.pointer (some ⟨b1, 0, none⟩))), (2, (.pointer (some ⟨b3, 0, none⟩))), (4, (.pointer (some ⟨b86, 0, none⟩))), (5, (.bool t106)), (22, (.int .i64 t107)), (6, (.int .i64 t107)), (26, (.int .i64 t107)), (33, (.int .i64 r157)), (30, (pEl (.slice (some ⟨b3, 0, none⟩) 4 4) t107 1 0))]) ⟨rfl, rfl, rfl, rfl, rfl, rfl, rfl, rfl, rfl, rfl, trivial⟩ ?_
                exact H811 r157 e165 h166
            refine o_mv (dt 0 (fun _ m => m)) rfl rfl ?_
            refine o_mv (dt 3 (fun _ m => m)) rfl rfl ?_
            refine o_mv (dt 6 (fun _ m => m)) rfl rfl ?_
            refine d_three (i := 1) (j := 4) (l := 7) rfl rfl rfl (by kernel_rfl) ?_ ?_ ?_
            · intro o ho; cases ho
              refine nx_l ?_
              refine o_ixa m_op 2 rfl (reads_snap ha_1) rfl rfl rfl arr114 ?_; intro e114 h115
              refine d_and (fun _ m => m) ?_
              refine pk [0, 1, 2] rfl ?_
              refine re (E' := [(0, (.func (.yield l_) #[] #[])), (1, (.pointer (some ⟨b1, 0, none⟩))), (2, (.pointer (some ⟨b3, 0, none⟩))), (4, (.pointer (some ⟨b86, 0, none⟩))), (5, (.bool t106)), (22, (.int .i64 t107)), (6, (.int .i64 t107)), (29, (.int .i64 t107)), (32, (.int .i64 t107)), (27, (pEl (.slice (some ⟨b1, 0, none⟩) 4 4) t107 1 0))]) ⟨rfl, rfl, rfl, rfl, rfl, rfl, rfl, rfl, rfl, rfl, trivial⟩ ?_
              exact H805 e114 h115
            · intro o ho; cases ho
              refine nx_r ?_
              refine nx_l ?_
              refine o_ixa m_op 2 rfl (reads_snap hb_2) rfl rfl rfl arr114 ?_; intro e137 h138
              refine d_and (fun _ m => m) ?_
              refine pk [0, 1, 2] rfl ?_
              refine re (E' := [(0, (.func (.yield l_) #[] #[])), (1, (.pointer (some ⟨b1, 0, none⟩))), (2, (.pointer (some ⟨b3, 0, none⟩))), (4, (.pointer (some ⟨b86, 0, none⟩))), (5, (.bool t106)), (22, (.int .i64 t107)), (6, (.int .i64 t107)), (26, (.int .i64 t107)), (32, (.int .i64 t107)), (30, (pEl (.slice (some ⟨b3, 0, none⟩) 4 4) t107 1 0))]) ⟨rfl, rfl, rfl, rfl, rfl, rfl, rfl, rfl, rfl, rfl, trivial⟩ ?_
              exact H809 e137 h138
            · intro o ho; cases ho
              refine nx_r ?_
              refine nx_r ?_
              refine o_callP (vs := [(.int .i64 t107)]) Tryd.call91 rfl rfl (by intro w m h; exact (w_impl_FieldTop (F := allB [] w) (n_0 := t107) allB_ok (m.rd0 2 rfl (reads_snap hgl0)) h).mono (fun _ _ k => ret_free (fun r u => fr_nil) k)) ?_; rintro r157 _
              refine d_and (fun _ m => m) ?_
              refine pk [0, 1, 2] rfl ?_
              refine re (E' := [(0, (.func (.yield l_) #[] #[])), (1, (.pointer (some ⟨b1, 0, none⟩))), (2, (.pointer (some ⟨b3, 0, none⟩))), (4, (.pointer (some ⟨b86, 0, none⟩))), (5, (.bool t106)), (22, (.int .i64 t107)), (6, (.int .i64 t107)), (26, (.int .i64 t107)), (29, (.int .i64 t107)), (33, (.int .i64 r157))]) ⟨rfl, rfl, rfl, rfl, rfl, rfl, rfl, rfl, rfl, rfl, trivial⟩ ?_
              exact H812 r157
          · rintro ⟨xs109, t112⟩ a w ⟨v110, hE, hm⟩ h
            refine nx_of hE hm h ?_
            clear hE hm h
            refine c_seq ?_
            refine c_join (σ := Bool) (fun (t232 : Bool) (a : Act) (w : World) => Has 82 [(0, (.func (.yield l_) #[] #[])), (1, (.pointer (some ⟨b1, 0, none⟩))), (2, (.pointer (some ⟨b3, 0, none⟩))), (4, (.pointer (some ⟨b86, 0, none⟩))), (5, (.bool t106)), (22, (.int .i64 t107)), (6, (.int .i64 t107)), (7, v110), (47, (.bool t232))] a ∧ Mem (gB F [consCh C_ B_ z_] w0) (feet [consCh C_ B_ z_]) w0 [roCh elGSpan v110 xs109, ownCh (elSl elGSpan) 114 (.slice (some ⟨b86, 0, none⟩) 4 4) xs101, consCh C_ bb105 z103, snapCh w0 F] w) ?_ ?_
            · intro k233
              refine c_region ?_
              refine o_mv st rfl rfl ?_
              refine o_not st rfl rfl ?_
              refine o_mv st rfl rfl ?_
              refine st_sp (dj := 39) rfl ?_ ?_
              · refine st_s rfl rfl rfl rfl ?_
                refine st_s rfl rfl rfl rfl ?_
                refine st_s rfl rfl rfl rfl ?_
                refine st_s rfl rfl rfl rfl ?_
                refine st_s rfl rfl rfl rfl ?_
                refine st_s rfl rfl rfl rfl ?_
                refine st_s rfl rfl rfl rfl ?_
                refine o_pickT st rfl rfl rfl ?_
                refine c_nil ?_
                exact l_join true (fun a w hE hm => ⟨hE.sub ⟨rfl, rfl, rfl, rfl, rfl, rfl, rfl, rfl, rfl, trivial⟩, (hm.pick [0, 1, 2, 3] rfl)⟩)
              · refine o_mv (st_g rfl rfl) rfl rfl ?_
                refine o_len (st_g rfl rfl) el72 0 rfl reads_ro rfl rfl ?_
                refine o_gtr (st_g rfl rfl) rfl rfl rfl ?_
                refine o_mv (st_g rfl rfl) rfl rfl ?_
                refine st_sp (dj := 43) rfl ?_ ?_
                · refine o_mv (st_g rfl rfl) rfl rfl ?_
                  refine o_not (st_g rfl rfl) rfl rfl ?_
                  refine o_pickT (st_g rfl rfl) rfl rfl rfl ?_
                  refine o_pickF st rfl rfl rfl ?_
                  refine c_nil ?_
                  exact l_join (!t106) (fun a w hE hm => ⟨hE.sub ⟨rfl, rfl, rfl, rfl, rfl, rfl, rfl, rfl, rfl, trivial⟩, (hm.pick [0, 1, 2, 3] rfl)⟩)
                · refine st_s rfl rfl rfl rfl ?_
                  refine st_s rfl rfl rfl rfl ?_
                  refine o_pickF (st_g rfl rfl) rfl rfl rfl ?_
                  refine o_pickF st rfl rfl rfl ?_
                  refine c_nil ?_
                  exact l_join false (fun a w hE hm => ⟨hE.sub ⟨rfl, rfl, rfl, rfl, rfl, rfl, rfl, rfl, rfl, trivial⟩, (hm.pick [0, 1, 2, 3] rfl)⟩)
            · rintro t232 a w ⟨hE, hm⟩ h
              refine nx_of hE hm h ?_
              clear hE hm h
              refine c_cond rfl ?_ ?_
              · refine c_seq ?_
                refine c_regionY ?_
                refine o_mv stY rfl rfl ?_
                refine o_bldA stY (qs := []) (cells := [(.slice none 0 0), (.slice none 0 0), (.slice none 0 0), (.slice none 0 0)]) (by intro ρ h; simp only [List.map_toArray, List.map_cons, List.map_nil]) rfl bld114 rfl ?_
                refine pk [2, 0, 1, 3] rfl ?_
                refine y_yield (El' := elA4ListGSpan) (z := (A4ListGSpan.mk ([]) ([]) ([]) ([]))) (ok := false) (cs := [(.slice none 0 0), (.slice none 0 0), (.slice none 0 0), (.slice none 0 0)]) hY rfl rfl rfl (fun w m => ⟨⟨(.slice none 0 0), (.slice none 0 0), (.slice none 0 0), (.slice none 0 0)⟩, rfl, ⟨(Sl.nil _ _ _ _ _), (Sl.nil _ _ _ _ _), (Sl.nil _ _ _ _ _), (Sl.nil _ _ _ _ _)⟩⟩) ?_; intro t234 z235 bb236
                refine y_nil ?_
                refine l_then ?_
                refine c_ret ?_
                refine l_ret ?_
                refine b_ret ?_
                refine l_ret ?_
                refine l_ret ?_
                refine b_ret ?_
                exact l_end0m Tryd.results134 z235 bb236 rfl (fun w m => NewCh.ofB m [0] rfl)
              · refine c_skip ?_
                refine l_then ?_
                refine c_join (σ := (σ_ × (List (List GSpan)))) (fun ((z363, xs366) : (σ_ × (List (List GSpan)))) (a : Act) (w : World) => ∃ (bb365 : Nat → Prop), Has 82 [(0, (.func (.yield l_) #[] #[])), (1, (.pointer (some ⟨b1, 0, none⟩))), (2, (.pointer (some ⟨b3, 0, none⟩))), (4, (.pointer (some ⟨b86, 0, none⟩))), (5, (.bool t106)), (22, (.int .i64 t107)), (6, (.int .i64 t107))] a ∧ Mem (gB F [consCh C_ B_ z_] w0) (feet [consCh C_ B_ z_]) w0 [consCh C_ bb365 z363, ownCh (elSl elGSpan) 114 (.slice (some ⟨b86, 0, none⟩) 4 4) xs366, snapCh w0 F] w) ?_ ?_
                · intro k368
                  refine c_seq ?_
                  refine c_region ?_
                  refine o_mv st rfl rfl ?_
                  refine o_len st el72 0 rfl reads_ro rfl rfl ?_
                  refine o_gtr st rfl rfl rfl ?_
                  refine c_nil ?_
                  refine l_then ?_
                  refine c_cond rfl ?_ ?_
                  · refine c_seq ?_
                    refine c_region ?_
                    refine nx_unl4 1 rfl ?_; intro e238 e239 e240 e241
                    refine stw (o_ldAN (len := 4) 1 rfl src_own rfl rfl rfl ty114 rfl ?_); rintro wr243 ff244 _ hrows_; obtain ⟨_, _, _, _, rfl, hc0_, hc1_, hc2_, hc3_⟩ := rows_l4 hrows_; obtain ⟨v246, rfl, sl247⟩ := hc0_; obtain ⟨v249, rfl, sl250⟩ := hc1_; obtain ⟨v252, rfl, sl253⟩ := hc2_; obtain ⟨v255, rfl, sl256⟩ := hc3_; refine ⟨[v246, v249, v252, v255], rfl, ?_⟩
                    refine stw (o_allocA (El' := (elSl elGSpan)) (z := ([] : (List GSpan))) (len := 4) (zs := [(.slice none 0 0)]) (fun F w => ⟨_, rfl, Sl.nil ..⟩) rfl zero114 rfl rfl ?_); intro b258
                    obtain ⟨a260, l261, q262, hs_⟩ := sl_val sl247; subst hs_
                    obtain ⟨a263, l264, q265, hs_⟩ := sl_val sl250; subst hs_
                    obtain ⟨a266, l267, q268, hs_⟩ := sl_val sl253; subst hs_
                    obtain ⟨a269, l270, q271, hs_⟩ := sl_val sl256; subst hs_
                    refine stw (o_stA (El' := (elSl elGSpan)) (len := 4) 0 rfl ([e238, e239, e240, e241]) ([[(.slice a260 l261 q262)], [(.slice a263 l264 q265)], [(.slice a266 l267 q268)], [(.slice a269 l270 q271)]]) (fun w m => ⟨⟨(.slice a260 l261 q262), rfl, (m.roS 1 rfl sl247)⟩, ⟨(.slice a263 l264 q265), rfl, (m.roS 1 rfl sl250)⟩, ⟨(.slice a266 l267 q268), rfl, (m.roS 1 rfl sl253)⟩, ⟨(.slice a269 l270 q271), rfl, (m.roS 1 rfl sl256)⟩, trivial⟩) rfl rfl rfl rfl rfl rfl ty114 rfl rfl ?_)
                    refine c_nil ?_
                    refine l_then ?_
                    refine c_seq ?_
                    refine c_region ?_
                    refine o_mv st rfl rfl ?_
                    refine o_mv st rfl rfl ?_
                    refine o_ixa st 0 rfl reads_own rfl rfl rfl arr114 ?_; intro e273 h274
                    refine nx_ro 2 rfl ?_; rintro a275 l276 q277 rfl
                    refine stw (o_stsN (El' := (elSl elGSpan)) (y' := xs109) 0 rfl rfl h274 (fun w cs m h => by obtain ⟨u0_, rfl, s0_⟩ := h; exact ⟨(.slice a275 l276 q277), rfl, (m.ro 2 rfl)⟩) ty72 rfl rfl rfl rfl rfl ?_)
                    refine c_nil ?_
                    refine l_then ?_
                    refine c_seq ?_
                    refine c_regionY ?_
                    refine o_mv stY rfl rfl ?_
                    refine nx_unl4 0 rfl ?_; intro e279 e280 e281 e282
                    refine stYw (o_ldAN (len := 4) 0 rfl src_own rfl rfl rfl ty114 rfl ?_); rintro wr284 ff285 _ hrows_; obtain ⟨_, _, _, _, rfl, hc0_, hc1_, hc2_, hc3_⟩ := rows_l4 hrows_; obtain ⟨v287, rfl, sl288⟩ := hc0_; obtain ⟨v290, rfl, sl291⟩ := hc1_; obtain ⟨v293, rfl, sl294⟩ := hc2_; obtain ⟨v296, rfl, sl297⟩ := hc3_; refine ⟨[v287, v290, v293, v296], rfl, ?_⟩
                    refine pk [5, 0, 1, 2, 3, 4, 6] rfl ?_
                    refine y_yield (El' := elA4ListGSpan) (z := (A4ListGSpan.mk e279 e280 e281 e282)) (ok := true) (cs := [v287, v290, v293, v296]) hY rfl rfl rfl (fun w m => ⟨⟨v287, v290, v293, v296⟩, rfl, ⟨(m.roS 1 rfl sl288), (m.roS 1 rfl sl291), (m.roS 1 rfl sl294), (m.roS 1 rfl sl297)⟩⟩) ?_; intro t299 z300 bb301
                    refine o_not stY rfl rfl ?_
                    refine y_nil ?_
                    refine l_then ?_
                    refine c_cond rfl ?_ ?_
                    · refine c_ret ?_
                      refine l_ret ?_
                      refine b_ret ?_
                      refine l_ret ?_
                      refine l_ret ?_
                      refine b_ret ?_
                      exact l_end0m Tryd.results134 z300 bb301 rfl (fun w m => NewCh.ofB m [0] rfl)
                    · refine c_skip ?_
                      exact l_join (z300, [e238, e239, e240, e241]) (fun a w hE hm => ⟨bb301, hE.sub ⟨rfl, rfl, rfl, rfl, rfl, rfl, rfl, trivial⟩, (hm.pick [0, 5, 6] rfl)⟩)
                  · refine c_skip ?_
                    exact l_join (z103, xs101) (fun a w hE hm => ⟨bb105, hE.sub ⟨rfl, rfl, rfl, rfl, rfl, rfl, rfl, trivial⟩, (hm.pick [2, 1, 3] rfl)⟩)
                · rintro ⟨z363, xs366⟩ a w ⟨bb365, hE, hm⟩ h
                  refine nx_of hE hm h ?_
                  clear hE hm h
                  refine c_join (σ := ((List GSpan) × Bool)) (fun ((xs369, t372) : ((List GSpan) × Bool)) (a : Act) (w : World) => ∃ (v370 : Value), Has 82 [(0, (.func (.yield l_) #[] #[])), (1, (.pointer (some ⟨b1, 0, none⟩))), (2, (.pointer (some ⟨b3, 0, none⟩))), (4, (.pointer (some ⟨b86, 0, none⟩))), (5, (.bool t106)), (22, (.int .i64 t107)), (6, (.int .i64 t107)), (10, v370), (11, (.bool t372))] a ∧ Mem (gB F [consCh C_ B_ z_] w0) (feet [consCh C_ B_ z_]) w0 [roCh elGSpan v370 xs369, consCh C_ bb365 z363, ownCh (elSl elGSpan) 114 (.slice (some ⟨b86, 0, none⟩) 4 4) xs366, snapCh w0 F] w) ?_ ?_
                  · intro k373
                    refine c_drawQ mixed 14 rfl [consCh C_ bb365 z363, ownCh (elSl elGSpan) 114 (.slice (some ⟨b86, 0, none⟩) 4 4) xs366, snapCh w0 F] ?_
                    intro Qd hP hQ
                    have H814 : ∀ (e374 : (List GSpan)) (h375 : ([a_1.x0, a_1.x1, a_1.x2, a_1.x3])[(t107).toNat]? = some e374) (v377 : Value) (sl378 : Sl elGSpan F w0 v377 e374) (rw376 : RowAt w0 F (.slice (some ⟨b1, 0, none⟩) 4 4) t107 1 [v377]) (e379 : (List GSpan)) (h380 : ([b_2.x0, b_2.x1, b_2.x2, b_2.x3])[(t107).toNat]? = some e379) (v382 : Value) (sl383 : Sl elGSpan F w0 v382 e379) (rw381 : RowAt w0 F (.slice (some ⟨b3, 0, none⟩) 4 4) t107 1 [v382]) (r384 : Int) (r385 : (List GSpan)) (v386 : Value) (r387 : Bool), Nx 82 (gB F [consCh C_ B_ z_] w0) (feet [consCh C_ B_ z_]) w0 (wpAnyH Tryd.prog .any (opsAt Tryd.f134 [1, 1, 1, 1, 0, 0, 1, 1, 0, 0, 1, 1, 1, 1, 0]) Qd (Mem (gB F [consCh C_ B_ z_] w0) (feet [consCh C_ B_ z_]) w0 [consCh C_ bb365 z363, ownCh (elSl elGSpan) 114 (.slice (some ⟨b86, 0, none⟩) 4 4) xs366, snapCh w0 F]) 5 #[true, true, true, true, true, true, true, true, true, false, false, false, false, false]) [(0, (.func (.yield l_) #[] #[])), (1, (.pointer (some ⟨b1, 0, none⟩))), (2, (.pointer (some ⟨b3, 0, none⟩))), (4, (.pointer (some ⟨b86, 0, none⟩))), (5, (.bool t106)), (22, (.int .i64 t107)), (6, (.int .i64 t107)), (71, (.tuple #[v386, (.bool r387)]))] [roCh elGSpan v386 r385, consCh C_ bb365 z363, ownCh (elSl elGSpan) 114 (.slice (some ⟨b86, 0, none⟩) 4 4) xs366, snapCh w0 F] (k373 (r385, r387)) := by
                      intro e374 h375 v377 sl378 rw376 e379 h380 v382 sl383 rw381 r384 r385 v386 r387
                      refine o_mv (dt 9 (fun w m => m.pick [1, 2, 3] rfl)) rfl rfl ?_
                      refine o_ext (dt 10 (fun w m => m.pick [1, 2, 3] rfl)) (vs := [v386, (.bool r387)]) rfl rfl rfl ?_
                      refine o_ext (dt 11 (fun w m => m.pick [1, 2, 3] rfl)) (vs := [v386, (.bool r387)]) rfl rfl rfl ?_
                      refine o_as (dt 12 (fun w m => m.pick [1, 2, 3] rfl)) rfl rfl ?_
                      refine o_as (dt 13 (fun w m => m.pick [1, 2, 3] rfl)) rfl rfl ?_
                      refine d_done (by kernel_rfl) ?_
                      exact fun a w hE hm hφ => hQ (r385, r387) a w hφ ((fun a w hE hm => ⟨v386, hE.sub ⟨rfl, rfl, rfl, rfl, rfl, rfl, rfl, rfl, rfl, trivial⟩, (hm.pick [0, 1, 2, 3] rfl)⟩) a w hE hm)
                    have H815 : ∀ (e374 : (List GSpan)) (h375 : ([a_1.x0, a_1.x1, a_1.x2, a_1.x3])[(t107).toNat]? = some e374) (v377 : Value) (sl378 : Sl elGSpan F w0 v377 e374) (rw376 : RowAt w0 F (.slice (some ⟨b1, 0, none⟩) 4 4) t107 1 [v377]) (e379 : (List GSpan)) (h380 : ([b_2.x0, b_2.x1, b_2.x2, b_2.x3])[(t107).toNat]? = some e379) (v382 : Value) (sl383 : Sl elGSpan F w0 v382 e379) (rw381 : RowAt w0 F (.slice (some ⟨b3, 0, none⟩) 4 4) t107 1 [v382]) (r384 : Int), Nx 82 (gB F [consCh C_ B_ z_] w0) (feet [consCh C_ B_ z_]) w0 (wpAnyH Tryd.prog .any (opsAt Tryd.f134 [1, 1, 1, 1, 0, 0, 1, 1, 0, 0, 1, 1, 1, 1, 0]) Qd (Mem (gB F [consCh C_ B_ z_] w0) (feet [consCh C_ B_ z_]) w0 [consCh C_ bb365 z363, ownCh (elSl elGSpan) 114 (.slice (some ⟨b86, 0, none⟩) 4 4) xs366, snapCh w0 F]) 6 #[true, true, true, true, true, true, true, true, false, false, false, false, false, false]) [(0, (.func (.yield l_) #[] #[])), (1, (.pointer (some ⟨b1, 0, none⟩))), (2, (.pointer (some ⟨b3, 0, none⟩))), (4, (.pointer (some ⟨b86, 0, none⟩))), (5, (.bool t106)), (22, (.int .i64 t107)), (6, (.int .i64 t107)), (65, v377), (68, v382), (70, (.int .i64 r384))] [consCh C_ bb365 z363, ownCh (elSl elGSpan) 114 (.slice (some ⟨b86, 0, none⟩) 4 4) xs366, snapCh w0 F] (L_impl_meetSpans e374 e379 r384 (fun (r385, r387) => k373 (r385, r387))) := by
                      intro e374 h375 v377 sl378 rw376 e379 h380 v382 sl383 rw381 r384
                      refine d_one (i := 8) rfl (by kernel_rfl) (o_callP (vs := [v377, v382, (.int .i64 r384)]) Tryd.call137 rfl rfl (by intro w m h; exact w_impl_meetSpans (a_0 := e374) (b_1 := e379) (top_2 := r384) fz_ok0 (m.roS 2 rfl sl378) (m.roS 2 rfl sl383) h) ?_); rintro ⟨r385, r387⟩ v386
                      refine d_and (fun w m => m.pick [1, 2, 3] rfl) ?_
                      refine pk [0, 1, 2, 3] rfl ?_
                      refine re (E' := [(0, (.func (.yield l_) #[] #[])), (1, (.pointer (some ⟨b1, 0, none⟩))), (2, (.pointer (some ⟨b3, 0, none⟩))), (4, (.pointer (some ⟨b86, 0, none⟩))), (5, (.bool t106)), (22, (.int .i64 t107)), (6, (.int .i64 t107)), (71, (.tuple #[v386, (.bool r387)]))]) ⟨rfl, rfl, rfl, rfl, rfl, rfl, rfl, rfl, trivial⟩ ?_
                      exact H814 e374 h375 v377 sl378 rw376 e379 h380 v382 sl383 rw381 r384 r385 v386 r387
                    have H816 : ∀ (e374 : (List GSpan)) (h375 : ([a_1.x0, a_1.x1, a_1.x2, a_1.x3])[(t107).toNat]? = some e374) (v377 : Value) (sl378 : Sl elGSpan F w0 v377 e374) (rw376 : RowAt w0 F (.slice (some ⟨b1, 0, none⟩) 4 4) t107 1 [v377]) (e379 : (List GSpan)) (h380 : ([b_2.x0, b_2.x1, b_2.x2, b_2.x3])[(t107).toNat]? = some e379), Nx 82 (gB F [consCh C_ B_ z_] w0) (feet [consCh C_ B_ z_]) w0 (wpAnyH Tryd.prog .any (opsAt Tryd.f134 [1, 1, 1, 1, 0, 0, 1, 1, 0, 0, 1, 1, 1, 1, 0]) Qd (Mem (gB F [consCh C_ B_ z_] w0) (feet [consCh C_ B_ z_]) w0 [consCh C_ bb365 z363, ownCh (elSl elGSpan) 114 (.slice (some ⟨b86, 0, none⟩) 4 4) xs366, snapCh w0 F]) 8 #[true, true, true, true, true, false, true, false, false, false, false, false, false, false]) [(0, (.func (.yield l_) #[] #[])), (1, (.pointer (some ⟨b1, 0, none⟩))), (2, (.pointer (some ⟨b3, 0, none⟩))), (4, (.pointer (some ⟨b86, 0, none⟩))), (5, (.bool t106)), (22, (.int .i64 t107)), (6, (.int .i64 t107)), (69, (.int .i64 t107)), (65, v377), (67, (pEl (.slice (some ⟨b3, 0, none⟩) 4 4) t107 1 0))] [consCh C_ bb365 z363, ownCh (elSl elGSpan) 114 (.slice (some ⟨b86, 0, none⟩) 4 4) xs366, snapCh w0 F] (L_impl_FieldTop t107 (fun r384 => L_impl_meetSpans e374 e379 r384 (fun (r385, r387) => k373 (r385, r387)))) := by
                      intro e374 h375 v377 sl378 rw376 e379 h380
                      obtain ⟨_, ⟨v382, rfl, sl383⟩, rw381⟩ := sl_open hb_2 h380
                      refine o_ldR (dt 5 (fun _ m => m)) (u := v382) 2 rfl rw381 rfl rfl ty72 rfl ?_
                      refine d_one (i := 7) rfl (by kernel_rfl) (o_callP (vs := [(.int .i64 t107)]) Tryd.call91 rfl rfl (by intro w m h; exact (w_impl_FieldTop (F := allB [] w) (n_0 := t107) allB_ok (m.rd0 2 rfl (reads_snap hgl0)) h).mono (fun _ _ k => ret_free (fun r u => fr_nil) k)) ?_); rintro r384 _
                      refine d_and (fun _ m => m) ?_
                      refine pk [0, 1, 2] rfl ?_
                      refine re (E' := [(0, (.func (.yield l_) #[] #[])), (1, (.pointer (some ⟨b1, 0, none⟩))), (2, (.pointer (some ⟨b3, 0, none⟩))), (4, (.pointer (some ⟨b86, 0, none⟩))), (5, (.bool t106)), (22, (.int .i64 t107)), (6, (.int .i64 t107)), (65, v377), (68, v382), (70, (.int .i64 r384))]) ⟨rfl, rfl, rfl, rfl, rfl, rfl, rfl, rfl, rfl, rfl, trivial⟩ ?_
                      exact H815 e374 h375 v377 sl378 rw376 e379 h380 v382 sl383 rw381 r384
                    have H817 : ∀ (e374 : (List GSpan)) (h375 : ([a_1.x0, a_1.x1, a_1.x2, a_1.x3])[(t107).toNat]? = some e374) (v377 : Value) (sl378 : Sl elGSpan F w0 v377 e374) (rw376 : RowAt w0 F (.slice (some ⟨b1, 0, none⟩) 4 4) t107 1 [v377]) (r388 : Int) (e389 : (List GSpan)) (h390 : ([b_2.x0, b_2.x1, b_2.x2, b_2.x3])[(t107).toNat]? = some e389), Nx 82 (gB F [consCh C_ B_ z_] w0) (feet [consCh C_ B_ z_]) w0 (wpAnyH Tryd.prog .any (opsAt Tryd.f134 [1, 1, 1, 1, 0, 0, 1, 1, 0, 0, 1, 1, 1, 1, 0]) Qd (Mem (gB F [consCh C_ B_ z_] w0) (feet [consCh C_ B_ z_]) w0 [consCh C_ bb365 z363, ownCh (elSl elGSpan) 114 (.slice (some ⟨b86, 0, none⟩) 4 4) xs366, snapCh w0 F]) 7 #[true, true, true, true, true, false, true, true, false, false, false, false, false, false]) [(0, (.func (.yield l_) #[] #[])), (1, (.pointer (some ⟨b1, 0, none⟩))), (2, (.pointer (some ⟨b3, 0, none⟩))), (4, (.pointer (some ⟨b86, 0, none⟩))), (5, (.bool t106)), (22, (.int .i64 t107)), (6, (.int .i64 t107)), (65, v377), (70, (.int .i64 r388)), (67, (pEl (.slice (some ⟨b3, 0, none⟩) 4 4) t107 1 0))] [consCh C_ bb365 z363, ownCh (elSl elGSpan) 114 (.slice (some ⟨b86, 0, none⟩) 4 4) xs366, snapCh w0 F] (L_impl_meetSpans e374 e389 r388 (fun (r394, r396) => k373 (r394, r396))) := by
                      intro e374 h375 v377 sl378 rw376 r388 e389 h390
                      obtain ⟨_, ⟨v392, rfl, sl393⟩, rw391⟩ := sl_open hb_2 h390
                      refine o_ldR (dt 5 (fun _ m => m)) (u := v392) 2 rfl rw391 rfl rfl ty72 rfl ?_
                      refine d_one (i := 8) rfl (by kernel_rfl) (o_callP (vs := [v377, v392, (.int .i64 r388)]) Tryd.call137 rfl rfl (by intro w m h; exact w_impl_meetSpans (a_0 := e374) (b_1 := e389) (top_2 := r388) fz_ok0 (m.roS 2 rfl sl378) (m.roS 2 rfl sl393) h) ?_); rintro ⟨r394, r396⟩ v395
                      refine d_and (fun w m => m.pick [1, 2, 3] rfl) ?_
                      refine pk [0, 1, 2, 3] rfl ?_
                      refine re (E' := [(0, (.func (.yield l_) #[] #[])), (1, (.pointer (some ⟨b1, 0, none⟩))), (2, (.pointer (some ⟨b3, 0, none⟩))), (4, (.pointer (some ⟨b86, 0, none⟩))), (5, (.bool t106)), (22, (.int .i64 t107)), (6, (.int .i64 t107)), (71, (.tuple #[v395, (.bool r396)]))]) ⟨rfl, rfl, rfl, rfl, rfl, rfl, rfl, rfl, trivial⟩ ?_
                      exact H814 e374 h375 v377 sl378 rw376 e389 h390 v392 sl393 rw391 r388 r394 v395 r396
                    have H818 : ∀ (e374 : (List GSpan)) (h375 : ([a_1.x0, a_1.x1, a_1.x2, a_1.x3])[(t107).toNat]? = some e374) (v377 : Value) (sl378 : Sl elGSpan F w0 v377 e374) (rw376 : RowAt w0 F (.slice (some ⟨b1, 0, none⟩) 4 4) t107 1 [v377]) (r388 : Int), Nx 82 (gB F [consCh C_ B_ z_] w0) (feet [consCh C_ B_ z_]) w0 (wpAnyH Tryd.prog .any (opsAt Tryd.f134 [1, 1, 1, 1, 0, 0, 1, 1, 0, 0, 1, 1, 1, 1, 0]) Qd (Mem (gB F [consCh C_ B_ z_] w0) (feet [consCh C_ B_ z_]) w0 [consCh C_ bb365 z363, ownCh (elSl elGSpan) 114 (.slice (some ⟨b86, 0, none⟩) 4 4) xs366, snapCh w0 F]) 8 #[true, true, true, true, false, false, true, true, false, false, false, false, false, false]) [(0, (.func (.yield l_) #[] #[])), (1, (.pointer (some ⟨b1, 0, none⟩))), (2, (.pointer (some ⟨b3, 0, none⟩))), (4, (.pointer (some ⟨b86, 0, none⟩))), (5, (.bool t106)), (22, (.int .i64 t107)), (6, (.int .i64 t107)), (66, (.int .i64 t107)), (65, v377), (70, (.int .i64 r388))] [consCh C_ bb365 z363, ownCh (elSl elGSpan) 114 (.slice (some ⟨b86, 0, none⟩) 4 4) xs366, snapCh w0 F] (idxW ([b_2.x0, b_2.x1, b_2.x2, b_2.x3]) t107 (fun e389 => L_impl_meetSpans e374 e389 r388 (fun (r394, r396) => k373 (r394, r396)))) := by
                      intro e374 h375 v377 sl378 rw376 r388
                      refine d_one (i := 4) rfl (by kernel_rfl) (o_ixa m_op 2 rfl (reads_snap hb_2) rfl rfl rfl arr114 ?_); intro e389 h390
                      refine d_and (fun _ m => m) ?_
                      refine pk [0, 1, 2] rfl ?_
                      refine re (E' := [(0, (.func (.yield l_) #[] #[])), (1, (.pointer (some ⟨b1, 0, none⟩))), (2, (.pointer (some ⟨b3, 0, none⟩))), (4, (.pointer (some ⟨b86, 0, none⟩))), (5, (.bool t106)), (22, (.int .i64 t107)), (6, (.int .i64 t107)), (65, v377), (70, (.int .i64 r388)), (67, (pEl (.slice (some ⟨b3, 0, none⟩) 4 4) t107 1 0))]) ⟨rfl, rfl, rfl, rfl, rfl, rfl, rfl, rfl, rfl, rfl, trivial⟩ ?_
                      exact H817 e374 h375 v377 sl378 rw376 r388 e389 h390
                    have H819 : ∀ (e374 : (List GSpan)) (h375 : ([a_1.x0, a_1.x1, a_1.x2, a_1.x3])[(t107).toNat]? = some e374), Nx 82 (gB F [consCh C_ B_ z_] w0) (feet [consCh C_ B_ z_]) w0 (wpAnyH Tryd.prog .any (opsAt Tryd.f134 [1, 1, 1, 1, 0, 0, 1, 1, 0, 0, 1, 1, 1, 1, 0]) Qd (Mem (gB F [consCh C_ B_ z_] w0) (feet [consCh C_ B_ z_]) w0 [consCh C_ bb365 z363, ownCh (elSl elGSpan) 114 (.slice (some ⟨b86, 0, none⟩) 4 4) xs366, snapCh w0 F]) 10 #[true, true, false, true, false, false, true, false, false, false, false, false, false, false]) [(0, (.func (.yield l_) #[] #[])), (1, (.pointer (some ⟨b1, 0, none⟩))), (2, (.pointer (some ⟨b3, 0, none⟩))), (4, (.pointer (some ⟨b86, 0, none⟩))), (5, (.bool t106)), (22, (.int .i64 t107)), (6, (.int .i64 t107)), (66, (.int .i64 t107)), (69, (.int .i64 t107)), (64, (pEl (.slice (some ⟨b1, 0, none⟩) 4 4) t107 1 0))] [consCh C_ bb365 z363, ownCh (elSl elGSpan) 114 (.slice (some ⟨b86, 0, none⟩) 4 4) xs366, snapCh w0 F] ((idxW ([b_2.x0, b_2.x1, b_2.x2, b_2.x3]) t107 (fun e379 => L_impl_FieldTop t107 (fun r384 => L_impl_meetSpans e374 e379 r384 (fun (r385, r387) => k373 (r385, r387))))) ∧ (L_impl_FieldTop t107 (fun r388 => idxW ([b_2.x0, b_2.x1, b_2.x2, b_2.x3]) t107 (fun e389 => L_impl_meetSpans e374 e389 r388 (fun (r394, r396) => k373 (r394, r396)))))) := by
                      intro e374 h375
                      obtain ⟨_, ⟨v377, rfl, sl378⟩, rw376⟩ := sl_open ha_1 h375
                      refine o_ldR (dt 2 (fun _ m => m)) (u := v377) 2 rfl rw376 rfl rfl ty72 rfl ?_
                      refine d_two (i := 4) (j := 7) rfl rfl (by kernel_rfl) ?_ ?_
                      · intro o ho; cases ho
                        refine nx_l ?_
                        refine o_ixa m_op 2 rfl (reads_snap hb_2) rfl rfl rfl arr114 ?_; intro e379 h380
                        refine d_and (fun _ m => m) ?_
                        refine pk [0, 1, 2] rfl ?_
                        refine re (E' := [(0, (.func (.yield l_) #[] #[])), (1, (.pointer (some ⟨b1, 0, none⟩))), (2, (.pointer (some ⟨b3, 0, none⟩))), (4, (.pointer (some ⟨b86, 0, none⟩))), (5, (.bool t106)), (22, (.int .i64 t107)), (6, (.int .i64 t107)), (69, (.int .i64 t107)), (65, v377), (67, (pEl (.slice (some ⟨b3, 0, none⟩) 4 4) t107 1 0))]) ⟨rfl, rfl, rfl, rfl, rfl, rfl, rfl, rfl, rfl, rfl, trivial⟩ ?_
                        exact H816 e374 h375 v377 sl378 rw376 e379 h380
                      · intro o ho; cases ho
                        refine nx_r ?_
                        refine o_callP (vs := [(.int .i64 t107)]) Tryd.call91 rfl rfl (by intro w m h; exact (w_impl_FieldTop (F := allB [] w) (n_0 := t107) allB_ok (m.rd0 2 rfl (reads_snap hgl0)) h).mono (fun _ _ k => ret_free (fun r u => fr_nil) k)) ?_; rintro r388 _
                        refine d_and (fun _ m => m) ?_
                        refine pk [0, 1, 2] rfl ?_
                        refine re (E' := [(0, (.func (.yield l_) #[] #[])), (1, (.pointer (some ⟨b1, 0, none⟩))), (2, (.pointer (some ⟨b3, 0, none⟩))), (4, (.pointer (some ⟨b86, 0, none⟩))), (5, (.bool t106)), (22, (.int .i64 t107)), (6, (.int .i64 t107)), (66, (.int .i64 t107)), (65, v377), (70, (.int .i64 r388))]) ⟨rfl, rfl, rfl, rfl, rfl, rfl, rfl, rfl, rfl, rfl, trivial⟩ ?_
                        exact H818 e374 h375 v377 sl378 rw376 r388
                    have H820 : ∀ (e397 : (List GSpan)) (h398 : ([b_2.x0, b_2.x1, b_2.x2, b_2.x3])[(t107).toNat]? = some e397) (v400 : Value) (sl401 : Sl elGSpan F w0 v400 e397) (rw399 : RowAt w0 F (.slice (some ⟨b3, 0, none⟩) 4 4) t107 1 [v400]) (e402 : (List GSpan)) (h403 : ([a_1.x0, a_1.x1, a_1.x2, a_1.x3])[(t107).toNat]? = some e402), Nx 82 (gB F [consCh C_ B_ z_] w0) (feet [consCh C_ B_ z_]) w0 (wpAnyH Tryd.prog .any (opsAt Tryd.f134 [1, 1, 1, 1, 0, 0, 1, 1, 0, 0, 1, 1, 1, 1, 0]) Qd (Mem (gB F [consCh C_ B_ z_] w0) (feet [consCh C_ B_ z_]) w0 [consCh C_ bb365 z363, ownCh (elSl elGSpan) 114 (.slice (some ⟨b86, 0, none⟩) 4 4) xs366, snapCh w0 F]) 8 #[true, true, false, true, true, true, true, false, false, false, false, false, false, false]) [(0, (.func (.yield l_) #[] #[])), (1, (.pointer (some ⟨b1, 0, none⟩))), (2, (.pointer (some ⟨b3, 0, none⟩))), (4, (.pointer (some ⟨b86, 0, none⟩))), (5, (.bool t106)), (22, (.int .i64 t107)), (6, (.int .i64 t107)), (69, (.int .i64 t107)), (68, v400), (64, (pEl (.slice (some ⟨b1, 0, none⟩) 4 4) t107 1 0))] [consCh C_ bb365 z363, ownCh (elSl elGSpan) 114 (.slice (some ⟨b86, 0, none⟩) 4 4) xs366, snapCh w0 F] (L_impl_FieldTop t107 (fun r407 => L_impl_meetSpans e402 e397 r407 (fun (r385, r387) => k373 (r385, r387)))) := by
                      intro e397 h398 v400 sl401 rw399 e402 h403
                      obtain ⟨_, ⟨v405, rfl, sl406⟩, rw404⟩ := sl_open ha_1 h403
                      refine o_ldR (dt 2 (fun _ m => m)) (u := v405) 2 rfl rw404 rfl rfl ty72 rfl ?_
                      refine d_one (i := 7) rfl (by kernel_rfl) (o_callP (vs := [(.int .i64 t107)]) Tryd.call91 rfl rfl (by intro w m h; exact (w_impl_FieldTop (F := allB [] w) (n_0 := t107) allB_ok (m.rd0 2 rfl (reads_snap hgl0)) h).mono (fun _ _ k => ret_free (fun r u => fr_nil) k)) ?_); rintro r407 _
                      refine d_and (fun _ m => m) ?_
                      refine pk [0, 1, 2] rfl ?_
                      refine re (E' := [(0, (.func (.yield l_) #[] #[])), (1, (.pointer (some ⟨b1, 0, none⟩))), (2, (.pointer (some ⟨b3, 0, none⟩))), (4, (.pointer (some ⟨b86, 0, none⟩))), (5, (.bool t106)), (22, (.int .i64 t107)), (6, (.int .i64 t107)), (65, v405), (68, v400), (70, (.int .i64 r407))]) ⟨rfl, rfl, rfl, rfl, rfl, rfl, rfl, rfl, rfl, rfl, trivial⟩ ?_
                      exact H815 e402 h403 v405 sl406 rw404 e397 h398 v400 sl401 rw399 r407
                    have H821 : ∀ (e397 : (List GSpan)) (h398 : ([b_2.x0, b_2.x1, b_2.x2, b_2.x3])[(t107).toNat]? = some e397) (v400 : Value) (sl401 : Sl elGSpan F w0 v400 e397) (rw399 : RowAt w0 F (.slice (some ⟨b3, 0, none⟩) 4 4) t107 1 [v400]) (r408 : Int) (e409 : (List GSpan)) (h410 : ([a_1.x0, a_1.x1, a_1.x2, a_1.x3])[(t107).toNat]? = some e409), Nx 82 (gB F [consCh C_ B_ z_] w0) (feet [consCh C_ B_ z_]) w0 (wpAnyH Tryd.prog .any (opsAt Tryd.f134 [1, 1, 1, 1, 0, 0, 1, 1, 0, 0, 1, 1, 1, 1, 0]) Qd (Mem (gB F [consCh C_ B_ z_] w0) (feet [consCh C_ B_ z_]) w0 [consCh C_ bb365 z363, ownCh (elSl elGSpan) 114 (.slice (some ⟨b86, 0, none⟩) 4 4) xs366, snapCh w0 F]) 7 #[true, true, false, true, true, true, true, true, false, false, false, false, false, false]) [(0, (.func (.yield l_) #[] #[])), (1, (.pointer (some ⟨b1, 0, none⟩))), (2, (.pointer (some ⟨b3, 0, none⟩))), (4, (.pointer (some ⟨b86, 0, none⟩))), (5, (.bool t106)), (22, (.int .i64 t107)), (6, (.int .i64 t107)), (68, v400), (70, (.int .i64 r408)), (64, (pEl (.slice (some ⟨b1, 0, none⟩) 4 4) t107 1 0))] [consCh C_ bb365 z363, ownCh (elSl elGSpan) 114 (.slice (some ⟨b86, 0, none⟩) 4 4) xs366, snapCh w0 F] (L_impl_meetSpans e409 e397 r408 (fun (r414, r416) => k373 (r414, r416))) := by
                      intro e397 h398 v400 sl401 rw399 r408 e409 h410
                      obtain ⟨_, ⟨v412, rfl, sl413⟩, rw411⟩ := sl_open ha_1 h410
                      refine o_ldR (dt 2 (fun _ m => m)) (u := v412) 2 rfl rw411 rfl rfl ty72 rfl ?_
                      refine d_one (i := 8) rfl (by kernel_rfl) (o_callP (vs := [v412, v400, (.int .i64 r408)]) Tryd.call137 rfl rfl (by intro w m h; exact w_impl_meetSpans (a_0 := e409) (b_1 := e397) (top_2 := r408) fz_ok0 (m.roS 2 rfl sl413) (m.roS 2 rfl sl401) h) ?_); rintro ⟨r414, r416⟩ v415
                      refine d_and (fun w m => m.pick [1, 2, 3] rfl) ?_
                      refine pk [0, 1, 2, 3] rfl ?_
                      refine re (E' := [(0, (.func (.yield l_) #[] #[])), (1, (.pointer (some ⟨b1, 0, none⟩))), (2, (.pointer (some ⟨b3, 0, none⟩))), (4, (.pointer (some ⟨b86, 0, none⟩))), (5, (.bool t106)), (22, (.int .i64 t107)), (6, (.int .i64 t107)), (71, (.tuple #[v415, (.bool r416)]))]) ⟨rfl, rfl, rfl, rfl, rfl, rfl, rfl, rfl, trivial⟩ ?_
                      exact H814 e409 h410 v412 sl413 rw411 e397 h398 v400 sl401 rw399 r408 r414 v415 r416
                    have H822 : ∀ (e397 : (List GSpan)) (h398 : ([b_2.x0, b_2.x1, b_2.x2, b_2.x3])[(t107).toNat]? = some e397) (v400 : Value) (sl401 : Sl elGSpan F w0 v400 e397) (rw399 : RowAt w0 F (.slice (some ⟨b3, 0, none⟩) 4 4) t107 1 [v400]) (r408 : Int), Nx 82 (gB F [consCh C_ B_ z_] w0) (feet [consCh C_ B_ z_]) w0 (wpAnyH Tryd.prog .any (opsAt Tryd.f134 [1, 1, 1, 1, 0, 0, 1, 1, 0, 0, 1, 1, 1, 1, 0]) Qd (Mem (gB F [consCh C_ B_ z_] w0) (feet [consCh C_ B_ z_]) w0 [consCh C_ bb365 z363, ownCh (elSl elGSpan) 114 (.slice (some ⟨b86, 0, none⟩) 4 4) xs366, snapCh w0 F]) 8 #[true, false, false, true, true, true, true, true, false, false, false, false, false, false]) [(0, (.func (.yield l_) #[] #[])), (1, (.pointer (some ⟨b1, 0, none⟩))), (2, (.pointer (some ⟨b3, 0, none⟩))), (4, (.pointer (some ⟨b86, 0, none⟩))), (5, (.bool t106)), (22, (.int .i64 t107)), (6, (.int .i64 t107)), (63, (.int .i64 t107)), (68, v400), (70, (.int .i64 r408))] [consCh C_ bb365 z363, ownCh (elSl elGSpan) 114 (.slice (some ⟨b86, 0, none⟩) 4 4) xs366, snapCh w0 F] (idxW ([a_1.x0, a_1.x1, a_1.x2, a_1.x3]) t107 (fun e409 => L_impl_meetSpans e409 e397 r408 (fun (r414, r416) => k373 (r414, r416)))) := by
                      intro e397 h398 v400 sl401 rw399 r408
                      refine d_one (i := 1) rfl (by kernel_rfl) (o_ixa m_op 2 rfl (reads_snap ha_1) rfl rfl rfl arr114 ?_); intro e409 h410
                      refine d_and (fun _ m => m) ?_
                      refine pk [0, 1, 2] rfl ?_
                      refine re (E' := [(0, (.func (.yield l_) #[] #[])), (1, (.pointer (some ⟨b1, 0, none⟩))), (2, (.pointer (some ⟨b3, 0, none⟩))), (4, (.pointer (some ⟨b86, 0, none⟩))), (5, (.bool t106)), (22, (.int .i64 t107)), (6, (.int .i64 t107)), (68, v400), (70, (.int .i64 r408)), (64, (pEl (.slice (some ⟨b1, 0, none⟩) 4 4) t107 1 0))]) ⟨rfl, rfl, rfl, rfl, rfl, rfl, rfl, rfl, rfl, rfl, trivial⟩ ?_
                      exact H821 e397 h398 v400 sl401 rw399 r408 e409 h410
                    have H823 : ∀ (e397 : (List GSpan)) (h398 : ([b_2.x0, b_2.x1, b_2.x2, b_2.x3])[(t107).toNat]? = some e397), Nx 82 (gB F [consCh C_ B_ z_] w0) (feet [consCh C_ B_ z_]) w0 (wpAnyH Tryd.prog .any (opsAt Tryd.f134 [1, 1, 1, 1, 0, 0, 1, 1, 0, 0, 1, 1, 1, 1, 0]) Qd (Mem (gB F [consCh C_ B_ z_] w0) (feet [consCh C_ B_ z_]) w0 [consCh C_ bb365 z363, ownCh (elSl elGSpan) 114 (.slice (some ⟨b86, 0, none⟩) 4 4) xs366, snapCh w0 F]) 10 #[true, false, false, true, true, false, true, false, false, false, false, false, false, false]) [(0, (.func (.yield l_) #[] #[])), (1, (.pointer (some ⟨b1, 0, none⟩))), (2, (.pointer (some ⟨b3, 0, none⟩))), (4, (.pointer (some ⟨b86, 0, none⟩))), (5, (.bool t106)), (22, (.int .i64 t107)), (6, (.int .i64 t107)), (63, (.int .i64 t107)), (69, (.int .i64 t107)), (67, (pEl (.slice (some ⟨b3, 0, none⟩) 4 4) t107 1 0))] [consCh C_ bb365 z363, ownCh (elSl elGSpan) 114 (.slice (some ⟨b86, 0, none⟩) 4 4) xs366, snapCh w0 F] ((idxW ([a_1.x0, a_1.x1, a_1.x2, a_1.x3]) t107 (fun e402 => L_impl_FieldTop t107 (fun r407 => L_impl_meetSpans e402 e397 r407 (fun (r385, r387) => k373 (r385, r387))))) ∧ (L_impl_FieldTop t107 (fun r408 => idxW ([a_1.x0, a_1.x1, a_1.x2, a_1.x3]) t107 (fun e409 => L_impl_meetSpans e409 e397 r408 (fun (r414, r416) => k373 (r414, r416)))))) := by
                      intro e397 h398
                      obtain ⟨_, ⟨v400, rfl, sl401⟩, rw399⟩ := sl_open hb_2 h398
                      refine o_ldR (dt 5 (fun _ m => m)) (u := v400) 2 rfl rw399 rfl rfl ty72 rfl ?_
                      refine d_two (i := 1) (j := 7) rfl rfl (by kernel_rfl) ?_ ?_
                      · intro o ho; cases ho
                        refine nx_l ?_
                        refine o_ixa m_op 2 rfl (reads_snap ha_1) rfl rfl rfl arr114 ?_; intro e402 h403
                        refine d_and (fun _ m => m) ?_
                        refine pk [0, 1, 2] rfl ?_
                        refine re (E' := [(0, (.func (.yield l_) #[] #[])), (1, (.pointer (some ⟨b1, 0, none⟩))), (2, (.pointer (some ⟨b3, 0, none⟩))), (4, (.pointer (some ⟨b86, 0, none⟩))), (5, (.bool t106)), (22, (.int .i64 t107)), (6, (.int .i64 t107)), (69, (.int .i64 t107)), (68, v400), (64, (pEl (.slice (some ⟨b1, 0, none⟩) 4 4) t107 1 0))]) ⟨rfl, rfl, rfl, rfl, rfl, rfl, rfl, rfl, rfl, rfl, trivial⟩ ?_
                        exact H820 e397 h398 v400 sl401 rw399 e402 h403
                      · intro o ho; cases ho
                        refine nx_r ?_
                        refine o_callP (vs := [(.int .i64 t107)]) Tryd.call91 rfl rfl (by intro w m h; exact (w_impl_FieldTop (F := allB [] w) (n_0 := t107) allB_ok (m.rd0 2 rfl (reads_snap hgl0)) h).mono (fun _ _ k => ret_free (fun r u => fr_nil) k)) ?_; rintro r408 _
                        refine d_and (fun _ m => m) ?_
                        refine pk [0, 1, 2] rfl ?_
                        refine re (E' := [(0, (.func (.yield l_) #[] #[])), (1, (.pointer (some ⟨b1, 0, none⟩))), (2, (.pointer (some ⟨b3, 0, none⟩))), (4, (.pointer (some ⟨b86, 0, none⟩))), (5, (.bool t106)), (22, (.int .i64 t107)), (6, (.int .i64 t107)), (63, (.int .i64 t107)), (68, v400), (70, (.int .i64 r408))]) ⟨rfl, rfl, rfl, rfl, rfl, rfl, rfl, rfl, rfl, rfl, trivial⟩ ?_
                        exact H822 e397 h398 v400 sl401 rw399 r408
                    have H824 : ∀ (r417 : Int) (e418 : (List GSpan)) (h419 : ([a_1.x0, a_1.x1, a_1.x2, a_1.x3])[(t107).toNat]? = some e418), Nx 82 (gB F [consCh C_ B_ z_] w0) (feet [consCh C_ B_ z_]) w0 (wpAnyH Tryd.prog .any (opsAt Tryd.f134 [1, 1, 1, 1, 0, 0, 1, 1, 0, 0, 1, 1, 1, 1, 0]) Qd (Mem (gB F [consCh C_ B_ z_] w0) (feet [consCh C_ B_ z_]) w0 [consCh C_ bb365 z363, ownCh (elSl elGSpan) 114 (.slice (some ⟨b86, 0, none⟩) 4 4) xs366, snapCh w0 F]) 9 #[true, true, false, true, false, false, true, true, false, false, false, false, false, false]) [(0, (.func (.yield l_) #[] #[])), (1, (.pointer (some ⟨b1, 0, none⟩))), (2, (.pointer (some ⟨b3, 0, none⟩))), (4, (.pointer (some ⟨b86, 0, none⟩))), (5, (.bool t106)), (22, (.int .i64 t107)), (6, (.int .i64 t107)), (66, (.int .i64 t107)), (70, (.int .i64 r417)), (64, (pEl (.slice (some ⟨b1, 0, none⟩) 4 4) t107 1 0))] [consCh C_ bb365 z363, ownCh (elSl elGSpan) 114 (.slice (some ⟨b86, 0, none⟩) 4 4) xs366, snapCh w0 F] (idxW ([b_2.x0, b_2.x1, b_2.x2, b_2.x3]) t107 (fun e423 => L_impl_meetSpans e418 e423 r417 (fun (r394, r396) => k373 (r394, r396)))) := by
                      intro r417 e418 h419
                      obtain ⟨_, ⟨v421, rfl, sl422⟩, rw420⟩ := sl_open ha_1 h419
                      refine o_ldR (dt 2 (fun _ m => m)) (u := v421) 2 rfl rw420 rfl rfl ty72 rfl ?_
                      refine d_one (i := 4) rfl (by kernel_rfl) (o_ixa m_op 2 rfl (reads_snap hb_2) rfl rfl rfl arr114 ?_); intro e423 h424
                      refine d_and (fun _ m => m) ?_
                      refine pk [0, 1, 2] rfl ?_
                      refine re (E' := [(0, (.func (.yield l_) #[] #[])), (1, (.pointer (some ⟨b1, 0, none⟩))), (2, (.pointer (some ⟨b3, 0, none⟩))), (4, (.pointer (some ⟨b86, 0, none⟩))), (5, (.bool t106)), (22, (.int .i64 t107)), (6, (.int .i64 t107)), (65, v421), (70, (.int .i64 r417)), (67, (pEl (.slice (some ⟨b3, 0, none⟩) 4 4) t107 1 0))]) ⟨rfl, rfl, rfl, rfl, rfl, rfl, rfl, rfl, rfl, rfl, trivial⟩ ?_
                      exact H817 e418 h419 v421 sl422 rw420 r417 e423 h424
                    have H825 : ∀ (r417 : Int) (e425 : (List GSpan)) (h426 : ([b_2.x0, b_2.x1, b_2.x2, b_2.x3])[(t107).toNat]? = some e425), Nx 82 (gB F [consCh C_ B_ z_] w0) (feet [consCh C_ B_ z_]) w0 (wpAnyH Tryd.prog .any (opsAt Tryd.f134 [1, 1, 1, 1, 0, 0, 1, 1, 0, 0, 1, 1, 1, 1, 0]) Qd (Mem (gB F [consCh C_ B_ z_] w0) (feet [consCh C_ B_ z_]) w0 [consCh C_ bb365 z363, ownCh (elSl elGSpan) 114 (.slice (some ⟨b86, 0, none⟩) 4 4) xs366, snapCh w0 F]) 9 #[true, false, false, true, true, false, true, true, false, false, false, false, false, false]) [(0, (.func (.yield l_) #[] #[])), (1, (.pointer (some ⟨b1, 0, none⟩))), (2, (.pointer (some ⟨b3, 0, none⟩))), (4, (.pointer (some ⟨b86, 0, none⟩))), (5, (.bool t106)), (22, (.int .i64 t107)), (6, (.int .i64 t107)), (63, (.int .i64 t107)), (70, (.int .i64 r417)), (67, (pEl (.slice (some ⟨b3, 0, none⟩) 4 4) t107 1 0))] [consCh C_ bb365 z363, ownCh (elSl elGSpan) 114 (.slice (some ⟨b86, 0, none⟩) 4 4) xs366, snapCh w0 F] (idxW ([a_1.x0, a_1.x1, a_1.x2, a_1.x3]) t107 (fun e430 => L_impl_meetSpans e430 e425 r417 (fun (r414, r416) => k373 (r414, r416)))) := by
                      intro r417 e425 h426
                      obtain ⟨_, ⟨v428, rfl, sl429⟩, rw427⟩ := sl_open hb_2 h426
                      refine o_ldR (dt 5 (fun _ m => m)) (u := v428) 2 rfl rw427 rfl rfl ty72 rfl ?_
                      refine d_one (i := 1) rfl (by kernel_rfl) (o_ixa m_op 2 rfl (reads_snap ha_1) rfl rfl rfl arr114 ?_); intro e430 h431
                      refine d_and (fun _ m => m) ?_
                      refine pk [0, 1, 2] rfl ?_
                      refine re (E' := [(0, (.func (.yield l_) #[] #[])), (1, (.pointer (some ⟨b1, 0, none⟩))), (2, (.pointer (some ⟨b3, 0, none⟩))), (4, (.pointer (some ⟨b86, 0, none⟩))), (5, (.bool t106)), (22, (.int .i64 t107)), (6, (.int .i64 t107)), (68, v428), (70, (.int .i64 r417)), (64, (pEl (.slice (some ⟨b1, 0, none⟩) 4 4) t107 1 0))]) ⟨rfl, rfl, rfl, rfl, rfl, rfl, rfl, rfl, rfl, rfl, trivial⟩ ?_
                      exact H821 e425 h426 v428 sl429 rw427 r417 e430 h431
                    have H826 : ∀ (r417 : Int), Nx 82 (gB F [consCh C_ B_ z_] w0) (feet [consCh C_ B_ z_]) w0 (wpAnyH Tryd.prog .any (opsAt Tryd.f134 [1, 1, 1, 1, 0, 0, 1, 1, 0, 0, 1, 1, 1, 1, 0]) Qd (Mem (gB F [consCh C_ B_ z_] w0) (feet [consCh C_ B_ z_]) w0 [consCh C_ bb365 z363, ownCh (elSl elGSpan) 114 (.slice (some ⟨b86, 0, none⟩) 4 4) xs366, snapCh w0 F]) 10 #[true, false, false, true, false, false, true, true, false, false, false, false, false, false]) [(0, (.func (.yield l_) #[] #[])), (1, (.pointer (some ⟨b1, 0, none⟩))), (2, (.pointer (some ⟨b3, 0, none⟩))), (4, (.pointer (some ⟨b86, 0, none⟩))), (5, (.bool t106)), (22, (.int .i64 t107)), (6, (.int .i64 t107)), (63, (.int .i64 t107)), (66, (.int .i64 t107)), (70, (.int .i64 r417))] [consCh C_ bb365 z363, ownCh (elSl elGSpan) 114 (.slice (some ⟨b86, 0, none⟩) 4 4) xs366, snapCh w0 F] ((idxW ([a_1.x0, a_1.x1, a_1.x2, a_1.x3]) t107 (fun e418 => idxW ([b_2.x0, b_2.x1, b_2.x2, b_2.x3]) t107 (fun e423 => L_impl_meetSpans e418 e423 r417 (fun (r394, r396) => k373 (r394, r396))))) ∧ (idxW ([b_2.x0, b_2.x1, b_2.x2, b_2.x3]) t107 (fun e425 => idxW ([a_1.x0, a_1.x1, a_1.x2, a_1.x3]) t107 (fun e430 => L_impl_meetSpans e430 e425 r417 (fun (r414, r416) => k373 (r414, r416)))))) := by
                      intro r417
                      refine d_two (i := 1) (j := 4) rfl rfl (by kernel_rfl) ?_ ?_
                      · intro o ho; cases ho
                        refine nx_l ?_
                        refine o_ixa m_op 2 rfl (reads_snap ha_1) rfl rfl rfl arr114 ?_; intro e418 h419
                        refine d_and (fun _ m => m) ?_
                        refine pk [0, 1, 2] rfl ?_
                        refine re (E' := [(0, (.func (.yield l_) #[] #[])), (1, (.pointer (some ⟨b1, 0, none⟩))), (2, (.pointer (some ⟨b3, 0, none⟩))), (4, (.pointer (some ⟨b86, 0, none⟩))), (5, (.bool t106)), (22, (.int .i64 t107)), (6, (.int .i64 t107)), (66, (.int .i64 t107)), (70, (.int .i64 r417)), (64, (pEl (.slice (some ⟨b1, 0, none⟩) 4 4) t107 1 0))]) ⟨rfl, rfl, rfl, rfl, rfl, rfl, rfl, rfl, rfl, rfl, trivial⟩ ?_
                        exact H824 r417 e418 h419
                      · intro o ho; cases ho
                        refine nx_r ?_
                        refine o_ixa m_op 2 rfl (reads_snap hb_2) rfl rfl rfl arr114 ?_; intro e425 h426
                        refine d_and (fun _ m => m) ?_
                        refine pk [0, 1, 2] rfl ?_
                        refine re (E' := [(0, (.func (.yield l_) #[] #[])), (1, (.pointer (some ⟨b1, 0, none⟩))), (2, (.pointer (some ⟨b3, 0, none⟩))), (4, (.pointer (some ⟨b86, 0, none⟩))), (5, (.bool t106)), (22, (.int .i64 t107)), (6, (.int .i64 t107)), (63, (.int .i64 t107)), (70, (.int .i64 r417)), (67, (pEl (.slice (some ⟨b3, 0, none⟩) 4 4) t107 1 0))]) ⟨rfl, rfl, rfl, rfl, rfl, rfl, rfl, rfl, rfl, rfl, trivial⟩ ?_
                        exact H825 r417 e425 h426
                    refine o_mv (dt 0 (fun _ m => m)) rfl rfl ?_
                    refine o_mv (dt 3 (fun _ m => m)) rfl rfl ?_
                    refine o_mv (dt 6 (fun _ m => m)) rfl rfl ?_
                    refine d_three (i := 1) (j := 4) (l := 7) rfl rfl rfl (by kernel_rfl) ?_ ?_ ?_
                    · intro o ho; cases ho
                      refine nx_l ?_
                      refine o_ixa m_op 2 rfl (reads_snap ha_1) rfl rfl rfl arr114 ?_; intro e374 h375
                      refine d_and (fun _ m => m) ?_
                      refine pk [0, 1, 2] rfl ?_
                      refine re (E' := [(0, (.func (.yield l_) #[] #[])), (1, (.pointer (some ⟨b1, 0, none⟩))), (2, (.pointer (some ⟨b3, 0, none⟩))), (4, (.pointer (some ⟨b86, 0, none⟩))), (5, (.bool t106)), (22, (.int .i64 t107)), (6, (.int .i64 t107)), (66, (.int .i64 t107)), (69, (.int .i64 t107)), (64, (pEl (.slice (some ⟨b1, 0, none⟩) 4 4) t107 1 0))]) ⟨rfl, rfl, rfl, rfl, rfl, rfl, rfl, rfl, rfl, rfl, trivial⟩ ?_
                      exact H819 e374 h375
                    · intro o ho; cases ho
                      refine nx_r ?_
                      refine nx_l ?_
                      refine o_ixa m_op 2 rfl (reads_snap hb_2) rfl rfl rfl arr114 ?_; intro e397 h398
                      refine d_and (fun _ m => m) ?_
                      refine pk [0, 1, 2] rfl ?_
                      refine re (E' := [(0, (.func (.yield l_) #[] #[])), (1, (.pointer (some ⟨b1, 0, none⟩))), (2, (.pointer (some ⟨b3, 0, none⟩))), (4, (.pointer (some ⟨b86, 0, none⟩))), (5, (.bool t106)), (22, (.int .i64 t107)), (6, (.int .i64 t107)), (63, (.int .i64 t107)), (69, (.int .i64 t107)), (67, (pEl (.slice (some ⟨b3, 0, none⟩) 4 4) t107 1 0))]) ⟨rfl, rfl, rfl, rfl, rfl, rfl, rfl, rfl, rfl, rfl, trivial⟩ ?_
                      exact H823 e397 h398
                    · intro o ho; cases ho
                      refine nx_r ?_
                      refine nx_r ?_
                      refine o_callP (vs := [(.int .i64 t107)]) Tryd.call91 rfl rfl (by intro w m h; exact (w_impl_FieldTop (F := allB [] w) (n_0 := t107) allB_ok (m.rd0 2 rfl (reads_snap hgl0)) h).mono (fun _ _ k => ret_free (fun r u => fr_nil) k)) ?_; rintro r417 _
                      refine d_and (fun _ m => m) ?_
                      refine pk [0, 1, 2] rfl ?_
                      refine re (E' := [(0, (.func (.yield l_) #[] #[])), (1, (.pointer (some ⟨b1, 0, none⟩))), (2, (.pointer (some ⟨b3, 0, none⟩))), (4, (.pointer (some ⟨b86, 0, none⟩))), (5, (.bool t106)), (22, (.int .i64 t107)), (6, (.int .i64 t107)), (63, (.int .i64 t107)), (66, (.int .i64 t107)), (70, (.int .i64 r417))]) ⟨rfl, rfl, rfl, rfl, rfl, rfl, rfl, rfl, rfl, rfl, trivial⟩ ?_
                      exact H826 r417
                  · rintro ⟨xs369, t372⟩ a w ⟨v370, hE, hm⟩ h
                    refine nx_of hE hm h ?_
                    clear hE hm h
                    refine c_seq ?_
                    refine c_region ?_
                    refine o_mv st rfl rfl ?_
                    refine o_mv st rfl rfl ?_
                    refine o_ixa st 2 rfl reads_own rfl rfl rfl arr114 ?_; intro e432 h433
                    refine nx_ro 0 rfl ?_; rintro a434 l435 q436 rfl
                    refine stw (o_stsN (El' := (elSl elGSpan)) (y' := xs369) 2 rfl rfl h433 (fun w cs m h => by obtain ⟨u0_, rfl, s0_⟩ := h; exact ⟨(.slice a434 l435 q436), rfl, (m.ro 0 rfl)⟩) ty72 rfl rfl rfl rfl rfl ?_)
                    refine c_nil ?_
                    refine l_then ?_
                    refine c_region ?_
                    refine o_mv st rfl rfl ?_
                    refine o_mv st rfl rfl ?_
                    refine st_sp (dj := 78) rfl ?_ ?_
                    · refine o_mv (st_g rfl rfl) rfl rfl ?_
                      refine o_pickT st rfl rfl rfl ?_
                      refine o_as st rfl rfl ?_
                      refine c_nil ?_
                      refine b_norm ?_
                      exact l_join (z363, (xs366.set (t107).toNat xs369), t372) (fun a w hE hm => ⟨bb365, hE.sub ⟨rfl, rfl, rfl, rfl, rfl, rfl, trivial⟩, (hm.pick [1, 2, 3] rfl)⟩)
                    · refine st_s rfl rfl rfl rfl ?_
                      refine o_pickF st rfl rfl rfl ?_
                      refine o_as st rfl rfl ?_
                      refine c_nil ?_
                      refine b_norm ?_
                      exact l_join (z363, (xs366.set (t107).toNat xs369), false) (fun a w hE hm => ⟨bb365, hE.sub ⟨rfl, rfl, rfl, rfl, rfl, rfl, trivial⟩, (hm.pick [1, 2, 3] rfl)⟩)
        · rintro ⟨z498, xs501, t503⟩ a w ⟨bb500, hE, hm⟩ h
          refine nx_of hE hm h ?_
          clear hE hm h
          refine c_region ?_
          refine o_add st rfl rfl rfl ?_; intro t505
          refine o_mv st rfl rfl ?_
          refine c_nil ?_
          exact l_join (xs501, z498, t503, t505) (fun a w hE hm => ⟨bb500, hE.sub ⟨rfl, rfl, rfl, rfl, rfl, rfl, trivial⟩, (hm.pick [1, 0, 2] rfl)⟩)
      · refine c_exit ?_
        refine l_exit ?_
        refine l_exit ?_
        refine b_exit ?_
        exact l_end0m Tryd.results134 z103 bb105 rfl (fun w m => NewCh.ofB m [1] rfl)

set_option maxRecDepth 100000 in
set_option maxHeartbeats 8000000 in
theorem w_impl_sides_pieces {w0 : World} {F : Nat → Prop} {v1 v2 v3 v4 v5 v6 v7 v8 : Value} {s_0 : A4ListGSpan} {other_1 : A4ListGSpan} {κ : Unit → Prop} (hF : ∀ b, F b → b < w0.heap.size ∧ ¬ feet [] b) (hv1 : Sl elGSpan F w0 v1 s_0.x0) (hv2 : Sl elGSpan F w0 v2 s_0.x1) (hv3 : Sl elGSpan F w0 v3 s_0.x2) (hv4 : Sl elGSpan F w0 v4 s_0.x3) (hv5 : Sl elGSpan F w0 v5 other_1.x0) (hv6 : Sl elGSpan F w0 v6 other_1.x1) (hv7 : Sl elGSpan F w0 v7 other_1.x2) (hv8 : Sl elGSpan F w0 v8 other_1.x3) (h : κ ()) :
    Calls Tryd.prog 133 #[(.agg #[v1, v2, v3, v4]), (.agg #[v5, v6, v7, v8])] w0 (Ret [] F w0 κ (fun (r : Unit) (u : Nat × Nat) => .func (.func 134) #[] #[.pointer (some ⟨u.1, 0, none⟩), .pointer (some ⟨u.2, 0, none⟩)]) (fun (r : Unit) (u : Nat × Nat) => [roCh (elSl elGSpan) (.slice (some ⟨u.1, 0, none⟩) 4 4) [s_0.x0, s_0.x1, s_0.x2, s_0.x3], roCh (elSl elGSpan) (.slice (some ⟨u.2, 0, none⟩) 4 4) [other_1.x0, other_1.x1, other_1.x2, other_1.x3]])) := by
  refine enterS (args := [(.agg #[v1, v2, v3, v4]), (.agg #[v5, v6, v7, v8])]) [] hF (Given.nil _ _) Tryd.func133 rfl Tryd.ntmps133 rfl h ?_
  clear h hF
  refine c_seq ?_
  refine c_region ?_
  obtain ⟨pba0a, pba0l, pba0c, hs_⟩ := sl_val hv1; subst hs_
  obtain ⟨pba1a, pba1l, pba1c, hs_⟩ := sl_val hv2; subst hs_
  obtain ⟨pba2a, pba2l, pba2c, hs_⟩ := sl_val hv3; subst hs_
  obtain ⟨pba3a, pba3l, pba3c, hs_⟩ := sl_val hv4; subst hs_
  refine stw (o_boxA (El' := (elSl elGSpan)) (len := 4) ([s_0.x0, s_0.x1, s_0.x2, s_0.x3]) ([[(.slice pba0a pba0l pba0c)], [(.slice pba1a pba1l pba1c)], [(.slice pba2a pba2l pba2c)], [(.slice pba3a pba3l pba3c)]]) (fun w m => ⟨⟨(.slice pba0a pba0l pba0c), rfl, (m.roS 0 rfl hv1)⟩, ⟨(.slice pba1a pba1l pba1c), rfl, (m.roS 0 rfl hv2)⟩, ⟨(.slice pba2a pba2l pba2c), rfl, (m.roS 0 rfl hv3)⟩, ⟨(.slice pba3a pba3l pba3c), rfl, (m.roS 0 rfl hv4)⟩, trivial⟩) rfl rfl rfl rfl rfl rfl ?_); intro ba
  obtain ⟨pbb0a, pbb0l, pbb0c, hs_⟩ := sl_val hv5; subst hs_
  obtain ⟨pbb1a, pbb1l, pbb1c, hs_⟩ := sl_val hv6; subst hs_
  obtain ⟨pbb2a, pbb2l, pbb2c, hs_⟩ := sl_val hv7; subst hs_
  obtain ⟨pbb3a, pbb3l, pbb3c, hs_⟩ := sl_val hv8; subst hs_
  refine stw (o_boxA (El' := (elSl elGSpan)) (len := 4) ([other_1.x0, other_1.x1, other_1.x2, other_1.x3]) ([[(.slice pbb0a pbb0l pbb0c)], [(.slice pbb1a pbb1l pbb1c)], [(.slice pbb2a pbb2l pbb2c)], [(.slice pbb3a pbb3l pbb3c)]]) (fun w m => ⟨⟨(.slice pbb0a pbb0l pbb0c), rfl, (m.roS 1 rfl hv5)⟩, ⟨(.slice pbb1a pbb1l pbb1c), rfl, (m.roS 1 rfl hv6)⟩, ⟨(.slice pbb2a pbb2l pbb2c), rfl, (m.roS 1 rfl hv7)⟩, ⟨(.slice pbb3a pbb3l pbb3c), rfl, (m.roS 1 rfl hv8)⟩, trivial⟩) rfl rfl rfl rfl rfl rfl ?_); intro bb
  refine o_as st rfl rfl ?_
  refine c_nil ?_
  refine l_then ?_
  refine c_seq ?_
  refine c_region ?_
  refine o_mkf st (cv := [.pointer (some ⟨ba, 0, none⟩), .pointer (some ⟨bb, 0, none⟩)]) (by intro ρ h; simp only [List.map_toArray, List.map_cons, List.map_nil, h (.tmp 2) _ rfl, h (.tmp 3) _ rfl]) rfl ?_
  refine o_as st rfl rfl ?_
  refine c_nil ?_
  refine l_then ?_
  refine c_ret ?_
  refine frz 0 rfl reads_own ?_
  refine frz 1 rfl reads_own ?_
  exact l_end1 Tryd.results133 () (ba, bb) (rv_t rfl) (fun w m => NewCh.ofB m [1, 0] rfl)
set_option maxRecDepth 100000 in
set_option maxHeartbeats 8000000 in
theorem w_impl_sides_cut {w0 : World} {F : Nat → Prop} {v1 v2 v3 v4 v5 v6 v7 v8 : Value} {s_0 : A4ListGSpan} {other_1 : A4ListGSpan} {κ : ((List A4ListGSpan) × Bool) → Prop} (hF : ∀ b, F b → b < w0.heap.size ∧ ¬ feet [] b) (hv1 : Sl elGSpan F w0 v1 s_0.x0) (hv2 : Sl elGSpan F w0 v2 s_0.x1) (hv3 : Sl elGSpan F w0 v3 s_0.x2) (hv4 : Sl elGSpan F w0 v4 s_0.x3) (hv5 : Sl elGSpan F w0 v5 other_1.x0) (hv6 : Sl elGSpan F w0 v6 other_1.x1) (hv7 : Sl elGSpan F w0 v7 other_1.x2) (hv8 : Sl elGSpan F w0 v8 other_1.x3) (hgl0 : Sl elGFieldShape F w0 (.slice (some ⟨0, 0, none⟩) 4 4) gl_impl_fieldShapes) (h : L_impl_sides_cut s_0 other_1 κ) :
    Calls Tryd.prog 125 #[(.agg #[v1, v2, v3, v4]), (.agg #[v5, v6, v7, v8])] w0 (Ret [] F w0 κ (fun (r : ((List A4ListGSpan) × Bool)) (u : Value) => .tuple #[u, (.bool r.2)]) (fun (r : ((List A4ListGSpan) × Bool)) (u : Value) => [ownCh elA4ListGSpan 114 u r.1])) := by
  refine enterM (args := [(.agg #[v1, v2, v3, v4]), (.agg #[v5, v6, v7, v8])]) [] hF (Given.nil _ _) Tryd.func125 rfl Tryd.ntmps125 rfl h ?_
  clear h hF
  refine c_seq ?_
  refine c_region ?_
  obtain ⟨pba0a, pba0l, pba0c, hs_⟩ := sl_val hv1; subst hs_
  obtain ⟨pba1a, pba1l, pba1c, hs_⟩ := sl_val hv2; subst hs_
  obtain ⟨pba2a, pba2l, pba2c, hs_⟩ := sl_val hv3; subst hs_
  obtain ⟨pba3a, pba3l, pba3c, hs_⟩ := sl_val hv4; subst hs_
  refine stw (o_boxA (El' := (elSl elGSpan)) (len := 4) ([s_0.x0, s_0.x1, s_0.x2, s_0.x3]) ([[(.slice pba0a pba0l pba0c)], [(.slice pba1a pba1l pba1c)], [(.slice pba2a pba2l pba2c)], [(.slice pba3a pba3l pba3c)]]) (fun w m => ⟨⟨(.slice pba0a pba0l pba0c), rfl, (m.roS 0 rfl hv1)⟩, ⟨(.slice pba1a pba1l pba1c), rfl, (m.roS 0 rfl hv2)⟩, ⟨(.slice pba2a pba2l pba2c), rfl, (m.roS 0 rfl hv3)⟩, ⟨(.slice pba3a pba3l pba3c), rfl, (m.roS 0 rfl hv4)⟩, trivial⟩) rfl rfl rfl rfl rfl rfl ?_); intro ba
  obtain ⟨pbb0a, pbb0l, pbb0c, hs_⟩ := sl_val hv5; subst hs_
  obtain ⟨pbb1a, pbb1l, pbb1c, hs_⟩ := sl_val hv6; subst hs_
  obtain ⟨pbb2a, pbb2l, pbb2c, hs_⟩ := sl_val hv7; subst hs_
  obtain ⟨pbb3a, pbb3l, pbb3c, hs_⟩ := sl_val hv8; subst hs_
  refine stw (o_boxA (El' := (elSl elGSpan)) (len := 4) ([other_1.x0, other_1.x1, other_1.x2, other_1.x3]) ([[(.slice pbb0a pbb0l pbb0c)], [(.slice pbb1a pbb1l pbb1c)], [(.slice pbb2a pbb2l pbb2c)], [(.slice pbb3a pbb3l pbb3c)]]) (fun w m => ⟨⟨(.slice pbb0a pbb0l pbb0c), rfl, (m.roS 1 rfl hv5)⟩, ⟨(.slice pbb1a pbb1l pbb1c), rfl, (m.roS 1 rfl hv6)⟩, ⟨(.slice pbb2a pbb2l pbb2c), rfl, (m.roS 1 rfl hv7)⟩, ⟨(.slice pbb3a pbb3l pbb3c), rfl, (m.roS 1 rfl hv8)⟩, trivial⟩) rfl rfl rfl rfl rfl rfl ?_); intro bb
  refine stw (o_alloc rfl [(.slice none 0 0)] zero98 ?_); intro b4
  refine stw (o_alloc rfl [(.bool false)] zero4 ?_); intro b5
  refine c_nil ?_
  refine l_then ?_
  refine c_seq ?_
  refine c_region ?_
  refine stw (o_alloc rfl [(.slice none 0 0)] zero98 ?_); intro b6
  refine c_nil ?_
  refine l_then ?_
  refine c_seq ?_
  refine c_seq ?_
  refine c_region ?_
  refine stw (o_ldAN (len := 4) 4 rfl src_own rfl rfl rfl ty114 rfl ?_); rintro wrA ffA _ hrows_; obtain ⟨_, _, _, _, rfl, hc0_, hc1_, hc2_, hc3_⟩ := rows_l4 hrows_; obtain ⟨q1, rfl, sq1⟩ := hc0_; obtain ⟨q2, rfl, sq2⟩ := hc1_; obtain ⟨q3, rfl, sq3⟩ := hc2_; obtain ⟨q4, rfl, sq4⟩ := hc3_; refine ⟨[q1, q2, q3, q4], rfl, ?_⟩
  refine stw (o_ldAN (len := 4) 4 rfl src_own rfl rfl rfl ty114 rfl ?_); rintro wrB ffB _ hrows_; obtain ⟨_, _, _, _, rfl, hc0_, hc1_, hc2_, hc3_⟩ := rows_l4 hrows_; obtain ⟨q5, rfl, sq5⟩ := hc0_; obtain ⟨q6, rfl, sq6⟩ := hc1_; obtain ⟨q7, rfl, sq7⟩ := hc2_; obtain ⟨q8, rfl, sq8⟩ := hc3_; refine ⟨[q5, q6, q7, q8], rfl, ?_⟩
  refine stw (o_callP (vs := [(.agg #[q1, q2, q3, q4]), (.agg #[q5, q6, q7, q8])]) Tryd.call133 rfl rfl (by intro w m h; exact w_impl_sides_pieces (κ := fun _ => L_impl_sides_cut s_0 other_1 κ) (F := fz _ _ w) (s_0 := s_0) (other_1 := other_1) fz_ok0 (m.roS 1 rfl sq1) (m.roS 1 rfl sq2) (m.roS 1 rfl sq3) (m.roS 1 rfl sq4) (m.roS 0 rfl sq5) (m.roS 0 rfl sq6) (m.roS 0 rfl sq7) (m.roS 0 rfl sq8) h) ?_); rintro _ ⟨ga, gb⟩
  refine c_nil ?_
  refine l_then ?_
  refine c_block ?_
  refine pk [6, 5, 4, 0, 1, 9] rfl ?_
  refine nx_nil elA4ListGSpan 114 ?_
  refine c_range (lb := [.pointer (some ⟨ga, 0, none⟩), .pointer (some ⟨gb, 0, none⟩)]) rfl Tryd.call134 ?_
  rintro a w fn l D0 hE hm hφ
  obtain ⟨rc, hrc, hm⟩ := hm.absLoop
  have r1 : rc.state = .ready := by rw [hrc]
  have r2 : rc.pending = none := by rw [hrc]
  have r3 : rc.tmps = a.tmps := by rw [hrc]
  have r4 : rc.params = #[12, 13] := by rw [hrc]
  have r5 := congrArg Loop.assign hrc
  have r6 := congrArg Loop.body hrc
  dsimp only at r5 r6
  clear hrc
  have hself : ({ rc with state := .ready, pending := none } : Loop) = rc := by cases rc; simp only at r1 r2; subst r1; subst r2; rfl
  obtain ⟨C, hC⟩ : ∃ C : Option (List A4ListGSpan) → List Ch → Prop, C = fun s Lc => match s with
    | some xs => ∃ v, Lc = [objCh l (.loop rc), objCh D0 (.deferred (some [])), ownCh elA4ListGSpan 114 v xs, cellCh b4 [(.slice none 0 0)] 98, cellCh b5 [(.bool false)] 4, cellCh b6 [v] 98]
    | none => ∃ v xs, Lc = [objCh l (.loop { rc with state := .done, pending := some .ret }), objCh D0 (.deferred (some [])), ownCh elA4ListGSpan 114 v xs, cellCh b4 [(.slice none 0 0)] 98, cellCh b5 [(.bool false)] 4, cellCh b6 [v] 98] := ⟨_, rfl⟩
  have hY : Yields Tryd.prog l elA4ListGSpan C Y_impl_sides_cut := by
    intro G' D' w' ww R' Lc s x ok cs κ' m hCs hmem hcells hy
    cases s with
    | none => exact False.elim hy
    | some xs =>
      obtain ⟨v, rfl⟩ : ∃ v, Lc = [objCh l (.loop rc), objCh D0 (.deferred (some [])), ownCh elA4ListGSpan 114 v xs, cellCh b4 [(.slice none 0 0)] 98, cellCh b5 [(.bool false)] 4, cellCh b6 [v] 98] := by rw [hC] at hCs; exact hCs
      obtain ⟨⟨u1, u2, u3, u4⟩, rfl, s1, s2, s3, s4⟩ := hcells
      simp only at s1 s2 s3 s4
      obtain ⟨a1, l1, c1, hs_⟩ := sl_val s1; subst hs_
      obtain ⟨a2, l2, c2, hs_⟩ := sl_val s2; subst hs_
      obtain ⟨a3, l3, c3, hs_⟩ := sl_val s3; subst hs_
      obtain ⟨a4, l4, c4, hs_⟩ := sl_val s4; subst hs_
      have hl : ww.heap[l]? = some (.loop rc) := hmem.get (i := 0) rfl
      have hsnap := hmem.note (c := snapCh ww (fz G' (_ ++ R') ww)) (fun b hb => hb) ⟨fun b hb => hb, fun _ _ => rfl⟩
      refine ⟨rc.fn, _, rc.assign, rc.body, run_yield (P := Tryd.prog) hl (by rw [r4]; rfl), roundIn_of_wpIn trivial ?_⟩
      rw [r3, r4, r5, r6]
      have hE2 := (hE.put (d := 12) rfl (.agg #[(.slice a1 l1 c1), (.slice a2 l2 c2), (.slice a3 l3 c3), (.slice a4 l4 c4)])).put (d := 13) rfl (.bool ok)
      have hact : ((a.put (some 12) (.agg #[(.slice a1 l1 c1), (.slice a2 l2 c2), (.slice a3 l3 c3), (.slice a4 l4 c4)])).put (some 13) (.bool ok)) = { tmps := ((#[12, 13] : Array Tmp).zip #[(.agg #[(.slice a1 l1 c1), (.slice a2 l2 c2), (.slice a3 l3 c3), (.slice a4 l4 c4)]), (.bool ok)]).foldl (fun tmps (t, a) => tmps.setIfInBounds t a) a.tmps, defers := [] } := by
        have hd := hE.defers
        cases a
        simp only at hd
        subst hd
        simp [Act.put]
      rw [hact] at hE2
      refine nx_of hE2 hsnap hy ?_
      clear hE2 hsnap hact
      -- the left sides
      refine r_seq ?_
      refine r_region ?_
      refine stRw (fun _ h => by cases h) (o_alloc rfl [(.slice none 0 0), (.slice none 0 0), (.slice none 0 0), (.slice none 0 0)] zero114 ?_); intro b7
      refine stRw (fun _ h => by cases h) (o_stc (cs' := [(.slice a1 l1 c1), (.slice a2 l2 c2), (.slice a3 l3 c3), (.slice a4 l4 c4)]) 0 rfl rfl rfl ty114 rfl rfl rfl rfl ?_)
      refine y_nil ?_
      refine l_then ?_
      refine r_region ?_
      refine o_as (stR (fun _ h => by cases h)) rfl rfl ?_
      refine y_nil ?_
      refine l_then ?_
      refine n_begin (i := 2) rfl r1 ?_
      -- the body
      refine r_block ?_
      refine r_seq ?_
      refine r_seq ?_
      refine r_region ?_
      refine o_mv (stR (fun _ h => by cases h)) rfl rfl ?_
      refine o_not (stR (fun _ h => by cases h)) rfl rfl ?_
      refine y_nil ?_
      refine l_then ?_
      refine nx_mono (ψ := ifW (!ok) (κ' (false, none)) (appW xs [x] (fun ys => κ' (true, some ys)))) (fun h => ⟨fun e => h.2 (by simpa using e), fun e => h.1 (by simpa using e)⟩) ?_
      refine r_cond rfl ?_ ?_
      · refine r_seq ?_
        refine r_region ?_
        refine stRw (fun _ h => by cases h) (o_stc (cs' := [(.slice none 0 0)]) 5 rfl rfl rfl ty98 rfl rfl rfl rfl ?_)
        refine stRw (fun _ h => by cases h) (o_stc (cs' := [(.bool false)]) 6 rfl rfl rfl ty4 rfl rfl rfl rfl ?_)
        refine y_nil ?_
        refine l_then ?_
        refine r_ret ?_
        refine l_ret ?_
        refine b_ret ?_
        exact n_endR (i := 2) rfl (fun w3 m3 hk => ⟨false, none, [objCh l (.loop { rc with state := .done, pending := some .ret }), objCh D0 (.deferred (some [])), ownCh elA4ListGSpan 114 v xs, cellCh b4 [(.slice none 0 0)] 98, cellCh b5 [(.bool false)] 4, cellCh b6 [v] 98], rfl, by rw [hC]; exact ⟨_, _, rfl⟩, (m3.drop 0).drop 0, hk⟩)
      · refine r_skip ?_
        refine l_then ?_
        refine r_region ?_
        refine o_ldc (stR (fun _ h => by cases h)) 7 rfl rfl rfl ty98 rfl ?_
        refine o_ldc (stR (fun _ h => by cases h)) 0 rfl rfl rfl ty114 rfl ?_
        refine stRw (fun _ h => by cases h) (o_bslN (El' := elA4ListGSpan) (qs := [(0, (.agg #[(.slice a1 l1 c1), (.slice a2 l2 c2), (.slice a3 l3 c3), (.slice a4 l4 c4)]))]) (cells := [(.slice a1 l1 c1), (.slice a2 l2 c2), (.slice a3 l3 c3), (.slice a4 l4 c4)]) ([x]) ([[(.slice a1 l1 c1), (.slice a2 l2 c2), (.slice a3 l3 c3), (.slice a4 l4 c4)]]) (fun w m => ⟨⟨⟨(.slice a1 l1 c1), (.slice a2 l2 c2), (.slice a3 l3 c3), (.slice a4 l4 c4)⟩, rfl, ⟨(m.roS 1 rfl s1), (m.roS 1 rfl s2), (m.roS 1 rfl s3), (m.roS 1 rfl s4)⟩⟩, trivial⟩) (by intro ρ h; simp only [List.map_toArray, List.map_cons, List.map_nil, h (.tmp 17) _ rfl]; rfl) rfl el98 zero114 rfl rfl rfl rfl rfl rfl ?_); intro b8
        refine stRw (fun _ h => by cases h) (o_app 5 0 rfl rfl src_own rfl rfl rfl el98 rfl zero114 rfl rfl ?_); intro b9
        refine nx_own 5 rfl ?_
        rintro a9 l9 c9 rfl
        refine stRw (fun _ h => by cases h) (o_stc (cs' := [(.slice a9 l9 c9)]) 8 rfl rfl rfl ty98 rfl rfl rfl rfl ?_)
        refine y_nil ?_
        refine b_norm ?_
        exact n_end (i := 3) rfl (fun w3 m3 hk => ⟨true, some (xs ++ [x]), [objCh l (.loop { rc with state := .ready, pending := none }), objCh D0 (.deferred (some [])), ownCh elA4ListGSpan 114 (.slice a9 l9 c9) (xs ++ [x]), cellCh b4 [(.slice none 0 0)] 98, cellCh b5 [(.bool false)] 4, cellCh b6 [(.slice a9 l9 c9)] 98], rfl, by rw [hC]; exact ⟨_, by rw [hself]⟩, ((m3.drop 0).drop 0).drop 0, hk⟩)
  have hm1 := Mem.closeC (C := C) (s := some []) (L := [objCh l (.loop rc), objCh D0 (.deferred (some [])), ownCh elA4ListGSpan 114 (.slice none 0 0) [], cellCh b4 [(.slice none 0 0)] 98, cellCh b5 [(.bool false)] 4, cellCh b6 [(.slice none 0 0)] 98]) hm (by rw [hC]; exact ⟨_, rfl⟩)
  refine (w_impl_sides_pieces_1 (C_ := C) hY (F := fz _ _ w) (a_1 := s_0) (b_2 := other_1) fz_ok hm1.givenB (hm1.ro 1 rfl) (hm1.ro 2 rfl) (hm1.roS 3 rfl hgl0) hφ).mono ?_
  rintro e w1 ⟨r, B', hk, rfl, h2, h3⟩
  have hm2 := Mem.call (M0 := [consCh C _ (some [])]) hm1 h2 h3
  obtain ⟨Lc, hCr, _, hm3⟩ := Mem.openC hm2
  cases r with
  | some xs =>
    obtain ⟨v, rfl⟩ : ∃ v, Lc = [objCh l (.loop rc), objCh D0 (.deferred (some [])), ownCh elA4ListGSpan 114 v xs, cellCh b4 [(.slice none 0 0)] 98, cellCh b5 [(.bool false)] 4, cellCh b6 [v] 98] := by rw [hC] at hCr; exact hCr
    refine n_endLoop (i := 0) hm3 rfl (by rw [r1]; decide) (fun w4 hm4 => ?_)
    rw [r2]
    refine nx_of (R := fun a w => Exit.inBlock _ _ .normal { a with defers := _ } w) hE hm4 hk ?_
    refine c_seqD ?_
    refine c_regionD ?_
    refine nx_own 2 rfl ?_
    rintro a9 l9 c9 rfl
    refine o_ldc stD 5 rfl rfl rfl ty98 rfl ?_
    refine stDw store_ne (o_stc (cs' := [(.slice a9 l9 c9)]) 3 rfl rfl rfl ty98 rfl rfl rfl rfl ?_)
    refine stDw store_ne (o_stc (cs' := [(.bool true)]) 4 rfl rfl rfl ty4 rfl rfl rfl rfl ?_)
    refine c_retD ?_
    exact l_endM2 (i := 1) rfl Tryd.results125 (xs, true) (Value.slice a9 l9 c9) (rv_c 3 rfl rfl ty98 rfl) (rv_c 4 rfl rfl ty4 rfl) rfl (fun w m => NewCh.ofB m [2] rfl)
  | none =>
    obtain ⟨v, xs, rfl⟩ : ∃ v xs, Lc = [objCh l (.loop { rc with state := .done, pending := some .ret }), objCh D0 (.deferred (some [])), ownCh elA4ListGSpan 114 v xs, cellCh b4 [(.slice none 0 0)] 98, cellCh b5 [(.bool false)] 4, cellCh b6 [v] 98] := by rw [hC] at hCr; exact hCr
    refine n_endLoop (i := 0) hm3 rfl (by simp) (fun w4 hm4 => ?_)
    refine wpIn_ret ?_
    refine nx_of (R := fun a w => Exit.inBlock _ _ .ret { a with defers := _ } w) hE hm4 hk ?_
    refine nx_nil elA4ListGSpan 114 ?_
    exact l_endM2 (i := 2) rfl Tryd.results125 ([], false) (Value.slice none 0 0) (rv_c 4 rfl rfl ty98 rfl) (rv_c 5 rfl rfl ty4 rfl) rfl (fun w m => NewCh.ofB m [0] rfl)

set_option maxRecDepth 100000 in
set_option maxHeartbeats 8000000 in
theorem w_impl_sides_lessRegion {w0 : World} {F : Nat → Prop} {v1 : Value} {v3 : Value} {v5 : Value} {v7 : Value} {v9 : Value} {s_0 : A4ListGSpan} {region_1 : (List A4ListGSpan)} {κ : ((List A4ListGSpan) × Bool) → Prop} (hF : ∀ b, F b → b < w0.heap.size ∧ ¬ feet [] b) (hv1 : Sl elGSpan F w0 v1 s_0.x0) (hv3 : Sl elGSpan F w0 v3 s_0.x1) (hv5 : Sl elGSpan F w0 v5 s_0.x2) (hv7 : Sl elGSpan F w0 v7 s_0.x3) (hv9 : Sl elA4ListGSpan F w0 v9 region_1) (hgl0 : Sl elGFieldShape F w0 (.slice (some ⟨0, 0, none⟩) 4 4) gl_impl_fieldShapes) (h : L_impl_sides_lessRegion s_0 region_1 κ) :
    Calls Tryd.prog 109 #[(.agg #[v1, v3, v5, v7]), v9] w0 (Ret [] F w0 κ (fun (r : ((List A4ListGSpan) × Bool)) (u : Value) => .tuple #[u, (.bool r.2)]) (fun (r : ((List A4ListGSpan) × Bool)) (u : Value) => [ownCh elA4ListGSpan 114 u r.1])) := by
  refine enterS (args := [(.agg #[v1, v3, v5, v7]), v9]) [] hF (Given.nil _ _) Tryd.func109 rfl Tryd.ntmps109 rfl h ?_
  clear h hF
  refine c_seq ?_
  refine c_region ?_
  obtain ⟨a11, l12, q13, hs_⟩ := sl_val hv1; subst hs_
  obtain ⟨a14, l15, q16, hs_⟩ := sl_val hv3; subst hs_
  obtain ⟨a17, l18, q19, hs_⟩ := sl_val hv5; subst hs_
  obtain ⟨a20, l21, q22, hs_⟩ := sl_val hv7; subst hs_
  refine stw (o_boxA (El' := (elSl elGSpan)) (len := 4) ([s_0.x0, s_0.x1, s_0.x2, s_0.x3]) ([[(.slice a11 l12 q13)], [(.slice a14 l15 q16)], [(.slice a17 l18 q19)], [(.slice a20 l21 q22)]]) (fun w m => ⟨⟨(.slice a11 l12 q13), rfl, (m.roS 0 rfl hv1)⟩, ⟨(.slice a14 l15 q16), rfl, (m.roS 0 rfl hv3)⟩, ⟨(.slice a17 l18 q19), rfl, (m.roS 0 rfl hv5)⟩, ⟨(.slice a20 l21 q22), rfl, (m.roS 0 rfl hv7)⟩, trivial⟩) rfl rfl rfl rfl rfl rfl ?_); intro b23
  refine stw (o_asn elA4ListGSpan 114 rfl rfl ?_)
  refine o_as st rfl rfl ?_
  refine c_nil ?_
  refine l_then ?_
  refine c_seq ?_
  refine c_seq ?_
  refine c_region ?_
  refine stw (o_ldAN (len := 4) 1 rfl src_own rfl rfl rfl ty114 rfl ?_); rintro wr26 ff27 _ hrows_; obtain ⟨_, _, _, _, rfl, hc0_, hc1_, hc2_, hc3_⟩ := rows_l4 hrows_; obtain ⟨v29, rfl, sl30⟩ := hc0_; obtain ⟨v32, rfl, sl33⟩ := hc1_; obtain ⟨v35, rfl, sl36⟩ := hc2_; obtain ⟨v38, rfl, sl39⟩ := hc3_; refine ⟨[v29, v32, v35, v38], rfl, ?_⟩
  refine stw (o_callP (vs := [(.agg #[v29, v32, v35, v38])]) Tryd.call80 rfl rfl (by intro w m h; exact (w_impl_sides_empty (F := allB [] w) (s_0 := s_0) allB_ok (m.rd0 0 rfl (reads_snap sl30)) (m.rd0 0 rfl (reads_snap sl33)) (m.rd0 0 rfl (reads_snap sl36)) (m.rd0 0 rfl (reads_snap sl39)) h).mono (fun _ _ k => ret_free (fun r u => fr_nil) k)) ?_); rintro r41 _
  refine c_nil ?_
  refine l_then ?_
  refine c_cond rfl ?_ ?_
  · refine c_seq ?_
    refine c_region ?_
    refine stw (o_asn elA4ListGSpan 114 rfl rfl ?_)
    refine o_as st rfl rfl ?_
    refine c_nil ?_
    refine l_then ?_
    refine c_ret ?_
    refine l_ret ?_
    exact l_end2 Tryd.results109 ([], true) (.slice none 0 0) (rv_t rfl) (rv_t rfl) rfl (fun w m => NewCh.ofB m [0] rfl)
  · refine c_skip ?_
    refine l_then ?_
    refine c_seq ?_
    refine c_region ?_
    refine stw (o_ldAN (len := 4) 2 rfl src_own rfl rfl rfl ty114 rfl ?_); rintro wr43 ff44 _ hrows_; obtain ⟨_, _, _, _, rfl, hc0_, hc1_, hc2_, hc3_⟩ := rows_l4 hrows_; obtain ⟨v46, rfl, sl47⟩ := hc0_; obtain ⟨v49, rfl, sl50⟩ := hc1_; obtain ⟨v52, rfl, sl53⟩ := hc2_; obtain ⟨v55, rfl, sl56⟩ := hc3_; refine ⟨[v46, v49, v52, v55], rfl, ?_⟩
    obtain ⟨a58, l59, q60, hs_⟩ := sl_val sl47; subst hs_
    obtain ⟨a61, l62, q63, hs_⟩ := sl_val sl50; subst hs_
    obtain ⟨a64, l65, q66, hs_⟩ := sl_val sl53; subst hs_
    obtain ⟨a67, l68, q69, hs_⟩ := sl_val sl56; subst hs_
    refine stw (o_bslN (El' := elA4ListGSpan) (qs := [(0, (.agg #[(.slice a58 l59 q60), (.slice a61 l62 q63), (.slice a64 l65 q66), (.slice a67 l68 q69)]))]) (cells := [(.slice a58 l59 q60), (.slice a61 l62 q63), (.slice a64 l65 q66), (.slice a67 l68 q69)]) ([s_0]) ([[(.slice a58 l59 q60), (.slice a61 l62 q63), (.slice a64 l65 q66), (.slice a67 l68 q69)]]) (fun w m => ⟨⟨⟨(.slice a58 l59 q60), (.slice a61 l62 q63), (.slice a64 l65 q66), (.slice a67 l68 q69)⟩, rfl, ⟨(m.roS 0 rfl sl47), (m.roS 0 rfl sl50), (m.roS 0 rfl sl53), (m.roS 0 rfl sl56)⟩⟩, trivial⟩) (by intro ρ h; simp only [List.map_toArray, List.map_cons, List.map_nil, h (.tmp 16) _ rfl]) rfl el98 zero114 rfl rfl rfl rfl rfl rfl ?_); intro v70
    refine o_as st rfl rfl ?_
    refine c_nil ?_
    refine l_then ?_
    refine c_join (σ := (List A4ListGSpan)) (fun (xs310 : (List A4ListGSpan)) (a : Act) (w : World) => ∃ (v309 : Value), Has 56 [(6, v309)] a ∧ Mem (gB F [] w0) (feet []) w0 [snapCh w0 F, ownCh elA4ListGSpan 114 v309 xs310] w) ?_ ?_
    · intro k313
      refine c_seq ?_
      refine c_region ?_
      refine o_mv st rfl rfl ?_
      refine o_len st el98 5 rfl (reads_snap hv9) rfl rfl ?_
      refine o_mv st rfl rfl ?_
      refine c_nil ?_
      refine l_then ?_
      refine c_block ?_
      refine c_loop (σ := ((List A4ListGSpan) × Int)) (fun ((xs73, t76) : ((List A4ListGSpan) × Int)) (a : Act) (w : World) => ∃ (v72 : Value), Has 56 [(6, v72), (18, v9), (19, (.int .i64 (region_1.length : Int))), (20, (.int .i64 t76))] a ∧ Mem (gB F [] w0) (feet []) w0 [snapCh w0 F, ownCh elA4ListGSpan 114 v72 xs73] w) (fun a w hE hm => ⟨v70, hE.sub ⟨rfl, rfl, rfl, rfl, trivial⟩, (hm.pick [5, 0] rfl)⟩) ?_
      rintro nx77 ⟨xs73, t76⟩ a w ⟨v72, hE, hm⟩ h
      refine nx_of hE hm h ?_
      clear hE hm h
      refine c_seq ?_
      refine c_region ?_
      refine o_lss st rfl rfl rfl ?_
      refine c_nil ?_
      refine l_then ?_
      refine c_seq ?_
      refine c_cond rfl ?_ ?_
      · refine c_skip ?_
        refine l_then ?_
        refine c_seq ?_
        refine c_block ?_
        refine c_seq ?_
        refine c_region ?_
        refine o_idx st 0 rfl (reads_snap hv9) rfl rfl rfl el98 ?_; intro e78 h79
        obtain ⟨_, ⟨⟨v81, v84, v87, v90⟩, rfl, ⟨sl82, sl85, sl88, sl91⟩⟩, rw80⟩ := sl_open hv9 h79
        refine o_ldR st (u := (.agg #[v81, v84, v87, v90])) 0 rfl rw80 rfl rfl ty114 rfl ?_
        refine stw (o_allocA (El' := (elSl elGSpan)) (z := ([] : (List GSpan))) (len := 4) (zs := [(.slice none 0 0)]) (fun F w => ⟨_, rfl, Sl.nil ..⟩) rfl zero114 rfl rfl ?_); intro b93
        obtain ⟨a95, l96, q97, hs_⟩ := sl_val sl82; subst hs_
        obtain ⟨a98, l99, q100, hs_⟩ := sl_val sl85; subst hs_
        obtain ⟨a101, l102, q103, hs_⟩ := sl_val sl88; subst hs_
        obtain ⟨a104, l105, q106, hs_⟩ := sl_val sl91; subst hs_
        refine stw (o_stA (El' := (elSl elGSpan)) (len := 4) 0 rfl ([e78.x0, e78.x1, e78.x2, e78.x3]) ([[(.slice a95 l96 q97)], [(.slice a98 l99 q100)], [(.slice a101 l102 q103)], [(.slice a104 l105 q106)]]) (fun w m => ⟨⟨(.slice a95 l96 q97), rfl, (m.roS 1 rfl sl82)⟩, ⟨(.slice a98 l99 q100), rfl, (m.roS 1 rfl sl85)⟩, ⟨(.slice a101 l102 q103), rfl, (m.roS 1 rfl sl88)⟩, ⟨(.slice a104 l105 q106), rfl, (m.roS 1 rfl sl91)⟩, trivial⟩) rfl rfl rfl rfl rfl rfl ty114 rfl rfl ?_)
        refine c_nil ?_
        refine l_then ?_
        refine c_seq ?_
        refine c_region ?_
        refine stw (o_asn elA4ListGSpan 114 rfl rfl ?_)
        refine c_nil ?_
        refine l_then ?_
        refine c_seq ?_
        refine c_seq ?_
        refine c_region ?_
        refine o_mv st rfl rfl ?_
        refine o_len st el98 3 rfl reads_own rfl rfl ?_
        refine o_mv st rfl rfl ?_
        refine c_nil ?_
        refine l_then ?_
        refine c_block ?_
        refine c_loop (σ := ((List A4ListGSpan) × Int)) (fun ((xs110, t113) : ((List A4ListGSpan) × Int)) (a : Act) (w : World) => ∃ (v109 : Value), Has 56 [(18, v9), (19, (.int .i64 (region_1.length : Int))), (20, (.int .i64 t76)), (8, (.pointer (some ⟨b93, 0, none⟩))), (9, v109), (24, v72), (25, (.int .i64 (xs73.length : Int))), (26, (.int .i64 t113))] a ∧ Mem (gB F [] w0) (feet []) w0 [ownCh (elSl elGSpan) 114 (.slice (some ⟨b93, 0, none⟩) 4 4) ([e78.x0, e78.x1, e78.x2, e78.x3]), ownCh elA4ListGSpan 114 v72 xs73, snapCh w0 F, ownCh elA4ListGSpan 114 v109 xs110] w) (fun a w hE hm => ⟨(.slice none 0 0), hE.sub ⟨rfl, rfl, rfl, rfl, rfl, rfl, rfl, rfl, trivial⟩, (hm.pick [1, 3, 2, 0] rfl)⟩) ?_
        rintro nx114 ⟨xs110, t113⟩ a w ⟨v109, hE, hm⟩ h
        refine nx_of hE hm h ?_
        clear hE hm h
        refine c_seq ?_
        refine c_region ?_
        refine o_lss st rfl rfl rfl ?_
        refine c_nil ?_
        refine l_then ?_
        refine c_seq ?_
        refine c_cond rfl ?_ ?_
        · refine c_skip ?_
          refine l_then ?_
          refine c_seq ?_
          refine c_block ?_
          refine c_seq ?_
          refine c_region ?_
          refine o_idx st 1 rfl reads_own rfl rfl rfl el98 ?_; intro e115 h116
          refine stw (o_ldE 1 rfl src_own h116 rfl rfl ty114 ?_); rintro wr117 ff118 _ ⟨⟨v120, v123, v126, v129⟩, rfl, ⟨sl121, sl124, sl127, sl130⟩⟩; refine ⟨(.agg #[v120, v123, v126, v129]), rfl, ?_⟩
          refine stw (o_allocA (El' := (elSl elGSpan)) (z := ([] : (List GSpan))) (len := 4) (zs := [(.slice none 0 0)]) (fun F w => ⟨_, rfl, Sl.nil ..⟩) rfl zero114 rfl rfl ?_); intro b132
          obtain ⟨a134, l135, q136, hs_⟩ := sl_val sl121; subst hs_
          obtain ⟨a137, l138, q139, hs_⟩ := sl_val sl124; subst hs_
          obtain ⟨a140, l141, q142, hs_⟩ := sl_val sl127; subst hs_
          obtain ⟨a143, l144, q145, hs_⟩ := sl_val sl130; subst hs_
          refine stw (o_stA (El' := (elSl elGSpan)) (len := 4) 0 rfl ([e115.x0, e115.x1, e115.x2, e115.x3]) ([[(.slice a134 l135 q136)], [(.slice a137 l138 q139)], [(.slice a140 l141 q142)], [(.slice a143 l144 q145)]]) (fun w m => ⟨⟨(.slice a134 l135 q136), rfl, (m.roS 1 rfl sl121)⟩, ⟨(.slice a137 l138 q139), rfl, (m.roS 1 rfl sl124)⟩, ⟨(.slice a140 l141 q142), rfl, (m.roS 1 rfl sl127)⟩, ⟨(.slice a143 l144 q145), rfl, (m.roS 1 rfl sl130)⟩, trivial⟩) rfl rfl rfl rfl rfl rfl ty114 rfl rfl ?_)
          refine c_nil ?_
          refine l_then ?_
          refine c_seq ?_
          refine c_region ?_
          refine stw (o_ldAN (len := 4) 0 rfl src_own rfl rfl rfl ty114 rfl ?_); rintro wr147 ff148 _ hrows_; obtain ⟨_, _, _, _, rfl, hc0_, hc1_, hc2_, hc3_⟩ := rows_l4 hrows_; obtain ⟨v150, rfl, sl151⟩ := hc0_; obtain ⟨v153, rfl, sl154⟩ := hc1_; obtain ⟨v156, rfl, sl157⟩ := hc2_; obtain ⟨v159, rfl, sl160⟩ := hc3_; refine ⟨[v150, v153, v156, v159], rfl, ?_⟩
          refine stw (o_ldAN (len := 4) 3 rfl src_own rfl rfl rfl ty114 rfl ?_); rintro wr162 ff163 _ hrows_; obtain ⟨_, _, _, _, rfl, hc0_, hc1_, hc2_, hc3_⟩ := rows_l4 hrows_; obtain ⟨v165, rfl, sl166⟩ := hc0_; obtain ⟨v168, rfl, sl169⟩ := hc1_; obtain ⟨v171, rfl, sl172⟩ := hc2_; obtain ⟨v174, rfl, sl175⟩ := hc3_; refine ⟨[v165, v168, v171, v174], rfl, ?_⟩
          refine stw (o_callP (vs := [(.agg #[v150, v153, v156, v159]), (.agg #[v165, v168, v171, v174])]) Tryd.call125 rfl rfl (by intro w m h; exact w_impl_sides_cut (s_0 := e115) (other_1 := e78) fz_ok0 (m.roS 1 rfl sl151) (m.roS 1 rfl sl154) (m.roS 1 rfl sl157) (m.roS 1 rfl sl160) (m.roS 0 rfl sl166) (m.roS 0 rfl sl169) (m.roS 0 rfl sl172) (m.roS 0 rfl sl175) (m.roS 6 rfl hgl0) h) ?_); rintro ⟨r177, r180⟩ v178
          refine o_mv st rfl rfl ?_
          refine o_ext st (vs := [v178, (.bool r180)]) rfl rfl rfl ?_
          refine o_ext st (vs := [v178, (.bool r180)]) rfl rfl rfl ?_
          refine o_as st rfl rfl ?_
          refine o_as st rfl rfl ?_
          refine c_nil ?_
          refine l_then ?_
          refine c_seq ?_
          refine c_join (σ := Bool) (fun (t242 : Bool) (a : Act) (w : World) => Has 56 [(18, v9), (19, (.int .i64 (region_1.length : Int))), (20, (.int .i64 t76)), (8, (.pointer (some ⟨b93, 0, none⟩))), (9, v109), (24, v72), (25, (.int .i64 (xs73.length : Int))), (26, (.int .i64 t113)), (12, v178), (45, (.bool t242))] a ∧ Mem (gB F [] w0) (feet []) w0 [ownCh elA4ListGSpan 114 v178 r177, ownCh (elSl elGSpan) 114 (.slice (some ⟨b93, 0, none⟩) 4 4) ([e78.x0, e78.x1, e78.x2, e78.x3]), ownCh elA4ListGSpan 114 v72 xs73, ownCh elA4ListGSpan 114 v109 xs110, snapCh w0 F] w) ?_ ?_
          · intro k243
            refine c_region ?_
            refine o_mv st rfl rfl ?_
            refine o_not st rfl rfl ?_
            refine o_mv st rfl rfl ?_
            refine st_sp (dj := 38) rfl ?_ ?_
            · refine st_s rfl rfl rfl rfl ?_
              refine st_s rfl rfl rfl rfl ?_
              refine st_s rfl rfl rfl rfl ?_
              refine st_s rfl rfl rfl rfl ?_
              refine st_s rfl rfl rfl rfl ?_
              refine st_s rfl rfl rfl rfl ?_
              refine o_pickT st rfl rfl rfl ?_
              refine c_nil ?_
              exact l_join true (fun a w hE hm => ⟨hE.sub ⟨rfl, rfl, rfl, rfl, rfl, rfl, rfl, rfl, rfl, rfl, trivial⟩, (hm.pick [0, 5, 6, 8, 7] rfl)⟩)
            · refine o_mv (st_g rfl rfl) rfl rfl ?_
              refine o_len (st_g rfl rfl) el98 8 rfl reads_own rfl rfl ?_
              refine o_mv (st_g rfl rfl) rfl rfl ?_
              refine o_len (st_g rfl rfl) el98 0 rfl reads_own rfl rfl ?_
              refine o_add (st_g rfl rfl) rfl rfl rfl ?_; intro t181
              refine o_gtr (st_g rfl rfl) rfl rfl rfl ?_
              refine o_pickF st rfl rfl rfl ?_
              refine c_nil ?_
              exact l_join (decide (400 < t181)) (fun a w hE hm => ⟨hE.sub ⟨rfl, rfl, rfl, rfl, rfl, rfl, rfl, rfl, rfl, rfl, trivial⟩, (hm.pick [0, 5, 6, 8, 7] rfl)⟩)
          · rintro t242 a w ⟨hE, hm⟩ h
            refine nx_of hE hm h ?_
            clear hE hm h
            refine c_cond rfl ?_ ?_
            · refine c_seq ?_
              refine c_region ?_
              refine stw (o_asn elA4ListGSpan 114 rfl rfl ?_)
              refine o_as st rfl rfl ?_
              refine c_nil ?_
              refine l_then ?_
              refine c_ret ?_
              refine l_ret ?_
              refine b_ret ?_
              refine l_ret ?_
              refine l_ret ?_
              refine b_ret ?_
              refine l_ret ?_
              refine b_ret ?_
              refine l_ret ?_
              refine l_ret ?_
              refine b_ret ?_
              refine l_ret ?_
              exact l_end2 Tryd.results109 ([], false) (.slice none 0 0) (rv_t rfl) (rv_t rfl) rfl (fun w m => NewCh.ofB m [0] rfl)
            · refine c_skip ?_
              refine l_then ?_
              refine c_region ?_
              refine o_mv st rfl rfl ?_
              refine o_mv st rfl rfl ?_
              refine stw (o_app 3 0 rfl rfl src_own rfl rfl rfl el98 rfl zero114 rfl rfl ?_); intro v245
              refine o_as st rfl rfl ?_
              refine c_nil ?_
              refine b_norm ?_
              refine l_then ?_
              refine c_region ?_
              refine o_add st rfl rfl rfl ?_; intro t247
              refine o_mv st rfl rfl ?_
              refine c_nil ?_
              exact l_join ((xs110 ++ r177), t247) (fun a w hE hm => ⟨v245, hE.sub ⟨rfl, rfl, rfl, rfl, rfl, rfl, rfl, rfl, trivial⟩, (hm.pick [1, 2, 4, 3] rfl)⟩)
        · refine c_exit ?_
          refine l_exit ?_
          refine l_exit ?_
          refine b_exit ?_
          refine l_then ?_
          refine c_seq ?_
          refine c_region ?_
          refine o_mv st rfl rfl ?_
          refine o_as st rfl rfl ?_
          refine c_nil ?_
          refine l_then ?_
          refine c_seq ?_
          refine c_region ?_
          refine o_mv st rfl rfl ?_
          refine o_len st el98 3 rfl reads_own rfl rfl ?_
          refine o_eql st und3 rfl rfl rfl ?_
          refine c_nil ?_
          refine l_then ?_
          refine c_cond rfl ?_ ?_
          · refine c_exit ?_
            refine b_pass rfl ?_
            refine l_exit ?_
            refine l_exit ?_
            refine b_exit ?_
            exact l_join xs110 (fun a w hE hm => ⟨v109, hE.sub ⟨rfl, trivial⟩, (hm.pick [2, 3] rfl)⟩)
          · refine c_skip ?_
            refine b_norm ?_
            refine l_then ?_
            refine c_region ?_
            refine o_add st rfl rfl rfl ?_; intro t248
            refine o_mv st rfl rfl ?_
            refine c_nil ?_
            exact l_join (xs110, t248) (fun a w hE hm => ⟨v109, hE.sub ⟨rfl, rfl, rfl, rfl, trivial⟩, (hm.pick [2, 3] rfl)⟩)
      · refine c_exit ?_
        refine l_exit ?_
        refine l_exit ?_
        refine b_exit ?_
        exact l_join xs73 (fun a w hE hm => ⟨v72, hE.sub ⟨rfl, trivial⟩, (hm.pick [0, 1] rfl)⟩)
    · rintro xs310 a w ⟨v309, hE, hm⟩ h
      refine nx_of hE hm h ?_
      clear hE hm h
      refine c_seq ?_
      refine c_region ?_
      refine o_mv st rfl rfl ?_
      refine o_as st rfl rfl ?_
      refine o_as st rfl rfl ?_
      refine c_nil ?_
      refine l_then ?_
      refine c_ret ?_
      exact l_end2 Tryd.results109 (xs310, true) v309 (rv_t rfl) (rv_t rfl) rfl (fun w m => NewCh.ofB m [1] rfl)

set_option maxRecDepth 100000 in
set_option maxHeartbeats 8000000 in
theorem w_impl_liveOf {w0 : World} {F : Nat → Prop} {v1 : Value} {list_0 : (List GIflat)} {n_1 : Int} {κ : ((List A4ListGSpan) × Bool) → Prop} (hF : ∀ b, F b → b < w0.heap.size ∧ ¬ feet [] b) (hv1 : Sl elGIflat F w0 v1 list_0) (hgl0 : Sl elGFieldShape F w0 (.slice (some ⟨0, 0, none⟩) 4 4) gl_impl_fieldShapes) (h : L_impl_liveOf list_0 n_1 κ) :
    Calls Tryd.prog 86 #[v1, (.int .i64 n_1)] w0 (Ret [] F w0 κ (fun (r : ((List A4ListGSpan) × Bool)) (u : Value) => .tuple #[u, (.bool r.2)]) (fun (r : ((List A4ListGSpan) × Bool)) (u : Value) => [ownCh elA4ListGSpan 114 u r.1])) := by
  refine enterS (args := [v1, (.int .i64 n_1)]) [] hF (Given.nil _ _) Tryd.func86 rfl Tryd.ntmps86 rfl h ?_
  clear h hF
  refine c_seq ?_
  refine c_region ?_
  refine stw (o_asn elA4ListGSpan 114 rfl rfl ?_)
  refine o_as st rfl rfl ?_
  refine c_nil ?_
  refine l_then ?_
  refine c_seq ?_
  refine c_draw mixed 14 rfl [ownCh elA4ListGSpan 114 (.slice none 0 0) ([]), snapCh w0 F] ?_
  refine o_mv (dt 0 (fun _ m => m)) rfl rfl ?_
  refine o_mv (dt 1 (fun _ m => m)) rfl rfl ?_
  refine o_idx (dt 2 (fun _ m => m)) 1 rfl (reads_snap hv1) rfl rfl rfl el64 ?_; intro e4 h5
  refine o_fadS (dt 3 (fun _ m => m)) 1 rfl (reads_snap hv1) h5 rfl rfl fld117_0 rfl ?_
  obtain ⟨_, ⟨⟨v7, v10, v13, v16⟩, rfl, ⟨sl8, sl11, sl14, sl17⟩⟩, rw6⟩ := sl_open hv1 h5
  refine o_ldR (dt 4 (fun _ m => m)) (u := (.agg #[v7, v10, v13, v16])) 1 rfl rw6 rfl rfl ty114 rfl ?_
  refine o_mv (dt 5 (fun _ m => m)) rfl rfl ?_
  refine o_mv (dt 6 (fun _ m => m)) rfl rfl ?_
  refine nx_note 1 rfl hv1 ?_
  refine d_one (i := 7) rfl (by kernel_rfl) (o_slc (I := 0) (J := n_1) 0 rfl rfl rfl rfl rfl el64 rfl ?_); intro v19 xs20
  refine d_and (fun w m => m.pick [2, 3] rfl) ?_
  refine d_one (i := 8) rfl (by kernel_rfl) (o_callP (vs := [v19]) Tryd.call54 rfl rfl (by intro w m h; exact w_impl_wheres (list_0 := xs20) fz_ok0 (m.ro 0 rfl) h) ?_); rintro r23 v24
  refine d_and (fun w m => m.pick [3, 4] rfl) ?_
  refine frz 0 rfl reads_own ?_
  refine d_one (i := 9) rfl (by kernel_rfl) (o_callP (vs := [(.agg #[v7, v10, v13, v16]), v24]) Tryd.call109 rfl rfl (by intro w m h; exact w_impl_sides_lessRegion (s_0 := e4.xWhere) (region_1 := r23) fz_ok0 (m.roS 4 rfl sl8) (m.roS 4 rfl sl11) (m.roS 4 rfl sl14) (m.roS 4 rfl sl17) (m.ro 0 rfl) (m.roS 4 rfl hgl0) h) ?_); rintro ⟨r26, r29⟩ v27
  refine d_and (fun w m => m.pick [4, 5] rfl) ?_
  refine o_ext (dt 10 (fun w m => m.pick [4, 5] rfl)) (vs := [v27, (.bool r29)]) rfl rfl rfl ?_
  refine o_ext (dt 11 (fun w m => m.pick [4, 5] rfl)) (vs := [v27, (.bool r29)]) rfl rfl rfl ?_
  refine o_as (dt 12 (fun w m => m.pick [4, 5] rfl)) rfl rfl ?_
  refine o_as (dt 13 (fun w m => m.pick [4, 5] rfl)) rfl rfl ?_
  refine d_done (by kernel_rfl) ?_
  refine l_then ?_
  refine c_ret ?_
  exact l_end2 Tryd.results86 (r26, r29) v27 (rv_t rfl) (rv_t rfl) rfl (fun w m => NewCh.ofB m [0] rfl)

set_option maxRecDepth 100000 in
set_option maxHeartbeats 8000000 in
theorem w_impl_deadIn {w0 : World} {F : Nat → Prop} {v1 : Value} {list_0 : (List GIflat)} {κ : (List Int) → Prop} (hF : ∀ b, F b → b < w0.heap.size ∧ ¬ feet [] b) (hv1 : Sl elGIflat F w0 v1 list_0) (hgl0 : Sl elGFieldShape F w0 (.slice (some ⟨0, 0, none⟩) 4 4) gl_impl_fieldShapes) (h : L_impl_deadIn list_0 κ) :
    Calls Tryd.prog 50 #[v1] w0 (Ret [] F w0 κ (fun (r : (List Int)) (u : Value) => u) (fun (r : (List Int)) (u : Value) => [ownCh elInt 3 u r])) := by
  refine enterS (args := [v1]) [] hF (Given.nil _ _) Tryd.func50 rfl Tryd.ntmps50 rfl h ?_
  clear h hF
  refine c_seq ?_
  refine c_region ?_
  refine stw (o_asn elInt 3 rfl rfl ?_)
  refine c_nil ?_
  refine l_then ?_
  refine c_seq ?_
  refine c_region ?_
  refine stw (o_asn elInt 3 rfl rfl ?_)
  refine c_nil ?_
  refine l_then ?_
  refine c_seq ?_
  refine c_seq ?_
  refine c_region ?_
  refine o_mv st rfl rfl ?_
  refine o_len st el64 2 rfl (reads_snap hv1) rfl rfl ?_
  refine o_mv st rfl rfl ?_
  refine c_nil ?_
  refine l_then ?_
  refine c_block ?_
  refine c_loop (σ := ((List Int) × Int)) (fun ((xs6, t9) : ((List Int) × Int)) (a : Act) (w : World) => ∃ (v5 : Value), Has 30 [(0, v1), (3, v5), (8, (.int .i64 (list_0.length : Int))), (9, (.int .i64 t9))] a ∧ Mem (gB F [] w0) (feet []) w0 [snapCh w0 F, ownCh elInt 3 v5 xs6] w) (fun a w hE hm => ⟨(.slice none 0 0), hE.sub ⟨rfl, rfl, rfl, rfl, trivial⟩, (hm.pick [2, 0] rfl)⟩) ?_
  rintro nx10 ⟨xs6, t9⟩ a w ⟨v5, hE, hm⟩ h
  refine nx_of hE hm h ?_
  clear hE hm h
  refine c_seq ?_
  refine c_region ?_
  refine o_lss st rfl rfl rfl ?_
  refine c_nil ?_
  refine l_then ?_
  refine c_seq ?_
  refine c_cond rfl ?_ ?_
  · refine c_skip ?_
    refine l_then ?_
    refine c_join (σ := (List Int)) (fun (xs141 : (List Int)) (a : Act) (w : World) => ∃ (v142 : Value), Has 30 [(0, v1), (3, v142), (8, (.int .i64 (list_0.length : Int))), (9, (.int .i64 t9))] a ∧ Mem (gB F [] w0) (feet []) w0 [ownCh elInt 3 v142 xs141, snapCh w0 F] w) ?_ ?_
    · intro k144
      refine c_block ?_
      refine c_seq ?_
      refine c_region ?_
      refine o_mv st rfl rfl ?_
      refine o_as st rfl rfl ?_
      refine c_nil ?_
      refine l_then ?_
      refine c_seq ?_
      refine c_region ?_
      refine o_mv st rfl rfl ?_
      refine o_mv st rfl rfl ?_
      refine stw (o_callP (vs := [v1, (.int .i64 t9)]) Tryd.call86 rfl rfl (by intro w m h; exact w_impl_liveOf (list_0 := list_0) (n_1 := t9) fz_ok0 (m.roS 0 rfl hv1) (m.roS 0 rfl hgl0) h) ?_); rintro ⟨r11, r14⟩ v12
      refine o_mv st rfl rfl ?_
      refine o_ext st (vs := [v12, (.bool r14)]) rfl rfl rfl ?_
      refine o_ext st (vs := [v12, (.bool r14)]) rfl rfl rfl ?_
      refine o_as st rfl rfl ?_
      refine o_as st rfl rfl ?_
      refine c_nil ?_
      refine l_then ?_
      refine c_join (σ := Bool) (fun (t75 : Bool) (a : Act) (w : World) => Has 30 [(0, v1), (3, v5), (8, (.int .i64 (list_0.length : Int))), (9, (.int .i64 t9)), (4, (.int .i64 t9)), (23, (.bool t75))] a ∧ Mem (gB F [] w0) (feet []) w0 [ownCh elInt 3 v5 xs6, snapCh w0 F] w) ?_ ?_
      · intro k76
        refine c_region ?_
        refine o_mv st rfl rfl ?_
        refine o_mv st rfl rfl ?_
        refine st_sp (dj := 19) rfl ?_ ?_
        · refine o_mv (st_g rfl rfl) rfl rfl ?_
          refine o_len (st_g rfl rfl) el98 0 rfl reads_own rfl rfl ?_
          refine o_eql (st_g rfl rfl) und3 rfl rfl rfl ?_
          refine o_pickT st rfl rfl rfl ?_
          refine c_nil ?_
          exact l_join (decide ((r11.length : Int) = 0)) (fun a w hE hm => ⟨hE.sub ⟨rfl, rfl, rfl, rfl, rfl, rfl, trivial⟩, (hm.pick [2, 1] rfl)⟩)
        · refine st_s rfl rfl rfl rfl ?_
          refine st_s rfl rfl rfl rfl ?_
          refine st_s rfl rfl rfl rfl ?_
          refine o_pickF st rfl rfl rfl ?_
          refine c_nil ?_
          exact l_join false (fun a w hE hm => ⟨hE.sub ⟨rfl, rfl, rfl, rfl, rfl, rfl, trivial⟩, (hm.pick [2, 1] rfl)⟩)
      · rintro t75 a w ⟨hE, hm⟩ h
        refine nx_of hE hm h ?_
        clear hE hm h
        refine c_cond rfl ?_ ?_
        · refine c_region ?_
          refine o_mv st rfl rfl ?_
          refine o_mv st rfl rfl ?_
          refine stw (o_bsl (enc := encInt) (qs := [(0, (.int .i64 t9))]) (cells := [(.int .i64 t9)]) ([t9]) flelInt (by intro ρ h; simp only [List.map_toArray, List.map_cons, List.map_nil, h (.tmp 25) _ rfl]) rfl el27 zero3 rfl rfl rfl rfl rfl rfl ?_); intro v77
          refine stw (o_app 1 0 rfl rfl (src_flat flelInt reads_own) rfl rfl rfl el27 rfl zero3 rfl rfl ?_); intro v79
          refine o_as st rfl rfl ?_
          refine c_nil ?_
          refine b_norm ?_
          exact l_join (xs6 ++ ([t9])) (fun a w hE hm => ⟨v79, hE.sub ⟨rfl, rfl, rfl, rfl, trivial⟩, (hm.pick [1, 2] rfl)⟩)
        · refine c_skip ?_
          refine b_norm ?_
          exact l_join xs6 (fun a w hE hm => ⟨v5, hE.sub ⟨rfl, rfl, rfl, rfl, trivial⟩, (hm.pick [0, 1] rfl)⟩)
    · rintro xs141 a w ⟨v142, hE, hm⟩ h
      refine nx_of hE hm h ?_
      clear hE hm h
      refine c_region ?_
      refine o_add st rfl rfl rfl ?_; intro t145
      refine o_mv st rfl rfl ?_
      refine c_nil ?_
      exact l_join (xs141, t145) (fun a w hE hm => ⟨v142, hE.sub ⟨rfl, rfl, rfl, rfl, trivial⟩, (hm.pick [1, 0] rfl)⟩)
  · refine c_exit ?_
    refine l_exit ?_
    refine l_exit ?_
    refine b_exit ?_
    refine l_then ?_
    refine c_seq ?_
    refine c_region ?_
    refine o_mv st rfl rfl ?_
    refine o_as st rfl rfl ?_
    refine c_nil ?_
    refine l_then ?_
    refine c_ret ?_
    exact l_end1 Tryd.results50 xs6 v5 (rv_t rfl) (fun w m => NewCh.ofB m [1] rfl)

set_option maxRecDepth 100000 in
set_option maxHeartbeats 8000000 in
theorem w_impl_DeadFlats {w0 : World} {F : Nat → Prop} {v1 : Value} {list_0 : (List GFlat)} {κ : (List Int) → Prop} (hF : ∀ b, F b → b < w0.heap.size ∧ ¬ feet [] b) (hv1 : Sl elGFlat F w0 v1 list_0) (hgl0 : Sl elGFieldShape F w0 (.slice (some ⟨0, 0, none⟩) 4 4) gl_impl_fieldShapes) (h : L_impl_DeadFlats list_0 κ) :
    Calls Tryd.prog 21 #[v1] w0 (Ret [] F w0 κ (fun (r : (List Int)) (u : Value) => u) (fun (r : (List Int)) (u : Value) => [ownCh elInt 3 u r])) := by
  refine enterS (args := [v1]) [] hF (Given.nil _ _) Tryd.func21 rfl Tryd.ntmps21 rfl h ?_
  clear h hF
  refine c_seq ?_
  refine c_region ?_
  refine stw (o_asn elInt 3 rfl rfl ?_)
  refine c_nil ?_
  refine l_then ?_
  refine c_seq ?_
  refine c_seq ?_
  refine c_region ?_
  refine o_mv st rfl rfl ?_
  refine stw (o_callP (vs := [v1]) Tryd.call32 rfl rfl (by intro w m h; exact (w_impl_FlatsValid (F := allB [] w) (list_0 := list_0) allB_ok (m.rd0 1 rfl (reads_snap hv1)) (m.rd0 1 rfl (reads_snap hgl0)) h).mono (fun _ _ k => ret_free (fun r u => fr_nil) k)) ?_); rintro r4 _
  refine o_not st rfl rfl ?_
  refine c_nil ?_
  refine l_then ?_
  refine c_cond rfl ?_ ?_
  · refine c_seq ?_
    refine c_region ?_
    refine stw (o_asn elInt 3 rfl rfl ?_)
    refine c_nil ?_
    refine l_then ?_
    refine c_ret ?_
    refine l_ret ?_
    exact l_end1 Tryd.results21 ([]) (.slice none 0 0) (rv_t rfl) (fun w m => NewCh.ofB m [0] rfl)
  · refine c_skip ?_
    refine l_then ?_
    refine c_seq ?_
    refine c_region ?_
    refine o_mv st rfl rfl ?_
    refine stw (o_callP (vs := [v1]) Tryd.call34 rfl rfl (by intro w m h; exact w_impl_flatsOf (list_0 := list_0) fz_ok0 (m.roS 1 rfl hv1) h) ?_); rintro r6 v7
    refine stw (o_callP (vs := [v7]) Tryd.call50 rfl rfl (by intro w m h; exact (w_impl_deadIn (F := allB [] w) (list_0 := r6) allB_ok (m.rd0 0 rfl reads_own) (m.rd0 2 rfl (reads_snap hgl0)) h).mono (fun _ _ k => ret_free (fun r u => (fr_cons (free_own flelInt) fr_nil)) k)) ?_); rintro r9 v10
    refine o_as st rfl rfl ?_
    refine c_nil ?_
    refine l_then ?_
    refine c_ret ?_
    exact l_end1 Tryd.results21 r9 v10 (rv_t rfl) (fun w m => NewCh.ofB m [0] rfl)

set_option maxRecDepth 100000 in
set_option maxHeartbeats 8000000 in
theorem w_laws_FnHitCounts {w0 : World} {F : Nat → Prop} {v1 : Value} {code_0 : (List UInt8)} {κ : Bool → Prop} (hF : ∀ b, F b → b < w0.heap.size ∧ ¬ feet [] b) (hv1 : Sl elU8 F w0 v1 code_0) (hgl0 : Sl elGFieldShape F w0 (.slice (some ⟨0, 0, none⟩) 4 4) gl_impl_fieldShapes) (h : L_laws_FnHitCounts code_0 κ) :
    Calls Tryd.prog 5 #[v1] w0 (Ret [] F w0 κ (fun (r : Bool) (u : Unit) => (.bool r)) (fun (r : Bool) (u : Unit) => [])) := by
  refine enterS (args := [v1]) [] hF (Given.nil _ _) Tryd.func5 rfl Tryd.ntmps5 rfl h ?_
  clear h hF
  refine c_seq ?_
  refine c_region ?_
  refine o_as st rfl rfl ?_
  refine c_nil ?_
  refine l_then ?_
  refine c_seq ?_
  refine c_seq ?_
  refine c_region ?_
  refine o_mv st rfl rfl ?_
  refine o_len st el22 0 rfl (reads_snap hv1) rfl rfl ?_
  refine o_gtr st rfl rfl rfl ?_
  refine c_nil ?_
  refine l_then ?_
  refine c_cond rfl ?_ ?_
  · refine c_seq ?_
    refine c_region ?_
    refine o_as st rfl rfl ?_
    refine c_nil ?_
    refine l_then ?_
    refine c_ret ?_
    refine l_ret ?_
    exact l_end1 Tryd.results5 true () (rv_t rfl) (fun _ _ => NewCh.nil _ _ _ _)
  · refine c_skip ?_
    refine l_then ?_
    refine c_seq ?_
    refine c_region ?_
    refine o_mv st rfl rfl ?_
    refine stw (o_callP (vs := [v1]) Tryd.call7 rfl rfl (by intro w m h; exact w_spec_DrawHitCounts (code_0 := code_0) fz_ok0 (m.roS 0 rfl hv1) h) ?_); rintro ⟨r3, r6⟩ ⟨v4, v7⟩
    refine o_mv st rfl rfl ?_
    refine o_ext st (vs := [v4, v7]) rfl rfl rfl ?_
    refine o_ext st (vs := [v4, v7]) rfl rfl rfl ?_
    refine o_as st rfl rfl ?_
    refine o_as st rfl rfl ?_
    refine c_nil ?_
    refine l_then ?_
    refine c_seq ?_
    refine c_region ?_
    refine o_mv st rfl rfl ?_
    refine o_mv st rfl rfl ?_
    refine stw (o_callP (vs := [v4, v7]) Tryd.call8 rfl rfl (by intro w m h; exact (w_impl_HitCounts (F := allB [] w) (list_0 := r3) (packets_1 := r6) allB_ok (m.rd0 0 rfl reads_own) (m.rd0 1 rfl reads_own) (m.rd0 2 rfl (reads_snap hgl0)) h).mono (fun _ _ k => ret_free (fun r u => (fr_cons (free_own flelInt) fr_nil)) k)) ?_); rintro r9 v10
    refine o_as st rfl rfl ?_
    refine c_nil ?_
    refine l_then ?_
    refine c_seq ?_
    refine c_seq ?_
    refine c_region ?_
    refine o_mv st rfl rfl ?_
    refine o_mv st rfl rfl ?_
    refine o_mv st rfl rfl ?_
    refine stw (o_callP (vs := [v4, v7]) Tryd.call10 rfl rfl (by intro w m h; exact (w_spec_HitCounts (F := allB [] w) (list_0 := r3) (packets_1 := r6) allB_ok (m.rd0 1 rfl reads_own) (m.rd0 2 rfl reads_own) h).mono (fun _ _ k => ret_free (fun r u => (fr_cons (free_own flelInt) fr_nil)) k)) ?_); rintro r12 v13
    refine stw (o_callP (vs := [v10, v13]) Tryd.call9 rfl rfl (by intro w m h; exact (w_laws_sameInts (F := allB [] w) (a_0 := r9) (b_1 := r12) allB_ok (m.rd0 1 rfl reads_own) (m.rd0 0 rfl reads_own) h).mono (fun _ _ k => ret_free (fun r u => fr_nil) k)) ?_); rintro r15 _
    refine o_not st rfl rfl ?_
    refine c_nil ?_
    refine l_then ?_
    refine c_cond rfl ?_ ?_
    · refine c_seq ?_
      refine c_region ?_
      refine o_as st rfl rfl ?_
      refine c_nil ?_
      refine l_then ?_
      refine c_ret ?_
      refine l_ret ?_
      exact l_end1 Tryd.results5 false () (rv_t rfl) (fun _ _ => NewCh.nil _ _ _ _)
    · refine c_skip ?_
      refine l_then ?_
      refine c_seq ?_
      refine c_seq ?_
      refine c_region ?_
      refine o_mv st rfl rfl ?_
      refine o_len st el27 1 rfl reads_own rfl rfl ?_
      refine o_eql st und3 rfl rfl rfl ?_
      refine c_nil ?_
      refine l_then ?_
      refine c_cond rfl ?_ ?_
      · refine c_seq ?_
        refine c_region ?_
        refine stw (o_callP (vs := []) Tryd.call11 rfl rfl (by intro w m h; exact (w_laws_alive (F := allB [] w) allB_ok h).mono (fun _ _ k => ret_free (fun r u => fr_nil) k)) ?_); rintro r16 _
        refine o_as st rfl rfl ?_
        refine c_nil ?_
        refine l_then ?_
        refine c_ret ?_
        refine l_ret ?_
        exact l_end1 Tryd.results5 r16 () (rv_t rfl) (fun _ _ => NewCh.nil _ _ _ _)
      · refine c_skip ?_
        refine l_then ?_
        refine c_seq ?_
        refine c_region ?_
        refine o_as st rfl rfl ?_
        refine c_nil ?_
        refine l_then ?_
        refine c_seq ?_
        refine c_seq ?_
        refine c_region ?_
        refine o_as st rfl rfl ?_
        refine c_nil ?_
        refine l_then ?_
        refine c_block ?_
        refine c_loop (σ := (Int × Int)) (fun ((t17, t18) : (Int × Int)) (a : Act) (w : World) => Has 87 [(3, v4), (4, v7), (5, v10), (6, (.int .i64 t17)), (7, (.int .i64 t18))] a ∧ Mem (gB F [] w0) (feet []) w0 [ownCh elInt 3 v10 r9, ownCh elGFlat 87 v4 r3, ownCh elGPacket 49 v7 r6, snapCh w0 F] w) (fun a w hE hm => ⟨hE.sub ⟨rfl, rfl, rfl, rfl, rfl, trivial⟩, (hm.pick [1, 2, 3, 4] rfl)⟩) ?_
        rintro nx19 ⟨t17, t18⟩ a w ⟨hE, hm⟩ h
        refine nx_of hE hm h ?_
        clear hE hm h
        refine c_seq ?_
        refine c_seq ?_
        refine c_region ?_
        refine o_mv st rfl rfl ?_
        refine o_mv st rfl rfl ?_
        refine o_len st el27 0 rfl reads_own rfl rfl ?_
        refine o_lss st rfl rfl rfl ?_
        refine c_nil ?_
        refine l_then ?_
        refine c_cond rfl ?_ ?_
        · refine c_skip ?_
          refine l_then ?_
          refine c_seq ?_
          refine c_block ?_
          refine c_region ?_
          refine o_mv st rfl rfl ?_
          refine o_mv st rfl rfl ?_
          refine o_mv st rfl rfl ?_
          refine o_idx st 0 rfl reads_own rfl rfl rfl el27 ?_; intro e20 h21
          refine o_lds st (enc := encInt) (u := (.int .i64 e20)) 0 rfl reads_own flelInt rfl h21 rfl rfl ty3 rfl ?_
          refine o_add st rfl rfl rfl ?_; intro t22
          refine o_as st rfl rfl ?_
          refine c_nil ?_
          refine b_norm ?_
          refine l_then ?_
          refine c_region ?_
          refine o_mv st rfl rfl ?_
          refine o_add st rfl rfl rfl ?_; intro t23
          refine o_as st rfl rfl ?_
          refine c_nil ?_
          exact l_join (t22, t23) (fun a w hE hm => ⟨hE.sub ⟨rfl, rfl, rfl, rfl, rfl, trivial⟩, (hm.pick [0, 1, 2, 3] rfl)⟩)
        · refine c_exit ?_
          refine l_exit ?_
          refine l_exit ?_
          refine b_exit ?_
          refine l_then ?_
          refine c_seq ?_
          refine c_region ?_
          refine o_mv st rfl rfl ?_
          refine stw (o_callP (vs := [v4]) Tryd.call21 rfl rfl (by intro w m h; exact (w_impl_DeadFlats (F := allB [] w) (list_0 := r3) allB_ok (m.rd0 1 rfl reads_own) (m.rd0 3 rfl (reads_snap hgl0)) h).mono (fun _ _ k => ret_free (fun r u => (fr_cons (free_own flelInt) fr_nil)) k)) ?_); rintro r24 v25
          refine o_as st rfl rfl ?_
          refine c_nil ?_
          refine l_then ?_
          refine c_seq ?_
          refine c_seq ?_
          refine c_region ?_
          refine o_as st rfl rfl ?_
          refine c_nil ?_
          refine l_then ?_
          refine c_block ?_
          refine c_loop (σ := Int) (fun (t27 : Int) (a : Act) (w : World) => Has 87 [(3, v4), (4, v7), (5, v10), (6, (.int .i64 t17)), (8, v25), (9, (.int .i64 t27))] a ∧ Mem (gB F [] w0) (feet []) w0 [ownCh elInt 3 v25 r24, ownCh elInt 3 v10 r9, ownCh elGFlat 87 v4 r3, ownCh elGPacket 49 v7 r6, snapCh w0 F] w) (fun a w hE hm => ⟨hE.sub ⟨rfl, rfl, rfl, rfl, rfl, rfl, trivial⟩, (hm.pick [0, 1, 2, 3, 4] rfl)⟩) ?_
          rintro nx28 t27 a w ⟨hE, hm⟩ h
          refine nx_of hE hm h ?_
          clear hE hm h
          refine c_seq ?_
          refine c_seq ?_
          refine c_region ?_
          refine o_mv st rfl rfl ?_
          refine o_mv st rfl rfl ?_
          refine o_len st el27 0 rfl reads_own rfl rfl ?_
          refine o_lss st rfl rfl rfl ?_
          refine c_nil ?_
          refine l_then ?_
          refine c_cond rfl ?_ ?_
          · refine c_skip ?_
            refine l_then ?_
            refine c_seq ?_
            refine c_block ?_
            refine c_join (σ := Bool) (fun (t97 : Bool) (a : Act) (w : World) => Has 87 [(3, v4), (4, v7), (5, v10), (6, (.int .i64 t17)), (8, v25), (9, (.int .i64 t27)), (74, (.bool t97))] a ∧ Mem (gB F [] w0) (feet []) w0 [ownCh elInt 3 v25 r24, ownCh elInt 3 v10 r9, ownCh elGFlat 87 v4 r3, ownCh elGPacket 49 v7 r6, snapCh w0 F] w) ?_ ?_
            · intro k98
              refine c_region ?_
              refine o_mv st rfl rfl ?_
              refine o_mv st rfl rfl ?_
              refine o_idx st 0 rfl reads_own rfl rfl rfl el27 ?_; intro e29 h30
              refine o_lds st (enc := encInt) (u := (.int .i64 e29)) 0 rfl reads_own flelInt rfl h30 rfl rfl ty3 rfl ?_
              refine o_lss st rfl rfl rfl ?_
              refine o_mv st rfl rfl ?_
              refine st_sp (dj := 56) rfl ?_ ?_
              · refine st_s rfl rfl rfl rfl ?_
                refine st_s rfl rfl rfl rfl ?_
                refine st_s rfl rfl rfl rfl ?_
                refine st_s rfl rfl rfl rfl ?_
                refine st_s rfl rfl rfl rfl ?_
                refine st_s rfl rfl rfl rfl ?_
                refine st_s rfl rfl rfl rfl ?_
                refine o_pickT st rfl rfl rfl ?_
                refine o_mv st rfl rfl ?_
                refine st_s rfl rfl rfl rfl ?_
                refine st_s rfl rfl rfl rfl ?_
                refine st_s rfl rfl rfl rfl ?_
                refine st_s rfl rfl rfl rfl ?_
                refine st_s rfl rfl rfl rfl ?_
                refine st_s rfl rfl rfl rfl ?_
                refine st_s rfl rfl rfl rfl ?_
                refine st_s rfl rfl rfl rfl ?_
                refine o_pickT st rfl rfl rfl ?_
                refine c_nil ?_
                exact l_join true (fun a w hE hm => ⟨hE.sub ⟨rfl, rfl, rfl, rfl, rfl, rfl, rfl, trivial⟩, (hm.pick [0, 1, 2, 3, 4] rfl)⟩)
              · refine o_mv (st_g rfl rfl) rfl rfl ?_
                refine o_mv (st_g rfl rfl) rfl rfl ?_
                refine o_idx (st_g rfl rfl) 0 rfl reads_own rfl rfl rfl el27 ?_; intro e31 h32
                refine o_lds (st_g rfl rfl) (enc := encInt) (u := (.int .i64 e31)) 0 rfl reads_own flelInt rfl h32 rfl rfl ty3 rfl ?_
                refine o_mv (st_g rfl rfl) rfl rfl ?_
                refine o_len (st_g rfl rfl) el27 1 rfl reads_own rfl rfl ?_
                refine o_geq (st_g rfl rfl) rfl rfl rfl ?_
                refine o_pickF st rfl rfl rfl ?_
                refine o_mv st rfl rfl ?_
                refine st_sp (dj := 65) rfl ?_ ?_
                · refine st_s rfl rfl rfl rfl ?_
                  refine st_s rfl rfl rfl rfl ?_
                  refine st_s rfl rfl rfl rfl ?_
                  refine st_s rfl rfl rfl rfl ?_
                  refine st_s rfl rfl rfl rfl ?_
                  refine st_s rfl rfl rfl rfl ?_
                  refine st_s rfl rfl rfl rfl ?_
                  refine st_s rfl rfl rfl rfl ?_
                  refine o_pickT st rfl rfl rfl ?_
                  refine c_nil ?_
                  exact l_join true (fun a w hE hm => ⟨hE.sub ⟨rfl, rfl, rfl, rfl, rfl, rfl, rfl, trivial⟩, (hm.pick [0, 1, 2, 3, 4] rfl)⟩)
                · refine o_mv (st_g rfl rfl) rfl rfl ?_
                  refine o_mv (st_g rfl rfl) rfl rfl ?_
                  refine o_mv (st_g rfl rfl) rfl rfl ?_
                  refine o_idx (st_g rfl rfl) 0 rfl reads_own rfl rfl rfl el27 ?_; intro e33 h34
                  refine o_lds (st_g rfl rfl) (enc := encInt) (u := (.int .i64 e33)) 0 rfl reads_own flelInt rfl h34 rfl rfl ty3 rfl ?_
                  refine o_idx (st_g rfl rfl) 1 rfl reads_own rfl rfl rfl el27 ?_; intro e35 h36
                  refine o_lds (st_g rfl rfl) (enc := encInt) (u := (.int .i64 e35)) 1 rfl reads_own flelInt rfl h36 rfl rfl ty3 rfl ?_
                  refine o_neq (st_g rfl rfl) und3 rfl rfl rfl ?_
                  refine o_pickF st rfl rfl rfl ?_
                  refine c_nil ?_
                  exact l_join (!(decide (e35 = 0))) (fun a w hE hm => ⟨hE.sub ⟨rfl, rfl, rfl, rfl, rfl, rfl, rfl, trivial⟩, (hm.pick [0, 1, 2, 3, 4] rfl)⟩)
            · rintro t97 a w ⟨hE, hm⟩ h
              refine nx_of hE hm h ?_
              clear hE hm h
              refine c_cond rfl ?_ ?_
              · refine c_seq ?_
                refine c_region ?_
                refine o_as st rfl rfl ?_
                refine c_nil ?_
                refine l_then ?_
                refine c_ret ?_
                refine b_ret ?_
                refine l_ret ?_
                refine l_ret ?_
                refine b_ret ?_
                refine l_ret ?_
                exact l_end1 Tryd.results5 false () (rv_t rfl) (fun _ _ => NewCh.nil _ _ _ _)
              · refine c_skip ?_
                refine b_norm ?_
                refine l_then ?_
                refine c_region ?_
                refine o_mv st rfl rfl ?_
                refine o_add st rfl rfl rfl ?_; intro t99
                refine o_as st rfl rfl ?_
                refine c_nil ?_
                exact l_join t99 (fun a w hE hm => ⟨hE.sub ⟨rfl, rfl, rfl, rfl, rfl, rfl, trivial⟩, (hm.pick [0, 1, 2, 3, 4] rfl)⟩)
          · refine c_exit ?_
            refine l_exit ?_
            refine l_exit ?_
            refine b_exit ?_
            refine l_then ?_
            refine c_join (σ := Bool) (fun (t161 : Bool) (a : Act) (w : World) => Has 87 [(2, (.bool t161))] a ∧ Mem (gB F [] w0) (feet []) w0 [snapCh w0 F] w) ?_ ?_
            · intro k162
              refine c_region ?_
              refine o_mv st rfl rfl ?_
              refine o_mv st rfl rfl ?_
              refine o_len st el24 3 rfl reads_own rfl rfl ?_
              refine o_eql st und3 rfl rfl rfl ?_
              refine o_mv st rfl rfl ?_
              refine st_sp (dj := 79) rfl ?_ ?_
              · refine o_mv (st_g rfl rfl) rfl rfl ?_
                refine o_len (st_g rfl rfl) el27 1 rfl reads_own rfl rfl ?_
                refine o_mv (st_g rfl rfl) rfl rfl ?_
                refine o_len (st_g rfl rfl) el23 2 rfl reads_own rfl rfl ?_
                refine o_add (st_g rfl rfl) rfl rfl rfl ?_; intro t100
                refine o_eql (st_g rfl rfl) und3 rfl rfl rfl ?_
                refine o_pickT st rfl rfl rfl ?_
                refine o_as st rfl rfl ?_
                refine c_nil ?_
                exact l_join (decide ((r9.length : Int) = t100)) (fun a w hE hm => ⟨hE.sub ⟨rfl, trivial⟩, (hm.pick [4] rfl)⟩)
              · refine st_s rfl rfl rfl rfl ?_
                refine st_s rfl rfl rfl rfl ?_
                refine st_s rfl rfl rfl rfl ?_
                refine st_s rfl rfl rfl rfl ?_
                refine st_s rfl rfl rfl rfl ?_
                refine st_s rfl rfl rfl rfl ?_
                refine o_pickF st rfl rfl rfl ?_
                refine o_as st rfl rfl ?_
                refine c_nil ?_
                exact l_join false (fun a w hE hm => ⟨hE.sub ⟨rfl, trivial⟩, (hm.pick [4] rfl)⟩)
            · rintro t161 a w ⟨hE, hm⟩ h
              refine nx_of hE hm h ?_
              clear hE hm h
              refine c_ret ?_
              exact l_end1 Tryd.results5 t161 () (rv_t rfl) (fun _ _ => NewCh.nil _ _ _ _)

end

end Go.Proofs.YtpbmhkfbggmofaaDoor
