/- Texts of this seat, put together. -/
import Derived.Test.YtigdghiknfehhaaDoorMP14
set_option linter.unusedSimpArgs false
set_option linter.unusedVariables false
namespace Go.Proofs.YtigdghiknfehhaaDoor
section
open Go.RowKit
set_option maxRecDepth 100000 in
set_option maxHeartbeats 8000000 in
theorem w_laws_FnPassAll {w0 : World} {F : Nat → Prop} {v1 : Value} {code_0 : (List UInt8)} {κ : Bool → Prop} (hF : ∀ b, F b → b < w0.heap.size ∧ ¬ feet [] b) (hv1 : Sl elU8 F w0 v1 code_0) (hgl0 : Sl elGFieldShape F w0 (.slice (some ⟨0, 0, none⟩) 4 4) gl_impl_fieldShapes) (h : L_laws_FnPassAll code_0 κ) :
    Calls Tryd.prog 6 #[v1] w0 (Ret [] F w0 κ (fun (r : Bool) (u : Unit) => (.bool r)) (fun (r : Bool) (u : Unit) => [])) := by
  refine enterS (args := [v1]) [] hF (Given.nil _ _) Tryd.func6 rfl Tryd.ntmps6 rfl h ?_
  clear h hF
  refine c_seq ?_
  refine c_region ?_
  refine o_as st rfl rfl ?_
  refine c_nil ?_
  refine l_then ?_
  refine c_seq ?_
  refine c_seq ?_
  refine c_region ?_
  refine o_mv st rfl rfl ?_
  refine o_len st el22 0 rfl (reads_snap hv1) rfl rfl ?_
  refine o_gtr st rfl rfl rfl ?_
  refine c_nil ?_
  refine l_then ?_
  refine c_cond rfl ?_ ?_
  · refine c_seq ?_
    refine c_region ?_
    refine o_as st rfl rfl ?_
    refine c_nil ?_
    refine l_then ?_
    refine c_ret ?_
    refine l_ret ?_
    exact l_end1 Tryd.results6 true () (rv_t rfl) (fun _ _ => NewCh.nil _ _ _ _)
  · refine c_skip ?_
    refine l_then ?_
    refine c_seq ?_
    refine c_region ?_
    refine o_mv st rfl rfl ?_
    refine stw (o_callP (vs := [v1]) Tryd.call24 rfl rfl (by intro w m h; exact (w_spec_DrawPassAll (F := allB [] w) (code_0 := code_0) allB_ok (m.rd0 0 rfl (reads_snap hv1)) h).mono (fun _ _ k => ret_free (fun r u => (fr_cons free_dp (fr_cons (free_own flelGPacket) fr_nil))) k)) ?_); rintro ⟨r3, r7, r10, r11⟩ ⟨v4, bb5, v8⟩
    refine o_mv st rfl rfl ?_
    refine o_ext st (vs := [(.agg #[v4, (.bool r3.xAccept)]), v8, (.int .i64 r10), (.int .i64 r11)]) rfl rfl rfl ?_
    refine o_ext st (vs := [(.agg #[v4, (.bool r3.xAccept)]), v8, (.int .i64 r10), (.int .i64 r11)]) rfl rfl rfl ?_
    refine o_ext st (vs := [(.agg #[v4, (.bool r3.xAccept)]), v8, (.int .i64 r10), (.int .i64 r11)]) rfl rfl rfl ?_
    refine o_ext st (vs := [(.agg #[v4, (.bool r3.xAccept)]), v8, (.int .i64 r10), (.int .i64 r11)]) rfl rfl rfl ?_
    refine stw (o_alloc rfl [(.slice none 0 0), (.bool false)] zero25 ?_); intro b12
    refine nx_dp 1 rfl ?_; rintro a14 l15 q16 rfl
    refine stw (o_stc (cs' := [(.slice a14 l15 q16), (.bool r3.xAccept)]) 0 rfl rfl rfl ty25 rfl rfl rfl rfl ?_)
    refine o_as st rfl rfl ?_
    refine o_as st rfl rfl ?_
    refine o_as st rfl rfl ?_
    refine c_nil ?_
    refine l_then ?_
    refine c_seq ?_
    refine c_region ?_
    refine o_ldc st (v := (.agg #[(.slice a14 l15 q16), (.bool r3.xAccept)])) 0 rfl rfl rfl ty25 rfl ?_
    refine o_mv st rfl rfl ?_
    refine o_mv st rfl rfl ?_
    refine o_mv st rfl rfl ?_
    refine stw (o_callP (vs := [(.agg #[(.slice a14 l15 q16), (.bool r3.xAccept)]), v8, (.int .i64 r10), (.int .i64 r11)]) Tryd.call25 rfl rfl (by intro w m h; exact (w_impl_PassAll (F := allB [] w) (s_0 := r3) (packets_1 := r7) (step_2 := r10) (life_3 := r11) allB_ok (m.rd0 1 rfl reads_dp) (m.rd0 2 rfl reads_own) (m.rd0 3 rfl (reads_snap hgl0)) h).mono (fun _ _ k => ret_free (fun r u => (fr_cons (free_own flelBool) fr_nil)) k)) ?_); rintro r17 v18
    refine o_as st rfl rfl ?_
    refine c_nil ?_
    refine l_then ?_
    refine c_seq ?_
    refine c_region ?_
    refine o_ldc st (v := (.agg #[(.slice a14 l15 q16), (.bool r3.xAccept)])) 1 rfl rfl rfl ty25 rfl ?_
    refine o_mv st rfl rfl ?_
    refine o_mv st rfl rfl ?_
    refine o_mv st rfl rfl ?_
    refine stw (o_callP (vs := [(.agg #[(.slice a14 l15 q16), (.bool r3.xAccept)]), v8, (.int .i64 r10), (.int .i64 r11)]) Tryd.call26 rfl rfl (by intro w m h; exact (w_spec_PassAll (F := allB [] w) (s_0 := r3) (packets_1 := r7) (step_2 := r10) (life_3 := r11) allB_ok (m.rd0 2 rfl reads_dp) (m.rd0 3 rfl reads_own) h).mono (fun _ _ k => ret_free (fun r u => (fr_cons (free_own flelBool) fr_nil)) k)) ?_); rintro r20 v21
    refine o_as st rfl rfl ?_
    refine c_nil ?_
    refine l_then ?_
    refine c_seq ?_
    refine c_seq ?_
    refine c_region ?_
    refine o_mv st rfl rfl ?_
    refine o_len st el50 1 rfl reads_own rfl rfl ?_
    refine o_mv st rfl rfl ?_
    refine o_len st el50 0 rfl reads_own rfl rfl ?_
    refine o_neq st und3 rfl rfl rfl ?_
    refine c_nil ?_
    refine l_then ?_
    refine c_cond rfl ?_ ?_
    · refine c_seq ?_
      refine c_region ?_
      refine o_as st rfl rfl ?_
      refine c_nil ?_
      refine l_then ?_
      refine c_ret ?_
      refine l_ret ?_
      exact l_end1 Tryd.results6 false () (rv_t rfl) (fun _ _ => NewCh.nil _ _ _ _)
    · refine c_skip ?_
      refine l_then ?_
      refine c_seq ?_
      refine c_seq ?_
      refine c_region ?_
      refine o_mv st rfl rfl ?_
      refine o_len st el50 1 rfl reads_own rfl rfl ?_
      refine o_eql st und3 rfl rfl rfl ?_
      refine c_nil ?_
      refine l_then ?_
      refine c_cond rfl ?_ ?_
      · refine c_seq ?_
        refine c_region ?_
        refine stw (o_callP (vs := []) Tryd.call14 rfl rfl (by intro w m h; exact (w_laws_alive (F := allB [] w) allB_ok h).mono (fun _ _ k => ret_free (fun r u => fr_nil) k)) ?_); rintro r23 _
        refine o_as st rfl rfl ?_
        refine c_nil ?_
        refine l_then ?_
        refine c_ret ?_
        refine l_ret ?_
        exact l_end1 Tryd.results6 r23 () (rv_t rfl) (fun _ _ => NewCh.nil _ _ _ _)
      · refine c_skip ?_
        refine l_then ?_
        refine c_seq ?_
        refine frz 4 rfl reads_own ?_
        refine nx_ro 4 rfl ?_; rintro a24 l25 q26 rfl
        refine c_draw mixed 10 rfl [ownCh elBool 4 v21 r20, ownCh elBool 4 v18 r17, cellCh b12 [(.slice a14 l15 q16), (.bool r3.xAccept)] 25, dpCh (dSl dGRule 104) 101 bb5 (.slice a14 l15 q16) r3.xChains, roCh elGPacket (.slice a24 l25 q26) r7, snapCh w0 F] ?_
        refine o_ldc (dt 0 (fun _ m => m)) (v := (.agg #[(.slice a14 l15 q16), (.bool r3.xAccept)])) 2 rfl rfl rfl ty25 rfl ?_
        refine o_mv (dt 1 (fun _ m => m)) rfl rfl ?_
        refine o_mv (dt 2 (fun _ m => m)) rfl rfl ?_
        refine o_len (dt 3 (fun _ m => m)) el26 4 rfl reads_ro rfl rfl ?_
        refine o_quo (dt 4 (fun _ m => m)) rfl rfl rfl ?_; intro t27
        refine o_slcR (dt 5 (fun _ m => m)) (I := 0) (J := t27) 4 4 rfl rfl rfl rfl rfl rfl el26 rfl ?_; intro xs28
        refine o_mv (dt 6 (fun w m => m.pick [1, 2, 3, 4, 5, 6] rfl)) rfl rfl ?_
        refine o_mv (dt 7 (fun w m => m.pick [1, 2, 3, 4, 5, 6] rfl)) rfl rfl ?_
        refine d_one (i := 8) rfl (by kernel_rfl) (o_callP (vs := [(.agg #[(.slice a14 l15 q16), (.bool r3.xAccept)]), (slv a24 q26 (0 : Int).toNat (t27).toNat 4), (.int .i64 r10), (.int .i64 r11)]) Tryd.call25 rfl rfl (by intro w m h; exact (w_impl_PassAll (F := allB [] w) (s_0 := r3) (packets_1 := xs28) (step_2 := r10) (life_3 := r11) allB_ok (m.rd0 4 rfl reads_dp) (m.rd0 0 rfl reads_ro) (m.rd0 6 rfl (reads_snap hgl0)) h).mono (fun _ _ k => ret_free (fun r u => (fr_cons (free_own flelBool) fr_nil)) k)) ?_); rintro r30 v31
        refine d_and (fun w m => m.pick [2, 3, 4, 5, 6, 7] rfl) ?_
        refine o_as (dt 9 (fun w m => m.pick [2, 3, 4, 5, 6, 7] rfl)) rfl rfl ?_
        refine d_done (by kernel_rfl) ?_
        refine l_then ?_
        refine c_seq ?_
        refine c_seq ?_
        refine c_region ?_
        refine o_as st rfl rfl ?_
        refine c_nil ?_
        refine l_then ?_
        refine c_block ?_
        refine c_loop (σ := Int) (fun (t33 : Int) (a : Act) (w : World) => Has 101 [(3, (.pointer (some ⟨b12, 0, none⟩))), (4, (.slice a24 l25 q26)), (7, v18), (8, v21), (9, v31), (10, (.int .i64 t33))] a ∧ Mem (gB F [] w0) (feet []) w0 [ownCh elBool 4 v31 r30, ownCh elBool 4 v21 r20, ownCh elBool 4 v18 r17, cellCh b12 [(.slice a14 l15 q16), (.bool r3.xAccept)] 25, dpCh (dSl dGRule 104) 101 bb5 (.slice a14 l15 q16) r3.xChains, roCh elGPacket (.slice a24 l25 q26) r7, snapCh w0 F] w) (fun a w hE hm => ⟨hE.sub ⟨rfl, rfl, rfl, rfl, rfl, rfl, trivial⟩, (hm.pick [0, 2, 3, 4, 5, 6, 7] rfl)⟩) ?_
        rintro nx34 t33 a w ⟨hE, hm⟩ h
        refine nx_of hE hm h ?_
        clear hE hm h
        refine c_seq ?_
        refine c_seq ?_
        refine c_region ?_
        refine o_mv st rfl rfl ?_
        refine o_mv st rfl rfl ?_
        refine o_len st el50 2 rfl reads_own rfl rfl ?_
        refine o_lss st rfl rfl rfl ?_
        refine c_nil ?_
        refine l_then ?_
        refine c_cond rfl ?_ ?_
        · refine c_skip ?_
          refine l_then ?_
          refine c_seq ?_
          refine c_block ?_
          refine c_join (σ := Bool) (fun (t112 : Bool) (a : Act) (w : World) => Has 101 [(3, (.pointer (some ⟨b12, 0, none⟩))), (4, (.slice a24 l25 q26)), (7, v18), (8, v21), (9, v31), (10, (.int .i64 t33)), (95, (.bool t112))] a ∧ Mem (gB F [] w0) (feet []) w0 [ownCh elBool 4 v31 r30, ownCh elBool 4 v21 r20, ownCh elBool 4 v18 r17, cellCh b12 [(.slice a14 l15 q16), (.bool r3.xAccept)] 25, dpCh (dSl dGRule 104) 101 bb5 (.slice a14 l15 q16) r3.xChains, roCh elGPacket (.slice a24 l25 q26) r7, snapCh w0 F] w) ?_ ?_
          · intro k113
            refine c_draw mixed 41 rfl [ownCh elBool 4 v31 r30, ownCh elBool 4 v21 r20, ownCh elBool 4 v18 r17, cellCh b12 [(.slice a14 l15 q16), (.bool r3.xAccept)] 25, dpCh (dSl dGRule 104) 101 bb5 (.slice a14 l15 q16) r3.xChains, roCh elGPacket (.slice a24 l25 q26) r7, snapCh w0 F] ?_
            refine o_mv (dt 0 (fun _ m => m)) rfl rfl ?_
            refine o_mv (dt 1 (fun _ m => m)) rfl rfl ?_
            refine o_idx (dt 2 (fun _ m => m)) 2 rfl reads_own rfl rfl rfl el50 ?_; intro e35 h36
            refine o_lds (dt 3 (fun _ m => m)) (enc := encBool) (u := (.bool e35)) 2 rfl reads_own flelBool rfl h36 rfl rfl ty4 rfl ?_
            refine o_mv (dt 4 (fun _ m => m)) rfl rfl ?_
            refine o_mv (dt 5 (fun _ m => m)) rfl rfl ?_
            refine o_idx (dt 6 (fun _ m => m)) 1 rfl reads_own rfl rfl rfl el50 ?_; intro e37 h38
            refine o_lds (dt 7 (fun _ m => m)) (enc := encBool) (u := (.bool e37)) 1 rfl reads_own flelBool rfl h38 rfl rfl ty4 rfl ?_
            refine o_neqB (dt 8 (fun _ m => m)) und4 rfl rfl rfl ?_
            refine o_mv (dt 9 (fun _ m => m)) rfl rfl ?_
            refine st_sp (dj := 64) rfl ?_ ?_
            · refine dsk 10 (fun _ m => m) rfl (by kernel_rfl) rfl rfl rfl rfl ?_
              refine dsk 11 (fun _ m => m) rfl (by kernel_rfl) rfl rfl rfl rfl ?_
              refine dsk 12 (fun _ m => m) rfl (by kernel_rfl) rfl rfl rfl rfl ?_
              refine dsk 13 (fun _ m => m) rfl (by kernel_rfl) rfl rfl rfl rfl ?_
              refine dsk 14 (fun _ m => m) rfl (by kernel_rfl) rfl rfl rfl rfl ?_
              refine dsk 15 (fun _ m => m) rfl (by kernel_rfl) rfl rfl rfl rfl ?_
              refine dsk 16 (fun _ m => m) rfl (by kernel_rfl) rfl rfl rfl rfl ?_
              refine dsk 17 (fun _ m => m) rfl (by kernel_rfl) rfl rfl rfl rfl ?_
              refine dsk 18 (fun _ m => m) rfl (by kernel_rfl) rfl rfl rfl rfl ?_
              refine dsk 19 (fun _ m => m) rfl (by kernel_rfl) rfl rfl rfl rfl ?_
              refine dsk 20 (fun _ m => m) rfl (by kernel_rfl) rfl rfl rfl rfl ?_
              refine dsk 21 (fun _ m => m) rfl (by kernel_rfl) rfl rfl rfl rfl ?_
              refine dsk 22 (fun _ m => m) rfl (by kernel_rfl) rfl rfl rfl rfl ?_
              refine o_pickT (dt 23 (fun _ m => m)) rfl rfl rfl ?_
              refine o_mv (dt 24 (fun _ m => m)) rfl rfl ?_
              refine dsk 25 (fun _ m => m) rfl (by kernel_rfl) rfl rfl rfl rfl ?_
              refine dsk 26 (fun _ m => m) rfl (by kernel_rfl) rfl rfl rfl rfl ?_
              refine dsk 27 (fun _ m => m) rfl (by kernel_rfl) rfl rfl rfl rfl ?_
              refine dsk 28 (fun _ m => m) rfl (by kernel_rfl) rfl rfl rfl rfl ?_
              refine dsk 29 (fun _ m => m) rfl (by kernel_rfl) rfl rfl rfl rfl ?_
              refine dsk 30 (fun _ m => m) rfl (by kernel_rfl) rfl rfl rfl rfl ?_
              refine dsk 31 (fun _ m => m) rfl (by kernel_rfl) rfl rfl rfl rfl ?_
              refine dsk 32 (fun _ m => m) rfl (by kernel_rfl) rfl rfl rfl rfl ?_
              refine dsk 33 (fun _ m => m) rfl (by kernel_rfl) rfl rfl rfl rfl ?_
              refine dsk 34 (fun _ m => m) rfl (by kernel_rfl) rfl rfl rfl rfl ?_
              refine dsk 35 (fun _ m => m) rfl (by kernel_rfl) rfl rfl rfl rfl ?_
              refine dsk 36 (fun _ m => m) rfl (by kernel_rfl) rfl rfl rfl rfl ?_
              refine dsk 37 (fun _ m => m) rfl (by kernel_rfl) rfl rfl rfl rfl ?_
              refine dsk 38 (fun _ m => m) rfl (by kernel_rfl) rfl rfl rfl rfl ?_
              refine dsk 39 (fun _ m => m) rfl (by kernel_rfl) rfl rfl rfl rfl ?_
              refine o_pickT (dt 40 (fun _ m => m)) rfl rfl rfl ?_
              refine d_done (by kernel_rfl) ?_
              exact l_join true (fun a w hE hm => ⟨hE.sub ⟨rfl, rfl, rfl, rfl, rfl, rfl, rfl, trivial⟩, (hm.pick [0, 1, 2, 3, 4, 5, 6] rfl)⟩)
            · refine o_ldc (dtg 10 (fun _ m => m)) (v := (.agg #[(.slice a14 l15 q16), (.bool r3.xAccept)])) 3 rfl rfl rfl ty25 rfl ?_
              refine o_mv (dtg 11 (fun _ m => m)) rfl rfl ?_
              refine o_mv (dtg 12 (fun _ m => m)) rfl rfl ?_
              refine o_idx (dtg 13 (fun _ m => m)) 5 rfl reads_ro rfl rfl rfl el26 ?_; intro e39 h40
              refine o_lds (dtg 14 (fun _ m => m)) (enc := encGPacket) (u := (.agg #[(.int .i64 e39.xFrom), (.int .i64 e39.xTo), (.int .i64 e39.xPort), (.int .i64 e39.xProto)])) 5 rfl reads_ro flelGPacket rfl h40 rfl rfl ty40 rfl ?_
              refine d_oneg (i := 15) rfl rfl rfl (by kernel_rfl) (o_callP (vs := [(.agg #[(.slice a14 l15 q16), (.bool r3.xAccept)]), (.agg #[(.int .i64 e39.xFrom), (.int .i64 e39.xTo), (.int .i64 e39.xPort), (.int .i64 e39.xProto)])]) Tryd.call27 rfl rfl (by intro w m h; exact (w_impl_Judge (F := allB [] w) (s_0 := r3) (p_1 := e39) allB_ok (m.rd0 4 rfl reads_dp) (m.rd0 6 rfl (reads_snap hgl0)) h).mono (fun _ _ k => ret_free (fun r u => fr_nil) k)) ?_); rintro r41 _
              refine d_and (fun _ m => m) ?_
              refine o_mv (dtg 16 (fun _ m => m)) rfl rfl ?_
              refine st_sp (dj := 71) rfl ?_ ?_
              · refine o_mv (dtg 17 (fun _ m => m)) rfl rfl ?_
                refine o_mv (dtg 18 (fun _ m => m)) rfl rfl ?_
                refine o_idx (dtg 19 (fun _ m => m)) 2 rfl reads_own rfl rfl rfl el50 ?_; intro e42 h43
                refine o_lds (dtg 20 (fun _ m => m)) (enc := encBool) (u := (.bool e42)) 2 rfl reads_own flelBool rfl h43 rfl rfl ty4 rfl ?_
                refine o_not (dtg 21 (fun _ m => m)) rfl rfl ?_
                refine o_pickT (dtg 22 (fun _ m => m)) rfl rfl rfl ?_
                refine o_pickF (dt 23 (fun _ m => m)) rfl rfl rfl ?_
                refine o_mv (dt 24 (fun _ m => m)) rfl rfl ?_
                refine st_sp (dj := 79) rfl ?_ ?_
                · refine dsk 25 (fun _ m => m) rfl (by kernel_rfl) rfl rfl rfl rfl ?_
                  refine dsk 26 (fun _ m => m) rfl (by kernel_rfl) rfl rfl rfl rfl ?_
                  refine dsk 27 (fun _ m => m) rfl (by kernel_rfl) rfl rfl rfl rfl ?_
                  refine dsk 28 (fun _ m => m) rfl (by kernel_rfl) rfl rfl rfl rfl ?_
                  refine dsk 29 (fun _ m => m) rfl (by kernel_rfl) rfl rfl rfl rfl ?_
                  refine dsk 30 (fun _ m => m) rfl (by kernel_rfl) rfl rfl rfl rfl ?_
                  refine dsk 31 (fun _ m => m) rfl (by kernel_rfl) rfl rfl rfl rfl ?_
                  refine dsk 32 (fun _ m => m) rfl (by kernel_rfl) rfl rfl rfl rfl ?_
                  refine dsk 33 (fun _ m => m) rfl (by kernel_rfl) rfl rfl rfl rfl ?_
                  refine dsk 34 (fun _ m => m) rfl (by kernel_rfl) rfl rfl rfl rfl ?_
                  refine dsk 35 (fun _ m => m) rfl (by kernel_rfl) rfl rfl rfl rfl ?_
                  refine dsk 36 (fun _ m => m) rfl (by kernel_rfl) rfl rfl rfl rfl ?_
                  refine dsk 37 (fun _ m => m) rfl (by kernel_rfl) rfl rfl rfl rfl ?_
                  refine dsk 38 (fun _ m => m) rfl (by kernel_rfl) rfl rfl rfl rfl ?_
                  refine dsk 39 (fun _ m => m) rfl (by kernel_rfl) rfl rfl rfl rfl ?_
                  refine o_pickT (dt 40 (fun _ m => m)) rfl rfl rfl ?_
                  refine d_done (by kernel_rfl) ?_
                  exact l_join true (fun a w hE hm => ⟨hE.sub ⟨rfl, rfl, rfl, rfl, rfl, rfl, rfl, trivial⟩, (hm.pick [0, 1, 2, 3, 4, 5, 6] rfl)⟩)
                · refine o_mv (dtg 25 (fun _ m => m)) rfl rfl ?_
                  refine o_mv (dtg 26 (fun _ m => m)) rfl rfl ?_
                  refine o_len (dtg 27 (fun _ m => m)) el50 0 rfl reads_own rfl rfl ?_
                  refine o_lss (dtg 28 (fun _ m => m)) rfl rfl rfl ?_
                  refine o_mv (dtg 29 (fun _ m => m)) rfl rfl ?_
                  refine st_sp (dj := 84) rfl ?_ ?_
                  · refine o_mv (dtg 30 (fun _ m => m)) rfl rfl ?_
                    refine o_mv (dtg 31 (fun _ m => m)) rfl rfl ?_
                    refine o_idx (dtg 32 (fun _ m => m)) 0 rfl reads_own rfl rfl rfl el50 ?_; intro e44 h45
                    refine o_lds (dtg 33 (fun _ m => m)) (enc := encBool) (u := (.bool e44)) 0 rfl reads_own flelBool rfl h45 rfl rfl ty4 rfl ?_
                    refine o_mv (dtg 34 (fun _ m => m)) rfl rfl ?_
                    refine o_mv (dtg 35 (fun _ m => m)) rfl rfl ?_
                    refine o_idx (dtg 36 (fun _ m => m)) 2 rfl reads_own rfl rfl rfl el50 ?_; intro e46 h47
                    refine o_lds (dtg 37 (fun _ m => m)) (enc := encBool) (u := (.bool e46)) 2 rfl reads_own flelBool rfl h47 rfl rfl ty4 rfl ?_
                    refine o_neqB (dtg 38 (fun _ m => m)) und4 rfl rfl rfl ?_
                    refine o_pickT (dtg 39 (fun _ m => m)) rfl rfl rfl ?_
                    refine o_pickF (dt 40 (fun _ m => m)) rfl rfl rfl ?_
                    refine d_done (by kernel_rfl) ?_
                    exact l_join (!(decide (e44 = e46))) (fun a w hE hm => ⟨hE.sub ⟨rfl, rfl, rfl, rfl, rfl, rfl, rfl, trivial⟩, (hm.pick [0, 1, 2, 3, 4, 5, 6] rfl)⟩)
                  · refine dsk 30 (fun _ m => m) rfl (by kernel_rfl) rfl rfl rfl rfl ?_
                    refine dsk 31 (fun _ m => m) rfl (by kernel_rfl) rfl rfl rfl rfl ?_
                    refine dsk 32 (fun _ m => m) rfl (by kernel_rfl) rfl rfl rfl rfl ?_
                    refine dsk 33 (fun _ m => m) rfl (by kernel_rfl) rfl rfl rfl rfl ?_
                    refine dsk 34 (fun _ m => m) rfl (by kernel_rfl) rfl rfl rfl rfl ?_
                    refine dsk 35 (fun _ m => m) rfl (by kernel_rfl) rfl rfl rfl rfl ?_
                    refine dsk 36 (fun _ m => m) rfl (by kernel_rfl) rfl rfl rfl rfl ?_
                    refine dsk 37 (fun _ m => m) rfl (by kernel_rfl) rfl rfl rfl rfl ?_
                    refine dsk 38 (fun _ m => m) rfl (by kernel_rfl) rfl rfl rfl rfl ?_
                    refine o_pickF (dtg 39 (fun _ m => m)) rfl rfl rfl ?_
                    refine o_pickF (dt 40 (fun _ m => m)) rfl rfl rfl ?_
                    refine d_done (by kernel_rfl) ?_
                    exact l_join false (fun a w hE hm => ⟨hE.sub ⟨rfl, rfl, rfl, rfl, rfl, rfl, rfl, trivial⟩, (hm.pick [0, 1, 2, 3, 4, 5, 6] rfl)⟩)
              · refine dsk 17 (fun _ m => m) rfl (by kernel_rfl) rfl rfl rfl rfl ?_
                refine dsk 18 (fun _ m => m) rfl (by kernel_rfl) rfl rfl rfl rfl ?_
                refine dsk 19 (fun _ m => m) rfl (by kernel_rfl) rfl rfl rfl rfl ?_
                refine dsk 20 (fun _ m => m) rfl (by kernel_rfl) rfl rfl rfl rfl ?_
                refine dsk 21 (fun _ m => m) rfl (by kernel_rfl) rfl rfl rfl rfl ?_
                refine o_pickF (dtg 22 (fun _ m => m)) rfl rfl rfl ?_
                refine o_pickF (dt 23 (fun _ m => m)) rfl rfl rfl ?_
                refine o_mv (dt 24 (fun _ m => m)) rfl rfl ?_
                refine o_mv (dtg 25 (fun _ m => m)) rfl rfl ?_
                refine o_mv (dtg 26 (fun _ m => m)) rfl rfl ?_
                refine o_len (dtg 27 (fun _ m => m)) el50 0 rfl reads_own rfl rfl ?_
                refine o_lss (dtg 28 (fun _ m => m)) rfl rfl rfl ?_
                refine o_mv (dtg 29 (fun _ m => m)) rfl rfl ?_
                refine st_sp (dj := 84) rfl ?_ ?_
                · refine o_mv (dtg 30 (fun _ m => m)) rfl rfl ?_
                  refine o_mv (dtg 31 (fun _ m => m)) rfl rfl ?_
                  refine o_idx (dtg 32 (fun _ m => m)) 0 rfl reads_own rfl rfl rfl el50 ?_; intro e48 h49
                  refine o_lds (dtg 33 (fun _ m => m)) (enc := encBool) (u := (.bool e48)) 0 rfl reads_own flelBool rfl h49 rfl rfl ty4 rfl ?_
                  refine o_mv (dtg 34 (fun _ m => m)) rfl rfl ?_
                  refine o_mv (dtg 35 (fun _ m => m)) rfl rfl ?_
                  refine o_idx (dtg 36 (fun _ m => m)) 2 rfl reads_own rfl rfl rfl el50 ?_; intro e50 h51
                  refine o_lds (dtg 37 (fun _ m => m)) (enc := encBool) (u := (.bool e50)) 2 rfl reads_own flelBool rfl h51 rfl rfl ty4 rfl ?_
                  refine o_neqB (dtg 38 (fun _ m => m)) und4 rfl rfl rfl ?_
                  refine o_pickT (dtg 39 (fun _ m => m)) rfl rfl rfl ?_
                  refine o_pickF (dt 40 (fun _ m => m)) rfl rfl rfl ?_
                  refine d_done (by kernel_rfl) ?_
                  exact l_join (!(decide (e48 = e50))) (fun a w hE hm => ⟨hE.sub ⟨rfl, rfl, rfl, rfl, rfl, rfl, rfl, trivial⟩, (hm.pick [0, 1, 2, 3, 4, 5, 6] rfl)⟩)
                · refine dsk 30 (fun _ m => m) rfl (by kernel_rfl) rfl rfl rfl rfl ?_
                  refine dsk 31 (fun _ m => m) rfl (by kernel_rfl) rfl rfl rfl rfl ?_
                  refine dsk 32 (fun _ m => m) rfl (by kernel_rfl) rfl rfl rfl rfl ?_
                  refine dsk 33 (fun _ m => m) rfl (by kernel_rfl) rfl rfl rfl rfl ?_
                  refine dsk 34 (fun _ m => m) rfl (by kernel_rfl) rfl rfl rfl rfl ?_
                  refine dsk 35 (fun _ m => m) rfl (by kernel_rfl) rfl rfl rfl rfl ?_
                  refine dsk 36 (fun _ m => m) rfl (by kernel_rfl) rfl rfl rfl rfl ?_
                  refine dsk 37 (fun _ m => m) rfl (by kernel_rfl) rfl rfl rfl rfl ?_
                  refine dsk 38 (fun _ m => m) rfl (by kernel_rfl) rfl rfl rfl rfl ?_
                  refine o_pickF (dtg 39 (fun _ m => m)) rfl rfl rfl ?_
                  refine o_pickF (dt 40 (fun _ m => m)) rfl rfl rfl ?_
                  refine d_done (by kernel_rfl) ?_
                  exact l_join false (fun a w hE hm => ⟨hE.sub ⟨rfl, rfl, rfl, rfl, rfl, rfl, rfl, trivial⟩, (hm.pick [0, 1, 2, 3, 4, 5, 6] rfl)⟩)
          · rintro t112 a w ⟨hE, hm⟩ h
            refine nx_of hE hm h ?_
            clear hE hm h
            refine c_cond rfl ?_ ?_
            · refine c_seq ?_
              refine c_region ?_
              refine o_as st rfl rfl ?_
              refine c_nil ?_
              refine l_then ?_
              refine c_ret ?_
              refine b_ret ?_
              refine l_ret ?_
              refine l_ret ?_
              refine b_ret ?_
              refine l_ret ?_
              exact l_end1 Tryd.results6 false () (rv_t rfl) (fun _ _ => NewCh.nil _ _ _ _)
            · refine c_skip ?_
              refine b_norm ?_
              refine l_then ?_
              refine c_region ?_
              refine o_mv st rfl rfl ?_
              refine o_add st rfl rfl rfl ?_; intro t114
              refine o_as st rfl rfl ?_
              refine c_nil ?_
              exact l_join t114 (fun a w hE hm => ⟨hE.sub ⟨rfl, rfl, rfl, rfl, rfl, rfl, trivial⟩, (hm.pick [0, 1, 2, 3, 4, 5, 6] rfl)⟩)
        · refine c_exit ?_
          refine l_exit ?_
          refine l_exit ?_
          refine b_exit ?_
          refine l_then ?_
          refine c_seq ?_
          refine c_region ?_
          refine o_mv st rfl rfl ?_
          refine o_len st el50 2 rfl reads_own rfl rfl ?_
          refine o_mv st rfl rfl ?_
          refine o_len st el26 5 rfl reads_ro rfl rfl ?_
          refine o_eql st und3 rfl rfl rfl ?_
          refine o_as st rfl rfl ?_
          refine c_nil ?_
          refine l_then ?_
          refine c_ret ?_
          exact l_end1 Tryd.results6 (decide ((r17.length : Int) = (r7.length : Int))) () (rv_t rfl) (fun _ _ => NewCh.nil _ _ _ _)

end

end Go.Proofs.YtigdghiknfehhaaDoor
