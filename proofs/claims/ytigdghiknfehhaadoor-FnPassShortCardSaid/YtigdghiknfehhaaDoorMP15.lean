/- Texts of this seat, put together. -/
import Derived.Test.YtigdghiknfehhaaDoorMP14
set_option linter.unusedSimpArgs false
set_option linter.unusedVariables false
namespace Go.Proofs.YtigdghiknfehhaaDoor
section
open Go.RowKit
set_option maxRecDepth 100000 in
set_option maxHeartbeats 8000000 in
theorem w_laws_FnPassShort {w0 : World} {F : Nat → Prop} {v1 : Value} {code_0 : (List UInt8)} {κ : Bool → Prop} (hF : ∀ b, F b → b < w0.heap.size ∧ ¬ feet [] b) (hv1 : Sl elU8 F w0 v1 code_0) (hgl0 : Sl elGFieldShape F w0 (.slice (some ⟨0, 0, none⟩) 4 4) gl_impl_fieldShapes) (h : L_laws_FnPassShort code_0 κ) :
    Calls Tryd.prog 7 #[v1] w0 (Ret [] F w0 κ (fun (r : Bool) (u : Unit) => (.bool r)) (fun (r : Bool) (u : Unit) => [])) := by
  refine enterS (args := [v1]) [] hF (Given.nil _ _) Tryd.func7 rfl Tryd.ntmps7 rfl h ?_
  clear h hF
  refine c_seq ?_
  refine c_region ?_
  refine o_as st rfl rfl ?_
  refine c_nil ?_
  refine l_then ?_
  refine c_seq ?_
  refine c_seq ?_
  refine c_region ?_
  refine o_mv st rfl rfl ?_
  refine o_len st el22 0 rfl (reads_snap hv1) rfl rfl ?_
  refine o_gtr st rfl rfl rfl ?_
  refine c_nil ?_
  refine l_then ?_
  refine c_cond rfl ?_ ?_
  · refine c_seq ?_
    refine c_region ?_
    refine o_as st rfl rfl ?_
    refine c_nil ?_
    refine l_then ?_
    refine c_ret ?_
    refine l_ret ?_
    exact l_end1 Tryd.results7 true () (rv_t rfl) (fun _ _ => NewCh.nil _ _ _ _)
  · refine c_skip ?_
    refine l_then ?_
    refine c_seq ?_
    refine c_region ?_
    refine o_mv st rfl rfl ?_
    refine stw (o_callP (vs := [v1]) Tryd.call24 rfl rfl (by intro w m h; exact (w_spec_DrawPassAll (F := allB [] w) (code_0 := code_0) allB_ok (m.rd0 0 rfl (reads_snap hv1)) h).mono (fun _ _ k => ret_free (fun r u => (fr_cons free_dp (fr_cons (free_own flelGPacket) fr_nil))) k)) ?_); rintro ⟨r3, r7, r10, r11⟩ ⟨v4, bb5, v8⟩
    refine o_mv st rfl rfl ?_
    refine o_ext st (vs := [(.agg #[v4, (.bool r3.xAccept)]), v8, (.int .i64 r10), (.int .i64 r11)]) rfl rfl rfl ?_
    refine o_ext st (vs := [(.agg #[v4, (.bool r3.xAccept)]), v8, (.int .i64 r10), (.int .i64 r11)]) rfl rfl rfl ?_
    refine o_ext st (vs := [(.agg #[v4, (.bool r3.xAccept)]), v8, (.int .i64 r10), (.int .i64 r11)]) rfl rfl rfl ?_
    refine o_ext st (vs := [(.agg #[v4, (.bool r3.xAccept)]), v8, (.int .i64 r10), (.int .i64 r11)]) rfl rfl rfl ?_
    refine stw (o_alloc rfl [(.slice none 0 0), (.bool false)] zero25 ?_); intro b12
    refine nx_dp 1 rfl ?_; rintro a14 l15 q16 rfl
    refine stw (o_stc (cs' := [(.slice a14 l15 q16), (.bool r3.xAccept)]) 0 rfl rfl rfl ty25 rfl rfl rfl rfl ?_)
    refine o_as st rfl rfl ?_
    refine o_as st rfl rfl ?_
    refine o_as st rfl rfl ?_
    refine c_nil ?_
    refine l_then ?_
    refine c_seq ?_
    refine c_region ?_
    refine o_ldc st (v := (.agg #[(.slice a14 l15 q16), (.bool r3.xAccept)])) 0 rfl rfl rfl ty25 rfl ?_
    refine o_mv st rfl rfl ?_
    refine stw (o_callP (vs := [(.agg #[(.slice a14 l15 q16), (.bool r3.xAccept)]), v8, (.int .i64 1), (.int .i64 0)]) Tryd.call25 rfl rfl (by intro w m h; exact (w_impl_PassAll (F := allB [] w) (s_0 := r3) (packets_1 := r7) (step_2 := 1) (life_3 := 0) allB_ok (m.rd0 1 rfl reads_dp) (m.rd0 2 rfl reads_own) (m.rd0 3 rfl (reads_snap hgl0)) h).mono (fun _ _ k => ret_free (fun r u => (fr_cons (free_own flelBool) fr_nil)) k)) ?_); rintro r17 v18
    refine o_as st rfl rfl ?_
    refine c_nil ?_
    refine l_then ?_
    refine c_seq ?_
    refine c_region ?_
    refine o_ldc st (v := (.agg #[(.slice a14 l15 q16), (.bool r3.xAccept)])) 1 rfl rfl rfl ty25 rfl ?_
    refine o_mv st rfl rfl ?_
    refine stw (o_callP (vs := [(.agg #[(.slice a14 l15 q16), (.bool r3.xAccept)]), v8, (.int .i64 1), (.int .i64 0)]) Tryd.call26 rfl rfl (by intro w m h; exact (w_spec_PassAll (F := allB [] w) (s_0 := r3) (packets_1 := r7) (step_2 := 1) (life_3 := 0) allB_ok (m.rd0 2 rfl reads_dp) (m.rd0 3 rfl reads_own) h).mono (fun _ _ k => ret_free (fun r u => (fr_cons (free_own flelBool) fr_nil)) k)) ?_); rintro r20 v21
    refine o_as st rfl rfl ?_
    refine c_nil ?_
    refine l_then ?_
    refine c_seq ?_
    refine c_seq ?_
    refine c_region ?_
    refine o_mv st rfl rfl ?_
    refine o_len st el50 1 rfl reads_own rfl rfl ?_
    refine o_mv st rfl rfl ?_
    refine o_len st el50 0 rfl reads_own rfl rfl ?_
    refine o_neq st und3 rfl rfl rfl ?_
    refine c_nil ?_
    refine l_then ?_
    refine c_cond rfl ?_ ?_
    · refine c_seq ?_
      refine c_region ?_
      refine o_as st rfl rfl ?_
      refine c_nil ?_
      refine l_then ?_
      refine c_ret ?_
      refine l_ret ?_
      exact l_end1 Tryd.results7 false () (rv_t rfl) (fun _ _ => NewCh.nil _ _ _ _)
    · refine c_skip ?_
      refine l_then ?_
      refine c_seq ?_
      refine c_seq ?_
      refine c_region ?_
      refine o_as st rfl rfl ?_
      refine c_nil ?_
      refine l_then ?_
      refine c_block ?_
      refine c_loop (σ := Int) (fun (t23 : Int) (a : Act) (w : World) => Has 60 [(3, (.pointer (some ⟨b12, 0, none⟩))), (4, v8), (7, v18), (8, v21), (9, (.int .i64 t23))] a ∧ Mem (gB F [] w0) (feet []) w0 [ownCh elBool 4 v21 r20, ownCh elBool 4 v18 r17, cellCh b12 [(.slice a14 l15 q16), (.bool r3.xAccept)] 25, dpCh (dSl dGRule 104) 101 bb5 (.slice a14 l15 q16) r3.xChains, ownCh elGPacket 40 v8 r7, snapCh w0 F] w) (fun a w hE hm => ⟨hE.sub ⟨rfl, rfl, rfl, rfl, rfl, trivial⟩, (hm.pick [0, 1, 2, 3, 4, 5] rfl)⟩) ?_
      rintro nx24 t23 a w ⟨hE, hm⟩ h
      refine nx_of hE hm h ?_
      clear hE hm h
      refine c_seq ?_
      refine c_seq ?_
      refine c_region ?_
      refine o_mv st rfl rfl ?_
      refine o_mv st rfl rfl ?_
      refine o_len st el50 1 rfl reads_own rfl rfl ?_
      refine o_lss st rfl rfl rfl ?_
      refine c_nil ?_
      refine l_then ?_
      refine c_cond rfl ?_ ?_
      · refine c_skip ?_
        refine l_then ?_
        refine c_seq ?_
        refine c_block ?_
        refine c_join (σ := Bool) (fun (t94 : Bool) (a : Act) (w : World) => Has 60 [(3, (.pointer (some ⟨b12, 0, none⟩))), (4, v8), (7, v18), (8, v21), (9, (.int .i64 t23)), (58, (.bool t94))] a ∧ Mem (gB F [] w0) (feet []) w0 [ownCh elBool 4 v21 r20, ownCh elBool 4 v18 r17, cellCh b12 [(.slice a14 l15 q16), (.bool r3.xAccept)] 25, dpCh (dSl dGRule 104) 101 bb5 (.slice a14 l15 q16) r3.xChains, ownCh elGPacket 40 v8 r7, snapCh w0 F] w) ?_ ?_
        · intro k95
          refine c_draw mixed 22 rfl [ownCh elBool 4 v21 r20, ownCh elBool 4 v18 r17, cellCh b12 [(.slice a14 l15 q16), (.bool r3.xAccept)] 25, dpCh (dSl dGRule 104) 101 bb5 (.slice a14 l15 q16) r3.xChains, ownCh elGPacket 40 v8 r7, snapCh w0 F] ?_
          refine o_mv (dt 0 (fun _ m => m)) rfl rfl ?_
          refine o_mv (dt 1 (fun _ m => m)) rfl rfl ?_
          refine o_idx (dt 2 (fun _ m => m)) 1 rfl reads_own rfl rfl rfl el50 ?_; intro e25 h26
          refine o_lds (dt 3 (fun _ m => m)) (enc := encBool) (u := (.bool e25)) 1 rfl reads_own flelBool rfl h26 rfl rfl ty4 rfl ?_
          refine o_mv (dt 4 (fun _ m => m)) rfl rfl ?_
          refine o_mv (dt 5 (fun _ m => m)) rfl rfl ?_
          refine o_idx (dt 6 (fun _ m => m)) 0 rfl reads_own rfl rfl rfl el50 ?_; intro e27 h28
          refine o_lds (dt 7 (fun _ m => m)) (enc := encBool) (u := (.bool e27)) 0 rfl reads_own flelBool rfl h28 rfl rfl ty4 rfl ?_
          refine o_neqB (dt 8 (fun _ m => m)) und4 rfl rfl rfl ?_
          refine o_mv (dt 9 (fun _ m => m)) rfl rfl ?_
          refine st_sp (dj := 46) rfl ?_ ?_
          · refine dsk 10 (fun _ m => m) rfl (by kernel_rfl) rfl rfl rfl rfl ?_
            refine dsk 11 (fun _ m => m) rfl (by kernel_rfl) rfl rfl rfl rfl ?_
            refine dsk 12 (fun _ m => m) rfl (by kernel_rfl) rfl rfl rfl rfl ?_
            refine dsk 13 (fun _ m => m) rfl (by kernel_rfl) rfl rfl rfl rfl ?_
            refine dsk 14 (fun _ m => m) rfl (by kernel_rfl) rfl rfl rfl rfl ?_
            refine dsk 15 (fun _ m => m) rfl (by kernel_rfl) rfl rfl rfl rfl ?_
            refine dsk 16 (fun _ m => m) rfl (by kernel_rfl) rfl rfl rfl rfl ?_
            refine dsk 17 (fun _ m => m) rfl (by kernel_rfl) rfl rfl rfl rfl ?_
            refine dsk 18 (fun _ m => m) rfl (by kernel_rfl) rfl rfl rfl rfl ?_
            refine dsk 19 (fun _ m => m) rfl (by kernel_rfl) rfl rfl rfl rfl ?_
            refine dsk 20 (fun _ m => m) rfl (by kernel_rfl) rfl rfl rfl rfl ?_
            refine o_pickT (dt 21 (fun _ m => m)) rfl rfl rfl ?_
            refine d_done (by kernel_rfl) ?_
            exact l_join true (fun a w hE hm => ⟨hE.sub ⟨rfl, rfl, rfl, rfl, rfl, rfl, trivial⟩, (hm.pick [0, 1, 2, 3, 4, 5] rfl)⟩)
          · refine o_mv (dtg 10 (fun _ m => m)) rfl rfl ?_
            refine o_mv (dtg 11 (fun _ m => m)) rfl rfl ?_
            refine o_idx (dtg 12 (fun _ m => m)) 1 rfl reads_own rfl rfl rfl el50 ?_; intro e29 h30
            refine o_lds (dtg 13 (fun _ m => m)) (enc := encBool) (u := (.bool e29)) 1 rfl reads_own flelBool rfl h30 rfl rfl ty4 rfl ?_
            refine o_ldc (dtg 14 (fun _ m => m)) (v := (.agg #[(.slice a14 l15 q16), (.bool r3.xAccept)])) 2 rfl rfl rfl ty25 rfl ?_
            refine o_mv (dtg 15 (fun _ m => m)) rfl rfl ?_
            refine o_mv (dtg 16 (fun _ m => m)) rfl rfl ?_
            refine o_idx (dtg 17 (fun _ m => m)) 4 rfl reads_own rfl rfl rfl el26 ?_; intro e31 h32
            refine o_lds (dtg 18 (fun _ m => m)) (enc := encGPacket) (u := (.agg #[(.int .i64 e31.xFrom), (.int .i64 e31.xTo), (.int .i64 e31.xPort), (.int .i64 e31.xProto)])) 4 rfl reads_own flelGPacket rfl h32 rfl rfl ty40 rfl ?_
            refine d_oneg (i := 19) rfl rfl rfl (by kernel_rfl) (o_callP (vs := [(.agg #[(.slice a14 l15 q16), (.bool r3.xAccept)]), (.agg #[(.int .i64 e31.xFrom), (.int .i64 e31.xTo), (.int .i64 e31.xPort), (.int .i64 e31.xProto)])]) Tryd.call27 rfl rfl (by intro w m h; exact (w_impl_Judge (F := allB [] w) (s_0 := r3) (p_1 := e31) allB_ok (m.rd0 3 rfl reads_dp) (m.rd0 5 rfl (reads_snap hgl0)) h).mono (fun _ _ k => ret_free (fun r u => fr_nil) k)) ?_); rintro r33 _
            refine d_and (fun _ m => m) ?_
            refine o_neqB (dtg 20 (fun _ m => m)) und4 rfl rfl rfl ?_
            refine o_pickF (dt 21 (fun _ m => m)) rfl rfl rfl ?_
            refine d_done (by kernel_rfl) ?_
            exact l_join (!(decide (e29 = r33))) (fun a w hE hm => ⟨hE.sub ⟨rfl, rfl, rfl, rfl, rfl, rfl, trivial⟩, (hm.pick [0, 1, 2, 3, 4, 5] rfl)⟩)
        · rintro t94 a w ⟨hE, hm⟩ h
          refine nx_of hE hm h ?_
          clear hE hm h
          refine c_cond rfl ?_ ?_
          · refine c_seq ?_
            refine c_region ?_
            refine o_as st rfl rfl ?_
            refine c_nil ?_
            refine l_then ?_
            refine c_ret ?_
            refine b_ret ?_
            refine l_ret ?_
            refine l_ret ?_
            refine b_ret ?_
            refine l_ret ?_
            exact l_end1 Tryd.results7 false () (rv_t rfl) (fun _ _ => NewCh.nil _ _ _ _)
          · refine c_skip ?_
            refine b_norm ?_
            refine l_then ?_
            refine c_region ?_
            refine o_mv st rfl rfl ?_
            refine o_add st rfl rfl rfl ?_; intro t96
            refine o_as st rfl rfl ?_
            refine c_nil ?_
            exact l_join t96 (fun a w hE hm => ⟨hE.sub ⟨rfl, rfl, rfl, rfl, rfl, trivial⟩, (hm.pick [0, 1, 2, 3, 4, 5] rfl)⟩)
      · refine c_exit ?_
        refine l_exit ?_
        refine l_exit ?_
        refine b_exit ?_
        refine l_then ?_
        refine c_seq ?_
        refine c_region ?_
        refine stw (o_callP (vs := []) Tryd.call14 rfl rfl (by intro w m h; exact (w_laws_alive (F := allB [] w) allB_ok h).mono (fun _ _ k => ret_free (fun r u => fr_nil) k)) ?_); rintro r97 _
        refine o_as st rfl rfl ?_
        refine c_nil ?_
        refine l_then ?_
        refine c_ret ?_
        exact l_end1 Tryd.results7 r97 () (rv_t rfl) (fun _ _ => NewCh.nil _ _ _ _)

end

end Go.Proofs.YtigdghiknfehhaaDoor
