/- Texts of this seat, put together. -/
import Derived.Test.YtlcjkhnamgklgaaDoorMP32
set_option linter.unusedSimpArgs false
set_option linter.unusedVariables false
namespace Go.Proofs.YtlcjkhnamgklgaaDoor
section
open Go.RowKit
set_option maxRecDepth 100000 in
set_option maxHeartbeats 8000000 in
theorem w_laws_FnExactReadRuleset {w0 : World} {F : Nat → Prop} {v1 : Value} {aLines_0 : (List ByteArray)} {κ : Bool → Prop} (hF : ∀ b, F b → b < w0.heap.size ∧ ¬ feet [] b) (hv1 : Sl elStr F w0 v1 aLines_0) (hgl0 : Sl elGFieldShape F w0 (.slice (some ⟨0, 0, none⟩) 4 4) gl_impl_fieldShapes) (hgl1 : Tb F w0) (h : L_laws_FnExactReadRuleset aLines_0 κ) :
    Calls Tryd.prog 6 #[v1] w0 (Ret [] F w0 κ (fun (r : Bool) (u : Unit) => (.bool r)) (fun (r : Bool) (u : Unit) => [])) := by
  refine enterS (args := [v1]) [] hF (Given.nil _ _) Tryd.func6 rfl Tryd.ntmps6 rfl h ?_
  clear h hF
  refine c_seq ?_
  refine c_region ?_
  refine o_as st rfl rfl ?_
  refine c_nil ?_
  refine l_then ?_
  refine c_seq ?_
  refine c_region ?_
  refine o_as st rfl rfl ?_
  refine c_nil ?_
  refine l_then ?_
  refine c_seq ?_
  refine c_region ?_
  refine o_mv st rfl rfl ?_
  refine o_mv st rfl rfl ?_
  refine stw (o_callP (vs := [v1, (.int .i64 1048576)]) Tryd.call18 rfl rfl (by intro w m h; exact (w_laws_szStringS (F := allB [] w) (a_0 := aLines_0) (left_1 := 1048576) allB_ok (m.rd0 0 rfl (reads_snap hv1)) h).mono (fun _ _ k => ret_free (fun r u => fr_nil) k)) ?_); rintro r3 _
  refine o_as st rfl rfl ?_
  refine c_nil ?_
  refine l_then ?_
  refine c_seq ?_
  refine c_seq ?_
  refine c_region ?_
  refine o_mv st rfl rfl ?_
  refine o_lss st rfl rfl rfl ?_
  refine c_nil ?_
  refine l_then ?_
  refine c_cond rfl ?_ ?_
  · refine c_seq ?_
    refine c_region ?_
    refine o_as st rfl rfl ?_
    refine c_nil ?_
    refine l_then ?_
    refine c_ret ?_
    refine l_ret ?_
    exact l_end1 Tryd.results6 true () (rv_t rfl) (fun _ _ => NewCh.nil _ _ _ _)
  · refine c_skip ?_
    refine l_then ?_
    refine c_seq ?_
    refine c_region ?_
    refine o_mv st rfl rfl ?_
    refine stw (o_callP (vs := [v1]) Tryd.call20 rfl rfl (by intro w m h; exact (w_laws_toStringS (F := allB [] w) (a_0 := aLines_0) allB_ok (m.rd0 0 rfl (reads_snap hv1)) h).mono (fun _ _ k => ret_free (fun r u => (fr_cons (free_own flelStr) fr_nil)) k)) ?_); rintro r4 v5
    refine stw (o_callP (vs := [v5]) Tryd.call28 rfl rfl (by intro w m h; exact (w_spec_ReadRuleset (F := allB [] w) (lines_0 := r4) allB_ok (m.rd0 0 rfl reads_own) h).mono (fun _ _ k => ret_free (fun r u => (fr_cons free_dp fr_nil)) k)) ?_); rintro ⟨r7, r11⟩ ⟨v8, bb9⟩
    refine o_mv st rfl rfl ?_
    refine o_ext st (vs := [(.agg #[v8, (.bool r7.xAccept)]), (.bool r11)]) rfl rfl rfl ?_
    refine o_ext st (vs := [(.agg #[v8, (.bool r7.xAccept)]), (.bool r11)]) rfl rfl rfl ?_
    refine stw (o_alloc rfl [(.slice none 0 0), (.bool false)] zero30 ?_); intro b12
    refine nx_dp 1 rfl ?_; rintro a14 l15 q16 rfl
    refine stw (o_stc (cs' := [(.slice a14 l15 q16), (.bool r7.xAccept)]) 0 rfl rfl rfl ty30 rfl rfl rfl rfl ?_)
    refine o_as st rfl rfl ?_
    refine c_nil ?_
    refine l_then ?_
    refine c_seq ?_
    refine c_region ?_
    refine o_mv st rfl rfl ?_
    refine stw (o_callP (vs := [v1]) Tryd.call20 rfl rfl (by intro w m h; exact (w_laws_toStringS (F := allB [] w) (a_0 := aLines_0) allB_ok (m.rd0 3 rfl (reads_snap hv1)) h).mono (fun _ _ k => ret_free (fun r u => (fr_cons (free_own flelStr) fr_nil)) k)) ?_); rintro r17 v18
    refine o_as st rfl rfl ?_
    refine c_nil ?_
    refine l_then ?_
    refine c_seq ?_
    refine c_region ?_
    refine o_mv st rfl rfl ?_
    refine stw (o_callP (vs := [v18]) Tryd.call26 rfl rfl (by intro w m h; exact (w_impl_ReadRuleset (F := allB [] w) (lines_0 := r17) allB_ok (m.rd0 0 rfl reads_own) (m.rd0 4 rfl (reads_snap hgl0)) ((hgl1.of (m.get (i := 4) rfl)).mono fz_ok0) h).mono (fun _ _ k => ret_free (fun r u => (fr_cons free_dp fr_nil)) k)) ?_); rintro ⟨r20, r24⟩ ⟨v21, bb22⟩
    refine o_mv st rfl rfl ?_
    refine o_ext st (vs := [(.agg #[v21, (.bool r20.xAccept)]), (.bool r24)]) rfl rfl rfl ?_
    refine o_ext st (vs := [(.agg #[v21, (.bool r20.xAccept)]), (.bool r24)]) rfl rfl rfl ?_
    refine stw (o_alloc rfl [(.slice none 0 0), (.bool false)] zero30 ?_); intro b25
    refine nx_dp 1 rfl ?_; rintro a27 l28 q29 rfl
    refine stw (o_stc (cs' := [(.slice a27 l28 q29), (.bool r20.xAccept)]) 0 rfl rfl rfl ty30 rfl rfl rfl rfl ?_)
    refine o_as st rfl rfl ?_
    refine c_nil ?_
    refine l_then ?_
    refine c_seq ?_
    refine c_join (σ := Bool) (fun (t91 : Bool) (a : Act) (w : World) => Has 96 [(0, v1), (4, (.pointer (some ⟨b12, 0, none⟩))), (5, (.bool r11)), (6, v18), (7, (.pointer (some ⟨b25, 0, none⟩))), (8, (.bool r24)), (40, (.bool t91))] a ∧ Mem (gB F [] w0) (feet []) w0 [cellCh b25 [(.slice a27 l28 q29), (.bool r20.xAccept)] 30, dpCh (dSl dGRule 54) 50 bb22 (.slice a27 l28 q29) r20.xChains, ownCh elStr 9 v18 r17, cellCh b12 [(.slice a14 l15 q16), (.bool r7.xAccept)] 30, dpCh (dSl dGRule 54) 50 bb9 (.slice a14 l15 q16) r7.xChains, snapCh w0 F] w) ?_ ?_
    · intro k92
      refine c_region ?_
      refine o_ldc st (v := (.agg #[(.slice a27 l28 q29), (.bool r20.xAccept)])) 0 rfl rfl rfl ty30 rfl ?_
      refine o_ldc st (v := (.agg #[(.slice a14 l15 q16), (.bool r7.xAccept)])) 3 rfl rfl rfl ty30 rfl ?_
      refine stw (o_callP (vs := [(.agg #[(.slice a27 l28 q29), (.bool r20.xAccept)]), (.agg #[(.slice a14 l15 q16), (.bool r7.xAccept)])]) Tryd.call14 rfl rfl (by intro w m h; exact (w_laws_eqRuleset (F := allB [] w) (a_0 := r20) (b_1 := r7) allB_ok (m.rd0 1 rfl reads_dp) (m.rd0 4 rfl reads_dp) h).mono (fun _ _ k => ret_free (fun r u => fr_nil) k)) ?_); rintro r30 _
      refine o_not st rfl rfl ?_
      refine o_mv st rfl rfl ?_
      refine st_sp (dj := 36) rfl ?_ ?_
      · refine st_s rfl rfl rfl rfl ?_
        refine st_s rfl rfl rfl rfl ?_
        refine st_s rfl rfl rfl rfl ?_
        refine o_pickT st rfl rfl rfl ?_
        refine c_nil ?_
        exact l_join true (fun a w hE hm => ⟨hE.sub ⟨rfl, rfl, rfl, rfl, rfl, rfl, rfl, trivial⟩, (hm.pick [0, 1, 2, 3, 4, 6] rfl)⟩)
      · refine o_mv (st_g rfl rfl) rfl rfl ?_
        refine o_mv (st_g rfl rfl) rfl rfl ?_
        refine o_neqB (st_g rfl rfl) und4 rfl rfl rfl ?_
        refine o_pickF st rfl rfl rfl ?_
        refine c_nil ?_
        exact l_join (!(decide (r24 = r11))) (fun a w hE hm => ⟨hE.sub ⟨rfl, rfl, rfl, rfl, rfl, rfl, rfl, trivial⟩, (hm.pick [0, 1, 2, 3, 4, 6] rfl)⟩)
    · rintro t91 a w ⟨hE, hm⟩ h
      refine nx_of hE hm h ?_
      clear hE hm h
      refine c_cond rfl ?_ ?_
      · refine c_seq ?_
        refine c_region ?_
        refine o_as st rfl rfl ?_
        refine c_nil ?_
        refine l_then ?_
        refine c_ret ?_
        refine l_ret ?_
        exact l_end1 Tryd.results6 false () (rv_t rfl) (fun _ _ => NewCh.nil _ _ _ _)
      · refine c_skip ?_
        refine l_then ?_
        refine c_seq ?_
        refine c_seq ?_
        refine c_region ?_
        refine o_mv st rfl rfl ?_
        refine o_mv st rfl rfl ?_
        refine stw (o_callP (vs := [v1]) Tryd.call20 rfl rfl (by intro w m h; exact (w_laws_toStringS (F := allB [] w) (a_0 := aLines_0) allB_ok (m.rd0 5 rfl (reads_snap hv1)) h).mono (fun _ _ k => ret_free (fun r u => (fr_cons (free_own flelStr) fr_nil)) k)) ?_); rintro r93 v94
        refine stw (o_callP (vs := [v18, v94]) Tryd.call13 rfl rfl (by intro w m h; exact (w_laws_eqStringS (F := allB [] w) (a_0 := r17) (b_1 := r93) allB_ok (m.rd0 3 rfl reads_own) (m.rd0 0 rfl reads_own) h).mono (fun _ _ k => ret_free (fun r u => fr_nil) k)) ?_); rintro r96 _
        refine o_not st rfl rfl ?_
        refine c_nil ?_
        refine l_then ?_
        refine c_cond rfl ?_ ?_
        · refine c_seq ?_
          refine c_region ?_
          refine o_as st rfl rfl ?_
          refine c_nil ?_
          refine l_then ?_
          refine c_ret ?_
          refine l_ret ?_
          exact l_end1 Tryd.results6 false () (rv_t rfl) (fun _ _ => NewCh.nil _ _ _ _)
        · refine c_skip ?_
          refine l_then ?_
          refine c_seq ?_
          refine c_region ?_
          refine o_as st rfl rfl ?_
          refine c_nil ?_
          refine l_then ?_
          refine c_seq ?_
          refine c_region ?_
          refine o_mv st rfl rfl ?_
          refine o_mv st rfl rfl ?_
          refine pk [3, 0, 1, 2, 4, 5, 6] rfl ?_
          refine stw (o_call (vs := [v18, (.int .i64 1)]) (M0 := [ownCh elStr 9 v18 r17]) Tryd.call16 rfl rfl (by intro w m h; exact (w_laws_markStringS (F := allB [ownCh elStr 9 v18 r17] w) (a_0 := r17) (k_1 := 1) allB_ok m.given h).mono (fun _ _ k => ret_free (fun r u => (fr_cons (free_own flelStr) fr_nil)) k)) ?_); rintro ⟨r97, r98⟩ _
          refine o_as st rfl rfl ?_
          refine c_nil ?_
          refine l_then ?_
          refine c_seq ?_
          refine c_join (σ := Bool) (fun (t161 : Bool) (a : Act) (w : World) => Has 96 [(0, v1), (4, (.pointer (some ⟨b12, 0, none⟩))), (5, (.bool r11)), (7, (.pointer (some ⟨b25, 0, none⟩))), (61, (.bool t161))] a ∧ Mem (gB F [] w0) (feet []) w0 [cellCh b25 [(.slice a27 l28 q29), (.bool r20.xAccept)] 30, dpCh (dSl dGRule 54) 50 bb22 (.slice a27 l28 q29) r20.xChains, cellCh b12 [(.slice a14 l15 q16), (.bool r7.xAccept)] 30, dpCh (dSl dGRule 54) 50 bb9 (.slice a14 l15 q16) r7.xChains, snapCh w0 F] w) ?_ ?_
          · intro k162
            refine c_region ?_
            refine o_mv st rfl rfl ?_
            refine o_lss st rfl rfl rfl ?_
            refine o_mv st rfl rfl ?_
            refine st_sp (dj := 51) rfl ?_ ?_
            · refine st_s rfl rfl rfl rfl ?_
              refine st_s rfl rfl rfl rfl ?_
              refine st_s rfl rfl rfl rfl ?_
              refine st_s rfl rfl rfl rfl ?_
              refine o_pickT st rfl rfl rfl ?_
              refine o_mv st rfl rfl ?_
              refine st_s rfl rfl rfl rfl ?_
              refine st_s rfl rfl rfl rfl ?_
              refine st_s rfl rfl rfl rfl ?_
              refine o_pickT st rfl rfl rfl ?_
              refine c_nil ?_
              exact l_join true (fun a w hE hm => ⟨hE.sub ⟨rfl, rfl, rfl, rfl, rfl, trivial⟩, (hm.pick [2, 3, 4, 5, 6] rfl)⟩)
            · refine o_ldc (st_g rfl rfl) (v := (.agg #[(.slice a27 l28 q29), (.bool r20.xAccept)])) 2 rfl rfl rfl ty30 rfl ?_
              refine o_ldc (st_g rfl rfl) (v := (.agg #[(.slice a14 l15 q16), (.bool r7.xAccept)])) 4 rfl rfl rfl ty30 rfl ?_
              refine st_gw rfl rfl (o_callP (vs := [(.agg #[(.slice a27 l28 q29), (.bool r20.xAccept)]), (.agg #[(.slice a14 l15 q16), (.bool r7.xAccept)])]) Tryd.call14 rfl rfl (by intro w m h; exact (w_laws_eqRuleset (F := allB [] w) (a_0 := r20) (b_1 := r7) allB_ok (m.rd0 3 rfl reads_dp) (m.rd0 5 rfl reads_dp) h).mono (fun _ _ k => ret_free (fun r u => fr_nil) k)) ?_); rintro r100 _
              refine o_not (st_g rfl rfl) rfl rfl ?_
              refine o_pickF st rfl rfl rfl ?_
              refine o_mv st rfl rfl ?_
              refine st_sp (dj := 57) rfl ?_ ?_
              · refine st_s rfl rfl rfl rfl ?_
                refine st_s rfl rfl rfl rfl ?_
                refine st_s rfl rfl rfl rfl ?_
                refine o_pickT st rfl rfl rfl ?_
                refine c_nil ?_
                exact l_join true (fun a w hE hm => ⟨hE.sub ⟨rfl, rfl, rfl, rfl, rfl, trivial⟩, (hm.pick [2, 3, 4, 5, 6] rfl)⟩)
              · refine o_mv (st_g rfl rfl) rfl rfl ?_
                refine o_mv (st_g rfl rfl) rfl rfl ?_
                refine o_neqB (st_g rfl rfl) und4 rfl rfl rfl ?_
                refine o_pickF st rfl rfl rfl ?_
                refine c_nil ?_
                exact l_join (!(decide (r24 = r11))) (fun a w hE hm => ⟨hE.sub ⟨rfl, rfl, rfl, rfl, rfl, trivial⟩, (hm.pick [2, 3, 4, 5, 6] rfl)⟩)
          · rintro t161 a w ⟨hE, hm⟩ h
            refine nx_of hE hm h ?_
            clear hE hm h
            refine c_cond rfl ?_ ?_
            · refine c_seq ?_
              refine c_region ?_
              refine o_as st rfl rfl ?_
              refine c_nil ?_
              refine l_then ?_
              refine c_ret ?_
              refine l_ret ?_
              exact l_end1 Tryd.results6 false () (rv_t rfl) (fun _ _ => NewCh.nil _ _ _ _)
            · refine c_skip ?_
              refine l_then ?_
              refine c_seq ?_
              refine c_region ?_
              refine o_as st rfl rfl ?_
              refine c_nil ?_
              refine l_then ?_
              refine c_seq ?_
              refine c_region ?_
              refine o_ldc st (v := (.agg #[(.slice a27 l28 q29), (.bool r20.xAccept)])) 0 rfl rfl rfl ty30 rfl ?_
              refine o_mv st rfl rfl ?_
              refine pk [1, 0, 2, 3, 4] rfl ?_
              refine stw (o_call (vs := [(.agg #[(.slice a27 l28 q29), (.bool r20.xAccept)]), (.int .i64 1)]) (M0 := [dpCh (dSl dGRule 54) 50 bb22 (.slice a27 l28 q29) r20.xChains]) Tryd.call15 rfl rfl (by intro w m h; exact (w_laws_markRuleset (F := allB [dpCh (dSl dGRule 54) 50 bb22 (.slice a27 l28 q29) r20.xChains] w) (a_0_Chains := r20.xChains) (a_0_Accept := r20.xAccept) (k_1 := 1) allB_ok m.given h).mono (fun _ _ k => ret_free (fun r u => (fr_cons free_dp fr_nil)) k)) ?_); rintro ⟨r163, r164⟩ bb165
              refine o_as st rfl rfl ?_
              refine c_nil ?_
              refine l_then ?_
              refine c_seq ?_
              refine c_region ?_
              refine o_as st rfl rfl ?_
              refine c_nil ?_
              refine l_then ?_
              refine c_seq ?_
              refine c_region ?_
              refine o_ldc st (v := (.agg #[(.slice a27 l28 q29), (.bool r20.xAccept)])) 1 rfl rfl rfl ty30 rfl ?_
              refine o_mv st rfl rfl ?_
              refine stw (o_callP (vs := [(.agg #[(.slice a27 l28 q29), (.bool r20.xAccept)]), (.int .i64 1)]) Tryd.call29 rfl rfl (by intro w m h; exact (w_laws_heldRuleset (F := allB [] w) (a_0 := (GRuleset.mk r164 r20.xAccept)) (k_1 := 1) allB_ok (m.rd0 0 rfl reads_dp) h).mono (fun _ _ k => ret_free (fun r u => fr_nil) k)) ?_); rintro r167 _
              refine o_as st rfl rfl ?_
              refine c_nil ?_
              refine l_then ?_
              refine c_seq ?_
              refine c_seq ?_
              refine c_region ?_
              refine o_mv st rfl rfl ?_
              refine o_lss st rfl rfl rfl ?_
              refine c_nil ?_
              refine l_then ?_
              refine c_cond rfl ?_ ?_
              · refine c_seq ?_
                refine c_region ?_
                refine o_as st rfl rfl ?_
                refine c_nil ?_
                refine l_then ?_
                refine c_ret ?_
                refine l_ret ?_
                exact l_end1 Tryd.results6 false () (rv_t rfl) (fun _ _ => NewCh.nil _ _ _ _)
              · refine c_skip ?_
                refine l_then ?_
                refine c_seq ?_
                refine c_seq ?_
                refine c_region ?_
                refine o_mv st rfl rfl ?_
                refine o_mv st rfl rfl ?_
                refine o_neq st und3 rfl rfl rfl ?_
                refine c_nil ?_
                refine l_then ?_
                refine c_cond rfl ?_ ?_
                · refine c_seq ?_
                  refine c_region ?_
                  refine o_as st rfl rfl ?_
                  refine c_nil ?_
                  refine l_then ?_
                  refine c_ret ?_
                  refine l_ret ?_
                  exact l_end1 Tryd.results6 false () (rv_t rfl) (fun _ _ => NewCh.nil _ _ _ _)
                · refine c_skip ?_
                  refine l_then ?_
                  refine c_seq ?_
                  refine c_region ?_
                  refine o_mv st rfl rfl ?_
                  refine stw (o_callP (vs := [v1]) Tryd.call20 rfl rfl (by intro w m h; exact (w_laws_toStringS (F := allB [] w) (a_0 := aLines_0) allB_ok (m.rd0 4 rfl (reads_snap hv1)) h).mono (fun _ _ k => ret_free (fun r u => (fr_cons (free_own flelStr) fr_nil)) k)) ?_); rintro r168 v169
                  refine stw (o_callP (vs := [v169]) Tryd.call26 rfl rfl (by intro w m h; exact (w_impl_ReadRuleset (F := allB [] w) (lines_0 := r168) allB_ok (m.rd0 0 rfl reads_own) (m.rd0 5 rfl (reads_snap hgl0)) ((hgl1.of (m.get (i := 5) rfl)).mono fz_ok0) h).mono (fun _ _ k => ret_free (fun r u => (fr_cons free_dp fr_nil)) k)) ?_); rintro ⟨r171, r175⟩ ⟨v172, bb173⟩
                  refine o_mv st rfl rfl ?_
                  refine o_ext st (vs := [(.agg #[v172, (.bool r171.xAccept)]), (.bool r175)]) rfl rfl rfl ?_
                  refine o_ext st (vs := [(.agg #[v172, (.bool r171.xAccept)]), (.bool r175)]) rfl rfl rfl ?_
                  refine stw (o_alloc rfl [(.slice none 0 0), (.bool false)] zero30 ?_); intro b176
                  refine nx_dp 1 rfl ?_; rintro a178 l179 q180 rfl
                  refine stw (o_stc (cs' := [(.slice a178 l179 q180), (.bool r171.xAccept)]) 0 rfl rfl rfl ty30 rfl rfl rfl rfl ?_)
                  refine o_as st rfl rfl ?_
                  refine c_nil ?_
                  refine l_then ?_
                  refine c_seq ?_
                  refine c_join (σ := Bool) (fun (t242 : Bool) (a : Act) (w : World) => Has 96 [(7, (.pointer (some ⟨b25, 0, none⟩))), (10, (.int .i64 r163)), (87, (.bool t242))] a ∧ Mem (gB F [] w0) (feet []) w0 [dpCh (dSl dGRule 54) 50 bb165 (.slice a27 l28 q29) r164, cellCh b25 [(.slice a27 l28 q29), (.bool r20.xAccept)] 30, snapCh w0 F] w) ?_ ?_
                  · intro k243
                    refine c_region ?_
                    refine o_ldc st (v := (.agg #[(.slice a178 l179 q180), (.bool r171.xAccept)])) 0 rfl rfl rfl ty30 rfl ?_
                    refine o_ldc st (v := (.agg #[(.slice a14 l15 q16), (.bool r7.xAccept)])) 5 rfl rfl rfl ty30 rfl ?_
                    refine stw (o_callP (vs := [(.agg #[(.slice a178 l179 q180), (.bool r171.xAccept)]), (.agg #[(.slice a14 l15 q16), (.bool r7.xAccept)])]) Tryd.call14 rfl rfl (by intro w m h; exact (w_laws_eqRuleset (F := allB [] w) (a_0 := r171) (b_1 := r7) allB_ok (m.rd0 1 rfl reads_dp) (m.rd0 6 rfl reads_dp) h).mono (fun _ _ k => ret_free (fun r u => fr_nil) k)) ?_); rintro r181 _
                    refine o_not st rfl rfl ?_
                    refine o_mv st rfl rfl ?_
                    refine st_sp (dj := 83) rfl ?_ ?_
                    · refine st_s rfl rfl rfl rfl ?_
                      refine st_s rfl rfl rfl rfl ?_
                      refine st_s rfl rfl rfl rfl ?_
                      refine o_pickT st rfl rfl rfl ?_
                      refine c_nil ?_
                      exact l_join true (fun a w hE hm => ⟨hE.sub ⟨rfl, rfl, rfl, trivial⟩, (hm.pick [3, 4, 7] rfl)⟩)
                    · refine o_mv (st_g rfl rfl) rfl rfl ?_
                      refine o_mv (st_g rfl rfl) rfl rfl ?_
                      refine o_neqB (st_g rfl rfl) und4 rfl rfl rfl ?_
                      refine o_pickF st rfl rfl rfl ?_
                      refine c_nil ?_
                      exact l_join (!(decide (r175 = r11))) (fun a w hE hm => ⟨hE.sub ⟨rfl, rfl, rfl, trivial⟩, (hm.pick [3, 4, 7] rfl)⟩)
                  · rintro t242 a w ⟨hE, hm⟩ h
                    refine nx_of hE hm h ?_
                    clear hE hm h
                    refine c_cond rfl ?_ ?_
                    · refine c_seq ?_
                      refine c_region ?_
                      refine o_as st rfl rfl ?_
                      refine c_nil ?_
                      refine l_then ?_
                      refine c_ret ?_
                      refine l_ret ?_
                      exact l_end1 Tryd.results6 false () (rv_t rfl) (fun _ _ => NewCh.nil _ _ _ _)
                    · refine c_skip ?_
                      refine l_then ?_
                      refine c_seq ?_
                      refine c_region ?_
                      refine o_as st rfl rfl ?_
                      refine c_nil ?_
                      refine l_then ?_
                      refine c_seq ?_
                      refine c_region ?_
                      refine o_ldc st (v := (.agg #[(.slice a27 l28 q29), (.bool r20.xAccept)])) 1 rfl rfl rfl ty30 rfl ?_
                      refine o_mv st rfl rfl ?_
                      refine stw (o_callP (vs := [(.agg #[(.slice a27 l28 q29), (.bool r20.xAccept)]), (.int .i64 1)]) Tryd.call29 rfl rfl (by intro w m h; exact (w_laws_heldRuleset (F := allB [] w) (a_0 := (GRuleset.mk r164 r20.xAccept)) (k_1 := 1) allB_ok (m.rd0 0 rfl reads_dp) h).mono (fun _ _ k => ret_free (fun r u => fr_nil) k)) ?_); rintro r244 _
                      refine o_as st rfl rfl ?_
                      refine c_nil ?_
                      refine l_then ?_
                      refine c_seq ?_
                      refine c_seq ?_
                      refine c_region ?_
                      refine o_mv st rfl rfl ?_
                      refine o_lss st rfl rfl rfl ?_
                      refine c_nil ?_
                      refine l_then ?_
                      refine c_cond rfl ?_ ?_
                      · refine c_seq ?_
                        refine c_region ?_
                        refine o_as st rfl rfl ?_
                        refine c_nil ?_
                        refine l_then ?_
                        refine c_ret ?_
                        refine l_ret ?_
                        exact l_end1 Tryd.results6 false () (rv_t rfl) (fun _ _ => NewCh.nil _ _ _ _)
                      · refine c_skip ?_
                        refine l_then ?_
                        refine c_seq ?_
                        refine c_seq ?_
                        refine c_region ?_
                        refine o_mv st rfl rfl ?_
                        refine o_mv st rfl rfl ?_
                        refine o_neq st und3 rfl rfl rfl ?_
                        refine c_nil ?_
                        refine l_then ?_
                        refine c_cond rfl ?_ ?_
                        · refine c_seq ?_
                          refine c_region ?_
                          refine o_as st rfl rfl ?_
                          refine c_nil ?_
                          refine l_then ?_
                          refine c_ret ?_
                          refine l_ret ?_
                          exact l_end1 Tryd.results6 false () (rv_t rfl) (fun _ _ => NewCh.nil _ _ _ _)
                        · refine c_skip ?_
                          refine l_then ?_
                          refine c_seq ?_
                          refine c_region ?_
                          refine o_as st rfl rfl ?_
                          refine c_nil ?_
                          refine l_then ?_
                          refine c_ret ?_
                          exact l_end1 Tryd.results6 true () (rv_t rfl) (fun _ _ => NewCh.nil _ _ _ _)



end

end Go.Proofs.YtlcjkhnamgklgaaDoor
