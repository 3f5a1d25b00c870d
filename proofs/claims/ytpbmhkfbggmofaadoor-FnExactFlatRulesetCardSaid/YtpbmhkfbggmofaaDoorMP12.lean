/- Texts of this seat, put together. -/
import Derived.Test.YtpbmhkfbggmofaaDoorMP1
set_option linter.unusedSimpArgs false
set_option linter.unusedVariables false
set_option linter.unusedSectionVars false
namespace Go.Proofs.YtpbmhkfbggmofaaDoor
section
open Go.RowKit
set_option maxRecDepth 100000 in
set_option maxHeartbeats 8000000 in
theorem w_impl_BoxTests {w0 : World} {F : Nat → Prop} {v1 : Value} {b_0 : GBox} {κ : ((List GTest) × Bool) → Prop} (hF : ∀ b, F b → b < w0.heap.size ∧ ¬ feet [] b) (hv1 : Sl (elSl elGSpan) F w0 v1 b_0.xSides) (hgl0 : Sl elGFieldShape F w0 (.slice (some ⟨0, 0, none⟩) 4 4) gl_impl_fieldShapes) (h : L_impl_BoxTests b_0 κ) :
    Calls Tryd.prog 44 #[(.agg #[v1])] w0 (Ret [] F w0 κ (fun (r : ((List GTest) × Bool)) (u : Value) => .tuple #[u, (.bool r.2)]) (fun (r : ((List GTest) × Bool)) (u : Value) => [ownCh elGTest 125 u r.1])) := by
  refine enterS (args := [(.agg #[v1])]) [] hF (Given.nil _ _) Tryd.func44 rfl Tryd.ntmps44 rfl h ?_
  clear h hF
  refine c_seq ?_
  refine c_region ?_
  obtain ⟨a3, l4, q5, hs_⟩ := sl_val hv1; subst hs_
  refine stw (o_box rfl rfl [(.slice a3 l4 q5)] rfl ?_); intro b6
  refine stw (o_asn elGTest 125 rfl rfl ?_)
  refine o_as st rfl rfl ?_
  refine c_nil ?_
  refine l_then ?_
  refine c_seq ?_
  refine c_join (σ := Bool) (fun (t80 : Bool) (a : Act) (w : World) => Has 93 [(1, (.pointer (some ⟨b6, 0, none⟩))), (15, (.bool t80))] a ∧ Mem (gB F [] w0) (feet []) w0 [cellCh b6 [(.slice a3 l4 q5)] 85, snapCh w0 F] w) ?_ ?_
  · intro k81
    refine c_region ?_
    refine o_ldc st (v := (.agg #[(.slice a3 l4 q5)])) 1 rfl rfl rfl ty85 rfl ?_
    refine stw (o_callP (vs := [(.agg #[(.slice a3 l4 q5)])]) Tryd.call68 rfl rfl (by intro w m h; exact (w_impl_BoxValid (F := allB [] w) (b_0 := b_0) allB_ok (m.rd0 2 rfl (reads_snap hv1)) (m.rd0 2 rfl (reads_snap hgl0)) h).mono (fun _ _ k => ret_free (fun r u => fr_nil) k)) ?_); rintro r9 _
    refine o_not st rfl rfl ?_
    refine o_mv st rfl rfl ?_
    refine st_sp (dj := 11) rfl ?_ ?_
    · refine st_s rfl rfl rfl rfl ?_
      refine st_s rfl rfl rfl rfl ?_
      refine st_s rfl rfl rfl rfl ?_
      refine o_pickT st rfl rfl rfl ?_
      refine c_nil ?_
      exact l_join true (fun a w hE hm => ⟨hE.sub ⟨rfl, rfl, trivial⟩, (hm.pick [1, 2] rfl)⟩)
    · refine o_ldc (st_g rfl rfl) (v := (.agg #[(.slice a3 l4 q5)])) 1 rfl rfl rfl ty85 rfl ?_
      refine st_gw rfl rfl (o_callP (vs := [(.agg #[(.slice a3 l4 q5)])]) Tryd.call69 rfl rfl (by intro w m h; exact w_impl_sidesOf (b_0 := b_0) fz_ok0 (m.roS 2 rfl hv1) h) ?_); rintro r10 ⟨v11, v13, v15, v17⟩
      refine st_gw rfl rfl (o_callP (vs := [(.agg #[v11, v13, v15, v17])]) Tryd.call80 rfl rfl (by intro w m h; exact (w_impl_sides_empty (F := allB [] w) (s_0 := r10) allB_ok (m.rd0 0 rfl reads_ro) (m.rd0 1 rfl reads_ro) (m.rd0 2 rfl reads_ro) (m.rd0 3 rfl reads_ro) h).mono (fun _ _ k => ret_free (fun r u => fr_nil) k)) ?_); rintro r19 _
      refine o_pickF st rfl rfl rfl ?_
      refine c_nil ?_
      exact l_join r19 (fun a w hE hm => ⟨hE.sub ⟨rfl, rfl, trivial⟩, (hm.pick [5, 6] rfl)⟩)
  · rintro t80 a w ⟨hE, hm⟩ h
    refine nx_of hE hm h ?_
    clear hE hm h
    refine c_cond rfl ?_ ?_
    · refine c_seq ?_
      refine c_region ?_
      refine stw (o_asn elGTest 125 rfl rfl ?_)
      refine o_as st rfl rfl ?_
      refine c_nil ?_
      refine l_then ?_
      refine c_ret ?_
      refine l_ret ?_
      exact l_end2 Tryd.results44 ([], false) (.slice none 0 0) (rv_t rfl) (rv_t rfl) rfl (fun w m => NewCh.ofB m [0] rfl)
    · refine c_skip ?_
      refine l_then ?_
      refine c_seq ?_
      refine c_region ?_
      refine stw (o_asn elGTest 125 rfl rfl ?_)
      refine c_nil ?_
      refine l_then ?_
      refine c_seq ?_
      refine c_seq ?_
      refine c_region ?_
      refine o_fad st rfl rfl fld85_0 rfl ?_
      refine o_ldc st (v := (.slice a3 l4 q5)) 1 rfl rfl rfl ty83 rfl ?_
      refine o_len st el83 2 rfl (reads_snap hv1) rfl rfl ?_
      refine o_mv st rfl rfl ?_
      refine c_nil ?_
      refine l_then ?_
      refine c_block ?_
      refine c_loop (σ := ((List GTest) × Int)) (fun ((xs85, t88) : ((List GTest) × Int)) (a : Act) (w : World) => ∃ (v84 : Value), Has 93 [(4, v84), (17, (.slice a3 l4 q5)), (18, (.int .i64 (b_0.xSides.length : Int))), (19, (.int .i64 t88))] a ∧ Mem (gB F [] w0) (feet []) w0 [snapCh w0 F, ownCh elGTest 125 v84 xs85] w) (fun a w hE hm => ⟨(.slice none 0 0), hE.sub ⟨rfl, rfl, rfl, rfl, trivial⟩, (hm.pick [2, 0] rfl)⟩) ?_
      rintro nx89 ⟨xs85, t88⟩ a w ⟨v84, hE, hm⟩ h
      refine nx_of hE hm h ?_
      clear hE hm h
      refine c_seq ?_
      refine c_region ?_
      refine o_lss st rfl rfl rfl ?_
      refine c_nil ?_
      refine l_then ?_
      refine c_seq ?_
      refine c_cond rfl ?_ ?_
      · refine c_skip ?_
        refine l_then ?_
        refine c_join (σ := (List GTest)) (fun (xs307 : (List GTest)) (a : Act) (w : World) => ∃ (v308 : Value), Has 93 [(4, v308), (17, (.slice a3 l4 q5)), (18, (.int .i64 (b_0.xSides.length : Int))), (19, (.int .i64 t88))] a ∧ Mem (gB F [] w0) (feet []) w0 [ownCh elGTest 125 v308 xs307, snapCh w0 F] w) ?_ ?_
        · intro k310
          refine c_block ?_
          refine c_seq ?_
          refine c_region ?_
          refine o_mv st rfl rfl ?_
          refine o_idx st 0 rfl (reads_snap hv1) rfl rfl rfl el83 ?_; intro e90 h91
          obtain ⟨_, ⟨v93, rfl, sl94⟩, rw92⟩ := sl_open hv1 h91
          refine o_ldR st (u := v93) 0 rfl rw92 rfl rfl ty72 rfl ?_
          refine o_as st rfl rfl ?_
          refine o_as st rfl rfl ?_
          refine c_nil ?_
          refine l_then ?_
          refine c_seq ?_
          refine c_region ?_
          refine o_mv st rfl rfl ?_
          refine o_ixa st 0 rfl (reads_snap hgl0) rfl rfl rfl arr129 ?_; intro e96 h97
          refine o_fadS st 0 rfl (reads_snap hgl0) h97 rfl rfl fld128_1 rfl ?_
          refine o_lds st (enc := encGFieldShape) (u := (.int .i64 e96.xTop)) 0 rfl (reads_snap hgl0) flelGFieldShape rfl h97 rfl rfl ty3 rfl ?_
          refine o_as st rfl rfl ?_
          refine c_nil ?_
          refine l_then ?_
          refine c_block ?_
          refine c_join (σ := Bool) (fun (t160 : Bool) (a : Act) (w : World) => Has 93 [(4, v84), (17, (.slice a3 l4 q5)), (18, (.int .i64 (b_0.xSides.length : Int))), (19, (.int .i64 t88)), (5, (.int .i64 t88)), (6, v93), (7, (.int .i64 e96.xTop)), (28, (.bool t160))] a ∧ Mem (gB F [] w0) (feet []) w0 [ownCh elGTest 125 v84 xs85, snapCh w0 F] w) ?_ ?_
          · intro k161
            refine c_region ?_
            refine o_mv st rfl rfl ?_
            refine o_len st el72 0 rfl (reads_snap sl94) rfl rfl ?_
            refine o_eql st und3 rfl rfl rfl ?_
            refine o_mv st rfl rfl ?_
            refine st_sp (dj := 32) rfl ?_ ?_
            · refine o_mv (st_g rfl rfl) rfl rfl ?_
              refine o_idx (st_g rfl rfl) 0 rfl (reads_snap sl94) rfl rfl rfl el72 ?_; intro e98 h99
              refine o_lds (st_g rfl rfl) (enc := encGSpan) (u := (.agg #[(.int .i64 e98.xLo), (.int .i64 e98.xHi)])) 0 rfl (reads_snap sl94) flelGSpan rfl h99 rfl rfl ty71 rfl ?_
              refine o_mv (st_g rfl rfl) rfl rfl ?_
              refine o_bld (st_g rfl rfl) (qs := [(0, (.int .i64 0)), (1, (.int .i64 e96.xTop))]) (cells := [(.int .i64 0), (.int .i64 e96.xTop)]) (by intro ρ h; simp only [List.map_toArray, List.map_cons, List.map_nil, h (.const (.int .i64 0)) _ rfl, h (.tmp 36) _ rfl]) rfl bld71 rfl ?_
              refine o_bin (st_g rfl rfl) (.bool (decide (e98 = (GSpan.mk 0 e96.xTop)))) rfl rfl rfl (eqls71 _ _ e98.xLo e98.xHi 0 e96.xTop) ?_
              refine o_pickT st rfl rfl rfl ?_
              refine o_as st rfl rfl ?_
              refine c_nil ?_
              exact l_join (decide (e98 = (GSpan.mk 0 e96.xTop))) (fun a w hE hm => ⟨hE.sub ⟨rfl, rfl, rfl, rfl, rfl, rfl, rfl, rfl, trivial⟩, (hm.pick [1, 0] rfl)⟩)
            · refine st_s rfl rfl rfl rfl ?_
              refine st_s rfl rfl rfl rfl ?_
              refine st_s rfl rfl rfl rfl ?_
              refine st_s rfl rfl rfl rfl ?_
              refine st_s rfl rfl rfl rfl ?_
              refine st_s rfl rfl rfl rfl ?_
              refine o_pickF st rfl rfl rfl ?_
              refine o_as st rfl rfl ?_
              refine c_nil ?_
              exact l_join false (fun a w hE hm => ⟨hE.sub ⟨rfl, rfl, rfl, rfl, rfl, rfl, rfl, rfl, trivial⟩, (hm.pick [1, 0] rfl)⟩)
          · rintro t160 a w ⟨hE, hm⟩ h
            refine nx_of hE hm h ?_
            clear hE hm h
            refine c_cond rfl ?_ ?_
            · refine c_skip ?_
              refine b_norm ?_
              refine b_norm ?_
              exact l_join xs85 (fun a w hE hm => ⟨v84, hE.sub ⟨rfl, rfl, rfl, rfl, trivial⟩, (hm.pick [0, 1] rfl)⟩)
            · refine c_seq ?_
              refine c_region ?_
              refine o_mv st rfl rfl ?_
              refine o_len st el72 1 rfl (reads_snap sl94) rfl rfl ?_
              refine o_eql st und3 rfl rfl rfl ?_
              refine o_as st rfl rfl ?_
              refine c_nil ?_
              refine l_then ?_
              refine c_cond rfl ?_ ?_
              · refine c_draw mixed 14 rfl [snapCh w0 F] ?_
                refine o_mv (dt 0 (fun w m => m.pick [1] rfl)) rfl rfl ?_
                refine o_mv (dt 1 (fun w m => m.pick [1] rfl)) rfl rfl ?_
                refine o_mv (dt 2 (fun w m => m.pick [1] rfl)) rfl rfl ?_
                refine o_idx (dt 3 (fun w m => m.pick [1] rfl)) 0 rfl (reads_snap sl94) rfl rfl rfl el72 ?_; intro e162 h163
                refine o_fadS (dt 4 (fun w m => m.pick [1] rfl)) 0 rfl (reads_snap sl94) h163 rfl rfl fld71_0 rfl ?_
                refine o_lds (dt 5 (fun w m => m.pick [1] rfl)) (enc := encGSpan) (u := (.int .i64 e162.xLo)) 0 rfl (reads_snap sl94) flelGSpan rfl h163 rfl rfl ty3 rfl ?_
                refine o_mv (dt 6 (fun w m => m.pick [1] rfl)) rfl rfl ?_
                refine o_idx (dt 7 (fun w m => m.pick [1] rfl)) 0 rfl (reads_snap sl94) rfl rfl rfl el72 ?_; intro e164 h165
                refine o_fadS (dt 8 (fun w m => m.pick [1] rfl)) 0 rfl (reads_snap sl94) h165 rfl rfl fld71_1 rfl ?_
                refine o_lds (dt 9 (fun w m => m.pick [1] rfl)) (enc := encGSpan) (u := (.int .i64 e164.xHi)) 0 rfl (reads_snap sl94) flelGSpan rfl h165 rfl rfl ty3 rfl ?_
                refine o_bld (dt 10 (fun w m => m.pick [1] rfl)) (qs := [(0, (.int .i64 t88)), (1, (.int .i64 e162.xLo)), (2, (.int .i64 e164.xHi))]) (cells := [(.int .i64 t88), (.int .i64 e162.xLo), (.int .i64 e164.xHi), (.bool false)]) (by intro ρ h; simp only [List.map_toArray, List.map_cons, List.map_nil, h (.tmp 45) _ rfl, h (.tmp 49) _ rfl, h (.tmp 53) _ rfl]) rfl bld125 rfl ?_
                refine d_one (i := 11) rfl (by kernel_rfl) (o_bsl (enc := encGTest) (qs := [(0, (.agg #[(.int .i64 t88), (.int .i64 e162.xLo), (.int .i64 e164.xHi), (.bool false)]))]) (cells := [(.int .i64 t88), (.int .i64 e162.xLo), (.int .i64 e164.xHi), (.bool false)]) ([(GTest.mk t88 e162.xLo e164.xHi false)]) flelGTest (by intro ρ h; simp only [List.map_toArray, List.map_cons, List.map_nil, h (.tmp 54) _ rfl]) rfl el80 zero125 rfl rfl rfl rfl rfl rfl ?_); intro v166
                refine d_and (fun w m => m.pick [2] rfl) ?_
                refine d_one (i := 12) rfl (by kernel_rfl) (o_app 1 0 rfl rfl (src_flat flelGTest reads_own) rfl rfl rfl el80 rfl zero125 rfl rfl ?_); intro v168
                refine d_and (fun w m => m.pick [2] rfl) ?_
                refine o_as (dt 13 (fun w m => m.pick [2] rfl)) rfl rfl ?_
                refine d_done (by kernel_rfl) ?_
                refine b_norm ?_
                refine b_norm ?_
                exact l_join (xs85 ++ ([(GTest.mk t88 e162.xLo e164.xHi false)])) (fun a w hE hm => ⟨v168, hE.sub ⟨rfl, rfl, rfl, rfl, trivial⟩, (hm.pick [1, 2] rfl)⟩)
              · refine c_join (σ := Bool) (fun (t234 : Bool) (a : Act) (w : World) => Has 93 [(4, v84), (17, (.slice a3 l4 q5)), (18, (.int .i64 (b_0.xSides.length : Int))), (19, (.int .i64 t88)), (5, (.int .i64 t88)), (6, v93), (57, (.bool t234))] a ∧ Mem (gB F [] w0) (feet []) w0 [ownCh elGTest 125 v84 xs85, snapCh w0 F] w) ?_ ?_
                · intro k235
                  refine c_region ?_
                  refine o_mv st rfl rfl ?_
                  refine o_len st el72 1 rfl (reads_snap sl94) rfl rfl ?_
                  refine o_eql st und3 rfl rfl rfl ?_
                  refine o_mv st rfl rfl ?_
                  refine st_sp (dj := 61) rfl ?_ ?_
                  · refine o_mv (st_g rfl rfl) rfl rfl ?_
                    refine o_idx (st_g rfl rfl) 1 rfl (reads_snap sl94) rfl rfl rfl el72 ?_; intro e170 h171
                    refine o_fadS (st_g rfl rfl) 1 rfl (reads_snap sl94) h171 rfl rfl fld71_0 rfl ?_
                    refine o_lds (st_g rfl rfl) (enc := encGSpan) (u := (.int .i64 e170.xLo)) 1 rfl (reads_snap sl94) flelGSpan rfl h171 rfl rfl ty3 rfl ?_
                    refine o_eql (st_g rfl rfl) und3 rfl rfl rfl ?_
                    refine o_pickT st rfl rfl rfl ?_
                    refine o_mv st rfl rfl ?_
                    refine st_sp (dj := 68) rfl ?_ ?_
                    · refine o_mv (st_g rfl rfl) rfl rfl ?_
                      refine o_idx (st_g rfl rfl) 1 rfl (reads_snap sl94) rfl rfl rfl el72 ?_; intro e172 h173
                      refine o_fadS (st_g rfl rfl) 1 rfl (reads_snap sl94) h173 rfl rfl fld71_1 rfl ?_
                      refine o_lds (st_g rfl rfl) (enc := encGSpan) (u := (.int .i64 e172.xHi)) 1 rfl (reads_snap sl94) flelGSpan rfl h173 rfl rfl ty3 rfl ?_
                      refine o_mv (st_g rfl rfl) rfl rfl ?_
                      refine o_eql (st_g rfl rfl) und3 rfl rfl rfl ?_
                      refine o_pickT st rfl rfl rfl ?_
                      refine o_as st rfl rfl ?_
                      refine c_nil ?_
                      exact l_join (decide (e172.xHi = e96.xTop)) (fun a w hE hm => ⟨hE.sub ⟨rfl, rfl, rfl, rfl, rfl, rfl, rfl, trivial⟩, (hm.pick [0, 1] rfl)⟩)
                    · refine st_s rfl rfl rfl rfl ?_
                      refine st_s rfl rfl rfl rfl ?_
                      refine st_s rfl rfl rfl rfl ?_
                      refine st_s rfl rfl rfl rfl ?_
                      refine st_s rfl rfl rfl rfl ?_
                      refine st_s rfl rfl rfl rfl ?_
                      refine o_pickF st rfl rfl rfl ?_
                      refine o_as st rfl rfl ?_
                      refine c_nil ?_
                      exact l_join false (fun a w hE hm => ⟨hE.sub ⟨rfl, rfl, rfl, rfl, rfl, rfl, rfl, trivial⟩, (hm.pick [0, 1] rfl)⟩)
                  · refine st_s rfl rfl rfl rfl ?_
                    refine st_s rfl rfl rfl rfl ?_
                    refine st_s rfl rfl rfl rfl ?_
                    refine st_s rfl rfl rfl rfl ?_
                    refine st_s rfl rfl rfl rfl ?_
                    refine o_pickF st rfl rfl rfl ?_
                    refine o_mv st rfl rfl ?_
                    refine st_s rfl rfl rfl rfl ?_
                    refine st_s rfl rfl rfl rfl ?_
                    refine st_s rfl rfl rfl rfl ?_
                    refine st_s rfl rfl rfl rfl ?_
                    refine st_s rfl rfl rfl rfl ?_
                    refine st_s rfl rfl rfl rfl ?_
                    refine o_pickF st rfl rfl rfl ?_
                    refine o_as st rfl rfl ?_
                    refine c_nil ?_
                    exact l_join false (fun a w hE hm => ⟨hE.sub ⟨rfl, rfl, rfl, rfl, rfl, rfl, rfl, trivial⟩, (hm.pick [0, 1] rfl)⟩)
                · rintro t234 a w ⟨hE, hm⟩ h
                  refine nx_of hE hm h ?_
                  clear hE hm h
                  refine c_cond rfl ?_ ?_
                  · refine c_draw mixed 16 rfl [snapCh w0 F] ?_
                    refine o_mv (dt 0 (fun w m => m.pick [1] rfl)) rfl rfl ?_
                    refine o_mv (dt 1 (fun w m => m.pick [1] rfl)) rfl rfl ?_
                    refine o_mv (dt 2 (fun w m => m.pick [1] rfl)) rfl rfl ?_
                    refine o_idx (dt 3 (fun w m => m.pick [1] rfl)) 0 rfl (reads_snap sl94) rfl rfl rfl el72 ?_; intro e236 h237
                    refine o_fadS (dt 4 (fun w m => m.pick [1] rfl)) 0 rfl (reads_snap sl94) h237 rfl rfl fld71_1 rfl ?_
                    refine o_lds (dt 5 (fun w m => m.pick [1] rfl)) (enc := encGSpan) (u := (.int .i64 e236.xHi)) 0 rfl (reads_snap sl94) flelGSpan rfl h237 rfl rfl ty3 rfl ?_
                    refine o_add (dt 6 (fun w m => m.pick [1] rfl)) rfl rfl rfl ?_; intro t238
                    refine o_mv (dt 7 (fun w m => m.pick [1] rfl)) rfl rfl ?_
                    refine o_idx (dt 8 (fun w m => m.pick [1] rfl)) 0 rfl (reads_snap sl94) rfl rfl rfl el72 ?_; intro e239 h240
                    refine o_fadS (dt 9 (fun w m => m.pick [1] rfl)) 0 rfl (reads_snap sl94) h240 rfl rfl fld71_0 rfl ?_
                    refine o_lds (dt 10 (fun w m => m.pick [1] rfl)) (enc := encGSpan) (u := (.int .i64 e239.xLo)) 0 rfl (reads_snap sl94) flelGSpan rfl h240 rfl rfl ty3 rfl ?_
                    refine o_sub (dt 11 (fun w m => m.pick [1] rfl)) rfl rfl rfl ?_; intro t241
                    refine o_bld (dt 12 (fun w m => m.pick [1] rfl)) (qs := [(0, (.int .i64 t88)), (1, (.int .i64 t238)), (2, (.int .i64 t241)), (3, (.bool true))]) (cells := [(.int .i64 t88), (.int .i64 t238), (.int .i64 t241), (.bool true)]) (by intro ρ h; simp only [List.map_toArray, List.map_cons, List.map_nil, h (.tmp 77) _ rfl, h (.tmp 82) _ rfl, h (.tmp 87) _ rfl, h (.const (.bool true)) _ rfl]) rfl bld125 rfl ?_
                    refine d_one (i := 13) rfl (by kernel_rfl) (o_bsl (enc := encGTest) (qs := [(0, (.agg #[(.int .i64 t88), (.int .i64 t238), (.int .i64 t241), (.bool true)]))]) (cells := [(.int .i64 t88), (.int .i64 t238), (.int .i64 t241), (.bool true)]) ([(GTest.mk t88 t238 t241 true)]) flelGTest (by intro ρ h; simp only [List.map_toArray, List.map_cons, List.map_nil, h (.tmp 88) _ rfl]) rfl el80 zero125 rfl rfl rfl rfl rfl rfl ?_); intro v242
                    refine d_and (fun w m => m.pick [2] rfl) ?_
                    refine d_one (i := 14) rfl (by kernel_rfl) (o_app 1 0 rfl rfl (src_flat flelGTest reads_own) rfl rfl rfl el80 rfl zero125 rfl rfl ?_); intro v244
                    refine d_and (fun w m => m.pick [2] rfl) ?_
                    refine o_as (dt 15 (fun w m => m.pick [2] rfl)) rfl rfl ?_
                    refine d_done (by kernel_rfl) ?_
                    refine b_norm ?_
                    refine b_norm ?_
                    exact l_join (xs85 ++ ([(GTest.mk t88 t238 t241 true)])) (fun a w hE hm => ⟨v244, hE.sub ⟨rfl, rfl, rfl, rfl, trivial⟩, (hm.pick [1, 2] rfl)⟩)
                  · refine c_seq ?_
                    refine c_region ?_
                    refine stw (o_asn elGTest 125 rfl rfl ?_)
                    refine o_as st rfl rfl ?_
                    refine c_nil ?_
                    refine l_then ?_
                    refine c_ret ?_
                    refine b_ret ?_
                    refine b_ret ?_
                    refine l_ret ?_
                    refine l_ret ?_
                    refine b_ret ?_
                    refine l_ret ?_
                    exact l_end2 Tryd.results44 ([], false) (.slice none 0 0) (rv_t rfl) (rv_t rfl) rfl (fun w m => NewCh.ofB m [0] rfl)
        · rintro xs307 a w ⟨v308, hE, hm⟩ h
          refine nx_of hE hm h ?_
          clear hE hm h
          refine c_region ?_
          refine o_add st rfl rfl rfl ?_; intro t311
          refine o_mv st rfl rfl ?_
          refine c_nil ?_
          exact l_join (xs307, t311) (fun a w hE hm => ⟨v308, hE.sub ⟨rfl, rfl, rfl, rfl, trivial⟩, (hm.pick [1, 0] rfl)⟩)
      · refine c_exit ?_
        refine l_exit ?_
        refine l_exit ?_
        refine b_exit ?_
        refine l_then ?_
        refine c_seq ?_
        refine c_region ?_
        refine o_mv st rfl rfl ?_
        refine o_as st rfl rfl ?_
        refine o_as st rfl rfl ?_
        refine c_nil ?_
        refine l_then ?_
        refine c_ret ?_
        exact l_end2 Tryd.results44 (xs85, true) v84 (rv_t rfl) (rv_t rfl) rfl (fun w m => NewCh.ofB m [1] rfl)

set_option maxRecDepth 100000 in
set_option maxHeartbeats 8000000 in
theorem w_impl_FlatRuleset {w0 : World} {F : Nat → Prop} {v1 : Value} {list_0 : (List GFlat)} {rest_1 : Bool} {κ : (GRuleset × Bool) → Prop} (hF : ∀ b, F b → b < w0.heap.size ∧ ¬ feet [] b) (hv1 : Sl elGFlat F w0 v1 list_0) (hgl0 : Sl elGFieldShape F w0 (.slice (some ⟨0, 0, none⟩) 4 4) gl_impl_fieldShapes) (h : L_impl_FlatRuleset list_0 rest_1 κ) :
    Calls Tryd.prog 15 #[v1, (.bool rest_1)] w0 (Ret [] F w0 κ (fun (r : (GRuleset × Bool)) (u : Value × List Nat) => .tuple #[(.agg #[u.1, (.bool r.1.xAccept)]), (.bool r.2)]) (fun (r : (GRuleset × Bool)) (u : Value × List Nat) => [dpCh (dSl dGRule 89) 54 u.2 u.1 r.1.xChains])) := by
  refine enterS (args := [v1, (.bool rest_1)]) [] hF (Given.nil _ _) Tryd.func15 rfl Tryd.ntmps15 rfl h ?_
  clear h hF
  refine c_seq ?_
  refine c_region ?_
  refine stw (o_alloc rfl [(.slice none 0 0), (.bool false)] zero36 ?_); intro b3
  refine o_as st rfl rfl ?_
  refine c_nil ?_
  refine l_then ?_
  refine c_seq ?_
  refine c_join (σ := Bool) (fun (t66 : Bool) (a : Act) (w : World) => Has 57 [(0, v1), (1, (.bool rest_1)), (4, (.pointer (some ⟨b3, 0, none⟩))), (19, (.bool t66))] a ∧ Mem (gB F [] w0) (feet []) w0 [cellCh b3 [(.slice none 0 0), (.bool false)] 36, snapCh w0 F] w) ?_ ?_
  · intro k67
    refine c_region ?_
    refine o_mv st rfl rfl ?_
    refine o_len st el23 1 rfl (reads_snap hv1) rfl rfl ?_
    refine o_gtr st rfl rfl rfl ?_
    refine o_mv st rfl rfl ?_
    refine st_sp (dj := 15) rfl ?_ ?_
    · refine st_s rfl rfl rfl rfl ?_
      refine st_s rfl rfl rfl rfl ?_
      refine st_s rfl rfl rfl rfl ?_
      refine o_pickT st rfl rfl rfl ?_
      refine c_nil ?_
      exact l_join true (fun a w hE hm => ⟨hE.sub ⟨rfl, rfl, rfl, rfl, trivial⟩, (hm.pick [0, 1] rfl)⟩)
    · refine o_mv (st_g rfl rfl) rfl rfl ?_
      refine st_gw rfl rfl (o_callP (vs := [v1]) Tryd.call32 rfl rfl (by intro w m h; exact (w_impl_FlatsValid (F := allB [] w) (list_0 := list_0) allB_ok (m.rd0 1 rfl (reads_snap hv1)) (m.rd0 1 rfl (reads_snap hgl0)) h).mono (fun _ _ k => ret_free (fun r u => fr_nil) k)) ?_); rintro r5 _
      refine o_not (st_g rfl rfl) rfl rfl ?_
      refine o_pickF st rfl rfl rfl ?_
      refine c_nil ?_
      exact l_join (!r5) (fun a w hE hm => ⟨hE.sub ⟨rfl, rfl, rfl, rfl, trivial⟩, (hm.pick [0, 1] rfl)⟩)
  · rintro t66 a w ⟨hE, hm⟩ h
    refine nx_of hE hm h ?_
    clear hE hm h
    refine c_cond rfl ?_ ?_
    · refine c_seq ?_
      refine c_region ?_
      refine o_bld st (qs := []) (cells := [(.slice none 0 0), (.bool false)]) (by intro ρ h; simp only [List.map_toArray, List.map_cons, List.map_nil]) rfl bld36 rfl ?_
      refine stw (o_stc (cs' := [(.slice none 0 0), (.bool false)]) 0 rfl rfl rfl ty36 rfl rfl rfl rfl ?_)
      refine o_as st rfl rfl ?_
      refine c_nil ?_
      refine l_then ?_
      refine c_ret ?_
      refine l_ret ?_
      refine nx_dnil (dSl dGRule 89) 54 ?_
      exact l_end2 Tryd.results15 ((GRuleset.mk ([]) false), false) ((.slice none 0 0), []) (rv_c 1 rfl rfl ty36 rfl) (rv_t rfl) rfl (fun w m => NewCh.ofB m [0] rfl)
    · refine c_skip ?_
      refine l_then ?_
      refine c_seq ?_
      refine c_region ?_
      refine o_mv st rfl rfl ?_
      refine o_len st el23 1 rfl (reads_snap hv1) rfl rfl ?_
      refine stw (o_makeD (E' := dGRule) (z := (GRule.mk ([]) 0 0)) (fun w => ⟨_, rfl, Dp.nil⟩) rfl rfl rfl el54 rfl zero89 rfl ?_); intro bb71 v69 xs70
      refine o_as st rfl rfl ?_
      refine c_nil ?_
      refine l_then ?_
      refine c_seq ?_
      refine c_seq ?_
      refine c_region ?_
      refine o_mv st rfl rfl ?_
      refine o_len st el23 2 rfl (reads_snap hv1) rfl rfl ?_
      refine o_mv st rfl rfl ?_
      refine c_nil ?_
      refine l_then ?_
      refine c_block ?_
      refine c_loop (σ := ((List GRule) × Int)) (fun ((xs74, t78) : ((List GRule) × Int)) (a : Act) (w : World) => ∃ (v73 : Value) (bb76 : List Nat), Has 57 [(1, (.bool rest_1)), (4, (.pointer (some ⟨b3, 0, none⟩))), (6, v73), (24, v1), (25, (.int .i64 (list_0.length : Int))), (26, (.int .i64 t78))] a ∧ Mem (gB F [] w0) (feet []) w0 [cellCh b3 [(.slice none 0 0), (.bool false)] 36, snapCh w0 F, dpCh dGRule 89 bb76 v73 xs74] w) (fun a w hE hm => ⟨v69, bb71, hE.sub ⟨rfl, rfl, rfl, rfl, rfl, rfl, trivial⟩, (hm.pick [1, 2, 0] rfl)⟩) ?_
      rintro nx79 ⟨xs74, t78⟩ a w ⟨v73, bb76, hE, hm⟩ h
      refine nx_of hE hm h ?_
      clear hE hm h
      refine c_seq ?_
      refine c_region ?_
      refine o_lss st rfl rfl rfl ?_
      refine c_nil ?_
      refine l_then ?_
      refine c_seq ?_
      refine c_cond rfl ?_ ?_
      · refine c_skip ?_
        refine l_then ?_
        refine c_seq ?_
        refine c_block ?_
        refine c_seq ?_
        refine c_region ?_
        refine o_idx st 1 rfl (reads_snap hv1) rfl rfl rfl el23 ?_; intro e80 h81
        obtain ⟨_, ⟨v83, rfl, sl84⟩, rw82⟩ := sl_open hv1 h81
        refine o_ldR st (u := (.agg #[v83, (.bool e80.xAccept)])) 1 rfl rw82 rfl rfl ty87 rfl ?_
        refine stw (o_alloc rfl [(.slice none 0 0), (.bool false)] zero87 ?_); intro b86
        obtain ⟨a88, l89, q90, hs_⟩ := sl_val sl84; subst hs_
        refine stw (o_stc (cs' := [(.slice a88 l89 q90), (.bool e80.xAccept)]) 0 rfl rfl rfl ty87 rfl rfl rfl rfl ?_)
        refine c_nil ?_
        refine l_then ?_
        refine c_seq ?_
        refine c_region ?_
        refine o_fad st rfl rfl fld87_0 rfl ?_
        refine o_ldc st (v := (.agg #[(.slice a88 l89 q90)])) 0 rfl rfl rfl ty85 rfl ?_
        refine stw (o_callP (vs := [(.agg #[(.slice a88 l89 q90)])]) Tryd.call44 rfl rfl (by intro w m h; exact (w_impl_BoxTests (F := allB [] w) (b_0 := e80.xWhere) allB_ok (m.rd0 2 rfl (reads_snap sl84)) (m.rd0 2 rfl (reads_snap hgl0)) h).mono (fun _ _ k => ret_free (fun r u => (fr_cons (free_own flelGTest) fr_nil)) k)) ?_); rintro ⟨r91, r94⟩ v92
        refine o_mv st rfl rfl ?_
        refine o_ext st (vs := [v92, (.bool r94)]) rfl rfl rfl ?_
        refine o_ext st (vs := [v92, (.bool r94)]) rfl rfl rfl ?_
        refine o_as st rfl rfl ?_
        refine o_as st rfl rfl ?_
        refine c_nil ?_
        refine l_then ?_
        refine c_seq ?_
        refine c_join (σ := Bool) (fun (t155 : Bool) (a : Act) (w : World) => Has 57 [(1, (.bool rest_1)), (4, (.pointer (some ⟨b3, 0, none⟩))), (6, v73), (24, v1), (25, (.int .i64 (list_0.length : Int))), (26, (.int .i64 t78)), (8, (.pointer (some ⟨b86, 0, none⟩))), (9, v92), (42, (.bool t155))] a ∧ Mem (gB F [] w0) (feet []) w0 [ownCh elGTest 125 v92 r91, cellCh b86 [(.slice a88 l89 q90), (.bool e80.xAccept)] 87, cellCh b3 [(.slice none 0 0), (.bool false)] 36, dpCh dGRule 89 bb76 v73 xs74, snapCh w0 F] w) ?_ ?_
        · intro k156
          refine c_region ?_
          refine o_mv st rfl rfl ?_
          refine o_not st rfl rfl ?_
          refine o_mv st rfl rfl ?_
          refine st_sp (dj := 38) rfl ?_ ?_
          · refine st_s rfl rfl rfl rfl ?_
            refine st_s rfl rfl rfl rfl ?_
            refine st_s rfl rfl rfl rfl ?_
            refine o_pickT st rfl rfl rfl ?_
            refine c_nil ?_
            exact l_join true (fun a w hE hm => ⟨hE.sub ⟨rfl, rfl, rfl, rfl, rfl, rfl, rfl, rfl, rfl, trivial⟩, (hm.pick [0, 1, 2, 4, 3] rfl)⟩)
          · refine o_mv (st_g rfl rfl) rfl rfl ?_
            refine o_len (st_g rfl rfl) el80 0 rfl reads_own rfl rfl ?_
            refine o_gtr (st_g rfl rfl) rfl rfl rfl ?_
            refine o_pickF st rfl rfl rfl ?_
            refine c_nil ?_
            exact l_join (decide (6 < (r91.length : Int))) (fun a w hE hm => ⟨hE.sub ⟨rfl, rfl, rfl, rfl, rfl, rfl, rfl, rfl, rfl, trivial⟩, (hm.pick [0, 1, 2, 4, 3] rfl)⟩)
        · rintro t155 a w ⟨hE, hm⟩ h
          refine nx_of hE hm h ?_
          clear hE hm h
          refine c_cond rfl ?_ ?_
          · refine c_seq ?_
            refine c_region ?_
            refine o_bld st (qs := []) (cells := [(.slice none 0 0), (.bool false)]) (by intro ρ h; simp only [List.map_toArray, List.map_cons, List.map_nil]) rfl bld36 rfl ?_
            refine stw (o_stc (cs' := [(.slice none 0 0), (.bool false)]) 2 rfl rfl rfl ty36 rfl rfl rfl rfl ?_)
            refine o_as st rfl rfl ?_
            refine c_nil ?_
            refine l_then ?_
            refine c_ret ?_
            refine l_ret ?_
            refine b_ret ?_
            refine l_ret ?_
            refine l_ret ?_
            refine b_ret ?_
            refine l_ret ?_
            refine nx_dnil (dSl dGRule 89) 54 ?_
            exact l_end2 Tryd.results15 ((GRuleset.mk ([]) false), false) ((.slice none 0 0), []) (rv_c 3 rfl rfl ty36 rfl) (rv_t rfl) rfl (fun w m => NewCh.ofB m [0] rfl)
          · refine c_skip ?_
            refine l_then ?_
            refine c_seq ?_
            refine c_region ?_
            refine o_as st rfl rfl ?_
            refine c_nil ?_
            refine l_then ?_
            refine c_join (σ := Int) (fun (t218 : Int) (a : Act) (w : World) => Has 57 [(1, (.bool rest_1)), (4, (.pointer (some ⟨b3, 0, none⟩))), (6, v73), (24, v1), (25, (.int .i64 (list_0.length : Int))), (26, (.int .i64 t78)), (9, v92), (11, (.int .i64 t218))] a ∧ Mem (gB F [] w0) (feet []) w0 [ownCh elGTest 125 v92 r91, cellCh b3 [(.slice none 0 0), (.bool false)] 36, dpCh dGRule 89 bb76 v73 xs74, snapCh w0 F] w) ?_ ?_
            · intro k219
              refine c_seq ?_
              refine c_region ?_
              refine o_fad st rfl rfl fld87_1 rfl ?_
              refine o_ldc st (v := (.bool e80.xAccept)) 1 rfl rfl rfl ty4 rfl ?_
              refine c_nil ?_
              refine l_then ?_
              refine c_cond rfl ?_ ?_
              · refine c_region ?_
                refine o_as st rfl rfl ?_
                refine c_nil ?_
                exact l_join 1 (fun a w hE hm => ⟨hE.sub ⟨rfl, rfl, rfl, rfl, rfl, rfl, rfl, rfl, trivial⟩, (hm.pick [0, 2, 3, 4] rfl)⟩)
              · refine c_skip ?_
                exact l_join 2 (fun a w hE hm => ⟨hE.sub ⟨rfl, rfl, rfl, rfl, rfl, rfl, rfl, rfl, trivial⟩, (hm.pick [0, 2, 3, 4] rfl)⟩)
            · rintro t218 a w ⟨hE, hm⟩ h
              refine nx_of hE hm h ?_
              clear hE hm h
              refine c_region ?_
              refine o_mv st rfl rfl ?_
              refine o_mv st rfl rfl ?_
              refine o_mv st rfl rfl ?_
              refine nx_own 0 rfl ?_; rintro a220 l221 q222 rfl
              refine o_bld st (qs := [(0, (.slice a220 l221 q222)), (1, (.int .i64 t218))]) (cells := [(.slice a220 l221 q222), (.int .i64 t218), (.int .i64 0)]) (by intro ρ h; simp only [List.map_toArray, List.map_cons, List.map_nil, h (.tmp 47) _ rfl, h (.tmp 48) _ rfl]) rfl bld89 rfl ?_
              refine stw (o_bslD (M := [ownCh elGTest 125 (.slice a220 l221 q222) r91]) (E' := dGRule) (qs := [(0, (.agg #[(.slice a220 l221 q222), (.int .i64 t218), (.int .i64 0)]))]) (cs := [(.slice a220 l221 q222), (.int .i64 t218), (.int .i64 0)]) (GRule.mk r91 t218 0) (absorb_one (gives_own flelGTest) (fun B w h => ⟨_, rfl, h⟩)) (by intro ρ h; simp only [List.map_toArray, List.map_cons, List.map_nil, h (.tmp 49) _ rfl]) rfl el54 zero89 rfl rfl rfl rfl ?_); intro bb224 v223
              refine pk [2, 0, 1, 3] rfl ?_
              refine stw (o_appD rfl rfl rfl el54 rfl zero89 rfl rfl ?_); intro bb227 v226
              refine o_as st rfl rfl ?_
              refine c_nil ?_
              refine b_norm ?_
              refine l_then ?_
              refine c_region ?_
              refine o_add st rfl rfl rfl ?_; intro t229
              refine o_mv st rfl rfl ?_
              refine c_nil ?_
              exact l_join ((xs74 ++ ([(GRule.mk r91 t218 0)])), t229) (fun a w hE hm => ⟨v226, bb227, hE.sub ⟨rfl, rfl, rfl, rfl, rfl, rfl, trivial⟩, (hm.pick [1, 2, 0] rfl)⟩)
      · refine c_exit ?_
        refine l_exit ?_
        refine l_exit ?_
        refine b_exit ?_
        refine l_then ?_
        refine c_seq ?_
        refine c_region ?_
        refine o_mv st rfl rfl ?_
        refine nx_dp 2 rfl ?_; rintro a230 l231 q232 rfl
        refine pk [2, 0, 1] rfl ?_
        refine stw (o_bslD (M := [dpCh dGRule 89 bb76 (.slice a230 l231 q232) xs74]) (E' := (dSl dGRule 89)) (qs := [(0, (.slice a230 l231 q232))]) (cs := [(.slice a230 l231 q232)]) xs74 (absorb_one gives_dp (fun B w h => ⟨_, rfl, h⟩)) (by intro ρ h; simp only [List.map_toArray, List.map_cons, List.map_nil, h (.tmp 53) _ rfl]) rfl el34 zero54 rfl rfl rfl rfl ?_); intro bb234 v233
        refine o_mv st rfl rfl ?_
        refine nx_dp 0 rfl ?_; rintro a236 l237 q238 rfl
        refine o_bld st (qs := [(0, (.slice a236 l237 q238)), (1, (.bool rest_1))]) (cells := [(.slice a236 l237 q238), (.bool rest_1)]) (by intro ρ h; simp only [List.map_toArray, List.map_cons, List.map_nil, h (.tmp 54) _ rfl, h (.tmp 55) _ rfl]) rfl bld36 rfl ?_
        refine stw (o_stc (cs' := [(.slice a236 l237 q238), (.bool rest_1)]) 1 rfl rfl rfl ty36 rfl rfl rfl rfl ?_)
        refine o_as st rfl rfl ?_
        refine c_nil ?_
        refine l_then ?_
        refine c_ret ?_
        exact l_end2 Tryd.results15 ((GRuleset.mk ([xs74]) rest_1), true) ((.slice a236 l237 q238), bb234) (rv_c 1 rfl rfl ty36 rfl) (rv_t rfl) rfl (fun w m => NewCh.ofB m [0] rfl)

set_option maxRecDepth 100000 in
set_option maxHeartbeats 8000000 in
theorem w_laws_eqTest {w0 : World} {F : Nat → Prop} {a_0 : GTest} {b_1 : GTest} {κ : Bool → Prop} (hF : ∀ b, F b → b < w0.heap.size ∧ ¬ feet [] b) (h : L_laws_eqTest a_0 b_1 κ) :
    Calls Tryd.prog 131 #[(.agg #[(.int .i64 a_0.xField), (.int .i64 a_0.xLo), (.int .i64 a_0.xHi), (.bool a_0.xNot)]), (.agg #[(.int .i64 b_1.xField), (.int .i64 b_1.xLo), (.int .i64 b_1.xHi), (.bool b_1.xNot)])] w0 (Ret [] F w0 κ (fun (r : Bool) (u : Unit) => (.bool r)) (fun (r : Bool) (u : Unit) => [])) := by
  refine enter0 (args := [(.agg #[(.int .i64 a_0.xField), (.int .i64 a_0.xLo), (.int .i64 a_0.xHi), (.bool a_0.xNot)]), (.agg #[(.int .i64 b_1.xField), (.int .i64 b_1.xLo), (.int .i64 b_1.xHi), (.bool b_1.xNot)])]) [] hF (Given.nil _ _) Tryd.func131 rfl Tryd.ntmps131 rfl h ?_
  clear h hF
  refine c_seq ?_
  refine c_region ?_
  refine stw (o_box rfl rfl [(.int .i64 a_0.xField), (.int .i64 a_0.xLo), (.int .i64 a_0.xHi), (.bool a_0.xNot)] rfl ?_); intro b1
  refine stw (o_box rfl rfl [(.int .i64 b_1.xField), (.int .i64 b_1.xLo), (.int .i64 b_1.xHi), (.bool b_1.xNot)] rfl ?_); intro b3
  refine o_as st rfl rfl ?_
  refine c_nil ?_
  refine l_then ?_
  refine c_seq ?_
  refine c_seq ?_
  refine c_region ?_
  refine o_fad st rfl rfl fld125_0 rfl ?_
  refine o_ldc st (v := (.int .i64 a_0.xField)) 1 rfl rfl rfl ty3 rfl ?_
  refine o_fad st rfl rfl fld125_0 rfl ?_
  refine o_ldc st (v := (.int .i64 b_1.xField)) 0 rfl rfl rfl ty3 rfl ?_
  refine o_neq st und3 rfl rfl rfl ?_
  refine c_nil ?_
  refine l_then ?_
  refine c_cond rfl ?_ ?_
  · refine c_seq ?_
    refine c_region ?_
    refine o_as st rfl rfl ?_
    refine c_nil ?_
    refine l_then ?_
    refine c_ret ?_
    refine l_ret ?_
    exact l_end1 Tryd.results131 false () (rv_t rfl) (fun _ _ => NewCh.nil _ _ _ _)
  · refine c_skip ?_
    refine l_then ?_
    refine c_seq ?_
    refine c_seq ?_
    refine c_region ?_
    refine o_fad st rfl rfl fld125_1 rfl ?_
    refine o_ldc st (v := (.int .i64 a_0.xLo)) 1 rfl rfl rfl ty3 rfl ?_
    refine o_fad st rfl rfl fld125_1 rfl ?_
    refine o_ldc st (v := (.int .i64 b_1.xLo)) 0 rfl rfl rfl ty3 rfl ?_
    refine o_neq st und3 rfl rfl rfl ?_
    refine c_nil ?_
    refine l_then ?_
    refine c_cond rfl ?_ ?_
    · refine c_seq ?_
      refine c_region ?_
      refine o_as st rfl rfl ?_
      refine c_nil ?_
      refine l_then ?_
      refine c_ret ?_
      refine l_ret ?_
      exact l_end1 Tryd.results131 false () (rv_t rfl) (fun _ _ => NewCh.nil _ _ _ _)
    · refine c_skip ?_
      refine l_then ?_
      refine c_seq ?_
      refine c_seq ?_
      refine c_region ?_
      refine o_fad st rfl rfl fld125_2 rfl ?_
      refine o_ldc st (v := (.int .i64 a_0.xHi)) 1 rfl rfl rfl ty3 rfl ?_
      refine o_fad st rfl rfl fld125_2 rfl ?_
      refine o_ldc st (v := (.int .i64 b_1.xHi)) 0 rfl rfl rfl ty3 rfl ?_
      refine o_neq st und3 rfl rfl rfl ?_
      refine c_nil ?_
      refine l_then ?_
      refine c_cond rfl ?_ ?_
      · refine c_seq ?_
        refine c_region ?_
        refine o_as st rfl rfl ?_
        refine c_nil ?_
        refine l_then ?_
        refine c_ret ?_
        refine l_ret ?_
        exact l_end1 Tryd.results131 false () (rv_t rfl) (fun _ _ => NewCh.nil _ _ _ _)
      · refine c_skip ?_
        refine l_then ?_
        refine c_seq ?_
        refine c_seq ?_
        refine c_region ?_
        refine o_fad st rfl rfl fld125_3 rfl ?_
        refine o_ldc st (v := (.bool a_0.xNot)) 1 rfl rfl rfl ty4 rfl ?_
        refine o_fad st rfl rfl fld125_3 rfl ?_
        refine o_ldc st (v := (.bool b_1.xNot)) 0 rfl rfl rfl ty4 rfl ?_
        refine o_neqB st und4 rfl rfl rfl ?_
        refine c_nil ?_
        refine l_then ?_
        refine c_cond rfl ?_ ?_
        · refine c_seq ?_
          refine c_region ?_
          refine o_as st rfl rfl ?_
          refine c_nil ?_
          refine l_then ?_
          refine c_ret ?_
          refine l_ret ?_
          exact l_end1 Tryd.results131 false () (rv_t rfl) (fun _ _ => NewCh.nil _ _ _ _)
        · refine c_skip ?_
          refine l_then ?_
          refine c_seq ?_
          refine c_region ?_
          refine o_as st rfl rfl ?_
          refine c_nil ?_
          refine l_then ?_
          refine c_ret ?_
          exact l_end1 Tryd.results131 true () (rv_t rfl) (fun _ _ => NewCh.nil _ _ _ _)

set_option maxRecDepth 100000 in
set_option maxHeartbeats 8000000 in
theorem w_laws_eqTestS {w0 : World} {F : Nat → Prop} {v1 : Value} {v3 : Value} {a_0 : (List GTest)} {b_1 : (List GTest)} {κ : Bool → Prop} (hF : ∀ b, F b → b < w0.heap.size ∧ ¬ feet [] b) (hv1 : Sl elGTest F w0 v1 a_0) (hv3 : Sl elGTest F w0 v3 b_1) (h : L_laws_eqTestS a_0 b_1 κ) :
    Calls Tryd.prog 123 #[v1, v3] w0 (Ret [] F w0 κ (fun (r : Bool) (u : Unit) => (.bool r)) (fun (r : Bool) (u : Unit) => [])) := by
  refine enterS (args := [v1, v3]) [] hF (Given.nil _ _) Tryd.func123 rfl Tryd.ntmps123 rfl h ?_
  clear h hF
  refine c_seq ?_
  refine c_region ?_
  refine o_as st rfl rfl ?_
  refine c_nil ?_
  refine l_then ?_
  refine c_seq ?_
  refine c_seq ?_
  refine c_region ?_
  refine o_mv st rfl rfl ?_
  refine o_len st el80 0 rfl (reads_snap hv1) rfl rfl ?_
  refine o_mv st rfl rfl ?_
  refine o_len st el80 0 rfl (reads_snap hv3) rfl rfl ?_
  refine o_neq st und3 rfl rfl rfl ?_
  refine c_nil ?_
  refine l_then ?_
  refine c_cond rfl ?_ ?_
  · refine c_seq ?_
    refine c_region ?_
    refine o_as st rfl rfl ?_
    refine c_nil ?_
    refine l_then ?_
    refine c_ret ?_
    refine l_ret ?_
    exact l_end1 Tryd.results123 false () (rv_t rfl) (fun _ _ => NewCh.nil _ _ _ _)
  · refine c_skip ?_
    refine l_then ?_
    refine c_seq ?_
    refine c_seq ?_
    refine c_region ?_
    refine o_as st rfl rfl ?_
    refine c_nil ?_
    refine l_then ?_
    refine c_block ?_
    refine c_loop (σ := Int) (fun (t5 : Int) (a : Act) (w : World) => Has 27 [(0, v1), (1, v3), (5, (.int .i64 t5))] a ∧ Mem (gB F [] w0) (feet []) w0 [snapCh w0 F] w) (fun a w hE hm => ⟨hE.sub ⟨rfl, rfl, rfl, trivial⟩, (hm.pick [0] rfl)⟩) ?_
    rintro nx6 t5 a w ⟨hE, hm⟩ h
    refine nx_of hE hm h ?_
    clear hE hm h
    refine c_seq ?_
    refine c_seq ?_
    refine c_region ?_
    refine o_mv st rfl rfl ?_
    refine o_mv st rfl rfl ?_
    refine o_len st el80 0 rfl (reads_snap hv1) rfl rfl ?_
    refine o_lss st rfl rfl rfl ?_
    refine c_nil ?_
    refine l_then ?_
    refine c_cond rfl ?_ ?_
    · refine c_skip ?_
      refine l_then ?_
      refine c_seq ?_
      refine c_block ?_
      refine c_seq ?_
      refine c_draw mixed 10 rfl [snapCh w0 F] ?_
      refine o_mv (dt 0 (fun _ m => m)) rfl rfl ?_
      refine o_mv (dt 1 (fun _ m => m)) rfl rfl ?_
      refine o_idx (dt 2 (fun _ m => m)) 0 rfl (reads_snap hv1) rfl rfl rfl el80 ?_; intro e7 h8
      refine o_lds (dt 3 (fun _ m => m)) (enc := encGTest) (u := (.agg #[(.int .i64 e7.xField), (.int .i64 e7.xLo), (.int .i64 e7.xHi), (.bool e7.xNot)])) 0 rfl (reads_snap hv1) flelGTest rfl h8 rfl rfl ty125 rfl ?_
      refine o_mv (dt 4 (fun _ m => m)) rfl rfl ?_
      refine o_mv (dt 5 (fun _ m => m)) rfl rfl ?_
      refine o_idx (dt 6 (fun _ m => m)) 0 rfl (reads_snap hv3) rfl rfl rfl el80 ?_; intro e9 h10
      refine o_lds (dt 7 (fun _ m => m)) (enc := encGTest) (u := (.agg #[(.int .i64 e9.xField), (.int .i64 e9.xLo), (.int .i64 e9.xHi), (.bool e9.xNot)])) 0 rfl (reads_snap hv3) flelGTest rfl h10 rfl rfl ty125 rfl ?_
      refine d_one (i := 8) rfl (by kernel_rfl) (o_callP (vs := [(.agg #[(.int .i64 e7.xField), (.int .i64 e7.xLo), (.int .i64 e7.xHi), (.bool e7.xNot)]), (.agg #[(.int .i64 e9.xField), (.int .i64 e9.xLo), (.int .i64 e9.xHi), (.bool e9.xNot)])]) Tryd.call131 rfl rfl (by intro w m h; exact (w_laws_eqTest (F := allB [] w) (a_0 := e7) (b_1 := e9) allB_ok h).mono (fun _ _ k => ret_free (fun r u => fr_nil) k)) ?_); rintro r11 _
      refine d_and (fun _ m => m) ?_
      refine o_not (dt 9 (fun _ m => m)) rfl rfl ?_
      refine d_done (by kernel_rfl) ?_
      refine l_then ?_
      refine c_cond rfl ?_ ?_
      · refine c_seq ?_
        refine c_region ?_
        refine o_as st rfl rfl ?_
        refine c_nil ?_
        refine l_then ?_
        refine c_ret ?_
        refine b_ret ?_
        refine l_ret ?_
        refine l_ret ?_
        refine b_ret ?_
        refine l_ret ?_
        exact l_end1 Tryd.results123 false () (rv_t rfl) (fun _ _ => NewCh.nil _ _ _ _)
      · refine c_skip ?_
        refine b_norm ?_
        refine l_then ?_
        refine c_region ?_
        refine o_mv st rfl rfl ?_
        refine o_add st rfl rfl rfl ?_; intro t12
        refine o_as st rfl rfl ?_
        refine c_nil ?_
        exact l_join t12 (fun a w hE hm => ⟨hE.sub ⟨rfl, rfl, rfl, trivial⟩, (hm.pick [0] rfl)⟩)
    · refine c_exit ?_
      refine l_exit ?_
      refine l_exit ?_
      refine b_exit ?_
      refine l_then ?_
      refine c_seq ?_
      refine c_region ?_
      refine o_as st rfl rfl ?_
      refine c_nil ?_
      refine l_then ?_
      refine c_ret ?_
      exact l_end1 Tryd.results123 true () (rv_t rfl) (fun _ _ => NewCh.nil _ _ _ _)

set_option maxRecDepth 100000 in
set_option maxHeartbeats 8000000 in
theorem w_laws_eqRule {w0 : World} {F : Nat → Prop} {v1 : Value} {v3 : Value} {a_0 : GRule} {b_1 : GRule} {κ : Bool → Prop} (hF : ∀ b, F b → b < w0.heap.size ∧ ¬ feet [] b) (hv1 : Sl elGTest F w0 v1 a_0.xTests) (hv3 : Sl elGTest F w0 v3 b_1.xTests) (h : L_laws_eqRule a_0 b_1 κ) :
    Calls Tryd.prog 105 #[(.agg #[v1, (.int .i64 a_0.xAction), (.int .i64 a_0.xChain)]), (.agg #[v3, (.int .i64 b_1.xAction), (.int .i64 b_1.xChain)])] w0 (Ret [] F w0 κ (fun (r : Bool) (u : Unit) => (.bool r)) (fun (r : Bool) (u : Unit) => [])) := by
  refine enterS (args := [(.agg #[v1, (.int .i64 a_0.xAction), (.int .i64 a_0.xChain)]), (.agg #[v3, (.int .i64 b_1.xAction), (.int .i64 b_1.xChain)])]) [] hF (Given.nil _ _) Tryd.func105 rfl Tryd.ntmps105 rfl h ?_
  clear h hF
  refine c_seq ?_
  refine c_region ?_
  obtain ⟨a5, l6, q7, hs_⟩ := sl_val hv1; subst hs_
  refine stw (o_box rfl rfl [(.slice a5 l6 q7), (.int .i64 a_0.xAction), (.int .i64 a_0.xChain)] rfl ?_); intro b8
  obtain ⟨a10, l11, q12, hs_⟩ := sl_val hv3; subst hs_
  refine stw (o_box rfl rfl [(.slice a10 l11 q12), (.int .i64 b_1.xAction), (.int .i64 b_1.xChain)] rfl ?_); intro b13
  refine o_as st rfl rfl ?_
  refine c_nil ?_
  refine l_then ?_
  refine c_seq ?_
  refine c_seq ?_
  refine c_region ?_
  refine o_fad st rfl rfl fld89_0 rfl ?_
  refine o_ldc st (v := (.slice a5 l6 q7)) 1 rfl rfl rfl ty80 rfl ?_
  refine o_fad st rfl rfl fld89_0 rfl ?_
  refine o_ldc st (v := (.slice a10 l11 q12)) 0 rfl rfl rfl ty80 rfl ?_
  refine stw (o_callP (vs := [(.slice a5 l6 q7), (.slice a10 l11 q12)]) Tryd.call123 rfl rfl (by intro w m h; exact (w_laws_eqTestS (F := allB [] w) (a_0 := a_0.xTests) (b_1 := b_1.xTests) allB_ok (m.rd0 2 rfl (reads_snap hv1)) (m.rd0 2 rfl (reads_snap hv3)) h).mono (fun _ _ k => ret_free (fun r u => fr_nil) k)) ?_); rintro r15 _
  refine o_not st rfl rfl ?_
  refine c_nil ?_
  refine l_then ?_
  refine c_cond rfl ?_ ?_
  · refine c_seq ?_
    refine c_region ?_
    refine o_as st rfl rfl ?_
    refine c_nil ?_
    refine l_then ?_
    refine c_ret ?_
    refine l_ret ?_
    exact l_end1 Tryd.results105 false () (rv_t rfl) (fun _ _ => NewCh.nil _ _ _ _)
  · refine c_skip ?_
    refine l_then ?_
    refine c_seq ?_
    refine c_seq ?_
    refine c_region ?_
    refine o_fad st rfl rfl fld89_1 rfl ?_
    refine o_ldc st (v := (.int .i64 a_0.xAction)) 1 rfl rfl rfl ty3 rfl ?_
    refine o_fad st rfl rfl fld89_1 rfl ?_
    refine o_ldc st (v := (.int .i64 b_1.xAction)) 0 rfl rfl rfl ty3 rfl ?_
    refine o_neq st und3 rfl rfl rfl ?_
    refine c_nil ?_
    refine l_then ?_
    refine c_cond rfl ?_ ?_
    · refine c_seq ?_
      refine c_region ?_
      refine o_as st rfl rfl ?_
      refine c_nil ?_
      refine l_then ?_
      refine c_ret ?_
      refine l_ret ?_
      exact l_end1 Tryd.results105 false () (rv_t rfl) (fun _ _ => NewCh.nil _ _ _ _)
    · refine c_skip ?_
      refine l_then ?_
      refine c_seq ?_
      refine c_seq ?_
      refine c_region ?_
      refine o_fad st rfl rfl fld89_2 rfl ?_
      refine o_ldc st (v := (.int .i64 a_0.xChain)) 1 rfl rfl rfl ty3 rfl ?_
      refine o_fad st rfl rfl fld89_2 rfl ?_
      refine o_ldc st (v := (.int .i64 b_1.xChain)) 0 rfl rfl rfl ty3 rfl ?_
      refine o_neq st und3 rfl rfl rfl ?_
      refine c_nil ?_
      refine l_then ?_
      refine c_cond rfl ?_ ?_
      · refine c_seq ?_
        refine c_region ?_
        refine o_as st rfl rfl ?_
        refine c_nil ?_
        refine l_then ?_
        refine c_ret ?_
        refine l_ret ?_
        exact l_end1 Tryd.results105 false () (rv_t rfl) (fun _ _ => NewCh.nil _ _ _ _)
      · refine c_skip ?_
        refine l_then ?_
        refine c_seq ?_
        refine c_region ?_
        refine o_as st rfl rfl ?_
        refine c_nil ?_
        refine l_then ?_
        refine c_ret ?_
        exact l_end1 Tryd.results105 true () (rv_t rfl) (fun _ _ => NewCh.nil _ _ _ _)

set_option maxRecDepth 100000 in
set_option maxHeartbeats 8000000 in
theorem w_laws_eqRuleS {w0 : World} {F : Nat → Prop} {v1 : Value} {v3 : Value} {a_0 : (List GRule)} {b_1 : (List GRule)} {κ : Bool → Prop} (hF : ∀ b, F b → b < w0.heap.size ∧ ¬ feet [] b) (hv1 : Sl elGRule F w0 v1 a_0) (hv3 : Sl elGRule F w0 v3 b_1) (h : L_laws_eqRuleS a_0 b_1 κ) :
    Calls Tryd.prog 81 #[v1, v3] w0 (Ret [] F w0 κ (fun (r : Bool) (u : Unit) => (.bool r)) (fun (r : Bool) (u : Unit) => [])) := by
  refine enterS (args := [v1, v3]) [] hF (Given.nil _ _) Tryd.func81 rfl Tryd.ntmps81 rfl h ?_
  clear h hF
  refine c_seq ?_
  refine c_region ?_
  refine o_as st rfl rfl ?_
  refine c_nil ?_
  refine l_then ?_
  refine c_seq ?_
  refine c_seq ?_
  refine c_region ?_
  refine o_mv st rfl rfl ?_
  refine o_len st el54 0 rfl (reads_snap hv1) rfl rfl ?_
  refine o_mv st rfl rfl ?_
  refine o_len st el54 0 rfl (reads_snap hv3) rfl rfl ?_
  refine o_neq st und3 rfl rfl rfl ?_
  refine c_nil ?_
  refine l_then ?_
  refine c_cond rfl ?_ ?_
  · refine c_seq ?_
    refine c_region ?_
    refine o_as st rfl rfl ?_
    refine c_nil ?_
    refine l_then ?_
    refine c_ret ?_
    refine l_ret ?_
    exact l_end1 Tryd.results81 false () (rv_t rfl) (fun _ _ => NewCh.nil _ _ _ _)
  · refine c_skip ?_
    refine l_then ?_
    refine c_seq ?_
    refine c_seq ?_
    refine c_region ?_
    refine o_as st rfl rfl ?_
    refine c_nil ?_
    refine l_then ?_
    refine c_block ?_
    refine c_loop (σ := Int) (fun (t5 : Int) (a : Act) (w : World) => Has 27 [(0, v1), (1, v3), (5, (.int .i64 t5))] a ∧ Mem (gB F [] w0) (feet []) w0 [snapCh w0 F] w) (fun a w hE hm => ⟨hE.sub ⟨rfl, rfl, rfl, trivial⟩, (hm.pick [0] rfl)⟩) ?_
    rintro nx6 t5 a w ⟨hE, hm⟩ h
    refine nx_of hE hm h ?_
    clear hE hm h
    refine c_seq ?_
    refine c_seq ?_
    refine c_region ?_
    refine o_mv st rfl rfl ?_
    refine o_mv st rfl rfl ?_
    refine o_len st el54 0 rfl (reads_snap hv1) rfl rfl ?_
    refine o_lss st rfl rfl rfl ?_
    refine c_nil ?_
    refine l_then ?_
    refine c_cond rfl ?_ ?_
    · refine c_skip ?_
      refine l_then ?_
      refine c_seq ?_
      refine c_block ?_
      refine c_seq ?_
      refine c_draw mixed 10 rfl [snapCh w0 F] ?_
      refine o_mv (dt 0 (fun _ m => m)) rfl rfl ?_
      refine o_mv (dt 1 (fun _ m => m)) rfl rfl ?_
      refine o_idx (dt 2 (fun _ m => m)) 0 rfl (reads_snap hv1) rfl rfl rfl el54 ?_; intro e7 h8
      obtain ⟨_, ⟨v10, rfl, sl11⟩, rw9⟩ := sl_open hv1 h8
      refine o_ldR (dt 3 (fun _ m => m)) (u := (.agg #[v10, (.int .i64 e7.xAction), (.int .i64 e7.xChain)])) 0 rfl rw9 rfl rfl ty89 rfl ?_
      refine o_mv (dt 4 (fun _ m => m)) rfl rfl ?_
      refine o_mv (dt 5 (fun _ m => m)) rfl rfl ?_
      refine o_idx (dt 6 (fun _ m => m)) 0 rfl (reads_snap hv3) rfl rfl rfl el54 ?_; intro e13 h14
      obtain ⟨_, ⟨v16, rfl, sl17⟩, rw15⟩ := sl_open hv3 h14
      refine o_ldR (dt 7 (fun _ m => m)) (u := (.agg #[v16, (.int .i64 e13.xAction), (.int .i64 e13.xChain)])) 0 rfl rw15 rfl rfl ty89 rfl ?_
      refine d_one (i := 8) rfl (by kernel_rfl) (o_callP (vs := [(.agg #[v10, (.int .i64 e7.xAction), (.int .i64 e7.xChain)]), (.agg #[v16, (.int .i64 e13.xAction), (.int .i64 e13.xChain)])]) Tryd.call105 rfl rfl (by intro w m h; exact (w_laws_eqRule (F := allB [] w) (a_0 := e7) (b_1 := e13) allB_ok (m.rd0 0 rfl (reads_snap sl11)) (m.rd0 0 rfl (reads_snap sl17)) h).mono (fun _ _ k => ret_free (fun r u => fr_nil) k)) ?_); rintro r19 _
      refine d_and (fun _ m => m) ?_
      refine o_not (dt 9 (fun _ m => m)) rfl rfl ?_
      refine d_done (by kernel_rfl) ?_
      refine l_then ?_
      refine c_cond rfl ?_ ?_
      · refine c_seq ?_
        refine c_region ?_
        refine o_as st rfl rfl ?_
        refine c_nil ?_
        refine l_then ?_
        refine c_ret ?_
        refine b_ret ?_
        refine l_ret ?_
        refine l_ret ?_
        refine b_ret ?_
        refine l_ret ?_
        exact l_end1 Tryd.results81 false () (rv_t rfl) (fun _ _ => NewCh.nil _ _ _ _)
      · refine c_skip ?_
        refine b_norm ?_
        refine l_then ?_
        refine c_region ?_
        refine o_mv st rfl rfl ?_
        refine o_add st rfl rfl rfl ?_; intro t20
        refine o_as st rfl rfl ?_
        refine c_nil ?_
        exact l_join t20 (fun a w hE hm => ⟨hE.sub ⟨rfl, rfl, rfl, trivial⟩, (hm.pick [0] rfl)⟩)
    · refine c_exit ?_
      refine l_exit ?_
      refine l_exit ?_
      refine b_exit ?_
      refine l_then ?_
      refine c_seq ?_
      refine c_region ?_
      refine o_as st rfl rfl ?_
      refine c_nil ?_
      refine l_then ?_
      refine c_ret ?_
      exact l_end1 Tryd.results81 true () (rv_t rfl) (fun _ _ => NewCh.nil _ _ _ _)

set_option maxRecDepth 100000 in
set_option maxHeartbeats 8000000 in
theorem w_laws_eqRuleSS {w0 : World} {F : Nat → Prop} {v1 : Value} {v3 : Value} {a_0 : (List (List GRule))} {b_1 : (List (List GRule))} {κ : Bool → Prop} (hF : ∀ b, F b → b < w0.heap.size ∧ ¬ feet [] b) (hv1 : Sl (elSl elGRule) F w0 v1 a_0) (hv3 : Sl (elSl elGRule) F w0 v3 b_1) (h : L_laws_eqRuleSS a_0 b_1 κ) :
    Calls Tryd.prog 45 #[v1, v3] w0 (Ret [] F w0 κ (fun (r : Bool) (u : Unit) => (.bool r)) (fun (r : Bool) (u : Unit) => [])) := by
  refine enterS (args := [v1, v3]) [] hF (Given.nil _ _) Tryd.func45 rfl Tryd.ntmps45 rfl h ?_
  clear h hF
  refine c_seq ?_
  refine c_region ?_
  refine o_as st rfl rfl ?_
  refine c_nil ?_
  refine l_then ?_
  refine c_seq ?_
  refine c_seq ?_
  refine c_region ?_
  refine o_mv st rfl rfl ?_
  refine o_len st el34 0 rfl (reads_snap hv1) rfl rfl ?_
  refine o_mv st rfl rfl ?_
  refine o_len st el34 0 rfl (reads_snap hv3) rfl rfl ?_
  refine o_neq st und3 rfl rfl rfl ?_
  refine c_nil ?_
  refine l_then ?_
  refine c_cond rfl ?_ ?_
  · refine c_seq ?_
    refine c_region ?_
    refine o_as st rfl rfl ?_
    refine c_nil ?_
    refine l_then ?_
    refine c_ret ?_
    refine l_ret ?_
    exact l_end1 Tryd.results45 false () (rv_t rfl) (fun _ _ => NewCh.nil _ _ _ _)
  · refine c_skip ?_
    refine l_then ?_
    refine c_seq ?_
    refine c_seq ?_
    refine c_region ?_
    refine o_as st rfl rfl ?_
    refine c_nil ?_
    refine l_then ?_
    refine c_block ?_
    refine c_loop (σ := Int) (fun (t5 : Int) (a : Act) (w : World) => Has 27 [(0, v1), (1, v3), (5, (.int .i64 t5))] a ∧ Mem (gB F [] w0) (feet []) w0 [snapCh w0 F] w) (fun a w hE hm => ⟨hE.sub ⟨rfl, rfl, rfl, trivial⟩, (hm.pick [0] rfl)⟩) ?_
    rintro nx6 t5 a w ⟨hE, hm⟩ h
    refine nx_of hE hm h ?_
    clear hE hm h
    refine c_seq ?_
    refine c_seq ?_
    refine c_region ?_
    refine o_mv st rfl rfl ?_
    refine o_mv st rfl rfl ?_
    refine o_len st el34 0 rfl (reads_snap hv1) rfl rfl ?_
    refine o_lss st rfl rfl rfl ?_
    refine c_nil ?_
    refine l_then ?_
    refine c_cond rfl ?_ ?_
    · refine c_skip ?_
      refine l_then ?_
      refine c_seq ?_
      refine c_block ?_
      refine c_seq ?_
      refine c_draw mixed 10 rfl [snapCh w0 F] ?_
      refine o_mv (dt 0 (fun _ m => m)) rfl rfl ?_
      refine o_mv (dt 1 (fun _ m => m)) rfl rfl ?_
      refine o_idx (dt 2 (fun _ m => m)) 0 rfl (reads_snap hv1) rfl rfl rfl el34 ?_; intro e7 h8
      obtain ⟨_, ⟨v10, rfl, sl11⟩, rw9⟩ := sl_open hv1 h8
      refine o_ldR (dt 3 (fun _ m => m)) (u := v10) 0 rfl rw9 rfl rfl ty54 rfl ?_
      refine o_mv (dt 4 (fun _ m => m)) rfl rfl ?_
      refine o_mv (dt 5 (fun _ m => m)) rfl rfl ?_
      refine o_idx (dt 6 (fun _ m => m)) 0 rfl (reads_snap hv3) rfl rfl rfl el34 ?_; intro e13 h14
      obtain ⟨_, ⟨v16, rfl, sl17⟩, rw15⟩ := sl_open hv3 h14
      refine o_ldR (dt 7 (fun _ m => m)) (u := v16) 0 rfl rw15 rfl rfl ty54 rfl ?_
      refine d_one (i := 8) rfl (by kernel_rfl) (o_callP (vs := [v10, v16]) Tryd.call81 rfl rfl (by intro w m h; exact (w_laws_eqRuleS (F := allB [] w) (a_0 := e7) (b_1 := e13) allB_ok (m.rd0 0 rfl (reads_snap sl11)) (m.rd0 0 rfl (reads_snap sl17)) h).mono (fun _ _ k => ret_free (fun r u => fr_nil) k)) ?_); rintro r19 _
      refine d_and (fun _ m => m) ?_
      refine o_not (dt 9 (fun _ m => m)) rfl rfl ?_
      refine d_done (by kernel_rfl) ?_
      refine l_then ?_
      refine c_cond rfl ?_ ?_
      · refine c_seq ?_
        refine c_region ?_
        refine o_as st rfl rfl ?_
        refine c_nil ?_
        refine l_then ?_
        refine c_ret ?_
        refine b_ret ?_
        refine l_ret ?_
        refine l_ret ?_
        refine b_ret ?_
        refine l_ret ?_
        exact l_end1 Tryd.results45 false () (rv_t rfl) (fun _ _ => NewCh.nil _ _ _ _)
      · refine c_skip ?_
        refine b_norm ?_
        refine l_then ?_
        refine c_region ?_
        refine o_mv st rfl rfl ?_
        refine o_add st rfl rfl rfl ?_; intro t20
        refine o_as st rfl rfl ?_
        refine c_nil ?_
        exact l_join t20 (fun a w hE hm => ⟨hE.sub ⟨rfl, rfl, rfl, trivial⟩, (hm.pick [0] rfl)⟩)
    · refine c_exit ?_
      refine l_exit ?_
      refine l_exit ?_
      refine b_exit ?_
      refine l_then ?_
      refine c_seq ?_
      refine c_region ?_
      refine o_as st rfl rfl ?_
      refine c_nil ?_
      refine l_then ?_
      refine c_ret ?_
      exact l_end1 Tryd.results45 true () (rv_t rfl) (fun _ _ => NewCh.nil _ _ _ _)

set_option maxRecDepth 100000 in
set_option maxHeartbeats 8000000 in
theorem w_laws_eqRuleset {w0 : World} {F : Nat → Prop} {v1 : Value} {v3 : Value} {a_0 : GRuleset} {b_1 : GRuleset} {κ : Bool → Prop} (hF : ∀ b, F b → b < w0.heap.size ∧ ¬ feet [] b) (hv1 : Sl (elSl elGRule) F w0 v1 a_0.xChains) (hv3 : Sl (elSl elGRule) F w0 v3 b_1.xChains) (h : L_laws_eqRuleset a_0 b_1 κ) :
    Calls Tryd.prog 16 #[(.agg #[v1, (.bool a_0.xAccept)]), (.agg #[v3, (.bool b_1.xAccept)])] w0 (Ret [] F w0 κ (fun (r : Bool) (u : Unit) => (.bool r)) (fun (r : Bool) (u : Unit) => [])) := by
  refine enterS (args := [(.agg #[v1, (.bool a_0.xAccept)]), (.agg #[v3, (.bool b_1.xAccept)])]) [] hF (Given.nil _ _) Tryd.func16 rfl Tryd.ntmps16 rfl h ?_
  clear h hF
  refine c_seq ?_
  refine c_region ?_
  obtain ⟨a5, l6, q7, hs_⟩ := sl_val hv1; subst hs_
  refine stw (o_box rfl rfl [(.slice a5 l6 q7), (.bool a_0.xAccept)] rfl ?_); intro b8
  obtain ⟨a10, l11, q12, hs_⟩ := sl_val hv3; subst hs_
  refine stw (o_box rfl rfl [(.slice a10 l11 q12), (.bool b_1.xAccept)] rfl ?_); intro b13
  refine o_as st rfl rfl ?_
  refine c_nil ?_
  refine l_then ?_
  refine c_seq ?_
  refine c_seq ?_
  refine c_region ?_
  refine o_fad st rfl rfl fld36_0 rfl ?_
  refine o_ldc st (v := (.slice a5 l6 q7)) 1 rfl rfl rfl ty34 rfl ?_
  refine o_fad st rfl rfl fld36_0 rfl ?_
  refine o_ldc st (v := (.slice a10 l11 q12)) 0 rfl rfl rfl ty34 rfl ?_
  refine stw (o_callP (vs := [(.slice a5 l6 q7), (.slice a10 l11 q12)]) Tryd.call45 rfl rfl (by intro w m h; exact (w_laws_eqRuleSS (F := allB [] w) (a_0 := a_0.xChains) (b_1 := b_1.xChains) allB_ok (m.rd0 2 rfl (reads_snap hv1)) (m.rd0 2 rfl (reads_snap hv3)) h).mono (fun _ _ k => ret_free (fun r u => fr_nil) k)) ?_); rintro r15 _
  refine o_not st rfl rfl ?_
  refine c_nil ?_
  refine l_then ?_
  refine c_cond rfl ?_ ?_
  · refine c_seq ?_
    refine c_region ?_
    refine o_as st rfl rfl ?_
    refine c_nil ?_
    refine l_then ?_
    refine c_ret ?_
    refine l_ret ?_
    exact l_end1 Tryd.results16 false () (rv_t rfl) (fun _ _ => NewCh.nil _ _ _ _)
  · refine c_skip ?_
    refine l_then ?_
    refine c_seq ?_
    refine c_seq ?_
    refine c_region ?_
    refine o_fad st rfl rfl fld36_1 rfl ?_
    refine o_ldc st (v := (.bool a_0.xAccept)) 1 rfl rfl rfl ty4 rfl ?_
    refine o_fad st rfl rfl fld36_1 rfl ?_
    refine o_ldc st (v := (.bool b_1.xAccept)) 0 rfl rfl rfl ty4 rfl ?_
    refine o_neqB st und4 rfl rfl rfl ?_
    refine c_nil ?_
    refine l_then ?_
    refine c_cond rfl ?_ ?_
    · refine c_seq ?_
      refine c_region ?_
      refine o_as st rfl rfl ?_
      refine c_nil ?_
      refine l_then ?_
      refine c_ret ?_
      refine l_ret ?_
      exact l_end1 Tryd.results16 false () (rv_t rfl) (fun _ _ => NewCh.nil _ _ _ _)
    · refine c_skip ?_
      refine l_then ?_
      refine c_seq ?_
      refine c_region ?_
      refine o_as st rfl rfl ?_
      refine c_nil ?_
      refine l_then ?_
      refine c_ret ?_
      exact l_end1 Tryd.results16 true () (rv_t rfl) (fun _ _ => NewCh.nil _ _ _ _)

set_option maxRecDepth 100000 in
set_option maxHeartbeats 8000000 in
theorem w_laws_eqSpan {w0 : World} {F : Nat → Prop} {a_0 : GSpan} {b_1 : GSpan} {κ : Bool → Prop} (hF : ∀ b, F b → b < w0.heap.size ∧ ¬ feet [] b) (h : L_laws_eqSpan a_0 b_1 κ) :
    Calls Tryd.prog 132 #[(.agg #[(.int .i64 a_0.xLo), (.int .i64 a_0.xHi)]), (.agg #[(.int .i64 b_1.xLo), (.int .i64 b_1.xHi)])] w0 (Ret [] F w0 κ (fun (r : Bool) (u : Unit) => (.bool r)) (fun (r : Bool) (u : Unit) => [])) := by
  refine enter0 (args := [(.agg #[(.int .i64 a_0.xLo), (.int .i64 a_0.xHi)]), (.agg #[(.int .i64 b_1.xLo), (.int .i64 b_1.xHi)])]) [] hF (Given.nil _ _) Tryd.func132 rfl Tryd.ntmps132 rfl h ?_
  clear h hF
  refine c_seq ?_
  refine c_region ?_
  refine stw (o_box rfl rfl [(.int .i64 a_0.xLo), (.int .i64 a_0.xHi)] rfl ?_); intro b1
  refine stw (o_box rfl rfl [(.int .i64 b_1.xLo), (.int .i64 b_1.xHi)] rfl ?_); intro b3
  refine o_as st rfl rfl ?_
  refine c_nil ?_
  refine l_then ?_
  refine c_seq ?_
  refine c_seq ?_
  refine c_region ?_
  refine o_fad st rfl rfl fld71_0 rfl ?_
  refine o_ldc st (v := (.int .i64 a_0.xLo)) 1 rfl rfl rfl ty3 rfl ?_
  refine o_fad st rfl rfl fld71_0 rfl ?_
  refine o_ldc st (v := (.int .i64 b_1.xLo)) 0 rfl rfl rfl ty3 rfl ?_
  refine o_neq st und3 rfl rfl rfl ?_
  refine c_nil ?_
  refine l_then ?_
  refine c_cond rfl ?_ ?_
  · refine c_seq ?_
    refine c_region ?_
    refine o_as st rfl rfl ?_
    refine c_nil ?_
    refine l_then ?_
    refine c_ret ?_
    refine l_ret ?_
    exact l_end1 Tryd.results132 false () (rv_t rfl) (fun _ _ => NewCh.nil _ _ _ _)
  · refine c_skip ?_
    refine l_then ?_
    refine c_seq ?_
    refine c_seq ?_
    refine c_region ?_
    refine o_fad st rfl rfl fld71_1 rfl ?_
    refine o_ldc st (v := (.int .i64 a_0.xHi)) 1 rfl rfl rfl ty3 rfl ?_
    refine o_fad st rfl rfl fld71_1 rfl ?_
    refine o_ldc st (v := (.int .i64 b_1.xHi)) 0 rfl rfl rfl ty3 rfl ?_
    refine o_neq st und3 rfl rfl rfl ?_
    refine c_nil ?_
    refine l_then ?_
    refine c_cond rfl ?_ ?_
    · refine c_seq ?_
      refine c_region ?_
      refine o_as st rfl rfl ?_
      refine c_nil ?_
      refine l_then ?_
      refine c_ret ?_
      refine l_ret ?_
      exact l_end1 Tryd.results132 false () (rv_t rfl) (fun _ _ => NewCh.nil _ _ _ _)
    · refine c_skip ?_
      refine l_then ?_
      refine c_seq ?_
      refine c_region ?_
      refine o_as st rfl rfl ?_
      refine c_nil ?_
      refine l_then ?_
      refine c_ret ?_
      exact l_end1 Tryd.results132 true () (rv_t rfl) (fun _ _ => NewCh.nil _ _ _ _)

set_option maxRecDepth 100000 in
set_option maxHeartbeats 8000000 in
theorem w_laws_eqSpanS {w0 : World} {F : Nat → Prop} {v1 : Value} {v3 : Value} {a_0 : (List GSpan)} {b_1 : (List GSpan)} {κ : Bool → Prop} (hF : ∀ b, F b → b < w0.heap.size ∧ ¬ feet [] b) (hv1 : Sl elGSpan F w0 v1 a_0) (hv3 : Sl elGSpan F w0 v3 b_1) (h : L_laws_eqSpanS a_0 b_1 κ) :
    Calls Tryd.prog 124 #[v1, v3] w0 (Ret [] F w0 κ (fun (r : Bool) (u : Unit) => (.bool r)) (fun (r : Bool) (u : Unit) => [])) := by
  refine enterS (args := [v1, v3]) [] hF (Given.nil _ _) Tryd.func124 rfl Tryd.ntmps124 rfl h ?_
  clear h hF
  refine c_seq ?_
  refine c_region ?_
  refine o_as st rfl rfl ?_
  refine c_nil ?_
  refine l_then ?_
  refine c_seq ?_
  refine c_seq ?_
  refine c_region ?_
  refine o_mv st rfl rfl ?_
  refine o_len st el72 0 rfl (reads_snap hv1) rfl rfl ?_
  refine o_mv st rfl rfl ?_
  refine o_len st el72 0 rfl (reads_snap hv3) rfl rfl ?_
  refine o_neq st und3 rfl rfl rfl ?_
  refine c_nil ?_
  refine l_then ?_
  refine c_cond rfl ?_ ?_
  · refine c_seq ?_
    refine c_region ?_
    refine o_as st rfl rfl ?_
    refine c_nil ?_
    refine l_then ?_
    refine c_ret ?_
    refine l_ret ?_
    exact l_end1 Tryd.results124 false () (rv_t rfl) (fun _ _ => NewCh.nil _ _ _ _)
  · refine c_skip ?_
    refine l_then ?_
    refine c_seq ?_
    refine c_seq ?_
    refine c_region ?_
    refine o_as st rfl rfl ?_
    refine c_nil ?_
    refine l_then ?_
    refine c_block ?_
    refine c_loop (σ := Int) (fun (t5 : Int) (a : Act) (w : World) => Has 27 [(0, v1), (1, v3), (5, (.int .i64 t5))] a ∧ Mem (gB F [] w0) (feet []) w0 [snapCh w0 F] w) (fun a w hE hm => ⟨hE.sub ⟨rfl, rfl, rfl, trivial⟩, (hm.pick [0] rfl)⟩) ?_
    rintro nx6 t5 a w ⟨hE, hm⟩ h
    refine nx_of hE hm h ?_
    clear hE hm h
    refine c_seq ?_
    refine c_seq ?_
    refine c_region ?_
    refine o_mv st rfl rfl ?_
    refine o_mv st rfl rfl ?_
    refine o_len st el72 0 rfl (reads_snap hv1) rfl rfl ?_
    refine o_lss st rfl rfl rfl ?_
    refine c_nil ?_
    refine l_then ?_
    refine c_cond rfl ?_ ?_
    · refine c_skip ?_
      refine l_then ?_
      refine c_seq ?_
      refine c_block ?_
      refine c_seq ?_
      refine c_draw mixed 10 rfl [snapCh w0 F] ?_
      refine o_mv (dt 0 (fun _ m => m)) rfl rfl ?_
      refine o_mv (dt 1 (fun _ m => m)) rfl rfl ?_
      refine o_idx (dt 2 (fun _ m => m)) 0 rfl (reads_snap hv1) rfl rfl rfl el72 ?_; intro e7 h8
      refine o_lds (dt 3 (fun _ m => m)) (enc := encGSpan) (u := (.agg #[(.int .i64 e7.xLo), (.int .i64 e7.xHi)])) 0 rfl (reads_snap hv1) flelGSpan rfl h8 rfl rfl ty71 rfl ?_
      refine o_mv (dt 4 (fun _ m => m)) rfl rfl ?_
      refine o_mv (dt 5 (fun _ m => m)) rfl rfl ?_
      refine o_idx (dt 6 (fun _ m => m)) 0 rfl (reads_snap hv3) rfl rfl rfl el72 ?_; intro e9 h10
      refine o_lds (dt 7 (fun _ m => m)) (enc := encGSpan) (u := (.agg #[(.int .i64 e9.xLo), (.int .i64 e9.xHi)])) 0 rfl (reads_snap hv3) flelGSpan rfl h10 rfl rfl ty71 rfl ?_
      refine d_one (i := 8) rfl (by kernel_rfl) (o_callP (vs := [(.agg #[(.int .i64 e7.xLo), (.int .i64 e7.xHi)]), (.agg #[(.int .i64 e9.xLo), (.int .i64 e9.xHi)])]) Tryd.call132 rfl rfl (by intro w m h; exact (w_laws_eqSpan (F := allB [] w) (a_0 := e7) (b_1 := e9) allB_ok h).mono (fun _ _ k => ret_free (fun r u => fr_nil) k)) ?_); rintro r11 _
      refine d_and (fun _ m => m) ?_
      refine o_not (dt 9 (fun _ m => m)) rfl rfl ?_
      refine d_done (by kernel_rfl) ?_
      refine l_then ?_
      refine c_cond rfl ?_ ?_
      · refine c_seq ?_
        refine c_region ?_
        refine o_as st rfl rfl ?_
        refine c_nil ?_
        refine l_then ?_
        refine c_ret ?_
        refine b_ret ?_
        refine l_ret ?_
        refine l_ret ?_
        refine b_ret ?_
        refine l_ret ?_
        exact l_end1 Tryd.results124 false () (rv_t rfl) (fun _ _ => NewCh.nil _ _ _ _)
      · refine c_skip ?_
        refine b_norm ?_
        refine l_then ?_
        refine c_region ?_
        refine o_mv st rfl rfl ?_
        refine o_add st rfl rfl rfl ?_; intro t12
        refine o_as st rfl rfl ?_
        refine c_nil ?_
        exact l_join t12 (fun a w hE hm => ⟨hE.sub ⟨rfl, rfl, rfl, trivial⟩, (hm.pick [0] rfl)⟩)
    · refine c_exit ?_
      refine l_exit ?_
      refine l_exit ?_
      refine b_exit ?_
      refine l_then ?_
      refine c_seq ?_
      refine c_region ?_
      refine o_as st rfl rfl ?_
      refine c_nil ?_
      refine l_then ?_
      refine c_ret ?_
      exact l_end1 Tryd.results124 true () (rv_t rfl) (fun _ _ => NewCh.nil _ _ _ _)

set_option maxRecDepth 100000 in
set_option maxHeartbeats 8000000 in
theorem w_laws_eqSpanSS {w0 : World} {F : Nat → Prop} {v1 : Value} {v3 : Value} {a_0 : (List (List GSpan))} {b_1 : (List (List GSpan))} {κ : Bool → Prop} (hF : ∀ b, F b → b < w0.heap.size ∧ ¬ feet [] b) (hv1 : Sl (elSl elGSpan) F w0 v1 a_0) (hv3 : Sl (elSl elGSpan) F w0 v3 b_1) (h : L_laws_eqSpanSS a_0 b_1 κ) :
    Calls Tryd.prog 106 #[v1, v3] w0 (Ret [] F w0 κ (fun (r : Bool) (u : Unit) => (.bool r)) (fun (r : Bool) (u : Unit) => [])) := by
  refine enterS (args := [v1, v3]) [] hF (Given.nil _ _) Tryd.func106 rfl Tryd.ntmps106 rfl h ?_
  clear h hF
  refine c_seq ?_
  refine c_region ?_
  refine o_as st rfl rfl ?_
  refine c_nil ?_
  refine l_then ?_
  refine c_seq ?_
  refine c_seq ?_
  refine c_region ?_
  refine o_mv st rfl rfl ?_
  refine o_len st el83 0 rfl (reads_snap hv1) rfl rfl ?_
  refine o_mv st rfl rfl ?_
  refine o_len st el83 0 rfl (reads_snap hv3) rfl rfl ?_
  refine o_neq st und3 rfl rfl rfl ?_
  refine c_nil ?_
  refine l_then ?_
  refine c_cond rfl ?_ ?_
  · refine c_seq ?_
    refine c_region ?_
    refine o_as st rfl rfl ?_
    refine c_nil ?_
    refine l_then ?_
    refine c_ret ?_
    refine l_ret ?_
    exact l_end1 Tryd.results106 false () (rv_t rfl) (fun _ _ => NewCh.nil _ _ _ _)
  · refine c_skip ?_
    refine l_then ?_
    refine c_seq ?_
    refine c_seq ?_
    refine c_region ?_
    refine o_as st rfl rfl ?_
    refine c_nil ?_
    refine l_then ?_
    refine c_block ?_
    refine c_loop (σ := Int) (fun (t5 : Int) (a : Act) (w : World) => Has 27 [(0, v1), (1, v3), (5, (.int .i64 t5))] a ∧ Mem (gB F [] w0) (feet []) w0 [snapCh w0 F] w) (fun a w hE hm => ⟨hE.sub ⟨rfl, rfl, rfl, trivial⟩, (hm.pick [0] rfl)⟩) ?_
    rintro nx6 t5 a w ⟨hE, hm⟩ h
    refine nx_of hE hm h ?_
    clear hE hm h
    refine c_seq ?_
    refine c_seq ?_
    refine c_region ?_
    refine o_mv st rfl rfl ?_
    refine o_mv st rfl rfl ?_
    refine o_len st el83 0 rfl (reads_snap hv1) rfl rfl ?_
    refine o_lss st rfl rfl rfl ?_
    refine c_nil ?_
    refine l_then ?_
    refine c_cond rfl ?_ ?_
    · refine c_skip ?_
      refine l_then ?_
      refine c_seq ?_
      refine c_block ?_
      refine c_seq ?_
      refine c_draw mixed 10 rfl [snapCh w0 F] ?_
      refine o_mv (dt 0 (fun _ m => m)) rfl rfl ?_
      refine o_mv (dt 1 (fun _ m => m)) rfl rfl ?_
      refine o_idx (dt 2 (fun _ m => m)) 0 rfl (reads_snap hv1) rfl rfl rfl el83 ?_; intro e7 h8
      obtain ⟨_, ⟨v10, rfl, sl11⟩, rw9⟩ := sl_open hv1 h8
      refine o_ldR (dt 3 (fun _ m => m)) (u := v10) 0 rfl rw9 rfl rfl ty72 rfl ?_
      refine o_mv (dt 4 (fun _ m => m)) rfl rfl ?_
      refine o_mv (dt 5 (fun _ m => m)) rfl rfl ?_
      refine o_idx (dt 6 (fun _ m => m)) 0 rfl (reads_snap hv3) rfl rfl rfl el83 ?_; intro e13 h14
      obtain ⟨_, ⟨v16, rfl, sl17⟩, rw15⟩ := sl_open hv3 h14
      refine o_ldR (dt 7 (fun _ m => m)) (u := v16) 0 rfl rw15 rfl rfl ty72 rfl ?_
      refine d_one (i := 8) rfl (by kernel_rfl) (o_callP (vs := [v10, v16]) Tryd.call124 rfl rfl (by intro w m h; exact (w_laws_eqSpanS (F := allB [] w) (a_0 := e7) (b_1 := e13) allB_ok (m.rd0 0 rfl (reads_snap sl11)) (m.rd0 0 rfl (reads_snap sl17)) h).mono (fun _ _ k => ret_free (fun r u => fr_nil) k)) ?_); rintro r19 _
      refine d_and (fun _ m => m) ?_
      refine o_not (dt 9 (fun _ m => m)) rfl rfl ?_
      refine d_done (by kernel_rfl) ?_
      refine l_then ?_
      refine c_cond rfl ?_ ?_
      · refine c_seq ?_
        refine c_region ?_
        refine o_as st rfl rfl ?_
        refine c_nil ?_
        refine l_then ?_
        refine c_ret ?_
        refine b_ret ?_
        refine l_ret ?_
        refine l_ret ?_
        refine b_ret ?_
        refine l_ret ?_
        exact l_end1 Tryd.results106 false () (rv_t rfl) (fun _ _ => NewCh.nil _ _ _ _)
      · refine c_skip ?_
        refine b_norm ?_
        refine l_then ?_
        refine c_region ?_
        refine o_mv st rfl rfl ?_
        refine o_add st rfl rfl rfl ?_; intro t20
        refine o_as st rfl rfl ?_
        refine c_nil ?_
        exact l_join t20 (fun a w hE hm => ⟨hE.sub ⟨rfl, rfl, rfl, trivial⟩, (hm.pick [0] rfl)⟩)
    · refine c_exit ?_
      refine l_exit ?_
      refine l_exit ?_
      refine b_exit ?_
      refine l_then ?_
      refine c_seq ?_
      refine c_region ?_
      refine o_as st rfl rfl ?_
      refine c_nil ?_
      refine l_then ?_
      refine c_ret ?_
      exact l_end1 Tryd.results106 true () (rv_t rfl) (fun _ _ => NewCh.nil _ _ _ _)

set_option maxRecDepth 100000 in
set_option maxHeartbeats 8000000 in
theorem w_laws_eqBox {w0 : World} {F : Nat → Prop} {v1 : Value} {v3 : Value} {a_0 : GBox} {b_1 : GBox} {κ : Bool → Prop} (hF : ∀ b, F b → b < w0.heap.size ∧ ¬ feet [] b) (hv1 : Sl (elSl elGSpan) F w0 v1 a_0.xSides) (hv3 : Sl (elSl elGSpan) F w0 v3 b_1.xSides) (h : L_laws_eqBox a_0 b_1 κ) :
    Calls Tryd.prog 82 #[(.agg #[v1]), (.agg #[v3])] w0 (Ret [] F w0 κ (fun (r : Bool) (u : Unit) => (.bool r)) (fun (r : Bool) (u : Unit) => [])) := by
  refine enterS (args := [(.agg #[v1]), (.agg #[v3])]) [] hF (Given.nil _ _) Tryd.func82 rfl Tryd.ntmps82 rfl h ?_
  clear h hF
  refine c_seq ?_
  refine c_region ?_
  obtain ⟨a5, l6, q7, hs_⟩ := sl_val hv1; subst hs_
  refine stw (o_box rfl rfl [(.slice a5 l6 q7)] rfl ?_); intro b8
  obtain ⟨a10, l11, q12, hs_⟩ := sl_val hv3; subst hs_
  refine stw (o_box rfl rfl [(.slice a10 l11 q12)] rfl ?_); intro b13
  refine o_as st rfl rfl ?_
  refine c_nil ?_
  refine l_then ?_
  refine c_seq ?_
  refine c_seq ?_
  refine c_region ?_
  refine o_fad st rfl rfl fld85_0 rfl ?_
  refine o_ldc st (v := (.slice a5 l6 q7)) 1 rfl rfl rfl ty83 rfl ?_
  refine o_fad st rfl rfl fld85_0 rfl ?_
  refine o_ldc st (v := (.slice a10 l11 q12)) 0 rfl rfl rfl ty83 rfl ?_
  refine stw (o_callP (vs := [(.slice a5 l6 q7), (.slice a10 l11 q12)]) Tryd.call106 rfl rfl (by intro w m h; exact (w_laws_eqSpanSS (F := allB [] w) (a_0 := a_0.xSides) (b_1 := b_1.xSides) allB_ok (m.rd0 2 rfl (reads_snap hv1)) (m.rd0 2 rfl (reads_snap hv3)) h).mono (fun _ _ k => ret_free (fun r u => fr_nil) k)) ?_); rintro r15 _
  refine o_not st rfl rfl ?_
  refine c_nil ?_
  refine l_then ?_
  refine c_cond rfl ?_ ?_
  · refine c_seq ?_
    refine c_region ?_
    refine o_as st rfl rfl ?_
    refine c_nil ?_
    refine l_then ?_
    refine c_ret ?_
    refine l_ret ?_
    exact l_end1 Tryd.results82 false () (rv_t rfl) (fun _ _ => NewCh.nil _ _ _ _)
  · refine c_skip ?_
    refine l_then ?_
    refine c_seq ?_
    refine c_region ?_
    refine o_as st rfl rfl ?_
    refine c_nil ?_
    refine l_then ?_
    refine c_ret ?_
    exact l_end1 Tryd.results82 true () (rv_t rfl) (fun _ _ => NewCh.nil _ _ _ _)

set_option maxRecDepth 100000 in
set_option maxHeartbeats 8000000 in
theorem w_laws_eqFlat {w0 : World} {F : Nat → Prop} {v1 : Value} {v3 : Value} {a_0 : GFlat} {b_1 : GFlat} {κ : Bool → Prop} (hF : ∀ b, F b → b < w0.heap.size ∧ ¬ feet [] b) (hv1 : Sl (elSl elGSpan) F w0 v1 a_0.xWhere.xSides) (hv3 : Sl (elSl elGSpan) F w0 v3 b_1.xWhere.xSides) (h : L_laws_eqFlat a_0 b_1 κ) :
    Calls Tryd.prog 46 #[(.agg #[v1, (.bool a_0.xAccept)]), (.agg #[v3, (.bool b_1.xAccept)])] w0 (Ret [] F w0 κ (fun (r : Bool) (u : Unit) => (.bool r)) (fun (r : Bool) (u : Unit) => [])) := by
  refine enterS (args := [(.agg #[v1, (.bool a_0.xAccept)]), (.agg #[v3, (.bool b_1.xAccept)])]) [] hF (Given.nil _ _) Tryd.func46 rfl Tryd.ntmps46 rfl h ?_
  clear h hF
  refine c_seq ?_
  refine c_region ?_
  obtain ⟨a5, l6, q7, hs_⟩ := sl_val hv1; subst hs_
  refine stw (o_box rfl rfl [(.slice a5 l6 q7), (.bool a_0.xAccept)] rfl ?_); intro b8
  obtain ⟨a10, l11, q12, hs_⟩ := sl_val hv3; subst hs_
  refine stw (o_box rfl rfl [(.slice a10 l11 q12), (.bool b_1.xAccept)] rfl ?_); intro b13
  refine o_as st rfl rfl ?_
  refine c_nil ?_
  refine l_then ?_
  refine c_seq ?_
  refine c_seq ?_
  refine c_region ?_
  refine o_fad st rfl rfl fld87_0 rfl ?_
  refine o_ldc st (v := (.agg #[(.slice a5 l6 q7)])) 1 rfl rfl rfl ty85 rfl ?_
  refine o_fad st rfl rfl fld87_0 rfl ?_
  refine o_ldc st (v := (.agg #[(.slice a10 l11 q12)])) 0 rfl rfl rfl ty85 rfl ?_
  refine stw (o_callP (vs := [(.agg #[(.slice a5 l6 q7)]), (.agg #[(.slice a10 l11 q12)])]) Tryd.call82 rfl rfl (by intro w m h; exact (w_laws_eqBox (F := allB [] w) (a_0 := a_0.xWhere) (b_1 := b_1.xWhere) allB_ok (m.rd0 2 rfl (reads_snap hv1)) (m.rd0 2 rfl (reads_snap hv3)) h).mono (fun _ _ k => ret_free (fun r u => fr_nil) k)) ?_); rintro r15 _
  refine o_not st rfl rfl ?_
  refine c_nil ?_
  refine l_then ?_
  refine c_cond rfl ?_ ?_
  · refine c_seq ?_
    refine c_region ?_
    refine o_as st rfl rfl ?_
    refine c_nil ?_
    refine l_then ?_
    refine c_ret ?_
    refine l_ret ?_
    exact l_end1 Tryd.results46 false () (rv_t rfl) (fun _ _ => NewCh.nil _ _ _ _)
  · refine c_skip ?_
    refine l_then ?_
    refine c_seq ?_
    refine c_seq ?_
    refine c_region ?_
    refine o_fad st rfl rfl fld87_1 rfl ?_
    refine o_ldc st (v := (.bool a_0.xAccept)) 1 rfl rfl rfl ty4 rfl ?_
    refine o_fad st rfl rfl fld87_1 rfl ?_
    refine o_ldc st (v := (.bool b_1.xAccept)) 0 rfl rfl rfl ty4 rfl ?_
    refine o_neqB st und4 rfl rfl rfl ?_
    refine c_nil ?_
    refine l_then ?_
    refine c_cond rfl ?_ ?_
    · refine c_seq ?_
      refine c_region ?_
      refine o_as st rfl rfl ?_
      refine c_nil ?_
      refine l_then ?_
      refine c_ret ?_
      refine l_ret ?_
      exact l_end1 Tryd.results46 false () (rv_t rfl) (fun _ _ => NewCh.nil _ _ _ _)
    · refine c_skip ?_
      refine l_then ?_
      refine c_seq ?_
      refine c_region ?_
      refine o_as st rfl rfl ?_
      refine c_nil ?_
      refine l_then ?_
      refine c_ret ?_
      exact l_end1 Tryd.results46 true () (rv_t rfl) (fun _ _ => NewCh.nil _ _ _ _)

set_option maxRecDepth 100000 in
set_option maxHeartbeats 8000000 in
theorem w_laws_eqFlatS {w0 : World} {F : Nat → Prop} {v1 : Value} {v3 : Value} {a_0 : (List GFlat)} {b_1 : (List GFlat)} {κ : Bool → Prop} (hF : ∀ b, F b → b < w0.heap.size ∧ ¬ feet [] b) (hv1 : Sl elGFlat F w0 v1 a_0) (hv3 : Sl elGFlat F w0 v3 b_1) (h : L_laws_eqFlatS a_0 b_1 κ) :
    Calls Tryd.prog 17 #[v1, v3] w0 (Ret [] F w0 κ (fun (r : Bool) (u : Unit) => (.bool r)) (fun (r : Bool) (u : Unit) => [])) := by
  refine enterS (args := [v1, v3]) [] hF (Given.nil _ _) Tryd.func17 rfl Tryd.ntmps17 rfl h ?_
  clear h hF
  refine c_seq ?_
  refine c_region ?_
  refine o_as st rfl rfl ?_
  refine c_nil ?_
  refine l_then ?_
  refine c_seq ?_
  refine c_seq ?_
  refine c_region ?_
  refine o_mv st rfl rfl ?_
  refine o_len st el23 0 rfl (reads_snap hv1) rfl rfl ?_
  refine o_mv st rfl rfl ?_
  refine o_len st el23 0 rfl (reads_snap hv3) rfl rfl ?_
  refine o_neq st und3 rfl rfl rfl ?_
  refine c_nil ?_
  refine l_then ?_
  refine c_cond rfl ?_ ?_
  · refine c_seq ?_
    refine c_region ?_
    refine o_as st rfl rfl ?_
    refine c_nil ?_
    refine l_then ?_
    refine c_ret ?_
    refine l_ret ?_
    exact l_end1 Tryd.results17 false () (rv_t rfl) (fun _ _ => NewCh.nil _ _ _ _)
  · refine c_skip ?_
    refine l_then ?_
    refine c_seq ?_
    refine c_seq ?_
    refine c_region ?_
    refine o_as st rfl rfl ?_
    refine c_nil ?_
    refine l_then ?_
    refine c_block ?_
    refine c_loop (σ := Int) (fun (t5 : Int) (a : Act) (w : World) => Has 27 [(0, v1), (1, v3), (5, (.int .i64 t5))] a ∧ Mem (gB F [] w0) (feet []) w0 [snapCh w0 F] w) (fun a w hE hm => ⟨hE.sub ⟨rfl, rfl, rfl, trivial⟩, (hm.pick [0] rfl)⟩) ?_
    rintro nx6 t5 a w ⟨hE, hm⟩ h
    refine nx_of hE hm h ?_
    clear hE hm h
    refine c_seq ?_
    refine c_seq ?_
    refine c_region ?_
    refine o_mv st rfl rfl ?_
    refine o_mv st rfl rfl ?_
    refine o_len st el23 0 rfl (reads_snap hv1) rfl rfl ?_
    refine o_lss st rfl rfl rfl ?_
    refine c_nil ?_
    refine l_then ?_
    refine c_cond rfl ?_ ?_
    · refine c_skip ?_
      refine l_then ?_
      refine c_seq ?_
      refine c_block ?_
      refine c_seq ?_
      refine c_draw mixed 10 rfl [snapCh w0 F] ?_
      refine o_mv (dt 0 (fun _ m => m)) rfl rfl ?_
      refine o_mv (dt 1 (fun _ m => m)) rfl rfl ?_
      refine o_idx (dt 2 (fun _ m => m)) 0 rfl (reads_snap hv1) rfl rfl rfl el23 ?_; intro e7 h8
      obtain ⟨_, ⟨v10, rfl, sl11⟩, rw9⟩ := sl_open hv1 h8
      refine o_ldR (dt 3 (fun _ m => m)) (u := (.agg #[v10, (.bool e7.xAccept)])) 0 rfl rw9 rfl rfl ty87 rfl ?_
      refine o_mv (dt 4 (fun _ m => m)) rfl rfl ?_
      refine o_mv (dt 5 (fun _ m => m)) rfl rfl ?_
      refine o_idx (dt 6 (fun _ m => m)) 0 rfl (reads_snap hv3) rfl rfl rfl el23 ?_; intro e13 h14
      obtain ⟨_, ⟨v16, rfl, sl17⟩, rw15⟩ := sl_open hv3 h14
      refine o_ldR (dt 7 (fun _ m => m)) (u := (.agg #[v16, (.bool e13.xAccept)])) 0 rfl rw15 rfl rfl ty87 rfl ?_
      refine d_one (i := 8) rfl (by kernel_rfl) (o_callP (vs := [(.agg #[v10, (.bool e7.xAccept)]), (.agg #[v16, (.bool e13.xAccept)])]) Tryd.call46 rfl rfl (by intro w m h; exact (w_laws_eqFlat (F := allB [] w) (a_0 := e7) (b_1 := e13) allB_ok (m.rd0 0 rfl (reads_snap sl11)) (m.rd0 0 rfl (reads_snap sl17)) h).mono (fun _ _ k => ret_free (fun r u => fr_nil) k)) ?_); rintro r19 _
      refine d_and (fun _ m => m) ?_
      refine o_not (dt 9 (fun _ m => m)) rfl rfl ?_
      refine d_done (by kernel_rfl) ?_
      refine l_then ?_
      refine c_cond rfl ?_ ?_
      · refine c_seq ?_
        refine c_region ?_
        refine o_as st rfl rfl ?_
        refine c_nil ?_
        refine l_then ?_
        refine c_ret ?_
        refine b_ret ?_
        refine l_ret ?_
        refine l_ret ?_
        refine b_ret ?_
        refine l_ret ?_
        exact l_end1 Tryd.results17 false () (rv_t rfl) (fun _ _ => NewCh.nil _ _ _ _)
      · refine c_skip ?_
        refine b_norm ?_
        refine l_then ?_
        refine c_region ?_
        refine o_mv st rfl rfl ?_
        refine o_add st rfl rfl rfl ?_; intro t20
        refine o_as st rfl rfl ?_
        refine c_nil ?_
        exact l_join t20 (fun a w hE hm => ⟨hE.sub ⟨rfl, rfl, rfl, trivial⟩, (hm.pick [0] rfl)⟩)
    · refine c_exit ?_
      refine l_exit ?_
      refine l_exit ?_
      refine b_exit ?_
      refine l_then ?_
      refine c_seq ?_
      refine c_region ?_
      refine o_as st rfl rfl ?_
      refine c_nil ?_
      refine l_then ?_
      refine c_ret ?_
      exact l_end1 Tryd.results17 true () (rv_t rfl) (fun _ _ => NewCh.nil _ _ _ _)

set_option maxRecDepth 100000 in
set_option maxHeartbeats 8000000 in
theorem w_laws_markSpanS {w0 : World} {F : Nat → Prop} {v1 : Value} {a_0 : (List GSpan)} {k_1 : Int} {κ : (Int × (List GSpan)) → Prop} (hF : ∀ b, F b → b < w0.heap.size ∧ ¬ feet [ownCh elGSpan 71 v1 a_0] b) (hg : Given [ownCh elGSpan 71 v1 a_0] F w0) (h : L_laws_markSpanS a_0 k_1 κ) :
    Calls Tryd.prog 83 #[v1, (.int .i64 k_1)] w0 (Ret [ownCh elGSpan 71 v1 a_0] F w0 κ (fun (r : (Int × (List GSpan))) (u : Unit) => (.int .i64 r.1)) (fun (r : (Int × (List GSpan))) (u : Unit) => [ownCh elGSpan 71 v1 r.2])) := by
  refine enter0 (args := [v1, (.int .i64 k_1)]) [ownCh elGSpan 71 v1 a_0] hF hg Tryd.func83 rfl Tryd.ntmps83 rfl h ?_
  clear h hF hg
  refine c_seq ?_
  refine c_region ?_
  refine o_as st rfl rfl ?_
  refine c_nil ?_
  refine l_then ?_
  refine c_seq ?_
  refine c_seq ?_
  refine c_region ?_
  refine o_as st rfl rfl ?_
  refine c_nil ?_
  refine l_then ?_
  refine c_block ?_
  refine c_loop (σ := ((List GSpan) × Int × Int)) (fun ((xs3, t5, t6) : ((List GSpan) × Int × Int)) (a : Act) (w : World) => Has 27 [(0, v1), (1, (.int .i64 t5)), (5, (.int .i64 t6))] a ∧ Mem (gB F [ownCh elGSpan 71 v1 a_0] w0) (feet [ownCh elGSpan 71 v1 a_0]) w0 [ownCh elGSpan 71 v1 xs3] w) (fun a w hE hm => ⟨hE.sub ⟨rfl, rfl, rfl, trivial⟩, (hm.pick [0] rfl)⟩) ?_
  rintro nx7 ⟨xs3, t5, t6⟩ a w ⟨hE, hm⟩ h
  refine nx_of hE hm h ?_
  clear hE hm h
  refine c_seq ?_
  refine c_seq ?_
  refine c_region ?_
  refine o_mv st rfl rfl ?_
  refine o_mv st rfl rfl ?_
  refine o_len st el72 0 rfl reads_own rfl rfl ?_
  refine o_lss st rfl rfl rfl ?_
  refine c_nil ?_
  refine l_then ?_
  refine c_cond rfl ?_ ?_
  · refine c_skip ?_
    refine l_then ?_
    refine c_seq ?_
    refine c_block ?_
    refine c_seq ?_
    refine c_region ?_
    refine o_mv st rfl rfl ?_
    refine o_mv st rfl rfl ?_
    refine o_mv st rfl rfl ?_
    refine o_idx st 0 rfl reads_own rfl rfl rfl el72 ?_; intro e8 h9
    refine o_fadS st 0 rfl reads_own h9 rfl rfl fld71_0 rfl ?_
    refine stw (o_sts (enc := encGSpan) (y' := (GSpan.mk t5 e8.xHi)) 0 rfl flelGSpan rfl h9 ty3 rfl rfl rfl rfl rfl rfl ?_)
    refine c_nil ?_
    refine l_then ?_
    refine c_seq ?_
    refine c_region ?_
    refine o_mv st rfl rfl ?_
    refine o_add st rfl rfl rfl ?_; intro t11
    refine o_as st rfl rfl ?_
    refine c_nil ?_
    refine l_then ?_
    refine c_seq ?_
    refine c_region ?_
    refine o_mv st rfl rfl ?_
    refine o_mv st rfl rfl ?_
    refine o_mv st rfl rfl ?_
    refine o_idx st 0 rfl reads_own rfl rfl rfl el72 ?_; intro e12 h13
    refine o_fadS st 0 rfl reads_own h13 rfl rfl fld71_1 rfl ?_
    refine stw (o_sts (enc := encGSpan) (y' := (GSpan.mk e12.xLo t11)) 0 rfl flelGSpan rfl h13 ty3 rfl rfl rfl rfl rfl rfl ?_)
    refine c_nil ?_
    refine l_then ?_
    refine c_region ?_
    refine o_mv st rfl rfl ?_
    refine o_add st rfl rfl rfl ?_; intro t15
    refine o_as st rfl rfl ?_
    refine c_nil ?_
    refine b_norm ?_
    refine l_then ?_
    refine c_region ?_
    refine o_mv st rfl rfl ?_
    refine o_add st rfl rfl rfl ?_; intro t16
    refine o_as st rfl rfl ?_
    refine c_nil ?_
    exact l_join (((xs3.set (t6).toNat (GSpan.mk t5 e8.xHi)).set (t6).toNat (GSpan.mk e12.xLo t11)), t15, t16) (fun a w hE hm => ⟨hE.sub ⟨rfl, rfl, rfl, trivial⟩, (hm.pick [0] rfl)⟩)
  · refine c_exit ?_
    refine l_exit ?_
    refine l_exit ?_
    refine b_exit ?_
    refine l_then ?_
    refine c_seq ?_
    refine c_region ?_
    refine o_mv st rfl rfl ?_
    refine o_as st rfl rfl ?_
    refine c_nil ?_
    refine l_then ?_
    refine c_ret ?_
    exact l_end1 Tryd.results83 (t5, xs3) () (rv_t rfl) (fun w m => NewCh.ofB m [0] rfl)

set_option maxRecDepth 100000 in
set_option maxHeartbeats 8000000 in
theorem w_laws_markSpanSS {w0 : World} {F : Nat → Prop} {v1 : Value} {bb2 : List Nat} {a_0 : (List (List GSpan))} {k_1 : Int} {κ : (Int × (List (List GSpan))) → Prop} (hF : ∀ b, F b → b < w0.heap.size ∧ ¬ feet [dpCh (dSl dGSpan 71) 72 bb2 v1 a_0] b) (hg : Given [dpCh (dSl dGSpan 71) 72 bb2 v1 a_0] F w0) (h : L_laws_markSpanSS a_0 k_1 κ) :
    Calls Tryd.prog 47 #[v1, (.int .i64 k_1)] w0 (Ret [dpCh (dSl dGSpan 71) 72 bb2 v1 a_0] F w0 κ (fun (r : (Int × (List (List GSpan)))) (u : List Nat) => (.int .i64 r.1)) (fun (r : (Int × (List (List GSpan)))) (u : List Nat) => [dpCh (dSl dGSpan 71) 72 u v1 r.2])) := by
  refine enter0 (args := [v1, (.int .i64 k_1)]) [dpCh (dSl dGSpan 71) 72 bb2 v1 a_0] hF hg Tryd.func47 rfl Tryd.ntmps47 rfl h ?_
  clear h hF hg
  refine c_seq ?_
  refine c_region ?_
  refine o_as st rfl rfl ?_
  refine c_nil ?_
  refine l_then ?_
  refine c_seq ?_
  refine c_seq ?_
  refine c_region ?_
  refine o_as st rfl rfl ?_
  refine c_nil ?_
  refine l_then ?_
  refine c_block ?_
  refine c_loop (σ := ((List (List GSpan)) × Int × Int)) (fun ((xs4, t7, t8) : ((List (List GSpan)) × Int × Int)) (a : Act) (w : World) => ∃ (bb6 : List Nat), Has 19 [(0, v1), (1, (.int .i64 t7)), (5, (.int .i64 t8))] a ∧ Mem (gB F [dpCh (dSl dGSpan 71) 72 bb2 v1 a_0] w0) (feet [dpCh (dSl dGSpan 71) 72 bb2 v1 a_0]) w0 [dpCh (dSl dGSpan 71) 72 bb6 v1 xs4] w) (fun a w hE hm => ⟨bb2, hE.sub ⟨rfl, rfl, rfl, trivial⟩, (hm.pick [0] rfl)⟩) ?_
  rintro nx9 ⟨xs4, t7, t8⟩ a w ⟨bb6, hE, hm⟩ h
  refine nx_of hE hm h ?_
  clear hE hm h
  refine c_seq ?_
  refine c_seq ?_
  refine c_region ?_
  refine o_mv st rfl rfl ?_
  refine o_mv st rfl rfl ?_
  refine o_len st el83 0 rfl reads_dp rfl rfl ?_
  refine o_lss st rfl rfl rfl ?_
  refine c_nil ?_
  refine l_then ?_
  refine c_cond rfl ?_ ?_
  · refine c_skip ?_
    refine l_then ?_
    refine c_seq ?_
    refine c_block ?_
    refine c_region ?_
    refine o_mv st rfl rfl ?_
    refine o_mv st rfl rfl ?_
    refine o_idx st 0 rfl reads_dp rfl rfl rfl el83 ?_; intro e10 h11
    refine stw (o_ldF (E1 := dGSpan) (t1 := 71) (zin := e10) (encz := fun v => [v]) rfl h11 (fun B w cs h => h) rfl rfl ty72 ?_); rintro v12 bb13 bb14; refine ⟨v12, rfl, ?_⟩; refine nx_flatdp 1 rfl ?_
    refine o_mv st rfl rfl ?_
    refine pk [1, 0] rfl ?_
    refine stw (o_call (vs := [v12, (.int .i64 t7)]) (M0 := [ownCh elGSpan 71 v12 e10]) Tryd.call83 rfl rfl (by intro w m h; exact (w_laws_markSpanS (F := allB [ownCh elGSpan 71 v12 e10] w) (a_0 := e10) (k_1 := t7) allB_ok m.given h).mono (fun _ _ k => ret_free (fun r u => (fr_cons (free_own flelGSpan) fr_nil)) k)) ?_); rintro ⟨r16, r17⟩ _
    refine o_as st rfl rfl ?_
    refine c_nil ?_
    refine b_norm ?_
    refine l_then ?_
    refine c_region ?_
    refine o_mv st rfl rfl ?_
    refine o_add st rfl rfl rfl ?_; intro t19
    refine o_as st rfl rfl ?_
    refine c_nil ?_
    refine pk [1, 0] rfl ?_
    refine nx_close (M := [ownCh elGSpan 71 v12 r17]) (y' := r17) (absorb_one (gives_own flelGSpan) (fun B w h => ⟨_, rfl, h⟩)) ?_; intro bb20
    exact l_join ((xs4.set (t8).toNat r17), r16, t19) (fun a w hE hm => ⟨bb20, hE.sub ⟨rfl, rfl, rfl, trivial⟩, (hm.pick [0] rfl)⟩)
  · refine c_exit ?_
    refine l_exit ?_
    refine l_exit ?_
    refine b_exit ?_
    refine l_then ?_
    refine c_seq ?_
    refine c_region ?_
    refine o_mv st rfl rfl ?_
    refine o_as st rfl rfl ?_
    refine c_nil ?_
    refine l_then ?_
    refine c_ret ?_
    exact l_end1 Tryd.results47 (t7, xs4) bb6 (rv_t rfl) (fun w m => NewCh.ofB m [0] rfl)

set_option maxRecDepth 100000 in
set_option maxHeartbeats 8000000 in
theorem w_laws_markFlatS {w0 : World} {F : Nat → Prop} {v1 : Value} {bb2 : List Nat} {a_0 : (List GFlat)} {k_1 : Int} {κ : (Int × (List GFlat)) → Prop} (hF : ∀ b, F b → b < w0.heap.size ∧ ¬ feet [dpCh dGFlat 87 bb2 v1 a_0] b) (hg : Given [dpCh dGFlat 87 bb2 v1 a_0] F w0) (h : L_laws_markFlatS a_0 k_1 κ) :
    Calls Tryd.prog 18 #[v1, (.int .i64 k_1)] w0 (Ret [dpCh dGFlat 87 bb2 v1 a_0] F w0 κ (fun (r : (Int × (List GFlat))) (u : List Nat) => (.int .i64 r.1)) (fun (r : (Int × (List GFlat))) (u : List Nat) => [dpCh dGFlat 87 u v1 r.2])) := by
  refine enter0 (args := [v1, (.int .i64 k_1)]) [dpCh dGFlat 87 bb2 v1 a_0] hF hg Tryd.func18 rfl Tryd.ntmps18 rfl h ?_
  clear h hF hg
  refine c_seq ?_
  refine c_region ?_
  refine o_as st rfl rfl ?_
  refine c_nil ?_
  refine l_then ?_
  refine c_seq ?_
  refine c_seq ?_
  refine c_region ?_
  refine o_as st rfl rfl ?_
  refine c_nil ?_
  refine l_then ?_
  refine c_block ?_
  refine c_loop (σ := ((List GFlat) × Int × Int)) (fun ((xs4, t7, t8) : ((List GFlat) × Int × Int)) (a : Act) (w : World) => ∃ (bb6 : List Nat), Has 30 [(0, v1), (1, (.int .i64 t7)), (5, (.int .i64 t8))] a ∧ Mem (gB F [dpCh dGFlat 87 bb2 v1 a_0] w0) (feet [dpCh dGFlat 87 bb2 v1 a_0]) w0 [dpCh dGFlat 87 bb6 v1 xs4] w) (fun a w hE hm => ⟨bb2, hE.sub ⟨rfl, rfl, rfl, trivial⟩, (hm.pick [0] rfl)⟩) ?_
  rintro nx9 ⟨xs4, t7, t8⟩ a w ⟨bb6, hE, hm⟩ h
  refine nx_of hE hm h ?_
  clear hE hm h
  refine c_seq ?_
  refine c_seq ?_
  refine c_region ?_
  refine o_mv st rfl rfl ?_
  refine o_mv st rfl rfl ?_
  refine o_len st el23 0 rfl reads_dp rfl rfl ?_
  refine o_lss st rfl rfl rfl ?_
  refine c_nil ?_
  refine l_then ?_
  refine c_cond rfl ?_ ?_
  · refine c_skip ?_
    refine l_then ?_
    refine c_seq ?_
    refine c_block ?_
    refine c_seq ?_
    refine c_region ?_
    refine o_mv st rfl rfl ?_
    refine o_mv st rfl rfl ?_
    refine o_idx st 0 rfl reads_dp rfl rfl rfl el23 ?_; intro e10 h11
    refine o_fadS st 0 rfl reads_dp h11 rfl rfl fld87_0 rfl ?_
    refine o_fadS st 0 rfl reads_dp h11 rfl rfl fld85_0 rfl ?_
    refine stw (o_ldF (E1 := (dSl dGSpan 71)) (t1 := 72) (zin := e10.xWhere.xSides) (encz := fun v => [v, (.bool e10.xAccept)]) rfl h11 (fun B w cs h => h) rfl rfl ty83 ?_); rintro v12 bb13 bb14; refine ⟨v12, rfl, ?_⟩
    refine o_mv st rfl rfl ?_
    refine pk [1, 0] rfl ?_
    refine stw (o_call (vs := [v12, (.int .i64 t7)]) (M0 := [dpCh (dSl dGSpan 71) 72 bb14 v12 e10.xWhere.xSides]) Tryd.call47 rfl rfl (by intro w m h; exact (w_laws_markSpanSS (F := allB [dpCh (dSl dGSpan 71) 72 bb14 v12 e10.xWhere.xSides] w) (a_0 := e10.xWhere.xSides) (k_1 := t7) allB_ok m.given h).mono (fun _ _ k => ret_free (fun r u => (fr_cons free_dp fr_nil)) k)) ?_); rintro ⟨r16, r17⟩ bb18
    refine o_as st rfl rfl ?_
    refine c_nil ?_
    refine l_then ?_
    refine c_seq ?_
    refine c_region ?_
    refine o_mv st rfl rfl ?_
    refine o_mv st rfl rfl ?_
    refine o_mv st rfl rfl ?_
    refine o_rem st rfl rfl rfl ?_; intro t20
    refine o_eql st und3 rfl rfl rfl ?_
    refine pk [1, 0] rfl ?_
    refine nx_close (M := [dpCh (dSl dGSpan 71) 72 bb18 v12 r17]) (y' := (GFlat.mk (GBox.mk r17) e10.xAccept)) (absorb_one gives_dp (fun B w h => ⟨_, rfl, h⟩)) ?_; intro bb21
    refine o_idx st 0 rfl reads_dp rfl rfl rfl el23 ?_; intro e23 h24
    refine o_fadS st 0 rfl reads_dp h24 rfl rfl fld87_1 rfl ?_
    refine stw (o_stP (y' := (GFlat.mk e23.xWhere (decide (t20 = 0)))) 0 rfl rfl h24 (fun w B cz h => by obtain ⟨u, rfl, h⟩ := h; exact ⟨u, rfl, h⟩) ty4 rfl rfl rfl rfl rfl ?_)
    refine c_nil ?_
    refine l_then ?_
    refine c_region ?_
    refine o_mv st rfl rfl ?_
    refine o_add st rfl rfl rfl ?_; intro t26
    refine o_as st rfl rfl ?_
    refine c_nil ?_
    refine b_norm ?_
    refine l_then ?_
    refine c_region ?_
    refine o_mv st rfl rfl ?_
    refine o_add st rfl rfl rfl ?_; intro t27
    refine o_as st rfl rfl ?_
    refine c_nil ?_
    exact l_join (((xs4.set (t8).toNat (GFlat.mk (GBox.mk r17) e10.xAccept)).set (t8).toNat (GFlat.mk e23.xWhere (decide (t20 = 0)))), t26, t27) (fun a w hE hm => ⟨bb21, hE.sub ⟨rfl, rfl, rfl, trivial⟩, (hm.pick [0] rfl)⟩)
  · refine c_exit ?_
    refine l_exit ?_
    refine l_exit ?_
    refine b_exit ?_
    refine l_then ?_
    refine c_seq ?_
    refine c_region ?_
    refine o_mv st rfl rfl ?_
    refine o_as st rfl rfl ?_
    refine c_nil ?_
    refine l_then ?_
    refine c_ret ?_
    exact l_end1 Tryd.results18 (t7, xs4) bb6 (rv_t rfl) (fun w m => NewCh.ofB m [0] rfl)

set_option maxRecDepth 100000 in
set_option maxHeartbeats 8000000 in
theorem w_laws_markTestS {w0 : World} {F : Nat → Prop} {v1 : Value} {a_0 : (List GTest)} {k_1 : Int} {κ : (Int × (List GTest)) → Prop} (hF : ∀ b, F b → b < w0.heap.size ∧ ¬ feet [ownCh elGTest 125 v1 a_0] b) (hg : Given [ownCh elGTest 125 v1 a_0] F w0) (h : L_laws_markTestS a_0 k_1 κ) :
    Calls Tryd.prog 107 #[v1, (.int .i64 k_1)] w0 (Ret [ownCh elGTest 125 v1 a_0] F w0 κ (fun (r : (Int × (List GTest))) (u : Unit) => (.int .i64 r.1)) (fun (r : (Int × (List GTest))) (u : Unit) => [ownCh elGTest 125 v1 r.2])) := by
  refine enter0 (args := [v1, (.int .i64 k_1)]) [ownCh elGTest 125 v1 a_0] hF hg Tryd.func107 rfl Tryd.ntmps107 rfl h ?_
  clear h hF hg
  refine c_seq ?_
  refine c_region ?_
  refine o_as st rfl rfl ?_
  refine c_nil ?_
  refine l_then ?_
  refine c_seq ?_
  refine c_seq ?_
  refine c_region ?_
  refine o_as st rfl rfl ?_
  refine c_nil ?_
  refine l_then ?_
  refine c_block ?_
  refine c_loop (σ := ((List GTest) × Int × Int)) (fun ((xs3, t5, t6) : ((List GTest) × Int × Int)) (a : Act) (w : World) => Has 43 [(0, v1), (1, (.int .i64 t5)), (5, (.int .i64 t6))] a ∧ Mem (gB F [ownCh elGTest 125 v1 a_0] w0) (feet [ownCh elGTest 125 v1 a_0]) w0 [ownCh elGTest 125 v1 xs3] w) (fun a w hE hm => ⟨hE.sub ⟨rfl, rfl, rfl, trivial⟩, (hm.pick [0] rfl)⟩) ?_
  rintro nx7 ⟨xs3, t5, t6⟩ a w ⟨hE, hm⟩ h
  refine nx_of hE hm h ?_
  clear hE hm h
  refine c_seq ?_
  refine c_seq ?_
  refine c_region ?_
  refine o_mv st rfl rfl ?_
  refine o_mv st rfl rfl ?_
  refine o_len st el80 0 rfl reads_own rfl rfl ?_
  refine o_lss st rfl rfl rfl ?_
  refine c_nil ?_
  refine l_then ?_
  refine c_cond rfl ?_ ?_
  · refine c_skip ?_
    refine l_then ?_
    refine c_seq ?_
    refine c_block ?_
    refine c_seq ?_
    refine c_region ?_
    refine o_mv st rfl rfl ?_
    refine o_mv st rfl rfl ?_
    refine o_mv st rfl rfl ?_
    refine o_idx st 0 rfl reads_own rfl rfl rfl el80 ?_; intro e8 h9
    refine o_fadS st 0 rfl reads_own h9 rfl rfl fld125_0 rfl ?_
    refine stw (o_sts (enc := encGTest) (y' := (GTest.mk t5 e8.xLo e8.xHi e8.xNot)) 0 rfl flelGTest rfl h9 ty3 rfl rfl rfl rfl rfl rfl ?_)
    refine c_nil ?_
    refine l_then ?_
    refine c_seq ?_
    refine c_region ?_
    refine o_mv st rfl rfl ?_
    refine o_add st rfl rfl rfl ?_; intro t11
    refine o_as st rfl rfl ?_
    refine c_nil ?_
    refine l_then ?_
    refine c_seq ?_
    refine c_region ?_
    refine o_mv st rfl rfl ?_
    refine o_mv st rfl rfl ?_
    refine o_mv st rfl rfl ?_
    refine o_idx st 0 rfl reads_own rfl rfl rfl el80 ?_; intro e12 h13
    refine o_fadS st 0 rfl reads_own h13 rfl rfl fld125_1 rfl ?_
    refine stw (o_sts (enc := encGTest) (y' := (GTest.mk e12.xField t11 e12.xHi e12.xNot)) 0 rfl flelGTest rfl h13 ty3 rfl rfl rfl rfl rfl rfl ?_)
    refine c_nil ?_
    refine l_then ?_
    refine c_seq ?_
    refine c_region ?_
    refine o_mv st rfl rfl ?_
    refine o_add st rfl rfl rfl ?_; intro t15
    refine o_as st rfl rfl ?_
    refine c_nil ?_
    refine l_then ?_
    refine c_seq ?_
    refine c_region ?_
    refine o_mv st rfl rfl ?_
    refine o_mv st rfl rfl ?_
    refine o_mv st rfl rfl ?_
    refine o_idx st 0 rfl reads_own rfl rfl rfl el80 ?_; intro e16 h17
    refine o_fadS st 0 rfl reads_own h17 rfl rfl fld125_2 rfl ?_
    refine stw (o_sts (enc := encGTest) (y' := (GTest.mk e16.xField e16.xLo t15 e16.xNot)) 0 rfl flelGTest rfl h17 ty3 rfl rfl rfl rfl rfl rfl ?_)
    refine c_nil ?_
    refine l_then ?_
    refine c_seq ?_
    refine c_region ?_
    refine o_mv st rfl rfl ?_
    refine o_add st rfl rfl rfl ?_; intro t19
    refine o_as st rfl rfl ?_
    refine c_nil ?_
    refine l_then ?_
    refine c_seq ?_
    refine c_region ?_
    refine o_mv st rfl rfl ?_
    refine o_mv st rfl rfl ?_
    refine o_mv st rfl rfl ?_
    refine o_rem st rfl rfl rfl ?_; intro t20
    refine o_eql st und3 rfl rfl rfl ?_
    refine o_idx st 0 rfl reads_own rfl rfl rfl el80 ?_; intro e21 h22
    refine o_fadS st 0 rfl reads_own h22 rfl rfl fld125_3 rfl ?_
    refine stw (o_sts (enc := encGTest) (y' := (GTest.mk e21.xField e21.xLo e21.xHi (decide (t20 = 0)))) 0 rfl flelGTest rfl h22 ty4 rfl rfl rfl rfl rfl rfl ?_)
    refine c_nil ?_
    refine l_then ?_
    refine c_region ?_
    refine o_mv st rfl rfl ?_
    refine o_add st rfl rfl rfl ?_; intro t24
    refine o_as st rfl rfl ?_
    refine c_nil ?_
    refine b_norm ?_
    refine l_then ?_
    refine c_region ?_
    refine o_mv st rfl rfl ?_
    refine o_add st rfl rfl rfl ?_; intro t25
    refine o_as st rfl rfl ?_
    refine c_nil ?_
    exact l_join (((((xs3.set (t6).toNat (GTest.mk t5 e8.xLo e8.xHi e8.xNot)).set (t6).toNat (GTest.mk e12.xField t11 e12.xHi e12.xNot)).set (t6).toNat (GTest.mk e16.xField e16.xLo t15 e16.xNot)).set (t6).toNat (GTest.mk e21.xField e21.xLo e21.xHi (decide (t20 = 0)))), t24, t25) (fun a w hE hm => ⟨hE.sub ⟨rfl, rfl, rfl, trivial⟩, (hm.pick [0] rfl)⟩)
  · refine c_exit ?_
    refine l_exit ?_
    refine l_exit ?_
    refine b_exit ?_
    refine l_then ?_
    refine c_seq ?_
    refine c_region ?_
    refine o_mv st rfl rfl ?_
    refine o_as st rfl rfl ?_
    refine c_nil ?_
    refine l_then ?_
    refine c_ret ?_
    exact l_end1 Tryd.results107 (t5, xs3) () (rv_t rfl) (fun w m => NewCh.ofB m [0] rfl)

set_option maxRecDepth 100000 in
set_option maxHeartbeats 8000000 in
theorem w_laws_markRuleS {w0 : World} {F : Nat → Prop} {v1 : Value} {bb2 : List Nat} {a_0 : (List GRule)} {k_1 : Int} {κ : (Int × (List GRule)) → Prop} (hF : ∀ b, F b → b < w0.heap.size ∧ ¬ feet [dpCh dGRule 89 bb2 v1 a_0] b) (hg : Given [dpCh dGRule 89 bb2 v1 a_0] F w0) (h : L_laws_markRuleS a_0 k_1 κ) :
    Calls Tryd.prog 84 #[v1, (.int .i64 k_1)] w0 (Ret [dpCh dGRule 89 bb2 v1 a_0] F w0 κ (fun (r : (Int × (List GRule))) (u : List Nat) => (.int .i64 r.1)) (fun (r : (Int × (List GRule))) (u : List Nat) => [dpCh dGRule 89 u v1 r.2])) := by
  refine enter0 (args := [v1, (.int .i64 k_1)]) [dpCh dGRule 89 bb2 v1 a_0] hF hg Tryd.func84 rfl Tryd.ntmps84 rfl h ?_
  clear h hF hg
  refine c_seq ?_
  refine c_region ?_
  refine o_as st rfl rfl ?_
  refine c_nil ?_
  refine l_then ?_
  refine c_seq ?_
  refine c_seq ?_
  refine c_region ?_
  refine o_as st rfl rfl ?_
  refine c_nil ?_
  refine l_then ?_
  refine c_block ?_
  refine c_loop (σ := ((List GRule) × Int × Int)) (fun ((xs4, t7, t8) : ((List GRule) × Int × Int)) (a : Act) (w : World) => ∃ (bb6 : List Nat), Has 34 [(0, v1), (1, (.int .i64 t7)), (5, (.int .i64 t8))] a ∧ Mem (gB F [dpCh dGRule 89 bb2 v1 a_0] w0) (feet [dpCh dGRule 89 bb2 v1 a_0]) w0 [dpCh dGRule 89 bb6 v1 xs4] w) (fun a w hE hm => ⟨bb2, hE.sub ⟨rfl, rfl, rfl, trivial⟩, (hm.pick [0] rfl)⟩) ?_
  rintro nx9 ⟨xs4, t7, t8⟩ a w ⟨bb6, hE, hm⟩ h
  refine nx_of hE hm h ?_
  clear hE hm h
  refine c_seq ?_
  refine c_seq ?_
  refine c_region ?_
  refine o_mv st rfl rfl ?_
  refine o_mv st rfl rfl ?_
  refine o_len st el54 0 rfl reads_dp rfl rfl ?_
  refine o_lss st rfl rfl rfl ?_
  refine c_nil ?_
  refine l_then ?_
  refine c_cond rfl ?_ ?_
  · refine c_skip ?_
    refine l_then ?_
    refine c_seq ?_
    refine c_block ?_
    refine c_seq ?_
    refine c_region ?_
    refine o_mv st rfl rfl ?_
    refine o_mv st rfl rfl ?_
    refine o_idx st 0 rfl reads_dp rfl rfl rfl el54 ?_; intro e10 h11
    refine o_fadS st 0 rfl reads_dp h11 rfl rfl fld89_0 rfl ?_
    refine stw (o_ldF (E1 := dGTest) (t1 := 125) (zin := e10.xTests) (encz := fun v => [v, (.int .i64 e10.xAction), (.int .i64 e10.xChain)]) rfl h11 (fun B w cs h => h) rfl rfl ty80 ?_); rintro v12 bb13 bb14; refine ⟨v12, rfl, ?_⟩; refine nx_flatdp 1 rfl ?_
    refine o_mv st rfl rfl ?_
    refine pk [1, 0] rfl ?_
    refine stw (o_call (vs := [v12, (.int .i64 t7)]) (M0 := [ownCh elGTest 125 v12 e10.xTests]) Tryd.call107 rfl rfl (by intro w m h; exact (w_laws_markTestS (F := allB [ownCh elGTest 125 v12 e10.xTests] w) (a_0 := e10.xTests) (k_1 := t7) allB_ok m.given h).mono (fun _ _ k => ret_free (fun r u => (fr_cons (free_own flelGTest) fr_nil)) k)) ?_); rintro ⟨r16, r17⟩ _
    refine o_as st rfl rfl ?_
    refine c_nil ?_
    refine l_then ?_
    refine c_seq ?_
    refine c_region ?_
    refine o_mv st rfl rfl ?_
    refine o_mv st rfl rfl ?_
    refine o_mv st rfl rfl ?_
    refine pk [1, 0] rfl ?_
    refine nx_close (M := [ownCh elGTest 125 v12 r17]) (y' := (GRule.mk r17 e10.xAction e10.xChain)) (absorb_one (gives_own flelGTest) (fun B w h => ⟨_, rfl, h⟩)) ?_; intro bb19
    refine o_idx st 0 rfl reads_dp rfl rfl rfl el54 ?_; intro e21 h22
    refine o_fadS st 0 rfl reads_dp h22 rfl rfl fld89_1 rfl ?_
    refine stw (o_stP (y' := (GRule.mk e21.xTests r16 e21.xChain)) 0 rfl rfl h22 (fun w B cz h => by obtain ⟨u, rfl, h⟩ := h; exact ⟨u, rfl, h⟩) ty3 rfl rfl rfl rfl rfl ?_)
    refine c_nil ?_
    refine l_then ?_
    refine c_seq ?_
    refine c_region ?_
    refine o_mv st rfl rfl ?_
    refine o_add st rfl rfl rfl ?_; intro t24
    refine o_as st rfl rfl ?_
    refine c_nil ?_
    refine l_then ?_
    refine c_seq ?_
    refine c_region ?_
    refine o_mv st rfl rfl ?_
    refine o_mv st rfl rfl ?_
    refine o_mv st rfl rfl ?_
    refine o_idx st 0 rfl reads_dp rfl rfl rfl el54 ?_; intro e25 h26
    refine o_fadS st 0 rfl reads_dp h26 rfl rfl fld89_2 rfl ?_
    refine stw (o_stP (y' := (GRule.mk e25.xTests e25.xAction t24)) 0 rfl rfl h26 (fun w B cz h => by obtain ⟨u, rfl, h⟩ := h; exact ⟨u, rfl, h⟩) ty3 rfl rfl rfl rfl rfl ?_)
    refine c_nil ?_
    refine l_then ?_
    refine c_region ?_
    refine o_mv st rfl rfl ?_
    refine o_add st rfl rfl rfl ?_; intro t28
    refine o_as st rfl rfl ?_
    refine c_nil ?_
    refine b_norm ?_
    refine l_then ?_
    refine c_region ?_
    refine o_mv st rfl rfl ?_
    refine o_add st rfl rfl rfl ?_; intro t29
    refine o_as st rfl rfl ?_
    refine c_nil ?_
    exact l_join ((((xs4.set (t8).toNat (GRule.mk r17 e10.xAction e10.xChain)).set (t8).toNat (GRule.mk e21.xTests r16 e21.xChain)).set (t8).toNat (GRule.mk e25.xTests e25.xAction t24)), t28, t29) (fun a w hE hm => ⟨bb19, hE.sub ⟨rfl, rfl, rfl, trivial⟩, (hm.pick [0] rfl)⟩)
  · refine c_exit ?_
    refine l_exit ?_
    refine l_exit ?_
    refine b_exit ?_
    refine l_then ?_
    refine c_seq ?_
    refine c_region ?_
    refine o_mv st rfl rfl ?_
    refine o_as st rfl rfl ?_
    refine c_nil ?_
    refine l_then ?_
    refine c_ret ?_
    exact l_end1 Tryd.results84 (t7, xs4) bb6 (rv_t rfl) (fun w m => NewCh.ofB m [0] rfl)

set_option maxRecDepth 100000 in
set_option maxHeartbeats 8000000 in
theorem w_laws_markRuleSS {w0 : World} {F : Nat → Prop} {v1 : Value} {bb2 : List Nat} {a_0 : (List (List GRule))} {k_1 : Int} {κ : (Int × (List (List GRule))) → Prop} (hF : ∀ b, F b → b < w0.heap.size ∧ ¬ feet [dpCh (dSl dGRule 89) 54 bb2 v1 a_0] b) (hg : Given [dpCh (dSl dGRule 89) 54 bb2 v1 a_0] F w0) (h : L_laws_markRuleSS a_0 k_1 κ) :
    Calls Tryd.prog 48 #[v1, (.int .i64 k_1)] w0 (Ret [dpCh (dSl dGRule 89) 54 bb2 v1 a_0] F w0 κ (fun (r : (Int × (List (List GRule)))) (u : List Nat) => (.int .i64 r.1)) (fun (r : (Int × (List (List GRule)))) (u : List Nat) => [dpCh (dSl dGRule 89) 54 u v1 r.2])) := by
  refine enter0 (args := [v1, (.int .i64 k_1)]) [dpCh (dSl dGRule 89) 54 bb2 v1 a_0] hF hg Tryd.func48 rfl Tryd.ntmps48 rfl h ?_
  clear h hF hg
  refine c_seq ?_
  refine c_region ?_
  refine o_as st rfl rfl ?_
  refine c_nil ?_
  refine l_then ?_
  refine c_seq ?_
  refine c_seq ?_
  refine c_region ?_
  refine o_as st rfl rfl ?_
  refine c_nil ?_
  refine l_then ?_
  refine c_block ?_
  refine c_loop (σ := ((List (List GRule)) × Int × Int)) (fun ((xs4, t7, t8) : ((List (List GRule)) × Int × Int)) (a : Act) (w : World) => ∃ (bb6 : List Nat), Has 19 [(0, v1), (1, (.int .i64 t7)), (5, (.int .i64 t8))] a ∧ Mem (gB F [dpCh (dSl dGRule 89) 54 bb2 v1 a_0] w0) (feet [dpCh (dSl dGRule 89) 54 bb2 v1 a_0]) w0 [dpCh (dSl dGRule 89) 54 bb6 v1 xs4] w) (fun a w hE hm => ⟨bb2, hE.sub ⟨rfl, rfl, rfl, trivial⟩, (hm.pick [0] rfl)⟩) ?_
  rintro nx9 ⟨xs4, t7, t8⟩ a w ⟨bb6, hE, hm⟩ h
  refine nx_of hE hm h ?_
  clear hE hm h
  refine c_seq ?_
  refine c_seq ?_
  refine c_region ?_
  refine o_mv st rfl rfl ?_
  refine o_mv st rfl rfl ?_
  refine o_len st el34 0 rfl reads_dp rfl rfl ?_
  refine o_lss st rfl rfl rfl ?_
  refine c_nil ?_
  refine l_then ?_
  refine c_cond rfl ?_ ?_
  · refine c_skip ?_
    refine l_then ?_
    refine c_seq ?_
    refine c_block ?_
    refine c_region ?_
    refine o_mv st rfl rfl ?_
    refine o_mv st rfl rfl ?_
    refine o_idx st 0 rfl reads_dp rfl rfl rfl el34 ?_; intro e10 h11
    refine stw (o_ldF (E1 := dGRule) (t1 := 89) (zin := e10) (encz := fun v => [v]) rfl h11 (fun B w cs h => h) rfl rfl ty54 ?_); rintro v12 bb13 bb14; refine ⟨v12, rfl, ?_⟩
    refine o_mv st rfl rfl ?_
    refine pk [1, 0] rfl ?_
    refine stw (o_call (vs := [v12, (.int .i64 t7)]) (M0 := [dpCh dGRule 89 bb14 v12 e10]) Tryd.call84 rfl rfl (by intro w m h; exact (w_laws_markRuleS (F := allB [dpCh dGRule 89 bb14 v12 e10] w) (a_0 := e10) (k_1 := t7) allB_ok m.given h).mono (fun _ _ k => ret_free (fun r u => (fr_cons free_dp fr_nil)) k)) ?_); rintro ⟨r16, r17⟩ bb18
    refine o_as st rfl rfl ?_
    refine c_nil ?_
    refine b_norm ?_
    refine l_then ?_
    refine c_region ?_
    refine o_mv st rfl rfl ?_
    refine o_add st rfl rfl rfl ?_; intro t20
    refine o_as st rfl rfl ?_
    refine c_nil ?_
    refine pk [1, 0] rfl ?_
    refine nx_close (M := [dpCh dGRule 89 bb18 v12 r17]) (y' := r17) (absorb_one gives_dp (fun B w h => ⟨_, rfl, h⟩)) ?_; intro bb21
    exact l_join ((xs4.set (t8).toNat r17), r16, t20) (fun a w hE hm => ⟨bb21, hE.sub ⟨rfl, rfl, rfl, trivial⟩, (hm.pick [0] rfl)⟩)
  · refine c_exit ?_
    refine l_exit ?_
    refine l_exit ?_
    refine b_exit ?_
    refine l_then ?_
    refine c_seq ?_
    refine c_region ?_
    refine o_mv st rfl rfl ?_
    refine o_as st rfl rfl ?_
    refine c_nil ?_
    refine l_then ?_
    refine c_ret ?_
    exact l_end1 Tryd.results48 (t7, xs4) bb6 (rv_t rfl) (fun w m => NewCh.ofB m [0] rfl)

set_option maxRecDepth 100000 in
set_option maxHeartbeats 8000000 in
theorem w_laws_markRuleset {w0 : World} {F : Nat → Prop} {v1 : Value} {bb2 : List Nat} {a_0_Chains : (List (List GRule))} {a_0_Accept : Bool} {k_1 : Int} {κ : (Int × (List (List GRule))) → Prop} (hF : ∀ b, F b → b < w0.heap.size ∧ ¬ feet [dpCh (dSl dGRule 89) 54 bb2 v1 a_0_Chains] b) (hg : Given [dpCh (dSl dGRule 89) 54 bb2 v1 a_0_Chains] F w0) (h : L_laws_markRuleset a_0_Chains a_0_Accept k_1 κ) :
    Calls Tryd.prog 19 #[(.agg #[v1, (.bool a_0_Accept)]), (.int .i64 k_1)] w0 (Ret [dpCh (dSl dGRule 89) 54 bb2 v1 a_0_Chains] F w0 κ (fun (r : (Int × (List (List GRule)))) (u : List Nat) => (.int .i64 r.1)) (fun (r : (Int × (List (List GRule)))) (u : List Nat) => [dpCh (dSl dGRule 89) 54 u v1 r.2])) := by
  refine enter0 (args := [(.agg #[v1, (.bool a_0_Accept)]), (.int .i64 k_1)]) [dpCh (dSl dGRule 89) 54 bb2 v1 a_0_Chains] hF hg Tryd.func19 rfl Tryd.ntmps19 rfl h ?_
  clear h hF hg
  refine c_seq ?_
  refine c_region ?_
  refine stw (o_box rfl rfl [v1, (.bool a_0_Accept)] rfl ?_); intro b4
  refine o_as st rfl rfl ?_
  refine c_nil ?_
  refine l_then ?_
  refine c_seq ?_
  refine c_region ?_
  refine o_fad st rfl rfl fld36_0 rfl ?_
  refine o_ldc st (v := v1) 0 rfl rfl rfl ty34 rfl ?_
  refine o_mv st rfl rfl ?_
  refine pk [1, 0] rfl ?_
  refine stw (o_call (vs := [v1, (.int .i64 k_1)]) (M0 := [dpCh (dSl dGRule 89) 54 bb2 v1 a_0_Chains]) Tryd.call48 rfl rfl (by intro w m h; exact (w_laws_markRuleSS (F := allB [dpCh (dSl dGRule 89) 54 bb2 v1 a_0_Chains] w) (a_0 := a_0_Chains) (k_1 := k_1) allB_ok m.given h).mono (fun _ _ k => ret_free (fun r u => (fr_cons free_dp fr_nil)) k)) ?_); rintro ⟨r6, r7⟩ bb8
  refine o_as st rfl rfl ?_
  refine c_nil ?_
  refine l_then ?_
  refine c_seq ?_
  refine c_region ?_
  refine o_mv st rfl rfl ?_
  refine o_as st rfl rfl ?_
  refine c_nil ?_
  refine l_then ?_
  refine c_ret ?_
  exact l_end1 Tryd.results19 (r6, r7) bb8 (rv_t rfl) (fun w m => NewCh.ofB m [0] rfl)

set_option maxRecDepth 100000 in
set_option maxHeartbeats 8000000 in
theorem w_laws_heldTestS {w0 : World} {F : Nat → Prop} {v1 : Value} {a_0 : (List GTest)} {k_1 : Int} {κ : Int → Prop} (hF : ∀ b, F b → b < w0.heap.size ∧ ¬ feet [] b) (hv1 : Sl elGTest F w0 v1 a_0) (h : L_laws_heldTestS a_0 k_1 κ) :
    Calls Tryd.prog 108 #[v1, (.int .i64 k_1)] w0 (Ret [] F w0 κ (fun (r : Int) (u : Unit) => (.int .i64 r)) (fun (r : Int) (u : Unit) => [])) := by
  refine enterS (args := [v1, (.int .i64 k_1)]) [] hF (Given.nil _ _) Tryd.func108 rfl Tryd.ntmps108 rfl h ?_
  clear h hF
  refine c_seq ?_
  refine c_region ?_
  refine o_as st rfl rfl ?_
  refine c_nil ?_
  refine l_then ?_
  refine c_seq ?_
  refine c_seq ?_
  refine c_region ?_
  refine o_as st rfl rfl ?_
  refine c_nil ?_
  refine l_then ?_
  refine c_block ?_
  refine c_loop (σ := (Int × Int)) (fun ((t3, t4) : (Int × Int)) (a : Act) (w : World) => Has 51 [(0, v1), (1, (.int .i64 t3)), (5, (.int .i64 t4))] a ∧ Mem (gB F [] w0) (feet []) w0 [snapCh w0 F] w) (fun a w hE hm => ⟨hE.sub ⟨rfl, rfl, rfl, trivial⟩, (hm.pick [0] rfl)⟩) ?_
  rintro nx5 ⟨t3, t4⟩ a w ⟨hE, hm⟩ h
  refine nx_of hE hm h ?_
  clear hE hm h
  refine c_seq ?_
  refine c_seq ?_
  refine c_region ?_
  refine o_mv st rfl rfl ?_
  refine o_mv st rfl rfl ?_
  refine o_len st el80 0 rfl (reads_snap hv1) rfl rfl ?_
  refine o_lss st rfl rfl rfl ?_
  refine c_nil ?_
  refine l_then ?_
  refine c_cond rfl ?_ ?_
  · refine c_skip ?_
    refine l_then ?_
    refine c_seq ?_
    refine c_block ?_
    refine c_seq ?_
    refine c_seq ?_
    refine c_region ?_
    refine o_mv st rfl rfl ?_
    refine o_mv st rfl rfl ?_
    refine o_idx st 0 rfl (reads_snap hv1) rfl rfl rfl el80 ?_; intro e6 h7
    refine o_fadS st 0 rfl (reads_snap hv1) h7 rfl rfl fld125_0 rfl ?_
    refine o_lds st (enc := encGTest) (u := (.int .i64 e6.xField)) 0 rfl (reads_snap hv1) flelGTest rfl h7 rfl rfl ty3 rfl ?_
    refine o_mv st rfl rfl ?_
    refine o_neq st und3 rfl rfl rfl ?_
    refine c_nil ?_
    refine l_then ?_
    refine c_cond rfl ?_ ?_
    · refine c_seq ?_
      refine c_region ?_
      refine o_as st rfl rfl ?_
      refine c_nil ?_
      refine l_then ?_
      refine c_ret ?_
      refine l_ret ?_
      refine b_ret ?_
      refine l_ret ?_
      refine l_ret ?_
      refine b_ret ?_
      refine l_ret ?_
      exact l_end1 Tryd.results108 (-1) () (rv_t rfl) (fun _ _ => NewCh.nil _ _ _ _)
    · refine c_skip ?_
      refine l_then ?_
      refine c_seq ?_
      refine c_region ?_
      refine o_mv st rfl rfl ?_
      refine o_add st rfl rfl rfl ?_; intro t8
      refine o_as st rfl rfl ?_
      refine c_nil ?_
      refine l_then ?_
      refine c_seq ?_
      refine c_seq ?_
      refine c_region ?_
      refine o_mv st rfl rfl ?_
      refine o_mv st rfl rfl ?_
      refine o_idx st 0 rfl (reads_snap hv1) rfl rfl rfl el80 ?_; intro e9 h10
      refine o_fadS st 0 rfl (reads_snap hv1) h10 rfl rfl fld125_1 rfl ?_
      refine o_lds st (enc := encGTest) (u := (.int .i64 e9.xLo)) 0 rfl (reads_snap hv1) flelGTest rfl h10 rfl rfl ty3 rfl ?_
      refine o_mv st rfl rfl ?_
      refine o_neq st und3 rfl rfl rfl ?_
      refine c_nil ?_
      refine l_then ?_
      refine c_cond rfl ?_ ?_
      · refine c_seq ?_
        refine c_region ?_
        refine o_as st rfl rfl ?_
        refine c_nil ?_
        refine l_then ?_
        refine c_ret ?_
        refine l_ret ?_
        refine b_ret ?_
        refine l_ret ?_
        refine l_ret ?_
        refine b_ret ?_
        refine l_ret ?_
        exact l_end1 Tryd.results108 (-1) () (rv_t rfl) (fun _ _ => NewCh.nil _ _ _ _)
      · refine c_skip ?_
        refine l_then ?_
        refine c_seq ?_
        refine c_region ?_
        refine o_mv st rfl rfl ?_
        refine o_add st rfl rfl rfl ?_; intro t11
        refine o_as st rfl rfl ?_
        refine c_nil ?_
        refine l_then ?_
        refine c_seq ?_
        refine c_seq ?_
        refine c_region ?_
        refine o_mv st rfl rfl ?_
        refine o_mv st rfl rfl ?_
        refine o_idx st 0 rfl (reads_snap hv1) rfl rfl rfl el80 ?_; intro e12 h13
        refine o_fadS st 0 rfl (reads_snap hv1) h13 rfl rfl fld125_2 rfl ?_
        refine o_lds st (enc := encGTest) (u := (.int .i64 e12.xHi)) 0 rfl (reads_snap hv1) flelGTest rfl h13 rfl rfl ty3 rfl ?_
        refine o_mv st rfl rfl ?_
        refine o_neq st und3 rfl rfl rfl ?_
        refine c_nil ?_
        refine l_then ?_
        refine c_cond rfl ?_ ?_
        · refine c_seq ?_
          refine c_region ?_
          refine o_as st rfl rfl ?_
          refine c_nil ?_
          refine l_then ?_
          refine c_ret ?_
          refine l_ret ?_
          refine b_ret ?_
          refine l_ret ?_
          refine l_ret ?_
          refine b_ret ?_
          refine l_ret ?_
          exact l_end1 Tryd.results108 (-1) () (rv_t rfl) (fun _ _ => NewCh.nil _ _ _ _)
        · refine c_skip ?_
          refine l_then ?_
          refine c_seq ?_
          refine c_region ?_
          refine o_mv st rfl rfl ?_
          refine o_add st rfl rfl rfl ?_; intro t14
          refine o_as st rfl rfl ?_
          refine c_nil ?_
          refine l_then ?_
          refine c_seq ?_
          refine c_seq ?_
          refine c_region ?_
          refine o_mv st rfl rfl ?_
          refine o_mv st rfl rfl ?_
          refine o_idx st 0 rfl (reads_snap hv1) rfl rfl rfl el80 ?_; intro e15 h16
          refine o_fadS st 0 rfl (reads_snap hv1) h16 rfl rfl fld125_3 rfl ?_
          refine o_lds st (enc := encGTest) (u := (.bool e15.xNot)) 0 rfl (reads_snap hv1) flelGTest rfl h16 rfl rfl ty4 rfl ?_
          refine o_mv st rfl rfl ?_
          refine o_rem st rfl rfl rfl ?_; intro t17
          refine o_eql st und3 rfl rfl rfl ?_
          refine o_neqB st und4 rfl rfl rfl ?_
          refine c_nil ?_
          refine l_then ?_
          refine c_cond rfl ?_ ?_
          · refine c_seq ?_
            refine c_region ?_
            refine o_as st rfl rfl ?_
            refine c_nil ?_
            refine l_then ?_
            refine c_ret ?_
            refine l_ret ?_
            refine b_ret ?_
            refine l_ret ?_
            refine l_ret ?_
            refine b_ret ?_
            refine l_ret ?_
            exact l_end1 Tryd.results108 (-1) () (rv_t rfl) (fun _ _ => NewCh.nil _ _ _ _)
          · refine c_skip ?_
            refine l_then ?_
            refine c_region ?_
            refine o_mv st rfl rfl ?_
            refine o_add st rfl rfl rfl ?_; intro t18
            refine o_as st rfl rfl ?_
            refine c_nil ?_
            refine b_norm ?_
            refine l_then ?_
            refine c_region ?_
            refine o_mv st rfl rfl ?_
            refine o_add st rfl rfl rfl ?_; intro t19
            refine o_as st rfl rfl ?_
            refine c_nil ?_
            exact l_join (t18, t19) (fun a w hE hm => ⟨hE.sub ⟨rfl, rfl, rfl, trivial⟩, (hm.pick [0] rfl)⟩)
  · refine c_exit ?_
    refine l_exit ?_
    refine l_exit ?_
    refine b_exit ?_
    refine l_then ?_
    refine c_seq ?_
    refine c_region ?_
    refine o_mv st rfl rfl ?_
    refine o_as st rfl rfl ?_
    refine c_nil ?_
    refine l_then ?_
    refine c_ret ?_
    exact l_end1 Tryd.results108 t3 () (rv_t rfl) (fun _ _ => NewCh.nil _ _ _ _)

set_option maxRecDepth 100000 in
set_option maxHeartbeats 8000000 in
theorem w_laws_heldRuleS {w0 : World} {F : Nat → Prop} {v1 : Value} {a_0 : (List GRule)} {k_1 : Int} {κ : Int → Prop} (hF : ∀ b, F b → b < w0.heap.size ∧ ¬ feet [] b) (hv1 : Sl elGRule F w0 v1 a_0) (h : L_laws_heldRuleS a_0 k_1 κ) :
    Calls Tryd.prog 85 #[v1, (.int .i64 k_1)] w0 (Ret [] F w0 κ (fun (r : Int) (u : Unit) => (.int .i64 r)) (fun (r : Int) (u : Unit) => [])) := by
  refine enterS (args := [v1, (.int .i64 k_1)]) [] hF (Given.nil _ _) Tryd.func85 rfl Tryd.ntmps85 rfl h ?_
  clear h hF
  refine c_seq ?_
  refine c_region ?_
  refine o_as st rfl rfl ?_
  refine c_nil ?_
  refine l_then ?_
  refine c_seq ?_
  refine c_seq ?_
  refine c_region ?_
  refine o_as st rfl rfl ?_
  refine c_nil ?_
  refine l_then ?_
  refine c_block ?_
  refine c_loop (σ := (Int × Int)) (fun ((t3, t4) : (Int × Int)) (a : Act) (w : World) => Has 40 [(0, v1), (1, (.int .i64 t3)), (5, (.int .i64 t4))] a ∧ Mem (gB F [] w0) (feet []) w0 [snapCh w0 F] w) (fun a w hE hm => ⟨hE.sub ⟨rfl, rfl, rfl, trivial⟩, (hm.pick [0] rfl)⟩) ?_
  rintro nx5 ⟨t3, t4⟩ a w ⟨hE, hm⟩ h
  refine nx_of hE hm h ?_
  clear hE hm h
  refine c_seq ?_
  refine c_seq ?_
  refine c_region ?_
  refine o_mv st rfl rfl ?_
  refine o_mv st rfl rfl ?_
  refine o_len st el54 0 rfl (reads_snap hv1) rfl rfl ?_
  refine o_lss st rfl rfl rfl ?_
  refine c_nil ?_
  refine l_then ?_
  refine c_cond rfl ?_ ?_
  · refine c_skip ?_
    refine l_then ?_
    refine c_seq ?_
    refine c_block ?_
    refine c_seq ?_
    refine c_region ?_
    refine o_mv st rfl rfl ?_
    refine o_mv st rfl rfl ?_
    refine o_idx st 0 rfl (reads_snap hv1) rfl rfl rfl el54 ?_; intro e6 h7
    refine o_fadS st 0 rfl (reads_snap hv1) h7 rfl rfl fld89_0 rfl ?_
    obtain ⟨_, ⟨v9, rfl, sl10⟩, rw8⟩ := sl_open hv1 h7
    refine o_ldR st (u := v9) 0 rfl rw8 rfl rfl ty80 rfl ?_
    refine o_mv st rfl rfl ?_
    refine stw (o_callP (vs := [v9, (.int .i64 t3)]) Tryd.call108 rfl rfl (by intro w m h; exact (w_laws_heldTestS (F := allB [] w) (a_0 := e6.xTests) (k_1 := t3) allB_ok (m.rd0 0 rfl (reads_snap sl10)) h).mono (fun _ _ k => ret_free (fun r u => fr_nil) k)) ?_); rintro r12 _
    refine o_as st rfl rfl ?_
    refine c_nil ?_
    refine l_then ?_
    refine c_seq ?_
    refine c_seq ?_
    refine c_region ?_
    refine o_mv st rfl rfl ?_
    refine o_lss st rfl rfl rfl ?_
    refine c_nil ?_
    refine l_then ?_
    refine c_cond rfl ?_ ?_
    · refine c_seq ?_
      refine c_region ?_
      refine o_as st rfl rfl ?_
      refine c_nil ?_
      refine l_then ?_
      refine c_ret ?_
      refine l_ret ?_
      refine b_ret ?_
      refine l_ret ?_
      refine l_ret ?_
      refine b_ret ?_
      refine l_ret ?_
      exact l_end1 Tryd.results85 (-1) () (rv_t rfl) (fun _ _ => NewCh.nil _ _ _ _)
    · refine c_skip ?_
      refine l_then ?_
      refine c_seq ?_
      refine c_seq ?_
      refine c_region ?_
      refine o_mv st rfl rfl ?_
      refine o_mv st rfl rfl ?_
      refine o_idx st 0 rfl (reads_snap hv1) rfl rfl rfl el54 ?_; intro e13 h14
      refine o_fadS st 0 rfl (reads_snap hv1) h14 rfl rfl fld89_1 rfl ?_
      refine o_ldP st (u := (.int .i64 e13.xAction)) 0 rfl (reads_snap hv1) h14 rfl rfl rfl ty3 (fun F w cs h => by obtain ⟨u, rfl, _⟩ := h; rfl) ?_
      refine o_mv st rfl rfl ?_
      refine o_neq st und3 rfl rfl rfl ?_
      refine c_nil ?_
      refine l_then ?_
      refine c_cond rfl ?_ ?_
      · refine c_seq ?_
        refine c_region ?_
        refine o_as st rfl rfl ?_
        refine c_nil ?_
        refine l_then ?_
        refine c_ret ?_
        refine l_ret ?_
        refine b_ret ?_
        refine l_ret ?_
        refine l_ret ?_
        refine b_ret ?_
        refine l_ret ?_
        exact l_end1 Tryd.results85 (-1) () (rv_t rfl) (fun _ _ => NewCh.nil _ _ _ _)
      · refine c_skip ?_
        refine l_then ?_
        refine c_seq ?_
        refine c_region ?_
        refine o_mv st rfl rfl ?_
        refine o_add st rfl rfl rfl ?_; intro t15
        refine o_as st rfl rfl ?_
        refine c_nil ?_
        refine l_then ?_
        refine c_seq ?_
        refine c_seq ?_
        refine c_region ?_
        refine o_mv st rfl rfl ?_
        refine o_mv st rfl rfl ?_
        refine o_idx st 0 rfl (reads_snap hv1) rfl rfl rfl el54 ?_; intro e16 h17
        refine o_fadS st 0 rfl (reads_snap hv1) h17 rfl rfl fld89_2 rfl ?_
        refine o_ldP st (u := (.int .i64 e16.xChain)) 0 rfl (reads_snap hv1) h17 rfl rfl rfl ty3 (fun F w cs h => by obtain ⟨u, rfl, _⟩ := h; rfl) ?_
        refine o_mv st rfl rfl ?_
        refine o_neq st und3 rfl rfl rfl ?_
        refine c_nil ?_
        refine l_then ?_
        refine c_cond rfl ?_ ?_
        · refine c_seq ?_
          refine c_region ?_
          refine o_as st rfl rfl ?_
          refine c_nil ?_
          refine l_then ?_
          refine c_ret ?_
          refine l_ret ?_
          refine b_ret ?_
          refine l_ret ?_
          refine l_ret ?_
          refine b_ret ?_
          refine l_ret ?_
          exact l_end1 Tryd.results85 (-1) () (rv_t rfl) (fun _ _ => NewCh.nil _ _ _ _)
        · refine c_skip ?_
          refine l_then ?_
          refine c_region ?_
          refine o_mv st rfl rfl ?_
          refine o_add st rfl rfl rfl ?_; intro t18
          refine o_as st rfl rfl ?_
          refine c_nil ?_
          refine b_norm ?_
          refine l_then ?_
          refine c_region ?_
          refine o_mv st rfl rfl ?_
          refine o_add st rfl rfl rfl ?_; intro t19
          refine o_as st rfl rfl ?_
          refine c_nil ?_
          exact l_join (t18, t19) (fun a w hE hm => ⟨hE.sub ⟨rfl, rfl, rfl, trivial⟩, (hm.pick [0] rfl)⟩)
  · refine c_exit ?_
    refine l_exit ?_
    refine l_exit ?_
    refine b_exit ?_
    refine l_then ?_
    refine c_seq ?_
    refine c_region ?_
    refine o_mv st rfl rfl ?_
    refine o_as st rfl rfl ?_
    refine c_nil ?_
    refine l_then ?_
    refine c_ret ?_
    exact l_end1 Tryd.results85 t3 () (rv_t rfl) (fun _ _ => NewCh.nil _ _ _ _)

set_option maxRecDepth 100000 in
set_option maxHeartbeats 8000000 in
theorem w_laws_heldRuleSS {w0 : World} {F : Nat → Prop} {v1 : Value} {a_0 : (List (List GRule))} {k_1 : Int} {κ : Int → Prop} (hF : ∀ b, F b → b < w0.heap.size ∧ ¬ feet [] b) (hv1 : Sl (elSl elGRule) F w0 v1 a_0) (h : L_laws_heldRuleSS a_0 k_1 κ) :
    Calls Tryd.prog 49 #[v1, (.int .i64 k_1)] w0 (Ret [] F w0 κ (fun (r : Int) (u : Unit) => (.int .i64 r)) (fun (r : Int) (u : Unit) => [])) := by
  refine enterS (args := [v1, (.int .i64 k_1)]) [] hF (Given.nil _ _) Tryd.func49 rfl Tryd.ntmps49 rfl h ?_
  clear h hF
  refine c_seq ?_
  refine c_region ?_
  refine o_as st rfl rfl ?_
  refine c_nil ?_
  refine l_then ?_
  refine c_seq ?_
  refine c_seq ?_
  refine c_region ?_
  refine o_as st rfl rfl ?_
  refine c_nil ?_
  refine l_then ?_
  refine c_block ?_
  refine c_loop (σ := (Int × Int)) (fun ((t3, t4) : (Int × Int)) (a : Act) (w : World) => Has 21 [(0, v1), (1, (.int .i64 t3)), (5, (.int .i64 t4))] a ∧ Mem (gB F [] w0) (feet []) w0 [snapCh w0 F] w) (fun a w hE hm => ⟨hE.sub ⟨rfl, rfl, rfl, trivial⟩, (hm.pick [0] rfl)⟩) ?_
  rintro nx5 ⟨t3, t4⟩ a w ⟨hE, hm⟩ h
  refine nx_of hE hm h ?_
  clear hE hm h
  refine c_seq ?_
  refine c_seq ?_
  refine c_region ?_
  refine o_mv st rfl rfl ?_
  refine o_mv st rfl rfl ?_
  refine o_len st el34 0 rfl (reads_snap hv1) rfl rfl ?_
  refine o_lss st rfl rfl rfl ?_
  refine c_nil ?_
  refine l_then ?_
  refine c_cond rfl ?_ ?_
  · refine c_skip ?_
    refine l_then ?_
    refine c_seq ?_
    refine c_block ?_
    refine c_seq ?_
    refine c_region ?_
    refine o_mv st rfl rfl ?_
    refine o_mv st rfl rfl ?_
    refine o_idx st 0 rfl (reads_snap hv1) rfl rfl rfl el34 ?_; intro e6 h7
    obtain ⟨_, ⟨v9, rfl, sl10⟩, rw8⟩ := sl_open hv1 h7
    refine o_ldR st (u := v9) 0 rfl rw8 rfl rfl ty54 rfl ?_
    refine o_mv st rfl rfl ?_
    refine stw (o_callP (vs := [v9, (.int .i64 t3)]) Tryd.call85 rfl rfl (by intro w m h; exact (w_laws_heldRuleS (F := allB [] w) (a_0 := e6) (k_1 := t3) allB_ok (m.rd0 0 rfl (reads_snap sl10)) h).mono (fun _ _ k => ret_free (fun r u => fr_nil) k)) ?_); rintro r12 _
    refine o_as st rfl rfl ?_
    refine c_nil ?_
    refine l_then ?_
    refine c_seq ?_
    refine c_region ?_
    refine o_mv st rfl rfl ?_
    refine o_lss st rfl rfl rfl ?_
    refine c_nil ?_
    refine l_then ?_
    refine c_cond rfl ?_ ?_
    · refine c_seq ?_
      refine c_region ?_
      refine o_as st rfl rfl ?_
      refine c_nil ?_
      refine l_then ?_
      refine c_ret ?_
      refine b_ret ?_
      refine l_ret ?_
      refine l_ret ?_
      refine b_ret ?_
      refine l_ret ?_
      exact l_end1 Tryd.results49 (-1) () (rv_t rfl) (fun _ _ => NewCh.nil _ _ _ _)
    · refine c_skip ?_
      refine b_norm ?_
      refine l_then ?_
      refine c_region ?_
      refine o_mv st rfl rfl ?_
      refine o_add st rfl rfl rfl ?_; intro t13
      refine o_as st rfl rfl ?_
      refine c_nil ?_
      exact l_join (r12, t13) (fun a w hE hm => ⟨hE.sub ⟨rfl, rfl, rfl, trivial⟩, (hm.pick [0] rfl)⟩)
  · refine c_exit ?_
    refine l_exit ?_
    refine l_exit ?_
    refine b_exit ?_
    refine l_then ?_
    refine c_seq ?_
    refine c_region ?_
    refine o_mv st rfl rfl ?_
    refine o_as st rfl rfl ?_
    refine c_nil ?_
    refine l_then ?_
    refine c_ret ?_
    exact l_end1 Tryd.results49 t3 () (rv_t rfl) (fun _ _ => NewCh.nil _ _ _ _)

set_option maxRecDepth 100000 in
set_option maxHeartbeats 8000000 in
theorem w_laws_heldRuleset {w0 : World} {F : Nat → Prop} {v1 : Value} {a_0 : GRuleset} {k_1 : Int} {κ : Int → Prop} (hF : ∀ b, F b → b < w0.heap.size ∧ ¬ feet [] b) (hv1 : Sl (elSl elGRule) F w0 v1 a_0.xChains) (h : L_laws_heldRuleset a_0 k_1 κ) :
    Calls Tryd.prog 20 #[(.agg #[v1, (.bool a_0.xAccept)]), (.int .i64 k_1)] w0 (Ret [] F w0 κ (fun (r : Int) (u : Unit) => (.int .i64 r)) (fun (r : Int) (u : Unit) => [])) := by
  refine enterS (args := [(.agg #[v1, (.bool a_0.xAccept)]), (.int .i64 k_1)]) [] hF (Given.nil _ _) Tryd.func20 rfl Tryd.ntmps20 rfl h ?_
  clear h hF
  refine c_seq ?_
  refine c_region ?_
  obtain ⟨a3, l4, q5, hs_⟩ := sl_val hv1; subst hs_
  refine stw (o_box rfl rfl [(.slice a3 l4 q5), (.bool a_0.xAccept)] rfl ?_); intro b6
  refine o_as st rfl rfl ?_
  refine c_nil ?_
  refine l_then ?_
  refine c_seq ?_
  refine c_region ?_
  refine o_fad st rfl rfl fld36_0 rfl ?_
  refine o_ldc st (v := (.slice a3 l4 q5)) 0 rfl rfl rfl ty34 rfl ?_
  refine o_mv st rfl rfl ?_
  refine stw (o_callP (vs := [(.slice a3 l4 q5), (.int .i64 k_1)]) Tryd.call49 rfl rfl (by intro w m h; exact (w_laws_heldRuleSS (F := allB [] w) (a_0 := a_0.xChains) (k_1 := k_1) allB_ok (m.rd0 1 rfl (reads_snap hv1)) h).mono (fun _ _ k => ret_free (fun r u => fr_nil) k)) ?_); rintro r8 _
  refine o_as st rfl rfl ?_
  refine c_nil ?_
  refine l_then ?_
  refine c_seq ?_
  refine c_seq ?_
  refine c_region ?_
  refine o_mv st rfl rfl ?_
  refine o_lss st rfl rfl rfl ?_
  refine c_nil ?_
  refine l_then ?_
  refine c_cond rfl ?_ ?_
  · refine c_seq ?_
    refine c_region ?_
    refine o_as st rfl rfl ?_
    refine c_nil ?_
    refine l_then ?_
    refine c_ret ?_
    refine l_ret ?_
    exact l_end1 Tryd.results20 (-1) () (rv_t rfl) (fun _ _ => NewCh.nil _ _ _ _)
  · refine c_skip ?_
    refine l_then ?_
    refine c_seq ?_
    refine c_region ?_
    refine o_mv st rfl rfl ?_
    refine o_as st rfl rfl ?_
    refine c_nil ?_
    refine l_then ?_
    refine c_ret ?_
    exact l_end1 Tryd.results20 r8 () (rv_t rfl) (fun _ _ => NewCh.nil _ _ _ _)

set_option maxRecDepth 100000 in
set_option maxHeartbeats 8000000 in
theorem w_laws_FnExactFlatRuleset {w0 : World} {F : Nat → Prop} {v1 : Value} {aList_0 : (List GFlat)} {aRest_1 : Bool} {κ : Bool → Prop} (hF : ∀ b, F b → b < w0.heap.size ∧ ¬ feet [] b) (hv1 : Sl elGFlat F w0 v1 aList_0) (hgl0 : Sl elGFieldShape F w0 (.slice (some ⟨0, 0, none⟩) 4 4) gl_impl_fieldShapes) (h : L_laws_FnExactFlatRuleset aList_0 aRest_1 κ) :
    Calls Tryd.prog 4 #[v1, (.bool aRest_1)] w0 (Ret [] F w0 κ (fun (r : Bool) (u : Unit) => (.bool r)) (fun (r : Bool) (u : Unit) => [])) := by
  refine enterS (args := [v1, (.bool aRest_1)]) [] hF (Given.nil _ _) Tryd.func4 rfl Tryd.ntmps4 rfl h ?_
  clear h hF
  refine c_seq ?_
  refine c_region ?_
  refine o_as st rfl rfl ?_
  refine c_nil ?_
  refine l_then ?_
  refine c_seq ?_
  refine c_region ?_
  refine o_as st rfl rfl ?_
  refine c_nil ?_
  refine l_then ?_
  refine c_seq ?_
  refine c_region ?_
  refine o_mv st rfl rfl ?_
  refine o_mv st rfl rfl ?_
  refine stw (o_callP (vs := [v1, (.int .i64 1048576)]) Tryd.call12 rfl rfl (by intro w m h; exact (w_laws_szFlatS (F := allB [] w) (a_0 := aList_0) (left_1 := 1048576) allB_ok (m.rd0 0 rfl (reads_snap hv1)) h).mono (fun _ _ k => ret_free (fun r u => fr_nil) k)) ?_); rintro r3 _
  refine o_as st rfl rfl ?_
  refine c_nil ?_
  refine l_then ?_
  refine c_seq ?_
  refine c_seq ?_
  refine c_region ?_
  refine o_mv st rfl rfl ?_
  refine o_lss st rfl rfl rfl ?_
  refine c_nil ?_
  refine l_then ?_
  refine c_cond rfl ?_ ?_
  · refine c_seq ?_
    refine c_region ?_
    refine o_as st rfl rfl ?_
    refine c_nil ?_
    refine l_then ?_
    refine c_ret ?_
    refine l_ret ?_
    exact l_end1 Tryd.results4 true () (rv_t rfl) (fun _ _ => NewCh.nil _ _ _ _)
  · refine c_skip ?_
    refine l_then ?_
    refine c_seq ?_
    refine c_region ?_
    refine o_mv st rfl rfl ?_
    refine stw (o_callP (vs := [v1]) Tryd.call14 rfl rfl (by intro w m h; exact (w_laws_toFlatS (F := allB [] w) (a_0 := aList_0) allB_ok (m.rd0 0 rfl (reads_snap hv1)) h).mono (fun _ _ k => ret_free (fun r u => (fr_cons free_dp fr_nil)) k)) ?_); rintro r4 ⟨v5, bb6⟩
    refine o_mv st rfl rfl ?_
    refine stw (o_callP (vs := [v5, (.bool aRest_1)]) Tryd.call13 rfl rfl (by intro w m h; exact (w_spec_FlatRuleset (F := allB [] w) (list_0 := r4) (rest_1 := aRest_1) allB_ok (m.rd0 0 rfl reads_dp) h).mono (fun _ _ k => ret_free (fun r u => (fr_cons free_dp fr_nil)) k)) ?_); rintro ⟨r8, r12⟩ ⟨v9, bb10⟩
    refine o_mv st rfl rfl ?_
    refine o_ext st (vs := [(.agg #[v9, (.bool r8.xAccept)]), (.bool r12)]) rfl rfl rfl ?_
    refine o_ext st (vs := [(.agg #[v9, (.bool r8.xAccept)]), (.bool r12)]) rfl rfl rfl ?_
    refine stw (o_alloc rfl [(.slice none 0 0), (.bool false)] zero36 ?_); intro b13
    refine nx_dp 1 rfl ?_; rintro a15 l16 q17 rfl
    refine stw (o_stc (cs' := [(.slice a15 l16 q17), (.bool r8.xAccept)]) 0 rfl rfl rfl ty36 rfl rfl rfl rfl ?_)
    refine o_as st rfl rfl ?_
    refine c_nil ?_
    refine l_then ?_
    refine c_seq ?_
    refine c_region ?_
    refine o_mv st rfl rfl ?_
    refine stw (o_callP (vs := [v1]) Tryd.call14 rfl rfl (by intro w m h; exact (w_laws_toFlatS (F := allB [] w) (a_0 := aList_0) allB_ok (m.rd0 3 rfl (reads_snap hv1)) h).mono (fun _ _ k => ret_free (fun r u => (fr_cons free_dp fr_nil)) k)) ?_); rintro r18 ⟨v19, bb20⟩
    refine o_as st rfl rfl ?_
    refine c_nil ?_
    refine l_then ?_
    refine c_seq ?_
    refine c_region ?_
    refine o_mv st rfl rfl ?_
    refine o_mv st rfl rfl ?_
    refine stw (o_callP (vs := [v19, (.bool aRest_1)]) Tryd.call15 rfl rfl (by intro w m h; exact (w_impl_FlatRuleset (F := allB [] w) (list_0 := r18) (rest_1 := aRest_1) allB_ok (m.rd0 0 rfl reads_dp) (m.rd0 4 rfl (reads_snap hgl0)) h).mono (fun _ _ k => ret_free (fun r u => (fr_cons free_dp fr_nil)) k)) ?_); rintro ⟨r22, r26⟩ ⟨v23, bb24⟩
    refine o_mv st rfl rfl ?_
    refine o_ext st (vs := [(.agg #[v23, (.bool r22.xAccept)]), (.bool r26)]) rfl rfl rfl ?_
    refine o_ext st (vs := [(.agg #[v23, (.bool r22.xAccept)]), (.bool r26)]) rfl rfl rfl ?_
    refine stw (o_alloc rfl [(.slice none 0 0), (.bool false)] zero36 ?_); intro b27
    refine nx_dp 1 rfl ?_; rintro a29 l30 q31 rfl
    refine stw (o_stc (cs' := [(.slice a29 l30 q31), (.bool r22.xAccept)]) 0 rfl rfl rfl ty36 rfl rfl rfl rfl ?_)
    refine o_as st rfl rfl ?_
    refine c_nil ?_
    refine l_then ?_
    refine c_seq ?_
    refine c_join (σ := Bool) (fun (t93 : Bool) (a : Act) (w : World) => Has 101 [(0, v1), (1, (.bool aRest_1)), (6, (.pointer (some ⟨b13, 0, none⟩))), (7, (.bool r12)), (8, v19), (9, (.pointer (some ⟨b27, 0, none⟩))), (10, (.bool r26)), (44, (.bool t93))] a ∧ Mem (gB F [] w0) (feet []) w0 [cellCh b27 [(.slice a29 l30 q31), (.bool r22.xAccept)] 36, dpCh (dSl dGRule 89) 54 bb24 (.slice a29 l30 q31) r22.xChains, dpCh dGFlat 87 bb20 v19 r18, cellCh b13 [(.slice a15 l16 q17), (.bool r8.xAccept)] 36, dpCh (dSl dGRule 89) 54 bb10 (.slice a15 l16 q17) r8.xChains, snapCh w0 F] w) ?_ ?_
    · intro k94
      refine c_region ?_
      refine o_ldc st (v := (.agg #[(.slice a29 l30 q31), (.bool r22.xAccept)])) 0 rfl rfl rfl ty36 rfl ?_
      refine o_ldc st (v := (.agg #[(.slice a15 l16 q17), (.bool r8.xAccept)])) 3 rfl rfl rfl ty36 rfl ?_
      refine stw (o_callP (vs := [(.agg #[(.slice a29 l30 q31), (.bool r22.xAccept)]), (.agg #[(.slice a15 l16 q17), (.bool r8.xAccept)])]) Tryd.call16 rfl rfl (by intro w m h; exact (w_laws_eqRuleset (F := allB [] w) (a_0 := r22) (b_1 := r8) allB_ok (m.rd0 1 rfl reads_dp) (m.rd0 4 rfl reads_dp) h).mono (fun _ _ k => ret_free (fun r u => fr_nil) k)) ?_); rintro r32 _
      refine o_not st rfl rfl ?_
      refine o_mv st rfl rfl ?_
      refine st_sp (dj := 40) rfl ?_ ?_
      · refine st_s rfl rfl rfl rfl ?_
        refine st_s rfl rfl rfl rfl ?_
        refine st_s rfl rfl rfl rfl ?_
        refine o_pickT st rfl rfl rfl ?_
        refine c_nil ?_
        exact l_join true (fun a w hE hm => ⟨hE.sub ⟨rfl, rfl, rfl, rfl, rfl, rfl, rfl, rfl, trivial⟩, (hm.pick [0, 1, 2, 3, 4, 6] rfl)⟩)
      · refine o_mv (st_g rfl rfl) rfl rfl ?_
        refine o_mv (st_g rfl rfl) rfl rfl ?_
        refine o_neqB (st_g rfl rfl) und4 rfl rfl rfl ?_
        refine o_pickF st rfl rfl rfl ?_
        refine c_nil ?_
        exact l_join (!(decide (r26 = r12))) (fun a w hE hm => ⟨hE.sub ⟨rfl, rfl, rfl, rfl, rfl, rfl, rfl, rfl, trivial⟩, (hm.pick [0, 1, 2, 3, 4, 6] rfl)⟩)
    · rintro t93 a w ⟨hE, hm⟩ h
      refine nx_of hE hm h ?_
      clear hE hm h
      refine c_cond rfl ?_ ?_
      · refine c_seq ?_
        refine c_region ?_
        refine o_as st rfl rfl ?_
        refine c_nil ?_
        refine l_then ?_
        refine c_ret ?_
        refine l_ret ?_
        exact l_end1 Tryd.results4 false () (rv_t rfl) (fun _ _ => NewCh.nil _ _ _ _)
      · refine c_skip ?_
        refine l_then ?_
        refine c_seq ?_
        refine c_seq ?_
        refine c_region ?_
        refine o_mv st rfl rfl ?_
        refine o_mv st rfl rfl ?_
        refine stw (o_callP (vs := [v1]) Tryd.call14 rfl rfl (by intro w m h; exact (w_laws_toFlatS (F := allB [] w) (a_0 := aList_0) allB_ok (m.rd0 5 rfl (reads_snap hv1)) h).mono (fun _ _ k => ret_free (fun r u => (fr_cons free_dp fr_nil)) k)) ?_); rintro r95 ⟨v96, bb97⟩
        refine stw (o_callP (vs := [v19, v96]) Tryd.call17 rfl rfl (by intro w m h; exact (w_laws_eqFlatS (F := allB [] w) (a_0 := r18) (b_1 := r95) allB_ok (m.rd0 3 rfl reads_dp) (m.rd0 0 rfl reads_dp) h).mono (fun _ _ k => ret_free (fun r u => fr_nil) k)) ?_); rintro r99 _
        refine o_not st rfl rfl ?_
        refine c_nil ?_
        refine l_then ?_
        refine c_cond rfl ?_ ?_
        · refine c_seq ?_
          refine c_region ?_
          refine o_as st rfl rfl ?_
          refine c_nil ?_
          refine l_then ?_
          refine c_ret ?_
          refine l_ret ?_
          exact l_end1 Tryd.results4 false () (rv_t rfl) (fun _ _ => NewCh.nil _ _ _ _)
        · refine c_skip ?_
          refine l_then ?_
          refine c_seq ?_
          refine c_region ?_
          refine o_as st rfl rfl ?_
          refine c_nil ?_
          refine l_then ?_
          refine c_seq ?_
          refine c_region ?_
          refine o_mv st rfl rfl ?_
          refine o_mv st rfl rfl ?_
          refine pk [3, 0, 1, 2, 4, 5, 6] rfl ?_
          refine stw (o_call (vs := [v19, (.int .i64 1)]) (M0 := [dpCh dGFlat 87 bb20 v19 r18]) Tryd.call18 rfl rfl (by intro w m h; exact (w_laws_markFlatS (F := allB [dpCh dGFlat 87 bb20 v19 r18] w) (a_0 := r18) (k_1 := 1) allB_ok m.given h).mono (fun _ _ k => ret_free (fun r u => (fr_cons free_dp fr_nil)) k)) ?_); rintro ⟨r100, r101⟩ bb102
          refine o_as st rfl rfl ?_
          refine c_nil ?_
          refine l_then ?_
          refine c_seq ?_
          refine c_join (σ := Bool) (fun (t165 : Bool) (a : Act) (w : World) => Has 101 [(0, v1), (1, (.bool aRest_1)), (6, (.pointer (some ⟨b13, 0, none⟩))), (7, (.bool r12)), (9, (.pointer (some ⟨b27, 0, none⟩))), (65, (.bool t165))] a ∧ Mem (gB F [] w0) (feet []) w0 [cellCh b27 [(.slice a29 l30 q31), (.bool r22.xAccept)] 36, dpCh (dSl dGRule 89) 54 bb24 (.slice a29 l30 q31) r22.xChains, cellCh b13 [(.slice a15 l16 q17), (.bool r8.xAccept)] 36, dpCh (dSl dGRule 89) 54 bb10 (.slice a15 l16 q17) r8.xChains, snapCh w0 F] w) ?_ ?_
          · intro k166
            refine c_region ?_
            refine o_mv st rfl rfl ?_
            refine o_lss st rfl rfl rfl ?_
            refine o_mv st rfl rfl ?_
            refine st_sp (dj := 55) rfl ?_ ?_
            · refine st_s rfl rfl rfl rfl ?_
              refine st_s rfl rfl rfl rfl ?_
              refine st_s rfl rfl rfl rfl ?_
              refine st_s rfl rfl rfl rfl ?_
              refine o_pickT st rfl rfl rfl ?_
              refine o_mv st rfl rfl ?_
              refine st_s rfl rfl rfl rfl ?_
              refine st_s rfl rfl rfl rfl ?_
              refine st_s rfl rfl rfl rfl ?_
              refine o_pickT st rfl rfl rfl ?_
              refine c_nil ?_
              exact l_join true (fun a w hE hm => ⟨hE.sub ⟨rfl, rfl, rfl, rfl, rfl, rfl, trivial⟩, (hm.pick [2, 3, 4, 5, 6] rfl)⟩)
            · refine o_ldc (st_g rfl rfl) (v := (.agg #[(.slice a29 l30 q31), (.bool r22.xAccept)])) 2 rfl rfl rfl ty36 rfl ?_
              refine o_ldc (st_g rfl rfl) (v := (.agg #[(.slice a15 l16 q17), (.bool r8.xAccept)])) 4 rfl rfl rfl ty36 rfl ?_
              refine st_gw rfl rfl (o_callP (vs := [(.agg #[(.slice a29 l30 q31), (.bool r22.xAccept)]), (.agg #[(.slice a15 l16 q17), (.bool r8.xAccept)])]) Tryd.call16 rfl rfl (by intro w m h; exact (w_laws_eqRuleset (F := allB [] w) (a_0 := r22) (b_1 := r8) allB_ok (m.rd0 3 rfl reads_dp) (m.rd0 5 rfl reads_dp) h).mono (fun _ _ k => ret_free (fun r u => fr_nil) k)) ?_); rintro r104 _
              refine o_not (st_g rfl rfl) rfl rfl ?_
              refine o_pickF st rfl rfl rfl ?_
              refine o_mv st rfl rfl ?_
              refine st_sp (dj := 61) rfl ?_ ?_
              · refine st_s rfl rfl rfl rfl ?_
                refine st_s rfl rfl rfl rfl ?_
                refine st_s rfl rfl rfl rfl ?_
                refine o_pickT st rfl rfl rfl ?_
                refine c_nil ?_
                exact l_join true (fun a w hE hm => ⟨hE.sub ⟨rfl, rfl, rfl, rfl, rfl, rfl, trivial⟩, (hm.pick [2, 3, 4, 5, 6] rfl)⟩)
              · refine o_mv (st_g rfl rfl) rfl rfl ?_
                refine o_mv (st_g rfl rfl) rfl rfl ?_
                refine o_neqB (st_g rfl rfl) und4 rfl rfl rfl ?_
                refine o_pickF st rfl rfl rfl ?_
                refine c_nil ?_
                exact l_join (!(decide (r26 = r12))) (fun a w hE hm => ⟨hE.sub ⟨rfl, rfl, rfl, rfl, rfl, rfl, trivial⟩, (hm.pick [2, 3, 4, 5, 6] rfl)⟩)
          · rintro t165 a w ⟨hE, hm⟩ h
            refine nx_of hE hm h ?_
            clear hE hm h
            refine c_cond rfl ?_ ?_
            · refine c_seq ?_
              refine c_region ?_
              refine o_as st rfl rfl ?_
              refine c_nil ?_
              refine l_then ?_
              refine c_ret ?_
              refine l_ret ?_
              exact l_end1 Tryd.results4 false () (rv_t rfl) (fun _ _ => NewCh.nil _ _ _ _)
            · refine c_skip ?_
              refine l_then ?_
              refine c_seq ?_
              refine c_region ?_
              refine o_as st rfl rfl ?_
              refine c_nil ?_
              refine l_then ?_
              refine c_seq ?_
              refine c_region ?_
              refine o_ldc st (v := (.agg #[(.slice a29 l30 q31), (.bool r22.xAccept)])) 0 rfl rfl rfl ty36 rfl ?_
              refine o_mv st rfl rfl ?_
              refine pk [1, 0, 2, 3, 4] rfl ?_
              refine stw (o_call (vs := [(.agg #[(.slice a29 l30 q31), (.bool r22.xAccept)]), (.int .i64 1)]) (M0 := [dpCh (dSl dGRule 89) 54 bb24 (.slice a29 l30 q31) r22.xChains]) Tryd.call19 rfl rfl (by intro w m h; exact (w_laws_markRuleset (F := allB [dpCh (dSl dGRule 89) 54 bb24 (.slice a29 l30 q31) r22.xChains] w) (a_0_Chains := r22.xChains) (a_0_Accept := r22.xAccept) (k_1 := 1) allB_ok m.given h).mono (fun _ _ k => ret_free (fun r u => (fr_cons free_dp fr_nil)) k)) ?_); rintro ⟨r167, r168⟩ bb169
              refine o_as st rfl rfl ?_
              refine c_nil ?_
              refine l_then ?_
              refine c_seq ?_
              refine c_region ?_
              refine o_as st rfl rfl ?_
              refine c_nil ?_
              refine l_then ?_
              refine c_seq ?_
              refine c_region ?_
              refine o_ldc st (v := (.agg #[(.slice a29 l30 q31), (.bool r22.xAccept)])) 1 rfl rfl rfl ty36 rfl ?_
              refine o_mv st rfl rfl ?_
              refine stw (o_callP (vs := [(.agg #[(.slice a29 l30 q31), (.bool r22.xAccept)]), (.int .i64 1)]) Tryd.call20 rfl rfl (by intro w m h; exact (w_laws_heldRuleset (F := allB [] w) (a_0 := (GRuleset.mk r168 r22.xAccept)) (k_1 := 1) allB_ok (m.rd0 0 rfl reads_dp) h).mono (fun _ _ k => ret_free (fun r u => fr_nil) k)) ?_); rintro r171 _
              refine o_as st rfl rfl ?_
              refine c_nil ?_
              refine l_then ?_
              refine c_seq ?_
              refine c_seq ?_
              refine c_region ?_
              refine o_mv st rfl rfl ?_
              refine o_lss st rfl rfl rfl ?_
              refine c_nil ?_
              refine l_then ?_
              refine c_cond rfl ?_ ?_
              · refine c_seq ?_
                refine c_region ?_
                refine o_as st rfl rfl ?_
                refine c_nil ?_
                refine l_then ?_
                refine c_ret ?_
                refine l_ret ?_
                exact l_end1 Tryd.results4 false () (rv_t rfl) (fun _ _ => NewCh.nil _ _ _ _)
              · refine c_skip ?_
                refine l_then ?_
                refine c_seq ?_
                refine c_seq ?_
                refine c_region ?_
                refine o_mv st rfl rfl ?_
                refine o_mv st rfl rfl ?_
                refine o_neq st und3 rfl rfl rfl ?_
                refine c_nil ?_
                refine l_then ?_
                refine c_cond rfl ?_ ?_
                · refine c_seq ?_
                  refine c_region ?_
                  refine o_as st rfl rfl ?_
                  refine c_nil ?_
                  refine l_then ?_
                  refine c_ret ?_
                  refine l_ret ?_
                  exact l_end1 Tryd.results4 false () (rv_t rfl) (fun _ _ => NewCh.nil _ _ _ _)
                · refine c_skip ?_
                  refine l_then ?_
                  refine c_seq ?_
                  refine c_region ?_
                  refine o_mv st rfl rfl ?_
                  refine stw (o_callP (vs := [v1]) Tryd.call14 rfl rfl (by intro w m h; exact (w_laws_toFlatS (F := allB [] w) (a_0 := aList_0) allB_ok (m.rd0 4 rfl (reads_snap hv1)) h).mono (fun _ _ k => ret_free (fun r u => (fr_cons free_dp fr_nil)) k)) ?_); rintro r172 ⟨v173, bb174⟩
                  refine o_mv st rfl rfl ?_
                  refine stw (o_callP (vs := [v173, (.bool aRest_1)]) Tryd.call15 rfl rfl (by intro w m h; exact (w_impl_FlatRuleset (F := allB [] w) (list_0 := r172) (rest_1 := aRest_1) allB_ok (m.rd0 0 rfl reads_dp) (m.rd0 5 rfl (reads_snap hgl0)) h).mono (fun _ _ k => ret_free (fun r u => (fr_cons free_dp fr_nil)) k)) ?_); rintro ⟨r176, r180⟩ ⟨v177, bb178⟩
                  refine o_mv st rfl rfl ?_
                  refine o_ext st (vs := [(.agg #[v177, (.bool r176.xAccept)]), (.bool r180)]) rfl rfl rfl ?_
                  refine o_ext st (vs := [(.agg #[v177, (.bool r176.xAccept)]), (.bool r180)]) rfl rfl rfl ?_
                  refine stw (o_alloc rfl [(.slice none 0 0), (.bool false)] zero36 ?_); intro b181
                  refine nx_dp 1 rfl ?_; rintro a183 l184 q185 rfl
                  refine stw (o_stc (cs' := [(.slice a183 l184 q185), (.bool r176.xAccept)]) 0 rfl rfl rfl ty36 rfl rfl rfl rfl ?_)
                  refine o_as st rfl rfl ?_
                  refine c_nil ?_
                  refine l_then ?_
                  refine c_seq ?_
                  refine c_join (σ := Bool) (fun (t247 : Bool) (a : Act) (w : World) => Has 101 [(9, (.pointer (some ⟨b27, 0, none⟩))), (12, (.int .i64 r167)), (92, (.bool t247))] a ∧ Mem (gB F [] w0) (feet []) w0 [dpCh (dSl dGRule 89) 54 bb169 (.slice a29 l30 q31) r168, cellCh b27 [(.slice a29 l30 q31), (.bool r22.xAccept)] 36, snapCh w0 F] w) ?_ ?_
                  · intro k248
                    refine c_region ?_
                    refine o_ldc st (v := (.agg #[(.slice a183 l184 q185), (.bool r176.xAccept)])) 0 rfl rfl rfl ty36 rfl ?_
                    refine o_ldc st (v := (.agg #[(.slice a15 l16 q17), (.bool r8.xAccept)])) 5 rfl rfl rfl ty36 rfl ?_
                    refine stw (o_callP (vs := [(.agg #[(.slice a183 l184 q185), (.bool r176.xAccept)]), (.agg #[(.slice a15 l16 q17), (.bool r8.xAccept)])]) Tryd.call16 rfl rfl (by intro w m h; exact (w_laws_eqRuleset (F := allB [] w) (a_0 := r176) (b_1 := r8) allB_ok (m.rd0 1 rfl reads_dp) (m.rd0 6 rfl reads_dp) h).mono (fun _ _ k => ret_free (fun r u => fr_nil) k)) ?_); rintro r186 _
                    refine o_not st rfl rfl ?_
                    refine o_mv st rfl rfl ?_
                    refine st_sp (dj := 88) rfl ?_ ?_
                    · refine st_s rfl rfl rfl rfl ?_
                      refine st_s rfl rfl rfl rfl ?_
                      refine st_s rfl rfl rfl rfl ?_
                      refine o_pickT st rfl rfl rfl ?_
                      refine c_nil ?_
                      exact l_join true (fun a w hE hm => ⟨hE.sub ⟨rfl, rfl, rfl, trivial⟩, (hm.pick [3, 4, 7] rfl)⟩)
                    · refine o_mv (st_g rfl rfl) rfl rfl ?_
                      refine o_mv (st_g rfl rfl) rfl rfl ?_
                      refine o_neqB (st_g rfl rfl) und4 rfl rfl rfl ?_
                      refine o_pickF st rfl rfl rfl ?_
                      refine c_nil ?_
                      exact l_join (!(decide (r180 = r12))) (fun a w hE hm => ⟨hE.sub ⟨rfl, rfl, rfl, trivial⟩, (hm.pick [3, 4, 7] rfl)⟩)
                  · rintro t247 a w ⟨hE, hm⟩ h
                    refine nx_of hE hm h ?_
                    clear hE hm h
                    refine c_cond rfl ?_ ?_
                    · refine c_seq ?_
                      refine c_region ?_
                      refine o_as st rfl rfl ?_
                      refine c_nil ?_
                      refine l_then ?_
                      refine c_ret ?_
                      refine l_ret ?_
                      exact l_end1 Tryd.results4 false () (rv_t rfl) (fun _ _ => NewCh.nil _ _ _ _)
                    · refine c_skip ?_
                      refine l_then ?_
                      refine c_seq ?_
                      refine c_region ?_
                      refine o_as st rfl rfl ?_
                      refine c_nil ?_
                      refine l_then ?_
                      refine c_seq ?_
                      refine c_region ?_
                      refine o_ldc st (v := (.agg #[(.slice a29 l30 q31), (.bool r22.xAccept)])) 1 rfl rfl rfl ty36 rfl ?_
                      refine o_mv st rfl rfl ?_
                      refine stw (o_callP (vs := [(.agg #[(.slice a29 l30 q31), (.bool r22.xAccept)]), (.int .i64 1)]) Tryd.call20 rfl rfl (by intro w m h; exact (w_laws_heldRuleset (F := allB [] w) (a_0 := (GRuleset.mk r168 r22.xAccept)) (k_1 := 1) allB_ok (m.rd0 0 rfl reads_dp) h).mono (fun _ _ k => ret_free (fun r u => fr_nil) k)) ?_); rintro r249 _
                      refine o_as st rfl rfl ?_
                      refine c_nil ?_
                      refine l_then ?_
                      refine c_seq ?_
                      refine c_seq ?_
                      refine c_region ?_
                      refine o_mv st rfl rfl ?_
                      refine o_lss st rfl rfl rfl ?_
                      refine c_nil ?_
                      refine l_then ?_
                      refine c_cond rfl ?_ ?_
                      · refine c_seq ?_
                        refine c_region ?_
                        refine o_as st rfl rfl ?_
                        refine c_nil ?_
                        refine l_then ?_
                        refine c_ret ?_
                        refine l_ret ?_
                        exact l_end1 Tryd.results4 false () (rv_t rfl) (fun _ _ => NewCh.nil _ _ _ _)
                      · refine c_skip ?_
                        refine l_then ?_
                        refine c_seq ?_
                        refine c_seq ?_
                        refine c_region ?_
                        refine o_mv st rfl rfl ?_
                        refine o_mv st rfl rfl ?_
                        refine o_neq st und3 rfl rfl rfl ?_
                        refine c_nil ?_
                        refine l_then ?_
                        refine c_cond rfl ?_ ?_
                        · refine c_seq ?_
                          refine c_region ?_
                          refine o_as st rfl rfl ?_
                          refine c_nil ?_
                          refine l_then ?_
                          refine c_ret ?_
                          refine l_ret ?_
                          exact l_end1 Tryd.results4 false () (rv_t rfl) (fun _ _ => NewCh.nil _ _ _ _)
                        · refine c_skip ?_
                          refine l_then ?_
                          refine c_seq ?_
                          refine c_region ?_
                          refine o_as st rfl rfl ?_
                          refine c_nil ?_
                          refine l_then ?_
                          refine c_ret ?_
                          exact l_end1 Tryd.results4 true () (rv_t rfl) (fun _ _ => NewCh.nil _ _ _ _)

end

end Go.Proofs.YtpbmhkfbggmofaaDoor
