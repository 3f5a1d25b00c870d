/- Texts of this seat, put together. -/
import Derived.Test.YtlcjkhnamgklgaaDoorMP3
set_option linter.unusedSimpArgs false
set_option linter.unusedVariables false
namespace Go.Proofs.YtlcjkhnamgklgaaDoor
section
open Go.RowKit
set_option maxRecDepth 100000 in
set_option maxHeartbeats 8000000 in
theorem w_spec_ReadRuleset {w0 : World} {F : Nat → Prop} {v1 : Value} {lines_0 : (List ByteArray)} {κ : (GRuleset × Bool) → Prop} (hF : ∀ b, F b → b < w0.heap.size ∧ ¬ feet [] b) (hv1 : Sl elStr F w0 v1 lines_0) (h : L_spec_ReadRuleset lines_0 κ) :
    Calls Tryd.prog 28 #[v1] w0 (Ret [] F w0 κ (fun (r : (GRuleset × Bool)) (u : Value × List Nat) => .tuple #[(.agg #[u.1, (.bool r.1.xAccept)]), (.bool r.2)]) (fun (r : (GRuleset × Bool)) (u : Value × List Nat) => [dpCh (dSl dGRule 54) 50 u.2 u.1 r.1.xChains])) := by
  refine enterS (args := [v1]) [] hF (Given.nil _ _) Tryd.func28 rfl Tryd.ntmps28 rfl h ?_
  clear h hF
  refine c_seq ?_
  refine c_region ?_
  refine stw (o_alloc rfl [(.slice none 0 0), (.bool false)] zero30 ?_); intro b3
  refine o_as st rfl rfl ?_
  refine c_nil ?_
  refine l_then ?_
  refine c_seq ?_
  refine c_region ?_
  refine o_bld st (qs := []) (cells := [(.slice none 0 0), (.bool false)]) (by intro ρ h; simp only [List.map_toArray, List.map_cons, List.map_nil]) rfl bld30 rfl ?_
  refine stw (o_alloc rfl [(.slice none 0 0), (.bool false)] zero30 ?_); intro b5
  refine stw (o_stc (cs' := [(.slice none 0 0), (.bool false)]) 0 rfl rfl rfl ty30 rfl rfl rfl rfl ?_)
  refine c_nil ?_
  refine l_then ?_
  refine c_seq ?_
  refine c_join (σ := Bool) (fun (t71 : Bool) (a : Act) (w : World) => Has 92 [(0, v1), (2, (.pointer (some ⟨b3, 0, none⟩))), (4, (.pointer (some ⟨b5, 0, none⟩))), (23, (.bool t71))] a ∧ Mem (gB F [] w0) (feet []) w0 [cellCh b5 [(.slice none 0 0), (.bool false)] 30, cellCh b3 [(.slice none 0 0), (.bool false)] 30, snapCh w0 F] w) ?_ ?_
  · intro k72
    refine c_region ?_
    refine o_mv st rfl rfl ?_
    refine o_len st el26 2 rfl (reads_snap hv1) rfl rfl ?_
    refine o_eql st und3 rfl rfl rfl ?_
    refine o_mv st rfl rfl ?_
    refine st_sp (dj := 12) rfl ?_ ?_
    · refine st_s rfl rfl rfl rfl ?_
      refine st_s rfl rfl rfl rfl ?_
      refine st_s rfl rfl rfl rfl ?_
      refine st_s rfl rfl rfl rfl ?_
      refine st_s rfl rfl rfl rfl ?_
      refine st_s rfl rfl rfl rfl ?_
      refine st_s rfl rfl rfl rfl ?_
      refine st_s rfl rfl rfl rfl ?_
      refine st_s rfl rfl rfl rfl ?_
      refine st_s rfl rfl rfl rfl ?_
      refine o_pickT st rfl rfl rfl ?_
      refine c_nil ?_
      exact l_join true (fun a w hE hm => ⟨hE.sub ⟨rfl, rfl, rfl, rfl, trivial⟩, (hm.pick [0, 1, 2] rfl)⟩)
    · refine o_mv (st_g rfl rfl) rfl rfl ?_
      refine o_idx (st_g rfl rfl) 2 rfl (reads_snap hv1) rfl rfl rfl el26 ?_; intro e7 h8
      refine o_lds (st_g rfl rfl) (enc := encStr) (u := (.string e7)) 2 rfl (reads_snap hv1) flelStr rfl h8 rfl rfl ty9 rfl ?_
      refine o_neqS (st_g rfl rfl) und9 rfl rfl rfl ?_
      refine o_mv (st_g rfl rfl) rfl rfl ?_
      refine st_sp (dj := 17) rfl ?_ ?_
      · refine o_mv (st_g rfl rfl) rfl rfl ?_
        refine o_idx (st_g rfl rfl) 2 rfl (reads_snap hv1) rfl rfl rfl el26 ?_; intro e9 h10
        refine o_lds (st_g rfl rfl) (enc := encStr) (u := (.string e9)) 2 rfl (reads_snap hv1) flelStr rfl h10 rfl rfl ty9 rfl ?_
        refine o_neqS (st_g rfl rfl) und9 rfl rfl rfl ?_
        refine o_pickT (st_g rfl rfl) rfl rfl rfl ?_
        refine o_pickF st rfl rfl rfl ?_
        refine c_nil ?_
        exact l_join (!(decide (e9 = (ByteArray.mk #[100, 101, 102, 97, 117, 108, 116, 32, 100, 114, 111, 112])))) (fun a w hE hm => ⟨hE.sub ⟨rfl, rfl, rfl, rfl, trivial⟩, (hm.pick [0, 1, 2] rfl)⟩)
      · refine st_s rfl rfl rfl rfl ?_
        refine st_s rfl rfl rfl rfl ?_
        refine st_s rfl rfl rfl rfl ?_
        refine st_s rfl rfl rfl rfl ?_
        refine o_pickF (st_g rfl rfl) rfl rfl rfl ?_
        refine o_pickF st rfl rfl rfl ?_
        refine c_nil ?_
        exact l_join false (fun a w hE hm => ⟨hE.sub ⟨rfl, rfl, rfl, rfl, trivial⟩, (hm.pick [0, 1, 2] rfl)⟩)
  · rintro t71 a w ⟨hE, hm⟩ h
    refine nx_of hE hm h ?_
    clear hE hm h
    refine c_cond rfl ?_ ?_
    · refine c_seq ?_
      refine c_region ?_
      refine o_ldc st (v := (.agg #[(.slice none 0 0), (.bool false)])) 0 rfl rfl rfl ty30 rfl ?_
      refine stw (o_stc (cs' := [(.slice none 0 0), (.bool false)]) 1 rfl rfl rfl ty30 rfl rfl rfl rfl ?_)
      refine o_as st rfl rfl ?_
      refine c_nil ?_
      refine l_then ?_
      refine c_ret ?_
      refine l_ret ?_
      refine nx_dnil (dSl dGRule 54) 50 ?_
      exact l_end2 Tryd.results28 ((GRuleset.mk ([]) false), false) ((.slice none 0 0), []) (rv_c 2 rfl rfl ty30 rfl) (rv_t rfl) rfl (fun w m => NewCh.ofB m [0] rfl)
    · refine c_skip ?_
      refine l_then ?_
      refine c_seq ?_
      refine c_region ?_
      refine o_mv st rfl rfl ?_
      refine o_idx st 2 rfl (reads_snap hv1) rfl rfl rfl el26 ?_; intro e74 h75
      refine o_lds st (enc := encStr) (u := (.string e74)) 2 rfl (reads_snap hv1) flelStr rfl h75 rfl rfl ty9 rfl ?_
      refine o_eqlS st und9 rfl rfl rfl ?_
      refine o_fad st rfl rfl fld30_1 rfl ?_
      refine stw (o_stc (cs' := [(.slice none 0 0), (.bool (decide (e74 = (ByteArray.mk #[100, 101, 102, 97, 117, 108, 116, 32, 97, 99, 99, 101, 112, 116]))))]) 0 rfl rfl rfl ty4 rfl rfl rfl rfl ?_)
      refine c_nil ?_
      refine l_then ?_
      refine c_seq ?_
      refine c_seq ?_
      refine c_region ?_
      refine o_as st rfl rfl ?_
      refine c_nil ?_
      refine l_then ?_
      refine c_block ?_
      refine c_loop (σ := ((List (List GRule)) × (List (List GRule)) × Int)) (fun ((xs77, xs82, t86) : ((List (List GRule)) × (List (List GRule)) × Int)) (a : Act) (w : World) => ∃ (v76 : Value) (bb79 : List Nat) (v81 : Value) (bb84 : List Nat), Has 92 [(0, v1), (2, (.pointer (some ⟨b3, 0, none⟩))), (4, (.pointer (some ⟨b5, 0, none⟩))), (5, (.int .i64 t86))] a ∧ Mem (gB F [] w0) (feet []) w0 [cellCh b5 [v76, (.bool (decide (e74 = (ByteArray.mk #[100, 101, 102, 97, 117, 108, 116, 32, 97, 99, 99, 101, 112, 116]))))] 30, cellCh b3 [v81, (.bool false)] 30, snapCh w0 F, dpCh (dSl dGRule 54) 50 bb79 v76 xs77, dpCh (dSl dGRule 54) 50 bb84 v81 xs82] w) (fun a w hE hm => ⟨(.slice none 0 0), [], (.slice none 0 0), [], hE.sub ⟨rfl, rfl, rfl, rfl, trivial⟩, ((mem_dnil (dSl dGRule 54) 50 (mem_dnil (dSl dGRule 54) 50 hm)).pick [2, 3, 4, 1, 0] rfl)⟩) ?_
      rintro nx87 ⟨xs77, xs82, t86⟩ a w ⟨v76, bb79, v81, bb84, hE, hm⟩ h
      refine nx_of hE hm h ?_
      clear hE hm h
      refine c_seq ?_
      refine c_seq ?_
      refine c_region ?_
      refine o_mv st rfl rfl ?_
      refine o_mv st rfl rfl ?_
      refine o_len st el26 2 rfl (reads_snap hv1) rfl rfl ?_
      refine o_lss st rfl rfl rfl ?_
      refine c_nil ?_
      refine l_then ?_
      refine c_cond rfl ?_ ?_
      · refine c_skip ?_
        refine l_then ?_
        refine c_join (σ := (List (List GRule))) (fun (xs389 : (List (List GRule))) (a : Act) (w : World) => ∃ (v390 : Value) (bb392 : List Nat), Has 92 [(0, v1), (2, (.pointer (some ⟨b3, 0, none⟩))), (4, (.pointer (some ⟨b5, 0, none⟩))), (5, (.int .i64 t86))] a ∧ Mem (gB F [] w0) (feet []) w0 [dpCh (dSl dGRule 54) 50 bb392 v390 xs389, cellCh b5 [v390, (.bool (decide (e74 = (ByteArray.mk #[100, 101, 102, 97, 117, 108, 116, 32, 97, 99, 99, 101, 112, 116]))))] 30, cellCh b3 [v81, (.bool false)] 30, dpCh (dSl dGRule 54) 50 bb84 v81 xs82, snapCh w0 F] w) ?_ ?_
        · intro k393
          refine c_block ?_
          refine c_join (σ := (List (List GRule))) (fun (xs170 : (List (List GRule))) (a : Act) (w : World) => ∃ (v171 : Value) (bb173 : List Nat), Has 92 [(0, v1), (2, (.pointer (some ⟨b3, 0, none⟩))), (4, (.pointer (some ⟨b5, 0, none⟩))), (5, (.int .i64 t86))] a ∧ Mem (gB F [] w0) (feet []) w0 [cellCh b5 [v171, (.bool (decide (e74 = (ByteArray.mk #[100, 101, 102, 97, 117, 108, 116, 32, 97, 99, 99, 101, 112, 116]))))] 30, cellCh b3 [v81, (.bool false)] 30, dpCh (dSl dGRule 54) 50 bb173 v171 xs170, dpCh (dSl dGRule 54) 50 bb84 v81 xs82, snapCh w0 F] w) ?_ ?_
          · intro k174
            refine c_seq ?_
            refine nx_dp 3 rfl ?_; rintro a88 l89 q90 rfl
            refine c_draw mixed 10 rfl [cellCh b3 [v81, (.bool false)] 30, snapCh w0 F, dpCh (dSl dGRule 54) 50 bb84 v81 xs82] ?_
            refine o_mv (dt 0 (fun w m => m.pick [1, 2, 4] rfl)) rfl rfl ?_
            refine o_mv (dt 1 (fun w m => m.pick [1, 2, 4] rfl)) rfl rfl ?_
            refine o_idx (dt 2 (fun w m => m.pick [1, 2, 4] rfl)) 1 rfl (reads_snap hv1) rfl rfl rfl el26 ?_; intro e91 h92
            refine o_lds (dt 3 (fun w m => m.pick [1, 2, 4] rfl)) (enc := encStr) (u := (.string e91)) 1 rfl (reads_snap hv1) flelStr rfl h92 rfl rfl ty9 rfl ?_
            refine o_fad (dt 4 (fun w m => m.pick [1, 2, 4] rfl)) rfl rfl fld30_0 rfl ?_
            refine d_one (i := 5) rfl (by kernel_rfl) (o_ldc m_op (v := (.slice a88 l89 q90)) 0 rfl rfl rfl ty28 rfl ?_)
            refine d_and (fun w m => m.pick [1, 2, 4] rfl) ?_
            refine d_one (i := 6) rfl (by kernel_rfl) (o_len m_op el28 3 rfl reads_dp rfl rfl ?_)
            refine d_and (fun w m => m.pick [1, 2, 4] rfl) ?_
            refine d_one (i := 7) rfl (by kernel_rfl) (o_callP (vs := [(.int .i64 (xs77.length : Int))]) Tryd.call34 rfl rfl (by intro w m h; exact (w_spec_l3Number (F := allB [] w) (n_0 := (xs77.length : Int)) allB_ok h).mono (fun _ _ k => ret_free (fun r u => fr_nil) k)) ?_); rintro r93 _
            refine d_and (fun w m => m.pick [1, 2, 4] rfl) ?_
            refine o_cat (dt 8 (fun w m => m.pick [1, 2, 4] rfl)) rfl rfl rfl ?_; intro s94
            refine o_eqlS (dt 9 (fun w m => m.pick [1, 2, 4] rfl)) und9 rfl rfl rfl ?_
            refine d_done (by kernel_rfl) ?_
            refine l_then ?_
            refine c_cond rfl ?_ ?_
            · refine c_seq ?_
              refine c_region ?_
              refine o_fad st rfl rfl fld30_0 rfl ?_
              refine o_ldc st (v := (.slice a88 l89 q90)) 0 rfl rfl rfl ty28 rfl ?_
              refine stw (o_bslD0 (E' := dGRule) (qs := []) (by intro ρ h; simp only [List.map_toArray, List.map_cons, List.map_nil]) rfl el50 zero54 rfl rfl rfl ?_); intro bb96 v95
              refine nx_dp 0 rfl ?_; rintro a98 l99 q100 rfl
              refine stw (o_bslD (M := [dpCh dGRule 54 bb96 (.slice a98 l99 q100) ([])]) (E' := (dSl dGRule 54)) (qs := [(0, (.slice a98 l99 q100))]) (cs := [(.slice a98 l99 q100)]) ([]) (absorb_one gives_dp (fun B w h => ⟨_, rfl, h⟩)) (by intro ρ h; simp only [List.map_toArray, List.map_cons, List.map_nil, h (.tmp 48) _ rfl]) rfl el28 zero50 rfl rfl rfl rfl ?_); intro bb102 v101
              refine pk [4, 0, 1, 2, 3, 5] rfl ?_
              refine stw (o_appD rfl rfl rfl el28 rfl zero50 rfl rfl ?_); intro bb105 v104
              refine o_fad st rfl rfl fld30_0 rfl ?_
              refine nx_dp 0 rfl ?_; rintro a107 l108 q109 rfl
              refine stw (o_stc (cs' := [(.slice a107 l108 q109), (.bool (decide (e74 = (ByteArray.mk #[100, 101, 102, 97, 117, 108, 116, 32, 97, 99, 99, 101, 112, 116]))))]) 1 rfl rfl rfl ty28 rfl rfl rfl rfl ?_)
              refine c_nil ?_
              refine l_then ?_
              refine c_exit ?_
              refine l_exit ?_
              refine b_exit ?_
              exact l_join (xs77 ++ ([[]])) (fun a w hE hm => ⟨(.slice a107 l108 q109), bb105, hE.sub ⟨rfl, rfl, rfl, rfl, trivial⟩, (hm.pick [0, 1, 2, 4, 3] rfl)⟩)
            · refine c_skip ?_
              exact l_join xs77 (fun a w hE hm => ⟨(.slice a88 l89 q90), bb79, hE.sub ⟨rfl, rfl, rfl, rfl, trivial⟩, (hm.pick [0, 1, 3, 4, 2] rfl)⟩)
          · rintro xs170 a w ⟨v171, bb173, hE, hm⟩ h
            refine nx_of hE hm h ?_
            clear hE hm h
            refine c_seq ?_
            refine c_region ?_
            refine o_mv st rfl rfl ?_
            refine o_mv st rfl rfl ?_
            refine o_idx st 4 rfl (reads_snap hv1) rfl rfl rfl el26 ?_; intro e175 h176
            refine o_lds st (enc := encStr) (u := (.string e175)) 4 rfl (reads_snap hv1) flelStr rfl h176 rfl rfl ty9 rfl ?_
            refine stw (o_callP (vs := [(.string e175)]) Tryd.call51 rfl rfl (by intro w m h; exact (w_spec_ReadRule (F := allB [] w) (s_0 := e175) allB_ok h).mono (fun _ _ k => ret_free (fun r u => (fr_cons (free_own flelGTest) fr_nil)) k)) ?_); rintro ⟨r177, r180⟩ v178
            refine o_mv st rfl rfl ?_
            refine o_ext st (vs := [(.agg #[v178, (.int .i64 r177.xAction), (.int .i64 r177.xChain)]), (.bool r180)]) rfl rfl rfl ?_
            refine o_ext st (vs := [(.agg #[v178, (.int .i64 r177.xAction), (.int .i64 r177.xChain)]), (.bool r180)]) rfl rfl rfl ?_
            refine stw (o_alloc rfl [(.slice none 0 0), (.int .i64 0), (.int .i64 0)] zero54 ?_); intro b181
            refine nx_own 1 rfl ?_; rintro a183 l184 q185 rfl
            refine stw (o_stc (cs' := [(.slice a183 l184 q185), (.int .i64 r177.xAction), (.int .i64 r177.xChain)]) 0 rfl rfl rfl ty54 rfl rfl rfl rfl ?_)
            refine o_as st rfl rfl ?_
            refine c_nil ?_
            refine l_then ?_
            refine c_seq ?_
            refine c_join (σ := Bool) (fun (t246 : Bool) (a : Act) (w : World) => Has 92 [(0, v1), (2, (.pointer (some ⟨b3, 0, none⟩))), (4, (.pointer (some ⟨b5, 0, none⟩))), (5, (.int .i64 t86)), (6, (.pointer (some ⟨b181, 0, none⟩))), (67, (.bool t246))] a ∧ Mem (gB F [] w0) (feet []) w0 [cellCh b181 [(.slice a183 l184 q185), (.int .i64 r177.xAction), (.int .i64 r177.xChain)] 54, ownCh elGTest 84 (.slice a183 l184 q185) r177.xTests, cellCh b5 [v171, (.bool (decide (e74 = (ByteArray.mk #[100, 101, 102, 97, 117, 108, 116, 32, 97, 99, 99, 101, 112, 116]))))] 30, cellCh b3 [v81, (.bool false)] 30, dpCh (dSl dGRule 54) 50 bb173 v171 xs170, dpCh (dSl dGRule 54) 50 bb84 v81 xs82, snapCh w0 F] w) ?_ ?_
            · intro k247
              refine c_region ?_
              refine o_mv st rfl rfl ?_
              refine o_not st rfl rfl ?_
              refine o_mv st rfl rfl ?_
              refine st_sp (dj := 62) rfl ?_ ?_
              · refine st_s rfl rfl rfl rfl ?_
                refine st_s rfl rfl rfl rfl ?_
                refine st_s rfl rfl rfl rfl ?_
                refine st_s rfl rfl rfl rfl ?_
                refine o_pickT st rfl rfl rfl ?_
                refine c_nil ?_
                exact l_join true (fun a w hE hm => ⟨hE.sub ⟨rfl, rfl, rfl, rfl, rfl, rfl, trivial⟩, (hm.pick [0, 1, 2, 3, 4, 5, 6] rfl)⟩)
              · refine o_fad (st_g rfl rfl) rfl rfl fld30_0 rfl ?_
                refine o_ldc (st_g rfl rfl) (v := v171) 2 rfl rfl rfl ty28 rfl ?_
                refine o_len (st_g rfl rfl) el28 4 rfl reads_dp rfl rfl ?_
                refine o_eql (st_g rfl rfl) und3 rfl rfl rfl ?_
                refine o_pickF st rfl rfl rfl ?_
                refine c_nil ?_
                exact l_join (decide ((xs170.length : Int) = 0)) (fun a w hE hm => ⟨hE.sub ⟨rfl, rfl, rfl, rfl, rfl, rfl, trivial⟩, (hm.pick [0, 1, 2, 3, 4, 5, 6] rfl)⟩)
            · rintro t246 a w ⟨hE, hm⟩ h
              refine nx_of hE hm h ?_
              clear hE hm h
              refine c_cond rfl ?_ ?_
              · refine c_seq ?_
                refine c_region ?_
                refine o_bld st (qs := []) (cells := [(.slice none 0 0), (.bool false)]) (by intro ρ h; simp only [List.map_toArray, List.map_cons, List.map_nil]) rfl bld30 rfl ?_
                refine stw (o_stc (cs' := [(.slice none 0 0), (.bool false)]) 3 rfl rfl rfl ty30 rfl rfl rfl rfl ?_)
                refine o_as st rfl rfl ?_
                refine c_nil ?_
                refine l_then ?_
                refine c_ret ?_
                refine l_ret ?_
                refine b_ret ?_
                refine l_ret ?_
                refine l_ret ?_
                refine b_ret ?_
                refine l_ret ?_
                refine nx_dnil (dSl dGRule 54) 50 ?_
                exact l_end2 Tryd.results28 ((GRuleset.mk ([]) false), false) ((.slice none 0 0), []) (rv_c 4 rfl rfl ty30 rfl) (rv_t rfl) rfl (fun w m => NewCh.ofB m [0] rfl)
              · refine c_skip ?_
                refine l_then ?_
                refine nx_dp 4 rfl ?_; rintro a249 l250 q251 rfl
                refine c_join1 (σ := (List (List GRule))) (fun (xs252 : (List (List GRule))) (a : Act) (w : World) => ∃ (bb254 : List Nat), Has 92 [(0, v1), (2, (.pointer (some ⟨b3, 0, none⟩))), (4, (.pointer (some ⟨b5, 0, none⟩))), (5, (.int .i64 t86))] a ∧ Mem (gB F [] w0) (feet []) w0 [dpCh (dSl dGRule 54) 50 bb254 (.slice a249 l250 q251) xs252, cellCh b5 [(.slice a249 l250 q251), (.bool (decide (e74 = (ByteArray.mk #[100, 101, 102, 97, 117, 108, 116, 32, 97, 99, 99, 101, 112, 116]))))] 30, cellCh b3 [v81, (.bool false)] 30, dpCh (dSl dGRule 54) 50 bb84 v81 xs82, snapCh w0 F] w) ?_ ?_
                · intro k255
                  refine c_drawQ mixed 19 rfl [cellCh b181 [(.slice a183 l184 q185), (.int .i64 r177.xAction), (.int .i64 r177.xChain)] 54, cellCh b5 [(.slice a249 l250 q251), (.bool (decide (e74 = (ByteArray.mk #[100, 101, 102, 97, 117, 108, 116, 32, 97, 99, 99, 101, 112, 116]))))] 30, cellCh b3 [v81, (.bool false)] 30, dpCh (dSl dGRule 54) 50 bb84 v81 xs82, snapCh w0 F] ?_
                  intro Qd hP hQ
                  have H223 : ∀ (e256 : (List GRule)) (h257 : xs170[((w64 ((xs170.length : Int) - 1))).toNat]? = some e256) (v258 : Value) (bb259 : List Nat) (bb260 : List Nat) (v261 : Value) (bb262 : List Nat) (a268 : Option Addr) (l269 : Nat) (q270 : Nat) (bb264 : List Nat) (e266 : (List GRule)) (h267 : xs170[((w64 ((xs170.length : Int) - 1))).toNat]? = some e266) (bb271 : List Nat), Nx 92 (gB F [] w0) (feet []) w0 (wpAnyH Tryd.prog .any (opsAt Tryd.f28 [1, 1, 1, 1, 0, 1, 0, 0, 1, 0, 0, 1, 1, 1]) Qd (Mem (gB F [] w0) (feet []) w0 [cellCh b181 [(.slice a183 l184 q185), (.int .i64 r177.xAction), (.int .i64 r177.xChain)] 54, cellCh b5 [(.slice a249 l250 q251), (.bool (decide (e74 = (ByteArray.mk #[100, 101, 102, 97, 117, 108, 116, 32, 97, 99, 99, 101, 112, 116]))))] 30, cellCh b3 [v81, (.bool false)] 30, dpCh (dSl dGRule 54) 50 bb84 v81 xs82, snapCh w0 F]) 0 #[true, true, true, true, true, true, true, true, true, true, true, true, true, true, true, true, true, true, true]) [(0, v1), (2, (.pointer (some ⟨b3, 0, none⟩))), (4, (.pointer (some ⟨b5, 0, none⟩))), (5, (.int .i64 t86))] [dpCh (dSl dGRule 54) 50 bb271 (.slice a249 l250 q251) (xs170.set ((w64 ((xs170.length : Int) - 1))).toNat (e256 ++ ([r177]))), cellCh b181 [(.slice a183 l184 q185), (.int .i64 r177.xAction), (.int .i64 r177.xChain)] 54, cellCh b5 [(.slice a249 l250 q251), (.bool (decide (e74 = (ByteArray.mk #[100, 101, 102, 97, 117, 108, 116, 32, 97, 99, 99, 101, 112, 116]))))] 30, cellCh b3 [v81, (.bool false)] 30, dpCh (dSl dGRule 54) 50 bb84 v81 xs82, snapCh w0 F] (k255 (xs170.set ((w64 ((xs170.length : Int) - 1))).toNat (e256 ++ ([r177])))) := by
                    intro e256 h257 v258 bb259 bb260 v261 bb262 a268 l269 q270 bb264 e266 h267 bb271
                    refine d_done (by kernel_rfl) ?_
                    exact fun a w hE hm hφ => hQ (xs170.set ((w64 ((xs170.length : Int) - 1))).toNat (e256 ++ ([r177]))) a w hφ ((fun a w hE hm => ⟨bb271, hE.sub ⟨rfl, rfl, rfl, rfl, trivial⟩, (hm.pick [0, 2, 3, 4, 5] rfl)⟩) a w hE hm)
                  have H224 : ∀ (e256 : (List GRule)) (h257 : xs170[((w64 ((xs170.length : Int) - 1))).toNat]? = some e256) (v258 : Value) (bb259 : List Nat) (bb260 : List Nat) (v261 : Value) (bb262 : List Nat) (v263 : Value) (bb264 : List Nat) (e266 : (List GRule)) (h267 : xs170[((w64 ((xs170.length : Int) - 1))).toNat]? = some e266), Nx 92 (gB F [] w0) (feet []) w0 (wpAnyH Tryd.prog .any (opsAt Tryd.f28 [1, 1, 1, 1, 0, 1, 0, 0, 1, 0, 0, 1, 1, 1]) Qd (Mem (gB F [] w0) (feet []) w0 [cellCh b181 [(.slice a183 l184 q185), (.int .i64 r177.xAction), (.int .i64 r177.xChain)] 54, cellCh b5 [(.slice a249 l250 q251), (.bool (decide (e74 = (ByteArray.mk #[100, 101, 102, 97, 117, 108, 116, 32, 97, 99, 99, 101, 112, 116]))))] 30, cellCh b3 [v81, (.bool false)] 30, dpCh (dSl dGRule 54) 50 bb84 v81 xs82, snapCh w0 F]) 1 #[true, true, true, true, true, true, true, true, true, true, true, true, true, true, true, true, true, true, false]) [(0, v1), (2, (.pointer (some ⟨b3, 0, none⟩))), (4, (.pointer (some ⟨b5, 0, none⟩))), (5, (.int .i64 t86)), (85, v263), (86, (pEl (.slice a249 l250 q251) (w64 ((xs170.length : Int) - 1)) 1 0))] [dpCh dGRule 54 bb264 v263 (e256 ++ ([r177])), holeCh (dSl dGRule 54) 50 bb259 (.slice a249 l250 q251) xs170 ((w64 ((xs170.length : Int) - 1))).toNat [v258], cellCh b181 [(.slice a183 l184 q185), (.int .i64 r177.xAction), (.int .i64 r177.xChain)] 54, cellCh b5 [(.slice a249 l250 q251), (.bool (decide (e74 = (ByteArray.mk #[100, 101, 102, 97, 117, 108, 116, 32, 97, 99, 99, 101, 112, 116]))))] 30, cellCh b3 [v81, (.bool false)] 30, dpCh (dSl dGRule 54) 50 bb84 v81 xs82, snapCh w0 F] (k255 (xs170.set ((w64 ((xs170.length : Int) - 1))).toNat (e256 ++ ([r177])))) := by
                    intro e256 h257 v258 bb259 bb260 v261 bb262 v263 bb264 e266 h267
                    refine nx_dp 0 rfl ?_; rintro a268 l269 q270 rfl
                    refine pk [1, 0, 2, 3, 4, 5, 6] rfl ?_
                    refine d_one (i := 18) rfl (by kernel_rfl) (o_stH (M := [dpCh dGRule 54 bb264 (.slice a268 l269 q270) (e256 ++ ([r177]))]) (y' := (e256 ++ ([r177]))) rfl (.inr (lt_of_get h257)) (absorb_one gives_dp (fun B w h => ⟨_, rfl, h⟩)) ty50 rfl rfl rfl rfl rfl ?_); intro bb271
                    refine d_and (fun w m => m.pick [1, 2, 3, 4, 5] rfl) ?_
                    refine pk [0, 1, 2, 3, 4, 5] rfl ?_
                    refine re (E' := [(0, v1), (2, (.pointer (some ⟨b3, 0, none⟩))), (4, (.pointer (some ⟨b5, 0, none⟩))), (5, (.int .i64 t86))]) ⟨rfl, rfl, rfl, rfl, trivial⟩ ?_
                    exact H223 e256 h257 v258 bb259 bb260 v261 bb262 a268 l269 q270 bb264 e266 h267 bb271
                  have H225 : ∀ (e256 : (List GRule)) (h257 : xs170[((w64 ((xs170.length : Int) - 1))).toNat]? = some e256) (v258 : Value) (bb259 : List Nat) (bb260 : List Nat) (v261 : Value) (bb262 : List Nat) (v263 : Value) (bb264 : List Nat), Nx 92 (gB F [] w0) (feet []) w0 (wpAnyH Tryd.prog .any (opsAt Tryd.f28 [1, 1, 1, 1, 0, 1, 0, 0, 1, 0, 0, 1, 1, 1]) Qd (Mem (gB F [] w0) (feet []) w0 [cellCh b181 [(.slice a183 l184 q185), (.int .i64 r177.xAction), (.int .i64 r177.xChain)] 54, cellCh b5 [(.slice a249 l250 q251), (.bool (decide (e74 = (ByteArray.mk #[100, 101, 102, 97, 117, 108, 116, 32, 97, 99, 99, 101, 112, 116]))))] 30, cellCh b3 [v81, (.bool false)] 30, dpCh (dSl dGRule 54) 50 bb84 v81 xs82, snapCh w0 F]) 2 #[true, true, true, true, true, true, true, true, true, true, true, true, true, true, true, true, true, false, false]) [(0, v1), (2, (.pointer (some ⟨b3, 0, none⟩))), (4, (.pointer (some ⟨b5, 0, none⟩))), (5, (.int .i64 t86)), (70, (.slice a249 l250 q251)), (74, (.int .i64 (w64 ((xs170.length : Int) - 1)))), (85, v263)] [dpCh dGRule 54 bb264 v263 (e256 ++ ([r177])), holeCh (dSl dGRule 54) 50 bb259 (.slice a249 l250 q251) xs170 ((w64 ((xs170.length : Int) - 1))).toNat [v258], cellCh b181 [(.slice a183 l184 q185), (.int .i64 r177.xAction), (.int .i64 r177.xChain)] 54, cellCh b5 [(.slice a249 l250 q251), (.bool (decide (e74 = (ByteArray.mk #[100, 101, 102, 97, 117, 108, 116, 32, 97, 99, 99, 101, 112, 116]))))] 30, cellCh b3 [v81, (.bool false)] 30, dpCh (dSl dGRule 54) 50 bb84 v81 xs82, snapCh w0 F] (idxW xs170 (w64 ((xs170.length : Int) - 1)) (fun e266 => k255 (xs170.set ((w64 ((xs170.length : Int) - 1))).toNat (e256 ++ ([r177]))))) := by
                    intro e256 h257 v258 bb259 bb260 v261 bb262 v263 bb264
                    refine d_one (i := 17) rfl (by kernel_rfl) (o_idxH m_op 1 rfl rfl rfl rfl el28 ?_); intro e266 h267
                    refine d_and (fun w m => m.pick [2, 3, 4, 5, 6] rfl) ?_
                    refine pk [0, 1, 2, 3, 4, 5, 6] rfl ?_
                    refine re (E' := [(0, v1), (2, (.pointer (some ⟨b3, 0, none⟩))), (4, (.pointer (some ⟨b5, 0, none⟩))), (5, (.int .i64 t86)), (85, v263), (86, (pEl (.slice a249 l250 q251) (w64 ((xs170.length : Int) - 1)) 1 0))]) ⟨rfl, rfl, rfl, rfl, rfl, rfl, trivial⟩ ?_
                    exact H224 e256 h257 v258 bb259 bb260 v261 bb262 v263 bb264 e266 h267
                  have H226 : ∀ (e256 : (List GRule)) (h257 : xs170[((w64 ((xs170.length : Int) - 1))).toNat]? = some e256) (v258 : Value) (bb259 : List Nat) (bb260 : List Nat) (v261 : Value) (bb262 : List Nat), Nx 92 (gB F [] w0) (feet []) w0 (wpAnyH Tryd.prog .any (opsAt Tryd.f28 [1, 1, 1, 1, 0, 1, 0, 0, 1, 0, 0, 1, 1, 1]) Qd (Mem (gB F [] w0) (feet []) w0 [cellCh b181 [(.slice a183 l184 q185), (.int .i64 r177.xAction), (.int .i64 r177.xChain)] 54, cellCh b5 [(.slice a249 l250 q251), (.bool (decide (e74 = (ByteArray.mk #[100, 101, 102, 97, 117, 108, 116, 32, 97, 99, 99, 101, 112, 116]))))] 30, cellCh b3 [v81, (.bool false)] 30, dpCh (dSl dGRule 54) 50 bb84 v81 xs82, snapCh w0 F]) 3 #[true, true, true, true, true, true, true, true, true, true, true, true, true, true, true, true, false, false, false]) [(0, v1), (2, (.pointer (some ⟨b3, 0, none⟩))), (4, (.pointer (some ⟨b5, 0, none⟩))), (5, (.int .i64 t86)), (70, (.slice a249 l250 q251)), (74, (.int .i64 (w64 ((xs170.length : Int) - 1)))), (82, v258), (84, v261)] [dpCh dGRule 54 bb262 v261 ([r177]), holeCh (dSl dGRule 54) 50 bb259 (.slice a249 l250 q251) xs170 ((w64 ((xs170.length : Int) - 1))).toNat [v258], dpCh dGRule 54 bb260 v258 e256, cellCh b181 [(.slice a183 l184 q185), (.int .i64 r177.xAction), (.int .i64 r177.xChain)] 54, cellCh b5 [(.slice a249 l250 q251), (.bool (decide (e74 = (ByteArray.mk #[100, 101, 102, 97, 117, 108, 116, 32, 97, 99, 99, 101, 112, 116]))))] 30, cellCh b3 [v81, (.bool false)] 30, dpCh (dSl dGRule 54) 50 bb84 v81 xs82, snapCh w0 F] (appW e256 ([r177]) (fun _ => idxW xs170 (w64 ((xs170.length : Int) - 1)) (fun e266 => k255 (xs170.set ((w64 ((xs170.length : Int) - 1))).toNat (e256 ++ ([r177])))))) := by
                    intro e256 h257 v258 bb259 bb260 v261 bb262
                    refine pk [2, 0, 1, 3, 4, 5, 6, 7] rfl ?_
                    refine d_one (i := 16) rfl (by kernel_rfl) (o_appD rfl rfl rfl el50 rfl zero54 rfl rfl ?_); intro bb264 v263
                    refine d_and (fun w m => m.pick [2, 3, 4, 5, 6] rfl) ?_
                    refine pk [0, 1, 2, 3, 4, 5, 6] rfl ?_
                    refine re (E' := [(0, v1), (2, (.pointer (some ⟨b3, 0, none⟩))), (4, (.pointer (some ⟨b5, 0, none⟩))), (5, (.int .i64 t86)), (70, (.slice a249 l250 q251)), (74, (.int .i64 (w64 ((xs170.length : Int) - 1)))), (85, v263)]) ⟨rfl, rfl, rfl, rfl, rfl, rfl, rfl, trivial⟩ ?_
                    exact H225 e256 h257 v258 bb259 bb260 v261 bb262 v263 bb264
                  have H227 : ∀ (e256 : (List GRule)) (h257 : xs170[((w64 ((xs170.length : Int) - 1))).toNat]? = some e256) (v258 : Value) (bb259 : List Nat) (bb260 : List Nat), Nx 92 (gB F [] w0) (feet []) w0 (wpAnyH Tryd.prog .any (opsAt Tryd.f28 [1, 1, 1, 1, 0, 1, 0, 0, 1, 0, 0, 1, 1, 1]) Qd (Mem (gB F [] w0) (feet []) w0 [cellCh b181 [(.slice a183 l184 q185), (.int .i64 r177.xAction), (.int .i64 r177.xChain)] 54, cellCh b5 [(.slice a249 l250 q251), (.bool (decide (e74 = (ByteArray.mk #[100, 101, 102, 97, 117, 108, 116, 32, 97, 99, 99, 101, 112, 116]))))] 30, cellCh b3 [v81, (.bool false)] 30, dpCh (dSl dGRule 54) 50 bb84 v81 xs82, snapCh w0 F]) 4 #[true, true, true, true, true, true, true, true, true, true, true, true, true, true, true, false, false, false, false]) [(0, v1), (2, (.pointer (some ⟨b3, 0, none⟩))), (4, (.pointer (some ⟨b5, 0, none⟩))), (5, (.int .i64 t86)), (70, (.slice a249 l250 q251)), (83, (.agg #[(.slice a183 l184 q185), (.int .i64 r177.xAction), (.int .i64 r177.xChain)])), (74, (.int .i64 (w64 ((xs170.length : Int) - 1)))), (82, v258)] [holeCh (dSl dGRule 54) 50 bb259 (.slice a249 l250 q251) xs170 ((w64 ((xs170.length : Int) - 1))).toNat [v258], dpCh dGRule 54 bb260 v258 e256, cellCh b181 [(.slice a183 l184 q185), (.int .i64 r177.xAction), (.int .i64 r177.xChain)] 54, ownCh elGTest 84 (.slice a183 l184 q185) r177.xTests, cellCh b5 [(.slice a249 l250 q251), (.bool (decide (e74 = (ByteArray.mk #[100, 101, 102, 97, 117, 108, 116, 32, 97, 99, 99, 101, 112, 116]))))] 30, cellCh b3 [v81, (.bool false)] 30, dpCh (dSl dGRule 54) 50 bb84 v81 xs82, snapCh w0 F] (appW e256 ([r177]) (fun _ => idxW xs170 (w64 ((xs170.length : Int) - 1)) (fun e266 => k255 (xs170.set ((w64 ((xs170.length : Int) - 1))).toNat (e256 ++ ([r177])))))) := by
                    intro e256 h257 v258 bb259 bb260
                    refine pk [3, 0, 1, 2, 4, 5, 6, 7] rfl ?_
                    refine d_one (i := 15) rfl (by kernel_rfl) (o_bslD (M := [ownCh elGTest 84 (.slice a183 l184 q185) r177.xTests]) (E' := dGRule) (qs := [(0, (.agg #[(.slice a183 l184 q185), (.int .i64 r177.xAction), (.int .i64 r177.xChain)]))]) (cs := [(.slice a183 l184 q185), (.int .i64 r177.xAction), (.int .i64 r177.xChain)]) r177 (absorb_one (gives_own flelGTest) (fun B w h => ⟨_, rfl, h⟩)) (by intro ρ h; simp only [List.map_toArray, List.map_cons, List.map_nil, h (.tmp 83) _ rfl]) rfl el50 zero54 rfl rfl rfl rfl ?_); intro bb262 v261
                    refine d_and (fun w m => m.pick [3, 4, 5, 6, 7] rfl) ?_
                    refine pk [0, 1, 2, 3, 4, 5, 6, 7] rfl ?_
                    refine re (E' := [(0, v1), (2, (.pointer (some ⟨b3, 0, none⟩))), (4, (.pointer (some ⟨b5, 0, none⟩))), (5, (.int .i64 t86)), (70, (.slice a249 l250 q251)), (74, (.int .i64 (w64 ((xs170.length : Int) - 1)))), (82, v258), (84, v261)]) ⟨rfl, rfl, rfl, rfl, rfl, rfl, rfl, rfl, trivial⟩ ?_
                    exact H226 e256 h257 v258 bb259 bb260 v261 bb262
                  have H228 : ∀ (e256 : (List GRule)) (h257 : xs170[((w64 ((xs170.length : Int) - 1))).toNat]? = some e256) (v273 : Value) (bb274 : List Nat), Nx 92 (gB F [] w0) (feet []) w0 (wpAnyH Tryd.prog .any (opsAt Tryd.f28 [1, 1, 1, 1, 0, 1, 0, 0, 1, 0, 0, 1, 1, 1]) Qd (Mem (gB F [] w0) (feet []) w0 [cellCh b181 [(.slice a183 l184 q185), (.int .i64 r177.xAction), (.int .i64 r177.xChain)] 54, cellCh b5 [(.slice a249 l250 q251), (.bool (decide (e74 = (ByteArray.mk #[100, 101, 102, 97, 117, 108, 116, 32, 97, 99, 99, 101, 112, 116]))))] 30, cellCh b3 [v81, (.bool false)] 30, dpCh (dSl dGRule 54) 50 bb84 v81 xs82, snapCh w0 F]) 4 #[true, true, true, true, true, true, true, true, true, true, true, true, true, false, true, true, false, false, false]) [(0, v1), (2, (.pointer (some ⟨b3, 0, none⟩))), (4, (.pointer (some ⟨b5, 0, none⟩))), (5, (.int .i64 t86)), (70, (.slice a249 l250 q251)), (74, (.int .i64 (w64 ((xs170.length : Int) - 1)))), (81, (pEl (.slice a249 l250 q251) (w64 ((xs170.length : Int) - 1)) 1 0)), (84, v273)] [dpCh dGRule 54 bb274 v273 ([r177]), cellCh b181 [(.slice a183 l184 q185), (.int .i64 r177.xAction), (.int .i64 r177.xChain)] 54, cellCh b5 [(.slice a249 l250 q251), (.bool (decide (e74 = (ByteArray.mk #[100, 101, 102, 97, 117, 108, 116, 32, 97, 99, 99, 101, 112, 116]))))] 30, cellCh b3 [v81, (.bool false)] 30, dpCh (dSl dGRule 54) 50 bb173 (.slice a249 l250 q251) xs170, dpCh (dSl dGRule 54) 50 bb84 v81 xs82, snapCh w0 F] (appW e256 ([r177]) (fun _ => idxW xs170 (w64 ((xs170.length : Int) - 1)) (fun e266 => k255 (xs170.set ((w64 ((xs170.length : Int) - 1))).toNat (e256 ++ ([r177])))))) := by
                    intro e256 h257 v273 bb274
                    refine pk [4, 0, 1, 2, 3, 5, 6] rfl ?_
                    refine d_one (i := 13) rfl (by kernel_rfl) (o_ldF (E1 := dGRule) (t1 := 54) (zin := e256) (encz := fun v => [v]) rfl h257 (fun B w cs h => h) rfl rfl ty50 ?_); rintro v275 bb276 bb277; refine ⟨v275, rfl, ?_⟩
                    refine d_and (fun w m => m.pick [3, 4, 5, 6, 7] rfl) ?_
                    refine pk [2, 0, 1, 3, 4, 5, 6, 7] rfl ?_
                    refine re (E' := [(0, v1), (2, (.pointer (some ⟨b3, 0, none⟩))), (4, (.pointer (some ⟨b5, 0, none⟩))), (5, (.int .i64 t86)), (70, (.slice a249 l250 q251)), (74, (.int .i64 (w64 ((xs170.length : Int) - 1)))), (82, v275), (84, v273)]) ⟨rfl, rfl, rfl, rfl, rfl, rfl, rfl, rfl, trivial⟩ ?_
                    exact H226 e256 h257 v275 bb276 bb277 v273 bb274
                  have H229 : ∀ (e256 : (List GRule)) (h257 : xs170[((w64 ((xs170.length : Int) - 1))).toNat]? = some e256), Nx 92 (gB F [] w0) (feet []) w0 (wpAnyH Tryd.prog .any (opsAt Tryd.f28 [1, 1, 1, 1, 0, 1, 0, 0, 1, 0, 0, 1, 1, 1]) Qd (Mem (gB F [] w0) (feet []) w0 [cellCh b181 [(.slice a183 l184 q185), (.int .i64 r177.xAction), (.int .i64 r177.xChain)] 54, cellCh b5 [(.slice a249 l250 q251), (.bool (decide (e74 = (ByteArray.mk #[100, 101, 102, 97, 117, 108, 116, 32, 97, 99, 99, 101, 112, 116]))))] 30, cellCh b3 [v81, (.bool false)] 30, dpCh (dSl dGRule 54) 50 bb84 v81 xs82, snapCh w0 F]) 5 #[true, true, true, true, true, true, true, true, true, true, true, true, true, false, true, false, false, false, false]) [(0, v1), (2, (.pointer (some ⟨b3, 0, none⟩))), (4, (.pointer (some ⟨b5, 0, none⟩))), (5, (.int .i64 t86)), (70, (.slice a249 l250 q251)), (83, (.agg #[(.slice a183 l184 q185), (.int .i64 r177.xAction), (.int .i64 r177.xChain)])), (74, (.int .i64 (w64 ((xs170.length : Int) - 1)))), (81, (pEl (.slice a249 l250 q251) (w64 ((xs170.length : Int) - 1)) 1 0))] [cellCh b181 [(.slice a183 l184 q185), (.int .i64 r177.xAction), (.int .i64 r177.xChain)] 54, ownCh elGTest 84 (.slice a183 l184 q185) r177.xTests, cellCh b5 [(.slice a249 l250 q251), (.bool (decide (e74 = (ByteArray.mk #[100, 101, 102, 97, 117, 108, 116, 32, 97, 99, 99, 101, 112, 116]))))] 30, cellCh b3 [v81, (.bool false)] 30, dpCh (dSl dGRule 54) 50 bb173 (.slice a249 l250 q251) xs170, dpCh (dSl dGRule 54) 50 bb84 v81 xs82, snapCh w0 F] (appW e256 ([r177]) (fun _ => idxW xs170 (w64 ((xs170.length : Int) - 1)) (fun e266 => k255 (xs170.set ((w64 ((xs170.length : Int) - 1))).toNat (e256 ++ ([r177])))))) := by
                    intro e256 h257
                    refine d_two (i := 13) (j := 15) rfl rfl (by kernel_rfl) ?_ ?_
                    · intro o ho; cases ho
                      refine pk [4, 0, 1, 2, 3, 5, 6] rfl ?_
                      refine o_ldF (E1 := dGRule) (t1 := 54) (zin := e256) (encz := fun v => [v]) rfl h257 (fun B w cs h => h) rfl rfl ty50 ?_; rintro v258 bb259 bb260; refine ⟨v258, rfl, ?_⟩
                      refine d_and (fun w m => m.pick [2, 4, 5, 6, 7] rfl) ?_
                      refine pk [0, 1, 2, 3, 4, 5, 6, 7] rfl ?_
                      refine re (E' := [(0, v1), (2, (.pointer (some ⟨b3, 0, none⟩))), (4, (.pointer (some ⟨b5, 0, none⟩))), (5, (.int .i64 t86)), (70, (.slice a249 l250 q251)), (83, (.agg #[(.slice a183 l184 q185), (.int .i64 r177.xAction), (.int .i64 r177.xChain)])), (74, (.int .i64 (w64 ((xs170.length : Int) - 1)))), (82, v258)]) ⟨rfl, rfl, rfl, rfl, rfl, rfl, rfl, rfl, trivial⟩ ?_
                      exact H227 e256 h257 v258 bb259 bb260
                    · intro o ho; cases ho
                      refine pk [1, 0, 2, 3, 4, 5, 6] rfl ?_
                      refine o_bslD (M := [ownCh elGTest 84 (.slice a183 l184 q185) r177.xTests]) (E' := dGRule) (qs := [(0, (.agg #[(.slice a183 l184 q185), (.int .i64 r177.xAction), (.int .i64 r177.xChain)]))]) (cs := [(.slice a183 l184 q185), (.int .i64 r177.xAction), (.int .i64 r177.xChain)]) r177 (absorb_one (gives_own flelGTest) (fun B w h => ⟨_, rfl, h⟩)) (by intro ρ h; simp only [List.map_toArray, List.map_cons, List.map_nil, h (.tmp 83) _ rfl]) rfl el50 zero54 rfl rfl rfl rfl ?_; intro bb274 v273
                      refine d_and (fun w m => m.pick [1, 2, 3, 5, 6] rfl) ?_
                      refine pk [0, 1, 2, 3, 4, 5, 6] rfl ?_
                      refine re (E' := [(0, v1), (2, (.pointer (some ⟨b3, 0, none⟩))), (4, (.pointer (some ⟨b5, 0, none⟩))), (5, (.int .i64 t86)), (70, (.slice a249 l250 q251)), (74, (.int .i64 (w64 ((xs170.length : Int) - 1)))), (81, (pEl (.slice a249 l250 q251) (w64 ((xs170.length : Int) - 1)) 1 0)), (84, v273)]) ⟨rfl, rfl, rfl, rfl, rfl, rfl, rfl, rfl, trivial⟩ ?_
                      exact H228 e256 h257 v273 bb274
                  have H230 : ∀ (v278 : Value) (bb279 : List Nat), Nx 92 (gB F [] w0) (feet []) w0 (wpAnyH Tryd.prog .any (opsAt Tryd.f28 [1, 1, 1, 1, 0, 1, 0, 0, 1, 0, 0, 1, 1, 1]) Qd (Mem (gB F [] w0) (feet []) w0 [cellCh b181 [(.slice a183 l184 q185), (.int .i64 r177.xAction), (.int .i64 r177.xChain)] 54, cellCh b5 [(.slice a249 l250 q251), (.bool (decide (e74 = (ByteArray.mk #[100, 101, 102, 97, 117, 108, 116, 32, 97, 99, 99, 101, 112, 116]))))] 30, cellCh b3 [v81, (.bool false)] 30, dpCh (dSl dGRule 54) 50 bb84 v81 xs82, snapCh w0 F]) 5 #[true, true, true, true, true, true, true, true, true, true, true, true, false, false, true, true, false, false, false]) [(0, v1), (2, (.pointer (some ⟨b3, 0, none⟩))), (4, (.pointer (some ⟨b5, 0, none⟩))), (5, (.int .i64 t86)), (70, (.slice a249 l250 q251)), (76, (.slice a249 l250 q251)), (74, (.int .i64 (w64 ((xs170.length : Int) - 1)))), (80, (.int .i64 (w64 ((xs170.length : Int) - 1)))), (84, v278)] [dpCh dGRule 54 bb279 v278 ([r177]), cellCh b181 [(.slice a183 l184 q185), (.int .i64 r177.xAction), (.int .i64 r177.xChain)] 54, cellCh b5 [(.slice a249 l250 q251), (.bool (decide (e74 = (ByteArray.mk #[100, 101, 102, 97, 117, 108, 116, 32, 97, 99, 99, 101, 112, 116]))))] 30, cellCh b3 [v81, (.bool false)] 30, dpCh (dSl dGRule 54) 50 bb173 (.slice a249 l250 q251) xs170, dpCh (dSl dGRule 54) 50 bb84 v81 xs82, snapCh w0 F] (idxW xs170 (w64 ((xs170.length : Int) - 1)) (fun e280 => appW e280 ([r177]) (fun _ => idxW xs170 (w64 ((xs170.length : Int) - 1)) (fun e266 => k255 (xs170.set ((w64 ((xs170.length : Int) - 1))).toNat (e280 ++ ([r177]))))))) := by
                    intro v278 bb279
                    refine d_one (i := 12) rfl (by kernel_rfl) (o_idx m_op 4 rfl reads_dp rfl rfl rfl el28 ?_); intro e280 h281
                    refine d_and (fun w m => m.pick [1, 2, 3, 5, 6] rfl) ?_
                    refine pk [0, 1, 2, 3, 4, 5, 6] rfl ?_
                    refine re (E' := [(0, v1), (2, (.pointer (some ⟨b3, 0, none⟩))), (4, (.pointer (some ⟨b5, 0, none⟩))), (5, (.int .i64 t86)), (70, (.slice a249 l250 q251)), (74, (.int .i64 (w64 ((xs170.length : Int) - 1)))), (81, (pEl (.slice a249 l250 q251) (w64 ((xs170.length : Int) - 1)) 1 0)), (84, v278)]) ⟨rfl, rfl, rfl, rfl, rfl, rfl, rfl, rfl, trivial⟩ ?_
                    exact H228 e280 h281 v278 bb279
                  have H231 : ∀ (_ : Unit), Nx 92 (gB F [] w0) (feet []) w0 (wpAnyH Tryd.prog .any (opsAt Tryd.f28 [1, 1, 1, 1, 0, 1, 0, 0, 1, 0, 0, 1, 1, 1]) Qd (Mem (gB F [] w0) (feet []) w0 [cellCh b181 [(.slice a183 l184 q185), (.int .i64 r177.xAction), (.int .i64 r177.xChain)] 54, cellCh b5 [(.slice a249 l250 q251), (.bool (decide (e74 = (ByteArray.mk #[100, 101, 102, 97, 117, 108, 116, 32, 97, 99, 99, 101, 112, 116]))))] 30, cellCh b3 [v81, (.bool false)] 30, dpCh (dSl dGRule 54) 50 bb84 v81 xs82, snapCh w0 F]) 7 #[true, true, true, true, true, true, true, true, true, true, true, false, false, false, true, false, false, false, false]) [(0, v1), (2, (.pointer (some ⟨b3, 0, none⟩))), (4, (.pointer (some ⟨b5, 0, none⟩))), (5, (.int .i64 t86)), (70, (.slice a249 l250 q251)), (76, (.slice a249 l250 q251)), (83, (.agg #[(.slice a183 l184 q185), (.int .i64 r177.xAction), (.int .i64 r177.xChain)])), (74, (.int .i64 (w64 ((xs170.length : Int) - 1)))), (79, (.int .i64 (xs170.length : Int)))] [cellCh b181 [(.slice a183 l184 q185), (.int .i64 r177.xAction), (.int .i64 r177.xChain)] 54, ownCh elGTest 84 (.slice a183 l184 q185) r177.xTests, cellCh b5 [(.slice a249 l250 q251), (.bool (decide (e74 = (ByteArray.mk #[100, 101, 102, 97, 117, 108, 116, 32, 97, 99, 99, 101, 112, 116]))))] 30, cellCh b3 [v81, (.bool false)] 30, dpCh (dSl dGRule 54) 50 bb173 (.slice a249 l250 q251) xs170, dpCh (dSl dGRule 54) 50 bb84 v81 xs82, snapCh w0 F] (idxW xs170 (w64 ((xs170.length : Int) - 1)) (fun e256 => appW e256 ([r177]) (fun _ => idxW xs170 (w64 ((xs170.length : Int) - 1)) (fun e266 => k255 (xs170.set ((w64 ((xs170.length : Int) - 1))).toNat (e256 ++ ([r177]))))))) := by
                    intro _
                    refine o_subw (dt 11 (fun w m => m.pick [0, 2, 3, 5, 6] rfl)) rfl rfl rfl ?_
                    refine d_two (i := 12) (j := 15) rfl rfl (by kernel_rfl) ?_ ?_
                    · intro o ho; cases ho
                      refine o_idx m_op 4 rfl reads_dp rfl rfl rfl el28 ?_; intro e256 h257
                      refine d_and (fun w m => m.pick [0, 2, 3, 5, 6] rfl) ?_
                      refine pk [0, 1, 2, 3, 4, 5, 6] rfl ?_
                      refine re (E' := [(0, v1), (2, (.pointer (some ⟨b3, 0, none⟩))), (4, (.pointer (some ⟨b5, 0, none⟩))), (5, (.int .i64 t86)), (70, (.slice a249 l250 q251)), (83, (.agg #[(.slice a183 l184 q185), (.int .i64 r177.xAction), (.int .i64 r177.xChain)])), (74, (.int .i64 (w64 ((xs170.length : Int) - 1)))), (81, (pEl (.slice a249 l250 q251) (w64 ((xs170.length : Int) - 1)) 1 0))]) ⟨rfl, rfl, rfl, rfl, rfl, rfl, rfl, rfl, trivial⟩ ?_
                      exact H229 e256 h257
                    · intro o ho; cases ho
                      refine pk [1, 0, 2, 3, 4, 5, 6] rfl ?_
                      refine o_bslD (M := [ownCh elGTest 84 (.slice a183 l184 q185) r177.xTests]) (E' := dGRule) (qs := [(0, (.agg #[(.slice a183 l184 q185), (.int .i64 r177.xAction), (.int .i64 r177.xChain)]))]) (cs := [(.slice a183 l184 q185), (.int .i64 r177.xAction), (.int .i64 r177.xChain)]) r177 (absorb_one (gives_own flelGTest) (fun B w h => ⟨_, rfl, h⟩)) (by intro ρ h; simp only [List.map_toArray, List.map_cons, List.map_nil, h (.tmp 83) _ rfl]) rfl el50 zero54 rfl rfl rfl rfl ?_; intro bb279 v278
                      refine d_and (fun w m => m.pick [1, 2, 3, 5, 6] rfl) ?_
                      refine pk [0, 1, 2, 3, 4, 5, 6] rfl ?_
                      refine re (E' := [(0, v1), (2, (.pointer (some ⟨b3, 0, none⟩))), (4, (.pointer (some ⟨b5, 0, none⟩))), (5, (.int .i64 t86)), (70, (.slice a249 l250 q251)), (76, (.slice a249 l250 q251)), (74, (.int .i64 (w64 ((xs170.length : Int) - 1)))), (80, (.int .i64 (w64 ((xs170.length : Int) - 1)))), (84, v278)]) ⟨rfl, rfl, rfl, rfl, rfl, rfl, rfl, rfl, rfl, trivial⟩ ?_
                      exact H230 v278 bb279
                  have H232 : ∀ (v282 : Value) (bb283 : List Nat), Nx 92 (gB F [] w0) (feet []) w0 (wpAnyH Tryd.prog .any (opsAt Tryd.f28 [1, 1, 1, 1, 0, 1, 0, 0, 1, 0, 0, 1, 1, 1]) Qd (Mem (gB F [] w0) (feet []) w0 [cellCh b181 [(.slice a183 l184 q185), (.int .i64 r177.xAction), (.int .i64 r177.xChain)] 54, cellCh b5 [(.slice a249 l250 q251), (.bool (decide (e74 = (ByteArray.mk #[100, 101, 102, 97, 117, 108, 116, 32, 97, 99, 99, 101, 112, 116]))))] 30, cellCh b3 [v81, (.bool false)] 30, dpCh (dSl dGRule 54) 50 bb84 v81 xs82, snapCh w0 F]) 6 #[true, true, true, true, true, true, true, true, true, true, true, false, false, false, true, true, false, false, false]) [(0, v1), (2, (.pointer (some ⟨b3, 0, none⟩))), (4, (.pointer (some ⟨b5, 0, none⟩))), (5, (.int .i64 t86)), (70, (.slice a249 l250 q251)), (76, (.slice a249 l250 q251)), (74, (.int .i64 (w64 ((xs170.length : Int) - 1)))), (84, v282), (79, (.int .i64 (xs170.length : Int)))] [dpCh dGRule 54 bb283 v282 ([r177]), cellCh b181 [(.slice a183 l184 q185), (.int .i64 r177.xAction), (.int .i64 r177.xChain)] 54, cellCh b5 [(.slice a249 l250 q251), (.bool (decide (e74 = (ByteArray.mk #[100, 101, 102, 97, 117, 108, 116, 32, 97, 99, 99, 101, 112, 116]))))] 30, cellCh b3 [v81, (.bool false)] 30, dpCh (dSl dGRule 54) 50 bb173 (.slice a249 l250 q251) xs170, dpCh (dSl dGRule 54) 50 bb84 v81 xs82, snapCh w0 F] (idxW xs170 (w64 ((xs170.length : Int) - 1)) (fun e284 => appW e284 ([r177]) (fun _ => idxW xs170 (w64 ((xs170.length : Int) - 1)) (fun e266 => k255 (xs170.set ((w64 ((xs170.length : Int) - 1))).toNat (e284 ++ ([r177]))))))) := by
                    intro v282 bb283
                    refine o_subw (dt 11 (fun w m => m.pick [1, 2, 3, 5, 6] rfl)) rfl rfl rfl ?_
                    refine d_one (i := 12) rfl (by kernel_rfl) (o_idx m_op 4 rfl reads_dp rfl rfl rfl el28 ?_); intro e284 h285
                    refine d_and (fun w m => m.pick [1, 2, 3, 5, 6] rfl) ?_
                    refine pk [0, 1, 2, 3, 4, 5, 6] rfl ?_
                    refine re (E' := [(0, v1), (2, (.pointer (some ⟨b3, 0, none⟩))), (4, (.pointer (some ⟨b5, 0, none⟩))), (5, (.int .i64 t86)), (70, (.slice a249 l250 q251)), (74, (.int .i64 (w64 ((xs170.length : Int) - 1)))), (81, (pEl (.slice a249 l250 q251) (w64 ((xs170.length : Int) - 1)) 1 0)), (84, v282)]) ⟨rfl, rfl, rfl, rfl, rfl, rfl, rfl, rfl, trivial⟩ ?_
                    exact H228 e284 h285 v282 bb283
                  have H233 : ∀ (v282 : Value) (bb283 : List Nat), Nx 92 (gB F [] w0) (feet []) w0 (wpAnyH Tryd.prog .any (opsAt Tryd.f28 [1, 1, 1, 1, 0, 1, 0, 0, 1, 0, 0, 1, 1, 1]) Qd (Mem (gB F [] w0) (feet []) w0 [cellCh b181 [(.slice a183 l184 q185), (.int .i64 r177.xAction), (.int .i64 r177.xChain)] 54, cellCh b5 [(.slice a249 l250 q251), (.bool (decide (e74 = (ByteArray.mk #[100, 101, 102, 97, 117, 108, 116, 32, 97, 99, 99, 101, 112, 116]))))] 30, cellCh b3 [v81, (.bool false)] 30, dpCh (dSl dGRule 54) 50 bb84 v81 xs82, snapCh w0 F]) 7 #[true, true, true, true, true, true, true, true, true, true, false, false, false, false, true, true, false, false, false]) [(0, v1), (2, (.pointer (some ⟨b3, 0, none⟩))), (4, (.pointer (some ⟨b5, 0, none⟩))), (5, (.int .i64 t86)), (70, (.slice a249 l250 q251)), (76, (.slice a249 l250 q251)), (78, (.slice a249 l250 q251)), (74, (.int .i64 (w64 ((xs170.length : Int) - 1)))), (84, v282)] [dpCh dGRule 54 bb283 v282 ([r177]), cellCh b181 [(.slice a183 l184 q185), (.int .i64 r177.xAction), (.int .i64 r177.xChain)] 54, cellCh b5 [(.slice a249 l250 q251), (.bool (decide (e74 = (ByteArray.mk #[100, 101, 102, 97, 117, 108, 116, 32, 97, 99, 99, 101, 112, 116]))))] 30, cellCh b3 [v81, (.bool false)] 30, dpCh (dSl dGRule 54) 50 bb173 (.slice a249 l250 q251) xs170, dpCh (dSl dGRule 54) 50 bb84 v81 xs82, snapCh w0 F] (idxW xs170 (w64 ((xs170.length : Int) - 1)) (fun e284 => appW e284 ([r177]) (fun _ => idxW xs170 (w64 ((xs170.length : Int) - 1)) (fun e266 => k255 (xs170.set ((w64 ((xs170.length : Int) - 1))).toNat (e284 ++ ([r177]))))))) := by
                    intro v282 bb283
                    refine d_one (i := 10) rfl (by kernel_rfl) (o_len m_op el28 4 rfl reads_dp rfl rfl ?_)
                    refine d_and (fun w m => m.pick [1, 2, 3, 5, 6] rfl) ?_
                    refine pk [0, 1, 2, 3, 4, 5, 6] rfl ?_
                    refine re (E' := [(0, v1), (2, (.pointer (some ⟨b3, 0, none⟩))), (4, (.pointer (some ⟨b5, 0, none⟩))), (5, (.int .i64 t86)), (70, (.slice a249 l250 q251)), (76, (.slice a249 l250 q251)), (74, (.int .i64 (w64 ((xs170.length : Int) - 1)))), (84, v282), (79, (.int .i64 (xs170.length : Int)))]) ⟨rfl, rfl, rfl, rfl, rfl, rfl, rfl, rfl, rfl, trivial⟩ ?_
                    exact H232 v282 bb283
                  have H234 : ∀ (_ : Unit), Nx 92 (gB F [] w0) (feet []) w0 (wpAnyH Tryd.prog .any (opsAt Tryd.f28 [1, 1, 1, 1, 0, 1, 0, 0, 1, 0, 0, 1, 1, 1]) Qd (Mem (gB F [] w0) (feet []) w0 [cellCh b181 [(.slice a183 l184 q185), (.int .i64 r177.xAction), (.int .i64 r177.xChain)] 54, cellCh b5 [(.slice a249 l250 q251), (.bool (decide (e74 = (ByteArray.mk #[100, 101, 102, 97, 117, 108, 116, 32, 97, 99, 99, 101, 112, 116]))))] 30, cellCh b3 [v81, (.bool false)] 30, dpCh (dSl dGRule 54) 50 bb84 v81 xs82, snapCh w0 F]) 9 #[true, true, true, true, true, false, true, true, true, true, false, false, false, false, true, false, false, false, false]) [(0, v1), (2, (.pointer (some ⟨b3, 0, none⟩))), (4, (.pointer (some ⟨b5, 0, none⟩))), (5, (.int .i64 t86)), (70, (.slice a249 l250 q251)), (76, (.slice a249 l250 q251)), (78, (.slice a249 l250 q251)), (83, (.agg #[(.slice a183 l184 q185), (.int .i64 r177.xAction), (.int .i64 r177.xChain)])), (73, (.int .i64 (xs170.length : Int)))] [cellCh b181 [(.slice a183 l184 q185), (.int .i64 r177.xAction), (.int .i64 r177.xChain)] 54, ownCh elGTest 84 (.slice a183 l184 q185) r177.xTests, cellCh b5 [(.slice a249 l250 q251), (.bool (decide (e74 = (ByteArray.mk #[100, 101, 102, 97, 117, 108, 116, 32, 97, 99, 99, 101, 112, 116]))))] 30, cellCh b3 [v81, (.bool false)] 30, dpCh (dSl dGRule 54) 50 bb173 (.slice a249 l250 q251) xs170, dpCh (dSl dGRule 54) 50 bb84 v81 xs82, snapCh w0 F] (idxW xs170 (w64 ((xs170.length : Int) - 1)) (fun e256 => appW e256 ([r177]) (fun _ => idxW xs170 (w64 ((xs170.length : Int) - 1)) (fun e266 => k255 (xs170.set ((w64 ((xs170.length : Int) - 1))).toNat (e256 ++ ([r177]))))))) := by
                    intro _
                    refine o_subw (dt 5 (fun w m => m.pick [0, 2, 3, 5, 6] rfl)) rfl rfl rfl ?_
                    refine d_two (i := 10) (j := 15) rfl rfl (by kernel_rfl) ?_ ?_
                    · intro o ho; cases ho
                      refine o_len m_op el28 4 rfl reads_dp rfl rfl ?_
                      refine d_and (fun w m => m.pick [0, 2, 3, 5, 6] rfl) ?_
                      refine pk [0, 1, 2, 3, 4, 5, 6] rfl ?_
                      refine re (E' := [(0, v1), (2, (.pointer (some ⟨b3, 0, none⟩))), (4, (.pointer (some ⟨b5, 0, none⟩))), (5, (.int .i64 t86)), (70, (.slice a249 l250 q251)), (76, (.slice a249 l250 q251)), (83, (.agg #[(.slice a183 l184 q185), (.int .i64 r177.xAction), (.int .i64 r177.xChain)])), (74, (.int .i64 (w64 ((xs170.length : Int) - 1)))), (79, (.int .i64 (xs170.length : Int)))]) ⟨rfl, rfl, rfl, rfl, rfl, rfl, rfl, rfl, rfl, trivial⟩ ?_
                      exact H231 ()
                    · intro o ho; cases ho
                      refine pk [1, 0, 2, 3, 4, 5, 6] rfl ?_
                      refine o_bslD (M := [ownCh elGTest 84 (.slice a183 l184 q185) r177.xTests]) (E' := dGRule) (qs := [(0, (.agg #[(.slice a183 l184 q185), (.int .i64 r177.xAction), (.int .i64 r177.xChain)]))]) (cs := [(.slice a183 l184 q185), (.int .i64 r177.xAction), (.int .i64 r177.xChain)]) r177 (absorb_one (gives_own flelGTest) (fun B w h => ⟨_, rfl, h⟩)) (by intro ρ h; simp only [List.map_toArray, List.map_cons, List.map_nil, h (.tmp 83) _ rfl]) rfl el50 zero54 rfl rfl rfl rfl ?_; intro bb283 v282
                      refine d_and (fun w m => m.pick [1, 2, 3, 5, 6] rfl) ?_
                      refine pk [0, 1, 2, 3, 4, 5, 6] rfl ?_
                      refine re (E' := [(0, v1), (2, (.pointer (some ⟨b3, 0, none⟩))), (4, (.pointer (some ⟨b5, 0, none⟩))), (5, (.int .i64 t86)), (70, (.slice a249 l250 q251)), (76, (.slice a249 l250 q251)), (78, (.slice a249 l250 q251)), (74, (.int .i64 (w64 ((xs170.length : Int) - 1)))), (84, v282)]) ⟨rfl, rfl, rfl, rfl, rfl, rfl, rfl, rfl, rfl, trivial⟩ ?_
                      exact H233 v282 bb283
                  have H235 : ∀ (_ : Unit), Nx 92 (gB F [] w0) (feet []) w0 (wpAnyH Tryd.prog .any (opsAt Tryd.f28 [1, 1, 1, 1, 0, 1, 0, 0, 1, 0, 0, 1, 1, 1]) Qd (Mem (gB F [] w0) (feet []) w0 [cellCh b181 [(.slice a183 l184 q185), (.int .i64 r177.xAction), (.int .i64 r177.xChain)] 54, cellCh b5 [(.slice a249 l250 q251), (.bool (decide (e74 = (ByteArray.mk #[100, 101, 102, 97, 117, 108, 116, 32, 97, 99, 99, 101, 112, 116]))))] 30, cellCh b3 [v81, (.bool false)] 30, dpCh (dSl dGRule 54) 50 bb84 v81 xs82, snapCh w0 F]) 7 #[true, true, true, true, true, false, true, true, true, true, true, true, false, false, true, false, false, false, false]) [(0, v1), (2, (.pointer (some ⟨b3, 0, none⟩))), (4, (.pointer (some ⟨b5, 0, none⟩))), (5, (.int .i64 t86)), (70, (.slice a249 l250 q251)), (76, (.slice a249 l250 q251)), (83, (.agg #[(.slice a183 l184 q185), (.int .i64 r177.xAction), (.int .i64 r177.xChain)])), (80, (.int .i64 (w64 ((xs170.length : Int) - 1)))), (73, (.int .i64 (xs170.length : Int)))] [cellCh b181 [(.slice a183 l184 q185), (.int .i64 r177.xAction), (.int .i64 r177.xChain)] 54, ownCh elGTest 84 (.slice a183 l184 q185) r177.xTests, cellCh b5 [(.slice a249 l250 q251), (.bool (decide (e74 = (ByteArray.mk #[100, 101, 102, 97, 117, 108, 116, 32, 97, 99, 99, 101, 112, 116]))))] 30, cellCh b3 [v81, (.bool false)] 30, dpCh (dSl dGRule 54) 50 bb173 (.slice a249 l250 q251) xs170, dpCh (dSl dGRule 54) 50 bb84 v81 xs82, snapCh w0 F] (idxW xs170 (w64 ((xs170.length : Int) - 1)) (fun e286 => appW e286 ([r177]) (fun _ => idxW xs170 (w64 ((xs170.length : Int) - 1)) (fun e266 => k255 (xs170.set ((w64 ((xs170.length : Int) - 1))).toNat (e286 ++ ([r177]))))))) := by
                    intro _
                    refine o_subw (dt 5 (fun w m => m.pick [0, 2, 3, 5, 6] rfl)) rfl rfl rfl ?_
                    refine d_two (i := 12) (j := 15) rfl rfl (by kernel_rfl) ?_ ?_
                    · intro o ho; cases ho
                      refine o_idx m_op 4 rfl reads_dp rfl rfl rfl el28 ?_; intro e286 h287
                      refine d_and (fun w m => m.pick [0, 2, 3, 5, 6] rfl) ?_
                      refine pk [0, 1, 2, 3, 4, 5, 6] rfl ?_
                      refine re (E' := [(0, v1), (2, (.pointer (some ⟨b3, 0, none⟩))), (4, (.pointer (some ⟨b5, 0, none⟩))), (5, (.int .i64 t86)), (70, (.slice a249 l250 q251)), (83, (.agg #[(.slice a183 l184 q185), (.int .i64 r177.xAction), (.int .i64 r177.xChain)])), (74, (.int .i64 (w64 ((xs170.length : Int) - 1)))), (81, (pEl (.slice a249 l250 q251) (w64 ((xs170.length : Int) - 1)) 1 0))]) ⟨rfl, rfl, rfl, rfl, rfl, rfl, rfl, rfl, trivial⟩ ?_
                      exact H229 e286 h287
                    · intro o ho; cases ho
                      refine pk [1, 0, 2, 3, 4, 5, 6] rfl ?_
                      refine o_bslD (M := [ownCh elGTest 84 (.slice a183 l184 q185) r177.xTests]) (E' := dGRule) (qs := [(0, (.agg #[(.slice a183 l184 q185), (.int .i64 r177.xAction), (.int .i64 r177.xChain)]))]) (cs := [(.slice a183 l184 q185), (.int .i64 r177.xAction), (.int .i64 r177.xChain)]) r177 (absorb_one (gives_own flelGTest) (fun B w h => ⟨_, rfl, h⟩)) (by intro ρ h; simp only [List.map_toArray, List.map_cons, List.map_nil, h (.tmp 83) _ rfl]) rfl el50 zero54 rfl rfl rfl rfl ?_; intro bb289 v288
                      refine d_and (fun w m => m.pick [1, 2, 3, 5, 6] rfl) ?_
                      refine pk [0, 1, 2, 3, 4, 5, 6] rfl ?_
                      refine re (E' := [(0, v1), (2, (.pointer (some ⟨b3, 0, none⟩))), (4, (.pointer (some ⟨b5, 0, none⟩))), (5, (.int .i64 t86)), (70, (.slice a249 l250 q251)), (76, (.slice a249 l250 q251)), (74, (.int .i64 (w64 ((xs170.length : Int) - 1)))), (80, (.int .i64 (w64 ((xs170.length : Int) - 1)))), (84, v288)]) ⟨rfl, rfl, rfl, rfl, rfl, rfl, rfl, rfl, rfl, trivial⟩ ?_
                      exact H230 v288 bb289
                  have H236 : ∀ (e290 : (List GRule)) (h291 : xs170[((w64 ((xs170.length : Int) - 1))).toNat]? = some e290), Nx 92 (gB F [] w0) (feet []) w0 (wpAnyH Tryd.prog .any (opsAt Tryd.f28 [1, 1, 1, 1, 0, 1, 0, 0, 1, 0, 0, 1, 1, 1]) Qd (Mem (gB F [] w0) (feet []) w0 [cellCh b181 [(.slice a183 l184 q185), (.int .i64 r177.xAction), (.int .i64 r177.xChain)] 54, cellCh b5 [(.slice a249 l250 q251), (.bool (decide (e74 = (ByteArray.mk #[100, 101, 102, 97, 117, 108, 116, 32, 97, 99, 99, 101, 112, 116]))))] 30, cellCh b3 [v81, (.bool false)] 30, dpCh (dSl dGRule 54) 50 bb84 v81 xs82, snapCh w0 F]) 6 #[true, true, true, true, true, false, true, true, true, true, true, true, true, false, true, false, false, false, false]) [(0, v1), (2, (.pointer (some ⟨b3, 0, none⟩))), (4, (.pointer (some ⟨b5, 0, none⟩))), (5, (.int .i64 t86)), (70, (.slice a249 l250 q251)), (83, (.agg #[(.slice a183 l184 q185), (.int .i64 r177.xAction), (.int .i64 r177.xChain)])), (81, (pEl (.slice a249 l250 q251) (w64 ((xs170.length : Int) - 1)) 1 0)), (73, (.int .i64 (xs170.length : Int)))] [cellCh b181 [(.slice a183 l184 q185), (.int .i64 r177.xAction), (.int .i64 r177.xChain)] 54, ownCh elGTest 84 (.slice a183 l184 q185) r177.xTests, cellCh b5 [(.slice a249 l250 q251), (.bool (decide (e74 = (ByteArray.mk #[100, 101, 102, 97, 117, 108, 116, 32, 97, 99, 99, 101, 112, 116]))))] 30, cellCh b3 [v81, (.bool false)] 30, dpCh (dSl dGRule 54) 50 bb173 (.slice a249 l250 q251) xs170, dpCh (dSl dGRule 54) 50 bb84 v81 xs82, snapCh w0 F] (appW e290 ([r177]) (fun _ => idxW xs170 (w64 ((xs170.length : Int) - 1)) (fun e266 => k255 (xs170.set ((w64 ((xs170.length : Int) - 1))).toNat (e290 ++ ([r177])))))) := by
                    intro e290 h291
                    refine o_subw (dt 5 (fun w m => m.pick [0, 2, 3, 5, 6] rfl)) rfl rfl rfl ?_
                    refine d_two (i := 13) (j := 15) rfl rfl (by kernel_rfl) ?_ ?_
                    · intro o ho; cases ho
                      refine pk [4, 0, 1, 2, 3, 5, 6] rfl ?_
                      refine o_ldF (E1 := dGRule) (t1 := 54) (zin := e290) (encz := fun v => [v]) rfl h291 (fun B w cs h => h) rfl rfl ty50 ?_; rintro v292 bb293 bb294; refine ⟨v292, rfl, ?_⟩
                      refine d_and (fun w m => m.pick [2, 4, 5, 6, 7] rfl) ?_
                      refine pk [0, 1, 2, 3, 4, 5, 6, 7] rfl ?_
                      refine re (E' := [(0, v1), (2, (.pointer (some ⟨b3, 0, none⟩))), (4, (.pointer (some ⟨b5, 0, none⟩))), (5, (.int .i64 t86)), (70, (.slice a249 l250 q251)), (83, (.agg #[(.slice a183 l184 q185), (.int .i64 r177.xAction), (.int .i64 r177.xChain)])), (74, (.int .i64 (w64 ((xs170.length : Int) - 1)))), (82, v292)]) ⟨rfl, rfl, rfl, rfl, rfl, rfl, rfl, rfl, trivial⟩ ?_
                      exact H227 e290 h291 v292 bb293 bb294
                    · intro o ho; cases ho
                      refine pk [1, 0, 2, 3, 4, 5, 6] rfl ?_
                      refine o_bslD (M := [ownCh elGTest 84 (.slice a183 l184 q185) r177.xTests]) (E' := dGRule) (qs := [(0, (.agg #[(.slice a183 l184 q185), (.int .i64 r177.xAction), (.int .i64 r177.xChain)]))]) (cs := [(.slice a183 l184 q185), (.int .i64 r177.xAction), (.int .i64 r177.xChain)]) r177 (absorb_one (gives_own flelGTest) (fun B w h => ⟨_, rfl, h⟩)) (by intro ρ h; simp only [List.map_toArray, List.map_cons, List.map_nil, h (.tmp 83) _ rfl]) rfl el50 zero54 rfl rfl rfl rfl ?_; intro bb296 v295
                      refine d_and (fun w m => m.pick [1, 2, 3, 5, 6] rfl) ?_
                      refine pk [0, 1, 2, 3, 4, 5, 6] rfl ?_
                      refine re (E' := [(0, v1), (2, (.pointer (some ⟨b3, 0, none⟩))), (4, (.pointer (some ⟨b5, 0, none⟩))), (5, (.int .i64 t86)), (70, (.slice a249 l250 q251)), (74, (.int .i64 (w64 ((xs170.length : Int) - 1)))), (81, (pEl (.slice a249 l250 q251) (w64 ((xs170.length : Int) - 1)) 1 0)), (84, v295)]) ⟨rfl, rfl, rfl, rfl, rfl, rfl, rfl, rfl, trivial⟩ ?_
                      exact H228 e290 h291 v295 bb296
                  have H237 : ∀ (e290 : (List GRule)) (h291 : xs170[((w64 ((xs170.length : Int) - 1))).toNat]? = some e290) (v297 : Value) (bb298 : List Nat) (bb299 : List Nat), Nx 92 (gB F [] w0) (feet []) w0 (wpAnyH Tryd.prog .any (opsAt Tryd.f28 [1, 1, 1, 1, 0, 1, 0, 0, 1, 0, 0, 1, 1, 1]) Qd (Mem (gB F [] w0) (feet []) w0 [cellCh b181 [(.slice a183 l184 q185), (.int .i64 r177.xAction), (.int .i64 r177.xChain)] 54, cellCh b5 [(.slice a249 l250 q251), (.bool (decide (e74 = (ByteArray.mk #[100, 101, 102, 97, 117, 108, 116, 32, 97, 99, 99, 101, 112, 116]))))] 30, cellCh b3 [v81, (.bool false)] 30, dpCh (dSl dGRule 54) 50 bb84 v81 xs82, snapCh w0 F]) 5 #[true, true, true, true, true, false, true, true, true, true, true, true, true, true, true, false, false, false, false]) [(0, v1), (2, (.pointer (some ⟨b3, 0, none⟩))), (4, (.pointer (some ⟨b5, 0, none⟩))), (5, (.int .i64 t86)), (70, (.slice a249 l250 q251)), (83, (.agg #[(.slice a183 l184 q185), (.int .i64 r177.xAction), (.int .i64 r177.xChain)])), (82, v297), (73, (.int .i64 (xs170.length : Int)))] [holeCh (dSl dGRule 54) 50 bb298 (.slice a249 l250 q251) xs170 ((w64 ((xs170.length : Int) - 1))).toNat [v297], dpCh dGRule 54 bb299 v297 e290, cellCh b181 [(.slice a183 l184 q185), (.int .i64 r177.xAction), (.int .i64 r177.xChain)] 54, ownCh elGTest 84 (.slice a183 l184 q185) r177.xTests, cellCh b5 [(.slice a249 l250 q251), (.bool (decide (e74 = (ByteArray.mk #[100, 101, 102, 97, 117, 108, 116, 32, 97, 99, 99, 101, 112, 116]))))] 30, cellCh b3 [v81, (.bool false)] 30, dpCh (dSl dGRule 54) 50 bb84 v81 xs82, snapCh w0 F] (appW e290 ([r177]) (fun _ => idxW xs170 (w64 ((xs170.length : Int) - 1)) (fun e266 => k255 (xs170.set ((w64 ((xs170.length : Int) - 1))).toNat (e290 ++ ([r177])))))) := by
                    intro e290 h291 v297 bb298 bb299
                    refine o_subw (dt 5 (fun w m => m.pick [2, 4, 5, 6, 7] rfl)) rfl rfl rfl ?_
                    refine pk [3, 0, 1, 2, 4, 5, 6, 7] rfl ?_
                    refine d_one (i := 15) rfl (by kernel_rfl) (o_bslD (M := [ownCh elGTest 84 (.slice a183 l184 q185) r177.xTests]) (E' := dGRule) (qs := [(0, (.agg #[(.slice a183 l184 q185), (.int .i64 r177.xAction), (.int .i64 r177.xChain)]))]) (cs := [(.slice a183 l184 q185), (.int .i64 r177.xAction), (.int .i64 r177.xChain)]) r177 (absorb_one (gives_own flelGTest) (fun B w h => ⟨_, rfl, h⟩)) (by intro ρ h; simp only [List.map_toArray, List.map_cons, List.map_nil, h (.tmp 83) _ rfl]) rfl el50 zero54 rfl rfl rfl rfl ?_); intro bb301 v300
                    refine d_and (fun w m => m.pick [3, 4, 5, 6, 7] rfl) ?_
                    refine pk [0, 1, 2, 3, 4, 5, 6, 7] rfl ?_
                    refine re (E' := [(0, v1), (2, (.pointer (some ⟨b3, 0, none⟩))), (4, (.pointer (some ⟨b5, 0, none⟩))), (5, (.int .i64 t86)), (70, (.slice a249 l250 q251)), (74, (.int .i64 (w64 ((xs170.length : Int) - 1)))), (82, v297), (84, v300)]) ⟨rfl, rfl, rfl, rfl, rfl, rfl, rfl, rfl, trivial⟩ ?_
                    exact H226 e290 h291 v297 bb298 bb299 v300 bb301
                  have H238 : ∀ (e290 : (List GRule)) (h291 : xs170[((w64 ((xs170.length : Int) - 1))).toNat]? = some e290) (v297 : Value) (bb298 : List Nat) (bb299 : List Nat) (v302 : Value) (bb303 : List Nat), Nx 92 (gB F [] w0) (feet []) w0 (wpAnyH Tryd.prog .any (opsAt Tryd.f28 [1, 1, 1, 1, 0, 1, 0, 0, 1, 0, 0, 1, 1, 1]) Qd (Mem (gB F [] w0) (feet []) w0 [cellCh b181 [(.slice a183 l184 q185), (.int .i64 r177.xAction), (.int .i64 r177.xChain)] 54, cellCh b5 [(.slice a249 l250 q251), (.bool (decide (e74 = (ByteArray.mk #[100, 101, 102, 97, 117, 108, 116, 32, 97, 99, 99, 101, 112, 116]))))] 30, cellCh b3 [v81, (.bool false)] 30, dpCh (dSl dGRule 54) 50 bb84 v81 xs82, snapCh w0 F]) 4 #[true, true, true, true, true, false, true, true, true, true, true, true, true, true, true, true, false, false, false]) [(0, v1), (2, (.pointer (some ⟨b3, 0, none⟩))), (4, (.pointer (some ⟨b5, 0, none⟩))), (5, (.int .i64 t86)), (70, (.slice a249 l250 q251)), (82, v297), (84, v302), (73, (.int .i64 (xs170.length : Int)))] [dpCh dGRule 54 bb303 v302 ([r177]), holeCh (dSl dGRule 54) 50 bb298 (.slice a249 l250 q251) xs170 ((w64 ((xs170.length : Int) - 1))).toNat [v297], dpCh dGRule 54 bb299 v297 e290, cellCh b181 [(.slice a183 l184 q185), (.int .i64 r177.xAction), (.int .i64 r177.xChain)] 54, cellCh b5 [(.slice a249 l250 q251), (.bool (decide (e74 = (ByteArray.mk #[100, 101, 102, 97, 117, 108, 116, 32, 97, 99, 99, 101, 112, 116]))))] 30, cellCh b3 [v81, (.bool false)] 30, dpCh (dSl dGRule 54) 50 bb84 v81 xs82, snapCh w0 F] (appW e290 ([r177]) (fun _ => idxW xs170 (w64 ((xs170.length : Int) - 1)) (fun e266 => k255 (xs170.set ((w64 ((xs170.length : Int) - 1))).toNat (e290 ++ ([r177])))))) := by
                    intro e290 h291 v297 bb298 bb299 v302 bb303
                    refine o_subw (dt 5 (fun w m => m.pick [3, 4, 5, 6, 7] rfl)) rfl rfl rfl ?_
                    refine pk [2, 0, 1, 3, 4, 5, 6, 7] rfl ?_
                    refine d_one (i := 16) rfl (by kernel_rfl) (o_appD rfl rfl rfl el50 rfl zero54 rfl rfl ?_); intro bb305 v304
                    refine d_and (fun w m => m.pick [2, 3, 4, 5, 6] rfl) ?_
                    refine pk [0, 1, 2, 3, 4, 5, 6] rfl ?_
                    refine re (E' := [(0, v1), (2, (.pointer (some ⟨b3, 0, none⟩))), (4, (.pointer (some ⟨b5, 0, none⟩))), (5, (.int .i64 t86)), (70, (.slice a249 l250 q251)), (74, (.int .i64 (w64 ((xs170.length : Int) - 1)))), (85, v304)]) ⟨rfl, rfl, rfl, rfl, rfl, rfl, rfl, trivial⟩ ?_
                    exact H225 e290 h291 v297 bb298 bb299 v302 bb303 v304 bb305
                  have H239 : ∀ (e290 : (List GRule)) (h291 : xs170[((w64 ((xs170.length : Int) - 1))).toNat]? = some e290) (v297 : Value) (bb298 : List Nat) (bb299 : List Nat) (v302 : Value) (bb303 : List Nat) (v307 : Value) (bb308 : List Nat), Nx 92 (gB F [] w0) (feet []) w0 (wpAnyH Tryd.prog .any (opsAt Tryd.f28 [1, 1, 1, 1, 0, 1, 0, 0, 1, 0, 0, 1, 1, 1]) Qd (Mem (gB F [] w0) (feet []) w0 [cellCh b181 [(.slice a183 l184 q185), (.int .i64 r177.xAction), (.int .i64 r177.xChain)] 54, cellCh b5 [(.slice a249 l250 q251), (.bool (decide (e74 = (ByteArray.mk #[100, 101, 102, 97, 117, 108, 116, 32, 97, 99, 99, 101, 112, 116]))))] 30, cellCh b3 [v81, (.bool false)] 30, dpCh (dSl dGRule 54) 50 bb84 v81 xs82, snapCh w0 F]) 3 #[true, true, true, true, true, false, true, true, true, true, true, true, true, true, true, true, true, false, false]) [(0, v1), (2, (.pointer (some ⟨b3, 0, none⟩))), (4, (.pointer (some ⟨b5, 0, none⟩))), (5, (.int .i64 t86)), (70, (.slice a249 l250 q251)), (85, v307), (73, (.int .i64 (xs170.length : Int)))] [dpCh dGRule 54 bb308 v307 (e290 ++ ([r177])), holeCh (dSl dGRule 54) 50 bb298 (.slice a249 l250 q251) xs170 ((w64 ((xs170.length : Int) - 1))).toNat [v297], cellCh b181 [(.slice a183 l184 q185), (.int .i64 r177.xAction), (.int .i64 r177.xChain)] 54, cellCh b5 [(.slice a249 l250 q251), (.bool (decide (e74 = (ByteArray.mk #[100, 101, 102, 97, 117, 108, 116, 32, 97, 99, 99, 101, 112, 116]))))] 30, cellCh b3 [v81, (.bool false)] 30, dpCh (dSl dGRule 54) 50 bb84 v81 xs82, snapCh w0 F] (idxW xs170 (w64 ((xs170.length : Int) - 1)) (fun e310 => k255 (xs170.set ((w64 ((xs170.length : Int) - 1))).toNat (e290 ++ ([r177]))))) := by
                    intro e290 h291 v297 bb298 bb299 v302 bb303 v307 bb308
                    refine o_subw (dt 5 (fun w m => m.pick [2, 3, 4, 5, 6] rfl)) rfl rfl rfl ?_
                    refine d_one (i := 17) rfl (by kernel_rfl) (o_idxH m_op 1 rfl rfl rfl rfl el28 ?_); intro e310 h311
                    refine d_and (fun w m => m.pick [2, 3, 4, 5, 6] rfl) ?_
                    refine pk [0, 1, 2, 3, 4, 5, 6] rfl ?_
                    refine re (E' := [(0, v1), (2, (.pointer (some ⟨b3, 0, none⟩))), (4, (.pointer (some ⟨b5, 0, none⟩))), (5, (.int .i64 t86)), (85, v307), (86, (pEl (.slice a249 l250 q251) (w64 ((xs170.length : Int) - 1)) 1 0))]) ⟨rfl, rfl, rfl, rfl, rfl, rfl, trivial⟩ ?_
                    exact H224 e290 h291 v297 bb298 bb299 v302 bb303 v307 bb308 e310 h311
                  have H240 : ∀ (e290 : (List GRule)) (h291 : xs170[((w64 ((xs170.length : Int) - 1))).toNat]? = some e290) (v297 : Value) (bb298 : List Nat) (bb299 : List Nat) (v302 : Value) (bb303 : List Nat) (v307 : Value) (bb308 : List Nat), Nx 92 (gB F [] w0) (feet []) w0 (wpAnyH Tryd.prog .any (opsAt Tryd.f28 [1, 1, 1, 1, 0, 1, 0, 0, 1, 0, 0, 1, 1, 1]) Qd (Mem (gB F [] w0) (feet []) w0 [cellCh b181 [(.slice a183 l184 q185), (.int .i64 r177.xAction), (.int .i64 r177.xChain)] 54, cellCh b5 [(.slice a249 l250 q251), (.bool (decide (e74 = (ByteArray.mk #[100, 101, 102, 97, 117, 108, 116, 32, 97, 99, 99, 101, 112, 116]))))] 30, cellCh b3 [v81, (.bool false)] 30, dpCh (dSl dGRule 54) 50 bb84 v81 xs82, snapCh w0 F]) 4 #[true, true, true, true, false, false, true, true, true, true, true, true, true, true, true, true, true, false, false]) [(0, v1), (2, (.pointer (some ⟨b3, 0, none⟩))), (4, (.pointer (some ⟨b5, 0, none⟩))), (5, (.int .i64 t86)), (70, (.slice a249 l250 q251)), (72, (.slice a249 l250 q251)), (85, v307)] [dpCh dGRule 54 bb308 v307 (e290 ++ ([r177])), holeCh (dSl dGRule 54) 50 bb298 (.slice a249 l250 q251) xs170 ((w64 ((xs170.length : Int) - 1))).toNat [v297], cellCh b181 [(.slice a183 l184 q185), (.int .i64 r177.xAction), (.int .i64 r177.xChain)] 54, cellCh b5 [(.slice a249 l250 q251), (.bool (decide (e74 = (ByteArray.mk #[100, 101, 102, 97, 117, 108, 116, 32, 97, 99, 99, 101, 112, 116]))))] 30, cellCh b3 [v81, (.bool false)] 30, dpCh (dSl dGRule 54) 50 bb84 v81 xs82, snapCh w0 F] (idxW xs170 (w64 ((xs170.length : Int) - 1)) (fun e310 => k255 (xs170.set ((w64 ((xs170.length : Int) - 1))).toNat (e290 ++ ([r177]))))) := by
                    intro e290 h291 v297 bb298 bb299 v302 bb303 v307 bb308
                    refine d_one (i := 4) rfl (by kernel_rfl) (o_lenH m_op el28 1 rfl rfl rfl ?_)
                    refine d_and (fun w m => m.pick [2, 3, 4, 5, 6] rfl) ?_
                    refine pk [0, 1, 2, 3, 4, 5, 6] rfl ?_
                    refine re (E' := [(0, v1), (2, (.pointer (some ⟨b3, 0, none⟩))), (4, (.pointer (some ⟨b5, 0, none⟩))), (5, (.int .i64 t86)), (70, (.slice a249 l250 q251)), (85, v307), (73, (.int .i64 (xs170.length : Int)))]) ⟨rfl, rfl, rfl, rfl, rfl, rfl, rfl, trivial⟩ ?_
                    exact H239 e290 h291 v297 bb298 bb299 v302 bb303 v307 bb308
                  have H241 : ∀ (e290 : (List GRule)) (h291 : xs170[((w64 ((xs170.length : Int) - 1))).toNat]? = some e290) (v297 : Value) (bb298 : List Nat) (bb299 : List Nat) (v302 : Value) (bb303 : List Nat), Nx 92 (gB F [] w0) (feet []) w0 (wpAnyH Tryd.prog .any (opsAt Tryd.f28 [1, 1, 1, 1, 0, 1, 0, 0, 1, 0, 0, 1, 1, 1]) Qd (Mem (gB F [] w0) (feet []) w0 [cellCh b181 [(.slice a183 l184 q185), (.int .i64 r177.xAction), (.int .i64 r177.xChain)] 54, cellCh b5 [(.slice a249 l250 q251), (.bool (decide (e74 = (ByteArray.mk #[100, 101, 102, 97, 117, 108, 116, 32, 97, 99, 99, 101, 112, 116]))))] 30, cellCh b3 [v81, (.bool false)] 30, dpCh (dSl dGRule 54) 50 bb84 v81 xs82, snapCh w0 F]) 5 #[true, true, true, true, false, false, true, true, true, true, true, true, true, true, true, true, false, false, false]) [(0, v1), (2, (.pointer (some ⟨b3, 0, none⟩))), (4, (.pointer (some ⟨b5, 0, none⟩))), (5, (.int .i64 t86)), (70, (.slice a249 l250 q251)), (72, (.slice a249 l250 q251)), (82, v297), (84, v302)] [dpCh dGRule 54 bb303 v302 ([r177]), holeCh (dSl dGRule 54) 50 bb298 (.slice a249 l250 q251) xs170 ((w64 ((xs170.length : Int) - 1))).toNat [v297], dpCh dGRule 54 bb299 v297 e290, cellCh b181 [(.slice a183 l184 q185), (.int .i64 r177.xAction), (.int .i64 r177.xChain)] 54, cellCh b5 [(.slice a249 l250 q251), (.bool (decide (e74 = (ByteArray.mk #[100, 101, 102, 97, 117, 108, 116, 32, 97, 99, 99, 101, 112, 116]))))] 30, cellCh b3 [v81, (.bool false)] 30, dpCh (dSl dGRule 54) 50 bb84 v81 xs82, snapCh w0 F] (appW e290 ([r177]) (fun _ => idxW xs170 (w64 ((xs170.length : Int) - 1)) (fun e266 => k255 (xs170.set ((w64 ((xs170.length : Int) - 1))).toNat (e290 ++ ([r177])))))) := by
                    intro e290 h291 v297 bb298 bb299 v302 bb303
                    refine d_two (i := 4) (j := 16) rfl rfl (by kernel_rfl) ?_ ?_
                    · intro o ho; cases ho
                      refine o_lenH m_op el28 1 rfl rfl rfl ?_
                      refine d_and (fun w m => m.pick [3, 4, 5, 6, 7] rfl) ?_
                      refine pk [0, 1, 2, 3, 4, 5, 6, 7] rfl ?_
                      refine re (E' := [(0, v1), (2, (.pointer (some ⟨b3, 0, none⟩))), (4, (.pointer (some ⟨b5, 0, none⟩))), (5, (.int .i64 t86)), (70, (.slice a249 l250 q251)), (82, v297), (84, v302), (73, (.int .i64 (xs170.length : Int)))]) ⟨rfl, rfl, rfl, rfl, rfl, rfl, rfl, rfl, trivial⟩ ?_
                      exact H238 e290 h291 v297 bb298 bb299 v302 bb303
                    · intro o ho; cases ho
                      refine pk [2, 0, 1, 3, 4, 5, 6, 7] rfl ?_
                      refine o_appD rfl rfl rfl el50 rfl zero54 rfl rfl ?_; intro bb308 v307
                      refine d_and (fun w m => m.pick [2, 3, 4, 5, 6] rfl) ?_
                      refine pk [0, 1, 2, 3, 4, 5, 6] rfl ?_
                      refine re (E' := [(0, v1), (2, (.pointer (some ⟨b3, 0, none⟩))), (4, (.pointer (some ⟨b5, 0, none⟩))), (5, (.int .i64 t86)), (70, (.slice a249 l250 q251)), (72, (.slice a249 l250 q251)), (85, v307)]) ⟨rfl, rfl, rfl, rfl, rfl, rfl, rfl, trivial⟩ ?_
                      exact H240 e290 h291 v297 bb298 bb299 v302 bb303 v307 bb308
                  have H242 : ∀ (e290 : (List GRule)) (h291 : xs170[((w64 ((xs170.length : Int) - 1))).toNat]? = some e290) (v297 : Value) (bb298 : List Nat) (bb299 : List Nat), Nx 92 (gB F [] w0) (feet []) w0 (wpAnyH Tryd.prog .any (opsAt Tryd.f28 [1, 1, 1, 1, 0, 1, 0, 0, 1, 0, 0, 1, 1, 1]) Qd (Mem (gB F [] w0) (feet []) w0 [cellCh b181 [(.slice a183 l184 q185), (.int .i64 r177.xAction), (.int .i64 r177.xChain)] 54, cellCh b5 [(.slice a249 l250 q251), (.bool (decide (e74 = (ByteArray.mk #[100, 101, 102, 97, 117, 108, 116, 32, 97, 99, 99, 101, 112, 116]))))] 30, cellCh b3 [v81, (.bool false)] 30, dpCh (dSl dGRule 54) 50 bb84 v81 xs82, snapCh w0 F]) 6 #[true, true, true, true, false, false, true, true, true, true, true, true, true, true, true, false, false, false, false]) [(0, v1), (2, (.pointer (some ⟨b3, 0, none⟩))), (4, (.pointer (some ⟨b5, 0, none⟩))), (5, (.int .i64 t86)), (70, (.slice a249 l250 q251)), (72, (.slice a249 l250 q251)), (83, (.agg #[(.slice a183 l184 q185), (.int .i64 r177.xAction), (.int .i64 r177.xChain)])), (82, v297)] [holeCh (dSl dGRule 54) 50 bb298 (.slice a249 l250 q251) xs170 ((w64 ((xs170.length : Int) - 1))).toNat [v297], dpCh dGRule 54 bb299 v297 e290, cellCh b181 [(.slice a183 l184 q185), (.int .i64 r177.xAction), (.int .i64 r177.xChain)] 54, ownCh elGTest 84 (.slice a183 l184 q185) r177.xTests, cellCh b5 [(.slice a249 l250 q251), (.bool (decide (e74 = (ByteArray.mk #[100, 101, 102, 97, 117, 108, 116, 32, 97, 99, 99, 101, 112, 116]))))] 30, cellCh b3 [v81, (.bool false)] 30, dpCh (dSl dGRule 54) 50 bb84 v81 xs82, snapCh w0 F] (appW e290 ([r177]) (fun _ => idxW xs170 (w64 ((xs170.length : Int) - 1)) (fun e266 => k255 (xs170.set ((w64 ((xs170.length : Int) - 1))).toNat (e290 ++ ([r177])))))) := by
                    intro e290 h291 v297 bb298 bb299
                    refine d_two (i := 4) (j := 15) rfl rfl (by kernel_rfl) ?_ ?_
                    · intro o ho; cases ho
                      refine o_lenH m_op el28 0 rfl rfl rfl ?_
                      refine d_and (fun w m => m.pick [2, 4, 5, 6, 7] rfl) ?_
                      refine pk [0, 1, 2, 3, 4, 5, 6, 7] rfl ?_
                      refine re (E' := [(0, v1), (2, (.pointer (some ⟨b3, 0, none⟩))), (4, (.pointer (some ⟨b5, 0, none⟩))), (5, (.int .i64 t86)), (70, (.slice a249 l250 q251)), (83, (.agg #[(.slice a183 l184 q185), (.int .i64 r177.xAction), (.int .i64 r177.xChain)])), (82, v297), (73, (.int .i64 (xs170.length : Int)))]) ⟨rfl, rfl, rfl, rfl, rfl, rfl, rfl, rfl, trivial⟩ ?_
                      exact H237 e290 h291 v297 bb298 bb299
                    · intro o ho; cases ho
                      refine pk [3, 0, 1, 2, 4, 5, 6, 7] rfl ?_
                      refine o_bslD (M := [ownCh elGTest 84 (.slice a183 l184 q185) r177.xTests]) (E' := dGRule) (qs := [(0, (.agg #[(.slice a183 l184 q185), (.int .i64 r177.xAction), (.int .i64 r177.xChain)]))]) (cs := [(.slice a183 l184 q185), (.int .i64 r177.xAction), (.int .i64 r177.xChain)]) r177 (absorb_one (gives_own flelGTest) (fun B w h => ⟨_, rfl, h⟩)) (by intro ρ h; simp only [List.map_toArray, List.map_cons, List.map_nil, h (.tmp 83) _ rfl]) rfl el50 zero54 rfl rfl rfl rfl ?_; intro bb303 v302
                      refine d_and (fun w m => m.pick [3, 4, 5, 6, 7] rfl) ?_
                      refine pk [0, 1, 2, 3, 4, 5, 6, 7] rfl ?_
                      refine re (E' := [(0, v1), (2, (.pointer (some ⟨b3, 0, none⟩))), (4, (.pointer (some ⟨b5, 0, none⟩))), (5, (.int .i64 t86)), (70, (.slice a249 l250 q251)), (72, (.slice a249 l250 q251)), (82, v297), (84, v302)]) ⟨rfl, rfl, rfl, rfl, rfl, rfl, rfl, rfl, trivial⟩ ?_
                      exact H241 e290 h291 v297 bb298 bb299 v302 bb303
                  have H243 : ∀ (e290 : (List GRule)) (h291 : xs170[((w64 ((xs170.length : Int) - 1))).toNat]? = some e290) (v312 : Value) (bb313 : List Nat), Nx 92 (gB F [] w0) (feet []) w0 (wpAnyH Tryd.prog .any (opsAt Tryd.f28 [1, 1, 1, 1, 0, 1, 0, 0, 1, 0, 0, 1, 1, 1]) Qd (Mem (gB F [] w0) (feet []) w0 [cellCh b181 [(.slice a183 l184 q185), (.int .i64 r177.xAction), (.int .i64 r177.xChain)] 54, cellCh b5 [(.slice a249 l250 q251), (.bool (decide (e74 = (ByteArray.mk #[100, 101, 102, 97, 117, 108, 116, 32, 97, 99, 99, 101, 112, 116]))))] 30, cellCh b3 [v81, (.bool false)] 30, dpCh (dSl dGRule 54) 50 bb84 v81 xs82, snapCh w0 F]) 5 #[true, true, true, true, true, false, true, true, true, true, true, true, true, false, true, true, false, false, false]) [(0, v1), (2, (.pointer (some ⟨b3, 0, none⟩))), (4, (.pointer (some ⟨b5, 0, none⟩))), (5, (.int .i64 t86)), (70, (.slice a249 l250 q251)), (81, (pEl (.slice a249 l250 q251) (w64 ((xs170.length : Int) - 1)) 1 0)), (84, v312), (73, (.int .i64 (xs170.length : Int)))] [dpCh dGRule 54 bb313 v312 ([r177]), cellCh b181 [(.slice a183 l184 q185), (.int .i64 r177.xAction), (.int .i64 r177.xChain)] 54, cellCh b5 [(.slice a249 l250 q251), (.bool (decide (e74 = (ByteArray.mk #[100, 101, 102, 97, 117, 108, 116, 32, 97, 99, 99, 101, 112, 116]))))] 30, cellCh b3 [v81, (.bool false)] 30, dpCh (dSl dGRule 54) 50 bb173 (.slice a249 l250 q251) xs170, dpCh (dSl dGRule 54) 50 bb84 v81 xs82, snapCh w0 F] (appW e290 ([r177]) (fun _ => idxW xs170 (w64 ((xs170.length : Int) - 1)) (fun e266 => k255 (xs170.set ((w64 ((xs170.length : Int) - 1))).toNat (e290 ++ ([r177])))))) := by
                    intro e290 h291 v312 bb313
                    refine o_subw (dt 5 (fun w m => m.pick [1, 2, 3, 5, 6] rfl)) rfl rfl rfl ?_
                    refine pk [4, 0, 1, 2, 3, 5, 6] rfl ?_
                    refine d_one (i := 13) rfl (by kernel_rfl) (o_ldF (E1 := dGRule) (t1 := 54) (zin := e290) (encz := fun v => [v]) rfl h291 (fun B w cs h => h) rfl rfl ty50 ?_); rintro v314 bb315 bb316; refine ⟨v314, rfl, ?_⟩
                    refine d_and (fun w m => m.pick [3, 4, 5, 6, 7] rfl) ?_
                    refine pk [2, 0, 1, 3, 4, 5, 6, 7] rfl ?_
                    refine re (E' := [(0, v1), (2, (.pointer (some ⟨b3, 0, none⟩))), (4, (.pointer (some ⟨b5, 0, none⟩))), (5, (.int .i64 t86)), (70, (.slice a249 l250 q251)), (74, (.int .i64 (w64 ((xs170.length : Int) - 1)))), (82, v314), (84, v312)]) ⟨rfl, rfl, rfl, rfl, rfl, rfl, rfl, rfl, trivial⟩ ?_
                    exact H226 e290 h291 v314 bb315 bb316 v312 bb313
                  have H244 : ∀ (e290 : (List GRule)) (h291 : xs170[((w64 ((xs170.length : Int) - 1))).toNat]? = some e290) (v312 : Value) (bb313 : List Nat), Nx 92 (gB F [] w0) (feet []) w0 (wpAnyH Tryd.prog .any (opsAt Tryd.f28 [1, 1, 1, 1, 0, 1, 0, 0, 1, 0, 0, 1, 1, 1]) Qd (Mem (gB F [] w0) (feet []) w0 [cellCh b181 [(.slice a183 l184 q185), (.int .i64 r177.xAction), (.int .i64 r177.xChain)] 54, cellCh b5 [(.slice a249 l250 q251), (.bool (decide (e74 = (ByteArray.mk #[100, 101, 102, 97, 117, 108, 116, 32, 97, 99, 99, 101, 112, 116]))))] 30, cellCh b3 [v81, (.bool false)] 30, dpCh (dSl dGRule 54) 50 bb84 v81 xs82, snapCh w0 F]) 6 #[true, true, true, true, false, false, true, true, true, true, true, true, true, false, true, true, false, false, false]) [(0, v1), (2, (.pointer (some ⟨b3, 0, none⟩))), (4, (.pointer (some ⟨b5, 0, none⟩))), (5, (.int .i64 t86)), (70, (.slice a249 l250 q251)), (72, (.slice a249 l250 q251)), (81, (pEl (.slice a249 l250 q251) (w64 ((xs170.length : Int) - 1)) 1 0)), (84, v312)] [dpCh dGRule 54 bb313 v312 ([r177]), cellCh b181 [(.slice a183 l184 q185), (.int .i64 r177.xAction), (.int .i64 r177.xChain)] 54, cellCh b5 [(.slice a249 l250 q251), (.bool (decide (e74 = (ByteArray.mk #[100, 101, 102, 97, 117, 108, 116, 32, 97, 99, 99, 101, 112, 116]))))] 30, cellCh b3 [v81, (.bool false)] 30, dpCh (dSl dGRule 54) 50 bb173 (.slice a249 l250 q251) xs170, dpCh (dSl dGRule 54) 50 bb84 v81 xs82, snapCh w0 F] (appW e290 ([r177]) (fun _ => idxW xs170 (w64 ((xs170.length : Int) - 1)) (fun e266 => k255 (xs170.set ((w64 ((xs170.length : Int) - 1))).toNat (e290 ++ ([r177])))))) := by
                    intro e290 h291 v312 bb313
                    refine d_two (i := 4) (j := 13) rfl rfl (by kernel_rfl) ?_ ?_
                    · intro o ho; cases ho
                      refine o_len m_op el28 4 rfl reads_dp rfl rfl ?_
                      refine d_and (fun w m => m.pick [1, 2, 3, 5, 6] rfl) ?_
                      refine pk [0, 1, 2, 3, 4, 5, 6] rfl ?_
                      refine re (E' := [(0, v1), (2, (.pointer (some ⟨b3, 0, none⟩))), (4, (.pointer (some ⟨b5, 0, none⟩))), (5, (.int .i64 t86)), (70, (.slice a249 l250 q251)), (81, (pEl (.slice a249 l250 q251) (w64 ((xs170.length : Int) - 1)) 1 0)), (84, v312), (73, (.int .i64 (xs170.length : Int)))]) ⟨rfl, rfl, rfl, rfl, rfl, rfl, rfl, rfl, trivial⟩ ?_
                      exact H243 e290 h291 v312 bb313
                    · intro o ho; cases ho
                      refine pk [4, 0, 1, 2, 3, 5, 6] rfl ?_
                      refine o_ldF (E1 := dGRule) (t1 := 54) (zin := e290) (encz := fun v => [v]) rfl h291 (fun B w cs h => h) rfl rfl ty50 ?_; rintro v317 bb318 bb319; refine ⟨v317, rfl, ?_⟩
                      refine d_and (fun w m => m.pick [3, 4, 5, 6, 7] rfl) ?_
                      refine pk [2, 0, 1, 3, 4, 5, 6, 7] rfl ?_
                      refine re (E' := [(0, v1), (2, (.pointer (some ⟨b3, 0, none⟩))), (4, (.pointer (some ⟨b5, 0, none⟩))), (5, (.int .i64 t86)), (70, (.slice a249 l250 q251)), (72, (.slice a249 l250 q251)), (82, v317), (84, v312)]) ⟨rfl, rfl, rfl, rfl, rfl, rfl, rfl, rfl, trivial⟩ ?_
                      exact H241 e290 h291 v317 bb318 bb319 v312 bb313
                  have H245 : ∀ (e290 : (List GRule)) (h291 : xs170[((w64 ((xs170.length : Int) - 1))).toNat]? = some e290), Nx 92 (gB F [] w0) (feet []) w0 (wpAnyH Tryd.prog .any (opsAt Tryd.f28 [1, 1, 1, 1, 0, 1, 0, 0, 1, 0, 0, 1, 1, 1]) Qd (Mem (gB F [] w0) (feet []) w0 [cellCh b181 [(.slice a183 l184 q185), (.int .i64 r177.xAction), (.int .i64 r177.xChain)] 54, cellCh b5 [(.slice a249 l250 q251), (.bool (decide (e74 = (ByteArray.mk #[100, 101, 102, 97, 117, 108, 116, 32, 97, 99, 99, 101, 112, 116]))))] 30, cellCh b3 [v81, (.bool false)] 30, dpCh (dSl dGRule 54) 50 bb84 v81 xs82, snapCh w0 F]) 7 #[true, true, true, true, false, false, true, true, true, true, true, true, true, false, true, false, false, false, false]) [(0, v1), (2, (.pointer (some ⟨b3, 0, none⟩))), (4, (.pointer (some ⟨b5, 0, none⟩))), (5, (.int .i64 t86)), (70, (.slice a249 l250 q251)), (72, (.slice a249 l250 q251)), (83, (.agg #[(.slice a183 l184 q185), (.int .i64 r177.xAction), (.int .i64 r177.xChain)])), (81, (pEl (.slice a249 l250 q251) (w64 ((xs170.length : Int) - 1)) 1 0))] [cellCh b181 [(.slice a183 l184 q185), (.int .i64 r177.xAction), (.int .i64 r177.xChain)] 54, ownCh elGTest 84 (.slice a183 l184 q185) r177.xTests, cellCh b5 [(.slice a249 l250 q251), (.bool (decide (e74 = (ByteArray.mk #[100, 101, 102, 97, 117, 108, 116, 32, 97, 99, 99, 101, 112, 116]))))] 30, cellCh b3 [v81, (.bool false)] 30, dpCh (dSl dGRule 54) 50 bb173 (.slice a249 l250 q251) xs170, dpCh (dSl dGRule 54) 50 bb84 v81 xs82, snapCh w0 F] (appW e290 ([r177]) (fun _ => idxW xs170 (w64 ((xs170.length : Int) - 1)) (fun e266 => k255 (xs170.set ((w64 ((xs170.length : Int) - 1))).toNat (e290 ++ ([r177])))))) := by
                    intro e290 h291
                    refine d_three (i := 4) (j := 13) (l := 15) rfl rfl rfl (by kernel_rfl) ?_ ?_ ?_
                    · intro o ho; cases ho
                      refine o_len m_op el28 4 rfl reads_dp rfl rfl ?_
                      refine d_and (fun w m => m.pick [0, 2, 3, 5, 6] rfl) ?_
                      refine pk [0, 1, 2, 3, 4, 5, 6] rfl ?_
                      refine re (E' := [(0, v1), (2, (.pointer (some ⟨b3, 0, none⟩))), (4, (.pointer (some ⟨b5, 0, none⟩))), (5, (.int .i64 t86)), (70, (.slice a249 l250 q251)), (83, (.agg #[(.slice a183 l184 q185), (.int .i64 r177.xAction), (.int .i64 r177.xChain)])), (81, (pEl (.slice a249 l250 q251) (w64 ((xs170.length : Int) - 1)) 1 0)), (73, (.int .i64 (xs170.length : Int)))]) ⟨rfl, rfl, rfl, rfl, rfl, rfl, rfl, rfl, trivial⟩ ?_
                      exact H236 e290 h291
                    · intro o ho; cases ho
                      refine pk [4, 0, 1, 2, 3, 5, 6] rfl ?_
                      refine o_ldF (E1 := dGRule) (t1 := 54) (zin := e290) (encz := fun v => [v]) rfl h291 (fun B w cs h => h) rfl rfl ty50 ?_; rintro v297 bb298 bb299; refine ⟨v297, rfl, ?_⟩
                      refine d_and (fun w m => m.pick [2, 4, 5, 6, 7] rfl) ?_
                      refine pk [0, 1, 2, 3, 4, 5, 6, 7] rfl ?_
                      refine re (E' := [(0, v1), (2, (.pointer (some ⟨b3, 0, none⟩))), (4, (.pointer (some ⟨b5, 0, none⟩))), (5, (.int .i64 t86)), (70, (.slice a249 l250 q251)), (72, (.slice a249 l250 q251)), (83, (.agg #[(.slice a183 l184 q185), (.int .i64 r177.xAction), (.int .i64 r177.xChain)])), (82, v297)]) ⟨rfl, rfl, rfl, rfl, rfl, rfl, rfl, rfl, trivial⟩ ?_
                      exact H242 e290 h291 v297 bb298 bb299
                    · intro o ho; cases ho
                      refine pk [1, 0, 2, 3, 4, 5, 6] rfl ?_
                      refine o_bslD (M := [ownCh elGTest 84 (.slice a183 l184 q185) r177.xTests]) (E' := dGRule) (qs := [(0, (.agg #[(.slice a183 l184 q185), (.int .i64 r177.xAction), (.int .i64 r177.xChain)]))]) (cs := [(.slice a183 l184 q185), (.int .i64 r177.xAction), (.int .i64 r177.xChain)]) r177 (absorb_one (gives_own flelGTest) (fun B w h => ⟨_, rfl, h⟩)) (by intro ρ h; simp only [List.map_toArray, List.map_cons, List.map_nil, h (.tmp 83) _ rfl]) rfl el50 zero54 rfl rfl rfl rfl ?_; intro bb313 v312
                      refine d_and (fun w m => m.pick [1, 2, 3, 5, 6] rfl) ?_
                      refine pk [0, 1, 2, 3, 4, 5, 6] rfl ?_
                      refine re (E' := [(0, v1), (2, (.pointer (some ⟨b3, 0, none⟩))), (4, (.pointer (some ⟨b5, 0, none⟩))), (5, (.int .i64 t86)), (70, (.slice a249 l250 q251)), (72, (.slice a249 l250 q251)), (81, (pEl (.slice a249 l250 q251) (w64 ((xs170.length : Int) - 1)) 1 0)), (84, v312)]) ⟨rfl, rfl, rfl, rfl, rfl, rfl, rfl, rfl, trivial⟩ ?_
                      exact H244 e290 h291 v312 bb313
                  have H246 : ∀ (v320 : Value) (bb321 : List Nat), Nx 92 (gB F [] w0) (feet []) w0 (wpAnyH Tryd.prog .any (opsAt Tryd.f28 [1, 1, 1, 1, 0, 1, 0, 0, 1, 0, 0, 1, 1, 1]) Qd (Mem (gB F [] w0) (feet []) w0 [cellCh b181 [(.slice a183 l184 q185), (.int .i64 r177.xAction), (.int .i64 r177.xChain)] 54, cellCh b5 [(.slice a249 l250 q251), (.bool (decide (e74 = (ByteArray.mk #[100, 101, 102, 97, 117, 108, 116, 32, 97, 99, 99, 101, 112, 116]))))] 30, cellCh b3 [v81, (.bool false)] 30, dpCh (dSl dGRule 54) 50 bb84 v81 xs82, snapCh w0 F]) 6 #[true, true, true, true, true, false, true, true, true, true, true, true, false, false, true, true, false, false, false]) [(0, v1), (2, (.pointer (some ⟨b3, 0, none⟩))), (4, (.pointer (some ⟨b5, 0, none⟩))), (5, (.int .i64 t86)), (70, (.slice a249 l250 q251)), (76, (.slice a249 l250 q251)), (80, (.int .i64 (w64 ((xs170.length : Int) - 1)))), (84, v320), (73, (.int .i64 (xs170.length : Int)))] [dpCh dGRule 54 bb321 v320 ([r177]), cellCh b181 [(.slice a183 l184 q185), (.int .i64 r177.xAction), (.int .i64 r177.xChain)] 54, cellCh b5 [(.slice a249 l250 q251), (.bool (decide (e74 = (ByteArray.mk #[100, 101, 102, 97, 117, 108, 116, 32, 97, 99, 99, 101, 112, 116]))))] 30, cellCh b3 [v81, (.bool false)] 30, dpCh (dSl dGRule 54) 50 bb173 (.slice a249 l250 q251) xs170, dpCh (dSl dGRule 54) 50 bb84 v81 xs82, snapCh w0 F] (idxW xs170 (w64 ((xs170.length : Int) - 1)) (fun e322 => appW e322 ([r177]) (fun _ => idxW xs170 (w64 ((xs170.length : Int) - 1)) (fun e266 => k255 (xs170.set ((w64 ((xs170.length : Int) - 1))).toNat (e322 ++ ([r177]))))))) := by
                    intro v320 bb321
                    refine o_subw (dt 5 (fun w m => m.pick [1, 2, 3, 5, 6] rfl)) rfl rfl rfl ?_
                    refine d_one (i := 12) rfl (by kernel_rfl) (o_idx m_op 4 rfl reads_dp rfl rfl rfl el28 ?_); intro e322 h323
                    refine d_and (fun w m => m.pick [1, 2, 3, 5, 6] rfl) ?_
                    refine pk [0, 1, 2, 3, 4, 5, 6] rfl ?_
                    refine re (E' := [(0, v1), (2, (.pointer (some ⟨b3, 0, none⟩))), (4, (.pointer (some ⟨b5, 0, none⟩))), (5, (.int .i64 t86)), (70, (.slice a249 l250 q251)), (74, (.int .i64 (w64 ((xs170.length : Int) - 1)))), (81, (pEl (.slice a249 l250 q251) (w64 ((xs170.length : Int) - 1)) 1 0)), (84, v320)]) ⟨rfl, rfl, rfl, rfl, rfl, rfl, rfl, rfl, trivial⟩ ?_
                    exact H228 e322 h323 v320 bb321
                  have H247 : ∀ (v320 : Value) (bb321 : List Nat), Nx 92 (gB F [] w0) (feet []) w0 (wpAnyH Tryd.prog .any (opsAt Tryd.f28 [1, 1, 1, 1, 0, 1, 0, 0, 1, 0, 0, 1, 1, 1]) Qd (Mem (gB F [] w0) (feet []) w0 [cellCh b181 [(.slice a183 l184 q185), (.int .i64 r177.xAction), (.int .i64 r177.xChain)] 54, cellCh b5 [(.slice a249 l250 q251), (.bool (decide (e74 = (ByteArray.mk #[100, 101, 102, 97, 117, 108, 116, 32, 97, 99, 99, 101, 112, 116]))))] 30, cellCh b3 [v81, (.bool false)] 30, dpCh (dSl dGRule 54) 50 bb84 v81 xs82, snapCh w0 F]) 7 #[true, true, true, true, false, false, true, true, true, true, true, true, false, false, true, true, false, false, false]) [(0, v1), (2, (.pointer (some ⟨b3, 0, none⟩))), (4, (.pointer (some ⟨b5, 0, none⟩))), (5, (.int .i64 t86)), (70, (.slice a249 l250 q251)), (72, (.slice a249 l250 q251)), (76, (.slice a249 l250 q251)), (80, (.int .i64 (w64 ((xs170.length : Int) - 1)))), (84, v320)] [dpCh dGRule 54 bb321 v320 ([r177]), cellCh b181 [(.slice a183 l184 q185), (.int .i64 r177.xAction), (.int .i64 r177.xChain)] 54, cellCh b5 [(.slice a249 l250 q251), (.bool (decide (e74 = (ByteArray.mk #[100, 101, 102, 97, 117, 108, 116, 32, 97, 99, 99, 101, 112, 116]))))] 30, cellCh b3 [v81, (.bool false)] 30, dpCh (dSl dGRule 54) 50 bb173 (.slice a249 l250 q251) xs170, dpCh (dSl dGRule 54) 50 bb84 v81 xs82, snapCh w0 F] (idxW xs170 (w64 ((xs170.length : Int) - 1)) (fun e322 => appW e322 ([r177]) (fun _ => idxW xs170 (w64 ((xs170.length : Int) - 1)) (fun e266 => k255 (xs170.set ((w64 ((xs170.length : Int) - 1))).toNat (e322 ++ ([r177]))))))) := by
                    intro v320 bb321
                    refine d_two (i := 4) (j := 12) rfl rfl (by kernel_rfl) ?_ ?_
                    · intro o ho; cases ho
                      refine o_len m_op el28 4 rfl reads_dp rfl rfl ?_
                      refine d_and (fun w m => m.pick [1, 2, 3, 5, 6] rfl) ?_
                      refine pk [0, 1, 2, 3, 4, 5, 6] rfl ?_
                      refine re (E' := [(0, v1), (2, (.pointer (some ⟨b3, 0, none⟩))), (4, (.pointer (some ⟨b5, 0, none⟩))), (5, (.int .i64 t86)), (70, (.slice a249 l250 q251)), (76, (.slice a249 l250 q251)), (80, (.int .i64 (w64 ((xs170.length : Int) - 1)))), (84, v320), (73, (.int .i64 (xs170.length : Int)))]) ⟨rfl, rfl, rfl, rfl, rfl, rfl, rfl, rfl, rfl, trivial⟩ ?_
                      exact H246 v320 bb321
                    · intro o ho; cases ho
                      refine o_idx m_op 4 rfl reads_dp rfl rfl rfl el28 ?_; intro e324 h325
                      refine d_and (fun w m => m.pick [1, 2, 3, 5, 6] rfl) ?_
                      refine pk [0, 1, 2, 3, 4, 5, 6] rfl ?_
                      refine re (E' := [(0, v1), (2, (.pointer (some ⟨b3, 0, none⟩))), (4, (.pointer (some ⟨b5, 0, none⟩))), (5, (.int .i64 t86)), (70, (.slice a249 l250 q251)), (72, (.slice a249 l250 q251)), (81, (pEl (.slice a249 l250 q251) (w64 ((xs170.length : Int) - 1)) 1 0)), (84, v320)]) ⟨rfl, rfl, rfl, rfl, rfl, rfl, rfl, rfl, trivial⟩ ?_
                      exact H244 e324 h325 v320 bb321
                  have H248 : ∀ (_ : Unit), Nx 92 (gB F [] w0) (feet []) w0 (wpAnyH Tryd.prog .any (opsAt Tryd.f28 [1, 1, 1, 1, 0, 1, 0, 0, 1, 0, 0, 1, 1, 1]) Qd (Mem (gB F [] w0) (feet []) w0 [cellCh b181 [(.slice a183 l184 q185), (.int .i64 r177.xAction), (.int .i64 r177.xChain)] 54, cellCh b5 [(.slice a249 l250 q251), (.bool (decide (e74 = (ByteArray.mk #[100, 101, 102, 97, 117, 108, 116, 32, 97, 99, 99, 101, 112, 116]))))] 30, cellCh b3 [v81, (.bool false)] 30, dpCh (dSl dGRule 54) 50 bb84 v81 xs82, snapCh w0 F]) 9 #[true, true, true, true, false, false, true, true, true, true, true, false, false, false, true, false, false, false, false]) [(0, v1), (2, (.pointer (some ⟨b3, 0, none⟩))), (4, (.pointer (some ⟨b5, 0, none⟩))), (5, (.int .i64 t86)), (70, (.slice a249 l250 q251)), (72, (.slice a249 l250 q251)), (76, (.slice a249 l250 q251)), (83, (.agg #[(.slice a183 l184 q185), (.int .i64 r177.xAction), (.int .i64 r177.xChain)])), (79, (.int .i64 (xs170.length : Int)))] [cellCh b181 [(.slice a183 l184 q185), (.int .i64 r177.xAction), (.int .i64 r177.xChain)] 54, ownCh elGTest 84 (.slice a183 l184 q185) r177.xTests, cellCh b5 [(.slice a249 l250 q251), (.bool (decide (e74 = (ByteArray.mk #[100, 101, 102, 97, 117, 108, 116, 32, 97, 99, 99, 101, 112, 116]))))] 30, cellCh b3 [v81, (.bool false)] 30, dpCh (dSl dGRule 54) 50 bb173 (.slice a249 l250 q251) xs170, dpCh (dSl dGRule 54) 50 bb84 v81 xs82, snapCh w0 F] (idxW xs170 (w64 ((xs170.length : Int) - 1)) (fun e286 => appW e286 ([r177]) (fun _ => idxW xs170 (w64 ((xs170.length : Int) - 1)) (fun e266 => k255 (xs170.set ((w64 ((xs170.length : Int) - 1))).toNat (e286 ++ ([r177]))))))) := by
                    intro _
                    refine o_subw (dt 11 (fun w m => m.pick [0, 2, 3, 5, 6] rfl)) rfl rfl rfl ?_
                    refine d_three (i := 4) (j := 12) (l := 15) rfl rfl rfl (by kernel_rfl) ?_ ?_ ?_
                    · intro o ho; cases ho
                      refine o_len m_op el28 4 rfl reads_dp rfl rfl ?_
                      refine d_and (fun w m => m.pick [0, 2, 3, 5, 6] rfl) ?_
                      refine pk [0, 1, 2, 3, 4, 5, 6] rfl ?_
                      refine re (E' := [(0, v1), (2, (.pointer (some ⟨b3, 0, none⟩))), (4, (.pointer (some ⟨b5, 0, none⟩))), (5, (.int .i64 t86)), (70, (.slice a249 l250 q251)), (76, (.slice a249 l250 q251)), (83, (.agg #[(.slice a183 l184 q185), (.int .i64 r177.xAction), (.int .i64 r177.xChain)])), (80, (.int .i64 (w64 ((xs170.length : Int) - 1)))), (73, (.int .i64 (xs170.length : Int)))]) ⟨rfl, rfl, rfl, rfl, rfl, rfl, rfl, rfl, rfl, trivial⟩ ?_
                      exact H235 ()
                    · intro o ho; cases ho
                      refine o_idx m_op 4 rfl reads_dp rfl rfl rfl el28 ?_; intro e290 h291
                      refine d_and (fun w m => m.pick [0, 2, 3, 5, 6] rfl) ?_
                      refine pk [0, 1, 2, 3, 4, 5, 6] rfl ?_
                      refine re (E' := [(0, v1), (2, (.pointer (some ⟨b3, 0, none⟩))), (4, (.pointer (some ⟨b5, 0, none⟩))), (5, (.int .i64 t86)), (70, (.slice a249 l250 q251)), (72, (.slice a249 l250 q251)), (83, (.agg #[(.slice a183 l184 q185), (.int .i64 r177.xAction), (.int .i64 r177.xChain)])), (81, (pEl (.slice a249 l250 q251) (w64 ((xs170.length : Int) - 1)) 1 0))]) ⟨rfl, rfl, rfl, rfl, rfl, rfl, rfl, rfl, trivial⟩ ?_
                      exact H245 e290 h291
                    · intro o ho; cases ho
                      refine pk [1, 0, 2, 3, 4, 5, 6] rfl ?_
                      refine o_bslD (M := [ownCh elGTest 84 (.slice a183 l184 q185) r177.xTests]) (E' := dGRule) (qs := [(0, (.agg #[(.slice a183 l184 q185), (.int .i64 r177.xAction), (.int .i64 r177.xChain)]))]) (cs := [(.slice a183 l184 q185), (.int .i64 r177.xAction), (.int .i64 r177.xChain)]) r177 (absorb_one (gives_own flelGTest) (fun B w h => ⟨_, rfl, h⟩)) (by intro ρ h; simp only [List.map_toArray, List.map_cons, List.map_nil, h (.tmp 83) _ rfl]) rfl el50 zero54 rfl rfl rfl rfl ?_; intro bb321 v320
                      refine d_and (fun w m => m.pick [1, 2, 3, 5, 6] rfl) ?_
                      refine pk [0, 1, 2, 3, 4, 5, 6] rfl ?_
                      refine re (E' := [(0, v1), (2, (.pointer (some ⟨b3, 0, none⟩))), (4, (.pointer (some ⟨b5, 0, none⟩))), (5, (.int .i64 t86)), (70, (.slice a249 l250 q251)), (72, (.slice a249 l250 q251)), (76, (.slice a249 l250 q251)), (80, (.int .i64 (w64 ((xs170.length : Int) - 1)))), (84, v320)]) ⟨rfl, rfl, rfl, rfl, rfl, rfl, rfl, rfl, rfl, trivial⟩ ?_
                      exact H247 v320 bb321
                  have H249 : ∀ (v326 : Value) (bb327 : List Nat), Nx 92 (gB F [] w0) (feet []) w0 (wpAnyH Tryd.prog .any (opsAt Tryd.f28 [1, 1, 1, 1, 0, 1, 0, 0, 1, 0, 0, 1, 1, 1]) Qd (Mem (gB F [] w0) (feet []) w0 [cellCh b181 [(.slice a183 l184 q185), (.int .i64 r177.xAction), (.int .i64 r177.xChain)] 54, cellCh b5 [(.slice a249 l250 q251), (.bool (decide (e74 = (ByteArray.mk #[100, 101, 102, 97, 117, 108, 116, 32, 97, 99, 99, 101, 112, 116]))))] 30, cellCh b3 [v81, (.bool false)] 30, dpCh (dSl dGRule 54) 50 bb84 v81 xs82, snapCh w0 F]) 8 #[true, true, true, true, true, false, true, true, true, true, false, false, false, false, true, true, false, false, false]) [(0, v1), (2, (.pointer (some ⟨b3, 0, none⟩))), (4, (.pointer (some ⟨b5, 0, none⟩))), (5, (.int .i64 t86)), (70, (.slice a249 l250 q251)), (76, (.slice a249 l250 q251)), (78, (.slice a249 l250 q251)), (84, v326), (73, (.int .i64 (xs170.length : Int)))] [dpCh dGRule 54 bb327 v326 ([r177]), cellCh b181 [(.slice a183 l184 q185), (.int .i64 r177.xAction), (.int .i64 r177.xChain)] 54, cellCh b5 [(.slice a249 l250 q251), (.bool (decide (e74 = (ByteArray.mk #[100, 101, 102, 97, 117, 108, 116, 32, 97, 99, 99, 101, 112, 116]))))] 30, cellCh b3 [v81, (.bool false)] 30, dpCh (dSl dGRule 54) 50 bb173 (.slice a249 l250 q251) xs170, dpCh (dSl dGRule 54) 50 bb84 v81 xs82, snapCh w0 F] (idxW xs170 (w64 ((xs170.length : Int) - 1)) (fun e284 => appW e284 ([r177]) (fun _ => idxW xs170 (w64 ((xs170.length : Int) - 1)) (fun e266 => k255 (xs170.set ((w64 ((xs170.length : Int) - 1))).toNat (e284 ++ ([r177]))))))) := by
                    intro v326 bb327
                    refine o_subw (dt 5 (fun w m => m.pick [1, 2, 3, 5, 6] rfl)) rfl rfl rfl ?_
                    refine d_one (i := 10) rfl (by kernel_rfl) (o_len m_op el28 4 rfl reads_dp rfl rfl ?_)
                    refine d_and (fun w m => m.pick [1, 2, 3, 5, 6] rfl) ?_
                    refine pk [0, 1, 2, 3, 4, 5, 6] rfl ?_
                    refine re (E' := [(0, v1), (2, (.pointer (some ⟨b3, 0, none⟩))), (4, (.pointer (some ⟨b5, 0, none⟩))), (5, (.int .i64 t86)), (70, (.slice a249 l250 q251)), (76, (.slice a249 l250 q251)), (74, (.int .i64 (w64 ((xs170.length : Int) - 1)))), (84, v326), (79, (.int .i64 (xs170.length : Int)))]) ⟨rfl, rfl, rfl, rfl, rfl, rfl, rfl, rfl, rfl, trivial⟩ ?_
                    exact H232 v326 bb327
                  have H250 : ∀ (v326 : Value) (bb327 : List Nat), Nx 92 (gB F [] w0) (feet []) w0 (wpAnyH Tryd.prog .any (opsAt Tryd.f28 [1, 1, 1, 1, 0, 1, 0, 0, 1, 0, 0, 1, 1, 1]) Qd (Mem (gB F [] w0) (feet []) w0 [cellCh b181 [(.slice a183 l184 q185), (.int .i64 r177.xAction), (.int .i64 r177.xChain)] 54, cellCh b5 [(.slice a249 l250 q251), (.bool (decide (e74 = (ByteArray.mk #[100, 101, 102, 97, 117, 108, 116, 32, 97, 99, 99, 101, 112, 116]))))] 30, cellCh b3 [v81, (.bool false)] 30, dpCh (dSl dGRule 54) 50 bb84 v81 xs82, snapCh w0 F]) 8 #[true, true, true, true, false, false, true, true, true, true, true, false, false, false, true, true, false, false, false]) [(0, v1), (2, (.pointer (some ⟨b3, 0, none⟩))), (4, (.pointer (some ⟨b5, 0, none⟩))), (5, (.int .i64 t86)), (70, (.slice a249 l250 q251)), (72, (.slice a249 l250 q251)), (76, (.slice a249 l250 q251)), (84, v326), (79, (.int .i64 (xs170.length : Int)))] [dpCh dGRule 54 bb327 v326 ([r177]), cellCh b181 [(.slice a183 l184 q185), (.int .i64 r177.xAction), (.int .i64 r177.xChain)] 54, cellCh b5 [(.slice a249 l250 q251), (.bool (decide (e74 = (ByteArray.mk #[100, 101, 102, 97, 117, 108, 116, 32, 97, 99, 99, 101, 112, 116]))))] 30, cellCh b3 [v81, (.bool false)] 30, dpCh (dSl dGRule 54) 50 bb173 (.slice a249 l250 q251) xs170, dpCh (dSl dGRule 54) 50 bb84 v81 xs82, snapCh w0 F] (idxW xs170 (w64 ((xs170.length : Int) - 1)) (fun e322 => appW e322 ([r177]) (fun _ => idxW xs170 (w64 ((xs170.length : Int) - 1)) (fun e266 => k255 (xs170.set ((w64 ((xs170.length : Int) - 1))).toNat (e322 ++ ([r177]))))))) := by
                    intro v326 bb327
                    refine o_subw (dt 11 (fun w m => m.pick [1, 2, 3, 5, 6] rfl)) rfl rfl rfl ?_
                    refine d_two (i := 4) (j := 12) rfl rfl (by kernel_rfl) ?_ ?_
                    · intro o ho; cases ho
                      refine o_len m_op el28 4 rfl reads_dp rfl rfl ?_
                      refine d_and (fun w m => m.pick [1, 2, 3, 5, 6] rfl) ?_
                      refine pk [0, 1, 2, 3, 4, 5, 6] rfl ?_
                      refine re (E' := [(0, v1), (2, (.pointer (some ⟨b3, 0, none⟩))), (4, (.pointer (some ⟨b5, 0, none⟩))), (5, (.int .i64 t86)), (70, (.slice a249 l250 q251)), (76, (.slice a249 l250 q251)), (80, (.int .i64 (w64 ((xs170.length : Int) - 1)))), (84, v326), (73, (.int .i64 (xs170.length : Int)))]) ⟨rfl, rfl, rfl, rfl, rfl, rfl, rfl, rfl, rfl, trivial⟩ ?_
                      exact H246 v326 bb327
                    · intro o ho; cases ho
                      refine o_idx m_op 4 rfl reads_dp rfl rfl rfl el28 ?_; intro e328 h329
                      refine d_and (fun w m => m.pick [1, 2, 3, 5, 6] rfl) ?_
                      refine pk [0, 1, 2, 3, 4, 5, 6] rfl ?_
                      refine re (E' := [(0, v1), (2, (.pointer (some ⟨b3, 0, none⟩))), (4, (.pointer (some ⟨b5, 0, none⟩))), (5, (.int .i64 t86)), (70, (.slice a249 l250 q251)), (72, (.slice a249 l250 q251)), (81, (pEl (.slice a249 l250 q251) (w64 ((xs170.length : Int) - 1)) 1 0)), (84, v326)]) ⟨rfl, rfl, rfl, rfl, rfl, rfl, rfl, rfl, trivial⟩ ?_
                      exact H244 e328 h329 v326 bb327
                  have H251 : ∀ (v326 : Value) (bb327 : List Nat), Nx 92 (gB F [] w0) (feet []) w0 (wpAnyH Tryd.prog .any (opsAt Tryd.f28 [1, 1, 1, 1, 0, 1, 0, 0, 1, 0, 0, 1, 1, 1]) Qd (Mem (gB F [] w0) (feet []) w0 [cellCh b181 [(.slice a183 l184 q185), (.int .i64 r177.xAction), (.int .i64 r177.xChain)] 54, cellCh b5 [(.slice a249 l250 q251), (.bool (decide (e74 = (ByteArray.mk #[100, 101, 102, 97, 117, 108, 116, 32, 97, 99, 99, 101, 112, 116]))))] 30, cellCh b3 [v81, (.bool false)] 30, dpCh (dSl dGRule 54) 50 bb84 v81 xs82, snapCh w0 F]) 9 #[true, true, true, true, false, false, true, true, true, true, false, false, false, false, true, true, false, false, false]) [(0, v1), (2, (.pointer (some ⟨b3, 0, none⟩))), (4, (.pointer (some ⟨b5, 0, none⟩))), (5, (.int .i64 t86)), (70, (.slice a249 l250 q251)), (72, (.slice a249 l250 q251)), (76, (.slice a249 l250 q251)), (78, (.slice a249 l250 q251)), (84, v326)] [dpCh dGRule 54 bb327 v326 ([r177]), cellCh b181 [(.slice a183 l184 q185), (.int .i64 r177.xAction), (.int .i64 r177.xChain)] 54, cellCh b5 [(.slice a249 l250 q251), (.bool (decide (e74 = (ByteArray.mk #[100, 101, 102, 97, 117, 108, 116, 32, 97, 99, 99, 101, 112, 116]))))] 30, cellCh b3 [v81, (.bool false)] 30, dpCh (dSl dGRule 54) 50 bb173 (.slice a249 l250 q251) xs170, dpCh (dSl dGRule 54) 50 bb84 v81 xs82, snapCh w0 F] (idxW xs170 (w64 ((xs170.length : Int) - 1)) (fun e284 => appW e284 ([r177]) (fun _ => idxW xs170 (w64 ((xs170.length : Int) - 1)) (fun e266 => k255 (xs170.set ((w64 ((xs170.length : Int) - 1))).toNat (e284 ++ ([r177]))))))) := by
                    intro v326 bb327
                    refine d_two (i := 4) (j := 10) rfl rfl (by kernel_rfl) ?_ ?_
                    · intro o ho; cases ho
                      refine o_len m_op el28 4 rfl reads_dp rfl rfl ?_
                      refine d_and (fun w m => m.pick [1, 2, 3, 5, 6] rfl) ?_
                      refine pk [0, 1, 2, 3, 4, 5, 6] rfl ?_
                      refine re (E' := [(0, v1), (2, (.pointer (some ⟨b3, 0, none⟩))), (4, (.pointer (some ⟨b5, 0, none⟩))), (5, (.int .i64 t86)), (70, (.slice a249 l250 q251)), (76, (.slice a249 l250 q251)), (78, (.slice a249 l250 q251)), (84, v326), (73, (.int .i64 (xs170.length : Int)))]) ⟨rfl, rfl, rfl, rfl, rfl, rfl, rfl, rfl, rfl, trivial⟩ ?_
                      exact H249 v326 bb327
                    · intro o ho; cases ho
                      refine o_len m_op el28 4 rfl reads_dp rfl rfl ?_
                      refine d_and (fun w m => m.pick [1, 2, 3, 5, 6] rfl) ?_
                      refine pk [0, 1, 2, 3, 4, 5, 6] rfl ?_
                      refine re (E' := [(0, v1), (2, (.pointer (some ⟨b3, 0, none⟩))), (4, (.pointer (some ⟨b5, 0, none⟩))), (5, (.int .i64 t86)), (70, (.slice a249 l250 q251)), (72, (.slice a249 l250 q251)), (76, (.slice a249 l250 q251)), (84, v326), (79, (.int .i64 (xs170.length : Int)))]) ⟨rfl, rfl, rfl, rfl, rfl, rfl, rfl, rfl, rfl, trivial⟩ ?_
                      exact H250 v326 bb327
                  refine o_fad (dt 0 (fun w m => m.pick [0, 2, 3, 5, 6] rfl)) rfl rfl fld30_0 rfl ?_
                  refine o_ldc (dt 1 (fun w m => m.pick [0, 2, 3, 5, 6] rfl)) (v := (.slice a249 l250 q251)) 1 rfl rfl rfl ty28 rfl ?_
                  refine o_fad (dt 2 (fun w m => m.pick [0, 2, 3, 5, 6] rfl)) rfl rfl fld30_0 rfl ?_
                  refine o_ldc (dt 3 (fun w m => m.pick [0, 2, 3, 5, 6] rfl)) (v := (.slice a249 l250 q251)) 1 rfl rfl rfl ty28 rfl ?_
                  refine o_fad (dt 6 (fun w m => m.pick [0, 2, 3, 5, 6] rfl)) rfl rfl fld30_0 rfl ?_
                  refine o_ldc (dt 7 (fun w m => m.pick [0, 2, 3, 5, 6] rfl)) (v := (.slice a249 l250 q251)) 1 rfl rfl rfl ty28 rfl ?_
                  refine o_fad (dt 8 (fun w m => m.pick [0, 2, 3, 5, 6] rfl)) rfl rfl fld30_0 rfl ?_
                  refine o_ldc (dt 9 (fun w m => m.pick [0, 2, 3, 5, 6] rfl)) (v := (.slice a249 l250 q251)) 1 rfl rfl rfl ty28 rfl ?_
                  refine o_ldc (dt 14 (fun w m => m.pick [0, 2, 3, 5, 6] rfl)) (v := (.agg #[(.slice a183 l184 q185), (.int .i64 r177.xAction), (.int .i64 r177.xChain)])) 0 rfl rfl rfl ty54 rfl ?_
                  refine d_three (i := 4) (j := 10) (l := 15) rfl rfl rfl (by kernel_rfl) ?_ ?_ ?_
                  · intro o ho; cases ho
                    refine o_len m_op el28 4 rfl reads_dp rfl rfl ?_
                    refine d_and (fun w m => m.pick [0, 2, 3, 5, 6] rfl) ?_
                    refine pk [0, 1, 2, 3, 4, 5, 6] rfl ?_
                    refine re (E' := [(0, v1), (2, (.pointer (some ⟨b3, 0, none⟩))), (4, (.pointer (some ⟨b5, 0, none⟩))), (5, (.int .i64 t86)), (70, (.slice a249 l250 q251)), (76, (.slice a249 l250 q251)), (78, (.slice a249 l250 q251)), (83, (.agg #[(.slice a183 l184 q185), (.int .i64 r177.xAction), (.int .i64 r177.xChain)])), (73, (.int .i64 (xs170.length : Int)))]) ⟨rfl, rfl, rfl, rfl, rfl, rfl, rfl, rfl, rfl, trivial⟩ ?_
                    exact H234 ()
                  · intro o ho; cases ho
                    refine o_len m_op el28 4 rfl reads_dp rfl rfl ?_
                    refine d_and (fun w m => m.pick [0, 2, 3, 5, 6] rfl) ?_
                    refine pk [0, 1, 2, 3, 4, 5, 6] rfl ?_
                    refine re (E' := [(0, v1), (2, (.pointer (some ⟨b3, 0, none⟩))), (4, (.pointer (some ⟨b5, 0, none⟩))), (5, (.int .i64 t86)), (70, (.slice a249 l250 q251)), (72, (.slice a249 l250 q251)), (76, (.slice a249 l250 q251)), (83, (.agg #[(.slice a183 l184 q185), (.int .i64 r177.xAction), (.int .i64 r177.xChain)])), (79, (.int .i64 (xs170.length : Int)))]) ⟨rfl, rfl, rfl, rfl, rfl, rfl, rfl, rfl, rfl, trivial⟩ ?_
                    exact H248 ()
                  · intro o ho; cases ho
                    refine pk [1, 0, 2, 3, 4, 5, 6] rfl ?_
                    refine o_bslD (M := [ownCh elGTest 84 (.slice a183 l184 q185) r177.xTests]) (E' := dGRule) (qs := [(0, (.agg #[(.slice a183 l184 q185), (.int .i64 r177.xAction), (.int .i64 r177.xChain)]))]) (cs := [(.slice a183 l184 q185), (.int .i64 r177.xAction), (.int .i64 r177.xChain)]) r177 (absorb_one (gives_own flelGTest) (fun B w h => ⟨_, rfl, h⟩)) (by intro ρ h; simp only [List.map_toArray, List.map_cons, List.map_nil, h (.tmp 83) _ rfl]) rfl el50 zero54 rfl rfl rfl rfl ?_; intro bb327 v326
                    refine d_and (fun w m => m.pick [1, 2, 3, 5, 6] rfl) ?_
                    refine pk [0, 1, 2, 3, 4, 5, 6] rfl ?_
                    refine re (E' := [(0, v1), (2, (.pointer (some ⟨b3, 0, none⟩))), (4, (.pointer (some ⟨b5, 0, none⟩))), (5, (.int .i64 t86)), (70, (.slice a249 l250 q251)), (72, (.slice a249 l250 q251)), (76, (.slice a249 l250 q251)), (78, (.slice a249 l250 q251)), (84, v326)]) ⟨rfl, rfl, rfl, rfl, rfl, rfl, rfl, rfl, rfl, trivial⟩ ?_
                    exact H251 v326 bb327
                · rintro xs252 a w ⟨bb254, hE, hm⟩ h
                  refine nx_of hE hm h ?_
                  clear hE hm h
                  refine b_norm ?_
                  exact l_join xs252 (fun a w hE hm => ⟨(.slice a249 l250 q251), bb254, hE.sub ⟨rfl, rfl, rfl, rfl, trivial⟩, (hm.pick [0, 1, 2, 3, 4] rfl)⟩)
        · rintro xs389 a w ⟨v390, bb392, hE, hm⟩ h
          refine nx_of hE hm h ?_
          clear hE hm h
          refine c_region ?_
          refine o_mv st rfl rfl ?_
          refine o_add st rfl rfl rfl ?_; intro t394
          refine o_as st rfl rfl ?_
          refine c_nil ?_
          exact l_join (xs389, xs82, t394) (fun a w hE hm => ⟨v390, bb392, v81, bb84, hE.sub ⟨rfl, rfl, rfl, rfl, trivial⟩, (hm.pick [1, 2, 4, 0, 3] rfl)⟩)
      · refine c_exit ?_
        refine l_exit ?_
        refine l_exit ?_
        refine b_exit ?_
        refine l_then ?_
        refine c_seq ?_
        refine c_seq ?_
        refine c_region ?_
        refine o_ldc st (v := (.agg #[v76, (.bool (decide (e74 = (ByteArray.mk #[100, 101, 102, 97, 117, 108, 116, 32, 97, 99, 99, 101, 112, 116]))))])) 0 rfl rfl rfl ty30 rfl ?_
        refine stw (o_callP (vs := [(.agg #[v76, (.bool (decide (e74 = (ByteArray.mk #[100, 101, 102, 97, 117, 108, 116, 32, 97, 99, 99, 101, 112, 116]))))])]) Tryd.call24 rfl rfl (by intro w m h; exact (w_spec_RulesetValid (F := allB [] w) (s_0 := (GRuleset.mk xs77 (decide (e74 = (ByteArray.mk #[100, 101, 102, 97, 117, 108, 116, 32, 97, 99, 99, 101, 112, 116]))))) allB_ok (m.rd0 3 rfl reads_dp) h).mono (fun _ _ k => ret_free (fun r u => fr_nil) k)) ?_); rintro r395 _
        refine o_not st rfl rfl ?_
        refine c_nil ?_
        refine l_then ?_
        refine c_cond rfl ?_ ?_
        · refine c_seq ?_
          refine c_region ?_
          refine o_bld st (qs := []) (cells := [(.slice none 0 0), (.bool false)]) (by intro ρ h; simp only [List.map_toArray, List.map_cons, List.map_nil]) rfl bld30 rfl ?_
          refine stw (o_stc (cs' := [(.slice none 0 0), (.bool false)]) 1 rfl rfl rfl ty30 rfl rfl rfl rfl ?_)
          refine o_as st rfl rfl ?_
          refine c_nil ?_
          refine l_then ?_
          refine c_ret ?_
          refine l_ret ?_
          refine nx_dnil (dSl dGRule 54) 50 ?_
          exact l_end2 Tryd.results28 ((GRuleset.mk ([]) false), false) ((.slice none 0 0), []) (rv_c 2 rfl rfl ty30 rfl) (rv_t rfl) rfl (fun w m => NewCh.ofB m [0] rfl)
        · refine c_skip ?_
          refine l_then ?_
          refine c_seq ?_
          refine c_region ?_
          refine o_ldc st (v := (.agg #[v76, (.bool (decide (e74 = (ByteArray.mk #[100, 101, 102, 97, 117, 108, 116, 32, 97, 99, 99, 101, 112, 116]))))])) 0 rfl rfl rfl ty30 rfl ?_
          refine nx_dp 3 rfl ?_; rintro a397 l398 q399 rfl
          refine stw (o_stc (cs' := [(.slice a397 l398 q399), (.bool (decide (e74 = (ByteArray.mk #[100, 101, 102, 97, 117, 108, 116, 32, 97, 99, 99, 101, 112, 116]))))]) 1 rfl rfl rfl ty30 rfl rfl rfl rfl ?_)
          refine o_as st rfl rfl ?_
          refine c_nil ?_
          refine l_then ?_
          refine c_ret ?_
          exact l_end2 Tryd.results28 ((GRuleset.mk xs77 (decide (e74 = (ByteArray.mk #[100, 101, 102, 97, 117, 108, 116, 32, 97, 99, 99, 101, 112, 116])))), true) ((.slice a397 l398 q399), bb79) (rv_c 1 rfl rfl ty30 rfl) (rv_t rfl) rfl (fun w m => NewCh.ofB m [3] rfl)

set_option maxRecDepth 100000 in
set_option maxHeartbeats 8000000 in
theorem w_spec_l23Begins {w0 : World} {F : Nat → Prop} {v1 : Value} {lines_0 : (List ByteArray)} {κ : Bool → Prop} (hF : ∀ b, F b → b < w0.heap.size ∧ ¬ feet [] b) (hv1 : Sl elStr F w0 v1 lines_0) (h : L_spec_l23Begins lines_0 κ) :
    Calls Tryd.prog 42 #[v1] w0 (Ret [] F w0 κ (fun (r : Bool) (u : Unit) => (.bool r)) (fun (r : Bool) (u : Unit) => [])) := by
  refine enterS (args := [v1]) [] hF (Given.nil _ _) Tryd.func42 rfl Tryd.ntmps42 rfl h ?_
  clear h hF
  refine c_seq ?_
  refine c_region ?_
  refine o_as st rfl rfl ?_
  refine c_nil ?_
  refine l_then ?_
  refine c_seq ?_
  refine c_seq ?_
  refine c_region ?_
  refine o_mv st rfl rfl ?_
  refine o_len st el26 0 rfl (reads_snap hv1) rfl rfl ?_
  refine o_eql st und3 rfl rfl rfl ?_
  refine c_nil ?_
  refine l_then ?_
  refine c_cond rfl ?_ ?_
  · refine c_seq ?_
    refine c_region ?_
    refine o_as st rfl rfl ?_
    refine c_nil ?_
    refine l_then ?_
    refine c_ret ?_
    refine l_ret ?_
    exact l_end1 Tryd.results42 true () (rv_t rfl) (fun _ _ => NewCh.nil _ _ _ _)
  · refine c_skip ?_
    refine l_then ?_
    refine c_seq ?_
    refine c_region ?_
    refine stw (o_bsl (enc := encStr) (qs := []) (cells := []) ([] : (List ByteArray)) flelStr (by intro ρ h; simp only [List.map_toArray, List.map_cons, List.map_nil]) rfl el26 zero9 rfl rfl rfl rfl rfl rfl ?_); intro v3
    refine o_mv st rfl rfl ?_
    refine stw (o_app 0 1 rfl rfl (src_flat flelStr (reads_snap hv1)) rfl rfl rfl el26 rfl zero9 rfl rfl ?_); intro v5
    refine o_as st rfl rfl ?_
    refine c_nil ?_
    refine l_then ?_
    refine c_seq ?_
    refine c_region ?_
    refine o_as st rfl rfl ?_
    refine c_nil ?_
    refine l_then ?_
    refine c_seq ?_
    refine c_region ?_
    refine o_as st rfl rfl ?_
    refine c_nil ?_
    refine l_then ?_
    refine c_seq ?_
    refine c_seq ?_
    refine c_region ?_
    refine o_as st rfl rfl ?_
    refine c_nil ?_
    refine l_then ?_
    refine c_block ?_
    refine c_loop (σ := (Int × Int × Int)) (fun ((t7, t8, t9) : (Int × Int × Int)) (a : Act) (w : World) => Has 70 [(0, v1), (3, v5), (4, (.int .i64 t7)), (5, (.int .i64 t8)), (6, (.int .i64 t9))] a ∧ Mem (gB F [] w0) (feet []) w0 [ownCh elStr 9 v5 (([]) ++ lines_0), snapCh w0 F] w) (fun a w hE hm => ⟨hE.sub ⟨rfl, rfl, rfl, rfl, rfl, trivial⟩, (hm.pick [0, 1] rfl)⟩) ?_
    rintro nx10 ⟨t7, t8, t9⟩ a w ⟨hE, hm⟩ h
    refine nx_of hE hm h ?_
    clear hE hm h
    refine c_seq ?_
    refine c_seq ?_
    refine c_region ?_
    refine o_mv st rfl rfl ?_
    refine o_mv st rfl rfl ?_
    refine o_len st el26 1 rfl (reads_snap hv1) rfl rfl ?_
    refine o_lss st rfl rfl rfl ?_
    refine c_nil ?_
    refine l_then ?_
    refine c_cond rfl ?_ ?_
    · refine c_skip ?_
      refine l_then ?_
      refine c_join (σ := (Int × Int)) (fun ((t150, t151) : (Int × Int)) (a : Act) (w : World) => Has 70 [(0, v1), (3, v5), (4, (.int .i64 t150)), (5, (.int .i64 t151)), (6, (.int .i64 t9))] a ∧ Mem (gB F [] w0) (feet []) w0 [ownCh elStr 9 v5 (([]) ++ lines_0), snapCh w0 F] w) ?_ ?_
      · intro k152
        refine c_block ?_
        refine c_seq ?_
        refine c_draw mixed 8 rfl [ownCh elStr 9 v5 (([]) ++ lines_0), snapCh w0 F] ?_
        refine o_mv (dt 0 (fun _ m => m)) rfl rfl ?_
        refine o_mv (dt 1 (fun _ m => m)) rfl rfl ?_
        refine o_idx (dt 2 (fun _ m => m)) 1 rfl (reads_snap hv1) rfl rfl rfl el26 ?_; intro e11 h12
        refine o_lds (dt 3 (fun _ m => m)) (enc := encStr) (u := (.string e11)) 1 rfl (reads_snap hv1) flelStr rfl h12 rfl rfl ty9 rfl ?_
        refine o_mv (dt 4 (fun _ m => m)) rfl rfl ?_
        refine d_one (i := 5) rfl (by kernel_rfl) (o_callP (vs := [(.int .i64 t7)]) Tryd.call34 rfl rfl (by intro w m h; exact (w_spec_l3Number (F := allB [] w) (n_0 := t7) allB_ok h).mono (fun _ _ k => ret_free (fun r u => fr_nil) k)) ?_); rintro r13 _
        refine d_and (fun _ m => m) ?_
        refine o_cat (dt 6 (fun _ m => m)) rfl rfl rfl ?_; intro s14
        refine o_eqlS (dt 7 (fun _ m => m)) und9 rfl rfl rfl ?_
        refine d_done (by kernel_rfl) ?_
        refine l_then ?_
        refine c_cond rfl ?_ ?_
        · refine c_region ?_
          refine o_mv st rfl rfl ?_
          refine o_add st rfl rfl rfl ?_; intro t15
          refine o_as st rfl rfl ?_
          refine c_nil ?_
          refine b_norm ?_
          exact l_join (t15, t8) (fun a w hE hm => ⟨hE.sub ⟨rfl, rfl, rfl, rfl, rfl, trivial⟩, (hm.pick [0, 1] rfl)⟩)
        · refine c_seq ?_
          refine c_region ?_
          refine o_mv st rfl rfl ?_
          refine o_mv st rfl rfl ?_
          refine o_idx st 1 rfl (reads_snap hv1) rfl rfl rfl el26 ?_; intro e16 h17
          refine o_lds st (enc := encStr) (u := (.string e16)) 1 rfl (reads_snap hv1) flelStr rfl h17 rfl rfl ty9 rfl ?_
          refine stw (o_callP (vs := [(.string e16)]) Tryd.call51 rfl rfl (by intro w m h; exact (w_spec_ReadRule (F := allB [] w) (s_0 := e16) allB_ok h).mono (fun _ _ k => ret_free (fun r u => (fr_cons (free_own flelGTest) fr_nil)) k)) ?_); rintro ⟨r18, r21⟩ v19
          refine o_mv st rfl rfl ?_
          refine o_ext st (vs := [(.agg #[v19, (.int .i64 r18.xAction), (.int .i64 r18.xChain)]), (.bool r21)]) rfl rfl rfl ?_
          refine o_ext st (vs := [(.agg #[v19, (.int .i64 r18.xAction), (.int .i64 r18.xChain)]), (.bool r21)]) rfl rfl rfl ?_
          refine stw (o_alloc rfl [(.slice none 0 0), (.int .i64 0), (.int .i64 0)] zero54 ?_); intro b22
          refine nx_own 1 rfl ?_; rintro a24 l25 q26 rfl
          refine stw (o_stc (cs' := [(.slice a24 l25 q26), (.int .i64 r18.xAction), (.int .i64 r18.xChain)]) 0 rfl rfl rfl ty54 rfl rfl rfl rfl ?_)
          refine o_as st rfl rfl ?_
          refine c_nil ?_
          refine l_then ?_
          refine c_join (σ := Bool) (fun (t87 : Bool) (a : Act) (w : World) => Has 70 [(0, v1), (3, v5), (4, (.int .i64 t7)), (5, (.int .i64 t8)), (6, (.int .i64 t9)), (7, (.pointer (some ⟨b22, 0, none⟩))), (46, (.bool t87))] a ∧ Mem (gB F [] w0) (feet []) w0 [cellCh b22 [(.slice a24 l25 q26), (.int .i64 r18.xAction), (.int .i64 r18.xChain)] 54, ownCh elGTest 84 (.slice a24 l25 q26) r18.xTests, ownCh elStr 9 v5 (([]) ++ lines_0), snapCh w0 F] w) ?_ ?_
          · intro k88
            refine c_region ?_
            refine o_mv st rfl rfl ?_
            refine o_mv st rfl rfl ?_
            refine st_sp (dj := 42) rfl ?_ ?_
            · refine o_fad (st_g rfl rfl) rfl rfl fld54_1 rfl ?_
              refine o_ldc (st_g rfl rfl) (v := (.int .i64 r18.xAction)) 0 rfl rfl rfl ty3 rfl ?_
              refine o_eql (st_g rfl rfl) und3 rfl rfl rfl ?_
              refine o_pickT st rfl rfl rfl ?_
              refine c_nil ?_
              exact l_join (decide (r18.xAction = 3)) (fun a w hE hm => ⟨hE.sub ⟨rfl, rfl, rfl, rfl, rfl, rfl, rfl, trivial⟩, (hm.pick [0, 1, 2, 3] rfl)⟩)
            · refine st_s rfl rfl rfl rfl ?_
              refine st_s rfl rfl rfl rfl ?_
              refine st_s rfl rfl rfl rfl ?_
              refine o_pickF st rfl rfl rfl ?_
              refine c_nil ?_
              exact l_join false (fun a w hE hm => ⟨hE.sub ⟨rfl, rfl, rfl, rfl, rfl, rfl, rfl, trivial⟩, (hm.pick [0, 1, 2, 3] rfl)⟩)
          · rintro t87 a w ⟨hE, hm⟩ h
            refine nx_of hE hm h ?_
            clear hE hm h
            refine c_cond rfl ?_ ?_
            · refine c_region ?_
              refine o_mv st rfl rfl ?_
              refine o_fad st rfl rfl fld54_2 rfl ?_
              refine o_ldc st (v := (.int .i64 r18.xChain)) 0 rfl rfl rfl ty3 rfl ?_
              refine o_add st rfl rfl rfl ?_; intro t89
              refine o_max st rfl rfl rfl ?_
              refine o_as st rfl rfl ?_
              refine c_nil ?_
              refine b_norm ?_
              exact l_join (t7, (max t8 t89)) (fun a w hE hm => ⟨hE.sub ⟨rfl, rfl, rfl, rfl, rfl, trivial⟩, (hm.pick [2, 3] rfl)⟩)
            · refine c_skip ?_
              refine b_norm ?_
              exact l_join (t7, t8) (fun a w hE hm => ⟨hE.sub ⟨rfl, rfl, rfl, rfl, rfl, trivial⟩, (hm.pick [2, 3] rfl)⟩)
      · rintro ⟨t150, t151⟩ a w ⟨hE, hm⟩ h
        refine nx_of hE hm h ?_
        clear hE hm h
        refine c_region ?_
        refine o_mv st rfl rfl ?_
        refine o_add st rfl rfl rfl ?_; intro t153
        refine o_as st rfl rfl ?_
        refine c_nil ?_
        exact l_join (t150, t151, t153) (fun a w hE hm => ⟨hE.sub ⟨rfl, rfl, rfl, rfl, rfl, trivial⟩, (hm.pick [0, 1] rfl)⟩)
    · refine c_exit ?_
      refine l_exit ?_
      refine l_exit ?_
      refine b_exit ?_
      refine l_then ?_
      refine c_seq ?_
      refine c_block ?_
      refine c_loop (σ := ((List ByteArray) × Int)) (fun ((xs155, t158) : ((List ByteArray) × Int)) (a : Act) (w : World) => ∃ (v154 : Value), Has 70 [(3, v154), (4, (.int .i64 t158)), (5, (.int .i64 t8))] a ∧ Mem (gB F [] w0) (feet []) w0 [ownCh elStr 9 v154 xs155] w) (fun a w hE hm => ⟨v5, hE.sub ⟨rfl, rfl, rfl, trivial⟩, (hm.pick [0] rfl)⟩) ?_
      rintro nx159 ⟨xs155, t158⟩ a w ⟨v154, hE, hm⟩ h
      refine nx_of hE hm h ?_
      clear hE hm h
      refine c_seq ?_
      refine c_seq ?_
      refine c_region ?_
      refine o_mv st rfl rfl ?_
      refine o_mv st rfl rfl ?_
      refine o_max st rfl rfl rfl ?_
      refine o_lss st rfl rfl rfl ?_
      refine c_nil ?_
      refine l_then ?_
      refine c_cond rfl ?_ ?_
      · refine c_skip ?_
        refine l_then ?_
        refine c_block ?_
        refine c_seq ?_
        refine c_region ?_
        refine o_mv st rfl rfl ?_
        refine o_mv st rfl rfl ?_
        refine stw (o_callP (vs := [(.int .i64 t158)]) Tryd.call34 rfl rfl (by intro w m h; exact (w_spec_l3Number (F := allB [] w) (n_0 := t158) allB_ok h).mono (fun _ _ k => ret_free (fun r u => fr_nil) k)) ?_); rintro r160 _
        refine o_cat st rfl rfl rfl ?_; intro s161
        refine stw (o_bsl (enc := encStr) (qs := [(0, (.string s161))]) (cells := [(.string s161)]) ([s161]) flelStr (by intro ρ h; simp only [List.map_toArray, List.map_cons, List.map_nil, h (.tmp 59) _ rfl]) rfl el26 zero9 rfl rfl rfl rfl rfl rfl ?_); intro v162
        refine stw (o_app 1 0 rfl rfl (src_flat flelStr reads_own) rfl rfl rfl el26 rfl zero9 rfl rfl ?_); intro v164
        refine o_as st rfl rfl ?_
        refine c_nil ?_
        refine l_then ?_
        refine c_region ?_
        refine o_mv st rfl rfl ?_
        refine o_add st rfl rfl rfl ?_; intro t166
        refine o_as st rfl rfl ?_
        refine c_nil ?_
        refine b_norm ?_
        exact l_join ((xs155 ++ ([s161])), t166) (fun a w hE hm => ⟨v164, hE.sub ⟨rfl, rfl, rfl, trivial⟩, (hm.pick [1] rfl)⟩)
      · refine c_exit ?_
        refine l_exit ?_
        refine l_exit ?_
        refine b_exit ?_
        refine l_then ?_
        refine c_seq ?_
        refine c_region ?_
        refine o_mv st rfl rfl ?_
        refine stw (o_callP (vs := [v154]) Tryd.call28 rfl rfl (by intro w m h; exact (w_spec_ReadRuleset (F := allB [] w) (lines_0 := xs155) allB_ok (m.rd0 0 rfl reads_own) h).mono (fun _ _ k => ret_free (fun r u => (fr_cons free_dp fr_nil)) k)) ?_); rintro ⟨r167, r171⟩ ⟨v168, bb169⟩
        refine o_mv st rfl rfl ?_
        refine o_ext st (vs := [(.agg #[v168, (.bool r167.xAccept)]), (.bool r171)]) rfl rfl rfl ?_
        refine o_ext st (vs := [(.agg #[v168, (.bool r167.xAccept)]), (.bool r171)]) rfl rfl rfl ?_
        refine stw (o_alloc rfl [(.slice none 0 0), (.bool false)] zero30 ?_); intro b172
        refine nx_dp 1 rfl ?_; rintro a174 l175 q176 rfl
        refine stw (o_stc (cs' := [(.slice a174 l175 q176), (.bool r167.xAccept)]) 0 rfl rfl rfl ty30 rfl rfl rfl rfl ?_)
        refine o_as st rfl rfl ?_
        refine c_nil ?_
        refine l_then ?_
        refine c_seq ?_
        refine c_region ?_
        refine o_mv st rfl rfl ?_
        refine o_as st rfl rfl ?_
        refine c_nil ?_
        refine l_then ?_
        refine c_ret ?_
        exact l_end1 Tryd.results42 r171 () (rv_t rfl) (fun _ _ => NewCh.nil _ _ _ _)

set_option maxRecDepth 100000 in
set_option maxHeartbeats 8000000 in
theorem w_spec_FirstBad {w0 : World} {F : Nat → Prop} {v1 : Value} {lines_0 : (List ByteArray)} {κ : Int → Prop} (hF : ∀ b, F b → b < w0.heap.size ∧ ¬ feet [] b) (hv1 : Sl elStr F w0 v1 lines_0) (h : L_spec_FirstBad lines_0 κ) :
    Calls Tryd.prog 19 #[v1] w0 (Ret [] F w0 κ (fun (r : Int) (u : Unit) => (.int .i64 r)) (fun (r : Int) (u : Unit) => [])) := by
  refine enterS (args := [v1]) [] hF (Given.nil _ _) Tryd.func19 rfl Tryd.ntmps19 rfl h ?_
  clear h hF
  refine c_seq ?_
  refine c_region ?_
  refine o_as st rfl rfl ?_
  refine c_nil ?_
  refine l_then ?_
  refine c_seq ?_
  refine c_seq ?_
  refine c_region ?_
  refine o_mv st rfl rfl ?_
  refine stw (o_callP (vs := [v1]) Tryd.call28 rfl rfl (by intro w m h; exact (w_spec_ReadRuleset (F := allB [] w) (lines_0 := lines_0) allB_ok (m.rd0 0 rfl (reads_snap hv1)) h).mono (fun _ _ k => ret_free (fun r u => (fr_cons free_dp fr_nil)) k)) ?_); rintro ⟨r3, r7⟩ ⟨v4, bb5⟩
  refine o_mv st rfl rfl ?_
  refine o_ext st (vs := [(.agg #[v4, (.bool r3.xAccept)]), (.bool r7)]) rfl rfl rfl ?_
  refine o_ext st (vs := [(.agg #[v4, (.bool r3.xAccept)]), (.bool r7)]) rfl rfl rfl ?_
  refine stw (o_alloc rfl [(.slice none 0 0), (.bool false)] zero30 ?_); intro b8
  refine nx_dp 1 rfl ?_; rintro a10 l11 q12 rfl
  refine stw (o_stc (cs' := [(.slice a10 l11 q12), (.bool r3.xAccept)]) 0 rfl rfl rfl ty30 rfl rfl rfl rfl ?_)
  refine o_as st rfl rfl ?_
  refine c_nil ?_
  refine l_then ?_
  refine c_seq ?_
  refine c_region ?_
  refine o_mv st rfl rfl ?_
  refine c_nil ?_
  refine l_then ?_
  refine c_cond rfl ?_ ?_
  · refine c_seq ?_
    refine c_region ?_
    refine o_as st rfl rfl ?_
    refine c_nil ?_
    refine l_then ?_
    refine c_ret ?_
    refine l_ret ?_
    exact l_end1 Tryd.results19 (-1) () (rv_t rfl) (fun _ _ => NewCh.nil _ _ _ _)
  · refine c_skip ?_
    refine l_then ?_
    refine c_seq ?_
    refine c_seq ?_
    refine c_region ?_
    refine o_as st rfl rfl ?_
    refine c_nil ?_
    refine l_then ?_
    refine c_block ?_
    refine c_loop (σ := Int) (fun (t13 : Int) (a : Act) (w : World) => Has 27 [(0, v1), (5, (.int .i64 t13))] a ∧ Mem (gB F [] w0) (feet []) w0 [snapCh w0 F] w) (fun a w hE hm => ⟨hE.sub ⟨rfl, rfl, trivial⟩, (hm.pick [2] rfl)⟩) ?_
    rintro nx14 t13 a w ⟨hE, hm⟩ h
    refine nx_of hE hm h ?_
    clear hE hm h
    refine c_seq ?_
    refine c_seq ?_
    refine c_region ?_
    refine o_mv st rfl rfl ?_
    refine o_mv st rfl rfl ?_
    refine o_len st el26 0 rfl (reads_snap hv1) rfl rfl ?_
    refine o_lss st rfl rfl rfl ?_
    refine c_nil ?_
    refine l_then ?_
    refine c_cond rfl ?_ ?_
    · refine c_skip ?_
      refine l_then ?_
      refine c_seq ?_
      refine c_block ?_
      refine c_seq ?_
      refine c_region ?_
      refine o_mv st rfl rfl ?_
      refine o_mv st rfl rfl ?_
      refine o_add st rfl rfl rfl ?_; intro t15
      refine nx_note 0 rfl hv1 ?_
      refine stw (o_slc (I := 0) (J := t15) 0 rfl rfl rfl rfl rfl el26 rfl ?_); intro v16 xs17
      refine stw (o_callP (vs := [v16]) Tryd.call42 rfl rfl (by intro w m h; exact (w_spec_l23Begins (F := allB [] w) (lines_0 := xs17) allB_ok (m.rd0 0 rfl reads_ro) h).mono (fun _ _ k => ret_free (fun r u => fr_nil) k)) ?_); rintro r20 _
      refine o_not st rfl rfl ?_
      refine c_nil ?_
      refine l_then ?_
      refine c_cond rfl ?_ ?_
      · refine c_seq ?_
        refine c_region ?_
        refine o_mv st rfl rfl ?_
        refine o_as st rfl rfl ?_
        refine c_nil ?_
        refine l_then ?_
        refine c_ret ?_
        refine b_ret ?_
        refine l_ret ?_
        refine l_ret ?_
        refine b_ret ?_
        refine l_ret ?_
        exact l_end1 Tryd.results19 t13 () (rv_t rfl) (fun _ _ => NewCh.nil _ _ _ _)
      · refine c_skip ?_
        refine b_norm ?_
        refine l_then ?_
        refine c_region ?_
        refine o_mv st rfl rfl ?_
        refine o_add st rfl rfl rfl ?_; intro t21
        refine o_as st rfl rfl ?_
        refine c_nil ?_
        exact l_join t21 (fun a w hE hm => ⟨hE.sub ⟨rfl, rfl, trivial⟩, (hm.pick [2] rfl)⟩)
    · refine c_exit ?_
      refine l_exit ?_
      refine l_exit ?_
      refine b_exit ?_
      refine l_then ?_
      refine c_seq ?_
      refine c_region ?_
      refine o_mv st rfl rfl ?_
      refine o_len st el26 0 rfl (reads_snap hv1) rfl rfl ?_
      refine o_as st rfl rfl ?_
      refine c_nil ?_
      refine l_then ?_
      refine c_ret ?_
      exact l_end1 Tryd.results19 (lines_0.length : Int) () (rv_t rfl) (fun _ _ => NewCh.nil _ _ _ _)

set_option maxRecDepth 100000 in
set_option maxHeartbeats 8000000 in
theorem w_laws_toStringS {w0 : World} {F : Nat → Prop} {v1 : Value} {a_0 : (List ByteArray)} {κ : (List ByteArray) → Prop} (hF : ∀ b, F b → b < w0.heap.size ∧ ¬ feet [] b) (hv1 : Sl elStr F w0 v1 a_0) (h : L_laws_toStringS a_0 κ) :
    Calls Tryd.prog 20 #[v1] w0 (Ret [] F w0 κ (fun (r : (List ByteArray)) (u : Value) => u) (fun (r : (List ByteArray)) (u : Value) => [ownCh elStr 9 u r])) := by
  refine enterS (args := [v1]) [] hF (Given.nil _ _) Tryd.func20 rfl Tryd.ntmps20 rfl h ?_
  clear h hF
  refine c_seq ?_
  refine c_region ?_
  refine stw (o_asn elStr 9 rfl rfl ?_)
  refine c_nil ?_
  refine l_then ?_
  refine c_seq ?_
  refine c_region ?_
  refine o_mv st rfl rfl ?_
  refine o_len st el26 1 rfl (reads_snap hv1) rfl rfl ?_
  refine stw (o_make (z := (ByteArray.mk #[])) flelStr rfl rfl rfl el26 rfl zero9 rfl rfl ?_); intro v4 xs5
  refine o_as st rfl rfl ?_
  refine c_nil ?_
  refine l_then ?_
  refine c_seq ?_
  refine c_seq ?_
  refine c_region ?_
  refine o_as st rfl rfl ?_
  refine c_nil ?_
  refine l_then ?_
  refine c_block ?_
  refine c_loop (σ := ((List ByteArray) × Int)) (fun ((xs7, t9) : ((List ByteArray) × Int)) (a : Act) (w : World) => Has 22 [(0, v1), (3, v4), (4, (.int .i64 t9))] a ∧ Mem (gB F [] w0) (feet []) w0 [ownCh elStr 9 v4 xs7, snapCh w0 F] w) (fun a w hE hm => ⟨hE.sub ⟨rfl, rfl, rfl, trivial⟩, (hm.pick [0, 2] rfl)⟩) ?_
  rintro nx10 ⟨xs7, t9⟩ a w ⟨hE, hm⟩ h
  refine nx_of hE hm h ?_
  clear hE hm h
  refine c_seq ?_
  refine c_seq ?_
  refine c_region ?_
  refine o_mv st rfl rfl ?_
  refine o_mv st rfl rfl ?_
  refine o_len st el26 1 rfl (reads_snap hv1) rfl rfl ?_
  refine o_lss st rfl rfl rfl ?_
  refine c_nil ?_
  refine l_then ?_
  refine c_cond rfl ?_ ?_
  · refine c_skip ?_
    refine l_then ?_
    refine c_seq ?_
    refine c_block ?_
    refine c_region ?_
    refine o_mv st rfl rfl ?_
    refine o_mv st rfl rfl ?_
    refine o_mv st rfl rfl ?_
    refine o_mv st rfl rfl ?_
    refine o_idx st 1 rfl (reads_snap hv1) rfl rfl rfl el26 ?_; intro e11 h12
    refine o_lds st (enc := encStr) (u := (.string e11)) 1 rfl (reads_snap hv1) flelStr rfl h12 rfl rfl ty9 rfl ?_
    refine o_idx st 0 rfl reads_own rfl rfl rfl el26 ?_; intro e13 h14
    refine stw (o_sts (enc := encStr) (y' := e11) 0 rfl flelStr rfl h14 ty9 rfl rfl rfl rfl rfl rfl ?_)
    refine c_nil ?_
    refine b_norm ?_
    refine l_then ?_
    refine c_region ?_
    refine o_mv st rfl rfl ?_
    refine o_add st rfl rfl rfl ?_; intro t16
    refine o_as st rfl rfl ?_
    refine c_nil ?_
    exact l_join ((xs7.set (t9).toNat e11), t16) (fun a w hE hm => ⟨hE.sub ⟨rfl, rfl, rfl, trivial⟩, (hm.pick [0, 1] rfl)⟩)
  · refine c_exit ?_
    refine l_exit ?_
    refine l_exit ?_
    refine b_exit ?_
    refine l_then ?_
    refine c_seq ?_
    refine c_region ?_
    refine o_mv st rfl rfl ?_
    refine o_as st rfl rfl ?_
    refine c_nil ?_
    refine l_then ?_
    refine c_ret ?_
    exact l_end1 Tryd.results20 xs7 v4 (rv_t rfl) (fun w m => NewCh.ofB m [0] rfl)

set_option maxRecDepth 100000 in
set_option maxHeartbeats 8000000 in
theorem w_impl_reader_takeChain {w0 : World} {F : Nat → Prop} {b1 : Nat} {v2 : Value} {bb3 : List Nat} {in_0_state : Int} {in_0_set_Chains : (List (List GRule))} {in_0_set_Accept : Bool} {line_1 : ByteArray} {κ : (Bool × (List (List GRule))) → Prop} (hF : ∀ b, F b → b < w0.heap.size ∧ ¬ feet [cellCh b1 [(.int .i64 in_0_state), v2, (.bool in_0_set_Accept)] 60, dpCh (dSl dGRule 54) 50 bb3 v2 in_0_set_Chains] b) (hg : Given [cellCh b1 [(.int .i64 in_0_state), v2, (.bool in_0_set_Accept)] 60, dpCh (dSl dGRule 54) 50 bb3 v2 in_0_set_Chains] F w0) (hgl1 : Tb F w0) (h : L_impl_reader_takeChain in_0_state in_0_set_Chains in_0_set_Accept line_1 κ) :
    Calls Tryd.prog 66 #[(.pointer (some ⟨b1, 0, none⟩)), (.string line_1)] w0 (Ret [cellCh b1 [(.int .i64 in_0_state), v2, (.bool in_0_set_Accept)] 60, dpCh (dSl dGRule 54) 50 bb3 v2 in_0_set_Chains] F w0 κ (fun (r : (Bool × (List (List GRule)))) (u : Value × List Nat) => (.bool r.1)) (fun (r : (Bool × (List (List GRule)))) (u : Value × List Nat) => [cellCh b1 [(.int .i64 in_0_state), u.1, (.bool in_0_set_Accept)] 60, dpCh (dSl dGRule 54) 50 u.2 u.1 r.2])) := by
  refine enterS (args := [(.pointer (some ⟨b1, 0, none⟩)), (.string line_1)]) [cellCh b1 [(.int .i64 in_0_state), v2, (.bool in_0_set_Accept)] 60, dpCh (dSl dGRule 54) 50 bb3 v2 in_0_set_Chains] hF hg Tryd.func66 rfl Tryd.ntmps66 rfl h ?_
  clear h hF hg
  refine c_seq ?_
  refine c_region ?_
  refine o_as st rfl rfl ?_
  refine c_nil ?_
  refine l_then ?_
  refine c_seq ?_
  refine c_region ?_
  refine o_mv st rfl rfl ?_
  refine o_nilc st rfl rfl ?_
  refine o_fad st rfl rfl fld60_1 rfl ?_
  refine o_fad st rfl rfl fld30_0 rfl ?_
  refine o_ldc st (v := v2) 0 rfl rfl rfl ty28 rfl ?_
  refine o_len st el28 1 rfl reads_dp rfl rfl ?_
  refine o_as st rfl rfl ?_
  refine c_nil ?_
  refine l_then ?_
  refine c_seq ?_
  refine c_join (σ := Bool) (fun (t67 : Bool) (a : Act) (w : World) => Has 31 [(0, (.pointer (some ⟨b1, 0, none⟩))), (19, (.bool t67))] a ∧ Mem (gB F [cellCh b1 [(.int .i64 in_0_state), v2, (.bool in_0_set_Accept)] 60, dpCh (dSl dGRule 54) 50 bb3 v2 in_0_set_Chains] w0) (feet [cellCh b1 [(.int .i64 in_0_state), v2, (.bool in_0_set_Accept)] 60, dpCh (dSl dGRule 54) 50 bb3 v2 in_0_set_Chains]) w0 [cellCh b1 [(.int .i64 in_0_state), v2, (.bool in_0_set_Accept)] 60, dpCh (dSl dGRule 54) 50 bb3 v2 in_0_set_Chains, snapCh w0 F] w) ?_ ?_
  · intro k68
    refine c_region ?_
    refine o_mv st rfl rfl ?_
    refine o_eql st und3 rfl rfl rfl ?_
    refine o_mv st rfl rfl ?_
    refine st_sp (dj := 14) rfl ?_ ?_
    · refine st_s rfl rfl rfl rfl ?_
      refine st_s rfl rfl rfl rfl ?_
      refine st_s rfl rfl rfl rfl ?_
      refine st_s rfl rfl rfl rfl ?_
      refine o_pickT st rfl rfl rfl ?_
      refine c_nil ?_
      exact l_join true (fun a w hE hm => ⟨hE.sub ⟨rfl, rfl, trivial⟩, (hm.pick [0, 1, 2] rfl)⟩)
    · refine o_mv (st_g rfl rfl) rfl rfl ?_
      refine o_mv (st_g rfl rfl) rfl rfl ?_
      refine st_gw rfl rfl (o_callP (vs := [(.int .i64 (in_0_set_Chains.length : Int))]) Tryd.call37 rfl rfl (by intro w m h; exact (w_impl_chainLine (F := allB [] w) (number_0 := (in_0_set_Chains.length : Int)) allB_ok ((hgl1.of (m.get (i := 2) rfl)).mono fz_ok0) h).mono (fun _ _ k => ret_free (fun r u => fr_nil) k)) ?_); rintro r6 _
      refine o_neqS (st_g rfl rfl) und9 rfl rfl rfl ?_
      refine o_pickF st rfl rfl rfl ?_
      refine c_nil ?_
      exact l_join (!(decide (line_1 = r6))) (fun a w hE hm => ⟨hE.sub ⟨rfl, rfl, trivial⟩, (hm.pick [0, 1, 2] rfl)⟩)
  · rintro t67 a w ⟨hE, hm⟩ h
    refine nx_of hE hm h ?_
    clear hE hm h
    refine c_cond rfl ?_ ?_
    · refine c_seq ?_
      refine c_region ?_
      refine o_as st rfl rfl ?_
      refine c_nil ?_
      refine l_then ?_
      refine c_ret ?_
      refine l_ret ?_
      exact l_end1 Tryd.results66 (false, in_0_set_Chains) (v2, bb3) (rv_t rfl) (fun w m => NewCh.ofB m [0, 1] rfl)
    · refine c_skip ?_
      refine l_then ?_
      refine c_seq ?_
      refine c_region ?_
      refine o_mv st rfl rfl ?_
      refine o_mv st rfl rfl ?_
      refine o_nilc st rfl rfl ?_
      refine o_fad st rfl rfl fld60_1 rfl ?_
      refine o_fad st rfl rfl fld30_0 rfl ?_
      refine o_ldc st (v := v2) 0 rfl rfl rfl ty28 rfl ?_
      refine stw (o_bslD (M := []) (E' := (dSl dGRule 54)) (qs := [(0, (.slice none 0 0))]) (cs := [(.slice none 0 0)]) ([]) (absorb_nil (fun w => ⟨_, rfl, Dp.nil⟩)) (by intro ρ h; simp only [List.map_toArray, List.map_cons, List.map_nil, h (.const (.slice none 0 0)) _ rfl]) rfl el28 zero50 rfl rfl rfl rfl ?_); intro bb70 v69
      refine pk [2, 0, 1, 3] rfl ?_
      refine stw (o_appD rfl rfl rfl el28 rfl zero50 rfl rfl ?_); intro bb73 v72
      refine o_nilc st rfl rfl ?_
      refine o_fad st rfl rfl fld60_1 rfl ?_
      refine o_fad st rfl rfl fld30_0 rfl ?_
      refine nx_dp 0 rfl ?_; rintro a75 l76 q77 rfl
      refine stw (o_stc (cs' := [(.int .i64 in_0_state), (.slice a75 l76 q77), (.bool in_0_set_Accept)]) 1 rfl rfl rfl ty28 rfl rfl rfl rfl ?_)
      refine c_nil ?_
      refine l_then ?_
      refine c_seq ?_
      refine c_region ?_
      refine o_as st rfl rfl ?_
      refine c_nil ?_
      refine l_then ?_
      refine c_ret ?_
      exact l_end1 Tryd.results66 (true, (in_0_set_Chains ++ ([[]]))) ((.slice a75 l76 q77), bb73) (rv_t rfl) (fun w m => NewCh.ofB m [1, 0] rfl)

set_option maxRecDepth 100000 in
set_option maxHeartbeats 8000000 in
theorem w_impl_scanner_word {w0 : World} {F : Nat → Prop} {b1 : Nat} {in_0_text : ByteArray} {in_0_at : Int} {w_1 : ByteArray} {κ : (Bool × Int) → Prop} (hF : ∀ b, F b → b < w0.heap.size ∧ ¬ feet [cellCh b1 [(.string in_0_text), (.int .i64 in_0_at)] 133] b) (hg : Given [cellCh b1 [(.string in_0_text), (.int .i64 in_0_at)] 133] F w0) (h : L_impl_scanner_word in_0_text in_0_at w_1 κ) :
    Calls Tryd.prog 96 #[(.pointer (some ⟨b1, 0, none⟩)), (.string w_1)] w0 (Ret [cellCh b1 [(.string in_0_text), (.int .i64 in_0_at)] 133] F w0 κ (fun (r : (Bool × Int)) (u : Unit) => (.bool r.1)) (fun (r : (Bool × Int)) (u : Unit) => [cellCh b1 [(.string in_0_text), (.int .i64 r.2)] 133])) := by
  refine enter0 (args := [(.pointer (some ⟨b1, 0, none⟩)), (.string w_1)]) [cellCh b1 [(.string in_0_text), (.int .i64 in_0_at)] 133] hF hg Tryd.func96 rfl Tryd.ntmps96 rfl h ?_
  clear h hF hg
  refine c_seq ?_
  refine c_region ?_
  refine o_as st rfl rfl ?_
  refine c_nil ?_
  refine l_then ?_
  refine c_seq ?_
  refine c_seq ?_
  refine c_join1 (σ := Bool) (fun (t3 : Bool) (a : Act) (w : World) => Has 26 [(0, (.pointer (some ⟨b1, 0, none⟩))), (1, (.string w_1)), (16, (.bool t3))] a ∧ Mem (gB F [cellCh b1 [(.string in_0_text), (.int .i64 in_0_at)] 133] w0) (feet [cellCh b1 [(.string in_0_text), (.int .i64 in_0_at)] 133]) w0 [cellCh b1 [(.string in_0_text), (.int .i64 in_0_at)] 133] w) ?_ ?_
  · intro k4
    refine c_drawQ mixed 12 rfl [cellCh b1 [(.string in_0_text), (.int .i64 in_0_at)] 133] ?_
    intro Qd hP hQ
    have H255 : ∀ (s5 : ByteArray) (r6 : Bool), Nx 26 (gB F [cellCh b1 [(.string in_0_text), (.int .i64 in_0_at)] 133] w0) (feet [cellCh b1 [(.string in_0_text), (.int .i64 in_0_at)] 133]) w0 (wpAnyH Tryd.prog .any (opsAt Tryd.f96 [1, 0, 0]) Qd (Mem (gB F [cellCh b1 [(.string in_0_text), (.int .i64 in_0_at)] 133] w0) (feet [cellCh b1 [(.string in_0_text), (.int .i64 in_0_at)] 133]) w0 [cellCh b1 [(.string in_0_text), (.int .i64 in_0_at)] 133]) 1 #[true, true, true, true, true, true, true, true, true, true, true, false]) [(0, (.pointer (some ⟨b1, 0, none⟩))), (1, (.string w_1)), (15, (.bool r6))] [cellCh b1 [(.string in_0_text), (.int .i64 in_0_at)] 133] (k4 (!r6)) := by
      intro s5 r6
      refine o_not (dt 11 (fun _ m => m)) rfl rfl ?_
      refine d_done (by kernel_rfl) ?_
      exact fun a w hE hm hφ => hQ (!r6) a w hφ ((fun a w hE hm => ⟨hE.sub ⟨rfl, rfl, rfl, trivial⟩, (hm.pick [0] rfl)⟩) a w hE hm)
    refine o_mv (dt 0 (fun _ m => m)) rfl rfl ?_
    refine o_nilc (dt 1 (fun _ m => m)) rfl rfl ?_
    refine o_fad (dt 2 (fun _ m => m)) rfl rfl fld133_0 rfl ?_
    refine o_ldc (dt 3 (fun _ m => m)) (v := (.string in_0_text)) 0 rfl rfl rfl ty9 rfl ?_
    refine o_mv (dt 4 (fun _ m => m)) rfl rfl ?_
    refine o_nilc (dt 5 (fun _ m => m)) rfl rfl ?_
    refine o_fad (dt 6 (fun _ m => m)) rfl rfl fld133_1 rfl ?_
    refine o_ldc (dt 7 (fun _ m => m)) (v := (.int .i64 in_0_at)) 0 rfl rfl rfl ty3 rfl ?_
    refine o_sls (dt 8 (fun _ m => m)) und9 rfl rfl rfl rfl ?_; intro s5
    refine o_mv (dt 9 (fun _ m => m)) rfl rfl ?_
    refine d_one (i := 10) rfl (by kernel_rfl) (o_callP (vs := [(.string s5), (.string w_1)]) Tryd.call107 rfl rfl (by intro w m h; exact w_lib_HasPrefix (s_0 := s5) (p_1 := w_1) h) ?_); rintro r6 _
    refine d_and (fun _ m => m) ?_
    refine pk [0] rfl ?_
    refine re (E' := [(0, (.pointer (some ⟨b1, 0, none⟩))), (1, (.string w_1)), (15, (.bool r6))]) ⟨rfl, rfl, rfl, trivial⟩ ?_
    exact H255 s5 r6
  · rintro t3 a w ⟨hE, hm⟩ h
    refine nx_of hE hm h ?_
    clear hE hm h
    refine l_then ?_
    refine c_cond rfl ?_ ?_
    · refine c_seq ?_
      refine c_region ?_
      refine o_as st rfl rfl ?_
      refine c_nil ?_
      refine l_then ?_
      refine c_ret ?_
      refine l_ret ?_
      exact l_end1 Tryd.results96 (false, in_0_at) () (rv_t rfl) (fun w m => NewCh.ofB m [0] rfl)
    · refine c_skip ?_
      refine l_then ?_
      refine c_seq ?_
      refine c_region ?_
      refine o_mv st rfl rfl ?_
      refine o_nilc st rfl rfl ?_
      refine o_fad st rfl rfl fld133_1 rfl ?_
      refine o_ldc st (v := (.int .i64 in_0_at)) 0 rfl rfl rfl ty3 rfl ?_
      refine o_mv st rfl rfl ?_
      refine o_lenS st und9 rfl rfl ?_
      refine o_add st rfl rfl rfl ?_; intro t7
      refine o_nilc st rfl rfl ?_
      refine o_fad st rfl rfl fld133_1 rfl ?_
      refine stw (o_stc (cs' := [(.string in_0_text), (.int .i64 t7)]) 0 rfl rfl rfl ty3 rfl rfl rfl rfl ?_)
      refine c_nil ?_
      refine l_then ?_
      refine c_seq ?_
      refine c_region ?_
      refine o_as st rfl rfl ?_
      refine c_nil ?_
      refine l_then ?_
      refine c_ret ?_
      exact l_end1 Tryd.results96 (true, t7) () (rv_t rfl) (fun w m => NewCh.ofB m [0] rfl)

set_option maxRecDepth 100000 in
set_option maxHeartbeats 8000000 in
theorem w_impl_scanner_done {w0 : World} {F : Nat → Prop} {b1 : Nat} {in_0_text : ByteArray} {in_0_at : Int} {κ : Bool → Prop} (hF : ∀ b, F b → b < w0.heap.size ∧ ¬ feet [cellCh b1 [(.string in_0_text), (.int .i64 in_0_at)] 133] b) (hg : Given [cellCh b1 [(.string in_0_text), (.int .i64 in_0_at)] 133] F w0) (h : L_impl_scanner_done in_0_text in_0_at κ) :
    Calls Tryd.prog 95 #[(.pointer (some ⟨b1, 0, none⟩))] w0 (Ret [cellCh b1 [(.string in_0_text), (.int .i64 in_0_at)] 133] F w0 κ (fun (r : Bool) (u : Unit) => (.bool r)) (fun (r : Bool) (u : Unit) => [cellCh b1 [(.string in_0_text), (.int .i64 in_0_at)] 133])) := by
  refine enter0 (args := [(.pointer (some ⟨b1, 0, none⟩))]) [cellCh b1 [(.string in_0_text), (.int .i64 in_0_at)] 133] hF hg Tryd.func95 rfl Tryd.ntmps95 rfl h ?_
  clear h hF hg
  refine c_seq ?_
  refine c_region ?_
  refine o_as st rfl rfl ?_
  refine c_nil ?_
  refine l_then ?_
  refine c_seq ?_
  refine c_draw mixed 11 rfl [cellCh b1 [(.string in_0_text), (.int .i64 in_0_at)] 133] ?_
  refine o_mv (dt 0 (fun _ m => m)) rfl rfl ?_
  refine o_nilc (dt 1 (fun _ m => m)) rfl rfl ?_
  refine o_fad (dt 2 (fun _ m => m)) rfl rfl fld133_1 rfl ?_
  refine o_ldc (dt 3 (fun _ m => m)) (v := (.int .i64 in_0_at)) 0 rfl rfl rfl ty3 rfl ?_
  refine o_mv (dt 4 (fun _ m => m)) rfl rfl ?_
  refine o_nilc (dt 5 (fun _ m => m)) rfl rfl ?_
  refine o_fad (dt 6 (fun _ m => m)) rfl rfl fld133_0 rfl ?_
  refine o_ldc (dt 7 (fun _ m => m)) (v := (.string in_0_text)) 0 rfl rfl rfl ty9 rfl ?_
  refine o_lenS (dt 8 (fun _ m => m)) und9 rfl rfl ?_
  refine o_eql (dt 9 (fun _ m => m)) und3 rfl rfl rfl ?_
  refine o_as (dt 10 (fun _ m => m)) rfl rfl ?_
  refine d_done (by kernel_rfl) ?_
  refine l_then ?_
  refine c_ret ?_
  exact l_end1 Tryd.results95 (decide (in_0_at = (in_0_text.size : Int))) () (rv_t rfl) (fun w m => NewCh.ofB m [0] rfl)

set_option maxRecDepth 100000 in
set_option maxHeartbeats 8000000 in
theorem w_impl_scanner_number {w0 : World} {F : Nat → Prop} {b1 : Nat} {in_0_text : ByteArray} {in_0_at : Int} {κ : (Int × Bool × Int) → Prop} (hF : ∀ b, F b → b < w0.heap.size ∧ ¬ feet [cellCh b1 [(.string in_0_text), (.int .i64 in_0_at)] 133] b) (hg : Given [cellCh b1 [(.string in_0_text), (.int .i64 in_0_at)] 133] F w0) (h : L_impl_scanner_number in_0_text in_0_at κ) :
    Calls Tryd.prog 106 #[(.pointer (some ⟨b1, 0, none⟩))] w0 (Ret [cellCh b1 [(.string in_0_text), (.int .i64 in_0_at)] 133] F w0 κ (fun (r : (Int × Bool × Int)) (u : Unit) => .tuple #[(.int .i64 r.1), (.bool r.2.1)]) (fun (r : (Int × Bool × Int)) (u : Unit) => [cellCh b1 [(.string in_0_text), (.int .i64 r.2.2)] 133])) := by
  refine enter0 (args := [(.pointer (some ⟨b1, 0, none⟩))]) [cellCh b1 [(.string in_0_text), (.int .i64 in_0_at)] 133] hF hg Tryd.func106 rfl Tryd.ntmps106 rfl h ?_
  clear h hF hg
  refine c_seq ?_
  refine c_region ?_
  refine o_as st rfl rfl ?_
  refine o_as st rfl rfl ?_
  refine c_nil ?_
  refine l_then ?_
  refine c_seq ?_
  refine c_region ?_
  refine o_mv st rfl rfl ?_
  refine o_nilc st rfl rfl ?_
  refine o_fad st rfl rfl fld133_1 rfl ?_
  refine o_ldc st (v := (.int .i64 in_0_at)) 0 rfl rfl rfl ty3 rfl ?_
  refine o_as st rfl rfl ?_
  refine c_nil ?_
  refine l_then ?_
  refine c_seq ?_
  refine c_region ?_
  refine o_as st rfl rfl ?_
  refine c_nil ?_
  refine l_then ?_
  refine c_join (σ := (Int × Int)) (fun ((t199, t200) : (Int × Int)) (a : Act) (w : World) => Has 58 [(0, (.pointer (some ⟨b1, 0, none⟩))), (4, (.int .i64 in_0_at)), (5, (.int .i64 t200))] a ∧ Mem (gB F [cellCh b1 [(.string in_0_text), (.int .i64 in_0_at)] 133] w0) (feet [cellCh b1 [(.string in_0_text), (.int .i64 in_0_at)] 133]) w0 [cellCh b1 [(.string in_0_text), (.int .i64 t199)] 133] w) ?_ ?_
  · intro k201
    refine c_block ?_
    refine c_loop (σ := (Int × Int)) (fun ((t3, t4) : (Int × Int)) (a : Act) (w : World) => Has 58 [(0, (.pointer (some ⟨b1, 0, none⟩))), (4, (.int .i64 in_0_at)), (5, (.int .i64 t4))] a ∧ Mem (gB F [cellCh b1 [(.string in_0_text), (.int .i64 in_0_at)] 133] w0) (feet [cellCh b1 [(.string in_0_text), (.int .i64 in_0_at)] 133]) w0 [cellCh b1 [(.string in_0_text), (.int .i64 t3)] 133] w) (fun a w hE hm => ⟨hE.sub ⟨rfl, rfl, rfl, trivial⟩, (hm.pick [0] rfl)⟩) ?_
    rintro nx5 ⟨t3, t4⟩ a w ⟨hE, hm⟩ h
    refine nx_of hE hm h ?_
    clear hE hm h
    refine c_seq ?_
    refine c_join (σ := Bool) (fun (t68 : Bool) (a : Act) (w : World) => Has 58 [(0, (.pointer (some ⟨b1, 0, none⟩))), (4, (.int .i64 in_0_at)), (5, (.int .i64 t4)), (22, (.bool t68))] a ∧ Mem (gB F [cellCh b1 [(.string in_0_text), (.int .i64 in_0_at)] 133] w0) (feet [cellCh b1 [(.string in_0_text), (.int .i64 in_0_at)] 133]) w0 [cellCh b1 [(.string in_0_text), (.int .i64 t3)] 133] w) ?_ ?_
    · intro k69
      refine c_region ?_
      refine o_mv st rfl rfl ?_
      refine stw (o_call (vs := [(.pointer (some ⟨b1, 0, none⟩))]) (M0 := [cellCh b1 [(.string in_0_text), (.int .i64 t3)] 133]) Tryd.call95 rfl rfl (by intro w m h; exact (w_impl_scanner_done (F := allB [cellCh b1 [(.string in_0_text), (.int .i64 t3)] 133] w) (in_0_text := in_0_text) (in_0_at := t3) allB_ok m.given h).mono (fun _ _ k => ret_free (fun r u => (fr_cons free_cell fr_nil)) k)) ?_); rintro r6 _
      refine o_not st rfl rfl ?_
      refine o_mv st rfl rfl ?_
      refine st_sp (dj := 14) rfl ?_ ?_
      · refine o_mv (st_g rfl rfl) rfl rfl ?_
        refine o_nilc (st_g rfl rfl) rfl rfl ?_
        refine o_fad (st_g rfl rfl) rfl rfl fld133_1 rfl ?_
        refine o_ldc (st_g rfl rfl) (v := (.int .i64 t3)) 0 rfl rfl rfl ty3 rfl ?_
        refine o_mv (st_g rfl rfl) rfl rfl ?_
        refine o_add (st_g rfl rfl) rfl rfl rfl ?_; intro t7
        refine o_lss (st_g rfl rfl) rfl rfl rfl ?_
        refine o_pickT st rfl rfl rfl ?_
        refine c_nil ?_
        exact l_join (decide (t3 < t7)) (fun a w hE hm => ⟨hE.sub ⟨rfl, rfl, rfl, rfl, trivial⟩, (hm.pick [0] rfl)⟩)
      · refine st_s rfl rfl rfl rfl ?_
        refine st_s rfl rfl rfl rfl ?_
        refine st_s rfl rfl rfl rfl ?_
        refine st_s rfl rfl rfl rfl ?_
        refine st_s rfl rfl rfl rfl ?_
        refine st_s rfl rfl rfl rfl ?_
        refine st_s rfl rfl rfl rfl ?_
        refine o_pickF st rfl rfl rfl ?_
        refine c_nil ?_
        exact l_join false (fun a w hE hm => ⟨hE.sub ⟨rfl, rfl, rfl, rfl, trivial⟩, (hm.pick [0] rfl)⟩)
    · rintro t68 a w ⟨hE, hm⟩ h
      refine nx_of hE hm h ?_
      clear hE hm h
      refine c_cond rfl ?_ ?_
      · refine c_skip ?_
        refine l_then ?_
        refine c_block ?_
        refine c_seq ?_
        refine c_join1 (σ := UInt8) (fun (t70 : UInt8) (a : Act) (w : World) => Has 58 [(0, (.pointer (some ⟨b1, 0, none⟩))), (4, (.int .i64 in_0_at)), (5, (.int .i64 t4)), (6, (.int .u8 (t70.toNat : Int)))] a ∧ Mem (gB F [cellCh b1 [(.string in_0_text), (.int .i64 in_0_at)] 133] w0) (feet [cellCh b1 [(.string in_0_text), (.int .i64 in_0_at)] 133]) w0 [cellCh b1 [(.string in_0_text), (.int .i64 t3)] 133] w) ?_ ?_
        · intro k71
          refine c_drawQ mixed 10 rfl [cellCh b1 [(.string in_0_text), (.int .i64 t3)] 133] ?_
          intro Qd hP hQ
          refine o_mv (dt 0 (fun _ m => m)) rfl rfl ?_
          refine o_nilc (dt 1 (fun _ m => m)) rfl rfl ?_
          refine o_fad (dt 2 (fun _ m => m)) rfl rfl fld133_0 rfl ?_
          refine o_ldc (dt 3 (fun _ m => m)) (v := (.string in_0_text)) 0 rfl rfl rfl ty9 rfl ?_
          refine o_mv (dt 4 (fun _ m => m)) rfl rfl ?_
          refine o_nilc (dt 5 (fun _ m => m)) rfl rfl ?_
          refine o_fad (dt 6 (fun _ m => m)) rfl rfl fld133_1 rfl ?_
          refine o_ldc (dt 7 (fun _ m => m)) (v := (.int .i64 t3)) 0 rfl rfl rfl ty3 rfl ?_
          refine o_ixs (dt 8 (fun _ m => m)) und9 rfl rfl rfl ?_; intro e72
          refine o_as (dt 9 (fun _ m => m)) rfl rfl ?_
          refine d_done (by kernel_rfl) ?_
          exact fun a w hE hm hφ => hQ e72 a w hφ ((fun a w hE hm => ⟨hE.sub ⟨rfl, rfl, rfl, rfl, trivial⟩, (hm.pick [0] rfl)⟩) a w hE hm)
        · rintro t70 a w ⟨hE, hm⟩ h
          refine nx_of hE hm h ?_
          clear hE hm h
          refine l_then ?_
          refine c_seq ?_
          refine c_join (σ := Bool) (fun (t133 : Bool) (a : Act) (w : World) => Has 58 [(0, (.pointer (some ⟨b1, 0, none⟩))), (4, (.int .i64 in_0_at)), (5, (.int .i64 t4)), (6, (.int .u8 (t70.toNat : Int))), (37, (.bool t133))] a ∧ Mem (gB F [cellCh b1 [(.string in_0_text), (.int .i64 in_0_at)] 133] w0) (feet [cellCh b1 [(.string in_0_text), (.int .i64 in_0_at)] 133]) w0 [cellCh b1 [(.string in_0_text), (.int .i64 t3)] 133] w) ?_ ?_
          · intro k134
            refine c_region ?_
            refine o_mv st rfl rfl ?_
            refine o_lss st rfl rfl rfl ?_
            refine o_mv st rfl rfl ?_
            refine st_sp (dj := 34) rfl ?_ ?_
            · refine st_s rfl rfl rfl rfl ?_
              refine st_s rfl rfl rfl rfl ?_
              refine o_pickT st rfl rfl rfl ?_
              refine c_nil ?_
              exact l_join true (fun a w hE hm => ⟨hE.sub ⟨rfl, rfl, rfl, rfl, rfl, trivial⟩, (hm.pick [0] rfl)⟩)
            · refine o_mv (st_g rfl rfl) rfl rfl ?_
              refine o_gtr (st_g rfl rfl) rfl rfl rfl ?_
              refine o_pickF st rfl rfl rfl ?_
              refine c_nil ?_
              exact l_join (decide (57 < (t70.toNat : Int))) (fun a w hE hm => ⟨hE.sub ⟨rfl, rfl, rfl, rfl, rfl, trivial⟩, (hm.pick [0] rfl)⟩)
          · rintro t133 a w ⟨hE, hm⟩ h
            refine nx_of hE hm h ?_
            clear hE hm h
            refine c_cond rfl ?_ ?_
            · refine c_exit ?_
              refine l_exit ?_
              refine b_pass rfl ?_
              refine l_exit ?_
              refine b_exit ?_
              exact l_join (t3, t4) (fun a w hE hm => ⟨hE.sub ⟨rfl, rfl, rfl, trivial⟩, (hm.pick [0] rfl)⟩)
            · refine c_skip ?_
              refine l_then ?_
              refine c_seq ?_
              refine c_region ?_
              refine o_mv st rfl rfl ?_
              refine o_mul st rfl rfl rfl ?_; intro t135
              refine o_mv st rfl rfl ?_
              refine o_sub8 st rfl rfl rfl ?_; intro t136
              refine o_cnvi st und5 und3 rfl rfl ?_
              refine o_add st rfl rfl rfl ?_; intro t137
              refine o_as st rfl rfl ?_
              refine c_nil ?_
              refine l_then ?_
              refine c_region ?_
              refine o_mv st rfl rfl ?_
              refine o_nilc st rfl rfl ?_
              refine o_fad st rfl rfl fld133_1 rfl ?_
              refine o_ldc st (v := (.int .i64 t3)) 0 rfl rfl rfl ty3 rfl ?_
              refine o_add st rfl rfl rfl ?_; intro t138
              refine o_nilc st rfl rfl ?_
              refine o_fad st rfl rfl fld133_1 rfl ?_
              refine stw (o_stc (cs' := [(.string in_0_text), (.int .i64 t138)]) 0 rfl rfl rfl ty3 rfl rfl rfl rfl ?_)
              refine c_nil ?_
              refine b_norm ?_
              exact l_join (t138, t137) (fun a w hE hm => ⟨hE.sub ⟨rfl, rfl, rfl, trivial⟩, (hm.pick [0] rfl)⟩)
      · refine c_exit ?_
        refine l_exit ?_
        refine l_exit ?_
        refine b_exit ?_
        exact l_join (t3, t4) (fun a w hE hm => ⟨hE.sub ⟨rfl, rfl, rfl, trivial⟩, (hm.pick [0] rfl)⟩)
  · rintro ⟨t199, t200⟩ a w ⟨hE, hm⟩ h
    refine nx_of hE hm h ?_
    clear hE hm h
    refine c_seq ?_
    refine c_draw mixed 9 rfl [cellCh b1 [(.string in_0_text), (.int .i64 t199)] 133] ?_
    refine o_mv (dt 0 (fun _ m => m)) rfl rfl ?_
    refine o_mv (dt 1 (fun _ m => m)) rfl rfl ?_
    refine o_nilc (dt 2 (fun _ m => m)) rfl rfl ?_
    refine o_fad (dt 3 (fun _ m => m)) rfl rfl fld133_1 rfl ?_
    refine o_ldc (dt 4 (fun _ m => m)) (v := (.int .i64 t199)) 0 rfl rfl rfl ty3 rfl ?_
    refine o_mv (dt 5 (fun _ m => m)) rfl rfl ?_
    refine o_gtr (dt 6 (fun _ m => m)) rfl rfl rfl ?_
    refine o_as (dt 7 (fun _ m => m)) rfl rfl ?_
    refine o_as (dt 8 (fun _ m => m)) rfl rfl ?_
    refine d_done (by kernel_rfl) ?_
    refine l_then ?_
    refine c_ret ?_
    exact l_end2 Tryd.results106 (t200, (decide (in_0_at < t199)), t199) () (rv_t rfl) (rv_t rfl) rfl (fun w m => NewCh.ofB m [0] rfl)

set_option maxRecDepth 100000 in
set_option maxHeartbeats 8000000 in
theorem w_impl_scanner_action {w0 : World} {F : Nat → Prop} {b1 : Nat} {in_0_text : ByteArray} {in_0_at : Int} {κ : (GRule × Bool × Int) → Prop} (hF : ∀ b, F b → b < w0.heap.size ∧ ¬ feet [cellCh b1 [(.string in_0_text), (.int .i64 in_0_at)] 133] b) (hg : Given [cellCh b1 [(.string in_0_text), (.int .i64 in_0_at)] 133] F w0) (h : L_impl_scanner_action in_0_text in_0_at κ) :
    Calls Tryd.prog 94 #[(.pointer (some ⟨b1, 0, none⟩))] w0 (Ret [cellCh b1 [(.string in_0_text), (.int .i64 in_0_at)] 133] F w0 κ (fun (r : (GRule × Bool × Int)) (u : Value) => .tuple #[(.agg #[u, (.int .i64 r.1.xAction), (.int .i64 r.1.xChain)]), (.bool r.2.1)]) (fun (r : (GRule × Bool × Int)) (u : Value) => [ownCh elGTest 84 u r.1.xTests, cellCh b1 [(.string in_0_text), (.int .i64 r.2.2)] 133])) := by
  refine enter0 (args := [(.pointer (some ⟨b1, 0, none⟩))]) [cellCh b1 [(.string in_0_text), (.int .i64 in_0_at)] 133] hF hg Tryd.func94 rfl Tryd.ntmps94 rfl h ?_
  clear h hF hg
  refine c_seq ?_
  refine c_region ?_
  refine stw (o_alloc rfl [(.slice none 0 0), (.int .i64 0), (.int .i64 0)] zero54 ?_); intro b3
  refine o_as st rfl rfl ?_
  refine c_nil ?_
  refine l_then ?_
  refine c_seq ?_
  refine c_seq ?_
  refine c_region ?_
  refine o_as st rfl rfl ?_
  refine c_nil ?_
  refine l_then ?_
  refine c_block ?_
  refine c_loop (σ := (Int × Int)) (fun ((t5, t6) : (Int × Int)) (a : Act) (w : World) => Has 36 [(0, (.pointer (some ⟨b1, 0, none⟩))), (2, (.pointer (some ⟨b3, 0, none⟩))), (4, (.int .i64 t6))] a ∧ Mem (gB F [cellCh b1 [(.string in_0_text), (.int .i64 in_0_at)] 133] w0) (feet [cellCh b1 [(.string in_0_text), (.int .i64 in_0_at)] 133]) w0 [cellCh b3 [(.slice none 0 0), (.int .i64 0), (.int .i64 0)] 54, cellCh b1 [(.string in_0_text), (.int .i64 t5)] 133] w) (fun a w hE hm => ⟨hE.sub ⟨rfl, rfl, rfl, trivial⟩, (hm.pick [0, 1] rfl)⟩) ?_
  rintro nx7 ⟨t5, t6⟩ a w ⟨hE, hm⟩ h
  refine nx_of hE hm h ?_
  clear hE hm h
  refine c_seq ?_
  refine c_seq ?_
  refine c_region ?_
  refine o_mv st rfl rfl ?_
  refine o_leq st rfl rfl rfl ?_
  refine c_nil ?_
  refine l_then ?_
  refine c_cond rfl ?_ ?_
  · refine c_skip ?_
    refine l_then ?_
    refine c_join (σ := Int) (fun (t218 : Int) (a : Act) (w : World) => Has 36 [(0, (.pointer (some ⟨b1, 0, none⟩))), (2, (.pointer (some ⟨b3, 0, none⟩))), (4, (.int .i64 t6))] a ∧ Mem (gB F [cellCh b1 [(.string in_0_text), (.int .i64 in_0_at)] 133] w0) (feet [cellCh b1 [(.string in_0_text), (.int .i64 in_0_at)] 133]) w0 [cellCh b1 [(.string in_0_text), (.int .i64 t218)] 133, cellCh b3 [(.slice none 0 0), (.int .i64 0), (.int .i64 0)] 54] w) ?_ ?_
    · intro k219
      refine c_block ?_
      refine c_seq ?_
      refine c_region ?_
      refine o_mv st rfl rfl ?_
      refine o_bld st (qs := [(1, (.int .i64 t6))]) (cells := [(.slice none 0 0), (.int .i64 t6), (.int .i64 0)]) (by intro ρ h; simp only [List.map_toArray, List.map_cons, List.map_nil, h (.tmp 12) _ rfl]) rfl bld54 rfl ?_
      refine stw (o_alloc rfl [(.slice none 0 0), (.int .i64 0), (.int .i64 0)] zero54 ?_); intro b8
      refine stw (o_stc (cs' := [(.slice none 0 0), (.int .i64 t6), (.int .i64 0)]) 0 rfl rfl rfl ty54 rfl rfl rfl rfl ?_)
      refine c_nil ?_
      refine l_then ?_
      refine c_join (σ := Int) (fun (t87 : Int) (a : Act) (w : World) => Has 36 [(0, (.pointer (some ⟨b1, 0, none⟩))), (2, (.pointer (some ⟨b3, 0, none⟩))), (4, (.int .i64 t6)), (5, (.pointer (some ⟨b8, 0, none⟩)))] a ∧ Mem (gB F [cellCh b1 [(.string in_0_text), (.int .i64 in_0_at)] 133] w0) (feet [cellCh b1 [(.string in_0_text), (.int .i64 in_0_at)] 133]) w0 [cellCh b1 [(.string in_0_text), (.int .i64 t87)] 133, cellCh b8 [(.slice none 0 0), (.int .i64 t6), (.int .i64 0)] 54, cellCh b3 [(.slice none 0 0), (.int .i64 0), (.int .i64 0)] 54] w) ?_ ?_
      · intro k88
        refine c_seq ?_
        refine c_region ?_
        refine o_mv st rfl rfl ?_
        refine o_ldc st (v := (.agg #[(.slice none 0 0), (.int .i64 t6), (.int .i64 0)])) 0 rfl rfl rfl ty54 rfl ?_
        refine stw (o_callP (vs := [(.agg #[(.slice none 0 0), (.int .i64 t6), (.int .i64 0)])]) Tryd.call62 rfl rfl (by intro w m h; exact (w_impl_actionOf (F := allB [] w) (r_0 := (GRule.mk ([]) t6 0)) allB_ok (Sl.nil _ _ _ _ _) h).mono (fun _ _ k => ret_free (fun r u => fr_nil) k)) ?_); rintro r10 _
        rcases r10 with x11 | x12 | x13 | x14
        · dsimp only [IAction.casesW]
          refine stw (o_callXP rfl (runs_inv rfl rfl (fun w => meth115_word _ w) Tryd.call137) rfl (by intro w m h; exact (w_impl_deciding_word (F := allB [] w) (d_0 := x11) allB_ok h).mono (fun _ _ k => ret_free (fun r u => fr_nil) k)) ?_); rintro r15 _
          refine pk [2, 0, 1] rfl ?_
          refine stw (o_call (vs := [(.pointer (some ⟨b1, 0, none⟩)), (.string r15)]) (M0 := [cellCh b1 [(.string in_0_text), (.int .i64 t5)] 133]) Tryd.call96 rfl rfl (by intro w m h; exact (w_impl_scanner_word (F := allB [cellCh b1 [(.string in_0_text), (.int .i64 t5)] 133] w) (in_0_text := in_0_text) (in_0_at := t5) (w_1 := r15) allB_ok m.given h).mono (fun _ _ k => ret_free (fun r u => (fr_cons free_cell fr_nil)) k)) ?_); rintro ⟨r16, r17⟩ _
          refine o_not st rfl rfl ?_
          refine c_nil ?_
          refine l_then ?_
          refine c_cond rfl ?_ ?_
          · refine c_exit ?_
            refine l_exit ?_
            refine b_exit ?_
            exact l_join r17 (fun a w hE hm => ⟨hE.sub ⟨rfl, rfl, rfl, trivial⟩, (hm.pick [0, 2] rfl)⟩)
          · refine c_skip ?_
            exact l_join r17 (fun a w hE hm => ⟨hE.sub ⟨rfl, rfl, rfl, rfl, trivial⟩, (hm.pick [0, 1, 2] rfl)⟩)
        · dsimp only [IAction.casesW]
          refine stw (o_callXP rfl (runs_inv rfl rfl (fun w => meth117_word _ w) Tryd.call140) rfl (by intro w m h; exact (w_impl_calling_word (F := allB [] w) (a_0 := x12) allB_ok h).mono (fun _ _ k => ret_free (fun r u => fr_nil) k)) ?_); rintro r18 _
          refine pk [2, 0, 1] rfl ?_
          refine stw (o_call (vs := [(.pointer (some ⟨b1, 0, none⟩)), (.string r18)]) (M0 := [cellCh b1 [(.string in_0_text), (.int .i64 t5)] 133]) Tryd.call96 rfl rfl (by intro w m h; exact (w_impl_scanner_word (F := allB [cellCh b1 [(.string in_0_text), (.int .i64 t5)] 133] w) (in_0_text := in_0_text) (in_0_at := t5) (w_1 := r18) allB_ok m.given h).mono (fun _ _ k => ret_free (fun r u => (fr_cons free_cell fr_nil)) k)) ?_); rintro ⟨r19, r20⟩ _
          refine o_not st rfl rfl ?_
          refine c_nil ?_
          refine l_then ?_
          refine c_cond rfl ?_ ?_
          · refine c_exit ?_
            refine l_exit ?_
            refine b_exit ?_
            exact l_join r20 (fun a w hE hm => ⟨hE.sub ⟨rfl, rfl, rfl, trivial⟩, (hm.pick [0, 2] rfl)⟩)
          · refine c_skip ?_
            exact l_join r20 (fun a w hE hm => ⟨hE.sub ⟨rfl, rfl, rfl, rfl, trivial⟩, (hm.pick [0, 1, 2] rfl)⟩)
        · dsimp only [IAction.casesW]
          refine stw (o_callXP rfl (runs_inv rfl rfl (fun w => meth119_word _ w) Tryd.call143) rfl (by intro w m h; exact (w_impl_returning_word (F := allB [] w) (a_0 := (GReturning.mk )) allB_ok h).mono (fun _ _ k => ret_free (fun r u => fr_nil) k)) ?_); rintro r21 _
          refine pk [2, 0, 1] rfl ?_
          refine stw (o_call (vs := [(.pointer (some ⟨b1, 0, none⟩)), (.string r21)]) (M0 := [cellCh b1 [(.string in_0_text), (.int .i64 t5)] 133]) Tryd.call96 rfl rfl (by intro w m h; exact (w_impl_scanner_word (F := allB [cellCh b1 [(.string in_0_text), (.int .i64 t5)] 133] w) (in_0_text := in_0_text) (in_0_at := t5) (w_1 := r21) allB_ok m.given h).mono (fun _ _ k => ret_free (fun r u => (fr_cons free_cell fr_nil)) k)) ?_); rintro ⟨r22, r23⟩ _
          refine o_not st rfl rfl ?_
          refine c_nil ?_
          refine l_then ?_
          refine c_cond rfl ?_ ?_
          · refine c_exit ?_
            refine l_exit ?_
            refine b_exit ?_
            exact l_join r23 (fun a w hE hm => ⟨hE.sub ⟨rfl, rfl, rfl, trivial⟩, (hm.pick [0, 2] rfl)⟩)
          · refine c_skip ?_
            exact l_join r23 (fun a w hE hm => ⟨hE.sub ⟨rfl, rfl, rfl, rfl, trivial⟩, (hm.pick [0, 1, 2] rfl)⟩)
        · dsimp only [IAction.casesW]
          refine stw (o_callXP rfl (runs_inv rfl rfl (fun w => meth120_word _ w) Tryd.call146) rfl (by intro w m h; exact (w_impl_passing_word (F := allB [] w) (a_0 := (GPassing.mk )) allB_ok h).mono (fun _ _ k => ret_free (fun r u => fr_nil) k)) ?_); rintro r24 _
          refine pk [2, 0, 1] rfl ?_
          refine stw (o_call (vs := [(.pointer (some ⟨b1, 0, none⟩)), (.string r24)]) (M0 := [cellCh b1 [(.string in_0_text), (.int .i64 t5)] 133]) Tryd.call96 rfl rfl (by intro w m h; exact (w_impl_scanner_word (F := allB [cellCh b1 [(.string in_0_text), (.int .i64 t5)] 133] w) (in_0_text := in_0_text) (in_0_at := t5) (w_1 := r24) allB_ok m.given h).mono (fun _ _ k => ret_free (fun r u => (fr_cons free_cell fr_nil)) k)) ?_); rintro ⟨r25, r26⟩ _
          refine o_not st rfl rfl ?_
          refine c_nil ?_
          refine l_then ?_
          refine c_cond rfl ?_ ?_
          · refine c_exit ?_
            refine l_exit ?_
            refine b_exit ?_
            exact l_join r26 (fun a w hE hm => ⟨hE.sub ⟨rfl, rfl, rfl, trivial⟩, (hm.pick [0, 2] rfl)⟩)
          · refine c_skip ?_
            exact l_join r26 (fun a w hE hm => ⟨hE.sub ⟨rfl, rfl, rfl, rfl, trivial⟩, (hm.pick [0, 1, 2] rfl)⟩)
      · rintro t87 a w ⟨hE, hm⟩ h
        refine nx_of hE hm h ?_
        clear hE hm h
        refine c_seq ?_
        refine c_seq ?_
        refine c_region ?_
        refine o_mv st rfl rfl ?_
        refine o_neq st und3 rfl rfl rfl ?_
        refine c_nil ?_
        refine l_then ?_
        refine c_cond rfl ?_ ?_
        · refine c_seq ?_
          refine c_region ?_
          refine o_ldc st (v := (.agg #[(.slice none 0 0), (.int .i64 t6), (.int .i64 0)])) 1 rfl rfl rfl ty54 rfl ?_
          refine stw (o_stc (cs' := [(.slice none 0 0), (.int .i64 t6), (.int .i64 0)]) 2 rfl rfl rfl ty54 rfl rfl rfl rfl ?_)
          refine o_as st rfl rfl ?_
          refine c_nil ?_
          refine l_then ?_
          refine c_ret ?_
          refine l_ret ?_
          refine b_ret ?_
          refine l_ret ?_
          refine l_ret ?_
          refine b_ret ?_
          refine l_ret ?_
          refine nx_nil elGTest 84 ?_
          exact l_end2 Tryd.results94 ((GRule.mk ([]) t6 0), true, t87) (.slice none 0 0) (rv_c 3 rfl rfl ty54 rfl) (rv_t rfl) rfl (fun w m => NewCh.ofB m [0, 1] rfl)
        · refine c_skip ?_
          refine l_then ?_
          refine c_seq ?_
          refine c_region ?_
          refine o_mv st rfl rfl ?_
          refine stw (o_call (vs := [(.pointer (some ⟨b1, 0, none⟩)), (.string (ByteArray.mk #[32]))]) (M0 := [cellCh b1 [(.string in_0_text), (.int .i64 t87)] 133]) Tryd.call96 rfl rfl (by intro w m h; exact (w_impl_scanner_word (F := allB [cellCh b1 [(.string in_0_text), (.int .i64 t87)] 133] w) (in_0_text := in_0_text) (in_0_at := t87) (w_1 := (ByteArray.mk #[32])) allB_ok m.given h).mono (fun _ _ k => ret_free (fun r u => (fr_cons free_cell fr_nil)) k)) ?_); rintro ⟨r90, r91⟩ _
          refine o_as st rfl rfl ?_
          refine o_as st rfl rfl ?_
          refine c_nil ?_
          refine l_then ?_
          refine c_join (σ := (Int × Int × Bool)) (fun ((t155, t156, t157) : (Int × Int × Bool)) (a : Act) (w : World) => Has 36 [(2, (.pointer (some ⟨b3, 0, none⟩))), (5, (.pointer (some ⟨b8, 0, none⟩))), (6, (.int .i64 t156)), (7, (.bool t157))] a ∧ Mem (gB F [cellCh b1 [(.string in_0_text), (.int .i64 in_0_at)] 133] w0) (feet [cellCh b1 [(.string in_0_text), (.int .i64 in_0_at)] 133]) w0 [cellCh b1 [(.string in_0_text), (.int .i64 t155)] 133, cellCh b8 [(.slice none 0 0), (.int .i64 t6), (.int .i64 0)] 54, cellCh b3 [(.slice none 0 0), (.int .i64 0), (.int .i64 0)] 54] w) ?_ ?_
          · intro k158
            refine c_seq ?_
            refine c_region ?_
            refine o_mv st rfl rfl ?_
            refine c_nil ?_
            refine l_then ?_
            refine c_cond rfl ?_ ?_
            · refine c_region ?_
              refine o_mv st rfl rfl ?_
              refine stw (o_call (vs := [(.pointer (some ⟨b1, 0, none⟩))]) (M0 := [cellCh b1 [(.string in_0_text), (.int .i64 r91)] 133]) Tryd.call106 rfl rfl (by intro w m h; exact (w_impl_scanner_number (F := allB [cellCh b1 [(.string in_0_text), (.int .i64 r91)] 133] w) (in_0_text := in_0_text) (in_0_at := r91) allB_ok m.given h).mono (fun _ _ k => ret_free (fun r u => (fr_cons free_cell fr_nil)) k)) ?_); rintro ⟨r92, r93, r94⟩ _
              refine o_mv st rfl rfl ?_
              refine o_ext st (vs := [(.int .i64 r92), (.bool r93)]) rfl rfl rfl ?_
              refine o_ext st (vs := [(.int .i64 r92), (.bool r93)]) rfl rfl rfl ?_
              refine o_as st rfl rfl ?_
              refine o_as st rfl rfl ?_
              refine c_nil ?_
              exact l_join (r94, r92, r93) (fun a w hE hm => ⟨hE.sub ⟨rfl, rfl, rfl, rfl, trivial⟩, (hm.pick [0, 1, 2] rfl)⟩)
            · refine c_skip ?_
              exact l_join (r91, 0, r90) (fun a w hE hm => ⟨hE.sub ⟨rfl, rfl, rfl, rfl, trivial⟩, (hm.pick [0, 1, 2] rfl)⟩)
          · rintro ⟨t155, t156, t157⟩ a w ⟨hE, hm⟩ h
            refine nx_of hE hm h ?_
            clear hE hm h
            refine c_seq ?_
            refine c_region ?_
            refine o_mv st rfl rfl ?_
            refine o_fad st rfl rfl fld54_2 rfl ?_
            refine stw (o_stc (cs' := [(.slice none 0 0), (.int .i64 t6), (.int .i64 t156)]) 1 rfl rfl rfl ty3 rfl rfl rfl rfl ?_)
            refine c_nil ?_
            refine l_then ?_
            refine c_seq ?_
            refine c_region ?_
            refine o_ldc st (v := (.agg #[(.slice none 0 0), (.int .i64 t6), (.int .i64 t156)])) 1 rfl rfl rfl ty54 rfl ?_
            refine o_mv st rfl rfl ?_
            refine stw (o_stc (cs' := [(.slice none 0 0), (.int .i64 t6), (.int .i64 t156)]) 2 rfl rfl rfl ty54 rfl rfl rfl rfl ?_)
            refine o_as st rfl rfl ?_
            refine c_nil ?_
            refine l_then ?_
            refine c_ret ?_
            refine b_ret ?_
            refine l_ret ?_
            refine l_ret ?_
            refine b_ret ?_
            refine l_ret ?_
            refine nx_nil elGTest 84 ?_
            exact l_end2 Tryd.results94 ((GRule.mk ([]) t6 t156), t157, t155) (.slice none 0 0) (rv_c 3 rfl rfl ty54 rfl) (rv_t rfl) rfl (fun w m => NewCh.ofB m [0, 1] rfl)
    · rintro t218 a w ⟨hE, hm⟩ h
      refine nx_of hE hm h ?_
      clear hE hm h
      refine c_region ?_
      refine o_mv st rfl rfl ?_
      refine o_add st rfl rfl rfl ?_; intro t220
      refine o_as st rfl rfl ?_
      refine c_nil ?_
      exact l_join (t218, t220) (fun a w hE hm => ⟨hE.sub ⟨rfl, rfl, rfl, trivial⟩, (hm.pick [1, 0] rfl)⟩)
  · refine c_exit ?_
    refine l_exit ?_
    refine l_exit ?_
    refine b_exit ?_
    refine l_then ?_
    refine c_seq ?_
    refine c_region ?_
    refine o_bld st (qs := []) (cells := [(.slice none 0 0), (.int .i64 0), (.int .i64 0)]) (by intro ρ h; simp only [List.map_toArray, List.map_cons, List.map_nil]) rfl bld54 rfl ?_
    refine stw (o_stc (cs' := [(.slice none 0 0), (.int .i64 0), (.int .i64 0)]) 0 rfl rfl rfl ty54 rfl rfl rfl rfl ?_)
    refine o_as st rfl rfl ?_
    refine c_nil ?_
    refine l_then ?_
    refine c_ret ?_
    refine nx_nil elGTest 84 ?_
    exact l_end2 Tryd.results94 ((GRule.mk ([]) 0 0), false, t5) (.slice none 0 0) (rv_c 1 rfl rfl ty54 rfl) (rv_t rfl) rfl (fun w m => NewCh.ofB m [0, 2] rfl)

set_option maxRecDepth 100000 in
set_option maxHeartbeats 8000000 in
theorem w_impl_scanner_field {w0 : World} {F : Nat → Prop} {b1 : Nat} {in_0_text : ByteArray} {in_0_at : Int} {κ : (Int × Bool × Int) → Prop} (hF : ∀ b, F b → b < w0.heap.size ∧ ¬ feet [cellCh b1 [(.string in_0_text), (.int .i64 in_0_at)] 133] b) (hg : Given [cellCh b1 [(.string in_0_text), (.int .i64 in_0_at)] 133] F w0) (hgl0 : Sl elGFieldShape F w0 (.slice (some ⟨0, 0, none⟩) 4 4) gl_impl_fieldShapes) (h : L_impl_scanner_field in_0_text in_0_at κ) :
    Calls Tryd.prog 108 #[(.pointer (some ⟨b1, 0, none⟩))] w0 (Ret [cellCh b1 [(.string in_0_text), (.int .i64 in_0_at)] 133] F w0 κ (fun (r : (Int × Bool × Int)) (u : Unit) => .tuple #[(.int .i64 r.1), (.bool r.2.1)]) (fun (r : (Int × Bool × Int)) (u : Unit) => [cellCh b1 [(.string in_0_text), (.int .i64 r.2.2)] 133])) := by
  refine enterS (args := [(.pointer (some ⟨b1, 0, none⟩))]) [cellCh b1 [(.string in_0_text), (.int .i64 in_0_at)] 133] hF hg Tryd.func108 rfl Tryd.ntmps108 rfl h ?_
  clear h hF hg
  refine c_seq ?_
  refine c_region ?_
  refine o_as st rfl rfl ?_
  refine o_as st rfl rfl ?_
  refine c_nil ?_
  refine l_then ?_
  refine c_seq ?_
  refine c_seq ?_
  refine c_region ?_
  refine o_mv st rfl rfl ?_
  refine c_nil ?_
  refine l_then ?_
  refine c_block ?_
  refine c_loop (σ := (Int × Int)) (fun ((t3, t4) : (Int × Int)) (a : Act) (w : World) => Has 17 [(0, (.pointer (some ⟨b1, 0, none⟩))), (5, (.int .i64 t4))] a ∧ Mem (gB F [cellCh b1 [(.string in_0_text), (.int .i64 in_0_at)] 133] w0) (feet [cellCh b1 [(.string in_0_text), (.int .i64 in_0_at)] 133]) w0 [cellCh b1 [(.string in_0_text), (.int .i64 t3)] 133, snapCh w0 F] w) (fun a w hE hm => ⟨hE.sub ⟨rfl, rfl, trivial⟩, (hm.pick [0, 1] rfl)⟩) ?_
  rintro nx5 ⟨t3, t4⟩ a w ⟨hE, hm⟩ h
  refine nx_of hE hm h ?_
  clear hE hm h
  refine c_seq ?_
  refine c_region ?_
  refine o_lss st rfl rfl rfl ?_
  refine c_nil ?_
  refine l_then ?_
  refine c_seq ?_
  refine c_cond rfl ?_ ?_
  · refine c_skip ?_
    refine l_then ?_
    refine c_seq ?_
    refine c_block ?_
    refine c_seq ?_
    refine c_region ?_
    refine o_mv st rfl rfl ?_
    refine o_as st rfl rfl ?_
    refine c_nil ?_
    refine l_then ?_
    refine c_seq ?_
    refine c_region ?_
    refine o_mv st rfl rfl ?_
    refine o_mv st rfl rfl ?_
    refine o_ixa st 1 rfl (reads_snap hgl0) rfl rfl rfl arr123 ?_; intro e6 h7
    refine o_fadS st 1 rfl (reads_snap hgl0) h7 rfl rfl fld122_0 rfl ?_
    refine o_lds st (enc := encGFieldShape) (u := (.string e6.xName)) 1 rfl (reads_snap hgl0) flelGFieldShape rfl h7 rfl rfl ty9 rfl ?_
    refine o_cat st rfl rfl rfl ?_; intro s8
    refine stw (o_call (vs := [(.pointer (some ⟨b1, 0, none⟩)), (.string s8)]) (M0 := [cellCh b1 [(.string in_0_text), (.int .i64 t3)] 133]) Tryd.call96 rfl rfl (by intro w m h; exact (w_impl_scanner_word (F := allB [cellCh b1 [(.string in_0_text), (.int .i64 t3)] 133] w) (in_0_text := in_0_text) (in_0_at := t3) (w_1 := s8) allB_ok m.given h).mono (fun _ _ k => ret_free (fun r u => (fr_cons free_cell fr_nil)) k)) ?_); rintro ⟨r9, r10⟩ _
    refine c_nil ?_
    refine l_then ?_
    refine c_cond rfl ?_ ?_
    · refine c_seq ?_
      refine c_region ?_
      refine o_mv st rfl rfl ?_
      refine o_as st rfl rfl ?_
      refine o_as st rfl rfl ?_
      refine c_nil ?_
      refine l_then ?_
      refine c_ret ?_
      refine b_ret ?_
      refine l_ret ?_
      refine l_ret ?_
      refine b_ret ?_
      refine l_ret ?_
      exact l_end2 Tryd.results108 (t4, true, r10) () (rv_t rfl) (rv_t rfl) rfl (fun w m => NewCh.ofB m [0] rfl)
    · refine c_skip ?_
      refine b_norm ?_
      refine l_then ?_
      refine c_region ?_
      refine o_add st rfl rfl rfl ?_; intro t11
      refine o_mv st rfl rfl ?_
      refine c_nil ?_
      exact l_join (r10, t11) (fun a w hE hm => ⟨hE.sub ⟨rfl, rfl, trivial⟩, (hm.pick [0, 1] rfl)⟩)
  · refine c_exit ?_
    refine l_exit ?_
    refine l_exit ?_
    refine b_exit ?_
    refine l_then ?_
    refine c_seq ?_
    refine c_region ?_
    refine o_as st rfl rfl ?_
    refine o_as st rfl rfl ?_
    refine c_nil ?_
    refine l_then ?_
    refine c_ret ?_
    exact l_end2 Tryd.results108 (0, false, t3) () (rv_t rfl) (rv_t rfl) rfl (fun w m => NewCh.ofB m [0] rfl)

set_option maxRecDepth 100000 in
set_option maxHeartbeats 8000000 in
theorem w_impl_scanner_test {w0 : World} {F : Nat → Prop} {b1 : Nat} {in_0_text : ByteArray} {in_0_at : Int} {κ : (GTest × Bool × Int) → Prop} (hF : ∀ b, F b → b < w0.heap.size ∧ ¬ feet [cellCh b1 [(.string in_0_text), (.int .i64 in_0_at)] 133] b) (hg : Given [cellCh b1 [(.string in_0_text), (.int .i64 in_0_at)] 133] F w0) (hgl0 : Sl elGFieldShape F w0 (.slice (some ⟨0, 0, none⟩) 4 4) gl_impl_fieldShapes) (h : L_impl_scanner_test in_0_text in_0_at κ) :
    Calls Tryd.prog 97 #[(.pointer (some ⟨b1, 0, none⟩))] w0 (Ret [cellCh b1 [(.string in_0_text), (.int .i64 in_0_at)] 133] F w0 κ (fun (r : (GTest × Bool × Int)) (u : Unit) => .tuple #[(.agg #[(.int .i64 r.1.xField), (.int .i64 r.1.xLo), (.int .i64 r.1.xHi), (.bool r.1.xNot)]), (.bool r.2.1)]) (fun (r : (GTest × Bool × Int)) (u : Unit) => [cellCh b1 [(.string in_0_text), (.int .i64 r.2.2)] 133])) := by
  refine enterS (args := [(.pointer (some ⟨b1, 0, none⟩))]) [cellCh b1 [(.string in_0_text), (.int .i64 in_0_at)] 133] hF hg Tryd.func97 rfl Tryd.ntmps97 rfl h ?_
  clear h hF hg
  refine c_seq ?_
  refine c_region ?_
  refine stw (o_alloc rfl [(.int .i64 0), (.int .i64 0), (.int .i64 0), (.bool false)] zero84 ?_); intro b3
  refine o_as st rfl rfl ?_
  refine c_nil ?_
  refine l_then ?_
  refine c_seq ?_
  refine c_region ?_
  refine stw (o_alloc rfl [(.int .i64 0), (.int .i64 0), (.int .i64 0), (.bool false)] zero84 ?_); intro b5
  refine c_nil ?_
  refine l_then ?_
  refine c_seq ?_
  refine c_region ?_
  refine o_mv st rfl rfl ?_
  refine pk [2, 0, 1, 3] rfl ?_
  refine stw (o_call (vs := [(.pointer (some ⟨b1, 0, none⟩)), (.string (ByteArray.mk #[110, 111, 116, 32]))]) (M0 := [cellCh b1 [(.string in_0_text), (.int .i64 in_0_at)] 133]) Tryd.call96 rfl rfl (by intro w m h; exact (w_impl_scanner_word (F := allB [cellCh b1 [(.string in_0_text), (.int .i64 in_0_at)] 133] w) (in_0_text := in_0_text) (in_0_at := in_0_at) (w_1 := (ByteArray.mk #[110, 111, 116, 32])) allB_ok m.given h).mono (fun _ _ k => ret_free (fun r u => (fr_cons free_cell fr_nil)) k)) ?_); rintro ⟨r7, r8⟩ _
  refine o_fad st rfl rfl fld84_3 rfl ?_
  refine stw (o_stc (cs' := [(.int .i64 0), (.int .i64 0), (.int .i64 0), (.bool r7)]) 1 rfl rfl rfl ty4 rfl rfl rfl rfl ?_)
  refine c_nil ?_
  refine l_then ?_
  refine c_seq ?_
  refine c_region ?_
  refine o_mv st rfl rfl ?_
  refine stw (o_call (vs := [(.pointer (some ⟨b1, 0, none⟩))]) (M0 := [cellCh b1 [(.string in_0_text), (.int .i64 r8)] 133]) Tryd.call108 rfl rfl (by intro w m h; exact (w_impl_scanner_field (F := allB [cellCh b1 [(.string in_0_text), (.int .i64 r8)] 133] w) (in_0_text := in_0_text) (in_0_at := r8) allB_ok m.given (m.rdM 2 rfl (reads_snap hgl0)) h).mono (fun _ _ k => ret_free (fun r u => (fr_cons free_cell fr_nil)) k)) ?_); rintro ⟨r9, r10, r11⟩ _
  refine o_mv st rfl rfl ?_
  refine o_ext st (vs := [(.int .i64 r9), (.bool r10)]) rfl rfl rfl ?_
  refine o_ext st (vs := [(.int .i64 r9), (.bool r10)]) rfl rfl rfl ?_
  refine o_as st rfl rfl ?_
  refine o_as st rfl rfl ?_
  refine c_nil ?_
  refine l_then ?_
  refine c_seq ?_
  refine c_seq ?_
  refine c_region ?_
  refine o_mv st rfl rfl ?_
  refine o_not st rfl rfl ?_
  refine c_nil ?_
  refine l_then ?_
  refine c_cond rfl ?_ ?_
  · refine c_seq ?_
    refine c_region ?_
    refine o_bld st (qs := []) (cells := [(.int .i64 0), (.int .i64 0), (.int .i64 0), (.bool false)]) (by intro ρ h; simp only [List.map_toArray, List.map_cons, List.map_nil]) rfl bld84 rfl ?_
    refine stw (o_stc (cs' := [(.int .i64 0), (.int .i64 0), (.int .i64 0), (.bool false)]) 2 rfl rfl rfl ty84 rfl rfl rfl rfl ?_)
    refine o_as st rfl rfl ?_
    refine c_nil ?_
    refine l_then ?_
    refine c_ret ?_
    refine l_ret ?_
    exact l_end2 Tryd.results97 ((GTest.mk 0 0 0 false), false, r11) () (rv_c 2 rfl rfl ty84 rfl) (rv_t rfl) rfl (fun w m => NewCh.ofB m [0] rfl)
  · refine c_skip ?_
    refine l_then ?_
    refine c_seq ?_
    refine c_region ?_
    refine o_mv st rfl rfl ?_
    refine o_fad st rfl rfl fld84_0 rfl ?_
    refine stw (o_stc (cs' := [(.int .i64 r9), (.int .i64 0), (.int .i64 0), (.bool r7)]) 1 rfl rfl rfl ty3 rfl rfl rfl rfl ?_)
    refine c_nil ?_
    refine l_then ?_
    refine c_seq ?_
    refine c_seq ?_
    refine c_region ?_
    refine o_mv st rfl rfl ?_
    refine stw (o_call (vs := [(.pointer (some ⟨b1, 0, none⟩))]) (M0 := [cellCh b1 [(.string in_0_text), (.int .i64 r11)] 133]) Tryd.call106 rfl rfl (by intro w m h; exact (w_impl_scanner_number (F := allB [cellCh b1 [(.string in_0_text), (.int .i64 r11)] 133] w) (in_0_text := in_0_text) (in_0_at := r11) allB_ok m.given h).mono (fun _ _ k => ret_free (fun r u => (fr_cons free_cell fr_nil)) k)) ?_); rintro ⟨r12, r13, r14⟩ _
    refine o_mv st rfl rfl ?_
    refine o_ext st (vs := [(.int .i64 r12), (.bool r13)]) rfl rfl rfl ?_
    refine o_ext st (vs := [(.int .i64 r12), (.bool r13)]) rfl rfl rfl ?_
    refine o_fad st rfl rfl fld84_1 rfl ?_
    refine stw (o_stc (cs' := [(.int .i64 r9), (.int .i64 r12), (.int .i64 0), (.bool r7)]) 1 rfl rfl rfl ty3 rfl rfl rfl rfl ?_)
    refine o_as st rfl rfl ?_
    refine c_nil ?_
    refine l_then ?_
    refine c_seq ?_
    refine c_region ?_
    refine o_mv st rfl rfl ?_
    refine o_not st rfl rfl ?_
    refine c_nil ?_
    refine l_then ?_
    refine c_cond rfl ?_ ?_
    · refine c_seq ?_
      refine c_region ?_
      refine o_bld st (qs := []) (cells := [(.int .i64 0), (.int .i64 0), (.int .i64 0), (.bool false)]) (by intro ρ h; simp only [List.map_toArray, List.map_cons, List.map_nil]) rfl bld84 rfl ?_
      refine stw (o_stc (cs' := [(.int .i64 0), (.int .i64 0), (.int .i64 0), (.bool false)]) 2 rfl rfl rfl ty84 rfl rfl rfl rfl ?_)
      refine o_as st rfl rfl ?_
      refine c_nil ?_
      refine l_then ?_
      refine c_ret ?_
      refine l_ret ?_
      exact l_end2 Tryd.results97 ((GTest.mk 0 0 0 false), false, r14) () (rv_c 2 rfl rfl ty84 rfl) (rv_t rfl) rfl (fun w m => NewCh.ofB m [0] rfl)
    · refine c_skip ?_
      refine l_then ?_
      refine c_seq ?_
      refine c_region ?_
      refine o_fad st rfl rfl fld84_1 rfl ?_
      refine o_ldc st (v := (.int .i64 r12)) 1 rfl rfl rfl ty3 rfl ?_
      refine o_fad st rfl rfl fld84_2 rfl ?_
      refine stw (o_stc (cs' := [(.int .i64 r9), (.int .i64 r12), (.int .i64 r12), (.bool r7)]) 1 rfl rfl rfl ty3 rfl rfl rfl rfl ?_)
      refine c_nil ?_
      refine l_then ?_
      refine c_join (σ := (Int × Int)) (fun ((t80, t81) : (Int × Int)) (a : Act) (w : World) => Has 44 [(2, (.pointer (some ⟨b3, 0, none⟩))), (4, (.pointer (some ⟨b5, 0, none⟩)))] a ∧ Mem (gB F [cellCh b1 [(.string in_0_text), (.int .i64 in_0_at)] 133] w0) (feet [cellCh b1 [(.string in_0_text), (.int .i64 in_0_at)] 133]) w0 [cellCh b1 [(.string in_0_text), (.int .i64 t80)] 133, cellCh b5 [(.int .i64 r9), (.int .i64 r12), (.int .i64 t81), (.bool r7)] 84, cellCh b3 [(.int .i64 0), (.int .i64 0), (.int .i64 0), (.bool false)] 84, snapCh w0 F] w) ?_ ?_
      · intro k82
        refine c_seq ?_
        refine c_region ?_
        refine o_mv st rfl rfl ?_
        refine stw (o_call (vs := [(.pointer (some ⟨b1, 0, none⟩)), (.string (ByteArray.mk #[45]))]) (M0 := [cellCh b1 [(.string in_0_text), (.int .i64 r14)] 133]) Tryd.call96 rfl rfl (by intro w m h; exact (w_impl_scanner_word (F := allB [cellCh b1 [(.string in_0_text), (.int .i64 r14)] 133] w) (in_0_text := in_0_text) (in_0_at := r14) (w_1 := (ByteArray.mk #[45])) allB_ok m.given h).mono (fun _ _ k => ret_free (fun r u => (fr_cons free_cell fr_nil)) k)) ?_); rintro ⟨r15, r16⟩ _
        refine c_nil ?_
        refine l_then ?_
        refine c_cond rfl ?_ ?_
        · refine c_seq ?_
          refine c_region ?_
          refine o_mv st rfl rfl ?_
          refine stw (o_call (vs := [(.pointer (some ⟨b1, 0, none⟩))]) (M0 := [cellCh b1 [(.string in_0_text), (.int .i64 r16)] 133]) Tryd.call106 rfl rfl (by intro w m h; exact (w_impl_scanner_number (F := allB [cellCh b1 [(.string in_0_text), (.int .i64 r16)] 133] w) (in_0_text := in_0_text) (in_0_at := r16) allB_ok m.given h).mono (fun _ _ k => ret_free (fun r u => (fr_cons free_cell fr_nil)) k)) ?_); rintro ⟨r17, r18, r19⟩ _
          refine o_mv st rfl rfl ?_
          refine o_ext st (vs := [(.int .i64 r17), (.bool r18)]) rfl rfl rfl ?_
          refine o_ext st (vs := [(.int .i64 r17), (.bool r18)]) rfl rfl rfl ?_
          refine o_fad st rfl rfl fld84_2 rfl ?_
          refine stw (o_stc (cs' := [(.int .i64 r9), (.int .i64 r12), (.int .i64 r17), (.bool r7)]) 1 rfl rfl rfl ty3 rfl rfl rfl rfl ?_)
          refine o_as st rfl rfl ?_
          refine c_nil ?_
          refine l_then ?_
          refine c_seq ?_
          refine c_region ?_
          refine o_mv st rfl rfl ?_
          refine o_not st rfl rfl ?_
          refine c_nil ?_
          refine l_then ?_
          refine c_cond rfl ?_ ?_
          · refine c_seq ?_
            refine c_region ?_
            refine o_bld st (qs := []) (cells := [(.int .i64 0), (.int .i64 0), (.int .i64 0), (.bool false)]) (by intro ρ h; simp only [List.map_toArray, List.map_cons, List.map_nil]) rfl bld84 rfl ?_
            refine stw (o_stc (cs' := [(.int .i64 0), (.int .i64 0), (.int .i64 0), (.bool false)]) 2 rfl rfl rfl ty84 rfl rfl rfl rfl ?_)
            refine o_as st rfl rfl ?_
            refine c_nil ?_
            refine l_then ?_
            refine c_ret ?_
            refine l_ret ?_
            exact l_end2 Tryd.results97 ((GTest.mk 0 0 0 false), false, r19) () (rv_c 2 rfl rfl ty84 rfl) (rv_t rfl) rfl (fun w m => NewCh.ofB m [0] rfl)
          · refine c_skip ?_
            exact l_join (r19, r17) (fun a w hE hm => ⟨hE.sub ⟨rfl, rfl, trivial⟩, (hm.pick [0, 1, 2, 3] rfl)⟩)
        · refine c_skip ?_
          exact l_join (r16, r12) (fun a w hE hm => ⟨hE.sub ⟨rfl, rfl, trivial⟩, (hm.pick [0, 1, 2, 3] rfl)⟩)
      · rintro ⟨t80, t81⟩ a w ⟨hE, hm⟩ h
        refine nx_of hE hm h ?_
        clear hE hm h
        refine c_seq ?_
        refine c_region ?_
        refine o_ldc st (v := (.agg #[(.int .i64 r9), (.int .i64 r12), (.int .i64 t81), (.bool r7)])) 1 rfl rfl rfl ty84 rfl ?_
        refine stw (o_stc (cs' := [(.int .i64 r9), (.int .i64 r12), (.int .i64 t81), (.bool r7)]) 2 rfl rfl rfl ty84 rfl rfl rfl rfl ?_)
        refine o_as st rfl rfl ?_
        refine c_nil ?_
        refine l_then ?_
        refine c_ret ?_
        exact l_end2 Tryd.results97 ((GTest.mk r9 r12 t81 r7), true, t80) () (rv_c 2 rfl rfl ty84 rfl) (rv_t rfl) rfl (fun w m => NewCh.ofB m [0] rfl)

set_option maxRecDepth 100000 in
set_option maxHeartbeats 8000000 in
theorem w_impl_ReadRule {w0 : World} {F : Nat → Prop} {s_0 : ByteArray} {κ : (GRule × Bool) → Prop} (hF : ∀ b, F b → b < w0.heap.size ∧ ¬ feet [] b) (hgl0 : Sl elGFieldShape F w0 (.slice (some ⟨0, 0, none⟩) 4 4) gl_impl_fieldShapes) (hgl1 : Tb F w0) (h : L_impl_ReadRule s_0 κ) :
    Calls Tryd.prog 84 #[(.string s_0)] w0 (Ret [] F w0 κ (fun (r : (GRule × Bool)) (u : Value) => .tuple #[(.agg #[u, (.int .i64 r.1.xAction), (.int .i64 r.1.xChain)]), (.bool r.2)]) (fun (r : (GRule × Bool)) (u : Value) => [ownCh elGTest 84 u r.1.xTests])) := by
  refine enterS (args := [(.string s_0)]) [] hF (Given.nil _ _) Tryd.func84 rfl Tryd.ntmps84 rfl h ?_
  clear h hF
  refine c_seq ?_
  refine c_region ?_
  refine stw (o_alloc rfl [(.slice none 0 0), (.int .i64 0), (.int .i64 0)] zero54 ?_); intro b1
  refine o_as st rfl rfl ?_
  refine c_nil ?_
  refine l_then ?_
  refine c_seq ?_
  refine c_region ?_
  refine o_mv st rfl rfl ?_
  refine o_bld st (qs := [(0, (.string s_0))]) (cells := [(.string s_0), (.int .i64 0)]) (by intro ρ h; simp only [List.map_toArray, List.map_cons, List.map_nil, h (.tmp 9) _ rfl]) rfl bld133 rfl ?_
  refine stw (o_alloc rfl [(.string (ByteArray.mk #[])), (.int .i64 0)] zero133 ?_); intro b3
  refine stw (o_stc (cs' := [(.string s_0), (.int .i64 0)]) 0 rfl rfl rfl ty133 rfl rfl rfl rfl ?_)
  refine c_nil ?_
  refine l_then ?_
  refine c_seq ?_
  refine c_region ?_
  refine stw (o_call (vs := [(.pointer (some ⟨b3, 0, none⟩))]) (M0 := [cellCh b3 [(.string s_0), (.int .i64 0)] 133]) Tryd.call94 rfl rfl (by intro w m h; exact (w_impl_scanner_action (F := allB [cellCh b3 [(.string s_0), (.int .i64 0)] 133] w) (in_0_text := s_0) (in_0_at := 0) allB_ok m.given h).mono (fun _ _ k => ret_free (fun r u => (fr_cons (free_own flelGTest) (fr_cons free_cell fr_nil))) k)) ?_); rintro ⟨r5, r8, r9⟩ v6
  refine o_mv st rfl rfl ?_
  refine o_ext st (vs := [(.agg #[v6, (.int .i64 r5.xAction), (.int .i64 r5.xChain)]), (.bool r8)]) rfl rfl rfl ?_
  refine o_ext st (vs := [(.agg #[v6, (.int .i64 r5.xAction), (.int .i64 r5.xChain)]), (.bool r8)]) rfl rfl rfl ?_
  refine stw (o_alloc rfl [(.slice none 0 0), (.int .i64 0), (.int .i64 0)] zero54 ?_); intro b10
  refine nx_own 1 rfl ?_; rintro a12 l13 q14 rfl
  refine stw (o_stc (cs' := [(.slice a12 l13 q14), (.int .i64 r5.xAction), (.int .i64 r5.xChain)]) 0 rfl rfl rfl ty54 rfl rfl rfl rfl ?_)
  refine o_as st rfl rfl ?_
  refine c_nil ?_
  refine l_then ?_
  refine c_seq ?_
  refine c_seq ?_
  refine c_region ?_
  refine o_mv st rfl rfl ?_
  refine o_not st rfl rfl ?_
  refine c_nil ?_
  refine l_then ?_
  refine c_cond rfl ?_ ?_
  · refine c_seq ?_
    refine c_region ?_
    refine o_bld st (qs := []) (cells := [(.slice none 0 0), (.int .i64 0), (.int .i64 0)]) (by intro ρ h; simp only [List.map_toArray, List.map_cons, List.map_nil]) rfl bld54 rfl ?_
    refine stw (o_stc (cs' := [(.slice none 0 0), (.int .i64 0), (.int .i64 0)]) 3 rfl rfl rfl ty54 rfl rfl rfl rfl ?_)
    refine o_as st rfl rfl ?_
    refine c_nil ?_
    refine l_then ?_
    refine c_ret ?_
    refine l_ret ?_
    refine nx_nil elGTest 84 ?_
    exact l_end2 Tryd.results84 ((GRule.mk ([]) 0 0), false) (.slice none 0 0) (rv_c 4 rfl rfl ty54 rfl) (rv_t rfl) rfl (fun w m => NewCh.ofB m [0] rfl)
  · refine c_skip ?_
    refine l_then ?_
    refine c_seq ?_
    refine c_block ?_
    refine c_loop (σ := ((List GTest) × Int)) (fun ((xs17, t20) : ((List GTest) × Int)) (a : Act) (w : World) => ∃ (v16 : Value), Has 53 [(0, (.string s_0)), (2, (.pointer (some ⟨b1, 0, none⟩))), (4, (.pointer (some ⟨b3, 0, none⟩))), (5, (.pointer (some ⟨b10, 0, none⟩)))] a ∧ Mem (gB F [] w0) (feet []) w0 [cellCh b10 [v16, (.int .i64 r5.xAction), (.int .i64 r5.xChain)] 54, cellCh b3 [(.string s_0), (.int .i64 t20)] 133, cellCh b1 [(.slice none 0 0), (.int .i64 0), (.int .i64 0)] 54, snapCh w0 F, ownCh elGTest 84 v16 xs17] w) (fun a w hE hm => ⟨(.slice a12 l13 q14), hE.sub ⟨rfl, rfl, rfl, rfl, trivial⟩, (hm.pick [0, 2, 3, 4, 1] rfl)⟩) ?_
    rintro nx21 ⟨xs17, t20⟩ a w ⟨v16, hE, hm⟩ h
    refine nx_of hE hm h ?_
    clear hE hm h
    refine c_seq ?_
    refine c_seq ?_
    refine c_region ?_
    refine pk [1, 0, 2, 3, 4] rfl ?_
    refine stw (o_call (vs := [(.pointer (some ⟨b3, 0, none⟩))]) (M0 := [cellCh b3 [(.string s_0), (.int .i64 t20)] 133]) Tryd.call95 rfl rfl (by intro w m h; exact (w_impl_scanner_done (F := allB [cellCh b3 [(.string s_0), (.int .i64 t20)] 133] w) (in_0_text := s_0) (in_0_at := t20) allB_ok m.given h).mono (fun _ _ k => ret_free (fun r u => (fr_cons free_cell fr_nil)) k)) ?_); rintro r22 _
    refine o_not st rfl rfl ?_
    refine c_nil ?_
    refine l_then ?_
    refine c_cond rfl ?_ ?_
    · refine c_skip ?_
      refine l_then ?_
      refine c_block ?_
      refine c_seq ?_
      refine c_join (σ := (Int × Bool)) (fun ((t85, t86) : (Int × Bool)) (a : Act) (w : World) => Has 53 [(0, (.string s_0)), (2, (.pointer (some ⟨b1, 0, none⟩))), (4, (.pointer (some ⟨b3, 0, none⟩))), (5, (.pointer (some ⟨b10, 0, none⟩))), (27, (.bool t86))] a ∧ Mem (gB F [] w0) (feet []) w0 [cellCh b3 [(.string s_0), (.int .i64 t85)] 133, cellCh b10 [v16, (.int .i64 r5.xAction), (.int .i64 r5.xChain)] 54, cellCh b1 [(.slice none 0 0), (.int .i64 0), (.int .i64 0)] 54, ownCh elGTest 84 v16 xs17, snapCh w0 F] w) ?_ ?_
      · intro k87
        refine c_region ?_
        refine o_fad st rfl rfl fld54_0 rfl ?_
        refine o_ldc st (v := v16) 1 rfl rfl rfl ty52 rfl ?_
        refine o_len st el52 4 rfl reads_own rfl rfl ?_
        refine o_eql st und3 rfl rfl rfl ?_
        refine o_mv st rfl rfl ?_
        refine st_sp (dj := 24) rfl ?_ ?_
        · refine st_s rfl rfl rfl rfl ?_
          refine st_s rfl rfl rfl rfl ?_
          refine o_pickT st rfl rfl rfl ?_
          refine c_nil ?_
          exact l_join (t20, true) (fun a w hE hm => ⟨hE.sub ⟨rfl, rfl, rfl, rfl, rfl, trivial⟩, (hm.pick [0, 1, 2, 4, 3] rfl)⟩)
        · refine st_gw rfl rfl (o_call (vs := [(.pointer (some ⟨b3, 0, none⟩)), (.string (ByteArray.mk #[44, 32]))]) (M0 := [cellCh b3 [(.string s_0), (.int .i64 t20)] 133]) Tryd.call96 rfl rfl (by intro w m h; exact (w_impl_scanner_word (F := allB [cellCh b3 [(.string s_0), (.int .i64 t20)] 133] w) (in_0_text := s_0) (in_0_at := t20) (w_1 := (ByteArray.mk #[44, 32])) allB_ok m.given h).mono (fun _ _ k => ret_free (fun r u => (fr_cons free_cell fr_nil)) k)) ?_); rintro ⟨r23, r24⟩ _
          refine o_not (st_g rfl rfl) rfl rfl ?_
          refine o_pickF st rfl rfl rfl ?_
          refine c_nil ?_
          exact l_join (r24, (!r23)) (fun a w hE hm => ⟨hE.sub ⟨rfl, rfl, rfl, rfl, rfl, trivial⟩, (hm.pick [0, 1, 2, 4, 3] rfl)⟩)
      · rintro ⟨t85, t86⟩ a w ⟨hE, hm⟩ h
        refine nx_of hE hm h ?_
        clear hE hm h
        refine c_cond rfl ?_ ?_
        · refine c_seq ?_
          refine c_region ?_
          refine o_bld st (qs := []) (cells := [(.slice none 0 0), (.int .i64 0), (.int .i64 0)]) (by intro ρ h; simp only [List.map_toArray, List.map_cons, List.map_nil]) rfl bld54 rfl ?_
          refine stw (o_stc (cs' := [(.slice none 0 0), (.int .i64 0), (.int .i64 0)]) 2 rfl rfl rfl ty54 rfl rfl rfl rfl ?_)
          refine o_as st rfl rfl ?_
          refine c_nil ?_
          refine l_then ?_
          refine c_ret ?_
          refine l_ret ?_
          refine b_ret ?_
          refine l_ret ?_
          refine b_ret ?_
          refine l_ret ?_
          refine nx_nil elGTest 84 ?_
          exact l_end2 Tryd.results84 ((GRule.mk ([]) 0 0), false) (.slice none 0 0) (rv_c 3 rfl rfl ty54 rfl) (rv_t rfl) rfl (fun w m => NewCh.ofB m [0] rfl)
        · refine c_skip ?_
          refine l_then ?_
          refine c_seq ?_
          refine c_region ?_
          refine stw (o_call (vs := [(.pointer (some ⟨b3, 0, none⟩))]) (M0 := [cellCh b3 [(.string s_0), (.int .i64 t85)] 133]) Tryd.call97 rfl rfl (by intro w m h; exact (w_impl_scanner_test (F := allB [cellCh b3 [(.string s_0), (.int .i64 t85)] 133] w) (in_0_text := s_0) (in_0_at := t85) allB_ok m.given (m.rdM 3 rfl (reads_snap hgl0)) h).mono (fun _ _ k => ret_free (fun r u => (fr_cons free_cell fr_nil)) k)) ?_); rintro ⟨r89, r90, r91⟩ _
          refine o_mv st rfl rfl ?_
          refine o_ext st (vs := [(.agg #[(.int .i64 r89.xField), (.int .i64 r89.xLo), (.int .i64 r89.xHi), (.bool r89.xNot)]), (.bool r90)]) rfl rfl rfl ?_
          refine o_ext st (vs := [(.agg #[(.int .i64 r89.xField), (.int .i64 r89.xLo), (.int .i64 r89.xHi), (.bool r89.xNot)]), (.bool r90)]) rfl rfl rfl ?_
          refine stw (o_alloc rfl [(.int .i64 0), (.int .i64 0), (.int .i64 0), (.bool false)] zero84 ?_); intro b92
          refine stw (o_stc (cs' := [(.int .i64 r89.xField), (.int .i64 r89.xLo), (.int .i64 r89.xHi), (.bool r89.xNot)]) 0 rfl rfl rfl ty84 rfl rfl rfl rfl ?_)
          refine o_as st rfl rfl ?_
          refine c_nil ?_
          refine l_then ?_
          refine c_seq ?_
          refine c_seq ?_
          refine c_region ?_
          refine o_mv st rfl rfl ?_
          refine o_not st rfl rfl ?_
          refine c_nil ?_
          refine l_then ?_
          refine c_cond rfl ?_ ?_
          · refine c_seq ?_
            refine c_region ?_
            refine o_bld st (qs := []) (cells := [(.slice none 0 0), (.int .i64 0), (.int .i64 0)]) (by intro ρ h; simp only [List.map_toArray, List.map_cons, List.map_nil]) rfl bld54 rfl ?_
            refine stw (o_stc (cs' := [(.slice none 0 0), (.int .i64 0), (.int .i64 0)]) 3 rfl rfl rfl ty54 rfl rfl rfl rfl ?_)
            refine o_as st rfl rfl ?_
            refine c_nil ?_
            refine l_then ?_
            refine c_ret ?_
            refine l_ret ?_
            refine b_ret ?_
            refine l_ret ?_
            refine b_ret ?_
            refine l_ret ?_
            refine nx_nil elGTest 84 ?_
            exact l_end2 Tryd.results84 ((GRule.mk ([]) 0 0), false) (.slice none 0 0) (rv_c 4 rfl rfl ty54 rfl) (rv_t rfl) rfl (fun w m => NewCh.ofB m [0] rfl)
          · refine c_skip ?_
            refine l_then ?_
            refine c_region ?_
            refine o_fad st rfl rfl fld54_0 rfl ?_
            refine o_ldc st (v := v16) 2 rfl rfl rfl ty52 rfl ?_
            refine o_ldc st (v := (.agg #[(.int .i64 r89.xField), (.int .i64 r89.xLo), (.int .i64 r89.xHi), (.bool r89.xNot)])) 0 rfl rfl rfl ty84 rfl ?_
            refine stw (o_bsl (enc := encGTest) (qs := [(0, (.agg #[(.int .i64 r89.xField), (.int .i64 r89.xLo), (.int .i64 r89.xHi), (.bool r89.xNot)]))]) (cells := [(.int .i64 r89.xField), (.int .i64 r89.xLo), (.int .i64 r89.xHi), (.bool r89.xNot)]) ([r89]) flelGTest (by intro ρ h; simp only [List.map_toArray, List.map_cons, List.map_nil, h (.tmp 38) _ rfl]) rfl el52 zero84 rfl rfl rfl rfl rfl rfl ?_); intro v95
            refine stw (o_app 5 0 rfl rfl (src_flat flelGTest reads_own) rfl rfl rfl el52 rfl zero84 rfl rfl ?_); intro v97
            refine o_fad st rfl rfl fld54_0 rfl ?_
            refine nx_own 5 rfl ?_; rintro a99 l100 q101 rfl
            refine stw (o_stc (cs' := [(.slice a99 l100 q101), (.int .i64 r5.xAction), (.int .i64 r5.xChain)]) 3 rfl rfl rfl ty52 rfl rfl rfl rfl ?_)
            refine c_nil ?_
            refine b_norm ?_
            exact l_join ((xs17 ++ ([r89])), r91) (fun a w hE hm => ⟨(.slice a99 l100 q101), hE.sub ⟨rfl, rfl, rfl, rfl, trivial⟩, (hm.pick [3, 2, 4, 6, 5] rfl)⟩)
    · refine c_exit ?_
      refine l_exit ?_
      refine l_exit ?_
      refine b_exit ?_
      refine l_then ?_
      refine c_seq ?_
      refine c_join (σ := Bool) (fun (t164 : Bool) (a : Act) (w : World) => Has 53 [(2, (.pointer (some ⟨b1, 0, none⟩))), (5, (.pointer (some ⟨b10, 0, none⟩))), (50, (.bool t164))] a ∧ Mem (gB F [] w0) (feet []) w0 [cellCh b10 [v16, (.int .i64 r5.xAction), (.int .i64 r5.xChain)] 54, cellCh b1 [(.slice none 0 0), (.int .i64 0), (.int .i64 0)] 54, ownCh elGTest 84 v16 xs17, snapCh w0 F] w) ?_ ?_
      · intro k165
        refine c_region ?_
        refine o_ldc st (v := (.agg #[v16, (.int .i64 r5.xAction), (.int .i64 r5.xChain)])) 1 rfl rfl rfl ty54 rfl ?_
        refine stw (o_callP (vs := [(.agg #[v16, (.int .i64 r5.xAction), (.int .i64 r5.xChain)])]) Tryd.call75 rfl rfl (by intro w m h; exact (w_impl_RuleValid (F := allB [] w) (r_0 := (GRule.mk xs17 r5.xAction r5.xChain)) allB_ok (m.rd0 4 rfl reads_own) (m.rd0 3 rfl (reads_snap hgl0)) h).mono (fun _ _ k => ret_free (fun r u => fr_nil) k)) ?_); rintro r102 _
        refine o_not st rfl rfl ?_
        refine o_mv st rfl rfl ?_
        refine st_sp (dj := 45) rfl ?_ ?_
        · refine st_s rfl rfl rfl rfl ?_
          refine st_s rfl rfl rfl rfl ?_
          refine st_s rfl rfl rfl rfl ?_
          refine st_s rfl rfl rfl rfl ?_
          refine o_pickT st rfl rfl rfl ?_
          refine c_nil ?_
          exact l_join true (fun a w hE hm => ⟨hE.sub ⟨rfl, rfl, rfl, trivial⟩, (hm.pick [1, 2, 4, 3] rfl)⟩)
        · refine o_ldc (st_g rfl rfl) (v := (.agg #[v16, (.int .i64 r5.xAction), (.int .i64 r5.xChain)])) 1 rfl rfl rfl ty54 rfl ?_
          refine st_gw rfl rfl (o_callP (vs := [(.agg #[v16, (.int .i64 r5.xAction), (.int .i64 r5.xChain)])]) Tryd.call38 rfl rfl (by intro w m h; exact (w_impl_Rule_text (F := allB [] w) (r_0 := (GRule.mk xs17 r5.xAction r5.xChain)) allB_ok (m.rd0 4 rfl reads_own) (m.rd0 3 rfl (reads_snap hgl0)) ((hgl1.of (m.get (i := 3) rfl)).mono fz_ok0) h).mono (fun _ _ k => ret_free (fun r u => fr_nil) k)) ?_); rintro r103 _
          refine o_mv (st_g rfl rfl) rfl rfl ?_
          refine o_neqS (st_g rfl rfl) und9 rfl rfl rfl ?_
          refine o_pickF st rfl rfl rfl ?_
          refine c_nil ?_
          exact l_join (!(decide (r103 = s_0))) (fun a w hE hm => ⟨hE.sub ⟨rfl, rfl, rfl, trivial⟩, (hm.pick [1, 2, 4, 3] rfl)⟩)
      · rintro t164 a w ⟨hE, hm⟩ h
        refine nx_of hE hm h ?_
        clear hE hm h
        refine c_cond rfl ?_ ?_
        · refine c_seq ?_
          refine c_region ?_
          refine o_bld st (qs := []) (cells := [(.slice none 0 0), (.int .i64 0), (.int .i64 0)]) (by intro ρ h; simp only [List.map_toArray, List.map_cons, List.map_nil]) rfl bld54 rfl ?_
          refine stw (o_stc (cs' := [(.slice none 0 0), (.int .i64 0), (.int .i64 0)]) 1 rfl rfl rfl ty54 rfl rfl rfl rfl ?_)
          refine o_as st rfl rfl ?_
          refine c_nil ?_
          refine l_then ?_
          refine c_ret ?_
          refine l_ret ?_
          refine nx_nil elGTest 84 ?_
          exact l_end2 Tryd.results84 ((GRule.mk ([]) 0 0), false) (.slice none 0 0) (rv_c 2 rfl rfl ty54 rfl) (rv_t rfl) rfl (fun w m => NewCh.ofB m [0] rfl)
        · refine c_skip ?_
          refine l_then ?_
          refine c_seq ?_
          refine c_region ?_
          refine o_ldc st (v := (.agg #[v16, (.int .i64 r5.xAction), (.int .i64 r5.xChain)])) 0 rfl rfl rfl ty54 rfl ?_
          refine nx_own 2 rfl ?_; rintro a167 l168 q169 rfl
          refine stw (o_stc (cs' := [(.slice a167 l168 q169), (.int .i64 r5.xAction), (.int .i64 r5.xChain)]) 1 rfl rfl rfl ty54 rfl rfl rfl rfl ?_)
          refine o_as st rfl rfl ?_
          refine c_nil ?_
          refine l_then ?_
          refine c_ret ?_
          exact l_end2 Tryd.results84 ((GRule.mk xs17 r5.xAction r5.xChain), true) (.slice a167 l168 q169) (rv_c 1 rfl rfl ty54 rfl) (rv_t rfl) rfl (fun w m => NewCh.ofB m [2] rfl)



end
section
open Go.RowKit
set_option maxRecDepth 100000 in
set_option maxHeartbeats 8000000 in
theorem w_impl_reader_takeRule {w0 : World} {F : Nat → Prop} {b1 : Nat} {v2 : Value} {bb3 : List Nat} {in_0_state : Int} {in_0_set_Chains : (List (List GRule))} {in_0_set_Accept : Bool} {line_1 : ByteArray} {κ : (Bool × (List (List GRule))) → Prop} (hF : ∀ b, F b → b < w0.heap.size ∧ ¬ feet [cellCh b1 [(.int .i64 in_0_state), v2, (.bool in_0_set_Accept)] 60, dpCh (dSl dGRule 54) 50 bb3 v2 in_0_set_Chains] b) (hg : Given [cellCh b1 [(.int .i64 in_0_state), v2, (.bool in_0_set_Accept)] 60, dpCh (dSl dGRule 54) 50 bb3 v2 in_0_set_Chains] F w0) (hgl0 : Sl elGFieldShape F w0 (.slice (some ⟨0, 0, none⟩) 4 4) gl_impl_fieldShapes) (hgl1 : Tb F w0) (h : L_impl_reader_takeRule in_0_state in_0_set_Chains in_0_set_Accept line_1 κ) :
    Calls Tryd.prog 67 #[(.pointer (some ⟨b1, 0, none⟩)), (.string line_1)] w0 (Ret [cellCh b1 [(.int .i64 in_0_state), v2, (.bool in_0_set_Accept)] 60, dpCh (dSl dGRule 54) 50 bb3 v2 in_0_set_Chains] F w0 κ (fun (r : (Bool × (List (List GRule)))) (u : Value × List Nat) => (.bool r.1)) (fun (r : (Bool × (List (List GRule)))) (u : Value × List Nat) => [cellCh b1 [(.int .i64 in_0_state), u.1, (.bool in_0_set_Accept)] 60, dpCh (dSl dGRule 54) 50 u.2 u.1 r.2])) := by
  refine enterS (args := [(.pointer (some ⟨b1, 0, none⟩)), (.string line_1)]) [cellCh b1 [(.int .i64 in_0_state), v2, (.bool in_0_set_Accept)] 60, dpCh (dSl dGRule 54) 50 bb3 v2 in_0_set_Chains] hF hg Tryd.func67 rfl Tryd.ntmps67 rfl h ?_
  clear h hF hg
  refine c_seq ?_
  refine c_region ?_
  refine o_as st rfl rfl ?_
  refine c_nil ?_
  refine l_then ?_
  refine c_seq ?_
  refine c_region ?_
  refine o_mv st rfl rfl ?_
  refine stw (o_callP (vs := [(.string line_1)]) Tryd.call84 rfl rfl (by intro w m h; exact (w_impl_ReadRule (F := allB [] w) (s_0 := line_1) allB_ok (m.rd0 2 rfl (reads_snap hgl0)) ((hgl1.of (m.get (i := 2) rfl)).mono fz_ok0) h).mono (fun _ _ k => ret_free (fun r u => (fr_cons (free_own flelGTest) fr_nil)) k)) ?_); rintro ⟨r6, r9⟩ v7
  refine o_mv st rfl rfl ?_
  refine o_ext st (vs := [(.agg #[v7, (.int .i64 r6.xAction), (.int .i64 r6.xChain)]), (.bool r9)]) rfl rfl rfl ?_
  refine o_ext st (vs := [(.agg #[v7, (.int .i64 r6.xAction), (.int .i64 r6.xChain)]), (.bool r9)]) rfl rfl rfl ?_
  refine stw (o_alloc rfl [(.slice none 0 0), (.int .i64 0), (.int .i64 0)] zero54 ?_); intro b10
  refine nx_own 1 rfl ?_; rintro a12 l13 q14 rfl
  refine stw (o_stc (cs' := [(.slice a12 l13 q14), (.int .i64 r6.xAction), (.int .i64 r6.xChain)]) 0 rfl rfl rfl ty54 rfl rfl rfl rfl ?_)
  refine o_as st rfl rfl ?_
  refine c_nil ?_
  refine l_then ?_
  refine c_seq ?_
  refine c_draw mixed 14 rfl [cellCh b10 [(.slice a12 l13 q14), (.int .i64 r6.xAction), (.int .i64 r6.xChain)] 54, cellCh b1 [(.int .i64 in_0_state), v2, (.bool in_0_set_Accept)] 60, snapCh w0 F] ?_
  refine o_mv (dt 0 (fun w m => m.pick [0, 2, 4] rfl)) rfl rfl ?_
  refine o_nilc (dt 1 (fun w m => m.pick [0, 2, 4] rfl)) rfl rfl ?_
  refine o_fad (dt 2 (fun w m => m.pick [0, 2, 4] rfl)) rfl rfl fld60_1 rfl ?_
  refine o_fad (dt 3 (fun w m => m.pick [0, 2, 4] rfl)) rfl rfl fld30_0 rfl ?_
  refine o_ldc (dt 4 (fun w m => m.pick [0, 2, 4] rfl)) (v := v2) 1 rfl rfl rfl ty28 rfl ?_
  refine o_mv (dt 5 (fun w m => m.pick [0, 2, 4] rfl)) rfl rfl ?_
  refine o_nilc (dt 6 (fun w m => m.pick [0, 2, 4] rfl)) rfl rfl ?_
  refine o_fad (dt 7 (fun w m => m.pick [0, 2, 4] rfl)) rfl rfl fld60_1 rfl ?_
  refine o_fad (dt 8 (fun w m => m.pick [0, 2, 4] rfl)) rfl rfl fld30_0 rfl ?_
  refine o_ldc (dt 9 (fun w m => m.pick [0, 2, 4] rfl)) (v := v2) 1 rfl rfl rfl ty28 rfl ?_
  refine d_one (i := 10) rfl (by kernel_rfl) (o_len m_op el28 3 rfl reads_dp rfl rfl ?_)
  refine d_and (fun w m => m.pick [0, 2, 4] rfl) ?_
  refine o_sub (dt 11 (fun w m => m.pick [0, 2, 4] rfl)) rfl rfl rfl ?_; intro t15
  refine d_one (i := 12) rfl (by kernel_rfl) (o_idx m_op 3 rfl reads_dp rfl rfl rfl el28 ?_); intro e16 h17
  refine d_and (fun w m => m.pick [0, 2, 4] rfl) ?_
  refine o_as (dt 13 (fun w m => m.pick [0, 2, 4] rfl)) rfl rfl ?_
  refine d_done (by kernel_rfl) ?_
  refine l_then ?_
  refine c_seq ?_
  refine c_seq ?_
  refine c_region ?_
  refine o_mv st rfl rfl ?_
  refine o_not st rfl rfl ?_
  refine o_mv st rfl rfl ?_
  refine st_sp (dj := 28) rfl ?_ ?_
  · refine st_s rfl rfl rfl rfl ?_
    refine st_s rfl rfl rfl rfl ?_
    refine st_s rfl rfl rfl rfl ?_
    refine st_s rfl rfl rfl rfl ?_
    refine st_s rfl rfl rfl rfl ?_
    refine o_pickT st rfl rfl rfl ?_
    refine c_nil ?_
    refine l_then ?_
    refine c_cond_t rfl ?_
    refine c_seq ?_
    refine c_region ?_
    refine o_as st rfl rfl ?_
    refine c_nil ?_
    refine l_then ?_
    refine c_ret ?_
    refine l_ret ?_
    exact l_end1 Tryd.results67 (false, in_0_set_Chains) (v2, bb3) (rv_t rfl) (fun w m => NewCh.ofB m [2, 3] rfl)
  · refine o_mv (st_g rfl rfl) rfl rfl ?_
    refine o_nilE (st_g rfl rfl) 3 rfl reads_dp h17 rfl rfl ?_
    refine pk [3, 0, 1, 2, 4] rfl ?_
    refine st_gw rfl rfl (o_ldF (E1 := dGRule) (t1 := 54) (zin := e16) (encz := fun v => [v]) rfl h17 (fun B w cs h => h) rfl rfl ty50 ?_); rintro v18 bb19 bb20; refine ⟨v18, rfl, ?_⟩
    refine o_len (st_g rfl rfl) el50 1 rfl reads_dp rfl rfl ?_
    refine o_eql (st_g rfl rfl) und3 rfl rfl rfl ?_
    refine o_pickF st rfl rfl rfl ?_
    refine c_nil ?_
    refine l_then ?_
    refine c_cond rfl ?_ ?_
    · refine c_seq ?_
      refine c_region ?_
      refine o_as st rfl rfl ?_
      refine c_nil ?_
      refine l_then ?_
      refine c_ret ?_
      refine l_ret ?_
      refine nx_close (M := [dpCh dGRule 54 bb20 v18 e16]) (y' := e16) (absorb_one gives_dp (fun B w h => ⟨_, rfl, h⟩)) ?_; intro bb22
      exact l_end1 Tryd.results67 (false, (in_0_set_Chains.set (t15).toNat e16)) (v2, bb22) (rv_t rfl) (fun w m => NewCh.ofB m [3, 0] rfl)
    · refine c_skip ?_
      refine l_then ?_
      refine c_join (σ := Unit) (fun (_ : Unit) (a : Act) (w : World) => ∃ (bb24 : List Nat), Has 49 [(0, (.pointer (some ⟨b1, 0, none⟩)))] a ∧ Mem (gB F [cellCh b1 [(.int .i64 in_0_state), v2, (.bool in_0_set_Accept)] 60, dpCh (dSl dGRule 54) 50 bb3 v2 in_0_set_Chains] w0) (feet [cellCh b1 [(.int .i64 in_0_state), v2, (.bool in_0_set_Accept)] 60, dpCh (dSl dGRule 54) 50 bb3 v2 in_0_set_Chains]) w0 [dpCh (dSl dGRule 54) 50 bb24 v2 (in_0_set_Chains.set (t15).toNat (e16 ++ ([r6]))), cellCh b1 [(.int .i64 in_0_state), v2, (.bool in_0_set_Accept)] 60, snapCh w0 F] w) ?_ ?_
      · intro k25
        refine c_drawQ mixed 9 rfl [cellCh b10 [(.slice a12 l13 q14), (.int .i64 r6.xAction), (.int .i64 r6.xChain)] 54, cellCh b1 [(.int .i64 in_0_state), v2, (.bool in_0_set_Accept)] 60, snapCh w0 F] ?_
        intro Qd hP hQ
        have H296 : ∀ (v26 : Value) (bb27 : List Nat) (a31 : Option Addr) (l32 : Nat) (q33 : Nat) (bb29 : List Nat) (bb34 : List Nat), Nx 49 (gB F [cellCh b1 [(.int .i64 in_0_state), v2, (.bool in_0_set_Accept)] 60, dpCh (dSl dGRule 54) 50 bb3 v2 in_0_set_Chains] w0) (feet [cellCh b1 [(.int .i64 in_0_state), v2, (.bool in_0_set_Accept)] 60, dpCh (dSl dGRule 54) 50 bb3 v2 in_0_set_Chains]) w0 (wpAnyH Tryd.prog .any (opsAt Tryd.f67 [1, 1, 1, 1, 0]) Qd (Mem (gB F [cellCh b1 [(.int .i64 in_0_state), v2, (.bool in_0_set_Accept)] 60, dpCh (dSl dGRule 54) 50 bb3 v2 in_0_set_Chains] w0) (feet [cellCh b1 [(.int .i64 in_0_state), v2, (.bool in_0_set_Accept)] 60, dpCh (dSl dGRule 54) 50 bb3 v2 in_0_set_Chains]) w0 [cellCh b10 [(.slice a12 l13 q14), (.int .i64 r6.xAction), (.int .i64 r6.xChain)] 54, cellCh b1 [(.int .i64 in_0_state), v2, (.bool in_0_set_Accept)] 60, snapCh w0 F]) 0 #[true, true, true, true, true, true, true, true, true]) [(0, (.pointer (some ⟨b1, 0, none⟩)))] [dpCh (dSl dGRule 54) 50 bb34 v2 (in_0_set_Chains.set (t15).toNat (e16 ++ ([r6]))), cellCh b10 [(.slice a12 l13 q14), (.int .i64 r6.xAction), (.int .i64 r6.xChain)] 54, cellCh b1 [(.int .i64 in_0_state), v2, (.bool in_0_set_Accept)] 60, snapCh w0 F] (k25 ()) := by
          intro v26 bb27 a31 l32 q33 bb29 bb34
          refine d_done (by kernel_rfl) ?_
          exact fun a w hE hm hφ => hQ () a w hφ ((fun a w hE hm => ⟨bb34, hE.sub ⟨rfl, trivial⟩, (hm.pick [0, 2, 3] rfl)⟩) a w hE hm)
        have H297 : ∀ (v26 : Value) (bb27 : List Nat) (v28 : Value) (bb29 : List Nat), Nx 49 (gB F [cellCh b1 [(.int .i64 in_0_state), v2, (.bool in_0_set_Accept)] 60, dpCh (dSl dGRule 54) 50 bb3 v2 in_0_set_Chains] w0) (feet [cellCh b1 [(.int .i64 in_0_state), v2, (.bool in_0_set_Accept)] 60, dpCh (dSl dGRule 54) 50 bb3 v2 in_0_set_Chains]) w0 (wpAnyH Tryd.prog .any (opsAt Tryd.f67 [1, 1, 1, 1, 0]) Qd (Mem (gB F [cellCh b1 [(.int .i64 in_0_state), v2, (.bool in_0_set_Accept)] 60, dpCh (dSl dGRule 54) 50 bb3 v2 in_0_set_Chains] w0) (feet [cellCh b1 [(.int .i64 in_0_state), v2, (.bool in_0_set_Accept)] 60, dpCh (dSl dGRule 54) 50 bb3 v2 in_0_set_Chains]) w0 [cellCh b10 [(.slice a12 l13 q14), (.int .i64 r6.xAction), (.int .i64 r6.xChain)] 54, cellCh b1 [(.int .i64 in_0_state), v2, (.bool in_0_set_Accept)] 60, snapCh w0 F]) 1 #[true, true, true, true, true, true, true, true, false]) [(0, (.pointer (some ⟨b1, 0, none⟩))), (41, v28), (42, (pEl v2 t15 1 0))] [dpCh dGRule 54 bb29 v28 (e16 ++ ([r6])), holeCh (dSl dGRule 54) 50 bb19 v2 in_0_set_Chains (t15).toNat [v18], cellCh b10 [(.slice a12 l13 q14), (.int .i64 r6.xAction), (.int .i64 r6.xChain)] 54, cellCh b1 [(.int .i64 in_0_state), v2, (.bool in_0_set_Accept)] 60, snapCh w0 F] (k25 ()) := by
          intro v26 bb27 v28 bb29
          refine nx_dp 0 rfl ?_; rintro a31 l32 q33 rfl
          refine pk [1, 0, 2, 3, 4] rfl ?_
          refine d_one (i := 8) rfl (by kernel_rfl) (o_stH (M := [dpCh dGRule 54 bb29 (.slice a31 l32 q33) (e16 ++ ([r6]))]) (y' := (e16 ++ ([r6]))) rfl (.inr (lt_of_get h17)) (absorb_one gives_dp (fun B w h => ⟨_, rfl, h⟩)) ty50 rfl rfl rfl rfl rfl ?_); intro bb34
          refine d_and (fun w m => m.pick [1, 2, 3] rfl) ?_
          refine pk [0, 1, 2, 3] rfl ?_
          refine re (E' := [(0, (.pointer (some ⟨b1, 0, none⟩)))]) ⟨rfl, trivial⟩ ?_
          exact H296 v26 bb27 a31 l32 q33 bb29 bb34
        have H298 : ∀ (v26 : Value) (bb27 : List Nat) (v28 : Value) (bb29 : List Nat), Nx 49 (gB F [cellCh b1 [(.int .i64 in_0_state), v2, (.bool in_0_set_Accept)] 60, dpCh (dSl dGRule 54) 50 bb3 v2 in_0_set_Chains] w0) (feet [cellCh b1 [(.int .i64 in_0_state), v2, (.bool in_0_set_Accept)] 60, dpCh (dSl dGRule 54) 50 bb3 v2 in_0_set_Chains]) w0 (wpAnyH Tryd.prog .any (opsAt Tryd.f67 [1, 1, 1, 1, 0]) Qd (Mem (gB F [cellCh b1 [(.int .i64 in_0_state), v2, (.bool in_0_set_Accept)] 60, dpCh (dSl dGRule 54) 50 bb3 v2 in_0_set_Chains] w0) (feet [cellCh b1 [(.int .i64 in_0_state), v2, (.bool in_0_set_Accept)] 60, dpCh (dSl dGRule 54) 50 bb3 v2 in_0_set_Chains]) w0 [cellCh b10 [(.slice a12 l13 q14), (.int .i64 r6.xAction), (.int .i64 r6.xChain)] 54, cellCh b1 [(.int .i64 in_0_state), v2, (.bool in_0_set_Accept)] 60, snapCh w0 F]) 2 #[true, true, true, true, true, true, true, false, false]) [(0, (.pointer (some ⟨b1, 0, none⟩))), (35, (pEl v2 t15 1 0)), (41, v28)] [dpCh dGRule 54 bb29 v28 (e16 ++ ([r6])), holeCh (dSl dGRule 54) 50 bb19 v2 in_0_set_Chains (t15).toNat [v18], cellCh b10 [(.slice a12 l13 q14), (.int .i64 r6.xAction), (.int .i64 r6.xChain)] 54, cellCh b1 [(.int .i64 in_0_state), v2, (.bool in_0_set_Accept)] 60, snapCh w0 F] (k25 ()) := by
          intro v26 bb27 v28 bb29
          refine d_one (i := 7) rfl (by kernel_rfl) (o_nilH m_op 1 rfl (lt_of_get h17) rfl rfl ?_)
          refine d_and (fun w m => m.pick [2, 3, 4] rfl) ?_
          refine pk [0, 1, 2, 3, 4] rfl ?_
          refine re (E' := [(0, (.pointer (some ⟨b1, 0, none⟩))), (41, v28), (42, (pEl v2 t15 1 0))]) ⟨rfl, rfl, rfl, trivial⟩ ?_
          exact H297 v26 bb27 v28 bb29
        have H299 : ∀ (v26 : Value) (bb27 : List Nat), Nx 49 (gB F [cellCh b1 [(.int .i64 in_0_state), v2, (.bool in_0_set_Accept)] 60, dpCh (dSl dGRule 54) 50 bb3 v2 in_0_set_Chains] w0) (feet [cellCh b1 [(.int .i64 in_0_state), v2, (.bool in_0_set_Accept)] 60, dpCh (dSl dGRule 54) 50 bb3 v2 in_0_set_Chains]) w0 (wpAnyH Tryd.prog .any (opsAt Tryd.f67 [1, 1, 1, 1, 0]) Qd (Mem (gB F [cellCh b1 [(.int .i64 in_0_state), v2, (.bool in_0_set_Accept)] 60, dpCh (dSl dGRule 54) 50 bb3 v2 in_0_set_Chains] w0) (feet [cellCh b1 [(.int .i64 in_0_state), v2, (.bool in_0_set_Accept)] 60, dpCh (dSl dGRule 54) 50 bb3 v2 in_0_set_Chains]) w0 [cellCh b10 [(.slice a12 l13 q14), (.int .i64 r6.xAction), (.int .i64 r6.xChain)] 54, cellCh b1 [(.int .i64 in_0_state), v2, (.bool in_0_set_Accept)] 60, snapCh w0 F]) 3 #[true, true, true, true, true, true, false, false, false]) [(0, (.pointer (some ⟨b1, 0, none⟩))), (35, (pEl v2 t15 1 0)), (38, v18), (40, v26)] [dpCh dGRule 54 bb27 v26 ([r6]), holeCh (dSl dGRule 54) 50 bb19 v2 in_0_set_Chains (t15).toNat [v18], dpCh dGRule 54 bb20 v18 e16, cellCh b10 [(.slice a12 l13 q14), (.int .i64 r6.xAction), (.int .i64 r6.xChain)] 54, cellCh b1 [(.int .i64 in_0_state), v2, (.bool in_0_set_Accept)] 60, snapCh w0 F] (appW e16 ([r6]) (fun _ => k25 ())) := by
          intro v26 bb27
          refine pk [2, 0, 1, 3, 4, 5] rfl ?_
          refine d_one (i := 6) rfl (by kernel_rfl) (o_appD rfl rfl rfl el50 rfl zero54 rfl rfl ?_); intro bb29 v28
          refine d_and (fun w m => m.pick [2, 3, 4] rfl) ?_
          refine pk [0, 1, 2, 3, 4] rfl ?_
          refine re (E' := [(0, (.pointer (some ⟨b1, 0, none⟩))), (35, (pEl v2 t15 1 0)), (41, v28)]) ⟨rfl, rfl, rfl, trivial⟩ ?_
          exact H298 v26 bb27 v28 bb29
        have H300 : ∀ (_ : Unit), Nx 49 (gB F [cellCh b1 [(.int .i64 in_0_state), v2, (.bool in_0_set_Accept)] 60, dpCh (dSl dGRule 54) 50 bb3 v2 in_0_set_Chains] w0) (feet [cellCh b1 [(.int .i64 in_0_state), v2, (.bool in_0_set_Accept)] 60, dpCh (dSl dGRule 54) 50 bb3 v2 in_0_set_Chains]) w0 (wpAnyH Tryd.prog .any (opsAt Tryd.f67 [1, 1, 1, 1, 0]) Qd (Mem (gB F [cellCh b1 [(.int .i64 in_0_state), v2, (.bool in_0_set_Accept)] 60, dpCh (dSl dGRule 54) 50 bb3 v2 in_0_set_Chains] w0) (feet [cellCh b1 [(.int .i64 in_0_state), v2, (.bool in_0_set_Accept)] 60, dpCh (dSl dGRule 54) 50 bb3 v2 in_0_set_Chains]) w0 [cellCh b10 [(.slice a12 l13 q14), (.int .i64 r6.xAction), (.int .i64 r6.xChain)] 54, cellCh b1 [(.int .i64 in_0_state), v2, (.bool in_0_set_Accept)] 60, snapCh w0 F]) 4 #[true, true, true, true, true, false, false, false, false]) [(0, (.pointer (some ⟨b1, 0, none⟩))), (35, (pEl v2 t15 1 0)), (39, (.agg #[(.slice a12 l13 q14), (.int .i64 r6.xAction), (.int .i64 r6.xChain)])), (38, v18)] [holeCh (dSl dGRule 54) 50 bb19 v2 in_0_set_Chains (t15).toNat [v18], dpCh dGRule 54 bb20 v18 e16, cellCh b10 [(.slice a12 l13 q14), (.int .i64 r6.xAction), (.int .i64 r6.xChain)] 54, ownCh elGTest 84 (.slice a12 l13 q14) r6.xTests, cellCh b1 [(.int .i64 in_0_state), v2, (.bool in_0_set_Accept)] 60, snapCh w0 F] (appW e16 ([r6]) (fun _ => k25 ())) := by
          intro _
          refine pk [3, 0, 1, 2, 4, 5] rfl ?_
          refine d_one (i := 5) rfl (by kernel_rfl) (o_bslD (M := [ownCh elGTest 84 (.slice a12 l13 q14) r6.xTests]) (E' := dGRule) (qs := [(0, (.agg #[(.slice a12 l13 q14), (.int .i64 r6.xAction), (.int .i64 r6.xChain)]))]) (cs := [(.slice a12 l13 q14), (.int .i64 r6.xAction), (.int .i64 r6.xChain)]) r6 (absorb_one (gives_own flelGTest) (fun B w h => ⟨_, rfl, h⟩)) (by intro ρ h; simp only [List.map_toArray, List.map_cons, List.map_nil, h (.tmp 39) _ rfl]) rfl el50 zero54 rfl rfl rfl rfl ?_); intro bb27 v26
          refine d_and (fun w m => m.pick [3, 4, 5] rfl) ?_
          refine pk [0, 1, 2, 3, 4, 5] rfl ?_
          refine re (E' := [(0, (.pointer (some ⟨b1, 0, none⟩))), (35, (pEl v2 t15 1 0)), (38, v18), (40, v26)]) ⟨rfl, rfl, rfl, rfl, trivial⟩ ?_
          exact H299 v26 bb27
        have H301 : ∀ (v36 : Value) (bb37 : List Nat), Nx 49 (gB F [cellCh b1 [(.int .i64 in_0_state), v2, (.bool in_0_set_Accept)] 60, dpCh (dSl dGRule 54) 50 bb3 v2 in_0_set_Chains] w0) (feet [cellCh b1 [(.int .i64 in_0_state), v2, (.bool in_0_set_Accept)] 60, dpCh (dSl dGRule 54) 50 bb3 v2 in_0_set_Chains]) w0 (wpAnyH Tryd.prog .any (opsAt Tryd.f67 [1, 1, 1, 1, 0]) Qd (Mem (gB F [cellCh b1 [(.int .i64 in_0_state), v2, (.bool in_0_set_Accept)] 60, dpCh (dSl dGRule 54) 50 bb3 v2 in_0_set_Chains] w0) (feet [cellCh b1 [(.int .i64 in_0_state), v2, (.bool in_0_set_Accept)] 60, dpCh (dSl dGRule 54) 50 bb3 v2 in_0_set_Chains]) w0 [cellCh b10 [(.slice a12 l13 q14), (.int .i64 r6.xAction), (.int .i64 r6.xChain)] 54, cellCh b1 [(.int .i64 in_0_state), v2, (.bool in_0_set_Accept)] 60, snapCh w0 F]) 4 #[true, true, true, false, true, true, false, false, false]) [(0, (.pointer (some ⟨b1, 0, none⟩))), (35, (pEl v2 t15 1 0)), (37, (pEl v2 t15 1 0)), (40, v36)] [dpCh dGRule 54 bb37 v36 ([r6]), holeCh (dSl dGRule 54) 50 bb19 v2 in_0_set_Chains (t15).toNat [v18], dpCh dGRule 54 bb20 v18 e16, cellCh b10 [(.slice a12 l13 q14), (.int .i64 r6.xAction), (.int .i64 r6.xChain)] 54, cellCh b1 [(.int .i64 in_0_state), v2, (.bool in_0_set_Accept)] 60, snapCh w0 F] (appW e16 ([r6]) (fun _ => k25 ())) := by
          intro v36 bb37
          refine d_one (i := 3) rfl (by kernel_rfl) (o_ldH (u := v18) 1 rfl rfl rfl rfl ty50 rfl ?_)
          refine d_and (fun w m => m.pick [3, 4, 5] rfl) ?_
          refine pk [0, 1, 2, 3, 4, 5] rfl ?_
          refine re (E' := [(0, (.pointer (some ⟨b1, 0, none⟩))), (35, (pEl v2 t15 1 0)), (38, v18), (40, v36)]) ⟨rfl, rfl, rfl, rfl, trivial⟩ ?_
          exact H299 v36 bb37
        have H302 : ∀ (_ : Unit), Nx 49 (gB F [cellCh b1 [(.int .i64 in_0_state), v2, (.bool in_0_set_Accept)] 60, dpCh (dSl dGRule 54) 50 bb3 v2 in_0_set_Chains] w0) (feet [cellCh b1 [(.int .i64 in_0_state), v2, (.bool in_0_set_Accept)] 60, dpCh (dSl dGRule 54) 50 bb3 v2 in_0_set_Chains]) w0 (wpAnyH Tryd.prog .any (opsAt Tryd.f67 [1, 1, 1, 1, 0]) Qd (Mem (gB F [cellCh b1 [(.int .i64 in_0_state), v2, (.bool in_0_set_Accept)] 60, dpCh (dSl dGRule 54) 50 bb3 v2 in_0_set_Chains] w0) (feet [cellCh b1 [(.int .i64 in_0_state), v2, (.bool in_0_set_Accept)] 60, dpCh (dSl dGRule 54) 50 bb3 v2 in_0_set_Chains]) w0 [cellCh b10 [(.slice a12 l13 q14), (.int .i64 r6.xAction), (.int .i64 r6.xChain)] 54, cellCh b1 [(.int .i64 in_0_state), v2, (.bool in_0_set_Accept)] 60, snapCh w0 F]) 5 #[true, true, true, false, true, false, false, false, false]) [(0, (.pointer (some ⟨b1, 0, none⟩))), (35, (pEl v2 t15 1 0)), (39, (.agg #[(.slice a12 l13 q14), (.int .i64 r6.xAction), (.int .i64 r6.xChain)])), (37, (pEl v2 t15 1 0))] [holeCh (dSl dGRule 54) 50 bb19 v2 in_0_set_Chains (t15).toNat [v18], dpCh dGRule 54 bb20 v18 e16, cellCh b10 [(.slice a12 l13 q14), (.int .i64 r6.xAction), (.int .i64 r6.xChain)] 54, ownCh elGTest 84 (.slice a12 l13 q14) r6.xTests, cellCh b1 [(.int .i64 in_0_state), v2, (.bool in_0_set_Accept)] 60, snapCh w0 F] (appW e16 ([r6]) (fun _ => k25 ())) := by
          intro _
          refine d_two (i := 3) (j := 5) rfl rfl (by kernel_rfl) ?_ ?_
          · intro o ho; cases ho
            refine o_ldH (u := v18) 0 rfl rfl rfl rfl ty50 rfl ?_
            refine d_and (fun w m => m.pick [2, 4, 5] rfl) ?_
            refine pk [0, 1, 2, 3, 4, 5] rfl ?_
            refine re (E' := [(0, (.pointer (some ⟨b1, 0, none⟩))), (35, (pEl v2 t15 1 0)), (39, (.agg #[(.slice a12 l13 q14), (.int .i64 r6.xAction), (.int .i64 r6.xChain)])), (38, v18)]) ⟨rfl, rfl, rfl, rfl, trivial⟩ ?_
            exact H300 ()
          · intro o ho; cases ho
            refine pk [3, 0, 1, 2, 4, 5] rfl ?_
            refine o_bslD (M := [ownCh elGTest 84 (.slice a12 l13 q14) r6.xTests]) (E' := dGRule) (qs := [(0, (.agg #[(.slice a12 l13 q14), (.int .i64 r6.xAction), (.int .i64 r6.xChain)]))]) (cs := [(.slice a12 l13 q14), (.int .i64 r6.xAction), (.int .i64 r6.xChain)]) r6 (absorb_one (gives_own flelGTest) (fun B w h => ⟨_, rfl, h⟩)) (by intro ρ h; simp only [List.map_toArray, List.map_cons, List.map_nil, h (.tmp 39) _ rfl]) rfl el50 zero54 rfl rfl rfl rfl ?_; intro bb37 v36
            refine d_and (fun w m => m.pick [3, 4, 5] rfl) ?_
            refine pk [0, 1, 2, 3, 4, 5] rfl ?_
            refine re (E' := [(0, (.pointer (some ⟨b1, 0, none⟩))), (35, (pEl v2 t15 1 0)), (37, (pEl v2 t15 1 0)), (40, v36)]) ⟨rfl, rfl, rfl, rfl, trivial⟩ ?_
            exact H301 v36 bb37
        have H303 : ∀ (v38 : Value) (bb39 : List Nat), Nx 49 (gB F [cellCh b1 [(.int .i64 in_0_state), v2, (.bool in_0_set_Accept)] 60, dpCh (dSl dGRule 54) 50 bb3 v2 in_0_set_Chains] w0) (feet [cellCh b1 [(.int .i64 in_0_state), v2, (.bool in_0_set_Accept)] 60, dpCh (dSl dGRule 54) 50 bb3 v2 in_0_set_Chains]) w0 (wpAnyH Tryd.prog .any (opsAt Tryd.f67 [1, 1, 1, 1, 0]) Qd (Mem (gB F [cellCh b1 [(.int .i64 in_0_state), v2, (.bool in_0_set_Accept)] 60, dpCh (dSl dGRule 54) 50 bb3 v2 in_0_set_Chains] w0) (feet [cellCh b1 [(.int .i64 in_0_state), v2, (.bool in_0_set_Accept)] 60, dpCh (dSl dGRule 54) 50 bb3 v2 in_0_set_Chains]) w0 [cellCh b10 [(.slice a12 l13 q14), (.int .i64 r6.xAction), (.int .i64 r6.xChain)] 54, cellCh b1 [(.int .i64 in_0_state), v2, (.bool in_0_set_Accept)] 60, snapCh w0 F]) 5 #[true, true, false, false, true, true, false, false, false]) [(0, (.pointer (some ⟨b1, 0, none⟩))), (35, (pEl v2 t15 1 0)), (36, (pEl v2 t15 1 0)), (40, v38)] [dpCh dGRule 54 bb39 v38 ([r6]), holeCh (dSl dGRule 54) 50 bb19 v2 in_0_set_Chains (t15).toNat [v18], dpCh dGRule 54 bb20 v18 e16, cellCh b10 [(.slice a12 l13 q14), (.int .i64 r6.xAction), (.int .i64 r6.xChain)] 54, cellCh b1 [(.int .i64 in_0_state), v2, (.bool in_0_set_Accept)] 60, snapCh w0 F] (appW e16 ([r6]) (fun _ => k25 ())) := by
          intro v38 bb39
          refine d_one (i := 2) rfl (by kernel_rfl) (o_nilH m_op 1 rfl (lt_of_get h17) rfl rfl ?_)
          refine d_and (fun w m => m.pick [3, 4, 5] rfl) ?_
          refine pk [0, 1, 2, 3, 4, 5] rfl ?_
          refine re (E' := [(0, (.pointer (some ⟨b1, 0, none⟩))), (35, (pEl v2 t15 1 0)), (37, (pEl v2 t15 1 0)), (40, v38)]) ⟨rfl, rfl, rfl, rfl, trivial⟩ ?_
          exact H301 v38 bb39
        refine o_mv (dt 0 (fun w m => m.pick [2, 4, 5] rfl)) rfl rfl ?_
        refine o_mv (dt 1 (fun w m => m.pick [2, 4, 5] rfl)) rfl rfl ?_
        refine o_ldc (dt 4 (fun w m => m.pick [2, 4, 5] rfl)) (v := (.agg #[(.slice a12 l13 q14), (.int .i64 r6.xAction), (.int .i64 r6.xChain)])) 0 rfl rfl rfl ty54 rfl ?_
        refine d_two (i := 2) (j := 5) rfl rfl (by kernel_rfl) ?_ ?_
        · intro o ho; cases ho
          refine o_nilH m_op 0 rfl (lt_of_get h17) rfl rfl ?_
          refine d_and (fun w m => m.pick [2, 4, 5] rfl) ?_
          refine pk [0, 1, 2, 3, 4, 5] rfl ?_
          refine re (E' := [(0, (.pointer (some ⟨b1, 0, none⟩))), (35, (pEl v2 t15 1 0)), (39, (.agg #[(.slice a12 l13 q14), (.int .i64 r6.xAction), (.int .i64 r6.xChain)])), (37, (pEl v2 t15 1 0))]) ⟨rfl, rfl, rfl, rfl, trivial⟩ ?_
          exact H302 ()
        · intro o ho; cases ho
          refine pk [3, 0, 1, 2, 4, 5] rfl ?_
          refine o_bslD (M := [ownCh elGTest 84 (.slice a12 l13 q14) r6.xTests]) (E' := dGRule) (qs := [(0, (.agg #[(.slice a12 l13 q14), (.int .i64 r6.xAction), (.int .i64 r6.xChain)]))]) (cs := [(.slice a12 l13 q14), (.int .i64 r6.xAction), (.int .i64 r6.xChain)]) r6 (absorb_one (gives_own flelGTest) (fun B w h => ⟨_, rfl, h⟩)) (by intro ρ h; simp only [List.map_toArray, List.map_cons, List.map_nil, h (.tmp 39) _ rfl]) rfl el50 zero54 rfl rfl rfl rfl ?_; intro bb39 v38
          refine d_and (fun w m => m.pick [3, 4, 5] rfl) ?_
          refine pk [0, 1, 2, 3, 4, 5] rfl ?_
          refine re (E' := [(0, (.pointer (some ⟨b1, 0, none⟩))), (35, (pEl v2 t15 1 0)), (36, (pEl v2 t15 1 0)), (40, v38)]) ⟨rfl, rfl, rfl, rfl, trivial⟩ ?_
          exact H303 v38 bb39
      · rintro ⟨⟩ a w ⟨bb24, hE, hm⟩ h
        refine nx_of hE hm h ?_
        clear hE hm h
        refine c_seq ?_
        refine c_region ?_
        refine o_mv st rfl rfl ?_
        refine o_nilc st rfl rfl ?_
        refine o_fad st rfl rfl fld60_1 rfl ?_
        refine o_fad st rfl rfl fld30_0 rfl ?_
        refine o_ldc st (v := v2) 1 rfl rfl rfl ty28 rfl ?_
        refine stw (o_callP (vs := [v2]) Tryd.call56 rfl rfl (by intro w m h; exact (w_impl_acyclic (F := allB [] w) (chains_0 := (in_0_set_Chains.set (t15).toNat (e16 ++ ([r6])))) allB_ok (m.rd0 0 rfl reads_dp) h).mono (fun _ _ k => ret_free (fun r u => fr_nil) k)) ?_); rintro r40 _
        refine o_as st rfl rfl ?_
        refine c_nil ?_
        refine l_then ?_
        refine c_ret ?_
        exact l_end1 Tryd.results67 (r40, (in_0_set_Chains.set (t15).toNat (e16 ++ ([r6])))) (v2, bb24) (rv_t rfl) (fun w m => NewCh.ofB m [1, 0] rfl)

set_option maxRecDepth 100000 in
set_option maxHeartbeats 8000000 in
theorem w_impl_reader_take {w0 : World} {F : Nat → Prop} {b1 : Nat} {v2 : Value} {bb3 : List Nat} {in_0_state : Int} {in_0_set_Chains : (List (List GRule))} {in_0_set_Accept : Bool} {line_1 : ByteArray} {κ : (Bool × Int × (List (List GRule)) × Bool) → Prop} (hF : ∀ b, F b → b < w0.heap.size ∧ ¬ feet [cellCh b1 [(.int .i64 in_0_state), v2, (.bool in_0_set_Accept)] 60, dpCh (dSl dGRule 54) 50 bb3 v2 in_0_set_Chains] b) (hg : Given [cellCh b1 [(.int .i64 in_0_state), v2, (.bool in_0_set_Accept)] 60, dpCh (dSl dGRule 54) 50 bb3 v2 in_0_set_Chains] F w0) (hgl0 : Sl elGFieldShape F w0 (.slice (some ⟨0, 0, none⟩) 4 4) gl_impl_fieldShapes) (hgl1 : Tb F w0) (h : L_impl_reader_take in_0_state in_0_set_Chains in_0_set_Accept line_1 κ) :
    Calls Tryd.prog 43 #[(.pointer (some ⟨b1, 0, none⟩)), (.string line_1)] w0 (Ret [cellCh b1 [(.int .i64 in_0_state), v2, (.bool in_0_set_Accept)] 60, dpCh (dSl dGRule 54) 50 bb3 v2 in_0_set_Chains] F w0 κ (fun (r : (Bool × Int × (List (List GRule)) × Bool)) (u : Value × List Nat) => (.bool r.1)) (fun (r : (Bool × Int × (List (List GRule)) × Bool)) (u : Value × List Nat) => [cellCh b1 [(.int .i64 r.2.1), u.1, (.bool r.2.2.2)] 60, dpCh (dSl dGRule 54) 50 u.2 u.1 r.2.2.1])) := by
  refine enterS (args := [(.pointer (some ⟨b1, 0, none⟩)), (.string line_1)]) [cellCh b1 [(.int .i64 in_0_state), v2, (.bool in_0_set_Accept)] 60, dpCh (dSl dGRule 54) 50 bb3 v2 in_0_set_Chains] hF hg Tryd.func43 rfl Tryd.ntmps43 rfl h ?_
  clear h hF hg
  refine c_seq ?_
  refine c_region ?_
  refine o_as st rfl rfl ?_
  refine c_nil ?_
  refine l_then ?_
  refine c_seq ?_
  refine c_seq ?_
  refine c_region ?_
  refine o_mv st rfl rfl ?_
  refine o_nilc st rfl rfl ?_
  refine o_fad st rfl rfl fld60_0 rfl ?_
  refine o_ldc st (v := (.int .i64 in_0_state)) 0 rfl rfl rfl ty3 rfl ?_
  refine c_nil ?_
  refine l_then ?_
  refine c_block ?_
  refine c_seq ?_
  refine c_region ?_
  refine o_eql st und3 rfl rfl rfl ?_
  refine o_as st rfl rfl ?_
  refine c_nil ?_
  refine l_then ?_
  refine c_cond rfl ?_ ?_
  · refine c_seq ?_
    refine c_region ?_
    refine o_mv st rfl rfl ?_
    refine o_nilc st rfl rfl ?_
    refine o_fad st rfl rfl fld60_0 rfl ?_
    refine stw (o_stc (cs' := [(.int .i64 1), v2, (.bool in_0_set_Accept)]) 0 rfl rfl rfl ty3 rfl rfl rfl rfl ?_)
    refine c_nil ?_
    refine l_then ?_
    refine c_seq ?_
    refine c_region ?_
    refine o_mv st rfl rfl ?_
    refine o_mv st rfl rfl ?_
    refine o_eqlS st und9 rfl rfl rfl ?_
    refine o_nilc st rfl rfl ?_
    refine o_fad st rfl rfl fld60_1 rfl ?_
    refine o_fad st rfl rfl fld30_1 rfl ?_
    refine stw (o_stc (cs' := [(.int .i64 1), v2, (.bool (decide (line_1 = (ByteArray.mk #[100, 101, 102, 97, 117, 108, 116, 32, 97, 99, 99, 101, 112, 116]))))]) 0 rfl rfl rfl ty4 rfl rfl rfl rfl ?_)
    refine c_nil ?_
    refine l_then ?_
    refine c_join (σ := Bool) (fun (t66 : Bool) (a : Act) (w : World) => Has 42 [(4, (.bool t66))] a ∧ Mem (gB F [cellCh b1 [(.int .i64 in_0_state), v2, (.bool in_0_set_Accept)] 60, dpCh (dSl dGRule 54) 50 bb3 v2 in_0_set_Chains] w0) (feet [cellCh b1 [(.int .i64 in_0_state), v2, (.bool in_0_set_Accept)] 60, dpCh (dSl dGRule 54) 50 bb3 v2 in_0_set_Chains]) w0 [cellCh b1 [(.int .i64 1), v2, (.bool (decide (line_1 = (ByteArray.mk #[100, 101, 102, 97, 117, 108, 116, 32, 97, 99, 99, 101, 112, 116]))))] 60, dpCh (dSl dGRule 54) 50 bb3 v2 in_0_set_Chains, snapCh w0 F] w) ?_ ?_
    · intro k67
      refine c_region ?_
      refine o_mv st rfl rfl ?_
      refine o_eqlS st und9 rfl rfl rfl ?_
      refine o_mv st rfl rfl ?_
      refine st_sp (dj := 22) rfl ?_ ?_
      · refine st_s rfl rfl rfl rfl ?_
        refine st_s rfl rfl rfl rfl ?_
        refine o_pickT st rfl rfl rfl ?_
        refine o_as st rfl rfl ?_
        refine c_nil ?_
        exact l_join true (fun a w hE hm => ⟨hE.sub ⟨rfl, trivial⟩, (hm.pick [0, 1, 2] rfl)⟩)
      · refine o_mv (st_g rfl rfl) rfl rfl ?_
        refine o_eqlS (st_g rfl rfl) und9 rfl rfl rfl ?_
        refine o_pickF st rfl rfl rfl ?_
        refine o_as st rfl rfl ?_
        refine c_nil ?_
        exact l_join (decide (line_1 = (ByteArray.mk #[100, 101, 102, 97, 117, 108, 116, 32, 100, 114, 111, 112]))) (fun a w hE hm => ⟨hE.sub ⟨rfl, trivial⟩, (hm.pick [0, 1, 2] rfl)⟩)
    · rintro t66 a w ⟨hE, hm⟩ h
      refine nx_of hE hm h ?_
      clear hE hm h
      refine c_ret ?_
      refine b_ret ?_
      refine l_ret ?_
      exact l_end1 Tryd.results43 (t66, 1, in_0_set_Chains, (decide (line_1 = (ByteArray.mk #[100, 101, 102, 97, 117, 108, 116, 32, 97, 99, 99, 101, 112, 116])))) (v2, bb3) (rv_t rfl) (fun w m => NewCh.ofB m [0, 1] rfl)
  · refine c_seq ?_
    refine c_region ?_
    refine o_eql st und3 rfl rfl rfl ?_
    refine o_as st rfl rfl ?_
    refine c_nil ?_
    refine l_then ?_
    refine c_cond rfl ?_ ?_
    · refine c_seq ?_
      refine c_region ?_
      refine o_mv st rfl rfl ?_
      refine o_nilc st rfl rfl ?_
      refine o_fad st rfl rfl fld60_0 rfl ?_
      refine stw (o_stc (cs' := [(.int .i64 2), v2, (.bool in_0_set_Accept)]) 0 rfl rfl rfl ty3 rfl rfl rfl rfl ?_)
      refine c_nil ?_
      refine l_then ?_
      refine c_seq ?_
      refine c_region ?_
      refine o_mv st rfl rfl ?_
      refine o_mv st rfl rfl ?_
      refine stw (o_call (vs := [(.pointer (some ⟨b1, 0, none⟩)), (.string line_1)]) (M0 := [cellCh b1 [(.int .i64 2), v2, (.bool in_0_set_Accept)] 60, dpCh (dSl dGRule 54) 50 bb3 v2 in_0_set_Chains]) Tryd.call66 rfl rfl (by intro w m h; exact (w_impl_reader_takeChain (F := allB [cellCh b1 [(.int .i64 2), v2, (.bool in_0_set_Accept)] 60, dpCh (dSl dGRule 54) 50 bb3 v2 in_0_set_Chains] w) (in_0_state := 2) (in_0_set_Chains := in_0_set_Chains) (in_0_set_Accept := in_0_set_Accept) (line_1 := line_1) allB_ok m.given ((hgl1.of (m.get (i := 2) rfl)).mono fz_ok) h).mono (fun _ _ k => ret_free (fun r u => (fr_cons free_cell (fr_cons free_dp fr_nil))) k)) ?_); rintro ⟨r68, r69⟩ ⟨v70, bb71⟩
      refine o_as st rfl rfl ?_
      refine c_nil ?_
      refine l_then ?_
      refine c_ret ?_
      refine b_ret ?_
      refine l_ret ?_
      exact l_end1 Tryd.results43 (r68, 2, r69, in_0_set_Accept) (v70, bb71) (rv_t rfl) (fun w m => NewCh.ofB m [0, 1] rfl)
    · refine c_skip ?_
      refine b_norm ?_
      refine l_then ?_
      refine c_join (σ := ((List (List GRule)) × Bool)) (fun ((xs143, t147) : ((List (List GRule)) × Bool)) (a : Act) (w : World) => ∃ (v144 : Value) (bb146 : List Nat), Has 42 [(4, (.bool t147))] a ∧ Mem (gB F [cellCh b1 [(.int .i64 in_0_state), v2, (.bool in_0_set_Accept)] 60, dpCh (dSl dGRule 54) 50 bb3 v2 in_0_set_Chains] w0) (feet [cellCh b1 [(.int .i64 in_0_state), v2, (.bool in_0_set_Accept)] 60, dpCh (dSl dGRule 54) 50 bb3 v2 in_0_set_Chains]) w0 [cellCh b1 [(.int .i64 in_0_state), v144, (.bool in_0_set_Accept)] 60, dpCh (dSl dGRule 54) 50 bb146 v144 xs143, snapCh w0 F] w) ?_ ?_
      · intro k148
        refine c_region ?_
        refine o_mv st rfl rfl ?_
        refine o_mv st rfl rfl ?_
        refine stw (o_call (vs := [(.pointer (some ⟨b1, 0, none⟩)), (.string line_1)]) (M0 := [cellCh b1 [(.int .i64 in_0_state), v2, (.bool in_0_set_Accept)] 60, dpCh (dSl dGRule 54) 50 bb3 v2 in_0_set_Chains]) Tryd.call66 rfl rfl (by intro w m h; exact (w_impl_reader_takeChain (F := allB [cellCh b1 [(.int .i64 in_0_state), v2, (.bool in_0_set_Accept)] 60, dpCh (dSl dGRule 54) 50 bb3 v2 in_0_set_Chains] w) (in_0_state := in_0_state) (in_0_set_Chains := in_0_set_Chains) (in_0_set_Accept := in_0_set_Accept) (line_1 := line_1) allB_ok m.given ((hgl1.of (m.get (i := 2) rfl)).mono fz_ok) h).mono (fun _ _ k => ret_free (fun r u => (fr_cons free_cell (fr_cons free_dp fr_nil))) k)) ?_); rintro ⟨r73, r74⟩ ⟨v75, bb76⟩
        refine o_mv st rfl rfl ?_
        refine st_sp (dj := 37) rfl ?_ ?_
        · refine st_s rfl rfl rfl rfl ?_
          refine st_s rfl rfl rfl rfl ?_
          refine st_s rfl rfl rfl rfl ?_
          refine o_pickT st rfl rfl rfl ?_
          refine o_as st rfl rfl ?_
          refine c_nil ?_
          exact l_join (r74, true) (fun a w hE hm => ⟨v75, bb76, hE.sub ⟨rfl, trivial⟩, (hm.pick [0, 1, 2] rfl)⟩)
        · refine o_mv (st_g rfl rfl) rfl rfl ?_
          refine o_mv (st_g rfl rfl) rfl rfl ?_
          refine st_gw rfl rfl (o_call (vs := [(.pointer (some ⟨b1, 0, none⟩)), (.string line_1)]) (M0 := [cellCh b1 [(.int .i64 in_0_state), v75, (.bool in_0_set_Accept)] 60, dpCh (dSl dGRule 54) 50 bb76 v75 r74]) Tryd.call67 rfl rfl (by intro w m h; exact (w_impl_reader_takeRule (F := allB [cellCh b1 [(.int .i64 in_0_state), v75, (.bool in_0_set_Accept)] 60, dpCh (dSl dGRule 54) 50 bb76 v75 r74] w) (in_0_state := in_0_state) (in_0_set_Chains := r74) (in_0_set_Accept := in_0_set_Accept) (line_1 := line_1) allB_ok m.given (m.rdM 0 rfl (reads_snap hgl0)) ((hgl1.of (m.get (i := 2) rfl)).mono fz_ok) h).mono (fun _ _ k => ret_free (fun r u => (fr_cons free_cell (fr_cons free_dp fr_nil))) k)) ?_); rintro ⟨r78, r79⟩ ⟨v80, bb81⟩
          refine o_pickF st rfl rfl rfl ?_
          refine o_as st rfl rfl ?_
          refine c_nil ?_
          exact l_join (r79, r78) (fun a w hE hm => ⟨v80, bb81, hE.sub ⟨rfl, trivial⟩, (hm.pick [0, 1, 2] rfl)⟩)
      · rintro ⟨xs143, t147⟩ a w ⟨v144, bb146, hE, hm⟩ h
        refine nx_of hE hm h ?_
        clear hE hm h
        refine c_ret ?_
        exact l_end1 Tryd.results43 (t147, in_0_state, xs143, in_0_set_Accept) (v144, bb146) (rv_t rfl) (fun w m => NewCh.ofB m [0, 1] rfl)

set_option maxRecDepth 100000 in
set_option maxHeartbeats 8000000 in
theorem w_impl_FirstBad {w0 : World} {F : Nat → Prop} {v1 : Value} {lines_0 : (List ByteArray)} {κ : Int → Prop} (hF : ∀ b, F b → b < w0.heap.size ∧ ¬ feet [] b) (hv1 : Sl elStr F w0 v1 lines_0) (hgl0 : Sl elGFieldShape F w0 (.slice (some ⟨0, 0, none⟩) 4 4) gl_impl_fieldShapes) (hgl1 : Tb F w0) (h : L_impl_FirstBad lines_0 κ) :
    Calls Tryd.prog 21 #[v1] w0 (Ret [] F w0 κ (fun (r : Int) (u : Unit) => (.int .i64 r)) (fun (r : Int) (u : Unit) => [])) := by
  refine enterS (args := [v1]) [] hF (Given.nil _ _) Tryd.func21 rfl Tryd.ntmps21 rfl h ?_
  clear h hF
  refine c_seq ?_
  refine c_region ?_
  refine o_as st rfl rfl ?_
  refine c_nil ?_
  refine l_then ?_
  refine c_seq ?_
  refine c_region ?_
  refine stw (o_alloc rfl [(.int .i64 0), (.slice none 0 0), (.bool false)] zero60 ?_); intro b3
  refine c_nil ?_
  refine l_then ?_
  refine c_seq ?_
  refine c_seq ?_
  refine c_region ?_
  refine o_mv st rfl rfl ?_
  refine o_len st el26 1 rfl (reads_snap hv1) rfl rfl ?_
  refine o_mv st rfl rfl ?_
  refine c_nil ?_
  refine l_then ?_
  refine c_block ?_
  refine c_loop (σ := (Int × (List (List GRule)) × Bool × Int)) (fun ((t5, xs7, t11, t12) : (Int × (List (List GRule)) × Bool × Int)) (a : Act) (w : World) => ∃ (v6 : Value) (bb9 : List Nat), Has 24 [(0, v1), (3, (.pointer (some ⟨b3, 0, none⟩))), (6, v1), (7, (.int .i64 (lines_0.length : Int))), (8, (.int .i64 t12))] a ∧ Mem (gB F [] w0) (feet []) w0 [cellCh b3 [(.int .i64 t5), v6, (.bool t11)] 60, snapCh w0 F, dpCh (dSl dGRule 54) 50 bb9 v6 xs7] w) (fun a w hE hm => ⟨(.slice none 0 0), [], hE.sub ⟨rfl, rfl, rfl, rfl, rfl, trivial⟩, ((mem_dnil (dSl dGRule 54) 50 hm).pick [1, 2, 0] rfl)⟩) ?_
  rintro nx13 ⟨t5, xs7, t11, t12⟩ a w ⟨v6, bb9, hE, hm⟩ h
  refine nx_of hE hm h ?_
  clear hE hm h
  refine c_seq ?_
  refine c_region ?_
  refine o_lss st rfl rfl rfl ?_
  refine c_nil ?_
  refine l_then ?_
  refine c_seq ?_
  refine c_cond rfl ?_ ?_
  · refine c_skip ?_
    refine l_then ?_
    refine c_seq ?_
    refine c_block ?_
    refine c_seq ?_
    refine c_region ?_
    refine o_mv st rfl rfl ?_
    refine o_idx st 1 rfl (reads_snap hv1) rfl rfl rfl el26 ?_; intro e14 h15
    refine o_lds st (enc := encStr) (u := (.string e14)) 1 rfl (reads_snap hv1) flelStr rfl h15 rfl rfl ty9 rfl ?_
    refine o_as st rfl rfl ?_
    refine o_as st rfl rfl ?_
    refine c_nil ?_
    refine l_then ?_
    refine c_seq ?_
    refine c_region ?_
    refine o_mv st rfl rfl ?_
    refine pk [0, 2, 1] rfl ?_
    refine stw (o_call (vs := [(.pointer (some ⟨b3, 0, none⟩)), (.string e14)]) (M0 := [cellCh b3 [(.int .i64 t5), v6, (.bool t11)] 60, dpCh (dSl dGRule 54) 50 bb9 v6 xs7]) Tryd.call43 rfl rfl (by intro w m h; exact (w_impl_reader_take (F := allB [cellCh b3 [(.int .i64 t5), v6, (.bool t11)] 60, dpCh (dSl dGRule 54) 50 bb9 v6 xs7] w) (in_0_state := t5) (in_0_set_Chains := xs7) (in_0_set_Accept := t11) (line_1 := e14) allB_ok m.given (m.rdM 0 rfl (reads_snap hgl0)) ((hgl1.of (m.get (i := 2) rfl)).mono fz_ok) h).mono (fun _ _ k => ret_free (fun r u => (fr_cons free_cell (fr_cons free_dp fr_nil))) k)) ?_); rintro ⟨r16, r17, r18, r22⟩ ⟨v19, bb20⟩
    refine o_not st rfl rfl ?_
    refine c_nil ?_
    refine l_then ?_
    refine c_cond rfl ?_ ?_
    · refine c_seq ?_
      refine c_region ?_
      refine o_mv st rfl rfl ?_
      refine o_as st rfl rfl ?_
      refine c_nil ?_
      refine l_then ?_
      refine c_ret ?_
      refine b_ret ?_
      refine l_ret ?_
      refine l_ret ?_
      refine b_ret ?_
      refine l_ret ?_
      exact l_end1 Tryd.results21 t12 () (rv_t rfl) (fun _ _ => NewCh.nil _ _ _ _)
    · refine c_skip ?_
      refine b_norm ?_
      refine l_then ?_
      refine c_region ?_
      refine o_add st rfl rfl rfl ?_; intro t23
      refine o_mv st rfl rfl ?_
      refine c_nil ?_
      exact l_join (r17, r18, r22, t23) (fun a w hE hm => ⟨v19, bb20, hE.sub ⟨rfl, rfl, rfl, rfl, rfl, trivial⟩, (hm.pick [0, 2, 1] rfl)⟩)
  · refine c_exit ?_
    refine l_exit ?_
    refine l_exit ?_
    refine b_exit ?_
    refine l_then ?_
    refine c_seq ?_
    refine c_seq ?_
    refine c_region ?_
    refine o_fad st rfl rfl fld60_1 rfl ?_
    refine o_ldc st (v := (.agg #[v6, (.bool t11)])) 0 rfl rfl rfl ty30 rfl ?_
    refine stw (o_callP (vs := [(.agg #[v6, (.bool t11)])]) Tryd.call32 rfl rfl (by intro w m h; exact (w_impl_RulesetValid (F := allB [] w) (s_0 := (GRuleset.mk xs7 t11)) allB_ok (m.rd0 2 rfl reads_dp) (m.rd0 1 rfl (reads_snap hgl0)) h).mono (fun _ _ k => ret_free (fun r u => fr_nil) k)) ?_); rintro r24 _
    refine o_not st rfl rfl ?_
    refine c_nil ?_
    refine l_then ?_
    refine c_cond rfl ?_ ?_
    · refine c_seq ?_
      refine c_region ?_
      refine o_mv st rfl rfl ?_
      refine o_len st el26 1 rfl (reads_snap hv1) rfl rfl ?_
      refine o_as st rfl rfl ?_
      refine c_nil ?_
      refine l_then ?_
      refine c_ret ?_
      refine l_ret ?_
      exact l_end1 Tryd.results21 (lines_0.length : Int) () (rv_t rfl) (fun _ _ => NewCh.nil _ _ _ _)
    · refine c_skip ?_
      refine l_then ?_
      refine c_seq ?_
      refine c_region ?_
      refine o_as st rfl rfl ?_
      refine c_nil ?_
      refine l_then ?_
      refine c_ret ?_
      exact l_end1 Tryd.results21 (-1) () (rv_t rfl) (fun _ _ => NewCh.nil _ _ _ _)

set_option maxRecDepth 100000 in
set_option maxHeartbeats 8000000 in
theorem w_laws_FnExactFirstBad {w0 : World} {F : Nat → Prop} {v1 : Value} {aLines_0 : (List ByteArray)} {κ : Bool → Prop} (hF : ∀ b, F b → b < w0.heap.size ∧ ¬ feet [] b) (hv1 : Sl elStr F w0 v1 aLines_0) (hgl0 : Sl elGFieldShape F w0 (.slice (some ⟨0, 0, none⟩) 4 4) gl_impl_fieldShapes) (hgl1 : Tb F w0) (h : L_laws_FnExactFirstBad aLines_0 κ) :
    Calls Tryd.prog 4 #[v1] w0 (Ret [] F w0 κ (fun (r : Bool) (u : Unit) => (.bool r)) (fun (r : Bool) (u : Unit) => [])) := by
  refine enterS (args := [v1]) [] hF (Given.nil _ _) Tryd.func4 rfl Tryd.ntmps4 rfl h ?_
  clear h hF
  refine c_seq ?_
  refine c_region ?_
  refine o_as st rfl rfl ?_
  refine c_nil ?_
  refine l_then ?_
  refine c_seq ?_
  refine c_region ?_
  refine o_as st rfl rfl ?_
  refine c_nil ?_
  refine l_then ?_
  refine c_seq ?_
  refine c_region ?_
  refine o_mv st rfl rfl ?_
  refine o_mv st rfl rfl ?_
  refine stw (o_callP (vs := [v1, (.int .i64 1048576)]) Tryd.call18 rfl rfl (by intro w m h; exact (w_laws_szStringS (F := allB [] w) (a_0 := aLines_0) (left_1 := 1048576) allB_ok (m.rd0 0 rfl (reads_snap hv1)) h).mono (fun _ _ k => ret_free (fun r u => fr_nil) k)) ?_); rintro r3 _
  refine o_as st rfl rfl ?_
  refine c_nil ?_
  refine l_then ?_
  refine c_seq ?_
  refine c_seq ?_
  refine c_region ?_
  refine o_mv st rfl rfl ?_
  refine o_lss st rfl rfl rfl ?_
  refine c_nil ?_
  refine l_then ?_
  refine c_cond rfl ?_ ?_
  · refine c_seq ?_
    refine c_region ?_
    refine o_as st rfl rfl ?_
    refine c_nil ?_
    refine l_then ?_
    refine c_ret ?_
    refine l_ret ?_
    exact l_end1 Tryd.results4 true () (rv_t rfl) (fun _ _ => NewCh.nil _ _ _ _)
  · refine c_skip ?_
    refine l_then ?_
    refine c_seq ?_
    refine c_region ?_
    refine o_mv st rfl rfl ?_
    refine stw (o_callP (vs := [v1]) Tryd.call20 rfl rfl (by intro w m h; exact (w_laws_toStringS (F := allB [] w) (a_0 := aLines_0) allB_ok (m.rd0 0 rfl (reads_snap hv1)) h).mono (fun _ _ k => ret_free (fun r u => (fr_cons (free_own flelStr) fr_nil)) k)) ?_); rintro r4 v5
    refine stw (o_callP (vs := [v5]) Tryd.call19 rfl rfl (by intro w m h; exact (w_spec_FirstBad (F := allB [] w) (lines_0 := r4) allB_ok (m.rd0 0 rfl reads_own) h).mono (fun _ _ k => ret_free (fun r u => fr_nil) k)) ?_); rintro r7 _
    refine o_as st rfl rfl ?_
    refine c_nil ?_
    refine l_then ?_
    refine c_seq ?_
    refine c_region ?_
    refine o_mv st rfl rfl ?_
    refine stw (o_callP (vs := [v1]) Tryd.call20 rfl rfl (by intro w m h; exact (w_laws_toStringS (F := allB [] w) (a_0 := aLines_0) allB_ok (m.rd0 1 rfl (reads_snap hv1)) h).mono (fun _ _ k => ret_free (fun r u => (fr_cons (free_own flelStr) fr_nil)) k)) ?_); rintro r8 v9
    refine o_as st rfl rfl ?_
    refine c_nil ?_
    refine l_then ?_
    refine c_seq ?_
    refine c_region ?_
    refine o_mv st rfl rfl ?_
    refine stw (o_callP (vs := [v9]) Tryd.call21 rfl rfl (by intro w m h; exact (w_impl_FirstBad (F := allB [] w) (lines_0 := r8) allB_ok (m.rd0 0 rfl reads_own) (m.rd0 2 rfl (reads_snap hgl0)) ((hgl1.of (m.get (i := 2) rfl)).mono fz_ok0) h).mono (fun _ _ k => ret_free (fun r u => fr_nil) k)) ?_); rintro r11 _
    refine o_as st rfl rfl ?_
    refine c_nil ?_
    refine l_then ?_
    refine c_seq ?_
    refine c_seq ?_
    refine c_region ?_
    refine o_mv st rfl rfl ?_
    refine o_mv st rfl rfl ?_
    refine o_neq st und3 rfl rfl rfl ?_
    refine c_nil ?_
    refine l_then ?_
    refine c_cond rfl ?_ ?_
    · refine c_seq ?_
      refine c_region ?_
      refine o_as st rfl rfl ?_
      refine c_nil ?_
      refine l_then ?_
      refine c_ret ?_
      refine l_ret ?_
      exact l_end1 Tryd.results4 false () (rv_t rfl) (fun _ _ => NewCh.nil _ _ _ _)
    · refine c_skip ?_
      refine l_then ?_
      refine c_seq ?_
      refine c_seq ?_
      refine c_region ?_
      refine o_mv st rfl rfl ?_
      refine o_mv st rfl rfl ?_
      refine stw (o_callP (vs := [v1]) Tryd.call20 rfl rfl (by intro w m h; exact (w_laws_toStringS (F := allB [] w) (a_0 := aLines_0) allB_ok (m.rd0 2 rfl (reads_snap hv1)) h).mono (fun _ _ k => ret_free (fun r u => (fr_cons (free_own flelStr) fr_nil)) k)) ?_); rintro r12 v13
      refine stw (o_callP (vs := [v9, v13]) Tryd.call13 rfl rfl (by intro w m h; exact (w_laws_eqStringS (F := allB [] w) (a_0 := r8) (b_1 := r12) allB_ok (m.rd0 1 rfl reads_own) (m.rd0 0 rfl reads_own) h).mono (fun _ _ k => ret_free (fun r u => fr_nil) k)) ?_); rintro r15 _
      refine o_not st rfl rfl ?_
      refine c_nil ?_
      refine l_then ?_
      refine c_cond rfl ?_ ?_
      · refine c_seq ?_
        refine c_region ?_
        refine o_as st rfl rfl ?_
        refine c_nil ?_
        refine l_then ?_
        refine c_ret ?_
        refine l_ret ?_
        exact l_end1 Tryd.results4 false () (rv_t rfl) (fun _ _ => NewCh.nil _ _ _ _)
      · refine c_skip ?_
        refine l_then ?_
        refine c_seq ?_
        refine c_region ?_
        refine o_as st rfl rfl ?_
        refine c_nil ?_
        refine l_then ?_
        refine c_ret ?_
        exact l_end1 Tryd.results4 true () (rv_t rfl) (fun _ _ => NewCh.nil _ _ _ _)

end

end Go.Proofs.YtlcjkhnamgklgaaDoor
