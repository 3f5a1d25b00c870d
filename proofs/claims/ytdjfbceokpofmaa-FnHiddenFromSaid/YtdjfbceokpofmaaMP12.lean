/- Texts of this seat, put together. -/
import Derived.Test.YtdjfbceokpofmaaMP1
set_option linter.unusedSimpArgs false
set_option linter.unusedVariables false
set_option linter.unusedSectionVars false
namespace Go.Proofs.Ytdjfbceokpofmaa
section
open Go.RowKit
set_option maxRecDepth 100000 in
set_option maxHeartbeats 8000000 in
theorem w_impl_SpansOf {w0 : World} {F : Nat → Prop} {v1 : Value} {list_0 : (List GSpan)} {top_1 : Int} {κ : (List GSpan) → Prop} (hF : ∀ b, F b → b < w0.heap.size ∧ ¬ feet [] b) (hv1 : Sl elGSpan F w0 v1 list_0) (h : L_impl_SpansOf list_0 top_1 κ) :
    Calls Try.prog 53 #[v1, (.int .i64 top_1)] w0 (Ret [] F w0 κ (fun (r : (List GSpan)) (u : Value) => u) (fun (r : (List GSpan)) (u : Value) => [ownCh elGSpan 58 u r])) := by
  refine enterS (args := [v1, (.int .i64 top_1)]) [] hF (Given.nil _ _) Try.func53 rfl Try.ntmps53 rfl h ?_
  clear h hF
  refine c_seq ?_
  refine c_region ?_
  refine stw (o_asn elGSpan 58 rfl rfl ?_)
  refine c_nil ?_
  refine l_then ?_
  refine c_seq ?_
  refine c_join (σ := Bool) (fun (t65 : Bool) (a : Act) (w : World) => Has 86 [(0, v1), (1, (.int .i64 top_1)), (20, (.bool t65))] a ∧ Mem (gB F [] w0) (feet []) w0 [snapCh w0 F] w) ?_ ?_
  · intro k66
    refine c_region ?_
    refine o_mv st rfl rfl ?_
    refine stw (o_callP (vs := [(.int .i64 top_1)]) Try.call42 rfl rfl (by intro w m h; exact (w_impl_topValid (F := allB [] w) (top_0 := top_1) allB_ok h).mono (fun _ _ k => ret_free (fun r u => fr_nil) k)) ?_); rintro r4 _
    refine o_not st rfl rfl ?_
    refine o_mv st rfl rfl ?_
    refine st_sp (dj := 16) rfl ?_ ?_
    · refine st_s rfl rfl rfl rfl ?_
      refine st_s rfl rfl rfl rfl ?_
      refine st_s rfl rfl rfl rfl ?_
      refine o_pickT st rfl rfl rfl ?_
      refine c_nil ?_
      exact l_join true (fun a w hE hm => ⟨hE.sub ⟨rfl, rfl, rfl, trivial⟩, (hm.pick [1] rfl)⟩)
    · refine o_mv (st_g rfl rfl) rfl rfl ?_
      refine o_len (st_g rfl rfl) el45 1 rfl (reads_snap hv1) rfl rfl ?_
      refine o_gtr (st_g rfl rfl) rfl rfl rfl ?_
      refine o_pickF st rfl rfl rfl ?_
      refine c_nil ?_
      exact l_join (decide (40 < (list_0.length : Int))) (fun a w hE hm => ⟨hE.sub ⟨rfl, rfl, rfl, trivial⟩, (hm.pick [1] rfl)⟩)
  · rintro t65 a w ⟨hE, hm⟩ h
    refine nx_of hE hm h ?_
    clear hE hm h
    refine c_cond rfl ?_ ?_
    · refine c_seq ?_
      refine c_region ?_
      refine stw (o_asn elGSpan 58 rfl rfl ?_)
      refine c_nil ?_
      refine l_then ?_
      refine c_ret ?_
      refine l_ret ?_
      exact l_end1 Try.results53 ([]) (.slice none 0 0) (rv_t rfl) (fun w m => NewCh.ofB m [0] rfl)
    · refine c_skip ?_
      refine l_then ?_
      refine c_seq ?_
      refine c_region ?_
      refine o_mv st rfl rfl ?_
      refine o_len st el45 0 rfl (reads_snap hv1) rfl rfl ?_
      refine o_mul st rfl rfl rfl ?_; intro t68
      refine stw (o_make (z := (GEdge.mk 0 0)) flelGEdge rfl rfl rfl el90 rfl zero92 rfl rfl ?_); intro v69 xs70
      refine o_as st rfl rfl ?_
      refine c_nil ?_
      refine l_then ?_
      refine c_seq ?_
      refine c_seq ?_
      refine c_region ?_
      refine o_mv st rfl rfl ?_
      refine o_len st el45 1 rfl (reads_snap hv1) rfl rfl ?_
      refine o_mv st rfl rfl ?_
      refine c_nil ?_
      refine l_then ?_
      refine c_block ?_
      refine c_loop (σ := ((List GEdge) × Int)) (fun ((xs73, t76) : ((List GEdge) × Int)) (a : Act) (w : World) => ∃ (v72 : Value), Has 86 [(1, (.int .i64 top_1)), (5, v72), (25, v1), (26, (.int .i64 (list_0.length : Int))), (27, (.int .i64 t76))] a ∧ Mem (gB F [] w0) (feet []) w0 [snapCh w0 F, ownCh elGEdge 92 v72 xs73] w) (fun a w hE hm => ⟨v69, hE.sub ⟨rfl, rfl, rfl, rfl, rfl, trivial⟩, (hm.pick [1, 0] rfl)⟩) ?_
      rintro nx77 ⟨xs73, t76⟩ a w ⟨v72, hE, hm⟩ h
      refine nx_of hE hm h ?_
      clear hE hm h
      refine c_seq ?_
      refine c_region ?_
      refine o_lss st rfl rfl rfl ?_
      refine c_nil ?_
      refine l_then ?_
      refine c_seq ?_
      refine c_cond rfl ?_ ?_
      · refine c_skip ?_
        refine l_then ?_
        refine c_seq ?_
        refine c_block ?_
        refine c_seq ?_
        refine c_region ?_
        refine o_idx st 0 rfl (reads_snap hv1) rfl rfl rfl el45 ?_; intro e78 h79
        refine o_lds st (enc := encGSpan) (u := (.agg #[(.int .i64 e78.xLo), (.int .i64 e78.xHi)])) 0 rfl (reads_snap hv1) flelGSpan rfl h79 rfl rfl ty58 rfl ?_
        refine stw (o_alloc rfl [(.int .i64 0), (.int .i64 0)] zero58 ?_); intro b80
        refine stw (o_stc (cs' := [(.int .i64 e78.xLo), (.int .i64 e78.xHi)]) 0 rfl rfl rfl ty58 rfl rfl rfl rfl ?_)
        refine c_nil ?_
        refine l_then ?_
        refine c_seq ?_
        refine c_join (σ := Bool) (fun (t142 : Bool) (a : Act) (w : World) => Has 86 [(1, (.int .i64 top_1)), (5, v72), (25, v1), (26, (.int .i64 (list_0.length : Int))), (27, (.int .i64 t76)), (7, (.pointer (some ⟨b80, 0, none⟩))), (46, (.bool t142))] a ∧ Mem (gB F [] w0) (feet []) w0 [cellCh b80 [(.int .i64 e78.xLo), (.int .i64 e78.xHi)] 58, ownCh elGEdge 92 v72 xs73, snapCh w0 F] w) ?_ ?_
        · intro k143
          refine c_region ?_
          refine o_fad st rfl rfl fld58_0 rfl ?_
          refine o_ldc st (v := (.int .i64 e78.xLo)) 0 rfl rfl rfl ty3 rfl ?_
          refine o_lss st rfl rfl rfl ?_
          refine o_mv st rfl rfl ?_
          refine st_sp (dj := 34) rfl ?_ ?_
          · refine st_s rfl rfl rfl rfl ?_
            refine st_s rfl rfl rfl rfl ?_
            refine st_s rfl rfl rfl rfl ?_
            refine st_s rfl rfl rfl rfl ?_
            refine st_s rfl rfl rfl rfl ?_
            refine o_pickT st rfl rfl rfl ?_
            refine o_mv st rfl rfl ?_
            refine st_s rfl rfl rfl rfl ?_
            refine st_s rfl rfl rfl rfl ?_
            refine st_s rfl rfl rfl rfl ?_
            refine st_s rfl rfl rfl rfl ?_
            refine o_pickT st rfl rfl rfl ?_
            refine c_nil ?_
            exact l_join true (fun a w hE hm => ⟨hE.sub ⟨rfl, rfl, rfl, rfl, rfl, rfl, rfl, trivial⟩, (hm.pick [0, 2, 1] rfl)⟩)
          · refine o_fad (st_g rfl rfl) rfl rfl fld58_0 rfl ?_
            refine o_ldc (st_g rfl rfl) (v := (.int .i64 e78.xLo)) 0 rfl rfl rfl ty3 rfl ?_
            refine o_fad (st_g rfl rfl) rfl rfl fld58_1 rfl ?_
            refine o_ldc (st_g rfl rfl) (v := (.int .i64 e78.xHi)) 0 rfl rfl rfl ty3 rfl ?_
            refine o_gtr (st_g rfl rfl) rfl rfl rfl ?_
            refine o_pickF st rfl rfl rfl ?_
            refine o_mv st rfl rfl ?_
            refine st_sp (dj := 41) rfl ?_ ?_
            · refine st_s rfl rfl rfl rfl ?_
              refine st_s rfl rfl rfl rfl ?_
              refine st_s rfl rfl rfl rfl ?_
              refine st_s rfl rfl rfl rfl ?_
              refine o_pickT st rfl rfl rfl ?_
              refine c_nil ?_
              exact l_join true (fun a w hE hm => ⟨hE.sub ⟨rfl, rfl, rfl, rfl, rfl, rfl, rfl, trivial⟩, (hm.pick [0, 2, 1] rfl)⟩)
            · refine o_fad (st_g rfl rfl) rfl rfl fld58_1 rfl ?_
              refine o_ldc (st_g rfl rfl) (v := (.int .i64 e78.xHi)) 0 rfl rfl rfl ty3 rfl ?_
              refine o_mv (st_g rfl rfl) rfl rfl ?_
              refine o_gtr (st_g rfl rfl) rfl rfl rfl ?_
              refine o_pickF st rfl rfl rfl ?_
              refine c_nil ?_
              exact l_join (decide (top_1 < e78.xHi)) (fun a w hE hm => ⟨hE.sub ⟨rfl, rfl, rfl, rfl, rfl, rfl, rfl, trivial⟩, (hm.pick [0, 2, 1] rfl)⟩)
        · rintro t142 a w ⟨hE, hm⟩ h
          refine nx_of hE hm h ?_
          clear hE hm h
          refine c_cond rfl ?_ ?_
          · refine c_seq ?_
            refine c_region ?_
            refine stw (o_asn elGSpan 58 rfl rfl ?_)
            refine c_nil ?_
            refine l_then ?_
            refine c_ret ?_
            refine l_ret ?_
            refine b_ret ?_
            refine l_ret ?_
            refine l_ret ?_
            refine b_ret ?_
            refine l_ret ?_
            exact l_end1 Try.results53 ([]) (.slice none 0 0) (rv_t rfl) (fun w m => NewCh.ofB m [0] rfl)
          · refine c_skip ?_
            refine l_then ?_
            refine c_region ?_
            refine o_mv st rfl rfl ?_
            refine o_fad st rfl rfl fld58_0 rfl ?_
            refine o_ldc st (v := (.int .i64 e78.xLo)) 0 rfl rfl rfl ty3 rfl ?_
            refine o_bld st (qs := [(0, (.int .i64 e78.xLo)), (1, (.int .i64 1))]) (cells := [(.int .i64 e78.xLo), (.int .i64 1)]) (by intro ρ h; simp only [List.map_toArray, List.map_cons, List.map_nil, h (.tmp 49) _ rfl, h (.const (.int .i64 1)) _ rfl]) rfl bld92 rfl ?_
            refine o_fad st rfl rfl fld58_1 rfl ?_
            refine o_ldc st (v := (.int .i64 e78.xHi)) 0 rfl rfl rfl ty3 rfl ?_
            refine o_add st rfl rfl rfl ?_; intro t145
            refine o_bld st (qs := [(0, (.int .i64 t145)), (1, (.int .i64 (-1)))]) (cells := [(.int .i64 t145), (.int .i64 (-1))]) (by intro ρ h; simp only [List.map_toArray, List.map_cons, List.map_nil, h (.tmp 53) _ rfl, h (.const (.int .i64 (-1))) _ rfl]) rfl bld92 rfl ?_
            refine stw (o_bsl (enc := encGEdge) (qs := [(0, (.agg #[(.int .i64 e78.xLo), (.int .i64 1)])), (1, (.agg #[(.int .i64 t145), (.int .i64 (-1))]))]) (cells := [(.int .i64 e78.xLo), (.int .i64 1), (.int .i64 t145), (.int .i64 (-1))]) ([(GEdge.mk e78.xLo 1), (GEdge.mk t145 (-1))]) flelGEdge (by intro ρ h; simp only [List.map_toArray, List.map_cons, List.map_nil, h (.tmp 50) _ rfl, h (.tmp 54) _ rfl]) rfl el90 zero92 rfl rfl rfl rfl rfl rfl ?_); intro v146
            refine stw (o_app 2 0 rfl rfl (src_flat flelGEdge reads_own) rfl rfl rfl el90 rfl zero92 rfl rfl ?_); intro v148
            refine o_as st rfl rfl ?_
            refine c_nil ?_
            refine b_norm ?_
            refine l_then ?_
            refine c_region ?_
            refine o_add st rfl rfl rfl ?_; intro t150
            refine o_mv st rfl rfl ?_
            refine c_nil ?_
            exact l_join ((xs73 ++ ([(GEdge.mk e78.xLo 1), (GEdge.mk t145 (-1))])), t150) (fun a w hE hm => ⟨v148, hE.sub ⟨rfl, rfl, rfl, rfl, rfl, trivial⟩, (hm.pick [3, 2] rfl)⟩)
      · refine c_exit ?_
        refine l_exit ?_
        refine l_exit ?_
        refine b_exit ?_
        refine l_then ?_
        refine c_seq ?_
        refine c_region ?_
        refine o_mv st rfl rfl ?_
        refine pk [1, 0] rfl ?_
        refine stw (o_call (vs := [v72, (.func (.func 66) #[] #[])]) (M0 := [ownCh elGEdge 92 v72 xs73]) Try.call65 rfl rfl (by intro w m h; exact (w_srt_GEdge (F := allB [ownCh elGEdge 92 v72 xs73] w) (xs := xs73) allB_ok m.given h).mono (fun _ _ k => ret_free (fun r u => (fr_cons (free_own flelGEdge) fr_nil)) k)) ?_); rintro r151 _
        refine c_nil ?_
        refine l_then ?_
        refine c_seq ?_
        refine c_region ?_
        refine stw (o_asn elGSpan 58 rfl rfl ?_)
        refine c_nil ?_
        refine l_then ?_
        refine c_seq ?_
        refine c_region ?_
        refine o_as st rfl rfl ?_
        refine c_nil ?_
        refine l_then ?_
        refine c_seq ?_
        refine c_region ?_
        refine o_as st rfl rfl ?_
        refine c_nil ?_
        refine l_then ?_
        refine c_seq ?_
        refine c_seq ?_
        refine c_region ?_
        refine o_mv st rfl rfl ?_
        refine o_len st el90 1 rfl reads_own rfl rfl ?_
        refine o_mv st rfl rfl ?_
        refine c_nil ?_
        refine l_then ?_
        refine c_block ?_
        refine c_loop (σ := ((List GSpan) × Int × Int × Int)) (fun ((xs155, t158, t159, t160) : ((List GSpan) × Int × Int × Int)) (a : Act) (w : World) => ∃ (v154 : Value), Has 86 [(8, v154), (9, (.int .i64 t158)), (10, (.int .i64 t159)), (60, v72), (61, (.int .i64 (r151.length : Int))), (62, (.int .i64 t160))] a ∧ Mem (gB F [] w0) (feet []) w0 [ownCh elGEdge 92 v72 r151, ownCh elGSpan 58 v154 xs155] w) (fun a w hE hm => ⟨(.slice none 0 0), hE.sub ⟨rfl, rfl, rfl, rfl, rfl, rfl, trivial⟩, (hm.pick [1, 0] rfl)⟩) ?_
        rintro nx161 ⟨xs155, t158, t159, t160⟩ a w ⟨v154, hE, hm⟩ h
        refine nx_of hE hm h ?_
        clear hE hm h
        refine c_seq ?_
        refine c_region ?_
        refine o_lss st rfl rfl rfl ?_
        refine c_nil ?_
        refine l_then ?_
        refine c_seq ?_
        refine c_cond rfl ?_ ?_
        · refine c_skip ?_
          refine l_then ?_
          refine c_join (σ := ((List GSpan) × Int × Int)) (fun ((xs294, t297, t298) : ((List GSpan) × Int × Int)) (a : Act) (w : World) => ∃ (v295 : Value), Has 86 [(8, v295), (9, (.int .i64 t297)), (10, (.int .i64 t298)), (60, v72), (61, (.int .i64 (r151.length : Int))), (62, (.int .i64 t160))] a ∧ Mem (gB F [] w0) (feet []) w0 [ownCh elGEdge 92 v72 r151, ownCh elGSpan 58 v295 xs294] w) ?_ ?_
          · intro k299
            refine c_block ?_
            refine c_seq ?_
            refine c_region ?_
            refine o_idx st 0 rfl reads_own rfl rfl rfl el90 ?_; intro e162 h163
            refine o_lds st (enc := encGEdge) (u := (.agg #[(.int .i64 e162.xAt), (.int .i64 e162.xStep)])) 0 rfl reads_own flelGEdge rfl h163 rfl rfl ty92 rfl ?_
            refine stw (o_alloc rfl [(.int .i64 0), (.int .i64 0)] zero92 ?_); intro b164
            refine stw (o_stc (cs' := [(.int .i64 e162.xAt), (.int .i64 e162.xStep)]) 0 rfl rfl rfl ty92 rfl rfl rfl rfl ?_)
            refine c_nil ?_
            refine l_then ?_
            refine c_join (σ := Int) (fun (t226 : Int) (a : Act) (w : World) => Has 86 [(8, v154), (9, (.int .i64 t158)), (10, (.int .i64 t226)), (60, v72), (61, (.int .i64 (r151.length : Int))), (62, (.int .i64 t160)), (12, (.pointer (some ⟨b164, 0, none⟩)))] a ∧ Mem (gB F [] w0) (feet []) w0 [cellCh b164 [(.int .i64 e162.xAt), (.int .i64 e162.xStep)] 92, ownCh elGEdge 92 v72 r151, ownCh elGSpan 58 v154 xs155] w) ?_ ?_
            · intro k227
              refine c_seq ?_
              refine c_region ?_
              refine o_mv st rfl rfl ?_
              refine o_eql st und3 rfl rfl rfl ?_
              refine c_nil ?_
              refine l_then ?_
              refine c_cond rfl ?_ ?_
              · refine c_region ?_
                refine o_fad st rfl rfl fld92_0 rfl ?_
                refine o_ldc st (v := (.int .i64 e162.xAt)) 0 rfl rfl rfl ty3 rfl ?_
                refine o_as st rfl rfl ?_
                refine c_nil ?_
                exact l_join e162.xAt (fun a w hE hm => ⟨hE.sub ⟨rfl, rfl, rfl, rfl, rfl, rfl, rfl, trivial⟩, (hm.pick [0, 1, 2] rfl)⟩)
              · refine c_skip ?_
                exact l_join t159 (fun a w hE hm => ⟨hE.sub ⟨rfl, rfl, rfl, rfl, rfl, rfl, rfl, trivial⟩, (hm.pick [0, 1, 2] rfl)⟩)
            · rintro t226 a w ⟨hE, hm⟩ h
              refine nx_of hE hm h ?_
              clear hE hm h
              refine c_seq ?_
              refine c_region ?_
              refine o_mv st rfl rfl ?_
              refine o_fad st rfl rfl fld92_1 rfl ?_
              refine o_ldc st (v := (.int .i64 e162.xStep)) 0 rfl rfl rfl ty3 rfl ?_
              refine o_add st rfl rfl rfl ?_; intro t228
              refine o_as st rfl rfl ?_
              refine c_nil ?_
              refine l_then ?_
              refine c_seq ?_
              refine c_region ?_
              refine o_mv st rfl rfl ?_
              refine o_eql st und3 rfl rfl rfl ?_
              refine c_nil ?_
              refine l_then ?_
              refine c_cond rfl ?_ ?_
              · refine c_region ?_
                refine o_mv st rfl rfl ?_
                refine o_mv st rfl rfl ?_
                refine o_fad st rfl rfl fld92_0 rfl ?_
                refine o_ldc st (v := (.int .i64 e162.xAt)) 0 rfl rfl rfl ty3 rfl ?_
                refine o_sub st rfl rfl rfl ?_; intro t229
                refine o_bld st (qs := [(0, (.int .i64 t226)), (1, (.int .i64 t229))]) (cells := [(.int .i64 t226), (.int .i64 t229)]) (by intro ρ h; simp only [List.map_toArray, List.map_cons, List.map_nil, h (.tmp 77) _ rfl, h (.tmp 80) _ rfl]) rfl bld58 rfl ?_
                refine stw (o_bsl (enc := encGSpan) (qs := [(0, (.agg #[(.int .i64 t226), (.int .i64 t229)]))]) (cells := [(.int .i64 t226), (.int .i64 t229)]) ([(GSpan.mk t226 t229)]) flelGSpan (by intro ρ h; simp only [List.map_toArray, List.map_cons, List.map_nil, h (.tmp 81) _ rfl]) rfl el45 zero58 rfl rfl rfl rfl rfl rfl ?_); intro v230
                refine stw (o_app 3 0 rfl rfl (src_flat flelGSpan reads_own) rfl rfl rfl el45 rfl zero58 rfl rfl ?_); intro v232
                refine o_as st rfl rfl ?_
                refine c_nil ?_
                refine b_norm ?_
                exact l_join ((xs155 ++ ([(GSpan.mk t226 t229)])), t228, t226) (fun a w hE hm => ⟨v232, hE.sub ⟨rfl, rfl, rfl, rfl, rfl, rfl, trivial⟩, (hm.pick [2, 3] rfl)⟩)
              · refine c_skip ?_
                refine b_norm ?_
                exact l_join (xs155, t228, t226) (fun a w hE hm => ⟨v154, hE.sub ⟨rfl, rfl, rfl, rfl, rfl, rfl, trivial⟩, (hm.pick [1, 2] rfl)⟩)
          · rintro ⟨xs294, t297, t298⟩ a w ⟨v295, hE, hm⟩ h
            refine nx_of hE hm h ?_
            clear hE hm h
            refine c_region ?_
            refine o_add st rfl rfl rfl ?_; intro t300
            refine o_mv st rfl rfl ?_
            refine c_nil ?_
            exact l_join (xs294, t297, t298, t300) (fun a w hE hm => ⟨v295, hE.sub ⟨rfl, rfl, rfl, rfl, rfl, rfl, trivial⟩, (hm.pick [0, 1] rfl)⟩)
        · refine c_exit ?_
          refine l_exit ?_
          refine l_exit ?_
          refine b_exit ?_
          refine l_then ?_
          refine c_seq ?_
          refine c_region ?_
          refine o_mv st rfl rfl ?_
          refine o_as st rfl rfl ?_
          refine c_nil ?_
          refine l_then ?_
          refine c_ret ?_
          exact l_end1 Try.results53 xs155 v154 (rv_t rfl) (fun w m => NewCh.ofB m [1] rfl)

set_option maxRecDepth 100000 in
set_option maxHeartbeats 8000000 in
theorem w_impl_PrefixesSpans {w0 : World} {F : Nat → Prop} {v1 : Value} {list_0 : (List GPrefix)} {κ : (List GSpan) → Prop} (hF : ∀ b, F b → b < w0.heap.size ∧ ¬ feet [] b) (hv1 : Sl elGPrefix F w0 v1 list_0) (h : L_impl_PrefixesSpans list_0 κ) :
    Calls Try.prog 40 #[v1] w0 (Ret [] F w0 κ (fun (r : (List GSpan)) (u : Value) => u) (fun (r : (List GSpan)) (u : Value) => [ownCh elGSpan 58 u r])) := by
  refine enterS (args := [v1]) [] hF (Given.nil _ _) Try.func40 rfl Try.ntmps40 rfl h ?_
  clear h hF
  refine c_seq ?_
  refine c_region ?_
  refine stw (o_asn elGSpan 58 rfl rfl ?_)
  refine c_nil ?_
  refine l_then ?_
  refine c_seq ?_
  refine c_seq ?_
  refine c_region ?_
  refine o_mv st rfl rfl ?_
  refine o_len st el55 1 rfl (reads_snap hv1) rfl rfl ?_
  refine o_gtr st rfl rfl rfl ?_
  refine c_nil ?_
  refine l_then ?_
  refine c_cond rfl ?_ ?_
  · refine c_seq ?_
    refine c_region ?_
    refine stw (o_asn elGSpan 58 rfl rfl ?_)
    refine c_nil ?_
    refine l_then ?_
    refine c_ret ?_
    refine l_ret ?_
    exact l_end1 Try.results40 ([]) (.slice none 0 0) (rv_t rfl) (fun w m => NewCh.ofB m [0] rfl)
  · refine c_skip ?_
    refine l_then ?_
    refine c_seq ?_
    refine c_region ?_
    refine o_mv st rfl rfl ?_
    refine o_len st el55 1 rfl (reads_snap hv1) rfl rfl ?_
    refine stw (o_make (z := (GSpan.mk 0 0)) flelGSpan rfl rfl rfl el45 rfl zero58 rfl rfl ?_); intro v5 xs6
    refine o_as st rfl rfl ?_
    refine c_nil ?_
    refine l_then ?_
    refine c_seq ?_
    refine c_seq ?_
    refine c_region ?_
    refine o_mv st rfl rfl ?_
    refine o_len st el55 2 rfl (reads_snap hv1) rfl rfl ?_
    refine o_mv st rfl rfl ?_
    refine c_nil ?_
    refine l_then ?_
    refine c_block ?_
    refine c_loop (σ := ((List GSpan) × Int)) (fun ((xs9, t12) : ((List GSpan) × Int)) (a : Act) (w : World) => ∃ (v8 : Value), Has 34 [(3, v8), (14, v1), (15, (.int .i64 (list_0.length : Int))), (16, (.int .i64 t12))] a ∧ Mem (gB F [] w0) (feet []) w0 [snapCh w0 F, ownCh elGSpan 58 v8 xs9] w) (fun a w hE hm => ⟨v5, hE.sub ⟨rfl, rfl, rfl, rfl, trivial⟩, (hm.pick [2, 0] rfl)⟩) ?_
    rintro nx13 ⟨xs9, t12⟩ a w ⟨v8, hE, hm⟩ h
    refine nx_of hE hm h ?_
    clear hE hm h
    refine c_seq ?_
    refine c_region ?_
    refine o_lss st rfl rfl rfl ?_
    refine c_nil ?_
    refine l_then ?_
    refine c_seq ?_
    refine c_cond rfl ?_ ?_
    · refine c_skip ?_
      refine l_then ?_
      refine c_seq ?_
      refine c_block ?_
      refine c_seq ?_
      refine c_region ?_
      refine o_idx st 0 rfl (reads_snap hv1) rfl rfl rfl el55 ?_; intro e14 h15
      refine o_lds st (enc := encGPrefix) (u := (.agg #[(.int .i64 e14.xBase), (.int .i64 e14.xLength)])) 0 rfl (reads_snap hv1) flelGPrefix rfl h15 rfl rfl ty26 rfl ?_
      refine stw (o_alloc rfl [(.int .i64 0), (.int .i64 0)] zero26 ?_); intro b16
      refine stw (o_stc (cs' := [(.int .i64 e14.xBase), (.int .i64 e14.xLength)]) 0 rfl rfl rfl ty26 rfl rfl rfl rfl ?_)
      refine c_nil ?_
      refine l_then ?_
      refine c_seq ?_
      refine c_region ?_
      refine o_ldc st (v := (.agg #[(.int .i64 e14.xBase), (.int .i64 e14.xLength)])) 0 rfl rfl rfl ty26 rfl ?_
      refine stw (o_callP (vs := [(.agg #[(.int .i64 e14.xBase), (.int .i64 e14.xLength)])]) Try.call34 rfl rfl (by intro w m h; exact (w_impl_PrefixSpan (F := allB [] w) (p_0 := e14) allB_ok h).mono (fun _ _ k => ret_free (fun r u => fr_nil) k)) ?_); rintro ⟨r18, r19⟩ _
      refine o_mv st rfl rfl ?_
      refine o_ext st (vs := [(.agg #[(.int .i64 r18.xLo), (.int .i64 r18.xHi)]), (.bool r19)]) rfl rfl rfl ?_
      refine o_ext st (vs := [(.agg #[(.int .i64 r18.xLo), (.int .i64 r18.xHi)]), (.bool r19)]) rfl rfl rfl ?_
      refine stw (o_alloc rfl [(.int .i64 0), (.int .i64 0)] zero58 ?_); intro b20
      refine stw (o_stc (cs' := [(.int .i64 r18.xLo), (.int .i64 r18.xHi)]) 0 rfl rfl rfl ty58 rfl rfl rfl rfl ?_)
      refine o_as st rfl rfl ?_
      refine c_nil ?_
      refine l_then ?_
      refine c_seq ?_
      refine c_seq ?_
      refine c_region ?_
      refine o_mv st rfl rfl ?_
      refine o_not st rfl rfl ?_
      refine c_nil ?_
      refine l_then ?_
      refine c_cond rfl ?_ ?_
      · refine c_seq ?_
        refine c_region ?_
        refine stw (o_asn elGSpan 58 rfl rfl ?_)
        refine c_nil ?_
        refine l_then ?_
        refine c_ret ?_
        refine l_ret ?_
        refine b_ret ?_
        refine l_ret ?_
        refine l_ret ?_
        refine b_ret ?_
        refine l_ret ?_
        exact l_end1 Try.results40 ([]) (.slice none 0 0) (rv_t rfl) (fun w m => NewCh.ofB m [0] rfl)
      · refine c_skip ?_
        refine l_then ?_
        refine c_region ?_
        refine o_mv st rfl rfl ?_
        refine o_ldc st (v := (.agg #[(.int .i64 r18.xLo), (.int .i64 r18.xHi)])) 0 rfl rfl rfl ty58 rfl ?_
        refine stw (o_bsl (enc := encGSpan) (qs := [(0, (.agg #[(.int .i64 r18.xLo), (.int .i64 r18.xHi)]))]) (cells := [(.int .i64 r18.xLo), (.int .i64 r18.xHi)]) ([r18]) flelGSpan (by intro ρ h; simp only [List.map_toArray, List.map_cons, List.map_nil, h (.tmp 28) _ rfl]) rfl el45 zero58 rfl rfl rfl rfl rfl rfl ?_); intro v23
        refine stw (o_app 4 0 rfl rfl (src_flat flelGSpan reads_own) rfl rfl rfl el45 rfl zero58 rfl rfl ?_); intro v25
        refine o_as st rfl rfl ?_
        refine c_nil ?_
        refine b_norm ?_
        refine l_then ?_
        refine c_region ?_
        refine o_add st rfl rfl rfl ?_; intro t27
        refine o_mv st rfl rfl ?_
        refine c_nil ?_
        exact l_join ((xs9 ++ ([r18])), t27) (fun a w hE hm => ⟨v25, hE.sub ⟨rfl, rfl, rfl, rfl, trivial⟩, (hm.pick [3, 4] rfl)⟩)
    · refine c_exit ?_
      refine l_exit ?_
      refine l_exit ?_
      refine b_exit ?_
      refine l_then ?_
      refine c_seq ?_
      refine c_region ?_
      refine o_mv st rfl rfl ?_
      refine stw (o_callP (vs := [v8, (.int .i64 65535)]) Try.call53 rfl rfl (by intro w m h; exact (w_impl_SpansOf (F := allB [] w) (list_0 := xs9) (top_1 := 65535) allB_ok (m.rd0 1 rfl reads_own) h).mono (fun _ _ k => ret_free (fun r u => (fr_cons (free_own flelGSpan) fr_nil)) k)) ?_); rintro r28 v29
      refine o_as st rfl rfl ?_
      refine c_nil ?_
      refine l_then ?_
      refine c_ret ?_
      exact l_end1 Try.results40 r28 v29 (rv_t rfl) (fun w m => NewCh.ofB m [0] rfl)

set_option maxRecDepth 100000 in
set_option maxHeartbeats 8000000 in
theorem w_impl_HiddenFrom {w0 : World} {F : Nat → Prop} {v1 : Value} {list_0 : (List GRewrite)} {κ : (List GSpan) → Prop} (hF : ∀ b, F b → b < w0.heap.size ∧ ¬ feet [] b) (hv1 : Sl elGRewrite F w0 v1 list_0) (h : L_impl_HiddenFrom list_0 κ) :
    Calls Try.prog 20 #[v1] w0 (Ret [] F w0 κ (fun (r : (List GSpan)) (u : Value) => u) (fun (r : (List GSpan)) (u : Value) => [ownCh elGSpan 58 u r])) := by
  refine enterS (args := [v1]) [] hF (Given.nil _ _) Try.func20 rfl Try.ntmps20 rfl h ?_
  clear h hF
  refine c_seq ?_
  refine c_region ?_
  refine stw (o_asn elGSpan 58 rfl rfl ?_)
  refine c_nil ?_
  refine l_then ?_
  refine c_seq ?_
  refine c_seq ?_
  refine c_region ?_
  refine o_mv st rfl rfl ?_
  refine stw (o_callP (vs := [v1]) Try.call15 rfl rfl (by intro w m h; exact (w_impl_RewritesValid (F := allB [] w) (list_0 := list_0) allB_ok (m.rd0 1 rfl (reads_snap hv1)) h).mono (fun _ _ k => ret_free (fun r u => fr_nil) k)) ?_); rintro r4 _
  refine o_not st rfl rfl ?_
  refine c_nil ?_
  refine l_then ?_
  refine c_cond rfl ?_ ?_
  · refine c_seq ?_
    refine c_region ?_
    refine stw (o_asn elGSpan 58 rfl rfl ?_)
    refine c_nil ?_
    refine l_then ?_
    refine c_ret ?_
    refine l_ret ?_
    exact l_end1 Try.results20 ([]) (.slice none 0 0) (rv_t rfl) (fun w m => NewCh.ofB m [0] rfl)
  · refine c_skip ?_
    refine l_then ?_
    refine c_seq ?_
    refine c_region ?_
    refine o_mv st rfl rfl ?_
    refine o_len st el37 1 rfl (reads_snap hv1) rfl rfl ?_
    refine stw (o_make (z := (GPrefix.mk 0 0)) flelGPrefix rfl rfl rfl el55 rfl zero26 rfl rfl ?_); intro v6 xs7
    refine o_as st rfl rfl ?_
    refine c_nil ?_
    refine l_then ?_
    refine c_seq ?_
    refine c_seq ?_
    refine c_region ?_
    refine o_mv st rfl rfl ?_
    refine o_len st el37 2 rfl (reads_snap hv1) rfl rfl ?_
    refine o_mv st rfl rfl ?_
    refine c_nil ?_
    refine l_then ?_
    refine c_block ?_
    refine c_loop (σ := ((List GPrefix) × Int)) (fun ((xs10, t13) : ((List GPrefix) × Int)) (a : Act) (w : World) => ∃ (v9 : Value), Has 26 [(3, v9), (12, v1), (13, (.int .i64 (list_0.length : Int))), (14, (.int .i64 t13))] a ∧ Mem (gB F [] w0) (feet []) w0 [snapCh w0 F, ownCh elGPrefix 26 v9 xs10] w) (fun a w hE hm => ⟨v6, hE.sub ⟨rfl, rfl, rfl, rfl, trivial⟩, (hm.pick [2, 0] rfl)⟩) ?_
    rintro nx14 ⟨xs10, t13⟩ a w ⟨v9, hE, hm⟩ h
    refine nx_of hE hm h ?_
    clear hE hm h
    refine c_seq ?_
    refine c_region ?_
    refine o_lss st rfl rfl rfl ?_
    refine c_nil ?_
    refine l_then ?_
    refine c_seq ?_
    refine c_cond rfl ?_ ?_
    · refine c_skip ?_
      refine l_then ?_
      refine c_seq ?_
      refine c_block ?_
      refine c_seq ?_
      refine c_region ?_
      refine o_idx st 0 rfl (reads_snap hv1) rfl rfl rfl el37 ?_; intro e15 h16
      refine o_lds st (enc := encGRewrite) (u := (.agg #[(.int .i64 e15.xInside.xBase), (.int .i64 e15.xInside.xLength), (.int .i64 e15.xOutside.xBase), (.int .i64 e15.xOutside.xLength)])) 0 rfl (reads_snap hv1) flelGRewrite rfl h16 rfl rfl ty28 rfl ?_
      refine stw (o_alloc rfl [(.int .i64 0), (.int .i64 0), (.int .i64 0), (.int .i64 0)] zero28 ?_); intro b17
      refine stw (o_stc (cs' := [(.int .i64 e15.xInside.xBase), (.int .i64 e15.xInside.xLength), (.int .i64 e15.xOutside.xBase), (.int .i64 e15.xOutside.xLength)]) 0 rfl rfl rfl ty28 rfl rfl rfl rfl ?_)
      refine c_nil ?_
      refine l_then ?_
      refine c_region ?_
      refine o_mv st rfl rfl ?_
      refine o_fad st rfl rfl fld28_0 rfl ?_
      refine o_ldc st (v := (.agg #[(.int .i64 e15.xInside.xBase), (.int .i64 e15.xInside.xLength)])) 0 rfl rfl rfl ty26 rfl ?_
      refine stw (o_bsl (enc := encGPrefix) (qs := [(0, (.agg #[(.int .i64 e15.xInside.xBase), (.int .i64 e15.xInside.xLength)]))]) (cells := [(.int .i64 e15.xInside.xBase), (.int .i64 e15.xInside.xLength)]) ([e15.xInside]) flelGPrefix (by intro ρ h; simp only [List.map_toArray, List.map_cons, List.map_nil, h (.tmp 20) _ rfl]) rfl el55 zero26 rfl rfl rfl rfl rfl rfl ?_); intro v19
      refine stw (o_app 3 0 rfl rfl (src_flat flelGPrefix reads_own) rfl rfl rfl el55 rfl zero26 rfl rfl ?_); intro v21
      refine o_as st rfl rfl ?_
      refine c_nil ?_
      refine b_norm ?_
      refine l_then ?_
      refine c_region ?_
      refine o_add st rfl rfl rfl ?_; intro t23
      refine o_mv st rfl rfl ?_
      refine c_nil ?_
      exact l_join ((xs10 ++ ([e15.xInside])), t23) (fun a w hE hm => ⟨v21, hE.sub ⟨rfl, rfl, rfl, rfl, trivial⟩, (hm.pick [2, 3] rfl)⟩)
    · refine c_exit ?_
      refine l_exit ?_
      refine l_exit ?_
      refine b_exit ?_
      refine l_then ?_
      refine c_seq ?_
      refine c_region ?_
      refine o_mv st rfl rfl ?_
      refine stw (o_callP (vs := [v9]) Try.call40 rfl rfl (by intro w m h; exact (w_impl_PrefixesSpans (F := allB [] w) (list_0 := xs10) allB_ok (m.rd0 1 rfl reads_own) h).mono (fun _ _ k => ret_free (fun r u => (fr_cons (free_own flelGSpan) fr_nil)) k)) ?_); rintro r24 v25
      refine o_as st rfl rfl ?_
      refine c_nil ?_
      refine l_then ?_
      refine c_ret ?_
      exact l_end1 Try.results20 r24 v25 (rv_t rfl) (fun w m => NewCh.ofB m [0] rfl)

set_option maxRecDepth 100000 in
set_option maxHeartbeats 8000000 in
theorem w_laws_sameSpans {w0 : World} {F : Nat → Prop} {v1 : Value} {v3 : Value} {a_0 : (List GSpan)} {b_1 : (List GSpan)} {κ : Bool → Prop} (hF : ∀ b, F b → b < w0.heap.size ∧ ¬ feet [] b) (hv1 : Sl elGSpan F w0 v1 a_0) (hv3 : Sl elGSpan F w0 v3 b_1) (h : L_laws_sameSpans a_0 b_1 κ) :
    Calls Try.prog 21 #[v1, v3] w0 (Ret [] F w0 κ (fun (r : Bool) (u : Unit) => (.bool r)) (fun (r : Bool) (u : Unit) => [])) := by
  refine enterS (args := [v1, v3]) [] hF (Given.nil _ _) Try.func21 rfl Try.ntmps21 rfl h ?_
  clear h hF
  refine c_seq ?_
  refine c_region ?_
  refine o_as st rfl rfl ?_
  refine c_nil ?_
  refine l_then ?_
  refine c_seq ?_
  refine c_seq ?_
  refine c_region ?_
  refine o_mv st rfl rfl ?_
  refine o_len st el45 0 rfl (reads_snap hv1) rfl rfl ?_
  refine o_mv st rfl rfl ?_
  refine o_len st el45 0 rfl (reads_snap hv3) rfl rfl ?_
  refine o_neq st und3 rfl rfl rfl ?_
  refine c_nil ?_
  refine l_then ?_
  refine c_cond rfl ?_ ?_
  · refine c_seq ?_
    refine c_region ?_
    refine o_as st rfl rfl ?_
    refine c_nil ?_
    refine l_then ?_
    refine c_ret ?_
    refine l_ret ?_
    exact l_end1 Try.results21 false () (rv_t rfl) (fun _ _ => NewCh.nil _ _ _ _)
  · refine c_skip ?_
    refine l_then ?_
    refine c_seq ?_
    refine c_seq ?_
    refine c_region ?_
    refine o_as st rfl rfl ?_
    refine c_nil ?_
    refine l_then ?_
    refine c_block ?_
    refine c_loop (σ := Int) (fun (t5 : Int) (a : Act) (w : World) => Has 26 [(0, v1), (1, v3), (5, (.int .i64 t5))] a ∧ Mem (gB F [] w0) (feet []) w0 [snapCh w0 F] w) (fun a w hE hm => ⟨hE.sub ⟨rfl, rfl, rfl, trivial⟩, (hm.pick [0] rfl)⟩) ?_
    rintro nx6 t5 a w ⟨hE, hm⟩ h
    refine nx_of hE hm h ?_
    clear hE hm h
    refine c_seq ?_
    refine c_seq ?_
    refine c_region ?_
    refine o_mv st rfl rfl ?_
    refine o_mv st rfl rfl ?_
    refine o_len st el45 0 rfl (reads_snap hv1) rfl rfl ?_
    refine o_lss st rfl rfl rfl ?_
    refine c_nil ?_
    refine l_then ?_
    refine c_cond rfl ?_ ?_
    · refine c_skip ?_
      refine l_then ?_
      refine c_seq ?_
      refine c_block ?_
      refine c_seq ?_
      refine c_draw mixed 9 rfl [snapCh w0 F] ?_
      refine o_mv (dt 0 (fun _ m => m)) rfl rfl ?_
      refine o_mv (dt 1 (fun _ m => m)) rfl rfl ?_
      refine o_idx (dt 2 (fun _ m => m)) 0 rfl (reads_snap hv1) rfl rfl rfl el45 ?_; intro e7 h8
      refine o_lds (dt 3 (fun _ m => m)) (enc := encGSpan) (u := (.agg #[(.int .i64 e7.xLo), (.int .i64 e7.xHi)])) 0 rfl (reads_snap hv1) flelGSpan rfl h8 rfl rfl ty58 rfl ?_
      refine o_mv (dt 4 (fun _ m => m)) rfl rfl ?_
      refine o_mv (dt 5 (fun _ m => m)) rfl rfl ?_
      refine o_idx (dt 6 (fun _ m => m)) 0 rfl (reads_snap hv3) rfl rfl rfl el45 ?_; intro e9 h10
      refine o_lds (dt 7 (fun _ m => m)) (enc := encGSpan) (u := (.agg #[(.int .i64 e9.xLo), (.int .i64 e9.xHi)])) 0 rfl (reads_snap hv3) flelGSpan rfl h10 rfl rfl ty58 rfl ?_
      refine o_bin (dt 8 (fun _ m => m)) (.bool (!(decide (e7 = e9)))) rfl rfl rfl (neqs58 _ _ e7.xLo e7.xHi e9.xLo e9.xHi) ?_
      refine d_done (by kernel_rfl) ?_
      refine l_then ?_
      refine c_cond rfl ?_ ?_
      · refine c_seq ?_
        refine c_region ?_
        refine o_as st rfl rfl ?_
        refine c_nil ?_
        refine l_then ?_
        refine c_ret ?_
        refine b_ret ?_
        refine l_ret ?_
        refine l_ret ?_
        refine b_ret ?_
        refine l_ret ?_
        exact l_end1 Try.results21 false () (rv_t rfl) (fun _ _ => NewCh.nil _ _ _ _)
      · refine c_skip ?_
        refine b_norm ?_
        refine l_then ?_
        refine c_region ?_
        refine o_mv st rfl rfl ?_
        refine o_add st rfl rfl rfl ?_; intro t11
        refine o_as st rfl rfl ?_
        refine c_nil ?_
        exact l_join t11 (fun a w hE hm => ⟨hE.sub ⟨rfl, rfl, rfl, trivial⟩, (hm.pick [0] rfl)⟩)
    · refine c_exit ?_
      refine l_exit ?_
      refine l_exit ?_
      refine b_exit ?_
      refine l_then ?_
      refine c_seq ?_
      refine c_region ?_
      refine o_as st rfl rfl ?_
      refine c_nil ?_
      refine l_then ?_
      refine c_ret ?_
      exact l_end1 Try.results21 true () (rv_t rfl) (fun _ _ => NewCh.nil _ _ _ _)

set_option maxRecDepth 100000 in
set_option maxHeartbeats 8000000 in
theorem w_spec_l1Add {w0 : World} {F : Nat → Prop} {v1 : Value} {list_0 : (List GSpan)} {s_1 : GSpan} {κ : (List GSpan) → Prop} (hF : ∀ b, F b → b < w0.heap.size ∧ ¬ feet [] b) (hv1 : Sl elGSpan F w0 v1 list_0) (h : L_spec_l1Add list_0 s_1 κ) :
    Calls Try.prog 67 #[v1, (.agg #[(.int .i64 s_1.xLo), (.int .i64 s_1.xHi)])] w0 (Ret [] F w0 κ (fun (r : (List GSpan)) (u : Value) => u) (fun (r : (List GSpan)) (u : Value) => [ownCh elGSpan 58 u r])) := by
  refine enterS (args := [v1, (.agg #[(.int .i64 s_1.xLo), (.int .i64 s_1.xHi)])]) [] hF (Given.nil _ _) Try.func67 rfl Try.ntmps67 rfl h ?_
  clear h hF
  refine c_seq ?_
  refine c_region ?_
  refine stw (o_box rfl rfl [(.int .i64 s_1.xLo), (.int .i64 s_1.xHi)] rfl ?_); intro b3
  refine stw (o_asn elGSpan 58 rfl rfl ?_)
  refine c_nil ?_
  refine l_then ?_
  refine c_seq ?_
  refine c_region ?_
  refine stw (o_bsl (enc := encGSpan) (qs := []) (cells := []) ([] : (List GSpan)) flelGSpan (by intro ρ h; simp only [List.map_toArray, List.map_cons, List.map_nil]) rfl el45 zero58 rfl rfl rfl rfl rfl rfl ?_); intro v6
  refine o_as st rfl rfl ?_
  refine c_nil ?_
  refine l_then ?_
  refine c_seq ?_
  refine c_region ?_
  refine o_as st rfl rfl ?_
  refine c_nil ?_
  refine l_then ?_
  refine c_seq ?_
  refine c_seq ?_
  refine c_region ?_
  refine o_as st rfl rfl ?_
  refine c_nil ?_
  refine l_then ?_
  refine c_block ?_
  refine c_loop (σ := (Int × Int × (List GSpan) × Bool × Int)) (fun ((t8, t9, xs11, t14, t15) : (Int × Int × (List GSpan) × Bool × Int)) (a : Act) (w : World) => ∃ (v10 : Value), Has 66 [(0, v1), (3, (.pointer (some ⟨b3, 0, none⟩))), (5, v10), (6, (.bool t14)), (7, (.int .i64 t15))] a ∧ Mem (gB F [] w0) (feet []) w0 [cellCh b3 [(.int .i64 t8), (.int .i64 t9)] 58, snapCh w0 F, ownCh elGSpan 58 v10 xs11] w) (fun a w hE hm => ⟨v6, hE.sub ⟨rfl, rfl, rfl, rfl, rfl, trivial⟩, (hm.pick [2, 3, 0] rfl)⟩) ?_
  rintro nx16 ⟨t8, t9, xs11, t14, t15⟩ a w ⟨v10, hE, hm⟩ h
  refine nx_of hE hm h ?_
  clear hE hm h
  refine c_seq ?_
  refine c_seq ?_
  refine c_region ?_
  refine o_mv st rfl rfl ?_
  refine o_mv st rfl rfl ?_
  refine o_len st el45 1 rfl (reads_snap hv1) rfl rfl ?_
  refine o_lss st rfl rfl rfl ?_
  refine c_nil ?_
  refine l_then ?_
  refine c_cond rfl ?_ ?_
  · refine c_skip ?_
    refine l_then ?_
    refine c_join (σ := ((List GSpan) × Int × Int × Bool)) (fun ((xs160, t163, t164, t165) : ((List GSpan) × Int × Int × Bool)) (a : Act) (w : World) => ∃ (v161 : Value), Has 66 [(0, v1), (3, (.pointer (some ⟨b3, 0, none⟩))), (5, v161), (6, (.bool t165)), (7, (.int .i64 t15))] a ∧ Mem (gB F [] w0) (feet []) w0 [cellCh b3 [(.int .i64 t163), (.int .i64 t164)] 58, ownCh elGSpan 58 v161 xs160, snapCh w0 F] w) ?_ ?_
    · intro k166
      refine c_block ?_
      refine c_seq ?_
      refine c_region ?_
      refine o_mv st rfl rfl ?_
      refine o_mv st rfl rfl ?_
      refine o_idx st 1 rfl (reads_snap hv1) rfl rfl rfl el45 ?_; intro e17 h18
      refine o_lds st (enc := encGSpan) (u := (.agg #[(.int .i64 e17.xLo), (.int .i64 e17.xHi)])) 1 rfl (reads_snap hv1) flelGSpan rfl h18 rfl rfl ty58 rfl ?_
      refine stw (o_alloc rfl [(.int .i64 0), (.int .i64 0)] zero58 ?_); intro b19
      refine stw (o_stc (cs' := [(.int .i64 e17.xLo), (.int .i64 e17.xHi)]) 0 rfl rfl rfl ty58 rfl rfl rfl rfl ?_)
      refine c_nil ?_
      refine l_then ?_
      refine c_block ?_
      refine c_seq ?_
      refine c_region ?_
      refine o_fad st rfl rfl fld58_1 rfl ?_
      refine o_ldc st (v := (.int .i64 e17.xHi)) 0 rfl rfl rfl ty3 rfl ?_
      refine o_add st rfl rfl rfl ?_; intro t21
      refine o_fad st rfl rfl fld58_0 rfl ?_
      refine o_ldc st (v := (.int .i64 t8)) 1 rfl rfl rfl ty3 rfl ?_
      refine o_lss st rfl rfl rfl ?_
      refine o_as st rfl rfl ?_
      refine c_nil ?_
      refine l_then ?_
      refine c_cond rfl ?_ ?_
      · refine c_region ?_
        refine o_mv st rfl rfl ?_
        refine o_ldc st (v := (.agg #[(.int .i64 e17.xLo), (.int .i64 e17.xHi)])) 0 rfl rfl rfl ty58 rfl ?_
        refine stw (o_bsl (enc := encGSpan) (qs := [(0, (.agg #[(.int .i64 e17.xLo), (.int .i64 e17.xHi)]))]) (cells := [(.int .i64 e17.xLo), (.int .i64 e17.xHi)]) ([e17]) flelGSpan (by intro ρ h; simp only [List.map_toArray, List.map_cons, List.map_nil, h (.tmp 39) _ rfl]) rfl el45 zero58 rfl rfl rfl rfl rfl rfl ?_); intro v22
        refine stw (o_app 4 0 rfl rfl (src_flat flelGSpan reads_own) rfl rfl rfl el45 rfl zero58 rfl rfl ?_); intro v24
        refine o_as st rfl rfl ?_
        refine c_nil ?_
        refine b_norm ?_
        refine b_norm ?_
        exact l_join ((xs11 ++ ([e17])), t8, t9, t14) (fun a w hE hm => ⟨v24, hE.sub ⟨rfl, rfl, rfl, rfl, rfl, trivial⟩, (hm.pick [2, 4, 3] rfl)⟩)
      · refine c_seq ?_
        refine c_region ?_
        refine o_fad st rfl rfl fld58_0 rfl ?_
        refine o_ldc st (v := (.int .i64 e17.xLo)) 0 rfl rfl rfl ty3 rfl ?_
        refine o_fad st rfl rfl fld58_1 rfl ?_
        refine o_ldc st (v := (.int .i64 t9)) 1 rfl rfl rfl ty3 rfl ?_
        refine o_add st rfl rfl rfl ?_; intro t26
        refine o_gtr st rfl rfl rfl ?_
        refine o_as st rfl rfl ?_
        refine c_nil ?_
        refine l_then ?_
        refine c_cond rfl ?_ ?_
        · refine c_join (σ := ((List GSpan) × Bool)) (fun ((xs91, t94) : ((List GSpan) × Bool)) (a : Act) (w : World) => ∃ (v92 : Value), Has 66 [(0, v1), (3, (.pointer (some ⟨b3, 0, none⟩))), (5, v92), (6, (.bool t94)), (7, (.int .i64 t15)), (8, (.pointer (some ⟨b19, 0, none⟩)))] a ∧ Mem (gB F [] w0) (feet []) w0 [cellCh b19 [(.int .i64 e17.xLo), (.int .i64 e17.xHi)] 58, cellCh b3 [(.int .i64 t8), (.int .i64 t9)] 58, ownCh elGSpan 58 v92 xs91, snapCh w0 F] w) ?_ ?_
          · intro k95
            refine c_seq ?_
            refine c_region ?_
            refine o_mv st rfl rfl ?_
            refine o_not st rfl rfl ?_
            refine c_nil ?_
            refine l_then ?_
            refine c_cond rfl ?_ ?_
            · refine c_seq ?_
              refine c_region ?_
              refine o_mv st rfl rfl ?_
              refine o_ldc st (v := (.agg #[(.int .i64 t8), (.int .i64 t9)])) 1 rfl rfl rfl ty58 rfl ?_
              refine stw (o_bsl (enc := encGSpan) (qs := [(0, (.agg #[(.int .i64 t8), (.int .i64 t9)]))]) (cells := [(.int .i64 t8), (.int .i64 t9)]) ([(GSpan.mk t8 t9)]) flelGSpan (by intro ρ h; simp only [List.map_toArray, List.map_cons, List.map_nil, h (.tmp 52) _ rfl]) rfl el45 zero58 rfl rfl rfl rfl rfl rfl ?_); intro v27
              refine stw (o_app 4 0 rfl rfl (src_flat flelGSpan reads_own) rfl rfl rfl el45 rfl zero58 rfl rfl ?_); intro v29
              refine o_as st rfl rfl ?_
              refine c_nil ?_
              refine l_then ?_
              refine c_region ?_
              refine o_as st rfl rfl ?_
              refine c_nil ?_
              exact l_join ((xs11 ++ ([(GSpan.mk t8 t9)])), true) (fun a w hE hm => ⟨v29, hE.sub ⟨rfl, rfl, rfl, rfl, rfl, rfl, trivial⟩, (hm.pick [1, 2, 4, 3] rfl)⟩)
            · refine c_skip ?_
              exact l_join (xs11, t14) (fun a w hE hm => ⟨v10, hE.sub ⟨rfl, rfl, rfl, rfl, rfl, rfl, trivial⟩, (hm.pick [0, 1, 3, 2] rfl)⟩)
          · rintro ⟨xs91, t94⟩ a w ⟨v92, hE, hm⟩ h
            refine nx_of hE hm h ?_
            clear hE hm h
            refine c_region ?_
            refine o_mv st rfl rfl ?_
            refine o_ldc st (v := (.agg #[(.int .i64 e17.xLo), (.int .i64 e17.xHi)])) 0 rfl rfl rfl ty58 rfl ?_
            refine stw (o_bsl (enc := encGSpan) (qs := [(0, (.agg #[(.int .i64 e17.xLo), (.int .i64 e17.xHi)]))]) (cells := [(.int .i64 e17.xLo), (.int .i64 e17.xHi)]) ([e17]) flelGSpan (by intro ρ h; simp only [List.map_toArray, List.map_cons, List.map_nil, h (.tmp 56) _ rfl]) rfl el45 zero58 rfl rfl rfl rfl rfl rfl ?_); intro v96
            refine stw (o_app 3 0 rfl rfl (src_flat flelGSpan reads_own) rfl rfl rfl el45 rfl zero58 rfl rfl ?_); intro v98
            refine o_as st rfl rfl ?_
            refine c_nil ?_
            refine b_norm ?_
            refine b_norm ?_
            exact l_join ((xs91 ++ ([e17])), t8, t9, t94) (fun a w hE hm => ⟨v98, hE.sub ⟨rfl, rfl, rfl, rfl, rfl, trivial⟩, (hm.pick [2, 3, 4] rfl)⟩)
        · refine c_region ?_
          refine o_fad st rfl rfl fld58_0 rfl ?_
          refine o_ldc st (v := (.int .i64 t8)) 1 rfl rfl rfl ty3 rfl ?_
          refine o_fad st rfl rfl fld58_0 rfl ?_
          refine o_ldc st (v := (.int .i64 e17.xLo)) 0 rfl rfl rfl ty3 rfl ?_
          refine o_min st rfl rfl rfl ?_
          refine o_fad st rfl rfl fld58_1 rfl ?_
          refine o_ldc st (v := (.int .i64 t9)) 1 rfl rfl rfl ty3 rfl ?_
          refine o_fad st rfl rfl fld58_1 rfl ?_
          refine o_ldc st (v := (.int .i64 e17.xHi)) 0 rfl rfl rfl ty3 rfl ?_
          refine o_max st rfl rfl rfl ?_
          refine o_bld st (qs := [(0, (.int .i64 (min t8 e17.xLo))), (1, (.int .i64 (max t9 e17.xHi)))]) (cells := [(.int .i64 (min t8 e17.xLo)), (.int .i64 (max t9 e17.xHi))]) (by intro ρ h; simp only [List.map_toArray, List.map_cons, List.map_nil, h (.tmp 24) _ rfl, h (.tmp 29) _ rfl]) rfl bld58 rfl ?_
          refine stw (o_stc (cs' := [(.int .i64 (min t8 e17.xLo)), (.int .i64 (max t9 e17.xHi))]) 1 rfl rfl rfl ty58 rfl rfl rfl rfl ?_)
          refine c_nil ?_
          refine b_norm ?_
          refine b_norm ?_
          exact l_join (xs11, (min t8 e17.xLo), (max t9 e17.xHi), t14) (fun a w hE hm => ⟨v10, hE.sub ⟨rfl, rfl, rfl, rfl, rfl, trivial⟩, (hm.pick [1, 3, 2] rfl)⟩)
    · rintro ⟨xs160, t163, t164, t165⟩ a w ⟨v161, hE, hm⟩ h
      refine nx_of hE hm h ?_
      clear hE hm h
      refine c_region ?_
      refine o_mv st rfl rfl ?_
      refine o_add st rfl rfl rfl ?_; intro t167
      refine o_as st rfl rfl ?_
      refine c_nil ?_
      exact l_join (t163, t164, xs160, t165, t167) (fun a w hE hm => ⟨v161, hE.sub ⟨rfl, rfl, rfl, rfl, rfl, trivial⟩, (hm.pick [0, 2, 1] rfl)⟩)
  · refine c_exit ?_
    refine l_exit ?_
    refine l_exit ?_
    refine b_exit ?_
    refine l_then ?_
    refine c_join (σ := (List GSpan)) (fun (xs232 : (List GSpan)) (a : Act) (w : World) => ∃ (v233 : Value), Has 66 [(5, v233)] a ∧ Mem (gB F [] w0) (feet []) w0 [ownCh elGSpan 58 v233 xs232] w) ?_ ?_
    · intro k235
      refine c_seq ?_
      refine c_region ?_
      refine o_mv st rfl rfl ?_
      refine o_not st rfl rfl ?_
      refine c_nil ?_
      refine l_then ?_
      refine c_cond rfl ?_ ?_
      · refine c_region ?_
        refine o_mv st rfl rfl ?_
        refine o_ldc st (v := (.agg #[(.int .i64 t8), (.int .i64 t9)])) 0 rfl rfl rfl ty58 rfl ?_
        refine stw (o_bsl (enc := encGSpan) (qs := [(0, (.agg #[(.int .i64 t8), (.int .i64 t9)]))]) (cells := [(.int .i64 t8), (.int .i64 t9)]) ([(GSpan.mk t8 t9)]) flelGSpan (by intro ρ h; simp only [List.map_toArray, List.map_cons, List.map_nil, h (.tmp 62) _ rfl]) rfl el45 zero58 rfl rfl rfl rfl rfl rfl ?_); intro v168
        refine stw (o_app 3 0 rfl rfl (src_flat flelGSpan reads_own) rfl rfl rfl el45 rfl zero58 rfl rfl ?_); intro v170
        refine o_as st rfl rfl ?_
        refine c_nil ?_
        exact l_join (xs11 ++ ([(GSpan.mk t8 t9)])) (fun a w hE hm => ⟨v170, hE.sub ⟨rfl, trivial⟩, (hm.pick [3] rfl)⟩)
      · refine c_skip ?_
        exact l_join xs11 (fun a w hE hm => ⟨v10, hE.sub ⟨rfl, trivial⟩, (hm.pick [2] rfl)⟩)
    · rintro xs232 a w ⟨v233, hE, hm⟩ h
      refine nx_of hE hm h ?_
      clear hE hm h
      refine c_seq ?_
      refine c_region ?_
      refine o_mv st rfl rfl ?_
      refine o_as st rfl rfl ?_
      refine c_nil ?_
      refine l_then ?_
      refine c_ret ?_
      exact l_end1 Try.results67 xs232 v233 (rv_t rfl) (fun w m => NewCh.ofB m [0] rfl)

set_option maxRecDepth 100000 in
set_option maxHeartbeats 8000000 in
theorem w_spec_SpansOf {w0 : World} {F : Nat → Prop} {v1 : Value} {list_0 : (List GSpan)} {top_1 : Int} {κ : (List GSpan) → Prop} (hF : ∀ b, F b → b < w0.heap.size ∧ ¬ feet [] b) (hv1 : Sl elGSpan F w0 v1 list_0) (h : L_spec_SpansOf list_0 top_1 κ) :
    Calls Try.prog 54 #[v1, (.int .i64 top_1)] w0 (Ret [] F w0 κ (fun (r : (List GSpan)) (u : Value) => u) (fun (r : (List GSpan)) (u : Value) => [ownCh elGSpan 58 u r])) := by
  refine enterS (args := [v1, (.int .i64 top_1)]) [] hF (Given.nil _ _) Try.func54 rfl Try.ntmps54 rfl h ?_
  clear h hF
  refine c_seq ?_
  refine c_region ?_
  refine stw (o_asn elGSpan 58 rfl rfl ?_)
  refine c_nil ?_
  refine l_then ?_
  refine c_seq ?_
  refine c_region ?_
  refine stw (o_bsl (enc := encGSpan) (qs := []) (cells := []) ([] : (List GSpan)) flelGSpan (by intro ρ h; simp only [List.map_toArray, List.map_cons, List.map_nil]) rfl el45 zero58 rfl rfl rfl rfl rfl rfl ?_); intro v4
  refine o_as st rfl rfl ?_
  refine c_nil ?_
  refine l_then ?_
  refine c_seq ?_
  refine c_join (σ := Bool) (fun (t67 : Bool) (a : Act) (w : World) => Has 53 [(0, v1), (1, (.int .i64 top_1)), (5, v4), (15, (.bool t67))] a ∧ Mem (gB F [] w0) (feet []) w0 [ownCh elGSpan 58 v4 ([]), snapCh w0 F] w) ?_ ?_
  · intro k68
    refine c_region ?_
    refine o_mv st rfl rfl ?_
    refine stw (o_callP (vs := [(.int .i64 top_1), (.int .i64 0), (.int .i64 65535)]) Try.call44 rfl rfl (by intro w m h; exact (w_spec_l1In (F := allB [] w) (n_0 := top_1) (lo_1 := 0) (hi_2 := 65535) allB_ok h).mono (fun _ _ k => ret_free (fun r u => fr_nil) k)) ?_); rintro r6 _
    refine o_not st rfl rfl ?_
    refine o_mv st rfl rfl ?_
    refine st_sp (dj := 11) rfl ?_ ?_
    · refine st_s rfl rfl rfl rfl ?_
      refine st_s rfl rfl rfl rfl ?_
      refine st_s rfl rfl rfl rfl ?_
      refine o_pickT st rfl rfl rfl ?_
      refine c_nil ?_
      exact l_join true (fun a w hE hm => ⟨hE.sub ⟨rfl, rfl, rfl, rfl, trivial⟩, (hm.pick [0, 2] rfl)⟩)
    · refine o_mv (st_g rfl rfl) rfl rfl ?_
      refine o_len (st_g rfl rfl) el45 2 rfl (reads_snap hv1) rfl rfl ?_
      refine o_gtr (st_g rfl rfl) rfl rfl rfl ?_
      refine o_pickF st rfl rfl rfl ?_
      refine c_nil ?_
      exact l_join (decide (40 < (list_0.length : Int))) (fun a w hE hm => ⟨hE.sub ⟨rfl, rfl, rfl, rfl, trivial⟩, (hm.pick [0, 2] rfl)⟩)
  · rintro t67 a w ⟨hE, hm⟩ h
    refine nx_of hE hm h ?_
    clear hE hm h
    refine c_cond rfl ?_ ?_
    · refine c_seq ?_
      refine c_region ?_
      refine o_mv st rfl rfl ?_
      refine o_as st rfl rfl ?_
      refine c_nil ?_
      refine l_then ?_
      refine c_ret ?_
      refine l_ret ?_
      exact l_end1 Try.results54 ([]) v4 (rv_t rfl) (fun w m => NewCh.ofB m [0] rfl)
    · refine c_skip ?_
      refine l_then ?_
      refine c_seq ?_
      refine c_seq ?_
      refine c_region ?_
      refine o_as st rfl rfl ?_
      refine c_nil ?_
      refine l_then ?_
      refine c_block ?_
      refine c_loop (σ := ((List GSpan) × Int)) (fun ((xs70, t73) : ((List GSpan) × Int)) (a : Act) (w : World) => ∃ (v69 : Value), Has 53 [(0, v1), (1, (.int .i64 top_1)), (5, v69), (6, (.int .i64 t73))] a ∧ Mem (gB F [] w0) (feet []) w0 [snapCh w0 F, ownCh elGSpan 58 v69 xs70] w) (fun a w hE hm => ⟨v4, hE.sub ⟨rfl, rfl, rfl, rfl, trivial⟩, (hm.pick [1, 0] rfl)⟩) ?_
      rintro nx74 ⟨xs70, t73⟩ a w ⟨v69, hE, hm⟩ h
      refine nx_of hE hm h ?_
      clear hE hm h
      refine c_seq ?_
      refine c_seq ?_
      refine c_region ?_
      refine o_mv st rfl rfl ?_
      refine o_mv st rfl rfl ?_
      refine o_len st el45 0 rfl (reads_snap hv1) rfl rfl ?_
      refine o_lss st rfl rfl rfl ?_
      refine c_nil ?_
      refine l_then ?_
      refine c_cond rfl ?_ ?_
      · refine c_skip ?_
        refine l_then ?_
        refine c_seq ?_
        refine c_block ?_
        refine c_seq ?_
        refine c_join (σ := Bool) (fun (t143 : Bool) (a : Act) (w : World) => Has 53 [(0, v1), (1, (.int .i64 top_1)), (5, v69), (6, (.int .i64 t73)), (44, (.bool t143))] a ∧ Mem (gB F [] w0) (feet []) w0 [ownCh elGSpan 58 v69 xs70, snapCh w0 F] w) ?_ ?_
        · intro k144
          refine c_draw mixed 22 rfl [snapCh w0 F, ownCh elGSpan 58 v69 xs70] ?_
          refine o_mv (dt 0 (fun _ m => m)) rfl rfl ?_
          refine o_mv (dt 1 (fun _ m => m)) rfl rfl ?_
          refine o_idx (dt 2 (fun _ m => m)) 0 rfl (reads_snap hv1) rfl rfl rfl el45 ?_; intro e75 h76
          refine o_fadS (dt 3 (fun _ m => m)) 0 rfl (reads_snap hv1) h76 rfl rfl fld58_0 rfl ?_
          refine o_lds (dt 4 (fun _ m => m)) (enc := encGSpan) (u := (.int .i64 e75.xLo)) 0 rfl (reads_snap hv1) flelGSpan rfl h76 rfl rfl ty3 rfl ?_
          refine o_mv (dt 5 (fun _ m => m)) rfl rfl ?_
          refine o_mv (dt 6 (fun _ m => m)) rfl rfl ?_
          refine o_idx (dt 7 (fun _ m => m)) 0 rfl (reads_snap hv1) rfl rfl rfl el45 ?_; intro e77 h78
          refine o_fadS (dt 8 (fun _ m => m)) 0 rfl (reads_snap hv1) h78 rfl rfl fld58_1 rfl ?_
          refine o_lds (dt 9 (fun _ m => m)) (enc := encGSpan) (u := (.int .i64 e77.xHi)) 0 rfl (reads_snap hv1) flelGSpan rfl h78 rfl rfl ty3 rfl ?_
          refine d_one (i := 10) rfl (by kernel_rfl) (o_callP (vs := [(.int .i64 e75.xLo), (.int .i64 0), (.int .i64 e77.xHi)]) Try.call44 rfl rfl (by intro w m h; exact (w_spec_l1In (F := allB [] w) (n_0 := e75.xLo) (lo_1 := 0) (hi_2 := e77.xHi) allB_ok h).mono (fun _ _ k => ret_free (fun r u => fr_nil) k)) ?_); rintro r79 _
          refine d_and (fun _ m => m) ?_
          refine o_not (dt 11 (fun _ m => m)) rfl rfl ?_
          refine o_mv (dt 12 (fun _ m => m)) rfl rfl ?_
          refine st_sp (dj := 35) rfl ?_ ?_
          · refine dsk 13 (fun _ m => m) rfl (by kernel_rfl) rfl rfl rfl rfl ?_
            refine dsk 14 (fun _ m => m) rfl (by kernel_rfl) rfl rfl rfl rfl ?_
            refine dsk 15 (fun _ m => m) rfl (by kernel_rfl) rfl rfl rfl rfl ?_
            refine dsk 16 (fun _ m => m) rfl (by kernel_rfl) rfl rfl rfl rfl ?_
            refine dsk 17 (fun _ m => m) rfl (by kernel_rfl) rfl rfl rfl rfl ?_
            refine dsk 18 (fun _ m => m) rfl (by kernel_rfl) rfl rfl rfl rfl ?_
            refine dsk 19 (fun _ m => m) rfl (by kernel_rfl) rfl rfl rfl rfl ?_
            refine dsk 20 (fun _ m => m) rfl (by kernel_rfl) rfl rfl rfl rfl ?_
            refine o_pickT (dt 21 (fun _ m => m)) rfl rfl rfl ?_
            refine d_done (by kernel_rfl) ?_
            exact l_join true (fun a w hE hm => ⟨hE.sub ⟨rfl, rfl, rfl, rfl, rfl, trivial⟩, (hm.pick [1, 0] rfl)⟩)
          · refine o_mv (dtg 13 (fun _ m => m)) rfl rfl ?_
            refine o_mv (dtg 14 (fun _ m => m)) rfl rfl ?_
            refine o_idx (dtg 15 (fun _ m => m)) 0 rfl (reads_snap hv1) rfl rfl rfl el45 ?_; intro e80 h81
            refine o_fadS (dtg 16 (fun _ m => m)) 0 rfl (reads_snap hv1) h81 rfl rfl fld58_1 rfl ?_
            refine o_lds (dtg 17 (fun _ m => m)) (enc := encGSpan) (u := (.int .i64 e80.xHi)) 0 rfl (reads_snap hv1) flelGSpan rfl h81 rfl rfl ty3 rfl ?_
            refine o_mv (dtg 18 (fun _ m => m)) rfl rfl ?_
            refine d_oneg (i := 19) rfl rfl rfl (by kernel_rfl) (o_callP (vs := [(.int .i64 e80.xHi), (.int .i64 0), (.int .i64 top_1)]) Try.call44 rfl rfl (by intro w m h; exact (w_spec_l1In (F := allB [] w) (n_0 := e80.xHi) (lo_1 := 0) (hi_2 := top_1) allB_ok h).mono (fun _ _ k => ret_free (fun r u => fr_nil) k)) ?_); rintro r82 _
            refine d_and (fun _ m => m) ?_
            refine o_not (dtg 20 (fun _ m => m)) rfl rfl ?_
            refine o_pickF (dt 21 (fun _ m => m)) rfl rfl rfl ?_
            refine d_done (by kernel_rfl) ?_
            exact l_join (!r82) (fun a w hE hm => ⟨hE.sub ⟨rfl, rfl, rfl, rfl, rfl, trivial⟩, (hm.pick [1, 0] rfl)⟩)
        · rintro t143 a w ⟨hE, hm⟩ h
          refine nx_of hE hm h ?_
          clear hE hm h
          refine c_cond rfl ?_ ?_
          · refine c_seq ?_
            refine c_region ?_
            refine stw (o_bsl (enc := encGSpan) (qs := []) (cells := []) ([] : (List GSpan)) flelGSpan (by intro ρ h; simp only [List.map_toArray, List.map_cons, List.map_nil]) rfl el45 zero58 rfl rfl rfl rfl rfl rfl ?_); intro v145
            refine o_as st rfl rfl ?_
            refine c_nil ?_
            refine l_then ?_
            refine c_ret ?_
            refine l_ret ?_
            refine b_ret ?_
            refine l_ret ?_
            refine l_ret ?_
            refine b_ret ?_
            refine l_ret ?_
            exact l_end1 Try.results54 ([]) v145 (rv_t rfl) (fun w m => NewCh.ofB m [0] rfl)
          · refine c_skip ?_
            refine l_then ?_
            refine c_region ?_
            refine o_mv st rfl rfl ?_
            refine o_mv st rfl rfl ?_
            refine o_mv st rfl rfl ?_
            refine o_idx st 1 rfl (reads_snap hv1) rfl rfl rfl el45 ?_; intro e147 h148
            refine o_lds st (enc := encGSpan) (u := (.agg #[(.int .i64 e147.xLo), (.int .i64 e147.xHi)])) 1 rfl (reads_snap hv1) flelGSpan rfl h148 rfl rfl ty58 rfl ?_
            refine stw (o_callP (vs := [v69, (.agg #[(.int .i64 e147.xLo), (.int .i64 e147.xHi)])]) Try.call67 rfl rfl (by intro w m h; exact (w_spec_l1Add (F := allB [] w) (list_0 := xs70) (s_1 := e147) allB_ok (m.rd0 0 rfl reads_own) h).mono (fun _ _ k => ret_free (fun r u => (fr_cons (free_own flelGSpan) fr_nil)) k)) ?_); rintro r149 v150
            refine o_as st rfl rfl ?_
            refine c_nil ?_
            refine b_norm ?_
            refine l_then ?_
            refine c_region ?_
            refine o_mv st rfl rfl ?_
            refine o_add st rfl rfl rfl ?_; intro t152
            refine o_as st rfl rfl ?_
            refine c_nil ?_
            exact l_join (r149, t152) (fun a w hE hm => ⟨v150, hE.sub ⟨rfl, rfl, rfl, rfl, trivial⟩, (hm.pick [2, 0] rfl)⟩)
      · refine c_exit ?_
        refine l_exit ?_
        refine l_exit ?_
        refine b_exit ?_
        refine l_then ?_
        refine c_seq ?_
        refine c_region ?_
        refine o_mv st rfl rfl ?_
        refine o_as st rfl rfl ?_
        refine c_nil ?_
        refine l_then ?_
        refine c_ret ?_
        exact l_end1 Try.results54 xs70 v69 (rv_t rfl) (fun w m => NewCh.ofB m [1] rfl)

set_option maxRecDepth 100000 in
set_option maxHeartbeats 8000000 in
theorem w_spec_PrefixesSpans {w0 : World} {F : Nat → Prop} {v1 : Value} {list_0 : (List GPrefix)} {κ : (List GSpan) → Prop} (hF : ∀ b, F b → b < w0.heap.size ∧ ¬ feet [] b) (hv1 : Sl elGPrefix F w0 v1 list_0) (h : L_spec_PrefixesSpans list_0 κ) :
    Calls Try.prog 41 #[v1] w0 (Ret [] F w0 κ (fun (r : (List GSpan)) (u : Value) => u) (fun (r : (List GSpan)) (u : Value) => [ownCh elGSpan 58 u r])) := by
  refine enterS (args := [v1]) [] hF (Given.nil _ _) Try.func41 rfl Try.ntmps41 rfl h ?_
  clear h hF
  refine c_seq ?_
  refine c_region ?_
  refine stw (o_asn elGSpan 58 rfl rfl ?_)
  refine c_nil ?_
  refine l_then ?_
  refine c_seq ?_
  refine c_region ?_
  refine stw (o_bsl (enc := encGSpan) (qs := []) (cells := []) ([] : (List GSpan)) flelGSpan (by intro ρ h; simp only [List.map_toArray, List.map_cons, List.map_nil]) rfl el45 zero58 rfl rfl rfl rfl rfl rfl ?_); intro v4
  refine o_as st rfl rfl ?_
  refine c_nil ?_
  refine l_then ?_
  refine c_seq ?_
  refine c_seq ?_
  refine c_region ?_
  refine o_as st rfl rfl ?_
  refine c_nil ?_
  refine l_then ?_
  refine c_block ?_
  refine c_loop (σ := ((List GSpan) × Int)) (fun ((xs7, t10) : ((List GSpan) × Int)) (a : Act) (w : World) => ∃ (v6 : Value), Has 31 [(0, v1), (3, v6), (4, (.int .i64 t10))] a ∧ Mem (gB F [] w0) (feet []) w0 [snapCh w0 F, ownCh elGSpan 58 v6 xs7] w) (fun a w hE hm => ⟨v4, hE.sub ⟨rfl, rfl, rfl, trivial⟩, (hm.pick [2, 0] rfl)⟩) ?_
  rintro nx11 ⟨xs7, t10⟩ a w ⟨v6, hE, hm⟩ h
  refine nx_of hE hm h ?_
  clear hE hm h
  refine c_seq ?_
  refine c_seq ?_
  refine c_region ?_
  refine o_mv st rfl rfl ?_
  refine o_mv st rfl rfl ?_
  refine o_len st el55 0 rfl (reads_snap hv1) rfl rfl ?_
  refine o_lss st rfl rfl rfl ?_
  refine c_nil ?_
  refine l_then ?_
  refine c_cond rfl ?_ ?_
  · refine c_skip ?_
    refine l_then ?_
    refine c_seq ?_
    refine c_block ?_
    refine c_seq ?_
    refine c_region ?_
    refine o_mv st rfl rfl ?_
    refine o_mv st rfl rfl ?_
    refine o_idx st 0 rfl (reads_snap hv1) rfl rfl rfl el55 ?_; intro e12 h13
    refine o_lds st (enc := encGPrefix) (u := (.agg #[(.int .i64 e12.xBase), (.int .i64 e12.xLength)])) 0 rfl (reads_snap hv1) flelGPrefix rfl h13 rfl rfl ty26 rfl ?_
    refine stw (o_callP (vs := [(.agg #[(.int .i64 e12.xBase), (.int .i64 e12.xLength)])]) Try.call45 rfl rfl (by intro w m h; exact (w_spec_PrefixSpan (F := allB [] w) (p_0 := e12) allB_ok h).mono (fun _ _ k => ret_free (fun r u => fr_nil) k)) ?_); rintro ⟨r14, r15⟩ _
    refine o_mv st rfl rfl ?_
    refine o_ext st (vs := [(.agg #[(.int .i64 r14.xLo), (.int .i64 r14.xHi)]), (.bool r15)]) rfl rfl rfl ?_
    refine o_ext st (vs := [(.agg #[(.int .i64 r14.xLo), (.int .i64 r14.xHi)]), (.bool r15)]) rfl rfl rfl ?_
    refine stw (o_alloc rfl [(.int .i64 0), (.int .i64 0)] zero58 ?_); intro b16
    refine stw (o_stc (cs' := [(.int .i64 r14.xLo), (.int .i64 r14.xHi)]) 0 rfl rfl rfl ty58 rfl rfl rfl rfl ?_)
    refine o_as st rfl rfl ?_
    refine c_nil ?_
    refine l_then ?_
    refine c_seq ?_
    refine c_seq ?_
    refine c_region ?_
    refine o_mv st rfl rfl ?_
    refine o_not st rfl rfl ?_
    refine c_nil ?_
    refine l_then ?_
    refine c_cond rfl ?_ ?_
    · refine c_seq ?_
      refine c_region ?_
      refine stw (o_bsl (enc := encGSpan) (qs := []) (cells := []) ([] : (List GSpan)) flelGSpan (by intro ρ h; simp only [List.map_toArray, List.map_cons, List.map_nil]) rfl el45 zero58 rfl rfl rfl rfl rfl rfl ?_); intro v18
      refine o_as st rfl rfl ?_
      refine c_nil ?_
      refine l_then ?_
      refine c_ret ?_
      refine l_ret ?_
      refine b_ret ?_
      refine l_ret ?_
      refine l_ret ?_
      refine b_ret ?_
      refine l_ret ?_
      exact l_end1 Try.results41 ([]) v18 (rv_t rfl) (fun w m => NewCh.ofB m [0] rfl)
    · refine c_skip ?_
      refine l_then ?_
      refine c_region ?_
      refine o_mv st rfl rfl ?_
      refine o_ldc st (v := (.agg #[(.int .i64 r14.xLo), (.int .i64 r14.xHi)])) 0 rfl rfl rfl ty58 rfl ?_
      refine stw (o_bsl (enc := encGSpan) (qs := [(0, (.agg #[(.int .i64 r14.xLo), (.int .i64 r14.xHi)]))]) (cells := [(.int .i64 r14.xLo), (.int .i64 r14.xHi)]) ([r14]) flelGSpan (by intro ρ h; simp only [List.map_toArray, List.map_cons, List.map_nil, h (.tmp 26) _ rfl]) rfl el45 zero58 rfl rfl rfl rfl rfl rfl ?_); intro v20
      refine stw (o_app 3 0 rfl rfl (src_flat flelGSpan reads_own) rfl rfl rfl el45 rfl zero58 rfl rfl ?_); intro v22
      refine o_as st rfl rfl ?_
      refine c_nil ?_
      refine b_norm ?_
      refine l_then ?_
      refine c_region ?_
      refine o_mv st rfl rfl ?_
      refine o_add st rfl rfl rfl ?_; intro t24
      refine o_as st rfl rfl ?_
      refine c_nil ?_
      exact l_join ((xs7 ++ ([r14])), t24) (fun a w hE hm => ⟨v22, hE.sub ⟨rfl, rfl, rfl, trivial⟩, (hm.pick [2, 3] rfl)⟩)
  · refine c_exit ?_
    refine l_exit ?_
    refine l_exit ?_
    refine b_exit ?_
    refine l_then ?_
    refine c_seq ?_
    refine c_region ?_
    refine o_mv st rfl rfl ?_
    refine stw (o_callP (vs := [v6, (.int .i64 65535)]) Try.call54 rfl rfl (by intro w m h; exact (w_spec_SpansOf (F := allB [] w) (list_0 := xs7) (top_1 := 65535) allB_ok (m.rd0 1 rfl reads_own) h).mono (fun _ _ k => ret_free (fun r u => (fr_cons (free_own flelGSpan) fr_nil)) k)) ?_); rintro r25 v26
    refine o_as st rfl rfl ?_
    refine c_nil ?_
    refine l_then ?_
    refine c_ret ?_
    exact l_end1 Try.results41 r25 v26 (rv_t rfl) (fun w m => NewCh.ofB m [0] rfl)

set_option maxRecDepth 100000 in
set_option maxHeartbeats 8000000 in
theorem w_spec_HiddenFrom {w0 : World} {F : Nat → Prop} {v1 : Value} {list_0 : (List GRewrite)} {κ : (List GSpan) → Prop} (hF : ∀ b, F b → b < w0.heap.size ∧ ¬ feet [] b) (hv1 : Sl elGRewrite F w0 v1 list_0) (h : L_spec_HiddenFrom list_0 κ) :
    Calls Try.prog 22 #[v1] w0 (Ret [] F w0 κ (fun (r : (List GSpan)) (u : Value) => u) (fun (r : (List GSpan)) (u : Value) => [ownCh elGSpan 58 u r])) := by
  refine enterS (args := [v1]) [] hF (Given.nil _ _) Try.func22 rfl Try.ntmps22 rfl h ?_
  clear h hF
  refine c_seq ?_
  refine c_region ?_
  refine stw (o_asn elGSpan 58 rfl rfl ?_)
  refine c_nil ?_
  refine l_then ?_
  refine c_seq ?_
  refine c_region ?_
  refine stw (o_bsl (enc := encGPrefix) (qs := []) (cells := []) ([] : (List GPrefix)) flelGPrefix (by intro ρ h; simp only [List.map_toArray, List.map_cons, List.map_nil]) rfl el55 zero26 rfl rfl rfl rfl rfl rfl ?_); intro v4
  refine o_as st rfl rfl ?_
  refine c_nil ?_
  refine l_then ?_
  refine c_seq ?_
  refine c_seq ?_
  refine c_region ?_
  refine o_as st rfl rfl ?_
  refine c_nil ?_
  refine l_then ?_
  refine c_block ?_
  refine c_loop (σ := ((List GPrefix) × Int)) (fun ((xs7, t10) : ((List GPrefix) × Int)) (a : Act) (w : World) => ∃ (v6 : Value), Has 26 [(0, v1), (3, v6), (4, (.int .i64 t10))] a ∧ Mem (gB F [] w0) (feet []) w0 [snapCh w0 F, ownCh elGPrefix 26 v6 xs7] w) (fun a w hE hm => ⟨v4, hE.sub ⟨rfl, rfl, rfl, trivial⟩, (hm.pick [2, 0] rfl)⟩) ?_
  rintro nx11 ⟨xs7, t10⟩ a w ⟨v6, hE, hm⟩ h
  refine nx_of hE hm h ?_
  clear hE hm h
  refine c_seq ?_
  refine c_join (σ := Bool) (fun (t73 : Bool) (a : Act) (w : World) => Has 26 [(0, v1), (3, v6), (4, (.int .i64 t10)), (13, (.bool t73))] a ∧ Mem (gB F [] w0) (feet []) w0 [ownCh elGPrefix 26 v6 xs7, snapCh w0 F] w) ?_ ?_
  · intro k74
    refine c_region ?_
    refine o_mv st rfl rfl ?_
    refine o_mv st rfl rfl ?_
    refine o_len st el37 0 rfl (reads_snap hv1) rfl rfl ?_
    refine o_lss st rfl rfl rfl ?_
    refine o_mv st rfl rfl ?_
    refine st_sp (dj := 10) rfl ?_ ?_
    · refine o_mv (st_g rfl rfl) rfl rfl ?_
      refine st_gw rfl rfl (o_callP (vs := [v1]) Try.call13 rfl rfl (by intro w m h; exact (w_spec_RewritesValid (F := allB [] w) (list_0 := list_0) allB_ok (m.rd0 0 rfl (reads_snap hv1)) h).mono (fun _ _ k => ret_free (fun r u => fr_nil) k)) ?_); rintro r12 _
      refine o_pickT st rfl rfl rfl ?_
      refine c_nil ?_
      exact l_join r12 (fun a w hE hm => ⟨hE.sub ⟨rfl, rfl, rfl, rfl, trivial⟩, (hm.pick [1, 0] rfl)⟩)
    · refine st_s rfl rfl rfl rfl ?_
      refine st_s rfl rfl rfl rfl ?_
      refine o_pickF st rfl rfl rfl ?_
      refine c_nil ?_
      exact l_join false (fun a w hE hm => ⟨hE.sub ⟨rfl, rfl, rfl, rfl, trivial⟩, (hm.pick [1, 0] rfl)⟩)
  · rintro t73 a w ⟨hE, hm⟩ h
    refine nx_of hE hm h ?_
    clear hE hm h
    refine c_cond rfl ?_ ?_
    · refine c_skip ?_
      refine l_then ?_
      refine c_seq ?_
      refine c_block ?_
      refine c_region ?_
      refine o_mv st rfl rfl ?_
      refine o_mv st rfl rfl ?_
      refine o_mv st rfl rfl ?_
      refine o_idx st 1 rfl (reads_snap hv1) rfl rfl rfl el37 ?_; intro e75 h76
      refine o_fadS st 1 rfl (reads_snap hv1) h76 rfl rfl fld28_0 rfl ?_
      refine o_lds st (enc := encGRewrite) (u := (.agg #[(.int .i64 e75.xInside.xBase), (.int .i64 e75.xInside.xLength)])) 1 rfl (reads_snap hv1) flelGRewrite rfl h76 rfl rfl ty26 rfl ?_
      refine stw (o_bsl (enc := encGPrefix) (qs := [(0, (.agg #[(.int .i64 e75.xInside.xBase), (.int .i64 e75.xInside.xLength)]))]) (cells := [(.int .i64 e75.xInside.xBase), (.int .i64 e75.xInside.xLength)]) ([e75.xInside]) flelGPrefix (by intro ρ h; simp only [List.map_toArray, List.map_cons, List.map_nil, h (.tmp 21) _ rfl]) rfl el55 zero26 rfl rfl rfl rfl rfl rfl ?_); intro v77
      refine stw (o_app 1 0 rfl rfl (src_flat flelGPrefix reads_own) rfl rfl rfl el55 rfl zero26 rfl rfl ?_); intro v79
      refine o_as st rfl rfl ?_
      refine c_nil ?_
      refine b_norm ?_
      refine l_then ?_
      refine c_region ?_
      refine o_mv st rfl rfl ?_
      refine o_add st rfl rfl rfl ?_; intro t81
      refine o_as st rfl rfl ?_
      refine c_nil ?_
      exact l_join ((xs7 ++ ([e75.xInside])), t81) (fun a w hE hm => ⟨v79, hE.sub ⟨rfl, rfl, rfl, trivial⟩, (hm.pick [2, 1] rfl)⟩)
    · refine c_exit ?_
      refine l_exit ?_
      refine l_exit ?_
      refine b_exit ?_
      refine l_then ?_
      refine c_seq ?_
      refine c_region ?_
      refine o_mv st rfl rfl ?_
      refine stw (o_callP (vs := [v6]) Try.call41 rfl rfl (by intro w m h; exact (w_spec_PrefixesSpans (F := allB [] w) (list_0 := xs7) allB_ok (m.rd0 0 rfl reads_own) h).mono (fun _ _ k => ret_free (fun r u => (fr_cons (free_own flelGSpan) fr_nil)) k)) ?_); rintro r82 v83
      refine o_as st rfl rfl ?_
      refine c_nil ?_
      refine l_then ?_
      refine c_ret ?_
      exact l_end1 Try.results22 r82 v83 (rv_t rfl) (fun w m => NewCh.ofB m [0] rfl)

set_option maxRecDepth 100000 in
set_option maxHeartbeats 8000000 in
theorem w_impl_SpansValid {w0 : World} {F : Nat → Prop} {v1 : Value} {list_0 : (List GSpan)} {top_1 : Int} {κ : Bool → Prop} (hF : ∀ b, F b → b < w0.heap.size ∧ ¬ feet [] b) (hv1 : Sl elGSpan F w0 v1 list_0) (h : L_impl_SpansValid list_0 top_1 κ) :
    Calls Try.prog 24 #[v1, (.int .i64 top_1)] w0 (Ret [] F w0 κ (fun (r : Bool) (u : Unit) => (.bool r)) (fun (r : Bool) (u : Unit) => [])) := by
  refine enterS (args := [v1, (.int .i64 top_1)]) [] hF (Given.nil _ _) Try.func24 rfl Try.ntmps24 rfl h ?_
  clear h hF
  refine c_seq ?_
  refine c_region ?_
  refine o_as st rfl rfl ?_
  refine c_nil ?_
  refine l_then ?_
  refine c_seq ?_
  refine c_join (σ := Bool) (fun (t64 : Bool) (a : Act) (w : World) => Has 43 [(0, v1), (1, (.int .i64 top_1)), (15, (.bool t64))] a ∧ Mem (gB F [] w0) (feet []) w0 [snapCh w0 F] w) ?_ ?_
  · intro k65
    refine c_region ?_
    refine o_mv st rfl rfl ?_
    refine stw (o_callP (vs := [(.int .i64 top_1)]) Try.call42 rfl rfl (by intro w m h; exact (w_impl_topValid (F := allB [] w) (top_0 := top_1) allB_ok h).mono (fun _ _ k => ret_free (fun r u => fr_nil) k)) ?_); rintro r3 _
    refine o_not st rfl rfl ?_
    refine o_mv st rfl rfl ?_
    refine st_sp (dj := 11) rfl ?_ ?_
    · refine st_s rfl rfl rfl rfl ?_
      refine st_s rfl rfl rfl rfl ?_
      refine st_s rfl rfl rfl rfl ?_
      refine o_pickT st rfl rfl rfl ?_
      refine c_nil ?_
      exact l_join true (fun a w hE hm => ⟨hE.sub ⟨rfl, rfl, rfl, trivial⟩, (hm.pick [0] rfl)⟩)
    · refine o_mv (st_g rfl rfl) rfl rfl ?_
      refine o_len (st_g rfl rfl) el45 0 rfl (reads_snap hv1) rfl rfl ?_
      refine o_gtr (st_g rfl rfl) rfl rfl rfl ?_
      refine o_pickF st rfl rfl rfl ?_
      refine c_nil ?_
      exact l_join (decide (40 < (list_0.length : Int))) (fun a w hE hm => ⟨hE.sub ⟨rfl, rfl, rfl, trivial⟩, (hm.pick [0] rfl)⟩)
  · rintro t64 a w ⟨hE, hm⟩ h
    refine nx_of hE hm h ?_
    clear hE hm h
    refine c_cond rfl ?_ ?_
    · refine c_seq ?_
      refine c_region ?_
      refine o_as st rfl rfl ?_
      refine c_nil ?_
      refine l_then ?_
      refine c_ret ?_
      refine l_ret ?_
      exact l_end1 Try.results24 false () (rv_t rfl) (fun _ _ => NewCh.nil _ _ _ _)
    · refine c_skip ?_
      refine l_then ?_
      refine c_seq ?_
      refine c_region ?_
      refine o_as st rfl rfl ?_
      refine c_nil ?_
      refine l_then ?_
      refine c_seq ?_
      refine c_seq ?_
      refine c_region ?_
      refine o_mv st rfl rfl ?_
      refine o_len st el45 0 rfl (reads_snap hv1) rfl rfl ?_
      refine o_mv st rfl rfl ?_
      refine c_nil ?_
      refine l_then ?_
      refine c_block ?_
      refine c_loop (σ := (Int × Int)) (fun ((t66, t67) : (Int × Int)) (a : Act) (w : World) => Has 43 [(1, (.int .i64 top_1)), (5, (.int .i64 t66)), (16, v1), (17, (.int .i64 (list_0.length : Int))), (18, (.int .i64 t67))] a ∧ Mem (gB F [] w0) (feet []) w0 [snapCh w0 F] w) (fun a w hE hm => ⟨hE.sub ⟨rfl, rfl, rfl, rfl, rfl, trivial⟩, (hm.pick [0] rfl)⟩) ?_
      rintro nx68 ⟨t66, t67⟩ a w ⟨hE, hm⟩ h
      refine nx_of hE hm h ?_
      clear hE hm h
      refine c_seq ?_
      refine c_region ?_
      refine o_lss st rfl rfl rfl ?_
      refine c_nil ?_
      refine l_then ?_
      refine c_seq ?_
      refine c_cond rfl ?_ ?_
      · refine c_skip ?_
        refine l_then ?_
        refine c_seq ?_
        refine c_block ?_
        refine c_seq ?_
        refine c_region ?_
        refine o_idx st 0 rfl (reads_snap hv1) rfl rfl rfl el45 ?_; intro e69 h70
        refine o_lds st (enc := encGSpan) (u := (.agg #[(.int .i64 e69.xLo), (.int .i64 e69.xHi)])) 0 rfl (reads_snap hv1) flelGSpan rfl h70 rfl rfl ty58 rfl ?_
        refine stw (o_alloc rfl [(.int .i64 0), (.int .i64 0)] zero58 ?_); intro b71
        refine stw (o_stc (cs' := [(.int .i64 e69.xLo), (.int .i64 e69.xHi)]) 0 rfl rfl rfl ty58 rfl rfl rfl rfl ?_)
        refine c_nil ?_
        refine l_then ?_
        refine c_seq ?_
        refine c_join (σ := Bool) (fun (t134 : Bool) (a : Act) (w : World) => Has 43 [(1, (.int .i64 top_1)), (16, v1), (17, (.int .i64 (list_0.length : Int))), (18, (.int .i64 t67)), (7, (.pointer (some ⟨b71, 0, none⟩))), (39, (.bool t134))] a ∧ Mem (gB F [] w0) (feet []) w0 [cellCh b71 [(.int .i64 e69.xLo), (.int .i64 e69.xHi)] 58, snapCh w0 F] w) ?_ ?_
        · intro k135
          refine c_region ?_
          refine o_fad st rfl rfl fld58_0 rfl ?_
          refine o_ldc st (v := (.int .i64 e69.xLo)) 0 rfl rfl rfl ty3 rfl ?_
          refine o_mv st rfl rfl ?_
          refine o_add st rfl rfl rfl ?_; intro t73
          refine o_leq st rfl rfl rfl ?_
          refine o_mv st rfl rfl ?_
          refine st_sp (dj := 27) rfl ?_ ?_
          · refine st_s rfl rfl rfl rfl ?_
            refine st_s rfl rfl rfl rfl ?_
            refine st_s rfl rfl rfl rfl ?_
            refine st_s rfl rfl rfl rfl ?_
            refine st_s rfl rfl rfl rfl ?_
            refine o_pickT st rfl rfl rfl ?_
            refine o_mv st rfl rfl ?_
            refine st_s rfl rfl rfl rfl ?_
            refine st_s rfl rfl rfl rfl ?_
            refine st_s rfl rfl rfl rfl ?_
            refine st_s rfl rfl rfl rfl ?_
            refine o_pickT st rfl rfl rfl ?_
            refine c_nil ?_
            exact l_join true (fun a w hE hm => ⟨hE.sub ⟨rfl, rfl, rfl, rfl, rfl, rfl, trivial⟩, (hm.pick [0, 1] rfl)⟩)
          · refine o_fad (st_g rfl rfl) rfl rfl fld58_0 rfl ?_
            refine o_ldc (st_g rfl rfl) (v := (.int .i64 e69.xLo)) 0 rfl rfl rfl ty3 rfl ?_
            refine o_fad (st_g rfl rfl) rfl rfl fld58_1 rfl ?_
            refine o_ldc (st_g rfl rfl) (v := (.int .i64 e69.xHi)) 0 rfl rfl rfl ty3 rfl ?_
            refine o_gtr (st_g rfl rfl) rfl rfl rfl ?_
            refine o_pickF st rfl rfl rfl ?_
            refine o_mv st rfl rfl ?_
            refine st_sp (dj := 34) rfl ?_ ?_
            · refine st_s rfl rfl rfl rfl ?_
              refine st_s rfl rfl rfl rfl ?_
              refine st_s rfl rfl rfl rfl ?_
              refine st_s rfl rfl rfl rfl ?_
              refine o_pickT st rfl rfl rfl ?_
              refine c_nil ?_
              exact l_join true (fun a w hE hm => ⟨hE.sub ⟨rfl, rfl, rfl, rfl, rfl, rfl, trivial⟩, (hm.pick [0, 1] rfl)⟩)
            · refine o_fad (st_g rfl rfl) rfl rfl fld58_1 rfl ?_
              refine o_ldc (st_g rfl rfl) (v := (.int .i64 e69.xHi)) 0 rfl rfl rfl ty3 rfl ?_
              refine o_mv (st_g rfl rfl) rfl rfl ?_
              refine o_gtr (st_g rfl rfl) rfl rfl rfl ?_
              refine o_pickF st rfl rfl rfl ?_
              refine c_nil ?_
              exact l_join (decide (top_1 < e69.xHi)) (fun a w hE hm => ⟨hE.sub ⟨rfl, rfl, rfl, rfl, rfl, rfl, trivial⟩, (hm.pick [0, 1] rfl)⟩)
        · rintro t134 a w ⟨hE, hm⟩ h
          refine nx_of hE hm h ?_
          clear hE hm h
          refine c_cond rfl ?_ ?_
          · refine c_seq ?_
            refine c_region ?_
            refine o_as st rfl rfl ?_
            refine c_nil ?_
            refine l_then ?_
            refine c_ret ?_
            refine l_ret ?_
            refine b_ret ?_
            refine l_ret ?_
            refine l_ret ?_
            refine b_ret ?_
            refine l_ret ?_
            exact l_end1 Try.results24 false () (rv_t rfl) (fun _ _ => NewCh.nil _ _ _ _)
          · refine c_skip ?_
            refine l_then ?_
            refine c_region ?_
            refine o_fad st rfl rfl fld58_1 rfl ?_
            refine o_ldc st (v := (.int .i64 e69.xHi)) 0 rfl rfl rfl ty3 rfl ?_
            refine o_as st rfl rfl ?_
            refine c_nil ?_
            refine b_norm ?_
            refine l_then ?_
            refine c_region ?_
            refine o_add st rfl rfl rfl ?_; intro t136
            refine o_mv st rfl rfl ?_
            refine c_nil ?_
            exact l_join (e69.xHi, t136) (fun a w hE hm => ⟨hE.sub ⟨rfl, rfl, rfl, rfl, rfl, trivial⟩, (hm.pick [1] rfl)⟩)
      · refine c_exit ?_
        refine l_exit ?_
        refine l_exit ?_
        refine b_exit ?_
        refine l_then ?_
        refine c_seq ?_
        refine c_region ?_
        refine o_as st rfl rfl ?_
        refine c_nil ?_
        refine l_then ?_
        refine c_ret ?_
        exact l_end1 Try.results24 true () (rv_t rfl) (fun _ _ => NewCh.nil _ _ _ _)

set_option maxRecDepth 100000 in
set_option maxHeartbeats 8000000 in
theorem w_laws_FnHiddenFrom {w0 : World} {F : Nat → Prop} {v1 : Value} {code_0 : (List UInt8)} {κ : Bool → Prop} (hF : ∀ b, F b → b < w0.heap.size ∧ ¬ feet [] b) (hv1 : Sl elU8 F w0 v1 code_0) (h : L_laws_FnHiddenFrom code_0 κ) :
    Calls Try.prog 6 #[v1] w0 (Ret [] F w0 κ (fun (r : Bool) (u : Unit) => (.bool r)) (fun (r : Bool) (u : Unit) => [])) := by
  refine enterS (args := [v1]) [] hF (Given.nil _ _) Try.func6 rfl Try.ntmps6 rfl h ?_
  clear h hF
  refine c_seq ?_
  refine c_region ?_
  refine o_as st rfl rfl ?_
  refine c_nil ?_
  refine l_then ?_
  refine c_seq ?_
  refine c_seq ?_
  refine c_region ?_
  refine o_mv st rfl rfl ?_
  refine o_len st el41 0 rfl (reads_snap hv1) rfl rfl ?_
  refine o_gtr st rfl rfl rfl ?_
  refine c_nil ?_
  refine l_then ?_
  refine c_cond rfl ?_ ?_
  · refine c_seq ?_
    refine c_region ?_
    refine o_as st rfl rfl ?_
    refine c_nil ?_
    refine l_then ?_
    refine c_ret ?_
    refine l_ret ?_
    exact l_end1 Try.results6 true () (rv_t rfl) (fun _ _ => NewCh.nil _ _ _ _)
  · refine c_skip ?_
    refine l_then ?_
    refine c_seq ?_
    refine c_region ?_
    refine o_mv st rfl rfl ?_
    refine stw (o_callP (vs := [v1]) Try.call19 rfl rfl (by intro w m h; exact (w_spec_DrawHiddenFrom (F := allB [] w) (code_0 := code_0) allB_ok (m.rd0 0 rfl (reads_snap hv1)) h).mono (fun _ _ k => ret_free (fun r u => (fr_cons (free_own flelGRewrite) fr_nil)) k)) ?_); rintro r3 v4
    refine o_as st rfl rfl ?_
    refine c_nil ?_
    refine l_then ?_
    refine c_seq ?_
    refine c_region ?_
    refine o_mv st rfl rfl ?_
    refine stw (o_callP (vs := [v4]) Try.call20 rfl rfl (by intro w m h; exact (w_impl_HiddenFrom (F := allB [] w) (list_0 := r3) allB_ok (m.rd0 0 rfl reads_own) h).mono (fun _ _ k => ret_free (fun r u => (fr_cons (free_own flelGSpan) fr_nil)) k)) ?_); rintro r6 v7
    refine o_as st rfl rfl ?_
    refine c_nil ?_
    refine l_then ?_
    refine c_seq ?_
    refine c_seq ?_
    refine c_region ?_
    refine o_mv st rfl rfl ?_
    refine o_mv st rfl rfl ?_
    refine stw (o_callP (vs := [v4]) Try.call22 rfl rfl (by intro w m h; exact (w_spec_HiddenFrom (F := allB [] w) (list_0 := r3) allB_ok (m.rd0 1 rfl reads_own) h).mono (fun _ _ k => ret_free (fun r u => (fr_cons (free_own flelGSpan) fr_nil)) k)) ?_); rintro r9 v10
    refine stw (o_callP (vs := [v7, v10]) Try.call21 rfl rfl (by intro w m h; exact (w_laws_sameSpans (F := allB [] w) (a_0 := r6) (b_1 := r9) allB_ok (m.rd0 1 rfl reads_own) (m.rd0 0 rfl reads_own) h).mono (fun _ _ k => ret_free (fun r u => fr_nil) k)) ?_); rintro r12 _
    refine o_not st rfl rfl ?_
    refine c_nil ?_
    refine l_then ?_
    refine c_cond rfl ?_ ?_
    · refine c_seq ?_
      refine c_region ?_
      refine o_as st rfl rfl ?_
      refine c_nil ?_
      refine l_then ?_
      refine c_ret ?_
      refine l_ret ?_
      exact l_end1 Try.results6 false () (rv_t rfl) (fun _ _ => NewCh.nil _ _ _ _)
    · refine c_skip ?_
      refine l_then ?_
      refine c_seq ?_
      refine c_seq ?_
      refine c_region ?_
      refine o_mv st rfl rfl ?_
      refine stw (o_callP (vs := [v4]) Try.call13 rfl rfl (by intro w m h; exact (w_spec_RewritesValid (F := allB [] w) (list_0 := r3) allB_ok (m.rd0 2 rfl reads_own) h).mono (fun _ _ k => ret_free (fun r u => fr_nil) k)) ?_); rintro r13 _
      refine o_not st rfl rfl ?_
      refine c_nil ?_
      refine l_then ?_
      refine c_cond rfl ?_ ?_
      · refine c_join (σ := Bool) (fun (t75 : Bool) (a : Act) (w : World) => Has 54 [(2, (.bool t75))] a ∧ Mem (gB F [] w0) (feet []) w0 [] w) ?_ ?_
        · intro k76
          refine c_region ?_
          refine o_mv st rfl rfl ?_
          refine o_len st el45 1 rfl reads_own rfl rfl ?_
          refine o_eql st und3 rfl rfl rfl ?_
          refine o_mv st rfl rfl ?_
          refine st_sp (dj := 24) rfl ?_ ?_
          · refine st_gw rfl rfl (o_callP (vs := []) Try.call18 rfl rfl (by intro w m h; exact (w_laws_alive (F := allB [] w) allB_ok h).mono (fun _ _ k => ret_free (fun r u => fr_nil) k)) ?_); rintro r14 _
            refine o_pickT st rfl rfl rfl ?_
            refine o_as st rfl rfl ?_
            refine c_nil ?_
            exact l_join r14 (fun a w hE hm => ⟨hE.sub ⟨rfl, trivial⟩, (hm.pick [] rfl)⟩)
          · refine st_s rfl rfl rfl rfl ?_
            refine o_pickF st rfl rfl rfl ?_
            refine o_as st rfl rfl ?_
            refine c_nil ?_
            exact l_join false (fun a w hE hm => ⟨hE.sub ⟨rfl, trivial⟩, (hm.pick [] rfl)⟩)
        · rintro t75 a w ⟨hE, hm⟩ h
          refine nx_of hE hm h ?_
          clear hE hm h
          refine c_ret ?_
          refine l_ret ?_
          exact l_end1 Try.results6 t75 () (rv_t rfl) (fun _ _ => NewCh.nil _ _ _ _)
      · refine c_skip ?_
        refine l_then ?_
        refine c_seq ?_
        refine c_seq ?_
        refine c_region ?_
        refine o_as st rfl rfl ?_
        refine c_nil ?_
        refine l_then ?_
        refine c_block ?_
        refine c_loop (σ := Int) (fun (t77 : Int) (a : Act) (w : World) => Has 54 [(3, v4), (4, v7), (5, (.int .i64 t77))] a ∧ Mem (gB F [] w0) (feet []) w0 [ownCh elGSpan 58 v7 r6, ownCh elGRewrite 28 v4 r3] w) (fun a w hE hm => ⟨hE.sub ⟨rfl, rfl, rfl, trivial⟩, (hm.pick [1, 2] rfl)⟩) ?_
        rintro nx78 t77 a w ⟨hE, hm⟩ h
        refine nx_of hE hm h ?_
        clear hE hm h
        refine c_seq ?_
        refine c_seq ?_
        refine c_region ?_
        refine o_mv st rfl rfl ?_
        refine o_mv st rfl rfl ?_
        refine o_len st el37 1 rfl reads_own rfl rfl ?_
        refine o_lss st rfl rfl rfl ?_
        refine c_nil ?_
        refine l_then ?_
        refine c_cond rfl ?_ ?_
        · refine c_skip ?_
          refine l_then ?_
          refine c_seq ?_
          refine c_block ?_
          refine c_join (σ := Bool) (fun (t145 : Bool) (a : Act) (w : World) => Has 54 [(3, v4), (4, v7), (5, (.int .i64 t77)), (51, (.bool t145))] a ∧ Mem (gB F [] w0) (feet []) w0 [ownCh elGSpan 58 v7 r6, ownCh elGRewrite 28 v4 r3] w) ?_ ?_
          · intro k146
            refine c_region ?_
            refine o_mv st rfl rfl ?_
            refine o_mv st rfl rfl ?_
            refine o_mv st rfl rfl ?_
            refine o_idx st 1 rfl reads_own rfl rfl rfl el37 ?_; intro e79 h80
            refine o_fadS st 1 rfl reads_own h80 rfl rfl fld28_0 rfl ?_
            refine o_fadS st 1 rfl reads_own h80 rfl rfl fld26_0 rfl ?_
            refine o_lds st (enc := encGRewrite) (u := (.int .i64 e79.xInside.xBase)) 1 rfl reads_own flelGRewrite rfl h80 rfl rfl ty3 rfl ?_
            refine stw (o_callP (vs := [v7, (.int .i64 e79.xInside.xBase)]) Try.call23 rfl rfl (by intro w m h; exact (w_impl_SpansHave (F := allB [] w) (list_0 := r6) (n_1 := e79.xInside.xBase) allB_ok (m.rd0 0 rfl reads_own) h).mono (fun _ _ k => ret_free (fun r u => fr_nil) k)) ?_); rintro r81 _
            refine o_not st rfl rfl ?_
            refine o_mv st rfl rfl ?_
            refine st_sp (dj := 42) rfl ?_ ?_
            · refine st_s rfl rfl rfl rfl ?_
              refine st_s rfl rfl rfl rfl ?_
              refine st_s rfl rfl rfl rfl ?_
              refine st_s rfl rfl rfl rfl ?_
              refine st_s rfl rfl rfl rfl ?_
              refine st_s rfl rfl rfl rfl ?_
              refine st_s rfl rfl rfl rfl ?_
              refine st_s rfl rfl rfl rfl ?_
              refine o_pickT st rfl rfl rfl ?_
              refine c_nil ?_
              exact l_join true (fun a w hE hm => ⟨hE.sub ⟨rfl, rfl, rfl, rfl, trivial⟩, (hm.pick [0, 1] rfl)⟩)
            · refine o_mv (st_g rfl rfl) rfl rfl ?_
              refine o_mv (st_g rfl rfl) rfl rfl ?_
              refine o_mv (st_g rfl rfl) rfl rfl ?_
              refine o_idx (st_g rfl rfl) 1 rfl reads_own rfl rfl rfl el37 ?_; intro e82 h83
              refine o_fadS (st_g rfl rfl) 1 rfl reads_own h83 rfl rfl fld28_1 rfl ?_
              refine o_fadS (st_g rfl rfl) 1 rfl reads_own h83 rfl rfl fld26_0 rfl ?_
              refine o_lds (st_g rfl rfl) (enc := encGRewrite) (u := (.int .i64 e82.xOutside.xBase)) 1 rfl reads_own flelGRewrite rfl h83 rfl rfl ty3 rfl ?_
              refine st_gw rfl rfl (o_callP (vs := [v7, (.int .i64 e82.xOutside.xBase)]) Try.call23 rfl rfl (by intro w m h; exact (w_impl_SpansHave (F := allB [] w) (list_0 := r6) (n_1 := e82.xOutside.xBase) allB_ok (m.rd0 0 rfl reads_own) h).mono (fun _ _ k => ret_free (fun r u => fr_nil) k)) ?_); rintro r84 _
              refine o_pickF st rfl rfl rfl ?_
              refine c_nil ?_
              exact l_join r84 (fun a w hE hm => ⟨hE.sub ⟨rfl, rfl, rfl, rfl, trivial⟩, (hm.pick [0, 1] rfl)⟩)
          · rintro t145 a w ⟨hE, hm⟩ h
            refine nx_of hE hm h ?_
            clear hE hm h
            refine c_cond rfl ?_ ?_
            · refine c_seq ?_
              refine c_region ?_
              refine o_as st rfl rfl ?_
              refine c_nil ?_
              refine l_then ?_
              refine c_ret ?_
              refine b_ret ?_
              refine l_ret ?_
              refine l_ret ?_
              refine b_ret ?_
              refine l_ret ?_
              exact l_end1 Try.results6 false () (rv_t rfl) (fun _ _ => NewCh.nil _ _ _ _)
            · refine c_skip ?_
              refine b_norm ?_
              refine l_then ?_
              refine c_region ?_
              refine o_mv st rfl rfl ?_
              refine o_add st rfl rfl rfl ?_; intro t147
              refine o_as st rfl rfl ?_
              refine c_nil ?_
              exact l_join t147 (fun a w hE hm => ⟨hE.sub ⟨rfl, rfl, rfl, trivial⟩, (hm.pick [0, 1] rfl)⟩)
        · refine c_exit ?_
          refine l_exit ?_
          refine l_exit ?_
          refine b_exit ?_
          refine l_then ?_
          refine c_seq ?_
          refine c_region ?_
          refine o_mv st rfl rfl ?_
          refine stw (o_callP (vs := [v7, (.int .i64 65535)]) Try.call24 rfl rfl (by intro w m h; exact (w_impl_SpansValid (F := allB [] w) (list_0 := r6) (top_1 := 65535) allB_ok (m.rd0 0 rfl reads_own) h).mono (fun _ _ k => ret_free (fun r u => fr_nil) k)) ?_); rintro r148 _
          refine o_as st rfl rfl ?_
          refine c_nil ?_
          refine l_then ?_
          refine c_ret ?_
          exact l_end1 Try.results6 r148 () (rv_t rfl) (fun _ _ => NewCh.nil _ _ _ _)

end

end Go.Proofs.Ytdjfbceokpofmaa
