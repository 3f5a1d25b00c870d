/- Texts of this seat, put together. -/
import Derived.Test.YtpbmhkfbggmofaaDoorMP1
set_option linter.unusedSimpArgs false
set_option linter.unusedVariables false
set_option linter.unusedSectionVars false
namespace Go.Proofs.YtpbmhkfbggmofaaDoor
section
open Go.RowKit
set_option maxRecDepth 100000 in
set_option maxHeartbeats 8000000 in
theorem w_spec_l1In {w0 : World} {F : Nat → Prop} {n_0 : Int} {lo_1 : Int} {hi_2 : Int} {κ : Bool → Prop} (hF : ∀ b, F b → b < w0.heap.size ∧ ¬ feet [] b) (h : L_spec_l1In n_0 lo_1 hi_2 κ) :
    Calls Tryd.prog 74 #[(.int .i64 n_0), (.int .i64 lo_1), (.int .i64 hi_2)] w0 (Ret [] F w0 κ (fun (r : Bool) (u : Unit) => (.bool r)) (fun (r : Bool) (u : Unit) => [])) := by
  refine enter0 (args := [(.int .i64 n_0), (.int .i64 lo_1), (.int .i64 hi_2)]) [] hF (Given.nil _ _) Tryd.func74 rfl Tryd.ntmps74 rfl h ?_
  clear h hF
  refine c_seq ?_
  refine c_region ?_
  refine o_as st rfl rfl ?_
  refine c_nil ?_
  refine l_then ?_
  refine c_join (σ := Bool) (fun (t61 : Bool) (a : Act) (w : World) => Has 15 [(6, (.bool t61))] a ∧ Mem (gB F [] w0) (feet []) w0 [] w) ?_ ?_
  · intro k62
    refine c_region ?_
    refine o_mv st rfl rfl ?_
    refine o_mv st rfl rfl ?_
    refine o_geq st rfl rfl rfl ?_
    refine o_mv st rfl rfl ?_
    refine st_sp (dj := 10) rfl ?_ ?_
    · refine o_mv (st_g rfl rfl) rfl rfl ?_
      refine o_mv (st_g rfl rfl) rfl rfl ?_
      refine o_leq (st_g rfl rfl) rfl rfl rfl ?_
      refine o_pickT st rfl rfl rfl ?_
      refine o_as st rfl rfl ?_
      refine c_nil ?_
      exact l_join (decide (n_0 ≤ hi_2)) (fun a w hE hm => ⟨hE.sub ⟨rfl, trivial⟩, (hm.pick [] rfl)⟩)
    · refine st_s rfl rfl rfl rfl ?_
      refine st_s rfl rfl rfl rfl ?_
      refine st_s rfl rfl rfl rfl ?_
      refine o_pickF st rfl rfl rfl ?_
      refine o_as st rfl rfl ?_
      refine c_nil ?_
      exact l_join false (fun a w hE hm => ⟨hE.sub ⟨rfl, trivial⟩, (hm.pick [] rfl)⟩)
  · rintro t61 a w ⟨hE, hm⟩ h
    refine nx_of hE hm h ?_
    clear hE hm h
    refine c_ret ?_
    exact l_end1 Tryd.results74 t61 () (rv_t rfl) (fun _ _ => NewCh.nil _ _ _ _)

set_option maxRecDepth 100000 in
set_option maxHeartbeats 8000000 in
theorem w_spec_l1Add {w0 : World} {F : Nat → Prop} {v1 : Value} {list_0 : (List GSpan)} {s_1 : GSpan} {κ : (List GSpan) → Prop} (hF : ∀ b, F b → b < w0.heap.size ∧ ¬ feet [] b) (hv1 : Sl elGSpan F w0 v1 list_0) (h : L_spec_l1Add list_0 s_1 κ) :
    Calls Tryd.prog 118 #[v1, (.agg #[(.int .i64 s_1.xLo), (.int .i64 s_1.xHi)])] w0 (Ret [] F w0 κ (fun (r : (List GSpan)) (u : Value) => u) (fun (r : (List GSpan)) (u : Value) => [ownCh elGSpan 71 u r])) := by
  refine enterS (args := [v1, (.agg #[(.int .i64 s_1.xLo), (.int .i64 s_1.xHi)])]) [] hF (Given.nil _ _) Tryd.func118 rfl Tryd.ntmps118 rfl h ?_
  clear h hF
  refine c_seq ?_
  refine c_region ?_
  refine stw (o_box rfl rfl [(.int .i64 s_1.xLo), (.int .i64 s_1.xHi)] rfl ?_); intro b3
  refine stw (o_asn elGSpan 71 rfl rfl ?_)
  refine c_nil ?_
  refine l_then ?_
  refine c_seq ?_
  refine c_region ?_
  refine stw (o_bsl (enc := encGSpan) (qs := []) (cells := []) ([] : (List GSpan)) flelGSpan (by intro ρ h; simp only [List.map_toArray, List.map_cons, List.map_nil]) rfl el72 zero71 rfl rfl rfl rfl rfl rfl ?_); intro v6
  refine o_as st rfl rfl ?_
  refine c_nil ?_
  refine l_then ?_
  refine c_seq ?_
  refine c_region ?_
  refine o_as st rfl rfl ?_
  refine c_nil ?_
  refine l_then ?_
  refine c_seq ?_
  refine c_seq ?_
  refine c_region ?_
  refine o_as st rfl rfl ?_
  refine c_nil ?_
  refine l_then ?_
  refine c_block ?_
  refine c_loop (σ := (Int × Int × (List GSpan) × Bool × Int)) (fun ((t8, t9, xs11, t14, t15) : (Int × Int × (List GSpan) × Bool × Int)) (a : Act) (w : World) => ∃ (v10 : Value), Has 66 [(0, v1), (3, (.pointer (some ⟨b3, 0, none⟩))), (5, v10), (6, (.bool t14)), (7, (.int .i64 t15))] a ∧ Mem (gB F [] w0) (feet []) w0 [cellCh b3 [(.int .i64 t8), (.int .i64 t9)] 71, snapCh w0 F, ownCh elGSpan 71 v10 xs11] w) (fun a w hE hm => ⟨v6, hE.sub ⟨rfl, rfl, rfl, rfl, rfl, trivial⟩, (hm.pick [2, 3, 0] rfl)⟩) ?_
  rintro nx16 ⟨t8, t9, xs11, t14, t15⟩ a w ⟨v10, hE, hm⟩ h
  refine nx_of hE hm h ?_
  clear hE hm h
  refine c_seq ?_
  refine c_seq ?_
  refine c_region ?_
  refine o_mv st rfl rfl ?_
  refine o_mv st rfl rfl ?_
  refine o_len st el72 1 rfl (reads_snap hv1) rfl rfl ?_
  refine o_lss st rfl rfl rfl ?_
  refine c_nil ?_
  refine l_then ?_
  refine c_cond rfl ?_ ?_
  · refine c_skip ?_
    refine l_then ?_
    refine c_join (σ := ((List GSpan) × Int × Int × Bool)) (fun ((xs160, t163, t164, t165) : ((List GSpan) × Int × Int × Bool)) (a : Act) (w : World) => ∃ (v161 : Value), Has 66 [(0, v1), (3, (.pointer (some ⟨b3, 0, none⟩))), (5, v161), (6, (.bool t165)), (7, (.int .i64 t15))] a ∧ Mem (gB F [] w0) (feet []) w0 [cellCh b3 [(.int .i64 t163), (.int .i64 t164)] 71, ownCh elGSpan 71 v161 xs160, snapCh w0 F] w) ?_ ?_
    · intro k166
      refine c_block ?_
      refine c_seq ?_
      refine c_region ?_
      refine o_mv st rfl rfl ?_
      refine o_mv st rfl rfl ?_
      refine o_idx st 1 rfl (reads_snap hv1) rfl rfl rfl el72 ?_; intro e17 h18
      refine o_lds st (enc := encGSpan) (u := (.agg #[(.int .i64 e17.xLo), (.int .i64 e17.xHi)])) 1 rfl (reads_snap hv1) flelGSpan rfl h18 rfl rfl ty71 rfl ?_
      refine stw (o_alloc rfl [(.int .i64 0), (.int .i64 0)] zero71 ?_); intro b19
      refine stw (o_stc (cs' := [(.int .i64 e17.xLo), (.int .i64 e17.xHi)]) 0 rfl rfl rfl ty71 rfl rfl rfl rfl ?_)
      refine c_nil ?_
      refine l_then ?_
      refine c_block ?_
      refine c_seq ?_
      refine c_region ?_
      refine o_fad st rfl rfl fld71_1 rfl ?_
      refine o_ldc st (v := (.int .i64 e17.xHi)) 0 rfl rfl rfl ty3 rfl ?_
      refine o_add st rfl rfl rfl ?_; intro t21
      refine o_fad st rfl rfl fld71_0 rfl ?_
      refine o_ldc st (v := (.int .i64 t8)) 1 rfl rfl rfl ty3 rfl ?_
      refine o_lss st rfl rfl rfl ?_
      refine o_as st rfl rfl ?_
      refine c_nil ?_
      refine l_then ?_
      refine c_cond rfl ?_ ?_
      · refine c_region ?_
        refine o_mv st rfl rfl ?_
        refine o_ldc st (v := (.agg #[(.int .i64 e17.xLo), (.int .i64 e17.xHi)])) 0 rfl rfl rfl ty71 rfl ?_
        refine stw (o_bsl (enc := encGSpan) (qs := [(0, (.agg #[(.int .i64 e17.xLo), (.int .i64 e17.xHi)]))]) (cells := [(.int .i64 e17.xLo), (.int .i64 e17.xHi)]) ([e17]) flelGSpan (by intro ρ h; simp only [List.map_toArray, List.map_cons, List.map_nil, h (.tmp 39) _ rfl]) rfl el72 zero71 rfl rfl rfl rfl rfl rfl ?_); intro v22
        refine stw (o_app 4 0 rfl rfl (src_flat flelGSpan reads_own) rfl rfl rfl el72 rfl zero71 rfl rfl ?_); intro v24
        refine o_as st rfl rfl ?_
        refine c_nil ?_
        refine b_norm ?_
        refine b_norm ?_
        exact l_join ((xs11 ++ ([e17])), t8, t9, t14) (fun a w hE hm => ⟨v24, hE.sub ⟨rfl, rfl, rfl, rfl, rfl, trivial⟩, (hm.pick [2, 4, 3] rfl)⟩)
      · refine c_seq ?_
        refine c_region ?_
        refine o_fad st rfl rfl fld71_0 rfl ?_
        refine o_ldc st (v := (.int .i64 e17.xLo)) 0 rfl rfl rfl ty3 rfl ?_
        refine o_fad st rfl rfl fld71_1 rfl ?_
        refine o_ldc st (v := (.int .i64 t9)) 1 rfl rfl rfl ty3 rfl ?_
        refine o_add st rfl rfl rfl ?_; intro t26
        refine o_gtr st rfl rfl rfl ?_
        refine o_as st rfl rfl ?_
        refine c_nil ?_
        refine l_then ?_
        refine c_cond rfl ?_ ?_
        · refine c_join (σ := ((List GSpan) × Bool)) (fun ((xs91, t94) : ((List GSpan) × Bool)) (a : Act) (w : World) => ∃ (v92 : Value), Has 66 [(0, v1), (3, (.pointer (some ⟨b3, 0, none⟩))), (5, v92), (6, (.bool t94)), (7, (.int .i64 t15)), (8, (.pointer (some ⟨b19, 0, none⟩)))] a ∧ Mem (gB F [] w0) (feet []) w0 [cellCh b19 [(.int .i64 e17.xLo), (.int .i64 e17.xHi)] 71, cellCh b3 [(.int .i64 t8), (.int .i64 t9)] 71, ownCh elGSpan 71 v92 xs91, snapCh w0 F] w) ?_ ?_
          · intro k95
            refine c_seq ?_
            refine c_region ?_
            refine o_mv st rfl rfl ?_
            refine o_not st rfl rfl ?_
            refine c_nil ?_
            refine l_then ?_
            refine c_cond rfl ?_ ?_
            · refine c_seq ?_
              refine c_region ?_
              refine o_mv st rfl rfl ?_
              refine o_ldc st (v := (.agg #[(.int .i64 t8), (.int .i64 t9)])) 1 rfl rfl rfl ty71 rfl ?_
              refine stw (o_bsl (enc := encGSpan) (qs := [(0, (.agg #[(.int .i64 t8), (.int .i64 t9)]))]) (cells := [(.int .i64 t8), (.int .i64 t9)]) ([(GSpan.mk t8 t9)]) flelGSpan (by intro ρ h; simp only [List.map_toArray, List.map_cons, List.map_nil, h (.tmp 52) _ rfl]) rfl el72 zero71 rfl rfl rfl rfl rfl rfl ?_); intro v27
              refine stw (o_app 4 0 rfl rfl (src_flat flelGSpan reads_own) rfl rfl rfl el72 rfl zero71 rfl rfl ?_); intro v29
              refine o_as st rfl rfl ?_
              refine c_nil ?_
              refine l_then ?_
              refine c_region ?_
              refine o_as st rfl rfl ?_
              refine c_nil ?_
              exact l_join ((xs11 ++ ([(GSpan.mk t8 t9)])), true) (fun a w hE hm => ⟨v29, hE.sub ⟨rfl, rfl, rfl, rfl, rfl, rfl, trivial⟩, (hm.pick [1, 2, 4, 3] rfl)⟩)
            · refine c_skip ?_
              exact l_join (xs11, t14) (fun a w hE hm => ⟨v10, hE.sub ⟨rfl, rfl, rfl, rfl, rfl, rfl, trivial⟩, (hm.pick [0, 1, 3, 2] rfl)⟩)
          · rintro ⟨xs91, t94⟩ a w ⟨v92, hE, hm⟩ h
            refine nx_of hE hm h ?_
            clear hE hm h
            refine c_region ?_
            refine o_mv st rfl rfl ?_
            refine o_ldc st (v := (.agg #[(.int .i64 e17.xLo), (.int .i64 e17.xHi)])) 0 rfl rfl rfl ty71 rfl ?_
            refine stw (o_bsl (enc := encGSpan) (qs := [(0, (.agg #[(.int .i64 e17.xLo), (.int .i64 e17.xHi)]))]) (cells := [(.int .i64 e17.xLo), (.int .i64 e17.xHi)]) ([e17]) flelGSpan (by intro ρ h; simp only [List.map_toArray, List.map_cons, List.map_nil, h (.tmp 56) _ rfl]) rfl el72 zero71 rfl rfl rfl rfl rfl rfl ?_); intro v96
            refine stw (o_app 3 0 rfl rfl (src_flat flelGSpan reads_own) rfl rfl rfl el72 rfl zero71 rfl rfl ?_); intro v98
            refine o_as st rfl rfl ?_
            refine c_nil ?_
            refine b_norm ?_
            refine b_norm ?_
            exact l_join ((xs91 ++ ([e17])), t8, t9, t94) (fun a w hE hm => ⟨v98, hE.sub ⟨rfl, rfl, rfl, rfl, rfl, trivial⟩, (hm.pick [2, 3, 4] rfl)⟩)
        · refine c_region ?_
          refine o_fad st rfl rfl fld71_0 rfl ?_
          refine o_ldc st (v := (.int .i64 t8)) 1 rfl rfl rfl ty3 rfl ?_
          refine o_fad st rfl rfl fld71_0 rfl ?_
          refine o_ldc st (v := (.int .i64 e17.xLo)) 0 rfl rfl rfl ty3 rfl ?_
          refine o_min st rfl rfl rfl ?_
          refine o_fad st rfl rfl fld71_1 rfl ?_
          refine o_ldc st (v := (.int .i64 t9)) 1 rfl rfl rfl ty3 rfl ?_
          refine o_fad st rfl rfl fld71_1 rfl ?_
          refine o_ldc st (v := (.int .i64 e17.xHi)) 0 rfl rfl rfl ty3 rfl ?_
          refine o_max st rfl rfl rfl ?_
          refine o_bld st (qs := [(0, (.int .i64 (min t8 e17.xLo))), (1, (.int .i64 (max t9 e17.xHi)))]) (cells := [(.int .i64 (min t8 e17.xLo)), (.int .i64 (max t9 e17.xHi))]) (by intro ρ h; simp only [List.map_toArray, List.map_cons, List.map_nil, h (.tmp 24) _ rfl, h (.tmp 29) _ rfl]) rfl bld71 rfl ?_
          refine stw (o_stc (cs' := [(.int .i64 (min t8 e17.xLo)), (.int .i64 (max t9 e17.xHi))]) 1 rfl rfl rfl ty71 rfl rfl rfl rfl ?_)
          refine c_nil ?_
          refine b_norm ?_
          refine b_norm ?_
          exact l_join (xs11, (min t8 e17.xLo), (max t9 e17.xHi), t14) (fun a w hE hm => ⟨v10, hE.sub ⟨rfl, rfl, rfl, rfl, rfl, trivial⟩, (hm.pick [1, 3, 2] rfl)⟩)
    · rintro ⟨xs160, t163, t164, t165⟩ a w ⟨v161, hE, hm⟩ h
      refine nx_of hE hm h ?_
      clear hE hm h
      refine c_region ?_
      refine o_mv st rfl rfl ?_
      refine o_add st rfl rfl rfl ?_; intro t167
      refine o_as st rfl rfl ?_
      refine c_nil ?_
      exact l_join (t163, t164, xs160, t165, t167) (fun a w hE hm => ⟨v161, hE.sub ⟨rfl, rfl, rfl, rfl, rfl, trivial⟩, (hm.pick [0, 2, 1] rfl)⟩)
  · refine c_exit ?_
    refine l_exit ?_
    refine l_exit ?_
    refine b_exit ?_
    refine l_then ?_
    refine c_join (σ := (List GSpan)) (fun (xs232 : (List GSpan)) (a : Act) (w : World) => ∃ (v233 : Value), Has 66 [(5, v233)] a ∧ Mem (gB F [] w0) (feet []) w0 [ownCh elGSpan 71 v233 xs232] w) ?_ ?_
    · intro k235
      refine c_seq ?_
      refine c_region ?_
      refine o_mv st rfl rfl ?_
      refine o_not st rfl rfl ?_
      refine c_nil ?_
      refine l_then ?_
      refine c_cond rfl ?_ ?_
      · refine c_region ?_
        refine o_mv st rfl rfl ?_
        refine o_ldc st (v := (.agg #[(.int .i64 t8), (.int .i64 t9)])) 0 rfl rfl rfl ty71 rfl ?_
        refine stw (o_bsl (enc := encGSpan) (qs := [(0, (.agg #[(.int .i64 t8), (.int .i64 t9)]))]) (cells := [(.int .i64 t8), (.int .i64 t9)]) ([(GSpan.mk t8 t9)]) flelGSpan (by intro ρ h; simp only [List.map_toArray, List.map_cons, List.map_nil, h (.tmp 62) _ rfl]) rfl el72 zero71 rfl rfl rfl rfl rfl rfl ?_); intro v168
        refine stw (o_app 3 0 rfl rfl (src_flat flelGSpan reads_own) rfl rfl rfl el72 rfl zero71 rfl rfl ?_); intro v170
        refine o_as st rfl rfl ?_
        refine c_nil ?_
        exact l_join (xs11 ++ ([(GSpan.mk t8 t9)])) (fun a w hE hm => ⟨v170, hE.sub ⟨rfl, trivial⟩, (hm.pick [3] rfl)⟩)
      · refine c_skip ?_
        exact l_join xs11 (fun a w hE hm => ⟨v10, hE.sub ⟨rfl, trivial⟩, (hm.pick [2] rfl)⟩)
    · rintro xs232 a w ⟨v233, hE, hm⟩ h
      refine nx_of hE hm h ?_
      clear hE hm h
      refine c_seq ?_
      refine c_region ?_
      refine o_mv st rfl rfl ?_
      refine o_as st rfl rfl ?_
      refine c_nil ?_
      refine l_then ?_
      refine c_ret ?_
      exact l_end1 Tryd.results118 xs232 v233 (rv_t rfl) (fun w m => NewCh.ofB m [0] rfl)

set_option maxRecDepth 100000 in
set_option maxHeartbeats 8000000 in
theorem w_spec_SpansOf {w0 : World} {F : Nat → Prop} {v1 : Value} {list_0 : (List GSpan)} {top_1 : Int} {κ : (List GSpan) → Prop} (hF : ∀ b, F b → b < w0.heap.size ∧ ¬ feet [] b) (hv1 : Sl elGSpan F w0 v1 list_0) (h : L_spec_SpansOf list_0 top_1 κ) :
    Calls Tryd.prog 95 #[v1, (.int .i64 top_1)] w0 (Ret [] F w0 κ (fun (r : (List GSpan)) (u : Value) => u) (fun (r : (List GSpan)) (u : Value) => [ownCh elGSpan 71 u r])) := by
  refine enterS (args := [v1, (.int .i64 top_1)]) [] hF (Given.nil _ _) Tryd.func95 rfl Tryd.ntmps95 rfl h ?_
  clear h hF
  refine c_seq ?_
  refine c_region ?_
  refine stw (o_asn elGSpan 71 rfl rfl ?_)
  refine c_nil ?_
  refine l_then ?_
  refine c_seq ?_
  refine c_region ?_
  refine stw (o_bsl (enc := encGSpan) (qs := []) (cells := []) ([] : (List GSpan)) flelGSpan (by intro ρ h; simp only [List.map_toArray, List.map_cons, List.map_nil]) rfl el72 zero71 rfl rfl rfl rfl rfl rfl ?_); intro v4
  refine o_as st rfl rfl ?_
  refine c_nil ?_
  refine l_then ?_
  refine c_seq ?_
  refine c_join (σ := Bool) (fun (t67 : Bool) (a : Act) (w : World) => Has 53 [(0, v1), (1, (.int .i64 top_1)), (5, v4), (15, (.bool t67))] a ∧ Mem (gB F [] w0) (feet []) w0 [ownCh elGSpan 71 v4 ([]), snapCh w0 F] w) ?_ ?_
  · intro k68
    refine c_region ?_
    refine o_mv st rfl rfl ?_
    refine stw (o_callP (vs := [(.int .i64 top_1), (.int .i64 0), (.int .i64 65535)]) Tryd.call74 rfl rfl (by intro w m h; exact (w_spec_l1In (F := allB [] w) (n_0 := top_1) (lo_1 := 0) (hi_2 := 65535) allB_ok h).mono (fun _ _ k => ret_free (fun r u => fr_nil) k)) ?_); rintro r6 _
    refine o_not st rfl rfl ?_
    refine o_mv st rfl rfl ?_
    refine st_sp (dj := 11) rfl ?_ ?_
    · refine st_s rfl rfl rfl rfl ?_
      refine st_s rfl rfl rfl rfl ?_
      refine st_s rfl rfl rfl rfl ?_
      refine o_pickT st rfl rfl rfl ?_
      refine c_nil ?_
      exact l_join true (fun a w hE hm => ⟨hE.sub ⟨rfl, rfl, rfl, rfl, trivial⟩, (hm.pick [0, 2] rfl)⟩)
    · refine o_mv (st_g rfl rfl) rfl rfl ?_
      refine o_len (st_g rfl rfl) el72 2 rfl (reads_snap hv1) rfl rfl ?_
      refine o_gtr (st_g rfl rfl) rfl rfl rfl ?_
      refine o_pickF st rfl rfl rfl ?_
      refine c_nil ?_
      exact l_join (decide (40 < (list_0.length : Int))) (fun a w hE hm => ⟨hE.sub ⟨rfl, rfl, rfl, rfl, trivial⟩, (hm.pick [0, 2] rfl)⟩)
  · rintro t67 a w ⟨hE, hm⟩ h
    refine nx_of hE hm h ?_
    clear hE hm h
    refine c_cond rfl ?_ ?_
    · refine c_seq ?_
      refine c_region ?_
      refine o_mv st rfl rfl ?_
      refine o_as st rfl rfl ?_
      refine c_nil ?_
      refine l_then ?_
      refine c_ret ?_
      refine l_ret ?_
      exact l_end1 Tryd.results95 ([]) v4 (rv_t rfl) (fun w m => NewCh.ofB m [0] rfl)
    · refine c_skip ?_
      refine l_then ?_
      refine c_seq ?_
      refine c_seq ?_
      refine c_region ?_
      refine o_as st rfl rfl ?_
      refine c_nil ?_
      refine l_then ?_
      refine c_block ?_
      refine c_loop (σ := ((List GSpan) × Int)) (fun ((xs70, t73) : ((List GSpan) × Int)) (a : Act) (w : World) => ∃ (v69 : Value), Has 53 [(0, v1), (1, (.int .i64 top_1)), (5, v69), (6, (.int .i64 t73))] a ∧ Mem (gB F [] w0) (feet []) w0 [snapCh w0 F, ownCh elGSpan 71 v69 xs70] w) (fun a w hE hm => ⟨v4, hE.sub ⟨rfl, rfl, rfl, rfl, trivial⟩, (hm.pick [1, 0] rfl)⟩) ?_
      rintro nx74 ⟨xs70, t73⟩ a w ⟨v69, hE, hm⟩ h
      refine nx_of hE hm h ?_
      clear hE hm h
      refine c_seq ?_
      refine c_seq ?_
      refine c_region ?_
      refine o_mv st rfl rfl ?_
      refine o_mv st rfl rfl ?_
      refine o_len st el72 0 rfl (reads_snap hv1) rfl rfl ?_
      refine o_lss st rfl rfl rfl ?_
      refine c_nil ?_
      refine l_then ?_
      refine c_cond rfl ?_ ?_
      · refine c_skip ?_
        refine l_then ?_
        refine c_seq ?_
        refine c_block ?_
        refine c_seq ?_
        refine c_join (σ := Bool) (fun (t143 : Bool) (a : Act) (w : World) => Has 53 [(0, v1), (1, (.int .i64 top_1)), (5, v69), (6, (.int .i64 t73)), (44, (.bool t143))] a ∧ Mem (gB F [] w0) (feet []) w0 [ownCh elGSpan 71 v69 xs70, snapCh w0 F] w) ?_ ?_
        · intro k144
          refine c_draw mixed 22 rfl [snapCh w0 F, ownCh elGSpan 71 v69 xs70] ?_
          refine o_mv (dt 0 (fun _ m => m)) rfl rfl ?_
          refine o_mv (dt 1 (fun _ m => m)) rfl rfl ?_
          refine o_idx (dt 2 (fun _ m => m)) 0 rfl (reads_snap hv1) rfl rfl rfl el72 ?_; intro e75 h76
          refine o_fadS (dt 3 (fun _ m => m)) 0 rfl (reads_snap hv1) h76 rfl rfl fld71_0 rfl ?_
          refine o_lds (dt 4 (fun _ m => m)) (enc := encGSpan) (u := (.int .i64 e75.xLo)) 0 rfl (reads_snap hv1) flelGSpan rfl h76 rfl rfl ty3 rfl ?_
          refine o_mv (dt 5 (fun _ m => m)) rfl rfl ?_
          refine o_mv (dt 6 (fun _ m => m)) rfl rfl ?_
          refine o_idx (dt 7 (fun _ m => m)) 0 rfl (reads_snap hv1) rfl rfl rfl el72 ?_; intro e77 h78
          refine o_fadS (dt 8 (fun _ m => m)) 0 rfl (reads_snap hv1) h78 rfl rfl fld71_1 rfl ?_
          refine o_lds (dt 9 (fun _ m => m)) (enc := encGSpan) (u := (.int .i64 e77.xHi)) 0 rfl (reads_snap hv1) flelGSpan rfl h78 rfl rfl ty3 rfl ?_
          refine d_one (i := 10) rfl (by kernel_rfl) (o_callP (vs := [(.int .i64 e75.xLo), (.int .i64 0), (.int .i64 e77.xHi)]) Tryd.call74 rfl rfl (by intro w m h; exact (w_spec_l1In (F := allB [] w) (n_0 := e75.xLo) (lo_1 := 0) (hi_2 := e77.xHi) allB_ok h).mono (fun _ _ k => ret_free (fun r u => fr_nil) k)) ?_); rintro r79 _
          refine d_and (fun _ m => m) ?_
          refine o_not (dt 11 (fun _ m => m)) rfl rfl ?_
          refine o_mv (dt 12 (fun _ m => m)) rfl rfl ?_
          refine st_sp (dj := 35) rfl ?_ ?_
          · refine dsk 13 (fun _ m => m) rfl (by kernel_rfl) rfl rfl rfl rfl ?_
            refine dsk 14 (fun _ m => m) rfl (by kernel_rfl) rfl rfl rfl rfl ?_
            refine dsk 15 (fun _ m => m) rfl (by kernel_rfl) rfl rfl rfl rfl ?_
            refine dsk 16 (fun _ m => m) rfl (by kernel_rfl) rfl rfl rfl rfl ?_
            refine dsk 17 (fun _ m => m) rfl (by kernel_rfl) rfl rfl rfl rfl ?_
            refine dsk 18 (fun _ m => m) rfl (by kernel_rfl) rfl rfl rfl rfl ?_
            refine dsk 19 (fun _ m => m) rfl (by kernel_rfl) rfl rfl rfl rfl ?_
            refine dsk 20 (fun _ m => m) rfl (by kernel_rfl) rfl rfl rfl rfl ?_
            refine o_pickT (dt 21 (fun _ m => m)) rfl rfl rfl ?_
            refine d_done (by kernel_rfl) ?_
            exact l_join true (fun a w hE hm => ⟨hE.sub ⟨rfl, rfl, rfl, rfl, rfl, trivial⟩, (hm.pick [1, 0] rfl)⟩)
          · refine o_mv (dtg 13 (fun _ m => m)) rfl rfl ?_
            refine o_mv (dtg 14 (fun _ m => m)) rfl rfl ?_
            refine o_idx (dtg 15 (fun _ m => m)) 0 rfl (reads_snap hv1) rfl rfl rfl el72 ?_; intro e80 h81
            refine o_fadS (dtg 16 (fun _ m => m)) 0 rfl (reads_snap hv1) h81 rfl rfl fld71_1 rfl ?_
            refine o_lds (dtg 17 (fun _ m => m)) (enc := encGSpan) (u := (.int .i64 e80.xHi)) 0 rfl (reads_snap hv1) flelGSpan rfl h81 rfl rfl ty3 rfl ?_
            refine o_mv (dtg 18 (fun _ m => m)) rfl rfl ?_
            refine d_oneg (i := 19) rfl rfl rfl (by kernel_rfl) (o_callP (vs := [(.int .i64 e80.xHi), (.int .i64 0), (.int .i64 top_1)]) Tryd.call74 rfl rfl (by intro w m h; exact (w_spec_l1In (F := allB [] w) (n_0 := e80.xHi) (lo_1 := 0) (hi_2 := top_1) allB_ok h).mono (fun _ _ k => ret_free (fun r u => fr_nil) k)) ?_); rintro r82 _
            refine d_and (fun _ m => m) ?_
            refine o_not (dtg 20 (fun _ m => m)) rfl rfl ?_
            refine o_pickF (dt 21 (fun _ m => m)) rfl rfl rfl ?_
            refine d_done (by kernel_rfl) ?_
            exact l_join (!r82) (fun a w hE hm => ⟨hE.sub ⟨rfl, rfl, rfl, rfl, rfl, trivial⟩, (hm.pick [1, 0] rfl)⟩)
        · rintro t143 a w ⟨hE, hm⟩ h
          refine nx_of hE hm h ?_
          clear hE hm h
          refine c_cond rfl ?_ ?_
          · refine c_seq ?_
            refine c_region ?_
            refine stw (o_bsl (enc := encGSpan) (qs := []) (cells := []) ([] : (List GSpan)) flelGSpan (by intro ρ h; simp only [List.map_toArray, List.map_cons, List.map_nil]) rfl el72 zero71 rfl rfl rfl rfl rfl rfl ?_); intro v145
            refine o_as st rfl rfl ?_
            refine c_nil ?_
            refine l_then ?_
            refine c_ret ?_
            refine l_ret ?_
            refine b_ret ?_
            refine l_ret ?_
            refine l_ret ?_
            refine b_ret ?_
            refine l_ret ?_
            exact l_end1 Tryd.results95 ([]) v145 (rv_t rfl) (fun w m => NewCh.ofB m [0] rfl)
          · refine c_skip ?_
            refine l_then ?_
            refine c_region ?_
            refine o_mv st rfl rfl ?_
            refine o_mv st rfl rfl ?_
            refine o_mv st rfl rfl ?_
            refine o_idx st 1 rfl (reads_snap hv1) rfl rfl rfl el72 ?_; intro e147 h148
            refine o_lds st (enc := encGSpan) (u := (.agg #[(.int .i64 e147.xLo), (.int .i64 e147.xHi)])) 1 rfl (reads_snap hv1) flelGSpan rfl h148 rfl rfl ty71 rfl ?_
            refine stw (o_callP (vs := [v69, (.agg #[(.int .i64 e147.xLo), (.int .i64 e147.xHi)])]) Tryd.call118 rfl rfl (by intro w m h; exact (w_spec_l1Add (F := allB [] w) (list_0 := xs70) (s_1 := e147) allB_ok (m.rd0 0 rfl reads_own) h).mono (fun _ _ k => ret_free (fun r u => (fr_cons (free_own flelGSpan) fr_nil)) k)) ?_); rintro r149 v150
            refine o_as st rfl rfl ?_
            refine c_nil ?_
            refine b_norm ?_
            refine l_then ?_
            refine c_region ?_
            refine o_mv st rfl rfl ?_
            refine o_add st rfl rfl rfl ?_; intro t152
            refine o_as st rfl rfl ?_
            refine c_nil ?_
            exact l_join (r149, t152) (fun a w hE hm => ⟨v150, hE.sub ⟨rfl, rfl, rfl, rfl, trivial⟩, (hm.pick [2, 0] rfl)⟩)
      · refine c_exit ?_
        refine l_exit ?_
        refine l_exit ?_
        refine b_exit ?_
        refine l_then ?_
        refine c_seq ?_
        refine c_region ?_
        refine o_mv st rfl rfl ?_
        refine o_as st rfl rfl ?_
        refine c_nil ?_
        refine l_then ?_
        refine c_ret ?_
        exact l_end1 Tryd.results95 xs70 v69 (rv_t rfl) (fun w m => NewCh.ofB m [1] rfl)

set_option maxRecDepth 100000 in
set_option maxHeartbeats 8000000 in
theorem w_spec_l20Span {w0 : World} {F : Nat → Prop} {b1 : Nat} {v2 : Value} {r_0_b : (List UInt8)} {r_0_p : Int} {top_1 : Int} {n_2 : Int} {κ : (GSpan × Int) → Prop} (hF : ∀ b, F b → b < w0.heap.size ∧ ¬ feet [cellCh b1 [v2, (.int .i64 r_0_p)] 104] b) (hg : Given [cellCh b1 [v2, (.int .i64 r_0_p)] 104] F w0) (hv2 : Sl elU8 F w0 v2 r_0_b) (h : L_spec_l20Span r_0_b r_0_p top_1 n_2 κ) :
    Calls Tryd.prog 97 #[(.pointer (some ⟨b1, 0, none⟩)), (.int .i64 top_1), (.int .i64 n_2)] w0 (Ret [cellCh b1 [v2, (.int .i64 r_0_p)] 104] F w0 κ (fun (r : (GSpan × Int)) (u : Unit) => (.agg #[(.int .i64 r.1.xLo), (.int .i64 r.1.xHi)])) (fun (r : (GSpan × Int)) (u : Unit) => [cellCh b1 [v2, (.int .i64 r.2)] 104])) := by
  refine enterS (args := [(.pointer (some ⟨b1, 0, none⟩)), (.int .i64 top_1), (.int .i64 n_2)]) [cellCh b1 [v2, (.int .i64 r_0_p)] 104] hF hg Tryd.func97 rfl Tryd.ntmps97 rfl h ?_
  clear h hF hg
  refine c_seq ?_
  refine c_region ?_
  refine stw (o_alloc rfl [(.int .i64 0), (.int .i64 0)] zero71 ?_); intro b5
  refine c_nil ?_
  refine l_then ?_
  refine c_seq ?_
  refine c_region ?_
  refine o_mv st rfl rfl ?_
  refine o_mv st rfl rfl ?_
  refine o_add st rfl rfl rfl ?_; intro t7
  refine o_min st rfl rfl rfl ?_
  refine pk [1, 0, 2] rfl ?_
  refine stw (o_call (vs := [(.pointer (some ⟨b1, 0, none⟩)), (.int .i64 (min 256 t7))]) (M0 := [cellCh b1 [v2, (.int .i64 r_0_p)] 104]) Tryd.call60 rfl rfl (by intro w m h; exact (w_spec_l20Rd_pick (F := allB [cellCh b1 [v2, (.int .i64 r_0_p)] 104] w) (r_0_b := r_0_b) (r_0_p := r_0_p) (n_1 := (min 256 t7)) allB_ok m.given (m.rdM 1 rfl (reads_snap hv2)) h).mono (fun _ _ k => ret_free (fun r u => (fr_cons free_cell fr_nil)) k)) ?_); rintro ⟨r8, r9⟩ _
  refine o_bld st (qs := [(0, (.int .i64 r8))]) (cells := [(.int .i64 r8), (.int .i64 0)]) (by intro ρ h; simp only [List.map_toArray, List.map_cons, List.map_nil, h (.tmp 12) _ rfl]) rfl bld71 rfl ?_
  refine stw (o_alloc rfl [(.int .i64 0), (.int .i64 0)] zero71 ?_); intro b10
  refine stw (o_stc (cs' := [(.int .i64 r8), (.int .i64 0)]) 0 rfl rfl rfl ty71 rfl rfl rfl rfl ?_)
  refine c_nil ?_
  refine l_then ?_
  refine c_join (σ := (Int × Int)) (fun ((t144, t145) : (Int × Int)) (a : Act) (w : World) => Has 68 [(0, (.pointer (some ⟨b1, 0, none⟩))), (1, (.int .i64 top_1)), (2, (.int .i64 n_2)), (6, (.pointer (some ⟨b5, 0, none⟩))), (7, (.pointer (some ⟨b10, 0, none⟩)))] a ∧ Mem (gB F [cellCh b1 [v2, (.int .i64 r_0_p)] 104] w0) (feet [cellCh b1 [v2, (.int .i64 r_0_p)] 104]) w0 [cellCh b1 [v2, (.int .i64 t144)] 104, cellCh b10 [(.int .i64 t145), (.int .i64 0)] 71, cellCh b5 [(.int .i64 0), (.int .i64 0)] 71, snapCh w0 F] w) ?_ ?_
  · intro k146
    refine c_join (σ := (Int × Bool)) (fun ((t74, t75) : (Int × Bool)) (a : Act) (w : World) => Has 68 [(0, (.pointer (some ⟨b1, 0, none⟩))), (1, (.int .i64 top_1)), (2, (.int .i64 n_2)), (6, (.pointer (some ⟨b5, 0, none⟩))), (7, (.pointer (some ⟨b10, 0, none⟩))), (20, (.bool t75))] a ∧ Mem (gB F [cellCh b1 [v2, (.int .i64 r_0_p)] 104] w0) (feet [cellCh b1 [v2, (.int .i64 r_0_p)] 104]) w0 [cellCh b1 [v2, (.int .i64 t74)] 104, cellCh b10 [(.int .i64 r8), (.int .i64 0)] 71, cellCh b5 [(.int .i64 0), (.int .i64 0)] 71, snapCh w0 F] w) ?_ ?_
    · intro k76
      refine c_region ?_
      refine o_mv st rfl rfl ?_
      refine o_gtr st rfl rfl rfl ?_
      refine o_mv st rfl rfl ?_
      refine st_sp (dj := 16) rfl ?_ ?_
      · refine o_mv (st_g rfl rfl) rfl rfl ?_
        refine pk [1, 0, 2, 3] rfl ?_
        refine st_gw rfl rfl (o_call (vs := [(.pointer (some ⟨b1, 0, none⟩)), (.int .i64 2)]) (M0 := [cellCh b1 [v2, (.int .i64 r9)] 104]) Tryd.call60 rfl rfl (by intro w m h; exact (w_spec_l20Rd_pick (F := allB [cellCh b1 [v2, (.int .i64 r9)] 104] w) (r_0_b := r_0_b) (r_0_p := r9) (n_1 := 2) allB_ok m.given (m.rdM 2 rfl (reads_snap hv2)) h).mono (fun _ _ k => ret_free (fun r u => (fr_cons free_cell fr_nil)) k)) ?_); rintro ⟨r12, r13⟩ _
        refine o_eql (st_g rfl rfl) und3 rfl rfl rfl ?_
        refine o_pickT st rfl rfl rfl ?_
        refine c_nil ?_
        exact l_join (r13, (decide (r12 = 0))) (fun a w hE hm => ⟨hE.sub ⟨rfl, rfl, rfl, rfl, rfl, rfl, trivial⟩, (hm.pick [0, 1, 2, 3] rfl)⟩)
      · refine st_s rfl rfl rfl rfl ?_
        refine st_s rfl rfl rfl rfl ?_
        refine st_s rfl rfl rfl rfl ?_
        refine o_pickF st rfl rfl rfl ?_
        refine c_nil ?_
        exact l_join (r9, false) (fun a w hE hm => ⟨hE.sub ⟨rfl, rfl, rfl, rfl, rfl, rfl, trivial⟩, (hm.pick [1, 0, 2, 3] rfl)⟩)
    · rintro ⟨t74, t75⟩ a w ⟨hE, hm⟩ h
      refine nx_of hE hm h ?_
      clear hE hm h
      refine c_cond rfl ?_ ?_
      · refine c_join1 (σ := (Int × Int)) (fun ((t77, t78) : (Int × Int)) (a : Act) (w : World) => Has 68 [(0, (.pointer (some ⟨b1, 0, none⟩))), (1, (.int .i64 top_1)), (2, (.int .i64 n_2)), (6, (.pointer (some ⟨b5, 0, none⟩))), (7, (.pointer (some ⟨b10, 0, none⟩)))] a ∧ Mem (gB F [cellCh b1 [v2, (.int .i64 r_0_p)] 104] w0) (feet [cellCh b1 [v2, (.int .i64 r_0_p)] 104]) w0 [cellCh b1 [v2, (.int .i64 t77)] 104, cellCh b10 [(.int .i64 t78), (.int .i64 0)] 71, cellCh b5 [(.int .i64 0), (.int .i64 0)] 71, snapCh w0 F] w) ?_ ?_
        · intro k79
          refine c_drawQ mixed 10 rfl [cellCh b5 [(.int .i64 0), (.int .i64 0)] 71, snapCh w0 F] ?_
          intro Qd hP hQ
          have H51 : ∀ (r80 : Int) (r81 : Int), Nx 68 (gB F [cellCh b1 [v2, (.int .i64 r_0_p)] 104] w0) (feet [cellCh b1 [v2, (.int .i64 r_0_p)] 104]) w0 (wpAnyH Tryd.prog .any (opsAt Tryd.f97 [1, 1, 0, 1, 0]) Qd (Mem (gB F [cellCh b1 [v2, (.int .i64 r_0_p)] 104] w0) (feet [cellCh b1 [v2, (.int .i64 r_0_p)] 104]) w0 [cellCh b5 [(.int .i64 0), (.int .i64 0)] 71, snapCh w0 F]) 0 #[true, true, true, true, true, true, true, true, true, true]) [(0, (.pointer (some ⟨b1, 0, none⟩))), (1, (.int .i64 top_1)), (2, (.int .i64 n_2)), (6, (.pointer (some ⟨b5, 0, none⟩))), (7, (.pointer (some ⟨b10, 0, none⟩)))] [cellCh b1 [v2, (.int .i64 r81)] 104, cellCh b10 [(.int .i64 (min top_1 (w64 ((w64 (r8 * 256)) + r80)))), (.int .i64 0)] 71, cellCh b5 [(.int .i64 0), (.int .i64 0)] 71, snapCh w0 F] (k79 (r81, (min top_1 (w64 ((w64 (r8 * 256)) + r80))))) := by
            intro r80 r81
            refine d_done (by kernel_rfl) ?_
            exact fun a w hE hm hφ => hQ (r81, (min top_1 (w64 ((w64 (r8 * 256)) + r80)))) a w hφ ((fun a w hE hm => ⟨hE.sub ⟨rfl, rfl, rfl, rfl, rfl, trivial⟩, (hm.pick [0, 1, 2, 3] rfl)⟩) a w hE hm)
          have H52 : ∀ (r80 : Int) (r81 : Int), Nx 68 (gB F [cellCh b1 [v2, (.int .i64 r_0_p)] 104] w0) (feet [cellCh b1 [v2, (.int .i64 r_0_p)] 104]) w0 (wpAnyH Tryd.prog .any (opsAt Tryd.f97 [1, 1, 0, 1, 0]) Qd (Mem (gB F [cellCh b1 [v2, (.int .i64 r_0_p)] 104] w0) (feet [cellCh b1 [v2, (.int .i64 r_0_p)] 104]) w0 [cellCh b5 [(.int .i64 0), (.int .i64 0)] 71, snapCh w0 F]) 4 #[true, true, true, true, true, true, false, false, false, false]) [(0, (.pointer (some ⟨b1, 0, none⟩))), (1, (.int .i64 top_1)), (2, (.int .i64 n_2)), (6, (.pointer (some ⟨b5, 0, none⟩))), (7, (.pointer (some ⟨b10, 0, none⟩))), (21, (.int .i64 top_1)), (24, (.int .i64 (w64 (r8 * 256)))), (26, (.int .i64 r80))] [cellCh b1 [v2, (.int .i64 r81)] 104, cellCh b10 [(.int .i64 r8), (.int .i64 0)] 71, cellCh b5 [(.int .i64 0), (.int .i64 0)] 71, snapCh w0 F] (k79 (r81, (min top_1 (w64 ((w64 (r8 * 256)) + r80))))) := by
            intro r80 r81
            refine o_addw (dt 6 (fun w m => m.pick [2, 3] rfl)) rfl rfl rfl ?_
            refine o_min (dt 7 (fun w m => m.pick [2, 3] rfl)) rfl rfl rfl ?_
            refine o_fad (dt 8 (fun w m => m.pick [2, 3] rfl)) rfl rfl fld71_0 rfl ?_
            refine d_one (i := 9) rfl (by kernel_rfl) (o_stc (cs' := [(.int .i64 (min top_1 (w64 ((w64 (r8 * 256)) + r80)))), (.int .i64 0)]) 1 rfl rfl rfl ty3 rfl rfl rfl rfl ?_)
            refine d_and (fun w m => m.pick [2, 3] rfl) ?_
            refine pk [0, 1, 2, 3] rfl ?_
            refine re (E' := [(0, (.pointer (some ⟨b1, 0, none⟩))), (1, (.int .i64 top_1)), (2, (.int .i64 n_2)), (6, (.pointer (some ⟨b5, 0, none⟩))), (7, (.pointer (some ⟨b10, 0, none⟩)))]) ⟨rfl, rfl, rfl, rfl, rfl, trivial⟩ ?_
            exact H51 r80 r81
          have H53 : ∀ (_ : Unit), Nx 68 (gB F [cellCh b1 [v2, (.int .i64 r_0_p)] 104] w0) (feet [cellCh b1 [v2, (.int .i64 r_0_p)] 104]) w0 (wpAnyH Tryd.prog .any (opsAt Tryd.f97 [1, 1, 0, 1, 0]) Qd (Mem (gB F [cellCh b1 [v2, (.int .i64 r_0_p)] 104] w0) (feet [cellCh b1 [v2, (.int .i64 r_0_p)] 104]) w0 [cellCh b5 [(.int .i64 0), (.int .i64 0)] 71, snapCh w0 F]) 6 #[true, true, true, false, true, false, false, false, false, false]) [(0, (.pointer (some ⟨b1, 0, none⟩))), (1, (.int .i64 top_1)), (2, (.int .i64 n_2)), (6, (.pointer (some ⟨b5, 0, none⟩))), (7, (.pointer (some ⟨b10, 0, none⟩))), (21, (.int .i64 top_1)), (25, (.pointer (some ⟨b1, 0, none⟩))), (23, (.int .i64 r8))] [cellCh b1 [v2, (.int .i64 t74)] 104, cellCh b10 [(.int .i64 r8), (.int .i64 0)] 71, cellCh b5 [(.int .i64 0), (.int .i64 0)] 71, snapCh w0 F] (L_spec_l20Rd_pick r_0_b t74 256 (fun (r80, r81) => k79 (r81, (min top_1 (w64 ((w64 (r8 * 256)) + r80)))))) := by
            intro _
            refine o_mulw (dt 3 (fun w m => m.pick [2, 3] rfl)) rfl rfl rfl ?_
            refine d_one (i := 5) rfl (by kernel_rfl) (o_call (vs := [(.pointer (some ⟨b1, 0, none⟩)), (.int .i64 256)]) (M0 := [cellCh b1 [v2, (.int .i64 t74)] 104]) Tryd.call60 rfl rfl (by intro w m h; exact (w_spec_l20Rd_pick (F := allB [cellCh b1 [v2, (.int .i64 t74)] 104] w) (r_0_b := r_0_b) (r_0_p := t74) (n_1 := 256) allB_ok m.given (m.rdM 2 rfl (reads_snap hv2)) h).mono (fun _ _ k => ret_free (fun r u => (fr_cons free_cell fr_nil)) k)) ?_); rintro ⟨r80, r81⟩ _
            refine d_and (fun w m => m.pick [2, 3] rfl) ?_
            refine pk [0, 1, 2, 3] rfl ?_
            refine re (E' := [(0, (.pointer (some ⟨b1, 0, none⟩))), (1, (.int .i64 top_1)), (2, (.int .i64 n_2)), (6, (.pointer (some ⟨b5, 0, none⟩))), (7, (.pointer (some ⟨b10, 0, none⟩))), (21, (.int .i64 top_1)), (24, (.int .i64 (w64 (r8 * 256)))), (26, (.int .i64 r80))]) ⟨rfl, rfl, rfl, rfl, rfl, rfl, rfl, rfl, trivial⟩ ?_
            exact H52 r80 r81
          have H54 : ∀ (r82 : Int) (r83 : Int), Nx 68 (gB F [cellCh b1 [v2, (.int .i64 r_0_p)] 104] w0) (feet [cellCh b1 [v2, (.int .i64 r_0_p)] 104]) w0 (wpAnyH Tryd.prog .any (opsAt Tryd.f97 [1, 1, 0, 1, 0]) Qd (Mem (gB F [cellCh b1 [v2, (.int .i64 r_0_p)] 104] w0) (feet [cellCh b1 [v2, (.int .i64 r_0_p)] 104]) w0 [cellCh b5 [(.int .i64 0), (.int .i64 0)] 71, snapCh w0 F]) 5 #[true, true, true, false, true, true, false, false, false, false]) [(0, (.pointer (some ⟨b1, 0, none⟩))), (1, (.int .i64 top_1)), (2, (.int .i64 n_2)), (6, (.pointer (some ⟨b5, 0, none⟩))), (7, (.pointer (some ⟨b10, 0, none⟩))), (21, (.int .i64 top_1)), (26, (.int .i64 r82)), (23, (.int .i64 r8))] [cellCh b1 [v2, (.int .i64 r83)] 104, cellCh b10 [(.int .i64 r8), (.int .i64 0)] 71, cellCh b5 [(.int .i64 0), (.int .i64 0)] 71, snapCh w0 F] (k79 (r83, (min top_1 (w64 ((w64 (r8 * 256)) + r82))))) := by
            intro r82 r83
            refine o_mulw (dt 3 (fun w m => m.pick [2, 3] rfl)) rfl rfl rfl ?_
            refine o_addw (dt 6 (fun w m => m.pick [2, 3] rfl)) rfl rfl rfl ?_
            refine o_min (dt 7 (fun w m => m.pick [2, 3] rfl)) rfl rfl rfl ?_
            refine o_fad (dt 8 (fun w m => m.pick [2, 3] rfl)) rfl rfl fld71_0 rfl ?_
            refine d_one (i := 9) rfl (by kernel_rfl) (o_stc (cs' := [(.int .i64 (min top_1 (w64 ((w64 (r8 * 256)) + r82)))), (.int .i64 0)]) 1 rfl rfl rfl ty3 rfl rfl rfl rfl ?_)
            refine d_and (fun w m => m.pick [2, 3] rfl) ?_
            refine pk [0, 1, 2, 3] rfl ?_
            refine re (E' := [(0, (.pointer (some ⟨b1, 0, none⟩))), (1, (.int .i64 top_1)), (2, (.int .i64 n_2)), (6, (.pointer (some ⟨b5, 0, none⟩))), (7, (.pointer (some ⟨b10, 0, none⟩)))]) ⟨rfl, rfl, rfl, rfl, rfl, trivial⟩ ?_
            exact H51 r82 r83
          have H55 : ∀ (r82 : Int) (r83 : Int), Nx 68 (gB F [cellCh b1 [v2, (.int .i64 r_0_p)] 104] w0) (feet [cellCh b1 [v2, (.int .i64 r_0_p)] 104]) w0 (wpAnyH Tryd.prog .any (opsAt Tryd.f97 [1, 1, 0, 1, 0]) Qd (Mem (gB F [cellCh b1 [v2, (.int .i64 r_0_p)] 104] w0) (feet [cellCh b1 [v2, (.int .i64 r_0_p)] 104]) w0 [cellCh b5 [(.int .i64 0), (.int .i64 0)] 71, snapCh w0 F]) 6 #[true, true, false, false, true, true, false, false, false, false]) [(0, (.pointer (some ⟨b1, 0, none⟩))), (1, (.int .i64 top_1)), (2, (.int .i64 n_2)), (6, (.pointer (some ⟨b5, 0, none⟩))), (7, (.pointer (some ⟨b10, 0, none⟩))), (21, (.int .i64 top_1)), (22, (.pointer (some ⟨b10, 0, none⟩))), (26, (.int .i64 r82))] [cellCh b1 [v2, (.int .i64 r83)] 104, cellCh b10 [(.int .i64 r8), (.int .i64 0)] 71, cellCh b5 [(.int .i64 0), (.int .i64 0)] 71, snapCh w0 F] (k79 (r83, (min top_1 (w64 ((w64 (r8 * 256)) + r82))))) := by
            intro r82 r83
            refine d_one (i := 2) rfl (by kernel_rfl) (o_ldc m_op (v := (.int .i64 r8)) 1 rfl rfl rfl ty3 rfl ?_)
            refine d_and (fun w m => m.pick [2, 3] rfl) ?_
            refine pk [0, 1, 2, 3] rfl ?_
            refine re (E' := [(0, (.pointer (some ⟨b1, 0, none⟩))), (1, (.int .i64 top_1)), (2, (.int .i64 n_2)), (6, (.pointer (some ⟨b5, 0, none⟩))), (7, (.pointer (some ⟨b10, 0, none⟩))), (21, (.int .i64 top_1)), (26, (.int .i64 r82)), (23, (.int .i64 r8))]) ⟨rfl, rfl, rfl, rfl, rfl, rfl, rfl, rfl, trivial⟩ ?_
            exact H54 r82 r83
          refine o_mv (dt 0 (fun w m => m.pick [2, 3] rfl)) rfl rfl ?_
          refine o_fad (dt 1 (fun w m => m.pick [2, 3] rfl)) rfl rfl fld71_0 rfl ?_
          refine o_mv (dt 4 (fun w m => m.pick [2, 3] rfl)) rfl rfl ?_
          refine d_two (i := 2) (j := 5) rfl rfl (by kernel_rfl) ?_ ?_
          · intro o ho; cases ho
            refine o_ldc m_op (v := (.int .i64 r8)) 1 rfl rfl rfl ty3 rfl ?_
            refine d_and (fun w m => m.pick [2, 3] rfl) ?_
            refine pk [0, 1, 2, 3] rfl ?_
            refine re (E' := [(0, (.pointer (some ⟨b1, 0, none⟩))), (1, (.int .i64 top_1)), (2, (.int .i64 n_2)), (6, (.pointer (some ⟨b5, 0, none⟩))), (7, (.pointer (some ⟨b10, 0, none⟩))), (21, (.int .i64 top_1)), (25, (.pointer (some ⟨b1, 0, none⟩))), (23, (.int .i64 r8))]) ⟨rfl, rfl, rfl, rfl, rfl, rfl, rfl, rfl, trivial⟩ ?_
            exact H53 ()
          · intro o ho; cases ho
            refine o_call (vs := [(.pointer (some ⟨b1, 0, none⟩)), (.int .i64 256)]) (M0 := [cellCh b1 [v2, (.int .i64 t74)] 104]) Tryd.call60 rfl rfl (by intro w m h; exact (w_spec_l20Rd_pick (F := allB [cellCh b1 [v2, (.int .i64 t74)] 104] w) (r_0_b := r_0_b) (r_0_p := t74) (n_1 := 256) allB_ok m.given (m.rdM 2 rfl (reads_snap hv2)) h).mono (fun _ _ k => ret_free (fun r u => (fr_cons free_cell fr_nil)) k)) ?_; rintro ⟨r82, r83⟩ _
            refine d_and (fun w m => m.pick [2, 3] rfl) ?_
            refine pk [0, 1, 2, 3] rfl ?_
            refine re (E' := [(0, (.pointer (some ⟨b1, 0, none⟩))), (1, (.int .i64 top_1)), (2, (.int .i64 n_2)), (6, (.pointer (some ⟨b5, 0, none⟩))), (7, (.pointer (some ⟨b10, 0, none⟩))), (21, (.int .i64 top_1)), (22, (.pointer (some ⟨b10, 0, none⟩))), (26, (.int .i64 r82))]) ⟨rfl, rfl, rfl, rfl, rfl, rfl, rfl, rfl, trivial⟩ ?_
            exact H55 r82 r83
        · rintro ⟨t77, t78⟩ a w ⟨hE, hm⟩ h
          refine nx_of hE hm h ?_
          clear hE hm h
          exact l_join (t77, t78) (fun a w hE hm => ⟨hE.sub ⟨rfl, rfl, rfl, rfl, rfl, trivial⟩, (hm.pick [0, 1, 2, 3] rfl)⟩)
      · refine c_skip ?_
        exact l_join (t74, r8) (fun a w hE hm => ⟨hE.sub ⟨rfl, rfl, rfl, rfl, rfl, trivial⟩, (hm.pick [0, 1, 2, 3] rfl)⟩)
  · rintro ⟨t144, t145⟩ a w ⟨hE, hm⟩ h
    refine nx_of hE hm h ?_
    clear hE hm h
    refine c_join (σ := (Int × Int)) (fun ((t147, t148) : (Int × Int)) (a : Act) (w : World) => Has 68 [(0, (.pointer (some ⟨b1, 0, none⟩))), (1, (.int .i64 top_1)), (2, (.int .i64 n_2)), (6, (.pointer (some ⟨b5, 0, none⟩))), (7, (.pointer (some ⟨b10, 0, none⟩)))] a ∧ Mem (gB F [cellCh b1 [v2, (.int .i64 r_0_p)] 104] w0) (feet [cellCh b1 [v2, (.int .i64 r_0_p)] 104]) w0 [cellCh b1 [v2, (.int .i64 t147)] 104, cellCh b10 [(.int .i64 t145), (.int .i64 t148)] 71, cellCh b5 [(.int .i64 0), (.int .i64 0)] 71, snapCh w0 F] w) ?_ ?_
    · intro k149
      refine c_drawQ mixed 16 rfl [cellCh b5 [(.int .i64 0), (.int .i64 0)] 71, snapCh w0 F] ?_
      intro Qd hP hQ
      have H57 : ∀ (r150 : Int) (r151 : Int) (r152 : Int) (r153 : Int) (v154 : Value) (r155 : Int) (r156 : Int) (e157 : Int) (h158 : ([0, r150, r152, 4096])[(r155).toNat]? = some e157), Nx 68 (gB F [cellCh b1 [v2, (.int .i64 r_0_p)] 104] w0) (feet [cellCh b1 [v2, (.int .i64 r_0_p)] 104]) w0 (wpAnyH Tryd.prog .any (opsAt Tryd.f97 [1, 1, 1, 0]) Qd (Mem (gB F [cellCh b1 [v2, (.int .i64 r_0_p)] 104] w0) (feet [cellCh b1 [v2, (.int .i64 r_0_p)] 104]) w0 [cellCh b5 [(.int .i64 0), (.int .i64 0)] 71, snapCh w0 F]) 0 #[true, true, true, true, true, true, true, true, true, true, true, true, true, true, true, true]) [(0, (.pointer (some ⟨b1, 0, none⟩))), (1, (.int .i64 top_1)), (2, (.int .i64 n_2)), (6, (.pointer (some ⟨b5, 0, none⟩))), (7, (.pointer (some ⟨b10, 0, none⟩)))] [cellCh b1 [v2, (.int .i64 r156)] 104, cellCh b10 [(.int .i64 t145), (.int .i64 (min top_1 (w64 (t145 + e157))))] 71, cellCh b5 [(.int .i64 0), (.int .i64 0)] 71, snapCh w0 F] (k149 (r156, (min top_1 (w64 (t145 + e157))))) := by
        intro r150 r151 r152 r153 v154 r155 r156 e157 h158
        refine d_done (by kernel_rfl) ?_
        exact fun a w hE hm hφ => hQ (r156, (min top_1 (w64 (t145 + e157)))) a w hφ ((fun a w hE hm => ⟨hE.sub ⟨rfl, rfl, rfl, rfl, rfl, trivial⟩, (hm.pick [0, 1, 2, 3] rfl)⟩) a w hE hm)
      have H58 : ∀ (r150 : Int) (r151 : Int) (r152 : Int) (r153 : Int) (v154 : Value) (r155 : Int) (r156 : Int) (e157 : Int) (h158 : ([0, r150, r152, 4096])[(r155).toNat]? = some e157), Nx 68 (gB F [cellCh b1 [v2, (.int .i64 r_0_p)] 104] w0) (feet [cellCh b1 [v2, (.int .i64 r_0_p)] 104]) w0 (wpAnyH Tryd.prog .any (opsAt Tryd.f97 [1, 1, 1, 0]) Qd (Mem (gB F [cellCh b1 [v2, (.int .i64 r_0_p)] 104] w0) (feet [cellCh b1 [v2, (.int .i64 r_0_p)] 104]) w0 [cellCh b5 [(.int .i64 0), (.int .i64 0)] 71, snapCh w0 F]) 4 #[true, true, true, true, true, true, true, true, true, true, true, true, false, false, false, false]) [(0, (.pointer (some ⟨b1, 0, none⟩))), (1, (.int .i64 top_1)), (2, (.int .i64 n_2)), (6, (.pointer (some ⟨b5, 0, none⟩))), (7, (.pointer (some ⟨b10, 0, none⟩))), (30, (.int .i64 top_1)), (32, (.int .i64 t145)), (41, (.int .i64 e157))] [cellCh b1 [v2, (.int .i64 r156)] 104, cellCh b10 [(.int .i64 t145), (.int .i64 0)] 71, cellCh b5 [(.int .i64 0), (.int .i64 0)] 71, snapCh w0 F] (k149 (r156, (min top_1 (w64 (t145 + e157))))) := by
        intro r150 r151 r152 r153 v154 r155 r156 e157 h158
        refine o_addw (dt 12 (fun w m => m.pick [2, 3] rfl)) rfl rfl rfl ?_
        refine o_min (dt 13 (fun w m => m.pick [2, 3] rfl)) rfl rfl rfl ?_
        refine o_fad (dt 14 (fun w m => m.pick [2, 3] rfl)) rfl rfl fld71_1 rfl ?_
        refine d_one (i := 15) rfl (by kernel_rfl) (o_stc (cs' := [(.int .i64 t145), (.int .i64 (min top_1 (w64 (t145 + e157))))]) 1 rfl rfl rfl ty3 rfl rfl rfl rfl ?_)
        refine d_and (fun w m => m.pick [2, 3] rfl) ?_
        refine pk [0, 1, 2, 3] rfl ?_
        refine re (E' := [(0, (.pointer (some ⟨b1, 0, none⟩))), (1, (.int .i64 top_1)), (2, (.int .i64 n_2)), (6, (.pointer (some ⟨b5, 0, none⟩))), (7, (.pointer (some ⟨b10, 0, none⟩)))]) ⟨rfl, rfl, rfl, rfl, rfl, trivial⟩ ?_
        exact H57 r150 r151 r152 r153 v154 r155 r156 e157 h158
      have H59 : ∀ (r150 : Int) (r151 : Int) (r152 : Int) (r153 : Int) (v154 : Value) (r155 : Int) (r156 : Int) (e157 : Int) (h158 : ([0, r150, r152, 4096])[(r155).toNat]? = some e157), Nx 68 (gB F [cellCh b1 [v2, (.int .i64 r_0_p)] 104] w0) (feet [cellCh b1 [v2, (.int .i64 r_0_p)] 104]) w0 (wpAnyH Tryd.prog .any (opsAt Tryd.f97 [1, 1, 1, 0]) Qd (Mem (gB F [cellCh b1 [v2, (.int .i64 r_0_p)] 104] w0) (feet [cellCh b1 [v2, (.int .i64 r_0_p)] 104]) w0 [cellCh b5 [(.int .i64 0), (.int .i64 0)] 71, snapCh w0 F]) 5 #[true, true, true, true, true, true, true, true, true, true, true, false, false, false, false, false]) [(0, (.pointer (some ⟨b1, 0, none⟩))), (1, (.int .i64 top_1)), (2, (.int .i64 n_2)), (6, (.pointer (some ⟨b5, 0, none⟩))), (7, (.pointer (some ⟨b10, 0, none⟩))), (30, (.int .i64 top_1)), (32, (.int .i64 t145)), (40, (pEl v154 r155 1 0))] [cellCh b1 [v2, (.int .i64 r156)] 104, ownCh elInt 3 v154 ([0, r150, r152, 4096]), cellCh b10 [(.int .i64 t145), (.int .i64 0)] 71, cellCh b5 [(.int .i64 0), (.int .i64 0)] 71, snapCh w0 F] (k149 (r156, (min top_1 (w64 (t145 + e157))))) := by
        intro r150 r151 r152 r153 v154 r155 r156 e157 h158
        refine d_one (i := 11) rfl (by kernel_rfl) (o_lds m_op (enc := encInt) (u := (.int .i64 e157)) 1 rfl reads_own flelInt rfl h158 rfl rfl ty3 rfl ?_)
        refine d_and (fun w m => m.pick [3, 4] rfl) ?_
        refine pk [0, 2, 3, 4] rfl ?_
        refine re (E' := [(0, (.pointer (some ⟨b1, 0, none⟩))), (1, (.int .i64 top_1)), (2, (.int .i64 n_2)), (6, (.pointer (some ⟨b5, 0, none⟩))), (7, (.pointer (some ⟨b10, 0, none⟩))), (30, (.int .i64 top_1)), (32, (.int .i64 t145)), (41, (.int .i64 e157))]) ⟨rfl, rfl, rfl, rfl, rfl, rfl, rfl, rfl, trivial⟩ ?_
        exact H58 r150 r151 r152 r153 v154 r155 r156 e157 h158
      have H60 : ∀ (r150 : Int) (r151 : Int) (r152 : Int) (r153 : Int) (v154 : Value) (r155 : Int) (r156 : Int), Nx 68 (gB F [cellCh b1 [v2, (.int .i64 r_0_p)] 104] w0) (feet [cellCh b1 [v2, (.int .i64 r_0_p)] 104]) w0 (wpAnyH Tryd.prog .any (opsAt Tryd.f97 [1, 1, 1, 0]) Qd (Mem (gB F [cellCh b1 [v2, (.int .i64 r_0_p)] 104] w0) (feet [cellCh b1 [v2, (.int .i64 r_0_p)] 104]) w0 [cellCh b5 [(.int .i64 0), (.int .i64 0)] 71, snapCh w0 F]) 6 #[true, true, true, true, true, true, true, true, true, true, false, false, false, false, false, false]) [(0, (.pointer (some ⟨b1, 0, none⟩))), (1, (.int .i64 top_1)), (2, (.int .i64 n_2)), (6, (.pointer (some ⟨b5, 0, none⟩))), (7, (.pointer (some ⟨b10, 0, none⟩))), (30, (.int .i64 top_1)), (32, (.int .i64 t145)), (37, v154), (39, (.int .i64 r155))] [cellCh b1 [v2, (.int .i64 r156)] 104, ownCh elInt 3 v154 ([0, r150, r152, 4096]), cellCh b10 [(.int .i64 t145), (.int .i64 0)] 71, cellCh b5 [(.int .i64 0), (.int .i64 0)] 71, snapCh w0 F] (idxW ([0, r150, r152, 4096]) r155 (fun e157 => k149 (r156, (min top_1 (w64 (t145 + e157)))))) := by
        intro r150 r151 r152 r153 v154 r155 r156
        refine d_one (i := 10) rfl (by kernel_rfl) (o_idx m_op 1 rfl reads_own rfl rfl rfl el27 ?_); intro e157 h158
        refine d_and (fun w m => m.pick [3, 4] rfl) ?_
        refine pk [0, 1, 2, 3, 4] rfl ?_
        refine re (E' := [(0, (.pointer (some ⟨b1, 0, none⟩))), (1, (.int .i64 top_1)), (2, (.int .i64 n_2)), (6, (.pointer (some ⟨b5, 0, none⟩))), (7, (.pointer (some ⟨b10, 0, none⟩))), (30, (.int .i64 top_1)), (32, (.int .i64 t145)), (40, (pEl v154 r155 1 0))]) ⟨rfl, rfl, rfl, rfl, rfl, rfl, rfl, rfl, trivial⟩ ?_
        exact H59 r150 r151 r152 r153 v154 r155 r156 e157 h158
      have H61 : ∀ (r150 : Int) (r151 : Int) (r152 : Int) (r153 : Int) (v154 : Value), Nx 68 (gB F [cellCh b1 [v2, (.int .i64 r_0_p)] 104] w0) (feet [cellCh b1 [v2, (.int .i64 r_0_p)] 104]) w0 (wpAnyH Tryd.prog .any (opsAt Tryd.f97 [1, 1, 1, 0]) Qd (Mem (gB F [cellCh b1 [v2, (.int .i64 r_0_p)] 104] w0) (feet [cellCh b1 [v2, (.int .i64 r_0_p)] 104]) w0 [cellCh b5 [(.int .i64 0), (.int .i64 0)] 71, snapCh w0 F]) 7 #[true, true, true, true, true, true, true, true, true, false, false, false, false, false, false, false]) [(0, (.pointer (some ⟨b1, 0, none⟩))), (1, (.int .i64 top_1)), (2, (.int .i64 n_2)), (6, (.pointer (some ⟨b5, 0, none⟩))), (7, (.pointer (some ⟨b10, 0, none⟩))), (30, (.int .i64 top_1)), (38, (.pointer (some ⟨b1, 0, none⟩))), (32, (.int .i64 t145)), (37, v154)] [ownCh elInt 3 v154 ([0, r150, r152, 4096]), cellCh b1 [v2, (.int .i64 r153)] 104, cellCh b10 [(.int .i64 t145), (.int .i64 0)] 71, cellCh b5 [(.int .i64 0), (.int .i64 0)] 71, snapCh w0 F] (L_spec_l20Rd_pick r_0_b r153 4 (fun (r155, r156) => idxW ([0, r150, r152, 4096]) r155 (fun e157 => k149 (r156, (min top_1 (w64 (t145 + e157))))))) := by
        intro r150 r151 r152 r153 v154
        refine pk [1, 0, 2, 3, 4] rfl ?_
        refine d_one (i := 9) rfl (by kernel_rfl) (o_call (vs := [(.pointer (some ⟨b1, 0, none⟩)), (.int .i64 4)]) (M0 := [cellCh b1 [v2, (.int .i64 r153)] 104]) Tryd.call60 rfl rfl (by intro w m h; exact (w_spec_l20Rd_pick (F := allB [cellCh b1 [v2, (.int .i64 r153)] 104] w) (r_0_b := r_0_b) (r_0_p := r153) (n_1 := 4) allB_ok m.given (m.rdM 3 rfl (reads_snap hv2)) h).mono (fun _ _ k => ret_free (fun r u => (fr_cons free_cell fr_nil)) k)) ?_); rintro ⟨r155, r156⟩ _
        refine d_and (fun w m => m.pick [3, 4] rfl) ?_
        refine pk [0, 1, 2, 3, 4] rfl ?_
        refine re (E' := [(0, (.pointer (some ⟨b1, 0, none⟩))), (1, (.int .i64 top_1)), (2, (.int .i64 n_2)), (6, (.pointer (some ⟨b5, 0, none⟩))), (7, (.pointer (some ⟨b10, 0, none⟩))), (30, (.int .i64 top_1)), (32, (.int .i64 t145)), (37, v154), (39, (.int .i64 r155))]) ⟨rfl, rfl, rfl, rfl, rfl, rfl, rfl, rfl, rfl, trivial⟩ ?_
        exact H60 r150 r151 r152 r153 v154 r155 r156
      have H62 : ∀ (r150 : Int) (r151 : Int) (r152 : Int) (r153 : Int) (r159 : Int) (r160 : Int), Nx 68 (gB F [cellCh b1 [v2, (.int .i64 r_0_p)] 104] w0) (feet [cellCh b1 [v2, (.int .i64 r_0_p)] 104]) w0 (wpAnyH Tryd.prog .any (opsAt Tryd.f97 [1, 1, 1, 0]) Qd (Mem (gB F [cellCh b1 [v2, (.int .i64 r_0_p)] 104] w0) (feet [cellCh b1 [v2, (.int .i64 r_0_p)] 104]) w0 [cellCh b5 [(.int .i64 0), (.int .i64 0)] 71, snapCh w0 F]) 7 #[true, true, true, true, true, true, true, false, true, true, false, false, false, false, false, false]) [(0, (.pointer (some ⟨b1, 0, none⟩))), (1, (.int .i64 top_1)), (2, (.int .i64 n_2)), (6, (.pointer (some ⟨b5, 0, none⟩))), (7, (.pointer (some ⟨b10, 0, none⟩))), (30, (.int .i64 top_1)), (32, (.int .i64 t145)), (34, (.int .i64 r150)), (36, (.int .i64 r152)), (39, (.int .i64 r159))] [cellCh b1 [v2, (.int .i64 r160)] 104, cellCh b10 [(.int .i64 t145), (.int .i64 0)] 71, cellCh b5 [(.int .i64 0), (.int .i64 0)] 71, snapCh w0 F] (idxW ([0, r150, r152, 4096]) r159 (fun e157 => k149 (r160, (min top_1 (w64 (t145 + e157)))))) := by
        intro r150 r151 r152 r153 r159 r160
        refine d_one (i := 7) rfl (by kernel_rfl) (o_bsl (enc := encInt) (qs := [(0, (.int .i64 0)), (1, (.int .i64 r150)), (2, (.int .i64 r152)), (3, (.int .i64 4096))]) (cells := [(.int .i64 0), (.int .i64 r150), (.int .i64 r152), (.int .i64 4096)]) ([0, r150, r152, 4096]) flelInt (by intro ρ h; simp only [List.map_toArray, List.map_cons, List.map_nil, h (.const (.int .i64 0)) _ rfl, h (.tmp 34) _ rfl, h (.tmp 36) _ rfl, h (.const (.int .i64 4096)) _ rfl]) rfl el27 zero3 rfl rfl rfl rfl rfl rfl ?_); intro v161
        refine d_and (fun w m => m.pick [3, 4] rfl) ?_
        refine pk [1, 0, 2, 3, 4] rfl ?_
        refine re (E' := [(0, (.pointer (some ⟨b1, 0, none⟩))), (1, (.int .i64 top_1)), (2, (.int .i64 n_2)), (6, (.pointer (some ⟨b5, 0, none⟩))), (7, (.pointer (some ⟨b10, 0, none⟩))), (30, (.int .i64 top_1)), (32, (.int .i64 t145)), (37, v161), (39, (.int .i64 r159))]) ⟨rfl, rfl, rfl, rfl, rfl, rfl, rfl, rfl, rfl, trivial⟩ ?_
        exact H60 r150 r151 r152 r153 v161 r159 r160
      have H63 : ∀ (r150 : Int) (r151 : Int) (r152 : Int) (r153 : Int), Nx 68 (gB F [cellCh b1 [v2, (.int .i64 r_0_p)] 104] w0) (feet [cellCh b1 [v2, (.int .i64 r_0_p)] 104]) w0 (wpAnyH Tryd.prog .any (opsAt Tryd.f97 [1, 1, 1, 0]) Qd (Mem (gB F [cellCh b1 [v2, (.int .i64 r_0_p)] 104] w0) (feet [cellCh b1 [v2, (.int .i64 r_0_p)] 104]) w0 [cellCh b5 [(.int .i64 0), (.int .i64 0)] 71, snapCh w0 F]) 8 #[true, true, true, true, true, true, true, false, true, false, false, false, false, false, false, false]) [(0, (.pointer (some ⟨b1, 0, none⟩))), (1, (.int .i64 top_1)), (2, (.int .i64 n_2)), (6, (.pointer (some ⟨b5, 0, none⟩))), (7, (.pointer (some ⟨b10, 0, none⟩))), (30, (.int .i64 top_1)), (38, (.pointer (some ⟨b1, 0, none⟩))), (32, (.int .i64 t145)), (34, (.int .i64 r150)), (36, (.int .i64 r152))] [cellCh b1 [v2, (.int .i64 r153)] 104, cellCh b10 [(.int .i64 t145), (.int .i64 0)] 71, cellCh b5 [(.int .i64 0), (.int .i64 0)] 71, snapCh w0 F] (L_spec_l20Rd_pick r_0_b r153 4 (fun (r155, r156) => idxW ([0, r150, r152, 4096]) r155 (fun e157 => k149 (r156, (min top_1 (w64 (t145 + e157))))))) := by
        intro r150 r151 r152 r153
        refine d_two (i := 7) (j := 9) rfl rfl (by kernel_rfl) ?_ ?_
        · intro o ho; cases ho
          refine o_bsl (enc := encInt) (qs := [(0, (.int .i64 0)), (1, (.int .i64 r150)), (2, (.int .i64 r152)), (3, (.int .i64 4096))]) (cells := [(.int .i64 0), (.int .i64 r150), (.int .i64 r152), (.int .i64 4096)]) ([0, r150, r152, 4096]) flelInt (by intro ρ h; simp only [List.map_toArray, List.map_cons, List.map_nil, h (.const (.int .i64 0)) _ rfl, h (.tmp 34) _ rfl, h (.tmp 36) _ rfl, h (.const (.int .i64 4096)) _ rfl]) rfl el27 zero3 rfl rfl rfl rfl rfl rfl ?_; intro v154
          refine d_and (fun w m => m.pick [3, 4] rfl) ?_
          refine pk [0, 1, 2, 3, 4] rfl ?_
          refine re (E' := [(0, (.pointer (some ⟨b1, 0, none⟩))), (1, (.int .i64 top_1)), (2, (.int .i64 n_2)), (6, (.pointer (some ⟨b5, 0, none⟩))), (7, (.pointer (some ⟨b10, 0, none⟩))), (30, (.int .i64 top_1)), (38, (.pointer (some ⟨b1, 0, none⟩))), (32, (.int .i64 t145)), (37, v154)]) ⟨rfl, rfl, rfl, rfl, rfl, rfl, rfl, rfl, rfl, trivial⟩ ?_
          exact H61 r150 r151 r152 r153 v154
        · intro o ho; cases ho
          refine o_call (vs := [(.pointer (some ⟨b1, 0, none⟩)), (.int .i64 4)]) (M0 := [cellCh b1 [v2, (.int .i64 r153)] 104]) Tryd.call60 rfl rfl (by intro w m h; exact (w_spec_l20Rd_pick (F := allB [cellCh b1 [v2, (.int .i64 r153)] 104] w) (r_0_b := r_0_b) (r_0_p := r153) (n_1 := 4) allB_ok m.given (m.rdM 2 rfl (reads_snap hv2)) h).mono (fun _ _ k => ret_free (fun r u => (fr_cons free_cell fr_nil)) k)) ?_; rintro ⟨r159, r160⟩ _
          refine d_and (fun w m => m.pick [2, 3] rfl) ?_
          refine pk [0, 1, 2, 3] rfl ?_
          refine re (E' := [(0, (.pointer (some ⟨b1, 0, none⟩))), (1, (.int .i64 top_1)), (2, (.int .i64 n_2)), (6, (.pointer (some ⟨b5, 0, none⟩))), (7, (.pointer (some ⟨b10, 0, none⟩))), (30, (.int .i64 top_1)), (32, (.int .i64 t145)), (34, (.int .i64 r150)), (36, (.int .i64 r152)), (39, (.int .i64 r159))]) ⟨rfl, rfl, rfl, rfl, rfl, rfl, rfl, rfl, rfl, rfl, trivial⟩ ?_
          exact H62 r150 r151 r152 r153 r159 r160
      have H64 : ∀ (r150 : Int) (r151 : Int), Nx 68 (gB F [cellCh b1 [v2, (.int .i64 r_0_p)] 104] w0) (feet [cellCh b1 [v2, (.int .i64 r_0_p)] 104]) w0 (wpAnyH Tryd.prog .any (opsAt Tryd.f97 [1, 1, 1, 0]) Qd (Mem (gB F [cellCh b1 [v2, (.int .i64 r_0_p)] 104] w0) (feet [cellCh b1 [v2, (.int .i64 r_0_p)] 104]) w0 [cellCh b5 [(.int .i64 0), (.int .i64 0)] 71, snapCh w0 F]) 9 #[true, true, true, true, true, true, false, false, true, false, false, false, false, false, false, false]) [(0, (.pointer (some ⟨b1, 0, none⟩))), (1, (.int .i64 top_1)), (2, (.int .i64 n_2)), (6, (.pointer (some ⟨b5, 0, none⟩))), (7, (.pointer (some ⟨b10, 0, none⟩))), (30, (.int .i64 top_1)), (35, (.pointer (some ⟨b1, 0, none⟩))), (38, (.pointer (some ⟨b1, 0, none⟩))), (32, (.int .i64 t145)), (34, (.int .i64 r150))] [cellCh b1 [v2, (.int .i64 r151)] 104, cellCh b10 [(.int .i64 t145), (.int .i64 0)] 71, cellCh b5 [(.int .i64 0), (.int .i64 0)] 71, snapCh w0 F] (L_spec_l20Rd_pick r_0_b r151 256 (fun (r152, r153) => L_spec_l20Rd_pick r_0_b r153 4 (fun (r155, r156) => idxW ([0, r150, r152, 4096]) r155 (fun e157 => k149 (r156, (min top_1 (w64 (t145 + e157)))))))) := by
        intro r150 r151
        refine d_one (i := 6) rfl (by kernel_rfl) (o_call (vs := [(.pointer (some ⟨b1, 0, none⟩)), (.int .i64 256)]) (M0 := [cellCh b1 [v2, (.int .i64 r151)] 104]) Tryd.call60 rfl rfl (by intro w m h; exact (w_spec_l20Rd_pick (F := allB [cellCh b1 [v2, (.int .i64 r151)] 104] w) (r_0_b := r_0_b) (r_0_p := r151) (n_1 := 256) allB_ok m.given (m.rdM 2 rfl (reads_snap hv2)) h).mono (fun _ _ k => ret_free (fun r u => (fr_cons free_cell fr_nil)) k)) ?_); rintro ⟨r152, r153⟩ _
        refine d_and (fun w m => m.pick [2, 3] rfl) ?_
        refine pk [0, 1, 2, 3] rfl ?_
        refine re (E' := [(0, (.pointer (some ⟨b1, 0, none⟩))), (1, (.int .i64 top_1)), (2, (.int .i64 n_2)), (6, (.pointer (some ⟨b5, 0, none⟩))), (7, (.pointer (some ⟨b10, 0, none⟩))), (30, (.int .i64 top_1)), (38, (.pointer (some ⟨b1, 0, none⟩))), (32, (.int .i64 t145)), (34, (.int .i64 r150)), (36, (.int .i64 r152))]) ⟨rfl, rfl, rfl, rfl, rfl, rfl, rfl, rfl, rfl, rfl, trivial⟩ ?_
        exact H63 r150 r151 r152 r153
      have H65 : ∀ (_ : Unit), Nx 68 (gB F [cellCh b1 [v2, (.int .i64 r_0_p)] 104] w0) (feet [cellCh b1 [v2, (.int .i64 r_0_p)] 104]) w0 (wpAnyH Tryd.prog .any (opsAt Tryd.f97 [1, 1, 1, 0]) Qd (Mem (gB F [cellCh b1 [v2, (.int .i64 r_0_p)] 104] w0) (feet [cellCh b1 [v2, (.int .i64 r_0_p)] 104]) w0 [cellCh b5 [(.int .i64 0), (.int .i64 0)] 71, snapCh w0 F]) 10 #[true, true, true, true, false, true, false, false, true, false, false, false, false, false, false, false]) [(0, (.pointer (some ⟨b1, 0, none⟩))), (1, (.int .i64 top_1)), (2, (.int .i64 n_2)), (6, (.pointer (some ⟨b5, 0, none⟩))), (7, (.pointer (some ⟨b10, 0, none⟩))), (30, (.int .i64 top_1)), (33, (.pointer (some ⟨b1, 0, none⟩))), (35, (.pointer (some ⟨b1, 0, none⟩))), (38, (.pointer (some ⟨b1, 0, none⟩))), (32, (.int .i64 t145))] [cellCh b1 [v2, (.int .i64 t144)] 104, cellCh b10 [(.int .i64 t145), (.int .i64 0)] 71, cellCh b5 [(.int .i64 0), (.int .i64 0)] 71, snapCh w0 F] (L_spec_l20Rd_pick r_0_b t144 4 (fun (r150, r151) => L_spec_l20Rd_pick r_0_b r151 256 (fun (r152, r153) => L_spec_l20Rd_pick r_0_b r153 4 (fun (r155, r156) => idxW ([0, r150, r152, 4096]) r155 (fun e157 => k149 (r156, (min top_1 (w64 (t145 + e157))))))))) := by
        intro _
        refine d_one (i := 4) rfl (by kernel_rfl) (o_call (vs := [(.pointer (some ⟨b1, 0, none⟩)), (.int .i64 4)]) (M0 := [cellCh b1 [v2, (.int .i64 t144)] 104]) Tryd.call60 rfl rfl (by intro w m h; exact (w_spec_l20Rd_pick (F := allB [cellCh b1 [v2, (.int .i64 t144)] 104] w) (r_0_b := r_0_b) (r_0_p := t144) (n_1 := 4) allB_ok m.given (m.rdM 2 rfl (reads_snap hv2)) h).mono (fun _ _ k => ret_free (fun r u => (fr_cons free_cell fr_nil)) k)) ?_); rintro ⟨r150, r151⟩ _
        refine d_and (fun w m => m.pick [2, 3] rfl) ?_
        refine pk [0, 1, 2, 3] rfl ?_
        refine re (E' := [(0, (.pointer (some ⟨b1, 0, none⟩))), (1, (.int .i64 top_1)), (2, (.int .i64 n_2)), (6, (.pointer (some ⟨b5, 0, none⟩))), (7, (.pointer (some ⟨b10, 0, none⟩))), (30, (.int .i64 top_1)), (35, (.pointer (some ⟨b1, 0, none⟩))), (38, (.pointer (some ⟨b1, 0, none⟩))), (32, (.int .i64 t145)), (34, (.int .i64 r150))]) ⟨rfl, rfl, rfl, rfl, rfl, rfl, rfl, rfl, rfl, rfl, trivial⟩ ?_
        exact H64 r150 r151
      have H66 : ∀ (r162 : Int) (r163 : Int) (r164 : Int) (r165 : Int) (v166 : Value) (r167 : Int) (r168 : Int) (e169 : Int) (h170 : ([0, r162, r164, 4096])[(r167).toNat]? = some e169), Nx 68 (gB F [cellCh b1 [v2, (.int .i64 r_0_p)] 104] w0) (feet [cellCh b1 [v2, (.int .i64 r_0_p)] 104]) w0 (wpAnyH Tryd.prog .any (opsAt Tryd.f97 [1, 1, 1, 0]) Qd (Mem (gB F [cellCh b1 [v2, (.int .i64 r_0_p)] 104] w0) (feet [cellCh b1 [v2, (.int .i64 r_0_p)] 104]) w0 [cellCh b5 [(.int .i64 0), (.int .i64 0)] 71, snapCh w0 F]) 5 #[true, true, false, true, true, true, true, true, true, true, true, true, false, false, false, false]) [(0, (.pointer (some ⟨b1, 0, none⟩))), (1, (.int .i64 top_1)), (2, (.int .i64 n_2)), (6, (.pointer (some ⟨b5, 0, none⟩))), (7, (.pointer (some ⟨b10, 0, none⟩))), (30, (.int .i64 top_1)), (31, (.pointer (some ⟨b10, 0, none⟩))), (41, (.int .i64 e169))] [cellCh b1 [v2, (.int .i64 r168)] 104, cellCh b10 [(.int .i64 t145), (.int .i64 0)] 71, cellCh b5 [(.int .i64 0), (.int .i64 0)] 71, snapCh w0 F] (k149 (r168, (min top_1 (w64 (t145 + e169))))) := by
        intro r162 r163 r164 r165 v166 r167 r168 e169 h170
        refine d_one (i := 2) rfl (by kernel_rfl) (o_ldc m_op (v := (.int .i64 t145)) 1 rfl rfl rfl ty3 rfl ?_)
        refine d_and (fun w m => m.pick [2, 3] rfl) ?_
        refine pk [0, 1, 2, 3] rfl ?_
        refine re (E' := [(0, (.pointer (some ⟨b1, 0, none⟩))), (1, (.int .i64 top_1)), (2, (.int .i64 n_2)), (6, (.pointer (some ⟨b5, 0, none⟩))), (7, (.pointer (some ⟨b10, 0, none⟩))), (30, (.int .i64 top_1)), (32, (.int .i64 t145)), (41, (.int .i64 e169))]) ⟨rfl, rfl, rfl, rfl, rfl, rfl, rfl, rfl, trivial⟩ ?_
        exact H58 r162 r163 r164 r165 v166 r167 r168 e169 h170
      have H67 : ∀ (r162 : Int) (r163 : Int) (r164 : Int) (r165 : Int) (v166 : Value) (r167 : Int) (r168 : Int) (e169 : Int) (h170 : ([0, r162, r164, 4096])[(r167).toNat]? = some e169), Nx 68 (gB F [cellCh b1 [v2, (.int .i64 r_0_p)] 104] w0) (feet [cellCh b1 [v2, (.int .i64 r_0_p)] 104]) w0 (wpAnyH Tryd.prog .any (opsAt Tryd.f97 [1, 1, 1, 0]) Qd (Mem (gB F [cellCh b1 [v2, (.int .i64 r_0_p)] 104] w0) (feet [cellCh b1 [v2, (.int .i64 r_0_p)] 104]) w0 [cellCh b5 [(.int .i64 0), (.int .i64 0)] 71, snapCh w0 F]) 6 #[true, true, false, true, true, true, true, true, true, true, true, false, false, false, false, false]) [(0, (.pointer (some ⟨b1, 0, none⟩))), (1, (.int .i64 top_1)), (2, (.int .i64 n_2)), (6, (.pointer (some ⟨b5, 0, none⟩))), (7, (.pointer (some ⟨b10, 0, none⟩))), (30, (.int .i64 top_1)), (31, (.pointer (some ⟨b10, 0, none⟩))), (40, (pEl v166 r167 1 0))] [cellCh b1 [v2, (.int .i64 r168)] 104, ownCh elInt 3 v166 ([0, r162, r164, 4096]), cellCh b10 [(.int .i64 t145), (.int .i64 0)] 71, cellCh b5 [(.int .i64 0), (.int .i64 0)] 71, snapCh w0 F] (k149 (r168, (min top_1 (w64 (t145 + e169))))) := by
        intro r162 r163 r164 r165 v166 r167 r168 e169 h170
        refine d_two (i := 2) (j := 11) rfl rfl (by kernel_rfl) ?_ ?_
        · intro o ho; cases ho
          refine o_ldc m_op (v := (.int .i64 t145)) 2 rfl rfl rfl ty3 rfl ?_
          refine d_and (fun w m => m.pick [3, 4] rfl) ?_
          refine pk [0, 1, 2, 3, 4] rfl ?_
          refine re (E' := [(0, (.pointer (some ⟨b1, 0, none⟩))), (1, (.int .i64 top_1)), (2, (.int .i64 n_2)), (6, (.pointer (some ⟨b5, 0, none⟩))), (7, (.pointer (some ⟨b10, 0, none⟩))), (30, (.int .i64 top_1)), (32, (.int .i64 t145)), (40, (pEl v166 r167 1 0))]) ⟨rfl, rfl, rfl, rfl, rfl, rfl, rfl, rfl, trivial⟩ ?_
          exact H59 r162 r163 r164 r165 v166 r167 r168 e169 h170
        · intro o ho; cases ho
          refine o_lds m_op (enc := encInt) (u := (.int .i64 e169)) 1 rfl reads_own flelInt rfl h170 rfl rfl ty3 rfl ?_
          refine d_and (fun w m => m.pick [3, 4] rfl) ?_
          refine pk [0, 2, 3, 4] rfl ?_
          refine re (E' := [(0, (.pointer (some ⟨b1, 0, none⟩))), (1, (.int .i64 top_1)), (2, (.int .i64 n_2)), (6, (.pointer (some ⟨b5, 0, none⟩))), (7, (.pointer (some ⟨b10, 0, none⟩))), (30, (.int .i64 top_1)), (31, (.pointer (some ⟨b10, 0, none⟩))), (41, (.int .i64 e169))]) ⟨rfl, rfl, rfl, rfl, rfl, rfl, rfl, rfl, trivial⟩ ?_
          exact H66 r162 r163 r164 r165 v166 r167 r168 e169 h170
      have H68 : ∀ (r162 : Int) (r163 : Int) (r164 : Int) (r165 : Int) (v166 : Value) (r167 : Int) (r168 : Int), Nx 68 (gB F [cellCh b1 [v2, (.int .i64 r_0_p)] 104] w0) (feet [cellCh b1 [v2, (.int .i64 r_0_p)] 104]) w0 (wpAnyH Tryd.prog .any (opsAt Tryd.f97 [1, 1, 1, 0]) Qd (Mem (gB F [cellCh b1 [v2, (.int .i64 r_0_p)] 104] w0) (feet [cellCh b1 [v2, (.int .i64 r_0_p)] 104]) w0 [cellCh b5 [(.int .i64 0), (.int .i64 0)] 71, snapCh w0 F]) 7 #[true, true, false, true, true, true, true, true, true, true, false, false, false, false, false, false]) [(0, (.pointer (some ⟨b1, 0, none⟩))), (1, (.int .i64 top_1)), (2, (.int .i64 n_2)), (6, (.pointer (some ⟨b5, 0, none⟩))), (7, (.pointer (some ⟨b10, 0, none⟩))), (30, (.int .i64 top_1)), (31, (.pointer (some ⟨b10, 0, none⟩))), (37, v166), (39, (.int .i64 r167))] [cellCh b1 [v2, (.int .i64 r168)] 104, ownCh elInt 3 v166 ([0, r162, r164, 4096]), cellCh b10 [(.int .i64 t145), (.int .i64 0)] 71, cellCh b5 [(.int .i64 0), (.int .i64 0)] 71, snapCh w0 F] (idxW ([0, r162, r164, 4096]) r167 (fun e157 => k149 (r168, (min top_1 (w64 (t145 + e157)))))) := by
        intro r162 r163 r164 r165 v166 r167 r168
        refine d_two (i := 2) (j := 10) rfl rfl (by kernel_rfl) ?_ ?_
        · intro o ho; cases ho
          refine o_ldc m_op (v := (.int .i64 t145)) 2 rfl rfl rfl ty3 rfl ?_
          refine d_and (fun w m => m.pick [3, 4] rfl) ?_
          refine pk [0, 1, 2, 3, 4] rfl ?_
          refine re (E' := [(0, (.pointer (some ⟨b1, 0, none⟩))), (1, (.int .i64 top_1)), (2, (.int .i64 n_2)), (6, (.pointer (some ⟨b5, 0, none⟩))), (7, (.pointer (some ⟨b10, 0, none⟩))), (30, (.int .i64 top_1)), (32, (.int .i64 t145)), (37, v166), (39, (.int .i64 r167))]) ⟨rfl, rfl, rfl, rfl, rfl, rfl, rfl, rfl, rfl, trivial⟩ ?_
          exact H60 r162 r163 r164 r165 v166 r167 r168
        · intro o ho; cases ho
          refine o_idx m_op 1 rfl reads_own rfl rfl rfl el27 ?_; intro e169 h170
          refine d_and (fun w m => m.pick [3, 4] rfl) ?_
          refine pk [0, 1, 2, 3, 4] rfl ?_
          refine re (E' := [(0, (.pointer (some ⟨b1, 0, none⟩))), (1, (.int .i64 top_1)), (2, (.int .i64 n_2)), (6, (.pointer (some ⟨b5, 0, none⟩))), (7, (.pointer (some ⟨b10, 0, none⟩))), (30, (.int .i64 top_1)), (31, (.pointer (some ⟨b10, 0, none⟩))), (40, (pEl v166 r167 1 0))]) ⟨rfl, rfl, rfl, rfl, rfl, rfl, rfl, rfl, trivial⟩ ?_
          exact H67 r162 r163 r164 r165 v166 r167 r168 e169 h170
      have H69 : ∀ (r162 : Int) (r163 : Int) (r164 : Int) (r165 : Int) (v166 : Value), Nx 68 (gB F [cellCh b1 [v2, (.int .i64 r_0_p)] 104] w0) (feet [cellCh b1 [v2, (.int .i64 r_0_p)] 104]) w0 (wpAnyH Tryd.prog .any (opsAt Tryd.f97 [1, 1, 1, 0]) Qd (Mem (gB F [cellCh b1 [v2, (.int .i64 r_0_p)] 104] w0) (feet [cellCh b1 [v2, (.int .i64 r_0_p)] 104]) w0 [cellCh b5 [(.int .i64 0), (.int .i64 0)] 71, snapCh w0 F]) 8 #[true, true, false, true, true, true, true, true, true, false, false, false, false, false, false, false]) [(0, (.pointer (some ⟨b1, 0, none⟩))), (1, (.int .i64 top_1)), (2, (.int .i64 n_2)), (6, (.pointer (some ⟨b5, 0, none⟩))), (7, (.pointer (some ⟨b10, 0, none⟩))), (30, (.int .i64 top_1)), (31, (.pointer (some ⟨b10, 0, none⟩))), (38, (.pointer (some ⟨b1, 0, none⟩))), (37, v166)] [ownCh elInt 3 v166 ([0, r162, r164, 4096]), cellCh b1 [v2, (.int .i64 r165)] 104, cellCh b10 [(.int .i64 t145), (.int .i64 0)] 71, cellCh b5 [(.int .i64 0), (.int .i64 0)] 71, snapCh w0 F] (L_spec_l20Rd_pick r_0_b r165 4 (fun (r155, r156) => idxW ([0, r162, r164, 4096]) r155 (fun e157 => k149 (r156, (min top_1 (w64 (t145 + e157))))))) := by
        intro r162 r163 r164 r165 v166
        refine d_two (i := 2) (j := 9) rfl rfl (by kernel_rfl) ?_ ?_
        · intro o ho; cases ho
          refine o_ldc m_op (v := (.int .i64 t145)) 2 rfl rfl rfl ty3 rfl ?_
          refine d_and (fun w m => m.pick [3, 4] rfl) ?_
          refine pk [0, 1, 2, 3, 4] rfl ?_
          refine re (E' := [(0, (.pointer (some ⟨b1, 0, none⟩))), (1, (.int .i64 top_1)), (2, (.int .i64 n_2)), (6, (.pointer (some ⟨b5, 0, none⟩))), (7, (.pointer (some ⟨b10, 0, none⟩))), (30, (.int .i64 top_1)), (38, (.pointer (some ⟨b1, 0, none⟩))), (32, (.int .i64 t145)), (37, v166)]) ⟨rfl, rfl, rfl, rfl, rfl, rfl, rfl, rfl, rfl, trivial⟩ ?_
          exact H61 r162 r163 r164 r165 v166
        · intro o ho; cases ho
          refine pk [1, 0, 2, 3, 4] rfl ?_
          refine o_call (vs := [(.pointer (some ⟨b1, 0, none⟩)), (.int .i64 4)]) (M0 := [cellCh b1 [v2, (.int .i64 r165)] 104]) Tryd.call60 rfl rfl (by intro w m h; exact (w_spec_l20Rd_pick (F := allB [cellCh b1 [v2, (.int .i64 r165)] 104] w) (r_0_b := r_0_b) (r_0_p := r165) (n_1 := 4) allB_ok m.given (m.rdM 3 rfl (reads_snap hv2)) h).mono (fun _ _ k => ret_free (fun r u => (fr_cons free_cell fr_nil)) k)) ?_; rintro ⟨r167, r168⟩ _
          refine d_and (fun w m => m.pick [3, 4] rfl) ?_
          refine pk [0, 1, 2, 3, 4] rfl ?_
          refine re (E' := [(0, (.pointer (some ⟨b1, 0, none⟩))), (1, (.int .i64 top_1)), (2, (.int .i64 n_2)), (6, (.pointer (some ⟨b5, 0, none⟩))), (7, (.pointer (some ⟨b10, 0, none⟩))), (30, (.int .i64 top_1)), (31, (.pointer (some ⟨b10, 0, none⟩))), (37, v166), (39, (.int .i64 r167))]) ⟨rfl, rfl, rfl, rfl, rfl, rfl, rfl, rfl, rfl, trivial⟩ ?_
          exact H68 r162 r163 r164 r165 v166 r167 r168
      have H70 : ∀ (r162 : Int) (r163 : Int) (r164 : Int) (r165 : Int) (r171 : Int) (r172 : Int), Nx 68 (gB F [cellCh b1 [v2, (.int .i64 r_0_p)] 104] w0) (feet [cellCh b1 [v2, (.int .i64 r_0_p)] 104]) w0 (wpAnyH Tryd.prog .any (opsAt Tryd.f97 [1, 1, 1, 0]) Qd (Mem (gB F [cellCh b1 [v2, (.int .i64 r_0_p)] 104] w0) (feet [cellCh b1 [v2, (.int .i64 r_0_p)] 104]) w0 [cellCh b5 [(.int .i64 0), (.int .i64 0)] 71, snapCh w0 F]) 8 #[true, true, false, true, true, true, true, false, true, true, false, false, false, false, false, false]) [(0, (.pointer (some ⟨b1, 0, none⟩))), (1, (.int .i64 top_1)), (2, (.int .i64 n_2)), (6, (.pointer (some ⟨b5, 0, none⟩))), (7, (.pointer (some ⟨b10, 0, none⟩))), (30, (.int .i64 top_1)), (31, (.pointer (some ⟨b10, 0, none⟩))), (34, (.int .i64 r162)), (36, (.int .i64 r164)), (39, (.int .i64 r171))] [cellCh b1 [v2, (.int .i64 r172)] 104, cellCh b10 [(.int .i64 t145), (.int .i64 0)] 71, cellCh b5 [(.int .i64 0), (.int .i64 0)] 71, snapCh w0 F] (idxW ([0, r162, r164, 4096]) r171 (fun e157 => k149 (r172, (min top_1 (w64 (t145 + e157)))))) := by
        intro r162 r163 r164 r165 r171 r172
        refine d_two (i := 2) (j := 7) rfl rfl (by kernel_rfl) ?_ ?_
        · intro o ho; cases ho
          refine o_ldc m_op (v := (.int .i64 t145)) 1 rfl rfl rfl ty3 rfl ?_
          refine d_and (fun w m => m.pick [2, 3] rfl) ?_
          refine pk [0, 1, 2, 3] rfl ?_
          refine re (E' := [(0, (.pointer (some ⟨b1, 0, none⟩))), (1, (.int .i64 top_1)), (2, (.int .i64 n_2)), (6, (.pointer (some ⟨b5, 0, none⟩))), (7, (.pointer (some ⟨b10, 0, none⟩))), (30, (.int .i64 top_1)), (32, (.int .i64 t145)), (34, (.int .i64 r162)), (36, (.int .i64 r164)), (39, (.int .i64 r171))]) ⟨rfl, rfl, rfl, rfl, rfl, rfl, rfl, rfl, rfl, rfl, trivial⟩ ?_
          exact H62 r162 r163 r164 r165 r171 r172
        · intro o ho; cases ho
          refine o_bsl (enc := encInt) (qs := [(0, (.int .i64 0)), (1, (.int .i64 r162)), (2, (.int .i64 r164)), (3, (.int .i64 4096))]) (cells := [(.int .i64 0), (.int .i64 r162), (.int .i64 r164), (.int .i64 4096)]) ([0, r162, r164, 4096]) flelInt (by intro ρ h; simp only [List.map_toArray, List.map_cons, List.map_nil, h (.const (.int .i64 0)) _ rfl, h (.tmp 34) _ rfl, h (.tmp 36) _ rfl, h (.const (.int .i64 4096)) _ rfl]) rfl el27 zero3 rfl rfl rfl rfl rfl rfl ?_; intro v173
          refine d_and (fun w m => m.pick [3, 4] rfl) ?_
          refine pk [1, 0, 2, 3, 4] rfl ?_
          refine re (E' := [(0, (.pointer (some ⟨b1, 0, none⟩))), (1, (.int .i64 top_1)), (2, (.int .i64 n_2)), (6, (.pointer (some ⟨b5, 0, none⟩))), (7, (.pointer (some ⟨b10, 0, none⟩))), (30, (.int .i64 top_1)), (31, (.pointer (some ⟨b10, 0, none⟩))), (37, v173), (39, (.int .i64 r171))]) ⟨rfl, rfl, rfl, rfl, rfl, rfl, rfl, rfl, rfl, trivial⟩ ?_
          exact H68 r162 r163 r164 r165 v173 r171 r172
      have H71 : ∀ (r162 : Int) (r163 : Int) (r164 : Int) (r165 : Int), Nx 68 (gB F [cellCh b1 [v2, (.int .i64 r_0_p)] 104] w0) (feet [cellCh b1 [v2, (.int .i64 r_0_p)] 104]) w0 (wpAnyH Tryd.prog .any (opsAt Tryd.f97 [1, 1, 1, 0]) Qd (Mem (gB F [cellCh b1 [v2, (.int .i64 r_0_p)] 104] w0) (feet [cellCh b1 [v2, (.int .i64 r_0_p)] 104]) w0 [cellCh b5 [(.int .i64 0), (.int .i64 0)] 71, snapCh w0 F]) 9 #[true, true, false, true, true, true, true, false, true, false, false, false, false, false, false, false]) [(0, (.pointer (some ⟨b1, 0, none⟩))), (1, (.int .i64 top_1)), (2, (.int .i64 n_2)), (6, (.pointer (some ⟨b5, 0, none⟩))), (7, (.pointer (some ⟨b10, 0, none⟩))), (30, (.int .i64 top_1)), (31, (.pointer (some ⟨b10, 0, none⟩))), (38, (.pointer (some ⟨b1, 0, none⟩))), (34, (.int .i64 r162)), (36, (.int .i64 r164))] [cellCh b1 [v2, (.int .i64 r165)] 104, cellCh b10 [(.int .i64 t145), (.int .i64 0)] 71, cellCh b5 [(.int .i64 0), (.int .i64 0)] 71, snapCh w0 F] (L_spec_l20Rd_pick r_0_b r165 4 (fun (r155, r156) => idxW ([0, r162, r164, 4096]) r155 (fun e157 => k149 (r156, (min top_1 (w64 (t145 + e157))))))) := by
        intro r162 r163 r164 r165
        refine d_three (i := 2) (j := 7) (l := 9) rfl rfl rfl (by kernel_rfl) ?_ ?_ ?_
        · intro o ho; cases ho
          refine o_ldc m_op (v := (.int .i64 t145)) 1 rfl rfl rfl ty3 rfl ?_
          refine d_and (fun w m => m.pick [2, 3] rfl) ?_
          refine pk [0, 1, 2, 3] rfl ?_
          refine re (E' := [(0, (.pointer (some ⟨b1, 0, none⟩))), (1, (.int .i64 top_1)), (2, (.int .i64 n_2)), (6, (.pointer (some ⟨b5, 0, none⟩))), (7, (.pointer (some ⟨b10, 0, none⟩))), (30, (.int .i64 top_1)), (38, (.pointer (some ⟨b1, 0, none⟩))), (32, (.int .i64 t145)), (34, (.int .i64 r162)), (36, (.int .i64 r164))]) ⟨rfl, rfl, rfl, rfl, rfl, rfl, rfl, rfl, rfl, rfl, trivial⟩ ?_
          exact H63 r162 r163 r164 r165
        · intro o ho; cases ho
          refine o_bsl (enc := encInt) (qs := [(0, (.int .i64 0)), (1, (.int .i64 r162)), (2, (.int .i64 r164)), (3, (.int .i64 4096))]) (cells := [(.int .i64 0), (.int .i64 r162), (.int .i64 r164), (.int .i64 4096)]) ([0, r162, r164, 4096]) flelInt (by intro ρ h; simp only [List.map_toArray, List.map_cons, List.map_nil, h (.const (.int .i64 0)) _ rfl, h (.tmp 34) _ rfl, h (.tmp 36) _ rfl, h (.const (.int .i64 4096)) _ rfl]) rfl el27 zero3 rfl rfl rfl rfl rfl rfl ?_; intro v166
          refine d_and (fun w m => m.pick [3, 4] rfl) ?_
          refine pk [0, 1, 2, 3, 4] rfl ?_
          refine re (E' := [(0, (.pointer (some ⟨b1, 0, none⟩))), (1, (.int .i64 top_1)), (2, (.int .i64 n_2)), (6, (.pointer (some ⟨b5, 0, none⟩))), (7, (.pointer (some ⟨b10, 0, none⟩))), (30, (.int .i64 top_1)), (31, (.pointer (some ⟨b10, 0, none⟩))), (38, (.pointer (some ⟨b1, 0, none⟩))), (37, v166)]) ⟨rfl, rfl, rfl, rfl, rfl, rfl, rfl, rfl, rfl, trivial⟩ ?_
          exact H69 r162 r163 r164 r165 v166
        · intro o ho; cases ho
          refine o_call (vs := [(.pointer (some ⟨b1, 0, none⟩)), (.int .i64 4)]) (M0 := [cellCh b1 [v2, (.int .i64 r165)] 104]) Tryd.call60 rfl rfl (by intro w m h; exact (w_spec_l20Rd_pick (F := allB [cellCh b1 [v2, (.int .i64 r165)] 104] w) (r_0_b := r_0_b) (r_0_p := r165) (n_1 := 4) allB_ok m.given (m.rdM 2 rfl (reads_snap hv2)) h).mono (fun _ _ k => ret_free (fun r u => (fr_cons free_cell fr_nil)) k)) ?_; rintro ⟨r171, r172⟩ _
          refine d_and (fun w m => m.pick [2, 3] rfl) ?_
          refine pk [0, 1, 2, 3] rfl ?_
          refine re (E' := [(0, (.pointer (some ⟨b1, 0, none⟩))), (1, (.int .i64 top_1)), (2, (.int .i64 n_2)), (6, (.pointer (some ⟨b5, 0, none⟩))), (7, (.pointer (some ⟨b10, 0, none⟩))), (30, (.int .i64 top_1)), (31, (.pointer (some ⟨b10, 0, none⟩))), (34, (.int .i64 r162)), (36, (.int .i64 r164)), (39, (.int .i64 r171))]) ⟨rfl, rfl, rfl, rfl, rfl, rfl, rfl, rfl, rfl, rfl, trivial⟩ ?_
          exact H70 r162 r163 r164 r165 r171 r172
      have H72 : ∀ (r162 : Int) (r163 : Int), Nx 68 (gB F [cellCh b1 [v2, (.int .i64 r_0_p)] 104] w0) (feet [cellCh b1 [v2, (.int .i64 r_0_p)] 104]) w0 (wpAnyH Tryd.prog .any (opsAt Tryd.f97 [1, 1, 1, 0]) Qd (Mem (gB F [cellCh b1 [v2, (.int .i64 r_0_p)] 104] w0) (feet [cellCh b1 [v2, (.int .i64 r_0_p)] 104]) w0 [cellCh b5 [(.int .i64 0), (.int .i64 0)] 71, snapCh w0 F]) 10 #[true, true, false, true, true, true, false, false, true, false, false, false, false, false, false, false]) [(0, (.pointer (some ⟨b1, 0, none⟩))), (1, (.int .i64 top_1)), (2, (.int .i64 n_2)), (6, (.pointer (some ⟨b5, 0, none⟩))), (7, (.pointer (some ⟨b10, 0, none⟩))), (30, (.int .i64 top_1)), (31, (.pointer (some ⟨b10, 0, none⟩))), (35, (.pointer (some ⟨b1, 0, none⟩))), (38, (.pointer (some ⟨b1, 0, none⟩))), (34, (.int .i64 r162))] [cellCh b1 [v2, (.int .i64 r163)] 104, cellCh b10 [(.int .i64 t145), (.int .i64 0)] 71, cellCh b5 [(.int .i64 0), (.int .i64 0)] 71, snapCh w0 F] (L_spec_l20Rd_pick r_0_b r163 256 (fun (r152, r153) => L_spec_l20Rd_pick r_0_b r153 4 (fun (r155, r156) => idxW ([0, r162, r152, 4096]) r155 (fun e157 => k149 (r156, (min top_1 (w64 (t145 + e157)))))))) := by
        intro r162 r163
        refine d_two (i := 2) (j := 6) rfl rfl (by kernel_rfl) ?_ ?_
        · intro o ho; cases ho
          refine o_ldc m_op (v := (.int .i64 t145)) 1 rfl rfl rfl ty3 rfl ?_
          refine d_and (fun w m => m.pick [2, 3] rfl) ?_
          refine pk [0, 1, 2, 3] rfl ?_
          refine re (E' := [(0, (.pointer (some ⟨b1, 0, none⟩))), (1, (.int .i64 top_1)), (2, (.int .i64 n_2)), (6, (.pointer (some ⟨b5, 0, none⟩))), (7, (.pointer (some ⟨b10, 0, none⟩))), (30, (.int .i64 top_1)), (35, (.pointer (some ⟨b1, 0, none⟩))), (38, (.pointer (some ⟨b1, 0, none⟩))), (32, (.int .i64 t145)), (34, (.int .i64 r162))]) ⟨rfl, rfl, rfl, rfl, rfl, rfl, rfl, rfl, rfl, rfl, trivial⟩ ?_
          exact H64 r162 r163
        · intro o ho; cases ho
          refine o_call (vs := [(.pointer (some ⟨b1, 0, none⟩)), (.int .i64 256)]) (M0 := [cellCh b1 [v2, (.int .i64 r163)] 104]) Tryd.call60 rfl rfl (by intro w m h; exact (w_spec_l20Rd_pick (F := allB [cellCh b1 [v2, (.int .i64 r163)] 104] w) (r_0_b := r_0_b) (r_0_p := r163) (n_1 := 256) allB_ok m.given (m.rdM 2 rfl (reads_snap hv2)) h).mono (fun _ _ k => ret_free (fun r u => (fr_cons free_cell fr_nil)) k)) ?_; rintro ⟨r164, r165⟩ _
          refine d_and (fun w m => m.pick [2, 3] rfl) ?_
          refine pk [0, 1, 2, 3] rfl ?_
          refine re (E' := [(0, (.pointer (some ⟨b1, 0, none⟩))), (1, (.int .i64 top_1)), (2, (.int .i64 n_2)), (6, (.pointer (some ⟨b5, 0, none⟩))), (7, (.pointer (some ⟨b10, 0, none⟩))), (30, (.int .i64 top_1)), (31, (.pointer (some ⟨b10, 0, none⟩))), (38, (.pointer (some ⟨b1, 0, none⟩))), (34, (.int .i64 r162)), (36, (.int .i64 r164))]) ⟨rfl, rfl, rfl, rfl, rfl, rfl, rfl, rfl, rfl, rfl, trivial⟩ ?_
          exact H71 r162 r163 r164 r165
      refine o_mv (dt 0 (fun w m => m.pick [2, 3] rfl)) rfl rfl ?_
      refine o_fad (dt 1 (fun w m => m.pick [2, 3] rfl)) rfl rfl fld71_0 rfl ?_
      refine o_mv (dt 3 (fun w m => m.pick [2, 3] rfl)) rfl rfl ?_
      refine o_mv (dt 5 (fun w m => m.pick [2, 3] rfl)) rfl rfl ?_
      refine o_mv (dt 8 (fun w m => m.pick [2, 3] rfl)) rfl rfl ?_
      refine d_two (i := 2) (j := 4) rfl rfl (by kernel_rfl) ?_ ?_
      · intro o ho; cases ho
        refine o_ldc m_op (v := (.int .i64 t145)) 1 rfl rfl rfl ty3 rfl ?_
        refine d_and (fun w m => m.pick [2, 3] rfl) ?_
        refine pk [0, 1, 2, 3] rfl ?_
        refine re (E' := [(0, (.pointer (some ⟨b1, 0, none⟩))), (1, (.int .i64 top_1)), (2, (.int .i64 n_2)), (6, (.pointer (some ⟨b5, 0, none⟩))), (7, (.pointer (some ⟨b10, 0, none⟩))), (30, (.int .i64 top_1)), (33, (.pointer (some ⟨b1, 0, none⟩))), (35, (.pointer (some ⟨b1, 0, none⟩))), (38, (.pointer (some ⟨b1, 0, none⟩))), (32, (.int .i64 t145))]) ⟨rfl, rfl, rfl, rfl, rfl, rfl, rfl, rfl, rfl, rfl, trivial⟩ ?_
        exact H65 ()
      · intro o ho; cases ho
        refine o_call (vs := [(.pointer (some ⟨b1, 0, none⟩)), (.int .i64 4)]) (M0 := [cellCh b1 [v2, (.int .i64 t144)] 104]) Tryd.call60 rfl rfl (by intro w m h; exact (w_spec_l20Rd_pick (F := allB [cellCh b1 [v2, (.int .i64 t144)] 104] w) (r_0_b := r_0_b) (r_0_p := t144) (n_1 := 4) allB_ok m.given (m.rdM 2 rfl (reads_snap hv2)) h).mono (fun _ _ k => ret_free (fun r u => (fr_cons free_cell fr_nil)) k)) ?_; rintro ⟨r162, r163⟩ _
        refine d_and (fun w m => m.pick [2, 3] rfl) ?_
        refine pk [0, 1, 2, 3] rfl ?_
        refine re (E' := [(0, (.pointer (some ⟨b1, 0, none⟩))), (1, (.int .i64 top_1)), (2, (.int .i64 n_2)), (6, (.pointer (some ⟨b5, 0, none⟩))), (7, (.pointer (some ⟨b10, 0, none⟩))), (30, (.int .i64 top_1)), (31, (.pointer (some ⟨b10, 0, none⟩))), (35, (.pointer (some ⟨b1, 0, none⟩))), (38, (.pointer (some ⟨b1, 0, none⟩))), (34, (.int .i64 r162))]) ⟨rfl, rfl, rfl, rfl, rfl, rfl, rfl, rfl, rfl, rfl, trivial⟩ ?_
        exact H72 r162 r163
    · rintro ⟨t147, t148⟩ a w ⟨hE, hm⟩ h
      refine nx_of hE hm h ?_
      clear hE hm h
      refine c_seq ?_
      refine c_seq ?_
      refine c_region ?_
      refine o_mv st rfl rfl ?_
      refine o_mv st rfl rfl ?_
      refine stw (o_call (vs := [(.pointer (some ⟨b1, 0, none⟩)), (.int .i64 n_2)]) (M0 := [cellCh b1 [v2, (.int .i64 t147)] 104]) Tryd.call64 rfl rfl (by intro w m h; exact (w_spec_l20Rd_odd (F := allB [cellCh b1 [v2, (.int .i64 t147)] 104] w) (r_0_b := r_0_b) (r_0_p := t147) (n_1 := n_2) allB_ok m.given (m.rdM 2 rfl (reads_snap hv2)) h).mono (fun _ _ k => ret_free (fun r u => (fr_cons free_cell fr_nil)) k)) ?_); rintro ⟨r174, r175⟩ _
      refine c_nil ?_
      refine l_then ?_
      refine c_cond rfl ?_ ?_
      · refine c_join (σ := (Int × Int × Int)) (fun ((t176, t177, t178) : (Int × Int × Int)) (a : Act) (w : World) => Has 68 [(6, (.pointer (some ⟨b5, 0, none⟩)))] a ∧ Mem (gB F [cellCh b1 [v2, (.int .i64 r_0_p)] 104] w0) (feet [cellCh b1 [v2, (.int .i64 r_0_p)] 104]) w0 [cellCh b1 [v2, (.int .i64 t176)] 104, cellCh b5 [(.int .i64 t177), (.int .i64 t178)] 71, snapCh w0 F] w) ?_ ?_
        · intro k179
          refine c_drawQ mixed 20 rfl [cellCh b10 [(.int .i64 t145), (.int .i64 t148)] 71, snapCh w0 F] ?_
          intro Qd hP hQ
          have H81 : ∀ (v180 : Value) (r181 : Int) (r182 : Int) (e183 : GSpan) (h184 : ([(GSpan.mk (w64 (t148 + 1)) t148), (GSpan.mk (-1) t148), (GSpan.mk t145 (w64 (top_1 + 1)))])[(r181).toNat]? = some e183), Nx 68 (gB F [cellCh b1 [v2, (.int .i64 r_0_p)] 104] w0) (feet [cellCh b1 [v2, (.int .i64 r_0_p)] 104]) w0 (wpAnyH Tryd.prog .any (opsAt Tryd.f97 [1, 1, 1, 1, 0, 1, 0, 0]) Qd (Mem (gB F [cellCh b1 [v2, (.int .i64 r_0_p)] 104] w0) (feet [cellCh b1 [v2, (.int .i64 r_0_p)] 104]) w0 [cellCh b10 [(.int .i64 t145), (.int .i64 t148)] 71, snapCh w0 F]) 0 #[true, true, true, true, true, true, true, true, true, true, true, true, true, true, true, true, true, true, true, true]) [(6, (.pointer (some ⟨b5, 0, none⟩)))] [cellCh b1 [v2, (.int .i64 r182)] 104, cellCh b10 [(.int .i64 t145), (.int .i64 t148)] 71, cellCh b5 [(.int .i64 e183.xLo), (.int .i64 e183.xHi)] 71, snapCh w0 F] (k179 (r182, e183.xLo, e183.xHi)) := by
            intro v180 r181 r182 e183 h184
            refine d_done (by kernel_rfl) ?_
            exact fun a w hE hm hφ => hQ (r182, e183.xLo, e183.xHi) a w hφ ((fun a w hE hm => ⟨hE.sub ⟨rfl, trivial⟩, (hm.pick [0, 2, 3] rfl)⟩) a w hE hm)
          have H82 : ∀ (v180 : Value) (r181 : Int) (r182 : Int) (e183 : GSpan) (h184 : ([(GSpan.mk (w64 (t148 + 1)) t148), (GSpan.mk (-1) t148), (GSpan.mk t145 (w64 (top_1 + 1)))])[(r181).toNat]? = some e183), Nx 68 (gB F [cellCh b1 [v2, (.int .i64 r_0_p)] 104] w0) (feet [cellCh b1 [v2, (.int .i64 r_0_p)] 104]) w0 (wpAnyH Tryd.prog .any (opsAt Tryd.f97 [1, 1, 1, 1, 0, 1, 0, 0]) Qd (Mem (gB F [cellCh b1 [v2, (.int .i64 r_0_p)] 104] w0) (feet [cellCh b1 [v2, (.int .i64 r_0_p)] 104]) w0 [cellCh b10 [(.int .i64 t145), (.int .i64 t148)] 71, snapCh w0 F]) 1 #[true, true, true, true, true, true, true, true, true, true, true, true, true, true, true, true, true, true, true, false]) [(6, (.pointer (some ⟨b5, 0, none⟩))), (66, (.agg #[(.int .i64 e183.xLo), (.int .i64 e183.xHi)]))] [cellCh b1 [v2, (.int .i64 r182)] 104, cellCh b10 [(.int .i64 t145), (.int .i64 t148)] 71, cellCh b5 [(.int .i64 0), (.int .i64 0)] 71, snapCh w0 F] (k179 (r182, e183.xLo, e183.xHi)) := by
            intro v180 r181 r182 e183 h184
            refine d_one (i := 19) rfl (by kernel_rfl) (o_stc (cs' := [(.int .i64 e183.xLo), (.int .i64 e183.xHi)]) 2 rfl rfl rfl ty71 rfl rfl rfl rfl ?_)
            refine d_and (fun w m => m.pick [1, 3] rfl) ?_
            refine pk [0, 1, 2, 3] rfl ?_
            refine re (E' := [(6, (.pointer (some ⟨b5, 0, none⟩)))]) ⟨rfl, trivial⟩ ?_
            exact H81 v180 r181 r182 e183 h184
          have H83 : ∀ (v180 : Value) (r181 : Int) (r182 : Int) (e183 : GSpan) (h184 : ([(GSpan.mk (w64 (t148 + 1)) t148), (GSpan.mk (-1) t148), (GSpan.mk t145 (w64 (top_1 + 1)))])[(r181).toNat]? = some e183), Nx 68 (gB F [cellCh b1 [v2, (.int .i64 r_0_p)] 104] w0) (feet [cellCh b1 [v2, (.int .i64 r_0_p)] 104]) w0 (wpAnyH Tryd.prog .any (opsAt Tryd.f97 [1, 1, 1, 1, 0, 1, 0, 0]) Qd (Mem (gB F [cellCh b1 [v2, (.int .i64 r_0_p)] 104] w0) (feet [cellCh b1 [v2, (.int .i64 r_0_p)] 104]) w0 [cellCh b10 [(.int .i64 t145), (.int .i64 t148)] 71, snapCh w0 F]) 2 #[true, true, true, true, true, true, true, true, true, true, true, true, true, true, true, true, true, true, false, false]) [(6, (.pointer (some ⟨b5, 0, none⟩))), (65, (pEl v180 r181 2 0))] [cellCh b1 [v2, (.int .i64 r182)] 104, ownCh elGSpan 71 v180 ([(GSpan.mk (w64 (t148 + 1)) t148), (GSpan.mk (-1) t148), (GSpan.mk t145 (w64 (top_1 + 1)))]), cellCh b10 [(.int .i64 t145), (.int .i64 t148)] 71, cellCh b5 [(.int .i64 0), (.int .i64 0)] 71, snapCh w0 F] (k179 (r182, e183.xLo, e183.xHi)) := by
            intro v180 r181 r182 e183 h184
            refine d_one (i := 18) rfl (by kernel_rfl) (o_lds m_op (enc := encGSpan) (u := (.agg #[(.int .i64 e183.xLo), (.int .i64 e183.xHi)])) 1 rfl reads_own flelGSpan rfl h184 rfl rfl ty71 rfl ?_)
            refine d_and (fun w m => m.pick [2, 4] rfl) ?_
            refine pk [0, 2, 3, 4] rfl ?_
            refine re (E' := [(6, (.pointer (some ⟨b5, 0, none⟩))), (66, (.agg #[(.int .i64 e183.xLo), (.int .i64 e183.xHi)]))]) ⟨rfl, rfl, trivial⟩ ?_
            exact H82 v180 r181 r182 e183 h184
          have H84 : ∀ (v180 : Value) (r181 : Int) (r182 : Int), Nx 68 (gB F [cellCh b1 [v2, (.int .i64 r_0_p)] 104] w0) (feet [cellCh b1 [v2, (.int .i64 r_0_p)] 104]) w0 (wpAnyH Tryd.prog .any (opsAt Tryd.f97 [1, 1, 1, 1, 0, 1, 0, 0]) Qd (Mem (gB F [cellCh b1 [v2, (.int .i64 r_0_p)] 104] w0) (feet [cellCh b1 [v2, (.int .i64 r_0_p)] 104]) w0 [cellCh b10 [(.int .i64 t145), (.int .i64 t148)] 71, snapCh w0 F]) 3 #[true, true, true, true, true, true, true, true, true, true, true, true, true, true, true, true, true, false, false, false]) [(6, (.pointer (some ⟨b5, 0, none⟩))), (62, v180), (64, (.int .i64 r181))] [cellCh b1 [v2, (.int .i64 r182)] 104, ownCh elGSpan 71 v180 ([(GSpan.mk (w64 (t148 + 1)) t148), (GSpan.mk (-1) t148), (GSpan.mk t145 (w64 (top_1 + 1)))]), cellCh b10 [(.int .i64 t145), (.int .i64 t148)] 71, cellCh b5 [(.int .i64 0), (.int .i64 0)] 71, snapCh w0 F] (idxW ([(GSpan.mk (w64 (t148 + 1)) t148), (GSpan.mk (-1) t148), (GSpan.mk t145 (w64 (top_1 + 1)))]) r181 (fun e183 => k179 (r182, e183.xLo, e183.xHi))) := by
            intro v180 r181 r182
            refine d_one (i := 17) rfl (by kernel_rfl) (o_idx m_op 1 rfl reads_own rfl rfl rfl el72 ?_); intro e183 h184
            refine d_and (fun w m => m.pick [2, 4] rfl) ?_
            refine pk [0, 1, 2, 3, 4] rfl ?_
            refine re (E' := [(6, (.pointer (some ⟨b5, 0, none⟩))), (65, (pEl v180 r181 2 0))]) ⟨rfl, rfl, trivial⟩ ?_
            exact H83 v180 r181 r182 e183 h184
          have H85 : ∀ (v180 : Value), Nx 68 (gB F [cellCh b1 [v2, (.int .i64 r_0_p)] 104] w0) (feet [cellCh b1 [v2, (.int .i64 r_0_p)] 104]) w0 (wpAnyH Tryd.prog .any (opsAt Tryd.f97 [1, 1, 1, 1, 0, 1, 0, 0]) Qd (Mem (gB F [cellCh b1 [v2, (.int .i64 r_0_p)] 104] w0) (feet [cellCh b1 [v2, (.int .i64 r_0_p)] 104]) w0 [cellCh b10 [(.int .i64 t145), (.int .i64 t148)] 71, snapCh w0 F]) 4 #[true, true, true, true, true, true, true, true, true, true, true, true, true, true, true, true, false, false, false, false]) [(6, (.pointer (some ⟨b5, 0, none⟩))), (63, (.pointer (some ⟨b1, 0, none⟩))), (62, v180)] [ownCh elGSpan 71 v180 ([(GSpan.mk (w64 (t148 + 1)) t148), (GSpan.mk (-1) t148), (GSpan.mk t145 (w64 (top_1 + 1)))]), cellCh b1 [v2, (.int .i64 r175)] 104, cellCh b10 [(.int .i64 t145), (.int .i64 t148)] 71, cellCh b5 [(.int .i64 0), (.int .i64 0)] 71, snapCh w0 F] (L_spec_l20Rd_pick r_0_b r175 3 (fun (r181, r182) => idxW ([(GSpan.mk (w64 (t148 + 1)) t148), (GSpan.mk (-1) t148), (GSpan.mk t145 (w64 (top_1 + 1)))]) r181 (fun e183 => k179 (r182, e183.xLo, e183.xHi)))) := by
            intro v180
            refine pk [1, 0, 2, 3, 4] rfl ?_
            refine d_one (i := 16) rfl (by kernel_rfl) (o_call (vs := [(.pointer (some ⟨b1, 0, none⟩)), (.int .i64 3)]) (M0 := [cellCh b1 [v2, (.int .i64 r175)] 104]) Tryd.call60 rfl rfl (by intro w m h; exact (w_spec_l20Rd_pick (F := allB [cellCh b1 [v2, (.int .i64 r175)] 104] w) (r_0_b := r_0_b) (r_0_p := r175) (n_1 := 3) allB_ok m.given (m.rdM 3 rfl (reads_snap hv2)) h).mono (fun _ _ k => ret_free (fun r u => (fr_cons free_cell fr_nil)) k)) ?_); rintro ⟨r181, r182⟩ _
            refine d_and (fun w m => m.pick [2, 4] rfl) ?_
            refine pk [0, 1, 2, 3, 4] rfl ?_
            refine re (E' := [(6, (.pointer (some ⟨b5, 0, none⟩))), (62, v180), (64, (.int .i64 r181))]) ⟨rfl, rfl, rfl, trivial⟩ ?_
            exact H84 v180 r181 r182
          have H86 : ∀ (r185 : Int) (r186 : Int), Nx 68 (gB F [cellCh b1 [v2, (.int .i64 r_0_p)] 104] w0) (feet [cellCh b1 [v2, (.int .i64 r_0_p)] 104]) w0 (wpAnyH Tryd.prog .any (opsAt Tryd.f97 [1, 1, 1, 1, 0, 1, 0, 0]) Qd (Mem (gB F [cellCh b1 [v2, (.int .i64 r_0_p)] 104] w0) (feet [cellCh b1 [v2, (.int .i64 r_0_p)] 104]) w0 [cellCh b10 [(.int .i64 t145), (.int .i64 t148)] 71, snapCh w0 F]) 4 #[true, true, true, true, true, true, true, true, true, true, true, true, true, true, false, true, true, false, false, false]) [(6, (.pointer (some ⟨b5, 0, none⟩))), (53, (.agg #[(.int .i64 (w64 (t148 + 1))), (.int .i64 t148)])), (56, (.agg #[(.int .i64 (-1)), (.int .i64 t148)])), (61, (.agg #[(.int .i64 t145), (.int .i64 (w64 (top_1 + 1)))])), (64, (.int .i64 r185))] [cellCh b1 [v2, (.int .i64 r186)] 104, cellCh b10 [(.int .i64 t145), (.int .i64 t148)] 71, cellCh b5 [(.int .i64 0), (.int .i64 0)] 71, snapCh w0 F] (idxW ([(GSpan.mk (w64 (t148 + 1)) t148), (GSpan.mk (-1) t148), (GSpan.mk t145 (w64 (top_1 + 1)))]) r185 (fun e183 => k179 (r186, e183.xLo, e183.xHi))) := by
            intro r185 r186
            refine d_one (i := 14) rfl (by kernel_rfl) (o_bsl (enc := encGSpan) (qs := [(0, (.agg #[(.int .i64 (w64 (t148 + 1))), (.int .i64 t148)])), (1, (.agg #[(.int .i64 (-1)), (.int .i64 t148)])), (2, (.agg #[(.int .i64 t145), (.int .i64 (w64 (top_1 + 1)))]))]) (cells := [(.int .i64 (w64 (t148 + 1))), (.int .i64 t148), (.int .i64 (-1)), (.int .i64 t148), (.int .i64 t145), (.int .i64 (w64 (top_1 + 1)))]) ([(GSpan.mk (w64 (t148 + 1)) t148), (GSpan.mk (-1) t148), (GSpan.mk t145 (w64 (top_1 + 1)))]) flelGSpan (by intro ρ h; simp only [List.map_toArray, List.map_cons, List.map_nil, h (.tmp 53) _ rfl, h (.tmp 56) _ rfl, h (.tmp 61) _ rfl]) rfl el72 zero71 rfl rfl rfl rfl rfl rfl ?_); intro v187
            refine d_and (fun w m => m.pick [2, 4] rfl) ?_
            refine pk [1, 0, 2, 3, 4] rfl ?_
            refine re (E' := [(6, (.pointer (some ⟨b5, 0, none⟩))), (62, v187), (64, (.int .i64 r185))]) ⟨rfl, rfl, rfl, trivial⟩ ?_
            exact H84 v187 r185 r186
          refine o_fad (dt 0 (fun w m => m.pick [1, 3] rfl)) rfl rfl fld71_1 rfl ?_
          refine o_ldc (dt 1 (fun w m => m.pick [1, 3] rfl)) (v := (.int .i64 t148)) 0 rfl rfl rfl ty3 rfl ?_
          refine o_addw (dt 2 (fun w m => m.pick [1, 3] rfl)) rfl rfl rfl ?_
          refine o_fad (dt 3 (fun w m => m.pick [1, 3] rfl)) rfl rfl fld71_1 rfl ?_
          refine o_ldc (dt 4 (fun w m => m.pick [1, 3] rfl)) (v := (.int .i64 t148)) 0 rfl rfl rfl ty3 rfl ?_
          refine o_bld (dt 5 (fun w m => m.pick [1, 3] rfl)) (qs := [(0, (.int .i64 (w64 (t148 + 1)))), (1, (.int .i64 t148))]) (cells := [(.int .i64 (w64 (t148 + 1))), (.int .i64 t148)]) (by intro ρ h; simp only [List.map_toArray, List.map_cons, List.map_nil, h (.tmp 50) _ rfl, h (.tmp 52) _ rfl]) rfl bld71 rfl ?_
          refine o_fad (dt 6 (fun w m => m.pick [1, 3] rfl)) rfl rfl fld71_1 rfl ?_
          refine o_ldc (dt 7 (fun w m => m.pick [1, 3] rfl)) (v := (.int .i64 t148)) 0 rfl rfl rfl ty3 rfl ?_
          refine o_bld (dt 8 (fun w m => m.pick [1, 3] rfl)) (qs := [(0, (.int .i64 (-1))), (1, (.int .i64 t148))]) (cells := [(.int .i64 (-1)), (.int .i64 t148)]) (by intro ρ h; simp only [List.map_toArray, List.map_cons, List.map_nil, h (.const (.int .i64 (-1))) _ rfl, h (.tmp 55) _ rfl]) rfl bld71 rfl ?_
          refine o_fad (dt 9 (fun w m => m.pick [1, 3] rfl)) rfl rfl fld71_0 rfl ?_
          refine o_ldc (dt 10 (fun w m => m.pick [1, 3] rfl)) (v := (.int .i64 t145)) 0 rfl rfl rfl ty3 rfl ?_
          refine o_mv (dt 11 (fun w m => m.pick [1, 3] rfl)) rfl rfl ?_
          refine o_addw (dt 12 (fun w m => m.pick [1, 3] rfl)) rfl rfl rfl ?_
          refine o_bld (dt 13 (fun w m => m.pick [1, 3] rfl)) (qs := [(0, (.int .i64 t145)), (1, (.int .i64 (w64 (top_1 + 1))))]) (cells := [(.int .i64 t145), (.int .i64 (w64 (top_1 + 1)))]) (by intro ρ h; simp only [List.map_toArray, List.map_cons, List.map_nil, h (.tmp 58) _ rfl, h (.tmp 60) _ rfl]) rfl bld71 rfl ?_
          refine o_mv (dt 15 (fun w m => m.pick [1, 3] rfl)) rfl rfl ?_
          refine d_two (i := 14) (j := 16) rfl rfl (by kernel_rfl) ?_ ?_
          · intro o ho; cases ho
            refine o_bsl (enc := encGSpan) (qs := [(0, (.agg #[(.int .i64 (w64 (t148 + 1))), (.int .i64 t148)])), (1, (.agg #[(.int .i64 (-1)), (.int .i64 t148)])), (2, (.agg #[(.int .i64 t145), (.int .i64 (w64 (top_1 + 1)))]))]) (cells := [(.int .i64 (w64 (t148 + 1))), (.int .i64 t148), (.int .i64 (-1)), (.int .i64 t148), (.int .i64 t145), (.int .i64 (w64 (top_1 + 1)))]) ([(GSpan.mk (w64 (t148 + 1)) t148), (GSpan.mk (-1) t148), (GSpan.mk t145 (w64 (top_1 + 1)))]) flelGSpan (by intro ρ h; simp only [List.map_toArray, List.map_cons, List.map_nil, h (.tmp 53) _ rfl, h (.tmp 56) _ rfl, h (.tmp 61) _ rfl]) rfl el72 zero71 rfl rfl rfl rfl rfl rfl ?_; intro v180
            refine d_and (fun w m => m.pick [2, 4] rfl) ?_
            refine pk [0, 1, 2, 3, 4] rfl ?_
            refine re (E' := [(6, (.pointer (some ⟨b5, 0, none⟩))), (63, (.pointer (some ⟨b1, 0, none⟩))), (62, v180)]) ⟨rfl, rfl, rfl, trivial⟩ ?_
            exact H85 v180
          · intro o ho; cases ho
            refine o_call (vs := [(.pointer (some ⟨b1, 0, none⟩)), (.int .i64 3)]) (M0 := [cellCh b1 [v2, (.int .i64 r175)] 104]) Tryd.call60 rfl rfl (by intro w m h; exact (w_spec_l20Rd_pick (F := allB [cellCh b1 [v2, (.int .i64 r175)] 104] w) (r_0_b := r_0_b) (r_0_p := r175) (n_1 := 3) allB_ok m.given (m.rdM 2 rfl (reads_snap hv2)) h).mono (fun _ _ k => ret_free (fun r u => (fr_cons free_cell fr_nil)) k)) ?_; rintro ⟨r185, r186⟩ _
            refine d_and (fun w m => m.pick [1, 3] rfl) ?_
            refine pk [0, 1, 2, 3] rfl ?_
            refine re (E' := [(6, (.pointer (some ⟨b5, 0, none⟩))), (53, (.agg #[(.int .i64 (w64 (t148 + 1))), (.int .i64 t148)])), (56, (.agg #[(.int .i64 (-1)), (.int .i64 t148)])), (61, (.agg #[(.int .i64 t145), (.int .i64 (w64 (top_1 + 1)))])), (64, (.int .i64 r185))]) ⟨rfl, rfl, rfl, rfl, rfl, trivial⟩ ?_
            exact H86 r185 r186
        · rintro ⟨t176, t177, t178⟩ a w ⟨hE, hm⟩ h
          refine nx_of hE hm h ?_
          clear hE hm h
          refine c_ret ?_
          refine l_ret ?_
          exact l_end1 Tryd.results97 ((GSpan.mk t177 t178), t176) () (rv_c 1 rfl rfl ty71 rfl) (fun w m => NewCh.ofB m [0] rfl)
      · refine c_skip ?_
        refine l_then ?_
        refine c_seq ?_
        refine c_region ?_
        refine o_ldc st (v := (.agg #[(.int .i64 t145), (.int .i64 t148)])) 1 rfl rfl rfl ty71 rfl ?_
        refine stw (o_stc (cs' := [(.int .i64 t145), (.int .i64 t148)]) 2 rfl rfl rfl ty71 rfl rfl rfl rfl ?_)
        refine c_nil ?_
        refine l_then ?_
        refine c_ret ?_
        exact l_end1 Tryd.results97 ((GSpan.mk t145 t148), r175) () (rv_c 2 rfl rfl ty71 rfl) (fun w m => NewCh.ofB m [0] rfl)

set_option maxRecDepth 100000 in
set_option maxHeartbeats 8000000 in
theorem w_spec_l20Raw {w0 : World} {F : Nat → Prop} {b1 : Nat} {v2 : Value} {r_0_b : (List UInt8)} {r_0_p : Int} {top_1 : Int} {n_2 : Int} {κ : ((List GSpan) × Int) → Prop} (hF : ∀ b, F b → b < w0.heap.size ∧ ¬ feet [cellCh b1 [v2, (.int .i64 r_0_p)] 104] b) (hg : Given [cellCh b1 [v2, (.int .i64 r_0_p)] 104] F w0) (hv2 : Sl elU8 F w0 v2 r_0_b) (h : L_spec_l20Raw r_0_b r_0_p top_1 n_2 κ) :
    Calls Tryd.prog 96 #[(.pointer (some ⟨b1, 0, none⟩)), (.int .i64 top_1), (.int .i64 n_2)] w0 (Ret [cellCh b1 [v2, (.int .i64 r_0_p)] 104] F w0 κ (fun (r : ((List GSpan) × Int)) (u : Value) => u) (fun (r : ((List GSpan) × Int)) (u : Value) => [ownCh elGSpan 71 u r.1, cellCh b1 [v2, (.int .i64 r.2)] 104])) := by
  refine enterS (args := [(.pointer (some ⟨b1, 0, none⟩)), (.int .i64 top_1), (.int .i64 n_2)]) [cellCh b1 [v2, (.int .i64 r_0_p)] 104] hF hg Tryd.func96 rfl Tryd.ntmps96 rfl h ?_
  clear h hF hg
  refine c_seq ?_
  refine c_region ?_
  refine stw (o_asn elGSpan 71 rfl rfl ?_)
  refine c_nil ?_
  refine l_then ?_
  refine c_seq ?_
  refine c_region ?_
  refine stw (o_bsl (enc := encGSpan) (qs := []) (cells := []) ([] : (List GSpan)) flelGSpan (by intro ρ h; simp only [List.map_toArray, List.map_cons, List.map_nil]) rfl el72 zero71 rfl rfl rfl rfl rfl rfl ?_); intro v6
  refine o_as st rfl rfl ?_
  refine c_nil ?_
  refine l_then ?_
  refine c_seq ?_
  refine c_seq ?_
  refine c_region ?_
  refine o_mv st rfl rfl ?_
  refine pk [2, 0, 1, 3] rfl ?_
  refine stw (o_call (vs := [(.pointer (some ⟨b1, 0, none⟩)), (.int .i64 6)]) (M0 := [cellCh b1 [v2, (.int .i64 r_0_p)] 104]) Tryd.call60 rfl rfl (by intro w m h; exact (w_spec_l20Rd_pick (F := allB [cellCh b1 [v2, (.int .i64 r_0_p)] 104] w) (r_0_b := r_0_b) (r_0_p := r_0_p) (n_1 := 6) allB_ok m.given (m.rdM 2 rfl (reads_snap hv2)) h).mono (fun _ _ k => ret_free (fun r u => (fr_cons free_cell fr_nil)) k)) ?_); rintro ⟨r8, r9⟩ _
  refine o_as st rfl rfl ?_
  refine c_nil ?_
  refine l_then ?_
  refine c_block ?_
  refine c_loop (σ := (Int × (List GSpan) × Int)) (fun ((t10, xs12, t15) : (Int × (List GSpan) × Int)) (a : Act) (w : World) => ∃ (v11 : Value), Has 24 [(0, (.pointer (some ⟨b1, 0, none⟩))), (1, (.int .i64 top_1)), (2, (.int .i64 n_2)), (7, v11), (8, (.int .i64 t15))] a ∧ Mem (gB F [cellCh b1 [v2, (.int .i64 r_0_p)] 104] w0) (feet [cellCh b1 [v2, (.int .i64 r_0_p)] 104]) w0 [cellCh b1 [v2, (.int .i64 t10)] 104, snapCh w0 F, ownCh elGSpan 71 v11 xs12] w) (fun a w hE hm => ⟨v6, hE.sub ⟨rfl, rfl, rfl, rfl, rfl, trivial⟩, (hm.pick [0, 3, 1] rfl)⟩) ?_
  rintro nx16 ⟨t10, xs12, t15⟩ a w ⟨v11, hE, hm⟩ h
  refine nx_of hE hm h ?_
  clear hE hm h
  refine c_seq ?_
  refine c_seq ?_
  refine c_region ?_
  refine o_mv st rfl rfl ?_
  refine o_gtr st rfl rfl rfl ?_
  refine c_nil ?_
  refine l_then ?_
  refine c_cond rfl ?_ ?_
  · refine c_skip ?_
    refine l_then ?_
    refine c_seq ?_
    refine c_block ?_
    refine c_region ?_
    refine o_mv st rfl rfl ?_
    refine o_mv st rfl rfl ?_
    refine o_mv st rfl rfl ?_
    refine o_mv st rfl rfl ?_
    refine stw (o_call (vs := [(.pointer (some ⟨b1, 0, none⟩)), (.int .i64 top_1), (.int .i64 n_2)]) (M0 := [cellCh b1 [v2, (.int .i64 t10)] 104]) Tryd.call97 rfl rfl (by intro w m h; exact (w_spec_l20Span (F := allB [cellCh b1 [v2, (.int .i64 t10)] 104] w) (r_0_b := r_0_b) (r_0_p := t10) (top_1 := top_1) (n_2 := n_2) allB_ok m.given (m.rdM 0 rfl (reads_snap hv2)) h).mono (fun _ _ k => ret_free (fun r u => (fr_cons free_cell fr_nil)) k)) ?_); rintro ⟨r17, r18⟩ _
    refine stw (o_bsl (enc := encGSpan) (qs := [(0, (.agg #[(.int .i64 r17.xLo), (.int .i64 r17.xHi)]))]) (cells := [(.int .i64 r17.xLo), (.int .i64 r17.xHi)]) ([r17]) flelGSpan (by intro ρ h; simp only [List.map_toArray, List.map_cons, List.map_nil, h (.tmp 20) _ rfl]) rfl el72 zero71 rfl rfl rfl rfl rfl rfl ?_); intro v19
    refine stw (o_app 3 0 rfl rfl (src_flat flelGSpan reads_own) rfl rfl rfl el72 rfl zero71 rfl rfl ?_); intro v21
    refine o_as st rfl rfl ?_
    refine c_nil ?_
    refine b_norm ?_
    refine l_then ?_
    refine c_region ?_
    refine o_mv st rfl rfl ?_
    refine o_sub st rfl rfl rfl ?_; intro t23
    refine o_as st rfl rfl ?_
    refine c_nil ?_
    exact l_join (r18, (xs12 ++ ([r17])), t23) (fun a w hE hm => ⟨v21, hE.sub ⟨rfl, rfl, rfl, rfl, rfl, trivial⟩, (hm.pick [1, 2, 3] rfl)⟩)
  · refine c_exit ?_
    refine l_exit ?_
    refine l_exit ?_
    refine b_exit ?_
    refine l_then ?_
    refine c_seq ?_
    refine c_region ?_
    refine o_mv st rfl rfl ?_
    refine o_as st rfl rfl ?_
    refine c_nil ?_
    refine l_then ?_
    refine c_ret ?_
    exact l_end1 Tryd.results96 (xs12, t10) v11 (rv_t rfl) (fun w m => NewCh.ofB m [2, 0] rfl)

set_option maxRecDepth 100000 in
set_option maxHeartbeats 8000000 in
theorem w_spec_l20Set {w0 : World} {F : Nat → Prop} {b1 : Nat} {v2 : Value} {r_0_b : (List UInt8)} {r_0_p : Int} {top_1 : Int} {n_2 : Int} {κ : ((List GSpan) × Int) → Prop} (hF : ∀ b, F b → b < w0.heap.size ∧ ¬ feet [cellCh b1 [v2, (.int .i64 r_0_p)] 104] b) (hg : Given [cellCh b1 [v2, (.int .i64 r_0_p)] 104] F w0) (hv2 : Sl elU8 F w0 v2 r_0_b) (h : L_spec_l20Set r_0_b r_0_p top_1 n_2 κ) :
    Calls Tryd.prog 62 #[(.pointer (some ⟨b1, 0, none⟩)), (.int .i64 top_1), (.int .i64 n_2)] w0 (Ret [cellCh b1 [v2, (.int .i64 r_0_p)] 104] F w0 κ (fun (r : ((List GSpan) × Int)) (u : Value) => u) (fun (r : ((List GSpan) × Int)) (u : Value) => [ownCh elGSpan 71 u r.1, cellCh b1 [v2, (.int .i64 r.2)] 104])) := by
  refine enterS (args := [(.pointer (some ⟨b1, 0, none⟩)), (.int .i64 top_1), (.int .i64 n_2)]) [cellCh b1 [v2, (.int .i64 r_0_p)] 104] hF hg Tryd.func62 rfl Tryd.ntmps62 rfl h ?_
  clear h hF hg
  refine c_seq ?_
  refine c_region ?_
  refine stw (o_asn elGSpan 71 rfl rfl ?_)
  refine c_nil ?_
  refine l_then ?_
  refine c_seq ?_
  refine c_region ?_
  refine o_mv st rfl rfl ?_
  refine o_mv st rfl rfl ?_
  refine pk [1, 0, 2] rfl ?_
  refine stw (o_call (vs := [(.pointer (some ⟨b1, 0, none⟩)), (.int .i64 top_1), (.int .i64 0)]) (M0 := [cellCh b1 [v2, (.int .i64 r_0_p)] 104]) Tryd.call96 rfl rfl (by intro w m h; exact (w_spec_l20Raw (F := allB [cellCh b1 [v2, (.int .i64 r_0_p)] 104] w) (r_0_b := r_0_b) (r_0_p := r_0_p) (top_1 := top_1) (n_2 := 0) allB_ok m.given (m.rdM 1 rfl (reads_snap hv2)) h).mono (fun _ _ k => ret_free (fun r u => (fr_cons (free_own flelGSpan) (fr_cons free_cell fr_nil))) k)) ?_); rintro ⟨r6, r9⟩ v7
  refine o_mv st rfl rfl ?_
  refine stw (o_callP (vs := [v7, (.int .i64 top_1)]) Tryd.call95 rfl rfl (by intro w m h; exact (w_spec_SpansOf (F := allB [] w) (list_0 := r6) (top_1 := top_1) allB_ok (m.rd0 0 rfl reads_own) h).mono (fun _ _ k => ret_free (fun r u => (fr_cons (free_own flelGSpan) fr_nil)) k)) ?_); rintro r10 v11
  refine o_as st rfl rfl ?_
  refine c_nil ?_
  refine l_then ?_
  refine c_join (σ := (Int × (List GSpan))) (fun ((t90, xs92) : (Int × (List GSpan))) (a : Act) (w : World) => ∃ (v91 : Value), Has 35 [(7, v91)] a ∧ Mem (gB F [cellCh b1 [v2, (.int .i64 r_0_p)] 104] w0) (feet [cellCh b1 [v2, (.int .i64 r_0_p)] 104]) w0 [cellCh b1 [v2, (.int .i64 t90)] 104, snapCh w0 F, ownCh elGSpan 71 v91 xs92] w) ?_ ?_
  · intro k95
    refine c_seq ?_
    refine c_region ?_
    refine o_mv st rfl rfl ?_
    refine o_mv st rfl rfl ?_
    refine pk [2, 0, 1, 3, 4] rfl ?_
    refine stw (o_call (vs := [(.pointer (some ⟨b1, 0, none⟩)), (.int .i64 n_2)]) (M0 := [cellCh b1 [v2, (.int .i64 r9)] 104]) Tryd.call64 rfl rfl (by intro w m h; exact (w_spec_l20Rd_odd (F := allB [cellCh b1 [v2, (.int .i64 r9)] 104] w) (r_0_b := r_0_b) (r_0_p := r9) (n_1 := n_2) allB_ok m.given (m.rdM 3 rfl (reads_snap hv2)) h).mono (fun _ _ k => ret_free (fun r u => (fr_cons free_cell fr_nil)) k)) ?_); rintro ⟨r13, r14⟩ _
    refine c_nil ?_
    refine l_then ?_
    refine c_cond rfl ?_ ?_
    · refine c_seq ?_
      refine c_region ?_
      refine o_mv st rfl rfl ?_
      refine stw (o_call (vs := [(.pointer (some ⟨b1, 0, none⟩)), (.int .i64 3)]) (M0 := [cellCh b1 [v2, (.int .i64 r14)] 104]) Tryd.call60 rfl rfl (by intro w m h; exact (w_spec_l20Rd_pick (F := allB [cellCh b1 [v2, (.int .i64 r14)] 104] w) (r_0_b := r_0_b) (r_0_p := r14) (n_1 := 3) allB_ok m.given (m.rdM 3 rfl (reads_snap hv2)) h).mono (fun _ _ k => ret_free (fun r u => (fr_cons free_cell fr_nil)) k)) ?_); rintro ⟨r15, r16⟩ _
      refine c_nil ?_
      refine l_then ?_
      refine c_block ?_
      refine c_seq ?_
      refine c_region ?_
      refine o_eql st und3 rfl rfl rfl ?_
      refine o_as st rfl rfl ?_
      refine c_nil ?_
      refine l_then ?_
      refine c_cond rfl ?_ ?_
      · refine c_region ?_
        refine o_mv st rfl rfl ?_
        refine o_mv st rfl rfl ?_
        refine o_mv st rfl rfl ?_
        refine stw (o_call (vs := [(.pointer (some ⟨b1, 0, none⟩)), (.int .i64 top_1), (.int .i64 1)]) (M0 := [cellCh b1 [v2, (.int .i64 r16)] 104]) Tryd.call97 rfl rfl (by intro w m h; exact (w_spec_l20Span (F := allB [cellCh b1 [v2, (.int .i64 r16)] 104] w) (r_0_b := r_0_b) (r_0_p := r16) (top_1 := top_1) (n_2 := 1) allB_ok m.given (m.rdM 3 rfl (reads_snap hv2)) h).mono (fun _ _ k => ret_free (fun r u => (fr_cons free_cell fr_nil)) k)) ?_); rintro ⟨r17, r18⟩ _
        refine stw (o_bsl (enc := encGSpan) (qs := [(0, (.agg #[(.int .i64 r17.xLo), (.int .i64 r17.xHi)]))]) (cells := [(.int .i64 r17.xLo), (.int .i64 r17.xHi)]) ([r17]) flelGSpan (by intro ρ h; simp only [List.map_toArray, List.map_cons, List.map_nil, h (.tmp 24) _ rfl]) rfl el72 zero71 rfl rfl rfl rfl rfl rfl ?_); intro v19
        refine stw (o_app 2 0 rfl rfl (src_flat flelGSpan reads_own) rfl rfl rfl el72 rfl zero71 rfl rfl ?_); intro v21
        refine o_as st rfl rfl ?_
        refine c_nil ?_
        refine b_norm ?_
        exact l_join (r18, (r10 ++ ([r17]))) (fun a w hE hm => ⟨v21, hE.sub ⟨rfl, trivial⟩, (hm.pick [1, 5, 2] rfl)⟩)
      · refine c_seq ?_
        refine c_region ?_
        refine o_eql st und3 rfl rfl rfl ?_
        refine o_as st rfl rfl ?_
        refine c_nil ?_
        refine l_then ?_
        refine c_cond rfl ?_ ?_
        · refine c_region ?_
          refine o_mv st rfl rfl ?_
          refine o_bld st (qs := [(0, (.int .i64 1)), (1, (.int .i64 2))]) (cells := [(.int .i64 1), (.int .i64 2)]) (by intro ρ h; simp only [List.map_toArray, List.map_cons, List.map_nil, h (.const (.int .i64 1)) _ rfl, h (.const (.int .i64 2)) _ rfl]) rfl bld71 rfl ?_
          refine o_bld st (qs := [(0, (.int .i64 3)), (1, (.int .i64 3))]) (cells := [(.int .i64 3), (.int .i64 3)]) (by intro ρ h; simp only [List.map_toArray, List.map_cons, List.map_nil, h (.const (.int .i64 3)) _ rfl, h (.const (.int .i64 3)) _ rfl]) rfl bld71 rfl ?_
          refine stw (o_bsl (enc := encGSpan) (qs := [(0, (.agg #[(.int .i64 1), (.int .i64 2)])), (1, (.agg #[(.int .i64 3), (.int .i64 3)]))]) (cells := [(.int .i64 1), (.int .i64 2), (.int .i64 3), (.int .i64 3)]) ([(GSpan.mk 1 2), (GSpan.mk 3 3)]) flelGSpan (by intro ρ h; simp only [List.map_toArray, List.map_cons, List.map_nil, h (.tmp 30) _ rfl, h (.tmp 31) _ rfl]) rfl el72 zero71 rfl rfl rfl rfl rfl rfl ?_); intro v23
          refine stw (o_app 2 0 rfl rfl (src_flat flelGSpan reads_own) rfl rfl rfl el72 rfl zero71 rfl rfl ?_); intro v25
          refine o_as st rfl rfl ?_
          refine c_nil ?_
          refine b_norm ?_
          exact l_join (r16, (r10 ++ ([(GSpan.mk 1 2), (GSpan.mk 3 3)]))) (fun a w hE hm => ⟨v25, hE.sub ⟨rfl, trivial⟩, (hm.pick [1, 5, 2] rfl)⟩)
        · refine c_region ?_
          refine stw (o_make (z := (GSpan.mk 0 0)) flelGSpan rfl rfl rfl el72 rfl zero71 rfl rfl ?_); intro v27 xs28
          refine o_as st rfl rfl ?_
          refine c_nil ?_
          refine b_norm ?_
          exact l_join (r16, xs28) (fun a w hE hm => ⟨v27, hE.sub ⟨rfl, trivial⟩, (hm.pick [1, 5, 0] rfl)⟩)
    · refine c_skip ?_
      exact l_join (r14, r10) (fun a w hE hm => ⟨v11, hE.sub ⟨rfl, trivial⟩, (hm.pick [0, 4, 1] rfl)⟩)
  · rintro ⟨t90, xs92⟩ a w ⟨v91, hE, hm⟩ h
    refine nx_of hE hm h ?_
    clear hE hm h
    refine c_seq ?_
    refine c_region ?_
    refine o_mv st rfl rfl ?_
    refine o_as st rfl rfl ?_
    refine c_nil ?_
    refine l_then ?_
    refine c_ret ?_
    exact l_end1 Tryd.results62 (xs92, t90) v91 (rv_t rfl) (fun w m => NewCh.ofB m [2, 0] rfl)

set_option maxRecDepth 100000 in
set_option maxHeartbeats 8000000 in
theorem w_spec_FieldTop {w0 : World} {F : Nat → Prop} {n_0 : Int} {κ : Int → Prop} (hF : ∀ b, F b → b < w0.heap.size ∧ ¬ feet [] b) (h : L_spec_FieldTop n_0 κ) :
    Calls Tryd.prog 63 #[(.int .i64 n_0)] w0 (Ret [] F w0 κ (fun (r : Int) (u : Unit) => (.int .i64 r)) (fun (r : Int) (u : Unit) => [])) := by
  refine enter0 (args := [(.int .i64 n_0)]) [] hF (Given.nil _ _) Tryd.func63 rfl Tryd.ntmps63 rfl h ?_
  clear h hF
  refine c_seq ?_
  refine c_region ?_
  refine o_as st rfl rfl ?_
  refine c_nil ?_
  refine l_then ?_
  refine c_seq ?_
  refine c_seq ?_
  refine c_region ?_
  refine o_mv st rfl rfl ?_
  refine c_nil ?_
  refine l_then ?_
  refine c_block ?_
  refine c_join (σ := Bool) (fun (t61 : Bool) (a : Act) (w : World) => Has 11 [(3, (.int .i64 n_0)), (4, (.bool t61))] a ∧ Mem (gB F [] w0) (feet []) w0 [] w) ?_ ?_
  · intro k62
    refine c_seq ?_
    refine c_region ?_
    refine o_eql st und3 rfl rfl rfl ?_
    refine o_as st rfl rfl ?_
    refine c_nil ?_
    refine l_then ?_
    refine c_cond rfl ?_ ?_
    · refine c_skip ?_
      exact l_join (decide (n_0 = 0)) (fun a w hE hm => ⟨hE.sub ⟨rfl, rfl, trivial⟩, (hm.pick [] rfl)⟩)
    · refine c_region ?_
      refine o_eql st und3 rfl rfl rfl ?_
      refine o_as st rfl rfl ?_
      refine c_nil ?_
      exact l_join (decide (n_0 = 1)) (fun a w hE hm => ⟨hE.sub ⟨rfl, rfl, trivial⟩, (hm.pick [] rfl)⟩)
  · rintro t61 a w ⟨hE, hm⟩ h
    refine nx_of hE hm h ?_
    clear hE hm h
    refine c_cond rfl ?_ ?_
    · refine c_seq ?_
      refine c_region ?_
      refine o_as st rfl rfl ?_
      refine c_nil ?_
      refine l_then ?_
      refine c_ret ?_
      refine b_ret ?_
      refine l_ret ?_
      exact l_end1 Tryd.results63 65535 () (rv_t rfl) (fun _ _ => NewCh.nil _ _ _ _)
    · refine c_seq ?_
      refine c_region ?_
      refine o_eql st und3 rfl rfl rfl ?_
      refine o_as st rfl rfl ?_
      refine c_nil ?_
      refine l_then ?_
      refine c_cond rfl ?_ ?_
      · refine c_seq ?_
        refine c_region ?_
        refine o_as st rfl rfl ?_
        refine c_nil ?_
        refine l_then ?_
        refine c_ret ?_
        refine b_ret ?_
        refine l_ret ?_
        exact l_end1 Tryd.results63 255 () (rv_t rfl) (fun _ _ => NewCh.nil _ _ _ _)
      · refine c_seq ?_
        refine c_region ?_
        refine o_eql st und3 rfl rfl rfl ?_
        refine o_as st rfl rfl ?_
        refine c_nil ?_
        refine l_then ?_
        refine c_cond rfl ?_ ?_
        · refine c_seq ?_
          refine c_region ?_
          refine o_as st rfl rfl ?_
          refine c_nil ?_
          refine l_then ?_
          refine c_ret ?_
          refine b_ret ?_
          refine l_ret ?_
          exact l_end1 Tryd.results63 7 () (rv_t rfl) (fun _ _ => NewCh.nil _ _ _ _)
        · refine c_skip ?_
          refine b_norm ?_
          refine l_then ?_
          refine c_seq ?_
          refine c_region ?_
          refine o_as st rfl rfl ?_
          refine c_nil ?_
          refine l_then ?_
          refine c_ret ?_
          exact l_end1 Tryd.results63 (-1) () (rv_t rfl) (fun _ _ => NewCh.nil _ _ _ _)

set_option maxRecDepth 100000 in
set_option maxHeartbeats 8000000 in
theorem w_spec_BoxAll {w0 : World} {F : Nat → Prop} {κ : GBox → Prop} (hF : ∀ b, F b → b < w0.heap.size ∧ ¬ feet [] b) (h : L_spec_BoxAll κ) :
    Calls Tryd.prog 65 #[] w0 (Ret [] F w0 κ (fun (r : GBox) (u : Value × List Nat) => (.agg #[u.1])) (fun (r : GBox) (u : Value × List Nat) => [dpCh (dSl dGSpan 71) 72 u.2 u.1 r.xSides])) := by
  refine enter0 (args := []) [] hF (Given.nil _ _) Tryd.func65 rfl Tryd.ntmps65 rfl h ?_
  clear h hF
  refine c_seq ?_
  refine c_region ?_
  refine stw (o_alloc rfl [(.slice none 0 0)] zero85 ?_); intro b1
  refine c_nil ?_
  refine l_then ?_
  refine c_seq ?_
  refine c_region ?_
  refine o_bld st (qs := []) (cells := [(.slice none 0 0)]) (by intro ρ h; simp only [List.map_toArray, List.map_cons, List.map_nil]) rfl bld85 rfl ?_
  refine stw (o_alloc rfl [(.slice none 0 0)] zero85 ?_); intro b3
  refine stw (o_stc (cs' := [(.slice none 0 0)]) 0 rfl rfl rfl ty85 rfl rfl rfl rfl ?_)
  refine c_nil ?_
  refine l_then ?_
  refine c_seq ?_
  refine c_seq ?_
  refine c_region ?_
  refine o_as st rfl rfl ?_
  refine c_nil ?_
  refine l_then ?_
  refine c_block ?_
  refine c_loop (σ := ((List (List GSpan)) × Int)) (fun ((xs6, t10) : ((List (List GSpan)) × Int)) (a : Act) (w : World) => ∃ (v5 : Value) (bb8 : List Nat), Has 18 [(0, (.pointer (some ⟨b1, 0, none⟩))), (1, (.pointer (some ⟨b3, 0, none⟩))), (2, (.int .i64 t10))] a ∧ Mem (gB F [] w0) (feet []) w0 [cellCh b3 [v5] 85, cellCh b1 [(.slice none 0 0)] 85, dpCh (dSl dGSpan 71) 72 bb8 v5 xs6] w) (fun a w hE hm => ⟨(.slice none 0 0), [], hE.sub ⟨rfl, rfl, rfl, trivial⟩, ((mem_dnil (dSl dGSpan 71) 72 hm).pick [1, 2, 0] rfl)⟩) ?_
  rintro nx11 ⟨xs6, t10⟩ a w ⟨v5, bb8, hE, hm⟩ h
  refine nx_of hE hm h ?_
  clear hE hm h
  refine c_seq ?_
  refine c_seq ?_
  refine c_region ?_
  refine o_mv st rfl rfl ?_
  refine o_lss st rfl rfl rfl ?_
  refine c_nil ?_
  refine l_then ?_
  refine c_cond rfl ?_ ?_
  · refine c_skip ?_
    refine l_then ?_
    refine c_seq ?_
    refine c_block ?_
    refine nx_dp 2 rfl ?_; rintro a12 l13 q14 rfl
    refine c_join1 (σ := (List (List GSpan))) (fun (xs15 : (List (List GSpan))) (a : Act) (w : World) => ∃ (v16 : Value) (bb18 : List Nat), Has 18 [(0, (.pointer (some ⟨b1, 0, none⟩))), (1, (.pointer (some ⟨b3, 0, none⟩))), (2, (.int .i64 t10))] a ∧ Mem (gB F [] w0) (feet []) w0 [dpCh (dSl dGSpan 71) 72 bb18 v16 xs15, cellCh b3 [v16] 85, cellCh b1 [(.slice none 0 0)] 85] w) ?_ ?_
    · intro k19
      refine c_drawQ mixed 10 rfl [cellCh b1 [(.slice none 0 0)] 85] ?_
      intro Qd hP hQ
      have H209 : ∀ (r20 : Int) (a22 : Option Addr) (l23 : Nat) (q24 : Nat) (v25 : Value) (bb26 : List Nat) (a30 : Option Addr) (l31 : Nat) (q32 : Nat) (bb28 : List Nat), Nx 18 (gB F [] w0) (feet []) w0 (wpAnyH Tryd.prog .any (opsAt Tryd.f65 [1, 1, 0, 1, 0, 0, 1, 0, 0]) Qd (Mem (gB F [] w0) (feet []) w0 [cellCh b1 [(.slice none 0 0)] 85]) 0 #[true, true, true, true, true, true, true, true, true, true]) [(0, (.pointer (some ⟨b1, 0, none⟩))), (1, (.pointer (some ⟨b3, 0, none⟩))), (2, (.int .i64 t10))] [dpCh (dSl dGSpan 71) 72 bb28 (.slice a30 l31 q32) (xs6 ++ ([[(GSpan.mk 0 r20)]])), cellCh b3 [(.slice a30 l31 q32)] 85, cellCh b1 [(.slice none 0 0)] 85] (k19 (xs6 ++ ([[(GSpan.mk 0 r20)]]))) := by
        intro r20 a22 l23 q24 v25 bb26 a30 l31 q32 bb28
        refine d_done (by kernel_rfl) ?_
        exact fun a w hE hm hφ => hQ (xs6 ++ ([[(GSpan.mk 0 r20)]])) a w hφ ((fun a w hE hm => ⟨(.slice a30 l31 q32), bb28, hE.sub ⟨rfl, rfl, rfl, trivial⟩, (hm.pick [0, 1, 2] rfl)⟩) a w hE hm)
      have H210 : ∀ (r20 : Int) (a22 : Option Addr) (l23 : Nat) (q24 : Nat) (v25 : Value) (bb26 : List Nat) (v27 : Value) (bb28 : List Nat), Nx 18 (gB F [] w0) (feet []) w0 (wpAnyH Tryd.prog .any (opsAt Tryd.f65 [1, 1, 0, 1, 0, 0, 1, 0, 0]) Qd (Mem (gB F [] w0) (feet []) w0 [cellCh b1 [(.slice none 0 0)] 85]) 2 #[true, true, true, true, true, true, true, true, false, false]) [(0, (.pointer (some ⟨b1, 0, none⟩))), (1, (.pointer (some ⟨b3, 0, none⟩))), (2, (.int .i64 t10)), (15, v27)] [dpCh (dSl dGSpan 71) 72 bb28 v27 (xs6 ++ ([[(GSpan.mk 0 r20)]])), cellCh b3 [(.slice a12 l13 q14)] 85, cellCh b1 [(.slice none 0 0)] 85] (k19 (xs6 ++ ([[(GSpan.mk 0 r20)]]))) := by
        intro r20 a22 l23 q24 v25 bb26 v27 bb28
        refine o_fad (dt 8 (fun w m => m.pick [2] rfl)) rfl rfl fld85_0 rfl ?_
        refine nx_dp 0 rfl ?_; rintro a30 l31 q32 rfl
        refine d_one (i := 9) rfl (by kernel_rfl) (o_stc (cs' := [(.slice a30 l31 q32)]) 1 rfl rfl rfl ty83 rfl rfl rfl rfl ?_)
        refine d_and (fun w m => m.pick [2] rfl) ?_
        refine pk [0, 1, 2] rfl ?_
        refine re (E' := [(0, (.pointer (some ⟨b1, 0, none⟩))), (1, (.pointer (some ⟨b3, 0, none⟩))), (2, (.int .i64 t10))]) ⟨rfl, rfl, rfl, trivial⟩ ?_
        exact H209 r20 a22 l23 q24 v25 bb26 a30 l31 q32 bb28
      have H211 : ∀ (r20 : Int) (a22 : Option Addr) (l23 : Nat) (q24 : Nat) (v25 : Value) (bb26 : List Nat), Nx 18 (gB F [] w0) (feet []) w0 (wpAnyH Tryd.prog .any (opsAt Tryd.f65 [1, 1, 0, 1, 0, 0, 1, 0, 0]) Qd (Mem (gB F [] w0) (feet []) w0 [cellCh b1 [(.slice none 0 0)] 85]) 3 #[true, true, true, true, true, true, true, false, false, false]) [(0, (.pointer (some ⟨b1, 0, none⟩))), (1, (.pointer (some ⟨b3, 0, none⟩))), (2, (.int .i64 t10)), (9, (.slice a12 l13 q14)), (14, v25)] [dpCh (dSl dGSpan 71) 72 bb26 v25 ([[(GSpan.mk 0 r20)]]), cellCh b3 [(.slice a12 l13 q14)] 85, cellCh b1 [(.slice none 0 0)] 85, dpCh (dSl dGSpan 71) 72 bb8 (.slice a12 l13 q14) xs6] (appW xs6 ([[(GSpan.mk 0 r20)]]) (fun _ => k19 (xs6 ++ ([[(GSpan.mk 0 r20)]])))) := by
        intro r20 a22 l23 q24 v25 bb26
        refine pk [3, 0, 1, 2] rfl ?_
        refine d_one (i := 7) rfl (by kernel_rfl) (o_appD rfl rfl rfl el83 rfl zero72 rfl rfl ?_); intro bb28 v27
        refine d_and (fun w m => m.pick [2] rfl) ?_
        refine pk [0, 1, 2] rfl ?_
        refine re (E' := [(0, (.pointer (some ⟨b1, 0, none⟩))), (1, (.pointer (some ⟨b3, 0, none⟩))), (2, (.int .i64 t10)), (15, v27)]) ⟨rfl, rfl, rfl, rfl, trivial⟩ ?_
        exact H210 r20 a22 l23 q24 v25 bb26 v27 bb28
      have H212 : ∀ (r20 : Int) (v21 : Value), Nx 18 (gB F [] w0) (feet []) w0 (wpAnyH Tryd.prog .any (opsAt Tryd.f65 [1, 1, 0, 1, 0, 0, 1, 0, 0]) Qd (Mem (gB F [] w0) (feet []) w0 [cellCh b1 [(.slice none 0 0)] 85]) 4 #[true, true, true, true, true, true, false, false, false, false]) [(0, (.pointer (some ⟨b1, 0, none⟩))), (1, (.pointer (some ⟨b3, 0, none⟩))), (2, (.int .i64 t10)), (9, (.slice a12 l13 q14)), (13, v21)] [ownCh elGSpan 71 v21 ([(GSpan.mk 0 r20)]), cellCh b3 [(.slice a12 l13 q14)] 85, cellCh b1 [(.slice none 0 0)] 85, dpCh (dSl dGSpan 71) 72 bb8 (.slice a12 l13 q14) xs6] (appW xs6 ([[(GSpan.mk 0 r20)]]) (fun _ => k19 (xs6 ++ ([[(GSpan.mk 0 r20)]])))) := by
        intro r20 v21
        refine nx_own 0 rfl ?_; rintro a22 l23 q24 rfl
        refine d_one (i := 6) rfl (by kernel_rfl) (o_bslD (M := [ownCh elGSpan 71 (.slice a22 l23 q24) ([(GSpan.mk 0 r20)])]) (E' := (dSl dGSpan 71)) (qs := [(0, (.slice a22 l23 q24))]) (cs := [(.slice a22 l23 q24)]) ([(GSpan.mk 0 r20)]) (absorb_one (gives_own flelGSpan) (fun B w h => ⟨_, rfl, h⟩)) (by intro ρ h; simp only [List.map_toArray, List.map_cons, List.map_nil, h (.tmp 13) _ rfl]) rfl el83 zero72 rfl rfl rfl rfl ?_); intro bb26 v25
        refine d_and (fun w m => m.pick [2] rfl) ?_
        refine pk [0, 1, 2, 3] rfl ?_
        refine re (E' := [(0, (.pointer (some ⟨b1, 0, none⟩))), (1, (.pointer (some ⟨b3, 0, none⟩))), (2, (.int .i64 t10)), (9, (.slice a12 l13 q14)), (14, v25)]) ⟨rfl, rfl, rfl, rfl, rfl, trivial⟩ ?_
        exact H211 r20 a22 l23 q24 v25 bb26
      have H213 : ∀ (r20 : Int), Nx 18 (gB F [] w0) (feet []) w0 (wpAnyH Tryd.prog .any (opsAt Tryd.f65 [1, 1, 0, 1, 0, 0, 1, 0, 0]) Qd (Mem (gB F [] w0) (feet []) w0 [cellCh b1 [(.slice none 0 0)] 85]) 6 #[true, true, true, true, false, false, false, false, false, false]) [(0, (.pointer (some ⟨b1, 0, none⟩))), (1, (.pointer (some ⟨b3, 0, none⟩))), (2, (.int .i64 t10)), (9, (.slice a12 l13 q14)), (11, (.int .i64 r20))] [cellCh b3 [(.slice a12 l13 q14)] 85, cellCh b1 [(.slice none 0 0)] 85, dpCh (dSl dGSpan 71) 72 bb8 (.slice a12 l13 q14) xs6] (appW xs6 ([[(GSpan.mk 0 r20)]]) (fun _ => k19 (xs6 ++ ([[(GSpan.mk 0 r20)]])))) := by
        intro r20
        refine o_bld (dt 4 (fun w m => m.pick [1] rfl)) (qs := [(0, (.int .i64 0)), (1, (.int .i64 r20))]) (cells := [(.int .i64 0), (.int .i64 r20)]) (by intro ρ h; simp only [List.map_toArray, List.map_cons, List.map_nil, h (.const (.int .i64 0)) _ rfl, h (.tmp 11) _ rfl]) rfl bld71 rfl ?_
        refine d_one (i := 5) rfl (by kernel_rfl) (o_bsl (enc := encGSpan) (qs := [(0, (.agg #[(.int .i64 0), (.int .i64 r20)]))]) (cells := [(.int .i64 0), (.int .i64 r20)]) ([(GSpan.mk 0 r20)]) flelGSpan (by intro ρ h; simp only [List.map_toArray, List.map_cons, List.map_nil, h (.tmp 12) _ rfl]) rfl el72 zero71 rfl rfl rfl rfl rfl rfl ?_); intro v21
        refine d_and (fun w m => m.pick [2] rfl) ?_
        refine pk [0, 1, 2, 3] rfl ?_
        refine re (E' := [(0, (.pointer (some ⟨b1, 0, none⟩))), (1, (.pointer (some ⟨b3, 0, none⟩))), (2, (.int .i64 t10)), (9, (.slice a12 l13 q14)), (13, v21)]) ⟨rfl, rfl, rfl, rfl, rfl, trivial⟩ ?_
        exact H212 r20 v21
      have H214 : ∀ (_ : Unit), Nx 18 (gB F [] w0) (feet []) w0 (wpAnyH Tryd.prog .any (opsAt Tryd.f65 [1, 1, 0, 1, 0, 0, 1, 0, 0]) Qd (Mem (gB F [] w0) (feet []) w0 [cellCh b1 [(.slice none 0 0)] 85]) 7 #[true, true, true, false, false, false, false, false, false, false]) [(0, (.pointer (some ⟨b1, 0, none⟩))), (1, (.pointer (some ⟨b3, 0, none⟩))), (2, (.int .i64 t10)), (10, (.int .i64 t10)), (9, (.slice a12 l13 q14))] [cellCh b3 [(.slice a12 l13 q14)] 85, cellCh b1 [(.slice none 0 0)] 85, dpCh (dSl dGSpan 71) 72 bb8 (.slice a12 l13 q14) xs6] (L_spec_FieldTop t10 (fun r20 => appW xs6 ([[(GSpan.mk 0 r20)]]) (fun _ => k19 (xs6 ++ ([[(GSpan.mk 0 r20)]]))))) := by
        intro _
        refine d_one (i := 3) rfl (by kernel_rfl) (o_callP (vs := [(.int .i64 t10)]) Tryd.call63 rfl rfl (by intro w m h; exact (w_spec_FieldTop (F := allB [] w) (n_0 := t10) allB_ok h).mono (fun _ _ k => ret_free (fun r u => fr_nil) k)) ?_); rintro r20 _
        refine d_and (fun w m => m.pick [1] rfl) ?_
        refine pk [0, 1, 2] rfl ?_
        refine re (E' := [(0, (.pointer (some ⟨b1, 0, none⟩))), (1, (.pointer (some ⟨b3, 0, none⟩))), (2, (.int .i64 t10)), (9, (.slice a12 l13 q14)), (11, (.int .i64 r20))]) ⟨rfl, rfl, rfl, rfl, rfl, trivial⟩ ?_
        exact H213 r20
      have H215 : ∀ (r33 : Int), Nx 18 (gB F [] w0) (feet []) w0 (wpAnyH Tryd.prog .any (opsAt Tryd.f65 [1, 1, 0, 1, 0, 0, 1, 0, 0]) Qd (Mem (gB F [] w0) (feet []) w0 [cellCh b1 [(.slice none 0 0)] 85]) 5 #[true, true, true, true, true, false, false, false, false, false]) [(0, (.pointer (some ⟨b1, 0, none⟩))), (1, (.pointer (some ⟨b3, 0, none⟩))), (2, (.int .i64 t10)), (12, (.agg #[(.int .i64 0), (.int .i64 r33)])), (9, (.slice a12 l13 q14))] [cellCh b3 [(.slice a12 l13 q14)] 85, cellCh b1 [(.slice none 0 0)] 85, dpCh (dSl dGSpan 71) 72 bb8 (.slice a12 l13 q14) xs6] (appW xs6 ([[(GSpan.mk 0 r33)]]) (fun _ => k19 (xs6 ++ ([[(GSpan.mk 0 r33)]])))) := by
        intro r33
        refine d_one (i := 5) rfl (by kernel_rfl) (o_bsl (enc := encGSpan) (qs := [(0, (.agg #[(.int .i64 0), (.int .i64 r33)]))]) (cells := [(.int .i64 0), (.int .i64 r33)]) ([(GSpan.mk 0 r33)]) flelGSpan (by intro ρ h; simp only [List.map_toArray, List.map_cons, List.map_nil, h (.tmp 12) _ rfl]) rfl el72 zero71 rfl rfl rfl rfl rfl rfl ?_); intro v34
        refine d_and (fun w m => m.pick [2] rfl) ?_
        refine pk [0, 1, 2, 3] rfl ?_
        refine re (E' := [(0, (.pointer (some ⟨b1, 0, none⟩))), (1, (.pointer (some ⟨b3, 0, none⟩))), (2, (.int .i64 t10)), (9, (.slice a12 l13 q14)), (13, v34)]) ⟨rfl, rfl, rfl, rfl, rfl, trivial⟩ ?_
        exact H212 r33 v34
      have H216 : ∀ (r33 : Int) (a36 : Option Addr) (l37 : Nat) (q38 : Nat) (v39 : Value) (bb40 : List Nat), Nx 18 (gB F [] w0) (feet []) w0 (wpAnyH Tryd.prog .any (opsAt Tryd.f65 [1, 1, 0, 1, 0, 0, 1, 0, 0]) Qd (Mem (gB F [] w0) (feet []) w0 [cellCh b1 [(.slice none 0 0)] 85]) 4 #[true, false, true, true, true, true, true, false, false, false]) [(0, (.pointer (some ⟨b1, 0, none⟩))), (1, (.pointer (some ⟨b3, 0, none⟩))), (2, (.int .i64 t10)), (8, (.pointer (some ⟨b3, 0, none⟩))), (14, v39)] [dpCh (dSl dGSpan 71) 72 bb40 v39 ([[(GSpan.mk 0 r33)]]), cellCh b3 [(.slice a12 l13 q14)] 85, cellCh b1 [(.slice none 0 0)] 85, dpCh (dSl dGSpan 71) 72 bb8 (.slice a12 l13 q14) xs6] (appW xs6 ([[(GSpan.mk 0 r33)]]) (fun _ => k19 (xs6 ++ ([[(GSpan.mk 0 r33)]])))) := by
        intro r33 a36 l37 q38 v39 bb40
        refine d_one (i := 1) rfl (by kernel_rfl) (o_ldc m_op (v := (.slice a12 l13 q14)) 1 rfl rfl rfl ty83 rfl ?_)
        refine d_and (fun w m => m.pick [2] rfl) ?_
        refine pk [0, 1, 2, 3] rfl ?_
        refine re (E' := [(0, (.pointer (some ⟨b1, 0, none⟩))), (1, (.pointer (some ⟨b3, 0, none⟩))), (2, (.int .i64 t10)), (9, (.slice a12 l13 q14)), (14, v39)]) ⟨rfl, rfl, rfl, rfl, rfl, trivial⟩ ?_
        exact H211 r33 a36 l37 q38 v39 bb40
      have H217 : ∀ (r33 : Int) (v35 : Value), Nx 18 (gB F [] w0) (feet []) w0 (wpAnyH Tryd.prog .any (opsAt Tryd.f65 [1, 1, 0, 1, 0, 0, 1, 0, 0]) Qd (Mem (gB F [] w0) (feet []) w0 [cellCh b1 [(.slice none 0 0)] 85]) 5 #[true, false, true, true, true, true, false, false, false, false]) [(0, (.pointer (some ⟨b1, 0, none⟩))), (1, (.pointer (some ⟨b3, 0, none⟩))), (2, (.int .i64 t10)), (8, (.pointer (some ⟨b3, 0, none⟩))), (13, v35)] [ownCh elGSpan 71 v35 ([(GSpan.mk 0 r33)]), cellCh b3 [(.slice a12 l13 q14)] 85, cellCh b1 [(.slice none 0 0)] 85, dpCh (dSl dGSpan 71) 72 bb8 (.slice a12 l13 q14) xs6] (appW xs6 ([[(GSpan.mk 0 r33)]]) (fun _ => k19 (xs6 ++ ([[(GSpan.mk 0 r33)]])))) := by
        intro r33 v35
        refine d_two (i := 1) (j := 6) rfl rfl (by kernel_rfl) ?_ ?_
        · intro o ho; cases ho
          refine o_ldc m_op (v := (.slice a12 l13 q14)) 1 rfl rfl rfl ty83 rfl ?_
          refine d_and (fun w m => m.pick [2] rfl) ?_
          refine pk [0, 1, 2, 3] rfl ?_
          refine re (E' := [(0, (.pointer (some ⟨b1, 0, none⟩))), (1, (.pointer (some ⟨b3, 0, none⟩))), (2, (.int .i64 t10)), (9, (.slice a12 l13 q14)), (13, v35)]) ⟨rfl, rfl, rfl, rfl, rfl, trivial⟩ ?_
          exact H212 r33 v35
        · intro o ho; cases ho
          refine nx_own 0 rfl ?_; rintro a36 l37 q38 rfl
          refine o_bslD (M := [ownCh elGSpan 71 (.slice a36 l37 q38) ([(GSpan.mk 0 r33)])]) (E' := (dSl dGSpan 71)) (qs := [(0, (.slice a36 l37 q38))]) (cs := [(.slice a36 l37 q38)]) ([(GSpan.mk 0 r33)]) (absorb_one (gives_own flelGSpan) (fun B w h => ⟨_, rfl, h⟩)) (by intro ρ h; simp only [List.map_toArray, List.map_cons, List.map_nil, h (.tmp 13) _ rfl]) rfl el83 zero72 rfl rfl rfl rfl ?_; intro bb40 v39
          refine d_and (fun w m => m.pick [2] rfl) ?_
          refine pk [0, 1, 2, 3] rfl ?_
          refine re (E' := [(0, (.pointer (some ⟨b1, 0, none⟩))), (1, (.pointer (some ⟨b3, 0, none⟩))), (2, (.int .i64 t10)), (8, (.pointer (some ⟨b3, 0, none⟩))), (14, v39)]) ⟨rfl, rfl, rfl, rfl, rfl, trivial⟩ ?_
          exact H216 r33 a36 l37 q38 v39 bb40
      have H218 : ∀ (r33 : Int), Nx 18 (gB F [] w0) (feet []) w0 (wpAnyH Tryd.prog .any (opsAt Tryd.f65 [1, 1, 0, 1, 0, 0, 1, 0, 0]) Qd (Mem (gB F [] w0) (feet []) w0 [cellCh b1 [(.slice none 0 0)] 85]) 7 #[true, false, true, true, false, false, false, false, false, false]) [(0, (.pointer (some ⟨b1, 0, none⟩))), (1, (.pointer (some ⟨b3, 0, none⟩))), (2, (.int .i64 t10)), (8, (.pointer (some ⟨b3, 0, none⟩))), (11, (.int .i64 r33))] [cellCh b3 [(.slice a12 l13 q14)] 85, cellCh b1 [(.slice none 0 0)] 85, dpCh (dSl dGSpan 71) 72 bb8 (.slice a12 l13 q14) xs6] (appW xs6 ([[(GSpan.mk 0 r33)]]) (fun _ => k19 (xs6 ++ ([[(GSpan.mk 0 r33)]])))) := by
        intro r33
        refine o_bld (dt 4 (fun w m => m.pick [1] rfl)) (qs := [(0, (.int .i64 0)), (1, (.int .i64 r33))]) (cells := [(.int .i64 0), (.int .i64 r33)]) (by intro ρ h; simp only [List.map_toArray, List.map_cons, List.map_nil, h (.const (.int .i64 0)) _ rfl, h (.tmp 11) _ rfl]) rfl bld71 rfl ?_
        refine d_two (i := 1) (j := 5) rfl rfl (by kernel_rfl) ?_ ?_
        · intro o ho; cases ho
          refine o_ldc m_op (v := (.slice a12 l13 q14)) 0 rfl rfl rfl ty83 rfl ?_
          refine d_and (fun w m => m.pick [1] rfl) ?_
          refine pk [0, 1, 2] rfl ?_
          refine re (E' := [(0, (.pointer (some ⟨b1, 0, none⟩))), (1, (.pointer (some ⟨b3, 0, none⟩))), (2, (.int .i64 t10)), (12, (.agg #[(.int .i64 0), (.int .i64 r33)])), (9, (.slice a12 l13 q14))]) ⟨rfl, rfl, rfl, rfl, rfl, trivial⟩ ?_
          exact H215 r33
        · intro o ho; cases ho
          refine o_bsl (enc := encGSpan) (qs := [(0, (.agg #[(.int .i64 0), (.int .i64 r33)]))]) (cells := [(.int .i64 0), (.int .i64 r33)]) ([(GSpan.mk 0 r33)]) flelGSpan (by intro ρ h; simp only [List.map_toArray, List.map_cons, List.map_nil, h (.tmp 12) _ rfl]) rfl el72 zero71 rfl rfl rfl rfl rfl rfl ?_; intro v35
          refine d_and (fun w m => m.pick [2] rfl) ?_
          refine pk [0, 1, 2, 3] rfl ?_
          refine re (E' := [(0, (.pointer (some ⟨b1, 0, none⟩))), (1, (.pointer (some ⟨b3, 0, none⟩))), (2, (.int .i64 t10)), (8, (.pointer (some ⟨b3, 0, none⟩))), (13, v35)]) ⟨rfl, rfl, rfl, rfl, rfl, trivial⟩ ?_
          exact H217 r33 v35
      refine o_fad (dt 0 (fun w m => m.pick [1] rfl)) rfl rfl fld85_0 rfl ?_
      refine o_mv (dt 2 (fun w m => m.pick [1] rfl)) rfl rfl ?_
      refine d_two (i := 1) (j := 3) rfl rfl (by kernel_rfl) ?_ ?_
      · intro o ho; cases ho
        refine o_ldc m_op (v := (.slice a12 l13 q14)) 0 rfl rfl rfl ty83 rfl ?_
        refine d_and (fun w m => m.pick [1] rfl) ?_
        refine pk [0, 1, 2] rfl ?_
        refine re (E' := [(0, (.pointer (some ⟨b1, 0, none⟩))), (1, (.pointer (some ⟨b3, 0, none⟩))), (2, (.int .i64 t10)), (10, (.int .i64 t10)), (9, (.slice a12 l13 q14))]) ⟨rfl, rfl, rfl, rfl, rfl, trivial⟩ ?_
        exact H214 ()
      · intro o ho; cases ho
        refine o_callP (vs := [(.int .i64 t10)]) Tryd.call63 rfl rfl (by intro w m h; exact (w_spec_FieldTop (F := allB [] w) (n_0 := t10) allB_ok h).mono (fun _ _ k => ret_free (fun r u => fr_nil) k)) ?_; rintro r33 _
        refine d_and (fun w m => m.pick [1] rfl) ?_
        refine pk [0, 1, 2] rfl ?_
        refine re (E' := [(0, (.pointer (some ⟨b1, 0, none⟩))), (1, (.pointer (some ⟨b3, 0, none⟩))), (2, (.int .i64 t10)), (8, (.pointer (some ⟨b3, 0, none⟩))), (11, (.int .i64 r33))]) ⟨rfl, rfl, rfl, rfl, rfl, trivial⟩ ?_
        exact H218 r33
    · rintro xs15 a w ⟨v16, bb18, hE, hm⟩ h
      refine nx_of hE hm h ?_
      clear hE hm h
      refine b_norm ?_
      refine l_then ?_
      refine c_region ?_
      refine o_mv st rfl rfl ?_
      refine o_add st rfl rfl rfl ?_; intro t41
      refine o_as st rfl rfl ?_
      refine c_nil ?_
      exact l_join (xs15, t41) (fun a w hE hm => ⟨v16, bb18, hE.sub ⟨rfl, rfl, rfl, trivial⟩, (hm.pick [1, 2, 0] rfl)⟩)
  · refine c_exit ?_
    refine l_exit ?_
    refine l_exit ?_
    refine b_exit ?_
    refine l_then ?_
    refine c_seq ?_
    refine c_region ?_
    refine o_ldc st (v := (.agg #[v5])) 0 rfl rfl rfl ty85 rfl ?_
    refine nx_dp 2 rfl ?_; rintro a42 l43 q44 rfl
    refine stw (o_stc (cs' := [(.slice a42 l43 q44)]) 1 rfl rfl rfl ty85 rfl rfl rfl rfl ?_)
    refine c_nil ?_
    refine l_then ?_
    refine c_ret ?_
    exact l_end1 Tryd.results65 (GBox.mk xs6) ((.slice a42 l43 q44), bb8) (rv_c 1 rfl rfl ty85 rfl) (fun w m => NewCh.ofB m [2] rfl)

set_option maxRecDepth 100000 in
set_option maxHeartbeats 8000000 in
theorem w_spec_TestValid {w0 : World} {F : Nat → Prop} {t_0 : GTest} {κ : Bool → Prop} (hF : ∀ b, F b → b < w0.heap.size ∧ ¬ feet [] b) (h : L_spec_TestValid t_0 κ) :
    Calls Tryd.prog 128 #[(.agg #[(.int .i64 t_0.xField), (.int .i64 t_0.xLo), (.int .i64 t_0.xHi), (.bool t_0.xNot)])] w0 (Ret [] F w0 κ (fun (r : Bool) (u : Unit) => (.bool r)) (fun (r : Bool) (u : Unit) => [])) := by
  refine enter0 (args := [(.agg #[(.int .i64 t_0.xField), (.int .i64 t_0.xLo), (.int .i64 t_0.xHi), (.bool t_0.xNot)])]) [] hF (Given.nil _ _) Tryd.func128 rfl Tryd.ntmps128 rfl h ?_
  clear h hF
  refine c_seq ?_
  refine c_region ?_
  refine stw (o_box rfl rfl [(.int .i64 t_0.xField), (.int .i64 t_0.xLo), (.int .i64 t_0.xHi), (.bool t_0.xNot)] rfl ?_); intro b1
  refine o_as st rfl rfl ?_
  refine c_nil ?_
  refine l_then ?_
  refine c_join (σ := Bool) (fun (t66 : Bool) (a : Act) (w : World) => Has 21 [(2, (.bool t66))] a ∧ Mem (gB F [] w0) (feet []) w0 [] w) ?_ ?_
  · intro k67
    refine c_draw mixed 19 rfl [cellCh b1 [(.int .i64 t_0.xField), (.int .i64 t_0.xLo), (.int .i64 t_0.xHi), (.bool t_0.xNot)] 125] ?_
    refine o_fad (dt 0 (fun _ m => m)) rfl rfl fld125_0 rfl ?_
    refine o_ldc (dt 1 (fun _ m => m)) (v := (.int .i64 t_0.xField)) 0 rfl rfl rfl ty3 rfl ?_
    refine d_one (i := 2) rfl (by kernel_rfl) (o_callP (vs := [(.int .i64 t_0.xField), (.int .i64 0), (.int .i64 3)]) Tryd.call74 rfl rfl (by intro w m h; exact (w_spec_l1In (F := allB [] w) (n_0 := t_0.xField) (lo_1 := 0) (hi_2 := 3) allB_ok h).mono (fun _ _ k => ret_free (fun r u => fr_nil) k)) ?_); rintro r3 _
    refine d_and (fun _ m => m) ?_
    refine o_mv (dt 3 (fun _ m => m)) rfl rfl ?_
    refine st_sp (dj := 6) rfl ?_ ?_
    · refine o_fad (dtg 4 (fun _ m => m)) rfl rfl fld125_1 rfl ?_
      refine o_ldc (dtg 5 (fun _ m => m)) (v := (.int .i64 t_0.xLo)) 0 rfl rfl rfl ty3 rfl ?_
      refine o_fad (dtg 6 (fun _ m => m)) rfl rfl fld125_2 rfl ?_
      refine o_ldc (dtg 7 (fun _ m => m)) (v := (.int .i64 t_0.xHi)) 0 rfl rfl rfl ty3 rfl ?_
      refine d_oneg (i := 8) rfl rfl rfl (by kernel_rfl) (o_callP (vs := [(.int .i64 t_0.xLo), (.int .i64 0), (.int .i64 t_0.xHi)]) Tryd.call74 rfl rfl (by intro w m h; exact (w_spec_l1In (F := allB [] w) (n_0 := t_0.xLo) (lo_1 := 0) (hi_2 := t_0.xHi) allB_ok h).mono (fun _ _ k => ret_free (fun r u => fr_nil) k)) ?_); rintro r4 _
      refine d_and (fun _ m => m) ?_
      refine o_pickT (dt 9 (fun _ m => m)) rfl rfl rfl ?_
      refine o_mv (dt 10 (fun _ m => m)) rfl rfl ?_
      refine st_sp (dj := 13) rfl ?_ ?_
      · refine o_fad (dtg 11 (fun _ m => m)) rfl rfl fld125_2 rfl ?_
        refine o_ldc (dtg 12 (fun _ m => m)) (v := (.int .i64 t_0.xHi)) 0 rfl rfl rfl ty3 rfl ?_
        refine o_fad (dtg 13 (fun _ m => m)) rfl rfl fld125_0 rfl ?_
        refine o_ldc (dtg 14 (fun _ m => m)) (v := (.int .i64 t_0.xField)) 0 rfl rfl rfl ty3 rfl ?_
        refine d_oneg (i := 15) rfl rfl rfl (by kernel_rfl) (o_callP (vs := [(.int .i64 t_0.xField)]) Tryd.call63 rfl rfl (by intro w m h; exact (w_spec_FieldTop (F := allB [] w) (n_0 := t_0.xField) allB_ok h).mono (fun _ _ k => ret_free (fun r u => fr_nil) k)) ?_); rintro r5 _
        refine d_and (fun _ m => m) ?_
        refine o_leq (dtg 16 (fun _ m => m)) rfl rfl rfl ?_
        refine o_pickT (dt 17 (fun _ m => m)) rfl rfl rfl ?_
        refine o_as (dt 18 (fun _ m => m)) rfl rfl ?_
        refine d_done (by kernel_rfl) ?_
        exact l_join (decide (t_0.xHi ≤ r5)) (fun a w hE hm => ⟨hE.sub ⟨rfl, trivial⟩, (hm.pick [] rfl)⟩)
      · refine dsk 11 (fun _ m => m) rfl (by kernel_rfl) rfl rfl rfl rfl ?_
        refine dsk 12 (fun _ m => m) rfl (by kernel_rfl) rfl rfl rfl rfl ?_
        refine dsk 13 (fun _ m => m) rfl (by kernel_rfl) rfl rfl rfl rfl ?_
        refine dsk 14 (fun _ m => m) rfl (by kernel_rfl) rfl rfl rfl rfl ?_
        refine dsk 15 (fun _ m => m) rfl (by kernel_rfl) rfl rfl rfl rfl ?_
        refine dsk 16 (fun _ m => m) rfl (by kernel_rfl) rfl rfl rfl rfl ?_
        refine o_pickF (dt 17 (fun _ m => m)) rfl rfl rfl ?_
        refine o_as (dt 18 (fun _ m => m)) rfl rfl ?_
        refine d_done (by kernel_rfl) ?_
        exact l_join false (fun a w hE hm => ⟨hE.sub ⟨rfl, trivial⟩, (hm.pick [] rfl)⟩)
    · refine dsk 4 (fun _ m => m) rfl (by kernel_rfl) rfl rfl rfl rfl ?_
      refine dsk 5 (fun _ m => m) rfl (by kernel_rfl) rfl rfl rfl rfl ?_
      refine dsk 6 (fun _ m => m) rfl (by kernel_rfl) rfl rfl rfl rfl ?_
      refine dsk 7 (fun _ m => m) rfl (by kernel_rfl) rfl rfl rfl rfl ?_
      refine dsk 8 (fun _ m => m) rfl (by kernel_rfl) rfl rfl rfl rfl ?_
      refine o_pickF (dt 9 (fun _ m => m)) rfl rfl rfl ?_
      refine o_mv (dt 10 (fun _ m => m)) rfl rfl ?_
      refine dsk 11 (fun _ m => m) rfl (by kernel_rfl) rfl rfl rfl rfl ?_
      refine dsk 12 (fun _ m => m) rfl (by kernel_rfl) rfl rfl rfl rfl ?_
      refine dsk 13 (fun _ m => m) rfl (by kernel_rfl) rfl rfl rfl rfl ?_
      refine dsk 14 (fun _ m => m) rfl (by kernel_rfl) rfl rfl rfl rfl ?_
      refine dsk 15 (fun _ m => m) rfl (by kernel_rfl) rfl rfl rfl rfl ?_
      refine dsk 16 (fun _ m => m) rfl (by kernel_rfl) rfl rfl rfl rfl ?_
      refine o_pickF (dt 17 (fun _ m => m)) rfl rfl rfl ?_
      refine o_as (dt 18 (fun _ m => m)) rfl rfl ?_
      refine d_done (by kernel_rfl) ?_
      exact l_join false (fun a w hE hm => ⟨hE.sub ⟨rfl, trivial⟩, (hm.pick [] rfl)⟩)
  · rintro t66 a w ⟨hE, hm⟩ h
    refine nx_of hE hm h ?_
    clear hE hm h
    refine c_ret ?_
    exact l_end1 Tryd.results128 t66 () (rv_t rfl) (fun _ _ => NewCh.nil _ _ _ _)

set_option maxRecDepth 100000 in
set_option maxHeartbeats 8000000 in
theorem w_spec_TestsValid {w0 : World} {F : Nat → Prop} {v1 : Value} {list_0 : (List GTest)} {κ : Bool → Prop} (hF : ∀ b, F b → b < w0.heap.size ∧ ¬ feet [] b) (hv1 : Sl elGTest F w0 v1 list_0) (h : L_spec_TestsValid list_0 κ) :
    Calls Tryd.prog 114 #[v1] w0 (Ret [] F w0 κ (fun (r : Bool) (u : Unit) => (.bool r)) (fun (r : Bool) (u : Unit) => [])) := by
  refine enterS (args := [v1]) [] hF (Given.nil _ _) Tryd.func114 rfl Tryd.ntmps114 rfl h ?_
  clear h hF
  refine c_seq ?_
  refine c_region ?_
  refine o_as st rfl rfl ?_
  refine c_nil ?_
  refine l_then ?_
  refine c_seq ?_
  refine c_seq ?_
  refine c_region ?_
  refine o_as st rfl rfl ?_
  refine c_nil ?_
  refine l_then ?_
  refine c_block ?_
  refine c_loop (σ := Int) (fun (t3 : Int) (a : Act) (w : World) => Has 19 [(0, v1), (3, (.int .i64 t3))] a ∧ Mem (gB F [] w0) (feet []) w0 [snapCh w0 F] w) (fun a w hE hm => ⟨hE.sub ⟨rfl, rfl, trivial⟩, (hm.pick [0] rfl)⟩) ?_
  rintro nx4 t3 a w ⟨hE, hm⟩ h
  refine nx_of hE hm h ?_
  clear hE hm h
  refine c_seq ?_
  refine c_seq ?_
  refine c_region ?_
  refine o_mv st rfl rfl ?_
  refine o_mv st rfl rfl ?_
  refine o_len st el80 0 rfl (reads_snap hv1) rfl rfl ?_
  refine o_lss st rfl rfl rfl ?_
  refine c_nil ?_
  refine l_then ?_
  refine c_cond rfl ?_ ?_
  · refine c_skip ?_
    refine l_then ?_
    refine c_seq ?_
    refine c_block ?_
    refine c_seq ?_
    refine c_region ?_
    refine o_mv st rfl rfl ?_
    refine o_mv st rfl rfl ?_
    refine o_idx st 0 rfl (reads_snap hv1) rfl rfl rfl el80 ?_; intro e5 h6
    refine o_lds st (enc := encGTest) (u := (.agg #[(.int .i64 e5.xField), (.int .i64 e5.xLo), (.int .i64 e5.xHi), (.bool e5.xNot)])) 0 rfl (reads_snap hv1) flelGTest rfl h6 rfl rfl ty125 rfl ?_
    refine stw (o_callP (vs := [(.agg #[(.int .i64 e5.xField), (.int .i64 e5.xLo), (.int .i64 e5.xHi), (.bool e5.xNot)])]) Tryd.call128 rfl rfl (by intro w m h; exact (w_spec_TestValid (F := allB [] w) (t_0 := e5) allB_ok h).mono (fun _ _ k => ret_free (fun r u => fr_nil) k)) ?_); rintro r7 _
    refine o_not st rfl rfl ?_
    refine c_nil ?_
    refine l_then ?_
    refine c_cond rfl ?_ ?_
    · refine c_seq ?_
      refine c_region ?_
      refine o_as st rfl rfl ?_
      refine c_nil ?_
      refine l_then ?_
      refine c_ret ?_
      refine b_ret ?_
      refine l_ret ?_
      refine l_ret ?_
      refine b_ret ?_
      refine l_ret ?_
      exact l_end1 Tryd.results114 false () (rv_t rfl) (fun _ _ => NewCh.nil _ _ _ _)
    · refine c_skip ?_
      refine b_norm ?_
      refine l_then ?_
      refine c_region ?_
      refine o_mv st rfl rfl ?_
      refine o_add st rfl rfl rfl ?_; intro t8
      refine o_as st rfl rfl ?_
      refine c_nil ?_
      exact l_join t8 (fun a w hE hm => ⟨hE.sub ⟨rfl, rfl, trivial⟩, (hm.pick [0] rfl)⟩)
  · refine c_exit ?_
    refine l_exit ?_
    refine l_exit ?_
    refine b_exit ?_
    refine l_then ?_
    refine c_seq ?_
    refine c_region ?_
    refine o_mv st rfl rfl ?_
    refine o_len st el80 0 rfl (reads_snap hv1) rfl rfl ?_
    refine o_leq st rfl rfl rfl ?_
    refine o_as st rfl rfl ?_
    refine c_nil ?_
    refine l_then ?_
    refine c_ret ?_
    exact l_end1 Tryd.results114 (decide ((list_0.length : Int) ≤ 6)) () (rv_t rfl) (fun _ _ => NewCh.nil _ _ _ _)

set_option maxRecDepth 100000 in
set_option maxHeartbeats 8000000 in
theorem w_spec_l2Meet {w0 : World} {F : Nat → Prop} {v1 : Value} {v3 : Value} {a_0 : (List GSpan)} {b_1 : (List GSpan)} {κ : (List GSpan) → Prop} (hF : ∀ b, F b → b < w0.heap.size ∧ ¬ feet [] b) (hv1 : Sl elGSpan F w0 v1 a_0) (hv3 : Sl elGSpan F w0 v3 b_1) (h : L_spec_l2Meet a_0 b_1 κ) :
    Calls Tryd.prog 115 #[v1, v3] w0 (Ret [] F w0 κ (fun (r : (List GSpan)) (u : Value) => u) (fun (r : (List GSpan)) (u : Value) => [ownCh elGSpan 71 u r])) := by
  refine enterS (args := [v1, v3]) [] hF (Given.nil _ _) Tryd.func115 rfl Tryd.ntmps115 rfl h ?_
  clear h hF
  refine c_seq ?_
  refine c_region ?_
  refine stw (o_asn elGSpan 71 rfl rfl ?_)
  refine c_nil ?_
  refine l_then ?_
  refine c_seq ?_
  refine c_region ?_
  refine stw (o_bsl (enc := encGSpan) (qs := []) (cells := []) ([] : (List GSpan)) flelGSpan (by intro ρ h; simp only [List.map_toArray, List.map_cons, List.map_nil]) rfl el72 zero71 rfl rfl rfl rfl rfl rfl ?_); intro v6
  refine o_as st rfl rfl ?_
  refine c_nil ?_
  refine l_then ?_
  refine c_seq ?_
  refine c_seq ?_
  refine c_region ?_
  refine o_as st rfl rfl ?_
  refine c_nil ?_
  refine l_then ?_
  refine c_block ?_
  refine c_loop (σ := ((List GSpan) × Int)) (fun ((xs9, t12) : ((List GSpan) × Int)) (a : Act) (w : World) => ∃ (v8 : Value), Has 55 [(0, v1), (1, v3), (5, v8), (6, (.int .i64 t12))] a ∧ Mem (gB F [] w0) (feet []) w0 [snapCh w0 F, ownCh elGSpan 71 v8 xs9] w) (fun a w hE hm => ⟨v6, hE.sub ⟨rfl, rfl, rfl, rfl, trivial⟩, (hm.pick [2, 0] rfl)⟩) ?_
  rintro nx13 ⟨xs9, t12⟩ a w ⟨v8, hE, hm⟩ h
  refine nx_of hE hm h ?_
  clear hE hm h
  refine c_seq ?_
  refine c_seq ?_
  refine c_region ?_
  refine o_mv st rfl rfl ?_
  refine o_mv st rfl rfl ?_
  refine o_len st el72 0 rfl (reads_snap hv1) rfl rfl ?_
  refine o_lss st rfl rfl rfl ?_
  refine c_nil ?_
  refine l_then ?_
  refine c_cond rfl ?_ ?_
  · refine c_skip ?_
    refine l_then ?_
    refine c_seq ?_
    refine c_block ?_
    refine c_seq ?_
    refine c_region ?_
    refine o_as st rfl rfl ?_
    refine c_nil ?_
    refine l_then ?_
    refine c_block ?_
    refine c_loop (σ := ((List GSpan) × Int)) (fun ((xs15, t18) : ((List GSpan) × Int)) (a : Act) (w : World) => ∃ (v14 : Value), Has 55 [(0, v1), (1, v3), (5, v14), (6, (.int .i64 t12)), (7, (.int .i64 t18))] a ∧ Mem (gB F [] w0) (feet []) w0 [snapCh w0 F, ownCh elGSpan 71 v14 xs15] w) (fun a w hE hm => ⟨v8, hE.sub ⟨rfl, rfl, rfl, rfl, rfl, trivial⟩, (hm.pick [0, 1] rfl)⟩) ?_
    rintro nx19 ⟨xs15, t18⟩ a w ⟨v14, hE, hm⟩ h
    refine nx_of hE hm h ?_
    clear hE hm h
    refine c_seq ?_
    refine c_seq ?_
    refine c_region ?_
    refine o_mv st rfl rfl ?_
    refine o_mv st rfl rfl ?_
    refine o_len st el72 0 rfl (reads_snap hv3) rfl rfl ?_
    refine o_lss st rfl rfl rfl ?_
    refine c_nil ?_
    refine l_then ?_
    refine c_cond rfl ?_ ?_
    · refine c_skip ?_
      refine l_then ?_
      refine c_join (σ := (List GSpan)) (fun (xs92 : (List GSpan)) (a : Act) (w : World) => ∃ (v93 : Value), Has 55 [(0, v1), (1, v3), (5, v93), (6, (.int .i64 t12)), (7, (.int .i64 t18))] a ∧ Mem (gB F [] w0) (feet []) w0 [ownCh elGSpan 71 v93 xs92, snapCh w0 F] w) ?_ ?_
      · intro k95
        refine c_block ?_
        refine c_seq ?_
        refine c_draw mixed 12 rfl [snapCh w0 F, ownCh elGSpan 71 v14 xs15] ?_
        refine o_mv (dt 0 (fun _ m => m)) rfl rfl ?_
        refine o_mv (dt 1 (fun _ m => m)) rfl rfl ?_
        refine o_idx (dt 2 (fun _ m => m)) 0 rfl (reads_snap hv1) rfl rfl rfl el72 ?_; intro e20 h21
        refine o_fadS (dt 3 (fun _ m => m)) 0 rfl (reads_snap hv1) h21 rfl rfl fld71_0 rfl ?_
        refine o_lds (dt 4 (fun _ m => m)) (enc := encGSpan) (u := (.int .i64 e20.xLo)) 0 rfl (reads_snap hv1) flelGSpan rfl h21 rfl rfl ty3 rfl ?_
        refine o_mv (dt 5 (fun _ m => m)) rfl rfl ?_
        refine o_mv (dt 6 (fun _ m => m)) rfl rfl ?_
        refine o_idx (dt 7 (fun _ m => m)) 0 rfl (reads_snap hv3) rfl rfl rfl el72 ?_; intro e22 h23
        refine o_fadS (dt 8 (fun _ m => m)) 0 rfl (reads_snap hv3) h23 rfl rfl fld71_0 rfl ?_
        refine o_lds (dt 9 (fun _ m => m)) (enc := encGSpan) (u := (.int .i64 e22.xLo)) 0 rfl (reads_snap hv3) flelGSpan rfl h23 rfl rfl ty3 rfl ?_
        refine o_max (dt 10 (fun _ m => m)) rfl rfl rfl ?_
        refine o_as (dt 11 (fun _ m => m)) rfl rfl ?_
        refine d_done (by kernel_rfl) ?_
        refine l_then ?_
        refine c_seq ?_
        refine c_draw mixed 12 rfl [snapCh w0 F, ownCh elGSpan 71 v14 xs15] ?_
        refine o_mv (dt 0 (fun _ m => m)) rfl rfl ?_
        refine o_mv (dt 1 (fun _ m => m)) rfl rfl ?_
        refine o_idx (dt 2 (fun _ m => m)) 0 rfl (reads_snap hv1) rfl rfl rfl el72 ?_; intro e24 h25
        refine o_fadS (dt 3 (fun _ m => m)) 0 rfl (reads_snap hv1) h25 rfl rfl fld71_1 rfl ?_
        refine o_lds (dt 4 (fun _ m => m)) (enc := encGSpan) (u := (.int .i64 e24.xHi)) 0 rfl (reads_snap hv1) flelGSpan rfl h25 rfl rfl ty3 rfl ?_
        refine o_mv (dt 5 (fun _ m => m)) rfl rfl ?_
        refine o_mv (dt 6 (fun _ m => m)) rfl rfl ?_
        refine o_idx (dt 7 (fun _ m => m)) 0 rfl (reads_snap hv3) rfl rfl rfl el72 ?_; intro e26 h27
        refine o_fadS (dt 8 (fun _ m => m)) 0 rfl (reads_snap hv3) h27 rfl rfl fld71_1 rfl ?_
        refine o_lds (dt 9 (fun _ m => m)) (enc := encGSpan) (u := (.int .i64 e26.xHi)) 0 rfl (reads_snap hv3) flelGSpan rfl h27 rfl rfl ty3 rfl ?_
        refine o_min (dt 10 (fun _ m => m)) rfl rfl rfl ?_
        refine o_as (dt 11 (fun _ m => m)) rfl rfl ?_
        refine d_done (by kernel_rfl) ?_
        refine l_then ?_
        refine c_seq ?_
        refine c_region ?_
        refine o_mv st rfl rfl ?_
        refine o_mv st rfl rfl ?_
        refine o_leq st rfl rfl rfl ?_
        refine c_nil ?_
        refine l_then ?_
        refine c_cond rfl ?_ ?_
        · refine c_region ?_
          refine o_mv st rfl rfl ?_
          refine o_mv st rfl rfl ?_
          refine o_mv st rfl rfl ?_
          refine o_bld st (qs := [(0, (.int .i64 (max e20.xLo e22.xLo))), (1, (.int .i64 (min e24.xHi e26.xHi)))]) (cells := [(.int .i64 (max e20.xLo e22.xLo)), (.int .i64 (min e24.xHi e26.xHi))]) (by intro ρ h; simp only [List.map_toArray, List.map_cons, List.map_nil, h (.tmp 49) _ rfl, h (.tmp 50) _ rfl]) rfl bld71 rfl ?_
          refine stw (o_bsl (enc := encGSpan) (qs := [(0, (.agg #[(.int .i64 (max e20.xLo e22.xLo)), (.int .i64 (min e24.xHi e26.xHi))]))]) (cells := [(.int .i64 (max e20.xLo e22.xLo)), (.int .i64 (min e24.xHi e26.xHi))]) ([(GSpan.mk (max e20.xLo e22.xLo) (min e24.xHi e26.xHi))]) flelGSpan (by intro ρ h; simp only [List.map_toArray, List.map_cons, List.map_nil, h (.tmp 51) _ rfl]) rfl el72 zero71 rfl rfl rfl rfl rfl rfl ?_); intro v28
          refine stw (o_app 2 0 rfl rfl (src_flat flelGSpan reads_own) rfl rfl rfl el72 rfl zero71 rfl rfl ?_); intro v30
          refine o_as st rfl rfl ?_
          refine c_nil ?_
          refine b_norm ?_
          exact l_join (xs15 ++ ([(GSpan.mk (max e20.xLo e22.xLo) (min e24.xHi e26.xHi))])) (fun a w hE hm => ⟨v30, hE.sub ⟨rfl, rfl, rfl, rfl, rfl, trivial⟩, (hm.pick [2, 1] rfl)⟩)
        · refine c_skip ?_
          refine b_norm ?_
          exact l_join xs15 (fun a w hE hm => ⟨v14, hE.sub ⟨rfl, rfl, rfl, rfl, rfl, trivial⟩, (hm.pick [1, 0] rfl)⟩)
      · rintro xs92 a w ⟨v93, hE, hm⟩ h
        refine nx_of hE hm h ?_
        clear hE hm h
        refine c_region ?_
        refine o_mv st rfl rfl ?_
        refine o_add st rfl rfl rfl ?_; intro t96
        refine o_as st rfl rfl ?_
        refine c_nil ?_
        exact l_join (xs92, t96) (fun a w hE hm => ⟨v93, hE.sub ⟨rfl, rfl, rfl, rfl, rfl, trivial⟩, (hm.pick [1, 0] rfl)⟩)
    · refine c_exit ?_
      refine l_exit ?_
      refine l_exit ?_
      refine b_exit ?_
      refine b_norm ?_
      refine l_then ?_
      refine c_region ?_
      refine o_mv st rfl rfl ?_
      refine o_add st rfl rfl rfl ?_; intro t97
      refine o_as st rfl rfl ?_
      refine c_nil ?_
      exact l_join (xs15, t97) (fun a w hE hm => ⟨v14, hE.sub ⟨rfl, rfl, rfl, rfl, trivial⟩, (hm.pick [0, 1] rfl)⟩)
  · refine c_exit ?_
    refine l_exit ?_
    refine l_exit ?_
    refine b_exit ?_
    refine l_then ?_
    refine c_seq ?_
    refine c_region ?_
    refine o_mv st rfl rfl ?_
    refine o_as st rfl rfl ?_
    refine c_nil ?_
    refine l_then ?_
    refine c_ret ?_
    exact l_end1 Tryd.results115 xs9 v8 (rv_t rfl) (fun w m => NewCh.ofB m [1] rfl)

set_option maxRecDepth 100000 in
set_option maxHeartbeats 8000000 in
theorem w_spec_l2Other {w0 : World} {F : Nat → Prop} {v1 : Value} {a_0 : (List GSpan)} {top_1 : Int} {κ : (List GSpan) → Prop} (hF : ∀ b, F b → b < w0.heap.size ∧ ¬ feet [] b) (hv1 : Sl elGSpan F w0 v1 a_0) (h : L_spec_l2Other a_0 top_1 κ) :
    Calls Tryd.prog 129 #[v1, (.int .i64 top_1)] w0 (Ret [] F w0 κ (fun (r : (List GSpan)) (u : Value) => u) (fun (r : (List GSpan)) (u : Value) => [ownCh elGSpan 71 u r])) := by
  refine enterS (args := [v1, (.int .i64 top_1)]) [] hF (Given.nil _ _) Tryd.func129 rfl Tryd.ntmps129 rfl h ?_
  clear h hF
  refine c_seq ?_
  refine c_region ?_
  refine stw (o_asn elGSpan 71 rfl rfl ?_)
  refine c_nil ?_
  refine l_then ?_
  refine c_seq ?_
  refine c_region ?_
  refine stw (o_bsl (enc := encGSpan) (qs := []) (cells := []) ([] : (List GSpan)) flelGSpan (by intro ρ h; simp only [List.map_toArray, List.map_cons, List.map_nil]) rfl el72 zero71 rfl rfl rfl rfl rfl rfl ?_); intro v4
  refine o_as st rfl rfl ?_
  refine c_nil ?_
  refine l_then ?_
  refine c_seq ?_
  refine c_region ?_
  refine o_as st rfl rfl ?_
  refine c_nil ?_
  refine l_then ?_
  refine c_seq ?_
  refine c_seq ?_
  refine c_region ?_
  refine o_as st rfl rfl ?_
  refine c_nil ?_
  refine l_then ?_
  refine c_block ?_
  refine c_loop (σ := ((List GSpan) × Int × Int)) (fun ((xs7, t10, t11) : ((List GSpan) × Int × Int)) (a : Act) (w : World) => ∃ (v6 : Value), Has 49 [(0, v1), (1, (.int .i64 top_1)), (5, v6), (6, (.int .i64 t10)), (7, (.int .i64 t11))] a ∧ Mem (gB F [] w0) (feet []) w0 [snapCh w0 F, ownCh elGSpan 71 v6 xs7] w) (fun a w hE hm => ⟨v4, hE.sub ⟨rfl, rfl, rfl, rfl, rfl, trivial⟩, (hm.pick [2, 0] rfl)⟩) ?_
  rintro nx12 ⟨xs7, t10, t11⟩ a w ⟨v6, hE, hm⟩ h
  refine nx_of hE hm h ?_
  clear hE hm h
  refine c_seq ?_
  refine c_seq ?_
  refine c_region ?_
  refine o_mv st rfl rfl ?_
  refine o_mv st rfl rfl ?_
  refine o_len st el72 0 rfl (reads_snap hv1) rfl rfl ?_
  refine o_lss st rfl rfl rfl ?_
  refine c_nil ?_
  refine l_then ?_
  refine c_cond rfl ?_ ?_
  · refine c_skip ?_
    refine l_then ?_
    refine c_seq ?_
    refine c_block ?_
    refine c_join (σ := (List GSpan)) (fun (xs82 : (List GSpan)) (a : Act) (w : World) => ∃ (v83 : Value), Has 49 [(0, v1), (1, (.int .i64 top_1)), (5, v83), (7, (.int .i64 t11))] a ∧ Mem (gB F [] w0) (feet []) w0 [ownCh elGSpan 71 v83 xs82, snapCh w0 F] w) ?_ ?_
    · intro k85
      refine c_seq ?_
      refine c_region ?_
      refine o_mv st rfl rfl ?_
      refine o_mv st rfl rfl ?_
      refine o_mv st rfl rfl ?_
      refine o_idx st 0 rfl (reads_snap hv1) rfl rfl rfl el72 ?_; intro e13 h14
      refine o_fadS st 0 rfl (reads_snap hv1) h14 rfl rfl fld71_0 rfl ?_
      refine o_lds st (enc := encGSpan) (u := (.int .i64 e13.xLo)) 0 rfl (reads_snap hv1) flelGSpan rfl h14 rfl rfl ty3 rfl ?_
      refine o_lss st rfl rfl rfl ?_
      refine c_nil ?_
      refine l_then ?_
      refine c_cond rfl ?_ ?_
      · refine c_region ?_
        refine o_mv st rfl rfl ?_
        refine o_mv st rfl rfl ?_
        refine o_mv st rfl rfl ?_
        refine o_mv st rfl rfl ?_
        refine o_idx st 0 rfl (reads_snap hv1) rfl rfl rfl el72 ?_; intro e15 h16
        refine o_fadS st 0 rfl (reads_snap hv1) h16 rfl rfl fld71_0 rfl ?_
        refine o_lds st (enc := encGSpan) (u := (.int .i64 e15.xLo)) 0 rfl (reads_snap hv1) flelGSpan rfl h16 rfl rfl ty3 rfl ?_
        refine o_sub st rfl rfl rfl ?_; intro t17
        refine o_bld st (qs := [(0, (.int .i64 t10)), (1, (.int .i64 t17))]) (cells := [(.int .i64 t10), (.int .i64 t17)]) (by intro ρ h; simp only [List.map_toArray, List.map_cons, List.map_nil, h (.tmp 23) _ rfl, h (.tmp 29) _ rfl]) rfl bld71 rfl ?_
        refine stw (o_bsl (enc := encGSpan) (qs := [(0, (.agg #[(.int .i64 t10), (.int .i64 t17)]))]) (cells := [(.int .i64 t10), (.int .i64 t17)]) ([(GSpan.mk t10 t17)]) flelGSpan (by intro ρ h; simp only [List.map_toArray, List.map_cons, List.map_nil, h (.tmp 30) _ rfl]) rfl el72 zero71 rfl rfl rfl rfl rfl rfl ?_); intro v18
        refine stw (o_app 2 0 rfl rfl (src_flat flelGSpan reads_own) rfl rfl rfl el72 rfl zero71 rfl rfl ?_); intro v20
        refine o_as st rfl rfl ?_
        refine c_nil ?_
        exact l_join (xs7 ++ ([(GSpan.mk t10 t17)])) (fun a w hE hm => ⟨v20, hE.sub ⟨rfl, rfl, rfl, rfl, trivial⟩, (hm.pick [2, 1] rfl)⟩)
      · refine c_skip ?_
        exact l_join xs7 (fun a w hE hm => ⟨v6, hE.sub ⟨rfl, rfl, rfl, rfl, trivial⟩, (hm.pick [1, 0] rfl)⟩)
    · rintro xs82 a w ⟨v83, hE, hm⟩ h
      refine nx_of hE hm h ?_
      clear hE hm h
      refine c_region ?_
      refine o_mv st rfl rfl ?_
      refine o_mv st rfl rfl ?_
      refine o_idx st 1 rfl (reads_snap hv1) rfl rfl rfl el72 ?_; intro e86 h87
      refine o_fadS st 1 rfl (reads_snap hv1) h87 rfl rfl fld71_1 rfl ?_
      refine o_lds st (enc := encGSpan) (u := (.int .i64 e86.xHi)) 1 rfl (reads_snap hv1) flelGSpan rfl h87 rfl rfl ty3 rfl ?_
      refine o_add st rfl rfl rfl ?_; intro t88
      refine o_as st rfl rfl ?_
      refine c_nil ?_
      refine b_norm ?_
      refine l_then ?_
      refine c_region ?_
      refine o_mv st rfl rfl ?_
      refine o_add st rfl rfl rfl ?_; intro t89
      refine o_as st rfl rfl ?_
      refine c_nil ?_
      exact l_join (xs82, t88, t89) (fun a w hE hm => ⟨v83, hE.sub ⟨rfl, rfl, rfl, rfl, rfl, trivial⟩, (hm.pick [1, 0] rfl)⟩)
  · refine c_exit ?_
    refine l_exit ?_
    refine l_exit ?_
    refine b_exit ?_
    refine l_then ?_
    refine c_join (σ := (List GSpan)) (fun (xs154 : (List GSpan)) (a : Act) (w : World) => ∃ (v155 : Value), Has 49 [(5, v155)] a ∧ Mem (gB F [] w0) (feet []) w0 [ownCh elGSpan 71 v155 xs154] w) ?_ ?_
    · intro k157
      refine c_seq ?_
      refine c_region ?_
      refine o_mv st rfl rfl ?_
      refine o_mv st rfl rfl ?_
      refine o_leq st rfl rfl rfl ?_
      refine c_nil ?_
      refine l_then ?_
      refine c_cond rfl ?_ ?_
      · refine c_region ?_
        refine o_mv st rfl rfl ?_
        refine o_mv st rfl rfl ?_
        refine o_mv st rfl rfl ?_
        refine o_bld st (qs := [(0, (.int .i64 t10)), (1, (.int .i64 top_1))]) (cells := [(.int .i64 t10), (.int .i64 top_1)]) (by intro ρ h; simp only [List.map_toArray, List.map_cons, List.map_nil, h (.tmp 43) _ rfl, h (.tmp 44) _ rfl]) rfl bld71 rfl ?_
        refine stw (o_bsl (enc := encGSpan) (qs := [(0, (.agg #[(.int .i64 t10), (.int .i64 top_1)]))]) (cells := [(.int .i64 t10), (.int .i64 top_1)]) ([(GSpan.mk t10 top_1)]) flelGSpan (by intro ρ h; simp only [List.map_toArray, List.map_cons, List.map_nil, h (.tmp 45) _ rfl]) rfl el72 zero71 rfl rfl rfl rfl rfl rfl ?_); intro v90
        refine stw (o_app 2 0 rfl rfl (src_flat flelGSpan reads_own) rfl rfl rfl el72 rfl zero71 rfl rfl ?_); intro v92
        refine o_as st rfl rfl ?_
        refine c_nil ?_
        exact l_join (xs7 ++ ([(GSpan.mk t10 top_1)])) (fun a w hE hm => ⟨v92, hE.sub ⟨rfl, trivial⟩, (hm.pick [2] rfl)⟩)
      · refine c_skip ?_
        exact l_join xs7 (fun a w hE hm => ⟨v6, hE.sub ⟨rfl, trivial⟩, (hm.pick [1] rfl)⟩)
    · rintro xs154 a w ⟨v155, hE, hm⟩ h
      refine nx_of hE hm h ?_
      clear hE hm h
      refine c_seq ?_
      refine c_region ?_
      refine o_mv st rfl rfl ?_
      refine o_as st rfl rfl ?_
      refine c_nil ?_
      refine l_then ?_
      refine c_ret ?_
      exact l_end1 Tryd.results129 xs154 v155 (rv_t rfl) (fun w m => NewCh.ofB m [0] rfl)

set_option maxRecDepth 100000 in
set_option maxHeartbeats 8000000 in
theorem w_spec_TestSpans {w0 : World} {F : Nat → Prop} {t_0 : GTest} {κ : (List GSpan) → Prop} (hF : ∀ b, F b → b < w0.heap.size ∧ ¬ feet [] b) (h : L_spec_TestSpans t_0 κ) :
    Calls Tryd.prog 116 #[(.agg #[(.int .i64 t_0.xField), (.int .i64 t_0.xLo), (.int .i64 t_0.xHi), (.bool t_0.xNot)])] w0 (Ret [] F w0 κ (fun (r : (List GSpan)) (u : Value) => u) (fun (r : (List GSpan)) (u : Value) => [ownCh elGSpan 71 u r])) := by
  refine enter0 (args := [(.agg #[(.int .i64 t_0.xField), (.int .i64 t_0.xLo), (.int .i64 t_0.xHi), (.bool t_0.xNot)])]) [] hF (Given.nil _ _) Tryd.func116 rfl Tryd.ntmps116 rfl h ?_
  clear h hF
  refine c_seq ?_
  refine c_region ?_
  refine stw (o_box rfl rfl [(.int .i64 t_0.xField), (.int .i64 t_0.xLo), (.int .i64 t_0.xHi), (.bool t_0.xNot)] rfl ?_); intro b1
  refine stw (o_asn elGSpan 71 rfl rfl ?_)
  refine c_nil ?_
  refine l_then ?_
  refine c_seq ?_
  refine c_seq ?_
  refine c_region ?_
  refine o_ldc st (v := (.agg #[(.int .i64 t_0.xField), (.int .i64 t_0.xLo), (.int .i64 t_0.xHi), (.bool t_0.xNot)])) 1 rfl rfl rfl ty125 rfl ?_
  refine stw (o_callP (vs := [(.agg #[(.int .i64 t_0.xField), (.int .i64 t_0.xLo), (.int .i64 t_0.xHi), (.bool t_0.xNot)])]) Tryd.call128 rfl rfl (by intro w m h; exact (w_spec_TestValid (F := allB [] w) (t_0 := t_0) allB_ok h).mono (fun _ _ k => ret_free (fun r u => fr_nil) k)) ?_); rintro r4 _
  refine o_not st rfl rfl ?_
  refine c_nil ?_
  refine l_then ?_
  refine c_cond rfl ?_ ?_
  · refine c_seq ?_
    refine c_region ?_
    refine stw (o_bsl (enc := encGSpan) (qs := []) (cells := []) ([] : (List GSpan)) flelGSpan (by intro ρ h; simp only [List.map_toArray, List.map_cons, List.map_nil]) rfl el72 zero71 rfl rfl rfl rfl rfl rfl ?_); intro v5
    refine o_as st rfl rfl ?_
    refine c_nil ?_
    refine l_then ?_
    refine c_ret ?_
    refine l_ret ?_
    exact l_end1 Tryd.results116 ([]) v5 (rv_t rfl) (fun w m => NewCh.ofB m [0] rfl)
  · refine c_skip ?_
    refine l_then ?_
    refine c_seq ?_
    refine c_region ?_
    refine o_fad st rfl rfl fld125_1 rfl ?_
    refine o_ldc st (v := (.int .i64 t_0.xLo)) 1 rfl rfl rfl ty3 rfl ?_
    refine o_fad st rfl rfl fld125_2 rfl ?_
    refine o_ldc st (v := (.int .i64 t_0.xHi)) 1 rfl rfl rfl ty3 rfl ?_
    refine o_bld st (qs := [(0, (.int .i64 t_0.xLo)), (1, (.int .i64 t_0.xHi))]) (cells := [(.int .i64 t_0.xLo), (.int .i64 t_0.xHi)]) (by intro ρ h; simp only [List.map_toArray, List.map_cons, List.map_nil, h (.tmp 9) _ rfl, h (.tmp 11) _ rfl]) rfl bld71 rfl ?_
    refine stw (o_bsl (enc := encGSpan) (qs := [(0, (.agg #[(.int .i64 t_0.xLo), (.int .i64 t_0.xHi)]))]) (cells := [(.int .i64 t_0.xLo), (.int .i64 t_0.xHi)]) ([(GSpan.mk t_0.xLo t_0.xHi)]) flelGSpan (by intro ρ h; simp only [List.map_toArray, List.map_cons, List.map_nil, h (.tmp 12) _ rfl]) rfl el72 zero71 rfl rfl rfl rfl rfl rfl ?_); intro v7
    refine o_as st rfl rfl ?_
    refine c_nil ?_
    refine l_then ?_
    refine c_seq ?_
    refine c_seq ?_
    refine c_region ?_
    refine o_fad st rfl rfl fld125_3 rfl ?_
    refine o_ldc st (v := (.bool t_0.xNot)) 2 rfl rfl rfl ty4 rfl ?_
    refine c_nil ?_
    refine l_then ?_
    refine c_cond rfl ?_ ?_
    · refine c_seq ?_
      refine c_region ?_
      refine o_mv st rfl rfl ?_
      refine o_fad st rfl rfl fld125_0 rfl ?_
      refine o_ldc st (v := (.int .i64 t_0.xField)) 2 rfl rfl rfl ty3 rfl ?_
      refine stw (o_callP (vs := [(.int .i64 t_0.xField)]) Tryd.call63 rfl rfl (by intro w m h; exact (w_spec_FieldTop (F := allB [] w) (n_0 := t_0.xField) allB_ok h).mono (fun _ _ k => ret_free (fun r u => fr_nil) k)) ?_); rintro r9 _
      refine stw (o_callP (vs := [v7, (.int .i64 r9)]) Tryd.call129 rfl rfl (by intro w m h; exact (w_spec_l2Other (F := allB [] w) (a_0 := ([(GSpan.mk t_0.xLo t_0.xHi)])) (top_1 := r9) allB_ok (m.rd0 0 rfl reads_own) h).mono (fun _ _ k => ret_free (fun r u => (fr_cons (free_own flelGSpan) fr_nil)) k)) ?_); rintro r10 v11
      refine o_as st rfl rfl ?_
      refine c_nil ?_
      refine l_then ?_
      refine c_ret ?_
      refine l_ret ?_
      exact l_end1 Tryd.results116 r10 v11 (rv_t rfl) (fun w m => NewCh.ofB m [0] rfl)
    · refine c_skip ?_
      refine l_then ?_
      refine c_seq ?_
      refine c_region ?_
      refine o_mv st rfl rfl ?_
      refine o_as st rfl rfl ?_
      refine c_nil ?_
      refine l_then ?_
      refine c_ret ?_
      exact l_end1 Tryd.results116 ([(GSpan.mk t_0.xLo t_0.xHi)]) v7 (rv_t rfl) (fun w m => NewCh.ofB m [0] rfl)



end
section
open Go.RowKit
set_option maxRecDepth 100000 in
set_option maxHeartbeats 8000000 in
theorem w_spec_TestsBox {w0 : World} {F : Nat → Prop} {v1 : Value} {list_0 : (List GTest)} {κ : GBox → Prop} (hF : ∀ b, F b → b < w0.heap.size ∧ ¬ feet [] b) (hv1 : Sl elGTest F w0 v1 list_0) (h : L_spec_TestsBox list_0 κ) :
    Calls Tryd.prog 93 #[v1] w0 (Ret [] F w0 κ (fun (r : GBox) (u : Value) => (.agg #[u])) (fun (r : GBox) (u : Value) => [ownCh (elSl elGSpan) 72 u r.xSides])) := by
  refine enterS (args := [v1]) [] hF (Given.nil _ _) Tryd.func93 rfl Tryd.ntmps93 rfl h ?_
  clear h hF
  refine c_seq ?_
  refine c_region ?_
  refine stw (o_alloc rfl [(.slice none 0 0)] zero85 ?_); intro b3
  refine c_nil ?_
  refine l_then ?_
  refine c_seq ?_
  refine c_seq ?_
  refine c_region ?_
  refine o_mv st rfl rfl ?_
  refine stw (o_callP (vs := [v1]) Tryd.call114 rfl rfl (by intro w m h; exact (w_spec_TestsValid (F := allB [] w) (list_0 := list_0) allB_ok (m.rd0 1 rfl (reads_snap hv1)) h).mono (fun _ _ k => ret_free (fun r u => fr_nil) k)) ?_); rintro r5 _
  refine o_not st rfl rfl ?_
  refine c_nil ?_
  refine l_then ?_
  refine c_cond rfl ?_ ?_
  · refine c_seq ?_
    refine c_region ?_
    refine o_bld st (qs := []) (cells := [(.slice none 0 0)]) (by intro ρ h; simp only [List.map_toArray, List.map_cons, List.map_nil]) rfl bld85 rfl ?_
    refine stw (o_stc (cs' := [(.slice none 0 0)]) 0 rfl rfl rfl ty85 rfl rfl rfl rfl ?_)
    refine c_nil ?_
    refine l_then ?_
    refine c_ret ?_
    refine l_ret ?_
    refine nx_nil (elSl elGSpan) 72 ?_
    exact l_end1 Tryd.results93 (GBox.mk ([])) (.slice none 0 0) (rv_c 1 rfl rfl ty85 rfl) (fun w m => NewCh.ofB m [0] rfl)
  · refine c_skip ?_
    refine l_then ?_
    refine c_seq ?_
    refine c_region ?_
    refine stw (o_callP (vs := []) Tryd.call65 rfl rfl (by intro w m h; exact (w_spec_BoxAll (F := allB [] w) allB_ok h).mono (fun _ _ k => ret_free (fun r u => (fr_cons free_dp fr_nil)) k)) ?_); rintro r7 ⟨v8, bb9⟩
    refine stw (o_alloc rfl [(.slice none 0 0)] zero85 ?_); intro b11
    refine nx_dp 1 rfl ?_; rintro a13 l14 q15 rfl
    refine stw (o_stc (cs' := [(.slice a13 l14 q15)]) 0 rfl rfl rfl ty85 rfl rfl rfl rfl ?_)
    refine c_nil ?_
    refine l_then ?_
    refine c_seq ?_
    refine c_seq ?_
    refine c_region ?_
    refine o_as st rfl rfl ?_
    refine c_nil ?_
    refine l_then ?_
    refine c_block ?_
    refine c_loop (σ := ((List (List GSpan)) × Int)) (fun ((xs17, t20) : ((List (List GSpan)) × Int)) (a : Act) (w : World) => ∃ (v16 : Value), Has 38 [(0, v1), (2, (.pointer (some ⟨b3, 0, none⟩))), (3, (.pointer (some ⟨b11, 0, none⟩))), (4, (.int .i64 t20))] a ∧ Mem (gB F [] w0) (feet []) w0 [cellCh b11 [v16] 85, cellCh b3 [(.slice none 0 0)] 85, snapCh w0 F, ownCh (elSl elGSpan) 72 v16 xs17] w) (fun a w hE hm => ⟨(.slice a13 l14 q15), hE.sub ⟨rfl, rfl, rfl, rfl, trivial⟩, ((hm.undp 1 rfl).pick [0, 2, 3, 1] rfl)⟩) ?_
    rintro nx21 ⟨xs17, t20⟩ a w ⟨v16, hE, hm⟩ h
    refine nx_of hE hm h ?_
    clear hE hm h
    refine c_seq ?_
    refine c_seq ?_
    refine c_region ?_
    refine o_mv st rfl rfl ?_
    refine o_mv st rfl rfl ?_
    refine o_len st el80 2 rfl (reads_snap hv1) rfl rfl ?_
    refine o_lss st rfl rfl rfl ?_
    refine c_nil ?_
    refine l_then ?_
    refine c_cond rfl ?_ ?_
    · refine c_skip ?_
      refine l_then ?_
      refine c_seq ?_
      refine c_block ?_
      refine c_seq ?_
      refine c_region ?_
      refine o_mv st rfl rfl ?_
      refine o_mv st rfl rfl ?_
      refine o_idx st 2 rfl (reads_snap hv1) rfl rfl rfl el80 ?_; intro e22 h23
      refine o_fadS st 2 rfl (reads_snap hv1) h23 rfl rfl fld125_0 rfl ?_
      refine o_lds st (enc := encGTest) (u := (.int .i64 e22.xField)) 2 rfl (reads_snap hv1) flelGTest rfl h23 rfl rfl ty3 rfl ?_
      refine o_as st rfl rfl ?_
      refine c_nil ?_
      refine l_then ?_
      refine nx_own 3 rfl ?_; rintro a24 l25 q26 rfl
      refine c_join1 (σ := (List (List GSpan))) (fun (xs27 : (List (List GSpan))) (a : Act) (w : World) => Has 38 [(0, v1), (2, (.pointer (some ⟨b3, 0, none⟩))), (3, (.pointer (some ⟨b11, 0, none⟩))), (4, (.int .i64 t20))] a ∧ Mem (gB F [] w0) (feet []) w0 [cellCh b11 [(.slice a24 l25 q26)] 85, cellCh b3 [(.slice none 0 0)] 85, ownCh (elSl elGSpan) 72 (.slice a24 l25 q26) xs27, snapCh w0 F] w) ?_ ?_
      · intro k29
        refine c_drawQ mixed 16 rfl [cellCh b11 [(.slice a24 l25 q26)] 85, cellCh b3 [(.slice none 0 0)] 85, snapCh w0 F] ?_
        intro Qd hP hQ
        have H499 : ∀ (e30 : GTest) (h31 : list_0[(t20).toNat]? = some e30) (e32 : (List GSpan)) (h33 : xs17[(e22.xField).toNat]? = some e32) (wr34 : World) (ff35 : Nat → Prop) (v36 : Value) (sl37 : Sl elGSpan ff35 wr34 v36 e32) (r38 : (List GSpan)) (v39 : Value) (r40 : (List GSpan)) (a44 : Option Addr) (l45 : Nat) (q46 : Nat) (e42 : (List GSpan)) (h43 : xs17[(e22.xField).toNat]? = some e42), Nx 38 (gB F [] w0) (feet []) w0 (wpAnyH Tryd.prog .any (opsAt Tryd.f93 [1, 1, 1, 0, 1, 0, 0, 1, 0, 0, 1]) Qd (Mem (gB F [] w0) (feet []) w0 [cellCh b11 [(.slice a24 l25 q26)] 85, cellCh b3 [(.slice none 0 0)] 85, snapCh w0 F]) 0 #[true, true, true, true, true, true, true, true, true, true, true, true, true, true, true, true]) [(0, v1), (2, (.pointer (some ⟨b3, 0, none⟩))), (3, (.pointer (some ⟨b11, 0, none⟩))), (4, (.int .i64 t20))] [cellCh b11 [(.slice a24 l25 q26)] 85, cellCh b3 [(.slice none 0 0)] 85, snapCh w0 F, ownCh (elSl elGSpan) 72 (.slice a24 l25 q26) (xs17.set (e22.xField).toNat r40)] (k29 (xs17.set (e22.xField).toNat r40)) := by
          intro e30 h31 e32 h33 wr34 ff35 v36 sl37 r38 v39 r40 a44 l45 q46 e42 h43
          refine d_done (by kernel_rfl) ?_
          exact fun a w hE hm hφ => hQ (xs17.set (e22.xField).toNat r40) a w hφ ((fun a w hE hm => ⟨hE.sub ⟨rfl, rfl, rfl, rfl, trivial⟩, (hm.pick [0, 1, 3, 2] rfl)⟩) a w hE hm)
        have H500 : ∀ (e30 : GTest) (h31 : list_0[(t20).toNat]? = some e30) (e32 : (List GSpan)) (h33 : xs17[(e22.xField).toNat]? = some e32) (wr34 : World) (ff35 : Nat → Prop) (v36 : Value) (sl37 : Sl elGSpan ff35 wr34 v36 e32) (r38 : (List GSpan)) (v39 : Value) (r40 : (List GSpan)) (v41 : Value) (e42 : (List GSpan)) (h43 : xs17[(e22.xField).toNat]? = some e42), Nx 38 (gB F [] w0) (feet []) w0 (wpAnyH Tryd.prog .any (opsAt Tryd.f93 [1, 1, 1, 0, 1, 0, 0, 1, 0, 0, 1]) Qd (Mem (gB F [] w0) (feet []) w0 [cellCh b11 [(.slice a24 l25 q26)] 85, cellCh b3 [(.slice none 0 0)] 85, snapCh w0 F]) 1 #[true, true, true, true, true, true, true, true, true, true, true, true, true, true, true, false]) [(0, v1), (2, (.pointer (some ⟨b3, 0, none⟩))), (3, (.pointer (some ⟨b11, 0, none⟩))), (4, (.int .i64 t20)), (35, v41), (36, (pEl (.slice a24 l25 q26) e22.xField 1 0))] [ownCh elGSpan 71 v41 r40, cellCh b11 [(.slice a24 l25 q26)] 85, cellCh b3 [(.slice none 0 0)] 85, snapCh w0 F, ownCh (elSl elGSpan) 72 (.slice a24 l25 q26) xs17] (k29 (xs17.set (e22.xField).toNat r40)) := by
          intro e30 h31 e32 h33 wr34 ff35 v36 sl37 r38 v39 r40 v41 e42 h43
          refine nx_own 0 rfl ?_; rintro a44 l45 q46 rfl
          refine frz 0 rfl reads_own ?_
          refine d_one (i := 15) rfl (by kernel_rfl) (o_stsN (El' := (elSl elGSpan)) (y' := r40) 4 rfl rfl h43 (fun w cs m h => by obtain ⟨u0_, rfl, s0_⟩ := h; exact ⟨(.slice a44 l45 q46), rfl, (m.ro 0 rfl)⟩) ty72 rfl rfl rfl rfl rfl ?_)
          refine d_and (fun w m => m.pick [1, 2, 3] rfl) ?_
          refine pk [1, 2, 3, 4] rfl ?_
          refine re (E' := [(0, v1), (2, (.pointer (some ⟨b3, 0, none⟩))), (3, (.pointer (some ⟨b11, 0, none⟩))), (4, (.int .i64 t20))]) ⟨rfl, rfl, rfl, rfl, trivial⟩ ?_
          exact H499 e30 h31 e32 h33 wr34 ff35 v36 sl37 r38 v39 r40 a44 l45 q46 e42 h43
        have H501 : ∀ (e30 : GTest) (h31 : list_0[(t20).toNat]? = some e30) (e32 : (List GSpan)) (h33 : xs17[(e22.xField).toNat]? = some e32) (wr34 : World) (ff35 : Nat → Prop) (v36 : Value) (sl37 : Sl elGSpan ff35 wr34 v36 e32) (r38 : (List GSpan)) (v39 : Value) (r40 : (List GSpan)) (v41 : Value), Nx 38 (gB F [] w0) (feet []) w0 (wpAnyH Tryd.prog .any (opsAt Tryd.f93 [1, 1, 1, 0, 1, 0, 0, 1, 0, 0, 1]) Qd (Mem (gB F [] w0) (feet []) w0 [cellCh b11 [(.slice a24 l25 q26)] 85, cellCh b3 [(.slice none 0 0)] 85, snapCh w0 F]) 2 #[true, true, true, true, true, true, true, true, true, true, true, true, true, true, false, false]) [(0, v1), (2, (.pointer (some ⟨b3, 0, none⟩))), (3, (.pointer (some ⟨b11, 0, none⟩))), (4, (.int .i64 t20)), (23, (.slice a24 l25 q26)), (24, (.int .i64 e22.xField)), (35, v41)] [ownCh elGSpan 71 v41 r40, cellCh b11 [(.slice a24 l25 q26)] 85, cellCh b3 [(.slice none 0 0)] 85, snapCh w0 F, ownCh (elSl elGSpan) 72 (.slice a24 l25 q26) xs17] (idxW xs17 e22.xField (fun e42 => k29 (xs17.set (e22.xField).toNat r40))) := by
          intro e30 h31 e32 h33 wr34 ff35 v36 sl37 r38 v39 r40 v41
          refine d_one (i := 14) rfl (by kernel_rfl) (o_idx m_op 4 rfl reads_own rfl rfl rfl el83 ?_); intro e42 h43
          refine d_and (fun w m => m.pick [1, 2, 3] rfl) ?_
          refine pk [0, 1, 2, 3, 4] rfl ?_
          refine re (E' := [(0, v1), (2, (.pointer (some ⟨b3, 0, none⟩))), (3, (.pointer (some ⟨b11, 0, none⟩))), (4, (.int .i64 t20)), (35, v41), (36, (pEl (.slice a24 l25 q26) e22.xField 1 0))]) ⟨rfl, rfl, rfl, rfl, rfl, rfl, trivial⟩ ?_
          exact H500 e30 h31 e32 h33 wr34 ff35 v36 sl37 r38 v39 r40 v41 e42 h43
        have H502 : ∀ (e30 : GTest) (h31 : list_0[(t20).toNat]? = some e30) (e32 : (List GSpan)) (h33 : xs17[(e22.xField).toNat]? = some e32) (wr34 : World) (ff35 : Nat → Prop) (v36 : Value) (sl37 : Sl elGSpan ff35 wr34 v36 e32) (r38 : (List GSpan)) (v39 : Value), Nx 38 (gB F [] w0) (feet []) w0 (wpAnyH Tryd.prog .any (opsAt Tryd.f93 [1, 1, 1, 0, 1, 0, 0, 1, 0, 0, 1]) Qd (Mem (gB F [] w0) (feet []) w0 [cellCh b11 [(.slice a24 l25 q26)] 85, cellCh b3 [(.slice none 0 0)] 85, snapCh w0 F]) 3 #[true, true, true, true, true, true, true, true, true, true, true, true, true, false, false, false]) [(0, v1), (2, (.pointer (some ⟨b3, 0, none⟩))), (3, (.pointer (some ⟨b11, 0, none⟩))), (4, (.int .i64 t20)), (23, (.slice a24 l25 q26)), (24, (.int .i64 e22.xField)), (29, v36), (34, v39)] [ownCh elGSpan 71 v39 r38, snapCh wr34 ff35, cellCh b11 [(.slice a24 l25 q26)] 85, cellCh b3 [(.slice none 0 0)] 85, snapCh w0 F, ownCh (elSl elGSpan) 72 (.slice a24 l25 q26) xs17] (L_spec_l2Meet e32 r38 (fun r40 => idxW xs17 e22.xField (fun e42 => k29 (xs17.set (e22.xField).toNat r40)))) := by
          intro e30 h31 e32 h33 wr34 ff35 v36 sl37 r38 v39
          refine d_one (i := 13) rfl (by kernel_rfl) (o_callP (vs := [v36, v39]) Tryd.call115 rfl rfl (by intro w m h; exact (w_spec_l2Meet (F := allB [] w) (a_0 := e32) (b_1 := r38) allB_ok (m.rd0 1 rfl (reads_snap sl37)) (m.rd0 0 rfl reads_own) h).mono (fun _ _ k => ret_free (fun r u => (fr_cons (free_own flelGSpan) fr_nil)) k)) ?_); rintro r40 v41
          refine d_and (fun w m => m.pick [3, 4, 5] rfl) ?_
          refine pk [0, 3, 4, 5, 6] rfl ?_
          refine re (E' := [(0, v1), (2, (.pointer (some ⟨b3, 0, none⟩))), (3, (.pointer (some ⟨b11, 0, none⟩))), (4, (.int .i64 t20)), (23, (.slice a24 l25 q26)), (24, (.int .i64 e22.xField)), (35, v41)]) ⟨rfl, rfl, rfl, rfl, rfl, rfl, rfl, trivial⟩ ?_
          exact H501 e30 h31 e32 h33 wr34 ff35 v36 sl37 r38 v39 r40 v41
        have H503 : ∀ (e30 : GTest) (h31 : list_0[(t20).toNat]? = some e30) (e32 : (List GSpan)) (h33 : xs17[(e22.xField).toNat]? = some e32) (wr34 : World) (ff35 : Nat → Prop) (v36 : Value) (sl37 : Sl elGSpan ff35 wr34 v36 e32), Nx 38 (gB F [] w0) (feet []) w0 (wpAnyH Tryd.prog .any (opsAt Tryd.f93 [1, 1, 1, 0, 1, 0, 0, 1, 0, 0, 1]) Qd (Mem (gB F [] w0) (feet []) w0 [cellCh b11 [(.slice a24 l25 q26)] 85, cellCh b3 [(.slice none 0 0)] 85, snapCh w0 F]) 4 #[true, true, true, true, true, true, true, true, true, true, true, true, false, false, false, false]) [(0, v1), (2, (.pointer (some ⟨b3, 0, none⟩))), (3, (.pointer (some ⟨b11, 0, none⟩))), (4, (.int .i64 t20)), (23, (.slice a24 l25 q26)), (24, (.int .i64 e22.xField)), (33, (.agg #[(.int .i64 e30.xField), (.int .i64 e30.xLo), (.int .i64 e30.xHi), (.bool e30.xNot)])), (29, v36)] [snapCh wr34 ff35, cellCh b11 [(.slice a24 l25 q26)] 85, cellCh b3 [(.slice none 0 0)] 85, snapCh w0 F, ownCh (elSl elGSpan) 72 (.slice a24 l25 q26) xs17] (L_spec_TestSpans e30 (fun r38 => L_spec_l2Meet e32 r38 (fun r40 => idxW xs17 e22.xField (fun e42 => k29 (xs17.set (e22.xField).toNat r40))))) := by
          intro e30 h31 e32 h33 wr34 ff35 v36 sl37
          refine d_one (i := 12) rfl (by kernel_rfl) (o_callP (vs := [(.agg #[(.int .i64 e30.xField), (.int .i64 e30.xLo), (.int .i64 e30.xHi), (.bool e30.xNot)])]) Tryd.call116 rfl rfl (by intro w m h; exact (w_spec_TestSpans (F := allB [] w) (t_0 := e30) allB_ok h).mono (fun _ _ k => ret_free (fun r u => (fr_cons (free_own flelGSpan) fr_nil)) k)) ?_); rintro r38 v39
          refine d_and (fun w m => m.pick [2, 3, 4] rfl) ?_
          refine pk [0, 1, 2, 3, 4, 5] rfl ?_
          refine re (E' := [(0, v1), (2, (.pointer (some ⟨b3, 0, none⟩))), (3, (.pointer (some ⟨b11, 0, none⟩))), (4, (.int .i64 t20)), (23, (.slice a24 l25 q26)), (24, (.int .i64 e22.xField)), (29, v36), (34, v39)]) ⟨rfl, rfl, rfl, rfl, rfl, rfl, rfl, rfl, trivial⟩ ?_
          exact H502 e30 h31 e32 h33 wr34 ff35 v36 sl37 r38 v39
        have H504 : ∀ (e30 : GTest) (h31 : list_0[(t20).toNat]? = some e30) (e32 : (List GSpan)) (h33 : xs17[(e22.xField).toNat]? = some e32) (r48 : (List GSpan)) (v49 : Value), Nx 38 (gB F [] w0) (feet []) w0 (wpAnyH Tryd.prog .any (opsAt Tryd.f93 [1, 1, 1, 0, 1, 0, 0, 1, 0, 0, 1]) Qd (Mem (gB F [] w0) (feet []) w0 [cellCh b11 [(.slice a24 l25 q26)] 85, cellCh b3 [(.slice none 0 0)] 85, snapCh w0 F]) 4 #[true, true, true, true, true, true, true, false, true, true, true, true, true, false, false, false]) [(0, v1), (2, (.pointer (some ⟨b3, 0, none⟩))), (3, (.pointer (some ⟨b11, 0, none⟩))), (4, (.int .i64 t20)), (23, (.slice a24 l25 q26)), (24, (.int .i64 e22.xField)), (28, (pEl (.slice a24 l25 q26) e22.xField 1 0)), (34, v49)] [ownCh elGSpan 71 v49 r48, cellCh b11 [(.slice a24 l25 q26)] 85, cellCh b3 [(.slice none 0 0)] 85, snapCh w0 F, ownCh (elSl elGSpan) 72 (.slice a24 l25 q26) xs17] (L_spec_l2Meet e32 r48 (fun r40 => idxW xs17 e22.xField (fun e42 => k29 (xs17.set (e22.xField).toNat r40)))) := by
          intro e30 h31 e32 h33 r48 v49
          refine d_one (i := 7) rfl (by kernel_rfl) (o_ldE 4 rfl src_own h33 rfl rfl ty72 ?_); rintro wr50 ff51 _ ⟨v52, rfl, sl53⟩; refine ⟨v52, rfl, ?_⟩
          refine d_and (fun w m => m.pick [2, 3, 4] rfl) ?_
          refine pk [1, 0, 2, 3, 4, 5] rfl ?_
          refine re (E' := [(0, v1), (2, (.pointer (some ⟨b3, 0, none⟩))), (3, (.pointer (some ⟨b11, 0, none⟩))), (4, (.int .i64 t20)), (23, (.slice a24 l25 q26)), (24, (.int .i64 e22.xField)), (29, v52), (34, v49)]) ⟨rfl, rfl, rfl, rfl, rfl, rfl, rfl, rfl, trivial⟩ ?_
          exact H502 e30 h31 e32 h33 wr50 ff51 v52 sl53 r48 v49
        have H505 : ∀ (e30 : GTest) (h31 : list_0[(t20).toNat]? = some e30) (e32 : (List GSpan)) (h33 : xs17[(e22.xField).toNat]? = some e32), Nx 38 (gB F [] w0) (feet []) w0 (wpAnyH Tryd.prog .any (opsAt Tryd.f93 [1, 1, 1, 0, 1, 0, 0, 1, 0, 0, 1]) Qd (Mem (gB F [] w0) (feet []) w0 [cellCh b11 [(.slice a24 l25 q26)] 85, cellCh b3 [(.slice none 0 0)] 85, snapCh w0 F]) 5 #[true, true, true, true, true, true, true, false, true, true, true, true, false, false, false, false]) [(0, v1), (2, (.pointer (some ⟨b3, 0, none⟩))), (3, (.pointer (some ⟨b11, 0, none⟩))), (4, (.int .i64 t20)), (23, (.slice a24 l25 q26)), (24, (.int .i64 e22.xField)), (33, (.agg #[(.int .i64 e30.xField), (.int .i64 e30.xLo), (.int .i64 e30.xHi), (.bool e30.xNot)])), (28, (pEl (.slice a24 l25 q26) e22.xField 1 0))] [cellCh b11 [(.slice a24 l25 q26)] 85, cellCh b3 [(.slice none 0 0)] 85, snapCh w0 F, ownCh (elSl elGSpan) 72 (.slice a24 l25 q26) xs17] (L_spec_TestSpans e30 (fun r38 => L_spec_l2Meet e32 r38 (fun r40 => idxW xs17 e22.xField (fun e42 => k29 (xs17.set (e22.xField).toNat r40))))) := by
          intro e30 h31 e32 h33
          refine d_two (i := 7) (j := 12) rfl rfl (by kernel_rfl) ?_ ?_
          · intro o ho; cases ho
            refine o_ldE 3 rfl src_own h33 rfl rfl ty72 ?_; rintro wr34 ff35 _ ⟨v36, rfl, sl37⟩; refine ⟨v36, rfl, ?_⟩
            refine d_and (fun w m => m.pick [1, 2, 3] rfl) ?_
            refine pk [0, 1, 2, 3, 4] rfl ?_
            refine re (E' := [(0, v1), (2, (.pointer (some ⟨b3, 0, none⟩))), (3, (.pointer (some ⟨b11, 0, none⟩))), (4, (.int .i64 t20)), (23, (.slice a24 l25 q26)), (24, (.int .i64 e22.xField)), (33, (.agg #[(.int .i64 e30.xField), (.int .i64 e30.xLo), (.int .i64 e30.xHi), (.bool e30.xNot)])), (29, v36)]) ⟨rfl, rfl, rfl, rfl, rfl, rfl, rfl, rfl, trivial⟩ ?_
            exact H503 e30 h31 e32 h33 wr34 ff35 v36 sl37
          · intro o ho; cases ho
            refine o_callP (vs := [(.agg #[(.int .i64 e30.xField), (.int .i64 e30.xLo), (.int .i64 e30.xHi), (.bool e30.xNot)])]) Tryd.call116 rfl rfl (by intro w m h; exact (w_spec_TestSpans (F := allB [] w) (t_0 := e30) allB_ok h).mono (fun _ _ k => ret_free (fun r u => (fr_cons (free_own flelGSpan) fr_nil)) k)) ?_; rintro r48 v49
            refine d_and (fun w m => m.pick [1, 2, 3] rfl) ?_
            refine pk [0, 1, 2, 3, 4] rfl ?_
            refine re (E' := [(0, v1), (2, (.pointer (some ⟨b3, 0, none⟩))), (3, (.pointer (some ⟨b11, 0, none⟩))), (4, (.int .i64 t20)), (23, (.slice a24 l25 q26)), (24, (.int .i64 e22.xField)), (28, (pEl (.slice a24 l25 q26) e22.xField 1 0)), (34, v49)]) ⟨rfl, rfl, rfl, rfl, rfl, rfl, rfl, rfl, trivial⟩ ?_
            exact H504 e30 h31 e32 h33 r48 v49
        have H506 : ∀ (e30 : GTest) (h31 : list_0[(t20).toNat]? = some e30) (r54 : (List GSpan)) (v55 : Value), Nx 38 (gB F [] w0) (feet []) w0 (wpAnyH Tryd.prog .any (opsAt Tryd.f93 [1, 1, 1, 0, 1, 0, 0, 1, 0, 0, 1]) Qd (Mem (gB F [] w0) (feet []) w0 [cellCh b11 [(.slice a24 l25 q26)] 85, cellCh b3 [(.slice none 0 0)] 85, snapCh w0 F]) 5 #[true, true, true, true, true, true, false, false, true, true, true, true, true, false, false, false]) [(0, v1), (2, (.pointer (some ⟨b3, 0, none⟩))), (3, (.pointer (some ⟨b11, 0, none⟩))), (4, (.int .i64 t20)), (23, (.slice a24 l25 q26)), (24, (.int .i64 e22.xField)), (26, (.slice a24 l25 q26)), (27, (.int .i64 e22.xField)), (34, v55)] [ownCh elGSpan 71 v55 r54, cellCh b11 [(.slice a24 l25 q26)] 85, cellCh b3 [(.slice none 0 0)] 85, snapCh w0 F, ownCh (elSl elGSpan) 72 (.slice a24 l25 q26) xs17] (idxW xs17 e22.xField (fun e56 => L_spec_l2Meet e56 r54 (fun r40 => idxW xs17 e22.xField (fun e42 => k29 (xs17.set (e22.xField).toNat r40))))) := by
          intro e30 h31 r54 v55
          refine d_one (i := 6) rfl (by kernel_rfl) (o_idx m_op 4 rfl reads_own rfl rfl rfl el83 ?_); intro e56 h57
          refine d_and (fun w m => m.pick [1, 2, 3] rfl) ?_
          refine pk [0, 1, 2, 3, 4] rfl ?_
          refine re (E' := [(0, v1), (2, (.pointer (some ⟨b3, 0, none⟩))), (3, (.pointer (some ⟨b11, 0, none⟩))), (4, (.int .i64 t20)), (23, (.slice a24 l25 q26)), (24, (.int .i64 e22.xField)), (28, (pEl (.slice a24 l25 q26) e22.xField 1 0)), (34, v55)]) ⟨rfl, rfl, rfl, rfl, rfl, rfl, rfl, rfl, trivial⟩ ?_
          exact H504 e30 h31 e56 h57 r54 v55
        refine o_fad (dt 0 (fun w m => m.pick [0, 1, 2] rfl)) rfl rfl fld85_0 rfl ?_
        refine o_ldc (dt 1 (fun w m => m.pick [0, 1, 2] rfl)) (v := (.slice a24 l25 q26)) 0 rfl rfl rfl ty83 rfl ?_
        refine o_mv (dt 2 (fun w m => m.pick [0, 1, 2] rfl)) rfl rfl ?_
        refine o_fad (dt 3 (fun w m => m.pick [0, 1, 2] rfl)) rfl rfl fld85_0 rfl ?_
        refine o_ldc (dt 4 (fun w m => m.pick [0, 1, 2] rfl)) (v := (.slice a24 l25 q26)) 0 rfl rfl rfl ty83 rfl ?_
        refine o_mv (dt 5 (fun w m => m.pick [0, 1, 2] rfl)) rfl rfl ?_
        refine o_mv (dt 8 (fun w m => m.pick [0, 1, 2] rfl)) rfl rfl ?_
        refine o_mv (dt 9 (fun w m => m.pick [0, 1, 2] rfl)) rfl rfl ?_
        refine o_idx (dt 10 (fun w m => m.pick [0, 1, 2] rfl)) 2 rfl (reads_snap hv1) rfl rfl rfl el80 ?_; intro e30 h31
        refine o_lds (dt 11 (fun w m => m.pick [0, 1, 2] rfl)) (enc := encGTest) (u := (.agg #[(.int .i64 e30.xField), (.int .i64 e30.xLo), (.int .i64 e30.xHi), (.bool e30.xNot)])) 2 rfl (reads_snap hv1) flelGTest rfl h31 rfl rfl ty125 rfl ?_
        refine d_two (i := 6) (j := 12) rfl rfl (by kernel_rfl) ?_ ?_
        · intro o ho; cases ho
          refine nx_l ?_
          refine o_idx m_op 3 rfl reads_own rfl rfl rfl el83 ?_; intro e32 h33
          refine d_and (fun w m => m.pick [0, 1, 2] rfl) ?_
          refine pk [0, 1, 2, 3] rfl ?_
          refine re (E' := [(0, v1), (2, (.pointer (some ⟨b3, 0, none⟩))), (3, (.pointer (some ⟨b11, 0, none⟩))), (4, (.int .i64 t20)), (23, (.slice a24 l25 q26)), (24, (.int .i64 e22.xField)), (33, (.agg #[(.int .i64 e30.xField), (.int .i64 e30.xLo), (.int .i64 e30.xHi), (.bool e30.xNot)])), (28, (pEl (.slice a24 l25 q26) e22.xField 1 0))]) ⟨rfl, rfl, rfl, rfl, rfl, rfl, rfl, rfl, trivial⟩ ?_
          exact H505 e30 h31 e32 h33
        · intro o ho; cases ho
          refine nx_r ?_
          refine o_callP (vs := [(.agg #[(.int .i64 e30.xField), (.int .i64 e30.xLo), (.int .i64 e30.xHi), (.bool e30.xNot)])]) Tryd.call116 rfl rfl (by intro w m h; exact (w_spec_TestSpans (F := allB [] w) (t_0 := e30) allB_ok h).mono (fun _ _ k => ret_free (fun r u => (fr_cons (free_own flelGSpan) fr_nil)) k)) ?_; rintro r54 v55
          refine d_and (fun w m => m.pick [1, 2, 3] rfl) ?_
          refine pk [0, 1, 2, 3, 4] rfl ?_
          refine re (E' := [(0, v1), (2, (.pointer (some ⟨b3, 0, none⟩))), (3, (.pointer (some ⟨b11, 0, none⟩))), (4, (.int .i64 t20)), (23, (.slice a24 l25 q26)), (24, (.int .i64 e22.xField)), (26, (.slice a24 l25 q26)), (27, (.int .i64 e22.xField)), (34, v55)]) ⟨rfl, rfl, rfl, rfl, rfl, rfl, rfl, rfl, rfl, trivial⟩ ?_
          exact H506 e30 h31 r54 v55
      · rintro xs27 a w ⟨hE, hm⟩ h
        refine nx_of hE hm h ?_
        clear hE hm h
        refine b_norm ?_
        refine l_then ?_
        refine c_region ?_
        refine o_mv st rfl rfl ?_
        refine o_add st rfl rfl rfl ?_; intro t58
        refine o_as st rfl rfl ?_
        refine c_nil ?_
        exact l_join (xs27, t58) (fun a w hE hm => ⟨(.slice a24 l25 q26), hE.sub ⟨rfl, rfl, rfl, rfl, trivial⟩, (hm.pick [0, 1, 3, 2] rfl)⟩)
    · refine c_exit ?_
      refine l_exit ?_
      refine l_exit ?_
      refine b_exit ?_
      refine l_then ?_
      refine c_seq ?_
      refine c_region ?_
      refine o_ldc st (v := (.agg #[v16])) 0 rfl rfl rfl ty85 rfl ?_
      refine nx_own 3 rfl ?_; rintro a59 l60 q61 rfl
      refine stw (o_stc (cs' := [(.slice a59 l60 q61)]) 1 rfl rfl rfl ty85 rfl rfl rfl rfl ?_)
      refine c_nil ?_
      refine l_then ?_
      refine c_ret ?_
      exact l_end1 Tryd.results93 (GBox.mk xs17) (.slice a59 l60 q61) (rv_c 1 rfl rfl ty85 rfl) (fun w m => NewCh.ofB m [3] rfl)

set_option maxRecDepth 100000 in
set_option maxHeartbeats 8000000 in
theorem w_spec_l20Test {w0 : World} {F : Nat → Prop} {b1 : Nat} {v2 : Value} {r_0_b : (List UInt8)} {r_0_p : Int} {n_1 : Int} {κ : (GTest × Int) → Prop} (hF : ∀ b, F b → b < w0.heap.size ∧ ¬ feet [cellCh b1 [v2, (.int .i64 r_0_p)] 104] b) (hg : Given [cellCh b1 [v2, (.int .i64 r_0_p)] 104] F w0) (hv2 : Sl elU8 F w0 v2 r_0_b) (h : L_spec_l20Test r_0_b r_0_p n_1 κ) :
    Calls Tryd.prog 117 #[(.pointer (some ⟨b1, 0, none⟩)), (.int .i64 n_1)] w0 (Ret [cellCh b1 [v2, (.int .i64 r_0_p)] 104] F w0 κ (fun (r : (GTest × Int)) (u : Unit) => (.agg #[(.int .i64 r.1.xField), (.int .i64 r.1.xLo), (.int .i64 r.1.xHi), (.bool r.1.xNot)])) (fun (r : (GTest × Int)) (u : Unit) => [cellCh b1 [v2, (.int .i64 r.2)] 104])) := by
  refine enterS (args := [(.pointer (some ⟨b1, 0, none⟩)), (.int .i64 n_1)]) [cellCh b1 [v2, (.int .i64 r_0_p)] 104] hF hg Tryd.func117 rfl Tryd.ntmps117 rfl h ?_
  clear h hF hg
  refine c_seq ?_
  refine c_region ?_
  refine stw (o_alloc rfl [(.int .i64 0), (.int .i64 0), (.int .i64 0), (.bool false)] zero125 ?_); intro b5
  refine c_nil ?_
  refine l_then ?_
  refine c_seq ?_
  refine c_region ?_
  refine o_mv st rfl rfl ?_
  refine pk [1, 0, 2] rfl ?_
  refine stw (o_call (vs := [(.pointer (some ⟨b1, 0, none⟩)), (.int .i64 4)]) (M0 := [cellCh b1 [v2, (.int .i64 r_0_p)] 104]) Tryd.call60 rfl rfl (by intro w m h; exact (w_spec_l20Rd_pick (F := allB [cellCh b1 [v2, (.int .i64 r_0_p)] 104] w) (r_0_b := r_0_b) (r_0_p := r_0_p) (n_1 := 4) allB_ok m.given (m.rdM 1 rfl (reads_snap hv2)) h).mono (fun _ _ k => ret_free (fun r u => (fr_cons free_cell fr_nil)) k)) ?_); rintro ⟨r7, r8⟩ _
  refine o_mv st rfl rfl ?_
  refine stw (o_call (vs := [(.pointer (some ⟨b1, 0, none⟩)), (.int .i64 4)]) (M0 := [cellCh b1 [v2, (.int .i64 r8)] 104]) Tryd.call60 rfl rfl (by intro w m h; exact (w_spec_l20Rd_pick (F := allB [cellCh b1 [v2, (.int .i64 r8)] 104] w) (r_0_b := r_0_b) (r_0_p := r8) (n_1 := 4) allB_ok m.given (m.rdM 1 rfl (reads_snap hv2)) h).mono (fun _ _ k => ret_free (fun r u => (fr_cons free_cell fr_nil)) k)) ?_); rintro ⟨r9, r10⟩ _
  refine o_eql st und3 rfl rfl rfl ?_
  refine o_bld st (qs := [(0, (.int .i64 r7)), (3, (.bool (decide (r9 = 0))))]) (cells := [(.int .i64 r7), (.int .i64 0), (.int .i64 0), (.bool (decide (r9 = 0)))]) (by intro ρ h; simp only [List.map_toArray, List.map_cons, List.map_nil, h (.tmp 9) _ rfl, h (.tmp 12) _ rfl]) rfl bld125 rfl ?_
  refine stw (o_alloc rfl [(.int .i64 0), (.int .i64 0), (.int .i64 0), (.bool false)] zero125 ?_); intro b11
  refine stw (o_stc (cs' := [(.int .i64 r7), (.int .i64 0), (.int .i64 0), (.bool (decide (r9 = 0)))]) 0 rfl rfl rfl ty125 rfl rfl rfl rfl ?_)
  refine c_nil ?_
  refine l_then ?_
  refine c_seq ?_
  refine c_region ?_
  refine o_fad st rfl rfl fld125_0 rfl ?_
  refine o_ldc st (v := (.int .i64 r7)) 0 rfl rfl rfl ty3 rfl ?_
  refine stw (o_callP (vs := [(.int .i64 r7)]) Tryd.call63 rfl rfl (by intro w m h; exact (w_spec_FieldTop (F := allB [] w) (n_0 := r7) allB_ok h).mono (fun _ _ k => ret_free (fun r u => fr_nil) k)) ?_); rintro r13 _
  refine o_as st rfl rfl ?_
  refine c_nil ?_
  refine l_then ?_
  refine c_seq ?_
  refine c_region ?_
  refine o_mv st rfl rfl ?_
  refine o_mv st rfl rfl ?_
  refine pk [1, 0, 2, 3] rfl ?_
  refine stw (o_call (vs := [(.pointer (some ⟨b1, 0, none⟩)), (.int .i64 r13), (.int .i64 0)]) (M0 := [cellCh b1 [v2, (.int .i64 r10)] 104]) Tryd.call97 rfl rfl (by intro w m h; exact (w_spec_l20Span (F := allB [cellCh b1 [v2, (.int .i64 r10)] 104] w) (r_0_b := r_0_b) (r_0_p := r10) (top_1 := r13) (n_2 := 0) allB_ok m.given (m.rdM 2 rfl (reads_snap hv2)) h).mono (fun _ _ k => ret_free (fun r u => (fr_cons free_cell fr_nil)) k)) ?_); rintro ⟨r14, r15⟩ _
  refine stw (o_alloc rfl [(.int .i64 0), (.int .i64 0)] zero71 ?_); intro b16
  refine stw (o_stc (cs' := [(.int .i64 r14.xLo), (.int .i64 r14.xHi)]) 0 rfl rfl rfl ty71 rfl rfl rfl rfl ?_)
  refine c_nil ?_
  refine l_then ?_
  refine c_join (σ := (Int × Int × Int)) (fun ((t152, t153, t154) : (Int × Int × Int)) (a : Act) (w : World) => Has 83 [(0, (.pointer (some ⟨b1, 0, none⟩))), (1, (.int .i64 n_1)), (4, (.pointer (some ⟨b5, 0, none⟩))), (5, (.pointer (some ⟨b11, 0, none⟩))), (6, (.int .i64 r13)), (7, (.pointer (some ⟨b16, 0, none⟩)))] a ∧ Mem (gB F [cellCh b1 [v2, (.int .i64 r_0_p)] 104] w0) (feet [cellCh b1 [v2, (.int .i64 r_0_p)] 104]) w0 [cellCh b1 [v2, (.int .i64 t152)] 104, cellCh b16 [(.int .i64 t153), (.int .i64 t154)] 71, cellCh b11 [(.int .i64 r7), (.int .i64 0), (.int .i64 0), (.bool (decide (r9 = 0)))] 125, cellCh b5 [(.int .i64 0), (.int .i64 0), (.int .i64 0), (.bool false)] 125, snapCh w0 F] w) ?_ ?_
  · intro k155
    refine c_join (σ := (Int × Bool)) (fun ((t80, t81) : (Int × Bool)) (a : Act) (w : World) => Has 83 [(0, (.pointer (some ⟨b1, 0, none⟩))), (1, (.int .i64 n_1)), (4, (.pointer (some ⟨b5, 0, none⟩))), (5, (.pointer (some ⟨b11, 0, none⟩))), (6, (.int .i64 r13)), (7, (.pointer (some ⟨b16, 0, none⟩))), (27, (.bool t81))] a ∧ Mem (gB F [cellCh b1 [v2, (.int .i64 r_0_p)] 104] w0) (feet [cellCh b1 [v2, (.int .i64 r_0_p)] 104]) w0 [cellCh b1 [v2, (.int .i64 t80)] 104, cellCh b16 [(.int .i64 r14.xLo), (.int .i64 r14.xHi)] 71, cellCh b11 [(.int .i64 r7), (.int .i64 0), (.int .i64 0), (.bool (decide (r9 = 0)))] 125, cellCh b5 [(.int .i64 0), (.int .i64 0), (.int .i64 0), (.bool false)] 125, snapCh w0 F] w) ?_ ?_
    · intro k82
      refine c_region ?_
      refine o_fad st rfl rfl fld125_0 rfl ?_
      refine o_ldc st (v := (.int .i64 r7)) 2 rfl rfl rfl ty3 rfl ?_
      refine o_lss st rfl rfl rfl ?_
      refine o_mv st rfl rfl ?_
      refine st_sp (dj := 23) rfl ?_ ?_
      · refine o_mv (st_g rfl rfl) rfl rfl ?_
        refine pk [1, 0, 2, 3, 4] rfl ?_
        refine st_gw rfl rfl (o_call (vs := [(.pointer (some ⟨b1, 0, none⟩)), (.int .i64 2)]) (M0 := [cellCh b1 [v2, (.int .i64 r15)] 104]) Tryd.call60 rfl rfl (by intro w m h; exact (w_spec_l20Rd_pick (F := allB [cellCh b1 [v2, (.int .i64 r15)] 104] w) (r_0_b := r_0_b) (r_0_p := r15) (n_1 := 2) allB_ok m.given (m.rdM 3 rfl (reads_snap hv2)) h).mono (fun _ _ k => ret_free (fun r u => (fr_cons free_cell fr_nil)) k)) ?_); rintro ⟨r18, r19⟩ _
        refine o_eql (st_g rfl rfl) und3 rfl rfl rfl ?_
        refine o_pickT st rfl rfl rfl ?_
        refine c_nil ?_
        exact l_join (r19, (decide (r18 = 0))) (fun a w hE hm => ⟨hE.sub ⟨rfl, rfl, rfl, rfl, rfl, rfl, rfl, trivial⟩, (hm.pick [0, 1, 2, 3, 4] rfl)⟩)
      · refine st_s rfl rfl rfl rfl ?_
        refine st_s rfl rfl rfl rfl ?_
        refine st_s rfl rfl rfl rfl ?_
        refine o_pickF st rfl rfl rfl ?_
        refine c_nil ?_
        exact l_join (r15, false) (fun a w hE hm => ⟨hE.sub ⟨rfl, rfl, rfl, rfl, rfl, rfl, rfl, trivial⟩, (hm.pick [1, 0, 2, 3, 4] rfl)⟩)
    · rintro ⟨t80, t81⟩ a w ⟨hE, hm⟩ h
      refine nx_of hE hm h ?_
      clear hE hm h
      refine c_cond rfl ?_ ?_
      · refine c_seq ?_
        refine c_region ?_
        refine o_mv st rfl rfl ?_
        refine stw (o_call (vs := [(.pointer (some ⟨b1, 0, none⟩)), (.int .i64 20)]) (M0 := [cellCh b1 [v2, (.int .i64 t80)] 104]) Tryd.call60 rfl rfl (by intro w m h; exact (w_spec_l20Rd_pick (F := allB [cellCh b1 [v2, (.int .i64 t80)] 104] w) (r_0_b := r_0_b) (r_0_p := t80) (n_1 := 20) allB_ok m.given (m.rdM 3 rfl (reads_snap hv2)) h).mono (fun _ _ k => ret_free (fun r u => (fr_cons free_cell fr_nil)) k)) ?_); rintro ⟨r83, r84⟩ _
        refine o_bld st (qs := [(0, (.int .i64 r83))]) (cells := [(.int .i64 r83), (.int .i64 0)]) (by intro ρ h; simp only [List.map_toArray, List.map_cons, List.map_nil, h (.tmp 29) _ rfl]) rfl bld71 rfl ?_
        refine stw (o_stc (cs' := [(.int .i64 r83), (.int .i64 0)]) 1 rfl rfl rfl ty71 rfl rfl rfl rfl ?_)
        refine c_nil ?_
        refine l_then ?_
        refine c_join1 (σ := (Int × Int)) (fun ((t85, t86) : (Int × Int)) (a : Act) (w : World) => Has 83 [(0, (.pointer (some ⟨b1, 0, none⟩))), (1, (.int .i64 n_1)), (4, (.pointer (some ⟨b5, 0, none⟩))), (5, (.pointer (some ⟨b11, 0, none⟩))), (6, (.int .i64 r13)), (7, (.pointer (some ⟨b16, 0, none⟩)))] a ∧ Mem (gB F [cellCh b1 [v2, (.int .i64 r_0_p)] 104] w0) (feet [cellCh b1 [v2, (.int .i64 r_0_p)] 104]) w0 [cellCh b1 [v2, (.int .i64 t85)] 104, cellCh b16 [(.int .i64 r83), (.int .i64 t86)] 71, cellCh b11 [(.int .i64 r7), (.int .i64 0), (.int .i64 0), (.bool (decide (r9 = 0)))] 125, cellCh b5 [(.int .i64 0), (.int .i64 0), (.int .i64 0), (.bool false)] 125, snapCh w0 F] w) ?_ ?_
        · intro k87
          refine c_drawQ mixed 7 rfl [cellCh b11 [(.int .i64 r7), (.int .i64 0), (.int .i64 0), (.bool (decide (r9 = 0)))] 125, cellCh b5 [(.int .i64 0), (.int .i64 0), (.int .i64 0), (.bool false)] 125, snapCh w0 F] ?_
          intro Qd hP hQ
          have H559 : ∀ (r88 : Int) (r89 : Int), Nx 83 (gB F [cellCh b1 [v2, (.int .i64 r_0_p)] 104] w0) (feet [cellCh b1 [v2, (.int .i64 r_0_p)] 104]) w0 (wpAnyH Tryd.prog .any (opsAt Tryd.f117 [1, 1, 1, 1, 0, 1, 0, 1]) Qd (Mem (gB F [cellCh b1 [v2, (.int .i64 r_0_p)] 104] w0) (feet [cellCh b1 [v2, (.int .i64 r_0_p)] 104]) w0 [cellCh b11 [(.int .i64 r7), (.int .i64 0), (.int .i64 0), (.bool (decide (r9 = 0)))] 125, cellCh b5 [(.int .i64 0), (.int .i64 0), (.int .i64 0), (.bool false)] 125, snapCh w0 F]) 0 #[true, true, true, true, true, true, true]) [(0, (.pointer (some ⟨b1, 0, none⟩))), (1, (.int .i64 n_1)), (4, (.pointer (some ⟨b5, 0, none⟩))), (5, (.pointer (some ⟨b11, 0, none⟩))), (6, (.int .i64 r13)), (7, (.pointer (some ⟨b16, 0, none⟩)))] [cellCh b1 [v2, (.int .i64 r89)] 104, cellCh b16 [(.int .i64 r83), (.int .i64 (w64 (r83 + r88)))] 71, cellCh b11 [(.int .i64 r7), (.int .i64 0), (.int .i64 0), (.bool (decide (r9 = 0)))] 125, cellCh b5 [(.int .i64 0), (.int .i64 0), (.int .i64 0), (.bool false)] 125, snapCh w0 F] (k87 (r89, (w64 (r83 + r88)))) := by
            intro r88 r89
            refine d_done (by kernel_rfl) ?_
            exact fun a w hE hm hφ => hQ (r89, (w64 (r83 + r88))) a w hφ ((fun a w hE hm => ⟨hE.sub ⟨rfl, rfl, rfl, rfl, rfl, rfl, trivial⟩, (hm.pick [0, 1, 2, 3, 4] rfl)⟩) a w hE hm)
          have H560 : ∀ (r88 : Int) (r89 : Int), Nx 83 (gB F [cellCh b1 [v2, (.int .i64 r_0_p)] 104] w0) (feet [cellCh b1 [v2, (.int .i64 r_0_p)] 104]) w0 (wpAnyH Tryd.prog .any (opsAt Tryd.f117 [1, 1, 1, 1, 0, 1, 0, 1]) Qd (Mem (gB F [cellCh b1 [v2, (.int .i64 r_0_p)] 104] w0) (feet [cellCh b1 [v2, (.int .i64 r_0_p)] 104]) w0 [cellCh b11 [(.int .i64 r7), (.int .i64 0), (.int .i64 0), (.bool (decide (r9 = 0)))] 125, cellCh b5 [(.int .i64 0), (.int .i64 0), (.int .i64 0), (.bool false)] 125, snapCh w0 F]) 3 #[true, true, true, true, false, false, false]) [(0, (.pointer (some ⟨b1, 0, none⟩))), (1, (.int .i64 n_1)), (4, (.pointer (some ⟨b5, 0, none⟩))), (5, (.pointer (some ⟨b11, 0, none⟩))), (6, (.int .i64 r13)), (7, (.pointer (some ⟨b16, 0, none⟩))), (32, (.int .i64 r83)), (34, (.int .i64 r88))] [cellCh b1 [v2, (.int .i64 r89)] 104, cellCh b16 [(.int .i64 r83), (.int .i64 0)] 71, cellCh b11 [(.int .i64 r7), (.int .i64 0), (.int .i64 0), (.bool (decide (r9 = 0)))] 125, cellCh b5 [(.int .i64 0), (.int .i64 0), (.int .i64 0), (.bool false)] 125, snapCh w0 F] (k87 (r89, (w64 (r83 + r88)))) := by
            intro r88 r89
            refine o_addw (dt 4 (fun w m => m.pick [2, 3, 4] rfl)) rfl rfl rfl ?_
            refine o_fad (dt 5 (fun w m => m.pick [2, 3, 4] rfl)) rfl rfl fld71_1 rfl ?_
            refine d_one (i := 6) rfl (by kernel_rfl) (o_stc (cs' := [(.int .i64 r83), (.int .i64 (w64 (r83 + r88)))]) 1 rfl rfl rfl ty3 rfl rfl rfl rfl ?_)
            refine d_and (fun w m => m.pick [2, 3, 4] rfl) ?_
            refine pk [0, 1, 2, 3, 4] rfl ?_
            refine re (E' := [(0, (.pointer (some ⟨b1, 0, none⟩))), (1, (.int .i64 n_1)), (4, (.pointer (some ⟨b5, 0, none⟩))), (5, (.pointer (some ⟨b11, 0, none⟩))), (6, (.int .i64 r13)), (7, (.pointer (some ⟨b16, 0, none⟩)))]) ⟨rfl, rfl, rfl, rfl, rfl, rfl, trivial⟩ ?_
            exact H559 r88 r89
          have H561 : ∀ (_ : Unit), Nx 83 (gB F [cellCh b1 [v2, (.int .i64 r_0_p)] 104] w0) (feet [cellCh b1 [v2, (.int .i64 r_0_p)] 104]) w0 (wpAnyH Tryd.prog .any (opsAt Tryd.f117 [1, 1, 1, 1, 0, 1, 0, 1]) Qd (Mem (gB F [cellCh b1 [v2, (.int .i64 r_0_p)] 104] w0) (feet [cellCh b1 [v2, (.int .i64 r_0_p)] 104]) w0 [cellCh b11 [(.int .i64 r7), (.int .i64 0), (.int .i64 0), (.bool (decide (r9 = 0)))] 125, cellCh b5 [(.int .i64 0), (.int .i64 0), (.int .i64 0), (.bool false)] 125, snapCh w0 F]) 4 #[true, true, true, false, false, false, false]) [(0, (.pointer (some ⟨b1, 0, none⟩))), (1, (.int .i64 n_1)), (4, (.pointer (some ⟨b5, 0, none⟩))), (5, (.pointer (some ⟨b11, 0, none⟩))), (6, (.int .i64 r13)), (7, (.pointer (some ⟨b16, 0, none⟩))), (33, (.pointer (some ⟨b1, 0, none⟩))), (32, (.int .i64 r83))] [cellCh b1 [v2, (.int .i64 r84)] 104, cellCh b16 [(.int .i64 r83), (.int .i64 0)] 71, cellCh b11 [(.int .i64 r7), (.int .i64 0), (.int .i64 0), (.bool (decide (r9 = 0)))] 125, cellCh b5 [(.int .i64 0), (.int .i64 0), (.int .i64 0), (.bool false)] 125, snapCh w0 F] (L_spec_l20Rd_pick r_0_b r84 8 (fun (r88, r89) => k87 (r89, (w64 (r83 + r88))))) := by
            intro _
            refine d_one (i := 3) rfl (by kernel_rfl) (o_call (vs := [(.pointer (some ⟨b1, 0, none⟩)), (.int .i64 8)]) (M0 := [cellCh b1 [v2, (.int .i64 r84)] 104]) Tryd.call60 rfl rfl (by intro w m h; exact (w_spec_l20Rd_pick (F := allB [cellCh b1 [v2, (.int .i64 r84)] 104] w) (r_0_b := r_0_b) (r_0_p := r84) (n_1 := 8) allB_ok m.given (m.rdM 3 rfl (reads_snap hv2)) h).mono (fun _ _ k => ret_free (fun r u => (fr_cons free_cell fr_nil)) k)) ?_); rintro ⟨r88, r89⟩ _
            refine d_and (fun w m => m.pick [2, 3, 4] rfl) ?_
            refine pk [0, 1, 2, 3, 4] rfl ?_
            refine re (E' := [(0, (.pointer (some ⟨b1, 0, none⟩))), (1, (.int .i64 n_1)), (4, (.pointer (some ⟨b5, 0, none⟩))), (5, (.pointer (some ⟨b11, 0, none⟩))), (6, (.int .i64 r13)), (7, (.pointer (some ⟨b16, 0, none⟩))), (32, (.int .i64 r83)), (34, (.int .i64 r88))]) ⟨rfl, rfl, rfl, rfl, rfl, rfl, rfl, rfl, trivial⟩ ?_
            exact H560 r88 r89
          have H562 : ∀ (r90 : Int) (r91 : Int), Nx 83 (gB F [cellCh b1 [v2, (.int .i64 r_0_p)] 104] w0) (feet [cellCh b1 [v2, (.int .i64 r_0_p)] 104]) w0 (wpAnyH Tryd.prog .any (opsAt Tryd.f117 [1, 1, 1, 1, 0, 1, 0, 1]) Qd (Mem (gB F [cellCh b1 [v2, (.int .i64 r_0_p)] 104] w0) (feet [cellCh b1 [v2, (.int .i64 r_0_p)] 104]) w0 [cellCh b11 [(.int .i64 r7), (.int .i64 0), (.int .i64 0), (.bool (decide (r9 = 0)))] 125, cellCh b5 [(.int .i64 0), (.int .i64 0), (.int .i64 0), (.bool false)] 125, snapCh w0 F]) 4 #[true, false, true, true, false, false, false]) [(0, (.pointer (some ⟨b1, 0, none⟩))), (1, (.int .i64 n_1)), (4, (.pointer (some ⟨b5, 0, none⟩))), (5, (.pointer (some ⟨b11, 0, none⟩))), (6, (.int .i64 r13)), (7, (.pointer (some ⟨b16, 0, none⟩))), (31, (.pointer (some ⟨b16, 0, none⟩))), (34, (.int .i64 r90))] [cellCh b1 [v2, (.int .i64 r91)] 104, cellCh b16 [(.int .i64 r83), (.int .i64 0)] 71, cellCh b11 [(.int .i64 r7), (.int .i64 0), (.int .i64 0), (.bool (decide (r9 = 0)))] 125, cellCh b5 [(.int .i64 0), (.int .i64 0), (.int .i64 0), (.bool false)] 125, snapCh w0 F] (k87 (r91, (w64 (r83 + r90)))) := by
            intro r90 r91
            refine d_one (i := 1) rfl (by kernel_rfl) (o_ldc m_op (v := (.int .i64 r83)) 1 rfl rfl rfl ty3 rfl ?_)
            refine d_and (fun w m => m.pick [2, 3, 4] rfl) ?_
            refine pk [0, 1, 2, 3, 4] rfl ?_
            refine re (E' := [(0, (.pointer (some ⟨b1, 0, none⟩))), (1, (.int .i64 n_1)), (4, (.pointer (some ⟨b5, 0, none⟩))), (5, (.pointer (some ⟨b11, 0, none⟩))), (6, (.int .i64 r13)), (7, (.pointer (some ⟨b16, 0, none⟩))), (32, (.int .i64 r83)), (34, (.int .i64 r90))]) ⟨rfl, rfl, rfl, rfl, rfl, rfl, rfl, rfl, trivial⟩ ?_
            exact H560 r90 r91
          refine o_fad (dt 0 (fun w m => m.pick [2, 3, 4] rfl)) rfl rfl fld71_0 rfl ?_
          refine o_mv (dt 2 (fun w m => m.pick [2, 3, 4] rfl)) rfl rfl ?_
          refine d_two (i := 1) (j := 3) rfl rfl (by kernel_rfl) ?_ ?_
          · intro o ho; cases ho
            refine o_ldc m_op (v := (.int .i64 r83)) 1 rfl rfl rfl ty3 rfl ?_
            refine d_and (fun w m => m.pick [2, 3, 4] rfl) ?_
            refine pk [0, 1, 2, 3, 4] rfl ?_
            refine re (E' := [(0, (.pointer (some ⟨b1, 0, none⟩))), (1, (.int .i64 n_1)), (4, (.pointer (some ⟨b5, 0, none⟩))), (5, (.pointer (some ⟨b11, 0, none⟩))), (6, (.int .i64 r13)), (7, (.pointer (some ⟨b16, 0, none⟩))), (33, (.pointer (some ⟨b1, 0, none⟩))), (32, (.int .i64 r83))]) ⟨rfl, rfl, rfl, rfl, rfl, rfl, rfl, rfl, trivial⟩ ?_
            exact H561 ()
          · intro o ho; cases ho
            refine o_call (vs := [(.pointer (some ⟨b1, 0, none⟩)), (.int .i64 8)]) (M0 := [cellCh b1 [v2, (.int .i64 r84)] 104]) Tryd.call60 rfl rfl (by intro w m h; exact (w_spec_l20Rd_pick (F := allB [cellCh b1 [v2, (.int .i64 r84)] 104] w) (r_0_b := r_0_b) (r_0_p := r84) (n_1 := 8) allB_ok m.given (m.rdM 3 rfl (reads_snap hv2)) h).mono (fun _ _ k => ret_free (fun r u => (fr_cons free_cell fr_nil)) k)) ?_; rintro ⟨r90, r91⟩ _
            refine d_and (fun w m => m.pick [2, 3, 4] rfl) ?_
            refine pk [0, 1, 2, 3, 4] rfl ?_
            refine re (E' := [(0, (.pointer (some ⟨b1, 0, none⟩))), (1, (.int .i64 n_1)), (4, (.pointer (some ⟨b5, 0, none⟩))), (5, (.pointer (some ⟨b11, 0, none⟩))), (6, (.int .i64 r13)), (7, (.pointer (some ⟨b16, 0, none⟩))), (31, (.pointer (some ⟨b16, 0, none⟩))), (34, (.int .i64 r90))]) ⟨rfl, rfl, rfl, rfl, rfl, rfl, rfl, rfl, trivial⟩ ?_
            exact H562 r90 r91
        · rintro ⟨t85, t86⟩ a w ⟨hE, hm⟩ h
          refine nx_of hE hm h ?_
          clear hE hm h
          exact l_join (t85, r83, t86) (fun a w hE hm => ⟨hE.sub ⟨rfl, rfl, rfl, rfl, rfl, rfl, trivial⟩, (hm.pick [0, 1, 2, 3, 4] rfl)⟩)
      · refine c_skip ?_
        exact l_join (t80, r14.xLo, r14.xHi) (fun a w hE hm => ⟨hE.sub ⟨rfl, rfl, rfl, rfl, rfl, rfl, trivial⟩, (hm.pick [0, 1, 2, 3, 4] rfl)⟩)
  · rintro ⟨t152, t153, t154⟩ a w ⟨hE, hm⟩ h
    refine nx_of hE hm h ?_
    clear hE hm h
    refine c_join (σ := (Int × Int × Int)) (fun ((t241, t242, t243) : (Int × Int × Int)) (a : Act) (w : World) => Has 83 [(0, (.pointer (some ⟨b1, 0, none⟩))), (1, (.int .i64 n_1)), (4, (.pointer (some ⟨b5, 0, none⟩))), (5, (.pointer (some ⟨b11, 0, none⟩))), (6, (.int .i64 r13)), (7, (.pointer (some ⟨b16, 0, none⟩)))] a ∧ Mem (gB F [cellCh b1 [v2, (.int .i64 r_0_p)] 104] w0) (feet [cellCh b1 [v2, (.int .i64 r_0_p)] 104]) w0 [cellCh b1 [v2, (.int .i64 t241)] 104, cellCh b16 [(.int .i64 t242), (.int .i64 t243)] 71, cellCh b11 [(.int .i64 r7), (.int .i64 0), (.int .i64 0), (.bool (decide (r9 = 0)))] 125, cellCh b5 [(.int .i64 0), (.int .i64 0), (.int .i64 0), (.bool false)] 125, snapCh w0 F] w) ?_ ?_
    · intro k244
      refine c_seq ?_
      refine c_region ?_
      refine o_mv st rfl rfl ?_
      refine stw (o_call (vs := [(.pointer (some ⟨b1, 0, none⟩)), (.int .i64 8)]) (M0 := [cellCh b1 [v2, (.int .i64 t152)] 104]) Tryd.call60 rfl rfl (by intro w m h; exact (w_spec_l20Rd_pick (F := allB [cellCh b1 [v2, (.int .i64 t152)] 104] w) (r_0_b := r_0_b) (r_0_p := t152) (n_1 := 8) allB_ok m.given (m.rdM 3 rfl (reads_snap hv2)) h).mono (fun _ _ k => ret_free (fun r u => (fr_cons free_cell fr_nil)) k)) ?_); rintro ⟨r156, r157⟩ _
      refine o_eql st und3 rfl rfl rfl ?_
      refine c_nil ?_
      refine l_then ?_
      refine c_cond rfl ?_ ?_
      · refine c_join1 (σ := (Int × Int × Int)) (fun ((t158, t159, t160) : (Int × Int × Int)) (a : Act) (w : World) => Has 83 [(0, (.pointer (some ⟨b1, 0, none⟩))), (1, (.int .i64 n_1)), (4, (.pointer (some ⟨b5, 0, none⟩))), (5, (.pointer (some ⟨b11, 0, none⟩))), (6, (.int .i64 r13)), (7, (.pointer (some ⟨b16, 0, none⟩)))] a ∧ Mem (gB F [cellCh b1 [v2, (.int .i64 r_0_p)] 104] w0) (feet [cellCh b1 [v2, (.int .i64 r_0_p)] 104]) w0 [cellCh b1 [v2, (.int .i64 t158)] 104, cellCh b16 [(.int .i64 t159), (.int .i64 t160)] 71, cellCh b11 [(.int .i64 r7), (.int .i64 0), (.int .i64 0), (.bool (decide (r9 = 0)))] 125, cellCh b5 [(.int .i64 0), (.int .i64 0), (.int .i64 0), (.bool false)] 125, snapCh w0 F] w) ?_ ?_
        · intro k161
          refine c_drawQ mixed 15 rfl [cellCh b11 [(.int .i64 r7), (.int .i64 0), (.int .i64 0), (.bool (decide (r9 = 0)))] 125, cellCh b5 [(.int .i64 0), (.int .i64 0), (.int .i64 0), (.bool false)] 125, snapCh w0 F] ?_
          intro Qd hP hQ
          have H582 : ∀ (v162 : Value) (r163 : Int) (r164 : Int) (e165 : GSpan) (h166 : ([(GSpan.mk 0 r13), (GSpan.mk 0 t154), (GSpan.mk t153 r13)])[(r163).toNat]? = some e165), Nx 83 (gB F [cellCh b1 [v2, (.int .i64 r_0_p)] 104] w0) (feet [cellCh b1 [v2, (.int .i64 r_0_p)] 104]) w0 (wpAnyH Tryd.prog .any (opsAt Tryd.f117 [1, 1, 1, 1, 1, 0, 1, 0]) Qd (Mem (gB F [cellCh b1 [v2, (.int .i64 r_0_p)] 104] w0) (feet [cellCh b1 [v2, (.int .i64 r_0_p)] 104]) w0 [cellCh b11 [(.int .i64 r7), (.int .i64 0), (.int .i64 0), (.bool (decide (r9 = 0)))] 125, cellCh b5 [(.int .i64 0), (.int .i64 0), (.int .i64 0), (.bool false)] 125, snapCh w0 F]) 0 #[true, true, true, true, true, true, true, true, true, true, true, true, true, true, true]) [(0, (.pointer (some ⟨b1, 0, none⟩))), (1, (.int .i64 n_1)), (4, (.pointer (some ⟨b5, 0, none⟩))), (5, (.pointer (some ⟨b11, 0, none⟩))), (6, (.int .i64 r13)), (7, (.pointer (some ⟨b16, 0, none⟩)))] [cellCh b1 [v2, (.int .i64 r164)] 104, cellCh b16 [(.int .i64 e165.xLo), (.int .i64 e165.xHi)] 71, cellCh b11 [(.int .i64 r7), (.int .i64 0), (.int .i64 0), (.bool (decide (r9 = 0)))] 125, cellCh b5 [(.int .i64 0), (.int .i64 0), (.int .i64 0), (.bool false)] 125, snapCh w0 F] (k161 (r164, e165.xLo, e165.xHi)) := by
            intro v162 r163 r164 e165 h166
            refine d_done (by kernel_rfl) ?_
            exact fun a w hE hm hφ => hQ (r164, e165.xLo, e165.xHi) a w hφ ((fun a w hE hm => ⟨hE.sub ⟨rfl, rfl, rfl, rfl, rfl, rfl, trivial⟩, (hm.pick [0, 1, 2, 3, 4] rfl)⟩) a w hE hm)
          have H583 : ∀ (v162 : Value) (r163 : Int) (r164 : Int) (e165 : GSpan) (h166 : ([(GSpan.mk 0 r13), (GSpan.mk 0 t154), (GSpan.mk t153 r13)])[(r163).toNat]? = some e165), Nx 83 (gB F [cellCh b1 [v2, (.int .i64 r_0_p)] 104] w0) (feet [cellCh b1 [v2, (.int .i64 r_0_p)] 104]) w0 (wpAnyH Tryd.prog .any (opsAt Tryd.f117 [1, 1, 1, 1, 1, 0, 1, 0]) Qd (Mem (gB F [cellCh b1 [v2, (.int .i64 r_0_p)] 104] w0) (feet [cellCh b1 [v2, (.int .i64 r_0_p)] 104]) w0 [cellCh b11 [(.int .i64 r7), (.int .i64 0), (.int .i64 0), (.bool (decide (r9 = 0)))] 125, cellCh b5 [(.int .i64 0), (.int .i64 0), (.int .i64 0), (.bool false)] 125, snapCh w0 F]) 1 #[true, true, true, true, true, true, true, true, true, true, true, true, true, true, false]) [(0, (.pointer (some ⟨b1, 0, none⟩))), (1, (.int .i64 n_1)), (4, (.pointer (some ⟨b5, 0, none⟩))), (5, (.pointer (some ⟨b11, 0, none⟩))), (6, (.int .i64 r13)), (7, (.pointer (some ⟨b16, 0, none⟩))), (53, (.agg #[(.int .i64 e165.xLo), (.int .i64 e165.xHi)]))] [cellCh b1 [v2, (.int .i64 r164)] 104, cellCh b16 [(.int .i64 t153), (.int .i64 t154)] 71, cellCh b11 [(.int .i64 r7), (.int .i64 0), (.int .i64 0), (.bool (decide (r9 = 0)))] 125, cellCh b5 [(.int .i64 0), (.int .i64 0), (.int .i64 0), (.bool false)] 125, snapCh w0 F] (k161 (r164, e165.xLo, e165.xHi)) := by
            intro v162 r163 r164 e165 h166
            refine d_one (i := 14) rfl (by kernel_rfl) (o_stc (cs' := [(.int .i64 e165.xLo), (.int .i64 e165.xHi)]) 1 rfl rfl rfl ty71 rfl rfl rfl rfl ?_)
            refine d_and (fun w m => m.pick [2, 3, 4] rfl) ?_
            refine pk [0, 1, 2, 3, 4] rfl ?_
            refine re (E' := [(0, (.pointer (some ⟨b1, 0, none⟩))), (1, (.int .i64 n_1)), (4, (.pointer (some ⟨b5, 0, none⟩))), (5, (.pointer (some ⟨b11, 0, none⟩))), (6, (.int .i64 r13)), (7, (.pointer (some ⟨b16, 0, none⟩)))]) ⟨rfl, rfl, rfl, rfl, rfl, rfl, trivial⟩ ?_
            exact H582 v162 r163 r164 e165 h166
          have H584 : ∀ (v162 : Value) (r163 : Int) (r164 : Int) (e165 : GSpan) (h166 : ([(GSpan.mk 0 r13), (GSpan.mk 0 t154), (GSpan.mk t153 r13)])[(r163).toNat]? = some e165), Nx 83 (gB F [cellCh b1 [v2, (.int .i64 r_0_p)] 104] w0) (feet [cellCh b1 [v2, (.int .i64 r_0_p)] 104]) w0 (wpAnyH Tryd.prog .any (opsAt Tryd.f117 [1, 1, 1, 1, 1, 0, 1, 0]) Qd (Mem (gB F [cellCh b1 [v2, (.int .i64 r_0_p)] 104] w0) (feet [cellCh b1 [v2, (.int .i64 r_0_p)] 104]) w0 [cellCh b11 [(.int .i64 r7), (.int .i64 0), (.int .i64 0), (.bool (decide (r9 = 0)))] 125, cellCh b5 [(.int .i64 0), (.int .i64 0), (.int .i64 0), (.bool false)] 125, snapCh w0 F]) 2 #[true, true, true, true, true, true, true, true, true, true, true, true, true, false, false]) [(0, (.pointer (some ⟨b1, 0, none⟩))), (1, (.int .i64 n_1)), (4, (.pointer (some ⟨b5, 0, none⟩))), (5, (.pointer (some ⟨b11, 0, none⟩))), (6, (.int .i64 r13)), (7, (.pointer (some ⟨b16, 0, none⟩))), (52, (pEl v162 r163 2 0))] [cellCh b1 [v2, (.int .i64 r164)] 104, ownCh elGSpan 71 v162 ([(GSpan.mk 0 r13), (GSpan.mk 0 t154), (GSpan.mk t153 r13)]), cellCh b16 [(.int .i64 t153), (.int .i64 t154)] 71, cellCh b11 [(.int .i64 r7), (.int .i64 0), (.int .i64 0), (.bool (decide (r9 = 0)))] 125, cellCh b5 [(.int .i64 0), (.int .i64 0), (.int .i64 0), (.bool false)] 125, snapCh w0 F] (k161 (r164, e165.xLo, e165.xHi)) := by
            intro v162 r163 r164 e165 h166
            refine d_one (i := 13) rfl (by kernel_rfl) (o_lds m_op (enc := encGSpan) (u := (.agg #[(.int .i64 e165.xLo), (.int .i64 e165.xHi)])) 1 rfl reads_own flelGSpan rfl h166 rfl rfl ty71 rfl ?_)
            refine d_and (fun w m => m.pick [3, 4, 5] rfl) ?_
            refine pk [0, 2, 3, 4, 5] rfl ?_
            refine re (E' := [(0, (.pointer (some ⟨b1, 0, none⟩))), (1, (.int .i64 n_1)), (4, (.pointer (some ⟨b5, 0, none⟩))), (5, (.pointer (some ⟨b11, 0, none⟩))), (6, (.int .i64 r13)), (7, (.pointer (some ⟨b16, 0, none⟩))), (53, (.agg #[(.int .i64 e165.xLo), (.int .i64 e165.xHi)]))]) ⟨rfl, rfl, rfl, rfl, rfl, rfl, rfl, trivial⟩ ?_
            exact H583 v162 r163 r164 e165 h166
          have H585 : ∀ (v162 : Value) (r163 : Int) (r164 : Int), Nx 83 (gB F [cellCh b1 [v2, (.int .i64 r_0_p)] 104] w0) (feet [cellCh b1 [v2, (.int .i64 r_0_p)] 104]) w0 (wpAnyH Tryd.prog .any (opsAt Tryd.f117 [1, 1, 1, 1, 1, 0, 1, 0]) Qd (Mem (gB F [cellCh b1 [v2, (.int .i64 r_0_p)] 104] w0) (feet [cellCh b1 [v2, (.int .i64 r_0_p)] 104]) w0 [cellCh b11 [(.int .i64 r7), (.int .i64 0), (.int .i64 0), (.bool (decide (r9 = 0)))] 125, cellCh b5 [(.int .i64 0), (.int .i64 0), (.int .i64 0), (.bool false)] 125, snapCh w0 F]) 3 #[true, true, true, true, true, true, true, true, true, true, true, true, false, false, false]) [(0, (.pointer (some ⟨b1, 0, none⟩))), (1, (.int .i64 n_1)), (4, (.pointer (some ⟨b5, 0, none⟩))), (5, (.pointer (some ⟨b11, 0, none⟩))), (6, (.int .i64 r13)), (7, (.pointer (some ⟨b16, 0, none⟩))), (49, v162), (51, (.int .i64 r163))] [cellCh b1 [v2, (.int .i64 r164)] 104, ownCh elGSpan 71 v162 ([(GSpan.mk 0 r13), (GSpan.mk 0 t154), (GSpan.mk t153 r13)]), cellCh b16 [(.int .i64 t153), (.int .i64 t154)] 71, cellCh b11 [(.int .i64 r7), (.int .i64 0), (.int .i64 0), (.bool (decide (r9 = 0)))] 125, cellCh b5 [(.int .i64 0), (.int .i64 0), (.int .i64 0), (.bool false)] 125, snapCh w0 F] (idxW ([(GSpan.mk 0 r13), (GSpan.mk 0 t154), (GSpan.mk t153 r13)]) r163 (fun e165 => k161 (r164, e165.xLo, e165.xHi))) := by
            intro v162 r163 r164
            refine d_one (i := 12) rfl (by kernel_rfl) (o_idx m_op 1 rfl reads_own rfl rfl rfl el72 ?_); intro e165 h166
            refine d_and (fun w m => m.pick [3, 4, 5] rfl) ?_
            refine pk [0, 1, 2, 3, 4, 5] rfl ?_
            refine re (E' := [(0, (.pointer (some ⟨b1, 0, none⟩))), (1, (.int .i64 n_1)), (4, (.pointer (some ⟨b5, 0, none⟩))), (5, (.pointer (some ⟨b11, 0, none⟩))), (6, (.int .i64 r13)), (7, (.pointer (some ⟨b16, 0, none⟩))), (52, (pEl v162 r163 2 0))]) ⟨rfl, rfl, rfl, rfl, rfl, rfl, rfl, trivial⟩ ?_
            exact H584 v162 r163 r164 e165 h166
          have H586 : ∀ (v162 : Value), Nx 83 (gB F [cellCh b1 [v2, (.int .i64 r_0_p)] 104] w0) (feet [cellCh b1 [v2, (.int .i64 r_0_p)] 104]) w0 (wpAnyH Tryd.prog .any (opsAt Tryd.f117 [1, 1, 1, 1, 1, 0, 1, 0]) Qd (Mem (gB F [cellCh b1 [v2, (.int .i64 r_0_p)] 104] w0) (feet [cellCh b1 [v2, (.int .i64 r_0_p)] 104]) w0 [cellCh b11 [(.int .i64 r7), (.int .i64 0), (.int .i64 0), (.bool (decide (r9 = 0)))] 125, cellCh b5 [(.int .i64 0), (.int .i64 0), (.int .i64 0), (.bool false)] 125, snapCh w0 F]) 4 #[true, true, true, true, true, true, true, true, true, true, true, false, false, false, false]) [(0, (.pointer (some ⟨b1, 0, none⟩))), (1, (.int .i64 n_1)), (4, (.pointer (some ⟨b5, 0, none⟩))), (5, (.pointer (some ⟨b11, 0, none⟩))), (6, (.int .i64 r13)), (7, (.pointer (some ⟨b16, 0, none⟩))), (50, (.pointer (some ⟨b1, 0, none⟩))), (49, v162)] [ownCh elGSpan 71 v162 ([(GSpan.mk 0 r13), (GSpan.mk 0 t154), (GSpan.mk t153 r13)]), cellCh b1 [v2, (.int .i64 r157)] 104, cellCh b16 [(.int .i64 t153), (.int .i64 t154)] 71, cellCh b11 [(.int .i64 r7), (.int .i64 0), (.int .i64 0), (.bool (decide (r9 = 0)))] 125, cellCh b5 [(.int .i64 0), (.int .i64 0), (.int .i64 0), (.bool false)] 125, snapCh w0 F] (L_spec_l20Rd_pick r_0_b r157 3 (fun (r163, r164) => idxW ([(GSpan.mk 0 r13), (GSpan.mk 0 t154), (GSpan.mk t153 r13)]) r163 (fun e165 => k161 (r164, e165.xLo, e165.xHi)))) := by
            intro v162
            refine pk [1, 0, 2, 3, 4, 5] rfl ?_
            refine d_one (i := 11) rfl (by kernel_rfl) (o_call (vs := [(.pointer (some ⟨b1, 0, none⟩)), (.int .i64 3)]) (M0 := [cellCh b1 [v2, (.int .i64 r157)] 104]) Tryd.call60 rfl rfl (by intro w m h; exact (w_spec_l20Rd_pick (F := allB [cellCh b1 [v2, (.int .i64 r157)] 104] w) (r_0_b := r_0_b) (r_0_p := r157) (n_1 := 3) allB_ok m.given (m.rdM 4 rfl (reads_snap hv2)) h).mono (fun _ _ k => ret_free (fun r u => (fr_cons free_cell fr_nil)) k)) ?_); rintro ⟨r163, r164⟩ _
            refine d_and (fun w m => m.pick [3, 4, 5] rfl) ?_
            refine pk [0, 1, 2, 3, 4, 5] rfl ?_
            refine re (E' := [(0, (.pointer (some ⟨b1, 0, none⟩))), (1, (.int .i64 n_1)), (4, (.pointer (some ⟨b5, 0, none⟩))), (5, (.pointer (some ⟨b11, 0, none⟩))), (6, (.int .i64 r13)), (7, (.pointer (some ⟨b16, 0, none⟩))), (49, v162), (51, (.int .i64 r163))]) ⟨rfl, rfl, rfl, rfl, rfl, rfl, rfl, rfl, trivial⟩ ?_
            exact H585 v162 r163 r164
          have H587 : ∀ (r167 : Int) (r168 : Int), Nx 83 (gB F [cellCh b1 [v2, (.int .i64 r_0_p)] 104] w0) (feet [cellCh b1 [v2, (.int .i64 r_0_p)] 104]) w0 (wpAnyH Tryd.prog .any (opsAt Tryd.f117 [1, 1, 1, 1, 1, 0, 1, 0]) Qd (Mem (gB F [cellCh b1 [v2, (.int .i64 r_0_p)] 104] w0) (feet [cellCh b1 [v2, (.int .i64 r_0_p)] 104]) w0 [cellCh b11 [(.int .i64 r7), (.int .i64 0), (.int .i64 0), (.bool (decide (r9 = 0)))] 125, cellCh b5 [(.int .i64 0), (.int .i64 0), (.int .i64 0), (.bool false)] 125, snapCh w0 F]) 4 #[true, true, true, true, true, true, true, true, true, false, true, true, false, false, false]) [(0, (.pointer (some ⟨b1, 0, none⟩))), (1, (.int .i64 n_1)), (4, (.pointer (some ⟨b5, 0, none⟩))), (5, (.pointer (some ⟨b11, 0, none⟩))), (6, (.int .i64 r13)), (7, (.pointer (some ⟨b16, 0, none⟩))), (41, (.agg #[(.int .i64 0), (.int .i64 r13)])), (44, (.agg #[(.int .i64 0), (.int .i64 t154)])), (48, (.agg #[(.int .i64 t153), (.int .i64 r13)])), (51, (.int .i64 r167))] [cellCh b1 [v2, (.int .i64 r168)] 104, cellCh b16 [(.int .i64 t153), (.int .i64 t154)] 71, cellCh b11 [(.int .i64 r7), (.int .i64 0), (.int .i64 0), (.bool (decide (r9 = 0)))] 125, cellCh b5 [(.int .i64 0), (.int .i64 0), (.int .i64 0), (.bool false)] 125, snapCh w0 F] (idxW ([(GSpan.mk 0 r13), (GSpan.mk 0 t154), (GSpan.mk t153 r13)]) r167 (fun e165 => k161 (r168, e165.xLo, e165.xHi))) := by
            intro r167 r168
            refine d_one (i := 9) rfl (by kernel_rfl) (o_bsl (enc := encGSpan) (qs := [(0, (.agg #[(.int .i64 0), (.int .i64 r13)])), (1, (.agg #[(.int .i64 0), (.int .i64 t154)])), (2, (.agg #[(.int .i64 t153), (.int .i64 r13)]))]) (cells := [(.int .i64 0), (.int .i64 r13), (.int .i64 0), (.int .i64 t154), (.int .i64 t153), (.int .i64 r13)]) ([(GSpan.mk 0 r13), (GSpan.mk 0 t154), (GSpan.mk t153 r13)]) flelGSpan (by intro ρ h; simp only [List.map_toArray, List.map_cons, List.map_nil, h (.tmp 41) _ rfl, h (.tmp 44) _ rfl, h (.tmp 48) _ rfl]) rfl el72 zero71 rfl rfl rfl rfl rfl rfl ?_); intro v169
            refine d_and (fun w m => m.pick [3, 4, 5] rfl) ?_
            refine pk [1, 0, 2, 3, 4, 5] rfl ?_
            refine re (E' := [(0, (.pointer (some ⟨b1, 0, none⟩))), (1, (.int .i64 n_1)), (4, (.pointer (some ⟨b5, 0, none⟩))), (5, (.pointer (some ⟨b11, 0, none⟩))), (6, (.int .i64 r13)), (7, (.pointer (some ⟨b16, 0, none⟩))), (49, v169), (51, (.int .i64 r167))]) ⟨rfl, rfl, rfl, rfl, rfl, rfl, rfl, rfl, trivial⟩ ?_
            exact H585 v169 r167 r168
          have H588 : ∀ (_ : Unit), Nx 83 (gB F [cellCh b1 [v2, (.int .i64 r_0_p)] 104] w0) (feet [cellCh b1 [v2, (.int .i64 r_0_p)] 104]) w0 (wpAnyH Tryd.prog .any (opsAt Tryd.f117 [1, 1, 1, 1, 1, 0, 1, 0]) Qd (Mem (gB F [cellCh b1 [v2, (.int .i64 r_0_p)] 104] w0) (feet [cellCh b1 [v2, (.int .i64 r_0_p)] 104]) w0 [cellCh b11 [(.int .i64 r7), (.int .i64 0), (.int .i64 0), (.bool (decide (r9 = 0)))] 125, cellCh b5 [(.int .i64 0), (.int .i64 0), (.int .i64 0), (.bool false)] 125, snapCh w0 F]) 6 #[true, true, true, true, true, true, true, true, false, false, true, false, false, false, false]) [(0, (.pointer (some ⟨b1, 0, none⟩))), (1, (.int .i64 n_1)), (4, (.pointer (some ⟨b5, 0, none⟩))), (5, (.pointer (some ⟨b11, 0, none⟩))), (6, (.int .i64 r13)), (7, (.pointer (some ⟨b16, 0, none⟩))), (41, (.agg #[(.int .i64 0), (.int .i64 r13)])), (47, (.int .i64 r13)), (50, (.pointer (some ⟨b1, 0, none⟩))), (44, (.agg #[(.int .i64 0), (.int .i64 t154)])), (46, (.int .i64 t153))] [cellCh b1 [v2, (.int .i64 r157)] 104, cellCh b16 [(.int .i64 t153), (.int .i64 t154)] 71, cellCh b11 [(.int .i64 r7), (.int .i64 0), (.int .i64 0), (.bool (decide (r9 = 0)))] 125, cellCh b5 [(.int .i64 0), (.int .i64 0), (.int .i64 0), (.bool false)] 125, snapCh w0 F] (L_spec_l20Rd_pick r_0_b r157 3 (fun (r163, r164) => idxW ([(GSpan.mk 0 r13), (GSpan.mk 0 t154), (GSpan.mk t153 r13)]) r163 (fun e165 => k161 (r164, e165.xLo, e165.xHi)))) := by
            intro _
            refine o_bld (dt 8 (fun w m => m.pick [2, 3, 4] rfl)) (qs := [(0, (.int .i64 t153)), (1, (.int .i64 r13))]) (cells := [(.int .i64 t153), (.int .i64 r13)]) (by intro ρ h; simp only [List.map_toArray, List.map_cons, List.map_nil, h (.tmp 46) _ rfl, h (.tmp 47) _ rfl]) rfl bld71 rfl ?_
            refine d_two (i := 9) (j := 11) rfl rfl (by kernel_rfl) ?_ ?_
            · intro o ho; cases ho
              refine o_bsl (enc := encGSpan) (qs := [(0, (.agg #[(.int .i64 0), (.int .i64 r13)])), (1, (.agg #[(.int .i64 0), (.int .i64 t154)])), (2, (.agg #[(.int .i64 t153), (.int .i64 r13)]))]) (cells := [(.int .i64 0), (.int .i64 r13), (.int .i64 0), (.int .i64 t154), (.int .i64 t153), (.int .i64 r13)]) ([(GSpan.mk 0 r13), (GSpan.mk 0 t154), (GSpan.mk t153 r13)]) flelGSpan (by intro ρ h; simp only [List.map_toArray, List.map_cons, List.map_nil, h (.tmp 41) _ rfl, h (.tmp 44) _ rfl, h (.tmp 48) _ rfl]) rfl el72 zero71 rfl rfl rfl rfl rfl rfl ?_; intro v162
              refine d_and (fun w m => m.pick [3, 4, 5] rfl) ?_
              refine pk [0, 1, 2, 3, 4, 5] rfl ?_
              refine re (E' := [(0, (.pointer (some ⟨b1, 0, none⟩))), (1, (.int .i64 n_1)), (4, (.pointer (some ⟨b5, 0, none⟩))), (5, (.pointer (some ⟨b11, 0, none⟩))), (6, (.int .i64 r13)), (7, (.pointer (some ⟨b16, 0, none⟩))), (50, (.pointer (some ⟨b1, 0, none⟩))), (49, v162)]) ⟨rfl, rfl, rfl, rfl, rfl, rfl, rfl, rfl, trivial⟩ ?_
              exact H586 v162
            · intro o ho; cases ho
              refine o_call (vs := [(.pointer (some ⟨b1, 0, none⟩)), (.int .i64 3)]) (M0 := [cellCh b1 [v2, (.int .i64 r157)] 104]) Tryd.call60 rfl rfl (by intro w m h; exact (w_spec_l20Rd_pick (F := allB [cellCh b1 [v2, (.int .i64 r157)] 104] w) (r_0_b := r_0_b) (r_0_p := r157) (n_1 := 3) allB_ok m.given (m.rdM 3 rfl (reads_snap hv2)) h).mono (fun _ _ k => ret_free (fun r u => (fr_cons free_cell fr_nil)) k)) ?_; rintro ⟨r167, r168⟩ _
              refine d_and (fun w m => m.pick [2, 3, 4] rfl) ?_
              refine pk [0, 1, 2, 3, 4] rfl ?_
              refine re (E' := [(0, (.pointer (some ⟨b1, 0, none⟩))), (1, (.int .i64 n_1)), (4, (.pointer (some ⟨b5, 0, none⟩))), (5, (.pointer (some ⟨b11, 0, none⟩))), (6, (.int .i64 r13)), (7, (.pointer (some ⟨b16, 0, none⟩))), (41, (.agg #[(.int .i64 0), (.int .i64 r13)])), (44, (.agg #[(.int .i64 0), (.int .i64 t154)])), (48, (.agg #[(.int .i64 t153), (.int .i64 r13)])), (51, (.int .i64 r167))]) ⟨rfl, rfl, rfl, rfl, rfl, rfl, rfl, rfl, rfl, rfl, trivial⟩ ?_
              exact H587 r167 r168
          have H589 : ∀ (r170 : Int) (r171 : Int), Nx 83 (gB F [cellCh b1 [v2, (.int .i64 r_0_p)] 104] w0) (feet [cellCh b1 [v2, (.int .i64 r_0_p)] 104]) w0 (wpAnyH Tryd.prog .any (opsAt Tryd.f117 [1, 1, 1, 1, 1, 0, 1, 0]) Qd (Mem (gB F [cellCh b1 [v2, (.int .i64 r_0_p)] 104] w0) (feet [cellCh b1 [v2, (.int .i64 r_0_p)] 104]) w0 [cellCh b11 [(.int .i64 r7), (.int .i64 0), (.int .i64 0), (.bool (decide (r9 = 0)))] 125, cellCh b5 [(.int .i64 0), (.int .i64 0), (.int .i64 0), (.bool false)] 125, snapCh w0 F]) 5 #[true, true, true, true, true, true, true, true, false, false, true, true, false, false, false]) [(0, (.pointer (some ⟨b1, 0, none⟩))), (1, (.int .i64 n_1)), (4, (.pointer (some ⟨b5, 0, none⟩))), (5, (.pointer (some ⟨b11, 0, none⟩))), (6, (.int .i64 r13)), (7, (.pointer (some ⟨b16, 0, none⟩))), (41, (.agg #[(.int .i64 0), (.int .i64 r13)])), (47, (.int .i64 r13)), (44, (.agg #[(.int .i64 0), (.int .i64 t154)])), (51, (.int .i64 r170)), (46, (.int .i64 t153))] [cellCh b1 [v2, (.int .i64 r171)] 104, cellCh b16 [(.int .i64 t153), (.int .i64 t154)] 71, cellCh b11 [(.int .i64 r7), (.int .i64 0), (.int .i64 0), (.bool (decide (r9 = 0)))] 125, cellCh b5 [(.int .i64 0), (.int .i64 0), (.int .i64 0), (.bool false)] 125, snapCh w0 F] (idxW ([(GSpan.mk 0 r13), (GSpan.mk 0 t154), (GSpan.mk t153 r13)]) r170 (fun e165 => k161 (r171, e165.xLo, e165.xHi))) := by
            intro r170 r171
            refine o_bld (dt 8 (fun w m => m.pick [2, 3, 4] rfl)) (qs := [(0, (.int .i64 t153)), (1, (.int .i64 r13))]) (cells := [(.int .i64 t153), (.int .i64 r13)]) (by intro ρ h; simp only [List.map_toArray, List.map_cons, List.map_nil, h (.tmp 46) _ rfl, h (.tmp 47) _ rfl]) rfl bld71 rfl ?_
            refine d_one (i := 9) rfl (by kernel_rfl) (o_bsl (enc := encGSpan) (qs := [(0, (.agg #[(.int .i64 0), (.int .i64 r13)])), (1, (.agg #[(.int .i64 0), (.int .i64 t154)])), (2, (.agg #[(.int .i64 t153), (.int .i64 r13)]))]) (cells := [(.int .i64 0), (.int .i64 r13), (.int .i64 0), (.int .i64 t154), (.int .i64 t153), (.int .i64 r13)]) ([(GSpan.mk 0 r13), (GSpan.mk 0 t154), (GSpan.mk t153 r13)]) flelGSpan (by intro ρ h; simp only [List.map_toArray, List.map_cons, List.map_nil, h (.tmp 41) _ rfl, h (.tmp 44) _ rfl, h (.tmp 48) _ rfl]) rfl el72 zero71 rfl rfl rfl rfl rfl rfl ?_); intro v172
            refine d_and (fun w m => m.pick [3, 4, 5] rfl) ?_
            refine pk [1, 0, 2, 3, 4, 5] rfl ?_
            refine re (E' := [(0, (.pointer (some ⟨b1, 0, none⟩))), (1, (.int .i64 n_1)), (4, (.pointer (some ⟨b5, 0, none⟩))), (5, (.pointer (some ⟨b11, 0, none⟩))), (6, (.int .i64 r13)), (7, (.pointer (some ⟨b16, 0, none⟩))), (49, v172), (51, (.int .i64 r170))]) ⟨rfl, rfl, rfl, rfl, rfl, rfl, rfl, rfl, trivial⟩ ?_
            exact H585 v172 r170 r171
          have H590 : ∀ (r170 : Int) (r171 : Int), Nx 83 (gB F [cellCh b1 [v2, (.int .i64 r_0_p)] 104] w0) (feet [cellCh b1 [v2, (.int .i64 r_0_p)] 104]) w0 (wpAnyH Tryd.prog .any (opsAt Tryd.f117 [1, 1, 1, 1, 1, 0, 1, 0]) Qd (Mem (gB F [cellCh b1 [v2, (.int .i64 r_0_p)] 104] w0) (feet [cellCh b1 [v2, (.int .i64 r_0_p)] 104]) w0 [cellCh b11 [(.int .i64 r7), (.int .i64 0), (.int .i64 0), (.bool (decide (r9 = 0)))] 125, cellCh b5 [(.int .i64 0), (.int .i64 0), (.int .i64 0), (.bool false)] 125, snapCh w0 F]) 6 #[true, true, true, true, true, true, false, true, false, false, true, true, false, false, false]) [(0, (.pointer (some ⟨b1, 0, none⟩))), (1, (.int .i64 n_1)), (4, (.pointer (some ⟨b5, 0, none⟩))), (5, (.pointer (some ⟨b11, 0, none⟩))), (6, (.int .i64 r13)), (7, (.pointer (some ⟨b16, 0, none⟩))), (41, (.agg #[(.int .i64 0), (.int .i64 r13)])), (45, (.pointer (some ⟨b16, 0, none⟩))), (47, (.int .i64 r13)), (44, (.agg #[(.int .i64 0), (.int .i64 t154)])), (51, (.int .i64 r170))] [cellCh b1 [v2, (.int .i64 r171)] 104, cellCh b16 [(.int .i64 t153), (.int .i64 t154)] 71, cellCh b11 [(.int .i64 r7), (.int .i64 0), (.int .i64 0), (.bool (decide (r9 = 0)))] 125, cellCh b5 [(.int .i64 0), (.int .i64 0), (.int .i64 0), (.bool false)] 125, snapCh w0 F] (idxW ([(GSpan.mk 0 r13), (GSpan.mk 0 t154), (GSpan.mk t153 r13)]) r170 (fun e165 => k161 (r171, e165.xLo, e165.xHi))) := by
            intro r170 r171
            refine d_one (i := 6) rfl (by kernel_rfl) (o_ldc m_op (v := (.int .i64 t153)) 1 rfl rfl rfl ty3 rfl ?_)
            refine d_and (fun w m => m.pick [2, 3, 4] rfl) ?_
            refine pk [0, 1, 2, 3, 4] rfl ?_
            refine re (E' := [(0, (.pointer (some ⟨b1, 0, none⟩))), (1, (.int .i64 n_1)), (4, (.pointer (some ⟨b5, 0, none⟩))), (5, (.pointer (some ⟨b11, 0, none⟩))), (6, (.int .i64 r13)), (7, (.pointer (some ⟨b16, 0, none⟩))), (41, (.agg #[(.int .i64 0), (.int .i64 r13)])), (47, (.int .i64 r13)), (44, (.agg #[(.int .i64 0), (.int .i64 t154)])), (51, (.int .i64 r170)), (46, (.int .i64 t153))]) ⟨rfl, rfl, rfl, rfl, rfl, rfl, rfl, rfl, rfl, rfl, rfl, trivial⟩ ?_
            exact H589 r170 r171
          have H591 : ∀ (_ : Unit), Nx 83 (gB F [cellCh b1 [v2, (.int .i64 r_0_p)] 104] w0) (feet [cellCh b1 [v2, (.int .i64 r_0_p)] 104]) w0 (wpAnyH Tryd.prog .any (opsAt Tryd.f117 [1, 1, 1, 1, 1, 0, 1, 0]) Qd (Mem (gB F [cellCh b1 [v2, (.int .i64 r_0_p)] 104] w0) (feet [cellCh b1 [v2, (.int .i64 r_0_p)] 104]) w0 [cellCh b11 [(.int .i64 r7), (.int .i64 0), (.int .i64 0), (.bool (decide (r9 = 0)))] 125, cellCh b5 [(.int .i64 0), (.int .i64 0), (.int .i64 0), (.bool false)] 125, snapCh w0 F]) 8 #[true, true, true, true, false, true, false, true, false, false, true, false, false, false, false]) [(0, (.pointer (some ⟨b1, 0, none⟩))), (1, (.int .i64 n_1)), (4, (.pointer (some ⟨b5, 0, none⟩))), (5, (.pointer (some ⟨b11, 0, none⟩))), (6, (.int .i64 r13)), (7, (.pointer (some ⟨b16, 0, none⟩))), (41, (.agg #[(.int .i64 0), (.int .i64 r13)])), (45, (.pointer (some ⟨b16, 0, none⟩))), (47, (.int .i64 r13)), (50, (.pointer (some ⟨b1, 0, none⟩))), (43, (.int .i64 t154))] [cellCh b1 [v2, (.int .i64 r157)] 104, cellCh b16 [(.int .i64 t153), (.int .i64 t154)] 71, cellCh b11 [(.int .i64 r7), (.int .i64 0), (.int .i64 0), (.bool (decide (r9 = 0)))] 125, cellCh b5 [(.int .i64 0), (.int .i64 0), (.int .i64 0), (.bool false)] 125, snapCh w0 F] (L_spec_l20Rd_pick r_0_b r157 3 (fun (r163, r164) => idxW ([(GSpan.mk 0 r13), (GSpan.mk 0 t154), (GSpan.mk t153 r13)]) r163 (fun e165 => k161 (r164, e165.xLo, e165.xHi)))) := by
            intro _
            refine o_bld (dt 4 (fun w m => m.pick [2, 3, 4] rfl)) (qs := [(0, (.int .i64 0)), (1, (.int .i64 t154))]) (cells := [(.int .i64 0), (.int .i64 t154)]) (by intro ρ h; simp only [List.map_toArray, List.map_cons, List.map_nil, h (.const (.int .i64 0)) _ rfl, h (.tmp 43) _ rfl]) rfl bld71 rfl ?_
            refine d_two (i := 6) (j := 11) rfl rfl (by kernel_rfl) ?_ ?_
            · intro o ho; cases ho
              refine o_ldc m_op (v := (.int .i64 t153)) 1 rfl rfl rfl ty3 rfl ?_
              refine d_and (fun w m => m.pick [2, 3, 4] rfl) ?_
              refine pk [0, 1, 2, 3, 4] rfl ?_
              refine re (E' := [(0, (.pointer (some ⟨b1, 0, none⟩))), (1, (.int .i64 n_1)), (4, (.pointer (some ⟨b5, 0, none⟩))), (5, (.pointer (some ⟨b11, 0, none⟩))), (6, (.int .i64 r13)), (7, (.pointer (some ⟨b16, 0, none⟩))), (41, (.agg #[(.int .i64 0), (.int .i64 r13)])), (47, (.int .i64 r13)), (50, (.pointer (some ⟨b1, 0, none⟩))), (44, (.agg #[(.int .i64 0), (.int .i64 t154)])), (46, (.int .i64 t153))]) ⟨rfl, rfl, rfl, rfl, rfl, rfl, rfl, rfl, rfl, rfl, rfl, trivial⟩ ?_
              exact H588 ()
            · intro o ho; cases ho
              refine o_call (vs := [(.pointer (some ⟨b1, 0, none⟩)), (.int .i64 3)]) (M0 := [cellCh b1 [v2, (.int .i64 r157)] 104]) Tryd.call60 rfl rfl (by intro w m h; exact (w_spec_l20Rd_pick (F := allB [cellCh b1 [v2, (.int .i64 r157)] 104] w) (r_0_b := r_0_b) (r_0_p := r157) (n_1 := 3) allB_ok m.given (m.rdM 3 rfl (reads_snap hv2)) h).mono (fun _ _ k => ret_free (fun r u => (fr_cons free_cell fr_nil)) k)) ?_; rintro ⟨r170, r171⟩ _
              refine d_and (fun w m => m.pick [2, 3, 4] rfl) ?_
              refine pk [0, 1, 2, 3, 4] rfl ?_
              refine re (E' := [(0, (.pointer (some ⟨b1, 0, none⟩))), (1, (.int .i64 n_1)), (4, (.pointer (some ⟨b5, 0, none⟩))), (5, (.pointer (some ⟨b11, 0, none⟩))), (6, (.int .i64 r13)), (7, (.pointer (some ⟨b16, 0, none⟩))), (41, (.agg #[(.int .i64 0), (.int .i64 r13)])), (45, (.pointer (some ⟨b16, 0, none⟩))), (47, (.int .i64 r13)), (44, (.agg #[(.int .i64 0), (.int .i64 t154)])), (51, (.int .i64 r170))]) ⟨rfl, rfl, rfl, rfl, rfl, rfl, rfl, rfl, rfl, rfl, rfl, trivial⟩ ?_
              exact H590 r170 r171
          have H592 : ∀ (_ : Unit), Nx 83 (gB F [cellCh b1 [v2, (.int .i64 r_0_p)] 104] w0) (feet [cellCh b1 [v2, (.int .i64 r_0_p)] 104]) w0 (wpAnyH Tryd.prog .any (opsAt Tryd.f117 [1, 1, 1, 1, 1, 0, 1, 0]) Qd (Mem (gB F [cellCh b1 [v2, (.int .i64 r_0_p)] 104] w0) (feet [cellCh b1 [v2, (.int .i64 r_0_p)] 104]) w0 [cellCh b11 [(.int .i64 r7), (.int .i64 0), (.int .i64 0), (.bool (decide (r9 = 0)))] 125, cellCh b5 [(.int .i64 0), (.int .i64 0), (.int .i64 0), (.bool false)] 125, snapCh w0 F]) 6 #[true, true, true, true, false, true, true, true, true, false, true, false, false, false, false]) [(0, (.pointer (some ⟨b1, 0, none⟩))), (1, (.int .i64 n_1)), (4, (.pointer (some ⟨b5, 0, none⟩))), (5, (.pointer (some ⟨b11, 0, none⟩))), (6, (.int .i64 r13)), (7, (.pointer (some ⟨b16, 0, none⟩))), (41, (.agg #[(.int .i64 0), (.int .i64 r13)])), (50, (.pointer (some ⟨b1, 0, none⟩))), (48, (.agg #[(.int .i64 t153), (.int .i64 r13)])), (43, (.int .i64 t154))] [cellCh b1 [v2, (.int .i64 r157)] 104, cellCh b16 [(.int .i64 t153), (.int .i64 t154)] 71, cellCh b11 [(.int .i64 r7), (.int .i64 0), (.int .i64 0), (.bool (decide (r9 = 0)))] 125, cellCh b5 [(.int .i64 0), (.int .i64 0), (.int .i64 0), (.bool false)] 125, snapCh w0 F] (L_spec_l20Rd_pick r_0_b r157 3 (fun (r163, r164) => idxW ([(GSpan.mk 0 r13), (GSpan.mk 0 t154), (GSpan.mk t153 r13)]) r163 (fun e165 => k161 (r164, e165.xLo, e165.xHi)))) := by
            intro _
            refine o_bld (dt 4 (fun w m => m.pick [2, 3, 4] rfl)) (qs := [(0, (.int .i64 0)), (1, (.int .i64 t154))]) (cells := [(.int .i64 0), (.int .i64 t154)]) (by intro ρ h; simp only [List.map_toArray, List.map_cons, List.map_nil, h (.const (.int .i64 0)) _ rfl, h (.tmp 43) _ rfl]) rfl bld71 rfl ?_
            refine d_two (i := 9) (j := 11) rfl rfl (by kernel_rfl) ?_ ?_
            · intro o ho; cases ho
              refine o_bsl (enc := encGSpan) (qs := [(0, (.agg #[(.int .i64 0), (.int .i64 r13)])), (1, (.agg #[(.int .i64 0), (.int .i64 t154)])), (2, (.agg #[(.int .i64 t153), (.int .i64 r13)]))]) (cells := [(.int .i64 0), (.int .i64 r13), (.int .i64 0), (.int .i64 t154), (.int .i64 t153), (.int .i64 r13)]) ([(GSpan.mk 0 r13), (GSpan.mk 0 t154), (GSpan.mk t153 r13)]) flelGSpan (by intro ρ h; simp only [List.map_toArray, List.map_cons, List.map_nil, h (.tmp 41) _ rfl, h (.tmp 44) _ rfl, h (.tmp 48) _ rfl]) rfl el72 zero71 rfl rfl rfl rfl rfl rfl ?_; intro v173
              refine d_and (fun w m => m.pick [3, 4, 5] rfl) ?_
              refine pk [0, 1, 2, 3, 4, 5] rfl ?_
              refine re (E' := [(0, (.pointer (some ⟨b1, 0, none⟩))), (1, (.int .i64 n_1)), (4, (.pointer (some ⟨b5, 0, none⟩))), (5, (.pointer (some ⟨b11, 0, none⟩))), (6, (.int .i64 r13)), (7, (.pointer (some ⟨b16, 0, none⟩))), (50, (.pointer (some ⟨b1, 0, none⟩))), (49, v173)]) ⟨rfl, rfl, rfl, rfl, rfl, rfl, rfl, rfl, trivial⟩ ?_
              exact H586 v173
            · intro o ho; cases ho
              refine o_call (vs := [(.pointer (some ⟨b1, 0, none⟩)), (.int .i64 3)]) (M0 := [cellCh b1 [v2, (.int .i64 r157)] 104]) Tryd.call60 rfl rfl (by intro w m h; exact (w_spec_l20Rd_pick (F := allB [cellCh b1 [v2, (.int .i64 r157)] 104] w) (r_0_b := r_0_b) (r_0_p := r157) (n_1 := 3) allB_ok m.given (m.rdM 3 rfl (reads_snap hv2)) h).mono (fun _ _ k => ret_free (fun r u => (fr_cons free_cell fr_nil)) k)) ?_; rintro ⟨r174, r175⟩ _
              refine d_and (fun w m => m.pick [2, 3, 4] rfl) ?_
              refine pk [0, 1, 2, 3, 4] rfl ?_
              refine re (E' := [(0, (.pointer (some ⟨b1, 0, none⟩))), (1, (.int .i64 n_1)), (4, (.pointer (some ⟨b5, 0, none⟩))), (5, (.pointer (some ⟨b11, 0, none⟩))), (6, (.int .i64 r13)), (7, (.pointer (some ⟨b16, 0, none⟩))), (41, (.agg #[(.int .i64 0), (.int .i64 r13)])), (44, (.agg #[(.int .i64 0), (.int .i64 t154)])), (48, (.agg #[(.int .i64 t153), (.int .i64 r13)])), (51, (.int .i64 r174))]) ⟨rfl, rfl, rfl, rfl, rfl, rfl, rfl, rfl, rfl, rfl, trivial⟩ ?_
              exact H587 r174 r175
          have H593 : ∀ (r176 : Int) (r177 : Int), Nx 83 (gB F [cellCh b1 [v2, (.int .i64 r_0_p)] 104] w0) (feet [cellCh b1 [v2, (.int .i64 r_0_p)] 104]) w0 (wpAnyH Tryd.prog .any (opsAt Tryd.f117 [1, 1, 1, 1, 1, 0, 1, 0]) Qd (Mem (gB F [cellCh b1 [v2, (.int .i64 r_0_p)] 104] w0) (feet [cellCh b1 [v2, (.int .i64 r_0_p)] 104]) w0 [cellCh b11 [(.int .i64 r7), (.int .i64 0), (.int .i64 0), (.bool (decide (r9 = 0)))] 125, cellCh b5 [(.int .i64 0), (.int .i64 0), (.int .i64 0), (.bool false)] 125, snapCh w0 F]) 5 #[true, true, true, true, false, true, true, true, true, false, true, true, false, false, false]) [(0, (.pointer (some ⟨b1, 0, none⟩))), (1, (.int .i64 n_1)), (4, (.pointer (some ⟨b5, 0, none⟩))), (5, (.pointer (some ⟨b11, 0, none⟩))), (6, (.int .i64 r13)), (7, (.pointer (some ⟨b16, 0, none⟩))), (41, (.agg #[(.int .i64 0), (.int .i64 r13)])), (48, (.agg #[(.int .i64 t153), (.int .i64 r13)])), (51, (.int .i64 r176)), (43, (.int .i64 t154))] [cellCh b1 [v2, (.int .i64 r177)] 104, cellCh b16 [(.int .i64 t153), (.int .i64 t154)] 71, cellCh b11 [(.int .i64 r7), (.int .i64 0), (.int .i64 0), (.bool (decide (r9 = 0)))] 125, cellCh b5 [(.int .i64 0), (.int .i64 0), (.int .i64 0), (.bool false)] 125, snapCh w0 F] (idxW ([(GSpan.mk 0 r13), (GSpan.mk 0 t154), (GSpan.mk t153 r13)]) r176 (fun e165 => k161 (r177, e165.xLo, e165.xHi))) := by
            intro r176 r177
            refine o_bld (dt 4 (fun w m => m.pick [2, 3, 4] rfl)) (qs := [(0, (.int .i64 0)), (1, (.int .i64 t154))]) (cells := [(.int .i64 0), (.int .i64 t154)]) (by intro ρ h; simp only [List.map_toArray, List.map_cons, List.map_nil, h (.const (.int .i64 0)) _ rfl, h (.tmp 43) _ rfl]) rfl bld71 rfl ?_
            refine d_one (i := 9) rfl (by kernel_rfl) (o_bsl (enc := encGSpan) (qs := [(0, (.agg #[(.int .i64 0), (.int .i64 r13)])), (1, (.agg #[(.int .i64 0), (.int .i64 t154)])), (2, (.agg #[(.int .i64 t153), (.int .i64 r13)]))]) (cells := [(.int .i64 0), (.int .i64 r13), (.int .i64 0), (.int .i64 t154), (.int .i64 t153), (.int .i64 r13)]) ([(GSpan.mk 0 r13), (GSpan.mk 0 t154), (GSpan.mk t153 r13)]) flelGSpan (by intro ρ h; simp only [List.map_toArray, List.map_cons, List.map_nil, h (.tmp 41) _ rfl, h (.tmp 44) _ rfl, h (.tmp 48) _ rfl]) rfl el72 zero71 rfl rfl rfl rfl rfl rfl ?_); intro v178
            refine d_and (fun w m => m.pick [3, 4, 5] rfl) ?_
            refine pk [1, 0, 2, 3, 4, 5] rfl ?_
            refine re (E' := [(0, (.pointer (some ⟨b1, 0, none⟩))), (1, (.int .i64 n_1)), (4, (.pointer (some ⟨b5, 0, none⟩))), (5, (.pointer (some ⟨b11, 0, none⟩))), (6, (.int .i64 r13)), (7, (.pointer (some ⟨b16, 0, none⟩))), (49, v178), (51, (.int .i64 r176))]) ⟨rfl, rfl, rfl, rfl, rfl, rfl, rfl, rfl, trivial⟩ ?_
            exact H585 v178 r176 r177
          have H594 : ∀ (r176 : Int) (r177 : Int), Nx 83 (gB F [cellCh b1 [v2, (.int .i64 r_0_p)] 104] w0) (feet [cellCh b1 [v2, (.int .i64 r_0_p)] 104]) w0 (wpAnyH Tryd.prog .any (opsAt Tryd.f117 [1, 1, 1, 1, 1, 0, 1, 0]) Qd (Mem (gB F [cellCh b1 [v2, (.int .i64 r_0_p)] 104] w0) (feet [cellCh b1 [v2, (.int .i64 r_0_p)] 104]) w0 [cellCh b11 [(.int .i64 r7), (.int .i64 0), (.int .i64 0), (.bool (decide (r9 = 0)))] 125, cellCh b5 [(.int .i64 0), (.int .i64 0), (.int .i64 0), (.bool false)] 125, snapCh w0 F]) 6 #[true, true, true, false, false, true, true, true, true, false, true, true, false, false, false]) [(0, (.pointer (some ⟨b1, 0, none⟩))), (1, (.int .i64 n_1)), (4, (.pointer (some ⟨b5, 0, none⟩))), (5, (.pointer (some ⟨b11, 0, none⟩))), (6, (.int .i64 r13)), (7, (.pointer (some ⟨b16, 0, none⟩))), (41, (.agg #[(.int .i64 0), (.int .i64 r13)])), (42, (.pointer (some ⟨b16, 1, none⟩))), (48, (.agg #[(.int .i64 t153), (.int .i64 r13)])), (51, (.int .i64 r176))] [cellCh b1 [v2, (.int .i64 r177)] 104, cellCh b16 [(.int .i64 t153), (.int .i64 t154)] 71, cellCh b11 [(.int .i64 r7), (.int .i64 0), (.int .i64 0), (.bool (decide (r9 = 0)))] 125, cellCh b5 [(.int .i64 0), (.int .i64 0), (.int .i64 0), (.bool false)] 125, snapCh w0 F] (idxW ([(GSpan.mk 0 r13), (GSpan.mk 0 t154), (GSpan.mk t153 r13)]) r176 (fun e165 => k161 (r177, e165.xLo, e165.xHi))) := by
            intro r176 r177
            refine d_one (i := 3) rfl (by kernel_rfl) (o_ldc m_op (v := (.int .i64 t154)) 1 rfl rfl rfl ty3 rfl ?_)
            refine d_and (fun w m => m.pick [2, 3, 4] rfl) ?_
            refine pk [0, 1, 2, 3, 4] rfl ?_
            refine re (E' := [(0, (.pointer (some ⟨b1, 0, none⟩))), (1, (.int .i64 n_1)), (4, (.pointer (some ⟨b5, 0, none⟩))), (5, (.pointer (some ⟨b11, 0, none⟩))), (6, (.int .i64 r13)), (7, (.pointer (some ⟨b16, 0, none⟩))), (41, (.agg #[(.int .i64 0), (.int .i64 r13)])), (48, (.agg #[(.int .i64 t153), (.int .i64 r13)])), (51, (.int .i64 r176)), (43, (.int .i64 t154))]) ⟨rfl, rfl, rfl, rfl, rfl, rfl, rfl, rfl, rfl, rfl, trivial⟩ ?_
            exact H593 r176 r177
          have H595 : ∀ (_ : Unit), Nx 83 (gB F [cellCh b1 [v2, (.int .i64 r_0_p)] 104] w0) (feet [cellCh b1 [v2, (.int .i64 r_0_p)] 104]) w0 (wpAnyH Tryd.prog .any (opsAt Tryd.f117 [1, 1, 1, 1, 1, 0, 1, 0]) Qd (Mem (gB F [cellCh b1 [v2, (.int .i64 r_0_p)] 104] w0) (feet [cellCh b1 [v2, (.int .i64 r_0_p)] 104]) w0 [cellCh b11 [(.int .i64 r7), (.int .i64 0), (.int .i64 0), (.bool (decide (r9 = 0)))] 125, cellCh b5 [(.int .i64 0), (.int .i64 0), (.int .i64 0), (.bool false)] 125, snapCh w0 F]) 8 #[true, true, true, false, false, true, true, true, false, false, true, false, false, false, false]) [(0, (.pointer (some ⟨b1, 0, none⟩))), (1, (.int .i64 n_1)), (4, (.pointer (some ⟨b5, 0, none⟩))), (5, (.pointer (some ⟨b11, 0, none⟩))), (6, (.int .i64 r13)), (7, (.pointer (some ⟨b16, 0, none⟩))), (41, (.agg #[(.int .i64 0), (.int .i64 r13)])), (42, (.pointer (some ⟨b16, 1, none⟩))), (47, (.int .i64 r13)), (50, (.pointer (some ⟨b1, 0, none⟩))), (46, (.int .i64 t153))] [cellCh b1 [v2, (.int .i64 r157)] 104, cellCh b16 [(.int .i64 t153), (.int .i64 t154)] 71, cellCh b11 [(.int .i64 r7), (.int .i64 0), (.int .i64 0), (.bool (decide (r9 = 0)))] 125, cellCh b5 [(.int .i64 0), (.int .i64 0), (.int .i64 0), (.bool false)] 125, snapCh w0 F] (L_spec_l20Rd_pick r_0_b r157 3 (fun (r163, r164) => idxW ([(GSpan.mk 0 r13), (GSpan.mk 0 t154), (GSpan.mk t153 r13)]) r163 (fun e165 => k161 (r164, e165.xLo, e165.xHi)))) := by
            intro _
            refine o_bld (dt 8 (fun w m => m.pick [2, 3, 4] rfl)) (qs := [(0, (.int .i64 t153)), (1, (.int .i64 r13))]) (cells := [(.int .i64 t153), (.int .i64 r13)]) (by intro ρ h; simp only [List.map_toArray, List.map_cons, List.map_nil, h (.tmp 46) _ rfl, h (.tmp 47) _ rfl]) rfl bld71 rfl ?_
            refine d_two (i := 3) (j := 11) rfl rfl (by kernel_rfl) ?_ ?_
            · intro o ho; cases ho
              refine o_ldc m_op (v := (.int .i64 t154)) 1 rfl rfl rfl ty3 rfl ?_
              refine d_and (fun w m => m.pick [2, 3, 4] rfl) ?_
              refine pk [0, 1, 2, 3, 4] rfl ?_
              refine re (E' := [(0, (.pointer (some ⟨b1, 0, none⟩))), (1, (.int .i64 n_1)), (4, (.pointer (some ⟨b5, 0, none⟩))), (5, (.pointer (some ⟨b11, 0, none⟩))), (6, (.int .i64 r13)), (7, (.pointer (some ⟨b16, 0, none⟩))), (41, (.agg #[(.int .i64 0), (.int .i64 r13)])), (50, (.pointer (some ⟨b1, 0, none⟩))), (48, (.agg #[(.int .i64 t153), (.int .i64 r13)])), (43, (.int .i64 t154))]) ⟨rfl, rfl, rfl, rfl, rfl, rfl, rfl, rfl, rfl, rfl, trivial⟩ ?_
              exact H592 ()
            · intro o ho; cases ho
              refine o_call (vs := [(.pointer (some ⟨b1, 0, none⟩)), (.int .i64 3)]) (M0 := [cellCh b1 [v2, (.int .i64 r157)] 104]) Tryd.call60 rfl rfl (by intro w m h; exact (w_spec_l20Rd_pick (F := allB [cellCh b1 [v2, (.int .i64 r157)] 104] w) (r_0_b := r_0_b) (r_0_p := r157) (n_1 := 3) allB_ok m.given (m.rdM 3 rfl (reads_snap hv2)) h).mono (fun _ _ k => ret_free (fun r u => (fr_cons free_cell fr_nil)) k)) ?_; rintro ⟨r176, r177⟩ _
              refine d_and (fun w m => m.pick [2, 3, 4] rfl) ?_
              refine pk [0, 1, 2, 3, 4] rfl ?_
              refine re (E' := [(0, (.pointer (some ⟨b1, 0, none⟩))), (1, (.int .i64 n_1)), (4, (.pointer (some ⟨b5, 0, none⟩))), (5, (.pointer (some ⟨b11, 0, none⟩))), (6, (.int .i64 r13)), (7, (.pointer (some ⟨b16, 0, none⟩))), (41, (.agg #[(.int .i64 0), (.int .i64 r13)])), (42, (.pointer (some ⟨b16, 1, none⟩))), (48, (.agg #[(.int .i64 t153), (.int .i64 r13)])), (51, (.int .i64 r176))]) ⟨rfl, rfl, rfl, rfl, rfl, rfl, rfl, rfl, rfl, rfl, trivial⟩ ?_
              exact H594 r176 r177
          have H596 : ∀ (r179 : Int) (r180 : Int), Nx 83 (gB F [cellCh b1 [v2, (.int .i64 r_0_p)] 104] w0) (feet [cellCh b1 [v2, (.int .i64 r_0_p)] 104]) w0 (wpAnyH Tryd.prog .any (opsAt Tryd.f117 [1, 1, 1, 1, 1, 0, 1, 0]) Qd (Mem (gB F [cellCh b1 [v2, (.int .i64 r_0_p)] 104] w0) (feet [cellCh b1 [v2, (.int .i64 r_0_p)] 104]) w0 [cellCh b11 [(.int .i64 r7), (.int .i64 0), (.int .i64 0), (.bool (decide (r9 = 0)))] 125, cellCh b5 [(.int .i64 0), (.int .i64 0), (.int .i64 0), (.bool false)] 125, snapCh w0 F]) 7 #[true, true, true, true, false, true, false, true, false, false, true, true, false, false, false]) [(0, (.pointer (some ⟨b1, 0, none⟩))), (1, (.int .i64 n_1)), (4, (.pointer (some ⟨b5, 0, none⟩))), (5, (.pointer (some ⟨b11, 0, none⟩))), (6, (.int .i64 r13)), (7, (.pointer (some ⟨b16, 0, none⟩))), (41, (.agg #[(.int .i64 0), (.int .i64 r13)])), (45, (.pointer (some ⟨b16, 0, none⟩))), (47, (.int .i64 r13)), (51, (.int .i64 r179)), (43, (.int .i64 t154))] [cellCh b1 [v2, (.int .i64 r180)] 104, cellCh b16 [(.int .i64 t153), (.int .i64 t154)] 71, cellCh b11 [(.int .i64 r7), (.int .i64 0), (.int .i64 0), (.bool (decide (r9 = 0)))] 125, cellCh b5 [(.int .i64 0), (.int .i64 0), (.int .i64 0), (.bool false)] 125, snapCh w0 F] (idxW ([(GSpan.mk 0 r13), (GSpan.mk 0 t154), (GSpan.mk t153 r13)]) r179 (fun e165 => k161 (r180, e165.xLo, e165.xHi))) := by
            intro r179 r180
            refine o_bld (dt 4 (fun w m => m.pick [2, 3, 4] rfl)) (qs := [(0, (.int .i64 0)), (1, (.int .i64 t154))]) (cells := [(.int .i64 0), (.int .i64 t154)]) (by intro ρ h; simp only [List.map_toArray, List.map_cons, List.map_nil, h (.const (.int .i64 0)) _ rfl, h (.tmp 43) _ rfl]) rfl bld71 rfl ?_
            refine d_one (i := 6) rfl (by kernel_rfl) (o_ldc m_op (v := (.int .i64 t153)) 1 rfl rfl rfl ty3 rfl ?_)
            refine d_and (fun w m => m.pick [2, 3, 4] rfl) ?_
            refine pk [0, 1, 2, 3, 4] rfl ?_
            refine re (E' := [(0, (.pointer (some ⟨b1, 0, none⟩))), (1, (.int .i64 n_1)), (4, (.pointer (some ⟨b5, 0, none⟩))), (5, (.pointer (some ⟨b11, 0, none⟩))), (6, (.int .i64 r13)), (7, (.pointer (some ⟨b16, 0, none⟩))), (41, (.agg #[(.int .i64 0), (.int .i64 r13)])), (47, (.int .i64 r13)), (44, (.agg #[(.int .i64 0), (.int .i64 t154)])), (51, (.int .i64 r179)), (46, (.int .i64 t153))]) ⟨rfl, rfl, rfl, rfl, rfl, rfl, rfl, rfl, rfl, rfl, rfl, trivial⟩ ?_
            exact H589 r179 r180
          have H597 : ∀ (r179 : Int) (r180 : Int), Nx 83 (gB F [cellCh b1 [v2, (.int .i64 r_0_p)] 104] w0) (feet [cellCh b1 [v2, (.int .i64 r_0_p)] 104]) w0 (wpAnyH Tryd.prog .any (opsAt Tryd.f117 [1, 1, 1, 1, 1, 0, 1, 0]) Qd (Mem (gB F [cellCh b1 [v2, (.int .i64 r_0_p)] 104] w0) (feet [cellCh b1 [v2, (.int .i64 r_0_p)] 104]) w0 [cellCh b11 [(.int .i64 r7), (.int .i64 0), (.int .i64 0), (.bool (decide (r9 = 0)))] 125, cellCh b5 [(.int .i64 0), (.int .i64 0), (.int .i64 0), (.bool false)] 125, snapCh w0 F]) 7 #[true, true, true, false, false, true, true, true, false, false, true, true, false, false, false]) [(0, (.pointer (some ⟨b1, 0, none⟩))), (1, (.int .i64 n_1)), (4, (.pointer (some ⟨b5, 0, none⟩))), (5, (.pointer (some ⟨b11, 0, none⟩))), (6, (.int .i64 r13)), (7, (.pointer (some ⟨b16, 0, none⟩))), (41, (.agg #[(.int .i64 0), (.int .i64 r13)])), (42, (.pointer (some ⟨b16, 1, none⟩))), (47, (.int .i64 r13)), (51, (.int .i64 r179)), (46, (.int .i64 t153))] [cellCh b1 [v2, (.int .i64 r180)] 104, cellCh b16 [(.int .i64 t153), (.int .i64 t154)] 71, cellCh b11 [(.int .i64 r7), (.int .i64 0), (.int .i64 0), (.bool (decide (r9 = 0)))] 125, cellCh b5 [(.int .i64 0), (.int .i64 0), (.int .i64 0), (.bool false)] 125, snapCh w0 F] (idxW ([(GSpan.mk 0 r13), (GSpan.mk 0 t154), (GSpan.mk t153 r13)]) r179 (fun e165 => k161 (r180, e165.xLo, e165.xHi))) := by
            intro r179 r180
            refine o_bld (dt 8 (fun w m => m.pick [2, 3, 4] rfl)) (qs := [(0, (.int .i64 t153)), (1, (.int .i64 r13))]) (cells := [(.int .i64 t153), (.int .i64 r13)]) (by intro ρ h; simp only [List.map_toArray, List.map_cons, List.map_nil, h (.tmp 46) _ rfl, h (.tmp 47) _ rfl]) rfl bld71 rfl ?_
            refine d_one (i := 3) rfl (by kernel_rfl) (o_ldc m_op (v := (.int .i64 t154)) 1 rfl rfl rfl ty3 rfl ?_)
            refine d_and (fun w m => m.pick [2, 3, 4] rfl) ?_
            refine pk [0, 1, 2, 3, 4] rfl ?_
            refine re (E' := [(0, (.pointer (some ⟨b1, 0, none⟩))), (1, (.int .i64 n_1)), (4, (.pointer (some ⟨b5, 0, none⟩))), (5, (.pointer (some ⟨b11, 0, none⟩))), (6, (.int .i64 r13)), (7, (.pointer (some ⟨b16, 0, none⟩))), (41, (.agg #[(.int .i64 0), (.int .i64 r13)])), (48, (.agg #[(.int .i64 t153), (.int .i64 r13)])), (51, (.int .i64 r179)), (43, (.int .i64 t154))]) ⟨rfl, rfl, rfl, rfl, rfl, rfl, rfl, rfl, rfl, rfl, trivial⟩ ?_
            exact H593 r179 r180
          have H598 : ∀ (r179 : Int) (r180 : Int), Nx 83 (gB F [cellCh b1 [v2, (.int .i64 r_0_p)] 104] w0) (feet [cellCh b1 [v2, (.int .i64 r_0_p)] 104]) w0 (wpAnyH Tryd.prog .any (opsAt Tryd.f117 [1, 1, 1, 1, 1, 0, 1, 0]) Qd (Mem (gB F [cellCh b1 [v2, (.int .i64 r_0_p)] 104] w0) (feet [cellCh b1 [v2, (.int .i64 r_0_p)] 104]) w0 [cellCh b11 [(.int .i64 r7), (.int .i64 0), (.int .i64 0), (.bool (decide (r9 = 0)))] 125, cellCh b5 [(.int .i64 0), (.int .i64 0), (.int .i64 0), (.bool false)] 125, snapCh w0 F]) 8 #[true, true, true, false, false, true, false, true, false, false, true, true, false, false, false]) [(0, (.pointer (some ⟨b1, 0, none⟩))), (1, (.int .i64 n_1)), (4, (.pointer (some ⟨b5, 0, none⟩))), (5, (.pointer (some ⟨b11, 0, none⟩))), (6, (.int .i64 r13)), (7, (.pointer (some ⟨b16, 0, none⟩))), (41, (.agg #[(.int .i64 0), (.int .i64 r13)])), (42, (.pointer (some ⟨b16, 1, none⟩))), (45, (.pointer (some ⟨b16, 0, none⟩))), (47, (.int .i64 r13)), (51, (.int .i64 r179))] [cellCh b1 [v2, (.int .i64 r180)] 104, cellCh b16 [(.int .i64 t153), (.int .i64 t154)] 71, cellCh b11 [(.int .i64 r7), (.int .i64 0), (.int .i64 0), (.bool (decide (r9 = 0)))] 125, cellCh b5 [(.int .i64 0), (.int .i64 0), (.int .i64 0), (.bool false)] 125, snapCh w0 F] (idxW ([(GSpan.mk 0 r13), (GSpan.mk 0 t154), (GSpan.mk t153 r13)]) r179 (fun e165 => k161 (r180, e165.xLo, e165.xHi))) := by
            intro r179 r180
            refine d_two (i := 3) (j := 6) rfl rfl (by kernel_rfl) ?_ ?_
            · intro o ho; cases ho
              refine o_ldc m_op (v := (.int .i64 t154)) 1 rfl rfl rfl ty3 rfl ?_
              refine d_and (fun w m => m.pick [2, 3, 4] rfl) ?_
              refine pk [0, 1, 2, 3, 4] rfl ?_
              refine re (E' := [(0, (.pointer (some ⟨b1, 0, none⟩))), (1, (.int .i64 n_1)), (4, (.pointer (some ⟨b5, 0, none⟩))), (5, (.pointer (some ⟨b11, 0, none⟩))), (6, (.int .i64 r13)), (7, (.pointer (some ⟨b16, 0, none⟩))), (41, (.agg #[(.int .i64 0), (.int .i64 r13)])), (45, (.pointer (some ⟨b16, 0, none⟩))), (47, (.int .i64 r13)), (51, (.int .i64 r179)), (43, (.int .i64 t154))]) ⟨rfl, rfl, rfl, rfl, rfl, rfl, rfl, rfl, rfl, rfl, rfl, trivial⟩ ?_
              exact H596 r179 r180
            · intro o ho; cases ho
              refine o_ldc m_op (v := (.int .i64 t153)) 1 rfl rfl rfl ty3 rfl ?_
              refine d_and (fun w m => m.pick [2, 3, 4] rfl) ?_
              refine pk [0, 1, 2, 3, 4] rfl ?_
              refine re (E' := [(0, (.pointer (some ⟨b1, 0, none⟩))), (1, (.int .i64 n_1)), (4, (.pointer (some ⟨b5, 0, none⟩))), (5, (.pointer (some ⟨b11, 0, none⟩))), (6, (.int .i64 r13)), (7, (.pointer (some ⟨b16, 0, none⟩))), (41, (.agg #[(.int .i64 0), (.int .i64 r13)])), (42, (.pointer (some ⟨b16, 1, none⟩))), (47, (.int .i64 r13)), (51, (.int .i64 r179)), (46, (.int .i64 t153))]) ⟨rfl, rfl, rfl, rfl, rfl, rfl, rfl, rfl, rfl, rfl, rfl, trivial⟩ ?_
              exact H597 r179 r180
          refine o_mv (dt 0 (fun w m => m.pick [2, 3, 4] rfl)) rfl rfl ?_
          refine o_bld (dt 1 (fun w m => m.pick [2, 3, 4] rfl)) (qs := [(0, (.int .i64 0)), (1, (.int .i64 r13))]) (cells := [(.int .i64 0), (.int .i64 r13)]) (by intro ρ h; simp only [List.map_toArray, List.map_cons, List.map_nil, h (.const (.int .i64 0)) _ rfl, h (.tmp 40) _ rfl]) rfl bld71 rfl ?_
          refine o_fad (dt 2 (fun w m => m.pick [2, 3, 4] rfl)) rfl rfl fld71_1 rfl ?_
          refine o_fad (dt 5 (fun w m => m.pick [2, 3, 4] rfl)) rfl rfl fld71_0 rfl ?_
          refine o_mv (dt 7 (fun w m => m.pick [2, 3, 4] rfl)) rfl rfl ?_
          refine o_mv (dt 10 (fun w m => m.pick [2, 3, 4] rfl)) rfl rfl ?_
          refine d_three (i := 3) (j := 6) (l := 11) rfl rfl rfl (by kernel_rfl) ?_ ?_ ?_
          · intro o ho; cases ho
            refine o_ldc m_op (v := (.int .i64 t154)) 1 rfl rfl rfl ty3 rfl ?_
            refine d_and (fun w m => m.pick [2, 3, 4] rfl) ?_
            refine pk [0, 1, 2, 3, 4] rfl ?_
            refine re (E' := [(0, (.pointer (some ⟨b1, 0, none⟩))), (1, (.int .i64 n_1)), (4, (.pointer (some ⟨b5, 0, none⟩))), (5, (.pointer (some ⟨b11, 0, none⟩))), (6, (.int .i64 r13)), (7, (.pointer (some ⟨b16, 0, none⟩))), (41, (.agg #[(.int .i64 0), (.int .i64 r13)])), (45, (.pointer (some ⟨b16, 0, none⟩))), (47, (.int .i64 r13)), (50, (.pointer (some ⟨b1, 0, none⟩))), (43, (.int .i64 t154))]) ⟨rfl, rfl, rfl, rfl, rfl, rfl, rfl, rfl, rfl, rfl, rfl, trivial⟩ ?_
            exact H591 ()
          · intro o ho; cases ho
            refine o_ldc m_op (v := (.int .i64 t153)) 1 rfl rfl rfl ty3 rfl ?_
            refine d_and (fun w m => m.pick [2, 3, 4] rfl) ?_
            refine pk [0, 1, 2, 3, 4] rfl ?_
            refine re (E' := [(0, (.pointer (some ⟨b1, 0, none⟩))), (1, (.int .i64 n_1)), (4, (.pointer (some ⟨b5, 0, none⟩))), (5, (.pointer (some ⟨b11, 0, none⟩))), (6, (.int .i64 r13)), (7, (.pointer (some ⟨b16, 0, none⟩))), (41, (.agg #[(.int .i64 0), (.int .i64 r13)])), (42, (.pointer (some ⟨b16, 1, none⟩))), (47, (.int .i64 r13)), (50, (.pointer (some ⟨b1, 0, none⟩))), (46, (.int .i64 t153))]) ⟨rfl, rfl, rfl, rfl, rfl, rfl, rfl, rfl, rfl, rfl, rfl, trivial⟩ ?_
            exact H595 ()
          · intro o ho; cases ho
            refine o_call (vs := [(.pointer (some ⟨b1, 0, none⟩)), (.int .i64 3)]) (M0 := [cellCh b1 [v2, (.int .i64 r157)] 104]) Tryd.call60 rfl rfl (by intro w m h; exact (w_spec_l20Rd_pick (F := allB [cellCh b1 [v2, (.int .i64 r157)] 104] w) (r_0_b := r_0_b) (r_0_p := r157) (n_1 := 3) allB_ok m.given (m.rdM 3 rfl (reads_snap hv2)) h).mono (fun _ _ k => ret_free (fun r u => (fr_cons free_cell fr_nil)) k)) ?_; rintro ⟨r179, r180⟩ _
            refine d_and (fun w m => m.pick [2, 3, 4] rfl) ?_
            refine pk [0, 1, 2, 3, 4] rfl ?_
            refine re (E' := [(0, (.pointer (some ⟨b1, 0, none⟩))), (1, (.int .i64 n_1)), (4, (.pointer (some ⟨b5, 0, none⟩))), (5, (.pointer (some ⟨b11, 0, none⟩))), (6, (.int .i64 r13)), (7, (.pointer (some ⟨b16, 0, none⟩))), (41, (.agg #[(.int .i64 0), (.int .i64 r13)])), (42, (.pointer (some ⟨b16, 1, none⟩))), (45, (.pointer (some ⟨b16, 0, none⟩))), (47, (.int .i64 r13)), (51, (.int .i64 r179))]) ⟨rfl, rfl, rfl, rfl, rfl, rfl, rfl, rfl, rfl, rfl, rfl, trivial⟩ ?_
            exact H598 r179 r180
        · rintro ⟨t158, t159, t160⟩ a w ⟨hE, hm⟩ h
          refine nx_of hE hm h ?_
          clear hE hm h
          exact l_join (t158, t159, t160) (fun a w hE hm => ⟨hE.sub ⟨rfl, rfl, rfl, rfl, rfl, rfl, trivial⟩, (hm.pick [0, 1, 2, 3, 4] rfl)⟩)
      · refine c_skip ?_
        exact l_join (r157, t153, t154) (fun a w hE hm => ⟨hE.sub ⟨rfl, rfl, rfl, rfl, rfl, rfl, trivial⟩, (hm.pick [0, 1, 2, 3, 4] rfl)⟩)
    · rintro ⟨t241, t242, t243⟩ a w ⟨hE, hm⟩ h
      refine nx_of hE hm h ?_
      clear hE hm h
      refine c_seq ?_
      refine c_region ?_
      refine o_fad st rfl rfl fld71_0 rfl ?_
      refine o_ldc st (v := (.int .i64 t242)) 1 rfl rfl rfl ty3 rfl ?_
      refine o_fad st rfl rfl fld125_1 rfl ?_
      refine stw (o_stc (cs' := [(.int .i64 r7), (.int .i64 t242), (.int .i64 0), (.bool (decide (r9 = 0)))]) 2 rfl rfl rfl ty3 rfl rfl rfl rfl ?_)
      refine c_nil ?_
      refine l_then ?_
      refine c_seq ?_
      refine c_region ?_
      refine o_fad st rfl rfl fld71_1 rfl ?_
      refine o_ldc st (v := (.int .i64 t243)) 1 rfl rfl rfl ty3 rfl ?_
      refine o_fad st rfl rfl fld125_2 rfl ?_
      refine stw (o_stc (cs' := [(.int .i64 r7), (.int .i64 t242), (.int .i64 t243), (.bool (decide (r9 = 0)))]) 2 rfl rfl rfl ty3 rfl rfl rfl rfl ?_)
      refine c_nil ?_
      refine l_then ?_
      refine c_join (σ := (Int × Int × Int × Int)) (fun ((t317, t318, t319, t320) : (Int × Int × Int × Int)) (a : Act) (w : World) => Has 83 [(4, (.pointer (some ⟨b5, 0, none⟩))), (5, (.pointer (some ⟨b11, 0, none⟩)))] a ∧ Mem (gB F [cellCh b1 [v2, (.int .i64 r_0_p)] 104] w0) (feet [cellCh b1 [v2, (.int .i64 r_0_p)] 104]) w0 [cellCh b1 [v2, (.int .i64 t317)] 104, cellCh b11 [(.int .i64 t318), (.int .i64 t319), (.int .i64 t320), (.bool (decide (r9 = 0)))] 125, cellCh b5 [(.int .i64 0), (.int .i64 0), (.int .i64 0), (.bool false)] 125, snapCh w0 F] w) ?_ ?_
      · intro k321
        refine c_seq ?_
        refine c_region ?_
        refine o_mv st rfl rfl ?_
        refine o_mv st rfl rfl ?_
        refine stw (o_call (vs := [(.pointer (some ⟨b1, 0, none⟩)), (.int .i64 n_1)]) (M0 := [cellCh b1 [v2, (.int .i64 t241)] 104]) Tryd.call64 rfl rfl (by intro w m h; exact (w_spec_l20Rd_odd (F := allB [cellCh b1 [v2, (.int .i64 t241)] 104] w) (r_0_b := r_0_b) (r_0_p := t241) (n_1 := n_1) allB_ok m.given (m.rdM 3 rfl (reads_snap hv2)) h).mono (fun _ _ k => ret_free (fun r u => (fr_cons free_cell fr_nil)) k)) ?_); rintro ⟨r245, r246⟩ _
        refine c_nil ?_
        refine l_then ?_
        refine c_cond rfl ?_ ?_
        · refine c_seq ?_
          refine c_region ?_
          refine o_mv st rfl rfl ?_
          refine stw (o_call (vs := [(.pointer (some ⟨b1, 0, none⟩)), (.int .i64 3)]) (M0 := [cellCh b1 [v2, (.int .i64 r246)] 104]) Tryd.call60 rfl rfl (by intro w m h; exact (w_spec_l20Rd_pick (F := allB [cellCh b1 [v2, (.int .i64 r246)] 104] w) (r_0_b := r_0_b) (r_0_p := r246) (n_1 := 3) allB_ok m.given (m.rdM 3 rfl (reads_snap hv2)) h).mono (fun _ _ k => ret_free (fun r u => (fr_cons free_cell fr_nil)) k)) ?_); rintro ⟨r247, r248⟩ _
          refine c_nil ?_
          refine l_then ?_
          refine c_block ?_
          refine c_seq ?_
          refine c_region ?_
          refine o_eql st und3 rfl rfl rfl ?_
          refine o_as st rfl rfl ?_
          refine c_nil ?_
          refine l_then ?_
          refine c_cond rfl ?_ ?_
          · refine c_region ?_
            refine stw (o_bsl (enc := encInt) (qs := [(0, (.int .i64 (-1))), (1, (.int .i64 4))]) (cells := [(.int .i64 (-1)), (.int .i64 4)]) ([(-1), 4]) flelInt (by intro ρ h; simp only [List.map_toArray, List.map_cons, List.map_nil, h (.const (.int .i64 (-1))) _ rfl, h (.const (.int .i64 4)) _ rfl]) rfl el27 zero3 rfl rfl rfl rfl rfl rfl ?_); intro v249
            refine o_mv st rfl rfl ?_
            refine pk [1, 0, 2, 3, 4, 5] rfl ?_
            refine stw (o_call (vs := [(.pointer (some ⟨b1, 0, none⟩)), (.int .i64 2)]) (M0 := [cellCh b1 [v2, (.int .i64 r248)] 104]) Tryd.call60 rfl rfl (by intro w m h; exact (w_spec_l20Rd_pick (F := allB [cellCh b1 [v2, (.int .i64 r248)] 104] w) (r_0_b := r_0_b) (r_0_p := r248) (n_1 := 2) allB_ok m.given (m.rdM 4 rfl (reads_snap hv2)) h).mono (fun _ _ k => ret_free (fun r u => (fr_cons free_cell fr_nil)) k)) ?_); rintro ⟨r251, r252⟩ _
            refine o_idx st 1 rfl reads_own rfl rfl rfl el27 ?_; intro e253 h254
            refine o_lds st (enc := encInt) (u := (.int .i64 e253)) 1 rfl reads_own flelInt rfl h254 rfl rfl ty3 rfl ?_
            refine o_fad st rfl rfl fld125_0 rfl ?_
            refine stw (o_stc (cs' := [(.int .i64 e253), (.int .i64 t242), (.int .i64 t243), (.bool (decide (r9 = 0)))]) 3 rfl rfl rfl ty3 rfl rfl rfl rfl ?_)
            refine c_nil ?_
            refine b_norm ?_
            exact l_join (r252, e253, t242, t243) (fun a w hE hm => ⟨hE.sub ⟨rfl, rfl, trivial⟩, (hm.pick [0, 3, 4, 5] rfl)⟩)
          · refine c_seq ?_
            refine c_region ?_
            refine o_eql st und3 rfl rfl rfl ?_
            refine o_as st rfl rfl ?_
            refine c_nil ?_
            refine l_then ?_
            refine c_cond rfl ?_ ?_
            · refine c_region ?_
              refine o_fad st rfl rfl fld125_2 rfl ?_
              refine o_ldc st (v := (.int .i64 t243)) 2 rfl rfl rfl ty3 rfl ?_
              refine o_add st rfl rfl rfl ?_; intro t255
              refine o_fad st rfl rfl fld125_1 rfl ?_
              refine stw (o_stc (cs' := [(.int .i64 r7), (.int .i64 t255), (.int .i64 t243), (.bool (decide (r9 = 0)))]) 2 rfl rfl rfl ty3 rfl rfl rfl rfl ?_)
              refine c_nil ?_
              refine b_norm ?_
              exact l_join (r248, r7, t255, t243) (fun a w hE hm => ⟨hE.sub ⟨rfl, rfl, trivial⟩, (hm.pick [0, 2, 3, 4] rfl)⟩)
            · refine c_region ?_
              refine o_mv st rfl rfl ?_
              refine o_add st rfl rfl rfl ?_; intro t256
              refine o_fad st rfl rfl fld125_2 rfl ?_
              refine stw (o_stc (cs' := [(.int .i64 r7), (.int .i64 t242), (.int .i64 t256), (.bool (decide (r9 = 0)))]) 2 rfl rfl rfl ty3 rfl rfl rfl rfl ?_)
              refine c_nil ?_
              refine b_norm ?_
              exact l_join (r248, r7, t242, t256) (fun a w hE hm => ⟨hE.sub ⟨rfl, rfl, trivial⟩, (hm.pick [0, 2, 3, 4] rfl)⟩)
        · refine c_skip ?_
          exact l_join (r246, r7, t242, t243) (fun a w hE hm => ⟨hE.sub ⟨rfl, rfl, trivial⟩, (hm.pick [0, 2, 3, 4] rfl)⟩)
      · rintro ⟨t317, t318, t319, t320⟩ a w ⟨hE, hm⟩ h
        refine nx_of hE hm h ?_
        clear hE hm h
        refine c_seq ?_
        refine c_region ?_
        refine o_ldc st (v := (.agg #[(.int .i64 t318), (.int .i64 t319), (.int .i64 t320), (.bool (decide (r9 = 0)))])) 1 rfl rfl rfl ty125 rfl ?_
        refine stw (o_stc (cs' := [(.int .i64 t318), (.int .i64 t319), (.int .i64 t320), (.bool (decide (r9 = 0)))]) 2 rfl rfl rfl ty125 rfl rfl rfl rfl ?_)
        refine c_nil ?_
        refine l_then ?_
        refine c_ret ?_
        exact l_end1 Tryd.results117 ((GTest.mk t318 t319 t320 (decide (r9 = 0))), t317) () (rv_c 2 rfl rfl ty125 rfl) (fun w m => NewCh.ofB m [0] rfl)

set_option maxRecDepth 100000 in
set_option maxHeartbeats 8000000 in
theorem w_spec_l20Tests {w0 : World} {F : Nat → Prop} {b1 : Nat} {v2 : Value} {r_0_b : (List UInt8)} {r_0_p : Int} {n_1 : Int} {κ : ((List GTest) × Int) → Prop} (hF : ∀ b, F b → b < w0.heap.size ∧ ¬ feet [cellCh b1 [v2, (.int .i64 r_0_p)] 104] b) (hg : Given [cellCh b1 [v2, (.int .i64 r_0_p)] 104] F w0) (hv2 : Sl elU8 F w0 v2 r_0_b) (h : L_spec_l20Tests r_0_b r_0_p n_1 κ) :
    Calls Tryd.prog 94 #[(.pointer (some ⟨b1, 0, none⟩)), (.int .i64 n_1)] w0 (Ret [cellCh b1 [v2, (.int .i64 r_0_p)] 104] F w0 κ (fun (r : ((List GTest) × Int)) (u : Value) => u) (fun (r : ((List GTest) × Int)) (u : Value) => [ownCh elGTest 125 u r.1, cellCh b1 [v2, (.int .i64 r.2)] 104])) := by
  refine enterS (args := [(.pointer (some ⟨b1, 0, none⟩)), (.int .i64 n_1)]) [cellCh b1 [v2, (.int .i64 r_0_p)] 104] hF hg Tryd.func94 rfl Tryd.ntmps94 rfl h ?_
  clear h hF hg
  refine c_seq ?_
  refine c_region ?_
  refine stw (o_asn elGTest 125 rfl rfl ?_)
  refine c_nil ?_
  refine l_then ?_
  refine c_seq ?_
  refine c_region ?_
  refine stw (o_bsl (enc := encGTest) (qs := []) (cells := []) ([] : (List GTest)) flelGTest (by intro ρ h; simp only [List.map_toArray, List.map_cons, List.map_nil]) rfl el80 zero125 rfl rfl rfl rfl rfl rfl ?_); intro v6
  refine o_as st rfl rfl ?_
  refine c_nil ?_
  refine l_then ?_
  refine c_seq ?_
  refine c_seq ?_
  refine c_region ?_
  refine o_mv st rfl rfl ?_
  refine pk [2, 0, 1, 3] rfl ?_
  refine stw (o_call (vs := [(.pointer (some ⟨b1, 0, none⟩)), (.int .i64 4)]) (M0 := [cellCh b1 [v2, (.int .i64 r_0_p)] 104]) Tryd.call60 rfl rfl (by intro w m h; exact (w_spec_l20Rd_pick (F := allB [cellCh b1 [v2, (.int .i64 r_0_p)] 104] w) (r_0_b := r_0_b) (r_0_p := r_0_p) (n_1 := 4) allB_ok m.given (m.rdM 2 rfl (reads_snap hv2)) h).mono (fun _ _ k => ret_free (fun r u => (fr_cons free_cell fr_nil)) k)) ?_); rintro ⟨r8, r9⟩ _
  refine o_as st rfl rfl ?_
  refine c_nil ?_
  refine l_then ?_
  refine c_block ?_
  refine c_loop (σ := (Int × (List GTest) × Int)) (fun ((t10, xs12, t15) : (Int × (List GTest) × Int)) (a : Act) (w : World) => ∃ (v11 : Value), Has 32 [(0, (.pointer (some ⟨b1, 0, none⟩))), (1, (.int .i64 n_1)), (5, v11), (6, (.int .i64 t15))] a ∧ Mem (gB F [cellCh b1 [v2, (.int .i64 r_0_p)] 104] w0) (feet [cellCh b1 [v2, (.int .i64 r_0_p)] 104]) w0 [cellCh b1 [v2, (.int .i64 t10)] 104, snapCh w0 F, ownCh elGTest 125 v11 xs12] w) (fun a w hE hm => ⟨v6, hE.sub ⟨rfl, rfl, rfl, rfl, trivial⟩, (hm.pick [0, 3, 1] rfl)⟩) ?_
  rintro nx16 ⟨t10, xs12, t15⟩ a w ⟨v11, hE, hm⟩ h
  refine nx_of hE hm h ?_
  clear hE hm h
  refine c_seq ?_
  refine c_seq ?_
  refine c_region ?_
  refine o_mv st rfl rfl ?_
  refine o_gtr st rfl rfl rfl ?_
  refine c_nil ?_
  refine l_then ?_
  refine c_cond rfl ?_ ?_
  · refine c_skip ?_
    refine l_then ?_
    refine c_seq ?_
    refine c_block ?_
    refine c_region ?_
    refine o_mv st rfl rfl ?_
    refine o_mv st rfl rfl ?_
    refine stw (o_call (vs := [(.pointer (some ⟨b1, 0, none⟩)), (.int .i64 0)]) (M0 := [cellCh b1 [v2, (.int .i64 t10)] 104]) Tryd.call117 rfl rfl (by intro w m h; exact (w_spec_l20Test (F := allB [cellCh b1 [v2, (.int .i64 t10)] 104] w) (r_0_b := r_0_b) (r_0_p := t10) (n_1 := 0) allB_ok m.given (m.rdM 0 rfl (reads_snap hv2)) h).mono (fun _ _ k => ret_free (fun r u => (fr_cons free_cell fr_nil)) k)) ?_); rintro ⟨r17, r18⟩ _
    refine stw (o_bsl (enc := encGTest) (qs := [(0, (.agg #[(.int .i64 r17.xField), (.int .i64 r17.xLo), (.int .i64 r17.xHi), (.bool r17.xNot)]))]) (cells := [(.int .i64 r17.xField), (.int .i64 r17.xLo), (.int .i64 r17.xHi), (.bool r17.xNot)]) ([r17]) flelGTest (by intro ρ h; simp only [List.map_toArray, List.map_cons, List.map_nil, h (.tmp 16) _ rfl]) rfl el80 zero125 rfl rfl rfl rfl rfl rfl ?_); intro v19
    refine stw (o_app 3 0 rfl rfl (src_flat flelGTest reads_own) rfl rfl rfl el80 rfl zero125 rfl rfl ?_); intro v21
    refine o_as st rfl rfl ?_
    refine c_nil ?_
    refine b_norm ?_
    refine l_then ?_
    refine c_region ?_
    refine o_mv st rfl rfl ?_
    refine o_sub st rfl rfl rfl ?_; intro t23
    refine o_as st rfl rfl ?_
    refine c_nil ?_
    exact l_join (r18, (xs12 ++ ([r17])), t23) (fun a w hE hm => ⟨v21, hE.sub ⟨rfl, rfl, rfl, rfl, trivial⟩, (hm.pick [1, 2, 3] rfl)⟩)
  · refine c_exit ?_
    refine l_exit ?_
    refine l_exit ?_
    refine b_exit ?_
    refine l_then ?_
    refine c_join (σ := (Int × (List GTest))) (fun ((t97, xs99) : (Int × (List GTest))) (a : Act) (w : World) => ∃ (v98 : Value), Has 32 [(5, v98)] a ∧ Mem (gB F [cellCh b1 [v2, (.int .i64 r_0_p)] 104] w0) (feet [cellCh b1 [v2, (.int .i64 r_0_p)] 104]) w0 [cellCh b1 [v2, (.int .i64 t97)] 104, snapCh w0 F, ownCh elGTest 125 v98 xs99] w) ?_ ?_
    · intro k102
      refine c_seq ?_
      refine c_region ?_
      refine o_mv st rfl rfl ?_
      refine o_mv st rfl rfl ?_
      refine stw (o_call (vs := [(.pointer (some ⟨b1, 0, none⟩)), (.int .i64 n_1)]) (M0 := [cellCh b1 [v2, (.int .i64 t10)] 104]) Tryd.call64 rfl rfl (by intro w m h; exact (w_spec_l20Rd_odd (F := allB [cellCh b1 [v2, (.int .i64 t10)] 104] w) (r_0_b := r_0_b) (r_0_p := t10) (n_1 := n_1) allB_ok m.given (m.rdM 0 rfl (reads_snap hv2)) h).mono (fun _ _ k => ret_free (fun r u => (fr_cons free_cell fr_nil)) k)) ?_); rintro ⟨r24, r25⟩ _
      refine c_nil ?_
      refine l_then ?_
      refine c_cond rfl ?_ ?_
      · refine c_seq ?_
        refine c_region ?_
        refine o_mv st rfl rfl ?_
        refine stw (o_call (vs := [(.pointer (some ⟨b1, 0, none⟩)), (.int .i64 2)]) (M0 := [cellCh b1 [v2, (.int .i64 r25)] 104]) Tryd.call60 rfl rfl (by intro w m h; exact (w_spec_l20Rd_pick (F := allB [cellCh b1 [v2, (.int .i64 r25)] 104] w) (r_0_b := r_0_b) (r_0_p := r25) (n_1 := 2) allB_ok m.given (m.rdM 0 rfl (reads_snap hv2)) h).mono (fun _ _ k => ret_free (fun r u => (fr_cons free_cell fr_nil)) k)) ?_); rintro ⟨r26, r27⟩ _
        refine o_eql st und3 rfl rfl rfl ?_
        refine c_nil ?_
        refine l_then ?_
        refine c_cond rfl ?_ ?_
        · refine c_region ?_
          refine o_mv st rfl rfl ?_
          refine o_mv st rfl rfl ?_
          refine stw (o_call (vs := [(.pointer (some ⟨b1, 0, none⟩)), (.int .i64 1)]) (M0 := [cellCh b1 [v2, (.int .i64 r27)] 104]) Tryd.call117 rfl rfl (by intro w m h; exact (w_spec_l20Test (F := allB [cellCh b1 [v2, (.int .i64 r27)] 104] w) (r_0_b := r_0_b) (r_0_p := r27) (n_1 := 1) allB_ok m.given (m.rdM 0 rfl (reads_snap hv2)) h).mono (fun _ _ k => ret_free (fun r u => (fr_cons free_cell fr_nil)) k)) ?_); rintro ⟨r28, r29⟩ _
          refine stw (o_bsl (enc := encGTest) (qs := [(0, (.agg #[(.int .i64 r28.xField), (.int .i64 r28.xLo), (.int .i64 r28.xHi), (.bool r28.xNot)]))]) (cells := [(.int .i64 r28.xField), (.int .i64 r28.xLo), (.int .i64 r28.xHi), (.bool r28.xNot)]) ([r28]) flelGTest (by intro ρ h; simp only [List.map_toArray, List.map_cons, List.map_nil, h (.tmp 27) _ rfl]) rfl el80 zero125 rfl rfl rfl rfl rfl rfl ?_); intro v30
          refine stw (o_app 3 0 rfl rfl (src_flat flelGTest reads_own) rfl rfl rfl el80 rfl zero125 rfl rfl ?_); intro v32
          refine o_as st rfl rfl ?_
          refine c_nil ?_
          exact l_join (r29, (xs12 ++ ([r28]))) (fun a w hE hm => ⟨v32, hE.sub ⟨rfl, trivial⟩, (hm.pick [1, 2, 3] rfl)⟩)
        · refine c_region ?_
          refine stw (o_make (z := (GTest.mk 0 0 0 false)) flelGTest rfl rfl rfl el80 rfl zero125 rfl rfl ?_); intro v34 xs35
          refine o_as st rfl rfl ?_
          refine c_nil ?_
          exact l_join (r27, xs35) (fun a w hE hm => ⟨v34, hE.sub ⟨rfl, trivial⟩, (hm.pick [1, 2, 0] rfl)⟩)
      · refine c_skip ?_
        exact l_join (r25, xs12) (fun a w hE hm => ⟨v11, hE.sub ⟨rfl, trivial⟩, (hm.pick [0, 1, 2] rfl)⟩)
    · rintro ⟨t97, xs99⟩ a w ⟨v98, hE, hm⟩ h
      refine nx_of hE hm h ?_
      clear hE hm h
      refine c_seq ?_
      refine c_region ?_
      refine o_mv st rfl rfl ?_
      refine o_as st rfl rfl ?_
      refine c_nil ?_
      refine l_then ?_
      refine c_ret ?_
      exact l_end1 Tryd.results94 (xs99, t97) v98 (rv_t rfl) (fun w m => NewCh.ofB m [2, 0] rfl)

set_option maxRecDepth 100000 in
set_option maxHeartbeats 8000000 in
theorem w_spec_l20Box {w0 : World} {F : Nat → Prop} {b1 : Nat} {v2 : Value} {r_0_b : (List UInt8)} {r_0_p : Int} {n_1 : Int} {κ : (GBox × Int) → Prop} (hF : ∀ b, F b → b < w0.heap.size ∧ ¬ feet [cellCh b1 [v2, (.int .i64 r_0_p)] 104] b) (hg : Given [cellCh b1 [v2, (.int .i64 r_0_p)] 104] F w0) (hv2 : Sl elU8 F w0 v2 r_0_b) (h : L_spec_l20Box r_0_b r_0_p n_1 κ) :
    Calls Tryd.prog 61 #[(.pointer (some ⟨b1, 0, none⟩)), (.int .i64 n_1)] w0 (Ret [cellCh b1 [v2, (.int .i64 r_0_p)] 104] F w0 κ (fun (r : (GBox × Int)) (u : Value) => (.agg #[u])) (fun (r : (GBox × Int)) (u : Value) => [roCh (elSl elGSpan) u r.1.xSides, cellCh b1 [v2, (.int .i64 r.2)] 104])) := by
  refine enterS (args := [(.pointer (some ⟨b1, 0, none⟩)), (.int .i64 n_1)]) [cellCh b1 [v2, (.int .i64 r_0_p)] 104] hF hg Tryd.func61 rfl Tryd.ntmps61 rfl h ?_
  clear h hF hg
  refine c_seq ?_
  refine c_region ?_
  refine stw (o_alloc rfl [(.slice none 0 0)] zero85 ?_); intro b5
  refine c_nil ?_
  refine l_then ?_
  refine c_seq ?_
  refine c_region ?_
  refine o_mv st rfl rfl ?_
  refine pk [1, 0, 2] rfl ?_
  refine stw (o_call (vs := [(.pointer (some ⟨b1, 0, none⟩)), (.int .i64 0)]) (M0 := [cellCh b1 [v2, (.int .i64 r_0_p)] 104]) Tryd.call94 rfl rfl (by intro w m h; exact (w_spec_l20Tests (F := allB [cellCh b1 [v2, (.int .i64 r_0_p)] 104] w) (r_0_b := r_0_b) (r_0_p := r_0_p) (n_1 := 0) allB_ok m.given (m.rdM 1 rfl (reads_snap hv2)) h).mono (fun _ _ k => ret_free (fun r u => (fr_cons (free_own flelGTest) (fr_cons free_cell fr_nil))) k)) ?_); rintro ⟨r7, r10⟩ v8
  refine frz 0 rfl reads_own ?_
  refine stw (o_callP (vs := [v8]) Tryd.call93 rfl rfl (by intro w m h; exact w_spec_TestsBox (list_0 := r7) fz_ok0 (m.ro 0 rfl) h) ?_); rintro r11 v12
  refine stw (o_alloc rfl [(.slice none 0 0)] zero85 ?_); intro b14
  refine nx_own 1 rfl ?_; rintro a16 l17 q18 rfl
  refine stw (o_stc (cs' := [(.slice a16 l17 q18)]) 0 rfl rfl rfl ty85 rfl rfl rfl rfl ?_)
  refine c_nil ?_
  refine l_then ?_
  refine c_join (σ := ((List (List GSpan)) × Int)) (fun ((xs94, t96) : ((List (List GSpan)) × Int)) (a : Act) (w : World) => Has 48 [(0, (.pointer (some ⟨b1, 0, none⟩))), (1, (.int .i64 n_1)), (4, (.pointer (some ⟨b5, 0, none⟩))), (5, (.pointer (some ⟨b14, 0, none⟩)))] a ∧ Mem (gB F [cellCh b1 [v2, (.int .i64 r_0_p)] 104] w0) (feet [cellCh b1 [v2, (.int .i64 r_0_p)] 104]) w0 [cellCh b1 [v2, (.int .i64 t96)] 104, cellCh b14 [(.slice a16 l17 q18)] 85, ownCh (elSl elGSpan) 72 (.slice a16 l17 q18) xs94, cellCh b5 [(.slice none 0 0)] 85, snapCh w0 F] w) ?_ ?_
  · intro k97
    refine c_seq ?_
    refine c_region ?_
    refine o_mv st rfl rfl ?_
    refine pk [3, 0, 1, 2, 4, 5] rfl ?_
    refine stw (o_call (vs := [(.pointer (some ⟨b1, 0, none⟩)), (.int .i64 3)]) (M0 := [cellCh b1 [v2, (.int .i64 r10)] 104]) Tryd.call60 rfl rfl (by intro w m h; exact (w_spec_l20Rd_pick (F := allB [cellCh b1 [v2, (.int .i64 r10)] 104] w) (r_0_b := r_0_b) (r_0_p := r10) (n_1 := 3) allB_ok m.given (m.rdM 4 rfl (reads_snap hv2)) h).mono (fun _ _ k => ret_free (fun r u => (fr_cons free_cell fr_nil)) k)) ?_); rintro ⟨r19, r20⟩ _
    refine o_eql st und3 rfl rfl rfl ?_
    refine c_nil ?_
    refine l_then ?_
    refine c_cond rfl ?_ ?_
    · refine c_seq ?_
      refine c_region ?_
      refine o_mv st rfl rfl ?_
      refine stw (o_call (vs := [(.pointer (some ⟨b1, 0, none⟩)), (.int .i64 4)]) (M0 := [cellCh b1 [v2, (.int .i64 r20)] 104]) Tryd.call60 rfl rfl (by intro w m h; exact (w_spec_l20Rd_pick (F := allB [cellCh b1 [v2, (.int .i64 r20)] 104] w) (r_0_b := r_0_b) (r_0_p := r20) (n_1 := 4) allB_ok m.given (m.rdM 4 rfl (reads_snap hv2)) h).mono (fun _ _ k => ret_free (fun r u => (fr_cons free_cell fr_nil)) k)) ?_); rintro ⟨r21, r22⟩ _
      refine o_as st rfl rfl ?_
      refine c_nil ?_
      refine l_then ?_
      refine c_draw mixed 9 rfl [cellCh b14 [(.slice a16 l17 q18)] 85, roCh elGTest v8 r7, cellCh b5 [(.slice none 0 0)] 85, snapCh w0 F] ?_
      refine o_fad (dt 0 (fun w m => m.pick [1, 3, 4, 5] rfl)) rfl rfl fld85_0 rfl ?_
      refine o_ldc (dt 1 (fun w m => m.pick [1, 3, 4, 5] rfl)) (v := (.slice a16 l17 q18)) 0 rfl rfl rfl ty83 rfl ?_
      refine o_mv (dt 2 (fun w m => m.pick [1, 3, 4, 5] rfl)) rfl rfl ?_
      refine o_mv (dt 3 (fun w m => m.pick [1, 3, 4, 5] rfl)) rfl rfl ?_
      refine o_mv (dt 4 (fun w m => m.pick [1, 3, 4, 5] rfl)) rfl rfl ?_
      refine d_one (i := 5) rfl (by kernel_rfl) (o_callP (vs := [(.int .i64 r21)]) Tryd.call63 rfl rfl (by intro w m h; exact (w_spec_FieldTop (F := allB [] w) (n_0 := r21) allB_ok h).mono (fun _ _ k => ret_free (fun r u => fr_nil) k)) ?_); rintro r23 _
      refine d_and (fun w m => m.pick [1, 3, 4, 5] rfl) ?_
      refine d_one (i := 6) rfl (by kernel_rfl) (o_call (vs := [(.pointer (some ⟨b1, 0, none⟩)), (.int .i64 r23), (.int .i64 0)]) (M0 := [cellCh b1 [v2, (.int .i64 r22)] 104]) Tryd.call62 rfl rfl (by intro w m h; exact (w_spec_l20Set (F := allB [cellCh b1 [v2, (.int .i64 r22)] 104] w) (r_0_b := r_0_b) (r_0_p := r22) (top_1 := r23) (n_2 := 0) allB_ok m.given (m.rdM 4 rfl (reads_snap hv2)) h).mono (fun _ _ k => ret_free (fun r u => (fr_cons (free_own flelGSpan) (fr_cons free_cell fr_nil))) k)) ?_); rintro ⟨r24, r27⟩ v25
      refine d_and (fun w m => m.pick [2, 4, 5, 6] rfl) ?_
      refine d_one (i := 7) rfl (by kernel_rfl) (o_idx m_op 3 rfl reads_own rfl rfl rfl el83 ?_); intro e28 h29
      refine d_and (fun w m => m.pick [2, 4, 5, 6] rfl) ?_
      refine nx_own 0 rfl ?_; rintro a30 l31 q32 rfl
      refine frz 0 rfl reads_own ?_
      refine d_one (i := 8) rfl (by kernel_rfl) (o_stsN (El' := (elSl elGSpan)) (y' := r24) 3 rfl rfl h29 (fun w cs m h => by obtain ⟨u0_, rfl, s0_⟩ := h; exact ⟨(.slice a30 l31 q32), rfl, (m.ro 0 rfl)⟩) ty72 rfl rfl rfl rfl rfl ?_)
      refine d_and (fun w m => m.pick [2, 4, 5, 6] rfl) ?_
      refine d_done (by kernel_rfl) ?_
      exact l_join ((r11.xSides.set (r21).toNat r24), r27) (fun a w hE hm => ⟨hE.sub ⟨rfl, rfl, rfl, rfl, trivial⟩, (hm.pick [1, 2, 3, 5, 6] rfl)⟩)
    · refine c_skip ?_
      exact l_join (r11.xSides, r20) (fun a w hE hm => ⟨hE.sub ⟨rfl, rfl, rfl, rfl, trivial⟩, (hm.pick [0, 1, 2, 4, 5] rfl)⟩)
  · rintro ⟨xs94, t96⟩ a w ⟨hE, hm⟩ h
    refine nx_of hE hm h ?_
    clear hE hm h
    refine c_join (σ := (Int × (List (List GSpan)))) (fun ((t189, xs191) : (Int × (List (List GSpan)))) (a : Act) (w : World) => ∃ (v190 : Value), Has 48 [(4, (.pointer (some ⟨b5, 0, none⟩))), (5, (.pointer (some ⟨b14, 0, none⟩)))] a ∧ Mem (gB F [cellCh b1 [v2, (.int .i64 r_0_p)] 104] w0) (feet [cellCh b1 [v2, (.int .i64 r_0_p)] 104]) w0 [cellCh b1 [v2, (.int .i64 t189)] 104, cellCh b14 [v190] 85, cellCh b5 [(.slice none 0 0)] 85, snapCh w0 F, roCh (elSl elGSpan) v190 xs191] w) ?_ ?_
    · intro k194
      refine c_seq ?_
      refine c_region ?_
      refine o_mv st rfl rfl ?_
      refine o_mv st rfl rfl ?_
      refine stw (o_call (vs := [(.pointer (some ⟨b1, 0, none⟩)), (.int .i64 n_1)]) (M0 := [cellCh b1 [v2, (.int .i64 t96)] 104]) Tryd.call64 rfl rfl (by intro w m h; exact (w_spec_l20Rd_odd (F := allB [cellCh b1 [v2, (.int .i64 t96)] 104] w) (r_0_b := r_0_b) (r_0_p := t96) (n_1 := n_1) allB_ok m.given (m.rdM 3 rfl (reads_snap hv2)) h).mono (fun _ _ k => ret_free (fun r u => (fr_cons free_cell fr_nil)) k)) ?_); rintro ⟨r98, r99⟩ _
      refine c_nil ?_
      refine l_then ?_
      refine c_cond rfl ?_ ?_
      · refine c_seq ?_
        refine c_region ?_
        refine o_mv st rfl rfl ?_
        refine stw (o_call (vs := [(.pointer (some ⟨b1, 0, none⟩)), (.int .i64 3)]) (M0 := [cellCh b1 [v2, (.int .i64 r99)] 104]) Tryd.call60 rfl rfl (by intro w m h; exact (w_spec_l20Rd_pick (F := allB [cellCh b1 [v2, (.int .i64 r99)] 104] w) (r_0_b := r_0_b) (r_0_p := r99) (n_1 := 3) allB_ok m.given (m.rdM 3 rfl (reads_snap hv2)) h).mono (fun _ _ k => ret_free (fun r u => (fr_cons free_cell fr_nil)) k)) ?_); rintro ⟨r100, r101⟩ _
        refine c_nil ?_
        refine l_then ?_
        refine c_block ?_
        refine c_seq ?_
        refine c_region ?_
        refine o_eql st und3 rfl rfl rfl ?_
        refine o_as st rfl rfl ?_
        refine c_nil ?_
        refine l_then ?_
        refine c_cond rfl ?_ ?_
        · refine c_region ?_
          refine o_fad st rfl rfl fld85_0 rfl ?_
          refine o_ldc st (v := (.slice a16 l17 q18)) 1 rfl rfl rfl ty83 rfl ?_
          refine frz 2 rfl reads_own ?_
          refine stw (o_slc (I := 1) (J := (xs94.length : Int)) 2 rfl rfl rfl rfl rfl el83 rfl ?_); intro v102 xs103
          refine o_fad st rfl rfl fld85_0 rfl ?_
          refine nx_ro 0 rfl ?_; rintro a105 l106 q107 rfl
          refine stw (o_stc (cs' := [(.slice a105 l106 q107)]) 2 rfl rfl rfl ty83 rfl rfl rfl rfl ?_)
          refine c_nil ?_
          refine b_norm ?_
          exact l_join (r101, xs103) (fun a w hE hm => ⟨(.slice a105 l106 q107), hE.sub ⟨rfl, rfl, trivial⟩, (hm.pick [1, 2, 4, 5, 0] rfl)⟩)
        · refine c_seq ?_
          refine c_region ?_
          refine o_eql st und3 rfl rfl rfl ?_
          refine o_as st rfl rfl ?_
          refine c_nil ?_
          refine l_then ?_
          refine c_cond rfl ?_ ?_
          · refine c_region ?_
            refine o_fad st rfl rfl fld85_0 rfl ?_
            refine o_ldc st (v := (.slice a16 l17 q18)) 1 rfl rfl rfl ty83 rfl ?_
            refine o_bld st (qs := [(0, (.int .i64 0)), (1, (.int .i64 8))]) (cells := [(.int .i64 0), (.int .i64 8)]) (by intro ρ h; simp only [List.map_toArray, List.map_cons, List.map_nil, h (.const (.int .i64 0)) _ rfl, h (.const (.int .i64 8)) _ rfl]) rfl bld71 rfl ?_
            refine stw (o_bsl (enc := encGSpan) (qs := [(0, (.agg #[(.int .i64 0), (.int .i64 8)]))]) (cells := [(.int .i64 0), (.int .i64 8)]) ([(GSpan.mk 0 8)]) flelGSpan (by intro ρ h; simp only [List.map_toArray, List.map_cons, List.map_nil, h (.tmp 44) _ rfl]) rfl el72 zero71 rfl rfl rfl rfl rfl rfl ?_); intro v108
            refine o_idx st 3 rfl reads_own rfl rfl rfl el83 ?_; intro e110 h111
            refine nx_own 0 rfl ?_; rintro a112 l113 q114 rfl
            refine frz 0 rfl reads_own ?_
            refine stw (o_stsN (El' := (elSl elGSpan)) (y' := [(GSpan.mk 0 8)]) 3 rfl rfl h111 (fun w cs m h => by obtain ⟨u0_, rfl, s0_⟩ := h; exact ⟨(.slice a112 l113 q114), rfl, (m.ro 0 rfl)⟩) ty72 rfl rfl rfl rfl rfl ?_)
            refine c_nil ?_
            refine b_norm ?_
            exact l_join (r101, (xs94.set (3 : Int).toNat ([(GSpan.mk 0 8)]))) (fun a w hE hm => ⟨(.slice a16 l17 q18), hE.sub ⟨rfl, rfl, trivial⟩, ((hm.freeze 3 rfl reads_own).pick [1, 2, 4, 5, 3] rfl)⟩)
          · refine c_region ?_
            refine o_fad st rfl rfl fld85_0 rfl ?_
            refine o_ldc st (v := (.slice a16 l17 q18)) 1 rfl rfl rfl ty83 rfl ?_
            refine stw (o_bsl (enc := encGSpan) (qs := []) (cells := []) ([] : (List GSpan)) flelGSpan (by intro ρ h; simp only [List.map_toArray, List.map_cons, List.map_nil]) rfl el72 zero71 rfl rfl rfl rfl rfl rfl ?_); intro v116
            refine nx_own 0 rfl ?_; rintro a118 l119 q120 rfl
            refine stw (o_bslD (M := [ownCh elGSpan 71 (.slice a118 l119 q120) ([])]) (E' := (dSl dGSpan 71)) (qs := [(0, (.slice a118 l119 q120))]) (cs := [(.slice a118 l119 q120)]) ([]) (absorb_one (gives_own flelGSpan) (fun B w h => ⟨_, rfl, h⟩)) (by intro ρ h; simp only [List.map_toArray, List.map_cons, List.map_nil, h (.tmp 30) _ rfl]) rfl el83 zero72 rfl rfl rfl rfl ?_); intro bb122 v121
            refine nx_undp 0 rfl ?_
            refine stw (o_app 3 0 rfl rfl src_own rfl rfl rfl el83 rfl zero72 rfl rfl ?_); intro v124
            refine o_fad st rfl rfl fld85_0 rfl ?_
            refine nx_own 3 rfl ?_; rintro a126 l127 q128 rfl
            refine stw (o_stc (cs' := [(.slice a126 l127 q128)]) 2 rfl rfl rfl ty83 rfl rfl rfl rfl ?_)
            refine c_nil ?_
            refine b_norm ?_
            exact l_join (r101, (xs94 ++ ([[]]))) (fun a w hE hm => ⟨(.slice a126 l127 q128), hE.sub ⟨rfl, rfl, trivial⟩, ((hm.freeze 3 rfl reads_own).pick [1, 2, 4, 5, 3] rfl)⟩)
      · refine c_skip ?_
        exact l_join (r99, xs94) (fun a w hE hm => ⟨(.slice a16 l17 q18), hE.sub ⟨rfl, rfl, trivial⟩, ((hm.freeze 2 rfl reads_own).pick [0, 1, 3, 4, 2] rfl)⟩)
    · rintro ⟨t189, xs191⟩ a w ⟨v190, hE, hm⟩ h
      refine nx_of hE hm h ?_
      clear hE hm h
      refine c_seq ?_
      refine c_region ?_
      refine o_ldc st (v := (.agg #[v190])) 1 rfl rfl rfl ty85 rfl ?_
      refine nx_ro 4 rfl ?_; rintro a195 l196 q197 rfl
      refine stw (o_stc (cs' := [(.slice a195 l196 q197)]) 2 rfl rfl rfl ty85 rfl rfl rfl rfl ?_)
      refine c_nil ?_
      refine l_then ?_
      refine c_ret ?_
      exact l_end1 Tryd.results61 ((GBox.mk xs191), t189) (.slice a195 l196 q197) (rv_c 2 rfl rfl ty85 rfl) (fun w m => NewCh.ofB m [4, 0] rfl)

end

end Go.Proofs.YtpbmhkfbggmofaaDoor
