/- Texts of this seat, put together. -/
import Derived.Test.YtdjfbceokpofmaaMP1
set_option linter.unusedSimpArgs false
set_option linter.unusedVariables false
set_option linter.unusedSectionVars false
namespace Go.Proofs.Ytdjfbceokpofmaa
section
open Go.RowKit
set_option maxRecDepth 100000 in
set_option maxHeartbeats 8000000 in
theorem w_spec_HiddenFrom {w0 : World} {F : Nat → Prop} {v1 : Value} {list_0 : (List GRewrite)} {κ : (List GSpan) → Prop} (hF : ∀ b, F b → b < w0.heap.size ∧ ¬ feet [] b) (hv1 : Sl elGRewrite F w0 v1 list_0) (h : L_spec_HiddenFrom list_0 κ) :
    Calls Try.prog 22 #[v1] w0 (Ret [] F w0 κ (fun (r : (List GSpan)) (u : Value) => u) (fun (r : (List GSpan)) (u : Value) => [ownCh elGSpan 58 u r])) := by
  refine enterS (args := [v1]) [] hF (Given.nil _ _) Try.func22 rfl Try.ntmps22 rfl h ?_
  clear h hF
  refine c_seq ?_
  refine c_region ?_
  refine stw (o_asn elGSpan 58 rfl rfl ?_)
  refine c_nil ?_
  refine l_then ?_
  refine c_seq ?_
  refine c_region ?_
  refine stw (o_bsl (enc := encGPrefix) (qs := []) (cells := []) ([] : (List GPrefix)) flelGPrefix (by intro ρ h; simp only [List.map_toArray, List.map_cons, List.map_nil]) rfl el55 zero26 rfl rfl rfl rfl rfl rfl ?_); intro v4
  refine o_as st rfl rfl ?_
  refine c_nil ?_
  refine l_then ?_
  refine c_seq ?_
  refine c_seq ?_
  refine c_region ?_
  refine o_as st rfl rfl ?_
  refine c_nil ?_
  refine l_then ?_
  refine c_block ?_
  refine c_loop (σ := ((List GPrefix) × Int)) (fun ((xs7, t10) : ((List GPrefix) × Int)) (a : Act) (w : World) => ∃ (v6 : Value), Has 26 [(0, v1), (3, v6), (4, (.int .i64 t10))] a ∧ Mem (gB F [] w0) (feet []) w0 [snapCh w0 F, ownCh elGPrefix 26 v6 xs7] w) (fun a w hE hm => ⟨v4, hE.sub ⟨rfl, rfl, rfl, trivial⟩, (hm.pick [2, 0] rfl)⟩) ?_
  rintro nx11 ⟨xs7, t10⟩ a w ⟨v6, hE, hm⟩ h
  refine nx_of hE hm h ?_
  clear hE hm h
  refine c_seq ?_
  refine c_join (σ := Bool) (fun (t73 : Bool) (a : Act) (w : World) => Has 26 [(0, v1), (3, v6), (4, (.int .i64 t10)), (13, (.bool t73))] a ∧ Mem (gB F [] w0) (feet []) w0 [ownCh elGPrefix 26 v6 xs7, snapCh w0 F] w) ?_ ?_
  · intro k74
    refine c_region ?_
    refine o_mv st rfl rfl ?_
    refine o_mv st rfl rfl ?_
    refine o_len st el37 0 rfl (reads_snap hv1) rfl rfl ?_
    refine o_lss st rfl rfl rfl ?_
    refine o_mv st rfl rfl ?_
    refine st_sp (dj := 10) rfl ?_ ?_
    · refine o_mv (st_g rfl rfl) rfl rfl ?_
      refine st_gw rfl rfl (o_callP (vs := [v1]) Try.call13 rfl rfl (by intro w m h; exact (w_spec_RewritesValid (F := allB [] w) (list_0 := list_0) allB_ok (m.rd0 0 rfl (reads_snap hv1)) h).mono (fun _ _ k => ret_free (fun r u => fr_nil) k)) ?_); rintro r12 _
      refine o_pickT st rfl rfl rfl ?_
      refine c_nil ?_
      exact l_join r12 (fun a w hE hm => ⟨hE.sub ⟨rfl, rfl, rfl, rfl, trivial⟩, (hm.pick [1, 0] rfl)⟩)
    · refine st_s rfl rfl rfl rfl ?_
      refine st_s rfl rfl rfl rfl ?_
      refine o_pickF st rfl rfl rfl ?_
      refine c_nil ?_
      exact l_join false (fun a w hE hm => ⟨hE.sub ⟨rfl, rfl, rfl, rfl, trivial⟩, (hm.pick [1, 0] rfl)⟩)
  · rintro t73 a w ⟨hE, hm⟩ h
    refine nx_of hE hm h ?_
    clear hE hm h
    refine c_cond rfl ?_ ?_
    · refine c_skip ?_
      refine l_then ?_
      refine c_seq ?_
      refine c_block ?_
      refine c_region ?_
      refine o_mv st rfl rfl ?_
      refine o_mv st rfl rfl ?_
      refine o_mv st rfl rfl ?_
      refine o_idx st 1 rfl (reads_snap hv1) rfl rfl rfl el37 ?_; intro e75 h76
      refine o_fadS st 1 rfl (reads_snap hv1) h76 rfl rfl fld28_0 rfl ?_
      refine o_lds st (enc := encGRewrite) (u := (.agg #[(.int .i64 e75.xInside.xBase), (.int .i64 e75.xInside.xLength)])) 1 rfl (reads_snap hv1) flelGRewrite rfl h76 rfl rfl ty26 rfl ?_
      refine stw (o_bsl (enc := encGPrefix) (qs := [(0, (.agg #[(.int .i64 e75.xInside.xBase), (.int .i64 e75.xInside.xLength)]))]) (cells := [(.int .i64 e75.xInside.xBase), (.int .i64 e75.xInside.xLength)]) ([e75.xInside]) flelGPrefix (by intro ρ h; simp only [List.map_toArray, List.map_cons, List.map_nil, h (.tmp 21) _ rfl]) rfl el55 zero26 rfl rfl rfl rfl rfl rfl ?_); intro v77
      refine stw (o_app 1 0 rfl rfl (src_flat flelGPrefix reads_own) rfl rfl rfl el55 rfl zero26 rfl rfl ?_); intro v79
      refine o_as st rfl rfl ?_
      refine c_nil ?_
      refine b_norm ?_
      refine l_then ?_
      refine c_region ?_
      refine o_mv st rfl rfl ?_
      refine o_add st rfl rfl rfl ?_; intro t81
      refine o_as st rfl rfl ?_
      refine c_nil ?_
      exact l_join ((xs7 ++ ([e75.xInside])), t81) (fun a w hE hm => ⟨v79, hE.sub ⟨rfl, rfl, rfl, trivial⟩, (hm.pick [2, 1] rfl)⟩)
    · refine c_exit ?_
      refine l_exit ?_
      refine l_exit ?_
      refine b_exit ?_
      refine l_then ?_
      refine c_seq ?_
      refine c_region ?_
      refine o_mv st rfl rfl ?_
      refine stw (o_callP (vs := [v6]) Try.call41 rfl rfl (by intro w m h; exact (w_spec_PrefixesSpans (F := allB [] w) (list_0 := xs7) allB_ok (m.rd0 0 rfl reads_own) h).mono (fun _ _ k => ret_free (fun r u => (fr_cons (free_own flelGSpan) fr_nil)) k)) ?_); rintro r82 v83
      refine o_as st rfl rfl ?_
      refine c_nil ?_
      refine l_then ?_
      refine c_ret ?_
      exact l_end1 Try.results22 r82 v83 (rv_t rfl) (fun w m => NewCh.ofB m [0] rfl)

set_option maxRecDepth 100000 in
set_option maxHeartbeats 8000000 in
theorem w_laws_eqSpan {w0 : World} {F : Nat → Prop} {a_0 : GSpan} {b_1 : GSpan} {κ : Bool → Prop} (hF : ∀ b, F b → b < w0.heap.size ∧ ¬ feet [] b) (h : L_laws_eqSpan a_0 b_1 κ) :
    Calls Try.prog 43 #[(.agg #[(.int .i64 a_0.xLo), (.int .i64 a_0.xHi)]), (.agg #[(.int .i64 b_1.xLo), (.int .i64 b_1.xHi)])] w0 (Ret [] F w0 κ (fun (r : Bool) (u : Unit) => (.bool r)) (fun (r : Bool) (u : Unit) => [])) := by
  refine enter0 (args := [(.agg #[(.int .i64 a_0.xLo), (.int .i64 a_0.xHi)]), (.agg #[(.int .i64 b_1.xLo), (.int .i64 b_1.xHi)])]) [] hF (Given.nil _ _) Try.func43 rfl Try.ntmps43 rfl h ?_
  clear h hF
  refine c_seq ?_
  refine c_region ?_
  refine stw (o_box rfl rfl [(.int .i64 a_0.xLo), (.int .i64 a_0.xHi)] rfl ?_); intro b1
  refine stw (o_box rfl rfl [(.int .i64 b_1.xLo), (.int .i64 b_1.xHi)] rfl ?_); intro b3
  refine o_as st rfl rfl ?_
  refine c_nil ?_
  refine l_then ?_
  refine c_seq ?_
  refine c_seq ?_
  refine c_region ?_
  refine o_fad st rfl rfl fld58_0 rfl ?_
  refine o_ldc st (v := (.int .i64 a_0.xLo)) 1 rfl rfl rfl ty3 rfl ?_
  refine o_fad st rfl rfl fld58_0 rfl ?_
  refine o_ldc st (v := (.int .i64 b_1.xLo)) 0 rfl rfl rfl ty3 rfl ?_
  refine o_neq st und3 rfl rfl rfl ?_
  refine c_nil ?_
  refine l_then ?_
  refine c_cond rfl ?_ ?_
  · refine c_seq ?_
    refine c_region ?_
    refine o_as st rfl rfl ?_
    refine c_nil ?_
    refine l_then ?_
    refine c_ret ?_
    refine l_ret ?_
    exact l_end1 Try.results43 false () (rv_t rfl) (fun _ _ => NewCh.nil _ _ _ _)
  · refine c_skip ?_
    refine l_then ?_
    refine c_seq ?_
    refine c_seq ?_
    refine c_region ?_
    refine o_fad st rfl rfl fld58_1 rfl ?_
    refine o_ldc st (v := (.int .i64 a_0.xHi)) 1 rfl rfl rfl ty3 rfl ?_
    refine o_fad st rfl rfl fld58_1 rfl ?_
    refine o_ldc st (v := (.int .i64 b_1.xHi)) 0 rfl rfl rfl ty3 rfl ?_
    refine o_neq st und3 rfl rfl rfl ?_
    refine c_nil ?_
    refine l_then ?_
    refine c_cond rfl ?_ ?_
    · refine c_seq ?_
      refine c_region ?_
      refine o_as st rfl rfl ?_
      refine c_nil ?_
      refine l_then ?_
      refine c_ret ?_
      refine l_ret ?_
      exact l_end1 Try.results43 false () (rv_t rfl) (fun _ _ => NewCh.nil _ _ _ _)
    · refine c_skip ?_
      refine l_then ?_
      refine c_seq ?_
      refine c_region ?_
      refine o_as st rfl rfl ?_
      refine c_nil ?_
      refine l_then ?_
      refine c_ret ?_
      exact l_end1 Try.results43 true () (rv_t rfl) (fun _ _ => NewCh.nil _ _ _ _)

set_option maxRecDepth 100000 in
set_option maxHeartbeats 8000000 in
theorem w_laws_eqSpanS {w0 : World} {F : Nat → Prop} {v1 : Value} {v3 : Value} {a_0 : (List GSpan)} {b_1 : (List GSpan)} {κ : Bool → Prop} (hF : ∀ b, F b → b < w0.heap.size ∧ ¬ feet [] b) (hv1 : Sl elGSpan F w0 v1 a_0) (hv3 : Sl elGSpan F w0 v3 b_1) (h : L_laws_eqSpanS a_0 b_1 κ) :
    Calls Try.prog 25 #[v1, v3] w0 (Ret [] F w0 κ (fun (r : Bool) (u : Unit) => (.bool r)) (fun (r : Bool) (u : Unit) => [])) := by
  refine enterS (args := [v1, v3]) [] hF (Given.nil _ _) Try.func25 rfl Try.ntmps25 rfl h ?_
  clear h hF
  refine c_seq ?_
  refine c_region ?_
  refine o_as st rfl rfl ?_
  refine c_nil ?_
  refine l_then ?_
  refine c_seq ?_
  refine c_seq ?_
  refine c_region ?_
  refine o_mv st rfl rfl ?_
  refine o_len st el45 0 rfl (reads_snap hv1) rfl rfl ?_
  refine o_mv st rfl rfl ?_
  refine o_len st el45 0 rfl (reads_snap hv3) rfl rfl ?_
  refine o_neq st und3 rfl rfl rfl ?_
  refine c_nil ?_
  refine l_then ?_
  refine c_cond rfl ?_ ?_
  · refine c_seq ?_
    refine c_region ?_
    refine o_as st rfl rfl ?_
    refine c_nil ?_
    refine l_then ?_
    refine c_ret ?_
    refine l_ret ?_
    exact l_end1 Try.results25 false () (rv_t rfl) (fun _ _ => NewCh.nil _ _ _ _)
  · refine c_skip ?_
    refine l_then ?_
    refine c_seq ?_
    refine c_seq ?_
    refine c_region ?_
    refine o_as st rfl rfl ?_
    refine c_nil ?_
    refine l_then ?_
    refine c_block ?_
    refine c_loop (σ := Int) (fun (t5 : Int) (a : Act) (w : World) => Has 27 [(0, v1), (1, v3), (5, (.int .i64 t5))] a ∧ Mem (gB F [] w0) (feet []) w0 [snapCh w0 F] w) (fun a w hE hm => ⟨hE.sub ⟨rfl, rfl, rfl, trivial⟩, (hm.pick [0] rfl)⟩) ?_
    rintro nx6 t5 a w ⟨hE, hm⟩ h
    refine nx_of hE hm h ?_
    clear hE hm h
    refine c_seq ?_
    refine c_seq ?_
    refine c_region ?_
    refine o_mv st rfl rfl ?_
    refine o_mv st rfl rfl ?_
    refine o_len st el45 0 rfl (reads_snap hv1) rfl rfl ?_
    refine o_lss st rfl rfl rfl ?_
    refine c_nil ?_
    refine l_then ?_
    refine c_cond rfl ?_ ?_
    · refine c_skip ?_
      refine l_then ?_
      refine c_seq ?_
      refine c_block ?_
      refine c_seq ?_
      refine c_draw mixed 10 rfl [snapCh w0 F] ?_
      refine o_mv (dt 0 (fun _ m => m)) rfl rfl ?_
      refine o_mv (dt 1 (fun _ m => m)) rfl rfl ?_
      refine o_idx (dt 2 (fun _ m => m)) 0 rfl (reads_snap hv1) rfl rfl rfl el45 ?_; intro e7 h8
      refine o_lds (dt 3 (fun _ m => m)) (enc := encGSpan) (u := (.agg #[(.int .i64 e7.xLo), (.int .i64 e7.xHi)])) 0 rfl (reads_snap hv1) flelGSpan rfl h8 rfl rfl ty58 rfl ?_
      refine o_mv (dt 4 (fun _ m => m)) rfl rfl ?_
      refine o_mv (dt 5 (fun _ m => m)) rfl rfl ?_
      refine o_idx (dt 6 (fun _ m => m)) 0 rfl (reads_snap hv3) rfl rfl rfl el45 ?_; intro e9 h10
      refine o_lds (dt 7 (fun _ m => m)) (enc := encGSpan) (u := (.agg #[(.int .i64 e9.xLo), (.int .i64 e9.xHi)])) 0 rfl (reads_snap hv3) flelGSpan rfl h10 rfl rfl ty58 rfl ?_
      refine d_one (i := 8) rfl (by kernel_rfl) (o_callP (vs := [(.agg #[(.int .i64 e7.xLo), (.int .i64 e7.xHi)]), (.agg #[(.int .i64 e9.xLo), (.int .i64 e9.xHi)])]) Try.call43 rfl rfl (by intro w m h; exact (w_laws_eqSpan (F := allB [] w) (a_0 := e7) (b_1 := e9) allB_ok h).mono (fun _ _ k => ret_free (fun r u => fr_nil) k)) ?_); rintro r11 _
      refine d_and (fun _ m => m) ?_
      refine o_not (dt 9 (fun _ m => m)) rfl rfl ?_
      refine d_done (by kernel_rfl) ?_
      refine l_then ?_
      refine c_cond rfl ?_ ?_
      · refine c_seq ?_
        refine c_region ?_
        refine o_as st rfl rfl ?_
        refine c_nil ?_
        refine l_then ?_
        refine c_ret ?_
        refine b_ret ?_
        refine l_ret ?_
        refine l_ret ?_
        refine b_ret ?_
        refine l_ret ?_
        exact l_end1 Try.results25 false () (rv_t rfl) (fun _ _ => NewCh.nil _ _ _ _)
      · refine c_skip ?_
        refine b_norm ?_
        refine l_then ?_
        refine c_region ?_
        refine o_mv st rfl rfl ?_
        refine o_add st rfl rfl rfl ?_; intro t12
        refine o_as st rfl rfl ?_
        refine c_nil ?_
        exact l_join t12 (fun a w hE hm => ⟨hE.sub ⟨rfl, rfl, rfl, trivial⟩, (hm.pick [0] rfl)⟩)
    · refine c_exit ?_
      refine l_exit ?_
      refine l_exit ?_
      refine b_exit ?_
      refine l_then ?_
      refine c_seq ?_
      refine c_region ?_
      refine o_as st rfl rfl ?_
      refine c_nil ?_
      refine l_then ?_
      refine c_ret ?_
      exact l_end1 Try.results25 true () (rv_t rfl) (fun _ _ => NewCh.nil _ _ _ _)

set_option maxRecDepth 100000 in
set_option maxHeartbeats 8000000 in
theorem w_laws_markRewriteS {w0 : World} {F : Nat → Prop} {v1 : Value} {a_0 : (List GRewrite)} {k_1 : Int} {κ : (Int × (List GRewrite)) → Prop} (hF : ∀ b, F b → b < w0.heap.size ∧ ¬ feet [ownCh elGRewrite 28 v1 a_0] b) (hg : Given [ownCh elGRewrite 28 v1 a_0] F w0) (h : L_laws_markRewriteS a_0 k_1 κ) :
    Calls Try.prog 26 #[v1, (.int .i64 k_1)] w0 (Ret [ownCh elGRewrite 28 v1 a_0] F w0 κ (fun (r : (Int × (List GRewrite))) (u : Unit) => (.int .i64 r.1)) (fun (r : (Int × (List GRewrite))) (u : Unit) => [ownCh elGRewrite 28 v1 r.2])) := by
  refine enter0 (args := [v1, (.int .i64 k_1)]) [ownCh elGRewrite 28 v1 a_0] hF hg Try.func26 rfl Try.ntmps26 rfl h ?_
  clear h hF hg
  refine c_seq ?_
  refine c_region ?_
  refine o_as st rfl rfl ?_
  refine c_nil ?_
  refine l_then ?_
  refine c_seq ?_
  refine c_seq ?_
  refine c_region ?_
  refine o_as st rfl rfl ?_
  refine c_nil ?_
  refine l_then ?_
  refine c_block ?_
  refine c_loop (σ := ((List GRewrite) × Int × Int)) (fun ((xs3, t5, t6) : ((List GRewrite) × Int × Int)) (a : Act) (w : World) => Has 45 [(0, v1), (1, (.int .i64 t5)), (5, (.int .i64 t6))] a ∧ Mem (gB F [ownCh elGRewrite 28 v1 a_0] w0) (feet [ownCh elGRewrite 28 v1 a_0]) w0 [ownCh elGRewrite 28 v1 xs3] w) (fun a w hE hm => ⟨hE.sub ⟨rfl, rfl, rfl, trivial⟩, (hm.pick [0] rfl)⟩) ?_
  rintro nx7 ⟨xs3, t5, t6⟩ a w ⟨hE, hm⟩ h
  refine nx_of hE hm h ?_
  clear hE hm h
  refine c_seq ?_
  refine c_seq ?_
  refine c_region ?_
  refine o_mv st rfl rfl ?_
  refine o_mv st rfl rfl ?_
  refine o_len st el37 0 rfl reads_own rfl rfl ?_
  refine o_lss st rfl rfl rfl ?_
  refine c_nil ?_
  refine l_then ?_
  refine c_cond rfl ?_ ?_
  · refine c_skip ?_
    refine l_then ?_
    refine c_seq ?_
    refine c_block ?_
    refine c_seq ?_
    refine c_region ?_
    refine o_mv st rfl rfl ?_
    refine o_mv st rfl rfl ?_
    refine o_mv st rfl rfl ?_
    refine o_idx st 0 rfl reads_own rfl rfl rfl el37 ?_; intro e8 h9
    refine o_fadS st 0 rfl reads_own h9 rfl rfl fld28_0 rfl ?_
    refine o_fadS st 0 rfl reads_own h9 rfl rfl fld26_0 rfl ?_
    refine stw (o_sts (enc := encGRewrite) (y' := (GRewrite.mk (GPrefix.mk t5 e8.xInside.xLength) e8.xOutside)) 0 rfl flelGRewrite rfl h9 ty3 rfl rfl rfl rfl rfl rfl ?_)
    refine c_nil ?_
    refine l_then ?_
    refine c_seq ?_
    refine c_region ?_
    refine o_mv st rfl rfl ?_
    refine o_add st rfl rfl rfl ?_; intro t11
    refine o_as st rfl rfl ?_
    refine c_nil ?_
    refine l_then ?_
    refine c_seq ?_
    refine c_region ?_
    refine o_mv st rfl rfl ?_
    refine o_mv st rfl rfl ?_
    refine o_mv st rfl rfl ?_
    refine o_idx st 0 rfl reads_own rfl rfl rfl el37 ?_; intro e12 h13
    refine o_fadS st 0 rfl reads_own h13 rfl rfl fld28_0 rfl ?_
    refine o_fadS st 0 rfl reads_own h13 rfl rfl fld26_1 rfl ?_
    refine stw (o_sts (enc := encGRewrite) (y' := (GRewrite.mk (GPrefix.mk e12.xInside.xBase t11) e12.xOutside)) 0 rfl flelGRewrite rfl h13 ty3 rfl rfl rfl rfl rfl rfl ?_)
    refine c_nil ?_
    refine l_then ?_
    refine c_seq ?_
    refine c_region ?_
    refine o_mv st rfl rfl ?_
    refine o_add st rfl rfl rfl ?_; intro t15
    refine o_as st rfl rfl ?_
    refine c_nil ?_
    refine l_then ?_
    refine c_seq ?_
    refine c_region ?_
    refine o_mv st rfl rfl ?_
    refine o_mv st rfl rfl ?_
    refine o_mv st rfl rfl ?_
    refine o_idx st 0 rfl reads_own rfl rfl rfl el37 ?_; intro e16 h17
    refine o_fadS st 0 rfl reads_own h17 rfl rfl fld28_1 rfl ?_
    refine o_fadS st 0 rfl reads_own h17 rfl rfl fld26_0 rfl ?_
    refine stw (o_sts (enc := encGRewrite) (y' := (GRewrite.mk e16.xInside (GPrefix.mk t15 e16.xOutside.xLength))) 0 rfl flelGRewrite rfl h17 ty3 rfl rfl rfl rfl rfl rfl ?_)
    refine c_nil ?_
    refine l_then ?_
    refine c_seq ?_
    refine c_region ?_
    refine o_mv st rfl rfl ?_
    refine o_add st rfl rfl rfl ?_; intro t19
    refine o_as st rfl rfl ?_
    refine c_nil ?_
    refine l_then ?_
    refine c_seq ?_
    refine c_region ?_
    refine o_mv st rfl rfl ?_
    refine o_mv st rfl rfl ?_
    refine o_mv st rfl rfl ?_
    refine o_idx st 0 rfl reads_own rfl rfl rfl el37 ?_; intro e20 h21
    refine o_fadS st 0 rfl reads_own h21 rfl rfl fld28_1 rfl ?_
    refine o_fadS st 0 rfl reads_own h21 rfl rfl fld26_1 rfl ?_
    refine stw (o_sts (enc := encGRewrite) (y' := (GRewrite.mk e20.xInside (GPrefix.mk e20.xOutside.xBase t19))) 0 rfl flelGRewrite rfl h21 ty3 rfl rfl rfl rfl rfl rfl ?_)
    refine c_nil ?_
    refine l_then ?_
    refine c_region ?_
    refine o_mv st rfl rfl ?_
    refine o_add st rfl rfl rfl ?_; intro t23
    refine o_as st rfl rfl ?_
    refine c_nil ?_
    refine b_norm ?_
    refine l_then ?_
    refine c_region ?_
    refine o_mv st rfl rfl ?_
    refine o_add st rfl rfl rfl ?_; intro t24
    refine o_as st rfl rfl ?_
    refine c_nil ?_
    exact l_join (((((xs3.set (t6).toNat (GRewrite.mk (GPrefix.mk t5 e8.xInside.xLength) e8.xOutside)).set (t6).toNat (GRewrite.mk (GPrefix.mk e12.xInside.xBase t11) e12.xOutside)).set (t6).toNat (GRewrite.mk e16.xInside (GPrefix.mk t15 e16.xOutside.xLength))).set (t6).toNat (GRewrite.mk e20.xInside (GPrefix.mk e20.xOutside.xBase t19))), t23, t24) (fun a w hE hm => ⟨hE.sub ⟨rfl, rfl, rfl, trivial⟩, (hm.pick [0] rfl)⟩)
  · refine c_exit ?_
    refine l_exit ?_
    refine l_exit ?_
    refine b_exit ?_
    refine l_then ?_
    refine c_seq ?_
    refine c_region ?_
    refine o_mv st rfl rfl ?_
    refine o_as st rfl rfl ?_
    refine c_nil ?_
    refine l_then ?_
    refine c_ret ?_
    exact l_end1 Try.results26 (t5, xs3) () (rv_t rfl) (fun w m => NewCh.ofB m [0] rfl)

set_option maxRecDepth 100000 in
set_option maxHeartbeats 8000000 in
theorem w_laws_markSpanS {w0 : World} {F : Nat → Prop} {v1 : Value} {a_0 : (List GSpan)} {k_1 : Int} {κ : (Int × (List GSpan)) → Prop} (hF : ∀ b, F b → b < w0.heap.size ∧ ¬ feet [ownCh elGSpan 58 v1 a_0] b) (hg : Given [ownCh elGSpan 58 v1 a_0] F w0) (h : L_laws_markSpanS a_0 k_1 κ) :
    Calls Try.prog 27 #[v1, (.int .i64 k_1)] w0 (Ret [ownCh elGSpan 58 v1 a_0] F w0 κ (fun (r : (Int × (List GSpan))) (u : Unit) => (.int .i64 r.1)) (fun (r : (Int × (List GSpan))) (u : Unit) => [ownCh elGSpan 58 v1 r.2])) := by
  refine enter0 (args := [v1, (.int .i64 k_1)]) [ownCh elGSpan 58 v1 a_0] hF hg Try.func27 rfl Try.ntmps27 rfl h ?_
  clear h hF hg
  refine c_seq ?_
  refine c_region ?_
  refine o_as st rfl rfl ?_
  refine c_nil ?_
  refine l_then ?_
  refine c_seq ?_
  refine c_seq ?_
  refine c_region ?_
  refine o_as st rfl rfl ?_
  refine c_nil ?_
  refine l_then ?_
  refine c_block ?_
  refine c_loop (σ := ((List GSpan) × Int × Int)) (fun ((xs3, t5, t6) : ((List GSpan) × Int × Int)) (a : Act) (w : World) => Has 27 [(0, v1), (1, (.int .i64 t5)), (5, (.int .i64 t6))] a ∧ Mem (gB F [ownCh elGSpan 58 v1 a_0] w0) (feet [ownCh elGSpan 58 v1 a_0]) w0 [ownCh elGSpan 58 v1 xs3] w) (fun a w hE hm => ⟨hE.sub ⟨rfl, rfl, rfl, trivial⟩, (hm.pick [0] rfl)⟩) ?_
  rintro nx7 ⟨xs3, t5, t6⟩ a w ⟨hE, hm⟩ h
  refine nx_of hE hm h ?_
  clear hE hm h
  refine c_seq ?_
  refine c_seq ?_
  refine c_region ?_
  refine o_mv st rfl rfl ?_
  refine o_mv st rfl rfl ?_
  refine o_len st el45 0 rfl reads_own rfl rfl ?_
  refine o_lss st rfl rfl rfl ?_
  refine c_nil ?_
  refine l_then ?_
  refine c_cond rfl ?_ ?_
  · refine c_skip ?_
    refine l_then ?_
    refine c_seq ?_
    refine c_block ?_
    refine c_seq ?_
    refine c_region ?_
    refine o_mv st rfl rfl ?_
    refine o_mv st rfl rfl ?_
    refine o_mv st rfl rfl ?_
    refine o_idx st 0 rfl reads_own rfl rfl rfl el45 ?_; intro e8 h9
    refine o_fadS st 0 rfl reads_own h9 rfl rfl fld58_0 rfl ?_
    refine stw (o_sts (enc := encGSpan) (y' := (GSpan.mk t5 e8.xHi)) 0 rfl flelGSpan rfl h9 ty3 rfl rfl rfl rfl rfl rfl ?_)
    refine c_nil ?_
    refine l_then ?_
    refine c_seq ?_
    refine c_region ?_
    refine o_mv st rfl rfl ?_
    refine o_add st rfl rfl rfl ?_; intro t11
    refine o_as st rfl rfl ?_
    refine c_nil ?_
    refine l_then ?_
    refine c_seq ?_
    refine c_region ?_
    refine o_mv st rfl rfl ?_
    refine o_mv st rfl rfl ?_
    refine o_mv st rfl rfl ?_
    refine o_idx st 0 rfl reads_own rfl rfl rfl el45 ?_; intro e12 h13
    refine o_fadS st 0 rfl reads_own h13 rfl rfl fld58_1 rfl ?_
    refine stw (o_sts (enc := encGSpan) (y' := (GSpan.mk e12.xLo t11)) 0 rfl flelGSpan rfl h13 ty3 rfl rfl rfl rfl rfl rfl ?_)
    refine c_nil ?_
    refine l_then ?_
    refine c_region ?_
    refine o_mv st rfl rfl ?_
    refine o_add st rfl rfl rfl ?_; intro t15
    refine o_as st rfl rfl ?_
    refine c_nil ?_
    refine b_norm ?_
    refine l_then ?_
    refine c_region ?_
    refine o_mv st rfl rfl ?_
    refine o_add st rfl rfl rfl ?_; intro t16
    refine o_as st rfl rfl ?_
    refine c_nil ?_
    exact l_join (((xs3.set (t6).toNat (GSpan.mk t5 e8.xHi)).set (t6).toNat (GSpan.mk e12.xLo t11)), t15, t16) (fun a w hE hm => ⟨hE.sub ⟨rfl, rfl, rfl, trivial⟩, (hm.pick [0] rfl)⟩)
  · refine c_exit ?_
    refine l_exit ?_
    refine l_exit ?_
    refine b_exit ?_
    refine l_then ?_
    refine c_seq ?_
    refine c_region ?_
    refine o_mv st rfl rfl ?_
    refine o_as st rfl rfl ?_
    refine c_nil ?_
    refine l_then ?_
    refine c_ret ?_
    exact l_end1 Try.results27 (t5, xs3) () (rv_t rfl) (fun w m => NewCh.ofB m [0] rfl)

set_option maxRecDepth 100000 in
set_option maxHeartbeats 8000000 in
theorem w_laws_heldSpanS {w0 : World} {F : Nat → Prop} {v1 : Value} {a_0 : (List GSpan)} {k_1 : Int} {κ : Int → Prop} (hF : ∀ b, F b → b < w0.heap.size ∧ ¬ feet [] b) (hv1 : Sl elGSpan F w0 v1 a_0) (h : L_laws_heldSpanS a_0 k_1 κ) :
    Calls Try.prog 28 #[v1, (.int .i64 k_1)] w0 (Ret [] F w0 κ (fun (r : Int) (u : Unit) => (.int .i64 r)) (fun (r : Int) (u : Unit) => [])) := by
  refine enterS (args := [v1, (.int .i64 k_1)]) [] hF (Given.nil _ _) Try.func28 rfl Try.ntmps28 rfl h ?_
  clear h hF
  refine c_seq ?_
  refine c_region ?_
  refine o_as st rfl rfl ?_
  refine c_nil ?_
  refine l_then ?_
  refine c_seq ?_
  refine c_seq ?_
  refine c_region ?_
  refine o_as st rfl rfl ?_
  refine c_nil ?_
  refine l_then ?_
  refine c_block ?_
  refine c_loop (σ := (Int × Int)) (fun ((t3, t4) : (Int × Int)) (a : Act) (w : World) => Has 31 [(0, v1), (1, (.int .i64 t3)), (5, (.int .i64 t4))] a ∧ Mem (gB F [] w0) (feet []) w0 [snapCh w0 F] w) (fun a w hE hm => ⟨hE.sub ⟨rfl, rfl, rfl, trivial⟩, (hm.pick [0] rfl)⟩) ?_
  rintro nx5 ⟨t3, t4⟩ a w ⟨hE, hm⟩ h
  refine nx_of hE hm h ?_
  clear hE hm h
  refine c_seq ?_
  refine c_seq ?_
  refine c_region ?_
  refine o_mv st rfl rfl ?_
  refine o_mv st rfl rfl ?_
  refine o_len st el45 0 rfl (reads_snap hv1) rfl rfl ?_
  refine o_lss st rfl rfl rfl ?_
  refine c_nil ?_
  refine l_then ?_
  refine c_cond rfl ?_ ?_
  · refine c_skip ?_
    refine l_then ?_
    refine c_seq ?_
    refine c_block ?_
    refine c_seq ?_
    refine c_seq ?_
    refine c_region ?_
    refine o_mv st rfl rfl ?_
    refine o_mv st rfl rfl ?_
    refine o_idx st 0 rfl (reads_snap hv1) rfl rfl rfl el45 ?_; intro e6 h7
    refine o_fadS st 0 rfl (reads_snap hv1) h7 rfl rfl fld58_0 rfl ?_
    refine o_lds st (enc := encGSpan) (u := (.int .i64 e6.xLo)) 0 rfl (reads_snap hv1) flelGSpan rfl h7 rfl rfl ty3 rfl ?_
    refine o_mv st rfl rfl ?_
    refine o_neq st und3 rfl rfl rfl ?_
    refine c_nil ?_
    refine l_then ?_
    refine c_cond rfl ?_ ?_
    · refine c_seq ?_
      refine c_region ?_
      refine o_as st rfl rfl ?_
      refine c_nil ?_
      refine l_then ?_
      refine c_ret ?_
      refine l_ret ?_
      refine b_ret ?_
      refine l_ret ?_
      refine l_ret ?_
      refine b_ret ?_
      refine l_ret ?_
      exact l_end1 Try.results28 (-1) () (rv_t rfl) (fun _ _ => NewCh.nil _ _ _ _)
    · refine c_skip ?_
      refine l_then ?_
      refine c_seq ?_
      refine c_region ?_
      refine o_mv st rfl rfl ?_
      refine o_add st rfl rfl rfl ?_; intro t8
      refine o_as st rfl rfl ?_
      refine c_nil ?_
      refine l_then ?_
      refine c_seq ?_
      refine c_seq ?_
      refine c_region ?_
      refine o_mv st rfl rfl ?_
      refine o_mv st rfl rfl ?_
      refine o_idx st 0 rfl (reads_snap hv1) rfl rfl rfl el45 ?_; intro e9 h10
      refine o_fadS st 0 rfl (reads_snap hv1) h10 rfl rfl fld58_1 rfl ?_
      refine o_lds st (enc := encGSpan) (u := (.int .i64 e9.xHi)) 0 rfl (reads_snap hv1) flelGSpan rfl h10 rfl rfl ty3 rfl ?_
      refine o_mv st rfl rfl ?_
      refine o_neq st und3 rfl rfl rfl ?_
      refine c_nil ?_
      refine l_then ?_
      refine c_cond rfl ?_ ?_
      · refine c_seq ?_
        refine c_region ?_
        refine o_as st rfl rfl ?_
        refine c_nil ?_
        refine l_then ?_
        refine c_ret ?_
        refine l_ret ?_
        refine b_ret ?_
        refine l_ret ?_
        refine l_ret ?_
        refine b_ret ?_
        refine l_ret ?_
        exact l_end1 Try.results28 (-1) () (rv_t rfl) (fun _ _ => NewCh.nil _ _ _ _)
      · refine c_skip ?_
        refine l_then ?_
        refine c_region ?_
        refine o_mv st rfl rfl ?_
        refine o_add st rfl rfl rfl ?_; intro t11
        refine o_as st rfl rfl ?_
        refine c_nil ?_
        refine b_norm ?_
        refine l_then ?_
        refine c_region ?_
        refine o_mv st rfl rfl ?_
        refine o_add st rfl rfl rfl ?_; intro t12
        refine o_as st rfl rfl ?_
        refine c_nil ?_
        exact l_join (t11, t12) (fun a w hE hm => ⟨hE.sub ⟨rfl, rfl, rfl, trivial⟩, (hm.pick [0] rfl)⟩)
  · refine c_exit ?_
    refine l_exit ?_
    refine l_exit ?_
    refine b_exit ?_
    refine l_then ?_
    refine c_seq ?_
    refine c_region ?_
    refine o_mv st rfl rfl ?_
    refine o_as st rfl rfl ?_
    refine c_nil ?_
    refine l_then ?_
    refine c_ret ?_
    exact l_end1 Try.results28 t3 () (rv_t rfl) (fun _ _ => NewCh.nil _ _ _ _)

set_option maxRecDepth 100000 in
set_option maxHeartbeats 8000000 in
theorem w_laws_FnExactHiddenFrom {w0 : World} {F : Nat → Prop} {v1 : Value} {aList_0 : (List GRewrite)} {κ : Bool → Prop} (hF : ∀ b, F b → b < w0.heap.size ∧ ¬ feet [] b) (hv1 : Sl elGRewrite F w0 v1 aList_0) (h : L_laws_FnExactHiddenFrom aList_0 κ) :
    Calls Try.prog 7 #[v1] w0 (Ret [] F w0 κ (fun (r : Bool) (u : Unit) => (.bool r)) (fun (r : Bool) (u : Unit) => [])) := by
  refine enterS (args := [v1]) [] hF (Given.nil _ _) Try.func7 rfl Try.ntmps7 rfl h ?_
  clear h hF
  refine c_seq ?_
  refine c_region ?_
  refine o_as st rfl rfl ?_
  refine c_nil ?_
  refine l_then ?_
  refine c_seq ?_
  refine c_region ?_
  refine o_as st rfl rfl ?_
  refine c_nil ?_
  refine l_then ?_
  refine c_seq ?_
  refine c_region ?_
  refine o_mv st rfl rfl ?_
  refine o_mv st rfl rfl ?_
  refine stw (o_callP (vs := [v1, (.int .i64 1048576)]) Try.call12 rfl rfl (by intro w m h; exact (w_laws_szRewriteS (F := allB [] w) (a_0 := aList_0) (left_1 := 1048576) allB_ok (m.rd0 0 rfl (reads_snap hv1)) h).mono (fun _ _ k => ret_free (fun r u => fr_nil) k)) ?_); rintro r3 _
  refine o_as st rfl rfl ?_
  refine c_nil ?_
  refine l_then ?_
  refine c_seq ?_
  refine c_seq ?_
  refine c_region ?_
  refine o_mv st rfl rfl ?_
  refine o_lss st rfl rfl rfl ?_
  refine c_nil ?_
  refine l_then ?_
  refine c_cond rfl ?_ ?_
  · refine c_seq ?_
    refine c_region ?_
    refine o_as st rfl rfl ?_
    refine c_nil ?_
    refine l_then ?_
    refine c_ret ?_
    refine l_ret ?_
    exact l_end1 Try.results7 true () (rv_t rfl) (fun _ _ => NewCh.nil _ _ _ _)
  · refine c_skip ?_
    refine l_then ?_
    refine c_seq ?_
    refine c_region ?_
    refine o_mv st rfl rfl ?_
    refine stw (o_callP (vs := [v1]) Try.call14 rfl rfl (by intro w m h; exact (w_laws_toRewriteS (F := allB [] w) (a_0 := aList_0) allB_ok (m.rd0 0 rfl (reads_snap hv1)) h).mono (fun _ _ k => ret_free (fun r u => (fr_cons (free_own flelGRewrite) fr_nil)) k)) ?_); rintro r4 v5
    refine stw (o_callP (vs := [v5]) Try.call22 rfl rfl (by intro w m h; exact (w_spec_HiddenFrom (F := allB [] w) (list_0 := r4) allB_ok (m.rd0 0 rfl reads_own) h).mono (fun _ _ k => ret_free (fun r u => (fr_cons (free_own flelGSpan) fr_nil)) k)) ?_); rintro r7 v8
    refine o_as st rfl rfl ?_
    refine c_nil ?_
    refine l_then ?_
    refine c_seq ?_
    refine c_region ?_
    refine o_mv st rfl rfl ?_
    refine stw (o_callP (vs := [v1]) Try.call14 rfl rfl (by intro w m h; exact (w_laws_toRewriteS (F := allB [] w) (a_0 := aList_0) allB_ok (m.rd0 2 rfl (reads_snap hv1)) h).mono (fun _ _ k => ret_free (fun r u => (fr_cons (free_own flelGRewrite) fr_nil)) k)) ?_); rintro r10 v11
    refine o_as st rfl rfl ?_
    refine c_nil ?_
    refine l_then ?_
    refine c_seq ?_
    refine c_region ?_
    refine o_mv st rfl rfl ?_
    refine stw (o_callP (vs := [v11]) Try.call20 rfl rfl (by intro w m h; exact (w_impl_HiddenFrom (F := allB [] w) (list_0 := r10) allB_ok (m.rd0 0 rfl reads_own) h).mono (fun _ _ k => ret_free (fun r u => (fr_cons (free_own flelGSpan) fr_nil)) k)) ?_); rintro r13 v14
    refine o_as st rfl rfl ?_
    refine c_nil ?_
    refine l_then ?_
    refine c_seq ?_
    refine c_seq ?_
    refine c_region ?_
    refine o_mv st rfl rfl ?_
    refine o_mv st rfl rfl ?_
    refine stw (o_callP (vs := [v14, v8]) Try.call25 rfl rfl (by intro w m h; exact (w_laws_eqSpanS (F := allB [] w) (a_0 := r13) (b_1 := r7) allB_ok (m.rd0 0 rfl reads_own) (m.rd0 2 rfl reads_own) h).mono (fun _ _ k => ret_free (fun r u => fr_nil) k)) ?_); rintro r16 _
    refine o_not st rfl rfl ?_
    refine c_nil ?_
    refine l_then ?_
    refine c_cond rfl ?_ ?_
    · refine c_seq ?_
      refine c_region ?_
      refine o_as st rfl rfl ?_
      refine c_nil ?_
      refine l_then ?_
      refine c_ret ?_
      refine l_ret ?_
      exact l_end1 Try.results7 false () (rv_t rfl) (fun _ _ => NewCh.nil _ _ _ _)
    · refine c_skip ?_
      refine l_then ?_
      refine c_seq ?_
      refine c_seq ?_
      refine c_region ?_
      refine o_mv st rfl rfl ?_
      refine o_mv st rfl rfl ?_
      refine stw (o_callP (vs := [v1]) Try.call14 rfl rfl (by intro w m h; exact (w_laws_toRewriteS (F := allB [] w) (a_0 := aList_0) allB_ok (m.rd0 4 rfl (reads_snap hv1)) h).mono (fun _ _ k => ret_free (fun r u => (fr_cons (free_own flelGRewrite) fr_nil)) k)) ?_); rintro r17 v18
      refine stw (o_callP (vs := [v11, v18]) Try.call16 rfl rfl (by intro w m h; exact (w_laws_eqRewriteS (F := allB [] w) (a_0 := r10) (b_1 := r17) allB_ok (m.rd0 2 rfl reads_own) (m.rd0 0 rfl reads_own) h).mono (fun _ _ k => ret_free (fun r u => fr_nil) k)) ?_); rintro r20 _
      refine o_not st rfl rfl ?_
      refine c_nil ?_
      refine l_then ?_
      refine c_cond rfl ?_ ?_
      · refine c_seq ?_
        refine c_region ?_
        refine o_as st rfl rfl ?_
        refine c_nil ?_
        refine l_then ?_
        refine c_ret ?_
        refine l_ret ?_
        exact l_end1 Try.results7 false () (rv_t rfl) (fun _ _ => NewCh.nil _ _ _ _)
      · refine c_skip ?_
        refine l_then ?_
        refine c_seq ?_
        refine c_region ?_
        refine o_as st rfl rfl ?_
        refine c_nil ?_
        refine l_then ?_
        refine c_seq ?_
        refine c_region ?_
        refine o_mv st rfl rfl ?_
        refine o_mv st rfl rfl ?_
        refine pk [2, 0, 1, 3, 4, 5] rfl ?_
        refine stw (o_call (vs := [v11, (.int .i64 1)]) (M0 := [ownCh elGRewrite 28 v11 r10]) Try.call26 rfl rfl (by intro w m h; exact (w_laws_markRewriteS (F := allB [ownCh elGRewrite 28 v11 r10] w) (a_0 := r10) (k_1 := 1) allB_ok m.given h).mono (fun _ _ k => ret_free (fun r u => (fr_cons (free_own flelGRewrite) fr_nil)) k)) ?_); rintro ⟨r21, r22⟩ _
        refine o_as st rfl rfl ?_
        refine c_nil ?_
        refine l_then ?_
        refine c_seq ?_
        refine c_join (σ := Bool) (fun (t85 : Bool) (a : Act) (w : World) => Has 69 [(0, v1), (4, v8), (6, v14), (42, (.bool t85))] a ∧ Mem (gB F [] w0) (feet []) w0 [ownCh elGSpan 58 v14 r13, ownCh elGSpan 58 v8 r7, snapCh w0 F] w) ?_ ?_
        · intro k86
          refine c_region ?_
          refine o_mv st rfl rfl ?_
          refine o_lss st rfl rfl rfl ?_
          refine o_mv st rfl rfl ?_
          refine st_sp (dj := 37) rfl ?_ ?_
          · refine st_s rfl rfl rfl rfl ?_
            refine st_s rfl rfl rfl rfl ?_
            refine st_s rfl rfl rfl rfl ?_
            refine st_s rfl rfl rfl rfl ?_
            refine o_pickT st rfl rfl rfl ?_
            refine c_nil ?_
            exact l_join true (fun a w hE hm => ⟨hE.sub ⟨rfl, rfl, rfl, rfl, trivial⟩, (hm.pick [2, 3, 5] rfl)⟩)
          · refine o_mv (st_g rfl rfl) rfl rfl ?_
            refine o_mv (st_g rfl rfl) rfl rfl ?_
            refine st_gw rfl rfl (o_callP (vs := [v14, v8]) Try.call25 rfl rfl (by intro w m h; exact (w_laws_eqSpanS (F := allB [] w) (a_0 := r13) (b_1 := r7) allB_ok (m.rd0 2 rfl reads_own) (m.rd0 3 rfl reads_own) h).mono (fun _ _ k => ret_free (fun r u => fr_nil) k)) ?_); rintro r24 _
            refine o_not (st_g rfl rfl) rfl rfl ?_
            refine o_pickF st rfl rfl rfl ?_
            refine c_nil ?_
            exact l_join (!r24) (fun a w hE hm => ⟨hE.sub ⟨rfl, rfl, rfl, rfl, trivial⟩, (hm.pick [2, 3, 5] rfl)⟩)
        · rintro t85 a w ⟨hE, hm⟩ h
          refine nx_of hE hm h ?_
          clear hE hm h
          refine c_cond rfl ?_ ?_
          · refine c_seq ?_
            refine c_region ?_
            refine o_as st rfl rfl ?_
            refine c_nil ?_
            refine l_then ?_
            refine c_ret ?_
            refine l_ret ?_
            exact l_end1 Try.results7 false () (rv_t rfl) (fun _ _ => NewCh.nil _ _ _ _)
          · refine c_skip ?_
            refine l_then ?_
            refine c_seq ?_
            refine c_region ?_
            refine o_as st rfl rfl ?_
            refine c_nil ?_
            refine l_then ?_
            refine c_seq ?_
            refine c_region ?_
            refine o_mv st rfl rfl ?_
            refine o_mv st rfl rfl ?_
            refine stw (o_call (vs := [v14, (.int .i64 1)]) (M0 := [ownCh elGSpan 58 v14 r13]) Try.call27 rfl rfl (by intro w m h; exact (w_laws_markSpanS (F := allB [ownCh elGSpan 58 v14 r13] w) (a_0 := r13) (k_1 := 1) allB_ok m.given h).mono (fun _ _ k => ret_free (fun r u => (fr_cons (free_own flelGSpan) fr_nil)) k)) ?_); rintro ⟨r87, r88⟩ _
            refine o_as st rfl rfl ?_
            refine c_nil ?_
            refine l_then ?_
            refine c_seq ?_
            refine c_region ?_
            refine o_as st rfl rfl ?_
            refine c_nil ?_
            refine l_then ?_
            refine c_seq ?_
            refine c_region ?_
            refine o_mv st rfl rfl ?_
            refine o_mv st rfl rfl ?_
            refine stw (o_callP (vs := [v14, (.int .i64 1)]) Try.call28 rfl rfl (by intro w m h; exact (w_laws_heldSpanS (F := allB [] w) (a_0 := r88) (k_1 := 1) allB_ok (m.rd0 0 rfl reads_own) h).mono (fun _ _ k => ret_free (fun r u => fr_nil) k)) ?_); rintro r90 _
            refine o_as st rfl rfl ?_
            refine c_nil ?_
            refine l_then ?_
            refine c_seq ?_
            refine c_seq ?_
            refine c_region ?_
            refine o_mv st rfl rfl ?_
            refine o_lss st rfl rfl rfl ?_
            refine c_nil ?_
            refine l_then ?_
            refine c_cond rfl ?_ ?_
            · refine c_seq ?_
              refine c_region ?_
              refine o_as st rfl rfl ?_
              refine c_nil ?_
              refine l_then ?_
              refine c_ret ?_
              refine l_ret ?_
              exact l_end1 Try.results7 false () (rv_t rfl) (fun _ _ => NewCh.nil _ _ _ _)
            · refine c_skip ?_
              refine l_then ?_
              refine c_seq ?_
              refine c_seq ?_
              refine c_region ?_
              refine o_mv st rfl rfl ?_
              refine o_mv st rfl rfl ?_
              refine o_neq st und3 rfl rfl rfl ?_
              refine c_nil ?_
              refine l_then ?_
              refine c_cond rfl ?_ ?_
              · refine c_seq ?_
                refine c_region ?_
                refine o_as st rfl rfl ?_
                refine c_nil ?_
                refine l_then ?_
                refine c_ret ?_
                refine l_ret ?_
                exact l_end1 Try.results7 false () (rv_t rfl) (fun _ _ => NewCh.nil _ _ _ _)
              · refine c_skip ?_
                refine l_then ?_
                refine c_seq ?_
                refine c_region ?_
                refine o_mv st rfl rfl ?_
                refine stw (o_callP (vs := [v1]) Try.call14 rfl rfl (by intro w m h; exact (w_laws_toRewriteS (F := allB [] w) (a_0 := aList_0) allB_ok (m.rd0 2 rfl (reads_snap hv1)) h).mono (fun _ _ k => ret_free (fun r u => (fr_cons (free_own flelGRewrite) fr_nil)) k)) ?_); rintro r91 v92
                refine stw (o_callP (vs := [v92]) Try.call20 rfl rfl (by intro w m h; exact (w_impl_HiddenFrom (F := allB [] w) (list_0 := r91) allB_ok (m.rd0 0 rfl reads_own) h).mono (fun _ _ k => ret_free (fun r u => (fr_cons (free_own flelGSpan) fr_nil)) k)) ?_); rintro r94 v95
                refine o_as st rfl rfl ?_
                refine c_nil ?_
                refine l_then ?_
                refine c_seq ?_
                refine c_seq ?_
                refine c_region ?_
                refine o_mv st rfl rfl ?_
                refine o_mv st rfl rfl ?_
                refine stw (o_callP (vs := [v95, v8]) Try.call25 rfl rfl (by intro w m h; exact (w_laws_eqSpanS (F := allB [] w) (a_0 := r94) (b_1 := r7) allB_ok (m.rd0 0 rfl reads_own) (m.rd0 3 rfl reads_own) h).mono (fun _ _ k => ret_free (fun r u => fr_nil) k)) ?_); rintro r97 _
                refine o_not st rfl rfl ?_
                refine c_nil ?_
                refine l_then ?_
                refine c_cond rfl ?_ ?_
                · refine c_seq ?_
                  refine c_region ?_
                  refine o_as st rfl rfl ?_
                  refine c_nil ?_
                  refine l_then ?_
                  refine c_ret ?_
                  refine l_ret ?_
                  exact l_end1 Try.results7 false () (rv_t rfl) (fun _ _ => NewCh.nil _ _ _ _)
                · refine c_skip ?_
                  refine l_then ?_
                  refine c_seq ?_
                  refine c_region ?_
                  refine o_as st rfl rfl ?_
                  refine c_nil ?_
                  refine l_then ?_
                  refine c_seq ?_
                  refine c_region ?_
                  refine o_mv st rfl rfl ?_
                  refine o_mv st rfl rfl ?_
                  refine stw (o_callP (vs := [v14, (.int .i64 1)]) Try.call28 rfl rfl (by intro w m h; exact (w_laws_heldSpanS (F := allB [] w) (a_0 := r88) (k_1 := 1) allB_ok (m.rd0 2 rfl reads_own) h).mono (fun _ _ k => ret_free (fun r u => fr_nil) k)) ?_); rintro r98 _
                  refine o_as st rfl rfl ?_
                  refine c_nil ?_
                  refine l_then ?_
                  refine c_seq ?_
                  refine c_seq ?_
                  refine c_region ?_
                  refine o_mv st rfl rfl ?_
                  refine o_lss st rfl rfl rfl ?_
                  refine c_nil ?_
                  refine l_then ?_
                  refine c_cond rfl ?_ ?_
                  · refine c_seq ?_
                    refine c_region ?_
                    refine o_as st rfl rfl ?_
                    refine c_nil ?_
                    refine l_then ?_
                    refine c_ret ?_
                    refine l_ret ?_
                    exact l_end1 Try.results7 false () (rv_t rfl) (fun _ _ => NewCh.nil _ _ _ _)
                  · refine c_skip ?_
                    refine l_then ?_
                    refine c_seq ?_
                    refine c_seq ?_
                    refine c_region ?_
                    refine o_mv st rfl rfl ?_
                    refine o_mv st rfl rfl ?_
                    refine o_neq st und3 rfl rfl rfl ?_
                    refine c_nil ?_
                    refine l_then ?_
                    refine c_cond rfl ?_ ?_
                    · refine c_seq ?_
                      refine c_region ?_
                      refine o_as st rfl rfl ?_
                      refine c_nil ?_
                      refine l_then ?_
                      refine c_ret ?_
                      refine l_ret ?_
                      exact l_end1 Try.results7 false () (rv_t rfl) (fun _ _ => NewCh.nil _ _ _ _)
                    · refine c_skip ?_
                      refine l_then ?_
                      refine c_seq ?_
                      refine c_region ?_
                      refine o_as st rfl rfl ?_
                      refine c_nil ?_
                      refine l_then ?_
                      refine c_ret ?_
                      exact l_end1 Try.results7 true () (rv_t rfl) (fun _ _ => NewCh.nil _ _ _ _)



end

end Go.Proofs.Ytdjfbceokpofmaa
