/- The walks of the functions of this seat (printed), on. -/
import Derived.Test.YtnogaeckmiekdaaDoorG3LWalk2
set_option linter.unusedSimpArgs false
set_option linter.unusedVariables false
namespace Go.Proofs.YtnogaeckmiekdaaDoor
open Go.RowKit
set_option maxRecDepth 100000 in
set_option maxHeartbeats 8000000 in
theorem w_impl_acyclic {w0 : World} {F : Nat → Prop} {v1 : Value} {chains_0 : (List (List GRule))} {κ : Bool → Prop} (hF : ∀ b, F b → b < w0.heap.size ∧ ¬ feet [] b) (hv1 : Sl (elSl elGRule) F w0 v1 chains_0) (h : L_impl_acyclic chains_0 κ) :
    Calls Tryd.prog 98 #[v1] w0 (Ret [] F w0 κ (fun (r : Bool) (u : Unit) => (.bool r)) (fun (r : Bool) (u : Unit) => [])) := by
  refine enterS (args := [v1]) [] hF (Given.nil _ _) Tryd.func98 rfl Tryd.ntmps98 rfl h ?_
  clear h hF
  refine c_seq ?_
  refine c_region ?_
  refine o_as st rfl rfl ?_
  refine c_nil ?_
  refine l_then ?_
  refine c_seq ?_
  refine c_region ?_
  refine stw (o_allocA (El' := elInt) (z := (0 : Int)) (len := 5) (zs := [(.int .i64 0)]) (fun F w => (flelInt _ _ _ _).2 rfl) rfl zero130 rfl rfl ?_); intro b3
  refine c_nil ?_
  refine l_then ?_
  refine c_seq ?_
  refine c_seq ?_
  refine c_region ?_
  refine o_mv st rfl rfl ?_
  refine o_len st el62 1 rfl (reads_snap hv1) rfl rfl ?_
  refine o_mv st rfl rfl ?_
  refine c_nil ?_
  refine l_then ?_
  refine c_block ?_
  refine c_loop (σ := ((List Int) × Int)) (fun ((xs5, t7) : ((List Int) × Int)) (a : Act) (w : World) => Has 15 [(0, v1), (3, (.pointer (some ⟨b3, 0, none⟩))), (6, (.int .i64 (chains_0.length : Int))), (7, (.int .i64 t7))] a ∧ Mem (gB F [] w0) (feet []) w0 [ownCh elInt 130 (.slice (some ⟨b3, 0, none⟩) 5 5) xs5, snapCh w0 F] w) (fun a w hE hm => ⟨hE.sub ⟨rfl, rfl, rfl, rfl, trivial⟩, (hm.pick [0, 1] rfl)⟩) ?_
  rintro nx8 ⟨xs5, t7⟩ a w ⟨hE, hm⟩ h
  refine nx_of hE hm h ?_
  clear hE hm h
  refine c_seq ?_
  refine c_region ?_
  refine o_lss st rfl rfl rfl ?_
  refine c_nil ?_
  refine l_then ?_
  refine c_seq ?_
  refine c_cond rfl ?_ ?_
  · refine c_skip ?_
    refine l_then ?_
    refine c_seq ?_
    refine c_block ?_
    refine c_seq ?_
    refine c_region ?_
    refine o_mv st rfl rfl ?_
    refine o_as st rfl rfl ?_
    refine c_nil ?_
    refine l_then ?_
    refine c_seq ?_
    refine c_region ?_
    refine o_mv st rfl rfl ?_
    refine o_mv st rfl rfl ?_
    refine stw (o_call (vs := [v1, (.int .i64 t7), (.pointer (some ⟨b3, 0, none⟩))]) (M0 := [ownCh elInt 130 (.slice (some ⟨b3, 0, none⟩) 5 5) xs5]) Tryd.call101 rfl rfl (by intro w m h; exact (w_impl_visitCalls (F := allB [ownCh elInt 130 (.slice (some ⟨b3, 0, none⟩) 5 5) xs5] w) (chains_0 := chains_0) (chain_1 := t7) (colours_2 := xs5) allB_ok m.given (m.rdM 0 rfl (reads_snap hv1)) h).mono (fun _ _ k => ret_free (fun r u => (fr_cons (free_own flelInt) fr_nil)) k)) ?_); rintro ⟨r9, r10⟩ _
    refine o_not st rfl rfl ?_
    refine c_nil ?_
    refine l_then ?_
    refine c_cond rfl ?_ ?_
    · refine c_seq ?_
      refine c_region ?_
      refine o_as st rfl rfl ?_
      refine c_nil ?_
      refine l_then ?_
      refine c_ret ?_
      refine b_ret ?_
      refine l_ret ?_
      refine l_ret ?_
      refine b_ret ?_
      refine l_ret ?_
      exact l_end1 Tryd.results98 false () (rv_t rfl) (fun _ _ => NewCh.nil _ _ _ _)
    · refine c_skip ?_
      refine b_norm ?_
      refine l_then ?_
      refine c_region ?_
      refine o_add st rfl rfl rfl ?_; intro t12
      refine o_mv st rfl rfl ?_
      refine c_nil ?_
      exact l_join (r10, t12) (fun a w hE hm => ⟨hE.sub ⟨rfl, rfl, rfl, rfl, trivial⟩, (hm.pick [0, 1] rfl)⟩)
  · refine c_exit ?_
    refine l_exit ?_
    refine l_exit ?_
    refine b_exit ?_
    refine l_then ?_
    refine c_seq ?_
    refine c_region ?_
    refine o_as st rfl rfl ?_
    refine c_nil ?_
    refine l_then ?_
    refine c_ret ?_
    exact l_end1 Tryd.results98 true () (rv_t rfl) (fun _ _ => NewCh.nil _ _ _ _)

set_option maxRecDepth 100000 in
set_option maxHeartbeats 8000000 in
theorem w_impl_RulesetValid {w0 : World} {F : Nat → Prop} {v1 : Value} {s_0 : GRuleset} {κ : Bool → Prop} (hF : ∀ b, F b → b < w0.heap.size ∧ ¬ feet [] b) (hv1 : Sl (elSl elGRule) F w0 v1 s_0.xChains) (hgl0 : Sl elGFieldShape F w0 (.slice (some ⟨0, 0, none⟩) 4 4) gl_impl_fieldShapes) (h : L_impl_RulesetValid s_0 κ) :
    Calls Tryd.prog 82 #[(.agg #[v1, (.bool s_0.xAccept)])] w0 (Ret [] F w0 κ (fun (r : Bool) (u : Unit) => (.bool r)) (fun (r : Bool) (u : Unit) => [])) := by
  refine enterS (args := [(.agg #[v1, (.bool s_0.xAccept)])]) [] hF (Given.nil _ _) Tryd.func82 rfl Tryd.ntmps82 rfl h ?_
  clear h hF
  refine c_seq ?_
  refine c_region ?_
  obtain ⟨a3, l4, q5, hs_⟩ := sl_val hv1; subst hs_
  refine stw (o_box rfl rfl [(.slice a3 l4 q5), (.bool s_0.xAccept)] rfl ?_); intro b6
  refine o_as st rfl rfl ?_
  refine c_nil ?_
  refine l_then ?_
  refine c_seq ?_
  refine c_join (σ := Bool) (fun (t68 : Bool) (a : Act) (w : World) => Has 54 [(1, (.pointer (some ⟨b6, 0, none⟩))), (18, (.bool t68))] a ∧ Mem (gB F [] w0) (feet []) w0 [cellCh b6 [(.slice a3 l4 q5), (.bool s_0.xAccept)] 64, snapCh w0 F] w) ?_ ?_
  · intro k69
    refine c_region ?_
    refine o_fad st rfl rfl fld64_0 rfl ?_
    refine o_ldc st (v := (.slice a3 l4 q5)) 0 rfl rfl rfl ty62 rfl ?_
    refine o_len st el62 1 rfl (reads_snap hv1) rfl rfl ?_
    refine o_lss st rfl rfl rfl ?_
    refine o_mv st rfl rfl ?_
    refine st_sp (dj := 13) rfl ?_ ?_
    · refine st_s rfl rfl rfl rfl ?_
      refine st_s rfl rfl rfl rfl ?_
      refine st_s rfl rfl rfl rfl ?_
      refine st_s rfl rfl rfl rfl ?_
      refine o_pickT st rfl rfl rfl ?_
      refine c_nil ?_
      exact l_join true (fun a w hE hm => ⟨hE.sub ⟨rfl, rfl, trivial⟩, (hm.pick [0, 1] rfl)⟩)
    · refine o_fad (st_g rfl rfl) rfl rfl fld64_0 rfl ?_
      refine o_ldc (st_g rfl rfl) (v := (.slice a3 l4 q5)) 0 rfl rfl rfl ty62 rfl ?_
      refine o_len (st_g rfl rfl) el62 1 rfl (reads_snap hv1) rfl rfl ?_
      refine o_gtr (st_g rfl rfl) rfl rfl rfl ?_
      refine o_pickF st rfl rfl rfl ?_
      refine c_nil ?_
      exact l_join (decide (5 < (s_0.xChains.length : Int))) (fun a w hE hm => ⟨hE.sub ⟨rfl, rfl, trivial⟩, (hm.pick [0, 1] rfl)⟩)
  · rintro t68 a w ⟨hE, hm⟩ h
    refine nx_of hE hm h ?_
    clear hE hm h
    refine c_cond rfl ?_ ?_
    · refine c_seq ?_
      refine c_region ?_
      refine o_as st rfl rfl ?_
      refine c_nil ?_
      refine l_then ?_
      refine c_ret ?_
      refine l_ret ?_
      exact l_end1 Tryd.results82 false () (rv_t rfl) (fun _ _ => NewCh.nil _ _ _ _)
    · refine c_skip ?_
      refine l_then ?_
      refine c_seq ?_
      refine c_seq ?_
      refine c_region ?_
      refine o_fad st rfl rfl fld64_0 rfl ?_
      refine o_ldc st (v := (.slice a3 l4 q5)) 0 rfl rfl rfl ty62 rfl ?_
      refine o_len st el62 1 rfl (reads_snap hv1) rfl rfl ?_
      refine o_mv st rfl rfl ?_
      refine c_nil ?_
      refine l_then ?_
      refine c_block ?_
      refine c_loop (σ := Int) (fun (t70 : Int) (a : Act) (w : World) => Has 54 [(1, (.pointer (some ⟨b6, 0, none⟩))), (20, (.slice a3 l4 q5)), (21, (.int .i64 (s_0.xChains.length : Int))), (22, (.int .i64 t70))] a ∧ Mem (gB F [] w0) (feet []) w0 [cellCh b6 [(.slice a3 l4 q5), (.bool s_0.xAccept)] 64, snapCh w0 F] w) (fun a w hE hm => ⟨hE.sub ⟨rfl, rfl, rfl, rfl, trivial⟩, (hm.pick [0, 1] rfl)⟩) ?_
      rintro nx71 t70 a w ⟨hE, hm⟩ h
      refine nx_of hE hm h ?_
      clear hE hm h
      refine c_seq ?_
      refine c_region ?_
      refine o_lss st rfl rfl rfl ?_
      refine c_nil ?_
      refine l_then ?_
      refine c_seq ?_
      refine c_cond rfl ?_ ?_
      · refine c_skip ?_
        refine l_then ?_
        refine c_seq ?_
        refine c_block ?_
        refine c_seq ?_
        refine c_region ?_
        refine o_idx st 1 rfl (reads_snap hv1) rfl rfl rfl el62 ?_; intro e72 h73
        obtain ⟨_, ⟨v75, rfl, sl76⟩, rw74⟩ := sl_open hv1 h73
        refine o_ldR st (u := v75) 1 rfl rw74 rfl rfl ty69 rfl ?_
        refine o_as st rfl rfl ?_
        refine c_nil ?_
        refine l_then ?_
        refine c_seq ?_
        refine c_region ?_
        refine o_mv st rfl rfl ?_
        refine stw (o_callP (vs := [v75]) Tryd.call96 rfl rfl (by intro w m h; exact (w_impl_RulesValid (F := allB [] w) (list_0 := e72) allB_ok (m.rd0 1 rfl (reads_snap sl76)) (m.rd0 1 rfl (reads_snap hgl0)) h).mono (fun _ _ k => ret_free (fun r u => fr_nil) k)) ?_); rintro r78 _
        refine o_not st rfl rfl ?_
        refine c_nil ?_
        refine l_then ?_
        refine c_cond rfl ?_ ?_
        · refine c_seq ?_
          refine c_region ?_
          refine o_as st rfl rfl ?_
          refine c_nil ?_
          refine l_then ?_
          refine c_ret ?_
          refine b_ret ?_
          refine l_ret ?_
          refine l_ret ?_
          refine b_ret ?_
          refine l_ret ?_
          exact l_end1 Tryd.results82 false () (rv_t rfl) (fun _ _ => NewCh.nil _ _ _ _)
        · refine c_skip ?_
          refine b_norm ?_
          refine l_then ?_
          refine c_region ?_
          refine o_add st rfl rfl rfl ?_; intro t79
          refine o_mv st rfl rfl ?_
          refine c_nil ?_
          exact l_join t79 (fun a w hE hm => ⟨hE.sub ⟨rfl, rfl, rfl, rfl, trivial⟩, (hm.pick [0, 1] rfl)⟩)
      · refine c_exit ?_
        refine l_exit ?_
        refine l_exit ?_
        refine b_exit ?_
        refine l_then ?_
        refine c_seq ?_
        refine c_seq ?_
        refine c_region ?_
        refine o_fad st rfl rfl fld64_0 rfl ?_
        refine o_ldc st (v := (.slice a3 l4 q5)) 0 rfl rfl rfl ty62 rfl ?_
        refine o_len st el62 1 rfl (reads_snap hv1) rfl rfl ?_
        refine o_mv st rfl rfl ?_
        refine c_nil ?_
        refine l_then ?_
        refine c_block ?_
        refine c_loop (σ := Int) (fun (t80 : Int) (a : Act) (w : World) => Has 54 [(1, (.pointer (some ⟨b6, 0, none⟩))), (31, (.slice a3 l4 q5)), (32, (.int .i64 (s_0.xChains.length : Int))), (33, (.int .i64 t80))] a ∧ Mem (gB F [] w0) (feet []) w0 [cellCh b6 [(.slice a3 l4 q5), (.bool s_0.xAccept)] 64, snapCh w0 F] w) (fun a w hE hm => ⟨hE.sub ⟨rfl, rfl, rfl, rfl, trivial⟩, (hm.pick [0, 1] rfl)⟩) ?_
        rintro nx81 t80 a w ⟨hE, hm⟩ h
        refine nx_of hE hm h ?_
        clear hE hm h
        refine c_seq ?_
        refine c_region ?_
        refine o_lss st rfl rfl rfl ?_
        refine c_nil ?_
        refine l_then ?_
        refine c_seq ?_
        refine c_cond rfl ?_ ?_
        · refine c_skip ?_
          refine l_then ?_
          refine c_seq ?_
          refine c_block ?_
          refine c_seq ?_
          refine c_region ?_
          refine o_idx st 1 rfl (reads_snap hv1) rfl rfl rfl el62 ?_; intro e82 h83
          obtain ⟨_, ⟨v85, rfl, sl86⟩, rw84⟩ := sl_open hv1 h83
          refine o_ldR st (u := v85) 1 rfl rw84 rfl rfl ty69 rfl ?_
          refine o_as st rfl rfl ?_
          refine c_nil ?_
          refine l_then ?_
          refine c_seq ?_
          refine c_region ?_
          refine o_mv st rfl rfl ?_
          refine stw (o_callP (vs := [v85]) Tryd.call97 rfl rfl (by intro w m h; exact (w_impl_callsIn (F := allB [] w) (rules_0 := e82) allB_ok (m.rd0 1 rfl (reads_snap sl86)) h).mono (fun _ _ k => ret_free (fun r u => (fr_cons (free_own flelInt) fr_nil)) k)) ?_); rintro r88 v89
          refine o_len st el103 0 rfl reads_own rfl rfl ?_
          refine o_mv st rfl rfl ?_
          refine c_nil ?_
          refine l_then ?_
          refine c_block ?_
          refine c_loop (σ := Int) (fun (t91 : Int) (a : Act) (w : World) => Has 54 [(1, (.pointer (some ⟨b6, 0, none⟩))), (31, (.slice a3 l4 q5)), (32, (.int .i64 (s_0.xChains.length : Int))), (33, (.int .i64 t80)), (38, v89), (39, (.int .i64 (r88.length : Int))), (40, (.int .i64 t91))] a ∧ Mem (gB F [] w0) (feet []) w0 [ownCh elInt 3 v89 r88, cellCh b6 [(.slice a3 l4 q5), (.bool s_0.xAccept)] 64, snapCh w0 F] w) (fun a w hE hm => ⟨hE.sub ⟨rfl, rfl, rfl, rfl, rfl, rfl, rfl, trivial⟩, (hm.pick [0, 1, 2] rfl)⟩) ?_
          rintro nx92 t91 a w ⟨hE, hm⟩ h
          refine nx_of hE hm h ?_
          clear hE hm h
          refine c_seq ?_
          refine c_region ?_
          refine o_lss st rfl rfl rfl ?_
          refine c_nil ?_
          refine l_then ?_
          refine c_seq ?_
          refine c_cond rfl ?_ ?_
          · refine c_skip ?_
            refine l_then ?_
            refine c_seq ?_
            refine c_block ?_
            refine c_seq ?_
            refine c_region ?_
            refine o_idx st 0 rfl reads_own rfl rfl rfl el103 ?_; intro e93 h94
            refine o_lds st (enc := encInt) (u := (.int .i64 e93)) 0 rfl reads_own flelInt rfl h94 rfl rfl ty3 rfl ?_
            refine o_as st rfl rfl ?_
            refine c_nil ?_
            refine l_then ?_
            refine c_seq ?_
            refine c_region ?_
            refine o_mv st rfl rfl ?_
            refine o_fad st rfl rfl fld64_0 rfl ?_
            refine o_ldc st (v := (.slice a3 l4 q5)) 1 rfl rfl rfl ty62 rfl ?_
            refine o_len st el62 2 rfl (reads_snap hv1) rfl rfl ?_
            refine o_geq st rfl rfl rfl ?_
            refine c_nil ?_
            refine l_then ?_
            refine c_cond rfl ?_ ?_
            · refine c_seq ?_
              refine c_region ?_
              refine o_as st rfl rfl ?_
              refine c_nil ?_
              refine l_then ?_
              refine c_ret ?_
              refine b_ret ?_
              refine l_ret ?_
              refine l_ret ?_
              refine b_ret ?_
              refine b_ret ?_
              refine l_ret ?_
              refine l_ret ?_
              refine b_ret ?_
              refine l_ret ?_
              exact l_end1 Tryd.results82 false () (rv_t rfl) (fun _ _ => NewCh.nil _ _ _ _)
            · refine c_skip ?_
              refine b_norm ?_
              refine l_then ?_
              refine c_region ?_
              refine o_add st rfl rfl rfl ?_; intro t95
              refine o_mv st rfl rfl ?_
              refine c_nil ?_
              exact l_join t95 (fun a w hE hm => ⟨hE.sub ⟨rfl, rfl, rfl, rfl, rfl, rfl, rfl, trivial⟩, (hm.pick [0, 1, 2] rfl)⟩)
          · refine c_exit ?_
            refine l_exit ?_
            refine l_exit ?_
            refine b_exit ?_
            refine b_norm ?_
            refine l_then ?_
            refine c_region ?_
            refine o_add st rfl rfl rfl ?_; intro t96
            refine o_mv st rfl rfl ?_
            refine c_nil ?_
            exact l_join t96 (fun a w hE hm => ⟨hE.sub ⟨rfl, rfl, rfl, rfl, trivial⟩, (hm.pick [1, 2] rfl)⟩)
        · refine c_exit ?_
          refine l_exit ?_
          refine l_exit ?_
          refine b_exit ?_
          refine l_then ?_
          refine c_seq ?_
          refine c_region ?_
          refine o_fad st rfl rfl fld64_0 rfl ?_
          refine o_ldc st (v := (.slice a3 l4 q5)) 0 rfl rfl rfl ty62 rfl ?_
          refine stw (o_callP (vs := [(.slice a3 l4 q5)]) Tryd.call98 rfl rfl (by intro w m h; exact (w_impl_acyclic (F := allB [] w) (chains_0 := s_0.xChains) allB_ok (m.rd0 1 rfl (reads_snap hv1)) h).mono (fun _ _ k => ret_free (fun r u => fr_nil) k)) ?_); rintro r97 _
          refine o_as st rfl rfl ?_
          refine c_nil ?_
          refine l_then ?_
          refine c_ret ?_
          exact l_end1 Tryd.results82 r97 () (rv_t rfl) (fun _ _ => NewCh.nil _ _ _ _)

set_option maxRecDepth 100000 in
set_option maxHeartbeats 8000000 in
theorem w_impl_chainLine {w0 : World} {F : Nat → Prop} {number_0 : Int} {κ : ByteArray → Prop} (hF : ∀ b, F b → b < w0.heap.size ∧ ¬ feet [] b) (hgl1 : Tb F w0) (h : L_impl_chainLine number_0 κ) :
    Calls Tryd.prog 83 #[(.int .i64 number_0)] w0 (Ret [] F w0 κ (fun (r : ByteArray) (u : Unit) => (.string r)) (fun (r : ByteArray) (u : Unit) => [])) := by
  refine enterS (args := [(.int .i64 number_0)]) [] hF (Given.nil _ _) Tryd.func83 rfl Tryd.ntmps83 rfl h ?_
  clear h hF
  refine c_seq ?_
  refine c_region ?_
  refine o_as st rfl rfl ?_
  refine c_nil ?_
  refine l_then ?_
  refine c_seq ?_
  refine c_region ?_
  refine o_mv st rfl rfl ?_
  refine stw (o_callP (vs := [(.int .i64 number_0)]) Tryd.call61 rfl rfl (by intro w m h; exact w_lib_Itoa (n_0 := number_0) (hgl1.of (m.get (i := 0) rfl)) h) ?_); rintro r1 _
  refine o_cat st rfl rfl rfl ?_; intro s2
  refine o_as st rfl rfl ?_
  refine c_nil ?_
  refine l_then ?_
  refine c_ret ?_
  exact l_end1 Tryd.results83 s2 () (rv_t rfl) (fun _ _ => NewCh.nil _ _ _ _)

set_option maxRecDepth 100000 in
set_option maxHeartbeats 8000000 in
theorem w_impl_RulesetText {w0 : World} {F : Nat → Prop} {v1 : Value} {s_0 : GRuleset} {κ : (List ByteArray) → Prop} (hF : ∀ b, F b → b < w0.heap.size ∧ ¬ feet [] b) (hv1 : Sl (elSl elGRule) F w0 v1 s_0.xChains) (hgl0 : Sl elGFieldShape F w0 (.slice (some ⟨0, 0, none⟩) 4 4) gl_impl_fieldShapes) (hgl1 : Tb F w0) (h : L_impl_RulesetText s_0 κ) :
    Calls Tryd.prog 47 #[(.agg #[v1, (.bool s_0.xAccept)])] w0 (Ret [] F w0 κ (fun (r : (List ByteArray)) (u : Value) => u) (fun (r : (List ByteArray)) (u : Value) => [ownCh elStr 9 u r])) := by
  refine enterS (args := [(.agg #[v1, (.bool s_0.xAccept)])]) [] hF (Given.nil _ _) Tryd.func47 rfl Tryd.ntmps47 rfl h ?_
  clear h hF
  refine c_seq ?_
  refine c_region ?_
  obtain ⟨a3, l4, q5, hs_⟩ := sl_val hv1; subst hs_
  refine stw (o_box rfl rfl [(.slice a3 l4 q5), (.bool s_0.xAccept)] rfl ?_); intro b6
  refine stw (o_asn elStr 9 rfl rfl ?_)
  refine c_nil ?_
  refine l_then ?_
  refine c_seq ?_
  refine c_seq ?_
  refine c_region ?_
  refine o_ldc st (v := (.agg #[(.slice a3 l4 q5), (.bool s_0.xAccept)])) 1 rfl rfl rfl ty64 rfl ?_
  refine stw (o_callP (vs := [(.agg #[(.slice a3 l4 q5), (.bool s_0.xAccept)])]) Tryd.call82 rfl rfl (by intro w m h; exact (w_impl_RulesetValid (F := allB [] w) (s_0 := s_0) allB_ok (m.rd0 2 rfl (reads_snap hv1)) (m.rd0 2 rfl (reads_snap hgl0)) h).mono (fun _ _ k => ret_free (fun r u => fr_nil) k)) ?_); rintro r9 _
  refine o_not st rfl rfl ?_
  refine c_nil ?_
  refine l_then ?_
  refine c_cond rfl ?_ ?_
  · refine c_seq ?_
    refine c_region ?_
    refine stw (o_asn elStr 9 rfl rfl ?_)
    refine c_nil ?_
    refine l_then ?_
    refine c_ret ?_
    refine l_ret ?_
    exact l_end1 Tryd.results47 ([]) (.slice none 0 0) (rv_t rfl) (fun w m => NewCh.ofB m [0] rfl)
  · refine c_skip ?_
    refine l_then ?_
    refine c_seq ?_
    refine c_region ?_
    refine o_as st rfl rfl ?_
    refine c_nil ?_
    refine l_then ?_
    refine c_join (σ := ByteArray) (fun (t71 : ByteArray) (a : Act) (w : World) => Has 43 [(1, (.pointer (some ⟨b6, 0, none⟩))), (3, (.string t71))] a ∧ Mem (gB F [] w0) (feet []) w0 [cellCh b6 [(.slice a3 l4 q5), (.bool s_0.xAccept)] 64, snapCh w0 F] w) ?_ ?_
    · intro k72
      refine c_seq ?_
      refine c_region ?_
      refine o_fad st rfl rfl fld64_1 rfl ?_
      refine o_ldc st (v := (.bool s_0.xAccept)) 1 rfl rfl rfl ty4 rfl ?_
      refine c_nil ?_
      refine l_then ?_
      refine c_cond rfl ?_ ?_
      · refine c_region ?_
        refine o_as st rfl rfl ?_
        refine c_nil ?_
        exact l_join (ByteArray.mk #[100, 101, 102, 97, 117, 108, 116, 32, 97, 99, 99, 101, 112, 116]) (fun a w hE hm => ⟨hE.sub ⟨rfl, rfl, trivial⟩, (hm.pick [1, 2] rfl)⟩)
      · refine c_skip ?_
        exact l_join (ByteArray.mk #[100, 101, 102, 97, 117, 108, 116, 32, 100, 114, 111, 112]) (fun a w hE hm => ⟨hE.sub ⟨rfl, rfl, trivial⟩, (hm.pick [1, 2] rfl)⟩)
    · rintro t71 a w ⟨hE, hm⟩ h
      refine nx_of hE hm h ?_
      clear hE hm h
      refine c_seq ?_
      refine c_region ?_
      refine o_mv st rfl rfl ?_
      refine stw (o_bsl (enc := encStr) (qs := [(0, (.string t71))]) (cells := [(.string t71)]) ([t71]) flelStr (by intro ρ h; simp only [List.map_toArray, List.map_cons, List.map_nil, h (.tmp 14) _ rfl]) rfl el66 zero9 rfl rfl rfl rfl rfl rfl ?_); intro v73
      refine o_as st rfl rfl ?_
      refine c_nil ?_
      refine l_then ?_
      refine c_seq ?_
      refine c_seq ?_
      refine c_region ?_
      refine o_fad st rfl rfl fld64_0 rfl ?_
      refine o_ldc st (v := (.slice a3 l4 q5)) 1 rfl rfl rfl ty62 rfl ?_
      refine o_len st el62 2 rfl (reads_snap hv1) rfl rfl ?_
      refine o_mv st rfl rfl ?_
      refine c_nil ?_
      refine l_then ?_
      refine c_block ?_
      refine c_loop (σ := ((List ByteArray) × Int)) (fun ((xs76, t79) : ((List ByteArray) × Int)) (a : Act) (w : World) => ∃ (v75 : Value), Has 43 [(4, v75), (17, (.slice a3 l4 q5)), (18, (.int .i64 (s_0.xChains.length : Int))), (19, (.int .i64 t79))] a ∧ Mem (gB F [] w0) (feet []) w0 [snapCh w0 F, ownCh elStr 9 v75 xs76] w) (fun a w hE hm => ⟨v73, hE.sub ⟨rfl, rfl, rfl, rfl, trivial⟩, (hm.pick [2, 0] rfl)⟩) ?_
      rintro nx80 ⟨xs76, t79⟩ a w ⟨v75, hE, hm⟩ h
      refine nx_of hE hm h ?_
      clear hE hm h
      refine c_seq ?_
      refine c_region ?_
      refine o_lss st rfl rfl rfl ?_
      refine c_nil ?_
      refine l_then ?_
      refine c_seq ?_
      refine c_cond rfl ?_ ?_
      · refine c_skip ?_
        refine l_then ?_
        refine c_seq ?_
        refine c_block ?_
        refine c_seq ?_
        refine c_region ?_
        refine o_mv st rfl rfl ?_
        refine o_idx st 0 rfl (reads_snap hv1) rfl rfl rfl el62 ?_; intro e81 h82
        obtain ⟨_, ⟨v84, rfl, sl85⟩, rw83⟩ := sl_open hv1 h82
        refine o_ldR st (u := v84) 0 rfl rw83 rfl rfl ty69 rfl ?_
        refine o_as st rfl rfl ?_
        refine o_as st rfl rfl ?_
        refine c_nil ?_
        refine l_then ?_
        refine c_seq ?_
        refine c_region ?_
        refine o_mv st rfl rfl ?_
        refine o_mv st rfl rfl ?_
        refine stw (o_callP (vs := [(.int .i64 t79)]) Tryd.call83 rfl rfl (by intro w m h; exact (w_impl_chainLine (F := allB [] w) (number_0 := t79) allB_ok ((hgl1.of (m.get (i := 0) rfl)).mono fz_ok0) h).mono (fun _ _ k => ret_free (fun r u => fr_nil) k)) ?_); rintro r87 _
        refine stw (o_bsl (enc := encStr) (qs := [(0, (.string r87))]) (cells := [(.string r87)]) ([r87]) flelStr (by intro ρ h; simp only [List.map_toArray, List.map_cons, List.map_nil, h (.tmp 26) _ rfl]) rfl el66 zero9 rfl rfl rfl rfl rfl rfl ?_); intro v88
        refine stw (o_app 2 0 rfl rfl (src_flat flelStr reads_own) rfl rfl rfl el66 rfl zero9 rfl rfl ?_); intro v90
        refine o_as st rfl rfl ?_
        refine c_nil ?_
        refine l_then ?_
        refine c_seq ?_
        refine c_region ?_
        refine o_mv st rfl rfl ?_
        refine o_len st el69 1 rfl (reads_snap sl85) rfl rfl ?_
        refine o_mv st rfl rfl ?_
        refine c_nil ?_
        refine l_then ?_
        refine c_block ?_
        refine c_loop (σ := ((List ByteArray) × Int)) (fun ((xs93, t96) : ((List ByteArray) × Int)) (a : Act) (w : World) => ∃ (v92 : Value), Has 43 [(4, v92), (17, (.slice a3 l4 q5)), (18, (.int .i64 (s_0.xChains.length : Int))), (19, (.int .i64 t79)), (29, v84), (30, (.int .i64 (e81.length : Int))), (31, (.int .i64 t96))] a ∧ Mem (gB F [] w0) (feet []) w0 [snapCh w0 F, ownCh elStr 9 v92 xs93] w) (fun a w hE hm => ⟨v90, hE.sub ⟨rfl, rfl, rfl, rfl, rfl, rfl, rfl, trivial⟩, (hm.pick [1, 2] rfl)⟩) ?_
        rintro nx97 ⟨xs93, t96⟩ a w ⟨v92, hE, hm⟩ h
        refine nx_of hE hm h ?_
        clear hE hm h
        refine c_seq ?_
        refine c_region ?_
        refine o_lss st rfl rfl rfl ?_
        refine c_nil ?_
        refine l_then ?_
        refine c_seq ?_
        refine c_cond rfl ?_ ?_
        · refine c_skip ?_
          refine l_then ?_
          refine c_seq ?_
          refine c_block ?_
          refine c_seq ?_
          refine c_region ?_
          refine o_idx st 0 rfl (reads_snap sl85) rfl rfl rfl el69 ?_; intro e98 h99
          obtain ⟨_, ⟨v101, rfl, sl102⟩, rw100⟩ := sl_open sl85 h99
          refine o_ldR st (u := (.agg #[v101, (.int .i64 e98.xAction), (.int .i64 e98.xChain)])) 0 rfl rw100 rfl rfl ty53 rfl ?_
          refine stw (o_alloc rfl [(.slice none 0 0), (.int .i64 0), (.int .i64 0)] zero53 ?_); intro b104
          obtain ⟨a106, l107, q108, hs_⟩ := sl_val sl102; subst hs_
          refine stw (o_stc (cs' := [(.slice a106 l107 q108), (.int .i64 e98.xAction), (.int .i64 e98.xChain)]) 0 rfl rfl rfl ty53 rfl rfl rfl rfl ?_)
          refine c_nil ?_
          refine l_then ?_
          refine c_region ?_
          refine o_mv st rfl rfl ?_
          refine o_ldc st (v := (.agg #[(.slice a106 l107 q108), (.int .i64 e98.xAction), (.int .i64 e98.xChain)])) 0 rfl rfl rfl ty53 rfl ?_
          refine stw (o_callP (vs := [(.agg #[(.slice a106 l107 q108), (.int .i64 e98.xAction), (.int .i64 e98.xChain)])]) Tryd.call73 rfl rfl (by intro w m h; exact (w_impl_Rule_text (F := allB [] w) (r_0 := e98) allB_ok (m.rd0 1 rfl (reads_snap sl102)) (m.rd0 1 rfl (reads_snap hgl0)) ((hgl1.of (m.get (i := 1) rfl)).mono fz_ok0) h).mono (fun _ _ k => ret_free (fun r u => fr_nil) k)) ?_); rintro r109 _
          refine stw (o_bsl (enc := encStr) (qs := [(0, (.string r109))]) (cells := [(.string r109)]) ([r109]) flelStr (by intro ρ h; simp only [List.map_toArray, List.map_cons, List.map_nil, h (.tmp 37) _ rfl]) rfl el66 zero9 rfl rfl rfl rfl rfl rfl ?_); intro v110
          refine stw (o_app 3 0 rfl rfl (src_flat flelStr reads_own) rfl rfl rfl el66 rfl zero9 rfl rfl ?_); intro v112
          refine o_as st rfl rfl ?_
          refine c_nil ?_
          refine b_norm ?_
          refine l_then ?_
          refine c_region ?_
          refine o_add st rfl rfl rfl ?_; intro t114
          refine o_mv st rfl rfl ?_
          refine c_nil ?_
          exact l_join ((xs93 ++ ([r109])), t114) (fun a w hE hm => ⟨v112, hE.sub ⟨rfl, rfl, rfl, rfl, rfl, rfl, rfl, trivial⟩, (hm.pick [2, 3] rfl)⟩)
        · refine c_exit ?_
          refine l_exit ?_
          refine l_exit ?_
          refine b_exit ?_
          refine b_norm ?_
          refine l_then ?_
          refine c_region ?_
          refine o_add st rfl rfl rfl ?_; intro t115
          refine o_mv st rfl rfl ?_
          refine c_nil ?_
          exact l_join (xs93, t115) (fun a w hE hm => ⟨v92, hE.sub ⟨rfl, rfl, rfl, rfl, trivial⟩, (hm.pick [0, 1] rfl)⟩)
      · refine c_exit ?_
        refine l_exit ?_
        refine l_exit ?_
        refine b_exit ?_
        refine l_then ?_
        refine c_seq ?_
        refine c_region ?_
        refine o_mv st rfl rfl ?_
        refine o_as st rfl rfl ?_
        refine c_nil ?_
        refine l_then ?_
        refine c_ret ?_
        exact l_end1 Tryd.results47 xs76 v75 (rv_t rfl) (fun w m => NewCh.ofB m [1] rfl)

set_option maxRecDepth 100000 in
set_option maxHeartbeats 8000000 in
theorem w_laws_sameTexts {w0 : World} {F : Nat → Prop} {v1 : Value} {v3 : Value} {a_0 : (List ByteArray)} {b_1 : (List ByteArray)} {κ : Bool → Prop} (hF : ∀ b, F b → b < w0.heap.size ∧ ¬ feet [] b) (hv1 : Sl elStr F w0 v1 a_0) (hv3 : Sl elStr F w0 v3 b_1) (h : L_laws_sameTexts a_0 b_1 κ) :
    Calls Tryd.prog 48 #[v1, v3] w0 (Ret [] F w0 κ (fun (r : Bool) (u : Unit) => (.bool r)) (fun (r : Bool) (u : Unit) => [])) := by
  refine enterS (args := [v1, v3]) [] hF (Given.nil _ _) Tryd.func48 rfl Tryd.ntmps48 rfl h ?_
  clear h hF
  refine c_seq ?_
  refine c_region ?_
  refine o_as st rfl rfl ?_
  refine c_nil ?_
  refine l_then ?_
  refine c_seq ?_
  refine c_seq ?_
  refine c_region ?_
  refine o_mv st rfl rfl ?_
  refine o_len st el66 0 rfl (reads_snap hv1) rfl rfl ?_
  refine o_mv st rfl rfl ?_
  refine o_len st el66 0 rfl (reads_snap hv3) rfl rfl ?_
  refine o_neq st und3 rfl rfl rfl ?_
  refine c_nil ?_
  refine l_then ?_
  refine c_cond rfl ?_ ?_
  · refine c_seq ?_
    refine c_region ?_
    refine o_as st rfl rfl ?_
    refine c_nil ?_
    refine l_then ?_
    refine c_ret ?_
    refine l_ret ?_
    exact l_end1 Tryd.results48 false () (rv_t rfl) (fun _ _ => NewCh.nil _ _ _ _)
  · refine c_skip ?_
    refine l_then ?_
    refine c_seq ?_
    refine c_seq ?_
    refine c_region ?_
    refine o_as st rfl rfl ?_
    refine c_nil ?_
    refine l_then ?_
    refine c_block ?_
    refine c_loop (σ := Int) (fun (t5 : Int) (a : Act) (w : World) => Has 26 [(0, v1), (1, v3), (5, (.int .i64 t5))] a ∧ Mem (gB F [] w0) (feet []) w0 [snapCh w0 F] w) (fun a w hE hm => ⟨hE.sub ⟨rfl, rfl, rfl, trivial⟩, (hm.pick [0] rfl)⟩) ?_
    rintro nx6 t5 a w ⟨hE, hm⟩ h
    refine nx_of hE hm h ?_
    clear hE hm h
    refine c_seq ?_
    refine c_seq ?_
    refine c_region ?_
    refine o_mv st rfl rfl ?_
    refine o_mv st rfl rfl ?_
    refine o_len st el66 0 rfl (reads_snap hv1) rfl rfl ?_
    refine o_lss st rfl rfl rfl ?_
    refine c_nil ?_
    refine l_then ?_
    refine c_cond rfl ?_ ?_
    · refine c_skip ?_
      refine l_then ?_
      refine c_seq ?_
      refine c_block ?_
      refine c_seq ?_
      refine c_draw mixed 9 rfl [snapCh w0 F] ?_
      refine o_mv (dt 0 (fun _ m => m)) rfl rfl ?_
      refine o_mv (dt 1 (fun _ m => m)) rfl rfl ?_
      refine o_idx (dt 2 (fun _ m => m)) 0 rfl (reads_snap hv1) rfl rfl rfl el66 ?_; intro e7 h8
      refine o_lds (dt 3 (fun _ m => m)) (enc := encStr) (u := (.string e7)) 0 rfl (reads_snap hv1) flelStr rfl h8 rfl rfl ty9 rfl ?_
      refine o_mv (dt 4 (fun _ m => m)) rfl rfl ?_
      refine o_mv (dt 5 (fun _ m => m)) rfl rfl ?_
      refine o_idx (dt 6 (fun _ m => m)) 0 rfl (reads_snap hv3) rfl rfl rfl el66 ?_; intro e9 h10
      refine o_lds (dt 7 (fun _ m => m)) (enc := encStr) (u := (.string e9)) 0 rfl (reads_snap hv3) flelStr rfl h10 rfl rfl ty9 rfl ?_
      refine o_neqS (dt 8 (fun _ m => m)) und9 rfl rfl rfl ?_
      refine d_done (by kernel_rfl) ?_
      refine l_then ?_
      refine c_cond rfl ?_ ?_
      · refine c_seq ?_
        refine c_region ?_
        refine o_as st rfl rfl ?_
        refine c_nil ?_
        refine l_then ?_
        refine c_ret ?_
        refine b_ret ?_
        refine l_ret ?_
        refine l_ret ?_
        refine b_ret ?_
        refine l_ret ?_
        exact l_end1 Tryd.results48 false () (rv_t rfl) (fun _ _ => NewCh.nil _ _ _ _)
      · refine c_skip ?_
        refine b_norm ?_
        refine l_then ?_
        refine c_region ?_
        refine o_mv st rfl rfl ?_
        refine o_add st rfl rfl rfl ?_; intro t11
        refine o_as st rfl rfl ?_
        refine c_nil ?_
        exact l_join t11 (fun a w hE hm => ⟨hE.sub ⟨rfl, rfl, rfl, trivial⟩, (hm.pick [0] rfl)⟩)
    · refine c_exit ?_
      refine l_exit ?_
      refine l_exit ?_
      refine b_exit ?_
      refine l_then ?_
      refine c_seq ?_
      refine c_region ?_
      refine o_as st rfl rfl ?_
      refine c_nil ?_
      refine l_then ?_
      refine c_ret ?_
      exact l_end1 Tryd.results48 true () (rv_t rfl) (fun _ _ => NewCh.nil _ _ _ _)

set_option maxRecDepth 100000 in
set_option maxHeartbeats 8000000 in
theorem w_spec_l1In {w0 : World} {F : Nat → Prop} {n_0 : Int} {lo_1 : Int} {hi_2 : Int} {κ : Bool → Prop} (hF : ∀ b, F b → b < w0.heap.size ∧ ¬ feet [] b) (h : L_spec_l1In n_0 lo_1 hi_2 κ) :
    Calls Tryd.prog 62 #[(.int .i64 n_0), (.int .i64 lo_1), (.int .i64 hi_2)] w0 (Ret [] F w0 κ (fun (r : Bool) (u : Unit) => (.bool r)) (fun (r : Bool) (u : Unit) => [])) := by
  refine enter0 (args := [(.int .i64 n_0), (.int .i64 lo_1), (.int .i64 hi_2)]) [] hF (Given.nil _ _) Tryd.func62 rfl Tryd.ntmps62 rfl h ?_
  clear h hF
  refine c_seq ?_
  refine c_region ?_
  refine o_as st rfl rfl ?_
  refine c_nil ?_
  refine l_then ?_
  refine c_join (σ := Bool) (fun (t61 : Bool) (a : Act) (w : World) => Has 15 [(6, (.bool t61))] a ∧ Mem (gB F [] w0) (feet []) w0 [] w) ?_ ?_
  · intro k62
    refine c_region ?_
    refine o_mv st rfl rfl ?_
    refine o_mv st rfl rfl ?_
    refine o_geq st rfl rfl rfl ?_
    refine o_mv st rfl rfl ?_
    refine st_sp (dj := 10) rfl ?_ ?_
    · refine o_mv (st_g rfl rfl) rfl rfl ?_
      refine o_mv (st_g rfl rfl) rfl rfl ?_
      refine o_leq (st_g rfl rfl) rfl rfl rfl ?_
      refine o_pickT st rfl rfl rfl ?_
      refine o_as st rfl rfl ?_
      refine c_nil ?_
      exact l_join (decide (n_0 ≤ hi_2)) (fun a w hE hm => ⟨hE.sub ⟨rfl, trivial⟩, (hm.pick [] rfl)⟩)
    · refine st_s rfl rfl rfl rfl ?_
      refine st_s rfl rfl rfl rfl ?_
      refine st_s rfl rfl rfl rfl ?_
      refine o_pickF st rfl rfl rfl ?_
      refine o_as st rfl rfl ?_
      refine c_nil ?_
      exact l_join false (fun a w hE hm => ⟨hE.sub ⟨rfl, trivial⟩, (hm.pick [] rfl)⟩)
  · rintro t61 a w ⟨hE, hm⟩ h
    refine nx_of hE hm h ?_
    clear hE hm h
    refine c_ret ?_
    exact l_end1 Tryd.results62 t61 () (rv_t rfl) (fun _ _ => NewCh.nil _ _ _ _)

set_option maxRecDepth 100000 in
set_option maxHeartbeats 8000000 in
theorem w_spec_TestValid {w0 : World} {F : Nat → Prop} {t_0 : GTest} {κ : Bool → Prop} (hF : ∀ b, F b → b < w0.heap.size ∧ ¬ feet [] b) (h : L_spec_TestValid t_0 κ) :
    Calls Tryd.prog 31 #[(.agg #[(.int .i64 t_0.xField), (.int .i64 t_0.xLo), (.int .i64 t_0.xHi), (.bool t_0.xNot)])] w0 (Ret [] F w0 κ (fun (r : Bool) (u : Unit) => (.bool r)) (fun (r : Bool) (u : Unit) => [])) := by
  refine enter0 (args := [(.agg #[(.int .i64 t_0.xField), (.int .i64 t_0.xLo), (.int .i64 t_0.xHi), (.bool t_0.xNot)])]) [] hF (Given.nil _ _) Tryd.func31 rfl Tryd.ntmps31 rfl h ?_
  clear h hF
  refine c_seq ?_
  refine c_region ?_
  refine stw (o_box rfl rfl [(.int .i64 t_0.xField), (.int .i64 t_0.xLo), (.int .i64 t_0.xHi), (.bool t_0.xNot)] rfl ?_); intro b1
  refine o_as st rfl rfl ?_
  refine c_nil ?_
  refine l_then ?_
  refine c_join (σ := Bool) (fun (t66 : Bool) (a : Act) (w : World) => Has 21 [(2, (.bool t66))] a ∧ Mem (gB F [] w0) (feet []) w0 [] w) ?_ ?_
  · intro k67
    refine c_draw mixed 19 rfl [cellCh b1 [(.int .i64 t_0.xField), (.int .i64 t_0.xLo), (.int .i64 t_0.xHi), (.bool t_0.xNot)] 25] ?_
    refine o_fad (dt 0 (fun _ m => m)) rfl rfl fld25_0 rfl ?_
    refine o_ldc (dt 1 (fun _ m => m)) (v := (.int .i64 t_0.xField)) 0 rfl rfl rfl ty3 rfl ?_
    refine d_one (i := 2) rfl (by kernel_rfl) (o_callP (vs := [(.int .i64 t_0.xField), (.int .i64 0), (.int .i64 3)]) Tryd.call62 rfl rfl (by intro w m h; exact (w_spec_l1In (F := allB [] w) (n_0 := t_0.xField) (lo_1 := 0) (hi_2 := 3) allB_ok h).mono (fun _ _ k => ret_free (fun r u => fr_nil) k)) ?_); rintro r3 _
    refine d_and (fun _ m => m) ?_
    refine o_mv (dt 3 (fun _ m => m)) rfl rfl ?_
    refine st_sp (dj := 6) rfl ?_ ?_
    · refine o_fad (dtg 4 (fun _ m => m)) rfl rfl fld25_1 rfl ?_
      refine o_ldc (dtg 5 (fun _ m => m)) (v := (.int .i64 t_0.xLo)) 0 rfl rfl rfl ty3 rfl ?_
      refine o_fad (dtg 6 (fun _ m => m)) rfl rfl fld25_2 rfl ?_
      refine o_ldc (dtg 7 (fun _ m => m)) (v := (.int .i64 t_0.xHi)) 0 rfl rfl rfl ty3 rfl ?_
      refine d_oneg (i := 8) rfl rfl rfl (by kernel_rfl) (o_callP (vs := [(.int .i64 t_0.xLo), (.int .i64 0), (.int .i64 t_0.xHi)]) Tryd.call62 rfl rfl (by intro w m h; exact (w_spec_l1In (F := allB [] w) (n_0 := t_0.xLo) (lo_1 := 0) (hi_2 := t_0.xHi) allB_ok h).mono (fun _ _ k => ret_free (fun r u => fr_nil) k)) ?_); rintro r4 _
      refine d_and (fun _ m => m) ?_
      refine o_pickT (dt 9 (fun _ m => m)) rfl rfl rfl ?_
      refine o_mv (dt 10 (fun _ m => m)) rfl rfl ?_
      refine st_sp (dj := 13) rfl ?_ ?_
      · refine o_fad (dtg 11 (fun _ m => m)) rfl rfl fld25_2 rfl ?_
        refine o_ldc (dtg 12 (fun _ m => m)) (v := (.int .i64 t_0.xHi)) 0 rfl rfl rfl ty3 rfl ?_
        refine o_fad (dtg 13 (fun _ m => m)) rfl rfl fld25_0 rfl ?_
        refine o_ldc (dtg 14 (fun _ m => m)) (v := (.int .i64 t_0.xField)) 0 rfl rfl rfl ty3 rfl ?_
        refine d_oneg (i := 15) rfl rfl rfl (by kernel_rfl) (o_callP (vs := [(.int .i64 t_0.xField)]) Tryd.call69 rfl rfl (by intro w m h; exact (w_spec_FieldTop (F := allB [] w) (n_0 := t_0.xField) allB_ok h).mono (fun _ _ k => ret_free (fun r u => fr_nil) k)) ?_); rintro r5 _
        refine d_and (fun _ m => m) ?_
        refine o_leq (dtg 16 (fun _ m => m)) rfl rfl rfl ?_
        refine o_pickT (dt 17 (fun _ m => m)) rfl rfl rfl ?_
        refine o_as (dt 18 (fun _ m => m)) rfl rfl ?_
        refine d_done (by kernel_rfl) ?_
        exact l_join (decide (t_0.xHi ≤ r5)) (fun a w hE hm => ⟨hE.sub ⟨rfl, trivial⟩, (hm.pick [] rfl)⟩)
      · refine dsk 11 (fun _ m => m) rfl (by kernel_rfl) rfl rfl rfl rfl ?_
        refine dsk 12 (fun _ m => m) rfl (by kernel_rfl) rfl rfl rfl rfl ?_
        refine dsk 13 (fun _ m => m) rfl (by kernel_rfl) rfl rfl rfl rfl ?_
        refine dsk 14 (fun _ m => m) rfl (by kernel_rfl) rfl rfl rfl rfl ?_
        refine dsk 15 (fun _ m => m) rfl (by kernel_rfl) rfl rfl rfl rfl ?_
        refine dsk 16 (fun _ m => m) rfl (by kernel_rfl) rfl rfl rfl rfl ?_
        refine o_pickF (dt 17 (fun _ m => m)) rfl rfl rfl ?_
        refine o_as (dt 18 (fun _ m => m)) rfl rfl ?_
        refine d_done (by kernel_rfl) ?_
        exact l_join false (fun a w hE hm => ⟨hE.sub ⟨rfl, trivial⟩, (hm.pick [] rfl)⟩)
    · refine dsk 4 (fun _ m => m) rfl (by kernel_rfl) rfl rfl rfl rfl ?_
      refine dsk 5 (fun _ m => m) rfl (by kernel_rfl) rfl rfl rfl rfl ?_
      refine dsk 6 (fun _ m => m) rfl (by kernel_rfl) rfl rfl rfl rfl ?_
      refine dsk 7 (fun _ m => m) rfl (by kernel_rfl) rfl rfl rfl rfl ?_
      refine dsk 8 (fun _ m => m) rfl (by kernel_rfl) rfl rfl rfl rfl ?_
      refine o_pickF (dt 9 (fun _ m => m)) rfl rfl rfl ?_
      refine o_mv (dt 10 (fun _ m => m)) rfl rfl ?_
      refine dsk 11 (fun _ m => m) rfl (by kernel_rfl) rfl rfl rfl rfl ?_
      refine dsk 12 (fun _ m => m) rfl (by kernel_rfl) rfl rfl rfl rfl ?_
      refine dsk 13 (fun _ m => m) rfl (by kernel_rfl) rfl rfl rfl rfl ?_
      refine dsk 14 (fun _ m => m) rfl (by kernel_rfl) rfl rfl rfl rfl ?_
      refine dsk 15 (fun _ m => m) rfl (by kernel_rfl) rfl rfl rfl rfl ?_
      refine dsk 16 (fun _ m => m) rfl (by kernel_rfl) rfl rfl rfl rfl ?_
      refine o_pickF (dt 17 (fun _ m => m)) rfl rfl rfl ?_
      refine o_as (dt 18 (fun _ m => m)) rfl rfl ?_
      refine d_done (by kernel_rfl) ?_
      exact l_join false (fun a w hE hm => ⟨hE.sub ⟨rfl, trivial⟩, (hm.pick [] rfl)⟩)
  · rintro t66 a w ⟨hE, hm⟩ h
    refine nx_of hE hm h ?_
    clear hE hm h
    refine c_ret ?_
    exact l_end1 Tryd.results31 t66 () (rv_t rfl) (fun _ _ => NewCh.nil _ _ _ _)

set_option maxRecDepth 100000 in
set_option maxHeartbeats 8000000 in
theorem w_spec_l3Number {w0 : World} {F : Nat → Prop} {n_0 : Int} {κ : ByteArray → Prop} (hF : ∀ b, F b → b < w0.heap.size ∧ ¬ feet [] b) (h : L_spec_l3Number n_0 κ) :
    Calls Tryd.prog 51 #[(.int .i64 n_0)] w0 (Ret [] F w0 κ (fun (r : ByteArray) (u : Unit) => (.string r)) (fun (r : ByteArray) (u : Unit) => [])) := by
  refine enter0 (args := [(.int .i64 n_0)]) [] hF (Given.nil _ _) Tryd.func51 rfl Tryd.ntmps51 rfl h ?_
  clear h hF
  refine c_seq ?_
  refine c_region ?_
  refine o_as st rfl rfl ?_
  refine c_nil ?_
  refine l_then ?_
  refine c_seq ?_
  refine c_region ?_
  refine o_mv st rfl rfl ?_
  refine o_rem st rfl rfl rfl ?_; intro t1
  refine o_add st rfl rfl rfl ?_; intro t2
  refine o_cnvU st und3 und5 rfl rfl ?_; intro t3
  refine stw (o_bsl (enc := encU8) (qs := [(0, (.int .u8 (t3.toNat : Int)))]) (cells := [(.int .u8 (t3.toNat : Int))]) ([t3]) flelU8 (by intro ρ h; simp only [List.map_toArray, List.map_cons, List.map_nil, h (.tmp 7) _ rfl]) rfl el34 zero5 rfl rfl rfl rfl rfl rfl ?_); intro v4
  refine o_b2s st 0 rfl reads_own flelU8 rfl und34 und5 und9 rfl rfl ?_
  refine o_as st rfl rfl ?_
  refine c_nil ?_
  refine l_then ?_
  refine c_seq ?_
  refine c_block ?_
  refine c_loop (σ := (Int × ByteArray)) (fun ((t6, t7) : (Int × ByteArray)) (a : Act) (w : World) => Has 23 [(0, (.int .i64 t6)), (3, (.string t7))] a ∧ Mem (gB F [] w0) (feet []) w0 [] w) (fun a w hE hm => ⟨hE.sub ⟨rfl, rfl, trivial⟩, (hm.pick [] rfl)⟩) ?_
  rintro nx8 ⟨t6, t7⟩ a w ⟨hE, hm⟩ h
  refine nx_of hE hm h ?_
  clear hE hm h
  refine c_seq ?_
  refine c_seq ?_
  refine c_region ?_
  refine o_mv st rfl rfl ?_
  refine o_gtr st rfl rfl rfl ?_
  refine c_nil ?_
  refine l_then ?_
  refine c_cond rfl ?_ ?_
  · refine c_skip ?_
    refine l_then ?_
    refine c_block ?_
    refine c_seq ?_
    refine c_region ?_
    refine o_mv st rfl rfl ?_
    refine o_quo st rfl rfl rfl ?_; intro t9
    refine o_as st rfl rfl ?_
    refine c_nil ?_
    refine l_then ?_
    refine c_region ?_
    refine o_mv st rfl rfl ?_
    refine o_rem st rfl rfl rfl ?_; intro t10
    refine o_add st rfl rfl rfl ?_; intro t11
    refine o_cnvU st und3 und5 rfl rfl ?_; intro t12
    refine stw (o_bsl (enc := encU8) (qs := [(0, (.int .u8 (t12.toNat : Int)))]) (cells := [(.int .u8 (t12.toNat : Int))]) ([t12]) flelU8 (by intro ρ h; simp only [List.map_toArray, List.map_cons, List.map_nil, h (.tmp 17) _ rfl]) rfl el34 zero5 rfl rfl rfl rfl rfl rfl ?_); intro v13
    refine o_b2s st 0 rfl reads_own flelU8 rfl und34 und5 und9 rfl rfl ?_
    refine o_mv st rfl rfl ?_
    refine o_cat st rfl rfl rfl ?_; intro s15
    refine o_as st rfl rfl ?_
    refine c_nil ?_
    refine b_norm ?_
    exact l_join (t9, s15) (fun a w hE hm => ⟨hE.sub ⟨rfl, rfl, trivial⟩, (hm.pick [] rfl)⟩)
  · refine c_exit ?_
    refine l_exit ?_
    refine l_exit ?_
    refine b_exit ?_
    refine l_then ?_
    refine c_seq ?_
    refine c_region ?_
    refine o_mv st rfl rfl ?_
    refine o_as st rfl rfl ?_
    refine c_nil ?_
    refine l_then ?_
    refine c_ret ?_
    exact l_end1 Tryd.results51 t7 () (rv_t rfl) (fun _ _ => NewCh.nil _ _ _ _)

set_option maxRecDepth 100000 in
set_option maxHeartbeats 8000000 in
theorem w_spec_TestText {w0 : World} {F : Nat → Prop} {t_0 : GTest} {κ : ByteArray → Prop} (hF : ∀ b, F b → b < w0.heap.size ∧ ¬ feet [] b) (h : L_spec_TestText t_0 κ) :
    Calls Tryd.prog 15 #[(.agg #[(.int .i64 t_0.xField), (.int .i64 t_0.xLo), (.int .i64 t_0.xHi), (.bool t_0.xNot)])] w0 (Ret [] F w0 κ (fun (r : ByteArray) (u : Unit) => (.string r)) (fun (r : ByteArray) (u : Unit) => [])) := by
  refine enter0 (args := [(.agg #[(.int .i64 t_0.xField), (.int .i64 t_0.xLo), (.int .i64 t_0.xHi), (.bool t_0.xNot)])]) [] hF (Given.nil _ _) Tryd.func15 rfl Tryd.ntmps15 rfl h ?_
  clear h hF
  refine c_seq ?_
  refine c_region ?_
  refine stw (o_box rfl rfl [(.int .i64 t_0.xField), (.int .i64 t_0.xLo), (.int .i64 t_0.xHi), (.bool t_0.xNot)] rfl ?_); intro b1
  refine o_as st rfl rfl ?_
  refine c_nil ?_
  refine l_then ?_
  refine c_seq ?_
  refine c_seq ?_
  refine c_region ?_
  refine o_ldc st (v := (.agg #[(.int .i64 t_0.xField), (.int .i64 t_0.xLo), (.int .i64 t_0.xHi), (.bool t_0.xNot)])) 0 rfl rfl rfl ty25 rfl ?_
  refine stw (o_callP (vs := [(.agg #[(.int .i64 t_0.xField), (.int .i64 t_0.xLo), (.int .i64 t_0.xHi), (.bool t_0.xNot)])]) Tryd.call31 rfl rfl (by intro w m h; exact (w_spec_TestValid (F := allB [] w) (t_0 := t_0) allB_ok h).mono (fun _ _ k => ret_free (fun r u => fr_nil) k)) ?_); rintro r3 _
  refine o_not st rfl rfl ?_
  refine c_nil ?_
  refine l_then ?_
  refine c_cond rfl ?_ ?_
  · refine c_seq ?_
    refine c_region ?_
    refine o_as st rfl rfl ?_
    refine c_nil ?_
    refine l_then ?_
    refine c_ret ?_
    refine l_ret ?_
    exact l_end1 Tryd.results15 (ByteArray.mk #[]) () (rv_t rfl) (fun _ _ => NewCh.nil _ _ _ _)
  · refine c_skip ?_
    refine l_then ?_
    refine c_join (σ := ByteArray) (fun (t4 : ByteArray) (a : Act) (w : World) => Has 33 [(1, (.pointer (some ⟨b1, 0, none⟩))), (3, (.string t4))] a ∧ Mem (gB F [] w0) (feet []) w0 [cellCh b1 [(.int .i64 t_0.xField), (.int .i64 t_0.xLo), (.int .i64 t_0.xHi), (.bool t_0.xNot)] 25] w) ?_ ?_
    · intro k5
      refine c_drawQ mixed 11 rfl [cellCh b1 [(.int .i64 t_0.xField), (.int .i64 t_0.xLo), (.int .i64 t_0.xHi), (.bool t_0.xNot)] 25] ?_
      intro Qd hP hQ
      have H476 : ∀ (v6 : Value) (e7 : ByteArray) (h8 : ([(ByteArray.mk #[102, 114, 111, 109]), (ByteArray.mk #[116, 111]), (ByteArray.mk #[112, 111, 114, 116]), (ByteArray.mk #[112, 114, 111, 116, 111])])[(t_0.xField).toNat]? = some e7) (s9 : ByteArray) (r10 : ByteArray), Nx 33 (gB F [] w0) (feet []) w0 (wpAnyH Tryd.prog .any (opsAt Tryd.f15 [1, 1, 0]) Qd (Mem (gB F [] w0) (feet []) w0 [cellCh b1 [(.int .i64 t_0.xField), (.int .i64 t_0.xLo), (.int .i64 t_0.xHi), (.bool t_0.xNot)] 25]) 2 #[true, true, true, true, true, true, true, true, true, false, false]) [(1, (.pointer (some ⟨b1, 0, none⟩))), (12, (.string s9)), (15, (.string r10))] [cellCh b1 [(.int .i64 t_0.xField), (.int .i64 t_0.xLo), (.int .i64 t_0.xHi), (.bool t_0.xNot)] 25] (catW s9 r10 (fun s11 => k5 s11)) := by
        intro v6 e7 h8 s9 r10
        refine o_cat (dt 9 (fun _ m => m)) rfl rfl rfl ?_; intro s11
        refine o_as (dt 10 (fun _ m => m)) rfl rfl ?_
        refine d_done (by kernel_rfl) ?_
        exact fun a w hE hm hφ => hQ s11 a w hφ ((fun a w hE hm => ⟨hE.sub ⟨rfl, rfl, trivial⟩, (hm.pick [0] rfl)⟩) a w hE hm)
      have H477 : ∀ (v6 : Value) (e7 : ByteArray) (h8 : ([(ByteArray.mk #[102, 114, 111, 109]), (ByteArray.mk #[116, 111]), (ByteArray.mk #[112, 111, 114, 116]), (ByteArray.mk #[112, 114, 111, 116, 111])])[(t_0.xField).toNat]? = some e7), Nx 33 (gB F [] w0) (feet []) w0 (wpAnyH Tryd.prog .any (opsAt Tryd.f15 [1, 1, 0]) Qd (Mem (gB F [] w0) (feet []) w0 [cellCh b1 [(.int .i64 t_0.xField), (.int .i64 t_0.xLo), (.int .i64 t_0.xHi), (.bool t_0.xNot)] 25]) 4 #[true, true, true, true, true, false, true, true, false, false, false]) [(1, (.pointer (some ⟨b1, 0, none⟩))), (14, (.int .i64 t_0.xLo)), (11, (.string e7))] [cellCh b1 [(.int .i64 t_0.xField), (.int .i64 t_0.xLo), (.int .i64 t_0.xHi), (.bool t_0.xNot)] 25] (catW e7 (ByteArray.mk #[32]) (fun s9 => L_spec_l3Number t_0.xLo (fun r10 => catW s9 r10 (fun s11 => k5 s11)))) := by
        intro v6 e7 h8
        refine o_cat (dt 5 (fun _ m => m)) rfl rfl rfl ?_; intro s9
        refine d_one (i := 8) rfl (by kernel_rfl) (o_callP (vs := [(.int .i64 t_0.xLo)]) Tryd.call51 rfl rfl (by intro w m h; exact (w_spec_l3Number (F := allB [] w) (n_0 := t_0.xLo) allB_ok h).mono (fun _ _ k => ret_free (fun r u => fr_nil) k)) ?_); rintro r10 _
        refine d_and (fun _ m => m) ?_
        refine pk [0] rfl ?_
        refine re (E' := [(1, (.pointer (some ⟨b1, 0, none⟩))), (12, (.string s9)), (15, (.string r10))]) ⟨rfl, rfl, rfl, trivial⟩ ?_
        exact H476 v6 e7 h8 s9 r10
      have H478 : ∀ (v6 : Value) (e7 : ByteArray) (h8 : ([(ByteArray.mk #[102, 114, 111, 109]), (ByteArray.mk #[116, 111]), (ByteArray.mk #[112, 111, 114, 116]), (ByteArray.mk #[112, 114, 111, 116, 111])])[(t_0.xField).toNat]? = some e7) (r12 : ByteArray), Nx 33 (gB F [] w0) (feet []) w0 (wpAnyH Tryd.prog .any (opsAt Tryd.f15 [1, 1, 0]) Qd (Mem (gB F [] w0) (feet []) w0 [cellCh b1 [(.int .i64 t_0.xField), (.int .i64 t_0.xLo), (.int .i64 t_0.xHi), (.bool t_0.xNot)] 25]) 3 #[true, true, true, true, true, false, true, true, true, false, false]) [(1, (.pointer (some ⟨b1, 0, none⟩))), (15, (.string r12)), (11, (.string e7))] [cellCh b1 [(.int .i64 t_0.xField), (.int .i64 t_0.xLo), (.int .i64 t_0.xHi), (.bool t_0.xNot)] 25] (catW e7 (ByteArray.mk #[32]) (fun s13 => catW s13 r12 (fun s14 => k5 s14))) := by
        intro v6 e7 h8 r12
        refine o_cat (dt 5 (fun _ m => m)) rfl rfl rfl ?_; intro s13
        refine o_cat (dt 9 (fun _ m => m)) rfl rfl rfl ?_; intro s14
        refine o_as (dt 10 (fun _ m => m)) rfl rfl ?_
        refine d_done (by kernel_rfl) ?_
        exact fun a w hE hm hφ => hQ s14 a w hφ ((fun a w hE hm => ⟨hE.sub ⟨rfl, rfl, trivial⟩, (hm.pick [0] rfl)⟩) a w hE hm)
      have H479 : ∀ (v6 : Value) (e7 : ByteArray) (h8 : ([(ByteArray.mk #[102, 114, 111, 109]), (ByteArray.mk #[116, 111]), (ByteArray.mk #[112, 111, 114, 116]), (ByteArray.mk #[112, 114, 111, 116, 111])])[(t_0.xField).toNat]? = some e7) (r12 : ByteArray), Nx 33 (gB F [] w0) (feet []) w0 (wpAnyH Tryd.prog .any (opsAt Tryd.f15 [1, 1, 0]) Qd (Mem (gB F [] w0) (feet []) w0 [cellCh b1 [(.int .i64 t_0.xField), (.int .i64 t_0.xLo), (.int .i64 t_0.xHi), (.bool t_0.xNot)] 25]) 4 #[true, true, true, true, false, false, true, true, true, false, false]) [(1, (.pointer (some ⟨b1, 0, none⟩))), (10, (pEl v6 t_0.xField 1 0)), (15, (.string r12))] [ownCh elStr 9 v6 ([(ByteArray.mk #[102, 114, 111, 109]), (ByteArray.mk #[116, 111]), (ByteArray.mk #[112, 111, 114, 116]), (ByteArray.mk #[112, 114, 111, 116, 111])]), cellCh b1 [(.int .i64 t_0.xField), (.int .i64 t_0.xLo), (.int .i64 t_0.xHi), (.bool t_0.xNot)] 25] (catW e7 (ByteArray.mk #[32]) (fun s13 => catW s13 r12 (fun s14 => k5 s14))) := by
        intro v6 e7 h8 r12
        refine d_one (i := 4) rfl (by kernel_rfl) (o_lds m_op (enc := encStr) (u := (.string e7)) 0 rfl reads_own flelStr rfl h8 rfl rfl ty9 rfl ?_)
        refine d_and (fun w m => m.pick [1] rfl) ?_
        refine pk [1] rfl ?_
        refine re (E' := [(1, (.pointer (some ⟨b1, 0, none⟩))), (15, (.string r12)), (11, (.string e7))]) ⟨rfl, rfl, rfl, trivial⟩ ?_
        exact H478 v6 e7 h8 r12
      have H480 : ∀ (v6 : Value) (e7 : ByteArray) (h8 : ([(ByteArray.mk #[102, 114, 111, 109]), (ByteArray.mk #[116, 111]), (ByteArray.mk #[112, 111, 114, 116]), (ByteArray.mk #[112, 114, 111, 116, 111])])[(t_0.xField).toNat]? = some e7), Nx 33 (gB F [] w0) (feet []) w0 (wpAnyH Tryd.prog .any (opsAt Tryd.f15 [1, 1, 0]) Qd (Mem (gB F [] w0) (feet []) w0 [cellCh b1 [(.int .i64 t_0.xField), (.int .i64 t_0.xLo), (.int .i64 t_0.xHi), (.bool t_0.xNot)] 25]) 5 #[true, true, true, true, false, false, true, true, false, false, false]) [(1, (.pointer (some ⟨b1, 0, none⟩))), (14, (.int .i64 t_0.xLo)), (10, (pEl v6 t_0.xField 1 0))] [ownCh elStr 9 v6 ([(ByteArray.mk #[102, 114, 111, 109]), (ByteArray.mk #[116, 111]), (ByteArray.mk #[112, 111, 114, 116]), (ByteArray.mk #[112, 114, 111, 116, 111])]), cellCh b1 [(.int .i64 t_0.xField), (.int .i64 t_0.xLo), (.int .i64 t_0.xHi), (.bool t_0.xNot)] 25] ((catW e7 (ByteArray.mk #[32]) (fun s9 => L_spec_l3Number t_0.xLo (fun r10 => catW s9 r10 (fun s11 => k5 s11)))) ∧ (L_spec_l3Number t_0.xLo (fun r12 => catW e7 (ByteArray.mk #[32]) (fun s13 => catW s13 r12 (fun s14 => k5 s14))))) := by
        intro v6 e7 h8
        refine d_two (i := 4) (j := 8) rfl rfl (by kernel_rfl) ?_ ?_
        · intro o ho; cases ho
          refine nx_l ?_
          refine o_lds m_op (enc := encStr) (u := (.string e7)) 0 rfl reads_own flelStr rfl h8 rfl rfl ty9 rfl ?_
          refine d_and (fun w m => m.pick [1] rfl) ?_
          refine pk [1] rfl ?_
          refine re (E' := [(1, (.pointer (some ⟨b1, 0, none⟩))), (14, (.int .i64 t_0.xLo)), (11, (.string e7))]) ⟨rfl, rfl, rfl, trivial⟩ ?_
          exact H477 v6 e7 h8
        · intro o ho; cases ho
          refine nx_r ?_
          refine o_callP (vs := [(.int .i64 t_0.xLo)]) Tryd.call51 rfl rfl (by intro w m h; exact (w_spec_l3Number (F := allB [] w) (n_0 := t_0.xLo) allB_ok h).mono (fun _ _ k => ret_free (fun r u => fr_nil) k)) ?_; rintro r12 _
          refine d_and (fun w m => m.pick [1] rfl) ?_
          refine pk [0, 1] rfl ?_
          refine re (E' := [(1, (.pointer (some ⟨b1, 0, none⟩))), (10, (pEl v6 t_0.xField 1 0)), (15, (.string r12))]) ⟨rfl, rfl, rfl, trivial⟩ ?_
          exact H479 v6 e7 h8 r12
      have H481 : ∀ (v6 : Value) (r15 : ByteArray), Nx 33 (gB F [] w0) (feet []) w0 (wpAnyH Tryd.prog .any (opsAt Tryd.f15 [1, 1, 0]) Qd (Mem (gB F [] w0) (feet []) w0 [cellCh b1 [(.int .i64 t_0.xField), (.int .i64 t_0.xLo), (.int .i64 t_0.xHi), (.bool t_0.xNot)] 25]) 5 #[true, true, true, false, false, false, true, true, true, false, false]) [(1, (.pointer (some ⟨b1, 0, none⟩))), (9, (.int .i64 t_0.xField)), (7, v6), (15, (.string r15))] [ownCh elStr 9 v6 ([(ByteArray.mk #[102, 114, 111, 109]), (ByteArray.mk #[116, 111]), (ByteArray.mk #[112, 111, 114, 116]), (ByteArray.mk #[112, 114, 111, 116, 111])]), cellCh b1 [(.int .i64 t_0.xField), (.int .i64 t_0.xLo), (.int .i64 t_0.xHi), (.bool t_0.xNot)] 25] (idxW ([(ByteArray.mk #[102, 114, 111, 109]), (ByteArray.mk #[116, 111]), (ByteArray.mk #[112, 111, 114, 116]), (ByteArray.mk #[112, 114, 111, 116, 111])]) t_0.xField (fun e16 => catW e16 (ByteArray.mk #[32]) (fun s13 => catW s13 r15 (fun s14 => k5 s14)))) := by
        intro v6 r15
        refine d_one (i := 3) rfl (by kernel_rfl) (o_idx m_op 0 rfl reads_own rfl rfl rfl el66 ?_); intro e16 h17
        refine d_and (fun w m => m.pick [1] rfl) ?_
        refine pk [0, 1] rfl ?_
        refine re (E' := [(1, (.pointer (some ⟨b1, 0, none⟩))), (10, (pEl v6 t_0.xField 1 0)), (15, (.string r15))]) ⟨rfl, rfl, rfl, trivial⟩ ?_
        exact H479 v6 e16 h17 r15
      have H482 : ∀ (v6 : Value), Nx 33 (gB F [] w0) (feet []) w0 (wpAnyH Tryd.prog .any (opsAt Tryd.f15 [1, 1, 0]) Qd (Mem (gB F [] w0) (feet []) w0 [cellCh b1 [(.int .i64 t_0.xField), (.int .i64 t_0.xLo), (.int .i64 t_0.xHi), (.bool t_0.xNot)] 25]) 6 #[true, true, true, false, false, false, true, true, false, false, false]) [(1, (.pointer (some ⟨b1, 0, none⟩))), (9, (.int .i64 t_0.xField)), (14, (.int .i64 t_0.xLo)), (7, v6)] [ownCh elStr 9 v6 ([(ByteArray.mk #[102, 114, 111, 109]), (ByteArray.mk #[116, 111]), (ByteArray.mk #[112, 111, 114, 116]), (ByteArray.mk #[112, 114, 111, 116, 111])]), cellCh b1 [(.int .i64 t_0.xField), (.int .i64 t_0.xLo), (.int .i64 t_0.xHi), (.bool t_0.xNot)] 25] ((idxW ([(ByteArray.mk #[102, 114, 111, 109]), (ByteArray.mk #[116, 111]), (ByteArray.mk #[112, 111, 114, 116]), (ByteArray.mk #[112, 114, 111, 116, 111])]) t_0.xField (fun e7 => (catW e7 (ByteArray.mk #[32]) (fun s9 => L_spec_l3Number t_0.xLo (fun r10 => catW s9 r10 (fun s11 => k5 s11)))) ∧ (L_spec_l3Number t_0.xLo (fun r12 => catW e7 (ByteArray.mk #[32]) (fun s13 => catW s13 r12 (fun s14 => k5 s14)))))) ∧ (L_spec_l3Number t_0.xLo (fun r15 => idxW ([(ByteArray.mk #[102, 114, 111, 109]), (ByteArray.mk #[116, 111]), (ByteArray.mk #[112, 111, 114, 116]), (ByteArray.mk #[112, 114, 111, 116, 111])]) t_0.xField (fun e16 => catW e16 (ByteArray.mk #[32]) (fun s13 => catW s13 r15 (fun s14 => k5 s14)))))) := by
        intro v6
        refine d_two (i := 3) (j := 8) rfl rfl (by kernel_rfl) ?_ ?_
        · intro o ho; cases ho
          refine nx_l ?_
          refine o_idx m_op 0 rfl reads_own rfl rfl rfl el66 ?_; intro e7 h8
          refine d_and (fun w m => m.pick [1] rfl) ?_
          refine pk [0, 1] rfl ?_
          refine re (E' := [(1, (.pointer (some ⟨b1, 0, none⟩))), (14, (.int .i64 t_0.xLo)), (10, (pEl v6 t_0.xField 1 0))]) ⟨rfl, rfl, rfl, trivial⟩ ?_
          exact H480 v6 e7 h8
        · intro o ho; cases ho
          refine nx_r ?_
          refine o_callP (vs := [(.int .i64 t_0.xLo)]) Tryd.call51 rfl rfl (by intro w m h; exact (w_spec_l3Number (F := allB [] w) (n_0 := t_0.xLo) allB_ok h).mono (fun _ _ k => ret_free (fun r u => fr_nil) k)) ?_; rintro r15 _
          refine d_and (fun w m => m.pick [1] rfl) ?_
          refine pk [0, 1] rfl ?_
          refine re (E' := [(1, (.pointer (some ⟨b1, 0, none⟩))), (9, (.int .i64 t_0.xField)), (7, v6), (15, (.string r15))]) ⟨rfl, rfl, rfl, rfl, trivial⟩ ?_
          exact H481 v6 r15
      have H483 : ∀ (r18 : ByteArray), Nx 33 (gB F [] w0) (feet []) w0 (wpAnyH Tryd.prog .any (opsAt Tryd.f15 [1, 1, 0]) Qd (Mem (gB F [] w0) (feet []) w0 [cellCh b1 [(.int .i64 t_0.xField), (.int .i64 t_0.xLo), (.int .i64 t_0.xHi), (.bool t_0.xNot)] 25]) 6 #[false, true, true, false, false, false, true, true, true, false, false]) [(1, (.pointer (some ⟨b1, 0, none⟩))), (9, (.int .i64 t_0.xField)), (15, (.string r18))] [cellCh b1 [(.int .i64 t_0.xField), (.int .i64 t_0.xLo), (.int .i64 t_0.xHi), (.bool t_0.xNot)] 25] (idxW ([(ByteArray.mk #[102, 114, 111, 109]), (ByteArray.mk #[116, 111]), (ByteArray.mk #[112, 111, 114, 116]), (ByteArray.mk #[112, 114, 111, 116, 111])]) t_0.xField (fun e16 => catW e16 (ByteArray.mk #[32]) (fun s13 => catW s13 r18 (fun s14 => k5 s14)))) := by
        intro r18
        refine d_one (i := 0) rfl (by kernel_rfl) (o_bsl (enc := encStr) (qs := [(0, (.string (ByteArray.mk #[102, 114, 111, 109]))), (1, (.string (ByteArray.mk #[116, 111]))), (2, (.string (ByteArray.mk #[112, 111, 114, 116]))), (3, (.string (ByteArray.mk #[112, 114, 111, 116, 111])))]) (cells := [(.string (ByteArray.mk #[102, 114, 111, 109])), (.string (ByteArray.mk #[116, 111])), (.string (ByteArray.mk #[112, 111, 114, 116])), (.string (ByteArray.mk #[112, 114, 111, 116, 111]))]) ([(ByteArray.mk #[102, 114, 111, 109]), (ByteArray.mk #[116, 111]), (ByteArray.mk #[112, 111, 114, 116]), (ByteArray.mk #[112, 114, 111, 116, 111])]) flelStr (by intro ρ h; simp only [List.map_toArray, List.map_cons, List.map_nil, h (.const (.string (ByteArray.mk #[102, 114, 111, 109]))) _ rfl, h (.const (.string (ByteArray.mk #[116, 111]))) _ rfl, h (.const (.string (ByteArray.mk #[112, 111, 114, 116]))) _ rfl, h (.const (.string (ByteArray.mk #[112, 114, 111, 116, 111]))) _ rfl]) rfl el66 zero9 rfl rfl rfl rfl rfl rfl ?_); intro v19
        refine d_and (fun w m => m.pick [1] rfl) ?_
        refine pk [0, 1] rfl ?_
        refine re (E' := [(1, (.pointer (some ⟨b1, 0, none⟩))), (9, (.int .i64 t_0.xField)), (7, v19), (15, (.string r18))]) ⟨rfl, rfl, rfl, rfl, trivial⟩ ?_
        exact H481 v19 r18
      refine o_fad (dt 1 (fun _ m => m)) rfl rfl fld25_0 rfl ?_
      refine o_ldc (dt 2 (fun _ m => m)) (v := (.int .i64 t_0.xField)) 0 rfl rfl rfl ty3 rfl ?_
      refine o_fad (dt 6 (fun _ m => m)) rfl rfl fld25_1 rfl ?_
      refine o_ldc (dt 7 (fun _ m => m)) (v := (.int .i64 t_0.xLo)) 0 rfl rfl rfl ty3 rfl ?_
      refine d_two (i := 0) (j := 8) rfl rfl (by kernel_rfl) ?_ ?_
      · intro o ho; cases ho
        refine nx_l ?_
        refine o_bsl (enc := encStr) (qs := [(0, (.string (ByteArray.mk #[102, 114, 111, 109]))), (1, (.string (ByteArray.mk #[116, 111]))), (2, (.string (ByteArray.mk #[112, 111, 114, 116]))), (3, (.string (ByteArray.mk #[112, 114, 111, 116, 111])))]) (cells := [(.string (ByteArray.mk #[102, 114, 111, 109])), (.string (ByteArray.mk #[116, 111])), (.string (ByteArray.mk #[112, 111, 114, 116])), (.string (ByteArray.mk #[112, 114, 111, 116, 111]))]) ([(ByteArray.mk #[102, 114, 111, 109]), (ByteArray.mk #[116, 111]), (ByteArray.mk #[112, 111, 114, 116]), (ByteArray.mk #[112, 114, 111, 116, 111])]) flelStr (by intro ρ h; simp only [List.map_toArray, List.map_cons, List.map_nil, h (.const (.string (ByteArray.mk #[102, 114, 111, 109]))) _ rfl, h (.const (.string (ByteArray.mk #[116, 111]))) _ rfl, h (.const (.string (ByteArray.mk #[112, 111, 114, 116]))) _ rfl, h (.const (.string (ByteArray.mk #[112, 114, 111, 116, 111]))) _ rfl]) rfl el66 zero9 rfl rfl rfl rfl rfl rfl ?_; intro v6
        refine d_and (fun w m => m.pick [1] rfl) ?_
        refine pk [0, 1] rfl ?_
        refine re (E' := [(1, (.pointer (some ⟨b1, 0, none⟩))), (9, (.int .i64 t_0.xField)), (14, (.int .i64 t_0.xLo)), (7, v6)]) ⟨rfl, rfl, rfl, rfl, trivial⟩ ?_
        exact H482 v6
      · intro o ho; cases ho
        refine nx_r ?_
        refine o_callP (vs := [(.int .i64 t_0.xLo)]) Tryd.call51 rfl rfl (by intro w m h; exact (w_spec_l3Number (F := allB [] w) (n_0 := t_0.xLo) allB_ok h).mono (fun _ _ k => ret_free (fun r u => fr_nil) k)) ?_; rintro r18 _
        refine d_and (fun _ m => m) ?_
        refine pk [0] rfl ?_
        refine re (E' := [(1, (.pointer (some ⟨b1, 0, none⟩))), (9, (.int .i64 t_0.xField)), (15, (.string r18))]) ⟨rfl, rfl, rfl, trivial⟩ ?_
        exact H483 r18
    · rintro t4 a w ⟨hE, hm⟩ h
      refine nx_of hE hm h ?_
      clear hE hm h
      refine c_join (σ := ByteArray) (fun (t81 : ByteArray) (a : Act) (w : World) => Has 33 [(1, (.pointer (some ⟨b1, 0, none⟩))), (3, (.string t81))] a ∧ Mem (gB F [] w0) (feet []) w0 [cellCh b1 [(.int .i64 t_0.xField), (.int .i64 t_0.xLo), (.int .i64 t_0.xHi), (.bool t_0.xNot)] 25] w) ?_ ?_
      · intro k82
        refine c_seq ?_
        refine c_region ?_
        refine o_fad st rfl rfl fld25_3 rfl ?_
        refine o_ldc st (v := (.bool t_0.xNot)) 0 rfl rfl rfl ty4 rfl ?_
        refine c_nil ?_
        refine l_then ?_
        refine c_cond rfl ?_ ?_
        · refine c_region ?_
          refine o_mv st rfl rfl ?_
          refine o_cat st rfl rfl rfl ?_; intro s20
          refine o_as st rfl rfl ?_
          refine c_nil ?_
          exact l_join s20 (fun a w hE hm => ⟨hE.sub ⟨rfl, rfl, trivial⟩, (hm.pick [0] rfl)⟩)
        · refine c_skip ?_
          exact l_join t4 (fun a w hE hm => ⟨hE.sub ⟨rfl, rfl, trivial⟩, (hm.pick [0] rfl)⟩)
      · rintro t81 a w ⟨hE, hm⟩ h
        refine nx_of hE hm h ?_
        clear hE hm h
        refine c_join (σ := ByteArray) (fun (t146 : ByteArray) (a : Act) (w : World) => Has 33 [(3, (.string t146))] a ∧ Mem (gB F [] w0) (feet []) w0 [] w) ?_ ?_
        · intro k147
          refine c_seq ?_
          refine c_region ?_
          refine o_fad st rfl rfl fld25_2 rfl ?_
          refine o_ldc st (v := (.int .i64 t_0.xHi)) 0 rfl rfl rfl ty3 rfl ?_
          refine o_fad st rfl rfl fld25_1 rfl ?_
          refine o_ldc st (v := (.int .i64 t_0.xLo)) 0 rfl rfl rfl ty3 rfl ?_
          refine o_neq st und3 rfl rfl rfl ?_
          refine c_nil ?_
          refine l_then ?_
          refine c_cond rfl ?_ ?_
          · refine c_region ?_
            refine o_mv st rfl rfl ?_
            refine o_cat st rfl rfl rfl ?_; intro s83
            refine o_fad st rfl rfl fld25_2 rfl ?_
            refine o_ldc st (v := (.int .i64 t_0.xHi)) 0 rfl rfl rfl ty3 rfl ?_
            refine stw (o_callP (vs := [(.int .i64 t_0.xHi)]) Tryd.call51 rfl rfl (by intro w m h; exact (w_spec_l3Number (F := allB [] w) (n_0 := t_0.xHi) allB_ok h).mono (fun _ _ k => ret_free (fun r u => fr_nil) k)) ?_); rintro r84 _
            refine o_cat st rfl rfl rfl ?_; intro s85
            refine o_as st rfl rfl ?_
            refine c_nil ?_
            exact l_join s85 (fun a w hE hm => ⟨hE.sub ⟨rfl, trivial⟩, (hm.pick [] rfl)⟩)
          · refine c_skip ?_
            exact l_join t81 (fun a w hE hm => ⟨hE.sub ⟨rfl, trivial⟩, (hm.pick [] rfl)⟩)
        · rintro t146 a w ⟨hE, hm⟩ h
          refine nx_of hE hm h ?_
          clear hE hm h
          refine c_seq ?_
          refine c_region ?_
          refine o_mv st rfl rfl ?_
          refine o_as st rfl rfl ?_
          refine c_nil ?_
          refine l_then ?_
          refine c_ret ?_
          exact l_end1 Tryd.results15 t146 () (rv_t rfl) (fun _ _ => NewCh.nil _ _ _ _)

set_option maxRecDepth 100000 in
set_option maxHeartbeats 8000000 in
theorem w_spec_TestsValid {w0 : World} {F : Nat → Prop} {v1 : Value} {list_0 : (List GTest)} {κ : Bool → Prop} (hF : ∀ b, F b → b < w0.heap.size ∧ ¬ feet [] b) (hv1 : Sl elGTest F w0 v1 list_0) (h : L_spec_TestsValid list_0 κ) :
    Calls Tryd.prog 76 #[v1] w0 (Ret [] F w0 κ (fun (r : Bool) (u : Unit) => (.bool r)) (fun (r : Bool) (u : Unit) => [])) := by
  refine enterS (args := [v1]) [] hF (Given.nil _ _) Tryd.func76 rfl Tryd.ntmps76 rfl h ?_
  clear h hF
  refine c_seq ?_
  refine c_region ?_
  refine o_as st rfl rfl ?_
  refine c_nil ?_
  refine l_then ?_
  refine c_seq ?_
  refine c_seq ?_
  refine c_region ?_
  refine o_as st rfl rfl ?_
  refine c_nil ?_
  refine l_then ?_
  refine c_block ?_
  refine c_loop (σ := Int) (fun (t3 : Int) (a : Act) (w : World) => Has 19 [(0, v1), (3, (.int .i64 t3))] a ∧ Mem (gB F [] w0) (feet []) w0 [snapCh w0 F] w) (fun a w hE hm => ⟨hE.sub ⟨rfl, rfl, trivial⟩, (hm.pick [0] rfl)⟩) ?_
  rintro nx4 t3 a w ⟨hE, hm⟩ h
  refine nx_of hE hm h ?_
  clear hE hm h
  refine c_seq ?_
  refine c_seq ?_
  refine c_region ?_
  refine o_mv st rfl rfl ?_
  refine o_mv st rfl rfl ?_
  refine o_len st el51 0 rfl (reads_snap hv1) rfl rfl ?_
  refine o_lss st rfl rfl rfl ?_
  refine c_nil ?_
  refine l_then ?_
  refine c_cond rfl ?_ ?_
  · refine c_skip ?_
    refine l_then ?_
    refine c_seq ?_
    refine c_block ?_
    refine c_seq ?_
    refine c_region ?_
    refine o_mv st rfl rfl ?_
    refine o_mv st rfl rfl ?_
    refine o_idx st 0 rfl (reads_snap hv1) rfl rfl rfl el51 ?_; intro e5 h6
    refine o_lds st (enc := encGTest) (u := (.agg #[(.int .i64 e5.xField), (.int .i64 e5.xLo), (.int .i64 e5.xHi), (.bool e5.xNot)])) 0 rfl (reads_snap hv1) flelGTest rfl h6 rfl rfl ty25 rfl ?_
    refine stw (o_callP (vs := [(.agg #[(.int .i64 e5.xField), (.int .i64 e5.xLo), (.int .i64 e5.xHi), (.bool e5.xNot)])]) Tryd.call31 rfl rfl (by intro w m h; exact (w_spec_TestValid (F := allB [] w) (t_0 := e5) allB_ok h).mono (fun _ _ k => ret_free (fun r u => fr_nil) k)) ?_); rintro r7 _
    refine o_not st rfl rfl ?_
    refine c_nil ?_
    refine l_then ?_
    refine c_cond rfl ?_ ?_
    · refine c_seq ?_
      refine c_region ?_
      refine o_as st rfl rfl ?_
      refine c_nil ?_
      refine l_then ?_
      refine c_ret ?_
      refine b_ret ?_
      refine l_ret ?_
      refine l_ret ?_
      refine b_ret ?_
      refine l_ret ?_
      exact l_end1 Tryd.results76 false () (rv_t rfl) (fun _ _ => NewCh.nil _ _ _ _)
    · refine c_skip ?_
      refine b_norm ?_
      refine l_then ?_
      refine c_region ?_
      refine o_mv st rfl rfl ?_
      refine o_add st rfl rfl rfl ?_; intro t8
      refine o_as st rfl rfl ?_
      refine c_nil ?_
      exact l_join t8 (fun a w hE hm => ⟨hE.sub ⟨rfl, rfl, trivial⟩, (hm.pick [0] rfl)⟩)
  · refine c_exit ?_
    refine l_exit ?_
    refine l_exit ?_
    refine b_exit ?_
    refine l_then ?_
    refine c_seq ?_
    refine c_region ?_
    refine o_mv st rfl rfl ?_
    refine o_len st el51 0 rfl (reads_snap hv1) rfl rfl ?_
    refine o_leq st rfl rfl rfl ?_
    refine o_as st rfl rfl ?_
    refine c_nil ?_
    refine l_then ?_
    refine c_ret ?_
    exact l_end1 Tryd.results76 (decide ((list_0.length : Int) ≤ 6)) () (rv_t rfl) (fun _ _ => NewCh.nil _ _ _ _)

set_option maxRecDepth 100000 in
set_option maxHeartbeats 8000000 in
theorem w_spec_RuleValid {w0 : World} {F : Nat → Prop} {v1 : Value} {r_0 : GRule} {κ : Bool → Prop} (hF : ∀ b, F b → b < w0.heap.size ∧ ¬ feet [] b) (hv1 : Sl elGTest F w0 v1 r_0.xTests) (h : L_spec_RuleValid r_0 κ) :
    Calls Tryd.prog 39 #[(.agg #[v1, (.int .i64 r_0.xAction), (.int .i64 r_0.xChain)])] w0 (Ret [] F w0 κ (fun (r : Bool) (u : Unit) => (.bool r)) (fun (r : Bool) (u : Unit) => [])) := by
  refine enterS (args := [(.agg #[v1, (.int .i64 r_0.xAction), (.int .i64 r_0.xChain)])]) [] hF (Given.nil _ _) Tryd.func39 rfl Tryd.ntmps39 rfl h ?_
  clear h hF
  refine c_seq ?_
  refine c_region ?_
  obtain ⟨a3, l4, q5, hs_⟩ := sl_val hv1; subst hs_
  refine stw (o_box rfl rfl [(.slice a3 l4 q5), (.int .i64 r_0.xAction), (.int .i64 r_0.xChain)] rfl ?_); intro b6
  refine o_as st rfl rfl ?_
  refine c_nil ?_
  refine l_then ?_
  refine c_join (σ := Bool) (fun (t71 : Bool) (a : Act) (w : World) => Has 31 [(2, (.bool t71))] a ∧ Mem (gB F [] w0) (feet []) w0 [] w) ?_ ?_
  · intro k72
    refine c_region ?_
    refine o_fad st rfl rfl fld53_0 rfl ?_
    refine o_ldc st (v := (.slice a3 l4 q5)) 0 rfl rfl rfl ty51 rfl ?_
    refine stw (o_callP (vs := [(.slice a3 l4 q5)]) Tryd.call76 rfl rfl (by intro w m h; exact (w_spec_TestsValid (F := allB [] w) (list_0 := r_0.xTests) allB_ok (m.rd0 1 rfl (reads_snap hv1)) h).mono (fun _ _ k => ret_free (fun r u => fr_nil) k)) ?_); rintro r8 _
    refine o_mv st rfl rfl ?_
    refine st_sp (dj := 6) rfl ?_ ?_
    · refine o_fad (st_g rfl rfl) rfl rfl fld53_1 rfl ?_
      refine o_ldc (st_g rfl rfl) (v := (.int .i64 r_0.xAction)) 0 rfl rfl rfl ty3 rfl ?_
      refine st_gw rfl rfl (o_callP (vs := [(.int .i64 r_0.xAction), (.int .i64 1), (.int .i64 5)]) Tryd.call62 rfl rfl (by intro w m h; exact (w_spec_l1In (F := allB [] w) (n_0 := r_0.xAction) (lo_1 := 1) (hi_2 := 5) allB_ok h).mono (fun _ _ k => ret_free (fun r u => fr_nil) k)) ?_); rintro r9 _
      refine o_pickT st rfl rfl rfl ?_
      refine o_mv st rfl rfl ?_
      refine st_sp (dj := 11) rfl ?_ ?_
      · refine o_fad (st_g rfl rfl) rfl rfl fld53_1 rfl ?_
        refine o_ldc (st_g rfl rfl) (v := (.int .i64 r_0.xAction)) 0 rfl rfl rfl ty3 rfl ?_
        refine o_eql (st_g rfl rfl) und3 rfl rfl rfl ?_
        refine o_mv (st_g rfl rfl) rfl rfl ?_
        refine st_sp (dj := 15) rfl ?_ ?_
        · refine o_fad (st_g rfl rfl) rfl rfl fld53_2 rfl ?_
          refine o_ldc (st_g rfl rfl) (v := (.int .i64 r_0.xChain)) 0 rfl rfl rfl ty3 rfl ?_
          refine st_gw rfl rfl (o_callP (vs := [(.int .i64 r_0.xChain), (.int .i64 0), (.int .i64 4)]) Tryd.call62 rfl rfl (by intro w m h; exact (w_spec_l1In (F := allB [] w) (n_0 := r_0.xChain) (lo_1 := 0) (hi_2 := 4) allB_ok h).mono (fun _ _ k => ret_free (fun r u => fr_nil) k)) ?_); rintro r10 _
          refine o_pickT (st_g rfl rfl) rfl rfl rfl ?_
          refine o_mv (st_g rfl rfl) rfl rfl ?_
          refine st_sp (dj := 20) rfl ?_ ?_
          · refine st_s rfl rfl rfl rfl ?_
            refine st_s rfl rfl rfl rfl ?_
            refine st_s rfl rfl rfl rfl ?_
            refine st_s rfl rfl rfl rfl ?_
            refine st_s rfl rfl rfl rfl ?_
            refine st_s rfl rfl rfl rfl ?_
            refine st_s rfl rfl rfl rfl ?_
            refine st_s rfl rfl rfl rfl ?_
            refine o_pickT (st_g rfl rfl) rfl rfl rfl ?_
            refine o_pickT st rfl rfl rfl ?_
            refine o_as st rfl rfl ?_
            refine c_nil ?_
            exact l_join true (fun a w hE hm => ⟨hE.sub ⟨rfl, trivial⟩, (hm.pick [] rfl)⟩)
          · refine o_fad (st_g rfl rfl) rfl rfl fld53_1 rfl ?_
            refine o_ldc (st_g rfl rfl) (v := (.int .i64 r_0.xAction)) 0 rfl rfl rfl ty3 rfl ?_
            refine o_neq (st_g rfl rfl) und3 rfl rfl rfl ?_
            refine o_mv (st_g rfl rfl) rfl rfl ?_
            refine st_sp (dj := 24) rfl ?_ ?_
            · refine o_fad (st_g rfl rfl) rfl rfl fld53_2 rfl ?_
              refine o_ldc (st_g rfl rfl) (v := (.int .i64 r_0.xChain)) 0 rfl rfl rfl ty3 rfl ?_
              refine o_eql (st_g rfl rfl) und3 rfl rfl rfl ?_
              refine o_pickT (st_g rfl rfl) rfl rfl rfl ?_
              refine o_pickF (st_g rfl rfl) rfl rfl rfl ?_
              refine o_pickT st rfl rfl rfl ?_
              refine o_as st rfl rfl ?_
              refine c_nil ?_
              exact l_join (decide (r_0.xChain = 0)) (fun a w hE hm => ⟨hE.sub ⟨rfl, trivial⟩, (hm.pick [] rfl)⟩)
            · refine st_s rfl rfl rfl rfl ?_
              refine st_s rfl rfl rfl rfl ?_
              refine st_s rfl rfl rfl rfl ?_
              refine o_pickF (st_g rfl rfl) rfl rfl rfl ?_
              refine o_pickF (st_g rfl rfl) rfl rfl rfl ?_
              refine o_pickT st rfl rfl rfl ?_
              refine o_as st rfl rfl ?_
              refine c_nil ?_
              exact l_join false (fun a w hE hm => ⟨hE.sub ⟨rfl, trivial⟩, (hm.pick [] rfl)⟩)
        · refine st_s rfl rfl rfl rfl ?_
          refine st_s rfl rfl rfl rfl ?_
          refine st_s rfl rfl rfl rfl ?_
          refine o_pickF (st_g rfl rfl) rfl rfl rfl ?_
          refine o_mv (st_g rfl rfl) rfl rfl ?_
          refine o_fad (st_g rfl rfl) rfl rfl fld53_1 rfl ?_
          refine o_ldc (st_g rfl rfl) (v := (.int .i64 r_0.xAction)) 0 rfl rfl rfl ty3 rfl ?_
          refine o_neq (st_g rfl rfl) und3 rfl rfl rfl ?_
          refine o_mv (st_g rfl rfl) rfl rfl ?_
          refine st_sp (dj := 24) rfl ?_ ?_
          · refine o_fad (st_g rfl rfl) rfl rfl fld53_2 rfl ?_
            refine o_ldc (st_g rfl rfl) (v := (.int .i64 r_0.xChain)) 0 rfl rfl rfl ty3 rfl ?_
            refine o_eql (st_g rfl rfl) und3 rfl rfl rfl ?_
            refine o_pickT (st_g rfl rfl) rfl rfl rfl ?_
            refine o_pickF (st_g rfl rfl) rfl rfl rfl ?_
            refine o_pickT st rfl rfl rfl ?_
            refine o_as st rfl rfl ?_
            refine c_nil ?_
            exact l_join (decide (r_0.xChain = 0)) (fun a w hE hm => ⟨hE.sub ⟨rfl, trivial⟩, (hm.pick [] rfl)⟩)
          · refine st_s rfl rfl rfl rfl ?_
            refine st_s rfl rfl rfl rfl ?_
            refine st_s rfl rfl rfl rfl ?_
            refine o_pickF (st_g rfl rfl) rfl rfl rfl ?_
            refine o_pickF (st_g rfl rfl) rfl rfl rfl ?_
            refine o_pickT st rfl rfl rfl ?_
            refine o_as st rfl rfl ?_
            refine c_nil ?_
            exact l_join false (fun a w hE hm => ⟨hE.sub ⟨rfl, trivial⟩, (hm.pick [] rfl)⟩)
      · refine st_s rfl rfl rfl rfl ?_
        refine st_s rfl rfl rfl rfl ?_
        refine st_s rfl rfl rfl rfl ?_
        refine st_s rfl rfl rfl rfl ?_
        refine st_s rfl rfl rfl rfl ?_
        refine st_s rfl rfl rfl rfl ?_
        refine st_s rfl rfl rfl rfl ?_
        refine st_s rfl rfl rfl rfl ?_
        refine st_s rfl rfl rfl rfl ?_
        refine st_s rfl rfl rfl rfl ?_
        refine st_s rfl rfl rfl rfl ?_
        refine st_s rfl rfl rfl rfl ?_
        refine st_s rfl rfl rfl rfl ?_
        refine st_s rfl rfl rfl rfl ?_
        refine st_s rfl rfl rfl rfl ?_
        refine st_s rfl rfl rfl rfl ?_
        refine st_s rfl rfl rfl rfl ?_
        refine st_s rfl rfl rfl rfl ?_
        refine o_pickF st rfl rfl rfl ?_
        refine o_as st rfl rfl ?_
        refine c_nil ?_
        exact l_join false (fun a w hE hm => ⟨hE.sub ⟨rfl, trivial⟩, (hm.pick [] rfl)⟩)
    · refine st_s rfl rfl rfl rfl ?_
      refine st_s rfl rfl rfl rfl ?_
      refine st_s rfl rfl rfl rfl ?_
      refine o_pickF st rfl rfl rfl ?_
      refine o_mv st rfl rfl ?_
      refine st_s rfl rfl rfl rfl ?_
      refine st_s rfl rfl rfl rfl ?_
      refine st_s rfl rfl rfl rfl ?_
      refine st_s rfl rfl rfl rfl ?_
      refine st_s rfl rfl rfl rfl ?_
      refine st_s rfl rfl rfl rfl ?_
      refine st_s rfl rfl rfl rfl ?_
      refine st_s rfl rfl rfl rfl ?_
      refine st_s rfl rfl rfl rfl ?_
      refine st_s rfl rfl rfl rfl ?_
      refine st_s rfl rfl rfl rfl ?_
      refine st_s rfl rfl rfl rfl ?_
      refine st_s rfl rfl rfl rfl ?_
      refine st_s rfl rfl rfl rfl ?_
      refine st_s rfl rfl rfl rfl ?_
      refine st_s rfl rfl rfl rfl ?_
      refine st_s rfl rfl rfl rfl ?_
      refine st_s rfl rfl rfl rfl ?_
      refine o_pickF st rfl rfl rfl ?_
      refine o_as st rfl rfl ?_
      refine c_nil ?_
      exact l_join false (fun a w hE hm => ⟨hE.sub ⟨rfl, trivial⟩, (hm.pick [] rfl)⟩)
  · rintro t71 a w ⟨hE, hm⟩ h
    refine nx_of hE hm h ?_
    clear hE hm h
    refine c_ret ?_
    exact l_end1 Tryd.results39 t71 () (rv_t rfl) (fun _ _ => NewCh.nil _ _ _ _)

set_option maxRecDepth 100000 in
set_option maxHeartbeats 8000000 in
theorem w_spec_RuleText {w0 : World} {F : Nat → Prop} {v1 : Value} {r_0 : GRule} {κ : ByteArray → Prop} (hF : ∀ b, F b → b < w0.heap.size ∧ ¬ feet [] b) (hv1 : Sl elGTest F w0 v1 r_0.xTests) (h : L_spec_RuleText r_0 κ) :
    Calls Tryd.prog 33 #[(.agg #[v1, (.int .i64 r_0.xAction), (.int .i64 r_0.xChain)])] w0 (Ret [] F w0 κ (fun (r : ByteArray) (u : Unit) => (.string r)) (fun (r : ByteArray) (u : Unit) => [])) := by
  refine enterS (args := [(.agg #[v1, (.int .i64 r_0.xAction), (.int .i64 r_0.xChain)])]) [] hF (Given.nil _ _) Tryd.func33 rfl Tryd.ntmps33 rfl h ?_
  clear h hF
  refine c_seq ?_
  refine c_region ?_
  obtain ⟨a3, l4, q5, hs_⟩ := sl_val hv1; subst hs_
  refine stw (o_box rfl rfl [(.slice a3 l4 q5), (.int .i64 r_0.xAction), (.int .i64 r_0.xChain)] rfl ?_); intro b6
  refine o_as st rfl rfl ?_
  refine c_nil ?_
  refine l_then ?_
  refine c_seq ?_
  refine c_seq ?_
  refine c_region ?_
  refine o_ldc st (v := (.agg #[(.slice a3 l4 q5), (.int .i64 r_0.xAction), (.int .i64 r_0.xChain)])) 0 rfl rfl rfl ty53 rfl ?_
  refine stw (o_callP (vs := [(.agg #[(.slice a3 l4 q5), (.int .i64 r_0.xAction), (.int .i64 r_0.xChain)])]) Tryd.call39 rfl rfl (by intro w m h; exact (w_spec_RuleValid (F := allB [] w) (r_0 := r_0) allB_ok (m.rd0 1 rfl (reads_snap hv1)) h).mono (fun _ _ k => ret_free (fun r u => fr_nil) k)) ?_); rintro r8 _
  refine o_not st rfl rfl ?_
  refine c_nil ?_
  refine l_then ?_
  refine c_cond rfl ?_ ?_
  · refine c_seq ?_
    refine c_region ?_
    refine o_as st rfl rfl ?_
    refine c_nil ?_
    refine l_then ?_
    refine c_ret ?_
    refine l_ret ?_
    exact l_end1 Tryd.results33 (ByteArray.mk #[]) () (rv_t rfl) (fun _ _ => NewCh.nil _ _ _ _)
  · refine c_skip ?_
    refine l_then ?_
    refine c_seq ?_
    refine c_region ?_
    refine stw (o_bsl (enc := encStr) (qs := [(0, (.string (ByteArray.mk #[97, 99, 99, 101, 112, 116]))), (1, (.string (ByteArray.mk #[100, 114, 111, 112]))), (2, (.string (ByteArray.mk #[99, 97, 108, 108]))), (3, (.string (ByteArray.mk #[114, 101, 116, 117, 114, 110]))), (4, (.string (ByteArray.mk #[110, 111, 110, 101])))]) (cells := [(.string (ByteArray.mk #[97, 99, 99, 101, 112, 116])), (.string (ByteArray.mk #[100, 114, 111, 112])), (.string (ByteArray.mk #[99, 97, 108, 108])), (.string (ByteArray.mk #[114, 101, 116, 117, 114, 110])), (.string (ByteArray.mk #[110, 111, 110, 101]))]) ([(ByteArray.mk #[97, 99, 99, 101, 112, 116]), (ByteArray.mk #[100, 114, 111, 112]), (ByteArray.mk #[99, 97, 108, 108]), (ByteArray.mk #[114, 101, 116, 117, 114, 110]), (ByteArray.mk #[110, 111, 110, 101])]) flelStr (by intro ρ h; simp only [List.map_toArray, List.map_cons, List.map_nil, h (.const (.string (ByteArray.mk #[97, 99, 99, 101, 112, 116]))) _ rfl, h (.const (.string (ByteArray.mk #[100, 114, 111, 112]))) _ rfl, h (.const (.string (ByteArray.mk #[99, 97, 108, 108]))) _ rfl, h (.const (.string (ByteArray.mk #[114, 101, 116, 117, 114, 110]))) _ rfl, h (.const (.string (ByteArray.mk #[110, 111, 110, 101]))) _ rfl]) rfl el66 zero9 rfl rfl rfl rfl rfl rfl ?_); intro v9
    refine o_fad st rfl rfl fld53_1 rfl ?_
    refine o_ldc st (v := (.int .i64 r_0.xAction)) 1 rfl rfl rfl ty3 rfl ?_
    refine o_sub st rfl rfl rfl ?_; intro t11
    refine o_idx st 0 rfl reads_own rfl rfl rfl el66 ?_; intro e12 h13
    refine o_lds st (enc := encStr) (u := (.string e12)) 0 rfl reads_own flelStr rfl h13 rfl rfl ty9 rfl ?_
    refine o_as st rfl rfl ?_
    refine c_nil ?_
    refine l_then ?_
    refine c_join (σ := ByteArray) (fun (t77 : ByteArray) (a : Act) (w : World) => Has 40 [(1, (.pointer (some ⟨b6, 0, none⟩))), (3, (.string t77))] a ∧ Mem (gB F [] w0) (feet []) w0 [cellCh b6 [(.slice a3 l4 q5), (.int .i64 r_0.xAction), (.int .i64 r_0.xChain)] 53, snapCh w0 F] w) ?_ ?_
    · intro k78
      refine c_seq ?_
      refine c_region ?_
      refine o_fad st rfl rfl fld53_1 rfl ?_
      refine o_ldc st (v := (.int .i64 r_0.xAction)) 1 rfl rfl rfl ty3 rfl ?_
      refine o_eql st und3 rfl rfl rfl ?_
      refine c_nil ?_
      refine l_then ?_
      refine c_cond rfl ?_ ?_
      · refine c_region ?_
        refine o_mv st rfl rfl ?_
        refine o_cat st rfl rfl rfl ?_; intro s14
        refine o_fad st rfl rfl fld53_2 rfl ?_
        refine o_ldc st (v := (.int .i64 r_0.xChain)) 1 rfl rfl rfl ty3 rfl ?_
        refine stw (o_callP (vs := [(.int .i64 r_0.xChain)]) Tryd.call51 rfl rfl (by intro w m h; exact (w_spec_l3Number (F := allB [] w) (n_0 := r_0.xChain) allB_ok h).mono (fun _ _ k => ret_free (fun r u => fr_nil) k)) ?_); rintro r15 _
        refine o_cat st rfl rfl rfl ?_; intro s16
        refine o_as st rfl rfl ?_
        refine c_nil ?_
        exact l_join s16 (fun a w hE hm => ⟨hE.sub ⟨rfl, rfl, trivial⟩, (hm.pick [1, 2] rfl)⟩)
      · refine c_skip ?_
        exact l_join e12 (fun a w hE hm => ⟨hE.sub ⟨rfl, rfl, trivial⟩, (hm.pick [1, 2] rfl)⟩)
    · rintro t77 a w ⟨hE, hm⟩ h
      refine nx_of hE hm h ?_
      clear hE hm h
      refine c_seq ?_
      refine c_seq ?_
      refine c_region ?_
      refine o_as st rfl rfl ?_
      refine c_nil ?_
      refine l_then ?_
      refine c_block ?_
      refine c_loop (σ := (ByteArray × Int)) (fun ((t79, t80) : (ByteArray × Int)) (a : Act) (w : World) => Has 40 [(1, (.pointer (some ⟨b6, 0, none⟩))), (3, (.string t79)), (4, (.int .i64 t80))] a ∧ Mem (gB F [] w0) (feet []) w0 [cellCh b6 [(.slice a3 l4 q5), (.int .i64 r_0.xAction), (.int .i64 r_0.xChain)] 53, snapCh w0 F] w) (fun a w hE hm => ⟨hE.sub ⟨rfl, rfl, rfl, trivial⟩, (hm.pick [0, 1] rfl)⟩) ?_
      rintro nx81 ⟨t79, t80⟩ a w ⟨hE, hm⟩ h
      refine nx_of hE hm h ?_
      clear hE hm h
      refine c_seq ?_
      refine c_seq ?_
      refine c_region ?_
      refine o_mv st rfl rfl ?_
      refine o_fad st rfl rfl fld53_0 rfl ?_
      refine o_ldc st (v := (.slice a3 l4 q5)) 0 rfl rfl rfl ty51 rfl ?_
      refine o_len st el51 1 rfl (reads_snap hv1) rfl rfl ?_
      refine o_lss st rfl rfl rfl ?_
      refine c_nil ?_
      refine l_then ?_
      refine c_cond rfl ?_ ?_
      · refine c_skip ?_
        refine l_then ?_
        refine c_seq ?_
        refine c_block ?_
        refine c_region ?_
        refine o_mv st rfl rfl ?_
        refine o_cat st rfl rfl rfl ?_; intro s82
        refine o_fad st rfl rfl fld53_0 rfl ?_
        refine o_ldc st (v := (.slice a3 l4 q5)) 0 rfl rfl rfl ty51 rfl ?_
        refine o_mv st rfl rfl ?_
        refine o_idx st 1 rfl (reads_snap hv1) rfl rfl rfl el51 ?_; intro e83 h84
        refine o_lds st (enc := encGTest) (u := (.agg #[(.int .i64 e83.xField), (.int .i64 e83.xLo), (.int .i64 e83.xHi), (.bool e83.xNot)])) 1 rfl (reads_snap hv1) flelGTest rfl h84 rfl rfl ty25 rfl ?_
        refine stw (o_callP (vs := [(.agg #[(.int .i64 e83.xField), (.int .i64 e83.xLo), (.int .i64 e83.xHi), (.bool e83.xNot)])]) Tryd.call15 rfl rfl (by intro w m h; exact (w_spec_TestText (F := allB [] w) (t_0 := e83) allB_ok h).mono (fun _ _ k => ret_free (fun r u => fr_nil) k)) ?_); rintro r85 _
        refine o_cat st rfl rfl rfl ?_; intro s86
        refine o_as st rfl rfl ?_
        refine c_nil ?_
        refine b_norm ?_
        refine l_then ?_
        refine c_region ?_
        refine o_mv st rfl rfl ?_
        refine o_add st rfl rfl rfl ?_; intro t87
        refine o_as st rfl rfl ?_
        refine c_nil ?_
        exact l_join (s86, t87) (fun a w hE hm => ⟨hE.sub ⟨rfl, rfl, rfl, trivial⟩, (hm.pick [0, 1] rfl)⟩)
      · refine c_exit ?_
        refine l_exit ?_
        refine l_exit ?_
        refine b_exit ?_
        refine l_then ?_
        refine c_seq ?_
        refine c_region ?_
        refine o_mv st rfl rfl ?_
        refine o_as st rfl rfl ?_
        refine c_nil ?_
        refine l_then ?_
        refine c_ret ?_
        exact l_end1 Tryd.results33 t79 () (rv_t rfl) (fun _ _ => NewCh.nil _ _ _ _)

set_option maxRecDepth 100000 in
set_option maxHeartbeats 8000000 in
theorem w_spec_RulesValid {w0 : World} {F : Nat → Prop} {v1 : Value} {list_0 : (List GRule)} {κ : Bool → Prop} (hF : ∀ b, F b → b < w0.heap.size ∧ ¬ feet [] b) (hv1 : Sl elGRule F w0 v1 list_0) (h : L_spec_RulesValid list_0 κ) :
    Calls Tryd.prog 84 #[v1] w0 (Ret [] F w0 κ (fun (r : Bool) (u : Unit) => (.bool r)) (fun (r : Bool) (u : Unit) => [])) := by
  refine enterS (args := [v1]) [] hF (Given.nil _ _) Tryd.func84 rfl Tryd.ntmps84 rfl h ?_
  clear h hF
  refine c_seq ?_
  refine c_region ?_
  refine o_as st rfl rfl ?_
  refine c_nil ?_
  refine l_then ?_
  refine c_seq ?_
  refine c_seq ?_
  refine c_region ?_
  refine o_as st rfl rfl ?_
  refine c_nil ?_
  refine l_then ?_
  refine c_block ?_
  refine c_loop (σ := Int) (fun (t3 : Int) (a : Act) (w : World) => Has 19 [(0, v1), (3, (.int .i64 t3))] a ∧ Mem (gB F [] w0) (feet []) w0 [snapCh w0 F] w) (fun a w hE hm => ⟨hE.sub ⟨rfl, rfl, trivial⟩, (hm.pick [0] rfl)⟩) ?_
  rintro nx4 t3 a w ⟨hE, hm⟩ h
  refine nx_of hE hm h ?_
  clear hE hm h
  refine c_seq ?_
  refine c_seq ?_
  refine c_region ?_
  refine o_mv st rfl rfl ?_
  refine o_mv st rfl rfl ?_
  refine o_len st el69 0 rfl (reads_snap hv1) rfl rfl ?_
  refine o_lss st rfl rfl rfl ?_
  refine c_nil ?_
  refine l_then ?_
  refine c_cond rfl ?_ ?_
  · refine c_skip ?_
    refine l_then ?_
    refine c_seq ?_
    refine c_block ?_
    refine c_seq ?_
    refine c_region ?_
    refine o_mv st rfl rfl ?_
    refine o_mv st rfl rfl ?_
    refine o_idx st 0 rfl (reads_snap hv1) rfl rfl rfl el69 ?_; intro e5 h6
    obtain ⟨_, ⟨v8, rfl, sl9⟩, rw7⟩ := sl_open hv1 h6
    refine o_ldR st (u := (.agg #[v8, (.int .i64 e5.xAction), (.int .i64 e5.xChain)])) 0 rfl rw7 rfl rfl ty53 rfl ?_
    refine stw (o_callP (vs := [(.agg #[v8, (.int .i64 e5.xAction), (.int .i64 e5.xChain)])]) Tryd.call39 rfl rfl (by intro w m h; exact (w_spec_RuleValid (F := allB [] w) (r_0 := e5) allB_ok (m.rd0 0 rfl (reads_snap sl9)) h).mono (fun _ _ k => ret_free (fun r u => fr_nil) k)) ?_); rintro r11 _
    refine o_not st rfl rfl ?_
    refine c_nil ?_
    refine l_then ?_
    refine c_cond rfl ?_ ?_
    · refine c_seq ?_
      refine c_region ?_
      refine o_as st rfl rfl ?_
      refine c_nil ?_
      refine l_then ?_
      refine c_ret ?_
      refine b_ret ?_
      refine l_ret ?_
      refine l_ret ?_
      refine b_ret ?_
      refine l_ret ?_
      exact l_end1 Tryd.results84 false () (rv_t rfl) (fun _ _ => NewCh.nil _ _ _ _)
    · refine c_skip ?_
      refine b_norm ?_
      refine l_then ?_
      refine c_region ?_
      refine o_mv st rfl rfl ?_
      refine o_add st rfl rfl rfl ?_; intro t12
      refine o_as st rfl rfl ?_
      refine c_nil ?_
      exact l_join t12 (fun a w hE hm => ⟨hE.sub ⟨rfl, rfl, trivial⟩, (hm.pick [0] rfl)⟩)
  · refine c_exit ?_
    refine l_exit ?_
    refine l_exit ?_
    refine b_exit ?_
    refine l_then ?_
    refine c_seq ?_
    refine c_region ?_
    refine o_mv st rfl rfl ?_
    refine o_len st el69 0 rfl (reads_snap hv1) rfl rfl ?_
    refine o_leq st rfl rfl rfl ?_
    refine o_as st rfl rfl ?_
    refine c_nil ?_
    refine l_then ?_
    refine c_ret ?_
    exact l_end1 Tryd.results84 (decide ((list_0.length : Int) ≤ 8)) () (rv_t rfl) (fun _ _ => NewCh.nil _ _ _ _)

set_option maxRecDepth 100000 in
set_option maxHeartbeats 8000000 in
theorem w_spec_l8Order {w0 : World} {F : Nat → Prop} {v1 : Value} {s_0 : GRuleset} {κ : (List Int) → Prop} (hF : ∀ b, F b → b < w0.heap.size ∧ ¬ feet [] b) (hv1 : Sl (elSl elGRule) F w0 v1 s_0.xChains) (h : L_spec_l8Order s_0 κ) :
    Calls Tryd.prog 85 #[(.agg #[v1, (.bool s_0.xAccept)])] w0 (Ret [] F w0 κ (fun (r : (List Int)) (u : Value) => u) (fun (r : (List Int)) (u : Value) => [ownCh elInt 3 u r])) := by
  refine enterS (args := [(.agg #[v1, (.bool s_0.xAccept)])]) [] hF (Given.nil _ _) Tryd.func85 rfl Tryd.ntmps85 rfl h ?_
  clear h hF
  refine c_seq ?_
  refine c_region ?_
  obtain ⟨a3, l4, q5, hs_⟩ := sl_val hv1; subst hs_
  refine stw (o_box rfl rfl [(.slice a3 l4 q5), (.bool s_0.xAccept)] rfl ?_); intro b6
  refine stw (o_asn elInt 3 rfl rfl ?_)
  refine c_nil ?_
  refine l_then ?_
  refine c_seq ?_
  refine c_region ?_
  refine o_fad st rfl rfl fld64_0 rfl ?_
  refine o_ldc st (v := (.slice a3 l4 q5)) 1 rfl rfl rfl ty62 rfl ?_
  refine o_len st el62 2 rfl (reads_snap hv1) rfl rfl ?_
  refine stw (o_make (z := false) flelBool rfl rfl rfl el120 rfl zero4 rfl rfl ?_); intro v9 xs10
  refine o_as st rfl rfl ?_
  refine c_nil ?_
  refine l_then ?_
  refine c_seq ?_
  refine c_region ?_
  refine stw (o_bsl (enc := encInt) (qs := []) (cells := []) ([] : (List Int)) flelInt (by intro ρ h; simp only [List.map_toArray, List.map_cons, List.map_nil]) rfl el103 zero3 rfl rfl rfl rfl rfl rfl ?_); intro v12
  refine o_as st rfl rfl ?_
  refine c_nil ?_
  refine l_then ?_
  refine c_seq ?_
  refine c_seq ?_
  refine c_region ?_
  refine o_as st rfl rfl ?_
  refine c_nil ?_
  refine l_then ?_
  refine c_block ?_
  refine c_loop (σ := ((List Bool) × (List Int) × Int)) (fun ((xs14, xs17, t20) : ((List Bool) × (List Int) × Int)) (a : Act) (w : World) => ∃ (v16 : Value), Has 74 [(1, (.pointer (some ⟨b6, 0, none⟩))), (3, v9), (4, v16), (5, (.int .i64 t20))] a ∧ Mem (gB F [] w0) (feet []) w0 [ownCh elBool 4 v9 xs14, cellCh b6 [(.slice a3 l4 q5), (.bool s_0.xAccept)] 64, snapCh w0 F, ownCh elInt 3 v16 xs17] w) (fun a w hE hm => ⟨v12, hE.sub ⟨rfl, rfl, rfl, rfl, trivial⟩, (hm.pick [1, 3, 4, 0] rfl)⟩) ?_
  rintro nx21 ⟨xs14, xs17, t20⟩ a w ⟨v16, hE, hm⟩ h
  refine nx_of hE hm h ?_
  clear hE hm h
  refine c_seq ?_
  refine c_seq ?_
  refine c_region ?_
  refine o_mv st rfl rfl ?_
  refine o_fad st rfl rfl fld64_0 rfl ?_
  refine o_ldc st (v := (.slice a3 l4 q5)) 1 rfl rfl rfl ty62 rfl ?_
  refine o_len st el62 2 rfl (reads_snap hv1) rfl rfl ?_
  refine o_lss st rfl rfl rfl ?_
  refine c_nil ?_
  refine l_then ?_
  refine c_cond rfl ?_ ?_
  · refine c_skip ?_
    refine l_then ?_
    refine c_seq ?_
    refine c_block ?_
    refine c_seq ?_
    refine c_region ?_
    refine o_as st rfl rfl ?_
    refine c_nil ?_
    refine l_then ?_
    refine c_block ?_
    refine c_loop (σ := ((List Bool) × (List Int) × Int)) (fun ((xs22, xs25, t28) : ((List Bool) × (List Int) × Int)) (a : Act) (w : World) => ∃ (v24 : Value), Has 74 [(1, (.pointer (some ⟨b6, 0, none⟩))), (3, v9), (4, v24), (5, (.int .i64 t20)), (6, (.int .i64 t28))] a ∧ Mem (gB F [] w0) (feet []) w0 [ownCh elBool 4 v9 xs22, cellCh b6 [(.slice a3 l4 q5), (.bool s_0.xAccept)] 64, snapCh w0 F, ownCh elInt 3 v24 xs25] w) (fun a w hE hm => ⟨v16, hE.sub ⟨rfl, rfl, rfl, rfl, rfl, trivial⟩, (hm.pick [0, 1, 2, 3] rfl)⟩) ?_
    rintro nx29 ⟨xs22, xs25, t28⟩ a w ⟨v24, hE, hm⟩ h
    refine nx_of hE hm h ?_
    clear hE hm h
    refine c_seq ?_
    refine c_seq ?_
    refine c_region ?_
    refine o_mv st rfl rfl ?_
    refine o_fad st rfl rfl fld64_0 rfl ?_
    refine o_ldc st (v := (.slice a3 l4 q5)) 1 rfl rfl rfl ty62 rfl ?_
    refine o_len st el62 2 rfl (reads_snap hv1) rfl rfl ?_
    refine o_lss st rfl rfl rfl ?_
    refine c_nil ?_
    refine l_then ?_
    refine c_cond rfl ?_ ?_
    · refine c_skip ?_
      refine l_then ?_
      refine c_join (σ := ((List Bool) × (List Int))) (fun ((xs190, xs192) : ((List Bool) × (List Int))) (a : Act) (w : World) => ∃ (v193 : Value), Has 74 [(1, (.pointer (some ⟨b6, 0, none⟩))), (3, v9), (4, v193), (5, (.int .i64 t20)), (6, (.int .i64 t28))] a ∧ Mem (gB F [] w0) (feet []) w0 [ownCh elBool 4 v9 xs190, cellCh b6 [(.slice a3 l4 q5), (.bool s_0.xAccept)] 64, ownCh elInt 3 v193 xs192, snapCh w0 F] w) ?_ ?_
      · intro k195
        refine c_block ?_
        refine c_seq ?_
        refine c_region ?_
        refine o_mv st rfl rfl ?_
        refine o_mv st rfl rfl ?_
        refine o_idx st 0 rfl reads_own rfl rfl rfl el120 ?_; intro e30 h31
        refine o_lds st (enc := encBool) (u := (.bool e30)) 0 rfl reads_own flelBool rfl h31 rfl rfl ty4 rfl ?_
        refine o_not st rfl rfl ?_
        refine o_as st rfl rfl ?_
        refine c_nil ?_
        refine l_then ?_
        refine c_seq ?_
        refine c_seq ?_
        refine c_region ?_
        refine o_as st rfl rfl ?_
        refine c_nil ?_
        refine l_then ?_
        refine c_block ?_
        refine c_loop (σ := (Bool × Int)) (fun ((t32, t33) : (Bool × Int)) (a : Act) (w : World) => Has 74 [(1, (.pointer (some ⟨b6, 0, none⟩))), (3, v9), (4, v24), (5, (.int .i64 t20)), (6, (.int .i64 t28)), (7, (.bool t32)), (8, (.int .i64 t33))] a ∧ Mem (gB F [] w0) (feet []) w0 [ownCh elBool 4 v9 xs22, cellCh b6 [(.slice a3 l4 q5), (.bool s_0.xAccept)] 64, ownCh elInt 3 v24 xs25, snapCh w0 F] w) (fun a w hE hm => ⟨hE.sub ⟨rfl, rfl, rfl, rfl, rfl, rfl, rfl, trivial⟩, (hm.pick [0, 1, 3, 2] rfl)⟩) ?_
        rintro nx34 ⟨t32, t33⟩ a w ⟨hE, hm⟩ h
        refine nx_of hE hm h ?_
        clear hE hm h
        refine c_seq ?_
        refine c_seq ?_
        refine c_region ?_
        refine o_mv st rfl rfl ?_
        refine o_fad st rfl rfl fld64_0 rfl ?_
        refine o_ldc st (v := (.slice a3 l4 q5)) 1 rfl rfl rfl ty62 rfl ?_
        refine o_mv st rfl rfl ?_
        refine o_idx st 3 rfl (reads_snap hv1) rfl rfl rfl el62 ?_; intro e35 h36
        obtain ⟨_, ⟨v38, rfl, sl39⟩, rw37⟩ := sl_open hv1 h36
        refine o_ldR st (u := v38) 3 rfl rw37 rfl rfl ty69 rfl ?_
        refine o_len st el69 3 rfl (reads_snap sl39) rfl rfl ?_
        refine o_lss st rfl rfl rfl ?_
        refine c_nil ?_
        refine l_then ?_
        refine c_cond rfl ?_ ?_
        · refine c_skip ?_
          refine l_then ?_
          refine c_join (σ := Bool) (fun (t120 : Bool) (a : Act) (w : World) => Has 74 [(1, (.pointer (some ⟨b6, 0, none⟩))), (3, v9), (4, v24), (5, (.int .i64 t20)), (6, (.int .i64 t28)), (7, (.bool t120)), (8, (.int .i64 t33))] a ∧ Mem (gB F [] w0) (feet []) w0 [ownCh elBool 4 v9 xs22, cellCh b6 [(.slice a3 l4 q5), (.bool s_0.xAccept)] 64, ownCh elInt 3 v24 xs25, snapCh w0 F] w) ?_ ?_
          · intro k121
            refine c_block ?_
            refine c_seq ?_
            refine c_region ?_
            refine o_fad st rfl rfl fld64_0 rfl ?_
            refine o_ldc st (v := (.slice a3 l4 q5)) 1 rfl rfl rfl ty62 rfl ?_
            refine o_mv st rfl rfl ?_
            refine o_idx st 3 rfl (reads_snap hv1) rfl rfl rfl el62 ?_; intro e41 h42
            obtain ⟨_, ⟨v44, rfl, sl45⟩, rw43⟩ := sl_open hv1 h42
            refine o_ldR st (u := v44) 3 rfl rw43 rfl rfl ty69 rfl ?_
            refine o_mv st rfl rfl ?_
            refine o_idx st 3 rfl (reads_snap sl45) rfl rfl rfl el69 ?_; intro e47 h48
            obtain ⟨_, ⟨v50, rfl, sl51⟩, rw49⟩ := sl_open sl45 h48
            refine o_ldR st (u := (.agg #[v50, (.int .i64 e47.xAction), (.int .i64 e47.xChain)])) 3 rfl rw49 rfl rfl ty53 rfl ?_
            refine stw (o_alloc rfl [(.slice none 0 0), (.int .i64 0), (.int .i64 0)] zero53 ?_); intro b53
            obtain ⟨a55, l56, q57, hs_⟩ := sl_val sl51; subst hs_
            refine stw (o_stc (cs' := [(.slice a55 l56 q57), (.int .i64 e47.xAction), (.int .i64 e47.xChain)]) 0 rfl rfl rfl ty53 rfl rfl rfl rfl ?_)
            refine c_nil ?_
            refine l_then ?_
            refine c_region ?_
            refine o_mv st rfl rfl ?_
            refine o_mv st rfl rfl ?_
            refine st_sp (dj := 53) rfl ?_ ?_
            · refine o_fad (st_g rfl rfl) rfl rfl fld53_1 rfl ?_
              refine o_ldc (st_g rfl rfl) (v := (.int .i64 e47.xAction)) 0 rfl rfl rfl ty3 rfl ?_
              refine o_neq (st_g rfl rfl) und3 rfl rfl rfl ?_
              refine o_mv (st_g rfl rfl) rfl rfl ?_
              refine st_sp (dj := 57) rfl ?_ ?_
              · refine st_s rfl rfl rfl rfl ?_
                refine st_s rfl rfl rfl rfl ?_
                refine st_s rfl rfl rfl rfl ?_
                refine st_s rfl rfl rfl rfl ?_
                refine st_s rfl rfl rfl rfl ?_
                refine o_pickT (st_g rfl rfl) rfl rfl rfl ?_
                refine o_pickT st rfl rfl rfl ?_
                refine o_as st rfl rfl ?_
                refine c_nil ?_
                refine b_norm ?_
                exact l_join true (fun a w hE hm => ⟨hE.sub ⟨rfl, rfl, rfl, rfl, rfl, rfl, rfl, trivial⟩, (hm.pick [1, 2, 3, 4] rfl)⟩)
              · refine o_mv (st_g rfl rfl) rfl rfl ?_
                refine o_fad (st_g rfl rfl) rfl rfl fld53_2 rfl ?_
                refine o_ldc (st_g rfl rfl) (v := (.int .i64 e47.xChain)) 0 rfl rfl rfl ty3 rfl ?_
                refine o_idx (st_g rfl rfl) 1 rfl reads_own rfl rfl rfl el120 ?_; intro e58 h59
                refine o_lds (st_g rfl rfl) (enc := encBool) (u := (.bool e58)) 1 rfl reads_own flelBool rfl h59 rfl rfl ty4 rfl ?_
                refine o_pickF (st_g rfl rfl) rfl rfl rfl ?_
                refine o_pickT st rfl rfl rfl ?_
                refine o_as st rfl rfl ?_
                refine c_nil ?_
                refine b_norm ?_
                exact l_join e58 (fun a w hE hm => ⟨hE.sub ⟨rfl, rfl, rfl, rfl, rfl, rfl, rfl, trivial⟩, (hm.pick [1, 2, 3, 4] rfl)⟩)
            · refine st_s rfl rfl rfl rfl ?_
              refine st_s rfl rfl rfl rfl ?_
              refine st_s rfl rfl rfl rfl ?_
              refine st_s rfl rfl rfl rfl ?_
              refine st_s rfl rfl rfl rfl ?_
              refine st_s rfl rfl rfl rfl ?_
              refine st_s rfl rfl rfl rfl ?_
              refine st_s rfl rfl rfl rfl ?_
              refine st_s rfl rfl rfl rfl ?_
              refine st_s rfl rfl rfl rfl ?_
              refine o_pickF st rfl rfl rfl ?_
              refine o_as st rfl rfl ?_
              refine c_nil ?_
              refine b_norm ?_
              exact l_join false (fun a w hE hm => ⟨hE.sub ⟨rfl, rfl, rfl, rfl, rfl, rfl, rfl, trivial⟩, (hm.pick [1, 2, 3, 4] rfl)⟩)
          · rintro t120 a w ⟨hE, hm⟩ h
            refine nx_of hE hm h ?_
            clear hE hm h
            refine c_region ?_
            refine o_mv st rfl rfl ?_
            refine o_add st rfl rfl rfl ?_; intro t122
            refine o_as st rfl rfl ?_
            refine c_nil ?_
            exact l_join (t120, t122) (fun a w hE hm => ⟨hE.sub ⟨rfl, rfl, rfl, rfl, rfl, rfl, rfl, trivial⟩, (hm.pick [0, 1, 2, 3] rfl)⟩)
        · refine c_exit ?_
          refine l_exit ?_
          refine l_exit ?_
          refine b_exit ?_
          refine l_then ?_
          refine c_seq ?_
          refine c_region ?_
          refine o_mv st rfl rfl ?_
          refine c_nil ?_
          refine l_then ?_
          refine c_cond rfl ?_ ?_
          · refine c_seq ?_
            refine c_region ?_
            refine o_mv st rfl rfl ?_
            refine o_mv st rfl rfl ?_
            refine o_idx st 0 rfl reads_own rfl rfl rfl el120 ?_; intro e123 h124
            refine stw (o_sts (enc := encBool) (y' := true) 0 rfl flelBool rfl h124 ty4 rfl rfl rfl rfl rfl rfl ?_)
            refine c_nil ?_
            refine l_then ?_
            refine c_region ?_
            refine o_mv st rfl rfl ?_
            refine o_mv st rfl rfl ?_
            refine stw (o_bsl (enc := encInt) (qs := [(0, (.int .i64 t28))]) (cells := [(.int .i64 t28)]) ([t28]) flelInt (by intro ρ h; simp only [List.map_toArray, List.map_cons, List.map_nil, h (.tmp 70) _ rfl]) rfl el103 zero3 rfl rfl rfl rfl rfl rfl ?_); intro v126
            refine stw (o_app 3 0 rfl rfl (src_flat flelInt reads_own) rfl rfl rfl el103 rfl zero3 rfl rfl ?_); intro v128
            refine o_as st rfl rfl ?_
            refine c_nil ?_
            refine b_norm ?_
            exact l_join ((xs22.set (t28).toNat true), (xs25 ++ ([t28]))) (fun a w hE hm => ⟨v128, hE.sub ⟨rfl, rfl, rfl, rfl, rfl, trivial⟩, (hm.pick [1, 2, 3, 4] rfl)⟩)
          · refine c_skip ?_
            refine b_norm ?_
            exact l_join (xs22, xs25) (fun a w hE hm => ⟨v24, hE.sub ⟨rfl, rfl, rfl, rfl, rfl, trivial⟩, (hm.pick [0, 1, 2, 3] rfl)⟩)
      · rintro ⟨xs190, xs192⟩ a w ⟨v193, hE, hm⟩ h
        refine nx_of hE hm h ?_
        clear hE hm h
        refine c_region ?_
        refine o_mv st rfl rfl ?_
        refine o_add st rfl rfl rfl ?_; intro t196
        refine o_as st rfl rfl ?_
        refine c_nil ?_
        exact l_join (xs190, xs192, t196) (fun a w hE hm => ⟨v193, hE.sub ⟨rfl, rfl, rfl, rfl, rfl, trivial⟩, (hm.pick [0, 1, 3, 2] rfl)⟩)
    · refine c_exit ?_
      refine l_exit ?_
      refine l_exit ?_
      refine b_exit ?_
      refine b_norm ?_
      refine l_then ?_
      refine c_region ?_
      refine o_mv st rfl rfl ?_
      refine o_add st rfl rfl rfl ?_; intro t197
      refine o_as st rfl rfl ?_
      refine c_nil ?_
      exact l_join (xs22, xs25, t197) (fun a w hE hm => ⟨v24, hE.sub ⟨rfl, rfl, rfl, rfl, trivial⟩, (hm.pick [0, 1, 2, 3] rfl)⟩)
  · refine c_exit ?_
    refine l_exit ?_
    refine l_exit ?_
    refine b_exit ?_
    refine l_then ?_
    refine c_seq ?_
    refine c_region ?_
    refine o_mv st rfl rfl ?_
    refine o_as st rfl rfl ?_
    refine c_nil ?_
    refine l_then ?_
    refine c_ret ?_
    exact l_end1 Tryd.results85 xs17 v16 (rv_t rfl) (fun w m => NewCh.ofB m [3] rfl)

set_option maxRecDepth 100000 in
set_option maxHeartbeats 8000000 in
theorem w_spec_RulesetValid {w0 : World} {F : Nat → Prop} {v1 : Value} {s_0 : GRuleset} {κ : Bool → Prop} (hF : ∀ b, F b → b < w0.heap.size ∧ ¬ feet [] b) (hv1 : Sl (elSl elGRule) F w0 v1 s_0.xChains) (h : L_spec_RulesetValid s_0 κ) :
    Calls Tryd.prog 50 #[(.agg #[v1, (.bool s_0.xAccept)])] w0 (Ret [] F w0 κ (fun (r : Bool) (u : Unit) => (.bool r)) (fun (r : Bool) (u : Unit) => [])) := by
  refine enterS (args := [(.agg #[v1, (.bool s_0.xAccept)])]) [] hF (Given.nil _ _) Tryd.func50 rfl Tryd.ntmps50 rfl h ?_
  clear h hF
  refine c_seq ?_
  refine c_region ?_
  obtain ⟨a3, l4, q5, hs_⟩ := sl_val hv1; subst hs_
  refine stw (o_box rfl rfl [(.slice a3 l4 q5), (.bool s_0.xAccept)] rfl ?_); intro b6
  refine o_as st rfl rfl ?_
  refine c_nil ?_
  refine l_then ?_
  refine c_seq ?_
  refine c_seq ?_
  refine c_region ?_
  refine o_as st rfl rfl ?_
  refine c_nil ?_
  refine l_then ?_
  refine c_block ?_
  refine c_loop (σ := Int) (fun (t8 : Int) (a : Act) (w : World) => Has 55 [(1, (.pointer (some ⟨b6, 0, none⟩))), (3, (.int .i64 t8))] a ∧ Mem (gB F [] w0) (feet []) w0 [cellCh b6 [(.slice a3 l4 q5), (.bool s_0.xAccept)] 64, snapCh w0 F] w) (fun a w hE hm => ⟨hE.sub ⟨rfl, rfl, trivial⟩, (hm.pick [0, 1] rfl)⟩) ?_
  rintro nx9 t8 a w ⟨hE, hm⟩ h
  refine nx_of hE hm h ?_
  clear hE hm h
  refine c_seq ?_
  refine c_seq ?_
  refine c_region ?_
  refine o_mv st rfl rfl ?_
  refine o_fad st rfl rfl fld64_0 rfl ?_
  refine o_ldc st (v := (.slice a3 l4 q5)) 0 rfl rfl rfl ty62 rfl ?_
  refine o_len st el62 1 rfl (reads_snap hv1) rfl rfl ?_
  refine o_lss st rfl rfl rfl ?_
  refine c_nil ?_
  refine l_then ?_
  refine c_cond rfl ?_ ?_
  · refine c_skip ?_
    refine l_then ?_
    refine c_seq ?_
    refine c_block ?_
    refine c_seq ?_
    refine c_seq ?_
    refine c_region ?_
    refine o_fad st rfl rfl fld64_0 rfl ?_
    refine o_ldc st (v := (.slice a3 l4 q5)) 0 rfl rfl rfl ty62 rfl ?_
    refine o_mv st rfl rfl ?_
    refine o_idx st 1 rfl (reads_snap hv1) rfl rfl rfl el62 ?_; intro e10 h11
    obtain ⟨_, ⟨v13, rfl, sl14⟩, rw12⟩ := sl_open hv1 h11
    refine o_ldR st (u := v13) 1 rfl rw12 rfl rfl ty69 rfl ?_
    refine stw (o_callP (vs := [v13]) Tryd.call84 rfl rfl (by intro w m h; exact (w_spec_RulesValid (F := allB [] w) (list_0 := e10) allB_ok (m.rd0 1 rfl (reads_snap sl14)) h).mono (fun _ _ k => ret_free (fun r u => fr_nil) k)) ?_); rintro r16 _
    refine o_not st rfl rfl ?_
    refine c_nil ?_
    refine l_then ?_
    refine c_cond rfl ?_ ?_
    · refine c_seq ?_
      refine c_region ?_
      refine o_as st rfl rfl ?_
      refine c_nil ?_
      refine l_then ?_
      refine c_ret ?_
      refine l_ret ?_
      refine b_ret ?_
      refine l_ret ?_
      refine l_ret ?_
      refine b_ret ?_
      refine l_ret ?_
      exact l_end1 Tryd.results50 false () (rv_t rfl) (fun _ _ => NewCh.nil _ _ _ _)
    · refine c_skip ?_
      refine l_then ?_
      refine c_seq ?_
      refine c_region ?_
      refine o_as st rfl rfl ?_
      refine c_nil ?_
      refine l_then ?_
      refine c_block ?_
      refine c_loop (σ := Int) (fun (t17 : Int) (a : Act) (w : World) => Has 55 [(1, (.pointer (some ⟨b6, 0, none⟩))), (3, (.int .i64 t8)), (4, (.int .i64 t17))] a ∧ Mem (gB F [] w0) (feet []) w0 [cellCh b6 [(.slice a3 l4 q5), (.bool s_0.xAccept)] 64, snapCh w0 F] w) (fun a w hE hm => ⟨hE.sub ⟨rfl, rfl, rfl, trivial⟩, (hm.pick [0, 1] rfl)⟩) ?_
      rintro nx18 t17 a w ⟨hE, hm⟩ h
      refine nx_of hE hm h ?_
      clear hE hm h
      refine c_seq ?_
      refine c_seq ?_
      refine c_region ?_
      refine o_mv st rfl rfl ?_
      refine o_fad st rfl rfl fld64_0 rfl ?_
      refine o_ldc st (v := (.slice a3 l4 q5)) 0 rfl rfl rfl ty62 rfl ?_
      refine o_mv st rfl rfl ?_
      refine o_idx st 1 rfl (reads_snap hv1) rfl rfl rfl el62 ?_; intro e19 h20
      obtain ⟨_, ⟨v22, rfl, sl23⟩, rw21⟩ := sl_open hv1 h20
      refine o_ldR st (u := v22) 1 rfl rw21 rfl rfl ty69 rfl ?_
      refine o_len st el69 1 rfl (reads_snap sl23) rfl rfl ?_
      refine o_lss st rfl rfl rfl ?_
      refine c_nil ?_
      refine l_then ?_
      refine c_cond rfl ?_ ?_
      · refine c_skip ?_
        refine l_then ?_
        refine c_seq ?_
        refine c_block ?_
        refine c_seq ?_
        refine c_draw mixed 13 rfl [cellCh b6 [(.slice a3 l4 q5), (.bool s_0.xAccept)] 64, snapCh w0 F] ?_
        refine o_fad (dt 0 (fun _ m => m)) rfl rfl fld64_0 rfl ?_
        refine o_ldc (dt 1 (fun _ m => m)) (v := (.slice a3 l4 q5)) 0 rfl rfl rfl ty62 rfl ?_
        refine o_mv (dt 2 (fun _ m => m)) rfl rfl ?_
        refine o_idx (dt 3 (fun _ m => m)) 1 rfl (reads_snap hv1) rfl rfl rfl el62 ?_; intro e25 h26
        obtain ⟨_, ⟨v28, rfl, sl29⟩, rw27⟩ := sl_open hv1 h26
        refine o_ldR (dt 4 (fun _ m => m)) (u := v28) 1 rfl rw27 rfl rfl ty69 rfl ?_
        refine o_mv (dt 5 (fun _ m => m)) rfl rfl ?_
        refine o_idx (dt 6 (fun _ m => m)) 1 rfl (reads_snap sl29) rfl rfl rfl el69 ?_; intro e31 h32
        refine o_fadS (dt 7 (fun _ m => m)) 1 rfl (reads_snap sl29) h32 rfl rfl fld53_2 rfl ?_
        refine o_ldP (dt 8 (fun _ m => m)) (u := (.int .i64 e31.xChain)) 1 rfl (reads_snap sl29) h32 rfl rfl rfl ty3 (fun F w cs h => by obtain ⟨u, rfl, _⟩ := h; rfl) ?_
        refine o_fad (dt 9 (fun _ m => m)) rfl rfl fld64_0 rfl ?_
        refine o_ldc (dt 10 (fun _ m => m)) (v := (.slice a3 l4 q5)) 0 rfl rfl rfl ty62 rfl ?_
        refine o_len (dt 11 (fun _ m => m)) el62 1 rfl (reads_snap hv1) rfl rfl ?_
        refine o_geq (dt 12 (fun _ m => m)) rfl rfl rfl ?_
        refine d_done (by kernel_rfl) ?_
        refine l_then ?_
        refine c_cond rfl ?_ ?_
        · refine c_seq ?_
          refine c_region ?_
          refine o_as st rfl rfl ?_
          refine c_nil ?_
          refine l_then ?_
          refine c_ret ?_
          refine b_ret ?_
          refine l_ret ?_
          refine l_ret ?_
          refine b_ret ?_
          refine b_ret ?_
          refine l_ret ?_
          refine l_ret ?_
          refine b_ret ?_
          refine l_ret ?_
          exact l_end1 Tryd.results50 false () (rv_t rfl) (fun _ _ => NewCh.nil _ _ _ _)
        · refine c_skip ?_
          refine b_norm ?_
          refine l_then ?_
          refine c_region ?_
          refine o_mv st rfl rfl ?_
          refine o_add st rfl rfl rfl ?_; intro t33
          refine o_as st rfl rfl ?_
          refine c_nil ?_
          exact l_join t33 (fun a w hE hm => ⟨hE.sub ⟨rfl, rfl, rfl, trivial⟩, (hm.pick [0, 1] rfl)⟩)
      · refine c_exit ?_
        refine l_exit ?_
        refine l_exit ?_
        refine b_exit ?_
        refine b_norm ?_
        refine l_then ?_
        refine c_region ?_
        refine o_mv st rfl rfl ?_
        refine o_add st rfl rfl rfl ?_; intro t34
        refine o_as st rfl rfl ?_
        refine c_nil ?_
        exact l_join t34 (fun a w hE hm => ⟨hE.sub ⟨rfl, rfl, trivial⟩, (hm.pick [0, 1] rfl)⟩)
  · refine c_exit ?_
    refine l_exit ?_
    refine l_exit ?_
    refine b_exit ?_
    refine l_then ?_
    refine c_join (σ := Bool) (fun (t99 : Bool) (a : Act) (w : World) => Has 55 [(2, (.bool t99))] a ∧ Mem (gB F [] w0) (feet []) w0 [] w) ?_ ?_
    · intro k100
      refine c_draw mixed 14 rfl [cellCh b6 [(.slice a3 l4 q5), (.bool s_0.xAccept)] 64, snapCh w0 F] ?_
      refine o_fad (dt 0 (fun _ m => m)) rfl rfl fld64_0 rfl ?_
      refine o_ldc (dt 1 (fun _ m => m)) (v := (.slice a3 l4 q5)) 0 rfl rfl rfl ty62 rfl ?_
      refine o_len (dt 2 (fun _ m => m)) el62 1 rfl (reads_snap hv1) rfl rfl ?_
      refine d_one (i := 3) rfl (by kernel_rfl) (o_callP (vs := [(.int .i64 (s_0.xChains.length : Int)), (.int .i64 1), (.int .i64 5)]) Tryd.call62 rfl rfl (by intro w m h; exact (w_spec_l1In (F := allB [] w) (n_0 := (s_0.xChains.length : Int)) (lo_1 := 1) (hi_2 := 5) allB_ok h).mono (fun _ _ k => ret_free (fun r u => fr_nil) k)) ?_); rintro r35 _
      refine d_and (fun _ m => m) ?_
      refine o_mv (dt 4 (fun _ m => m)) rfl rfl ?_
      refine st_sp (dj := 46) rfl ?_ ?_
      · refine o_ldc (dtg 5 (fun _ m => m)) (v := (.agg #[(.slice a3 l4 q5), (.bool s_0.xAccept)])) 0 rfl rfl rfl ty64 rfl ?_
        refine o_fad (dtg 8 (fun _ m => m)) rfl rfl fld64_0 rfl ?_
        refine o_ldc (dtg 9 (fun _ m => m)) (v := (.slice a3 l4 q5)) 0 rfl rfl rfl ty62 rfl ?_
        refine o_len (dtg 10 (fun _ m => m)) el62 1 rfl (reads_snap hv1) rfl rfl ?_
        refine d_oneg (i := 6) rfl rfl rfl (by kernel_rfl) (o_callP (vs := [(.agg #[(.slice a3 l4 q5), (.bool s_0.xAccept)])]) Tryd.call85 rfl rfl (by intro w m h; exact (w_spec_l8Order (F := allB [] w) (s_0 := s_0) allB_ok (m.rd0 1 rfl (reads_snap hv1)) h).mono (fun _ _ k => ret_free (fun r u => (fr_cons (free_own flelInt) fr_nil)) k)) ?_); rintro r36 v37
        refine d_and (fun w m => m.pick [1, 2] rfl) ?_
        refine d_oneg (i := 7) rfl rfl rfl (by kernel_rfl) (o_len m_op el103 0 rfl reads_own rfl rfl ?_)
        refine d_and (fun w m => m.pick [1, 2] rfl) ?_
        refine o_eql (dtg 11 (fun w m => m.pick [1, 2] rfl)) und3 rfl rfl rfl ?_
        refine o_pickT (dt 12 (fun w m => m.pick [1, 2] rfl)) rfl rfl rfl ?_
        refine o_as (dt 13 (fun w m => m.pick [1, 2] rfl)) rfl rfl ?_
        refine d_done (by kernel_rfl) ?_
        exact l_join (decide ((r36.length : Int) = (s_0.xChains.length : Int))) (fun a w hE hm => ⟨hE.sub ⟨rfl, trivial⟩, (hm.pick [] rfl)⟩)
      · refine dsk 5 (fun _ m => m) rfl (by kernel_rfl) rfl rfl rfl rfl ?_
        refine dsk 6 (fun _ m => m) rfl (by kernel_rfl) rfl rfl rfl rfl ?_
        refine dsk 7 (fun _ m => m) rfl (by kernel_rfl) rfl rfl rfl rfl ?_
        refine dsk 8 (fun _ m => m) rfl (by kernel_rfl) rfl rfl rfl rfl ?_
        refine dsk 9 (fun _ m => m) rfl (by kernel_rfl) rfl rfl rfl rfl ?_
        refine dsk 10 (fun _ m => m) rfl (by kernel_rfl) rfl rfl rfl rfl ?_
        refine dsk 11 (fun _ m => m) rfl (by kernel_rfl) rfl rfl rfl rfl ?_
        refine o_pickF (dt 12 (fun _ m => m)) rfl rfl rfl ?_
        refine o_as (dt 13 (fun _ m => m)) rfl rfl ?_
        refine d_done (by kernel_rfl) ?_
        exact l_join false (fun a w hE hm => ⟨hE.sub ⟨rfl, trivial⟩, (hm.pick [] rfl)⟩)
    · rintro t99 a w ⟨hE, hm⟩ h
      refine nx_of hE hm h ?_
      clear hE hm h
      refine c_ret ?_
      exact l_end1 Tryd.results50 t99 () (rv_t rfl) (fun _ _ => NewCh.nil _ _ _ _)

set_option maxRecDepth 100000 in
set_option maxHeartbeats 8000000 in
theorem w_spec_RulesetText {w0 : World} {F : Nat → Prop} {v1 : Value} {s_0 : GRuleset} {κ : (List ByteArray) → Prop} (hF : ∀ b, F b → b < w0.heap.size ∧ ¬ feet [] b) (hv1 : Sl (elSl elGRule) F w0 v1 s_0.xChains) (h : L_spec_RulesetText s_0 κ) :
    Calls Tryd.prog 49 #[(.agg #[v1, (.bool s_0.xAccept)])] w0 (Ret [] F w0 κ (fun (r : (List ByteArray)) (u : Value) => u) (fun (r : (List ByteArray)) (u : Value) => [ownCh elStr 9 u r])) := by
  refine enterS (args := [(.agg #[v1, (.bool s_0.xAccept)])]) [] hF (Given.nil _ _) Tryd.func49 rfl Tryd.ntmps49 rfl h ?_
  clear h hF
  refine c_seq ?_
  refine c_region ?_
  obtain ⟨a3, l4, q5, hs_⟩ := sl_val hv1; subst hs_
  refine stw (o_box rfl rfl [(.slice a3 l4 q5), (.bool s_0.xAccept)] rfl ?_); intro b6
  refine stw (o_asn elStr 9 rfl rfl ?_)
  refine c_nil ?_
  refine l_then ?_
  refine c_seq ?_
  refine c_region ?_
  refine stw (o_bsl (enc := encStr) (qs := []) (cells := []) ([] : (List ByteArray)) flelStr (by intro ρ h; simp only [List.map_toArray, List.map_cons, List.map_nil]) rfl el66 zero9 rfl rfl rfl rfl rfl rfl ?_); intro v9
  refine o_as st rfl rfl ?_
  refine c_nil ?_
  refine l_then ?_
  refine c_seq ?_
  refine c_seq ?_
  refine c_region ?_
  refine o_ldc st (v := (.agg #[(.slice a3 l4 q5), (.bool s_0.xAccept)])) 2 rfl rfl rfl ty64 rfl ?_
  refine stw (o_callP (vs := [(.agg #[(.slice a3 l4 q5), (.bool s_0.xAccept)])]) Tryd.call50 rfl rfl (by intro w m h; exact (w_spec_RulesetValid (F := allB [] w) (s_0 := s_0) allB_ok (m.rd0 3 rfl (reads_snap hv1)) h).mono (fun _ _ k => ret_free (fun r u => fr_nil) k)) ?_); rintro r11 _
  refine o_not st rfl rfl ?_
  refine c_nil ?_
  refine l_then ?_
  refine c_cond rfl ?_ ?_
  · refine c_seq ?_
    refine c_region ?_
    refine o_mv st rfl rfl ?_
    refine o_as st rfl rfl ?_
    refine c_nil ?_
    refine l_then ?_
    refine c_ret ?_
    refine l_ret ?_
    exact l_end1 Tryd.results49 ([]) v9 (rv_t rfl) (fun w m => NewCh.ofB m [0] rfl)
  · refine c_skip ?_
    refine l_then ?_
    refine c_join (σ := (List ByteArray)) (fun (xs80 : (List ByteArray)) (a : Act) (w : World) => ∃ (v81 : Value), Has 55 [(1, (.pointer (some ⟨b6, 0, none⟩))), (3, v81)] a ∧ Mem (gB F [] w0) (feet []) w0 [ownCh elStr 9 v81 xs80, cellCh b6 [(.slice a3 l4 q5), (.bool s_0.xAccept)] 64, snapCh w0 F] w) ?_ ?_
    · intro k83
      refine c_seq ?_
      refine c_region ?_
      refine o_fad st rfl rfl fld64_1 rfl ?_
      refine o_ldc st (v := (.bool s_0.xAccept)) 2 rfl rfl rfl ty4 rfl ?_
      refine c_nil ?_
      refine l_then ?_
      refine c_cond rfl ?_ ?_
      · refine c_region ?_
        refine o_mv st rfl rfl ?_
        refine stw (o_bsl (enc := encStr) (qs := [(0, (.string (ByteArray.mk #[100, 101, 102, 97, 117, 108, 116, 32, 97, 99, 99, 101, 112, 116])))]) (cells := [(.string (ByteArray.mk #[100, 101, 102, 97, 117, 108, 116, 32, 97, 99, 99, 101, 112, 116]))]) ([(ByteArray.mk #[100, 101, 102, 97, 117, 108, 116, 32, 97, 99, 99, 101, 112, 116])]) flelStr (by intro ρ h; simp only [List.map_toArray, List.map_cons, List.map_nil, h (.const (.string (ByteArray.mk #[100, 101, 102, 97, 117, 108, 116, 32, 97, 99, 99, 101, 112, 116]))) _ rfl]) rfl el66 zero9 rfl rfl rfl rfl rfl rfl ?_); intro v12
        refine stw (o_app 1 0 rfl rfl (src_flat flelStr reads_own) rfl rfl rfl el66 rfl zero9 rfl rfl ?_); intro v14
        refine o_as st rfl rfl ?_
        refine c_nil ?_
        exact l_join (([]) ++ ([(ByteArray.mk #[100, 101, 102, 97, 117, 108, 116, 32, 97, 99, 99, 101, 112, 116])])) (fun a w hE hm => ⟨v14, hE.sub ⟨rfl, rfl, trivial⟩, (hm.pick [1, 3, 4] rfl)⟩)
      · refine c_region ?_
        refine o_mv st rfl rfl ?_
        refine stw (o_bsl (enc := encStr) (qs := [(0, (.string (ByteArray.mk #[100, 101, 102, 97, 117, 108, 116, 32, 100, 114, 111, 112])))]) (cells := [(.string (ByteArray.mk #[100, 101, 102, 97, 117, 108, 116, 32, 100, 114, 111, 112]))]) ([(ByteArray.mk #[100, 101, 102, 97, 117, 108, 116, 32, 100, 114, 111, 112])]) flelStr (by intro ρ h; simp only [List.map_toArray, List.map_cons, List.map_nil, h (.const (.string (ByteArray.mk #[100, 101, 102, 97, 117, 108, 116, 32, 100, 114, 111, 112]))) _ rfl]) rfl el66 zero9 rfl rfl rfl rfl rfl rfl ?_); intro v16
        refine stw (o_app 1 0 rfl rfl (src_flat flelStr reads_own) rfl rfl rfl el66 rfl zero9 rfl rfl ?_); intro v18
        refine o_as st rfl rfl ?_
        refine c_nil ?_
        exact l_join (([]) ++ ([(ByteArray.mk #[100, 101, 102, 97, 117, 108, 116, 32, 100, 114, 111, 112])])) (fun a w hE hm => ⟨v18, hE.sub ⟨rfl, rfl, trivial⟩, (hm.pick [1, 3, 4] rfl)⟩)
    · rintro xs80 a w ⟨v81, hE, hm⟩ h
      refine nx_of hE hm h ?_
      clear hE hm h
      refine c_seq ?_
      refine c_seq ?_
      refine c_region ?_
      refine o_as st rfl rfl ?_
      refine c_nil ?_
      refine l_then ?_
      refine c_block ?_
      refine c_loop (σ := ((List ByteArray) × Int)) (fun ((xs85, t88) : ((List ByteArray) × Int)) (a : Act) (w : World) => ∃ (v84 : Value), Has 55 [(1, (.pointer (some ⟨b6, 0, none⟩))), (3, v84), (4, (.int .i64 t88))] a ∧ Mem (gB F [] w0) (feet []) w0 [cellCh b6 [(.slice a3 l4 q5), (.bool s_0.xAccept)] 64, snapCh w0 F, ownCh elStr 9 v84 xs85] w) (fun a w hE hm => ⟨v81, hE.sub ⟨rfl, rfl, rfl, trivial⟩, (hm.pick [1, 2, 0] rfl)⟩) ?_
      rintro nx89 ⟨xs85, t88⟩ a w ⟨v84, hE, hm⟩ h
      refine nx_of hE hm h ?_
      clear hE hm h
      refine c_seq ?_
      refine c_seq ?_
      refine c_region ?_
      refine o_mv st rfl rfl ?_
      refine o_fad st rfl rfl fld64_0 rfl ?_
      refine o_ldc st (v := (.slice a3 l4 q5)) 0 rfl rfl rfl ty62 rfl ?_
      refine o_len st el62 1 rfl (reads_snap hv1) rfl rfl ?_
      refine o_lss st rfl rfl rfl ?_
      refine c_nil ?_
      refine l_then ?_
      refine c_cond rfl ?_ ?_
      · refine c_skip ?_
        refine l_then ?_
        refine c_seq ?_
        refine c_block ?_
        refine c_seq ?_
        refine c_region ?_
        refine o_mv st rfl rfl ?_
        refine o_mv st rfl rfl ?_
        refine stw (o_callP (vs := [(.int .i64 t88)]) Tryd.call51 rfl rfl (by intro w m h; exact (w_spec_l3Number (F := allB [] w) (n_0 := t88) allB_ok h).mono (fun _ _ k => ret_free (fun r u => fr_nil) k)) ?_); rintro r90 _
        refine o_cat st rfl rfl rfl ?_; intro s91
        refine stw (o_bsl (enc := encStr) (qs := [(0, (.string s91))]) (cells := [(.string s91)]) ([s91]) flelStr (by intro ρ h; simp only [List.map_toArray, List.map_cons, List.map_nil, h (.tmp 29) _ rfl]) rfl el66 zero9 rfl rfl rfl rfl rfl rfl ?_); intro v92
        refine stw (o_app 3 0 rfl rfl (src_flat flelStr reads_own) rfl rfl rfl el66 rfl zero9 rfl rfl ?_); intro v94
        refine o_as st rfl rfl ?_
        refine c_nil ?_
        refine l_then ?_
        refine c_seq ?_
        refine c_region ?_
        refine o_as st rfl rfl ?_
        refine c_nil ?_
        refine l_then ?_
        refine c_block ?_
        refine c_loop (σ := ((List ByteArray) × Int)) (fun ((xs97, t100) : ((List ByteArray) × Int)) (a : Act) (w : World) => ∃ (v96 : Value), Has 55 [(1, (.pointer (some ⟨b6, 0, none⟩))), (3, v96), (4, (.int .i64 t88)), (5, (.int .i64 t100))] a ∧ Mem (gB F [] w0) (feet []) w0 [cellCh b6 [(.slice a3 l4 q5), (.bool s_0.xAccept)] 64, snapCh w0 F, ownCh elStr 9 v96 xs97] w) (fun a w hE hm => ⟨v94, hE.sub ⟨rfl, rfl, rfl, rfl, trivial⟩, (hm.pick [1, 2, 3] rfl)⟩) ?_
        rintro nx101 ⟨xs97, t100⟩ a w ⟨v96, hE, hm⟩ h
        refine nx_of hE hm h ?_
        clear hE hm h
        refine c_seq ?_
        refine c_seq ?_
        refine c_region ?_
        refine o_mv st rfl rfl ?_
        refine o_fad st rfl rfl fld64_0 rfl ?_
        refine o_ldc st (v := (.slice a3 l4 q5)) 0 rfl rfl rfl ty62 rfl ?_
        refine o_mv st rfl rfl ?_
        refine o_idx st 1 rfl (reads_snap hv1) rfl rfl rfl el62 ?_; intro e102 h103
        obtain ⟨_, ⟨v105, rfl, sl106⟩, rw104⟩ := sl_open hv1 h103
        refine o_ldR st (u := v105) 1 rfl rw104 rfl rfl ty69 rfl ?_
        refine o_len st el69 1 rfl (reads_snap sl106) rfl rfl ?_
        refine o_lss st rfl rfl rfl ?_
        refine c_nil ?_
        refine l_then ?_
        refine c_cond rfl ?_ ?_
        · refine c_skip ?_
          refine l_then ?_
          refine c_seq ?_
          refine c_block ?_
          refine c_region ?_
          refine o_mv st rfl rfl ?_
          refine o_fad st rfl rfl fld64_0 rfl ?_
          refine o_ldc st (v := (.slice a3 l4 q5)) 0 rfl rfl rfl ty62 rfl ?_
          refine o_mv st rfl rfl ?_
          refine o_idx st 1 rfl (reads_snap hv1) rfl rfl rfl el62 ?_; intro e108 h109
          obtain ⟨_, ⟨v111, rfl, sl112⟩, rw110⟩ := sl_open hv1 h109
          refine o_ldR st (u := v111) 1 rfl rw110 rfl rfl ty69 rfl ?_
          refine o_mv st rfl rfl ?_
          refine o_idx st 1 rfl (reads_snap sl112) rfl rfl rfl el69 ?_; intro e114 h115
          obtain ⟨_, ⟨v117, rfl, sl118⟩, rw116⟩ := sl_open sl112 h115
          refine o_ldR st (u := (.agg #[v117, (.int .i64 e114.xAction), (.int .i64 e114.xChain)])) 1 rfl rw116 rfl rfl ty53 rfl ?_
          refine stw (o_callP (vs := [(.agg #[v117, (.int .i64 e114.xAction), (.int .i64 e114.xChain)])]) Tryd.call33 rfl rfl (by intro w m h; exact (w_spec_RuleText (F := allB [] w) (r_0 := e114) allB_ok (m.rd0 1 rfl (reads_snap sl118)) h).mono (fun _ _ k => ret_free (fun r u => fr_nil) k)) ?_); rintro r120 _
          refine stw (o_bsl (enc := encStr) (qs := [(0, (.string r120))]) (cells := [(.string r120)]) ([r120]) flelStr (by intro ρ h; simp only [List.map_toArray, List.map_cons, List.map_nil, h (.tmp 51) _ rfl]) rfl el66 zero9 rfl rfl rfl rfl rfl rfl ?_); intro v121
          refine stw (o_app 3 0 rfl rfl (src_flat flelStr reads_own) rfl rfl rfl el66 rfl zero9 rfl rfl ?_); intro v123
          refine o_as st rfl rfl ?_
          refine c_nil ?_
          refine b_norm ?_
          refine l_then ?_
          refine c_region ?_
          refine o_mv st rfl rfl ?_
          refine o_add st rfl rfl rfl ?_; intro t125
          refine o_as st rfl rfl ?_
          refine c_nil ?_
          exact l_join ((xs97 ++ ([r120])), t125) (fun a w hE hm => ⟨v123, hE.sub ⟨rfl, rfl, rfl, rfl, trivial⟩, (hm.pick [1, 2, 3] rfl)⟩)
        · refine c_exit ?_
          refine l_exit ?_
          refine l_exit ?_
          refine b_exit ?_
          refine b_norm ?_
          refine l_then ?_
          refine c_region ?_
          refine o_mv st rfl rfl ?_
          refine o_add st rfl rfl rfl ?_; intro t126
          refine o_as st rfl rfl ?_
          refine c_nil ?_
          exact l_join (xs97, t126) (fun a w hE hm => ⟨v96, hE.sub ⟨rfl, rfl, rfl, trivial⟩, (hm.pick [0, 1, 2] rfl)⟩)
      · refine c_exit ?_
        refine l_exit ?_
        refine l_exit ?_
        refine b_exit ?_
        refine l_then ?_
        refine c_seq ?_
        refine c_region ?_
        refine o_mv st rfl rfl ?_
        refine o_as st rfl rfl ?_
        refine c_nil ?_
        refine l_then ?_
        refine c_ret ?_
        exact l_end1 Tryd.results49 xs85 v84 (rv_t rfl) (fun w m => NewCh.ofB m [2] rfl)

set_option maxRecDepth 100000 in
set_option maxHeartbeats 8000000 in
theorem w_laws_FnLinesCount {w0 : World} {F : Nat → Prop} {v1 : Value} {code_0 : (List UInt8)} {κ : Bool → Prop} (hF : ∀ b, F b → b < w0.heap.size ∧ ¬ feet [] b) (hv1 : Sl elU8 F w0 v1 code_0) (hgl0 : Sl elGFieldShape F w0 (.slice (some ⟨0, 0, none⟩) 4 4) gl_impl_fieldShapes) (hgl1 : Tb F w0) (h : L_laws_FnLinesCount code_0 κ) :
    Calls Tryd.prog 14 #[v1] w0 (Ret [] F w0 κ (fun (r : Bool) (u : Unit) => (.bool r)) (fun (r : Bool) (u : Unit) => [])) := by
  refine enterS (args := [v1]) [] hF (Given.nil _ _) Tryd.func14 rfl Tryd.ntmps14 rfl h ?_
  clear h hF
  refine c_seq ?_
  refine c_region ?_
  refine o_as st rfl rfl ?_
  refine c_nil ?_
  refine l_then ?_
  refine c_seq ?_
  refine c_seq ?_
  refine c_region ?_
  refine o_mv st rfl rfl ?_
  refine o_len st el34 0 rfl (reads_snap hv1) rfl rfl ?_
  refine o_gtr st rfl rfl rfl ?_
  refine c_nil ?_
  refine l_then ?_
  refine c_cond rfl ?_ ?_
  · refine c_seq ?_
    refine c_region ?_
    refine o_as st rfl rfl ?_
    refine c_nil ?_
    refine l_then ?_
    refine c_ret ?_
    refine l_ret ?_
    exact l_end1 Tryd.results14 true () (rv_t rfl) (fun _ _ => NewCh.nil _ _ _ _)
  · refine c_skip ?_
    refine l_then ?_
    refine c_seq ?_
    refine c_region ?_
    refine o_mv st rfl rfl ?_
    refine stw (o_callP (vs := [v1]) Tryd.call46 rfl rfl (by intro w m h; exact (w_spec_DrawRulesetText (F := allB [] w) (code_0 := code_0) allB_ok (m.rd0 0 rfl (reads_snap hv1)) h).mono (fun _ _ k => ret_free (fun r u => (fr_cons free_dp fr_nil)) k)) ?_); rintro r3 ⟨v4, bb5⟩
    refine stw (o_alloc rfl [(.slice none 0 0), (.bool false)] zero64 ?_); intro b7
    refine nx_dp 1 rfl ?_; rintro a9 l10 q11 rfl
    refine stw (o_stc (cs' := [(.slice a9 l10 q11), (.bool r3.xAccept)]) 0 rfl rfl rfl ty64 rfl rfl rfl rfl ?_)
    refine c_nil ?_
    refine l_then ?_
    refine c_seq ?_
    refine c_region ?_
    refine o_ldc st (v := (.agg #[(.slice a9 l10 q11), (.bool r3.xAccept)])) 0 rfl rfl rfl ty64 rfl ?_
    refine stw (o_callP (vs := [(.agg #[(.slice a9 l10 q11), (.bool r3.xAccept)])]) Tryd.call47 rfl rfl (by intro w m h; exact (w_impl_RulesetText (F := allB [] w) (s_0 := r3) allB_ok (m.rd0 1 rfl reads_dp) (m.rd0 2 rfl (reads_snap hgl0)) ((hgl1.of (m.get (i := 2) rfl)).mono fz_ok0) h).mono (fun _ _ k => ret_free (fun r u => (fr_cons (free_own flelStr) fr_nil)) k)) ?_); rintro r12 v13
    refine o_as st rfl rfl ?_
    refine c_nil ?_
    refine l_then ?_
    refine c_seq ?_
    refine c_seq ?_
    refine c_region ?_
    refine o_mv st rfl rfl ?_
    refine o_ldc st (v := (.agg #[(.slice a9 l10 q11), (.bool r3.xAccept)])) 1 rfl rfl rfl ty64 rfl ?_
    refine stw (o_callP (vs := [(.agg #[(.slice a9 l10 q11), (.bool r3.xAccept)])]) Tryd.call49 rfl rfl (by intro w m h; exact (w_spec_RulesetText (F := allB [] w) (s_0 := r3) allB_ok (m.rd0 2 rfl reads_dp) h).mono (fun _ _ k => ret_free (fun r u => (fr_cons (free_own flelStr) fr_nil)) k)) ?_); rintro r15 v16
    refine stw (o_callP (vs := [v13, v16]) Tryd.call48 rfl rfl (by intro w m h; exact (w_laws_sameTexts (F := allB [] w) (a_0 := r12) (b_1 := r15) allB_ok (m.rd0 1 rfl reads_own) (m.rd0 0 rfl reads_own) h).mono (fun _ _ k => ret_free (fun r u => fr_nil) k)) ?_); rintro r18 _
    refine o_not st rfl rfl ?_
    refine c_nil ?_
    refine l_then ?_
    refine c_cond rfl ?_ ?_
    · refine c_seq ?_
      refine c_region ?_
      refine o_as st rfl rfl ?_
      refine c_nil ?_
      refine l_then ?_
      refine c_ret ?_
      refine l_ret ?_
      exact l_end1 Tryd.results14 false () (rv_t rfl) (fun _ _ => NewCh.nil _ _ _ _)
    · refine c_skip ?_
      refine l_then ?_
      refine c_seq ?_
      refine c_region ?_
      refine o_fad st rfl rfl fld64_0 rfl ?_
      refine o_ldc st (v := (.slice a9 l10 q11)) 2 rfl rfl rfl ty62 rfl ?_
      refine o_len st el62 3 rfl reads_dp rfl rfl ?_
      refine o_add st rfl rfl rfl ?_; intro t19
      refine o_as st rfl rfl ?_
      refine c_nil ?_
      refine l_then ?_
      refine c_seq ?_
      refine c_seq ?_
      refine c_region ?_
      refine o_as st rfl rfl ?_
      refine c_nil ?_
      refine l_then ?_
      refine c_block ?_
      refine c_loop (σ := (Int × Int)) (fun ((t20, t21) : (Int × Int)) (a : Act) (w : World) => Has 50 [(3, (.pointer (some ⟨b7, 0, none⟩))), (4, v13), (5, (.int .i64 t20)), (6, (.int .i64 t21))] a ∧ Mem (gB F [] w0) (feet []) w0 [ownCh elStr 9 v13 r12, cellCh b7 [(.slice a9 l10 q11), (.bool r3.xAccept)] 64, ownCh (elSl elGRule) 69 (.slice a9 l10 q11) r3.xChains, snapCh w0 F] w) (fun a w hE hm => ⟨hE.sub ⟨rfl, rfl, rfl, rfl, trivial⟩, ((hm.undp 3 rfl).pick [1, 2, 3, 4] rfl)⟩) ?_
      rintro nx22 ⟨t20, t21⟩ a w ⟨hE, hm⟩ h
      refine nx_of hE hm h ?_
      clear hE hm h
      refine c_seq ?_
      refine c_seq ?_
      refine c_region ?_
      refine o_mv st rfl rfl ?_
      refine o_fad st rfl rfl fld64_0 rfl ?_
      refine o_ldc st (v := (.slice a9 l10 q11)) 1 rfl rfl rfl ty62 rfl ?_
      refine o_len st el62 2 rfl reads_own rfl rfl ?_
      refine o_lss st rfl rfl rfl ?_
      refine c_nil ?_
      refine l_then ?_
      refine c_cond rfl ?_ ?_
      · refine c_skip ?_
        refine l_then ?_
        refine c_seq ?_
        refine c_block ?_
        refine c_region ?_
        refine o_mv st rfl rfl ?_
        refine o_fad st rfl rfl fld64_0 rfl ?_
        refine o_ldc st (v := (.slice a9 l10 q11)) 1 rfl rfl rfl ty62 rfl ?_
        refine o_mv st rfl rfl ?_
        refine o_idx st 2 rfl reads_own rfl rfl rfl el62 ?_; intro e23 h24
        refine stw (o_ldE 2 rfl src_own h24 rfl rfl ty69 ?_); rintro wr25 ff26 _ ⟨v28, rfl, sl29⟩; refine ⟨v28, rfl, ?_⟩
        refine o_len st el69 0 rfl (reads_snap sl29) rfl rfl ?_
        refine o_add st rfl rfl rfl ?_; intro t31
        refine o_as st rfl rfl ?_
        refine c_nil ?_
        refine b_norm ?_
        refine l_then ?_
        refine c_region ?_
        refine o_mv st rfl rfl ?_
        refine o_add st rfl rfl rfl ?_; intro t32
        refine o_as st rfl rfl ?_
        refine c_nil ?_
        exact l_join (t31, t32) (fun a w hE hm => ⟨hE.sub ⟨rfl, rfl, rfl, rfl, trivial⟩, (hm.pick [1, 2, 3, 4] rfl)⟩)
      · refine c_exit ?_
        refine l_exit ?_
        refine l_exit ?_
        refine b_exit ?_
        refine l_then ?_
        refine c_join (σ := Bool) (fun (t96 : Bool) (a : Act) (w : World) => Has 50 [(2, (.bool t96))] a ∧ Mem (gB F [] w0) (feet []) w0 [snapCh w0 F] w) ?_ ?_
        · intro k97
          refine c_region ?_
          refine o_ldc st (v := (.agg #[(.slice a9 l10 q11), (.bool r3.xAccept)])) 1 rfl rfl rfl ty64 rfl ?_
          refine stw (o_callP (vs := [(.agg #[(.slice a9 l10 q11), (.bool r3.xAccept)])]) Tryd.call50 rfl rfl (by intro w m h; exact (w_spec_RulesetValid (F := allB [] w) (s_0 := r3) allB_ok (m.rd0 2 rfl reads_own) h).mono (fun _ _ k => ret_free (fun r u => fr_nil) k)) ?_); rintro r33 _
          refine o_not st rfl rfl ?_
          refine o_mv st rfl rfl ?_
          refine st_sp (dj := 41) rfl ?_ ?_
          · refine st_s rfl rfl rfl rfl ?_
            refine st_s rfl rfl rfl rfl ?_
            refine st_s rfl rfl rfl rfl ?_
            refine st_s rfl rfl rfl rfl ?_
            refine o_pickT st rfl rfl rfl ?_
            refine o_mv st rfl rfl ?_
            refine st_gw rfl rfl (o_callP (vs := []) Tryd.call25 rfl rfl (by intro w m h; exact (w_laws_alive (F := allB [] w) allB_ok h).mono (fun _ _ k => ret_free (fun r u => fr_nil) k)) ?_); rintro r34 _
            refine o_pickT st rfl rfl rfl ?_
            refine o_as st rfl rfl ?_
            refine c_nil ?_
            exact l_join r34 (fun a w hE hm => ⟨hE.sub ⟨rfl, trivial⟩, (hm.pick [3] rfl)⟩)
          · refine o_mv (st_g rfl rfl) rfl rfl ?_
            refine o_len (st_g rfl rfl) el66 0 rfl reads_own rfl rfl ?_
            refine o_mv (st_g rfl rfl) rfl rfl ?_
            refine o_eql (st_g rfl rfl) und3 rfl rfl rfl ?_
            refine o_pickF st rfl rfl rfl ?_
            refine o_mv st rfl rfl ?_
            refine st_sp (dj := 47) rfl ?_ ?_
            · refine st_gw rfl rfl (o_callP (vs := []) Tryd.call25 rfl rfl (by intro w m h; exact (w_laws_alive (F := allB [] w) allB_ok h).mono (fun _ _ k => ret_free (fun r u => fr_nil) k)) ?_); rintro r35 _
              refine o_pickT st rfl rfl rfl ?_
              refine o_as st rfl rfl ?_
              refine c_nil ?_
              exact l_join r35 (fun a w hE hm => ⟨hE.sub ⟨rfl, trivial⟩, (hm.pick [3] rfl)⟩)
            · refine st_s rfl rfl rfl rfl ?_
              refine o_pickF st rfl rfl rfl ?_
              refine o_as st rfl rfl ?_
              refine c_nil ?_
              exact l_join false (fun a w hE hm => ⟨hE.sub ⟨rfl, trivial⟩, (hm.pick [3] rfl)⟩)
        · rintro t96 a w ⟨hE, hm⟩ h
          refine nx_of hE hm h ?_
          clear hE hm h
          refine c_ret ?_
          exact l_end1 Tryd.results14 t96 () (rv_t rfl) (fun _ _ => NewCh.nil _ _ _ _)


end Go.Proofs.YtnogaeckmiekdaaDoor
