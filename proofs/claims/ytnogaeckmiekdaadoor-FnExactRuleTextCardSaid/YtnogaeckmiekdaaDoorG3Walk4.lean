/- The walks of the functions of this seat (printed), on. -/
import Derived.Test.YtnogaeckmiekdaaDoorG3Walk3
set_option linter.unusedSimpArgs false
set_option linter.unusedVariables false
namespace Go.Proofs.YtnogaeckmiekdaaDoor
open Go.RowKit
set_option maxRecDepth 100000 in
set_option maxHeartbeats 8000000 in
theorem w_impl_TestsValid {w0 : World} {F : Nat → Prop} {v1 : Value} {list_0 : (List GTest)} {κ : Bool → Prop} (hF : ∀ b, F b → b < w0.heap.size ∧ ¬ feet [] b) (hv1 : Sl elGTest F w0 v1 list_0) (hgl0 : Sl elGFieldShape F w0 (.slice (some ⟨0, 0, none⟩) 4 4) gl_impl_fieldShapes) (h : L_impl_TestsValid list_0 κ) :
    Calls Tryd.prog 92 #[v1] w0 (Ret [] F w0 κ (fun (r : Bool) (u : Unit) => (.bool r)) (fun (r : Bool) (u : Unit) => [])) := by
  refine enterS (args := [v1]) [] hF (Given.nil _ _) Tryd.func92 rfl Tryd.ntmps92 rfl h ?_
  clear h hF
  refine c_seq ?_
  refine c_region ?_
  refine o_as st rfl rfl ?_
  refine c_nil ?_
  refine l_then ?_
  refine c_seq ?_
  refine c_seq ?_
  refine c_region ?_
  refine o_mv st rfl rfl ?_
  refine o_len st el51 0 rfl (reads_snap hv1) rfl rfl ?_
  refine o_gtr st rfl rfl rfl ?_
  refine c_nil ?_
  refine l_then ?_
  refine c_cond rfl ?_ ?_
  · refine c_seq ?_
    refine c_region ?_
    refine o_as st rfl rfl ?_
    refine c_nil ?_
    refine l_then ?_
    refine c_ret ?_
    refine l_ret ?_
    exact l_end1 Tryd.results92 false () (rv_t rfl) (fun _ _ => NewCh.nil _ _ _ _)
  · refine c_skip ?_
    refine l_then ?_
    refine c_seq ?_
    refine c_seq ?_
    refine c_region ?_
    refine o_mv st rfl rfl ?_
    refine o_len st el51 0 rfl (reads_snap hv1) rfl rfl ?_
    refine o_mv st rfl rfl ?_
    refine c_nil ?_
    refine l_then ?_
    refine c_block ?_
    refine c_loop (σ := Int) (fun (t3 : Int) (a : Act) (w : World) => Has 18 [(8, v1), (9, (.int .i64 (list_0.length : Int))), (10, (.int .i64 t3))] a ∧ Mem (gB F [] w0) (feet []) w0 [snapCh w0 F] w) (fun a w hE hm => ⟨hE.sub ⟨rfl, rfl, rfl, trivial⟩, (hm.pick [0] rfl)⟩) ?_
    rintro nx4 t3 a w ⟨hE, hm⟩ h
    refine nx_of hE hm h ?_
    clear hE hm h
    refine c_seq ?_
    refine c_region ?_
    refine o_lss st rfl rfl rfl ?_
    refine c_nil ?_
    refine l_then ?_
    refine c_seq ?_
    refine c_cond rfl ?_ ?_
    · refine c_skip ?_
      refine l_then ?_
      refine c_seq ?_
      refine c_block ?_
      refine c_seq ?_
      refine c_region ?_
      refine o_idx st 0 rfl (reads_snap hv1) rfl rfl rfl el51 ?_; intro e5 h6
      refine o_lds st (enc := encGTest) (u := (.agg #[(.int .i64 e5.xField), (.int .i64 e5.xLo), (.int .i64 e5.xHi), (.bool e5.xNot)])) 0 rfl (reads_snap hv1) flelGTest rfl h6 rfl rfl ty25 rfl ?_
      refine stw (o_alloc rfl [(.int .i64 0), (.int .i64 0), (.int .i64 0), (.bool false)] zero25 ?_); intro b7
      refine stw (o_stc (cs' := [(.int .i64 e5.xField), (.int .i64 e5.xLo), (.int .i64 e5.xHi), (.bool e5.xNot)]) 0 rfl rfl rfl ty25 rfl rfl rfl rfl ?_)
      refine c_nil ?_
      refine l_then ?_
      refine c_seq ?_
      refine c_region ?_
      refine o_ldc st (v := (.agg #[(.int .i64 e5.xField), (.int .i64 e5.xLo), (.int .i64 e5.xHi), (.bool e5.xNot)])) 0 rfl rfl rfl ty25 rfl ?_
      refine stw (o_callP (vs := [(.agg #[(.int .i64 e5.xField), (.int .i64 e5.xLo), (.int .i64 e5.xHi), (.bool e5.xNot)])]) Tryd.call52 rfl rfl (by intro w m h; exact (w_impl_TestValid (F := allB [] w) (t_0 := e5) allB_ok (m.rd0 1 rfl (reads_snap hgl0)) h).mono (fun _ _ k => ret_free (fun r u => fr_nil) k)) ?_); rintro r9 _
      refine o_not st rfl rfl ?_
      refine c_nil ?_
      refine l_then ?_
      refine c_cond rfl ?_ ?_
      · refine c_seq ?_
        refine c_region ?_
        refine o_as st rfl rfl ?_
        refine c_nil ?_
        refine l_then ?_
        refine c_ret ?_
        refine b_ret ?_
        refine l_ret ?_
        refine l_ret ?_
        refine b_ret ?_
        refine l_ret ?_
        exact l_end1 Tryd.results92 false () (rv_t rfl) (fun _ _ => NewCh.nil _ _ _ _)
      · refine c_skip ?_
        refine b_norm ?_
        refine l_then ?_
        refine c_region ?_
        refine o_add st rfl rfl rfl ?_; intro t10
        refine o_mv st rfl rfl ?_
        refine c_nil ?_
        exact l_join t10 (fun a w hE hm => ⟨hE.sub ⟨rfl, rfl, rfl, trivial⟩, (hm.pick [1] rfl)⟩)
    · refine c_exit ?_
      refine l_exit ?_
      refine l_exit ?_
      refine b_exit ?_
      refine l_then ?_
      refine c_seq ?_
      refine c_region ?_
      refine o_as st rfl rfl ?_
      refine c_nil ?_
      refine l_then ?_
      refine c_ret ?_
      exact l_end1 Tryd.results92 true () (rv_t rfl) (fun _ _ => NewCh.nil _ _ _ _)

set_option maxRecDepth 100000 in
set_option maxHeartbeats 8000000 in
theorem w_impl_RuleValid {w0 : World} {F : Nat → Prop} {v1 : Value} {r_0 : GRule} {κ : Bool → Prop} (hF : ∀ b, F b → b < w0.heap.size ∧ ¬ feet [] b) (hv1 : Sl elGTest F w0 v1 r_0.xTests) (hgl0 : Sl elGFieldShape F w0 (.slice (some ⟨0, 0, none⟩) 4 4) gl_impl_fieldShapes) (h : L_impl_RuleValid r_0 κ) :
    Calls Tryd.prog 72 #[(.agg #[v1, (.int .i64 r_0.xAction), (.int .i64 r_0.xChain)])] w0 (Ret [] F w0 κ (fun (r : Bool) (u : Unit) => (.bool r)) (fun (r : Bool) (u : Unit) => [])) := by
  refine enterS (args := [(.agg #[v1, (.int .i64 r_0.xAction), (.int .i64 r_0.xChain)])]) [] hF (Given.nil _ _) Tryd.func72 rfl Tryd.ntmps72 rfl h ?_
  clear h hF
  refine c_seq ?_
  refine c_region ?_
  obtain ⟨a3, l4, q5, hs_⟩ := sl_val hv1; subst hs_
  refine stw (o_box rfl rfl [(.slice a3 l4 q5), (.int .i64 r_0.xAction), (.int .i64 r_0.xChain)] rfl ?_); intro b6
  refine o_as st rfl rfl ?_
  refine c_nil ?_
  refine l_then ?_
  refine c_seq ?_
  refine c_seq ?_
  refine c_region ?_
  refine o_fad st rfl rfl fld53_0 rfl ?_
  refine o_ldc st (v := (.slice a3 l4 q5)) 0 rfl rfl rfl ty51 rfl ?_
  refine stw (o_callP (vs := [(.slice a3 l4 q5)]) Tryd.call92 rfl rfl (by intro w m h; exact (w_impl_TestsValid (F := allB [] w) (list_0 := r_0.xTests) allB_ok (m.rd0 1 rfl (reads_snap hv1)) (m.rd0 1 rfl (reads_snap hgl0)) h).mono (fun _ _ k => ret_free (fun r u => fr_nil) k)) ?_); rintro r8 _
  refine o_not st rfl rfl ?_
  refine c_nil ?_
  refine l_then ?_
  refine c_cond rfl ?_ ?_
  · refine c_seq ?_
    refine c_region ?_
    refine o_as st rfl rfl ?_
    refine c_nil ?_
    refine l_then ?_
    refine c_ret ?_
    refine l_ret ?_
    exact l_end1 Tryd.results72 false () (rv_t rfl) (fun _ _ => NewCh.nil _ _ _ _)
  · refine c_skip ?_
    refine l_then ?_
    refine c_seq ?_
    refine c_seq ?_
    refine c_region ?_
    refine o_fad st rfl rfl fld53_1 rfl ?_
    refine o_ldc st (v := (.int .i64 r_0.xAction)) 0 rfl rfl rfl ty3 rfl ?_
    refine c_nil ?_
    refine l_then ?_
    refine c_block ?_
    refine c_seq ?_
    refine c_region ?_
    refine o_eql st und3 rfl rfl rfl ?_
    refine o_as st rfl rfl ?_
    refine c_nil ?_
    refine l_then ?_
    refine c_cond rfl ?_ ?_
    · refine c_join (σ := Bool) (fun (t69 : Bool) (a : Act) (w : World) => Has 27 [(2, (.bool t69))] a ∧ Mem (gB F [] w0) (feet []) w0 [snapCh w0 F] w) ?_ ?_
      · intro k70
        refine c_region ?_
        refine o_fad st rfl rfl fld53_2 rfl ?_
        refine o_ldc st (v := (.int .i64 r_0.xChain)) 0 rfl rfl rfl ty3 rfl ?_
        refine o_geq st rfl rfl rfl ?_
        refine o_mv st rfl rfl ?_
        refine st_sp (dj := 14) rfl ?_ ?_
        · refine o_fad (st_g rfl rfl) rfl rfl fld53_2 rfl ?_
          refine o_ldc (st_g rfl rfl) (v := (.int .i64 r_0.xChain)) 0 rfl rfl rfl ty3 rfl ?_
          refine o_lss (st_g rfl rfl) rfl rfl rfl ?_
          refine o_pickT st rfl rfl rfl ?_
          refine o_as st rfl rfl ?_
          refine c_nil ?_
          exact l_join (decide (r_0.xChain < 5)) (fun a w hE hm => ⟨hE.sub ⟨rfl, trivial⟩, (hm.pick [1] rfl)⟩)
        · refine st_s rfl rfl rfl rfl ?_
          refine st_s rfl rfl rfl rfl ?_
          refine st_s rfl rfl rfl rfl ?_
          refine o_pickF st rfl rfl rfl ?_
          refine o_as st rfl rfl ?_
          refine c_nil ?_
          exact l_join false (fun a w hE hm => ⟨hE.sub ⟨rfl, trivial⟩, (hm.pick [1] rfl)⟩)
      · rintro t69 a w ⟨hE, hm⟩ h
        refine nx_of hE hm h ?_
        clear hE hm h
        refine c_ret ?_
        refine b_ret ?_
        refine l_ret ?_
        exact l_end1 Tryd.results72 t69 () (rv_t rfl) (fun _ _ => NewCh.nil _ _ _ _)
    · refine c_join (σ := Bool) (fun (t131 : Bool) (a : Act) (w : World) => Has 27 [(1, (.pointer (some ⟨b6, 0, none⟩))), (19, (.bool t131))] a ∧ Mem (gB F [] w0) (feet []) w0 [cellCh b6 [(.slice a3 l4 q5), (.int .i64 r_0.xAction), (.int .i64 r_0.xChain)] 53, snapCh w0 F] w) ?_ ?_
      · intro k132
        refine c_seq ?_
        refine c_region ?_
        refine o_eql st und3 rfl rfl rfl ?_
        refine o_as st rfl rfl ?_
        refine c_nil ?_
        refine l_then ?_
        refine c_cond rfl ?_ ?_
        · refine c_skip ?_
          exact l_join (decide (r_0.xAction = 1)) (fun a w hE hm => ⟨hE.sub ⟨rfl, rfl, trivial⟩, (hm.pick [0, 1] rfl)⟩)
        · refine c_seq ?_
          refine c_region ?_
          refine o_eql st und3 rfl rfl rfl ?_
          refine o_as st rfl rfl ?_
          refine c_nil ?_
          refine l_then ?_
          refine c_cond rfl ?_ ?_
          · refine c_skip ?_
            exact l_join (decide (r_0.xAction = 2)) (fun a w hE hm => ⟨hE.sub ⟨rfl, rfl, trivial⟩, (hm.pick [0, 1] rfl)⟩)
          · refine c_seq ?_
            refine c_region ?_
            refine o_eql st und3 rfl rfl rfl ?_
            refine o_as st rfl rfl ?_
            refine c_nil ?_
            refine l_then ?_
            refine c_cond rfl ?_ ?_
            · refine c_skip ?_
              exact l_join (decide (r_0.xAction = 4)) (fun a w hE hm => ⟨hE.sub ⟨rfl, rfl, trivial⟩, (hm.pick [0, 1] rfl)⟩)
            · refine c_region ?_
              refine o_eql st und3 rfl rfl rfl ?_
              refine o_as st rfl rfl ?_
              refine c_nil ?_
              exact l_join (decide (r_0.xAction = 5)) (fun a w hE hm => ⟨hE.sub ⟨rfl, rfl, trivial⟩, (hm.pick [0, 1] rfl)⟩)
      · rintro t131 a w ⟨hE, hm⟩ h
        refine nx_of hE hm h ?_
        clear hE hm h
        refine c_cond rfl ?_ ?_
        · refine c_seq ?_
          refine c_region ?_
          refine o_fad st rfl rfl fld53_2 rfl ?_
          refine o_ldc st (v := (.int .i64 r_0.xChain)) 0 rfl rfl rfl ty3 rfl ?_
          refine o_eql st und3 rfl rfl rfl ?_
          refine o_as st rfl rfl ?_
          refine c_nil ?_
          refine l_then ?_
          refine c_ret ?_
          refine b_ret ?_
          refine l_ret ?_
          exact l_end1 Tryd.results72 (decide (r_0.xChain = 0)) () (rv_t rfl) (fun _ _ => NewCh.nil _ _ _ _)
        · refine c_skip ?_
          refine b_norm ?_
          refine l_then ?_
          refine c_seq ?_
          refine c_region ?_
          refine o_as st rfl rfl ?_
          refine c_nil ?_
          refine l_then ?_
          refine c_ret ?_
          exact l_end1 Tryd.results72 false () (rv_t rfl) (fun _ _ => NewCh.nil _ _ _ _)

set_option maxRecDepth 100000 in
set_option maxHeartbeats 8000000 in
theorem w_impl_actionOf {w0 : World} {F : Nat → Prop} {v1 : Value} {r_0 : GRule} {κ : IAction → Prop} (hF : ∀ b, F b → b < w0.heap.size ∧ ¬ feet [] b) (hv1 : Sl elGTest F w0 v1 r_0.xTests) (h : L_impl_actionOf r_0 κ) :
    Calls Tryd.prog 93 #[(.agg #[v1, (.int .i64 r_0.xAction), (.int .i64 r_0.xChain)])] w0 (Ret [] F w0 κ (fun (r : IAction) (u : Unit) => (ivIAction r)) (fun (r : IAction) (u : Unit) => [])) := by
  refine enterS (args := [(.agg #[v1, (.int .i64 r_0.xAction), (.int .i64 r_0.xChain)])]) [] hF (Given.nil _ _) Tryd.func93 rfl Tryd.ntmps93 rfl h ?_
  clear h hF
  refine c_seq ?_
  refine c_region ?_
  obtain ⟨a3, l4, q5, hs_⟩ := sl_val hv1; subst hs_
  refine stw (o_box rfl rfl [(.slice a3 l4 q5), (.int .i64 r_0.xAction), (.int .i64 r_0.xChain)] rfl ?_); intro b6
  refine o_as st rfl rfl ?_
  refine c_nil ?_
  refine l_then ?_
  refine c_seq ?_
  refine c_seq ?_
  refine c_region ?_
  refine o_fad st rfl rfl fld53_1 rfl ?_
  refine o_ldc st (v := (.int .i64 r_0.xAction)) 0 rfl rfl rfl ty3 rfl ?_
  refine c_nil ?_
  refine l_then ?_
  refine c_block ?_
  refine c_seq ?_
  refine c_region ?_
  refine o_eql st und3 rfl rfl rfl ?_
  refine o_as st rfl rfl ?_
  refine c_nil ?_
  refine l_then ?_
  refine c_cond rfl ?_ ?_
  · refine c_seq ?_
    refine c_region ?_
    refine o_bld st (qs := [(0, (.bool true))]) (cells := [(.bool true)]) (by intro ρ h; simp only [List.map_toArray, List.map_cons, List.map_nil, h (.const (.bool true)) _ rfl]) rfl bld123 rfl ?_
    refine o_mki st (u := (ivIAction (IAction.kDeciding (GDeciding.mk true)))) mki123 rfl rfl rfl ?_
    refine o_as st rfl rfl ?_
    refine c_nil ?_
    refine l_then ?_
    refine c_ret ?_
    refine b_ret ?_
    refine l_ret ?_
    exact l_end1 Tryd.results93 (IAction.kDeciding (GDeciding.mk true)) () (rv_t rfl) (fun _ _ => NewCh.nil _ _ _ _)
  · refine c_seq ?_
    refine c_region ?_
    refine o_eql st und3 rfl rfl rfl ?_
    refine o_as st rfl rfl ?_
    refine c_nil ?_
    refine l_then ?_
    refine c_cond rfl ?_ ?_
    · refine c_seq ?_
      refine c_region ?_
      refine o_bld st (qs := [(0, (.bool false))]) (cells := [(.bool false)]) (by intro ρ h; simp only [List.map_toArray, List.map_cons, List.map_nil, h (.const (.bool false)) _ rfl]) rfl bld123 rfl ?_
      refine o_mki st (u := (ivIAction (IAction.kDeciding (GDeciding.mk false)))) mki123 rfl rfl rfl ?_
      refine o_as st rfl rfl ?_
      refine c_nil ?_
      refine l_then ?_
      refine c_ret ?_
      refine b_ret ?_
      refine l_ret ?_
      exact l_end1 Tryd.results93 (IAction.kDeciding (GDeciding.mk false)) () (rv_t rfl) (fun _ _ => NewCh.nil _ _ _ _)
    · refine c_seq ?_
      refine c_region ?_
      refine o_eql st und3 rfl rfl rfl ?_
      refine o_as st rfl rfl ?_
      refine c_nil ?_
      refine l_then ?_
      refine c_cond rfl ?_ ?_
      · refine c_seq ?_
        refine c_region ?_
        refine o_fad st rfl rfl fld53_2 rfl ?_
        refine o_ldc st (v := (.int .i64 r_0.xChain)) 0 rfl rfl rfl ty3 rfl ?_
        refine o_bld st (qs := [(0, (.int .i64 r_0.xChain))]) (cells := [(.int .i64 r_0.xChain)]) (by intro ρ h; simp only [List.map_toArray, List.map_cons, List.map_nil, h (.tmp 16) _ rfl]) rfl bld125 rfl ?_
        refine o_mki st (u := (ivIAction (IAction.kCalling (GCalling.mk r_0.xChain)))) mki125 rfl rfl rfl ?_
        refine o_as st rfl rfl ?_
        refine c_nil ?_
        refine l_then ?_
        refine c_ret ?_
        refine b_ret ?_
        refine l_ret ?_
        exact l_end1 Tryd.results93 (IAction.kCalling (GCalling.mk r_0.xChain)) () (rv_t rfl) (fun _ _ => NewCh.nil _ _ _ _)
      · refine c_seq ?_
        refine c_region ?_
        refine o_eql st und3 rfl rfl rfl ?_
        refine o_as st rfl rfl ?_
        refine c_nil ?_
        refine l_then ?_
        refine c_cond rfl ?_ ?_
        · refine c_seq ?_
          refine c_region ?_
          refine o_bld st (qs := []) (cells := []) (by intro ρ h; simp only [List.map_toArray, List.map_cons, List.map_nil]) rfl bld127 rfl ?_
          refine o_mki st (u := (ivIAction (IAction.kReturning (GReturning.mk )))) mki127 rfl rfl rfl ?_
          refine o_as st rfl rfl ?_
          refine c_nil ?_
          refine l_then ?_
          refine c_ret ?_
          refine b_ret ?_
          refine l_ret ?_
          exact l_end1 Tryd.results93 (IAction.kReturning (GReturning.mk )) () (rv_t rfl) (fun _ _ => NewCh.nil _ _ _ _)
        · refine c_skip ?_
          refine b_norm ?_
          refine l_then ?_
          refine c_seq ?_
          refine c_region ?_
          refine o_bld st (qs := []) (cells := []) (by intro ρ h; simp only [List.map_toArray, List.map_cons, List.map_nil]) rfl bld128 rfl ?_
          refine o_mki st (u := (ivIAction (IAction.kPassing (GPassing.mk )))) mki128 rfl rfl rfl ?_
          refine o_as st rfl rfl ?_
          refine c_nil ?_
          refine l_then ?_
          refine c_ret ?_
          exact l_end1 Tryd.results93 (IAction.kPassing (GPassing.mk )) () (rv_t rfl) (fun _ _ => NewCh.nil _ _ _ _)

set_option maxRecDepth 100000 in
set_option maxHeartbeats 8000000 in
theorem w_impl_deciding_word {w0 : World} {F : Nat → Prop} {d_0 : GDeciding} {κ : ByteArray → Prop} (hF : ∀ b, F b → b < w0.heap.size ∧ ¬ feet [] b) (h : L_impl_deciding_word d_0 κ) :
    Calls Tryd.prog 130 #[(.agg #[(.bool d_0.xAccept)])] w0 (Ret [] F w0 κ (fun (r : ByteArray) (u : Unit) => (.string r)) (fun (r : ByteArray) (u : Unit) => [])) := by
  refine enter0 (args := [(.agg #[(.bool d_0.xAccept)])]) [] hF (Given.nil _ _) Tryd.func130 rfl Tryd.ntmps130 rfl h ?_
  clear h hF
  refine c_seq ?_
  refine c_region ?_
  refine stw (o_box rfl rfl [(.bool d_0.xAccept)] rfl ?_); intro b1
  refine o_as st rfl rfl ?_
  refine c_nil ?_
  refine l_then ?_
  refine c_seq ?_
  refine c_seq ?_
  refine c_region ?_
  refine o_fad st rfl rfl fld123_0 rfl ?_
  refine o_ldc st (v := (.bool d_0.xAccept)) 0 rfl rfl rfl ty4 rfl ?_
  refine c_nil ?_
  refine l_then ?_
  refine c_cond rfl ?_ ?_
  · refine c_seq ?_
    refine c_region ?_
    refine o_as st rfl rfl ?_
    refine c_nil ?_
    refine l_then ?_
    refine c_ret ?_
    refine l_ret ?_
    exact l_end1 Tryd.results130 (ByteArray.mk #[97, 99, 99, 101, 112, 116]) () (rv_t rfl) (fun _ _ => NewCh.nil _ _ _ _)
  · refine c_skip ?_
    refine l_then ?_
    refine c_seq ?_
    refine c_region ?_
    refine o_as st rfl rfl ?_
    refine c_nil ?_
    refine l_then ?_
    refine c_ret ?_
    exact l_end1 Tryd.results130 (ByteArray.mk #[100, 114, 111, 112]) () (rv_t rfl) (fun _ _ => NewCh.nil _ _ _ _)

set_option maxRecDepth 100000 in
set_option maxHeartbeats 8000000 in
theorem w_impl_calling_word {w0 : World} {F : Nat → Prop} {a_0 : GCalling} {κ : ByteArray → Prop} (hF : ∀ b, F b → b < w0.heap.size ∧ ¬ feet [] b) (h : L_impl_calling_word a_0 κ) :
    Calls Tryd.prog 133 #[(.agg #[(.int .i64 a_0.xChain)])] w0 (Ret [] F w0 κ (fun (r : ByteArray) (u : Unit) => (.string r)) (fun (r : ByteArray) (u : Unit) => [])) := by
  refine enter0 (args := [(.agg #[(.int .i64 a_0.xChain)])]) [] hF (Given.nil _ _) Tryd.func133 rfl Tryd.ntmps133 rfl h ?_
  clear h hF
  refine c_seq ?_
  refine c_region ?_
  refine stw (o_box rfl rfl [(.int .i64 a_0.xChain)] rfl ?_); intro b1
  refine o_as st rfl rfl ?_
  refine c_nil ?_
  refine l_then ?_
  refine c_seq ?_
  refine c_region ?_
  refine o_as st rfl rfl ?_
  refine c_nil ?_
  refine l_then ?_
  refine c_ret ?_
  exact l_end1 Tryd.results133 (ByteArray.mk #[99, 97, 108, 108]) () (rv_t rfl) (fun _ _ => NewCh.nil _ _ _ _)

set_option maxRecDepth 100000 in
set_option maxHeartbeats 8000000 in
theorem w_impl_returning_word {w0 : World} {F : Nat → Prop} {a_0 : GReturning} {κ : ByteArray → Prop} (hF : ∀ b, F b → b < w0.heap.size ∧ ¬ feet [] b) (h : L_impl_returning_word a_0 κ) :
    Calls Tryd.prog 136 #[(.agg #[])] w0 (Ret [] F w0 κ (fun (r : ByteArray) (u : Unit) => (.string r)) (fun (r : ByteArray) (u : Unit) => [])) := by
  refine enter0 (args := [(.agg #[])]) [] hF (Given.nil _ _) Tryd.func136 rfl Tryd.ntmps136 rfl h ?_
  clear h hF
  refine c_seq ?_
  refine c_region ?_
  refine stw (o_box rfl rfl [] rfl ?_); intro b1
  refine o_as st rfl rfl ?_
  refine c_nil ?_
  refine l_then ?_
  refine c_seq ?_
  refine c_region ?_
  refine o_as st rfl rfl ?_
  refine c_nil ?_
  refine l_then ?_
  refine c_ret ?_
  exact l_end1 Tryd.results136 (ByteArray.mk #[114, 101, 116, 117, 114, 110]) () (rv_t rfl) (fun _ _ => NewCh.nil _ _ _ _)

set_option maxRecDepth 100000 in
set_option maxHeartbeats 8000000 in
theorem w_impl_passing_word {w0 : World} {F : Nat → Prop} {a_0 : GPassing} {κ : ByteArray → Prop} (hF : ∀ b, F b → b < w0.heap.size ∧ ¬ feet [] b) (h : L_impl_passing_word a_0 κ) :
    Calls Tryd.prog 139 #[(.agg #[])] w0 (Ret [] F w0 κ (fun (r : ByteArray) (u : Unit) => (.string r)) (fun (r : ByteArray) (u : Unit) => [])) := by
  refine enter0 (args := [(.agg #[])]) [] hF (Given.nil _ _) Tryd.func139 rfl Tryd.ntmps139 rfl h ?_
  clear h hF
  refine c_seq ?_
  refine c_region ?_
  refine stw (o_box rfl rfl [] rfl ?_); intro b1
  refine o_as st rfl rfl ?_
  refine c_nil ?_
  refine l_then ?_
  refine c_seq ?_
  refine c_region ?_
  refine o_as st rfl rfl ?_
  refine c_nil ?_
  refine l_then ?_
  refine c_ret ?_
  exact l_end1 Tryd.results139 (ByteArray.mk #[110, 111, 110, 101]) () (rv_t rfl) (fun _ _ => NewCh.nil _ _ _ _)

set_option maxRecDepth 100000 in
set_option maxHeartbeats 8000000 in
theorem w_impl_Rule_text {w0 : World} {F : Nat → Prop} {v1 : Value} {r_0 : GRule} {κ : ByteArray → Prop} (hF : ∀ b, F b → b < w0.heap.size ∧ ¬ feet [] b) (hv1 : Sl elGTest F w0 v1 r_0.xTests) (hgl0 : Sl elGFieldShape F w0 (.slice (some ⟨0, 0, none⟩) 4 4) gl_impl_fieldShapes) (hgl1 : Tb F w0) (h : L_impl_Rule_text r_0 κ) :
    Calls Tryd.prog 73 #[(.agg #[v1, (.int .i64 r_0.xAction), (.int .i64 r_0.xChain)])] w0 (Ret [] F w0 κ (fun (r : ByteArray) (u : Unit) => (.string r)) (fun (r : ByteArray) (u : Unit) => [])) := by
  refine enterS (args := [(.agg #[v1, (.int .i64 r_0.xAction), (.int .i64 r_0.xChain)])]) [] hF (Given.nil _ _) Tryd.func73 rfl Tryd.ntmps73 rfl h ?_
  clear h hF
  refine c_seq ?_
  refine c_region ?_
  obtain ⟨a3, l4, q5, hs_⟩ := sl_val hv1; subst hs_
  refine stw (o_box rfl rfl [(.slice a3 l4 q5), (.int .i64 r_0.xAction), (.int .i64 r_0.xChain)] rfl ?_); intro b6
  refine o_as st rfl rfl ?_
  refine c_nil ?_
  refine l_then ?_
  refine c_seq ?_
  refine c_region ?_
  refine o_ldc st (v := (.agg #[(.slice a3 l4 q5), (.int .i64 r_0.xAction), (.int .i64 r_0.xChain)])) 0 rfl rfl rfl ty53 rfl ?_
  refine stw (o_callP (vs := [(.agg #[(.slice a3 l4 q5), (.int .i64 r_0.xAction), (.int .i64 r_0.xChain)])]) Tryd.call93 rfl rfl (by intro w m h; exact (w_impl_actionOf (F := allB [] w) (r_0 := r_0) allB_ok (m.rd0 1 rfl (reads_snap hv1)) h).mono (fun _ _ k => ret_free (fun r u => fr_nil) k)) ?_); rintro r8 _
  rcases r8 with x9 | x10 | x11 | x12
  · dsimp only [IAction.casesW]
    refine stw (o_callXP rfl (runs_inv rfl rfl (fun w => meth123_word _ w) Tryd.call130) rfl (by intro w m h; exact (w_impl_deciding_word (F := allB [] w) (d_0 := x9) allB_ok h).mono (fun _ _ k => ret_free (fun r u => fr_nil) k)) ?_); rintro r13 _
    refine o_as st rfl rfl ?_
    refine c_nil ?_
    refine l_then ?_
    refine c_join (σ := ByteArray) (fun (t77 : ByteArray) (a : Act) (w : World) => Has 32 [(1, (.pointer (some ⟨b6, 0, none⟩))), (3, (.string t77))] a ∧ Mem (gB F [] w0) (feet []) w0 [cellCh b6 [(.slice a3 l4 q5), (.int .i64 r_0.xAction), (.int .i64 r_0.xChain)] 53, snapCh w0 F] w) ?_ ?_
    · intro k78
      refine c_seq ?_
      refine c_region ?_
      refine o_fad st rfl rfl fld53_1 rfl ?_
      refine o_ldc st (v := (.int .i64 r_0.xAction)) 0 rfl rfl rfl ty3 rfl ?_
      refine o_eql st und3 rfl rfl rfl ?_
      refine c_nil ?_
      refine l_then ?_
      refine c_cond rfl ?_ ?_
      · refine c_region ?_
        refine o_mv st rfl rfl ?_
        refine o_fad st rfl rfl fld53_2 rfl ?_
        refine o_ldc st (v := (.int .i64 r_0.xChain)) 0 rfl rfl rfl ty3 rfl ?_
        refine stw (o_callP (vs := [(.int .i64 r_0.xChain)]) Tryd.call61 rfl rfl (by intro w m h; exact w_lib_Itoa (n_0 := r_0.xChain) (hgl1.of (m.get (i := 1) rfl)) h) ?_); rintro r14 _
        refine o_cat st rfl rfl rfl ?_; intro s15
        refine o_cat st rfl rfl rfl ?_; intro s16
        refine o_as st rfl rfl ?_
        refine c_nil ?_
        exact l_join s16 (fun a w hE hm => ⟨hE.sub ⟨rfl, rfl, trivial⟩, (hm.pick [0, 1] rfl)⟩)
      · refine c_skip ?_
        exact l_join r13 (fun a w hE hm => ⟨hE.sub ⟨rfl, rfl, trivial⟩, (hm.pick [0, 1] rfl)⟩)
    · rintro t77 a w ⟨hE, hm⟩ h
      refine nx_of hE hm h ?_
      clear hE hm h
      refine c_seq ?_
      refine c_seq ?_
      refine c_region ?_
      refine o_fad st rfl rfl fld53_0 rfl ?_
      refine o_ldc st (v := (.slice a3 l4 q5)) 0 rfl rfl rfl ty51 rfl ?_
      refine o_len st el51 1 rfl (reads_snap hv1) rfl rfl ?_
      refine o_mv st rfl rfl ?_
      refine c_nil ?_
      refine l_then ?_
      refine c_block ?_
      refine c_loop (σ := (ByteArray × Int)) (fun ((t79, t80) : (ByteArray × Int)) (a : Act) (w : World) => Has 32 [(3, (.string t79)), (19, (.slice a3 l4 q5)), (20, (.int .i64 (r_0.xTests.length : Int))), (21, (.int .i64 t80))] a ∧ Mem (gB F [] w0) (feet []) w0 [snapCh w0 F] w) (fun a w hE hm => ⟨hE.sub ⟨rfl, rfl, rfl, rfl, trivial⟩, (hm.pick [1] rfl)⟩) ?_
      rintro nx81 ⟨t79, t80⟩ a w ⟨hE, hm⟩ h
      refine nx_of hE hm h ?_
      clear hE hm h
      refine c_seq ?_
      refine c_region ?_
      refine o_lss st rfl rfl rfl ?_
      refine c_nil ?_
      refine l_then ?_
      refine c_seq ?_
      refine c_cond rfl ?_ ?_
      · refine c_skip ?_
        refine l_then ?_
        refine c_seq ?_
        refine c_block ?_
        refine c_seq ?_
        refine c_region ?_
        refine o_idx st 0 rfl (reads_snap hv1) rfl rfl rfl el51 ?_; intro e82 h83
        refine o_lds st (enc := encGTest) (u := (.agg #[(.int .i64 e82.xField), (.int .i64 e82.xLo), (.int .i64 e82.xHi), (.bool e82.xNot)])) 0 rfl (reads_snap hv1) flelGTest rfl h83 rfl rfl ty25 rfl ?_
        refine stw (o_alloc rfl [(.int .i64 0), (.int .i64 0), (.int .i64 0), (.bool false)] zero25 ?_); intro b84
        refine stw (o_stc (cs' := [(.int .i64 e82.xField), (.int .i64 e82.xLo), (.int .i64 e82.xHi), (.bool e82.xNot)]) 0 rfl rfl rfl ty25 rfl rfl rfl rfl ?_)
        refine c_nil ?_
        refine l_then ?_
        refine c_region ?_
        refine o_mv st rfl rfl ?_
        refine o_ldc st (v := (.agg #[(.int .i64 e82.xField), (.int .i64 e82.xLo), (.int .i64 e82.xHi), (.bool e82.xNot)])) 0 rfl rfl rfl ty25 rfl ?_
        refine stw (o_callP (vs := [(.agg #[(.int .i64 e82.xField), (.int .i64 e82.xLo), (.int .i64 e82.xHi), (.bool e82.xNot)])]) Tryd.call53 rfl rfl (by intro w m h; exact (w_impl_Test_text (F := allB [] w) (t_0 := e82) allB_ok (m.rd0 1 rfl (reads_snap hgl0)) ((hgl1.of (m.get (i := 1) rfl)).mono fz_ok0) h).mono (fun _ _ k => ret_free (fun r u => fr_nil) k)) ?_); rintro r86 _
        refine o_cat st rfl rfl rfl ?_; intro s87
        refine o_cat st rfl rfl rfl ?_; intro s88
        refine o_as st rfl rfl ?_
        refine c_nil ?_
        refine b_norm ?_
        refine l_then ?_
        refine c_region ?_
        refine o_add st rfl rfl rfl ?_; intro t89
        refine o_mv st rfl rfl ?_
        refine c_nil ?_
        exact l_join (s88, t89) (fun a w hE hm => ⟨hE.sub ⟨rfl, rfl, rfl, rfl, trivial⟩, (hm.pick [1] rfl)⟩)
      · refine c_exit ?_
        refine l_exit ?_
        refine l_exit ?_
        refine b_exit ?_
        refine l_then ?_
        refine c_seq ?_
        refine c_region ?_
        refine o_mv st rfl rfl ?_
        refine o_as st rfl rfl ?_
        refine c_nil ?_
        refine l_then ?_
        refine c_ret ?_
        exact l_end1 Tryd.results73 t79 () (rv_t rfl) (fun _ _ => NewCh.nil _ _ _ _)
  · dsimp only [IAction.casesW]
    refine stw (o_callXP rfl (runs_inv rfl rfl (fun w => meth125_word _ w) Tryd.call133) rfl (by intro w m h; exact (w_impl_calling_word (F := allB [] w) (a_0 := x10) allB_ok h).mono (fun _ _ k => ret_free (fun r u => fr_nil) k)) ?_); rintro r90 _
    refine o_as st rfl rfl ?_
    refine c_nil ?_
    refine l_then ?_
    refine c_join (σ := ByteArray) (fun (t154 : ByteArray) (a : Act) (w : World) => Has 32 [(1, (.pointer (some ⟨b6, 0, none⟩))), (3, (.string t154))] a ∧ Mem (gB F [] w0) (feet []) w0 [cellCh b6 [(.slice a3 l4 q5), (.int .i64 r_0.xAction), (.int .i64 r_0.xChain)] 53, snapCh w0 F] w) ?_ ?_
    · intro k155
      refine c_seq ?_
      refine c_region ?_
      refine o_fad st rfl rfl fld53_1 rfl ?_
      refine o_ldc st (v := (.int .i64 r_0.xAction)) 0 rfl rfl rfl ty3 rfl ?_
      refine o_eql st und3 rfl rfl rfl ?_
      refine c_nil ?_
      refine l_then ?_
      refine c_cond rfl ?_ ?_
      · refine c_region ?_
        refine o_mv st rfl rfl ?_
        refine o_fad st rfl rfl fld53_2 rfl ?_
        refine o_ldc st (v := (.int .i64 r_0.xChain)) 0 rfl rfl rfl ty3 rfl ?_
        refine stw (o_callP (vs := [(.int .i64 r_0.xChain)]) Tryd.call61 rfl rfl (by intro w m h; exact w_lib_Itoa (n_0 := r_0.xChain) (hgl1.of (m.get (i := 1) rfl)) h) ?_); rintro r91 _
        refine o_cat st rfl rfl rfl ?_; intro s92
        refine o_cat st rfl rfl rfl ?_; intro s93
        refine o_as st rfl rfl ?_
        refine c_nil ?_
        exact l_join s93 (fun a w hE hm => ⟨hE.sub ⟨rfl, rfl, trivial⟩, (hm.pick [0, 1] rfl)⟩)
      · refine c_skip ?_
        exact l_join r90 (fun a w hE hm => ⟨hE.sub ⟨rfl, rfl, trivial⟩, (hm.pick [0, 1] rfl)⟩)
    · rintro t154 a w ⟨hE, hm⟩ h
      refine nx_of hE hm h ?_
      clear hE hm h
      refine c_seq ?_
      refine c_seq ?_
      refine c_region ?_
      refine o_fad st rfl rfl fld53_0 rfl ?_
      refine o_ldc st (v := (.slice a3 l4 q5)) 0 rfl rfl rfl ty51 rfl ?_
      refine o_len st el51 1 rfl (reads_snap hv1) rfl rfl ?_
      refine o_mv st rfl rfl ?_
      refine c_nil ?_
      refine l_then ?_
      refine c_block ?_
      refine c_loop (σ := (ByteArray × Int)) (fun ((t156, t157) : (ByteArray × Int)) (a : Act) (w : World) => Has 32 [(3, (.string t156)), (19, (.slice a3 l4 q5)), (20, (.int .i64 (r_0.xTests.length : Int))), (21, (.int .i64 t157))] a ∧ Mem (gB F [] w0) (feet []) w0 [snapCh w0 F] w) (fun a w hE hm => ⟨hE.sub ⟨rfl, rfl, rfl, rfl, trivial⟩, (hm.pick [1] rfl)⟩) ?_
      rintro nx158 ⟨t156, t157⟩ a w ⟨hE, hm⟩ h
      refine nx_of hE hm h ?_
      clear hE hm h
      refine c_seq ?_
      refine c_region ?_
      refine o_lss st rfl rfl rfl ?_
      refine c_nil ?_
      refine l_then ?_
      refine c_seq ?_
      refine c_cond rfl ?_ ?_
      · refine c_skip ?_
        refine l_then ?_
        refine c_seq ?_
        refine c_block ?_
        refine c_seq ?_
        refine c_region ?_
        refine o_idx st 0 rfl (reads_snap hv1) rfl rfl rfl el51 ?_; intro e159 h160
        refine o_lds st (enc := encGTest) (u := (.agg #[(.int .i64 e159.xField), (.int .i64 e159.xLo), (.int .i64 e159.xHi), (.bool e159.xNot)])) 0 rfl (reads_snap hv1) flelGTest rfl h160 rfl rfl ty25 rfl ?_
        refine stw (o_alloc rfl [(.int .i64 0), (.int .i64 0), (.int .i64 0), (.bool false)] zero25 ?_); intro b161
        refine stw (o_stc (cs' := [(.int .i64 e159.xField), (.int .i64 e159.xLo), (.int .i64 e159.xHi), (.bool e159.xNot)]) 0 rfl rfl rfl ty25 rfl rfl rfl rfl ?_)
        refine c_nil ?_
        refine l_then ?_
        refine c_region ?_
        refine o_mv st rfl rfl ?_
        refine o_ldc st (v := (.agg #[(.int .i64 e159.xField), (.int .i64 e159.xLo), (.int .i64 e159.xHi), (.bool e159.xNot)])) 0 rfl rfl rfl ty25 rfl ?_
        refine stw (o_callP (vs := [(.agg #[(.int .i64 e159.xField), (.int .i64 e159.xLo), (.int .i64 e159.xHi), (.bool e159.xNot)])]) Tryd.call53 rfl rfl (by intro w m h; exact (w_impl_Test_text (F := allB [] w) (t_0 := e159) allB_ok (m.rd0 1 rfl (reads_snap hgl0)) ((hgl1.of (m.get (i := 1) rfl)).mono fz_ok0) h).mono (fun _ _ k => ret_free (fun r u => fr_nil) k)) ?_); rintro r163 _
        refine o_cat st rfl rfl rfl ?_; intro s164
        refine o_cat st rfl rfl rfl ?_; intro s165
        refine o_as st rfl rfl ?_
        refine c_nil ?_
        refine b_norm ?_
        refine l_then ?_
        refine c_region ?_
        refine o_add st rfl rfl rfl ?_; intro t166
        refine o_mv st rfl rfl ?_
        refine c_nil ?_
        exact l_join (s165, t166) (fun a w hE hm => ⟨hE.sub ⟨rfl, rfl, rfl, rfl, trivial⟩, (hm.pick [1] rfl)⟩)
      · refine c_exit ?_
        refine l_exit ?_
        refine l_exit ?_
        refine b_exit ?_
        refine l_then ?_
        refine c_seq ?_
        refine c_region ?_
        refine o_mv st rfl rfl ?_
        refine o_as st rfl rfl ?_
        refine c_nil ?_
        refine l_then ?_
        refine c_ret ?_
        exact l_end1 Tryd.results73 t156 () (rv_t rfl) (fun _ _ => NewCh.nil _ _ _ _)
  · dsimp only [IAction.casesW]
    refine stw (o_callXP rfl (runs_inv rfl rfl (fun w => meth127_word _ w) Tryd.call136) rfl (by intro w m h; exact (w_impl_returning_word (F := allB [] w) (a_0 := (GReturning.mk )) allB_ok h).mono (fun _ _ k => ret_free (fun r u => fr_nil) k)) ?_); rintro r167 _
    refine o_as st rfl rfl ?_
    refine c_nil ?_
    refine l_then ?_
    refine c_join (σ := ByteArray) (fun (t231 : ByteArray) (a : Act) (w : World) => Has 32 [(1, (.pointer (some ⟨b6, 0, none⟩))), (3, (.string t231))] a ∧ Mem (gB F [] w0) (feet []) w0 [cellCh b6 [(.slice a3 l4 q5), (.int .i64 r_0.xAction), (.int .i64 r_0.xChain)] 53, snapCh w0 F] w) ?_ ?_
    · intro k232
      refine c_seq ?_
      refine c_region ?_
      refine o_fad st rfl rfl fld53_1 rfl ?_
      refine o_ldc st (v := (.int .i64 r_0.xAction)) 0 rfl rfl rfl ty3 rfl ?_
      refine o_eql st und3 rfl rfl rfl ?_
      refine c_nil ?_
      refine l_then ?_
      refine c_cond rfl ?_ ?_
      · refine c_region ?_
        refine o_mv st rfl rfl ?_
        refine o_fad st rfl rfl fld53_2 rfl ?_
        refine o_ldc st (v := (.int .i64 r_0.xChain)) 0 rfl rfl rfl ty3 rfl ?_
        refine stw (o_callP (vs := [(.int .i64 r_0.xChain)]) Tryd.call61 rfl rfl (by intro w m h; exact w_lib_Itoa (n_0 := r_0.xChain) (hgl1.of (m.get (i := 1) rfl)) h) ?_); rintro r168 _
        refine o_cat st rfl rfl rfl ?_; intro s169
        refine o_cat st rfl rfl rfl ?_; intro s170
        refine o_as st rfl rfl ?_
        refine c_nil ?_
        exact l_join s170 (fun a w hE hm => ⟨hE.sub ⟨rfl, rfl, trivial⟩, (hm.pick [0, 1] rfl)⟩)
      · refine c_skip ?_
        exact l_join r167 (fun a w hE hm => ⟨hE.sub ⟨rfl, rfl, trivial⟩, (hm.pick [0, 1] rfl)⟩)
    · rintro t231 a w ⟨hE, hm⟩ h
      refine nx_of hE hm h ?_
      clear hE hm h
      refine c_seq ?_
      refine c_seq ?_
      refine c_region ?_
      refine o_fad st rfl rfl fld53_0 rfl ?_
      refine o_ldc st (v := (.slice a3 l4 q5)) 0 rfl rfl rfl ty51 rfl ?_
      refine o_len st el51 1 rfl (reads_snap hv1) rfl rfl ?_
      refine o_mv st rfl rfl ?_
      refine c_nil ?_
      refine l_then ?_
      refine c_block ?_
      refine c_loop (σ := (ByteArray × Int)) (fun ((t233, t234) : (ByteArray × Int)) (a : Act) (w : World) => Has 32 [(3, (.string t233)), (19, (.slice a3 l4 q5)), (20, (.int .i64 (r_0.xTests.length : Int))), (21, (.int .i64 t234))] a ∧ Mem (gB F [] w0) (feet []) w0 [snapCh w0 F] w) (fun a w hE hm => ⟨hE.sub ⟨rfl, rfl, rfl, rfl, trivial⟩, (hm.pick [1] rfl)⟩) ?_
      rintro nx235 ⟨t233, t234⟩ a w ⟨hE, hm⟩ h
      refine nx_of hE hm h ?_
      clear hE hm h
      refine c_seq ?_
      refine c_region ?_
      refine o_lss st rfl rfl rfl ?_
      refine c_nil ?_
      refine l_then ?_
      refine c_seq ?_
      refine c_cond rfl ?_ ?_
      · refine c_skip ?_
        refine l_then ?_
        refine c_seq ?_
        refine c_block ?_
        refine c_seq ?_
        refine c_region ?_
        refine o_idx st 0 rfl (reads_snap hv1) rfl rfl rfl el51 ?_; intro e236 h237
        refine o_lds st (enc := encGTest) (u := (.agg #[(.int .i64 e236.xField), (.int .i64 e236.xLo), (.int .i64 e236.xHi), (.bool e236.xNot)])) 0 rfl (reads_snap hv1) flelGTest rfl h237 rfl rfl ty25 rfl ?_
        refine stw (o_alloc rfl [(.int .i64 0), (.int .i64 0), (.int .i64 0), (.bool false)] zero25 ?_); intro b238
        refine stw (o_stc (cs' := [(.int .i64 e236.xField), (.int .i64 e236.xLo), (.int .i64 e236.xHi), (.bool e236.xNot)]) 0 rfl rfl rfl ty25 rfl rfl rfl rfl ?_)
        refine c_nil ?_
        refine l_then ?_
        refine c_region ?_
        refine o_mv st rfl rfl ?_
        refine o_ldc st (v := (.agg #[(.int .i64 e236.xField), (.int .i64 e236.xLo), (.int .i64 e236.xHi), (.bool e236.xNot)])) 0 rfl rfl rfl ty25 rfl ?_
        refine stw (o_callP (vs := [(.agg #[(.int .i64 e236.xField), (.int .i64 e236.xLo), (.int .i64 e236.xHi), (.bool e236.xNot)])]) Tryd.call53 rfl rfl (by intro w m h; exact (w_impl_Test_text (F := allB [] w) (t_0 := e236) allB_ok (m.rd0 1 rfl (reads_snap hgl0)) ((hgl1.of (m.get (i := 1) rfl)).mono fz_ok0) h).mono (fun _ _ k => ret_free (fun r u => fr_nil) k)) ?_); rintro r240 _
        refine o_cat st rfl rfl rfl ?_; intro s241
        refine o_cat st rfl rfl rfl ?_; intro s242
        refine o_as st rfl rfl ?_
        refine c_nil ?_
        refine b_norm ?_
        refine l_then ?_
        refine c_region ?_
        refine o_add st rfl rfl rfl ?_; intro t243
        refine o_mv st rfl rfl ?_
        refine c_nil ?_
        exact l_join (s242, t243) (fun a w hE hm => ⟨hE.sub ⟨rfl, rfl, rfl, rfl, trivial⟩, (hm.pick [1] rfl)⟩)
      · refine c_exit ?_
        refine l_exit ?_
        refine l_exit ?_
        refine b_exit ?_
        refine l_then ?_
        refine c_seq ?_
        refine c_region ?_
        refine o_mv st rfl rfl ?_
        refine o_as st rfl rfl ?_
        refine c_nil ?_
        refine l_then ?_
        refine c_ret ?_
        exact l_end1 Tryd.results73 t233 () (rv_t rfl) (fun _ _ => NewCh.nil _ _ _ _)
  · dsimp only [IAction.casesW]
    refine stw (o_callXP rfl (runs_inv rfl rfl (fun w => meth128_word _ w) Tryd.call139) rfl (by intro w m h; exact (w_impl_passing_word (F := allB [] w) (a_0 := (GPassing.mk )) allB_ok h).mono (fun _ _ k => ret_free (fun r u => fr_nil) k)) ?_); rintro r244 _
    refine o_as st rfl rfl ?_
    refine c_nil ?_
    refine l_then ?_
    refine c_join (σ := ByteArray) (fun (t308 : ByteArray) (a : Act) (w : World) => Has 32 [(1, (.pointer (some ⟨b6, 0, none⟩))), (3, (.string t308))] a ∧ Mem (gB F [] w0) (feet []) w0 [cellCh b6 [(.slice a3 l4 q5), (.int .i64 r_0.xAction), (.int .i64 r_0.xChain)] 53, snapCh w0 F] w) ?_ ?_
    · intro k309
      refine c_seq ?_
      refine c_region ?_
      refine o_fad st rfl rfl fld53_1 rfl ?_
      refine o_ldc st (v := (.int .i64 r_0.xAction)) 0 rfl rfl rfl ty3 rfl ?_
      refine o_eql st und3 rfl rfl rfl ?_
      refine c_nil ?_
      refine l_then ?_
      refine c_cond rfl ?_ ?_
      · refine c_region ?_
        refine o_mv st rfl rfl ?_
        refine o_fad st rfl rfl fld53_2 rfl ?_
        refine o_ldc st (v := (.int .i64 r_0.xChain)) 0 rfl rfl rfl ty3 rfl ?_
        refine stw (o_callP (vs := [(.int .i64 r_0.xChain)]) Tryd.call61 rfl rfl (by intro w m h; exact w_lib_Itoa (n_0 := r_0.xChain) (hgl1.of (m.get (i := 1) rfl)) h) ?_); rintro r245 _
        refine o_cat st rfl rfl rfl ?_; intro s246
        refine o_cat st rfl rfl rfl ?_; intro s247
        refine o_as st rfl rfl ?_
        refine c_nil ?_
        exact l_join s247 (fun a w hE hm => ⟨hE.sub ⟨rfl, rfl, trivial⟩, (hm.pick [0, 1] rfl)⟩)
      · refine c_skip ?_
        exact l_join r244 (fun a w hE hm => ⟨hE.sub ⟨rfl, rfl, trivial⟩, (hm.pick [0, 1] rfl)⟩)
    · rintro t308 a w ⟨hE, hm⟩ h
      refine nx_of hE hm h ?_
      clear hE hm h
      refine c_seq ?_
      refine c_seq ?_
      refine c_region ?_
      refine o_fad st rfl rfl fld53_0 rfl ?_
      refine o_ldc st (v := (.slice a3 l4 q5)) 0 rfl rfl rfl ty51 rfl ?_
      refine o_len st el51 1 rfl (reads_snap hv1) rfl rfl ?_
      refine o_mv st rfl rfl ?_
      refine c_nil ?_
      refine l_then ?_
      refine c_block ?_
      refine c_loop (σ := (ByteArray × Int)) (fun ((t310, t311) : (ByteArray × Int)) (a : Act) (w : World) => Has 32 [(3, (.string t310)), (19, (.slice a3 l4 q5)), (20, (.int .i64 (r_0.xTests.length : Int))), (21, (.int .i64 t311))] a ∧ Mem (gB F [] w0) (feet []) w0 [snapCh w0 F] w) (fun a w hE hm => ⟨hE.sub ⟨rfl, rfl, rfl, rfl, trivial⟩, (hm.pick [1] rfl)⟩) ?_
      rintro nx312 ⟨t310, t311⟩ a w ⟨hE, hm⟩ h
      refine nx_of hE hm h ?_
      clear hE hm h
      refine c_seq ?_
      refine c_region ?_
      refine o_lss st rfl rfl rfl ?_
      refine c_nil ?_
      refine l_then ?_
      refine c_seq ?_
      refine c_cond rfl ?_ ?_
      · refine c_skip ?_
        refine l_then ?_
        refine c_seq ?_
        refine c_block ?_
        refine c_seq ?_
        refine c_region ?_
        refine o_idx st 0 rfl (reads_snap hv1) rfl rfl rfl el51 ?_; intro e313 h314
        refine o_lds st (enc := encGTest) (u := (.agg #[(.int .i64 e313.xField), (.int .i64 e313.xLo), (.int .i64 e313.xHi), (.bool e313.xNot)])) 0 rfl (reads_snap hv1) flelGTest rfl h314 rfl rfl ty25 rfl ?_
        refine stw (o_alloc rfl [(.int .i64 0), (.int .i64 0), (.int .i64 0), (.bool false)] zero25 ?_); intro b315
        refine stw (o_stc (cs' := [(.int .i64 e313.xField), (.int .i64 e313.xLo), (.int .i64 e313.xHi), (.bool e313.xNot)]) 0 rfl rfl rfl ty25 rfl rfl rfl rfl ?_)
        refine c_nil ?_
        refine l_then ?_
        refine c_region ?_
        refine o_mv st rfl rfl ?_
        refine o_ldc st (v := (.agg #[(.int .i64 e313.xField), (.int .i64 e313.xLo), (.int .i64 e313.xHi), (.bool e313.xNot)])) 0 rfl rfl rfl ty25 rfl ?_
        refine stw (o_callP (vs := [(.agg #[(.int .i64 e313.xField), (.int .i64 e313.xLo), (.int .i64 e313.xHi), (.bool e313.xNot)])]) Tryd.call53 rfl rfl (by intro w m h; exact (w_impl_Test_text (F := allB [] w) (t_0 := e313) allB_ok (m.rd0 1 rfl (reads_snap hgl0)) ((hgl1.of (m.get (i := 1) rfl)).mono fz_ok0) h).mono (fun _ _ k => ret_free (fun r u => fr_nil) k)) ?_); rintro r317 _
        refine o_cat st rfl rfl rfl ?_; intro s318
        refine o_cat st rfl rfl rfl ?_; intro s319
        refine o_as st rfl rfl ?_
        refine c_nil ?_
        refine b_norm ?_
        refine l_then ?_
        refine c_region ?_
        refine o_add st rfl rfl rfl ?_; intro t320
        refine o_mv st rfl rfl ?_
        refine c_nil ?_
        exact l_join (s319, t320) (fun a w hE hm => ⟨hE.sub ⟨rfl, rfl, rfl, rfl, trivial⟩, (hm.pick [1] rfl)⟩)
      · refine c_exit ?_
        refine l_exit ?_
        refine l_exit ?_
        refine b_exit ?_
        refine l_then ?_
        refine c_seq ?_
        refine c_region ?_
        refine o_mv st rfl rfl ?_
        refine o_as st rfl rfl ?_
        refine c_nil ?_
        refine l_then ?_
        refine c_ret ?_
        exact l_end1 Tryd.results73 t310 () (rv_t rfl) (fun _ _ => NewCh.nil _ _ _ _)

set_option maxRecDepth 100000 in
set_option maxHeartbeats 8000000 in
theorem w_impl_RuleText {w0 : World} {F : Nat → Prop} {v1 : Value} {r_0 : GRule} {κ : ByteArray → Prop} (hF : ∀ b, F b → b < w0.heap.size ∧ ¬ feet [] b) (hv1 : Sl elGTest F w0 v1 r_0.xTests) (hgl0 : Sl elGFieldShape F w0 (.slice (some ⟨0, 0, none⟩) 4 4) gl_impl_fieldShapes) (hgl1 : Tb F w0) (h : L_impl_RuleText r_0 κ) :
    Calls Tryd.prog 35 #[(.agg #[v1, (.int .i64 r_0.xAction), (.int .i64 r_0.xChain)])] w0 (Ret [] F w0 κ (fun (r : ByteArray) (u : Unit) => (.string r)) (fun (r : ByteArray) (u : Unit) => [])) := by
  refine enterS (args := [(.agg #[v1, (.int .i64 r_0.xAction), (.int .i64 r_0.xChain)])]) [] hF (Given.nil _ _) Tryd.func35 rfl Tryd.ntmps35 rfl h ?_
  clear h hF
  refine c_seq ?_
  refine c_region ?_
  obtain ⟨a3, l4, q5, hs_⟩ := sl_val hv1; subst hs_
  refine stw (o_box rfl rfl [(.slice a3 l4 q5), (.int .i64 r_0.xAction), (.int .i64 r_0.xChain)] rfl ?_); intro b6
  refine o_as st rfl rfl ?_
  refine c_nil ?_
  refine l_then ?_
  refine c_seq ?_
  refine c_seq ?_
  refine c_region ?_
  refine o_ldc st (v := (.agg #[(.slice a3 l4 q5), (.int .i64 r_0.xAction), (.int .i64 r_0.xChain)])) 0 rfl rfl rfl ty53 rfl ?_
  refine stw (o_callP (vs := [(.agg #[(.slice a3 l4 q5), (.int .i64 r_0.xAction), (.int .i64 r_0.xChain)])]) Tryd.call72 rfl rfl (by intro w m h; exact (w_impl_RuleValid (F := allB [] w) (r_0 := r_0) allB_ok (m.rd0 1 rfl (reads_snap hv1)) (m.rd0 1 rfl (reads_snap hgl0)) h).mono (fun _ _ k => ret_free (fun r u => fr_nil) k)) ?_); rintro r8 _
  refine o_not st rfl rfl ?_
  refine c_nil ?_
  refine l_then ?_
  refine c_cond rfl ?_ ?_
  · refine c_seq ?_
    refine c_region ?_
    refine o_as st rfl rfl ?_
    refine c_nil ?_
    refine l_then ?_
    refine c_ret ?_
    refine l_ret ?_
    exact l_end1 Tryd.results35 (ByteArray.mk #[]) () (rv_t rfl) (fun _ _ => NewCh.nil _ _ _ _)
  · refine c_skip ?_
    refine l_then ?_
    refine c_seq ?_
    refine c_region ?_
    refine o_ldc st (v := (.agg #[(.slice a3 l4 q5), (.int .i64 r_0.xAction), (.int .i64 r_0.xChain)])) 0 rfl rfl rfl ty53 rfl ?_
    refine stw (o_callP (vs := [(.agg #[(.slice a3 l4 q5), (.int .i64 r_0.xAction), (.int .i64 r_0.xChain)])]) Tryd.call73 rfl rfl (by intro w m h; exact (w_impl_Rule_text (F := allB [] w) (r_0 := r_0) allB_ok (m.rd0 1 rfl (reads_snap hv1)) (m.rd0 1 rfl (reads_snap hgl0)) ((hgl1.of (m.get (i := 1) rfl)).mono fz_ok0) h).mono (fun _ _ k => ret_free (fun r u => fr_nil) k)) ?_); rintro r9 _
    refine o_as st rfl rfl ?_
    refine c_nil ?_
    refine l_then ?_
    refine c_ret ?_
    exact l_end1 Tryd.results35 r9 () (rv_t rfl) (fun _ _ => NewCh.nil _ _ _ _)

set_option maxRecDepth 100000 in
set_option maxHeartbeats 8000000 in
theorem w_laws_eqTestS {w0 : World} {F : Nat → Prop} {v1 : Value} {v3 : Value} {a_0 : (List GTest)} {b_1 : (List GTest)} {κ : Bool → Prop} (hF : ∀ b, F b → b < w0.heap.size ∧ ¬ feet [] b) (hv1 : Sl elGTest F w0 v1 a_0) (hv3 : Sl elGTest F w0 v3 b_1) (h : L_laws_eqTestS a_0 b_1 κ) :
    Calls Tryd.prog 74 #[v1, v3] w0 (Ret [] F w0 κ (fun (r : Bool) (u : Unit) => (.bool r)) (fun (r : Bool) (u : Unit) => [])) := by
  refine enterS (args := [v1, v3]) [] hF (Given.nil _ _) Tryd.func74 rfl Tryd.ntmps74 rfl h ?_
  clear h hF
  refine c_seq ?_
  refine c_region ?_
  refine o_as st rfl rfl ?_
  refine c_nil ?_
  refine l_then ?_
  refine c_seq ?_
  refine c_seq ?_
  refine c_region ?_
  refine o_mv st rfl rfl ?_
  refine o_len st el51 0 rfl (reads_snap hv1) rfl rfl ?_
  refine o_mv st rfl rfl ?_
  refine o_len st el51 0 rfl (reads_snap hv3) rfl rfl ?_
  refine o_neq st und3 rfl rfl rfl ?_
  refine c_nil ?_
  refine l_then ?_
  refine c_cond rfl ?_ ?_
  · refine c_seq ?_
    refine c_region ?_
    refine o_as st rfl rfl ?_
    refine c_nil ?_
    refine l_then ?_
    refine c_ret ?_
    refine l_ret ?_
    exact l_end1 Tryd.results74 false () (rv_t rfl) (fun _ _ => NewCh.nil _ _ _ _)
  · refine c_skip ?_
    refine l_then ?_
    refine c_seq ?_
    refine c_seq ?_
    refine c_region ?_
    refine o_as st rfl rfl ?_
    refine c_nil ?_
    refine l_then ?_
    refine c_block ?_
    refine c_loop (σ := Int) (fun (t5 : Int) (a : Act) (w : World) => Has 27 [(0, v1), (1, v3), (5, (.int .i64 t5))] a ∧ Mem (gB F [] w0) (feet []) w0 [snapCh w0 F] w) (fun a w hE hm => ⟨hE.sub ⟨rfl, rfl, rfl, trivial⟩, (hm.pick [0] rfl)⟩) ?_
    rintro nx6 t5 a w ⟨hE, hm⟩ h
    refine nx_of hE hm h ?_
    clear hE hm h
    refine c_seq ?_
    refine c_seq ?_
    refine c_region ?_
    refine o_mv st rfl rfl ?_
    refine o_mv st rfl rfl ?_
    refine o_len st el51 0 rfl (reads_snap hv1) rfl rfl ?_
    refine o_lss st rfl rfl rfl ?_
    refine c_nil ?_
    refine l_then ?_
    refine c_cond rfl ?_ ?_
    · refine c_skip ?_
      refine l_then ?_
      refine c_seq ?_
      refine c_block ?_
      refine c_seq ?_
      refine c_draw mixed 10 rfl [snapCh w0 F] ?_
      refine o_mv (dt 0 (fun _ m => m)) rfl rfl ?_
      refine o_mv (dt 1 (fun _ m => m)) rfl rfl ?_
      refine o_idx (dt 2 (fun _ m => m)) 0 rfl (reads_snap hv1) rfl rfl rfl el51 ?_; intro e7 h8
      refine o_lds (dt 3 (fun _ m => m)) (enc := encGTest) (u := (.agg #[(.int .i64 e7.xField), (.int .i64 e7.xLo), (.int .i64 e7.xHi), (.bool e7.xNot)])) 0 rfl (reads_snap hv1) flelGTest rfl h8 rfl rfl ty25 rfl ?_
      refine o_mv (dt 4 (fun _ m => m)) rfl rfl ?_
      refine o_mv (dt 5 (fun _ m => m)) rfl rfl ?_
      refine o_idx (dt 6 (fun _ m => m)) 0 rfl (reads_snap hv3) rfl rfl rfl el51 ?_; intro e9 h10
      refine o_lds (dt 7 (fun _ m => m)) (enc := encGTest) (u := (.agg #[(.int .i64 e9.xField), (.int .i64 e9.xLo), (.int .i64 e9.xHi), (.bool e9.xNot)])) 0 rfl (reads_snap hv3) flelGTest rfl h10 rfl rfl ty25 rfl ?_
      refine d_one (i := 8) rfl (by kernel_rfl) (o_callP (vs := [(.agg #[(.int .i64 e7.xField), (.int .i64 e7.xLo), (.int .i64 e7.xHi), (.bool e7.xNot)]), (.agg #[(.int .i64 e9.xField), (.int .i64 e9.xLo), (.int .i64 e9.xHi), (.bool e9.xNot)])]) Tryd.call29 rfl rfl (by intro w m h; exact (w_laws_eqTest (F := allB [] w) (a_0 := e7) (b_1 := e9) allB_ok h).mono (fun _ _ k => ret_free (fun r u => fr_nil) k)) ?_); rintro r11 _
      refine d_and (fun _ m => m) ?_
      refine o_not (dt 9 (fun _ m => m)) rfl rfl ?_
      refine d_done (by kernel_rfl) ?_
      refine l_then ?_
      refine c_cond rfl ?_ ?_
      · refine c_seq ?_
        refine c_region ?_
        refine o_as st rfl rfl ?_
        refine c_nil ?_
        refine l_then ?_
        refine c_ret ?_
        refine b_ret ?_
        refine l_ret ?_
        refine l_ret ?_
        refine b_ret ?_
        refine l_ret ?_
        exact l_end1 Tryd.results74 false () (rv_t rfl) (fun _ _ => NewCh.nil _ _ _ _)
      · refine c_skip ?_
        refine b_norm ?_
        refine l_then ?_
        refine c_region ?_
        refine o_mv st rfl rfl ?_
        refine o_add st rfl rfl rfl ?_; intro t12
        refine o_as st rfl rfl ?_
        refine c_nil ?_
        exact l_join t12 (fun a w hE hm => ⟨hE.sub ⟨rfl, rfl, rfl, trivial⟩, (hm.pick [0] rfl)⟩)
    · refine c_exit ?_
      refine l_exit ?_
      refine l_exit ?_
      refine b_exit ?_
      refine l_then ?_
      refine c_seq ?_
      refine c_region ?_
      refine o_as st rfl rfl ?_
      refine c_nil ?_
      refine l_then ?_
      refine c_ret ?_
      exact l_end1 Tryd.results74 true () (rv_t rfl) (fun _ _ => NewCh.nil _ _ _ _)

set_option maxRecDepth 100000 in
set_option maxHeartbeats 8000000 in
theorem w_laws_eqRule {w0 : World} {F : Nat → Prop} {v1 : Value} {v3 : Value} {a_0 : GRule} {b_1 : GRule} {κ : Bool → Prop} (hF : ∀ b, F b → b < w0.heap.size ∧ ¬ feet [] b) (hv1 : Sl elGTest F w0 v1 a_0.xTests) (hv3 : Sl elGTest F w0 v3 b_1.xTests) (h : L_laws_eqRule a_0 b_1 κ) :
    Calls Tryd.prog 36 #[(.agg #[v1, (.int .i64 a_0.xAction), (.int .i64 a_0.xChain)]), (.agg #[v3, (.int .i64 b_1.xAction), (.int .i64 b_1.xChain)])] w0 (Ret [] F w0 κ (fun (r : Bool) (u : Unit) => (.bool r)) (fun (r : Bool) (u : Unit) => [])) := by
  refine enterS (args := [(.agg #[v1, (.int .i64 a_0.xAction), (.int .i64 a_0.xChain)]), (.agg #[v3, (.int .i64 b_1.xAction), (.int .i64 b_1.xChain)])]) [] hF (Given.nil _ _) Tryd.func36 rfl Tryd.ntmps36 rfl h ?_
  clear h hF
  refine c_seq ?_
  refine c_region ?_
  obtain ⟨a5, l6, q7, hs_⟩ := sl_val hv1; subst hs_
  refine stw (o_box rfl rfl [(.slice a5 l6 q7), (.int .i64 a_0.xAction), (.int .i64 a_0.xChain)] rfl ?_); intro b8
  obtain ⟨a10, l11, q12, hs_⟩ := sl_val hv3; subst hs_
  refine stw (o_box rfl rfl [(.slice a10 l11 q12), (.int .i64 b_1.xAction), (.int .i64 b_1.xChain)] rfl ?_); intro b13
  refine o_as st rfl rfl ?_
  refine c_nil ?_
  refine l_then ?_
  refine c_seq ?_
  refine c_seq ?_
  refine c_region ?_
  refine o_fad st rfl rfl fld53_0 rfl ?_
  refine o_ldc st (v := (.slice a5 l6 q7)) 1 rfl rfl rfl ty51 rfl ?_
  refine o_fad st rfl rfl fld53_0 rfl ?_
  refine o_ldc st (v := (.slice a10 l11 q12)) 0 rfl rfl rfl ty51 rfl ?_
  refine stw (o_callP (vs := [(.slice a5 l6 q7), (.slice a10 l11 q12)]) Tryd.call74 rfl rfl (by intro w m h; exact (w_laws_eqTestS (F := allB [] w) (a_0 := a_0.xTests) (b_1 := b_1.xTests) allB_ok (m.rd0 2 rfl (reads_snap hv1)) (m.rd0 2 rfl (reads_snap hv3)) h).mono (fun _ _ k => ret_free (fun r u => fr_nil) k)) ?_); rintro r15 _
  refine o_not st rfl rfl ?_
  refine c_nil ?_
  refine l_then ?_
  refine c_cond rfl ?_ ?_
  · refine c_seq ?_
    refine c_region ?_
    refine o_as st rfl rfl ?_
    refine c_nil ?_
    refine l_then ?_
    refine c_ret ?_
    refine l_ret ?_
    exact l_end1 Tryd.results36 false () (rv_t rfl) (fun _ _ => NewCh.nil _ _ _ _)
  · refine c_skip ?_
    refine l_then ?_
    refine c_seq ?_
    refine c_seq ?_
    refine c_region ?_
    refine o_fad st rfl rfl fld53_1 rfl ?_
    refine o_ldc st (v := (.int .i64 a_0.xAction)) 1 rfl rfl rfl ty3 rfl ?_
    refine o_fad st rfl rfl fld53_1 rfl ?_
    refine o_ldc st (v := (.int .i64 b_1.xAction)) 0 rfl rfl rfl ty3 rfl ?_
    refine o_neq st und3 rfl rfl rfl ?_
    refine c_nil ?_
    refine l_then ?_
    refine c_cond rfl ?_ ?_
    · refine c_seq ?_
      refine c_region ?_
      refine o_as st rfl rfl ?_
      refine c_nil ?_
      refine l_then ?_
      refine c_ret ?_
      refine l_ret ?_
      exact l_end1 Tryd.results36 false () (rv_t rfl) (fun _ _ => NewCh.nil _ _ _ _)
    · refine c_skip ?_
      refine l_then ?_
      refine c_seq ?_
      refine c_seq ?_
      refine c_region ?_
      refine o_fad st rfl rfl fld53_2 rfl ?_
      refine o_ldc st (v := (.int .i64 a_0.xChain)) 1 rfl rfl rfl ty3 rfl ?_
      refine o_fad st rfl rfl fld53_2 rfl ?_
      refine o_ldc st (v := (.int .i64 b_1.xChain)) 0 rfl rfl rfl ty3 rfl ?_
      refine o_neq st und3 rfl rfl rfl ?_
      refine c_nil ?_
      refine l_then ?_
      refine c_cond rfl ?_ ?_
      · refine c_seq ?_
        refine c_region ?_
        refine o_as st rfl rfl ?_
        refine c_nil ?_
        refine l_then ?_
        refine c_ret ?_
        refine l_ret ?_
        exact l_end1 Tryd.results36 false () (rv_t rfl) (fun _ _ => NewCh.nil _ _ _ _)
      · refine c_skip ?_
        refine l_then ?_
        refine c_seq ?_
        refine c_region ?_
        refine o_as st rfl rfl ?_
        refine c_nil ?_
        refine l_then ?_
        refine c_ret ?_
        exact l_end1 Tryd.results36 true () (rv_t rfl) (fun _ _ => NewCh.nil _ _ _ _)

set_option maxRecDepth 100000 in
set_option maxHeartbeats 8000000 in
theorem w_laws_FnExactRuleText {w0 : World} {F : Nat → Prop} {v1 : Value} {aR_0 : GRule} {κ : Bool → Prop} (hF : ∀ b, F b → b < w0.heap.size ∧ ¬ feet [] b) (hv1 : Sl elGTest F w0 v1 aR_0.xTests) (hgl0 : Sl elGFieldShape F w0 (.slice (some ⟨0, 0, none⟩) 4 4) gl_impl_fieldShapes) (hgl1 : Tb F w0) (h : L_laws_FnExactRuleText aR_0 κ) :
    Calls Tryd.prog 9 #[(.agg #[v1, (.int .i64 aR_0.xAction), (.int .i64 aR_0.xChain)])] w0 (Ret [] F w0 κ (fun (r : Bool) (u : Unit) => (.bool r)) (fun (r : Bool) (u : Unit) => [])) := by
  refine enterS (args := [(.agg #[v1, (.int .i64 aR_0.xAction), (.int .i64 aR_0.xChain)])]) [] hF (Given.nil _ _) Tryd.func9 rfl Tryd.ntmps9 rfl h ?_
  clear h hF
  refine c_seq ?_
  refine c_region ?_
  obtain ⟨a3, l4, q5, hs_⟩ := sl_val hv1; subst hs_
  refine stw (o_box rfl rfl [(.slice a3 l4 q5), (.int .i64 aR_0.xAction), (.int .i64 aR_0.xChain)] rfl ?_); intro b6
  refine o_as st rfl rfl ?_
  refine c_nil ?_
  refine l_then ?_
  refine c_seq ?_
  refine c_region ?_
  refine o_as st rfl rfl ?_
  refine c_nil ?_
  refine l_then ?_
  refine c_seq ?_
  refine c_region ?_
  refine o_ldc st (v := (.agg #[(.slice a3 l4 q5), (.int .i64 aR_0.xAction), (.int .i64 aR_0.xChain)])) 0 rfl rfl rfl ty48 rfl ?_
  refine o_mv st rfl rfl ?_
  refine stw (o_callP (vs := [(.agg #[(.slice a3 l4 q5), (.int .i64 aR_0.xAction), (.int .i64 aR_0.xChain)]), (.int .i64 1048576)]) Tryd.call32 rfl rfl (by intro w m h; exact (w_laws_szRule (F := allB [] w) (a_0 := aR_0) (left_1 := 1048576) allB_ok (m.rd0 1 rfl (reads_snap hv1)) h).mono (fun _ _ k => ret_free (fun r u => fr_nil) k)) ?_); rintro r8 _
  refine o_as st rfl rfl ?_
  refine c_nil ?_
  refine l_then ?_
  refine c_seq ?_
  refine c_seq ?_
  refine c_region ?_
  refine o_mv st rfl rfl ?_
  refine o_lss st rfl rfl rfl ?_
  refine c_nil ?_
  refine l_then ?_
  refine c_cond rfl ?_ ?_
  · refine c_seq ?_
    refine c_region ?_
    refine o_as st rfl rfl ?_
    refine c_nil ?_
    refine l_then ?_
    refine c_ret ?_
    refine l_ret ?_
    exact l_end1 Tryd.results9 true () (rv_t rfl) (fun _ _ => NewCh.nil _ _ _ _)
  · refine c_skip ?_
    refine l_then ?_
    refine c_seq ?_
    refine c_region ?_
    refine o_ldc st (v := (.agg #[(.slice a3 l4 q5), (.int .i64 aR_0.xAction), (.int .i64 aR_0.xChain)])) 0 rfl rfl rfl ty48 rfl ?_
    refine stw (o_callP (vs := [(.agg #[(.slice a3 l4 q5), (.int .i64 aR_0.xAction), (.int .i64 aR_0.xChain)])]) Tryd.call34 rfl rfl (by intro w m h; exact (w_laws_toRule (F := allB [] w) (a_0 := aR_0) allB_ok (m.rd0 1 rfl (reads_snap hv1)) h).mono (fun _ _ k => ret_free (fun r u => (fr_cons (free_own flelGTest) fr_nil)) k)) ?_); rintro r9 v10
    refine stw (o_callP (vs := [(.agg #[v10, (.int .i64 r9.xAction), (.int .i64 r9.xChain)])]) Tryd.call33 rfl rfl (by intro w m h; exact (w_spec_RuleText (F := allB [] w) (r_0 := r9) allB_ok (m.rd0 0 rfl reads_own) h).mono (fun _ _ k => ret_free (fun r u => fr_nil) k)) ?_); rintro r12 _
    refine o_as st rfl rfl ?_
    refine c_nil ?_
    refine l_then ?_
    refine c_seq ?_
    refine c_region ?_
    refine o_ldc st (v := (.agg #[(.slice a3 l4 q5), (.int .i64 aR_0.xAction), (.int .i64 aR_0.xChain)])) 1 rfl rfl rfl ty48 rfl ?_
    refine stw (o_callP (vs := [(.agg #[(.slice a3 l4 q5), (.int .i64 aR_0.xAction), (.int .i64 aR_0.xChain)])]) Tryd.call34 rfl rfl (by intro w m h; exact (w_laws_toRule (F := allB [] w) (a_0 := aR_0) allB_ok (m.rd0 2 rfl (reads_snap hv1)) h).mono (fun _ _ k => ret_free (fun r u => (fr_cons (free_own flelGTest) fr_nil)) k)) ?_); rintro r13 v14
    refine stw (o_alloc rfl [(.slice none 0 0), (.int .i64 0), (.int .i64 0)] zero53 ?_); intro b16
    refine nx_own 1 rfl ?_; rintro a18 l19 q20 rfl
    refine stw (o_stc (cs' := [(.slice a18 l19 q20), (.int .i64 r13.xAction), (.int .i64 r13.xChain)]) 0 rfl rfl rfl ty53 rfl rfl rfl rfl ?_)
    refine c_nil ?_
    refine l_then ?_
    refine c_seq ?_
    refine c_region ?_
    refine o_ldc st (v := (.agg #[(.slice a18 l19 q20), (.int .i64 r13.xAction), (.int .i64 r13.xChain)])) 0 rfl rfl rfl ty53 rfl ?_
    refine stw (o_callP (vs := [(.agg #[(.slice a18 l19 q20), (.int .i64 r13.xAction), (.int .i64 r13.xChain)])]) Tryd.call35 rfl rfl (by intro w m h; exact (w_impl_RuleText (F := allB [] w) (r_0 := r13) allB_ok (m.rd0 1 rfl reads_own) (m.rd0 4 rfl (reads_snap hgl0)) ((hgl1.of (m.get (i := 4) rfl)).mono fz_ok0) h).mono (fun _ _ k => ret_free (fun r u => fr_nil) k)) ?_); rintro r21 _
    refine o_as st rfl rfl ?_
    refine c_nil ?_
    refine l_then ?_
    refine c_seq ?_
    refine c_seq ?_
    refine c_region ?_
    refine o_mv st rfl rfl ?_
    refine o_mv st rfl rfl ?_
    refine o_neqS st und9 rfl rfl rfl ?_
    refine c_nil ?_
    refine l_then ?_
    refine c_cond rfl ?_ ?_
    · refine c_seq ?_
      refine c_region ?_
      refine o_as st rfl rfl ?_
      refine c_nil ?_
      refine l_then ?_
      refine c_ret ?_
      refine l_ret ?_
      exact l_end1 Tryd.results9 false () (rv_t rfl) (fun _ _ => NewCh.nil _ _ _ _)
    · refine c_skip ?_
      refine l_then ?_
      refine c_seq ?_
      refine c_seq ?_
      refine c_draw mixed 5 rfl [cellCh b16 [(.slice a18 l19 q20), (.int .i64 r13.xAction), (.int .i64 r13.xChain)] 53, ownCh elGTest 25 (.slice a18 l19 q20) r13.xTests, ownCh elGTest 25 v10 r9.xTests, cellCh b6 [(.slice a3 l4 q5), (.int .i64 aR_0.xAction), (.int .i64 aR_0.xChain)] 48, snapCh w0 F] ?_
      refine o_ldc (dt 0 (fun _ m => m)) (v := (.agg #[(.slice a18 l19 q20), (.int .i64 r13.xAction), (.int .i64 r13.xChain)])) 0 rfl rfl rfl ty53 rfl ?_
      refine o_ldc (dt 1 (fun _ m => m)) (v := (.agg #[(.slice a3 l4 q5), (.int .i64 aR_0.xAction), (.int .i64 aR_0.xChain)])) 3 rfl rfl rfl ty48 rfl ?_
      refine d_one (i := 2) rfl (by kernel_rfl) (o_callP (vs := [(.agg #[(.slice a3 l4 q5), (.int .i64 aR_0.xAction), (.int .i64 aR_0.xChain)])]) Tryd.call34 rfl rfl (by intro w m h; exact (w_laws_toRule (F := allB [] w) (a_0 := aR_0) allB_ok (m.rd0 4 rfl (reads_snap hv1)) h).mono (fun _ _ k => ret_free (fun r u => (fr_cons (free_own flelGTest) fr_nil)) k)) ?_); rintro r22 v23
      refine d_and (fun w m => m.pick [1, 2, 3, 4, 5] rfl) ?_
      refine d_one (i := 3) rfl (by kernel_rfl) (o_callP (vs := [(.agg #[(.slice a18 l19 q20), (.int .i64 r13.xAction), (.int .i64 r13.xChain)]), (.agg #[v23, (.int .i64 r22.xAction), (.int .i64 r22.xChain)])]) Tryd.call36 rfl rfl (by intro w m h; exact (w_laws_eqRule (F := allB [] w) (a_0 := r13) (b_1 := r22) allB_ok (m.rd0 2 rfl reads_own) (m.rd0 0 rfl reads_own) h).mono (fun _ _ k => ret_free (fun r u => fr_nil) k)) ?_); rintro r25 _
      refine d_and (fun w m => m.pick [1, 2, 3, 4, 5] rfl) ?_
      refine o_not (dt 4 (fun w m => m.pick [1, 2, 3, 4, 5] rfl)) rfl rfl ?_
      refine d_done (by kernel_rfl) ?_
      refine l_then ?_
      refine c_cond rfl ?_ ?_
      · refine c_seq ?_
        refine c_region ?_
        refine o_as st rfl rfl ?_
        refine c_nil ?_
        refine l_then ?_
        refine c_ret ?_
        refine l_ret ?_
        exact l_end1 Tryd.results9 false () (rv_t rfl) (fun _ _ => NewCh.nil _ _ _ _)
      · refine c_skip ?_
        refine l_then ?_
        refine c_seq ?_
        refine c_region ?_
        refine o_as st rfl rfl ?_
        refine c_nil ?_
        refine l_then ?_
        refine c_ret ?_
        exact l_end1 Tryd.results9 true () (rv_t rfl) (fun _ _ => NewCh.nil _ _ _ _)

set_option maxRecDepth 100000 in
set_option maxHeartbeats 8000000 in
theorem w_spec_DrawReadTest {w0 : World} {F : Nat → Prop} {v1 : Value} {code_0 : (List UInt8)} {κ : ByteArray → Prop} (hF : ∀ b, F b → b < w0.heap.size ∧ ¬ feet [] b) (hv1 : Sl elU8 F w0 v1 code_0) (h : L_spec_DrawReadTest code_0 κ) :
    Calls Tryd.prog 37 #[v1] w0 (Ret [] F w0 κ (fun (r : ByteArray) (u : Unit) => (.string r)) (fun (r : ByteArray) (u : Unit) => [])) := by
  refine enterS (args := [v1]) [] hF (Given.nil _ _) Tryd.func37 rfl Tryd.ntmps37 rfl h ?_
  clear h hF
  refine c_seq ?_
  refine c_region ?_
  refine o_as st rfl rfl ?_
  refine c_nil ?_
  refine l_then ?_
  refine c_seq ?_
  refine c_region ?_
  refine o_mv st rfl rfl ?_
  refine stw (o_callP (vs := [v1]) Tryd.call60 rfl rfl (by intro w m h; exact w_spec_l20Open (code_0 := code_0) fz_ok0 (m.roS 0 rfl hv1) h) ?_); rintro ⟨r5, r8⟩ ⟨b3, v6⟩
  refine o_as st rfl rfl ?_
  refine c_nil ?_
  refine l_then ?_
  refine c_seq ?_
  refine c_region ?_
  refine o_mv st rfl rfl ?_
  refine stw (o_call (vs := [(.pointer (some ⟨b3, 0, none⟩)), (.int .i64 0)]) (M0 := [cellCh b3 [v6, (.int .i64 r8)] 111]) Tryd.call68 rfl rfl (by intro w m h; exact (w_spec_l20Test (F := allB [cellCh b3 [v6, (.int .i64 r8)] 111] w) (r_0_b := r5) (r_0_p := r8) (n_1 := 0) allB_ok m.given (m.rdM 0 rfl reads_ro) h).mono (fun _ _ k => ret_free (fun r u => (fr_cons free_cell fr_nil)) k)) ?_); rintro ⟨r9, r10⟩ _
  refine stw (o_callP (vs := [(.agg #[(.int .i64 r9.xField), (.int .i64 r9.xLo), (.int .i64 r9.xHi), (.bool r9.xNot)])]) Tryd.call15 rfl rfl (by intro w m h; exact (w_spec_TestText (F := allB [] w) (t_0 := r9) allB_ok h).mono (fun _ _ k => ret_free (fun r u => fr_nil) k)) ?_); rintro r11 _
  refine o_as st rfl rfl ?_
  refine c_nil ?_
  refine l_then ?_
  refine c_join (σ := ByteArray) (fun (t82 : ByteArray) (a : Act) (w : World) => Has 22 [(4, (.string t82))] a ∧ Mem (gB F [] w0) (feet []) w0 [] w) ?_ ?_
  · intro k83
    refine c_seq ?_
    refine c_region ?_
    refine o_mv st rfl rfl ?_
    refine stw (o_call (vs := [(.pointer (some ⟨b3, 0, none⟩)), (.int .i64 3)]) (M0 := [cellCh b3 [v6, (.int .i64 r10)] 111]) Tryd.call64 rfl rfl (by intro w m h; exact (w_spec_l20Rd_odd (F := allB [cellCh b3 [v6, (.int .i64 r10)] 111] w) (r_0_b := r5) (r_0_p := r10) (n_1 := 3) allB_ok m.given (m.rdM 0 rfl reads_ro) h).mono (fun _ _ k => ret_free (fun r u => (fr_cons free_cell fr_nil)) k)) ?_); rintro ⟨r12, r13⟩ _
    refine c_nil ?_
    refine l_then ?_
    refine c_cond rfl ?_ ?_
    · refine c_region ?_
      refine o_mv st rfl rfl ?_
      refine o_cat st rfl rfl rfl ?_; intro s14
      refine o_mv st rfl rfl ?_
      refine o_cat st rfl rfl rfl ?_; intro s15
      refine stw (o_bsl (enc := encStr) (qs := [(0, (.string s14)), (1, (.string s15)), (2, (.string (ByteArray.mk #[102, 114, 111, 109, 32, 53, 45, 53]))), (3, (.string (ByteArray.mk #[112, 111, 114, 116, 32, 50, 53, 54]))), (4, (.string (ByteArray.mk #[]))), (5, (.string (ByteArray.mk #[102, 114, 111, 109]))), (6, (.string (ByteArray.mk #[102, 114, 111, 109, 32, 48, 53]))), (7, (.string (ByteArray.mk #[112, 114, 111, 116, 111, 32, 51, 45, 50]))), (8, (.string (ByteArray.mk #[116, 111, 32, 32, 49]))), (9, (.string (ByteArray.mk #[70, 114, 111, 109, 32, 49]))), (10, (.string (ByteArray.mk #[102, 114, 111, 109, 32, 49, 45]))), (11, (.string (ByteArray.mk #[110, 111, 116, 32])))]) (cells := [(.string s14), (.string s15), (.string (ByteArray.mk #[102, 114, 111, 109, 32, 53, 45, 53])), (.string (ByteArray.mk #[112, 111, 114, 116, 32, 50, 53, 54])), (.string (ByteArray.mk #[])), (.string (ByteArray.mk #[102, 114, 111, 109])), (.string (ByteArray.mk #[102, 114, 111, 109, 32, 48, 53])), (.string (ByteArray.mk #[112, 114, 111, 116, 111, 32, 51, 45, 50])), (.string (ByteArray.mk #[116, 111, 32, 32, 49])), (.string (ByteArray.mk #[70, 114, 111, 109, 32, 49])), (.string (ByteArray.mk #[102, 114, 111, 109, 32, 49, 45])), (.string (ByteArray.mk #[110, 111, 116, 32]))]) ([s14, s15, (ByteArray.mk #[102, 114, 111, 109, 32, 53, 45, 53]), (ByteArray.mk #[112, 111, 114, 116, 32, 50, 53, 54]), (ByteArray.mk #[]), (ByteArray.mk #[102, 114, 111, 109]), (ByteArray.mk #[102, 114, 111, 109, 32, 48, 53]), (ByteArray.mk #[112, 114, 111, 116, 111, 32, 51, 45, 50]), (ByteArray.mk #[116, 111, 32, 32, 49]), (ByteArray.mk #[70, 114, 111, 109, 32, 49]), (ByteArray.mk #[102, 114, 111, 109, 32, 49, 45]), (ByteArray.mk #[110, 111, 116, 32])]) flelStr (by intro ρ h; simp only [List.map_toArray, List.map_cons, List.map_nil, h (.tmp 13) _ rfl, h (.tmp 15) _ rfl, h (.const (.string (ByteArray.mk #[102, 114, 111, 109, 32, 53, 45, 53]))) _ rfl, h (.const (.string (ByteArray.mk #[112, 111, 114, 116, 32, 50, 53, 54]))) _ rfl, h (.const (.string (ByteArray.mk #[]))) _ rfl, h (.const (.string (ByteArray.mk #[102, 114, 111, 109]))) _ rfl, h (.const (.string (ByteArray.mk #[102, 114, 111, 109, 32, 48, 53]))) _ rfl, h (.const (.string (ByteArray.mk #[112, 114, 111, 116, 111, 32, 51, 45, 50]))) _ rfl, h (.const (.string (ByteArray.mk #[116, 111, 32, 32, 49]))) _ rfl, h (.const (.string (ByteArray.mk #[70, 114, 111, 109, 32, 49]))) _ rfl, h (.const (.string (ByteArray.mk #[102, 114, 111, 109, 32, 49, 45]))) _ rfl, h (.const (.string (ByteArray.mk #[110, 111, 116, 32]))) _ rfl]) rfl el66 zero9 rfl rfl rfl rfl rfl rfl ?_); intro v16
      refine o_mv st rfl rfl ?_
      refine pk [1, 0, 2, 3] rfl ?_
      refine stw (o_call (vs := [(.pointer (some ⟨b3, 0, none⟩)), (.int .i64 12)]) (M0 := [cellCh b3 [v6, (.int .i64 r13)] 111]) Tryd.call65 rfl rfl (by intro w m h; exact (w_spec_l20Rd_pick (F := allB [cellCh b3 [v6, (.int .i64 r13)] 111] w) (r_0_b := r5) (r_0_p := r13) (n_1 := 12) allB_ok m.given (m.rdM 1 rfl reads_ro) h).mono (fun _ _ k => ret_free (fun r u => (fr_cons free_cell fr_nil)) k)) ?_); rintro ⟨r18, r19⟩ _
      refine o_idx st 1 rfl reads_own rfl rfl rfl el66 ?_; intro e20 h21
      refine o_lds st (enc := encStr) (u := (.string e20)) 1 rfl reads_own flelStr rfl h21 rfl rfl ty9 rfl ?_
      refine o_as st rfl rfl ?_
      refine c_nil ?_
      exact l_join e20 (fun a w hE hm => ⟨hE.sub ⟨rfl, trivial⟩, (hm.pick [] rfl)⟩)
    · refine c_skip ?_
      exact l_join r11 (fun a w hE hm => ⟨hE.sub ⟨rfl, trivial⟩, (hm.pick [] rfl)⟩)
  · rintro t82 a w ⟨hE, hm⟩ h
    refine nx_of hE hm h ?_
    clear hE hm h
    refine c_seq ?_
    refine c_region ?_
    refine o_mv st rfl rfl ?_
    refine o_as st rfl rfl ?_
    refine c_nil ?_
    refine l_then ?_
    refine c_ret ?_
    exact l_end1 Tryd.results37 t82 () (rv_t rfl) (fun _ _ => NewCh.nil _ _ _ _)

set_option maxRecDepth 100000 in
set_option maxHeartbeats 8000000 in
theorem w_laws_FnReadTest {w0 : World} {F : Nat → Prop} {v1 : Value} {code_0 : (List UInt8)} {κ : Bool → Prop} (hF : ∀ b, F b → b < w0.heap.size ∧ ¬ feet [] b) (hv1 : Sl elU8 F w0 v1 code_0) (hgl0 : Sl elGFieldShape F w0 (.slice (some ⟨0, 0, none⟩) 4 4) gl_impl_fieldShapes) (hgl1 : Tb F w0) (h : L_laws_FnReadTest code_0 κ) :
    Calls Tryd.prog 10 #[v1] w0 (Ret [] F w0 κ (fun (r : Bool) (u : Unit) => (.bool r)) (fun (r : Bool) (u : Unit) => [])) := by
  refine enterS (args := [v1]) [] hF (Given.nil _ _) Tryd.func10 rfl Tryd.ntmps10 rfl h ?_
  clear h hF
  refine c_seq ?_
  refine c_region ?_
  refine o_as st rfl rfl ?_
  refine c_nil ?_
  refine l_then ?_
  refine c_seq ?_
  refine c_seq ?_
  refine c_region ?_
  refine o_mv st rfl rfl ?_
  refine o_len st el34 0 rfl (reads_snap hv1) rfl rfl ?_
  refine o_gtr st rfl rfl rfl ?_
  refine c_nil ?_
  refine l_then ?_
  refine c_cond rfl ?_ ?_
  · refine c_seq ?_
    refine c_region ?_
    refine o_as st rfl rfl ?_
    refine c_nil ?_
    refine l_then ?_
    refine c_ret ?_
    refine l_ret ?_
    exact l_end1 Tryd.results10 true () (rv_t rfl) (fun _ _ => NewCh.nil _ _ _ _)
  · refine c_skip ?_
    refine l_then ?_
    refine c_seq ?_
    refine c_region ?_
    refine o_mv st rfl rfl ?_
    refine stw (o_callP (vs := [v1]) Tryd.call37 rfl rfl (by intro w m h; exact (w_spec_DrawReadTest (F := allB [] w) (code_0 := code_0) allB_ok (m.rd0 0 rfl (reads_snap hv1)) h).mono (fun _ _ k => ret_free (fun r u => fr_nil) k)) ?_); rintro r3 _
    refine o_as st rfl rfl ?_
    refine c_nil ?_
    refine l_then ?_
    refine c_seq ?_
    refine c_region ?_
    refine o_mv st rfl rfl ?_
    refine stw (o_callP (vs := [(.string r3)]) Tryd.call28 rfl rfl (by intro w m h; exact (w_impl_ReadTest (F := allB [] w) (s_0 := r3) allB_ok (m.rd0 0 rfl (reads_snap hgl0)) ((hgl1.of (m.get (i := 0) rfl)).mono fz_ok0) h).mono (fun _ _ k => ret_free (fun r u => fr_nil) k)) ?_); rintro ⟨r4, r5⟩ _
    refine o_mv st rfl rfl ?_
    refine o_ext st (vs := [(.agg #[(.int .i64 r4.xField), (.int .i64 r4.xLo), (.int .i64 r4.xHi), (.bool r4.xNot)]), (.bool r5)]) rfl rfl rfl ?_
    refine o_ext st (vs := [(.agg #[(.int .i64 r4.xField), (.int .i64 r4.xLo), (.int .i64 r4.xHi), (.bool r4.xNot)]), (.bool r5)]) rfl rfl rfl ?_
    refine stw (o_alloc rfl [(.int .i64 0), (.int .i64 0), (.int .i64 0), (.bool false)] zero25 ?_); intro b6
    refine stw (o_stc (cs' := [(.int .i64 r4.xField), (.int .i64 r4.xLo), (.int .i64 r4.xHi), (.bool r4.xNot)]) 0 rfl rfl rfl ty25 rfl rfl rfl rfl ?_)
    refine o_as st rfl rfl ?_
    refine c_nil ?_
    refine l_then ?_
    refine c_seq ?_
    refine c_region ?_
    refine o_mv st rfl rfl ?_
    refine stw (o_callP (vs := [(.string r3)]) Tryd.call27 rfl rfl (by intro w m h; exact (w_spec_ReadTest (F := allB [] w) (s_0 := r3) allB_ok h).mono (fun _ _ k => ret_free (fun r u => fr_nil) k)) ?_); rintro ⟨r8, r9⟩ _
    refine o_mv st rfl rfl ?_
    refine o_ext st (vs := [(.agg #[(.int .i64 r8.xField), (.int .i64 r8.xLo), (.int .i64 r8.xHi), (.bool r8.xNot)]), (.bool r9)]) rfl rfl rfl ?_
    refine o_ext st (vs := [(.agg #[(.int .i64 r8.xField), (.int .i64 r8.xLo), (.int .i64 r8.xHi), (.bool r8.xNot)]), (.bool r9)]) rfl rfl rfl ?_
    refine stw (o_alloc rfl [(.int .i64 0), (.int .i64 0), (.int .i64 0), (.bool false)] zero25 ?_); intro b10
    refine stw (o_stc (cs' := [(.int .i64 r8.xField), (.int .i64 r8.xLo), (.int .i64 r8.xHi), (.bool r8.xNot)]) 0 rfl rfl rfl ty25 rfl rfl rfl rfl ?_)
    refine o_as st rfl rfl ?_
    refine c_nil ?_
    refine l_then ?_
    refine c_seq ?_
    refine c_join (σ := Bool) (fun (t72 : Bool) (a : Act) (w : World) => Has 50 [(3, (.string r3)), (4, (.pointer (some ⟨b6, 0, none⟩))), (5, (.bool r5)), (30, (.bool t72))] a ∧ Mem (gB F [] w0) (feet []) w0 [cellCh b6 [(.int .i64 r4.xField), (.int .i64 r4.xLo), (.int .i64 r4.xHi), (.bool r4.xNot)] 25, snapCh w0 F] w) ?_ ?_
    · intro k73
      refine c_region ?_
      refine o_ldc st (v := (.agg #[(.int .i64 r4.xField), (.int .i64 r4.xLo), (.int .i64 r4.xHi), (.bool r4.xNot)])) 1 rfl rfl rfl ty25 rfl ?_
      refine o_ldc st (v := (.agg #[(.int .i64 r8.xField), (.int .i64 r8.xLo), (.int .i64 r8.xHi), (.bool r8.xNot)])) 0 rfl rfl rfl ty25 rfl ?_
      refine o_bin st (.bool (!(decide (r4 = r8)))) rfl rfl rfl (neqs25 _ _ r4.xField r4.xLo r4.xHi r4.xNot r8.xField r8.xLo r8.xHi r8.xNot) ?_
      refine o_mv st rfl rfl ?_
      refine st_sp (dj := 26) rfl ?_ ?_
      · refine st_s rfl rfl rfl rfl ?_
        refine st_s rfl rfl rfl rfl ?_
        refine st_s rfl rfl rfl rfl ?_
        refine o_pickT st rfl rfl rfl ?_
        refine c_nil ?_
        exact l_join true (fun a w hE hm => ⟨hE.sub ⟨rfl, rfl, rfl, rfl, trivial⟩, (hm.pick [1, 2] rfl)⟩)
      · refine o_mv (st_g rfl rfl) rfl rfl ?_
        refine o_mv (st_g rfl rfl) rfl rfl ?_
        refine o_neqB (st_g rfl rfl) und4 rfl rfl rfl ?_
        refine o_pickF st rfl rfl rfl ?_
        refine c_nil ?_
        exact l_join (!(decide (r5 = r9))) (fun a w hE hm => ⟨hE.sub ⟨rfl, rfl, rfl, rfl, trivial⟩, (hm.pick [1, 2] rfl)⟩)
    · rintro t72 a w ⟨hE, hm⟩ h
      refine nx_of hE hm h ?_
      clear hE hm h
      refine c_cond rfl ?_ ?_
      · refine c_seq ?_
        refine c_region ?_
        refine o_as st rfl rfl ?_
        refine c_nil ?_
        refine l_then ?_
        refine c_ret ?_
        refine l_ret ?_
        exact l_end1 Tryd.results10 false () (rv_t rfl) (fun _ _ => NewCh.nil _ _ _ _)
      · refine c_skip ?_
        refine l_then ?_
        refine c_join (σ := Bool) (fun (t138 : Bool) (a : Act) (w : World) => Has 50 [(2, (.bool t138))] a ∧ Mem (gB F [] w0) (feet []) w0 [snapCh w0 F] w) ?_ ?_
        · intro k139
          refine c_region ?_
          refine o_mv st rfl rfl ?_
          refine o_not st rfl rfl ?_
          refine o_mv st rfl rfl ?_
          refine st_sp (dj := 33) rfl ?_ ?_
          · refine o_ldc (st_g rfl rfl) (v := (.agg #[(.int .i64 r4.xField), (.int .i64 r4.xLo), (.int .i64 r4.xHi), (.bool r4.xNot)])) 0 rfl rfl rfl ty25 rfl ?_
            refine o_bld (st_g rfl rfl) (qs := []) (cells := [(.int .i64 0), (.int .i64 0), (.int .i64 0), (.bool false)]) (by intro ρ h; simp only [List.map_toArray, List.map_cons, List.map_nil]) rfl bld25 rfl ?_
            refine o_bin (st_g rfl rfl) (.bool (decide (r4 = (GTest.mk 0 0 0 false)))) rfl rfl rfl (eqls25 _ _ r4.xField r4.xLo r4.xHi r4.xNot 0 0 0 false) ?_
            refine o_pickT st rfl rfl rfl ?_
            refine o_mv st rfl rfl ?_
            refine st_sp (dj := 38) rfl ?_ ?_
            · refine st_gw rfl rfl (o_callP (vs := []) Tryd.call25 rfl rfl (by intro w m h; exact (w_laws_alive (F := allB [] w) allB_ok h).mono (fun _ _ k => ret_free (fun r u => fr_nil) k)) ?_); rintro r74 _
              refine o_pickT st rfl rfl rfl ?_
              refine o_mv st rfl rfl ?_
              refine st_sp (dj := 41) rfl ?_ ?_
              · refine st_s rfl rfl rfl rfl ?_
                refine st_s rfl rfl rfl rfl ?_
                refine st_s rfl rfl rfl rfl ?_
                refine st_s rfl rfl rfl rfl ?_
                refine st_s rfl rfl rfl rfl ?_
                refine st_s rfl rfl rfl rfl ?_
                refine st_s rfl rfl rfl rfl ?_
                refine o_pickT st rfl rfl rfl ?_
                refine o_as st rfl rfl ?_
                refine c_nil ?_
                exact l_join true (fun a w hE hm => ⟨hE.sub ⟨rfl, trivial⟩, (hm.pick [1] rfl)⟩)
              · refine o_mv (st_g rfl rfl) rfl rfl ?_
                refine o_mv (st_g rfl rfl) rfl rfl ?_
                refine st_sp (dj := 43) rfl ?_ ?_
                · refine o_ldc (st_g rfl rfl) (v := (.agg #[(.int .i64 r4.xField), (.int .i64 r4.xLo), (.int .i64 r4.xHi), (.bool r4.xNot)])) 0 rfl rfl rfl ty25 rfl ?_
                  refine st_gw rfl rfl (o_callP (vs := [(.agg #[(.int .i64 r4.xField), (.int .i64 r4.xLo), (.int .i64 r4.xHi), (.bool r4.xNot)])]) Tryd.call17 rfl rfl (by intro w m h; exact (w_impl_TestText (F := allB [] w) (t_0 := r4) allB_ok (m.rd0 1 rfl (reads_snap hgl0)) ((hgl1.of (m.get (i := 1) rfl)).mono fz_ok0) h).mono (fun _ _ k => ret_free (fun r u => fr_nil) k)) ?_); rintro r75 _
                  refine o_mv (st_g rfl rfl) rfl rfl ?_
                  refine o_eqlS (st_g rfl rfl) und9 rfl rfl rfl ?_
                  refine o_pickT (st_g rfl rfl) rfl rfl rfl ?_
                  refine o_pickF st rfl rfl rfl ?_
                  refine o_as st rfl rfl ?_
                  refine c_nil ?_
                  exact l_join (decide (r75 = r3)) (fun a w hE hm => ⟨hE.sub ⟨rfl, trivial⟩, (hm.pick [1] rfl)⟩)
                · refine st_s rfl rfl rfl rfl ?_
                  refine st_s rfl rfl rfl rfl ?_
                  refine st_s rfl rfl rfl rfl ?_
                  refine st_s rfl rfl rfl rfl ?_
                  refine o_pickF (st_g rfl rfl) rfl rfl rfl ?_
                  refine o_pickF st rfl rfl rfl ?_
                  refine o_as st rfl rfl ?_
                  refine c_nil ?_
                  exact l_join false (fun a w hE hm => ⟨hE.sub ⟨rfl, trivial⟩, (hm.pick [1] rfl)⟩)
            · refine st_s rfl rfl rfl rfl ?_
              refine o_pickF st rfl rfl rfl ?_
              refine o_mv st rfl rfl ?_
              refine o_mv (st_g rfl rfl) rfl rfl ?_
              refine o_mv (st_g rfl rfl) rfl rfl ?_
              refine st_sp (dj := 43) rfl ?_ ?_
              · refine o_ldc (st_g rfl rfl) (v := (.agg #[(.int .i64 r4.xField), (.int .i64 r4.xLo), (.int .i64 r4.xHi), (.bool r4.xNot)])) 0 rfl rfl rfl ty25 rfl ?_
                refine st_gw rfl rfl (o_callP (vs := [(.agg #[(.int .i64 r4.xField), (.int .i64 r4.xLo), (.int .i64 r4.xHi), (.bool r4.xNot)])]) Tryd.call17 rfl rfl (by intro w m h; exact (w_impl_TestText (F := allB [] w) (t_0 := r4) allB_ok (m.rd0 1 rfl (reads_snap hgl0)) ((hgl1.of (m.get (i := 1) rfl)).mono fz_ok0) h).mono (fun _ _ k => ret_free (fun r u => fr_nil) k)) ?_); rintro r76 _
                refine o_mv (st_g rfl rfl) rfl rfl ?_
                refine o_eqlS (st_g rfl rfl) und9 rfl rfl rfl ?_
                refine o_pickT (st_g rfl rfl) rfl rfl rfl ?_
                refine o_pickF st rfl rfl rfl ?_
                refine o_as st rfl rfl ?_
                refine c_nil ?_
                exact l_join (decide (r76 = r3)) (fun a w hE hm => ⟨hE.sub ⟨rfl, trivial⟩, (hm.pick [1] rfl)⟩)
              · refine st_s rfl rfl rfl rfl ?_
                refine st_s rfl rfl rfl rfl ?_
                refine st_s rfl rfl rfl rfl ?_
                refine st_s rfl rfl rfl rfl ?_
                refine o_pickF (st_g rfl rfl) rfl rfl rfl ?_
                refine o_pickF st rfl rfl rfl ?_
                refine o_as st rfl rfl ?_
                refine c_nil ?_
                exact l_join false (fun a w hE hm => ⟨hE.sub ⟨rfl, trivial⟩, (hm.pick [1] rfl)⟩)
          · refine st_s rfl rfl rfl rfl ?_
            refine st_s rfl rfl rfl rfl ?_
            refine st_s rfl rfl rfl rfl ?_
            refine o_pickF st rfl rfl rfl ?_
            refine o_mv st rfl rfl ?_
            refine st_s rfl rfl rfl rfl ?_
            refine o_pickF st rfl rfl rfl ?_
            refine o_mv st rfl rfl ?_
            refine o_mv (st_g rfl rfl) rfl rfl ?_
            refine o_mv (st_g rfl rfl) rfl rfl ?_
            refine st_sp (dj := 43) rfl ?_ ?_
            · refine o_ldc (st_g rfl rfl) (v := (.agg #[(.int .i64 r4.xField), (.int .i64 r4.xLo), (.int .i64 r4.xHi), (.bool r4.xNot)])) 0 rfl rfl rfl ty25 rfl ?_
              refine st_gw rfl rfl (o_callP (vs := [(.agg #[(.int .i64 r4.xField), (.int .i64 r4.xLo), (.int .i64 r4.xHi), (.bool r4.xNot)])]) Tryd.call17 rfl rfl (by intro w m h; exact (w_impl_TestText (F := allB [] w) (t_0 := r4) allB_ok (m.rd0 1 rfl (reads_snap hgl0)) ((hgl1.of (m.get (i := 1) rfl)).mono fz_ok0) h).mono (fun _ _ k => ret_free (fun r u => fr_nil) k)) ?_); rintro r77 _
              refine o_mv (st_g rfl rfl) rfl rfl ?_
              refine o_eqlS (st_g rfl rfl) und9 rfl rfl rfl ?_
              refine o_pickT (st_g rfl rfl) rfl rfl rfl ?_
              refine o_pickF st rfl rfl rfl ?_
              refine o_as st rfl rfl ?_
              refine c_nil ?_
              exact l_join (decide (r77 = r3)) (fun a w hE hm => ⟨hE.sub ⟨rfl, trivial⟩, (hm.pick [1] rfl)⟩)
            · refine st_s rfl rfl rfl rfl ?_
              refine st_s rfl rfl rfl rfl ?_
              refine st_s rfl rfl rfl rfl ?_
              refine st_s rfl rfl rfl rfl ?_
              refine o_pickF (st_g rfl rfl) rfl rfl rfl ?_
              refine o_pickF st rfl rfl rfl ?_
              refine o_as st rfl rfl ?_
              refine c_nil ?_
              exact l_join false (fun a w hE hm => ⟨hE.sub ⟨rfl, trivial⟩, (hm.pick [1] rfl)⟩)
        · rintro t138 a w ⟨hE, hm⟩ h
          refine nx_of hE hm h ?_
          clear hE hm h
          refine c_ret ?_
          exact l_end1 Tryd.results10 t138 () (rv_t rfl) (fun _ _ => NewCh.nil _ _ _ _)

set_option maxRecDepth 100000 in
set_option maxHeartbeats 8000000 in
theorem w_spec_l20Tests {w0 : World} {F : Nat → Prop} {b1 : Nat} {v2 : Value} {r_0_b : (List UInt8)} {r_0_p : Int} {n_1 : Int} {κ : ((List GTest) × Int) → Prop} (hF : ∀ b, F b → b < w0.heap.size ∧ ¬ feet [cellCh b1 [v2, (.int .i64 r_0_p)] 111] b) (hg : Given [cellCh b1 [v2, (.int .i64 r_0_p)] 111] F w0) (hv2 : Sl elU8 F w0 v2 r_0_b) (h : L_spec_l20Tests r_0_b r_0_p n_1 κ) :
    Calls Tryd.prog 94 #[(.pointer (some ⟨b1, 0, none⟩)), (.int .i64 n_1)] w0 (Ret [cellCh b1 [v2, (.int .i64 r_0_p)] 111] F w0 κ (fun (r : ((List GTest) × Int)) (u : Value) => u) (fun (r : ((List GTest) × Int)) (u : Value) => [ownCh elGTest 25 u r.1, cellCh b1 [v2, (.int .i64 r.2)] 111])) := by
  refine enterS (args := [(.pointer (some ⟨b1, 0, none⟩)), (.int .i64 n_1)]) [cellCh b1 [v2, (.int .i64 r_0_p)] 111] hF hg Tryd.func94 rfl Tryd.ntmps94 rfl h ?_
  clear h hF hg
  refine c_seq ?_
  refine c_region ?_
  refine stw (o_asn elGTest 25 rfl rfl ?_)
  refine c_nil ?_
  refine l_then ?_
  refine c_seq ?_
  refine c_region ?_
  refine stw (o_bsl (enc := encGTest) (qs := []) (cells := []) ([] : (List GTest)) flelGTest (by intro ρ h; simp only [List.map_toArray, List.map_cons, List.map_nil]) rfl el51 zero25 rfl rfl rfl rfl rfl rfl ?_); intro v6
  refine o_as st rfl rfl ?_
  refine c_nil ?_
  refine l_then ?_
  refine c_seq ?_
  refine c_seq ?_
  refine c_region ?_
  refine o_mv st rfl rfl ?_
  refine pk [2, 0, 1, 3] rfl ?_
  refine stw (o_call (vs := [(.pointer (some ⟨b1, 0, none⟩)), (.int .i64 4)]) (M0 := [cellCh b1 [v2, (.int .i64 r_0_p)] 111]) Tryd.call65 rfl rfl (by intro w m h; exact (w_spec_l20Rd_pick (F := allB [cellCh b1 [v2, (.int .i64 r_0_p)] 111] w) (r_0_b := r_0_b) (r_0_p := r_0_p) (n_1 := 4) allB_ok m.given (m.rdM 2 rfl (reads_snap hv2)) h).mono (fun _ _ k => ret_free (fun r u => (fr_cons free_cell fr_nil)) k)) ?_); rintro ⟨r8, r9⟩ _
  refine o_as st rfl rfl ?_
  refine c_nil ?_
  refine l_then ?_
  refine c_block ?_
  refine c_loop (σ := (Int × (List GTest) × Int)) (fun ((t10, xs12, t15) : (Int × (List GTest) × Int)) (a : Act) (w : World) => ∃ (v11 : Value), Has 32 [(0, (.pointer (some ⟨b1, 0, none⟩))), (1, (.int .i64 n_1)), (5, v11), (6, (.int .i64 t15))] a ∧ Mem (gB F [cellCh b1 [v2, (.int .i64 r_0_p)] 111] w0) (feet [cellCh b1 [v2, (.int .i64 r_0_p)] 111]) w0 [cellCh b1 [v2, (.int .i64 t10)] 111, snapCh w0 F, ownCh elGTest 25 v11 xs12] w) (fun a w hE hm => ⟨v6, hE.sub ⟨rfl, rfl, rfl, rfl, trivial⟩, (hm.pick [0, 3, 1] rfl)⟩) ?_
  rintro nx16 ⟨t10, xs12, t15⟩ a w ⟨v11, hE, hm⟩ h
  refine nx_of hE hm h ?_
  clear hE hm h
  refine c_seq ?_
  refine c_seq ?_
  refine c_region ?_
  refine o_mv st rfl rfl ?_
  refine o_gtr st rfl rfl rfl ?_
  refine c_nil ?_
  refine l_then ?_
  refine c_cond rfl ?_ ?_
  · refine c_skip ?_
    refine l_then ?_
    refine c_seq ?_
    refine c_block ?_
    refine c_region ?_
    refine o_mv st rfl rfl ?_
    refine o_mv st rfl rfl ?_
    refine stw (o_call (vs := [(.pointer (some ⟨b1, 0, none⟩)), (.int .i64 0)]) (M0 := [cellCh b1 [v2, (.int .i64 t10)] 111]) Tryd.call68 rfl rfl (by intro w m h; exact (w_spec_l20Test (F := allB [cellCh b1 [v2, (.int .i64 t10)] 111] w) (r_0_b := r_0_b) (r_0_p := t10) (n_1 := 0) allB_ok m.given (m.rdM 0 rfl (reads_snap hv2)) h).mono (fun _ _ k => ret_free (fun r u => (fr_cons free_cell fr_nil)) k)) ?_); rintro ⟨r17, r18⟩ _
    refine stw (o_bsl (enc := encGTest) (qs := [(0, (.agg #[(.int .i64 r17.xField), (.int .i64 r17.xLo), (.int .i64 r17.xHi), (.bool r17.xNot)]))]) (cells := [(.int .i64 r17.xField), (.int .i64 r17.xLo), (.int .i64 r17.xHi), (.bool r17.xNot)]) ([r17]) flelGTest (by intro ρ h; simp only [List.map_toArray, List.map_cons, List.map_nil, h (.tmp 16) _ rfl]) rfl el51 zero25 rfl rfl rfl rfl rfl rfl ?_); intro v19
    refine stw (o_app 3 0 rfl rfl (src_flat flelGTest reads_own) rfl rfl rfl el51 rfl zero25 rfl rfl ?_); intro v21
    refine o_as st rfl rfl ?_
    refine c_nil ?_
    refine b_norm ?_
    refine l_then ?_
    refine c_region ?_
    refine o_mv st rfl rfl ?_
    refine o_sub st rfl rfl rfl ?_; intro t23
    refine o_as st rfl rfl ?_
    refine c_nil ?_
    exact l_join (r18, (xs12 ++ ([r17])), t23) (fun a w hE hm => ⟨v21, hE.sub ⟨rfl, rfl, rfl, rfl, trivial⟩, (hm.pick [1, 2, 3] rfl)⟩)
  · refine c_exit ?_
    refine l_exit ?_
    refine l_exit ?_
    refine b_exit ?_
    refine l_then ?_
    refine c_join (σ := (Int × (List GTest))) (fun ((t97, xs99) : (Int × (List GTest))) (a : Act) (w : World) => ∃ (v98 : Value), Has 32 [(5, v98)] a ∧ Mem (gB F [cellCh b1 [v2, (.int .i64 r_0_p)] 111] w0) (feet [cellCh b1 [v2, (.int .i64 r_0_p)] 111]) w0 [cellCh b1 [v2, (.int .i64 t97)] 111, snapCh w0 F, ownCh elGTest 25 v98 xs99] w) ?_ ?_
    · intro k102
      refine c_seq ?_
      refine c_region ?_
      refine o_mv st rfl rfl ?_
      refine o_mv st rfl rfl ?_
      refine stw (o_call (vs := [(.pointer (some ⟨b1, 0, none⟩)), (.int .i64 n_1)]) (M0 := [cellCh b1 [v2, (.int .i64 t10)] 111]) Tryd.call64 rfl rfl (by intro w m h; exact (w_spec_l20Rd_odd (F := allB [cellCh b1 [v2, (.int .i64 t10)] 111] w) (r_0_b := r_0_b) (r_0_p := t10) (n_1 := n_1) allB_ok m.given (m.rdM 0 rfl (reads_snap hv2)) h).mono (fun _ _ k => ret_free (fun r u => (fr_cons free_cell fr_nil)) k)) ?_); rintro ⟨r24, r25⟩ _
      refine c_nil ?_
      refine l_then ?_
      refine c_cond rfl ?_ ?_
      · refine c_seq ?_
        refine c_region ?_
        refine o_mv st rfl rfl ?_
        refine stw (o_call (vs := [(.pointer (some ⟨b1, 0, none⟩)), (.int .i64 2)]) (M0 := [cellCh b1 [v2, (.int .i64 r25)] 111]) Tryd.call65 rfl rfl (by intro w m h; exact (w_spec_l20Rd_pick (F := allB [cellCh b1 [v2, (.int .i64 r25)] 111] w) (r_0_b := r_0_b) (r_0_p := r25) (n_1 := 2) allB_ok m.given (m.rdM 0 rfl (reads_snap hv2)) h).mono (fun _ _ k => ret_free (fun r u => (fr_cons free_cell fr_nil)) k)) ?_); rintro ⟨r26, r27⟩ _
        refine o_eql st und3 rfl rfl rfl ?_
        refine c_nil ?_
        refine l_then ?_
        refine c_cond rfl ?_ ?_
        · refine c_region ?_
          refine o_mv st rfl rfl ?_
          refine o_mv st rfl rfl ?_
          refine stw (o_call (vs := [(.pointer (some ⟨b1, 0, none⟩)), (.int .i64 1)]) (M0 := [cellCh b1 [v2, (.int .i64 r27)] 111]) Tryd.call68 rfl rfl (by intro w m h; exact (w_spec_l20Test (F := allB [cellCh b1 [v2, (.int .i64 r27)] 111] w) (r_0_b := r_0_b) (r_0_p := r27) (n_1 := 1) allB_ok m.given (m.rdM 0 rfl (reads_snap hv2)) h).mono (fun _ _ k => ret_free (fun r u => (fr_cons free_cell fr_nil)) k)) ?_); rintro ⟨r28, r29⟩ _
          refine stw (o_bsl (enc := encGTest) (qs := [(0, (.agg #[(.int .i64 r28.xField), (.int .i64 r28.xLo), (.int .i64 r28.xHi), (.bool r28.xNot)]))]) (cells := [(.int .i64 r28.xField), (.int .i64 r28.xLo), (.int .i64 r28.xHi), (.bool r28.xNot)]) ([r28]) flelGTest (by intro ρ h; simp only [List.map_toArray, List.map_cons, List.map_nil, h (.tmp 27) _ rfl]) rfl el51 zero25 rfl rfl rfl rfl rfl rfl ?_); intro v30
          refine stw (o_app 3 0 rfl rfl (src_flat flelGTest reads_own) rfl rfl rfl el51 rfl zero25 rfl rfl ?_); intro v32
          refine o_as st rfl rfl ?_
          refine c_nil ?_
          exact l_join (r29, (xs12 ++ ([r28]))) (fun a w hE hm => ⟨v32, hE.sub ⟨rfl, trivial⟩, (hm.pick [1, 2, 3] rfl)⟩)
        · refine c_region ?_
          refine stw (o_make (z := (GTest.mk 0 0 0 false)) flelGTest rfl rfl rfl el51 rfl zero25 rfl rfl ?_); intro v34 xs35
          refine o_as st rfl rfl ?_
          refine c_nil ?_
          exact l_join (r27, xs35) (fun a w hE hm => ⟨v34, hE.sub ⟨rfl, trivial⟩, (hm.pick [1, 2, 0] rfl)⟩)
      · refine c_skip ?_
        exact l_join (r25, xs12) (fun a w hE hm => ⟨v11, hE.sub ⟨rfl, trivial⟩, (hm.pick [0, 1, 2] rfl)⟩)
    · rintro ⟨t97, xs99⟩ a w ⟨v98, hE, hm⟩ h
      refine nx_of hE hm h ?_
      clear hE hm h
      refine c_seq ?_
      refine c_region ?_
      refine o_mv st rfl rfl ?_
      refine o_as st rfl rfl ?_
      refine c_nil ?_
      refine l_then ?_
      refine c_ret ?_
      exact l_end1 Tryd.results94 (xs99, t97) v98 (rv_t rfl) (fun w m => NewCh.ofB m [2, 0] rfl)

set_option maxRecDepth 100000 in
set_option maxHeartbeats 8000000 in
theorem w_spec_l20Rule {w0 : World} {F : Nat → Prop} {b1 : Nat} {v2 : Value} {r_0_b : (List UInt8)} {r_0_p : Int} {first_1 : Int} {chains_2 : Int} {n_3 : Int} {κ : (GRule × Int) → Prop} (hF : ∀ b, F b → b < w0.heap.size ∧ ¬ feet [cellCh b1 [v2, (.int .i64 r_0_p)] 111] b) (hg : Given [cellCh b1 [v2, (.int .i64 r_0_p)] 111] F w0) (hv2 : Sl elU8 F w0 v2 r_0_b) (h : L_spec_l20Rule r_0_b r_0_p first_1 chains_2 n_3 κ) :
    Calls Tryd.prog 75 #[(.pointer (some ⟨b1, 0, none⟩)), (.int .i64 first_1), (.int .i64 chains_2), (.int .i64 n_3)] w0 (Ret [cellCh b1 [v2, (.int .i64 r_0_p)] 111] F w0 κ (fun (r : (GRule × Int)) (u : Value) => (.agg #[u, (.int .i64 r.1.xAction), (.int .i64 r.1.xChain)])) (fun (r : (GRule × Int)) (u : Value) => [ownCh elGTest 25 u r.1.xTests, cellCh b1 [v2, (.int .i64 r.2)] 111])) := by
  refine enterS (args := [(.pointer (some ⟨b1, 0, none⟩)), (.int .i64 first_1), (.int .i64 chains_2), (.int .i64 n_3)]) [cellCh b1 [v2, (.int .i64 r_0_p)] 111] hF hg Tryd.func75 rfl Tryd.ntmps75 rfl h ?_
  clear h hF hg
  refine c_seq ?_
  refine c_region ?_
  refine stw (o_alloc rfl [(.slice none 0 0), (.int .i64 0), (.int .i64 0)] zero53 ?_); intro b5
  refine c_nil ?_
  refine l_then ?_
  refine c_seq ?_
  refine c_region ?_
  refine o_mv st rfl rfl ?_
  refine pk [1, 0, 2] rfl ?_
  refine stw (o_call (vs := [(.pointer (some ⟨b1, 0, none⟩)), (.int .i64 0)]) (M0 := [cellCh b1 [v2, (.int .i64 r_0_p)] 111]) Tryd.call94 rfl rfl (by intro w m h; exact (w_spec_l20Tests (F := allB [cellCh b1 [v2, (.int .i64 r_0_p)] 111] w) (r_0_b := r_0_b) (r_0_p := r_0_p) (n_1 := 0) allB_ok m.given (m.rdM 1 rfl (reads_snap hv2)) h).mono (fun _ _ k => ret_free (fun r u => (fr_cons (free_own flelGTest) (fr_cons free_cell fr_nil))) k)) ?_); rintro ⟨r7, r10⟩ v8
  refine stw (o_bsl (enc := encInt) (qs := [(0, (.int .i64 1)), (1, (.int .i64 1)), (2, (.int .i64 2)), (3, (.int .i64 2)), (4, (.int .i64 3)), (5, (.int .i64 3)), (6, (.int .i64 4)), (7, (.int .i64 5))]) (cells := [(.int .i64 1), (.int .i64 1), (.int .i64 2), (.int .i64 2), (.int .i64 3), (.int .i64 3), (.int .i64 4), (.int .i64 5)]) ([1, 1, 2, 2, 3, 3, 4, 5]) flelInt (by intro ρ h; simp only [List.map_toArray, List.map_cons, List.map_nil, h (.const (.int .i64 1)) _ rfl, h (.const (.int .i64 1)) _ rfl, h (.const (.int .i64 2)) _ rfl, h (.const (.int .i64 2)) _ rfl, h (.const (.int .i64 3)) _ rfl, h (.const (.int .i64 3)) _ rfl, h (.const (.int .i64 4)) _ rfl, h (.const (.int .i64 5)) _ rfl]) rfl el103 zero3 rfl rfl rfl rfl rfl rfl ?_); intro v11
  refine o_mv st rfl rfl ?_
  refine pk [2, 0, 1, 3, 4] rfl ?_
  refine stw (o_call (vs := [(.pointer (some ⟨b1, 0, none⟩)), (.int .i64 8)]) (M0 := [cellCh b1 [v2, (.int .i64 r10)] 111]) Tryd.call65 rfl rfl (by intro w m h; exact (w_spec_l20Rd_pick (F := allB [cellCh b1 [v2, (.int .i64 r10)] 111] w) (r_0_b := r_0_b) (r_0_p := r10) (n_1 := 8) allB_ok m.given (m.rdM 3 rfl (reads_snap hv2)) h).mono (fun _ _ k => ret_free (fun r u => (fr_cons free_cell fr_nil)) k)) ?_); rintro ⟨r13, r14⟩ _
  refine o_idx st 1 rfl reads_own rfl rfl rfl el103 ?_; intro e15 h16
  refine o_lds st (enc := encInt) (u := (.int .i64 e15)) 1 rfl reads_own flelInt rfl h16 rfl rfl ty3 rfl ?_
  refine nx_own 2 rfl ?_; rintro a17 l18 q19 rfl
  refine o_bld st (qs := [(0, (.slice a17 l18 q19)), (1, (.int .i64 e15))]) (cells := [(.slice a17 l18 q19), (.int .i64 e15), (.int .i64 0)]) (by intro ρ h; simp only [List.map_toArray, List.map_cons, List.map_nil, h (.tmp 11) _ rfl, h (.tmp 16) _ rfl]) rfl bld53 rfl ?_
  refine stw (o_alloc rfl [(.slice none 0 0), (.int .i64 0), (.int .i64 0)] zero53 ?_); intro b20
  refine stw (o_stc (cs' := [(.slice a17 l18 q19), (.int .i64 e15), (.int .i64 0)]) 0 rfl rfl rfl ty53 rfl rfl rfl rfl ?_)
  refine c_nil ?_
  refine l_then ?_
  refine c_join (σ := (Int × Int × Int)) (fun ((t86, t87, t88) : (Int × Int × Int)) (a : Act) (w : World) => Has 58 [(0, (.pointer (some ⟨b1, 0, none⟩))), (3, (.int .i64 n_3)), (8, (.pointer (some ⟨b5, 0, none⟩))), (9, (.pointer (some ⟨b20, 0, none⟩)))] a ∧ Mem (gB F [cellCh b1 [v2, (.int .i64 r_0_p)] 111] w0) (feet [cellCh b1 [v2, (.int .i64 r_0_p)] 111]) w0 [cellCh b20 [(.slice a17 l18 q19), (.int .i64 t86), (.int .i64 t87)] 53, cellCh b1 [v2, (.int .i64 t88)] 111, ownCh elGTest 25 (.slice a17 l18 q19) r7, cellCh b5 [(.slice none 0 0), (.int .i64 0), (.int .i64 0)] 53, snapCh w0 F] w) ?_ ?_
  · intro k89
    refine c_seq ?_
    refine c_region ?_
    refine o_fad st rfl rfl fld53_1 rfl ?_
    refine o_ldc st (v := (.int .i64 e15)) 0 rfl rfl rfl ty3 rfl ?_
    refine o_eql st und3 rfl rfl rfl ?_
    refine c_nil ?_
    refine l_then ?_
    refine c_cond rfl ?_ ?_
    · refine c_seq ?_
      refine c_region ?_
      refine o_mv st rfl rfl ?_
      refine o_mv st rfl rfl ?_
      refine o_geq st rfl rfl rfl ?_
      refine c_nil ?_
      refine l_then ?_
      refine c_cond rfl ?_ ?_
      · refine c_region ?_
        refine o_fad st rfl rfl fld53_1 rfl ?_
        refine stw (o_stc (cs' := [(.slice a17 l18 q19), (.int .i64 2), (.int .i64 0)]) 0 rfl rfl rfl ty3 rfl rfl rfl rfl ?_)
        refine c_nil ?_
        exact l_join (2, 0, r14) (fun a w hE hm => ⟨hE.sub ⟨rfl, rfl, rfl, rfl, trivial⟩, (hm.pick [0, 1, 3, 4, 5] rfl)⟩)
      · refine c_region ?_
        refine o_mv st rfl rfl ?_
        refine o_mv st rfl rfl ?_
        refine o_mv st rfl rfl ?_
        refine o_mv st rfl rfl ?_
        refine o_sub st rfl rfl rfl ?_; intro t22
        refine pk [1, 0, 2, 3, 4, 5] rfl ?_
        refine stw (o_call (vs := [(.pointer (some ⟨b1, 0, none⟩)), (.int .i64 t22)]) (M0 := [cellCh b1 [v2, (.int .i64 r14)] 111]) Tryd.call65 rfl rfl (by intro w m h; exact (w_spec_l20Rd_pick (F := allB [cellCh b1 [v2, (.int .i64 r14)] 111] w) (r_0_b := r_0_b) (r_0_p := r14) (n_1 := t22) allB_ok m.given (m.rdM 4 rfl (reads_snap hv2)) h).mono (fun _ _ k => ret_free (fun r u => (fr_cons free_cell fr_nil)) k)) ?_); rintro ⟨r23, r24⟩ _
        refine o_add st rfl rfl rfl ?_; intro t25
        refine o_fad st rfl rfl fld53_2 rfl ?_
        refine stw (o_stc (cs' := [(.slice a17 l18 q19), (.int .i64 e15), (.int .i64 t25)]) 1 rfl rfl rfl ty3 rfl rfl rfl rfl ?_)
        refine c_nil ?_
        exact l_join (e15, t25, r24) (fun a w hE hm => ⟨hE.sub ⟨rfl, rfl, rfl, rfl, trivial⟩, (hm.pick [1, 0, 3, 4, 5] rfl)⟩)
    · refine c_skip ?_
      exact l_join (e15, 0, r14) (fun a w hE hm => ⟨hE.sub ⟨rfl, rfl, rfl, rfl, trivial⟩, (hm.pick [0, 1, 3, 4, 5] rfl)⟩)
  · rintro ⟨t86, t87, t88⟩ a w ⟨hE, hm⟩ h
    refine nx_of hE hm h ?_
    clear hE hm h
    refine c_join (σ := (Int × (List GTest) × Int × Int)) (fun ((t173, xs175, t178, t179) : (Int × (List GTest) × Int × Int)) (a : Act) (w : World) => ∃ (v174 : Value), Has 58 [(8, (.pointer (some ⟨b5, 0, none⟩))), (9, (.pointer (some ⟨b20, 0, none⟩)))] a ∧ Mem (gB F [cellCh b1 [v2, (.int .i64 r_0_p)] 111] w0) (feet [cellCh b1 [v2, (.int .i64 r_0_p)] 111]) w0 [cellCh b1 [v2, (.int .i64 t173)] 111, cellCh b20 [v174, (.int .i64 t178), (.int .i64 t179)] 53, cellCh b5 [(.slice none 0 0), (.int .i64 0), (.int .i64 0)] 53, snapCh w0 F, ownCh elGTest 25 v174 xs175] w) ?_ ?_
    · intro k180
      refine c_seq ?_
      refine c_region ?_
      refine o_mv st rfl rfl ?_
      refine o_mv st rfl rfl ?_
      refine pk [1, 0, 2, 3, 4] rfl ?_
      refine stw (o_call (vs := [(.pointer (some ⟨b1, 0, none⟩)), (.int .i64 n_3)]) (M0 := [cellCh b1 [v2, (.int .i64 t88)] 111]) Tryd.call64 rfl rfl (by intro w m h; exact (w_spec_l20Rd_odd (F := allB [cellCh b1 [v2, (.int .i64 t88)] 111] w) (r_0_b := r_0_b) (r_0_p := t88) (n_1 := n_3) allB_ok m.given (m.rdM 3 rfl (reads_snap hv2)) h).mono (fun _ _ k => ret_free (fun r u => (fr_cons free_cell fr_nil)) k)) ?_); rintro ⟨r90, r91⟩ _
      refine c_nil ?_
      refine l_then ?_
      refine c_cond rfl ?_ ?_
      · refine c_seq ?_
        refine c_region ?_
        refine o_mv st rfl rfl ?_
        refine stw (o_call (vs := [(.pointer (some ⟨b1, 0, none⟩)), (.int .i64 3)]) (M0 := [cellCh b1 [v2, (.int .i64 r91)] 111]) Tryd.call65 rfl rfl (by intro w m h; exact (w_spec_l20Rd_pick (F := allB [cellCh b1 [v2, (.int .i64 r91)] 111] w) (r_0_b := r_0_b) (r_0_p := r91) (n_1 := 3) allB_ok m.given (m.rdM 3 rfl (reads_snap hv2)) h).mono (fun _ _ k => ret_free (fun r u => (fr_cons free_cell fr_nil)) k)) ?_); rintro ⟨r92, r93⟩ _
        refine c_nil ?_
        refine l_then ?_
        refine c_block ?_
        refine c_seq ?_
        refine c_region ?_
        refine o_eql st und3 rfl rfl rfl ?_
        refine o_as st rfl rfl ?_
        refine c_nil ?_
        refine l_then ?_
        refine c_cond rfl ?_ ?_
        · refine c_region ?_
          refine stw (o_bsl (enc := encInt) (qs := [(0, (.int .i64 0)), (1, (.int .i64 6))]) (cells := [(.int .i64 0), (.int .i64 6)]) ([0, 6]) flelInt (by intro ρ h; simp only [List.map_toArray, List.map_cons, List.map_nil, h (.const (.int .i64 0)) _ rfl, h (.const (.int .i64 6)) _ rfl]) rfl el103 zero3 rfl rfl rfl rfl rfl rfl ?_); intro v94
          refine o_mv st rfl rfl ?_
          refine pk [1, 0, 2, 3, 4, 5] rfl ?_
          refine stw (o_call (vs := [(.pointer (some ⟨b1, 0, none⟩)), (.int .i64 2)]) (M0 := [cellCh b1 [v2, (.int .i64 r93)] 111]) Tryd.call65 rfl rfl (by intro w m h; exact (w_spec_l20Rd_pick (F := allB [cellCh b1 [v2, (.int .i64 r93)] 111] w) (r_0_b := r_0_b) (r_0_p := r93) (n_1 := 2) allB_ok m.given (m.rdM 4 rfl (reads_snap hv2)) h).mono (fun _ _ k => ret_free (fun r u => (fr_cons free_cell fr_nil)) k)) ?_); rintro ⟨r96, r97⟩ _
          refine o_idx st 1 rfl reads_own rfl rfl rfl el103 ?_; intro e98 h99
          refine o_lds st (enc := encInt) (u := (.int .i64 e98)) 1 rfl reads_own flelInt rfl h99 rfl rfl ty3 rfl ?_
          refine o_fad st rfl rfl fld53_1 rfl ?_
          refine stw (o_stc (cs' := [(.slice a17 l18 q19), (.int .i64 e98), (.int .i64 t87)]) 2 rfl rfl rfl ty3 rfl rfl rfl rfl ?_)
          refine c_nil ?_
          refine b_norm ?_
          exact l_join (r97, r7, e98, t87) (fun a w hE hm => ⟨(.slice a17 l18 q19), hE.sub ⟨rfl, rfl, trivial⟩, (hm.pick [0, 2, 4, 5, 3] rfl)⟩)
        · refine c_seq ?_
          refine c_region ?_
          refine o_eql st und3 rfl rfl rfl ?_
          refine o_as st rfl rfl ?_
          refine c_nil ?_
          refine l_then ?_
          refine c_cond rfl ?_ ?_
          · refine c_region ?_
            refine stw (o_bsl (enc := encInt) (qs := [(0, (.int .i64 (-1))), (1, (.int .i64 5)), (2, (.int .i64 1))]) (cells := [(.int .i64 (-1)), (.int .i64 5), (.int .i64 1)]) ([(-1), 5, 1]) flelInt (by intro ρ h; simp only [List.map_toArray, List.map_cons, List.map_nil, h (.const (.int .i64 (-1))) _ rfl, h (.const (.int .i64 5)) _ rfl, h (.const (.int .i64 1)) _ rfl]) rfl el103 zero3 rfl rfl rfl rfl rfl rfl ?_); intro v100
            refine o_mv st rfl rfl ?_
            refine pk [1, 0, 2, 3, 4, 5] rfl ?_
            refine stw (o_call (vs := [(.pointer (some ⟨b1, 0, none⟩)), (.int .i64 3)]) (M0 := [cellCh b1 [v2, (.int .i64 r93)] 111]) Tryd.call65 rfl rfl (by intro w m h; exact (w_spec_l20Rd_pick (F := allB [cellCh b1 [v2, (.int .i64 r93)] 111] w) (r_0_b := r_0_b) (r_0_p := r93) (n_1 := 3) allB_ok m.given (m.rdM 4 rfl (reads_snap hv2)) h).mono (fun _ _ k => ret_free (fun r u => (fr_cons free_cell fr_nil)) k)) ?_); rintro ⟨r102, r103⟩ _
            refine o_idx st 1 rfl reads_own rfl rfl rfl el103 ?_; intro e104 h105
            refine o_lds st (enc := encInt) (u := (.int .i64 e104)) 1 rfl reads_own flelInt rfl h105 rfl rfl ty3 rfl ?_
            refine o_fad st rfl rfl fld53_2 rfl ?_
            refine stw (o_stc (cs' := [(.slice a17 l18 q19), (.int .i64 t86), (.int .i64 e104)]) 2 rfl rfl rfl ty3 rfl rfl rfl rfl ?_)
            refine c_nil ?_
            refine b_norm ?_
            exact l_join (r103, r7, t86, e104) (fun a w hE hm => ⟨(.slice a17 l18 q19), hE.sub ⟨rfl, rfl, trivial⟩, (hm.pick [0, 2, 4, 5, 3] rfl)⟩)
          · refine c_region ?_
            refine o_mv st rfl rfl ?_
            refine stw (o_call (vs := [(.pointer (some ⟨b1, 0, none⟩)), (.int .i64 1)]) (M0 := [cellCh b1 [v2, (.int .i64 r93)] 111]) Tryd.call94 rfl rfl (by intro w m h; exact (w_spec_l20Tests (F := allB [cellCh b1 [v2, (.int .i64 r93)] 111] w) (r_0_b := r_0_b) (r_0_p := r93) (n_1 := 1) allB_ok m.given (m.rdM 3 rfl (reads_snap hv2)) h).mono (fun _ _ k => ret_free (fun r u => (fr_cons (free_own flelGTest) (fr_cons free_cell fr_nil))) k)) ?_); rintro ⟨r106, r109⟩ v107
            refine o_fad st rfl rfl fld53_0 rfl ?_
            refine nx_own 0 rfl ?_; rintro a110 l111 q112 rfl
            refine stw (o_stc (cs' := [(.slice a110 l111 q112), (.int .i64 t86), (.int .i64 t87)]) 2 rfl rfl rfl ty51 rfl rfl rfl rfl ?_)
            refine c_nil ?_
            refine b_norm ?_
            exact l_join (r109, r106, t86, t87) (fun a w hE hm => ⟨(.slice a110 l111 q112), hE.sub ⟨rfl, rfl, trivial⟩, (hm.pick [1, 2, 4, 5, 0] rfl)⟩)
      · refine c_skip ?_
        exact l_join (r91, r7, t86, t87) (fun a w hE hm => ⟨(.slice a17 l18 q19), hE.sub ⟨rfl, rfl, trivial⟩, (hm.pick [0, 1, 3, 4, 2] rfl)⟩)
    · rintro ⟨t173, xs175, t178, t179⟩ a w ⟨v174, hE, hm⟩ h
      refine nx_of hE hm h ?_
      clear hE hm h
      refine c_seq ?_
      refine c_region ?_
      refine o_ldc st (v := (.agg #[v174, (.int .i64 t178), (.int .i64 t179)])) 1 rfl rfl rfl ty53 rfl ?_
      refine nx_own 4 rfl ?_; rintro a181 l182 q183 rfl
      refine stw (o_stc (cs' := [(.slice a181 l182 q183), (.int .i64 t178), (.int .i64 t179)]) 2 rfl rfl rfl ty53 rfl rfl rfl rfl ?_)
      refine c_nil ?_
      refine l_then ?_
      refine c_ret ?_
      exact l_end1 Tryd.results75 ((GRule.mk xs175 t178 t179), t173) (.slice a181 l182 q183) (rv_c 2 rfl rfl ty53 rfl) (fun w m => NewCh.ofB m [4, 0] rfl)

set_option maxRecDepth 100000 in
set_option maxHeartbeats 8000000 in
theorem w_spec_DrawRuleText {w0 : World} {F : Nat → Prop} {v1 : Value} {code_0 : (List UInt8)} {κ : GRule → Prop} (hF : ∀ b, F b → b < w0.heap.size ∧ ¬ feet [] b) (hv1 : Sl elU8 F w0 v1 code_0) (h : L_spec_DrawRuleText code_0 κ) :
    Calls Tryd.prog 38 #[v1] w0 (Ret [] F w0 κ (fun (r : GRule) (u : Value) => (.agg #[u, (.int .i64 r.xAction), (.int .i64 r.xChain)])) (fun (r : GRule) (u : Value) => [ownCh elGTest 25 u r.xTests])) := by
  refine enterS (args := [v1]) [] hF (Given.nil _ _) Tryd.func38 rfl Tryd.ntmps38 rfl h ?_
  clear h hF
  refine c_seq ?_
  refine c_region ?_
  refine stw (o_alloc rfl [(.slice none 0 0), (.int .i64 0), (.int .i64 0)] zero53 ?_); intro b3
  refine c_nil ?_
  refine l_then ?_
  refine c_seq ?_
  refine c_region ?_
  refine o_mv st rfl rfl ?_
  refine stw (o_callP (vs := [v1]) Tryd.call60 rfl rfl (by intro w m h; exact w_spec_l20Open (code_0 := code_0) fz_ok0 (m.roS 1 rfl hv1) h) ?_); rintro ⟨r7, r10⟩ ⟨b5, v8⟩
  refine stw (o_call (vs := [(.pointer (some ⟨b5, 0, none⟩)), (.int .i64 1), (.int .i64 4), (.int .i64 6)]) (M0 := [cellCh b5 [v8, (.int .i64 r10)] 111]) Tryd.call75 rfl rfl (by intro w m h; exact (w_spec_l20Rule (F := allB [cellCh b5 [v8, (.int .i64 r10)] 111] w) (r_0_b := r7) (r_0_p := r10) (first_1 := 1) (chains_2 := 4) (n_3 := 6) allB_ok m.given (m.rdM 0 rfl reads_ro) h).mono (fun _ _ k => ret_free (fun r u => (fr_cons (free_own flelGTest) (fr_cons free_cell fr_nil))) k)) ?_); rintro ⟨r11, r14⟩ v12
  refine nx_own 0 rfl ?_; rintro a15 l16 q17 rfl
  refine stw (o_stc (cs' := [(.slice a15 l16 q17), (.int .i64 r11.xAction), (.int .i64 r11.xChain)]) 3 rfl rfl rfl ty53 rfl rfl rfl rfl ?_)
  refine c_nil ?_
  refine l_then ?_
  refine c_ret ?_
  exact l_end1 Tryd.results38 r11 (.slice a15 l16 q17) (rv_c 3 rfl rfl ty53 rfl) (fun w m => NewCh.ofB m [0] rfl)

set_option maxRecDepth 100000 in
set_option maxHeartbeats 8000000 in
theorem w_impl_scanner_action {w0 : World} {F : Nat → Prop} {b1 : Nat} {in_0_text : ByteArray} {in_0_at : Int} {κ : (GRule × Bool × Int) → Prop} (hF : ∀ b, F b → b < w0.heap.size ∧ ¬ feet [cellCh b1 [(.string in_0_text), (.int .i64 in_0_at)] 77] b) (hg : Given [cellCh b1 [(.string in_0_text), (.int .i64 in_0_at)] 77] F w0) (h : L_impl_scanner_action in_0_text in_0_at κ) :
    Calls Tryd.prog 77 #[(.pointer (some ⟨b1, 0, none⟩))] w0 (Ret [cellCh b1 [(.string in_0_text), (.int .i64 in_0_at)] 77] F w0 κ (fun (r : (GRule × Bool × Int)) (u : Value) => .tuple #[(.agg #[u, (.int .i64 r.1.xAction), (.int .i64 r.1.xChain)]), (.bool r.2.1)]) (fun (r : (GRule × Bool × Int)) (u : Value) => [ownCh elGTest 25 u r.1.xTests, cellCh b1 [(.string in_0_text), (.int .i64 r.2.2)] 77])) := by
  refine enter0 (args := [(.pointer (some ⟨b1, 0, none⟩))]) [cellCh b1 [(.string in_0_text), (.int .i64 in_0_at)] 77] hF hg Tryd.func77 rfl Tryd.ntmps77 rfl h ?_
  clear h hF hg
  refine c_seq ?_
  refine c_region ?_
  refine stw (o_alloc rfl [(.slice none 0 0), (.int .i64 0), (.int .i64 0)] zero53 ?_); intro b3
  refine o_as st rfl rfl ?_
  refine c_nil ?_
  refine l_then ?_
  refine c_seq ?_
  refine c_seq ?_
  refine c_region ?_
  refine o_as st rfl rfl ?_
  refine c_nil ?_
  refine l_then ?_
  refine c_block ?_
  refine c_loop (σ := (Int × Int)) (fun ((t5, t6) : (Int × Int)) (a : Act) (w : World) => Has 36 [(0, (.pointer (some ⟨b1, 0, none⟩))), (2, (.pointer (some ⟨b3, 0, none⟩))), (4, (.int .i64 t6))] a ∧ Mem (gB F [cellCh b1 [(.string in_0_text), (.int .i64 in_0_at)] 77] w0) (feet [cellCh b1 [(.string in_0_text), (.int .i64 in_0_at)] 77]) w0 [cellCh b3 [(.slice none 0 0), (.int .i64 0), (.int .i64 0)] 53, cellCh b1 [(.string in_0_text), (.int .i64 t5)] 77] w) (fun a w hE hm => ⟨hE.sub ⟨rfl, rfl, rfl, trivial⟩, (hm.pick [0, 1] rfl)⟩) ?_
  rintro nx7 ⟨t5, t6⟩ a w ⟨hE, hm⟩ h
  refine nx_of hE hm h ?_
  clear hE hm h
  refine c_seq ?_
  refine c_seq ?_
  refine c_region ?_
  refine o_mv st rfl rfl ?_
  refine o_leq st rfl rfl rfl ?_
  refine c_nil ?_
  refine l_then ?_
  refine c_cond rfl ?_ ?_
  · refine c_skip ?_
    refine l_then ?_
    refine c_join (σ := Int) (fun (t218 : Int) (a : Act) (w : World) => Has 36 [(0, (.pointer (some ⟨b1, 0, none⟩))), (2, (.pointer (some ⟨b3, 0, none⟩))), (4, (.int .i64 t6))] a ∧ Mem (gB F [cellCh b1 [(.string in_0_text), (.int .i64 in_0_at)] 77] w0) (feet [cellCh b1 [(.string in_0_text), (.int .i64 in_0_at)] 77]) w0 [cellCh b1 [(.string in_0_text), (.int .i64 t218)] 77, cellCh b3 [(.slice none 0 0), (.int .i64 0), (.int .i64 0)] 53] w) ?_ ?_
    · intro k219
      refine c_block ?_
      refine c_seq ?_
      refine c_region ?_
      refine o_mv st rfl rfl ?_
      refine o_bld st (qs := [(1, (.int .i64 t6))]) (cells := [(.slice none 0 0), (.int .i64 t6), (.int .i64 0)]) (by intro ρ h; simp only [List.map_toArray, List.map_cons, List.map_nil, h (.tmp 12) _ rfl]) rfl bld53 rfl ?_
      refine stw (o_alloc rfl [(.slice none 0 0), (.int .i64 0), (.int .i64 0)] zero53 ?_); intro b8
      refine stw (o_stc (cs' := [(.slice none 0 0), (.int .i64 t6), (.int .i64 0)]) 0 rfl rfl rfl ty53 rfl rfl rfl rfl ?_)
      refine c_nil ?_
      refine l_then ?_
      refine c_join (σ := Int) (fun (t87 : Int) (a : Act) (w : World) => Has 36 [(0, (.pointer (some ⟨b1, 0, none⟩))), (2, (.pointer (some ⟨b3, 0, none⟩))), (4, (.int .i64 t6)), (5, (.pointer (some ⟨b8, 0, none⟩)))] a ∧ Mem (gB F [cellCh b1 [(.string in_0_text), (.int .i64 in_0_at)] 77] w0) (feet [cellCh b1 [(.string in_0_text), (.int .i64 in_0_at)] 77]) w0 [cellCh b1 [(.string in_0_text), (.int .i64 t87)] 77, cellCh b8 [(.slice none 0 0), (.int .i64 t6), (.int .i64 0)] 53, cellCh b3 [(.slice none 0 0), (.int .i64 0), (.int .i64 0)] 53] w) ?_ ?_
      · intro k88
        refine c_seq ?_
        refine c_region ?_
        refine o_mv st rfl rfl ?_
        refine o_ldc st (v := (.agg #[(.slice none 0 0), (.int .i64 t6), (.int .i64 0)])) 0 rfl rfl rfl ty53 rfl ?_
        refine stw (o_callP (vs := [(.agg #[(.slice none 0 0), (.int .i64 t6), (.int .i64 0)])]) Tryd.call93 rfl rfl (by intro w m h; exact (w_impl_actionOf (F := allB [] w) (r_0 := (GRule.mk ([]) t6 0)) allB_ok (Sl.nil _ _ _ _ _) h).mono (fun _ _ k => ret_free (fun r u => fr_nil) k)) ?_); rintro r10 _
        rcases r10 with x11 | x12 | x13 | x14
        · dsimp only [IAction.casesW]
          refine stw (o_callXP rfl (runs_inv rfl rfl (fun w => meth123_word _ w) Tryd.call130) rfl (by intro w m h; exact (w_impl_deciding_word (F := allB [] w) (d_0 := x11) allB_ok h).mono (fun _ _ k => ret_free (fun r u => fr_nil) k)) ?_); rintro r15 _
          refine pk [2, 0, 1] rfl ?_
          refine stw (o_call (vs := [(.pointer (some ⟨b1, 0, none⟩)), (.string r15)]) (M0 := [cellCh b1 [(.string in_0_text), (.int .i64 t5)] 77]) Tryd.call57 rfl rfl (by intro w m h; exact (w_impl_scanner_word (F := allB [cellCh b1 [(.string in_0_text), (.int .i64 t5)] 77] w) (in_0_text := in_0_text) (in_0_at := t5) (w_1 := r15) allB_ok m.given h).mono (fun _ _ k => ret_free (fun r u => (fr_cons free_cell fr_nil)) k)) ?_); rintro ⟨r16, r17⟩ _
          refine o_not st rfl rfl ?_
          refine c_nil ?_
          refine l_then ?_
          refine c_cond rfl ?_ ?_
          · refine c_exit ?_
            refine l_exit ?_
            refine b_exit ?_
            exact l_join r17 (fun a w hE hm => ⟨hE.sub ⟨rfl, rfl, rfl, trivial⟩, (hm.pick [0, 2] rfl)⟩)
          · refine c_skip ?_
            exact l_join r17 (fun a w hE hm => ⟨hE.sub ⟨rfl, rfl, rfl, rfl, trivial⟩, (hm.pick [0, 1, 2] rfl)⟩)
        · dsimp only [IAction.casesW]
          refine stw (o_callXP rfl (runs_inv rfl rfl (fun w => meth125_word _ w) Tryd.call133) rfl (by intro w m h; exact (w_impl_calling_word (F := allB [] w) (a_0 := x12) allB_ok h).mono (fun _ _ k => ret_free (fun r u => fr_nil) k)) ?_); rintro r18 _
          refine pk [2, 0, 1] rfl ?_
          refine stw (o_call (vs := [(.pointer (some ⟨b1, 0, none⟩)), (.string r18)]) (M0 := [cellCh b1 [(.string in_0_text), (.int .i64 t5)] 77]) Tryd.call57 rfl rfl (by intro w m h; exact (w_impl_scanner_word (F := allB [cellCh b1 [(.string in_0_text), (.int .i64 t5)] 77] w) (in_0_text := in_0_text) (in_0_at := t5) (w_1 := r18) allB_ok m.given h).mono (fun _ _ k => ret_free (fun r u => (fr_cons free_cell fr_nil)) k)) ?_); rintro ⟨r19, r20⟩ _
          refine o_not st rfl rfl ?_
          refine c_nil ?_
          refine l_then ?_
          refine c_cond rfl ?_ ?_
          · refine c_exit ?_
            refine l_exit ?_
            refine b_exit ?_
            exact l_join r20 (fun a w hE hm => ⟨hE.sub ⟨rfl, rfl, rfl, trivial⟩, (hm.pick [0, 2] rfl)⟩)
          · refine c_skip ?_
            exact l_join r20 (fun a w hE hm => ⟨hE.sub ⟨rfl, rfl, rfl, rfl, trivial⟩, (hm.pick [0, 1, 2] rfl)⟩)
        · dsimp only [IAction.casesW]
          refine stw (o_callXP rfl (runs_inv rfl rfl (fun w => meth127_word _ w) Tryd.call136) rfl (by intro w m h; exact (w_impl_returning_word (F := allB [] w) (a_0 := (GReturning.mk )) allB_ok h).mono (fun _ _ k => ret_free (fun r u => fr_nil) k)) ?_); rintro r21 _
          refine pk [2, 0, 1] rfl ?_
          refine stw (o_call (vs := [(.pointer (some ⟨b1, 0, none⟩)), (.string r21)]) (M0 := [cellCh b1 [(.string in_0_text), (.int .i64 t5)] 77]) Tryd.call57 rfl rfl (by intro w m h; exact (w_impl_scanner_word (F := allB [cellCh b1 [(.string in_0_text), (.int .i64 t5)] 77] w) (in_0_text := in_0_text) (in_0_at := t5) (w_1 := r21) allB_ok m.given h).mono (fun _ _ k => ret_free (fun r u => (fr_cons free_cell fr_nil)) k)) ?_); rintro ⟨r22, r23⟩ _
          refine o_not st rfl rfl ?_
          refine c_nil ?_
          refine l_then ?_
          refine c_cond rfl ?_ ?_
          · refine c_exit ?_
            refine l_exit ?_
            refine b_exit ?_
            exact l_join r23 (fun a w hE hm => ⟨hE.sub ⟨rfl, rfl, rfl, trivial⟩, (hm.pick [0, 2] rfl)⟩)
          · refine c_skip ?_
            exact l_join r23 (fun a w hE hm => ⟨hE.sub ⟨rfl, rfl, rfl, rfl, trivial⟩, (hm.pick [0, 1, 2] rfl)⟩)
        · dsimp only [IAction.casesW]
          refine stw (o_callXP rfl (runs_inv rfl rfl (fun w => meth128_word _ w) Tryd.call139) rfl (by intro w m h; exact (w_impl_passing_word (F := allB [] w) (a_0 := (GPassing.mk )) allB_ok h).mono (fun _ _ k => ret_free (fun r u => fr_nil) k)) ?_); rintro r24 _
          refine pk [2, 0, 1] rfl ?_
          refine stw (o_call (vs := [(.pointer (some ⟨b1, 0, none⟩)), (.string r24)]) (M0 := [cellCh b1 [(.string in_0_text), (.int .i64 t5)] 77]) Tryd.call57 rfl rfl (by intro w m h; exact (w_impl_scanner_word (F := allB [cellCh b1 [(.string in_0_text), (.int .i64 t5)] 77] w) (in_0_text := in_0_text) (in_0_at := t5) (w_1 := r24) allB_ok m.given h).mono (fun _ _ k => ret_free (fun r u => (fr_cons free_cell fr_nil)) k)) ?_); rintro ⟨r25, r26⟩ _
          refine o_not st rfl rfl ?_
          refine c_nil ?_
          refine l_then ?_
          refine c_cond rfl ?_ ?_
          · refine c_exit ?_
            refine l_exit ?_
            refine b_exit ?_
            exact l_join r26 (fun a w hE hm => ⟨hE.sub ⟨rfl, rfl, rfl, trivial⟩, (hm.pick [0, 2] rfl)⟩)
          · refine c_skip ?_
            exact l_join r26 (fun a w hE hm => ⟨hE.sub ⟨rfl, rfl, rfl, rfl, trivial⟩, (hm.pick [0, 1, 2] rfl)⟩)
      · rintro t87 a w ⟨hE, hm⟩ h
        refine nx_of hE hm h ?_
        clear hE hm h
        refine c_seq ?_
        refine c_seq ?_
        refine c_region ?_
        refine o_mv st rfl rfl ?_
        refine o_neq st und3 rfl rfl rfl ?_
        refine c_nil ?_
        refine l_then ?_
        refine c_cond rfl ?_ ?_
        · refine c_seq ?_
          refine c_region ?_
          refine o_ldc st (v := (.agg #[(.slice none 0 0), (.int .i64 t6), (.int .i64 0)])) 1 rfl rfl rfl ty53 rfl ?_
          refine stw (o_stc (cs' := [(.slice none 0 0), (.int .i64 t6), (.int .i64 0)]) 2 rfl rfl rfl ty53 rfl rfl rfl rfl ?_)
          refine o_as st rfl rfl ?_
          refine c_nil ?_
          refine l_then ?_
          refine c_ret ?_
          refine l_ret ?_
          refine b_ret ?_
          refine l_ret ?_
          refine l_ret ?_
          refine b_ret ?_
          refine l_ret ?_
          refine nx_nil elGTest 25 ?_
          exact l_end2 Tryd.results77 ((GRule.mk ([]) t6 0), true, t87) (.slice none 0 0) (rv_c 3 rfl rfl ty53 rfl) (rv_t rfl) rfl (fun w m => NewCh.ofB m [0, 1] rfl)
        · refine c_skip ?_
          refine l_then ?_
          refine c_seq ?_
          refine c_region ?_
          refine o_mv st rfl rfl ?_
          refine stw (o_call (vs := [(.pointer (some ⟨b1, 0, none⟩)), (.string (ByteArray.mk #[32]))]) (M0 := [cellCh b1 [(.string in_0_text), (.int .i64 t87)] 77]) Tryd.call57 rfl rfl (by intro w m h; exact (w_impl_scanner_word (F := allB [cellCh b1 [(.string in_0_text), (.int .i64 t87)] 77] w) (in_0_text := in_0_text) (in_0_at := t87) (w_1 := (ByteArray.mk #[32])) allB_ok m.given h).mono (fun _ _ k => ret_free (fun r u => (fr_cons free_cell fr_nil)) k)) ?_); rintro ⟨r90, r91⟩ _
          refine o_as st rfl rfl ?_
          refine o_as st rfl rfl ?_
          refine c_nil ?_
          refine l_then ?_
          refine c_join (σ := (Int × Int × Bool)) (fun ((t155, t156, t157) : (Int × Int × Bool)) (a : Act) (w : World) => Has 36 [(2, (.pointer (some ⟨b3, 0, none⟩))), (5, (.pointer (some ⟨b8, 0, none⟩))), (6, (.int .i64 t156)), (7, (.bool t157))] a ∧ Mem (gB F [cellCh b1 [(.string in_0_text), (.int .i64 in_0_at)] 77] w0) (feet [cellCh b1 [(.string in_0_text), (.int .i64 in_0_at)] 77]) w0 [cellCh b1 [(.string in_0_text), (.int .i64 t155)] 77, cellCh b8 [(.slice none 0 0), (.int .i64 t6), (.int .i64 0)] 53, cellCh b3 [(.slice none 0 0), (.int .i64 0), (.int .i64 0)] 53] w) ?_ ?_
          · intro k158
            refine c_seq ?_
            refine c_region ?_
            refine o_mv st rfl rfl ?_
            refine c_nil ?_
            refine l_then ?_
            refine c_cond rfl ?_ ?_
            · refine c_region ?_
              refine o_mv st rfl rfl ?_
              refine stw (o_call (vs := [(.pointer (some ⟨b1, 0, none⟩))]) (M0 := [cellCh b1 [(.string in_0_text), (.int .i64 r91)] 77]) Tryd.call56 rfl rfl (by intro w m h; exact (w_impl_scanner_number (F := allB [cellCh b1 [(.string in_0_text), (.int .i64 r91)] 77] w) (in_0_text := in_0_text) (in_0_at := r91) allB_ok m.given h).mono (fun _ _ k => ret_free (fun r u => (fr_cons free_cell fr_nil)) k)) ?_); rintro ⟨r92, r93, r94⟩ _
              refine o_mv st rfl rfl ?_
              refine o_ext st (vs := [(.int .i64 r92), (.bool r93)]) rfl rfl rfl ?_
              refine o_ext st (vs := [(.int .i64 r92), (.bool r93)]) rfl rfl rfl ?_
              refine o_as st rfl rfl ?_
              refine o_as st rfl rfl ?_
              refine c_nil ?_
              exact l_join (r94, r92, r93) (fun a w hE hm => ⟨hE.sub ⟨rfl, rfl, rfl, rfl, trivial⟩, (hm.pick [0, 1, 2] rfl)⟩)
            · refine c_skip ?_
              exact l_join (r91, 0, r90) (fun a w hE hm => ⟨hE.sub ⟨rfl, rfl, rfl, rfl, trivial⟩, (hm.pick [0, 1, 2] rfl)⟩)
          · rintro ⟨t155, t156, t157⟩ a w ⟨hE, hm⟩ h
            refine nx_of hE hm h ?_
            clear hE hm h
            refine c_seq ?_
            refine c_region ?_
            refine o_mv st rfl rfl ?_
            refine o_fad st rfl rfl fld53_2 rfl ?_
            refine stw (o_stc (cs' := [(.slice none 0 0), (.int .i64 t6), (.int .i64 t156)]) 1 rfl rfl rfl ty3 rfl rfl rfl rfl ?_)
            refine c_nil ?_
            refine l_then ?_
            refine c_seq ?_
            refine c_region ?_
            refine o_ldc st (v := (.agg #[(.slice none 0 0), (.int .i64 t6), (.int .i64 t156)])) 1 rfl rfl rfl ty53 rfl ?_
            refine o_mv st rfl rfl ?_
            refine stw (o_stc (cs' := [(.slice none 0 0), (.int .i64 t6), (.int .i64 t156)]) 2 rfl rfl rfl ty53 rfl rfl rfl rfl ?_)
            refine o_as st rfl rfl ?_
            refine c_nil ?_
            refine l_then ?_
            refine c_ret ?_
            refine b_ret ?_
            refine l_ret ?_
            refine l_ret ?_
            refine b_ret ?_
            refine l_ret ?_
            refine nx_nil elGTest 25 ?_
            exact l_end2 Tryd.results77 ((GRule.mk ([]) t6 t156), t157, t155) (.slice none 0 0) (rv_c 3 rfl rfl ty53 rfl) (rv_t rfl) rfl (fun w m => NewCh.ofB m [0, 1] rfl)
    · rintro t218 a w ⟨hE, hm⟩ h
      refine nx_of hE hm h ?_
      clear hE hm h
      refine c_region ?_
      refine o_mv st rfl rfl ?_
      refine o_add st rfl rfl rfl ?_; intro t220
      refine o_as st rfl rfl ?_
      refine c_nil ?_
      exact l_join (t218, t220) (fun a w hE hm => ⟨hE.sub ⟨rfl, rfl, rfl, trivial⟩, (hm.pick [1, 0] rfl)⟩)
  · refine c_exit ?_
    refine l_exit ?_
    refine l_exit ?_
    refine b_exit ?_
    refine l_then ?_
    refine c_seq ?_
    refine c_region ?_
    refine o_bld st (qs := []) (cells := [(.slice none 0 0), (.int .i64 0), (.int .i64 0)]) (by intro ρ h; simp only [List.map_toArray, List.map_cons, List.map_nil]) rfl bld53 rfl ?_
    refine stw (o_stc (cs' := [(.slice none 0 0), (.int .i64 0), (.int .i64 0)]) 0 rfl rfl rfl ty53 rfl rfl rfl rfl ?_)
    refine o_as st rfl rfl ?_
    refine c_nil ?_
    refine l_then ?_
    refine c_ret ?_
    refine nx_nil elGTest 25 ?_
    exact l_end2 Tryd.results77 ((GRule.mk ([]) 0 0), false, t5) (.slice none 0 0) (rv_c 1 rfl rfl ty53 rfl) (rv_t rfl) rfl (fun w m => NewCh.ofB m [0, 2] rfl)

set_option maxRecDepth 100000 in
set_option maxHeartbeats 8000000 in
theorem w_impl_ReadRule {w0 : World} {F : Nat → Prop} {s_0 : ByteArray} {κ : (GRule × Bool) → Prop} (hF : ∀ b, F b → b < w0.heap.size ∧ ¬ feet [] b) (hgl0 : Sl elGFieldShape F w0 (.slice (some ⟨0, 0, none⟩) 4 4) gl_impl_fieldShapes) (hgl1 : Tb F w0) (h : L_impl_ReadRule s_0 κ) :
    Calls Tryd.prog 40 #[(.string s_0)] w0 (Ret [] F w0 κ (fun (r : (GRule × Bool)) (u : Value) => .tuple #[(.agg #[u, (.int .i64 r.1.xAction), (.int .i64 r.1.xChain)]), (.bool r.2)]) (fun (r : (GRule × Bool)) (u : Value) => [ownCh elGTest 25 u r.1.xTests])) := by
  refine enterS (args := [(.string s_0)]) [] hF (Given.nil _ _) Tryd.func40 rfl Tryd.ntmps40 rfl h ?_
  clear h hF
  refine c_seq ?_
  refine c_region ?_
  refine stw (o_alloc rfl [(.slice none 0 0), (.int .i64 0), (.int .i64 0)] zero53 ?_); intro b1
  refine o_as st rfl rfl ?_
  refine c_nil ?_
  refine l_then ?_
  refine c_seq ?_
  refine c_region ?_
  refine o_mv st rfl rfl ?_
  refine o_bld st (qs := [(0, (.string s_0))]) (cells := [(.string s_0), (.int .i64 0)]) (by intro ρ h; simp only [List.map_toArray, List.map_cons, List.map_nil, h (.tmp 9) _ rfl]) rfl bld77 rfl ?_
  refine stw (o_alloc rfl [(.string (ByteArray.mk #[])), (.int .i64 0)] zero77 ?_); intro b3
  refine stw (o_stc (cs' := [(.string s_0), (.int .i64 0)]) 0 rfl rfl rfl ty77 rfl rfl rfl rfl ?_)
  refine c_nil ?_
  refine l_then ?_
  refine c_seq ?_
  refine c_region ?_
  refine stw (o_call (vs := [(.pointer (some ⟨b3, 0, none⟩))]) (M0 := [cellCh b3 [(.string s_0), (.int .i64 0)] 77]) Tryd.call77 rfl rfl (by intro w m h; exact (w_impl_scanner_action (F := allB [cellCh b3 [(.string s_0), (.int .i64 0)] 77] w) (in_0_text := s_0) (in_0_at := 0) allB_ok m.given h).mono (fun _ _ k => ret_free (fun r u => (fr_cons (free_own flelGTest) (fr_cons free_cell fr_nil))) k)) ?_); rintro ⟨r5, r8, r9⟩ v6
  refine o_mv st rfl rfl ?_
  refine o_ext st (vs := [(.agg #[v6, (.int .i64 r5.xAction), (.int .i64 r5.xChain)]), (.bool r8)]) rfl rfl rfl ?_
  refine o_ext st (vs := [(.agg #[v6, (.int .i64 r5.xAction), (.int .i64 r5.xChain)]), (.bool r8)]) rfl rfl rfl ?_
  refine stw (o_alloc rfl [(.slice none 0 0), (.int .i64 0), (.int .i64 0)] zero53 ?_); intro b10
  refine nx_own 1 rfl ?_; rintro a12 l13 q14 rfl
  refine stw (o_stc (cs' := [(.slice a12 l13 q14), (.int .i64 r5.xAction), (.int .i64 r5.xChain)]) 0 rfl rfl rfl ty53 rfl rfl rfl rfl ?_)
  refine o_as st rfl rfl ?_
  refine c_nil ?_
  refine l_then ?_
  refine c_seq ?_
  refine c_seq ?_
  refine c_region ?_
  refine o_mv st rfl rfl ?_
  refine o_not st rfl rfl ?_
  refine c_nil ?_
  refine l_then ?_
  refine c_cond rfl ?_ ?_
  · refine c_seq ?_
    refine c_region ?_
    refine o_bld st (qs := []) (cells := [(.slice none 0 0), (.int .i64 0), (.int .i64 0)]) (by intro ρ h; simp only [List.map_toArray, List.map_cons, List.map_nil]) rfl bld53 rfl ?_
    refine stw (o_stc (cs' := [(.slice none 0 0), (.int .i64 0), (.int .i64 0)]) 3 rfl rfl rfl ty53 rfl rfl rfl rfl ?_)
    refine o_as st rfl rfl ?_
    refine c_nil ?_
    refine l_then ?_
    refine c_ret ?_
    refine l_ret ?_
    refine nx_nil elGTest 25 ?_
    exact l_end2 Tryd.results40 ((GRule.mk ([]) 0 0), false) (.slice none 0 0) (rv_c 4 rfl rfl ty53 rfl) (rv_t rfl) rfl (fun w m => NewCh.ofB m [0] rfl)
  · refine c_skip ?_
    refine l_then ?_
    refine c_seq ?_
    refine c_block ?_
    refine c_loop (σ := ((List GTest) × Int)) (fun ((xs17, t20) : ((List GTest) × Int)) (a : Act) (w : World) => ∃ (v16 : Value), Has 53 [(0, (.string s_0)), (2, (.pointer (some ⟨b1, 0, none⟩))), (4, (.pointer (some ⟨b3, 0, none⟩))), (5, (.pointer (some ⟨b10, 0, none⟩)))] a ∧ Mem (gB F [] w0) (feet []) w0 [cellCh b10 [v16, (.int .i64 r5.xAction), (.int .i64 r5.xChain)] 53, cellCh b3 [(.string s_0), (.int .i64 t20)] 77, cellCh b1 [(.slice none 0 0), (.int .i64 0), (.int .i64 0)] 53, snapCh w0 F, ownCh elGTest 25 v16 xs17] w) (fun a w hE hm => ⟨(.slice a12 l13 q14), hE.sub ⟨rfl, rfl, rfl, rfl, trivial⟩, (hm.pick [0, 2, 3, 4, 1] rfl)⟩) ?_
    rintro nx21 ⟨xs17, t20⟩ a w ⟨v16, hE, hm⟩ h
    refine nx_of hE hm h ?_
    clear hE hm h
    refine c_seq ?_
    refine c_seq ?_
    refine c_region ?_
    refine pk [1, 0, 2, 3, 4] rfl ?_
    refine stw (o_call (vs := [(.pointer (some ⟨b3, 0, none⟩))]) (M0 := [cellCh b3 [(.string s_0), (.int .i64 t20)] 77]) Tryd.call67 rfl rfl (by intro w m h; exact (w_impl_scanner_done (F := allB [cellCh b3 [(.string s_0), (.int .i64 t20)] 77] w) (in_0_text := s_0) (in_0_at := t20) allB_ok m.given h).mono (fun _ _ k => ret_free (fun r u => (fr_cons free_cell fr_nil)) k)) ?_); rintro r22 _
    refine o_not st rfl rfl ?_
    refine c_nil ?_
    refine l_then ?_
    refine c_cond rfl ?_ ?_
    · refine c_skip ?_
      refine l_then ?_
      refine c_block ?_
      refine c_seq ?_
      refine c_join (σ := (Int × Bool)) (fun ((t85, t86) : (Int × Bool)) (a : Act) (w : World) => Has 53 [(0, (.string s_0)), (2, (.pointer (some ⟨b1, 0, none⟩))), (4, (.pointer (some ⟨b3, 0, none⟩))), (5, (.pointer (some ⟨b10, 0, none⟩))), (27, (.bool t86))] a ∧ Mem (gB F [] w0) (feet []) w0 [cellCh b3 [(.string s_0), (.int .i64 t85)] 77, cellCh b10 [v16, (.int .i64 r5.xAction), (.int .i64 r5.xChain)] 53, cellCh b1 [(.slice none 0 0), (.int .i64 0), (.int .i64 0)] 53, ownCh elGTest 25 v16 xs17, snapCh w0 F] w) ?_ ?_
      · intro k87
        refine c_region ?_
        refine o_fad st rfl rfl fld53_0 rfl ?_
        refine o_ldc st (v := v16) 1 rfl rfl rfl ty51 rfl ?_
        refine o_len st el51 4 rfl reads_own rfl rfl ?_
        refine o_eql st und3 rfl rfl rfl ?_
        refine o_mv st rfl rfl ?_
        refine st_sp (dj := 24) rfl ?_ ?_
        · refine st_s rfl rfl rfl rfl ?_
          refine st_s rfl rfl rfl rfl ?_
          refine o_pickT st rfl rfl rfl ?_
          refine c_nil ?_
          exact l_join (t20, true) (fun a w hE hm => ⟨hE.sub ⟨rfl, rfl, rfl, rfl, rfl, trivial⟩, (hm.pick [0, 1, 2, 4, 3] rfl)⟩)
        · refine st_gw rfl rfl (o_call (vs := [(.pointer (some ⟨b3, 0, none⟩)), (.string (ByteArray.mk #[44, 32]))]) (M0 := [cellCh b3 [(.string s_0), (.int .i64 t20)] 77]) Tryd.call57 rfl rfl (by intro w m h; exact (w_impl_scanner_word (F := allB [cellCh b3 [(.string s_0), (.int .i64 t20)] 77] w) (in_0_text := s_0) (in_0_at := t20) (w_1 := (ByteArray.mk #[44, 32])) allB_ok m.given h).mono (fun _ _ k => ret_free (fun r u => (fr_cons free_cell fr_nil)) k)) ?_); rintro ⟨r23, r24⟩ _
          refine o_not (st_g rfl rfl) rfl rfl ?_
          refine o_pickF st rfl rfl rfl ?_
          refine c_nil ?_
          exact l_join (r24, (!r23)) (fun a w hE hm => ⟨hE.sub ⟨rfl, rfl, rfl, rfl, rfl, trivial⟩, (hm.pick [0, 1, 2, 4, 3] rfl)⟩)
      · rintro ⟨t85, t86⟩ a w ⟨hE, hm⟩ h
        refine nx_of hE hm h ?_
        clear hE hm h
        refine c_cond rfl ?_ ?_
        · refine c_seq ?_
          refine c_region ?_
          refine o_bld st (qs := []) (cells := [(.slice none 0 0), (.int .i64 0), (.int .i64 0)]) (by intro ρ h; simp only [List.map_toArray, List.map_cons, List.map_nil]) rfl bld53 rfl ?_
          refine stw (o_stc (cs' := [(.slice none 0 0), (.int .i64 0), (.int .i64 0)]) 2 rfl rfl rfl ty53 rfl rfl rfl rfl ?_)
          refine o_as st rfl rfl ?_
          refine c_nil ?_
          refine l_then ?_
          refine c_ret ?_
          refine l_ret ?_
          refine b_ret ?_
          refine l_ret ?_
          refine b_ret ?_
          refine l_ret ?_
          refine nx_nil elGTest 25 ?_
          exact l_end2 Tryd.results40 ((GRule.mk ([]) 0 0), false) (.slice none 0 0) (rv_c 3 rfl rfl ty53 rfl) (rv_t rfl) rfl (fun w m => NewCh.ofB m [0] rfl)
        · refine c_skip ?_
          refine l_then ?_
          refine c_seq ?_
          refine c_region ?_
          refine stw (o_call (vs := [(.pointer (some ⟨b3, 0, none⟩))]) (M0 := [cellCh b3 [(.string s_0), (.int .i64 t85)] 77]) Tryd.call66 rfl rfl (by intro w m h; exact (w_impl_scanner_test (F := allB [cellCh b3 [(.string s_0), (.int .i64 t85)] 77] w) (in_0_text := s_0) (in_0_at := t85) allB_ok m.given (m.rdM 3 rfl (reads_snap hgl0)) h).mono (fun _ _ k => ret_free (fun r u => (fr_cons free_cell fr_nil)) k)) ?_); rintro ⟨r89, r90, r91⟩ _
          refine o_mv st rfl rfl ?_
          refine o_ext st (vs := [(.agg #[(.int .i64 r89.xField), (.int .i64 r89.xLo), (.int .i64 r89.xHi), (.bool r89.xNot)]), (.bool r90)]) rfl rfl rfl ?_
          refine o_ext st (vs := [(.agg #[(.int .i64 r89.xField), (.int .i64 r89.xLo), (.int .i64 r89.xHi), (.bool r89.xNot)]), (.bool r90)]) rfl rfl rfl ?_
          refine stw (o_alloc rfl [(.int .i64 0), (.int .i64 0), (.int .i64 0), (.bool false)] zero25 ?_); intro b92
          refine stw (o_stc (cs' := [(.int .i64 r89.xField), (.int .i64 r89.xLo), (.int .i64 r89.xHi), (.bool r89.xNot)]) 0 rfl rfl rfl ty25 rfl rfl rfl rfl ?_)
          refine o_as st rfl rfl ?_
          refine c_nil ?_
          refine l_then ?_
          refine c_seq ?_
          refine c_seq ?_
          refine c_region ?_
          refine o_mv st rfl rfl ?_
          refine o_not st rfl rfl ?_
          refine c_nil ?_
          refine l_then ?_
          refine c_cond rfl ?_ ?_
          · refine c_seq ?_
            refine c_region ?_
            refine o_bld st (qs := []) (cells := [(.slice none 0 0), (.int .i64 0), (.int .i64 0)]) (by intro ρ h; simp only [List.map_toArray, List.map_cons, List.map_nil]) rfl bld53 rfl ?_
            refine stw (o_stc (cs' := [(.slice none 0 0), (.int .i64 0), (.int .i64 0)]) 3 rfl rfl rfl ty53 rfl rfl rfl rfl ?_)
            refine o_as st rfl rfl ?_
            refine c_nil ?_
            refine l_then ?_
            refine c_ret ?_
            refine l_ret ?_
            refine b_ret ?_
            refine l_ret ?_
            refine b_ret ?_
            refine l_ret ?_
            refine nx_nil elGTest 25 ?_
            exact l_end2 Tryd.results40 ((GRule.mk ([]) 0 0), false) (.slice none 0 0) (rv_c 4 rfl rfl ty53 rfl) (rv_t rfl) rfl (fun w m => NewCh.ofB m [0] rfl)
          · refine c_skip ?_
            refine l_then ?_
            refine c_region ?_
            refine o_fad st rfl rfl fld53_0 rfl ?_
            refine o_ldc st (v := v16) 2 rfl rfl rfl ty51 rfl ?_
            refine o_ldc st (v := (.agg #[(.int .i64 r89.xField), (.int .i64 r89.xLo), (.int .i64 r89.xHi), (.bool r89.xNot)])) 0 rfl rfl rfl ty25 rfl ?_
            refine stw (o_bsl (enc := encGTest) (qs := [(0, (.agg #[(.int .i64 r89.xField), (.int .i64 r89.xLo), (.int .i64 r89.xHi), (.bool r89.xNot)]))]) (cells := [(.int .i64 r89.xField), (.int .i64 r89.xLo), (.int .i64 r89.xHi), (.bool r89.xNot)]) ([r89]) flelGTest (by intro ρ h; simp only [List.map_toArray, List.map_cons, List.map_nil, h (.tmp 38) _ rfl]) rfl el51 zero25 rfl rfl rfl rfl rfl rfl ?_); intro v95
            refine stw (o_app 5 0 rfl rfl (src_flat flelGTest reads_own) rfl rfl rfl el51 rfl zero25 rfl rfl ?_); intro v97
            refine o_fad st rfl rfl fld53_0 rfl ?_
            refine nx_own 5 rfl ?_; rintro a99 l100 q101 rfl
            refine stw (o_stc (cs' := [(.slice a99 l100 q101), (.int .i64 r5.xAction), (.int .i64 r5.xChain)]) 3 rfl rfl rfl ty51 rfl rfl rfl rfl ?_)
            refine c_nil ?_
            refine b_norm ?_
            exact l_join ((xs17 ++ ([r89])), r91) (fun a w hE hm => ⟨(.slice a99 l100 q101), hE.sub ⟨rfl, rfl, rfl, rfl, trivial⟩, (hm.pick [3, 2, 4, 6, 5] rfl)⟩)
    · refine c_exit ?_
      refine l_exit ?_
      refine l_exit ?_
      refine b_exit ?_
      refine l_then ?_
      refine c_seq ?_
      refine c_join (σ := Bool) (fun (t164 : Bool) (a : Act) (w : World) => Has 53 [(2, (.pointer (some ⟨b1, 0, none⟩))), (5, (.pointer (some ⟨b10, 0, none⟩))), (50, (.bool t164))] a ∧ Mem (gB F [] w0) (feet []) w0 [cellCh b10 [v16, (.int .i64 r5.xAction), (.int .i64 r5.xChain)] 53, cellCh b1 [(.slice none 0 0), (.int .i64 0), (.int .i64 0)] 53, ownCh elGTest 25 v16 xs17, snapCh w0 F] w) ?_ ?_
      · intro k165
        refine c_region ?_
        refine o_ldc st (v := (.agg #[v16, (.int .i64 r5.xAction), (.int .i64 r5.xChain)])) 1 rfl rfl rfl ty53 rfl ?_
        refine stw (o_callP (vs := [(.agg #[v16, (.int .i64 r5.xAction), (.int .i64 r5.xChain)])]) Tryd.call72 rfl rfl (by intro w m h; exact (w_impl_RuleValid (F := allB [] w) (r_0 := (GRule.mk xs17 r5.xAction r5.xChain)) allB_ok (m.rd0 4 rfl reads_own) (m.rd0 3 rfl (reads_snap hgl0)) h).mono (fun _ _ k => ret_free (fun r u => fr_nil) k)) ?_); rintro r102 _
        refine o_not st rfl rfl ?_
        refine o_mv st rfl rfl ?_
        refine st_sp (dj := 45) rfl ?_ ?_
        · refine st_s rfl rfl rfl rfl ?_
          refine st_s rfl rfl rfl rfl ?_
          refine st_s rfl rfl rfl rfl ?_
          refine st_s rfl rfl rfl rfl ?_
          refine o_pickT st rfl rfl rfl ?_
          refine c_nil ?_
          exact l_join true (fun a w hE hm => ⟨hE.sub ⟨rfl, rfl, rfl, trivial⟩, (hm.pick [1, 2, 4, 3] rfl)⟩)
        · refine o_ldc (st_g rfl rfl) (v := (.agg #[v16, (.int .i64 r5.xAction), (.int .i64 r5.xChain)])) 1 rfl rfl rfl ty53 rfl ?_
          refine st_gw rfl rfl (o_callP (vs := [(.agg #[v16, (.int .i64 r5.xAction), (.int .i64 r5.xChain)])]) Tryd.call73 rfl rfl (by intro w m h; exact (w_impl_Rule_text (F := allB [] w) (r_0 := (GRule.mk xs17 r5.xAction r5.xChain)) allB_ok (m.rd0 4 rfl reads_own) (m.rd0 3 rfl (reads_snap hgl0)) ((hgl1.of (m.get (i := 3) rfl)).mono fz_ok0) h).mono (fun _ _ k => ret_free (fun r u => fr_nil) k)) ?_); rintro r103 _
          refine o_mv (st_g rfl rfl) rfl rfl ?_
          refine o_neqS (st_g rfl rfl) und9 rfl rfl rfl ?_
          refine o_pickF st rfl rfl rfl ?_
          refine c_nil ?_
          exact l_join (!(decide (r103 = s_0))) (fun a w hE hm => ⟨hE.sub ⟨rfl, rfl, rfl, trivial⟩, (hm.pick [1, 2, 4, 3] rfl)⟩)
      · rintro t164 a w ⟨hE, hm⟩ h
        refine nx_of hE hm h ?_
        clear hE hm h
        refine c_cond rfl ?_ ?_
        · refine c_seq ?_
          refine c_region ?_
          refine o_bld st (qs := []) (cells := [(.slice none 0 0), (.int .i64 0), (.int .i64 0)]) (by intro ρ h; simp only [List.map_toArray, List.map_cons, List.map_nil]) rfl bld53 rfl ?_
          refine stw (o_stc (cs' := [(.slice none 0 0), (.int .i64 0), (.int .i64 0)]) 1 rfl rfl rfl ty53 rfl rfl rfl rfl ?_)
          refine o_as st rfl rfl ?_
          refine c_nil ?_
          refine l_then ?_
          refine c_ret ?_
          refine l_ret ?_
          refine nx_nil elGTest 25 ?_
          exact l_end2 Tryd.results40 ((GRule.mk ([]) 0 0), false) (.slice none 0 0) (rv_c 2 rfl rfl ty53 rfl) (rv_t rfl) rfl (fun w m => NewCh.ofB m [0] rfl)
        · refine c_skip ?_
          refine l_then ?_
          refine c_seq ?_
          refine c_region ?_
          refine o_ldc st (v := (.agg #[v16, (.int .i64 r5.xAction), (.int .i64 r5.xChain)])) 0 rfl rfl rfl ty53 rfl ?_
          refine nx_own 2 rfl ?_; rintro a167 l168 q169 rfl
          refine stw (o_stc (cs' := [(.slice a167 l168 q169), (.int .i64 r5.xAction), (.int .i64 r5.xChain)]) 1 rfl rfl rfl ty53 rfl rfl rfl rfl ?_)
          refine o_as st rfl rfl ?_
          refine c_nil ?_
          refine l_then ?_
          refine c_ret ?_
          exact l_end2 Tryd.results40 ((GRule.mk xs17 r5.xAction r5.xChain), true) (.slice a167 l168 q169) (rv_c 1 rfl rfl ty53 rfl) (rv_t rfl) rfl (fun w m => NewCh.ofB m [2] rfl)

set_option maxRecDepth 100000 in
set_option maxHeartbeats 8000000 in
theorem w_laws_sameRule {w0 : World} {F : Nat → Prop} {v1 : Value} {v3 : Value} {a_0 : GRule} {b_1 : GRule} {κ : Bool → Prop} (hF : ∀ b, F b → b < w0.heap.size ∧ ¬ feet [] b) (hv1 : Sl elGTest F w0 v1 a_0.xTests) (hv3 : Sl elGTest F w0 v3 b_1.xTests) (h : L_laws_sameRule a_0 b_1 κ) :
    Calls Tryd.prog 41 #[(.agg #[v1, (.int .i64 a_0.xAction), (.int .i64 a_0.xChain)]), (.agg #[v3, (.int .i64 b_1.xAction), (.int .i64 b_1.xChain)])] w0 (Ret [] F w0 κ (fun (r : Bool) (u : Unit) => (.bool r)) (fun (r : Bool) (u : Unit) => [])) := by
  refine enterS (args := [(.agg #[v1, (.int .i64 a_0.xAction), (.int .i64 a_0.xChain)]), (.agg #[v3, (.int .i64 b_1.xAction), (.int .i64 b_1.xChain)])]) [] hF (Given.nil _ _) Tryd.func41 rfl Tryd.ntmps41 rfl h ?_
  clear h hF
  refine c_seq ?_
  refine c_region ?_
  obtain ⟨a5, l6, q7, hs_⟩ := sl_val hv1; subst hs_
  refine stw (o_box rfl rfl [(.slice a5 l6 q7), (.int .i64 a_0.xAction), (.int .i64 a_0.xChain)] rfl ?_); intro b8
  obtain ⟨a10, l11, q12, hs_⟩ := sl_val hv3; subst hs_
  refine stw (o_box rfl rfl [(.slice a10 l11 q12), (.int .i64 b_1.xAction), (.int .i64 b_1.xChain)] rfl ?_); intro b13
  refine o_as st rfl rfl ?_
  refine c_nil ?_
  refine l_then ?_
  refine c_seq ?_
  refine c_seq ?_
  refine c_region ?_
  refine o_fad st rfl rfl fld53_0 rfl ?_
  refine o_ldc st (v := (.slice a5 l6 q7)) 1 rfl rfl rfl ty51 rfl ?_
  refine o_len st el51 2 rfl (reads_snap hv1) rfl rfl ?_
  refine o_fad st rfl rfl fld53_0 rfl ?_
  refine o_ldc st (v := (.slice a10 l11 q12)) 0 rfl rfl rfl ty51 rfl ?_
  refine o_len st el51 2 rfl (reads_snap hv3) rfl rfl ?_
  refine o_neq st und3 rfl rfl rfl ?_
  refine c_nil ?_
  refine l_then ?_
  refine c_cond rfl ?_ ?_
  · refine c_seq ?_
    refine c_region ?_
    refine o_as st rfl rfl ?_
    refine c_nil ?_
    refine l_then ?_
    refine c_ret ?_
    refine l_ret ?_
    exact l_end1 Tryd.results41 false () (rv_t rfl) (fun _ _ => NewCh.nil _ _ _ _)
  · refine c_skip ?_
    refine l_then ?_
    refine c_seq ?_
    refine c_seq ?_
    refine c_region ?_
    refine o_as st rfl rfl ?_
    refine c_nil ?_
    refine l_then ?_
    refine c_block ?_
    refine c_loop (σ := Int) (fun (t15 : Int) (a : Act) (w : World) => Has 43 [(2, (.pointer (some ⟨b8, 0, none⟩))), (3, (.pointer (some ⟨b13, 0, none⟩))), (5, (.int .i64 t15))] a ∧ Mem (gB F [] w0) (feet []) w0 [cellCh b13 [(.slice a10 l11 q12), (.int .i64 b_1.xAction), (.int .i64 b_1.xChain)] 53, cellCh b8 [(.slice a5 l6 q7), (.int .i64 a_0.xAction), (.int .i64 a_0.xChain)] 53, snapCh w0 F] w) (fun a w hE hm => ⟨hE.sub ⟨rfl, rfl, rfl, trivial⟩, (hm.pick [0, 1, 2] rfl)⟩) ?_
    rintro nx16 t15 a w ⟨hE, hm⟩ h
    refine nx_of hE hm h ?_
    clear hE hm h
    refine c_seq ?_
    refine c_seq ?_
    refine c_region ?_
    refine o_mv st rfl rfl ?_
    refine o_fad st rfl rfl fld53_0 rfl ?_
    refine o_ldc st (v := (.slice a5 l6 q7)) 1 rfl rfl rfl ty51 rfl ?_
    refine o_len st el51 2 rfl (reads_snap hv1) rfl rfl ?_
    refine o_lss st rfl rfl rfl ?_
    refine c_nil ?_
    refine l_then ?_
    refine c_cond rfl ?_ ?_
    · refine c_skip ?_
      refine l_then ?_
      refine c_seq ?_
      refine c_block ?_
      refine c_seq ?_
      refine c_draw mixed 11 rfl [cellCh b13 [(.slice a10 l11 q12), (.int .i64 b_1.xAction), (.int .i64 b_1.xChain)] 53, cellCh b8 [(.slice a5 l6 q7), (.int .i64 a_0.xAction), (.int .i64 a_0.xChain)] 53, snapCh w0 F] ?_
      refine o_fad (dt 0 (fun _ m => m)) rfl rfl fld53_0 rfl ?_
      refine o_ldc (dt 1 (fun _ m => m)) (v := (.slice a5 l6 q7)) 1 rfl rfl rfl ty51 rfl ?_
      refine o_mv (dt 2 (fun _ m => m)) rfl rfl ?_
      refine o_idx (dt 3 (fun _ m => m)) 2 rfl (reads_snap hv1) rfl rfl rfl el51 ?_; intro e17 h18
      refine o_lds (dt 4 (fun _ m => m)) (enc := encGTest) (u := (.agg #[(.int .i64 e17.xField), (.int .i64 e17.xLo), (.int .i64 e17.xHi), (.bool e17.xNot)])) 2 rfl (reads_snap hv1) flelGTest rfl h18 rfl rfl ty25 rfl ?_
      refine o_fad (dt 5 (fun _ m => m)) rfl rfl fld53_0 rfl ?_
      refine o_ldc (dt 6 (fun _ m => m)) (v := (.slice a10 l11 q12)) 0 rfl rfl rfl ty51 rfl ?_
      refine o_mv (dt 7 (fun _ m => m)) rfl rfl ?_
      refine o_idx (dt 8 (fun _ m => m)) 2 rfl (reads_snap hv3) rfl rfl rfl el51 ?_; intro e19 h20
      refine o_lds (dt 9 (fun _ m => m)) (enc := encGTest) (u := (.agg #[(.int .i64 e19.xField), (.int .i64 e19.xLo), (.int .i64 e19.xHi), (.bool e19.xNot)])) 2 rfl (reads_snap hv3) flelGTest rfl h20 rfl rfl ty25 rfl ?_
      refine o_bin (dt 10 (fun _ m => m)) (.bool (!(decide (e17 = e19)))) rfl rfl rfl (neqs25 _ _ e17.xField e17.xLo e17.xHi e17.xNot e19.xField e19.xLo e19.xHi e19.xNot) ?_
      refine d_done (by kernel_rfl) ?_
      refine l_then ?_
      refine c_cond rfl ?_ ?_
      · refine c_seq ?_
        refine c_region ?_
        refine o_as st rfl rfl ?_
        refine c_nil ?_
        refine l_then ?_
        refine c_ret ?_
        refine b_ret ?_
        refine l_ret ?_
        refine l_ret ?_
        refine b_ret ?_
        refine l_ret ?_
        exact l_end1 Tryd.results41 false () (rv_t rfl) (fun _ _ => NewCh.nil _ _ _ _)
      · refine c_skip ?_
        refine b_norm ?_
        refine l_then ?_
        refine c_region ?_
        refine o_mv st rfl rfl ?_
        refine o_add st rfl rfl rfl ?_; intro t21
        refine o_as st rfl rfl ?_
        refine c_nil ?_
        exact l_join t21 (fun a w hE hm => ⟨hE.sub ⟨rfl, rfl, rfl, trivial⟩, (hm.pick [0, 1, 2] rfl)⟩)
    · refine c_exit ?_
      refine l_exit ?_
      refine l_exit ?_
      refine b_exit ?_
      refine l_then ?_
      refine c_join (σ := Bool) (fun (t82 : Bool) (a : Act) (w : World) => Has 43 [(4, (.bool t82))] a ∧ Mem (gB F [] w0) (feet []) w0 [] w) ?_ ?_
      · intro k83
        refine c_region ?_
        refine o_fad st rfl rfl fld53_1 rfl ?_
        refine o_ldc st (v := (.int .i64 a_0.xAction)) 1 rfl rfl rfl ty3 rfl ?_
        refine o_fad st rfl rfl fld53_1 rfl ?_
        refine o_ldc st (v := (.int .i64 b_1.xAction)) 0 rfl rfl rfl ty3 rfl ?_
        refine o_eql st und3 rfl rfl rfl ?_
        refine o_mv st rfl rfl ?_
        refine st_sp (dj := 36) rfl ?_ ?_
        · refine o_fad (st_g rfl rfl) rfl rfl fld53_2 rfl ?_
          refine o_ldc (st_g rfl rfl) (v := (.int .i64 a_0.xChain)) 1 rfl rfl rfl ty3 rfl ?_
          refine o_fad (st_g rfl rfl) rfl rfl fld53_2 rfl ?_
          refine o_ldc (st_g rfl rfl) (v := (.int .i64 b_1.xChain)) 0 rfl rfl rfl ty3 rfl ?_
          refine o_eql (st_g rfl rfl) und3 rfl rfl rfl ?_
          refine o_pickT st rfl rfl rfl ?_
          refine o_as st rfl rfl ?_
          refine c_nil ?_
          exact l_join (decide (a_0.xChain = b_1.xChain)) (fun a w hE hm => ⟨hE.sub ⟨rfl, trivial⟩, (hm.pick [] rfl)⟩)
        · refine st_s rfl rfl rfl rfl ?_
          refine st_s rfl rfl rfl rfl ?_
          refine st_s rfl rfl rfl rfl ?_
          refine st_s rfl rfl rfl rfl ?_
          refine st_s rfl rfl rfl rfl ?_
          refine o_pickF st rfl rfl rfl ?_
          refine o_as st rfl rfl ?_
          refine c_nil ?_
          exact l_join false (fun a w hE hm => ⟨hE.sub ⟨rfl, trivial⟩, (hm.pick [] rfl)⟩)
      · rintro t82 a w ⟨hE, hm⟩ h
        refine nx_of hE hm h ?_
        clear hE hm h
        refine c_ret ?_
        exact l_end1 Tryd.results41 t82 () (rv_t rfl) (fun _ _ => NewCh.nil _ _ _ _)

set_option maxRecDepth 100000 in
set_option maxHeartbeats 8000000 in
theorem w_laws_FnRuleText {w0 : World} {F : Nat → Prop} {v1 : Value} {code_0 : (List UInt8)} {κ : Bool → Prop} (hF : ∀ b, F b → b < w0.heap.size ∧ ¬ feet [] b) (hv1 : Sl elU8 F w0 v1 code_0) (hgl0 : Sl elGFieldShape F w0 (.slice (some ⟨0, 0, none⟩) 4 4) gl_impl_fieldShapes) (hgl1 : Tb F w0) (h : L_laws_FnRuleText code_0 κ) :
    Calls Tryd.prog 11 #[v1] w0 (Ret [] F w0 κ (fun (r : Bool) (u : Unit) => (.bool r)) (fun (r : Bool) (u : Unit) => [])) := by
  refine enterS (args := [v1]) [] hF (Given.nil _ _) Tryd.func11 rfl Tryd.ntmps11 rfl h ?_
  clear h hF
  refine c_seq ?_
  refine c_region ?_
  refine o_as st rfl rfl ?_
  refine c_nil ?_
  refine l_then ?_
  refine c_seq ?_
  refine c_seq ?_
  refine c_region ?_
  refine o_mv st rfl rfl ?_
  refine o_len st el34 0 rfl (reads_snap hv1) rfl rfl ?_
  refine o_gtr st rfl rfl rfl ?_
  refine c_nil ?_
  refine l_then ?_
  refine c_cond rfl ?_ ?_
  · refine c_seq ?_
    refine c_region ?_
    refine o_as st rfl rfl ?_
    refine c_nil ?_
    refine l_then ?_
    refine c_ret ?_
    refine l_ret ?_
    exact l_end1 Tryd.results11 true () (rv_t rfl) (fun _ _ => NewCh.nil _ _ _ _)
  · refine c_skip ?_
    refine l_then ?_
    refine c_seq ?_
    refine c_region ?_
    refine o_mv st rfl rfl ?_
    refine stw (o_callP (vs := [v1]) Tryd.call38 rfl rfl (by intro w m h; exact (w_spec_DrawRuleText (F := allB [] w) (code_0 := code_0) allB_ok (m.rd0 0 rfl (reads_snap hv1)) h).mono (fun _ _ k => ret_free (fun r u => (fr_cons (free_own flelGTest) fr_nil)) k)) ?_); rintro r3 v4
    refine stw (o_alloc rfl [(.slice none 0 0), (.int .i64 0), (.int .i64 0)] zero53 ?_); intro b6
    refine nx_own 1 rfl ?_; rintro a8 l9 q10 rfl
    refine stw (o_stc (cs' := [(.slice a8 l9 q10), (.int .i64 r3.xAction), (.int .i64 r3.xChain)]) 0 rfl rfl rfl ty53 rfl rfl rfl rfl ?_)
    refine c_nil ?_
    refine l_then ?_
    refine c_seq ?_
    refine c_region ?_
    refine o_ldc st (v := (.agg #[(.slice a8 l9 q10), (.int .i64 r3.xAction), (.int .i64 r3.xChain)])) 0 rfl rfl rfl ty53 rfl ?_
    refine stw (o_callP (vs := [(.agg #[(.slice a8 l9 q10), (.int .i64 r3.xAction), (.int .i64 r3.xChain)])]) Tryd.call35 rfl rfl (by intro w m h; exact (w_impl_RuleText (F := allB [] w) (r_0 := r3) allB_ok (m.rd0 1 rfl reads_own) (m.rd0 2 rfl (reads_snap hgl0)) ((hgl1.of (m.get (i := 2) rfl)).mono fz_ok0) h).mono (fun _ _ k => ret_free (fun r u => fr_nil) k)) ?_); rintro r11 _
    refine o_as st rfl rfl ?_
    refine c_nil ?_
    refine l_then ?_
    refine c_seq ?_
    refine c_seq ?_
    refine c_region ?_
    refine o_mv st rfl rfl ?_
    refine o_ldc st (v := (.agg #[(.slice a8 l9 q10), (.int .i64 r3.xAction), (.int .i64 r3.xChain)])) 0 rfl rfl rfl ty53 rfl ?_
    refine stw (o_callP (vs := [(.agg #[(.slice a8 l9 q10), (.int .i64 r3.xAction), (.int .i64 r3.xChain)])]) Tryd.call33 rfl rfl (by intro w m h; exact (w_spec_RuleText (F := allB [] w) (r_0 := r3) allB_ok (m.rd0 1 rfl reads_own) h).mono (fun _ _ k => ret_free (fun r u => fr_nil) k)) ?_); rintro r12 _
    refine o_neqS st und9 rfl rfl rfl ?_
    refine c_nil ?_
    refine l_then ?_
    refine c_cond rfl ?_ ?_
    · refine c_seq ?_
      refine c_region ?_
      refine o_as st rfl rfl ?_
      refine c_nil ?_
      refine l_then ?_
      refine c_ret ?_
      refine l_ret ?_
      exact l_end1 Tryd.results11 false () (rv_t rfl) (fun _ _ => NewCh.nil _ _ _ _)
    · refine c_skip ?_
      refine l_then ?_
      refine c_seq ?_
      refine c_seq ?_
      refine c_region ?_
      refine o_ldc st (v := (.agg #[(.slice a8 l9 q10), (.int .i64 r3.xAction), (.int .i64 r3.xChain)])) 0 rfl rfl rfl ty53 rfl ?_
      refine stw (o_callP (vs := [(.agg #[(.slice a8 l9 q10), (.int .i64 r3.xAction), (.int .i64 r3.xChain)])]) Tryd.call39 rfl rfl (by intro w m h; exact (w_spec_RuleValid (F := allB [] w) (r_0 := r3) allB_ok (m.rd0 1 rfl reads_own) h).mono (fun _ _ k => ret_free (fun r u => fr_nil) k)) ?_); rintro r13 _
      refine o_not st rfl rfl ?_
      refine c_nil ?_
      refine l_then ?_
      refine c_cond rfl ?_ ?_
      · refine c_join (σ := Bool) (fun (t75 : Bool) (a : Act) (w : World) => Has 63 [(2, (.bool t75))] a ∧ Mem (gB F [] w0) (feet []) w0 [snapCh w0 F] w) ?_ ?_
        · intro k76
          refine c_region ?_
          refine o_mv st rfl rfl ?_
          refine o_eqlS st und9 rfl rfl rfl ?_
          refine o_mv st rfl rfl ?_
          refine st_sp (dj := 24) rfl ?_ ?_
          · refine st_gw rfl rfl (o_callP (vs := []) Tryd.call25 rfl rfl (by intro w m h; exact (w_laws_alive (F := allB [] w) allB_ok h).mono (fun _ _ k => ret_free (fun r u => fr_nil) k)) ?_); rintro r14 _
            refine o_pickT st rfl rfl rfl ?_
            refine o_as st rfl rfl ?_
            refine c_nil ?_
            exact l_join r14 (fun a w hE hm => ⟨hE.sub ⟨rfl, trivial⟩, (hm.pick [2] rfl)⟩)
          · refine st_s rfl rfl rfl rfl ?_
            refine o_pickF st rfl rfl rfl ?_
            refine o_as st rfl rfl ?_
            refine c_nil ?_
            exact l_join false (fun a w hE hm => ⟨hE.sub ⟨rfl, trivial⟩, (hm.pick [2] rfl)⟩)
        · rintro t75 a w ⟨hE, hm⟩ h
          refine nx_of hE hm h ?_
          clear hE hm h
          refine c_ret ?_
          refine l_ret ?_
          exact l_end1 Tryd.results11 t75 () (rv_t rfl) (fun _ _ => NewCh.nil _ _ _ _)
      · refine c_skip ?_
        refine l_then ?_
        refine c_seq ?_
        refine c_region ?_
        refine o_mv st rfl rfl ?_
        refine stw (o_callP (vs := [(.string r11)]) Tryd.call40 rfl rfl (by intro w m h; exact (w_impl_ReadRule (F := allB [] w) (s_0 := r11) allB_ok (m.rd0 2 rfl (reads_snap hgl0)) ((hgl1.of (m.get (i := 2) rfl)).mono fz_ok0) h).mono (fun _ _ k => ret_free (fun r u => (fr_cons (free_own flelGTest) fr_nil)) k)) ?_); rintro ⟨r77, r80⟩ v78
        refine o_mv st rfl rfl ?_
        refine o_ext st (vs := [(.agg #[v78, (.int .i64 r77.xAction), (.int .i64 r77.xChain)]), (.bool r80)]) rfl rfl rfl ?_
        refine o_ext st (vs := [(.agg #[v78, (.int .i64 r77.xAction), (.int .i64 r77.xChain)]), (.bool r80)]) rfl rfl rfl ?_
        refine stw (o_alloc rfl [(.slice none 0 0), (.int .i64 0), (.int .i64 0)] zero53 ?_); intro b81
        refine nx_own 1 rfl ?_; rintro a83 l84 q85 rfl
        refine stw (o_stc (cs' := [(.slice a83 l84 q85), (.int .i64 r77.xAction), (.int .i64 r77.xChain)]) 0 rfl rfl rfl ty53 rfl rfl rfl rfl ?_)
        refine o_as st rfl rfl ?_
        refine c_nil ?_
        refine l_then ?_
        refine c_join (σ := (List GTest)) (fun (xs86 : (List GTest)) (a : Act) (w : World) => ∃ (v87 : Value) (b89 : Nat), Has 63 [(3, (.pointer (some ⟨b6, 0, none⟩))), (4, (.string r11)), (5, (.pointer (some ⟨b81, 0, none⟩))), (6, (.bool r80)), (7, (.pointer (some ⟨b89, 0, none⟩)))] a ∧ Mem (gB F [] w0) (feet []) w0 [cellCh b89 [v87, (.int .i64 r3.xAction), (.int .i64 r3.xChain)] 53, ownCh elGTest 25 v87 xs86, cellCh b81 [(.slice a83 l84 q85), (.int .i64 r77.xAction), (.int .i64 r77.xChain)] 53, ownCh elGTest 25 (.slice a83 l84 q85) r77.xTests, cellCh b6 [(.slice a8 l9 q10), (.int .i64 r3.xAction), (.int .i64 r3.xChain)] 53, ownCh elGTest 25 (.slice a8 l9 q10) r3.xTests, snapCh w0 F] w) ?_ ?_
        · intro k90
          refine c_drawQ mixed 14 rfl [cellCh b81 [(.slice a83 l84 q85), (.int .i64 r77.xAction), (.int .i64 r77.xChain)] 53, ownCh elGTest 25 (.slice a83 l84 q85) r77.xTests, cellCh b6 [(.slice a8 l9 q10), (.int .i64 r3.xAction), (.int .i64 r3.xChain)] 53, ownCh elGTest 25 (.slice a8 l9 q10) r3.xTests, snapCh w0 F] ?_
          intro Qd hP hQ
          have H257 : ∀ (v91 : Value) (v92 : Value) (v94 : Value) (a97 : Option Addr) (l98 : Nat) (q99 : Nat) (b100 : Nat), Nx 63 (gB F [] w0) (feet []) w0 (wpAnyH Tryd.prog .any (opsAt Tryd.f11 [1, 1, 1, 1, 1, 1, 1, 0]) Qd (Mem (gB F [] w0) (feet []) w0 [cellCh b81 [(.slice a83 l84 q85), (.int .i64 r77.xAction), (.int .i64 r77.xChain)] 53, ownCh elGTest 25 (.slice a83 l84 q85) r77.xTests, cellCh b6 [(.slice a8 l9 q10), (.int .i64 r3.xAction), (.int .i64 r3.xChain)] 53, ownCh elGTest 25 (.slice a8 l9 q10) r3.xTests, snapCh w0 F]) 0 #[true, true, true, true, true, true, true, true, true, true, true, true, true, true]) [(3, (.pointer (some ⟨b6, 0, none⟩))), (4, (.string r11)), (5, (.pointer (some ⟨b81, 0, none⟩))), (6, (.bool r80)), (7, (.pointer (some ⟨b100, 0, none⟩)))] [cellCh b100 [(.slice a97 l98 q99), (.int .i64 r3.xAction), (.int .i64 r3.xChain)] 53, ownCh elGTest 25 (.slice a97 l98 q99) ((([]) ++ r3.xTests) ++ ([(GTest.mk 2 9 9 false)])), cellCh b81 [(.slice a83 l84 q85), (.int .i64 r77.xAction), (.int .i64 r77.xChain)] 53, ownCh elGTest 25 (.slice a83 l84 q85) r77.xTests, cellCh b6 [(.slice a8 l9 q10), (.int .i64 r3.xAction), (.int .i64 r3.xChain)] 53, ownCh elGTest 25 (.slice a8 l9 q10) r3.xTests, snapCh w0 F] (k90 ((([]) ++ r3.xTests) ++ ([(GTest.mk 2 9 9 false)]))) := by
            intro v91 v92 v94 a97 l98 q99 b100
            refine d_done (by kernel_rfl) ?_
            exact fun a w hE hm hφ => hQ ((([]) ++ r3.xTests) ++ ([(GTest.mk 2 9 9 false)])) a w hφ ((fun a w hE hm => ⟨(.slice a97 l98 q99), b100, hE.sub ⟨rfl, rfl, rfl, rfl, rfl, trivial⟩, (hm.pick [0, 1, 2, 3, 4, 5, 6] rfl)⟩) a w hE hm)
          have H258 : ∀ (v91 : Value) (v92 : Value) (v94 : Value) (a97 : Option Addr) (l98 : Nat) (q99 : Nat) (b100 : Nat), Nx 63 (gB F [] w0) (feet []) w0 (wpAnyH Tryd.prog .any (opsAt Tryd.f11 [1, 1, 1, 1, 1, 1, 1, 0]) Qd (Mem (gB F [] w0) (feet []) w0 [cellCh b81 [(.slice a83 l84 q85), (.int .i64 r77.xAction), (.int .i64 r77.xChain)] 53, ownCh elGTest 25 (.slice a83 l84 q85) r77.xTests, cellCh b6 [(.slice a8 l9 q10), (.int .i64 r3.xAction), (.int .i64 r3.xChain)] 53, ownCh elGTest 25 (.slice a8 l9 q10) r3.xTests, snapCh w0 F]) 1 #[true, true, true, true, true, true, true, true, true, true, true, true, true, false]) [(3, (.pointer (some ⟨b6, 0, none⟩))), (4, (.string r11)), (5, (.pointer (some ⟨b81, 0, none⟩))), (6, (.bool r80)), (43, (.agg #[(.slice a97 l98 q99), (.int .i64 r3.xAction), (.int .i64 r3.xChain)])), (7, (.pointer (some ⟨b100, 0, none⟩)))] [cellCh b100 [(.slice none 0 0), (.int .i64 0), (.int .i64 0)] 53, ownCh elGTest 25 (.slice a97 l98 q99) ((([]) ++ r3.xTests) ++ ([(GTest.mk 2 9 9 false)])), cellCh b81 [(.slice a83 l84 q85), (.int .i64 r77.xAction), (.int .i64 r77.xChain)] 53, ownCh elGTest 25 (.slice a83 l84 q85) r77.xTests, cellCh b6 [(.slice a8 l9 q10), (.int .i64 r3.xAction), (.int .i64 r3.xChain)] 53, ownCh elGTest 25 (.slice a8 l9 q10) r3.xTests, snapCh w0 F] (k90 ((([]) ++ r3.xTests) ++ ([(GTest.mk 2 9 9 false)]))) := by
            intro v91 v92 v94 a97 l98 q99 b100
            refine d_one (i := 13) rfl (by kernel_rfl) (o_stc (cs' := [(.slice a97 l98 q99), (.int .i64 r3.xAction), (.int .i64 r3.xChain)]) 0 rfl rfl rfl ty53 rfl rfl rfl rfl ?_)
            refine d_and (fun w m => m.pick [2, 3, 4, 5, 6] rfl) ?_
            refine pk [0, 1, 2, 3, 4, 5, 6] rfl ?_
            refine re (E' := [(3, (.pointer (some ⟨b6, 0, none⟩))), (4, (.string r11)), (5, (.pointer (some ⟨b81, 0, none⟩))), (6, (.bool r80)), (7, (.pointer (some ⟨b100, 0, none⟩)))]) ⟨rfl, rfl, rfl, rfl, rfl, trivial⟩ ?_
            exact H257 v91 v92 v94 a97 l98 q99 b100
          have H259 : ∀ (v91 : Value) (v92 : Value) (v94 : Value) (v95 : Value), Nx 63 (gB F [] w0) (feet []) w0 (wpAnyH Tryd.prog .any (opsAt Tryd.f11 [1, 1, 1, 1, 1, 1, 1, 0]) Qd (Mem (gB F [] w0) (feet []) w0 [cellCh b81 [(.slice a83 l84 q85), (.int .i64 r77.xAction), (.int .i64 r77.xChain)] 53, ownCh elGTest 25 (.slice a83 l84 q85) r77.xTests, cellCh b6 [(.slice a8 l9 q10), (.int .i64 r3.xAction), (.int .i64 r3.xChain)] 53, ownCh elGTest 25 (.slice a8 l9 q10) r3.xTests, snapCh w0 F]) 3 #[true, true, true, true, true, true, true, true, true, true, true, false, false, false]) [(3, (.pointer (some ⟨b6, 0, none⟩))), (4, (.string r11)), (5, (.pointer (some ⟨b81, 0, none⟩))), (6, (.bool r80)), (40, (.int .i64 r3.xAction)), (42, (.int .i64 r3.xChain)), (38, v95)] [ownCh elGTest 25 v95 ((([]) ++ r3.xTests) ++ ([(GTest.mk 2 9 9 false)])), cellCh b81 [(.slice a83 l84 q85), (.int .i64 r77.xAction), (.int .i64 r77.xChain)] 53, ownCh elGTest 25 (.slice a83 l84 q85) r77.xTests, cellCh b6 [(.slice a8 l9 q10), (.int .i64 r3.xAction), (.int .i64 r3.xChain)] 53, ownCh elGTest 25 (.slice a8 l9 q10) r3.xTests, snapCh w0 F] (k90 ((([]) ++ r3.xTests) ++ ([(GTest.mk 2 9 9 false)]))) := by
            intro v91 v92 v94 v95
            refine nx_own 0 rfl ?_; rintro a97 l98 q99 rfl
            refine o_bld (dt 11 (fun w m => m.pick [1, 2, 3, 4, 5] rfl)) (qs := [(0, (.slice a97 l98 q99)), (1, (.int .i64 r3.xAction)), (2, (.int .i64 r3.xChain))]) (cells := [(.slice a97 l98 q99), (.int .i64 r3.xAction), (.int .i64 r3.xChain)]) (by intro ρ h; simp only [List.map_toArray, List.map_cons, List.map_nil, h (.tmp 38) _ rfl, h (.tmp 40) _ rfl, h (.tmp 42) _ rfl]) rfl bld53 rfl ?_
            refine d_one (i := 12) rfl (by kernel_rfl) (o_alloc rfl [(.slice none 0 0), (.int .i64 0), (.int .i64 0)] zero53 ?_); intro b100
            refine d_and (fun w m => m.pick [2, 3, 4, 5, 6] rfl) ?_
            refine pk [0, 1, 2, 3, 4, 5, 6] rfl ?_
            refine re (E' := [(3, (.pointer (some ⟨b6, 0, none⟩))), (4, (.string r11)), (5, (.pointer (some ⟨b81, 0, none⟩))), (6, (.bool r80)), (43, (.agg #[(.slice a97 l98 q99), (.int .i64 r3.xAction), (.int .i64 r3.xChain)])), (7, (.pointer (some ⟨b100, 0, none⟩)))]) ⟨rfl, rfl, rfl, rfl, rfl, rfl, trivial⟩ ?_
            exact H258 v91 v92 v94 a97 l98 q99 b100
          have H260 : ∀ (v91 : Value) (v92 : Value) (v94 : Value) (b101 : Nat) (v102 : Value), Nx 63 (gB F [] w0) (feet []) w0 (wpAnyH Tryd.prog .any (opsAt Tryd.f11 [1, 1, 1, 1, 1, 1, 1, 0]) Qd (Mem (gB F [] w0) (feet []) w0 [cellCh b81 [(.slice a83 l84 q85), (.int .i64 r77.xAction), (.int .i64 r77.xChain)] 53, ownCh elGTest 25 (.slice a83 l84 q85) r77.xTests, cellCh b6 [(.slice a8 l9 q10), (.int .i64 r3.xAction), (.int .i64 r3.xChain)] 53, ownCh elGTest 25 (.slice a8 l9 q10) r3.xTests, snapCh w0 F]) 2 #[true, true, true, true, true, true, true, true, true, true, true, false, true, false]) [(3, (.pointer (some ⟨b6, 0, none⟩))), (4, (.string r11)), (5, (.pointer (some ⟨b81, 0, none⟩))), (6, (.bool r80)), (40, (.int .i64 r3.xAction)), (42, (.int .i64 r3.xChain)), (7, (.pointer (some ⟨b101, 0, none⟩))), (38, v102)] [cellCh b101 [(.slice none 0 0), (.int .i64 0), (.int .i64 0)] 53, ownCh elGTest 25 v102 ((([]) ++ r3.xTests) ++ ([(GTest.mk 2 9 9 false)])), cellCh b81 [(.slice a83 l84 q85), (.int .i64 r77.xAction), (.int .i64 r77.xChain)] 53, ownCh elGTest 25 (.slice a83 l84 q85) r77.xTests, cellCh b6 [(.slice a8 l9 q10), (.int .i64 r3.xAction), (.int .i64 r3.xChain)] 53, ownCh elGTest 25 (.slice a8 l9 q10) r3.xTests, snapCh w0 F] (k90 ((([]) ++ r3.xTests) ++ ([(GTest.mk 2 9 9 false)]))) := by
            intro v91 v92 v94 b101 v102
            refine nx_own 1 rfl ?_; rintro a104 l105 q106 rfl
            refine o_bld (dt 11 (fun w m => m.pick [2, 3, 4, 5, 6] rfl)) (qs := [(0, (.slice a104 l105 q106)), (1, (.int .i64 r3.xAction)), (2, (.int .i64 r3.xChain))]) (cells := [(.slice a104 l105 q106), (.int .i64 r3.xAction), (.int .i64 r3.xChain)]) (by intro ρ h; simp only [List.map_toArray, List.map_cons, List.map_nil, h (.tmp 38) _ rfl, h (.tmp 40) _ rfl, h (.tmp 42) _ rfl]) rfl bld53 rfl ?_
            refine d_one (i := 13) rfl (by kernel_rfl) (o_stc (cs' := [(.slice a104 l105 q106), (.int .i64 r3.xAction), (.int .i64 r3.xChain)]) 0 rfl rfl rfl ty53 rfl rfl rfl rfl ?_)
            refine d_and (fun w m => m.pick [2, 3, 4, 5, 6] rfl) ?_
            refine pk [0, 1, 2, 3, 4, 5, 6] rfl ?_
            refine re (E' := [(3, (.pointer (some ⟨b6, 0, none⟩))), (4, (.string r11)), (5, (.pointer (some ⟨b81, 0, none⟩))), (6, (.bool r80)), (7, (.pointer (some ⟨b101, 0, none⟩)))]) ⟨rfl, rfl, rfl, rfl, rfl, trivial⟩ ?_
            exact H257 v91 v92 v94 a104 l105 q106 b101
          have H261 : ∀ (v91 : Value) (v92 : Value) (v94 : Value) (b101 : Nat), Nx 63 (gB F [] w0) (feet []) w0 (wpAnyH Tryd.prog .any (opsAt Tryd.f11 [1, 1, 1, 1, 1, 1, 1, 0]) Qd (Mem (gB F [] w0) (feet []) w0 [cellCh b81 [(.slice a83 l84 q85), (.int .i64 r77.xAction), (.int .i64 r77.xChain)] 53, ownCh elGTest 25 (.slice a83 l84 q85) r77.xTests, cellCh b6 [(.slice a8 l9 q10), (.int .i64 r3.xAction), (.int .i64 r3.xChain)] 53, ownCh elGTest 25 (.slice a8 l9 q10) r3.xTests, snapCh w0 F]) 3 #[true, true, true, true, true, true, false, true, true, true, true, false, true, false]) [(3, (.pointer (some ⟨b6, 0, none⟩))), (4, (.string r11)), (5, (.pointer (some ⟨b81, 0, none⟩))), (6, (.bool r80)), (40, (.int .i64 r3.xAction)), (42, (.int .i64 r3.xChain)), (35, v92), (37, v94), (7, (.pointer (some ⟨b101, 0, none⟩)))] [cellCh b101 [(.slice none 0 0), (.int .i64 0), (.int .i64 0)] 53, ownCh elGTest 25 v94 ([(GTest.mk 2 9 9 false)]), ownCh elGTest 25 v92 (([]) ++ r3.xTests), cellCh b81 [(.slice a83 l84 q85), (.int .i64 r77.xAction), (.int .i64 r77.xChain)] 53, ownCh elGTest 25 (.slice a83 l84 q85) r77.xTests, cellCh b6 [(.slice a8 l9 q10), (.int .i64 r3.xAction), (.int .i64 r3.xChain)] 53, ownCh elGTest 25 (.slice a8 l9 q10) r3.xTests, snapCh w0 F] (appW (([]) ++ r3.xTests) ([(GTest.mk 2 9 9 false)]) (fun _ => k90 ((([]) ++ r3.xTests) ++ ([(GTest.mk 2 9 9 false)])))) := by
            intro v91 v92 v94 b101
            refine d_one (i := 6) rfl (by kernel_rfl) (o_app 2 1 rfl rfl (src_flat flelGTest reads_own) rfl rfl rfl el51 rfl zero25 rfl rfl ?_); intro v102
            refine d_and (fun w m => m.pick [3, 4, 5, 6, 7] rfl) ?_
            refine pk [0, 2, 3, 4, 5, 6, 7] rfl ?_
            refine re (E' := [(3, (.pointer (some ⟨b6, 0, none⟩))), (4, (.string r11)), (5, (.pointer (some ⟨b81, 0, none⟩))), (6, (.bool r80)), (40, (.int .i64 r3.xAction)), (42, (.int .i64 r3.xChain)), (7, (.pointer (some ⟨b101, 0, none⟩))), (38, v102)]) ⟨rfl, rfl, rfl, rfl, rfl, rfl, rfl, rfl, trivial⟩ ?_
            exact H260 v91 v92 v94 b101 v102
          have H262 : ∀ (v91 : Value) (v92 : Value) (v94 : Value), Nx 63 (gB F [] w0) (feet []) w0 (wpAnyH Tryd.prog .any (opsAt Tryd.f11 [1, 1, 1, 1, 1, 1, 1, 0]) Qd (Mem (gB F [] w0) (feet []) w0 [cellCh b81 [(.slice a83 l84 q85), (.int .i64 r77.xAction), (.int .i64 r77.xChain)] 53, ownCh elGTest 25 (.slice a83 l84 q85) r77.xTests, cellCh b6 [(.slice a8 l9 q10), (.int .i64 r3.xAction), (.int .i64 r3.xChain)] 53, ownCh elGTest 25 (.slice a8 l9 q10) r3.xTests, snapCh w0 F]) 4 #[true, true, true, true, true, true, false, true, true, true, true, false, false, false]) [(3, (.pointer (some ⟨b6, 0, none⟩))), (4, (.string r11)), (5, (.pointer (some ⟨b81, 0, none⟩))), (6, (.bool r80)), (40, (.int .i64 r3.xAction)), (42, (.int .i64 r3.xChain)), (35, v92), (37, v94)] [ownCh elGTest 25 v94 ([(GTest.mk 2 9 9 false)]), ownCh elGTest 25 v92 (([]) ++ r3.xTests), cellCh b81 [(.slice a83 l84 q85), (.int .i64 r77.xAction), (.int .i64 r77.xChain)] 53, ownCh elGTest 25 (.slice a83 l84 q85) r77.xTests, cellCh b6 [(.slice a8 l9 q10), (.int .i64 r3.xAction), (.int .i64 r3.xChain)] 53, ownCh elGTest 25 (.slice a8 l9 q10) r3.xTests, snapCh w0 F] (appW (([]) ++ r3.xTests) ([(GTest.mk 2 9 9 false)]) (fun _ => k90 ((([]) ++ r3.xTests) ++ ([(GTest.mk 2 9 9 false)])))) := by
            intro v91 v92 v94
            refine d_two (i := 6) (j := 12) rfl rfl (by kernel_rfl) ?_ ?_
            · intro o ho; cases ho
              refine o_app 1 0 rfl rfl (src_flat flelGTest reads_own) rfl rfl rfl el51 rfl zero25 rfl rfl ?_; intro v95
              refine d_and (fun w m => m.pick [2, 3, 4, 5, 6] rfl) ?_
              refine pk [1, 2, 3, 4, 5, 6] rfl ?_
              refine re (E' := [(3, (.pointer (some ⟨b6, 0, none⟩))), (4, (.string r11)), (5, (.pointer (some ⟨b81, 0, none⟩))), (6, (.bool r80)), (40, (.int .i64 r3.xAction)), (42, (.int .i64 r3.xChain)), (38, v95)]) ⟨rfl, rfl, rfl, rfl, rfl, rfl, rfl, trivial⟩ ?_
              exact H259 v91 v92 v94 v95
            · intro o ho; cases ho
              refine o_alloc rfl [(.slice none 0 0), (.int .i64 0), (.int .i64 0)] zero53 ?_; intro b101
              refine d_and (fun w m => m.pick [3, 4, 5, 6, 7] rfl) ?_
              refine pk [0, 1, 2, 3, 4, 5, 6, 7] rfl ?_
              refine re (E' := [(3, (.pointer (some ⟨b6, 0, none⟩))), (4, (.string r11)), (5, (.pointer (some ⟨b81, 0, none⟩))), (6, (.bool r80)), (40, (.int .i64 r3.xAction)), (42, (.int .i64 r3.xChain)), (35, v92), (37, v94), (7, (.pointer (some ⟨b101, 0, none⟩)))]) ⟨rfl, rfl, rfl, rfl, rfl, rfl, rfl, rfl, rfl, trivial⟩ ?_
              exact H261 v91 v92 v94 b101
          have H263 : ∀ (v91 : Value) (v92 : Value) (b107 : Nat), Nx 63 (gB F [] w0) (feet []) w0 (wpAnyH Tryd.prog .any (opsAt Tryd.f11 [1, 1, 1, 1, 1, 1, 1, 0]) Qd (Mem (gB F [] w0) (feet []) w0 [cellCh b81 [(.slice a83 l84 q85), (.int .i64 r77.xAction), (.int .i64 r77.xChain)] 53, ownCh elGTest 25 (.slice a83 l84 q85) r77.xTests, cellCh b6 [(.slice a8 l9 q10), (.int .i64 r3.xAction), (.int .i64 r3.xChain)] 53, ownCh elGTest 25 (.slice a8 l9 q10) r3.xTests, snapCh w0 F]) 4 #[true, true, true, true, true, false, false, true, true, true, true, false, true, false]) [(3, (.pointer (some ⟨b6, 0, none⟩))), (4, (.string r11)), (5, (.pointer (some ⟨b81, 0, none⟩))), (6, (.bool r80)), (36, (.agg #[(.int .i64 2), (.int .i64 9), (.int .i64 9), (.bool false)])), (40, (.int .i64 r3.xAction)), (42, (.int .i64 r3.xChain)), (35, v92), (7, (.pointer (some ⟨b107, 0, none⟩)))] [cellCh b107 [(.slice none 0 0), (.int .i64 0), (.int .i64 0)] 53, ownCh elGTest 25 v92 (([]) ++ r3.xTests), cellCh b81 [(.slice a83 l84 q85), (.int .i64 r77.xAction), (.int .i64 r77.xChain)] 53, ownCh elGTest 25 (.slice a83 l84 q85) r77.xTests, cellCh b6 [(.slice a8 l9 q10), (.int .i64 r3.xAction), (.int .i64 r3.xChain)] 53, ownCh elGTest 25 (.slice a8 l9 q10) r3.xTests, snapCh w0 F] (appW (([]) ++ r3.xTests) ([(GTest.mk 2 9 9 false)]) (fun _ => k90 ((([]) ++ r3.xTests) ++ ([(GTest.mk 2 9 9 false)])))) := by
            intro v91 v92 b107
            refine d_one (i := 5) rfl (by kernel_rfl) (o_bsl (enc := encGTest) (qs := [(0, (.agg #[(.int .i64 2), (.int .i64 9), (.int .i64 9), (.bool false)]))]) (cells := [(.int .i64 2), (.int .i64 9), (.int .i64 9), (.bool false)]) ([(GTest.mk 2 9 9 false)]) flelGTest (by intro ρ h; simp only [List.map_toArray, List.map_cons, List.map_nil, h (.tmp 36) _ rfl]) rfl el51 zero25 rfl rfl rfl rfl rfl rfl ?_); intro v108
            refine d_and (fun w m => m.pick [3, 4, 5, 6, 7] rfl) ?_
            refine pk [1, 0, 2, 3, 4, 5, 6, 7] rfl ?_
            refine re (E' := [(3, (.pointer (some ⟨b6, 0, none⟩))), (4, (.string r11)), (5, (.pointer (some ⟨b81, 0, none⟩))), (6, (.bool r80)), (40, (.int .i64 r3.xAction)), (42, (.int .i64 r3.xChain)), (35, v92), (37, v108), (7, (.pointer (some ⟨b107, 0, none⟩)))]) ⟨rfl, rfl, rfl, rfl, rfl, rfl, rfl, rfl, rfl, trivial⟩ ?_
            exact H261 v91 v92 v108 b107
          have H264 : ∀ (v91 : Value) (v92 : Value), Nx 63 (gB F [] w0) (feet []) w0 (wpAnyH Tryd.prog .any (opsAt Tryd.f11 [1, 1, 1, 1, 1, 1, 1, 0]) Qd (Mem (gB F [] w0) (feet []) w0 [cellCh b81 [(.slice a83 l84 q85), (.int .i64 r77.xAction), (.int .i64 r77.xChain)] 53, ownCh elGTest 25 (.slice a83 l84 q85) r77.xTests, cellCh b6 [(.slice a8 l9 q10), (.int .i64 r3.xAction), (.int .i64 r3.xChain)] 53, ownCh elGTest 25 (.slice a8 l9 q10) r3.xTests, snapCh w0 F]) 5 #[true, true, true, true, true, false, false, true, true, true, true, false, false, false]) [(3, (.pointer (some ⟨b6, 0, none⟩))), (4, (.string r11)), (5, (.pointer (some ⟨b81, 0, none⟩))), (6, (.bool r80)), (36, (.agg #[(.int .i64 2), (.int .i64 9), (.int .i64 9), (.bool false)])), (40, (.int .i64 r3.xAction)), (42, (.int .i64 r3.xChain)), (35, v92)] [ownCh elGTest 25 v92 (([]) ++ r3.xTests), cellCh b81 [(.slice a83 l84 q85), (.int .i64 r77.xAction), (.int .i64 r77.xChain)] 53, ownCh elGTest 25 (.slice a83 l84 q85) r77.xTests, cellCh b6 [(.slice a8 l9 q10), (.int .i64 r3.xAction), (.int .i64 r3.xChain)] 53, ownCh elGTest 25 (.slice a8 l9 q10) r3.xTests, snapCh w0 F] (appW (([]) ++ r3.xTests) ([(GTest.mk 2 9 9 false)]) (fun _ => k90 ((([]) ++ r3.xTests) ++ ([(GTest.mk 2 9 9 false)])))) := by
            intro v91 v92
            refine d_two (i := 5) (j := 12) rfl rfl (by kernel_rfl) ?_ ?_
            · intro o ho; cases ho
              refine o_bsl (enc := encGTest) (qs := [(0, (.agg #[(.int .i64 2), (.int .i64 9), (.int .i64 9), (.bool false)]))]) (cells := [(.int .i64 2), (.int .i64 9), (.int .i64 9), (.bool false)]) ([(GTest.mk 2 9 9 false)]) flelGTest (by intro ρ h; simp only [List.map_toArray, List.map_cons, List.map_nil, h (.tmp 36) _ rfl]) rfl el51 zero25 rfl rfl rfl rfl rfl rfl ?_; intro v94
              refine d_and (fun w m => m.pick [2, 3, 4, 5, 6] rfl) ?_
              refine pk [0, 1, 2, 3, 4, 5, 6] rfl ?_
              refine re (E' := [(3, (.pointer (some ⟨b6, 0, none⟩))), (4, (.string r11)), (5, (.pointer (some ⟨b81, 0, none⟩))), (6, (.bool r80)), (40, (.int .i64 r3.xAction)), (42, (.int .i64 r3.xChain)), (35, v92), (37, v94)]) ⟨rfl, rfl, rfl, rfl, rfl, rfl, rfl, rfl, trivial⟩ ?_
              exact H262 v91 v92 v94
            · intro o ho; cases ho
              refine o_alloc rfl [(.slice none 0 0), (.int .i64 0), (.int .i64 0)] zero53 ?_; intro b107
              refine d_and (fun w m => m.pick [2, 3, 4, 5, 6] rfl) ?_
              refine pk [0, 1, 2, 3, 4, 5, 6] rfl ?_
              refine re (E' := [(3, (.pointer (some ⟨b6, 0, none⟩))), (4, (.string r11)), (5, (.pointer (some ⟨b81, 0, none⟩))), (6, (.bool r80)), (36, (.agg #[(.int .i64 2), (.int .i64 9), (.int .i64 9), (.bool false)])), (40, (.int .i64 r3.xAction)), (42, (.int .i64 r3.xChain)), (35, v92), (7, (.pointer (some ⟨b107, 0, none⟩)))]) ⟨rfl, rfl, rfl, rfl, rfl, rfl, rfl, rfl, rfl, trivial⟩ ?_
              exact H263 v91 v92 b107
          have H265 : ∀ (v91 : Value) (v109 : Value) (b112 : Nat), Nx 63 (gB F [] w0) (feet []) w0 (wpAnyH Tryd.prog .any (opsAt Tryd.f11 [1, 1, 1, 1, 1, 1, 1, 0]) Qd (Mem (gB F [] w0) (feet []) w0 [cellCh b81 [(.slice a83 l84 q85), (.int .i64 r77.xAction), (.int .i64 r77.xChain)] 53, ownCh elGTest 25 (.slice a83 l84 q85) r77.xTests, cellCh b6 [(.slice a8 l9 q10), (.int .i64 r3.xAction), (.int .i64 r3.xChain)] 53, ownCh elGTest 25 (.slice a8 l9 q10) r3.xTests, snapCh w0 F]) 4 #[true, true, true, false, true, true, false, true, true, true, true, false, true, false]) [(3, (.pointer (some ⟨b6, 0, none⟩))), (4, (.string r11)), (5, (.pointer (some ⟨b81, 0, none⟩))), (6, (.bool r80)), (34, (.slice a8 l9 q10)), (40, (.int .i64 r3.xAction)), (42, (.int .i64 r3.xChain)), (32, v91), (37, v109), (7, (.pointer (some ⟨b112, 0, none⟩)))] [cellCh b112 [(.slice none 0 0), (.int .i64 0), (.int .i64 0)] 53, ownCh elGTest 25 v109 ([(GTest.mk 2 9 9 false)]), ownCh elGTest 25 v91 ([]), cellCh b81 [(.slice a83 l84 q85), (.int .i64 r77.xAction), (.int .i64 r77.xChain)] 53, ownCh elGTest 25 (.slice a83 l84 q85) r77.xTests, cellCh b6 [(.slice a8 l9 q10), (.int .i64 r3.xAction), (.int .i64 r3.xChain)] 53, ownCh elGTest 25 (.slice a8 l9 q10) r3.xTests, snapCh w0 F] (appW ([]) r3.xTests (fun _ => appW (([]) ++ r3.xTests) ([(GTest.mk 2 9 9 false)]) (fun _ => k90 ((([]) ++ r3.xTests) ++ ([(GTest.mk 2 9 9 false)]))))) := by
            intro v91 v109 b112
            refine d_one (i := 3) rfl (by kernel_rfl) (o_app 2 6 rfl rfl (src_flat flelGTest reads_own) rfl rfl rfl el51 rfl zero25 rfl rfl ?_); intro v113
            refine d_and (fun w m => m.pick [3, 4, 5, 6, 7] rfl) ?_
            refine pk [0, 1, 2, 3, 4, 5, 6, 7] rfl ?_
            refine re (E' := [(3, (.pointer (some ⟨b6, 0, none⟩))), (4, (.string r11)), (5, (.pointer (some ⟨b81, 0, none⟩))), (6, (.bool r80)), (40, (.int .i64 r3.xAction)), (42, (.int .i64 r3.xChain)), (35, v113), (37, v109), (7, (.pointer (some ⟨b112, 0, none⟩)))]) ⟨rfl, rfl, rfl, rfl, rfl, rfl, rfl, rfl, rfl, trivial⟩ ?_
            exact H261 v91 v113 v109 b112
          have H266 : ∀ (v91 : Value) (v109 : Value), Nx 63 (gB F [] w0) (feet []) w0 (wpAnyH Tryd.prog .any (opsAt Tryd.f11 [1, 1, 1, 1, 1, 1, 1, 0]) Qd (Mem (gB F [] w0) (feet []) w0 [cellCh b81 [(.slice a83 l84 q85), (.int .i64 r77.xAction), (.int .i64 r77.xChain)] 53, ownCh elGTest 25 (.slice a83 l84 q85) r77.xTests, cellCh b6 [(.slice a8 l9 q10), (.int .i64 r3.xAction), (.int .i64 r3.xChain)] 53, ownCh elGTest 25 (.slice a8 l9 q10) r3.xTests, snapCh w0 F]) 5 #[true, true, true, false, true, true, false, true, true, true, true, false, false, false]) [(3, (.pointer (some ⟨b6, 0, none⟩))), (4, (.string r11)), (5, (.pointer (some ⟨b81, 0, none⟩))), (6, (.bool r80)), (34, (.slice a8 l9 q10)), (40, (.int .i64 r3.xAction)), (42, (.int .i64 r3.xChain)), (32, v91), (37, v109)] [ownCh elGTest 25 v109 ([(GTest.mk 2 9 9 false)]), ownCh elGTest 25 v91 ([]), cellCh b81 [(.slice a83 l84 q85), (.int .i64 r77.xAction), (.int .i64 r77.xChain)] 53, ownCh elGTest 25 (.slice a83 l84 q85) r77.xTests, cellCh b6 [(.slice a8 l9 q10), (.int .i64 r3.xAction), (.int .i64 r3.xChain)] 53, ownCh elGTest 25 (.slice a8 l9 q10) r3.xTests, snapCh w0 F] (appW ([]) r3.xTests (fun _ => appW (([]) ++ r3.xTests) ([(GTest.mk 2 9 9 false)]) (fun _ => k90 ((([]) ++ r3.xTests) ++ ([(GTest.mk 2 9 9 false)]))))) := by
            intro v91 v109
            refine d_two (i := 3) (j := 12) rfl rfl (by kernel_rfl) ?_ ?_
            · intro o ho; cases ho
              refine o_app 1 5 rfl rfl (src_flat flelGTest reads_own) rfl rfl rfl el51 rfl zero25 rfl rfl ?_; intro v110
              refine d_and (fun w m => m.pick [2, 3, 4, 5, 6] rfl) ?_
              refine pk [0, 1, 2, 3, 4, 5, 6] rfl ?_
              refine re (E' := [(3, (.pointer (some ⟨b6, 0, none⟩))), (4, (.string r11)), (5, (.pointer (some ⟨b81, 0, none⟩))), (6, (.bool r80)), (40, (.int .i64 r3.xAction)), (42, (.int .i64 r3.xChain)), (35, v110), (37, v109)]) ⟨rfl, rfl, rfl, rfl, rfl, rfl, rfl, rfl, trivial⟩ ?_
              exact H262 v91 v110 v109
            · intro o ho; cases ho
              refine o_alloc rfl [(.slice none 0 0), (.int .i64 0), (.int .i64 0)] zero53 ?_; intro b112
              refine d_and (fun w m => m.pick [3, 4, 5, 6, 7] rfl) ?_
              refine pk [0, 1, 2, 3, 4, 5, 6, 7] rfl ?_
              refine re (E' := [(3, (.pointer (some ⟨b6, 0, none⟩))), (4, (.string r11)), (5, (.pointer (some ⟨b81, 0, none⟩))), (6, (.bool r80)), (34, (.slice a8 l9 q10)), (40, (.int .i64 r3.xAction)), (42, (.int .i64 r3.xChain)), (32, v91), (37, v109), (7, (.pointer (some ⟨b112, 0, none⟩)))]) ⟨rfl, rfl, rfl, rfl, rfl, rfl, rfl, rfl, rfl, rfl, trivial⟩ ?_
              exact H265 v91 v109 b112
          have H267 : ∀ (v91 : Value) (b115 : Nat), Nx 63 (gB F [] w0) (feet []) w0 (wpAnyH Tryd.prog .any (opsAt Tryd.f11 [1, 1, 1, 1, 1, 1, 1, 0]) Qd (Mem (gB F [] w0) (feet []) w0 [cellCh b81 [(.slice a83 l84 q85), (.int .i64 r77.xAction), (.int .i64 r77.xChain)] 53, ownCh elGTest 25 (.slice a83 l84 q85) r77.xTests, cellCh b6 [(.slice a8 l9 q10), (.int .i64 r3.xAction), (.int .i64 r3.xChain)] 53, ownCh elGTest 25 (.slice a8 l9 q10) r3.xTests, snapCh w0 F]) 5 #[true, true, true, false, true, false, false, true, true, true, true, false, true, false]) [(3, (.pointer (some ⟨b6, 0, none⟩))), (4, (.string r11)), (5, (.pointer (some ⟨b81, 0, none⟩))), (6, (.bool r80)), (34, (.slice a8 l9 q10)), (36, (.agg #[(.int .i64 2), (.int .i64 9), (.int .i64 9), (.bool false)])), (40, (.int .i64 r3.xAction)), (42, (.int .i64 r3.xChain)), (32, v91), (7, (.pointer (some ⟨b115, 0, none⟩)))] [cellCh b115 [(.slice none 0 0), (.int .i64 0), (.int .i64 0)] 53, ownCh elGTest 25 v91 ([]), cellCh b81 [(.slice a83 l84 q85), (.int .i64 r77.xAction), (.int .i64 r77.xChain)] 53, ownCh elGTest 25 (.slice a83 l84 q85) r77.xTests, cellCh b6 [(.slice a8 l9 q10), (.int .i64 r3.xAction), (.int .i64 r3.xChain)] 53, ownCh elGTest 25 (.slice a8 l9 q10) r3.xTests, snapCh w0 F] (appW ([]) r3.xTests (fun _ => appW (([]) ++ r3.xTests) ([(GTest.mk 2 9 9 false)]) (fun _ => k90 ((([]) ++ r3.xTests) ++ ([(GTest.mk 2 9 9 false)]))))) := by
            intro v91 b115
            refine d_two (i := 3) (j := 5) rfl rfl (by kernel_rfl) ?_ ?_
            · intro o ho; cases ho
              refine o_app 1 5 rfl rfl (src_flat flelGTest reads_own) rfl rfl rfl el51 rfl zero25 rfl rfl ?_; intro v116
              refine d_and (fun w m => m.pick [2, 3, 4, 5, 6] rfl) ?_
              refine pk [0, 1, 2, 3, 4, 5, 6] rfl ?_
              refine re (E' := [(3, (.pointer (some ⟨b6, 0, none⟩))), (4, (.string r11)), (5, (.pointer (some ⟨b81, 0, none⟩))), (6, (.bool r80)), (36, (.agg #[(.int .i64 2), (.int .i64 9), (.int .i64 9), (.bool false)])), (40, (.int .i64 r3.xAction)), (42, (.int .i64 r3.xChain)), (35, v116), (7, (.pointer (some ⟨b115, 0, none⟩)))]) ⟨rfl, rfl, rfl, rfl, rfl, rfl, rfl, rfl, rfl, trivial⟩ ?_
              exact H263 v91 v116 b115
            · intro o ho; cases ho
              refine o_bsl (enc := encGTest) (qs := [(0, (.agg #[(.int .i64 2), (.int .i64 9), (.int .i64 9), (.bool false)]))]) (cells := [(.int .i64 2), (.int .i64 9), (.int .i64 9), (.bool false)]) ([(GTest.mk 2 9 9 false)]) flelGTest (by intro ρ h; simp only [List.map_toArray, List.map_cons, List.map_nil, h (.tmp 36) _ rfl]) rfl el51 zero25 rfl rfl rfl rfl rfl rfl ?_; intro v118
              refine d_and (fun w m => m.pick [3, 4, 5, 6, 7] rfl) ?_
              refine pk [1, 0, 2, 3, 4, 5, 6, 7] rfl ?_
              refine re (E' := [(3, (.pointer (some ⟨b6, 0, none⟩))), (4, (.string r11)), (5, (.pointer (some ⟨b81, 0, none⟩))), (6, (.bool r80)), (34, (.slice a8 l9 q10)), (40, (.int .i64 r3.xAction)), (42, (.int .i64 r3.xChain)), (32, v91), (37, v118), (7, (.pointer (some ⟨b115, 0, none⟩)))]) ⟨rfl, rfl, rfl, rfl, rfl, rfl, rfl, rfl, rfl, rfl, trivial⟩ ?_
              exact H265 v91 v118 b115
          have H268 : ∀ (v91 : Value), Nx 63 (gB F [] w0) (feet []) w0 (wpAnyH Tryd.prog .any (opsAt Tryd.f11 [1, 1, 1, 1, 1, 1, 1, 0]) Qd (Mem (gB F [] w0) (feet []) w0 [cellCh b81 [(.slice a83 l84 q85), (.int .i64 r77.xAction), (.int .i64 r77.xChain)] 53, ownCh elGTest 25 (.slice a83 l84 q85) r77.xTests, cellCh b6 [(.slice a8 l9 q10), (.int .i64 r3.xAction), (.int .i64 r3.xChain)] 53, ownCh elGTest 25 (.slice a8 l9 q10) r3.xTests, snapCh w0 F]) 6 #[true, true, true, false, true, false, false, true, true, true, true, false, false, false]) [(3, (.pointer (some ⟨b6, 0, none⟩))), (4, (.string r11)), (5, (.pointer (some ⟨b81, 0, none⟩))), (6, (.bool r80)), (34, (.slice a8 l9 q10)), (36, (.agg #[(.int .i64 2), (.int .i64 9), (.int .i64 9), (.bool false)])), (40, (.int .i64 r3.xAction)), (42, (.int .i64 r3.xChain)), (32, v91)] [ownCh elGTest 25 v91 ([]), cellCh b81 [(.slice a83 l84 q85), (.int .i64 r77.xAction), (.int .i64 r77.xChain)] 53, ownCh elGTest 25 (.slice a83 l84 q85) r77.xTests, cellCh b6 [(.slice a8 l9 q10), (.int .i64 r3.xAction), (.int .i64 r3.xChain)] 53, ownCh elGTest 25 (.slice a8 l9 q10) r3.xTests, snapCh w0 F] (appW ([]) r3.xTests (fun _ => appW (([]) ++ r3.xTests) ([(GTest.mk 2 9 9 false)]) (fun _ => k90 ((([]) ++ r3.xTests) ++ ([(GTest.mk 2 9 9 false)]))))) := by
            intro v91
            refine d_three (i := 3) (j := 5) (l := 12) rfl rfl rfl (by kernel_rfl) ?_ ?_ ?_
            · intro o ho; cases ho
              refine o_app 0 4 rfl rfl (src_flat flelGTest reads_own) rfl rfl rfl el51 rfl zero25 rfl rfl ?_; intro v92
              refine d_and (fun w m => m.pick [1, 2, 3, 4, 5] rfl) ?_
              refine pk [0, 1, 2, 3, 4, 5] rfl ?_
              refine re (E' := [(3, (.pointer (some ⟨b6, 0, none⟩))), (4, (.string r11)), (5, (.pointer (some ⟨b81, 0, none⟩))), (6, (.bool r80)), (36, (.agg #[(.int .i64 2), (.int .i64 9), (.int .i64 9), (.bool false)])), (40, (.int .i64 r3.xAction)), (42, (.int .i64 r3.xChain)), (35, v92)]) ⟨rfl, rfl, rfl, rfl, rfl, rfl, rfl, rfl, trivial⟩ ?_
              exact H264 v91 v92
            · intro o ho; cases ho
              refine o_bsl (enc := encGTest) (qs := [(0, (.agg #[(.int .i64 2), (.int .i64 9), (.int .i64 9), (.bool false)]))]) (cells := [(.int .i64 2), (.int .i64 9), (.int .i64 9), (.bool false)]) ([(GTest.mk 2 9 9 false)]) flelGTest (by intro ρ h; simp only [List.map_toArray, List.map_cons, List.map_nil, h (.tmp 36) _ rfl]) rfl el51 zero25 rfl rfl rfl rfl rfl rfl ?_; intro v109
              refine d_and (fun w m => m.pick [2, 3, 4, 5, 6] rfl) ?_
              refine pk [0, 1, 2, 3, 4, 5, 6] rfl ?_
              refine re (E' := [(3, (.pointer (some ⟨b6, 0, none⟩))), (4, (.string r11)), (5, (.pointer (some ⟨b81, 0, none⟩))), (6, (.bool r80)), (34, (.slice a8 l9 q10)), (40, (.int .i64 r3.xAction)), (42, (.int .i64 r3.xChain)), (32, v91), (37, v109)]) ⟨rfl, rfl, rfl, rfl, rfl, rfl, rfl, rfl, rfl, trivial⟩ ?_
              exact H266 v91 v109
            · intro o ho; cases ho
              refine o_alloc rfl [(.slice none 0 0), (.int .i64 0), (.int .i64 0)] zero53 ?_; intro b115
              refine d_and (fun w m => m.pick [2, 3, 4, 5, 6] rfl) ?_
              refine pk [0, 1, 2, 3, 4, 5, 6] rfl ?_
              refine re (E' := [(3, (.pointer (some ⟨b6, 0, none⟩))), (4, (.string r11)), (5, (.pointer (some ⟨b81, 0, none⟩))), (6, (.bool r80)), (34, (.slice a8 l9 q10)), (36, (.agg #[(.int .i64 2), (.int .i64 9), (.int .i64 9), (.bool false)])), (40, (.int .i64 r3.xAction)), (42, (.int .i64 r3.xChain)), (32, v91), (7, (.pointer (some ⟨b115, 0, none⟩)))]) ⟨rfl, rfl, rfl, rfl, rfl, rfl, rfl, rfl, rfl, rfl, trivial⟩ ?_
              exact H267 v91 b115
          have H269 : ∀ (v119 : Value) (b121 : Nat), Nx 63 (gB F [] w0) (feet []) w0 (wpAnyH Tryd.prog .any (opsAt Tryd.f11 [1, 1, 1, 1, 1, 1, 1, 0]) Qd (Mem (gB F [] w0) (feet []) w0 [cellCh b81 [(.slice a83 l84 q85), (.int .i64 r77.xAction), (.int .i64 r77.xChain)] 53, ownCh elGTest 25 (.slice a83 l84 q85) r77.xTests, cellCh b6 [(.slice a8 l9 q10), (.int .i64 r3.xAction), (.int .i64 r3.xChain)] 53, ownCh elGTest 25 (.slice a8 l9 q10) r3.xTests, snapCh w0 F]) 5 #[false, true, true, false, true, true, false, true, true, true, true, false, true, false]) [(3, (.pointer (some ⟨b6, 0, none⟩))), (4, (.string r11)), (5, (.pointer (some ⟨b81, 0, none⟩))), (6, (.bool r80)), (34, (.slice a8 l9 q10)), (40, (.int .i64 r3.xAction)), (42, (.int .i64 r3.xChain)), (37, v119), (7, (.pointer (some ⟨b121, 0, none⟩)))] [cellCh b121 [(.slice none 0 0), (.int .i64 0), (.int .i64 0)] 53, ownCh elGTest 25 v119 ([(GTest.mk 2 9 9 false)]), cellCh b81 [(.slice a83 l84 q85), (.int .i64 r77.xAction), (.int .i64 r77.xChain)] 53, ownCh elGTest 25 (.slice a83 l84 q85) r77.xTests, cellCh b6 [(.slice a8 l9 q10), (.int .i64 r3.xAction), (.int .i64 r3.xChain)] 53, ownCh elGTest 25 (.slice a8 l9 q10) r3.xTests, snapCh w0 F] (appW ([]) r3.xTests (fun _ => appW (([]) ++ r3.xTests) ([(GTest.mk 2 9 9 false)]) (fun _ => k90 ((([]) ++ r3.xTests) ++ ([(GTest.mk 2 9 9 false)]))))) := by
            intro v119 b121
            refine d_one (i := 0) rfl (by kernel_rfl) (o_bsl (enc := encGTest) (qs := []) (cells := []) ([] : (List GTest)) flelGTest (by intro ρ h; simp only [List.map_toArray, List.map_cons, List.map_nil]) rfl el51 zero25 rfl rfl rfl rfl rfl rfl ?_); intro v122
            refine d_and (fun w m => m.pick [3, 4, 5, 6, 7] rfl) ?_
            refine pk [1, 2, 0, 3, 4, 5, 6, 7] rfl ?_
            refine re (E' := [(3, (.pointer (some ⟨b6, 0, none⟩))), (4, (.string r11)), (5, (.pointer (some ⟨b81, 0, none⟩))), (6, (.bool r80)), (34, (.slice a8 l9 q10)), (40, (.int .i64 r3.xAction)), (42, (.int .i64 r3.xChain)), (32, v122), (37, v119), (7, (.pointer (some ⟨b121, 0, none⟩)))]) ⟨rfl, rfl, rfl, rfl, rfl, rfl, rfl, rfl, rfl, rfl, trivial⟩ ?_
            exact H265 v122 v119 b121
          have H270 : ∀ (v119 : Value), Nx 63 (gB F [] w0) (feet []) w0 (wpAnyH Tryd.prog .any (opsAt Tryd.f11 [1, 1, 1, 1, 1, 1, 1, 0]) Qd (Mem (gB F [] w0) (feet []) w0 [cellCh b81 [(.slice a83 l84 q85), (.int .i64 r77.xAction), (.int .i64 r77.xChain)] 53, ownCh elGTest 25 (.slice a83 l84 q85) r77.xTests, cellCh b6 [(.slice a8 l9 q10), (.int .i64 r3.xAction), (.int .i64 r3.xChain)] 53, ownCh elGTest 25 (.slice a8 l9 q10) r3.xTests, snapCh w0 F]) 6 #[false, true, true, false, true, true, false, true, true, true, true, false, false, false]) [(3, (.pointer (some ⟨b6, 0, none⟩))), (4, (.string r11)), (5, (.pointer (some ⟨b81, 0, none⟩))), (6, (.bool r80)), (34, (.slice a8 l9 q10)), (40, (.int .i64 r3.xAction)), (42, (.int .i64 r3.xChain)), (37, v119)] [ownCh elGTest 25 v119 ([(GTest.mk 2 9 9 false)]), cellCh b81 [(.slice a83 l84 q85), (.int .i64 r77.xAction), (.int .i64 r77.xChain)] 53, ownCh elGTest 25 (.slice a83 l84 q85) r77.xTests, cellCh b6 [(.slice a8 l9 q10), (.int .i64 r3.xAction), (.int .i64 r3.xChain)] 53, ownCh elGTest 25 (.slice a8 l9 q10) r3.xTests, snapCh w0 F] (appW ([]) r3.xTests (fun _ => appW (([]) ++ r3.xTests) ([(GTest.mk 2 9 9 false)]) (fun _ => k90 ((([]) ++ r3.xTests) ++ ([(GTest.mk 2 9 9 false)]))))) := by
            intro v119
            refine d_two (i := 0) (j := 12) rfl rfl (by kernel_rfl) ?_ ?_
            · intro o ho; cases ho
              refine o_bsl (enc := encGTest) (qs := []) (cells := []) ([] : (List GTest)) flelGTest (by intro ρ h; simp only [List.map_toArray, List.map_cons, List.map_nil]) rfl el51 zero25 rfl rfl rfl rfl rfl rfl ?_; intro v120
              refine d_and (fun w m => m.pick [2, 3, 4, 5, 6] rfl) ?_
              refine pk [1, 0, 2, 3, 4, 5, 6] rfl ?_
              refine re (E' := [(3, (.pointer (some ⟨b6, 0, none⟩))), (4, (.string r11)), (5, (.pointer (some ⟨b81, 0, none⟩))), (6, (.bool r80)), (34, (.slice a8 l9 q10)), (40, (.int .i64 r3.xAction)), (42, (.int .i64 r3.xChain)), (32, v120), (37, v119)]) ⟨rfl, rfl, rfl, rfl, rfl, rfl, rfl, rfl, rfl, trivial⟩ ?_
              exact H266 v120 v119
            · intro o ho; cases ho
              refine o_alloc rfl [(.slice none 0 0), (.int .i64 0), (.int .i64 0)] zero53 ?_; intro b121
              refine d_and (fun w m => m.pick [2, 3, 4, 5, 6] rfl) ?_
              refine pk [0, 1, 2, 3, 4, 5, 6] rfl ?_
              refine re (E' := [(3, (.pointer (some ⟨b6, 0, none⟩))), (4, (.string r11)), (5, (.pointer (some ⟨b81, 0, none⟩))), (6, (.bool r80)), (34, (.slice a8 l9 q10)), (40, (.int .i64 r3.xAction)), (42, (.int .i64 r3.xChain)), (37, v119), (7, (.pointer (some ⟨b121, 0, none⟩)))]) ⟨rfl, rfl, rfl, rfl, rfl, rfl, rfl, rfl, rfl, trivial⟩ ?_
              exact H269 v119 b121
          have H271 : ∀ (b123 : Nat), Nx 63 (gB F [] w0) (feet []) w0 (wpAnyH Tryd.prog .any (opsAt Tryd.f11 [1, 1, 1, 1, 1, 1, 1, 0]) Qd (Mem (gB F [] w0) (feet []) w0 [cellCh b81 [(.slice a83 l84 q85), (.int .i64 r77.xAction), (.int .i64 r77.xChain)] 53, ownCh elGTest 25 (.slice a83 l84 q85) r77.xTests, cellCh b6 [(.slice a8 l9 q10), (.int .i64 r3.xAction), (.int .i64 r3.xChain)] 53, ownCh elGTest 25 (.slice a8 l9 q10) r3.xTests, snapCh w0 F]) 6 #[false, true, true, false, true, false, false, true, true, true, true, false, true, false]) [(3, (.pointer (some ⟨b6, 0, none⟩))), (4, (.string r11)), (5, (.pointer (some ⟨b81, 0, none⟩))), (6, (.bool r80)), (34, (.slice a8 l9 q10)), (36, (.agg #[(.int .i64 2), (.int .i64 9), (.int .i64 9), (.bool false)])), (40, (.int .i64 r3.xAction)), (42, (.int .i64 r3.xChain)), (7, (.pointer (some ⟨b123, 0, none⟩)))] [cellCh b123 [(.slice none 0 0), (.int .i64 0), (.int .i64 0)] 53, cellCh b81 [(.slice a83 l84 q85), (.int .i64 r77.xAction), (.int .i64 r77.xChain)] 53, ownCh elGTest 25 (.slice a83 l84 q85) r77.xTests, cellCh b6 [(.slice a8 l9 q10), (.int .i64 r3.xAction), (.int .i64 r3.xChain)] 53, ownCh elGTest 25 (.slice a8 l9 q10) r3.xTests, snapCh w0 F] (appW ([]) r3.xTests (fun _ => appW (([]) ++ r3.xTests) ([(GTest.mk 2 9 9 false)]) (fun _ => k90 ((([]) ++ r3.xTests) ++ ([(GTest.mk 2 9 9 false)]))))) := by
            intro b123
            refine d_two (i := 0) (j := 5) rfl rfl (by kernel_rfl) ?_ ?_
            · intro o ho; cases ho
              refine o_bsl (enc := encGTest) (qs := []) (cells := []) ([] : (List GTest)) flelGTest (by intro ρ h; simp only [List.map_toArray, List.map_cons, List.map_nil]) rfl el51 zero25 rfl rfl rfl rfl rfl rfl ?_; intro v124
              refine d_and (fun w m => m.pick [2, 3, 4, 5, 6] rfl) ?_
              refine pk [1, 0, 2, 3, 4, 5, 6] rfl ?_
              refine re (E' := [(3, (.pointer (some ⟨b6, 0, none⟩))), (4, (.string r11)), (5, (.pointer (some ⟨b81, 0, none⟩))), (6, (.bool r80)), (34, (.slice a8 l9 q10)), (36, (.agg #[(.int .i64 2), (.int .i64 9), (.int .i64 9), (.bool false)])), (40, (.int .i64 r3.xAction)), (42, (.int .i64 r3.xChain)), (32, v124), (7, (.pointer (some ⟨b123, 0, none⟩)))]) ⟨rfl, rfl, rfl, rfl, rfl, rfl, rfl, rfl, rfl, rfl, trivial⟩ ?_
              exact H267 v124 b123
            · intro o ho; cases ho
              refine o_bsl (enc := encGTest) (qs := [(0, (.agg #[(.int .i64 2), (.int .i64 9), (.int .i64 9), (.bool false)]))]) (cells := [(.int .i64 2), (.int .i64 9), (.int .i64 9), (.bool false)]) ([(GTest.mk 2 9 9 false)]) flelGTest (by intro ρ h; simp only [List.map_toArray, List.map_cons, List.map_nil, h (.tmp 36) _ rfl]) rfl el51 zero25 rfl rfl rfl rfl rfl rfl ?_; intro v125
              refine d_and (fun w m => m.pick [2, 3, 4, 5, 6] rfl) ?_
              refine pk [1, 0, 2, 3, 4, 5, 6] rfl ?_
              refine re (E' := [(3, (.pointer (some ⟨b6, 0, none⟩))), (4, (.string r11)), (5, (.pointer (some ⟨b81, 0, none⟩))), (6, (.bool r80)), (34, (.slice a8 l9 q10)), (40, (.int .i64 r3.xAction)), (42, (.int .i64 r3.xChain)), (37, v125), (7, (.pointer (some ⟨b123, 0, none⟩)))]) ⟨rfl, rfl, rfl, rfl, rfl, rfl, rfl, rfl, rfl, trivial⟩ ?_
              exact H269 v125 b123
          refine o_fad (dt 1 (fun _ m => m)) rfl rfl fld53_0 rfl ?_
          refine o_ldc (dt 2 (fun _ m => m)) (v := (.slice a8 l9 q10)) 2 rfl rfl rfl ty51 rfl ?_
          refine o_bld (dt 4 (fun _ m => m)) (qs := [(0, (.int .i64 2)), (1, (.int .i64 9)), (2, (.int .i64 9))]) (cells := [(.int .i64 2), (.int .i64 9), (.int .i64 9), (.bool false)]) (by intro ρ h; simp only [List.map_toArray, List.map_cons, List.map_nil, h (.const (.int .i64 2)) _ rfl, h (.const (.int .i64 9)) _ rfl, h (.const (.int .i64 9)) _ rfl]) rfl bld25 rfl ?_
          refine o_fad (dt 7 (fun _ m => m)) rfl rfl fld53_1 rfl ?_
          refine o_ldc (dt 8 (fun _ m => m)) (v := (.int .i64 r3.xAction)) 2 rfl rfl rfl ty3 rfl ?_
          refine o_fad (dt 9 (fun _ m => m)) rfl rfl fld53_2 rfl ?_
          refine o_ldc (dt 10 (fun _ m => m)) (v := (.int .i64 r3.xChain)) 2 rfl rfl rfl ty3 rfl ?_
          refine d_three (i := 0) (j := 5) (l := 12) rfl rfl rfl (by kernel_rfl) ?_ ?_ ?_
          · intro o ho; cases ho
            refine o_bsl (enc := encGTest) (qs := []) (cells := []) ([] : (List GTest)) flelGTest (by intro ρ h; simp only [List.map_toArray, List.map_cons, List.map_nil]) rfl el51 zero25 rfl rfl rfl rfl rfl rfl ?_; intro v91
            refine d_and (fun w m => m.pick [1, 2, 3, 4, 5] rfl) ?_
            refine pk [0, 1, 2, 3, 4, 5] rfl ?_
            refine re (E' := [(3, (.pointer (some ⟨b6, 0, none⟩))), (4, (.string r11)), (5, (.pointer (some ⟨b81, 0, none⟩))), (6, (.bool r80)), (34, (.slice a8 l9 q10)), (36, (.agg #[(.int .i64 2), (.int .i64 9), (.int .i64 9), (.bool false)])), (40, (.int .i64 r3.xAction)), (42, (.int .i64 r3.xChain)), (32, v91)]) ⟨rfl, rfl, rfl, rfl, rfl, rfl, rfl, rfl, rfl, trivial⟩ ?_
            exact H268 v91
          · intro o ho; cases ho
            refine o_bsl (enc := encGTest) (qs := [(0, (.agg #[(.int .i64 2), (.int .i64 9), (.int .i64 9), (.bool false)]))]) (cells := [(.int .i64 2), (.int .i64 9), (.int .i64 9), (.bool false)]) ([(GTest.mk 2 9 9 false)]) flelGTest (by intro ρ h; simp only [List.map_toArray, List.map_cons, List.map_nil, h (.tmp 36) _ rfl]) rfl el51 zero25 rfl rfl rfl rfl rfl rfl ?_; intro v119
            refine d_and (fun w m => m.pick [1, 2, 3, 4, 5] rfl) ?_
            refine pk [0, 1, 2, 3, 4, 5] rfl ?_
            refine re (E' := [(3, (.pointer (some ⟨b6, 0, none⟩))), (4, (.string r11)), (5, (.pointer (some ⟨b81, 0, none⟩))), (6, (.bool r80)), (34, (.slice a8 l9 q10)), (40, (.int .i64 r3.xAction)), (42, (.int .i64 r3.xChain)), (37, v119)]) ⟨rfl, rfl, rfl, rfl, rfl, rfl, rfl, rfl, trivial⟩ ?_
            exact H270 v119
          · intro o ho; cases ho
            refine o_alloc rfl [(.slice none 0 0), (.int .i64 0), (.int .i64 0)] zero53 ?_; intro b123
            refine d_and (fun w m => m.pick [1, 2, 3, 4, 5] rfl) ?_
            refine pk [0, 1, 2, 3, 4, 5] rfl ?_
            refine re (E' := [(3, (.pointer (some ⟨b6, 0, none⟩))), (4, (.string r11)), (5, (.pointer (some ⟨b81, 0, none⟩))), (6, (.bool r80)), (34, (.slice a8 l9 q10)), (36, (.agg #[(.int .i64 2), (.int .i64 9), (.int .i64 9), (.bool false)])), (40, (.int .i64 r3.xAction)), (42, (.int .i64 r3.xChain)), (7, (.pointer (some ⟨b123, 0, none⟩)))]) ⟨rfl, rfl, rfl, rfl, rfl, rfl, rfl, rfl, rfl, trivial⟩ ?_
            exact H271 b123
        · rintro xs86 a w ⟨v87, b89, hE, hm⟩ h
          refine nx_of hE hm h ?_
          clear hE hm h
          refine c_join (σ := Bool) (fun (t189 : Bool) (a : Act) (w : World) => Has 63 [(2, (.bool t189))] a ∧ Mem (gB F [] w0) (feet []) w0 [snapCh w0 F] w) ?_ ?_
          · intro k190
            refine c_region ?_
            refine o_mv st rfl rfl ?_
            refine o_mv st rfl rfl ?_
            refine st_sp (dj := 45) rfl ?_ ?_
            · refine o_ldc (st_g rfl rfl) (v := (.agg #[(.slice a83 l84 q85), (.int .i64 r77.xAction), (.int .i64 r77.xChain)])) 2 rfl rfl rfl ty53 rfl ?_
              refine o_ldc (st_g rfl rfl) (v := (.agg #[(.slice a8 l9 q10), (.int .i64 r3.xAction), (.int .i64 r3.xChain)])) 4 rfl rfl rfl ty53 rfl ?_
              refine st_gw rfl rfl (o_callP (vs := [(.agg #[(.slice a83 l84 q85), (.int .i64 r77.xAction), (.int .i64 r77.xChain)]), (.agg #[(.slice a8 l9 q10), (.int .i64 r3.xAction), (.int .i64 r3.xChain)])]) Tryd.call41 rfl rfl (by intro w m h; exact (w_laws_sameRule (F := allB [] w) (a_0 := r77) (b_1 := r3) allB_ok (m.rd0 3 rfl reads_own) (m.rd0 5 rfl reads_own) h).mono (fun _ _ k => ret_free (fun r u => fr_nil) k)) ?_); rintro r126 _
              refine o_pickT st rfl rfl rfl ?_
              refine o_mv st rfl rfl ?_
              refine st_sp (dj := 50) rfl ?_ ?_
              · refine o_fad (st_g rfl rfl) rfl rfl fld53_0 rfl ?_
                refine o_ldc (st_g rfl rfl) (v := (.slice a8 l9 q10)) 4 rfl rfl rfl ty51 rfl ?_
                refine o_len (st_g rfl rfl) el51 5 rfl reads_own rfl rfl ?_
                refine o_eql (st_g rfl rfl) und3 rfl rfl rfl ?_
                refine o_mv (st_g rfl rfl) rfl rfl ?_
                refine st_sp (dj := 55) rfl ?_ ?_
                · refine st_s rfl rfl rfl rfl ?_
                  refine st_s rfl rfl rfl rfl ?_
                  refine st_s rfl rfl rfl rfl ?_
                  refine st_s rfl rfl rfl rfl ?_
                  refine st_s rfl rfl rfl rfl ?_
                  refine o_pickT (st_g rfl rfl) rfl rfl rfl ?_
                  refine o_pickT st rfl rfl rfl ?_
                  refine o_as st rfl rfl ?_
                  refine c_nil ?_
                  exact l_join true (fun a w hE hm => ⟨hE.sub ⟨rfl, trivial⟩, (hm.pick [6] rfl)⟩)
                · refine o_ldc (st_g rfl rfl) (v := (.agg #[v87, (.int .i64 r3.xAction), (.int .i64 r3.xChain)])) 0 rfl rfl rfl ty53 rfl ?_
                  refine st_gw rfl rfl (o_callP (vs := [(.agg #[v87, (.int .i64 r3.xAction), (.int .i64 r3.xChain)])]) Tryd.call35 rfl rfl (by intro w m h; exact (w_impl_RuleText (F := allB [] w) (r_0 := (GRule.mk xs86 r3.xAction r3.xChain)) allB_ok (m.rd0 1 rfl reads_own) (m.rd0 6 rfl (reads_snap hgl0)) ((hgl1.of (m.get (i := 6) rfl)).mono fz_ok0) h).mono (fun _ _ k => ret_free (fun r u => fr_nil) k)) ?_); rintro r127 _
                  refine o_mv (st_g rfl rfl) rfl rfl ?_
                  refine o_cat (st_g rfl rfl) rfl rfl rfl ?_; intro s128
                  refine o_eqlS (st_g rfl rfl) und9 rfl rfl rfl ?_
                  refine o_pickF (st_g rfl rfl) rfl rfl rfl ?_
                  refine o_pickT st rfl rfl rfl ?_
                  refine o_as st rfl rfl ?_
                  refine c_nil ?_
                  exact l_join (decide (r127 = s128)) (fun a w hE hm => ⟨hE.sub ⟨rfl, trivial⟩, (hm.pick [6] rfl)⟩)
              · refine st_s rfl rfl rfl rfl ?_
                refine st_s rfl rfl rfl rfl ?_
                refine st_s rfl rfl rfl rfl ?_
                refine st_s rfl rfl rfl rfl ?_
                refine st_s rfl rfl rfl rfl ?_
                refine st_s rfl rfl rfl rfl ?_
                refine st_s rfl rfl rfl rfl ?_
                refine st_s rfl rfl rfl rfl ?_
                refine st_s rfl rfl rfl rfl ?_
                refine st_s rfl rfl rfl rfl ?_
                refine st_s rfl rfl rfl rfl ?_
                refine o_pickF st rfl rfl rfl ?_
                refine o_as st rfl rfl ?_
                refine c_nil ?_
                exact l_join false (fun a w hE hm => ⟨hE.sub ⟨rfl, trivial⟩, (hm.pick [6] rfl)⟩)
            · refine st_s rfl rfl rfl rfl ?_
              refine st_s rfl rfl rfl rfl ?_
              refine st_s rfl rfl rfl rfl ?_
              refine o_pickF st rfl rfl rfl ?_
              refine o_mv st rfl rfl ?_
              refine st_s rfl rfl rfl rfl ?_
              refine st_s rfl rfl rfl rfl ?_
              refine st_s rfl rfl rfl rfl ?_
              refine st_s rfl rfl rfl rfl ?_
              refine st_s rfl rfl rfl rfl ?_
              refine st_s rfl rfl rfl rfl ?_
              refine st_s rfl rfl rfl rfl ?_
              refine st_s rfl rfl rfl rfl ?_
              refine st_s rfl rfl rfl rfl ?_
              refine st_s rfl rfl rfl rfl ?_
              refine st_s rfl rfl rfl rfl ?_
              refine o_pickF st rfl rfl rfl ?_
              refine o_as st rfl rfl ?_
              refine c_nil ?_
              exact l_join false (fun a w hE hm => ⟨hE.sub ⟨rfl, trivial⟩, (hm.pick [6] rfl)⟩)
          · rintro t189 a w ⟨hE, hm⟩ h
            refine nx_of hE hm h ?_
            clear hE hm h
            refine c_ret ?_
            exact l_end1 Tryd.results11 t189 () (rv_t rfl) (fun _ _ => NewCh.nil _ _ _ _)


end Go.Proofs.YtnogaeckmiekdaaDoor
