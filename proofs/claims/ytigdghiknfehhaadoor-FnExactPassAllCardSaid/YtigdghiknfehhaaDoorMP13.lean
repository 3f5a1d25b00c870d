/- Texts of this seat, put together. -/
import Derived.Test.YtigdghiknfehhaaDoorMP12
set_option linter.unusedSimpArgs false
set_option linter.unusedVariables false
namespace Go.Proofs.YtigdghiknfehhaaDoor
section
open Go.RowKit
set_option maxRecDepth 100000 in
set_option maxHeartbeats 8000000 in
theorem w_laws_toRuleS {w0 : World} {F : Nat → Prop} {v1 : Value} {a_0 : (List GRule)} {κ : (List GRule) → Prop} (hF : ∀ b, F b → b < w0.heap.size ∧ ¬ feet [] b) (hv1 : Sl elGRule F w0 v1 a_0) (h : L_laws_toRuleS a_0 κ) :
    Calls Tryd.prog 93 #[v1] w0 (Ret [] F w0 κ (fun (r : (List GRule)) (u : Value × List Nat) => u.1) (fun (r : (List GRule)) (u : Value × List Nat) => [dpCh dGRule 104 u.2 u.1 r])) := by
  refine enterS (args := [v1]) [] hF (Given.nil _ _) Tryd.func93 rfl Tryd.ntmps93 rfl h ?_
  clear h hF
  refine c_seq ?_
  refine c_region ?_
  refine stw (o_asd dGRule 104 rfl rfl ?_)
  refine c_nil ?_
  refine l_then ?_
  refine c_seq ?_
  refine c_region ?_
  refine o_mv st rfl rfl ?_
  refine o_len st el136 1 rfl (reads_snap hv1) rfl rfl ?_
  refine stw (o_makeD (E' := dGRule) (z := (GRule.mk ([]) 0 0)) (fun w => ⟨_, rfl, Dp.nil⟩) rfl rfl rfl el101 rfl zero104 rfl ?_); intro bb6 v4 xs5
  refine o_as st rfl rfl ?_
  refine c_nil ?_
  refine l_then ?_
  refine c_seq ?_
  refine c_seq ?_
  refine c_region ?_
  refine o_as st rfl rfl ?_
  refine c_nil ?_
  refine l_then ?_
  refine c_block ?_
  refine c_loop (σ := ((List GRule) × Int)) (fun ((xs8, t11) : ((List GRule) × Int)) (a : Act) (w : World) => ∃ (bb10 : List Nat), Has 23 [(0, v1), (3, v4), (4, (.int .i64 t11))] a ∧ Mem (gB F [] w0) (feet []) w0 [dpCh dGRule 104 bb10 v4 xs8, snapCh w0 F] w) (fun a w hE hm => ⟨bb6, hE.sub ⟨rfl, rfl, rfl, trivial⟩, (hm.pick [0, 2] rfl)⟩) ?_
  rintro nx12 ⟨xs8, t11⟩ a w ⟨bb10, hE, hm⟩ h
  refine nx_of hE hm h ?_
  clear hE hm h
  refine c_seq ?_
  refine c_seq ?_
  refine c_region ?_
  refine o_mv st rfl rfl ?_
  refine o_mv st rfl rfl ?_
  refine o_len st el136 1 rfl (reads_snap hv1) rfl rfl ?_
  refine o_lss st rfl rfl rfl ?_
  refine c_nil ?_
  refine l_then ?_
  refine c_cond rfl ?_ ?_
  · refine c_skip ?_
    refine l_then ?_
    refine c_seq ?_
    refine c_block ?_
    refine c_region ?_
    refine o_mv st rfl rfl ?_
    refine o_mv st rfl rfl ?_
    refine o_mv st rfl rfl ?_
    refine o_mv st rfl rfl ?_
    refine o_idx st 1 rfl (reads_snap hv1) rfl rfl rfl el136 ?_; intro e13 h14
    obtain ⟨_, ⟨v16, rfl, sl17⟩, rw15⟩ := sl_open hv1 h14
    refine o_ldR st (u := (.agg #[v16, (.int .i64 e13.xAction), (.int .i64 e13.xChain)])) 1 rfl rw15 rfl rfl ty165 rfl ?_
    refine stw (o_callP (vs := [(.agg #[v16, (.int .i64 e13.xAction), (.int .i64 e13.xChain)])]) Tryd.call110 rfl rfl (by intro w m h; exact (w_laws_toRule (F := allB [] w) (a_0 := e13) allB_ok (m.rd0 1 rfl (reads_snap sl17)) h).mono (fun _ _ k => ret_free (fun r u => (fr_cons (free_own flelGTest) fr_nil)) k)) ?_); rintro r19 v20
    refine o_idx st 1 rfl reads_dp rfl rfl rfl el101 ?_; intro e22 h23
    refine nx_own 0 rfl ?_; rintro a24 l25 q26 rfl
    refine pk [1, 0, 2] rfl ?_
    refine stw (o_stD (M := [ownCh elGTest 173 (.slice a24 l25 q26) r19.xTests]) (y' := r19) rfl h23 (fun w B cz h => by obtain ⟨u, rfl, _⟩ := h; exact (absorb_one (gives_own flelGTest) (fun B w h => ⟨_, rfl, h⟩))) ty104 rfl rfl rfl rfl rfl ?_); intro bb27
    refine c_nil ?_
    refine b_norm ?_
    refine l_then ?_
    refine c_region ?_
    refine o_mv st rfl rfl ?_
    refine o_add st rfl rfl rfl ?_; intro t29
    refine o_as st rfl rfl ?_
    refine c_nil ?_
    exact l_join ((xs8.set (t11).toNat r19), t29) (fun a w hE hm => ⟨bb27, hE.sub ⟨rfl, rfl, rfl, trivial⟩, (hm.pick [0, 1] rfl)⟩)
  · refine c_exit ?_
    refine l_exit ?_
    refine l_exit ?_
    refine b_exit ?_
    refine l_then ?_
    refine c_seq ?_
    refine c_region ?_
    refine o_mv st rfl rfl ?_
    refine o_as st rfl rfl ?_
    refine c_nil ?_
    refine l_then ?_
    refine c_ret ?_
    exact l_end1 Tryd.results93 xs8 (v4, bb10) (rv_t rfl) (fun w m => NewCh.ofB m [0] rfl)

set_option maxRecDepth 100000 in
set_option maxHeartbeats 8000000 in
theorem w_laws_toRuleSS {w0 : World} {F : Nat → Prop} {v1 : Value} {a_0 : (List (List GRule))} {κ : (List (List GRule)) → Prop} (hF : ∀ b, F b → b < w0.heap.size ∧ ¬ feet [] b) (hv1 : Sl (elSl elGRule) F w0 v1 a_0) (h : L_laws_toRuleSS a_0 κ) :
    Calls Tryd.prog 60 #[v1] w0 (Ret [] F w0 κ (fun (r : (List (List GRule))) (u : Value × List Nat) => u.1) (fun (r : (List (List GRule))) (u : Value × List Nat) => [dpCh (dSl dGRule 104) 101 u.2 u.1 r])) := by
  refine enterS (args := [v1]) [] hF (Given.nil _ _) Tryd.func60 rfl Tryd.ntmps60 rfl h ?_
  clear h hF
  refine c_seq ?_
  refine c_region ?_
  refine stw (o_asd (dSl dGRule 104) 101 rfl rfl ?_)
  refine c_nil ?_
  refine l_then ?_
  refine c_seq ?_
  refine c_region ?_
  refine o_mv st rfl rfl ?_
  refine o_len st el32 1 rfl (reads_snap hv1) rfl rfl ?_
  refine stw (o_makeD (E' := (dSl dGRule 104)) (z := ([])) (fun w => ⟨_, rfl, Dp.nil⟩) rfl rfl rfl el23 rfl zero101 rfl ?_); intro bb6 v4 xs5
  refine o_as st rfl rfl ?_
  refine c_nil ?_
  refine l_then ?_
  refine c_seq ?_
  refine c_seq ?_
  refine c_region ?_
  refine o_as st rfl rfl ?_
  refine c_nil ?_
  refine l_then ?_
  refine c_block ?_
  refine c_loop (σ := ((List (List GRule)) × Int)) (fun ((xs8, t11) : ((List (List GRule)) × Int)) (a : Act) (w : World) => ∃ (bb10 : List Nat), Has 23 [(0, v1), (3, v4), (4, (.int .i64 t11))] a ∧ Mem (gB F [] w0) (feet []) w0 [dpCh (dSl dGRule 104) 101 bb10 v4 xs8, snapCh w0 F] w) (fun a w hE hm => ⟨bb6, hE.sub ⟨rfl, rfl, rfl, trivial⟩, (hm.pick [0, 2] rfl)⟩) ?_
  rintro nx12 ⟨xs8, t11⟩ a w ⟨bb10, hE, hm⟩ h
  refine nx_of hE hm h ?_
  clear hE hm h
  refine c_seq ?_
  refine c_seq ?_
  refine c_region ?_
  refine o_mv st rfl rfl ?_
  refine o_mv st rfl rfl ?_
  refine o_len st el32 1 rfl (reads_snap hv1) rfl rfl ?_
  refine o_lss st rfl rfl rfl ?_
  refine c_nil ?_
  refine l_then ?_
  refine c_cond rfl ?_ ?_
  · refine c_skip ?_
    refine l_then ?_
    refine c_seq ?_
    refine c_block ?_
    refine c_region ?_
    refine o_mv st rfl rfl ?_
    refine o_mv st rfl rfl ?_
    refine o_mv st rfl rfl ?_
    refine o_mv st rfl rfl ?_
    refine o_idx st 1 rfl (reads_snap hv1) rfl rfl rfl el32 ?_; intro e13 h14
    obtain ⟨_, ⟨v16, rfl, sl17⟩, rw15⟩ := sl_open hv1 h14
    refine o_ldR st (u := v16) 1 rfl rw15 rfl rfl ty136 rfl ?_
    refine stw (o_callP (vs := [v16]) Tryd.call93 rfl rfl (by intro w m h; exact (w_laws_toRuleS (F := allB [] w) (a_0 := e13) allB_ok (m.rd0 1 rfl (reads_snap sl17)) h).mono (fun _ _ k => ret_free (fun r u => (fr_cons free_dp fr_nil)) k)) ?_); rintro r19 ⟨v20, bb21⟩
    refine o_idx st 1 rfl reads_dp rfl rfl rfl el23 ?_; intro e23 h24
    refine nx_dp 0 rfl ?_; rintro a25 l26 q27 rfl
    refine pk [1, 0, 2] rfl ?_
    refine stw (o_stD (M := [dpCh dGRule 104 bb21 (.slice a25 l26 q27) r19]) (y' := r19) rfl h24 (fun w B cz h => by obtain ⟨u, rfl, _⟩ := h; exact (absorb_one gives_dp (fun B w h => ⟨_, rfl, h⟩))) ty101 rfl rfl rfl rfl rfl ?_); intro bb28
    refine c_nil ?_
    refine b_norm ?_
    refine l_then ?_
    refine c_region ?_
    refine o_mv st rfl rfl ?_
    refine o_add st rfl rfl rfl ?_; intro t30
    refine o_as st rfl rfl ?_
    refine c_nil ?_
    exact l_join ((xs8.set (t11).toNat r19), t30) (fun a w hE hm => ⟨bb28, hE.sub ⟨rfl, rfl, rfl, trivial⟩, (hm.pick [0, 1] rfl)⟩)
  · refine c_exit ?_
    refine l_exit ?_
    refine l_exit ?_
    refine b_exit ?_
    refine l_then ?_
    refine c_seq ?_
    refine c_region ?_
    refine o_mv st rfl rfl ?_
    refine o_as st rfl rfl ?_
    refine c_nil ?_
    refine l_then ?_
    refine c_ret ?_
    exact l_end1 Tryd.results60 xs8 (v4, bb10) (rv_t rfl) (fun w m => NewCh.ofB m [0] rfl)

set_option maxRecDepth 100000 in
set_option maxHeartbeats 8000000 in
theorem w_laws_toRuleset {w0 : World} {F : Nat → Prop} {v1 : Value} {a_0 : GRuleset} {κ : GRuleset → Prop} (hF : ∀ b, F b → b < w0.heap.size ∧ ¬ feet [] b) (hv1 : Sl (elSl elGRule) F w0 v1 a_0.xChains) (h : L_laws_toRuleset a_0 κ) :
    Calls Tryd.prog 17 #[(.agg #[v1, (.bool a_0.xAccept)])] w0 (Ret [] F w0 κ (fun (r : GRuleset) (u : Value × List Nat) => (.agg #[u.1, (.bool r.xAccept)])) (fun (r : GRuleset) (u : Value × List Nat) => [dpCh (dSl dGRule 104) 101 u.2 u.1 r.xChains])) := by
  refine enterS (args := [(.agg #[v1, (.bool a_0.xAccept)])]) [] hF (Given.nil _ _) Tryd.func17 rfl Tryd.ntmps17 rfl h ?_
  clear h hF
  refine c_seq ?_
  refine c_region ?_
  obtain ⟨a3, l4, q5, hs_⟩ := sl_val hv1; subst hs_
  refine stw (o_box rfl rfl [(.slice a3 l4 q5), (.bool a_0.xAccept)] rfl ?_); intro b6
  refine stw (o_alloc rfl [(.slice none 0 0), (.bool false)] zero25 ?_); intro b8
  refine c_nil ?_
  refine l_then ?_
  refine c_seq ?_
  refine c_region ?_
  refine stw (o_alloc rfl [(.slice none 0 0), (.bool false)] zero25 ?_); intro b10
  refine c_nil ?_
  refine l_then ?_
  refine c_seq ?_
  refine c_region ?_
  refine o_fad st rfl rfl fld34_0 rfl ?_
  refine o_ldc st (v := (.slice a3 l4 q5)) 2 rfl rfl rfl ty32 rfl ?_
  refine stw (o_callP (vs := [(.slice a3 l4 q5)]) Tryd.call60 rfl rfl (by intro w m h; exact (w_laws_toRuleSS (F := allB [] w) (a_0 := a_0.xChains) allB_ok (m.rd0 3 rfl (reads_snap hv1)) h).mono (fun _ _ k => ret_free (fun r u => (fr_cons free_dp fr_nil)) k)) ?_); rintro r12 ⟨v13, bb14⟩
  refine o_fad st rfl rfl fld25_0 rfl ?_
  refine nx_dp 0 rfl ?_; rintro a16 l17 q18 rfl
  refine stw (o_stc (cs' := [(.slice a16 l17 q18), (.bool false)]) 1 rfl rfl rfl ty23 rfl rfl rfl rfl ?_)
  refine c_nil ?_
  refine l_then ?_
  refine c_seq ?_
  refine c_region ?_
  refine o_fad st rfl rfl fld34_1 rfl ?_
  refine o_ldc st (v := (.bool a_0.xAccept)) 3 rfl rfl rfl ty4 rfl ?_
  refine o_fad st rfl rfl fld25_1 rfl ?_
  refine stw (o_stc (cs' := [(.slice a16 l17 q18), (.bool a_0.xAccept)]) 1 rfl rfl rfl ty4 rfl rfl rfl rfl ?_)
  refine c_nil ?_
  refine l_then ?_
  refine c_seq ?_
  refine c_region ?_
  refine o_ldc st (v := (.agg #[(.slice a16 l17 q18), (.bool a_0.xAccept)])) 1 rfl rfl rfl ty25 rfl ?_
  refine stw (o_stc (cs' := [(.slice a16 l17 q18), (.bool a_0.xAccept)]) 2 rfl rfl rfl ty25 rfl rfl rfl rfl ?_)
  refine c_nil ?_
  refine l_then ?_
  refine c_ret ?_
  exact l_end1 Tryd.results17 (GRuleset.mk r12 a_0.xAccept) ((.slice a16 l17 q18), bb14) (rv_c 2 rfl rfl ty25 rfl) (fun w m => NewCh.ofB m [0] rfl)

set_option maxRecDepth 100000 in
set_option maxHeartbeats 8000000 in
theorem w_laws_toPacket {w0 : World} {F : Nat → Prop} {a_0 : GPacket} {κ : GPacket → Prop} (hF : ∀ b, F b → b < w0.heap.size ∧ ¬ feet [] b) (h : L_laws_toPacket a_0 κ) :
    Calls Tryd.prog 18 #[(.agg #[(.int .i64 a_0.xFrom), (.int .i64 a_0.xTo), (.int .i64 a_0.xPort), (.int .i64 a_0.xProto)])] w0 (Ret [] F w0 κ (fun (r : GPacket) (u : Unit) => (.agg #[(.int .i64 r.xFrom), (.int .i64 r.xTo), (.int .i64 r.xPort), (.int .i64 r.xProto)])) (fun (r : GPacket) (u : Unit) => [])) := by
  refine enter0 (args := [(.agg #[(.int .i64 a_0.xFrom), (.int .i64 a_0.xTo), (.int .i64 a_0.xPort), (.int .i64 a_0.xProto)])]) [] hF (Given.nil _ _) Tryd.func18 rfl Tryd.ntmps18 rfl h ?_
  clear h hF
  refine c_seq ?_
  refine c_region ?_
  refine stw (o_box rfl rfl [(.int .i64 a_0.xFrom), (.int .i64 a_0.xTo), (.int .i64 a_0.xPort), (.int .i64 a_0.xProto)] rfl ?_); intro b1
  refine stw (o_alloc rfl [(.int .i64 0), (.int .i64 0), (.int .i64 0), (.int .i64 0)] zero40 ?_); intro b3
  refine c_nil ?_
  refine l_then ?_
  refine c_seq ?_
  refine c_region ?_
  refine stw (o_alloc rfl [(.int .i64 0), (.int .i64 0), (.int .i64 0), (.int .i64 0)] zero40 ?_); intro b5
  refine c_nil ?_
  refine l_then ?_
  refine c_seq ?_
  refine c_region ?_
  refine o_fad st rfl rfl fld36_0 rfl ?_
  refine o_ldc st (v := (.int .i64 a_0.xFrom)) 2 rfl rfl rfl ty3 rfl ?_
  refine o_fad st rfl rfl fld40_0 rfl ?_
  refine stw (o_stc (cs' := [(.int .i64 a_0.xFrom), (.int .i64 0), (.int .i64 0), (.int .i64 0)]) 0 rfl rfl rfl ty3 rfl rfl rfl rfl ?_)
  refine c_nil ?_
  refine l_then ?_
  refine c_seq ?_
  refine c_region ?_
  refine o_fad st rfl rfl fld36_1 rfl ?_
  refine o_ldc st (v := (.int .i64 a_0.xTo)) 2 rfl rfl rfl ty3 rfl ?_
  refine o_fad st rfl rfl fld40_1 rfl ?_
  refine stw (o_stc (cs' := [(.int .i64 a_0.xFrom), (.int .i64 a_0.xTo), (.int .i64 0), (.int .i64 0)]) 0 rfl rfl rfl ty3 rfl rfl rfl rfl ?_)
  refine c_nil ?_
  refine l_then ?_
  refine c_seq ?_
  refine c_region ?_
  refine o_fad st rfl rfl fld36_2 rfl ?_
  refine o_ldc st (v := (.int .i64 a_0.xPort)) 2 rfl rfl rfl ty3 rfl ?_
  refine o_fad st rfl rfl fld40_2 rfl ?_
  refine stw (o_stc (cs' := [(.int .i64 a_0.xFrom), (.int .i64 a_0.xTo), (.int .i64 a_0.xPort), (.int .i64 0)]) 0 rfl rfl rfl ty3 rfl rfl rfl rfl ?_)
  refine c_nil ?_
  refine l_then ?_
  refine c_seq ?_
  refine c_region ?_
  refine o_fad st rfl rfl fld36_3 rfl ?_
  refine o_ldc st (v := (.int .i64 a_0.xProto)) 2 rfl rfl rfl ty3 rfl ?_
  refine o_fad st rfl rfl fld40_3 rfl ?_
  refine stw (o_stc (cs' := [(.int .i64 a_0.xFrom), (.int .i64 a_0.xTo), (.int .i64 a_0.xPort), (.int .i64 a_0.xProto)]) 0 rfl rfl rfl ty3 rfl rfl rfl rfl ?_)
  refine c_nil ?_
  refine l_then ?_
  refine c_seq ?_
  refine c_region ?_
  refine o_ldc st (v := (.agg #[(.int .i64 a_0.xFrom), (.int .i64 a_0.xTo), (.int .i64 a_0.xPort), (.int .i64 a_0.xProto)])) 0 rfl rfl rfl ty40 rfl ?_
  refine stw (o_stc (cs' := [(.int .i64 a_0.xFrom), (.int .i64 a_0.xTo), (.int .i64 a_0.xPort), (.int .i64 a_0.xProto)]) 1 rfl rfl rfl ty40 rfl rfl rfl rfl ?_)
  refine c_nil ?_
  refine l_then ?_
  refine c_ret ?_
  exact l_end1 Tryd.results18 a_0 () (rv_c 1 rfl rfl ty40 rfl) (fun _ _ => NewCh.nil _ _ _ _)

set_option maxRecDepth 100000 in
set_option maxHeartbeats 8000000 in
theorem w_impl_lifeValid {w0 : World} {F : Nat → Prop} {life_0 : Int} {κ : Bool → Prop} (hF : ∀ b, F b → b < w0.heap.size ∧ ¬ feet [] b) (h : L_impl_lifeValid life_0 κ) :
    Calls Tryd.prog 62 #[(.int .i64 life_0)] w0 (Ret [] F w0 κ (fun (r : Bool) (u : Unit) => (.bool r)) (fun (r : Bool) (u : Unit) => [])) := by
  refine enter0 (args := [(.int .i64 life_0)]) [] hF (Given.nil _ _) Tryd.func62 rfl Tryd.ntmps62 rfl h ?_
  clear h hF
  refine c_seq ?_
  refine c_region ?_
  refine o_as st rfl rfl ?_
  refine c_nil ?_
  refine l_then ?_
  refine c_join (σ := Bool) (fun (t61 : Bool) (a : Act) (w : World) => Has 9 [(2, (.bool t61))] a ∧ Mem (gB F [] w0) (feet []) w0 [] w) ?_ ?_
  · intro k62
    refine c_region ?_
    refine o_mv st rfl rfl ?_
    refine o_geq st rfl rfl rfl ?_
    refine o_mv st rfl rfl ?_
    refine st_sp (dj := 5) rfl ?_ ?_
    · refine o_mv (st_g rfl rfl) rfl rfl ?_
      refine o_leq (st_g rfl rfl) rfl rfl rfl ?_
      refine o_pickT st rfl rfl rfl ?_
      refine o_as st rfl rfl ?_
      refine c_nil ?_
      exact l_join (decide (life_0 ≤ 1000)) (fun a w hE hm => ⟨hE.sub ⟨rfl, trivial⟩, (hm.pick [] rfl)⟩)
    · refine st_s rfl rfl rfl rfl ?_
      refine st_s rfl rfl rfl rfl ?_
      refine o_pickF st rfl rfl rfl ?_
      refine o_as st rfl rfl ?_
      refine c_nil ?_
      exact l_join false (fun a w hE hm => ⟨hE.sub ⟨rfl, trivial⟩, (hm.pick [] rfl)⟩)
  · rintro t61 a w ⟨hE, hm⟩ h
    refine nx_of hE hm h ?_
    clear hE hm h
    refine c_ret ?_
    exact l_end1 Tryd.results62 t61 () (rv_t rfl) (fun _ _ => NewCh.nil _ _ _ _)

set_option maxRecDepth 100000 in
set_option maxHeartbeats 8000000 in
theorem w_impl_timeValid {w0 : World} {F : Nat → Prop} {now_0 : Int} {κ : Bool → Prop} (hF : ∀ b, F b → b < w0.heap.size ∧ ¬ feet [] b) (h : L_impl_timeValid now_0 κ) :
    Calls Tryd.prog 72 #[(.int .i64 now_0)] w0 (Ret [] F w0 κ (fun (r : Bool) (u : Unit) => (.bool r)) (fun (r : Bool) (u : Unit) => [])) := by
  refine enter0 (args := [(.int .i64 now_0)]) [] hF (Given.nil _ _) Tryd.func72 rfl Tryd.ntmps72 rfl h ?_
  clear h hF
  refine c_seq ?_
  refine c_region ?_
  refine o_as st rfl rfl ?_
  refine c_nil ?_
  refine l_then ?_
  refine c_join (σ := Bool) (fun (t61 : Bool) (a : Act) (w : World) => Has 9 [(2, (.bool t61))] a ∧ Mem (gB F [] w0) (feet []) w0 [] w) ?_ ?_
  · intro k62
    refine c_region ?_
    refine o_mv st rfl rfl ?_
    refine o_geq st rfl rfl rfl ?_
    refine o_mv st rfl rfl ?_
    refine st_sp (dj := 5) rfl ?_ ?_
    · refine o_mv (st_g rfl rfl) rfl rfl ?_
      refine o_leq (st_g rfl rfl) rfl rfl rfl ?_
      refine o_pickT st rfl rfl rfl ?_
      refine o_as st rfl rfl ?_
      refine c_nil ?_
      exact l_join (decide (now_0 ≤ 1000000)) (fun a w hE hm => ⟨hE.sub ⟨rfl, trivial⟩, (hm.pick [] rfl)⟩)
    · refine st_s rfl rfl rfl rfl ?_
      refine st_s rfl rfl rfl rfl ?_
      refine o_pickF st rfl rfl rfl ?_
      refine o_as st rfl rfl ?_
      refine c_nil ?_
      exact l_join false (fun a w hE hm => ⟨hE.sub ⟨rfl, trivial⟩, (hm.pick [] rfl)⟩)
  · rintro t61 a w ⟨hE, hm⟩ h
    refine nx_of hE hm h ?_
    clear hE hm h
    refine c_ret ?_
    exact l_end1 Tryd.results72 t61 () (rv_t rfl) (fun _ _ => NewCh.nil _ _ _ _)

set_option maxRecDepth 100000 in
set_option maxHeartbeats 8000000 in
theorem w_impl_Packet_reverse {w0 : World} {F : Nat → Prop} {p_0 : GPacket} {κ : GPacket → Prop} (hF : ∀ b, F b → b < w0.heap.size ∧ ¬ feet [] b) (h : L_impl_Packet_reverse p_0 κ) :
    Calls Tryd.prog 64 #[(.agg #[(.int .i64 p_0.xFrom), (.int .i64 p_0.xTo), (.int .i64 p_0.xPort), (.int .i64 p_0.xProto)])] w0 (Ret [] F w0 κ (fun (r : GPacket) (u : Unit) => (.agg #[(.int .i64 r.xFrom), (.int .i64 r.xTo), (.int .i64 r.xPort), (.int .i64 r.xProto)])) (fun (r : GPacket) (u : Unit) => [])) := by
  refine enter0 (args := [(.agg #[(.int .i64 p_0.xFrom), (.int .i64 p_0.xTo), (.int .i64 p_0.xPort), (.int .i64 p_0.xProto)])]) [] hF (Given.nil _ _) Tryd.func64 rfl Tryd.ntmps64 rfl h ?_
  clear h hF
  refine c_seq ?_
  refine c_region ?_
  refine stw (o_box rfl rfl [(.int .i64 p_0.xFrom), (.int .i64 p_0.xTo), (.int .i64 p_0.xPort), (.int .i64 p_0.xProto)] rfl ?_); intro b1
  refine stw (o_alloc rfl [(.int .i64 0), (.int .i64 0), (.int .i64 0), (.int .i64 0)] zero40 ?_); intro b3
  refine c_nil ?_
  refine l_then ?_
  refine c_seq ?_
  refine c_region ?_
  refine o_fad st rfl rfl fld40_1 rfl ?_
  refine o_ldc st (v := (.int .i64 p_0.xTo)) 1 rfl rfl rfl ty3 rfl ?_
  refine o_fad st rfl rfl fld40_0 rfl ?_
  refine o_ldc st (v := (.int .i64 p_0.xFrom)) 1 rfl rfl rfl ty3 rfl ?_
  refine o_fad st rfl rfl fld40_0 rfl ?_
  refine stw (o_stc (cs' := [(.int .i64 p_0.xTo), (.int .i64 p_0.xTo), (.int .i64 p_0.xPort), (.int .i64 p_0.xProto)]) 1 rfl rfl rfl ty3 rfl rfl rfl rfl ?_)
  refine o_fad st rfl rfl fld40_1 rfl ?_
  refine stw (o_stc (cs' := [(.int .i64 p_0.xTo), (.int .i64 p_0.xFrom), (.int .i64 p_0.xPort), (.int .i64 p_0.xProto)]) 1 rfl rfl rfl ty3 rfl rfl rfl rfl ?_)
  refine c_nil ?_
  refine l_then ?_
  refine c_seq ?_
  refine c_region ?_
  refine o_ldc st (v := (.agg #[(.int .i64 p_0.xTo), (.int .i64 p_0.xFrom), (.int .i64 p_0.xPort), (.int .i64 p_0.xProto)])) 1 rfl rfl rfl ty40 rfl ?_
  refine stw (o_stc (cs' := [(.int .i64 p_0.xTo), (.int .i64 p_0.xFrom), (.int .i64 p_0.xPort), (.int .i64 p_0.xProto)]) 0 rfl rfl rfl ty40 rfl rfl rfl rfl ?_)
  refine c_nil ?_
  refine l_then ?_
  refine c_ret ?_
  exact l_end1 Tryd.results64 (GPacket.mk p_0.xTo p_0.xFrom p_0.xPort p_0.xProto) () (rv_c 0 rfl rfl ty40 rfl) (fun _ _ => NewCh.nil _ _ _ _)

set_option maxRecDepth 100000 in
set_option maxHeartbeats 8000000 in
theorem w_impl_indexFlows {w0 : World} {F : Nat → Prop} {v1 : Value} {list_0 : (List GFlow)} {κ : ((List (GPacket × Int)) × Bool) → Prop} (hF : ∀ b, F b → b < w0.heap.size ∧ ¬ feet [] b) (hv1 : Sl elGFlow F w0 v1 list_0) (hgl0 : Sl elGFieldShape F w0 (.slice (some ⟨0, 0, none⟩) 4 4) gl_impl_fieldShapes) (h : L_impl_indexFlows list_0 κ) :
    Calls Tryd.prog 77 #[v1] w0 (Ret [] F w0 κ (fun (r : ((List (GPacket × Int)) × Bool)) (u : Value) => .tuple #[u, (.bool r.2)]) (fun (r : ((List (GPacket × Int)) × Bool)) (u : Value) => [mOwn encGPacket u r.1])) := by
  refine enterS (args := [v1]) [] hF (Given.nil _ _) Tryd.func77 rfl Tryd.ntmps77 rfl h ?_
  clear h hF
  refine c_seq ?_
  refine c_region ?_
  refine stw (o_asm encGPacket rfl rfl ?_)
  refine o_as st rfl rfl ?_
  refine c_nil ?_
  refine l_then ?_
  refine c_seq ?_
  refine c_seq ?_
  refine c_region ?_
  refine o_mv st rfl rfl ?_
  refine o_len st el53 1 rfl (reads_snap hv1) rfl rfl ?_
  refine o_gtr st rfl rfl rfl ?_
  refine c_nil ?_
  refine l_then ?_
  refine c_cond rfl ?_ ?_
  · refine c_seq ?_
    refine c_region ?_
    refine stw (o_asm encGPacket rfl rfl ?_)
    refine o_as st rfl rfl ?_
    refine c_nil ?_
    refine l_then ?_
    refine c_ret ?_
    refine l_ret ?_
    exact l_end2 Tryd.results77 ([], false) (.map none) (rv_t rfl) (rv_t rfl) rfl (fun w m => NewCh.ofB m [0] rfl)
  · refine c_skip ?_
    refine l_then ?_
    refine c_seq ?_
    refine c_region ?_
    refine stw (o_mkm encGPacket rfl ?_); intro b5
    refine o_as st rfl rfl ?_
    refine c_nil ?_
    refine l_then ?_
    refine c_seq ?_
    refine c_seq ?_
    refine c_region ?_
    refine o_mv st rfl rfl ?_
    refine o_len st el53 2 rfl (reads_snap hv1) rfl rfl ?_
    refine o_mv st rfl rfl ?_
    refine c_nil ?_
    refine l_then ?_
    refine c_block ?_
    refine c_loop (σ := ((List (GPacket × Int)) × Int)) (fun ((xs7, t9) : ((List (GPacket × Int)) × Int)) (a : Act) (w : World) => Has 49 [(4, (.map (some b5))), (13, v1), (14, (.int .i64 (list_0.length : Int))), (15, (.int .i64 t9))] a ∧ Mem (gB F [] w0) (feet []) w0 [mOwn encGPacket (.map (some b5)) xs7, snapCh w0 F] w) (fun a w hE hm => ⟨hE.sub ⟨rfl, rfl, rfl, rfl, trivial⟩, (hm.pick [0, 2] rfl)⟩) ?_
    rintro nx10 ⟨xs7, t9⟩ a w ⟨hE, hm⟩ h
    refine nx_of hE hm h ?_
    clear hE hm h
    refine c_seq ?_
    refine c_region ?_
    refine o_lss st rfl rfl rfl ?_
    refine c_nil ?_
    refine l_then ?_
    refine c_seq ?_
    refine c_cond rfl ?_ ?_
    · refine c_skip ?_
      refine l_then ?_
      refine c_seq ?_
      refine c_block ?_
      refine c_seq ?_
      refine c_region ?_
      refine o_mv st rfl rfl ?_
      refine o_idx st 1 rfl (reads_snap hv1) rfl rfl rfl el53 ?_; intro e11 h12
      refine o_lds st (enc := encGFlow) (u := (.agg #[(.int .i64 e11.xWho.xFrom), (.int .i64 e11.xWho.xTo), (.int .i64 e11.xWho.xPort), (.int .i64 e11.xWho.xProto), (.int .i64 e11.xUntil)])) 1 rfl (reads_snap hv1) flelGFlow rfl h12 rfl rfl ty110 rfl ?_
      refine stw (o_alloc rfl [(.int .i64 0), (.int .i64 0), (.int .i64 0), (.int .i64 0), (.int .i64 0)] zero110 ?_); intro b13
      refine o_as st rfl rfl ?_
      refine stw (o_stc (cs' := [(.int .i64 e11.xWho.xFrom), (.int .i64 e11.xWho.xTo), (.int .i64 e11.xWho.xPort), (.int .i64 e11.xWho.xProto), (.int .i64 e11.xUntil)]) 0 rfl rfl rfl ty110 rfl rfl rfl rfl ?_)
      refine c_nil ?_
      refine l_then ?_
      refine c_seq ?_
      refine c_join (σ := Bool) (fun (t77 : Bool) (a : Act) (w : World) => Has 49 [(4, (.map (some b5))), (13, v1), (14, (.int .i64 (list_0.length : Int))), (15, (.int .i64 t9)), (6, (.pointer (some ⟨b13, 0, none⟩))), (5, (.int .i64 t9)), (29, (.bool t77))] a ∧ Mem (gB F [] w0) (feet []) w0 [cellCh b13 [(.int .i64 e11.xWho.xFrom), (.int .i64 e11.xWho.xTo), (.int .i64 e11.xWho.xPort), (.int .i64 e11.xWho.xProto), (.int .i64 e11.xUntil)] 110, mOwn encGPacket (.map (some b5)) xs7, snapCh w0 F] w) ?_ ?_
      · intro k78
        refine c_region ?_
        refine o_fad st rfl rfl fld110_0 rfl ?_
        refine o_ldc st (v := (.agg #[(.int .i64 e11.xWho.xFrom), (.int .i64 e11.xWho.xTo), (.int .i64 e11.xWho.xPort), (.int .i64 e11.xWho.xProto)])) 0 rfl rfl rfl ty40 rfl ?_
        refine stw (o_callP (vs := [(.agg #[(.int .i64 e11.xWho.xFrom), (.int .i64 e11.xWho.xTo), (.int .i64 e11.xWho.xPort), (.int .i64 e11.xWho.xProto)])]) Tryd.call61 rfl rfl (by intro w m h; exact (w_impl_PacketValid (F := allB [] w) (p_0 := e11.xWho) allB_ok (m.rd0 2 rfl (reads_snap hgl0)) h).mono (fun _ _ k => ret_free (fun r u => fr_nil) k)) ?_); rintro r15 _
        refine o_not st rfl rfl ?_
        refine o_mv st rfl rfl ?_
        refine st_sp (dj := 24) rfl ?_ ?_
        · refine st_s rfl rfl rfl rfl ?_
          refine st_s rfl rfl rfl rfl ?_
          refine st_s rfl rfl rfl rfl ?_
          refine st_s rfl rfl rfl rfl ?_
          refine o_pickT st rfl rfl rfl ?_
          refine c_nil ?_
          exact l_join true (fun a w hE hm => ⟨hE.sub ⟨rfl, rfl, rfl, rfl, rfl, rfl, rfl, trivial⟩, (hm.pick [0, 1, 2] rfl)⟩)
        · refine o_fad (st_g rfl rfl) rfl rfl fld110_1 rfl ?_
          refine o_ldc (st_g rfl rfl) (v := (.int .i64 e11.xUntil)) 0 rfl rfl rfl ty3 rfl ?_
          refine st_gw rfl rfl (o_callP (vs := [(.int .i64 e11.xUntil)]) Tryd.call72 rfl rfl (by intro w m h; exact (w_impl_timeValid (F := allB [] w) (now_0 := e11.xUntil) allB_ok h).mono (fun _ _ k => ret_free (fun r u => fr_nil) k)) ?_); rintro r16 _
          refine o_not (st_g rfl rfl) rfl rfl ?_
          refine o_pickF st rfl rfl rfl ?_
          refine c_nil ?_
          exact l_join (!r16) (fun a w hE hm => ⟨hE.sub ⟨rfl, rfl, rfl, rfl, rfl, rfl, rfl, trivial⟩, (hm.pick [0, 1, 2] rfl)⟩)
      · rintro t77 a w ⟨hE, hm⟩ h
        refine nx_of hE hm h ?_
        clear hE hm h
        refine c_cond rfl ?_ ?_
        · refine c_seq ?_
          refine c_region ?_
          refine stw (o_asm encGPacket rfl rfl ?_)
          refine o_as st rfl rfl ?_
          refine c_nil ?_
          refine l_then ?_
          refine c_ret ?_
          refine l_ret ?_
          refine b_ret ?_
          refine l_ret ?_
          refine l_ret ?_
          refine b_ret ?_
          refine l_ret ?_
          exact l_end2 Tryd.results77 ([], false) (.map none) (rv_t rfl) (rv_t rfl) rfl (fun w m => NewCh.ofB m [0] rfl)
        · refine c_skip ?_
          refine l_then ?_
          refine c_seq ?_
          refine c_seq ?_
          refine c_region ?_
          refine o_mv st rfl rfl ?_
          refine o_fad st rfl rfl fld110_0 rfl ?_
          refine o_ldc st (v := (.agg #[(.int .i64 e11.xWho.xFrom), (.int .i64 e11.xWho.xTo), (.int .i64 e11.xWho.xPort), (.int .i64 e11.xWho.xProto)])) 0 rfl rfl rfl ty40 rfl ?_
          refine o_lkp st (k0 := e11.xWho) 1 rfl mreads_own rfl rfl rfl mapty113 ?_
          refine o_mv st rfl rfl ?_
          refine o_ext st (vs := [(.int .i64 ((mget e11.xWho xs7).1)), (.bool ((mget e11.xWho xs7).2))]) rfl rfl rfl ?_
          refine o_ext st (vs := [(.int .i64 ((mget e11.xWho xs7).1)), (.bool ((mget e11.xWho xs7).2))]) rfl rfl rfl ?_
          refine o_as st rfl rfl ?_
          refine o_as st rfl rfl ?_
          refine c_nil ?_
          refine l_then ?_
          refine c_seq ?_
          refine c_region ?_
          refine o_mv st rfl rfl ?_
          refine c_nil ?_
          refine l_then ?_
          refine c_cond rfl ?_ ?_
          · refine c_seq ?_
            refine c_region ?_
            refine stw (o_asm encGPacket rfl rfl ?_)
            refine o_as st rfl rfl ?_
            refine c_nil ?_
            refine l_then ?_
            refine c_ret ?_
            refine l_ret ?_
            refine b_ret ?_
            refine l_ret ?_
            refine l_ret ?_
            refine b_ret ?_
            refine l_ret ?_
            exact l_end2 Tryd.results77 ([], false) (.map none) (rv_t rfl) (rv_t rfl) rfl (fun w m => NewCh.ofB m [0] rfl)
          · refine c_skip ?_
            refine l_then ?_
            refine c_seq ?_
            refine c_region ?_
            refine o_mv st rfl rfl ?_
            refine o_fad st rfl rfl fld110_0 rfl ?_
            refine o_ldc st (v := (.agg #[(.int .i64 e11.xWho.xFrom), (.int .i64 e11.xWho.xTo), (.int .i64 e11.xWho.xPort), (.int .i64 e11.xWho.xProto)])) 0 rfl rfl rfl ty40 rfl ?_
            refine o_mv st rfl rfl ?_
            refine stw (o_mput (k0 := e11.xWho) 1 rfl rfl rfl rfl mapty113 ?_)
            refine c_nil ?_
            refine l_then ?_
            refine c_region ?_
            refine o_mv st rfl rfl ?_
            refine o_fad st rfl rfl fld110_0 rfl ?_
            refine o_ldc st (v := (.agg #[(.int .i64 e11.xWho.xFrom), (.int .i64 e11.xWho.xTo), (.int .i64 e11.xWho.xPort), (.int .i64 e11.xWho.xProto)])) 0 rfl rfl rfl ty40 rfl ?_
            refine stw (o_callP (vs := [(.agg #[(.int .i64 e11.xWho.xFrom), (.int .i64 e11.xWho.xTo), (.int .i64 e11.xWho.xPort), (.int .i64 e11.xWho.xProto)])]) Tryd.call64 rfl rfl (by intro w m h; exact (w_impl_Packet_reverse (F := allB [] w) (p_0 := e11.xWho) allB_ok h).mono (fun _ _ k => ret_free (fun r u => fr_nil) k)) ?_); rintro r82 _
            refine o_mv st rfl rfl ?_
            refine stw (o_mput (k0 := r82) 1 rfl rfl rfl rfl mapty113 ?_)
            refine c_nil ?_
            refine b_norm ?_
            refine l_then ?_
            refine c_region ?_
            refine o_add st rfl rfl rfl ?_; intro t84
            refine o_mv st rfl rfl ?_
            refine c_nil ?_
            exact l_join ((mput r82 t9 (mput e11.xWho t9 xs7)), t84) (fun a w hE hm => ⟨hE.sub ⟨rfl, rfl, rfl, rfl, trivial⟩, (hm.pick [1, 2] rfl)⟩)
    · refine c_exit ?_
      refine l_exit ?_
      refine l_exit ?_
      refine b_exit ?_
      refine l_then ?_
      refine c_seq ?_
      refine c_region ?_
      refine o_mv st rfl rfl ?_
      refine o_as st rfl rfl ?_
      refine o_as st rfl rfl ?_
      refine c_nil ?_
      refine l_then ?_
      refine c_ret ?_
      exact l_end2 Tryd.results77 (xs7, true) (.map (some b5)) (rv_t rfl) (rv_t rfl) rfl (fun w m => NewCh.ofB m [0] rfl)

set_option maxRecDepth 100000 in
set_option maxHeartbeats 8000000 in
theorem w_impl_flowIndex_known {w0 : World} {F : Nat → Prop} {v1 : Value} {v3 : Value} {x_0 : (List (GPacket × Int))} {list_1 : (List GFlow)} {p_2 : GPacket} {now_3 : Int} {κ : Int → Prop} (hF : ∀ b, F b → b < w0.heap.size ∧ ¬ feet [] b) (hv1 : Mp encGPacket F w0 v1 x_0) (hv3 : Sl elGFlow F w0 v3 list_1) (h : L_impl_flowIndex_known x_0 list_1 p_2 now_3 κ) :
    Calls Tryd.prog 78 #[v1, v3, (.agg #[(.int .i64 p_2.xFrom), (.int .i64 p_2.xTo), (.int .i64 p_2.xPort), (.int .i64 p_2.xProto)]), (.int .i64 now_3)] w0 (Ret [] F w0 κ (fun (r : Int) (u : Unit) => (.int .i64 r)) (fun (r : Int) (u : Unit) => [])) := by
  refine enterS (args := [v1, v3, (.agg #[(.int .i64 p_2.xFrom), (.int .i64 p_2.xTo), (.int .i64 p_2.xPort), (.int .i64 p_2.xProto)]), (.int .i64 now_3)]) [] hF (Given.nil _ _) Tryd.func78 rfl Tryd.ntmps78 rfl h ?_
  clear h hF
  refine c_seq ?_
  refine c_region ?_
  refine stw (o_box rfl rfl [(.int .i64 p_2.xFrom), (.int .i64 p_2.xTo), (.int .i64 p_2.xPort), (.int .i64 p_2.xProto)] rfl ?_); intro b5
  refine o_as st rfl rfl ?_
  refine c_nil ?_
  refine l_then ?_
  refine c_seq ?_
  refine c_region ?_
  refine o_mv st rfl rfl ?_
  refine o_ldc st (v := (.agg #[(.int .i64 p_2.xFrom), (.int .i64 p_2.xTo), (.int .i64 p_2.xPort), (.int .i64 p_2.xProto)])) 0 rfl rfl rfl ty40 rfl ?_
  refine o_lkp st (k0 := p_2) 1 rfl (mreads_snap hv1) rfl rfl rfl mapty113 ?_
  refine o_mv st rfl rfl ?_
  refine o_ext st (vs := [(.int .i64 ((mget p_2 x_0).1)), (.bool ((mget p_2 x_0).2))]) rfl rfl rfl ?_
  refine o_ext st (vs := [(.int .i64 ((mget p_2 x_0).1)), (.bool ((mget p_2 x_0).2))]) rfl rfl rfl ?_
  refine o_as st rfl rfl ?_
  refine o_as st rfl rfl ?_
  refine c_nil ?_
  refine l_then ?_
  refine c_seq ?_
  refine c_join (σ := Bool) (fun (t69 : Bool) (a : Act) (w : World) => Has 29 [(9, (.int .i64 ((mget p_2 x_0).1))), (27, (.bool t69))] a ∧ Mem (gB F [] w0) (feet []) w0 [] w) ?_ ?_
  · intro k70
    refine c_region ?_
    refine o_mv st rfl rfl ?_
    refine o_not st rfl rfl ?_
    refine o_mv st rfl rfl ?_
    refine st_sp (dj := 19) rfl ?_ ?_
    · refine st_s rfl rfl rfl rfl ?_
      refine st_s rfl rfl rfl rfl ?_
      refine st_s rfl rfl rfl rfl ?_
      refine st_s rfl rfl rfl rfl ?_
      refine st_s rfl rfl rfl rfl ?_
      refine st_s rfl rfl rfl rfl ?_
      refine st_s rfl rfl rfl rfl ?_
      refine o_pickT st rfl rfl rfl ?_
      refine c_nil ?_
      exact l_join true (fun a w hE hm => ⟨hE.sub ⟨rfl, rfl, trivial⟩, (hm.pick [] rfl)⟩)
    · refine o_mv (st_g rfl rfl) rfl rfl ?_
      refine o_mv (st_g rfl rfl) rfl rfl ?_
      refine o_idx (st_g rfl rfl) 1 rfl (reads_snap hv3) rfl rfl rfl el53 ?_; intro e7 h8
      refine o_fadS (st_g rfl rfl) 1 rfl (reads_snap hv3) h8 rfl rfl fld110_1 rfl ?_
      refine o_lds (st_g rfl rfl) (enc := encGFlow) (u := (.int .i64 e7.xUntil)) 1 rfl (reads_snap hv3) flelGFlow rfl h8 rfl rfl ty3 rfl ?_
      refine o_mv (st_g rfl rfl) rfl rfl ?_
      refine o_lss (st_g rfl rfl) rfl rfl rfl ?_
      refine o_pickF st rfl rfl rfl ?_
      refine c_nil ?_
      exact l_join (decide (e7.xUntil < now_3)) (fun a w hE hm => ⟨hE.sub ⟨rfl, rfl, trivial⟩, (hm.pick [] rfl)⟩)
  · rintro t69 a w ⟨hE, hm⟩ h
    refine nx_of hE hm h ?_
    clear hE hm h
    refine c_cond rfl ?_ ?_
    · refine c_seq ?_
      refine c_region ?_
      refine o_as st rfl rfl ?_
      refine c_nil ?_
      refine l_then ?_
      refine c_ret ?_
      refine l_ret ?_
      exact l_end1 Tryd.results78 (-1) () (rv_t rfl) (fun _ _ => NewCh.nil _ _ _ _)
    · refine c_skip ?_
      refine l_then ?_
      refine c_seq ?_
      refine c_region ?_
      refine o_mv st rfl rfl ?_
      refine o_as st rfl rfl ?_
      refine c_nil ?_
      refine l_then ?_
      refine c_ret ?_
      exact l_end1 Tryd.results78 ((mget p_2 x_0).1) () (rv_t rfl) (fun _ _ => NewCh.nil _ _ _ _)

set_option maxRecDepth 100000 in
set_option maxHeartbeats 8000000 in
theorem w_impl_KnownFlow {w0 : World} {F : Nat → Prop} {v1 : Value} {list_0 : (List GFlow)} {p_1 : GPacket} {now_2 : Int} {κ : Int → Prop} (hF : ∀ b, F b → b < w0.heap.size ∧ ¬ feet [] b) (hv1 : Sl elGFlow F w0 v1 list_0) (hgl0 : Sl elGFieldShape F w0 (.slice (some ⟨0, 0, none⟩) 4 4) gl_impl_fieldShapes) (h : L_impl_KnownFlow list_0 p_1 now_2 κ) :
    Calls Tryd.prog 33 #[v1, (.agg #[(.int .i64 p_1.xFrom), (.int .i64 p_1.xTo), (.int .i64 p_1.xPort), (.int .i64 p_1.xProto)]), (.int .i64 now_2)] w0 (Ret [] F w0 κ (fun (r : Int) (u : Unit) => (.int .i64 r)) (fun (r : Int) (u : Unit) => [])) := by
  refine enterS (args := [v1, (.agg #[(.int .i64 p_1.xFrom), (.int .i64 p_1.xTo), (.int .i64 p_1.xPort), (.int .i64 p_1.xProto)]), (.int .i64 now_2)]) [] hF (Given.nil _ _) Tryd.func33 rfl Tryd.ntmps33 rfl h ?_
  clear h hF
  refine c_seq ?_
  refine c_region ?_
  refine stw (o_box rfl rfl [(.int .i64 p_1.xFrom), (.int .i64 p_1.xTo), (.int .i64 p_1.xPort), (.int .i64 p_1.xProto)] rfl ?_); intro b3
  refine o_as st rfl rfl ?_
  refine c_nil ?_
  refine l_then ?_
  refine c_seq ?_
  refine c_region ?_
  refine o_mv st rfl rfl ?_
  refine stw (o_callP (vs := [v1]) Tryd.call77 rfl rfl (by intro w m h; exact (w_impl_indexFlows (F := allB [] w) (list_0 := list_0) allB_ok (m.rd0 1 rfl (reads_snap hv1)) (m.rd0 1 rfl (reads_snap hgl0)) h).mono (fun _ _ k => ret_free (fun r u => (fr_cons free_mown fr_nil)) k)) ?_); rintro ⟨r5, r8⟩ v6
  refine o_mv st rfl rfl ?_
  refine o_ext st (vs := [v6, (.bool r8)]) rfl rfl rfl ?_
  refine o_ext st (vs := [v6, (.bool r8)]) rfl rfl rfl ?_
  refine o_as st rfl rfl ?_
  refine o_as st rfl rfl ?_
  refine c_nil ?_
  refine l_then ?_
  refine c_seq ?_
  refine c_join (σ := Bool) (fun (t71 : Bool) (a : Act) (w : World) => Has 31 [(0, v1), (2, (.int .i64 now_2)), (4, (.pointer (some ⟨b3, 0, none⟩))), (7, v6), (25, (.bool t71))] a ∧ Mem (gB F [] w0) (feet []) w0 [mOwn encGPacket v6 r5, cellCh b3 [(.int .i64 p_1.xFrom), (.int .i64 p_1.xTo), (.int .i64 p_1.xPort), (.int .i64 p_1.xProto)] 40, snapCh w0 F] w) ?_ ?_
  · intro k72
    refine c_region ?_
    refine o_mv st rfl rfl ?_
    refine o_not st rfl rfl ?_
    refine o_mv st rfl rfl ?_
    refine st_sp (dj := 16) rfl ?_ ?_
    · refine st_s rfl rfl rfl rfl ?_
      refine st_s rfl rfl rfl rfl ?_
      refine st_s rfl rfl rfl rfl ?_
      refine o_pickT st rfl rfl rfl ?_
      refine o_mv st rfl rfl ?_
      refine st_s rfl rfl rfl rfl ?_
      refine st_s rfl rfl rfl rfl ?_
      refine st_s rfl rfl rfl rfl ?_
      refine o_pickT st rfl rfl rfl ?_
      refine c_nil ?_
      exact l_join true (fun a w hE hm => ⟨hE.sub ⟨rfl, rfl, rfl, rfl, rfl, trivial⟩, (hm.pick [0, 1, 2] rfl)⟩)
    · refine o_ldc (st_g rfl rfl) (v := (.agg #[(.int .i64 p_1.xFrom), (.int .i64 p_1.xTo), (.int .i64 p_1.xPort), (.int .i64 p_1.xProto)])) 1 rfl rfl rfl ty40 rfl ?_
      refine st_gw rfl rfl (o_callP (vs := [(.agg #[(.int .i64 p_1.xFrom), (.int .i64 p_1.xTo), (.int .i64 p_1.xPort), (.int .i64 p_1.xProto)])]) Tryd.call61 rfl rfl (by intro w m h; exact (w_impl_PacketValid (F := allB [] w) (p_0 := p_1) allB_ok (m.rd0 2 rfl (reads_snap hgl0)) h).mono (fun _ _ k => ret_free (fun r u => fr_nil) k)) ?_); rintro r9 _
      refine o_not (st_g rfl rfl) rfl rfl ?_
      refine o_pickF st rfl rfl rfl ?_
      refine o_mv st rfl rfl ?_
      refine st_sp (dj := 21) rfl ?_ ?_
      · refine st_s rfl rfl rfl rfl ?_
        refine st_s rfl rfl rfl rfl ?_
        refine st_s rfl rfl rfl rfl ?_
        refine o_pickT st rfl rfl rfl ?_
        refine c_nil ?_
        exact l_join true (fun a w hE hm => ⟨hE.sub ⟨rfl, rfl, rfl, rfl, rfl, trivial⟩, (hm.pick [0, 1, 2] rfl)⟩)
      · refine o_mv (st_g rfl rfl) rfl rfl ?_
        refine st_gw rfl rfl (o_callP (vs := [(.int .i64 now_2)]) Tryd.call72 rfl rfl (by intro w m h; exact (w_impl_timeValid (F := allB [] w) (now_0 := now_2) allB_ok h).mono (fun _ _ k => ret_free (fun r u => fr_nil) k)) ?_); rintro r10 _
        refine o_not (st_g rfl rfl) rfl rfl ?_
        refine o_pickF st rfl rfl rfl ?_
        refine c_nil ?_
        exact l_join (!r10) (fun a w hE hm => ⟨hE.sub ⟨rfl, rfl, rfl, rfl, rfl, trivial⟩, (hm.pick [0, 1, 2] rfl)⟩)
  · rintro t71 a w ⟨hE, hm⟩ h
    refine nx_of hE hm h ?_
    clear hE hm h
    refine c_cond rfl ?_ ?_
    · refine c_seq ?_
      refine c_region ?_
      refine o_as st rfl rfl ?_
      refine c_nil ?_
      refine l_then ?_
      refine c_ret ?_
      refine l_ret ?_
      exact l_end1 Tryd.results33 (-1) () (rv_t rfl) (fun _ _ => NewCh.nil _ _ _ _)
    · refine c_skip ?_
      refine l_then ?_
      refine c_seq ?_
      refine c_region ?_
      refine o_mv st rfl rfl ?_
      refine o_mv st rfl rfl ?_
      refine o_ldc st (v := (.agg #[(.int .i64 p_1.xFrom), (.int .i64 p_1.xTo), (.int .i64 p_1.xPort), (.int .i64 p_1.xProto)])) 1 rfl rfl rfl ty40 rfl ?_
      refine o_mv st rfl rfl ?_
      refine stw (o_callP (vs := [v6, v1, (.agg #[(.int .i64 p_1.xFrom), (.int .i64 p_1.xTo), (.int .i64 p_1.xPort), (.int .i64 p_1.xProto)]), (.int .i64 now_2)]) Tryd.call78 rfl rfl (by intro w m h; exact (w_impl_flowIndex_known (F := allB [] w) (x_0 := r5) (list_1 := list_0) (p_2 := p_1) (now_3 := now_2) allB_ok (m.mrd0 0 rfl mreads_own) (m.rd0 2 rfl (reads_snap hv1)) h).mono (fun _ _ k => ret_free (fun r u => fr_nil) k)) ?_); rintro r73 _
      refine o_as st rfl rfl ?_
      refine c_nil ?_
      refine l_then ?_
      refine c_ret ?_
      exact l_end1 Tryd.results33 r73 () (rv_t rfl) (fun _ _ => NewCh.nil _ _ _ _)

set_option maxRecDepth 100000 in
set_option maxHeartbeats 8000000 in
theorem w_impl_notExpired {w0 : World} {F : Nat → Prop} {v1 : Value} {list_0 : (List GFlow)} {now_1 : Int} {κ : (List GFlow) → Prop} (hF : ∀ b, F b → b < w0.heap.size ∧ ¬ feet [] b) (hv1 : Sl elGFlow F w0 v1 list_0) (h : L_impl_notExpired list_0 now_1 κ) :
    Calls Tryd.prog 79 #[v1, (.int .i64 now_1)] w0 (Ret [] F w0 κ (fun (r : (List GFlow)) (u : Value) => u) (fun (r : (List GFlow)) (u : Value) => [ownCh elGFlow 110 u r])) := by
  refine enterS (args := [v1, (.int .i64 now_1)]) [] hF (Given.nil _ _) Tryd.func79 rfl Tryd.ntmps79 rfl h ?_
  clear h hF
  refine c_seq ?_
  refine c_region ?_
  refine stw (o_asn elGFlow 110 rfl rfl ?_)
  refine c_nil ?_
  refine l_then ?_
  refine c_seq ?_
  refine c_region ?_
  refine o_mv st rfl rfl ?_
  refine o_len st el53 1 rfl (reads_snap hv1) rfl rfl ?_
  refine stw (o_make (z := (GFlow.mk (GPacket.mk 0 0 0 0) 0)) flelGFlow rfl rfl rfl el53 rfl zero110 rfl rfl ?_); intro v4 xs5
  refine o_as st rfl rfl ?_
  refine c_nil ?_
  refine l_then ?_
  refine c_seq ?_
  refine c_seq ?_
  refine c_region ?_
  refine o_mv st rfl rfl ?_
  refine o_len st el53 2 rfl (reads_snap hv1) rfl rfl ?_
  refine o_mv st rfl rfl ?_
  refine c_nil ?_
  refine l_then ?_
  refine c_block ?_
  refine c_loop (σ := ((List GFlow) × Int)) (fun ((xs8, t11) : ((List GFlow) × Int)) (a : Act) (w : World) => ∃ (v7 : Value), Has 27 [(1, (.int .i64 now_1)), (5, v7), (11, v1), (12, (.int .i64 (list_0.length : Int))), (13, (.int .i64 t11))] a ∧ Mem (gB F [] w0) (feet []) w0 [snapCh w0 F, ownCh elGFlow 110 v7 xs8] w) (fun a w hE hm => ⟨v4, hE.sub ⟨rfl, rfl, rfl, rfl, rfl, trivial⟩, (hm.pick [2, 0] rfl)⟩) ?_
  rintro nx12 ⟨xs8, t11⟩ a w ⟨v7, hE, hm⟩ h
  refine nx_of hE hm h ?_
  clear hE hm h
  refine c_seq ?_
  refine c_region ?_
  refine o_lss st rfl rfl rfl ?_
  refine c_nil ?_
  refine l_then ?_
  refine c_seq ?_
  refine c_cond rfl ?_ ?_
  · refine c_skip ?_
    refine l_then ?_
    refine c_join (σ := (List GFlow)) (fun (xs81 : (List GFlow)) (a : Act) (w : World) => ∃ (v82 : Value), Has 27 [(1, (.int .i64 now_1)), (5, v82), (11, v1), (12, (.int .i64 (list_0.length : Int))), (13, (.int .i64 t11))] a ∧ Mem (gB F [] w0) (feet []) w0 [ownCh elGFlow 110 v82 xs81, snapCh w0 F] w) ?_ ?_
    · intro k84
      refine c_block ?_
      refine c_seq ?_
      refine c_region ?_
      refine o_idx st 0 rfl (reads_snap hv1) rfl rfl rfl el53 ?_; intro e13 h14
      refine o_lds st (enc := encGFlow) (u := (.agg #[(.int .i64 e13.xWho.xFrom), (.int .i64 e13.xWho.xTo), (.int .i64 e13.xWho.xPort), (.int .i64 e13.xWho.xProto), (.int .i64 e13.xUntil)])) 0 rfl (reads_snap hv1) flelGFlow rfl h14 rfl rfl ty110 rfl ?_
      refine stw (o_alloc rfl [(.int .i64 0), (.int .i64 0), (.int .i64 0), (.int .i64 0), (.int .i64 0)] zero110 ?_); intro b15
      refine stw (o_stc (cs' := [(.int .i64 e13.xWho.xFrom), (.int .i64 e13.xWho.xTo), (.int .i64 e13.xWho.xPort), (.int .i64 e13.xWho.xProto), (.int .i64 e13.xUntil)]) 0 rfl rfl rfl ty110 rfl rfl rfl rfl ?_)
      refine c_nil ?_
      refine l_then ?_
      refine c_seq ?_
      refine c_region ?_
      refine o_fad st rfl rfl fld110_1 rfl ?_
      refine o_ldc st (v := (.int .i64 e13.xUntil)) 0 rfl rfl rfl ty3 rfl ?_
      refine o_mv st rfl rfl ?_
      refine o_geq st rfl rfl rfl ?_
      refine c_nil ?_
      refine l_then ?_
      refine c_cond rfl ?_ ?_
      · refine c_region ?_
        refine o_mv st rfl rfl ?_
        refine o_ldc st (v := (.agg #[(.int .i64 e13.xWho.xFrom), (.int .i64 e13.xWho.xTo), (.int .i64 e13.xWho.xPort), (.int .i64 e13.xWho.xProto), (.int .i64 e13.xUntil)])) 0 rfl rfl rfl ty110 rfl ?_
        refine stw (o_bsl (enc := encGFlow) (qs := [(0, (.agg #[(.int .i64 e13.xWho.xFrom), (.int .i64 e13.xWho.xTo), (.int .i64 e13.xWho.xPort), (.int .i64 e13.xWho.xProto), (.int .i64 e13.xUntil)]))]) (cells := [(.int .i64 e13.xWho.xFrom), (.int .i64 e13.xWho.xTo), (.int .i64 e13.xWho.xPort), (.int .i64 e13.xWho.xProto), (.int .i64 e13.xUntil)]) ([e13]) flelGFlow (by intro ρ h; simp only [List.map_toArray, List.map_cons, List.map_nil, h (.tmp 22) _ rfl]) rfl el53 zero110 rfl rfl rfl rfl rfl rfl ?_); intro v17
        refine stw (o_app 3 0 rfl rfl (src_flat flelGFlow reads_own) rfl rfl rfl el53 rfl zero110 rfl rfl ?_); intro v19
        refine o_as st rfl rfl ?_
        refine c_nil ?_
        refine b_norm ?_
        exact l_join (xs8 ++ ([e13])) (fun a w hE hm => ⟨v19, hE.sub ⟨rfl, rfl, rfl, rfl, rfl, trivial⟩, (hm.pick [3, 2] rfl)⟩)
      · refine c_skip ?_
        refine b_norm ?_
        exact l_join xs8 (fun a w hE hm => ⟨v7, hE.sub ⟨rfl, rfl, rfl, rfl, rfl, trivial⟩, (hm.pick [2, 1] rfl)⟩)
    · rintro xs81 a w ⟨v82, hE, hm⟩ h
      refine nx_of hE hm h ?_
      clear hE hm h
      refine c_region ?_
      refine o_add st rfl rfl rfl ?_; intro t85
      refine o_mv st rfl rfl ?_
      refine c_nil ?_
      exact l_join (xs81, t85) (fun a w hE hm => ⟨v82, hE.sub ⟨rfl, rfl, rfl, rfl, rfl, trivial⟩, (hm.pick [1, 0] rfl)⟩)
  · refine c_exit ?_
    refine l_exit ?_
    refine l_exit ?_
    refine b_exit ?_
    refine l_then ?_
    refine c_seq ?_
    refine c_region ?_
    refine o_mv st rfl rfl ?_
    refine o_as st rfl rfl ?_
    refine c_nil ?_
    refine l_then ?_
    refine c_ret ?_
    exact l_end1 Tryd.results79 xs8 v7 (rv_t rfl) (fun w m => NewCh.ofB m [1] rfl)

set_option maxRecDepth 100000 in
set_option maxHeartbeats 8000000 in
theorem w_impl_trackValid {w0 : World} {F : Nat → Prop} {v1 : Value} {list_0 : (List GFlow)} {p_1 : GPacket} {now_2 : Int} {life_3 : Int} {κ : ((List GFlow) × Bool) → Prop} (hF : ∀ b, F b → b < w0.heap.size ∧ ¬ feet [] b) (hv1 : Sl elGFlow F w0 v1 list_0) (hgl0 : Sl elGFieldShape F w0 (.slice (some ⟨0, 0, none⟩) 4 4) gl_impl_fieldShapes) (h : L_impl_trackValid list_0 p_1 now_2 life_3 κ) :
    Calls Tryd.prog 96 #[v1, (.agg #[(.int .i64 p_1.xFrom), (.int .i64 p_1.xTo), (.int .i64 p_1.xPort), (.int .i64 p_1.xProto)]), (.int .i64 now_2), (.int .i64 life_3)] w0 (Ret [] F w0 κ (fun (r : ((List GFlow) × Bool)) (u : Value) => .tuple #[u, (.bool r.2)]) (fun (r : ((List GFlow) × Bool)) (u : Value) => [ownCh elGFlow 110 u r.1])) := by
  refine enterS (args := [v1, (.agg #[(.int .i64 p_1.xFrom), (.int .i64 p_1.xTo), (.int .i64 p_1.xPort), (.int .i64 p_1.xProto)]), (.int .i64 now_2), (.int .i64 life_3)]) [] hF (Given.nil _ _) Tryd.func96 rfl Tryd.ntmps96 rfl h ?_
  clear h hF
  refine c_seq ?_
  refine c_region ?_
  refine stw (o_box rfl rfl [(.int .i64 p_1.xFrom), (.int .i64 p_1.xTo), (.int .i64 p_1.xPort), (.int .i64 p_1.xProto)] rfl ?_); intro b3
  refine stw (o_asn elGFlow 110 rfl rfl ?_)
  refine o_as st rfl rfl ?_
  refine c_nil ?_
  refine l_then ?_
  refine c_seq ?_
  refine c_region ?_
  refine o_mv st rfl rfl ?_
  refine o_mv st rfl rfl ?_
  refine stw (o_callP (vs := [v1, (.int .i64 now_2)]) Tryd.call79 rfl rfl (by intro w m h; exact (w_impl_notExpired (F := allB [] w) (list_0 := list_0) (now_1 := now_2) allB_ok (m.rd0 2 rfl (reads_snap hv1)) h).mono (fun _ _ k => ret_free (fun r u => (fr_cons (free_own flelGFlow) fr_nil)) k)) ?_); rintro r6 v7
  refine o_as st rfl rfl ?_
  refine c_nil ?_
  refine l_then ?_
  refine c_seq ?_
  refine c_region ?_
  refine o_mv st rfl rfl ?_
  refine o_mv st rfl rfl ?_
  refine o_add st rfl rfl rfl ?_; intro t9
  refine o_min st rfl rfl rfl ?_
  refine o_as st rfl rfl ?_
  refine c_nil ?_
  refine l_then ?_
  refine c_seq ?_
  refine c_region ?_
  refine o_mv st rfl rfl ?_
  refine stw (o_callP (vs := [v7]) Tryd.call77 rfl rfl (by intro w m h; exact (w_impl_indexFlows (F := allB [] w) (list_0 := r6) allB_ok (m.rd0 0 rfl reads_own) (m.rd0 3 rfl (reads_snap hgl0)) h).mono (fun _ _ k => ret_free (fun r u => (fr_cons free_mown fr_nil)) k)) ?_); rintro ⟨r10, r13⟩ v11
  refine o_mv st rfl rfl ?_
  refine o_ext st (vs := [v11, (.bool r13)]) rfl rfl rfl ?_
  refine o_ext st (vs := [v11, (.bool r13)]) rfl rfl rfl ?_
  refine o_as st rfl rfl ?_
  refine o_as st rfl rfl ?_
  refine c_nil ?_
  refine l_then ?_
  refine c_seq ?_
  refine c_seq ?_
  refine c_region ?_
  refine o_mv st rfl rfl ?_
  refine o_mv st rfl rfl ?_
  refine o_ldc st (v := (.agg #[(.int .i64 p_1.xFrom), (.int .i64 p_1.xTo), (.int .i64 p_1.xPort), (.int .i64 p_1.xProto)])) 3 rfl rfl rfl ty40 rfl ?_
  refine o_mv st rfl rfl ?_
  refine stw (o_callP (vs := [v11, v7, (.agg #[(.int .i64 p_1.xFrom), (.int .i64 p_1.xTo), (.int .i64 p_1.xPort), (.int .i64 p_1.xProto)]), (.int .i64 now_2)]) Tryd.call78 rfl rfl (by intro w m h; exact (w_impl_flowIndex_known (F := allB [] w) (x_0 := r10) (list_1 := r6) (p_2 := p_1) (now_3 := now_2) allB_ok (m.mrd0 0 rfl mreads_own) (m.rd0 1 rfl reads_own) h).mono (fun _ _ k => ret_free (fun r u => fr_nil) k)) ?_); rintro r14 _
  refine o_as st rfl rfl ?_
  refine c_nil ?_
  refine l_then ?_
  refine c_seq ?_
  refine c_region ?_
  refine o_mv st rfl rfl ?_
  refine o_geq st rfl rfl rfl ?_
  refine c_nil ?_
  refine l_then ?_
  refine c_cond rfl ?_ ?_
  · refine c_seq ?_
    refine c_region ?_
    refine o_mv st rfl rfl ?_
    refine o_mv st rfl rfl ?_
    refine o_mv st rfl rfl ?_
    refine o_idx st 1 rfl reads_own rfl rfl rfl el53 ?_; intro e15 h16
    refine o_fadS st 1 rfl reads_own h16 rfl rfl fld110_1 rfl ?_
    refine stw (o_sts (enc := encGFlow) (y' := (GFlow.mk e15.xWho (min t9 1000000))) 1 rfl flelGFlow rfl h16 ty3 rfl rfl rfl rfl rfl rfl ?_)
    refine c_nil ?_
    refine l_then ?_
    refine c_seq ?_
    refine c_region ?_
    refine o_mv st rfl rfl ?_
    refine o_as st rfl rfl ?_
    refine o_as st rfl rfl ?_
    refine c_nil ?_
    refine l_then ?_
    refine c_ret ?_
    refine l_ret ?_
    exact l_end2 Tryd.results96 ((r6.set (r14).toNat (GFlow.mk e15.xWho (min t9 1000000))), true) v7 (rv_t rfl) (rv_t rfl) rfl (fun w m => NewCh.ofB m [1] rfl)
  · refine c_skip ?_
    refine l_then ?_
    refine c_seq ?_
    refine c_seq ?_
    refine c_region ?_
    refine o_mv st rfl rfl ?_
    refine o_len st el53 1 rfl reads_own rfl rfl ?_
    refine o_eql st und3 rfl rfl rfl ?_
    refine c_nil ?_
    refine l_then ?_
    refine c_cond rfl ?_ ?_
    · refine c_seq ?_
      refine c_region ?_
      refine o_mv st rfl rfl ?_
      refine o_as st rfl rfl ?_
      refine o_as st rfl rfl ?_
      refine c_nil ?_
      refine l_then ?_
      refine c_ret ?_
      refine l_ret ?_
      exact l_end2 Tryd.results96 (r6, false) v7 (rv_t rfl) (rv_t rfl) rfl (fun w m => NewCh.ofB m [1] rfl)
    · refine c_skip ?_
      refine l_then ?_
      refine c_seq ?_
      refine c_region ?_
      refine o_mv st rfl rfl ?_
      refine o_ldc st (v := (.agg #[(.int .i64 p_1.xFrom), (.int .i64 p_1.xTo), (.int .i64 p_1.xPort), (.int .i64 p_1.xProto)])) 3 rfl rfl rfl ty40 rfl ?_
      refine o_mv st rfl rfl ?_
      refine o_bld st (qs := [(0, (.agg #[(.int .i64 p_1.xFrom), (.int .i64 p_1.xTo), (.int .i64 p_1.xPort), (.int .i64 p_1.xProto)])), (1, (.int .i64 (min t9 1000000)))]) (cells := [(.int .i64 p_1.xFrom), (.int .i64 p_1.xTo), (.int .i64 p_1.xPort), (.int .i64 p_1.xProto), (.int .i64 (min t9 1000000))]) (by intro ρ h; simp only [List.map_toArray, List.map_cons, List.map_nil, h (.tmp 45) _ rfl, h (.tmp 46) _ rfl]) rfl bld110 rfl ?_
      refine stw (o_bsl (enc := encGFlow) (qs := [(0, (.agg #[(.int .i64 p_1.xFrom), (.int .i64 p_1.xTo), (.int .i64 p_1.xPort), (.int .i64 p_1.xProto), (.int .i64 (min t9 1000000))]))]) (cells := [(.int .i64 p_1.xFrom), (.int .i64 p_1.xTo), (.int .i64 p_1.xPort), (.int .i64 p_1.xProto), (.int .i64 (min t9 1000000))]) ([(GFlow.mk p_1 (min t9 1000000))]) flelGFlow (by intro ρ h; simp only [List.map_toArray, List.map_cons, List.map_nil, h (.tmp 47) _ rfl]) rfl el53 zero110 rfl rfl rfl rfl rfl rfl ?_); intro v18
      refine stw (o_app 2 0 rfl rfl (src_flat flelGFlow reads_own) rfl rfl rfl el53 rfl zero110 rfl rfl ?_); intro v20
      refine o_as st rfl rfl ?_
      refine o_as st rfl rfl ?_
      refine c_nil ?_
      refine l_then ?_
      refine c_ret ?_
      exact l_end2 Tryd.results96 ((r6 ++ ([(GFlow.mk p_1 (min t9 1000000))])), true) v20 (rv_t rfl) (rv_t rfl) rfl (fun w m => NewCh.ofB m [2] rfl)



end
section
open Go.RowKit
set_option maxRecDepth 100000 in
set_option maxHeartbeats 8000000 in
theorem w_impl_tracker_pass {w0 : World} {F : Nat → Prop} {b1 : Nat} {v2 : Value} {v4 : Value} {t_0_set_Chains : (List (List GRule))} {t_0_set_Accept : Bool} {t_0_flows : (List GFlow)} {t_0_life : Int} {p_1 : GPacket} {now_2 : Int} {κ : (Bool × (List GFlow)) → Prop} (hF : ∀ b, F b → b < w0.heap.size ∧ ¬ feet [cellCh b1 [v2, (.bool t_0_set_Accept), v4, (.int .i64 t_0_life)] 91] b) (hg : Given [cellCh b1 [v2, (.bool t_0_set_Accept), v4, (.int .i64 t_0_life)] 91] F w0) (hv2 : Sl (elSl elGRule) F w0 v2 t_0_set_Chains) (hv4 : Sl elGFlow F w0 v4 t_0_flows) (hgl0 : Sl elGFieldShape F w0 (.slice (some ⟨0, 0, none⟩) 4 4) gl_impl_fieldShapes) (h : L_impl_tracker_pass t_0_set_Chains t_0_set_Accept t_0_flows t_0_life p_1 now_2 κ) :
    Calls Tryd.prog 63 #[(.pointer (some ⟨b1, 0, none⟩)), (.agg #[(.int .i64 p_1.xFrom), (.int .i64 p_1.xTo), (.int .i64 p_1.xPort), (.int .i64 p_1.xProto)]), (.int .i64 now_2)] w0 (Ret [cellCh b1 [v2, (.bool t_0_set_Accept), v4, (.int .i64 t_0_life)] 91] F w0 κ (fun (r : (Bool × (List GFlow))) (u : Value) => (.bool r.1)) (fun (r : (Bool × (List GFlow))) (u : Value) => [cellCh b1 [v2, (.bool t_0_set_Accept), u, (.int .i64 t_0_life)] 91, ownCh elGFlow 110 u r.2])) := by
  refine enterS (args := [(.pointer (some ⟨b1, 0, none⟩)), (.agg #[(.int .i64 p_1.xFrom), (.int .i64 p_1.xTo), (.int .i64 p_1.xPort), (.int .i64 p_1.xProto)]), (.int .i64 now_2)]) [cellCh b1 [v2, (.bool t_0_set_Accept), v4, (.int .i64 t_0_life)] 91] hF hg Tryd.func63 rfl Tryd.ntmps63 rfl h ?_
  clear h hF hg
  refine c_seq ?_
  refine c_region ?_
  refine stw (o_box rfl rfl [(.int .i64 p_1.xFrom), (.int .i64 p_1.xTo), (.int .i64 p_1.xPort), (.int .i64 p_1.xProto)] rfl ?_); intro b7
  refine o_as st rfl rfl ?_
  refine c_nil ?_
  refine l_then ?_
  refine c_seq ?_
  refine c_join (σ := Bool) (fun (t71 : Bool) (a : Act) (w : World) => Has 50 [(0, (.pointer (some ⟨b1, 0, none⟩))), (2, (.int .i64 now_2)), (4, (.pointer (some ⟨b7, 0, none⟩))), (23, (.bool t71))] a ∧ Mem (gB F [cellCh b1 [v2, (.bool t_0_set_Accept), v4, (.int .i64 t_0_life)] 91] w0) (feet [cellCh b1 [v2, (.bool t_0_set_Accept), v4, (.int .i64 t_0_life)] 91]) w0 [cellCh b7 [(.int .i64 p_1.xFrom), (.int .i64 p_1.xTo), (.int .i64 p_1.xPort), (.int .i64 p_1.xProto)] 40, cellCh b1 [v2, (.bool t_0_set_Accept), v4, (.int .i64 t_0_life)] 91, snapCh w0 F] w) ?_ ?_
  · intro k72
    refine c_draw mixed 17 rfl [cellCh b7 [(.int .i64 p_1.xFrom), (.int .i64 p_1.xTo), (.int .i64 p_1.xPort), (.int .i64 p_1.xProto)] 40, cellCh b1 [v2, (.bool t_0_set_Accept), v4, (.int .i64 t_0_life)] 91, snapCh w0 F] ?_
    refine o_mv (dt 0 (fun _ m => m)) rfl rfl ?_
    refine o_nilc (dt 1 (fun _ m => m)) rfl rfl ?_
    refine o_fad (dt 2 (fun _ m => m)) rfl rfl fld91_1 rfl ?_
    refine o_ldc (dt 3 (fun _ m => m)) (v := v4) 1 rfl rfl rfl ty53 rfl ?_
    refine o_ldc (dt 4 (fun _ m => m)) (v := (.agg #[(.int .i64 p_1.xFrom), (.int .i64 p_1.xTo), (.int .i64 p_1.xPort), (.int .i64 p_1.xProto)])) 0 rfl rfl rfl ty40 rfl ?_
    refine o_mv (dt 5 (fun _ m => m)) rfl rfl ?_
    refine d_one (i := 6) rfl (by kernel_rfl) (o_callP (vs := [v4, (.agg #[(.int .i64 p_1.xFrom), (.int .i64 p_1.xTo), (.int .i64 p_1.xPort), (.int .i64 p_1.xProto)]), (.int .i64 now_2)]) Tryd.call33 rfl rfl (by intro w m h; exact (w_impl_KnownFlow (F := allB [] w) (list_0 := t_0_flows) (p_1 := p_1) (now_2 := now_2) allB_ok (m.rd0 2 rfl (reads_snap hv4)) (m.rd0 2 rfl (reads_snap hgl0)) h).mono (fun _ _ k => ret_free (fun r u => fr_nil) k)) ?_); rintro r9 _
    refine d_and (fun _ m => m) ?_
    refine o_lss (dt 7 (fun _ m => m)) rfl rfl rfl ?_
    refine o_mv (dt 8 (fun _ m => m)) rfl rfl ?_
    refine st_sp (dj := 15) rfl ?_ ?_
    · refine o_mv (dtg 9 (fun _ m => m)) rfl rfl ?_
      refine o_nilc (dtg 10 (fun _ m => m)) rfl rfl ?_
      refine o_fad (dtg 11 (fun _ m => m)) rfl rfl fld91_0 rfl ?_
      refine o_ldc (dtg 12 (fun _ m => m)) (v := (.agg #[v2, (.bool t_0_set_Accept)])) 1 rfl rfl rfl ty25 rfl ?_
      refine o_ldc (dtg 13 (fun _ m => m)) (v := (.agg #[(.int .i64 p_1.xFrom), (.int .i64 p_1.xTo), (.int .i64 p_1.xPort), (.int .i64 p_1.xProto)])) 0 rfl rfl rfl ty40 rfl ?_
      refine d_oneg (i := 14) rfl rfl rfl (by kernel_rfl) (o_callP (vs := [(.agg #[v2, (.bool t_0_set_Accept)]), (.agg #[(.int .i64 p_1.xFrom), (.int .i64 p_1.xTo), (.int .i64 p_1.xPort), (.int .i64 p_1.xProto)])]) Tryd.call54 rfl rfl (by intro w m h; exact (w_impl_judgeValid (F := allB [] w) (s_0 := (GRuleset.mk t_0_set_Chains t_0_set_Accept)) (p_1 := p_1) allB_ok (m.rd0 2 rfl (reads_snap hv2)) h).mono (fun _ _ k => ret_free (fun r u => fr_nil) k)) ?_); rintro r10 _
      refine d_and (fun _ m => m) ?_
      refine o_not (dtg 15 (fun _ m => m)) rfl rfl ?_
      refine o_pickT (dt 16 (fun _ m => m)) rfl rfl rfl ?_
      refine d_done (by kernel_rfl) ?_
      exact l_join (!r10) (fun a w hE hm => ⟨hE.sub ⟨rfl, rfl, rfl, rfl, trivial⟩, (hm.pick [0, 1, 2] rfl)⟩)
    · refine dsk 9 (fun _ m => m) rfl (by kernel_rfl) rfl rfl rfl rfl ?_
      refine dsk 10 (fun _ m => m) rfl (by kernel_rfl) rfl rfl rfl rfl ?_
      refine dsk 11 (fun _ m => m) rfl (by kernel_rfl) rfl rfl rfl rfl ?_
      refine dsk 12 (fun _ m => m) rfl (by kernel_rfl) rfl rfl rfl rfl ?_
      refine dsk 13 (fun _ m => m) rfl (by kernel_rfl) rfl rfl rfl rfl ?_
      refine dsk 14 (fun _ m => m) rfl (by kernel_rfl) rfl rfl rfl rfl ?_
      refine dsk 15 (fun _ m => m) rfl (by kernel_rfl) rfl rfl rfl rfl ?_
      refine o_pickF (dt 16 (fun _ m => m)) rfl rfl rfl ?_
      refine d_done (by kernel_rfl) ?_
      exact l_join false (fun a w hE hm => ⟨hE.sub ⟨rfl, rfl, rfl, rfl, trivial⟩, (hm.pick [0, 1, 2] rfl)⟩)
  · rintro t71 a w ⟨hE, hm⟩ h
    refine nx_of hE hm h ?_
    clear hE hm h
    refine c_cond rfl ?_ ?_
    · refine c_seq ?_
      refine c_region ?_
      refine o_mv st rfl rfl ?_
      refine o_mv st rfl rfl ?_
      refine o_nilc st rfl rfl ?_
      refine o_fad st rfl rfl fld91_1 rfl ?_
      refine o_ldc st (v := v4) 1 rfl rfl rfl ty53 rfl ?_
      refine o_mv st rfl rfl ?_
      refine stw (o_callP (vs := [v4, (.int .i64 now_2)]) Tryd.call79 rfl rfl (by intro w m h; exact (w_impl_notExpired (F := allB [] w) (list_0 := t_0_flows) (now_1 := now_2) allB_ok (m.rd0 2 rfl (reads_snap hv4)) h).mono (fun _ _ k => ret_free (fun r u => (fr_cons (free_own flelGFlow) fr_nil)) k)) ?_); rintro r73 v74
      refine o_nilc st rfl rfl ?_
      refine o_fad st rfl rfl fld91_1 rfl ?_
      refine nx_own 0 rfl ?_; rintro a76 l77 q78 rfl
      refine stw (o_stc (cs' := [v2, (.bool t_0_set_Accept), (.slice a76 l77 q78), (.int .i64 t_0_life)]) 2 rfl rfl rfl ty53 rfl rfl rfl rfl ?_)
      refine c_nil ?_
      refine l_then ?_
      refine c_seq ?_
      refine c_region ?_
      refine o_as st rfl rfl ?_
      refine c_nil ?_
      refine l_then ?_
      refine c_ret ?_
      refine l_ret ?_
      exact l_end1 Tryd.results63 (false, r73) (.slice a76 l77 q78) (rv_t rfl) (fun w m => NewCh.ofB m [2, 0] rfl)
    · refine c_skip ?_
      refine l_then ?_
      refine c_join (σ := (List GFlow)) (fun (xs79 : (List GFlow)) (a : Act) (w : World) => ∃ (v80 : Value), Has 50 [] a ∧ Mem (gB F [cellCh b1 [v2, (.bool t_0_set_Accept), v4, (.int .i64 t_0_life)] 91] w0) (feet [cellCh b1 [v2, (.bool t_0_set_Accept), v4, (.int .i64 t_0_life)] 91]) w0 [ownCh elGFlow 110 v80 xs79, cellCh b1 [v2, (.bool t_0_set_Accept), v80, (.int .i64 t_0_life)] 91, snapCh w0 F] w) ?_ ?_
      · intro k82
        refine c_drawQ mixed 18 rfl [cellCh b7 [(.int .i64 p_1.xFrom), (.int .i64 p_1.xTo), (.int .i64 p_1.xPort), (.int .i64 p_1.xProto)] 40, snapCh w0 F] ?_
        intro Qd hP hQ
        have H584 : ∀ (r83 : (List GFlow)) (a86 : Option Addr) (l87 : Nat) (q88 : Nat) (r85 : Bool), Nx 50 (gB F [cellCh b1 [v2, (.bool t_0_set_Accept), v4, (.int .i64 t_0_life)] 91] w0) (feet [cellCh b1 [v2, (.bool t_0_set_Accept), v4, (.int .i64 t_0_life)] 91]) w0 (wpAnyH Tryd.prog .any (opsAt Tryd.f63 [1, 1, 0]) Qd (Mem (gB F [cellCh b1 [v2, (.bool t_0_set_Accept), v4, (.int .i64 t_0_life)] 91] w0) (feet [cellCh b1 [v2, (.bool t_0_set_Accept), v4, (.int .i64 t_0_life)] 91]) w0 [cellCh b7 [(.int .i64 p_1.xFrom), (.int .i64 p_1.xTo), (.int .i64 p_1.xPort), (.int .i64 p_1.xProto)] 40, snapCh w0 F]) 0 #[true, true, true, true, true, true, true, true, true, true, true, true, true, true, true, true, true, true]) [] [ownCh elGFlow 110 (.slice a86 l87 q88) r83, cellCh b7 [(.int .i64 p_1.xFrom), (.int .i64 p_1.xTo), (.int .i64 p_1.xPort), (.int .i64 p_1.xProto)] 40, cellCh b1 [v2, (.bool t_0_set_Accept), (.slice a86 l87 q88), (.int .i64 t_0_life)] 91, snapCh w0 F] (k82 r83) := by
          intro r83 a86 l87 q88 r85
          refine d_done (by kernel_rfl) ?_
          exact fun a w hE hm hφ => hQ r83 a w hφ ((fun a w hE hm => ⟨(.slice a86 l87 q88), hE.sub trivial, (hm.pick [0, 2, 3] rfl)⟩) a w hE hm)
        have H585 : ∀ (r83 : (List GFlow)) (v84 : Value) (r85 : Bool), Nx 50 (gB F [cellCh b1 [v2, (.bool t_0_set_Accept), v4, (.int .i64 t_0_life)] 91] w0) (feet [cellCh b1 [v2, (.bool t_0_set_Accept), v4, (.int .i64 t_0_life)] 91]) w0 (wpAnyH Tryd.prog .any (opsAt Tryd.f63 [1, 1, 0]) Qd (Mem (gB F [cellCh b1 [v2, (.bool t_0_set_Accept), v4, (.int .i64 t_0_life)] 91] w0) (feet [cellCh b1 [v2, (.bool t_0_set_Accept), v4, (.int .i64 t_0_life)] 91]) w0 [cellCh b7 [(.int .i64 p_1.xFrom), (.int .i64 p_1.xTo), (.int .i64 p_1.xPort), (.int .i64 p_1.xProto)] 40, snapCh w0 F]) 6 #[true, true, true, true, true, true, true, true, true, true, true, true, false, false, false, false, false, false]) [(34, (.pointer (some ⟨b1, 0, none⟩))), (45, (.tuple #[v84, (.bool r85)]))] [ownCh elGFlow 110 v84 r83, cellCh b7 [(.int .i64 p_1.xFrom), (.int .i64 p_1.xTo), (.int .i64 p_1.xPort), (.int .i64 p_1.xProto)] 40, cellCh b1 [v2, (.bool t_0_set_Accept), v4, (.int .i64 t_0_life)] 91, snapCh w0 F] (k82 r83) := by
          intro r83 v84 r85
          refine o_mv (dt 12 (fun w m => m.pick [1, 3] rfl)) rfl rfl ?_
          refine o_ext (dt 13 (fun w m => m.pick [1, 3] rfl)) (vs := [v84, (.bool r85)]) rfl rfl rfl ?_
          refine o_ext (dt 14 (fun w m => m.pick [1, 3] rfl)) (vs := [v84, (.bool r85)]) rfl rfl rfl ?_
          refine o_nilc (dt 15 (fun w m => m.pick [1, 3] rfl)) rfl rfl ?_
          refine o_fad (dt 16 (fun w m => m.pick [1, 3] rfl)) rfl rfl fld91_1 rfl ?_
          refine nx_own 0 rfl ?_; rintro a86 l87 q88 rfl
          refine d_one (i := 17) rfl (by kernel_rfl) (o_stc (cs' := [v2, (.bool t_0_set_Accept), (.slice a86 l87 q88), (.int .i64 t_0_life)]) 2 rfl rfl rfl ty53 rfl rfl rfl rfl ?_)
          refine d_and (fun w m => m.pick [1, 3] rfl) ?_
          refine pk [0, 1, 2, 3] rfl ?_
          refine re (E' := []) trivial ?_
          exact H584 r83 a86 l87 q88 r85
        have H586 : ∀ (_ : Unit), Nx 50 (gB F [cellCh b1 [v2, (.bool t_0_set_Accept), v4, (.int .i64 t_0_life)] 91] w0) (feet [cellCh b1 [v2, (.bool t_0_set_Accept), v4, (.int .i64 t_0_life)] 91]) w0 (wpAnyH Tryd.prog .any (opsAt Tryd.f63 [1, 1, 0]) Qd (Mem (gB F [cellCh b1 [v2, (.bool t_0_set_Accept), v4, (.int .i64 t_0_life)] 91] w0) (feet [cellCh b1 [v2, (.bool t_0_set_Accept), v4, (.int .i64 t_0_life)] 91]) w0 [cellCh b7 [(.int .i64 p_1.xFrom), (.int .i64 p_1.xTo), (.int .i64 p_1.xPort), (.int .i64 p_1.xProto)] 40, snapCh w0 F]) 7 #[true, true, true, true, true, true, true, true, true, true, true, false, false, false, false, false, false, false]) [(34, (.pointer (some ⟨b1, 0, none⟩))), (39, (.agg #[(.int .i64 p_1.xFrom), (.int .i64 p_1.xTo), (.int .i64 p_1.xPort), (.int .i64 p_1.xProto)])), (40, (.int .i64 now_2)), (38, v4), (44, (.int .i64 t_0_life))] [cellCh b7 [(.int .i64 p_1.xFrom), (.int .i64 p_1.xTo), (.int .i64 p_1.xPort), (.int .i64 p_1.xProto)] 40, cellCh b1 [v2, (.bool t_0_set_Accept), v4, (.int .i64 t_0_life)] 91, snapCh w0 F] (L_impl_trackValid t_0_flows p_1 now_2 t_0_life (fun (r83, r85) => k82 r83)) := by
          intro _
          refine d_one (i := 11) rfl (by kernel_rfl) (o_callP (vs := [v4, (.agg #[(.int .i64 p_1.xFrom), (.int .i64 p_1.xTo), (.int .i64 p_1.xPort), (.int .i64 p_1.xProto)]), (.int .i64 now_2), (.int .i64 t_0_life)]) Tryd.call96 rfl rfl (by intro w m h; exact (w_impl_trackValid (F := allB [] w) (list_0 := t_0_flows) (p_1 := p_1) (now_2 := now_2) (life_3 := t_0_life) allB_ok (m.rd0 2 rfl (reads_snap hv4)) (m.rd0 2 rfl (reads_snap hgl0)) h).mono (fun _ _ k => ret_free (fun r u => (fr_cons (free_own flelGFlow) fr_nil)) k)) ?_); rintro ⟨r83, r85⟩ v84
          refine d_and (fun w m => m.pick [1, 3] rfl) ?_
          refine pk [0, 1, 2, 3] rfl ?_
          refine re (E' := [(34, (.pointer (some ⟨b1, 0, none⟩))), (45, (.tuple #[v84, (.bool r85)]))]) ⟨rfl, rfl, trivial⟩ ?_
          exact H585 r83 v84 r85
        have H587 : ∀ (_ : Unit), Nx 50 (gB F [cellCh b1 [v2, (.bool t_0_set_Accept), v4, (.int .i64 t_0_life)] 91] w0) (feet [cellCh b1 [v2, (.bool t_0_set_Accept), v4, (.int .i64 t_0_life)] 91]) w0 (wpAnyH Tryd.prog .any (opsAt Tryd.f63 [1, 1, 0]) Qd (Mem (gB F [cellCh b1 [v2, (.bool t_0_set_Accept), v4, (.int .i64 t_0_life)] 91] w0) (feet [cellCh b1 [v2, (.bool t_0_set_Accept), v4, (.int .i64 t_0_life)] 91]) w0 [cellCh b7 [(.int .i64 p_1.xFrom), (.int .i64 p_1.xTo), (.int .i64 p_1.xPort), (.int .i64 p_1.xProto)] 40, snapCh w0 F]) 8 #[true, true, true, true, true, true, true, true, true, true, false, false, false, false, false, false, false, false]) [(34, (.pointer (some ⟨b1, 0, none⟩))), (39, (.agg #[(.int .i64 p_1.xFrom), (.int .i64 p_1.xTo), (.int .i64 p_1.xPort), (.int .i64 p_1.xProto)])), (40, (.int .i64 now_2)), (43, (.pointer (some ⟨b1, 3, none⟩))), (38, v4)] [cellCh b7 [(.int .i64 p_1.xFrom), (.int .i64 p_1.xTo), (.int .i64 p_1.xPort), (.int .i64 p_1.xProto)] 40, cellCh b1 [v2, (.bool t_0_set_Accept), v4, (.int .i64 t_0_life)] 91, snapCh w0 F] (L_impl_trackValid t_0_flows p_1 now_2 t_0_life (fun (r83, r85) => k82 r83)) := by
          intro _
          refine d_one (i := 10) rfl (by kernel_rfl) (o_ldc m_op (v := (.int .i64 t_0_life)) 1 rfl rfl rfl ty3 rfl ?_)
          refine d_and (fun w m => m.pick [0, 2] rfl) ?_
          refine pk [0, 1, 2] rfl ?_
          refine re (E' := [(34, (.pointer (some ⟨b1, 0, none⟩))), (39, (.agg #[(.int .i64 p_1.xFrom), (.int .i64 p_1.xTo), (.int .i64 p_1.xPort), (.int .i64 p_1.xProto)])), (40, (.int .i64 now_2)), (38, v4), (44, (.int .i64 t_0_life))]) ⟨rfl, rfl, rfl, rfl, rfl, trivial⟩ ?_
          exact H586 ()
        have H588 : ∀ (_ : Unit), Nx 50 (gB F [cellCh b1 [v2, (.bool t_0_set_Accept), v4, (.int .i64 t_0_life)] 91] w0) (feet [cellCh b1 [v2, (.bool t_0_set_Accept), v4, (.int .i64 t_0_life)] 91]) w0 (wpAnyH Tryd.prog .any (opsAt Tryd.f63 [1, 1, 0]) Qd (Mem (gB F [cellCh b1 [v2, (.bool t_0_set_Accept), v4, (.int .i64 t_0_life)] 91] w0) (feet [cellCh b1 [v2, (.bool t_0_set_Accept), v4, (.int .i64 t_0_life)] 91]) w0 [cellCh b7 [(.int .i64 p_1.xFrom), (.int .i64 p_1.xTo), (.int .i64 p_1.xPort), (.int .i64 p_1.xProto)] 40, snapCh w0 F]) 8 #[true, true, true, true, false, true, true, true, true, true, true, false, false, false, false, false, false, false]) [(34, (.pointer (some ⟨b1, 0, none⟩))), (37, (.pointer (some ⟨b1, 2, none⟩))), (39, (.agg #[(.int .i64 p_1.xFrom), (.int .i64 p_1.xTo), (.int .i64 p_1.xPort), (.int .i64 p_1.xProto)])), (40, (.int .i64 now_2)), (44, (.int .i64 t_0_life))] [cellCh b7 [(.int .i64 p_1.xFrom), (.int .i64 p_1.xTo), (.int .i64 p_1.xPort), (.int .i64 p_1.xProto)] 40, cellCh b1 [v2, (.bool t_0_set_Accept), v4, (.int .i64 t_0_life)] 91, snapCh w0 F] (L_impl_trackValid t_0_flows p_1 now_2 t_0_life (fun (r83, r85) => k82 r83)) := by
          intro _
          refine d_one (i := 4) rfl (by kernel_rfl) (o_ldc m_op (v := v4) 1 rfl rfl rfl ty53 rfl ?_)
          refine d_and (fun w m => m.pick [0, 2] rfl) ?_
          refine pk [0, 1, 2] rfl ?_
          refine re (E' := [(34, (.pointer (some ⟨b1, 0, none⟩))), (39, (.agg #[(.int .i64 p_1.xFrom), (.int .i64 p_1.xTo), (.int .i64 p_1.xPort), (.int .i64 p_1.xProto)])), (40, (.int .i64 now_2)), (38, v4), (44, (.int .i64 t_0_life))]) ⟨rfl, rfl, rfl, rfl, rfl, trivial⟩ ?_
          exact H586 ()
        refine o_mv (dt 0 (fun w m => m.pick [0, 2] rfl)) rfl rfl ?_
        refine o_mv (dt 1 (fun w m => m.pick [0, 2] rfl)) rfl rfl ?_
        refine o_nilc (dt 2 (fun w m => m.pick [0, 2] rfl)) rfl rfl ?_
        refine o_fad (dt 3 (fun w m => m.pick [0, 2] rfl)) rfl rfl fld91_1 rfl ?_
        refine o_ldc (dt 5 (fun w m => m.pick [0, 2] rfl)) (v := (.agg #[(.int .i64 p_1.xFrom), (.int .i64 p_1.xTo), (.int .i64 p_1.xPort), (.int .i64 p_1.xProto)])) 0 rfl rfl rfl ty40 rfl ?_
        refine o_mv (dt 6 (fun w m => m.pick [0, 2] rfl)) rfl rfl ?_
        refine o_mv (dt 7 (fun w m => m.pick [0, 2] rfl)) rfl rfl ?_
        refine o_nilc (dt 8 (fun w m => m.pick [0, 2] rfl)) rfl rfl ?_
        refine o_fad (dt 9 (fun w m => m.pick [0, 2] rfl)) rfl rfl fld91_2 rfl ?_
        refine d_two (i := 4) (j := 10) rfl rfl (by kernel_rfl) ?_ ?_
        · intro o ho; cases ho
          refine o_ldc m_op (v := v4) 1 rfl rfl rfl ty53 rfl ?_
          refine d_and (fun w m => m.pick [0, 2] rfl) ?_
          refine pk [0, 1, 2] rfl ?_
          refine re (E' := [(34, (.pointer (some ⟨b1, 0, none⟩))), (39, (.agg #[(.int .i64 p_1.xFrom), (.int .i64 p_1.xTo), (.int .i64 p_1.xPort), (.int .i64 p_1.xProto)])), (40, (.int .i64 now_2)), (43, (.pointer (some ⟨b1, 3, none⟩))), (38, v4)]) ⟨rfl, rfl, rfl, rfl, rfl, trivial⟩ ?_
          exact H587 ()
        · intro o ho; cases ho
          refine o_ldc m_op (v := (.int .i64 t_0_life)) 1 rfl rfl rfl ty3 rfl ?_
          refine d_and (fun w m => m.pick [0, 2] rfl) ?_
          refine pk [0, 1, 2] rfl ?_
          refine re (E' := [(34, (.pointer (some ⟨b1, 0, none⟩))), (37, (.pointer (some ⟨b1, 2, none⟩))), (39, (.agg #[(.int .i64 p_1.xFrom), (.int .i64 p_1.xTo), (.int .i64 p_1.xPort), (.int .i64 p_1.xProto)])), (40, (.int .i64 now_2)), (44, (.int .i64 t_0_life))]) ⟨rfl, rfl, rfl, rfl, rfl, trivial⟩ ?_
          exact H588 ()
      · rintro xs79 a w ⟨v80, hE, hm⟩ h
        refine nx_of hE hm h ?_
        clear hE hm h
        refine c_seq ?_
        refine c_region ?_
        refine o_as st rfl rfl ?_
        refine c_nil ?_
        refine l_then ?_
        refine c_ret ?_
        exact l_end1 Tryd.results63 (true, xs79) v80 (rv_t rfl) (fun w m => NewCh.ofB m [1, 0] rfl)

set_option maxRecDepth 100000 in
set_option maxHeartbeats 8000000 in
theorem w_laws_eqTest {w0 : World} {F : Nat → Prop} {a_0 : GTest} {b_1 : GTest} {κ : Bool → Prop} (hF : ∀ b, F b → b < w0.heap.size ∧ ¬ feet [] b) (h : L_laws_eqTest a_0 b_1 κ) :
    Calls Tryd.prog 127 #[(.agg #[(.int .i64 a_0.xField), (.int .i64 a_0.xLo), (.int .i64 a_0.xHi), (.bool a_0.xNot)]), (.agg #[(.int .i64 b_1.xField), (.int .i64 b_1.xLo), (.int .i64 b_1.xHi), (.bool b_1.xNot)])] w0 (Ret [] F w0 κ (fun (r : Bool) (u : Unit) => (.bool r)) (fun (r : Bool) (u : Unit) => [])) := by
  refine enter0 (args := [(.agg #[(.int .i64 a_0.xField), (.int .i64 a_0.xLo), (.int .i64 a_0.xHi), (.bool a_0.xNot)]), (.agg #[(.int .i64 b_1.xField), (.int .i64 b_1.xLo), (.int .i64 b_1.xHi), (.bool b_1.xNot)])]) [] hF (Given.nil _ _) Tryd.func127 rfl Tryd.ntmps127 rfl h ?_
  clear h hF
  refine c_seq ?_
  refine c_region ?_
  refine stw (o_box rfl rfl [(.int .i64 a_0.xField), (.int .i64 a_0.xLo), (.int .i64 a_0.xHi), (.bool a_0.xNot)] rfl ?_); intro b1
  refine stw (o_box rfl rfl [(.int .i64 b_1.xField), (.int .i64 b_1.xLo), (.int .i64 b_1.xHi), (.bool b_1.xNot)] rfl ?_); intro b3
  refine o_as st rfl rfl ?_
  refine c_nil ?_
  refine l_then ?_
  refine c_seq ?_
  refine c_seq ?_
  refine c_region ?_
  refine o_fad st rfl rfl fld173_0 rfl ?_
  refine o_ldc st (v := (.int .i64 a_0.xField)) 1 rfl rfl rfl ty3 rfl ?_
  refine o_fad st rfl rfl fld173_0 rfl ?_
  refine o_ldc st (v := (.int .i64 b_1.xField)) 0 rfl rfl rfl ty3 rfl ?_
  refine o_neq st und3 rfl rfl rfl ?_
  refine c_nil ?_
  refine l_then ?_
  refine c_cond rfl ?_ ?_
  · refine c_seq ?_
    refine c_region ?_
    refine o_as st rfl rfl ?_
    refine c_nil ?_
    refine l_then ?_
    refine c_ret ?_
    refine l_ret ?_
    exact l_end1 Tryd.results127 false () (rv_t rfl) (fun _ _ => NewCh.nil _ _ _ _)
  · refine c_skip ?_
    refine l_then ?_
    refine c_seq ?_
    refine c_seq ?_
    refine c_region ?_
    refine o_fad st rfl rfl fld173_1 rfl ?_
    refine o_ldc st (v := (.int .i64 a_0.xLo)) 1 rfl rfl rfl ty3 rfl ?_
    refine o_fad st rfl rfl fld173_1 rfl ?_
    refine o_ldc st (v := (.int .i64 b_1.xLo)) 0 rfl rfl rfl ty3 rfl ?_
    refine o_neq st und3 rfl rfl rfl ?_
    refine c_nil ?_
    refine l_then ?_
    refine c_cond rfl ?_ ?_
    · refine c_seq ?_
      refine c_region ?_
      refine o_as st rfl rfl ?_
      refine c_nil ?_
      refine l_then ?_
      refine c_ret ?_
      refine l_ret ?_
      exact l_end1 Tryd.results127 false () (rv_t rfl) (fun _ _ => NewCh.nil _ _ _ _)
    · refine c_skip ?_
      refine l_then ?_
      refine c_seq ?_
      refine c_seq ?_
      refine c_region ?_
      refine o_fad st rfl rfl fld173_2 rfl ?_
      refine o_ldc st (v := (.int .i64 a_0.xHi)) 1 rfl rfl rfl ty3 rfl ?_
      refine o_fad st rfl rfl fld173_2 rfl ?_
      refine o_ldc st (v := (.int .i64 b_1.xHi)) 0 rfl rfl rfl ty3 rfl ?_
      refine o_neq st und3 rfl rfl rfl ?_
      refine c_nil ?_
      refine l_then ?_
      refine c_cond rfl ?_ ?_
      · refine c_seq ?_
        refine c_region ?_
        refine o_as st rfl rfl ?_
        refine c_nil ?_
        refine l_then ?_
        refine c_ret ?_
        refine l_ret ?_
        exact l_end1 Tryd.results127 false () (rv_t rfl) (fun _ _ => NewCh.nil _ _ _ _)
      · refine c_skip ?_
        refine l_then ?_
        refine c_seq ?_
        refine c_seq ?_
        refine c_region ?_
        refine o_fad st rfl rfl fld173_3 rfl ?_
        refine o_ldc st (v := (.bool a_0.xNot)) 1 rfl rfl rfl ty4 rfl ?_
        refine o_fad st rfl rfl fld173_3 rfl ?_
        refine o_ldc st (v := (.bool b_1.xNot)) 0 rfl rfl rfl ty4 rfl ?_
        refine o_neqB st und4 rfl rfl rfl ?_
        refine c_nil ?_
        refine l_then ?_
        refine c_cond rfl ?_ ?_
        · refine c_seq ?_
          refine c_region ?_
          refine o_as st rfl rfl ?_
          refine c_nil ?_
          refine l_then ?_
          refine c_ret ?_
          refine l_ret ?_
          exact l_end1 Tryd.results127 false () (rv_t rfl) (fun _ _ => NewCh.nil _ _ _ _)
        · refine c_skip ?_
          refine l_then ?_
          refine c_seq ?_
          refine c_region ?_
          refine o_as st rfl rfl ?_
          refine c_nil ?_
          refine l_then ?_
          refine c_ret ?_
          exact l_end1 Tryd.results127 true () (rv_t rfl) (fun _ _ => NewCh.nil _ _ _ _)

set_option maxRecDepth 100000 in
set_option maxHeartbeats 8000000 in
theorem w_laws_eqTestS {w0 : World} {F : Nat → Prop} {v1 : Value} {v3 : Value} {a_0 : (List GTest)} {b_1 : (List GTest)} {κ : Bool → Prop} (hF : ∀ b, F b → b < w0.heap.size ∧ ¬ feet [] b) (hv1 : Sl elGTest F w0 v1 a_0) (hv3 : Sl elGTest F w0 v3 b_1) (h : L_laws_eqTestS a_0 b_1 κ) :
    Calls Tryd.prog 122 #[v1, v3] w0 (Ret [] F w0 κ (fun (r : Bool) (u : Unit) => (.bool r)) (fun (r : Bool) (u : Unit) => [])) := by
  refine enterS (args := [v1, v3]) [] hF (Given.nil _ _) Tryd.func122 rfl Tryd.ntmps122 rfl h ?_
  clear h hF
  refine c_seq ?_
  refine c_region ?_
  refine o_as st rfl rfl ?_
  refine c_nil ?_
  refine l_then ?_
  refine c_seq ?_
  refine c_seq ?_
  refine c_region ?_
  refine o_mv st rfl rfl ?_
  refine o_len st el102 0 rfl (reads_snap hv1) rfl rfl ?_
  refine o_mv st rfl rfl ?_
  refine o_len st el102 0 rfl (reads_snap hv3) rfl rfl ?_
  refine o_neq st und3 rfl rfl rfl ?_
  refine c_nil ?_
  refine l_then ?_
  refine c_cond rfl ?_ ?_
  · refine c_seq ?_
    refine c_region ?_
    refine o_as st rfl rfl ?_
    refine c_nil ?_
    refine l_then ?_
    refine c_ret ?_
    refine l_ret ?_
    exact l_end1 Tryd.results122 false () (rv_t rfl) (fun _ _ => NewCh.nil _ _ _ _)
  · refine c_skip ?_
    refine l_then ?_
    refine c_seq ?_
    refine c_seq ?_
    refine c_region ?_
    refine o_as st rfl rfl ?_
    refine c_nil ?_
    refine l_then ?_
    refine c_block ?_
    refine c_loop (σ := Int) (fun (t5 : Int) (a : Act) (w : World) => Has 27 [(0, v1), (1, v3), (5, (.int .i64 t5))] a ∧ Mem (gB F [] w0) (feet []) w0 [snapCh w0 F] w) (fun a w hE hm => ⟨hE.sub ⟨rfl, rfl, rfl, trivial⟩, (hm.pick [0] rfl)⟩) ?_
    rintro nx6 t5 a w ⟨hE, hm⟩ h
    refine nx_of hE hm h ?_
    clear hE hm h
    refine c_seq ?_
    refine c_seq ?_
    refine c_region ?_
    refine o_mv st rfl rfl ?_
    refine o_mv st rfl rfl ?_
    refine o_len st el102 0 rfl (reads_snap hv1) rfl rfl ?_
    refine o_lss st rfl rfl rfl ?_
    refine c_nil ?_
    refine l_then ?_
    refine c_cond rfl ?_ ?_
    · refine c_skip ?_
      refine l_then ?_
      refine c_seq ?_
      refine c_block ?_
      refine c_seq ?_
      refine c_draw mixed 10 rfl [snapCh w0 F] ?_
      refine o_mv (dt 0 (fun _ m => m)) rfl rfl ?_
      refine o_mv (dt 1 (fun _ m => m)) rfl rfl ?_
      refine o_idx (dt 2 (fun _ m => m)) 0 rfl (reads_snap hv1) rfl rfl rfl el102 ?_; intro e7 h8
      refine o_lds (dt 3 (fun _ m => m)) (enc := encGTest) (u := (.agg #[(.int .i64 e7.xField), (.int .i64 e7.xLo), (.int .i64 e7.xHi), (.bool e7.xNot)])) 0 rfl (reads_snap hv1) flelGTest rfl h8 rfl rfl ty173 rfl ?_
      refine o_mv (dt 4 (fun _ m => m)) rfl rfl ?_
      refine o_mv (dt 5 (fun _ m => m)) rfl rfl ?_
      refine o_idx (dt 6 (fun _ m => m)) 0 rfl (reads_snap hv3) rfl rfl rfl el102 ?_; intro e9 h10
      refine o_lds (dt 7 (fun _ m => m)) (enc := encGTest) (u := (.agg #[(.int .i64 e9.xField), (.int .i64 e9.xLo), (.int .i64 e9.xHi), (.bool e9.xNot)])) 0 rfl (reads_snap hv3) flelGTest rfl h10 rfl rfl ty173 rfl ?_
      refine d_one (i := 8) rfl (by kernel_rfl) (o_callP (vs := [(.agg #[(.int .i64 e7.xField), (.int .i64 e7.xLo), (.int .i64 e7.xHi), (.bool e7.xNot)]), (.agg #[(.int .i64 e9.xField), (.int .i64 e9.xLo), (.int .i64 e9.xHi), (.bool e9.xNot)])]) Tryd.call127 rfl rfl (by intro w m h; exact (w_laws_eqTest (F := allB [] w) (a_0 := e7) (b_1 := e9) allB_ok h).mono (fun _ _ k => ret_free (fun r u => fr_nil) k)) ?_); rintro r11 _
      refine d_and (fun _ m => m) ?_
      refine o_not (dt 9 (fun _ m => m)) rfl rfl ?_
      refine d_done (by kernel_rfl) ?_
      refine l_then ?_
      refine c_cond rfl ?_ ?_
      · refine c_seq ?_
        refine c_region ?_
        refine o_as st rfl rfl ?_
        refine c_nil ?_
        refine l_then ?_
        refine c_ret ?_
        refine b_ret ?_
        refine l_ret ?_
        refine l_ret ?_
        refine b_ret ?_
        refine l_ret ?_
        exact l_end1 Tryd.results122 false () (rv_t rfl) (fun _ _ => NewCh.nil _ _ _ _)
      · refine c_skip ?_
        refine b_norm ?_
        refine l_then ?_
        refine c_region ?_
        refine o_mv st rfl rfl ?_
        refine o_add st rfl rfl rfl ?_; intro t12
        refine o_as st rfl rfl ?_
        refine c_nil ?_
        exact l_join t12 (fun a w hE hm => ⟨hE.sub ⟨rfl, rfl, rfl, trivial⟩, (hm.pick [0] rfl)⟩)
    · refine c_exit ?_
      refine l_exit ?_
      refine l_exit ?_
      refine b_exit ?_
      refine l_then ?_
      refine c_seq ?_
      refine c_region ?_
      refine o_as st rfl rfl ?_
      refine c_nil ?_
      refine l_then ?_
      refine c_ret ?_
      exact l_end1 Tryd.results122 true () (rv_t rfl) (fun _ _ => NewCh.nil _ _ _ _)

set_option maxRecDepth 100000 in
set_option maxHeartbeats 8000000 in
theorem w_laws_eqRule {w0 : World} {F : Nat → Prop} {v1 : Value} {v3 : Value} {a_0 : GRule} {b_1 : GRule} {κ : Bool → Prop} (hF : ∀ b, F b → b < w0.heap.size ∧ ¬ feet [] b) (hv1 : Sl elGTest F w0 v1 a_0.xTests) (hv3 : Sl elGTest F w0 v3 b_1.xTests) (h : L_laws_eqRule a_0 b_1 κ) :
    Calls Tryd.prog 111 #[(.agg #[v1, (.int .i64 a_0.xAction), (.int .i64 a_0.xChain)]), (.agg #[v3, (.int .i64 b_1.xAction), (.int .i64 b_1.xChain)])] w0 (Ret [] F w0 κ (fun (r : Bool) (u : Unit) => (.bool r)) (fun (r : Bool) (u : Unit) => [])) := by
  refine enterS (args := [(.agg #[v1, (.int .i64 a_0.xAction), (.int .i64 a_0.xChain)]), (.agg #[v3, (.int .i64 b_1.xAction), (.int .i64 b_1.xChain)])]) [] hF (Given.nil _ _) Tryd.func111 rfl Tryd.ntmps111 rfl h ?_
  clear h hF
  refine c_seq ?_
  refine c_region ?_
  obtain ⟨a5, l6, q7, hs_⟩ := sl_val hv1; subst hs_
  refine stw (o_box rfl rfl [(.slice a5 l6 q7), (.int .i64 a_0.xAction), (.int .i64 a_0.xChain)] rfl ?_); intro b8
  obtain ⟨a10, l11, q12, hs_⟩ := sl_val hv3; subst hs_
  refine stw (o_box rfl rfl [(.slice a10 l11 q12), (.int .i64 b_1.xAction), (.int .i64 b_1.xChain)] rfl ?_); intro b13
  refine o_as st rfl rfl ?_
  refine c_nil ?_
  refine l_then ?_
  refine c_seq ?_
  refine c_seq ?_
  refine c_region ?_
  refine o_fad st rfl rfl fld104_0 rfl ?_
  refine o_ldc st (v := (.slice a5 l6 q7)) 1 rfl rfl rfl ty102 rfl ?_
  refine o_fad st rfl rfl fld104_0 rfl ?_
  refine o_ldc st (v := (.slice a10 l11 q12)) 0 rfl rfl rfl ty102 rfl ?_
  refine stw (o_callP (vs := [(.slice a5 l6 q7), (.slice a10 l11 q12)]) Tryd.call122 rfl rfl (by intro w m h; exact (w_laws_eqTestS (F := allB [] w) (a_0 := a_0.xTests) (b_1 := b_1.xTests) allB_ok (m.rd0 2 rfl (reads_snap hv1)) (m.rd0 2 rfl (reads_snap hv3)) h).mono (fun _ _ k => ret_free (fun r u => fr_nil) k)) ?_); rintro r15 _
  refine o_not st rfl rfl ?_
  refine c_nil ?_
  refine l_then ?_
  refine c_cond rfl ?_ ?_
  · refine c_seq ?_
    refine c_region ?_
    refine o_as st rfl rfl ?_
    refine c_nil ?_
    refine l_then ?_
    refine c_ret ?_
    refine l_ret ?_
    exact l_end1 Tryd.results111 false () (rv_t rfl) (fun _ _ => NewCh.nil _ _ _ _)
  · refine c_skip ?_
    refine l_then ?_
    refine c_seq ?_
    refine c_seq ?_
    refine c_region ?_
    refine o_fad st rfl rfl fld104_1 rfl ?_
    refine o_ldc st (v := (.int .i64 a_0.xAction)) 1 rfl rfl rfl ty3 rfl ?_
    refine o_fad st rfl rfl fld104_1 rfl ?_
    refine o_ldc st (v := (.int .i64 b_1.xAction)) 0 rfl rfl rfl ty3 rfl ?_
    refine o_neq st und3 rfl rfl rfl ?_
    refine c_nil ?_
    refine l_then ?_
    refine c_cond rfl ?_ ?_
    · refine c_seq ?_
      refine c_region ?_
      refine o_as st rfl rfl ?_
      refine c_nil ?_
      refine l_then ?_
      refine c_ret ?_
      refine l_ret ?_
      exact l_end1 Tryd.results111 false () (rv_t rfl) (fun _ _ => NewCh.nil _ _ _ _)
    · refine c_skip ?_
      refine l_then ?_
      refine c_seq ?_
      refine c_seq ?_
      refine c_region ?_
      refine o_fad st rfl rfl fld104_2 rfl ?_
      refine o_ldc st (v := (.int .i64 a_0.xChain)) 1 rfl rfl rfl ty3 rfl ?_
      refine o_fad st rfl rfl fld104_2 rfl ?_
      refine o_ldc st (v := (.int .i64 b_1.xChain)) 0 rfl rfl rfl ty3 rfl ?_
      refine o_neq st und3 rfl rfl rfl ?_
      refine c_nil ?_
      refine l_then ?_
      refine c_cond rfl ?_ ?_
      · refine c_seq ?_
        refine c_region ?_
        refine o_as st rfl rfl ?_
        refine c_nil ?_
        refine l_then ?_
        refine c_ret ?_
        refine l_ret ?_
        exact l_end1 Tryd.results111 false () (rv_t rfl) (fun _ _ => NewCh.nil _ _ _ _)
      · refine c_skip ?_
        refine l_then ?_
        refine c_seq ?_
        refine c_region ?_
        refine o_as st rfl rfl ?_
        refine c_nil ?_
        refine l_then ?_
        refine c_ret ?_
        exact l_end1 Tryd.results111 true () (rv_t rfl) (fun _ _ => NewCh.nil _ _ _ _)

set_option maxRecDepth 100000 in
set_option maxHeartbeats 8000000 in
theorem w_laws_eqRuleS {w0 : World} {F : Nat → Prop} {v1 : Value} {v3 : Value} {a_0 : (List GRule)} {b_1 : (List GRule)} {κ : Bool → Prop} (hF : ∀ b, F b → b < w0.heap.size ∧ ¬ feet [] b) (hv1 : Sl elGRule F w0 v1 a_0) (hv3 : Sl elGRule F w0 v3 b_1) (h : L_laws_eqRuleS a_0 b_1 κ) :
    Calls Tryd.prog 97 #[v1, v3] w0 (Ret [] F w0 κ (fun (r : Bool) (u : Unit) => (.bool r)) (fun (r : Bool) (u : Unit) => [])) := by
  refine enterS (args := [v1, v3]) [] hF (Given.nil _ _) Tryd.func97 rfl Tryd.ntmps97 rfl h ?_
  clear h hF
  refine c_seq ?_
  refine c_region ?_
  refine o_as st rfl rfl ?_
  refine c_nil ?_
  refine l_then ?_
  refine c_seq ?_
  refine c_seq ?_
  refine c_region ?_
  refine o_mv st rfl rfl ?_
  refine o_len st el101 0 rfl (reads_snap hv1) rfl rfl ?_
  refine o_mv st rfl rfl ?_
  refine o_len st el101 0 rfl (reads_snap hv3) rfl rfl ?_
  refine o_neq st und3 rfl rfl rfl ?_
  refine c_nil ?_
  refine l_then ?_
  refine c_cond rfl ?_ ?_
  · refine c_seq ?_
    refine c_region ?_
    refine o_as st rfl rfl ?_
    refine c_nil ?_
    refine l_then ?_
    refine c_ret ?_
    refine l_ret ?_
    exact l_end1 Tryd.results97 false () (rv_t rfl) (fun _ _ => NewCh.nil _ _ _ _)
  · refine c_skip ?_
    refine l_then ?_
    refine c_seq ?_
    refine c_seq ?_
    refine c_region ?_
    refine o_as st rfl rfl ?_
    refine c_nil ?_
    refine l_then ?_
    refine c_block ?_
    refine c_loop (σ := Int) (fun (t5 : Int) (a : Act) (w : World) => Has 27 [(0, v1), (1, v3), (5, (.int .i64 t5))] a ∧ Mem (gB F [] w0) (feet []) w0 [snapCh w0 F] w) (fun a w hE hm => ⟨hE.sub ⟨rfl, rfl, rfl, trivial⟩, (hm.pick [0] rfl)⟩) ?_
    rintro nx6 t5 a w ⟨hE, hm⟩ h
    refine nx_of hE hm h ?_
    clear hE hm h
    refine c_seq ?_
    refine c_seq ?_
    refine c_region ?_
    refine o_mv st rfl rfl ?_
    refine o_mv st rfl rfl ?_
    refine o_len st el101 0 rfl (reads_snap hv1) rfl rfl ?_
    refine o_lss st rfl rfl rfl ?_
    refine c_nil ?_
    refine l_then ?_
    refine c_cond rfl ?_ ?_
    · refine c_skip ?_
      refine l_then ?_
      refine c_seq ?_
      refine c_block ?_
      refine c_seq ?_
      refine c_draw mixed 10 rfl [snapCh w0 F] ?_
      refine o_mv (dt 0 (fun _ m => m)) rfl rfl ?_
      refine o_mv (dt 1 (fun _ m => m)) rfl rfl ?_
      refine o_idx (dt 2 (fun _ m => m)) 0 rfl (reads_snap hv1) rfl rfl rfl el101 ?_; intro e7 h8
      obtain ⟨_, ⟨v10, rfl, sl11⟩, rw9⟩ := sl_open hv1 h8
      refine o_ldR (dt 3 (fun _ m => m)) (u := (.agg #[v10, (.int .i64 e7.xAction), (.int .i64 e7.xChain)])) 0 rfl rw9 rfl rfl ty104 rfl ?_
      refine o_mv (dt 4 (fun _ m => m)) rfl rfl ?_
      refine o_mv (dt 5 (fun _ m => m)) rfl rfl ?_
      refine o_idx (dt 6 (fun _ m => m)) 0 rfl (reads_snap hv3) rfl rfl rfl el101 ?_; intro e13 h14
      obtain ⟨_, ⟨v16, rfl, sl17⟩, rw15⟩ := sl_open hv3 h14
      refine o_ldR (dt 7 (fun _ m => m)) (u := (.agg #[v16, (.int .i64 e13.xAction), (.int .i64 e13.xChain)])) 0 rfl rw15 rfl rfl ty104 rfl ?_
      refine d_one (i := 8) rfl (by kernel_rfl) (o_callP (vs := [(.agg #[v10, (.int .i64 e7.xAction), (.int .i64 e7.xChain)]), (.agg #[v16, (.int .i64 e13.xAction), (.int .i64 e13.xChain)])]) Tryd.call111 rfl rfl (by intro w m h; exact (w_laws_eqRule (F := allB [] w) (a_0 := e7) (b_1 := e13) allB_ok (m.rd0 0 rfl (reads_snap sl11)) (m.rd0 0 rfl (reads_snap sl17)) h).mono (fun _ _ k => ret_free (fun r u => fr_nil) k)) ?_); rintro r19 _
      refine d_and (fun _ m => m) ?_
      refine o_not (dt 9 (fun _ m => m)) rfl rfl ?_
      refine d_done (by kernel_rfl) ?_
      refine l_then ?_
      refine c_cond rfl ?_ ?_
      · refine c_seq ?_
        refine c_region ?_
        refine o_as st rfl rfl ?_
        refine c_nil ?_
        refine l_then ?_
        refine c_ret ?_
        refine b_ret ?_
        refine l_ret ?_
        refine l_ret ?_
        refine b_ret ?_
        refine l_ret ?_
        exact l_end1 Tryd.results97 false () (rv_t rfl) (fun _ _ => NewCh.nil _ _ _ _)
      · refine c_skip ?_
        refine b_norm ?_
        refine l_then ?_
        refine c_region ?_
        refine o_mv st rfl rfl ?_
        refine o_add st rfl rfl rfl ?_; intro t20
        refine o_as st rfl rfl ?_
        refine c_nil ?_
        exact l_join t20 (fun a w hE hm => ⟨hE.sub ⟨rfl, rfl, rfl, trivial⟩, (hm.pick [0] rfl)⟩)
    · refine c_exit ?_
      refine l_exit ?_
      refine l_exit ?_
      refine b_exit ?_
      refine l_then ?_
      refine c_seq ?_
      refine c_region ?_
      refine o_as st rfl rfl ?_
      refine c_nil ?_
      refine l_then ?_
      refine c_ret ?_
      exact l_end1 Tryd.results97 true () (rv_t rfl) (fun _ _ => NewCh.nil _ _ _ _)

set_option maxRecDepth 100000 in
set_option maxHeartbeats 8000000 in
theorem w_laws_eqRuleSS {w0 : World} {F : Nat → Prop} {v1 : Value} {v3 : Value} {a_0 : (List (List GRule))} {b_1 : (List (List GRule))} {κ : Bool → Prop} (hF : ∀ b, F b → b < w0.heap.size ∧ ¬ feet [] b) (hv1 : Sl (elSl elGRule) F w0 v1 a_0) (hv3 : Sl (elSl elGRule) F w0 v3 b_1) (h : L_laws_eqRuleSS a_0 b_1 κ) :
    Calls Tryd.prog 65 #[v1, v3] w0 (Ret [] F w0 κ (fun (r : Bool) (u : Unit) => (.bool r)) (fun (r : Bool) (u : Unit) => [])) := by
  refine enterS (args := [v1, v3]) [] hF (Given.nil _ _) Tryd.func65 rfl Tryd.ntmps65 rfl h ?_
  clear h hF
  refine c_seq ?_
  refine c_region ?_
  refine o_as st rfl rfl ?_
  refine c_nil ?_
  refine l_then ?_
  refine c_seq ?_
  refine c_seq ?_
  refine c_region ?_
  refine o_mv st rfl rfl ?_
  refine o_len st el23 0 rfl (reads_snap hv1) rfl rfl ?_
  refine o_mv st rfl rfl ?_
  refine o_len st el23 0 rfl (reads_snap hv3) rfl rfl ?_
  refine o_neq st und3 rfl rfl rfl ?_
  refine c_nil ?_
  refine l_then ?_
  refine c_cond rfl ?_ ?_
  · refine c_seq ?_
    refine c_region ?_
    refine o_as st rfl rfl ?_
    refine c_nil ?_
    refine l_then ?_
    refine c_ret ?_
    refine l_ret ?_
    exact l_end1 Tryd.results65 false () (rv_t rfl) (fun _ _ => NewCh.nil _ _ _ _)
  · refine c_skip ?_
    refine l_then ?_
    refine c_seq ?_
    refine c_seq ?_
    refine c_region ?_
    refine o_as st rfl rfl ?_
    refine c_nil ?_
    refine l_then ?_
    refine c_block ?_
    refine c_loop (σ := Int) (fun (t5 : Int) (a : Act) (w : World) => Has 27 [(0, v1), (1, v3), (5, (.int .i64 t5))] a ∧ Mem (gB F [] w0) (feet []) w0 [snapCh w0 F] w) (fun a w hE hm => ⟨hE.sub ⟨rfl, rfl, rfl, trivial⟩, (hm.pick [0] rfl)⟩) ?_
    rintro nx6 t5 a w ⟨hE, hm⟩ h
    refine nx_of hE hm h ?_
    clear hE hm h
    refine c_seq ?_
    refine c_seq ?_
    refine c_region ?_
    refine o_mv st rfl rfl ?_
    refine o_mv st rfl rfl ?_
    refine o_len st el23 0 rfl (reads_snap hv1) rfl rfl ?_
    refine o_lss st rfl rfl rfl ?_
    refine c_nil ?_
    refine l_then ?_
    refine c_cond rfl ?_ ?_
    · refine c_skip ?_
      refine l_then ?_
      refine c_seq ?_
      refine c_block ?_
      refine c_seq ?_
      refine c_draw mixed 10 rfl [snapCh w0 F] ?_
      refine o_mv (dt 0 (fun _ m => m)) rfl rfl ?_
      refine o_mv (dt 1 (fun _ m => m)) rfl rfl ?_
      refine o_idx (dt 2 (fun _ m => m)) 0 rfl (reads_snap hv1) rfl rfl rfl el23 ?_; intro e7 h8
      obtain ⟨_, ⟨v10, rfl, sl11⟩, rw9⟩ := sl_open hv1 h8
      refine o_ldR (dt 3 (fun _ m => m)) (u := v10) 0 rfl rw9 rfl rfl ty101 rfl ?_
      refine o_mv (dt 4 (fun _ m => m)) rfl rfl ?_
      refine o_mv (dt 5 (fun _ m => m)) rfl rfl ?_
      refine o_idx (dt 6 (fun _ m => m)) 0 rfl (reads_snap hv3) rfl rfl rfl el23 ?_; intro e13 h14
      obtain ⟨_, ⟨v16, rfl, sl17⟩, rw15⟩ := sl_open hv3 h14
      refine o_ldR (dt 7 (fun _ m => m)) (u := v16) 0 rfl rw15 rfl rfl ty101 rfl ?_
      refine d_one (i := 8) rfl (by kernel_rfl) (o_callP (vs := [v10, v16]) Tryd.call97 rfl rfl (by intro w m h; exact (w_laws_eqRuleS (F := allB [] w) (a_0 := e7) (b_1 := e13) allB_ok (m.rd0 0 rfl (reads_snap sl11)) (m.rd0 0 rfl (reads_snap sl17)) h).mono (fun _ _ k => ret_free (fun r u => fr_nil) k)) ?_); rintro r19 _
      refine d_and (fun _ m => m) ?_
      refine o_not (dt 9 (fun _ m => m)) rfl rfl ?_
      refine d_done (by kernel_rfl) ?_
      refine l_then ?_
      refine c_cond rfl ?_ ?_
      · refine c_seq ?_
        refine c_region ?_
        refine o_as st rfl rfl ?_
        refine c_nil ?_
        refine l_then ?_
        refine c_ret ?_
        refine b_ret ?_
        refine l_ret ?_
        refine l_ret ?_
        refine b_ret ?_
        refine l_ret ?_
        exact l_end1 Tryd.results65 false () (rv_t rfl) (fun _ _ => NewCh.nil _ _ _ _)
      · refine c_skip ?_
        refine b_norm ?_
        refine l_then ?_
        refine c_region ?_
        refine o_mv st rfl rfl ?_
        refine o_add st rfl rfl rfl ?_; intro t20
        refine o_as st rfl rfl ?_
        refine c_nil ?_
        exact l_join t20 (fun a w hE hm => ⟨hE.sub ⟨rfl, rfl, rfl, trivial⟩, (hm.pick [0] rfl)⟩)
    · refine c_exit ?_
      refine l_exit ?_
      refine l_exit ?_
      refine b_exit ?_
      refine l_then ?_
      refine c_seq ?_
      refine c_region ?_
      refine o_as st rfl rfl ?_
      refine c_nil ?_
      refine l_then ?_
      refine c_ret ?_
      exact l_end1 Tryd.results65 true () (rv_t rfl) (fun _ _ => NewCh.nil _ _ _ _)

set_option maxRecDepth 100000 in
set_option maxHeartbeats 8000000 in
theorem w_laws_eqRuleset {w0 : World} {F : Nat → Prop} {v1 : Value} {v3 : Value} {a_0 : GRuleset} {b_1 : GRuleset} {κ : Bool → Prop} (hF : ∀ b, F b → b < w0.heap.size ∧ ¬ feet [] b) (hv1 : Sl (elSl elGRule) F w0 v1 a_0.xChains) (hv3 : Sl (elSl elGRule) F w0 v3 b_1.xChains) (h : L_laws_eqRuleset a_0 b_1 κ) :
    Calls Tryd.prog 20 #[(.agg #[v1, (.bool a_0.xAccept)]), (.agg #[v3, (.bool b_1.xAccept)])] w0 (Ret [] F w0 κ (fun (r : Bool) (u : Unit) => (.bool r)) (fun (r : Bool) (u : Unit) => [])) := by
  refine enterS (args := [(.agg #[v1, (.bool a_0.xAccept)]), (.agg #[v3, (.bool b_1.xAccept)])]) [] hF (Given.nil _ _) Tryd.func20 rfl Tryd.ntmps20 rfl h ?_
  clear h hF
  refine c_seq ?_
  refine c_region ?_
  obtain ⟨a5, l6, q7, hs_⟩ := sl_val hv1; subst hs_
  refine stw (o_box rfl rfl [(.slice a5 l6 q7), (.bool a_0.xAccept)] rfl ?_); intro b8
  obtain ⟨a10, l11, q12, hs_⟩ := sl_val hv3; subst hs_
  refine stw (o_box rfl rfl [(.slice a10 l11 q12), (.bool b_1.xAccept)] rfl ?_); intro b13
  refine o_as st rfl rfl ?_
  refine c_nil ?_
  refine l_then ?_
  refine c_seq ?_
  refine c_seq ?_
  refine c_region ?_
  refine o_fad st rfl rfl fld25_0 rfl ?_
  refine o_ldc st (v := (.slice a5 l6 q7)) 1 rfl rfl rfl ty23 rfl ?_
  refine o_fad st rfl rfl fld25_0 rfl ?_
  refine o_ldc st (v := (.slice a10 l11 q12)) 0 rfl rfl rfl ty23 rfl ?_
  refine stw (o_callP (vs := [(.slice a5 l6 q7), (.slice a10 l11 q12)]) Tryd.call65 rfl rfl (by intro w m h; exact (w_laws_eqRuleSS (F := allB [] w) (a_0 := a_0.xChains) (b_1 := b_1.xChains) allB_ok (m.rd0 2 rfl (reads_snap hv1)) (m.rd0 2 rfl (reads_snap hv3)) h).mono (fun _ _ k => ret_free (fun r u => fr_nil) k)) ?_); rintro r15 _
  refine o_not st rfl rfl ?_
  refine c_nil ?_
  refine l_then ?_
  refine c_cond rfl ?_ ?_
  · refine c_seq ?_
    refine c_region ?_
    refine o_as st rfl rfl ?_
    refine c_nil ?_
    refine l_then ?_
    refine c_ret ?_
    refine l_ret ?_
    exact l_end1 Tryd.results20 false () (rv_t rfl) (fun _ _ => NewCh.nil _ _ _ _)
  · refine c_skip ?_
    refine l_then ?_
    refine c_seq ?_
    refine c_seq ?_
    refine c_region ?_
    refine o_fad st rfl rfl fld25_1 rfl ?_
    refine o_ldc st (v := (.bool a_0.xAccept)) 1 rfl rfl rfl ty4 rfl ?_
    refine o_fad st rfl rfl fld25_1 rfl ?_
    refine o_ldc st (v := (.bool b_1.xAccept)) 0 rfl rfl rfl ty4 rfl ?_
    refine o_neqB st und4 rfl rfl rfl ?_
    refine c_nil ?_
    refine l_then ?_
    refine c_cond rfl ?_ ?_
    · refine c_seq ?_
      refine c_region ?_
      refine o_as st rfl rfl ?_
      refine c_nil ?_
      refine l_then ?_
      refine c_ret ?_
      refine l_ret ?_
      exact l_end1 Tryd.results20 false () (rv_t rfl) (fun _ _ => NewCh.nil _ _ _ _)
    · refine c_skip ?_
      refine l_then ?_
      refine c_seq ?_
      refine c_region ?_
      refine o_as st rfl rfl ?_
      refine c_nil ?_
      refine l_then ?_
      refine c_ret ?_
      exact l_end1 Tryd.results20 true () (rv_t rfl) (fun _ _ => NewCh.nil _ _ _ _)

end
section
open Go.RowKit
set_option maxRecDepth 100000 in
set_option maxHeartbeats 8000000 in
theorem w_impl_PassAll {w0 : World} {F : Nat → Prop} {v1 : Value} {v3 : Value} {s_0 : GRuleset} {packets_1 : (List GPacket)} {step_2 : Int} {life_3 : Int} {κ : (List Bool) → Prop} (hF : ∀ b, F b → b < w0.heap.size ∧ ¬ feet [] b) (hv1 : Sl (elSl elGRule) F w0 v1 s_0.xChains) (hv3 : Sl elGPacket F w0 v3 packets_1) (hgl0 : Sl elGFieldShape F w0 (.slice (some ⟨0, 0, none⟩) 4 4) gl_impl_fieldShapes) (h : L_impl_PassAll s_0 packets_1 step_2 life_3 κ) :
    Calls Tryd.prog 25 #[(.agg #[v1, (.bool s_0.xAccept)]), v3, (.int .i64 step_2), (.int .i64 life_3)] w0 (Ret [] F w0 κ (fun (r : (List Bool)) (u : Value) => u) (fun (r : (List Bool)) (u : Value) => [ownCh elBool 4 u r])) := by
  refine enterS (args := [(.agg #[v1, (.bool s_0.xAccept)]), v3, (.int .i64 step_2), (.int .i64 life_3)]) [] hF (Given.nil _ _) Tryd.func25 rfl Tryd.ntmps25 rfl h ?_
  clear h hF
  refine c_seq ?_
  refine c_region ?_
  obtain ⟨a5, l6, q7, hs_⟩ := sl_val hv1; subst hs_
  refine stw (o_box rfl rfl [(.slice a5 l6 q7), (.bool s_0.xAccept)] rfl ?_); intro b8
  refine stw (o_asn elBool 4 rfl rfl ?_)
  refine c_nil ?_
  refine l_then ?_
  refine c_seq ?_
  refine c_join (σ := Bool) (fun (t74 : Bool) (a : Act) (w : World) => Has 57 [(1, v3), (2, (.int .i64 step_2)), (3, (.int .i64 life_3)), (4, (.pointer (some ⟨b8, 0, none⟩))), (33, (.bool t74))] a ∧ Mem (gB F [] w0) (feet []) w0 [cellCh b8 [(.slice a5 l6 q7), (.bool s_0.xAccept)] 25, snapCh w0 F] w) ?_ ?_
  · intro k75
    refine c_region ?_
    refine o_ldc st (v := (.agg #[(.slice a5 l6 q7), (.bool s_0.xAccept)])) 1 rfl rfl rfl ty25 rfl ?_
    refine stw (o_callP (vs := [(.agg #[(.slice a5 l6 q7), (.bool s_0.xAccept)])]) Tryd.call52 rfl rfl (by intro w m h; exact (w_impl_RulesetValid (F := allB [] w) (s_0 := s_0) allB_ok (m.rd0 2 rfl (reads_snap hv1)) (m.rd0 2 rfl (reads_snap hgl0)) h).mono (fun _ _ k => ret_free (fun r u => fr_nil) k)) ?_); rintro r11 _
    refine o_not st rfl rfl ?_
    refine o_mv st rfl rfl ?_
    refine st_sp (dj := 16) rfl ?_ ?_
    · refine st_s rfl rfl rfl rfl ?_
      refine st_s rfl rfl rfl rfl ?_
      refine st_s rfl rfl rfl rfl ?_
      refine o_pickT st rfl rfl rfl ?_
      refine o_mv st rfl rfl ?_
      refine st_s rfl rfl rfl rfl ?_
      refine st_s rfl rfl rfl rfl ?_
      refine o_pickT st rfl rfl rfl ?_
      refine o_mv st rfl rfl ?_
      refine st_s rfl rfl rfl rfl ?_
      refine st_s rfl rfl rfl rfl ?_
      refine o_pickT st rfl rfl rfl ?_
      refine o_mv st rfl rfl ?_
      refine st_s rfl rfl rfl rfl ?_
      refine st_s rfl rfl rfl rfl ?_
      refine st_s rfl rfl rfl rfl ?_
      refine o_pickT st rfl rfl rfl ?_
      refine c_nil ?_
      exact l_join true (fun a w hE hm => ⟨hE.sub ⟨rfl, rfl, rfl, rfl, rfl, trivial⟩, (hm.pick [1, 2] rfl)⟩)
    · refine o_mv (st_g rfl rfl) rfl rfl ?_
      refine st_gw rfl rfl (o_callP (vs := [v3]) Tryd.call53 rfl rfl (by intro w m h; exact (w_impl_packetsValid (F := allB [] w) (list_0 := packets_1) allB_ok (m.rd0 2 rfl (reads_snap hv3)) (m.rd0 2 rfl (reads_snap hgl0)) h).mono (fun _ _ k => ret_free (fun r u => fr_nil) k)) ?_); rintro r12 _
      refine o_not (st_g rfl rfl) rfl rfl ?_
      refine o_pickF st rfl rfl rfl ?_
      refine o_mv st rfl rfl ?_
      refine st_sp (dj := 21) rfl ?_ ?_
      · refine st_s rfl rfl rfl rfl ?_
        refine st_s rfl rfl rfl rfl ?_
        refine o_pickT st rfl rfl rfl ?_
        refine o_mv st rfl rfl ?_
        refine st_s rfl rfl rfl rfl ?_
        refine st_s rfl rfl rfl rfl ?_
        refine o_pickT st rfl rfl rfl ?_
        refine o_mv st rfl rfl ?_
        refine st_s rfl rfl rfl rfl ?_
        refine st_s rfl rfl rfl rfl ?_
        refine st_s rfl rfl rfl rfl ?_
        refine o_pickT st rfl rfl rfl ?_
        refine c_nil ?_
        exact l_join true (fun a w hE hm => ⟨hE.sub ⟨rfl, rfl, rfl, rfl, rfl, trivial⟩, (hm.pick [1, 2] rfl)⟩)
      · refine o_mv (st_g rfl rfl) rfl rfl ?_
        refine o_lss (st_g rfl rfl) rfl rfl rfl ?_
        refine o_pickF st rfl rfl rfl ?_
        refine o_mv st rfl rfl ?_
        refine st_sp (dj := 25) rfl ?_ ?_
        · refine st_s rfl rfl rfl rfl ?_
          refine st_s rfl rfl rfl rfl ?_
          refine o_pickT st rfl rfl rfl ?_
          refine o_mv st rfl rfl ?_
          refine st_s rfl rfl rfl rfl ?_
          refine st_s rfl rfl rfl rfl ?_
          refine st_s rfl rfl rfl rfl ?_
          refine o_pickT st rfl rfl rfl ?_
          refine c_nil ?_
          exact l_join true (fun a w hE hm => ⟨hE.sub ⟨rfl, rfl, rfl, rfl, rfl, trivial⟩, (hm.pick [1, 2] rfl)⟩)
        · refine o_mv (st_g rfl rfl) rfl rfl ?_
          refine o_gtr (st_g rfl rfl) rfl rfl rfl ?_
          refine o_pickF st rfl rfl rfl ?_
          refine o_mv st rfl rfl ?_
          refine st_sp (dj := 29) rfl ?_ ?_
          · refine st_s rfl rfl rfl rfl ?_
            refine st_s rfl rfl rfl rfl ?_
            refine st_s rfl rfl rfl rfl ?_
            refine o_pickT st rfl rfl rfl ?_
            refine c_nil ?_
            exact l_join true (fun a w hE hm => ⟨hE.sub ⟨rfl, rfl, rfl, rfl, rfl, trivial⟩, (hm.pick [1, 2] rfl)⟩)
          · refine o_mv (st_g rfl rfl) rfl rfl ?_
            refine st_gw rfl rfl (o_callP (vs := [(.int .i64 life_3)]) Tryd.call62 rfl rfl (by intro w m h; exact (w_impl_lifeValid (F := allB [] w) (life_0 := life_3) allB_ok h).mono (fun _ _ k => ret_free (fun r u => fr_nil) k)) ?_); rintro r13 _
            refine o_not (st_g rfl rfl) rfl rfl ?_
            refine o_pickF st rfl rfl rfl ?_
            refine c_nil ?_
            exact l_join (!r13) (fun a w hE hm => ⟨hE.sub ⟨rfl, rfl, rfl, rfl, rfl, trivial⟩, (hm.pick [1, 2] rfl)⟩)
  · rintro t74 a w ⟨hE, hm⟩ h
    refine nx_of hE hm h ?_
    clear hE hm h
    refine c_cond rfl ?_ ?_
    · refine c_seq ?_
      refine c_region ?_
      refine stw (o_asn elBool 4 rfl rfl ?_)
      refine c_nil ?_
      refine l_then ?_
      refine c_ret ?_
      refine l_ret ?_
      exact l_end1 Tryd.results25 ([]) (.slice none 0 0) (rv_t rfl) (fun w m => NewCh.ofB m [0] rfl)
    · refine c_skip ?_
      refine l_then ?_
      refine c_seq ?_
      refine c_region ?_
      refine o_ldc st (v := (.agg #[(.slice a5 l6 q7), (.bool s_0.xAccept)])) 0 rfl rfl rfl ty25 rfl ?_
      refine o_mv st rfl rfl ?_
      refine o_bld st (qs := [(0, (.agg #[(.slice a5 l6 q7), (.bool s_0.xAccept)])), (2, (.int .i64 life_3))]) (cells := [(.slice a5 l6 q7), (.bool s_0.xAccept), (.slice none 0 0), (.int .i64 life_3)]) (by intro ρ h; simp only [List.map_toArray, List.map_cons, List.map_nil, h (.tmp 34) _ rfl, h (.tmp 35) _ rfl]) rfl bld91 rfl ?_
      refine stw (o_alloc rfl [(.slice none 0 0), (.bool false), (.slice none 0 0), (.int .i64 0)] zero91 ?_); intro b77
      refine stw (o_stc (cs' := [(.slice a5 l6 q7), (.bool s_0.xAccept), (.slice none 0 0), (.int .i64 life_3)]) 0 rfl rfl rfl ty91 rfl rfl rfl rfl ?_)
      refine c_nil ?_
      refine l_then ?_
      refine c_seq ?_
      refine c_region ?_
      refine o_mv st rfl rfl ?_
      refine o_len st el26 2 rfl (reads_snap hv3) rfl rfl ?_
      refine stw (o_make (z := false) flelBool rfl rfl rfl el50 rfl zero4 rfl rfl ?_); intro v79 xs80
      refine o_as st rfl rfl ?_
      refine c_nil ?_
      refine l_then ?_
      refine c_seq ?_
      refine c_seq ?_
      refine c_region ?_
      refine o_mv st rfl rfl ?_
      refine o_len st el26 3 rfl (reads_snap hv3) rfl rfl ?_
      refine o_mv st rfl rfl ?_
      refine c_nil ?_
      refine l_then ?_
      refine c_block ?_
      refine c_loop (σ := ((List Bool) × (List GFlow) × Int)) (fun ((xs82, xs85, t88) : ((List Bool) × (List GFlow) × Int)) (a : Act) (w : World) => ∃ (v84 : Value), Has 57 [(2, (.int .i64 step_2)), (9, (.pointer (some ⟨b77, 0, none⟩))), (10, v79), (40, v3), (41, (.int .i64 (packets_1.length : Int))), (42, (.int .i64 t88))] a ∧ Mem (gB F [] w0) (feet []) w0 [ownCh elBool 4 v79 xs82, cellCh b77 [(.slice a5 l6 q7), (.bool s_0.xAccept), v84, (.int .i64 life_3)] 91, snapCh w0 F, ownCh elGFlow 110 v84 xs85] w) (fun a w hE hm => ⟨(.slice none 0 0), hE.sub ⟨rfl, rfl, rfl, rfl, rfl, rfl, trivial⟩, ((mem_nil elGFlow 110 hm).pick [1, 2, 4, 0] rfl)⟩) ?_
      rintro nx89 ⟨xs82, xs85, t88⟩ a w ⟨v84, hE, hm⟩ h
      refine nx_of hE hm h ?_
      clear hE hm h
      refine c_seq ?_
      refine c_region ?_
      refine o_lss st rfl rfl rfl ?_
      refine c_nil ?_
      refine l_then ?_
      refine c_seq ?_
      refine c_cond rfl ?_ ?_
      · refine c_skip ?_
        refine l_then ?_
        refine c_seq ?_
        refine c_block ?_
        refine c_seq ?_
        refine c_region ?_
        refine o_mv st rfl rfl ?_
        refine o_idx st 2 rfl (reads_snap hv3) rfl rfl rfl el26 ?_; intro e90 h91
        refine o_lds st (enc := encGPacket) (u := (.agg #[(.int .i64 e90.xFrom), (.int .i64 e90.xTo), (.int .i64 e90.xPort), (.int .i64 e90.xProto)])) 2 rfl (reads_snap hv3) flelGPacket rfl h91 rfl rfl ty40 rfl ?_
        refine stw (o_alloc rfl [(.int .i64 0), (.int .i64 0), (.int .i64 0), (.int .i64 0)] zero40 ?_); intro b92
        refine o_as st rfl rfl ?_
        refine stw (o_stc (cs' := [(.int .i64 e90.xFrom), (.int .i64 e90.xTo), (.int .i64 e90.xPort), (.int .i64 e90.xProto)]) 0 rfl rfl rfl ty40 rfl rfl rfl rfl ?_)
        refine c_nil ?_
        refine l_then ?_
        refine c_region ?_
        refine o_mv st rfl rfl ?_
        refine o_mv st rfl rfl ?_
        refine o_ldc st (v := (.agg #[(.int .i64 e90.xFrom), (.int .i64 e90.xTo), (.int .i64 e90.xPort), (.int .i64 e90.xProto)])) 0 rfl rfl rfl ty40 rfl ?_
        refine o_mv st rfl rfl ?_
        refine o_mv st rfl rfl ?_
        refine o_mul st rfl rfl rfl ?_; intro t94
        refine pk [2, 0, 1, 3, 4] rfl ?_
        refine stw (o_call (vs := [(.pointer (some ⟨b77, 0, none⟩)), (.agg #[(.int .i64 e90.xFrom), (.int .i64 e90.xTo), (.int .i64 e90.xPort), (.int .i64 e90.xProto)]), (.int .i64 t94)]) (M0 := [cellCh b77 [(.slice a5 l6 q7), (.bool s_0.xAccept), v84, (.int .i64 life_3)] 91]) Tryd.call63 rfl rfl (by intro w m h; exact (w_impl_tracker_pass (F := allB [cellCh b77 [(.slice a5 l6 q7), (.bool s_0.xAccept), v84, (.int .i64 life_3)] 91] w) (t_0_set_Chains := s_0.xChains) (t_0_set_Accept := s_0.xAccept) (t_0_flows := xs85) (t_0_life := life_3) (p_1 := e90) (now_2 := t94) allB_ok m.given (m.rdM 2 rfl (reads_snap hv1)) (m.rdM 3 rfl reads_own) (m.rdM 2 rfl (reads_snap hgl0)) h).mono (fun _ _ k => ret_free (fun r u => (fr_cons free_cell (fr_cons (free_own flelGFlow) fr_nil))) k)) ?_); rintro ⟨r95, r96⟩ v97
        refine o_idx st 3 rfl reads_own rfl rfl rfl el50 ?_; intro e99 h100
        refine stw (o_sts (enc := encBool) (y' := r95) 3 rfl flelBool rfl h100 ty4 rfl rfl rfl rfl rfl rfl ?_)
        refine c_nil ?_
        refine b_norm ?_
        refine l_then ?_
        refine c_region ?_
        refine o_add st rfl rfl rfl ?_; intro t102
        refine o_mv st rfl rfl ?_
        refine c_nil ?_
        exact l_join ((xs82.set (t88).toNat r95), r96, t102) (fun a w hE hm => ⟨v97, hE.sub ⟨rfl, rfl, rfl, rfl, rfl, rfl, trivial⟩, (hm.pick [3, 0, 4, 1] rfl)⟩)
      · refine c_exit ?_
        refine l_exit ?_
        refine l_exit ?_
        refine b_exit ?_
        refine l_then ?_
        refine c_seq ?_
        refine c_region ?_
        refine o_mv st rfl rfl ?_
        refine o_as st rfl rfl ?_
        refine c_nil ?_
        refine l_then ?_
        refine c_ret ?_
        exact l_end1 Tryd.results25 xs82 v79 (rv_t rfl) (fun w m => NewCh.ofB m [0] rfl)

set_option maxRecDepth 100000 in
set_option maxHeartbeats 8000000 in
theorem w_spec_PassAll {w0 : World} {F : Nat → Prop} {v1 : Value} {v3 : Value} {s_0 : GRuleset} {packets_1 : (List GPacket)} {step_2 : Int} {life_3 : Int} {κ : (List Bool) → Prop} (hF : ∀ b, F b → b < w0.heap.size ∧ ¬ feet [] b) (hv1 : Sl (elSl elGRule) F w0 v1 s_0.xChains) (hv3 : Sl elGPacket F w0 v3 packets_1) (h : L_spec_PassAll s_0 packets_1 step_2 life_3 κ) :
    Calls Tryd.prog 26 #[(.agg #[v1, (.bool s_0.xAccept)]), v3, (.int .i64 step_2), (.int .i64 life_3)] w0 (Ret [] F w0 κ (fun (r : (List Bool)) (u : Value) => u) (fun (r : (List Bool)) (u : Value) => [ownCh elBool 4 u r])) := by
  refine enterS (args := [(.agg #[v1, (.bool s_0.xAccept)]), v3, (.int .i64 step_2), (.int .i64 life_3)]) [] hF (Given.nil _ _) Tryd.func26 rfl Tryd.ntmps26 rfl h ?_
  clear h hF
  refine c_seq ?_
  refine c_region ?_
  obtain ⟨a5, l6, q7, hs_⟩ := sl_val hv1; subst hs_
  refine stw (o_box rfl rfl [(.slice a5 l6 q7), (.bool s_0.xAccept)] rfl ?_); intro b8
  refine stw (o_asn elBool 4 rfl rfl ?_)
  refine c_nil ?_
  refine l_then ?_
  refine c_seq ?_
  refine c_region ?_
  refine stw (o_bsl (enc := encBool) (qs := []) (cells := []) ([] : (List Bool)) flelBool (by intro ρ h; simp only [List.map_toArray, List.map_cons, List.map_nil]) rfl el50 zero4 rfl rfl rfl rfl rfl rfl ?_); intro v11
  refine o_as st rfl rfl ?_
  refine c_nil ?_
  refine l_then ?_
  refine c_seq ?_
  refine c_join (σ := Bool) (fun (t76 : Bool) (a : Act) (w : World) => Has 68 [(1, v3), (2, (.int .i64 step_2)), (3, (.int .i64 life_3)), (4, (.pointer (some ⟨b8, 0, none⟩))), (9, v11), (32, (.bool t76))] a ∧ Mem (gB F [] w0) (feet []) w0 [ownCh elBool 4 v11 ([]), cellCh b8 [(.slice a5 l6 q7), (.bool s_0.xAccept)] 25, snapCh w0 F] w) ?_ ?_
  · intro k77
    refine c_region ?_
    refine o_ldc st (v := (.agg #[(.slice a5 l6 q7), (.bool s_0.xAccept)])) 2 rfl rfl rfl ty25 rfl ?_
    refine stw (o_callP (vs := [(.agg #[(.slice a5 l6 q7), (.bool s_0.xAccept)])]) Tryd.call22 rfl rfl (by intro w m h; exact (w_spec_RulesetValid (F := allB [] w) (s_0 := s_0) allB_ok (m.rd0 3 rfl (reads_snap hv1)) h).mono (fun _ _ k => ret_free (fun r u => fr_nil) k)) ?_); rintro r13 _
    refine o_not st rfl rfl ?_
    refine o_mv st rfl rfl ?_
    refine st_sp (dj := 18) rfl ?_ ?_
    · refine st_s rfl rfl rfl rfl ?_
      refine st_s rfl rfl rfl rfl ?_
      refine st_s rfl rfl rfl rfl ?_
      refine o_pickT st rfl rfl rfl ?_
      refine o_mv st rfl rfl ?_
      refine st_s rfl rfl rfl rfl ?_
      refine st_s rfl rfl rfl rfl ?_
      refine st_s rfl rfl rfl rfl ?_
      refine o_pickT st rfl rfl rfl ?_
      refine o_mv st rfl rfl ?_
      refine st_s rfl rfl rfl rfl ?_
      refine st_s rfl rfl rfl rfl ?_
      refine st_s rfl rfl rfl rfl ?_
      refine o_pickT st rfl rfl rfl ?_
      refine c_nil ?_
      exact l_join true (fun a w hE hm => ⟨hE.sub ⟨rfl, rfl, rfl, rfl, rfl, rfl, trivial⟩, (hm.pick [0, 2, 3] rfl)⟩)
    · refine o_mv (st_g rfl rfl) rfl rfl ?_
      refine o_len (st_g rfl rfl) el26 3 rfl (reads_snap hv3) rfl rfl ?_
      refine o_gtr (st_g rfl rfl) rfl rfl rfl ?_
      refine o_pickF st rfl rfl rfl ?_
      refine o_mv st rfl rfl ?_
      refine st_sp (dj := 23) rfl ?_ ?_
      · refine st_s rfl rfl rfl rfl ?_
        refine st_s rfl rfl rfl rfl ?_
        refine st_s rfl rfl rfl rfl ?_
        refine o_pickT st rfl rfl rfl ?_
        refine o_mv st rfl rfl ?_
        refine st_s rfl rfl rfl rfl ?_
        refine st_s rfl rfl rfl rfl ?_
        refine st_s rfl rfl rfl rfl ?_
        refine o_pickT st rfl rfl rfl ?_
        refine c_nil ?_
        exact l_join true (fun a w hE hm => ⟨hE.sub ⟨rfl, rfl, rfl, rfl, rfl, rfl, trivial⟩, (hm.pick [0, 2, 3] rfl)⟩)
      · refine o_mv (st_g rfl rfl) rfl rfl ?_
        refine st_gw rfl rfl (o_callP (vs := [(.int .i64 step_2), (.int .i64 0), (.int .i64 1000)]) Tryd.call58 rfl rfl (by intro w m h; exact (w_spec_l1In (F := allB [] w) (n_0 := step_2) (lo_1 := 0) (hi_2 := 1000) allB_ok h).mono (fun _ _ k => ret_free (fun r u => fr_nil) k)) ?_); rintro r14 _
        refine o_not (st_g rfl rfl) rfl rfl ?_
        refine o_pickF st rfl rfl rfl ?_
        refine o_mv st rfl rfl ?_
        refine st_sp (dj := 28) rfl ?_ ?_
        · refine st_s rfl rfl rfl rfl ?_
          refine st_s rfl rfl rfl rfl ?_
          refine st_s rfl rfl rfl rfl ?_
          refine o_pickT st rfl rfl rfl ?_
          refine c_nil ?_
          exact l_join true (fun a w hE hm => ⟨hE.sub ⟨rfl, rfl, rfl, rfl, rfl, rfl, trivial⟩, (hm.pick [0, 2, 3] rfl)⟩)
        · refine o_mv (st_g rfl rfl) rfl rfl ?_
          refine st_gw rfl rfl (o_callP (vs := [(.int .i64 life_3), (.int .i64 0), (.int .i64 1000)]) Tryd.call58 rfl rfl (by intro w m h; exact (w_spec_l1In (F := allB [] w) (n_0 := life_3) (lo_1 := 0) (hi_2 := 1000) allB_ok h).mono (fun _ _ k => ret_free (fun r u => fr_nil) k)) ?_); rintro r15 _
          refine o_not (st_g rfl rfl) rfl rfl ?_
          refine o_pickF st rfl rfl rfl ?_
          refine c_nil ?_
          exact l_join (!r15) (fun a w hE hm => ⟨hE.sub ⟨rfl, rfl, rfl, rfl, rfl, rfl, trivial⟩, (hm.pick [0, 2, 3] rfl)⟩)
  · rintro t76 a w ⟨hE, hm⟩ h
    refine nx_of hE hm h ?_
    clear hE hm h
    refine c_cond rfl ?_ ?_
    · refine c_seq ?_
      refine c_region ?_
      refine o_mv st rfl rfl ?_
      refine o_as st rfl rfl ?_
      refine c_nil ?_
      refine l_then ?_
      refine c_ret ?_
      refine l_ret ?_
      exact l_end1 Tryd.results26 ([]) v11 (rv_t rfl) (fun w m => NewCh.ofB m [0] rfl)
    · refine c_skip ?_
      refine l_then ?_
      refine c_seq ?_
      refine c_region ?_
      refine stw (o_bsl (enc := encGFlow) (qs := []) (cells := []) ([] : (List GFlow)) flelGFlow (by intro ρ h; simp only [List.map_toArray, List.map_cons, List.map_nil]) rfl el53 zero110 rfl rfl rfl rfl rfl rfl ?_); intro v78
      refine o_as st rfl rfl ?_
      refine c_nil ?_
      refine l_then ?_
      refine c_seq ?_
      refine c_seq ?_
      refine c_region ?_
      refine o_as st rfl rfl ?_
      refine c_nil ?_
      refine l_then ?_
      refine c_block ?_
      refine c_loop (σ := ((List Bool) × (List GFlow) × Int)) (fun ((xs81, xs85, t88) : ((List Bool) × (List GFlow) × Int)) (a : Act) (w : World) => ∃ (v80 : Value) (v84 : Value), Has 68 [(1, v3), (2, (.int .i64 step_2)), (3, (.int .i64 life_3)), (4, (.pointer (some ⟨b8, 0, none⟩))), (9, v80), (10, v84), (11, (.int .i64 t88))] a ∧ Mem (gB F [] w0) (feet []) w0 [cellCh b8 [(.slice a5 l6 q7), (.bool s_0.xAccept)] 25, snapCh w0 F, ownCh elBool 4 v80 xs81, ownCh elGFlow 110 v84 xs85] w) (fun a w hE hm => ⟨v11, v78, hE.sub ⟨rfl, rfl, rfl, rfl, rfl, rfl, rfl, trivial⟩, (hm.pick [2, 3, 1, 0] rfl)⟩) ?_
      rintro nx89 ⟨xs81, xs85, t88⟩ a w ⟨v80, v84, hE, hm⟩ h
      refine nx_of hE hm h ?_
      clear hE hm h
      refine c_seq ?_
      refine c_seq ?_
      refine c_region ?_
      refine o_mv st rfl rfl ?_
      refine o_mv st rfl rfl ?_
      refine o_len st el26 1 rfl (reads_snap hv3) rfl rfl ?_
      refine o_lss st rfl rfl rfl ?_
      refine c_nil ?_
      refine l_then ?_
      refine c_cond rfl ?_ ?_
      · refine c_skip ?_
        refine l_then ?_
        refine c_seq ?_
        refine c_block ?_
        refine c_seq ?_
        refine c_seq ?_
        refine c_region ?_
        refine o_mv st rfl rfl ?_
        refine o_mv st rfl rfl ?_
        refine o_idx st 1 rfl (reads_snap hv3) rfl rfl rfl el26 ?_; intro e90 h91
        refine o_lds st (enc := encGPacket) (u := (.agg #[(.int .i64 e90.xFrom), (.int .i64 e90.xTo), (.int .i64 e90.xPort), (.int .i64 e90.xProto)])) 1 rfl (reads_snap hv3) flelGPacket rfl h91 rfl rfl ty40 rfl ?_
        refine stw (o_callP (vs := [(.agg #[(.int .i64 e90.xFrom), (.int .i64 e90.xTo), (.int .i64 e90.xPort), (.int .i64 e90.xProto)])]) Tryd.call23 rfl rfl (by intro w m h; exact (w_spec_PacketValid (F := allB [] w) (p_0 := e90) allB_ok h).mono (fun _ _ k => ret_free (fun r u => fr_nil) k)) ?_); rintro r92 _
        refine o_not st rfl rfl ?_
        refine c_nil ?_
        refine l_then ?_
        refine c_cond rfl ?_ ?_
        · refine c_seq ?_
          refine c_region ?_
          refine stw (o_bsl (enc := encBool) (qs := []) (cells := []) ([] : (List Bool)) flelBool (by intro ρ h; simp only [List.map_toArray, List.map_cons, List.map_nil]) rfl el50 zero4 rfl rfl rfl rfl rfl rfl ?_); intro v93
          refine o_as st rfl rfl ?_
          refine c_nil ?_
          refine l_then ?_
          refine c_ret ?_
          refine l_ret ?_
          refine b_ret ?_
          refine l_ret ?_
          refine l_ret ?_
          refine b_ret ?_
          refine l_ret ?_
          exact l_end1 Tryd.results26 ([]) v93 (rv_t rfl) (fun w m => NewCh.ofB m [0] rfl)
        · refine c_skip ?_
          refine l_then ?_
          refine c_seq ?_
          refine c_draw mixed 16 rfl [cellCh b8 [(.slice a5 l6 q7), (.bool s_0.xAccept)] 25, snapCh w0 F, ownCh elBool 4 v80 xs81, ownCh elGFlow 110 v84 xs85] ?_
          refine o_ldc (dt 0 (fun _ m => m)) (v := (.agg #[(.slice a5 l6 q7), (.bool s_0.xAccept)])) 0 rfl rfl rfl ty25 rfl ?_
          refine o_mv (dt 1 (fun _ m => m)) rfl rfl ?_
          refine o_mv (dt 2 (fun _ m => m)) rfl rfl ?_
          refine o_mv (dt 3 (fun _ m => m)) rfl rfl ?_
          refine o_idx (dt 4 (fun _ m => m)) 1 rfl (reads_snap hv3) rfl rfl rfl el26 ?_; intro e95 h96
          refine o_lds (dt 5 (fun _ m => m)) (enc := encGPacket) (u := (.agg #[(.int .i64 e95.xFrom), (.int .i64 e95.xTo), (.int .i64 e95.xPort), (.int .i64 e95.xProto)])) 1 rfl (reads_snap hv3) flelGPacket rfl h96 rfl rfl ty40 rfl ?_
          refine o_mv (dt 6 (fun _ m => m)) rfl rfl ?_
          refine o_mv (dt 7 (fun _ m => m)) rfl rfl ?_
          refine o_mul (dt 8 (fun _ m => m)) rfl rfl rfl ?_; intro t97
          refine o_mv (dt 9 (fun _ m => m)) rfl rfl ?_
          refine d_one (i := 10) rfl (by kernel_rfl) (o_callP (vs := [(.agg #[(.slice a5 l6 q7), (.bool s_0.xAccept)]), v84, (.agg #[(.int .i64 e95.xFrom), (.int .i64 e95.xTo), (.int .i64 e95.xPort), (.int .i64 e95.xProto)]), (.int .i64 t97), (.int .i64 life_3)]) Tryd.call30 rfl rfl (by intro w m h; exact (w_spec_PassPacket (F := allB [] w) (s_0 := s_0) (list_1 := xs85) (p_2 := e95) (now_3 := t97) (life_4 := life_3) allB_ok (m.rd0 1 rfl (reads_snap hv1)) (m.rd0 3 rfl reads_own) h).mono (fun _ _ k => ret_free (fun r u => (fr_cons (free_own flelGFlow) fr_nil)) k)) ?_); rintro ⟨r98, r101⟩ v99
          refine d_and (fun w m => m.pick [1, 2, 3, 4] rfl) ?_
          refine o_mv (dt 11 (fun w m => m.pick [1, 2, 3, 4] rfl)) rfl rfl ?_
          refine o_ext (dt 12 (fun w m => m.pick [1, 2, 3, 4] rfl)) (vs := [v99, (.bool r101)]) rfl rfl rfl ?_
          refine o_ext (dt 13 (fun w m => m.pick [1, 2, 3, 4] rfl)) (vs := [v99, (.bool r101)]) rfl rfl rfl ?_
          refine o_as (dt 14 (fun w m => m.pick [1, 2, 3, 4] rfl)) rfl rfl ?_
          refine o_as (dt 15 (fun w m => m.pick [1, 2, 3, 4] rfl)) rfl rfl ?_
          refine d_done (by kernel_rfl) ?_
          refine l_then ?_
          refine c_seq ?_
          refine c_region ?_
          refine o_mv st rfl rfl ?_
          refine o_as st rfl rfl ?_
          refine c_nil ?_
          refine l_then ?_
          refine c_region ?_
          refine o_mv st rfl rfl ?_
          refine o_mv st rfl rfl ?_
          refine stw (o_bsl (enc := encBool) (qs := [(0, (.bool r101))]) (cells := [(.bool r101)]) ([r101]) flelBool (by intro ρ h; simp only [List.map_toArray, List.map_cons, List.map_nil, h (.tmp 64) _ rfl]) rfl el50 zero4 rfl rfl rfl rfl rfl rfl ?_); intro v102
          refine stw (o_app 4 0 rfl rfl (src_flat flelBool reads_own) rfl rfl rfl el50 rfl zero4 rfl rfl ?_); intro v104
          refine o_as st rfl rfl ?_
          refine c_nil ?_
          refine b_norm ?_
          refine l_then ?_
          refine c_region ?_
          refine o_mv st rfl rfl ?_
          refine o_add st rfl rfl rfl ?_; intro t106
          refine o_as st rfl rfl ?_
          refine c_nil ?_
          exact l_join ((xs81 ++ ([r101])), r98, t106) (fun a w hE hm => ⟨v104, v99, hE.sub ⟨rfl, rfl, rfl, rfl, rfl, rfl, rfl, trivial⟩, (hm.pick [2, 3, 4, 1] rfl)⟩)
      · refine c_exit ?_
        refine l_exit ?_
        refine l_exit ?_
        refine b_exit ?_
        refine l_then ?_
        refine c_seq ?_
        refine c_region ?_
        refine o_mv st rfl rfl ?_
        refine o_as st rfl rfl ?_
        refine c_nil ?_
        refine l_then ?_
        refine c_ret ?_
        exact l_end1 Tryd.results26 xs81 v80 (rv_t rfl) (fun w m => NewCh.ofB m [2] rfl)

end
section
open Go.RowKit
set_option maxRecDepth 100000 in
set_option maxHeartbeats 8000000 in
theorem w_laws_eqPacket {w0 : World} {F : Nat → Prop} {a_0 : GPacket} {b_1 : GPacket} {κ : Bool → Prop} (hF : ∀ b, F b → b < w0.heap.size ∧ ¬ feet [] b) (h : L_laws_eqPacket a_0 b_1 κ) :
    Calls Tryd.prog 83 #[(.agg #[(.int .i64 a_0.xFrom), (.int .i64 a_0.xTo), (.int .i64 a_0.xPort), (.int .i64 a_0.xProto)]), (.agg #[(.int .i64 b_1.xFrom), (.int .i64 b_1.xTo), (.int .i64 b_1.xPort), (.int .i64 b_1.xProto)])] w0 (Ret [] F w0 κ (fun (r : Bool) (u : Unit) => (.bool r)) (fun (r : Bool) (u : Unit) => [])) := by
  refine enter0 (args := [(.agg #[(.int .i64 a_0.xFrom), (.int .i64 a_0.xTo), (.int .i64 a_0.xPort), (.int .i64 a_0.xProto)]), (.agg #[(.int .i64 b_1.xFrom), (.int .i64 b_1.xTo), (.int .i64 b_1.xPort), (.int .i64 b_1.xProto)])]) [] hF (Given.nil _ _) Tryd.func83 rfl Tryd.ntmps83 rfl h ?_
  clear h hF
  refine c_seq ?_
  refine c_region ?_
  refine stw (o_box rfl rfl [(.int .i64 a_0.xFrom), (.int .i64 a_0.xTo), (.int .i64 a_0.xPort), (.int .i64 a_0.xProto)] rfl ?_); intro b1
  refine stw (o_box rfl rfl [(.int .i64 b_1.xFrom), (.int .i64 b_1.xTo), (.int .i64 b_1.xPort), (.int .i64 b_1.xProto)] rfl ?_); intro b3
  refine o_as st rfl rfl ?_
  refine c_nil ?_
  refine l_then ?_
  refine c_seq ?_
  refine c_seq ?_
  refine c_region ?_
  refine o_fad st rfl rfl fld40_0 rfl ?_
  refine o_ldc st (v := (.int .i64 a_0.xFrom)) 1 rfl rfl rfl ty3 rfl ?_
  refine o_fad st rfl rfl fld40_0 rfl ?_
  refine o_ldc st (v := (.int .i64 b_1.xFrom)) 0 rfl rfl rfl ty3 rfl ?_
  refine o_neq st und3 rfl rfl rfl ?_
  refine c_nil ?_
  refine l_then ?_
  refine c_cond rfl ?_ ?_
  · refine c_seq ?_
    refine c_region ?_
    refine o_as st rfl rfl ?_
    refine c_nil ?_
    refine l_then ?_
    refine c_ret ?_
    refine l_ret ?_
    exact l_end1 Tryd.results83 false () (rv_t rfl) (fun _ _ => NewCh.nil _ _ _ _)
  · refine c_skip ?_
    refine l_then ?_
    refine c_seq ?_
    refine c_seq ?_
    refine c_region ?_
    refine o_fad st rfl rfl fld40_1 rfl ?_
    refine o_ldc st (v := (.int .i64 a_0.xTo)) 1 rfl rfl rfl ty3 rfl ?_
    refine o_fad st rfl rfl fld40_1 rfl ?_
    refine o_ldc st (v := (.int .i64 b_1.xTo)) 0 rfl rfl rfl ty3 rfl ?_
    refine o_neq st und3 rfl rfl rfl ?_
    refine c_nil ?_
    refine l_then ?_
    refine c_cond rfl ?_ ?_
    · refine c_seq ?_
      refine c_region ?_
      refine o_as st rfl rfl ?_
      refine c_nil ?_
      refine l_then ?_
      refine c_ret ?_
      refine l_ret ?_
      exact l_end1 Tryd.results83 false () (rv_t rfl) (fun _ _ => NewCh.nil _ _ _ _)
    · refine c_skip ?_
      refine l_then ?_
      refine c_seq ?_
      refine c_seq ?_
      refine c_region ?_
      refine o_fad st rfl rfl fld40_2 rfl ?_
      refine o_ldc st (v := (.int .i64 a_0.xPort)) 1 rfl rfl rfl ty3 rfl ?_
      refine o_fad st rfl rfl fld40_2 rfl ?_
      refine o_ldc st (v := (.int .i64 b_1.xPort)) 0 rfl rfl rfl ty3 rfl ?_
      refine o_neq st und3 rfl rfl rfl ?_
      refine c_nil ?_
      refine l_then ?_
      refine c_cond rfl ?_ ?_
      · refine c_seq ?_
        refine c_region ?_
        refine o_as st rfl rfl ?_
        refine c_nil ?_
        refine l_then ?_
        refine c_ret ?_
        refine l_ret ?_
        exact l_end1 Tryd.results83 false () (rv_t rfl) (fun _ _ => NewCh.nil _ _ _ _)
      · refine c_skip ?_
        refine l_then ?_
        refine c_seq ?_
        refine c_seq ?_
        refine c_region ?_
        refine o_fad st rfl rfl fld40_3 rfl ?_
        refine o_ldc st (v := (.int .i64 a_0.xProto)) 1 rfl rfl rfl ty3 rfl ?_
        refine o_fad st rfl rfl fld40_3 rfl ?_
        refine o_ldc st (v := (.int .i64 b_1.xProto)) 0 rfl rfl rfl ty3 rfl ?_
        refine o_neq st und3 rfl rfl rfl ?_
        refine c_nil ?_
        refine l_then ?_
        refine c_cond rfl ?_ ?_
        · refine c_seq ?_
          refine c_region ?_
          refine o_as st rfl rfl ?_
          refine c_nil ?_
          refine l_then ?_
          refine c_ret ?_
          refine l_ret ?_
          exact l_end1 Tryd.results83 false () (rv_t rfl) (fun _ _ => NewCh.nil _ _ _ _)
        · refine c_skip ?_
          refine l_then ?_
          refine c_seq ?_
          refine c_region ?_
          refine o_as st rfl rfl ?_
          refine c_nil ?_
          refine l_then ?_
          refine c_ret ?_
          exact l_end1 Tryd.results83 true () (rv_t rfl) (fun _ _ => NewCh.nil _ _ _ _)

set_option maxRecDepth 100000 in
set_option maxHeartbeats 8000000 in
theorem w_laws_markTestS {w0 : World} {F : Nat → Prop} {v1 : Value} {a_0 : (List GTest)} {k_1 : Int} {κ : (Int × (List GTest)) → Prop} (hF : ∀ b, F b → b < w0.heap.size ∧ ¬ feet [ownCh elGTest 173 v1 a_0] b) (hg : Given [ownCh elGTest 173 v1 a_0] F w0) (h : L_laws_markTestS a_0 k_1 κ) :
    Calls Tryd.prog 115 #[v1, (.int .i64 k_1)] w0 (Ret [ownCh elGTest 173 v1 a_0] F w0 κ (fun (r : (Int × (List GTest))) (u : Unit) => (.int .i64 r.1)) (fun (r : (Int × (List GTest))) (u : Unit) => [ownCh elGTest 173 v1 r.2])) := by
  refine enter0 (args := [v1, (.int .i64 k_1)]) [ownCh elGTest 173 v1 a_0] hF hg Tryd.func115 rfl Tryd.ntmps115 rfl h ?_
  clear h hF hg
  refine c_seq ?_
  refine c_region ?_
  refine o_as st rfl rfl ?_
  refine c_nil ?_
  refine l_then ?_
  refine c_seq ?_
  refine c_seq ?_
  refine c_region ?_
  refine o_as st rfl rfl ?_
  refine c_nil ?_
  refine l_then ?_
  refine c_block ?_
  refine c_loop (σ := ((List GTest) × Int × Int)) (fun ((xs3, t5, t6) : ((List GTest) × Int × Int)) (a : Act) (w : World) => Has 43 [(0, v1), (1, (.int .i64 t5)), (5, (.int .i64 t6))] a ∧ Mem (gB F [ownCh elGTest 173 v1 a_0] w0) (feet [ownCh elGTest 173 v1 a_0]) w0 [ownCh elGTest 173 v1 xs3] w) (fun a w hE hm => ⟨hE.sub ⟨rfl, rfl, rfl, trivial⟩, (hm.pick [0] rfl)⟩) ?_
  rintro nx7 ⟨xs3, t5, t6⟩ a w ⟨hE, hm⟩ h
  refine nx_of hE hm h ?_
  clear hE hm h
  refine c_seq ?_
  refine c_seq ?_
  refine c_region ?_
  refine o_mv st rfl rfl ?_
  refine o_mv st rfl rfl ?_
  refine o_len st el102 0 rfl reads_own rfl rfl ?_
  refine o_lss st rfl rfl rfl ?_
  refine c_nil ?_
  refine l_then ?_
  refine c_cond rfl ?_ ?_
  · refine c_skip ?_
    refine l_then ?_
    refine c_seq ?_
    refine c_block ?_
    refine c_seq ?_
    refine c_region ?_
    refine o_mv st rfl rfl ?_
    refine o_mv st rfl rfl ?_
    refine o_mv st rfl rfl ?_
    refine o_idx st 0 rfl reads_own rfl rfl rfl el102 ?_; intro e8 h9
    refine o_fadS st 0 rfl reads_own h9 rfl rfl fld173_0 rfl ?_
    refine stw (o_sts (enc := encGTest) (y' := (GTest.mk t5 e8.xLo e8.xHi e8.xNot)) 0 rfl flelGTest rfl h9 ty3 rfl rfl rfl rfl rfl rfl ?_)
    refine c_nil ?_
    refine l_then ?_
    refine c_seq ?_
    refine c_region ?_
    refine o_mv st rfl rfl ?_
    refine o_add st rfl rfl rfl ?_; intro t11
    refine o_as st rfl rfl ?_
    refine c_nil ?_
    refine l_then ?_
    refine c_seq ?_
    refine c_region ?_
    refine o_mv st rfl rfl ?_
    refine o_mv st rfl rfl ?_
    refine o_mv st rfl rfl ?_
    refine o_idx st 0 rfl reads_own rfl rfl rfl el102 ?_; intro e12 h13
    refine o_fadS st 0 rfl reads_own h13 rfl rfl fld173_1 rfl ?_
    refine stw (o_sts (enc := encGTest) (y' := (GTest.mk e12.xField t11 e12.xHi e12.xNot)) 0 rfl flelGTest rfl h13 ty3 rfl rfl rfl rfl rfl rfl ?_)
    refine c_nil ?_
    refine l_then ?_
    refine c_seq ?_
    refine c_region ?_
    refine o_mv st rfl rfl ?_
    refine o_add st rfl rfl rfl ?_; intro t15
    refine o_as st rfl rfl ?_
    refine c_nil ?_
    refine l_then ?_
    refine c_seq ?_
    refine c_region ?_
    refine o_mv st rfl rfl ?_
    refine o_mv st rfl rfl ?_
    refine o_mv st rfl rfl ?_
    refine o_idx st 0 rfl reads_own rfl rfl rfl el102 ?_; intro e16 h17
    refine o_fadS st 0 rfl reads_own h17 rfl rfl fld173_2 rfl ?_
    refine stw (o_sts (enc := encGTest) (y' := (GTest.mk e16.xField e16.xLo t15 e16.xNot)) 0 rfl flelGTest rfl h17 ty3 rfl rfl rfl rfl rfl rfl ?_)
    refine c_nil ?_
    refine l_then ?_
    refine c_seq ?_
    refine c_region ?_
    refine o_mv st rfl rfl ?_
    refine o_add st rfl rfl rfl ?_; intro t19
    refine o_as st rfl rfl ?_
    refine c_nil ?_
    refine l_then ?_
    refine c_seq ?_
    refine c_region ?_
    refine o_mv st rfl rfl ?_
    refine o_mv st rfl rfl ?_
    refine o_mv st rfl rfl ?_
    refine o_rem st rfl rfl rfl ?_; intro t20
    refine o_eql st und3 rfl rfl rfl ?_
    refine o_idx st 0 rfl reads_own rfl rfl rfl el102 ?_; intro e21 h22
    refine o_fadS st 0 rfl reads_own h22 rfl rfl fld173_3 rfl ?_
    refine stw (o_sts (enc := encGTest) (y' := (GTest.mk e21.xField e21.xLo e21.xHi (decide (t20 = 0)))) 0 rfl flelGTest rfl h22 ty4 rfl rfl rfl rfl rfl rfl ?_)
    refine c_nil ?_
    refine l_then ?_
    refine c_region ?_
    refine o_mv st rfl rfl ?_
    refine o_add st rfl rfl rfl ?_; intro t24
    refine o_as st rfl rfl ?_
    refine c_nil ?_
    refine b_norm ?_
    refine l_then ?_
    refine c_region ?_
    refine o_mv st rfl rfl ?_
    refine o_add st rfl rfl rfl ?_; intro t25
    refine o_as st rfl rfl ?_
    refine c_nil ?_
    exact l_join (((((xs3.set (t6).toNat (GTest.mk t5 e8.xLo e8.xHi e8.xNot)).set (t6).toNat (GTest.mk e12.xField t11 e12.xHi e12.xNot)).set (t6).toNat (GTest.mk e16.xField e16.xLo t15 e16.xNot)).set (t6).toNat (GTest.mk e21.xField e21.xLo e21.xHi (decide (t20 = 0)))), t24, t25) (fun a w hE hm => ⟨hE.sub ⟨rfl, rfl, rfl, trivial⟩, (hm.pick [0] rfl)⟩)
  · refine c_exit ?_
    refine l_exit ?_
    refine l_exit ?_
    refine b_exit ?_
    refine l_then ?_
    refine c_seq ?_
    refine c_region ?_
    refine o_mv st rfl rfl ?_
    refine o_as st rfl rfl ?_
    refine c_nil ?_
    refine l_then ?_
    refine c_ret ?_
    exact l_end1 Tryd.results115 (t5, xs3) () (rv_t rfl) (fun w m => NewCh.ofB m [0] rfl)

set_option maxRecDepth 100000 in
set_option maxHeartbeats 8000000 in
theorem w_laws_markRuleS {w0 : World} {F : Nat → Prop} {v1 : Value} {bb2 : List Nat} {a_0 : (List GRule)} {k_1 : Int} {κ : (Int × (List GRule)) → Prop} (hF : ∀ b, F b → b < w0.heap.size ∧ ¬ feet [dpCh dGRule 104 bb2 v1 a_0] b) (hg : Given [dpCh dGRule 104 bb2 v1 a_0] F w0) (h : L_laws_markRuleS a_0 k_1 κ) :
    Calls Tryd.prog 101 #[v1, (.int .i64 k_1)] w0 (Ret [dpCh dGRule 104 bb2 v1 a_0] F w0 κ (fun (r : (Int × (List GRule))) (u : List Nat) => (.int .i64 r.1)) (fun (r : (Int × (List GRule))) (u : List Nat) => [dpCh dGRule 104 u v1 r.2])) := by
  refine enter0 (args := [v1, (.int .i64 k_1)]) [dpCh dGRule 104 bb2 v1 a_0] hF hg Tryd.func101 rfl Tryd.ntmps101 rfl h ?_
  clear h hF hg
  refine c_seq ?_
  refine c_region ?_
  refine o_as st rfl rfl ?_
  refine c_nil ?_
  refine l_then ?_
  refine c_seq ?_
  refine c_seq ?_
  refine c_region ?_
  refine o_as st rfl rfl ?_
  refine c_nil ?_
  refine l_then ?_
  refine c_block ?_
  refine c_loop (σ := ((List GRule) × Int × Int)) (fun ((xs4, t7, t8) : ((List GRule) × Int × Int)) (a : Act) (w : World) => ∃ (bb6 : List Nat), Has 34 [(0, v1), (1, (.int .i64 t7)), (5, (.int .i64 t8))] a ∧ Mem (gB F [dpCh dGRule 104 bb2 v1 a_0] w0) (feet [dpCh dGRule 104 bb2 v1 a_0]) w0 [dpCh dGRule 104 bb6 v1 xs4] w) (fun a w hE hm => ⟨bb2, hE.sub ⟨rfl, rfl, rfl, trivial⟩, (hm.pick [0] rfl)⟩) ?_
  rintro nx9 ⟨xs4, t7, t8⟩ a w ⟨bb6, hE, hm⟩ h
  refine nx_of hE hm h ?_
  clear hE hm h
  refine c_seq ?_
  refine c_seq ?_
  refine c_region ?_
  refine o_mv st rfl rfl ?_
  refine o_mv st rfl rfl ?_
  refine o_len st el101 0 rfl reads_dp rfl rfl ?_
  refine o_lss st rfl rfl rfl ?_
  refine c_nil ?_
  refine l_then ?_
  refine c_cond rfl ?_ ?_
  · refine c_skip ?_
    refine l_then ?_
    refine c_seq ?_
    refine c_block ?_
    refine c_seq ?_
    refine c_region ?_
    refine o_mv st rfl rfl ?_
    refine o_mv st rfl rfl ?_
    refine o_idx st 0 rfl reads_dp rfl rfl rfl el101 ?_; intro e10 h11
    refine o_fadS st 0 rfl reads_dp h11 rfl rfl fld104_0 rfl ?_
    refine stw (o_ldF (E1 := dGTest) (t1 := 173) (zin := e10.xTests) (encz := fun v => [v, (.int .i64 e10.xAction), (.int .i64 e10.xChain)]) rfl h11 (fun B w cs h => h) rfl rfl ty102 ?_); rintro v12 bb13 bb14; refine ⟨v12, rfl, ?_⟩; refine nx_flatdp 1 rfl ?_
    refine o_mv st rfl rfl ?_
    refine pk [1, 0] rfl ?_
    refine stw (o_call (vs := [v12, (.int .i64 t7)]) (M0 := [ownCh elGTest 173 v12 e10.xTests]) Tryd.call115 rfl rfl (by intro w m h; exact (w_laws_markTestS (F := allB [ownCh elGTest 173 v12 e10.xTests] w) (a_0 := e10.xTests) (k_1 := t7) allB_ok m.given h).mono (fun _ _ k => ret_free (fun r u => (fr_cons (free_own flelGTest) fr_nil)) k)) ?_); rintro ⟨r16, r17⟩ _
    refine o_as st rfl rfl ?_
    refine c_nil ?_
    refine l_then ?_
    refine c_seq ?_
    refine c_region ?_
    refine o_mv st rfl rfl ?_
    refine o_mv st rfl rfl ?_
    refine o_mv st rfl rfl ?_
    refine pk [1, 0] rfl ?_
    refine nx_close (M := [ownCh elGTest 173 v12 r17]) (y' := (GRule.mk r17 e10.xAction e10.xChain)) (absorb_one (gives_own flelGTest) (fun B w h => ⟨_, rfl, h⟩)) ?_; intro bb19
    refine o_idx st 0 rfl reads_dp rfl rfl rfl el101 ?_; intro e21 h22
    refine o_fadS st 0 rfl reads_dp h22 rfl rfl fld104_1 rfl ?_
    refine stw (o_stP (y' := (GRule.mk e21.xTests r16 e21.xChain)) 0 rfl rfl h22 (fun w B cz h => by obtain ⟨u, rfl, h⟩ := h; exact ⟨u, rfl, h⟩) ty3 rfl rfl rfl rfl rfl ?_)
    refine c_nil ?_
    refine l_then ?_
    refine c_seq ?_
    refine c_region ?_
    refine o_mv st rfl rfl ?_
    refine o_add st rfl rfl rfl ?_; intro t24
    refine o_as st rfl rfl ?_
    refine c_nil ?_
    refine l_then ?_
    refine c_seq ?_
    refine c_region ?_
    refine o_mv st rfl rfl ?_
    refine o_mv st rfl rfl ?_
    refine o_mv st rfl rfl ?_
    refine o_idx st 0 rfl reads_dp rfl rfl rfl el101 ?_; intro e25 h26
    refine o_fadS st 0 rfl reads_dp h26 rfl rfl fld104_2 rfl ?_
    refine stw (o_stP (y' := (GRule.mk e25.xTests e25.xAction t24)) 0 rfl rfl h26 (fun w B cz h => by obtain ⟨u, rfl, h⟩ := h; exact ⟨u, rfl, h⟩) ty3 rfl rfl rfl rfl rfl ?_)
    refine c_nil ?_
    refine l_then ?_
    refine c_region ?_
    refine o_mv st rfl rfl ?_
    refine o_add st rfl rfl rfl ?_; intro t28
    refine o_as st rfl rfl ?_
    refine c_nil ?_
    refine b_norm ?_
    refine l_then ?_
    refine c_region ?_
    refine o_mv st rfl rfl ?_
    refine o_add st rfl rfl rfl ?_; intro t29
    refine o_as st rfl rfl ?_
    refine c_nil ?_
    exact l_join ((((xs4.set (t8).toNat (GRule.mk r17 e10.xAction e10.xChain)).set (t8).toNat (GRule.mk e21.xTests r16 e21.xChain)).set (t8).toNat (GRule.mk e25.xTests e25.xAction t24)), t28, t29) (fun a w hE hm => ⟨bb19, hE.sub ⟨rfl, rfl, rfl, trivial⟩, (hm.pick [0] rfl)⟩)
  · refine c_exit ?_
    refine l_exit ?_
    refine l_exit ?_
    refine b_exit ?_
    refine l_then ?_
    refine c_seq ?_
    refine c_region ?_
    refine o_mv st rfl rfl ?_
    refine o_as st rfl rfl ?_
    refine c_nil ?_
    refine l_then ?_
    refine c_ret ?_
    exact l_end1 Tryd.results101 (t7, xs4) bb6 (rv_t rfl) (fun w m => NewCh.ofB m [0] rfl)

set_option maxRecDepth 100000 in
set_option maxHeartbeats 8000000 in
theorem w_laws_markRuleSS {w0 : World} {F : Nat → Prop} {v1 : Value} {bb2 : List Nat} {a_0 : (List (List GRule))} {k_1 : Int} {κ : (Int × (List (List GRule))) → Prop} (hF : ∀ b, F b → b < w0.heap.size ∧ ¬ feet [dpCh (dSl dGRule 104) 101 bb2 v1 a_0] b) (hg : Given [dpCh (dSl dGRule 104) 101 bb2 v1 a_0] F w0) (h : L_laws_markRuleSS a_0 k_1 κ) :
    Calls Tryd.prog 82 #[v1, (.int .i64 k_1)] w0 (Ret [dpCh (dSl dGRule 104) 101 bb2 v1 a_0] F w0 κ (fun (r : (Int × (List (List GRule)))) (u : List Nat) => (.int .i64 r.1)) (fun (r : (Int × (List (List GRule)))) (u : List Nat) => [dpCh (dSl dGRule 104) 101 u v1 r.2])) := by
  refine enter0 (args := [v1, (.int .i64 k_1)]) [dpCh (dSl dGRule 104) 101 bb2 v1 a_0] hF hg Tryd.func82 rfl Tryd.ntmps82 rfl h ?_
  clear h hF hg
  refine c_seq ?_
  refine c_region ?_
  refine o_as st rfl rfl ?_
  refine c_nil ?_
  refine l_then ?_
  refine c_seq ?_
  refine c_seq ?_
  refine c_region ?_
  refine o_as st rfl rfl ?_
  refine c_nil ?_
  refine l_then ?_
  refine c_block ?_
  refine c_loop (σ := ((List (List GRule)) × Int × Int)) (fun ((xs4, t7, t8) : ((List (List GRule)) × Int × Int)) (a : Act) (w : World) => ∃ (bb6 : List Nat), Has 19 [(0, v1), (1, (.int .i64 t7)), (5, (.int .i64 t8))] a ∧ Mem (gB F [dpCh (dSl dGRule 104) 101 bb2 v1 a_0] w0) (feet [dpCh (dSl dGRule 104) 101 bb2 v1 a_0]) w0 [dpCh (dSl dGRule 104) 101 bb6 v1 xs4] w) (fun a w hE hm => ⟨bb2, hE.sub ⟨rfl, rfl, rfl, trivial⟩, (hm.pick [0] rfl)⟩) ?_
  rintro nx9 ⟨xs4, t7, t8⟩ a w ⟨bb6, hE, hm⟩ h
  refine nx_of hE hm h ?_
  clear hE hm h
  refine c_seq ?_
  refine c_seq ?_
  refine c_region ?_
  refine o_mv st rfl rfl ?_
  refine o_mv st rfl rfl ?_
  refine o_len st el23 0 rfl reads_dp rfl rfl ?_
  refine o_lss st rfl rfl rfl ?_
  refine c_nil ?_
  refine l_then ?_
  refine c_cond rfl ?_ ?_
  · refine c_skip ?_
    refine l_then ?_
    refine c_seq ?_
    refine c_block ?_
    refine c_region ?_
    refine o_mv st rfl rfl ?_
    refine o_mv st rfl rfl ?_
    refine o_idx st 0 rfl reads_dp rfl rfl rfl el23 ?_; intro e10 h11
    refine stw (o_ldF (E1 := dGRule) (t1 := 104) (zin := e10) (encz := fun v => [v]) rfl h11 (fun B w cs h => h) rfl rfl ty101 ?_); rintro v12 bb13 bb14; refine ⟨v12, rfl, ?_⟩
    refine o_mv st rfl rfl ?_
    refine pk [1, 0] rfl ?_
    refine stw (o_call (vs := [v12, (.int .i64 t7)]) (M0 := [dpCh dGRule 104 bb14 v12 e10]) Tryd.call101 rfl rfl (by intro w m h; exact (w_laws_markRuleS (F := allB [dpCh dGRule 104 bb14 v12 e10] w) (a_0 := e10) (k_1 := t7) allB_ok m.given h).mono (fun _ _ k => ret_free (fun r u => (fr_cons free_dp fr_nil)) k)) ?_); rintro ⟨r16, r17⟩ bb18
    refine o_as st rfl rfl ?_
    refine c_nil ?_
    refine b_norm ?_
    refine l_then ?_
    refine c_region ?_
    refine o_mv st rfl rfl ?_
    refine o_add st rfl rfl rfl ?_; intro t20
    refine o_as st rfl rfl ?_
    refine c_nil ?_
    refine pk [1, 0] rfl ?_
    refine nx_close (M := [dpCh dGRule 104 bb18 v12 r17]) (y' := r17) (absorb_one gives_dp (fun B w h => ⟨_, rfl, h⟩)) ?_; intro bb21
    exact l_join ((xs4.set (t8).toNat r17), r16, t20) (fun a w hE hm => ⟨bb21, hE.sub ⟨rfl, rfl, rfl, trivial⟩, (hm.pick [0] rfl)⟩)
  · refine c_exit ?_
    refine l_exit ?_
    refine l_exit ?_
    refine b_exit ?_
    refine l_then ?_
    refine c_seq ?_
    refine c_region ?_
    refine o_mv st rfl rfl ?_
    refine o_as st rfl rfl ?_
    refine c_nil ?_
    refine l_then ?_
    refine c_ret ?_
    exact l_end1 Tryd.results82 (t7, xs4) bb6 (rv_t rfl) (fun w m => NewCh.ofB m [0] rfl)

set_option maxRecDepth 100000 in
set_option maxHeartbeats 8000000 in
theorem w_laws_markRuleset {w0 : World} {F : Nat → Prop} {v1 : Value} {bb2 : List Nat} {a_0_Chains : (List (List GRule))} {a_0_Accept : Bool} {k_1 : Int} {κ : (Int × (List (List GRule))) → Prop} (hF : ∀ b, F b → b < w0.heap.size ∧ ¬ feet [dpCh (dSl dGRule 104) 101 bb2 v1 a_0_Chains] b) (hg : Given [dpCh (dSl dGRule 104) 101 bb2 v1 a_0_Chains] F w0) (h : L_laws_markRuleset a_0_Chains a_0_Accept k_1 κ) :
    Calls Tryd.prog 39 #[(.agg #[v1, (.bool a_0_Accept)]), (.int .i64 k_1)] w0 (Ret [dpCh (dSl dGRule 104) 101 bb2 v1 a_0_Chains] F w0 κ (fun (r : (Int × (List (List GRule)))) (u : List Nat) => (.int .i64 r.1)) (fun (r : (Int × (List (List GRule)))) (u : List Nat) => [dpCh (dSl dGRule 104) 101 u v1 r.2])) := by
  refine enter0 (args := [(.agg #[v1, (.bool a_0_Accept)]), (.int .i64 k_1)]) [dpCh (dSl dGRule 104) 101 bb2 v1 a_0_Chains] hF hg Tryd.func39 rfl Tryd.ntmps39 rfl h ?_
  clear h hF hg
  refine c_seq ?_
  refine c_region ?_
  refine stw (o_box rfl rfl [v1, (.bool a_0_Accept)] rfl ?_); intro b4
  refine o_as st rfl rfl ?_
  refine c_nil ?_
  refine l_then ?_
  refine c_seq ?_
  refine c_region ?_
  refine o_fad st rfl rfl fld25_0 rfl ?_
  refine o_ldc st (v := v1) 0 rfl rfl rfl ty23 rfl ?_
  refine o_mv st rfl rfl ?_
  refine pk [1, 0] rfl ?_
  refine stw (o_call (vs := [v1, (.int .i64 k_1)]) (M0 := [dpCh (dSl dGRule 104) 101 bb2 v1 a_0_Chains]) Tryd.call82 rfl rfl (by intro w m h; exact (w_laws_markRuleSS (F := allB [dpCh (dSl dGRule 104) 101 bb2 v1 a_0_Chains] w) (a_0 := a_0_Chains) (k_1 := k_1) allB_ok m.given h).mono (fun _ _ k => ret_free (fun r u => (fr_cons free_dp fr_nil)) k)) ?_); rintro ⟨r6, r7⟩ bb8
  refine o_as st rfl rfl ?_
  refine c_nil ?_
  refine l_then ?_
  refine c_seq ?_
  refine c_region ?_
  refine o_mv st rfl rfl ?_
  refine o_as st rfl rfl ?_
  refine c_nil ?_
  refine l_then ?_
  refine c_ret ?_
  exact l_end1 Tryd.results39 (r6, r7) bb8 (rv_t rfl) (fun w m => NewCh.ofB m [0] rfl)

set_option maxRecDepth 100000 in
set_option maxHeartbeats 8000000 in
theorem w_laws_szPacketS {w0 : World} {F : Nat → Prop} {v1 : Value} {a_0 : (List GPacket)} {left_1 : Int} {κ : Int → Prop} (hF : ∀ b, F b → b < w0.heap.size ∧ ¬ feet [] b) (hv1 : Sl elGPacket F w0 v1 a_0) (h : L_laws_szPacketS a_0 left_1 κ) :
    Calls Tryd.prog 42 #[v1, (.int .i64 left_1)] w0 (Ret [] F w0 κ (fun (r : Int) (u : Unit) => (.int .i64 r)) (fun (r : Int) (u : Unit) => [])) := by
  refine enterS (args := [v1, (.int .i64 left_1)]) [] hF (Given.nil _ _) Tryd.func42 rfl Tryd.ntmps42 rfl h ?_
  clear h hF
  refine c_seq ?_
  refine c_region ?_
  refine o_as st rfl rfl ?_
  refine c_nil ?_
  refine l_then ?_
  refine c_seq ?_
  refine c_region ?_
  refine o_mv st rfl rfl ?_
  refine o_mv st rfl rfl ?_
  refine o_len st el68 0 rfl (reads_snap hv1) rfl rfl ?_
  refine o_sub st rfl rfl rfl ?_; intro t3
  refine o_as st rfl rfl ?_
  refine c_nil ?_
  refine l_then ?_
  refine c_seq ?_
  refine c_seq ?_
  refine c_region ?_
  refine o_mv st rfl rfl ?_
  refine o_lss st rfl rfl rfl ?_
  refine c_nil ?_
  refine l_then ?_
  refine c_cond rfl ?_ ?_
  · refine c_seq ?_
    refine c_region ?_
    refine o_as st rfl rfl ?_
    refine c_nil ?_
    refine l_then ?_
    refine c_ret ?_
    refine l_ret ?_
    exact l_end1 Tryd.results42 (-1) () (rv_t rfl) (fun _ _ => NewCh.nil _ _ _ _)
  · refine c_skip ?_
    refine l_then ?_
    refine c_seq ?_
    refine c_region ?_
    refine o_mv st rfl rfl ?_
    refine o_as st rfl rfl ?_
    refine c_nil ?_
    refine l_then ?_
    refine c_ret ?_
    exact l_end1 Tryd.results42 t3 () (rv_t rfl) (fun _ _ => NewCh.nil _ _ _ _)

set_option maxRecDepth 100000 in
set_option maxHeartbeats 8000000 in
theorem w_laws_toPacketS {w0 : World} {F : Nat → Prop} {v1 : Value} {a_0 : (List GPacket)} {κ : (List GPacket) → Prop} (hF : ∀ b, F b → b < w0.heap.size ∧ ¬ feet [] b) (hv1 : Sl elGPacket F w0 v1 a_0) (h : L_laws_toPacketS a_0 κ) :
    Calls Tryd.prog 43 #[v1] w0 (Ret [] F w0 κ (fun (r : (List GPacket)) (u : Value) => u) (fun (r : (List GPacket)) (u : Value) => [ownCh elGPacket 40 u r])) := by
  refine enterS (args := [v1]) [] hF (Given.nil _ _) Tryd.func43 rfl Tryd.ntmps43 rfl h ?_
  clear h hF
  refine c_seq ?_
  refine c_region ?_
  refine stw (o_asn elGPacket 40 rfl rfl ?_)
  refine c_nil ?_
  refine l_then ?_
  refine c_seq ?_
  refine c_region ?_
  refine o_mv st rfl rfl ?_
  refine o_len st el68 1 rfl (reads_snap hv1) rfl rfl ?_
  refine stw (o_make (z := (GPacket.mk 0 0 0 0)) flelGPacket rfl rfl rfl el26 rfl zero40 rfl rfl ?_); intro v4 xs5
  refine o_as st rfl rfl ?_
  refine c_nil ?_
  refine l_then ?_
  refine c_seq ?_
  refine c_seq ?_
  refine c_region ?_
  refine o_as st rfl rfl ?_
  refine c_nil ?_
  refine l_then ?_
  refine c_block ?_
  refine c_loop (σ := ((List GPacket) × Int)) (fun ((xs7, t9) : ((List GPacket) × Int)) (a : Act) (w : World) => Has 23 [(0, v1), (3, v4), (4, (.int .i64 t9))] a ∧ Mem (gB F [] w0) (feet []) w0 [ownCh elGPacket 40 v4 xs7, snapCh w0 F] w) (fun a w hE hm => ⟨hE.sub ⟨rfl, rfl, rfl, trivial⟩, (hm.pick [0, 2] rfl)⟩) ?_
  rintro nx10 ⟨xs7, t9⟩ a w ⟨hE, hm⟩ h
  refine nx_of hE hm h ?_
  clear hE hm h
  refine c_seq ?_
  refine c_seq ?_
  refine c_region ?_
  refine o_mv st rfl rfl ?_
  refine o_mv st rfl rfl ?_
  refine o_len st el68 1 rfl (reads_snap hv1) rfl rfl ?_
  refine o_lss st rfl rfl rfl ?_
  refine c_nil ?_
  refine l_then ?_
  refine c_cond rfl ?_ ?_
  · refine c_skip ?_
    refine l_then ?_
    refine c_seq ?_
    refine c_block ?_
    refine c_region ?_
    refine o_mv st rfl rfl ?_
    refine o_mv st rfl rfl ?_
    refine o_mv st rfl rfl ?_
    refine o_mv st rfl rfl ?_
    refine o_idx st 1 rfl (reads_snap hv1) rfl rfl rfl el68 ?_; intro e11 h12
    refine o_lds st (enc := encGPacket) (u := (.agg #[(.int .i64 e11.xFrom), (.int .i64 e11.xTo), (.int .i64 e11.xPort), (.int .i64 e11.xProto)])) 1 rfl (reads_snap hv1) flelGPacket rfl h12 rfl rfl ty36 rfl ?_
    refine stw (o_callP (vs := [(.agg #[(.int .i64 e11.xFrom), (.int .i64 e11.xTo), (.int .i64 e11.xPort), (.int .i64 e11.xProto)])]) Tryd.call18 rfl rfl (by intro w m h; exact (w_laws_toPacket (F := allB [] w) (a_0 := e11) allB_ok h).mono (fun _ _ k => ret_free (fun r u => fr_nil) k)) ?_); rintro r13 _
    refine o_idx st 0 rfl reads_own rfl rfl rfl el26 ?_; intro e14 h15
    refine stw (o_sts (enc := encGPacket) (y' := r13) 0 rfl flelGPacket rfl h15 ty40 rfl rfl rfl rfl rfl rfl ?_)
    refine c_nil ?_
    refine b_norm ?_
    refine l_then ?_
    refine c_region ?_
    refine o_mv st rfl rfl ?_
    refine o_add st rfl rfl rfl ?_; intro t17
    refine o_as st rfl rfl ?_
    refine c_nil ?_
    exact l_join ((xs7.set (t9).toNat r13), t17) (fun a w hE hm => ⟨hE.sub ⟨rfl, rfl, rfl, trivial⟩, (hm.pick [0, 1] rfl)⟩)
  · refine c_exit ?_
    refine l_exit ?_
    refine l_exit ?_
    refine b_exit ?_
    refine l_then ?_
    refine c_seq ?_
    refine c_region ?_
    refine o_mv st rfl rfl ?_
    refine o_as st rfl rfl ?_
    refine c_nil ?_
    refine l_then ?_
    refine c_ret ?_
    exact l_end1 Tryd.results43 xs7 v4 (rv_t rfl) (fun w m => NewCh.ofB m [0] rfl)

set_option maxRecDepth 100000 in
set_option maxHeartbeats 8000000 in
theorem w_laws_eqBoolS {w0 : World} {F : Nat → Prop} {v1 : Value} {v3 : Value} {a_0 : (List Bool)} {b_1 : (List Bool)} {κ : Bool → Prop} (hF : ∀ b, F b → b < w0.heap.size ∧ ¬ feet [] b) (hv1 : Sl elBool F w0 v1 a_0) (hv3 : Sl elBool F w0 v3 b_1) (h : L_laws_eqBoolS a_0 b_1 κ) :
    Calls Tryd.prog 44 #[v1, v3] w0 (Ret [] F w0 κ (fun (r : Bool) (u : Unit) => (.bool r)) (fun (r : Bool) (u : Unit) => [])) := by
  refine enterS (args := [v1, v3]) [] hF (Given.nil _ _) Tryd.func44 rfl Tryd.ntmps44 rfl h ?_
  clear h hF
  refine c_seq ?_
  refine c_region ?_
  refine o_as st rfl rfl ?_
  refine c_nil ?_
  refine l_then ?_
  refine c_seq ?_
  refine c_seq ?_
  refine c_region ?_
  refine o_mv st rfl rfl ?_
  refine o_len st el50 0 rfl (reads_snap hv1) rfl rfl ?_
  refine o_mv st rfl rfl ?_
  refine o_len st el50 0 rfl (reads_snap hv3) rfl rfl ?_
  refine o_neq st und3 rfl rfl rfl ?_
  refine c_nil ?_
  refine l_then ?_
  refine c_cond rfl ?_ ?_
  · refine c_seq ?_
    refine c_region ?_
    refine o_as st rfl rfl ?_
    refine c_nil ?_
    refine l_then ?_
    refine c_ret ?_
    refine l_ret ?_
    exact l_end1 Tryd.results44 false () (rv_t rfl) (fun _ _ => NewCh.nil _ _ _ _)
  · refine c_skip ?_
    refine l_then ?_
    refine c_seq ?_
    refine c_seq ?_
    refine c_region ?_
    refine o_as st rfl rfl ?_
    refine c_nil ?_
    refine l_then ?_
    refine c_block ?_
    refine c_loop (σ := Int) (fun (t5 : Int) (a : Act) (w : World) => Has 26 [(0, v1), (1, v3), (5, (.int .i64 t5))] a ∧ Mem (gB F [] w0) (feet []) w0 [snapCh w0 F] w) (fun a w hE hm => ⟨hE.sub ⟨rfl, rfl, rfl, trivial⟩, (hm.pick [0] rfl)⟩) ?_
    rintro nx6 t5 a w ⟨hE, hm⟩ h
    refine nx_of hE hm h ?_
    clear hE hm h
    refine c_seq ?_
    refine c_seq ?_
    refine c_region ?_
    refine o_mv st rfl rfl ?_
    refine o_mv st rfl rfl ?_
    refine o_len st el50 0 rfl (reads_snap hv1) rfl rfl ?_
    refine o_lss st rfl rfl rfl ?_
    refine c_nil ?_
    refine l_then ?_
    refine c_cond rfl ?_ ?_
    · refine c_skip ?_
      refine l_then ?_
      refine c_seq ?_
      refine c_block ?_
      refine c_seq ?_
      refine c_draw mixed 9 rfl [snapCh w0 F] ?_
      refine o_mv (dt 0 (fun _ m => m)) rfl rfl ?_
      refine o_mv (dt 1 (fun _ m => m)) rfl rfl ?_
      refine o_idx (dt 2 (fun _ m => m)) 0 rfl (reads_snap hv1) rfl rfl rfl el50 ?_; intro e7 h8
      refine o_lds (dt 3 (fun _ m => m)) (enc := encBool) (u := (.bool e7)) 0 rfl (reads_snap hv1) flelBool rfl h8 rfl rfl ty4 rfl ?_
      refine o_mv (dt 4 (fun _ m => m)) rfl rfl ?_
      refine o_mv (dt 5 (fun _ m => m)) rfl rfl ?_
      refine o_idx (dt 6 (fun _ m => m)) 0 rfl (reads_snap hv3) rfl rfl rfl el50 ?_; intro e9 h10
      refine o_lds (dt 7 (fun _ m => m)) (enc := encBool) (u := (.bool e9)) 0 rfl (reads_snap hv3) flelBool rfl h10 rfl rfl ty4 rfl ?_
      refine o_neqB (dt 8 (fun _ m => m)) und4 rfl rfl rfl ?_
      refine d_done (by kernel_rfl) ?_
      refine l_then ?_
      refine c_cond rfl ?_ ?_
      · refine c_seq ?_
        refine c_region ?_
        refine o_as st rfl rfl ?_
        refine c_nil ?_
        refine l_then ?_
        refine c_ret ?_
        refine b_ret ?_
        refine l_ret ?_
        refine l_ret ?_
        refine b_ret ?_
        refine l_ret ?_
        exact l_end1 Tryd.results44 false () (rv_t rfl) (fun _ _ => NewCh.nil _ _ _ _)
      · refine c_skip ?_
        refine b_norm ?_
        refine l_then ?_
        refine c_region ?_
        refine o_mv st rfl rfl ?_
        refine o_add st rfl rfl rfl ?_; intro t11
        refine o_as st rfl rfl ?_
        refine c_nil ?_
        exact l_join t11 (fun a w hE hm => ⟨hE.sub ⟨rfl, rfl, rfl, trivial⟩, (hm.pick [0] rfl)⟩)
    · refine c_exit ?_
      refine l_exit ?_
      refine l_exit ?_
      refine b_exit ?_
      refine l_then ?_
      refine c_seq ?_
      refine c_region ?_
      refine o_as st rfl rfl ?_
      refine c_nil ?_
      refine l_then ?_
      refine c_ret ?_
      exact l_end1 Tryd.results44 true () (rv_t rfl) (fun _ _ => NewCh.nil _ _ _ _)

set_option maxRecDepth 100000 in
set_option maxHeartbeats 8000000 in
theorem w_laws_eqPacketS {w0 : World} {F : Nat → Prop} {v1 : Value} {v3 : Value} {a_0 : (List GPacket)} {b_1 : (List GPacket)} {κ : Bool → Prop} (hF : ∀ b, F b → b < w0.heap.size ∧ ¬ feet [] b) (hv1 : Sl elGPacket F w0 v1 a_0) (hv3 : Sl elGPacket F w0 v3 b_1) (h : L_laws_eqPacketS a_0 b_1 κ) :
    Calls Tryd.prog 45 #[v1, v3] w0 (Ret [] F w0 κ (fun (r : Bool) (u : Unit) => (.bool r)) (fun (r : Bool) (u : Unit) => [])) := by
  refine enterS (args := [v1, v3]) [] hF (Given.nil _ _) Tryd.func45 rfl Tryd.ntmps45 rfl h ?_
  clear h hF
  refine c_seq ?_
  refine c_region ?_
  refine o_as st rfl rfl ?_
  refine c_nil ?_
  refine l_then ?_
  refine c_seq ?_
  refine c_seq ?_
  refine c_region ?_
  refine o_mv st rfl rfl ?_
  refine o_len st el26 0 rfl (reads_snap hv1) rfl rfl ?_
  refine o_mv st rfl rfl ?_
  refine o_len st el26 0 rfl (reads_snap hv3) rfl rfl ?_
  refine o_neq st und3 rfl rfl rfl ?_
  refine c_nil ?_
  refine l_then ?_
  refine c_cond rfl ?_ ?_
  · refine c_seq ?_
    refine c_region ?_
    refine o_as st rfl rfl ?_
    refine c_nil ?_
    refine l_then ?_
    refine c_ret ?_
    refine l_ret ?_
    exact l_end1 Tryd.results45 false () (rv_t rfl) (fun _ _ => NewCh.nil _ _ _ _)
  · refine c_skip ?_
    refine l_then ?_
    refine c_seq ?_
    refine c_seq ?_
    refine c_region ?_
    refine o_as st rfl rfl ?_
    refine c_nil ?_
    refine l_then ?_
    refine c_block ?_
    refine c_loop (σ := Int) (fun (t5 : Int) (a : Act) (w : World) => Has 27 [(0, v1), (1, v3), (5, (.int .i64 t5))] a ∧ Mem (gB F [] w0) (feet []) w0 [snapCh w0 F] w) (fun a w hE hm => ⟨hE.sub ⟨rfl, rfl, rfl, trivial⟩, (hm.pick [0] rfl)⟩) ?_
    rintro nx6 t5 a w ⟨hE, hm⟩ h
    refine nx_of hE hm h ?_
    clear hE hm h
    refine c_seq ?_
    refine c_seq ?_
    refine c_region ?_
    refine o_mv st rfl rfl ?_
    refine o_mv st rfl rfl ?_
    refine o_len st el26 0 rfl (reads_snap hv1) rfl rfl ?_
    refine o_lss st rfl rfl rfl ?_
    refine c_nil ?_
    refine l_then ?_
    refine c_cond rfl ?_ ?_
    · refine c_skip ?_
      refine l_then ?_
      refine c_seq ?_
      refine c_block ?_
      refine c_seq ?_
      refine c_draw mixed 10 rfl [snapCh w0 F] ?_
      refine o_mv (dt 0 (fun _ m => m)) rfl rfl ?_
      refine o_mv (dt 1 (fun _ m => m)) rfl rfl ?_
      refine o_idx (dt 2 (fun _ m => m)) 0 rfl (reads_snap hv1) rfl rfl rfl el26 ?_; intro e7 h8
      refine o_lds (dt 3 (fun _ m => m)) (enc := encGPacket) (u := (.agg #[(.int .i64 e7.xFrom), (.int .i64 e7.xTo), (.int .i64 e7.xPort), (.int .i64 e7.xProto)])) 0 rfl (reads_snap hv1) flelGPacket rfl h8 rfl rfl ty40 rfl ?_
      refine o_mv (dt 4 (fun _ m => m)) rfl rfl ?_
      refine o_mv (dt 5 (fun _ m => m)) rfl rfl ?_
      refine o_idx (dt 6 (fun _ m => m)) 0 rfl (reads_snap hv3) rfl rfl rfl el26 ?_; intro e9 h10
      refine o_lds (dt 7 (fun _ m => m)) (enc := encGPacket) (u := (.agg #[(.int .i64 e9.xFrom), (.int .i64 e9.xTo), (.int .i64 e9.xPort), (.int .i64 e9.xProto)])) 0 rfl (reads_snap hv3) flelGPacket rfl h10 rfl rfl ty40 rfl ?_
      refine d_one (i := 8) rfl (by kernel_rfl) (o_callP (vs := [(.agg #[(.int .i64 e7.xFrom), (.int .i64 e7.xTo), (.int .i64 e7.xPort), (.int .i64 e7.xProto)]), (.agg #[(.int .i64 e9.xFrom), (.int .i64 e9.xTo), (.int .i64 e9.xPort), (.int .i64 e9.xProto)])]) Tryd.call83 rfl rfl (by intro w m h; exact (w_laws_eqPacket (F := allB [] w) (a_0 := e7) (b_1 := e9) allB_ok h).mono (fun _ _ k => ret_free (fun r u => fr_nil) k)) ?_); rintro r11 _
      refine d_and (fun _ m => m) ?_
      refine o_not (dt 9 (fun _ m => m)) rfl rfl ?_
      refine d_done (by kernel_rfl) ?_
      refine l_then ?_
      refine c_cond rfl ?_ ?_
      · refine c_seq ?_
        refine c_region ?_
        refine o_as st rfl rfl ?_
        refine c_nil ?_
        refine l_then ?_
        refine c_ret ?_
        refine b_ret ?_
        refine l_ret ?_
        refine l_ret ?_
        refine b_ret ?_
        refine l_ret ?_
        exact l_end1 Tryd.results45 false () (rv_t rfl) (fun _ _ => NewCh.nil _ _ _ _)
      · refine c_skip ?_
        refine b_norm ?_
        refine l_then ?_
        refine c_region ?_
        refine o_mv st rfl rfl ?_
        refine o_add st rfl rfl rfl ?_; intro t12
        refine o_as st rfl rfl ?_
        refine c_nil ?_
        exact l_join t12 (fun a w hE hm => ⟨hE.sub ⟨rfl, rfl, rfl, trivial⟩, (hm.pick [0] rfl)⟩)
    · refine c_exit ?_
      refine l_exit ?_
      refine l_exit ?_
      refine b_exit ?_
      refine l_then ?_
      refine c_seq ?_
      refine c_region ?_
      refine o_as st rfl rfl ?_
      refine c_nil ?_
      refine l_then ?_
      refine c_ret ?_
      exact l_end1 Tryd.results45 true () (rv_t rfl) (fun _ _ => NewCh.nil _ _ _ _)

set_option maxRecDepth 100000 in
set_option maxHeartbeats 8000000 in
theorem w_laws_markPacketS {w0 : World} {F : Nat → Prop} {v1 : Value} {a_0 : (List GPacket)} {k_1 : Int} {κ : (Int × (List GPacket)) → Prop} (hF : ∀ b, F b → b < w0.heap.size ∧ ¬ feet [ownCh elGPacket 40 v1 a_0] b) (hg : Given [ownCh elGPacket 40 v1 a_0] F w0) (h : L_laws_markPacketS a_0 k_1 κ) :
    Calls Tryd.prog 46 #[v1, (.int .i64 k_1)] w0 (Ret [ownCh elGPacket 40 v1 a_0] F w0 κ (fun (r : (Int × (List GPacket))) (u : Unit) => (.int .i64 r.1)) (fun (r : (Int × (List GPacket))) (u : Unit) => [ownCh elGPacket 40 v1 r.2])) := by
  refine enter0 (args := [v1, (.int .i64 k_1)]) [ownCh elGPacket 40 v1 a_0] hF hg Tryd.func46 rfl Tryd.ntmps46 rfl h ?_
  clear h hF hg
  refine c_seq ?_
  refine c_region ?_
  refine o_as st rfl rfl ?_
  refine c_nil ?_
  refine l_then ?_
  refine c_seq ?_
  refine c_seq ?_
  refine c_region ?_
  refine o_as st rfl rfl ?_
  refine c_nil ?_
  refine l_then ?_
  refine c_block ?_
  refine c_loop (σ := ((List GPacket) × Int × Int)) (fun ((xs3, t5, t6) : ((List GPacket) × Int × Int)) (a : Act) (w : World) => Has 41 [(0, v1), (1, (.int .i64 t5)), (5, (.int .i64 t6))] a ∧ Mem (gB F [ownCh elGPacket 40 v1 a_0] w0) (feet [ownCh elGPacket 40 v1 a_0]) w0 [ownCh elGPacket 40 v1 xs3] w) (fun a w hE hm => ⟨hE.sub ⟨rfl, rfl, rfl, trivial⟩, (hm.pick [0] rfl)⟩) ?_
  rintro nx7 ⟨xs3, t5, t6⟩ a w ⟨hE, hm⟩ h
  refine nx_of hE hm h ?_
  clear hE hm h
  refine c_seq ?_
  refine c_seq ?_
  refine c_region ?_
  refine o_mv st rfl rfl ?_
  refine o_mv st rfl rfl ?_
  refine o_len st el26 0 rfl reads_own rfl rfl ?_
  refine o_lss st rfl rfl rfl ?_
  refine c_nil ?_
  refine l_then ?_
  refine c_cond rfl ?_ ?_
  · refine c_skip ?_
    refine l_then ?_
    refine c_seq ?_
    refine c_block ?_
    refine c_seq ?_
    refine c_region ?_
    refine o_mv st rfl rfl ?_
    refine o_mv st rfl rfl ?_
    refine o_mv st rfl rfl ?_
    refine o_idx st 0 rfl reads_own rfl rfl rfl el26 ?_; intro e8 h9
    refine o_fadS st 0 rfl reads_own h9 rfl rfl fld40_0 rfl ?_
    refine stw (o_sts (enc := encGPacket) (y' := (GPacket.mk t5 e8.xTo e8.xPort e8.xProto)) 0 rfl flelGPacket rfl h9 ty3 rfl rfl rfl rfl rfl rfl ?_)
    refine c_nil ?_
    refine l_then ?_
    refine c_seq ?_
    refine c_region ?_
    refine o_mv st rfl rfl ?_
    refine o_add st rfl rfl rfl ?_; intro t11
    refine o_as st rfl rfl ?_
    refine c_nil ?_
    refine l_then ?_
    refine c_seq ?_
    refine c_region ?_
    refine o_mv st rfl rfl ?_
    refine o_mv st rfl rfl ?_
    refine o_mv st rfl rfl ?_
    refine o_idx st 0 rfl reads_own rfl rfl rfl el26 ?_; intro e12 h13
    refine o_fadS st 0 rfl reads_own h13 rfl rfl fld40_1 rfl ?_
    refine stw (o_sts (enc := encGPacket) (y' := (GPacket.mk e12.xFrom t11 e12.xPort e12.xProto)) 0 rfl flelGPacket rfl h13 ty3 rfl rfl rfl rfl rfl rfl ?_)
    refine c_nil ?_
    refine l_then ?_
    refine c_seq ?_
    refine c_region ?_
    refine o_mv st rfl rfl ?_
    refine o_add st rfl rfl rfl ?_; intro t15
    refine o_as st rfl rfl ?_
    refine c_nil ?_
    refine l_then ?_
    refine c_seq ?_
    refine c_region ?_
    refine o_mv st rfl rfl ?_
    refine o_mv st rfl rfl ?_
    refine o_mv st rfl rfl ?_
    refine o_idx st 0 rfl reads_own rfl rfl rfl el26 ?_; intro e16 h17
    refine o_fadS st 0 rfl reads_own h17 rfl rfl fld40_2 rfl ?_
    refine stw (o_sts (enc := encGPacket) (y' := (GPacket.mk e16.xFrom e16.xTo t15 e16.xProto)) 0 rfl flelGPacket rfl h17 ty3 rfl rfl rfl rfl rfl rfl ?_)
    refine c_nil ?_
    refine l_then ?_
    refine c_seq ?_
    refine c_region ?_
    refine o_mv st rfl rfl ?_
    refine o_add st rfl rfl rfl ?_; intro t19
    refine o_as st rfl rfl ?_
    refine c_nil ?_
    refine l_then ?_
    refine c_seq ?_
    refine c_region ?_
    refine o_mv st rfl rfl ?_
    refine o_mv st rfl rfl ?_
    refine o_mv st rfl rfl ?_
    refine o_idx st 0 rfl reads_own rfl rfl rfl el26 ?_; intro e20 h21
    refine o_fadS st 0 rfl reads_own h21 rfl rfl fld40_3 rfl ?_
    refine stw (o_sts (enc := encGPacket) (y' := (GPacket.mk e20.xFrom e20.xTo e20.xPort t19)) 0 rfl flelGPacket rfl h21 ty3 rfl rfl rfl rfl rfl rfl ?_)
    refine c_nil ?_
    refine l_then ?_
    refine c_region ?_
    refine o_mv st rfl rfl ?_
    refine o_add st rfl rfl rfl ?_; intro t23
    refine o_as st rfl rfl ?_
    refine c_nil ?_
    refine b_norm ?_
    refine l_then ?_
    refine c_region ?_
    refine o_mv st rfl rfl ?_
    refine o_add st rfl rfl rfl ?_; intro t24
    refine o_as st rfl rfl ?_
    refine c_nil ?_
    exact l_join (((((xs3.set (t6).toNat (GPacket.mk t5 e8.xTo e8.xPort e8.xProto)).set (t6).toNat (GPacket.mk e12.xFrom t11 e12.xPort e12.xProto)).set (t6).toNat (GPacket.mk e16.xFrom e16.xTo t15 e16.xProto)).set (t6).toNat (GPacket.mk e20.xFrom e20.xTo e20.xPort t19)), t23, t24) (fun a w hE hm => ⟨hE.sub ⟨rfl, rfl, rfl, trivial⟩, (hm.pick [0] rfl)⟩)
  · refine c_exit ?_
    refine l_exit ?_
    refine l_exit ?_
    refine b_exit ?_
    refine l_then ?_
    refine c_seq ?_
    refine c_region ?_
    refine o_mv st rfl rfl ?_
    refine o_as st rfl rfl ?_
    refine c_nil ?_
    refine l_then ?_
    refine c_ret ?_
    exact l_end1 Tryd.results46 (t5, xs3) () (rv_t rfl) (fun w m => NewCh.ofB m [0] rfl)

set_option maxRecDepth 100000 in
set_option maxHeartbeats 8000000 in
theorem w_laws_markBoolS {w0 : World} {F : Nat → Prop} {v1 : Value} {a_0 : (List Bool)} {k_1 : Int} {κ : (Int × (List Bool)) → Prop} (hF : ∀ b, F b → b < w0.heap.size ∧ ¬ feet [ownCh elBool 4 v1 a_0] b) (hg : Given [ownCh elBool 4 v1 a_0] F w0) (h : L_laws_markBoolS a_0 k_1 κ) :
    Calls Tryd.prog 47 #[v1, (.int .i64 k_1)] w0 (Ret [ownCh elBool 4 v1 a_0] F w0 κ (fun (r : (Int × (List Bool))) (u : Unit) => (.int .i64 r.1)) (fun (r : (Int × (List Bool))) (u : Unit) => [ownCh elBool 4 v1 r.2])) := by
  refine enter0 (args := [v1, (.int .i64 k_1)]) [ownCh elBool 4 v1 a_0] hF hg Tryd.func47 rfl Tryd.ntmps47 rfl h ?_
  clear h hF hg
  refine c_seq ?_
  refine c_region ?_
  refine o_as st rfl rfl ?_
  refine c_nil ?_
  refine l_then ?_
  refine c_seq ?_
  refine c_seq ?_
  refine c_region ?_
  refine o_as st rfl rfl ?_
  refine c_nil ?_
  refine l_then ?_
  refine c_block ?_
  refine c_loop (σ := ((List Bool) × Int × Int)) (fun ((xs3, t5, t6) : ((List Bool) × Int × Int)) (a : Act) (w : World) => Has 21 [(0, v1), (1, (.int .i64 t5)), (5, (.int .i64 t6))] a ∧ Mem (gB F [ownCh elBool 4 v1 a_0] w0) (feet [ownCh elBool 4 v1 a_0]) w0 [ownCh elBool 4 v1 xs3] w) (fun a w hE hm => ⟨hE.sub ⟨rfl, rfl, rfl, trivial⟩, (hm.pick [0] rfl)⟩) ?_
  rintro nx7 ⟨xs3, t5, t6⟩ a w ⟨hE, hm⟩ h
  refine nx_of hE hm h ?_
  clear hE hm h
  refine c_seq ?_
  refine c_seq ?_
  refine c_region ?_
  refine o_mv st rfl rfl ?_
  refine o_mv st rfl rfl ?_
  refine o_len st el50 0 rfl reads_own rfl rfl ?_
  refine o_lss st rfl rfl rfl ?_
  refine c_nil ?_
  refine l_then ?_
  refine c_cond rfl ?_ ?_
  · refine c_skip ?_
    refine l_then ?_
    refine c_seq ?_
    refine c_block ?_
    refine c_seq ?_
    refine c_region ?_
    refine o_mv st rfl rfl ?_
    refine o_mv st rfl rfl ?_
    refine o_mv st rfl rfl ?_
    refine o_rem st rfl rfl rfl ?_; intro t8
    refine o_eql st und3 rfl rfl rfl ?_
    refine o_idx st 0 rfl reads_own rfl rfl rfl el50 ?_; intro e9 h10
    refine stw (o_sts (enc := encBool) (y' := (decide (t8 = 0))) 0 rfl flelBool rfl h10 ty4 rfl rfl rfl rfl rfl rfl ?_)
    refine c_nil ?_
    refine l_then ?_
    refine c_region ?_
    refine o_mv st rfl rfl ?_
    refine o_add st rfl rfl rfl ?_; intro t12
    refine o_as st rfl rfl ?_
    refine c_nil ?_
    refine b_norm ?_
    refine l_then ?_
    refine c_region ?_
    refine o_mv st rfl rfl ?_
    refine o_add st rfl rfl rfl ?_; intro t13
    refine o_as st rfl rfl ?_
    refine c_nil ?_
    exact l_join ((xs3.set (t6).toNat (decide (t8 = 0))), t12, t13) (fun a w hE hm => ⟨hE.sub ⟨rfl, rfl, rfl, trivial⟩, (hm.pick [0] rfl)⟩)
  · refine c_exit ?_
    refine l_exit ?_
    refine l_exit ?_
    refine b_exit ?_
    refine l_then ?_
    refine c_seq ?_
    refine c_region ?_
    refine o_mv st rfl rfl ?_
    refine o_as st rfl rfl ?_
    refine c_nil ?_
    refine l_then ?_
    refine c_ret ?_
    exact l_end1 Tryd.results47 (t5, xs3) () (rv_t rfl) (fun w m => NewCh.ofB m [0] rfl)

set_option maxRecDepth 100000 in
set_option maxHeartbeats 8000000 in
theorem w_laws_heldBoolS {w0 : World} {F : Nat → Prop} {v1 : Value} {a_0 : (List Bool)} {k_1 : Int} {κ : Int → Prop} (hF : ∀ b, F b → b < w0.heap.size ∧ ¬ feet [] b) (hv1 : Sl elBool F w0 v1 a_0) (h : L_laws_heldBoolS a_0 k_1 κ) :
    Calls Tryd.prog 48 #[v1, (.int .i64 k_1)] w0 (Ret [] F w0 κ (fun (r : Int) (u : Unit) => (.int .i64 r)) (fun (r : Int) (u : Unit) => [])) := by
  refine enterS (args := [v1, (.int .i64 k_1)]) [] hF (Given.nil _ _) Tryd.func48 rfl Tryd.ntmps48 rfl h ?_
  clear h hF
  refine c_seq ?_
  refine c_region ?_
  refine o_as st rfl rfl ?_
  refine c_nil ?_
  refine l_then ?_
  refine c_seq ?_
  refine c_seq ?_
  refine c_region ?_
  refine o_as st rfl rfl ?_
  refine c_nil ?_
  refine l_then ?_
  refine c_block ?_
  refine c_loop (σ := (Int × Int)) (fun ((t3, t4) : (Int × Int)) (a : Act) (w : World) => Has 23 [(0, v1), (1, (.int .i64 t3)), (5, (.int .i64 t4))] a ∧ Mem (gB F [] w0) (feet []) w0 [snapCh w0 F] w) (fun a w hE hm => ⟨hE.sub ⟨rfl, rfl, rfl, trivial⟩, (hm.pick [0] rfl)⟩) ?_
  rintro nx5 ⟨t3, t4⟩ a w ⟨hE, hm⟩ h
  refine nx_of hE hm h ?_
  clear hE hm h
  refine c_seq ?_
  refine c_seq ?_
  refine c_region ?_
  refine o_mv st rfl rfl ?_
  refine o_mv st rfl rfl ?_
  refine o_len st el50 0 rfl (reads_snap hv1) rfl rfl ?_
  refine o_lss st rfl rfl rfl ?_
  refine c_nil ?_
  refine l_then ?_
  refine c_cond rfl ?_ ?_
  · refine c_skip ?_
    refine l_then ?_
    refine c_seq ?_
    refine c_block ?_
    refine c_seq ?_
    refine c_seq ?_
    refine c_region ?_
    refine o_mv st rfl rfl ?_
    refine o_mv st rfl rfl ?_
    refine o_idx st 0 rfl (reads_snap hv1) rfl rfl rfl el50 ?_; intro e6 h7
    refine o_lds st (enc := encBool) (u := (.bool e6)) 0 rfl (reads_snap hv1) flelBool rfl h7 rfl rfl ty4 rfl ?_
    refine o_mv st rfl rfl ?_
    refine o_rem st rfl rfl rfl ?_; intro t8
    refine o_eql st und3 rfl rfl rfl ?_
    refine o_neqB st und4 rfl rfl rfl ?_
    refine c_nil ?_
    refine l_then ?_
    refine c_cond rfl ?_ ?_
    · refine c_seq ?_
      refine c_region ?_
      refine o_as st rfl rfl ?_
      refine c_nil ?_
      refine l_then ?_
      refine c_ret ?_
      refine l_ret ?_
      refine b_ret ?_
      refine l_ret ?_
      refine l_ret ?_
      refine b_ret ?_
      refine l_ret ?_
      exact l_end1 Tryd.results48 (-1) () (rv_t rfl) (fun _ _ => NewCh.nil _ _ _ _)
    · refine c_skip ?_
      refine l_then ?_
      refine c_region ?_
      refine o_mv st rfl rfl ?_
      refine o_add st rfl rfl rfl ?_; intro t9
      refine o_as st rfl rfl ?_
      refine c_nil ?_
      refine b_norm ?_
      refine l_then ?_
      refine c_region ?_
      refine o_mv st rfl rfl ?_
      refine o_add st rfl rfl rfl ?_; intro t10
      refine o_as st rfl rfl ?_
      refine c_nil ?_
      exact l_join (t9, t10) (fun a w hE hm => ⟨hE.sub ⟨rfl, rfl, rfl, trivial⟩, (hm.pick [0] rfl)⟩)
  · refine c_exit ?_
    refine l_exit ?_
    refine l_exit ?_
    refine b_exit ?_
    refine l_then ?_
    refine c_seq ?_
    refine c_region ?_
    refine o_mv st rfl rfl ?_
    refine o_as st rfl rfl ?_
    refine c_nil ?_
    refine l_then ?_
    refine c_ret ?_
    exact l_end1 Tryd.results48 t3 () (rv_t rfl) (fun _ _ => NewCh.nil _ _ _ _)

set_option maxRecDepth 100000 in
set_option maxHeartbeats 8000000 in
theorem w_laws_FnExactPassAll {w0 : World} {F : Nat → Prop} {v1 : Value} {v3 : Value} {aS_0 : GRuleset} {aPackets_1 : (List GPacket)} {aStep_2 : Int} {aLife_3 : Int} {κ : Bool → Prop} (hF : ∀ b, F b → b < w0.heap.size ∧ ¬ feet [] b) (hv1 : Sl (elSl elGRule) F w0 v1 aS_0.xChains) (hv3 : Sl elGPacket F w0 v3 aPackets_1) (hgl0 : Sl elGFieldShape F w0 (.slice (some ⟨0, 0, none⟩) 4 4) gl_impl_fieldShapes) (h : L_laws_FnExactPassAll aS_0 aPackets_1 aStep_2 aLife_3 κ) :
    Calls Tryd.prog 10 #[(.agg #[v1, (.bool aS_0.xAccept)]), v3, (.int .i64 aStep_2), (.int .i64 aLife_3)] w0 (Ret [] F w0 κ (fun (r : Bool) (u : Unit) => (.bool r)) (fun (r : Bool) (u : Unit) => [])) := by
  refine enterS (args := [(.agg #[v1, (.bool aS_0.xAccept)]), v3, (.int .i64 aStep_2), (.int .i64 aLife_3)]) [] hF (Given.nil _ _) Tryd.func10 rfl Tryd.ntmps10 rfl h ?_
  clear h hF
  refine c_seq ?_
  refine c_region ?_
  obtain ⟨a5, l6, q7, hs_⟩ := sl_val hv1; subst hs_
  refine stw (o_box rfl rfl [(.slice a5 l6 q7), (.bool aS_0.xAccept)] rfl ?_); intro b8
  refine o_as st rfl rfl ?_
  refine c_nil ?_
  refine l_then ?_
  refine c_seq ?_
  refine c_region ?_
  refine o_as st rfl rfl ?_
  refine c_nil ?_
  refine l_then ?_
  refine c_seq ?_
  refine c_region ?_
  refine o_ldc st (v := (.agg #[(.slice a5 l6 q7), (.bool aS_0.xAccept)])) 0 rfl rfl rfl ty34 rfl ?_
  refine o_mv st rfl rfl ?_
  refine stw (o_callP (vs := [(.agg #[(.slice a5 l6 q7), (.bool aS_0.xAccept)]), (.int .i64 1048576)]) Tryd.call15 rfl rfl (by intro w m h; exact (w_laws_szRuleset (F := allB [] w) (a_0 := aS_0) (left_1 := 1048576) allB_ok (m.rd0 1 rfl (reads_snap hv1)) h).mono (fun _ _ k => ret_free (fun r u => fr_nil) k)) ?_); rintro r10 _
  refine o_as st rfl rfl ?_
  refine c_nil ?_
  refine l_then ?_
  refine c_seq ?_
  refine c_seq ?_
  refine c_region ?_
  refine o_mv st rfl rfl ?_
  refine o_lss st rfl rfl rfl ?_
  refine c_nil ?_
  refine l_then ?_
  refine c_cond rfl ?_ ?_
  · refine c_seq ?_
    refine c_region ?_
    refine o_as st rfl rfl ?_
    refine c_nil ?_
    refine l_then ?_
    refine c_ret ?_
    refine l_ret ?_
    exact l_end1 Tryd.results10 true () (rv_t rfl) (fun _ _ => NewCh.nil _ _ _ _)
  · refine c_skip ?_
    refine l_then ?_
    refine c_seq ?_
    refine c_region ?_
    refine o_mv st rfl rfl ?_
    refine o_mv st rfl rfl ?_
    refine stw (o_callP (vs := [v3, (.int .i64 r10)]) Tryd.call42 rfl rfl (by intro w m h; exact (w_laws_szPacketS (F := allB [] w) (a_0 := aPackets_1) (left_1 := r10) allB_ok (m.rd0 1 rfl (reads_snap hv3)) h).mono (fun _ _ k => ret_free (fun r u => fr_nil) k)) ?_); rintro r11 _
    refine o_as st rfl rfl ?_
    refine c_nil ?_
    refine l_then ?_
    refine c_seq ?_
    refine c_seq ?_
    refine c_region ?_
    refine o_mv st rfl rfl ?_
    refine o_lss st rfl rfl rfl ?_
    refine c_nil ?_
    refine l_then ?_
    refine c_cond rfl ?_ ?_
    · refine c_seq ?_
      refine c_region ?_
      refine o_as st rfl rfl ?_
      refine c_nil ?_
      refine l_then ?_
      refine c_ret ?_
      refine l_ret ?_
      exact l_end1 Tryd.results10 true () (rv_t rfl) (fun _ _ => NewCh.nil _ _ _ _)
    · refine c_skip ?_
      refine l_then ?_
      refine c_seq ?_
      refine c_region ?_
      refine o_ldc st (v := (.agg #[(.slice a5 l6 q7), (.bool aS_0.xAccept)])) 0 rfl rfl rfl ty34 rfl ?_
      refine stw (o_callP (vs := [(.agg #[(.slice a5 l6 q7), (.bool aS_0.xAccept)])]) Tryd.call17 rfl rfl (by intro w m h; exact (w_laws_toRuleset (F := allB [] w) (a_0 := aS_0) allB_ok (m.rd0 1 rfl (reads_snap hv1)) h).mono (fun _ _ k => ret_free (fun r u => (fr_cons free_dp fr_nil)) k)) ?_); rintro r12 ⟨v13, bb14⟩
      refine o_mv st rfl rfl ?_
      refine stw (o_callP (vs := [v3]) Tryd.call43 rfl rfl (by intro w m h; exact (w_laws_toPacketS (F := allB [] w) (a_0 := aPackets_1) allB_ok (m.rd0 2 rfl (reads_snap hv3)) h).mono (fun _ _ k => ret_free (fun r u => (fr_cons (free_own flelGPacket) fr_nil)) k)) ?_); rintro r16 v17
      refine o_mv st rfl rfl ?_
      refine o_mv st rfl rfl ?_
      refine stw (o_callP (vs := [(.agg #[v13, (.bool r12.xAccept)]), v17, (.int .i64 aStep_2), (.int .i64 aLife_3)]) Tryd.call26 rfl rfl (by intro w m h; exact (w_spec_PassAll (F := allB [] w) (s_0 := r12) (packets_1 := r16) (step_2 := aStep_2) (life_3 := aLife_3) allB_ok (m.rd0 1 rfl reads_dp) (m.rd0 0 rfl reads_own) h).mono (fun _ _ k => ret_free (fun r u => (fr_cons (free_own flelBool) fr_nil)) k)) ?_); rintro r19 v20
      refine o_as st rfl rfl ?_
      refine c_nil ?_
      refine l_then ?_
      refine c_seq ?_
      refine c_region ?_
      refine o_ldc st (v := (.agg #[(.slice a5 l6 q7), (.bool aS_0.xAccept)])) 3 rfl rfl rfl ty34 rfl ?_
      refine stw (o_callP (vs := [(.agg #[(.slice a5 l6 q7), (.bool aS_0.xAccept)])]) Tryd.call17 rfl rfl (by intro w m h; exact (w_laws_toRuleset (F := allB [] w) (a_0 := aS_0) allB_ok (m.rd0 4 rfl (reads_snap hv1)) h).mono (fun _ _ k => ret_free (fun r u => (fr_cons free_dp fr_nil)) k)) ?_); rintro r22 ⟨v23, bb24⟩
      refine stw (o_alloc rfl [(.slice none 0 0), (.bool false)] zero25 ?_); intro b26
      refine nx_dp 1 rfl ?_; rintro a28 l29 q30 rfl
      refine stw (o_stc (cs' := [(.slice a28 l29 q30), (.bool r22.xAccept)]) 0 rfl rfl rfl ty25 rfl rfl rfl rfl ?_)
      refine c_nil ?_
      refine l_then ?_
      refine c_seq ?_
      refine c_region ?_
      refine o_mv st rfl rfl ?_
      refine stw (o_callP (vs := [v3]) Tryd.call43 rfl rfl (by intro w m h; exact (w_laws_toPacketS (F := allB [] w) (a_0 := aPackets_1) allB_ok (m.rd0 6 rfl (reads_snap hv3)) h).mono (fun _ _ k => ret_free (fun r u => (fr_cons (free_own flelGPacket) fr_nil)) k)) ?_); rintro r31 v32
      refine o_as st rfl rfl ?_
      refine c_nil ?_
      refine l_then ?_
      refine c_seq ?_
      refine c_region ?_
      refine o_ldc st (v := (.agg #[(.slice a28 l29 q30), (.bool r22.xAccept)])) 1 rfl rfl rfl ty25 rfl ?_
      refine o_mv st rfl rfl ?_
      refine o_mv st rfl rfl ?_
      refine o_mv st rfl rfl ?_
      refine stw (o_callP (vs := [(.agg #[(.slice a28 l29 q30), (.bool r22.xAccept)]), v32, (.int .i64 aStep_2), (.int .i64 aLife_3)]) Tryd.call25 rfl rfl (by intro w m h; exact (w_impl_PassAll (F := allB [] w) (s_0 := r22) (packets_1 := r31) (step_2 := aStep_2) (life_3 := aLife_3) allB_ok (m.rd0 2 rfl reads_dp) (m.rd0 0 rfl reads_own) (m.rd0 7 rfl (reads_snap hgl0)) h).mono (fun _ _ k => ret_free (fun r u => (fr_cons (free_own flelBool) fr_nil)) k)) ?_); rintro r34 v35
      refine o_as st rfl rfl ?_
      refine c_nil ?_
      refine l_then ?_
      refine c_seq ?_
      refine c_seq ?_
      refine c_region ?_
      refine o_mv st rfl rfl ?_
      refine o_mv st rfl rfl ?_
      refine stw (o_callP (vs := [v35, v20]) Tryd.call44 rfl rfl (by intro w m h; exact (w_laws_eqBoolS (F := allB [] w) (a_0 := r34) (b_1 := r19) allB_ok (m.rd0 0 rfl reads_own) (m.rd0 4 rfl reads_own) h).mono (fun _ _ k => ret_free (fun r u => fr_nil) k)) ?_); rintro r37 _
      refine o_not st rfl rfl ?_
      refine c_nil ?_
      refine l_then ?_
      refine c_cond rfl ?_ ?_
      · refine c_seq ?_
        refine c_region ?_
        refine o_as st rfl rfl ?_
        refine c_nil ?_
        refine l_then ?_
        refine c_ret ?_
        refine l_ret ?_
        exact l_end1 Tryd.results10 false () (rv_t rfl) (fun _ _ => NewCh.nil _ _ _ _)
      · refine c_skip ?_
        refine l_then ?_
        refine c_seq ?_
        refine c_seq ?_
        refine c_draw mixed 5 rfl [ownCh elBool 4 v35 r34, ownCh elGPacket 40 v32 r31, cellCh b26 [(.slice a28 l29 q30), (.bool r22.xAccept)] 25, dpCh (dSl dGRule 104) 101 bb24 (.slice a28 l29 q30) r22.xChains, ownCh elBool 4 v20 r19, ownCh elGPacket 40 v17 r16, dpCh (dSl dGRule 104) 101 bb14 v13 r12.xChains, cellCh b8 [(.slice a5 l6 q7), (.bool aS_0.xAccept)] 34, snapCh w0 F] ?_
        refine o_ldc (dt 0 (fun _ m => m)) (v := (.agg #[(.slice a28 l29 q30), (.bool r22.xAccept)])) 2 rfl rfl rfl ty25 rfl ?_
        refine o_ldc (dt 1 (fun _ m => m)) (v := (.agg #[(.slice a5 l6 q7), (.bool aS_0.xAccept)])) 7 rfl rfl rfl ty34 rfl ?_
        refine d_one (i := 2) rfl (by kernel_rfl) (o_callP (vs := [(.agg #[(.slice a5 l6 q7), (.bool aS_0.xAccept)])]) Tryd.call17 rfl rfl (by intro w m h; exact (w_laws_toRuleset (F := allB [] w) (a_0 := aS_0) allB_ok (m.rd0 8 rfl (reads_snap hv1)) h).mono (fun _ _ k => ret_free (fun r u => (fr_cons free_dp fr_nil)) k)) ?_); rintro r38 ⟨v39, bb40⟩
        refine d_and (fun w m => m.pick [1, 2, 3, 4, 5, 6, 7, 8, 9] rfl) ?_
        refine d_one (i := 3) rfl (by kernel_rfl) (o_callP (vs := [(.agg #[(.slice a28 l29 q30), (.bool r22.xAccept)]), (.agg #[v39, (.bool r38.xAccept)])]) Tryd.call20 rfl rfl (by intro w m h; exact (w_laws_eqRuleset (F := allB [] w) (a_0 := r22) (b_1 := r38) allB_ok (m.rd0 4 rfl reads_dp) (m.rd0 0 rfl reads_dp) h).mono (fun _ _ k => ret_free (fun r u => fr_nil) k)) ?_); rintro r42 _
        refine d_and (fun w m => m.pick [1, 2, 3, 4, 5, 6, 7, 8, 9] rfl) ?_
        refine o_not (dt 4 (fun w m => m.pick [1, 2, 3, 4, 5, 6, 7, 8, 9] rfl)) rfl rfl ?_
        refine d_done (by kernel_rfl) ?_
        refine l_then ?_
        refine c_cond rfl ?_ ?_
        · refine c_seq ?_
          refine c_region ?_
          refine o_as st rfl rfl ?_
          refine c_nil ?_
          refine l_then ?_
          refine c_ret ?_
          refine l_ret ?_
          exact l_end1 Tryd.results10 false () (rv_t rfl) (fun _ _ => NewCh.nil _ _ _ _)
        · refine c_skip ?_
          refine l_then ?_
          refine c_seq ?_
          refine c_seq ?_
          refine c_region ?_
          refine o_mv st rfl rfl ?_
          refine o_mv st rfl rfl ?_
          refine stw (o_callP (vs := [v3]) Tryd.call43 rfl rfl (by intro w m h; exact (w_laws_toPacketS (F := allB [] w) (a_0 := aPackets_1) allB_ok (m.rd0 9 rfl (reads_snap hv3)) h).mono (fun _ _ k => ret_free (fun r u => (fr_cons (free_own flelGPacket) fr_nil)) k)) ?_); rintro r43 v44
          refine stw (o_callP (vs := [v32, v44]) Tryd.call45 rfl rfl (by intro w m h; exact (w_laws_eqPacketS (F := allB [] w) (a_0 := r31) (b_1 := r43) allB_ok (m.rd0 3 rfl reads_own) (m.rd0 0 rfl reads_own) h).mono (fun _ _ k => ret_free (fun r u => fr_nil) k)) ?_); rintro r46 _
          refine o_not st rfl rfl ?_
          refine c_nil ?_
          refine l_then ?_
          refine c_cond rfl ?_ ?_
          · refine c_seq ?_
            refine c_region ?_
            refine o_as st rfl rfl ?_
            refine c_nil ?_
            refine l_then ?_
            refine c_ret ?_
            refine l_ret ?_
            exact l_end1 Tryd.results10 false () (rv_t rfl) (fun _ _ => NewCh.nil _ _ _ _)
          · refine c_skip ?_
            refine l_then ?_
            refine c_seq ?_
            refine c_region ?_
            refine o_as st rfl rfl ?_
            refine c_nil ?_
            refine l_then ?_
            refine c_seq ?_
            refine c_region ?_
            refine o_ldc st (v := (.agg #[(.slice a28 l29 q30), (.bool r22.xAccept)])) 4 rfl rfl rfl ty25 rfl ?_
            refine o_mv st rfl rfl ?_
            refine pk [5, 0, 1, 2, 3, 4, 6, 7, 8, 9, 10] rfl ?_
            refine stw (o_call (vs := [(.agg #[(.slice a28 l29 q30), (.bool r22.xAccept)]), (.int .i64 1)]) (M0 := [dpCh (dSl dGRule 104) 101 bb24 (.slice a28 l29 q30) r22.xChains]) Tryd.call39 rfl rfl (by intro w m h; exact (w_laws_markRuleset (F := allB [dpCh (dSl dGRule 104) 101 bb24 (.slice a28 l29 q30) r22.xChains] w) (a_0_Chains := r22.xChains) (a_0_Accept := r22.xAccept) (k_1 := 1) allB_ok m.given h).mono (fun _ _ k => ret_free (fun r u => (fr_cons free_dp fr_nil)) k)) ?_); rintro ⟨r47, r48⟩ bb49
            refine o_as st rfl rfl ?_
            refine c_nil ?_
            refine l_then ?_
            refine c_seq ?_
            refine c_region ?_
            refine o_mv st rfl rfl ?_
            refine o_mv st rfl rfl ?_
            refine pk [4, 0, 1, 2, 3, 5, 6, 7, 8, 9, 10] rfl ?_
            refine stw (o_call (vs := [v32, (.int .i64 r47)]) (M0 := [ownCh elGPacket 40 v32 r31]) Tryd.call46 rfl rfl (by intro w m h; exact (w_laws_markPacketS (F := allB [ownCh elGPacket 40 v32 r31] w) (a_0 := r31) (k_1 := r47) allB_ok m.given h).mono (fun _ _ k => ret_free (fun r u => (fr_cons (free_own flelGPacket) fr_nil)) k)) ?_); rintro ⟨r51, r52⟩ _
            refine o_as st rfl rfl ?_
            refine c_nil ?_
            refine l_then ?_
            refine c_seq ?_
            refine c_join (σ := Bool) (fun (t115 : Bool) (a : Act) (w : World) => Has 102 [(1, v3), (2, (.int .i64 aStep_2)), (3, (.int .i64 aLife_3)), (4, (.pointer (some ⟨b8, 0, none⟩))), (10, v20), (13, v35), (71, (.bool t115))] a ∧ Mem (gB F [] w0) (feet []) w0 [ownCh elBool 4 v35 r34, ownCh elBool 4 v20 r19, cellCh b8 [(.slice a5 l6 q7), (.bool aS_0.xAccept)] 34, snapCh w0 F] w) ?_ ?_
            · intro k116
              refine c_region ?_
              refine o_mv st rfl rfl ?_
              refine o_lss st rfl rfl rfl ?_
              refine o_mv st rfl rfl ?_
              refine st_sp (dj := 66) rfl ?_ ?_
              · refine st_s rfl rfl rfl rfl ?_
                refine st_s rfl rfl rfl rfl ?_
                refine st_s rfl rfl rfl rfl ?_
                refine st_s rfl rfl rfl rfl ?_
                refine o_pickT st rfl rfl rfl ?_
                refine c_nil ?_
                exact l_join true (fun a w hE hm => ⟨hE.sub ⟨rfl, rfl, rfl, rfl, rfl, rfl, rfl, trivial⟩, (hm.pick [4, 6, 9, 10] rfl)⟩)
              · refine o_mv (st_g rfl rfl) rfl rfl ?_
                refine o_mv (st_g rfl rfl) rfl rfl ?_
                refine st_gw rfl rfl (o_callP (vs := [v35, v20]) Tryd.call44 rfl rfl (by intro w m h; exact (w_laws_eqBoolS (F := allB [] w) (a_0 := r34) (b_1 := r19) allB_ok (m.rd0 4 rfl reads_own) (m.rd0 6 rfl reads_own) h).mono (fun _ _ k => ret_free (fun r u => fr_nil) k)) ?_); rintro r54 _
                refine o_not (st_g rfl rfl) rfl rfl ?_
                refine o_pickF st rfl rfl rfl ?_
                refine c_nil ?_
                exact l_join (!r54) (fun a w hE hm => ⟨hE.sub ⟨rfl, rfl, rfl, rfl, rfl, rfl, rfl, trivial⟩, (hm.pick [4, 6, 9, 10] rfl)⟩)
            · rintro t115 a w ⟨hE, hm⟩ h
              refine nx_of hE hm h ?_
              clear hE hm h
              refine c_cond rfl ?_ ?_
              · refine c_seq ?_
                refine c_region ?_
                refine o_as st rfl rfl ?_
                refine c_nil ?_
                refine l_then ?_
                refine c_ret ?_
                refine l_ret ?_
                exact l_end1 Tryd.results10 false () (rv_t rfl) (fun _ _ => NewCh.nil _ _ _ _)
              · refine c_skip ?_
                refine l_then ?_
                refine c_seq ?_
                refine c_region ?_
                refine o_as st rfl rfl ?_
                refine c_nil ?_
                refine l_then ?_
                refine c_seq ?_
                refine c_region ?_
                refine o_mv st rfl rfl ?_
                refine o_mv st rfl rfl ?_
                refine stw (o_call (vs := [v35, (.int .i64 1)]) (M0 := [ownCh elBool 4 v35 r34]) Tryd.call47 rfl rfl (by intro w m h; exact (w_laws_markBoolS (F := allB [ownCh elBool 4 v35 r34] w) (a_0 := r34) (k_1 := 1) allB_ok m.given h).mono (fun _ _ k => ret_free (fun r u => (fr_cons (free_own flelBool) fr_nil)) k)) ?_); rintro ⟨r117, r118⟩ _
                refine o_as st rfl rfl ?_
                refine c_nil ?_
                refine l_then ?_
                refine c_seq ?_
                refine c_region ?_
                refine o_as st rfl rfl ?_
                refine c_nil ?_
                refine l_then ?_
                refine c_seq ?_
                refine c_region ?_
                refine o_mv st rfl rfl ?_
                refine o_mv st rfl rfl ?_
                refine stw (o_callP (vs := [v35, (.int .i64 1)]) Tryd.call48 rfl rfl (by intro w m h; exact (w_laws_heldBoolS (F := allB [] w) (a_0 := r118) (k_1 := 1) allB_ok (m.rd0 0 rfl reads_own) h).mono (fun _ _ k => ret_free (fun r u => fr_nil) k)) ?_); rintro r120 _
                refine o_as st rfl rfl ?_
                refine c_nil ?_
                refine l_then ?_
                refine c_seq ?_
                refine c_seq ?_
                refine c_region ?_
                refine o_mv st rfl rfl ?_
                refine o_lss st rfl rfl rfl ?_
                refine c_nil ?_
                refine l_then ?_
                refine c_cond rfl ?_ ?_
                · refine c_seq ?_
                  refine c_region ?_
                  refine o_as st rfl rfl ?_
                  refine c_nil ?_
                  refine l_then ?_
                  refine c_ret ?_
                  refine l_ret ?_
                  exact l_end1 Tryd.results10 false () (rv_t rfl) (fun _ _ => NewCh.nil _ _ _ _)
                · refine c_skip ?_
                  refine l_then ?_
                  refine c_seq ?_
                  refine c_seq ?_
                  refine c_region ?_
                  refine o_mv st rfl rfl ?_
                  refine o_mv st rfl rfl ?_
                  refine o_neq st und3 rfl rfl rfl ?_
                  refine c_nil ?_
                  refine l_then ?_
                  refine c_cond rfl ?_ ?_
                  · refine c_seq ?_
                    refine c_region ?_
                    refine o_as st rfl rfl ?_
                    refine c_nil ?_
                    refine l_then ?_
                    refine c_ret ?_
                    refine l_ret ?_
                    exact l_end1 Tryd.results10 false () (rv_t rfl) (fun _ _ => NewCh.nil _ _ _ _)
                  · refine c_skip ?_
                    refine l_then ?_
                    refine c_seq ?_
                    refine c_region ?_
                    refine o_ldc st (v := (.agg #[(.slice a5 l6 q7), (.bool aS_0.xAccept)])) 2 rfl rfl rfl ty34 rfl ?_
                    refine stw (o_callP (vs := [(.agg #[(.slice a5 l6 q7), (.bool aS_0.xAccept)])]) Tryd.call17 rfl rfl (by intro w m h; exact (w_laws_toRuleset (F := allB [] w) (a_0 := aS_0) allB_ok (m.rd0 3 rfl (reads_snap hv1)) h).mono (fun _ _ k => ret_free (fun r u => (fr_cons free_dp fr_nil)) k)) ?_); rintro r121 ⟨v122, bb123⟩
                    refine o_mv st rfl rfl ?_
                    refine stw (o_callP (vs := [v3]) Tryd.call43 rfl rfl (by intro w m h; exact (w_laws_toPacketS (F := allB [] w) (a_0 := aPackets_1) allB_ok (m.rd0 4 rfl (reads_snap hv3)) h).mono (fun _ _ k => ret_free (fun r u => (fr_cons (free_own flelGPacket) fr_nil)) k)) ?_); rintro r125 v126
                    refine o_mv st rfl rfl ?_
                    refine o_mv st rfl rfl ?_
                    refine stw (o_callP (vs := [(.agg #[v122, (.bool r121.xAccept)]), v126, (.int .i64 aStep_2), (.int .i64 aLife_3)]) Tryd.call25 rfl rfl (by intro w m h; exact (w_impl_PassAll (F := allB [] w) (s_0 := r121) (packets_1 := r125) (step_2 := aStep_2) (life_3 := aLife_3) allB_ok (m.rd0 1 rfl reads_dp) (m.rd0 0 rfl reads_own) (m.rd0 5 rfl (reads_snap hgl0)) h).mono (fun _ _ k => ret_free (fun r u => (fr_cons (free_own flelBool) fr_nil)) k)) ?_); rintro r128 v129
                    refine o_as st rfl rfl ?_
                    refine c_nil ?_
                    refine l_then ?_
                    refine c_seq ?_
                    refine c_seq ?_
                    refine c_region ?_
                    refine o_mv st rfl rfl ?_
                    refine o_mv st rfl rfl ?_
                    refine stw (o_callP (vs := [v129, v20]) Tryd.call44 rfl rfl (by intro w m h; exact (w_laws_eqBoolS (F := allB [] w) (a_0 := r128) (b_1 := r19) allB_ok (m.rd0 0 rfl reads_own) (m.rd0 4 rfl reads_own) h).mono (fun _ _ k => ret_free (fun r u => fr_nil) k)) ?_); rintro r131 _
                    refine o_not st rfl rfl ?_
                    refine c_nil ?_
                    refine l_then ?_
                    refine c_cond rfl ?_ ?_
                    · refine c_seq ?_
                      refine c_region ?_
                      refine o_as st rfl rfl ?_
                      refine c_nil ?_
                      refine l_then ?_
                      refine c_ret ?_
                      refine l_ret ?_
                      exact l_end1 Tryd.results10 false () (rv_t rfl) (fun _ _ => NewCh.nil _ _ _ _)
                    · refine c_skip ?_
                      refine l_then ?_
                      refine c_seq ?_
                      refine c_region ?_
                      refine o_as st rfl rfl ?_
                      refine c_nil ?_
                      refine l_then ?_
                      refine c_seq ?_
                      refine c_region ?_
                      refine o_mv st rfl rfl ?_
                      refine o_mv st rfl rfl ?_
                      refine stw (o_callP (vs := [v35, (.int .i64 1)]) Tryd.call48 rfl rfl (by intro w m h; exact (w_laws_heldBoolS (F := allB [] w) (a_0 := r118) (k_1 := 1) allB_ok (m.rd0 3 rfl reads_own) h).mono (fun _ _ k => ret_free (fun r u => fr_nil) k)) ?_); rintro r132 _
                      refine o_as st rfl rfl ?_
                      refine c_nil ?_
                      refine l_then ?_
                      refine c_seq ?_
                      refine c_seq ?_
                      refine c_region ?_
                      refine o_mv st rfl rfl ?_
                      refine o_lss st rfl rfl rfl ?_
                      refine c_nil ?_
                      refine l_then ?_
                      refine c_cond rfl ?_ ?_
                      · refine c_seq ?_
                        refine c_region ?_
                        refine o_as st rfl rfl ?_
                        refine c_nil ?_
                        refine l_then ?_
                        refine c_ret ?_
                        refine l_ret ?_
                        exact l_end1 Tryd.results10 false () (rv_t rfl) (fun _ _ => NewCh.nil _ _ _ _)
                      · refine c_skip ?_
                        refine l_then ?_
                        refine c_seq ?_
                        refine c_seq ?_
                        refine c_region ?_
                        refine o_mv st rfl rfl ?_
                        refine o_mv st rfl rfl ?_
                        refine o_neq st und3 rfl rfl rfl ?_
                        refine c_nil ?_
                        refine l_then ?_
                        refine c_cond rfl ?_ ?_
                        · refine c_seq ?_
                          refine c_region ?_
                          refine o_as st rfl rfl ?_
                          refine c_nil ?_
                          refine l_then ?_
                          refine c_ret ?_
                          refine l_ret ?_
                          exact l_end1 Tryd.results10 false () (rv_t rfl) (fun _ _ => NewCh.nil _ _ _ _)
                        · refine c_skip ?_
                          refine l_then ?_
                          refine c_seq ?_
                          refine c_region ?_
                          refine o_as st rfl rfl ?_
                          refine c_nil ?_
                          refine l_then ?_
                          refine c_ret ?_
                          exact l_end1 Tryd.results10 true () (rv_t rfl) (fun _ _ => NewCh.nil _ _ _ _)



end

end Go.Proofs.YtigdghiknfehhaaDoor
