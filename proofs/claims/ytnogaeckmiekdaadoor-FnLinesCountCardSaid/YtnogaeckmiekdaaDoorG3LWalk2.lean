/- The walks of the functions of this seat (printed), on. -/
import Derived.Test.YtnogaeckmiekdaaDoorG3LWalk
set_option linter.unusedSimpArgs false
set_option linter.unusedVariables false
namespace Go.Proofs.YtnogaeckmiekdaaDoor
open Go.RowKit
set_option maxRecDepth 100000 in
set_option maxHeartbeats 8000000 in
theorem w_spec_l20Rules {w0 : World} {F : Nat → Prop} {b1 : Nat} {v2 : Value} {r_0_b : (List UInt8)} {r_0_p : Int} {first_1 : Int} {chains_2 : Int} {n_3 : Int} {κ : ((List GRule) × Int) → Prop} (hF : ∀ b, F b → b < w0.heap.size ∧ ¬ feet [cellCh b1 [v2, (.int .i64 r_0_p)] 111] b) (hg : Given [cellCh b1 [v2, (.int .i64 r_0_p)] 111] F w0) (hv2 : Sl elU8 F w0 v2 r_0_b) (h : L_spec_l20Rules r_0_b r_0_p first_1 chains_2 n_3 κ) :
    Calls Tryd.prog 95 #[(.pointer (some ⟨b1, 0, none⟩)), (.int .i64 first_1), (.int .i64 chains_2), (.int .i64 n_3)] w0 (Ret [cellCh b1 [v2, (.int .i64 r_0_p)] 111] F w0 κ (fun (r : ((List GRule) × Int)) (u : Value × List Nat) => u.1) (fun (r : ((List GRule) × Int)) (u : Value × List Nat) => [dpCh dGRule 53 u.2 u.1 r.1, cellCh b1 [v2, (.int .i64 r.2)] 111])) := by
  refine enterS (args := [(.pointer (some ⟨b1, 0, none⟩)), (.int .i64 first_1), (.int .i64 chains_2), (.int .i64 n_3)]) [cellCh b1 [v2, (.int .i64 r_0_p)] 111] hF hg Tryd.func95 rfl Tryd.ntmps95 rfl h ?_
  clear h hF hg
  refine c_seq ?_
  refine c_region ?_
  refine stw (o_asd dGRule 53 rfl rfl ?_)
  refine c_nil ?_
  refine l_then ?_
  refine c_seq ?_
  refine c_region ?_
  refine stw (o_bslD0 (E' := dGRule) (qs := []) (by intro ρ h; simp only [List.map_toArray, List.map_cons, List.map_nil]) rfl el69 zero53 rfl rfl rfl ?_); intro bb7 v6
  refine o_as st rfl rfl ?_
  refine c_nil ?_
  refine l_then ?_
  refine c_seq ?_
  refine c_seq ?_
  refine c_region ?_
  refine o_mv st rfl rfl ?_
  refine pk [2, 0, 1, 3] rfl ?_
  refine stw (o_call (vs := [(.pointer (some ⟨b1, 0, none⟩)), (.int .i64 5)]) (M0 := [cellCh b1 [v2, (.int .i64 r_0_p)] 111]) Tryd.call65 rfl rfl (by intro w m h; exact (w_spec_l20Rd_pick (F := allB [cellCh b1 [v2, (.int .i64 r_0_p)] 111] w) (r_0_b := r_0_b) (r_0_p := r_0_p) (n_1 := 5) allB_ok m.given (m.rdM 2 rfl (reads_snap hv2)) h).mono (fun _ _ k => ret_free (fun r u => (fr_cons free_cell fr_nil)) k)) ?_); rintro ⟨r9, r10⟩ _
  refine o_as st rfl rfl ?_
  refine c_nil ?_
  refine l_then ?_
  refine c_block ?_
  refine c_loop (σ := (Int × (List GRule) × Int)) (fun ((t11, xs13, t17) : (Int × (List GRule) × Int)) (a : Act) (w : World) => ∃ (v12 : Value) (bb15 : List Nat), Has 46 [(0, (.pointer (some ⟨b1, 0, none⟩))), (1, (.int .i64 first_1)), (2, (.int .i64 chains_2)), (3, (.int .i64 n_3)), (9, v12), (10, (.int .i64 t17))] a ∧ Mem (gB F [cellCh b1 [v2, (.int .i64 r_0_p)] 111] w0) (feet [cellCh b1 [v2, (.int .i64 r_0_p)] 111]) w0 [cellCh b1 [v2, (.int .i64 t11)] 111, snapCh w0 F, dpCh dGRule 53 bb15 v12 xs13] w) (fun a w hE hm => ⟨v6, bb7, hE.sub ⟨rfl, rfl, rfl, rfl, rfl, rfl, trivial⟩, (hm.pick [0, 3, 1] rfl)⟩) ?_
  rintro nx18 ⟨t11, xs13, t17⟩ a w ⟨v12, bb15, hE, hm⟩ h
  refine nx_of hE hm h ?_
  clear hE hm h
  refine c_seq ?_
  refine c_seq ?_
  refine c_region ?_
  refine o_mv st rfl rfl ?_
  refine o_gtr st rfl rfl rfl ?_
  refine c_nil ?_
  refine l_then ?_
  refine c_cond rfl ?_ ?_
  · refine c_skip ?_
    refine l_then ?_
    refine c_seq ?_
    refine c_block ?_
    refine c_region ?_
    refine o_mv st rfl rfl ?_
    refine o_mv st rfl rfl ?_
    refine o_mv st rfl rfl ?_
    refine o_mv st rfl rfl ?_
    refine stw (o_call (vs := [(.pointer (some ⟨b1, 0, none⟩)), (.int .i64 first_1), (.int .i64 chains_2), (.int .i64 0)]) (M0 := [cellCh b1 [v2, (.int .i64 t11)] 111]) Tryd.call75 rfl rfl (by intro w m h; exact (w_spec_l20Rule (F := allB [cellCh b1 [v2, (.int .i64 t11)] 111] w) (r_0_b := r_0_b) (r_0_p := t11) (first_1 := first_1) (chains_2 := chains_2) (n_3 := 0) allB_ok m.given (m.rdM 0 rfl (reads_snap hv2)) h).mono (fun _ _ k => ret_free (fun r u => (fr_cons (free_own flelGTest) (fr_cons free_cell fr_nil))) k)) ?_); rintro ⟨r19, r22⟩ v20
    refine nx_own 0 rfl ?_; rintro a23 l24 q25 rfl
    refine stw (o_bslD (M := [ownCh elGTest 25 (.slice a23 l24 q25) r19.xTests]) (E' := dGRule) (qs := [(0, (.agg #[(.slice a23 l24 q25), (.int .i64 r19.xAction), (.int .i64 r19.xChain)]))]) (cs := [(.slice a23 l24 q25), (.int .i64 r19.xAction), (.int .i64 r19.xChain)]) r19 (absorb_one (gives_own flelGTest) (fun B w h => ⟨_, rfl, h⟩)) (by intro ρ h; simp only [List.map_toArray, List.map_cons, List.map_nil, h (.tmp 22) _ rfl]) rfl el69 zero53 rfl rfl rfl rfl ?_); intro bb27 v26
    refine pk [3, 0, 1, 2] rfl ?_
    refine stw (o_appD rfl rfl rfl el69 rfl zero53 rfl rfl ?_); intro bb30 v29
    refine o_as st rfl rfl ?_
    refine c_nil ?_
    refine b_norm ?_
    refine l_then ?_
    refine c_region ?_
    refine o_mv st rfl rfl ?_
    refine o_sub st rfl rfl rfl ?_; intro t32
    refine o_as st rfl rfl ?_
    refine c_nil ?_
    exact l_join (r22, (xs13 ++ ([r19])), t32) (fun a w hE hm => ⟨v29, bb30, hE.sub ⟨rfl, rfl, rfl, rfl, rfl, rfl, trivial⟩, (hm.pick [1, 2, 0] rfl)⟩)
  · refine c_exit ?_
    refine l_exit ?_
    refine l_exit ?_
    refine b_exit ?_
    refine l_then ?_
    refine c_join (σ := (Int × (List GRule))) (fun ((t122, xs124) : (Int × (List GRule))) (a : Act) (w : World) => ∃ (v123 : Value) (bb126 : List Nat), Has 46 [(9, v123)] a ∧ Mem (gB F [cellCh b1 [v2, (.int .i64 r_0_p)] 111] w0) (feet [cellCh b1 [v2, (.int .i64 r_0_p)] 111]) w0 [cellCh b1 [v2, (.int .i64 t122)] 111, snapCh w0 F, dpCh dGRule 53 bb126 v123 xs124] w) ?_ ?_
    · intro k128
      refine c_seq ?_
      refine c_region ?_
      refine o_mv st rfl rfl ?_
      refine o_mv st rfl rfl ?_
      refine stw (o_call (vs := [(.pointer (some ⟨b1, 0, none⟩)), (.int .i64 n_3)]) (M0 := [cellCh b1 [v2, (.int .i64 t11)] 111]) Tryd.call64 rfl rfl (by intro w m h; exact (w_spec_l20Rd_odd (F := allB [cellCh b1 [v2, (.int .i64 t11)] 111] w) (r_0_b := r_0_b) (r_0_p := t11) (n_1 := n_3) allB_ok m.given (m.rdM 0 rfl (reads_snap hv2)) h).mono (fun _ _ k => ret_free (fun r u => (fr_cons free_cell fr_nil)) k)) ?_); rintro ⟨r33, r34⟩ _
      refine c_nil ?_
      refine l_then ?_
      refine c_cond rfl ?_ ?_
      · refine c_seq ?_
        refine c_region ?_
        refine o_mv st rfl rfl ?_
        refine stw (o_call (vs := [(.pointer (some ⟨b1, 0, none⟩)), (.int .i64 2)]) (M0 := [cellCh b1 [v2, (.int .i64 r34)] 111]) Tryd.call65 rfl rfl (by intro w m h; exact (w_spec_l20Rd_pick (F := allB [cellCh b1 [v2, (.int .i64 r34)] 111] w) (r_0_b := r_0_b) (r_0_p := r34) (n_1 := 2) allB_ok m.given (m.rdM 0 rfl (reads_snap hv2)) h).mono (fun _ _ k => ret_free (fun r u => (fr_cons free_cell fr_nil)) k)) ?_); rintro ⟨r35, r36⟩ _
        refine o_eql st und3 rfl rfl rfl ?_
        refine c_nil ?_
        refine l_then ?_
        refine c_cond rfl ?_ ?_
        · refine c_region ?_
          refine o_mv st rfl rfl ?_
          refine o_mv st rfl rfl ?_
          refine o_mv st rfl rfl ?_
          refine o_mv st rfl rfl ?_
          refine stw (o_call (vs := [(.pointer (some ⟨b1, 0, none⟩)), (.int .i64 first_1), (.int .i64 chains_2), (.int .i64 1)]) (M0 := [cellCh b1 [v2, (.int .i64 r36)] 111]) Tryd.call75 rfl rfl (by intro w m h; exact (w_spec_l20Rule (F := allB [cellCh b1 [v2, (.int .i64 r36)] 111] w) (r_0_b := r_0_b) (r_0_p := r36) (first_1 := first_1) (chains_2 := chains_2) (n_3 := 1) allB_ok m.given (m.rdM 0 rfl (reads_snap hv2)) h).mono (fun _ _ k => ret_free (fun r u => (fr_cons (free_own flelGTest) (fr_cons free_cell fr_nil))) k)) ?_); rintro ⟨r37, r40⟩ v38
          refine nx_own 0 rfl ?_; rintro a41 l42 q43 rfl
          refine stw (o_bslD (M := [ownCh elGTest 25 (.slice a41 l42 q43) r37.xTests]) (E' := dGRule) (qs := [(0, (.agg #[(.slice a41 l42 q43), (.int .i64 r37.xAction), (.int .i64 r37.xChain)]))]) (cs := [(.slice a41 l42 q43), (.int .i64 r37.xAction), (.int .i64 r37.xChain)]) r37 (absorb_one (gives_own flelGTest) (fun B w h => ⟨_, rfl, h⟩)) (by intro ρ h; simp only [List.map_toArray, List.map_cons, List.map_nil, h (.tmp 35) _ rfl]) rfl el69 zero53 rfl rfl rfl rfl ?_); intro bb45 v44
          refine pk [3, 0, 1, 2] rfl ?_
          refine stw (o_appD rfl rfl rfl el69 rfl zero53 rfl rfl ?_); intro bb48 v47
          refine o_as st rfl rfl ?_
          refine c_nil ?_
          exact l_join (r40, (xs13 ++ ([r37]))) (fun a w hE hm => ⟨v47, bb48, hE.sub ⟨rfl, trivial⟩, (hm.pick [1, 2, 0] rfl)⟩)
        · refine c_block ?_
          refine c_loop (σ := (List GRule)) (fun (xs51 : (List GRule)) (a : Act) (w : World) => ∃ (v50 : Value) (bb53 : List Nat), Has 46 [(9, v50)] a ∧ Mem (gB F [cellCh b1 [v2, (.int .i64 r_0_p)] 111] w0) (feet [cellCh b1 [v2, (.int .i64 r_0_p)] 111]) w0 [cellCh b1 [v2, (.int .i64 r36)] 111, snapCh w0 F, dpCh dGRule 53 bb53 v50 xs51] w) (fun a w hE hm => ⟨v12, bb15, hE.sub ⟨rfl, trivial⟩, (hm.pick [0, 1, 2] rfl)⟩) ?_
          rintro nx55 xs51 a w ⟨v50, bb53, hE, hm⟩ h
          refine nx_of hE hm h ?_
          clear hE hm h
          refine c_seq ?_
          refine c_seq ?_
          refine c_region ?_
          refine o_mv st rfl rfl ?_
          refine o_len st el69 2 rfl reads_dp rfl rfl ?_
          refine o_leq st rfl rfl rfl ?_
          refine c_nil ?_
          refine l_then ?_
          refine c_cond rfl ?_ ?_
          · refine c_skip ?_
            refine l_then ?_
            refine c_block ?_
            refine c_region ?_
            refine o_mv st rfl rfl ?_
            refine o_bld st (qs := [(1, (.int .i64 5))]) (cells := [(.slice none 0 0), (.int .i64 5), (.int .i64 0)]) (by intro ρ h; simp only [List.map_toArray, List.map_cons, List.map_nil, h (.const (.int .i64 5)) _ rfl]) rfl bld53 rfl ?_
            refine stw (o_bslD (M := []) (E' := dGRule) (qs := [(0, (.agg #[(.slice none 0 0), (.int .i64 5), (.int .i64 0)]))]) (cs := [(.slice none 0 0), (.int .i64 5), (.int .i64 0)]) (GRule.mk ([]) 5 0) (absorb_nil (fun w => ⟨_, rfl, Dp.nil⟩)) (by intro ρ h; simp only [List.map_toArray, List.map_cons, List.map_nil, h (.tmp 42) _ rfl]) rfl el69 zero53 rfl rfl rfl rfl ?_); intro bb57 v56
            refine pk [3, 0, 1, 2] rfl ?_
            refine stw (o_appD rfl rfl rfl el69 rfl zero53 rfl rfl ?_); intro bb60 v59
            refine o_as st rfl rfl ?_
            refine c_nil ?_
            refine b_norm ?_
            exact l_join (xs51 ++ ([(GRule.mk ([]) 5 0)])) (fun a w hE hm => ⟨v59, bb60, hE.sub ⟨rfl, trivial⟩, (hm.pick [1, 2, 0] rfl)⟩)
          · refine c_exit ?_
            refine l_exit ?_
            refine l_exit ?_
            refine b_exit ?_
            exact l_join (r36, xs51) (fun a w hE hm => ⟨v50, bb53, hE.sub ⟨rfl, trivial⟩, (hm.pick [0, 1, 2] rfl)⟩)
      · refine c_skip ?_
        exact l_join (r34, xs13) (fun a w hE hm => ⟨v12, bb15, hE.sub ⟨rfl, trivial⟩, (hm.pick [0, 1, 2] rfl)⟩)
    · rintro ⟨t122, xs124⟩ a w ⟨v123, bb126, hE, hm⟩ h
      refine nx_of hE hm h ?_
      clear hE hm h
      refine c_seq ?_
      refine c_region ?_
      refine o_mv st rfl rfl ?_
      refine o_as st rfl rfl ?_
      refine c_nil ?_
      refine l_then ?_
      refine c_ret ?_
      exact l_end1 Tryd.results95 (xs124, t122) (v123, bb126) (rv_t rfl) (fun w m => NewCh.ofB m [2, 0] rfl)

set_option maxRecDepth 100000 in
set_option maxHeartbeats 8000000 in
theorem w_spec_l20Ruleset {w0 : World} {F : Nat → Prop} {b1 : Nat} {v2 : Value} {r_0_b : (List UInt8)} {r_0_p : Int} {n_1 : Int} {κ : (GRuleset × Int) → Prop} (hF : ∀ b, F b → b < w0.heap.size ∧ ¬ feet [cellCh b1 [v2, (.int .i64 r_0_p)] 111] b) (hg : Given [cellCh b1 [v2, (.int .i64 r_0_p)] 111] F w0) (hv2 : Sl elU8 F w0 v2 r_0_b) (h : L_spec_l20Ruleset r_0_b r_0_p n_1 κ) :
    Calls Tryd.prog 81 #[(.pointer (some ⟨b1, 0, none⟩)), (.int .i64 n_1)] w0 (Ret [cellCh b1 [v2, (.int .i64 r_0_p)] 111] F w0 κ (fun (r : (GRuleset × Int)) (u : Value × List Nat) => (.agg #[u.1, (.bool r.1.xAccept)])) (fun (r : (GRuleset × Int)) (u : Value × List Nat) => [dpCh (dSl dGRule 53) 69 u.2 u.1 r.1.xChains, cellCh b1 [v2, (.int .i64 r.2)] 111])) := by
  refine enterS (args := [(.pointer (some ⟨b1, 0, none⟩)), (.int .i64 n_1)]) [cellCh b1 [v2, (.int .i64 r_0_p)] 111] hF hg Tryd.func81 rfl Tryd.ntmps81 rfl h ?_
  clear h hF hg
  refine c_seq ?_
  refine c_region ?_
  refine stw (o_alloc rfl [(.slice none 0 0), (.bool false)] zero64 ?_); intro b5
  refine c_nil ?_
  refine l_then ?_
  refine c_seq ?_
  refine c_region ?_
  refine o_mv st rfl rfl ?_
  refine pk [1, 0, 2] rfl ?_
  refine stw (o_call (vs := [(.pointer (some ⟨b1, 0, none⟩)), (.int .i64 2)]) (M0 := [cellCh b1 [v2, (.int .i64 r_0_p)] 111]) Tryd.call65 rfl rfl (by intro w m h; exact (w_spec_l20Rd_pick (F := allB [cellCh b1 [v2, (.int .i64 r_0_p)] 111] w) (r_0_b := r_0_b) (r_0_p := r_0_p) (n_1 := 2) allB_ok m.given (m.rdM 1 rfl (reads_snap hv2)) h).mono (fun _ _ k => ret_free (fun r u => (fr_cons free_cell fr_nil)) k)) ?_); rintro ⟨r7, r8⟩ _
  refine o_eql st und3 rfl rfl rfl ?_
  refine o_bld st (qs := [(1, (.bool (decide (r7 = 0))))]) (cells := [(.slice none 0 0), (.bool (decide (r7 = 0)))]) (by intro ρ h; simp only [List.map_toArray, List.map_cons, List.map_nil, h (.tmp 10) _ rfl]) rfl bld64 rfl ?_
  refine stw (o_alloc rfl [(.slice none 0 0), (.bool false)] zero64 ?_); intro b9
  refine stw (o_stc (cs' := [(.slice none 0 0), (.bool (decide (r7 = 0)))]) 0 rfl rfl rfl ty64 rfl rfl rfl rfl ?_)
  refine c_nil ?_
  refine l_then ?_
  refine c_seq ?_
  refine c_region ?_
  refine o_mv st rfl rfl ?_
  refine pk [1, 0, 2, 3] rfl ?_
  refine stw (o_call (vs := [(.pointer (some ⟨b1, 0, none⟩)), (.int .i64 3)]) (M0 := [cellCh b1 [v2, (.int .i64 r8)] 111]) Tryd.call65 rfl rfl (by intro w m h; exact (w_spec_l20Rd_pick (F := allB [cellCh b1 [v2, (.int .i64 r8)] 111] w) (r_0_b := r_0_b) (r_0_p := r8) (n_1 := 3) allB_ok m.given (m.rdM 2 rfl (reads_snap hv2)) h).mono (fun _ _ k => ret_free (fun r u => (fr_cons free_cell fr_nil)) k)) ?_); rintro ⟨r11, r12⟩ _
  refine o_add st rfl rfl rfl ?_; intro t13
  refine o_as st rfl rfl ?_
  refine c_nil ?_
  refine l_then ?_
  refine c_seq ?_
  refine c_seq ?_
  refine c_region ?_
  refine o_as st rfl rfl ?_
  refine c_nil ?_
  refine l_then ?_
  refine c_block ?_
  refine c_loop (σ := (Int × (List (List GRule)) × Int)) (fun ((t14, xs16, t20) : (Int × (List (List GRule)) × Int)) (a : Act) (w : World) => ∃ (v15 : Value) (bb18 : List Nat), Has 80 [(0, (.pointer (some ⟨b1, 0, none⟩))), (1, (.int .i64 n_1)), (4, (.pointer (some ⟨b5, 0, none⟩))), (5, (.pointer (some ⟨b9, 0, none⟩))), (6, (.int .i64 t13)), (7, (.int .i64 t20))] a ∧ Mem (gB F [cellCh b1 [v2, (.int .i64 r_0_p)] 111] w0) (feet [cellCh b1 [v2, (.int .i64 r_0_p)] 111]) w0 [cellCh b1 [v2, (.int .i64 t14)] 111, cellCh b9 [v15, (.bool (decide (r7 = 0)))] 64, cellCh b5 [(.slice none 0 0), (.bool false)] 64, snapCh w0 F, dpCh (dSl dGRule 53) 69 bb18 v15 xs16] w) (fun a w hE hm => ⟨(.slice none 0 0), [], hE.sub ⟨rfl, rfl, rfl, rfl, rfl, rfl, trivial⟩, ((mem_dnil (dSl dGRule 53) 69 hm).pick [1, 2, 3, 4, 0] rfl)⟩) ?_
  rintro nx21 ⟨t14, xs16, t20⟩ a w ⟨v15, bb18, hE, hm⟩ h
  refine nx_of hE hm h ?_
  clear hE hm h
  refine c_seq ?_
  refine c_seq ?_
  refine c_region ?_
  refine o_mv st rfl rfl ?_
  refine o_mv st rfl rfl ?_
  refine o_lss st rfl rfl rfl ?_
  refine c_nil ?_
  refine l_then ?_
  refine c_cond rfl ?_ ?_
  · refine c_skip ?_
    refine l_then ?_
    refine c_join (σ := ((List (List GRule)) × Int)) (fun ((xs115, t119) : ((List (List GRule)) × Int)) (a : Act) (w : World) => ∃ (v116 : Value) (bb118 : List Nat), Has 80 [(0, (.pointer (some ⟨b1, 0, none⟩))), (1, (.int .i64 n_1)), (4, (.pointer (some ⟨b5, 0, none⟩))), (5, (.pointer (some ⟨b9, 0, none⟩))), (6, (.int .i64 t13)), (7, (.int .i64 t20))] a ∧ Mem (gB F [cellCh b1 [v2, (.int .i64 r_0_p)] 111] w0) (feet [cellCh b1 [v2, (.int .i64 r_0_p)] 111]) w0 [dpCh (dSl dGRule 53) 69 bb118 v116 xs115, cellCh b1 [v2, (.int .i64 t119)] 111, cellCh b9 [v116, (.bool (decide (r7 = 0)))] 64, cellCh b5 [(.slice none 0 0), (.bool false)] 64, snapCh w0 F] w) ?_ ?_
    · intro k120
      refine c_block ?_
      refine nx_dp 4 rfl ?_; rintro a22 l23 q24 rfl
      refine c_join1 (σ := ((List (List GRule)) × Int)) (fun ((xs25, t29) : ((List (List GRule)) × Int)) (a : Act) (w : World) => ∃ (v26 : Value) (bb28 : List Nat), Has 80 [(0, (.pointer (some ⟨b1, 0, none⟩))), (1, (.int .i64 n_1)), (4, (.pointer (some ⟨b5, 0, none⟩))), (5, (.pointer (some ⟨b9, 0, none⟩))), (6, (.int .i64 t13)), (7, (.int .i64 t20))] a ∧ Mem (gB F [cellCh b1 [v2, (.int .i64 r_0_p)] 111] w0) (feet [cellCh b1 [v2, (.int .i64 r_0_p)] 111]) w0 [dpCh (dSl dGRule 53) 69 bb28 v26 xs25, cellCh b1 [v2, (.int .i64 t29)] 111, cellCh b9 [v26, (.bool (decide (r7 = 0)))] 64, cellCh b5 [(.slice none 0 0), (.bool false)] 64, snapCh w0 F] w) ?_ ?_
      · intro k30
        refine c_drawQ mixed 11 rfl [cellCh b5 [(.slice none 0 0), (.bool false)] 64, snapCh w0 F] ?_
        intro Qd hP hQ
        have H416 : ∀ (r31 : (List GRule)) (a35 : Option Addr) (l36 : Nat) (q37 : Nat) (bb33 : List Nat) (r34 : Int) (v38 : Value) (bb39 : List Nat) (a43 : Option Addr) (l44 : Nat) (q45 : Nat) (bb41 : List Nat), Nx 80 (gB F [cellCh b1 [v2, (.int .i64 r_0_p)] 111] w0) (feet [cellCh b1 [v2, (.int .i64 r_0_p)] 111]) w0 (wpAnyH Tryd.prog .any (opsAt Tryd.f81 [1, 1, 1, 0, 1, 0, 0, 1, 0, 0]) Qd (Mem (gB F [cellCh b1 [v2, (.int .i64 r_0_p)] 111] w0) (feet [cellCh b1 [v2, (.int .i64 r_0_p)] 111]) w0 [cellCh b5 [(.slice none 0 0), (.bool false)] 64, snapCh w0 F]) 0 #[true, true, true, true, true, true, true, true, true, true, true]) [(0, (.pointer (some ⟨b1, 0, none⟩))), (1, (.int .i64 n_1)), (4, (.pointer (some ⟨b5, 0, none⟩))), (5, (.pointer (some ⟨b9, 0, none⟩))), (6, (.int .i64 t13)), (7, (.int .i64 t20))] [dpCh (dSl dGRule 53) 69 bb41 (.slice a43 l44 q45) (xs16 ++ ([r31])), cellCh b1 [v2, (.int .i64 r34)] 111, cellCh b9 [(.slice a43 l44 q45), (.bool (decide (r7 = 0)))] 64, cellCh b5 [(.slice none 0 0), (.bool false)] 64, snapCh w0 F] (k30 ((xs16 ++ ([r31])), r34)) := by
          intro r31 a35 l36 q37 bb33 r34 v38 bb39 a43 l44 q45 bb41
          refine d_done (by kernel_rfl) ?_
          exact fun a w hE hm hφ => hQ ((xs16 ++ ([r31])), r34) a w hφ ((fun a w hE hm => ⟨(.slice a43 l44 q45), bb41, hE.sub ⟨rfl, rfl, rfl, rfl, rfl, rfl, trivial⟩, (hm.pick [0, 1, 2, 3, 4] rfl)⟩) a w hE hm)
        have H417 : ∀ (r31 : (List GRule)) (a35 : Option Addr) (l36 : Nat) (q37 : Nat) (bb33 : List Nat) (r34 : Int) (v38 : Value) (bb39 : List Nat) (v40 : Value) (bb41 : List Nat), Nx 80 (gB F [cellCh b1 [v2, (.int .i64 r_0_p)] 111] w0) (feet [cellCh b1 [v2, (.int .i64 r_0_p)] 111]) w0 (wpAnyH Tryd.prog .any (opsAt Tryd.f81 [1, 1, 1, 0, 1, 0, 0, 1, 0, 0]) Qd (Mem (gB F [cellCh b1 [v2, (.int .i64 r_0_p)] 111] w0) (feet [cellCh b1 [v2, (.int .i64 r_0_p)] 111]) w0 [cellCh b5 [(.slice none 0 0), (.bool false)] 64, snapCh w0 F]) 2 #[true, true, true, true, true, true, true, true, true, false, false]) [(0, (.pointer (some ⟨b1, 0, none⟩))), (1, (.int .i64 n_1)), (4, (.pointer (some ⟨b5, 0, none⟩))), (5, (.pointer (some ⟨b9, 0, none⟩))), (6, (.int .i64 t13)), (7, (.int .i64 t20)), (28, v40)] [dpCh (dSl dGRule 53) 69 bb41 v40 (xs16 ++ ([r31])), cellCh b1 [v2, (.int .i64 r34)] 111, cellCh b9 [(.slice a22 l23 q24), (.bool (decide (r7 = 0)))] 64, cellCh b5 [(.slice none 0 0), (.bool false)] 64, snapCh w0 F] (k30 ((xs16 ++ ([r31])), r34)) := by
          intro r31 a35 l36 q37 bb33 r34 v38 bb39 v40 bb41
          refine o_fad (dt 9 (fun w m => m.pick [3, 4] rfl)) rfl rfl fld64_0 rfl ?_
          refine nx_dp 0 rfl ?_; rintro a43 l44 q45 rfl
          refine d_one (i := 10) rfl (by kernel_rfl) (o_stc (cs' := [(.slice a43 l44 q45), (.bool (decide (r7 = 0)))]) 2 rfl rfl rfl ty62 rfl rfl rfl rfl ?_)
          refine d_and (fun w m => m.pick [3, 4] rfl) ?_
          refine pk [0, 1, 2, 3, 4] rfl ?_
          refine re (E' := [(0, (.pointer (some ⟨b1, 0, none⟩))), (1, (.int .i64 n_1)), (4, (.pointer (some ⟨b5, 0, none⟩))), (5, (.pointer (some ⟨b9, 0, none⟩))), (6, (.int .i64 t13)), (7, (.int .i64 t20))]) ⟨rfl, rfl, rfl, rfl, rfl, rfl, trivial⟩ ?_
          exact H416 r31 a35 l36 q37 bb33 r34 v38 bb39 a43 l44 q45 bb41
        have H418 : ∀ (r31 : (List GRule)) (a35 : Option Addr) (l36 : Nat) (q37 : Nat) (bb33 : List Nat) (r34 : Int) (v38 : Value) (bb39 : List Nat), Nx 80 (gB F [cellCh b1 [v2, (.int .i64 r_0_p)] 111] w0) (feet [cellCh b1 [v2, (.int .i64 r_0_p)] 111]) w0 (wpAnyH Tryd.prog .any (opsAt Tryd.f81 [1, 1, 1, 0, 1, 0, 0, 1, 0, 0]) Qd (Mem (gB F [cellCh b1 [v2, (.int .i64 r_0_p)] 111] w0) (feet [cellCh b1 [v2, (.int .i64 r_0_p)] 111]) w0 [cellCh b5 [(.slice none 0 0), (.bool false)] 64, snapCh w0 F]) 3 #[true, true, true, true, true, true, true, true, false, false, false]) [(0, (.pointer (some ⟨b1, 0, none⟩))), (1, (.int .i64 n_1)), (4, (.pointer (some ⟨b5, 0, none⟩))), (5, (.pointer (some ⟨b9, 0, none⟩))), (6, (.int .i64 t13)), (7, (.int .i64 t20)), (21, (.slice a22 l23 q24)), (27, v38)] [dpCh (dSl dGRule 53) 69 bb39 v38 ([r31]), cellCh b1 [v2, (.int .i64 r34)] 111, cellCh b9 [(.slice a22 l23 q24), (.bool (decide (r7 = 0)))] 64, cellCh b5 [(.slice none 0 0), (.bool false)] 64, snapCh w0 F, dpCh (dSl dGRule 53) 69 bb18 (.slice a22 l23 q24) xs16] (appW xs16 ([r31]) (fun _ => k30 ((xs16 ++ ([r31])), r34))) := by
          intro r31 a35 l36 q37 bb33 r34 v38 bb39
          refine pk [5, 0, 1, 2, 3, 4] rfl ?_
          refine d_one (i := 8) rfl (by kernel_rfl) (o_appD rfl rfl rfl el62 rfl zero69 rfl rfl ?_); intro bb41 v40
          refine d_and (fun w m => m.pick [3, 4] rfl) ?_
          refine pk [0, 1, 2, 3, 4] rfl ?_
          refine re (E' := [(0, (.pointer (some ⟨b1, 0, none⟩))), (1, (.int .i64 n_1)), (4, (.pointer (some ⟨b5, 0, none⟩))), (5, (.pointer (some ⟨b9, 0, none⟩))), (6, (.int .i64 t13)), (7, (.int .i64 t20)), (28, v40)]) ⟨rfl, rfl, rfl, rfl, rfl, rfl, rfl, trivial⟩ ?_
          exact H417 r31 a35 l36 q37 bb33 r34 v38 bb39 v40 bb41
        have H419 : ∀ (r31 : (List GRule)) (v32 : Value) (bb33 : List Nat) (r34 : Int), Nx 80 (gB F [cellCh b1 [v2, (.int .i64 r_0_p)] 111] w0) (feet [cellCh b1 [v2, (.int .i64 r_0_p)] 111]) w0 (wpAnyH Tryd.prog .any (opsAt Tryd.f81 [1, 1, 1, 0, 1, 0, 0, 1, 0, 0]) Qd (Mem (gB F [cellCh b1 [v2, (.int .i64 r_0_p)] 111] w0) (feet [cellCh b1 [v2, (.int .i64 r_0_p)] 111]) w0 [cellCh b5 [(.slice none 0 0), (.bool false)] 64, snapCh w0 F]) 4 #[true, true, true, true, true, true, true, false, false, false, false]) [(0, (.pointer (some ⟨b1, 0, none⟩))), (1, (.int .i64 n_1)), (4, (.pointer (some ⟨b5, 0, none⟩))), (5, (.pointer (some ⟨b9, 0, none⟩))), (6, (.int .i64 t13)), (7, (.int .i64 t20)), (21, (.slice a22 l23 q24)), (26, v32)] [dpCh dGRule 53 bb33 v32 r31, cellCh b1 [v2, (.int .i64 r34)] 111, cellCh b9 [(.slice a22 l23 q24), (.bool (decide (r7 = 0)))] 64, cellCh b5 [(.slice none 0 0), (.bool false)] 64, snapCh w0 F, dpCh (dSl dGRule 53) 69 bb18 (.slice a22 l23 q24) xs16] (appW xs16 ([r31]) (fun _ => k30 ((xs16 ++ ([r31])), r34))) := by
          intro r31 v32 bb33 r34
          refine nx_dp 0 rfl ?_; rintro a35 l36 q37 rfl
          refine d_one (i := 7) rfl (by kernel_rfl) (o_bslD (M := [dpCh dGRule 53 bb33 (.slice a35 l36 q37) r31]) (E' := (dSl dGRule 53)) (qs := [(0, (.slice a35 l36 q37))]) (cs := [(.slice a35 l36 q37)]) r31 (absorb_one gives_dp (fun B w h => ⟨_, rfl, h⟩)) (by intro ρ h; simp only [List.map_toArray, List.map_cons, List.map_nil, h (.tmp 26) _ rfl]) rfl el62 zero69 rfl rfl rfl rfl ?_); intro bb39 v38
          refine d_and (fun w m => m.pick [3, 4] rfl) ?_
          refine pk [0, 1, 2, 3, 4, 5] rfl ?_
          refine re (E' := [(0, (.pointer (some ⟨b1, 0, none⟩))), (1, (.int .i64 n_1)), (4, (.pointer (some ⟨b5, 0, none⟩))), (5, (.pointer (some ⟨b9, 0, none⟩))), (6, (.int .i64 t13)), (7, (.int .i64 t20)), (21, (.slice a22 l23 q24)), (27, v38)]) ⟨rfl, rfl, rfl, rfl, rfl, rfl, rfl, rfl, trivial⟩ ?_
          exact H418 r31 a35 l36 q37 bb33 r34 v38 bb39
        have H420 : ∀ (_ : Unit), Nx 80 (gB F [cellCh b1 [v2, (.int .i64 r_0_p)] 111] w0) (feet [cellCh b1 [v2, (.int .i64 r_0_p)] 111]) w0 (wpAnyH Tryd.prog .any (opsAt Tryd.f81 [1, 1, 1, 0, 1, 0, 0, 1, 0, 0]) Qd (Mem (gB F [cellCh b1 [v2, (.int .i64 r_0_p)] 111] w0) (feet [cellCh b1 [v2, (.int .i64 r_0_p)] 111]) w0 [cellCh b5 [(.slice none 0 0), (.bool false)] 64, snapCh w0 F]) 5 #[true, true, true, true, true, true, false, false, false, false, false]) [(0, (.pointer (some ⟨b1, 0, none⟩))), (1, (.int .i64 n_1)), (4, (.pointer (some ⟨b5, 0, none⟩))), (5, (.pointer (some ⟨b9, 0, none⟩))), (6, (.int .i64 t13)), (7, (.int .i64 t20)), (22, (.pointer (some ⟨b1, 0, none⟩))), (24, (.int .i64 (w64 (t20 + 1)))), (25, (.int .i64 t13)), (21, (.slice a22 l23 q24))] [cellCh b1 [v2, (.int .i64 t14)] 111, cellCh b9 [(.slice a22 l23 q24), (.bool (decide (r7 = 0)))] 64, cellCh b5 [(.slice none 0 0), (.bool false)] 64, snapCh w0 F, dpCh (dSl dGRule 53) 69 bb18 (.slice a22 l23 q24) xs16] (L_spec_l20Rules r_0_b t14 (w64 (t20 + 1)) t13 0 (fun (r31, r34) => appW xs16 ([r31]) (fun _ => k30 ((xs16 ++ ([r31])), r34)))) := by
          intro _
          refine d_one (i := 6) rfl (by kernel_rfl) (o_call (vs := [(.pointer (some ⟨b1, 0, none⟩)), (.int .i64 (w64 (t20 + 1))), (.int .i64 t13), (.int .i64 0)]) (M0 := [cellCh b1 [v2, (.int .i64 t14)] 111]) Tryd.call95 rfl rfl (by intro w m h; exact (w_spec_l20Rules (F := allB [cellCh b1 [v2, (.int .i64 t14)] 111] w) (r_0_b := r_0_b) (r_0_p := t14) (first_1 := (w64 (t20 + 1))) (chains_2 := t13) (n_3 := 0) allB_ok m.given (m.rdM 2 rfl (reads_snap hv2)) h).mono (fun _ _ k => ret_free (fun r u => (fr_cons free_dp (fr_cons free_cell fr_nil))) k)) ?_); rintro ⟨r31, r34⟩ ⟨v32, bb33⟩
          refine d_and (fun w m => m.pick [3, 4] rfl) ?_
          refine pk [0, 1, 2, 3, 4, 5] rfl ?_
          refine re (E' := [(0, (.pointer (some ⟨b1, 0, none⟩))), (1, (.int .i64 n_1)), (4, (.pointer (some ⟨b5, 0, none⟩))), (5, (.pointer (some ⟨b9, 0, none⟩))), (6, (.int .i64 t13)), (7, (.int .i64 t20)), (21, (.slice a22 l23 q24)), (26, v32)]) ⟨rfl, rfl, rfl, rfl, rfl, rfl, rfl, rfl, trivial⟩ ?_
          exact H419 r31 v32 bb33 r34
        have H421 : ∀ (r46 : (List GRule)) (a50 : Option Addr) (l51 : Nat) (q52 : Nat) (bb48 : List Nat) (r49 : Int) (v53 : Value) (bb54 : List Nat), Nx 80 (gB F [cellCh b1 [v2, (.int .i64 r_0_p)] 111] w0) (feet [cellCh b1 [v2, (.int .i64 r_0_p)] 111]) w0 (wpAnyH Tryd.prog .any (opsAt Tryd.f81 [1, 1, 1, 0, 1, 0, 0, 1, 0, 0]) Qd (Mem (gB F [cellCh b1 [v2, (.int .i64 r_0_p)] 111] w0) (feet [cellCh b1 [v2, (.int .i64 r_0_p)] 111]) w0 [cellCh b5 [(.slice none 0 0), (.bool false)] 64, snapCh w0 F]) 4 #[true, false, true, true, true, true, true, true, false, false, false]) [(0, (.pointer (some ⟨b1, 0, none⟩))), (1, (.int .i64 n_1)), (4, (.pointer (some ⟨b5, 0, none⟩))), (5, (.pointer (some ⟨b9, 0, none⟩))), (6, (.int .i64 t13)), (7, (.int .i64 t20)), (20, (.pointer (some ⟨b9, 0, none⟩))), (27, v53)] [dpCh (dSl dGRule 53) 69 bb54 v53 ([r46]), cellCh b1 [v2, (.int .i64 r49)] 111, cellCh b9 [(.slice a22 l23 q24), (.bool (decide (r7 = 0)))] 64, cellCh b5 [(.slice none 0 0), (.bool false)] 64, snapCh w0 F, dpCh (dSl dGRule 53) 69 bb18 (.slice a22 l23 q24) xs16] (appW xs16 ([r46]) (fun _ => k30 ((xs16 ++ ([r46])), r49))) := by
          intro r46 a50 l51 q52 bb48 r49 v53 bb54
          refine d_one (i := 1) rfl (by kernel_rfl) (o_ldc m_op (v := (.slice a22 l23 q24)) 2 rfl rfl rfl ty62 rfl ?_)
          refine d_and (fun w m => m.pick [3, 4] rfl) ?_
          refine pk [0, 1, 2, 3, 4, 5] rfl ?_
          refine re (E' := [(0, (.pointer (some ⟨b1, 0, none⟩))), (1, (.int .i64 n_1)), (4, (.pointer (some ⟨b5, 0, none⟩))), (5, (.pointer (some ⟨b9, 0, none⟩))), (6, (.int .i64 t13)), (7, (.int .i64 t20)), (21, (.slice a22 l23 q24)), (27, v53)]) ⟨rfl, rfl, rfl, rfl, rfl, rfl, rfl, rfl, trivial⟩ ?_
          exact H418 r46 a50 l51 q52 bb48 r49 v53 bb54
        have H422 : ∀ (r46 : (List GRule)) (v47 : Value) (bb48 : List Nat) (r49 : Int), Nx 80 (gB F [cellCh b1 [v2, (.int .i64 r_0_p)] 111] w0) (feet [cellCh b1 [v2, (.int .i64 r_0_p)] 111]) w0 (wpAnyH Tryd.prog .any (opsAt Tryd.f81 [1, 1, 1, 0, 1, 0, 0, 1, 0, 0]) Qd (Mem (gB F [cellCh b1 [v2, (.int .i64 r_0_p)] 111] w0) (feet [cellCh b1 [v2, (.int .i64 r_0_p)] 111]) w0 [cellCh b5 [(.slice none 0 0), (.bool false)] 64, snapCh w0 F]) 5 #[true, false, true, true, true, true, true, false, false, false, false]) [(0, (.pointer (some ⟨b1, 0, none⟩))), (1, (.int .i64 n_1)), (4, (.pointer (some ⟨b5, 0, none⟩))), (5, (.pointer (some ⟨b9, 0, none⟩))), (6, (.int .i64 t13)), (7, (.int .i64 t20)), (20, (.pointer (some ⟨b9, 0, none⟩))), (26, v47)] [dpCh dGRule 53 bb48 v47 r46, cellCh b1 [v2, (.int .i64 r49)] 111, cellCh b9 [(.slice a22 l23 q24), (.bool (decide (r7 = 0)))] 64, cellCh b5 [(.slice none 0 0), (.bool false)] 64, snapCh w0 F, dpCh (dSl dGRule 53) 69 bb18 (.slice a22 l23 q24) xs16] (appW xs16 ([r46]) (fun _ => k30 ((xs16 ++ ([r46])), r49))) := by
          intro r46 v47 bb48 r49
          refine d_two (i := 1) (j := 7) rfl rfl (by kernel_rfl) ?_ ?_
          · intro o ho; cases ho
            refine o_ldc m_op (v := (.slice a22 l23 q24)) 2 rfl rfl rfl ty62 rfl ?_
            refine d_and (fun w m => m.pick [3, 4] rfl) ?_
            refine pk [0, 1, 2, 3, 4, 5] rfl ?_
            refine re (E' := [(0, (.pointer (some ⟨b1, 0, none⟩))), (1, (.int .i64 n_1)), (4, (.pointer (some ⟨b5, 0, none⟩))), (5, (.pointer (some ⟨b9, 0, none⟩))), (6, (.int .i64 t13)), (7, (.int .i64 t20)), (21, (.slice a22 l23 q24)), (26, v47)]) ⟨rfl, rfl, rfl, rfl, rfl, rfl, rfl, rfl, trivial⟩ ?_
            exact H419 r46 v47 bb48 r49
          · intro o ho; cases ho
            refine nx_dp 0 rfl ?_; rintro a50 l51 q52 rfl
            refine o_bslD (M := [dpCh dGRule 53 bb48 (.slice a50 l51 q52) r46]) (E' := (dSl dGRule 53)) (qs := [(0, (.slice a50 l51 q52))]) (cs := [(.slice a50 l51 q52)]) r46 (absorb_one gives_dp (fun B w h => ⟨_, rfl, h⟩)) (by intro ρ h; simp only [List.map_toArray, List.map_cons, List.map_nil, h (.tmp 26) _ rfl]) rfl el62 zero69 rfl rfl rfl rfl ?_; intro bb54 v53
            refine d_and (fun w m => m.pick [3, 4] rfl) ?_
            refine pk [0, 1, 2, 3, 4, 5] rfl ?_
            refine re (E' := [(0, (.pointer (some ⟨b1, 0, none⟩))), (1, (.int .i64 n_1)), (4, (.pointer (some ⟨b5, 0, none⟩))), (5, (.pointer (some ⟨b9, 0, none⟩))), (6, (.int .i64 t13)), (7, (.int .i64 t20)), (20, (.pointer (some ⟨b9, 0, none⟩))), (27, v53)]) ⟨rfl, rfl, rfl, rfl, rfl, rfl, rfl, rfl, trivial⟩ ?_
            exact H421 r46 a50 l51 q52 bb48 r49 v53 bb54
        refine o_fad (dt 0 (fun w m => m.pick [2, 3] rfl)) rfl rfl fld64_0 rfl ?_
        refine o_mv (dt 2 (fun w m => m.pick [2, 3] rfl)) rfl rfl ?_
        refine o_mv (dt 3 (fun w m => m.pick [2, 3] rfl)) rfl rfl ?_
        refine o_addw (dt 4 (fun w m => m.pick [2, 3] rfl)) rfl rfl rfl ?_
        refine o_mv (dt 5 (fun w m => m.pick [2, 3] rfl)) rfl rfl ?_
        refine d_two (i := 1) (j := 6) rfl rfl (by kernel_rfl) ?_ ?_
        · intro o ho; cases ho
          refine o_ldc m_op (v := (.slice a22 l23 q24)) 1 rfl rfl rfl ty62 rfl ?_
          refine d_and (fun w m => m.pick [2, 3] rfl) ?_
          refine pk [0, 1, 2, 3, 4] rfl ?_
          refine re (E' := [(0, (.pointer (some ⟨b1, 0, none⟩))), (1, (.int .i64 n_1)), (4, (.pointer (some ⟨b5, 0, none⟩))), (5, (.pointer (some ⟨b9, 0, none⟩))), (6, (.int .i64 t13)), (7, (.int .i64 t20)), (22, (.pointer (some ⟨b1, 0, none⟩))), (24, (.int .i64 (w64 (t20 + 1)))), (25, (.int .i64 t13)), (21, (.slice a22 l23 q24))]) ⟨rfl, rfl, rfl, rfl, rfl, rfl, rfl, rfl, rfl, rfl, trivial⟩ ?_
          exact H420 ()
        · intro o ho; cases ho
          refine o_call (vs := [(.pointer (some ⟨b1, 0, none⟩)), (.int .i64 (w64 (t20 + 1))), (.int .i64 t13), (.int .i64 0)]) (M0 := [cellCh b1 [v2, (.int .i64 t14)] 111]) Tryd.call95 rfl rfl (by intro w m h; exact (w_spec_l20Rules (F := allB [cellCh b1 [v2, (.int .i64 t14)] 111] w) (r_0_b := r_0_b) (r_0_p := t14) (first_1 := (w64 (t20 + 1))) (chains_2 := t13) (n_3 := 0) allB_ok m.given (m.rdM 2 rfl (reads_snap hv2)) h).mono (fun _ _ k => ret_free (fun r u => (fr_cons free_dp (fr_cons free_cell fr_nil))) k)) ?_; rintro ⟨r46, r49⟩ ⟨v47, bb48⟩
          refine d_and (fun w m => m.pick [3, 4] rfl) ?_
          refine pk [0, 1, 2, 3, 4, 5] rfl ?_
          refine re (E' := [(0, (.pointer (some ⟨b1, 0, none⟩))), (1, (.int .i64 n_1)), (4, (.pointer (some ⟨b5, 0, none⟩))), (5, (.pointer (some ⟨b9, 0, none⟩))), (6, (.int .i64 t13)), (7, (.int .i64 t20)), (20, (.pointer (some ⟨b9, 0, none⟩))), (26, v47)]) ⟨rfl, rfl, rfl, rfl, rfl, rfl, rfl, rfl, trivial⟩ ?_
          exact H422 r46 v47 bb48 r49
      · rintro ⟨xs25, t29⟩ a w ⟨v26, bb28, hE, hm⟩ h
        refine nx_of hE hm h ?_
        clear hE hm h
        refine b_norm ?_
        exact l_join (xs25, t29) (fun a w hE hm => ⟨v26, bb28, hE.sub ⟨rfl, rfl, rfl, rfl, rfl, rfl, trivial⟩, (hm.pick [0, 1, 2, 3, 4] rfl)⟩)
    · rintro ⟨xs115, t119⟩ a w ⟨v116, bb118, hE, hm⟩ h
      refine nx_of hE hm h ?_
      clear hE hm h
      refine c_region ?_
      refine o_mv st rfl rfl ?_
      refine o_add st rfl rfl rfl ?_; intro t121
      refine o_as st rfl rfl ?_
      refine c_nil ?_
      exact l_join (t119, xs115, t121) (fun a w hE hm => ⟨v116, bb118, hE.sub ⟨rfl, rfl, rfl, rfl, rfl, rfl, trivial⟩, (hm.pick [1, 2, 3, 4, 0] rfl)⟩)
  · refine c_exit ?_
    refine l_exit ?_
    refine l_exit ?_
    refine b_exit ?_
    refine l_then ?_
    refine c_join (σ := (Int × (List (List GRule)))) (fun ((t319, xs321) : (Int × (List (List GRule)))) (a : Act) (w : World) => ∃ (v320 : Value) (bb323 : List Nat), Has 80 [(4, (.pointer (some ⟨b5, 0, none⟩))), (5, (.pointer (some ⟨b9, 0, none⟩)))] a ∧ Mem (gB F [cellCh b1 [v2, (.int .i64 r_0_p)] 111] w0) (feet [cellCh b1 [v2, (.int .i64 r_0_p)] 111]) w0 [cellCh b1 [v2, (.int .i64 t319)] 111, cellCh b9 [v320, (.bool (decide (r7 = 0)))] 64, cellCh b5 [(.slice none 0 0), (.bool false)] 64, snapCh w0 F, dpCh (dSl dGRule 53) 69 bb323 v320 xs321] w) ?_ ?_
    · intro k325
      refine c_seq ?_
      refine c_region ?_
      refine o_mv st rfl rfl ?_
      refine o_mv st rfl rfl ?_
      refine stw (o_call (vs := [(.pointer (some ⟨b1, 0, none⟩)), (.int .i64 n_1)]) (M0 := [cellCh b1 [v2, (.int .i64 t14)] 111]) Tryd.call64 rfl rfl (by intro w m h; exact (w_spec_l20Rd_odd (F := allB [cellCh b1 [v2, (.int .i64 t14)] 111] w) (r_0_b := r_0_b) (r_0_p := t14) (n_1 := n_1) allB_ok m.given (m.rdM 2 rfl (reads_snap hv2)) h).mono (fun _ _ k => ret_free (fun r u => (fr_cons free_cell fr_nil)) k)) ?_); rintro ⟨r122, r123⟩ _
      refine c_nil ?_
      refine l_then ?_
      refine c_cond rfl ?_ ?_
      · refine c_seq ?_
        refine c_region ?_
        refine o_mv st rfl rfl ?_
        refine stw (o_call (vs := [(.pointer (some ⟨b1, 0, none⟩)), (.int .i64 4)]) (M0 := [cellCh b1 [v2, (.int .i64 r123)] 111]) Tryd.call65 rfl rfl (by intro w m h; exact (w_spec_l20Rd_pick (F := allB [cellCh b1 [v2, (.int .i64 r123)] 111] w) (r_0_b := r_0_b) (r_0_p := r123) (n_1 := 4) allB_ok m.given (m.rdM 2 rfl (reads_snap hv2)) h).mono (fun _ _ k => ret_free (fun r u => (fr_cons free_cell fr_nil)) k)) ?_); rintro ⟨r124, r125⟩ _
        refine c_nil ?_
        refine l_then ?_
        refine c_block ?_
        refine c_seq ?_
        refine c_region ?_
        refine o_eql st und3 rfl rfl rfl ?_
        refine o_as st rfl rfl ?_
        refine c_nil ?_
        refine l_then ?_
        refine c_cond rfl ?_ ?_
        · refine c_region ?_
          refine stw (o_bslD0 (E' := (dSl dGRule 53)) (qs := []) (by intro ρ h; simp only [List.map_toArray, List.map_cons, List.map_nil]) rfl el62 zero69 rfl rfl rfl ?_); intro bb127 v126
          refine o_fad st rfl rfl fld64_0 rfl ?_
          refine nx_dp 0 rfl ?_; rintro a129 l130 q131 rfl
          refine stw (o_stc (cs' := [(.slice a129 l130 q131), (.bool (decide (r7 = 0)))]) 2 rfl rfl rfl ty62 rfl rfl rfl rfl ?_)
          refine c_nil ?_
          refine b_norm ?_
          exact l_join (r125, []) (fun a w hE hm => ⟨(.slice a129 l130 q131), bb127, hE.sub ⟨rfl, rfl, trivial⟩, (hm.pick [1, 2, 3, 4, 0] rfl)⟩)
        · refine c_seq ?_
          refine c_region ?_
          refine o_eql st und3 rfl rfl rfl ?_
          refine o_as st rfl rfl ?_
          refine c_nil ?_
          refine l_then ?_
          refine c_cond rfl ?_ ?_
          · refine nx_dp 4 rfl ?_; rintro a132 l133 q134 rfl
            refine c_join1 (σ := ((List (List GRule)) × Int)) (fun ((xs135, t138) : ((List (List GRule)) × Int)) (a : Act) (w : World) => ∃ (bb137 : List Nat), Has 80 [(4, (.pointer (some ⟨b5, 0, none⟩))), (5, (.pointer (some ⟨b9, 0, none⟩)))] a ∧ Mem (gB F [cellCh b1 [v2, (.int .i64 r_0_p)] 111] w0) (feet [cellCh b1 [v2, (.int .i64 r_0_p)] 111]) w0 [dpCh (dSl dGRule 53) 69 bb137 (.slice a132 l133 q134) xs135, cellCh b1 [v2, (.int .i64 t138)] 111, cellCh b9 [(.slice a132 l133 q134), (.bool (decide (r7 = 0)))] 64, cellCh b5 [(.slice none 0 0), (.bool false)] 64, snapCh w0 F] w) ?_ ?_
            · intro k139
              refine c_drawQ mixed 17 rfl [cellCh b9 [(.slice a132 l133 q134), (.bool (decide (r7 = 0)))] 64, cellCh b5 [(.slice none 0 0), (.bool false)] 64, snapCh w0 F] ?_
              intro Qd hP hQ
              have H450 : ∀ (e140 : (List GRule)) (h141 : xs16[(0 : Int).toNat]? = some e140) (v142 : Value) (bb143 : List Nat) (bb144 : List Nat) (v145 : Value) (r146 : Int) (r147 : Int) (e148 : Int) (h149 : ([0, t13])[(r146).toNat]? = some e148) (v150 : Value) (bb151 : List Nat) (a157 : Option Addr) (l158 : Nat) (q159 : Nat) (bb153 : List Nat) (e155 : (List GRule)) (h156 : xs16[(0 : Int).toNat]? = some e155) (bb160 : List Nat), Nx 80 (gB F [cellCh b1 [v2, (.int .i64 r_0_p)] 111] w0) (feet [cellCh b1 [v2, (.int .i64 r_0_p)] 111]) w0 (wpAnyH Tryd.prog .any (opsAt Tryd.f81 [1, 1, 1, 1, 0, 1, 0, 1, 0, 1, 1, 1, 0]) Qd (Mem (gB F [cellCh b1 [v2, (.int .i64 r_0_p)] 111] w0) (feet [cellCh b1 [v2, (.int .i64 r_0_p)] 111]) w0 [cellCh b9 [(.slice a132 l133 q134), (.bool (decide (r7 = 0)))] 64, cellCh b5 [(.slice none 0 0), (.bool false)] 64, snapCh w0 F]) 0 #[true, true, true, true, true, true, true, true, true, true, true, true, true, true, true, true, true]) [(4, (.pointer (some ⟨b5, 0, none⟩))), (5, (.pointer (some ⟨b9, 0, none⟩)))] [dpCh (dSl dGRule 53) 69 bb160 (.slice a132 l133 q134) (xs16.set (0 : Int).toNat (e140 ++ ([(GRule.mk ([]) 3 e148)]))), cellCh b1 [v2, (.int .i64 r147)] 111, cellCh b9 [(.slice a132 l133 q134), (.bool (decide (r7 = 0)))] 64, cellCh b5 [(.slice none 0 0), (.bool false)] 64, snapCh w0 F] (k139 ((xs16.set (0 : Int).toNat (e140 ++ ([(GRule.mk ([]) 3 e148)]))), r147)) := by
                intro e140 h141 v142 bb143 bb144 v145 r146 r147 e148 h149 v150 bb151 a157 l158 q159 bb153 e155 h156 bb160
                refine d_done (by kernel_rfl) ?_
                exact fun a w hE hm hφ => hQ ((xs16.set (0 : Int).toNat (e140 ++ ([(GRule.mk ([]) 3 e148)]))), r147) a w hφ ((fun a w hE hm => ⟨bb160, hE.sub ⟨rfl, rfl, trivial⟩, (hm.pick [0, 1, 2, 3, 4] rfl)⟩) a w hE hm)
              have H451 : ∀ (e140 : (List GRule)) (h141 : xs16[(0 : Int).toNat]? = some e140) (v142 : Value) (bb143 : List Nat) (bb144 : List Nat) (v145 : Value) (r146 : Int) (r147 : Int) (e148 : Int) (h149 : ([0, t13])[(r146).toNat]? = some e148) (v150 : Value) (bb151 : List Nat) (v152 : Value) (bb153 : List Nat) (e155 : (List GRule)) (h156 : xs16[(0 : Int).toNat]? = some e155), Nx 80 (gB F [cellCh b1 [v2, (.int .i64 r_0_p)] 111] w0) (feet [cellCh b1 [v2, (.int .i64 r_0_p)] 111]) w0 (wpAnyH Tryd.prog .any (opsAt Tryd.f81 [1, 1, 1, 1, 0, 1, 0, 1, 0, 1, 1, 1, 0]) Qd (Mem (gB F [cellCh b1 [v2, (.int .i64 r_0_p)] 111] w0) (feet [cellCh b1 [v2, (.int .i64 r_0_p)] 111]) w0 [cellCh b9 [(.slice a132 l133 q134), (.bool (decide (r7 = 0)))] 64, cellCh b5 [(.slice none 0 0), (.bool false)] 64, snapCh w0 F]) 1 #[true, true, true, true, true, true, true, true, true, true, true, true, true, true, true, true, false]) [(4, (.pointer (some ⟨b5, 0, none⟩))), (5, (.pointer (some ⟨b9, 0, none⟩))), (61, v152), (62, (pEl (.slice a132 l133 q134) 0 1 0))] [dpCh dGRule 53 bb153 v152 (e140 ++ ([(GRule.mk ([]) 3 e148)])), cellCh b1 [v2, (.int .i64 r147)] 111, holeCh (dSl dGRule 53) 69 bb143 (.slice a132 l133 q134) xs16 (0 : Int).toNat [v142], cellCh b9 [(.slice a132 l133 q134), (.bool (decide (r7 = 0)))] 64, cellCh b5 [(.slice none 0 0), (.bool false)] 64, snapCh w0 F] (k139 ((xs16.set (0 : Int).toNat (e140 ++ ([(GRule.mk ([]) 3 e148)]))), r147)) := by
                intro e140 h141 v142 bb143 bb144 v145 r146 r147 e148 h149 v150 bb151 v152 bb153 e155 h156
                refine nx_dp 0 rfl ?_; rintro a157 l158 q159 rfl
                refine pk [2, 0, 1, 3, 4, 5] rfl ?_
                refine d_one (i := 16) rfl (by kernel_rfl) (o_stH (M := [dpCh dGRule 53 bb153 (.slice a157 l158 q159) (e140 ++ ([(GRule.mk ([]) 3 e148)]))]) (y' := (e140 ++ ([(GRule.mk ([]) 3 e148)]))) rfl (.inr (lt_of_get h141)) (absorb_one gives_dp (fun B w h => ⟨_, rfl, h⟩)) ty69 rfl rfl rfl rfl rfl ?_); intro bb160
                refine d_and (fun w m => m.pick [2, 3, 4] rfl) ?_
                refine pk [0, 1, 2, 3, 4] rfl ?_
                refine re (E' := [(4, (.pointer (some ⟨b5, 0, none⟩))), (5, (.pointer (some ⟨b9, 0, none⟩)))]) ⟨rfl, rfl, trivial⟩ ?_
                exact H450 e140 h141 v142 bb143 bb144 v145 r146 r147 e148 h149 v150 bb151 a157 l158 q159 bb153 e155 h156 bb160
              have H452 : ∀ (e140 : (List GRule)) (h141 : xs16[(0 : Int).toNat]? = some e140) (v142 : Value) (bb143 : List Nat) (bb144 : List Nat) (v145 : Value) (r146 : Int) (r147 : Int) (e148 : Int) (h149 : ([0, t13])[(r146).toNat]? = some e148) (v150 : Value) (bb151 : List Nat) (v152 : Value) (bb153 : List Nat), Nx 80 (gB F [cellCh b1 [v2, (.int .i64 r_0_p)] 111] w0) (feet [cellCh b1 [v2, (.int .i64 r_0_p)] 111]) w0 (wpAnyH Tryd.prog .any (opsAt Tryd.f81 [1, 1, 1, 1, 0, 1, 0, 1, 0, 1, 1, 1, 0]) Qd (Mem (gB F [cellCh b1 [v2, (.int .i64 r_0_p)] 111] w0) (feet [cellCh b1 [v2, (.int .i64 r_0_p)] 111]) w0 [cellCh b9 [(.slice a132 l133 q134), (.bool (decide (r7 = 0)))] 64, cellCh b5 [(.slice none 0 0), (.bool false)] 64, snapCh w0 F]) 2 #[true, true, true, true, true, true, true, true, true, true, true, true, true, true, true, false, false]) [(4, (.pointer (some ⟨b5, 0, none⟩))), (5, (.pointer (some ⟨b9, 0, none⟩))), (48, (.slice a132 l133 q134)), (61, v152)] [dpCh dGRule 53 bb153 v152 (e140 ++ ([(GRule.mk ([]) 3 e148)])), cellCh b1 [v2, (.int .i64 r147)] 111, holeCh (dSl dGRule 53) 69 bb143 (.slice a132 l133 q134) xs16 (0 : Int).toNat [v142], cellCh b9 [(.slice a132 l133 q134), (.bool (decide (r7 = 0)))] 64, cellCh b5 [(.slice none 0 0), (.bool false)] 64, snapCh w0 F] (idxW xs16 0 (fun e155 => k139 ((xs16.set (0 : Int).toNat (e140 ++ ([(GRule.mk ([]) 3 e148)]))), r147))) := by
                intro e140 h141 v142 bb143 bb144 v145 r146 r147 e148 h149 v150 bb151 v152 bb153
                refine d_one (i := 15) rfl (by kernel_rfl) (o_idxH m_op 2 rfl rfl rfl rfl el62 ?_); intro e155 h156
                refine d_and (fun w m => m.pick [3, 4, 5] rfl) ?_
                refine pk [0, 1, 2, 3, 4, 5] rfl ?_
                refine re (E' := [(4, (.pointer (some ⟨b5, 0, none⟩))), (5, (.pointer (some ⟨b9, 0, none⟩))), (61, v152), (62, (pEl (.slice a132 l133 q134) 0 1 0))]) ⟨rfl, rfl, rfl, rfl, trivial⟩ ?_
                exact H451 e140 h141 v142 bb143 bb144 v145 r146 r147 e148 h149 v150 bb151 v152 bb153 e155 h156
              have H453 : ∀ (e140 : (List GRule)) (h141 : xs16[(0 : Int).toNat]? = some e140) (v142 : Value) (bb143 : List Nat) (bb144 : List Nat) (v145 : Value) (r146 : Int) (r147 : Int) (e148 : Int) (h149 : ([0, t13])[(r146).toNat]? = some e148) (v150 : Value) (bb151 : List Nat), Nx 80 (gB F [cellCh b1 [v2, (.int .i64 r_0_p)] 111] w0) (feet [cellCh b1 [v2, (.int .i64 r_0_p)] 111]) w0 (wpAnyH Tryd.prog .any (opsAt Tryd.f81 [1, 1, 1, 1, 0, 1, 0, 1, 0, 1, 1, 1, 0]) Qd (Mem (gB F [cellCh b1 [v2, (.int .i64 r_0_p)] 111] w0) (feet [cellCh b1 [v2, (.int .i64 r_0_p)] 111]) w0 [cellCh b9 [(.slice a132 l133 q134), (.bool (decide (r7 = 0)))] 64, cellCh b5 [(.slice none 0 0), (.bool false)] 64, snapCh w0 F]) 3 #[true, true, true, true, true, true, true, true, true, true, true, true, true, true, false, false, false]) [(4, (.pointer (some ⟨b5, 0, none⟩))), (5, (.pointer (some ⟨b9, 0, none⟩))), (48, (.slice a132 l133 q134)), (52, v142), (60, v150)] [dpCh dGRule 53 bb151 v150 ([(GRule.mk ([]) 3 e148)]), cellCh b1 [v2, (.int .i64 r147)] 111, holeCh (dSl dGRule 53) 69 bb143 (.slice a132 l133 q134) xs16 (0 : Int).toNat [v142], dpCh dGRule 53 bb144 v142 e140, cellCh b9 [(.slice a132 l133 q134), (.bool (decide (r7 = 0)))] 64, cellCh b5 [(.slice none 0 0), (.bool false)] 64, snapCh w0 F] (appW e140 ([(GRule.mk ([]) 3 e148)]) (fun _ => idxW xs16 0 (fun e155 => k139 ((xs16.set (0 : Int).toNat (e140 ++ ([(GRule.mk ([]) 3 e148)]))), r147)))) := by
                intro e140 h141 v142 bb143 bb144 v145 r146 r147 e148 h149 v150 bb151
                refine pk [3, 0, 1, 2, 4, 5, 6] rfl ?_
                refine d_one (i := 14) rfl (by kernel_rfl) (o_appD rfl rfl rfl el69 rfl zero53 rfl rfl ?_); intro bb153 v152
                refine d_and (fun w m => m.pick [3, 4, 5] rfl) ?_
                refine pk [0, 1, 2, 3, 4, 5] rfl ?_
                refine re (E' := [(4, (.pointer (some ⟨b5, 0, none⟩))), (5, (.pointer (some ⟨b9, 0, none⟩))), (48, (.slice a132 l133 q134)), (61, v152)]) ⟨rfl, rfl, rfl, rfl, trivial⟩ ?_
                exact H452 e140 h141 v142 bb143 bb144 v145 r146 r147 e148 h149 v150 bb151 v152 bb153
              have H454 : ∀ (e140 : (List GRule)) (h141 : xs16[(0 : Int).toNat]? = some e140) (v142 : Value) (bb143 : List Nat) (bb144 : List Nat) (v145 : Value) (r146 : Int) (r147 : Int) (e148 : Int) (h149 : ([0, t13])[(r146).toNat]? = some e148), Nx 80 (gB F [cellCh b1 [v2, (.int .i64 r_0_p)] 111] w0) (feet [cellCh b1 [v2, (.int .i64 r_0_p)] 111]) w0 (wpAnyH Tryd.prog .any (opsAt Tryd.f81 [1, 1, 1, 1, 0, 1, 0, 1, 0, 1, 1, 1, 0]) Qd (Mem (gB F [cellCh b1 [v2, (.int .i64 r_0_p)] 111] w0) (feet [cellCh b1 [v2, (.int .i64 r_0_p)] 111]) w0 [cellCh b9 [(.slice a132 l133 q134), (.bool (decide (r7 = 0)))] 64, cellCh b5 [(.slice none 0 0), (.bool false)] 64, snapCh w0 F]) 5 #[true, true, true, true, true, true, true, true, true, true, true, true, false, false, false, false, false]) [(4, (.pointer (some ⟨b5, 0, none⟩))), (5, (.pointer (some ⟨b9, 0, none⟩))), (48, (.slice a132 l133 q134)), (52, v142), (58, (.int .i64 e148))] [cellCh b1 [v2, (.int .i64 r147)] 111, holeCh (dSl dGRule 53) 69 bb143 (.slice a132 l133 q134) xs16 (0 : Int).toNat [v142], dpCh dGRule 53 bb144 v142 e140, cellCh b9 [(.slice a132 l133 q134), (.bool (decide (r7 = 0)))] 64, cellCh b5 [(.slice none 0 0), (.bool false)] 64, snapCh w0 F] (appW e140 ([(GRule.mk ([]) 3 e148)]) (fun _ => idxW xs16 0 (fun e155 => k139 ((xs16.set (0 : Int).toNat (e140 ++ ([(GRule.mk ([]) 3 e148)]))), r147)))) := by
                intro e140 h141 v142 bb143 bb144 v145 r146 r147 e148 h149
                refine o_bld (dt 12 (fun w m => m.pick [3, 4, 5] rfl)) (qs := [(1, (.int .i64 3)), (2, (.int .i64 e148))]) (cells := [(.slice none 0 0), (.int .i64 3), (.int .i64 e148)]) (by intro ρ h; simp only [List.map_toArray, List.map_cons, List.map_nil, h (.const (.int .i64 3)) _ rfl, h (.tmp 58) _ rfl]) rfl bld53 rfl ?_
                refine d_one (i := 13) rfl (by kernel_rfl) (o_bslD (M := []) (E' := dGRule) (qs := [(0, (.agg #[(.slice none 0 0), (.int .i64 3), (.int .i64 e148)]))]) (cs := [(.slice none 0 0), (.int .i64 3), (.int .i64 e148)]) (GRule.mk ([]) 3 e148) (absorb_nil (fun w => ⟨_, rfl, Dp.nil⟩)) (by intro ρ h; simp only [List.map_toArray, List.map_cons, List.map_nil, h (.tmp 59) _ rfl]) rfl el69 zero53 rfl rfl rfl rfl ?_); intro bb151 v150
                refine d_and (fun w m => m.pick [4, 5, 6] rfl) ?_
                refine pk [0, 1, 2, 3, 4, 5, 6] rfl ?_
                refine re (E' := [(4, (.pointer (some ⟨b5, 0, none⟩))), (5, (.pointer (some ⟨b9, 0, none⟩))), (48, (.slice a132 l133 q134)), (52, v142), (60, v150)]) ⟨rfl, rfl, rfl, rfl, rfl, trivial⟩ ?_
                exact H453 e140 h141 v142 bb143 bb144 v145 r146 r147 e148 h149 v150 bb151
              have H455 : ∀ (e140 : (List GRule)) (h141 : xs16[(0 : Int).toNat]? = some e140) (v142 : Value) (bb143 : List Nat) (bb144 : List Nat) (v145 : Value) (r146 : Int) (r147 : Int) (e148 : Int) (h149 : ([0, t13])[(r146).toNat]? = some e148), Nx 80 (gB F [cellCh b1 [v2, (.int .i64 r_0_p)] 111] w0) (feet [cellCh b1 [v2, (.int .i64 r_0_p)] 111]) w0 (wpAnyH Tryd.prog .any (opsAt Tryd.f81 [1, 1, 1, 1, 0, 1, 0, 1, 0, 1, 1, 1, 0]) Qd (Mem (gB F [cellCh b1 [v2, (.int .i64 r_0_p)] 111] w0) (feet [cellCh b1 [v2, (.int .i64 r_0_p)] 111]) w0 [cellCh b9 [(.slice a132 l133 q134), (.bool (decide (r7 = 0)))] 64, cellCh b5 [(.slice none 0 0), (.bool false)] 64, snapCh w0 F]) 6 #[true, true, true, true, true, true, true, true, true, true, true, false, false, false, false, false, false]) [(4, (.pointer (some ⟨b5, 0, none⟩))), (5, (.pointer (some ⟨b9, 0, none⟩))), (48, (.slice a132 l133 q134)), (52, v142), (57, (pEl v145 r146 1 0))] [cellCh b1 [v2, (.int .i64 r147)] 111, ownCh elInt 3 v145 ([0, t13]), holeCh (dSl dGRule 53) 69 bb143 (.slice a132 l133 q134) xs16 (0 : Int).toNat [v142], dpCh dGRule 53 bb144 v142 e140, cellCh b9 [(.slice a132 l133 q134), (.bool (decide (r7 = 0)))] 64, cellCh b5 [(.slice none 0 0), (.bool false)] 64, snapCh w0 F] (appW e140 ([(GRule.mk ([]) 3 e148)]) (fun _ => idxW xs16 0 (fun e155 => k139 ((xs16.set (0 : Int).toNat (e140 ++ ([(GRule.mk ([]) 3 e148)]))), r147)))) := by
                intro e140 h141 v142 bb143 bb144 v145 r146 r147 e148 h149
                refine d_one (i := 11) rfl (by kernel_rfl) (o_lds m_op (enc := encInt) (u := (.int .i64 e148)) 1 rfl reads_own flelInt rfl h149 rfl rfl ty3 rfl ?_)
                refine d_and (fun w m => m.pick [4, 5, 6] rfl) ?_
                refine pk [0, 2, 3, 4, 5, 6] rfl ?_
                refine re (E' := [(4, (.pointer (some ⟨b5, 0, none⟩))), (5, (.pointer (some ⟨b9, 0, none⟩))), (48, (.slice a132 l133 q134)), (52, v142), (58, (.int .i64 e148))]) ⟨rfl, rfl, rfl, rfl, rfl, trivial⟩ ?_
                exact H454 e140 h141 v142 bb143 bb144 v145 r146 r147 e148 h149
              have H456 : ∀ (e140 : (List GRule)) (h141 : xs16[(0 : Int).toNat]? = some e140) (v142 : Value) (bb143 : List Nat) (bb144 : List Nat) (v145 : Value) (r146 : Int) (r147 : Int), Nx 80 (gB F [cellCh b1 [v2, (.int .i64 r_0_p)] 111] w0) (feet [cellCh b1 [v2, (.int .i64 r_0_p)] 111]) w0 (wpAnyH Tryd.prog .any (opsAt Tryd.f81 [1, 1, 1, 1, 0, 1, 0, 1, 0, 1, 1, 1, 0]) Qd (Mem (gB F [cellCh b1 [v2, (.int .i64 r_0_p)] 111] w0) (feet [cellCh b1 [v2, (.int .i64 r_0_p)] 111]) w0 [cellCh b9 [(.slice a132 l133 q134), (.bool (decide (r7 = 0)))] 64, cellCh b5 [(.slice none 0 0), (.bool false)] 64, snapCh w0 F]) 7 #[true, true, true, true, true, true, true, true, true, true, false, false, false, false, false, false, false]) [(4, (.pointer (some ⟨b5, 0, none⟩))), (5, (.pointer (some ⟨b9, 0, none⟩))), (48, (.slice a132 l133 q134)), (52, v142), (54, v145), (56, (.int .i64 r146))] [cellCh b1 [v2, (.int .i64 r147)] 111, ownCh elInt 3 v145 ([0, t13]), holeCh (dSl dGRule 53) 69 bb143 (.slice a132 l133 q134) xs16 (0 : Int).toNat [v142], dpCh dGRule 53 bb144 v142 e140, cellCh b9 [(.slice a132 l133 q134), (.bool (decide (r7 = 0)))] 64, cellCh b5 [(.slice none 0 0), (.bool false)] 64, snapCh w0 F] (idxW ([0, t13]) r146 (fun e148 => appW e140 ([(GRule.mk ([]) 3 e148)]) (fun _ => idxW xs16 0 (fun e155 => k139 ((xs16.set (0 : Int).toNat (e140 ++ ([(GRule.mk ([]) 3 e148)]))), r147))))) := by
                intro e140 h141 v142 bb143 bb144 v145 r146 r147
                refine d_one (i := 10) rfl (by kernel_rfl) (o_idx m_op 1 rfl reads_own rfl rfl rfl el103 ?_); intro e148 h149
                refine d_and (fun w m => m.pick [4, 5, 6] rfl) ?_
                refine pk [0, 1, 2, 3, 4, 5, 6] rfl ?_
                refine re (E' := [(4, (.pointer (some ⟨b5, 0, none⟩))), (5, (.pointer (some ⟨b9, 0, none⟩))), (48, (.slice a132 l133 q134)), (52, v142), (57, (pEl v145 r146 1 0))]) ⟨rfl, rfl, rfl, rfl, rfl, trivial⟩ ?_
                exact H455 e140 h141 v142 bb143 bb144 v145 r146 r147 e148 h149
              have H457 : ∀ (e140 : (List GRule)) (h141 : xs16[(0 : Int).toNat]? = some e140) (v142 : Value) (bb143 : List Nat) (bb144 : List Nat) (v145 : Value), Nx 80 (gB F [cellCh b1 [v2, (.int .i64 r_0_p)] 111] w0) (feet [cellCh b1 [v2, (.int .i64 r_0_p)] 111]) w0 (wpAnyH Tryd.prog .any (opsAt Tryd.f81 [1, 1, 1, 1, 0, 1, 0, 1, 0, 1, 1, 1, 0]) Qd (Mem (gB F [cellCh b1 [v2, (.int .i64 r_0_p)] 111] w0) (feet [cellCh b1 [v2, (.int .i64 r_0_p)] 111]) w0 [cellCh b9 [(.slice a132 l133 q134), (.bool (decide (r7 = 0)))] 64, cellCh b5 [(.slice none 0 0), (.bool false)] 64, snapCh w0 F]) 8 #[true, true, true, true, true, true, true, true, true, false, false, false, false, false, false, false, false]) [(4, (.pointer (some ⟨b5, 0, none⟩))), (5, (.pointer (some ⟨b9, 0, none⟩))), (48, (.slice a132 l133 q134)), (55, (.pointer (some ⟨b1, 0, none⟩))), (52, v142), (54, v145)] [ownCh elInt 3 v145 ([0, t13]), holeCh (dSl dGRule 53) 69 bb143 (.slice a132 l133 q134) xs16 (0 : Int).toNat [v142], dpCh dGRule 53 bb144 v142 e140, cellCh b1 [v2, (.int .i64 r125)] 111, cellCh b9 [(.slice a132 l133 q134), (.bool (decide (r7 = 0)))] 64, cellCh b5 [(.slice none 0 0), (.bool false)] 64, snapCh w0 F] (L_spec_l20Rd_pick r_0_b r125 2 (fun (r146, r147) => idxW ([0, t13]) r146 (fun e148 => appW e140 ([(GRule.mk ([]) 3 e148)]) (fun _ => idxW xs16 0 (fun e155 => k139 ((xs16.set (0 : Int).toNat (e140 ++ ([(GRule.mk ([]) 3 e148)]))), r147)))))) := by
                intro e140 h141 v142 bb143 bb144 v145
                refine pk [3, 0, 1, 2, 4, 5, 6] rfl ?_
                refine d_one (i := 9) rfl (by kernel_rfl) (o_call (vs := [(.pointer (some ⟨b1, 0, none⟩)), (.int .i64 2)]) (M0 := [cellCh b1 [v2, (.int .i64 r125)] 111]) Tryd.call65 rfl rfl (by intro w m h; exact (w_spec_l20Rd_pick (F := allB [cellCh b1 [v2, (.int .i64 r125)] 111] w) (r_0_b := r_0_b) (r_0_p := r125) (n_1 := 2) allB_ok m.given (m.rdM 5 rfl (reads_snap hv2)) h).mono (fun _ _ k => ret_free (fun r u => (fr_cons free_cell fr_nil)) k)) ?_); rintro ⟨r146, r147⟩ _
                refine d_and (fun w m => m.pick [4, 5, 6] rfl) ?_
                refine pk [0, 1, 2, 3, 4, 5, 6] rfl ?_
                refine re (E' := [(4, (.pointer (some ⟨b5, 0, none⟩))), (5, (.pointer (some ⟨b9, 0, none⟩))), (48, (.slice a132 l133 q134)), (52, v142), (54, v145), (56, (.int .i64 r146))]) ⟨rfl, rfl, rfl, rfl, rfl, rfl, trivial⟩ ?_
                exact H456 e140 h141 v142 bb143 bb144 v145 r146 r147
              have H458 : ∀ (e140 : (List GRule)) (h141 : xs16[(0 : Int).toNat]? = some e140) (v142 : Value) (bb143 : List Nat) (bb144 : List Nat) (r162 : Int) (r163 : Int), Nx 80 (gB F [cellCh b1 [v2, (.int .i64 r_0_p)] 111] w0) (feet [cellCh b1 [v2, (.int .i64 r_0_p)] 111]) w0 (wpAnyH Tryd.prog .any (opsAt Tryd.f81 [1, 1, 1, 1, 0, 1, 0, 1, 0, 1, 1, 1, 0]) Qd (Mem (gB F [cellCh b1 [v2, (.int .i64 r_0_p)] 111] w0) (feet [cellCh b1 [v2, (.int .i64 r_0_p)] 111]) w0 [cellCh b9 [(.slice a132 l133 q134), (.bool (decide (r7 = 0)))] 64, cellCh b5 [(.slice none 0 0), (.bool false)] 64, snapCh w0 F]) 8 #[true, true, true, true, true, true, true, false, true, true, false, false, false, false, false, false, false]) [(4, (.pointer (some ⟨b5, 0, none⟩))), (5, (.pointer (some ⟨b9, 0, none⟩))), (48, (.slice a132 l133 q134)), (53, (.int .i64 t13)), (52, v142), (56, (.int .i64 r162))] [cellCh b1 [v2, (.int .i64 r163)] 111, holeCh (dSl dGRule 53) 69 bb143 (.slice a132 l133 q134) xs16 (0 : Int).toNat [v142], dpCh dGRule 53 bb144 v142 e140, cellCh b9 [(.slice a132 l133 q134), (.bool (decide (r7 = 0)))] 64, cellCh b5 [(.slice none 0 0), (.bool false)] 64, snapCh w0 F] (idxW ([0, t13]) r162 (fun e148 => appW e140 ([(GRule.mk ([]) 3 e148)]) (fun _ => idxW xs16 0 (fun e155 => k139 ((xs16.set (0 : Int).toNat (e140 ++ ([(GRule.mk ([]) 3 e148)]))), r163))))) := by
                intro e140 h141 v142 bb143 bb144 r162 r163
                refine d_one (i := 7) rfl (by kernel_rfl) (o_bsl (enc := encInt) (qs := [(0, (.int .i64 0)), (1, (.int .i64 t13))]) (cells := [(.int .i64 0), (.int .i64 t13)]) ([0, t13]) flelInt (by intro ρ h; simp only [List.map_toArray, List.map_cons, List.map_nil, h (.const (.int .i64 0)) _ rfl, h (.tmp 53) _ rfl]) rfl el103 zero3 rfl rfl rfl rfl rfl rfl ?_); intro v164
                refine d_and (fun w m => m.pick [4, 5, 6] rfl) ?_
                refine pk [1, 0, 2, 3, 4, 5, 6] rfl ?_
                refine re (E' := [(4, (.pointer (some ⟨b5, 0, none⟩))), (5, (.pointer (some ⟨b9, 0, none⟩))), (48, (.slice a132 l133 q134)), (52, v142), (54, v164), (56, (.int .i64 r162))]) ⟨rfl, rfl, rfl, rfl, rfl, rfl, trivial⟩ ?_
                exact H456 e140 h141 v142 bb143 bb144 v164 r162 r163
              have H459 : ∀ (e140 : (List GRule)) (h141 : xs16[(0 : Int).toNat]? = some e140) (v142 : Value) (bb143 : List Nat) (bb144 : List Nat), Nx 80 (gB F [cellCh b1 [v2, (.int .i64 r_0_p)] 111] w0) (feet [cellCh b1 [v2, (.int .i64 r_0_p)] 111]) w0 (wpAnyH Tryd.prog .any (opsAt Tryd.f81 [1, 1, 1, 1, 0, 1, 0, 1, 0, 1, 1, 1, 0]) Qd (Mem (gB F [cellCh b1 [v2, (.int .i64 r_0_p)] 111] w0) (feet [cellCh b1 [v2, (.int .i64 r_0_p)] 111]) w0 [cellCh b9 [(.slice a132 l133 q134), (.bool (decide (r7 = 0)))] 64, cellCh b5 [(.slice none 0 0), (.bool false)] 64, snapCh w0 F]) 9 #[true, true, true, true, true, true, true, false, true, false, false, false, false, false, false, false, false]) [(4, (.pointer (some ⟨b5, 0, none⟩))), (5, (.pointer (some ⟨b9, 0, none⟩))), (48, (.slice a132 l133 q134)), (53, (.int .i64 t13)), (55, (.pointer (some ⟨b1, 0, none⟩))), (52, v142)] [holeCh (dSl dGRule 53) 69 bb143 (.slice a132 l133 q134) xs16 (0 : Int).toNat [v142], dpCh dGRule 53 bb144 v142 e140, cellCh b1 [v2, (.int .i64 r125)] 111, cellCh b9 [(.slice a132 l133 q134), (.bool (decide (r7 = 0)))] 64, cellCh b5 [(.slice none 0 0), (.bool false)] 64, snapCh w0 F] (L_spec_l20Rd_pick r_0_b r125 2 (fun (r146, r147) => idxW ([0, t13]) r146 (fun e148 => appW e140 ([(GRule.mk ([]) 3 e148)]) (fun _ => idxW xs16 0 (fun e155 => k139 ((xs16.set (0 : Int).toNat (e140 ++ ([(GRule.mk ([]) 3 e148)]))), r147)))))) := by
                intro e140 h141 v142 bb143 bb144
                refine d_two (i := 7) (j := 9) rfl rfl (by kernel_rfl) ?_ ?_
                · intro o ho; cases ho
                  refine o_bsl (enc := encInt) (qs := [(0, (.int .i64 0)), (1, (.int .i64 t13))]) (cells := [(.int .i64 0), (.int .i64 t13)]) ([0, t13]) flelInt (by intro ρ h; simp only [List.map_toArray, List.map_cons, List.map_nil, h (.const (.int .i64 0)) _ rfl, h (.tmp 53) _ rfl]) rfl el103 zero3 rfl rfl rfl rfl rfl rfl ?_; intro v145
                  refine d_and (fun w m => m.pick [4, 5, 6] rfl) ?_
                  refine pk [0, 1, 2, 3, 4, 5, 6] rfl ?_
                  refine re (E' := [(4, (.pointer (some ⟨b5, 0, none⟩))), (5, (.pointer (some ⟨b9, 0, none⟩))), (48, (.slice a132 l133 q134)), (55, (.pointer (some ⟨b1, 0, none⟩))), (52, v142), (54, v145)]) ⟨rfl, rfl, rfl, rfl, rfl, rfl, trivial⟩ ?_
                  exact H457 e140 h141 v142 bb143 bb144 v145
                · intro o ho; cases ho
                  refine pk [2, 0, 1, 3, 4, 5] rfl ?_
                  refine o_call (vs := [(.pointer (some ⟨b1, 0, none⟩)), (.int .i64 2)]) (M0 := [cellCh b1 [v2, (.int .i64 r125)] 111]) Tryd.call65 rfl rfl (by intro w m h; exact (w_spec_l20Rd_pick (F := allB [cellCh b1 [v2, (.int .i64 r125)] 111] w) (r_0_b := r_0_b) (r_0_p := r125) (n_1 := 2) allB_ok m.given (m.rdM 4 rfl (reads_snap hv2)) h).mono (fun _ _ k => ret_free (fun r u => (fr_cons free_cell fr_nil)) k)) ?_; rintro ⟨r162, r163⟩ _
                  refine d_and (fun w m => m.pick [3, 4, 5] rfl) ?_
                  refine pk [0, 1, 2, 3, 4, 5] rfl ?_
                  refine re (E' := [(4, (.pointer (some ⟨b5, 0, none⟩))), (5, (.pointer (some ⟨b9, 0, none⟩))), (48, (.slice a132 l133 q134)), (53, (.int .i64 t13)), (52, v142), (56, (.int .i64 r162))]) ⟨rfl, rfl, rfl, rfl, rfl, rfl, trivial⟩ ?_
                  exact H458 e140 h141 v142 bb143 bb144 r162 r163
              have H460 : ∀ (e140 : (List GRule)) (h141 : xs16[(0 : Int).toNat]? = some e140) (v165 : Value) (r169 : Int) (r170 : Int) (e174 : Int) (h175 : ([0, t13])[(r169).toNat]? = some e174) (v179 : Value) (bb180 : List Nat) (bb181 : List Nat), Nx 80 (gB F [cellCh b1 [v2, (.int .i64 r_0_p)] 111] w0) (feet [cellCh b1 [v2, (.int .i64 r_0_p)] 111]) w0 (wpAnyH Tryd.prog .any (opsAt Tryd.f81 [1, 1, 1, 1, 0, 1, 0, 1, 0, 1, 1, 1, 0]) Qd (Mem (gB F [cellCh b1 [v2, (.int .i64 r_0_p)] 111] w0) (feet [cellCh b1 [v2, (.int .i64 r_0_p)] 111]) w0 [cellCh b9 [(.slice a132 l133 q134), (.bool (decide (r7 = 0)))] 64, cellCh b5 [(.slice none 0 0), (.bool false)] 64, snapCh w0 F]) 4 #[true, true, true, true, true, true, true, true, true, true, true, true, true, false, false, false, false]) [(4, (.pointer (some ⟨b5, 0, none⟩))), (5, (.pointer (some ⟨b9, 0, none⟩))), (48, (.slice a132 l133 q134)), (59, (.agg #[(.slice none 0 0), (.int .i64 3), (.int .i64 e174)])), (52, v179)] [holeCh (dSl dGRule 53) 69 bb180 (.slice a132 l133 q134) xs16 (0 : Int).toNat [v179], dpCh dGRule 53 bb181 v179 e140, cellCh b1 [v2, (.int .i64 r170)] 111, cellCh b9 [(.slice a132 l133 q134), (.bool (decide (r7 = 0)))] 64, cellCh b5 [(.slice none 0 0), (.bool false)] 64, snapCh w0 F] (appW e140 ([(GRule.mk ([]) 3 e174)]) (fun _ => idxW xs16 0 (fun e155 => k139 ((xs16.set (0 : Int).toNat (e140 ++ ([(GRule.mk ([]) 3 e174)]))), r170)))) := by
                intro e140 h141 v165 r169 r170 e174 h175 v179 bb180 bb181
                refine d_one (i := 13) rfl (by kernel_rfl) (o_bslD (M := []) (E' := dGRule) (qs := [(0, (.agg #[(.slice none 0 0), (.int .i64 3), (.int .i64 e174)]))]) (cs := [(.slice none 0 0), (.int .i64 3), (.int .i64 e174)]) (GRule.mk ([]) 3 e174) (absorb_nil (fun w => ⟨_, rfl, Dp.nil⟩)) (by intro ρ h; simp only [List.map_toArray, List.map_cons, List.map_nil, h (.tmp 59) _ rfl]) rfl el69 zero53 rfl rfl rfl rfl ?_); intro bb183 v182
                refine d_and (fun w m => m.pick [4, 5, 6] rfl) ?_
                refine pk [0, 3, 1, 2, 4, 5, 6] rfl ?_
                refine re (E' := [(4, (.pointer (some ⟨b5, 0, none⟩))), (5, (.pointer (some ⟨b9, 0, none⟩))), (48, (.slice a132 l133 q134)), (52, v179), (60, v182)]) ⟨rfl, rfl, rfl, rfl, rfl, trivial⟩ ?_
                exact H453 e140 h141 v179 bb180 bb181 v165 r169 r170 e174 h175 v182 bb183
              have H461 : ∀ (e140 : (List GRule)) (h141 : xs16[(0 : Int).toNat]? = some e140) (v165 : Value) (r169 : Int) (r170 : Int) (e174 : Int) (h175 : ([0, t13])[(r169).toNat]? = some e174) (v184 : Value) (bb185 : List Nat), Nx 80 (gB F [cellCh b1 [v2, (.int .i64 r_0_p)] 111] w0) (feet [cellCh b1 [v2, (.int .i64 r_0_p)] 111]) w0 (wpAnyH Tryd.prog .any (opsAt Tryd.f81 [1, 1, 1, 1, 0, 1, 0, 1, 0, 1, 1, 1, 0]) Qd (Mem (gB F [cellCh b1 [v2, (.int .i64 r_0_p)] 111] w0) (feet [cellCh b1 [v2, (.int .i64 r_0_p)] 111]) w0 [cellCh b9 [(.slice a132 l133 q134), (.bool (decide (r7 = 0)))] 64, cellCh b5 [(.slice none 0 0), (.bool false)] 64, snapCh w0 F]) 4 #[true, true, true, true, true, false, true, true, true, true, true, true, true, true, false, false, false]) [(4, (.pointer (some ⟨b5, 0, none⟩))), (5, (.pointer (some ⟨b9, 0, none⟩))), (48, (.slice a132 l133 q134)), (51, (pEl (.slice a132 l133 q134) 0 1 0)), (60, v184)] [dpCh dGRule 53 bb185 v184 ([(GRule.mk ([]) 3 e174)]), cellCh b1 [v2, (.int .i64 r170)] 111, cellCh b9 [(.slice a132 l133 q134), (.bool (decide (r7 = 0)))] 64, cellCh b5 [(.slice none 0 0), (.bool false)] 64, snapCh w0 F, dpCh (dSl dGRule 53) 69 bb18 (.slice a132 l133 q134) xs16] (appW e140 ([(GRule.mk ([]) 3 e174)]) (fun _ => idxW xs16 0 (fun e155 => k139 ((xs16.set (0 : Int).toNat (e140 ++ ([(GRule.mk ([]) 3 e174)]))), r170)))) := by
                intro e140 h141 v165 r169 r170 e174 h175 v184 bb185
                refine pk [5, 0, 1, 2, 3, 4] rfl ?_
                refine d_one (i := 5) rfl (by kernel_rfl) (o_ldF (E1 := dGRule) (t1 := 53) (zin := e140) (encz := fun v => [v]) rfl h141 (fun B w cs h => h) rfl rfl ty69 ?_); rintro v186 bb187 bb188; refine ⟨v186, rfl, ?_⟩
                refine d_and (fun w m => m.pick [4, 5, 6] rfl) ?_
                refine pk [2, 3, 0, 1, 4, 5, 6] rfl ?_
                refine re (E' := [(4, (.pointer (some ⟨b5, 0, none⟩))), (5, (.pointer (some ⟨b9, 0, none⟩))), (48, (.slice a132 l133 q134)), (52, v186), (60, v184)]) ⟨rfl, rfl, rfl, rfl, rfl, trivial⟩ ?_
                exact H453 e140 h141 v186 bb187 bb188 v165 r169 r170 e174 h175 v184 bb185
              have H462 : ∀ (e140 : (List GRule)) (h141 : xs16[(0 : Int).toNat]? = some e140) (v165 : Value) (r169 : Int) (r170 : Int) (e174 : Int) (h175 : ([0, t13])[(r169).toNat]? = some e174), Nx 80 (gB F [cellCh b1 [v2, (.int .i64 r_0_p)] 111] w0) (feet [cellCh b1 [v2, (.int .i64 r_0_p)] 111]) w0 (wpAnyH Tryd.prog .any (opsAt Tryd.f81 [1, 1, 1, 1, 0, 1, 0, 1, 0, 1, 1, 1, 0]) Qd (Mem (gB F [cellCh b1 [v2, (.int .i64 r_0_p)] 111] w0) (feet [cellCh b1 [v2, (.int .i64 r_0_p)] 111]) w0 [cellCh b9 [(.slice a132 l133 q134), (.bool (decide (r7 = 0)))] 64, cellCh b5 [(.slice none 0 0), (.bool false)] 64, snapCh w0 F]) 6 #[true, true, true, true, true, false, true, true, true, true, true, true, false, false, false, false, false]) [(4, (.pointer (some ⟨b5, 0, none⟩))), (5, (.pointer (some ⟨b9, 0, none⟩))), (48, (.slice a132 l133 q134)), (51, (pEl (.slice a132 l133 q134) 0 1 0)), (58, (.int .i64 e174))] [cellCh b1 [v2, (.int .i64 r170)] 111, cellCh b9 [(.slice a132 l133 q134), (.bool (decide (r7 = 0)))] 64, cellCh b5 [(.slice none 0 0), (.bool false)] 64, snapCh w0 F, dpCh (dSl dGRule 53) 69 bb18 (.slice a132 l133 q134) xs16] (appW e140 ([(GRule.mk ([]) 3 e174)]) (fun _ => idxW xs16 0 (fun e155 => k139 ((xs16.set (0 : Int).toNat (e140 ++ ([(GRule.mk ([]) 3 e174)]))), r170)))) := by
                intro e140 h141 v165 r169 r170 e174 h175
                refine o_bld (dt 12 (fun w m => m.pick [1, 2, 3] rfl)) (qs := [(1, (.int .i64 3)), (2, (.int .i64 e174))]) (cells := [(.slice none 0 0), (.int .i64 3), (.int .i64 e174)]) (by intro ρ h; simp only [List.map_toArray, List.map_cons, List.map_nil, h (.const (.int .i64 3)) _ rfl, h (.tmp 58) _ rfl]) rfl bld53 rfl ?_
                refine d_two (i := 5) (j := 13) rfl rfl (by kernel_rfl) ?_ ?_
                · intro o ho; cases ho
                  refine pk [4, 0, 1, 2, 3] rfl ?_
                  refine o_ldF (E1 := dGRule) (t1 := 53) (zin := e140) (encz := fun v => [v]) rfl h141 (fun B w cs h => h) rfl rfl ty69 ?_; rintro v179 bb180 bb181; refine ⟨v179, rfl, ?_⟩
                  refine d_and (fun w m => m.pick [3, 4, 5] rfl) ?_
                  refine pk [0, 1, 2, 3, 4, 5] rfl ?_
                  refine re (E' := [(4, (.pointer (some ⟨b5, 0, none⟩))), (5, (.pointer (some ⟨b9, 0, none⟩))), (48, (.slice a132 l133 q134)), (59, (.agg #[(.slice none 0 0), (.int .i64 3), (.int .i64 e174)])), (52, v179)]) ⟨rfl, rfl, rfl, rfl, rfl, trivial⟩ ?_
                  exact H460 e140 h141 v165 r169 r170 e174 h175 v179 bb180 bb181
                · intro o ho; cases ho
                  refine o_bslD (M := []) (E' := dGRule) (qs := [(0, (.agg #[(.slice none 0 0), (.int .i64 3), (.int .i64 e174)]))]) (cs := [(.slice none 0 0), (.int .i64 3), (.int .i64 e174)]) (GRule.mk ([]) 3 e174) (absorb_nil (fun w => ⟨_, rfl, Dp.nil⟩)) (by intro ρ h; simp only [List.map_toArray, List.map_cons, List.map_nil, h (.tmp 59) _ rfl]) rfl el69 zero53 rfl rfl rfl rfl ?_; intro bb185 v184
                  refine d_and (fun w m => m.pick [2, 3, 4] rfl) ?_
                  refine pk [0, 1, 2, 3, 4, 5] rfl ?_
                  refine re (E' := [(4, (.pointer (some ⟨b5, 0, none⟩))), (5, (.pointer (some ⟨b9, 0, none⟩))), (48, (.slice a132 l133 q134)), (51, (pEl (.slice a132 l133 q134) 0 1 0)), (60, v184)]) ⟨rfl, rfl, rfl, rfl, rfl, trivial⟩ ?_
                  exact H461 e140 h141 v165 r169 r170 e174 h175 v184 bb185
              have H463 : ∀ (e140 : (List GRule)) (h141 : xs16[(0 : Int).toNat]? = some e140) (v165 : Value) (r169 : Int) (r170 : Int) (e174 : Int) (h175 : ([0, t13])[(r169).toNat]? = some e174), Nx 80 (gB F [cellCh b1 [v2, (.int .i64 r_0_p)] 111] w0) (feet [cellCh b1 [v2, (.int .i64 r_0_p)] 111]) w0 (wpAnyH Tryd.prog .any (opsAt Tryd.f81 [1, 1, 1, 1, 0, 1, 0, 1, 0, 1, 1, 1, 0]) Qd (Mem (gB F [cellCh b1 [v2, (.int .i64 r_0_p)] 111] w0) (feet [cellCh b1 [v2, (.int .i64 r_0_p)] 111]) w0 [cellCh b9 [(.slice a132 l133 q134), (.bool (decide (r7 = 0)))] 64, cellCh b5 [(.slice none 0 0), (.bool false)] 64, snapCh w0 F]) 7 #[true, true, true, true, true, false, true, true, true, true, true, false, false, false, false, false, false]) [(4, (.pointer (some ⟨b5, 0, none⟩))), (5, (.pointer (some ⟨b9, 0, none⟩))), (48, (.slice a132 l133 q134)), (51, (pEl (.slice a132 l133 q134) 0 1 0)), (57, (pEl v165 r169 1 0))] [cellCh b1 [v2, (.int .i64 r170)] 111, ownCh elInt 3 v165 ([0, t13]), cellCh b9 [(.slice a132 l133 q134), (.bool (decide (r7 = 0)))] 64, cellCh b5 [(.slice none 0 0), (.bool false)] 64, snapCh w0 F, dpCh (dSl dGRule 53) 69 bb18 (.slice a132 l133 q134) xs16] (appW e140 ([(GRule.mk ([]) 3 e174)]) (fun _ => idxW xs16 0 (fun e155 => k139 ((xs16.set (0 : Int).toNat (e140 ++ ([(GRule.mk ([]) 3 e174)]))), r170)))) := by
                intro e140 h141 v165 r169 r170 e174 h175
                refine d_two (i := 5) (j := 11) rfl rfl (by kernel_rfl) ?_ ?_
                · intro o ho; cases ho
                  refine pk [5, 0, 1, 2, 3, 4] rfl ?_
                  refine o_ldF (E1 := dGRule) (t1 := 53) (zin := e140) (encz := fun v => [v]) rfl h141 (fun B w cs h => h) rfl rfl ty69 ?_; rintro v176 bb177 bb178; refine ⟨v176, rfl, ?_⟩
                  refine d_and (fun w m => m.pick [4, 5, 6] rfl) ?_
                  refine pk [2, 3, 0, 1, 4, 5, 6] rfl ?_
                  refine re (E' := [(4, (.pointer (some ⟨b5, 0, none⟩))), (5, (.pointer (some ⟨b9, 0, none⟩))), (48, (.slice a132 l133 q134)), (52, v176), (57, (pEl v165 r169 1 0))]) ⟨rfl, rfl, rfl, rfl, rfl, trivial⟩ ?_
                  exact H455 e140 h141 v176 bb177 bb178 v165 r169 r170 e174 h175
                · intro o ho; cases ho
                  refine o_lds m_op (enc := encInt) (u := (.int .i64 e174)) 1 rfl reads_own flelInt rfl h175 rfl rfl ty3 rfl ?_
                  refine d_and (fun w m => m.pick [2, 3, 4] rfl) ?_
                  refine pk [0, 2, 3, 4, 5] rfl ?_
                  refine re (E' := [(4, (.pointer (some ⟨b5, 0, none⟩))), (5, (.pointer (some ⟨b9, 0, none⟩))), (48, (.slice a132 l133 q134)), (51, (pEl (.slice a132 l133 q134) 0 1 0)), (58, (.int .i64 e174))]) ⟨rfl, rfl, rfl, rfl, rfl, trivial⟩ ?_
                  exact H462 e140 h141 v165 r169 r170 e174 h175
              have H464 : ∀ (e140 : (List GRule)) (h141 : xs16[(0 : Int).toNat]? = some e140) (v165 : Value) (r169 : Int) (r170 : Int), Nx 80 (gB F [cellCh b1 [v2, (.int .i64 r_0_p)] 111] w0) (feet [cellCh b1 [v2, (.int .i64 r_0_p)] 111]) w0 (wpAnyH Tryd.prog .any (opsAt Tryd.f81 [1, 1, 1, 1, 0, 1, 0, 1, 0, 1, 1, 1, 0]) Qd (Mem (gB F [cellCh b1 [v2, (.int .i64 r_0_p)] 111] w0) (feet [cellCh b1 [v2, (.int .i64 r_0_p)] 111]) w0 [cellCh b9 [(.slice a132 l133 q134), (.bool (decide (r7 = 0)))] 64, cellCh b5 [(.slice none 0 0), (.bool false)] 64, snapCh w0 F]) 8 #[true, true, true, true, true, false, true, true, true, true, false, false, false, false, false, false, false]) [(4, (.pointer (some ⟨b5, 0, none⟩))), (5, (.pointer (some ⟨b9, 0, none⟩))), (48, (.slice a132 l133 q134)), (51, (pEl (.slice a132 l133 q134) 0 1 0)), (54, v165), (56, (.int .i64 r169))] [cellCh b1 [v2, (.int .i64 r170)] 111, ownCh elInt 3 v165 ([0, t13]), cellCh b9 [(.slice a132 l133 q134), (.bool (decide (r7 = 0)))] 64, cellCh b5 [(.slice none 0 0), (.bool false)] 64, snapCh w0 F, dpCh (dSl dGRule 53) 69 bb18 (.slice a132 l133 q134) xs16] (idxW ([0, t13]) r169 (fun e148 => appW e140 ([(GRule.mk ([]) 3 e148)]) (fun _ => idxW xs16 0 (fun e155 => k139 ((xs16.set (0 : Int).toNat (e140 ++ ([(GRule.mk ([]) 3 e148)]))), r170))))) := by
                intro e140 h141 v165 r169 r170
                refine d_two (i := 5) (j := 10) rfl rfl (by kernel_rfl) ?_ ?_
                · intro o ho; cases ho
                  refine pk [5, 0, 1, 2, 3, 4] rfl ?_
                  refine o_ldF (E1 := dGRule) (t1 := 53) (zin := e140) (encz := fun v => [v]) rfl h141 (fun B w cs h => h) rfl rfl ty69 ?_; rintro v171 bb172 bb173; refine ⟨v171, rfl, ?_⟩
                  refine d_and (fun w m => m.pick [4, 5, 6] rfl) ?_
                  refine pk [2, 3, 0, 1, 4, 5, 6] rfl ?_
                  refine re (E' := [(4, (.pointer (some ⟨b5, 0, none⟩))), (5, (.pointer (some ⟨b9, 0, none⟩))), (48, (.slice a132 l133 q134)), (52, v171), (54, v165), (56, (.int .i64 r169))]) ⟨rfl, rfl, rfl, rfl, rfl, rfl, trivial⟩ ?_
                  exact H456 e140 h141 v171 bb172 bb173 v165 r169 r170
                · intro o ho; cases ho
                  refine o_idx m_op 1 rfl reads_own rfl rfl rfl el103 ?_; intro e174 h175
                  refine d_and (fun w m => m.pick [2, 3, 4] rfl) ?_
                  refine pk [0, 1, 2, 3, 4, 5] rfl ?_
                  refine re (E' := [(4, (.pointer (some ⟨b5, 0, none⟩))), (5, (.pointer (some ⟨b9, 0, none⟩))), (48, (.slice a132 l133 q134)), (51, (pEl (.slice a132 l133 q134) 0 1 0)), (57, (pEl v165 r169 1 0))]) ⟨rfl, rfl, rfl, rfl, rfl, trivial⟩ ?_
                  exact H463 e140 h141 v165 r169 r170 e174 h175
              have H465 : ∀ (e140 : (List GRule)) (h141 : xs16[(0 : Int).toNat]? = some e140) (v165 : Value), Nx 80 (gB F [cellCh b1 [v2, (.int .i64 r_0_p)] 111] w0) (feet [cellCh b1 [v2, (.int .i64 r_0_p)] 111]) w0 (wpAnyH Tryd.prog .any (opsAt Tryd.f81 [1, 1, 1, 1, 0, 1, 0, 1, 0, 1, 1, 1, 0]) Qd (Mem (gB F [cellCh b1 [v2, (.int .i64 r_0_p)] 111] w0) (feet [cellCh b1 [v2, (.int .i64 r_0_p)] 111]) w0 [cellCh b9 [(.slice a132 l133 q134), (.bool (decide (r7 = 0)))] 64, cellCh b5 [(.slice none 0 0), (.bool false)] 64, snapCh w0 F]) 9 #[true, true, true, true, true, false, true, true, true, false, false, false, false, false, false, false, false]) [(4, (.pointer (some ⟨b5, 0, none⟩))), (5, (.pointer (some ⟨b9, 0, none⟩))), (48, (.slice a132 l133 q134)), (55, (.pointer (some ⟨b1, 0, none⟩))), (51, (pEl (.slice a132 l133 q134) 0 1 0)), (54, v165)] [ownCh elInt 3 v165 ([0, t13]), cellCh b1 [v2, (.int .i64 r125)] 111, cellCh b9 [(.slice a132 l133 q134), (.bool (decide (r7 = 0)))] 64, cellCh b5 [(.slice none 0 0), (.bool false)] 64, snapCh w0 F, dpCh (dSl dGRule 53) 69 bb18 (.slice a132 l133 q134) xs16] (L_spec_l20Rd_pick r_0_b r125 2 (fun (r146, r147) => idxW ([0, t13]) r146 (fun e148 => appW e140 ([(GRule.mk ([]) 3 e148)]) (fun _ => idxW xs16 0 (fun e155 => k139 ((xs16.set (0 : Int).toNat (e140 ++ ([(GRule.mk ([]) 3 e148)]))), r147)))))) := by
                intro e140 h141 v165
                refine d_two (i := 5) (j := 9) rfl rfl (by kernel_rfl) ?_ ?_
                · intro o ho; cases ho
                  refine pk [5, 0, 1, 2, 3, 4] rfl ?_
                  refine o_ldF (E1 := dGRule) (t1 := 53) (zin := e140) (encz := fun v => [v]) rfl h141 (fun B w cs h => h) rfl rfl ty69 ?_; rintro v166 bb167 bb168; refine ⟨v166, rfl, ?_⟩
                  refine d_and (fun w m => m.pick [4, 5, 6] rfl) ?_
                  refine pk [2, 0, 1, 3, 4, 5, 6] rfl ?_
                  refine re (E' := [(4, (.pointer (some ⟨b5, 0, none⟩))), (5, (.pointer (some ⟨b9, 0, none⟩))), (48, (.slice a132 l133 q134)), (55, (.pointer (some ⟨b1, 0, none⟩))), (52, v166), (54, v165)]) ⟨rfl, rfl, rfl, rfl, rfl, rfl, trivial⟩ ?_
                  exact H457 e140 h141 v166 bb167 bb168 v165
                · intro o ho; cases ho
                  refine pk [1, 0, 2, 3, 4, 5] rfl ?_
                  refine o_call (vs := [(.pointer (some ⟨b1, 0, none⟩)), (.int .i64 2)]) (M0 := [cellCh b1 [v2, (.int .i64 r125)] 111]) Tryd.call65 rfl rfl (by intro w m h; exact (w_spec_l20Rd_pick (F := allB [cellCh b1 [v2, (.int .i64 r125)] 111] w) (r_0_b := r_0_b) (r_0_p := r125) (n_1 := 2) allB_ok m.given (m.rdM 3 rfl (reads_snap hv2)) h).mono (fun _ _ k => ret_free (fun r u => (fr_cons free_cell fr_nil)) k)) ?_; rintro ⟨r169, r170⟩ _
                  refine d_and (fun w m => m.pick [2, 3, 4] rfl) ?_
                  refine pk [0, 1, 2, 3, 4, 5] rfl ?_
                  refine re (E' := [(4, (.pointer (some ⟨b5, 0, none⟩))), (5, (.pointer (some ⟨b9, 0, none⟩))), (48, (.slice a132 l133 q134)), (51, (pEl (.slice a132 l133 q134) 0 1 0)), (54, v165), (56, (.int .i64 r169))]) ⟨rfl, rfl, rfl, rfl, rfl, rfl, trivial⟩ ?_
                  exact H464 e140 h141 v165 r169 r170
              have H466 : ∀ (e140 : (List GRule)) (h141 : xs16[(0 : Int).toNat]? = some e140) (r189 : Int) (r190 : Int), Nx 80 (gB F [cellCh b1 [v2, (.int .i64 r_0_p)] 111] w0) (feet [cellCh b1 [v2, (.int .i64 r_0_p)] 111]) w0 (wpAnyH Tryd.prog .any (opsAt Tryd.f81 [1, 1, 1, 1, 0, 1, 0, 1, 0, 1, 1, 1, 0]) Qd (Mem (gB F [cellCh b1 [v2, (.int .i64 r_0_p)] 111] w0) (feet [cellCh b1 [v2, (.int .i64 r_0_p)] 111]) w0 [cellCh b9 [(.slice a132 l133 q134), (.bool (decide (r7 = 0)))] 64, cellCh b5 [(.slice none 0 0), (.bool false)] 64, snapCh w0 F]) 9 #[true, true, true, true, true, false, true, false, true, true, false, false, false, false, false, false, false]) [(4, (.pointer (some ⟨b5, 0, none⟩))), (5, (.pointer (some ⟨b9, 0, none⟩))), (48, (.slice a132 l133 q134)), (53, (.int .i64 t13)), (51, (pEl (.slice a132 l133 q134) 0 1 0)), (56, (.int .i64 r189))] [cellCh b1 [v2, (.int .i64 r190)] 111, cellCh b9 [(.slice a132 l133 q134), (.bool (decide (r7 = 0)))] 64, cellCh b5 [(.slice none 0 0), (.bool false)] 64, snapCh w0 F, dpCh (dSl dGRule 53) 69 bb18 (.slice a132 l133 q134) xs16] (idxW ([0, t13]) r189 (fun e148 => appW e140 ([(GRule.mk ([]) 3 e148)]) (fun _ => idxW xs16 0 (fun e155 => k139 ((xs16.set (0 : Int).toNat (e140 ++ ([(GRule.mk ([]) 3 e148)]))), r190))))) := by
                intro e140 h141 r189 r190
                refine d_two (i := 5) (j := 7) rfl rfl (by kernel_rfl) ?_ ?_
                · intro o ho; cases ho
                  refine pk [4, 0, 1, 2, 3] rfl ?_
                  refine o_ldF (E1 := dGRule) (t1 := 53) (zin := e140) (encz := fun v => [v]) rfl h141 (fun B w cs h => h) rfl rfl ty69 ?_; rintro v191 bb192 bb193; refine ⟨v191, rfl, ?_⟩
                  refine d_and (fun w m => m.pick [3, 4, 5] rfl) ?_
                  refine pk [2, 0, 1, 3, 4, 5] rfl ?_
                  refine re (E' := [(4, (.pointer (some ⟨b5, 0, none⟩))), (5, (.pointer (some ⟨b9, 0, none⟩))), (48, (.slice a132 l133 q134)), (53, (.int .i64 t13)), (52, v191), (56, (.int .i64 r189))]) ⟨rfl, rfl, rfl, rfl, rfl, rfl, trivial⟩ ?_
                  exact H458 e140 h141 v191 bb192 bb193 r189 r190
                · intro o ho; cases ho
                  refine o_bsl (enc := encInt) (qs := [(0, (.int .i64 0)), (1, (.int .i64 t13))]) (cells := [(.int .i64 0), (.int .i64 t13)]) ([0, t13]) flelInt (by intro ρ h; simp only [List.map_toArray, List.map_cons, List.map_nil, h (.const (.int .i64 0)) _ rfl, h (.tmp 53) _ rfl]) rfl el103 zero3 rfl rfl rfl rfl rfl rfl ?_; intro v194
                  refine d_and (fun w m => m.pick [2, 3, 4] rfl) ?_
                  refine pk [1, 0, 2, 3, 4, 5] rfl ?_
                  refine re (E' := [(4, (.pointer (some ⟨b5, 0, none⟩))), (5, (.pointer (some ⟨b9, 0, none⟩))), (48, (.slice a132 l133 q134)), (51, (pEl (.slice a132 l133 q134) 0 1 0)), (54, v194), (56, (.int .i64 r189))]) ⟨rfl, rfl, rfl, rfl, rfl, rfl, trivial⟩ ?_
                  exact H464 e140 h141 v194 r189 r190
              have H467 : ∀ (e140 : (List GRule)) (h141 : xs16[(0 : Int).toNat]? = some e140), Nx 80 (gB F [cellCh b1 [v2, (.int .i64 r_0_p)] 111] w0) (feet [cellCh b1 [v2, (.int .i64 r_0_p)] 111]) w0 (wpAnyH Tryd.prog .any (opsAt Tryd.f81 [1, 1, 1, 1, 0, 1, 0, 1, 0, 1, 1, 1, 0]) Qd (Mem (gB F [cellCh b1 [v2, (.int .i64 r_0_p)] 111] w0) (feet [cellCh b1 [v2, (.int .i64 r_0_p)] 111]) w0 [cellCh b9 [(.slice a132 l133 q134), (.bool (decide (r7 = 0)))] 64, cellCh b5 [(.slice none 0 0), (.bool false)] 64, snapCh w0 F]) 10 #[true, true, true, true, true, false, true, false, true, false, false, false, false, false, false, false, false]) [(4, (.pointer (some ⟨b5, 0, none⟩))), (5, (.pointer (some ⟨b9, 0, none⟩))), (48, (.slice a132 l133 q134)), (53, (.int .i64 t13)), (55, (.pointer (some ⟨b1, 0, none⟩))), (51, (pEl (.slice a132 l133 q134) 0 1 0))] [cellCh b1 [v2, (.int .i64 r125)] 111, cellCh b9 [(.slice a132 l133 q134), (.bool (decide (r7 = 0)))] 64, cellCh b5 [(.slice none 0 0), (.bool false)] 64, snapCh w0 F, dpCh (dSl dGRule 53) 69 bb18 (.slice a132 l133 q134) xs16] (L_spec_l20Rd_pick r_0_b r125 2 (fun (r146, r147) => idxW ([0, t13]) r146 (fun e148 => appW e140 ([(GRule.mk ([]) 3 e148)]) (fun _ => idxW xs16 0 (fun e155 => k139 ((xs16.set (0 : Int).toNat (e140 ++ ([(GRule.mk ([]) 3 e148)]))), r147)))))) := by
                intro e140 h141
                refine d_three (i := 5) (j := 7) (l := 9) rfl rfl rfl (by kernel_rfl) ?_ ?_ ?_
                · intro o ho; cases ho
                  refine pk [4, 0, 1, 2, 3] rfl ?_
                  refine o_ldF (E1 := dGRule) (t1 := 53) (zin := e140) (encz := fun v => [v]) rfl h141 (fun B w cs h => h) rfl rfl ty69 ?_; rintro v142 bb143 bb144; refine ⟨v142, rfl, ?_⟩
                  refine d_and (fun w m => m.pick [3, 4, 5] rfl) ?_
                  refine pk [0, 1, 2, 3, 4, 5] rfl ?_
                  refine re (E' := [(4, (.pointer (some ⟨b5, 0, none⟩))), (5, (.pointer (some ⟨b9, 0, none⟩))), (48, (.slice a132 l133 q134)), (53, (.int .i64 t13)), (55, (.pointer (some ⟨b1, 0, none⟩))), (52, v142)]) ⟨rfl, rfl, rfl, rfl, rfl, rfl, trivial⟩ ?_
                  exact H459 e140 h141 v142 bb143 bb144
                · intro o ho; cases ho
                  refine o_bsl (enc := encInt) (qs := [(0, (.int .i64 0)), (1, (.int .i64 t13))]) (cells := [(.int .i64 0), (.int .i64 t13)]) ([0, t13]) flelInt (by intro ρ h; simp only [List.map_toArray, List.map_cons, List.map_nil, h (.const (.int .i64 0)) _ rfl, h (.tmp 53) _ rfl]) rfl el103 zero3 rfl rfl rfl rfl rfl rfl ?_; intro v165
                  refine d_and (fun w m => m.pick [2, 3, 4] rfl) ?_
                  refine pk [0, 1, 2, 3, 4, 5] rfl ?_
                  refine re (E' := [(4, (.pointer (some ⟨b5, 0, none⟩))), (5, (.pointer (some ⟨b9, 0, none⟩))), (48, (.slice a132 l133 q134)), (55, (.pointer (some ⟨b1, 0, none⟩))), (51, (pEl (.slice a132 l133 q134) 0 1 0)), (54, v165)]) ⟨rfl, rfl, rfl, rfl, rfl, rfl, trivial⟩ ?_
                  exact H465 e140 h141 v165
                · intro o ho; cases ho
                  refine o_call (vs := [(.pointer (some ⟨b1, 0, none⟩)), (.int .i64 2)]) (M0 := [cellCh b1 [v2, (.int .i64 r125)] 111]) Tryd.call65 rfl rfl (by intro w m h; exact (w_spec_l20Rd_pick (F := allB [cellCh b1 [v2, (.int .i64 r125)] 111] w) (r_0_b := r_0_b) (r_0_p := r125) (n_1 := 2) allB_ok m.given (m.rdM 2 rfl (reads_snap hv2)) h).mono (fun _ _ k => ret_free (fun r u => (fr_cons free_cell fr_nil)) k)) ?_; rintro ⟨r189, r190⟩ _
                  refine d_and (fun w m => m.pick [1, 2, 3] rfl) ?_
                  refine pk [0, 1, 2, 3, 4] rfl ?_
                  refine re (E' := [(4, (.pointer (some ⟨b5, 0, none⟩))), (5, (.pointer (some ⟨b9, 0, none⟩))), (48, (.slice a132 l133 q134)), (53, (.int .i64 t13)), (51, (pEl (.slice a132 l133 q134) 0 1 0)), (56, (.int .i64 r189))]) ⟨rfl, rfl, rfl, rfl, rfl, rfl, trivial⟩ ?_
                  exact H466 e140 h141 r189 r190
              have H468 : ∀ (v195 : Value) (r198 : Int) (r199 : Int) (e202 : Int) (h203 : ([0, t13])[(r198).toNat]? = some e202) (e206 : (List GRule)) (h207 : xs16[(0 : Int).toNat]? = some e206), Nx 80 (gB F [cellCh b1 [v2, (.int .i64 r_0_p)] 111] w0) (feet [cellCh b1 [v2, (.int .i64 r_0_p)] 111]) w0 (wpAnyH Tryd.prog .any (opsAt Tryd.f81 [1, 1, 1, 1, 0, 1, 0, 1, 0, 1, 1, 1, 0]) Qd (Mem (gB F [cellCh b1 [v2, (.int .i64 r_0_p)] 111] w0) (feet [cellCh b1 [v2, (.int .i64 r_0_p)] 111]) w0 [cellCh b9 [(.slice a132 l133 q134), (.bool (decide (r7 = 0)))] 64, cellCh b5 [(.slice none 0 0), (.bool false)] 64, snapCh w0 F]) 5 #[true, true, true, true, true, false, true, true, true, true, true, true, true, false, false, false, false]) [(4, (.pointer (some ⟨b5, 0, none⟩))), (5, (.pointer (some ⟨b9, 0, none⟩))), (48, (.slice a132 l133 q134)), (59, (.agg #[(.slice none 0 0), (.int .i64 3), (.int .i64 e202)])), (51, (pEl (.slice a132 l133 q134) 0 1 0))] [cellCh b1 [v2, (.int .i64 r199)] 111, cellCh b9 [(.slice a132 l133 q134), (.bool (decide (r7 = 0)))] 64, cellCh b5 [(.slice none 0 0), (.bool false)] 64, snapCh w0 F, dpCh (dSl dGRule 53) 69 bb18 (.slice a132 l133 q134) xs16] (appW e206 ([(GRule.mk ([]) 3 e202)]) (fun _ => idxW xs16 0 (fun e155 => k139 ((xs16.set (0 : Int).toNat (e206 ++ ([(GRule.mk ([]) 3 e202)]))), r199)))) := by
                intro v195 r198 r199 e202 h203 e206 h207
                refine d_two (i := 5) (j := 13) rfl rfl (by kernel_rfl) ?_ ?_
                · intro o ho; cases ho
                  refine pk [4, 0, 1, 2, 3] rfl ?_
                  refine o_ldF (E1 := dGRule) (t1 := 53) (zin := e206) (encz := fun v => [v]) rfl h207 (fun B w cs h => h) rfl rfl ty69 ?_; rintro v208 bb209 bb210; refine ⟨v208, rfl, ?_⟩
                  refine d_and (fun w m => m.pick [3, 4, 5] rfl) ?_
                  refine pk [0, 1, 2, 3, 4, 5] rfl ?_
                  refine re (E' := [(4, (.pointer (some ⟨b5, 0, none⟩))), (5, (.pointer (some ⟨b9, 0, none⟩))), (48, (.slice a132 l133 q134)), (59, (.agg #[(.slice none 0 0), (.int .i64 3), (.int .i64 e202)])), (52, v208)]) ⟨rfl, rfl, rfl, rfl, rfl, trivial⟩ ?_
                  exact H460 e206 h207 v195 r198 r199 e202 h203 v208 bb209 bb210
                · intro o ho; cases ho
                  refine o_bslD (M := []) (E' := dGRule) (qs := [(0, (.agg #[(.slice none 0 0), (.int .i64 3), (.int .i64 e202)]))]) (cs := [(.slice none 0 0), (.int .i64 3), (.int .i64 e202)]) (GRule.mk ([]) 3 e202) (absorb_nil (fun w => ⟨_, rfl, Dp.nil⟩)) (by intro ρ h; simp only [List.map_toArray, List.map_cons, List.map_nil, h (.tmp 59) _ rfl]) rfl el69 zero53 rfl rfl rfl rfl ?_; intro bb212 v211
                  refine d_and (fun w m => m.pick [2, 3, 4] rfl) ?_
                  refine pk [0, 1, 2, 3, 4, 5] rfl ?_
                  refine re (E' := [(4, (.pointer (some ⟨b5, 0, none⟩))), (5, (.pointer (some ⟨b9, 0, none⟩))), (48, (.slice a132 l133 q134)), (51, (pEl (.slice a132 l133 q134) 0 1 0)), (60, v211)]) ⟨rfl, rfl, rfl, rfl, rfl, trivial⟩ ?_
                  exact H461 e206 h207 v195 r198 r199 e202 h203 v211 bb212
              have H469 : ∀ (v195 : Value) (r198 : Int) (r199 : Int) (e202 : Int) (h203 : ([0, t13])[(r198).toNat]? = some e202) (v213 : Value) (bb214 : List Nat), Nx 80 (gB F [cellCh b1 [v2, (.int .i64 r_0_p)] 111] w0) (feet [cellCh b1 [v2, (.int .i64 r_0_p)] 111]) w0 (wpAnyH Tryd.prog .any (opsAt Tryd.f81 [1, 1, 1, 1, 0, 1, 0, 1, 0, 1, 1, 1, 0]) Qd (Mem (gB F [cellCh b1 [v2, (.int .i64 r_0_p)] 111] w0) (feet [cellCh b1 [v2, (.int .i64 r_0_p)] 111]) w0 [cellCh b9 [(.slice a132 l133 q134), (.bool (decide (r7 = 0)))] 64, cellCh b5 [(.slice none 0 0), (.bool false)] 64, snapCh w0 F]) 5 #[true, true, true, true, false, false, true, true, true, true, true, true, true, true, false, false, false]) [(4, (.pointer (some ⟨b5, 0, none⟩))), (5, (.pointer (some ⟨b9, 0, none⟩))), (48, (.slice a132 l133 q134)), (50, (.slice a132 l133 q134)), (60, v213)] [dpCh dGRule 53 bb214 v213 ([(GRule.mk ([]) 3 e202)]), cellCh b1 [v2, (.int .i64 r199)] 111, cellCh b9 [(.slice a132 l133 q134), (.bool (decide (r7 = 0)))] 64, cellCh b5 [(.slice none 0 0), (.bool false)] 64, snapCh w0 F, dpCh (dSl dGRule 53) 69 bb18 (.slice a132 l133 q134) xs16] (idxW xs16 0 (fun e215 => appW e215 ([(GRule.mk ([]) 3 e202)]) (fun _ => idxW xs16 0 (fun e155 => k139 ((xs16.set (0 : Int).toNat (e215 ++ ([(GRule.mk ([]) 3 e202)]))), r199))))) := by
                intro v195 r198 r199 e202 h203 v213 bb214
                refine d_one (i := 4) rfl (by kernel_rfl) (o_idx m_op 5 rfl reads_dp rfl rfl rfl el62 ?_); intro e215 h216
                refine d_and (fun w m => m.pick [2, 3, 4] rfl) ?_
                refine pk [0, 1, 2, 3, 4, 5] rfl ?_
                refine re (E' := [(4, (.pointer (some ⟨b5, 0, none⟩))), (5, (.pointer (some ⟨b9, 0, none⟩))), (48, (.slice a132 l133 q134)), (51, (pEl (.slice a132 l133 q134) 0 1 0)), (60, v213)]) ⟨rfl, rfl, rfl, rfl, rfl, trivial⟩ ?_
                exact H461 e215 h216 v195 r198 r199 e202 h203 v213 bb214
              have H470 : ∀ (v195 : Value) (r198 : Int) (r199 : Int) (e202 : Int) (h203 : ([0, t13])[(r198).toNat]? = some e202), Nx 80 (gB F [cellCh b1 [v2, (.int .i64 r_0_p)] 111] w0) (feet [cellCh b1 [v2, (.int .i64 r_0_p)] 111]) w0 (wpAnyH Tryd.prog .any (opsAt Tryd.f81 [1, 1, 1, 1, 0, 1, 0, 1, 0, 1, 1, 1, 0]) Qd (Mem (gB F [cellCh b1 [v2, (.int .i64 r_0_p)] 111] w0) (feet [cellCh b1 [v2, (.int .i64 r_0_p)] 111]) w0 [cellCh b9 [(.slice a132 l133 q134), (.bool (decide (r7 = 0)))] 64, cellCh b5 [(.slice none 0 0), (.bool false)] 64, snapCh w0 F]) 7 #[true, true, true, true, false, false, true, true, true, true, true, true, false, false, false, false, false]) [(4, (.pointer (some ⟨b5, 0, none⟩))), (5, (.pointer (some ⟨b9, 0, none⟩))), (48, (.slice a132 l133 q134)), (50, (.slice a132 l133 q134)), (58, (.int .i64 e202))] [cellCh b1 [v2, (.int .i64 r199)] 111, cellCh b9 [(.slice a132 l133 q134), (.bool (decide (r7 = 0)))] 64, cellCh b5 [(.slice none 0 0), (.bool false)] 64, snapCh w0 F, dpCh (dSl dGRule 53) 69 bb18 (.slice a132 l133 q134) xs16] (idxW xs16 0 (fun e206 => appW e206 ([(GRule.mk ([]) 3 e202)]) (fun _ => idxW xs16 0 (fun e155 => k139 ((xs16.set (0 : Int).toNat (e206 ++ ([(GRule.mk ([]) 3 e202)]))), r199))))) := by
                intro v195 r198 r199 e202 h203
                refine o_bld (dt 12 (fun w m => m.pick [1, 2, 3] rfl)) (qs := [(1, (.int .i64 3)), (2, (.int .i64 e202))]) (cells := [(.slice none 0 0), (.int .i64 3), (.int .i64 e202)]) (by intro ρ h; simp only [List.map_toArray, List.map_cons, List.map_nil, h (.const (.int .i64 3)) _ rfl, h (.tmp 58) _ rfl]) rfl bld53 rfl ?_
                refine d_two (i := 4) (j := 13) rfl rfl (by kernel_rfl) ?_ ?_
                · intro o ho; cases ho
                  refine o_idx m_op 4 rfl reads_dp rfl rfl rfl el62 ?_; intro e206 h207
                  refine d_and (fun w m => m.pick [1, 2, 3] rfl) ?_
                  refine pk [0, 1, 2, 3, 4] rfl ?_
                  refine re (E' := [(4, (.pointer (some ⟨b5, 0, none⟩))), (5, (.pointer (some ⟨b9, 0, none⟩))), (48, (.slice a132 l133 q134)), (59, (.agg #[(.slice none 0 0), (.int .i64 3), (.int .i64 e202)])), (51, (pEl (.slice a132 l133 q134) 0 1 0))]) ⟨rfl, rfl, rfl, rfl, rfl, trivial⟩ ?_
                  exact H468 v195 r198 r199 e202 h203 e206 h207
                · intro o ho; cases ho
                  refine o_bslD (M := []) (E' := dGRule) (qs := [(0, (.agg #[(.slice none 0 0), (.int .i64 3), (.int .i64 e202)]))]) (cs := [(.slice none 0 0), (.int .i64 3), (.int .i64 e202)]) (GRule.mk ([]) 3 e202) (absorb_nil (fun w => ⟨_, rfl, Dp.nil⟩)) (by intro ρ h; simp only [List.map_toArray, List.map_cons, List.map_nil, h (.tmp 59) _ rfl]) rfl el69 zero53 rfl rfl rfl rfl ?_; intro bb214 v213
                  refine d_and (fun w m => m.pick [2, 3, 4] rfl) ?_
                  refine pk [0, 1, 2, 3, 4, 5] rfl ?_
                  refine re (E' := [(4, (.pointer (some ⟨b5, 0, none⟩))), (5, (.pointer (some ⟨b9, 0, none⟩))), (48, (.slice a132 l133 q134)), (50, (.slice a132 l133 q134)), (60, v213)]) ⟨rfl, rfl, rfl, rfl, rfl, trivial⟩ ?_
                  exact H469 v195 r198 r199 e202 h203 v213 bb214
              have H471 : ∀ (v195 : Value) (r198 : Int) (r199 : Int) (e202 : Int) (h203 : ([0, t13])[(r198).toNat]? = some e202), Nx 80 (gB F [cellCh b1 [v2, (.int .i64 r_0_p)] 111] w0) (feet [cellCh b1 [v2, (.int .i64 r_0_p)] 111]) w0 (wpAnyH Tryd.prog .any (opsAt Tryd.f81 [1, 1, 1, 1, 0, 1, 0, 1, 0, 1, 1, 1, 0]) Qd (Mem (gB F [cellCh b1 [v2, (.int .i64 r_0_p)] 111] w0) (feet [cellCh b1 [v2, (.int .i64 r_0_p)] 111]) w0 [cellCh b9 [(.slice a132 l133 q134), (.bool (decide (r7 = 0)))] 64, cellCh b5 [(.slice none 0 0), (.bool false)] 64, snapCh w0 F]) 8 #[true, true, true, true, false, false, true, true, true, true, true, false, false, false, false, false, false]) [(4, (.pointer (some ⟨b5, 0, none⟩))), (5, (.pointer (some ⟨b9, 0, none⟩))), (48, (.slice a132 l133 q134)), (50, (.slice a132 l133 q134)), (57, (pEl v195 r198 1 0))] [cellCh b1 [v2, (.int .i64 r199)] 111, ownCh elInt 3 v195 ([0, t13]), cellCh b9 [(.slice a132 l133 q134), (.bool (decide (r7 = 0)))] 64, cellCh b5 [(.slice none 0 0), (.bool false)] 64, snapCh w0 F, dpCh (dSl dGRule 53) 69 bb18 (.slice a132 l133 q134) xs16] (idxW xs16 0 (fun e204 => appW e204 ([(GRule.mk ([]) 3 e202)]) (fun _ => idxW xs16 0 (fun e155 => k139 ((xs16.set (0 : Int).toNat (e204 ++ ([(GRule.mk ([]) 3 e202)]))), r199))))) := by
                intro v195 r198 r199 e202 h203
                refine d_two (i := 4) (j := 11) rfl rfl (by kernel_rfl) ?_ ?_
                · intro o ho; cases ho
                  refine o_idx m_op 5 rfl reads_dp rfl rfl rfl el62 ?_; intro e204 h205
                  refine d_and (fun w m => m.pick [2, 3, 4] rfl) ?_
                  refine pk [0, 1, 2, 3, 4, 5] rfl ?_
                  refine re (E' := [(4, (.pointer (some ⟨b5, 0, none⟩))), (5, (.pointer (some ⟨b9, 0, none⟩))), (48, (.slice a132 l133 q134)), (51, (pEl (.slice a132 l133 q134) 0 1 0)), (57, (pEl v195 r198 1 0))]) ⟨rfl, rfl, rfl, rfl, rfl, trivial⟩ ?_
                  exact H463 e204 h205 v195 r198 r199 e202 h203
                · intro o ho; cases ho
                  refine o_lds m_op (enc := encInt) (u := (.int .i64 e202)) 1 rfl reads_own flelInt rfl h203 rfl rfl ty3 rfl ?_
                  refine d_and (fun w m => m.pick [2, 3, 4] rfl) ?_
                  refine pk [0, 2, 3, 4, 5] rfl ?_
                  refine re (E' := [(4, (.pointer (some ⟨b5, 0, none⟩))), (5, (.pointer (some ⟨b9, 0, none⟩))), (48, (.slice a132 l133 q134)), (50, (.slice a132 l133 q134)), (58, (.int .i64 e202))]) ⟨rfl, rfl, rfl, rfl, rfl, trivial⟩ ?_
                  exact H470 v195 r198 r199 e202 h203
              have H472 : ∀ (v195 : Value) (r198 : Int) (r199 : Int), Nx 80 (gB F [cellCh b1 [v2, (.int .i64 r_0_p)] 111] w0) (feet [cellCh b1 [v2, (.int .i64 r_0_p)] 111]) w0 (wpAnyH Tryd.prog .any (opsAt Tryd.f81 [1, 1, 1, 1, 0, 1, 0, 1, 0, 1, 1, 1, 0]) Qd (Mem (gB F [cellCh b1 [v2, (.int .i64 r_0_p)] 111] w0) (feet [cellCh b1 [v2, (.int .i64 r_0_p)] 111]) w0 [cellCh b9 [(.slice a132 l133 q134), (.bool (decide (r7 = 0)))] 64, cellCh b5 [(.slice none 0 0), (.bool false)] 64, snapCh w0 F]) 9 #[true, true, true, true, false, false, true, true, true, true, false, false, false, false, false, false, false]) [(4, (.pointer (some ⟨b5, 0, none⟩))), (5, (.pointer (some ⟨b9, 0, none⟩))), (48, (.slice a132 l133 q134)), (50, (.slice a132 l133 q134)), (54, v195), (56, (.int .i64 r198))] [cellCh b1 [v2, (.int .i64 r199)] 111, ownCh elInt 3 v195 ([0, t13]), cellCh b9 [(.slice a132 l133 q134), (.bool (decide (r7 = 0)))] 64, cellCh b5 [(.slice none 0 0), (.bool false)] 64, snapCh w0 F, dpCh (dSl dGRule 53) 69 bb18 (.slice a132 l133 q134) xs16] ((idxW xs16 0 (fun e200 => idxW ([0, t13]) r198 (fun e148 => appW e200 ([(GRule.mk ([]) 3 e148)]) (fun _ => idxW xs16 0 (fun e155 => k139 ((xs16.set (0 : Int).toNat (e200 ++ ([(GRule.mk ([]) 3 e148)]))), r199)))))) ∧ (idxW ([0, t13]) r198 (fun e202 => idxW xs16 0 (fun e204 => appW e204 ([(GRule.mk ([]) 3 e202)]) (fun _ => idxW xs16 0 (fun e155 => k139 ((xs16.set (0 : Int).toNat (e204 ++ ([(GRule.mk ([]) 3 e202)]))), r199))))))) := by
                intro v195 r198 r199
                refine d_two (i := 4) (j := 10) rfl rfl (by kernel_rfl) ?_ ?_
                · intro o ho; cases ho
                  refine nx_l ?_
                  refine o_idx m_op 5 rfl reads_dp rfl rfl rfl el62 ?_; intro e200 h201
                  refine d_and (fun w m => m.pick [2, 3, 4] rfl) ?_
                  refine pk [0, 1, 2, 3, 4, 5] rfl ?_
                  refine re (E' := [(4, (.pointer (some ⟨b5, 0, none⟩))), (5, (.pointer (some ⟨b9, 0, none⟩))), (48, (.slice a132 l133 q134)), (51, (pEl (.slice a132 l133 q134) 0 1 0)), (54, v195), (56, (.int .i64 r198))]) ⟨rfl, rfl, rfl, rfl, rfl, rfl, trivial⟩ ?_
                  exact H464 e200 h201 v195 r198 r199
                · intro o ho; cases ho
                  refine nx_r ?_
                  refine o_idx m_op 1 rfl reads_own rfl rfl rfl el103 ?_; intro e202 h203
                  refine d_and (fun w m => m.pick [2, 3, 4] rfl) ?_
                  refine pk [0, 1, 2, 3, 4, 5] rfl ?_
                  refine re (E' := [(4, (.pointer (some ⟨b5, 0, none⟩))), (5, (.pointer (some ⟨b9, 0, none⟩))), (48, (.slice a132 l133 q134)), (50, (.slice a132 l133 q134)), (57, (pEl v195 r198 1 0))]) ⟨rfl, rfl, rfl, rfl, rfl, trivial⟩ ?_
                  exact H471 v195 r198 r199 e202 h203
              have H473 : ∀ (v195 : Value), Nx 80 (gB F [cellCh b1 [v2, (.int .i64 r_0_p)] 111] w0) (feet [cellCh b1 [v2, (.int .i64 r_0_p)] 111]) w0 (wpAnyH Tryd.prog .any (opsAt Tryd.f81 [1, 1, 1, 1, 0, 1, 0, 1, 0, 1, 1, 1, 0]) Qd (Mem (gB F [cellCh b1 [v2, (.int .i64 r_0_p)] 111] w0) (feet [cellCh b1 [v2, (.int .i64 r_0_p)] 111]) w0 [cellCh b9 [(.slice a132 l133 q134), (.bool (decide (r7 = 0)))] 64, cellCh b5 [(.slice none 0 0), (.bool false)] 64, snapCh w0 F]) 10 #[true, true, true, true, false, false, true, true, true, false, false, false, false, false, false, false, false]) [(4, (.pointer (some ⟨b5, 0, none⟩))), (5, (.pointer (some ⟨b9, 0, none⟩))), (48, (.slice a132 l133 q134)), (50, (.slice a132 l133 q134)), (55, (.pointer (some ⟨b1, 0, none⟩))), (54, v195)] [ownCh elInt 3 v195 ([0, t13]), cellCh b1 [v2, (.int .i64 r125)] 111, cellCh b9 [(.slice a132 l133 q134), (.bool (decide (r7 = 0)))] 64, cellCh b5 [(.slice none 0 0), (.bool false)] 64, snapCh w0 F, dpCh (dSl dGRule 53) 69 bb18 (.slice a132 l133 q134) xs16] ((idxW xs16 0 (fun e196 => L_spec_l20Rd_pick r_0_b r125 2 (fun (r146, r147) => idxW ([0, t13]) r146 (fun e148 => appW e196 ([(GRule.mk ([]) 3 e148)]) (fun _ => idxW xs16 0 (fun e155 => k139 ((xs16.set (0 : Int).toNat (e196 ++ ([(GRule.mk ([]) 3 e148)]))), r147))))))) ∧ (L_spec_l20Rd_pick r_0_b r125 2 (fun (r198, r199) => (idxW xs16 0 (fun e200 => idxW ([0, t13]) r198 (fun e148 => appW e200 ([(GRule.mk ([]) 3 e148)]) (fun _ => idxW xs16 0 (fun e155 => k139 ((xs16.set (0 : Int).toNat (e200 ++ ([(GRule.mk ([]) 3 e148)]))), r199)))))) ∧ (idxW ([0, t13]) r198 (fun e202 => idxW xs16 0 (fun e204 => appW e204 ([(GRule.mk ([]) 3 e202)]) (fun _ => idxW xs16 0 (fun e155 => k139 ((xs16.set (0 : Int).toNat (e204 ++ ([(GRule.mk ([]) 3 e202)]))), r199))))))))) := by
                intro v195
                refine d_two (i := 4) (j := 9) rfl rfl (by kernel_rfl) ?_ ?_
                · intro o ho; cases ho
                  refine nx_l ?_
                  refine o_idx m_op 5 rfl reads_dp rfl rfl rfl el62 ?_; intro e196 h197
                  refine d_and (fun w m => m.pick [2, 3, 4] rfl) ?_
                  refine pk [0, 1, 2, 3, 4, 5] rfl ?_
                  refine re (E' := [(4, (.pointer (some ⟨b5, 0, none⟩))), (5, (.pointer (some ⟨b9, 0, none⟩))), (48, (.slice a132 l133 q134)), (55, (.pointer (some ⟨b1, 0, none⟩))), (51, (pEl (.slice a132 l133 q134) 0 1 0)), (54, v195)]) ⟨rfl, rfl, rfl, rfl, rfl, rfl, trivial⟩ ?_
                  exact H465 e196 h197 v195
                · intro o ho; cases ho
                  refine nx_r ?_
                  refine pk [1, 0, 2, 3, 4, 5] rfl ?_
                  refine o_call (vs := [(.pointer (some ⟨b1, 0, none⟩)), (.int .i64 2)]) (M0 := [cellCh b1 [v2, (.int .i64 r125)] 111]) Tryd.call65 rfl rfl (by intro w m h; exact (w_spec_l20Rd_pick (F := allB [cellCh b1 [v2, (.int .i64 r125)] 111] w) (r_0_b := r_0_b) (r_0_p := r125) (n_1 := 2) allB_ok m.given (m.rdM 3 rfl (reads_snap hv2)) h).mono (fun _ _ k => ret_free (fun r u => (fr_cons free_cell fr_nil)) k)) ?_; rintro ⟨r198, r199⟩ _
                  refine d_and (fun w m => m.pick [2, 3, 4] rfl) ?_
                  refine pk [0, 1, 2, 3, 4, 5] rfl ?_
                  refine re (E' := [(4, (.pointer (some ⟨b5, 0, none⟩))), (5, (.pointer (some ⟨b9, 0, none⟩))), (48, (.slice a132 l133 q134)), (50, (.slice a132 l133 q134)), (54, v195), (56, (.int .i64 r198))]) ⟨rfl, rfl, rfl, rfl, rfl, rfl, trivial⟩ ?_
                  exact H472 v195 r198 r199
              have H474 : ∀ (r217 : Int) (r218 : Int), Nx 80 (gB F [cellCh b1 [v2, (.int .i64 r_0_p)] 111] w0) (feet [cellCh b1 [v2, (.int .i64 r_0_p)] 111]) w0 (wpAnyH Tryd.prog .any (opsAt Tryd.f81 [1, 1, 1, 1, 0, 1, 0, 1, 0, 1, 1, 1, 0]) Qd (Mem (gB F [cellCh b1 [v2, (.int .i64 r_0_p)] 111] w0) (feet [cellCh b1 [v2, (.int .i64 r_0_p)] 111]) w0 [cellCh b9 [(.slice a132 l133 q134), (.bool (decide (r7 = 0)))] 64, cellCh b5 [(.slice none 0 0), (.bool false)] 64, snapCh w0 F]) 10 #[true, true, true, true, false, false, true, false, true, true, false, false, false, false, false, false, false]) [(4, (.pointer (some ⟨b5, 0, none⟩))), (5, (.pointer (some ⟨b9, 0, none⟩))), (48, (.slice a132 l133 q134)), (50, (.slice a132 l133 q134)), (53, (.int .i64 t13)), (56, (.int .i64 r217))] [cellCh b1 [v2, (.int .i64 r218)] 111, cellCh b9 [(.slice a132 l133 q134), (.bool (decide (r7 = 0)))] 64, cellCh b5 [(.slice none 0 0), (.bool false)] 64, snapCh w0 F, dpCh (dSl dGRule 53) 69 bb18 (.slice a132 l133 q134) xs16] ((idxW xs16 0 (fun e219 => idxW ([0, t13]) r217 (fun e148 => appW e219 ([(GRule.mk ([]) 3 e148)]) (fun _ => idxW xs16 0 (fun e155 => k139 ((xs16.set (0 : Int).toNat (e219 ++ ([(GRule.mk ([]) 3 e148)]))), r218)))))) ∧ ((idxW xs16 0 (fun e200 => idxW ([0, t13]) r217 (fun e148 => appW e200 ([(GRule.mk ([]) 3 e148)]) (fun _ => idxW xs16 0 (fun e155 => k139 ((xs16.set (0 : Int).toNat (e200 ++ ([(GRule.mk ([]) 3 e148)]))), r218)))))) ∧ (idxW ([0, t13]) r217 (fun e202 => idxW xs16 0 (fun e204 => appW e204 ([(GRule.mk ([]) 3 e202)]) (fun _ => idxW xs16 0 (fun e155 => k139 ((xs16.set (0 : Int).toNat (e204 ++ ([(GRule.mk ([]) 3 e202)]))), r218)))))))) := by
                intro r217 r218
                refine d_two (i := 4) (j := 7) rfl rfl (by kernel_rfl) ?_ ?_
                · intro o ho; cases ho
                  refine nx_l ?_
                  refine o_idx m_op 4 rfl reads_dp rfl rfl rfl el62 ?_; intro e219 h220
                  refine d_and (fun w m => m.pick [1, 2, 3] rfl) ?_
                  refine pk [0, 1, 2, 3, 4] rfl ?_
                  refine re (E' := [(4, (.pointer (some ⟨b5, 0, none⟩))), (5, (.pointer (some ⟨b9, 0, none⟩))), (48, (.slice a132 l133 q134)), (53, (.int .i64 t13)), (51, (pEl (.slice a132 l133 q134) 0 1 0)), (56, (.int .i64 r217))]) ⟨rfl, rfl, rfl, rfl, rfl, rfl, trivial⟩ ?_
                  exact H466 e219 h220 r217 r218
                · intro o ho; cases ho
                  refine nx_r ?_
                  refine o_bsl (enc := encInt) (qs := [(0, (.int .i64 0)), (1, (.int .i64 t13))]) (cells := [(.int .i64 0), (.int .i64 t13)]) ([0, t13]) flelInt (by intro ρ h; simp only [List.map_toArray, List.map_cons, List.map_nil, h (.const (.int .i64 0)) _ rfl, h (.tmp 53) _ rfl]) rfl el103 zero3 rfl rfl rfl rfl rfl rfl ?_; intro v221
                  refine d_and (fun w m => m.pick [2, 3, 4] rfl) ?_
                  refine pk [1, 0, 2, 3, 4, 5] rfl ?_
                  refine re (E' := [(4, (.pointer (some ⟨b5, 0, none⟩))), (5, (.pointer (some ⟨b9, 0, none⟩))), (48, (.slice a132 l133 q134)), (50, (.slice a132 l133 q134)), (54, v221), (56, (.int .i64 r217))]) ⟨rfl, rfl, rfl, rfl, rfl, rfl, trivial⟩ ?_
                  exact H472 v221 r217 r218
              refine o_fad (dt 0 (fun w m => m.pick [1, 2, 3] rfl)) rfl rfl fld64_0 rfl ?_
              refine o_ldc (dt 1 (fun w m => m.pick [1, 2, 3] rfl)) (v := (.slice a132 l133 q134)) 0 rfl rfl rfl ty62 rfl ?_
              refine o_fad (dt 2 (fun w m => m.pick [1, 2, 3] rfl)) rfl rfl fld64_0 rfl ?_
              refine o_ldc (dt 3 (fun w m => m.pick [1, 2, 3] rfl)) (v := (.slice a132 l133 q134)) 0 rfl rfl rfl ty62 rfl ?_
              refine o_mv (dt 6 (fun w m => m.pick [1, 2, 3] rfl)) rfl rfl ?_
              refine o_mv (dt 8 (fun w m => m.pick [1, 2, 3] rfl)) rfl rfl ?_
              refine d_three (i := 4) (j := 7) (l := 9) rfl rfl rfl (by kernel_rfl) ?_ ?_ ?_
              · intro o ho; cases ho
                refine nx_l ?_
                refine o_idx m_op 4 rfl reads_dp rfl rfl rfl el62 ?_; intro e140 h141
                refine d_and (fun w m => m.pick [1, 2, 3] rfl) ?_
                refine pk [0, 1, 2, 3, 4] rfl ?_
                refine re (E' := [(4, (.pointer (some ⟨b5, 0, none⟩))), (5, (.pointer (some ⟨b9, 0, none⟩))), (48, (.slice a132 l133 q134)), (53, (.int .i64 t13)), (55, (.pointer (some ⟨b1, 0, none⟩))), (51, (pEl (.slice a132 l133 q134) 0 1 0))]) ⟨rfl, rfl, rfl, rfl, rfl, rfl, trivial⟩ ?_
                exact H467 e140 h141
              · intro o ho; cases ho
                refine nx_r ?_
                refine nx_l ?_
                refine o_bsl (enc := encInt) (qs := [(0, (.int .i64 0)), (1, (.int .i64 t13))]) (cells := [(.int .i64 0), (.int .i64 t13)]) ([0, t13]) flelInt (by intro ρ h; simp only [List.map_toArray, List.map_cons, List.map_nil, h (.const (.int .i64 0)) _ rfl, h (.tmp 53) _ rfl]) rfl el103 zero3 rfl rfl rfl rfl rfl rfl ?_; intro v195
                refine d_and (fun w m => m.pick [2, 3, 4] rfl) ?_
                refine pk [0, 1, 2, 3, 4, 5] rfl ?_
                refine re (E' := [(4, (.pointer (some ⟨b5, 0, none⟩))), (5, (.pointer (some ⟨b9, 0, none⟩))), (48, (.slice a132 l133 q134)), (50, (.slice a132 l133 q134)), (55, (.pointer (some ⟨b1, 0, none⟩))), (54, v195)]) ⟨rfl, rfl, rfl, rfl, rfl, rfl, trivial⟩ ?_
                exact H473 v195
              · intro o ho; cases ho
                refine nx_r ?_
                refine nx_r ?_
                refine o_call (vs := [(.pointer (some ⟨b1, 0, none⟩)), (.int .i64 2)]) (M0 := [cellCh b1 [v2, (.int .i64 r125)] 111]) Tryd.call65 rfl rfl (by intro w m h; exact (w_spec_l20Rd_pick (F := allB [cellCh b1 [v2, (.int .i64 r125)] 111] w) (r_0_b := r_0_b) (r_0_p := r125) (n_1 := 2) allB_ok m.given (m.rdM 2 rfl (reads_snap hv2)) h).mono (fun _ _ k => ret_free (fun r u => (fr_cons free_cell fr_nil)) k)) ?_; rintro ⟨r217, r218⟩ _
                refine d_and (fun w m => m.pick [1, 2, 3] rfl) ?_
                refine pk [0, 1, 2, 3, 4] rfl ?_
                refine re (E' := [(4, (.pointer (some ⟨b5, 0, none⟩))), (5, (.pointer (some ⟨b9, 0, none⟩))), (48, (.slice a132 l133 q134)), (50, (.slice a132 l133 q134)), (53, (.int .i64 t13)), (56, (.int .i64 r217))]) ⟨rfl, rfl, rfl, rfl, rfl, rfl, trivial⟩ ?_
                exact H474 r217 r218
            · rintro ⟨xs135, t138⟩ a w ⟨bb137, hE, hm⟩ h
              refine nx_of hE hm h ?_
              clear hE hm h
              refine b_norm ?_
              exact l_join (t138, xs135) (fun a w hE hm => ⟨(.slice a132 l133 q134), bb137, hE.sub ⟨rfl, rfl, trivial⟩, (hm.pick [1, 2, 3, 4, 0] rfl)⟩)
          · refine c_seq ?_
            refine c_region ?_
            refine o_eql st und3 rfl rfl rfl ?_
            refine o_as st rfl rfl ?_
            refine c_nil ?_
            refine l_then ?_
            refine c_cond rfl ?_ ?_
            · refine c_seq ?_
              refine c_region ?_
              refine o_fad st rfl rfl fld64_0 rfl ?_
              refine o_ldc st (v := v15) 1 rfl rfl rfl ty62 rfl ?_
              refine o_mv st rfl rfl ?_
              refine o_sub st rfl rfl rfl ?_; intro t222
              refine o_bld st (qs := [(1, (.int .i64 3))]) (cells := [(.slice none 0 0), (.int .i64 3), (.int .i64 0)]) (by intro ρ h; simp only [List.map_toArray, List.map_cons, List.map_nil, h (.const (.int .i64 3)) _ rfl]) rfl bld53 rfl ?_
              refine stw (o_bslD (M := []) (E' := dGRule) (qs := [(0, (.agg #[(.slice none 0 0), (.int .i64 3), (.int .i64 0)]))]) (cs := [(.slice none 0 0), (.int .i64 3), (.int .i64 0)]) (GRule.mk ([]) 3 0) (absorb_nil (fun w => ⟨_, rfl, Dp.nil⟩)) (by intro ρ h; simp only [List.map_toArray, List.map_cons, List.map_nil, h (.tmp 69) _ rfl]) rfl el69 zero53 rfl rfl rfl rfl ?_); intro bb224 v223
              refine o_idx st 5 rfl reads_dp rfl rfl rfl el62 ?_; intro e226 h227
              refine nx_dp 0 rfl ?_; rintro a228 l229 q230 rfl
              refine pk [5, 0, 1, 2, 3, 4] rfl ?_
              refine stw (o_stD (M := [dpCh dGRule 53 bb224 (.slice a228 l229 q230) ([(GRule.mk ([]) 3 0)])]) (y' := [(GRule.mk ([]) 3 0)]) rfl h227 (fun w B cz h => by obtain ⟨u, rfl, _⟩ := h; exact (absorb_one gives_dp (fun B w h => ⟨_, rfl, h⟩))) ty69 rfl rfl rfl rfl rfl ?_); intro bb231
              refine c_nil ?_
              refine l_then ?_
              refine c_region ?_
              refine o_fad st rfl rfl fld64_0 rfl ?_
              refine o_ldc st (v := v15) 2 rfl rfl rfl ty62 rfl ?_
              refine o_mv st rfl rfl ?_
              refine o_sub st rfl rfl rfl ?_; intro t233
              refine o_bld st (qs := [(1, (.int .i64 3)), (2, (.int .i64 t233))]) (cells := [(.slice none 0 0), (.int .i64 3), (.int .i64 t233)]) (by intro ρ h; simp only [List.map_toArray, List.map_cons, List.map_nil, h (.const (.int .i64 3)) _ rfl, h (.tmp 75) _ rfl]) rfl bld53 rfl ?_
              refine stw (o_bslD (M := []) (E' := dGRule) (qs := [(0, (.agg #[(.slice none 0 0), (.int .i64 3), (.int .i64 t233)]))]) (cs := [(.slice none 0 0), (.int .i64 3), (.int .i64 t233)]) (GRule.mk ([]) 3 t233) (absorb_nil (fun w => ⟨_, rfl, Dp.nil⟩)) (by intro ρ h; simp only [List.map_toArray, List.map_cons, List.map_nil, h (.tmp 76) _ rfl]) rfl el69 zero53 rfl rfl rfl rfl ?_); intro bb235 v234
              refine o_idx st 1 rfl reads_dp rfl rfl rfl el62 ?_; intro e237 h238
              refine nx_dp 0 rfl ?_; rintro a239 l240 q241 rfl
              refine pk [1, 0, 2, 3, 4, 5] rfl ?_
              refine stw (o_stD (M := [dpCh dGRule 53 bb235 (.slice a239 l240 q241) ([(GRule.mk ([]) 3 t233)])]) (y' := [(GRule.mk ([]) 3 t233)]) rfl h238 (fun w B cz h => by obtain ⟨u, rfl, _⟩ := h; exact (absorb_one gives_dp (fun B w h => ⟨_, rfl, h⟩))) ty69 rfl rfl rfl rfl rfl ?_); intro bb242
              refine c_nil ?_
              refine b_norm ?_
              exact l_join (r125, ((xs16.set (t222).toNat ([(GRule.mk ([]) 3 0)])).set (0 : Int).toNat ([(GRule.mk ([]) 3 t233)]))) (fun a w hE hm => ⟨v15, bb242, hE.sub ⟨rfl, rfl, trivial⟩, (hm.pick [1, 2, 3, 4, 0] rfl)⟩)
            · refine nx_dp 4 rfl ?_; rintro a244 l245 q246 rfl
              refine c_draw mixed 7 rfl [cellCh b9 [(.slice a244 l245 q246), (.bool (decide (r7 = 0)))] 64, cellCh b5 [(.slice none 0 0), (.bool false)] 64, snapCh w0 F] ?_
              refine o_fad (dt 0 (fun w m => m.pick [1, 2, 3] rfl)) rfl rfl fld64_0 rfl ?_
              refine o_ldc (dt 1 (fun w m => m.pick [1, 2, 3] rfl)) (v := (.slice a244 l245 q246)) 0 rfl rfl rfl ty62 rfl ?_
              refine o_mv (dt 2 (fun w m => m.pick [1, 2, 3] rfl)) rfl rfl ?_
              refine o_mv (dt 3 (fun w m => m.pick [1, 2, 3] rfl)) rfl rfl ?_
              refine d_one (i := 4) rfl (by kernel_rfl) (o_call (vs := [(.pointer (some ⟨b1, 0, none⟩)), (.int .i64 1), (.int .i64 t13), (.int .i64 1)]) (M0 := [cellCh b1 [v2, (.int .i64 r125)] 111]) Tryd.call95 rfl rfl (by intro w m h; exact (w_spec_l20Rules (F := allB [cellCh b1 [v2, (.int .i64 r125)] 111] w) (r_0_b := r_0_b) (r_0_p := r125) (first_1 := 1) (chains_2 := t13) (n_3 := 1) allB_ok m.given (m.rdM 2 rfl (reads_snap hv2)) h).mono (fun _ _ k => ret_free (fun r u => (fr_cons free_dp (fr_cons free_cell fr_nil))) k)) ?_); rintro ⟨r247, r251⟩ ⟨v248, bb249⟩
              refine d_and (fun w m => m.pick [2, 3, 4] rfl) ?_
              refine d_one (i := 5) rfl (by kernel_rfl) (o_idx m_op 5 rfl reads_dp rfl rfl rfl el62 ?_); intro e252 h253
              refine d_and (fun w m => m.pick [2, 3, 4] rfl) ?_
              refine nx_dp 0 rfl ?_; rintro a254 l255 q256 rfl
              refine pk [5, 0, 1, 2, 3, 4] rfl ?_
              refine d_one (i := 6) rfl (by kernel_rfl) (o_stD (M := [dpCh dGRule 53 bb249 (.slice a254 l255 q256) r247]) (y' := r247) rfl h253 (fun w B cz h => by obtain ⟨u, rfl, _⟩ := h; exact (absorb_one gives_dp (fun B w h => ⟨_, rfl, h⟩))) ty69 rfl rfl rfl rfl rfl ?_); intro bb257
              refine d_and (fun w m => m.pick [2, 3, 4] rfl) ?_
              refine d_done (by kernel_rfl) ?_
              refine b_norm ?_
              exact l_join (r251, (xs16.set (0 : Int).toNat r247)) (fun a w hE hm => ⟨(.slice a244 l245 q246), bb257, hE.sub ⟨rfl, rfl, trivial⟩, (hm.pick [1, 2, 3, 4, 0] rfl)⟩)
      · refine c_skip ?_
        exact l_join (r123, xs16) (fun a w hE hm => ⟨v15, bb18, hE.sub ⟨rfl, rfl, trivial⟩, (hm.pick [0, 1, 2, 3, 4] rfl)⟩)
    · rintro ⟨t319, xs321⟩ a w ⟨v320, bb323, hE, hm⟩ h
      refine nx_of hE hm h ?_
      clear hE hm h
      refine c_seq ?_
      refine c_region ?_
      refine o_ldc st (v := (.agg #[v320, (.bool (decide (r7 = 0)))])) 1 rfl rfl rfl ty64 rfl ?_
      refine nx_dp 4 rfl ?_; rintro a326 l327 q328 rfl
      refine stw (o_stc (cs' := [(.slice a326 l327 q328), (.bool (decide (r7 = 0)))]) 2 rfl rfl rfl ty64 rfl rfl rfl rfl ?_)
      refine c_nil ?_
      refine l_then ?_
      refine c_ret ?_
      exact l_end1 Tryd.results81 ((GRuleset.mk xs321 (decide (r7 = 0))), t319) ((.slice a326 l327 q328), bb323) (rv_c 2 rfl rfl ty64 rfl) (fun w m => NewCh.ofB m [4, 0] rfl)

set_option maxRecDepth 100000 in
set_option maxHeartbeats 8000000 in
theorem w_spec_DrawRulesetText {w0 : World} {F : Nat → Prop} {v1 : Value} {code_0 : (List UInt8)} {κ : GRuleset → Prop} (hF : ∀ b, F b → b < w0.heap.size ∧ ¬ feet [] b) (hv1 : Sl elU8 F w0 v1 code_0) (h : L_spec_DrawRulesetText code_0 κ) :
    Calls Tryd.prog 46 #[v1] w0 (Ret [] F w0 κ (fun (r : GRuleset) (u : Value × List Nat) => (.agg #[u.1, (.bool r.xAccept)])) (fun (r : GRuleset) (u : Value × List Nat) => [dpCh (dSl dGRule 53) 69 u.2 u.1 r.xChains])) := by
  refine enterS (args := [v1]) [] hF (Given.nil _ _) Tryd.func46 rfl Tryd.ntmps46 rfl h ?_
  clear h hF
  refine c_seq ?_
  refine c_region ?_
  refine stw (o_alloc rfl [(.slice none 0 0), (.bool false)] zero64 ?_); intro b3
  refine c_nil ?_
  refine l_then ?_
  refine c_seq ?_
  refine c_region ?_
  refine o_mv st rfl rfl ?_
  refine stw (o_callP (vs := [v1]) Tryd.call60 rfl rfl (by intro w m h; exact w_spec_l20Open (code_0 := code_0) fz_ok0 (m.roS 1 rfl hv1) h) ?_); rintro ⟨r7, r10⟩ ⟨b5, v8⟩
  refine stw (o_call (vs := [(.pointer (some ⟨b5, 0, none⟩)), (.int .i64 9)]) (M0 := [cellCh b5 [v8, (.int .i64 r10)] 111]) Tryd.call81 rfl rfl (by intro w m h; exact (w_spec_l20Ruleset (F := allB [cellCh b5 [v8, (.int .i64 r10)] 111] w) (r_0_b := r7) (r_0_p := r10) (n_1 := 9) allB_ok m.given (m.rdM 0 rfl reads_ro) h).mono (fun _ _ k => ret_free (fun r u => (fr_cons free_dp (fr_cons free_cell fr_nil))) k)) ?_); rintro ⟨r11, r15⟩ ⟨v12, bb13⟩
  refine nx_dp 0 rfl ?_; rintro a16 l17 q18 rfl
  refine stw (o_stc (cs' := [(.slice a16 l17 q18), (.bool r11.xAccept)]) 3 rfl rfl rfl ty64 rfl rfl rfl rfl ?_)
  refine c_nil ?_
  refine l_then ?_
  refine c_ret ?_
  exact l_end1 Tryd.results46 r11 ((.slice a16 l17 q18), bb13) (rv_c 3 rfl rfl ty64 rfl) (fun w m => NewCh.ofB m [0] rfl)

set_option maxRecDepth 100000 in
set_option maxHeartbeats 8000000 in
theorem w_impl_Test_text {w0 : World} {F : Nat → Prop} {t_0 : GTest} {κ : ByteArray → Prop} (hF : ∀ b, F b → b < w0.heap.size ∧ ¬ feet [] b) (hgl0 : Sl elGFieldShape F w0 (.slice (some ⟨0, 0, none⟩) 4 4) gl_impl_fieldShapes) (hgl1 : Tb F w0) (h : L_impl_Test_text t_0 κ) :
    Calls Tryd.prog 53 #[(.agg #[(.int .i64 t_0.xField), (.int .i64 t_0.xLo), (.int .i64 t_0.xHi), (.bool t_0.xNot)])] w0 (Ret [] F w0 κ (fun (r : ByteArray) (u : Unit) => (.string r)) (fun (r : ByteArray) (u : Unit) => [])) := by
  refine enterS (args := [(.agg #[(.int .i64 t_0.xField), (.int .i64 t_0.xLo), (.int .i64 t_0.xHi), (.bool t_0.xNot)])]) [] hF (Given.nil _ _) Tryd.func53 rfl Tryd.ntmps53 rfl h ?_
  clear h hF
  refine c_seq ?_
  refine c_region ?_
  refine stw (o_box rfl rfl [(.int .i64 t_0.xField), (.int .i64 t_0.xLo), (.int .i64 t_0.xHi), (.bool t_0.xNot)] rfl ?_); intro b1
  refine o_as st rfl rfl ?_
  refine c_nil ?_
  refine l_then ?_
  refine c_seq ?_
  refine c_draw mixed 11 rfl [cellCh b1 [(.int .i64 t_0.xField), (.int .i64 t_0.xLo), (.int .i64 t_0.xHi), (.bool t_0.xNot)] 25, snapCh w0 F] ?_
  refine o_fad (dt 0 (fun _ m => m)) rfl rfl fld25_0 rfl ?_
  refine o_ldc (dt 1 (fun _ m => m)) (v := (.int .i64 t_0.xField)) 0 rfl rfl rfl ty3 rfl ?_
  refine o_ixa (dt 2 (fun _ m => m)) 1 rfl (reads_snap hgl0) rfl rfl rfl arr107 ?_; intro e3 h4
  refine o_fadS (dt 3 (fun _ m => m)) 1 rfl (reads_snap hgl0) h4 rfl rfl fld106_0 rfl ?_
  refine o_lds (dt 4 (fun _ m => m)) (enc := encGFieldShape) (u := (.string e3.xName)) 1 rfl (reads_snap hgl0) flelGFieldShape rfl h4 rfl rfl ty9 rfl ?_
  refine o_cat (dt 5 (fun _ m => m)) rfl rfl rfl ?_; intro s5
  refine o_fad (dt 6 (fun _ m => m)) rfl rfl fld25_1 rfl ?_
  refine o_ldc (dt 7 (fun _ m => m)) (v := (.int .i64 t_0.xLo)) 0 rfl rfl rfl ty3 rfl ?_
  refine d_one (i := 8) rfl (by kernel_rfl) (o_callP (vs := [(.int .i64 t_0.xLo)]) Tryd.call61 rfl rfl (by intro w m h; exact w_lib_Itoa (n_0 := t_0.xLo) (hgl1.of (m.get (i := 1) rfl)) h) ?_); rintro r6 _
  refine d_and (fun _ m => m) ?_
  refine o_cat (dt 9 (fun _ m => m)) rfl rfl rfl ?_; intro s7
  refine o_as (dt 10 (fun _ m => m)) rfl rfl ?_
  refine d_done (by kernel_rfl) ?_
  refine l_then ?_
  refine c_join (σ := ByteArray) (fun (t69 : ByteArray) (a : Act) (w : World) => Has 30 [(1, (.pointer (some ⟨b1, 0, none⟩))), (3, (.string t69))] a ∧ Mem (gB F [] w0) (feet []) w0 [cellCh b1 [(.int .i64 t_0.xField), (.int .i64 t_0.xLo), (.int .i64 t_0.xHi), (.bool t_0.xNot)] 25, snapCh w0 F] w) ?_ ?_
  · intro k70
    refine c_seq ?_
    refine c_region ?_
    refine o_fad st rfl rfl fld25_3 rfl ?_
    refine o_ldc st (v := (.bool t_0.xNot)) 0 rfl rfl rfl ty4 rfl ?_
    refine c_nil ?_
    refine l_then ?_
    refine c_cond rfl ?_ ?_
    · refine c_region ?_
      refine o_mv st rfl rfl ?_
      refine o_cat st rfl rfl rfl ?_; intro s8
      refine o_as st rfl rfl ?_
      refine c_nil ?_
      exact l_join s8 (fun a w hE hm => ⟨hE.sub ⟨rfl, rfl, trivial⟩, (hm.pick [0, 1] rfl)⟩)
    · refine c_skip ?_
      exact l_join s7 (fun a w hE hm => ⟨hE.sub ⟨rfl, rfl, trivial⟩, (hm.pick [0, 1] rfl)⟩)
  · rintro t69 a w ⟨hE, hm⟩ h
    refine nx_of hE hm h ?_
    clear hE hm h
    refine c_join (σ := ByteArray) (fun (t134 : ByteArray) (a : Act) (w : World) => Has 30 [(3, (.string t134))] a ∧ Mem (gB F [] w0) (feet []) w0 [snapCh w0 F] w) ?_ ?_
    · intro k135
      refine c_seq ?_
      refine c_region ?_
      refine o_fad st rfl rfl fld25_2 rfl ?_
      refine o_ldc st (v := (.int .i64 t_0.xHi)) 0 rfl rfl rfl ty3 rfl ?_
      refine o_fad st rfl rfl fld25_1 rfl ?_
      refine o_ldc st (v := (.int .i64 t_0.xLo)) 0 rfl rfl rfl ty3 rfl ?_
      refine o_neq st und3 rfl rfl rfl ?_
      refine c_nil ?_
      refine l_then ?_
      refine c_cond rfl ?_ ?_
      · refine c_region ?_
        refine o_mv st rfl rfl ?_
        refine o_fad st rfl rfl fld25_2 rfl ?_
        refine o_ldc st (v := (.int .i64 t_0.xHi)) 0 rfl rfl rfl ty3 rfl ?_
        refine stw (o_callP (vs := [(.int .i64 t_0.xHi)]) Tryd.call61 rfl rfl (by intro w m h; exact w_lib_Itoa (n_0 := t_0.xHi) (hgl1.of (m.get (i := 1) rfl)) h) ?_); rintro r71 _
        refine o_cat st rfl rfl rfl ?_; intro s72
        refine o_cat st rfl rfl rfl ?_; intro s73
        refine o_as st rfl rfl ?_
        refine c_nil ?_
        exact l_join s73 (fun a w hE hm => ⟨hE.sub ⟨rfl, trivial⟩, (hm.pick [1] rfl)⟩)
      · refine c_skip ?_
        exact l_join t69 (fun a w hE hm => ⟨hE.sub ⟨rfl, trivial⟩, (hm.pick [1] rfl)⟩)
    · rintro t134 a w ⟨hE, hm⟩ h
      refine nx_of hE hm h ?_
      clear hE hm h
      refine c_seq ?_
      refine c_region ?_
      refine o_mv st rfl rfl ?_
      refine o_as st rfl rfl ?_
      refine c_nil ?_
      refine l_then ?_
      refine c_ret ?_
      exact l_end1 Tryd.results53 t134 () (rv_t rfl) (fun _ _ => NewCh.nil _ _ _ _)

set_option maxRecDepth 100000 in
set_option maxHeartbeats 8000000 in
theorem w_impl_actionOf {w0 : World} {F : Nat → Prop} {v1 : Value} {r_0 : GRule} {κ : IAction → Prop} (hF : ∀ b, F b → b < w0.heap.size ∧ ¬ feet [] b) (hv1 : Sl elGTest F w0 v1 r_0.xTests) (h : L_impl_actionOf r_0 κ) :
    Calls Tryd.prog 93 #[(.agg #[v1, (.int .i64 r_0.xAction), (.int .i64 r_0.xChain)])] w0 (Ret [] F w0 κ (fun (r : IAction) (u : Unit) => (ivIAction r)) (fun (r : IAction) (u : Unit) => [])) := by
  refine enterS (args := [(.agg #[v1, (.int .i64 r_0.xAction), (.int .i64 r_0.xChain)])]) [] hF (Given.nil _ _) Tryd.func93 rfl Tryd.ntmps93 rfl h ?_
  clear h hF
  refine c_seq ?_
  refine c_region ?_
  obtain ⟨a3, l4, q5, hs_⟩ := sl_val hv1; subst hs_
  refine stw (o_box rfl rfl [(.slice a3 l4 q5), (.int .i64 r_0.xAction), (.int .i64 r_0.xChain)] rfl ?_); intro b6
  refine o_as st rfl rfl ?_
  refine c_nil ?_
  refine l_then ?_
  refine c_seq ?_
  refine c_seq ?_
  refine c_region ?_
  refine o_fad st rfl rfl fld53_1 rfl ?_
  refine o_ldc st (v := (.int .i64 r_0.xAction)) 0 rfl rfl rfl ty3 rfl ?_
  refine c_nil ?_
  refine l_then ?_
  refine c_block ?_
  refine c_seq ?_
  refine c_region ?_
  refine o_eql st und3 rfl rfl rfl ?_
  refine o_as st rfl rfl ?_
  refine c_nil ?_
  refine l_then ?_
  refine c_cond rfl ?_ ?_
  · refine c_seq ?_
    refine c_region ?_
    refine o_bld st (qs := [(0, (.bool true))]) (cells := [(.bool true)]) (by intro ρ h; simp only [List.map_toArray, List.map_cons, List.map_nil, h (.const (.bool true)) _ rfl]) rfl bld123 rfl ?_
    refine o_mki st (u := (ivIAction (IAction.kDeciding (GDeciding.mk true)))) mki123 rfl rfl rfl ?_
    refine o_as st rfl rfl ?_
    refine c_nil ?_
    refine l_then ?_
    refine c_ret ?_
    refine b_ret ?_
    refine l_ret ?_
    exact l_end1 Tryd.results93 (IAction.kDeciding (GDeciding.mk true)) () (rv_t rfl) (fun _ _ => NewCh.nil _ _ _ _)
  · refine c_seq ?_
    refine c_region ?_
    refine o_eql st und3 rfl rfl rfl ?_
    refine o_as st rfl rfl ?_
    refine c_nil ?_
    refine l_then ?_
    refine c_cond rfl ?_ ?_
    · refine c_seq ?_
      refine c_region ?_
      refine o_bld st (qs := [(0, (.bool false))]) (cells := [(.bool false)]) (by intro ρ h; simp only [List.map_toArray, List.map_cons, List.map_nil, h (.const (.bool false)) _ rfl]) rfl bld123 rfl ?_
      refine o_mki st (u := (ivIAction (IAction.kDeciding (GDeciding.mk false)))) mki123 rfl rfl rfl ?_
      refine o_as st rfl rfl ?_
      refine c_nil ?_
      refine l_then ?_
      refine c_ret ?_
      refine b_ret ?_
      refine l_ret ?_
      exact l_end1 Tryd.results93 (IAction.kDeciding (GDeciding.mk false)) () (rv_t rfl) (fun _ _ => NewCh.nil _ _ _ _)
    · refine c_seq ?_
      refine c_region ?_
      refine o_eql st und3 rfl rfl rfl ?_
      refine o_as st rfl rfl ?_
      refine c_nil ?_
      refine l_then ?_
      refine c_cond rfl ?_ ?_
      · refine c_seq ?_
        refine c_region ?_
        refine o_fad st rfl rfl fld53_2 rfl ?_
        refine o_ldc st (v := (.int .i64 r_0.xChain)) 0 rfl rfl rfl ty3 rfl ?_
        refine o_bld st (qs := [(0, (.int .i64 r_0.xChain))]) (cells := [(.int .i64 r_0.xChain)]) (by intro ρ h; simp only [List.map_toArray, List.map_cons, List.map_nil, h (.tmp 16) _ rfl]) rfl bld125 rfl ?_
        refine o_mki st (u := (ivIAction (IAction.kCalling (GCalling.mk r_0.xChain)))) mki125 rfl rfl rfl ?_
        refine o_as st rfl rfl ?_
        refine c_nil ?_
        refine l_then ?_
        refine c_ret ?_
        refine b_ret ?_
        refine l_ret ?_
        exact l_end1 Tryd.results93 (IAction.kCalling (GCalling.mk r_0.xChain)) () (rv_t rfl) (fun _ _ => NewCh.nil _ _ _ _)
      · refine c_seq ?_
        refine c_region ?_
        refine o_eql st und3 rfl rfl rfl ?_
        refine o_as st rfl rfl ?_
        refine c_nil ?_
        refine l_then ?_
        refine c_cond rfl ?_ ?_
        · refine c_seq ?_
          refine c_region ?_
          refine o_bld st (qs := []) (cells := []) (by intro ρ h; simp only [List.map_toArray, List.map_cons, List.map_nil]) rfl bld127 rfl ?_
          refine o_mki st (u := (ivIAction (IAction.kReturning (GReturning.mk )))) mki127 rfl rfl rfl ?_
          refine o_as st rfl rfl ?_
          refine c_nil ?_
          refine l_then ?_
          refine c_ret ?_
          refine b_ret ?_
          refine l_ret ?_
          exact l_end1 Tryd.results93 (IAction.kReturning (GReturning.mk )) () (rv_t rfl) (fun _ _ => NewCh.nil _ _ _ _)
        · refine c_skip ?_
          refine b_norm ?_
          refine l_then ?_
          refine c_seq ?_
          refine c_region ?_
          refine o_bld st (qs := []) (cells := []) (by intro ρ h; simp only [List.map_toArray, List.map_cons, List.map_nil]) rfl bld128 rfl ?_
          refine o_mki st (u := (ivIAction (IAction.kPassing (GPassing.mk )))) mki128 rfl rfl rfl ?_
          refine o_as st rfl rfl ?_
          refine c_nil ?_
          refine l_then ?_
          refine c_ret ?_
          exact l_end1 Tryd.results93 (IAction.kPassing (GPassing.mk )) () (rv_t rfl) (fun _ _ => NewCh.nil _ _ _ _)

set_option maxRecDepth 100000 in
set_option maxHeartbeats 8000000 in
theorem w_impl_deciding_word {w0 : World} {F : Nat → Prop} {d_0 : GDeciding} {κ : ByteArray → Prop} (hF : ∀ b, F b → b < w0.heap.size ∧ ¬ feet [] b) (h : L_impl_deciding_word d_0 κ) :
    Calls Tryd.prog 130 #[(.agg #[(.bool d_0.xAccept)])] w0 (Ret [] F w0 κ (fun (r : ByteArray) (u : Unit) => (.string r)) (fun (r : ByteArray) (u : Unit) => [])) := by
  refine enter0 (args := [(.agg #[(.bool d_0.xAccept)])]) [] hF (Given.nil _ _) Tryd.func130 rfl Tryd.ntmps130 rfl h ?_
  clear h hF
  refine c_seq ?_
  refine c_region ?_
  refine stw (o_box rfl rfl [(.bool d_0.xAccept)] rfl ?_); intro b1
  refine o_as st rfl rfl ?_
  refine c_nil ?_
  refine l_then ?_
  refine c_seq ?_
  refine c_seq ?_
  refine c_region ?_
  refine o_fad st rfl rfl fld123_0 rfl ?_
  refine o_ldc st (v := (.bool d_0.xAccept)) 0 rfl rfl rfl ty4 rfl ?_
  refine c_nil ?_
  refine l_then ?_
  refine c_cond rfl ?_ ?_
  · refine c_seq ?_
    refine c_region ?_
    refine o_as st rfl rfl ?_
    refine c_nil ?_
    refine l_then ?_
    refine c_ret ?_
    refine l_ret ?_
    exact l_end1 Tryd.results130 (ByteArray.mk #[97, 99, 99, 101, 112, 116]) () (rv_t rfl) (fun _ _ => NewCh.nil _ _ _ _)
  · refine c_skip ?_
    refine l_then ?_
    refine c_seq ?_
    refine c_region ?_
    refine o_as st rfl rfl ?_
    refine c_nil ?_
    refine l_then ?_
    refine c_ret ?_
    exact l_end1 Tryd.results130 (ByteArray.mk #[100, 114, 111, 112]) () (rv_t rfl) (fun _ _ => NewCh.nil _ _ _ _)

set_option maxRecDepth 100000 in
set_option maxHeartbeats 8000000 in
theorem w_impl_calling_word {w0 : World} {F : Nat → Prop} {a_0 : GCalling} {κ : ByteArray → Prop} (hF : ∀ b, F b → b < w0.heap.size ∧ ¬ feet [] b) (h : L_impl_calling_word a_0 κ) :
    Calls Tryd.prog 133 #[(.agg #[(.int .i64 a_0.xChain)])] w0 (Ret [] F w0 κ (fun (r : ByteArray) (u : Unit) => (.string r)) (fun (r : ByteArray) (u : Unit) => [])) := by
  refine enter0 (args := [(.agg #[(.int .i64 a_0.xChain)])]) [] hF (Given.nil _ _) Tryd.func133 rfl Tryd.ntmps133 rfl h ?_
  clear h hF
  refine c_seq ?_
  refine c_region ?_
  refine stw (o_box rfl rfl [(.int .i64 a_0.xChain)] rfl ?_); intro b1
  refine o_as st rfl rfl ?_
  refine c_nil ?_
  refine l_then ?_
  refine c_seq ?_
  refine c_region ?_
  refine o_as st rfl rfl ?_
  refine c_nil ?_
  refine l_then ?_
  refine c_ret ?_
  exact l_end1 Tryd.results133 (ByteArray.mk #[99, 97, 108, 108]) () (rv_t rfl) (fun _ _ => NewCh.nil _ _ _ _)

set_option maxRecDepth 100000 in
set_option maxHeartbeats 8000000 in
theorem w_impl_returning_word {w0 : World} {F : Nat → Prop} {a_0 : GReturning} {κ : ByteArray → Prop} (hF : ∀ b, F b → b < w0.heap.size ∧ ¬ feet [] b) (h : L_impl_returning_word a_0 κ) :
    Calls Tryd.prog 136 #[(.agg #[])] w0 (Ret [] F w0 κ (fun (r : ByteArray) (u : Unit) => (.string r)) (fun (r : ByteArray) (u : Unit) => [])) := by
  refine enter0 (args := [(.agg #[])]) [] hF (Given.nil _ _) Tryd.func136 rfl Tryd.ntmps136 rfl h ?_
  clear h hF
  refine c_seq ?_
  refine c_region ?_
  refine stw (o_box rfl rfl [] rfl ?_); intro b1
  refine o_as st rfl rfl ?_
  refine c_nil ?_
  refine l_then ?_
  refine c_seq ?_
  refine c_region ?_
  refine o_as st rfl rfl ?_
  refine c_nil ?_
  refine l_then ?_
  refine c_ret ?_
  exact l_end1 Tryd.results136 (ByteArray.mk #[114, 101, 116, 117, 114, 110]) () (rv_t rfl) (fun _ _ => NewCh.nil _ _ _ _)

set_option maxRecDepth 100000 in
set_option maxHeartbeats 8000000 in
theorem w_impl_passing_word {w0 : World} {F : Nat → Prop} {a_0 : GPassing} {κ : ByteArray → Prop} (hF : ∀ b, F b → b < w0.heap.size ∧ ¬ feet [] b) (h : L_impl_passing_word a_0 κ) :
    Calls Tryd.prog 139 #[(.agg #[])] w0 (Ret [] F w0 κ (fun (r : ByteArray) (u : Unit) => (.string r)) (fun (r : ByteArray) (u : Unit) => [])) := by
  refine enter0 (args := [(.agg #[])]) [] hF (Given.nil _ _) Tryd.func139 rfl Tryd.ntmps139 rfl h ?_
  clear h hF
  refine c_seq ?_
  refine c_region ?_
  refine stw (o_box rfl rfl [] rfl ?_); intro b1
  refine o_as st rfl rfl ?_
  refine c_nil ?_
  refine l_then ?_
  refine c_seq ?_
  refine c_region ?_
  refine o_as st rfl rfl ?_
  refine c_nil ?_
  refine l_then ?_
  refine c_ret ?_
  exact l_end1 Tryd.results139 (ByteArray.mk #[110, 111, 110, 101]) () (rv_t rfl) (fun _ _ => NewCh.nil _ _ _ _)

set_option maxRecDepth 100000 in
set_option maxHeartbeats 8000000 in
theorem w_impl_Rule_text {w0 : World} {F : Nat → Prop} {v1 : Value} {r_0 : GRule} {κ : ByteArray → Prop} (hF : ∀ b, F b → b < w0.heap.size ∧ ¬ feet [] b) (hv1 : Sl elGTest F w0 v1 r_0.xTests) (hgl0 : Sl elGFieldShape F w0 (.slice (some ⟨0, 0, none⟩) 4 4) gl_impl_fieldShapes) (hgl1 : Tb F w0) (h : L_impl_Rule_text r_0 κ) :
    Calls Tryd.prog 73 #[(.agg #[v1, (.int .i64 r_0.xAction), (.int .i64 r_0.xChain)])] w0 (Ret [] F w0 κ (fun (r : ByteArray) (u : Unit) => (.string r)) (fun (r : ByteArray) (u : Unit) => [])) := by
  refine enterS (args := [(.agg #[v1, (.int .i64 r_0.xAction), (.int .i64 r_0.xChain)])]) [] hF (Given.nil _ _) Tryd.func73 rfl Tryd.ntmps73 rfl h ?_
  clear h hF
  refine c_seq ?_
  refine c_region ?_
  obtain ⟨a3, l4, q5, hs_⟩ := sl_val hv1; subst hs_
  refine stw (o_box rfl rfl [(.slice a3 l4 q5), (.int .i64 r_0.xAction), (.int .i64 r_0.xChain)] rfl ?_); intro b6
  refine o_as st rfl rfl ?_
  refine c_nil ?_
  refine l_then ?_
  refine c_seq ?_
  refine c_region ?_
  refine o_ldc st (v := (.agg #[(.slice a3 l4 q5), (.int .i64 r_0.xAction), (.int .i64 r_0.xChain)])) 0 rfl rfl rfl ty53 rfl ?_
  refine stw (o_callP (vs := [(.agg #[(.slice a3 l4 q5), (.int .i64 r_0.xAction), (.int .i64 r_0.xChain)])]) Tryd.call93 rfl rfl (by intro w m h; exact (w_impl_actionOf (F := allB [] w) (r_0 := r_0) allB_ok (m.rd0 1 rfl (reads_snap hv1)) h).mono (fun _ _ k => ret_free (fun r u => fr_nil) k)) ?_); rintro r8 _
  rcases r8 with x9 | x10 | x11 | x12
  · dsimp only [IAction.casesW]
    refine stw (o_callXP rfl (runs_inv rfl rfl (fun w => meth123_word _ w) Tryd.call130) rfl (by intro w m h; exact (w_impl_deciding_word (F := allB [] w) (d_0 := x9) allB_ok h).mono (fun _ _ k => ret_free (fun r u => fr_nil) k)) ?_); rintro r13 _
    refine o_as st rfl rfl ?_
    refine c_nil ?_
    refine l_then ?_
    refine c_join (σ := ByteArray) (fun (t77 : ByteArray) (a : Act) (w : World) => Has 32 [(1, (.pointer (some ⟨b6, 0, none⟩))), (3, (.string t77))] a ∧ Mem (gB F [] w0) (feet []) w0 [cellCh b6 [(.slice a3 l4 q5), (.int .i64 r_0.xAction), (.int .i64 r_0.xChain)] 53, snapCh w0 F] w) ?_ ?_
    · intro k78
      refine c_seq ?_
      refine c_region ?_
      refine o_fad st rfl rfl fld53_1 rfl ?_
      refine o_ldc st (v := (.int .i64 r_0.xAction)) 0 rfl rfl rfl ty3 rfl ?_
      refine o_eql st und3 rfl rfl rfl ?_
      refine c_nil ?_
      refine l_then ?_
      refine c_cond rfl ?_ ?_
      · refine c_region ?_
        refine o_mv st rfl rfl ?_
        refine o_fad st rfl rfl fld53_2 rfl ?_
        refine o_ldc st (v := (.int .i64 r_0.xChain)) 0 rfl rfl rfl ty3 rfl ?_
        refine stw (o_callP (vs := [(.int .i64 r_0.xChain)]) Tryd.call61 rfl rfl (by intro w m h; exact w_lib_Itoa (n_0 := r_0.xChain) (hgl1.of (m.get (i := 1) rfl)) h) ?_); rintro r14 _
        refine o_cat st rfl rfl rfl ?_; intro s15
        refine o_cat st rfl rfl rfl ?_; intro s16
        refine o_as st rfl rfl ?_
        refine c_nil ?_
        exact l_join s16 (fun a w hE hm => ⟨hE.sub ⟨rfl, rfl, trivial⟩, (hm.pick [0, 1] rfl)⟩)
      · refine c_skip ?_
        exact l_join r13 (fun a w hE hm => ⟨hE.sub ⟨rfl, rfl, trivial⟩, (hm.pick [0, 1] rfl)⟩)
    · rintro t77 a w ⟨hE, hm⟩ h
      refine nx_of hE hm h ?_
      clear hE hm h
      refine c_seq ?_
      refine c_seq ?_
      refine c_region ?_
      refine o_fad st rfl rfl fld53_0 rfl ?_
      refine o_ldc st (v := (.slice a3 l4 q5)) 0 rfl rfl rfl ty51 rfl ?_
      refine o_len st el51 1 rfl (reads_snap hv1) rfl rfl ?_
      refine o_mv st rfl rfl ?_
      refine c_nil ?_
      refine l_then ?_
      refine c_block ?_
      refine c_loop (σ := (ByteArray × Int)) (fun ((t79, t80) : (ByteArray × Int)) (a : Act) (w : World) => Has 32 [(3, (.string t79)), (19, (.slice a3 l4 q5)), (20, (.int .i64 (r_0.xTests.length : Int))), (21, (.int .i64 t80))] a ∧ Mem (gB F [] w0) (feet []) w0 [snapCh w0 F] w) (fun a w hE hm => ⟨hE.sub ⟨rfl, rfl, rfl, rfl, trivial⟩, (hm.pick [1] rfl)⟩) ?_
      rintro nx81 ⟨t79, t80⟩ a w ⟨hE, hm⟩ h
      refine nx_of hE hm h ?_
      clear hE hm h
      refine c_seq ?_
      refine c_region ?_
      refine o_lss st rfl rfl rfl ?_
      refine c_nil ?_
      refine l_then ?_
      refine c_seq ?_
      refine c_cond rfl ?_ ?_
      · refine c_skip ?_
        refine l_then ?_
        refine c_seq ?_
        refine c_block ?_
        refine c_seq ?_
        refine c_region ?_
        refine o_idx st 0 rfl (reads_snap hv1) rfl rfl rfl el51 ?_; intro e82 h83
        refine o_lds st (enc := encGTest) (u := (.agg #[(.int .i64 e82.xField), (.int .i64 e82.xLo), (.int .i64 e82.xHi), (.bool e82.xNot)])) 0 rfl (reads_snap hv1) flelGTest rfl h83 rfl rfl ty25 rfl ?_
        refine stw (o_alloc rfl [(.int .i64 0), (.int .i64 0), (.int .i64 0), (.bool false)] zero25 ?_); intro b84
        refine stw (o_stc (cs' := [(.int .i64 e82.xField), (.int .i64 e82.xLo), (.int .i64 e82.xHi), (.bool e82.xNot)]) 0 rfl rfl rfl ty25 rfl rfl rfl rfl ?_)
        refine c_nil ?_
        refine l_then ?_
        refine c_region ?_
        refine o_mv st rfl rfl ?_
        refine o_ldc st (v := (.agg #[(.int .i64 e82.xField), (.int .i64 e82.xLo), (.int .i64 e82.xHi), (.bool e82.xNot)])) 0 rfl rfl rfl ty25 rfl ?_
        refine stw (o_callP (vs := [(.agg #[(.int .i64 e82.xField), (.int .i64 e82.xLo), (.int .i64 e82.xHi), (.bool e82.xNot)])]) Tryd.call53 rfl rfl (by intro w m h; exact (w_impl_Test_text (F := allB [] w) (t_0 := e82) allB_ok (m.rd0 1 rfl (reads_snap hgl0)) ((hgl1.of (m.get (i := 1) rfl)).mono fz_ok0) h).mono (fun _ _ k => ret_free (fun r u => fr_nil) k)) ?_); rintro r86 _
        refine o_cat st rfl rfl rfl ?_; intro s87
        refine o_cat st rfl rfl rfl ?_; intro s88
        refine o_as st rfl rfl ?_
        refine c_nil ?_
        refine b_norm ?_
        refine l_then ?_
        refine c_region ?_
        refine o_add st rfl rfl rfl ?_; intro t89
        refine o_mv st rfl rfl ?_
        refine c_nil ?_
        exact l_join (s88, t89) (fun a w hE hm => ⟨hE.sub ⟨rfl, rfl, rfl, rfl, trivial⟩, (hm.pick [1] rfl)⟩)
      · refine c_exit ?_
        refine l_exit ?_
        refine l_exit ?_
        refine b_exit ?_
        refine l_then ?_
        refine c_seq ?_
        refine c_region ?_
        refine o_mv st rfl rfl ?_
        refine o_as st rfl rfl ?_
        refine c_nil ?_
        refine l_then ?_
        refine c_ret ?_
        exact l_end1 Tryd.results73 t79 () (rv_t rfl) (fun _ _ => NewCh.nil _ _ _ _)
  · dsimp only [IAction.casesW]
    refine stw (o_callXP rfl (runs_inv rfl rfl (fun w => meth125_word _ w) Tryd.call133) rfl (by intro w m h; exact (w_impl_calling_word (F := allB [] w) (a_0 := x10) allB_ok h).mono (fun _ _ k => ret_free (fun r u => fr_nil) k)) ?_); rintro r90 _
    refine o_as st rfl rfl ?_
    refine c_nil ?_
    refine l_then ?_
    refine c_join (σ := ByteArray) (fun (t154 : ByteArray) (a : Act) (w : World) => Has 32 [(1, (.pointer (some ⟨b6, 0, none⟩))), (3, (.string t154))] a ∧ Mem (gB F [] w0) (feet []) w0 [cellCh b6 [(.slice a3 l4 q5), (.int .i64 r_0.xAction), (.int .i64 r_0.xChain)] 53, snapCh w0 F] w) ?_ ?_
    · intro k155
      refine c_seq ?_
      refine c_region ?_
      refine o_fad st rfl rfl fld53_1 rfl ?_
      refine o_ldc st (v := (.int .i64 r_0.xAction)) 0 rfl rfl rfl ty3 rfl ?_
      refine o_eql st und3 rfl rfl rfl ?_
      refine c_nil ?_
      refine l_then ?_
      refine c_cond rfl ?_ ?_
      · refine c_region ?_
        refine o_mv st rfl rfl ?_
        refine o_fad st rfl rfl fld53_2 rfl ?_
        refine o_ldc st (v := (.int .i64 r_0.xChain)) 0 rfl rfl rfl ty3 rfl ?_
        refine stw (o_callP (vs := [(.int .i64 r_0.xChain)]) Tryd.call61 rfl rfl (by intro w m h; exact w_lib_Itoa (n_0 := r_0.xChain) (hgl1.of (m.get (i := 1) rfl)) h) ?_); rintro r91 _
        refine o_cat st rfl rfl rfl ?_; intro s92
        refine o_cat st rfl rfl rfl ?_; intro s93
        refine o_as st rfl rfl ?_
        refine c_nil ?_
        exact l_join s93 (fun a w hE hm => ⟨hE.sub ⟨rfl, rfl, trivial⟩, (hm.pick [0, 1] rfl)⟩)
      · refine c_skip ?_
        exact l_join r90 (fun a w hE hm => ⟨hE.sub ⟨rfl, rfl, trivial⟩, (hm.pick [0, 1] rfl)⟩)
    · rintro t154 a w ⟨hE, hm⟩ h
      refine nx_of hE hm h ?_
      clear hE hm h
      refine c_seq ?_
      refine c_seq ?_
      refine c_region ?_
      refine o_fad st rfl rfl fld53_0 rfl ?_
      refine o_ldc st (v := (.slice a3 l4 q5)) 0 rfl rfl rfl ty51 rfl ?_
      refine o_len st el51 1 rfl (reads_snap hv1) rfl rfl ?_
      refine o_mv st rfl rfl ?_
      refine c_nil ?_
      refine l_then ?_
      refine c_block ?_
      refine c_loop (σ := (ByteArray × Int)) (fun ((t156, t157) : (ByteArray × Int)) (a : Act) (w : World) => Has 32 [(3, (.string t156)), (19, (.slice a3 l4 q5)), (20, (.int .i64 (r_0.xTests.length : Int))), (21, (.int .i64 t157))] a ∧ Mem (gB F [] w0) (feet []) w0 [snapCh w0 F] w) (fun a w hE hm => ⟨hE.sub ⟨rfl, rfl, rfl, rfl, trivial⟩, (hm.pick [1] rfl)⟩) ?_
      rintro nx158 ⟨t156, t157⟩ a w ⟨hE, hm⟩ h
      refine nx_of hE hm h ?_
      clear hE hm h
      refine c_seq ?_
      refine c_region ?_
      refine o_lss st rfl rfl rfl ?_
      refine c_nil ?_
      refine l_then ?_
      refine c_seq ?_
      refine c_cond rfl ?_ ?_
      · refine c_skip ?_
        refine l_then ?_
        refine c_seq ?_
        refine c_block ?_
        refine c_seq ?_
        refine c_region ?_
        refine o_idx st 0 rfl (reads_snap hv1) rfl rfl rfl el51 ?_; intro e159 h160
        refine o_lds st (enc := encGTest) (u := (.agg #[(.int .i64 e159.xField), (.int .i64 e159.xLo), (.int .i64 e159.xHi), (.bool e159.xNot)])) 0 rfl (reads_snap hv1) flelGTest rfl h160 rfl rfl ty25 rfl ?_
        refine stw (o_alloc rfl [(.int .i64 0), (.int .i64 0), (.int .i64 0), (.bool false)] zero25 ?_); intro b161
        refine stw (o_stc (cs' := [(.int .i64 e159.xField), (.int .i64 e159.xLo), (.int .i64 e159.xHi), (.bool e159.xNot)]) 0 rfl rfl rfl ty25 rfl rfl rfl rfl ?_)
        refine c_nil ?_
        refine l_then ?_
        refine c_region ?_
        refine o_mv st rfl rfl ?_
        refine o_ldc st (v := (.agg #[(.int .i64 e159.xField), (.int .i64 e159.xLo), (.int .i64 e159.xHi), (.bool e159.xNot)])) 0 rfl rfl rfl ty25 rfl ?_
        refine stw (o_callP (vs := [(.agg #[(.int .i64 e159.xField), (.int .i64 e159.xLo), (.int .i64 e159.xHi), (.bool e159.xNot)])]) Tryd.call53 rfl rfl (by intro w m h; exact (w_impl_Test_text (F := allB [] w) (t_0 := e159) allB_ok (m.rd0 1 rfl (reads_snap hgl0)) ((hgl1.of (m.get (i := 1) rfl)).mono fz_ok0) h).mono (fun _ _ k => ret_free (fun r u => fr_nil) k)) ?_); rintro r163 _
        refine o_cat st rfl rfl rfl ?_; intro s164
        refine o_cat st rfl rfl rfl ?_; intro s165
        refine o_as st rfl rfl ?_
        refine c_nil ?_
        refine b_norm ?_
        refine l_then ?_
        refine c_region ?_
        refine o_add st rfl rfl rfl ?_; intro t166
        refine o_mv st rfl rfl ?_
        refine c_nil ?_
        exact l_join (s165, t166) (fun a w hE hm => ⟨hE.sub ⟨rfl, rfl, rfl, rfl, trivial⟩, (hm.pick [1] rfl)⟩)
      · refine c_exit ?_
        refine l_exit ?_
        refine l_exit ?_
        refine b_exit ?_
        refine l_then ?_
        refine c_seq ?_
        refine c_region ?_
        refine o_mv st rfl rfl ?_
        refine o_as st rfl rfl ?_
        refine c_nil ?_
        refine l_then ?_
        refine c_ret ?_
        exact l_end1 Tryd.results73 t156 () (rv_t rfl) (fun _ _ => NewCh.nil _ _ _ _)
  · dsimp only [IAction.casesW]
    refine stw (o_callXP rfl (runs_inv rfl rfl (fun w => meth127_word _ w) Tryd.call136) rfl (by intro w m h; exact (w_impl_returning_word (F := allB [] w) (a_0 := (GReturning.mk )) allB_ok h).mono (fun _ _ k => ret_free (fun r u => fr_nil) k)) ?_); rintro r167 _
    refine o_as st rfl rfl ?_
    refine c_nil ?_
    refine l_then ?_
    refine c_join (σ := ByteArray) (fun (t231 : ByteArray) (a : Act) (w : World) => Has 32 [(1, (.pointer (some ⟨b6, 0, none⟩))), (3, (.string t231))] a ∧ Mem (gB F [] w0) (feet []) w0 [cellCh b6 [(.slice a3 l4 q5), (.int .i64 r_0.xAction), (.int .i64 r_0.xChain)] 53, snapCh w0 F] w) ?_ ?_
    · intro k232
      refine c_seq ?_
      refine c_region ?_
      refine o_fad st rfl rfl fld53_1 rfl ?_
      refine o_ldc st (v := (.int .i64 r_0.xAction)) 0 rfl rfl rfl ty3 rfl ?_
      refine o_eql st und3 rfl rfl rfl ?_
      refine c_nil ?_
      refine l_then ?_
      refine c_cond rfl ?_ ?_
      · refine c_region ?_
        refine o_mv st rfl rfl ?_
        refine o_fad st rfl rfl fld53_2 rfl ?_
        refine o_ldc st (v := (.int .i64 r_0.xChain)) 0 rfl rfl rfl ty3 rfl ?_
        refine stw (o_callP (vs := [(.int .i64 r_0.xChain)]) Tryd.call61 rfl rfl (by intro w m h; exact w_lib_Itoa (n_0 := r_0.xChain) (hgl1.of (m.get (i := 1) rfl)) h) ?_); rintro r168 _
        refine o_cat st rfl rfl rfl ?_; intro s169
        refine o_cat st rfl rfl rfl ?_; intro s170
        refine o_as st rfl rfl ?_
        refine c_nil ?_
        exact l_join s170 (fun a w hE hm => ⟨hE.sub ⟨rfl, rfl, trivial⟩, (hm.pick [0, 1] rfl)⟩)
      · refine c_skip ?_
        exact l_join r167 (fun a w hE hm => ⟨hE.sub ⟨rfl, rfl, trivial⟩, (hm.pick [0, 1] rfl)⟩)
    · rintro t231 a w ⟨hE, hm⟩ h
      refine nx_of hE hm h ?_
      clear hE hm h
      refine c_seq ?_
      refine c_seq ?_
      refine c_region ?_
      refine o_fad st rfl rfl fld53_0 rfl ?_
      refine o_ldc st (v := (.slice a3 l4 q5)) 0 rfl rfl rfl ty51 rfl ?_
      refine o_len st el51 1 rfl (reads_snap hv1) rfl rfl ?_
      refine o_mv st rfl rfl ?_
      refine c_nil ?_
      refine l_then ?_
      refine c_block ?_
      refine c_loop (σ := (ByteArray × Int)) (fun ((t233, t234) : (ByteArray × Int)) (a : Act) (w : World) => Has 32 [(3, (.string t233)), (19, (.slice a3 l4 q5)), (20, (.int .i64 (r_0.xTests.length : Int))), (21, (.int .i64 t234))] a ∧ Mem (gB F [] w0) (feet []) w0 [snapCh w0 F] w) (fun a w hE hm => ⟨hE.sub ⟨rfl, rfl, rfl, rfl, trivial⟩, (hm.pick [1] rfl)⟩) ?_
      rintro nx235 ⟨t233, t234⟩ a w ⟨hE, hm⟩ h
      refine nx_of hE hm h ?_
      clear hE hm h
      refine c_seq ?_
      refine c_region ?_
      refine o_lss st rfl rfl rfl ?_
      refine c_nil ?_
      refine l_then ?_
      refine c_seq ?_
      refine c_cond rfl ?_ ?_
      · refine c_skip ?_
        refine l_then ?_
        refine c_seq ?_
        refine c_block ?_
        refine c_seq ?_
        refine c_region ?_
        refine o_idx st 0 rfl (reads_snap hv1) rfl rfl rfl el51 ?_; intro e236 h237
        refine o_lds st (enc := encGTest) (u := (.agg #[(.int .i64 e236.xField), (.int .i64 e236.xLo), (.int .i64 e236.xHi), (.bool e236.xNot)])) 0 rfl (reads_snap hv1) flelGTest rfl h237 rfl rfl ty25 rfl ?_
        refine stw (o_alloc rfl [(.int .i64 0), (.int .i64 0), (.int .i64 0), (.bool false)] zero25 ?_); intro b238
        refine stw (o_stc (cs' := [(.int .i64 e236.xField), (.int .i64 e236.xLo), (.int .i64 e236.xHi), (.bool e236.xNot)]) 0 rfl rfl rfl ty25 rfl rfl rfl rfl ?_)
        refine c_nil ?_
        refine l_then ?_
        refine c_region ?_
        refine o_mv st rfl rfl ?_
        refine o_ldc st (v := (.agg #[(.int .i64 e236.xField), (.int .i64 e236.xLo), (.int .i64 e236.xHi), (.bool e236.xNot)])) 0 rfl rfl rfl ty25 rfl ?_
        refine stw (o_callP (vs := [(.agg #[(.int .i64 e236.xField), (.int .i64 e236.xLo), (.int .i64 e236.xHi), (.bool e236.xNot)])]) Tryd.call53 rfl rfl (by intro w m h; exact (w_impl_Test_text (F := allB [] w) (t_0 := e236) allB_ok (m.rd0 1 rfl (reads_snap hgl0)) ((hgl1.of (m.get (i := 1) rfl)).mono fz_ok0) h).mono (fun _ _ k => ret_free (fun r u => fr_nil) k)) ?_); rintro r240 _
        refine o_cat st rfl rfl rfl ?_; intro s241
        refine o_cat st rfl rfl rfl ?_; intro s242
        refine o_as st rfl rfl ?_
        refine c_nil ?_
        refine b_norm ?_
        refine l_then ?_
        refine c_region ?_
        refine o_add st rfl rfl rfl ?_; intro t243
        refine o_mv st rfl rfl ?_
        refine c_nil ?_
        exact l_join (s242, t243) (fun a w hE hm => ⟨hE.sub ⟨rfl, rfl, rfl, rfl, trivial⟩, (hm.pick [1] rfl)⟩)
      · refine c_exit ?_
        refine l_exit ?_
        refine l_exit ?_
        refine b_exit ?_
        refine l_then ?_
        refine c_seq ?_
        refine c_region ?_
        refine o_mv st rfl rfl ?_
        refine o_as st rfl rfl ?_
        refine c_nil ?_
        refine l_then ?_
        refine c_ret ?_
        exact l_end1 Tryd.results73 t233 () (rv_t rfl) (fun _ _ => NewCh.nil _ _ _ _)
  · dsimp only [IAction.casesW]
    refine stw (o_callXP rfl (runs_inv rfl rfl (fun w => meth128_word _ w) Tryd.call139) rfl (by intro w m h; exact (w_impl_passing_word (F := allB [] w) (a_0 := (GPassing.mk )) allB_ok h).mono (fun _ _ k => ret_free (fun r u => fr_nil) k)) ?_); rintro r244 _
    refine o_as st rfl rfl ?_
    refine c_nil ?_
    refine l_then ?_
    refine c_join (σ := ByteArray) (fun (t308 : ByteArray) (a : Act) (w : World) => Has 32 [(1, (.pointer (some ⟨b6, 0, none⟩))), (3, (.string t308))] a ∧ Mem (gB F [] w0) (feet []) w0 [cellCh b6 [(.slice a3 l4 q5), (.int .i64 r_0.xAction), (.int .i64 r_0.xChain)] 53, snapCh w0 F] w) ?_ ?_
    · intro k309
      refine c_seq ?_
      refine c_region ?_
      refine o_fad st rfl rfl fld53_1 rfl ?_
      refine o_ldc st (v := (.int .i64 r_0.xAction)) 0 rfl rfl rfl ty3 rfl ?_
      refine o_eql st und3 rfl rfl rfl ?_
      refine c_nil ?_
      refine l_then ?_
      refine c_cond rfl ?_ ?_
      · refine c_region ?_
        refine o_mv st rfl rfl ?_
        refine o_fad st rfl rfl fld53_2 rfl ?_
        refine o_ldc st (v := (.int .i64 r_0.xChain)) 0 rfl rfl rfl ty3 rfl ?_
        refine stw (o_callP (vs := [(.int .i64 r_0.xChain)]) Tryd.call61 rfl rfl (by intro w m h; exact w_lib_Itoa (n_0 := r_0.xChain) (hgl1.of (m.get (i := 1) rfl)) h) ?_); rintro r245 _
        refine o_cat st rfl rfl rfl ?_; intro s246
        refine o_cat st rfl rfl rfl ?_; intro s247
        refine o_as st rfl rfl ?_
        refine c_nil ?_
        exact l_join s247 (fun a w hE hm => ⟨hE.sub ⟨rfl, rfl, trivial⟩, (hm.pick [0, 1] rfl)⟩)
      · refine c_skip ?_
        exact l_join r244 (fun a w hE hm => ⟨hE.sub ⟨rfl, rfl, trivial⟩, (hm.pick [0, 1] rfl)⟩)
    · rintro t308 a w ⟨hE, hm⟩ h
      refine nx_of hE hm h ?_
      clear hE hm h
      refine c_seq ?_
      refine c_seq ?_
      refine c_region ?_
      refine o_fad st rfl rfl fld53_0 rfl ?_
      refine o_ldc st (v := (.slice a3 l4 q5)) 0 rfl rfl rfl ty51 rfl ?_
      refine o_len st el51 1 rfl (reads_snap hv1) rfl rfl ?_
      refine o_mv st rfl rfl ?_
      refine c_nil ?_
      refine l_then ?_
      refine c_block ?_
      refine c_loop (σ := (ByteArray × Int)) (fun ((t310, t311) : (ByteArray × Int)) (a : Act) (w : World) => Has 32 [(3, (.string t310)), (19, (.slice a3 l4 q5)), (20, (.int .i64 (r_0.xTests.length : Int))), (21, (.int .i64 t311))] a ∧ Mem (gB F [] w0) (feet []) w0 [snapCh w0 F] w) (fun a w hE hm => ⟨hE.sub ⟨rfl, rfl, rfl, rfl, trivial⟩, (hm.pick [1] rfl)⟩) ?_
      rintro nx312 ⟨t310, t311⟩ a w ⟨hE, hm⟩ h
      refine nx_of hE hm h ?_
      clear hE hm h
      refine c_seq ?_
      refine c_region ?_
      refine o_lss st rfl rfl rfl ?_
      refine c_nil ?_
      refine l_then ?_
      refine c_seq ?_
      refine c_cond rfl ?_ ?_
      · refine c_skip ?_
        refine l_then ?_
        refine c_seq ?_
        refine c_block ?_
        refine c_seq ?_
        refine c_region ?_
        refine o_idx st 0 rfl (reads_snap hv1) rfl rfl rfl el51 ?_; intro e313 h314
        refine o_lds st (enc := encGTest) (u := (.agg #[(.int .i64 e313.xField), (.int .i64 e313.xLo), (.int .i64 e313.xHi), (.bool e313.xNot)])) 0 rfl (reads_snap hv1) flelGTest rfl h314 rfl rfl ty25 rfl ?_
        refine stw (o_alloc rfl [(.int .i64 0), (.int .i64 0), (.int .i64 0), (.bool false)] zero25 ?_); intro b315
        refine stw (o_stc (cs' := [(.int .i64 e313.xField), (.int .i64 e313.xLo), (.int .i64 e313.xHi), (.bool e313.xNot)]) 0 rfl rfl rfl ty25 rfl rfl rfl rfl ?_)
        refine c_nil ?_
        refine l_then ?_
        refine c_region ?_
        refine o_mv st rfl rfl ?_
        refine o_ldc st (v := (.agg #[(.int .i64 e313.xField), (.int .i64 e313.xLo), (.int .i64 e313.xHi), (.bool e313.xNot)])) 0 rfl rfl rfl ty25 rfl ?_
        refine stw (o_callP (vs := [(.agg #[(.int .i64 e313.xField), (.int .i64 e313.xLo), (.int .i64 e313.xHi), (.bool e313.xNot)])]) Tryd.call53 rfl rfl (by intro w m h; exact (w_impl_Test_text (F := allB [] w) (t_0 := e313) allB_ok (m.rd0 1 rfl (reads_snap hgl0)) ((hgl1.of (m.get (i := 1) rfl)).mono fz_ok0) h).mono (fun _ _ k => ret_free (fun r u => fr_nil) k)) ?_); rintro r317 _
        refine o_cat st rfl rfl rfl ?_; intro s318
        refine o_cat st rfl rfl rfl ?_; intro s319
        refine o_as st rfl rfl ?_
        refine c_nil ?_
        refine b_norm ?_
        refine l_then ?_
        refine c_region ?_
        refine o_add st rfl rfl rfl ?_; intro t320
        refine o_mv st rfl rfl ?_
        refine c_nil ?_
        exact l_join (s319, t320) (fun a w hE hm => ⟨hE.sub ⟨rfl, rfl, rfl, rfl, trivial⟩, (hm.pick [1] rfl)⟩)
      · refine c_exit ?_
        refine l_exit ?_
        refine l_exit ?_
        refine b_exit ?_
        refine l_then ?_
        refine c_seq ?_
        refine c_region ?_
        refine o_mv st rfl rfl ?_
        refine o_as st rfl rfl ?_
        refine c_nil ?_
        refine l_then ?_
        refine c_ret ?_
        exact l_end1 Tryd.results73 t310 () (rv_t rfl) (fun _ _ => NewCh.nil _ _ _ _)

set_option maxRecDepth 100000 in
set_option maxHeartbeats 8000000 in
theorem w_impl_FieldTop {w0 : World} {F : Nat → Prop} {n_0 : Int} {κ : Int → Prop} (hF : ∀ b, F b → b < w0.heap.size ∧ ¬ feet [] b) (hgl0 : Sl elGFieldShape F w0 (.slice (some ⟨0, 0, none⟩) 4 4) gl_impl_fieldShapes) (h : L_impl_FieldTop n_0 κ) :
    Calls Tryd.prog 86 #[(.int .i64 n_0)] w0 (Ret [] F w0 κ (fun (r : Int) (u : Unit) => (.int .i64 r)) (fun (r : Int) (u : Unit) => [])) := by
  refine enterS (args := [(.int .i64 n_0)]) [] hF (Given.nil _ _) Tryd.func86 rfl Tryd.ntmps86 rfl h ?_
  clear h hF
  refine c_seq ?_
  refine c_region ?_
  refine o_as st rfl rfl ?_
  refine c_nil ?_
  refine l_then ?_
  refine c_seq ?_
  refine c_join (σ := Bool) (fun (t61 : Bool) (a : Act) (w : World) => Has 13 [(0, (.int .i64 n_0)), (8, (.bool t61))] a ∧ Mem (gB F [] w0) (feet []) w0 [snapCh w0 F] w) ?_ ?_
  · intro k62
    refine c_region ?_
    refine o_mv st rfl rfl ?_
    refine o_lss st rfl rfl rfl ?_
    refine o_mv st rfl rfl ?_
    refine st_sp (dj := 5) rfl ?_ ?_
    · refine st_s rfl rfl rfl rfl ?_
      refine st_s rfl rfl rfl rfl ?_
      refine o_pickT st rfl rfl rfl ?_
      refine c_nil ?_
      exact l_join true (fun a w hE hm => ⟨hE.sub ⟨rfl, rfl, trivial⟩, (hm.pick [0] rfl)⟩)
    · refine o_mv (st_g rfl rfl) rfl rfl ?_
      refine o_geq (st_g rfl rfl) rfl rfl rfl ?_
      refine o_pickF st rfl rfl rfl ?_
      refine c_nil ?_
      exact l_join (decide (4 ≤ n_0)) (fun a w hE hm => ⟨hE.sub ⟨rfl, rfl, trivial⟩, (hm.pick [0] rfl)⟩)
  · rintro t61 a w ⟨hE, hm⟩ h
    refine nx_of hE hm h ?_
    clear hE hm h
    refine c_cond rfl ?_ ?_
    · refine c_seq ?_
      refine c_region ?_
      refine o_as st rfl rfl ?_
      refine c_nil ?_
      refine l_then ?_
      refine c_ret ?_
      refine l_ret ?_
      exact l_end1 Tryd.results86 (-1) () (rv_t rfl) (fun _ _ => NewCh.nil _ _ _ _)
    · refine c_skip ?_
      refine l_then ?_
      refine c_seq ?_
      refine c_region ?_
      refine o_mv st rfl rfl ?_
      refine o_ixa st 0 rfl (reads_snap hgl0) rfl rfl rfl arr107 ?_; intro e63 h64
      refine o_fadS st 0 rfl (reads_snap hgl0) h64 rfl rfl fld106_1 rfl ?_
      refine o_lds st (enc := encGFieldShape) (u := (.int .i64 e63.xTop)) 0 rfl (reads_snap hgl0) flelGFieldShape rfl h64 rfl rfl ty3 rfl ?_
      refine o_as st rfl rfl ?_
      refine c_nil ?_
      refine l_then ?_
      refine c_ret ?_
      exact l_end1 Tryd.results86 e63.xTop () (rv_t rfl) (fun _ _ => NewCh.nil _ _ _ _)

set_option maxRecDepth 100000 in
set_option maxHeartbeats 8000000 in
theorem w_impl_TestValid {w0 : World} {F : Nat → Prop} {t_0 : GTest} {κ : Bool → Prop} (hF : ∀ b, F b → b < w0.heap.size ∧ ¬ feet [] b) (hgl0 : Sl elGFieldShape F w0 (.slice (some ⟨0, 0, none⟩) 4 4) gl_impl_fieldShapes) (h : L_impl_TestValid t_0 κ) :
    Calls Tryd.prog 52 #[(.agg #[(.int .i64 t_0.xField), (.int .i64 t_0.xLo), (.int .i64 t_0.xHi), (.bool t_0.xNot)])] w0 (Ret [] F w0 κ (fun (r : Bool) (u : Unit) => (.bool r)) (fun (r : Bool) (u : Unit) => [])) := by
  refine enterS (args := [(.agg #[(.int .i64 t_0.xField), (.int .i64 t_0.xLo), (.int .i64 t_0.xHi), (.bool t_0.xNot)])]) [] hF (Given.nil _ _) Tryd.func52 rfl Tryd.ntmps52 rfl h ?_
  clear h hF
  refine c_seq ?_
  refine c_region ?_
  refine stw (o_box rfl rfl [(.int .i64 t_0.xField), (.int .i64 t_0.xLo), (.int .i64 t_0.xHi), (.bool t_0.xNot)] rfl ?_); intro b1
  refine o_as st rfl rfl ?_
  refine c_nil ?_
  refine l_then ?_
  refine c_join (σ := Bool) (fun (t64 : Bool) (a : Act) (w : World) => Has 31 [(2, (.bool t64))] a ∧ Mem (gB F [] w0) (feet []) w0 [snapCh w0 F] w) ?_ ?_
  · intro k65
    refine c_draw mixed 29 rfl [cellCh b1 [(.int .i64 t_0.xField), (.int .i64 t_0.xLo), (.int .i64 t_0.xHi), (.bool t_0.xNot)] 25, snapCh w0 F] ?_
    refine o_fad (dt 0 (fun _ m => m)) rfl rfl fld25_0 rfl ?_
    refine o_ldc (dt 1 (fun _ m => m)) (v := (.int .i64 t_0.xField)) 0 rfl rfl rfl ty3 rfl ?_
    refine o_geq (dt 2 (fun _ m => m)) rfl rfl rfl ?_
    refine o_mv (dt 3 (fun _ m => m)) rfl rfl ?_
    refine st_sp (dj := 6) rfl ?_ ?_
    · refine o_fad (dtg 4 (fun _ m => m)) rfl rfl fld25_0 rfl ?_
      refine o_ldc (dtg 5 (fun _ m => m)) (v := (.int .i64 t_0.xField)) 0 rfl rfl rfl ty3 rfl ?_
      refine o_lss (dtg 6 (fun _ m => m)) rfl rfl rfl ?_
      refine o_pickT (dt 7 (fun _ m => m)) rfl rfl rfl ?_
      refine o_mv (dt 8 (fun _ m => m)) rfl rfl ?_
      refine st_sp (dj := 11) rfl ?_ ?_
      · refine o_fad (dtg 9 (fun _ m => m)) rfl rfl fld25_1 rfl ?_
        refine o_ldc (dtg 10 (fun _ m => m)) (v := (.int .i64 t_0.xLo)) 0 rfl rfl rfl ty3 rfl ?_
        refine o_geq (dtg 11 (fun _ m => m)) rfl rfl rfl ?_
        refine o_pickT (dt 12 (fun _ m => m)) rfl rfl rfl ?_
        refine o_mv (dt 13 (fun _ m => m)) rfl rfl ?_
        refine st_sp (dj := 16) rfl ?_ ?_
        · refine o_fad (dtg 14 (fun _ m => m)) rfl rfl fld25_1 rfl ?_
          refine o_ldc (dtg 15 (fun _ m => m)) (v := (.int .i64 t_0.xLo)) 0 rfl rfl rfl ty3 rfl ?_
          refine o_fad (dtg 16 (fun _ m => m)) rfl rfl fld25_2 rfl ?_
          refine o_ldc (dtg 17 (fun _ m => m)) (v := (.int .i64 t_0.xHi)) 0 rfl rfl rfl ty3 rfl ?_
          refine o_leq (dtg 18 (fun _ m => m)) rfl rfl rfl ?_
          refine o_pickT (dt 19 (fun _ m => m)) rfl rfl rfl ?_
          refine o_mv (dt 20 (fun _ m => m)) rfl rfl ?_
          refine st_sp (dj := 23) rfl ?_ ?_
          · refine o_fad (dtg 21 (fun _ m => m)) rfl rfl fld25_2 rfl ?_
            refine o_ldc (dtg 22 (fun _ m => m)) (v := (.int .i64 t_0.xHi)) 0 rfl rfl rfl ty3 rfl ?_
            refine o_fad (dtg 23 (fun _ m => m)) rfl rfl fld25_0 rfl ?_
            refine o_ldc (dtg 24 (fun _ m => m)) (v := (.int .i64 t_0.xField)) 0 rfl rfl rfl ty3 rfl ?_
            refine d_oneg (i := 25) rfl rfl rfl (by kernel_rfl) (o_callP (vs := [(.int .i64 t_0.xField)]) Tryd.call86 rfl rfl (by intro w m h; exact (w_impl_FieldTop (F := allB [] w) (n_0 := t_0.xField) allB_ok (m.rd0 1 rfl (reads_snap hgl0)) h).mono (fun _ _ k => ret_free (fun r u => fr_nil) k)) ?_); rintro r3 _
            refine d_and (fun _ m => m) ?_
            refine o_leq (dtg 26 (fun _ m => m)) rfl rfl rfl ?_
            refine o_pickT (dt 27 (fun _ m => m)) rfl rfl rfl ?_
            refine o_as (dt 28 (fun _ m => m)) rfl rfl ?_
            refine d_done (by kernel_rfl) ?_
            exact l_join (decide (t_0.xHi ≤ r3)) (fun a w hE hm => ⟨hE.sub ⟨rfl, trivial⟩, (hm.pick [1] rfl)⟩)
          · refine dsk 21 (fun _ m => m) rfl (by kernel_rfl) rfl rfl rfl rfl ?_
            refine dsk 22 (fun _ m => m) rfl (by kernel_rfl) rfl rfl rfl rfl ?_
            refine dsk 23 (fun _ m => m) rfl (by kernel_rfl) rfl rfl rfl rfl ?_
            refine dsk 24 (fun _ m => m) rfl (by kernel_rfl) rfl rfl rfl rfl ?_
            refine dsk 25 (fun _ m => m) rfl (by kernel_rfl) rfl rfl rfl rfl ?_
            refine dsk 26 (fun _ m => m) rfl (by kernel_rfl) rfl rfl rfl rfl ?_
            refine o_pickF (dt 27 (fun _ m => m)) rfl rfl rfl ?_
            refine o_as (dt 28 (fun _ m => m)) rfl rfl ?_
            refine d_done (by kernel_rfl) ?_
            exact l_join false (fun a w hE hm => ⟨hE.sub ⟨rfl, trivial⟩, (hm.pick [1] rfl)⟩)
        · refine dsk 14 (fun _ m => m) rfl (by kernel_rfl) rfl rfl rfl rfl ?_
          refine dsk 15 (fun _ m => m) rfl (by kernel_rfl) rfl rfl rfl rfl ?_
          refine dsk 16 (fun _ m => m) rfl (by kernel_rfl) rfl rfl rfl rfl ?_
          refine dsk 17 (fun _ m => m) rfl (by kernel_rfl) rfl rfl rfl rfl ?_
          refine dsk 18 (fun _ m => m) rfl (by kernel_rfl) rfl rfl rfl rfl ?_
          refine o_pickF (dt 19 (fun _ m => m)) rfl rfl rfl ?_
          refine o_mv (dt 20 (fun _ m => m)) rfl rfl ?_
          refine dsk 21 (fun _ m => m) rfl (by kernel_rfl) rfl rfl rfl rfl ?_
          refine dsk 22 (fun _ m => m) rfl (by kernel_rfl) rfl rfl rfl rfl ?_
          refine dsk 23 (fun _ m => m) rfl (by kernel_rfl) rfl rfl rfl rfl ?_
          refine dsk 24 (fun _ m => m) rfl (by kernel_rfl) rfl rfl rfl rfl ?_
          refine dsk 25 (fun _ m => m) rfl (by kernel_rfl) rfl rfl rfl rfl ?_
          refine dsk 26 (fun _ m => m) rfl (by kernel_rfl) rfl rfl rfl rfl ?_
          refine o_pickF (dt 27 (fun _ m => m)) rfl rfl rfl ?_
          refine o_as (dt 28 (fun _ m => m)) rfl rfl ?_
          refine d_done (by kernel_rfl) ?_
          exact l_join false (fun a w hE hm => ⟨hE.sub ⟨rfl, trivial⟩, (hm.pick [1] rfl)⟩)
      · refine dsk 9 (fun _ m => m) rfl (by kernel_rfl) rfl rfl rfl rfl ?_
        refine dsk 10 (fun _ m => m) rfl (by kernel_rfl) rfl rfl rfl rfl ?_
        refine dsk 11 (fun _ m => m) rfl (by kernel_rfl) rfl rfl rfl rfl ?_
        refine o_pickF (dt 12 (fun _ m => m)) rfl rfl rfl ?_
        refine o_mv (dt 13 (fun _ m => m)) rfl rfl ?_
        refine dsk 14 (fun _ m => m) rfl (by kernel_rfl) rfl rfl rfl rfl ?_
        refine dsk 15 (fun _ m => m) rfl (by kernel_rfl) rfl rfl rfl rfl ?_
        refine dsk 16 (fun _ m => m) rfl (by kernel_rfl) rfl rfl rfl rfl ?_
        refine dsk 17 (fun _ m => m) rfl (by kernel_rfl) rfl rfl rfl rfl ?_
        refine dsk 18 (fun _ m => m) rfl (by kernel_rfl) rfl rfl rfl rfl ?_
        refine o_pickF (dt 19 (fun _ m => m)) rfl rfl rfl ?_
        refine o_mv (dt 20 (fun _ m => m)) rfl rfl ?_
        refine dsk 21 (fun _ m => m) rfl (by kernel_rfl) rfl rfl rfl rfl ?_
        refine dsk 22 (fun _ m => m) rfl (by kernel_rfl) rfl rfl rfl rfl ?_
        refine dsk 23 (fun _ m => m) rfl (by kernel_rfl) rfl rfl rfl rfl ?_
        refine dsk 24 (fun _ m => m) rfl (by kernel_rfl) rfl rfl rfl rfl ?_
        refine dsk 25 (fun _ m => m) rfl (by kernel_rfl) rfl rfl rfl rfl ?_
        refine dsk 26 (fun _ m => m) rfl (by kernel_rfl) rfl rfl rfl rfl ?_
        refine o_pickF (dt 27 (fun _ m => m)) rfl rfl rfl ?_
        refine o_as (dt 28 (fun _ m => m)) rfl rfl ?_
        refine d_done (by kernel_rfl) ?_
        exact l_join false (fun a w hE hm => ⟨hE.sub ⟨rfl, trivial⟩, (hm.pick [1] rfl)⟩)
    · refine dsk 4 (fun _ m => m) rfl (by kernel_rfl) rfl rfl rfl rfl ?_
      refine dsk 5 (fun _ m => m) rfl (by kernel_rfl) rfl rfl rfl rfl ?_
      refine dsk 6 (fun _ m => m) rfl (by kernel_rfl) rfl rfl rfl rfl ?_
      refine o_pickF (dt 7 (fun _ m => m)) rfl rfl rfl ?_
      refine o_mv (dt 8 (fun _ m => m)) rfl rfl ?_
      refine dsk 9 (fun _ m => m) rfl (by kernel_rfl) rfl rfl rfl rfl ?_
      refine dsk 10 (fun _ m => m) rfl (by kernel_rfl) rfl rfl rfl rfl ?_
      refine dsk 11 (fun _ m => m) rfl (by kernel_rfl) rfl rfl rfl rfl ?_
      refine o_pickF (dt 12 (fun _ m => m)) rfl rfl rfl ?_
      refine o_mv (dt 13 (fun _ m => m)) rfl rfl ?_
      refine dsk 14 (fun _ m => m) rfl (by kernel_rfl) rfl rfl rfl rfl ?_
      refine dsk 15 (fun _ m => m) rfl (by kernel_rfl) rfl rfl rfl rfl ?_
      refine dsk 16 (fun _ m => m) rfl (by kernel_rfl) rfl rfl rfl rfl ?_
      refine dsk 17 (fun _ m => m) rfl (by kernel_rfl) rfl rfl rfl rfl ?_
      refine dsk 18 (fun _ m => m) rfl (by kernel_rfl) rfl rfl rfl rfl ?_
      refine o_pickF (dt 19 (fun _ m => m)) rfl rfl rfl ?_
      refine o_mv (dt 20 (fun _ m => m)) rfl rfl ?_
      refine dsk 21 (fun _ m => m) rfl (by kernel_rfl) rfl rfl rfl rfl ?_
      refine dsk 22 (fun _ m => m) rfl (by kernel_rfl) rfl rfl rfl rfl ?_
      refine dsk 23 (fun _ m => m) rfl (by kernel_rfl) rfl rfl rfl rfl ?_
      refine dsk 24 (fun _ m => m) rfl (by kernel_rfl) rfl rfl rfl rfl ?_
      refine dsk 25 (fun _ m => m) rfl (by kernel_rfl) rfl rfl rfl rfl ?_
      refine dsk 26 (fun _ m => m) rfl (by kernel_rfl) rfl rfl rfl rfl ?_
      refine o_pickF (dt 27 (fun _ m => m)) rfl rfl rfl ?_
      refine o_as (dt 28 (fun _ m => m)) rfl rfl ?_
      refine d_done (by kernel_rfl) ?_
      exact l_join false (fun a w hE hm => ⟨hE.sub ⟨rfl, trivial⟩, (hm.pick [1] rfl)⟩)
  · rintro t64 a w ⟨hE, hm⟩ h
    refine nx_of hE hm h ?_
    clear hE hm h
    refine c_ret ?_
    exact l_end1 Tryd.results52 t64 () (rv_t rfl) (fun _ _ => NewCh.nil _ _ _ _)

set_option maxRecDepth 100000 in
set_option maxHeartbeats 8000000 in
theorem w_impl_TestsValid {w0 : World} {F : Nat → Prop} {v1 : Value} {list_0 : (List GTest)} {κ : Bool → Prop} (hF : ∀ b, F b → b < w0.heap.size ∧ ¬ feet [] b) (hv1 : Sl elGTest F w0 v1 list_0) (hgl0 : Sl elGFieldShape F w0 (.slice (some ⟨0, 0, none⟩) 4 4) gl_impl_fieldShapes) (h : L_impl_TestsValid list_0 κ) :
    Calls Tryd.prog 92 #[v1] w0 (Ret [] F w0 κ (fun (r : Bool) (u : Unit) => (.bool r)) (fun (r : Bool) (u : Unit) => [])) := by
  refine enterS (args := [v1]) [] hF (Given.nil _ _) Tryd.func92 rfl Tryd.ntmps92 rfl h ?_
  clear h hF
  refine c_seq ?_
  refine c_region ?_
  refine o_as st rfl rfl ?_
  refine c_nil ?_
  refine l_then ?_
  refine c_seq ?_
  refine c_seq ?_
  refine c_region ?_
  refine o_mv st rfl rfl ?_
  refine o_len st el51 0 rfl (reads_snap hv1) rfl rfl ?_
  refine o_gtr st rfl rfl rfl ?_
  refine c_nil ?_
  refine l_then ?_
  refine c_cond rfl ?_ ?_
  · refine c_seq ?_
    refine c_region ?_
    refine o_as st rfl rfl ?_
    refine c_nil ?_
    refine l_then ?_
    refine c_ret ?_
    refine l_ret ?_
    exact l_end1 Tryd.results92 false () (rv_t rfl) (fun _ _ => NewCh.nil _ _ _ _)
  · refine c_skip ?_
    refine l_then ?_
    refine c_seq ?_
    refine c_seq ?_
    refine c_region ?_
    refine o_mv st rfl rfl ?_
    refine o_len st el51 0 rfl (reads_snap hv1) rfl rfl ?_
    refine o_mv st rfl rfl ?_
    refine c_nil ?_
    refine l_then ?_
    refine c_block ?_
    refine c_loop (σ := Int) (fun (t3 : Int) (a : Act) (w : World) => Has 18 [(8, v1), (9, (.int .i64 (list_0.length : Int))), (10, (.int .i64 t3))] a ∧ Mem (gB F [] w0) (feet []) w0 [snapCh w0 F] w) (fun a w hE hm => ⟨hE.sub ⟨rfl, rfl, rfl, trivial⟩, (hm.pick [0] rfl)⟩) ?_
    rintro nx4 t3 a w ⟨hE, hm⟩ h
    refine nx_of hE hm h ?_
    clear hE hm h
    refine c_seq ?_
    refine c_region ?_
    refine o_lss st rfl rfl rfl ?_
    refine c_nil ?_
    refine l_then ?_
    refine c_seq ?_
    refine c_cond rfl ?_ ?_
    · refine c_skip ?_
      refine l_then ?_
      refine c_seq ?_
      refine c_block ?_
      refine c_seq ?_
      refine c_region ?_
      refine o_idx st 0 rfl (reads_snap hv1) rfl rfl rfl el51 ?_; intro e5 h6
      refine o_lds st (enc := encGTest) (u := (.agg #[(.int .i64 e5.xField), (.int .i64 e5.xLo), (.int .i64 e5.xHi), (.bool e5.xNot)])) 0 rfl (reads_snap hv1) flelGTest rfl h6 rfl rfl ty25 rfl ?_
      refine stw (o_alloc rfl [(.int .i64 0), (.int .i64 0), (.int .i64 0), (.bool false)] zero25 ?_); intro b7
      refine stw (o_stc (cs' := [(.int .i64 e5.xField), (.int .i64 e5.xLo), (.int .i64 e5.xHi), (.bool e5.xNot)]) 0 rfl rfl rfl ty25 rfl rfl rfl rfl ?_)
      refine c_nil ?_
      refine l_then ?_
      refine c_seq ?_
      refine c_region ?_
      refine o_ldc st (v := (.agg #[(.int .i64 e5.xField), (.int .i64 e5.xLo), (.int .i64 e5.xHi), (.bool e5.xNot)])) 0 rfl rfl rfl ty25 rfl ?_
      refine stw (o_callP (vs := [(.agg #[(.int .i64 e5.xField), (.int .i64 e5.xLo), (.int .i64 e5.xHi), (.bool e5.xNot)])]) Tryd.call52 rfl rfl (by intro w m h; exact (w_impl_TestValid (F := allB [] w) (t_0 := e5) allB_ok (m.rd0 1 rfl (reads_snap hgl0)) h).mono (fun _ _ k => ret_free (fun r u => fr_nil) k)) ?_); rintro r9 _
      refine o_not st rfl rfl ?_
      refine c_nil ?_
      refine l_then ?_
      refine c_cond rfl ?_ ?_
      · refine c_seq ?_
        refine c_region ?_
        refine o_as st rfl rfl ?_
        refine c_nil ?_
        refine l_then ?_
        refine c_ret ?_
        refine b_ret ?_
        refine l_ret ?_
        refine l_ret ?_
        refine b_ret ?_
        refine l_ret ?_
        exact l_end1 Tryd.results92 false () (rv_t rfl) (fun _ _ => NewCh.nil _ _ _ _)
      · refine c_skip ?_
        refine b_norm ?_
        refine l_then ?_
        refine c_region ?_
        refine o_add st rfl rfl rfl ?_; intro t10
        refine o_mv st rfl rfl ?_
        refine c_nil ?_
        exact l_join t10 (fun a w hE hm => ⟨hE.sub ⟨rfl, rfl, rfl, trivial⟩, (hm.pick [1] rfl)⟩)
    · refine c_exit ?_
      refine l_exit ?_
      refine l_exit ?_
      refine b_exit ?_
      refine l_then ?_
      refine c_seq ?_
      refine c_region ?_
      refine o_as st rfl rfl ?_
      refine c_nil ?_
      refine l_then ?_
      refine c_ret ?_
      exact l_end1 Tryd.results92 true () (rv_t rfl) (fun _ _ => NewCh.nil _ _ _ _)

set_option maxRecDepth 100000 in
set_option maxHeartbeats 8000000 in
theorem w_impl_RuleValid {w0 : World} {F : Nat → Prop} {v1 : Value} {r_0 : GRule} {κ : Bool → Prop} (hF : ∀ b, F b → b < w0.heap.size ∧ ¬ feet [] b) (hv1 : Sl elGTest F w0 v1 r_0.xTests) (hgl0 : Sl elGFieldShape F w0 (.slice (some ⟨0, 0, none⟩) 4 4) gl_impl_fieldShapes) (h : L_impl_RuleValid r_0 κ) :
    Calls Tryd.prog 72 #[(.agg #[v1, (.int .i64 r_0.xAction), (.int .i64 r_0.xChain)])] w0 (Ret [] F w0 κ (fun (r : Bool) (u : Unit) => (.bool r)) (fun (r : Bool) (u : Unit) => [])) := by
  refine enterS (args := [(.agg #[v1, (.int .i64 r_0.xAction), (.int .i64 r_0.xChain)])]) [] hF (Given.nil _ _) Tryd.func72 rfl Tryd.ntmps72 rfl h ?_
  clear h hF
  refine c_seq ?_
  refine c_region ?_
  obtain ⟨a3, l4, q5, hs_⟩ := sl_val hv1; subst hs_
  refine stw (o_box rfl rfl [(.slice a3 l4 q5), (.int .i64 r_0.xAction), (.int .i64 r_0.xChain)] rfl ?_); intro b6
  refine o_as st rfl rfl ?_
  refine c_nil ?_
  refine l_then ?_
  refine c_seq ?_
  refine c_seq ?_
  refine c_region ?_
  refine o_fad st rfl rfl fld53_0 rfl ?_
  refine o_ldc st (v := (.slice a3 l4 q5)) 0 rfl rfl rfl ty51 rfl ?_
  refine stw (o_callP (vs := [(.slice a3 l4 q5)]) Tryd.call92 rfl rfl (by intro w m h; exact (w_impl_TestsValid (F := allB [] w) (list_0 := r_0.xTests) allB_ok (m.rd0 1 rfl (reads_snap hv1)) (m.rd0 1 rfl (reads_snap hgl0)) h).mono (fun _ _ k => ret_free (fun r u => fr_nil) k)) ?_); rintro r8 _
  refine o_not st rfl rfl ?_
  refine c_nil ?_
  refine l_then ?_
  refine c_cond rfl ?_ ?_
  · refine c_seq ?_
    refine c_region ?_
    refine o_as st rfl rfl ?_
    refine c_nil ?_
    refine l_then ?_
    refine c_ret ?_
    refine l_ret ?_
    exact l_end1 Tryd.results72 false () (rv_t rfl) (fun _ _ => NewCh.nil _ _ _ _)
  · refine c_skip ?_
    refine l_then ?_
    refine c_seq ?_
    refine c_seq ?_
    refine c_region ?_
    refine o_fad st rfl rfl fld53_1 rfl ?_
    refine o_ldc st (v := (.int .i64 r_0.xAction)) 0 rfl rfl rfl ty3 rfl ?_
    refine c_nil ?_
    refine l_then ?_
    refine c_block ?_
    refine c_seq ?_
    refine c_region ?_
    refine o_eql st und3 rfl rfl rfl ?_
    refine o_as st rfl rfl ?_
    refine c_nil ?_
    refine l_then ?_
    refine c_cond rfl ?_ ?_
    · refine c_join (σ := Bool) (fun (t69 : Bool) (a : Act) (w : World) => Has 27 [(2, (.bool t69))] a ∧ Mem (gB F [] w0) (feet []) w0 [snapCh w0 F] w) ?_ ?_
      · intro k70
        refine c_region ?_
        refine o_fad st rfl rfl fld53_2 rfl ?_
        refine o_ldc st (v := (.int .i64 r_0.xChain)) 0 rfl rfl rfl ty3 rfl ?_
        refine o_geq st rfl rfl rfl ?_
        refine o_mv st rfl rfl ?_
        refine st_sp (dj := 14) rfl ?_ ?_
        · refine o_fad (st_g rfl rfl) rfl rfl fld53_2 rfl ?_
          refine o_ldc (st_g rfl rfl) (v := (.int .i64 r_0.xChain)) 0 rfl rfl rfl ty3 rfl ?_
          refine o_lss (st_g rfl rfl) rfl rfl rfl ?_
          refine o_pickT st rfl rfl rfl ?_
          refine o_as st rfl rfl ?_
          refine c_nil ?_
          exact l_join (decide (r_0.xChain < 5)) (fun a w hE hm => ⟨hE.sub ⟨rfl, trivial⟩, (hm.pick [1] rfl)⟩)
        · refine st_s rfl rfl rfl rfl ?_
          refine st_s rfl rfl rfl rfl ?_
          refine st_s rfl rfl rfl rfl ?_
          refine o_pickF st rfl rfl rfl ?_
          refine o_as st rfl rfl ?_
          refine c_nil ?_
          exact l_join false (fun a w hE hm => ⟨hE.sub ⟨rfl, trivial⟩, (hm.pick [1] rfl)⟩)
      · rintro t69 a w ⟨hE, hm⟩ h
        refine nx_of hE hm h ?_
        clear hE hm h
        refine c_ret ?_
        refine b_ret ?_
        refine l_ret ?_
        exact l_end1 Tryd.results72 t69 () (rv_t rfl) (fun _ _ => NewCh.nil _ _ _ _)
    · refine c_join (σ := Bool) (fun (t131 : Bool) (a : Act) (w : World) => Has 27 [(1, (.pointer (some ⟨b6, 0, none⟩))), (19, (.bool t131))] a ∧ Mem (gB F [] w0) (feet []) w0 [cellCh b6 [(.slice a3 l4 q5), (.int .i64 r_0.xAction), (.int .i64 r_0.xChain)] 53, snapCh w0 F] w) ?_ ?_
      · intro k132
        refine c_seq ?_
        refine c_region ?_
        refine o_eql st und3 rfl rfl rfl ?_
        refine o_as st rfl rfl ?_
        refine c_nil ?_
        refine l_then ?_
        refine c_cond rfl ?_ ?_
        · refine c_skip ?_
          exact l_join (decide (r_0.xAction = 1)) (fun a w hE hm => ⟨hE.sub ⟨rfl, rfl, trivial⟩, (hm.pick [0, 1] rfl)⟩)
        · refine c_seq ?_
          refine c_region ?_
          refine o_eql st und3 rfl rfl rfl ?_
          refine o_as st rfl rfl ?_
          refine c_nil ?_
          refine l_then ?_
          refine c_cond rfl ?_ ?_
          · refine c_skip ?_
            exact l_join (decide (r_0.xAction = 2)) (fun a w hE hm => ⟨hE.sub ⟨rfl, rfl, trivial⟩, (hm.pick [0, 1] rfl)⟩)
          · refine c_seq ?_
            refine c_region ?_
            refine o_eql st und3 rfl rfl rfl ?_
            refine o_as st rfl rfl ?_
            refine c_nil ?_
            refine l_then ?_
            refine c_cond rfl ?_ ?_
            · refine c_skip ?_
              exact l_join (decide (r_0.xAction = 4)) (fun a w hE hm => ⟨hE.sub ⟨rfl, rfl, trivial⟩, (hm.pick [0, 1] rfl)⟩)
            · refine c_region ?_
              refine o_eql st und3 rfl rfl rfl ?_
              refine o_as st rfl rfl ?_
              refine c_nil ?_
              exact l_join (decide (r_0.xAction = 5)) (fun a w hE hm => ⟨hE.sub ⟨rfl, rfl, trivial⟩, (hm.pick [0, 1] rfl)⟩)
      · rintro t131 a w ⟨hE, hm⟩ h
        refine nx_of hE hm h ?_
        clear hE hm h
        refine c_cond rfl ?_ ?_
        · refine c_seq ?_
          refine c_region ?_
          refine o_fad st rfl rfl fld53_2 rfl ?_
          refine o_ldc st (v := (.int .i64 r_0.xChain)) 0 rfl rfl rfl ty3 rfl ?_
          refine o_eql st und3 rfl rfl rfl ?_
          refine o_as st rfl rfl ?_
          refine c_nil ?_
          refine l_then ?_
          refine c_ret ?_
          refine b_ret ?_
          refine l_ret ?_
          exact l_end1 Tryd.results72 (decide (r_0.xChain = 0)) () (rv_t rfl) (fun _ _ => NewCh.nil _ _ _ _)
        · refine c_skip ?_
          refine b_norm ?_
          refine l_then ?_
          refine c_seq ?_
          refine c_region ?_
          refine o_as st rfl rfl ?_
          refine c_nil ?_
          refine l_then ?_
          refine c_ret ?_
          exact l_end1 Tryd.results72 false () (rv_t rfl) (fun _ _ => NewCh.nil _ _ _ _)

set_option maxRecDepth 100000 in
set_option maxHeartbeats 8000000 in
theorem w_impl_RulesValid {w0 : World} {F : Nat → Prop} {v1 : Value} {list_0 : (List GRule)} {κ : Bool → Prop} (hF : ∀ b, F b → b < w0.heap.size ∧ ¬ feet [] b) (hv1 : Sl elGRule F w0 v1 list_0) (hgl0 : Sl elGFieldShape F w0 (.slice (some ⟨0, 0, none⟩) 4 4) gl_impl_fieldShapes) (h : L_impl_RulesValid list_0 κ) :
    Calls Tryd.prog 96 #[v1] w0 (Ret [] F w0 κ (fun (r : Bool) (u : Unit) => (.bool r)) (fun (r : Bool) (u : Unit) => [])) := by
  refine enterS (args := [v1]) [] hF (Given.nil _ _) Tryd.func96 rfl Tryd.ntmps96 rfl h ?_
  clear h hF
  refine c_seq ?_
  refine c_region ?_
  refine o_as st rfl rfl ?_
  refine c_nil ?_
  refine l_then ?_
  refine c_seq ?_
  refine c_seq ?_
  refine c_region ?_
  refine o_mv st rfl rfl ?_
  refine o_len st el69 0 rfl (reads_snap hv1) rfl rfl ?_
  refine o_gtr st rfl rfl rfl ?_
  refine c_nil ?_
  refine l_then ?_
  refine c_cond rfl ?_ ?_
  · refine c_seq ?_
    refine c_region ?_
    refine o_as st rfl rfl ?_
    refine c_nil ?_
    refine l_then ?_
    refine c_ret ?_
    refine l_ret ?_
    exact l_end1 Tryd.results96 false () (rv_t rfl) (fun _ _ => NewCh.nil _ _ _ _)
  · refine c_skip ?_
    refine l_then ?_
    refine c_seq ?_
    refine c_seq ?_
    refine c_region ?_
    refine o_mv st rfl rfl ?_
    refine o_len st el69 0 rfl (reads_snap hv1) rfl rfl ?_
    refine o_mv st rfl rfl ?_
    refine c_nil ?_
    refine l_then ?_
    refine c_block ?_
    refine c_loop (σ := Int) (fun (t3 : Int) (a : Act) (w : World) => Has 18 [(8, v1), (9, (.int .i64 (list_0.length : Int))), (10, (.int .i64 t3))] a ∧ Mem (gB F [] w0) (feet []) w0 [snapCh w0 F] w) (fun a w hE hm => ⟨hE.sub ⟨rfl, rfl, rfl, trivial⟩, (hm.pick [0] rfl)⟩) ?_
    rintro nx4 t3 a w ⟨hE, hm⟩ h
    refine nx_of hE hm h ?_
    clear hE hm h
    refine c_seq ?_
    refine c_region ?_
    refine o_lss st rfl rfl rfl ?_
    refine c_nil ?_
    refine l_then ?_
    refine c_seq ?_
    refine c_cond rfl ?_ ?_
    · refine c_skip ?_
      refine l_then ?_
      refine c_seq ?_
      refine c_block ?_
      refine c_seq ?_
      refine c_region ?_
      refine o_idx st 0 rfl (reads_snap hv1) rfl rfl rfl el69 ?_; intro e5 h6
      obtain ⟨_, ⟨v8, rfl, sl9⟩, rw7⟩ := sl_open hv1 h6
      refine o_ldR st (u := (.agg #[v8, (.int .i64 e5.xAction), (.int .i64 e5.xChain)])) 0 rfl rw7 rfl rfl ty53 rfl ?_
      refine stw (o_alloc rfl [(.slice none 0 0), (.int .i64 0), (.int .i64 0)] zero53 ?_); intro b11
      obtain ⟨a13, l14, q15, hs_⟩ := sl_val sl9; subst hs_
      refine stw (o_stc (cs' := [(.slice a13 l14 q15), (.int .i64 e5.xAction), (.int .i64 e5.xChain)]) 0 rfl rfl rfl ty53 rfl rfl rfl rfl ?_)
      refine c_nil ?_
      refine l_then ?_
      refine c_seq ?_
      refine c_region ?_
      refine o_ldc st (v := (.agg #[(.slice a13 l14 q15), (.int .i64 e5.xAction), (.int .i64 e5.xChain)])) 0 rfl rfl rfl ty53 rfl ?_
      refine stw (o_callP (vs := [(.agg #[(.slice a13 l14 q15), (.int .i64 e5.xAction), (.int .i64 e5.xChain)])]) Tryd.call72 rfl rfl (by intro w m h; exact (w_impl_RuleValid (F := allB [] w) (r_0 := e5) allB_ok (m.rd0 1 rfl (reads_snap sl9)) (m.rd0 1 rfl (reads_snap hgl0)) h).mono (fun _ _ k => ret_free (fun r u => fr_nil) k)) ?_); rintro r16 _
      refine o_not st rfl rfl ?_
      refine c_nil ?_
      refine l_then ?_
      refine c_cond rfl ?_ ?_
      · refine c_seq ?_
        refine c_region ?_
        refine o_as st rfl rfl ?_
        refine c_nil ?_
        refine l_then ?_
        refine c_ret ?_
        refine b_ret ?_
        refine l_ret ?_
        refine l_ret ?_
        refine b_ret ?_
        refine l_ret ?_
        exact l_end1 Tryd.results96 false () (rv_t rfl) (fun _ _ => NewCh.nil _ _ _ _)
      · refine c_skip ?_
        refine b_norm ?_
        refine l_then ?_
        refine c_region ?_
        refine o_add st rfl rfl rfl ?_; intro t17
        refine o_mv st rfl rfl ?_
        refine c_nil ?_
        exact l_join t17 (fun a w hE hm => ⟨hE.sub ⟨rfl, rfl, rfl, trivial⟩, (hm.pick [1] rfl)⟩)
    · refine c_exit ?_
      refine l_exit ?_
      refine l_exit ?_
      refine b_exit ?_
      refine l_then ?_
      refine c_seq ?_
      refine c_region ?_
      refine o_as st rfl rfl ?_
      refine c_nil ?_
      refine l_then ?_
      refine c_ret ?_
      exact l_end1 Tryd.results96 true () (rv_t rfl) (fun _ _ => NewCh.nil _ _ _ _)

set_option maxRecDepth 100000 in
set_option maxHeartbeats 8000000 in
theorem w_impl_callsIn {w0 : World} {F : Nat → Prop} {v1 : Value} {rules_0 : (List GRule)} {κ : (List Int) → Prop} (hF : ∀ b, F b → b < w0.heap.size ∧ ¬ feet [] b) (hv1 : Sl elGRule F w0 v1 rules_0) (h : L_impl_callsIn rules_0 κ) :
    Calls Tryd.prog 97 #[v1] w0 (Ret [] F w0 κ (fun (r : (List Int)) (u : Value) => u) (fun (r : (List Int)) (u : Value) => [ownCh elInt 3 u r])) := by
  refine enterS (args := [v1]) [] hF (Given.nil _ _) Tryd.func97 rfl Tryd.ntmps97 rfl h ?_
  clear h hF
  refine c_seq ?_
  refine c_region ?_
  refine stw (o_asn elInt 3 rfl rfl ?_)
  refine c_nil ?_
  refine l_then ?_
  refine c_seq ?_
  refine c_region ?_
  refine stw (o_allocA (El' := elBool) (z := (false : Bool)) (len := 5) (zs := [(.bool false)]) (fun F w => (flelBool _ _ _ _).2 rfl) rfl zero129 rfl rfl ?_); intro b4
  refine c_nil ?_
  refine l_then ?_
  refine c_seq ?_
  refine c_seq ?_
  refine c_region ?_
  refine o_mv st rfl rfl ?_
  refine o_len st el69 2 rfl (reads_snap hv1) rfl rfl ?_
  refine o_mv st rfl rfl ?_
  refine c_nil ?_
  refine l_then ?_
  refine c_block ?_
  refine c_loop (σ := ((List Bool) × Int)) (fun ((xs6, t8) : ((List Bool) × Int)) (a : Act) (w : World) => Has 34 [(3, (.pointer (some ⟨b4, 0, none⟩))), (9, v1), (10, (.int .i64 (rules_0.length : Int))), (11, (.int .i64 t8))] a ∧ Mem (gB F [] w0) (feet []) w0 [ownCh elBool 129 (.slice (some ⟨b4, 0, none⟩) 5 5) xs6, snapCh w0 F] w) (fun a w hE hm => ⟨hE.sub ⟨rfl, rfl, rfl, rfl, trivial⟩, (hm.pick [0, 2] rfl)⟩) ?_
  rintro nx9 ⟨xs6, t8⟩ a w ⟨hE, hm⟩ h
  refine nx_of hE hm h ?_
  clear hE hm h
  refine c_seq ?_
  refine c_region ?_
  refine o_lss st rfl rfl rfl ?_
  refine c_nil ?_
  refine l_then ?_
  refine c_seq ?_
  refine c_cond rfl ?_ ?_
  · refine c_skip ?_
    refine l_then ?_
    refine c_join (σ := (List Bool)) (fun (xs84 : (List Bool)) (a : Act) (w : World) => Has 34 [(3, (.pointer (some ⟨b4, 0, none⟩))), (9, v1), (10, (.int .i64 (rules_0.length : Int))), (11, (.int .i64 t8))] a ∧ Mem (gB F [] w0) (feet []) w0 [ownCh elBool 129 (.slice (some ⟨b4, 0, none⟩) 5 5) xs84, snapCh w0 F] w) ?_ ?_
    · intro k86
      refine c_block ?_
      refine c_seq ?_
      refine c_region ?_
      refine o_idx st 1 rfl (reads_snap hv1) rfl rfl rfl el69 ?_; intro e10 h11
      obtain ⟨_, ⟨v13, rfl, sl14⟩, rw12⟩ := sl_open hv1 h11
      refine o_ldR st (u := (.agg #[v13, (.int .i64 e10.xAction), (.int .i64 e10.xChain)])) 1 rfl rw12 rfl rfl ty53 rfl ?_
      refine stw (o_alloc rfl [(.slice none 0 0), (.int .i64 0), (.int .i64 0)] zero53 ?_); intro b16
      obtain ⟨a18, l19, q20, hs_⟩ := sl_val sl14; subst hs_
      refine stw (o_stc (cs' := [(.slice a18 l19 q20), (.int .i64 e10.xAction), (.int .i64 e10.xChain)]) 0 rfl rfl rfl ty53 rfl rfl rfl rfl ?_)
      refine c_nil ?_
      refine l_then ?_
      refine c_seq ?_
      refine c_region ?_
      refine o_fad st rfl rfl fld53_1 rfl ?_
      refine o_ldc st (v := (.int .i64 e10.xAction)) 0 rfl rfl rfl ty3 rfl ?_
      refine o_eql st und3 rfl rfl rfl ?_
      refine c_nil ?_
      refine l_then ?_
      refine c_cond rfl ?_ ?_
      · refine c_region ?_
        refine o_fad st rfl rfl fld53_2 rfl ?_
        refine o_ldc st (v := (.int .i64 e10.xChain)) 0 rfl rfl rfl ty3 rfl ?_
        refine o_ixa st 1 rfl reads_own rfl rfl rfl arr129 ?_; intro e21 h22
        refine stw (o_sts (enc := encBool) (y' := true) 1 rfl flelBool rfl h22 ty4 rfl rfl rfl rfl rfl rfl ?_)
        refine c_nil ?_
        refine b_norm ?_
        exact l_join (xs6.set (e10.xChain).toNat true) (fun a w hE hm => ⟨hE.sub ⟨rfl, rfl, rfl, rfl, trivial⟩, (hm.pick [1, 2] rfl)⟩)
      · refine c_skip ?_
        refine b_norm ?_
        exact l_join xs6 (fun a w hE hm => ⟨hE.sub ⟨rfl, rfl, rfl, rfl, trivial⟩, (hm.pick [1, 2] rfl)⟩)
    · rintro xs84 a w ⟨hE, hm⟩ h
      refine nx_of hE hm h ?_
      clear hE hm h
      refine c_region ?_
      refine o_add st rfl rfl rfl ?_; intro t87
      refine o_mv st rfl rfl ?_
      refine c_nil ?_
      exact l_join (xs84, t87) (fun a w hE hm => ⟨hE.sub ⟨rfl, rfl, rfl, rfl, trivial⟩, (hm.pick [0, 1] rfl)⟩)
  · refine c_exit ?_
    refine l_exit ?_
    refine l_exit ?_
    refine b_exit ?_
    refine l_then ?_
    refine c_seq ?_
    refine c_region ?_
    refine stw (o_asn elInt 3 rfl rfl ?_)
    refine c_nil ?_
    refine l_then ?_
    refine c_seq ?_
    refine c_seq ?_
    refine c_region ?_
    refine nx_unl5 1 rfl ?_; intro e89 e90 e91 e92 e93
    refine stw (o_ldA m_op (u := [(.bool e89), (.bool e90), (.bool e91), (.bool e92), (.bool e93)]) 1 rfl reads_own flelBool rfl rfl ty129 rfl rfl ?_)
    refine o_mv st rfl rfl ?_
    refine c_nil ?_
    refine l_then ?_
    refine c_block ?_
    refine c_loop (σ := ((List Int) × Int)) (fun ((xs96, t99) : ((List Int) × Int)) (a : Act) (w : World) => ∃ (v95 : Value), Has 34 [(6, v95), (22, (.agg #[(.bool e89), (.bool e90), (.bool e91), (.bool e92), (.bool e93)])), (23, (.int .i64 t99))] a ∧ Mem (gB F [] w0) (feet []) w0 [ownCh elInt 3 v95 xs96] w) (fun a w hE hm => ⟨(.slice none 0 0), hE.sub ⟨rfl, rfl, rfl, trivial⟩, (hm.pick [0] rfl)⟩) ?_
    rintro nx100 ⟨xs96, t99⟩ a w ⟨v95, hE, hm⟩ h
    refine nx_of hE hm h ?_
    clear hE hm h
    refine c_seq ?_
    refine c_region ?_
    refine o_lss st rfl rfl rfl ?_
    refine c_nil ?_
    refine l_then ?_
    refine c_seq ?_
    refine c_cond rfl ?_ ?_
    · refine c_skip ?_
      refine l_then ?_
      refine c_join (σ := (List Int)) (fun (xs166 : (List Int)) (a : Act) (w : World) => ∃ (v167 : Value), Has 34 [(6, v167), (22, (.agg #[(.bool e89), (.bool e90), (.bool e91), (.bool e92), (.bool e93)])), (23, (.int .i64 t99))] a ∧ Mem (gB F [] w0) (feet []) w0 [ownCh elInt 3 v167 xs166] w) ?_ ?_
      · intro k169
        refine c_block ?_
        refine c_seq ?_
        refine c_region ?_
        refine o_mv st rfl rfl ?_
        refine o_ixv st (enc := encBool) (zs := [e89, e90, e91, e92, e93]) (u := fun (e101 : Bool) => (.bool e101)) rfl rfl rfl arr129 rfl rfl (fun _ => rfl) (fun _ => rfl) ?_; intro e101
        refine o_as st rfl rfl ?_
        refine o_as st rfl rfl ?_
        refine c_nil ?_
        refine l_then ?_
        refine c_seq ?_
        refine c_region ?_
        refine o_mv st rfl rfl ?_
        refine c_nil ?_
        refine l_then ?_
        refine c_cond rfl ?_ ?_
        · refine c_region ?_
          refine o_mv st rfl rfl ?_
          refine o_mv st rfl rfl ?_
          refine stw (o_bsl (enc := encInt) (qs := [(0, (.int .i64 t99))]) (cells := [(.int .i64 t99)]) ([t99]) flelInt (by intro ρ h; simp only [List.map_toArray, List.map_cons, List.map_nil, h (.tmp 29) _ rfl]) rfl el103 zero3 rfl rfl rfl rfl rfl rfl ?_); intro v102
          refine stw (o_app 1 0 rfl rfl (src_flat flelInt reads_own) rfl rfl rfl el103 rfl zero3 rfl rfl ?_); intro v104
          refine o_as st rfl rfl ?_
          refine c_nil ?_
          refine b_norm ?_
          exact l_join (xs96 ++ ([t99])) (fun a w hE hm => ⟨v104, hE.sub ⟨rfl, rfl, rfl, trivial⟩, (hm.pick [1] rfl)⟩)
        · refine c_skip ?_
          refine b_norm ?_
          exact l_join xs96 (fun a w hE hm => ⟨v95, hE.sub ⟨rfl, rfl, rfl, trivial⟩, (hm.pick [0] rfl)⟩)
      · rintro xs166 a w ⟨v167, hE, hm⟩ h
        refine nx_of hE hm h ?_
        clear hE hm h
        refine c_region ?_
        refine o_add st rfl rfl rfl ?_; intro t170
        refine o_mv st rfl rfl ?_
        refine c_nil ?_
        exact l_join (xs166, t170) (fun a w hE hm => ⟨v167, hE.sub ⟨rfl, rfl, rfl, trivial⟩, (hm.pick [0] rfl)⟩)
    · refine c_exit ?_
      refine l_exit ?_
      refine l_exit ?_
      refine b_exit ?_
      refine l_then ?_
      refine c_seq ?_
      refine c_region ?_
      refine o_mv st rfl rfl ?_
      refine o_as st rfl rfl ?_
      refine c_nil ?_
      refine l_then ?_
      refine c_ret ?_
      exact l_end1 Tryd.results97 xs96 v95 (rv_t rfl) (fun w m => NewCh.ofB m [0] rfl)

set_option maxRecDepth 100000 in
set_option maxHeartbeats 8000000 in
theorem wr_impl_visitCalls : ∀ (n : Nat) {w0 : World} {F : Nat → Prop} {b3 : Nat} {v1 : Value} {chains_0 : (List (List GRule))} {chain_1 : Int} {colours_2 : (List Int)} {κ : (Bool × (List Int)) → Prop} (hF : ∀ b, F b → b < w0.heap.size ∧ ¬ feet [ownCh elInt 130 (.slice (some ⟨b3, 0, none⟩) 5 5) colours_2] b) (hg : Given [ownCh elInt 130 (.slice (some ⟨b3, 0, none⟩) 5 5) colours_2] F w0) (hv1 : Sl (elSl elGRule) F w0 v1 chains_0) (h : R_impl_visitCalls n chains_0 chain_1 colours_2 κ),
    Calls Tryd.prog 101 #[v1, (.int .i64 chain_1), (.pointer (some ⟨b3, 0, none⟩))] w0 (Ret [ownCh elInt 130 (.slice (some ⟨b3, 0, none⟩) 5 5) colours_2] F w0 κ (fun (r : (Bool × (List Int))) (u : Unit) => (.bool r.1)) (fun (r : (Bool × (List Int))) (u : Unit) => [ownCh elInt 130 (.slice (some ⟨b3, 0, none⟩) 5 5) r.2])) := by
  intro n
  induction n with
  | zero =>
    intro w0 F b3 v1 chains_0 chain_1 colours_2 κ hF hg hv1 h
    exact (h : False).elim
  | succ n ih =>
    intro w0 F b3 v1 chains_0 chain_1 colours_2 κ hF hg hv1 h
    replace h : B_impl_visitCalls (R_impl_visitCalls n) chains_0 chain_1 colours_2 κ := h
    revert h ih
    generalize R_impl_visitCalls n = rec
    intro ih h
    refine enterS (args := [v1, (.int .i64 chain_1), (.pointer (some ⟨b3, 0, none⟩))]) [ownCh elInt 130 (.slice (some ⟨b3, 0, none⟩) 5 5) colours_2] hF hg Tryd.func101 rfl Tryd.ntmps101 rfl h ?_
    clear h hF hg
    refine c_seq ?_
    refine c_region ?_
    refine o_as st rfl rfl ?_
    refine c_nil ?_
    refine l_then ?_
    refine c_seq ?_
    refine c_seq ?_
    refine c_region ?_
    refine o_mv st rfl rfl ?_
    refine o_mv st rfl rfl ?_
    refine o_len st el62 1 rfl (reads_snap hv1) rfl rfl ?_
    refine o_geq st rfl rfl rfl ?_
    refine c_nil ?_
    refine l_then ?_
    refine c_cond rfl ?_ ?_
    · refine c_seq ?_
      refine c_region ?_
      refine o_as st rfl rfl ?_
      refine c_nil ?_
      refine l_then ?_
      refine c_ret ?_
      refine l_ret ?_
      exact l_end1 Tryd.results101 (true, colours_2) () (rv_t rfl) (fun w m => NewCh.ofB m [0] rfl)
    · refine c_skip ?_
      refine l_then ?_
      refine c_seq ?_
      refine c_seq ?_
      refine c_region ?_
      refine o_mv st rfl rfl ?_
      refine o_mv st rfl rfl ?_
      refine o_nilc st rfl rfl ?_
      refine o_ixa st 0 rfl reads_own rfl rfl rfl arr130 ?_; intro e5 h6
      refine o_lds st (enc := encInt) (u := (.int .i64 e5)) 0 rfl reads_own flelInt rfl h6 rfl rfl ty3 rfl ?_
      refine c_nil ?_
      refine l_then ?_
      refine c_block ?_
      refine c_seq ?_
      refine c_region ?_
      refine o_eql st und3 rfl rfl rfl ?_
      refine o_as st rfl rfl ?_
      refine c_nil ?_
      refine l_then ?_
      refine c_cond rfl ?_ ?_
      · refine c_seq ?_
        refine c_region ?_
        refine o_as st rfl rfl ?_
        refine c_nil ?_
        refine l_then ?_
        refine c_ret ?_
        refine b_ret ?_
        refine l_ret ?_
        exact l_end1 Tryd.results101 (false, colours_2) () (rv_t rfl) (fun w m => NewCh.ofB m [0] rfl)
      · refine c_seq ?_
        refine c_region ?_
        refine o_eql st und3 rfl rfl rfl ?_
        refine o_as st rfl rfl ?_
        refine c_nil ?_
        refine l_then ?_
        refine c_cond rfl ?_ ?_
        · refine c_seq ?_
          refine c_region ?_
          refine o_as st rfl rfl ?_
          refine c_nil ?_
          refine l_then ?_
          refine c_ret ?_
          refine b_ret ?_
          refine l_ret ?_
          exact l_end1 Tryd.results101 (true, colours_2) () (rv_t rfl) (fun w m => NewCh.ofB m [0] rfl)
        · refine c_skip ?_
          refine b_norm ?_
          refine l_then ?_
          refine c_seq ?_
          refine c_region ?_
          refine o_mv st rfl rfl ?_
          refine o_mv st rfl rfl ?_
          refine o_nilc st rfl rfl ?_
          refine o_ixa st 0 rfl reads_own rfl rfl rfl arr130 ?_; intro e7 h8
          refine stw (o_sts (enc := encInt) (y' := 1) 0 rfl flelInt rfl h8 ty3 rfl rfl rfl rfl rfl rfl ?_)
          refine c_nil ?_
          refine l_then ?_
          refine c_seq ?_
          refine c_region ?_
          refine o_as st rfl rfl ?_
          refine c_nil ?_
          refine l_then ?_
          refine c_seq ?_
          refine c_seq ?_
          refine c_region ?_
          refine o_mv st rfl rfl ?_
          refine o_mv st rfl rfl ?_
          refine o_idx st 1 rfl (reads_snap hv1) rfl rfl rfl el62 ?_; intro e10 h11
          obtain ⟨_, ⟨v13, rfl, sl14⟩, rw12⟩ := sl_open hv1 h11
          refine o_ldR st (u := v13) 1 rfl rw12 rfl rfl ty69 rfl ?_
          refine stw (o_callP (vs := [v13]) Tryd.call97 rfl rfl (by intro w m h; exact (w_impl_callsIn (F := allB [] w) (rules_0 := e10) allB_ok (m.rd0 1 rfl (reads_snap sl14)) h).mono (fun _ _ k => ret_free (fun r u => (fr_cons (free_own flelInt) fr_nil)) k)) ?_); rintro r16 v17
          refine o_len st el103 0 rfl reads_own rfl rfl ?_
          refine o_mv st rfl rfl ?_
          refine c_nil ?_
          refine l_then ?_
          refine c_block ?_
          refine c_loop (σ := ((List Int) × Bool × Int)) (fun ((xs19, t21, t22) : ((List Int) × Bool × Int)) (a : Act) (w : World) => Has 48 [(0, v1), (1, (.int .i64 chain_1)), (2, (.pointer (some ⟨b3, 0, none⟩))), (7, (.bool t21)), (31, v17), (32, (.int .i64 (r16.length : Int))), (33, (.int .i64 t22))] a ∧ Mem (gB F [ownCh elInt 130 (.slice (some ⟨b3, 0, none⟩) 5 5) colours_2] w0) (feet [ownCh elInt 130 (.slice (some ⟨b3, 0, none⟩) 5 5) colours_2]) w0 [ownCh elInt 3 v17 r16, ownCh elInt 130 (.slice (some ⟨b3, 0, none⟩) 5 5) xs19, snapCh w0 F] w) (fun a w hE hm => ⟨hE.sub ⟨rfl, rfl, rfl, rfl, rfl, rfl, rfl, trivial⟩, (hm.pick [0, 1, 2] rfl)⟩) ?_
          rintro nx23 ⟨xs19, t21, t22⟩ a w ⟨hE, hm⟩ h
          refine nx_of hE hm h ?_
          clear hE hm h
          refine c_seq ?_
          refine c_region ?_
          refine o_lss st rfl rfl rfl ?_
          refine c_nil ?_
          refine l_then ?_
          refine c_seq ?_
          refine c_cond rfl ?_ ?_
          · refine c_skip ?_
            refine l_then ?_
            refine c_join (σ := ((List Int) × Bool)) (fun ((xs89, t91) : ((List Int) × Bool)) (a : Act) (w : World) => Has 48 [(0, v1), (1, (.int .i64 chain_1)), (2, (.pointer (some ⟨b3, 0, none⟩))), (7, (.bool t91)), (31, v17), (32, (.int .i64 (r16.length : Int))), (33, (.int .i64 t22))] a ∧ Mem (gB F [ownCh elInt 130 (.slice (some ⟨b3, 0, none⟩) 5 5) colours_2] w0) (feet [ownCh elInt 130 (.slice (some ⟨b3, 0, none⟩) 5 5) colours_2]) w0 [ownCh elInt 130 (.slice (some ⟨b3, 0, none⟩) 5 5) xs89, ownCh elInt 3 v17 r16, snapCh w0 F] w) ?_ ?_
            · intro k92
              refine c_block ?_
              refine c_seq ?_
              refine c_region ?_
              refine o_idx st 0 rfl reads_own rfl rfl rfl el103 ?_; intro e24 h25
              refine o_lds st (enc := encInt) (u := (.int .i64 e24)) 0 rfl reads_own flelInt rfl h25 rfl rfl ty3 rfl ?_
              refine o_as st rfl rfl ?_
              refine c_nil ?_
              refine l_then ?_
              refine c_seq ?_
              refine c_region ?_
              refine o_mv st rfl rfl ?_
              refine o_mv st rfl rfl ?_
              refine o_mv st rfl rfl ?_
              refine pk [1, 0, 2] rfl ?_
              refine stw (o_call (vs := [v1, (.int .i64 e24), (.pointer (some ⟨b3, 0, none⟩))]) (M0 := [ownCh elInt 130 (.slice (some ⟨b3, 0, none⟩) 5 5) xs19]) Tryd.call101 rfl rfl (by intro w m h; exact (ih (F := allB [ownCh elInt 130 (.slice (some ⟨b3, 0, none⟩) 5 5) xs19] w) (chains_0 := chains_0) (chain_1 := e24) (colours_2 := xs19) allB_ok m.given (m.rdM 1 rfl (reads_snap hv1)) h).mono (fun _ _ k => ret_free (fun r u => (fr_cons (free_own flelInt) fr_nil)) k)) ?_); rintro ⟨r26, r27⟩ _
              refine o_not st rfl rfl ?_
              refine c_nil ?_
              refine l_then ?_
              refine c_cond rfl ?_ ?_
              · refine c_region ?_
                refine o_as st rfl rfl ?_
                refine c_nil ?_
                refine b_norm ?_
                exact l_join (r27, false) (fun a w hE hm => ⟨hE.sub ⟨rfl, rfl, rfl, rfl, rfl, rfl, rfl, trivial⟩, (hm.pick [0, 1, 2] rfl)⟩)
              · refine c_skip ?_
                refine b_norm ?_
                exact l_join (r27, t21) (fun a w hE hm => ⟨hE.sub ⟨rfl, rfl, rfl, rfl, rfl, rfl, rfl, trivial⟩, (hm.pick [0, 1, 2] rfl)⟩)
            · rintro ⟨xs89, t91⟩ a w ⟨hE, hm⟩ h
              refine nx_of hE hm h ?_
              clear hE hm h
              refine c_region ?_
              refine o_add st rfl rfl rfl ?_; intro t93
              refine o_mv st rfl rfl ?_
              refine c_nil ?_
              exact l_join (xs89, t91, t93) (fun a w hE hm => ⟨hE.sub ⟨rfl, rfl, rfl, rfl, rfl, rfl, rfl, trivial⟩, (hm.pick [1, 0, 2] rfl)⟩)
          · refine c_exit ?_
            refine l_exit ?_
            refine l_exit ?_
            refine b_exit ?_
            refine l_then ?_
            refine c_seq ?_
            refine c_region ?_
            refine o_mv st rfl rfl ?_
            refine o_mv st rfl rfl ?_
            refine o_nilc st rfl rfl ?_
            refine o_ixa st 1 rfl reads_own rfl rfl rfl arr130 ?_; intro e94 h95
            refine stw (o_sts (enc := encInt) (y' := 2) 1 rfl flelInt rfl h95 ty3 rfl rfl rfl rfl rfl rfl ?_)
            refine c_nil ?_
            refine l_then ?_
            refine c_seq ?_
            refine c_region ?_
            refine o_mv st rfl rfl ?_
            refine o_as st rfl rfl ?_
            refine c_nil ?_
            refine l_then ?_
            refine c_ret ?_
            exact l_end1 Tryd.results101 (t21, (xs19.set (chain_1).toNat 2)) () (rv_t rfl) (fun w m => NewCh.ofB m [1] rfl)
theorem w_impl_visitCalls {w0 : World} {F : Nat → Prop} {b3 : Nat} {v1 : Value} {chains_0 : (List (List GRule))} {chain_1 : Int} {colours_2 : (List Int)} {κ : (Bool × (List Int)) → Prop} (hF : ∀ b, F b → b < w0.heap.size ∧ ¬ feet [ownCh elInt 130 (.slice (some ⟨b3, 0, none⟩) 5 5) colours_2] b) (hg : Given [ownCh elInt 130 (.slice (some ⟨b3, 0, none⟩) 5 5) colours_2] F w0) (hv1 : Sl (elSl elGRule) F w0 v1 chains_0) (h : L_impl_visitCalls chains_0 chain_1 colours_2 κ) :
    Calls Tryd.prog 101 #[v1, (.int .i64 chain_1), (.pointer (some ⟨b3, 0, none⟩))] w0 (Ret [ownCh elInt 130 (.slice (some ⟨b3, 0, none⟩) 5 5) colours_2] F w0 κ (fun (r : (Bool × (List Int))) (u : Unit) => (.bool r.1)) (fun (r : (Bool × (List Int))) (u : Unit) => [ownCh elInt 130 (.slice (some ⟨b3, 0, none⟩) 5 5) r.2])) := by
  obtain ⟨n, h⟩ := h
  exact wr_impl_visitCalls n hF hg hv1 h


end Go.Proofs.YtnogaeckmiekdaaDoor
