/- Texts of this seat, put together. -/
import Derived.Test.YtlcjkhnamgklgaaDoorMP3
set_option linter.unusedSimpArgs false
set_option linter.unusedVariables false
namespace Go.Proofs.YtlcjkhnamgklgaaDoor
section
open Go.RowKit
set_option maxRecDepth 100000 in
set_option maxHeartbeats 8000000 in
theorem w_laws_markRuleS {w0 : World} {F : Nat → Prop} {v1 : Value} {bb2 : List Nat} {a_0 : (List GRule)} {k_1 : Int} {κ : (Int × (List GRule)) → Prop} (hF : ∀ b, F b → b < w0.heap.size ∧ ¬ feet [dpCh dGRule 54 bb2 v1 a_0] b) (hg : Given [dpCh dGRule 54 bb2 v1 a_0] F w0) (h : L_laws_markRuleS a_0 k_1 κ) :
    Calls Tryd.prog 65 #[v1, (.int .i64 k_1)] w0 (Ret [dpCh dGRule 54 bb2 v1 a_0] F w0 κ (fun (r : (Int × (List GRule))) (u : List Nat) => (.int .i64 r.1)) (fun (r : (Int × (List GRule))) (u : List Nat) => [dpCh dGRule 54 u v1 r.2])) := by
  refine enter0 (args := [v1, (.int .i64 k_1)]) [dpCh dGRule 54 bb2 v1 a_0] hF hg Tryd.func65 rfl Tryd.ntmps65 rfl h ?_
  clear h hF hg
  refine c_seq ?_
  refine c_region ?_
  refine o_as st rfl rfl ?_
  refine c_nil ?_
  refine l_then ?_
  refine c_seq ?_
  refine c_seq ?_
  refine c_region ?_
  refine o_as st rfl rfl ?_
  refine c_nil ?_
  refine l_then ?_
  refine c_block ?_
  refine c_loop (σ := ((List GRule) × Int × Int)) (fun ((xs4, t7, t8) : ((List GRule) × Int × Int)) (a : Act) (w : World) => ∃ (bb6 : List Nat), Has 34 [(0, v1), (1, (.int .i64 t7)), (5, (.int .i64 t8))] a ∧ Mem (gB F [dpCh dGRule 54 bb2 v1 a_0] w0) (feet [dpCh dGRule 54 bb2 v1 a_0]) w0 [dpCh dGRule 54 bb6 v1 xs4] w) (fun a w hE hm => ⟨bb2, hE.sub ⟨rfl, rfl, rfl, trivial⟩, (hm.pick [0] rfl)⟩) ?_
  rintro nx9 ⟨xs4, t7, t8⟩ a w ⟨bb6, hE, hm⟩ h
  refine nx_of hE hm h ?_
  clear hE hm h
  refine c_seq ?_
  refine c_seq ?_
  refine c_region ?_
  refine o_mv st rfl rfl ?_
  refine o_mv st rfl rfl ?_
  refine o_len st el50 0 rfl reads_dp rfl rfl ?_
  refine o_lss st rfl rfl rfl ?_
  refine c_nil ?_
  refine l_then ?_
  refine c_cond rfl ?_ ?_
  · refine c_skip ?_
    refine l_then ?_
    refine c_seq ?_
    refine c_block ?_
    refine c_seq ?_
    refine c_region ?_
    refine o_mv st rfl rfl ?_
    refine o_mv st rfl rfl ?_
    refine o_idx st 0 rfl reads_dp rfl rfl rfl el50 ?_; intro e10 h11
    refine o_fadS st 0 rfl reads_dp h11 rfl rfl fld54_0 rfl ?_
    refine stw (o_ldF (E1 := dGTest) (t1 := 84) (zin := e10.xTests) (encz := fun v => [v, (.int .i64 e10.xAction), (.int .i64 e10.xChain)]) rfl h11 (fun B w cs h => h) rfl rfl ty52 ?_); rintro v12 bb13 bb14; refine ⟨v12, rfl, ?_⟩; refine nx_flatdp 1 rfl ?_
    refine o_mv st rfl rfl ?_
    refine pk [1, 0] rfl ?_
    refine stw (o_call (vs := [v12, (.int .i64 t7)]) (M0 := [ownCh elGTest 84 v12 e10.xTests]) Tryd.call83 rfl rfl (by intro w m h; exact (w_laws_markTestS (F := allB [ownCh elGTest 84 v12 e10.xTests] w) (a_0 := e10.xTests) (k_1 := t7) allB_ok m.given h).mono (fun _ _ k => ret_free (fun r u => (fr_cons (free_own flelGTest) fr_nil)) k)) ?_); rintro ⟨r16, r17⟩ _
    refine o_as st rfl rfl ?_
    refine c_nil ?_
    refine l_then ?_
    refine c_seq ?_
    refine c_region ?_
    refine o_mv st rfl rfl ?_
    refine o_mv st rfl rfl ?_
    refine o_mv st rfl rfl ?_
    refine pk [1, 0] rfl ?_
    refine nx_close (M := [ownCh elGTest 84 v12 r17]) (y' := (GRule.mk r17 e10.xAction e10.xChain)) (absorb_one (gives_own flelGTest) (fun B w h => ⟨_, rfl, h⟩)) ?_; intro bb19
    refine o_idx st 0 rfl reads_dp rfl rfl rfl el50 ?_; intro e21 h22
    refine o_fadS st 0 rfl reads_dp h22 rfl rfl fld54_1 rfl ?_
    refine stw (o_stP (y' := (GRule.mk e21.xTests r16 e21.xChain)) 0 rfl rfl h22 (fun w B cz h => by obtain ⟨u, rfl, h⟩ := h; exact ⟨u, rfl, h⟩) ty3 rfl rfl rfl rfl rfl ?_)
    refine c_nil ?_
    refine l_then ?_
    refine c_seq ?_
    refine c_region ?_
    refine o_mv st rfl rfl ?_
    refine o_add st rfl rfl rfl ?_; intro t24
    refine o_as st rfl rfl ?_
    refine c_nil ?_
    refine l_then ?_
    refine c_seq ?_
    refine c_region ?_
    refine o_mv st rfl rfl ?_
    refine o_mv st rfl rfl ?_
    refine o_mv st rfl rfl ?_
    refine o_idx st 0 rfl reads_dp rfl rfl rfl el50 ?_; intro e25 h26
    refine o_fadS st 0 rfl reads_dp h26 rfl rfl fld54_2 rfl ?_
    refine stw (o_stP (y' := (GRule.mk e25.xTests e25.xAction t24)) 0 rfl rfl h26 (fun w B cz h => by obtain ⟨u, rfl, h⟩ := h; exact ⟨u, rfl, h⟩) ty3 rfl rfl rfl rfl rfl ?_)
    refine c_nil ?_
    refine l_then ?_
    refine c_region ?_
    refine o_mv st rfl rfl ?_
    refine o_add st rfl rfl rfl ?_; intro t28
    refine o_as st rfl rfl ?_
    refine c_nil ?_
    refine b_norm ?_
    refine l_then ?_
    refine c_region ?_
    refine o_mv st rfl rfl ?_
    refine o_add st rfl rfl rfl ?_; intro t29
    refine o_as st rfl rfl ?_
    refine c_nil ?_
    exact l_join ((((xs4.set (t8).toNat (GRule.mk r17 e10.xAction e10.xChain)).set (t8).toNat (GRule.mk e21.xTests r16 e21.xChain)).set (t8).toNat (GRule.mk e25.xTests e25.xAction t24)), t28, t29) (fun a w hE hm => ⟨bb19, hE.sub ⟨rfl, rfl, rfl, trivial⟩, (hm.pick [0] rfl)⟩)
  · refine c_exit ?_
    refine l_exit ?_
    refine l_exit ?_
    refine b_exit ?_
    refine l_then ?_
    refine c_seq ?_
    refine c_region ?_
    refine o_mv st rfl rfl ?_
    refine o_as st rfl rfl ?_
    refine c_nil ?_
    refine l_then ?_
    refine c_ret ?_
    exact l_end1 Tryd.results65 (t7, xs4) bb6 (rv_t rfl) (fun w m => NewCh.ofB m [0] rfl)

set_option maxRecDepth 100000 in
set_option maxHeartbeats 8000000 in
theorem w_laws_markRuleSS {w0 : World} {F : Nat → Prop} {v1 : Value} {bb2 : List Nat} {a_0 : (List (List GRule))} {k_1 : Int} {κ : (Int × (List (List GRule))) → Prop} (hF : ∀ b, F b → b < w0.heap.size ∧ ¬ feet [dpCh (dSl dGRule 54) 50 bb2 v1 a_0] b) (hg : Given [dpCh (dSl dGRule 54) 50 bb2 v1 a_0] F w0) (h : L_laws_markRuleSS a_0 k_1 κ) :
    Calls Tryd.prog 40 #[v1, (.int .i64 k_1)] w0 (Ret [dpCh (dSl dGRule 54) 50 bb2 v1 a_0] F w0 κ (fun (r : (Int × (List (List GRule)))) (u : List Nat) => (.int .i64 r.1)) (fun (r : (Int × (List (List GRule)))) (u : List Nat) => [dpCh (dSl dGRule 54) 50 u v1 r.2])) := by
  refine enter0 (args := [v1, (.int .i64 k_1)]) [dpCh (dSl dGRule 54) 50 bb2 v1 a_0] hF hg Tryd.func40 rfl Tryd.ntmps40 rfl h ?_
  clear h hF hg
  refine c_seq ?_
  refine c_region ?_
  refine o_as st rfl rfl ?_
  refine c_nil ?_
  refine l_then ?_
  refine c_seq ?_
  refine c_seq ?_
  refine c_region ?_
  refine o_as st rfl rfl ?_
  refine c_nil ?_
  refine l_then ?_
  refine c_block ?_
  refine c_loop (σ := ((List (List GRule)) × Int × Int)) (fun ((xs4, t7, t8) : ((List (List GRule)) × Int × Int)) (a : Act) (w : World) => ∃ (bb6 : List Nat), Has 19 [(0, v1), (1, (.int .i64 t7)), (5, (.int .i64 t8))] a ∧ Mem (gB F [dpCh (dSl dGRule 54) 50 bb2 v1 a_0] w0) (feet [dpCh (dSl dGRule 54) 50 bb2 v1 a_0]) w0 [dpCh (dSl dGRule 54) 50 bb6 v1 xs4] w) (fun a w hE hm => ⟨bb2, hE.sub ⟨rfl, rfl, rfl, trivial⟩, (hm.pick [0] rfl)⟩) ?_
  rintro nx9 ⟨xs4, t7, t8⟩ a w ⟨bb6, hE, hm⟩ h
  refine nx_of hE hm h ?_
  clear hE hm h
  refine c_seq ?_
  refine c_seq ?_
  refine c_region ?_
  refine o_mv st rfl rfl ?_
  refine o_mv st rfl rfl ?_
  refine o_len st el28 0 rfl reads_dp rfl rfl ?_
  refine o_lss st rfl rfl rfl ?_
  refine c_nil ?_
  refine l_then ?_
  refine c_cond rfl ?_ ?_
  · refine c_skip ?_
    refine l_then ?_
    refine c_seq ?_
    refine c_block ?_
    refine c_region ?_
    refine o_mv st rfl rfl ?_
    refine o_mv st rfl rfl ?_
    refine o_idx st 0 rfl reads_dp rfl rfl rfl el28 ?_; intro e10 h11
    refine stw (o_ldF (E1 := dGRule) (t1 := 54) (zin := e10) (encz := fun v => [v]) rfl h11 (fun B w cs h => h) rfl rfl ty50 ?_); rintro v12 bb13 bb14; refine ⟨v12, rfl, ?_⟩
    refine o_mv st rfl rfl ?_
    refine pk [1, 0] rfl ?_
    refine stw (o_call (vs := [v12, (.int .i64 t7)]) (M0 := [dpCh dGRule 54 bb14 v12 e10]) Tryd.call65 rfl rfl (by intro w m h; exact (w_laws_markRuleS (F := allB [dpCh dGRule 54 bb14 v12 e10] w) (a_0 := e10) (k_1 := t7) allB_ok m.given h).mono (fun _ _ k => ret_free (fun r u => (fr_cons free_dp fr_nil)) k)) ?_); rintro ⟨r16, r17⟩ bb18
    refine o_as st rfl rfl ?_
    refine c_nil ?_
    refine b_norm ?_
    refine l_then ?_
    refine c_region ?_
    refine o_mv st rfl rfl ?_
    refine o_add st rfl rfl rfl ?_; intro t20
    refine o_as st rfl rfl ?_
    refine c_nil ?_
    refine pk [1, 0] rfl ?_
    refine nx_close (M := [dpCh dGRule 54 bb18 v12 r17]) (y' := r17) (absorb_one gives_dp (fun B w h => ⟨_, rfl, h⟩)) ?_; intro bb21
    exact l_join ((xs4.set (t8).toNat r17), r16, t20) (fun a w hE hm => ⟨bb21, hE.sub ⟨rfl, rfl, rfl, trivial⟩, (hm.pick [0] rfl)⟩)
  · refine c_exit ?_
    refine l_exit ?_
    refine l_exit ?_
    refine b_exit ?_
    refine l_then ?_
    refine c_seq ?_
    refine c_region ?_
    refine o_mv st rfl rfl ?_
    refine o_as st rfl rfl ?_
    refine c_nil ?_
    refine l_then ?_
    refine c_ret ?_
    exact l_end1 Tryd.results40 (t7, xs4) bb6 (rv_t rfl) (fun w m => NewCh.ofB m [0] rfl)

set_option maxRecDepth 100000 in
set_option maxHeartbeats 8000000 in
theorem w_laws_markRuleset {w0 : World} {F : Nat → Prop} {v1 : Value} {bb2 : List Nat} {a_0_Chains : (List (List GRule))} {a_0_Accept : Bool} {k_1 : Int} {κ : (Int × (List (List GRule))) → Prop} (hF : ∀ b, F b → b < w0.heap.size ∧ ¬ feet [dpCh (dSl dGRule 54) 50 bb2 v1 a_0_Chains] b) (hg : Given [dpCh (dSl dGRule 54) 50 bb2 v1 a_0_Chains] F w0) (h : L_laws_markRuleset a_0_Chains a_0_Accept k_1 κ) :
    Calls Tryd.prog 15 #[(.agg #[v1, (.bool a_0_Accept)]), (.int .i64 k_1)] w0 (Ret [dpCh (dSl dGRule 54) 50 bb2 v1 a_0_Chains] F w0 κ (fun (r : (Int × (List (List GRule)))) (u : List Nat) => (.int .i64 r.1)) (fun (r : (Int × (List (List GRule)))) (u : List Nat) => [dpCh (dSl dGRule 54) 50 u v1 r.2])) := by
  refine enter0 (args := [(.agg #[v1, (.bool a_0_Accept)]), (.int .i64 k_1)]) [dpCh (dSl dGRule 54) 50 bb2 v1 a_0_Chains] hF hg Tryd.func15 rfl Tryd.ntmps15 rfl h ?_
  clear h hF hg
  refine c_seq ?_
  refine c_region ?_
  refine stw (o_box rfl rfl [v1, (.bool a_0_Accept)] rfl ?_); intro b4
  refine o_as st rfl rfl ?_
  refine c_nil ?_
  refine l_then ?_
  refine c_seq ?_
  refine c_region ?_
  refine o_fad st rfl rfl fld30_0 rfl ?_
  refine o_ldc st (v := v1) 0 rfl rfl rfl ty28 rfl ?_
  refine o_mv st rfl rfl ?_
  refine pk [1, 0] rfl ?_
  refine stw (o_call (vs := [v1, (.int .i64 k_1)]) (M0 := [dpCh (dSl dGRule 54) 50 bb2 v1 a_0_Chains]) Tryd.call40 rfl rfl (by intro w m h; exact (w_laws_markRuleSS (F := allB [dpCh (dSl dGRule 54) 50 bb2 v1 a_0_Chains] w) (a_0 := a_0_Chains) (k_1 := k_1) allB_ok m.given h).mono (fun _ _ k => ret_free (fun r u => (fr_cons free_dp fr_nil)) k)) ?_); rintro ⟨r6, r7⟩ bb8
  refine o_as st rfl rfl ?_
  refine c_nil ?_
  refine l_then ?_
  refine c_seq ?_
  refine c_region ?_
  refine o_mv st rfl rfl ?_
  refine o_as st rfl rfl ?_
  refine c_nil ?_
  refine l_then ?_
  refine c_ret ?_
  exact l_end1 Tryd.results15 (r6, r7) bb8 (rv_t rfl) (fun w m => NewCh.ofB m [0] rfl)

set_option maxRecDepth 100000 in
set_option maxHeartbeats 8000000 in
theorem w_laws_markText {w0 : World} {F : Nat → Prop} {k_0 : Int} {κ : ByteArray → Prop} (hF : ∀ b, F b → b < w0.heap.size ∧ ¬ feet [] b) (h : L_laws_markText k_0 κ) :
    Calls Tryd.prog 41 #[(.int .i64 k_0)] w0 (Ret [] F w0 κ (fun (r : ByteArray) (u : Unit) => (.string r)) (fun (r : ByteArray) (u : Unit) => [])) := by
  refine enter0 (args := [(.int .i64 k_0)]) [] hF (Given.nil _ _) Tryd.func41 rfl Tryd.ntmps41 rfl h ?_
  clear h hF
  refine c_seq ?_
  refine c_region ?_
  refine o_as st rfl rfl ?_
  refine c_nil ?_
  refine l_then ?_
  refine c_seq ?_
  refine c_seq ?_
  refine c_region ?_
  refine o_mv st rfl rfl ?_
  refine o_leq st rfl rfl rfl ?_
  refine c_nil ?_
  refine l_then ?_
  refine c_cond rfl ?_ ?_
  · refine c_seq ?_
    refine c_region ?_
    refine o_as st rfl rfl ?_
    refine c_nil ?_
    refine l_then ?_
    refine c_ret ?_
    refine l_ret ?_
    exact l_end1 Tryd.results41 (ByteArray.mk #[109, 48]) () (rv_t rfl) (fun _ _ => NewCh.nil _ _ _ _)
  · refine c_skip ?_
    refine l_then ?_
    refine c_seq ?_
    refine c_region ?_
    refine o_as st rfl rfl ?_
    refine c_nil ?_
    refine l_then ?_
    refine c_seq ?_
    refine c_block ?_
    refine c_loop (σ := (Int × ByteArray)) (fun ((t1, t2) : (Int × ByteArray)) (a : Act) (w : World) => Has 20 [(0, (.int .i64 t1)), (3, (.string t2))] a ∧ Mem (gB F [] w0) (feet []) w0 [] w) (fun a w hE hm => ⟨hE.sub ⟨rfl, rfl, trivial⟩, (hm.pick [] rfl)⟩) ?_
    rintro nx3 ⟨t1, t2⟩ a w ⟨hE, hm⟩ h
    refine nx_of hE hm h ?_
    clear hE hm h
    refine c_seq ?_
    refine c_seq ?_
    refine c_region ?_
    refine o_mv st rfl rfl ?_
    refine o_gtr st rfl rfl rfl ?_
    refine c_nil ?_
    refine l_then ?_
    refine c_cond rfl ?_ ?_
    · refine c_skip ?_
      refine l_then ?_
      refine c_block ?_
      refine c_seq ?_
      refine c_region ?_
      refine o_mv st rfl rfl ?_
      refine o_rem st rfl rfl rfl ?_; intro t4
      refine o_add st rfl rfl rfl ?_; intro t5
      refine o_cnvU st und3 und5 rfl rfl ?_; intro t6
      refine stw (o_bsl (enc := encU8) (qs := [(0, (.int .u8 (t6.toNat : Int)))]) (cells := [(.int .u8 (t6.toNat : Int))]) ([t6]) flelU8 (by intro ρ h; simp only [List.map_toArray, List.map_cons, List.map_nil, h (.tmp 11) _ rfl]) rfl el40 zero5 rfl rfl rfl rfl rfl rfl ?_); intro v7
      refine o_b2s st 0 rfl reads_own flelU8 rfl und40 und5 und9 rfl rfl ?_
      refine o_mv st rfl rfl ?_
      refine o_cat st rfl rfl rfl ?_; intro s9
      refine o_as st rfl rfl ?_
      refine c_nil ?_
      refine l_then ?_
      refine c_region ?_
      refine o_mv st rfl rfl ?_
      refine o_quo st rfl rfl rfl ?_; intro t10
      refine o_as st rfl rfl ?_
      refine c_nil ?_
      refine b_norm ?_
      exact l_join (t10, s9) (fun a w hE hm => ⟨hE.sub ⟨rfl, rfl, trivial⟩, (hm.pick [] rfl)⟩)
    · refine c_exit ?_
      refine l_exit ?_
      refine l_exit ?_
      refine b_exit ?_
      refine l_then ?_
      refine c_seq ?_
      refine c_region ?_
      refine o_mv st rfl rfl ?_
      refine o_cat st rfl rfl rfl ?_; intro s11
      refine o_as st rfl rfl ?_
      refine c_nil ?_
      refine l_then ?_
      refine c_ret ?_
      exact l_end1 Tryd.results41 s11 () (rv_t rfl) (fun _ _ => NewCh.nil _ _ _ _)

set_option maxRecDepth 100000 in
set_option maxHeartbeats 8000000 in
theorem w_laws_markStringS {w0 : World} {F : Nat → Prop} {v1 : Value} {a_0 : (List ByteArray)} {k_1 : Int} {κ : (Int × (List ByteArray)) → Prop} (hF : ∀ b, F b → b < w0.heap.size ∧ ¬ feet [ownCh elStr 9 v1 a_0] b) (hg : Given [ownCh elStr 9 v1 a_0] F w0) (h : L_laws_markStringS a_0 k_1 κ) :
    Calls Tryd.prog 16 #[v1, (.int .i64 k_1)] w0 (Ret [ownCh elStr 9 v1 a_0] F w0 κ (fun (r : (Int × (List ByteArray))) (u : Unit) => (.int .i64 r.1)) (fun (r : (Int × (List ByteArray))) (u : Unit) => [ownCh elStr 9 v1 r.2])) := by
  refine enter0 (args := [v1, (.int .i64 k_1)]) [ownCh elStr 9 v1 a_0] hF hg Tryd.func16 rfl Tryd.ntmps16 rfl h ?_
  clear h hF hg
  refine c_seq ?_
  refine c_region ?_
  refine o_as st rfl rfl ?_
  refine c_nil ?_
  refine l_then ?_
  refine c_seq ?_
  refine c_seq ?_
  refine c_region ?_
  refine o_as st rfl rfl ?_
  refine c_nil ?_
  refine l_then ?_
  refine c_block ?_
  refine c_loop (σ := ((List ByteArray) × Int × Int)) (fun ((xs3, t5, t6) : ((List ByteArray) × Int × Int)) (a : Act) (w : World) => Has 20 [(0, v1), (1, (.int .i64 t5)), (5, (.int .i64 t6))] a ∧ Mem (gB F [ownCh elStr 9 v1 a_0] w0) (feet [ownCh elStr 9 v1 a_0]) w0 [ownCh elStr 9 v1 xs3] w) (fun a w hE hm => ⟨hE.sub ⟨rfl, rfl, rfl, trivial⟩, (hm.pick [0] rfl)⟩) ?_
  rintro nx7 ⟨xs3, t5, t6⟩ a w ⟨hE, hm⟩ h
  refine nx_of hE hm h ?_
  clear hE hm h
  refine c_seq ?_
  refine c_seq ?_
  refine c_region ?_
  refine o_mv st rfl rfl ?_
  refine o_mv st rfl rfl ?_
  refine o_len st el26 0 rfl reads_own rfl rfl ?_
  refine o_lss st rfl rfl rfl ?_
  refine c_nil ?_
  refine l_then ?_
  refine c_cond rfl ?_ ?_
  · refine c_skip ?_
    refine l_then ?_
    refine c_seq ?_
    refine c_block ?_
    refine c_seq ?_
    refine c_region ?_
    refine o_mv st rfl rfl ?_
    refine o_mv st rfl rfl ?_
    refine o_mv st rfl rfl ?_
    refine stw (o_callP (vs := [(.int .i64 t5)]) Tryd.call41 rfl rfl (by intro w m h; exact (w_laws_markText (F := allB [] w) (k_0 := t5) allB_ok h).mono (fun _ _ k => ret_free (fun r u => fr_nil) k)) ?_); rintro r8 _
    refine o_idx st 0 rfl reads_own rfl rfl rfl el26 ?_; intro e9 h10
    refine stw (o_sts (enc := encStr) (y' := r8) 0 rfl flelStr rfl h10 ty9 rfl rfl rfl rfl rfl rfl ?_)
    refine c_nil ?_
    refine l_then ?_
    refine c_region ?_
    refine o_mv st rfl rfl ?_
    refine o_add st rfl rfl rfl ?_; intro t12
    refine o_as st rfl rfl ?_
    refine c_nil ?_
    refine b_norm ?_
    refine l_then ?_
    refine c_region ?_
    refine o_mv st rfl rfl ?_
    refine o_add st rfl rfl rfl ?_; intro t13
    refine o_as st rfl rfl ?_
    refine c_nil ?_
    exact l_join ((xs3.set (t6).toNat r8), t12, t13) (fun a w hE hm => ⟨hE.sub ⟨rfl, rfl, rfl, trivial⟩, (hm.pick [0] rfl)⟩)
  · refine c_exit ?_
    refine l_exit ?_
    refine l_exit ?_
    refine b_exit ?_
    refine l_then ?_
    refine c_seq ?_
    refine c_region ?_
    refine o_mv st rfl rfl ?_
    refine o_as st rfl rfl ?_
    refine c_nil ?_
    refine l_then ?_
    refine c_ret ?_
    exact l_end1 Tryd.results16 (t5, xs3) () (rv_t rfl) (fun w m => NewCh.ofB m [0] rfl)

set_option maxRecDepth 100000 in
set_option maxHeartbeats 8000000 in
theorem w_laws_heldStringS {w0 : World} {F : Nat → Prop} {v1 : Value} {a_0 : (List ByteArray)} {k_1 : Int} {κ : Int → Prop} (hF : ∀ b, F b → b < w0.heap.size ∧ ¬ feet [] b) (hv1 : Sl elStr F w0 v1 a_0) (h : L_laws_heldStringS a_0 k_1 κ) :
    Calls Tryd.prog 17 #[v1, (.int .i64 k_1)] w0 (Ret [] F w0 κ (fun (r : Int) (u : Unit) => (.int .i64 r)) (fun (r : Int) (u : Unit) => [])) := by
  refine enterS (args := [v1, (.int .i64 k_1)]) [] hF (Given.nil _ _) Tryd.func17 rfl Tryd.ntmps17 rfl h ?_
  clear h hF
  refine c_seq ?_
  refine c_region ?_
  refine o_as st rfl rfl ?_
  refine c_nil ?_
  refine l_then ?_
  refine c_seq ?_
  refine c_seq ?_
  refine c_region ?_
  refine o_as st rfl rfl ?_
  refine c_nil ?_
  refine l_then ?_
  refine c_block ?_
  refine c_loop (σ := (Int × Int)) (fun ((t3, t4) : (Int × Int)) (a : Act) (w : World) => Has 22 [(0, v1), (1, (.int .i64 t3)), (5, (.int .i64 t4))] a ∧ Mem (gB F [] w0) (feet []) w0 [snapCh w0 F] w) (fun a w hE hm => ⟨hE.sub ⟨rfl, rfl, rfl, trivial⟩, (hm.pick [0] rfl)⟩) ?_
  rintro nx5 ⟨t3, t4⟩ a w ⟨hE, hm⟩ h
  refine nx_of hE hm h ?_
  clear hE hm h
  refine c_seq ?_
  refine c_seq ?_
  refine c_region ?_
  refine o_mv st rfl rfl ?_
  refine o_mv st rfl rfl ?_
  refine o_len st el26 0 rfl (reads_snap hv1) rfl rfl ?_
  refine o_lss st rfl rfl rfl ?_
  refine c_nil ?_
  refine l_then ?_
  refine c_cond rfl ?_ ?_
  · refine c_skip ?_
    refine l_then ?_
    refine c_seq ?_
    refine c_block ?_
    refine c_seq ?_
    refine c_seq ?_
    refine c_draw mixed 7 rfl [snapCh w0 F] ?_
    refine o_mv (dt 0 (fun _ m => m)) rfl rfl ?_
    refine o_mv (dt 1 (fun _ m => m)) rfl rfl ?_
    refine o_idx (dt 2 (fun _ m => m)) 0 rfl (reads_snap hv1) rfl rfl rfl el26 ?_; intro e6 h7
    refine o_lds (dt 3 (fun _ m => m)) (enc := encStr) (u := (.string e6)) 0 rfl (reads_snap hv1) flelStr rfl h7 rfl rfl ty9 rfl ?_
    refine o_mv (dt 4 (fun _ m => m)) rfl rfl ?_
    refine d_one (i := 5) rfl (by kernel_rfl) (o_callP (vs := [(.int .i64 t3)]) Tryd.call41 rfl rfl (by intro w m h; exact (w_laws_markText (F := allB [] w) (k_0 := t3) allB_ok h).mono (fun _ _ k => ret_free (fun r u => fr_nil) k)) ?_); rintro r8 _
    refine d_and (fun _ m => m) ?_
    refine o_neqS (dt 6 (fun _ m => m)) und9 rfl rfl rfl ?_
    refine d_done (by kernel_rfl) ?_
    refine l_then ?_
    refine c_cond rfl ?_ ?_
    · refine c_seq ?_
      refine c_region ?_
      refine o_as st rfl rfl ?_
      refine c_nil ?_
      refine l_then ?_
      refine c_ret ?_
      refine l_ret ?_
      refine b_ret ?_
      refine l_ret ?_
      refine l_ret ?_
      refine b_ret ?_
      refine l_ret ?_
      exact l_end1 Tryd.results17 (-1) () (rv_t rfl) (fun _ _ => NewCh.nil _ _ _ _)
    · refine c_skip ?_
      refine l_then ?_
      refine c_region ?_
      refine o_mv st rfl rfl ?_
      refine o_add st rfl rfl rfl ?_; intro t9
      refine o_as st rfl rfl ?_
      refine c_nil ?_
      refine b_norm ?_
      refine l_then ?_
      refine c_region ?_
      refine o_mv st rfl rfl ?_
      refine o_add st rfl rfl rfl ?_; intro t10
      refine o_as st rfl rfl ?_
      refine c_nil ?_
      exact l_join (t9, t10) (fun a w hE hm => ⟨hE.sub ⟨rfl, rfl, rfl, trivial⟩, (hm.pick [0] rfl)⟩)
  · refine c_exit ?_
    refine l_exit ?_
    refine l_exit ?_
    refine b_exit ?_
    refine l_then ?_
    refine c_seq ?_
    refine c_region ?_
    refine o_mv st rfl rfl ?_
    refine o_as st rfl rfl ?_
    refine c_nil ?_
    refine l_then ?_
    refine c_ret ?_
    exact l_end1 Tryd.results17 t3 () (rv_t rfl) (fun _ _ => NewCh.nil _ _ _ _)

set_option maxRecDepth 100000 in
set_option maxHeartbeats 8000000 in
theorem w_laws_FnExactRulesetText {w0 : World} {F : Nat → Prop} {v1 : Value} {aS_0 : GRuleset} {κ : Bool → Prop} (hF : ∀ b, F b → b < w0.heap.size ∧ ¬ feet [] b) (hv1 : Sl (elSl elGRule) F w0 v1 aS_0.xChains) (hgl0 : Sl elGFieldShape F w0 (.slice (some ⟨0, 0, none⟩) 4 4) gl_impl_fieldShapes) (hgl1 : Tb F w0) (h : L_laws_FnExactRulesetText aS_0 κ) :
    Calls Tryd.prog 3 #[(.agg #[v1, (.bool aS_0.xAccept)])] w0 (Ret [] F w0 κ (fun (r : Bool) (u : Unit) => (.bool r)) (fun (r : Bool) (u : Unit) => [])) := by
  refine enterS (args := [(.agg #[v1, (.bool aS_0.xAccept)])]) [] hF (Given.nil _ _) Tryd.func3 rfl Tryd.ntmps3 rfl h ?_
  clear h hF
  refine c_seq ?_
  refine c_region ?_
  obtain ⟨a3, l4, q5, hs_⟩ := sl_val hv1; subst hs_
  refine stw (o_box rfl rfl [(.slice a3 l4 q5), (.bool aS_0.xAccept)] rfl ?_); intro b6
  refine o_as st rfl rfl ?_
  refine c_nil ?_
  refine l_then ?_
  refine c_seq ?_
  refine c_region ?_
  refine o_as st rfl rfl ?_
  refine c_nil ?_
  refine l_then ?_
  refine c_seq ?_
  refine c_region ?_
  refine o_ldc st (v := (.agg #[(.slice a3 l4 q5), (.bool aS_0.xAccept)])) 0 rfl rfl rfl ty24 rfl ?_
  refine o_mv st rfl rfl ?_
  refine stw (o_callP (vs := [(.agg #[(.slice a3 l4 q5), (.bool aS_0.xAccept)]), (.int .i64 1048576)]) Tryd.call9 rfl rfl (by intro w m h; exact (w_laws_szRuleset (F := allB [] w) (a_0 := aS_0) (left_1 := 1048576) allB_ok (m.rd0 1 rfl (reads_snap hv1)) h).mono (fun _ _ k => ret_free (fun r u => fr_nil) k)) ?_); rintro r8 _
  refine o_as st rfl rfl ?_
  refine c_nil ?_
  refine l_then ?_
  refine c_seq ?_
  refine c_seq ?_
  refine c_region ?_
  refine o_mv st rfl rfl ?_
  refine o_lss st rfl rfl rfl ?_
  refine c_nil ?_
  refine l_then ?_
  refine c_cond rfl ?_ ?_
  · refine c_seq ?_
    refine c_region ?_
    refine o_as st rfl rfl ?_
    refine c_nil ?_
    refine l_then ?_
    refine c_ret ?_
    refine l_ret ?_
    exact l_end1 Tryd.results3 true () (rv_t rfl) (fun _ _ => NewCh.nil _ _ _ _)
  · refine c_skip ?_
    refine l_then ?_
    refine c_seq ?_
    refine c_region ?_
    refine o_ldc st (v := (.agg #[(.slice a3 l4 q5), (.bool aS_0.xAccept)])) 0 rfl rfl rfl ty24 rfl ?_
    refine stw (o_callP (vs := [(.agg #[(.slice a3 l4 q5), (.bool aS_0.xAccept)])]) Tryd.call11 rfl rfl (by intro w m h; exact (w_laws_toRuleset (F := allB [] w) (a_0 := aS_0) allB_ok (m.rd0 1 rfl (reads_snap hv1)) h).mono (fun _ _ k => ret_free (fun r u => (fr_cons free_dp fr_nil)) k)) ?_); rintro r9 ⟨v10, bb11⟩
    refine stw (o_callP (vs := [(.agg #[v10, (.bool r9.xAccept)])]) Tryd.call10 rfl rfl (by intro w m h; exact (w_spec_RulesetText (F := allB [] w) (s_0 := r9) allB_ok (m.rd0 0 rfl reads_dp) h).mono (fun _ _ k => ret_free (fun r u => (fr_cons (free_own flelStr) fr_nil)) k)) ?_); rintro r13 v14
    refine o_as st rfl rfl ?_
    refine c_nil ?_
    refine l_then ?_
    refine c_seq ?_
    refine c_region ?_
    refine o_ldc st (v := (.agg #[(.slice a3 l4 q5), (.bool aS_0.xAccept)])) 2 rfl rfl rfl ty24 rfl ?_
    refine stw (o_callP (vs := [(.agg #[(.slice a3 l4 q5), (.bool aS_0.xAccept)])]) Tryd.call11 rfl rfl (by intro w m h; exact (w_laws_toRuleset (F := allB [] w) (a_0 := aS_0) allB_ok (m.rd0 3 rfl (reads_snap hv1)) h).mono (fun _ _ k => ret_free (fun r u => (fr_cons free_dp fr_nil)) k)) ?_); rintro r16 ⟨v17, bb18⟩
    refine stw (o_alloc rfl [(.slice none 0 0), (.bool false)] zero30 ?_); intro b20
    refine nx_dp 1 rfl ?_; rintro a22 l23 q24 rfl
    refine stw (o_stc (cs' := [(.slice a22 l23 q24), (.bool r16.xAccept)]) 0 rfl rfl rfl ty30 rfl rfl rfl rfl ?_)
    refine c_nil ?_
    refine l_then ?_
    refine c_seq ?_
    refine c_region ?_
    refine o_ldc st (v := (.agg #[(.slice a22 l23 q24), (.bool r16.xAccept)])) 0 rfl rfl rfl ty30 rfl ?_
    refine stw (o_callP (vs := [(.agg #[(.slice a22 l23 q24), (.bool r16.xAccept)])]) Tryd.call12 rfl rfl (by intro w m h; exact (w_impl_RulesetText (F := allB [] w) (s_0 := r16) allB_ok (m.rd0 1 rfl reads_dp) (m.rd0 5 rfl (reads_snap hgl0)) ((hgl1.of (m.get (i := 5) rfl)).mono fz_ok0) h).mono (fun _ _ k => ret_free (fun r u => (fr_cons (free_own flelStr) fr_nil)) k)) ?_); rintro r25 v26
    refine o_as st rfl rfl ?_
    refine c_nil ?_
    refine l_then ?_
    refine c_seq ?_
    refine c_seq ?_
    refine c_region ?_
    refine o_mv st rfl rfl ?_
    refine o_mv st rfl rfl ?_
    refine stw (o_callP (vs := [v26, v14]) Tryd.call13 rfl rfl (by intro w m h; exact (w_laws_eqStringS (F := allB [] w) (a_0 := r25) (b_1 := r13) allB_ok (m.rd0 0 rfl reads_own) (m.rd0 3 rfl reads_own) h).mono (fun _ _ k => ret_free (fun r u => fr_nil) k)) ?_); rintro r28 _
    refine o_not st rfl rfl ?_
    refine c_nil ?_
    refine l_then ?_
    refine c_cond rfl ?_ ?_
    · refine c_seq ?_
      refine c_region ?_
      refine o_as st rfl rfl ?_
      refine c_nil ?_
      refine l_then ?_
      refine c_ret ?_
      refine l_ret ?_
      exact l_end1 Tryd.results3 false () (rv_t rfl) (fun _ _ => NewCh.nil _ _ _ _)
    · refine c_skip ?_
      refine l_then ?_
      refine c_seq ?_
      refine c_seq ?_
      refine c_draw mixed 5 rfl [cellCh b20 [(.slice a22 l23 q24), (.bool r16.xAccept)] 30, ownCh elStr 9 v14 r13, dpCh (dSl dGRule 54) 50 bb11 v10 r9.xChains, cellCh b6 [(.slice a3 l4 q5), (.bool aS_0.xAccept)] 24, snapCh w0 F] ?_
      refine o_ldc (dt 0 (fun w m => m.pick [1, 3, 4, 5, 6] rfl)) (v := (.agg #[(.slice a22 l23 q24), (.bool r16.xAccept)])) 0 rfl rfl rfl ty30 rfl ?_
      refine o_ldc (dt 1 (fun w m => m.pick [1, 3, 4, 5, 6] rfl)) (v := (.agg #[(.slice a3 l4 q5), (.bool aS_0.xAccept)])) 3 rfl rfl rfl ty24 rfl ?_
      refine d_one (i := 2) rfl (by kernel_rfl) (o_callP (vs := [(.agg #[(.slice a3 l4 q5), (.bool aS_0.xAccept)])]) Tryd.call11 rfl rfl (by intro w m h; exact (w_laws_toRuleset (F := allB [] w) (a_0 := aS_0) allB_ok (m.rd0 6 rfl (reads_snap hv1)) h).mono (fun _ _ k => ret_free (fun r u => (fr_cons free_dp fr_nil)) k)) ?_); rintro r29 ⟨v30, bb31⟩
      refine d_and (fun w m => m.pick [2, 4, 5, 6, 7] rfl) ?_
      refine d_one (i := 3) rfl (by kernel_rfl) (o_callP (vs := [(.agg #[(.slice a22 l23 q24), (.bool r16.xAccept)]), (.agg #[v30, (.bool r29.xAccept)])]) Tryd.call14 rfl rfl (by intro w m h; exact (w_laws_eqRuleset (F := allB [] w) (a_0 := r16) (b_1 := r29) allB_ok (m.rd0 3 rfl reads_dp) (m.rd0 0 rfl reads_dp) h).mono (fun _ _ k => ret_free (fun r u => fr_nil) k)) ?_); rintro r33 _
      refine d_and (fun w m => m.pick [2, 4, 5, 6, 7] rfl) ?_
      refine o_not (dt 4 (fun w m => m.pick [2, 4, 5, 6, 7] rfl)) rfl rfl ?_
      refine d_done (by kernel_rfl) ?_
      refine l_then ?_
      refine c_cond rfl ?_ ?_
      · refine c_seq ?_
        refine c_region ?_
        refine o_as st rfl rfl ?_
        refine c_nil ?_
        refine l_then ?_
        refine c_ret ?_
        refine l_ret ?_
        exact l_end1 Tryd.results3 false () (rv_t rfl) (fun _ _ => NewCh.nil _ _ _ _)
      · refine c_skip ?_
        refine l_then ?_
        refine c_seq ?_
        refine c_region ?_
        refine o_as st rfl rfl ?_
        refine c_nil ?_
        refine l_then ?_
        refine c_seq ?_
        refine c_region ?_
        refine o_ldc st (v := (.agg #[(.slice a22 l23 q24), (.bool r16.xAccept)])) 2 rfl rfl rfl ty30 rfl ?_
        refine o_mv st rfl rfl ?_
        refine pk [3, 0, 1, 2, 4, 5, 6, 7] rfl ?_
        refine stw (o_call (vs := [(.agg #[(.slice a22 l23 q24), (.bool r16.xAccept)]), (.int .i64 1)]) (M0 := [dpCh (dSl dGRule 54) 50 bb18 (.slice a22 l23 q24) r16.xChains]) Tryd.call15 rfl rfl (by intro w m h; exact (w_laws_markRuleset (F := allB [dpCh (dSl dGRule 54) 50 bb18 (.slice a22 l23 q24) r16.xChains] w) (a_0_Chains := r16.xChains) (a_0_Accept := r16.xAccept) (k_1 := 1) allB_ok m.given h).mono (fun _ _ k => ret_free (fun r u => (fr_cons free_dp fr_nil)) k)) ?_); rintro ⟨r34, r35⟩ bb36
        refine o_as st rfl rfl ?_
        refine c_nil ?_
        refine l_then ?_
        refine c_seq ?_
        refine c_join (σ := Bool) (fun (t99 : Bool) (a : Act) (w : World) => Has 69 [(1, (.pointer (some ⟨b6, 0, none⟩))), (4, v14), (6, v26), (42, (.bool t99))] a ∧ Mem (gB F [] w0) (feet []) w0 [ownCh elStr 9 v26 r25, ownCh elStr 9 v14 r13, cellCh b6 [(.slice a3 l4 q5), (.bool aS_0.xAccept)] 24, snapCh w0 F] w) ?_ ?_
        · intro k100
          refine c_region ?_
          refine o_mv st rfl rfl ?_
          refine o_lss st rfl rfl rfl ?_
          refine o_mv st rfl rfl ?_
          refine st_sp (dj := 37) rfl ?_ ?_
          · refine st_s rfl rfl rfl rfl ?_
            refine st_s rfl rfl rfl rfl ?_
            refine st_s rfl rfl rfl rfl ?_
            refine st_s rfl rfl rfl rfl ?_
            refine o_pickT st rfl rfl rfl ?_
            refine c_nil ?_
            exact l_join true (fun a w hE hm => ⟨hE.sub ⟨rfl, rfl, rfl, rfl, trivial⟩, (hm.pick [2, 4, 6, 7] rfl)⟩)
          · refine o_mv (st_g rfl rfl) rfl rfl ?_
            refine o_mv (st_g rfl rfl) rfl rfl ?_
            refine st_gw rfl rfl (o_callP (vs := [v26, v14]) Tryd.call13 rfl rfl (by intro w m h; exact (w_laws_eqStringS (F := allB [] w) (a_0 := r25) (b_1 := r13) allB_ok (m.rd0 2 rfl reads_own) (m.rd0 4 rfl reads_own) h).mono (fun _ _ k => ret_free (fun r u => fr_nil) k)) ?_); rintro r38 _
            refine o_not (st_g rfl rfl) rfl rfl ?_
            refine o_pickF st rfl rfl rfl ?_
            refine c_nil ?_
            exact l_join (!r38) (fun a w hE hm => ⟨hE.sub ⟨rfl, rfl, rfl, rfl, trivial⟩, (hm.pick [2, 4, 6, 7] rfl)⟩)
        · rintro t99 a w ⟨hE, hm⟩ h
          refine nx_of hE hm h ?_
          clear hE hm h
          refine c_cond rfl ?_ ?_
          · refine c_seq ?_
            refine c_region ?_
            refine o_as st rfl rfl ?_
            refine c_nil ?_
            refine l_then ?_
            refine c_ret ?_
            refine l_ret ?_
            exact l_end1 Tryd.results3 false () (rv_t rfl) (fun _ _ => NewCh.nil _ _ _ _)
          · refine c_skip ?_
            refine l_then ?_
            refine c_seq ?_
            refine c_region ?_
            refine o_as st rfl rfl ?_
            refine c_nil ?_
            refine l_then ?_
            refine c_seq ?_
            refine c_region ?_
            refine o_mv st rfl rfl ?_
            refine o_mv st rfl rfl ?_
            refine stw (o_call (vs := [v26, (.int .i64 1)]) (M0 := [ownCh elStr 9 v26 r25]) Tryd.call16 rfl rfl (by intro w m h; exact (w_laws_markStringS (F := allB [ownCh elStr 9 v26 r25] w) (a_0 := r25) (k_1 := 1) allB_ok m.given h).mono (fun _ _ k => ret_free (fun r u => (fr_cons (free_own flelStr) fr_nil)) k)) ?_); rintro ⟨r101, r102⟩ _
            refine o_as st rfl rfl ?_
            refine c_nil ?_
            refine l_then ?_
            refine c_seq ?_
            refine c_region ?_
            refine o_as st rfl rfl ?_
            refine c_nil ?_
            refine l_then ?_
            refine c_seq ?_
            refine c_region ?_
            refine o_mv st rfl rfl ?_
            refine o_mv st rfl rfl ?_
            refine stw (o_callP (vs := [v26, (.int .i64 1)]) Tryd.call17 rfl rfl (by intro w m h; exact (w_laws_heldStringS (F := allB [] w) (a_0 := r102) (k_1 := 1) allB_ok (m.rd0 0 rfl reads_own) h).mono (fun _ _ k => ret_free (fun r u => fr_nil) k)) ?_); rintro r104 _
            refine o_as st rfl rfl ?_
            refine c_nil ?_
            refine l_then ?_
            refine c_seq ?_
            refine c_seq ?_
            refine c_region ?_
            refine o_mv st rfl rfl ?_
            refine o_lss st rfl rfl rfl ?_
            refine c_nil ?_
            refine l_then ?_
            refine c_cond rfl ?_ ?_
            · refine c_seq ?_
              refine c_region ?_
              refine o_as st rfl rfl ?_
              refine c_nil ?_
              refine l_then ?_
              refine c_ret ?_
              refine l_ret ?_
              exact l_end1 Tryd.results3 false () (rv_t rfl) (fun _ _ => NewCh.nil _ _ _ _)
            · refine c_skip ?_
              refine l_then ?_
              refine c_seq ?_
              refine c_seq ?_
              refine c_region ?_
              refine o_mv st rfl rfl ?_
              refine o_mv st rfl rfl ?_
              refine o_neq st und3 rfl rfl rfl ?_
              refine c_nil ?_
              refine l_then ?_
              refine c_cond rfl ?_ ?_
              · refine c_seq ?_
                refine c_region ?_
                refine o_as st rfl rfl ?_
                refine c_nil ?_
                refine l_then ?_
                refine c_ret ?_
                refine l_ret ?_
                exact l_end1 Tryd.results3 false () (rv_t rfl) (fun _ _ => NewCh.nil _ _ _ _)
              · refine c_skip ?_
                refine l_then ?_
                refine c_seq ?_
                refine c_region ?_
                refine o_ldc st (v := (.agg #[(.slice a3 l4 q5), (.bool aS_0.xAccept)])) 2 rfl rfl rfl ty24 rfl ?_
                refine stw (o_callP (vs := [(.agg #[(.slice a3 l4 q5), (.bool aS_0.xAccept)])]) Tryd.call11 rfl rfl (by intro w m h; exact (w_laws_toRuleset (F := allB [] w) (a_0 := aS_0) allB_ok (m.rd0 3 rfl (reads_snap hv1)) h).mono (fun _ _ k => ret_free (fun r u => (fr_cons free_dp fr_nil)) k)) ?_); rintro r105 ⟨v106, bb107⟩
                refine stw (o_callP (vs := [(.agg #[v106, (.bool r105.xAccept)])]) Tryd.call12 rfl rfl (by intro w m h; exact (w_impl_RulesetText (F := allB [] w) (s_0 := r105) allB_ok (m.rd0 0 rfl reads_dp) (m.rd0 4 rfl (reads_snap hgl0)) ((hgl1.of (m.get (i := 4) rfl)).mono fz_ok0) h).mono (fun _ _ k => ret_free (fun r u => (fr_cons (free_own flelStr) fr_nil)) k)) ?_); rintro r109 v110
                refine o_as st rfl rfl ?_
                refine c_nil ?_
                refine l_then ?_
                refine c_seq ?_
                refine c_seq ?_
                refine c_region ?_
                refine o_mv st rfl rfl ?_
                refine o_mv st rfl rfl ?_
                refine stw (o_callP (vs := [v110, v14]) Tryd.call13 rfl rfl (by intro w m h; exact (w_laws_eqStringS (F := allB [] w) (a_0 := r109) (b_1 := r13) allB_ok (m.rd0 0 rfl reads_own) (m.rd0 3 rfl reads_own) h).mono (fun _ _ k => ret_free (fun r u => fr_nil) k)) ?_); rintro r112 _
                refine o_not st rfl rfl ?_
                refine c_nil ?_
                refine l_then ?_
                refine c_cond rfl ?_ ?_
                · refine c_seq ?_
                  refine c_region ?_
                  refine o_as st rfl rfl ?_
                  refine c_nil ?_
                  refine l_then ?_
                  refine c_ret ?_
                  refine l_ret ?_
                  exact l_end1 Tryd.results3 false () (rv_t rfl) (fun _ _ => NewCh.nil _ _ _ _)
                · refine c_skip ?_
                  refine l_then ?_
                  refine c_seq ?_
                  refine c_region ?_
                  refine o_as st rfl rfl ?_
                  refine c_nil ?_
                  refine l_then ?_
                  refine c_seq ?_
                  refine c_region ?_
                  refine o_mv st rfl rfl ?_
                  refine o_mv st rfl rfl ?_
                  refine stw (o_callP (vs := [v26, (.int .i64 1)]) Tryd.call17 rfl rfl (by intro w m h; exact (w_laws_heldStringS (F := allB [] w) (a_0 := r102) (k_1 := 1) allB_ok (m.rd0 2 rfl reads_own) h).mono (fun _ _ k => ret_free (fun r u => fr_nil) k)) ?_); rintro r113 _
                  refine o_as st rfl rfl ?_
                  refine c_nil ?_
                  refine l_then ?_
                  refine c_seq ?_
                  refine c_seq ?_
                  refine c_region ?_
                  refine o_mv st rfl rfl ?_
                  refine o_lss st rfl rfl rfl ?_
                  refine c_nil ?_
                  refine l_then ?_
                  refine c_cond rfl ?_ ?_
                  · refine c_seq ?_
                    refine c_region ?_
                    refine o_as st rfl rfl ?_
                    refine c_nil ?_
                    refine l_then ?_
                    refine c_ret ?_
                    refine l_ret ?_
                    exact l_end1 Tryd.results3 false () (rv_t rfl) (fun _ _ => NewCh.nil _ _ _ _)
                  · refine c_skip ?_
                    refine l_then ?_
                    refine c_seq ?_
                    refine c_seq ?_
                    refine c_region ?_
                    refine o_mv st rfl rfl ?_
                    refine o_mv st rfl rfl ?_
                    refine o_neq st und3 rfl rfl rfl ?_
                    refine c_nil ?_
                    refine l_then ?_
                    refine c_cond rfl ?_ ?_
                    · refine c_seq ?_
                      refine c_region ?_
                      refine o_as st rfl rfl ?_
                      refine c_nil ?_
                      refine l_then ?_
                      refine c_ret ?_
                      refine l_ret ?_
                      exact l_end1 Tryd.results3 false () (rv_t rfl) (fun _ _ => NewCh.nil _ _ _ _)
                    · refine c_skip ?_
                      refine l_then ?_
                      refine c_seq ?_
                      refine c_region ?_
                      refine o_as st rfl rfl ?_
                      refine c_nil ?_
                      refine l_then ?_
                      refine c_ret ?_
                      exact l_end1 Tryd.results3 true () (rv_t rfl) (fun _ _ => NewCh.nil _ _ _ _)

end

end Go.Proofs.YtlcjkhnamgklgaaDoor
