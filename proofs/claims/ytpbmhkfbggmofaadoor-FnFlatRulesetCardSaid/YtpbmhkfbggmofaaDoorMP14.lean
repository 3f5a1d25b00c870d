/- Texts of this seat, put together. -/
import Derived.Test.YtpbmhkfbggmofaaDoorMP13
set_option linter.unusedSimpArgs false
set_option linter.unusedVariables false
set_option linter.unusedSectionVars false
namespace Go.Proofs.YtpbmhkfbggmofaaDoor
section
open Go.RowKit
set_option maxRecDepth 100000 in
set_option maxHeartbeats 8000000 in
theorem wr_impl_visitCalls : ∀ (n : Nat) {w0 : World} {F : Nat → Prop} {b3 : Nat} {v1 : Value} {chains_0 : (List (List GRule))} {chain_1 : Int} {colours_2 : (List Int)} {κ : (Bool × (List Int)) → Prop} (hF : ∀ b, F b → b < w0.heap.size ∧ ¬ feet [ownCh elInt 138 (.slice (some ⟨b3, 0, none⟩) 5 5) colours_2] b) (hg : Given [ownCh elInt 138 (.slice (some ⟨b3, 0, none⟩) 5 5) colours_2] F w0) (hv1 : Sl (elSl elGRule) F w0 v1 chains_0) (h : R_impl_visitCalls n chains_0 chain_1 colours_2 κ),
    Calls Tryd.prog 89 #[v1, (.int .i64 chain_1), (.pointer (some ⟨b3, 0, none⟩))] w0 (Ret [ownCh elInt 138 (.slice (some ⟨b3, 0, none⟩) 5 5) colours_2] F w0 κ (fun (r : (Bool × (List Int))) (u : Unit) => (.bool r.1)) (fun (r : (Bool × (List Int))) (u : Unit) => [ownCh elInt 138 (.slice (some ⟨b3, 0, none⟩) 5 5) r.2])) := by
  intro n
  induction n with
  | zero =>
    intro w0 F b3 v1 chains_0 chain_1 colours_2 κ hF hg hv1 h
    exact (h : False).elim
  | succ n ih =>
    intro w0 F b3 v1 chains_0 chain_1 colours_2 κ hF hg hv1 h
    replace h : B_impl_visitCalls (R_impl_visitCalls n) chains_0 chain_1 colours_2 κ := h
    revert h ih
    generalize R_impl_visitCalls n = rec
    intro ih h
    refine enterS (args := [v1, (.int .i64 chain_1), (.pointer (some ⟨b3, 0, none⟩))]) [ownCh elInt 138 (.slice (some ⟨b3, 0, none⟩) 5 5) colours_2] hF hg Tryd.func89 rfl Tryd.ntmps89 rfl h ?_
    clear h hF hg
    refine c_seq ?_
    refine c_region ?_
    refine o_as st rfl rfl ?_
    refine c_nil ?_
    refine l_then ?_
    refine c_seq ?_
    refine c_seq ?_
    refine c_region ?_
    refine o_mv st rfl rfl ?_
    refine o_mv st rfl rfl ?_
    refine o_len st el34 1 rfl (reads_snap hv1) rfl rfl ?_
    refine o_geq st rfl rfl rfl ?_
    refine c_nil ?_
    refine l_then ?_
    refine c_cond rfl ?_ ?_
    · refine c_seq ?_
      refine c_region ?_
      refine o_as st rfl rfl ?_
      refine c_nil ?_
      refine l_then ?_
      refine c_ret ?_
      refine l_ret ?_
      exact l_end1 Tryd.results89 (true, colours_2) () (rv_t rfl) (fun w m => NewCh.ofB m [0] rfl)
    · refine c_skip ?_
      refine l_then ?_
      refine c_seq ?_
      refine c_seq ?_
      refine c_region ?_
      refine o_mv st rfl rfl ?_
      refine o_mv st rfl rfl ?_
      refine o_nilc st rfl rfl ?_
      refine o_ixa st 0 rfl reads_own rfl rfl rfl arr138 ?_; intro e5 h6
      refine o_lds st (enc := encInt) (u := (.int .i64 e5)) 0 rfl reads_own flelInt rfl h6 rfl rfl ty3 rfl ?_
      refine c_nil ?_
      refine l_then ?_
      refine c_block ?_
      refine c_seq ?_
      refine c_region ?_
      refine o_eql st und3 rfl rfl rfl ?_
      refine o_as st rfl rfl ?_
      refine c_nil ?_
      refine l_then ?_
      refine c_cond rfl ?_ ?_
      · refine c_seq ?_
        refine c_region ?_
        refine o_as st rfl rfl ?_
        refine c_nil ?_
        refine l_then ?_
        refine c_ret ?_
        refine b_ret ?_
        refine l_ret ?_
        exact l_end1 Tryd.results89 (false, colours_2) () (rv_t rfl) (fun w m => NewCh.ofB m [0] rfl)
      · refine c_seq ?_
        refine c_region ?_
        refine o_eql st und3 rfl rfl rfl ?_
        refine o_as st rfl rfl ?_
        refine c_nil ?_
        refine l_then ?_
        refine c_cond rfl ?_ ?_
        · refine c_seq ?_
          refine c_region ?_
          refine o_as st rfl rfl ?_
          refine c_nil ?_
          refine l_then ?_
          refine c_ret ?_
          refine b_ret ?_
          refine l_ret ?_
          exact l_end1 Tryd.results89 (true, colours_2) () (rv_t rfl) (fun w m => NewCh.ofB m [0] rfl)
        · refine c_skip ?_
          refine b_norm ?_
          refine l_then ?_
          refine c_seq ?_
          refine c_region ?_
          refine o_mv st rfl rfl ?_
          refine o_mv st rfl rfl ?_
          refine o_nilc st rfl rfl ?_
          refine o_ixa st 0 rfl reads_own rfl rfl rfl arr138 ?_; intro e7 h8
          refine stw (o_sts (enc := encInt) (y' := 1) 0 rfl flelInt rfl h8 ty3 rfl rfl rfl rfl rfl rfl ?_)
          refine c_nil ?_
          refine l_then ?_
          refine c_seq ?_
          refine c_region ?_
          refine o_as st rfl rfl ?_
          refine c_nil ?_
          refine l_then ?_
          refine c_seq ?_
          refine c_seq ?_
          refine c_region ?_
          refine o_mv st rfl rfl ?_
          refine o_mv st rfl rfl ?_
          refine o_idx st 1 rfl (reads_snap hv1) rfl rfl rfl el34 ?_; intro e10 h11
          obtain ⟨_, ⟨v13, rfl, sl14⟩, rw12⟩ := sl_open hv1 h11
          refine o_ldR st (u := v13) 1 rfl rw12 rfl rfl ty54 rfl ?_
          refine stw (o_callP (vs := [v13]) Tryd.call56 rfl rfl (by intro w m h; exact (w_impl_callsIn (F := allB [] w) (rules_0 := e10) allB_ok (m.rd0 1 rfl (reads_snap sl14)) h).mono (fun _ _ k => ret_free (fun r u => (fr_cons (free_own flelInt) fr_nil)) k)) ?_); rintro r16 v17
          refine o_len st el27 0 rfl reads_own rfl rfl ?_
          refine o_mv st rfl rfl ?_
          refine c_nil ?_
          refine l_then ?_
          refine c_block ?_
          refine c_loop (σ := ((List Int) × Bool × Int)) (fun ((xs19, t21, t22) : ((List Int) × Bool × Int)) (a : Act) (w : World) => Has 48 [(0, v1), (1, (.int .i64 chain_1)), (2, (.pointer (some ⟨b3, 0, none⟩))), (7, (.bool t21)), (31, v17), (32, (.int .i64 (r16.length : Int))), (33, (.int .i64 t22))] a ∧ Mem (gB F [ownCh elInt 138 (.slice (some ⟨b3, 0, none⟩) 5 5) colours_2] w0) (feet [ownCh elInt 138 (.slice (some ⟨b3, 0, none⟩) 5 5) colours_2]) w0 [ownCh elInt 3 v17 r16, ownCh elInt 138 (.slice (some ⟨b3, 0, none⟩) 5 5) xs19, snapCh w0 F] w) (fun a w hE hm => ⟨hE.sub ⟨rfl, rfl, rfl, rfl, rfl, rfl, rfl, trivial⟩, (hm.pick [0, 1, 2] rfl)⟩) ?_
          rintro nx23 ⟨xs19, t21, t22⟩ a w ⟨hE, hm⟩ h
          refine nx_of hE hm h ?_
          clear hE hm h
          refine c_seq ?_
          refine c_region ?_
          refine o_lss st rfl rfl rfl ?_
          refine c_nil ?_
          refine l_then ?_
          refine c_seq ?_
          refine c_cond rfl ?_ ?_
          · refine c_skip ?_
            refine l_then ?_
            refine c_join (σ := ((List Int) × Bool)) (fun ((xs89, t91) : ((List Int) × Bool)) (a : Act) (w : World) => Has 48 [(0, v1), (1, (.int .i64 chain_1)), (2, (.pointer (some ⟨b3, 0, none⟩))), (7, (.bool t91)), (31, v17), (32, (.int .i64 (r16.length : Int))), (33, (.int .i64 t22))] a ∧ Mem (gB F [ownCh elInt 138 (.slice (some ⟨b3, 0, none⟩) 5 5) colours_2] w0) (feet [ownCh elInt 138 (.slice (some ⟨b3, 0, none⟩) 5 5) colours_2]) w0 [ownCh elInt 138 (.slice (some ⟨b3, 0, none⟩) 5 5) xs89, ownCh elInt 3 v17 r16, snapCh w0 F] w) ?_ ?_
            · intro k92
              refine c_block ?_
              refine c_seq ?_
              refine c_region ?_
              refine o_idx st 0 rfl reads_own rfl rfl rfl el27 ?_; intro e24 h25
              refine o_lds st (enc := encInt) (u := (.int .i64 e24)) 0 rfl reads_own flelInt rfl h25 rfl rfl ty3 rfl ?_
              refine o_as st rfl rfl ?_
              refine c_nil ?_
              refine l_then ?_
              refine c_seq ?_
              refine c_region ?_
              refine o_mv st rfl rfl ?_
              refine o_mv st rfl rfl ?_
              refine o_mv st rfl rfl ?_
              refine pk [1, 0, 2] rfl ?_
              refine stw (o_call (vs := [v1, (.int .i64 e24), (.pointer (some ⟨b3, 0, none⟩))]) (M0 := [ownCh elInt 138 (.slice (some ⟨b3, 0, none⟩) 5 5) xs19]) Tryd.call89 rfl rfl (by intro w m h; exact (ih (F := allB [ownCh elInt 138 (.slice (some ⟨b3, 0, none⟩) 5 5) xs19] w) (chains_0 := chains_0) (chain_1 := e24) (colours_2 := xs19) allB_ok m.given (m.rdM 1 rfl (reads_snap hv1)) h).mono (fun _ _ k => ret_free (fun r u => (fr_cons (free_own flelInt) fr_nil)) k)) ?_); rintro ⟨r26, r27⟩ _
              refine o_not st rfl rfl ?_
              refine c_nil ?_
              refine l_then ?_
              refine c_cond rfl ?_ ?_
              · refine c_region ?_
                refine o_as st rfl rfl ?_
                refine c_nil ?_
                refine b_norm ?_
                exact l_join (r27, false) (fun a w hE hm => ⟨hE.sub ⟨rfl, rfl, rfl, rfl, rfl, rfl, rfl, trivial⟩, (hm.pick [0, 1, 2] rfl)⟩)
              · refine c_skip ?_
                refine b_norm ?_
                exact l_join (r27, t21) (fun a w hE hm => ⟨hE.sub ⟨rfl, rfl, rfl, rfl, rfl, rfl, rfl, trivial⟩, (hm.pick [0, 1, 2] rfl)⟩)
            · rintro ⟨xs89, t91⟩ a w ⟨hE, hm⟩ h
              refine nx_of hE hm h ?_
              clear hE hm h
              refine c_region ?_
              refine o_add st rfl rfl rfl ?_; intro t93
              refine o_mv st rfl rfl ?_
              refine c_nil ?_
              exact l_join (xs89, t91, t93) (fun a w hE hm => ⟨hE.sub ⟨rfl, rfl, rfl, rfl, rfl, rfl, rfl, trivial⟩, (hm.pick [1, 0, 2] rfl)⟩)
          · refine c_exit ?_
            refine l_exit ?_
            refine l_exit ?_
            refine b_exit ?_
            refine l_then ?_
            refine c_seq ?_
            refine c_region ?_
            refine o_mv st rfl rfl ?_
            refine o_mv st rfl rfl ?_
            refine o_nilc st rfl rfl ?_
            refine o_ixa st 1 rfl reads_own rfl rfl rfl arr138 ?_; intro e94 h95
            refine stw (o_sts (enc := encInt) (y' := 2) 1 rfl flelInt rfl h95 ty3 rfl rfl rfl rfl rfl rfl ?_)
            refine c_nil ?_
            refine l_then ?_
            refine c_seq ?_
            refine c_region ?_
            refine o_mv st rfl rfl ?_
            refine o_as st rfl rfl ?_
            refine c_nil ?_
            refine l_then ?_
            refine c_ret ?_
            exact l_end1 Tryd.results89 (t21, (xs19.set (chain_1).toNat 2)) () (rv_t rfl) (fun w m => NewCh.ofB m [1] rfl)
theorem w_impl_visitCalls {w0 : World} {F : Nat → Prop} {b3 : Nat} {v1 : Value} {chains_0 : (List (List GRule))} {chain_1 : Int} {colours_2 : (List Int)} {κ : (Bool × (List Int)) → Prop} (hF : ∀ b, F b → b < w0.heap.size ∧ ¬ feet [ownCh elInt 138 (.slice (some ⟨b3, 0, none⟩) 5 5) colours_2] b) (hg : Given [ownCh elInt 138 (.slice (some ⟨b3, 0, none⟩) 5 5) colours_2] F w0) (hv1 : Sl (elSl elGRule) F w0 v1 chains_0) (h : L_impl_visitCalls chains_0 chain_1 colours_2 κ) :
    Calls Tryd.prog 89 #[v1, (.int .i64 chain_1), (.pointer (some ⟨b3, 0, none⟩))] w0 (Ret [ownCh elInt 138 (.slice (some ⟨b3, 0, none⟩) 5 5) colours_2] F w0 κ (fun (r : (Bool × (List Int))) (u : Unit) => (.bool r.1)) (fun (r : (Bool × (List Int))) (u : Unit) => [ownCh elInt 138 (.slice (some ⟨b3, 0, none⟩) 5 5) r.2])) := by
  obtain ⟨n, h⟩ := h
  exact wr_impl_visitCalls n hF hg hv1 h

set_option maxRecDepth 100000 in
set_option maxHeartbeats 8000000 in
theorem w_impl_acyclic {w0 : World} {F : Nat → Prop} {v1 : Value} {chains_0 : (List (List GRule))} {κ : Bool → Prop} (hF : ∀ b, F b → b < w0.heap.size ∧ ¬ feet [] b) (hv1 : Sl (elSl elGRule) F w0 v1 chains_0) (h : L_impl_acyclic chains_0 κ) :
    Calls Tryd.prog 57 #[v1] w0 (Ret [] F w0 κ (fun (r : Bool) (u : Unit) => (.bool r)) (fun (r : Bool) (u : Unit) => [])) := by
  refine enterS (args := [v1]) [] hF (Given.nil _ _) Tryd.func57 rfl Tryd.ntmps57 rfl h ?_
  clear h hF
  refine c_seq ?_
  refine c_region ?_
  refine o_as st rfl rfl ?_
  refine c_nil ?_
  refine l_then ?_
  refine c_seq ?_
  refine c_region ?_
  refine stw (o_allocA (El' := elInt) (z := (0 : Int)) (len := 5) (zs := [(.int .i64 0)]) (fun F w => (flelInt _ _ _ _).2 rfl) rfl zero138 rfl rfl ?_); intro b3
  refine c_nil ?_
  refine l_then ?_
  refine c_seq ?_
  refine c_seq ?_
  refine c_region ?_
  refine o_mv st rfl rfl ?_
  refine o_len st el34 1 rfl (reads_snap hv1) rfl rfl ?_
  refine o_mv st rfl rfl ?_
  refine c_nil ?_
  refine l_then ?_
  refine c_block ?_
  refine c_loop (σ := ((List Int) × Int)) (fun ((xs5, t7) : ((List Int) × Int)) (a : Act) (w : World) => Has 15 [(0, v1), (3, (.pointer (some ⟨b3, 0, none⟩))), (6, (.int .i64 (chains_0.length : Int))), (7, (.int .i64 t7))] a ∧ Mem (gB F [] w0) (feet []) w0 [ownCh elInt 138 (.slice (some ⟨b3, 0, none⟩) 5 5) xs5, snapCh w0 F] w) (fun a w hE hm => ⟨hE.sub ⟨rfl, rfl, rfl, rfl, trivial⟩, (hm.pick [0, 1] rfl)⟩) ?_
  rintro nx8 ⟨xs5, t7⟩ a w ⟨hE, hm⟩ h
  refine nx_of hE hm h ?_
  clear hE hm h
  refine c_seq ?_
  refine c_region ?_
  refine o_lss st rfl rfl rfl ?_
  refine c_nil ?_
  refine l_then ?_
  refine c_seq ?_
  refine c_cond rfl ?_ ?_
  · refine c_skip ?_
    refine l_then ?_
    refine c_seq ?_
    refine c_block ?_
    refine c_seq ?_
    refine c_region ?_
    refine o_mv st rfl rfl ?_
    refine o_as st rfl rfl ?_
    refine c_nil ?_
    refine l_then ?_
    refine c_seq ?_
    refine c_region ?_
    refine o_mv st rfl rfl ?_
    refine o_mv st rfl rfl ?_
    refine stw (o_call (vs := [v1, (.int .i64 t7), (.pointer (some ⟨b3, 0, none⟩))]) (M0 := [ownCh elInt 138 (.slice (some ⟨b3, 0, none⟩) 5 5) xs5]) Tryd.call89 rfl rfl (by intro w m h; exact (w_impl_visitCalls (F := allB [ownCh elInt 138 (.slice (some ⟨b3, 0, none⟩) 5 5) xs5] w) (chains_0 := chains_0) (chain_1 := t7) (colours_2 := xs5) allB_ok m.given (m.rdM 0 rfl (reads_snap hv1)) h).mono (fun _ _ k => ret_free (fun r u => (fr_cons (free_own flelInt) fr_nil)) k)) ?_); rintro ⟨r9, r10⟩ _
    refine o_not st rfl rfl ?_
    refine c_nil ?_
    refine l_then ?_
    refine c_cond rfl ?_ ?_
    · refine c_seq ?_
      refine c_region ?_
      refine o_as st rfl rfl ?_
      refine c_nil ?_
      refine l_then ?_
      refine c_ret ?_
      refine b_ret ?_
      refine l_ret ?_
      refine l_ret ?_
      refine b_ret ?_
      refine l_ret ?_
      exact l_end1 Tryd.results57 false () (rv_t rfl) (fun _ _ => NewCh.nil _ _ _ _)
    · refine c_skip ?_
      refine b_norm ?_
      refine l_then ?_
      refine c_region ?_
      refine o_add st rfl rfl rfl ?_; intro t12
      refine o_mv st rfl rfl ?_
      refine c_nil ?_
      exact l_join (r10, t12) (fun a w hE hm => ⟨hE.sub ⟨rfl, rfl, rfl, rfl, trivial⟩, (hm.pick [0, 1] rfl)⟩)
  · refine c_exit ?_
    refine l_exit ?_
    refine l_exit ?_
    refine b_exit ?_
    refine l_then ?_
    refine c_seq ?_
    refine c_region ?_
    refine o_as st rfl rfl ?_
    refine c_nil ?_
    refine l_then ?_
    refine c_ret ?_
    exact l_end1 Tryd.results57 true () (rv_t rfl) (fun _ _ => NewCh.nil _ _ _ _)

set_option maxRecDepth 100000 in
set_option maxHeartbeats 8000000 in
theorem w_impl_RulesetValid {w0 : World} {F : Nat → Prop} {v1 : Value} {s_0 : GRuleset} {κ : Bool → Prop} (hF : ∀ b, F b → b < w0.heap.size ∧ ¬ feet [] b) (hv1 : Sl (elSl elGRule) F w0 v1 s_0.xChains) (hgl0 : Sl elGFieldShape F w0 (.slice (some ⟨0, 0, none⟩) 4 4) gl_impl_fieldShapes) (h : L_impl_RulesetValid s_0 κ) :
    Calls Tryd.prog 26 #[(.agg #[v1, (.bool s_0.xAccept)])] w0 (Ret [] F w0 κ (fun (r : Bool) (u : Unit) => (.bool r)) (fun (r : Bool) (u : Unit) => [])) := by
  refine enterS (args := [(.agg #[v1, (.bool s_0.xAccept)])]) [] hF (Given.nil _ _) Tryd.func26 rfl Tryd.ntmps26 rfl h ?_
  clear h hF
  refine c_seq ?_
  refine c_region ?_
  obtain ⟨a3, l4, q5, hs_⟩ := sl_val hv1; subst hs_
  refine stw (o_box rfl rfl [(.slice a3 l4 q5), (.bool s_0.xAccept)] rfl ?_); intro b6
  refine o_as st rfl rfl ?_
  refine c_nil ?_
  refine l_then ?_
  refine c_seq ?_
  refine c_join (σ := Bool) (fun (t68 : Bool) (a : Act) (w : World) => Has 54 [(1, (.pointer (some ⟨b6, 0, none⟩))), (18, (.bool t68))] a ∧ Mem (gB F [] w0) (feet []) w0 [cellCh b6 [(.slice a3 l4 q5), (.bool s_0.xAccept)] 36, snapCh w0 F] w) ?_ ?_
  · intro k69
    refine c_region ?_
    refine o_fad st rfl rfl fld36_0 rfl ?_
    refine o_ldc st (v := (.slice a3 l4 q5)) 0 rfl rfl rfl ty34 rfl ?_
    refine o_len st el34 1 rfl (reads_snap hv1) rfl rfl ?_
    refine o_lss st rfl rfl rfl ?_
    refine o_mv st rfl rfl ?_
    refine st_sp (dj := 13) rfl ?_ ?_
    · refine st_s rfl rfl rfl rfl ?_
      refine st_s rfl rfl rfl rfl ?_
      refine st_s rfl rfl rfl rfl ?_
      refine st_s rfl rfl rfl rfl ?_
      refine o_pickT st rfl rfl rfl ?_
      refine c_nil ?_
      exact l_join true (fun a w hE hm => ⟨hE.sub ⟨rfl, rfl, trivial⟩, (hm.pick [0, 1] rfl)⟩)
    · refine o_fad (st_g rfl rfl) rfl rfl fld36_0 rfl ?_
      refine o_ldc (st_g rfl rfl) (v := (.slice a3 l4 q5)) 0 rfl rfl rfl ty34 rfl ?_
      refine o_len (st_g rfl rfl) el34 1 rfl (reads_snap hv1) rfl rfl ?_
      refine o_gtr (st_g rfl rfl) rfl rfl rfl ?_
      refine o_pickF st rfl rfl rfl ?_
      refine c_nil ?_
      exact l_join (decide (5 < (s_0.xChains.length : Int))) (fun a w hE hm => ⟨hE.sub ⟨rfl, rfl, trivial⟩, (hm.pick [0, 1] rfl)⟩)
  · rintro t68 a w ⟨hE, hm⟩ h
    refine nx_of hE hm h ?_
    clear hE hm h
    refine c_cond rfl ?_ ?_
    · refine c_seq ?_
      refine c_region ?_
      refine o_as st rfl rfl ?_
      refine c_nil ?_
      refine l_then ?_
      refine c_ret ?_
      refine l_ret ?_
      exact l_end1 Tryd.results26 false () (rv_t rfl) (fun _ _ => NewCh.nil _ _ _ _)
    · refine c_skip ?_
      refine l_then ?_
      refine c_seq ?_
      refine c_seq ?_
      refine c_region ?_
      refine o_fad st rfl rfl fld36_0 rfl ?_
      refine o_ldc st (v := (.slice a3 l4 q5)) 0 rfl rfl rfl ty34 rfl ?_
      refine o_len st el34 1 rfl (reads_snap hv1) rfl rfl ?_
      refine o_mv st rfl rfl ?_
      refine c_nil ?_
      refine l_then ?_
      refine c_block ?_
      refine c_loop (σ := Int) (fun (t70 : Int) (a : Act) (w : World) => Has 54 [(1, (.pointer (some ⟨b6, 0, none⟩))), (20, (.slice a3 l4 q5)), (21, (.int .i64 (s_0.xChains.length : Int))), (22, (.int .i64 t70))] a ∧ Mem (gB F [] w0) (feet []) w0 [cellCh b6 [(.slice a3 l4 q5), (.bool s_0.xAccept)] 36, snapCh w0 F] w) (fun a w hE hm => ⟨hE.sub ⟨rfl, rfl, rfl, rfl, trivial⟩, (hm.pick [0, 1] rfl)⟩) ?_
      rintro nx71 t70 a w ⟨hE, hm⟩ h
      refine nx_of hE hm h ?_
      clear hE hm h
      refine c_seq ?_
      refine c_region ?_
      refine o_lss st rfl rfl rfl ?_
      refine c_nil ?_
      refine l_then ?_
      refine c_seq ?_
      refine c_cond rfl ?_ ?_
      · refine c_skip ?_
        refine l_then ?_
        refine c_seq ?_
        refine c_block ?_
        refine c_seq ?_
        refine c_region ?_
        refine o_idx st 1 rfl (reads_snap hv1) rfl rfl rfl el34 ?_; intro e72 h73
        obtain ⟨_, ⟨v75, rfl, sl76⟩, rw74⟩ := sl_open hv1 h73
        refine o_ldR st (u := v75) 1 rfl rw74 rfl rfl ty54 rfl ?_
        refine o_as st rfl rfl ?_
        refine c_nil ?_
        refine l_then ?_
        refine c_seq ?_
        refine c_region ?_
        refine o_mv st rfl rfl ?_
        refine stw (o_callP (vs := [v75]) Tryd.call55 rfl rfl (by intro w m h; exact (w_impl_RulesValid (F := allB [] w) (list_0 := e72) allB_ok (m.rd0 1 rfl (reads_snap sl76)) (m.rd0 1 rfl (reads_snap hgl0)) h).mono (fun _ _ k => ret_free (fun r u => fr_nil) k)) ?_); rintro r78 _
        refine o_not st rfl rfl ?_
        refine c_nil ?_
        refine l_then ?_
        refine c_cond rfl ?_ ?_
        · refine c_seq ?_
          refine c_region ?_
          refine o_as st rfl rfl ?_
          refine c_nil ?_
          refine l_then ?_
          refine c_ret ?_
          refine b_ret ?_
          refine l_ret ?_
          refine l_ret ?_
          refine b_ret ?_
          refine l_ret ?_
          exact l_end1 Tryd.results26 false () (rv_t rfl) (fun _ _ => NewCh.nil _ _ _ _)
        · refine c_skip ?_
          refine b_norm ?_
          refine l_then ?_
          refine c_region ?_
          refine o_add st rfl rfl rfl ?_; intro t79
          refine o_mv st rfl rfl ?_
          refine c_nil ?_
          exact l_join t79 (fun a w hE hm => ⟨hE.sub ⟨rfl, rfl, rfl, rfl, trivial⟩, (hm.pick [0, 1] rfl)⟩)
      · refine c_exit ?_
        refine l_exit ?_
        refine l_exit ?_
        refine b_exit ?_
        refine l_then ?_
        refine c_seq ?_
        refine c_seq ?_
        refine c_region ?_
        refine o_fad st rfl rfl fld36_0 rfl ?_
        refine o_ldc st (v := (.slice a3 l4 q5)) 0 rfl rfl rfl ty34 rfl ?_
        refine o_len st el34 1 rfl (reads_snap hv1) rfl rfl ?_
        refine o_mv st rfl rfl ?_
        refine c_nil ?_
        refine l_then ?_
        refine c_block ?_
        refine c_loop (σ := Int) (fun (t80 : Int) (a : Act) (w : World) => Has 54 [(1, (.pointer (some ⟨b6, 0, none⟩))), (31, (.slice a3 l4 q5)), (32, (.int .i64 (s_0.xChains.length : Int))), (33, (.int .i64 t80))] a ∧ Mem (gB F [] w0) (feet []) w0 [cellCh b6 [(.slice a3 l4 q5), (.bool s_0.xAccept)] 36, snapCh w0 F] w) (fun a w hE hm => ⟨hE.sub ⟨rfl, rfl, rfl, rfl, trivial⟩, (hm.pick [0, 1] rfl)⟩) ?_
        rintro nx81 t80 a w ⟨hE, hm⟩ h
        refine nx_of hE hm h ?_
        clear hE hm h
        refine c_seq ?_
        refine c_region ?_
        refine o_lss st rfl rfl rfl ?_
        refine c_nil ?_
        refine l_then ?_
        refine c_seq ?_
        refine c_cond rfl ?_ ?_
        · refine c_skip ?_
          refine l_then ?_
          refine c_seq ?_
          refine c_block ?_
          refine c_seq ?_
          refine c_region ?_
          refine o_idx st 1 rfl (reads_snap hv1) rfl rfl rfl el34 ?_; intro e82 h83
          obtain ⟨_, ⟨v85, rfl, sl86⟩, rw84⟩ := sl_open hv1 h83
          refine o_ldR st (u := v85) 1 rfl rw84 rfl rfl ty54 rfl ?_
          refine o_as st rfl rfl ?_
          refine c_nil ?_
          refine l_then ?_
          refine c_seq ?_
          refine c_region ?_
          refine o_mv st rfl rfl ?_
          refine stw (o_callP (vs := [v85]) Tryd.call56 rfl rfl (by intro w m h; exact (w_impl_callsIn (F := allB [] w) (rules_0 := e82) allB_ok (m.rd0 1 rfl (reads_snap sl86)) h).mono (fun _ _ k => ret_free (fun r u => (fr_cons (free_own flelInt) fr_nil)) k)) ?_); rintro r88 v89
          refine o_len st el27 0 rfl reads_own rfl rfl ?_
          refine o_mv st rfl rfl ?_
          refine c_nil ?_
          refine l_then ?_
          refine c_block ?_
          refine c_loop (σ := Int) (fun (t91 : Int) (a : Act) (w : World) => Has 54 [(1, (.pointer (some ⟨b6, 0, none⟩))), (31, (.slice a3 l4 q5)), (32, (.int .i64 (s_0.xChains.length : Int))), (33, (.int .i64 t80)), (38, v89), (39, (.int .i64 (r88.length : Int))), (40, (.int .i64 t91))] a ∧ Mem (gB F [] w0) (feet []) w0 [ownCh elInt 3 v89 r88, cellCh b6 [(.slice a3 l4 q5), (.bool s_0.xAccept)] 36, snapCh w0 F] w) (fun a w hE hm => ⟨hE.sub ⟨rfl, rfl, rfl, rfl, rfl, rfl, rfl, trivial⟩, (hm.pick [0, 1, 2] rfl)⟩) ?_
          rintro nx92 t91 a w ⟨hE, hm⟩ h
          refine nx_of hE hm h ?_
          clear hE hm h
          refine c_seq ?_
          refine c_region ?_
          refine o_lss st rfl rfl rfl ?_
          refine c_nil ?_
          refine l_then ?_
          refine c_seq ?_
          refine c_cond rfl ?_ ?_
          · refine c_skip ?_
            refine l_then ?_
            refine c_seq ?_
            refine c_block ?_
            refine c_seq ?_
            refine c_region ?_
            refine o_idx st 0 rfl reads_own rfl rfl rfl el27 ?_; intro e93 h94
            refine o_lds st (enc := encInt) (u := (.int .i64 e93)) 0 rfl reads_own flelInt rfl h94 rfl rfl ty3 rfl ?_
            refine o_as st rfl rfl ?_
            refine c_nil ?_
            refine l_then ?_
            refine c_seq ?_
            refine c_region ?_
            refine o_mv st rfl rfl ?_
            refine o_fad st rfl rfl fld36_0 rfl ?_
            refine o_ldc st (v := (.slice a3 l4 q5)) 1 rfl rfl rfl ty34 rfl ?_
            refine o_len st el34 2 rfl (reads_snap hv1) rfl rfl ?_
            refine o_geq st rfl rfl rfl ?_
            refine c_nil ?_
            refine l_then ?_
            refine c_cond rfl ?_ ?_
            · refine c_seq ?_
              refine c_region ?_
              refine o_as st rfl rfl ?_
              refine c_nil ?_
              refine l_then ?_
              refine c_ret ?_
              refine b_ret ?_
              refine l_ret ?_
              refine l_ret ?_
              refine b_ret ?_
              refine b_ret ?_
              refine l_ret ?_
              refine l_ret ?_
              refine b_ret ?_
              refine l_ret ?_
              exact l_end1 Tryd.results26 false () (rv_t rfl) (fun _ _ => NewCh.nil _ _ _ _)
            · refine c_skip ?_
              refine b_norm ?_
              refine l_then ?_
              refine c_region ?_
              refine o_add st rfl rfl rfl ?_; intro t95
              refine o_mv st rfl rfl ?_
              refine c_nil ?_
              exact l_join t95 (fun a w hE hm => ⟨hE.sub ⟨rfl, rfl, rfl, rfl, rfl, rfl, rfl, trivial⟩, (hm.pick [0, 1, 2] rfl)⟩)
          · refine c_exit ?_
            refine l_exit ?_
            refine l_exit ?_
            refine b_exit ?_
            refine b_norm ?_
            refine l_then ?_
            refine c_region ?_
            refine o_add st rfl rfl rfl ?_; intro t96
            refine o_mv st rfl rfl ?_
            refine c_nil ?_
            exact l_join t96 (fun a w hE hm => ⟨hE.sub ⟨rfl, rfl, rfl, rfl, trivial⟩, (hm.pick [1, 2] rfl)⟩)
        · refine c_exit ?_
          refine l_exit ?_
          refine l_exit ?_
          refine b_exit ?_
          refine l_then ?_
          refine c_seq ?_
          refine c_region ?_
          refine o_fad st rfl rfl fld36_0 rfl ?_
          refine o_ldc st (v := (.slice a3 l4 q5)) 0 rfl rfl rfl ty34 rfl ?_
          refine stw (o_callP (vs := [(.slice a3 l4 q5)]) Tryd.call57 rfl rfl (by intro w m h; exact (w_impl_acyclic (F := allB [] w) (chains_0 := s_0.xChains) allB_ok (m.rd0 1 rfl (reads_snap hv1)) h).mono (fun _ _ k => ret_free (fun r u => fr_nil) k)) ?_); rintro r97 _
          refine o_as st rfl rfl ?_
          refine c_nil ?_
          refine l_then ?_
          refine c_ret ?_
          exact l_end1 Tryd.results26 r97 () (rv_t rfl) (fun _ _ => NewCh.nil _ _ _ _)

set_option maxRecDepth 100000 in
set_option maxHeartbeats 8000000 in
theorem w_impl_walk_leave {w0 : World} {F : Nat → Prop} {b1 : Nat} {v2 : Value} {v4 : Value} {w_0_stack : (List GPlace)} {w_0_visits : (List GVisit)} {w_0_decision : Int} {κ : (List GPlace) → Prop} (hF : ∀ b, F b → b < w0.heap.size ∧ ¬ feet [cellCh b1 [v2, v4, (.int .i64 w_0_decision)] 146, ownCh elGPlace 162 v2 w_0_stack, ownCh elGVisit 166 v4 w_0_visits] b) (hg : Given [cellCh b1 [v2, v4, (.int .i64 w_0_decision)] 146, ownCh elGPlace 162 v2 w_0_stack, ownCh elGVisit 166 v4 w_0_visits] F w0) (h : L_impl_walk_leave w_0_stack w_0_visits w_0_decision κ) :
    Calls Tryd.prog 111 #[(.pointer (some ⟨b1, 0, none⟩))] w0 (Ret [cellCh b1 [v2, v4, (.int .i64 w_0_decision)] 146, ownCh elGPlace 162 v2 w_0_stack, ownCh elGVisit 166 v4 w_0_visits] F w0 κ (fun (r : (List GPlace)) (u : Value) => .tuple #[]) (fun (r : (List GPlace)) (u : Value) => [cellCh b1 [u, v4, (.int .i64 w_0_decision)] 146, ownCh elGPlace 162 u r, ownCh elGVisit 166 v4 w_0_visits])) := by
  refine enter0 (args := [(.pointer (some ⟨b1, 0, none⟩))]) [cellCh b1 [v2, v4, (.int .i64 w_0_decision)] 146, ownCh elGPlace 162 v2 w_0_stack, ownCh elGVisit 166 v4 w_0_visits] hF hg Tryd.func111 rfl Tryd.ntmps111 rfl h ?_
  clear h hF hg
  refine c_join1 (σ := (List GPlace)) (fun (xs7 : (List GPlace)) (a : Act) (w : World) => ∃ (v8 : Value), Has 16 [] a ∧ Mem (gB F [cellCh b1 [v2, v4, (.int .i64 w_0_decision)] 146, ownCh elGPlace 162 v2 w_0_stack, ownCh elGVisit 166 v4 w_0_visits] w0) (feet [cellCh b1 [v2, v4, (.int .i64 w_0_decision)] 146, ownCh elGPlace 162 v2 w_0_stack, ownCh elGVisit 166 v4 w_0_visits]) w0 [cellCh b1 [v8, v4, (.int .i64 w_0_decision)] 146, ownCh elGPlace 162 v8 xs7, ownCh elGVisit 166 v4 w_0_visits] w) ?_ ?_
  · intro k10
    refine c_drawQ mixed 15 rfl [ownCh elGVisit 166 v4 w_0_visits] ?_
    intro Qd hP hQ
    have H837 : ∀ (a14 : Option Addr) (l15 : Nat) (q16 : Nat) (xs12 : (List GPlace)), Nx 16 (gB F [cellCh b1 [v2, v4, (.int .i64 w_0_decision)] 146, ownCh elGPlace 162 v2 w_0_stack, ownCh elGVisit 166 v4 w_0_visits] w0) (feet [cellCh b1 [v2, v4, (.int .i64 w_0_decision)] 146, ownCh elGPlace 162 v2 w_0_stack, ownCh elGVisit 166 v4 w_0_visits]) w0 (wpAnyH Tryd.prog .any (opsAt Tryd.f111 []) Qd (Mem (gB F [cellCh b1 [v2, v4, (.int .i64 w_0_decision)] 146, ownCh elGPlace 162 v2 w_0_stack, ownCh elGVisit 166 v4 w_0_visits] w0) (feet [cellCh b1 [v2, v4, (.int .i64 w_0_decision)] 146, ownCh elGPlace 162 v2 w_0_stack, ownCh elGVisit 166 v4 w_0_visits]) w0 [ownCh elGVisit 166 v4 w_0_visits]) 0 #[true, true, true, true, true, true, true, true, true, true, true, true, true, true, true]) [] [cellCh b1 [(.slice a14 l15 q16), v4, (.int .i64 w_0_decision)] 146, ownCh elGPlace 162 (.slice a14 l15 q16) xs12, ownCh elGVisit 166 v4 w_0_visits] (k10 xs12) := by
      intro a14 l15 q16 xs12
      refine d_done (by kernel_rfl) ?_
      exact fun a w hE hm hφ => hQ xs12 a w hφ ((fun a w hE hm => ⟨(.slice a14 l15 q16), hE.sub trivial, (hm.pick [0, 1, 2] rfl)⟩) a w hE hm)
    have H838 : ∀ (v11 : Value) (xs12 : (List GPlace)), Nx 16 (gB F [cellCh b1 [v2, v4, (.int .i64 w_0_decision)] 146, ownCh elGPlace 162 v2 w_0_stack, ownCh elGVisit 166 v4 w_0_visits] w0) (feet [cellCh b1 [v2, v4, (.int .i64 w_0_decision)] 146, ownCh elGPlace 162 v2 w_0_stack, ownCh elGVisit 166 v4 w_0_visits]) w0 (wpAnyH Tryd.prog .any (opsAt Tryd.f111 []) Qd (Mem (gB F [cellCh b1 [v2, v4, (.int .i64 w_0_decision)] 146, ownCh elGPlace 162 v2 w_0_stack, ownCh elGVisit 166 v4 w_0_visits] w0) (feet [cellCh b1 [v2, v4, (.int .i64 w_0_decision)] 146, ownCh elGPlace 162 v2 w_0_stack, ownCh elGVisit 166 v4 w_0_visits]) w0 [ownCh elGVisit 166 v4 w_0_visits]) 3 #[true, true, true, true, true, true, true, true, true, true, true, true, false, false, false]) [(2, (.pointer (some ⟨b1, 0, none⟩))), (13, v11)] [cellCh b1 [v2, v4, (.int .i64 w_0_decision)] 146, ownCh elGPlace 162 v11 xs12, ownCh elGVisit 166 v4 w_0_visits] (k10 xs12) := by
      intro v11 xs12
      refine o_nilc (dt 12 (fun w m => m.pick [2] rfl)) rfl rfl ?_
      refine o_fad (dt 13 (fun w m => m.pick [2] rfl)) rfl rfl fld146_0 rfl ?_
      refine nx_own 1 rfl ?_; rintro a14 l15 q16 rfl
      refine d_one (i := 14) rfl (by kernel_rfl) (o_stc (cs' := [(.slice a14 l15 q16), v4, (.int .i64 w_0_decision)]) 0 rfl rfl rfl ty143 rfl rfl rfl rfl ?_)
      refine d_and (fun w m => m.pick [2] rfl) ?_
      refine pk [0, 1, 2] rfl ?_
      refine re (E' := []) trivial ?_
      exact H837 a14 l15 q16 xs12
    have H839 : ∀ (_ : Unit), Nx 16 (gB F [cellCh b1 [v2, v4, (.int .i64 w_0_decision)] 146, ownCh elGPlace 162 v2 w_0_stack, ownCh elGVisit 166 v4 w_0_visits] w0) (feet [cellCh b1 [v2, v4, (.int .i64 w_0_decision)] 146, ownCh elGPlace 162 v2 w_0_stack, ownCh elGVisit 166 v4 w_0_visits]) w0 (wpAnyH Tryd.prog .any (opsAt Tryd.f111 []) Qd (Mem (gB F [cellCh b1 [v2, v4, (.int .i64 w_0_decision)] 146, ownCh elGPlace 162 v2 w_0_stack, ownCh elGVisit 166 v4 w_0_visits] w0) (feet [cellCh b1 [v2, v4, (.int .i64 w_0_decision)] 146, ownCh elGPlace 162 v2 w_0_stack, ownCh elGVisit 166 v4 w_0_visits]) w0 [ownCh elGVisit 166 v4 w_0_visits]) 5 #[true, true, true, true, true, true, true, true, true, true, false, false, false, false, false]) [(2, (.pointer (some ⟨b1, 0, none⟩))), (6, v2), (11, (.int .i64 (w_0_stack.length : Int)))] [cellCh b1 [v2, v4, (.int .i64 w_0_decision)] 146, ownCh elGPlace 162 v2 w_0_stack, ownCh elGVisit 166 v4 w_0_visits] (sliceW w_0_stack 0 (w64 ((w_0_stack.length : Int) - 1)) (fun xs12 => k10 xs12)) := by
      intro _
      refine o_subw (dt 10 (fun w m => m.pick [2] rfl)) rfl rfl rfl ?_
      refine d_one (i := 11) rfl (by kernel_rfl) (o_slcO (J := (w64 ((w_0_stack.length : Int) - 1))) 1 rfl rfl rfl rfl el143 rfl ?_); intro v11 xs12
      refine d_and (fun w m => m.pick [2] rfl) ?_
      refine pk [0, 1, 2] rfl ?_
      refine re (E' := [(2, (.pointer (some ⟨b1, 0, none⟩))), (13, v11)]) ⟨rfl, rfl, trivial⟩ ?_
      exact H838 v11 xs12
    have H840 : ∀ (_ : Unit), Nx 16 (gB F [cellCh b1 [v2, v4, (.int .i64 w_0_decision)] 146, ownCh elGPlace 162 v2 w_0_stack, ownCh elGVisit 166 v4 w_0_visits] w0) (feet [cellCh b1 [v2, v4, (.int .i64 w_0_decision)] 146, ownCh elGPlace 162 v2 w_0_stack, ownCh elGVisit 166 v4 w_0_visits]) w0 (wpAnyH Tryd.prog .any (opsAt Tryd.f111 []) Qd (Mem (gB F [cellCh b1 [v2, v4, (.int .i64 w_0_decision)] 146, ownCh elGPlace 162 v2 w_0_stack, ownCh elGVisit 166 v4 w_0_visits] w0) (feet [cellCh b1 [v2, v4, (.int .i64 w_0_decision)] 146, ownCh elGPlace 162 v2 w_0_stack, ownCh elGVisit 166 v4 w_0_visits]) w0 [ownCh elGVisit 166 v4 w_0_visits]) 6 #[true, true, true, true, true, true, true, true, true, false, false, false, false, false, false]) [(2, (.pointer (some ⟨b1, 0, none⟩))), (6, v2), (10, v2)] [cellCh b1 [v2, v4, (.int .i64 w_0_decision)] 146, ownCh elGPlace 162 v2 w_0_stack, ownCh elGVisit 166 v4 w_0_visits] (sliceW w_0_stack 0 (w64 ((w_0_stack.length : Int) - 1)) (fun xs12 => k10 xs12)) := by
      intro _
      refine d_one (i := 9) rfl (by kernel_rfl) (o_len m_op el143 1 rfl reads_own rfl rfl ?_)
      refine d_and (fun w m => m.pick [2] rfl) ?_
      refine pk [0, 1, 2] rfl ?_
      refine re (E' := [(2, (.pointer (some ⟨b1, 0, none⟩))), (6, v2), (11, (.int .i64 (w_0_stack.length : Int)))]) ⟨rfl, rfl, rfl, trivial⟩ ?_
      exact H839 ()
    have H841 : ∀ (_ : Unit), Nx 16 (gB F [cellCh b1 [v2, v4, (.int .i64 w_0_decision)] 146, ownCh elGPlace 162 v2 w_0_stack, ownCh elGVisit 166 v4 w_0_visits] w0) (feet [cellCh b1 [v2, v4, (.int .i64 w_0_decision)] 146, ownCh elGPlace 162 v2 w_0_stack, ownCh elGVisit 166 v4 w_0_visits]) w0 (wpAnyH Tryd.prog .any (opsAt Tryd.f111 []) Qd (Mem (gB F [cellCh b1 [v2, v4, (.int .i64 w_0_decision)] 146, ownCh elGPlace 162 v2 w_0_stack, ownCh elGVisit 166 v4 w_0_visits] w0) (feet [cellCh b1 [v2, v4, (.int .i64 w_0_decision)] 146, ownCh elGPlace 162 v2 w_0_stack, ownCh elGVisit 166 v4 w_0_visits]) w0 [ownCh elGVisit 166 v4 w_0_visits]) 7 #[true, true, true, true, true, true, true, true, false, false, false, false, false, false, false]) [(2, (.pointer (some ⟨b1, 0, none⟩))), (9, (.pointer (some ⟨b1, 0, none⟩))), (6, v2)] [cellCh b1 [v2, v4, (.int .i64 w_0_decision)] 146, ownCh elGPlace 162 v2 w_0_stack, ownCh elGVisit 166 v4 w_0_visits] (sliceW w_0_stack 0 (w64 ((w_0_stack.length : Int) - 1)) (fun xs12 => k10 xs12)) := by
      intro _
      refine d_one (i := 8) rfl (by kernel_rfl) (o_ldc m_op (v := v2) 0 rfl rfl rfl ty143 rfl ?_)
      refine d_and (fun w m => m.pick [2] rfl) ?_
      refine pk [0, 1, 2] rfl ?_
      refine re (E' := [(2, (.pointer (some ⟨b1, 0, none⟩))), (6, v2), (10, v2)]) ⟨rfl, rfl, rfl, trivial⟩ ?_
      exact H840 ()
    have H842 : ∀ (_ : Unit), Nx 16 (gB F [cellCh b1 [v2, v4, (.int .i64 w_0_decision)] 146, ownCh elGPlace 162 v2 w_0_stack, ownCh elGVisit 166 v4 w_0_visits] w0) (feet [cellCh b1 [v2, v4, (.int .i64 w_0_decision)] 146, ownCh elGPlace 162 v2 w_0_stack, ownCh elGVisit 166 v4 w_0_visits]) w0 (wpAnyH Tryd.prog .any (opsAt Tryd.f111 []) Qd (Mem (gB F [cellCh b1 [v2, v4, (.int .i64 w_0_decision)] 146, ownCh elGPlace 162 v2 w_0_stack, ownCh elGVisit 166 v4 w_0_visits] w0) (feet [cellCh b1 [v2, v4, (.int .i64 w_0_decision)] 146, ownCh elGPlace 162 v2 w_0_stack, ownCh elGVisit 166 v4 w_0_visits]) w0 [ownCh elGVisit 166 v4 w_0_visits]) 4 #[true, true, true, true, true, true, true, true, true, true, true, false, false, false, false]) [(2, (.pointer (some ⟨b1, 0, none⟩))), (12, (.int .i64 (w64 ((w_0_stack.length : Int) - 1)))), (6, v2)] [cellCh b1 [v2, v4, (.int .i64 w_0_decision)] 146, ownCh elGPlace 162 v2 w_0_stack, ownCh elGVisit 166 v4 w_0_visits] (sliceW w_0_stack 0 (w64 ((w_0_stack.length : Int) - 1)) (fun xs18 => k10 xs18)) := by
      intro _
      refine d_one (i := 11) rfl (by kernel_rfl) (o_slcO (J := (w64 ((w_0_stack.length : Int) - 1))) 1 rfl rfl rfl rfl el143 rfl ?_); intro v17 xs18
      refine d_and (fun w m => m.pick [2] rfl) ?_
      refine pk [0, 1, 2] rfl ?_
      refine re (E' := [(2, (.pointer (some ⟨b1, 0, none⟩))), (13, v17)]) ⟨rfl, rfl, trivial⟩ ?_
      exact H838 v17 xs18
    have H843 : ∀ (_ : Unit), Nx 16 (gB F [cellCh b1 [v2, v4, (.int .i64 w_0_decision)] 146, ownCh elGPlace 162 v2 w_0_stack, ownCh elGVisit 166 v4 w_0_visits] w0) (feet [cellCh b1 [v2, v4, (.int .i64 w_0_decision)] 146, ownCh elGPlace 162 v2 w_0_stack, ownCh elGVisit 166 v4 w_0_visits]) w0 (wpAnyH Tryd.prog .any (opsAt Tryd.f111 []) Qd (Mem (gB F [cellCh b1 [v2, v4, (.int .i64 w_0_decision)] 146, ownCh elGPlace 162 v2 w_0_stack, ownCh elGVisit 166 v4 w_0_visits] w0) (feet [cellCh b1 [v2, v4, (.int .i64 w_0_decision)] 146, ownCh elGPlace 162 v2 w_0_stack, ownCh elGVisit 166 v4 w_0_visits]) w0 [ownCh elGVisit 166 v4 w_0_visits]) 6 #[true, true, true, true, false, true, true, true, true, true, false, false, false, false, false]) [(2, (.pointer (some ⟨b1, 0, none⟩))), (5, (.pointer (some ⟨b1, 0, none⟩))), (11, (.int .i64 (w_0_stack.length : Int)))] [cellCh b1 [v2, v4, (.int .i64 w_0_decision)] 146, ownCh elGPlace 162 v2 w_0_stack, ownCh elGVisit 166 v4 w_0_visits] (sliceW w_0_stack 0 (w64 ((w_0_stack.length : Int) - 1)) (fun xs18 => k10 xs18)) := by
      intro _
      refine o_subw (dt 10 (fun w m => m.pick [2] rfl)) rfl rfl rfl ?_
      refine d_one (i := 4) rfl (by kernel_rfl) (o_ldc m_op (v := v2) 0 rfl rfl rfl ty143 rfl ?_)
      refine d_and (fun w m => m.pick [2] rfl) ?_
      refine pk [0, 1, 2] rfl ?_
      refine re (E' := [(2, (.pointer (some ⟨b1, 0, none⟩))), (12, (.int .i64 (w64 ((w_0_stack.length : Int) - 1)))), (6, v2)]) ⟨rfl, rfl, rfl, trivial⟩ ?_
      exact H842 ()
    have H844 : ∀ (_ : Unit), Nx 16 (gB F [cellCh b1 [v2, v4, (.int .i64 w_0_decision)] 146, ownCh elGPlace 162 v2 w_0_stack, ownCh elGVisit 166 v4 w_0_visits] w0) (feet [cellCh b1 [v2, v4, (.int .i64 w_0_decision)] 146, ownCh elGPlace 162 v2 w_0_stack, ownCh elGVisit 166 v4 w_0_visits]) w0 (wpAnyH Tryd.prog .any (opsAt Tryd.f111 []) Qd (Mem (gB F [cellCh b1 [v2, v4, (.int .i64 w_0_decision)] 146, ownCh elGPlace 162 v2 w_0_stack, ownCh elGVisit 166 v4 w_0_visits] w0) (feet [cellCh b1 [v2, v4, (.int .i64 w_0_decision)] 146, ownCh elGPlace 162 v2 w_0_stack, ownCh elGVisit 166 v4 w_0_visits]) w0 [ownCh elGVisit 166 v4 w_0_visits]) 7 #[true, true, true, true, false, true, true, true, true, false, false, false, false, false, false]) [(2, (.pointer (some ⟨b1, 0, none⟩))), (5, (.pointer (some ⟨b1, 0, none⟩))), (10, v2)] [cellCh b1 [v2, v4, (.int .i64 w_0_decision)] 146, ownCh elGPlace 162 v2 w_0_stack, ownCh elGVisit 166 v4 w_0_visits] (sliceW w_0_stack 0 (w64 ((w_0_stack.length : Int) - 1)) (fun xs12 => k10 xs12)) := by
      intro _
      refine d_two (i := 4) (j := 9) rfl rfl (by kernel_rfl) ?_ ?_
      · intro o ho; cases ho
        refine o_ldc m_op (v := v2) 0 rfl rfl rfl ty143 rfl ?_
        refine d_and (fun w m => m.pick [2] rfl) ?_
        refine pk [0, 1, 2] rfl ?_
        refine re (E' := [(2, (.pointer (some ⟨b1, 0, none⟩))), (6, v2), (10, v2)]) ⟨rfl, rfl, rfl, trivial⟩ ?_
        exact H840 ()
      · intro o ho; cases ho
        refine o_len m_op el143 1 rfl reads_own rfl rfl ?_
        refine d_and (fun w m => m.pick [2] rfl) ?_
        refine pk [0, 1, 2] rfl ?_
        refine re (E' := [(2, (.pointer (some ⟨b1, 0, none⟩))), (5, (.pointer (some ⟨b1, 0, none⟩))), (11, (.int .i64 (w_0_stack.length : Int)))]) ⟨rfl, rfl, rfl, trivial⟩ ?_
        exact H843 ()
    refine o_mv (dt 0 (fun w m => m.pick [2] rfl)) rfl rfl ?_
    refine o_mv (dt 1 (fun w m => m.pick [2] rfl)) rfl rfl ?_
    refine o_nilc (dt 2 (fun w m => m.pick [2] rfl)) rfl rfl ?_
    refine o_fad (dt 3 (fun w m => m.pick [2] rfl)) rfl rfl fld146_0 rfl ?_
    refine o_mv (dt 5 (fun w m => m.pick [2] rfl)) rfl rfl ?_
    refine o_nilc (dt 6 (fun w m => m.pick [2] rfl)) rfl rfl ?_
    refine o_fad (dt 7 (fun w m => m.pick [2] rfl)) rfl rfl fld146_0 rfl ?_
    refine d_two (i := 4) (j := 8) rfl rfl (by kernel_rfl) ?_ ?_
    · intro o ho; cases ho
      refine o_ldc m_op (v := v2) 0 rfl rfl rfl ty143 rfl ?_
      refine d_and (fun w m => m.pick [2] rfl) ?_
      refine pk [0, 1, 2] rfl ?_
      refine re (E' := [(2, (.pointer (some ⟨b1, 0, none⟩))), (9, (.pointer (some ⟨b1, 0, none⟩))), (6, v2)]) ⟨rfl, rfl, rfl, trivial⟩ ?_
      exact H841 ()
    · intro o ho; cases ho
      refine o_ldc m_op (v := v2) 0 rfl rfl rfl ty143 rfl ?_
      refine d_and (fun w m => m.pick [2] rfl) ?_
      refine pk [0, 1, 2] rfl ?_
      refine re (E' := [(2, (.pointer (some ⟨b1, 0, none⟩))), (5, (.pointer (some ⟨b1, 0, none⟩))), (10, v2)]) ⟨rfl, rfl, rfl, trivial⟩ ?_
      exact H844 ()
  · rintro xs7 a w ⟨v8, hE, hm⟩ h
    refine nx_of hE hm h ?_
    clear hE hm h
    exact l_end0m Tryd.results111 xs7 v8 rfl (fun w m => NewCh.ofB m [0, 1, 2] rfl)

set_option maxRecDepth 100000 in
set_option maxHeartbeats 8000000 in
theorem w_impl_Test_holds {w0 : World} {F : Nat → Prop} {t_0 : GTest} {p_1 : GPacket} {κ : Bool → Prop} (hF : ∀ b, F b → b < w0.heap.size ∧ ¬ feet [] b) (h : L_impl_Test_holds t_0 p_1 κ) :
    Calls Tryd.prog 127 #[(.agg #[(.int .i64 t_0.xField), (.int .i64 t_0.xLo), (.int .i64 t_0.xHi), (.bool t_0.xNot)]), (.agg #[(.int .i64 p_1.xFrom), (.int .i64 p_1.xTo), (.int .i64 p_1.xPort), (.int .i64 p_1.xProto)])] w0 (Ret [] F w0 κ (fun (r : Bool) (u : Unit) => (.bool r)) (fun (r : Bool) (u : Unit) => [])) := by
  refine enter0 (args := [(.agg #[(.int .i64 t_0.xField), (.int .i64 t_0.xLo), (.int .i64 t_0.xHi), (.bool t_0.xNot)]), (.agg #[(.int .i64 p_1.xFrom), (.int .i64 p_1.xTo), (.int .i64 p_1.xPort), (.int .i64 p_1.xProto)])]) [] hF (Given.nil _ _) Tryd.func127 rfl Tryd.ntmps127 rfl h ?_
  clear h hF
  refine c_seq ?_
  refine c_region ?_
  refine stw (o_box rfl rfl [(.int .i64 t_0.xField), (.int .i64 t_0.xLo), (.int .i64 t_0.xHi), (.bool t_0.xNot)] rfl ?_); intro b1
  refine stw (o_box rfl rfl [(.int .i64 p_1.xFrom), (.int .i64 p_1.xTo), (.int .i64 p_1.xPort), (.int .i64 p_1.xProto)] rfl ?_); intro b3
  refine o_as st rfl rfl ?_
  refine c_nil ?_
  refine l_then ?_
  refine c_seq ?_
  refine c_draw mixed 6 rfl [cellCh b3 [(.int .i64 p_1.xFrom), (.int .i64 p_1.xTo), (.int .i64 p_1.xPort), (.int .i64 p_1.xProto)] 49, cellCh b1 [(.int .i64 t_0.xField), (.int .i64 t_0.xLo), (.int .i64 t_0.xHi), (.bool t_0.xNot)] 125] ?_
  refine o_ldc (dt 0 (fun _ m => m)) (v := (.agg #[(.int .i64 p_1.xFrom), (.int .i64 p_1.xTo), (.int .i64 p_1.xPort), (.int .i64 p_1.xProto)])) 0 rfl rfl rfl ty49 rfl ?_
  refine o_fad (dt 2 (fun _ m => m)) rfl rfl fld125_0 rfl ?_
  refine o_ldc (dt 3 (fun _ m => m)) (v := (.int .i64 t_0.xField)) 1 rfl rfl rfl ty3 rfl ?_
  refine d_one (i := 1) rfl (by kernel_rfl) (o_callP (vs := [(.agg #[(.int .i64 p_1.xFrom), (.int .i64 p_1.xTo), (.int .i64 p_1.xPort), (.int .i64 p_1.xProto)])]) Tryd.call90 rfl rfl (by intro w m h; exact (w_impl_Packet_fields (F := allB [] w) (p_0 := p_1) allB_ok h).mono (fun _ _ k => ret_free (fun r u => fr_nil) k)) ?_); rintro r5 _
  refine d_and (fun _ m => m) ?_
  refine o_ixv (dt 4 (fun _ m => m)) (enc := encInt) (zs := [r5.x0, r5.x1, r5.x2, r5.x3]) (u := fun (e6 : Int) => (.int .i64 e6)) rfl rfl rfl arr141 rfl rfl (fun _ => rfl) (fun _ => rfl) ?_; intro e6
  refine o_as (dt 5 (fun _ m => m)) rfl rfl ?_
  refine d_done (by kernel_rfl) ?_
  refine l_then ?_
  refine c_join (σ := Bool) (fun (t67 : Bool) (a : Act) (w : World) => Has 26 [(2, (.pointer (some ⟨b1, 0, none⟩))), (6, (.bool t67))] a ∧ Mem (gB F [] w0) (feet []) w0 [cellCh b1 [(.int .i64 t_0.xField), (.int .i64 t_0.xLo), (.int .i64 t_0.xHi), (.bool t_0.xNot)] 125] w) ?_ ?_
  · intro k68
    refine c_region ?_
    refine o_fad st rfl rfl fld125_1 rfl ?_
    refine o_ldc st (v := (.int .i64 t_0.xLo)) 1 rfl rfl rfl ty3 rfl ?_
    refine o_mv st rfl rfl ?_
    refine o_leq st rfl rfl rfl ?_
    refine o_mv st rfl rfl ?_
    refine st_sp (dj := 16) rfl ?_ ?_
    · refine o_mv (st_g rfl rfl) rfl rfl ?_
      refine o_fad (st_g rfl rfl) rfl rfl fld125_2 rfl ?_
      refine o_ldc (st_g rfl rfl) (v := (.int .i64 t_0.xHi)) 1 rfl rfl rfl ty3 rfl ?_
      refine o_leq (st_g rfl rfl) rfl rfl rfl ?_
      refine o_pickT st rfl rfl rfl ?_
      refine o_as st rfl rfl ?_
      refine c_nil ?_
      exact l_join (decide (e6 ≤ t_0.xHi)) (fun a w hE hm => ⟨hE.sub ⟨rfl, rfl, trivial⟩, (hm.pick [1] rfl)⟩)
    · refine st_s rfl rfl rfl rfl ?_
      refine st_s rfl rfl rfl rfl ?_
      refine st_s rfl rfl rfl rfl ?_
      refine st_s rfl rfl rfl rfl ?_
      refine o_pickF st rfl rfl rfl ?_
      refine o_as st rfl rfl ?_
      refine c_nil ?_
      exact l_join false (fun a w hE hm => ⟨hE.sub ⟨rfl, rfl, trivial⟩, (hm.pick [1] rfl)⟩)
  · rintro t67 a w ⟨hE, hm⟩ h
    refine nx_of hE hm h ?_
    clear hE hm h
    refine c_seq ?_
    refine c_region ?_
    refine o_mv st rfl rfl ?_
    refine o_fad st rfl rfl fld125_3 rfl ?_
    refine o_ldc st (v := (.bool t_0.xNot)) 0 rfl rfl rfl ty4 rfl ?_
    refine o_neqB st und4 rfl rfl rfl ?_
    refine o_as st rfl rfl ?_
    refine c_nil ?_
    refine l_then ?_
    refine c_ret ?_
    exact l_end1 Tryd.results127 (!(decide (t67 = t_0.xNot))) () (rv_t rfl) (fun _ _ => NewCh.nil _ _ _ _)

set_option maxRecDepth 100000 in
set_option maxHeartbeats 8000000 in
theorem w_impl_allHold {w0 : World} {F : Nat → Prop} {v1 : Value} {list_0 : (List GTest)} {p_1 : GPacket} {κ : Bool → Prop} (hF : ∀ b, F b → b < w0.heap.size ∧ ¬ feet [] b) (hv1 : Sl elGTest F w0 v1 list_0) (h : L_impl_allHold list_0 p_1 κ) :
    Calls Tryd.prog 112 #[v1, (.agg #[(.int .i64 p_1.xFrom), (.int .i64 p_1.xTo), (.int .i64 p_1.xPort), (.int .i64 p_1.xProto)])] w0 (Ret [] F w0 κ (fun (r : Bool) (u : Unit) => (.bool r)) (fun (r : Bool) (u : Unit) => [])) := by
  refine enterS (args := [v1, (.agg #[(.int .i64 p_1.xFrom), (.int .i64 p_1.xTo), (.int .i64 p_1.xPort), (.int .i64 p_1.xProto)])]) [] hF (Given.nil _ _) Tryd.func112 rfl Tryd.ntmps112 rfl h ?_
  clear h hF
  refine c_seq ?_
  refine c_region ?_
  refine stw (o_box rfl rfl [(.int .i64 p_1.xFrom), (.int .i64 p_1.xTo), (.int .i64 p_1.xPort), (.int .i64 p_1.xProto)] rfl ?_); intro b3
  refine o_as st rfl rfl ?_
  refine c_nil ?_
  refine l_then ?_
  refine c_seq ?_
  refine c_seq ?_
  refine c_region ?_
  refine o_mv st rfl rfl ?_
  refine o_len st el80 1 rfl (reads_snap hv1) rfl rfl ?_
  refine o_mv st rfl rfl ?_
  refine c_nil ?_
  refine l_then ?_
  refine c_block ?_
  refine c_loop (σ := Int) (fun (t5 : Int) (a : Act) (w : World) => Has 18 [(3, (.pointer (some ⟨b3, 0, none⟩))), (7, v1), (8, (.int .i64 (list_0.length : Int))), (9, (.int .i64 t5))] a ∧ Mem (gB F [] w0) (feet []) w0 [cellCh b3 [(.int .i64 p_1.xFrom), (.int .i64 p_1.xTo), (.int .i64 p_1.xPort), (.int .i64 p_1.xProto)] 49, snapCh w0 F] w) (fun a w hE hm => ⟨hE.sub ⟨rfl, rfl, rfl, rfl, trivial⟩, (hm.pick [0, 1] rfl)⟩) ?_
  rintro nx6 t5 a w ⟨hE, hm⟩ h
  refine nx_of hE hm h ?_
  clear hE hm h
  refine c_seq ?_
  refine c_region ?_
  refine o_lss st rfl rfl rfl ?_
  refine c_nil ?_
  refine l_then ?_
  refine c_seq ?_
  refine c_cond rfl ?_ ?_
  · refine c_skip ?_
    refine l_then ?_
    refine c_seq ?_
    refine c_block ?_
    refine c_seq ?_
    refine c_region ?_
    refine o_idx st 1 rfl (reads_snap hv1) rfl rfl rfl el80 ?_; intro e7 h8
    refine o_lds st (enc := encGTest) (u := (.agg #[(.int .i64 e7.xField), (.int .i64 e7.xLo), (.int .i64 e7.xHi), (.bool e7.xNot)])) 1 rfl (reads_snap hv1) flelGTest rfl h8 rfl rfl ty125 rfl ?_
    refine stw (o_alloc rfl [(.int .i64 0), (.int .i64 0), (.int .i64 0), (.bool false)] zero125 ?_); intro b9
    refine stw (o_stc (cs' := [(.int .i64 e7.xField), (.int .i64 e7.xLo), (.int .i64 e7.xHi), (.bool e7.xNot)]) 0 rfl rfl rfl ty125 rfl rfl rfl rfl ?_)
    refine c_nil ?_
    refine l_then ?_
    refine c_seq ?_
    refine c_region ?_
    refine o_ldc st (v := (.agg #[(.int .i64 e7.xField), (.int .i64 e7.xLo), (.int .i64 e7.xHi), (.bool e7.xNot)])) 0 rfl rfl rfl ty125 rfl ?_
    refine o_ldc st (v := (.agg #[(.int .i64 p_1.xFrom), (.int .i64 p_1.xTo), (.int .i64 p_1.xPort), (.int .i64 p_1.xProto)])) 1 rfl rfl rfl ty49 rfl ?_
    refine stw (o_callP (vs := [(.agg #[(.int .i64 e7.xField), (.int .i64 e7.xLo), (.int .i64 e7.xHi), (.bool e7.xNot)]), (.agg #[(.int .i64 p_1.xFrom), (.int .i64 p_1.xTo), (.int .i64 p_1.xPort), (.int .i64 p_1.xProto)])]) Tryd.call127 rfl rfl (by intro w m h; exact (w_impl_Test_holds (F := allB [] w) (t_0 := e7) (p_1 := p_1) allB_ok h).mono (fun _ _ k => ret_free (fun r u => fr_nil) k)) ?_); rintro r11 _
    refine o_not st rfl rfl ?_
    refine c_nil ?_
    refine l_then ?_
    refine c_cond rfl ?_ ?_
    · refine c_seq ?_
      refine c_region ?_
      refine o_as st rfl rfl ?_
      refine c_nil ?_
      refine l_then ?_
      refine c_ret ?_
      refine b_ret ?_
      refine l_ret ?_
      refine l_ret ?_
      refine b_ret ?_
      refine l_ret ?_
      exact l_end1 Tryd.results112 false () (rv_t rfl) (fun _ _ => NewCh.nil _ _ _ _)
    · refine c_skip ?_
      refine b_norm ?_
      refine l_then ?_
      refine c_region ?_
      refine o_add st rfl rfl rfl ?_; intro t12
      refine o_mv st rfl rfl ?_
      refine c_nil ?_
      exact l_join t12 (fun a w hE hm => ⟨hE.sub ⟨rfl, rfl, rfl, rfl, trivial⟩, (hm.pick [1, 2] rfl)⟩)
  · refine c_exit ?_
    refine l_exit ?_
    refine l_exit ?_
    refine b_exit ?_
    refine l_then ?_
    refine c_seq ?_
    refine c_region ?_
    refine o_as st rfl rfl ?_
    refine c_nil ?_
    refine l_then ?_
    refine c_ret ?_
    exact l_end1 Tryd.results112 true () (rv_t rfl) (fun _ _ => NewCh.nil _ _ _ _)

set_option maxRecDepth 100000 in
set_option maxHeartbeats 8000000 in
theorem w_impl_actionOf {w0 : World} {F : Nat → Prop} {v1 : Value} {r_0 : GRule} {κ : IAction → Prop} (hF : ∀ b, F b → b < w0.heap.size ∧ ¬ feet [] b) (hv1 : Sl elGTest F w0 v1 r_0.xTests) (h : L_impl_actionOf r_0 κ) :
    Calls Tryd.prog 113 #[(.agg #[v1, (.int .i64 r_0.xAction), (.int .i64 r_0.xChain)])] w0 (Ret [] F w0 κ (fun (r : IAction) (u : Unit) => (ivIAction r)) (fun (r : IAction) (u : Unit) => [])) := by
  refine enterS (args := [(.agg #[v1, (.int .i64 r_0.xAction), (.int .i64 r_0.xChain)])]) [] hF (Given.nil _ _) Tryd.func113 rfl Tryd.ntmps113 rfl h ?_
  clear h hF
  refine c_seq ?_
  refine c_region ?_
  obtain ⟨a3, l4, q5, hs_⟩ := sl_val hv1; subst hs_
  refine stw (o_box rfl rfl [(.slice a3 l4 q5), (.int .i64 r_0.xAction), (.int .i64 r_0.xChain)] rfl ?_); intro b6
  refine o_as st rfl rfl ?_
  refine c_nil ?_
  refine l_then ?_
  refine c_seq ?_
  refine c_seq ?_
  refine c_region ?_
  refine o_fad st rfl rfl fld89_1 rfl ?_
  refine o_ldc st (v := (.int .i64 r_0.xAction)) 0 rfl rfl rfl ty3 rfl ?_
  refine c_nil ?_
  refine l_then ?_
  refine c_block ?_
  refine c_seq ?_
  refine c_region ?_
  refine o_eql st und3 rfl rfl rfl ?_
  refine o_as st rfl rfl ?_
  refine c_nil ?_
  refine l_then ?_
  refine c_cond rfl ?_ ?_
  · refine c_seq ?_
    refine c_region ?_
    refine o_bld st (qs := [(0, (.bool true))]) (cells := [(.bool true)]) (by intro ρ h; simp only [List.map_toArray, List.map_cons, List.map_nil, h (.const (.bool true)) _ rfl]) rfl bld184 rfl ?_
    refine o_mki st (u := (ivIAction (IAction.kDeciding (GDeciding.mk true)))) mki184 rfl rfl rfl ?_
    refine o_as st rfl rfl ?_
    refine c_nil ?_
    refine l_then ?_
    refine c_ret ?_
    refine b_ret ?_
    refine l_ret ?_
    exact l_end1 Tryd.results113 (IAction.kDeciding (GDeciding.mk true)) () (rv_t rfl) (fun _ _ => NewCh.nil _ _ _ _)
  · refine c_seq ?_
    refine c_region ?_
    refine o_eql st und3 rfl rfl rfl ?_
    refine o_as st rfl rfl ?_
    refine c_nil ?_
    refine l_then ?_
    refine c_cond rfl ?_ ?_
    · refine c_seq ?_
      refine c_region ?_
      refine o_bld st (qs := [(0, (.bool false))]) (cells := [(.bool false)]) (by intro ρ h; simp only [List.map_toArray, List.map_cons, List.map_nil, h (.const (.bool false)) _ rfl]) rfl bld184 rfl ?_
      refine o_mki st (u := (ivIAction (IAction.kDeciding (GDeciding.mk false)))) mki184 rfl rfl rfl ?_
      refine o_as st rfl rfl ?_
      refine c_nil ?_
      refine l_then ?_
      refine c_ret ?_
      refine b_ret ?_
      refine l_ret ?_
      exact l_end1 Tryd.results113 (IAction.kDeciding (GDeciding.mk false)) () (rv_t rfl) (fun _ _ => NewCh.nil _ _ _ _)
    · refine c_seq ?_
      refine c_region ?_
      refine o_eql st und3 rfl rfl rfl ?_
      refine o_as st rfl rfl ?_
      refine c_nil ?_
      refine l_then ?_
      refine c_cond rfl ?_ ?_
      · refine c_seq ?_
        refine c_region ?_
        refine o_fad st rfl rfl fld89_2 rfl ?_
        refine o_ldc st (v := (.int .i64 r_0.xChain)) 0 rfl rfl rfl ty3 rfl ?_
        refine o_bld st (qs := [(0, (.int .i64 r_0.xChain))]) (cells := [(.int .i64 r_0.xChain)]) (by intro ρ h; simp only [List.map_toArray, List.map_cons, List.map_nil, h (.tmp 16) _ rfl]) rfl bld186 rfl ?_
        refine o_mki st (u := (ivIAction (IAction.kCalling (GCalling.mk r_0.xChain)))) mki186 rfl rfl rfl ?_
        refine o_as st rfl rfl ?_
        refine c_nil ?_
        refine l_then ?_
        refine c_ret ?_
        refine b_ret ?_
        refine l_ret ?_
        exact l_end1 Tryd.results113 (IAction.kCalling (GCalling.mk r_0.xChain)) () (rv_t rfl) (fun _ _ => NewCh.nil _ _ _ _)
      · refine c_seq ?_
        refine c_region ?_
        refine o_eql st und3 rfl rfl rfl ?_
        refine o_as st rfl rfl ?_
        refine c_nil ?_
        refine l_then ?_
        refine c_cond rfl ?_ ?_
        · refine c_seq ?_
          refine c_region ?_
          refine o_bld st (qs := []) (cells := []) (by intro ρ h; simp only [List.map_toArray, List.map_cons, List.map_nil]) rfl bld188 rfl ?_
          refine o_mki st (u := (ivIAction (IAction.kReturning (GReturning.mk )))) mki188 rfl rfl rfl ?_
          refine o_as st rfl rfl ?_
          refine c_nil ?_
          refine l_then ?_
          refine c_ret ?_
          refine b_ret ?_
          refine l_ret ?_
          exact l_end1 Tryd.results113 (IAction.kReturning (GReturning.mk )) () (rv_t rfl) (fun _ _ => NewCh.nil _ _ _ _)
        · refine c_skip ?_
          refine b_norm ?_
          refine l_then ?_
          refine c_seq ?_
          refine c_region ?_
          refine o_bld st (qs := []) (cells := []) (by intro ρ h; simp only [List.map_toArray, List.map_cons, List.map_nil]) rfl bld189 rfl ?_
          refine o_mki st (u := (ivIAction (IAction.kPassing (GPassing.mk )))) mki189 rfl rfl rfl ?_
          refine o_as st rfl rfl ?_
          refine c_nil ?_
          refine l_then ?_
          refine c_ret ?_
          exact l_end1 Tryd.results113 (IAction.kPassing (GPassing.mk )) () (rv_t rfl) (fun _ _ => NewCh.nil _ _ _ _)

set_option maxRecDepth 100000 in
set_option maxHeartbeats 8000000 in
theorem w_impl_deciding_walk {w0 : World} {F : Nat → Prop} {b1 : Nat} {v2 : Value} {v4 : Value} {d_0 : GDeciding} {w_1_stack : (List GPlace)} {w_1_visits : (List GVisit)} {w_1_decision : Int} {κ : Int → Prop} (hF : ∀ b, F b → b < w0.heap.size ∧ ¬ feet [cellCh b1 [v2, v4, (.int .i64 w_1_decision)] 146, ownCh elGPlace 162 v2 w_1_stack, ownCh elGVisit 166 v4 w_1_visits] b) (hg : Given [cellCh b1 [v2, v4, (.int .i64 w_1_decision)] 146, ownCh elGPlace 162 v2 w_1_stack, ownCh elGVisit 166 v4 w_1_visits] F w0) (h : L_impl_deciding_walk d_0 w_1_stack w_1_visits w_1_decision κ) :
    Calls Tryd.prog 164 #[(.agg #[(.bool d_0.xAccept)]), (.pointer (some ⟨b1, 0, none⟩))] w0 (Ret [cellCh b1 [v2, v4, (.int .i64 w_1_decision)] 146, ownCh elGPlace 162 v2 w_1_stack, ownCh elGVisit 166 v4 w_1_visits] F w0 κ (fun (r : Int) (u : Unit) => .tuple #[]) (fun (r : Int) (u : Unit) => [cellCh b1 [v2, v4, (.int .i64 r)] 146, ownCh elGPlace 162 v2 w_1_stack, ownCh elGVisit 166 v4 w_1_visits])) := by
  refine enter0 (args := [(.agg #[(.bool d_0.xAccept)]), (.pointer (some ⟨b1, 0, none⟩))]) [cellCh b1 [v2, v4, (.int .i64 w_1_decision)] 146, ownCh elGPlace 162 v2 w_1_stack, ownCh elGVisit 166 v4 w_1_visits] hF hg Tryd.func164 rfl Tryd.ntmps164 rfl h ?_
  clear h hF hg
  refine c_seq ?_
  refine c_region ?_
  refine stw (o_box rfl rfl [(.bool d_0.xAccept)] rfl ?_); intro b7
  refine c_nil ?_
  refine l_then ?_
  refine c_seq ?_
  refine c_region ?_
  refine o_fad st rfl rfl fld184_0 rfl ?_
  refine o_ldc st (v := (.bool d_0.xAccept)) 0 rfl rfl rfl ty4 rfl ?_
  refine c_nil ?_
  refine l_then ?_
  refine c_cond rfl ?_ ?_
  · refine c_region ?_
    refine o_mv st rfl rfl ?_
    refine o_nilc st rfl rfl ?_
    refine o_fad st rfl rfl fld146_2 rfl ?_
    refine stw (o_stc (cs' := [v2, v4, (.int .i64 1)]) 1 rfl rfl rfl ty3 rfl rfl rfl rfl ?_)
    refine c_nil ?_
    exact l_end0m Tryd.results164 1 () rfl (fun w m => NewCh.ofB m [1, 2, 3] rfl)
  · refine c_region ?_
    refine o_mv st rfl rfl ?_
    refine o_nilc st rfl rfl ?_
    refine o_fad st rfl rfl fld146_2 rfl ?_
    refine stw (o_stc (cs' := [v2, v4, (.int .i64 2)]) 1 rfl rfl rfl ty3 rfl rfl rfl rfl ?_)
    refine c_nil ?_
    exact l_end0m Tryd.results164 2 () rfl (fun w m => NewCh.ofB m [1, 2, 3] rfl)

set_option maxRecDepth 100000 in
set_option maxHeartbeats 8000000 in
theorem w_impl_calling_walk {w0 : World} {F : Nat → Prop} {b1 : Nat} {v2 : Value} {v4 : Value} {c_0 : GCalling} {w_1_stack : (List GPlace)} {w_1_visits : (List GVisit)} {w_1_decision : Int} {κ : (List GPlace) → Prop} (hF : ∀ b, F b → b < w0.heap.size ∧ ¬ feet [cellCh b1 [v2, v4, (.int .i64 w_1_decision)] 146, ownCh elGPlace 162 v2 w_1_stack, ownCh elGVisit 166 v4 w_1_visits] b) (hg : Given [cellCh b1 [v2, v4, (.int .i64 w_1_decision)] 146, ownCh elGPlace 162 v2 w_1_stack, ownCh elGVisit 166 v4 w_1_visits] F w0) (h : L_impl_calling_walk c_0 w_1_stack w_1_visits w_1_decision κ) :
    Calls Tryd.prog 167 #[(.agg #[(.int .i64 c_0.xChain)]), (.pointer (some ⟨b1, 0, none⟩))] w0 (Ret [cellCh b1 [v2, v4, (.int .i64 w_1_decision)] 146, ownCh elGPlace 162 v2 w_1_stack, ownCh elGVisit 166 v4 w_1_visits] F w0 κ (fun (r : (List GPlace)) (u : Value) => .tuple #[]) (fun (r : (List GPlace)) (u : Value) => [cellCh b1 [u, v4, (.int .i64 w_1_decision)] 146, ownCh elGPlace 162 u r, ownCh elGVisit 166 v4 w_1_visits])) := by
  refine enter0 (args := [(.agg #[(.int .i64 c_0.xChain)]), (.pointer (some ⟨b1, 0, none⟩))]) [cellCh b1 [v2, v4, (.int .i64 w_1_decision)] 146, ownCh elGPlace 162 v2 w_1_stack, ownCh elGVisit 166 v4 w_1_visits] hF hg Tryd.func167 rfl Tryd.ntmps167 rfl h ?_
  clear h hF hg
  refine c_seq ?_
  refine c_region ?_
  refine stw (o_box rfl rfl [(.int .i64 c_0.xChain)] rfl ?_); intro b7
  refine c_nil ?_
  refine l_then ?_
  refine c_join1 (σ := (List GPlace)) (fun (xs9 : (List GPlace)) (a : Act) (w : World) => ∃ (v10 : Value), Has 16 [] a ∧ Mem (gB F [cellCh b1 [v2, v4, (.int .i64 w_1_decision)] 146, ownCh elGPlace 162 v2 w_1_stack, ownCh elGVisit 166 v4 w_1_visits] w0) (feet [cellCh b1 [v2, v4, (.int .i64 w_1_decision)] 146, ownCh elGPlace 162 v2 w_1_stack, ownCh elGVisit 166 v4 w_1_visits]) w0 [cellCh b1 [v10, v4, (.int .i64 w_1_decision)] 146, ownCh elGPlace 162 v10 xs9, ownCh elGVisit 166 v4 w_1_visits] w) ?_ ?_
  · intro k12
    refine c_drawQ mixed 13 rfl [cellCh b7 [(.int .i64 c_0.xChain)] 186, ownCh elGVisit 166 v4 w_1_visits] ?_
    intro Qd hP hQ
    have H852 : ∀ (v13 : Value) (a16 : Option Addr) (l17 : Nat) (q18 : Nat), Nx 16 (gB F [cellCh b1 [v2, v4, (.int .i64 w_1_decision)] 146, ownCh elGPlace 162 v2 w_1_stack, ownCh elGVisit 166 v4 w_1_visits] w0) (feet [cellCh b1 [v2, v4, (.int .i64 w_1_decision)] 146, ownCh elGPlace 162 v2 w_1_stack, ownCh elGVisit 166 v4 w_1_visits]) w0 (wpAnyH Tryd.prog .any (opsAt Tryd.f167 [1]) Qd (Mem (gB F [cellCh b1 [v2, v4, (.int .i64 w_1_decision)] 146, ownCh elGPlace 162 v2 w_1_stack, ownCh elGVisit 166 v4 w_1_visits] w0) (feet [cellCh b1 [v2, v4, (.int .i64 w_1_decision)] 146, ownCh elGPlace 162 v2 w_1_stack, ownCh elGVisit 166 v4 w_1_visits]) w0 [cellCh b7 [(.int .i64 c_0.xChain)] 186, ownCh elGVisit 166 v4 w_1_visits]) 0 #[true, true, true, true, true, true, true, true, true, true, true, true, true]) [] [cellCh b7 [(.int .i64 c_0.xChain)] 186, cellCh b1 [(.slice a16 l17 q18), v4, (.int .i64 w_1_decision)] 146, ownCh elGPlace 162 (.slice a16 l17 q18) (w_1_stack ++ ([(GPlace.mk c_0.xChain 0)])), ownCh elGVisit 166 v4 w_1_visits] (k12 (w_1_stack ++ ([(GPlace.mk c_0.xChain 0)]))) := by
      intro v13 a16 l17 q18
      refine d_done (by kernel_rfl) ?_
      exact fun a w hE hm hφ => hQ (w_1_stack ++ ([(GPlace.mk c_0.xChain 0)])) a w hφ ((fun a w hE hm => ⟨(.slice a16 l17 q18), hE.sub trivial, (hm.pick [1, 2, 3] rfl)⟩) a w hE hm)
    have H853 : ∀ (v13 : Value) (v14 : Value), Nx 16 (gB F [cellCh b1 [v2, v4, (.int .i64 w_1_decision)] 146, ownCh elGPlace 162 v2 w_1_stack, ownCh elGVisit 166 v4 w_1_visits] w0) (feet [cellCh b1 [v2, v4, (.int .i64 w_1_decision)] 146, ownCh elGPlace 162 v2 w_1_stack, ownCh elGVisit 166 v4 w_1_visits]) w0 (wpAnyH Tryd.prog .any (opsAt Tryd.f167 [1]) Qd (Mem (gB F [cellCh b1 [v2, v4, (.int .i64 w_1_decision)] 146, ownCh elGPlace 162 v2 w_1_stack, ownCh elGVisit 166 v4 w_1_visits] w0) (feet [cellCh b1 [v2, v4, (.int .i64 w_1_decision)] 146, ownCh elGPlace 162 v2 w_1_stack, ownCh elGVisit 166 v4 w_1_visits]) w0 [cellCh b7 [(.int .i64 c_0.xChain)] 186, ownCh elGVisit 166 v4 w_1_visits]) 3 #[true, true, true, true, true, true, true, true, true, true, false, false, false]) [(4, (.pointer (some ⟨b1, 0, none⟩))), (13, v14)] [cellCh b7 [(.int .i64 c_0.xChain)] 186, cellCh b1 [v2, v4, (.int .i64 w_1_decision)] 146, ownCh elGPlace 162 v14 (w_1_stack ++ ([(GPlace.mk c_0.xChain 0)])), ownCh elGVisit 166 v4 w_1_visits] (k12 (w_1_stack ++ ([(GPlace.mk c_0.xChain 0)]))) := by
      intro v13 v14
      refine o_nilc (dt 10 (fun w m => m.pick [0, 3] rfl)) rfl rfl ?_
      refine o_fad (dt 11 (fun w m => m.pick [0, 3] rfl)) rfl rfl fld146_0 rfl ?_
      refine nx_own 2 rfl ?_; rintro a16 l17 q18 rfl
      refine d_one (i := 12) rfl (by kernel_rfl) (o_stc (cs' := [(.slice a16 l17 q18), v4, (.int .i64 w_1_decision)]) 1 rfl rfl rfl ty143 rfl rfl rfl rfl ?_)
      refine d_and (fun w m => m.pick [0, 3] rfl) ?_
      refine pk [0, 1, 2, 3] rfl ?_
      refine re (E' := []) trivial ?_
      exact H852 v13 a16 l17 q18
    have H854 : ∀ (v13 : Value), Nx 16 (gB F [cellCh b1 [v2, v4, (.int .i64 w_1_decision)] 146, ownCh elGPlace 162 v2 w_1_stack, ownCh elGVisit 166 v4 w_1_visits] w0) (feet [cellCh b1 [v2, v4, (.int .i64 w_1_decision)] 146, ownCh elGPlace 162 v2 w_1_stack, ownCh elGVisit 166 v4 w_1_visits]) w0 (wpAnyH Tryd.prog .any (opsAt Tryd.f167 [1]) Qd (Mem (gB F [cellCh b1 [v2, v4, (.int .i64 w_1_decision)] 146, ownCh elGPlace 162 v2 w_1_stack, ownCh elGVisit 166 v4 w_1_visits] w0) (feet [cellCh b1 [v2, v4, (.int .i64 w_1_decision)] 146, ownCh elGPlace 162 v2 w_1_stack, ownCh elGVisit 166 v4 w_1_visits]) w0 [cellCh b7 [(.int .i64 c_0.xChain)] 186, ownCh elGVisit 166 v4 w_1_visits]) 4 #[true, true, true, true, true, true, true, true, true, false, false, false, false]) [(4, (.pointer (some ⟨b1, 0, none⟩))), (8, v2), (12, v13)] [ownCh elGPlace 162 v13 ([(GPlace.mk c_0.xChain 0)]), cellCh b7 [(.int .i64 c_0.xChain)] 186, cellCh b1 [v2, v4, (.int .i64 w_1_decision)] 146, ownCh elGPlace 162 v2 w_1_stack, ownCh elGVisit 166 v4 w_1_visits] (appW w_1_stack ([(GPlace.mk c_0.xChain 0)]) (fun _ => k12 (w_1_stack ++ ([(GPlace.mk c_0.xChain 0)])))) := by
      intro v13
      refine d_one (i := 9) rfl (by kernel_rfl) (o_app 3 0 rfl rfl (src_flat flelGPlace reads_own) rfl rfl rfl el143 rfl zero162 rfl rfl ?_); intro v14
      refine d_and (fun w m => m.pick [1, 4] rfl) ?_
      refine pk [1, 2, 3, 4] rfl ?_
      refine re (E' := [(4, (.pointer (some ⟨b1, 0, none⟩))), (13, v14)]) ⟨rfl, rfl, trivial⟩ ?_
      exact H853 v13 v14
    have H855 : ∀ (_ : Unit), Nx 16 (gB F [cellCh b1 [v2, v4, (.int .i64 w_1_decision)] 146, ownCh elGPlace 162 v2 w_1_stack, ownCh elGVisit 166 v4 w_1_visits] w0) (feet [cellCh b1 [v2, v4, (.int .i64 w_1_decision)] 146, ownCh elGPlace 162 v2 w_1_stack, ownCh elGVisit 166 v4 w_1_visits]) w0 (wpAnyH Tryd.prog .any (opsAt Tryd.f167 [1]) Qd (Mem (gB F [cellCh b1 [v2, v4, (.int .i64 w_1_decision)] 146, ownCh elGPlace 162 v2 w_1_stack, ownCh elGVisit 166 v4 w_1_visits] w0) (feet [cellCh b1 [v2, v4, (.int .i64 w_1_decision)] 146, ownCh elGPlace 162 v2 w_1_stack, ownCh elGVisit 166 v4 w_1_visits]) w0 [cellCh b7 [(.int .i64 c_0.xChain)] 186, ownCh elGVisit 166 v4 w_1_visits]) 5 #[true, true, true, true, true, true, true, true, false, false, false, false, false]) [(4, (.pointer (some ⟨b1, 0, none⟩))), (11, (.agg #[(.int .i64 c_0.xChain), (.int .i64 0)])), (8, v2)] [cellCh b7 [(.int .i64 c_0.xChain)] 186, cellCh b1 [v2, v4, (.int .i64 w_1_decision)] 146, ownCh elGPlace 162 v2 w_1_stack, ownCh elGVisit 166 v4 w_1_visits] (appW w_1_stack ([(GPlace.mk c_0.xChain 0)]) (fun _ => k12 (w_1_stack ++ ([(GPlace.mk c_0.xChain 0)])))) := by
      intro _
      refine d_one (i := 8) rfl (by kernel_rfl) (o_bsl (enc := encGPlace) (qs := [(0, (.agg #[(.int .i64 c_0.xChain), (.int .i64 0)]))]) (cells := [(.int .i64 c_0.xChain), (.int .i64 0)]) ([(GPlace.mk c_0.xChain 0)]) flelGPlace (by intro ρ h; simp only [List.map_toArray, List.map_cons, List.map_nil, h (.tmp 11) _ rfl]) rfl el143 zero162 rfl rfl rfl rfl rfl rfl ?_); intro v13
      refine d_and (fun w m => m.pick [1, 4] rfl) ?_
      refine pk [0, 1, 2, 3, 4] rfl ?_
      refine re (E' := [(4, (.pointer (some ⟨b1, 0, none⟩))), (8, v2), (12, v13)]) ⟨rfl, rfl, rfl, trivial⟩ ?_
      exact H854 v13
    have H856 : ∀ (v19 : Value), Nx 16 (gB F [cellCh b1 [v2, v4, (.int .i64 w_1_decision)] 146, ownCh elGPlace 162 v2 w_1_stack, ownCh elGVisit 166 v4 w_1_visits] w0) (feet [cellCh b1 [v2, v4, (.int .i64 w_1_decision)] 146, ownCh elGPlace 162 v2 w_1_stack, ownCh elGVisit 166 v4 w_1_visits]) w0 (wpAnyH Tryd.prog .any (opsAt Tryd.f167 [1]) Qd (Mem (gB F [cellCh b1 [v2, v4, (.int .i64 w_1_decision)] 146, ownCh elGPlace 162 v2 w_1_stack, ownCh elGVisit 166 v4 w_1_visits] w0) (feet [cellCh b1 [v2, v4, (.int .i64 w_1_decision)] 146, ownCh elGPlace 162 v2 w_1_stack, ownCh elGVisit 166 v4 w_1_visits]) w0 [cellCh b7 [(.int .i64 c_0.xChain)] 186, ownCh elGVisit 166 v4 w_1_visits]) 5 #[true, true, true, true, false, true, true, true, true, false, false, false, false]) [(4, (.pointer (some ⟨b1, 0, none⟩))), (7, (.pointer (some ⟨b1, 0, none⟩))), (12, v19)] [ownCh elGPlace 162 v19 ([(GPlace.mk c_0.xChain 0)]), cellCh b7 [(.int .i64 c_0.xChain)] 186, cellCh b1 [v2, v4, (.int .i64 w_1_decision)] 146, ownCh elGPlace 162 v2 w_1_stack, ownCh elGVisit 166 v4 w_1_visits] (appW w_1_stack ([(GPlace.mk c_0.xChain 0)]) (fun _ => k12 (w_1_stack ++ ([(GPlace.mk c_0.xChain 0)])))) := by
      intro v19
      refine d_one (i := 4) rfl (by kernel_rfl) (o_ldc m_op (v := v2) 2 rfl rfl rfl ty143 rfl ?_)
      refine d_and (fun w m => m.pick [1, 4] rfl) ?_
      refine pk [0, 1, 2, 3, 4] rfl ?_
      refine re (E' := [(4, (.pointer (some ⟨b1, 0, none⟩))), (8, v2), (12, v19)]) ⟨rfl, rfl, rfl, trivial⟩ ?_
      exact H854 v19
    refine o_mv (dt 0 (fun w m => m.pick [0, 3] rfl)) rfl rfl ?_
    refine o_mv (dt 1 (fun w m => m.pick [0, 3] rfl)) rfl rfl ?_
    refine o_nilc (dt 2 (fun w m => m.pick [0, 3] rfl)) rfl rfl ?_
    refine o_fad (dt 3 (fun w m => m.pick [0, 3] rfl)) rfl rfl fld146_0 rfl ?_
    refine o_fad (dt 5 (fun w m => m.pick [0, 3] rfl)) rfl rfl fld186_0 rfl ?_
    refine o_ldc (dt 6 (fun w m => m.pick [0, 3] rfl)) (v := (.int .i64 c_0.xChain)) 0 rfl rfl rfl ty3 rfl ?_
    refine o_bld (dt 7 (fun w m => m.pick [0, 3] rfl)) (qs := [(0, (.int .i64 c_0.xChain)), (1, (.int .i64 0))]) (cells := [(.int .i64 c_0.xChain), (.int .i64 0)]) (by intro ρ h; simp only [List.map_toArray, List.map_cons, List.map_nil, h (.tmp 10) _ rfl, h (.const (.int .i64 0)) _ rfl]) rfl bld162 rfl ?_
    refine d_two (i := 4) (j := 8) rfl rfl (by kernel_rfl) ?_ ?_
    · intro o ho; cases ho
      refine o_ldc m_op (v := v2) 1 rfl rfl rfl ty143 rfl ?_
      refine d_and (fun w m => m.pick [0, 3] rfl) ?_
      refine pk [0, 1, 2, 3] rfl ?_
      refine re (E' := [(4, (.pointer (some ⟨b1, 0, none⟩))), (11, (.agg #[(.int .i64 c_0.xChain), (.int .i64 0)])), (8, v2)]) ⟨rfl, rfl, rfl, trivial⟩ ?_
      exact H855 ()
    · intro o ho; cases ho
      refine o_bsl (enc := encGPlace) (qs := [(0, (.agg #[(.int .i64 c_0.xChain), (.int .i64 0)]))]) (cells := [(.int .i64 c_0.xChain), (.int .i64 0)]) ([(GPlace.mk c_0.xChain 0)]) flelGPlace (by intro ρ h; simp only [List.map_toArray, List.map_cons, List.map_nil, h (.tmp 11) _ rfl]) rfl el143 zero162 rfl rfl rfl rfl rfl rfl ?_; intro v19
      refine d_and (fun w m => m.pick [1, 4] rfl) ?_
      refine pk [0, 1, 2, 3, 4] rfl ?_
      refine re (E' := [(4, (.pointer (some ⟨b1, 0, none⟩))), (7, (.pointer (some ⟨b1, 0, none⟩))), (12, v19)]) ⟨rfl, rfl, rfl, trivial⟩ ?_
      exact H856 v19
  · rintro xs9 a w ⟨v10, hE, hm⟩ h
    refine nx_of hE hm h ?_
    clear hE hm h
    exact l_end0m Tryd.results167 xs9 v10 rfl (fun w m => NewCh.ofB m [0, 1, 2] rfl)

set_option maxRecDepth 100000 in
set_option maxHeartbeats 8000000 in
theorem w_impl_returning_walk {w0 : World} {F : Nat → Prop} {b1 : Nat} {v2 : Value} {v4 : Value} {a_0 : GReturning} {w_1_stack : (List GPlace)} {w_1_visits : (List GVisit)} {w_1_decision : Int} {κ : (List GPlace) → Prop} (hF : ∀ b, F b → b < w0.heap.size ∧ ¬ feet [cellCh b1 [v2, v4, (.int .i64 w_1_decision)] 146, ownCh elGPlace 162 v2 w_1_stack, ownCh elGVisit 166 v4 w_1_visits] b) (hg : Given [cellCh b1 [v2, v4, (.int .i64 w_1_decision)] 146, ownCh elGPlace 162 v2 w_1_stack, ownCh elGVisit 166 v4 w_1_visits] F w0) (h : L_impl_returning_walk a_0 w_1_stack w_1_visits w_1_decision κ) :
    Calls Tryd.prog 170 #[(.agg #[]), (.pointer (some ⟨b1, 0, none⟩))] w0 (Ret [cellCh b1 [v2, v4, (.int .i64 w_1_decision)] 146, ownCh elGPlace 162 v2 w_1_stack, ownCh elGVisit 166 v4 w_1_visits] F w0 κ (fun (r : (List GPlace)) (u : Value) => .tuple #[]) (fun (r : (List GPlace)) (u : Value) => [cellCh b1 [u, v4, (.int .i64 w_1_decision)] 146, ownCh elGPlace 162 u r, ownCh elGVisit 166 v4 w_1_visits])) := by
  refine enter0 (args := [(.agg #[]), (.pointer (some ⟨b1, 0, none⟩))]) [cellCh b1 [v2, v4, (.int .i64 w_1_decision)] 146, ownCh elGPlace 162 v2 w_1_stack, ownCh elGVisit 166 v4 w_1_visits] hF hg Tryd.func170 rfl Tryd.ntmps170 rfl h ?_
  clear h hF hg
  refine c_seq ?_
  refine c_region ?_
  refine stw (o_box rfl rfl [] rfl ?_); intro b7
  refine c_nil ?_
  refine l_then ?_
  refine c_region ?_
  refine o_mv st rfl rfl ?_
  refine pk [1, 2, 3, 0] rfl ?_
  refine stw (o_call (vs := [(.pointer (some ⟨b1, 0, none⟩))]) (M0 := [cellCh b1 [v2, v4, (.int .i64 w_1_decision)] 146, ownCh elGPlace 162 v2 w_1_stack, ownCh elGVisit 166 v4 w_1_visits]) Tryd.call111 rfl rfl (by intro w m h; exact (w_impl_walk_leave (F := allB [cellCh b1 [v2, v4, (.int .i64 w_1_decision)] 146, ownCh elGPlace 162 v2 w_1_stack, ownCh elGVisit 166 v4 w_1_visits] w) (w_0_stack := w_1_stack) (w_0_visits := w_1_visits) (w_0_decision := w_1_decision) allB_ok m.given h).mono (fun _ _ k => ret_free (fun r u => (fr_cons free_cell (fr_cons (free_own flelGPlace) (fr_cons (free_own flelGVisit) fr_nil)))) k)) ?_); rintro r9 v10
  refine c_nil ?_
  exact l_end0m Tryd.results170 r9 v10 rfl (fun w m => NewCh.ofB m [0, 1, 2] rfl)

set_option maxRecDepth 100000 in
set_option maxHeartbeats 8000000 in
theorem w_impl_passing_walk {w0 : World} {F : Nat → Prop} {b1 : Nat} {v2 : Value} {v4 : Value} {a_0 : GPassing} {a_1_stack : (List GPlace)} {a_1_visits : (List GVisit)} {a_1_decision : Int} {κ : Unit → Prop} (hF : ∀ b, F b → b < w0.heap.size ∧ ¬ feet [cellCh b1 [v2, v4, (.int .i64 a_1_decision)] 146, ownCh elGPlace 162 v2 a_1_stack, ownCh elGVisit 166 v4 a_1_visits] b) (hg : Given [cellCh b1 [v2, v4, (.int .i64 a_1_decision)] 146, ownCh elGPlace 162 v2 a_1_stack, ownCh elGVisit 166 v4 a_1_visits] F w0) (h : L_impl_passing_walk a_0 a_1_stack a_1_visits a_1_decision κ) :
    Calls Tryd.prog 173 #[(.agg #[]), (.pointer (some ⟨b1, 0, none⟩))] w0 (Ret [cellCh b1 [v2, v4, (.int .i64 a_1_decision)] 146, ownCh elGPlace 162 v2 a_1_stack, ownCh elGVisit 166 v4 a_1_visits] F w0 κ (fun (r : Unit) (u : Unit) => .tuple #[]) (fun (r : Unit) (u : Unit) => [cellCh b1 [v2, v4, (.int .i64 a_1_decision)] 146, ownCh elGPlace 162 v2 a_1_stack, ownCh elGVisit 166 v4 a_1_visits])) := by
  refine enter0 (args := [(.agg #[]), (.pointer (some ⟨b1, 0, none⟩))]) [cellCh b1 [v2, v4, (.int .i64 a_1_decision)] 146, ownCh elGPlace 162 v2 a_1_stack, ownCh elGVisit 166 v4 a_1_visits] hF hg Tryd.func173 rfl Tryd.ntmps173 rfl h ?_
  clear h hF hg
  refine c_region ?_
  refine stw (o_box rfl rfl [] rfl ?_); intro b7
  refine c_nil ?_
  exact l_end0m Tryd.results173 () () rfl (fun w m => NewCh.ofB m [1, 2, 3] rfl)

set_option maxRecDepth 100000 in
set_option maxHeartbeats 8000000 in
theorem w_impl_walkThrough {w0 : World} {F : Nat → Prop} {v1 : Value} {s_0 : GRuleset} {p_1 : GPacket} {κ : ((List GPlace) × (List GVisit) × Int) → Prop} (hF : ∀ b, F b → b < w0.heap.size ∧ ¬ feet [] b) (hv1 : Sl (elSl elGRule) F w0 v1 s_0.xChains) (h : L_impl_walkThrough s_0 p_1 κ) :
    Calls Tryd.prog 92 #[(.agg #[v1, (.bool s_0.xAccept)]), (.agg #[(.int .i64 p_1.xFrom), (.int .i64 p_1.xTo), (.int .i64 p_1.xPort), (.int .i64 p_1.xProto)])] w0 (Ret [] F w0 κ (fun (r : ((List GPlace) × (List GVisit) × Int)) (u : Nat × Value × Value) => .pointer (some ⟨u.1, 0, none⟩)) (fun (r : ((List GPlace) × (List GVisit) × Int)) (u : Nat × Value × Value) => [cellCh u.1 [u.2.1, u.2.2, (.int .i64 r.2.2)] 146, ownCh elGPlace 162 u.2.1 r.1, ownCh elGVisit 166 u.2.2 r.2.1])) := by
  refine enterS (args := [(.agg #[v1, (.bool s_0.xAccept)]), (.agg #[(.int .i64 p_1.xFrom), (.int .i64 p_1.xTo), (.int .i64 p_1.xPort), (.int .i64 p_1.xProto)])]) [] hF (Given.nil _ _) Tryd.func92 rfl Tryd.ntmps92 rfl h ?_
  clear h hF
  refine c_seq ?_
  refine c_region ?_
  obtain ⟨a3, l4, q5, hs_⟩ := sl_val hv1; subst hs_
  refine stw (o_box rfl rfl [(.slice a3 l4 q5), (.bool s_0.xAccept)] rfl ?_); intro b6
  refine stw (o_box rfl rfl [(.int .i64 p_1.xFrom), (.int .i64 p_1.xTo), (.int .i64 p_1.xPort), (.int .i64 p_1.xProto)] rfl ?_); intro b8
  refine o_as st rfl rfl ?_
  refine c_nil ?_
  refine l_then ?_
  refine c_seq ?_
  refine c_region ?_
  refine o_bld st (qs := [(0, (.int .i64 0)), (1, (.int .i64 0))]) (cells := [(.int .i64 0), (.int .i64 0)]) (by intro ρ h; simp only [List.map_toArray, List.map_cons, List.map_nil, h (.const (.int .i64 0)) _ rfl, h (.const (.int .i64 0)) _ rfl]) rfl bld162 rfl ?_
  refine stw (o_bsl (enc := encGPlace) (qs := [(0, (.agg #[(.int .i64 0), (.int .i64 0)]))]) (cells := [(.int .i64 0), (.int .i64 0)]) ([(GPlace.mk 0 0)]) flelGPlace (by intro ρ h; simp only [List.map_toArray, List.map_cons, List.map_nil, h (.tmp 9) _ rfl]) rfl el143 zero162 rfl rfl rfl rfl rfl rfl ?_); intro v10
  refine nx_own 0 rfl ?_; rintro a12 l13 q14 rfl
  refine o_bld st (qs := [(0, (.slice a12 l13 q14)), (2, (.int .i64 5))]) (cells := [(.slice a12 l13 q14), (.slice none 0 0), (.int .i64 5)]) (by intro ρ h; simp only [List.map_toArray, List.map_cons, List.map_nil, h (.tmp 10) _ rfl, h (.const (.int .i64 5)) _ rfl]) rfl bld146 rfl ?_
  refine stw (o_box rfl rfl [(.slice a12 l13 q14), (.slice none 0 0), (.int .i64 5)] rfl ?_); intro b15
  refine o_as st rfl rfl ?_
  refine c_nil ?_
  refine l_then ?_
  refine c_seq ?_
  refine c_block ?_
  refine c_loop (σ := ((List GPlace) × (List GVisit) × Int)) (fun ((xs18, xs22, t25) : ((List GPlace) × (List GVisit) × Int)) (a : Act) (w : World) => ∃ (v17 : Value) (v21 : Value), Has 102 [(2, (.pointer (some ⟨b6, 0, none⟩))), (3, (.pointer (some ⟨b8, 0, none⟩))), (5, (.pointer (some ⟨b15, 0, none⟩)))] a ∧ Mem (gB F [] w0) (feet []) w0 [cellCh b15 [v17, v21, (.int .i64 t25)] 146, cellCh b8 [(.int .i64 p_1.xFrom), (.int .i64 p_1.xTo), (.int .i64 p_1.xPort), (.int .i64 p_1.xProto)] 49, cellCh b6 [(.slice a3 l4 q5), (.bool s_0.xAccept)] 36, snapCh w0 F, ownCh elGPlace 162 v17 xs18, ownCh elGVisit 166 v21 xs22] w) (fun a w hE hm => ⟨(.slice a12 l13 q14), (.slice none 0 0), hE.sub ⟨rfl, rfl, rfl, trivial⟩, ((mem_nil elGVisit 166 hm).pick [1, 3, 4, 5, 2, 0] rfl)⟩) ?_
  rintro nx26 ⟨xs18, xs22, t25⟩ a w ⟨v17, v21, hE, hm⟩ h
  refine nx_of hE hm h ?_
  clear hE hm h
  refine c_seq ?_
  refine c_join (σ := Bool) (fun (t87 : Bool) (a : Act) (w : World) => Has 102 [(2, (.pointer (some ⟨b6, 0, none⟩))), (3, (.pointer (some ⟨b8, 0, none⟩))), (5, (.pointer (some ⟨b15, 0, none⟩))), (25, (.bool t87))] a ∧ Mem (gB F [] w0) (feet []) w0 [cellCh b15 [v17, v21, (.int .i64 t25)] 146, cellCh b8 [(.int .i64 p_1.xFrom), (.int .i64 p_1.xTo), (.int .i64 p_1.xPort), (.int .i64 p_1.xProto)] 49, cellCh b6 [(.slice a3 l4 q5), (.bool s_0.xAccept)] 36, ownCh elGPlace 162 v17 xs18, ownCh elGVisit 166 v21 xs22, snapCh w0 F] w) ?_ ?_
  · intro k88
    refine c_region ?_
    refine o_mv st rfl rfl ?_
    refine o_nilc st rfl rfl ?_
    refine o_fad st rfl rfl fld146_0 rfl ?_
    refine o_ldc st (v := v17) 0 rfl rfl rfl ty143 rfl ?_
    refine o_len st el143 4 rfl reads_own rfl rfl ?_
    refine o_gtr st rfl rfl rfl ?_
    refine o_mv st rfl rfl ?_
    refine st_sp (dj := 19) rfl ?_ ?_
    · refine o_mv (st_g rfl rfl) rfl rfl ?_
      refine o_nilc (st_g rfl rfl) rfl rfl ?_
      refine o_fad (st_g rfl rfl) rfl rfl fld146_2 rfl ?_
      refine o_ldc (st_g rfl rfl) (v := (.int .i64 t25)) 0 rfl rfl rfl ty3 rfl ?_
      refine o_eql (st_g rfl rfl) und3 rfl rfl rfl ?_
      refine o_pickT st rfl rfl rfl ?_
      refine c_nil ?_
      exact l_join (decide (t25 = 5)) (fun a w hE hm => ⟨hE.sub ⟨rfl, rfl, rfl, rfl, trivial⟩, (hm.pick [0, 1, 2, 4, 5, 3] rfl)⟩)
    · refine st_s rfl rfl rfl rfl ?_
      refine st_s rfl rfl rfl rfl ?_
      refine st_s rfl rfl rfl rfl ?_
      refine st_s rfl rfl rfl rfl ?_
      refine st_s rfl rfl rfl rfl ?_
      refine o_pickF st rfl rfl rfl ?_
      refine c_nil ?_
      exact l_join false (fun a w hE hm => ⟨hE.sub ⟨rfl, rfl, rfl, rfl, trivial⟩, (hm.pick [0, 1, 2, 4, 5, 3] rfl)⟩)
  · rintro t87 a w ⟨hE, hm⟩ h
    refine nx_of hE hm h ?_
    clear hE hm h
    refine c_cond rfl ?_ ?_
    · refine c_skip ?_
      refine l_then ?_
      refine c_block ?_
      refine c_seq ?_
      refine nx_own 3 rfl ?_; rintro a89 l90 q91 rfl
      refine nx_own 4 rfl ?_; rintro a92 l93 q94 rfl
      refine c_draw mixed 12 rfl [cellCh b15 [(.slice a89 l90 q91), (.slice a92 l93 q94), (.int .i64 t25)] 146, cellCh b8 [(.int .i64 p_1.xFrom), (.int .i64 p_1.xTo), (.int .i64 p_1.xPort), (.int .i64 p_1.xProto)] 49, cellCh b6 [(.slice a3 l4 q5), (.bool s_0.xAccept)] 36, ownCh elGPlace 162 (.slice a89 l90 q91) xs18, ownCh elGVisit 166 (.slice a92 l93 q94) xs22, snapCh w0 F] ?_
      refine o_mv (dt 0 (fun _ m => m)) rfl rfl ?_
      refine o_nilc (dt 1 (fun _ m => m)) rfl rfl ?_
      refine o_fad (dt 2 (fun _ m => m)) rfl rfl fld146_0 rfl ?_
      refine o_ldc (dt 3 (fun _ m => m)) (v := (.slice a89 l90 q91)) 0 rfl rfl rfl ty143 rfl ?_
      refine o_mv (dt 4 (fun _ m => m)) rfl rfl ?_
      refine o_nilc (dt 5 (fun _ m => m)) rfl rfl ?_
      refine o_fad (dt 6 (fun _ m => m)) rfl rfl fld146_0 rfl ?_
      refine o_ldc (dt 7 (fun _ m => m)) (v := (.slice a89 l90 q91)) 0 rfl rfl rfl ty143 rfl ?_
      refine o_len (dt 8 (fun _ m => m)) el143 3 rfl reads_own rfl rfl ?_
      refine o_sub (dt 9 (fun _ m => m)) rfl rfl rfl ?_; intro t95
      refine o_idx (dt 10 (fun _ m => m)) 3 rfl reads_own rfl rfl rfl el143 ?_; intro e96 h97
      refine o_as (dt 11 (fun _ m => m)) rfl rfl ?_
      refine d_done (by kernel_rfl) ?_
      refine l_then ?_
      refine c_seq ?_
      refine c_draw mixed 9 rfl [cellCh b15 [(.slice a89 l90 q91), (.slice a92 l93 q94), (.int .i64 t25)] 146, cellCh b8 [(.int .i64 p_1.xFrom), (.int .i64 p_1.xTo), (.int .i64 p_1.xPort), (.int .i64 p_1.xProto)] 49, cellCh b6 [(.slice a3 l4 q5), (.bool s_0.xAccept)] 36, ownCh elGPlace 162 (.slice a89 l90 q91) xs18, ownCh elGVisit 166 (.slice a92 l93 q94) xs22, snapCh w0 F] ?_
      refine o_fad (dt 0 (fun _ m => m)) rfl rfl fld36_0 rfl ?_
      refine o_ldc (dt 1 (fun _ m => m)) (v := (.slice a3 l4 q5)) 2 rfl rfl rfl ty34 rfl ?_
      refine o_mv (dt 2 (fun _ m => m)) rfl rfl ?_
      refine o_nilE (dt 3 (fun _ m => m)) 3 rfl reads_own h97 rfl rfl ?_
      refine o_fadS (dt 4 (fun _ m => m)) 3 rfl reads_own h97 rfl rfl fld162_0 rfl ?_
      refine o_lds (dt 5 (fun _ m => m)) (enc := encGPlace) (u := (.int .i64 e96.xChain)) 3 rfl reads_own flelGPlace rfl h97 rfl rfl ty3 rfl ?_
      refine o_idx (dt 6 (fun _ m => m)) 5 rfl (reads_snap hv1) rfl rfl rfl el34 ?_; intro e98 h99
      obtain ⟨_, ⟨v101, rfl, sl102⟩, rw100⟩ := sl_open hv1 h99
      refine o_ldR (dt 7 (fun _ m => m)) (u := v101) 5 rfl rw100 rfl rfl ty54 rfl ?_
      refine o_as (dt 8 (fun _ m => m)) rfl rfl ?_
      refine d_done (by kernel_rfl) ?_
      refine l_then ?_
      refine c_seq ?_
      refine c_seq ?_
      refine c_region ?_
      refine o_mv st rfl rfl ?_
      refine o_nilE st 3 rfl reads_own h97 rfl rfl ?_
      refine o_fadS st 3 rfl reads_own h97 rfl rfl fld162_1 rfl ?_
      refine o_lds st (enc := encGPlace) (u := (.int .i64 e96.xNext)) 3 rfl reads_own flelGPlace rfl h97 rfl rfl ty3 rfl ?_
      refine o_mv st rfl rfl ?_
      refine o_len st el54 5 rfl (reads_snap sl102) rfl rfl ?_
      refine o_eql st und3 rfl rfl rfl ?_
      refine c_nil ?_
      refine l_then ?_
      refine c_cond rfl ?_ ?_
      · refine c_seq ?_
        refine c_region ?_
        refine o_mv st rfl rfl ?_
        refine pk [0, 3, 4, 1, 2, 5] rfl ?_
        refine stw (o_call (vs := [(.pointer (some ⟨b15, 0, none⟩))]) (M0 := [cellCh b15 [(.slice a89 l90 q91), (.slice a92 l93 q94), (.int .i64 t25)] 146, ownCh elGPlace 162 (.slice a89 l90 q91) xs18, ownCh elGVisit 166 (.slice a92 l93 q94) xs22]) Tryd.call111 rfl rfl (by intro w m h; exact (w_impl_walk_leave (F := allB [cellCh b15 [(.slice a89 l90 q91), (.slice a92 l93 q94), (.int .i64 t25)] 146, ownCh elGPlace 162 (.slice a89 l90 q91) xs18, ownCh elGVisit 166 (.slice a92 l93 q94) xs22] w) (w_0_stack := xs18) (w_0_visits := xs22) (w_0_decision := t25) allB_ok m.given h).mono (fun _ _ k => ret_free (fun r u => (fr_cons free_cell (fr_cons (free_own flelGPlace) (fr_cons (free_own flelGVisit) fr_nil)))) k)) ?_); rintro r104 v105
        refine c_nil ?_
        refine l_then ?_
        refine c_exit ?_
        refine l_exit ?_
        refine b_exit ?_
        exact l_join (r104, xs22, t25) (fun a w hE hm => ⟨v105, (.slice a92 l93 q94), hE.sub ⟨rfl, rfl, rfl, trivial⟩, (hm.pick [0, 3, 4, 5, 1, 2] rfl)⟩)
      · refine c_skip ?_
        refine l_then ?_
        refine c_seq ?_
        refine c_region ?_
        refine o_mv st rfl rfl ?_
        refine o_nilE st 3 rfl reads_own h97 rfl rfl ?_
        refine o_fadS st 3 rfl reads_own h97 rfl rfl fld162_1 rfl ?_
        refine o_lds st (enc := encGPlace) (u := (.int .i64 e96.xNext)) 3 rfl reads_own flelGPlace rfl h97 rfl rfl ty3 rfl ?_
        refine o_as st rfl rfl ?_
        refine c_nil ?_
        refine l_then ?_
        refine c_seq ?_
        refine c_region ?_
        refine o_mv st rfl rfl ?_
        refine o_nilE st 3 rfl reads_own h97 rfl rfl ?_
        refine o_fadS st 3 rfl reads_own h97 rfl rfl fld162_1 rfl ?_
        refine o_lds st (enc := encGPlace) (u := (.int .i64 e96.xNext)) 3 rfl reads_own flelGPlace rfl h97 rfl rfl ty3 rfl ?_
        refine o_add st rfl rfl rfl ?_; intro t107
        refine o_nilE st 3 rfl reads_own h97 rfl rfl ?_
        refine o_fadS st 3 rfl reads_own h97 rfl rfl fld162_1 rfl ?_
        refine stw (o_sts (enc := encGPlace) (y' := (GPlace.mk e96.xChain t107)) 3 rfl flelGPlace rfl h97 ty3 rfl rfl rfl rfl rfl rfl ?_)
        refine c_nil ?_
        refine l_then ?_
        refine c_seq ?_
        refine c_seq ?_
        refine c_draw mixed 8 rfl [cellCh b15 [(.slice a89 l90 q91), (.slice a92 l93 q94), (.int .i64 t25)] 146, cellCh b8 [(.int .i64 p_1.xFrom), (.int .i64 p_1.xTo), (.int .i64 p_1.xPort), (.int .i64 p_1.xProto)] 49, cellCh b6 [(.slice a3 l4 q5), (.bool s_0.xAccept)] 36, ownCh elGPlace 162 (.slice a89 l90 q91) (xs18.set (t95).toNat (GPlace.mk e96.xChain t107)), ownCh elGVisit 166 (.slice a92 l93 q94) xs22, snapCh w0 F] ?_
        refine o_mv (dt 0 (fun _ m => m)) rfl rfl ?_
        refine o_mv (dt 1 (fun _ m => m)) rfl rfl ?_
        refine o_idx (dt 2 (fun _ m => m)) 5 rfl (reads_snap sl102) rfl rfl rfl el54 ?_; intro e109 h110
        refine o_fadS (dt 3 (fun _ m => m)) 5 rfl (reads_snap sl102) h110 rfl rfl fld89_0 rfl ?_
        obtain ⟨_, ⟨v112, rfl, sl113⟩, rw111⟩ := sl_open sl102 h110
        refine o_ldR (dt 4 (fun _ m => m)) (u := v112) 5 rfl rw111 rfl rfl ty80 rfl ?_
        refine o_ldc (dt 5 (fun _ m => m)) (v := (.agg #[(.int .i64 p_1.xFrom), (.int .i64 p_1.xTo), (.int .i64 p_1.xPort), (.int .i64 p_1.xProto)])) 1 rfl rfl rfl ty49 rfl ?_
        refine d_one (i := 6) rfl (by kernel_rfl) (o_callP (vs := [v112, (.agg #[(.int .i64 p_1.xFrom), (.int .i64 p_1.xTo), (.int .i64 p_1.xPort), (.int .i64 p_1.xProto)])]) Tryd.call112 rfl rfl (by intro w m h; exact (w_impl_allHold (F := allB [] w) (list_0 := e109.xTests) (p_1 := p_1) allB_ok (m.rd0 5 rfl (reads_snap sl113)) h).mono (fun _ _ k => ret_free (fun r u => fr_nil) k)) ?_); rintro r115 _
        refine d_and (fun _ m => m) ?_
        refine o_not (dt 7 (fun _ m => m)) rfl rfl ?_
        refine d_done (by kernel_rfl) ?_
        refine l_then ?_
        refine c_cond rfl ?_ ?_
        · refine c_exit ?_
          refine l_exit ?_
          refine b_exit ?_
          exact l_join ((xs18.set (t95).toNat (GPlace.mk e96.xChain t107)), xs22, t25) (fun a w hE hm => ⟨(.slice a89 l90 q91), (.slice a92 l93 q94), hE.sub ⟨rfl, rfl, rfl, trivial⟩, (hm.pick [0, 1, 2, 5, 3, 4] rfl)⟩)
        · refine c_skip ?_
          refine l_then ?_
          refine c_join (σ := (List GVisit)) (fun (xs187 : (List GVisit)) (a : Act) (w : World) => ∃ (v188 : Value), Has 102 [(2, (.pointer (some ⟨b6, 0, none⟩))), (3, (.pointer (some ⟨b8, 0, none⟩))), (5, (.pointer (some ⟨b15, 0, none⟩))), (7, v101), (8, (.int .i64 e96.xNext))] a ∧ Mem (gB F [] w0) (feet []) w0 [cellCh b15 [(.slice a89 l90 q91), v188, (.int .i64 t25)] 146, cellCh b8 [(.int .i64 p_1.xFrom), (.int .i64 p_1.xTo), (.int .i64 p_1.xPort), (.int .i64 p_1.xProto)] 49, cellCh b6 [(.slice a3 l4 q5), (.bool s_0.xAccept)] 36, ownCh elGPlace 162 (.slice a89 l90 q91) (xs18.set (t95).toNat (GPlace.mk e96.xChain t107)), ownCh elGVisit 166 v188 xs187, snapCh w0 F] w) ?_ ?_
          · intro k190
            refine c_seq ?_
            refine c_region ?_
            refine o_mv st rfl rfl ?_
            refine o_nilc st rfl rfl ?_
            refine o_fad st rfl rfl fld146_1 rfl ?_
            refine o_ldc st (v := (.slice a92 l93 q94)) 0 rfl rfl rfl ty144 rfl ?_
            refine o_len st el144 4 rfl reads_own rfl rfl ?_
            refine o_lss st rfl rfl rfl ?_
            refine c_nil ?_
            refine l_then ?_
            refine c_cond rfl ?_ ?_
            · refine c_join1 (σ := (List GVisit)) (fun (xs116 : (List GVisit)) (a : Act) (w : World) => ∃ (v117 : Value), Has 102 [(2, (.pointer (some ⟨b6, 0, none⟩))), (3, (.pointer (some ⟨b8, 0, none⟩))), (5, (.pointer (some ⟨b15, 0, none⟩))), (7, v101), (8, (.int .i64 e96.xNext))] a ∧ Mem (gB F [] w0) (feet []) w0 [cellCh b15 [(.slice a89 l90 q91), v117, (.int .i64 t25)] 146, cellCh b8 [(.int .i64 p_1.xFrom), (.int .i64 p_1.xTo), (.int .i64 p_1.xPort), (.int .i64 p_1.xProto)] 49, cellCh b6 [(.slice a3 l4 q5), (.bool s_0.xAccept)] 36, ownCh elGPlace 162 (.slice a89 l90 q91) (xs18.set (t95).toNat (GPlace.mk e96.xChain t107)), ownCh elGVisit 166 v117 xs116, snapCh w0 F] w) ?_ ?_
              · intro k119
                refine c_drawQ mixed 16 rfl [cellCh b8 [(.int .i64 p_1.xFrom), (.int .i64 p_1.xTo), (.int .i64 p_1.xPort), (.int .i64 p_1.xProto)] 49, cellCh b6 [(.slice a3 l4 q5), (.bool s_0.xAccept)] 36, ownCh elGPlace 162 (.slice a89 l90 q91) (xs18.set (t95).toNat (GPlace.mk e96.xChain t107)), snapCh w0 F] ?_
                intro Qd hP hQ
                have H924 : ∀ (v120 : Value) (a123 : Option Addr) (l124 : Nat) (q125 : Nat), Nx 102 (gB F [] w0) (feet []) w0 (wpAnyH Tryd.prog .any (opsAt Tryd.f92 [1, 1, 0, 0, 0, 1, 0, 1, 1, 1, 1, 1, 1, 0, 1, 0]) Qd (Mem (gB F [] w0) (feet []) w0 [cellCh b8 [(.int .i64 p_1.xFrom), (.int .i64 p_1.xTo), (.int .i64 p_1.xPort), (.int .i64 p_1.xProto)] 49, cellCh b6 [(.slice a3 l4 q5), (.bool s_0.xAccept)] 36, ownCh elGPlace 162 (.slice a89 l90 q91) (xs18.set (t95).toNat (GPlace.mk e96.xChain t107)), snapCh w0 F]) 0 #[true, true, true, true, true, true, true, true, true, true, true, true, true, true, true, true]) [(2, (.pointer (some ⟨b6, 0, none⟩))), (3, (.pointer (some ⟨b8, 0, none⟩))), (5, (.pointer (some ⟨b15, 0, none⟩))), (7, v101), (8, (.int .i64 e96.xNext))] [cellCh b15 [(.slice a89 l90 q91), (.slice a123 l124 q125), (.int .i64 t25)] 146, cellCh b8 [(.int .i64 p_1.xFrom), (.int .i64 p_1.xTo), (.int .i64 p_1.xPort), (.int .i64 p_1.xProto)] 49, cellCh b6 [(.slice a3 l4 q5), (.bool s_0.xAccept)] 36, ownCh elGPlace 162 (.slice a89 l90 q91) (xs18.set (t95).toNat (GPlace.mk e96.xChain t107)), ownCh elGVisit 166 (.slice a123 l124 q125) (xs22 ++ ([(GVisit.mk e96.xChain e96.xNext)])), snapCh w0 F] (k119 (xs22 ++ ([(GVisit.mk e96.xChain e96.xNext)]))) := by
                  intro v120 a123 l124 q125
                  refine d_done (by kernel_rfl) ?_
                  exact fun a w hE hm hφ => hQ (xs22 ++ ([(GVisit.mk e96.xChain e96.xNext)])) a w hφ ((fun a w hE hm => ⟨(.slice a123 l124 q125), hE.sub ⟨rfl, rfl, rfl, rfl, rfl, trivial⟩, (hm.pick [0, 1, 2, 3, 4, 5] rfl)⟩) a w hE hm)
                have H925 : ∀ (v120 : Value) (v121 : Value), Nx 102 (gB F [] w0) (feet []) w0 (wpAnyH Tryd.prog .any (opsAt Tryd.f92 [1, 1, 0, 0, 0, 1, 0, 1, 1, 1, 1, 1, 1, 0, 1, 0]) Qd (Mem (gB F [] w0) (feet []) w0 [cellCh b8 [(.int .i64 p_1.xFrom), (.int .i64 p_1.xTo), (.int .i64 p_1.xPort), (.int .i64 p_1.xProto)] 49, cellCh b6 [(.slice a3 l4 q5), (.bool s_0.xAccept)] 36, ownCh elGPlace 162 (.slice a89 l90 q91) (xs18.set (t95).toNat (GPlace.mk e96.xChain t107)), snapCh w0 F]) 3 #[true, true, true, true, true, true, true, true, true, true, true, true, true, false, false, false]) [(2, (.pointer (some ⟨b6, 0, none⟩))), (3, (.pointer (some ⟨b8, 0, none⟩))), (5, (.pointer (some ⟨b15, 0, none⟩))), (7, v101), (8, (.int .i64 e96.xNext)), (79, (.pointer (some ⟨b15, 0, none⟩))), (91, v121)] [cellCh b15 [(.slice a89 l90 q91), (.slice a92 l93 q94), (.int .i64 t25)] 146, cellCh b8 [(.int .i64 p_1.xFrom), (.int .i64 p_1.xTo), (.int .i64 p_1.xPort), (.int .i64 p_1.xProto)] 49, cellCh b6 [(.slice a3 l4 q5), (.bool s_0.xAccept)] 36, ownCh elGPlace 162 (.slice a89 l90 q91) (xs18.set (t95).toNat (GPlace.mk e96.xChain t107)), ownCh elGVisit 166 v121 (xs22 ++ ([(GVisit.mk e96.xChain e96.xNext)])), snapCh w0 F] (k119 (xs22 ++ ([(GVisit.mk e96.xChain e96.xNext)]))) := by
                  intro v120 v121
                  refine o_nilc (dt 13 (fun w m => m.pick [1, 2, 3, 5] rfl)) rfl rfl ?_
                  refine o_fad (dt 14 (fun w m => m.pick [1, 2, 3, 5] rfl)) rfl rfl fld146_1 rfl ?_
                  refine nx_own 4 rfl ?_; rintro a123 l124 q125 rfl
                  refine d_one (i := 15) rfl (by kernel_rfl) (o_stc (cs' := [(.slice a89 l90 q91), (.slice a123 l124 q125), (.int .i64 t25)]) 0 rfl rfl rfl ty144 rfl rfl rfl rfl ?_)
                  refine d_and (fun w m => m.pick [1, 2, 3, 5] rfl) ?_
                  refine pk [0, 1, 2, 3, 4, 5] rfl ?_
                  refine re (E' := [(2, (.pointer (some ⟨b6, 0, none⟩))), (3, (.pointer (some ⟨b8, 0, none⟩))), (5, (.pointer (some ⟨b15, 0, none⟩))), (7, v101), (8, (.int .i64 e96.xNext))]) ⟨rfl, rfl, rfl, rfl, rfl, trivial⟩ ?_
                  exact H924 v120 a123 l124 q125
                have H926 : ∀ (v120 : Value), Nx 102 (gB F [] w0) (feet []) w0 (wpAnyH Tryd.prog .any (opsAt Tryd.f92 [1, 1, 0, 0, 0, 1, 0, 1, 1, 1, 1, 1, 1, 0, 1, 0]) Qd (Mem (gB F [] w0) (feet []) w0 [cellCh b8 [(.int .i64 p_1.xFrom), (.int .i64 p_1.xTo), (.int .i64 p_1.xPort), (.int .i64 p_1.xProto)] 49, cellCh b6 [(.slice a3 l4 q5), (.bool s_0.xAccept)] 36, ownCh elGPlace 162 (.slice a89 l90 q91) (xs18.set (t95).toNat (GPlace.mk e96.xChain t107)), snapCh w0 F]) 4 #[true, true, true, true, true, true, true, true, true, true, true, true, false, false, false, false]) [(2, (.pointer (some ⟨b6, 0, none⟩))), (3, (.pointer (some ⟨b8, 0, none⟩))), (5, (.pointer (some ⟨b15, 0, none⟩))), (7, v101), (8, (.int .i64 e96.xNext)), (79, (.pointer (some ⟨b15, 0, none⟩))), (83, (.slice a92 l93 q94)), (90, v120)] [ownCh elGVisit 166 v120 ([(GVisit.mk e96.xChain e96.xNext)]), cellCh b15 [(.slice a89 l90 q91), (.slice a92 l93 q94), (.int .i64 t25)] 146, cellCh b8 [(.int .i64 p_1.xFrom), (.int .i64 p_1.xTo), (.int .i64 p_1.xPort), (.int .i64 p_1.xProto)] 49, cellCh b6 [(.slice a3 l4 q5), (.bool s_0.xAccept)] 36, ownCh elGPlace 162 (.slice a89 l90 q91) (xs18.set (t95).toNat (GPlace.mk e96.xChain t107)), ownCh elGVisit 166 (.slice a92 l93 q94) xs22, snapCh w0 F] (appW xs22 ([(GVisit.mk e96.xChain e96.xNext)]) (fun _ => k119 (xs22 ++ ([(GVisit.mk e96.xChain e96.xNext)])))) := by
                  intro v120
                  refine d_one (i := 12) rfl (by kernel_rfl) (o_app 5 0 rfl rfl (src_flat flelGVisit reads_own) rfl rfl rfl el144 rfl zero166 rfl rfl ?_); intro v121
                  refine d_and (fun w m => m.pick [2, 3, 4, 6] rfl) ?_
                  refine pk [1, 2, 3, 4, 5, 6] rfl ?_
                  refine re (E' := [(2, (.pointer (some ⟨b6, 0, none⟩))), (3, (.pointer (some ⟨b8, 0, none⟩))), (5, (.pointer (some ⟨b15, 0, none⟩))), (7, v101), (8, (.int .i64 e96.xNext)), (79, (.pointer (some ⟨b15, 0, none⟩))), (91, v121)]) ⟨rfl, rfl, rfl, rfl, rfl, rfl, rfl, trivial⟩ ?_
                  exact H925 v120 v121
                have H927 : ∀ (_ : Unit), Nx 102 (gB F [] w0) (feet []) w0 (wpAnyH Tryd.prog .any (opsAt Tryd.f92 [1, 1, 0, 0, 0, 1, 0, 1, 1, 1, 1, 1, 1, 0, 1, 0]) Qd (Mem (gB F [] w0) (feet []) w0 [cellCh b8 [(.int .i64 p_1.xFrom), (.int .i64 p_1.xTo), (.int .i64 p_1.xPort), (.int .i64 p_1.xProto)] 49, cellCh b6 [(.slice a3 l4 q5), (.bool s_0.xAccept)] 36, ownCh elGPlace 162 (.slice a89 l90 q91) (xs18.set (t95).toNat (GPlace.mk e96.xChain t107)), snapCh w0 F]) 5 #[true, true, true, true, true, true, true, true, true, true, true, false, false, false, false, false]) [(2, (.pointer (some ⟨b6, 0, none⟩))), (3, (.pointer (some ⟨b8, 0, none⟩))), (5, (.pointer (some ⟨b15, 0, none⟩))), (7, v101), (8, (.int .i64 e96.xNext)), (79, (.pointer (some ⟨b15, 0, none⟩))), (89, (.agg #[(.int .i64 e96.xChain), (.int .i64 e96.xNext)])), (83, (.slice a92 l93 q94))] [cellCh b15 [(.slice a89 l90 q91), (.slice a92 l93 q94), (.int .i64 t25)] 146, cellCh b8 [(.int .i64 p_1.xFrom), (.int .i64 p_1.xTo), (.int .i64 p_1.xPort), (.int .i64 p_1.xProto)] 49, cellCh b6 [(.slice a3 l4 q5), (.bool s_0.xAccept)] 36, ownCh elGPlace 162 (.slice a89 l90 q91) (xs18.set (t95).toNat (GPlace.mk e96.xChain t107)), ownCh elGVisit 166 (.slice a92 l93 q94) xs22, snapCh w0 F] (appW xs22 ([(GVisit.mk e96.xChain e96.xNext)]) (fun _ => k119 (xs22 ++ ([(GVisit.mk e96.xChain e96.xNext)])))) := by
                  intro _
                  refine d_one (i := 11) rfl (by kernel_rfl) (o_bsl (enc := encGVisit) (qs := [(0, (.agg #[(.int .i64 e96.xChain), (.int .i64 e96.xNext)]))]) (cells := [(.int .i64 e96.xChain), (.int .i64 e96.xNext)]) ([(GVisit.mk e96.xChain e96.xNext)]) flelGVisit (by intro ρ h; simp only [List.map_toArray, List.map_cons, List.map_nil, h (.tmp 89) _ rfl]) rfl el144 zero166 rfl rfl rfl rfl rfl rfl ?_); intro v120
                  refine d_and (fun w m => m.pick [2, 3, 4, 6] rfl) ?_
                  refine pk [0, 1, 2, 3, 4, 5, 6] rfl ?_
                  refine re (E' := [(2, (.pointer (some ⟨b6, 0, none⟩))), (3, (.pointer (some ⟨b8, 0, none⟩))), (5, (.pointer (some ⟨b15, 0, none⟩))), (7, v101), (8, (.int .i64 e96.xNext)), (79, (.pointer (some ⟨b15, 0, none⟩))), (83, (.slice a92 l93 q94)), (90, v120)]) ⟨rfl, rfl, rfl, rfl, rfl, rfl, rfl, rfl, trivial⟩ ?_
                  exact H926 v120
                have H928 : ∀ (v126 : Value), Nx 102 (gB F [] w0) (feet []) w0 (wpAnyH Tryd.prog .any (opsAt Tryd.f92 [1, 1, 0, 0, 0, 1, 0, 1, 1, 1, 1, 1, 1, 0, 1, 0]) Qd (Mem (gB F [] w0) (feet []) w0 [cellCh b8 [(.int .i64 p_1.xFrom), (.int .i64 p_1.xTo), (.int .i64 p_1.xPort), (.int .i64 p_1.xProto)] 49, cellCh b6 [(.slice a3 l4 q5), (.bool s_0.xAccept)] 36, ownCh elGPlace 162 (.slice a89 l90 q91) (xs18.set (t95).toNat (GPlace.mk e96.xChain t107)), snapCh w0 F]) 5 #[true, true, true, true, false, true, true, true, true, true, true, true, false, false, false, false]) [(2, (.pointer (some ⟨b6, 0, none⟩))), (3, (.pointer (some ⟨b8, 0, none⟩))), (5, (.pointer (some ⟨b15, 0, none⟩))), (7, v101), (8, (.int .i64 e96.xNext)), (79, (.pointer (some ⟨b15, 0, none⟩))), (82, (.pointer (some ⟨b15, 1, none⟩))), (90, v126)] [ownCh elGVisit 166 v126 ([(GVisit.mk e96.xChain e96.xNext)]), cellCh b15 [(.slice a89 l90 q91), (.slice a92 l93 q94), (.int .i64 t25)] 146, cellCh b8 [(.int .i64 p_1.xFrom), (.int .i64 p_1.xTo), (.int .i64 p_1.xPort), (.int .i64 p_1.xProto)] 49, cellCh b6 [(.slice a3 l4 q5), (.bool s_0.xAccept)] 36, ownCh elGPlace 162 (.slice a89 l90 q91) (xs18.set (t95).toNat (GPlace.mk e96.xChain t107)), ownCh elGVisit 166 (.slice a92 l93 q94) xs22, snapCh w0 F] (appW xs22 ([(GVisit.mk e96.xChain e96.xNext)]) (fun _ => k119 (xs22 ++ ([(GVisit.mk e96.xChain e96.xNext)])))) := by
                  intro v126
                  refine d_one (i := 4) rfl (by kernel_rfl) (o_ldc m_op (v := (.slice a92 l93 q94)) 1 rfl rfl rfl ty144 rfl ?_)
                  refine d_and (fun w m => m.pick [2, 3, 4, 6] rfl) ?_
                  refine pk [0, 1, 2, 3, 4, 5, 6] rfl ?_
                  refine re (E' := [(2, (.pointer (some ⟨b6, 0, none⟩))), (3, (.pointer (some ⟨b8, 0, none⟩))), (5, (.pointer (some ⟨b15, 0, none⟩))), (7, v101), (8, (.int .i64 e96.xNext)), (79, (.pointer (some ⟨b15, 0, none⟩))), (83, (.slice a92 l93 q94)), (90, v126)]) ⟨rfl, rfl, rfl, rfl, rfl, rfl, rfl, rfl, trivial⟩ ?_
                  exact H926 v126
                refine o_mv (dt 0 (fun w m => m.pick [1, 2, 3, 5] rfl)) rfl rfl ?_
                refine o_mv (dt 1 (fun w m => m.pick [1, 2, 3, 5] rfl)) rfl rfl ?_
                refine o_nilc (dt 2 (fun w m => m.pick [1, 2, 3, 5] rfl)) rfl rfl ?_
                refine o_fad (dt 3 (fun w m => m.pick [1, 2, 3, 5] rfl)) rfl rfl fld146_1 rfl ?_
                refine o_mv (dt 5 (fun w m => m.pick [1, 2, 3, 5] rfl)) rfl rfl ?_
                refine o_nilE (dt 6 (fun w m => m.pick [1, 2, 3, 5] rfl)) 2 rfl reads_own (gset h97) rfl rfl ?_
                refine o_fadS (dt 7 (fun w m => m.pick [1, 2, 3, 5] rfl)) 2 rfl reads_own (gset h97) rfl rfl fld162_0 rfl ?_
                refine o_lds (dt 8 (fun w m => m.pick [1, 2, 3, 5] rfl)) (enc := encGPlace) (u := (.int .i64 e96.xChain)) 2 rfl reads_own flelGPlace rfl (gset h97) rfl rfl ty3 rfl ?_
                refine o_mv (dt 9 (fun w m => m.pick [1, 2, 3, 5] rfl)) rfl rfl ?_
                refine o_bld (dt 10 (fun w m => m.pick [1, 2, 3, 5] rfl)) (qs := [(0, (.int .i64 e96.xChain)), (1, (.int .i64 e96.xNext))]) (cells := [(.int .i64 e96.xChain), (.int .i64 e96.xNext)]) (by intro ρ h; simp only [List.map_toArray, List.map_cons, List.map_nil, h (.tmp 87) _ rfl, h (.tmp 88) _ rfl]) rfl bld166 rfl ?_
                refine d_two (i := 4) (j := 11) rfl rfl (by kernel_rfl) ?_ ?_
                · intro o ho; cases ho
                  refine o_ldc m_op (v := (.slice a92 l93 q94)) 0 rfl rfl rfl ty144 rfl ?_
                  refine d_and (fun w m => m.pick [1, 2, 3, 5] rfl) ?_
                  refine pk [0, 1, 2, 3, 4, 5] rfl ?_
                  refine re (E' := [(2, (.pointer (some ⟨b6, 0, none⟩))), (3, (.pointer (some ⟨b8, 0, none⟩))), (5, (.pointer (some ⟨b15, 0, none⟩))), (7, v101), (8, (.int .i64 e96.xNext)), (79, (.pointer (some ⟨b15, 0, none⟩))), (89, (.agg #[(.int .i64 e96.xChain), (.int .i64 e96.xNext)])), (83, (.slice a92 l93 q94))]) ⟨rfl, rfl, rfl, rfl, rfl, rfl, rfl, rfl, trivial⟩ ?_
                  exact H927 ()
                · intro o ho; cases ho
                  refine o_bsl (enc := encGVisit) (qs := [(0, (.agg #[(.int .i64 e96.xChain), (.int .i64 e96.xNext)]))]) (cells := [(.int .i64 e96.xChain), (.int .i64 e96.xNext)]) ([(GVisit.mk e96.xChain e96.xNext)]) flelGVisit (by intro ρ h; simp only [List.map_toArray, List.map_cons, List.map_nil, h (.tmp 89) _ rfl]) rfl el144 zero166 rfl rfl rfl rfl rfl rfl ?_; intro v126
                  refine d_and (fun w m => m.pick [2, 3, 4, 6] rfl) ?_
                  refine pk [0, 1, 2, 3, 4, 5, 6] rfl ?_
                  refine re (E' := [(2, (.pointer (some ⟨b6, 0, none⟩))), (3, (.pointer (some ⟨b8, 0, none⟩))), (5, (.pointer (some ⟨b15, 0, none⟩))), (7, v101), (8, (.int .i64 e96.xNext)), (79, (.pointer (some ⟨b15, 0, none⟩))), (82, (.pointer (some ⟨b15, 1, none⟩))), (90, v126)]) ⟨rfl, rfl, rfl, rfl, rfl, rfl, rfl, rfl, trivial⟩ ?_
                  exact H928 v126
              · rintro xs116 a w ⟨v117, hE, hm⟩ h
                refine nx_of hE hm h ?_
                clear hE hm h
                exact l_join xs116 (fun a w hE hm => ⟨v117, hE.sub ⟨rfl, rfl, rfl, rfl, rfl, trivial⟩, (hm.pick [0, 1, 2, 3, 4, 5] rfl)⟩)
            · refine c_skip ?_
              exact l_join xs22 (fun a w hE hm => ⟨(.slice a92 l93 q94), hE.sub ⟨rfl, rfl, rfl, rfl, rfl, trivial⟩, (hm.pick [0, 1, 2, 3, 4, 5] rfl)⟩)
          · rintro xs187 a w ⟨v188, hE, hm⟩ h
            refine nx_of hE hm h ?_
            clear hE hm h
            refine c_region ?_
            refine o_mv st rfl rfl ?_
            refine o_mv st rfl rfl ?_
            refine o_idx st 5 rfl (reads_snap sl102) rfl rfl rfl el54 ?_; intro e191 h192
            obtain ⟨_, ⟨v194, rfl, sl195⟩, rw193⟩ := sl_open sl102 h192
            refine o_ldR st (u := (.agg #[v194, (.int .i64 e191.xAction), (.int .i64 e191.xChain)])) 5 rfl rw193 rfl rfl ty89 rfl ?_
            refine stw (o_callP (vs := [(.agg #[v194, (.int .i64 e191.xAction), (.int .i64 e191.xChain)])]) Tryd.call113 rfl rfl (by intro w m h; exact (w_impl_actionOf (F := allB [] w) (r_0 := e191) allB_ok (m.rd0 5 rfl (reads_snap sl195)) h).mono (fun _ _ k => ret_free (fun r u => fr_nil) k)) ?_); rintro r197 _
            refine o_mv st rfl rfl ?_
            rcases r197 with x198 | x199 | x200 | x201
            · dsimp only [IAction.casesW]
              refine pk [0, 3, 4, 1, 2, 5] rfl ?_
              refine stw (o_callX (M0 := [cellCh b15 [(.slice a89 l90 q91), v188, (.int .i64 t25)] 146, ownCh elGPlace 162 (.slice a89 l90 q91) (xs18.set (t95).toNat (GPlace.mk e96.xChain t107)), ownCh elGVisit 166 v188 xs187]) rfl (runs_inv rfl rfl (fun w => meth184_walk _ w) Tryd.call164) rfl (by intro w m h; exact (w_impl_deciding_walk (F := allB [cellCh b15 [(.slice a89 l90 q91), v188, (.int .i64 t25)] 146, ownCh elGPlace 162 (.slice a89 l90 q91) (xs18.set (t95).toNat (GPlace.mk e96.xChain t107)), ownCh elGVisit 166 v188 xs187] w) (d_0 := x198) (w_1_stack := (xs18.set (t95).toNat (GPlace.mk e96.xChain t107))) (w_1_visits := xs187) (w_1_decision := t25) allB_ok m.given h).mono (fun _ _ k => ret_free (fun r u => (fr_cons free_cell (fr_cons (free_own flelGPlace) (fr_cons (free_own flelGVisit) fr_nil)))) k)) ?_); rintro r202 _
              refine c_nil ?_
              refine b_norm ?_
              exact l_join ((xs18.set (t95).toNat (GPlace.mk e96.xChain t107)), xs187, r202) (fun a w hE hm => ⟨(.slice a89 l90 q91), v188, hE.sub ⟨rfl, rfl, rfl, trivial⟩, (hm.pick [0, 3, 4, 5, 1, 2] rfl)⟩)
            · dsimp only [IAction.casesW]
              refine pk [0, 3, 4, 1, 2, 5] rfl ?_
              refine stw (o_callX (M0 := [cellCh b15 [(.slice a89 l90 q91), v188, (.int .i64 t25)] 146, ownCh elGPlace 162 (.slice a89 l90 q91) (xs18.set (t95).toNat (GPlace.mk e96.xChain t107)), ownCh elGVisit 166 v188 xs187]) rfl (runs_inv rfl rfl (fun w => meth186_walk _ w) Tryd.call167) rfl (by intro w m h; exact (w_impl_calling_walk (F := allB [cellCh b15 [(.slice a89 l90 q91), v188, (.int .i64 t25)] 146, ownCh elGPlace 162 (.slice a89 l90 q91) (xs18.set (t95).toNat (GPlace.mk e96.xChain t107)), ownCh elGVisit 166 v188 xs187] w) (c_0 := x199) (w_1_stack := (xs18.set (t95).toNat (GPlace.mk e96.xChain t107))) (w_1_visits := xs187) (w_1_decision := t25) allB_ok m.given h).mono (fun _ _ k => ret_free (fun r u => (fr_cons free_cell (fr_cons (free_own flelGPlace) (fr_cons (free_own flelGVisit) fr_nil)))) k)) ?_); rintro r203 v204
              refine c_nil ?_
              refine b_norm ?_
              exact l_join (r203, xs187, t25) (fun a w hE hm => ⟨v204, v188, hE.sub ⟨rfl, rfl, rfl, trivial⟩, (hm.pick [0, 3, 4, 5, 1, 2] rfl)⟩)
            · dsimp only [IAction.casesW]
              refine pk [0, 3, 4, 1, 2, 5] rfl ?_
              refine stw (o_callX (M0 := [cellCh b15 [(.slice a89 l90 q91), v188, (.int .i64 t25)] 146, ownCh elGPlace 162 (.slice a89 l90 q91) (xs18.set (t95).toNat (GPlace.mk e96.xChain t107)), ownCh elGVisit 166 v188 xs187]) rfl (runs_inv rfl rfl (fun w => meth188_walk _ w) Tryd.call170) rfl (by intro w m h; exact (w_impl_returning_walk (F := allB [cellCh b15 [(.slice a89 l90 q91), v188, (.int .i64 t25)] 146, ownCh elGPlace 162 (.slice a89 l90 q91) (xs18.set (t95).toNat (GPlace.mk e96.xChain t107)), ownCh elGVisit 166 v188 xs187] w) (a_0 := (GReturning.mk )) (w_1_stack := (xs18.set (t95).toNat (GPlace.mk e96.xChain t107))) (w_1_visits := xs187) (w_1_decision := t25) allB_ok m.given h).mono (fun _ _ k => ret_free (fun r u => (fr_cons free_cell (fr_cons (free_own flelGPlace) (fr_cons (free_own flelGVisit) fr_nil)))) k)) ?_); rintro r206 v207
              refine c_nil ?_
              refine b_norm ?_
              exact l_join (r206, xs187, t25) (fun a w hE hm => ⟨v207, v188, hE.sub ⟨rfl, rfl, rfl, trivial⟩, (hm.pick [0, 3, 4, 5, 1, 2] rfl)⟩)
            · dsimp only [IAction.casesW]
              refine pk [0, 3, 4, 1, 2, 5] rfl ?_
              refine stw (o_callX (M0 := [cellCh b15 [(.slice a89 l90 q91), v188, (.int .i64 t25)] 146, ownCh elGPlace 162 (.slice a89 l90 q91) (xs18.set (t95).toNat (GPlace.mk e96.xChain t107)), ownCh elGVisit 166 v188 xs187]) rfl (runs_inv rfl rfl (fun w => meth189_walk _ w) Tryd.call173) rfl (by intro w m h; exact (w_impl_passing_walk (F := allB [cellCh b15 [(.slice a89 l90 q91), v188, (.int .i64 t25)] 146, ownCh elGPlace 162 (.slice a89 l90 q91) (xs18.set (t95).toNat (GPlace.mk e96.xChain t107)), ownCh elGVisit 166 v188 xs187] w) (a_0 := (GPassing.mk )) (a_1_stack := (xs18.set (t95).toNat (GPlace.mk e96.xChain t107))) (a_1_visits := xs187) (a_1_decision := t25) allB_ok m.given h).mono (fun _ _ k => ret_free (fun r u => (fr_cons free_cell (fr_cons (free_own flelGPlace) (fr_cons (free_own flelGVisit) fr_nil)))) k)) ?_); rintro _ _
              refine c_nil ?_
              refine b_norm ?_
              exact l_join ((xs18.set (t95).toNat (GPlace.mk e96.xChain t107)), xs187, t25) (fun a w hE hm => ⟨(.slice a89 l90 q91), v188, hE.sub ⟨rfl, rfl, rfl, trivial⟩, (hm.pick [0, 3, 4, 5, 1, 2] rfl)⟩)
    · refine c_exit ?_
      refine l_exit ?_
      refine l_exit ?_
      refine b_exit ?_
      refine l_then ?_
      refine c_seq ?_
      refine c_region ?_
      refine o_mv st rfl rfl ?_
      refine o_as st rfl rfl ?_
      refine c_nil ?_
      refine l_then ?_
      refine c_ret ?_
      exact l_end1 Tryd.results92 (xs18, xs22, t25) (b15, v17, v21) (rv_t rfl) (fun w m => NewCh.ofB m [0, 3, 4] rfl)

set_option maxRecDepth 100000 in
set_option maxHeartbeats 8000000 in
theorem w_impl_judgeValid {w0 : World} {F : Nat → Prop} {v1 : Value} {s_0 : GRuleset} {p_1 : GPacket} {κ : Bool → Prop} (hF : ∀ b, F b → b < w0.heap.size ∧ ¬ feet [] b) (hv1 : Sl (elSl elGRule) F w0 v1 s_0.xChains) (h : L_impl_judgeValid s_0 p_1 κ) :
    Calls Tryd.prog 59 #[(.agg #[v1, (.bool s_0.xAccept)]), (.agg #[(.int .i64 p_1.xFrom), (.int .i64 p_1.xTo), (.int .i64 p_1.xPort), (.int .i64 p_1.xProto)])] w0 (Ret [] F w0 κ (fun (r : Bool) (u : Unit) => (.bool r)) (fun (r : Bool) (u : Unit) => [])) := by
  refine enterS (args := [(.agg #[v1, (.bool s_0.xAccept)]), (.agg #[(.int .i64 p_1.xFrom), (.int .i64 p_1.xTo), (.int .i64 p_1.xPort), (.int .i64 p_1.xProto)])]) [] hF (Given.nil _ _) Tryd.func59 rfl Tryd.ntmps59 rfl h ?_
  clear h hF
  refine c_seq ?_
  refine c_region ?_
  obtain ⟨a3, l4, q5, hs_⟩ := sl_val hv1; subst hs_
  refine stw (o_box rfl rfl [(.slice a3 l4 q5), (.bool s_0.xAccept)] rfl ?_); intro b6
  refine stw (o_box rfl rfl [(.int .i64 p_1.xFrom), (.int .i64 p_1.xTo), (.int .i64 p_1.xPort), (.int .i64 p_1.xProto)] rfl ?_); intro b8
  refine o_as st rfl rfl ?_
  refine c_nil ?_
  refine l_then ?_
  refine c_seq ?_
  refine c_seq ?_
  refine c_region ?_
  refine o_ldc st (v := (.agg #[(.slice a3 l4 q5), (.bool s_0.xAccept)])) 1 rfl rfl rfl ty36 rfl ?_
  refine o_ldc st (v := (.agg #[(.int .i64 p_1.xFrom), (.int .i64 p_1.xTo), (.int .i64 p_1.xPort), (.int .i64 p_1.xProto)])) 0 rfl rfl rfl ty49 rfl ?_
  refine stw (o_callP (vs := [(.agg #[(.slice a3 l4 q5), (.bool s_0.xAccept)]), (.agg #[(.int .i64 p_1.xFrom), (.int .i64 p_1.xTo), (.int .i64 p_1.xPort), (.int .i64 p_1.xProto)])]) Tryd.call92 rfl rfl (by intro w m h; exact (w_impl_walkThrough (F := allB [] w) (s_0 := s_0) (p_1 := p_1) allB_ok (m.rd0 2 rfl (reads_snap hv1)) h).mono (fun _ _ k => ret_free (fun r u => (fr_cons free_cell (fr_cons (free_own flelGPlace) (fr_cons (free_own flelGVisit) fr_nil)))) k)) ?_); rintro ⟨r12, r15, r18⟩ ⟨b10, v13, v16⟩
  refine o_nilc st rfl rfl ?_
  refine o_fad st rfl rfl fld146_2 rfl ?_
  refine o_ldc st (v := (.int .i64 r18)) 0 rfl rfl rfl ty3 rfl ?_
  refine c_nil ?_
  refine l_then ?_
  refine c_block ?_
  refine c_seq ?_
  refine c_region ?_
  refine o_eql st und3 rfl rfl rfl ?_
  refine o_as st rfl rfl ?_
  refine c_nil ?_
  refine l_then ?_
  refine c_cond rfl ?_ ?_
  · refine c_seq ?_
    refine c_region ?_
    refine o_as st rfl rfl ?_
    refine c_nil ?_
    refine l_then ?_
    refine c_ret ?_
    refine b_ret ?_
    refine l_ret ?_
    exact l_end1 Tryd.results59 true () (rv_t rfl) (fun _ _ => NewCh.nil _ _ _ _)
  · refine c_seq ?_
    refine c_region ?_
    refine o_eql st und3 rfl rfl rfl ?_
    refine o_as st rfl rfl ?_
    refine c_nil ?_
    refine l_then ?_
    refine c_cond rfl ?_ ?_
    · refine c_seq ?_
      refine c_region ?_
      refine o_as st rfl rfl ?_
      refine c_nil ?_
      refine l_then ?_
      refine c_ret ?_
      refine b_ret ?_
      refine l_ret ?_
      exact l_end1 Tryd.results59 false () (rv_t rfl) (fun _ _ => NewCh.nil _ _ _ _)
    · refine c_skip ?_
      refine b_norm ?_
      refine l_then ?_
      refine c_seq ?_
      refine c_region ?_
      refine o_fad st rfl rfl fld36_1 rfl ?_
      refine o_ldc st (v := (.bool s_0.xAccept)) 4 rfl rfl rfl ty4 rfl ?_
      refine o_as st rfl rfl ?_
      refine c_nil ?_
      refine l_then ?_
      refine c_ret ?_
      exact l_end1 Tryd.results59 s_0.xAccept () (rv_t rfl) (fun _ _ => NewCh.nil _ _ _ _)

set_option maxRecDepth 100000 in
set_option maxHeartbeats 8000000 in
theorem w_impl_Judge {w0 : World} {F : Nat → Prop} {v1 : Value} {s_0 : GRuleset} {p_1 : GPacket} {κ : Bool → Prop} (hF : ∀ b, F b → b < w0.heap.size ∧ ¬ feet [] b) (hv1 : Sl (elSl elGRule) F w0 v1 s_0.xChains) (hgl0 : Sl elGFieldShape F w0 (.slice (some ⟨0, 0, none⟩) 4 4) gl_impl_fieldShapes) (h : L_impl_Judge s_0 p_1 κ) :
    Calls Tryd.prog 27 #[(.agg #[v1, (.bool s_0.xAccept)]), (.agg #[(.int .i64 p_1.xFrom), (.int .i64 p_1.xTo), (.int .i64 p_1.xPort), (.int .i64 p_1.xProto)])] w0 (Ret [] F w0 κ (fun (r : Bool) (u : Unit) => (.bool r)) (fun (r : Bool) (u : Unit) => [])) := by
  refine enterS (args := [(.agg #[v1, (.bool s_0.xAccept)]), (.agg #[(.int .i64 p_1.xFrom), (.int .i64 p_1.xTo), (.int .i64 p_1.xPort), (.int .i64 p_1.xProto)])]) [] hF (Given.nil _ _) Tryd.func27 rfl Tryd.ntmps27 rfl h ?_
  clear h hF
  refine c_seq ?_
  refine c_region ?_
  obtain ⟨a3, l4, q5, hs_⟩ := sl_val hv1; subst hs_
  refine stw (o_box rfl rfl [(.slice a3 l4 q5), (.bool s_0.xAccept)] rfl ?_); intro b6
  refine stw (o_box rfl rfl [(.int .i64 p_1.xFrom), (.int .i64 p_1.xTo), (.int .i64 p_1.xPort), (.int .i64 p_1.xProto)] rfl ?_); intro b8
  refine o_as st rfl rfl ?_
  refine c_nil ?_
  refine l_then ?_
  refine c_seq ?_
  refine c_join (σ := Bool) (fun (t72 : Bool) (a : Act) (w : World) => Has 16 [(2, (.pointer (some ⟨b6, 0, none⟩))), (3, (.pointer (some ⟨b8, 0, none⟩))), (12, (.bool t72))] a ∧ Mem (gB F [] w0) (feet []) w0 [cellCh b8 [(.int .i64 p_1.xFrom), (.int .i64 p_1.xTo), (.int .i64 p_1.xPort), (.int .i64 p_1.xProto)] 49, cellCh b6 [(.slice a3 l4 q5), (.bool s_0.xAccept)] 36, snapCh w0 F] w) ?_ ?_
  · intro k73
    refine c_region ?_
    refine o_ldc st (v := (.agg #[(.slice a3 l4 q5), (.bool s_0.xAccept)])) 1 rfl rfl rfl ty36 rfl ?_
    refine stw (o_callP (vs := [(.agg #[(.slice a3 l4 q5), (.bool s_0.xAccept)])]) Tryd.call26 rfl rfl (by intro w m h; exact (w_impl_RulesetValid (F := allB [] w) (s_0 := s_0) allB_ok (m.rd0 2 rfl (reads_snap hv1)) (m.rd0 2 rfl (reads_snap hgl0)) h).mono (fun _ _ k => ret_free (fun r u => fr_nil) k)) ?_); rintro r10 _
    refine o_not st rfl rfl ?_
    refine o_mv st rfl rfl ?_
    refine st_sp (dj := 8) rfl ?_ ?_
    · refine st_s rfl rfl rfl rfl ?_
      refine st_s rfl rfl rfl rfl ?_
      refine st_s rfl rfl rfl rfl ?_
      refine o_pickT st rfl rfl rfl ?_
      refine c_nil ?_
      exact l_join true (fun a w hE hm => ⟨hE.sub ⟨rfl, rfl, rfl, trivial⟩, (hm.pick [0, 1, 2] rfl)⟩)
    · refine o_ldc (st_g rfl rfl) (v := (.agg #[(.int .i64 p_1.xFrom), (.int .i64 p_1.xTo), (.int .i64 p_1.xPort), (.int .i64 p_1.xProto)])) 0 rfl rfl rfl ty49 rfl ?_
      refine st_gw rfl rfl (o_callP (vs := [(.agg #[(.int .i64 p_1.xFrom), (.int .i64 p_1.xTo), (.int .i64 p_1.xPort), (.int .i64 p_1.xProto)])]) Tryd.call58 rfl rfl (by intro w m h; exact (w_impl_PacketValid (F := allB [] w) (p_0 := p_1) allB_ok (m.rd0 2 rfl (reads_snap hgl0)) h).mono (fun _ _ k => ret_free (fun r u => fr_nil) k)) ?_); rintro r11 _
      refine o_not (st_g rfl rfl) rfl rfl ?_
      refine o_pickF st rfl rfl rfl ?_
      refine c_nil ?_
      exact l_join (!r11) (fun a w hE hm => ⟨hE.sub ⟨rfl, rfl, rfl, trivial⟩, (hm.pick [0, 1, 2] rfl)⟩)
  · rintro t72 a w ⟨hE, hm⟩ h
    refine nx_of hE hm h ?_
    clear hE hm h
    refine c_cond rfl ?_ ?_
    · refine c_seq ?_
      refine c_region ?_
      refine o_as st rfl rfl ?_
      refine c_nil ?_
      refine l_then ?_
      refine c_ret ?_
      refine l_ret ?_
      exact l_end1 Tryd.results27 false () (rv_t rfl) (fun _ _ => NewCh.nil _ _ _ _)
    · refine c_skip ?_
      refine l_then ?_
      refine c_seq ?_
      refine c_region ?_
      refine o_ldc st (v := (.agg #[(.slice a3 l4 q5), (.bool s_0.xAccept)])) 1 rfl rfl rfl ty36 rfl ?_
      refine o_ldc st (v := (.agg #[(.int .i64 p_1.xFrom), (.int .i64 p_1.xTo), (.int .i64 p_1.xPort), (.int .i64 p_1.xProto)])) 0 rfl rfl rfl ty49 rfl ?_
      refine stw (o_callP (vs := [(.agg #[(.slice a3 l4 q5), (.bool s_0.xAccept)]), (.agg #[(.int .i64 p_1.xFrom), (.int .i64 p_1.xTo), (.int .i64 p_1.xPort), (.int .i64 p_1.xProto)])]) Tryd.call59 rfl rfl (by intro w m h; exact (w_impl_judgeValid (F := allB [] w) (s_0 := s_0) (p_1 := p_1) allB_ok (m.rd0 2 rfl (reads_snap hv1)) h).mono (fun _ _ k => ret_free (fun r u => fr_nil) k)) ?_); rintro r74 _
      refine o_as st rfl rfl ?_
      refine c_nil ?_
      refine l_then ?_
      refine c_ret ?_
      exact l_end1 Tryd.results27 r74 () (rv_t rfl) (fun _ _ => NewCh.nil _ _ _ _)



end
section
open Go.RowKit
set_option maxRecDepth 100000 in
set_option maxHeartbeats 8000000 in
theorem w_impl_JudgeFlat {w0 : World} {F : Nat → Prop} {v1 : Value} {list_0 : (List GFlat)} {rest_1 : Bool} {p_2 : GPacket} {κ : Bool → Prop} (hF : ∀ b, F b → b < w0.heap.size ∧ ¬ feet [] b) (hv1 : Sl elGFlat F w0 v1 list_0) (hgl0 : Sl elGFieldShape F w0 (.slice (some ⟨0, 0, none⟩) 4 4) gl_impl_fieldShapes) (h : L_impl_JudgeFlat list_0 rest_1 p_2 κ) :
    Calls Tryd.prog 28 #[v1, (.bool rest_1), (.agg #[(.int .i64 p_2.xFrom), (.int .i64 p_2.xTo), (.int .i64 p_2.xPort), (.int .i64 p_2.xProto)])] w0 (Ret [] F w0 κ (fun (r : Bool) (u : Unit) => (.bool r)) (fun (r : Bool) (u : Unit) => [])) := by
  refine enterS (args := [v1, (.bool rest_1), (.agg #[(.int .i64 p_2.xFrom), (.int .i64 p_2.xTo), (.int .i64 p_2.xPort), (.int .i64 p_2.xProto)])]) [] hF (Given.nil _ _) Tryd.func28 rfl Tryd.ntmps28 rfl h ?_
  clear h hF
  refine c_seq ?_
  refine c_region ?_
  refine stw (o_box rfl rfl [(.int .i64 p_2.xFrom), (.int .i64 p_2.xTo), (.int .i64 p_2.xPort), (.int .i64 p_2.xProto)] rfl ?_); intro b3
  refine o_as st rfl rfl ?_
  refine c_nil ?_
  refine l_then ?_
  refine c_seq ?_
  refine c_join (σ := Bool) (fun (t67 : Bool) (a : Act) (w : World) => Has 28 [(0, v1), (1, (.bool rest_1)), (5, (.pointer (some ⟨b3, 0, none⟩))), (15, (.bool t67))] a ∧ Mem (gB F [] w0) (feet []) w0 [cellCh b3 [(.int .i64 p_2.xFrom), (.int .i64 p_2.xTo), (.int .i64 p_2.xPort), (.int .i64 p_2.xProto)] 49, snapCh w0 F] w) ?_ ?_
  · intro k68
    refine c_region ?_
    refine o_mv st rfl rfl ?_
    refine stw (o_callP (vs := [v1]) Tryd.call32 rfl rfl (by intro w m h; exact (w_impl_FlatsValid (F := allB [] w) (list_0 := list_0) allB_ok (m.rd0 1 rfl (reads_snap hv1)) (m.rd0 1 rfl (reads_snap hgl0)) h).mono (fun _ _ k => ret_free (fun r u => fr_nil) k)) ?_); rintro r5 _
    refine o_not st rfl rfl ?_
    refine o_mv st rfl rfl ?_
    refine st_sp (dj := 11) rfl ?_ ?_
    · refine st_s rfl rfl rfl rfl ?_
      refine st_s rfl rfl rfl rfl ?_
      refine st_s rfl rfl rfl rfl ?_
      refine o_pickT st rfl rfl rfl ?_
      refine c_nil ?_
      exact l_join true (fun a w hE hm => ⟨hE.sub ⟨rfl, rfl, rfl, rfl, trivial⟩, (hm.pick [0, 1] rfl)⟩)
    · refine o_ldc (st_g rfl rfl) (v := (.agg #[(.int .i64 p_2.xFrom), (.int .i64 p_2.xTo), (.int .i64 p_2.xPort), (.int .i64 p_2.xProto)])) 0 rfl rfl rfl ty49 rfl ?_
      refine st_gw rfl rfl (o_callP (vs := [(.agg #[(.int .i64 p_2.xFrom), (.int .i64 p_2.xTo), (.int .i64 p_2.xPort), (.int .i64 p_2.xProto)])]) Tryd.call58 rfl rfl (by intro w m h; exact (w_impl_PacketValid (F := allB [] w) (p_0 := p_2) allB_ok (m.rd0 1 rfl (reads_snap hgl0)) h).mono (fun _ _ k => ret_free (fun r u => fr_nil) k)) ?_); rintro r6 _
      refine o_not (st_g rfl rfl) rfl rfl ?_
      refine o_pickF st rfl rfl rfl ?_
      refine c_nil ?_
      exact l_join (!r6) (fun a w hE hm => ⟨hE.sub ⟨rfl, rfl, rfl, rfl, trivial⟩, (hm.pick [0, 1] rfl)⟩)
  · rintro t67 a w ⟨hE, hm⟩ h
    refine nx_of hE hm h ?_
    clear hE hm h
    refine c_cond rfl ?_ ?_
    · refine c_seq ?_
      refine c_region ?_
      refine o_as st rfl rfl ?_
      refine c_nil ?_
      refine l_then ?_
      refine c_ret ?_
      refine l_ret ?_
      exact l_end1 Tryd.results28 false () (rv_t rfl) (fun _ _ => NewCh.nil _ _ _ _)
    · refine c_skip ?_
      refine l_then ?_
      refine c_seq ?_
      refine c_seq ?_
      refine c_draw mixed 5 rfl [cellCh b3 [(.int .i64 p_2.xFrom), (.int .i64 p_2.xTo), (.int .i64 p_2.xPort), (.int .i64 p_2.xProto)] 49, snapCh w0 F] ?_
      refine o_mv (dt 0 (fun _ m => m)) rfl rfl ?_
      refine o_ldc (dt 2 (fun _ m => m)) (v := (.agg #[(.int .i64 p_2.xFrom), (.int .i64 p_2.xTo), (.int .i64 p_2.xPort), (.int .i64 p_2.xProto)])) 0 rfl rfl rfl ty49 rfl ?_
      refine d_one (i := 1) rfl (by kernel_rfl) (o_callP (vs := [v1]) Tryd.call34 rfl rfl (by intro w m h; exact w_impl_flatsOf (list_0 := list_0) fz_ok0 (m.roS 1 rfl hv1) h) ?_); rintro r69 v70
      refine d_and (fun w m => m.pick [1, 2] rfl) ?_
      refine d_one (i := 3) rfl (by kernel_rfl) (o_callP (vs := [v70, (.agg #[(.int .i64 p_2.xFrom), (.int .i64 p_2.xTo), (.int .i64 p_2.xPort), (.int .i64 p_2.xProto)])]) Tryd.call35 rfl rfl (by intro w m h; exact (w_impl_firstWith (F := allB [] w) (list_0 := r69) (p_1 := p_2) allB_ok (m.rd0 0 rfl reads_own) h).mono (fun _ _ k => ret_free (fun r u => fr_nil) k)) ?_); rintro r72 _
      refine d_and (fun w m => m.pick [1, 2] rfl) ?_
      refine o_as (dt 4 (fun w m => m.pick [1, 2] rfl)) rfl rfl ?_
      refine d_done (by kernel_rfl) ?_
      refine l_then ?_
      refine c_seq ?_
      refine c_region ?_
      refine o_mv st rfl rfl ?_
      refine o_geq st rfl rfl rfl ?_
      refine c_nil ?_
      refine l_then ?_
      refine c_cond rfl ?_ ?_
      · refine c_seq ?_
        refine c_region ?_
        refine o_mv st rfl rfl ?_
        refine o_mv st rfl rfl ?_
        refine o_idx st 2 rfl (reads_snap hv1) rfl rfl rfl el23 ?_; intro e73 h74
        refine o_fadS st 2 rfl (reads_snap hv1) h74 rfl rfl fld87_1 rfl ?_
        refine o_ldP st (u := (.bool e73.xAccept)) 2 rfl (reads_snap hv1) h74 rfl rfl rfl ty4 (fun F w cs h => by obtain ⟨u, rfl, _⟩ := h; rfl) ?_
        refine o_as st rfl rfl ?_
        refine c_nil ?_
        refine l_then ?_
        refine c_ret ?_
        refine l_ret ?_
        exact l_end1 Tryd.results28 e73.xAccept () (rv_t rfl) (fun _ _ => NewCh.nil _ _ _ _)
      · refine c_skip ?_
        refine l_then ?_
        refine c_seq ?_
        refine c_region ?_
        refine o_mv st rfl rfl ?_
        refine o_as st rfl rfl ?_
        refine c_nil ?_
        refine l_then ?_
        refine c_ret ?_
        exact l_end1 Tryd.results28 rest_1 () (rv_t rfl) (fun _ _ => NewCh.nil _ _ _ _)

set_option maxRecDepth 100000 in
set_option maxHeartbeats 8000000 in
theorem w_laws_FnFlatRuleset {w0 : World} {F : Nat → Prop} {v1 : Value} {v3 : Value} {code_0 : (List UInt8)} {more_1 : (List UInt8)} {κ : Bool → Prop} (hF : ∀ b, F b → b < w0.heap.size ∧ ¬ feet [] b) (hv1 : Sl elU8 F w0 v1 code_0) (hv3 : Sl elU8 F w0 v3 more_1) (hgl0 : Sl elGFieldShape F w0 (.slice (some ⟨0, 0, none⟩) 4 4) gl_impl_fieldShapes) (h : L_laws_FnFlatRuleset code_0 more_1 κ) :
    Calls Tryd.prog 6 #[v1, v3] w0 (Ret [] F w0 κ (fun (r : Bool) (u : Unit) => (.bool r)) (fun (r : Bool) (u : Unit) => [])) := by
  refine enterS (args := [v1, v3]) [] hF (Given.nil _ _) Tryd.func6 rfl Tryd.ntmps6 rfl h ?_
  clear h hF
  refine c_seq ?_
  refine c_region ?_
  refine o_as st rfl rfl ?_
  refine c_nil ?_
  refine l_then ?_
  refine c_seq ?_
  refine c_join (σ := Bool) (fun (t65 : Bool) (a : Act) (w : World) => Has 88 [(0, v1), (1, v3), (19, (.bool t65))] a ∧ Mem (gB F [] w0) (feet []) w0 [snapCh w0 F] w) ?_ ?_
  · intro k66
    refine c_region ?_
    refine o_mv st rfl rfl ?_
    refine o_len st el22 0 rfl (reads_snap hv1) rfl rfl ?_
    refine o_gtr st rfl rfl rfl ?_
    refine o_mv st rfl rfl ?_
    refine st_sp (dj := 15) rfl ?_ ?_
    · refine st_s rfl rfl rfl rfl ?_
      refine st_s rfl rfl rfl rfl ?_
      refine st_s rfl rfl rfl rfl ?_
      refine o_pickT st rfl rfl rfl ?_
      refine c_nil ?_
      exact l_join true (fun a w hE hm => ⟨hE.sub ⟨rfl, rfl, rfl, trivial⟩, (hm.pick [0] rfl)⟩)
    · refine o_mv (st_g rfl rfl) rfl rfl ?_
      refine o_len (st_g rfl rfl) el22 0 rfl (reads_snap hv3) rfl rfl ?_
      refine o_gtr (st_g rfl rfl) rfl rfl rfl ?_
      refine o_pickF st rfl rfl rfl ?_
      refine c_nil ?_
      exact l_join (decide (1048576 < (more_1.length : Int))) (fun a w hE hm => ⟨hE.sub ⟨rfl, rfl, rfl, trivial⟩, (hm.pick [0] rfl)⟩)
  · rintro t65 a w ⟨hE, hm⟩ h
    refine nx_of hE hm h ?_
    clear hE hm h
    refine c_cond rfl ?_ ?_
    · refine c_seq ?_
      refine c_region ?_
      refine o_as st rfl rfl ?_
      refine c_nil ?_
      refine l_then ?_
      refine c_ret ?_
      refine l_ret ?_
      exact l_end1 Tryd.results6 true () (rv_t rfl) (fun _ _ => NewCh.nil _ _ _ _)
    · refine c_skip ?_
      refine l_then ?_
      refine c_seq ?_
      refine c_region ?_
      refine o_mv st rfl rfl ?_
      refine stw (o_callP (vs := [v1]) Tryd.call22 rfl rfl (by intro w m h; exact w_spec_DrawFlatRuleset (code_0 := code_0) fz_ok0 (m.roS 0 rfl hv1) h) ?_); rintro ⟨r67, r70⟩ v68
      refine o_mv st rfl rfl ?_
      refine o_ext st (vs := [v68, (.bool r70)]) rfl rfl rfl ?_
      refine o_ext st (vs := [v68, (.bool r70)]) rfl rfl rfl ?_
      refine o_as st rfl rfl ?_
      refine o_as st rfl rfl ?_
      refine c_nil ?_
      refine l_then ?_
      refine c_seq ?_
      refine c_region ?_
      refine o_mv st rfl rfl ?_
      refine o_mv st rfl rfl ?_
      refine stw (o_callP (vs := [v68, (.bool r70)]) Tryd.call15 rfl rfl (by intro w m h; exact (w_impl_FlatRuleset (F := allB [] w) (list_0 := r67) (rest_1 := r70) allB_ok (m.rd0 0 rfl reads_own) (m.rd0 1 rfl (reads_snap hgl0)) h).mono (fun _ _ k => ret_free (fun r u => (fr_cons free_dp fr_nil)) k)) ?_); rintro ⟨r71, r75⟩ ⟨v72, bb73⟩
      refine o_mv st rfl rfl ?_
      refine o_ext st (vs := [(.agg #[v72, (.bool r71.xAccept)]), (.bool r75)]) rfl rfl rfl ?_
      refine o_ext st (vs := [(.agg #[v72, (.bool r71.xAccept)]), (.bool r75)]) rfl rfl rfl ?_
      refine stw (o_alloc rfl [(.slice none 0 0), (.bool false)] zero36 ?_); intro b76
      refine nx_dp 1 rfl ?_; rintro a78 l79 q80 rfl
      refine stw (o_stc (cs' := [(.slice a78 l79 q80), (.bool r71.xAccept)]) 0 rfl rfl rfl ty36 rfl rfl rfl rfl ?_)
      refine o_as st rfl rfl ?_
      refine c_nil ?_
      refine l_then ?_
      refine c_seq ?_
      refine c_region ?_
      refine o_mv st rfl rfl ?_
      refine o_mv st rfl rfl ?_
      refine stw (o_callP (vs := [v68, (.bool r70)]) Tryd.call13 rfl rfl (by intro w m h; exact (w_spec_FlatRuleset (F := allB [] w) (list_0 := r67) (rest_1 := r70) allB_ok (m.rd0 2 rfl reads_own) h).mono (fun _ _ k => ret_free (fun r u => (fr_cons free_dp fr_nil)) k)) ?_); rintro ⟨r81, r85⟩ ⟨v82, bb83⟩
      refine o_mv st rfl rfl ?_
      refine o_ext st (vs := [(.agg #[v82, (.bool r81.xAccept)]), (.bool r85)]) rfl rfl rfl ?_
      refine o_ext st (vs := [(.agg #[v82, (.bool r81.xAccept)]), (.bool r85)]) rfl rfl rfl ?_
      refine stw (o_alloc rfl [(.slice none 0 0), (.bool false)] zero36 ?_); intro b86
      refine nx_dp 1 rfl ?_; rintro a88 l89 q90 rfl
      refine stw (o_stc (cs' := [(.slice a88 l89 q90), (.bool r81.xAccept)]) 0 rfl rfl rfl ty36 rfl rfl rfl rfl ?_)
      refine o_as st rfl rfl ?_
      refine c_nil ?_
      refine l_then ?_
      refine c_seq ?_
      refine c_join (σ := Bool) (fun (t152 : Bool) (a : Act) (w : World) => Has 88 [(1, v3), (5, v68), (6, (.bool r70)), (7, (.pointer (some ⟨b76, 0, none⟩))), (8, (.bool r75)), (45, (.bool t152))] a ∧ Mem (gB F [] w0) (feet []) w0 [cellCh b76 [(.slice a78 l79 q80), (.bool r71.xAccept)] 36, dpCh (dSl dGRule 89) 54 bb73 (.slice a78 l79 q80) r71.xChains, ownCh elGFlat 87 v68 r67, snapCh w0 F] w) ?_ ?_
      · intro k153
        refine c_region ?_
        refine o_ldc st (v := (.agg #[(.slice a78 l79 q80), (.bool r71.xAccept)])) 2 rfl rfl rfl ty36 rfl ?_
        refine o_ldc st (v := (.agg #[(.slice a88 l89 q90), (.bool r81.xAccept)])) 0 rfl rfl rfl ty36 rfl ?_
        refine stw (o_callP (vs := [(.agg #[(.slice a78 l79 q80), (.bool r71.xAccept)]), (.agg #[(.slice a88 l89 q90), (.bool r81.xAccept)])]) Tryd.call23 rfl rfl (by intro w m h; exact (w_laws_sameRuleset (F := allB [] w) (a_0 := r71) (b_1 := r81) allB_ok (m.rd0 3 rfl reads_dp) (m.rd0 1 rfl reads_dp) h).mono (fun _ _ k => ret_free (fun r u => fr_nil) k)) ?_); rintro r91 _
        refine o_not st rfl rfl ?_
        refine o_mv st rfl rfl ?_
        refine st_sp (dj := 41) rfl ?_ ?_
        · refine st_s rfl rfl rfl rfl ?_
          refine st_s rfl rfl rfl rfl ?_
          refine st_s rfl rfl rfl rfl ?_
          refine o_pickT st rfl rfl rfl ?_
          refine c_nil ?_
          exact l_join true (fun a w hE hm => ⟨hE.sub ⟨rfl, rfl, rfl, rfl, rfl, rfl, trivial⟩, (hm.pick [2, 3, 4, 5] rfl)⟩)
        · refine o_mv (st_g rfl rfl) rfl rfl ?_
          refine o_mv (st_g rfl rfl) rfl rfl ?_
          refine o_neqB (st_g rfl rfl) und4 rfl rfl rfl ?_
          refine o_pickF st rfl rfl rfl ?_
          refine c_nil ?_
          exact l_join (!(decide (r75 = r85))) (fun a w hE hm => ⟨hE.sub ⟨rfl, rfl, rfl, rfl, rfl, rfl, trivial⟩, (hm.pick [2, 3, 4, 5] rfl)⟩)
      · rintro t152 a w ⟨hE, hm⟩ h
        refine nx_of hE hm h ?_
        clear hE hm h
        refine c_cond rfl ?_ ?_
        · refine c_seq ?_
          refine c_region ?_
          refine o_as st rfl rfl ?_
          refine c_nil ?_
          refine l_then ?_
          refine c_ret ?_
          refine l_ret ?_
          exact l_end1 Tryd.results6 false () (rv_t rfl) (fun _ _ => NewCh.nil _ _ _ _)
        · refine c_skip ?_
          refine l_then ?_
          refine c_seq ?_
          refine c_seq ?_
          refine c_region ?_
          refine o_mv st rfl rfl ?_
          refine o_not st rfl rfl ?_
          refine c_nil ?_
          refine l_then ?_
          refine c_cond rfl ?_ ?_
          · refine c_join (σ := Bool) (fun (t215 : Bool) (a : Act) (w : World) => Has 88 [(4, (.bool t215))] a ∧ Mem (gB F [] w0) (feet []) w0 [snapCh w0 F] w) ?_ ?_
            · intro k216
              refine c_region ?_
              refine o_fad st rfl rfl fld36_0 rfl ?_
              refine o_ldc st (v := (.slice a78 l79 q80)) 0 rfl rfl rfl ty34 rfl ?_
              refine o_len st el34 1 rfl reads_dp rfl rfl ?_
              refine o_eql st und3 rfl rfl rfl ?_
              refine o_mv st rfl rfl ?_
              refine st_sp (dj := 52) rfl ?_ ?_
              · refine st_gw rfl rfl (o_callP (vs := []) Tryd.call11 rfl rfl (by intro w m h; exact (w_laws_alive (F := allB [] w) allB_ok h).mono (fun _ _ k => ret_free (fun r u => fr_nil) k)) ?_); rintro r154 _
                refine o_pickT st rfl rfl rfl ?_
                refine o_as st rfl rfl ?_
                refine c_nil ?_
                exact l_join r154 (fun a w hE hm => ⟨hE.sub ⟨rfl, trivial⟩, (hm.pick [3] rfl)⟩)
              · refine st_s rfl rfl rfl rfl ?_
                refine o_pickF st rfl rfl rfl ?_
                refine o_as st rfl rfl ?_
                refine c_nil ?_
                exact l_join false (fun a w hE hm => ⟨hE.sub ⟨rfl, trivial⟩, (hm.pick [3] rfl)⟩)
            · rintro t215 a w ⟨hE, hm⟩ h
              refine nx_of hE hm h ?_
              clear hE hm h
              refine c_ret ?_
              refine l_ret ?_
              exact l_end1 Tryd.results6 t215 () (rv_t rfl) (fun _ _ => NewCh.nil _ _ _ _)
          · refine c_skip ?_
            refine l_then ?_
            refine c_seq ?_
            refine c_region ?_
            refine o_mv st rfl rfl ?_
            refine stw (o_callP (vs := [v68]) Tryd.call25 rfl rfl (by intro w m h; exact (w_impl_FlatBoxes (F := allB [] w) (list_0 := r67) allB_ok (m.rd0 2 rfl reads_own) (m.rd0 3 rfl (reads_snap hgl0)) h).mono (fun _ _ k => ret_free (fun r u => (fr_cons free_dp fr_nil)) k)) ?_); rintro r217 ⟨v218, bb219⟩
            refine o_mv st rfl rfl ?_
            refine o_len st el22 4 rfl (reads_snap hv3) rfl rfl ?_
            refine stw (o_callP (vs := [v218, (.int .i64 (more_1.length : Int))]) Tryd.call24 rfl rfl (by intro w m h; exact (w_laws_probe (F := allB [] w) (list_0 := r217) (seed_1 := (more_1.length : Int)) allB_ok (m.rd0 0 rfl reads_dp) h).mono (fun _ _ k => ret_free (fun r u => fr_nil) k)) ?_); rintro r221 _
            refine stw (o_alloc rfl [(.int .i64 0), (.int .i64 0), (.int .i64 0), (.int .i64 0)] zero49 ?_); intro b222
            refine stw (o_stc (cs' := [(.int .i64 r221.xFrom), (.int .i64 r221.xTo), (.int .i64 r221.xPort), (.int .i64 r221.xProto)]) 0 rfl rfl rfl ty49 rfl rfl rfl rfl ?_)
            refine c_nil ?_
            refine l_then ?_
            refine c_join (σ := Bool) (fun (t295 : Bool) (a : Act) (w : World) => Has 88 [(4, (.bool t295))] a ∧ Mem (gB F [] w0) (feet []) w0 [snapCh w0 F] w) ?_ ?_
            · intro k296
              refine c_draw mixed 29 rfl [cellCh b222 [(.int .i64 r221.xFrom), (.int .i64 r221.xTo), (.int .i64 r221.xPort), (.int .i64 r221.xProto)] 49, dpCh dGBox 85 bb219 v218 r217, cellCh b76 [(.slice a78 l79 q80), (.bool r71.xAccept)] 36, ownCh elGFlat 87 v68 r67, snapCh w0 F] ?_
              refine o_ldc (dt 0 (fun w m => m.pick [0, 1, 2, 4, 5] rfl)) (v := (.agg #[(.slice a78 l79 q80), (.bool r71.xAccept)])) 2 rfl rfl rfl ty36 rfl ?_
              refine d_one (i := 1) rfl (by kernel_rfl) (o_callP (vs := [(.agg #[(.slice a78 l79 q80), (.bool r71.xAccept)])]) Tryd.call26 rfl rfl (by intro w m h; exact (w_impl_RulesetValid (F := allB [] w) (s_0 := r71) allB_ok (m.rd0 3 rfl reads_dp) (m.rd0 5 rfl (reads_snap hgl0)) h).mono (fun _ _ k => ret_free (fun r u => fr_nil) k)) ?_); rintro r224 _
              refine d_and (fun w m => m.pick [0, 1, 2, 4, 5] rfl) ?_
              refine o_mv (dt 2 (fun w m => m.pick [0, 1, 2, 4, 5] rfl)) rfl rfl ?_
              refine st_sp (dj := 62) rfl ?_ ?_
              · refine o_fad (dtg 3 (fun w m => m.pick [0, 1, 2, 4, 5] rfl)) rfl rfl fld36_0 rfl ?_
                refine o_ldc (dtg 4 (fun w m => m.pick [0, 1, 2, 4, 5] rfl)) (v := (.slice a78 l79 q80)) 2 rfl rfl rfl ty34 rfl ?_
                refine d_oneg (i := 5) rfl rfl rfl (by kernel_rfl) (o_len m_op el34 3 rfl reads_dp rfl rfl ?_)
                refine d_and (fun w m => m.pick [0, 1, 2, 4, 5] rfl) ?_
                refine o_eql (dtg 6 (fun w m => m.pick [0, 1, 2, 4, 5] rfl)) und3 rfl rfl rfl ?_
                refine o_pickT (dt 7 (fun w m => m.pick [0, 1, 2, 4, 5] rfl)) rfl rfl rfl ?_
                refine o_mv (dt 8 (fun w m => m.pick [0, 1, 2, 4, 5] rfl)) rfl rfl ?_
                refine st_sp (dj := 68) rfl ?_ ?_
                · refine o_fad (dtg 9 (fun w m => m.pick [0, 1, 2, 4, 5] rfl)) rfl rfl fld36_0 rfl ?_
                  refine o_ldc (dtg 10 (fun w m => m.pick [0, 1, 2, 4, 5] rfl)) (v := (.slice a78 l79 q80)) 2 rfl rfl rfl ty34 rfl ?_
                  refine o_mv (dtg 14 (fun w m => m.pick [0, 1, 2, 4, 5] rfl)) rfl rfl ?_
                  refine o_len (dtg 15 (fun w m => m.pick [0, 1, 2, 4, 5] rfl)) el23 3 rfl reads_own rfl rfl ?_
                  refine d_oneg (i := 11) rfl rfl rfl (by kernel_rfl) (o_idx m_op 3 rfl reads_dp rfl rfl rfl el34 ?_); intro e225 h226
                  refine d_and (fun w m => m.pick [0, 1, 2, 4, 5] rfl) ?_
                  refine nx_undp 3 rfl ?_
                  refine d_oneg (i := 12) rfl rfl rfl (by kernel_rfl) (o_ldE 3 rfl src_own h226 rfl rfl ty54 ?_); rintro wr227 ff228 _ ⟨v230, rfl, sl231⟩; refine ⟨v230, rfl, ?_⟩
                  refine d_and (fun w m => m.pick [1, 2, 3, 5, 6] rfl) ?_
                  refine d_oneg (i := 13) rfl rfl rfl (by kernel_rfl) (o_len m_op el54 0 rfl (reads_snap sl231) rfl rfl ?_)
                  refine d_and (fun w m => m.pick [1, 2, 3, 5, 6] rfl) ?_
                  refine o_eql (dtg 16 (fun w m => m.pick [1, 2, 3, 5, 6] rfl)) und3 rfl rfl rfl ?_
                  refine o_pickT (dt 17 (fun w m => m.pick [1, 2, 3, 5, 6] rfl)) rfl rfl rfl ?_
                  refine o_mv (dt 18 (fun w m => m.pick [1, 2, 3, 5, 6] rfl)) rfl rfl ?_
                  refine st_sp (dj := 78) rfl ?_ ?_
                  · refine o_ldc (dtg 19 (fun w m => m.pick [1, 2, 3, 5, 6] rfl)) (v := (.agg #[(.slice a78 l79 q80), (.bool r71.xAccept)])) 2 rfl rfl rfl ty36 rfl ?_
                    refine o_ldc (dtg 20 (fun w m => m.pick [1, 2, 3, 5, 6] rfl)) (v := (.agg #[(.int .i64 r221.xFrom), (.int .i64 r221.xTo), (.int .i64 r221.xPort), (.int .i64 r221.xProto)])) 0 rfl rfl rfl ty49 rfl ?_
                    refine o_mv (dtg 22 (fun w m => m.pick [1, 2, 3, 5, 6] rfl)) rfl rfl ?_
                    refine o_mv (dtg 23 (fun w m => m.pick [1, 2, 3, 5, 6] rfl)) rfl rfl ?_
                    refine o_ldc (dtg 24 (fun w m => m.pick [1, 2, 3, 5, 6] rfl)) (v := (.agg #[(.int .i64 r221.xFrom), (.int .i64 r221.xTo), (.int .i64 r221.xPort), (.int .i64 r221.xProto)])) 0 rfl rfl rfl ty49 rfl ?_
                    refine d_oneg (i := 21) rfl rfl rfl (by kernel_rfl) (o_callP (vs := [(.agg #[(.slice a78 l79 q80), (.bool r71.xAccept)]), (.agg #[(.int .i64 r221.xFrom), (.int .i64 r221.xTo), (.int .i64 r221.xPort), (.int .i64 r221.xProto)])]) Tryd.call27 rfl rfl (by intro w m h; exact (w_impl_Judge (F := allB [] w) (s_0 := r71) (p_1 := r221) allB_ok (m.rd0 4 rfl reads_own) (m.rd0 6 rfl (reads_snap hgl0)) h).mono (fun _ _ k => ret_free (fun r u => fr_nil) k)) ?_); rintro r233 _
                    refine d_and (fun w m => m.pick [1, 2, 3, 5, 6] rfl) ?_
                    refine d_oneg (i := 25) rfl rfl rfl (by kernel_rfl) (o_callP (vs := [v68, (.bool r70), (.agg #[(.int .i64 r221.xFrom), (.int .i64 r221.xTo), (.int .i64 r221.xPort), (.int .i64 r221.xProto)])]) Tryd.call28 rfl rfl (by intro w m h; exact (w_impl_JudgeFlat (F := allB [] w) (list_0 := r67) (rest_1 := r70) (p_2 := r221) allB_ok (m.rd0 5 rfl reads_own) (m.rd0 6 rfl (reads_snap hgl0)) h).mono (fun _ _ k => ret_free (fun r u => fr_nil) k)) ?_); rintro r234 _
                    refine d_and (fun w m => m.pick [1, 2, 3, 5, 6] rfl) ?_
                    refine o_eqlB (dtg 26 (fun w m => m.pick [1, 2, 3, 5, 6] rfl)) und4 rfl rfl rfl ?_
                    refine o_pickT (dt 27 (fun w m => m.pick [1, 2, 3, 5, 6] rfl)) rfl rfl rfl ?_
                    refine o_as (dt 28 (fun w m => m.pick [1, 2, 3, 5, 6] rfl)) rfl rfl ?_
                    refine d_done (by kernel_rfl) ?_
                    exact l_join (decide (r233 = r234)) (fun a w hE hm => ⟨hE.sub ⟨rfl, trivial⟩, (hm.pick [6] rfl)⟩)
                  · refine dsk 19 (fun w m => m.pick [1, 2, 3, 5, 6] rfl) rfl (by kernel_rfl) rfl rfl rfl rfl ?_
                    refine dsk 20 (fun w m => m.pick [1, 2, 3, 5, 6] rfl) rfl (by kernel_rfl) rfl rfl rfl rfl ?_
                    refine dsk 21 (fun w m => m.pick [1, 2, 3, 5, 6] rfl) rfl (by kernel_rfl) rfl rfl rfl rfl ?_
                    refine dsk 22 (fun w m => m.pick [1, 2, 3, 5, 6] rfl) rfl (by kernel_rfl) rfl rfl rfl rfl ?_
                    refine dsk 23 (fun w m => m.pick [1, 2, 3, 5, 6] rfl) rfl (by kernel_rfl) rfl rfl rfl rfl ?_
                    refine dsk 24 (fun w m => m.pick [1, 2, 3, 5, 6] rfl) rfl (by kernel_rfl) rfl rfl rfl rfl ?_
                    refine dsk 25 (fun w m => m.pick [1, 2, 3, 5, 6] rfl) rfl (by kernel_rfl) rfl rfl rfl rfl ?_
                    refine dsk 26 (fun w m => m.pick [1, 2, 3, 5, 6] rfl) rfl (by kernel_rfl) rfl rfl rfl rfl ?_
                    refine o_pickF (dt 27 (fun w m => m.pick [1, 2, 3, 5, 6] rfl)) rfl rfl rfl ?_
                    refine o_as (dt 28 (fun w m => m.pick [1, 2, 3, 5, 6] rfl)) rfl rfl ?_
                    refine d_done (by kernel_rfl) ?_
                    exact l_join false (fun a w hE hm => ⟨hE.sub ⟨rfl, trivial⟩, (hm.pick [6] rfl)⟩)
                · refine dsk 9 (fun w m => m.pick [0, 1, 2, 4, 5] rfl) rfl (by kernel_rfl) rfl rfl rfl rfl ?_
                  refine dsk 10 (fun w m => m.pick [0, 1, 2, 4, 5] rfl) rfl (by kernel_rfl) rfl rfl rfl rfl ?_
                  refine dsk 11 (fun w m => m.pick [0, 1, 2, 4, 5] rfl) rfl (by kernel_rfl) rfl rfl rfl rfl ?_
                  refine dsk 12 (fun w m => m.pick [0, 1, 2, 4, 5] rfl) rfl (by kernel_rfl) rfl rfl rfl rfl ?_
                  refine dsk 13 (fun w m => m.pick [0, 1, 2, 4, 5] rfl) rfl (by kernel_rfl) rfl rfl rfl rfl ?_
                  refine dsk 14 (fun w m => m.pick [0, 1, 2, 4, 5] rfl) rfl (by kernel_rfl) rfl rfl rfl rfl ?_
                  refine dsk 15 (fun w m => m.pick [0, 1, 2, 4, 5] rfl) rfl (by kernel_rfl) rfl rfl rfl rfl ?_
                  refine dsk 16 (fun w m => m.pick [0, 1, 2, 4, 5] rfl) rfl (by kernel_rfl) rfl rfl rfl rfl ?_
                  refine o_pickF (dt 17 (fun w m => m.pick [0, 1, 2, 4, 5] rfl)) rfl rfl rfl ?_
                  refine o_mv (dt 18 (fun w m => m.pick [0, 1, 2, 4, 5] rfl)) rfl rfl ?_
                  refine dsk 19 (fun w m => m.pick [0, 1, 2, 4, 5] rfl) rfl (by kernel_rfl) rfl rfl rfl rfl ?_
                  refine dsk 20 (fun w m => m.pick [0, 1, 2, 4, 5] rfl) rfl (by kernel_rfl) rfl rfl rfl rfl ?_
                  refine dsk 21 (fun w m => m.pick [0, 1, 2, 4, 5] rfl) rfl (by kernel_rfl) rfl rfl rfl rfl ?_
                  refine dsk 22 (fun w m => m.pick [0, 1, 2, 4, 5] rfl) rfl (by kernel_rfl) rfl rfl rfl rfl ?_
                  refine dsk 23 (fun w m => m.pick [0, 1, 2, 4, 5] rfl) rfl (by kernel_rfl) rfl rfl rfl rfl ?_
                  refine dsk 24 (fun w m => m.pick [0, 1, 2, 4, 5] rfl) rfl (by kernel_rfl) rfl rfl rfl rfl ?_
                  refine dsk 25 (fun w m => m.pick [0, 1, 2, 4, 5] rfl) rfl (by kernel_rfl) rfl rfl rfl rfl ?_
                  refine dsk 26 (fun w m => m.pick [0, 1, 2, 4, 5] rfl) rfl (by kernel_rfl) rfl rfl rfl rfl ?_
                  refine o_pickF (dt 27 (fun w m => m.pick [0, 1, 2, 4, 5] rfl)) rfl rfl rfl ?_
                  refine o_as (dt 28 (fun w m => m.pick [0, 1, 2, 4, 5] rfl)) rfl rfl ?_
                  refine d_done (by kernel_rfl) ?_
                  exact l_join false (fun a w hE hm => ⟨hE.sub ⟨rfl, trivial⟩, (hm.pick [5] rfl)⟩)
              · refine dsk 3 (fun w m => m.pick [0, 1, 2, 4, 5] rfl) rfl (by kernel_rfl) rfl rfl rfl rfl ?_
                refine dsk 4 (fun w m => m.pick [0, 1, 2, 4, 5] rfl) rfl (by kernel_rfl) rfl rfl rfl rfl ?_
                refine dsk 5 (fun w m => m.pick [0, 1, 2, 4, 5] rfl) rfl (by kernel_rfl) rfl rfl rfl rfl ?_
                refine dsk 6 (fun w m => m.pick [0, 1, 2, 4, 5] rfl) rfl (by kernel_rfl) rfl rfl rfl rfl ?_
                refine o_pickF (dt 7 (fun w m => m.pick [0, 1, 2, 4, 5] rfl)) rfl rfl rfl ?_
                refine o_mv (dt 8 (fun w m => m.pick [0, 1, 2, 4, 5] rfl)) rfl rfl ?_
                refine dsk 9 (fun w m => m.pick [0, 1, 2, 4, 5] rfl) rfl (by kernel_rfl) rfl rfl rfl rfl ?_
                refine dsk 10 (fun w m => m.pick [0, 1, 2, 4, 5] rfl) rfl (by kernel_rfl) rfl rfl rfl rfl ?_
                refine dsk 11 (fun w m => m.pick [0, 1, 2, 4, 5] rfl) rfl (by kernel_rfl) rfl rfl rfl rfl ?_
                refine dsk 12 (fun w m => m.pick [0, 1, 2, 4, 5] rfl) rfl (by kernel_rfl) rfl rfl rfl rfl ?_
                refine dsk 13 (fun w m => m.pick [0, 1, 2, 4, 5] rfl) rfl (by kernel_rfl) rfl rfl rfl rfl ?_
                refine dsk 14 (fun w m => m.pick [0, 1, 2, 4, 5] rfl) rfl (by kernel_rfl) rfl rfl rfl rfl ?_
                refine dsk 15 (fun w m => m.pick [0, 1, 2, 4, 5] rfl) rfl (by kernel_rfl) rfl rfl rfl rfl ?_
                refine dsk 16 (fun w m => m.pick [0, 1, 2, 4, 5] rfl) rfl (by kernel_rfl) rfl rfl rfl rfl ?_
                refine o_pickF (dt 17 (fun w m => m.pick [0, 1, 2, 4, 5] rfl)) rfl rfl rfl ?_
                refine o_mv (dt 18 (fun w m => m.pick [0, 1, 2, 4, 5] rfl)) rfl rfl ?_
                refine dsk 19 (fun w m => m.pick [0, 1, 2, 4, 5] rfl) rfl (by kernel_rfl) rfl rfl rfl rfl ?_
                refine dsk 20 (fun w m => m.pick [0, 1, 2, 4, 5] rfl) rfl (by kernel_rfl) rfl rfl rfl rfl ?_
                refine dsk 21 (fun w m => m.pick [0, 1, 2, 4, 5] rfl) rfl (by kernel_rfl) rfl rfl rfl rfl ?_
                refine dsk 22 (fun w m => m.pick [0, 1, 2, 4, 5] rfl) rfl (by kernel_rfl) rfl rfl rfl rfl ?_
                refine dsk 23 (fun w m => m.pick [0, 1, 2, 4, 5] rfl) rfl (by kernel_rfl) rfl rfl rfl rfl ?_
                refine dsk 24 (fun w m => m.pick [0, 1, 2, 4, 5] rfl) rfl (by kernel_rfl) rfl rfl rfl rfl ?_
                refine dsk 25 (fun w m => m.pick [0, 1, 2, 4, 5] rfl) rfl (by kernel_rfl) rfl rfl rfl rfl ?_
                refine dsk 26 (fun w m => m.pick [0, 1, 2, 4, 5] rfl) rfl (by kernel_rfl) rfl rfl rfl rfl ?_
                refine o_pickF (dt 27 (fun w m => m.pick [0, 1, 2, 4, 5] rfl)) rfl rfl rfl ?_
                refine o_as (dt 28 (fun w m => m.pick [0, 1, 2, 4, 5] rfl)) rfl rfl ?_
                refine d_done (by kernel_rfl) ?_
                exact l_join false (fun a w hE hm => ⟨hE.sub ⟨rfl, trivial⟩, (hm.pick [5] rfl)⟩)
            · rintro t295 a w ⟨hE, hm⟩ h
              refine nx_of hE hm h ?_
              clear hE hm h
              refine c_ret ?_
              exact l_end1 Tryd.results6 t295 () (rv_t rfl) (fun _ _ => NewCh.nil _ _ _ _)



end

end Go.Proofs.YtpbmhkfbggmofaaDoor
