/- Texts of this seat, put together. -/
import Derived.Test.YtlcjkhnamgklgaaDoorMP33
set_option linter.unusedSimpArgs false
set_option linter.unusedVariables false
namespace Go.Proofs.YtlcjkhnamgklgaaDoor
section
open Go.RowKit
set_option maxRecDepth 100000 in
set_option maxHeartbeats 8000000 in
theorem w_spec_l20Ruleset {w0 : World} {F : Nat → Prop} {b1 : Nat} {v2 : Value} {r_0_b : (List UInt8)} {r_0_p : Int} {n_1 : Int} {κ : (GRuleset × Int) → Prop} (hF : ∀ b, F b → b < w0.heap.size ∧ ¬ feet [cellCh b1 [v2, (.int .i64 r_0_p)] 96] b) (hg : Given [cellCh b1 [v2, (.int .i64 r_0_p)] 96] F w0) (hv2 : Sl elU8 F w0 v2 r_0_b) (h : L_spec_l20Ruleset r_0_b r_0_p n_1 κ) :
    Calls Tryd.prog 44 #[(.pointer (some ⟨b1, 0, none⟩)), (.int .i64 n_1)] w0 (Ret [cellCh b1 [v2, (.int .i64 r_0_p)] 96] F w0 κ (fun (r : (GRuleset × Int)) (u : Value × List Nat) => (.agg #[u.1, (.bool r.1.xAccept)])) (fun (r : (GRuleset × Int)) (u : Value × List Nat) => [dpCh (dSl dGRule 54) 50 u.2 u.1 r.1.xChains, cellCh b1 [v2, (.int .i64 r.2)] 96])) := by
  refine enterS (args := [(.pointer (some ⟨b1, 0, none⟩)), (.int .i64 n_1)]) [cellCh b1 [v2, (.int .i64 r_0_p)] 96] hF hg Tryd.func44 rfl Tryd.ntmps44 rfl h ?_
  clear h hF hg
  refine c_seq ?_
  refine c_region ?_
  refine stw (o_alloc rfl [(.slice none 0 0), (.bool false)] zero30 ?_); intro b5
  refine c_nil ?_
  refine l_then ?_
  refine c_seq ?_
  refine c_region ?_
  refine o_mv st rfl rfl ?_
  refine pk [1, 0, 2] rfl ?_
  refine stw (o_call (vs := [(.pointer (some ⟨b1, 0, none⟩)), (.int .i64 2)]) (M0 := [cellCh b1 [v2, (.int .i64 r_0_p)] 96]) Tryd.call68 rfl rfl (by intro w m h; exact (w_spec_l20Rd_pick (F := allB [cellCh b1 [v2, (.int .i64 r_0_p)] 96] w) (r_0_b := r_0_b) (r_0_p := r_0_p) (n_1 := 2) allB_ok m.given (m.rdM 1 rfl (reads_snap hv2)) h).mono (fun _ _ k => ret_free (fun r u => (fr_cons free_cell fr_nil)) k)) ?_); rintro ⟨r7, r8⟩ _
  refine o_eql st und3 rfl rfl rfl ?_
  refine o_bld st (qs := [(1, (.bool (decide (r7 = 0))))]) (cells := [(.slice none 0 0), (.bool (decide (r7 = 0)))]) (by intro ρ h; simp only [List.map_toArray, List.map_cons, List.map_nil, h (.tmp 10) _ rfl]) rfl bld30 rfl ?_
  refine stw (o_alloc rfl [(.slice none 0 0), (.bool false)] zero30 ?_); intro b9
  refine stw (o_stc (cs' := [(.slice none 0 0), (.bool (decide (r7 = 0)))]) 0 rfl rfl rfl ty30 rfl rfl rfl rfl ?_)
  refine c_nil ?_
  refine l_then ?_
  refine c_seq ?_
  refine c_region ?_
  refine o_mv st rfl rfl ?_
  refine pk [1, 0, 2, 3] rfl ?_
  refine stw (o_call (vs := [(.pointer (some ⟨b1, 0, none⟩)), (.int .i64 3)]) (M0 := [cellCh b1 [v2, (.int .i64 r8)] 96]) Tryd.call68 rfl rfl (by intro w m h; exact (w_spec_l20Rd_pick (F := allB [cellCh b1 [v2, (.int .i64 r8)] 96] w) (r_0_b := r_0_b) (r_0_p := r8) (n_1 := 3) allB_ok m.given (m.rdM 2 rfl (reads_snap hv2)) h).mono (fun _ _ k => ret_free (fun r u => (fr_cons free_cell fr_nil)) k)) ?_); rintro ⟨r11, r12⟩ _
  refine o_add st rfl rfl rfl ?_; intro t13
  refine o_as st rfl rfl ?_
  refine c_nil ?_
  refine l_then ?_
  refine c_seq ?_
  refine c_seq ?_
  refine c_region ?_
  refine o_as st rfl rfl ?_
  refine c_nil ?_
  refine l_then ?_
  refine c_block ?_
  refine c_loop (σ := (Int × (List (List GRule)) × Int)) (fun ((t14, xs16, t20) : (Int × (List (List GRule)) × Int)) (a : Act) (w : World) => ∃ (v15 : Value) (bb18 : List Nat), Has 80 [(0, (.pointer (some ⟨b1, 0, none⟩))), (1, (.int .i64 n_1)), (4, (.pointer (some ⟨b5, 0, none⟩))), (5, (.pointer (some ⟨b9, 0, none⟩))), (6, (.int .i64 t13)), (7, (.int .i64 t20))] a ∧ Mem (gB F [cellCh b1 [v2, (.int .i64 r_0_p)] 96] w0) (feet [cellCh b1 [v2, (.int .i64 r_0_p)] 96]) w0 [cellCh b1 [v2, (.int .i64 t14)] 96, cellCh b9 [v15, (.bool (decide (r7 = 0)))] 30, cellCh b5 [(.slice none 0 0), (.bool false)] 30, snapCh w0 F, dpCh (dSl dGRule 54) 50 bb18 v15 xs16] w) (fun a w hE hm => ⟨(.slice none 0 0), [], hE.sub ⟨rfl, rfl, rfl, rfl, rfl, rfl, trivial⟩, ((mem_dnil (dSl dGRule 54) 50 hm).pick [1, 2, 3, 4, 0] rfl)⟩) ?_
  rintro nx21 ⟨t14, xs16, t20⟩ a w ⟨v15, bb18, hE, hm⟩ h
  refine nx_of hE hm h ?_
  clear hE hm h
  refine c_seq ?_
  refine c_seq ?_
  refine c_region ?_
  refine o_mv st rfl rfl ?_
  refine o_mv st rfl rfl ?_
  refine o_lss st rfl rfl rfl ?_
  refine c_nil ?_
  refine l_then ?_
  refine c_cond rfl ?_ ?_
  · refine c_skip ?_
    refine l_then ?_
    refine c_join (σ := ((List (List GRule)) × Int)) (fun ((xs115, t119) : ((List (List GRule)) × Int)) (a : Act) (w : World) => ∃ (v116 : Value) (bb118 : List Nat), Has 80 [(0, (.pointer (some ⟨b1, 0, none⟩))), (1, (.int .i64 n_1)), (4, (.pointer (some ⟨b5, 0, none⟩))), (5, (.pointer (some ⟨b9, 0, none⟩))), (6, (.int .i64 t13)), (7, (.int .i64 t20))] a ∧ Mem (gB F [cellCh b1 [v2, (.int .i64 r_0_p)] 96] w0) (feet [cellCh b1 [v2, (.int .i64 r_0_p)] 96]) w0 [dpCh (dSl dGRule 54) 50 bb118 v116 xs115, cellCh b1 [v2, (.int .i64 t119)] 96, cellCh b9 [v116, (.bool (decide (r7 = 0)))] 30, cellCh b5 [(.slice none 0 0), (.bool false)] 30, snapCh w0 F] w) ?_ ?_
    · intro k120
      refine c_block ?_
      refine nx_dp 4 rfl ?_; rintro a22 l23 q24 rfl
      refine c_join1 (σ := ((List (List GRule)) × Int)) (fun ((xs25, t29) : ((List (List GRule)) × Int)) (a : Act) (w : World) => ∃ (v26 : Value) (bb28 : List Nat), Has 80 [(0, (.pointer (some ⟨b1, 0, none⟩))), (1, (.int .i64 n_1)), (4, (.pointer (some ⟨b5, 0, none⟩))), (5, (.pointer (some ⟨b9, 0, none⟩))), (6, (.int .i64 t13)), (7, (.int .i64 t20))] a ∧ Mem (gB F [cellCh b1 [v2, (.int .i64 r_0_p)] 96] w0) (feet [cellCh b1 [v2, (.int .i64 r_0_p)] 96]) w0 [dpCh (dSl dGRule 54) 50 bb28 v26 xs25, cellCh b1 [v2, (.int .i64 t29)] 96, cellCh b9 [v26, (.bool (decide (r7 = 0)))] 30, cellCh b5 [(.slice none 0 0), (.bool false)] 30, snapCh w0 F] w) ?_ ?_
      · intro k30
        refine c_drawQ mixed 11 rfl [cellCh b5 [(.slice none 0 0), (.bool false)] 30, snapCh w0 F] ?_
        intro Qd hP hQ
        have H719 : ∀ (r31 : (List GRule)) (a35 : Option Addr) (l36 : Nat) (q37 : Nat) (bb33 : List Nat) (r34 : Int) (v38 : Value) (bb39 : List Nat) (a43 : Option Addr) (l44 : Nat) (q45 : Nat) (bb41 : List Nat), Nx 80 (gB F [cellCh b1 [v2, (.int .i64 r_0_p)] 96] w0) (feet [cellCh b1 [v2, (.int .i64 r_0_p)] 96]) w0 (wpAnyH Tryd.prog .any (opsAt Tryd.f44 [1, 1, 1, 0, 1, 0, 0, 1, 0, 0]) Qd (Mem (gB F [cellCh b1 [v2, (.int .i64 r_0_p)] 96] w0) (feet [cellCh b1 [v2, (.int .i64 r_0_p)] 96]) w0 [cellCh b5 [(.slice none 0 0), (.bool false)] 30, snapCh w0 F]) 0 #[true, true, true, true, true, true, true, true, true, true, true]) [(0, (.pointer (some ⟨b1, 0, none⟩))), (1, (.int .i64 n_1)), (4, (.pointer (some ⟨b5, 0, none⟩))), (5, (.pointer (some ⟨b9, 0, none⟩))), (6, (.int .i64 t13)), (7, (.int .i64 t20))] [dpCh (dSl dGRule 54) 50 bb41 (.slice a43 l44 q45) (xs16 ++ ([r31])), cellCh b1 [v2, (.int .i64 r34)] 96, cellCh b9 [(.slice a43 l44 q45), (.bool (decide (r7 = 0)))] 30, cellCh b5 [(.slice none 0 0), (.bool false)] 30, snapCh w0 F] (k30 ((xs16 ++ ([r31])), r34)) := by
          intro r31 a35 l36 q37 bb33 r34 v38 bb39 a43 l44 q45 bb41
          refine d_done (by kernel_rfl) ?_
          exact fun a w hE hm hφ => hQ ((xs16 ++ ([r31])), r34) a w hφ ((fun a w hE hm => ⟨(.slice a43 l44 q45), bb41, hE.sub ⟨rfl, rfl, rfl, rfl, rfl, rfl, trivial⟩, (hm.pick [0, 1, 2, 3, 4] rfl)⟩) a w hE hm)
        have H720 : ∀ (r31 : (List GRule)) (a35 : Option Addr) (l36 : Nat) (q37 : Nat) (bb33 : List Nat) (r34 : Int) (v38 : Value) (bb39 : List Nat) (v40 : Value) (bb41 : List Nat), Nx 80 (gB F [cellCh b1 [v2, (.int .i64 r_0_p)] 96] w0) (feet [cellCh b1 [v2, (.int .i64 r_0_p)] 96]) w0 (wpAnyH Tryd.prog .any (opsAt Tryd.f44 [1, 1, 1, 0, 1, 0, 0, 1, 0, 0]) Qd (Mem (gB F [cellCh b1 [v2, (.int .i64 r_0_p)] 96] w0) (feet [cellCh b1 [v2, (.int .i64 r_0_p)] 96]) w0 [cellCh b5 [(.slice none 0 0), (.bool false)] 30, snapCh w0 F]) 2 #[true, true, true, true, true, true, true, true, true, false, false]) [(0, (.pointer (some ⟨b1, 0, none⟩))), (1, (.int .i64 n_1)), (4, (.pointer (some ⟨b5, 0, none⟩))), (5, (.pointer (some ⟨b9, 0, none⟩))), (6, (.int .i64 t13)), (7, (.int .i64 t20)), (28, v40)] [dpCh (dSl dGRule 54) 50 bb41 v40 (xs16 ++ ([r31])), cellCh b1 [v2, (.int .i64 r34)] 96, cellCh b9 [(.slice a22 l23 q24), (.bool (decide (r7 = 0)))] 30, cellCh b5 [(.slice none 0 0), (.bool false)] 30, snapCh w0 F] (k30 ((xs16 ++ ([r31])), r34)) := by
          intro r31 a35 l36 q37 bb33 r34 v38 bb39 v40 bb41
          refine o_fad (dt 9 (fun w m => m.pick [3, 4] rfl)) rfl rfl fld30_0 rfl ?_
          refine nx_dp 0 rfl ?_; rintro a43 l44 q45 rfl
          refine d_one (i := 10) rfl (by kernel_rfl) (o_stc (cs' := [(.slice a43 l44 q45), (.bool (decide (r7 = 0)))]) 2 rfl rfl rfl ty28 rfl rfl rfl rfl ?_)
          refine d_and (fun w m => m.pick [3, 4] rfl) ?_
          refine pk [0, 1, 2, 3, 4] rfl ?_
          refine re (E' := [(0, (.pointer (some ⟨b1, 0, none⟩))), (1, (.int .i64 n_1)), (4, (.pointer (some ⟨b5, 0, none⟩))), (5, (.pointer (some ⟨b9, 0, none⟩))), (6, (.int .i64 t13)), (7, (.int .i64 t20))]) ⟨rfl, rfl, rfl, rfl, rfl, rfl, trivial⟩ ?_
          exact H719 r31 a35 l36 q37 bb33 r34 v38 bb39 a43 l44 q45 bb41
        have H721 : ∀ (r31 : (List GRule)) (a35 : Option Addr) (l36 : Nat) (q37 : Nat) (bb33 : List Nat) (r34 : Int) (v38 : Value) (bb39 : List Nat), Nx 80 (gB F [cellCh b1 [v2, (.int .i64 r_0_p)] 96] w0) (feet [cellCh b1 [v2, (.int .i64 r_0_p)] 96]) w0 (wpAnyH Tryd.prog .any (opsAt Tryd.f44 [1, 1, 1, 0, 1, 0, 0, 1, 0, 0]) Qd (Mem (gB F [cellCh b1 [v2, (.int .i64 r_0_p)] 96] w0) (feet [cellCh b1 [v2, (.int .i64 r_0_p)] 96]) w0 [cellCh b5 [(.slice none 0 0), (.bool false)] 30, snapCh w0 F]) 3 #[true, true, true, true, true, true, true, true, false, false, false]) [(0, (.pointer (some ⟨b1, 0, none⟩))), (1, (.int .i64 n_1)), (4, (.pointer (some ⟨b5, 0, none⟩))), (5, (.pointer (some ⟨b9, 0, none⟩))), (6, (.int .i64 t13)), (7, (.int .i64 t20)), (21, (.slice a22 l23 q24)), (27, v38)] [dpCh (dSl dGRule 54) 50 bb39 v38 ([r31]), cellCh b1 [v2, (.int .i64 r34)] 96, cellCh b9 [(.slice a22 l23 q24), (.bool (decide (r7 = 0)))] 30, cellCh b5 [(.slice none 0 0), (.bool false)] 30, snapCh w0 F, dpCh (dSl dGRule 54) 50 bb18 (.slice a22 l23 q24) xs16] (appW xs16 ([r31]) (fun _ => k30 ((xs16 ++ ([r31])), r34))) := by
          intro r31 a35 l36 q37 bb33 r34 v38 bb39
          refine pk [5, 0, 1, 2, 3, 4] rfl ?_
          refine d_one (i := 8) rfl (by kernel_rfl) (o_appD rfl rfl rfl el28 rfl zero50 rfl rfl ?_); intro bb41 v40
          refine d_and (fun w m => m.pick [3, 4] rfl) ?_
          refine pk [0, 1, 2, 3, 4] rfl ?_
          refine re (E' := [(0, (.pointer (some ⟨b1, 0, none⟩))), (1, (.int .i64 n_1)), (4, (.pointer (some ⟨b5, 0, none⟩))), (5, (.pointer (some ⟨b9, 0, none⟩))), (6, (.int .i64 t13)), (7, (.int .i64 t20)), (28, v40)]) ⟨rfl, rfl, rfl, rfl, rfl, rfl, rfl, trivial⟩ ?_
          exact H720 r31 a35 l36 q37 bb33 r34 v38 bb39 v40 bb41
        have H722 : ∀ (r31 : (List GRule)) (v32 : Value) (bb33 : List Nat) (r34 : Int), Nx 80 (gB F [cellCh b1 [v2, (.int .i64 r_0_p)] 96] w0) (feet [cellCh b1 [v2, (.int .i64 r_0_p)] 96]) w0 (wpAnyH Tryd.prog .any (opsAt Tryd.f44 [1, 1, 1, 0, 1, 0, 0, 1, 0, 0]) Qd (Mem (gB F [cellCh b1 [v2, (.int .i64 r_0_p)] 96] w0) (feet [cellCh b1 [v2, (.int .i64 r_0_p)] 96]) w0 [cellCh b5 [(.slice none 0 0), (.bool false)] 30, snapCh w0 F]) 4 #[true, true, true, true, true, true, true, false, false, false, false]) [(0, (.pointer (some ⟨b1, 0, none⟩))), (1, (.int .i64 n_1)), (4, (.pointer (some ⟨b5, 0, none⟩))), (5, (.pointer (some ⟨b9, 0, none⟩))), (6, (.int .i64 t13)), (7, (.int .i64 t20)), (21, (.slice a22 l23 q24)), (26, v32)] [dpCh dGRule 54 bb33 v32 r31, cellCh b1 [v2, (.int .i64 r34)] 96, cellCh b9 [(.slice a22 l23 q24), (.bool (decide (r7 = 0)))] 30, cellCh b5 [(.slice none 0 0), (.bool false)] 30, snapCh w0 F, dpCh (dSl dGRule 54) 50 bb18 (.slice a22 l23 q24) xs16] (appW xs16 ([r31]) (fun _ => k30 ((xs16 ++ ([r31])), r34))) := by
          intro r31 v32 bb33 r34
          refine nx_dp 0 rfl ?_; rintro a35 l36 q37 rfl
          refine d_one (i := 7) rfl (by kernel_rfl) (o_bslD (M := [dpCh dGRule 54 bb33 (.slice a35 l36 q37) r31]) (E' := (dSl dGRule 54)) (qs := [(0, (.slice a35 l36 q37))]) (cs := [(.slice a35 l36 q37)]) r31 (absorb_one gives_dp (fun B w h => ⟨_, rfl, h⟩)) (by intro ρ h; simp only [List.map_toArray, List.map_cons, List.map_nil, h (.tmp 26) _ rfl]) rfl el28 zero50 rfl rfl rfl rfl ?_); intro bb39 v38
          refine d_and (fun w m => m.pick [3, 4] rfl) ?_
          refine pk [0, 1, 2, 3, 4, 5] rfl ?_
          refine re (E' := [(0, (.pointer (some ⟨b1, 0, none⟩))), (1, (.int .i64 n_1)), (4, (.pointer (some ⟨b5, 0, none⟩))), (5, (.pointer (some ⟨b9, 0, none⟩))), (6, (.int .i64 t13)), (7, (.int .i64 t20)), (21, (.slice a22 l23 q24)), (27, v38)]) ⟨rfl, rfl, rfl, rfl, rfl, rfl, rfl, rfl, trivial⟩ ?_
          exact H721 r31 a35 l36 q37 bb33 r34 v38 bb39
        have H723 : ∀ (_ : Unit), Nx 80 (gB F [cellCh b1 [v2, (.int .i64 r_0_p)] 96] w0) (feet [cellCh b1 [v2, (.int .i64 r_0_p)] 96]) w0 (wpAnyH Tryd.prog .any (opsAt Tryd.f44 [1, 1, 1, 0, 1, 0, 0, 1, 0, 0]) Qd (Mem (gB F [cellCh b1 [v2, (.int .i64 r_0_p)] 96] w0) (feet [cellCh b1 [v2, (.int .i64 r_0_p)] 96]) w0 [cellCh b5 [(.slice none 0 0), (.bool false)] 30, snapCh w0 F]) 5 #[true, true, true, true, true, true, false, false, false, false, false]) [(0, (.pointer (some ⟨b1, 0, none⟩))), (1, (.int .i64 n_1)), (4, (.pointer (some ⟨b5, 0, none⟩))), (5, (.pointer (some ⟨b9, 0, none⟩))), (6, (.int .i64 t13)), (7, (.int .i64 t20)), (22, (.pointer (some ⟨b1, 0, none⟩))), (24, (.int .i64 (w64 (t20 + 1)))), (25, (.int .i64 t13)), (21, (.slice a22 l23 q24))] [cellCh b1 [v2, (.int .i64 t14)] 96, cellCh b9 [(.slice a22 l23 q24), (.bool (decide (r7 = 0)))] 30, cellCh b5 [(.slice none 0 0), (.bool false)] 30, snapCh w0 F, dpCh (dSl dGRule 54) 50 bb18 (.slice a22 l23 q24) xs16] (L_spec_l20Rules r_0_b t14 (w64 (t20 + 1)) t13 0 (fun (r31, r34) => appW xs16 ([r31]) (fun _ => k30 ((xs16 ++ ([r31])), r34)))) := by
          intro _
          refine d_one (i := 6) rfl (by kernel_rfl) (o_call (vs := [(.pointer (some ⟨b1, 0, none⟩)), (.int .i64 (w64 (t20 + 1))), (.int .i64 t13), (.int .i64 0)]) (M0 := [cellCh b1 [v2, (.int .i64 t14)] 96]) Tryd.call69 rfl rfl (by intro w m h; exact (w_spec_l20Rules (F := allB [cellCh b1 [v2, (.int .i64 t14)] 96] w) (r_0_b := r_0_b) (r_0_p := t14) (first_1 := (w64 (t20 + 1))) (chains_2 := t13) (n_3 := 0) allB_ok m.given (m.rdM 2 rfl (reads_snap hv2)) h).mono (fun _ _ k => ret_free (fun r u => (fr_cons free_dp (fr_cons free_cell fr_nil))) k)) ?_); rintro ⟨r31, r34⟩ ⟨v32, bb33⟩
          refine d_and (fun w m => m.pick [3, 4] rfl) ?_
          refine pk [0, 1, 2, 3, 4, 5] rfl ?_
          refine re (E' := [(0, (.pointer (some ⟨b1, 0, none⟩))), (1, (.int .i64 n_1)), (4, (.pointer (some ⟨b5, 0, none⟩))), (5, (.pointer (some ⟨b9, 0, none⟩))), (6, (.int .i64 t13)), (7, (.int .i64 t20)), (21, (.slice a22 l23 q24)), (26, v32)]) ⟨rfl, rfl, rfl, rfl, rfl, rfl, rfl, rfl, trivial⟩ ?_
          exact H722 r31 v32 bb33 r34
        have H724 : ∀ (r46 : (List GRule)) (a50 : Option Addr) (l51 : Nat) (q52 : Nat) (bb48 : List Nat) (r49 : Int) (v53 : Value) (bb54 : List Nat), Nx 80 (gB F [cellCh b1 [v2, (.int .i64 r_0_p)] 96] w0) (feet [cellCh b1 [v2, (.int .i64 r_0_p)] 96]) w0 (wpAnyH Tryd.prog .any (opsAt Tryd.f44 [1, 1, 1, 0, 1, 0, 0, 1, 0, 0]) Qd (Mem (gB F [cellCh b1 [v2, (.int .i64 r_0_p)] 96] w0) (feet [cellCh b1 [v2, (.int .i64 r_0_p)] 96]) w0 [cellCh b5 [(.slice none 0 0), (.bool false)] 30, snapCh w0 F]) 4 #[true, false, true, true, true, true, true, true, false, false, false]) [(0, (.pointer (some ⟨b1, 0, none⟩))), (1, (.int .i64 n_1)), (4, (.pointer (some ⟨b5, 0, none⟩))), (5, (.pointer (some ⟨b9, 0, none⟩))), (6, (.int .i64 t13)), (7, (.int .i64 t20)), (20, (.pointer (some ⟨b9, 0, none⟩))), (27, v53)] [dpCh (dSl dGRule 54) 50 bb54 v53 ([r46]), cellCh b1 [v2, (.int .i64 r49)] 96, cellCh b9 [(.slice a22 l23 q24), (.bool (decide (r7 = 0)))] 30, cellCh b5 [(.slice none 0 0), (.bool false)] 30, snapCh w0 F, dpCh (dSl dGRule 54) 50 bb18 (.slice a22 l23 q24) xs16] (appW xs16 ([r46]) (fun _ => k30 ((xs16 ++ ([r46])), r49))) := by
          intro r46 a50 l51 q52 bb48 r49 v53 bb54
          refine d_one (i := 1) rfl (by kernel_rfl) (o_ldc m_op (v := (.slice a22 l23 q24)) 2 rfl rfl rfl ty28 rfl ?_)
          refine d_and (fun w m => m.pick [3, 4] rfl) ?_
          refine pk [0, 1, 2, 3, 4, 5] rfl ?_
          refine re (E' := [(0, (.pointer (some ⟨b1, 0, none⟩))), (1, (.int .i64 n_1)), (4, (.pointer (some ⟨b5, 0, none⟩))), (5, (.pointer (some ⟨b9, 0, none⟩))), (6, (.int .i64 t13)), (7, (.int .i64 t20)), (21, (.slice a22 l23 q24)), (27, v53)]) ⟨rfl, rfl, rfl, rfl, rfl, rfl, rfl, rfl, trivial⟩ ?_
          exact H721 r46 a50 l51 q52 bb48 r49 v53 bb54
        have H725 : ∀ (r46 : (List GRule)) (v47 : Value) (bb48 : List Nat) (r49 : Int), Nx 80 (gB F [cellCh b1 [v2, (.int .i64 r_0_p)] 96] w0) (feet [cellCh b1 [v2, (.int .i64 r_0_p)] 96]) w0 (wpAnyH Tryd.prog .any (opsAt Tryd.f44 [1, 1, 1, 0, 1, 0, 0, 1, 0, 0]) Qd (Mem (gB F [cellCh b1 [v2, (.int .i64 r_0_p)] 96] w0) (feet [cellCh b1 [v2, (.int .i64 r_0_p)] 96]) w0 [cellCh b5 [(.slice none 0 0), (.bool false)] 30, snapCh w0 F]) 5 #[true, false, true, true, true, true, true, false, false, false, false]) [(0, (.pointer (some ⟨b1, 0, none⟩))), (1, (.int .i64 n_1)), (4, (.pointer (some ⟨b5, 0, none⟩))), (5, (.pointer (some ⟨b9, 0, none⟩))), (6, (.int .i64 t13)), (7, (.int .i64 t20)), (20, (.pointer (some ⟨b9, 0, none⟩))), (26, v47)] [dpCh dGRule 54 bb48 v47 r46, cellCh b1 [v2, (.int .i64 r49)] 96, cellCh b9 [(.slice a22 l23 q24), (.bool (decide (r7 = 0)))] 30, cellCh b5 [(.slice none 0 0), (.bool false)] 30, snapCh w0 F, dpCh (dSl dGRule 54) 50 bb18 (.slice a22 l23 q24) xs16] (appW xs16 ([r46]) (fun _ => k30 ((xs16 ++ ([r46])), r49))) := by
          intro r46 v47 bb48 r49
          refine d_two (i := 1) (j := 7) rfl rfl (by kernel_rfl) ?_ ?_
          · intro o ho; cases ho
            refine o_ldc m_op (v := (.slice a22 l23 q24)) 2 rfl rfl rfl ty28 rfl ?_
            refine d_and (fun w m => m.pick [3, 4] rfl) ?_
            refine pk [0, 1, 2, 3, 4, 5] rfl ?_
            refine re (E' := [(0, (.pointer (some ⟨b1, 0, none⟩))), (1, (.int .i64 n_1)), (4, (.pointer (some ⟨b5, 0, none⟩))), (5, (.pointer (some ⟨b9, 0, none⟩))), (6, (.int .i64 t13)), (7, (.int .i64 t20)), (21, (.slice a22 l23 q24)), (26, v47)]) ⟨rfl, rfl, rfl, rfl, rfl, rfl, rfl, rfl, trivial⟩ ?_
            exact H722 r46 v47 bb48 r49
          · intro o ho; cases ho
            refine nx_dp 0 rfl ?_; rintro a50 l51 q52 rfl
            refine o_bslD (M := [dpCh dGRule 54 bb48 (.slice a50 l51 q52) r46]) (E' := (dSl dGRule 54)) (qs := [(0, (.slice a50 l51 q52))]) (cs := [(.slice a50 l51 q52)]) r46 (absorb_one gives_dp (fun B w h => ⟨_, rfl, h⟩)) (by intro ρ h; simp only [List.map_toArray, List.map_cons, List.map_nil, h (.tmp 26) _ rfl]) rfl el28 zero50 rfl rfl rfl rfl ?_; intro bb54 v53
            refine d_and (fun w m => m.pick [3, 4] rfl) ?_
            refine pk [0, 1, 2, 3, 4, 5] rfl ?_
            refine re (E' := [(0, (.pointer (some ⟨b1, 0, none⟩))), (1, (.int .i64 n_1)), (4, (.pointer (some ⟨b5, 0, none⟩))), (5, (.pointer (some ⟨b9, 0, none⟩))), (6, (.int .i64 t13)), (7, (.int .i64 t20)), (20, (.pointer (some ⟨b9, 0, none⟩))), (27, v53)]) ⟨rfl, rfl, rfl, rfl, rfl, rfl, rfl, rfl, trivial⟩ ?_
            exact H724 r46 a50 l51 q52 bb48 r49 v53 bb54
        refine o_fad (dt 0 (fun w m => m.pick [2, 3] rfl)) rfl rfl fld30_0 rfl ?_
        refine o_mv (dt 2 (fun w m => m.pick [2, 3] rfl)) rfl rfl ?_
        refine o_mv (dt 3 (fun w m => m.pick [2, 3] rfl)) rfl rfl ?_
        refine o_addw (dt 4 (fun w m => m.pick [2, 3] rfl)) rfl rfl rfl ?_
        refine o_mv (dt 5 (fun w m => m.pick [2, 3] rfl)) rfl rfl ?_
        refine d_two (i := 1) (j := 6) rfl rfl (by kernel_rfl) ?_ ?_
        · intro o ho; cases ho
          refine o_ldc m_op (v := (.slice a22 l23 q24)) 1 rfl rfl rfl ty28 rfl ?_
          refine d_and (fun w m => m.pick [2, 3] rfl) ?_
          refine pk [0, 1, 2, 3, 4] rfl ?_
          refine re (E' := [(0, (.pointer (some ⟨b1, 0, none⟩))), (1, (.int .i64 n_1)), (4, (.pointer (some ⟨b5, 0, none⟩))), (5, (.pointer (some ⟨b9, 0, none⟩))), (6, (.int .i64 t13)), (7, (.int .i64 t20)), (22, (.pointer (some ⟨b1, 0, none⟩))), (24, (.int .i64 (w64 (t20 + 1)))), (25, (.int .i64 t13)), (21, (.slice a22 l23 q24))]) ⟨rfl, rfl, rfl, rfl, rfl, rfl, rfl, rfl, rfl, rfl, trivial⟩ ?_
          exact H723 ()
        · intro o ho; cases ho
          refine o_call (vs := [(.pointer (some ⟨b1, 0, none⟩)), (.int .i64 (w64 (t20 + 1))), (.int .i64 t13), (.int .i64 0)]) (M0 := [cellCh b1 [v2, (.int .i64 t14)] 96]) Tryd.call69 rfl rfl (by intro w m h; exact (w_spec_l20Rules (F := allB [cellCh b1 [v2, (.int .i64 t14)] 96] w) (r_0_b := r_0_b) (r_0_p := t14) (first_1 := (w64 (t20 + 1))) (chains_2 := t13) (n_3 := 0) allB_ok m.given (m.rdM 2 rfl (reads_snap hv2)) h).mono (fun _ _ k => ret_free (fun r u => (fr_cons free_dp (fr_cons free_cell fr_nil))) k)) ?_; rintro ⟨r46, r49⟩ ⟨v47, bb48⟩
          refine d_and (fun w m => m.pick [3, 4] rfl) ?_
          refine pk [0, 1, 2, 3, 4, 5] rfl ?_
          refine re (E' := [(0, (.pointer (some ⟨b1, 0, none⟩))), (1, (.int .i64 n_1)), (4, (.pointer (some ⟨b5, 0, none⟩))), (5, (.pointer (some ⟨b9, 0, none⟩))), (6, (.int .i64 t13)), (7, (.int .i64 t20)), (20, (.pointer (some ⟨b9, 0, none⟩))), (26, v47)]) ⟨rfl, rfl, rfl, rfl, rfl, rfl, rfl, rfl, trivial⟩ ?_
          exact H725 r46 v47 bb48 r49
      · rintro ⟨xs25, t29⟩ a w ⟨v26, bb28, hE, hm⟩ h
        refine nx_of hE hm h ?_
        clear hE hm h
        refine b_norm ?_
        exact l_join (xs25, t29) (fun a w hE hm => ⟨v26, bb28, hE.sub ⟨rfl, rfl, rfl, rfl, rfl, rfl, trivial⟩, (hm.pick [0, 1, 2, 3, 4] rfl)⟩)
    · rintro ⟨xs115, t119⟩ a w ⟨v116, bb118, hE, hm⟩ h
      refine nx_of hE hm h ?_
      clear hE hm h
      refine c_region ?_
      refine o_mv st rfl rfl ?_
      refine o_add st rfl rfl rfl ?_; intro t121
      refine o_as st rfl rfl ?_
      refine c_nil ?_
      exact l_join (t119, xs115, t121) (fun a w hE hm => ⟨v116, bb118, hE.sub ⟨rfl, rfl, rfl, rfl, rfl, rfl, trivial⟩, (hm.pick [1, 2, 3, 4, 0] rfl)⟩)
  · refine c_exit ?_
    refine l_exit ?_
    refine l_exit ?_
    refine b_exit ?_
    refine l_then ?_
    refine c_join (σ := (Int × (List (List GRule)))) (fun ((t319, xs321) : (Int × (List (List GRule)))) (a : Act) (w : World) => ∃ (v320 : Value) (bb323 : List Nat), Has 80 [(4, (.pointer (some ⟨b5, 0, none⟩))), (5, (.pointer (some ⟨b9, 0, none⟩)))] a ∧ Mem (gB F [cellCh b1 [v2, (.int .i64 r_0_p)] 96] w0) (feet [cellCh b1 [v2, (.int .i64 r_0_p)] 96]) w0 [cellCh b1 [v2, (.int .i64 t319)] 96, cellCh b9 [v320, (.bool (decide (r7 = 0)))] 30, cellCh b5 [(.slice none 0 0), (.bool false)] 30, snapCh w0 F, dpCh (dSl dGRule 54) 50 bb323 v320 xs321] w) ?_ ?_
    · intro k325
      refine c_seq ?_
      refine c_region ?_
      refine o_mv st rfl rfl ?_
      refine o_mv st rfl rfl ?_
      refine stw (o_call (vs := [(.pointer (some ⟨b1, 0, none⟩)), (.int .i64 n_1)]) (M0 := [cellCh b1 [v2, (.int .i64 t14)] 96]) Tryd.call70 rfl rfl (by intro w m h; exact (w_spec_l20Rd_odd (F := allB [cellCh b1 [v2, (.int .i64 t14)] 96] w) (r_0_b := r_0_b) (r_0_p := t14) (n_1 := n_1) allB_ok m.given (m.rdM 2 rfl (reads_snap hv2)) h).mono (fun _ _ k => ret_free (fun r u => (fr_cons free_cell fr_nil)) k)) ?_); rintro ⟨r122, r123⟩ _
      refine c_nil ?_
      refine l_then ?_
      refine c_cond rfl ?_ ?_
      · refine c_seq ?_
        refine c_region ?_
        refine o_mv st rfl rfl ?_
        refine stw (o_call (vs := [(.pointer (some ⟨b1, 0, none⟩)), (.int .i64 4)]) (M0 := [cellCh b1 [v2, (.int .i64 r123)] 96]) Tryd.call68 rfl rfl (by intro w m h; exact (w_spec_l20Rd_pick (F := allB [cellCh b1 [v2, (.int .i64 r123)] 96] w) (r_0_b := r_0_b) (r_0_p := r123) (n_1 := 4) allB_ok m.given (m.rdM 2 rfl (reads_snap hv2)) h).mono (fun _ _ k => ret_free (fun r u => (fr_cons free_cell fr_nil)) k)) ?_); rintro ⟨r124, r125⟩ _
        refine c_nil ?_
        refine l_then ?_
        refine c_block ?_
        refine c_seq ?_
        refine c_region ?_
        refine o_eql st und3 rfl rfl rfl ?_
        refine o_as st rfl rfl ?_
        refine c_nil ?_
        refine l_then ?_
        refine c_cond rfl ?_ ?_
        · refine c_region ?_
          refine stw (o_bslD0 (E' := (dSl dGRule 54)) (qs := []) (by intro ρ h; simp only [List.map_toArray, List.map_cons, List.map_nil]) rfl el28 zero50 rfl rfl rfl ?_); intro bb127 v126
          refine o_fad st rfl rfl fld30_0 rfl ?_
          refine nx_dp 0 rfl ?_; rintro a129 l130 q131 rfl
          refine stw (o_stc (cs' := [(.slice a129 l130 q131), (.bool (decide (r7 = 0)))]) 2 rfl rfl rfl ty28 rfl rfl rfl rfl ?_)
          refine c_nil ?_
          refine b_norm ?_
          exact l_join (r125, []) (fun a w hE hm => ⟨(.slice a129 l130 q131), bb127, hE.sub ⟨rfl, rfl, trivial⟩, (hm.pick [1, 2, 3, 4, 0] rfl)⟩)
        · refine c_seq ?_
          refine c_region ?_
          refine o_eql st und3 rfl rfl rfl ?_
          refine o_as st rfl rfl ?_
          refine c_nil ?_
          refine l_then ?_
          refine c_cond rfl ?_ ?_
          · refine nx_dp 4 rfl ?_; rintro a132 l133 q134 rfl
            refine c_join1 (σ := ((List (List GRule)) × Int)) (fun ((xs135, t138) : ((List (List GRule)) × Int)) (a : Act) (w : World) => ∃ (bb137 : List Nat), Has 80 [(4, (.pointer (some ⟨b5, 0, none⟩))), (5, (.pointer (some ⟨b9, 0, none⟩)))] a ∧ Mem (gB F [cellCh b1 [v2, (.int .i64 r_0_p)] 96] w0) (feet [cellCh b1 [v2, (.int .i64 r_0_p)] 96]) w0 [dpCh (dSl dGRule 54) 50 bb137 (.slice a132 l133 q134) xs135, cellCh b1 [v2, (.int .i64 t138)] 96, cellCh b9 [(.slice a132 l133 q134), (.bool (decide (r7 = 0)))] 30, cellCh b5 [(.slice none 0 0), (.bool false)] 30, snapCh w0 F] w) ?_ ?_
            · intro k139
              refine c_drawQ mixed 17 rfl [cellCh b9 [(.slice a132 l133 q134), (.bool (decide (r7 = 0)))] 30, cellCh b5 [(.slice none 0 0), (.bool false)] 30, snapCh w0 F] ?_
              intro Qd hP hQ
              have H753 : ∀ (e140 : (List GRule)) (h141 : xs16[(0 : Int).toNat]? = some e140) (v142 : Value) (bb143 : List Nat) (bb144 : List Nat) (v145 : Value) (r146 : Int) (r147 : Int) (e148 : Int) (h149 : ([0, t13])[(r146).toNat]? = some e148) (v150 : Value) (bb151 : List Nat) (a157 : Option Addr) (l158 : Nat) (q159 : Nat) (bb153 : List Nat) (e155 : (List GRule)) (h156 : xs16[(0 : Int).toNat]? = some e155) (bb160 : List Nat), Nx 80 (gB F [cellCh b1 [v2, (.int .i64 r_0_p)] 96] w0) (feet [cellCh b1 [v2, (.int .i64 r_0_p)] 96]) w0 (wpAnyH Tryd.prog .any (opsAt Tryd.f44 [1, 1, 1, 1, 0, 1, 0, 1, 0, 1, 1, 1, 0]) Qd (Mem (gB F [cellCh b1 [v2, (.int .i64 r_0_p)] 96] w0) (feet [cellCh b1 [v2, (.int .i64 r_0_p)] 96]) w0 [cellCh b9 [(.slice a132 l133 q134), (.bool (decide (r7 = 0)))] 30, cellCh b5 [(.slice none 0 0), (.bool false)] 30, snapCh w0 F]) 0 #[true, true, true, true, true, true, true, true, true, true, true, true, true, true, true, true, true]) [(4, (.pointer (some ⟨b5, 0, none⟩))), (5, (.pointer (some ⟨b9, 0, none⟩)))] [dpCh (dSl dGRule 54) 50 bb160 (.slice a132 l133 q134) (xs16.set (0 : Int).toNat (e140 ++ ([(GRule.mk ([]) 3 e148)]))), cellCh b1 [v2, (.int .i64 r147)] 96, cellCh b9 [(.slice a132 l133 q134), (.bool (decide (r7 = 0)))] 30, cellCh b5 [(.slice none 0 0), (.bool false)] 30, snapCh w0 F] (k139 ((xs16.set (0 : Int).toNat (e140 ++ ([(GRule.mk ([]) 3 e148)]))), r147)) := by
                intro e140 h141 v142 bb143 bb144 v145 r146 r147 e148 h149 v150 bb151 a157 l158 q159 bb153 e155 h156 bb160
                refine d_done (by kernel_rfl) ?_
                exact fun a w hE hm hφ => hQ ((xs16.set (0 : Int).toNat (e140 ++ ([(GRule.mk ([]) 3 e148)]))), r147) a w hφ ((fun a w hE hm => ⟨bb160, hE.sub ⟨rfl, rfl, trivial⟩, (hm.pick [0, 1, 2, 3, 4] rfl)⟩) a w hE hm)
              have H754 : ∀ (e140 : (List GRule)) (h141 : xs16[(0 : Int).toNat]? = some e140) (v142 : Value) (bb143 : List Nat) (bb144 : List Nat) (v145 : Value) (r146 : Int) (r147 : Int) (e148 : Int) (h149 : ([0, t13])[(r146).toNat]? = some e148) (v150 : Value) (bb151 : List Nat) (v152 : Value) (bb153 : List Nat) (e155 : (List GRule)) (h156 : xs16[(0 : Int).toNat]? = some e155), Nx 80 (gB F [cellCh b1 [v2, (.int .i64 r_0_p)] 96] w0) (feet [cellCh b1 [v2, (.int .i64 r_0_p)] 96]) w0 (wpAnyH Tryd.prog .any (opsAt Tryd.f44 [1, 1, 1, 1, 0, 1, 0, 1, 0, 1, 1, 1, 0]) Qd (Mem (gB F [cellCh b1 [v2, (.int .i64 r_0_p)] 96] w0) (feet [cellCh b1 [v2, (.int .i64 r_0_p)] 96]) w0 [cellCh b9 [(.slice a132 l133 q134), (.bool (decide (r7 = 0)))] 30, cellCh b5 [(.slice none 0 0), (.bool false)] 30, snapCh w0 F]) 1 #[true, true, true, true, true, true, true, true, true, true, true, true, true, true, true, true, false]) [(4, (.pointer (some ⟨b5, 0, none⟩))), (5, (.pointer (some ⟨b9, 0, none⟩))), (61, v152), (62, (pEl (.slice a132 l133 q134) 0 1 0))] [dpCh dGRule 54 bb153 v152 (e140 ++ ([(GRule.mk ([]) 3 e148)])), cellCh b1 [v2, (.int .i64 r147)] 96, holeCh (dSl dGRule 54) 50 bb143 (.slice a132 l133 q134) xs16 (0 : Int).toNat [v142], cellCh b9 [(.slice a132 l133 q134), (.bool (decide (r7 = 0)))] 30, cellCh b5 [(.slice none 0 0), (.bool false)] 30, snapCh w0 F] (k139 ((xs16.set (0 : Int).toNat (e140 ++ ([(GRule.mk ([]) 3 e148)]))), r147)) := by
                intro e140 h141 v142 bb143 bb144 v145 r146 r147 e148 h149 v150 bb151 v152 bb153 e155 h156
                refine nx_dp 0 rfl ?_; rintro a157 l158 q159 rfl
                refine pk [2, 0, 1, 3, 4, 5] rfl ?_
                refine d_one (i := 16) rfl (by kernel_rfl) (o_stH (M := [dpCh dGRule 54 bb153 (.slice a157 l158 q159) (e140 ++ ([(GRule.mk ([]) 3 e148)]))]) (y' := (e140 ++ ([(GRule.mk ([]) 3 e148)]))) rfl (.inr (lt_of_get h141)) (absorb_one gives_dp (fun B w h => ⟨_, rfl, h⟩)) ty50 rfl rfl rfl rfl rfl ?_); intro bb160
                refine d_and (fun w m => m.pick [2, 3, 4] rfl) ?_
                refine pk [0, 1, 2, 3, 4] rfl ?_
                refine re (E' := [(4, (.pointer (some ⟨b5, 0, none⟩))), (5, (.pointer (some ⟨b9, 0, none⟩)))]) ⟨rfl, rfl, trivial⟩ ?_
                exact H753 e140 h141 v142 bb143 bb144 v145 r146 r147 e148 h149 v150 bb151 a157 l158 q159 bb153 e155 h156 bb160
              have H755 : ∀ (e140 : (List GRule)) (h141 : xs16[(0 : Int).toNat]? = some e140) (v142 : Value) (bb143 : List Nat) (bb144 : List Nat) (v145 : Value) (r146 : Int) (r147 : Int) (e148 : Int) (h149 : ([0, t13])[(r146).toNat]? = some e148) (v150 : Value) (bb151 : List Nat) (v152 : Value) (bb153 : List Nat), Nx 80 (gB F [cellCh b1 [v2, (.int .i64 r_0_p)] 96] w0) (feet [cellCh b1 [v2, (.int .i64 r_0_p)] 96]) w0 (wpAnyH Tryd.prog .any (opsAt Tryd.f44 [1, 1, 1, 1, 0, 1, 0, 1, 0, 1, 1, 1, 0]) Qd (Mem (gB F [cellCh b1 [v2, (.int .i64 r_0_p)] 96] w0) (feet [cellCh b1 [v2, (.int .i64 r_0_p)] 96]) w0 [cellCh b9 [(.slice a132 l133 q134), (.bool (decide (r7 = 0)))] 30, cellCh b5 [(.slice none 0 0), (.bool false)] 30, snapCh w0 F]) 2 #[true, true, true, true, true, true, true, true, true, true, true, true, true, true, true, false, false]) [(4, (.pointer (some ⟨b5, 0, none⟩))), (5, (.pointer (some ⟨b9, 0, none⟩))), (48, (.slice a132 l133 q134)), (61, v152)] [dpCh dGRule 54 bb153 v152 (e140 ++ ([(GRule.mk ([]) 3 e148)])), cellCh b1 [v2, (.int .i64 r147)] 96, holeCh (dSl dGRule 54) 50 bb143 (.slice a132 l133 q134) xs16 (0 : Int).toNat [v142], cellCh b9 [(.slice a132 l133 q134), (.bool (decide (r7 = 0)))] 30, cellCh b5 [(.slice none 0 0), (.bool false)] 30, snapCh w0 F] (idxW xs16 0 (fun e155 => k139 ((xs16.set (0 : Int).toNat (e140 ++ ([(GRule.mk ([]) 3 e148)]))), r147))) := by
                intro e140 h141 v142 bb143 bb144 v145 r146 r147 e148 h149 v150 bb151 v152 bb153
                refine d_one (i := 15) rfl (by kernel_rfl) (o_idxH m_op 2 rfl rfl rfl rfl el28 ?_); intro e155 h156
                refine d_and (fun w m => m.pick [3, 4, 5] rfl) ?_
                refine pk [0, 1, 2, 3, 4, 5] rfl ?_
                refine re (E' := [(4, (.pointer (some ⟨b5, 0, none⟩))), (5, (.pointer (some ⟨b9, 0, none⟩))), (61, v152), (62, (pEl (.slice a132 l133 q134) 0 1 0))]) ⟨rfl, rfl, rfl, rfl, trivial⟩ ?_
                exact H754 e140 h141 v142 bb143 bb144 v145 r146 r147 e148 h149 v150 bb151 v152 bb153 e155 h156
              have H756 : ∀ (e140 : (List GRule)) (h141 : xs16[(0 : Int).toNat]? = some e140) (v142 : Value) (bb143 : List Nat) (bb144 : List Nat) (v145 : Value) (r146 : Int) (r147 : Int) (e148 : Int) (h149 : ([0, t13])[(r146).toNat]? = some e148) (v150 : Value) (bb151 : List Nat), Nx 80 (gB F [cellCh b1 [v2, (.int .i64 r_0_p)] 96] w0) (feet [cellCh b1 [v2, (.int .i64 r_0_p)] 96]) w0 (wpAnyH Tryd.prog .any (opsAt Tryd.f44 [1, 1, 1, 1, 0, 1, 0, 1, 0, 1, 1, 1, 0]) Qd (Mem (gB F [cellCh b1 [v2, (.int .i64 r_0_p)] 96] w0) (feet [cellCh b1 [v2, (.int .i64 r_0_p)] 96]) w0 [cellCh b9 [(.slice a132 l133 q134), (.bool (decide (r7 = 0)))] 30, cellCh b5 [(.slice none 0 0), (.bool false)] 30, snapCh w0 F]) 3 #[true, true, true, true, true, true, true, true, true, true, true, true, true, true, false, false, false]) [(4, (.pointer (some ⟨b5, 0, none⟩))), (5, (.pointer (some ⟨b9, 0, none⟩))), (48, (.slice a132 l133 q134)), (52, v142), (60, v150)] [dpCh dGRule 54 bb151 v150 ([(GRule.mk ([]) 3 e148)]), cellCh b1 [v2, (.int .i64 r147)] 96, holeCh (dSl dGRule 54) 50 bb143 (.slice a132 l133 q134) xs16 (0 : Int).toNat [v142], dpCh dGRule 54 bb144 v142 e140, cellCh b9 [(.slice a132 l133 q134), (.bool (decide (r7 = 0)))] 30, cellCh b5 [(.slice none 0 0), (.bool false)] 30, snapCh w0 F] (appW e140 ([(GRule.mk ([]) 3 e148)]) (fun _ => idxW xs16 0 (fun e155 => k139 ((xs16.set (0 : Int).toNat (e140 ++ ([(GRule.mk ([]) 3 e148)]))), r147)))) := by
                intro e140 h141 v142 bb143 bb144 v145 r146 r147 e148 h149 v150 bb151
                refine pk [3, 0, 1, 2, 4, 5, 6] rfl ?_
                refine d_one (i := 14) rfl (by kernel_rfl) (o_appD rfl rfl rfl el50 rfl zero54 rfl rfl ?_); intro bb153 v152
                refine d_and (fun w m => m.pick [3, 4, 5] rfl) ?_
                refine pk [0, 1, 2, 3, 4, 5] rfl ?_
                refine re (E' := [(4, (.pointer (some ⟨b5, 0, none⟩))), (5, (.pointer (some ⟨b9, 0, none⟩))), (48, (.slice a132 l133 q134)), (61, v152)]) ⟨rfl, rfl, rfl, rfl, trivial⟩ ?_
                exact H755 e140 h141 v142 bb143 bb144 v145 r146 r147 e148 h149 v150 bb151 v152 bb153
              have H757 : ∀ (e140 : (List GRule)) (h141 : xs16[(0 : Int).toNat]? = some e140) (v142 : Value) (bb143 : List Nat) (bb144 : List Nat) (v145 : Value) (r146 : Int) (r147 : Int) (e148 : Int) (h149 : ([0, t13])[(r146).toNat]? = some e148), Nx 80 (gB F [cellCh b1 [v2, (.int .i64 r_0_p)] 96] w0) (feet [cellCh b1 [v2, (.int .i64 r_0_p)] 96]) w0 (wpAnyH Tryd.prog .any (opsAt Tryd.f44 [1, 1, 1, 1, 0, 1, 0, 1, 0, 1, 1, 1, 0]) Qd (Mem (gB F [cellCh b1 [v2, (.int .i64 r_0_p)] 96] w0) (feet [cellCh b1 [v2, (.int .i64 r_0_p)] 96]) w0 [cellCh b9 [(.slice a132 l133 q134), (.bool (decide (r7 = 0)))] 30, cellCh b5 [(.slice none 0 0), (.bool false)] 30, snapCh w0 F]) 5 #[true, true, true, true, true, true, true, true, true, true, true, true, false, false, false, false, false]) [(4, (.pointer (some ⟨b5, 0, none⟩))), (5, (.pointer (some ⟨b9, 0, none⟩))), (48, (.slice a132 l133 q134)), (52, v142), (58, (.int .i64 e148))] [cellCh b1 [v2, (.int .i64 r147)] 96, holeCh (dSl dGRule 54) 50 bb143 (.slice a132 l133 q134) xs16 (0 : Int).toNat [v142], dpCh dGRule 54 bb144 v142 e140, cellCh b9 [(.slice a132 l133 q134), (.bool (decide (r7 = 0)))] 30, cellCh b5 [(.slice none 0 0), (.bool false)] 30, snapCh w0 F] (appW e140 ([(GRule.mk ([]) 3 e148)]) (fun _ => idxW xs16 0 (fun e155 => k139 ((xs16.set (0 : Int).toNat (e140 ++ ([(GRule.mk ([]) 3 e148)]))), r147)))) := by
                intro e140 h141 v142 bb143 bb144 v145 r146 r147 e148 h149
                refine o_bld (dt 12 (fun w m => m.pick [3, 4, 5] rfl)) (qs := [(1, (.int .i64 3)), (2, (.int .i64 e148))]) (cells := [(.slice none 0 0), (.int .i64 3), (.int .i64 e148)]) (by intro ρ h; simp only [List.map_toArray, List.map_cons, List.map_nil, h (.const (.int .i64 3)) _ rfl, h (.tmp 58) _ rfl]) rfl bld54 rfl ?_
                refine d_one (i := 13) rfl (by kernel_rfl) (o_bslD (M := []) (E' := dGRule) (qs := [(0, (.agg #[(.slice none 0 0), (.int .i64 3), (.int .i64 e148)]))]) (cs := [(.slice none 0 0), (.int .i64 3), (.int .i64 e148)]) (GRule.mk ([]) 3 e148) (absorb_nil (fun w => ⟨_, rfl, Dp.nil⟩)) (by intro ρ h; simp only [List.map_toArray, List.map_cons, List.map_nil, h (.tmp 59) _ rfl]) rfl el50 zero54 rfl rfl rfl rfl ?_); intro bb151 v150
                refine d_and (fun w m => m.pick [4, 5, 6] rfl) ?_
                refine pk [0, 1, 2, 3, 4, 5, 6] rfl ?_
                refine re (E' := [(4, (.pointer (some ⟨b5, 0, none⟩))), (5, (.pointer (some ⟨b9, 0, none⟩))), (48, (.slice a132 l133 q134)), (52, v142), (60, v150)]) ⟨rfl, rfl, rfl, rfl, rfl, trivial⟩ ?_
                exact H756 e140 h141 v142 bb143 bb144 v145 r146 r147 e148 h149 v150 bb151
              have H758 : ∀ (e140 : (List GRule)) (h141 : xs16[(0 : Int).toNat]? = some e140) (v142 : Value) (bb143 : List Nat) (bb144 : List Nat) (v145 : Value) (r146 : Int) (r147 : Int) (e148 : Int) (h149 : ([0, t13])[(r146).toNat]? = some e148), Nx 80 (gB F [cellCh b1 [v2, (.int .i64 r_0_p)] 96] w0) (feet [cellCh b1 [v2, (.int .i64 r_0_p)] 96]) w0 (wpAnyH Tryd.prog .any (opsAt Tryd.f44 [1, 1, 1, 1, 0, 1, 0, 1, 0, 1, 1, 1, 0]) Qd (Mem (gB F [cellCh b1 [v2, (.int .i64 r_0_p)] 96] w0) (feet [cellCh b1 [v2, (.int .i64 r_0_p)] 96]) w0 [cellCh b9 [(.slice a132 l133 q134), (.bool (decide (r7 = 0)))] 30, cellCh b5 [(.slice none 0 0), (.bool false)] 30, snapCh w0 F]) 6 #[true, true, true, true, true, true, true, true, true, true, true, false, false, false, false, false, false]) [(4, (.pointer (some ⟨b5, 0, none⟩))), (5, (.pointer (some ⟨b9, 0, none⟩))), (48, (.slice a132 l133 q134)), (52, v142), (57, (pEl v145 r146 1 0))] [cellCh b1 [v2, (.int .i64 r147)] 96, ownCh elInt 3 v145 ([0, t13]), holeCh (dSl dGRule 54) 50 bb143 (.slice a132 l133 q134) xs16 (0 : Int).toNat [v142], dpCh dGRule 54 bb144 v142 e140, cellCh b9 [(.slice a132 l133 q134), (.bool (decide (r7 = 0)))] 30, cellCh b5 [(.slice none 0 0), (.bool false)] 30, snapCh w0 F] (appW e140 ([(GRule.mk ([]) 3 e148)]) (fun _ => idxW xs16 0 (fun e155 => k139 ((xs16.set (0 : Int).toNat (e140 ++ ([(GRule.mk ([]) 3 e148)]))), r147)))) := by
                intro e140 h141 v142 bb143 bb144 v145 r146 r147 e148 h149
                refine d_one (i := 11) rfl (by kernel_rfl) (o_lds m_op (enc := encInt) (u := (.int .i64 e148)) 1 rfl reads_own flelInt rfl h149 rfl rfl ty3 rfl ?_)
                refine d_and (fun w m => m.pick [4, 5, 6] rfl) ?_
                refine pk [0, 2, 3, 4, 5, 6] rfl ?_
                refine re (E' := [(4, (.pointer (some ⟨b5, 0, none⟩))), (5, (.pointer (some ⟨b9, 0, none⟩))), (48, (.slice a132 l133 q134)), (52, v142), (58, (.int .i64 e148))]) ⟨rfl, rfl, rfl, rfl, rfl, trivial⟩ ?_
                exact H757 e140 h141 v142 bb143 bb144 v145 r146 r147 e148 h149
              have H759 : ∀ (e140 : (List GRule)) (h141 : xs16[(0 : Int).toNat]? = some e140) (v142 : Value) (bb143 : List Nat) (bb144 : List Nat) (v145 : Value) (r146 : Int) (r147 : Int), Nx 80 (gB F [cellCh b1 [v2, (.int .i64 r_0_p)] 96] w0) (feet [cellCh b1 [v2, (.int .i64 r_0_p)] 96]) w0 (wpAnyH Tryd.prog .any (opsAt Tryd.f44 [1, 1, 1, 1, 0, 1, 0, 1, 0, 1, 1, 1, 0]) Qd (Mem (gB F [cellCh b1 [v2, (.int .i64 r_0_p)] 96] w0) (feet [cellCh b1 [v2, (.int .i64 r_0_p)] 96]) w0 [cellCh b9 [(.slice a132 l133 q134), (.bool (decide (r7 = 0)))] 30, cellCh b5 [(.slice none 0 0), (.bool false)] 30, snapCh w0 F]) 7 #[true, true, true, true, true, true, true, true, true, true, false, false, false, false, false, false, false]) [(4, (.pointer (some ⟨b5, 0, none⟩))), (5, (.pointer (some ⟨b9, 0, none⟩))), (48, (.slice a132 l133 q134)), (52, v142), (54, v145), (56, (.int .i64 r146))] [cellCh b1 [v2, (.int .i64 r147)] 96, ownCh elInt 3 v145 ([0, t13]), holeCh (dSl dGRule 54) 50 bb143 (.slice a132 l133 q134) xs16 (0 : Int).toNat [v142], dpCh dGRule 54 bb144 v142 e140, cellCh b9 [(.slice a132 l133 q134), (.bool (decide (r7 = 0)))] 30, cellCh b5 [(.slice none 0 0), (.bool false)] 30, snapCh w0 F] (idxW ([0, t13]) r146 (fun e148 => appW e140 ([(GRule.mk ([]) 3 e148)]) (fun _ => idxW xs16 0 (fun e155 => k139 ((xs16.set (0 : Int).toNat (e140 ++ ([(GRule.mk ([]) 3 e148)]))), r147))))) := by
                intro e140 h141 v142 bb143 bb144 v145 r146 r147
                refine d_one (i := 10) rfl (by kernel_rfl) (o_idx m_op 1 rfl reads_own rfl rfl rfl el67 ?_); intro e148 h149
                refine d_and (fun w m => m.pick [4, 5, 6] rfl) ?_
                refine pk [0, 1, 2, 3, 4, 5, 6] rfl ?_
                refine re (E' := [(4, (.pointer (some ⟨b5, 0, none⟩))), (5, (.pointer (some ⟨b9, 0, none⟩))), (48, (.slice a132 l133 q134)), (52, v142), (57, (pEl v145 r146 1 0))]) ⟨rfl, rfl, rfl, rfl, rfl, trivial⟩ ?_
                exact H758 e140 h141 v142 bb143 bb144 v145 r146 r147 e148 h149
              have H760 : ∀ (e140 : (List GRule)) (h141 : xs16[(0 : Int).toNat]? = some e140) (v142 : Value) (bb143 : List Nat) (bb144 : List Nat) (v145 : Value), Nx 80 (gB F [cellCh b1 [v2, (.int .i64 r_0_p)] 96] w0) (feet [cellCh b1 [v2, (.int .i64 r_0_p)] 96]) w0 (wpAnyH Tryd.prog .any (opsAt Tryd.f44 [1, 1, 1, 1, 0, 1, 0, 1, 0, 1, 1, 1, 0]) Qd (Mem (gB F [cellCh b1 [v2, (.int .i64 r_0_p)] 96] w0) (feet [cellCh b1 [v2, (.int .i64 r_0_p)] 96]) w0 [cellCh b9 [(.slice a132 l133 q134), (.bool (decide (r7 = 0)))] 30, cellCh b5 [(.slice none 0 0), (.bool false)] 30, snapCh w0 F]) 8 #[true, true, true, true, true, true, true, true, true, false, false, false, false, false, false, false, false]) [(4, (.pointer (some ⟨b5, 0, none⟩))), (5, (.pointer (some ⟨b9, 0, none⟩))), (48, (.slice a132 l133 q134)), (55, (.pointer (some ⟨b1, 0, none⟩))), (52, v142), (54, v145)] [ownCh elInt 3 v145 ([0, t13]), holeCh (dSl dGRule 54) 50 bb143 (.slice a132 l133 q134) xs16 (0 : Int).toNat [v142], dpCh dGRule 54 bb144 v142 e140, cellCh b1 [v2, (.int .i64 r125)] 96, cellCh b9 [(.slice a132 l133 q134), (.bool (decide (r7 = 0)))] 30, cellCh b5 [(.slice none 0 0), (.bool false)] 30, snapCh w0 F] (L_spec_l20Rd_pick r_0_b r125 2 (fun (r146, r147) => idxW ([0, t13]) r146 (fun e148 => appW e140 ([(GRule.mk ([]) 3 e148)]) (fun _ => idxW xs16 0 (fun e155 => k139 ((xs16.set (0 : Int).toNat (e140 ++ ([(GRule.mk ([]) 3 e148)]))), r147)))))) := by
                intro e140 h141 v142 bb143 bb144 v145
                refine pk [3, 0, 1, 2, 4, 5, 6] rfl ?_
                refine d_one (i := 9) rfl (by kernel_rfl) (o_call (vs := [(.pointer (some ⟨b1, 0, none⟩)), (.int .i64 2)]) (M0 := [cellCh b1 [v2, (.int .i64 r125)] 96]) Tryd.call68 rfl rfl (by intro w m h; exact (w_spec_l20Rd_pick (F := allB [cellCh b1 [v2, (.int .i64 r125)] 96] w) (r_0_b := r_0_b) (r_0_p := r125) (n_1 := 2) allB_ok m.given (m.rdM 5 rfl (reads_snap hv2)) h).mono (fun _ _ k => ret_free (fun r u => (fr_cons free_cell fr_nil)) k)) ?_); rintro ⟨r146, r147⟩ _
                refine d_and (fun w m => m.pick [4, 5, 6] rfl) ?_
                refine pk [0, 1, 2, 3, 4, 5, 6] rfl ?_
                refine re (E' := [(4, (.pointer (some ⟨b5, 0, none⟩))), (5, (.pointer (some ⟨b9, 0, none⟩))), (48, (.slice a132 l133 q134)), (52, v142), (54, v145), (56, (.int .i64 r146))]) ⟨rfl, rfl, rfl, rfl, rfl, rfl, trivial⟩ ?_
                exact H759 e140 h141 v142 bb143 bb144 v145 r146 r147
              have H761 : ∀ (e140 : (List GRule)) (h141 : xs16[(0 : Int).toNat]? = some e140) (v142 : Value) (bb143 : List Nat) (bb144 : List Nat) (r162 : Int) (r163 : Int), Nx 80 (gB F [cellCh b1 [v2, (.int .i64 r_0_p)] 96] w0) (feet [cellCh b1 [v2, (.int .i64 r_0_p)] 96]) w0 (wpAnyH Tryd.prog .any (opsAt Tryd.f44 [1, 1, 1, 1, 0, 1, 0, 1, 0, 1, 1, 1, 0]) Qd (Mem (gB F [cellCh b1 [v2, (.int .i64 r_0_p)] 96] w0) (feet [cellCh b1 [v2, (.int .i64 r_0_p)] 96]) w0 [cellCh b9 [(.slice a132 l133 q134), (.bool (decide (r7 = 0)))] 30, cellCh b5 [(.slice none 0 0), (.bool false)] 30, snapCh w0 F]) 8 #[true, true, true, true, true, true, true, false, true, true, false, false, false, false, false, false, false]) [(4, (.pointer (some ⟨b5, 0, none⟩))), (5, (.pointer (some ⟨b9, 0, none⟩))), (48, (.slice a132 l133 q134)), (53, (.int .i64 t13)), (52, v142), (56, (.int .i64 r162))] [cellCh b1 [v2, (.int .i64 r163)] 96, holeCh (dSl dGRule 54) 50 bb143 (.slice a132 l133 q134) xs16 (0 : Int).toNat [v142], dpCh dGRule 54 bb144 v142 e140, cellCh b9 [(.slice a132 l133 q134), (.bool (decide (r7 = 0)))] 30, cellCh b5 [(.slice none 0 0), (.bool false)] 30, snapCh w0 F] (idxW ([0, t13]) r162 (fun e148 => appW e140 ([(GRule.mk ([]) 3 e148)]) (fun _ => idxW xs16 0 (fun e155 => k139 ((xs16.set (0 : Int).toNat (e140 ++ ([(GRule.mk ([]) 3 e148)]))), r163))))) := by
                intro e140 h141 v142 bb143 bb144 r162 r163
                refine d_one (i := 7) rfl (by kernel_rfl) (o_bsl (enc := encInt) (qs := [(0, (.int .i64 0)), (1, (.int .i64 t13))]) (cells := [(.int .i64 0), (.int .i64 t13)]) ([0, t13]) flelInt (by intro ρ h; simp only [List.map_toArray, List.map_cons, List.map_nil, h (.const (.int .i64 0)) _ rfl, h (.tmp 53) _ rfl]) rfl el67 zero3 rfl rfl rfl rfl rfl rfl ?_); intro v164
                refine d_and (fun w m => m.pick [4, 5, 6] rfl) ?_
                refine pk [1, 0, 2, 3, 4, 5, 6] rfl ?_
                refine re (E' := [(4, (.pointer (some ⟨b5, 0, none⟩))), (5, (.pointer (some ⟨b9, 0, none⟩))), (48, (.slice a132 l133 q134)), (52, v142), (54, v164), (56, (.int .i64 r162))]) ⟨rfl, rfl, rfl, rfl, rfl, rfl, trivial⟩ ?_
                exact H759 e140 h141 v142 bb143 bb144 v164 r162 r163
              have H762 : ∀ (e140 : (List GRule)) (h141 : xs16[(0 : Int).toNat]? = some e140) (v142 : Value) (bb143 : List Nat) (bb144 : List Nat), Nx 80 (gB F [cellCh b1 [v2, (.int .i64 r_0_p)] 96] w0) (feet [cellCh b1 [v2, (.int .i64 r_0_p)] 96]) w0 (wpAnyH Tryd.prog .any (opsAt Tryd.f44 [1, 1, 1, 1, 0, 1, 0, 1, 0, 1, 1, 1, 0]) Qd (Mem (gB F [cellCh b1 [v2, (.int .i64 r_0_p)] 96] w0) (feet [cellCh b1 [v2, (.int .i64 r_0_p)] 96]) w0 [cellCh b9 [(.slice a132 l133 q134), (.bool (decide (r7 = 0)))] 30, cellCh b5 [(.slice none 0 0), (.bool false)] 30, snapCh w0 F]) 9 #[true, true, true, true, true, true, true, false, true, false, false, false, false, false, false, false, false]) [(4, (.pointer (some ⟨b5, 0, none⟩))), (5, (.pointer (some ⟨b9, 0, none⟩))), (48, (.slice a132 l133 q134)), (53, (.int .i64 t13)), (55, (.pointer (some ⟨b1, 0, none⟩))), (52, v142)] [holeCh (dSl dGRule 54) 50 bb143 (.slice a132 l133 q134) xs16 (0 : Int).toNat [v142], dpCh dGRule 54 bb144 v142 e140, cellCh b1 [v2, (.int .i64 r125)] 96, cellCh b9 [(.slice a132 l133 q134), (.bool (decide (r7 = 0)))] 30, cellCh b5 [(.slice none 0 0), (.bool false)] 30, snapCh w0 F] (L_spec_l20Rd_pick r_0_b r125 2 (fun (r146, r147) => idxW ([0, t13]) r146 (fun e148 => appW e140 ([(GRule.mk ([]) 3 e148)]) (fun _ => idxW xs16 0 (fun e155 => k139 ((xs16.set (0 : Int).toNat (e140 ++ ([(GRule.mk ([]) 3 e148)]))), r147)))))) := by
                intro e140 h141 v142 bb143 bb144
                refine d_two (i := 7) (j := 9) rfl rfl (by kernel_rfl) ?_ ?_
                · intro o ho; cases ho
                  refine o_bsl (enc := encInt) (qs := [(0, (.int .i64 0)), (1, (.int .i64 t13))]) (cells := [(.int .i64 0), (.int .i64 t13)]) ([0, t13]) flelInt (by intro ρ h; simp only [List.map_toArray, List.map_cons, List.map_nil, h (.const (.int .i64 0)) _ rfl, h (.tmp 53) _ rfl]) rfl el67 zero3 rfl rfl rfl rfl rfl rfl ?_; intro v145
                  refine d_and (fun w m => m.pick [4, 5, 6] rfl) ?_
                  refine pk [0, 1, 2, 3, 4, 5, 6] rfl ?_
                  refine re (E' := [(4, (.pointer (some ⟨b5, 0, none⟩))), (5, (.pointer (some ⟨b9, 0, none⟩))), (48, (.slice a132 l133 q134)), (55, (.pointer (some ⟨b1, 0, none⟩))), (52, v142), (54, v145)]) ⟨rfl, rfl, rfl, rfl, rfl, rfl, trivial⟩ ?_
                  exact H760 e140 h141 v142 bb143 bb144 v145
                · intro o ho; cases ho
                  refine pk [2, 0, 1, 3, 4, 5] rfl ?_
                  refine o_call (vs := [(.pointer (some ⟨b1, 0, none⟩)), (.int .i64 2)]) (M0 := [cellCh b1 [v2, (.int .i64 r125)] 96]) Tryd.call68 rfl rfl (by intro w m h; exact (w_spec_l20Rd_pick (F := allB [cellCh b1 [v2, (.int .i64 r125)] 96] w) (r_0_b := r_0_b) (r_0_p := r125) (n_1 := 2) allB_ok m.given (m.rdM 4 rfl (reads_snap hv2)) h).mono (fun _ _ k => ret_free (fun r u => (fr_cons free_cell fr_nil)) k)) ?_; rintro ⟨r162, r163⟩ _
                  refine d_and (fun w m => m.pick [3, 4, 5] rfl) ?_
                  refine pk [0, 1, 2, 3, 4, 5] rfl ?_
                  refine re (E' := [(4, (.pointer (some ⟨b5, 0, none⟩))), (5, (.pointer (some ⟨b9, 0, none⟩))), (48, (.slice a132 l133 q134)), (53, (.int .i64 t13)), (52, v142), (56, (.int .i64 r162))]) ⟨rfl, rfl, rfl, rfl, rfl, rfl, trivial⟩ ?_
                  exact H761 e140 h141 v142 bb143 bb144 r162 r163
              have H763 : ∀ (e140 : (List GRule)) (h141 : xs16[(0 : Int).toNat]? = some e140) (v165 : Value) (r169 : Int) (r170 : Int) (e174 : Int) (h175 : ([0, t13])[(r169).toNat]? = some e174) (v179 : Value) (bb180 : List Nat) (bb181 : List Nat), Nx 80 (gB F [cellCh b1 [v2, (.int .i64 r_0_p)] 96] w0) (feet [cellCh b1 [v2, (.int .i64 r_0_p)] 96]) w0 (wpAnyH Tryd.prog .any (opsAt Tryd.f44 [1, 1, 1, 1, 0, 1, 0, 1, 0, 1, 1, 1, 0]) Qd (Mem (gB F [cellCh b1 [v2, (.int .i64 r_0_p)] 96] w0) (feet [cellCh b1 [v2, (.int .i64 r_0_p)] 96]) w0 [cellCh b9 [(.slice a132 l133 q134), (.bool (decide (r7 = 0)))] 30, cellCh b5 [(.slice none 0 0), (.bool false)] 30, snapCh w0 F]) 4 #[true, true, true, true, true, true, true, true, true, true, true, true, true, false, false, false, false]) [(4, (.pointer (some ⟨b5, 0, none⟩))), (5, (.pointer (some ⟨b9, 0, none⟩))), (48, (.slice a132 l133 q134)), (59, (.agg #[(.slice none 0 0), (.int .i64 3), (.int .i64 e174)])), (52, v179)] [holeCh (dSl dGRule 54) 50 bb180 (.slice a132 l133 q134) xs16 (0 : Int).toNat [v179], dpCh dGRule 54 bb181 v179 e140, cellCh b1 [v2, (.int .i64 r170)] 96, cellCh b9 [(.slice a132 l133 q134), (.bool (decide (r7 = 0)))] 30, cellCh b5 [(.slice none 0 0), (.bool false)] 30, snapCh w0 F] (appW e140 ([(GRule.mk ([]) 3 e174)]) (fun _ => idxW xs16 0 (fun e155 => k139 ((xs16.set (0 : Int).toNat (e140 ++ ([(GRule.mk ([]) 3 e174)]))), r170)))) := by
                intro e140 h141 v165 r169 r170 e174 h175 v179 bb180 bb181
                refine d_one (i := 13) rfl (by kernel_rfl) (o_bslD (M := []) (E' := dGRule) (qs := [(0, (.agg #[(.slice none 0 0), (.int .i64 3), (.int .i64 e174)]))]) (cs := [(.slice none 0 0), (.int .i64 3), (.int .i64 e174)]) (GRule.mk ([]) 3 e174) (absorb_nil (fun w => ⟨_, rfl, Dp.nil⟩)) (by intro ρ h; simp only [List.map_toArray, List.map_cons, List.map_nil, h (.tmp 59) _ rfl]) rfl el50 zero54 rfl rfl rfl rfl ?_); intro bb183 v182
                refine d_and (fun w m => m.pick [4, 5, 6] rfl) ?_
                refine pk [0, 3, 1, 2, 4, 5, 6] rfl ?_
                refine re (E' := [(4, (.pointer (some ⟨b5, 0, none⟩))), (5, (.pointer (some ⟨b9, 0, none⟩))), (48, (.slice a132 l133 q134)), (52, v179), (60, v182)]) ⟨rfl, rfl, rfl, rfl, rfl, trivial⟩ ?_
                exact H756 e140 h141 v179 bb180 bb181 v165 r169 r170 e174 h175 v182 bb183
              have H764 : ∀ (e140 : (List GRule)) (h141 : xs16[(0 : Int).toNat]? = some e140) (v165 : Value) (r169 : Int) (r170 : Int) (e174 : Int) (h175 : ([0, t13])[(r169).toNat]? = some e174) (v184 : Value) (bb185 : List Nat), Nx 80 (gB F [cellCh b1 [v2, (.int .i64 r_0_p)] 96] w0) (feet [cellCh b1 [v2, (.int .i64 r_0_p)] 96]) w0 (wpAnyH Tryd.prog .any (opsAt Tryd.f44 [1, 1, 1, 1, 0, 1, 0, 1, 0, 1, 1, 1, 0]) Qd (Mem (gB F [cellCh b1 [v2, (.int .i64 r_0_p)] 96] w0) (feet [cellCh b1 [v2, (.int .i64 r_0_p)] 96]) w0 [cellCh b9 [(.slice a132 l133 q134), (.bool (decide (r7 = 0)))] 30, cellCh b5 [(.slice none 0 0), (.bool false)] 30, snapCh w0 F]) 4 #[true, true, true, true, true, false, true, true, true, true, true, true, true, true, false, false, false]) [(4, (.pointer (some ⟨b5, 0, none⟩))), (5, (.pointer (some ⟨b9, 0, none⟩))), (48, (.slice a132 l133 q134)), (51, (pEl (.slice a132 l133 q134) 0 1 0)), (60, v184)] [dpCh dGRule 54 bb185 v184 ([(GRule.mk ([]) 3 e174)]), cellCh b1 [v2, (.int .i64 r170)] 96, cellCh b9 [(.slice a132 l133 q134), (.bool (decide (r7 = 0)))] 30, cellCh b5 [(.slice none 0 0), (.bool false)] 30, snapCh w0 F, dpCh (dSl dGRule 54) 50 bb18 (.slice a132 l133 q134) xs16] (appW e140 ([(GRule.mk ([]) 3 e174)]) (fun _ => idxW xs16 0 (fun e155 => k139 ((xs16.set (0 : Int).toNat (e140 ++ ([(GRule.mk ([]) 3 e174)]))), r170)))) := by
                intro e140 h141 v165 r169 r170 e174 h175 v184 bb185
                refine pk [5, 0, 1, 2, 3, 4] rfl ?_
                refine d_one (i := 5) rfl (by kernel_rfl) (o_ldF (E1 := dGRule) (t1 := 54) (zin := e140) (encz := fun v => [v]) rfl h141 (fun B w cs h => h) rfl rfl ty50 ?_); rintro v186 bb187 bb188; refine ⟨v186, rfl, ?_⟩
                refine d_and (fun w m => m.pick [4, 5, 6] rfl) ?_
                refine pk [2, 3, 0, 1, 4, 5, 6] rfl ?_
                refine re (E' := [(4, (.pointer (some ⟨b5, 0, none⟩))), (5, (.pointer (some ⟨b9, 0, none⟩))), (48, (.slice a132 l133 q134)), (52, v186), (60, v184)]) ⟨rfl, rfl, rfl, rfl, rfl, trivial⟩ ?_
                exact H756 e140 h141 v186 bb187 bb188 v165 r169 r170 e174 h175 v184 bb185
              have H765 : ∀ (e140 : (List GRule)) (h141 : xs16[(0 : Int).toNat]? = some e140) (v165 : Value) (r169 : Int) (r170 : Int) (e174 : Int) (h175 : ([0, t13])[(r169).toNat]? = some e174), Nx 80 (gB F [cellCh b1 [v2, (.int .i64 r_0_p)] 96] w0) (feet [cellCh b1 [v2, (.int .i64 r_0_p)] 96]) w0 (wpAnyH Tryd.prog .any (opsAt Tryd.f44 [1, 1, 1, 1, 0, 1, 0, 1, 0, 1, 1, 1, 0]) Qd (Mem (gB F [cellCh b1 [v2, (.int .i64 r_0_p)] 96] w0) (feet [cellCh b1 [v2, (.int .i64 r_0_p)] 96]) w0 [cellCh b9 [(.slice a132 l133 q134), (.bool (decide (r7 = 0)))] 30, cellCh b5 [(.slice none 0 0), (.bool false)] 30, snapCh w0 F]) 6 #[true, true, true, true, true, false, true, true, true, true, true, true, false, false, false, false, false]) [(4, (.pointer (some ⟨b5, 0, none⟩))), (5, (.pointer (some ⟨b9, 0, none⟩))), (48, (.slice a132 l133 q134)), (51, (pEl (.slice a132 l133 q134) 0 1 0)), (58, (.int .i64 e174))] [cellCh b1 [v2, (.int .i64 r170)] 96, cellCh b9 [(.slice a132 l133 q134), (.bool (decide (r7 = 0)))] 30, cellCh b5 [(.slice none 0 0), (.bool false)] 30, snapCh w0 F, dpCh (dSl dGRule 54) 50 bb18 (.slice a132 l133 q134) xs16] (appW e140 ([(GRule.mk ([]) 3 e174)]) (fun _ => idxW xs16 0 (fun e155 => k139 ((xs16.set (0 : Int).toNat (e140 ++ ([(GRule.mk ([]) 3 e174)]))), r170)))) := by
                intro e140 h141 v165 r169 r170 e174 h175
                refine o_bld (dt 12 (fun w m => m.pick [1, 2, 3] rfl)) (qs := [(1, (.int .i64 3)), (2, (.int .i64 e174))]) (cells := [(.slice none 0 0), (.int .i64 3), (.int .i64 e174)]) (by intro ρ h; simp only [List.map_toArray, List.map_cons, List.map_nil, h (.const (.int .i64 3)) _ rfl, h (.tmp 58) _ rfl]) rfl bld54 rfl ?_
                refine d_two (i := 5) (j := 13) rfl rfl (by kernel_rfl) ?_ ?_
                · intro o ho; cases ho
                  refine pk [4, 0, 1, 2, 3] rfl ?_
                  refine o_ldF (E1 := dGRule) (t1 := 54) (zin := e140) (encz := fun v => [v]) rfl h141 (fun B w cs h => h) rfl rfl ty50 ?_; rintro v179 bb180 bb181; refine ⟨v179, rfl, ?_⟩
                  refine d_and (fun w m => m.pick [3, 4, 5] rfl) ?_
                  refine pk [0, 1, 2, 3, 4, 5] rfl ?_
                  refine re (E' := [(4, (.pointer (some ⟨b5, 0, none⟩))), (5, (.pointer (some ⟨b9, 0, none⟩))), (48, (.slice a132 l133 q134)), (59, (.agg #[(.slice none 0 0), (.int .i64 3), (.int .i64 e174)])), (52, v179)]) ⟨rfl, rfl, rfl, rfl, rfl, trivial⟩ ?_
                  exact H763 e140 h141 v165 r169 r170 e174 h175 v179 bb180 bb181
                · intro o ho; cases ho
                  refine o_bslD (M := []) (E' := dGRule) (qs := [(0, (.agg #[(.slice none 0 0), (.int .i64 3), (.int .i64 e174)]))]) (cs := [(.slice none 0 0), (.int .i64 3), (.int .i64 e174)]) (GRule.mk ([]) 3 e174) (absorb_nil (fun w => ⟨_, rfl, Dp.nil⟩)) (by intro ρ h; simp only [List.map_toArray, List.map_cons, List.map_nil, h (.tmp 59) _ rfl]) rfl el50 zero54 rfl rfl rfl rfl ?_; intro bb185 v184
                  refine d_and (fun w m => m.pick [2, 3, 4] rfl) ?_
                  refine pk [0, 1, 2, 3, 4, 5] rfl ?_
                  refine re (E' := [(4, (.pointer (some ⟨b5, 0, none⟩))), (5, (.pointer (some ⟨b9, 0, none⟩))), (48, (.slice a132 l133 q134)), (51, (pEl (.slice a132 l133 q134) 0 1 0)), (60, v184)]) ⟨rfl, rfl, rfl, rfl, rfl, trivial⟩ ?_
                  exact H764 e140 h141 v165 r169 r170 e174 h175 v184 bb185
              have H766 : ∀ (e140 : (List GRule)) (h141 : xs16[(0 : Int).toNat]? = some e140) (v165 : Value) (r169 : Int) (r170 : Int) (e174 : Int) (h175 : ([0, t13])[(r169).toNat]? = some e174), Nx 80 (gB F [cellCh b1 [v2, (.int .i64 r_0_p)] 96] w0) (feet [cellCh b1 [v2, (.int .i64 r_0_p)] 96]) w0 (wpAnyH Tryd.prog .any (opsAt Tryd.f44 [1, 1, 1, 1, 0, 1, 0, 1, 0, 1, 1, 1, 0]) Qd (Mem (gB F [cellCh b1 [v2, (.int .i64 r_0_p)] 96] w0) (feet [cellCh b1 [v2, (.int .i64 r_0_p)] 96]) w0 [cellCh b9 [(.slice a132 l133 q134), (.bool (decide (r7 = 0)))] 30, cellCh b5 [(.slice none 0 0), (.bool false)] 30, snapCh w0 F]) 7 #[true, true, true, true, true, false, true, true, true, true, true, false, false, false, false, false, false]) [(4, (.pointer (some ⟨b5, 0, none⟩))), (5, (.pointer (some ⟨b9, 0, none⟩))), (48, (.slice a132 l133 q134)), (51, (pEl (.slice a132 l133 q134) 0 1 0)), (57, (pEl v165 r169 1 0))] [cellCh b1 [v2, (.int .i64 r170)] 96, ownCh elInt 3 v165 ([0, t13]), cellCh b9 [(.slice a132 l133 q134), (.bool (decide (r7 = 0)))] 30, cellCh b5 [(.slice none 0 0), (.bool false)] 30, snapCh w0 F, dpCh (dSl dGRule 54) 50 bb18 (.slice a132 l133 q134) xs16] (appW e140 ([(GRule.mk ([]) 3 e174)]) (fun _ => idxW xs16 0 (fun e155 => k139 ((xs16.set (0 : Int).toNat (e140 ++ ([(GRule.mk ([]) 3 e174)]))), r170)))) := by
                intro e140 h141 v165 r169 r170 e174 h175
                refine d_two (i := 5) (j := 11) rfl rfl (by kernel_rfl) ?_ ?_
                · intro o ho; cases ho
                  refine pk [5, 0, 1, 2, 3, 4] rfl ?_
                  refine o_ldF (E1 := dGRule) (t1 := 54) (zin := e140) (encz := fun v => [v]) rfl h141 (fun B w cs h => h) rfl rfl ty50 ?_; rintro v176 bb177 bb178; refine ⟨v176, rfl, ?_⟩
                  refine d_and (fun w m => m.pick [4, 5, 6] rfl) ?_
                  refine pk [2, 3, 0, 1, 4, 5, 6] rfl ?_
                  refine re (E' := [(4, (.pointer (some ⟨b5, 0, none⟩))), (5, (.pointer (some ⟨b9, 0, none⟩))), (48, (.slice a132 l133 q134)), (52, v176), (57, (pEl v165 r169 1 0))]) ⟨rfl, rfl, rfl, rfl, rfl, trivial⟩ ?_
                  exact H758 e140 h141 v176 bb177 bb178 v165 r169 r170 e174 h175
                · intro o ho; cases ho
                  refine o_lds m_op (enc := encInt) (u := (.int .i64 e174)) 1 rfl reads_own flelInt rfl h175 rfl rfl ty3 rfl ?_
                  refine d_and (fun w m => m.pick [2, 3, 4] rfl) ?_
                  refine pk [0, 2, 3, 4, 5] rfl ?_
                  refine re (E' := [(4, (.pointer (some ⟨b5, 0, none⟩))), (5, (.pointer (some ⟨b9, 0, none⟩))), (48, (.slice a132 l133 q134)), (51, (pEl (.slice a132 l133 q134) 0 1 0)), (58, (.int .i64 e174))]) ⟨rfl, rfl, rfl, rfl, rfl, trivial⟩ ?_
                  exact H765 e140 h141 v165 r169 r170 e174 h175
              have H767 : ∀ (e140 : (List GRule)) (h141 : xs16[(0 : Int).toNat]? = some e140) (v165 : Value) (r169 : Int) (r170 : Int), Nx 80 (gB F [cellCh b1 [v2, (.int .i64 r_0_p)] 96] w0) (feet [cellCh b1 [v2, (.int .i64 r_0_p)] 96]) w0 (wpAnyH Tryd.prog .any (opsAt Tryd.f44 [1, 1, 1, 1, 0, 1, 0, 1, 0, 1, 1, 1, 0]) Qd (Mem (gB F [cellCh b1 [v2, (.int .i64 r_0_p)] 96] w0) (feet [cellCh b1 [v2, (.int .i64 r_0_p)] 96]) w0 [cellCh b9 [(.slice a132 l133 q134), (.bool (decide (r7 = 0)))] 30, cellCh b5 [(.slice none 0 0), (.bool false)] 30, snapCh w0 F]) 8 #[true, true, true, true, true, false, true, true, true, true, false, false, false, false, false, false, false]) [(4, (.pointer (some ⟨b5, 0, none⟩))), (5, (.pointer (some ⟨b9, 0, none⟩))), (48, (.slice a132 l133 q134)), (51, (pEl (.slice a132 l133 q134) 0 1 0)), (54, v165), (56, (.int .i64 r169))] [cellCh b1 [v2, (.int .i64 r170)] 96, ownCh elInt 3 v165 ([0, t13]), cellCh b9 [(.slice a132 l133 q134), (.bool (decide (r7 = 0)))] 30, cellCh b5 [(.slice none 0 0), (.bool false)] 30, snapCh w0 F, dpCh (dSl dGRule 54) 50 bb18 (.slice a132 l133 q134) xs16] (idxW ([0, t13]) r169 (fun e148 => appW e140 ([(GRule.mk ([]) 3 e148)]) (fun _ => idxW xs16 0 (fun e155 => k139 ((xs16.set (0 : Int).toNat (e140 ++ ([(GRule.mk ([]) 3 e148)]))), r170))))) := by
                intro e140 h141 v165 r169 r170
                refine d_two (i := 5) (j := 10) rfl rfl (by kernel_rfl) ?_ ?_
                · intro o ho; cases ho
                  refine pk [5, 0, 1, 2, 3, 4] rfl ?_
                  refine o_ldF (E1 := dGRule) (t1 := 54) (zin := e140) (encz := fun v => [v]) rfl h141 (fun B w cs h => h) rfl rfl ty50 ?_; rintro v171 bb172 bb173; refine ⟨v171, rfl, ?_⟩
                  refine d_and (fun w m => m.pick [4, 5, 6] rfl) ?_
                  refine pk [2, 3, 0, 1, 4, 5, 6] rfl ?_
                  refine re (E' := [(4, (.pointer (some ⟨b5, 0, none⟩))), (5, (.pointer (some ⟨b9, 0, none⟩))), (48, (.slice a132 l133 q134)), (52, v171), (54, v165), (56, (.int .i64 r169))]) ⟨rfl, rfl, rfl, rfl, rfl, rfl, trivial⟩ ?_
                  exact H759 e140 h141 v171 bb172 bb173 v165 r169 r170
                · intro o ho; cases ho
                  refine o_idx m_op 1 rfl reads_own rfl rfl rfl el67 ?_; intro e174 h175
                  refine d_and (fun w m => m.pick [2, 3, 4] rfl) ?_
                  refine pk [0, 1, 2, 3, 4, 5] rfl ?_
                  refine re (E' := [(4, (.pointer (some ⟨b5, 0, none⟩))), (5, (.pointer (some ⟨b9, 0, none⟩))), (48, (.slice a132 l133 q134)), (51, (pEl (.slice a132 l133 q134) 0 1 0)), (57, (pEl v165 r169 1 0))]) ⟨rfl, rfl, rfl, rfl, rfl, trivial⟩ ?_
                  exact H766 e140 h141 v165 r169 r170 e174 h175
              have H768 : ∀ (e140 : (List GRule)) (h141 : xs16[(0 : Int).toNat]? = some e140) (v165 : Value), Nx 80 (gB F [cellCh b1 [v2, (.int .i64 r_0_p)] 96] w0) (feet [cellCh b1 [v2, (.int .i64 r_0_p)] 96]) w0 (wpAnyH Tryd.prog .any (opsAt Tryd.f44 [1, 1, 1, 1, 0, 1, 0, 1, 0, 1, 1, 1, 0]) Qd (Mem (gB F [cellCh b1 [v2, (.int .i64 r_0_p)] 96] w0) (feet [cellCh b1 [v2, (.int .i64 r_0_p)] 96]) w0 [cellCh b9 [(.slice a132 l133 q134), (.bool (decide (r7 = 0)))] 30, cellCh b5 [(.slice none 0 0), (.bool false)] 30, snapCh w0 F]) 9 #[true, true, true, true, true, false, true, true, true, false, false, false, false, false, false, false, false]) [(4, (.pointer (some ⟨b5, 0, none⟩))), (5, (.pointer (some ⟨b9, 0, none⟩))), (48, (.slice a132 l133 q134)), (55, (.pointer (some ⟨b1, 0, none⟩))), (51, (pEl (.slice a132 l133 q134) 0 1 0)), (54, v165)] [ownCh elInt 3 v165 ([0, t13]), cellCh b1 [v2, (.int .i64 r125)] 96, cellCh b9 [(.slice a132 l133 q134), (.bool (decide (r7 = 0)))] 30, cellCh b5 [(.slice none 0 0), (.bool false)] 30, snapCh w0 F, dpCh (dSl dGRule 54) 50 bb18 (.slice a132 l133 q134) xs16] (L_spec_l20Rd_pick r_0_b r125 2 (fun (r146, r147) => idxW ([0, t13]) r146 (fun e148 => appW e140 ([(GRule.mk ([]) 3 e148)]) (fun _ => idxW xs16 0 (fun e155 => k139 ((xs16.set (0 : Int).toNat (e140 ++ ([(GRule.mk ([]) 3 e148)]))), r147)))))) := by
                intro e140 h141 v165
                refine d_two (i := 5) (j := 9) rfl rfl (by kernel_rfl) ?_ ?_
                · intro o ho; cases ho
                  refine pk [5, 0, 1, 2, 3, 4] rfl ?_
                  refine o_ldF (E1 := dGRule) (t1 := 54) (zin := e140) (encz := fun v => [v]) rfl h141 (fun B w cs h => h) rfl rfl ty50 ?_; rintro v166 bb167 bb168; refine ⟨v166, rfl, ?_⟩
                  refine d_and (fun w m => m.pick [4, 5, 6] rfl) ?_
                  refine pk [2, 0, 1, 3, 4, 5, 6] rfl ?_
                  refine re (E' := [(4, (.pointer (some ⟨b5, 0, none⟩))), (5, (.pointer (some ⟨b9, 0, none⟩))), (48, (.slice a132 l133 q134)), (55, (.pointer (some ⟨b1, 0, none⟩))), (52, v166), (54, v165)]) ⟨rfl, rfl, rfl, rfl, rfl, rfl, trivial⟩ ?_
                  exact H760 e140 h141 v166 bb167 bb168 v165
                · intro o ho; cases ho
                  refine pk [1, 0, 2, 3, 4, 5] rfl ?_
                  refine o_call (vs := [(.pointer (some ⟨b1, 0, none⟩)), (.int .i64 2)]) (M0 := [cellCh b1 [v2, (.int .i64 r125)] 96]) Tryd.call68 rfl rfl (by intro w m h; exact (w_spec_l20Rd_pick (F := allB [cellCh b1 [v2, (.int .i64 r125)] 96] w) (r_0_b := r_0_b) (r_0_p := r125) (n_1 := 2) allB_ok m.given (m.rdM 3 rfl (reads_snap hv2)) h).mono (fun _ _ k => ret_free (fun r u => (fr_cons free_cell fr_nil)) k)) ?_; rintro ⟨r169, r170⟩ _
                  refine d_and (fun w m => m.pick [2, 3, 4] rfl) ?_
                  refine pk [0, 1, 2, 3, 4, 5] rfl ?_
                  refine re (E' := [(4, (.pointer (some ⟨b5, 0, none⟩))), (5, (.pointer (some ⟨b9, 0, none⟩))), (48, (.slice a132 l133 q134)), (51, (pEl (.slice a132 l133 q134) 0 1 0)), (54, v165), (56, (.int .i64 r169))]) ⟨rfl, rfl, rfl, rfl, rfl, rfl, trivial⟩ ?_
                  exact H767 e140 h141 v165 r169 r170
              have H769 : ∀ (e140 : (List GRule)) (h141 : xs16[(0 : Int).toNat]? = some e140) (r189 : Int) (r190 : Int), Nx 80 (gB F [cellCh b1 [v2, (.int .i64 r_0_p)] 96] w0) (feet [cellCh b1 [v2, (.int .i64 r_0_p)] 96]) w0 (wpAnyH Tryd.prog .any (opsAt Tryd.f44 [1, 1, 1, 1, 0, 1, 0, 1, 0, 1, 1, 1, 0]) Qd (Mem (gB F [cellCh b1 [v2, (.int .i64 r_0_p)] 96] w0) (feet [cellCh b1 [v2, (.int .i64 r_0_p)] 96]) w0 [cellCh b9 [(.slice a132 l133 q134), (.bool (decide (r7 = 0)))] 30, cellCh b5 [(.slice none 0 0), (.bool false)] 30, snapCh w0 F]) 9 #[true, true, true, true, true, false, true, false, true, true, false, false, false, false, false, false, false]) [(4, (.pointer (some ⟨b5, 0, none⟩))), (5, (.pointer (some ⟨b9, 0, none⟩))), (48, (.slice a132 l133 q134)), (53, (.int .i64 t13)), (51, (pEl (.slice a132 l133 q134) 0 1 0)), (56, (.int .i64 r189))] [cellCh b1 [v2, (.int .i64 r190)] 96, cellCh b9 [(.slice a132 l133 q134), (.bool (decide (r7 = 0)))] 30, cellCh b5 [(.slice none 0 0), (.bool false)] 30, snapCh w0 F, dpCh (dSl dGRule 54) 50 bb18 (.slice a132 l133 q134) xs16] (idxW ([0, t13]) r189 (fun e148 => appW e140 ([(GRule.mk ([]) 3 e148)]) (fun _ => idxW xs16 0 (fun e155 => k139 ((xs16.set (0 : Int).toNat (e140 ++ ([(GRule.mk ([]) 3 e148)]))), r190))))) := by
                intro e140 h141 r189 r190
                refine d_two (i := 5) (j := 7) rfl rfl (by kernel_rfl) ?_ ?_
                · intro o ho; cases ho
                  refine pk [4, 0, 1, 2, 3] rfl ?_
                  refine o_ldF (E1 := dGRule) (t1 := 54) (zin := e140) (encz := fun v => [v]) rfl h141 (fun B w cs h => h) rfl rfl ty50 ?_; rintro v191 bb192 bb193; refine ⟨v191, rfl, ?_⟩
                  refine d_and (fun w m => m.pick [3, 4, 5] rfl) ?_
                  refine pk [2, 0, 1, 3, 4, 5] rfl ?_
                  refine re (E' := [(4, (.pointer (some ⟨b5, 0, none⟩))), (5, (.pointer (some ⟨b9, 0, none⟩))), (48, (.slice a132 l133 q134)), (53, (.int .i64 t13)), (52, v191), (56, (.int .i64 r189))]) ⟨rfl, rfl, rfl, rfl, rfl, rfl, trivial⟩ ?_
                  exact H761 e140 h141 v191 bb192 bb193 r189 r190
                · intro o ho; cases ho
                  refine o_bsl (enc := encInt) (qs := [(0, (.int .i64 0)), (1, (.int .i64 t13))]) (cells := [(.int .i64 0), (.int .i64 t13)]) ([0, t13]) flelInt (by intro ρ h; simp only [List.map_toArray, List.map_cons, List.map_nil, h (.const (.int .i64 0)) _ rfl, h (.tmp 53) _ rfl]) rfl el67 zero3 rfl rfl rfl rfl rfl rfl ?_; intro v194
                  refine d_and (fun w m => m.pick [2, 3, 4] rfl) ?_
                  refine pk [1, 0, 2, 3, 4, 5] rfl ?_
                  refine re (E' := [(4, (.pointer (some ⟨b5, 0, none⟩))), (5, (.pointer (some ⟨b9, 0, none⟩))), (48, (.slice a132 l133 q134)), (51, (pEl (.slice a132 l133 q134) 0 1 0)), (54, v194), (56, (.int .i64 r189))]) ⟨rfl, rfl, rfl, rfl, rfl, rfl, trivial⟩ ?_
                  exact H767 e140 h141 v194 r189 r190
              have H770 : ∀ (e140 : (List GRule)) (h141 : xs16[(0 : Int).toNat]? = some e140), Nx 80 (gB F [cellCh b1 [v2, (.int .i64 r_0_p)] 96] w0) (feet [cellCh b1 [v2, (.int .i64 r_0_p)] 96]) w0 (wpAnyH Tryd.prog .any (opsAt Tryd.f44 [1, 1, 1, 1, 0, 1, 0, 1, 0, 1, 1, 1, 0]) Qd (Mem (gB F [cellCh b1 [v2, (.int .i64 r_0_p)] 96] w0) (feet [cellCh b1 [v2, (.int .i64 r_0_p)] 96]) w0 [cellCh b9 [(.slice a132 l133 q134), (.bool (decide (r7 = 0)))] 30, cellCh b5 [(.slice none 0 0), (.bool false)] 30, snapCh w0 F]) 10 #[true, true, true, true, true, false, true, false, true, false, false, false, false, false, false, false, false]) [(4, (.pointer (some ⟨b5, 0, none⟩))), (5, (.pointer (some ⟨b9, 0, none⟩))), (48, (.slice a132 l133 q134)), (53, (.int .i64 t13)), (55, (.pointer (some ⟨b1, 0, none⟩))), (51, (pEl (.slice a132 l133 q134) 0 1 0))] [cellCh b1 [v2, (.int .i64 r125)] 96, cellCh b9 [(.slice a132 l133 q134), (.bool (decide (r7 = 0)))] 30, cellCh b5 [(.slice none 0 0), (.bool false)] 30, snapCh w0 F, dpCh (dSl dGRule 54) 50 bb18 (.slice a132 l133 q134) xs16] (L_spec_l20Rd_pick r_0_b r125 2 (fun (r146, r147) => idxW ([0, t13]) r146 (fun e148 => appW e140 ([(GRule.mk ([]) 3 e148)]) (fun _ => idxW xs16 0 (fun e155 => k139 ((xs16.set (0 : Int).toNat (e140 ++ ([(GRule.mk ([]) 3 e148)]))), r147)))))) := by
                intro e140 h141
                refine d_three (i := 5) (j := 7) (l := 9) rfl rfl rfl (by kernel_rfl) ?_ ?_ ?_
                · intro o ho; cases ho
                  refine pk [4, 0, 1, 2, 3] rfl ?_
                  refine o_ldF (E1 := dGRule) (t1 := 54) (zin := e140) (encz := fun v => [v]) rfl h141 (fun B w cs h => h) rfl rfl ty50 ?_; rintro v142 bb143 bb144; refine ⟨v142, rfl, ?_⟩
                  refine d_and (fun w m => m.pick [3, 4, 5] rfl) ?_
                  refine pk [0, 1, 2, 3, 4, 5] rfl ?_
                  refine re (E' := [(4, (.pointer (some ⟨b5, 0, none⟩))), (5, (.pointer (some ⟨b9, 0, none⟩))), (48, (.slice a132 l133 q134)), (53, (.int .i64 t13)), (55, (.pointer (some ⟨b1, 0, none⟩))), (52, v142)]) ⟨rfl, rfl, rfl, rfl, rfl, rfl, trivial⟩ ?_
                  exact H762 e140 h141 v142 bb143 bb144
                · intro o ho; cases ho
                  refine o_bsl (enc := encInt) (qs := [(0, (.int .i64 0)), (1, (.int .i64 t13))]) (cells := [(.int .i64 0), (.int .i64 t13)]) ([0, t13]) flelInt (by intro ρ h; simp only [List.map_toArray, List.map_cons, List.map_nil, h (.const (.int .i64 0)) _ rfl, h (.tmp 53) _ rfl]) rfl el67 zero3 rfl rfl rfl rfl rfl rfl ?_; intro v165
                  refine d_and (fun w m => m.pick [2, 3, 4] rfl) ?_
                  refine pk [0, 1, 2, 3, 4, 5] rfl ?_
                  refine re (E' := [(4, (.pointer (some ⟨b5, 0, none⟩))), (5, (.pointer (some ⟨b9, 0, none⟩))), (48, (.slice a132 l133 q134)), (55, (.pointer (some ⟨b1, 0, none⟩))), (51, (pEl (.slice a132 l133 q134) 0 1 0)), (54, v165)]) ⟨rfl, rfl, rfl, rfl, rfl, rfl, trivial⟩ ?_
                  exact H768 e140 h141 v165
                · intro o ho; cases ho
                  refine o_call (vs := [(.pointer (some ⟨b1, 0, none⟩)), (.int .i64 2)]) (M0 := [cellCh b1 [v2, (.int .i64 r125)] 96]) Tryd.call68 rfl rfl (by intro w m h; exact (w_spec_l20Rd_pick (F := allB [cellCh b1 [v2, (.int .i64 r125)] 96] w) (r_0_b := r_0_b) (r_0_p := r125) (n_1 := 2) allB_ok m.given (m.rdM 2 rfl (reads_snap hv2)) h).mono (fun _ _ k => ret_free (fun r u => (fr_cons free_cell fr_nil)) k)) ?_; rintro ⟨r189, r190⟩ _
                  refine d_and (fun w m => m.pick [1, 2, 3] rfl) ?_
                  refine pk [0, 1, 2, 3, 4] rfl ?_
                  refine re (E' := [(4, (.pointer (some ⟨b5, 0, none⟩))), (5, (.pointer (some ⟨b9, 0, none⟩))), (48, (.slice a132 l133 q134)), (53, (.int .i64 t13)), (51, (pEl (.slice a132 l133 q134) 0 1 0)), (56, (.int .i64 r189))]) ⟨rfl, rfl, rfl, rfl, rfl, rfl, trivial⟩ ?_
                  exact H769 e140 h141 r189 r190
              have H771 : ∀ (v195 : Value) (r198 : Int) (r199 : Int) (e202 : Int) (h203 : ([0, t13])[(r198).toNat]? = some e202) (e206 : (List GRule)) (h207 : xs16[(0 : Int).toNat]? = some e206), Nx 80 (gB F [cellCh b1 [v2, (.int .i64 r_0_p)] 96] w0) (feet [cellCh b1 [v2, (.int .i64 r_0_p)] 96]) w0 (wpAnyH Tryd.prog .any (opsAt Tryd.f44 [1, 1, 1, 1, 0, 1, 0, 1, 0, 1, 1, 1, 0]) Qd (Mem (gB F [cellCh b1 [v2, (.int .i64 r_0_p)] 96] w0) (feet [cellCh b1 [v2, (.int .i64 r_0_p)] 96]) w0 [cellCh b9 [(.slice a132 l133 q134), (.bool (decide (r7 = 0)))] 30, cellCh b5 [(.slice none 0 0), (.bool false)] 30, snapCh w0 F]) 5 #[true, true, true, true, true, false, true, true, true, true, true, true, true, false, false, false, false]) [(4, (.pointer (some ⟨b5, 0, none⟩))), (5, (.pointer (some ⟨b9, 0, none⟩))), (48, (.slice a132 l133 q134)), (59, (.agg #[(.slice none 0 0), (.int .i64 3), (.int .i64 e202)])), (51, (pEl (.slice a132 l133 q134) 0 1 0))] [cellCh b1 [v2, (.int .i64 r199)] 96, cellCh b9 [(.slice a132 l133 q134), (.bool (decide (r7 = 0)))] 30, cellCh b5 [(.slice none 0 0), (.bool false)] 30, snapCh w0 F, dpCh (dSl dGRule 54) 50 bb18 (.slice a132 l133 q134) xs16] (appW e206 ([(GRule.mk ([]) 3 e202)]) (fun _ => idxW xs16 0 (fun e155 => k139 ((xs16.set (0 : Int).toNat (e206 ++ ([(GRule.mk ([]) 3 e202)]))), r199)))) := by
                intro v195 r198 r199 e202 h203 e206 h207
                refine d_two (i := 5) (j := 13) rfl rfl (by kernel_rfl) ?_ ?_
                · intro o ho; cases ho
                  refine pk [4, 0, 1, 2, 3] rfl ?_
                  refine o_ldF (E1 := dGRule) (t1 := 54) (zin := e206) (encz := fun v => [v]) rfl h207 (fun B w cs h => h) rfl rfl ty50 ?_; rintro v208 bb209 bb210; refine ⟨v208, rfl, ?_⟩
                  refine d_and (fun w m => m.pick [3, 4, 5] rfl) ?_
                  refine pk [0, 1, 2, 3, 4, 5] rfl ?_
                  refine re (E' := [(4, (.pointer (some ⟨b5, 0, none⟩))), (5, (.pointer (some ⟨b9, 0, none⟩))), (48, (.slice a132 l133 q134)), (59, (.agg #[(.slice none 0 0), (.int .i64 3), (.int .i64 e202)])), (52, v208)]) ⟨rfl, rfl, rfl, rfl, rfl, trivial⟩ ?_
                  exact H763 e206 h207 v195 r198 r199 e202 h203 v208 bb209 bb210
                · intro o ho; cases ho
                  refine o_bslD (M := []) (E' := dGRule) (qs := [(0, (.agg #[(.slice none 0 0), (.int .i64 3), (.int .i64 e202)]))]) (cs := [(.slice none 0 0), (.int .i64 3), (.int .i64 e202)]) (GRule.mk ([]) 3 e202) (absorb_nil (fun w => ⟨_, rfl, Dp.nil⟩)) (by intro ρ h; simp only [List.map_toArray, List.map_cons, List.map_nil, h (.tmp 59) _ rfl]) rfl el50 zero54 rfl rfl rfl rfl ?_; intro bb212 v211
                  refine d_and (fun w m => m.pick [2, 3, 4] rfl) ?_
                  refine pk [0, 1, 2, 3, 4, 5] rfl ?_
                  refine re (E' := [(4, (.pointer (some ⟨b5, 0, none⟩))), (5, (.pointer (some ⟨b9, 0, none⟩))), (48, (.slice a132 l133 q134)), (51, (pEl (.slice a132 l133 q134) 0 1 0)), (60, v211)]) ⟨rfl, rfl, rfl, rfl, rfl, trivial⟩ ?_
                  exact H764 e206 h207 v195 r198 r199 e202 h203 v211 bb212
              have H772 : ∀ (v195 : Value) (r198 : Int) (r199 : Int) (e202 : Int) (h203 : ([0, t13])[(r198).toNat]? = some e202) (v213 : Value) (bb214 : List Nat), Nx 80 (gB F [cellCh b1 [v2, (.int .i64 r_0_p)] 96] w0) (feet [cellCh b1 [v2, (.int .i64 r_0_p)] 96]) w0 (wpAnyH Tryd.prog .any (opsAt Tryd.f44 [1, 1, 1, 1, 0, 1, 0, 1, 0, 1, 1, 1, 0]) Qd (Mem (gB F [cellCh b1 [v2, (.int .i64 r_0_p)] 96] w0) (feet [cellCh b1 [v2, (.int .i64 r_0_p)] 96]) w0 [cellCh b9 [(.slice a132 l133 q134), (.bool (decide (r7 = 0)))] 30, cellCh b5 [(.slice none 0 0), (.bool false)] 30, snapCh w0 F]) 5 #[true, true, true, true, false, false, true, true, true, true, true, true, true, true, false, false, false]) [(4, (.pointer (some ⟨b5, 0, none⟩))), (5, (.pointer (some ⟨b9, 0, none⟩))), (48, (.slice a132 l133 q134)), (50, (.slice a132 l133 q134)), (60, v213)] [dpCh dGRule 54 bb214 v213 ([(GRule.mk ([]) 3 e202)]), cellCh b1 [v2, (.int .i64 r199)] 96, cellCh b9 [(.slice a132 l133 q134), (.bool (decide (r7 = 0)))] 30, cellCh b5 [(.slice none 0 0), (.bool false)] 30, snapCh w0 F, dpCh (dSl dGRule 54) 50 bb18 (.slice a132 l133 q134) xs16] (idxW xs16 0 (fun e215 => appW e215 ([(GRule.mk ([]) 3 e202)]) (fun _ => idxW xs16 0 (fun e155 => k139 ((xs16.set (0 : Int).toNat (e215 ++ ([(GRule.mk ([]) 3 e202)]))), r199))))) := by
                intro v195 r198 r199 e202 h203 v213 bb214
                refine d_one (i := 4) rfl (by kernel_rfl) (o_idx m_op 5 rfl reads_dp rfl rfl rfl el28 ?_); intro e215 h216
                refine d_and (fun w m => m.pick [2, 3, 4] rfl) ?_
                refine pk [0, 1, 2, 3, 4, 5] rfl ?_
                refine re (E' := [(4, (.pointer (some ⟨b5, 0, none⟩))), (5, (.pointer (some ⟨b9, 0, none⟩))), (48, (.slice a132 l133 q134)), (51, (pEl (.slice a132 l133 q134) 0 1 0)), (60, v213)]) ⟨rfl, rfl, rfl, rfl, rfl, trivial⟩ ?_
                exact H764 e215 h216 v195 r198 r199 e202 h203 v213 bb214
              have H773 : ∀ (v195 : Value) (r198 : Int) (r199 : Int) (e202 : Int) (h203 : ([0, t13])[(r198).toNat]? = some e202), Nx 80 (gB F [cellCh b1 [v2, (.int .i64 r_0_p)] 96] w0) (feet [cellCh b1 [v2, (.int .i64 r_0_p)] 96]) w0 (wpAnyH Tryd.prog .any (opsAt Tryd.f44 [1, 1, 1, 1, 0, 1, 0, 1, 0, 1, 1, 1, 0]) Qd (Mem (gB F [cellCh b1 [v2, (.int .i64 r_0_p)] 96] w0) (feet [cellCh b1 [v2, (.int .i64 r_0_p)] 96]) w0 [cellCh b9 [(.slice a132 l133 q134), (.bool (decide (r7 = 0)))] 30, cellCh b5 [(.slice none 0 0), (.bool false)] 30, snapCh w0 F]) 7 #[true, true, true, true, false, false, true, true, true, true, true, true, false, false, false, false, false]) [(4, (.pointer (some ⟨b5, 0, none⟩))), (5, (.pointer (some ⟨b9, 0, none⟩))), (48, (.slice a132 l133 q134)), (50, (.slice a132 l133 q134)), (58, (.int .i64 e202))] [cellCh b1 [v2, (.int .i64 r199)] 96, cellCh b9 [(.slice a132 l133 q134), (.bool (decide (r7 = 0)))] 30, cellCh b5 [(.slice none 0 0), (.bool false)] 30, snapCh w0 F, dpCh (dSl dGRule 54) 50 bb18 (.slice a132 l133 q134) xs16] (idxW xs16 0 (fun e206 => appW e206 ([(GRule.mk ([]) 3 e202)]) (fun _ => idxW xs16 0 (fun e155 => k139 ((xs16.set (0 : Int).toNat (e206 ++ ([(GRule.mk ([]) 3 e202)]))), r199))))) := by
                intro v195 r198 r199 e202 h203
                refine o_bld (dt 12 (fun w m => m.pick [1, 2, 3] rfl)) (qs := [(1, (.int .i64 3)), (2, (.int .i64 e202))]) (cells := [(.slice none 0 0), (.int .i64 3), (.int .i64 e202)]) (by intro ρ h; simp only [List.map_toArray, List.map_cons, List.map_nil, h (.const (.int .i64 3)) _ rfl, h (.tmp 58) _ rfl]) rfl bld54 rfl ?_
                refine d_two (i := 4) (j := 13) rfl rfl (by kernel_rfl) ?_ ?_
                · intro o ho; cases ho
                  refine o_idx m_op 4 rfl reads_dp rfl rfl rfl el28 ?_; intro e206 h207
                  refine d_and (fun w m => m.pick [1, 2, 3] rfl) ?_
                  refine pk [0, 1, 2, 3, 4] rfl ?_
                  refine re (E' := [(4, (.pointer (some ⟨b5, 0, none⟩))), (5, (.pointer (some ⟨b9, 0, none⟩))), (48, (.slice a132 l133 q134)), (59, (.agg #[(.slice none 0 0), (.int .i64 3), (.int .i64 e202)])), (51, (pEl (.slice a132 l133 q134) 0 1 0))]) ⟨rfl, rfl, rfl, rfl, rfl, trivial⟩ ?_
                  exact H771 v195 r198 r199 e202 h203 e206 h207
                · intro o ho; cases ho
                  refine o_bslD (M := []) (E' := dGRule) (qs := [(0, (.agg #[(.slice none 0 0), (.int .i64 3), (.int .i64 e202)]))]) (cs := [(.slice none 0 0), (.int .i64 3), (.int .i64 e202)]) (GRule.mk ([]) 3 e202) (absorb_nil (fun w => ⟨_, rfl, Dp.nil⟩)) (by intro ρ h; simp only [List.map_toArray, List.map_cons, List.map_nil, h (.tmp 59) _ rfl]) rfl el50 zero54 rfl rfl rfl rfl ?_; intro bb214 v213
                  refine d_and (fun w m => m.pick [2, 3, 4] rfl) ?_
                  refine pk [0, 1, 2, 3, 4, 5] rfl ?_
                  refine re (E' := [(4, (.pointer (some ⟨b5, 0, none⟩))), (5, (.pointer (some ⟨b9, 0, none⟩))), (48, (.slice a132 l133 q134)), (50, (.slice a132 l133 q134)), (60, v213)]) ⟨rfl, rfl, rfl, rfl, rfl, trivial⟩ ?_
                  exact H772 v195 r198 r199 e202 h203 v213 bb214
              have H774 : ∀ (v195 : Value) (r198 : Int) (r199 : Int) (e202 : Int) (h203 : ([0, t13])[(r198).toNat]? = some e202), Nx 80 (gB F [cellCh b1 [v2, (.int .i64 r_0_p)] 96] w0) (feet [cellCh b1 [v2, (.int .i64 r_0_p)] 96]) w0 (wpAnyH Tryd.prog .any (opsAt Tryd.f44 [1, 1, 1, 1, 0, 1, 0, 1, 0, 1, 1, 1, 0]) Qd (Mem (gB F [cellCh b1 [v2, (.int .i64 r_0_p)] 96] w0) (feet [cellCh b1 [v2, (.int .i64 r_0_p)] 96]) w0 [cellCh b9 [(.slice a132 l133 q134), (.bool (decide (r7 = 0)))] 30, cellCh b5 [(.slice none 0 0), (.bool false)] 30, snapCh w0 F]) 8 #[true, true, true, true, false, false, true, true, true, true, true, false, false, false, false, false, false]) [(4, (.pointer (some ⟨b5, 0, none⟩))), (5, (.pointer (some ⟨b9, 0, none⟩))), (48, (.slice a132 l133 q134)), (50, (.slice a132 l133 q134)), (57, (pEl v195 r198 1 0))] [cellCh b1 [v2, (.int .i64 r199)] 96, ownCh elInt 3 v195 ([0, t13]), cellCh b9 [(.slice a132 l133 q134), (.bool (decide (r7 = 0)))] 30, cellCh b5 [(.slice none 0 0), (.bool false)] 30, snapCh w0 F, dpCh (dSl dGRule 54) 50 bb18 (.slice a132 l133 q134) xs16] (idxW xs16 0 (fun e204 => appW e204 ([(GRule.mk ([]) 3 e202)]) (fun _ => idxW xs16 0 (fun e155 => k139 ((xs16.set (0 : Int).toNat (e204 ++ ([(GRule.mk ([]) 3 e202)]))), r199))))) := by
                intro v195 r198 r199 e202 h203
                refine d_two (i := 4) (j := 11) rfl rfl (by kernel_rfl) ?_ ?_
                · intro o ho; cases ho
                  refine o_idx m_op 5 rfl reads_dp rfl rfl rfl el28 ?_; intro e204 h205
                  refine d_and (fun w m => m.pick [2, 3, 4] rfl) ?_
                  refine pk [0, 1, 2, 3, 4, 5] rfl ?_
                  refine re (E' := [(4, (.pointer (some ⟨b5, 0, none⟩))), (5, (.pointer (some ⟨b9, 0, none⟩))), (48, (.slice a132 l133 q134)), (51, (pEl (.slice a132 l133 q134) 0 1 0)), (57, (pEl v195 r198 1 0))]) ⟨rfl, rfl, rfl, rfl, rfl, trivial⟩ ?_
                  exact H766 e204 h205 v195 r198 r199 e202 h203
                · intro o ho; cases ho
                  refine o_lds m_op (enc := encInt) (u := (.int .i64 e202)) 1 rfl reads_own flelInt rfl h203 rfl rfl ty3 rfl ?_
                  refine d_and (fun w m => m.pick [2, 3, 4] rfl) ?_
                  refine pk [0, 2, 3, 4, 5] rfl ?_
                  refine re (E' := [(4, (.pointer (some ⟨b5, 0, none⟩))), (5, (.pointer (some ⟨b9, 0, none⟩))), (48, (.slice a132 l133 q134)), (50, (.slice a132 l133 q134)), (58, (.int .i64 e202))]) ⟨rfl, rfl, rfl, rfl, rfl, trivial⟩ ?_
                  exact H773 v195 r198 r199 e202 h203
              have H775 : ∀ (v195 : Value) (r198 : Int) (r199 : Int), Nx 80 (gB F [cellCh b1 [v2, (.int .i64 r_0_p)] 96] w0) (feet [cellCh b1 [v2, (.int .i64 r_0_p)] 96]) w0 (wpAnyH Tryd.prog .any (opsAt Tryd.f44 [1, 1, 1, 1, 0, 1, 0, 1, 0, 1, 1, 1, 0]) Qd (Mem (gB F [cellCh b1 [v2, (.int .i64 r_0_p)] 96] w0) (feet [cellCh b1 [v2, (.int .i64 r_0_p)] 96]) w0 [cellCh b9 [(.slice a132 l133 q134), (.bool (decide (r7 = 0)))] 30, cellCh b5 [(.slice none 0 0), (.bool false)] 30, snapCh w0 F]) 9 #[true, true, true, true, false, false, true, true, true, true, false, false, false, false, false, false, false]) [(4, (.pointer (some ⟨b5, 0, none⟩))), (5, (.pointer (some ⟨b9, 0, none⟩))), (48, (.slice a132 l133 q134)), (50, (.slice a132 l133 q134)), (54, v195), (56, (.int .i64 r198))] [cellCh b1 [v2, (.int .i64 r199)] 96, ownCh elInt 3 v195 ([0, t13]), cellCh b9 [(.slice a132 l133 q134), (.bool (decide (r7 = 0)))] 30, cellCh b5 [(.slice none 0 0), (.bool false)] 30, snapCh w0 F, dpCh (dSl dGRule 54) 50 bb18 (.slice a132 l133 q134) xs16] ((idxW xs16 0 (fun e200 => idxW ([0, t13]) r198 (fun e148 => appW e200 ([(GRule.mk ([]) 3 e148)]) (fun _ => idxW xs16 0 (fun e155 => k139 ((xs16.set (0 : Int).toNat (e200 ++ ([(GRule.mk ([]) 3 e148)]))), r199)))))) ∧ (idxW ([0, t13]) r198 (fun e202 => idxW xs16 0 (fun e204 => appW e204 ([(GRule.mk ([]) 3 e202)]) (fun _ => idxW xs16 0 (fun e155 => k139 ((xs16.set (0 : Int).toNat (e204 ++ ([(GRule.mk ([]) 3 e202)]))), r199))))))) := by
                intro v195 r198 r199
                refine d_two (i := 4) (j := 10) rfl rfl (by kernel_rfl) ?_ ?_
                · intro o ho; cases ho
                  refine nx_l ?_
                  refine o_idx m_op 5 rfl reads_dp rfl rfl rfl el28 ?_; intro e200 h201
                  refine d_and (fun w m => m.pick [2, 3, 4] rfl) ?_
                  refine pk [0, 1, 2, 3, 4, 5] rfl ?_
                  refine re (E' := [(4, (.pointer (some ⟨b5, 0, none⟩))), (5, (.pointer (some ⟨b9, 0, none⟩))), (48, (.slice a132 l133 q134)), (51, (pEl (.slice a132 l133 q134) 0 1 0)), (54, v195), (56, (.int .i64 r198))]) ⟨rfl, rfl, rfl, rfl, rfl, rfl, trivial⟩ ?_
                  exact H767 e200 h201 v195 r198 r199
                · intro o ho; cases ho
                  refine nx_r ?_
                  refine o_idx m_op 1 rfl reads_own rfl rfl rfl el67 ?_; intro e202 h203
                  refine d_and (fun w m => m.pick [2, 3, 4] rfl) ?_
                  refine pk [0, 1, 2, 3, 4, 5] rfl ?_
                  refine re (E' := [(4, (.pointer (some ⟨b5, 0, none⟩))), (5, (.pointer (some ⟨b9, 0, none⟩))), (48, (.slice a132 l133 q134)), (50, (.slice a132 l133 q134)), (57, (pEl v195 r198 1 0))]) ⟨rfl, rfl, rfl, rfl, rfl, trivial⟩ ?_
                  exact H774 v195 r198 r199 e202 h203
              have H776 : ∀ (v195 : Value), Nx 80 (gB F [cellCh b1 [v2, (.int .i64 r_0_p)] 96] w0) (feet [cellCh b1 [v2, (.int .i64 r_0_p)] 96]) w0 (wpAnyH Tryd.prog .any (opsAt Tryd.f44 [1, 1, 1, 1, 0, 1, 0, 1, 0, 1, 1, 1, 0]) Qd (Mem (gB F [cellCh b1 [v2, (.int .i64 r_0_p)] 96] w0) (feet [cellCh b1 [v2, (.int .i64 r_0_p)] 96]) w0 [cellCh b9 [(.slice a132 l133 q134), (.bool (decide (r7 = 0)))] 30, cellCh b5 [(.slice none 0 0), (.bool false)] 30, snapCh w0 F]) 10 #[true, true, true, true, false, false, true, true, true, false, false, false, false, false, false, false, false]) [(4, (.pointer (some ⟨b5, 0, none⟩))), (5, (.pointer (some ⟨b9, 0, none⟩))), (48, (.slice a132 l133 q134)), (50, (.slice a132 l133 q134)), (55, (.pointer (some ⟨b1, 0, none⟩))), (54, v195)] [ownCh elInt 3 v195 ([0, t13]), cellCh b1 [v2, (.int .i64 r125)] 96, cellCh b9 [(.slice a132 l133 q134), (.bool (decide (r7 = 0)))] 30, cellCh b5 [(.slice none 0 0), (.bool false)] 30, snapCh w0 F, dpCh (dSl dGRule 54) 50 bb18 (.slice a132 l133 q134) xs16] ((idxW xs16 0 (fun e196 => L_spec_l20Rd_pick r_0_b r125 2 (fun (r146, r147) => idxW ([0, t13]) r146 (fun e148 => appW e196 ([(GRule.mk ([]) 3 e148)]) (fun _ => idxW xs16 0 (fun e155 => k139 ((xs16.set (0 : Int).toNat (e196 ++ ([(GRule.mk ([]) 3 e148)]))), r147))))))) ∧ (L_spec_l20Rd_pick r_0_b r125 2 (fun (r198, r199) => (idxW xs16 0 (fun e200 => idxW ([0, t13]) r198 (fun e148 => appW e200 ([(GRule.mk ([]) 3 e148)]) (fun _ => idxW xs16 0 (fun e155 => k139 ((xs16.set (0 : Int).toNat (e200 ++ ([(GRule.mk ([]) 3 e148)]))), r199)))))) ∧ (idxW ([0, t13]) r198 (fun e202 => idxW xs16 0 (fun e204 => appW e204 ([(GRule.mk ([]) 3 e202)]) (fun _ => idxW xs16 0 (fun e155 => k139 ((xs16.set (0 : Int).toNat (e204 ++ ([(GRule.mk ([]) 3 e202)]))), r199))))))))) := by
                intro v195
                refine d_two (i := 4) (j := 9) rfl rfl (by kernel_rfl) ?_ ?_
                · intro o ho; cases ho
                  refine nx_l ?_
                  refine o_idx m_op 5 rfl reads_dp rfl rfl rfl el28 ?_; intro e196 h197
                  refine d_and (fun w m => m.pick [2, 3, 4] rfl) ?_
                  refine pk [0, 1, 2, 3, 4, 5] rfl ?_
                  refine re (E' := [(4, (.pointer (some ⟨b5, 0, none⟩))), (5, (.pointer (some ⟨b9, 0, none⟩))), (48, (.slice a132 l133 q134)), (55, (.pointer (some ⟨b1, 0, none⟩))), (51, (pEl (.slice a132 l133 q134) 0 1 0)), (54, v195)]) ⟨rfl, rfl, rfl, rfl, rfl, rfl, trivial⟩ ?_
                  exact H768 e196 h197 v195
                · intro o ho; cases ho
                  refine nx_r ?_
                  refine pk [1, 0, 2, 3, 4, 5] rfl ?_
                  refine o_call (vs := [(.pointer (some ⟨b1, 0, none⟩)), (.int .i64 2)]) (M0 := [cellCh b1 [v2, (.int .i64 r125)] 96]) Tryd.call68 rfl rfl (by intro w m h; exact (w_spec_l20Rd_pick (F := allB [cellCh b1 [v2, (.int .i64 r125)] 96] w) (r_0_b := r_0_b) (r_0_p := r125) (n_1 := 2) allB_ok m.given (m.rdM 3 rfl (reads_snap hv2)) h).mono (fun _ _ k => ret_free (fun r u => (fr_cons free_cell fr_nil)) k)) ?_; rintro ⟨r198, r199⟩ _
                  refine d_and (fun w m => m.pick [2, 3, 4] rfl) ?_
                  refine pk [0, 1, 2, 3, 4, 5] rfl ?_
                  refine re (E' := [(4, (.pointer (some ⟨b5, 0, none⟩))), (5, (.pointer (some ⟨b9, 0, none⟩))), (48, (.slice a132 l133 q134)), (50, (.slice a132 l133 q134)), (54, v195), (56, (.int .i64 r198))]) ⟨rfl, rfl, rfl, rfl, rfl, rfl, trivial⟩ ?_
                  exact H775 v195 r198 r199
              have H777 : ∀ (r217 : Int) (r218 : Int), Nx 80 (gB F [cellCh b1 [v2, (.int .i64 r_0_p)] 96] w0) (feet [cellCh b1 [v2, (.int .i64 r_0_p)] 96]) w0 (wpAnyH Tryd.prog .any (opsAt Tryd.f44 [1, 1, 1, 1, 0, 1, 0, 1, 0, 1, 1, 1, 0]) Qd (Mem (gB F [cellCh b1 [v2, (.int .i64 r_0_p)] 96] w0) (feet [cellCh b1 [v2, (.int .i64 r_0_p)] 96]) w0 [cellCh b9 [(.slice a132 l133 q134), (.bool (decide (r7 = 0)))] 30, cellCh b5 [(.slice none 0 0), (.bool false)] 30, snapCh w0 F]) 10 #[true, true, true, true, false, false, true, false, true, true, false, false, false, false, false, false, false]) [(4, (.pointer (some ⟨b5, 0, none⟩))), (5, (.pointer (some ⟨b9, 0, none⟩))), (48, (.slice a132 l133 q134)), (50, (.slice a132 l133 q134)), (53, (.int .i64 t13)), (56, (.int .i64 r217))] [cellCh b1 [v2, (.int .i64 r218)] 96, cellCh b9 [(.slice a132 l133 q134), (.bool (decide (r7 = 0)))] 30, cellCh b5 [(.slice none 0 0), (.bool false)] 30, snapCh w0 F, dpCh (dSl dGRule 54) 50 bb18 (.slice a132 l133 q134) xs16] ((idxW xs16 0 (fun e219 => idxW ([0, t13]) r217 (fun e148 => appW e219 ([(GRule.mk ([]) 3 e148)]) (fun _ => idxW xs16 0 (fun e155 => k139 ((xs16.set (0 : Int).toNat (e219 ++ ([(GRule.mk ([]) 3 e148)]))), r218)))))) ∧ ((idxW xs16 0 (fun e200 => idxW ([0, t13]) r217 (fun e148 => appW e200 ([(GRule.mk ([]) 3 e148)]) (fun _ => idxW xs16 0 (fun e155 => k139 ((xs16.set (0 : Int).toNat (e200 ++ ([(GRule.mk ([]) 3 e148)]))), r218)))))) ∧ (idxW ([0, t13]) r217 (fun e202 => idxW xs16 0 (fun e204 => appW e204 ([(GRule.mk ([]) 3 e202)]) (fun _ => idxW xs16 0 (fun e155 => k139 ((xs16.set (0 : Int).toNat (e204 ++ ([(GRule.mk ([]) 3 e202)]))), r218)))))))) := by
                intro r217 r218
                refine d_two (i := 4) (j := 7) rfl rfl (by kernel_rfl) ?_ ?_
                · intro o ho; cases ho
                  refine nx_l ?_
                  refine o_idx m_op 4 rfl reads_dp rfl rfl rfl el28 ?_; intro e219 h220
                  refine d_and (fun w m => m.pick [1, 2, 3] rfl) ?_
                  refine pk [0, 1, 2, 3, 4] rfl ?_
                  refine re (E' := [(4, (.pointer (some ⟨b5, 0, none⟩))), (5, (.pointer (some ⟨b9, 0, none⟩))), (48, (.slice a132 l133 q134)), (53, (.int .i64 t13)), (51, (pEl (.slice a132 l133 q134) 0 1 0)), (56, (.int .i64 r217))]) ⟨rfl, rfl, rfl, rfl, rfl, rfl, trivial⟩ ?_
                  exact H769 e219 h220 r217 r218
                · intro o ho; cases ho
                  refine nx_r ?_
                  refine o_bsl (enc := encInt) (qs := [(0, (.int .i64 0)), (1, (.int .i64 t13))]) (cells := [(.int .i64 0), (.int .i64 t13)]) ([0, t13]) flelInt (by intro ρ h; simp only [List.map_toArray, List.map_cons, List.map_nil, h (.const (.int .i64 0)) _ rfl, h (.tmp 53) _ rfl]) rfl el67 zero3 rfl rfl rfl rfl rfl rfl ?_; intro v221
                  refine d_and (fun w m => m.pick [2, 3, 4] rfl) ?_
                  refine pk [1, 0, 2, 3, 4, 5] rfl ?_
                  refine re (E' := [(4, (.pointer (some ⟨b5, 0, none⟩))), (5, (.pointer (some ⟨b9, 0, none⟩))), (48, (.slice a132 l133 q134)), (50, (.slice a132 l133 q134)), (54, v221), (56, (.int .i64 r217))]) ⟨rfl, rfl, rfl, rfl, rfl, rfl, trivial⟩ ?_
                  exact H775 v221 r217 r218
              refine o_fad (dt 0 (fun w m => m.pick [1, 2, 3] rfl)) rfl rfl fld30_0 rfl ?_
              refine o_ldc (dt 1 (fun w m => m.pick [1, 2, 3] rfl)) (v := (.slice a132 l133 q134)) 0 rfl rfl rfl ty28 rfl ?_
              refine o_fad (dt 2 (fun w m => m.pick [1, 2, 3] rfl)) rfl rfl fld30_0 rfl ?_
              refine o_ldc (dt 3 (fun w m => m.pick [1, 2, 3] rfl)) (v := (.slice a132 l133 q134)) 0 rfl rfl rfl ty28 rfl ?_
              refine o_mv (dt 6 (fun w m => m.pick [1, 2, 3] rfl)) rfl rfl ?_
              refine o_mv (dt 8 (fun w m => m.pick [1, 2, 3] rfl)) rfl rfl ?_
              refine d_three (i := 4) (j := 7) (l := 9) rfl rfl rfl (by kernel_rfl) ?_ ?_ ?_
              · intro o ho; cases ho
                refine nx_l ?_
                refine o_idx m_op 4 rfl reads_dp rfl rfl rfl el28 ?_; intro e140 h141
                refine d_and (fun w m => m.pick [1, 2, 3] rfl) ?_
                refine pk [0, 1, 2, 3, 4] rfl ?_
                refine re (E' := [(4, (.pointer (some ⟨b5, 0, none⟩))), (5, (.pointer (some ⟨b9, 0, none⟩))), (48, (.slice a132 l133 q134)), (53, (.int .i64 t13)), (55, (.pointer (some ⟨b1, 0, none⟩))), (51, (pEl (.slice a132 l133 q134) 0 1 0))]) ⟨rfl, rfl, rfl, rfl, rfl, rfl, trivial⟩ ?_
                exact H770 e140 h141
              · intro o ho; cases ho
                refine nx_r ?_
                refine nx_l ?_
                refine o_bsl (enc := encInt) (qs := [(0, (.int .i64 0)), (1, (.int .i64 t13))]) (cells := [(.int .i64 0), (.int .i64 t13)]) ([0, t13]) flelInt (by intro ρ h; simp only [List.map_toArray, List.map_cons, List.map_nil, h (.const (.int .i64 0)) _ rfl, h (.tmp 53) _ rfl]) rfl el67 zero3 rfl rfl rfl rfl rfl rfl ?_; intro v195
                refine d_and (fun w m => m.pick [2, 3, 4] rfl) ?_
                refine pk [0, 1, 2, 3, 4, 5] rfl ?_
                refine re (E' := [(4, (.pointer (some ⟨b5, 0, none⟩))), (5, (.pointer (some ⟨b9, 0, none⟩))), (48, (.slice a132 l133 q134)), (50, (.slice a132 l133 q134)), (55, (.pointer (some ⟨b1, 0, none⟩))), (54, v195)]) ⟨rfl, rfl, rfl, rfl, rfl, rfl, trivial⟩ ?_
                exact H776 v195
              · intro o ho; cases ho
                refine nx_r ?_
                refine nx_r ?_
                refine o_call (vs := [(.pointer (some ⟨b1, 0, none⟩)), (.int .i64 2)]) (M0 := [cellCh b1 [v2, (.int .i64 r125)] 96]) Tryd.call68 rfl rfl (by intro w m h; exact (w_spec_l20Rd_pick (F := allB [cellCh b1 [v2, (.int .i64 r125)] 96] w) (r_0_b := r_0_b) (r_0_p := r125) (n_1 := 2) allB_ok m.given (m.rdM 2 rfl (reads_snap hv2)) h).mono (fun _ _ k => ret_free (fun r u => (fr_cons free_cell fr_nil)) k)) ?_; rintro ⟨r217, r218⟩ _
                refine d_and (fun w m => m.pick [1, 2, 3] rfl) ?_
                refine pk [0, 1, 2, 3, 4] rfl ?_
                refine re (E' := [(4, (.pointer (some ⟨b5, 0, none⟩))), (5, (.pointer (some ⟨b9, 0, none⟩))), (48, (.slice a132 l133 q134)), (50, (.slice a132 l133 q134)), (53, (.int .i64 t13)), (56, (.int .i64 r217))]) ⟨rfl, rfl, rfl, rfl, rfl, rfl, trivial⟩ ?_
                exact H777 r217 r218
            · rintro ⟨xs135, t138⟩ a w ⟨bb137, hE, hm⟩ h
              refine nx_of hE hm h ?_
              clear hE hm h
              refine b_norm ?_
              exact l_join (t138, xs135) (fun a w hE hm => ⟨(.slice a132 l133 q134), bb137, hE.sub ⟨rfl, rfl, trivial⟩, (hm.pick [1, 2, 3, 4, 0] rfl)⟩)
          · refine c_seq ?_
            refine c_region ?_
            refine o_eql st und3 rfl rfl rfl ?_
            refine o_as st rfl rfl ?_
            refine c_nil ?_
            refine l_then ?_
            refine c_cond rfl ?_ ?_
            · refine c_seq ?_
              refine c_region ?_
              refine o_fad st rfl rfl fld30_0 rfl ?_
              refine o_ldc st (v := v15) 1 rfl rfl rfl ty28 rfl ?_
              refine o_mv st rfl rfl ?_
              refine o_sub st rfl rfl rfl ?_; intro t222
              refine o_bld st (qs := [(1, (.int .i64 3))]) (cells := [(.slice none 0 0), (.int .i64 3), (.int .i64 0)]) (by intro ρ h; simp only [List.map_toArray, List.map_cons, List.map_nil, h (.const (.int .i64 3)) _ rfl]) rfl bld54 rfl ?_
              refine stw (o_bslD (M := []) (E' := dGRule) (qs := [(0, (.agg #[(.slice none 0 0), (.int .i64 3), (.int .i64 0)]))]) (cs := [(.slice none 0 0), (.int .i64 3), (.int .i64 0)]) (GRule.mk ([]) 3 0) (absorb_nil (fun w => ⟨_, rfl, Dp.nil⟩)) (by intro ρ h; simp only [List.map_toArray, List.map_cons, List.map_nil, h (.tmp 69) _ rfl]) rfl el50 zero54 rfl rfl rfl rfl ?_); intro bb224 v223
              refine o_idx st 5 rfl reads_dp rfl rfl rfl el28 ?_; intro e226 h227
              refine nx_dp 0 rfl ?_; rintro a228 l229 q230 rfl
              refine pk [5, 0, 1, 2, 3, 4] rfl ?_
              refine stw (o_stD (M := [dpCh dGRule 54 bb224 (.slice a228 l229 q230) ([(GRule.mk ([]) 3 0)])]) (y' := [(GRule.mk ([]) 3 0)]) rfl h227 (fun w B cz h => by obtain ⟨u, rfl, _⟩ := h; exact (absorb_one gives_dp (fun B w h => ⟨_, rfl, h⟩))) ty50 rfl rfl rfl rfl rfl ?_); intro bb231
              refine c_nil ?_
              refine l_then ?_
              refine c_region ?_
              refine o_fad st rfl rfl fld30_0 rfl ?_
              refine o_ldc st (v := v15) 2 rfl rfl rfl ty28 rfl ?_
              refine o_mv st rfl rfl ?_
              refine o_sub st rfl rfl rfl ?_; intro t233
              refine o_bld st (qs := [(1, (.int .i64 3)), (2, (.int .i64 t233))]) (cells := [(.slice none 0 0), (.int .i64 3), (.int .i64 t233)]) (by intro ρ h; simp only [List.map_toArray, List.map_cons, List.map_nil, h (.const (.int .i64 3)) _ rfl, h (.tmp 75) _ rfl]) rfl bld54 rfl ?_
              refine stw (o_bslD (M := []) (E' := dGRule) (qs := [(0, (.agg #[(.slice none 0 0), (.int .i64 3), (.int .i64 t233)]))]) (cs := [(.slice none 0 0), (.int .i64 3), (.int .i64 t233)]) (GRule.mk ([]) 3 t233) (absorb_nil (fun w => ⟨_, rfl, Dp.nil⟩)) (by intro ρ h; simp only [List.map_toArray, List.map_cons, List.map_nil, h (.tmp 76) _ rfl]) rfl el50 zero54 rfl rfl rfl rfl ?_); intro bb235 v234
              refine o_idx st 1 rfl reads_dp rfl rfl rfl el28 ?_; intro e237 h238
              refine nx_dp 0 rfl ?_; rintro a239 l240 q241 rfl
              refine pk [1, 0, 2, 3, 4, 5] rfl ?_
              refine stw (o_stD (M := [dpCh dGRule 54 bb235 (.slice a239 l240 q241) ([(GRule.mk ([]) 3 t233)])]) (y' := [(GRule.mk ([]) 3 t233)]) rfl h238 (fun w B cz h => by obtain ⟨u, rfl, _⟩ := h; exact (absorb_one gives_dp (fun B w h => ⟨_, rfl, h⟩))) ty50 rfl rfl rfl rfl rfl ?_); intro bb242
              refine c_nil ?_
              refine b_norm ?_
              exact l_join (r125, ((xs16.set (t222).toNat ([(GRule.mk ([]) 3 0)])).set (0 : Int).toNat ([(GRule.mk ([]) 3 t233)]))) (fun a w hE hm => ⟨v15, bb242, hE.sub ⟨rfl, rfl, trivial⟩, (hm.pick [1, 2, 3, 4, 0] rfl)⟩)
            · refine nx_dp 4 rfl ?_; rintro a244 l245 q246 rfl
              refine c_draw mixed 7 rfl [cellCh b9 [(.slice a244 l245 q246), (.bool (decide (r7 = 0)))] 30, cellCh b5 [(.slice none 0 0), (.bool false)] 30, snapCh w0 F] ?_
              refine o_fad (dt 0 (fun w m => m.pick [1, 2, 3] rfl)) rfl rfl fld30_0 rfl ?_
              refine o_ldc (dt 1 (fun w m => m.pick [1, 2, 3] rfl)) (v := (.slice a244 l245 q246)) 0 rfl rfl rfl ty28 rfl ?_
              refine o_mv (dt 2 (fun w m => m.pick [1, 2, 3] rfl)) rfl rfl ?_
              refine o_mv (dt 3 (fun w m => m.pick [1, 2, 3] rfl)) rfl rfl ?_
              refine d_one (i := 4) rfl (by kernel_rfl) (o_call (vs := [(.pointer (some ⟨b1, 0, none⟩)), (.int .i64 1), (.int .i64 t13), (.int .i64 1)]) (M0 := [cellCh b1 [v2, (.int .i64 r125)] 96]) Tryd.call69 rfl rfl (by intro w m h; exact (w_spec_l20Rules (F := allB [cellCh b1 [v2, (.int .i64 r125)] 96] w) (r_0_b := r_0_b) (r_0_p := r125) (first_1 := 1) (chains_2 := t13) (n_3 := 1) allB_ok m.given (m.rdM 2 rfl (reads_snap hv2)) h).mono (fun _ _ k => ret_free (fun r u => (fr_cons free_dp (fr_cons free_cell fr_nil))) k)) ?_); rintro ⟨r247, r251⟩ ⟨v248, bb249⟩
              refine d_and (fun w m => m.pick [2, 3, 4] rfl) ?_
              refine d_one (i := 5) rfl (by kernel_rfl) (o_idx m_op 5 rfl reads_dp rfl rfl rfl el28 ?_); intro e252 h253
              refine d_and (fun w m => m.pick [2, 3, 4] rfl) ?_
              refine nx_dp 0 rfl ?_; rintro a254 l255 q256 rfl
              refine pk [5, 0, 1, 2, 3, 4] rfl ?_
              refine d_one (i := 6) rfl (by kernel_rfl) (o_stD (M := [dpCh dGRule 54 bb249 (.slice a254 l255 q256) r247]) (y' := r247) rfl h253 (fun w B cz h => by obtain ⟨u, rfl, _⟩ := h; exact (absorb_one gives_dp (fun B w h => ⟨_, rfl, h⟩))) ty50 rfl rfl rfl rfl rfl ?_); intro bb257
              refine d_and (fun w m => m.pick [2, 3, 4] rfl) ?_
              refine d_done (by kernel_rfl) ?_
              refine b_norm ?_
              exact l_join (r251, (xs16.set (0 : Int).toNat r247)) (fun a w hE hm => ⟨(.slice a244 l245 q246), bb257, hE.sub ⟨rfl, rfl, trivial⟩, (hm.pick [1, 2, 3, 4, 0] rfl)⟩)
      · refine c_skip ?_
        exact l_join (r123, xs16) (fun a w hE hm => ⟨v15, bb18, hE.sub ⟨rfl, rfl, trivial⟩, (hm.pick [0, 1, 2, 3, 4] rfl)⟩)
    · rintro ⟨t319, xs321⟩ a w ⟨v320, bb323, hE, hm⟩ h
      refine nx_of hE hm h ?_
      clear hE hm h
      refine c_seq ?_
      refine c_region ?_
      refine o_ldc st (v := (.agg #[v320, (.bool (decide (r7 = 0)))])) 1 rfl rfl rfl ty30 rfl ?_
      refine nx_dp 4 rfl ?_; rintro a326 l327 q328 rfl
      refine stw (o_stc (cs' := [(.slice a326 l327 q328), (.bool (decide (r7 = 0)))]) 2 rfl rfl rfl ty30 rfl rfl rfl rfl ?_)
      refine c_nil ?_
      refine l_then ?_
      refine c_ret ?_
      exact l_end1 Tryd.results44 ((GRuleset.mk xs321 (decide (r7 = 0))), t319) ((.slice a326 l327 q328), bb323) (rv_c 2 rfl rfl ty30 rfl) (fun w m => NewCh.ofB m [4, 0] rfl)

set_option maxRecDepth 100000 in
set_option maxHeartbeats 8000000 in
theorem w_spec_l20Open {w0 : World} {F : Nat → Prop} {v1 : Value} {code_0 : (List UInt8)} {κ : ((List UInt8) × Int) → Prop} (hF : ∀ b, F b → b < w0.heap.size ∧ ¬ feet [] b) (hv1 : Sl elU8 F w0 v1 code_0) (h : L_spec_l20Open code_0 κ) :
    Calls Tryd.prog 45 #[v1] w0 (Ret [] F w0 κ (fun (r : ((List UInt8) × Int)) (u : Nat × Value) => .pointer (some ⟨u.1, 0, none⟩)) (fun (r : ((List UInt8) × Int)) (u : Nat × Value) => [cellCh u.1 [u.2, (.int .i64 r.2)] 96, roCh elU8 u.2 r.1])) := by
  refine enterS (args := [v1]) [] hF (Given.nil _ _) Tryd.func45 rfl Tryd.ntmps45 rfl h ?_
  clear h hF
  refine c_seq ?_
  refine c_region ?_
  refine o_as st rfl rfl ?_
  refine c_nil ?_
  refine l_then ?_
  refine c_join (σ := (List UInt8)) (fun (xs68 : (List UInt8)) (a : Act) (w : World) => ∃ (v67 : Value), Has 11 [(0, v67)] a ∧ Mem (gB F [] w0) (feet []) w0 [roCh elU8 v67 xs68] w) ?_ ?_
  · intro k71
    refine c_seq ?_
    refine c_region ?_
    refine o_mv st rfl rfl ?_
    refine o_len st el40 0 rfl (reads_snap hv1) rfl rfl ?_
    refine o_gtr st rfl rfl rfl ?_
    refine c_nil ?_
    refine l_then ?_
    refine c_cond rfl ?_ ?_
    · refine c_region ?_
      refine o_mv st rfl rfl ?_
      refine nx_note 0 rfl hv1 ?_
      refine stw (o_slc (I := 0) (J := 2000) 0 rfl rfl rfl rfl rfl el40 rfl ?_); intro v3 xs4
      refine o_as st rfl rfl ?_
      refine c_nil ?_
      exact l_join xs4 (fun a w hE hm => ⟨v3, hE.sub ⟨rfl, trivial⟩, (hm.pick [0] rfl)⟩)
    · refine c_skip ?_
      exact l_join code_0 (fun a w hE hm => ⟨v1, hE.sub ⟨rfl, trivial⟩, ((hm.snote 0 rfl hv1).pick [0] rfl)⟩)
  · rintro xs68 a w ⟨v67, hE, hm⟩ h
    refine nx_of hE hm h ?_
    clear hE hm h
    refine c_seq ?_
    refine c_region ?_
    refine o_mv st rfl rfl ?_
    refine nx_ro 0 rfl ?_; rintro a72 l73 q74 rfl
    refine o_bld st (qs := [(0, (.slice a72 l73 q74))]) (cells := [(.slice a72 l73 q74), (.int .i64 0)]) (by intro ρ h; simp only [List.map_toArray, List.map_cons, List.map_nil, h (.tmp 8) _ rfl]) rfl bld96 rfl ?_
    refine stw (o_box rfl rfl [(.slice a72 l73 q74), (.int .i64 0)] rfl ?_); intro b75
    refine o_as st rfl rfl ?_
    refine c_nil ?_
    refine l_then ?_
    refine c_ret ?_
    exact l_end1 Tryd.results45 (xs68, 0) (b75, (.slice a72 l73 q74)) (rv_t rfl) (fun w m => NewCh.ofB m [0, 1] rfl)

set_option maxRecDepth 100000 in
set_option maxHeartbeats 8000000 in
theorem w_laws_sameTexts {w0 : World} {F : Nat → Prop} {v1 : Value} {v3 : Value} {a_0 : (List ByteArray)} {b_1 : (List ByteArray)} {κ : Bool → Prop} (hF : ∀ b, F b → b < w0.heap.size ∧ ¬ feet [] b) (hv1 : Sl elStr F w0 v1 a_0) (hv3 : Sl elStr F w0 v3 b_1) (h : L_laws_sameTexts a_0 b_1 κ) :
    Calls Tryd.prog 23 #[v1, v3] w0 (Ret [] F w0 κ (fun (r : Bool) (u : Unit) => (.bool r)) (fun (r : Bool) (u : Unit) => [])) := by
  refine enterS (args := [v1, v3]) [] hF (Given.nil _ _) Tryd.func23 rfl Tryd.ntmps23 rfl h ?_
  clear h hF
  refine c_seq ?_
  refine c_region ?_
  refine o_as st rfl rfl ?_
  refine c_nil ?_
  refine l_then ?_
  refine c_seq ?_
  refine c_seq ?_
  refine c_region ?_
  refine o_mv st rfl rfl ?_
  refine o_len st el26 0 rfl (reads_snap hv1) rfl rfl ?_
  refine o_mv st rfl rfl ?_
  refine o_len st el26 0 rfl (reads_snap hv3) rfl rfl ?_
  refine o_neq st und3 rfl rfl rfl ?_
  refine c_nil ?_
  refine l_then ?_
  refine c_cond rfl ?_ ?_
  · refine c_seq ?_
    refine c_region ?_
    refine o_as st rfl rfl ?_
    refine c_nil ?_
    refine l_then ?_
    refine c_ret ?_
    refine l_ret ?_
    exact l_end1 Tryd.results23 false () (rv_t rfl) (fun _ _ => NewCh.nil _ _ _ _)
  · refine c_skip ?_
    refine l_then ?_
    refine c_seq ?_
    refine c_seq ?_
    refine c_region ?_
    refine o_as st rfl rfl ?_
    refine c_nil ?_
    refine l_then ?_
    refine c_block ?_
    refine c_loop (σ := Int) (fun (t5 : Int) (a : Act) (w : World) => Has 26 [(0, v1), (1, v3), (5, (.int .i64 t5))] a ∧ Mem (gB F [] w0) (feet []) w0 [snapCh w0 F] w) (fun a w hE hm => ⟨hE.sub ⟨rfl, rfl, rfl, trivial⟩, (hm.pick [0] rfl)⟩) ?_
    rintro nx6 t5 a w ⟨hE, hm⟩ h
    refine nx_of hE hm h ?_
    clear hE hm h
    refine c_seq ?_
    refine c_seq ?_
    refine c_region ?_
    refine o_mv st rfl rfl ?_
    refine o_mv st rfl rfl ?_
    refine o_len st el26 0 rfl (reads_snap hv1) rfl rfl ?_
    refine o_lss st rfl rfl rfl ?_
    refine c_nil ?_
    refine l_then ?_
    refine c_cond rfl ?_ ?_
    · refine c_skip ?_
      refine l_then ?_
      refine c_seq ?_
      refine c_block ?_
      refine c_seq ?_
      refine c_draw mixed 9 rfl [snapCh w0 F] ?_
      refine o_mv (dt 0 (fun _ m => m)) rfl rfl ?_
      refine o_mv (dt 1 (fun _ m => m)) rfl rfl ?_
      refine o_idx (dt 2 (fun _ m => m)) 0 rfl (reads_snap hv1) rfl rfl rfl el26 ?_; intro e7 h8
      refine o_lds (dt 3 (fun _ m => m)) (enc := encStr) (u := (.string e7)) 0 rfl (reads_snap hv1) flelStr rfl h8 rfl rfl ty9 rfl ?_
      refine o_mv (dt 4 (fun _ m => m)) rfl rfl ?_
      refine o_mv (dt 5 (fun _ m => m)) rfl rfl ?_
      refine o_idx (dt 6 (fun _ m => m)) 0 rfl (reads_snap hv3) rfl rfl rfl el26 ?_; intro e9 h10
      refine o_lds (dt 7 (fun _ m => m)) (enc := encStr) (u := (.string e9)) 0 rfl (reads_snap hv3) flelStr rfl h10 rfl rfl ty9 rfl ?_
      refine o_neqS (dt 8 (fun _ m => m)) und9 rfl rfl rfl ?_
      refine d_done (by kernel_rfl) ?_
      refine l_then ?_
      refine c_cond rfl ?_ ?_
      · refine c_seq ?_
        refine c_region ?_
        refine o_as st rfl rfl ?_
        refine c_nil ?_
        refine l_then ?_
        refine c_ret ?_
        refine b_ret ?_
        refine l_ret ?_
        refine l_ret ?_
        refine b_ret ?_
        refine l_ret ?_
        exact l_end1 Tryd.results23 false () (rv_t rfl) (fun _ _ => NewCh.nil _ _ _ _)
      · refine c_skip ?_
        refine b_norm ?_
        refine l_then ?_
        refine c_region ?_
        refine o_mv st rfl rfl ?_
        refine o_add st rfl rfl rfl ?_; intro t11
        refine o_as st rfl rfl ?_
        refine c_nil ?_
        exact l_join t11 (fun a w hE hm => ⟨hE.sub ⟨rfl, rfl, rfl, trivial⟩, (hm.pick [0] rfl)⟩)
    · refine c_exit ?_
      refine l_exit ?_
      refine l_exit ?_
      refine b_exit ?_
      refine l_then ?_
      refine c_seq ?_
      refine c_region ?_
      refine o_as st rfl rfl ?_
      refine c_nil ?_
      refine l_then ?_
      refine c_ret ?_
      exact l_end1 Tryd.results23 true () (rv_t rfl) (fun _ _ => NewCh.nil _ _ _ _)

set_option maxRecDepth 100000 in
set_option maxHeartbeats 8000000 in
theorem w_impl_SpansHave {w0 : World} {F : Nat → Prop} {v1 : Value} {list_0 : (List GSpan)} {n_1 : Int} {κ : Bool → Prop} (hF : ∀ b, F b → b < w0.heap.size ∧ ¬ feet [] b) (hv1 : Sl elGSpan F w0 v1 list_0) (h : L_impl_SpansHave list_0 n_1 κ) :
    Calls Tryd.prog 49 #[v1, (.int .i64 n_1)] w0 (Ret [] F w0 κ (fun (r : Bool) (u : Unit) => (.bool r)) (fun (r : Bool) (u : Unit) => [])) := by
  refine enterS (args := [v1, (.int .i64 n_1)]) [] hF (Given.nil _ _) Tryd.func49 rfl Tryd.ntmps49 rfl h ?_
  clear h hF
  refine c_seq ?_
  refine c_region ?_
  refine o_as st rfl rfl ?_
  refine c_nil ?_
  refine l_then ?_
  refine c_seq ?_
  refine c_seq ?_
  refine c_region ?_
  refine o_mv st rfl rfl ?_
  refine o_len st el72 0 rfl (reads_snap hv1) rfl rfl ?_
  refine o_mv st rfl rfl ?_
  refine c_nil ?_
  refine l_then ?_
  refine c_block ?_
  refine c_loop (σ := Int) (fun (t3 : Int) (a : Act) (w : World) => Has 24 [(1, (.int .i64 n_1)), (7, v1), (8, (.int .i64 (list_0.length : Int))), (9, (.int .i64 t3))] a ∧ Mem (gB F [] w0) (feet []) w0 [snapCh w0 F] w) (fun a w hE hm => ⟨hE.sub ⟨rfl, rfl, rfl, rfl, trivial⟩, (hm.pick [0] rfl)⟩) ?_
  rintro nx4 t3 a w ⟨hE, hm⟩ h
  refine nx_of hE hm h ?_
  clear hE hm h
  refine c_seq ?_
  refine c_region ?_
  refine o_lss st rfl rfl rfl ?_
  refine c_nil ?_
  refine l_then ?_
  refine c_seq ?_
  refine c_cond rfl ?_ ?_
  · refine c_skip ?_
    refine l_then ?_
    refine c_seq ?_
    refine c_block ?_
    refine c_seq ?_
    refine c_region ?_
    refine o_idx st 0 rfl (reads_snap hv1) rfl rfl rfl el72 ?_; intro e5 h6
    refine o_lds st (enc := encGSpan) (u := (.agg #[(.int .i64 e5.xLo), (.int .i64 e5.xHi)])) 0 rfl (reads_snap hv1) flelGSpan rfl h6 rfl rfl ty71 rfl ?_
    refine stw (o_alloc rfl [(.int .i64 0), (.int .i64 0)] zero71 ?_); intro b7
    refine stw (o_stc (cs' := [(.int .i64 e5.xLo), (.int .i64 e5.xHi)]) 0 rfl rfl rfl ty71 rfl rfl rfl rfl ?_)
    refine c_nil ?_
    refine l_then ?_
    refine c_join (σ := Bool) (fun (t69 : Bool) (a : Act) (w : World) => Has 24 [(1, (.int .i64 n_1)), (7, v1), (8, (.int .i64 (list_0.length : Int))), (9, (.int .i64 t3)), (22, (.bool t69))] a ∧ Mem (gB F [] w0) (feet []) w0 [snapCh w0 F] w) ?_ ?_
    · intro k70
      refine c_region ?_
      refine o_fad st rfl rfl fld71_0 rfl ?_
      refine o_ldc st (v := (.int .i64 e5.xLo)) 0 rfl rfl rfl ty3 rfl ?_
      refine o_mv st rfl rfl ?_
      refine o_leq st rfl rfl rfl ?_
      refine o_mv st rfl rfl ?_
      refine st_sp (dj := 17) rfl ?_ ?_
      · refine o_mv (st_g rfl rfl) rfl rfl ?_
        refine o_fad (st_g rfl rfl) rfl rfl fld71_1 rfl ?_
        refine o_ldc (st_g rfl rfl) (v := (.int .i64 e5.xHi)) 0 rfl rfl rfl ty3 rfl ?_
        refine o_leq (st_g rfl rfl) rfl rfl rfl ?_
        refine o_pickT st rfl rfl rfl ?_
        refine c_nil ?_
        exact l_join (decide (n_1 ≤ e5.xHi)) (fun a w hE hm => ⟨hE.sub ⟨rfl, rfl, rfl, rfl, rfl, trivial⟩, (hm.pick [1] rfl)⟩)
      · refine st_s rfl rfl rfl rfl ?_
        refine st_s rfl rfl rfl rfl ?_
        refine st_s rfl rfl rfl rfl ?_
        refine st_s rfl rfl rfl rfl ?_
        refine o_pickF st rfl rfl rfl ?_
        refine c_nil ?_
        exact l_join false (fun a w hE hm => ⟨hE.sub ⟨rfl, rfl, rfl, rfl, rfl, trivial⟩, (hm.pick [1] rfl)⟩)
    · rintro t69 a w ⟨hE, hm⟩ h
      refine nx_of hE hm h ?_
      clear hE hm h
      refine c_cond rfl ?_ ?_
      · refine c_seq ?_
        refine c_region ?_
        refine o_as st rfl rfl ?_
        refine c_nil ?_
        refine l_then ?_
        refine c_ret ?_
        refine b_ret ?_
        refine l_ret ?_
        refine l_ret ?_
        refine b_ret ?_
        refine l_ret ?_
        exact l_end1 Tryd.results49 true () (rv_t rfl) (fun _ _ => NewCh.nil _ _ _ _)
      · refine c_skip ?_
        refine b_norm ?_
        refine l_then ?_
        refine c_region ?_
        refine o_add st rfl rfl rfl ?_; intro t71
        refine o_mv st rfl rfl ?_
        refine c_nil ?_
        exact l_join t71 (fun a w hE hm => ⟨hE.sub ⟨rfl, rfl, rfl, rfl, trivial⟩, (hm.pick [0] rfl)⟩)
  · refine c_exit ?_
    refine l_exit ?_
    refine l_exit ?_
    refine b_exit ?_
    refine l_then ?_
    refine c_seq ?_
    refine c_region ?_
    refine o_as st rfl rfl ?_
    refine c_nil ?_
    refine l_then ?_
    refine c_ret ?_
    exact l_end1 Tryd.results49 false () (rv_t rfl) (fun _ _ => NewCh.nil _ _ _ _)

set_option maxRecDepth 100000 in
set_option maxHeartbeats 8000000 in
theorem w_laws_alive {w0 : World} {F : Nat → Prop} {κ : Bool → Prop} (hF : ∀ b, F b → b < w0.heap.size ∧ ¬ feet [] b) (h : L_laws_alive κ) :
    Calls Tryd.prog 25 #[] w0 (Ret [] F w0 κ (fun (r : Bool) (u : Unit) => (.bool r)) (fun (r : Bool) (u : Unit) => [])) := by
  refine enter0 (args := []) [] hF (Given.nil _ _) Tryd.func25 rfl Tryd.ntmps25 rfl h ?_
  clear h hF
  refine c_seq ?_
  refine c_region ?_
  refine o_as st rfl rfl ?_
  refine c_nil ?_
  refine l_then ?_
  refine c_seq ?_
  refine c_region ?_
  refine o_bld st (qs := [(0, (.int .i64 2)), (1, (.int .i64 4))]) (cells := [(.int .i64 2), (.int .i64 4)]) (by intro ρ h; simp only [List.map_toArray, List.map_cons, List.map_nil, h (.const (.int .i64 2)) _ rfl, h (.const (.int .i64 4)) _ rfl]) rfl bld71 rfl ?_
  refine stw (o_bsl (enc := encGSpan) (qs := [(0, (.agg #[(.int .i64 2), (.int .i64 4)]))]) (cells := [(.int .i64 2), (.int .i64 4)]) ([(GSpan.mk 2 4)]) flelGSpan (by intro ρ h; simp only [List.map_toArray, List.map_cons, List.map_nil, h (.tmp 1) _ rfl]) rfl el72 zero71 rfl rfl rfl rfl rfl rfl ?_); intro v1
  refine stw (o_callP (vs := [v1, (.int .i64 3)]) Tryd.call49 rfl rfl (by intro w m h; exact (w_impl_SpansHave (F := allB [] w) (list_0 := ([(GSpan.mk 2 4)])) (n_1 := 3) allB_ok (m.rd0 0 rfl reads_own) h).mono (fun _ _ k => ret_free (fun r u => fr_nil) k)) ?_); rintro r3 _
  refine o_as st rfl rfl ?_
  refine c_nil ?_
  refine l_then ?_
  refine c_ret ?_
  exact l_end1 Tryd.results25 r3 () (rv_t rfl) (fun _ _ => NewCh.nil _ _ _ _)

set_option maxRecDepth 100000 in
set_option maxHeartbeats 8000000 in
theorem w_impl_ReadRuleset {w0 : World} {F : Nat → Prop} {v1 : Value} {lines_0 : (List ByteArray)} {κ : (GRuleset × Bool) → Prop} (hF : ∀ b, F b → b < w0.heap.size ∧ ¬ feet [] b) (hv1 : Sl elStr F w0 v1 lines_0) (hgl0 : Sl elGFieldShape F w0 (.slice (some ⟨0, 0, none⟩) 4 4) gl_impl_fieldShapes) (hgl1 : Tb F w0) (h : L_impl_ReadRuleset lines_0 κ) :
    Calls Tryd.prog 26 #[v1] w0 (Ret [] F w0 κ (fun (r : (GRuleset × Bool)) (u : Value × List Nat) => .tuple #[(.agg #[u.1, (.bool r.1.xAccept)]), (.bool r.2)]) (fun (r : (GRuleset × Bool)) (u : Value × List Nat) => [dpCh (dSl dGRule 54) 50 u.2 u.1 r.1.xChains])) := by
  refine enterS (args := [v1]) [] hF (Given.nil _ _) Tryd.func26 rfl Tryd.ntmps26 rfl h ?_
  clear h hF
  refine c_seq ?_
  refine c_region ?_
  refine stw (o_alloc rfl [(.slice none 0 0), (.bool false)] zero30 ?_); intro b3
  refine o_as st rfl rfl ?_
  refine c_nil ?_
  refine l_then ?_
  refine c_seq ?_
  refine c_region ?_
  refine stw (o_alloc rfl [(.int .i64 0), (.slice none 0 0), (.bool false)] zero60 ?_); intro b5
  refine c_nil ?_
  refine l_then ?_
  refine c_seq ?_
  refine c_seq ?_
  refine c_region ?_
  refine o_mv st rfl rfl ?_
  refine o_len st el26 2 rfl (reads_snap hv1) rfl rfl ?_
  refine o_mv st rfl rfl ?_
  refine c_nil ?_
  refine l_then ?_
  refine c_block ?_
  refine c_loop (σ := (Int × (List (List GRule)) × Bool × Int)) (fun ((t7, xs9, t13, t14) : (Int × (List (List GRule)) × Bool × Int)) (a : Act) (w : World) => ∃ (v8 : Value) (bb11 : List Nat), Has 25 [(2, (.pointer (some ⟨b3, 0, none⟩))), (4, (.pointer (some ⟨b5, 0, none⟩))), (7, v1), (8, (.int .i64 (lines_0.length : Int))), (9, (.int .i64 t14))] a ∧ Mem (gB F [] w0) (feet []) w0 [cellCh b5 [(.int .i64 t7), v8, (.bool t13)] 60, cellCh b3 [(.slice none 0 0), (.bool false)] 30, snapCh w0 F, dpCh (dSl dGRule 54) 50 bb11 v8 xs9] w) (fun a w hE hm => ⟨(.slice none 0 0), [], hE.sub ⟨rfl, rfl, rfl, rfl, rfl, trivial⟩, ((mem_dnil (dSl dGRule 54) 50 hm).pick [1, 2, 3, 0] rfl)⟩) ?_
  rintro nx15 ⟨t7, xs9, t13, t14⟩ a w ⟨v8, bb11, hE, hm⟩ h
  refine nx_of hE hm h ?_
  clear hE hm h
  refine c_seq ?_
  refine c_region ?_
  refine o_lss st rfl rfl rfl ?_
  refine c_nil ?_
  refine l_then ?_
  refine c_seq ?_
  refine c_cond rfl ?_ ?_
  · refine c_skip ?_
    refine l_then ?_
    refine c_seq ?_
    refine c_block ?_
    refine c_seq ?_
    refine c_region ?_
    refine o_idx st 2 rfl (reads_snap hv1) rfl rfl rfl el26 ?_; intro e16 h17
    refine o_lds st (enc := encStr) (u := (.string e16)) 2 rfl (reads_snap hv1) flelStr rfl h17 rfl rfl ty9 rfl ?_
    refine o_as st rfl rfl ?_
    refine c_nil ?_
    refine l_then ?_
    refine c_seq ?_
    refine c_region ?_
    refine o_mv st rfl rfl ?_
    refine pk [0, 3, 1, 2] rfl ?_
    refine stw (o_call (vs := [(.pointer (some ⟨b5, 0, none⟩)), (.string e16)]) (M0 := [cellCh b5 [(.int .i64 t7), v8, (.bool t13)] 60, dpCh (dSl dGRule 54) 50 bb11 v8 xs9]) Tryd.call43 rfl rfl (by intro w m h; exact (w_impl_reader_take (F := allB [cellCh b5 [(.int .i64 t7), v8, (.bool t13)] 60, dpCh (dSl dGRule 54) 50 bb11 v8 xs9] w) (in_0_state := t7) (in_0_set_Chains := xs9) (in_0_set_Accept := t13) (line_1 := e16) allB_ok m.given (m.rdM 1 rfl (reads_snap hgl0)) ((hgl1.of (m.get (i := 3) rfl)).mono fz_ok) h).mono (fun _ _ k => ret_free (fun r u => (fr_cons free_cell (fr_cons free_dp fr_nil))) k)) ?_); rintro ⟨r18, r19, r20, r24⟩ ⟨v21, bb22⟩
    refine o_not st rfl rfl ?_
    refine c_nil ?_
    refine l_then ?_
    refine c_cond rfl ?_ ?_
    · refine c_seq ?_
      refine c_region ?_
      refine o_bld st (qs := []) (cells := [(.slice none 0 0), (.bool false)]) (by intro ρ h; simp only [List.map_toArray, List.map_cons, List.map_nil]) rfl bld30 rfl ?_
      refine stw (o_stc (cs' := [(.slice none 0 0), (.bool false)]) 2 rfl rfl rfl ty30 rfl rfl rfl rfl ?_)
      refine o_as st rfl rfl ?_
      refine c_nil ?_
      refine l_then ?_
      refine c_ret ?_
      refine b_ret ?_
      refine l_ret ?_
      refine l_ret ?_
      refine b_ret ?_
      refine l_ret ?_
      refine nx_dnil (dSl dGRule 54) 50 ?_
      exact l_end2 Tryd.results26 ((GRuleset.mk ([]) false), false) ((.slice none 0 0), []) (rv_c 3 rfl rfl ty30 rfl) (rv_t rfl) rfl (fun w m => NewCh.ofB m [0] rfl)
    · refine c_skip ?_
      refine b_norm ?_
      refine l_then ?_
      refine c_region ?_
      refine o_add st rfl rfl rfl ?_; intro t26
      refine o_mv st rfl rfl ?_
      refine c_nil ?_
      exact l_join (r19, r20, r24, t26) (fun a w hE hm => ⟨v21, bb22, hE.sub ⟨rfl, rfl, rfl, rfl, rfl, trivial⟩, (hm.pick [0, 2, 3, 1] rfl)⟩)
  · refine c_exit ?_
    refine l_exit ?_
    refine l_exit ?_
    refine b_exit ?_
    refine l_then ?_
    refine c_seq ?_
    refine c_seq ?_
    refine c_region ?_
    refine o_fad st rfl rfl fld60_1 rfl ?_
    refine o_ldc st (v := (.agg #[v8, (.bool t13)])) 0 rfl rfl rfl ty30 rfl ?_
    refine stw (o_callP (vs := [(.agg #[v8, (.bool t13)])]) Tryd.call32 rfl rfl (by intro w m h; exact (w_impl_RulesetValid (F := allB [] w) (s_0 := (GRuleset.mk xs9 t13)) allB_ok (m.rd0 3 rfl reads_dp) (m.rd0 2 rfl (reads_snap hgl0)) h).mono (fun _ _ k => ret_free (fun r u => fr_nil) k)) ?_); rintro r27 _
    refine o_not st rfl rfl ?_
    refine c_nil ?_
    refine l_then ?_
    refine c_cond rfl ?_ ?_
    · refine c_seq ?_
      refine c_region ?_
      refine o_bld st (qs := []) (cells := [(.slice none 0 0), (.bool false)]) (by intro ρ h; simp only [List.map_toArray, List.map_cons, List.map_nil]) rfl bld30 rfl ?_
      refine stw (o_stc (cs' := [(.slice none 0 0), (.bool false)]) 1 rfl rfl rfl ty30 rfl rfl rfl rfl ?_)
      refine o_as st rfl rfl ?_
      refine c_nil ?_
      refine l_then ?_
      refine c_ret ?_
      refine l_ret ?_
      refine nx_dnil (dSl dGRule 54) 50 ?_
      exact l_end2 Tryd.results26 ((GRuleset.mk ([]) false), false) ((.slice none 0 0), []) (rv_c 2 rfl rfl ty30 rfl) (rv_t rfl) rfl (fun w m => NewCh.ofB m [0] rfl)
    · refine c_skip ?_
      refine l_then ?_
      refine c_seq ?_
      refine c_region ?_
      refine o_fad st rfl rfl fld60_1 rfl ?_
      refine o_ldc st (v := (.agg #[v8, (.bool t13)])) 0 rfl rfl rfl ty30 rfl ?_
      refine nx_dp 3 rfl ?_; rintro a29 l30 q31 rfl
      refine stw (o_stc (cs' := [(.slice a29 l30 q31), (.bool t13)]) 1 rfl rfl rfl ty30 rfl rfl rfl rfl ?_)
      refine o_as st rfl rfl ?_
      refine c_nil ?_
      refine l_then ?_
      refine c_ret ?_
      exact l_end2 Tryd.results26 ((GRuleset.mk xs9 t13), true) ((.slice a29 l30 q31), bb11) (rv_c 1 rfl rfl ty30 rfl) (rv_t rfl) rfl (fun w m => NewCh.ofB m [3] rfl)

set_option maxRecDepth 100000 in
set_option maxHeartbeats 8000000 in
theorem w_laws_sameRule {w0 : World} {F : Nat → Prop} {v1 : Value} {v3 : Value} {a_0 : GRule} {b_1 : GRule} {κ : Bool → Prop} (hF : ∀ b, F b → b < w0.heap.size ∧ ¬ feet [] b) (hv1 : Sl elGTest F w0 v1 a_0.xTests) (hv3 : Sl elGTest F w0 v3 b_1.xTests) (h : L_laws_sameRule a_0 b_1 κ) :
    Calls Tryd.prog 50 #[(.agg #[v1, (.int .i64 a_0.xAction), (.int .i64 a_0.xChain)]), (.agg #[v3, (.int .i64 b_1.xAction), (.int .i64 b_1.xChain)])] w0 (Ret [] F w0 κ (fun (r : Bool) (u : Unit) => (.bool r)) (fun (r : Bool) (u : Unit) => [])) := by
  refine enterS (args := [(.agg #[v1, (.int .i64 a_0.xAction), (.int .i64 a_0.xChain)]), (.agg #[v3, (.int .i64 b_1.xAction), (.int .i64 b_1.xChain)])]) [] hF (Given.nil _ _) Tryd.func50 rfl Tryd.ntmps50 rfl h ?_
  clear h hF
  refine c_seq ?_
  refine c_region ?_
  obtain ⟨a5, l6, q7, hs_⟩ := sl_val hv1; subst hs_
  refine stw (o_box rfl rfl [(.slice a5 l6 q7), (.int .i64 a_0.xAction), (.int .i64 a_0.xChain)] rfl ?_); intro b8
  obtain ⟨a10, l11, q12, hs_⟩ := sl_val hv3; subst hs_
  refine stw (o_box rfl rfl [(.slice a10 l11 q12), (.int .i64 b_1.xAction), (.int .i64 b_1.xChain)] rfl ?_); intro b13
  refine o_as st rfl rfl ?_
  refine c_nil ?_
  refine l_then ?_
  refine c_seq ?_
  refine c_seq ?_
  refine c_region ?_
  refine o_fad st rfl rfl fld54_0 rfl ?_
  refine o_ldc st (v := (.slice a5 l6 q7)) 1 rfl rfl rfl ty52 rfl ?_
  refine o_len st el52 2 rfl (reads_snap hv1) rfl rfl ?_
  refine o_fad st rfl rfl fld54_0 rfl ?_
  refine o_ldc st (v := (.slice a10 l11 q12)) 0 rfl rfl rfl ty52 rfl ?_
  refine o_len st el52 2 rfl (reads_snap hv3) rfl rfl ?_
  refine o_neq st und3 rfl rfl rfl ?_
  refine c_nil ?_
  refine l_then ?_
  refine c_cond rfl ?_ ?_
  · refine c_seq ?_
    refine c_region ?_
    refine o_as st rfl rfl ?_
    refine c_nil ?_
    refine l_then ?_
    refine c_ret ?_
    refine l_ret ?_
    exact l_end1 Tryd.results50 false () (rv_t rfl) (fun _ _ => NewCh.nil _ _ _ _)
  · refine c_skip ?_
    refine l_then ?_
    refine c_seq ?_
    refine c_seq ?_
    refine c_region ?_
    refine o_as st rfl rfl ?_
    refine c_nil ?_
    refine l_then ?_
    refine c_block ?_
    refine c_loop (σ := Int) (fun (t15 : Int) (a : Act) (w : World) => Has 43 [(2, (.pointer (some ⟨b8, 0, none⟩))), (3, (.pointer (some ⟨b13, 0, none⟩))), (5, (.int .i64 t15))] a ∧ Mem (gB F [] w0) (feet []) w0 [cellCh b13 [(.slice a10 l11 q12), (.int .i64 b_1.xAction), (.int .i64 b_1.xChain)] 54, cellCh b8 [(.slice a5 l6 q7), (.int .i64 a_0.xAction), (.int .i64 a_0.xChain)] 54, snapCh w0 F] w) (fun a w hE hm => ⟨hE.sub ⟨rfl, rfl, rfl, trivial⟩, (hm.pick [0, 1, 2] rfl)⟩) ?_
    rintro nx16 t15 a w ⟨hE, hm⟩ h
    refine nx_of hE hm h ?_
    clear hE hm h
    refine c_seq ?_
    refine c_seq ?_
    refine c_region ?_
    refine o_mv st rfl rfl ?_
    refine o_fad st rfl rfl fld54_0 rfl ?_
    refine o_ldc st (v := (.slice a5 l6 q7)) 1 rfl rfl rfl ty52 rfl ?_
    refine o_len st el52 2 rfl (reads_snap hv1) rfl rfl ?_
    refine o_lss st rfl rfl rfl ?_
    refine c_nil ?_
    refine l_then ?_
    refine c_cond rfl ?_ ?_
    · refine c_skip ?_
      refine l_then ?_
      refine c_seq ?_
      refine c_block ?_
      refine c_seq ?_
      refine c_draw mixed 11 rfl [cellCh b13 [(.slice a10 l11 q12), (.int .i64 b_1.xAction), (.int .i64 b_1.xChain)] 54, cellCh b8 [(.slice a5 l6 q7), (.int .i64 a_0.xAction), (.int .i64 a_0.xChain)] 54, snapCh w0 F] ?_
      refine o_fad (dt 0 (fun _ m => m)) rfl rfl fld54_0 rfl ?_
      refine o_ldc (dt 1 (fun _ m => m)) (v := (.slice a5 l6 q7)) 1 rfl rfl rfl ty52 rfl ?_
      refine o_mv (dt 2 (fun _ m => m)) rfl rfl ?_
      refine o_idx (dt 3 (fun _ m => m)) 2 rfl (reads_snap hv1) rfl rfl rfl el52 ?_; intro e17 h18
      refine o_lds (dt 4 (fun _ m => m)) (enc := encGTest) (u := (.agg #[(.int .i64 e17.xField), (.int .i64 e17.xLo), (.int .i64 e17.xHi), (.bool e17.xNot)])) 2 rfl (reads_snap hv1) flelGTest rfl h18 rfl rfl ty84 rfl ?_
      refine o_fad (dt 5 (fun _ m => m)) rfl rfl fld54_0 rfl ?_
      refine o_ldc (dt 6 (fun _ m => m)) (v := (.slice a10 l11 q12)) 0 rfl rfl rfl ty52 rfl ?_
      refine o_mv (dt 7 (fun _ m => m)) rfl rfl ?_
      refine o_idx (dt 8 (fun _ m => m)) 2 rfl (reads_snap hv3) rfl rfl rfl el52 ?_; intro e19 h20
      refine o_lds (dt 9 (fun _ m => m)) (enc := encGTest) (u := (.agg #[(.int .i64 e19.xField), (.int .i64 e19.xLo), (.int .i64 e19.xHi), (.bool e19.xNot)])) 2 rfl (reads_snap hv3) flelGTest rfl h20 rfl rfl ty84 rfl ?_
      refine o_bin (dt 10 (fun _ m => m)) (.bool (!(decide (e17 = e19)))) rfl rfl rfl (neqs84 _ _ e17.xField e17.xLo e17.xHi e17.xNot e19.xField e19.xLo e19.xHi e19.xNot) ?_
      refine d_done (by kernel_rfl) ?_
      refine l_then ?_
      refine c_cond rfl ?_ ?_
      · refine c_seq ?_
        refine c_region ?_
        refine o_as st rfl rfl ?_
        refine c_nil ?_
        refine l_then ?_
        refine c_ret ?_
        refine b_ret ?_
        refine l_ret ?_
        refine l_ret ?_
        refine b_ret ?_
        refine l_ret ?_
        exact l_end1 Tryd.results50 false () (rv_t rfl) (fun _ _ => NewCh.nil _ _ _ _)
      · refine c_skip ?_
        refine b_norm ?_
        refine l_then ?_
        refine c_region ?_
        refine o_mv st rfl rfl ?_
        refine o_add st rfl rfl rfl ?_; intro t21
        refine o_as st rfl rfl ?_
        refine c_nil ?_
        exact l_join t21 (fun a w hE hm => ⟨hE.sub ⟨rfl, rfl, rfl, trivial⟩, (hm.pick [0, 1, 2] rfl)⟩)
    · refine c_exit ?_
      refine l_exit ?_
      refine l_exit ?_
      refine b_exit ?_
      refine l_then ?_
      refine c_join (σ := Bool) (fun (t82 : Bool) (a : Act) (w : World) => Has 43 [(4, (.bool t82))] a ∧ Mem (gB F [] w0) (feet []) w0 [] w) ?_ ?_
      · intro k83
        refine c_region ?_
        refine o_fad st rfl rfl fld54_1 rfl ?_
        refine o_ldc st (v := (.int .i64 a_0.xAction)) 1 rfl rfl rfl ty3 rfl ?_
        refine o_fad st rfl rfl fld54_1 rfl ?_
        refine o_ldc st (v := (.int .i64 b_1.xAction)) 0 rfl rfl rfl ty3 rfl ?_
        refine o_eql st und3 rfl rfl rfl ?_
        refine o_mv st rfl rfl ?_
        refine st_sp (dj := 36) rfl ?_ ?_
        · refine o_fad (st_g rfl rfl) rfl rfl fld54_2 rfl ?_
          refine o_ldc (st_g rfl rfl) (v := (.int .i64 a_0.xChain)) 1 rfl rfl rfl ty3 rfl ?_
          refine o_fad (st_g rfl rfl) rfl rfl fld54_2 rfl ?_
          refine o_ldc (st_g rfl rfl) (v := (.int .i64 b_1.xChain)) 0 rfl rfl rfl ty3 rfl ?_
          refine o_eql (st_g rfl rfl) und3 rfl rfl rfl ?_
          refine o_pickT st rfl rfl rfl ?_
          refine o_as st rfl rfl ?_
          refine c_nil ?_
          exact l_join (decide (a_0.xChain = b_1.xChain)) (fun a w hE hm => ⟨hE.sub ⟨rfl, trivial⟩, (hm.pick [] rfl)⟩)
        · refine st_s rfl rfl rfl rfl ?_
          refine st_s rfl rfl rfl rfl ?_
          refine st_s rfl rfl rfl rfl ?_
          refine st_s rfl rfl rfl rfl ?_
          refine st_s rfl rfl rfl rfl ?_
          refine o_pickF st rfl rfl rfl ?_
          refine o_as st rfl rfl ?_
          refine c_nil ?_
          exact l_join false (fun a w hE hm => ⟨hE.sub ⟨rfl, trivial⟩, (hm.pick [] rfl)⟩)
      · rintro t82 a w ⟨hE, hm⟩ h
        refine nx_of hE hm h ?_
        clear hE hm h
        refine c_ret ?_
        exact l_end1 Tryd.results50 t82 () (rv_t rfl) (fun _ _ => NewCh.nil _ _ _ _)

set_option maxRecDepth 100000 in
set_option maxHeartbeats 8000000 in
theorem w_laws_sameRuleset {w0 : World} {F : Nat → Prop} {v1 : Value} {v3 : Value} {a_0 : GRuleset} {b_1 : GRuleset} {κ : Bool → Prop} (hF : ∀ b, F b → b < w0.heap.size ∧ ¬ feet [] b) (hv1 : Sl (elSl elGRule) F w0 v1 a_0.xChains) (hv3 : Sl (elSl elGRule) F w0 v3 b_1.xChains) (h : L_laws_sameRuleset a_0 b_1 κ) :
    Calls Tryd.prog 27 #[(.agg #[v1, (.bool a_0.xAccept)]), (.agg #[v3, (.bool b_1.xAccept)])] w0 (Ret [] F w0 κ (fun (r : Bool) (u : Unit) => (.bool r)) (fun (r : Bool) (u : Unit) => [])) := by
  refine enterS (args := [(.agg #[v1, (.bool a_0.xAccept)]), (.agg #[v3, (.bool b_1.xAccept)])]) [] hF (Given.nil _ _) Tryd.func27 rfl Tryd.ntmps27 rfl h ?_
  clear h hF
  refine c_seq ?_
  refine c_region ?_
  obtain ⟨a5, l6, q7, hs_⟩ := sl_val hv1; subst hs_
  refine stw (o_box rfl rfl [(.slice a5 l6 q7), (.bool a_0.xAccept)] rfl ?_); intro b8
  obtain ⟨a10, l11, q12, hs_⟩ := sl_val hv3; subst hs_
  refine stw (o_box rfl rfl [(.slice a10 l11 q12), (.bool b_1.xAccept)] rfl ?_); intro b13
  refine o_as st rfl rfl ?_
  refine c_nil ?_
  refine l_then ?_
  refine c_seq ?_
  refine c_seq ?_
  refine c_region ?_
  refine o_fad st rfl rfl fld30_0 rfl ?_
  refine o_ldc st (v := (.slice a5 l6 q7)) 1 rfl rfl rfl ty28 rfl ?_
  refine o_len st el28 2 rfl (reads_snap hv1) rfl rfl ?_
  refine o_fad st rfl rfl fld30_0 rfl ?_
  refine o_ldc st (v := (.slice a10 l11 q12)) 0 rfl rfl rfl ty28 rfl ?_
  refine o_len st el28 2 rfl (reads_snap hv3) rfl rfl ?_
  refine o_neq st und3 rfl rfl rfl ?_
  refine c_nil ?_
  refine l_then ?_
  refine c_cond rfl ?_ ?_
  · refine c_seq ?_
    refine c_region ?_
    refine o_as st rfl rfl ?_
    refine c_nil ?_
    refine l_then ?_
    refine c_ret ?_
    refine l_ret ?_
    exact l_end1 Tryd.results27 false () (rv_t rfl) (fun _ _ => NewCh.nil _ _ _ _)
  · refine c_skip ?_
    refine l_then ?_
    refine c_seq ?_
    refine c_seq ?_
    refine c_region ?_
    refine o_as st rfl rfl ?_
    refine c_nil ?_
    refine l_then ?_
    refine c_block ?_
    refine c_loop (σ := Int) (fun (t15 : Int) (a : Act) (w : World) => Has 67 [(2, (.pointer (some ⟨b8, 0, none⟩))), (3, (.pointer (some ⟨b13, 0, none⟩))), (5, (.int .i64 t15))] a ∧ Mem (gB F [] w0) (feet []) w0 [cellCh b13 [(.slice a10 l11 q12), (.bool b_1.xAccept)] 30, cellCh b8 [(.slice a5 l6 q7), (.bool a_0.xAccept)] 30, snapCh w0 F] w) (fun a w hE hm => ⟨hE.sub ⟨rfl, rfl, rfl, trivial⟩, (hm.pick [0, 1, 2] rfl)⟩) ?_
    rintro nx16 t15 a w ⟨hE, hm⟩ h
    refine nx_of hE hm h ?_
    clear hE hm h
    refine c_seq ?_
    refine c_seq ?_
    refine c_region ?_
    refine o_mv st rfl rfl ?_
    refine o_fad st rfl rfl fld30_0 rfl ?_
    refine o_ldc st (v := (.slice a5 l6 q7)) 1 rfl rfl rfl ty28 rfl ?_
    refine o_len st el28 2 rfl (reads_snap hv1) rfl rfl ?_
    refine o_lss st rfl rfl rfl ?_
    refine c_nil ?_
    refine l_then ?_
    refine c_cond rfl ?_ ?_
    · refine c_skip ?_
      refine l_then ?_
      refine c_seq ?_
      refine c_block ?_
      refine c_seq ?_
      refine c_seq ?_
      refine c_draw mixed 13 rfl [cellCh b13 [(.slice a10 l11 q12), (.bool b_1.xAccept)] 30, cellCh b8 [(.slice a5 l6 q7), (.bool a_0.xAccept)] 30, snapCh w0 F] ?_
      refine o_fad (dt 0 (fun _ m => m)) rfl rfl fld30_0 rfl ?_
      refine o_ldc (dt 1 (fun _ m => m)) (v := (.slice a5 l6 q7)) 1 rfl rfl rfl ty28 rfl ?_
      refine o_mv (dt 2 (fun _ m => m)) rfl rfl ?_
      refine o_idx (dt 3 (fun _ m => m)) 2 rfl (reads_snap hv1) rfl rfl rfl el28 ?_; intro e17 h18
      obtain ⟨_, ⟨v20, rfl, sl21⟩, rw19⟩ := sl_open hv1 h18
      refine o_ldR (dt 4 (fun _ m => m)) (u := v20) 2 rfl rw19 rfl rfl ty50 rfl ?_
      refine o_len (dt 5 (fun _ m => m)) el50 2 rfl (reads_snap sl21) rfl rfl ?_
      refine o_fad (dt 6 (fun _ m => m)) rfl rfl fld30_0 rfl ?_
      refine o_ldc (dt 7 (fun _ m => m)) (v := (.slice a10 l11 q12)) 0 rfl rfl rfl ty28 rfl ?_
      refine o_mv (dt 8 (fun _ m => m)) rfl rfl ?_
      refine o_idx (dt 9 (fun _ m => m)) 2 rfl (reads_snap hv3) rfl rfl rfl el28 ?_; intro e23 h24
      obtain ⟨_, ⟨v26, rfl, sl27⟩, rw25⟩ := sl_open hv3 h24
      refine o_ldR (dt 10 (fun _ m => m)) (u := v26) 2 rfl rw25 rfl rfl ty50 rfl ?_
      refine o_len (dt 11 (fun _ m => m)) el50 2 rfl (reads_snap sl27) rfl rfl ?_
      refine o_neq (dt 12 (fun _ m => m)) und3 rfl rfl rfl ?_
      refine d_done (by kernel_rfl) ?_
      refine l_then ?_
      refine c_cond rfl ?_ ?_
      · refine c_seq ?_
        refine c_region ?_
        refine o_as st rfl rfl ?_
        refine c_nil ?_
        refine l_then ?_
        refine c_ret ?_
        refine l_ret ?_
        refine b_ret ?_
        refine l_ret ?_
        refine l_ret ?_
        refine b_ret ?_
        refine l_ret ?_
        exact l_end1 Tryd.results27 false () (rv_t rfl) (fun _ _ => NewCh.nil _ _ _ _)
      · refine c_skip ?_
        refine l_then ?_
        refine c_seq ?_
        refine c_region ?_
        refine o_as st rfl rfl ?_
        refine c_nil ?_
        refine l_then ?_
        refine c_block ?_
        refine c_loop (σ := Int) (fun (t29 : Int) (a : Act) (w : World) => Has 67 [(2, (.pointer (some ⟨b8, 0, none⟩))), (3, (.pointer (some ⟨b13, 0, none⟩))), (5, (.int .i64 t15)), (6, (.int .i64 t29))] a ∧ Mem (gB F [] w0) (feet []) w0 [cellCh b13 [(.slice a10 l11 q12), (.bool b_1.xAccept)] 30, cellCh b8 [(.slice a5 l6 q7), (.bool a_0.xAccept)] 30, snapCh w0 F] w) (fun a w hE hm => ⟨hE.sub ⟨rfl, rfl, rfl, rfl, trivial⟩, (hm.pick [0, 1, 2] rfl)⟩) ?_
        rintro nx30 t29 a w ⟨hE, hm⟩ h
        refine nx_of hE hm h ?_
        clear hE hm h
        refine c_seq ?_
        refine c_seq ?_
        refine c_region ?_
        refine o_mv st rfl rfl ?_
        refine o_fad st rfl rfl fld30_0 rfl ?_
        refine o_ldc st (v := (.slice a5 l6 q7)) 1 rfl rfl rfl ty28 rfl ?_
        refine o_mv st rfl rfl ?_
        refine o_idx st 2 rfl (reads_snap hv1) rfl rfl rfl el28 ?_; intro e31 h32
        obtain ⟨_, ⟨v34, rfl, sl35⟩, rw33⟩ := sl_open hv1 h32
        refine o_ldR st (u := v34) 2 rfl rw33 rfl rfl ty50 rfl ?_
        refine o_len st el50 2 rfl (reads_snap sl35) rfl rfl ?_
        refine o_lss st rfl rfl rfl ?_
        refine c_nil ?_
        refine l_then ?_
        refine c_cond rfl ?_ ?_
        · refine c_skip ?_
          refine l_then ?_
          refine c_seq ?_
          refine c_block ?_
          refine c_seq ?_
          refine c_draw mixed 18 rfl [cellCh b13 [(.slice a10 l11 q12), (.bool b_1.xAccept)] 30, cellCh b8 [(.slice a5 l6 q7), (.bool a_0.xAccept)] 30, snapCh w0 F] ?_
          refine o_fad (dt 0 (fun _ m => m)) rfl rfl fld30_0 rfl ?_
          refine o_ldc (dt 1 (fun _ m => m)) (v := (.slice a5 l6 q7)) 1 rfl rfl rfl ty28 rfl ?_
          refine o_mv (dt 2 (fun _ m => m)) rfl rfl ?_
          refine o_idx (dt 3 (fun _ m => m)) 2 rfl (reads_snap hv1) rfl rfl rfl el28 ?_; intro e37 h38
          obtain ⟨_, ⟨v40, rfl, sl41⟩, rw39⟩ := sl_open hv1 h38
          refine o_ldR (dt 4 (fun _ m => m)) (u := v40) 2 rfl rw39 rfl rfl ty50 rfl ?_
          refine o_mv (dt 5 (fun _ m => m)) rfl rfl ?_
          refine o_idx (dt 6 (fun _ m => m)) 2 rfl (reads_snap sl41) rfl rfl rfl el50 ?_; intro e43 h44
          obtain ⟨_, ⟨v46, rfl, sl47⟩, rw45⟩ := sl_open sl41 h44
          refine o_ldR (dt 7 (fun _ m => m)) (u := (.agg #[v46, (.int .i64 e43.xAction), (.int .i64 e43.xChain)])) 2 rfl rw45 rfl rfl ty54 rfl ?_
          refine o_fad (dt 8 (fun _ m => m)) rfl rfl fld30_0 rfl ?_
          refine o_ldc (dt 9 (fun _ m => m)) (v := (.slice a10 l11 q12)) 0 rfl rfl rfl ty28 rfl ?_
          refine o_mv (dt 10 (fun _ m => m)) rfl rfl ?_
          refine o_idx (dt 11 (fun _ m => m)) 2 rfl (reads_snap hv3) rfl rfl rfl el28 ?_; intro e49 h50
          obtain ⟨_, ⟨v52, rfl, sl53⟩, rw51⟩ := sl_open hv3 h50
          refine o_ldR (dt 12 (fun _ m => m)) (u := v52) 2 rfl rw51 rfl rfl ty50 rfl ?_
          refine o_mv (dt 13 (fun _ m => m)) rfl rfl ?_
          refine o_idx (dt 14 (fun _ m => m)) 2 rfl (reads_snap sl53) rfl rfl rfl el50 ?_; intro e55 h56
          obtain ⟨_, ⟨v58, rfl, sl59⟩, rw57⟩ := sl_open sl53 h56
          refine o_ldR (dt 15 (fun _ m => m)) (u := (.agg #[v58, (.int .i64 e55.xAction), (.int .i64 e55.xChain)])) 2 rfl rw57 rfl rfl ty54 rfl ?_
          refine d_one (i := 16) rfl (by kernel_rfl) (o_callP (vs := [(.agg #[v46, (.int .i64 e43.xAction), (.int .i64 e43.xChain)]), (.agg #[v58, (.int .i64 e55.xAction), (.int .i64 e55.xChain)])]) Tryd.call50 rfl rfl (by intro w m h; exact (w_laws_sameRule (F := allB [] w) (a_0 := e43) (b_1 := e55) allB_ok (m.rd0 2 rfl (reads_snap sl47)) (m.rd0 2 rfl (reads_snap sl59)) h).mono (fun _ _ k => ret_free (fun r u => fr_nil) k)) ?_); rintro r61 _
          refine d_and (fun _ m => m) ?_
          refine o_not (dt 17 (fun _ m => m)) rfl rfl ?_
          refine d_done (by kernel_rfl) ?_
          refine l_then ?_
          refine c_cond rfl ?_ ?_
          · refine c_seq ?_
            refine c_region ?_
            refine o_as st rfl rfl ?_
            refine c_nil ?_
            refine l_then ?_
            refine c_ret ?_
            refine b_ret ?_
            refine l_ret ?_
            refine l_ret ?_
            refine b_ret ?_
            refine b_ret ?_
            refine l_ret ?_
            refine l_ret ?_
            refine b_ret ?_
            refine l_ret ?_
            exact l_end1 Tryd.results27 false () (rv_t rfl) (fun _ _ => NewCh.nil _ _ _ _)
          · refine c_skip ?_
            refine b_norm ?_
            refine l_then ?_
            refine c_region ?_
            refine o_mv st rfl rfl ?_
            refine o_add st rfl rfl rfl ?_; intro t62
            refine o_as st rfl rfl ?_
            refine c_nil ?_
            exact l_join t62 (fun a w hE hm => ⟨hE.sub ⟨rfl, rfl, rfl, rfl, trivial⟩, (hm.pick [0, 1, 2] rfl)⟩)
        · refine c_exit ?_
          refine l_exit ?_
          refine l_exit ?_
          refine b_exit ?_
          refine b_norm ?_
          refine l_then ?_
          refine c_region ?_
          refine o_mv st rfl rfl ?_
          refine o_add st rfl rfl rfl ?_; intro t63
          refine o_as st rfl rfl ?_
          refine c_nil ?_
          exact l_join t63 (fun a w hE hm => ⟨hE.sub ⟨rfl, rfl, rfl, trivial⟩, (hm.pick [0, 1, 2] rfl)⟩)
    · refine c_exit ?_
      refine l_exit ?_
      refine l_exit ?_
      refine b_exit ?_
      refine l_then ?_
      refine c_seq ?_
      refine c_region ?_
      refine o_fad st rfl rfl fld30_1 rfl ?_
      refine o_ldc st (v := (.bool a_0.xAccept)) 1 rfl rfl rfl ty4 rfl ?_
      refine o_fad st rfl rfl fld30_1 rfl ?_
      refine o_ldc st (v := (.bool b_1.xAccept)) 0 rfl rfl rfl ty4 rfl ?_
      refine o_eqlB st und4 rfl rfl rfl ?_
      refine o_as st rfl rfl ?_
      refine c_nil ?_
      refine l_then ?_
      refine c_ret ?_
      exact l_end1 Tryd.results27 (decide (a_0.xAccept = b_1.xAccept)) () (rv_t rfl) (fun _ _ => NewCh.nil _ _ _ _)

end
section
open Go.RowKit
set_option maxRecDepth 100000 in
set_option maxHeartbeats 8000000 in
theorem w_spec_l20Line {w0 : World} {F : Nat → Prop} {b1 : Nat} {v2 : Value} {r_0_b : (List UInt8)} {r_0_p : Int} {n_1 : Int} {κ : (ByteArray × Int) → Prop} (hF : ∀ b, F b → b < w0.heap.size ∧ ¬ feet [cellCh b1 [v2, (.int .i64 r_0_p)] 96] b) (hg : Given [cellCh b1 [v2, (.int .i64 r_0_p)] 96] F w0) (hv2 : Sl elU8 F w0 v2 r_0_b) (h : L_spec_l20Line r_0_b r_0_p n_1 κ) :
    Calls Tryd.prog 74 #[(.pointer (some ⟨b1, 0, none⟩)), (.int .i64 n_1)] w0 (Ret [cellCh b1 [v2, (.int .i64 r_0_p)] 96] F w0 κ (fun (r : (ByteArray × Int)) (u : Unit) => (.string r.1)) (fun (r : (ByteArray × Int)) (u : Unit) => [cellCh b1 [v2, (.int .i64 r.2)] 96])) := by
  refine enterS (args := [(.pointer (some ⟨b1, 0, none⟩)), (.int .i64 n_1)]) [cellCh b1 [v2, (.int .i64 r_0_p)] 96] hF hg Tryd.func74 rfl Tryd.ntmps74 rfl h ?_
  clear h hF hg
  refine c_seq ?_
  refine c_region ?_
  refine o_as st rfl rfl ?_
  refine c_nil ?_
  refine l_then ?_
  refine c_seq ?_
  refine c_region ?_
  refine o_mv st rfl rfl ?_
  refine stw (o_call (vs := [(.pointer (some ⟨b1, 0, none⟩)), (.int .i64 1), (.int .i64 3), (.int .i64 0)]) (M0 := [cellCh b1 [v2, (.int .i64 r_0_p)] 96]) Tryd.call85 rfl rfl (by intro w m h; exact (w_spec_l20Rule (F := allB [cellCh b1 [v2, (.int .i64 r_0_p)] 96] w) (r_0_b := r_0_b) (r_0_p := r_0_p) (first_1 := 1) (chains_2 := 3) (n_3 := 0) allB_ok m.given (m.rdM 0 rfl (reads_snap hv2)) h).mono (fun _ _ k => ret_free (fun r u => (fr_cons (free_own flelGTest) (fr_cons free_cell fr_nil))) k)) ?_); rintro ⟨r5, r8⟩ v6
  refine stw (o_callP (vs := [(.agg #[v6, (.int .i64 r5.xAction), (.int .i64 r5.xChain)])]) Tryd.call35 rfl rfl (by intro w m h; exact (w_spec_RuleText (F := allB [] w) (r_0 := r5) allB_ok (m.rd0 0 rfl reads_own) h).mono (fun _ _ k => ret_free (fun r u => fr_nil) k)) ?_); rintro r9 _
  refine o_as st rfl rfl ?_
  refine c_nil ?_
  refine l_then ?_
  refine c_join (σ := (Int × ByteArray)) (fun ((t81, t82) : (Int × ByteArray)) (a : Act) (w : World) => Has 24 [(5, (.string t82))] a ∧ Mem (gB F [cellCh b1 [v2, (.int .i64 r_0_p)] 96] w0) (feet [cellCh b1 [v2, (.int .i64 r_0_p)] 96]) w0 [cellCh b1 [v2, (.int .i64 t81)] 96, snapCh w0 F] w) ?_ ?_
  · intro k83
    refine c_seq ?_
    refine c_region ?_
    refine o_mv st rfl rfl ?_
    refine o_mv st rfl rfl ?_
    refine pk [1, 0, 2] rfl ?_
    refine stw (o_call (vs := [(.pointer (some ⟨b1, 0, none⟩)), (.int .i64 n_1)]) (M0 := [cellCh b1 [v2, (.int .i64 r8)] 96]) Tryd.call70 rfl rfl (by intro w m h; exact (w_spec_l20Rd_odd (F := allB [cellCh b1 [v2, (.int .i64 r8)] 96] w) (r_0_b := r_0_b) (r_0_p := r8) (n_1 := n_1) allB_ok m.given (m.rdM 1 rfl (reads_snap hv2)) h).mono (fun _ _ k => ret_free (fun r u => (fr_cons free_cell fr_nil)) k)) ?_); rintro ⟨r10, r11⟩ _
    refine c_nil ?_
    refine l_then ?_
    refine c_cond rfl ?_ ?_
    · refine c_region ?_
      refine o_mv st rfl rfl ?_
      refine o_cat st rfl rfl rfl ?_; intro s12
      refine o_mv st rfl rfl ?_
      refine o_cat st rfl rfl rfl ?_; intro s13
      refine o_mv st rfl rfl ?_
      refine o_cat st rfl rfl rfl ?_; intro s14
      refine stw (o_bsl (enc := encStr) (qs := [(0, (.string s12)), (1, (.string s13)), (2, (.string (ByteArray.mk #[99, 97, 108, 108]))), (3, (.string (ByteArray.mk #[99, 97, 108, 108, 32, 53]))), (4, (.string (ByteArray.mk #[97, 99, 99, 101, 112, 116, 32, 49]))), (5, (.string (ByteArray.mk #[]))), (6, (.string (ByteArray.mk #[100, 114, 111, 112, 44, 116, 111, 32, 49]))), (7, (.string (ByteArray.mk #[114, 101, 116, 117, 114, 110, 44, 32, 102, 114, 111, 109, 32, 57, 45, 56]))), (8, (.string s14)), (9, (.string (ByteArray.mk #[99, 104, 97, 105, 110, 32, 48]))), (10, (.string (ByteArray.mk #[110, 111, 110, 101, 44, 32, 112, 111, 114, 116, 32, 49, 44, 32, 112, 111, 114, 116, 32, 49, 44, 32, 112, 111, 114, 116, 32, 49, 44, 32, 112, 111, 114, 116, 32, 49, 44, 32, 112, 111, 114, 116, 32, 49, 44, 32, 112, 111, 114, 116, 32, 49, 44, 32, 112, 111, 114, 116, 32, 49])))]) (cells := [(.string s12), (.string s13), (.string (ByteArray.mk #[99, 97, 108, 108])), (.string (ByteArray.mk #[99, 97, 108, 108, 32, 53])), (.string (ByteArray.mk #[97, 99, 99, 101, 112, 116, 32, 49])), (.string (ByteArray.mk #[])), (.string (ByteArray.mk #[100, 114, 111, 112, 44, 116, 111, 32, 49])), (.string (ByteArray.mk #[114, 101, 116, 117, 114, 110, 44, 32, 102, 114, 111, 109, 32, 57, 45, 56])), (.string s14), (.string (ByteArray.mk #[99, 104, 97, 105, 110, 32, 48])), (.string (ByteArray.mk #[110, 111, 110, 101, 44, 32, 112, 111, 114, 116, 32, 49, 44, 32, 112, 111, 114, 116, 32, 49, 44, 32, 112, 111, 114, 116, 32, 49, 44, 32, 112, 111, 114, 116, 32, 49, 44, 32, 112, 111, 114, 116, 32, 49, 44, 32, 112, 111, 114, 116, 32, 49, 44, 32, 112, 111, 114, 116, 32, 49]))]) ([s12, s13, (ByteArray.mk #[99, 97, 108, 108]), (ByteArray.mk #[99, 97, 108, 108, 32, 53]), (ByteArray.mk #[97, 99, 99, 101, 112, 116, 32, 49]), (ByteArray.mk #[]), (ByteArray.mk #[100, 114, 111, 112, 44, 116, 111, 32, 49]), (ByteArray.mk #[114, 101, 116, 117, 114, 110, 44, 32, 102, 114, 111, 109, 32, 57, 45, 56]), s14, (ByteArray.mk #[99, 104, 97, 105, 110, 32, 48]), (ByteArray.mk #[110, 111, 110, 101, 44, 32, 112, 111, 114, 116, 32, 49, 44, 32, 112, 111, 114, 116, 32, 49, 44, 32, 112, 111, 114, 116, 32, 49, 44, 32, 112, 111, 114, 116, 32, 49, 44, 32, 112, 111, 114, 116, 32, 49, 44, 32, 112, 111, 114, 116, 32, 49, 44, 32, 112, 111, 114, 116, 32, 49])]) flelStr (by intro ρ h; simp only [List.map_toArray, List.map_cons, List.map_nil, h (.tmp 13) _ rfl, h (.tmp 15) _ rfl, h (.const (.string (ByteArray.mk #[99, 97, 108, 108]))) _ rfl, h (.const (.string (ByteArray.mk #[99, 97, 108, 108, 32, 53]))) _ rfl, h (.const (.string (ByteArray.mk #[97, 99, 99, 101, 112, 116, 32, 49]))) _ rfl, h (.const (.string (ByteArray.mk #[]))) _ rfl, h (.const (.string (ByteArray.mk #[100, 114, 111, 112, 44, 116, 111, 32, 49]))) _ rfl, h (.const (.string (ByteArray.mk #[114, 101, 116, 117, 114, 110, 44, 32, 102, 114, 111, 109, 32, 57, 45, 56]))) _ rfl, h (.tmp 17) _ rfl, h (.const (.string (ByteArray.mk #[99, 104, 97, 105, 110, 32, 48]))) _ rfl, h (.const (.string (ByteArray.mk #[110, 111, 110, 101, 44, 32, 112, 111, 114, 116, 32, 49, 44, 32, 112, 111, 114, 116, 32, 49, 44, 32, 112, 111, 114, 116, 32, 49, 44, 32, 112, 111, 114, 116, 32, 49, 44, 32, 112, 111, 114, 116, 32, 49, 44, 32, 112, 111, 114, 116, 32, 49, 44, 32, 112, 111, 114, 116, 32, 49]))) _ rfl]) rfl el26 zero9 rfl rfl rfl rfl rfl rfl ?_); intro v15
      refine o_mv st rfl rfl ?_
      refine pk [1, 0, 2, 3] rfl ?_
      refine stw (o_call (vs := [(.pointer (some ⟨b1, 0, none⟩)), (.int .i64 11)]) (M0 := [cellCh b1 [v2, (.int .i64 r11)] 96]) Tryd.call68 rfl rfl (by intro w m h; exact (w_spec_l20Rd_pick (F := allB [cellCh b1 [v2, (.int .i64 r11)] 96] w) (r_0_b := r_0_b) (r_0_p := r11) (n_1 := 11) allB_ok m.given (m.rdM 2 rfl (reads_snap hv2)) h).mono (fun _ _ k => ret_free (fun r u => (fr_cons free_cell fr_nil)) k)) ?_); rintro ⟨r17, r18⟩ _
      refine o_idx st 1 rfl reads_own rfl rfl rfl el26 ?_; intro e19 h20
      refine o_lds st (enc := encStr) (u := (.string e19)) 1 rfl reads_own flelStr rfl h20 rfl rfl ty9 rfl ?_
      refine o_as st rfl rfl ?_
      refine c_nil ?_
      exact l_join (r18, e19) (fun a w hE hm => ⟨hE.sub ⟨rfl, trivial⟩, (hm.pick [0, 3] rfl)⟩)
    · refine c_skip ?_
      exact l_join (r11, r9) (fun a w hE hm => ⟨hE.sub ⟨rfl, trivial⟩, (hm.pick [0, 2] rfl)⟩)
  · rintro ⟨t81, t82⟩ a w ⟨hE, hm⟩ h
    refine nx_of hE hm h ?_
    clear hE hm h
    refine c_seq ?_
    refine c_region ?_
    refine o_mv st rfl rfl ?_
    refine o_as st rfl rfl ?_
    refine c_nil ?_
    refine l_then ?_
    refine c_ret ?_
    exact l_end1 Tryd.results74 (t82, t81) () (rv_t rfl) (fun w m => NewCh.ofB m [0] rfl)

set_option maxRecDepth 100000 in
set_option maxHeartbeats 8000000 in
theorem w_spec_l20Lines {w0 : World} {F : Nat → Prop} {b1 : Nat} {v2 : Value} {r_0_b : (List UInt8)} {r_0_p : Int} {n_1 : Int} {κ : ((List ByteArray) × Int) → Prop} (hF : ∀ b, F b → b < w0.heap.size ∧ ¬ feet [cellCh b1 [v2, (.int .i64 r_0_p)] 96] b) (hg : Given [cellCh b1 [v2, (.int .i64 r_0_p)] 96] F w0) (hv2 : Sl elU8 F w0 v2 r_0_b) (h : L_spec_l20Lines r_0_b r_0_p n_1 κ) :
    Calls Tryd.prog 53 #[(.pointer (some ⟨b1, 0, none⟩)), (.int .i64 n_1)] w0 (Ret [cellCh b1 [v2, (.int .i64 r_0_p)] 96] F w0 κ (fun (r : ((List ByteArray) × Int)) (u : Value) => u) (fun (r : ((List ByteArray) × Int)) (u : Value) => [roCh elStr u r.1, cellCh b1 [v2, (.int .i64 r.2)] 96])) := by
  refine enterS (args := [(.pointer (some ⟨b1, 0, none⟩)), (.int .i64 n_1)]) [cellCh b1 [v2, (.int .i64 r_0_p)] 96] hF hg Tryd.func53 rfl Tryd.ntmps53 rfl h ?_
  clear h hF hg
  refine c_seq ?_
  refine c_region ?_
  refine stw (o_asn elStr 9 rfl rfl ?_)
  refine c_nil ?_
  refine l_then ?_
  refine c_seq ?_
  refine c_region ?_
  refine o_mv st rfl rfl ?_
  refine pk [1, 0, 2] rfl ?_
  refine stw (o_call (vs := [(.pointer (some ⟨b1, 0, none⟩)), (.int .i64 0)]) (M0 := [cellCh b1 [v2, (.int .i64 r_0_p)] 96]) Tryd.call44 rfl rfl (by intro w m h; exact (w_spec_l20Ruleset (F := allB [cellCh b1 [v2, (.int .i64 r_0_p)] 96] w) (r_0_b := r_0_b) (r_0_p := r_0_p) (n_1 := 0) allB_ok m.given (m.rdM 1 rfl (reads_snap hv2)) h).mono (fun _ _ k => ret_free (fun r u => (fr_cons free_dp (fr_cons free_cell fr_nil))) k)) ?_); rintro ⟨r6, r10⟩ ⟨v7, bb8⟩
  refine stw (o_callP (vs := [(.agg #[v7, (.bool r6.xAccept)])]) Tryd.call10 rfl rfl (by intro w m h; exact (w_spec_RulesetText (F := allB [] w) (s_0 := r6) allB_ok (m.rd0 0 rfl reads_dp) h).mono (fun _ _ k => ret_free (fun r u => (fr_cons (free_own flelStr) fr_nil)) k)) ?_); rintro r11 v12
  refine o_as st rfl rfl ?_
  refine c_nil ?_
  refine l_then ?_
  refine c_join (σ := (Int × (List ByteArray))) (fun ((t112, xs114) : (Int × (List ByteArray))) (a : Act) (w : World) => ∃ (v113 : Value), Has 57 [(5, v113)] a ∧ Mem (gB F [cellCh b1 [v2, (.int .i64 r_0_p)] 96] w0) (feet [cellCh b1 [v2, (.int .i64 r_0_p)] 96]) w0 [cellCh b1 [v2, (.int .i64 t112)] 96, snapCh w0 F, roCh elStr v113 xs114] w) ?_ ?_
  · intro k117
    refine c_seq ?_
    refine c_region ?_
    refine o_mv st rfl rfl ?_
    refine o_mv st rfl rfl ?_
    refine pk [2, 0, 1, 3, 4] rfl ?_
    refine stw (o_call (vs := [(.pointer (some ⟨b1, 0, none⟩)), (.int .i64 n_1)]) (M0 := [cellCh b1 [v2, (.int .i64 r10)] 96]) Tryd.call70 rfl rfl (by intro w m h; exact (w_spec_l20Rd_odd (F := allB [cellCh b1 [v2, (.int .i64 r10)] 96] w) (r_0_b := r_0_b) (r_0_p := r10) (n_1 := n_1) allB_ok m.given (m.rdM 3 rfl (reads_snap hv2)) h).mono (fun _ _ k => ret_free (fun r u => (fr_cons free_cell fr_nil)) k)) ?_); rintro ⟨r14, r15⟩ _
    refine c_nil ?_
    refine l_then ?_
    refine c_cond rfl ?_ ?_
    · refine c_seq ?_
      refine c_region ?_
      refine o_mv st rfl rfl ?_
      refine stw (o_call (vs := [(.pointer (some ⟨b1, 0, none⟩)), (.int .i64 6)]) (M0 := [cellCh b1 [v2, (.int .i64 r15)] 96]) Tryd.call68 rfl rfl (by intro w m h; exact (w_spec_l20Rd_pick (F := allB [cellCh b1 [v2, (.int .i64 r15)] 96] w) (r_0_b := r_0_b) (r_0_p := r15) (n_1 := 6) allB_ok m.given (m.rdM 3 rfl (reads_snap hv2)) h).mono (fun _ _ k => ret_free (fun r u => (fr_cons free_cell fr_nil)) k)) ?_); rintro ⟨r16, r17⟩ _
      refine c_nil ?_
      refine l_then ?_
      refine c_block ?_
      refine c_seq ?_
      refine c_region ?_
      refine o_eql st und3 rfl rfl rfl ?_
      refine o_as st rfl rfl ?_
      refine c_nil ?_
      refine l_then ?_
      refine c_cond rfl ?_ ?_
      · refine c_region ?_
        refine o_mv st rfl rfl ?_
        refine o_mv st rfl rfl ?_
        refine stw (o_call (vs := [(.pointer (some ⟨b1, 0, none⟩)), (.int .i64 1)]) (M0 := [cellCh b1 [v2, (.int .i64 r17)] 96]) Tryd.call74 rfl rfl (by intro w m h; exact (w_spec_l20Line (F := allB [cellCh b1 [v2, (.int .i64 r17)] 96] w) (r_0_b := r_0_b) (r_0_p := r17) (n_1 := 1) allB_ok m.given (m.rdM 3 rfl (reads_snap hv2)) h).mono (fun _ _ k => ret_free (fun r u => (fr_cons free_cell fr_nil)) k)) ?_); rintro ⟨r18, r19⟩ _
        refine stw (o_bsl (enc := encStr) (qs := [(0, (.string r18))]) (cells := [(.string r18)]) ([r18]) flelStr (by intro ρ h; simp only [List.map_toArray, List.map_cons, List.map_nil, h (.tmp 25) _ rfl]) rfl el26 zero9 rfl rfl rfl rfl rfl rfl ?_); intro v20
        refine stw (o_app 2 0 rfl rfl (src_flat flelStr reads_own) rfl rfl rfl el26 rfl zero9 rfl rfl ?_); intro v22
        refine o_as st rfl rfl ?_
        refine c_nil ?_
        refine b_norm ?_
        exact l_join (r19, (r11 ++ ([r18]))) (fun a w hE hm => ⟨v22, hE.sub ⟨rfl, trivial⟩, ((hm.freeze 2 rfl reads_own).pick [1, 5, 2] rfl)⟩)
      · refine c_seq ?_
        refine c_region ?_
        refine o_eql st und3 rfl rfl rfl ?_
        refine o_as st rfl rfl ?_
        refine c_nil ?_
        refine l_then ?_
        refine c_cond rfl ?_ ?_
        · refine c_region ?_
          refine o_mv st rfl rfl ?_
          refine stw (o_bsl (enc := encStr) (qs := [(0, (.string (ByteArray.mk #[99, 97, 108, 108, 32, 48])))]) (cells := [(.string (ByteArray.mk #[99, 97, 108, 108, 32, 48]))]) ([(ByteArray.mk #[99, 97, 108, 108, 32, 48])]) flelStr (by intro ρ h; simp only [List.map_toArray, List.map_cons, List.map_nil, h (.const (.string (ByteArray.mk #[99, 97, 108, 108, 32, 48]))) _ rfl]) rfl el26 zero9 rfl rfl rfl rfl rfl rfl ?_); intro v24
          refine stw (o_app 2 0 rfl rfl (src_flat flelStr reads_own) rfl rfl rfl el26 rfl zero9 rfl rfl ?_); intro v26
          refine o_as st rfl rfl ?_
          refine c_nil ?_
          refine b_norm ?_
          exact l_join (r17, (r11 ++ ([(ByteArray.mk #[99, 97, 108, 108, 32, 48])]))) (fun a w hE hm => ⟨v26, hE.sub ⟨rfl, trivial⟩, ((hm.freeze 2 rfl reads_own).pick [1, 5, 2] rfl)⟩)
        · refine c_seq ?_
          refine c_region ?_
          refine o_eql st und3 rfl rfl rfl ?_
          refine o_as st rfl rfl ?_
          refine c_nil ?_
          refine l_then ?_
          refine c_cond rfl ?_ ?_
          · refine c_region ?_
            refine o_mv st rfl rfl ?_
            refine o_mv st rfl rfl ?_
            refine o_mv st rfl rfl ?_
            refine o_len st el26 1 rfl reads_own rfl rfl ?_
            refine stw (o_call (vs := [(.pointer (some ⟨b1, 0, none⟩)), (.int .i64 (r11.length : Int))]) (M0 := [cellCh b1 [v2, (.int .i64 r17)] 96]) Tryd.call68 rfl rfl (by intro w m h; exact (w_spec_l20Rd_pick (F := allB [cellCh b1 [v2, (.int .i64 r17)] 96] w) (r_0_b := r_0_b) (r_0_p := r17) (n_1 := (r11.length : Int)) allB_ok m.given (m.rdM 3 rfl (reads_snap hv2)) h).mono (fun _ _ k => ret_free (fun r u => (fr_cons free_cell fr_nil)) k)) ?_); rintro ⟨r28, r29⟩ _
            refine frz 1 rfl reads_own ?_
            refine stw (o_slc (I := 0) (J := r28) 1 rfl rfl rfl rfl rfl el26 rfl ?_); intro v30 xs31
            refine o_as st rfl rfl ?_
            refine c_nil ?_
            refine b_norm ?_
            exact l_join (r29, xs31) (fun a w hE hm => ⟨v30, hE.sub ⟨rfl, trivial⟩, (hm.pick [1, 5, 0] rfl)⟩)
          · refine c_seq ?_
            refine c_region ?_
            refine o_eql st und3 rfl rfl rfl ?_
            refine o_as st rfl rfl ?_
            refine c_nil ?_
            refine l_then ?_
            refine c_cond rfl ?_ ?_
            · refine c_region ?_
              refine o_mv st rfl rfl ?_
              refine o_mv st rfl rfl ?_
              refine o_mv st rfl rfl ?_
              refine o_len st el26 1 rfl reads_own rfl rfl ?_
              refine stw (o_call (vs := [(.pointer (some ⟨b1, 0, none⟩)), (.int .i64 (r11.length : Int))]) (M0 := [cellCh b1 [v2, (.int .i64 r17)] 96]) Tryd.call68 rfl rfl (by intro w m h; exact (w_spec_l20Rd_pick (F := allB [cellCh b1 [v2, (.int .i64 r17)] 96] w) (r_0_b := r_0_b) (r_0_p := r17) (n_1 := (r11.length : Int)) allB_ok m.given (m.rdM 3 rfl (reads_snap hv2)) h).mono (fun _ _ k => ret_free (fun r u => (fr_cons free_cell fr_nil)) k)) ?_); rintro ⟨r33, r34⟩ _
              refine o_mv st rfl rfl ?_
              refine stw (o_call (vs := [(.pointer (some ⟨b1, 0, none⟩)), (.int .i64 2)]) (M0 := [cellCh b1 [v2, (.int .i64 r34)] 96]) Tryd.call74 rfl rfl (by intro w m h; exact (w_spec_l20Line (F := allB [cellCh b1 [v2, (.int .i64 r34)] 96] w) (r_0_b := r_0_b) (r_0_p := r34) (n_1 := 2) allB_ok m.given (m.rdM 3 rfl (reads_snap hv2)) h).mono (fun _ _ k => ret_free (fun r u => (fr_cons free_cell fr_nil)) k)) ?_); rintro ⟨r35, r36⟩ _
              refine o_idx st 1 rfl reads_own rfl rfl rfl el26 ?_; intro e37 h38
              refine stw (o_sts (enc := encStr) (y' := r35) 1 rfl flelStr rfl h38 ty9 rfl rfl rfl rfl rfl rfl ?_)
              refine c_nil ?_
              refine b_norm ?_
              exact l_join (r36, (r11.set (r33).toNat r35)) (fun a w hE hm => ⟨v12, hE.sub ⟨rfl, trivial⟩, ((hm.freeze 1 rfl reads_own).pick [0, 4, 1] rfl)⟩)
            · refine c_seq ?_
              refine c_region ?_
              refine o_eql st und3 rfl rfl rfl ?_
              refine o_as st rfl rfl ?_
              refine c_nil ?_
              refine l_then ?_
              refine c_cond rfl ?_ ?_
              · refine c_region ?_
                refine o_mv st rfl rfl ?_
                refine stw (o_bsl (enc := encStr) (qs := [(0, (.string (ByteArray.mk #[99, 104, 97, 105, 110, 32, 57])))]) (cells := [(.string (ByteArray.mk #[99, 104, 97, 105, 110, 32, 57]))]) ([(ByteArray.mk #[99, 104, 97, 105, 110, 32, 57])]) flelStr (by intro ρ h; simp only [List.map_toArray, List.map_cons, List.map_nil, h (.const (.string (ByteArray.mk #[99, 104, 97, 105, 110, 32, 57]))) _ rfl]) rfl el26 zero9 rfl rfl rfl rfl rfl rfl ?_); intro v40
                refine stw (o_app 2 0 rfl rfl (src_flat flelStr reads_own) rfl rfl rfl el26 rfl zero9 rfl rfl ?_); intro v42
                refine o_as st rfl rfl ?_
                refine c_nil ?_
                refine b_norm ?_
                exact l_join (r17, (r11 ++ ([(ByteArray.mk #[99, 104, 97, 105, 110, 32, 57])]))) (fun a w hE hm => ⟨v42, hE.sub ⟨rfl, trivial⟩, ((hm.freeze 2 rfl reads_own).pick [1, 5, 2] rfl)⟩)
              · refine c_region ?_
                refine o_mv st rfl rfl ?_
                refine o_mv st rfl rfl ?_
                refine stw (o_call (vs := [(.pointer (some ⟨b1, 0, none⟩)), (.int .i64 5)]) (M0 := [cellCh b1 [v2, (.int .i64 r17)] 96]) Tryd.call68 rfl rfl (by intro w m h; exact (w_spec_l20Rd_pick (F := allB [cellCh b1 [v2, (.int .i64 r17)] 96] w) (r_0_b := r_0_b) (r_0_p := r17) (n_1 := 5) allB_ok m.given (m.rdM 3 rfl (reads_snap hv2)) h).mono (fun _ _ k => ret_free (fun r u => (fr_cons free_cell fr_nil)) k)) ?_); rintro ⟨r44, r45⟩ _
                refine stw (o_callP (vs := [(.int .i64 r44)]) Tryd.call34 rfl rfl (by intro w m h; exact (w_spec_l3Number (F := allB [] w) (n_0 := r44) allB_ok h).mono (fun _ _ k => ret_free (fun r u => fr_nil) k)) ?_); rintro r46 _
                refine o_cat st rfl rfl rfl ?_; intro s47
                refine stw (o_bsl (enc := encStr) (qs := [(0, (.string (ByteArray.mk #[99, 97, 108, 108, 32, 52]))), (1, (.string s47))]) (cells := [(.string (ByteArray.mk #[99, 97, 108, 108, 32, 52])), (.string s47)]) ([(ByteArray.mk #[99, 97, 108, 108, 32, 52]), s47]) flelStr (by intro ρ h; simp only [List.map_toArray, List.map_cons, List.map_nil, h (.const (.string (ByteArray.mk #[99, 97, 108, 108, 32, 52]))) _ rfl, h (.tmp 18) _ rfl]) rfl el26 zero9 rfl rfl rfl rfl rfl rfl ?_); intro v48
                refine stw (o_app 2 0 rfl rfl (src_flat flelStr reads_own) rfl rfl rfl el26 rfl zero9 rfl rfl ?_); intro v50
                refine o_as st rfl rfl ?_
                refine c_nil ?_
                refine b_norm ?_
                exact l_join (r45, (r11 ++ ([(ByteArray.mk #[99, 97, 108, 108, 32, 52]), s47]))) (fun a w hE hm => ⟨v50, hE.sub ⟨rfl, trivial⟩, ((hm.freeze 2 rfl reads_own).pick [1, 5, 2] rfl)⟩)
    · refine c_skip ?_
      exact l_join (r15, r11) (fun a w hE hm => ⟨v12, hE.sub ⟨rfl, trivial⟩, ((hm.freeze 1 rfl reads_own).pick [0, 4, 1] rfl)⟩)
  · rintro ⟨t112, xs114⟩ a w ⟨v113, hE, hm⟩ h
    refine nx_of hE hm h ?_
    clear hE hm h
    refine c_seq ?_
    refine c_region ?_
    refine o_mv st rfl rfl ?_
    refine o_as st rfl rfl ?_
    refine c_nil ?_
    refine l_then ?_
    refine c_ret ?_
    exact l_end1 Tryd.results53 (xs114, t112) v113 (rv_t rfl) (fun w m => NewCh.ofB m [2, 0] rfl)

set_option maxRecDepth 100000 in
set_option maxHeartbeats 8000000 in
theorem w_spec_DrawReadRuleset {w0 : World} {F : Nat → Prop} {v1 : Value} {code_0 : (List UInt8)} {κ : (List ByteArray) → Prop} (hF : ∀ b, F b → b < w0.heap.size ∧ ¬ feet [] b) (hv1 : Sl elU8 F w0 v1 code_0) (h : L_spec_DrawReadRuleset code_0 κ) :
    Calls Tryd.prog 31 #[v1] w0 (Ret [] F w0 κ (fun (r : (List ByteArray)) (u : Value) => u) (fun (r : (List ByteArray)) (u : Value) => [roCh elStr u r])) := by
  refine enterS (args := [v1]) [] hF (Given.nil _ _) Tryd.func31 rfl Tryd.ntmps31 rfl h ?_
  clear h hF
  refine c_seq ?_
  refine c_region ?_
  refine stw (o_asn elStr 9 rfl rfl ?_)
  refine c_nil ?_
  refine l_then ?_
  refine c_seq ?_
  refine c_region ?_
  refine o_mv st rfl rfl ?_
  refine stw (o_callP (vs := [v1]) Tryd.call45 rfl rfl (by intro w m h; exact w_spec_l20Open (code_0 := code_0) fz_ok0 (m.roS 1 rfl hv1) h) ?_); rintro ⟨r6, r9⟩ ⟨b4, v7⟩
  refine stw (o_call (vs := [(.pointer (some ⟨b4, 0, none⟩)), (.int .i64 3)]) (M0 := [cellCh b4 [v7, (.int .i64 r9)] 96]) Tryd.call53 rfl rfl (by intro w m h; exact w_spec_l20Lines (r_0_b := r6) (r_0_p := r9) (n_1 := 3) fz_ok m.givenB (m.ro 1 rfl) h) ?_); rintro ⟨r10, r13⟩ v11
  refine o_as st rfl rfl ?_
  refine c_nil ?_
  refine l_then ?_
  refine c_ret ?_
  exact l_end1 Tryd.results31 r10 v11 (rv_t rfl) (fun w m => NewCh.ofB m [0] rfl)

set_option maxRecDepth 100000 in
set_option maxHeartbeats 8000000 in
theorem w_laws_FnReadRuleset {w0 : World} {F : Nat → Prop} {v1 : Value} {code_0 : (List UInt8)} {κ : Bool → Prop} (hF : ∀ b, F b → b < w0.heap.size ∧ ¬ feet [] b) (hv1 : Sl elU8 F w0 v1 code_0) (hgl0 : Sl elGFieldShape F w0 (.slice (some ⟨0, 0, none⟩) 4 4) gl_impl_fieldShapes) (hgl1 : Tb F w0) (h : L_laws_FnReadRuleset code_0 κ) :
    Calls Tryd.prog 8 #[v1] w0 (Ret [] F w0 κ (fun (r : Bool) (u : Unit) => (.bool r)) (fun (r : Bool) (u : Unit) => [])) := by
  refine enterS (args := [v1]) [] hF (Given.nil _ _) Tryd.func8 rfl Tryd.ntmps8 rfl h ?_
  clear h hF
  refine c_seq ?_
  refine c_region ?_
  refine o_as st rfl rfl ?_
  refine c_nil ?_
  refine l_then ?_
  refine c_seq ?_
  refine c_seq ?_
  refine c_region ?_
  refine o_mv st rfl rfl ?_
  refine o_len st el40 0 rfl (reads_snap hv1) rfl rfl ?_
  refine o_gtr st rfl rfl rfl ?_
  refine c_nil ?_
  refine l_then ?_
  refine c_cond rfl ?_ ?_
  · refine c_seq ?_
    refine c_region ?_
    refine o_as st rfl rfl ?_
    refine c_nil ?_
    refine l_then ?_
    refine c_ret ?_
    refine l_ret ?_
    exact l_end1 Tryd.results8 true () (rv_t rfl) (fun _ _ => NewCh.nil _ _ _ _)
  · refine c_skip ?_
    refine l_then ?_
    refine c_seq ?_
    refine c_region ?_
    refine o_mv st rfl rfl ?_
    refine stw (o_callP (vs := [v1]) Tryd.call31 rfl rfl (by intro w m h; exact w_spec_DrawReadRuleset (code_0 := code_0) fz_ok0 (m.roS 0 rfl hv1) h) ?_); rintro r3 v4
    refine o_as st rfl rfl ?_
    refine c_nil ?_
    refine l_then ?_
    refine c_seq ?_
    refine c_region ?_
    refine o_mv st rfl rfl ?_
    refine stw (o_callP (vs := [v4]) Tryd.call26 rfl rfl (by intro w m h; exact (w_impl_ReadRuleset (F := allB [] w) (lines_0 := r3) allB_ok (m.rd0 0 rfl reads_ro) (m.rd0 1 rfl (reads_snap hgl0)) ((hgl1.of (m.get (i := 1) rfl)).mono fz_ok0) h).mono (fun _ _ k => ret_free (fun r u => (fr_cons free_dp fr_nil)) k)) ?_); rintro ⟨r6, r10⟩ ⟨v7, bb8⟩
    refine o_mv st rfl rfl ?_
    refine o_ext st (vs := [(.agg #[v7, (.bool r6.xAccept)]), (.bool r10)]) rfl rfl rfl ?_
    refine o_ext st (vs := [(.agg #[v7, (.bool r6.xAccept)]), (.bool r10)]) rfl rfl rfl ?_
    refine stw (o_alloc rfl [(.slice none 0 0), (.bool false)] zero30 ?_); intro b11
    refine nx_dp 1 rfl ?_; rintro a13 l14 q15 rfl
    refine stw (o_stc (cs' := [(.slice a13 l14 q15), (.bool r6.xAccept)]) 0 rfl rfl rfl ty30 rfl rfl rfl rfl ?_)
    refine o_as st rfl rfl ?_
    refine c_nil ?_
    refine l_then ?_
    refine c_seq ?_
    refine c_region ?_
    refine o_mv st rfl rfl ?_
    refine stw (o_callP (vs := [v4]) Tryd.call28 rfl rfl (by intro w m h; exact (w_spec_ReadRuleset (F := allB [] w) (lines_0 := r3) allB_ok (m.rd0 2 rfl reads_ro) h).mono (fun _ _ k => ret_free (fun r u => (fr_cons free_dp fr_nil)) k)) ?_); rintro ⟨r16, r20⟩ ⟨v17, bb18⟩
    refine o_mv st rfl rfl ?_
    refine o_ext st (vs := [(.agg #[v17, (.bool r16.xAccept)]), (.bool r20)]) rfl rfl rfl ?_
    refine o_ext st (vs := [(.agg #[v17, (.bool r16.xAccept)]), (.bool r20)]) rfl rfl rfl ?_
    refine stw (o_alloc rfl [(.slice none 0 0), (.bool false)] zero30 ?_); intro b21
    refine nx_dp 1 rfl ?_; rintro a23 l24 q25 rfl
    refine stw (o_stc (cs' := [(.slice a23 l24 q25), (.bool r16.xAccept)]) 0 rfl rfl rfl ty30 rfl rfl rfl rfl ?_)
    refine o_as st rfl rfl ?_
    refine c_nil ?_
    refine l_then ?_
    refine c_seq ?_
    refine c_join (σ := Bool) (fun (t87 : Bool) (a : Act) (w : World) => Has 56 [(3, v4), (4, (.pointer (some ⟨b11, 0, none⟩))), (5, (.bool r10)), (31, (.bool t87))] a ∧ Mem (gB F [] w0) (feet []) w0 [cellCh b11 [(.slice a13 l14 q15), (.bool r6.xAccept)] 30, dpCh (dSl dGRule 54) 50 bb8 (.slice a13 l14 q15) r6.xChains, roCh elStr v4 r3, snapCh w0 F] w) ?_ ?_
    · intro k88
      refine c_region ?_
      refine o_ldc st (v := (.agg #[(.slice a13 l14 q15), (.bool r6.xAccept)])) 2 rfl rfl rfl ty30 rfl ?_
      refine o_ldc st (v := (.agg #[(.slice a23 l24 q25), (.bool r16.xAccept)])) 0 rfl rfl rfl ty30 rfl ?_
      refine stw (o_callP (vs := [(.agg #[(.slice a13 l14 q15), (.bool r6.xAccept)]), (.agg #[(.slice a23 l24 q25), (.bool r16.xAccept)])]) Tryd.call27 rfl rfl (by intro w m h; exact (w_laws_sameRuleset (F := allB [] w) (a_0 := r6) (b_1 := r16) allB_ok (m.rd0 3 rfl reads_dp) (m.rd0 1 rfl reads_dp) h).mono (fun _ _ k => ret_free (fun r u => fr_nil) k)) ?_); rintro r26 _
      refine o_not st rfl rfl ?_
      refine o_mv st rfl rfl ?_
      refine st_sp (dj := 27) rfl ?_ ?_
      · refine st_s rfl rfl rfl rfl ?_
        refine st_s rfl rfl rfl rfl ?_
        refine st_s rfl rfl rfl rfl ?_
        refine o_pickT st rfl rfl rfl ?_
        refine c_nil ?_
        exact l_join true (fun a w hE hm => ⟨hE.sub ⟨rfl, rfl, rfl, rfl, trivial⟩, (hm.pick [2, 3, 4, 5] rfl)⟩)
      · refine o_mv (st_g rfl rfl) rfl rfl ?_
        refine o_mv (st_g rfl rfl) rfl rfl ?_
        refine o_neqB (st_g rfl rfl) und4 rfl rfl rfl ?_
        refine o_pickF st rfl rfl rfl ?_
        refine c_nil ?_
        exact l_join (!(decide (r10 = r20))) (fun a w hE hm => ⟨hE.sub ⟨rfl, rfl, rfl, rfl, trivial⟩, (hm.pick [2, 3, 4, 5] rfl)⟩)
    · rintro t87 a w ⟨hE, hm⟩ h
      refine nx_of hE hm h ?_
      clear hE hm h
      refine c_cond rfl ?_ ?_
      · refine c_seq ?_
        refine c_region ?_
        refine o_as st rfl rfl ?_
        refine c_nil ?_
        refine l_then ?_
        refine c_ret ?_
        refine l_ret ?_
        exact l_end1 Tryd.results8 false () (rv_t rfl) (fun _ _ => NewCh.nil _ _ _ _)
      · refine c_skip ?_
        refine l_then ?_
        refine c_join (σ := Bool) (fun (t165 : Bool) (a : Act) (w : World) => Has 56 [(2, (.bool t165))] a ∧ Mem (gB F [] w0) (feet []) w0 [snapCh w0 F] w) ?_ ?_
        · intro k166
          refine c_region ?_
          refine o_mv st rfl rfl ?_
          refine o_not st rfl rfl ?_
          refine o_mv st rfl rfl ?_
          refine st_sp (dj := 34) rfl ?_ ?_
          · refine o_fad (st_g rfl rfl) rfl rfl fld30_0 rfl ?_
            refine o_ldc (st_g rfl rfl) (v := (.slice a13 l14 q15)) 0 rfl rfl rfl ty28 rfl ?_
            refine o_len (st_g rfl rfl) el28 1 rfl reads_dp rfl rfl ?_
            refine o_eql (st_g rfl rfl) und3 rfl rfl rfl ?_
            refine o_pickT st rfl rfl rfl ?_
            refine o_mv st rfl rfl ?_
            refine st_sp (dj := 40) rfl ?_ ?_
            · refine st_gw rfl rfl (o_callP (vs := []) Tryd.call25 rfl rfl (by intro w m h; exact (w_laws_alive (F := allB [] w) allB_ok h).mono (fun _ _ k => ret_free (fun r u => fr_nil) k)) ?_); rintro r89 _
              refine o_pickT st rfl rfl rfl ?_
              refine o_mv st rfl rfl ?_
              refine st_sp (dj := 43) rfl ?_ ?_
              · refine st_s rfl rfl rfl rfl ?_
                refine st_s rfl rfl rfl rfl ?_
                refine st_s rfl rfl rfl rfl ?_
                refine st_s rfl rfl rfl rfl ?_
                refine st_s rfl rfl rfl rfl ?_
                refine st_s rfl rfl rfl rfl ?_
                refine st_s rfl rfl rfl rfl ?_
                refine st_s rfl rfl rfl rfl ?_
                refine st_s rfl rfl rfl rfl ?_
                refine st_s rfl rfl rfl rfl ?_
                refine st_s rfl rfl rfl rfl ?_
                refine o_pickT st rfl rfl rfl ?_
                refine o_as st rfl rfl ?_
                refine c_nil ?_
                exact l_join true (fun a w hE hm => ⟨hE.sub ⟨rfl, trivial⟩, (hm.pick [3] rfl)⟩)
              · refine o_mv (st_g rfl rfl) rfl rfl ?_
                refine o_mv (st_g rfl rfl) rfl rfl ?_
                refine st_sp (dj := 45) rfl ?_ ?_
                · refine o_ldc (st_g rfl rfl) (v := (.agg #[(.slice a13 l14 q15), (.bool r6.xAccept)])) 0 rfl rfl rfl ty30 rfl ?_
                  refine st_gw rfl rfl (o_callP (vs := [(.agg #[(.slice a13 l14 q15), (.bool r6.xAccept)])]) Tryd.call12 rfl rfl (by intro w m h; exact (w_impl_RulesetText (F := allB [] w) (s_0 := r6) allB_ok (m.rd0 1 rfl reads_dp) (m.rd0 3 rfl (reads_snap hgl0)) ((hgl1.of (m.get (i := 3) rfl)).mono fz_ok0) h).mono (fun _ _ k => ret_free (fun r u => (fr_cons (free_own flelStr) fr_nil)) k)) ?_); rintro r90 v91
                  refine o_mv (st_g rfl rfl) rfl rfl ?_
                  refine st_gw rfl rfl (o_callP (vs := [v91, v4]) Tryd.call23 rfl rfl (by intro w m h; exact (w_laws_sameTexts (F := allB [] w) (a_0 := r90) (b_1 := r3) allB_ok (m.rd0 0 rfl reads_own) (m.rd0 3 rfl reads_ro) h).mono (fun _ _ k => ret_free (fun r u => fr_nil) k)) ?_); rintro r93 _
                  refine o_pickT (st_g rfl rfl) rfl rfl rfl ?_
                  refine o_mv (st_g rfl rfl) rfl rfl ?_
                  refine st_sp (dj := 51) rfl ?_ ?_
                  · refine o_ldc (st_g rfl rfl) (v := (.agg #[(.slice a13 l14 q15), (.bool r6.xAccept)])) 1 rfl rfl rfl ty30 rfl ?_
                    refine st_gw rfl rfl (o_callP (vs := [(.agg #[(.slice a13 l14 q15), (.bool r6.xAccept)])]) Tryd.call32 rfl rfl (by intro w m h; exact (w_impl_RulesetValid (F := allB [] w) (s_0 := r6) allB_ok (m.rd0 2 rfl reads_dp) (m.rd0 4 rfl (reads_snap hgl0)) h).mono (fun _ _ k => ret_free (fun r u => fr_nil) k)) ?_); rintro r94 _
                    refine o_pickT (st_g rfl rfl) rfl rfl rfl ?_
                    refine o_pickF st rfl rfl rfl ?_
                    refine o_as st rfl rfl ?_
                    refine c_nil ?_
                    exact l_join r94 (fun a w hE hm => ⟨hE.sub ⟨rfl, trivial⟩, (hm.pick [4] rfl)⟩)
                  · refine st_s rfl rfl rfl rfl ?_
                    refine st_s rfl rfl rfl rfl ?_
                    refine o_pickF (st_g rfl rfl) rfl rfl rfl ?_
                    refine o_pickF st rfl rfl rfl ?_
                    refine o_as st rfl rfl ?_
                    refine c_nil ?_
                    exact l_join false (fun a w hE hm => ⟨hE.sub ⟨rfl, trivial⟩, (hm.pick [4] rfl)⟩)
                · refine st_s rfl rfl rfl rfl ?_
                  refine st_s rfl rfl rfl rfl ?_
                  refine st_s rfl rfl rfl rfl ?_
                  refine st_s rfl rfl rfl rfl ?_
                  refine o_pickF (st_g rfl rfl) rfl rfl rfl ?_
                  refine o_mv (st_g rfl rfl) rfl rfl ?_
                  refine st_s rfl rfl rfl rfl ?_
                  refine st_s rfl rfl rfl rfl ?_
                  refine o_pickF (st_g rfl rfl) rfl rfl rfl ?_
                  refine o_pickF st rfl rfl rfl ?_
                  refine o_as st rfl rfl ?_
                  refine c_nil ?_
                  exact l_join false (fun a w hE hm => ⟨hE.sub ⟨rfl, trivial⟩, (hm.pick [3] rfl)⟩)
            · refine st_s rfl rfl rfl rfl ?_
              refine o_pickF st rfl rfl rfl ?_
              refine o_mv st rfl rfl ?_
              refine o_mv (st_g rfl rfl) rfl rfl ?_
              refine o_mv (st_g rfl rfl) rfl rfl ?_
              refine st_sp (dj := 45) rfl ?_ ?_
              · refine o_ldc (st_g rfl rfl) (v := (.agg #[(.slice a13 l14 q15), (.bool r6.xAccept)])) 0 rfl rfl rfl ty30 rfl ?_
                refine st_gw rfl rfl (o_callP (vs := [(.agg #[(.slice a13 l14 q15), (.bool r6.xAccept)])]) Tryd.call12 rfl rfl (by intro w m h; exact (w_impl_RulesetText (F := allB [] w) (s_0 := r6) allB_ok (m.rd0 1 rfl reads_dp) (m.rd0 3 rfl (reads_snap hgl0)) ((hgl1.of (m.get (i := 3) rfl)).mono fz_ok0) h).mono (fun _ _ k => ret_free (fun r u => (fr_cons (free_own flelStr) fr_nil)) k)) ?_); rintro r95 v96
                refine o_mv (st_g rfl rfl) rfl rfl ?_
                refine st_gw rfl rfl (o_callP (vs := [v96, v4]) Tryd.call23 rfl rfl (by intro w m h; exact (w_laws_sameTexts (F := allB [] w) (a_0 := r95) (b_1 := r3) allB_ok (m.rd0 0 rfl reads_own) (m.rd0 3 rfl reads_ro) h).mono (fun _ _ k => ret_free (fun r u => fr_nil) k)) ?_); rintro r98 _
                refine o_pickT (st_g rfl rfl) rfl rfl rfl ?_
                refine o_mv (st_g rfl rfl) rfl rfl ?_
                refine st_sp (dj := 51) rfl ?_ ?_
                · refine o_ldc (st_g rfl rfl) (v := (.agg #[(.slice a13 l14 q15), (.bool r6.xAccept)])) 1 rfl rfl rfl ty30 rfl ?_
                  refine st_gw rfl rfl (o_callP (vs := [(.agg #[(.slice a13 l14 q15), (.bool r6.xAccept)])]) Tryd.call32 rfl rfl (by intro w m h; exact (w_impl_RulesetValid (F := allB [] w) (s_0 := r6) allB_ok (m.rd0 2 rfl reads_dp) (m.rd0 4 rfl (reads_snap hgl0)) h).mono (fun _ _ k => ret_free (fun r u => fr_nil) k)) ?_); rintro r99 _
                  refine o_pickT (st_g rfl rfl) rfl rfl rfl ?_
                  refine o_pickF st rfl rfl rfl ?_
                  refine o_as st rfl rfl ?_
                  refine c_nil ?_
                  exact l_join r99 (fun a w hE hm => ⟨hE.sub ⟨rfl, trivial⟩, (hm.pick [4] rfl)⟩)
                · refine st_s rfl rfl rfl rfl ?_
                  refine st_s rfl rfl rfl rfl ?_
                  refine o_pickF (st_g rfl rfl) rfl rfl rfl ?_
                  refine o_pickF st rfl rfl rfl ?_
                  refine o_as st rfl rfl ?_
                  refine c_nil ?_
                  exact l_join false (fun a w hE hm => ⟨hE.sub ⟨rfl, trivial⟩, (hm.pick [4] rfl)⟩)
              · refine st_s rfl rfl rfl rfl ?_
                refine st_s rfl rfl rfl rfl ?_
                refine st_s rfl rfl rfl rfl ?_
                refine st_s rfl rfl rfl rfl ?_
                refine o_pickF (st_g rfl rfl) rfl rfl rfl ?_
                refine o_mv (st_g rfl rfl) rfl rfl ?_
                refine st_s rfl rfl rfl rfl ?_
                refine st_s rfl rfl rfl rfl ?_
                refine o_pickF (st_g rfl rfl) rfl rfl rfl ?_
                refine o_pickF st rfl rfl rfl ?_
                refine o_as st rfl rfl ?_
                refine c_nil ?_
                exact l_join false (fun a w hE hm => ⟨hE.sub ⟨rfl, trivial⟩, (hm.pick [3] rfl)⟩)
          · refine st_s rfl rfl rfl rfl ?_
            refine st_s rfl rfl rfl rfl ?_
            refine st_s rfl rfl rfl rfl ?_
            refine st_s rfl rfl rfl rfl ?_
            refine o_pickF st rfl rfl rfl ?_
            refine o_mv st rfl rfl ?_
            refine st_s rfl rfl rfl rfl ?_
            refine o_pickF st rfl rfl rfl ?_
            refine o_mv st rfl rfl ?_
            refine o_mv (st_g rfl rfl) rfl rfl ?_
            refine o_mv (st_g rfl rfl) rfl rfl ?_
            refine st_sp (dj := 45) rfl ?_ ?_
            · refine o_ldc (st_g rfl rfl) (v := (.agg #[(.slice a13 l14 q15), (.bool r6.xAccept)])) 0 rfl rfl rfl ty30 rfl ?_
              refine st_gw rfl rfl (o_callP (vs := [(.agg #[(.slice a13 l14 q15), (.bool r6.xAccept)])]) Tryd.call12 rfl rfl (by intro w m h; exact (w_impl_RulesetText (F := allB [] w) (s_0 := r6) allB_ok (m.rd0 1 rfl reads_dp) (m.rd0 3 rfl (reads_snap hgl0)) ((hgl1.of (m.get (i := 3) rfl)).mono fz_ok0) h).mono (fun _ _ k => ret_free (fun r u => (fr_cons (free_own flelStr) fr_nil)) k)) ?_); rintro r100 v101
              refine o_mv (st_g rfl rfl) rfl rfl ?_
              refine st_gw rfl rfl (o_callP (vs := [v101, v4]) Tryd.call23 rfl rfl (by intro w m h; exact (w_laws_sameTexts (F := allB [] w) (a_0 := r100) (b_1 := r3) allB_ok (m.rd0 0 rfl reads_own) (m.rd0 3 rfl reads_ro) h).mono (fun _ _ k => ret_free (fun r u => fr_nil) k)) ?_); rintro r103 _
              refine o_pickT (st_g rfl rfl) rfl rfl rfl ?_
              refine o_mv (st_g rfl rfl) rfl rfl ?_
              refine st_sp (dj := 51) rfl ?_ ?_
              · refine o_ldc (st_g rfl rfl) (v := (.agg #[(.slice a13 l14 q15), (.bool r6.xAccept)])) 1 rfl rfl rfl ty30 rfl ?_
                refine st_gw rfl rfl (o_callP (vs := [(.agg #[(.slice a13 l14 q15), (.bool r6.xAccept)])]) Tryd.call32 rfl rfl (by intro w m h; exact (w_impl_RulesetValid (F := allB [] w) (s_0 := r6) allB_ok (m.rd0 2 rfl reads_dp) (m.rd0 4 rfl (reads_snap hgl0)) h).mono (fun _ _ k => ret_free (fun r u => fr_nil) k)) ?_); rintro r104 _
                refine o_pickT (st_g rfl rfl) rfl rfl rfl ?_
                refine o_pickF st rfl rfl rfl ?_
                refine o_as st rfl rfl ?_
                refine c_nil ?_
                exact l_join r104 (fun a w hE hm => ⟨hE.sub ⟨rfl, trivial⟩, (hm.pick [4] rfl)⟩)
              · refine st_s rfl rfl rfl rfl ?_
                refine st_s rfl rfl rfl rfl ?_
                refine o_pickF (st_g rfl rfl) rfl rfl rfl ?_
                refine o_pickF st rfl rfl rfl ?_
                refine o_as st rfl rfl ?_
                refine c_nil ?_
                exact l_join false (fun a w hE hm => ⟨hE.sub ⟨rfl, trivial⟩, (hm.pick [4] rfl)⟩)
            · refine st_s rfl rfl rfl rfl ?_
              refine st_s rfl rfl rfl rfl ?_
              refine st_s rfl rfl rfl rfl ?_
              refine st_s rfl rfl rfl rfl ?_
              refine o_pickF (st_g rfl rfl) rfl rfl rfl ?_
              refine o_mv (st_g rfl rfl) rfl rfl ?_
              refine st_s rfl rfl rfl rfl ?_
              refine st_s rfl rfl rfl rfl ?_
              refine o_pickF (st_g rfl rfl) rfl rfl rfl ?_
              refine o_pickF st rfl rfl rfl ?_
              refine o_as st rfl rfl ?_
              refine c_nil ?_
              exact l_join false (fun a w hE hm => ⟨hE.sub ⟨rfl, trivial⟩, (hm.pick [3] rfl)⟩)
        · rintro t165 a w ⟨hE, hm⟩ h
          refine nx_of hE hm h ?_
          clear hE hm h
          refine c_ret ?_
          exact l_end1 Tryd.results8 t165 () (rv_t rfl) (fun _ _ => NewCh.nil _ _ _ _)



end

end Go.Proofs.YtlcjkhnamgklgaaDoor
