/- Texts of this seat, put together. -/
import Derived.Test.YtigdghiknfehhaaDoorMP12
set_option linter.unusedSimpArgs false
set_option linter.unusedVariables false
namespace Go.Proofs.YtigdghiknfehhaaDoor
section
open Go.RowKit
set_option maxRecDepth 100000 in
set_option maxHeartbeats 8000000 in
theorem w_spec_l20Ruleset {w0 : World} {F : Nat → Prop} {b1 : Nat} {v2 : Value} {r_0_b : (List UInt8)} {r_0_p : Int} {n_1 : Int} {κ : (GRuleset × Int) → Prop} (hF : ∀ b, F b → b < w0.heap.size ∧ ¬ feet [cellCh b1 [v2, (.int .i64 r_0_p)] 122] b) (hg : Given [cellCh b1 [v2, (.int .i64 r_0_p)] 122] F w0) (hv2 : Sl elU8 F w0 v2 r_0_b) (h : L_spec_l20Ruleset r_0_b r_0_p n_1 κ) :
    Calls Tryd.prog 50 #[(.pointer (some ⟨b1, 0, none⟩)), (.int .i64 n_1)] w0 (Ret [cellCh b1 [v2, (.int .i64 r_0_p)] 122] F w0 κ (fun (r : (GRuleset × Int)) (u : Value × List Nat) => (.agg #[u.1, (.bool r.1.xAccept)])) (fun (r : (GRuleset × Int)) (u : Value × List Nat) => [dpCh (dSl dGRule 104) 101 u.2 u.1 r.1.xChains, cellCh b1 [v2, (.int .i64 r.2)] 122])) := by
  refine enterS (args := [(.pointer (some ⟨b1, 0, none⟩)), (.int .i64 n_1)]) [cellCh b1 [v2, (.int .i64 r_0_p)] 122] hF hg Tryd.func50 rfl Tryd.ntmps50 rfl h ?_
  clear h hF hg
  refine c_seq ?_
  refine c_region ?_
  refine stw (o_alloc rfl [(.slice none 0 0), (.bool false)] zero25 ?_); intro b5
  refine c_nil ?_
  refine l_then ?_
  refine c_seq ?_
  refine c_region ?_
  refine o_mv st rfl rfl ?_
  refine pk [1, 0, 2] rfl ?_
  refine stw (o_call (vs := [(.pointer (some ⟨b1, 0, none⟩)), (.int .i64 2)]) (M0 := [cellCh b1 [v2, (.int .i64 r_0_p)] 122]) Tryd.call68 rfl rfl (by intro w m h; exact (w_spec_l20Rd_pick (F := allB [cellCh b1 [v2, (.int .i64 r_0_p)] 122] w) (r_0_b := r_0_b) (r_0_p := r_0_p) (n_1 := 2) allB_ok m.given (m.rdM 1 rfl (reads_snap hv2)) h).mono (fun _ _ k => ret_free (fun r u => (fr_cons free_cell fr_nil)) k)) ?_); rintro ⟨r7, r8⟩ _
  refine o_eql st und3 rfl rfl rfl ?_
  refine o_bld st (qs := [(1, (.bool (decide (r7 = 0))))]) (cells := [(.slice none 0 0), (.bool (decide (r7 = 0)))]) (by intro ρ h; simp only [List.map_toArray, List.map_cons, List.map_nil, h (.tmp 10) _ rfl]) rfl bld25 rfl ?_
  refine stw (o_alloc rfl [(.slice none 0 0), (.bool false)] zero25 ?_); intro b9
  refine stw (o_stc (cs' := [(.slice none 0 0), (.bool (decide (r7 = 0)))]) 0 rfl rfl rfl ty25 rfl rfl rfl rfl ?_)
  refine c_nil ?_
  refine l_then ?_
  refine c_seq ?_
  refine c_region ?_
  refine o_mv st rfl rfl ?_
  refine pk [1, 0, 2, 3] rfl ?_
  refine stw (o_call (vs := [(.pointer (some ⟨b1, 0, none⟩)), (.int .i64 3)]) (M0 := [cellCh b1 [v2, (.int .i64 r8)] 122]) Tryd.call68 rfl rfl (by intro w m h; exact (w_spec_l20Rd_pick (F := allB [cellCh b1 [v2, (.int .i64 r8)] 122] w) (r_0_b := r_0_b) (r_0_p := r8) (n_1 := 3) allB_ok m.given (m.rdM 2 rfl (reads_snap hv2)) h).mono (fun _ _ k => ret_free (fun r u => (fr_cons free_cell fr_nil)) k)) ?_); rintro ⟨r11, r12⟩ _
  refine o_add st rfl rfl rfl ?_; intro t13
  refine o_as st rfl rfl ?_
  refine c_nil ?_
  refine l_then ?_
  refine c_seq ?_
  refine c_seq ?_
  refine c_region ?_
  refine o_as st rfl rfl ?_
  refine c_nil ?_
  refine l_then ?_
  refine c_block ?_
  refine c_loop (σ := (Int × (List (List GRule)) × Int)) (fun ((t14, xs16, t20) : (Int × (List (List GRule)) × Int)) (a : Act) (w : World) => ∃ (v15 : Value) (bb18 : List Nat), Has 80 [(0, (.pointer (some ⟨b1, 0, none⟩))), (1, (.int .i64 n_1)), (4, (.pointer (some ⟨b5, 0, none⟩))), (5, (.pointer (some ⟨b9, 0, none⟩))), (6, (.int .i64 t13)), (7, (.int .i64 t20))] a ∧ Mem (gB F [cellCh b1 [v2, (.int .i64 r_0_p)] 122] w0) (feet [cellCh b1 [v2, (.int .i64 r_0_p)] 122]) w0 [cellCh b1 [v2, (.int .i64 t14)] 122, cellCh b9 [v15, (.bool (decide (r7 = 0)))] 25, cellCh b5 [(.slice none 0 0), (.bool false)] 25, snapCh w0 F, dpCh (dSl dGRule 104) 101 bb18 v15 xs16] w) (fun a w hE hm => ⟨(.slice none 0 0), [], hE.sub ⟨rfl, rfl, rfl, rfl, rfl, rfl, trivial⟩, ((mem_dnil (dSl dGRule 104) 101 hm).pick [1, 2, 3, 4, 0] rfl)⟩) ?_
  rintro nx21 ⟨t14, xs16, t20⟩ a w ⟨v15, bb18, hE, hm⟩ h
  refine nx_of hE hm h ?_
  clear hE hm h
  refine c_seq ?_
  refine c_seq ?_
  refine c_region ?_
  refine o_mv st rfl rfl ?_
  refine o_mv st rfl rfl ?_
  refine o_lss st rfl rfl rfl ?_
  refine c_nil ?_
  refine l_then ?_
  refine c_cond rfl ?_ ?_
  · refine c_skip ?_
    refine l_then ?_
    refine c_seq ?_
    refine c_block ?_
    refine nx_dp 4 rfl ?_; rintro a22 l23 q24 rfl
    refine c_join1 (σ := ((List (List GRule)) × Int)) (fun ((xs25, t29) : ((List (List GRule)) × Int)) (a : Act) (w : World) => ∃ (v26 : Value) (bb28 : List Nat), Has 80 [(0, (.pointer (some ⟨b1, 0, none⟩))), (1, (.int .i64 n_1)), (4, (.pointer (some ⟨b5, 0, none⟩))), (5, (.pointer (some ⟨b9, 0, none⟩))), (6, (.int .i64 t13)), (7, (.int .i64 t20))] a ∧ Mem (gB F [cellCh b1 [v2, (.int .i64 r_0_p)] 122] w0) (feet [cellCh b1 [v2, (.int .i64 r_0_p)] 122]) w0 [dpCh (dSl dGRule 104) 101 bb28 v26 xs25, cellCh b1 [v2, (.int .i64 t29)] 122, cellCh b9 [v26, (.bool (decide (r7 = 0)))] 25, cellCh b5 [(.slice none 0 0), (.bool false)] 25, snapCh w0 F] w) ?_ ?_
    · intro k30
      refine c_drawQ mixed 11 rfl [cellCh b5 [(.slice none 0 0), (.bool false)] 25, snapCh w0 F] ?_
      intro Qd hP hQ
      have H416 : ∀ (r31 : (List GRule)) (a35 : Option Addr) (l36 : Nat) (q37 : Nat) (bb33 : List Nat) (r34 : Int) (v38 : Value) (bb39 : List Nat) (a43 : Option Addr) (l44 : Nat) (q45 : Nat) (bb41 : List Nat), Nx 80 (gB F [cellCh b1 [v2, (.int .i64 r_0_p)] 122] w0) (feet [cellCh b1 [v2, (.int .i64 r_0_p)] 122]) w0 (wpAnyH Tryd.prog .any (opsAt Tryd.f50 [1, 1, 1, 0, 1, 0, 0, 1, 0, 0]) Qd (Mem (gB F [cellCh b1 [v2, (.int .i64 r_0_p)] 122] w0) (feet [cellCh b1 [v2, (.int .i64 r_0_p)] 122]) w0 [cellCh b5 [(.slice none 0 0), (.bool false)] 25, snapCh w0 F]) 0 #[true, true, true, true, true, true, true, true, true, true, true]) [(0, (.pointer (some ⟨b1, 0, none⟩))), (1, (.int .i64 n_1)), (4, (.pointer (some ⟨b5, 0, none⟩))), (5, (.pointer (some ⟨b9, 0, none⟩))), (6, (.int .i64 t13)), (7, (.int .i64 t20))] [dpCh (dSl dGRule 104) 101 bb41 (.slice a43 l44 q45) (xs16 ++ ([r31])), cellCh b1 [v2, (.int .i64 r34)] 122, cellCh b9 [(.slice a43 l44 q45), (.bool (decide (r7 = 0)))] 25, cellCh b5 [(.slice none 0 0), (.bool false)] 25, snapCh w0 F] (k30 ((xs16 ++ ([r31])), r34)) := by
        intro r31 a35 l36 q37 bb33 r34 v38 bb39 a43 l44 q45 bb41
        refine d_done (by kernel_rfl) ?_
        exact fun a w hE hm hφ => hQ ((xs16 ++ ([r31])), r34) a w hφ ((fun a w hE hm => ⟨(.slice a43 l44 q45), bb41, hE.sub ⟨rfl, rfl, rfl, rfl, rfl, rfl, trivial⟩, (hm.pick [0, 1, 2, 3, 4] rfl)⟩) a w hE hm)
      have H417 : ∀ (r31 : (List GRule)) (a35 : Option Addr) (l36 : Nat) (q37 : Nat) (bb33 : List Nat) (r34 : Int) (v38 : Value) (bb39 : List Nat) (v40 : Value) (bb41 : List Nat), Nx 80 (gB F [cellCh b1 [v2, (.int .i64 r_0_p)] 122] w0) (feet [cellCh b1 [v2, (.int .i64 r_0_p)] 122]) w0 (wpAnyH Tryd.prog .any (opsAt Tryd.f50 [1, 1, 1, 0, 1, 0, 0, 1, 0, 0]) Qd (Mem (gB F [cellCh b1 [v2, (.int .i64 r_0_p)] 122] w0) (feet [cellCh b1 [v2, (.int .i64 r_0_p)] 122]) w0 [cellCh b5 [(.slice none 0 0), (.bool false)] 25, snapCh w0 F]) 2 #[true, true, true, true, true, true, true, true, true, false, false]) [(0, (.pointer (some ⟨b1, 0, none⟩))), (1, (.int .i64 n_1)), (4, (.pointer (some ⟨b5, 0, none⟩))), (5, (.pointer (some ⟨b9, 0, none⟩))), (6, (.int .i64 t13)), (7, (.int .i64 t20)), (28, v40)] [dpCh (dSl dGRule 104) 101 bb41 v40 (xs16 ++ ([r31])), cellCh b1 [v2, (.int .i64 r34)] 122, cellCh b9 [(.slice a22 l23 q24), (.bool (decide (r7 = 0)))] 25, cellCh b5 [(.slice none 0 0), (.bool false)] 25, snapCh w0 F] (k30 ((xs16 ++ ([r31])), r34)) := by
        intro r31 a35 l36 q37 bb33 r34 v38 bb39 v40 bb41
        refine o_fad (dt 9 (fun w m => m.pick [3, 4] rfl)) rfl rfl fld25_0 rfl ?_
        refine nx_dp 0 rfl ?_; rintro a43 l44 q45 rfl
        refine d_one (i := 10) rfl (by kernel_rfl) (o_stc (cs' := [(.slice a43 l44 q45), (.bool (decide (r7 = 0)))]) 2 rfl rfl rfl ty23 rfl rfl rfl rfl ?_)
        refine d_and (fun w m => m.pick [3, 4] rfl) ?_
        refine pk [0, 1, 2, 3, 4] rfl ?_
        refine re (E' := [(0, (.pointer (some ⟨b1, 0, none⟩))), (1, (.int .i64 n_1)), (4, (.pointer (some ⟨b5, 0, none⟩))), (5, (.pointer (some ⟨b9, 0, none⟩))), (6, (.int .i64 t13)), (7, (.int .i64 t20))]) ⟨rfl, rfl, rfl, rfl, rfl, rfl, trivial⟩ ?_
        exact H416 r31 a35 l36 q37 bb33 r34 v38 bb39 a43 l44 q45 bb41
      have H418 : ∀ (r31 : (List GRule)) (a35 : Option Addr) (l36 : Nat) (q37 : Nat) (bb33 : List Nat) (r34 : Int) (v38 : Value) (bb39 : List Nat), Nx 80 (gB F [cellCh b1 [v2, (.int .i64 r_0_p)] 122] w0) (feet [cellCh b1 [v2, (.int .i64 r_0_p)] 122]) w0 (wpAnyH Tryd.prog .any (opsAt Tryd.f50 [1, 1, 1, 0, 1, 0, 0, 1, 0, 0]) Qd (Mem (gB F [cellCh b1 [v2, (.int .i64 r_0_p)] 122] w0) (feet [cellCh b1 [v2, (.int .i64 r_0_p)] 122]) w0 [cellCh b5 [(.slice none 0 0), (.bool false)] 25, snapCh w0 F]) 3 #[true, true, true, true, true, true, true, true, false, false, false]) [(0, (.pointer (some ⟨b1, 0, none⟩))), (1, (.int .i64 n_1)), (4, (.pointer (some ⟨b5, 0, none⟩))), (5, (.pointer (some ⟨b9, 0, none⟩))), (6, (.int .i64 t13)), (7, (.int .i64 t20)), (21, (.slice a22 l23 q24)), (27, v38)] [dpCh (dSl dGRule 104) 101 bb39 v38 ([r31]), cellCh b1 [v2, (.int .i64 r34)] 122, cellCh b9 [(.slice a22 l23 q24), (.bool (decide (r7 = 0)))] 25, cellCh b5 [(.slice none 0 0), (.bool false)] 25, snapCh w0 F, dpCh (dSl dGRule 104) 101 bb18 (.slice a22 l23 q24) xs16] (appW xs16 ([r31]) (fun _ => k30 ((xs16 ++ ([r31])), r34))) := by
        intro r31 a35 l36 q37 bb33 r34 v38 bb39
        refine pk [5, 0, 1, 2, 3, 4] rfl ?_
        refine d_one (i := 8) rfl (by kernel_rfl) (o_appD rfl rfl rfl el23 rfl zero101 rfl rfl ?_); intro bb41 v40
        refine d_and (fun w m => m.pick [3, 4] rfl) ?_
        refine pk [0, 1, 2, 3, 4] rfl ?_
        refine re (E' := [(0, (.pointer (some ⟨b1, 0, none⟩))), (1, (.int .i64 n_1)), (4, (.pointer (some ⟨b5, 0, none⟩))), (5, (.pointer (some ⟨b9, 0, none⟩))), (6, (.int .i64 t13)), (7, (.int .i64 t20)), (28, v40)]) ⟨rfl, rfl, rfl, rfl, rfl, rfl, rfl, trivial⟩ ?_
        exact H417 r31 a35 l36 q37 bb33 r34 v38 bb39 v40 bb41
      have H419 : ∀ (r31 : (List GRule)) (v32 : Value) (bb33 : List Nat) (r34 : Int), Nx 80 (gB F [cellCh b1 [v2, (.int .i64 r_0_p)] 122] w0) (feet [cellCh b1 [v2, (.int .i64 r_0_p)] 122]) w0 (wpAnyH Tryd.prog .any (opsAt Tryd.f50 [1, 1, 1, 0, 1, 0, 0, 1, 0, 0]) Qd (Mem (gB F [cellCh b1 [v2, (.int .i64 r_0_p)] 122] w0) (feet [cellCh b1 [v2, (.int .i64 r_0_p)] 122]) w0 [cellCh b5 [(.slice none 0 0), (.bool false)] 25, snapCh w0 F]) 4 #[true, true, true, true, true, true, true, false, false, false, false]) [(0, (.pointer (some ⟨b1, 0, none⟩))), (1, (.int .i64 n_1)), (4, (.pointer (some ⟨b5, 0, none⟩))), (5, (.pointer (some ⟨b9, 0, none⟩))), (6, (.int .i64 t13)), (7, (.int .i64 t20)), (21, (.slice a22 l23 q24)), (26, v32)] [dpCh dGRule 104 bb33 v32 r31, cellCh b1 [v2, (.int .i64 r34)] 122, cellCh b9 [(.slice a22 l23 q24), (.bool (decide (r7 = 0)))] 25, cellCh b5 [(.slice none 0 0), (.bool false)] 25, snapCh w0 F, dpCh (dSl dGRule 104) 101 bb18 (.slice a22 l23 q24) xs16] (appW xs16 ([r31]) (fun _ => k30 ((xs16 ++ ([r31])), r34))) := by
        intro r31 v32 bb33 r34
        refine nx_dp 0 rfl ?_; rintro a35 l36 q37 rfl
        refine d_one (i := 7) rfl (by kernel_rfl) (o_bslD (M := [dpCh dGRule 104 bb33 (.slice a35 l36 q37) r31]) (E' := (dSl dGRule 104)) (qs := [(0, (.slice a35 l36 q37))]) (cs := [(.slice a35 l36 q37)]) r31 (absorb_one gives_dp (fun B w h => ⟨_, rfl, h⟩)) (by intro ρ h; simp only [List.map_toArray, List.map_cons, List.map_nil, h (.tmp 26) _ rfl]) rfl el23 zero101 rfl rfl rfl rfl ?_); intro bb39 v38
        refine d_and (fun w m => m.pick [3, 4] rfl) ?_
        refine pk [0, 1, 2, 3, 4, 5] rfl ?_
        refine re (E' := [(0, (.pointer (some ⟨b1, 0, none⟩))), (1, (.int .i64 n_1)), (4, (.pointer (some ⟨b5, 0, none⟩))), (5, (.pointer (some ⟨b9, 0, none⟩))), (6, (.int .i64 t13)), (7, (.int .i64 t20)), (21, (.slice a22 l23 q24)), (27, v38)]) ⟨rfl, rfl, rfl, rfl, rfl, rfl, rfl, rfl, trivial⟩ ?_
        exact H418 r31 a35 l36 q37 bb33 r34 v38 bb39
      have H420 : ∀ (_ : Unit), Nx 80 (gB F [cellCh b1 [v2, (.int .i64 r_0_p)] 122] w0) (feet [cellCh b1 [v2, (.int .i64 r_0_p)] 122]) w0 (wpAnyH Tryd.prog .any (opsAt Tryd.f50 [1, 1, 1, 0, 1, 0, 0, 1, 0, 0]) Qd (Mem (gB F [cellCh b1 [v2, (.int .i64 r_0_p)] 122] w0) (feet [cellCh b1 [v2, (.int .i64 r_0_p)] 122]) w0 [cellCh b5 [(.slice none 0 0), (.bool false)] 25, snapCh w0 F]) 5 #[true, true, true, true, true, true, false, false, false, false, false]) [(0, (.pointer (some ⟨b1, 0, none⟩))), (1, (.int .i64 n_1)), (4, (.pointer (some ⟨b5, 0, none⟩))), (5, (.pointer (some ⟨b9, 0, none⟩))), (6, (.int .i64 t13)), (7, (.int .i64 t20)), (22, (.pointer (some ⟨b1, 0, none⟩))), (24, (.int .i64 (w64 (t20 + 1)))), (25, (.int .i64 t13)), (21, (.slice a22 l23 q24))] [cellCh b1 [v2, (.int .i64 t14)] 122, cellCh b9 [(.slice a22 l23 q24), (.bool (decide (r7 = 0)))] 25, cellCh b5 [(.slice none 0 0), (.bool false)] 25, snapCh w0 F, dpCh (dSl dGRule 104) 101 bb18 (.slice a22 l23 q24) xs16] (L_spec_l20Rules r_0_b t14 (w64 (t20 + 1)) t13 0 (fun (r31, r34) => appW xs16 ([r31]) (fun _ => k30 ((xs16 ++ ([r31])), r34)))) := by
        intro _
        refine d_one (i := 6) rfl (by kernel_rfl) (o_call (vs := [(.pointer (some ⟨b1, 0, none⟩)), (.int .i64 (w64 (t20 + 1))), (.int .i64 t13), (.int .i64 0)]) (M0 := [cellCh b1 [v2, (.int .i64 t14)] 122]) Tryd.call84 rfl rfl (by intro w m h; exact (w_spec_l20Rules (F := allB [cellCh b1 [v2, (.int .i64 t14)] 122] w) (r_0_b := r_0_b) (r_0_p := t14) (first_1 := (w64 (t20 + 1))) (chains_2 := t13) (n_3 := 0) allB_ok m.given (m.rdM 2 rfl (reads_snap hv2)) h).mono (fun _ _ k => ret_free (fun r u => (fr_cons free_dp (fr_cons free_cell fr_nil))) k)) ?_); rintro ⟨r31, r34⟩ ⟨v32, bb33⟩
        refine d_and (fun w m => m.pick [3, 4] rfl) ?_
        refine pk [0, 1, 2, 3, 4, 5] rfl ?_
        refine re (E' := [(0, (.pointer (some ⟨b1, 0, none⟩))), (1, (.int .i64 n_1)), (4, (.pointer (some ⟨b5, 0, none⟩))), (5, (.pointer (some ⟨b9, 0, none⟩))), (6, (.int .i64 t13)), (7, (.int .i64 t20)), (21, (.slice a22 l23 q24)), (26, v32)]) ⟨rfl, rfl, rfl, rfl, rfl, rfl, rfl, rfl, trivial⟩ ?_
        exact H419 r31 v32 bb33 r34
      have H421 : ∀ (r46 : (List GRule)) (a50 : Option Addr) (l51 : Nat) (q52 : Nat) (bb48 : List Nat) (r49 : Int) (v53 : Value) (bb54 : List Nat), Nx 80 (gB F [cellCh b1 [v2, (.int .i64 r_0_p)] 122] w0) (feet [cellCh b1 [v2, (.int .i64 r_0_p)] 122]) w0 (wpAnyH Tryd.prog .any (opsAt Tryd.f50 [1, 1, 1, 0, 1, 0, 0, 1, 0, 0]) Qd (Mem (gB F [cellCh b1 [v2, (.int .i64 r_0_p)] 122] w0) (feet [cellCh b1 [v2, (.int .i64 r_0_p)] 122]) w0 [cellCh b5 [(.slice none 0 0), (.bool false)] 25, snapCh w0 F]) 4 #[true, false, true, true, true, true, true, true, false, false, false]) [(0, (.pointer (some ⟨b1, 0, none⟩))), (1, (.int .i64 n_1)), (4, (.pointer (some ⟨b5, 0, none⟩))), (5, (.pointer (some ⟨b9, 0, none⟩))), (6, (.int .i64 t13)), (7, (.int .i64 t20)), (20, (.pointer (some ⟨b9, 0, none⟩))), (27, v53)] [dpCh (dSl dGRule 104) 101 bb54 v53 ([r46]), cellCh b1 [v2, (.int .i64 r49)] 122, cellCh b9 [(.slice a22 l23 q24), (.bool (decide (r7 = 0)))] 25, cellCh b5 [(.slice none 0 0), (.bool false)] 25, snapCh w0 F, dpCh (dSl dGRule 104) 101 bb18 (.slice a22 l23 q24) xs16] (appW xs16 ([r46]) (fun _ => k30 ((xs16 ++ ([r46])), r49))) := by
        intro r46 a50 l51 q52 bb48 r49 v53 bb54
        refine d_one (i := 1) rfl (by kernel_rfl) (o_ldc m_op (v := (.slice a22 l23 q24)) 2 rfl rfl rfl ty23 rfl ?_)
        refine d_and (fun w m => m.pick [3, 4] rfl) ?_
        refine pk [0, 1, 2, 3, 4, 5] rfl ?_
        refine re (E' := [(0, (.pointer (some ⟨b1, 0, none⟩))), (1, (.int .i64 n_1)), (4, (.pointer (some ⟨b5, 0, none⟩))), (5, (.pointer (some ⟨b9, 0, none⟩))), (6, (.int .i64 t13)), (7, (.int .i64 t20)), (21, (.slice a22 l23 q24)), (27, v53)]) ⟨rfl, rfl, rfl, rfl, rfl, rfl, rfl, rfl, trivial⟩ ?_
        exact H418 r46 a50 l51 q52 bb48 r49 v53 bb54
      have H422 : ∀ (r46 : (List GRule)) (v47 : Value) (bb48 : List Nat) (r49 : Int), Nx 80 (gB F [cellCh b1 [v2, (.int .i64 r_0_p)] 122] w0) (feet [cellCh b1 [v2, (.int .i64 r_0_p)] 122]) w0 (wpAnyH Tryd.prog .any (opsAt Tryd.f50 [1, 1, 1, 0, 1, 0, 0, 1, 0, 0]) Qd (Mem (gB F [cellCh b1 [v2, (.int .i64 r_0_p)] 122] w0) (feet [cellCh b1 [v2, (.int .i64 r_0_p)] 122]) w0 [cellCh b5 [(.slice none 0 0), (.bool false)] 25, snapCh w0 F]) 5 #[true, false, true, true, true, true, true, false, false, false, false]) [(0, (.pointer (some ⟨b1, 0, none⟩))), (1, (.int .i64 n_1)), (4, (.pointer (some ⟨b5, 0, none⟩))), (5, (.pointer (some ⟨b9, 0, none⟩))), (6, (.int .i64 t13)), (7, (.int .i64 t20)), (20, (.pointer (some ⟨b9, 0, none⟩))), (26, v47)] [dpCh dGRule 104 bb48 v47 r46, cellCh b1 [v2, (.int .i64 r49)] 122, cellCh b9 [(.slice a22 l23 q24), (.bool (decide (r7 = 0)))] 25, cellCh b5 [(.slice none 0 0), (.bool false)] 25, snapCh w0 F, dpCh (dSl dGRule 104) 101 bb18 (.slice a22 l23 q24) xs16] (appW xs16 ([r46]) (fun _ => k30 ((xs16 ++ ([r46])), r49))) := by
        intro r46 v47 bb48 r49
        refine d_two (i := 1) (j := 7) rfl rfl (by kernel_rfl) ?_ ?_
        · intro o ho; cases ho
          refine o_ldc m_op (v := (.slice a22 l23 q24)) 2 rfl rfl rfl ty23 rfl ?_
          refine d_and (fun w m => m.pick [3, 4] rfl) ?_
          refine pk [0, 1, 2, 3, 4, 5] rfl ?_
          refine re (E' := [(0, (.pointer (some ⟨b1, 0, none⟩))), (1, (.int .i64 n_1)), (4, (.pointer (some ⟨b5, 0, none⟩))), (5, (.pointer (some ⟨b9, 0, none⟩))), (6, (.int .i64 t13)), (7, (.int .i64 t20)), (21, (.slice a22 l23 q24)), (26, v47)]) ⟨rfl, rfl, rfl, rfl, rfl, rfl, rfl, rfl, trivial⟩ ?_
          exact H419 r46 v47 bb48 r49
        · intro o ho; cases ho
          refine nx_dp 0 rfl ?_; rintro a50 l51 q52 rfl
          refine o_bslD (M := [dpCh dGRule 104 bb48 (.slice a50 l51 q52) r46]) (E' := (dSl dGRule 104)) (qs := [(0, (.slice a50 l51 q52))]) (cs := [(.slice a50 l51 q52)]) r46 (absorb_one gives_dp (fun B w h => ⟨_, rfl, h⟩)) (by intro ρ h; simp only [List.map_toArray, List.map_cons, List.map_nil, h (.tmp 26) _ rfl]) rfl el23 zero101 rfl rfl rfl rfl ?_; intro bb54 v53
          refine d_and (fun w m => m.pick [3, 4] rfl) ?_
          refine pk [0, 1, 2, 3, 4, 5] rfl ?_
          refine re (E' := [(0, (.pointer (some ⟨b1, 0, none⟩))), (1, (.int .i64 n_1)), (4, (.pointer (some ⟨b5, 0, none⟩))), (5, (.pointer (some ⟨b9, 0, none⟩))), (6, (.int .i64 t13)), (7, (.int .i64 t20)), (20, (.pointer (some ⟨b9, 0, none⟩))), (27, v53)]) ⟨rfl, rfl, rfl, rfl, rfl, rfl, rfl, rfl, trivial⟩ ?_
          exact H421 r46 a50 l51 q52 bb48 r49 v53 bb54
      refine o_fad (dt 0 (fun w m => m.pick [2, 3] rfl)) rfl rfl fld25_0 rfl ?_
      refine o_mv (dt 2 (fun w m => m.pick [2, 3] rfl)) rfl rfl ?_
      refine o_mv (dt 3 (fun w m => m.pick [2, 3] rfl)) rfl rfl ?_
      refine o_addw (dt 4 (fun w m => m.pick [2, 3] rfl)) rfl rfl rfl ?_
      refine o_mv (dt 5 (fun w m => m.pick [2, 3] rfl)) rfl rfl ?_
      refine d_two (i := 1) (j := 6) rfl rfl (by kernel_rfl) ?_ ?_
      · intro o ho; cases ho
        refine o_ldc m_op (v := (.slice a22 l23 q24)) 1 rfl rfl rfl ty23 rfl ?_
        refine d_and (fun w m => m.pick [2, 3] rfl) ?_
        refine pk [0, 1, 2, 3, 4] rfl ?_
        refine re (E' := [(0, (.pointer (some ⟨b1, 0, none⟩))), (1, (.int .i64 n_1)), (4, (.pointer (some ⟨b5, 0, none⟩))), (5, (.pointer (some ⟨b9, 0, none⟩))), (6, (.int .i64 t13)), (7, (.int .i64 t20)), (22, (.pointer (some ⟨b1, 0, none⟩))), (24, (.int .i64 (w64 (t20 + 1)))), (25, (.int .i64 t13)), (21, (.slice a22 l23 q24))]) ⟨rfl, rfl, rfl, rfl, rfl, rfl, rfl, rfl, rfl, rfl, trivial⟩ ?_
        exact H420 ()
      · intro o ho; cases ho
        refine o_call (vs := [(.pointer (some ⟨b1, 0, none⟩)), (.int .i64 (w64 (t20 + 1))), (.int .i64 t13), (.int .i64 0)]) (M0 := [cellCh b1 [v2, (.int .i64 t14)] 122]) Tryd.call84 rfl rfl (by intro w m h; exact (w_spec_l20Rules (F := allB [cellCh b1 [v2, (.int .i64 t14)] 122] w) (r_0_b := r_0_b) (r_0_p := t14) (first_1 := (w64 (t20 + 1))) (chains_2 := t13) (n_3 := 0) allB_ok m.given (m.rdM 2 rfl (reads_snap hv2)) h).mono (fun _ _ k => ret_free (fun r u => (fr_cons free_dp (fr_cons free_cell fr_nil))) k)) ?_; rintro ⟨r46, r49⟩ ⟨v47, bb48⟩
        refine d_and (fun w m => m.pick [3, 4] rfl) ?_
        refine pk [0, 1, 2, 3, 4, 5] rfl ?_
        refine re (E' := [(0, (.pointer (some ⟨b1, 0, none⟩))), (1, (.int .i64 n_1)), (4, (.pointer (some ⟨b5, 0, none⟩))), (5, (.pointer (some ⟨b9, 0, none⟩))), (6, (.int .i64 t13)), (7, (.int .i64 t20)), (20, (.pointer (some ⟨b9, 0, none⟩))), (26, v47)]) ⟨rfl, rfl, rfl, rfl, rfl, rfl, rfl, rfl, trivial⟩ ?_
        exact H422 r46 v47 bb48 r49
    · rintro ⟨xs25, t29⟩ a w ⟨v26, bb28, hE, hm⟩ h
      refine nx_of hE hm h ?_
      clear hE hm h
      refine b_norm ?_
      refine l_then ?_
      refine c_region ?_
      refine o_mv st rfl rfl ?_
      refine o_add st rfl rfl rfl ?_; intro t55
      refine o_as st rfl rfl ?_
      refine c_nil ?_
      exact l_join (t29, xs25, t55) (fun a w hE hm => ⟨v26, bb28, hE.sub ⟨rfl, rfl, rfl, rfl, rfl, rfl, trivial⟩, (hm.pick [1, 2, 3, 4, 0] rfl)⟩)
  · refine c_exit ?_
    refine l_exit ?_
    refine l_exit ?_
    refine b_exit ?_
    refine l_then ?_
    refine c_join (σ := (Int × (List (List GRule)))) (fun ((t253, xs255) : (Int × (List (List GRule)))) (a : Act) (w : World) => ∃ (v254 : Value) (bb257 : List Nat), Has 80 [(4, (.pointer (some ⟨b5, 0, none⟩))), (5, (.pointer (some ⟨b9, 0, none⟩)))] a ∧ Mem (gB F [cellCh b1 [v2, (.int .i64 r_0_p)] 122] w0) (feet [cellCh b1 [v2, (.int .i64 r_0_p)] 122]) w0 [cellCh b1 [v2, (.int .i64 t253)] 122, cellCh b9 [v254, (.bool (decide (r7 = 0)))] 25, cellCh b5 [(.slice none 0 0), (.bool false)] 25, snapCh w0 F, dpCh (dSl dGRule 104) 101 bb257 v254 xs255] w) ?_ ?_
    · intro k259
      refine c_seq ?_
      refine c_region ?_
      refine o_mv st rfl rfl ?_
      refine o_mv st rfl rfl ?_
      refine stw (o_call (vs := [(.pointer (some ⟨b1, 0, none⟩)), (.int .i64 n_1)]) (M0 := [cellCh b1 [v2, (.int .i64 t14)] 122]) Tryd.call85 rfl rfl (by intro w m h; exact (w_spec_l20Rd_odd (F := allB [cellCh b1 [v2, (.int .i64 t14)] 122] w) (r_0_b := r_0_b) (r_0_p := t14) (n_1 := n_1) allB_ok m.given (m.rdM 2 rfl (reads_snap hv2)) h).mono (fun _ _ k => ret_free (fun r u => (fr_cons free_cell fr_nil)) k)) ?_); rintro ⟨r56, r57⟩ _
      refine c_nil ?_
      refine l_then ?_
      refine c_cond rfl ?_ ?_
      · refine c_seq ?_
        refine c_region ?_
        refine o_mv st rfl rfl ?_
        refine stw (o_call (vs := [(.pointer (some ⟨b1, 0, none⟩)), (.int .i64 4)]) (M0 := [cellCh b1 [v2, (.int .i64 r57)] 122]) Tryd.call68 rfl rfl (by intro w m h; exact (w_spec_l20Rd_pick (F := allB [cellCh b1 [v2, (.int .i64 r57)] 122] w) (r_0_b := r_0_b) (r_0_p := r57) (n_1 := 4) allB_ok m.given (m.rdM 2 rfl (reads_snap hv2)) h).mono (fun _ _ k => ret_free (fun r u => (fr_cons free_cell fr_nil)) k)) ?_); rintro ⟨r58, r59⟩ _
        refine c_nil ?_
        refine l_then ?_
        refine c_block ?_
        refine c_seq ?_
        refine c_region ?_
        refine o_eql st und3 rfl rfl rfl ?_
        refine o_as st rfl rfl ?_
        refine c_nil ?_
        refine l_then ?_
        refine c_cond rfl ?_ ?_
        · refine c_region ?_
          refine stw (o_bslD0 (E' := (dSl dGRule 104)) (qs := []) (by intro ρ h; simp only [List.map_toArray, List.map_cons, List.map_nil]) rfl el23 zero101 rfl rfl rfl ?_); intro bb61 v60
          refine o_fad st rfl rfl fld25_0 rfl ?_
          refine nx_dp 0 rfl ?_; rintro a63 l64 q65 rfl
          refine stw (o_stc (cs' := [(.slice a63 l64 q65), (.bool (decide (r7 = 0)))]) 2 rfl rfl rfl ty23 rfl rfl rfl rfl ?_)
          refine c_nil ?_
          refine b_norm ?_
          exact l_join (r59, []) (fun a w hE hm => ⟨(.slice a63 l64 q65), bb61, hE.sub ⟨rfl, rfl, trivial⟩, (hm.pick [1, 2, 3, 4, 0] rfl)⟩)
        · refine c_seq ?_
          refine c_region ?_
          refine o_eql st und3 rfl rfl rfl ?_
          refine o_as st rfl rfl ?_
          refine c_nil ?_
          refine l_then ?_
          refine c_cond rfl ?_ ?_
          · refine nx_dp 4 rfl ?_; rintro a66 l67 q68 rfl
            refine c_join1 (σ := ((List (List GRule)) × Int)) (fun ((xs69, t72) : ((List (List GRule)) × Int)) (a : Act) (w : World) => ∃ (bb71 : List Nat), Has 80 [(4, (.pointer (some ⟨b5, 0, none⟩))), (5, (.pointer (some ⟨b9, 0, none⟩)))] a ∧ Mem (gB F [cellCh b1 [v2, (.int .i64 r_0_p)] 122] w0) (feet [cellCh b1 [v2, (.int .i64 r_0_p)] 122]) w0 [dpCh (dSl dGRule 104) 101 bb71 (.slice a66 l67 q68) xs69, cellCh b1 [v2, (.int .i64 t72)] 122, cellCh b9 [(.slice a66 l67 q68), (.bool (decide (r7 = 0)))] 25, cellCh b5 [(.slice none 0 0), (.bool false)] 25, snapCh w0 F] w) ?_ ?_
            · intro k73
              refine c_drawQ mixed 17 rfl [cellCh b9 [(.slice a66 l67 q68), (.bool (decide (r7 = 0)))] 25, cellCh b5 [(.slice none 0 0), (.bool false)] 25, snapCh w0 F] ?_
              intro Qd hP hQ
              have H450 : ∀ (e74 : (List GRule)) (h75 : xs16[(0 : Int).toNat]? = some e74) (v76 : Value) (bb77 : List Nat) (bb78 : List Nat) (v79 : Value) (r80 : Int) (r81 : Int) (e82 : Int) (h83 : ([0, t13])[(r80).toNat]? = some e82) (v84 : Value) (bb85 : List Nat) (a91 : Option Addr) (l92 : Nat) (q93 : Nat) (bb87 : List Nat) (e89 : (List GRule)) (h90 : xs16[(0 : Int).toNat]? = some e89) (bb94 : List Nat), Nx 80 (gB F [cellCh b1 [v2, (.int .i64 r_0_p)] 122] w0) (feet [cellCh b1 [v2, (.int .i64 r_0_p)] 122]) w0 (wpAnyH Tryd.prog .any (opsAt Tryd.f50 [1, 1, 1, 1, 0, 1, 0, 1, 0, 1, 1, 1, 0]) Qd (Mem (gB F [cellCh b1 [v2, (.int .i64 r_0_p)] 122] w0) (feet [cellCh b1 [v2, (.int .i64 r_0_p)] 122]) w0 [cellCh b9 [(.slice a66 l67 q68), (.bool (decide (r7 = 0)))] 25, cellCh b5 [(.slice none 0 0), (.bool false)] 25, snapCh w0 F]) 0 #[true, true, true, true, true, true, true, true, true, true, true, true, true, true, true, true, true]) [(4, (.pointer (some ⟨b5, 0, none⟩))), (5, (.pointer (some ⟨b9, 0, none⟩)))] [dpCh (dSl dGRule 104) 101 bb94 (.slice a66 l67 q68) (xs16.set (0 : Int).toNat (e74 ++ ([(GRule.mk ([]) 3 e82)]))), cellCh b1 [v2, (.int .i64 r81)] 122, cellCh b9 [(.slice a66 l67 q68), (.bool (decide (r7 = 0)))] 25, cellCh b5 [(.slice none 0 0), (.bool false)] 25, snapCh w0 F] (k73 ((xs16.set (0 : Int).toNat (e74 ++ ([(GRule.mk ([]) 3 e82)]))), r81)) := by
                intro e74 h75 v76 bb77 bb78 v79 r80 r81 e82 h83 v84 bb85 a91 l92 q93 bb87 e89 h90 bb94
                refine d_done (by kernel_rfl) ?_
                exact fun a w hE hm hφ => hQ ((xs16.set (0 : Int).toNat (e74 ++ ([(GRule.mk ([]) 3 e82)]))), r81) a w hφ ((fun a w hE hm => ⟨bb94, hE.sub ⟨rfl, rfl, trivial⟩, (hm.pick [0, 1, 2, 3, 4] rfl)⟩) a w hE hm)
              have H451 : ∀ (e74 : (List GRule)) (h75 : xs16[(0 : Int).toNat]? = some e74) (v76 : Value) (bb77 : List Nat) (bb78 : List Nat) (v79 : Value) (r80 : Int) (r81 : Int) (e82 : Int) (h83 : ([0, t13])[(r80).toNat]? = some e82) (v84 : Value) (bb85 : List Nat) (v86 : Value) (bb87 : List Nat) (e89 : (List GRule)) (h90 : xs16[(0 : Int).toNat]? = some e89), Nx 80 (gB F [cellCh b1 [v2, (.int .i64 r_0_p)] 122] w0) (feet [cellCh b1 [v2, (.int .i64 r_0_p)] 122]) w0 (wpAnyH Tryd.prog .any (opsAt Tryd.f50 [1, 1, 1, 1, 0, 1, 0, 1, 0, 1, 1, 1, 0]) Qd (Mem (gB F [cellCh b1 [v2, (.int .i64 r_0_p)] 122] w0) (feet [cellCh b1 [v2, (.int .i64 r_0_p)] 122]) w0 [cellCh b9 [(.slice a66 l67 q68), (.bool (decide (r7 = 0)))] 25, cellCh b5 [(.slice none 0 0), (.bool false)] 25, snapCh w0 F]) 1 #[true, true, true, true, true, true, true, true, true, true, true, true, true, true, true, true, false]) [(4, (.pointer (some ⟨b5, 0, none⟩))), (5, (.pointer (some ⟨b9, 0, none⟩))), (61, v86), (62, (pEl (.slice a66 l67 q68) 0 1 0))] [dpCh dGRule 104 bb87 v86 (e74 ++ ([(GRule.mk ([]) 3 e82)])), cellCh b1 [v2, (.int .i64 r81)] 122, holeCh (dSl dGRule 104) 101 bb77 (.slice a66 l67 q68) xs16 (0 : Int).toNat [v76], cellCh b9 [(.slice a66 l67 q68), (.bool (decide (r7 = 0)))] 25, cellCh b5 [(.slice none 0 0), (.bool false)] 25, snapCh w0 F] (k73 ((xs16.set (0 : Int).toNat (e74 ++ ([(GRule.mk ([]) 3 e82)]))), r81)) := by
                intro e74 h75 v76 bb77 bb78 v79 r80 r81 e82 h83 v84 bb85 v86 bb87 e89 h90
                refine nx_dp 0 rfl ?_; rintro a91 l92 q93 rfl
                refine pk [2, 0, 1, 3, 4, 5] rfl ?_
                refine d_one (i := 16) rfl (by kernel_rfl) (o_stH (M := [dpCh dGRule 104 bb87 (.slice a91 l92 q93) (e74 ++ ([(GRule.mk ([]) 3 e82)]))]) (y' := (e74 ++ ([(GRule.mk ([]) 3 e82)]))) rfl (.inr (lt_of_get h75)) (absorb_one gives_dp (fun B w h => ⟨_, rfl, h⟩)) ty101 rfl rfl rfl rfl rfl ?_); intro bb94
                refine d_and (fun w m => m.pick [2, 3, 4] rfl) ?_
                refine pk [0, 1, 2, 3, 4] rfl ?_
                refine re (E' := [(4, (.pointer (some ⟨b5, 0, none⟩))), (5, (.pointer (some ⟨b9, 0, none⟩)))]) ⟨rfl, rfl, trivial⟩ ?_
                exact H450 e74 h75 v76 bb77 bb78 v79 r80 r81 e82 h83 v84 bb85 a91 l92 q93 bb87 e89 h90 bb94
              have H452 : ∀ (e74 : (List GRule)) (h75 : xs16[(0 : Int).toNat]? = some e74) (v76 : Value) (bb77 : List Nat) (bb78 : List Nat) (v79 : Value) (r80 : Int) (r81 : Int) (e82 : Int) (h83 : ([0, t13])[(r80).toNat]? = some e82) (v84 : Value) (bb85 : List Nat) (v86 : Value) (bb87 : List Nat), Nx 80 (gB F [cellCh b1 [v2, (.int .i64 r_0_p)] 122] w0) (feet [cellCh b1 [v2, (.int .i64 r_0_p)] 122]) w0 (wpAnyH Tryd.prog .any (opsAt Tryd.f50 [1, 1, 1, 1, 0, 1, 0, 1, 0, 1, 1, 1, 0]) Qd (Mem (gB F [cellCh b1 [v2, (.int .i64 r_0_p)] 122] w0) (feet [cellCh b1 [v2, (.int .i64 r_0_p)] 122]) w0 [cellCh b9 [(.slice a66 l67 q68), (.bool (decide (r7 = 0)))] 25, cellCh b5 [(.slice none 0 0), (.bool false)] 25, snapCh w0 F]) 2 #[true, true, true, true, true, true, true, true, true, true, true, true, true, true, true, false, false]) [(4, (.pointer (some ⟨b5, 0, none⟩))), (5, (.pointer (some ⟨b9, 0, none⟩))), (48, (.slice a66 l67 q68)), (61, v86)] [dpCh dGRule 104 bb87 v86 (e74 ++ ([(GRule.mk ([]) 3 e82)])), cellCh b1 [v2, (.int .i64 r81)] 122, holeCh (dSl dGRule 104) 101 bb77 (.slice a66 l67 q68) xs16 (0 : Int).toNat [v76], cellCh b9 [(.slice a66 l67 q68), (.bool (decide (r7 = 0)))] 25, cellCh b5 [(.slice none 0 0), (.bool false)] 25, snapCh w0 F] (idxW xs16 0 (fun e89 => k73 ((xs16.set (0 : Int).toNat (e74 ++ ([(GRule.mk ([]) 3 e82)]))), r81))) := by
                intro e74 h75 v76 bb77 bb78 v79 r80 r81 e82 h83 v84 bb85 v86 bb87
                refine d_one (i := 15) rfl (by kernel_rfl) (o_idxH m_op 2 rfl rfl rfl rfl el23 ?_); intro e89 h90
                refine d_and (fun w m => m.pick [3, 4, 5] rfl) ?_
                refine pk [0, 1, 2, 3, 4, 5] rfl ?_
                refine re (E' := [(4, (.pointer (some ⟨b5, 0, none⟩))), (5, (.pointer (some ⟨b9, 0, none⟩))), (61, v86), (62, (pEl (.slice a66 l67 q68) 0 1 0))]) ⟨rfl, rfl, rfl, rfl, trivial⟩ ?_
                exact H451 e74 h75 v76 bb77 bb78 v79 r80 r81 e82 h83 v84 bb85 v86 bb87 e89 h90
              have H453 : ∀ (e74 : (List GRule)) (h75 : xs16[(0 : Int).toNat]? = some e74) (v76 : Value) (bb77 : List Nat) (bb78 : List Nat) (v79 : Value) (r80 : Int) (r81 : Int) (e82 : Int) (h83 : ([0, t13])[(r80).toNat]? = some e82) (v84 : Value) (bb85 : List Nat), Nx 80 (gB F [cellCh b1 [v2, (.int .i64 r_0_p)] 122] w0) (feet [cellCh b1 [v2, (.int .i64 r_0_p)] 122]) w0 (wpAnyH Tryd.prog .any (opsAt Tryd.f50 [1, 1, 1, 1, 0, 1, 0, 1, 0, 1, 1, 1, 0]) Qd (Mem (gB F [cellCh b1 [v2, (.int .i64 r_0_p)] 122] w0) (feet [cellCh b1 [v2, (.int .i64 r_0_p)] 122]) w0 [cellCh b9 [(.slice a66 l67 q68), (.bool (decide (r7 = 0)))] 25, cellCh b5 [(.slice none 0 0), (.bool false)] 25, snapCh w0 F]) 3 #[true, true, true, true, true, true, true, true, true, true, true, true, true, true, false, false, false]) [(4, (.pointer (some ⟨b5, 0, none⟩))), (5, (.pointer (some ⟨b9, 0, none⟩))), (48, (.slice a66 l67 q68)), (52, v76), (60, v84)] [dpCh dGRule 104 bb85 v84 ([(GRule.mk ([]) 3 e82)]), cellCh b1 [v2, (.int .i64 r81)] 122, holeCh (dSl dGRule 104) 101 bb77 (.slice a66 l67 q68) xs16 (0 : Int).toNat [v76], dpCh dGRule 104 bb78 v76 e74, cellCh b9 [(.slice a66 l67 q68), (.bool (decide (r7 = 0)))] 25, cellCh b5 [(.slice none 0 0), (.bool false)] 25, snapCh w0 F] (appW e74 ([(GRule.mk ([]) 3 e82)]) (fun _ => idxW xs16 0 (fun e89 => k73 ((xs16.set (0 : Int).toNat (e74 ++ ([(GRule.mk ([]) 3 e82)]))), r81)))) := by
                intro e74 h75 v76 bb77 bb78 v79 r80 r81 e82 h83 v84 bb85
                refine pk [3, 0, 1, 2, 4, 5, 6] rfl ?_
                refine d_one (i := 14) rfl (by kernel_rfl) (o_appD rfl rfl rfl el101 rfl zero104 rfl rfl ?_); intro bb87 v86
                refine d_and (fun w m => m.pick [3, 4, 5] rfl) ?_
                refine pk [0, 1, 2, 3, 4, 5] rfl ?_
                refine re (E' := [(4, (.pointer (some ⟨b5, 0, none⟩))), (5, (.pointer (some ⟨b9, 0, none⟩))), (48, (.slice a66 l67 q68)), (61, v86)]) ⟨rfl, rfl, rfl, rfl, trivial⟩ ?_
                exact H452 e74 h75 v76 bb77 bb78 v79 r80 r81 e82 h83 v84 bb85 v86 bb87
              have H454 : ∀ (e74 : (List GRule)) (h75 : xs16[(0 : Int).toNat]? = some e74) (v76 : Value) (bb77 : List Nat) (bb78 : List Nat) (v79 : Value) (r80 : Int) (r81 : Int) (e82 : Int) (h83 : ([0, t13])[(r80).toNat]? = some e82), Nx 80 (gB F [cellCh b1 [v2, (.int .i64 r_0_p)] 122] w0) (feet [cellCh b1 [v2, (.int .i64 r_0_p)] 122]) w0 (wpAnyH Tryd.prog .any (opsAt Tryd.f50 [1, 1, 1, 1, 0, 1, 0, 1, 0, 1, 1, 1, 0]) Qd (Mem (gB F [cellCh b1 [v2, (.int .i64 r_0_p)] 122] w0) (feet [cellCh b1 [v2, (.int .i64 r_0_p)] 122]) w0 [cellCh b9 [(.slice a66 l67 q68), (.bool (decide (r7 = 0)))] 25, cellCh b5 [(.slice none 0 0), (.bool false)] 25, snapCh w0 F]) 5 #[true, true, true, true, true, true, true, true, true, true, true, true, false, false, false, false, false]) [(4, (.pointer (some ⟨b5, 0, none⟩))), (5, (.pointer (some ⟨b9, 0, none⟩))), (48, (.slice a66 l67 q68)), (52, v76), (58, (.int .i64 e82))] [cellCh b1 [v2, (.int .i64 r81)] 122, holeCh (dSl dGRule 104) 101 bb77 (.slice a66 l67 q68) xs16 (0 : Int).toNat [v76], dpCh dGRule 104 bb78 v76 e74, cellCh b9 [(.slice a66 l67 q68), (.bool (decide (r7 = 0)))] 25, cellCh b5 [(.slice none 0 0), (.bool false)] 25, snapCh w0 F] (appW e74 ([(GRule.mk ([]) 3 e82)]) (fun _ => idxW xs16 0 (fun e89 => k73 ((xs16.set (0 : Int).toNat (e74 ++ ([(GRule.mk ([]) 3 e82)]))), r81)))) := by
                intro e74 h75 v76 bb77 bb78 v79 r80 r81 e82 h83
                refine o_bld (dt 12 (fun w m => m.pick [3, 4, 5] rfl)) (qs := [(1, (.int .i64 3)), (2, (.int .i64 e82))]) (cells := [(.slice none 0 0), (.int .i64 3), (.int .i64 e82)]) (by intro ρ h; simp only [List.map_toArray, List.map_cons, List.map_nil, h (.const (.int .i64 3)) _ rfl, h (.tmp 58) _ rfl]) rfl bld104 rfl ?_
                refine d_one (i := 13) rfl (by kernel_rfl) (o_bslD (M := []) (E' := dGRule) (qs := [(0, (.agg #[(.slice none 0 0), (.int .i64 3), (.int .i64 e82)]))]) (cs := [(.slice none 0 0), (.int .i64 3), (.int .i64 e82)]) (GRule.mk ([]) 3 e82) (absorb_nil (fun w => ⟨_, rfl, Dp.nil⟩)) (by intro ρ h; simp only [List.map_toArray, List.map_cons, List.map_nil, h (.tmp 59) _ rfl]) rfl el101 zero104 rfl rfl rfl rfl ?_); intro bb85 v84
                refine d_and (fun w m => m.pick [4, 5, 6] rfl) ?_
                refine pk [0, 1, 2, 3, 4, 5, 6] rfl ?_
                refine re (E' := [(4, (.pointer (some ⟨b5, 0, none⟩))), (5, (.pointer (some ⟨b9, 0, none⟩))), (48, (.slice a66 l67 q68)), (52, v76), (60, v84)]) ⟨rfl, rfl, rfl, rfl, rfl, trivial⟩ ?_
                exact H453 e74 h75 v76 bb77 bb78 v79 r80 r81 e82 h83 v84 bb85
              have H455 : ∀ (e74 : (List GRule)) (h75 : xs16[(0 : Int).toNat]? = some e74) (v76 : Value) (bb77 : List Nat) (bb78 : List Nat) (v79 : Value) (r80 : Int) (r81 : Int) (e82 : Int) (h83 : ([0, t13])[(r80).toNat]? = some e82), Nx 80 (gB F [cellCh b1 [v2, (.int .i64 r_0_p)] 122] w0) (feet [cellCh b1 [v2, (.int .i64 r_0_p)] 122]) w0 (wpAnyH Tryd.prog .any (opsAt Tryd.f50 [1, 1, 1, 1, 0, 1, 0, 1, 0, 1, 1, 1, 0]) Qd (Mem (gB F [cellCh b1 [v2, (.int .i64 r_0_p)] 122] w0) (feet [cellCh b1 [v2, (.int .i64 r_0_p)] 122]) w0 [cellCh b9 [(.slice a66 l67 q68), (.bool (decide (r7 = 0)))] 25, cellCh b5 [(.slice none 0 0), (.bool false)] 25, snapCh w0 F]) 6 #[true, true, true, true, true, true, true, true, true, true, true, false, false, false, false, false, false]) [(4, (.pointer (some ⟨b5, 0, none⟩))), (5, (.pointer (some ⟨b9, 0, none⟩))), (48, (.slice a66 l67 q68)), (52, v76), (57, (pEl v79 r80 1 0))] [cellCh b1 [v2, (.int .i64 r81)] 122, ownCh elInt 3 v79 ([0, t13]), holeCh (dSl dGRule 104) 101 bb77 (.slice a66 l67 q68) xs16 (0 : Int).toNat [v76], dpCh dGRule 104 bb78 v76 e74, cellCh b9 [(.slice a66 l67 q68), (.bool (decide (r7 = 0)))] 25, cellCh b5 [(.slice none 0 0), (.bool false)] 25, snapCh w0 F] (appW e74 ([(GRule.mk ([]) 3 e82)]) (fun _ => idxW xs16 0 (fun e89 => k73 ((xs16.set (0 : Int).toNat (e74 ++ ([(GRule.mk ([]) 3 e82)]))), r81)))) := by
                intro e74 h75 v76 bb77 bb78 v79 r80 r81 e82 h83
                refine d_one (i := 11) rfl (by kernel_rfl) (o_lds m_op (enc := encInt) (u := (.int .i64 e82)) 1 rfl reads_own flelInt rfl h83 rfl rfl ty3 rfl ?_)
                refine d_and (fun w m => m.pick [4, 5, 6] rfl) ?_
                refine pk [0, 2, 3, 4, 5, 6] rfl ?_
                refine re (E' := [(4, (.pointer (some ⟨b5, 0, none⟩))), (5, (.pointer (some ⟨b9, 0, none⟩))), (48, (.slice a66 l67 q68)), (52, v76), (58, (.int .i64 e82))]) ⟨rfl, rfl, rfl, rfl, rfl, trivial⟩ ?_
                exact H454 e74 h75 v76 bb77 bb78 v79 r80 r81 e82 h83
              have H456 : ∀ (e74 : (List GRule)) (h75 : xs16[(0 : Int).toNat]? = some e74) (v76 : Value) (bb77 : List Nat) (bb78 : List Nat) (v79 : Value) (r80 : Int) (r81 : Int), Nx 80 (gB F [cellCh b1 [v2, (.int .i64 r_0_p)] 122] w0) (feet [cellCh b1 [v2, (.int .i64 r_0_p)] 122]) w0 (wpAnyH Tryd.prog .any (opsAt Tryd.f50 [1, 1, 1, 1, 0, 1, 0, 1, 0, 1, 1, 1, 0]) Qd (Mem (gB F [cellCh b1 [v2, (.int .i64 r_0_p)] 122] w0) (feet [cellCh b1 [v2, (.int .i64 r_0_p)] 122]) w0 [cellCh b9 [(.slice a66 l67 q68), (.bool (decide (r7 = 0)))] 25, cellCh b5 [(.slice none 0 0), (.bool false)] 25, snapCh w0 F]) 7 #[true, true, true, true, true, true, true, true, true, true, false, false, false, false, false, false, false]) [(4, (.pointer (some ⟨b5, 0, none⟩))), (5, (.pointer (some ⟨b9, 0, none⟩))), (48, (.slice a66 l67 q68)), (52, v76), (54, v79), (56, (.int .i64 r80))] [cellCh b1 [v2, (.int .i64 r81)] 122, ownCh elInt 3 v79 ([0, t13]), holeCh (dSl dGRule 104) 101 bb77 (.slice a66 l67 q68) xs16 (0 : Int).toNat [v76], dpCh dGRule 104 bb78 v76 e74, cellCh b9 [(.slice a66 l67 q68), (.bool (decide (r7 = 0)))] 25, cellCh b5 [(.slice none 0 0), (.bool false)] 25, snapCh w0 F] (idxW ([0, t13]) r80 (fun e82 => appW e74 ([(GRule.mk ([]) 3 e82)]) (fun _ => idxW xs16 0 (fun e89 => k73 ((xs16.set (0 : Int).toNat (e74 ++ ([(GRule.mk ([]) 3 e82)]))), r81))))) := by
                intro e74 h75 v76 bb77 bb78 v79 r80 r81
                refine d_one (i := 10) rfl (by kernel_rfl) (o_idx m_op 1 rfl reads_own rfl rfl rfl el99 ?_); intro e82 h83
                refine d_and (fun w m => m.pick [4, 5, 6] rfl) ?_
                refine pk [0, 1, 2, 3, 4, 5, 6] rfl ?_
                refine re (E' := [(4, (.pointer (some ⟨b5, 0, none⟩))), (5, (.pointer (some ⟨b9, 0, none⟩))), (48, (.slice a66 l67 q68)), (52, v76), (57, (pEl v79 r80 1 0))]) ⟨rfl, rfl, rfl, rfl, rfl, trivial⟩ ?_
                exact H455 e74 h75 v76 bb77 bb78 v79 r80 r81 e82 h83
              have H457 : ∀ (e74 : (List GRule)) (h75 : xs16[(0 : Int).toNat]? = some e74) (v76 : Value) (bb77 : List Nat) (bb78 : List Nat) (v79 : Value), Nx 80 (gB F [cellCh b1 [v2, (.int .i64 r_0_p)] 122] w0) (feet [cellCh b1 [v2, (.int .i64 r_0_p)] 122]) w0 (wpAnyH Tryd.prog .any (opsAt Tryd.f50 [1, 1, 1, 1, 0, 1, 0, 1, 0, 1, 1, 1, 0]) Qd (Mem (gB F [cellCh b1 [v2, (.int .i64 r_0_p)] 122] w0) (feet [cellCh b1 [v2, (.int .i64 r_0_p)] 122]) w0 [cellCh b9 [(.slice a66 l67 q68), (.bool (decide (r7 = 0)))] 25, cellCh b5 [(.slice none 0 0), (.bool false)] 25, snapCh w0 F]) 8 #[true, true, true, true, true, true, true, true, true, false, false, false, false, false, false, false, false]) [(4, (.pointer (some ⟨b5, 0, none⟩))), (5, (.pointer (some ⟨b9, 0, none⟩))), (48, (.slice a66 l67 q68)), (55, (.pointer (some ⟨b1, 0, none⟩))), (52, v76), (54, v79)] [ownCh elInt 3 v79 ([0, t13]), holeCh (dSl dGRule 104) 101 bb77 (.slice a66 l67 q68) xs16 (0 : Int).toNat [v76], dpCh dGRule 104 bb78 v76 e74, cellCh b1 [v2, (.int .i64 r59)] 122, cellCh b9 [(.slice a66 l67 q68), (.bool (decide (r7 = 0)))] 25, cellCh b5 [(.slice none 0 0), (.bool false)] 25, snapCh w0 F] (L_spec_l20Rd_pick r_0_b r59 2 (fun (r80, r81) => idxW ([0, t13]) r80 (fun e82 => appW e74 ([(GRule.mk ([]) 3 e82)]) (fun _ => idxW xs16 0 (fun e89 => k73 ((xs16.set (0 : Int).toNat (e74 ++ ([(GRule.mk ([]) 3 e82)]))), r81)))))) := by
                intro e74 h75 v76 bb77 bb78 v79
                refine pk [3, 0, 1, 2, 4, 5, 6] rfl ?_
                refine d_one (i := 9) rfl (by kernel_rfl) (o_call (vs := [(.pointer (some ⟨b1, 0, none⟩)), (.int .i64 2)]) (M0 := [cellCh b1 [v2, (.int .i64 r59)] 122]) Tryd.call68 rfl rfl (by intro w m h; exact (w_spec_l20Rd_pick (F := allB [cellCh b1 [v2, (.int .i64 r59)] 122] w) (r_0_b := r_0_b) (r_0_p := r59) (n_1 := 2) allB_ok m.given (m.rdM 5 rfl (reads_snap hv2)) h).mono (fun _ _ k => ret_free (fun r u => (fr_cons free_cell fr_nil)) k)) ?_); rintro ⟨r80, r81⟩ _
                refine d_and (fun w m => m.pick [4, 5, 6] rfl) ?_
                refine pk [0, 1, 2, 3, 4, 5, 6] rfl ?_
                refine re (E' := [(4, (.pointer (some ⟨b5, 0, none⟩))), (5, (.pointer (some ⟨b9, 0, none⟩))), (48, (.slice a66 l67 q68)), (52, v76), (54, v79), (56, (.int .i64 r80))]) ⟨rfl, rfl, rfl, rfl, rfl, rfl, trivial⟩ ?_
                exact H456 e74 h75 v76 bb77 bb78 v79 r80 r81
              have H458 : ∀ (e74 : (List GRule)) (h75 : xs16[(0 : Int).toNat]? = some e74) (v76 : Value) (bb77 : List Nat) (bb78 : List Nat) (r96 : Int) (r97 : Int), Nx 80 (gB F [cellCh b1 [v2, (.int .i64 r_0_p)] 122] w0) (feet [cellCh b1 [v2, (.int .i64 r_0_p)] 122]) w0 (wpAnyH Tryd.prog .any (opsAt Tryd.f50 [1, 1, 1, 1, 0, 1, 0, 1, 0, 1, 1, 1, 0]) Qd (Mem (gB F [cellCh b1 [v2, (.int .i64 r_0_p)] 122] w0) (feet [cellCh b1 [v2, (.int .i64 r_0_p)] 122]) w0 [cellCh b9 [(.slice a66 l67 q68), (.bool (decide (r7 = 0)))] 25, cellCh b5 [(.slice none 0 0), (.bool false)] 25, snapCh w0 F]) 8 #[true, true, true, true, true, true, true, false, true, true, false, false, false, false, false, false, false]) [(4, (.pointer (some ⟨b5, 0, none⟩))), (5, (.pointer (some ⟨b9, 0, none⟩))), (48, (.slice a66 l67 q68)), (53, (.int .i64 t13)), (52, v76), (56, (.int .i64 r96))] [cellCh b1 [v2, (.int .i64 r97)] 122, holeCh (dSl dGRule 104) 101 bb77 (.slice a66 l67 q68) xs16 (0 : Int).toNat [v76], dpCh dGRule 104 bb78 v76 e74, cellCh b9 [(.slice a66 l67 q68), (.bool (decide (r7 = 0)))] 25, cellCh b5 [(.slice none 0 0), (.bool false)] 25, snapCh w0 F] (idxW ([0, t13]) r96 (fun e82 => appW e74 ([(GRule.mk ([]) 3 e82)]) (fun _ => idxW xs16 0 (fun e89 => k73 ((xs16.set (0 : Int).toNat (e74 ++ ([(GRule.mk ([]) 3 e82)]))), r97))))) := by
                intro e74 h75 v76 bb77 bb78 r96 r97
                refine d_one (i := 7) rfl (by kernel_rfl) (o_bsl (enc := encInt) (qs := [(0, (.int .i64 0)), (1, (.int .i64 t13))]) (cells := [(.int .i64 0), (.int .i64 t13)]) ([0, t13]) flelInt (by intro ρ h; simp only [List.map_toArray, List.map_cons, List.map_nil, h (.const (.int .i64 0)) _ rfl, h (.tmp 53) _ rfl]) rfl el99 zero3 rfl rfl rfl rfl rfl rfl ?_); intro v98
                refine d_and (fun w m => m.pick [4, 5, 6] rfl) ?_
                refine pk [1, 0, 2, 3, 4, 5, 6] rfl ?_
                refine re (E' := [(4, (.pointer (some ⟨b5, 0, none⟩))), (5, (.pointer (some ⟨b9, 0, none⟩))), (48, (.slice a66 l67 q68)), (52, v76), (54, v98), (56, (.int .i64 r96))]) ⟨rfl, rfl, rfl, rfl, rfl, rfl, trivial⟩ ?_
                exact H456 e74 h75 v76 bb77 bb78 v98 r96 r97
              have H459 : ∀ (e74 : (List GRule)) (h75 : xs16[(0 : Int).toNat]? = some e74) (v76 : Value) (bb77 : List Nat) (bb78 : List Nat), Nx 80 (gB F [cellCh b1 [v2, (.int .i64 r_0_p)] 122] w0) (feet [cellCh b1 [v2, (.int .i64 r_0_p)] 122]) w0 (wpAnyH Tryd.prog .any (opsAt Tryd.f50 [1, 1, 1, 1, 0, 1, 0, 1, 0, 1, 1, 1, 0]) Qd (Mem (gB F [cellCh b1 [v2, (.int .i64 r_0_p)] 122] w0) (feet [cellCh b1 [v2, (.int .i64 r_0_p)] 122]) w0 [cellCh b9 [(.slice a66 l67 q68), (.bool (decide (r7 = 0)))] 25, cellCh b5 [(.slice none 0 0), (.bool false)] 25, snapCh w0 F]) 9 #[true, true, true, true, true, true, true, false, true, false, false, false, false, false, false, false, false]) [(4, (.pointer (some ⟨b5, 0, none⟩))), (5, (.pointer (some ⟨b9, 0, none⟩))), (48, (.slice a66 l67 q68)), (53, (.int .i64 t13)), (55, (.pointer (some ⟨b1, 0, none⟩))), (52, v76)] [holeCh (dSl dGRule 104) 101 bb77 (.slice a66 l67 q68) xs16 (0 : Int).toNat [v76], dpCh dGRule 104 bb78 v76 e74, cellCh b1 [v2, (.int .i64 r59)] 122, cellCh b9 [(.slice a66 l67 q68), (.bool (decide (r7 = 0)))] 25, cellCh b5 [(.slice none 0 0), (.bool false)] 25, snapCh w0 F] (L_spec_l20Rd_pick r_0_b r59 2 (fun (r80, r81) => idxW ([0, t13]) r80 (fun e82 => appW e74 ([(GRule.mk ([]) 3 e82)]) (fun _ => idxW xs16 0 (fun e89 => k73 ((xs16.set (0 : Int).toNat (e74 ++ ([(GRule.mk ([]) 3 e82)]))), r81)))))) := by
                intro e74 h75 v76 bb77 bb78
                refine d_two (i := 7) (j := 9) rfl rfl (by kernel_rfl) ?_ ?_
                · intro o ho; cases ho
                  refine o_bsl (enc := encInt) (qs := [(0, (.int .i64 0)), (1, (.int .i64 t13))]) (cells := [(.int .i64 0), (.int .i64 t13)]) ([0, t13]) flelInt (by intro ρ h; simp only [List.map_toArray, List.map_cons, List.map_nil, h (.const (.int .i64 0)) _ rfl, h (.tmp 53) _ rfl]) rfl el99 zero3 rfl rfl rfl rfl rfl rfl ?_; intro v79
                  refine d_and (fun w m => m.pick [4, 5, 6] rfl) ?_
                  refine pk [0, 1, 2, 3, 4, 5, 6] rfl ?_
                  refine re (E' := [(4, (.pointer (some ⟨b5, 0, none⟩))), (5, (.pointer (some ⟨b9, 0, none⟩))), (48, (.slice a66 l67 q68)), (55, (.pointer (some ⟨b1, 0, none⟩))), (52, v76), (54, v79)]) ⟨rfl, rfl, rfl, rfl, rfl, rfl, trivial⟩ ?_
                  exact H457 e74 h75 v76 bb77 bb78 v79
                · intro o ho; cases ho
                  refine pk [2, 0, 1, 3, 4, 5] rfl ?_
                  refine o_call (vs := [(.pointer (some ⟨b1, 0, none⟩)), (.int .i64 2)]) (M0 := [cellCh b1 [v2, (.int .i64 r59)] 122]) Tryd.call68 rfl rfl (by intro w m h; exact (w_spec_l20Rd_pick (F := allB [cellCh b1 [v2, (.int .i64 r59)] 122] w) (r_0_b := r_0_b) (r_0_p := r59) (n_1 := 2) allB_ok m.given (m.rdM 4 rfl (reads_snap hv2)) h).mono (fun _ _ k => ret_free (fun r u => (fr_cons free_cell fr_nil)) k)) ?_; rintro ⟨r96, r97⟩ _
                  refine d_and (fun w m => m.pick [3, 4, 5] rfl) ?_
                  refine pk [0, 1, 2, 3, 4, 5] rfl ?_
                  refine re (E' := [(4, (.pointer (some ⟨b5, 0, none⟩))), (5, (.pointer (some ⟨b9, 0, none⟩))), (48, (.slice a66 l67 q68)), (53, (.int .i64 t13)), (52, v76), (56, (.int .i64 r96))]) ⟨rfl, rfl, rfl, rfl, rfl, rfl, trivial⟩ ?_
                  exact H458 e74 h75 v76 bb77 bb78 r96 r97
              have H460 : ∀ (e74 : (List GRule)) (h75 : xs16[(0 : Int).toNat]? = some e74) (v99 : Value) (r103 : Int) (r104 : Int) (e108 : Int) (h109 : ([0, t13])[(r103).toNat]? = some e108) (v113 : Value) (bb114 : List Nat) (bb115 : List Nat), Nx 80 (gB F [cellCh b1 [v2, (.int .i64 r_0_p)] 122] w0) (feet [cellCh b1 [v2, (.int .i64 r_0_p)] 122]) w0 (wpAnyH Tryd.prog .any (opsAt Tryd.f50 [1, 1, 1, 1, 0, 1, 0, 1, 0, 1, 1, 1, 0]) Qd (Mem (gB F [cellCh b1 [v2, (.int .i64 r_0_p)] 122] w0) (feet [cellCh b1 [v2, (.int .i64 r_0_p)] 122]) w0 [cellCh b9 [(.slice a66 l67 q68), (.bool (decide (r7 = 0)))] 25, cellCh b5 [(.slice none 0 0), (.bool false)] 25, snapCh w0 F]) 4 #[true, true, true, true, true, true, true, true, true, true, true, true, true, false, false, false, false]) [(4, (.pointer (some ⟨b5, 0, none⟩))), (5, (.pointer (some ⟨b9, 0, none⟩))), (48, (.slice a66 l67 q68)), (59, (.agg #[(.slice none 0 0), (.int .i64 3), (.int .i64 e108)])), (52, v113)] [holeCh (dSl dGRule 104) 101 bb114 (.slice a66 l67 q68) xs16 (0 : Int).toNat [v113], dpCh dGRule 104 bb115 v113 e74, cellCh b1 [v2, (.int .i64 r104)] 122, cellCh b9 [(.slice a66 l67 q68), (.bool (decide (r7 = 0)))] 25, cellCh b5 [(.slice none 0 0), (.bool false)] 25, snapCh w0 F] (appW e74 ([(GRule.mk ([]) 3 e108)]) (fun _ => idxW xs16 0 (fun e89 => k73 ((xs16.set (0 : Int).toNat (e74 ++ ([(GRule.mk ([]) 3 e108)]))), r104)))) := by
                intro e74 h75 v99 r103 r104 e108 h109 v113 bb114 bb115
                refine d_one (i := 13) rfl (by kernel_rfl) (o_bslD (M := []) (E' := dGRule) (qs := [(0, (.agg #[(.slice none 0 0), (.int .i64 3), (.int .i64 e108)]))]) (cs := [(.slice none 0 0), (.int .i64 3), (.int .i64 e108)]) (GRule.mk ([]) 3 e108) (absorb_nil (fun w => ⟨_, rfl, Dp.nil⟩)) (by intro ρ h; simp only [List.map_toArray, List.map_cons, List.map_nil, h (.tmp 59) _ rfl]) rfl el101 zero104 rfl rfl rfl rfl ?_); intro bb117 v116
                refine d_and (fun w m => m.pick [4, 5, 6] rfl) ?_
                refine pk [0, 3, 1, 2, 4, 5, 6] rfl ?_
                refine re (E' := [(4, (.pointer (some ⟨b5, 0, none⟩))), (5, (.pointer (some ⟨b9, 0, none⟩))), (48, (.slice a66 l67 q68)), (52, v113), (60, v116)]) ⟨rfl, rfl, rfl, rfl, rfl, trivial⟩ ?_
                exact H453 e74 h75 v113 bb114 bb115 v99 r103 r104 e108 h109 v116 bb117
              have H461 : ∀ (e74 : (List GRule)) (h75 : xs16[(0 : Int).toNat]? = some e74) (v99 : Value) (r103 : Int) (r104 : Int) (e108 : Int) (h109 : ([0, t13])[(r103).toNat]? = some e108) (v118 : Value) (bb119 : List Nat), Nx 80 (gB F [cellCh b1 [v2, (.int .i64 r_0_p)] 122] w0) (feet [cellCh b1 [v2, (.int .i64 r_0_p)] 122]) w0 (wpAnyH Tryd.prog .any (opsAt Tryd.f50 [1, 1, 1, 1, 0, 1, 0, 1, 0, 1, 1, 1, 0]) Qd (Mem (gB F [cellCh b1 [v2, (.int .i64 r_0_p)] 122] w0) (feet [cellCh b1 [v2, (.int .i64 r_0_p)] 122]) w0 [cellCh b9 [(.slice a66 l67 q68), (.bool (decide (r7 = 0)))] 25, cellCh b5 [(.slice none 0 0), (.bool false)] 25, snapCh w0 F]) 4 #[true, true, true, true, true, false, true, true, true, true, true, true, true, true, false, false, false]) [(4, (.pointer (some ⟨b5, 0, none⟩))), (5, (.pointer (some ⟨b9, 0, none⟩))), (48, (.slice a66 l67 q68)), (51, (pEl (.slice a66 l67 q68) 0 1 0)), (60, v118)] [dpCh dGRule 104 bb119 v118 ([(GRule.mk ([]) 3 e108)]), cellCh b1 [v2, (.int .i64 r104)] 122, cellCh b9 [(.slice a66 l67 q68), (.bool (decide (r7 = 0)))] 25, cellCh b5 [(.slice none 0 0), (.bool false)] 25, snapCh w0 F, dpCh (dSl dGRule 104) 101 bb18 (.slice a66 l67 q68) xs16] (appW e74 ([(GRule.mk ([]) 3 e108)]) (fun _ => idxW xs16 0 (fun e89 => k73 ((xs16.set (0 : Int).toNat (e74 ++ ([(GRule.mk ([]) 3 e108)]))), r104)))) := by
                intro e74 h75 v99 r103 r104 e108 h109 v118 bb119
                refine pk [5, 0, 1, 2, 3, 4] rfl ?_
                refine d_one (i := 5) rfl (by kernel_rfl) (o_ldF (E1 := dGRule) (t1 := 104) (zin := e74) (encz := fun v => [v]) rfl h75 (fun B w cs h => h) rfl rfl ty101 ?_); rintro v120 bb121 bb122; refine ⟨v120, rfl, ?_⟩
                refine d_and (fun w m => m.pick [4, 5, 6] rfl) ?_
                refine pk [2, 3, 0, 1, 4, 5, 6] rfl ?_
                refine re (E' := [(4, (.pointer (some ⟨b5, 0, none⟩))), (5, (.pointer (some ⟨b9, 0, none⟩))), (48, (.slice a66 l67 q68)), (52, v120), (60, v118)]) ⟨rfl, rfl, rfl, rfl, rfl, trivial⟩ ?_
                exact H453 e74 h75 v120 bb121 bb122 v99 r103 r104 e108 h109 v118 bb119
              have H462 : ∀ (e74 : (List GRule)) (h75 : xs16[(0 : Int).toNat]? = some e74) (v99 : Value) (r103 : Int) (r104 : Int) (e108 : Int) (h109 : ([0, t13])[(r103).toNat]? = some e108), Nx 80 (gB F [cellCh b1 [v2, (.int .i64 r_0_p)] 122] w0) (feet [cellCh b1 [v2, (.int .i64 r_0_p)] 122]) w0 (wpAnyH Tryd.prog .any (opsAt Tryd.f50 [1, 1, 1, 1, 0, 1, 0, 1, 0, 1, 1, 1, 0]) Qd (Mem (gB F [cellCh b1 [v2, (.int .i64 r_0_p)] 122] w0) (feet [cellCh b1 [v2, (.int .i64 r_0_p)] 122]) w0 [cellCh b9 [(.slice a66 l67 q68), (.bool (decide (r7 = 0)))] 25, cellCh b5 [(.slice none 0 0), (.bool false)] 25, snapCh w0 F]) 6 #[true, true, true, true, true, false, true, true, true, true, true, true, false, false, false, false, false]) [(4, (.pointer (some ⟨b5, 0, none⟩))), (5, (.pointer (some ⟨b9, 0, none⟩))), (48, (.slice a66 l67 q68)), (51, (pEl (.slice a66 l67 q68) 0 1 0)), (58, (.int .i64 e108))] [cellCh b1 [v2, (.int .i64 r104)] 122, cellCh b9 [(.slice a66 l67 q68), (.bool (decide (r7 = 0)))] 25, cellCh b5 [(.slice none 0 0), (.bool false)] 25, snapCh w0 F, dpCh (dSl dGRule 104) 101 bb18 (.slice a66 l67 q68) xs16] (appW e74 ([(GRule.mk ([]) 3 e108)]) (fun _ => idxW xs16 0 (fun e89 => k73 ((xs16.set (0 : Int).toNat (e74 ++ ([(GRule.mk ([]) 3 e108)]))), r104)))) := by
                intro e74 h75 v99 r103 r104 e108 h109
                refine o_bld (dt 12 (fun w m => m.pick [1, 2, 3] rfl)) (qs := [(1, (.int .i64 3)), (2, (.int .i64 e108))]) (cells := [(.slice none 0 0), (.int .i64 3), (.int .i64 e108)]) (by intro ρ h; simp only [List.map_toArray, List.map_cons, List.map_nil, h (.const (.int .i64 3)) _ rfl, h (.tmp 58) _ rfl]) rfl bld104 rfl ?_
                refine d_two (i := 5) (j := 13) rfl rfl (by kernel_rfl) ?_ ?_
                · intro o ho; cases ho
                  refine pk [4, 0, 1, 2, 3] rfl ?_
                  refine o_ldF (E1 := dGRule) (t1 := 104) (zin := e74) (encz := fun v => [v]) rfl h75 (fun B w cs h => h) rfl rfl ty101 ?_; rintro v113 bb114 bb115; refine ⟨v113, rfl, ?_⟩
                  refine d_and (fun w m => m.pick [3, 4, 5] rfl) ?_
                  refine pk [0, 1, 2, 3, 4, 5] rfl ?_
                  refine re (E' := [(4, (.pointer (some ⟨b5, 0, none⟩))), (5, (.pointer (some ⟨b9, 0, none⟩))), (48, (.slice a66 l67 q68)), (59, (.agg #[(.slice none 0 0), (.int .i64 3), (.int .i64 e108)])), (52, v113)]) ⟨rfl, rfl, rfl, rfl, rfl, trivial⟩ ?_
                  exact H460 e74 h75 v99 r103 r104 e108 h109 v113 bb114 bb115
                · intro o ho; cases ho
                  refine o_bslD (M := []) (E' := dGRule) (qs := [(0, (.agg #[(.slice none 0 0), (.int .i64 3), (.int .i64 e108)]))]) (cs := [(.slice none 0 0), (.int .i64 3), (.int .i64 e108)]) (GRule.mk ([]) 3 e108) (absorb_nil (fun w => ⟨_, rfl, Dp.nil⟩)) (by intro ρ h; simp only [List.map_toArray, List.map_cons, List.map_nil, h (.tmp 59) _ rfl]) rfl el101 zero104 rfl rfl rfl rfl ?_; intro bb119 v118
                  refine d_and (fun w m => m.pick [2, 3, 4] rfl) ?_
                  refine pk [0, 1, 2, 3, 4, 5] rfl ?_
                  refine re (E' := [(4, (.pointer (some ⟨b5, 0, none⟩))), (5, (.pointer (some ⟨b9, 0, none⟩))), (48, (.slice a66 l67 q68)), (51, (pEl (.slice a66 l67 q68) 0 1 0)), (60, v118)]) ⟨rfl, rfl, rfl, rfl, rfl, trivial⟩ ?_
                  exact H461 e74 h75 v99 r103 r104 e108 h109 v118 bb119
              have H463 : ∀ (e74 : (List GRule)) (h75 : xs16[(0 : Int).toNat]? = some e74) (v99 : Value) (r103 : Int) (r104 : Int) (e108 : Int) (h109 : ([0, t13])[(r103).toNat]? = some e108), Nx 80 (gB F [cellCh b1 [v2, (.int .i64 r_0_p)] 122] w0) (feet [cellCh b1 [v2, (.int .i64 r_0_p)] 122]) w0 (wpAnyH Tryd.prog .any (opsAt Tryd.f50 [1, 1, 1, 1, 0, 1, 0, 1, 0, 1, 1, 1, 0]) Qd (Mem (gB F [cellCh b1 [v2, (.int .i64 r_0_p)] 122] w0) (feet [cellCh b1 [v2, (.int .i64 r_0_p)] 122]) w0 [cellCh b9 [(.slice a66 l67 q68), (.bool (decide (r7 = 0)))] 25, cellCh b5 [(.slice none 0 0), (.bool false)] 25, snapCh w0 F]) 7 #[true, true, true, true, true, false, true, true, true, true, true, false, false, false, false, false, false]) [(4, (.pointer (some ⟨b5, 0, none⟩))), (5, (.pointer (some ⟨b9, 0, none⟩))), (48, (.slice a66 l67 q68)), (51, (pEl (.slice a66 l67 q68) 0 1 0)), (57, (pEl v99 r103 1 0))] [cellCh b1 [v2, (.int .i64 r104)] 122, ownCh elInt 3 v99 ([0, t13]), cellCh b9 [(.slice a66 l67 q68), (.bool (decide (r7 = 0)))] 25, cellCh b5 [(.slice none 0 0), (.bool false)] 25, snapCh w0 F, dpCh (dSl dGRule 104) 101 bb18 (.slice a66 l67 q68) xs16] (appW e74 ([(GRule.mk ([]) 3 e108)]) (fun _ => idxW xs16 0 (fun e89 => k73 ((xs16.set (0 : Int).toNat (e74 ++ ([(GRule.mk ([]) 3 e108)]))), r104)))) := by
                intro e74 h75 v99 r103 r104 e108 h109
                refine d_two (i := 5) (j := 11) rfl rfl (by kernel_rfl) ?_ ?_
                · intro o ho; cases ho
                  refine pk [5, 0, 1, 2, 3, 4] rfl ?_
                  refine o_ldF (E1 := dGRule) (t1 := 104) (zin := e74) (encz := fun v => [v]) rfl h75 (fun B w cs h => h) rfl rfl ty101 ?_; rintro v110 bb111 bb112; refine ⟨v110, rfl, ?_⟩
                  refine d_and (fun w m => m.pick [4, 5, 6] rfl) ?_
                  refine pk [2, 3, 0, 1, 4, 5, 6] rfl ?_
                  refine re (E' := [(4, (.pointer (some ⟨b5, 0, none⟩))), (5, (.pointer (some ⟨b9, 0, none⟩))), (48, (.slice a66 l67 q68)), (52, v110), (57, (pEl v99 r103 1 0))]) ⟨rfl, rfl, rfl, rfl, rfl, trivial⟩ ?_
                  exact H455 e74 h75 v110 bb111 bb112 v99 r103 r104 e108 h109
                · intro o ho; cases ho
                  refine o_lds m_op (enc := encInt) (u := (.int .i64 e108)) 1 rfl reads_own flelInt rfl h109 rfl rfl ty3 rfl ?_
                  refine d_and (fun w m => m.pick [2, 3, 4] rfl) ?_
                  refine pk [0, 2, 3, 4, 5] rfl ?_
                  refine re (E' := [(4, (.pointer (some ⟨b5, 0, none⟩))), (5, (.pointer (some ⟨b9, 0, none⟩))), (48, (.slice a66 l67 q68)), (51, (pEl (.slice a66 l67 q68) 0 1 0)), (58, (.int .i64 e108))]) ⟨rfl, rfl, rfl, rfl, rfl, trivial⟩ ?_
                  exact H462 e74 h75 v99 r103 r104 e108 h109
              have H464 : ∀ (e74 : (List GRule)) (h75 : xs16[(0 : Int).toNat]? = some e74) (v99 : Value) (r103 : Int) (r104 : Int), Nx 80 (gB F [cellCh b1 [v2, (.int .i64 r_0_p)] 122] w0) (feet [cellCh b1 [v2, (.int .i64 r_0_p)] 122]) w0 (wpAnyH Tryd.prog .any (opsAt Tryd.f50 [1, 1, 1, 1, 0, 1, 0, 1, 0, 1, 1, 1, 0]) Qd (Mem (gB F [cellCh b1 [v2, (.int .i64 r_0_p)] 122] w0) (feet [cellCh b1 [v2, (.int .i64 r_0_p)] 122]) w0 [cellCh b9 [(.slice a66 l67 q68), (.bool (decide (r7 = 0)))] 25, cellCh b5 [(.slice none 0 0), (.bool false)] 25, snapCh w0 F]) 8 #[true, true, true, true, true, false, true, true, true, true, false, false, false, false, false, false, false]) [(4, (.pointer (some ⟨b5, 0, none⟩))), (5, (.pointer (some ⟨b9, 0, none⟩))), (48, (.slice a66 l67 q68)), (51, (pEl (.slice a66 l67 q68) 0 1 0)), (54, v99), (56, (.int .i64 r103))] [cellCh b1 [v2, (.int .i64 r104)] 122, ownCh elInt 3 v99 ([0, t13]), cellCh b9 [(.slice a66 l67 q68), (.bool (decide (r7 = 0)))] 25, cellCh b5 [(.slice none 0 0), (.bool false)] 25, snapCh w0 F, dpCh (dSl dGRule 104) 101 bb18 (.slice a66 l67 q68) xs16] (idxW ([0, t13]) r103 (fun e82 => appW e74 ([(GRule.mk ([]) 3 e82)]) (fun _ => idxW xs16 0 (fun e89 => k73 ((xs16.set (0 : Int).toNat (e74 ++ ([(GRule.mk ([]) 3 e82)]))), r104))))) := by
                intro e74 h75 v99 r103 r104
                refine d_two (i := 5) (j := 10) rfl rfl (by kernel_rfl) ?_ ?_
                · intro o ho; cases ho
                  refine pk [5, 0, 1, 2, 3, 4] rfl ?_
                  refine o_ldF (E1 := dGRule) (t1 := 104) (zin := e74) (encz := fun v => [v]) rfl h75 (fun B w cs h => h) rfl rfl ty101 ?_; rintro v105 bb106 bb107; refine ⟨v105, rfl, ?_⟩
                  refine d_and (fun w m => m.pick [4, 5, 6] rfl) ?_
                  refine pk [2, 3, 0, 1, 4, 5, 6] rfl ?_
                  refine re (E' := [(4, (.pointer (some ⟨b5, 0, none⟩))), (5, (.pointer (some ⟨b9, 0, none⟩))), (48, (.slice a66 l67 q68)), (52, v105), (54, v99), (56, (.int .i64 r103))]) ⟨rfl, rfl, rfl, rfl, rfl, rfl, trivial⟩ ?_
                  exact H456 e74 h75 v105 bb106 bb107 v99 r103 r104
                · intro o ho; cases ho
                  refine o_idx m_op 1 rfl reads_own rfl rfl rfl el99 ?_; intro e108 h109
                  refine d_and (fun w m => m.pick [2, 3, 4] rfl) ?_
                  refine pk [0, 1, 2, 3, 4, 5] rfl ?_
                  refine re (E' := [(4, (.pointer (some ⟨b5, 0, none⟩))), (5, (.pointer (some ⟨b9, 0, none⟩))), (48, (.slice a66 l67 q68)), (51, (pEl (.slice a66 l67 q68) 0 1 0)), (57, (pEl v99 r103 1 0))]) ⟨rfl, rfl, rfl, rfl, rfl, trivial⟩ ?_
                  exact H463 e74 h75 v99 r103 r104 e108 h109
              have H465 : ∀ (e74 : (List GRule)) (h75 : xs16[(0 : Int).toNat]? = some e74) (v99 : Value), Nx 80 (gB F [cellCh b1 [v2, (.int .i64 r_0_p)] 122] w0) (feet [cellCh b1 [v2, (.int .i64 r_0_p)] 122]) w0 (wpAnyH Tryd.prog .any (opsAt Tryd.f50 [1, 1, 1, 1, 0, 1, 0, 1, 0, 1, 1, 1, 0]) Qd (Mem (gB F [cellCh b1 [v2, (.int .i64 r_0_p)] 122] w0) (feet [cellCh b1 [v2, (.int .i64 r_0_p)] 122]) w0 [cellCh b9 [(.slice a66 l67 q68), (.bool (decide (r7 = 0)))] 25, cellCh b5 [(.slice none 0 0), (.bool false)] 25, snapCh w0 F]) 9 #[true, true, true, true, true, false, true, true, true, false, false, false, false, false, false, false, false]) [(4, (.pointer (some ⟨b5, 0, none⟩))), (5, (.pointer (some ⟨b9, 0, none⟩))), (48, (.slice a66 l67 q68)), (55, (.pointer (some ⟨b1, 0, none⟩))), (51, (pEl (.slice a66 l67 q68) 0 1 0)), (54, v99)] [ownCh elInt 3 v99 ([0, t13]), cellCh b1 [v2, (.int .i64 r59)] 122, cellCh b9 [(.slice a66 l67 q68), (.bool (decide (r7 = 0)))] 25, cellCh b5 [(.slice none 0 0), (.bool false)] 25, snapCh w0 F, dpCh (dSl dGRule 104) 101 bb18 (.slice a66 l67 q68) xs16] (L_spec_l20Rd_pick r_0_b r59 2 (fun (r80, r81) => idxW ([0, t13]) r80 (fun e82 => appW e74 ([(GRule.mk ([]) 3 e82)]) (fun _ => idxW xs16 0 (fun e89 => k73 ((xs16.set (0 : Int).toNat (e74 ++ ([(GRule.mk ([]) 3 e82)]))), r81)))))) := by
                intro e74 h75 v99
                refine d_two (i := 5) (j := 9) rfl rfl (by kernel_rfl) ?_ ?_
                · intro o ho; cases ho
                  refine pk [5, 0, 1, 2, 3, 4] rfl ?_
                  refine o_ldF (E1 := dGRule) (t1 := 104) (zin := e74) (encz := fun v => [v]) rfl h75 (fun B w cs h => h) rfl rfl ty101 ?_; rintro v100 bb101 bb102; refine ⟨v100, rfl, ?_⟩
                  refine d_and (fun w m => m.pick [4, 5, 6] rfl) ?_
                  refine pk [2, 0, 1, 3, 4, 5, 6] rfl ?_
                  refine re (E' := [(4, (.pointer (some ⟨b5, 0, none⟩))), (5, (.pointer (some ⟨b9, 0, none⟩))), (48, (.slice a66 l67 q68)), (55, (.pointer (some ⟨b1, 0, none⟩))), (52, v100), (54, v99)]) ⟨rfl, rfl, rfl, rfl, rfl, rfl, trivial⟩ ?_
                  exact H457 e74 h75 v100 bb101 bb102 v99
                · intro o ho; cases ho
                  refine pk [1, 0, 2, 3, 4, 5] rfl ?_
                  refine o_call (vs := [(.pointer (some ⟨b1, 0, none⟩)), (.int .i64 2)]) (M0 := [cellCh b1 [v2, (.int .i64 r59)] 122]) Tryd.call68 rfl rfl (by intro w m h; exact (w_spec_l20Rd_pick (F := allB [cellCh b1 [v2, (.int .i64 r59)] 122] w) (r_0_b := r_0_b) (r_0_p := r59) (n_1 := 2) allB_ok m.given (m.rdM 3 rfl (reads_snap hv2)) h).mono (fun _ _ k => ret_free (fun r u => (fr_cons free_cell fr_nil)) k)) ?_; rintro ⟨r103, r104⟩ _
                  refine d_and (fun w m => m.pick [2, 3, 4] rfl) ?_
                  refine pk [0, 1, 2, 3, 4, 5] rfl ?_
                  refine re (E' := [(4, (.pointer (some ⟨b5, 0, none⟩))), (5, (.pointer (some ⟨b9, 0, none⟩))), (48, (.slice a66 l67 q68)), (51, (pEl (.slice a66 l67 q68) 0 1 0)), (54, v99), (56, (.int .i64 r103))]) ⟨rfl, rfl, rfl, rfl, rfl, rfl, trivial⟩ ?_
                  exact H464 e74 h75 v99 r103 r104
              have H466 : ∀ (e74 : (List GRule)) (h75 : xs16[(0 : Int).toNat]? = some e74) (r123 : Int) (r124 : Int), Nx 80 (gB F [cellCh b1 [v2, (.int .i64 r_0_p)] 122] w0) (feet [cellCh b1 [v2, (.int .i64 r_0_p)] 122]) w0 (wpAnyH Tryd.prog .any (opsAt Tryd.f50 [1, 1, 1, 1, 0, 1, 0, 1, 0, 1, 1, 1, 0]) Qd (Mem (gB F [cellCh b1 [v2, (.int .i64 r_0_p)] 122] w0) (feet [cellCh b1 [v2, (.int .i64 r_0_p)] 122]) w0 [cellCh b9 [(.slice a66 l67 q68), (.bool (decide (r7 = 0)))] 25, cellCh b5 [(.slice none 0 0), (.bool false)] 25, snapCh w0 F]) 9 #[true, true, true, true, true, false, true, false, true, true, false, false, false, false, false, false, false]) [(4, (.pointer (some ⟨b5, 0, none⟩))), (5, (.pointer (some ⟨b9, 0, none⟩))), (48, (.slice a66 l67 q68)), (53, (.int .i64 t13)), (51, (pEl (.slice a66 l67 q68) 0 1 0)), (56, (.int .i64 r123))] [cellCh b1 [v2, (.int .i64 r124)] 122, cellCh b9 [(.slice a66 l67 q68), (.bool (decide (r7 = 0)))] 25, cellCh b5 [(.slice none 0 0), (.bool false)] 25, snapCh w0 F, dpCh (dSl dGRule 104) 101 bb18 (.slice a66 l67 q68) xs16] (idxW ([0, t13]) r123 (fun e82 => appW e74 ([(GRule.mk ([]) 3 e82)]) (fun _ => idxW xs16 0 (fun e89 => k73 ((xs16.set (0 : Int).toNat (e74 ++ ([(GRule.mk ([]) 3 e82)]))), r124))))) := by
                intro e74 h75 r123 r124
                refine d_two (i := 5) (j := 7) rfl rfl (by kernel_rfl) ?_ ?_
                · intro o ho; cases ho
                  refine pk [4, 0, 1, 2, 3] rfl ?_
                  refine o_ldF (E1 := dGRule) (t1 := 104) (zin := e74) (encz := fun v => [v]) rfl h75 (fun B w cs h => h) rfl rfl ty101 ?_; rintro v125 bb126 bb127; refine ⟨v125, rfl, ?_⟩
                  refine d_and (fun w m => m.pick [3, 4, 5] rfl) ?_
                  refine pk [2, 0, 1, 3, 4, 5] rfl ?_
                  refine re (E' := [(4, (.pointer (some ⟨b5, 0, none⟩))), (5, (.pointer (some ⟨b9, 0, none⟩))), (48, (.slice a66 l67 q68)), (53, (.int .i64 t13)), (52, v125), (56, (.int .i64 r123))]) ⟨rfl, rfl, rfl, rfl, rfl, rfl, trivial⟩ ?_
                  exact H458 e74 h75 v125 bb126 bb127 r123 r124
                · intro o ho; cases ho
                  refine o_bsl (enc := encInt) (qs := [(0, (.int .i64 0)), (1, (.int .i64 t13))]) (cells := [(.int .i64 0), (.int .i64 t13)]) ([0, t13]) flelInt (by intro ρ h; simp only [List.map_toArray, List.map_cons, List.map_nil, h (.const (.int .i64 0)) _ rfl, h (.tmp 53) _ rfl]) rfl el99 zero3 rfl rfl rfl rfl rfl rfl ?_; intro v128
                  refine d_and (fun w m => m.pick [2, 3, 4] rfl) ?_
                  refine pk [1, 0, 2, 3, 4, 5] rfl ?_
                  refine re (E' := [(4, (.pointer (some ⟨b5, 0, none⟩))), (5, (.pointer (some ⟨b9, 0, none⟩))), (48, (.slice a66 l67 q68)), (51, (pEl (.slice a66 l67 q68) 0 1 0)), (54, v128), (56, (.int .i64 r123))]) ⟨rfl, rfl, rfl, rfl, rfl, rfl, trivial⟩ ?_
                  exact H464 e74 h75 v128 r123 r124
              have H467 : ∀ (e74 : (List GRule)) (h75 : xs16[(0 : Int).toNat]? = some e74), Nx 80 (gB F [cellCh b1 [v2, (.int .i64 r_0_p)] 122] w0) (feet [cellCh b1 [v2, (.int .i64 r_0_p)] 122]) w0 (wpAnyH Tryd.prog .any (opsAt Tryd.f50 [1, 1, 1, 1, 0, 1, 0, 1, 0, 1, 1, 1, 0]) Qd (Mem (gB F [cellCh b1 [v2, (.int .i64 r_0_p)] 122] w0) (feet [cellCh b1 [v2, (.int .i64 r_0_p)] 122]) w0 [cellCh b9 [(.slice a66 l67 q68), (.bool (decide (r7 = 0)))] 25, cellCh b5 [(.slice none 0 0), (.bool false)] 25, snapCh w0 F]) 10 #[true, true, true, true, true, false, true, false, true, false, false, false, false, false, false, false, false]) [(4, (.pointer (some ⟨b5, 0, none⟩))), (5, (.pointer (some ⟨b9, 0, none⟩))), (48, (.slice a66 l67 q68)), (53, (.int .i64 t13)), (55, (.pointer (some ⟨b1, 0, none⟩))), (51, (pEl (.slice a66 l67 q68) 0 1 0))] [cellCh b1 [v2, (.int .i64 r59)] 122, cellCh b9 [(.slice a66 l67 q68), (.bool (decide (r7 = 0)))] 25, cellCh b5 [(.slice none 0 0), (.bool false)] 25, snapCh w0 F, dpCh (dSl dGRule 104) 101 bb18 (.slice a66 l67 q68) xs16] (L_spec_l20Rd_pick r_0_b r59 2 (fun (r80, r81) => idxW ([0, t13]) r80 (fun e82 => appW e74 ([(GRule.mk ([]) 3 e82)]) (fun _ => idxW xs16 0 (fun e89 => k73 ((xs16.set (0 : Int).toNat (e74 ++ ([(GRule.mk ([]) 3 e82)]))), r81)))))) := by
                intro e74 h75
                refine d_three (i := 5) (j := 7) (l := 9) rfl rfl rfl (by kernel_rfl) ?_ ?_ ?_
                · intro o ho; cases ho
                  refine pk [4, 0, 1, 2, 3] rfl ?_
                  refine o_ldF (E1 := dGRule) (t1 := 104) (zin := e74) (encz := fun v => [v]) rfl h75 (fun B w cs h => h) rfl rfl ty101 ?_; rintro v76 bb77 bb78; refine ⟨v76, rfl, ?_⟩
                  refine d_and (fun w m => m.pick [3, 4, 5] rfl) ?_
                  refine pk [0, 1, 2, 3, 4, 5] rfl ?_
                  refine re (E' := [(4, (.pointer (some ⟨b5, 0, none⟩))), (5, (.pointer (some ⟨b9, 0, none⟩))), (48, (.slice a66 l67 q68)), (53, (.int .i64 t13)), (55, (.pointer (some ⟨b1, 0, none⟩))), (52, v76)]) ⟨rfl, rfl, rfl, rfl, rfl, rfl, trivial⟩ ?_
                  exact H459 e74 h75 v76 bb77 bb78
                · intro o ho; cases ho
                  refine o_bsl (enc := encInt) (qs := [(0, (.int .i64 0)), (1, (.int .i64 t13))]) (cells := [(.int .i64 0), (.int .i64 t13)]) ([0, t13]) flelInt (by intro ρ h; simp only [List.map_toArray, List.map_cons, List.map_nil, h (.const (.int .i64 0)) _ rfl, h (.tmp 53) _ rfl]) rfl el99 zero3 rfl rfl rfl rfl rfl rfl ?_; intro v99
                  refine d_and (fun w m => m.pick [2, 3, 4] rfl) ?_
                  refine pk [0, 1, 2, 3, 4, 5] rfl ?_
                  refine re (E' := [(4, (.pointer (some ⟨b5, 0, none⟩))), (5, (.pointer (some ⟨b9, 0, none⟩))), (48, (.slice a66 l67 q68)), (55, (.pointer (some ⟨b1, 0, none⟩))), (51, (pEl (.slice a66 l67 q68) 0 1 0)), (54, v99)]) ⟨rfl, rfl, rfl, rfl, rfl, rfl, trivial⟩ ?_
                  exact H465 e74 h75 v99
                · intro o ho; cases ho
                  refine o_call (vs := [(.pointer (some ⟨b1, 0, none⟩)), (.int .i64 2)]) (M0 := [cellCh b1 [v2, (.int .i64 r59)] 122]) Tryd.call68 rfl rfl (by intro w m h; exact (w_spec_l20Rd_pick (F := allB [cellCh b1 [v2, (.int .i64 r59)] 122] w) (r_0_b := r_0_b) (r_0_p := r59) (n_1 := 2) allB_ok m.given (m.rdM 2 rfl (reads_snap hv2)) h).mono (fun _ _ k => ret_free (fun r u => (fr_cons free_cell fr_nil)) k)) ?_; rintro ⟨r123, r124⟩ _
                  refine d_and (fun w m => m.pick [1, 2, 3] rfl) ?_
                  refine pk [0, 1, 2, 3, 4] rfl ?_
                  refine re (E' := [(4, (.pointer (some ⟨b5, 0, none⟩))), (5, (.pointer (some ⟨b9, 0, none⟩))), (48, (.slice a66 l67 q68)), (53, (.int .i64 t13)), (51, (pEl (.slice a66 l67 q68) 0 1 0)), (56, (.int .i64 r123))]) ⟨rfl, rfl, rfl, rfl, rfl, rfl, trivial⟩ ?_
                  exact H466 e74 h75 r123 r124
              have H468 : ∀ (v129 : Value) (r132 : Int) (r133 : Int) (e136 : Int) (h137 : ([0, t13])[(r132).toNat]? = some e136) (e140 : (List GRule)) (h141 : xs16[(0 : Int).toNat]? = some e140), Nx 80 (gB F [cellCh b1 [v2, (.int .i64 r_0_p)] 122] w0) (feet [cellCh b1 [v2, (.int .i64 r_0_p)] 122]) w0 (wpAnyH Tryd.prog .any (opsAt Tryd.f50 [1, 1, 1, 1, 0, 1, 0, 1, 0, 1, 1, 1, 0]) Qd (Mem (gB F [cellCh b1 [v2, (.int .i64 r_0_p)] 122] w0) (feet [cellCh b1 [v2, (.int .i64 r_0_p)] 122]) w0 [cellCh b9 [(.slice a66 l67 q68), (.bool (decide (r7 = 0)))] 25, cellCh b5 [(.slice none 0 0), (.bool false)] 25, snapCh w0 F]) 5 #[true, true, true, true, true, false, true, true, true, true, true, true, true, false, false, false, false]) [(4, (.pointer (some ⟨b5, 0, none⟩))), (5, (.pointer (some ⟨b9, 0, none⟩))), (48, (.slice a66 l67 q68)), (59, (.agg #[(.slice none 0 0), (.int .i64 3), (.int .i64 e136)])), (51, (pEl (.slice a66 l67 q68) 0 1 0))] [cellCh b1 [v2, (.int .i64 r133)] 122, cellCh b9 [(.slice a66 l67 q68), (.bool (decide (r7 = 0)))] 25, cellCh b5 [(.slice none 0 0), (.bool false)] 25, snapCh w0 F, dpCh (dSl dGRule 104) 101 bb18 (.slice a66 l67 q68) xs16] (appW e140 ([(GRule.mk ([]) 3 e136)]) (fun _ => idxW xs16 0 (fun e89 => k73 ((xs16.set (0 : Int).toNat (e140 ++ ([(GRule.mk ([]) 3 e136)]))), r133)))) := by
                intro v129 r132 r133 e136 h137 e140 h141
                refine d_two (i := 5) (j := 13) rfl rfl (by kernel_rfl) ?_ ?_
                · intro o ho; cases ho
                  refine pk [4, 0, 1, 2, 3] rfl ?_
                  refine o_ldF (E1 := dGRule) (t1 := 104) (zin := e140) (encz := fun v => [v]) rfl h141 (fun B w cs h => h) rfl rfl ty101 ?_; rintro v142 bb143 bb144; refine ⟨v142, rfl, ?_⟩
                  refine d_and (fun w m => m.pick [3, 4, 5] rfl) ?_
                  refine pk [0, 1, 2, 3, 4, 5] rfl ?_
                  refine re (E' := [(4, (.pointer (some ⟨b5, 0, none⟩))), (5, (.pointer (some ⟨b9, 0, none⟩))), (48, (.slice a66 l67 q68)), (59, (.agg #[(.slice none 0 0), (.int .i64 3), (.int .i64 e136)])), (52, v142)]) ⟨rfl, rfl, rfl, rfl, rfl, trivial⟩ ?_
                  exact H460 e140 h141 v129 r132 r133 e136 h137 v142 bb143 bb144
                · intro o ho; cases ho
                  refine o_bslD (M := []) (E' := dGRule) (qs := [(0, (.agg #[(.slice none 0 0), (.int .i64 3), (.int .i64 e136)]))]) (cs := [(.slice none 0 0), (.int .i64 3), (.int .i64 e136)]) (GRule.mk ([]) 3 e136) (absorb_nil (fun w => ⟨_, rfl, Dp.nil⟩)) (by intro ρ h; simp only [List.map_toArray, List.map_cons, List.map_nil, h (.tmp 59) _ rfl]) rfl el101 zero104 rfl rfl rfl rfl ?_; intro bb146 v145
                  refine d_and (fun w m => m.pick [2, 3, 4] rfl) ?_
                  refine pk [0, 1, 2, 3, 4, 5] rfl ?_
                  refine re (E' := [(4, (.pointer (some ⟨b5, 0, none⟩))), (5, (.pointer (some ⟨b9, 0, none⟩))), (48, (.slice a66 l67 q68)), (51, (pEl (.slice a66 l67 q68) 0 1 0)), (60, v145)]) ⟨rfl, rfl, rfl, rfl, rfl, trivial⟩ ?_
                  exact H461 e140 h141 v129 r132 r133 e136 h137 v145 bb146
              have H469 : ∀ (v129 : Value) (r132 : Int) (r133 : Int) (e136 : Int) (h137 : ([0, t13])[(r132).toNat]? = some e136) (v147 : Value) (bb148 : List Nat), Nx 80 (gB F [cellCh b1 [v2, (.int .i64 r_0_p)] 122] w0) (feet [cellCh b1 [v2, (.int .i64 r_0_p)] 122]) w0 (wpAnyH Tryd.prog .any (opsAt Tryd.f50 [1, 1, 1, 1, 0, 1, 0, 1, 0, 1, 1, 1, 0]) Qd (Mem (gB F [cellCh b1 [v2, (.int .i64 r_0_p)] 122] w0) (feet [cellCh b1 [v2, (.int .i64 r_0_p)] 122]) w0 [cellCh b9 [(.slice a66 l67 q68), (.bool (decide (r7 = 0)))] 25, cellCh b5 [(.slice none 0 0), (.bool false)] 25, snapCh w0 F]) 5 #[true, true, true, true, false, false, true, true, true, true, true, true, true, true, false, false, false]) [(4, (.pointer (some ⟨b5, 0, none⟩))), (5, (.pointer (some ⟨b9, 0, none⟩))), (48, (.slice a66 l67 q68)), (50, (.slice a66 l67 q68)), (60, v147)] [dpCh dGRule 104 bb148 v147 ([(GRule.mk ([]) 3 e136)]), cellCh b1 [v2, (.int .i64 r133)] 122, cellCh b9 [(.slice a66 l67 q68), (.bool (decide (r7 = 0)))] 25, cellCh b5 [(.slice none 0 0), (.bool false)] 25, snapCh w0 F, dpCh (dSl dGRule 104) 101 bb18 (.slice a66 l67 q68) xs16] (idxW xs16 0 (fun e149 => appW e149 ([(GRule.mk ([]) 3 e136)]) (fun _ => idxW xs16 0 (fun e89 => k73 ((xs16.set (0 : Int).toNat (e149 ++ ([(GRule.mk ([]) 3 e136)]))), r133))))) := by
                intro v129 r132 r133 e136 h137 v147 bb148
                refine d_one (i := 4) rfl (by kernel_rfl) (o_idx m_op 5 rfl reads_dp rfl rfl rfl el23 ?_); intro e149 h150
                refine d_and (fun w m => m.pick [2, 3, 4] rfl) ?_
                refine pk [0, 1, 2, 3, 4, 5] rfl ?_
                refine re (E' := [(4, (.pointer (some ⟨b5, 0, none⟩))), (5, (.pointer (some ⟨b9, 0, none⟩))), (48, (.slice a66 l67 q68)), (51, (pEl (.slice a66 l67 q68) 0 1 0)), (60, v147)]) ⟨rfl, rfl, rfl, rfl, rfl, trivial⟩ ?_
                exact H461 e149 h150 v129 r132 r133 e136 h137 v147 bb148
              have H470 : ∀ (v129 : Value) (r132 : Int) (r133 : Int) (e136 : Int) (h137 : ([0, t13])[(r132).toNat]? = some e136), Nx 80 (gB F [cellCh b1 [v2, (.int .i64 r_0_p)] 122] w0) (feet [cellCh b1 [v2, (.int .i64 r_0_p)] 122]) w0 (wpAnyH Tryd.prog .any (opsAt Tryd.f50 [1, 1, 1, 1, 0, 1, 0, 1, 0, 1, 1, 1, 0]) Qd (Mem (gB F [cellCh b1 [v2, (.int .i64 r_0_p)] 122] w0) (feet [cellCh b1 [v2, (.int .i64 r_0_p)] 122]) w0 [cellCh b9 [(.slice a66 l67 q68), (.bool (decide (r7 = 0)))] 25, cellCh b5 [(.slice none 0 0), (.bool false)] 25, snapCh w0 F]) 7 #[true, true, true, true, false, false, true, true, true, true, true, true, false, false, false, false, false]) [(4, (.pointer (some ⟨b5, 0, none⟩))), (5, (.pointer (some ⟨b9, 0, none⟩))), (48, (.slice a66 l67 q68)), (50, (.slice a66 l67 q68)), (58, (.int .i64 e136))] [cellCh b1 [v2, (.int .i64 r133)] 122, cellCh b9 [(.slice a66 l67 q68), (.bool (decide (r7 = 0)))] 25, cellCh b5 [(.slice none 0 0), (.bool false)] 25, snapCh w0 F, dpCh (dSl dGRule 104) 101 bb18 (.slice a66 l67 q68) xs16] (idxW xs16 0 (fun e140 => appW e140 ([(GRule.mk ([]) 3 e136)]) (fun _ => idxW xs16 0 (fun e89 => k73 ((xs16.set (0 : Int).toNat (e140 ++ ([(GRule.mk ([]) 3 e136)]))), r133))))) := by
                intro v129 r132 r133 e136 h137
                refine o_bld (dt 12 (fun w m => m.pick [1, 2, 3] rfl)) (qs := [(1, (.int .i64 3)), (2, (.int .i64 e136))]) (cells := [(.slice none 0 0), (.int .i64 3), (.int .i64 e136)]) (by intro ρ h; simp only [List.map_toArray, List.map_cons, List.map_nil, h (.const (.int .i64 3)) _ rfl, h (.tmp 58) _ rfl]) rfl bld104 rfl ?_
                refine d_two (i := 4) (j := 13) rfl rfl (by kernel_rfl) ?_ ?_
                · intro o ho; cases ho
                  refine o_idx m_op 4 rfl reads_dp rfl rfl rfl el23 ?_; intro e140 h141
                  refine d_and (fun w m => m.pick [1, 2, 3] rfl) ?_
                  refine pk [0, 1, 2, 3, 4] rfl ?_
                  refine re (E' := [(4, (.pointer (some ⟨b5, 0, none⟩))), (5, (.pointer (some ⟨b9, 0, none⟩))), (48, (.slice a66 l67 q68)), (59, (.agg #[(.slice none 0 0), (.int .i64 3), (.int .i64 e136)])), (51, (pEl (.slice a66 l67 q68) 0 1 0))]) ⟨rfl, rfl, rfl, rfl, rfl, trivial⟩ ?_
                  exact H468 v129 r132 r133 e136 h137 e140 h141
                · intro o ho; cases ho
                  refine o_bslD (M := []) (E' := dGRule) (qs := [(0, (.agg #[(.slice none 0 0), (.int .i64 3), (.int .i64 e136)]))]) (cs := [(.slice none 0 0), (.int .i64 3), (.int .i64 e136)]) (GRule.mk ([]) 3 e136) (absorb_nil (fun w => ⟨_, rfl, Dp.nil⟩)) (by intro ρ h; simp only [List.map_toArray, List.map_cons, List.map_nil, h (.tmp 59) _ rfl]) rfl el101 zero104 rfl rfl rfl rfl ?_; intro bb148 v147
                  refine d_and (fun w m => m.pick [2, 3, 4] rfl) ?_
                  refine pk [0, 1, 2, 3, 4, 5] rfl ?_
                  refine re (E' := [(4, (.pointer (some ⟨b5, 0, none⟩))), (5, (.pointer (some ⟨b9, 0, none⟩))), (48, (.slice a66 l67 q68)), (50, (.slice a66 l67 q68)), (60, v147)]) ⟨rfl, rfl, rfl, rfl, rfl, trivial⟩ ?_
                  exact H469 v129 r132 r133 e136 h137 v147 bb148
              have H471 : ∀ (v129 : Value) (r132 : Int) (r133 : Int) (e136 : Int) (h137 : ([0, t13])[(r132).toNat]? = some e136), Nx 80 (gB F [cellCh b1 [v2, (.int .i64 r_0_p)] 122] w0) (feet [cellCh b1 [v2, (.int .i64 r_0_p)] 122]) w0 (wpAnyH Tryd.prog .any (opsAt Tryd.f50 [1, 1, 1, 1, 0, 1, 0, 1, 0, 1, 1, 1, 0]) Qd (Mem (gB F [cellCh b1 [v2, (.int .i64 r_0_p)] 122] w0) (feet [cellCh b1 [v2, (.int .i64 r_0_p)] 122]) w0 [cellCh b9 [(.slice a66 l67 q68), (.bool (decide (r7 = 0)))] 25, cellCh b5 [(.slice none 0 0), (.bool false)] 25, snapCh w0 F]) 8 #[true, true, true, true, false, false, true, true, true, true, true, false, false, false, false, false, false]) [(4, (.pointer (some ⟨b5, 0, none⟩))), (5, (.pointer (some ⟨b9, 0, none⟩))), (48, (.slice a66 l67 q68)), (50, (.slice a66 l67 q68)), (57, (pEl v129 r132 1 0))] [cellCh b1 [v2, (.int .i64 r133)] 122, ownCh elInt 3 v129 ([0, t13]), cellCh b9 [(.slice a66 l67 q68), (.bool (decide (r7 = 0)))] 25, cellCh b5 [(.slice none 0 0), (.bool false)] 25, snapCh w0 F, dpCh (dSl dGRule 104) 101 bb18 (.slice a66 l67 q68) xs16] (idxW xs16 0 (fun e138 => appW e138 ([(GRule.mk ([]) 3 e136)]) (fun _ => idxW xs16 0 (fun e89 => k73 ((xs16.set (0 : Int).toNat (e138 ++ ([(GRule.mk ([]) 3 e136)]))), r133))))) := by
                intro v129 r132 r133 e136 h137
                refine d_two (i := 4) (j := 11) rfl rfl (by kernel_rfl) ?_ ?_
                · intro o ho; cases ho
                  refine o_idx m_op 5 rfl reads_dp rfl rfl rfl el23 ?_; intro e138 h139
                  refine d_and (fun w m => m.pick [2, 3, 4] rfl) ?_
                  refine pk [0, 1, 2, 3, 4, 5] rfl ?_
                  refine re (E' := [(4, (.pointer (some ⟨b5, 0, none⟩))), (5, (.pointer (some ⟨b9, 0, none⟩))), (48, (.slice a66 l67 q68)), (51, (pEl (.slice a66 l67 q68) 0 1 0)), (57, (pEl v129 r132 1 0))]) ⟨rfl, rfl, rfl, rfl, rfl, trivial⟩ ?_
                  exact H463 e138 h139 v129 r132 r133 e136 h137
                · intro o ho; cases ho
                  refine o_lds m_op (enc := encInt) (u := (.int .i64 e136)) 1 rfl reads_own flelInt rfl h137 rfl rfl ty3 rfl ?_
                  refine d_and (fun w m => m.pick [2, 3, 4] rfl) ?_
                  refine pk [0, 2, 3, 4, 5] rfl ?_
                  refine re (E' := [(4, (.pointer (some ⟨b5, 0, none⟩))), (5, (.pointer (some ⟨b9, 0, none⟩))), (48, (.slice a66 l67 q68)), (50, (.slice a66 l67 q68)), (58, (.int .i64 e136))]) ⟨rfl, rfl, rfl, rfl, rfl, trivial⟩ ?_
                  exact H470 v129 r132 r133 e136 h137
              have H472 : ∀ (v129 : Value) (r132 : Int) (r133 : Int), Nx 80 (gB F [cellCh b1 [v2, (.int .i64 r_0_p)] 122] w0) (feet [cellCh b1 [v2, (.int .i64 r_0_p)] 122]) w0 (wpAnyH Tryd.prog .any (opsAt Tryd.f50 [1, 1, 1, 1, 0, 1, 0, 1, 0, 1, 1, 1, 0]) Qd (Mem (gB F [cellCh b1 [v2, (.int .i64 r_0_p)] 122] w0) (feet [cellCh b1 [v2, (.int .i64 r_0_p)] 122]) w0 [cellCh b9 [(.slice a66 l67 q68), (.bool (decide (r7 = 0)))] 25, cellCh b5 [(.slice none 0 0), (.bool false)] 25, snapCh w0 F]) 9 #[true, true, true, true, false, false, true, true, true, true, false, false, false, false, false, false, false]) [(4, (.pointer (some ⟨b5, 0, none⟩))), (5, (.pointer (some ⟨b9, 0, none⟩))), (48, (.slice a66 l67 q68)), (50, (.slice a66 l67 q68)), (54, v129), (56, (.int .i64 r132))] [cellCh b1 [v2, (.int .i64 r133)] 122, ownCh elInt 3 v129 ([0, t13]), cellCh b9 [(.slice a66 l67 q68), (.bool (decide (r7 = 0)))] 25, cellCh b5 [(.slice none 0 0), (.bool false)] 25, snapCh w0 F, dpCh (dSl dGRule 104) 101 bb18 (.slice a66 l67 q68) xs16] ((idxW xs16 0 (fun e134 => idxW ([0, t13]) r132 (fun e82 => appW e134 ([(GRule.mk ([]) 3 e82)]) (fun _ => idxW xs16 0 (fun e89 => k73 ((xs16.set (0 : Int).toNat (e134 ++ ([(GRule.mk ([]) 3 e82)]))), r133)))))) ∧ (idxW ([0, t13]) r132 (fun e136 => idxW xs16 0 (fun e138 => appW e138 ([(GRule.mk ([]) 3 e136)]) (fun _ => idxW xs16 0 (fun e89 => k73 ((xs16.set (0 : Int).toNat (e138 ++ ([(GRule.mk ([]) 3 e136)]))), r133))))))) := by
                intro v129 r132 r133
                refine d_two (i := 4) (j := 10) rfl rfl (by kernel_rfl) ?_ ?_
                · intro o ho; cases ho
                  refine nx_l ?_
                  refine o_idx m_op 5 rfl reads_dp rfl rfl rfl el23 ?_; intro e134 h135
                  refine d_and (fun w m => m.pick [2, 3, 4] rfl) ?_
                  refine pk [0, 1, 2, 3, 4, 5] rfl ?_
                  refine re (E' := [(4, (.pointer (some ⟨b5, 0, none⟩))), (5, (.pointer (some ⟨b9, 0, none⟩))), (48, (.slice a66 l67 q68)), (51, (pEl (.slice a66 l67 q68) 0 1 0)), (54, v129), (56, (.int .i64 r132))]) ⟨rfl, rfl, rfl, rfl, rfl, rfl, trivial⟩ ?_
                  exact H464 e134 h135 v129 r132 r133
                · intro o ho; cases ho
                  refine nx_r ?_
                  refine o_idx m_op 1 rfl reads_own rfl rfl rfl el99 ?_; intro e136 h137
                  refine d_and (fun w m => m.pick [2, 3, 4] rfl) ?_
                  refine pk [0, 1, 2, 3, 4, 5] rfl ?_
                  refine re (E' := [(4, (.pointer (some ⟨b5, 0, none⟩))), (5, (.pointer (some ⟨b9, 0, none⟩))), (48, (.slice a66 l67 q68)), (50, (.slice a66 l67 q68)), (57, (pEl v129 r132 1 0))]) ⟨rfl, rfl, rfl, rfl, rfl, trivial⟩ ?_
                  exact H471 v129 r132 r133 e136 h137
              have H473 : ∀ (v129 : Value), Nx 80 (gB F [cellCh b1 [v2, (.int .i64 r_0_p)] 122] w0) (feet [cellCh b1 [v2, (.int .i64 r_0_p)] 122]) w0 (wpAnyH Tryd.prog .any (opsAt Tryd.f50 [1, 1, 1, 1, 0, 1, 0, 1, 0, 1, 1, 1, 0]) Qd (Mem (gB F [cellCh b1 [v2, (.int .i64 r_0_p)] 122] w0) (feet [cellCh b1 [v2, (.int .i64 r_0_p)] 122]) w0 [cellCh b9 [(.slice a66 l67 q68), (.bool (decide (r7 = 0)))] 25, cellCh b5 [(.slice none 0 0), (.bool false)] 25, snapCh w0 F]) 10 #[true, true, true, true, false, false, true, true, true, false, false, false, false, false, false, false, false]) [(4, (.pointer (some ⟨b5, 0, none⟩))), (5, (.pointer (some ⟨b9, 0, none⟩))), (48, (.slice a66 l67 q68)), (50, (.slice a66 l67 q68)), (55, (.pointer (some ⟨b1, 0, none⟩))), (54, v129)] [ownCh elInt 3 v129 ([0, t13]), cellCh b1 [v2, (.int .i64 r59)] 122, cellCh b9 [(.slice a66 l67 q68), (.bool (decide (r7 = 0)))] 25, cellCh b5 [(.slice none 0 0), (.bool false)] 25, snapCh w0 F, dpCh (dSl dGRule 104) 101 bb18 (.slice a66 l67 q68) xs16] ((idxW xs16 0 (fun e130 => L_spec_l20Rd_pick r_0_b r59 2 (fun (r80, r81) => idxW ([0, t13]) r80 (fun e82 => appW e130 ([(GRule.mk ([]) 3 e82)]) (fun _ => idxW xs16 0 (fun e89 => k73 ((xs16.set (0 : Int).toNat (e130 ++ ([(GRule.mk ([]) 3 e82)]))), r81))))))) ∧ (L_spec_l20Rd_pick r_0_b r59 2 (fun (r132, r133) => (idxW xs16 0 (fun e134 => idxW ([0, t13]) r132 (fun e82 => appW e134 ([(GRule.mk ([]) 3 e82)]) (fun _ => idxW xs16 0 (fun e89 => k73 ((xs16.set (0 : Int).toNat (e134 ++ ([(GRule.mk ([]) 3 e82)]))), r133)))))) ∧ (idxW ([0, t13]) r132 (fun e136 => idxW xs16 0 (fun e138 => appW e138 ([(GRule.mk ([]) 3 e136)]) (fun _ => idxW xs16 0 (fun e89 => k73 ((xs16.set (0 : Int).toNat (e138 ++ ([(GRule.mk ([]) 3 e136)]))), r133))))))))) := by
                intro v129
                refine d_two (i := 4) (j := 9) rfl rfl (by kernel_rfl) ?_ ?_
                · intro o ho; cases ho
                  refine nx_l ?_
                  refine o_idx m_op 5 rfl reads_dp rfl rfl rfl el23 ?_; intro e130 h131
                  refine d_and (fun w m => m.pick [2, 3, 4] rfl) ?_
                  refine pk [0, 1, 2, 3, 4, 5] rfl ?_
                  refine re (E' := [(4, (.pointer (some ⟨b5, 0, none⟩))), (5, (.pointer (some ⟨b9, 0, none⟩))), (48, (.slice a66 l67 q68)), (55, (.pointer (some ⟨b1, 0, none⟩))), (51, (pEl (.slice a66 l67 q68) 0 1 0)), (54, v129)]) ⟨rfl, rfl, rfl, rfl, rfl, rfl, trivial⟩ ?_
                  exact H465 e130 h131 v129
                · intro o ho; cases ho
                  refine nx_r ?_
                  refine pk [1, 0, 2, 3, 4, 5] rfl ?_
                  refine o_call (vs := [(.pointer (some ⟨b1, 0, none⟩)), (.int .i64 2)]) (M0 := [cellCh b1 [v2, (.int .i64 r59)] 122]) Tryd.call68 rfl rfl (by intro w m h; exact (w_spec_l20Rd_pick (F := allB [cellCh b1 [v2, (.int .i64 r59)] 122] w) (r_0_b := r_0_b) (r_0_p := r59) (n_1 := 2) allB_ok m.given (m.rdM 3 rfl (reads_snap hv2)) h).mono (fun _ _ k => ret_free (fun r u => (fr_cons free_cell fr_nil)) k)) ?_; rintro ⟨r132, r133⟩ _
                  refine d_and (fun w m => m.pick [2, 3, 4] rfl) ?_
                  refine pk [0, 1, 2, 3, 4, 5] rfl ?_
                  refine re (E' := [(4, (.pointer (some ⟨b5, 0, none⟩))), (5, (.pointer (some ⟨b9, 0, none⟩))), (48, (.slice a66 l67 q68)), (50, (.slice a66 l67 q68)), (54, v129), (56, (.int .i64 r132))]) ⟨rfl, rfl, rfl, rfl, rfl, rfl, trivial⟩ ?_
                  exact H472 v129 r132 r133
              have H474 : ∀ (r151 : Int) (r152 : Int), Nx 80 (gB F [cellCh b1 [v2, (.int .i64 r_0_p)] 122] w0) (feet [cellCh b1 [v2, (.int .i64 r_0_p)] 122]) w0 (wpAnyH Tryd.prog .any (opsAt Tryd.f50 [1, 1, 1, 1, 0, 1, 0, 1, 0, 1, 1, 1, 0]) Qd (Mem (gB F [cellCh b1 [v2, (.int .i64 r_0_p)] 122] w0) (feet [cellCh b1 [v2, (.int .i64 r_0_p)] 122]) w0 [cellCh b9 [(.slice a66 l67 q68), (.bool (decide (r7 = 0)))] 25, cellCh b5 [(.slice none 0 0), (.bool false)] 25, snapCh w0 F]) 10 #[true, true, true, true, false, false, true, false, true, true, false, false, false, false, false, false, false]) [(4, (.pointer (some ⟨b5, 0, none⟩))), (5, (.pointer (some ⟨b9, 0, none⟩))), (48, (.slice a66 l67 q68)), (50, (.slice a66 l67 q68)), (53, (.int .i64 t13)), (56, (.int .i64 r151))] [cellCh b1 [v2, (.int .i64 r152)] 122, cellCh b9 [(.slice a66 l67 q68), (.bool (decide (r7 = 0)))] 25, cellCh b5 [(.slice none 0 0), (.bool false)] 25, snapCh w0 F, dpCh (dSl dGRule 104) 101 bb18 (.slice a66 l67 q68) xs16] ((idxW xs16 0 (fun e153 => idxW ([0, t13]) r151 (fun e82 => appW e153 ([(GRule.mk ([]) 3 e82)]) (fun _ => idxW xs16 0 (fun e89 => k73 ((xs16.set (0 : Int).toNat (e153 ++ ([(GRule.mk ([]) 3 e82)]))), r152)))))) ∧ ((idxW xs16 0 (fun e134 => idxW ([0, t13]) r151 (fun e82 => appW e134 ([(GRule.mk ([]) 3 e82)]) (fun _ => idxW xs16 0 (fun e89 => k73 ((xs16.set (0 : Int).toNat (e134 ++ ([(GRule.mk ([]) 3 e82)]))), r152)))))) ∧ (idxW ([0, t13]) r151 (fun e136 => idxW xs16 0 (fun e138 => appW e138 ([(GRule.mk ([]) 3 e136)]) (fun _ => idxW xs16 0 (fun e89 => k73 ((xs16.set (0 : Int).toNat (e138 ++ ([(GRule.mk ([]) 3 e136)]))), r152)))))))) := by
                intro r151 r152
                refine d_two (i := 4) (j := 7) rfl rfl (by kernel_rfl) ?_ ?_
                · intro o ho; cases ho
                  refine nx_l ?_
                  refine o_idx m_op 4 rfl reads_dp rfl rfl rfl el23 ?_; intro e153 h154
                  refine d_and (fun w m => m.pick [1, 2, 3] rfl) ?_
                  refine pk [0, 1, 2, 3, 4] rfl ?_
                  refine re (E' := [(4, (.pointer (some ⟨b5, 0, none⟩))), (5, (.pointer (some ⟨b9, 0, none⟩))), (48, (.slice a66 l67 q68)), (53, (.int .i64 t13)), (51, (pEl (.slice a66 l67 q68) 0 1 0)), (56, (.int .i64 r151))]) ⟨rfl, rfl, rfl, rfl, rfl, rfl, trivial⟩ ?_
                  exact H466 e153 h154 r151 r152
                · intro o ho; cases ho
                  refine nx_r ?_
                  refine o_bsl (enc := encInt) (qs := [(0, (.int .i64 0)), (1, (.int .i64 t13))]) (cells := [(.int .i64 0), (.int .i64 t13)]) ([0, t13]) flelInt (by intro ρ h; simp only [List.map_toArray, List.map_cons, List.map_nil, h (.const (.int .i64 0)) _ rfl, h (.tmp 53) _ rfl]) rfl el99 zero3 rfl rfl rfl rfl rfl rfl ?_; intro v155
                  refine d_and (fun w m => m.pick [2, 3, 4] rfl) ?_
                  refine pk [1, 0, 2, 3, 4, 5] rfl ?_
                  refine re (E' := [(4, (.pointer (some ⟨b5, 0, none⟩))), (5, (.pointer (some ⟨b9, 0, none⟩))), (48, (.slice a66 l67 q68)), (50, (.slice a66 l67 q68)), (54, v155), (56, (.int .i64 r151))]) ⟨rfl, rfl, rfl, rfl, rfl, rfl, trivial⟩ ?_
                  exact H472 v155 r151 r152
              refine o_fad (dt 0 (fun w m => m.pick [1, 2, 3] rfl)) rfl rfl fld25_0 rfl ?_
              refine o_ldc (dt 1 (fun w m => m.pick [1, 2, 3] rfl)) (v := (.slice a66 l67 q68)) 0 rfl rfl rfl ty23 rfl ?_
              refine o_fad (dt 2 (fun w m => m.pick [1, 2, 3] rfl)) rfl rfl fld25_0 rfl ?_
              refine o_ldc (dt 3 (fun w m => m.pick [1, 2, 3] rfl)) (v := (.slice a66 l67 q68)) 0 rfl rfl rfl ty23 rfl ?_
              refine o_mv (dt 6 (fun w m => m.pick [1, 2, 3] rfl)) rfl rfl ?_
              refine o_mv (dt 8 (fun w m => m.pick [1, 2, 3] rfl)) rfl rfl ?_
              refine d_three (i := 4) (j := 7) (l := 9) rfl rfl rfl (by kernel_rfl) ?_ ?_ ?_
              · intro o ho; cases ho
                refine nx_l ?_
                refine o_idx m_op 4 rfl reads_dp rfl rfl rfl el23 ?_; intro e74 h75
                refine d_and (fun w m => m.pick [1, 2, 3] rfl) ?_
                refine pk [0, 1, 2, 3, 4] rfl ?_
                refine re (E' := [(4, (.pointer (some ⟨b5, 0, none⟩))), (5, (.pointer (some ⟨b9, 0, none⟩))), (48, (.slice a66 l67 q68)), (53, (.int .i64 t13)), (55, (.pointer (some ⟨b1, 0, none⟩))), (51, (pEl (.slice a66 l67 q68) 0 1 0))]) ⟨rfl, rfl, rfl, rfl, rfl, rfl, trivial⟩ ?_
                exact H467 e74 h75
              · intro o ho; cases ho
                refine nx_r ?_
                refine nx_l ?_
                refine o_bsl (enc := encInt) (qs := [(0, (.int .i64 0)), (1, (.int .i64 t13))]) (cells := [(.int .i64 0), (.int .i64 t13)]) ([0, t13]) flelInt (by intro ρ h; simp only [List.map_toArray, List.map_cons, List.map_nil, h (.const (.int .i64 0)) _ rfl, h (.tmp 53) _ rfl]) rfl el99 zero3 rfl rfl rfl rfl rfl rfl ?_; intro v129
                refine d_and (fun w m => m.pick [2, 3, 4] rfl) ?_
                refine pk [0, 1, 2, 3, 4, 5] rfl ?_
                refine re (E' := [(4, (.pointer (some ⟨b5, 0, none⟩))), (5, (.pointer (some ⟨b9, 0, none⟩))), (48, (.slice a66 l67 q68)), (50, (.slice a66 l67 q68)), (55, (.pointer (some ⟨b1, 0, none⟩))), (54, v129)]) ⟨rfl, rfl, rfl, rfl, rfl, rfl, trivial⟩ ?_
                exact H473 v129
              · intro o ho; cases ho
                refine nx_r ?_
                refine nx_r ?_
                refine o_call (vs := [(.pointer (some ⟨b1, 0, none⟩)), (.int .i64 2)]) (M0 := [cellCh b1 [v2, (.int .i64 r59)] 122]) Tryd.call68 rfl rfl (by intro w m h; exact (w_spec_l20Rd_pick (F := allB [cellCh b1 [v2, (.int .i64 r59)] 122] w) (r_0_b := r_0_b) (r_0_p := r59) (n_1 := 2) allB_ok m.given (m.rdM 2 rfl (reads_snap hv2)) h).mono (fun _ _ k => ret_free (fun r u => (fr_cons free_cell fr_nil)) k)) ?_; rintro ⟨r151, r152⟩ _
                refine d_and (fun w m => m.pick [1, 2, 3] rfl) ?_
                refine pk [0, 1, 2, 3, 4] rfl ?_
                refine re (E' := [(4, (.pointer (some ⟨b5, 0, none⟩))), (5, (.pointer (some ⟨b9, 0, none⟩))), (48, (.slice a66 l67 q68)), (50, (.slice a66 l67 q68)), (53, (.int .i64 t13)), (56, (.int .i64 r151))]) ⟨rfl, rfl, rfl, rfl, rfl, rfl, trivial⟩ ?_
                exact H474 r151 r152
            · rintro ⟨xs69, t72⟩ a w ⟨bb71, hE, hm⟩ h
              refine nx_of hE hm h ?_
              clear hE hm h
              refine b_norm ?_
              exact l_join (t72, xs69) (fun a w hE hm => ⟨(.slice a66 l67 q68), bb71, hE.sub ⟨rfl, rfl, trivial⟩, (hm.pick [1, 2, 3, 4, 0] rfl)⟩)
          · refine c_seq ?_
            refine c_region ?_
            refine o_eql st und3 rfl rfl rfl ?_
            refine o_as st rfl rfl ?_
            refine c_nil ?_
            refine l_then ?_
            refine c_cond rfl ?_ ?_
            · refine c_seq ?_
              refine c_region ?_
              refine o_fad st rfl rfl fld25_0 rfl ?_
              refine o_ldc st (v := v15) 1 rfl rfl rfl ty23 rfl ?_
              refine o_mv st rfl rfl ?_
              refine o_sub st rfl rfl rfl ?_; intro t156
              refine o_bld st (qs := [(1, (.int .i64 3))]) (cells := [(.slice none 0 0), (.int .i64 3), (.int .i64 0)]) (by intro ρ h; simp only [List.map_toArray, List.map_cons, List.map_nil, h (.const (.int .i64 3)) _ rfl]) rfl bld104 rfl ?_
              refine stw (o_bslD (M := []) (E' := dGRule) (qs := [(0, (.agg #[(.slice none 0 0), (.int .i64 3), (.int .i64 0)]))]) (cs := [(.slice none 0 0), (.int .i64 3), (.int .i64 0)]) (GRule.mk ([]) 3 0) (absorb_nil (fun w => ⟨_, rfl, Dp.nil⟩)) (by intro ρ h; simp only [List.map_toArray, List.map_cons, List.map_nil, h (.tmp 69) _ rfl]) rfl el101 zero104 rfl rfl rfl rfl ?_); intro bb158 v157
              refine o_idx st 5 rfl reads_dp rfl rfl rfl el23 ?_; intro e160 h161
              refine nx_dp 0 rfl ?_; rintro a162 l163 q164 rfl
              refine pk [5, 0, 1, 2, 3, 4] rfl ?_
              refine stw (o_stD (M := [dpCh dGRule 104 bb158 (.slice a162 l163 q164) ([(GRule.mk ([]) 3 0)])]) (y' := [(GRule.mk ([]) 3 0)]) rfl h161 (fun w B cz h => by obtain ⟨u, rfl, _⟩ := h; exact (absorb_one gives_dp (fun B w h => ⟨_, rfl, h⟩))) ty101 rfl rfl rfl rfl rfl ?_); intro bb165
              refine c_nil ?_
              refine l_then ?_
              refine c_region ?_
              refine o_fad st rfl rfl fld25_0 rfl ?_
              refine o_ldc st (v := v15) 2 rfl rfl rfl ty23 rfl ?_
              refine o_mv st rfl rfl ?_
              refine o_sub st rfl rfl rfl ?_; intro t167
              refine o_bld st (qs := [(1, (.int .i64 3)), (2, (.int .i64 t167))]) (cells := [(.slice none 0 0), (.int .i64 3), (.int .i64 t167)]) (by intro ρ h; simp only [List.map_toArray, List.map_cons, List.map_nil, h (.const (.int .i64 3)) _ rfl, h (.tmp 75) _ rfl]) rfl bld104 rfl ?_
              refine stw (o_bslD (M := []) (E' := dGRule) (qs := [(0, (.agg #[(.slice none 0 0), (.int .i64 3), (.int .i64 t167)]))]) (cs := [(.slice none 0 0), (.int .i64 3), (.int .i64 t167)]) (GRule.mk ([]) 3 t167) (absorb_nil (fun w => ⟨_, rfl, Dp.nil⟩)) (by intro ρ h; simp only [List.map_toArray, List.map_cons, List.map_nil, h (.tmp 76) _ rfl]) rfl el101 zero104 rfl rfl rfl rfl ?_); intro bb169 v168
              refine o_idx st 1 rfl reads_dp rfl rfl rfl el23 ?_; intro e171 h172
              refine nx_dp 0 rfl ?_; rintro a173 l174 q175 rfl
              refine pk [1, 0, 2, 3, 4, 5] rfl ?_
              refine stw (o_stD (M := [dpCh dGRule 104 bb169 (.slice a173 l174 q175) ([(GRule.mk ([]) 3 t167)])]) (y' := [(GRule.mk ([]) 3 t167)]) rfl h172 (fun w B cz h => by obtain ⟨u, rfl, _⟩ := h; exact (absorb_one gives_dp (fun B w h => ⟨_, rfl, h⟩))) ty101 rfl rfl rfl rfl rfl ?_); intro bb176
              refine c_nil ?_
              refine b_norm ?_
              exact l_join (r59, ((xs16.set (t156).toNat ([(GRule.mk ([]) 3 0)])).set (0 : Int).toNat ([(GRule.mk ([]) 3 t167)]))) (fun a w hE hm => ⟨v15, bb176, hE.sub ⟨rfl, rfl, trivial⟩, (hm.pick [1, 2, 3, 4, 0] rfl)⟩)
            · refine nx_dp 4 rfl ?_; rintro a178 l179 q180 rfl
              refine c_draw mixed 7 rfl [cellCh b9 [(.slice a178 l179 q180), (.bool (decide (r7 = 0)))] 25, cellCh b5 [(.slice none 0 0), (.bool false)] 25, snapCh w0 F] ?_
              refine o_fad (dt 0 (fun w m => m.pick [1, 2, 3] rfl)) rfl rfl fld25_0 rfl ?_
              refine o_ldc (dt 1 (fun w m => m.pick [1, 2, 3] rfl)) (v := (.slice a178 l179 q180)) 0 rfl rfl rfl ty23 rfl ?_
              refine o_mv (dt 2 (fun w m => m.pick [1, 2, 3] rfl)) rfl rfl ?_
              refine o_mv (dt 3 (fun w m => m.pick [1, 2, 3] rfl)) rfl rfl ?_
              refine d_one (i := 4) rfl (by kernel_rfl) (o_call (vs := [(.pointer (some ⟨b1, 0, none⟩)), (.int .i64 1), (.int .i64 t13), (.int .i64 1)]) (M0 := [cellCh b1 [v2, (.int .i64 r59)] 122]) Tryd.call84 rfl rfl (by intro w m h; exact (w_spec_l20Rules (F := allB [cellCh b1 [v2, (.int .i64 r59)] 122] w) (r_0_b := r_0_b) (r_0_p := r59) (first_1 := 1) (chains_2 := t13) (n_3 := 1) allB_ok m.given (m.rdM 2 rfl (reads_snap hv2)) h).mono (fun _ _ k => ret_free (fun r u => (fr_cons free_dp (fr_cons free_cell fr_nil))) k)) ?_); rintro ⟨r181, r185⟩ ⟨v182, bb183⟩
              refine d_and (fun w m => m.pick [2, 3, 4] rfl) ?_
              refine d_one (i := 5) rfl (by kernel_rfl) (o_idx m_op 5 rfl reads_dp rfl rfl rfl el23 ?_); intro e186 h187
              refine d_and (fun w m => m.pick [2, 3, 4] rfl) ?_
              refine nx_dp 0 rfl ?_; rintro a188 l189 q190 rfl
              refine pk [5, 0, 1, 2, 3, 4] rfl ?_
              refine d_one (i := 6) rfl (by kernel_rfl) (o_stD (M := [dpCh dGRule 104 bb183 (.slice a188 l189 q190) r181]) (y' := r181) rfl h187 (fun w B cz h => by obtain ⟨u, rfl, _⟩ := h; exact (absorb_one gives_dp (fun B w h => ⟨_, rfl, h⟩))) ty101 rfl rfl rfl rfl rfl ?_); intro bb191
              refine d_and (fun w m => m.pick [2, 3, 4] rfl) ?_
              refine d_done (by kernel_rfl) ?_
              refine b_norm ?_
              exact l_join (r185, (xs16.set (0 : Int).toNat r181)) (fun a w hE hm => ⟨(.slice a178 l179 q180), bb191, hE.sub ⟨rfl, rfl, trivial⟩, (hm.pick [1, 2, 3, 4, 0] rfl)⟩)
      · refine c_skip ?_
        exact l_join (r57, xs16) (fun a w hE hm => ⟨v15, bb18, hE.sub ⟨rfl, rfl, trivial⟩, (hm.pick [0, 1, 2, 3, 4] rfl)⟩)
    · rintro ⟨t253, xs255⟩ a w ⟨v254, bb257, hE, hm⟩ h
      refine nx_of hE hm h ?_
      clear hE hm h
      refine c_seq ?_
      refine c_region ?_
      refine o_ldc st (v := (.agg #[v254, (.bool (decide (r7 = 0)))])) 1 rfl rfl rfl ty25 rfl ?_
      refine nx_dp 4 rfl ?_; rintro a260 l261 q262 rfl
      refine stw (o_stc (cs' := [(.slice a260 l261 q262), (.bool (decide (r7 = 0)))]) 2 rfl rfl rfl ty25 rfl rfl rfl rfl ?_)
      refine c_nil ?_
      refine l_then ?_
      refine c_ret ?_
      exact l_end1 Tryd.results50 ((GRuleset.mk xs255 (decide (r7 = 0))), t253) ((.slice a260 l261 q262), bb257) (rv_c 2 rfl rfl ty25 rfl) (fun w m => NewCh.ofB m [4, 0] rfl)

set_option maxRecDepth 100000 in
set_option maxHeartbeats 8000000 in
theorem w_spec_l1In {w0 : World} {F : Nat → Prop} {n_0 : Int} {lo_1 : Int} {hi_2 : Int} {κ : Bool → Prop} (hF : ∀ b, F b → b < w0.heap.size ∧ ¬ feet [] b) (h : L_spec_l1In n_0 lo_1 hi_2 κ) :
    Calls Tryd.prog 58 #[(.int .i64 n_0), (.int .i64 lo_1), (.int .i64 hi_2)] w0 (Ret [] F w0 κ (fun (r : Bool) (u : Unit) => (.bool r)) (fun (r : Bool) (u : Unit) => [])) := by
  refine enter0 (args := [(.int .i64 n_0), (.int .i64 lo_1), (.int .i64 hi_2)]) [] hF (Given.nil _ _) Tryd.func58 rfl Tryd.ntmps58 rfl h ?_
  clear h hF
  refine c_seq ?_
  refine c_region ?_
  refine o_as st rfl rfl ?_
  refine c_nil ?_
  refine l_then ?_
  refine c_join (σ := Bool) (fun (t61 : Bool) (a : Act) (w : World) => Has 15 [(6, (.bool t61))] a ∧ Mem (gB F [] w0) (feet []) w0 [] w) ?_ ?_
  · intro k62
    refine c_region ?_
    refine o_mv st rfl rfl ?_
    refine o_mv st rfl rfl ?_
    refine o_geq st rfl rfl rfl ?_
    refine o_mv st rfl rfl ?_
    refine st_sp (dj := 10) rfl ?_ ?_
    · refine o_mv (st_g rfl rfl) rfl rfl ?_
      refine o_mv (st_g rfl rfl) rfl rfl ?_
      refine o_leq (st_g rfl rfl) rfl rfl rfl ?_
      refine o_pickT st rfl rfl rfl ?_
      refine o_as st rfl rfl ?_
      refine c_nil ?_
      exact l_join (decide (n_0 ≤ hi_2)) (fun a w hE hm => ⟨hE.sub ⟨rfl, trivial⟩, (hm.pick [] rfl)⟩)
    · refine st_s rfl rfl rfl rfl ?_
      refine st_s rfl rfl rfl rfl ?_
      refine st_s rfl rfl rfl rfl ?_
      refine o_pickF st rfl rfl rfl ?_
      refine o_as st rfl rfl ?_
      refine c_nil ?_
      exact l_join false (fun a w hE hm => ⟨hE.sub ⟨rfl, trivial⟩, (hm.pick [] rfl)⟩)
  · rintro t61 a w ⟨hE, hm⟩ h
    refine nx_of hE hm h ?_
    clear hE hm h
    refine c_ret ?_
    exact l_end1 Tryd.results58 t61 () (rv_t rfl) (fun _ _ => NewCh.nil _ _ _ _)

set_option maxRecDepth 100000 in
set_option maxHeartbeats 8000000 in
theorem w_spec_PacketValid {w0 : World} {F : Nat → Prop} {p_0 : GPacket} {κ : Bool → Prop} (hF : ∀ b, F b → b < w0.heap.size ∧ ¬ feet [] b) (h : L_spec_PacketValid p_0 κ) :
    Calls Tryd.prog 23 #[(.agg #[(.int .i64 p_0.xFrom), (.int .i64 p_0.xTo), (.int .i64 p_0.xPort), (.int .i64 p_0.xProto)])] w0 (Ret [] F w0 κ (fun (r : Bool) (u : Unit) => (.bool r)) (fun (r : Bool) (u : Unit) => [])) := by
  refine enter0 (args := [(.agg #[(.int .i64 p_0.xFrom), (.int .i64 p_0.xTo), (.int .i64 p_0.xPort), (.int .i64 p_0.xProto)])]) [] hF (Given.nil _ _) Tryd.func23 rfl Tryd.ntmps23 rfl h ?_
  clear h hF
  refine c_seq ?_
  refine c_region ?_
  refine stw (o_box rfl rfl [(.int .i64 p_0.xFrom), (.int .i64 p_0.xTo), (.int .i64 p_0.xPort), (.int .i64 p_0.xProto)] rfl ?_); intro b1
  refine o_as st rfl rfl ?_
  refine c_nil ?_
  refine l_then ?_
  refine c_join (σ := Bool) (fun (t67 : Bool) (a : Act) (w : World) => Has 21 [(2, (.bool t67))] a ∧ Mem (gB F [] w0) (feet []) w0 [] w) ?_ ?_
  · intro k68
    refine c_region ?_
    refine o_fad st rfl rfl fld40_0 rfl ?_
    refine o_ldc st (v := (.int .i64 p_0.xFrom)) 0 rfl rfl rfl ty3 rfl ?_
    refine stw (o_callP (vs := [(.int .i64 p_0.xFrom), (.int .i64 0), (.int .i64 65535)]) Tryd.call58 rfl rfl (by intro w m h; exact (w_spec_l1In (F := allB [] w) (n_0 := p_0.xFrom) (lo_1 := 0) (hi_2 := 65535) allB_ok h).mono (fun _ _ k => ret_free (fun r u => fr_nil) k)) ?_); rintro r3 _
    refine o_mv st rfl rfl ?_
    refine st_sp (dj := 6) rfl ?_ ?_
    · refine o_fad (st_g rfl rfl) rfl rfl fld40_1 rfl ?_
      refine o_ldc (st_g rfl rfl) (v := (.int .i64 p_0.xTo)) 0 rfl rfl rfl ty3 rfl ?_
      refine st_gw rfl rfl (o_callP (vs := [(.int .i64 p_0.xTo), (.int .i64 0), (.int .i64 65535)]) Tryd.call58 rfl rfl (by intro w m h; exact (w_spec_l1In (F := allB [] w) (n_0 := p_0.xTo) (lo_1 := 0) (hi_2 := 65535) allB_ok h).mono (fun _ _ k => ret_free (fun r u => fr_nil) k)) ?_); rintro r4 _
      refine o_pickT st rfl rfl rfl ?_
      refine o_mv st rfl rfl ?_
      refine st_sp (dj := 11) rfl ?_ ?_
      · refine o_fad (st_g rfl rfl) rfl rfl fld40_2 rfl ?_
        refine o_ldc (st_g rfl rfl) (v := (.int .i64 p_0.xPort)) 0 rfl rfl rfl ty3 rfl ?_
        refine st_gw rfl rfl (o_callP (vs := [(.int .i64 p_0.xPort), (.int .i64 0), (.int .i64 255)]) Tryd.call58 rfl rfl (by intro w m h; exact (w_spec_l1In (F := allB [] w) (n_0 := p_0.xPort) (lo_1 := 0) (hi_2 := 255) allB_ok h).mono (fun _ _ k => ret_free (fun r u => fr_nil) k)) ?_); rintro r5 _
        refine o_pickT st rfl rfl rfl ?_
        refine o_mv st rfl rfl ?_
        refine st_sp (dj := 16) rfl ?_ ?_
        · refine o_fad (st_g rfl rfl) rfl rfl fld40_3 rfl ?_
          refine o_ldc (st_g rfl rfl) (v := (.int .i64 p_0.xProto)) 0 rfl rfl rfl ty3 rfl ?_
          refine st_gw rfl rfl (o_callP (vs := [(.int .i64 p_0.xProto), (.int .i64 0), (.int .i64 7)]) Tryd.call58 rfl rfl (by intro w m h; exact (w_spec_l1In (F := allB [] w) (n_0 := p_0.xProto) (lo_1 := 0) (hi_2 := 7) allB_ok h).mono (fun _ _ k => ret_free (fun r u => fr_nil) k)) ?_); rintro r6 _
          refine o_pickT st rfl rfl rfl ?_
          refine o_as st rfl rfl ?_
          refine c_nil ?_
          exact l_join r6 (fun a w hE hm => ⟨hE.sub ⟨rfl, trivial⟩, (hm.pick [] rfl)⟩)
        · refine st_s rfl rfl rfl rfl ?_
          refine st_s rfl rfl rfl rfl ?_
          refine st_s rfl rfl rfl rfl ?_
          refine o_pickF st rfl rfl rfl ?_
          refine o_as st rfl rfl ?_
          refine c_nil ?_
          exact l_join false (fun a w hE hm => ⟨hE.sub ⟨rfl, trivial⟩, (hm.pick [] rfl)⟩)
      · refine st_s rfl rfl rfl rfl ?_
        refine st_s rfl rfl rfl rfl ?_
        refine st_s rfl rfl rfl rfl ?_
        refine o_pickF st rfl rfl rfl ?_
        refine o_mv st rfl rfl ?_
        refine st_s rfl rfl rfl rfl ?_
        refine st_s rfl rfl rfl rfl ?_
        refine st_s rfl rfl rfl rfl ?_
        refine o_pickF st rfl rfl rfl ?_
        refine o_as st rfl rfl ?_
        refine c_nil ?_
        exact l_join false (fun a w hE hm => ⟨hE.sub ⟨rfl, trivial⟩, (hm.pick [] rfl)⟩)
    · refine st_s rfl rfl rfl rfl ?_
      refine st_s rfl rfl rfl rfl ?_
      refine st_s rfl rfl rfl rfl ?_
      refine o_pickF st rfl rfl rfl ?_
      refine o_mv st rfl rfl ?_
      refine st_s rfl rfl rfl rfl ?_
      refine st_s rfl rfl rfl rfl ?_
      refine st_s rfl rfl rfl rfl ?_
      refine o_pickF st rfl rfl rfl ?_
      refine o_mv st rfl rfl ?_
      refine st_s rfl rfl rfl rfl ?_
      refine st_s rfl rfl rfl rfl ?_
      refine st_s rfl rfl rfl rfl ?_
      refine o_pickF st rfl rfl rfl ?_
      refine o_as st rfl rfl ?_
      refine c_nil ?_
      exact l_join false (fun a w hE hm => ⟨hE.sub ⟨rfl, trivial⟩, (hm.pick [] rfl)⟩)
  · rintro t67 a w ⟨hE, hm⟩ h
    refine nx_of hE hm h ?_
    clear hE hm h
    refine c_ret ?_
    exact l_end1 Tryd.results23 t67 () (rv_t rfl) (fun _ _ => NewCh.nil _ _ _ _)

set_option maxRecDepth 100000 in
set_option maxHeartbeats 8000000 in
theorem w_spec_ReversePacket {w0 : World} {F : Nat → Prop} {p_0 : GPacket} {κ : GPacket → Prop} (hF : ∀ b, F b → b < w0.heap.size ∧ ¬ feet [] b) (h : L_spec_ReversePacket p_0 κ) :
    Calls Tryd.prog 59 #[(.agg #[(.int .i64 p_0.xFrom), (.int .i64 p_0.xTo), (.int .i64 p_0.xPort), (.int .i64 p_0.xProto)])] w0 (Ret [] F w0 κ (fun (r : GPacket) (u : Unit) => (.agg #[(.int .i64 r.xFrom), (.int .i64 r.xTo), (.int .i64 r.xPort), (.int .i64 r.xProto)])) (fun (r : GPacket) (u : Unit) => [])) := by
  refine enter0 (args := [(.agg #[(.int .i64 p_0.xFrom), (.int .i64 p_0.xTo), (.int .i64 p_0.xPort), (.int .i64 p_0.xProto)])]) [] hF (Given.nil _ _) Tryd.func59 rfl Tryd.ntmps59 rfl h ?_
  clear h hF
  refine c_seq ?_
  refine c_region ?_
  refine stw (o_box rfl rfl [(.int .i64 p_0.xFrom), (.int .i64 p_0.xTo), (.int .i64 p_0.xPort), (.int .i64 p_0.xProto)] rfl ?_); intro b1
  refine stw (o_alloc rfl [(.int .i64 0), (.int .i64 0), (.int .i64 0), (.int .i64 0)] zero40 ?_); intro b3
  refine c_nil ?_
  refine l_then ?_
  refine c_seq ?_
  refine c_seq ?_
  refine c_region ?_
  refine o_ldc st (v := (.agg #[(.int .i64 p_0.xFrom), (.int .i64 p_0.xTo), (.int .i64 p_0.xPort), (.int .i64 p_0.xProto)])) 1 rfl rfl rfl ty40 rfl ?_
  refine stw (o_callP (vs := [(.agg #[(.int .i64 p_0.xFrom), (.int .i64 p_0.xTo), (.int .i64 p_0.xPort), (.int .i64 p_0.xProto)])]) Tryd.call23 rfl rfl (by intro w m h; exact (w_spec_PacketValid (F := allB [] w) (p_0 := p_0) allB_ok h).mono (fun _ _ k => ret_free (fun r u => fr_nil) k)) ?_); rintro r5 _
  refine o_not st rfl rfl ?_
  refine c_nil ?_
  refine l_then ?_
  refine c_cond rfl ?_ ?_
  · refine c_seq ?_
    refine c_region ?_
    refine o_bld st (qs := []) (cells := [(.int .i64 0), (.int .i64 0), (.int .i64 0), (.int .i64 0)]) (by intro ρ h; simp only [List.map_toArray, List.map_cons, List.map_nil]) rfl bld40 rfl ?_
    refine stw (o_stc (cs' := [(.int .i64 0), (.int .i64 0), (.int .i64 0), (.int .i64 0)]) 0 rfl rfl rfl ty40 rfl rfl rfl rfl ?_)
    refine c_nil ?_
    refine l_then ?_
    refine c_ret ?_
    refine l_ret ?_
    exact l_end1 Tryd.results59 (GPacket.mk 0 0 0 0) () (rv_c 0 rfl rfl ty40 rfl) (fun _ _ => NewCh.nil _ _ _ _)
  · refine c_skip ?_
    refine l_then ?_
    refine c_seq ?_
    refine c_region ?_
    refine o_fad st rfl rfl fld40_1 rfl ?_
    refine o_ldc st (v := (.int .i64 p_0.xTo)) 1 rfl rfl rfl ty3 rfl ?_
    refine o_fad st rfl rfl fld40_0 rfl ?_
    refine o_ldc st (v := (.int .i64 p_0.xFrom)) 1 rfl rfl rfl ty3 rfl ?_
    refine o_fad st rfl rfl fld40_2 rfl ?_
    refine o_ldc st (v := (.int .i64 p_0.xPort)) 1 rfl rfl rfl ty3 rfl ?_
    refine o_fad st rfl rfl fld40_3 rfl ?_
    refine o_ldc st (v := (.int .i64 p_0.xProto)) 1 rfl rfl rfl ty3 rfl ?_
    refine o_bld st (qs := [(0, (.int .i64 p_0.xTo)), (1, (.int .i64 p_0.xFrom)), (2, (.int .i64 p_0.xPort)), (3, (.int .i64 p_0.xProto))]) (cells := [(.int .i64 p_0.xTo), (.int .i64 p_0.xFrom), (.int .i64 p_0.xPort), (.int .i64 p_0.xProto)]) (by intro ρ h; simp only [List.map_toArray, List.map_cons, List.map_nil, h (.tmp 8) _ rfl, h (.tmp 10) _ rfl, h (.tmp 12) _ rfl, h (.tmp 14) _ rfl]) rfl bld40 rfl ?_
    refine stw (o_stc (cs' := [(.int .i64 p_0.xTo), (.int .i64 p_0.xFrom), (.int .i64 p_0.xPort), (.int .i64 p_0.xProto)]) 0 rfl rfl rfl ty40 rfl rfl rfl rfl ?_)
    refine c_nil ?_
    refine l_then ?_
    refine c_ret ?_
    exact l_end1 Tryd.results59 (GPacket.mk p_0.xTo p_0.xFrom p_0.xPort p_0.xProto) () (rv_c 0 rfl rfl ty40 rfl) (fun _ _ => NewCh.nil _ _ _ _)

set_option maxRecDepth 100000 in
set_option maxHeartbeats 8000000 in
theorem w_spec_l20Packet {w0 : World} {F : Nat → Prop} {b1 : Nat} {v2 : Value} {r_0_b : (List UInt8)} {r_0_p : Int} {n_1 : Int} {κ : (GPacket × Int) → Prop} (hF : ∀ b, F b → b < w0.heap.size ∧ ¬ feet [cellCh b1 [v2, (.int .i64 r_0_p)] 122] b) (hg : Given [cellCh b1 [v2, (.int .i64 r_0_p)] 122] F w0) (hv2 : Sl elU8 F w0 v2 r_0_b) (h : L_spec_l20Packet r_0_b r_0_p n_1 κ) :
    Calls Tryd.prog 86 #[(.pointer (some ⟨b1, 0, none⟩)), (.int .i64 n_1)] w0 (Ret [cellCh b1 [v2, (.int .i64 r_0_p)] 122] F w0 κ (fun (r : (GPacket × Int)) (u : Unit) => (.agg #[(.int .i64 r.1.xFrom), (.int .i64 r.1.xTo), (.int .i64 r.1.xPort), (.int .i64 r.1.xProto)])) (fun (r : (GPacket × Int)) (u : Unit) => [cellCh b1 [v2, (.int .i64 r.2)] 122])) := by
  refine enterS (args := [(.pointer (some ⟨b1, 0, none⟩)), (.int .i64 n_1)]) [cellCh b1 [v2, (.int .i64 r_0_p)] 122] hF hg Tryd.func86 rfl Tryd.ntmps86 rfl h ?_
  clear h hF hg
  refine c_seq ?_
  refine c_region ?_
  refine stw (o_alloc rfl [(.int .i64 0), (.int .i64 0), (.int .i64 0), (.int .i64 0)] zero40 ?_); intro b5
  refine c_nil ?_
  refine l_then ?_
  refine c_seq ?_
  refine c_region ?_
  refine o_mv st rfl rfl ?_
  refine pk [1, 0, 2] rfl ?_
  refine stw (o_call (vs := [(.pointer (some ⟨b1, 0, none⟩)), (.int .i64 20)]) (M0 := [cellCh b1 [v2, (.int .i64 r_0_p)] 122]) Tryd.call68 rfl rfl (by intro w m h; exact (w_spec_l20Rd_pick (F := allB [cellCh b1 [v2, (.int .i64 r_0_p)] 122] w) (r_0_b := r_0_b) (r_0_p := r_0_p) (n_1 := 20) allB_ok m.given (m.rdM 1 rfl (reads_snap hv2)) h).mono (fun _ _ k => ret_free (fun r u => (fr_cons free_cell fr_nil)) k)) ?_); rintro ⟨r7, r8⟩ _
  refine o_mv st rfl rfl ?_
  refine stw (o_call (vs := [(.pointer (some ⟨b1, 0, none⟩)), (.int .i64 20)]) (M0 := [cellCh b1 [v2, (.int .i64 r8)] 122]) Tryd.call68 rfl rfl (by intro w m h; exact (w_spec_l20Rd_pick (F := allB [cellCh b1 [v2, (.int .i64 r8)] 122] w) (r_0_b := r_0_b) (r_0_p := r8) (n_1 := 20) allB_ok m.given (m.rdM 1 rfl (reads_snap hv2)) h).mono (fun _ _ k => ret_free (fun r u => (fr_cons free_cell fr_nil)) k)) ?_); rintro ⟨r9, r10⟩ _
  refine o_mv st rfl rfl ?_
  refine stw (o_call (vs := [(.pointer (some ⟨b1, 0, none⟩)), (.int .i64 256)]) (M0 := [cellCh b1 [v2, (.int .i64 r10)] 122]) Tryd.call68 rfl rfl (by intro w m h; exact (w_spec_l20Rd_pick (F := allB [cellCh b1 [v2, (.int .i64 r10)] 122] w) (r_0_b := r_0_b) (r_0_p := r10) (n_1 := 256) allB_ok m.given (m.rdM 1 rfl (reads_snap hv2)) h).mono (fun _ _ k => ret_free (fun r u => (fr_cons free_cell fr_nil)) k)) ?_); rintro ⟨r11, r12⟩ _
  refine o_mv st rfl rfl ?_
  refine stw (o_call (vs := [(.pointer (some ⟨b1, 0, none⟩)), (.int .i64 8)]) (M0 := [cellCh b1 [v2, (.int .i64 r12)] 122]) Tryd.call68 rfl rfl (by intro w m h; exact (w_spec_l20Rd_pick (F := allB [cellCh b1 [v2, (.int .i64 r12)] 122] w) (r_0_b := r_0_b) (r_0_p := r12) (n_1 := 8) allB_ok m.given (m.rdM 1 rfl (reads_snap hv2)) h).mono (fun _ _ k => ret_free (fun r u => (fr_cons free_cell fr_nil)) k)) ?_); rintro ⟨r13, r14⟩ _
  refine o_bld st (qs := [(0, (.int .i64 r7)), (1, (.int .i64 r9)), (2, (.int .i64 r11)), (3, (.int .i64 r13))]) (cells := [(.int .i64 r7), (.int .i64 r9), (.int .i64 r11), (.int .i64 r13)]) (by intro ρ h; simp only [List.map_toArray, List.map_cons, List.map_nil, h (.tmp 7) _ rfl, h (.tmp 9) _ rfl, h (.tmp 11) _ rfl, h (.tmp 13) _ rfl]) rfl bld40 rfl ?_
  refine stw (o_alloc rfl [(.int .i64 0), (.int .i64 0), (.int .i64 0), (.int .i64 0)] zero40 ?_); intro b15
  refine stw (o_stc (cs' := [(.int .i64 r7), (.int .i64 r9), (.int .i64 r11), (.int .i64 r13)]) 0 rfl rfl rfl ty40 rfl rfl rfl rfl ?_)
  refine c_nil ?_
  refine l_then ?_
  refine c_join (σ := (Int × Int × Int × Int)) (fun ((t93, t94, t95, t96) : (Int × Int × Int × Int)) (a : Act) (w : World) => Has 71 [(0, (.pointer (some ⟨b1, 0, none⟩))), (1, (.int .i64 n_1)), (4, (.pointer (some ⟨b5, 0, none⟩))), (5, (.pointer (some ⟨b15, 0, none⟩)))] a ∧ Mem (gB F [cellCh b1 [v2, (.int .i64 r_0_p)] 122] w0) (feet [cellCh b1 [v2, (.int .i64 r_0_p)] 122]) w0 [cellCh b1 [v2, (.int .i64 t93)] 122, cellCh b15 [(.int .i64 t94), (.int .i64 t95), (.int .i64 t96), (.int .i64 r13)] 40, cellCh b5 [(.int .i64 0), (.int .i64 0), (.int .i64 0), (.int .i64 0)] 40, snapCh w0 F] w) ?_ ?_
  · intro k97
    refine c_seq ?_
    refine c_region ?_
    refine o_mv st rfl rfl ?_
    refine pk [1, 0, 2, 3] rfl ?_
    refine stw (o_call (vs := [(.pointer (some ⟨b1, 0, none⟩)), (.int .i64 2)]) (M0 := [cellCh b1 [v2, (.int .i64 r14)] 122]) Tryd.call68 rfl rfl (by intro w m h; exact (w_spec_l20Rd_pick (F := allB [cellCh b1 [v2, (.int .i64 r14)] 122] w) (r_0_b := r_0_b) (r_0_p := r14) (n_1 := 2) allB_ok m.given (m.rdM 2 rfl (reads_snap hv2)) h).mono (fun _ _ k => ret_free (fun r u => (fr_cons free_cell fr_nil)) k)) ?_); rintro ⟨r17, r18⟩ _
    refine o_eql st und3 rfl rfl rfl ?_
    refine c_nil ?_
    refine l_then ?_
    refine c_cond rfl ?_ ?_
    · refine c_seq ?_
      refine c_region ?_
      refine o_mv st rfl rfl ?_
      refine stw (o_call (vs := [(.pointer (some ⟨b1, 0, none⟩)), (.int .i64 256)]) (M0 := [cellCh b1 [v2, (.int .i64 r18)] 122]) Tryd.call68 rfl rfl (by intro w m h; exact (w_spec_l20Rd_pick (F := allB [cellCh b1 [v2, (.int .i64 r18)] 122] w) (r_0_b := r_0_b) (r_0_p := r18) (n_1 := 256) allB_ok m.given (m.rdM 2 rfl (reads_snap hv2)) h).mono (fun _ _ k => ret_free (fun r u => (fr_cons free_cell fr_nil)) k)) ?_); rintro ⟨r19, r20⟩ _
      refine o_mul st rfl rfl rfl ?_; intro t21
      refine o_mv st rfl rfl ?_
      refine stw (o_call (vs := [(.pointer (some ⟨b1, 0, none⟩)), (.int .i64 256)]) (M0 := [cellCh b1 [v2, (.int .i64 r20)] 122]) Tryd.call68 rfl rfl (by intro w m h; exact (w_spec_l20Rd_pick (F := allB [cellCh b1 [v2, (.int .i64 r20)] 122] w) (r_0_b := r_0_b) (r_0_p := r20) (n_1 := 256) allB_ok m.given (m.rdM 2 rfl (reads_snap hv2)) h).mono (fun _ _ k => ret_free (fun r u => (fr_cons free_cell fr_nil)) k)) ?_); rintro ⟨r22, r23⟩ _
      refine o_add st rfl rfl rfl ?_; intro t24
      refine o_fad st rfl rfl fld40_0 rfl ?_
      refine stw (o_stc (cs' := [(.int .i64 t24), (.int .i64 r9), (.int .i64 r11), (.int .i64 r13)]) 1 rfl rfl rfl ty3 rfl rfl rfl rfl ?_)
      refine c_nil ?_
      refine l_then ?_
      refine c_seq ?_
      refine c_region ?_
      refine o_mv st rfl rfl ?_
      refine stw (o_call (vs := [(.pointer (some ⟨b1, 0, none⟩)), (.int .i64 4)]) (M0 := [cellCh b1 [v2, (.int .i64 r23)] 122]) Tryd.call68 rfl rfl (by intro w m h; exact (w_spec_l20Rd_pick (F := allB [cellCh b1 [v2, (.int .i64 r23)] 122] w) (r_0_b := r_0_b) (r_0_p := r23) (n_1 := 4) allB_ok m.given (m.rdM 2 rfl (reads_snap hv2)) h).mono (fun _ _ k => ret_free (fun r u => (fr_cons free_cell fr_nil)) k)) ?_); rintro ⟨r25, r26⟩ _
      refine o_mul st rfl rfl rfl ?_; intro t27
      refine o_mv st rfl rfl ?_
      refine stw (o_call (vs := [(.pointer (some ⟨b1, 0, none⟩)), (.int .i64 256)]) (M0 := [cellCh b1 [v2, (.int .i64 r26)] 122]) Tryd.call68 rfl rfl (by intro w m h; exact (w_spec_l20Rd_pick (F := allB [cellCh b1 [v2, (.int .i64 r26)] 122] w) (r_0_b := r_0_b) (r_0_p := r26) (n_1 := 256) allB_ok m.given (m.rdM 2 rfl (reads_snap hv2)) h).mono (fun _ _ k => ret_free (fun r u => (fr_cons free_cell fr_nil)) k)) ?_); rintro ⟨r28, r29⟩ _
      refine o_add st rfl rfl rfl ?_; intro t30
      refine o_fad st rfl rfl fld40_1 rfl ?_
      refine stw (o_stc (cs' := [(.int .i64 t24), (.int .i64 t30), (.int .i64 r11), (.int .i64 r13)]) 1 rfl rfl rfl ty3 rfl rfl rfl rfl ?_)
      refine c_nil ?_
      refine l_then ?_
      refine c_region ?_
      refine o_mv st rfl rfl ?_
      refine stw (o_call (vs := [(.pointer (some ⟨b1, 0, none⟩)), (.int .i64 12)]) (M0 := [cellCh b1 [v2, (.int .i64 r29)] 122]) Tryd.call68 rfl rfl (by intro w m h; exact (w_spec_l20Rd_pick (F := allB [cellCh b1 [v2, (.int .i64 r29)] 122] w) (r_0_b := r_0_b) (r_0_p := r29) (n_1 := 12) allB_ok m.given (m.rdM 2 rfl (reads_snap hv2)) h).mono (fun _ _ k => ret_free (fun r u => (fr_cons free_cell fr_nil)) k)) ?_); rintro ⟨r31, r32⟩ _
      refine o_fad st rfl rfl fld40_2 rfl ?_
      refine stw (o_stc (cs' := [(.int .i64 t24), (.int .i64 t30), (.int .i64 r31), (.int .i64 r13)]) 1 rfl rfl rfl ty3 rfl rfl rfl rfl ?_)
      refine c_nil ?_
      exact l_join (r32, t24, t30, r31) (fun a w hE hm => ⟨hE.sub ⟨rfl, rfl, rfl, rfl, trivial⟩, (hm.pick [0, 1, 2, 3] rfl)⟩)
    · refine c_skip ?_
      exact l_join (r18, r7, r9, r11) (fun a w hE hm => ⟨hE.sub ⟨rfl, rfl, rfl, rfl, trivial⟩, (hm.pick [0, 1, 2, 3] rfl)⟩)
  · rintro ⟨t93, t94, t95, t96⟩ a w ⟨hE, hm⟩ h
    refine nx_of hE hm h ?_
    clear hE hm h
    refine c_join (σ := (Int × Int × Int × Int × Int)) (fun ((t186, t187, t188, t189, t190) : (Int × Int × Int × Int × Int)) (a : Act) (w : World) => Has 71 [(4, (.pointer (some ⟨b5, 0, none⟩))), (5, (.pointer (some ⟨b15, 0, none⟩)))] a ∧ Mem (gB F [cellCh b1 [v2, (.int .i64 r_0_p)] 122] w0) (feet [cellCh b1 [v2, (.int .i64 r_0_p)] 122]) w0 [cellCh b1 [v2, (.int .i64 t186)] 122, cellCh b15 [(.int .i64 t187), (.int .i64 t188), (.int .i64 t189), (.int .i64 t190)] 40, cellCh b5 [(.int .i64 0), (.int .i64 0), (.int .i64 0), (.int .i64 0)] 40, snapCh w0 F] w) ?_ ?_
    · intro k191
      refine c_seq ?_
      refine c_region ?_
      refine o_mv st rfl rfl ?_
      refine o_mv st rfl rfl ?_
      refine stw (o_call (vs := [(.pointer (some ⟨b1, 0, none⟩)), (.int .i64 n_1)]) (M0 := [cellCh b1 [v2, (.int .i64 t93)] 122]) Tryd.call85 rfl rfl (by intro w m h; exact (w_spec_l20Rd_odd (F := allB [cellCh b1 [v2, (.int .i64 t93)] 122] w) (r_0_b := r_0_b) (r_0_p := t93) (n_1 := n_1) allB_ok m.given (m.rdM 2 rfl (reads_snap hv2)) h).mono (fun _ _ k => ret_free (fun r u => (fr_cons free_cell fr_nil)) k)) ?_); rintro ⟨r98, r99⟩ _
      refine c_nil ?_
      refine l_then ?_
      refine c_cond rfl ?_ ?_
      · refine c_seq ?_
        refine c_region ?_
        refine o_mv st rfl rfl ?_
        refine stw (o_call (vs := [(.pointer (some ⟨b1, 0, none⟩)), (.int .i64 4)]) (M0 := [cellCh b1 [v2, (.int .i64 r99)] 122]) Tryd.call68 rfl rfl (by intro w m h; exact (w_spec_l20Rd_pick (F := allB [cellCh b1 [v2, (.int .i64 r99)] 122] w) (r_0_b := r_0_b) (r_0_p := r99) (n_1 := 4) allB_ok m.given (m.rdM 2 rfl (reads_snap hv2)) h).mono (fun _ _ k => ret_free (fun r u => (fr_cons free_cell fr_nil)) k)) ?_); rintro ⟨r100, r101⟩ _
        refine c_nil ?_
        refine l_then ?_
        refine c_block ?_
        refine c_seq ?_
        refine c_region ?_
        refine o_eql st und3 rfl rfl rfl ?_
        refine o_as st rfl rfl ?_
        refine c_nil ?_
        refine l_then ?_
        refine c_cond rfl ?_ ?_
        · refine c_region ?_
          refine stw (o_bsl (enc := encInt) (qs := [(0, (.int .i64 (-1))), (1, (.int .i64 65536))]) (cells := [(.int .i64 (-1)), (.int .i64 65536)]) ([(-1), 65536]) flelInt (by intro ρ h; simp only [List.map_toArray, List.map_cons, List.map_nil, h (.const (.int .i64 (-1))) _ rfl, h (.const (.int .i64 65536)) _ rfl]) rfl el99 zero3 rfl rfl rfl rfl rfl rfl ?_); intro v102
          refine o_mv st rfl rfl ?_
          refine pk [1, 0, 2, 3, 4] rfl ?_
          refine stw (o_call (vs := [(.pointer (some ⟨b1, 0, none⟩)), (.int .i64 2)]) (M0 := [cellCh b1 [v2, (.int .i64 r101)] 122]) Tryd.call68 rfl rfl (by intro w m h; exact (w_spec_l20Rd_pick (F := allB [cellCh b1 [v2, (.int .i64 r101)] 122] w) (r_0_b := r_0_b) (r_0_p := r101) (n_1 := 2) allB_ok m.given (m.rdM 3 rfl (reads_snap hv2)) h).mono (fun _ _ k => ret_free (fun r u => (fr_cons free_cell fr_nil)) k)) ?_); rintro ⟨r104, r105⟩ _
          refine o_idx st 1 rfl reads_own rfl rfl rfl el99 ?_; intro e106 h107
          refine o_lds st (enc := encInt) (u := (.int .i64 e106)) 1 rfl reads_own flelInt rfl h107 rfl rfl ty3 rfl ?_
          refine o_fad st rfl rfl fld40_0 rfl ?_
          refine stw (o_stc (cs' := [(.int .i64 e106), (.int .i64 t95), (.int .i64 t96), (.int .i64 r13)]) 2 rfl rfl rfl ty3 rfl rfl rfl rfl ?_)
          refine c_nil ?_
          refine b_norm ?_
          exact l_join (r105, e106, t95, t96, r13) (fun a w hE hm => ⟨hE.sub ⟨rfl, rfl, trivial⟩, (hm.pick [0, 2, 3, 4] rfl)⟩)
        · refine c_seq ?_
          refine c_region ?_
          refine o_eql st und3 rfl rfl rfl ?_
          refine o_as st rfl rfl ?_
          refine c_nil ?_
          refine l_then ?_
          refine c_cond rfl ?_ ?_
          · refine c_region ?_
            refine stw (o_bsl (enc := encInt) (qs := [(0, (.int .i64 (-1))), (1, (.int .i64 65536))]) (cells := [(.int .i64 (-1)), (.int .i64 65536)]) ([(-1), 65536]) flelInt (by intro ρ h; simp only [List.map_toArray, List.map_cons, List.map_nil, h (.const (.int .i64 (-1))) _ rfl, h (.const (.int .i64 65536)) _ rfl]) rfl el99 zero3 rfl rfl rfl rfl rfl rfl ?_); intro v108
            refine o_mv st rfl rfl ?_
            refine pk [1, 0, 2, 3, 4] rfl ?_
            refine stw (o_call (vs := [(.pointer (some ⟨b1, 0, none⟩)), (.int .i64 2)]) (M0 := [cellCh b1 [v2, (.int .i64 r101)] 122]) Tryd.call68 rfl rfl (by intro w m h; exact (w_spec_l20Rd_pick (F := allB [cellCh b1 [v2, (.int .i64 r101)] 122] w) (r_0_b := r_0_b) (r_0_p := r101) (n_1 := 2) allB_ok m.given (m.rdM 3 rfl (reads_snap hv2)) h).mono (fun _ _ k => ret_free (fun r u => (fr_cons free_cell fr_nil)) k)) ?_); rintro ⟨r110, r111⟩ _
            refine o_idx st 1 rfl reads_own rfl rfl rfl el99 ?_; intro e112 h113
            refine o_lds st (enc := encInt) (u := (.int .i64 e112)) 1 rfl reads_own flelInt rfl h113 rfl rfl ty3 rfl ?_
            refine o_fad st rfl rfl fld40_1 rfl ?_
            refine stw (o_stc (cs' := [(.int .i64 t94), (.int .i64 e112), (.int .i64 t96), (.int .i64 r13)]) 2 rfl rfl rfl ty3 rfl rfl rfl rfl ?_)
            refine c_nil ?_
            refine b_norm ?_
            exact l_join (r111, t94, e112, t96, r13) (fun a w hE hm => ⟨hE.sub ⟨rfl, rfl, trivial⟩, (hm.pick [0, 2, 3, 4] rfl)⟩)
          · refine c_seq ?_
            refine c_region ?_
            refine o_eql st und3 rfl rfl rfl ?_
            refine o_as st rfl rfl ?_
            refine c_nil ?_
            refine l_then ?_
            refine c_cond rfl ?_ ?_
            · refine c_region ?_
              refine stw (o_bsl (enc := encInt) (qs := [(0, (.int .i64 (-1))), (1, (.int .i64 256))]) (cells := [(.int .i64 (-1)), (.int .i64 256)]) ([(-1), 256]) flelInt (by intro ρ h; simp only [List.map_toArray, List.map_cons, List.map_nil, h (.const (.int .i64 (-1))) _ rfl, h (.const (.int .i64 256)) _ rfl]) rfl el99 zero3 rfl rfl rfl rfl rfl rfl ?_); intro v114
              refine o_mv st rfl rfl ?_
              refine pk [1, 0, 2, 3, 4] rfl ?_
              refine stw (o_call (vs := [(.pointer (some ⟨b1, 0, none⟩)), (.int .i64 2)]) (M0 := [cellCh b1 [v2, (.int .i64 r101)] 122]) Tryd.call68 rfl rfl (by intro w m h; exact (w_spec_l20Rd_pick (F := allB [cellCh b1 [v2, (.int .i64 r101)] 122] w) (r_0_b := r_0_b) (r_0_p := r101) (n_1 := 2) allB_ok m.given (m.rdM 3 rfl (reads_snap hv2)) h).mono (fun _ _ k => ret_free (fun r u => (fr_cons free_cell fr_nil)) k)) ?_); rintro ⟨r116, r117⟩ _
              refine o_idx st 1 rfl reads_own rfl rfl rfl el99 ?_; intro e118 h119
              refine o_lds st (enc := encInt) (u := (.int .i64 e118)) 1 rfl reads_own flelInt rfl h119 rfl rfl ty3 rfl ?_
              refine o_fad st rfl rfl fld40_2 rfl ?_
              refine stw (o_stc (cs' := [(.int .i64 t94), (.int .i64 t95), (.int .i64 e118), (.int .i64 r13)]) 2 rfl rfl rfl ty3 rfl rfl rfl rfl ?_)
              refine c_nil ?_
              refine b_norm ?_
              exact l_join (r117, t94, t95, e118, r13) (fun a w hE hm => ⟨hE.sub ⟨rfl, rfl, trivial⟩, (hm.pick [0, 2, 3, 4] rfl)⟩)
            · refine c_region ?_
              refine stw (o_bsl (enc := encInt) (qs := [(0, (.int .i64 (-1))), (1, (.int .i64 8))]) (cells := [(.int .i64 (-1)), (.int .i64 8)]) ([(-1), 8]) flelInt (by intro ρ h; simp only [List.map_toArray, List.map_cons, List.map_nil, h (.const (.int .i64 (-1))) _ rfl, h (.const (.int .i64 8)) _ rfl]) rfl el99 zero3 rfl rfl rfl rfl rfl rfl ?_); intro v120
              refine o_mv st rfl rfl ?_
              refine pk [1, 0, 2, 3, 4] rfl ?_
              refine stw (o_call (vs := [(.pointer (some ⟨b1, 0, none⟩)), (.int .i64 2)]) (M0 := [cellCh b1 [v2, (.int .i64 r101)] 122]) Tryd.call68 rfl rfl (by intro w m h; exact (w_spec_l20Rd_pick (F := allB [cellCh b1 [v2, (.int .i64 r101)] 122] w) (r_0_b := r_0_b) (r_0_p := r101) (n_1 := 2) allB_ok m.given (m.rdM 3 rfl (reads_snap hv2)) h).mono (fun _ _ k => ret_free (fun r u => (fr_cons free_cell fr_nil)) k)) ?_); rintro ⟨r122, r123⟩ _
              refine o_idx st 1 rfl reads_own rfl rfl rfl el99 ?_; intro e124 h125
              refine o_lds st (enc := encInt) (u := (.int .i64 e124)) 1 rfl reads_own flelInt rfl h125 rfl rfl ty3 rfl ?_
              refine o_fad st rfl rfl fld40_3 rfl ?_
              refine stw (o_stc (cs' := [(.int .i64 t94), (.int .i64 t95), (.int .i64 t96), (.int .i64 e124)]) 2 rfl rfl rfl ty3 rfl rfl rfl rfl ?_)
              refine c_nil ?_
              refine b_norm ?_
              exact l_join (r123, t94, t95, t96, e124) (fun a w hE hm => ⟨hE.sub ⟨rfl, rfl, trivial⟩, (hm.pick [0, 2, 3, 4] rfl)⟩)
      · refine c_skip ?_
        exact l_join (r99, t94, t95, t96, r13) (fun a w hE hm => ⟨hE.sub ⟨rfl, rfl, trivial⟩, (hm.pick [0, 1, 2, 3] rfl)⟩)
    · rintro ⟨t186, t187, t188, t189, t190⟩ a w ⟨hE, hm⟩ h
      refine nx_of hE hm h ?_
      clear hE hm h
      refine c_seq ?_
      refine c_region ?_
      refine o_ldc st (v := (.agg #[(.int .i64 t187), (.int .i64 t188), (.int .i64 t189), (.int .i64 t190)])) 1 rfl rfl rfl ty40 rfl ?_
      refine stw (o_stc (cs' := [(.int .i64 t187), (.int .i64 t188), (.int .i64 t189), (.int .i64 t190)]) 2 rfl rfl rfl ty40 rfl rfl rfl rfl ?_)
      refine c_nil ?_
      refine l_then ?_
      refine c_ret ?_
      exact l_end1 Tryd.results86 ((GPacket.mk t187 t188 t189 t190), t186) () (rv_c 2 rfl rfl ty40 rfl) (fun w m => NewCh.ofB m [0] rfl)

set_option maxRecDepth 100000 in
set_option maxHeartbeats 8000000 in
theorem w_impl_FieldTop {w0 : World} {F : Nat → Prop} {n_0 : Int} {κ : Int → Prop} (hF : ∀ b, F b → b < w0.heap.size ∧ ¬ feet [] b) (hgl0 : Sl elGFieldShape F w0 (.slice (some ⟨0, 0, none⟩) 4 4) gl_impl_fieldShapes) (h : L_impl_FieldTop n_0 κ) :
    Calls Tryd.prog 95 #[(.int .i64 n_0)] w0 (Ret [] F w0 κ (fun (r : Int) (u : Unit) => (.int .i64 r)) (fun (r : Int) (u : Unit) => [])) := by
  refine enterS (args := [(.int .i64 n_0)]) [] hF (Given.nil _ _) Tryd.func95 rfl Tryd.ntmps95 rfl h ?_
  clear h hF
  refine c_seq ?_
  refine c_region ?_
  refine o_as st rfl rfl ?_
  refine c_nil ?_
  refine l_then ?_
  refine c_seq ?_
  refine c_join (σ := Bool) (fun (t61 : Bool) (a : Act) (w : World) => Has 13 [(0, (.int .i64 n_0)), (8, (.bool t61))] a ∧ Mem (gB F [] w0) (feet []) w0 [snapCh w0 F] w) ?_ ?_
  · intro k62
    refine c_region ?_
    refine o_mv st rfl rfl ?_
    refine o_lss st rfl rfl rfl ?_
    refine o_mv st rfl rfl ?_
    refine st_sp (dj := 5) rfl ?_ ?_
    · refine st_s rfl rfl rfl rfl ?_
      refine st_s rfl rfl rfl rfl ?_
      refine o_pickT st rfl rfl rfl ?_
      refine c_nil ?_
      exact l_join true (fun a w hE hm => ⟨hE.sub ⟨rfl, rfl, trivial⟩, (hm.pick [0] rfl)⟩)
    · refine o_mv (st_g rfl rfl) rfl rfl ?_
      refine o_geq (st_g rfl rfl) rfl rfl rfl ?_
      refine o_pickF st rfl rfl rfl ?_
      refine c_nil ?_
      exact l_join (decide (4 ≤ n_0)) (fun a w hE hm => ⟨hE.sub ⟨rfl, rfl, trivial⟩, (hm.pick [0] rfl)⟩)
  · rintro t61 a w ⟨hE, hm⟩ h
    refine nx_of hE hm h ?_
    clear hE hm h
    refine c_cond rfl ?_ ?_
    · refine c_seq ?_
      refine c_region ?_
      refine o_as st rfl rfl ?_
      refine c_nil ?_
      refine l_then ?_
      refine c_ret ?_
      refine l_ret ?_
      exact l_end1 Tryd.results95 (-1) () (rv_t rfl) (fun _ _ => NewCh.nil _ _ _ _)
    · refine c_skip ?_
      refine l_then ?_
      refine c_seq ?_
      refine c_region ?_
      refine o_mv st rfl rfl ?_
      refine o_ixa st 0 rfl (reads_snap hgl0) rfl rfl rfl arr169 ?_; intro e63 h64
      refine o_fadS st 0 rfl (reads_snap hgl0) h64 rfl rfl fld168_1 rfl ?_
      refine o_lds st (enc := encGFieldShape) (u := (.int .i64 e63.xTop)) 0 rfl (reads_snap hgl0) flelGFieldShape rfl h64 rfl rfl ty3 rfl ?_
      refine o_as st rfl rfl ?_
      refine c_nil ?_
      refine l_then ?_
      refine c_ret ?_
      exact l_end1 Tryd.results95 e63.xTop () (rv_t rfl) (fun _ _ => NewCh.nil _ _ _ _)

set_option maxRecDepth 100000 in
set_option maxHeartbeats 8000000 in
theorem w_impl_TestValid {w0 : World} {F : Nat → Prop} {t_0 : GTest} {κ : Bool → Prop} (hF : ∀ b, F b → b < w0.heap.size ∧ ¬ feet [] b) (hgl0 : Sl elGFieldShape F w0 (.slice (some ⟨0, 0, none⟩) 4 4) gl_impl_fieldShapes) (h : L_impl_TestValid t_0 κ) :
    Calls Tryd.prog 124 #[(.agg #[(.int .i64 t_0.xField), (.int .i64 t_0.xLo), (.int .i64 t_0.xHi), (.bool t_0.xNot)])] w0 (Ret [] F w0 κ (fun (r : Bool) (u : Unit) => (.bool r)) (fun (r : Bool) (u : Unit) => [])) := by
  refine enterS (args := [(.agg #[(.int .i64 t_0.xField), (.int .i64 t_0.xLo), (.int .i64 t_0.xHi), (.bool t_0.xNot)])]) [] hF (Given.nil _ _) Tryd.func124 rfl Tryd.ntmps124 rfl h ?_
  clear h hF
  refine c_seq ?_
  refine c_region ?_
  refine stw (o_box rfl rfl [(.int .i64 t_0.xField), (.int .i64 t_0.xLo), (.int .i64 t_0.xHi), (.bool t_0.xNot)] rfl ?_); intro b1
  refine o_as st rfl rfl ?_
  refine c_nil ?_
  refine l_then ?_
  refine c_join (σ := Bool) (fun (t64 : Bool) (a : Act) (w : World) => Has 31 [(2, (.bool t64))] a ∧ Mem (gB F [] w0) (feet []) w0 [snapCh w0 F] w) ?_ ?_
  · intro k65
    refine c_draw mixed 29 rfl [cellCh b1 [(.int .i64 t_0.xField), (.int .i64 t_0.xLo), (.int .i64 t_0.xHi), (.bool t_0.xNot)] 173, snapCh w0 F] ?_
    refine o_fad (dt 0 (fun _ m => m)) rfl rfl fld173_0 rfl ?_
    refine o_ldc (dt 1 (fun _ m => m)) (v := (.int .i64 t_0.xField)) 0 rfl rfl rfl ty3 rfl ?_
    refine o_geq (dt 2 (fun _ m => m)) rfl rfl rfl ?_
    refine o_mv (dt 3 (fun _ m => m)) rfl rfl ?_
    refine st_sp (dj := 6) rfl ?_ ?_
    · refine o_fad (dtg 4 (fun _ m => m)) rfl rfl fld173_0 rfl ?_
      refine o_ldc (dtg 5 (fun _ m => m)) (v := (.int .i64 t_0.xField)) 0 rfl rfl rfl ty3 rfl ?_
      refine o_lss (dtg 6 (fun _ m => m)) rfl rfl rfl ?_
      refine o_pickT (dt 7 (fun _ m => m)) rfl rfl rfl ?_
      refine o_mv (dt 8 (fun _ m => m)) rfl rfl ?_
      refine st_sp (dj := 11) rfl ?_ ?_
      · refine o_fad (dtg 9 (fun _ m => m)) rfl rfl fld173_1 rfl ?_
        refine o_ldc (dtg 10 (fun _ m => m)) (v := (.int .i64 t_0.xLo)) 0 rfl rfl rfl ty3 rfl ?_
        refine o_geq (dtg 11 (fun _ m => m)) rfl rfl rfl ?_
        refine o_pickT (dt 12 (fun _ m => m)) rfl rfl rfl ?_
        refine o_mv (dt 13 (fun _ m => m)) rfl rfl ?_
        refine st_sp (dj := 16) rfl ?_ ?_
        · refine o_fad (dtg 14 (fun _ m => m)) rfl rfl fld173_1 rfl ?_
          refine o_ldc (dtg 15 (fun _ m => m)) (v := (.int .i64 t_0.xLo)) 0 rfl rfl rfl ty3 rfl ?_
          refine o_fad (dtg 16 (fun _ m => m)) rfl rfl fld173_2 rfl ?_
          refine o_ldc (dtg 17 (fun _ m => m)) (v := (.int .i64 t_0.xHi)) 0 rfl rfl rfl ty3 rfl ?_
          refine o_leq (dtg 18 (fun _ m => m)) rfl rfl rfl ?_
          refine o_pickT (dt 19 (fun _ m => m)) rfl rfl rfl ?_
          refine o_mv (dt 20 (fun _ m => m)) rfl rfl ?_
          refine st_sp (dj := 23) rfl ?_ ?_
          · refine o_fad (dtg 21 (fun _ m => m)) rfl rfl fld173_2 rfl ?_
            refine o_ldc (dtg 22 (fun _ m => m)) (v := (.int .i64 t_0.xHi)) 0 rfl rfl rfl ty3 rfl ?_
            refine o_fad (dtg 23 (fun _ m => m)) rfl rfl fld173_0 rfl ?_
            refine o_ldc (dtg 24 (fun _ m => m)) (v := (.int .i64 t_0.xField)) 0 rfl rfl rfl ty3 rfl ?_
            refine d_oneg (i := 25) rfl rfl rfl (by kernel_rfl) (o_callP (vs := [(.int .i64 t_0.xField)]) Tryd.call95 rfl rfl (by intro w m h; exact (w_impl_FieldTop (F := allB [] w) (n_0 := t_0.xField) allB_ok (m.rd0 1 rfl (reads_snap hgl0)) h).mono (fun _ _ k => ret_free (fun r u => fr_nil) k)) ?_); rintro r3 _
            refine d_and (fun _ m => m) ?_
            refine o_leq (dtg 26 (fun _ m => m)) rfl rfl rfl ?_
            refine o_pickT (dt 27 (fun _ m => m)) rfl rfl rfl ?_
            refine o_as (dt 28 (fun _ m => m)) rfl rfl ?_
            refine d_done (by kernel_rfl) ?_
            exact l_join (decide (t_0.xHi ≤ r3)) (fun a w hE hm => ⟨hE.sub ⟨rfl, trivial⟩, (hm.pick [1] rfl)⟩)
          · refine dsk 21 (fun _ m => m) rfl (by kernel_rfl) rfl rfl rfl rfl ?_
            refine dsk 22 (fun _ m => m) rfl (by kernel_rfl) rfl rfl rfl rfl ?_
            refine dsk 23 (fun _ m => m) rfl (by kernel_rfl) rfl rfl rfl rfl ?_
            refine dsk 24 (fun _ m => m) rfl (by kernel_rfl) rfl rfl rfl rfl ?_
            refine dsk 25 (fun _ m => m) rfl (by kernel_rfl) rfl rfl rfl rfl ?_
            refine dsk 26 (fun _ m => m) rfl (by kernel_rfl) rfl rfl rfl rfl ?_
            refine o_pickF (dt 27 (fun _ m => m)) rfl rfl rfl ?_
            refine o_as (dt 28 (fun _ m => m)) rfl rfl ?_
            refine d_done (by kernel_rfl) ?_
            exact l_join false (fun a w hE hm => ⟨hE.sub ⟨rfl, trivial⟩, (hm.pick [1] rfl)⟩)
        · refine dsk 14 (fun _ m => m) rfl (by kernel_rfl) rfl rfl rfl rfl ?_
          refine dsk 15 (fun _ m => m) rfl (by kernel_rfl) rfl rfl rfl rfl ?_
          refine dsk 16 (fun _ m => m) rfl (by kernel_rfl) rfl rfl rfl rfl ?_
          refine dsk 17 (fun _ m => m) rfl (by kernel_rfl) rfl rfl rfl rfl ?_
          refine dsk 18 (fun _ m => m) rfl (by kernel_rfl) rfl rfl rfl rfl ?_
          refine o_pickF (dt 19 (fun _ m => m)) rfl rfl rfl ?_
          refine o_mv (dt 20 (fun _ m => m)) rfl rfl ?_
          refine dsk 21 (fun _ m => m) rfl (by kernel_rfl) rfl rfl rfl rfl ?_
          refine dsk 22 (fun _ m => m) rfl (by kernel_rfl) rfl rfl rfl rfl ?_
          refine dsk 23 (fun _ m => m) rfl (by kernel_rfl) rfl rfl rfl rfl ?_
          refine dsk 24 (fun _ m => m) rfl (by kernel_rfl) rfl rfl rfl rfl ?_
          refine dsk 25 (fun _ m => m) rfl (by kernel_rfl) rfl rfl rfl rfl ?_
          refine dsk 26 (fun _ m => m) rfl (by kernel_rfl) rfl rfl rfl rfl ?_
          refine o_pickF (dt 27 (fun _ m => m)) rfl rfl rfl ?_
          refine o_as (dt 28 (fun _ m => m)) rfl rfl ?_
          refine d_done (by kernel_rfl) ?_
          exact l_join false (fun a w hE hm => ⟨hE.sub ⟨rfl, trivial⟩, (hm.pick [1] rfl)⟩)
      · refine dsk 9 (fun _ m => m) rfl (by kernel_rfl) rfl rfl rfl rfl ?_
        refine dsk 10 (fun _ m => m) rfl (by kernel_rfl) rfl rfl rfl rfl ?_
        refine dsk 11 (fun _ m => m) rfl (by kernel_rfl) rfl rfl rfl rfl ?_
        refine o_pickF (dt 12 (fun _ m => m)) rfl rfl rfl ?_
        refine o_mv (dt 13 (fun _ m => m)) rfl rfl ?_
        refine dsk 14 (fun _ m => m) rfl (by kernel_rfl) rfl rfl rfl rfl ?_
        refine dsk 15 (fun _ m => m) rfl (by kernel_rfl) rfl rfl rfl rfl ?_
        refine dsk 16 (fun _ m => m) rfl (by kernel_rfl) rfl rfl rfl rfl ?_
        refine dsk 17 (fun _ m => m) rfl (by kernel_rfl) rfl rfl rfl rfl ?_
        refine dsk 18 (fun _ m => m) rfl (by kernel_rfl) rfl rfl rfl rfl ?_
        refine o_pickF (dt 19 (fun _ m => m)) rfl rfl rfl ?_
        refine o_mv (dt 20 (fun _ m => m)) rfl rfl ?_
        refine dsk 21 (fun _ m => m) rfl (by kernel_rfl) rfl rfl rfl rfl ?_
        refine dsk 22 (fun _ m => m) rfl (by kernel_rfl) rfl rfl rfl rfl ?_
        refine dsk 23 (fun _ m => m) rfl (by kernel_rfl) rfl rfl rfl rfl ?_
        refine dsk 24 (fun _ m => m) rfl (by kernel_rfl) rfl rfl rfl rfl ?_
        refine dsk 25 (fun _ m => m) rfl (by kernel_rfl) rfl rfl rfl rfl ?_
        refine dsk 26 (fun _ m => m) rfl (by kernel_rfl) rfl rfl rfl rfl ?_
        refine o_pickF (dt 27 (fun _ m => m)) rfl rfl rfl ?_
        refine o_as (dt 28 (fun _ m => m)) rfl rfl ?_
        refine d_done (by kernel_rfl) ?_
        exact l_join false (fun a w hE hm => ⟨hE.sub ⟨rfl, trivial⟩, (hm.pick [1] rfl)⟩)
    · refine dsk 4 (fun _ m => m) rfl (by kernel_rfl) rfl rfl rfl rfl ?_
      refine dsk 5 (fun _ m => m) rfl (by kernel_rfl) rfl rfl rfl rfl ?_
      refine dsk 6 (fun _ m => m) rfl (by kernel_rfl) rfl rfl rfl rfl ?_
      refine o_pickF (dt 7 (fun _ m => m)) rfl rfl rfl ?_
      refine o_mv (dt 8 (fun _ m => m)) rfl rfl ?_
      refine dsk 9 (fun _ m => m) rfl (by kernel_rfl) rfl rfl rfl rfl ?_
      refine dsk 10 (fun _ m => m) rfl (by kernel_rfl) rfl rfl rfl rfl ?_
      refine dsk 11 (fun _ m => m) rfl (by kernel_rfl) rfl rfl rfl rfl ?_
      refine o_pickF (dt 12 (fun _ m => m)) rfl rfl rfl ?_
      refine o_mv (dt 13 (fun _ m => m)) rfl rfl ?_
      refine dsk 14 (fun _ m => m) rfl (by kernel_rfl) rfl rfl rfl rfl ?_
      refine dsk 15 (fun _ m => m) rfl (by kernel_rfl) rfl rfl rfl rfl ?_
      refine dsk 16 (fun _ m => m) rfl (by kernel_rfl) rfl rfl rfl rfl ?_
      refine dsk 17 (fun _ m => m) rfl (by kernel_rfl) rfl rfl rfl rfl ?_
      refine dsk 18 (fun _ m => m) rfl (by kernel_rfl) rfl rfl rfl rfl ?_
      refine o_pickF (dt 19 (fun _ m => m)) rfl rfl rfl ?_
      refine o_mv (dt 20 (fun _ m => m)) rfl rfl ?_
      refine dsk 21 (fun _ m => m) rfl (by kernel_rfl) rfl rfl rfl rfl ?_
      refine dsk 22 (fun _ m => m) rfl (by kernel_rfl) rfl rfl rfl rfl ?_
      refine dsk 23 (fun _ m => m) rfl (by kernel_rfl) rfl rfl rfl rfl ?_
      refine dsk 24 (fun _ m => m) rfl (by kernel_rfl) rfl rfl rfl rfl ?_
      refine dsk 25 (fun _ m => m) rfl (by kernel_rfl) rfl rfl rfl rfl ?_
      refine dsk 26 (fun _ m => m) rfl (by kernel_rfl) rfl rfl rfl rfl ?_
      refine o_pickF (dt 27 (fun _ m => m)) rfl rfl rfl ?_
      refine o_as (dt 28 (fun _ m => m)) rfl rfl ?_
      refine d_done (by kernel_rfl) ?_
      exact l_join false (fun a w hE hm => ⟨hE.sub ⟨rfl, trivial⟩, (hm.pick [1] rfl)⟩)
  · rintro t64 a w ⟨hE, hm⟩ h
    refine nx_of hE hm h ?_
    clear hE hm h
    refine c_ret ?_
    exact l_end1 Tryd.results124 t64 () (rv_t rfl) (fun _ _ => NewCh.nil _ _ _ _)

set_option maxRecDepth 100000 in
set_option maxHeartbeats 8000000 in
theorem w_impl_TestsValid {w0 : World} {F : Nat → Prop} {v1 : Value} {list_0 : (List GTest)} {κ : Bool → Prop} (hF : ∀ b, F b → b < w0.heap.size ∧ ¬ feet [] b) (hv1 : Sl elGTest F w0 v1 list_0) (hgl0 : Sl elGFieldShape F w0 (.slice (some ⟨0, 0, none⟩) 4 4) gl_impl_fieldShapes) (h : L_impl_TestsValid list_0 κ) :
    Calls Tryd.prog 117 #[v1] w0 (Ret [] F w0 κ (fun (r : Bool) (u : Unit) => (.bool r)) (fun (r : Bool) (u : Unit) => [])) := by
  refine enterS (args := [v1]) [] hF (Given.nil _ _) Tryd.func117 rfl Tryd.ntmps117 rfl h ?_
  clear h hF
  refine c_seq ?_
  refine c_region ?_
  refine o_as st rfl rfl ?_
  refine c_nil ?_
  refine l_then ?_
  refine c_seq ?_
  refine c_seq ?_
  refine c_region ?_
  refine o_mv st rfl rfl ?_
  refine o_len st el102 0 rfl (reads_snap hv1) rfl rfl ?_
  refine o_gtr st rfl rfl rfl ?_
  refine c_nil ?_
  refine l_then ?_
  refine c_cond rfl ?_ ?_
  · refine c_seq ?_
    refine c_region ?_
    refine o_as st rfl rfl ?_
    refine c_nil ?_
    refine l_then ?_
    refine c_ret ?_
    refine l_ret ?_
    exact l_end1 Tryd.results117 false () (rv_t rfl) (fun _ _ => NewCh.nil _ _ _ _)
  · refine c_skip ?_
    refine l_then ?_
    refine c_seq ?_
    refine c_seq ?_
    refine c_region ?_
    refine o_mv st rfl rfl ?_
    refine o_len st el102 0 rfl (reads_snap hv1) rfl rfl ?_
    refine o_mv st rfl rfl ?_
    refine c_nil ?_
    refine l_then ?_
    refine c_block ?_
    refine c_loop (σ := Int) (fun (t3 : Int) (a : Act) (w : World) => Has 18 [(8, v1), (9, (.int .i64 (list_0.length : Int))), (10, (.int .i64 t3))] a ∧ Mem (gB F [] w0) (feet []) w0 [snapCh w0 F] w) (fun a w hE hm => ⟨hE.sub ⟨rfl, rfl, rfl, trivial⟩, (hm.pick [0] rfl)⟩) ?_
    rintro nx4 t3 a w ⟨hE, hm⟩ h
    refine nx_of hE hm h ?_
    clear hE hm h
    refine c_seq ?_
    refine c_region ?_
    refine o_lss st rfl rfl rfl ?_
    refine c_nil ?_
    refine l_then ?_
    refine c_seq ?_
    refine c_cond rfl ?_ ?_
    · refine c_skip ?_
      refine l_then ?_
      refine c_seq ?_
      refine c_block ?_
      refine c_seq ?_
      refine c_region ?_
      refine o_idx st 0 rfl (reads_snap hv1) rfl rfl rfl el102 ?_; intro e5 h6
      refine o_lds st (enc := encGTest) (u := (.agg #[(.int .i64 e5.xField), (.int .i64 e5.xLo), (.int .i64 e5.xHi), (.bool e5.xNot)])) 0 rfl (reads_snap hv1) flelGTest rfl h6 rfl rfl ty173 rfl ?_
      refine stw (o_alloc rfl [(.int .i64 0), (.int .i64 0), (.int .i64 0), (.bool false)] zero173 ?_); intro b7
      refine stw (o_stc (cs' := [(.int .i64 e5.xField), (.int .i64 e5.xLo), (.int .i64 e5.xHi), (.bool e5.xNot)]) 0 rfl rfl rfl ty173 rfl rfl rfl rfl ?_)
      refine c_nil ?_
      refine l_then ?_
      refine c_seq ?_
      refine c_region ?_
      refine o_ldc st (v := (.agg #[(.int .i64 e5.xField), (.int .i64 e5.xLo), (.int .i64 e5.xHi), (.bool e5.xNot)])) 0 rfl rfl rfl ty173 rfl ?_
      refine stw (o_callP (vs := [(.agg #[(.int .i64 e5.xField), (.int .i64 e5.xLo), (.int .i64 e5.xHi), (.bool e5.xNot)])]) Tryd.call124 rfl rfl (by intro w m h; exact (w_impl_TestValid (F := allB [] w) (t_0 := e5) allB_ok (m.rd0 1 rfl (reads_snap hgl0)) h).mono (fun _ _ k => ret_free (fun r u => fr_nil) k)) ?_); rintro r9 _
      refine o_not st rfl rfl ?_
      refine c_nil ?_
      refine l_then ?_
      refine c_cond rfl ?_ ?_
      · refine c_seq ?_
        refine c_region ?_
        refine o_as st rfl rfl ?_
        refine c_nil ?_
        refine l_then ?_
        refine c_ret ?_
        refine b_ret ?_
        refine l_ret ?_
        refine l_ret ?_
        refine b_ret ?_
        refine l_ret ?_
        exact l_end1 Tryd.results117 false () (rv_t rfl) (fun _ _ => NewCh.nil _ _ _ _)
      · refine c_skip ?_
        refine b_norm ?_
        refine l_then ?_
        refine c_region ?_
        refine o_add st rfl rfl rfl ?_; intro t10
        refine o_mv st rfl rfl ?_
        refine c_nil ?_
        exact l_join t10 (fun a w hE hm => ⟨hE.sub ⟨rfl, rfl, rfl, trivial⟩, (hm.pick [1] rfl)⟩)
    · refine c_exit ?_
      refine l_exit ?_
      refine l_exit ?_
      refine b_exit ?_
      refine l_then ?_
      refine c_seq ?_
      refine c_region ?_
      refine o_as st rfl rfl ?_
      refine c_nil ?_
      refine l_then ?_
      refine c_ret ?_
      exact l_end1 Tryd.results117 true () (rv_t rfl) (fun _ _ => NewCh.nil _ _ _ _)

set_option maxRecDepth 100000 in
set_option maxHeartbeats 8000000 in
theorem w_impl_RuleValid {w0 : World} {F : Nat → Prop} {v1 : Value} {r_0 : GRule} {κ : Bool → Prop} (hF : ∀ b, F b → b < w0.heap.size ∧ ¬ feet [] b) (hv1 : Sl elGTest F w0 v1 r_0.xTests) (hgl0 : Sl elGFieldShape F w0 (.slice (some ⟨0, 0, none⟩) 4 4) gl_impl_fieldShapes) (h : L_impl_RuleValid r_0 κ) :
    Calls Tryd.prog 103 #[(.agg #[v1, (.int .i64 r_0.xAction), (.int .i64 r_0.xChain)])] w0 (Ret [] F w0 κ (fun (r : Bool) (u : Unit) => (.bool r)) (fun (r : Bool) (u : Unit) => [])) := by
  refine enterS (args := [(.agg #[v1, (.int .i64 r_0.xAction), (.int .i64 r_0.xChain)])]) [] hF (Given.nil _ _) Tryd.func103 rfl Tryd.ntmps103 rfl h ?_
  clear h hF
  refine c_seq ?_
  refine c_region ?_
  obtain ⟨a3, l4, q5, hs_⟩ := sl_val hv1; subst hs_
  refine stw (o_box rfl rfl [(.slice a3 l4 q5), (.int .i64 r_0.xAction), (.int .i64 r_0.xChain)] rfl ?_); intro b6
  refine o_as st rfl rfl ?_
  refine c_nil ?_
  refine l_then ?_
  refine c_seq ?_
  refine c_seq ?_
  refine c_region ?_
  refine o_fad st rfl rfl fld104_0 rfl ?_
  refine o_ldc st (v := (.slice a3 l4 q5)) 0 rfl rfl rfl ty102 rfl ?_
  refine stw (o_callP (vs := [(.slice a3 l4 q5)]) Tryd.call117 rfl rfl (by intro w m h; exact (w_impl_TestsValid (F := allB [] w) (list_0 := r_0.xTests) allB_ok (m.rd0 1 rfl (reads_snap hv1)) (m.rd0 1 rfl (reads_snap hgl0)) h).mono (fun _ _ k => ret_free (fun r u => fr_nil) k)) ?_); rintro r8 _
  refine o_not st rfl rfl ?_
  refine c_nil ?_
  refine l_then ?_
  refine c_cond rfl ?_ ?_
  · refine c_seq ?_
    refine c_region ?_
    refine o_as st rfl rfl ?_
    refine c_nil ?_
    refine l_then ?_
    refine c_ret ?_
    refine l_ret ?_
    exact l_end1 Tryd.results103 false () (rv_t rfl) (fun _ _ => NewCh.nil _ _ _ _)
  · refine c_skip ?_
    refine l_then ?_
    refine c_seq ?_
    refine c_seq ?_
    refine c_region ?_
    refine o_fad st rfl rfl fld104_1 rfl ?_
    refine o_ldc st (v := (.int .i64 r_0.xAction)) 0 rfl rfl rfl ty3 rfl ?_
    refine c_nil ?_
    refine l_then ?_
    refine c_block ?_
    refine c_seq ?_
    refine c_region ?_
    refine o_eql st und3 rfl rfl rfl ?_
    refine o_as st rfl rfl ?_
    refine c_nil ?_
    refine l_then ?_
    refine c_cond rfl ?_ ?_
    · refine c_join (σ := Bool) (fun (t69 : Bool) (a : Act) (w : World) => Has 27 [(2, (.bool t69))] a ∧ Mem (gB F [] w0) (feet []) w0 [snapCh w0 F] w) ?_ ?_
      · intro k70
        refine c_region ?_
        refine o_fad st rfl rfl fld104_2 rfl ?_
        refine o_ldc st (v := (.int .i64 r_0.xChain)) 0 rfl rfl rfl ty3 rfl ?_
        refine o_geq st rfl rfl rfl ?_
        refine o_mv st rfl rfl ?_
        refine st_sp (dj := 14) rfl ?_ ?_
        · refine o_fad (st_g rfl rfl) rfl rfl fld104_2 rfl ?_
          refine o_ldc (st_g rfl rfl) (v := (.int .i64 r_0.xChain)) 0 rfl rfl rfl ty3 rfl ?_
          refine o_lss (st_g rfl rfl) rfl rfl rfl ?_
          refine o_pickT st rfl rfl rfl ?_
          refine o_as st rfl rfl ?_
          refine c_nil ?_
          exact l_join (decide (r_0.xChain < 5)) (fun a w hE hm => ⟨hE.sub ⟨rfl, trivial⟩, (hm.pick [1] rfl)⟩)
        · refine st_s rfl rfl rfl rfl ?_
          refine st_s rfl rfl rfl rfl ?_
          refine st_s rfl rfl rfl rfl ?_
          refine o_pickF st rfl rfl rfl ?_
          refine o_as st rfl rfl ?_
          refine c_nil ?_
          exact l_join false (fun a w hE hm => ⟨hE.sub ⟨rfl, trivial⟩, (hm.pick [1] rfl)⟩)
      · rintro t69 a w ⟨hE, hm⟩ h
        refine nx_of hE hm h ?_
        clear hE hm h
        refine c_ret ?_
        refine b_ret ?_
        refine l_ret ?_
        exact l_end1 Tryd.results103 t69 () (rv_t rfl) (fun _ _ => NewCh.nil _ _ _ _)
    · refine c_join (σ := Bool) (fun (t131 : Bool) (a : Act) (w : World) => Has 27 [(1, (.pointer (some ⟨b6, 0, none⟩))), (19, (.bool t131))] a ∧ Mem (gB F [] w0) (feet []) w0 [cellCh b6 [(.slice a3 l4 q5), (.int .i64 r_0.xAction), (.int .i64 r_0.xChain)] 104, snapCh w0 F] w) ?_ ?_
      · intro k132
        refine c_seq ?_
        refine c_region ?_
        refine o_eql st und3 rfl rfl rfl ?_
        refine o_as st rfl rfl ?_
        refine c_nil ?_
        refine l_then ?_
        refine c_cond rfl ?_ ?_
        · refine c_skip ?_
          exact l_join (decide (r_0.xAction = 1)) (fun a w hE hm => ⟨hE.sub ⟨rfl, rfl, trivial⟩, (hm.pick [0, 1] rfl)⟩)
        · refine c_seq ?_
          refine c_region ?_
          refine o_eql st und3 rfl rfl rfl ?_
          refine o_as st rfl rfl ?_
          refine c_nil ?_
          refine l_then ?_
          refine c_cond rfl ?_ ?_
          · refine c_skip ?_
            exact l_join (decide (r_0.xAction = 2)) (fun a w hE hm => ⟨hE.sub ⟨rfl, rfl, trivial⟩, (hm.pick [0, 1] rfl)⟩)
          · refine c_seq ?_
            refine c_region ?_
            refine o_eql st und3 rfl rfl rfl ?_
            refine o_as st rfl rfl ?_
            refine c_nil ?_
            refine l_then ?_
            refine c_cond rfl ?_ ?_
            · refine c_skip ?_
              exact l_join (decide (r_0.xAction = 4)) (fun a w hE hm => ⟨hE.sub ⟨rfl, rfl, trivial⟩, (hm.pick [0, 1] rfl)⟩)
            · refine c_region ?_
              refine o_eql st und3 rfl rfl rfl ?_
              refine o_as st rfl rfl ?_
              refine c_nil ?_
              exact l_join (decide (r_0.xAction = 5)) (fun a w hE hm => ⟨hE.sub ⟨rfl, rfl, trivial⟩, (hm.pick [0, 1] rfl)⟩)
      · rintro t131 a w ⟨hE, hm⟩ h
        refine nx_of hE hm h ?_
        clear hE hm h
        refine c_cond rfl ?_ ?_
        · refine c_seq ?_
          refine c_region ?_
          refine o_fad st rfl rfl fld104_2 rfl ?_
          refine o_ldc st (v := (.int .i64 r_0.xChain)) 0 rfl rfl rfl ty3 rfl ?_
          refine o_eql st und3 rfl rfl rfl ?_
          refine o_as st rfl rfl ?_
          refine c_nil ?_
          refine l_then ?_
          refine c_ret ?_
          refine b_ret ?_
          refine l_ret ?_
          exact l_end1 Tryd.results103 (decide (r_0.xChain = 0)) () (rv_t rfl) (fun _ _ => NewCh.nil _ _ _ _)
        · refine c_skip ?_
          refine b_norm ?_
          refine l_then ?_
          refine c_seq ?_
          refine c_region ?_
          refine o_as st rfl rfl ?_
          refine c_nil ?_
          refine l_then ?_
          refine c_ret ?_
          exact l_end1 Tryd.results103 false () (rv_t rfl) (fun _ _ => NewCh.nil _ _ _ _)

set_option maxRecDepth 100000 in
set_option maxHeartbeats 8000000 in
theorem w_impl_RulesValid {w0 : World} {F : Nat → Prop} {v1 : Value} {list_0 : (List GRule)} {κ : Bool → Prop} (hF : ∀ b, F b → b < w0.heap.size ∧ ¬ feet [] b) (hv1 : Sl elGRule F w0 v1 list_0) (hgl0 : Sl elGFieldShape F w0 (.slice (some ⟨0, 0, none⟩) 4 4) gl_impl_fieldShapes) (h : L_impl_RulesValid list_0 κ) :
    Calls Tryd.prog 87 #[v1] w0 (Ret [] F w0 κ (fun (r : Bool) (u : Unit) => (.bool r)) (fun (r : Bool) (u : Unit) => [])) := by
  refine enterS (args := [v1]) [] hF (Given.nil _ _) Tryd.func87 rfl Tryd.ntmps87 rfl h ?_
  clear h hF
  refine c_seq ?_
  refine c_region ?_
  refine o_as st rfl rfl ?_
  refine c_nil ?_
  refine l_then ?_
  refine c_seq ?_
  refine c_seq ?_
  refine c_region ?_
  refine o_mv st rfl rfl ?_
  refine o_len st el101 0 rfl (reads_snap hv1) rfl rfl ?_
  refine o_gtr st rfl rfl rfl ?_
  refine c_nil ?_
  refine l_then ?_
  refine c_cond rfl ?_ ?_
  · refine c_seq ?_
    refine c_region ?_
    refine o_as st rfl rfl ?_
    refine c_nil ?_
    refine l_then ?_
    refine c_ret ?_
    refine l_ret ?_
    exact l_end1 Tryd.results87 false () (rv_t rfl) (fun _ _ => NewCh.nil _ _ _ _)
  · refine c_skip ?_
    refine l_then ?_
    refine c_seq ?_
    refine c_seq ?_
    refine c_region ?_
    refine o_mv st rfl rfl ?_
    refine o_len st el101 0 rfl (reads_snap hv1) rfl rfl ?_
    refine o_mv st rfl rfl ?_
    refine c_nil ?_
    refine l_then ?_
    refine c_block ?_
    refine c_loop (σ := Int) (fun (t3 : Int) (a : Act) (w : World) => Has 18 [(8, v1), (9, (.int .i64 (list_0.length : Int))), (10, (.int .i64 t3))] a ∧ Mem (gB F [] w0) (feet []) w0 [snapCh w0 F] w) (fun a w hE hm => ⟨hE.sub ⟨rfl, rfl, rfl, trivial⟩, (hm.pick [0] rfl)⟩) ?_
    rintro nx4 t3 a w ⟨hE, hm⟩ h
    refine nx_of hE hm h ?_
    clear hE hm h
    refine c_seq ?_
    refine c_region ?_
    refine o_lss st rfl rfl rfl ?_
    refine c_nil ?_
    refine l_then ?_
    refine c_seq ?_
    refine c_cond rfl ?_ ?_
    · refine c_skip ?_
      refine l_then ?_
      refine c_seq ?_
      refine c_block ?_
      refine c_seq ?_
      refine c_region ?_
      refine o_idx st 0 rfl (reads_snap hv1) rfl rfl rfl el101 ?_; intro e5 h6
      obtain ⟨_, ⟨v8, rfl, sl9⟩, rw7⟩ := sl_open hv1 h6
      refine o_ldR st (u := (.agg #[v8, (.int .i64 e5.xAction), (.int .i64 e5.xChain)])) 0 rfl rw7 rfl rfl ty104 rfl ?_
      refine stw (o_alloc rfl [(.slice none 0 0), (.int .i64 0), (.int .i64 0)] zero104 ?_); intro b11
      obtain ⟨a13, l14, q15, hs_⟩ := sl_val sl9; subst hs_
      refine stw (o_stc (cs' := [(.slice a13 l14 q15), (.int .i64 e5.xAction), (.int .i64 e5.xChain)]) 0 rfl rfl rfl ty104 rfl rfl rfl rfl ?_)
      refine c_nil ?_
      refine l_then ?_
      refine c_seq ?_
      refine c_region ?_
      refine o_ldc st (v := (.agg #[(.slice a13 l14 q15), (.int .i64 e5.xAction), (.int .i64 e5.xChain)])) 0 rfl rfl rfl ty104 rfl ?_
      refine stw (o_callP (vs := [(.agg #[(.slice a13 l14 q15), (.int .i64 e5.xAction), (.int .i64 e5.xChain)])]) Tryd.call103 rfl rfl (by intro w m h; exact (w_impl_RuleValid (F := allB [] w) (r_0 := e5) allB_ok (m.rd0 1 rfl (reads_snap sl9)) (m.rd0 1 rfl (reads_snap hgl0)) h).mono (fun _ _ k => ret_free (fun r u => fr_nil) k)) ?_); rintro r16 _
      refine o_not st rfl rfl ?_
      refine c_nil ?_
      refine l_then ?_
      refine c_cond rfl ?_ ?_
      · refine c_seq ?_
        refine c_region ?_
        refine o_as st rfl rfl ?_
        refine c_nil ?_
        refine l_then ?_
        refine c_ret ?_
        refine b_ret ?_
        refine l_ret ?_
        refine l_ret ?_
        refine b_ret ?_
        refine l_ret ?_
        exact l_end1 Tryd.results87 false () (rv_t rfl) (fun _ _ => NewCh.nil _ _ _ _)
      · refine c_skip ?_
        refine b_norm ?_
        refine l_then ?_
        refine c_region ?_
        refine o_add st rfl rfl rfl ?_; intro t17
        refine o_mv st rfl rfl ?_
        refine c_nil ?_
        exact l_join t17 (fun a w hE hm => ⟨hE.sub ⟨rfl, rfl, rfl, trivial⟩, (hm.pick [1] rfl)⟩)
    · refine c_exit ?_
      refine l_exit ?_
      refine l_exit ?_
      refine b_exit ?_
      refine l_then ?_
      refine c_seq ?_
      refine c_region ?_
      refine o_as st rfl rfl ?_
      refine c_nil ?_
      refine l_then ?_
      refine c_ret ?_
      exact l_end1 Tryd.results87 true () (rv_t rfl) (fun _ _ => NewCh.nil _ _ _ _)



end
section
open Go.RowKit
set_option maxRecDepth 100000 in
set_option maxHeartbeats 8000000 in
theorem w_impl_callsIn {w0 : World} {F : Nat → Prop} {v1 : Value} {rules_0 : (List GRule)} {κ : (List Int) → Prop} (hF : ∀ b, F b → b < w0.heap.size ∧ ¬ feet [] b) (hv1 : Sl elGRule F w0 v1 rules_0) (h : L_impl_callsIn rules_0 κ) :
    Calls Tryd.prog 88 #[v1] w0 (Ret [] F w0 κ (fun (r : (List Int)) (u : Value) => u) (fun (r : (List Int)) (u : Value) => [ownCh elInt 3 u r])) := by
  refine enterS (args := [v1]) [] hF (Given.nil _ _) Tryd.func88 rfl Tryd.ntmps88 rfl h ?_
  clear h hF
  refine c_seq ?_
  refine c_region ?_
  refine stw (o_asn elInt 3 rfl rfl ?_)
  refine c_nil ?_
  refine l_then ?_
  refine c_seq ?_
  refine c_region ?_
  refine stw (o_allocA (El' := elBool) (z := (false : Bool)) (len := 5) (zs := [(.bool false)]) (fun F w => (flelBool _ _ _ _).2 rfl) rfl zero148 rfl rfl ?_); intro b4
  refine c_nil ?_
  refine l_then ?_
  refine c_seq ?_
  refine c_seq ?_
  refine c_region ?_
  refine o_mv st rfl rfl ?_
  refine o_len st el101 2 rfl (reads_snap hv1) rfl rfl ?_
  refine o_mv st rfl rfl ?_
  refine c_nil ?_
  refine l_then ?_
  refine c_block ?_
  refine c_loop (σ := ((List Bool) × Int)) (fun ((xs6, t8) : ((List Bool) × Int)) (a : Act) (w : World) => Has 34 [(3, (.pointer (some ⟨b4, 0, none⟩))), (9, v1), (10, (.int .i64 (rules_0.length : Int))), (11, (.int .i64 t8))] a ∧ Mem (gB F [] w0) (feet []) w0 [ownCh elBool 148 (.slice (some ⟨b4, 0, none⟩) 5 5) xs6, snapCh w0 F] w) (fun a w hE hm => ⟨hE.sub ⟨rfl, rfl, rfl, rfl, trivial⟩, (hm.pick [0, 2] rfl)⟩) ?_
  rintro nx9 ⟨xs6, t8⟩ a w ⟨hE, hm⟩ h
  refine nx_of hE hm h ?_
  clear hE hm h
  refine c_seq ?_
  refine c_region ?_
  refine o_lss st rfl rfl rfl ?_
  refine c_nil ?_
  refine l_then ?_
  refine c_seq ?_
  refine c_cond rfl ?_ ?_
  · refine c_skip ?_
    refine l_then ?_
    refine c_join (σ := (List Bool)) (fun (xs84 : (List Bool)) (a : Act) (w : World) => Has 34 [(3, (.pointer (some ⟨b4, 0, none⟩))), (9, v1), (10, (.int .i64 (rules_0.length : Int))), (11, (.int .i64 t8))] a ∧ Mem (gB F [] w0) (feet []) w0 [ownCh elBool 148 (.slice (some ⟨b4, 0, none⟩) 5 5) xs84, snapCh w0 F] w) ?_ ?_
    · intro k86
      refine c_block ?_
      refine c_seq ?_
      refine c_region ?_
      refine o_idx st 1 rfl (reads_snap hv1) rfl rfl rfl el101 ?_; intro e10 h11
      obtain ⟨_, ⟨v13, rfl, sl14⟩, rw12⟩ := sl_open hv1 h11
      refine o_ldR st (u := (.agg #[v13, (.int .i64 e10.xAction), (.int .i64 e10.xChain)])) 1 rfl rw12 rfl rfl ty104 rfl ?_
      refine stw (o_alloc rfl [(.slice none 0 0), (.int .i64 0), (.int .i64 0)] zero104 ?_); intro b16
      obtain ⟨a18, l19, q20, hs_⟩ := sl_val sl14; subst hs_
      refine stw (o_stc (cs' := [(.slice a18 l19 q20), (.int .i64 e10.xAction), (.int .i64 e10.xChain)]) 0 rfl rfl rfl ty104 rfl rfl rfl rfl ?_)
      refine c_nil ?_
      refine l_then ?_
      refine c_seq ?_
      refine c_region ?_
      refine o_fad st rfl rfl fld104_1 rfl ?_
      refine o_ldc st (v := (.int .i64 e10.xAction)) 0 rfl rfl rfl ty3 rfl ?_
      refine o_eql st und3 rfl rfl rfl ?_
      refine c_nil ?_
      refine l_then ?_
      refine c_cond rfl ?_ ?_
      · refine c_region ?_
        refine o_fad st rfl rfl fld104_2 rfl ?_
        refine o_ldc st (v := (.int .i64 e10.xChain)) 0 rfl rfl rfl ty3 rfl ?_
        refine o_ixa st 1 rfl reads_own rfl rfl rfl arr148 ?_; intro e21 h22
        refine stw (o_sts (enc := encBool) (y' := true) 1 rfl flelBool rfl h22 ty4 rfl rfl rfl rfl rfl rfl ?_)
        refine c_nil ?_
        refine b_norm ?_
        exact l_join (xs6.set (e10.xChain).toNat true) (fun a w hE hm => ⟨hE.sub ⟨rfl, rfl, rfl, rfl, trivial⟩, (hm.pick [1, 2] rfl)⟩)
      · refine c_skip ?_
        refine b_norm ?_
        exact l_join xs6 (fun a w hE hm => ⟨hE.sub ⟨rfl, rfl, rfl, rfl, trivial⟩, (hm.pick [1, 2] rfl)⟩)
    · rintro xs84 a w ⟨hE, hm⟩ h
      refine nx_of hE hm h ?_
      clear hE hm h
      refine c_region ?_
      refine o_add st rfl rfl rfl ?_; intro t87
      refine o_mv st rfl rfl ?_
      refine c_nil ?_
      exact l_join (xs84, t87) (fun a w hE hm => ⟨hE.sub ⟨rfl, rfl, rfl, rfl, trivial⟩, (hm.pick [0, 1] rfl)⟩)
  · refine c_exit ?_
    refine l_exit ?_
    refine l_exit ?_
    refine b_exit ?_
    refine l_then ?_
    refine c_seq ?_
    refine c_region ?_
    refine stw (o_asn elInt 3 rfl rfl ?_)
    refine c_nil ?_
    refine l_then ?_
    refine c_seq ?_
    refine c_seq ?_
    refine c_region ?_
    refine nx_unl5 1 rfl ?_; intro e89 e90 e91 e92 e93
    refine stw (o_ldA m_op (u := [(.bool e89), (.bool e90), (.bool e91), (.bool e92), (.bool e93)]) 1 rfl reads_own flelBool rfl rfl ty148 rfl rfl ?_)
    refine o_mv st rfl rfl ?_
    refine c_nil ?_
    refine l_then ?_
    refine c_block ?_
    refine c_loop (σ := ((List Int) × Int)) (fun ((xs96, t99) : ((List Int) × Int)) (a : Act) (w : World) => ∃ (v95 : Value), Has 34 [(6, v95), (22, (.agg #[(.bool e89), (.bool e90), (.bool e91), (.bool e92), (.bool e93)])), (23, (.int .i64 t99))] a ∧ Mem (gB F [] w0) (feet []) w0 [ownCh elInt 3 v95 xs96] w) (fun a w hE hm => ⟨(.slice none 0 0), hE.sub ⟨rfl, rfl, rfl, trivial⟩, (hm.pick [0] rfl)⟩) ?_
    rintro nx100 ⟨xs96, t99⟩ a w ⟨v95, hE, hm⟩ h
    refine nx_of hE hm h ?_
    clear hE hm h
    refine c_seq ?_
    refine c_region ?_
    refine o_lss st rfl rfl rfl ?_
    refine c_nil ?_
    refine l_then ?_
    refine c_seq ?_
    refine c_cond rfl ?_ ?_
    · refine c_skip ?_
      refine l_then ?_
      refine c_join (σ := (List Int)) (fun (xs166 : (List Int)) (a : Act) (w : World) => ∃ (v167 : Value), Has 34 [(6, v167), (22, (.agg #[(.bool e89), (.bool e90), (.bool e91), (.bool e92), (.bool e93)])), (23, (.int .i64 t99))] a ∧ Mem (gB F [] w0) (feet []) w0 [ownCh elInt 3 v167 xs166] w) ?_ ?_
      · intro k169
        refine c_block ?_
        refine c_seq ?_
        refine c_region ?_
        refine o_mv st rfl rfl ?_
        refine o_ixv st (enc := encBool) (zs := [e89, e90, e91, e92, e93]) (u := fun (e101 : Bool) => (.bool e101)) rfl rfl rfl arr148 rfl rfl (fun _ => rfl) (fun _ => rfl) ?_; intro e101
        refine o_as st rfl rfl ?_
        refine o_as st rfl rfl ?_
        refine c_nil ?_
        refine l_then ?_
        refine c_seq ?_
        refine c_region ?_
        refine o_mv st rfl rfl ?_
        refine c_nil ?_
        refine l_then ?_
        refine c_cond rfl ?_ ?_
        · refine c_region ?_
          refine o_mv st rfl rfl ?_
          refine o_mv st rfl rfl ?_
          refine stw (o_bsl (enc := encInt) (qs := [(0, (.int .i64 t99))]) (cells := [(.int .i64 t99)]) ([t99]) flelInt (by intro ρ h; simp only [List.map_toArray, List.map_cons, List.map_nil, h (.tmp 29) _ rfl]) rfl el99 zero3 rfl rfl rfl rfl rfl rfl ?_); intro v102
          refine stw (o_app 1 0 rfl rfl (src_flat flelInt reads_own) rfl rfl rfl el99 rfl zero3 rfl rfl ?_); intro v104
          refine o_as st rfl rfl ?_
          refine c_nil ?_
          refine b_norm ?_
          exact l_join (xs96 ++ ([t99])) (fun a w hE hm => ⟨v104, hE.sub ⟨rfl, rfl, rfl, trivial⟩, (hm.pick [1] rfl)⟩)
        · refine c_skip ?_
          refine b_norm ?_
          exact l_join xs96 (fun a w hE hm => ⟨v95, hE.sub ⟨rfl, rfl, rfl, trivial⟩, (hm.pick [0] rfl)⟩)
      · rintro xs166 a w ⟨v167, hE, hm⟩ h
        refine nx_of hE hm h ?_
        clear hE hm h
        refine c_region ?_
        refine o_add st rfl rfl rfl ?_; intro t170
        refine o_mv st rfl rfl ?_
        refine c_nil ?_
        exact l_join (xs166, t170) (fun a w hE hm => ⟨v167, hE.sub ⟨rfl, rfl, rfl, trivial⟩, (hm.pick [0] rfl)⟩)
    · refine c_exit ?_
      refine l_exit ?_
      refine l_exit ?_
      refine b_exit ?_
      refine l_then ?_
      refine c_seq ?_
      refine c_region ?_
      refine o_mv st rfl rfl ?_
      refine o_as st rfl rfl ?_
      refine c_nil ?_
      refine l_then ?_
      refine c_ret ?_
      exact l_end1 Tryd.results88 xs96 v95 (rv_t rfl) (fun w m => NewCh.ofB m [0] rfl)

set_option maxRecDepth 100000 in
set_option maxHeartbeats 8000000 in
theorem wr_impl_visitCalls : ∀ (n : Nat) {w0 : World} {F : Nat → Prop} {b3 : Nat} {v1 : Value} {chains_0 : (List (List GRule))} {chain_1 : Int} {colours_2 : (List Int)} {κ : (Bool × (List Int)) → Prop} (hF : ∀ b, F b → b < w0.heap.size ∧ ¬ feet [ownCh elInt 149 (.slice (some ⟨b3, 0, none⟩) 5 5) colours_2] b) (hg : Given [ownCh elInt 149 (.slice (some ⟨b3, 0, none⟩) 5 5) colours_2] F w0) (hv1 : Sl (elSl elGRule) F w0 v1 chains_0) (h : R_impl_visitCalls n chains_0 chain_1 colours_2 κ),
    Calls Tryd.prog 104 #[v1, (.int .i64 chain_1), (.pointer (some ⟨b3, 0, none⟩))] w0 (Ret [ownCh elInt 149 (.slice (some ⟨b3, 0, none⟩) 5 5) colours_2] F w0 κ (fun (r : (Bool × (List Int))) (u : Unit) => (.bool r.1)) (fun (r : (Bool × (List Int))) (u : Unit) => [ownCh elInt 149 (.slice (some ⟨b3, 0, none⟩) 5 5) r.2])) := by
  intro n
  induction n with
  | zero =>
    intro w0 F b3 v1 chains_0 chain_1 colours_2 κ hF hg hv1 h
    exact (h : False).elim
  | succ n ih =>
    intro w0 F b3 v1 chains_0 chain_1 colours_2 κ hF hg hv1 h
    replace h : B_impl_visitCalls (R_impl_visitCalls n) chains_0 chain_1 colours_2 κ := h
    revert h ih
    generalize R_impl_visitCalls n = rec
    intro ih h
    refine enterS (args := [v1, (.int .i64 chain_1), (.pointer (some ⟨b3, 0, none⟩))]) [ownCh elInt 149 (.slice (some ⟨b3, 0, none⟩) 5 5) colours_2] hF hg Tryd.func104 rfl Tryd.ntmps104 rfl h ?_
    clear h hF hg
    refine c_seq ?_
    refine c_region ?_
    refine o_as st rfl rfl ?_
    refine c_nil ?_
    refine l_then ?_
    refine c_seq ?_
    refine c_seq ?_
    refine c_region ?_
    refine o_mv st rfl rfl ?_
    refine o_mv st rfl rfl ?_
    refine o_len st el23 1 rfl (reads_snap hv1) rfl rfl ?_
    refine o_geq st rfl rfl rfl ?_
    refine c_nil ?_
    refine l_then ?_
    refine c_cond rfl ?_ ?_
    · refine c_seq ?_
      refine c_region ?_
      refine o_as st rfl rfl ?_
      refine c_nil ?_
      refine l_then ?_
      refine c_ret ?_
      refine l_ret ?_
      exact l_end1 Tryd.results104 (true, colours_2) () (rv_t rfl) (fun w m => NewCh.ofB m [0] rfl)
    · refine c_skip ?_
      refine l_then ?_
      refine c_seq ?_
      refine c_seq ?_
      refine c_region ?_
      refine o_mv st rfl rfl ?_
      refine o_mv st rfl rfl ?_
      refine o_nilc st rfl rfl ?_
      refine o_ixa st 0 rfl reads_own rfl rfl rfl arr149 ?_; intro e5 h6
      refine o_lds st (enc := encInt) (u := (.int .i64 e5)) 0 rfl reads_own flelInt rfl h6 rfl rfl ty3 rfl ?_
      refine c_nil ?_
      refine l_then ?_
      refine c_block ?_
      refine c_seq ?_
      refine c_region ?_
      refine o_eql st und3 rfl rfl rfl ?_
      refine o_as st rfl rfl ?_
      refine c_nil ?_
      refine l_then ?_
      refine c_cond rfl ?_ ?_
      · refine c_seq ?_
        refine c_region ?_
        refine o_as st rfl rfl ?_
        refine c_nil ?_
        refine l_then ?_
        refine c_ret ?_
        refine b_ret ?_
        refine l_ret ?_
        exact l_end1 Tryd.results104 (false, colours_2) () (rv_t rfl) (fun w m => NewCh.ofB m [0] rfl)
      · refine c_seq ?_
        refine c_region ?_
        refine o_eql st und3 rfl rfl rfl ?_
        refine o_as st rfl rfl ?_
        refine c_nil ?_
        refine l_then ?_
        refine c_cond rfl ?_ ?_
        · refine c_seq ?_
          refine c_region ?_
          refine o_as st rfl rfl ?_
          refine c_nil ?_
          refine l_then ?_
          refine c_ret ?_
          refine b_ret ?_
          refine l_ret ?_
          exact l_end1 Tryd.results104 (true, colours_2) () (rv_t rfl) (fun w m => NewCh.ofB m [0] rfl)
        · refine c_skip ?_
          refine b_norm ?_
          refine l_then ?_
          refine c_seq ?_
          refine c_region ?_
          refine o_mv st rfl rfl ?_
          refine o_mv st rfl rfl ?_
          refine o_nilc st rfl rfl ?_
          refine o_ixa st 0 rfl reads_own rfl rfl rfl arr149 ?_; intro e7 h8
          refine stw (o_sts (enc := encInt) (y' := 1) 0 rfl flelInt rfl h8 ty3 rfl rfl rfl rfl rfl rfl ?_)
          refine c_nil ?_
          refine l_then ?_
          refine c_seq ?_
          refine c_region ?_
          refine o_as st rfl rfl ?_
          refine c_nil ?_
          refine l_then ?_
          refine c_seq ?_
          refine c_seq ?_
          refine c_region ?_
          refine o_mv st rfl rfl ?_
          refine o_mv st rfl rfl ?_
          refine o_idx st 1 rfl (reads_snap hv1) rfl rfl rfl el23 ?_; intro e10 h11
          obtain ⟨_, ⟨v13, rfl, sl14⟩, rw12⟩ := sl_open hv1 h11
          refine o_ldR st (u := v13) 1 rfl rw12 rfl rfl ty101 rfl ?_
          refine stw (o_callP (vs := [v13]) Tryd.call88 rfl rfl (by intro w m h; exact (w_impl_callsIn (F := allB [] w) (rules_0 := e10) allB_ok (m.rd0 1 rfl (reads_snap sl14)) h).mono (fun _ _ k => ret_free (fun r u => (fr_cons (free_own flelInt) fr_nil)) k)) ?_); rintro r16 v17
          refine o_len st el99 0 rfl reads_own rfl rfl ?_
          refine o_mv st rfl rfl ?_
          refine c_nil ?_
          refine l_then ?_
          refine c_block ?_
          refine c_loop (σ := ((List Int) × Bool × Int)) (fun ((xs19, t21, t22) : ((List Int) × Bool × Int)) (a : Act) (w : World) => Has 48 [(0, v1), (1, (.int .i64 chain_1)), (2, (.pointer (some ⟨b3, 0, none⟩))), (7, (.bool t21)), (31, v17), (32, (.int .i64 (r16.length : Int))), (33, (.int .i64 t22))] a ∧ Mem (gB F [ownCh elInt 149 (.slice (some ⟨b3, 0, none⟩) 5 5) colours_2] w0) (feet [ownCh elInt 149 (.slice (some ⟨b3, 0, none⟩) 5 5) colours_2]) w0 [ownCh elInt 3 v17 r16, ownCh elInt 149 (.slice (some ⟨b3, 0, none⟩) 5 5) xs19, snapCh w0 F] w) (fun a w hE hm => ⟨hE.sub ⟨rfl, rfl, rfl, rfl, rfl, rfl, rfl, trivial⟩, (hm.pick [0, 1, 2] rfl)⟩) ?_
          rintro nx23 ⟨xs19, t21, t22⟩ a w ⟨hE, hm⟩ h
          refine nx_of hE hm h ?_
          clear hE hm h
          refine c_seq ?_
          refine c_region ?_
          refine o_lss st rfl rfl rfl ?_
          refine c_nil ?_
          refine l_then ?_
          refine c_seq ?_
          refine c_cond rfl ?_ ?_
          · refine c_skip ?_
            refine l_then ?_
            refine c_join (σ := ((List Int) × Bool)) (fun ((xs89, t91) : ((List Int) × Bool)) (a : Act) (w : World) => Has 48 [(0, v1), (1, (.int .i64 chain_1)), (2, (.pointer (some ⟨b3, 0, none⟩))), (7, (.bool t91)), (31, v17), (32, (.int .i64 (r16.length : Int))), (33, (.int .i64 t22))] a ∧ Mem (gB F [ownCh elInt 149 (.slice (some ⟨b3, 0, none⟩) 5 5) colours_2] w0) (feet [ownCh elInt 149 (.slice (some ⟨b3, 0, none⟩) 5 5) colours_2]) w0 [ownCh elInt 149 (.slice (some ⟨b3, 0, none⟩) 5 5) xs89, ownCh elInt 3 v17 r16, snapCh w0 F] w) ?_ ?_
            · intro k92
              refine c_block ?_
              refine c_seq ?_
              refine c_region ?_
              refine o_idx st 0 rfl reads_own rfl rfl rfl el99 ?_; intro e24 h25
              refine o_lds st (enc := encInt) (u := (.int .i64 e24)) 0 rfl reads_own flelInt rfl h25 rfl rfl ty3 rfl ?_
              refine o_as st rfl rfl ?_
              refine c_nil ?_
              refine l_then ?_
              refine c_seq ?_
              refine c_region ?_
              refine o_mv st rfl rfl ?_
              refine o_mv st rfl rfl ?_
              refine o_mv st rfl rfl ?_
              refine pk [1, 0, 2] rfl ?_
              refine stw (o_call (vs := [v1, (.int .i64 e24), (.pointer (some ⟨b3, 0, none⟩))]) (M0 := [ownCh elInt 149 (.slice (some ⟨b3, 0, none⟩) 5 5) xs19]) Tryd.call104 rfl rfl (by intro w m h; exact (ih (F := allB [ownCh elInt 149 (.slice (some ⟨b3, 0, none⟩) 5 5) xs19] w) (chains_0 := chains_0) (chain_1 := e24) (colours_2 := xs19) allB_ok m.given (m.rdM 1 rfl (reads_snap hv1)) h).mono (fun _ _ k => ret_free (fun r u => (fr_cons (free_own flelInt) fr_nil)) k)) ?_); rintro ⟨r26, r27⟩ _
              refine o_not st rfl rfl ?_
              refine c_nil ?_
              refine l_then ?_
              refine c_cond rfl ?_ ?_
              · refine c_region ?_
                refine o_as st rfl rfl ?_
                refine c_nil ?_
                refine b_norm ?_
                exact l_join (r27, false) (fun a w hE hm => ⟨hE.sub ⟨rfl, rfl, rfl, rfl, rfl, rfl, rfl, trivial⟩, (hm.pick [0, 1, 2] rfl)⟩)
              · refine c_skip ?_
                refine b_norm ?_
                exact l_join (r27, t21) (fun a w hE hm => ⟨hE.sub ⟨rfl, rfl, rfl, rfl, rfl, rfl, rfl, trivial⟩, (hm.pick [0, 1, 2] rfl)⟩)
            · rintro ⟨xs89, t91⟩ a w ⟨hE, hm⟩ h
              refine nx_of hE hm h ?_
              clear hE hm h
              refine c_region ?_
              refine o_add st rfl rfl rfl ?_; intro t93
              refine o_mv st rfl rfl ?_
              refine c_nil ?_
              exact l_join (xs89, t91, t93) (fun a w hE hm => ⟨hE.sub ⟨rfl, rfl, rfl, rfl, rfl, rfl, rfl, trivial⟩, (hm.pick [1, 0, 2] rfl)⟩)
          · refine c_exit ?_
            refine l_exit ?_
            refine l_exit ?_
            refine b_exit ?_
            refine l_then ?_
            refine c_seq ?_
            refine c_region ?_
            refine o_mv st rfl rfl ?_
            refine o_mv st rfl rfl ?_
            refine o_nilc st rfl rfl ?_
            refine o_ixa st 1 rfl reads_own rfl rfl rfl arr149 ?_; intro e94 h95
            refine stw (o_sts (enc := encInt) (y' := 2) 1 rfl flelInt rfl h95 ty3 rfl rfl rfl rfl rfl rfl ?_)
            refine c_nil ?_
            refine l_then ?_
            refine c_seq ?_
            refine c_region ?_
            refine o_mv st rfl rfl ?_
            refine o_as st rfl rfl ?_
            refine c_nil ?_
            refine l_then ?_
            refine c_ret ?_
            exact l_end1 Tryd.results104 (t21, (xs19.set (chain_1).toNat 2)) () (rv_t rfl) (fun w m => NewCh.ofB m [1] rfl)
theorem w_impl_visitCalls {w0 : World} {F : Nat → Prop} {b3 : Nat} {v1 : Value} {chains_0 : (List (List GRule))} {chain_1 : Int} {colours_2 : (List Int)} {κ : (Bool × (List Int)) → Prop} (hF : ∀ b, F b → b < w0.heap.size ∧ ¬ feet [ownCh elInt 149 (.slice (some ⟨b3, 0, none⟩) 5 5) colours_2] b) (hg : Given [ownCh elInt 149 (.slice (some ⟨b3, 0, none⟩) 5 5) colours_2] F w0) (hv1 : Sl (elSl elGRule) F w0 v1 chains_0) (h : L_impl_visitCalls chains_0 chain_1 colours_2 κ) :
    Calls Tryd.prog 104 #[v1, (.int .i64 chain_1), (.pointer (some ⟨b3, 0, none⟩))] w0 (Ret [ownCh elInt 149 (.slice (some ⟨b3, 0, none⟩) 5 5) colours_2] F w0 κ (fun (r : (Bool × (List Int))) (u : Unit) => (.bool r.1)) (fun (r : (Bool × (List Int))) (u : Unit) => [ownCh elInt 149 (.slice (some ⟨b3, 0, none⟩) 5 5) r.2])) := by
  obtain ⟨n, h⟩ := h
  exact wr_impl_visitCalls n hF hg hv1 h

set_option maxRecDepth 100000 in
set_option maxHeartbeats 8000000 in
theorem w_impl_acyclic {w0 : World} {F : Nat → Prop} {v1 : Value} {chains_0 : (List (List GRule))} {κ : Bool → Prop} (hF : ∀ b, F b → b < w0.heap.size ∧ ¬ feet [] b) (hv1 : Sl (elSl elGRule) F w0 v1 chains_0) (h : L_impl_acyclic chains_0 κ) :
    Calls Tryd.prog 89 #[v1] w0 (Ret [] F w0 κ (fun (r : Bool) (u : Unit) => (.bool r)) (fun (r : Bool) (u : Unit) => [])) := by
  refine enterS (args := [v1]) [] hF (Given.nil _ _) Tryd.func89 rfl Tryd.ntmps89 rfl h ?_
  clear h hF
  refine c_seq ?_
  refine c_region ?_
  refine o_as st rfl rfl ?_
  refine c_nil ?_
  refine l_then ?_
  refine c_seq ?_
  refine c_region ?_
  refine stw (o_allocA (El' := elInt) (z := (0 : Int)) (len := 5) (zs := [(.int .i64 0)]) (fun F w => (flelInt _ _ _ _).2 rfl) rfl zero149 rfl rfl ?_); intro b3
  refine c_nil ?_
  refine l_then ?_
  refine c_seq ?_
  refine c_seq ?_
  refine c_region ?_
  refine o_mv st rfl rfl ?_
  refine o_len st el23 1 rfl (reads_snap hv1) rfl rfl ?_
  refine o_mv st rfl rfl ?_
  refine c_nil ?_
  refine l_then ?_
  refine c_block ?_
  refine c_loop (σ := ((List Int) × Int)) (fun ((xs5, t7) : ((List Int) × Int)) (a : Act) (w : World) => Has 15 [(0, v1), (3, (.pointer (some ⟨b3, 0, none⟩))), (6, (.int .i64 (chains_0.length : Int))), (7, (.int .i64 t7))] a ∧ Mem (gB F [] w0) (feet []) w0 [ownCh elInt 149 (.slice (some ⟨b3, 0, none⟩) 5 5) xs5, snapCh w0 F] w) (fun a w hE hm => ⟨hE.sub ⟨rfl, rfl, rfl, rfl, trivial⟩, (hm.pick [0, 1] rfl)⟩) ?_
  rintro nx8 ⟨xs5, t7⟩ a w ⟨hE, hm⟩ h
  refine nx_of hE hm h ?_
  clear hE hm h
  refine c_seq ?_
  refine c_region ?_
  refine o_lss st rfl rfl rfl ?_
  refine c_nil ?_
  refine l_then ?_
  refine c_seq ?_
  refine c_cond rfl ?_ ?_
  · refine c_skip ?_
    refine l_then ?_
    refine c_seq ?_
    refine c_block ?_
    refine c_seq ?_
    refine c_region ?_
    refine o_mv st rfl rfl ?_
    refine o_as st rfl rfl ?_
    refine c_nil ?_
    refine l_then ?_
    refine c_seq ?_
    refine c_region ?_
    refine o_mv st rfl rfl ?_
    refine o_mv st rfl rfl ?_
    refine stw (o_call (vs := [v1, (.int .i64 t7), (.pointer (some ⟨b3, 0, none⟩))]) (M0 := [ownCh elInt 149 (.slice (some ⟨b3, 0, none⟩) 5 5) xs5]) Tryd.call104 rfl rfl (by intro w m h; exact (w_impl_visitCalls (F := allB [ownCh elInt 149 (.slice (some ⟨b3, 0, none⟩) 5 5) xs5] w) (chains_0 := chains_0) (chain_1 := t7) (colours_2 := xs5) allB_ok m.given (m.rdM 0 rfl (reads_snap hv1)) h).mono (fun _ _ k => ret_free (fun r u => (fr_cons (free_own flelInt) fr_nil)) k)) ?_); rintro ⟨r9, r10⟩ _
    refine o_not st rfl rfl ?_
    refine c_nil ?_
    refine l_then ?_
    refine c_cond rfl ?_ ?_
    · refine c_seq ?_
      refine c_region ?_
      refine o_as st rfl rfl ?_
      refine c_nil ?_
      refine l_then ?_
      refine c_ret ?_
      refine b_ret ?_
      refine l_ret ?_
      refine l_ret ?_
      refine b_ret ?_
      refine l_ret ?_
      exact l_end1 Tryd.results89 false () (rv_t rfl) (fun _ _ => NewCh.nil _ _ _ _)
    · refine c_skip ?_
      refine b_norm ?_
      refine l_then ?_
      refine c_region ?_
      refine o_add st rfl rfl rfl ?_; intro t12
      refine o_mv st rfl rfl ?_
      refine c_nil ?_
      exact l_join (r10, t12) (fun a w hE hm => ⟨hE.sub ⟨rfl, rfl, rfl, rfl, trivial⟩, (hm.pick [0, 1] rfl)⟩)
  · refine c_exit ?_
    refine l_exit ?_
    refine l_exit ?_
    refine b_exit ?_
    refine l_then ?_
    refine c_seq ?_
    refine c_region ?_
    refine o_as st rfl rfl ?_
    refine c_nil ?_
    refine l_then ?_
    refine c_ret ?_
    exact l_end1 Tryd.results89 true () (rv_t rfl) (fun _ _ => NewCh.nil _ _ _ _)

set_option maxRecDepth 100000 in
set_option maxHeartbeats 8000000 in
theorem w_impl_RulesetValid {w0 : World} {F : Nat → Prop} {v1 : Value} {s_0 : GRuleset} {κ : Bool → Prop} (hF : ∀ b, F b → b < w0.heap.size ∧ ¬ feet [] b) (hv1 : Sl (elSl elGRule) F w0 v1 s_0.xChains) (hgl0 : Sl elGFieldShape F w0 (.slice (some ⟨0, 0, none⟩) 4 4) gl_impl_fieldShapes) (h : L_impl_RulesetValid s_0 κ) :
    Calls Tryd.prog 52 #[(.agg #[v1, (.bool s_0.xAccept)])] w0 (Ret [] F w0 κ (fun (r : Bool) (u : Unit) => (.bool r)) (fun (r : Bool) (u : Unit) => [])) := by
  refine enterS (args := [(.agg #[v1, (.bool s_0.xAccept)])]) [] hF (Given.nil _ _) Tryd.func52 rfl Tryd.ntmps52 rfl h ?_
  clear h hF
  refine c_seq ?_
  refine c_region ?_
  obtain ⟨a3, l4, q5, hs_⟩ := sl_val hv1; subst hs_
  refine stw (o_box rfl rfl [(.slice a3 l4 q5), (.bool s_0.xAccept)] rfl ?_); intro b6
  refine o_as st rfl rfl ?_
  refine c_nil ?_
  refine l_then ?_
  refine c_seq ?_
  refine c_join (σ := Bool) (fun (t68 : Bool) (a : Act) (w : World) => Has 54 [(1, (.pointer (some ⟨b6, 0, none⟩))), (18, (.bool t68))] a ∧ Mem (gB F [] w0) (feet []) w0 [cellCh b6 [(.slice a3 l4 q5), (.bool s_0.xAccept)] 25, snapCh w0 F] w) ?_ ?_
  · intro k69
    refine c_region ?_
    refine o_fad st rfl rfl fld25_0 rfl ?_
    refine o_ldc st (v := (.slice a3 l4 q5)) 0 rfl rfl rfl ty23 rfl ?_
    refine o_len st el23 1 rfl (reads_snap hv1) rfl rfl ?_
    refine o_lss st rfl rfl rfl ?_
    refine o_mv st rfl rfl ?_
    refine st_sp (dj := 13) rfl ?_ ?_
    · refine st_s rfl rfl rfl rfl ?_
      refine st_s rfl rfl rfl rfl ?_
      refine st_s rfl rfl rfl rfl ?_
      refine st_s rfl rfl rfl rfl ?_
      refine o_pickT st rfl rfl rfl ?_
      refine c_nil ?_
      exact l_join true (fun a w hE hm => ⟨hE.sub ⟨rfl, rfl, trivial⟩, (hm.pick [0, 1] rfl)⟩)
    · refine o_fad (st_g rfl rfl) rfl rfl fld25_0 rfl ?_
      refine o_ldc (st_g rfl rfl) (v := (.slice a3 l4 q5)) 0 rfl rfl rfl ty23 rfl ?_
      refine o_len (st_g rfl rfl) el23 1 rfl (reads_snap hv1) rfl rfl ?_
      refine o_gtr (st_g rfl rfl) rfl rfl rfl ?_
      refine o_pickF st rfl rfl rfl ?_
      refine c_nil ?_
      exact l_join (decide (5 < (s_0.xChains.length : Int))) (fun a w hE hm => ⟨hE.sub ⟨rfl, rfl, trivial⟩, (hm.pick [0, 1] rfl)⟩)
  · rintro t68 a w ⟨hE, hm⟩ h
    refine nx_of hE hm h ?_
    clear hE hm h
    refine c_cond rfl ?_ ?_
    · refine c_seq ?_
      refine c_region ?_
      refine o_as st rfl rfl ?_
      refine c_nil ?_
      refine l_then ?_
      refine c_ret ?_
      refine l_ret ?_
      exact l_end1 Tryd.results52 false () (rv_t rfl) (fun _ _ => NewCh.nil _ _ _ _)
    · refine c_skip ?_
      refine l_then ?_
      refine c_seq ?_
      refine c_seq ?_
      refine c_region ?_
      refine o_fad st rfl rfl fld25_0 rfl ?_
      refine o_ldc st (v := (.slice a3 l4 q5)) 0 rfl rfl rfl ty23 rfl ?_
      refine o_len st el23 1 rfl (reads_snap hv1) rfl rfl ?_
      refine o_mv st rfl rfl ?_
      refine c_nil ?_
      refine l_then ?_
      refine c_block ?_
      refine c_loop (σ := Int) (fun (t70 : Int) (a : Act) (w : World) => Has 54 [(1, (.pointer (some ⟨b6, 0, none⟩))), (20, (.slice a3 l4 q5)), (21, (.int .i64 (s_0.xChains.length : Int))), (22, (.int .i64 t70))] a ∧ Mem (gB F [] w0) (feet []) w0 [cellCh b6 [(.slice a3 l4 q5), (.bool s_0.xAccept)] 25, snapCh w0 F] w) (fun a w hE hm => ⟨hE.sub ⟨rfl, rfl, rfl, rfl, trivial⟩, (hm.pick [0, 1] rfl)⟩) ?_
      rintro nx71 t70 a w ⟨hE, hm⟩ h
      refine nx_of hE hm h ?_
      clear hE hm h
      refine c_seq ?_
      refine c_region ?_
      refine o_lss st rfl rfl rfl ?_
      refine c_nil ?_
      refine l_then ?_
      refine c_seq ?_
      refine c_cond rfl ?_ ?_
      · refine c_skip ?_
        refine l_then ?_
        refine c_seq ?_
        refine c_block ?_
        refine c_seq ?_
        refine c_region ?_
        refine o_idx st 1 rfl (reads_snap hv1) rfl rfl rfl el23 ?_; intro e72 h73
        obtain ⟨_, ⟨v75, rfl, sl76⟩, rw74⟩ := sl_open hv1 h73
        refine o_ldR st (u := v75) 1 rfl rw74 rfl rfl ty101 rfl ?_
        refine o_as st rfl rfl ?_
        refine c_nil ?_
        refine l_then ?_
        refine c_seq ?_
        refine c_region ?_
        refine o_mv st rfl rfl ?_
        refine stw (o_callP (vs := [v75]) Tryd.call87 rfl rfl (by intro w m h; exact (w_impl_RulesValid (F := allB [] w) (list_0 := e72) allB_ok (m.rd0 1 rfl (reads_snap sl76)) (m.rd0 1 rfl (reads_snap hgl0)) h).mono (fun _ _ k => ret_free (fun r u => fr_nil) k)) ?_); rintro r78 _
        refine o_not st rfl rfl ?_
        refine c_nil ?_
        refine l_then ?_
        refine c_cond rfl ?_ ?_
        · refine c_seq ?_
          refine c_region ?_
          refine o_as st rfl rfl ?_
          refine c_nil ?_
          refine l_then ?_
          refine c_ret ?_
          refine b_ret ?_
          refine l_ret ?_
          refine l_ret ?_
          refine b_ret ?_
          refine l_ret ?_
          exact l_end1 Tryd.results52 false () (rv_t rfl) (fun _ _ => NewCh.nil _ _ _ _)
        · refine c_skip ?_
          refine b_norm ?_
          refine l_then ?_
          refine c_region ?_
          refine o_add st rfl rfl rfl ?_; intro t79
          refine o_mv st rfl rfl ?_
          refine c_nil ?_
          exact l_join t79 (fun a w hE hm => ⟨hE.sub ⟨rfl, rfl, rfl, rfl, trivial⟩, (hm.pick [0, 1] rfl)⟩)
      · refine c_exit ?_
        refine l_exit ?_
        refine l_exit ?_
        refine b_exit ?_
        refine l_then ?_
        refine c_seq ?_
        refine c_seq ?_
        refine c_region ?_
        refine o_fad st rfl rfl fld25_0 rfl ?_
        refine o_ldc st (v := (.slice a3 l4 q5)) 0 rfl rfl rfl ty23 rfl ?_
        refine o_len st el23 1 rfl (reads_snap hv1) rfl rfl ?_
        refine o_mv st rfl rfl ?_
        refine c_nil ?_
        refine l_then ?_
        refine c_block ?_
        refine c_loop (σ := Int) (fun (t80 : Int) (a : Act) (w : World) => Has 54 [(1, (.pointer (some ⟨b6, 0, none⟩))), (31, (.slice a3 l4 q5)), (32, (.int .i64 (s_0.xChains.length : Int))), (33, (.int .i64 t80))] a ∧ Mem (gB F [] w0) (feet []) w0 [cellCh b6 [(.slice a3 l4 q5), (.bool s_0.xAccept)] 25, snapCh w0 F] w) (fun a w hE hm => ⟨hE.sub ⟨rfl, rfl, rfl, rfl, trivial⟩, (hm.pick [0, 1] rfl)⟩) ?_
        rintro nx81 t80 a w ⟨hE, hm⟩ h
        refine nx_of hE hm h ?_
        clear hE hm h
        refine c_seq ?_
        refine c_region ?_
        refine o_lss st rfl rfl rfl ?_
        refine c_nil ?_
        refine l_then ?_
        refine c_seq ?_
        refine c_cond rfl ?_ ?_
        · refine c_skip ?_
          refine l_then ?_
          refine c_seq ?_
          refine c_block ?_
          refine c_seq ?_
          refine c_region ?_
          refine o_idx st 1 rfl (reads_snap hv1) rfl rfl rfl el23 ?_; intro e82 h83
          obtain ⟨_, ⟨v85, rfl, sl86⟩, rw84⟩ := sl_open hv1 h83
          refine o_ldR st (u := v85) 1 rfl rw84 rfl rfl ty101 rfl ?_
          refine o_as st rfl rfl ?_
          refine c_nil ?_
          refine l_then ?_
          refine c_seq ?_
          refine c_region ?_
          refine o_mv st rfl rfl ?_
          refine stw (o_callP (vs := [v85]) Tryd.call88 rfl rfl (by intro w m h; exact (w_impl_callsIn (F := allB [] w) (rules_0 := e82) allB_ok (m.rd0 1 rfl (reads_snap sl86)) h).mono (fun _ _ k => ret_free (fun r u => (fr_cons (free_own flelInt) fr_nil)) k)) ?_); rintro r88 v89
          refine o_len st el99 0 rfl reads_own rfl rfl ?_
          refine o_mv st rfl rfl ?_
          refine c_nil ?_
          refine l_then ?_
          refine c_block ?_
          refine c_loop (σ := Int) (fun (t91 : Int) (a : Act) (w : World) => Has 54 [(1, (.pointer (some ⟨b6, 0, none⟩))), (31, (.slice a3 l4 q5)), (32, (.int .i64 (s_0.xChains.length : Int))), (33, (.int .i64 t80)), (38, v89), (39, (.int .i64 (r88.length : Int))), (40, (.int .i64 t91))] a ∧ Mem (gB F [] w0) (feet []) w0 [ownCh elInt 3 v89 r88, cellCh b6 [(.slice a3 l4 q5), (.bool s_0.xAccept)] 25, snapCh w0 F] w) (fun a w hE hm => ⟨hE.sub ⟨rfl, rfl, rfl, rfl, rfl, rfl, rfl, trivial⟩, (hm.pick [0, 1, 2] rfl)⟩) ?_
          rintro nx92 t91 a w ⟨hE, hm⟩ h
          refine nx_of hE hm h ?_
          clear hE hm h
          refine c_seq ?_
          refine c_region ?_
          refine o_lss st rfl rfl rfl ?_
          refine c_nil ?_
          refine l_then ?_
          refine c_seq ?_
          refine c_cond rfl ?_ ?_
          · refine c_skip ?_
            refine l_then ?_
            refine c_seq ?_
            refine c_block ?_
            refine c_seq ?_
            refine c_region ?_
            refine o_idx st 0 rfl reads_own rfl rfl rfl el99 ?_; intro e93 h94
            refine o_lds st (enc := encInt) (u := (.int .i64 e93)) 0 rfl reads_own flelInt rfl h94 rfl rfl ty3 rfl ?_
            refine o_as st rfl rfl ?_
            refine c_nil ?_
            refine l_then ?_
            refine c_seq ?_
            refine c_region ?_
            refine o_mv st rfl rfl ?_
            refine o_fad st rfl rfl fld25_0 rfl ?_
            refine o_ldc st (v := (.slice a3 l4 q5)) 1 rfl rfl rfl ty23 rfl ?_
            refine o_len st el23 2 rfl (reads_snap hv1) rfl rfl ?_
            refine o_geq st rfl rfl rfl ?_
            refine c_nil ?_
            refine l_then ?_
            refine c_cond rfl ?_ ?_
            · refine c_seq ?_
              refine c_region ?_
              refine o_as st rfl rfl ?_
              refine c_nil ?_
              refine l_then ?_
              refine c_ret ?_
              refine b_ret ?_
              refine l_ret ?_
              refine l_ret ?_
              refine b_ret ?_
              refine b_ret ?_
              refine l_ret ?_
              refine l_ret ?_
              refine b_ret ?_
              refine l_ret ?_
              exact l_end1 Tryd.results52 false () (rv_t rfl) (fun _ _ => NewCh.nil _ _ _ _)
            · refine c_skip ?_
              refine b_norm ?_
              refine l_then ?_
              refine c_region ?_
              refine o_add st rfl rfl rfl ?_; intro t95
              refine o_mv st rfl rfl ?_
              refine c_nil ?_
              exact l_join t95 (fun a w hE hm => ⟨hE.sub ⟨rfl, rfl, rfl, rfl, rfl, rfl, rfl, trivial⟩, (hm.pick [0, 1, 2] rfl)⟩)
          · refine c_exit ?_
            refine l_exit ?_
            refine l_exit ?_
            refine b_exit ?_
            refine b_norm ?_
            refine l_then ?_
            refine c_region ?_
            refine o_add st rfl rfl rfl ?_; intro t96
            refine o_mv st rfl rfl ?_
            refine c_nil ?_
            exact l_join t96 (fun a w hE hm => ⟨hE.sub ⟨rfl, rfl, rfl, rfl, trivial⟩, (hm.pick [1, 2] rfl)⟩)
        · refine c_exit ?_
          refine l_exit ?_
          refine l_exit ?_
          refine b_exit ?_
          refine l_then ?_
          refine c_seq ?_
          refine c_region ?_
          refine o_fad st rfl rfl fld25_0 rfl ?_
          refine o_ldc st (v := (.slice a3 l4 q5)) 0 rfl rfl rfl ty23 rfl ?_
          refine stw (o_callP (vs := [(.slice a3 l4 q5)]) Tryd.call89 rfl rfl (by intro w m h; exact (w_impl_acyclic (F := allB [] w) (chains_0 := s_0.xChains) allB_ok (m.rd0 1 rfl (reads_snap hv1)) h).mono (fun _ _ k => ret_free (fun r u => fr_nil) k)) ?_); rintro r97 _
          refine o_as st rfl rfl ?_
          refine c_nil ?_
          refine l_then ?_
          refine c_ret ?_
          exact l_end1 Tryd.results52 r97 () (rv_t rfl) (fun _ _ => NewCh.nil _ _ _ _)

set_option maxRecDepth 100000 in
set_option maxHeartbeats 8000000 in
theorem w_impl_Packet_fields {w0 : World} {F : Nat → Prop} {p_0 : GPacket} {κ : A4Int → Prop} (hF : ∀ b, F b → b < w0.heap.size ∧ ¬ feet [] b) (h : L_impl_Packet_fields p_0 κ) :
    Calls Tryd.prog 94 #[(.agg #[(.int .i64 p_0.xFrom), (.int .i64 p_0.xTo), (.int .i64 p_0.xPort), (.int .i64 p_0.xProto)])] w0 (Ret [] F w0 κ (fun (r : A4Int) (u : Unit) => (.agg #[(.int .i64 r.x0), (.int .i64 r.x1), (.int .i64 r.x2), (.int .i64 r.x3)])) (fun (r : A4Int) (u : Unit) => [])) := by
  refine enter0 (args := [(.agg #[(.int .i64 p_0.xFrom), (.int .i64 p_0.xTo), (.int .i64 p_0.xPort), (.int .i64 p_0.xProto)])]) [] hF (Given.nil _ _) Tryd.func94 rfl Tryd.ntmps94 rfl h ?_
  clear h hF
  refine c_seq ?_
  refine c_region ?_
  refine stw (o_box rfl rfl [(.int .i64 p_0.xFrom), (.int .i64 p_0.xTo), (.int .i64 p_0.xPort), (.int .i64 p_0.xProto)] rfl ?_); intro b1
  refine stw (o_allocA (El' := elInt) (z := (0 : Int)) (len := 4) (zs := [(.int .i64 0)]) (fun F w => (flelInt _ _ _ _).2 rfl) rfl zero138 rfl rfl ?_); intro b3
  refine c_nil ?_
  refine l_then ?_
  refine c_seq ?_
  refine c_region ?_
  refine o_fad st rfl rfl fld40_0 rfl ?_
  refine o_ldc st (v := (.int .i64 p_0.xFrom)) 1 rfl rfl rfl ty3 rfl ?_
  refine o_fad st rfl rfl fld40_1 rfl ?_
  refine o_ldc st (v := (.int .i64 p_0.xTo)) 1 rfl rfl rfl ty3 rfl ?_
  refine o_fad st rfl rfl fld40_2 rfl ?_
  refine o_ldc st (v := (.int .i64 p_0.xPort)) 1 rfl rfl rfl ty3 rfl ?_
  refine o_fad st rfl rfl fld40_3 rfl ?_
  refine o_ldc st (v := (.int .i64 p_0.xProto)) 1 rfl rfl rfl ty3 rfl ?_
  refine o_bldA st (qs := [(0, (.int .i64 p_0.xFrom)), (1, (.int .i64 p_0.xTo)), (2, (.int .i64 p_0.xPort)), (3, (.int .i64 p_0.xProto))]) (cells := [(.int .i64 p_0.xFrom), (.int .i64 p_0.xTo), (.int .i64 p_0.xPort), (.int .i64 p_0.xProto)]) (by intro ρ h; simp only [List.map_toArray, List.map_cons, List.map_nil, h (.tmp 4) _ rfl, h (.tmp 6) _ rfl, h (.tmp 8) _ rfl, h (.tmp 10) _ rfl]) rfl bld138 rfl ?_
  refine stw (o_stA (El' := elInt) (len := 4) 0 rfl ([p_0.xFrom, p_0.xTo, p_0.xPort, p_0.xProto]) ([[(.int .i64 p_0.xFrom)], [(.int .i64 p_0.xTo)], [(.int .i64 p_0.xPort)], [(.int .i64 p_0.xProto)]]) (fun w m => ⟨(flelInt _ _ _ _).2 rfl, (flelInt _ _ _ _).2 rfl, (flelInt _ _ _ _).2 rfl, (flelInt _ _ _ _).2 rfl, trivial⟩) rfl rfl rfl rfl rfl rfl ty138 rfl rfl ?_)
  refine c_nil ?_
  refine l_then ?_
  refine c_ret ?_
  refine nx_unarr 0 rfl rfl rfl (by decide) ?_
  rintro wr6 ff7 _ hrows_; obtain ⟨rfl⟩ := rows_f4 flelInt hrows_
  exact l_end1 Tryd.results94 (A4Int.mk p_0.xFrom p_0.xTo p_0.xPort p_0.xProto) () (rv_c 1 rfl rfl ty138 rfl) (fun _ _ => NewCh.nil _ _ _ _)

set_option maxRecDepth 100000 in
set_option maxHeartbeats 8000000 in
theorem w_impl_PacketValid {w0 : World} {F : Nat → Prop} {p_0 : GPacket} {κ : Bool → Prop} (hF : ∀ b, F b → b < w0.heap.size ∧ ¬ feet [] b) (hgl0 : Sl elGFieldShape F w0 (.slice (some ⟨0, 0, none⟩) 4 4) gl_impl_fieldShapes) (h : L_impl_PacketValid p_0 κ) :
    Calls Tryd.prog 61 #[(.agg #[(.int .i64 p_0.xFrom), (.int .i64 p_0.xTo), (.int .i64 p_0.xPort), (.int .i64 p_0.xProto)])] w0 (Ret [] F w0 κ (fun (r : Bool) (u : Unit) => (.bool r)) (fun (r : Bool) (u : Unit) => [])) := by
  refine enterS (args := [(.agg #[(.int .i64 p_0.xFrom), (.int .i64 p_0.xTo), (.int .i64 p_0.xPort), (.int .i64 p_0.xProto)])]) [] hF (Given.nil _ _) Tryd.func61 rfl Tryd.ntmps61 rfl h ?_
  clear h hF
  refine c_seq ?_
  refine c_region ?_
  refine stw (o_box rfl rfl [(.int .i64 p_0.xFrom), (.int .i64 p_0.xTo), (.int .i64 p_0.xPort), (.int .i64 p_0.xProto)] rfl ?_); intro b1
  refine o_as st rfl rfl ?_
  refine c_nil ?_
  refine l_then ?_
  refine c_seq ?_
  refine c_seq ?_
  refine c_region ?_
  refine o_ldc st (v := (.agg #[(.int .i64 p_0.xFrom), (.int .i64 p_0.xTo), (.int .i64 p_0.xPort), (.int .i64 p_0.xProto)])) 0 rfl rfl rfl ty40 rfl ?_
  refine stw (o_callP (vs := [(.agg #[(.int .i64 p_0.xFrom), (.int .i64 p_0.xTo), (.int .i64 p_0.xPort), (.int .i64 p_0.xProto)])]) Tryd.call94 rfl rfl (by intro w m h; exact (w_impl_Packet_fields (F := allB [] w) (p_0 := p_0) allB_ok h).mono (fun _ _ k => ret_free (fun r u => fr_nil) k)) ?_); rintro r3 _
  refine o_mv st rfl rfl ?_
  refine c_nil ?_
  refine l_then ?_
  refine c_block ?_
  refine c_loop (σ := Int) (fun (t4 : Int) (a : Act) (w : World) => Has 20 [(6, (.agg #[(.int .i64 r3.x0), (.int .i64 r3.x1), (.int .i64 r3.x2), (.int .i64 r3.x3)])), (7, (.int .i64 t4))] a ∧ Mem (gB F [] w0) (feet []) w0 [snapCh w0 F] w) (fun a w hE hm => ⟨hE.sub ⟨rfl, rfl, trivial⟩, (hm.pick [1] rfl)⟩) ?_
  rintro nx5 t4 a w ⟨hE, hm⟩ h
  refine nx_of hE hm h ?_
  clear hE hm h
  refine c_seq ?_
  refine c_region ?_
  refine o_lss st rfl rfl rfl ?_
  refine c_nil ?_
  refine l_then ?_
  refine c_seq ?_
  refine c_cond rfl ?_ ?_
  · refine c_skip ?_
    refine l_then ?_
    refine c_seq ?_
    refine c_block ?_
    refine c_seq ?_
    refine c_region ?_
    refine o_mv st rfl rfl ?_
    refine o_ixv st (enc := encInt) (zs := [r3.x0, r3.x1, r3.x2, r3.x3]) (u := fun (e6 : Int) => (.int .i64 e6)) rfl rfl rfl arr138 rfl rfl (fun _ => rfl) (fun _ => rfl) ?_; intro e6
    refine o_as st rfl rfl ?_
    refine o_as st rfl rfl ?_
    refine c_nil ?_
    refine l_then ?_
    refine c_join (σ := Bool) (fun (t68 : Bool) (a : Act) (w : World) => Has 20 [(6, (.agg #[(.int .i64 r3.x0), (.int .i64 r3.x1), (.int .i64 r3.x2), (.int .i64 r3.x3)])), (7, (.int .i64 t4)), (18, (.bool t68))] a ∧ Mem (gB F [] w0) (feet []) w0 [snapCh w0 F] w) ?_ ?_
    · intro k69
      refine c_region ?_
      refine o_mv st rfl rfl ?_
      refine o_lss st rfl rfl rfl ?_
      refine o_mv st rfl rfl ?_
      refine st_sp (dj := 13) rfl ?_ ?_
      · refine st_s rfl rfl rfl rfl ?_
        refine st_s rfl rfl rfl rfl ?_
        refine st_s rfl rfl rfl rfl ?_
        refine st_s rfl rfl rfl rfl ?_
        refine o_pickT st rfl rfl rfl ?_
        refine c_nil ?_
        exact l_join true (fun a w hE hm => ⟨hE.sub ⟨rfl, rfl, rfl, trivial⟩, (hm.pick [0] rfl)⟩)
      · refine o_mv (st_g rfl rfl) rfl rfl ?_
        refine o_mv (st_g rfl rfl) rfl rfl ?_
        refine st_gw rfl rfl (o_callP (vs := [(.int .i64 t4)]) Tryd.call95 rfl rfl (by intro w m h; exact (w_impl_FieldTop (F := allB [] w) (n_0 := t4) allB_ok (m.rd0 0 rfl (reads_snap hgl0)) h).mono (fun _ _ k => ret_free (fun r u => fr_nil) k)) ?_); rintro r7 _
        refine o_gtr (st_g rfl rfl) rfl rfl rfl ?_
        refine o_pickF st rfl rfl rfl ?_
        refine c_nil ?_
        exact l_join (decide (r7 < e6)) (fun a w hE hm => ⟨hE.sub ⟨rfl, rfl, rfl, trivial⟩, (hm.pick [0] rfl)⟩)
    · rintro t68 a w ⟨hE, hm⟩ h
      refine nx_of hE hm h ?_
      clear hE hm h
      refine c_cond rfl ?_ ?_
      · refine c_seq ?_
        refine c_region ?_
        refine o_as st rfl rfl ?_
        refine c_nil ?_
        refine l_then ?_
        refine c_ret ?_
        refine b_ret ?_
        refine l_ret ?_
        refine l_ret ?_
        refine b_ret ?_
        refine l_ret ?_
        exact l_end1 Tryd.results61 false () (rv_t rfl) (fun _ _ => NewCh.nil _ _ _ _)
      · refine c_skip ?_
        refine b_norm ?_
        refine l_then ?_
        refine c_region ?_
        refine o_add st rfl rfl rfl ?_; intro t70
        refine o_mv st rfl rfl ?_
        refine c_nil ?_
        exact l_join t70 (fun a w hE hm => ⟨hE.sub ⟨rfl, rfl, trivial⟩, (hm.pick [0] rfl)⟩)
  · refine c_exit ?_
    refine l_exit ?_
    refine l_exit ?_
    refine b_exit ?_
    refine l_then ?_
    refine c_seq ?_
    refine c_region ?_
    refine o_as st rfl rfl ?_
    refine c_nil ?_
    refine l_then ?_
    refine c_ret ?_
    exact l_end1 Tryd.results61 true () (rv_t rfl) (fun _ _ => NewCh.nil _ _ _ _)

set_option maxRecDepth 100000 in
set_option maxHeartbeats 8000000 in
theorem w_impl_walk_leave {w0 : World} {F : Nat → Prop} {b1 : Nat} {v2 : Value} {v4 : Value} {w_0_stack : (List GPlace)} {w_0_visits : (List GVisit)} {w_0_decision : Int} {κ : (List GPlace) → Prop} (hF : ∀ b, F b → b < w0.heap.size ∧ ¬ feet [cellCh b1 [v2, v4, (.int .i64 w_0_decision)] 130, ownCh elGPlace 153 v2 w_0_stack, ownCh elGVisit 157 v4 w_0_visits] b) (hg : Given [cellCh b1 [v2, v4, (.int .i64 w_0_decision)] 130, ownCh elGPlace 153 v2 w_0_stack, ownCh elGVisit 157 v4 w_0_visits] F w0) (h : L_impl_walk_leave w_0_stack w_0_visits w_0_decision κ) :
    Calls Tryd.prog 105 #[(.pointer (some ⟨b1, 0, none⟩))] w0 (Ret [cellCh b1 [v2, v4, (.int .i64 w_0_decision)] 130, ownCh elGPlace 153 v2 w_0_stack, ownCh elGVisit 157 v4 w_0_visits] F w0 κ (fun (r : (List GPlace)) (u : Value) => .tuple #[]) (fun (r : (List GPlace)) (u : Value) => [cellCh b1 [u, v4, (.int .i64 w_0_decision)] 130, ownCh elGPlace 153 u r, ownCh elGVisit 157 v4 w_0_visits])) := by
  refine enter0 (args := [(.pointer (some ⟨b1, 0, none⟩))]) [cellCh b1 [v2, v4, (.int .i64 w_0_decision)] 130, ownCh elGPlace 153 v2 w_0_stack, ownCh elGVisit 157 v4 w_0_visits] hF hg Tryd.func105 rfl Tryd.ntmps105 rfl h ?_
  clear h hF hg
  refine c_join1 (σ := (List GPlace)) (fun (xs7 : (List GPlace)) (a : Act) (w : World) => ∃ (v8 : Value), Has 16 [] a ∧ Mem (gB F [cellCh b1 [v2, v4, (.int .i64 w_0_decision)] 130, ownCh elGPlace 153 v2 w_0_stack, ownCh elGVisit 157 v4 w_0_visits] w0) (feet [cellCh b1 [v2, v4, (.int .i64 w_0_decision)] 130, ownCh elGPlace 153 v2 w_0_stack, ownCh elGVisit 157 v4 w_0_visits]) w0 [cellCh b1 [v8, v4, (.int .i64 w_0_decision)] 130, ownCh elGPlace 153 v8 xs7, ownCh elGVisit 157 v4 w_0_visits] w) ?_ ?_
  · intro k10
    refine c_drawQ mixed 15 rfl [ownCh elGVisit 157 v4 w_0_visits] ?_
    intro Qd hP hQ
    have H485 : ∀ (a14 : Option Addr) (l15 : Nat) (q16 : Nat) (xs12 : (List GPlace)), Nx 16 (gB F [cellCh b1 [v2, v4, (.int .i64 w_0_decision)] 130, ownCh elGPlace 153 v2 w_0_stack, ownCh elGVisit 157 v4 w_0_visits] w0) (feet [cellCh b1 [v2, v4, (.int .i64 w_0_decision)] 130, ownCh elGPlace 153 v2 w_0_stack, ownCh elGVisit 157 v4 w_0_visits]) w0 (wpAnyH Tryd.prog .any (opsAt Tryd.f105 []) Qd (Mem (gB F [cellCh b1 [v2, v4, (.int .i64 w_0_decision)] 130, ownCh elGPlace 153 v2 w_0_stack, ownCh elGVisit 157 v4 w_0_visits] w0) (feet [cellCh b1 [v2, v4, (.int .i64 w_0_decision)] 130, ownCh elGPlace 153 v2 w_0_stack, ownCh elGVisit 157 v4 w_0_visits]) w0 [ownCh elGVisit 157 v4 w_0_visits]) 0 #[true, true, true, true, true, true, true, true, true, true, true, true, true, true, true]) [] [cellCh b1 [(.slice a14 l15 q16), v4, (.int .i64 w_0_decision)] 130, ownCh elGPlace 153 (.slice a14 l15 q16) xs12, ownCh elGVisit 157 v4 w_0_visits] (k10 xs12) := by
      intro a14 l15 q16 xs12
      refine d_done (by kernel_rfl) ?_
      exact fun a w hE hm hφ => hQ xs12 a w hφ ((fun a w hE hm => ⟨(.slice a14 l15 q16), hE.sub trivial, (hm.pick [0, 1, 2] rfl)⟩) a w hE hm)
    have H486 : ∀ (v11 : Value) (xs12 : (List GPlace)), Nx 16 (gB F [cellCh b1 [v2, v4, (.int .i64 w_0_decision)] 130, ownCh elGPlace 153 v2 w_0_stack, ownCh elGVisit 157 v4 w_0_visits] w0) (feet [cellCh b1 [v2, v4, (.int .i64 w_0_decision)] 130, ownCh elGPlace 153 v2 w_0_stack, ownCh elGVisit 157 v4 w_0_visits]) w0 (wpAnyH Tryd.prog .any (opsAt Tryd.f105 []) Qd (Mem (gB F [cellCh b1 [v2, v4, (.int .i64 w_0_decision)] 130, ownCh elGPlace 153 v2 w_0_stack, ownCh elGVisit 157 v4 w_0_visits] w0) (feet [cellCh b1 [v2, v4, (.int .i64 w_0_decision)] 130, ownCh elGPlace 153 v2 w_0_stack, ownCh elGVisit 157 v4 w_0_visits]) w0 [ownCh elGVisit 157 v4 w_0_visits]) 3 #[true, true, true, true, true, true, true, true, true, true, true, true, false, false, false]) [(2, (.pointer (some ⟨b1, 0, none⟩))), (13, v11)] [cellCh b1 [v2, v4, (.int .i64 w_0_decision)] 130, ownCh elGPlace 153 v11 xs12, ownCh elGVisit 157 v4 w_0_visits] (k10 xs12) := by
      intro v11 xs12
      refine o_nilc (dt 12 (fun w m => m.pick [2] rfl)) rfl rfl ?_
      refine o_fad (dt 13 (fun w m => m.pick [2] rfl)) rfl rfl fld130_0 rfl ?_
      refine nx_own 1 rfl ?_; rintro a14 l15 q16 rfl
      refine d_one (i := 14) rfl (by kernel_rfl) (o_stc (cs' := [(.slice a14 l15 q16), v4, (.int .i64 w_0_decision)]) 0 rfl rfl rfl ty127 rfl rfl rfl rfl ?_)
      refine d_and (fun w m => m.pick [2] rfl) ?_
      refine pk [0, 1, 2] rfl ?_
      refine re (E' := []) trivial ?_
      exact H485 a14 l15 q16 xs12
    have H487 : ∀ (_ : Unit), Nx 16 (gB F [cellCh b1 [v2, v4, (.int .i64 w_0_decision)] 130, ownCh elGPlace 153 v2 w_0_stack, ownCh elGVisit 157 v4 w_0_visits] w0) (feet [cellCh b1 [v2, v4, (.int .i64 w_0_decision)] 130, ownCh elGPlace 153 v2 w_0_stack, ownCh elGVisit 157 v4 w_0_visits]) w0 (wpAnyH Tryd.prog .any (opsAt Tryd.f105 []) Qd (Mem (gB F [cellCh b1 [v2, v4, (.int .i64 w_0_decision)] 130, ownCh elGPlace 153 v2 w_0_stack, ownCh elGVisit 157 v4 w_0_visits] w0) (feet [cellCh b1 [v2, v4, (.int .i64 w_0_decision)] 130, ownCh elGPlace 153 v2 w_0_stack, ownCh elGVisit 157 v4 w_0_visits]) w0 [ownCh elGVisit 157 v4 w_0_visits]) 5 #[true, true, true, true, true, true, true, true, true, true, false, false, false, false, false]) [(2, (.pointer (some ⟨b1, 0, none⟩))), (6, v2), (11, (.int .i64 (w_0_stack.length : Int)))] [cellCh b1 [v2, v4, (.int .i64 w_0_decision)] 130, ownCh elGPlace 153 v2 w_0_stack, ownCh elGVisit 157 v4 w_0_visits] (sliceW w_0_stack 0 (w64 ((w_0_stack.length : Int) - 1)) (fun xs12 => k10 xs12)) := by
      intro _
      refine o_subw (dt 10 (fun w m => m.pick [2] rfl)) rfl rfl rfl ?_
      refine d_one (i := 11) rfl (by kernel_rfl) (o_slcO (J := (w64 ((w_0_stack.length : Int) - 1))) 1 rfl rfl rfl rfl el127 rfl ?_); intro v11 xs12
      refine d_and (fun w m => m.pick [2] rfl) ?_
      refine pk [0, 1, 2] rfl ?_
      refine re (E' := [(2, (.pointer (some ⟨b1, 0, none⟩))), (13, v11)]) ⟨rfl, rfl, trivial⟩ ?_
      exact H486 v11 xs12
    have H488 : ∀ (_ : Unit), Nx 16 (gB F [cellCh b1 [v2, v4, (.int .i64 w_0_decision)] 130, ownCh elGPlace 153 v2 w_0_stack, ownCh elGVisit 157 v4 w_0_visits] w0) (feet [cellCh b1 [v2, v4, (.int .i64 w_0_decision)] 130, ownCh elGPlace 153 v2 w_0_stack, ownCh elGVisit 157 v4 w_0_visits]) w0 (wpAnyH Tryd.prog .any (opsAt Tryd.f105 []) Qd (Mem (gB F [cellCh b1 [v2, v4, (.int .i64 w_0_decision)] 130, ownCh elGPlace 153 v2 w_0_stack, ownCh elGVisit 157 v4 w_0_visits] w0) (feet [cellCh b1 [v2, v4, (.int .i64 w_0_decision)] 130, ownCh elGPlace 153 v2 w_0_stack, ownCh elGVisit 157 v4 w_0_visits]) w0 [ownCh elGVisit 157 v4 w_0_visits]) 6 #[true, true, true, true, true, true, true, true, true, false, false, false, false, false, false]) [(2, (.pointer (some ⟨b1, 0, none⟩))), (6, v2), (10, v2)] [cellCh b1 [v2, v4, (.int .i64 w_0_decision)] 130, ownCh elGPlace 153 v2 w_0_stack, ownCh elGVisit 157 v4 w_0_visits] (sliceW w_0_stack 0 (w64 ((w_0_stack.length : Int) - 1)) (fun xs12 => k10 xs12)) := by
      intro _
      refine d_one (i := 9) rfl (by kernel_rfl) (o_len m_op el127 1 rfl reads_own rfl rfl ?_)
      refine d_and (fun w m => m.pick [2] rfl) ?_
      refine pk [0, 1, 2] rfl ?_
      refine re (E' := [(2, (.pointer (some ⟨b1, 0, none⟩))), (6, v2), (11, (.int .i64 (w_0_stack.length : Int)))]) ⟨rfl, rfl, rfl, trivial⟩ ?_
      exact H487 ()
    have H489 : ∀ (_ : Unit), Nx 16 (gB F [cellCh b1 [v2, v4, (.int .i64 w_0_decision)] 130, ownCh elGPlace 153 v2 w_0_stack, ownCh elGVisit 157 v4 w_0_visits] w0) (feet [cellCh b1 [v2, v4, (.int .i64 w_0_decision)] 130, ownCh elGPlace 153 v2 w_0_stack, ownCh elGVisit 157 v4 w_0_visits]) w0 (wpAnyH Tryd.prog .any (opsAt Tryd.f105 []) Qd (Mem (gB F [cellCh b1 [v2, v4, (.int .i64 w_0_decision)] 130, ownCh elGPlace 153 v2 w_0_stack, ownCh elGVisit 157 v4 w_0_visits] w0) (feet [cellCh b1 [v2, v4, (.int .i64 w_0_decision)] 130, ownCh elGPlace 153 v2 w_0_stack, ownCh elGVisit 157 v4 w_0_visits]) w0 [ownCh elGVisit 157 v4 w_0_visits]) 7 #[true, true, true, true, true, true, true, true, false, false, false, false, false, false, false]) [(2, (.pointer (some ⟨b1, 0, none⟩))), (9, (.pointer (some ⟨b1, 0, none⟩))), (6, v2)] [cellCh b1 [v2, v4, (.int .i64 w_0_decision)] 130, ownCh elGPlace 153 v2 w_0_stack, ownCh elGVisit 157 v4 w_0_visits] (sliceW w_0_stack 0 (w64 ((w_0_stack.length : Int) - 1)) (fun xs12 => k10 xs12)) := by
      intro _
      refine d_one (i := 8) rfl (by kernel_rfl) (o_ldc m_op (v := v2) 0 rfl rfl rfl ty127 rfl ?_)
      refine d_and (fun w m => m.pick [2] rfl) ?_
      refine pk [0, 1, 2] rfl ?_
      refine re (E' := [(2, (.pointer (some ⟨b1, 0, none⟩))), (6, v2), (10, v2)]) ⟨rfl, rfl, rfl, trivial⟩ ?_
      exact H488 ()
    have H490 : ∀ (_ : Unit), Nx 16 (gB F [cellCh b1 [v2, v4, (.int .i64 w_0_decision)] 130, ownCh elGPlace 153 v2 w_0_stack, ownCh elGVisit 157 v4 w_0_visits] w0) (feet [cellCh b1 [v2, v4, (.int .i64 w_0_decision)] 130, ownCh elGPlace 153 v2 w_0_stack, ownCh elGVisit 157 v4 w_0_visits]) w0 (wpAnyH Tryd.prog .any (opsAt Tryd.f105 []) Qd (Mem (gB F [cellCh b1 [v2, v4, (.int .i64 w_0_decision)] 130, ownCh elGPlace 153 v2 w_0_stack, ownCh elGVisit 157 v4 w_0_visits] w0) (feet [cellCh b1 [v2, v4, (.int .i64 w_0_decision)] 130, ownCh elGPlace 153 v2 w_0_stack, ownCh elGVisit 157 v4 w_0_visits]) w0 [ownCh elGVisit 157 v4 w_0_visits]) 4 #[true, true, true, true, true, true, true, true, true, true, true, false, false, false, false]) [(2, (.pointer (some ⟨b1, 0, none⟩))), (12, (.int .i64 (w64 ((w_0_stack.length : Int) - 1)))), (6, v2)] [cellCh b1 [v2, v4, (.int .i64 w_0_decision)] 130, ownCh elGPlace 153 v2 w_0_stack, ownCh elGVisit 157 v4 w_0_visits] (sliceW w_0_stack 0 (w64 ((w_0_stack.length : Int) - 1)) (fun xs18 => k10 xs18)) := by
      intro _
      refine d_one (i := 11) rfl (by kernel_rfl) (o_slcO (J := (w64 ((w_0_stack.length : Int) - 1))) 1 rfl rfl rfl rfl el127 rfl ?_); intro v17 xs18
      refine d_and (fun w m => m.pick [2] rfl) ?_
      refine pk [0, 1, 2] rfl ?_
      refine re (E' := [(2, (.pointer (some ⟨b1, 0, none⟩))), (13, v17)]) ⟨rfl, rfl, trivial⟩ ?_
      exact H486 v17 xs18
    have H491 : ∀ (_ : Unit), Nx 16 (gB F [cellCh b1 [v2, v4, (.int .i64 w_0_decision)] 130, ownCh elGPlace 153 v2 w_0_stack, ownCh elGVisit 157 v4 w_0_visits] w0) (feet [cellCh b1 [v2, v4, (.int .i64 w_0_decision)] 130, ownCh elGPlace 153 v2 w_0_stack, ownCh elGVisit 157 v4 w_0_visits]) w0 (wpAnyH Tryd.prog .any (opsAt Tryd.f105 []) Qd (Mem (gB F [cellCh b1 [v2, v4, (.int .i64 w_0_decision)] 130, ownCh elGPlace 153 v2 w_0_stack, ownCh elGVisit 157 v4 w_0_visits] w0) (feet [cellCh b1 [v2, v4, (.int .i64 w_0_decision)] 130, ownCh elGPlace 153 v2 w_0_stack, ownCh elGVisit 157 v4 w_0_visits]) w0 [ownCh elGVisit 157 v4 w_0_visits]) 6 #[true, true, true, true, false, true, true, true, true, true, false, false, false, false, false]) [(2, (.pointer (some ⟨b1, 0, none⟩))), (5, (.pointer (some ⟨b1, 0, none⟩))), (11, (.int .i64 (w_0_stack.length : Int)))] [cellCh b1 [v2, v4, (.int .i64 w_0_decision)] 130, ownCh elGPlace 153 v2 w_0_stack, ownCh elGVisit 157 v4 w_0_visits] (sliceW w_0_stack 0 (w64 ((w_0_stack.length : Int) - 1)) (fun xs18 => k10 xs18)) := by
      intro _
      refine o_subw (dt 10 (fun w m => m.pick [2] rfl)) rfl rfl rfl ?_
      refine d_one (i := 4) rfl (by kernel_rfl) (o_ldc m_op (v := v2) 0 rfl rfl rfl ty127 rfl ?_)
      refine d_and (fun w m => m.pick [2] rfl) ?_
      refine pk [0, 1, 2] rfl ?_
      refine re (E' := [(2, (.pointer (some ⟨b1, 0, none⟩))), (12, (.int .i64 (w64 ((w_0_stack.length : Int) - 1)))), (6, v2)]) ⟨rfl, rfl, rfl, trivial⟩ ?_
      exact H490 ()
    have H492 : ∀ (_ : Unit), Nx 16 (gB F [cellCh b1 [v2, v4, (.int .i64 w_0_decision)] 130, ownCh elGPlace 153 v2 w_0_stack, ownCh elGVisit 157 v4 w_0_visits] w0) (feet [cellCh b1 [v2, v4, (.int .i64 w_0_decision)] 130, ownCh elGPlace 153 v2 w_0_stack, ownCh elGVisit 157 v4 w_0_visits]) w0 (wpAnyH Tryd.prog .any (opsAt Tryd.f105 []) Qd (Mem (gB F [cellCh b1 [v2, v4, (.int .i64 w_0_decision)] 130, ownCh elGPlace 153 v2 w_0_stack, ownCh elGVisit 157 v4 w_0_visits] w0) (feet [cellCh b1 [v2, v4, (.int .i64 w_0_decision)] 130, ownCh elGPlace 153 v2 w_0_stack, ownCh elGVisit 157 v4 w_0_visits]) w0 [ownCh elGVisit 157 v4 w_0_visits]) 7 #[true, true, true, true, false, true, true, true, true, false, false, false, false, false, false]) [(2, (.pointer (some ⟨b1, 0, none⟩))), (5, (.pointer (some ⟨b1, 0, none⟩))), (10, v2)] [cellCh b1 [v2, v4, (.int .i64 w_0_decision)] 130, ownCh elGPlace 153 v2 w_0_stack, ownCh elGVisit 157 v4 w_0_visits] (sliceW w_0_stack 0 (w64 ((w_0_stack.length : Int) - 1)) (fun xs12 => k10 xs12)) := by
      intro _
      refine d_two (i := 4) (j := 9) rfl rfl (by kernel_rfl) ?_ ?_
      · intro o ho; cases ho
        refine o_ldc m_op (v := v2) 0 rfl rfl rfl ty127 rfl ?_
        refine d_and (fun w m => m.pick [2] rfl) ?_
        refine pk [0, 1, 2] rfl ?_
        refine re (E' := [(2, (.pointer (some ⟨b1, 0, none⟩))), (6, v2), (10, v2)]) ⟨rfl, rfl, rfl, trivial⟩ ?_
        exact H488 ()
      · intro o ho; cases ho
        refine o_len m_op el127 1 rfl reads_own rfl rfl ?_
        refine d_and (fun w m => m.pick [2] rfl) ?_
        refine pk [0, 1, 2] rfl ?_
        refine re (E' := [(2, (.pointer (some ⟨b1, 0, none⟩))), (5, (.pointer (some ⟨b1, 0, none⟩))), (11, (.int .i64 (w_0_stack.length : Int)))]) ⟨rfl, rfl, rfl, trivial⟩ ?_
        exact H491 ()
    refine o_mv (dt 0 (fun w m => m.pick [2] rfl)) rfl rfl ?_
    refine o_mv (dt 1 (fun w m => m.pick [2] rfl)) rfl rfl ?_
    refine o_nilc (dt 2 (fun w m => m.pick [2] rfl)) rfl rfl ?_
    refine o_fad (dt 3 (fun w m => m.pick [2] rfl)) rfl rfl fld130_0 rfl ?_
    refine o_mv (dt 5 (fun w m => m.pick [2] rfl)) rfl rfl ?_
    refine o_nilc (dt 6 (fun w m => m.pick [2] rfl)) rfl rfl ?_
    refine o_fad (dt 7 (fun w m => m.pick [2] rfl)) rfl rfl fld130_0 rfl ?_
    refine d_two (i := 4) (j := 8) rfl rfl (by kernel_rfl) ?_ ?_
    · intro o ho; cases ho
      refine o_ldc m_op (v := v2) 0 rfl rfl rfl ty127 rfl ?_
      refine d_and (fun w m => m.pick [2] rfl) ?_
      refine pk [0, 1, 2] rfl ?_
      refine re (E' := [(2, (.pointer (some ⟨b1, 0, none⟩))), (9, (.pointer (some ⟨b1, 0, none⟩))), (6, v2)]) ⟨rfl, rfl, rfl, trivial⟩ ?_
      exact H489 ()
    · intro o ho; cases ho
      refine o_ldc m_op (v := v2) 0 rfl rfl rfl ty127 rfl ?_
      refine d_and (fun w m => m.pick [2] rfl) ?_
      refine pk [0, 1, 2] rfl ?_
      refine re (E' := [(2, (.pointer (some ⟨b1, 0, none⟩))), (5, (.pointer (some ⟨b1, 0, none⟩))), (10, v2)]) ⟨rfl, rfl, rfl, trivial⟩ ?_
      exact H492 ()
  · rintro xs7 a w ⟨v8, hE, hm⟩ h
    refine nx_of hE hm h ?_
    clear hE hm h
    exact l_end0m Tryd.results105 xs7 v8 rfl (fun w m => NewCh.ofB m [0, 1, 2] rfl)

set_option maxRecDepth 100000 in
set_option maxHeartbeats 8000000 in
theorem w_impl_Test_holds {w0 : World} {F : Nat → Prop} {t_0 : GTest} {p_1 : GPacket} {κ : Bool → Prop} (hF : ∀ b, F b → b < w0.heap.size ∧ ¬ feet [] b) (h : L_impl_Test_holds t_0 p_1 κ) :
    Calls Tryd.prog 118 #[(.agg #[(.int .i64 t_0.xField), (.int .i64 t_0.xLo), (.int .i64 t_0.xHi), (.bool t_0.xNot)]), (.agg #[(.int .i64 p_1.xFrom), (.int .i64 p_1.xTo), (.int .i64 p_1.xPort), (.int .i64 p_1.xProto)])] w0 (Ret [] F w0 κ (fun (r : Bool) (u : Unit) => (.bool r)) (fun (r : Bool) (u : Unit) => [])) := by
  refine enter0 (args := [(.agg #[(.int .i64 t_0.xField), (.int .i64 t_0.xLo), (.int .i64 t_0.xHi), (.bool t_0.xNot)]), (.agg #[(.int .i64 p_1.xFrom), (.int .i64 p_1.xTo), (.int .i64 p_1.xPort), (.int .i64 p_1.xProto)])]) [] hF (Given.nil _ _) Tryd.func118 rfl Tryd.ntmps118 rfl h ?_
  clear h hF
  refine c_seq ?_
  refine c_region ?_
  refine stw (o_box rfl rfl [(.int .i64 t_0.xField), (.int .i64 t_0.xLo), (.int .i64 t_0.xHi), (.bool t_0.xNot)] rfl ?_); intro b1
  refine stw (o_box rfl rfl [(.int .i64 p_1.xFrom), (.int .i64 p_1.xTo), (.int .i64 p_1.xPort), (.int .i64 p_1.xProto)] rfl ?_); intro b3
  refine o_as st rfl rfl ?_
  refine c_nil ?_
  refine l_then ?_
  refine c_seq ?_
  refine c_draw mixed 6 rfl [cellCh b3 [(.int .i64 p_1.xFrom), (.int .i64 p_1.xTo), (.int .i64 p_1.xPort), (.int .i64 p_1.xProto)] 40, cellCh b1 [(.int .i64 t_0.xField), (.int .i64 t_0.xLo), (.int .i64 t_0.xHi), (.bool t_0.xNot)] 173] ?_
  refine o_ldc (dt 0 (fun _ m => m)) (v := (.agg #[(.int .i64 p_1.xFrom), (.int .i64 p_1.xTo), (.int .i64 p_1.xPort), (.int .i64 p_1.xProto)])) 0 rfl rfl rfl ty40 rfl ?_
  refine o_fad (dt 2 (fun _ m => m)) rfl rfl fld173_0 rfl ?_
  refine o_ldc (dt 3 (fun _ m => m)) (v := (.int .i64 t_0.xField)) 1 rfl rfl rfl ty3 rfl ?_
  refine d_one (i := 1) rfl (by kernel_rfl) (o_callP (vs := [(.agg #[(.int .i64 p_1.xFrom), (.int .i64 p_1.xTo), (.int .i64 p_1.xPort), (.int .i64 p_1.xProto)])]) Tryd.call94 rfl rfl (by intro w m h; exact (w_impl_Packet_fields (F := allB [] w) (p_0 := p_1) allB_ok h).mono (fun _ _ k => ret_free (fun r u => fr_nil) k)) ?_); rintro r5 _
  refine d_and (fun _ m => m) ?_
  refine o_ixv (dt 4 (fun _ m => m)) (enc := encInt) (zs := [r5.x0, r5.x1, r5.x2, r5.x3]) (u := fun (e6 : Int) => (.int .i64 e6)) rfl rfl rfl arr138 rfl rfl (fun _ => rfl) (fun _ => rfl) ?_; intro e6
  refine o_as (dt 5 (fun _ m => m)) rfl rfl ?_
  refine d_done (by kernel_rfl) ?_
  refine l_then ?_
  refine c_join (σ := Bool) (fun (t67 : Bool) (a : Act) (w : World) => Has 26 [(2, (.pointer (some ⟨b1, 0, none⟩))), (6, (.bool t67))] a ∧ Mem (gB F [] w0) (feet []) w0 [cellCh b1 [(.int .i64 t_0.xField), (.int .i64 t_0.xLo), (.int .i64 t_0.xHi), (.bool t_0.xNot)] 173] w) ?_ ?_
  · intro k68
    refine c_region ?_
    refine o_fad st rfl rfl fld173_1 rfl ?_
    refine o_ldc st (v := (.int .i64 t_0.xLo)) 1 rfl rfl rfl ty3 rfl ?_
    refine o_mv st rfl rfl ?_
    refine o_leq st rfl rfl rfl ?_
    refine o_mv st rfl rfl ?_
    refine st_sp (dj := 16) rfl ?_ ?_
    · refine o_mv (st_g rfl rfl) rfl rfl ?_
      refine o_fad (st_g rfl rfl) rfl rfl fld173_2 rfl ?_
      refine o_ldc (st_g rfl rfl) (v := (.int .i64 t_0.xHi)) 1 rfl rfl rfl ty3 rfl ?_
      refine o_leq (st_g rfl rfl) rfl rfl rfl ?_
      refine o_pickT st rfl rfl rfl ?_
      refine o_as st rfl rfl ?_
      refine c_nil ?_
      exact l_join (decide (e6 ≤ t_0.xHi)) (fun a w hE hm => ⟨hE.sub ⟨rfl, rfl, trivial⟩, (hm.pick [1] rfl)⟩)
    · refine st_s rfl rfl rfl rfl ?_
      refine st_s rfl rfl rfl rfl ?_
      refine st_s rfl rfl rfl rfl ?_
      refine st_s rfl rfl rfl rfl ?_
      refine o_pickF st rfl rfl rfl ?_
      refine o_as st rfl rfl ?_
      refine c_nil ?_
      exact l_join false (fun a w hE hm => ⟨hE.sub ⟨rfl, rfl, trivial⟩, (hm.pick [1] rfl)⟩)
  · rintro t67 a w ⟨hE, hm⟩ h
    refine nx_of hE hm h ?_
    clear hE hm h
    refine c_seq ?_
    refine c_region ?_
    refine o_mv st rfl rfl ?_
    refine o_fad st rfl rfl fld173_3 rfl ?_
    refine o_ldc st (v := (.bool t_0.xNot)) 0 rfl rfl rfl ty4 rfl ?_
    refine o_neqB st und4 rfl rfl rfl ?_
    refine o_as st rfl rfl ?_
    refine c_nil ?_
    refine l_then ?_
    refine c_ret ?_
    exact l_end1 Tryd.results118 (!(decide (t67 = t_0.xNot))) () (rv_t rfl) (fun _ _ => NewCh.nil _ _ _ _)

set_option maxRecDepth 100000 in
set_option maxHeartbeats 8000000 in
theorem w_impl_allHold {w0 : World} {F : Nat → Prop} {v1 : Value} {list_0 : (List GTest)} {p_1 : GPacket} {κ : Bool → Prop} (hF : ∀ b, F b → b < w0.heap.size ∧ ¬ feet [] b) (hv1 : Sl elGTest F w0 v1 list_0) (h : L_impl_allHold list_0 p_1 κ) :
    Calls Tryd.prog 106 #[v1, (.agg #[(.int .i64 p_1.xFrom), (.int .i64 p_1.xTo), (.int .i64 p_1.xPort), (.int .i64 p_1.xProto)])] w0 (Ret [] F w0 κ (fun (r : Bool) (u : Unit) => (.bool r)) (fun (r : Bool) (u : Unit) => [])) := by
  refine enterS (args := [v1, (.agg #[(.int .i64 p_1.xFrom), (.int .i64 p_1.xTo), (.int .i64 p_1.xPort), (.int .i64 p_1.xProto)])]) [] hF (Given.nil _ _) Tryd.func106 rfl Tryd.ntmps106 rfl h ?_
  clear h hF
  refine c_seq ?_
  refine c_region ?_
  refine stw (o_box rfl rfl [(.int .i64 p_1.xFrom), (.int .i64 p_1.xTo), (.int .i64 p_1.xPort), (.int .i64 p_1.xProto)] rfl ?_); intro b3
  refine o_as st rfl rfl ?_
  refine c_nil ?_
  refine l_then ?_
  refine c_seq ?_
  refine c_seq ?_
  refine c_region ?_
  refine o_mv st rfl rfl ?_
  refine o_len st el102 1 rfl (reads_snap hv1) rfl rfl ?_
  refine o_mv st rfl rfl ?_
  refine c_nil ?_
  refine l_then ?_
  refine c_block ?_
  refine c_loop (σ := Int) (fun (t5 : Int) (a : Act) (w : World) => Has 18 [(3, (.pointer (some ⟨b3, 0, none⟩))), (7, v1), (8, (.int .i64 (list_0.length : Int))), (9, (.int .i64 t5))] a ∧ Mem (gB F [] w0) (feet []) w0 [cellCh b3 [(.int .i64 p_1.xFrom), (.int .i64 p_1.xTo), (.int .i64 p_1.xPort), (.int .i64 p_1.xProto)] 40, snapCh w0 F] w) (fun a w hE hm => ⟨hE.sub ⟨rfl, rfl, rfl, rfl, trivial⟩, (hm.pick [0, 1] rfl)⟩) ?_
  rintro nx6 t5 a w ⟨hE, hm⟩ h
  refine nx_of hE hm h ?_
  clear hE hm h
  refine c_seq ?_
  refine c_region ?_
  refine o_lss st rfl rfl rfl ?_
  refine c_nil ?_
  refine l_then ?_
  refine c_seq ?_
  refine c_cond rfl ?_ ?_
  · refine c_skip ?_
    refine l_then ?_
    refine c_seq ?_
    refine c_block ?_
    refine c_seq ?_
    refine c_region ?_
    refine o_idx st 1 rfl (reads_snap hv1) rfl rfl rfl el102 ?_; intro e7 h8
    refine o_lds st (enc := encGTest) (u := (.agg #[(.int .i64 e7.xField), (.int .i64 e7.xLo), (.int .i64 e7.xHi), (.bool e7.xNot)])) 1 rfl (reads_snap hv1) flelGTest rfl h8 rfl rfl ty173 rfl ?_
    refine stw (o_alloc rfl [(.int .i64 0), (.int .i64 0), (.int .i64 0), (.bool false)] zero173 ?_); intro b9
    refine stw (o_stc (cs' := [(.int .i64 e7.xField), (.int .i64 e7.xLo), (.int .i64 e7.xHi), (.bool e7.xNot)]) 0 rfl rfl rfl ty173 rfl rfl rfl rfl ?_)
    refine c_nil ?_
    refine l_then ?_
    refine c_seq ?_
    refine c_region ?_
    refine o_ldc st (v := (.agg #[(.int .i64 e7.xField), (.int .i64 e7.xLo), (.int .i64 e7.xHi), (.bool e7.xNot)])) 0 rfl rfl rfl ty173 rfl ?_
    refine o_ldc st (v := (.agg #[(.int .i64 p_1.xFrom), (.int .i64 p_1.xTo), (.int .i64 p_1.xPort), (.int .i64 p_1.xProto)])) 1 rfl rfl rfl ty40 rfl ?_
    refine stw (o_callP (vs := [(.agg #[(.int .i64 e7.xField), (.int .i64 e7.xLo), (.int .i64 e7.xHi), (.bool e7.xNot)]), (.agg #[(.int .i64 p_1.xFrom), (.int .i64 p_1.xTo), (.int .i64 p_1.xPort), (.int .i64 p_1.xProto)])]) Tryd.call118 rfl rfl (by intro w m h; exact (w_impl_Test_holds (F := allB [] w) (t_0 := e7) (p_1 := p_1) allB_ok h).mono (fun _ _ k => ret_free (fun r u => fr_nil) k)) ?_); rintro r11 _
    refine o_not st rfl rfl ?_
    refine c_nil ?_
    refine l_then ?_
    refine c_cond rfl ?_ ?_
    · refine c_seq ?_
      refine c_region ?_
      refine o_as st rfl rfl ?_
      refine c_nil ?_
      refine l_then ?_
      refine c_ret ?_
      refine b_ret ?_
      refine l_ret ?_
      refine l_ret ?_
      refine b_ret ?_
      refine l_ret ?_
      exact l_end1 Tryd.results106 false () (rv_t rfl) (fun _ _ => NewCh.nil _ _ _ _)
    · refine c_skip ?_
      refine b_norm ?_
      refine l_then ?_
      refine c_region ?_
      refine o_add st rfl rfl rfl ?_; intro t12
      refine o_mv st rfl rfl ?_
      refine c_nil ?_
      exact l_join t12 (fun a w hE hm => ⟨hE.sub ⟨rfl, rfl, rfl, rfl, trivial⟩, (hm.pick [1, 2] rfl)⟩)
  · refine c_exit ?_
    refine l_exit ?_
    refine l_exit ?_
    refine b_exit ?_
    refine l_then ?_
    refine c_seq ?_
    refine c_region ?_
    refine o_as st rfl rfl ?_
    refine c_nil ?_
    refine l_then ?_
    refine c_ret ?_
    exact l_end1 Tryd.results106 true () (rv_t rfl) (fun _ _ => NewCh.nil _ _ _ _)

set_option maxRecDepth 100000 in
set_option maxHeartbeats 8000000 in
theorem w_impl_actionOf {w0 : World} {F : Nat → Prop} {v1 : Value} {r_0 : GRule} {κ : IAction → Prop} (hF : ∀ b, F b → b < w0.heap.size ∧ ¬ feet [] b) (hv1 : Sl elGTest F w0 v1 r_0.xTests) (h : L_impl_actionOf r_0 κ) :
    Calls Tryd.prog 107 #[(.agg #[v1, (.int .i64 r_0.xAction), (.int .i64 r_0.xChain)])] w0 (Ret [] F w0 κ (fun (r : IAction) (u : Unit) => (ivIAction r)) (fun (r : IAction) (u : Unit) => [])) := by
  refine enterS (args := [(.agg #[v1, (.int .i64 r_0.xAction), (.int .i64 r_0.xChain)])]) [] hF (Given.nil _ _) Tryd.func107 rfl Tryd.ntmps107 rfl h ?_
  clear h hF
  refine c_seq ?_
  refine c_region ?_
  obtain ⟨a3, l4, q5, hs_⟩ := sl_val hv1; subst hs_
  refine stw (o_box rfl rfl [(.slice a3 l4 q5), (.int .i64 r_0.xAction), (.int .i64 r_0.xChain)] rfl ?_); intro b6
  refine o_as st rfl rfl ?_
  refine c_nil ?_
  refine l_then ?_
  refine c_seq ?_
  refine c_seq ?_
  refine c_region ?_
  refine o_fad st rfl rfl fld104_1 rfl ?_
  refine o_ldc st (v := (.int .i64 r_0.xAction)) 0 rfl rfl rfl ty3 rfl ?_
  refine c_nil ?_
  refine l_then ?_
  refine c_block ?_
  refine c_seq ?_
  refine c_region ?_
  refine o_eql st und3 rfl rfl rfl ?_
  refine o_as st rfl rfl ?_
  refine c_nil ?_
  refine l_then ?_
  refine c_cond rfl ?_ ?_
  · refine c_seq ?_
    refine c_region ?_
    refine o_bld st (qs := [(0, (.bool true))]) (cells := [(.bool true)]) (by intro ρ h; simp only [List.map_toArray, List.map_cons, List.map_nil, h (.const (.bool true)) _ rfl]) rfl bld178 rfl ?_
    refine o_mki st (u := (ivIAction (IAction.kDeciding (GDeciding.mk true)))) mki178 rfl rfl rfl ?_
    refine o_as st rfl rfl ?_
    refine c_nil ?_
    refine l_then ?_
    refine c_ret ?_
    refine b_ret ?_
    refine l_ret ?_
    exact l_end1 Tryd.results107 (IAction.kDeciding (GDeciding.mk true)) () (rv_t rfl) (fun _ _ => NewCh.nil _ _ _ _)
  · refine c_seq ?_
    refine c_region ?_
    refine o_eql st und3 rfl rfl rfl ?_
    refine o_as st rfl rfl ?_
    refine c_nil ?_
    refine l_then ?_
    refine c_cond rfl ?_ ?_
    · refine c_seq ?_
      refine c_region ?_
      refine o_bld st (qs := [(0, (.bool false))]) (cells := [(.bool false)]) (by intro ρ h; simp only [List.map_toArray, List.map_cons, List.map_nil, h (.const (.bool false)) _ rfl]) rfl bld178 rfl ?_
      refine o_mki st (u := (ivIAction (IAction.kDeciding (GDeciding.mk false)))) mki178 rfl rfl rfl ?_
      refine o_as st rfl rfl ?_
      refine c_nil ?_
      refine l_then ?_
      refine c_ret ?_
      refine b_ret ?_
      refine l_ret ?_
      exact l_end1 Tryd.results107 (IAction.kDeciding (GDeciding.mk false)) () (rv_t rfl) (fun _ _ => NewCh.nil _ _ _ _)
    · refine c_seq ?_
      refine c_region ?_
      refine o_eql st und3 rfl rfl rfl ?_
      refine o_as st rfl rfl ?_
      refine c_nil ?_
      refine l_then ?_
      refine c_cond rfl ?_ ?_
      · refine c_seq ?_
        refine c_region ?_
        refine o_fad st rfl rfl fld104_2 rfl ?_
        refine o_ldc st (v := (.int .i64 r_0.xChain)) 0 rfl rfl rfl ty3 rfl ?_
        refine o_bld st (qs := [(0, (.int .i64 r_0.xChain))]) (cells := [(.int .i64 r_0.xChain)]) (by intro ρ h; simp only [List.map_toArray, List.map_cons, List.map_nil, h (.tmp 16) _ rfl]) rfl bld180 rfl ?_
        refine o_mki st (u := (ivIAction (IAction.kCalling (GCalling.mk r_0.xChain)))) mki180 rfl rfl rfl ?_
        refine o_as st rfl rfl ?_
        refine c_nil ?_
        refine l_then ?_
        refine c_ret ?_
        refine b_ret ?_
        refine l_ret ?_
        exact l_end1 Tryd.results107 (IAction.kCalling (GCalling.mk r_0.xChain)) () (rv_t rfl) (fun _ _ => NewCh.nil _ _ _ _)
      · refine c_seq ?_
        refine c_region ?_
        refine o_eql st und3 rfl rfl rfl ?_
        refine o_as st rfl rfl ?_
        refine c_nil ?_
        refine l_then ?_
        refine c_cond rfl ?_ ?_
        · refine c_seq ?_
          refine c_region ?_
          refine o_bld st (qs := []) (cells := []) (by intro ρ h; simp only [List.map_toArray, List.map_cons, List.map_nil]) rfl bld182 rfl ?_
          refine o_mki st (u := (ivIAction (IAction.kReturning (GReturning.mk )))) mki182 rfl rfl rfl ?_
          refine o_as st rfl rfl ?_
          refine c_nil ?_
          refine l_then ?_
          refine c_ret ?_
          refine b_ret ?_
          refine l_ret ?_
          exact l_end1 Tryd.results107 (IAction.kReturning (GReturning.mk )) () (rv_t rfl) (fun _ _ => NewCh.nil _ _ _ _)
        · refine c_skip ?_
          refine b_norm ?_
          refine l_then ?_
          refine c_seq ?_
          refine c_region ?_
          refine o_bld st (qs := []) (cells := []) (by intro ρ h; simp only [List.map_toArray, List.map_cons, List.map_nil]) rfl bld183 rfl ?_
          refine o_mki st (u := (ivIAction (IAction.kPassing (GPassing.mk )))) mki183 rfl rfl rfl ?_
          refine o_as st rfl rfl ?_
          refine c_nil ?_
          refine l_then ?_
          refine c_ret ?_
          exact l_end1 Tryd.results107 (IAction.kPassing (GPassing.mk )) () (rv_t rfl) (fun _ _ => NewCh.nil _ _ _ _)

set_option maxRecDepth 100000 in
set_option maxHeartbeats 8000000 in
theorem w_impl_deciding_walk {w0 : World} {F : Nat → Prop} {b1 : Nat} {v2 : Value} {v4 : Value} {d_0 : GDeciding} {w_1_stack : (List GPlace)} {w_1_visits : (List GVisit)} {w_1_decision : Int} {κ : Int → Prop} (hF : ∀ b, F b → b < w0.heap.size ∧ ¬ feet [cellCh b1 [v2, v4, (.int .i64 w_1_decision)] 130, ownCh elGPlace 153 v2 w_1_stack, ownCh elGVisit 157 v4 w_1_visits] b) (hg : Given [cellCh b1 [v2, v4, (.int .i64 w_1_decision)] 130, ownCh elGPlace 153 v2 w_1_stack, ownCh elGVisit 157 v4 w_1_visits] F w0) (h : L_impl_deciding_walk d_0 w_1_stack w_1_visits w_1_decision κ) :
    Calls Tryd.prog 147 #[(.agg #[(.bool d_0.xAccept)]), (.pointer (some ⟨b1, 0, none⟩))] w0 (Ret [cellCh b1 [v2, v4, (.int .i64 w_1_decision)] 130, ownCh elGPlace 153 v2 w_1_stack, ownCh elGVisit 157 v4 w_1_visits] F w0 κ (fun (r : Int) (u : Unit) => .tuple #[]) (fun (r : Int) (u : Unit) => [cellCh b1 [v2, v4, (.int .i64 r)] 130, ownCh elGPlace 153 v2 w_1_stack, ownCh elGVisit 157 v4 w_1_visits])) := by
  refine enter0 (args := [(.agg #[(.bool d_0.xAccept)]), (.pointer (some ⟨b1, 0, none⟩))]) [cellCh b1 [v2, v4, (.int .i64 w_1_decision)] 130, ownCh elGPlace 153 v2 w_1_stack, ownCh elGVisit 157 v4 w_1_visits] hF hg Tryd.func147 rfl Tryd.ntmps147 rfl h ?_
  clear h hF hg
  refine c_seq ?_
  refine c_region ?_
  refine stw (o_box rfl rfl [(.bool d_0.xAccept)] rfl ?_); intro b7
  refine c_nil ?_
  refine l_then ?_
  refine c_seq ?_
  refine c_region ?_
  refine o_fad st rfl rfl fld178_0 rfl ?_
  refine o_ldc st (v := (.bool d_0.xAccept)) 0 rfl rfl rfl ty4 rfl ?_
  refine c_nil ?_
  refine l_then ?_
  refine c_cond rfl ?_ ?_
  · refine c_region ?_
    refine o_mv st rfl rfl ?_
    refine o_nilc st rfl rfl ?_
    refine o_fad st rfl rfl fld130_2 rfl ?_
    refine stw (o_stc (cs' := [v2, v4, (.int .i64 1)]) 1 rfl rfl rfl ty3 rfl rfl rfl rfl ?_)
    refine c_nil ?_
    exact l_end0m Tryd.results147 1 () rfl (fun w m => NewCh.ofB m [1, 2, 3] rfl)
  · refine c_region ?_
    refine o_mv st rfl rfl ?_
    refine o_nilc st rfl rfl ?_
    refine o_fad st rfl rfl fld130_2 rfl ?_
    refine stw (o_stc (cs' := [v2, v4, (.int .i64 2)]) 1 rfl rfl rfl ty3 rfl rfl rfl rfl ?_)
    refine c_nil ?_
    exact l_end0m Tryd.results147 2 () rfl (fun w m => NewCh.ofB m [1, 2, 3] rfl)

set_option maxRecDepth 100000 in
set_option maxHeartbeats 8000000 in
theorem w_impl_calling_walk {w0 : World} {F : Nat → Prop} {b1 : Nat} {v2 : Value} {v4 : Value} {c_0 : GCalling} {w_1_stack : (List GPlace)} {w_1_visits : (List GVisit)} {w_1_decision : Int} {κ : (List GPlace) → Prop} (hF : ∀ b, F b → b < w0.heap.size ∧ ¬ feet [cellCh b1 [v2, v4, (.int .i64 w_1_decision)] 130, ownCh elGPlace 153 v2 w_1_stack, ownCh elGVisit 157 v4 w_1_visits] b) (hg : Given [cellCh b1 [v2, v4, (.int .i64 w_1_decision)] 130, ownCh elGPlace 153 v2 w_1_stack, ownCh elGVisit 157 v4 w_1_visits] F w0) (h : L_impl_calling_walk c_0 w_1_stack w_1_visits w_1_decision κ) :
    Calls Tryd.prog 150 #[(.agg #[(.int .i64 c_0.xChain)]), (.pointer (some ⟨b1, 0, none⟩))] w0 (Ret [cellCh b1 [v2, v4, (.int .i64 w_1_decision)] 130, ownCh elGPlace 153 v2 w_1_stack, ownCh elGVisit 157 v4 w_1_visits] F w0 κ (fun (r : (List GPlace)) (u : Value) => .tuple #[]) (fun (r : (List GPlace)) (u : Value) => [cellCh b1 [u, v4, (.int .i64 w_1_decision)] 130, ownCh elGPlace 153 u r, ownCh elGVisit 157 v4 w_1_visits])) := by
  refine enter0 (args := [(.agg #[(.int .i64 c_0.xChain)]), (.pointer (some ⟨b1, 0, none⟩))]) [cellCh b1 [v2, v4, (.int .i64 w_1_decision)] 130, ownCh elGPlace 153 v2 w_1_stack, ownCh elGVisit 157 v4 w_1_visits] hF hg Tryd.func150 rfl Tryd.ntmps150 rfl h ?_
  clear h hF hg
  refine c_seq ?_
  refine c_region ?_
  refine stw (o_box rfl rfl [(.int .i64 c_0.xChain)] rfl ?_); intro b7
  refine c_nil ?_
  refine l_then ?_
  refine c_join1 (σ := (List GPlace)) (fun (xs9 : (List GPlace)) (a : Act) (w : World) => ∃ (v10 : Value), Has 16 [] a ∧ Mem (gB F [cellCh b1 [v2, v4, (.int .i64 w_1_decision)] 130, ownCh elGPlace 153 v2 w_1_stack, ownCh elGVisit 157 v4 w_1_visits] w0) (feet [cellCh b1 [v2, v4, (.int .i64 w_1_decision)] 130, ownCh elGPlace 153 v2 w_1_stack, ownCh elGVisit 157 v4 w_1_visits]) w0 [cellCh b1 [v10, v4, (.int .i64 w_1_decision)] 130, ownCh elGPlace 153 v10 xs9, ownCh elGVisit 157 v4 w_1_visits] w) ?_ ?_
  · intro k12
    refine c_drawQ mixed 13 rfl [cellCh b7 [(.int .i64 c_0.xChain)] 180, ownCh elGVisit 157 v4 w_1_visits] ?_
    intro Qd hP hQ
    have H500 : ∀ (v13 : Value) (a16 : Option Addr) (l17 : Nat) (q18 : Nat), Nx 16 (gB F [cellCh b1 [v2, v4, (.int .i64 w_1_decision)] 130, ownCh elGPlace 153 v2 w_1_stack, ownCh elGVisit 157 v4 w_1_visits] w0) (feet [cellCh b1 [v2, v4, (.int .i64 w_1_decision)] 130, ownCh elGPlace 153 v2 w_1_stack, ownCh elGVisit 157 v4 w_1_visits]) w0 (wpAnyH Tryd.prog .any (opsAt Tryd.f150 [1]) Qd (Mem (gB F [cellCh b1 [v2, v4, (.int .i64 w_1_decision)] 130, ownCh elGPlace 153 v2 w_1_stack, ownCh elGVisit 157 v4 w_1_visits] w0) (feet [cellCh b1 [v2, v4, (.int .i64 w_1_decision)] 130, ownCh elGPlace 153 v2 w_1_stack, ownCh elGVisit 157 v4 w_1_visits]) w0 [cellCh b7 [(.int .i64 c_0.xChain)] 180, ownCh elGVisit 157 v4 w_1_visits]) 0 #[true, true, true, true, true, true, true, true, true, true, true, true, true]) [] [cellCh b7 [(.int .i64 c_0.xChain)] 180, cellCh b1 [(.slice a16 l17 q18), v4, (.int .i64 w_1_decision)] 130, ownCh elGPlace 153 (.slice a16 l17 q18) (w_1_stack ++ ([(GPlace.mk c_0.xChain 0)])), ownCh elGVisit 157 v4 w_1_visits] (k12 (w_1_stack ++ ([(GPlace.mk c_0.xChain 0)]))) := by
      intro v13 a16 l17 q18
      refine d_done (by kernel_rfl) ?_
      exact fun a w hE hm hφ => hQ (w_1_stack ++ ([(GPlace.mk c_0.xChain 0)])) a w hφ ((fun a w hE hm => ⟨(.slice a16 l17 q18), hE.sub trivial, (hm.pick [1, 2, 3] rfl)⟩) a w hE hm)
    have H501 : ∀ (v13 : Value) (v14 : Value), Nx 16 (gB F [cellCh b1 [v2, v4, (.int .i64 w_1_decision)] 130, ownCh elGPlace 153 v2 w_1_stack, ownCh elGVisit 157 v4 w_1_visits] w0) (feet [cellCh b1 [v2, v4, (.int .i64 w_1_decision)] 130, ownCh elGPlace 153 v2 w_1_stack, ownCh elGVisit 157 v4 w_1_visits]) w0 (wpAnyH Tryd.prog .any (opsAt Tryd.f150 [1]) Qd (Mem (gB F [cellCh b1 [v2, v4, (.int .i64 w_1_decision)] 130, ownCh elGPlace 153 v2 w_1_stack, ownCh elGVisit 157 v4 w_1_visits] w0) (feet [cellCh b1 [v2, v4, (.int .i64 w_1_decision)] 130, ownCh elGPlace 153 v2 w_1_stack, ownCh elGVisit 157 v4 w_1_visits]) w0 [cellCh b7 [(.int .i64 c_0.xChain)] 180, ownCh elGVisit 157 v4 w_1_visits]) 3 #[true, true, true, true, true, true, true, true, true, true, false, false, false]) [(4, (.pointer (some ⟨b1, 0, none⟩))), (13, v14)] [cellCh b7 [(.int .i64 c_0.xChain)] 180, cellCh b1 [v2, v4, (.int .i64 w_1_decision)] 130, ownCh elGPlace 153 v14 (w_1_stack ++ ([(GPlace.mk c_0.xChain 0)])), ownCh elGVisit 157 v4 w_1_visits] (k12 (w_1_stack ++ ([(GPlace.mk c_0.xChain 0)]))) := by
      intro v13 v14
      refine o_nilc (dt 10 (fun w m => m.pick [0, 3] rfl)) rfl rfl ?_
      refine o_fad (dt 11 (fun w m => m.pick [0, 3] rfl)) rfl rfl fld130_0 rfl ?_
      refine nx_own 2 rfl ?_; rintro a16 l17 q18 rfl
      refine d_one (i := 12) rfl (by kernel_rfl) (o_stc (cs' := [(.slice a16 l17 q18), v4, (.int .i64 w_1_decision)]) 1 rfl rfl rfl ty127 rfl rfl rfl rfl ?_)
      refine d_and (fun w m => m.pick [0, 3] rfl) ?_
      refine pk [0, 1, 2, 3] rfl ?_
      refine re (E' := []) trivial ?_
      exact H500 v13 a16 l17 q18
    have H502 : ∀ (v13 : Value), Nx 16 (gB F [cellCh b1 [v2, v4, (.int .i64 w_1_decision)] 130, ownCh elGPlace 153 v2 w_1_stack, ownCh elGVisit 157 v4 w_1_visits] w0) (feet [cellCh b1 [v2, v4, (.int .i64 w_1_decision)] 130, ownCh elGPlace 153 v2 w_1_stack, ownCh elGVisit 157 v4 w_1_visits]) w0 (wpAnyH Tryd.prog .any (opsAt Tryd.f150 [1]) Qd (Mem (gB F [cellCh b1 [v2, v4, (.int .i64 w_1_decision)] 130, ownCh elGPlace 153 v2 w_1_stack, ownCh elGVisit 157 v4 w_1_visits] w0) (feet [cellCh b1 [v2, v4, (.int .i64 w_1_decision)] 130, ownCh elGPlace 153 v2 w_1_stack, ownCh elGVisit 157 v4 w_1_visits]) w0 [cellCh b7 [(.int .i64 c_0.xChain)] 180, ownCh elGVisit 157 v4 w_1_visits]) 4 #[true, true, true, true, true, true, true, true, true, false, false, false, false]) [(4, (.pointer (some ⟨b1, 0, none⟩))), (8, v2), (12, v13)] [ownCh elGPlace 153 v13 ([(GPlace.mk c_0.xChain 0)]), cellCh b7 [(.int .i64 c_0.xChain)] 180, cellCh b1 [v2, v4, (.int .i64 w_1_decision)] 130, ownCh elGPlace 153 v2 w_1_stack, ownCh elGVisit 157 v4 w_1_visits] (appW w_1_stack ([(GPlace.mk c_0.xChain 0)]) (fun _ => k12 (w_1_stack ++ ([(GPlace.mk c_0.xChain 0)])))) := by
      intro v13
      refine d_one (i := 9) rfl (by kernel_rfl) (o_app 3 0 rfl rfl (src_flat flelGPlace reads_own) rfl rfl rfl el127 rfl zero153 rfl rfl ?_); intro v14
      refine d_and (fun w m => m.pick [1, 4] rfl) ?_
      refine pk [1, 2, 3, 4] rfl ?_
      refine re (E' := [(4, (.pointer (some ⟨b1, 0, none⟩))), (13, v14)]) ⟨rfl, rfl, trivial⟩ ?_
      exact H501 v13 v14
    have H503 : ∀ (_ : Unit), Nx 16 (gB F [cellCh b1 [v2, v4, (.int .i64 w_1_decision)] 130, ownCh elGPlace 153 v2 w_1_stack, ownCh elGVisit 157 v4 w_1_visits] w0) (feet [cellCh b1 [v2, v4, (.int .i64 w_1_decision)] 130, ownCh elGPlace 153 v2 w_1_stack, ownCh elGVisit 157 v4 w_1_visits]) w0 (wpAnyH Tryd.prog .any (opsAt Tryd.f150 [1]) Qd (Mem (gB F [cellCh b1 [v2, v4, (.int .i64 w_1_decision)] 130, ownCh elGPlace 153 v2 w_1_stack, ownCh elGVisit 157 v4 w_1_visits] w0) (feet [cellCh b1 [v2, v4, (.int .i64 w_1_decision)] 130, ownCh elGPlace 153 v2 w_1_stack, ownCh elGVisit 157 v4 w_1_visits]) w0 [cellCh b7 [(.int .i64 c_0.xChain)] 180, ownCh elGVisit 157 v4 w_1_visits]) 5 #[true, true, true, true, true, true, true, true, false, false, false, false, false]) [(4, (.pointer (some ⟨b1, 0, none⟩))), (11, (.agg #[(.int .i64 c_0.xChain), (.int .i64 0)])), (8, v2)] [cellCh b7 [(.int .i64 c_0.xChain)] 180, cellCh b1 [v2, v4, (.int .i64 w_1_decision)] 130, ownCh elGPlace 153 v2 w_1_stack, ownCh elGVisit 157 v4 w_1_visits] (appW w_1_stack ([(GPlace.mk c_0.xChain 0)]) (fun _ => k12 (w_1_stack ++ ([(GPlace.mk c_0.xChain 0)])))) := by
      intro _
      refine d_one (i := 8) rfl (by kernel_rfl) (o_bsl (enc := encGPlace) (qs := [(0, (.agg #[(.int .i64 c_0.xChain), (.int .i64 0)]))]) (cells := [(.int .i64 c_0.xChain), (.int .i64 0)]) ([(GPlace.mk c_0.xChain 0)]) flelGPlace (by intro ρ h; simp only [List.map_toArray, List.map_cons, List.map_nil, h (.tmp 11) _ rfl]) rfl el127 zero153 rfl rfl rfl rfl rfl rfl ?_); intro v13
      refine d_and (fun w m => m.pick [1, 4] rfl) ?_
      refine pk [0, 1, 2, 3, 4] rfl ?_
      refine re (E' := [(4, (.pointer (some ⟨b1, 0, none⟩))), (8, v2), (12, v13)]) ⟨rfl, rfl, rfl, trivial⟩ ?_
      exact H502 v13
    have H504 : ∀ (v19 : Value), Nx 16 (gB F [cellCh b1 [v2, v4, (.int .i64 w_1_decision)] 130, ownCh elGPlace 153 v2 w_1_stack, ownCh elGVisit 157 v4 w_1_visits] w0) (feet [cellCh b1 [v2, v4, (.int .i64 w_1_decision)] 130, ownCh elGPlace 153 v2 w_1_stack, ownCh elGVisit 157 v4 w_1_visits]) w0 (wpAnyH Tryd.prog .any (opsAt Tryd.f150 [1]) Qd (Mem (gB F [cellCh b1 [v2, v4, (.int .i64 w_1_decision)] 130, ownCh elGPlace 153 v2 w_1_stack, ownCh elGVisit 157 v4 w_1_visits] w0) (feet [cellCh b1 [v2, v4, (.int .i64 w_1_decision)] 130, ownCh elGPlace 153 v2 w_1_stack, ownCh elGVisit 157 v4 w_1_visits]) w0 [cellCh b7 [(.int .i64 c_0.xChain)] 180, ownCh elGVisit 157 v4 w_1_visits]) 5 #[true, true, true, true, false, true, true, true, true, false, false, false, false]) [(4, (.pointer (some ⟨b1, 0, none⟩))), (7, (.pointer (some ⟨b1, 0, none⟩))), (12, v19)] [ownCh elGPlace 153 v19 ([(GPlace.mk c_0.xChain 0)]), cellCh b7 [(.int .i64 c_0.xChain)] 180, cellCh b1 [v2, v4, (.int .i64 w_1_decision)] 130, ownCh elGPlace 153 v2 w_1_stack, ownCh elGVisit 157 v4 w_1_visits] (appW w_1_stack ([(GPlace.mk c_0.xChain 0)]) (fun _ => k12 (w_1_stack ++ ([(GPlace.mk c_0.xChain 0)])))) := by
      intro v19
      refine d_one (i := 4) rfl (by kernel_rfl) (o_ldc m_op (v := v2) 2 rfl rfl rfl ty127 rfl ?_)
      refine d_and (fun w m => m.pick [1, 4] rfl) ?_
      refine pk [0, 1, 2, 3, 4] rfl ?_
      refine re (E' := [(4, (.pointer (some ⟨b1, 0, none⟩))), (8, v2), (12, v19)]) ⟨rfl, rfl, rfl, trivial⟩ ?_
      exact H502 v19
    refine o_mv (dt 0 (fun w m => m.pick [0, 3] rfl)) rfl rfl ?_
    refine o_mv (dt 1 (fun w m => m.pick [0, 3] rfl)) rfl rfl ?_
    refine o_nilc (dt 2 (fun w m => m.pick [0, 3] rfl)) rfl rfl ?_
    refine o_fad (dt 3 (fun w m => m.pick [0, 3] rfl)) rfl rfl fld130_0 rfl ?_
    refine o_fad (dt 5 (fun w m => m.pick [0, 3] rfl)) rfl rfl fld180_0 rfl ?_
    refine o_ldc (dt 6 (fun w m => m.pick [0, 3] rfl)) (v := (.int .i64 c_0.xChain)) 0 rfl rfl rfl ty3 rfl ?_
    refine o_bld (dt 7 (fun w m => m.pick [0, 3] rfl)) (qs := [(0, (.int .i64 c_0.xChain)), (1, (.int .i64 0))]) (cells := [(.int .i64 c_0.xChain), (.int .i64 0)]) (by intro ρ h; simp only [List.map_toArray, List.map_cons, List.map_nil, h (.tmp 10) _ rfl, h (.const (.int .i64 0)) _ rfl]) rfl bld153 rfl ?_
    refine d_two (i := 4) (j := 8) rfl rfl (by kernel_rfl) ?_ ?_
    · intro o ho; cases ho
      refine o_ldc m_op (v := v2) 1 rfl rfl rfl ty127 rfl ?_
      refine d_and (fun w m => m.pick [0, 3] rfl) ?_
      refine pk [0, 1, 2, 3] rfl ?_
      refine re (E' := [(4, (.pointer (some ⟨b1, 0, none⟩))), (11, (.agg #[(.int .i64 c_0.xChain), (.int .i64 0)])), (8, v2)]) ⟨rfl, rfl, rfl, trivial⟩ ?_
      exact H503 ()
    · intro o ho; cases ho
      refine o_bsl (enc := encGPlace) (qs := [(0, (.agg #[(.int .i64 c_0.xChain), (.int .i64 0)]))]) (cells := [(.int .i64 c_0.xChain), (.int .i64 0)]) ([(GPlace.mk c_0.xChain 0)]) flelGPlace (by intro ρ h; simp only [List.map_toArray, List.map_cons, List.map_nil, h (.tmp 11) _ rfl]) rfl el127 zero153 rfl rfl rfl rfl rfl rfl ?_; intro v19
      refine d_and (fun w m => m.pick [1, 4] rfl) ?_
      refine pk [0, 1, 2, 3, 4] rfl ?_
      refine re (E' := [(4, (.pointer (some ⟨b1, 0, none⟩))), (7, (.pointer (some ⟨b1, 0, none⟩))), (12, v19)]) ⟨rfl, rfl, rfl, trivial⟩ ?_
      exact H504 v19
  · rintro xs9 a w ⟨v10, hE, hm⟩ h
    refine nx_of hE hm h ?_
    clear hE hm h
    exact l_end0m Tryd.results150 xs9 v10 rfl (fun w m => NewCh.ofB m [0, 1, 2] rfl)

set_option maxRecDepth 100000 in
set_option maxHeartbeats 8000000 in
theorem w_impl_returning_walk {w0 : World} {F : Nat → Prop} {b1 : Nat} {v2 : Value} {v4 : Value} {a_0 : GReturning} {w_1_stack : (List GPlace)} {w_1_visits : (List GVisit)} {w_1_decision : Int} {κ : (List GPlace) → Prop} (hF : ∀ b, F b → b < w0.heap.size ∧ ¬ feet [cellCh b1 [v2, v4, (.int .i64 w_1_decision)] 130, ownCh elGPlace 153 v2 w_1_stack, ownCh elGVisit 157 v4 w_1_visits] b) (hg : Given [cellCh b1 [v2, v4, (.int .i64 w_1_decision)] 130, ownCh elGPlace 153 v2 w_1_stack, ownCh elGVisit 157 v4 w_1_visits] F w0) (h : L_impl_returning_walk a_0 w_1_stack w_1_visits w_1_decision κ) :
    Calls Tryd.prog 153 #[(.agg #[]), (.pointer (some ⟨b1, 0, none⟩))] w0 (Ret [cellCh b1 [v2, v4, (.int .i64 w_1_decision)] 130, ownCh elGPlace 153 v2 w_1_stack, ownCh elGVisit 157 v4 w_1_visits] F w0 κ (fun (r : (List GPlace)) (u : Value) => .tuple #[]) (fun (r : (List GPlace)) (u : Value) => [cellCh b1 [u, v4, (.int .i64 w_1_decision)] 130, ownCh elGPlace 153 u r, ownCh elGVisit 157 v4 w_1_visits])) := by
  refine enter0 (args := [(.agg #[]), (.pointer (some ⟨b1, 0, none⟩))]) [cellCh b1 [v2, v4, (.int .i64 w_1_decision)] 130, ownCh elGPlace 153 v2 w_1_stack, ownCh elGVisit 157 v4 w_1_visits] hF hg Tryd.func153 rfl Tryd.ntmps153 rfl h ?_
  clear h hF hg
  refine c_seq ?_
  refine c_region ?_
  refine stw (o_box rfl rfl [] rfl ?_); intro b7
  refine c_nil ?_
  refine l_then ?_
  refine c_region ?_
  refine o_mv st rfl rfl ?_
  refine pk [1, 2, 3, 0] rfl ?_
  refine stw (o_call (vs := [(.pointer (some ⟨b1, 0, none⟩))]) (M0 := [cellCh b1 [v2, v4, (.int .i64 w_1_decision)] 130, ownCh elGPlace 153 v2 w_1_stack, ownCh elGVisit 157 v4 w_1_visits]) Tryd.call105 rfl rfl (by intro w m h; exact (w_impl_walk_leave (F := allB [cellCh b1 [v2, v4, (.int .i64 w_1_decision)] 130, ownCh elGPlace 153 v2 w_1_stack, ownCh elGVisit 157 v4 w_1_visits] w) (w_0_stack := w_1_stack) (w_0_visits := w_1_visits) (w_0_decision := w_1_decision) allB_ok m.given h).mono (fun _ _ k => ret_free (fun r u => (fr_cons free_cell (fr_cons (free_own flelGPlace) (fr_cons (free_own flelGVisit) fr_nil)))) k)) ?_); rintro r9 v10
  refine c_nil ?_
  exact l_end0m Tryd.results153 r9 v10 rfl (fun w m => NewCh.ofB m [0, 1, 2] rfl)

set_option maxRecDepth 100000 in
set_option maxHeartbeats 8000000 in
theorem w_impl_passing_walk {w0 : World} {F : Nat → Prop} {b1 : Nat} {v2 : Value} {v4 : Value} {a_0 : GPassing} {a_1_stack : (List GPlace)} {a_1_visits : (List GVisit)} {a_1_decision : Int} {κ : Unit → Prop} (hF : ∀ b, F b → b < w0.heap.size ∧ ¬ feet [cellCh b1 [v2, v4, (.int .i64 a_1_decision)] 130, ownCh elGPlace 153 v2 a_1_stack, ownCh elGVisit 157 v4 a_1_visits] b) (hg : Given [cellCh b1 [v2, v4, (.int .i64 a_1_decision)] 130, ownCh elGPlace 153 v2 a_1_stack, ownCh elGVisit 157 v4 a_1_visits] F w0) (h : L_impl_passing_walk a_0 a_1_stack a_1_visits a_1_decision κ) :
    Calls Tryd.prog 156 #[(.agg #[]), (.pointer (some ⟨b1, 0, none⟩))] w0 (Ret [cellCh b1 [v2, v4, (.int .i64 a_1_decision)] 130, ownCh elGPlace 153 v2 a_1_stack, ownCh elGVisit 157 v4 a_1_visits] F w0 κ (fun (r : Unit) (u : Unit) => .tuple #[]) (fun (r : Unit) (u : Unit) => [cellCh b1 [v2, v4, (.int .i64 a_1_decision)] 130, ownCh elGPlace 153 v2 a_1_stack, ownCh elGVisit 157 v4 a_1_visits])) := by
  refine enter0 (args := [(.agg #[]), (.pointer (some ⟨b1, 0, none⟩))]) [cellCh b1 [v2, v4, (.int .i64 a_1_decision)] 130, ownCh elGPlace 153 v2 a_1_stack, ownCh elGVisit 157 v4 a_1_visits] hF hg Tryd.func156 rfl Tryd.ntmps156 rfl h ?_
  clear h hF hg
  refine c_region ?_
  refine stw (o_box rfl rfl [] rfl ?_); intro b7
  refine c_nil ?_
  exact l_end0m Tryd.results156 () () rfl (fun w m => NewCh.ofB m [1, 2, 3] rfl)

set_option maxRecDepth 100000 in
set_option maxHeartbeats 8000000 in
theorem w_impl_walkThrough {w0 : World} {F : Nat → Prop} {v1 : Value} {s_0 : GRuleset} {p_1 : GPacket} {κ : ((List GPlace) × (List GVisit) × Int) → Prop} (hF : ∀ b, F b → b < w0.heap.size ∧ ¬ feet [] b) (hv1 : Sl (elSl elGRule) F w0 v1 s_0.xChains) (h : L_impl_walkThrough s_0 p_1 κ) :
    Calls Tryd.prog 90 #[(.agg #[v1, (.bool s_0.xAccept)]), (.agg #[(.int .i64 p_1.xFrom), (.int .i64 p_1.xTo), (.int .i64 p_1.xPort), (.int .i64 p_1.xProto)])] w0 (Ret [] F w0 κ (fun (r : ((List GPlace) × (List GVisit) × Int)) (u : Nat × Value × Value) => .pointer (some ⟨u.1, 0, none⟩)) (fun (r : ((List GPlace) × (List GVisit) × Int)) (u : Nat × Value × Value) => [cellCh u.1 [u.2.1, u.2.2, (.int .i64 r.2.2)] 130, ownCh elGPlace 153 u.2.1 r.1, ownCh elGVisit 157 u.2.2 r.2.1])) := by
  refine enterS (args := [(.agg #[v1, (.bool s_0.xAccept)]), (.agg #[(.int .i64 p_1.xFrom), (.int .i64 p_1.xTo), (.int .i64 p_1.xPort), (.int .i64 p_1.xProto)])]) [] hF (Given.nil _ _) Tryd.func90 rfl Tryd.ntmps90 rfl h ?_
  clear h hF
  refine c_seq ?_
  refine c_region ?_
  obtain ⟨a3, l4, q5, hs_⟩ := sl_val hv1; subst hs_
  refine stw (o_box rfl rfl [(.slice a3 l4 q5), (.bool s_0.xAccept)] rfl ?_); intro b6
  refine stw (o_box rfl rfl [(.int .i64 p_1.xFrom), (.int .i64 p_1.xTo), (.int .i64 p_1.xPort), (.int .i64 p_1.xProto)] rfl ?_); intro b8
  refine o_as st rfl rfl ?_
  refine c_nil ?_
  refine l_then ?_
  refine c_seq ?_
  refine c_region ?_
  refine o_bld st (qs := [(0, (.int .i64 0)), (1, (.int .i64 0))]) (cells := [(.int .i64 0), (.int .i64 0)]) (by intro ρ h; simp only [List.map_toArray, List.map_cons, List.map_nil, h (.const (.int .i64 0)) _ rfl, h (.const (.int .i64 0)) _ rfl]) rfl bld153 rfl ?_
  refine stw (o_bsl (enc := encGPlace) (qs := [(0, (.agg #[(.int .i64 0), (.int .i64 0)]))]) (cells := [(.int .i64 0), (.int .i64 0)]) ([(GPlace.mk 0 0)]) flelGPlace (by intro ρ h; simp only [List.map_toArray, List.map_cons, List.map_nil, h (.tmp 9) _ rfl]) rfl el127 zero153 rfl rfl rfl rfl rfl rfl ?_); intro v10
  refine nx_own 0 rfl ?_; rintro a12 l13 q14 rfl
  refine o_bld st (qs := [(0, (.slice a12 l13 q14)), (2, (.int .i64 5))]) (cells := [(.slice a12 l13 q14), (.slice none 0 0), (.int .i64 5)]) (by intro ρ h; simp only [List.map_toArray, List.map_cons, List.map_nil, h (.tmp 10) _ rfl, h (.const (.int .i64 5)) _ rfl]) rfl bld130 rfl ?_
  refine stw (o_box rfl rfl [(.slice a12 l13 q14), (.slice none 0 0), (.int .i64 5)] rfl ?_); intro b15
  refine o_as st rfl rfl ?_
  refine c_nil ?_
  refine l_then ?_
  refine c_seq ?_
  refine c_block ?_
  refine c_loop (σ := ((List GPlace) × (List GVisit) × Int)) (fun ((xs18, xs22, t25) : ((List GPlace) × (List GVisit) × Int)) (a : Act) (w : World) => ∃ (v17 : Value) (v21 : Value), Has 102 [(2, (.pointer (some ⟨b6, 0, none⟩))), (3, (.pointer (some ⟨b8, 0, none⟩))), (5, (.pointer (some ⟨b15, 0, none⟩)))] a ∧ Mem (gB F [] w0) (feet []) w0 [cellCh b15 [v17, v21, (.int .i64 t25)] 130, cellCh b8 [(.int .i64 p_1.xFrom), (.int .i64 p_1.xTo), (.int .i64 p_1.xPort), (.int .i64 p_1.xProto)] 40, cellCh b6 [(.slice a3 l4 q5), (.bool s_0.xAccept)] 25, snapCh w0 F, ownCh elGPlace 153 v17 xs18, ownCh elGVisit 157 v21 xs22] w) (fun a w hE hm => ⟨(.slice a12 l13 q14), (.slice none 0 0), hE.sub ⟨rfl, rfl, rfl, trivial⟩, ((mem_nil elGVisit 157 hm).pick [1, 3, 4, 5, 2, 0] rfl)⟩) ?_
  rintro nx26 ⟨xs18, xs22, t25⟩ a w ⟨v17, v21, hE, hm⟩ h
  refine nx_of hE hm h ?_
  clear hE hm h
  refine c_seq ?_
  refine c_join (σ := Bool) (fun (t87 : Bool) (a : Act) (w : World) => Has 102 [(2, (.pointer (some ⟨b6, 0, none⟩))), (3, (.pointer (some ⟨b8, 0, none⟩))), (5, (.pointer (some ⟨b15, 0, none⟩))), (25, (.bool t87))] a ∧ Mem (gB F [] w0) (feet []) w0 [cellCh b15 [v17, v21, (.int .i64 t25)] 130, cellCh b8 [(.int .i64 p_1.xFrom), (.int .i64 p_1.xTo), (.int .i64 p_1.xPort), (.int .i64 p_1.xProto)] 40, cellCh b6 [(.slice a3 l4 q5), (.bool s_0.xAccept)] 25, ownCh elGPlace 153 v17 xs18, ownCh elGVisit 157 v21 xs22, snapCh w0 F] w) ?_ ?_
  · intro k88
    refine c_region ?_
    refine o_mv st rfl rfl ?_
    refine o_nilc st rfl rfl ?_
    refine o_fad st rfl rfl fld130_0 rfl ?_
    refine o_ldc st (v := v17) 0 rfl rfl rfl ty127 rfl ?_
    refine o_len st el127 4 rfl reads_own rfl rfl ?_
    refine o_gtr st rfl rfl rfl ?_
    refine o_mv st rfl rfl ?_
    refine st_sp (dj := 19) rfl ?_ ?_
    · refine o_mv (st_g rfl rfl) rfl rfl ?_
      refine o_nilc (st_g rfl rfl) rfl rfl ?_
      refine o_fad (st_g rfl rfl) rfl rfl fld130_2 rfl ?_
      refine o_ldc (st_g rfl rfl) (v := (.int .i64 t25)) 0 rfl rfl rfl ty3 rfl ?_
      refine o_eql (st_g rfl rfl) und3 rfl rfl rfl ?_
      refine o_pickT st rfl rfl rfl ?_
      refine c_nil ?_
      exact l_join (decide (t25 = 5)) (fun a w hE hm => ⟨hE.sub ⟨rfl, rfl, rfl, rfl, trivial⟩, (hm.pick [0, 1, 2, 4, 5, 3] rfl)⟩)
    · refine st_s rfl rfl rfl rfl ?_
      refine st_s rfl rfl rfl rfl ?_
      refine st_s rfl rfl rfl rfl ?_
      refine st_s rfl rfl rfl rfl ?_
      refine st_s rfl rfl rfl rfl ?_
      refine o_pickF st rfl rfl rfl ?_
      refine c_nil ?_
      exact l_join false (fun a w hE hm => ⟨hE.sub ⟨rfl, rfl, rfl, rfl, trivial⟩, (hm.pick [0, 1, 2, 4, 5, 3] rfl)⟩)
  · rintro t87 a w ⟨hE, hm⟩ h
    refine nx_of hE hm h ?_
    clear hE hm h
    refine c_cond rfl ?_ ?_
    · refine c_skip ?_
      refine l_then ?_
      refine c_block ?_
      refine c_seq ?_
      refine nx_own 3 rfl ?_; rintro a89 l90 q91 rfl
      refine nx_own 4 rfl ?_; rintro a92 l93 q94 rfl
      refine c_draw mixed 12 rfl [cellCh b15 [(.slice a89 l90 q91), (.slice a92 l93 q94), (.int .i64 t25)] 130, cellCh b8 [(.int .i64 p_1.xFrom), (.int .i64 p_1.xTo), (.int .i64 p_1.xPort), (.int .i64 p_1.xProto)] 40, cellCh b6 [(.slice a3 l4 q5), (.bool s_0.xAccept)] 25, ownCh elGPlace 153 (.slice a89 l90 q91) xs18, ownCh elGVisit 157 (.slice a92 l93 q94) xs22, snapCh w0 F] ?_
      refine o_mv (dt 0 (fun _ m => m)) rfl rfl ?_
      refine o_nilc (dt 1 (fun _ m => m)) rfl rfl ?_
      refine o_fad (dt 2 (fun _ m => m)) rfl rfl fld130_0 rfl ?_
      refine o_ldc (dt 3 (fun _ m => m)) (v := (.slice a89 l90 q91)) 0 rfl rfl rfl ty127 rfl ?_
      refine o_mv (dt 4 (fun _ m => m)) rfl rfl ?_
      refine o_nilc (dt 5 (fun _ m => m)) rfl rfl ?_
      refine o_fad (dt 6 (fun _ m => m)) rfl rfl fld130_0 rfl ?_
      refine o_ldc (dt 7 (fun _ m => m)) (v := (.slice a89 l90 q91)) 0 rfl rfl rfl ty127 rfl ?_
      refine o_len (dt 8 (fun _ m => m)) el127 3 rfl reads_own rfl rfl ?_
      refine o_sub (dt 9 (fun _ m => m)) rfl rfl rfl ?_; intro t95
      refine o_idx (dt 10 (fun _ m => m)) 3 rfl reads_own rfl rfl rfl el127 ?_; intro e96 h97
      refine o_as (dt 11 (fun _ m => m)) rfl rfl ?_
      refine d_done (by kernel_rfl) ?_
      refine l_then ?_
      refine c_seq ?_
      refine c_draw mixed 9 rfl [cellCh b15 [(.slice a89 l90 q91), (.slice a92 l93 q94), (.int .i64 t25)] 130, cellCh b8 [(.int .i64 p_1.xFrom), (.int .i64 p_1.xTo), (.int .i64 p_1.xPort), (.int .i64 p_1.xProto)] 40, cellCh b6 [(.slice a3 l4 q5), (.bool s_0.xAccept)] 25, ownCh elGPlace 153 (.slice a89 l90 q91) xs18, ownCh elGVisit 157 (.slice a92 l93 q94) xs22, snapCh w0 F] ?_
      refine o_fad (dt 0 (fun _ m => m)) rfl rfl fld25_0 rfl ?_
      refine o_ldc (dt 1 (fun _ m => m)) (v := (.slice a3 l4 q5)) 2 rfl rfl rfl ty23 rfl ?_
      refine o_mv (dt 2 (fun _ m => m)) rfl rfl ?_
      refine o_nilE (dt 3 (fun _ m => m)) 3 rfl reads_own h97 rfl rfl ?_
      refine o_fadS (dt 4 (fun _ m => m)) 3 rfl reads_own h97 rfl rfl fld153_0 rfl ?_
      refine o_lds (dt 5 (fun _ m => m)) (enc := encGPlace) (u := (.int .i64 e96.xChain)) 3 rfl reads_own flelGPlace rfl h97 rfl rfl ty3 rfl ?_
      refine o_idx (dt 6 (fun _ m => m)) 5 rfl (reads_snap hv1) rfl rfl rfl el23 ?_; intro e98 h99
      obtain ⟨_, ⟨v101, rfl, sl102⟩, rw100⟩ := sl_open hv1 h99
      refine o_ldR (dt 7 (fun _ m => m)) (u := v101) 5 rfl rw100 rfl rfl ty101 rfl ?_
      refine o_as (dt 8 (fun _ m => m)) rfl rfl ?_
      refine d_done (by kernel_rfl) ?_
      refine l_then ?_
      refine c_seq ?_
      refine c_seq ?_
      refine c_region ?_
      refine o_mv st rfl rfl ?_
      refine o_nilE st 3 rfl reads_own h97 rfl rfl ?_
      refine o_fadS st 3 rfl reads_own h97 rfl rfl fld153_1 rfl ?_
      refine o_lds st (enc := encGPlace) (u := (.int .i64 e96.xNext)) 3 rfl reads_own flelGPlace rfl h97 rfl rfl ty3 rfl ?_
      refine o_mv st rfl rfl ?_
      refine o_len st el101 5 rfl (reads_snap sl102) rfl rfl ?_
      refine o_eql st und3 rfl rfl rfl ?_
      refine c_nil ?_
      refine l_then ?_
      refine c_cond rfl ?_ ?_
      · refine c_seq ?_
        refine c_region ?_
        refine o_mv st rfl rfl ?_
        refine pk [0, 3, 4, 1, 2, 5] rfl ?_
        refine stw (o_call (vs := [(.pointer (some ⟨b15, 0, none⟩))]) (M0 := [cellCh b15 [(.slice a89 l90 q91), (.slice a92 l93 q94), (.int .i64 t25)] 130, ownCh elGPlace 153 (.slice a89 l90 q91) xs18, ownCh elGVisit 157 (.slice a92 l93 q94) xs22]) Tryd.call105 rfl rfl (by intro w m h; exact (w_impl_walk_leave (F := allB [cellCh b15 [(.slice a89 l90 q91), (.slice a92 l93 q94), (.int .i64 t25)] 130, ownCh elGPlace 153 (.slice a89 l90 q91) xs18, ownCh elGVisit 157 (.slice a92 l93 q94) xs22] w) (w_0_stack := xs18) (w_0_visits := xs22) (w_0_decision := t25) allB_ok m.given h).mono (fun _ _ k => ret_free (fun r u => (fr_cons free_cell (fr_cons (free_own flelGPlace) (fr_cons (free_own flelGVisit) fr_nil)))) k)) ?_); rintro r104 v105
        refine c_nil ?_
        refine l_then ?_
        refine c_exit ?_
        refine l_exit ?_
        refine b_exit ?_
        exact l_join (r104, xs22, t25) (fun a w hE hm => ⟨v105, (.slice a92 l93 q94), hE.sub ⟨rfl, rfl, rfl, trivial⟩, (hm.pick [0, 3, 4, 5, 1, 2] rfl)⟩)
      · refine c_skip ?_
        refine l_then ?_
        refine c_seq ?_
        refine c_region ?_
        refine o_mv st rfl rfl ?_
        refine o_nilE st 3 rfl reads_own h97 rfl rfl ?_
        refine o_fadS st 3 rfl reads_own h97 rfl rfl fld153_1 rfl ?_
        refine o_lds st (enc := encGPlace) (u := (.int .i64 e96.xNext)) 3 rfl reads_own flelGPlace rfl h97 rfl rfl ty3 rfl ?_
        refine o_as st rfl rfl ?_
        refine c_nil ?_
        refine l_then ?_
        refine c_seq ?_
        refine c_region ?_
        refine o_mv st rfl rfl ?_
        refine o_nilE st 3 rfl reads_own h97 rfl rfl ?_
        refine o_fadS st 3 rfl reads_own h97 rfl rfl fld153_1 rfl ?_
        refine o_lds st (enc := encGPlace) (u := (.int .i64 e96.xNext)) 3 rfl reads_own flelGPlace rfl h97 rfl rfl ty3 rfl ?_
        refine o_add st rfl rfl rfl ?_; intro t107
        refine o_nilE st 3 rfl reads_own h97 rfl rfl ?_
        refine o_fadS st 3 rfl reads_own h97 rfl rfl fld153_1 rfl ?_
        refine stw (o_sts (enc := encGPlace) (y' := (GPlace.mk e96.xChain t107)) 3 rfl flelGPlace rfl h97 ty3 rfl rfl rfl rfl rfl rfl ?_)
        refine c_nil ?_
        refine l_then ?_
        refine c_seq ?_
        refine c_seq ?_
        refine c_draw mixed 8 rfl [cellCh b15 [(.slice a89 l90 q91), (.slice a92 l93 q94), (.int .i64 t25)] 130, cellCh b8 [(.int .i64 p_1.xFrom), (.int .i64 p_1.xTo), (.int .i64 p_1.xPort), (.int .i64 p_1.xProto)] 40, cellCh b6 [(.slice a3 l4 q5), (.bool s_0.xAccept)] 25, ownCh elGPlace 153 (.slice a89 l90 q91) (xs18.set (t95).toNat (GPlace.mk e96.xChain t107)), ownCh elGVisit 157 (.slice a92 l93 q94) xs22, snapCh w0 F] ?_
        refine o_mv (dt 0 (fun _ m => m)) rfl rfl ?_
        refine o_mv (dt 1 (fun _ m => m)) rfl rfl ?_
        refine o_idx (dt 2 (fun _ m => m)) 5 rfl (reads_snap sl102) rfl rfl rfl el101 ?_; intro e109 h110
        refine o_fadS (dt 3 (fun _ m => m)) 5 rfl (reads_snap sl102) h110 rfl rfl fld104_0 rfl ?_
        obtain ⟨_, ⟨v112, rfl, sl113⟩, rw111⟩ := sl_open sl102 h110
        refine o_ldR (dt 4 (fun _ m => m)) (u := v112) 5 rfl rw111 rfl rfl ty102 rfl ?_
        refine o_ldc (dt 5 (fun _ m => m)) (v := (.agg #[(.int .i64 p_1.xFrom), (.int .i64 p_1.xTo), (.int .i64 p_1.xPort), (.int .i64 p_1.xProto)])) 1 rfl rfl rfl ty40 rfl ?_
        refine d_one (i := 6) rfl (by kernel_rfl) (o_callP (vs := [v112, (.agg #[(.int .i64 p_1.xFrom), (.int .i64 p_1.xTo), (.int .i64 p_1.xPort), (.int .i64 p_1.xProto)])]) Tryd.call106 rfl rfl (by intro w m h; exact (w_impl_allHold (F := allB [] w) (list_0 := e109.xTests) (p_1 := p_1) allB_ok (m.rd0 5 rfl (reads_snap sl113)) h).mono (fun _ _ k => ret_free (fun r u => fr_nil) k)) ?_); rintro r115 _
        refine d_and (fun _ m => m) ?_
        refine o_not (dt 7 (fun _ m => m)) rfl rfl ?_
        refine d_done (by kernel_rfl) ?_
        refine l_then ?_
        refine c_cond rfl ?_ ?_
        · refine c_exit ?_
          refine l_exit ?_
          refine b_exit ?_
          exact l_join ((xs18.set (t95).toNat (GPlace.mk e96.xChain t107)), xs22, t25) (fun a w hE hm => ⟨(.slice a89 l90 q91), (.slice a92 l93 q94), hE.sub ⟨rfl, rfl, rfl, trivial⟩, (hm.pick [0, 1, 2, 5, 3, 4] rfl)⟩)
        · refine c_skip ?_
          refine l_then ?_
          refine c_join (σ := (List GVisit)) (fun (xs187 : (List GVisit)) (a : Act) (w : World) => ∃ (v188 : Value), Has 102 [(2, (.pointer (some ⟨b6, 0, none⟩))), (3, (.pointer (some ⟨b8, 0, none⟩))), (5, (.pointer (some ⟨b15, 0, none⟩))), (7, v101), (8, (.int .i64 e96.xNext))] a ∧ Mem (gB F [] w0) (feet []) w0 [cellCh b15 [(.slice a89 l90 q91), v188, (.int .i64 t25)] 130, cellCh b8 [(.int .i64 p_1.xFrom), (.int .i64 p_1.xTo), (.int .i64 p_1.xPort), (.int .i64 p_1.xProto)] 40, cellCh b6 [(.slice a3 l4 q5), (.bool s_0.xAccept)] 25, ownCh elGPlace 153 (.slice a89 l90 q91) (xs18.set (t95).toNat (GPlace.mk e96.xChain t107)), ownCh elGVisit 157 v188 xs187, snapCh w0 F] w) ?_ ?_
          · intro k190
            refine c_seq ?_
            refine c_region ?_
            refine o_mv st rfl rfl ?_
            refine o_nilc st rfl rfl ?_
            refine o_fad st rfl rfl fld130_1 rfl ?_
            refine o_ldc st (v := (.slice a92 l93 q94)) 0 rfl rfl rfl ty128 rfl ?_
            refine o_len st el128 4 rfl reads_own rfl rfl ?_
            refine o_lss st rfl rfl rfl ?_
            refine c_nil ?_
            refine l_then ?_
            refine c_cond rfl ?_ ?_
            · refine c_join1 (σ := (List GVisit)) (fun (xs116 : (List GVisit)) (a : Act) (w : World) => ∃ (v117 : Value), Has 102 [(2, (.pointer (some ⟨b6, 0, none⟩))), (3, (.pointer (some ⟨b8, 0, none⟩))), (5, (.pointer (some ⟨b15, 0, none⟩))), (7, v101), (8, (.int .i64 e96.xNext))] a ∧ Mem (gB F [] w0) (feet []) w0 [cellCh b15 [(.slice a89 l90 q91), v117, (.int .i64 t25)] 130, cellCh b8 [(.int .i64 p_1.xFrom), (.int .i64 p_1.xTo), (.int .i64 p_1.xPort), (.int .i64 p_1.xProto)] 40, cellCh b6 [(.slice a3 l4 q5), (.bool s_0.xAccept)] 25, ownCh elGPlace 153 (.slice a89 l90 q91) (xs18.set (t95).toNat (GPlace.mk e96.xChain t107)), ownCh elGVisit 157 v117 xs116, snapCh w0 F] w) ?_ ?_
              · intro k119
                refine c_drawQ mixed 16 rfl [cellCh b8 [(.int .i64 p_1.xFrom), (.int .i64 p_1.xTo), (.int .i64 p_1.xPort), (.int .i64 p_1.xProto)] 40, cellCh b6 [(.slice a3 l4 q5), (.bool s_0.xAccept)] 25, ownCh elGPlace 153 (.slice a89 l90 q91) (xs18.set (t95).toNat (GPlace.mk e96.xChain t107)), snapCh w0 F] ?_
                intro Qd hP hQ
                have H572 : ∀ (v120 : Value) (a123 : Option Addr) (l124 : Nat) (q125 : Nat), Nx 102 (gB F [] w0) (feet []) w0 (wpAnyH Tryd.prog .any (opsAt Tryd.f90 [1, 1, 0, 0, 0, 1, 0, 1, 1, 1, 1, 1, 1, 0, 1, 0]) Qd (Mem (gB F [] w0) (feet []) w0 [cellCh b8 [(.int .i64 p_1.xFrom), (.int .i64 p_1.xTo), (.int .i64 p_1.xPort), (.int .i64 p_1.xProto)] 40, cellCh b6 [(.slice a3 l4 q5), (.bool s_0.xAccept)] 25, ownCh elGPlace 153 (.slice a89 l90 q91) (xs18.set (t95).toNat (GPlace.mk e96.xChain t107)), snapCh w0 F]) 0 #[true, true, true, true, true, true, true, true, true, true, true, true, true, true, true, true]) [(2, (.pointer (some ⟨b6, 0, none⟩))), (3, (.pointer (some ⟨b8, 0, none⟩))), (5, (.pointer (some ⟨b15, 0, none⟩))), (7, v101), (8, (.int .i64 e96.xNext))] [cellCh b15 [(.slice a89 l90 q91), (.slice a123 l124 q125), (.int .i64 t25)] 130, cellCh b8 [(.int .i64 p_1.xFrom), (.int .i64 p_1.xTo), (.int .i64 p_1.xPort), (.int .i64 p_1.xProto)] 40, cellCh b6 [(.slice a3 l4 q5), (.bool s_0.xAccept)] 25, ownCh elGPlace 153 (.slice a89 l90 q91) (xs18.set (t95).toNat (GPlace.mk e96.xChain t107)), ownCh elGVisit 157 (.slice a123 l124 q125) (xs22 ++ ([(GVisit.mk e96.xChain e96.xNext)])), snapCh w0 F] (k119 (xs22 ++ ([(GVisit.mk e96.xChain e96.xNext)]))) := by
                  intro v120 a123 l124 q125
                  refine d_done (by kernel_rfl) ?_
                  exact fun a w hE hm hφ => hQ (xs22 ++ ([(GVisit.mk e96.xChain e96.xNext)])) a w hφ ((fun a w hE hm => ⟨(.slice a123 l124 q125), hE.sub ⟨rfl, rfl, rfl, rfl, rfl, trivial⟩, (hm.pick [0, 1, 2, 3, 4, 5] rfl)⟩) a w hE hm)
                have H573 : ∀ (v120 : Value) (v121 : Value), Nx 102 (gB F [] w0) (feet []) w0 (wpAnyH Tryd.prog .any (opsAt Tryd.f90 [1, 1, 0, 0, 0, 1, 0, 1, 1, 1, 1, 1, 1, 0, 1, 0]) Qd (Mem (gB F [] w0) (feet []) w0 [cellCh b8 [(.int .i64 p_1.xFrom), (.int .i64 p_1.xTo), (.int .i64 p_1.xPort), (.int .i64 p_1.xProto)] 40, cellCh b6 [(.slice a3 l4 q5), (.bool s_0.xAccept)] 25, ownCh elGPlace 153 (.slice a89 l90 q91) (xs18.set (t95).toNat (GPlace.mk e96.xChain t107)), snapCh w0 F]) 3 #[true, true, true, true, true, true, true, true, true, true, true, true, true, false, false, false]) [(2, (.pointer (some ⟨b6, 0, none⟩))), (3, (.pointer (some ⟨b8, 0, none⟩))), (5, (.pointer (some ⟨b15, 0, none⟩))), (7, v101), (8, (.int .i64 e96.xNext)), (79, (.pointer (some ⟨b15, 0, none⟩))), (91, v121)] [cellCh b15 [(.slice a89 l90 q91), (.slice a92 l93 q94), (.int .i64 t25)] 130, cellCh b8 [(.int .i64 p_1.xFrom), (.int .i64 p_1.xTo), (.int .i64 p_1.xPort), (.int .i64 p_1.xProto)] 40, cellCh b6 [(.slice a3 l4 q5), (.bool s_0.xAccept)] 25, ownCh elGPlace 153 (.slice a89 l90 q91) (xs18.set (t95).toNat (GPlace.mk e96.xChain t107)), ownCh elGVisit 157 v121 (xs22 ++ ([(GVisit.mk e96.xChain e96.xNext)])), snapCh w0 F] (k119 (xs22 ++ ([(GVisit.mk e96.xChain e96.xNext)]))) := by
                  intro v120 v121
                  refine o_nilc (dt 13 (fun w m => m.pick [1, 2, 3, 5] rfl)) rfl rfl ?_
                  refine o_fad (dt 14 (fun w m => m.pick [1, 2, 3, 5] rfl)) rfl rfl fld130_1 rfl ?_
                  refine nx_own 4 rfl ?_; rintro a123 l124 q125 rfl
                  refine d_one (i := 15) rfl (by kernel_rfl) (o_stc (cs' := [(.slice a89 l90 q91), (.slice a123 l124 q125), (.int .i64 t25)]) 0 rfl rfl rfl ty128 rfl rfl rfl rfl ?_)
                  refine d_and (fun w m => m.pick [1, 2, 3, 5] rfl) ?_
                  refine pk [0, 1, 2, 3, 4, 5] rfl ?_
                  refine re (E' := [(2, (.pointer (some ⟨b6, 0, none⟩))), (3, (.pointer (some ⟨b8, 0, none⟩))), (5, (.pointer (some ⟨b15, 0, none⟩))), (7, v101), (8, (.int .i64 e96.xNext))]) ⟨rfl, rfl, rfl, rfl, rfl, trivial⟩ ?_
                  exact H572 v120 a123 l124 q125
                have H574 : ∀ (v120 : Value), Nx 102 (gB F [] w0) (feet []) w0 (wpAnyH Tryd.prog .any (opsAt Tryd.f90 [1, 1, 0, 0, 0, 1, 0, 1, 1, 1, 1, 1, 1, 0, 1, 0]) Qd (Mem (gB F [] w0) (feet []) w0 [cellCh b8 [(.int .i64 p_1.xFrom), (.int .i64 p_1.xTo), (.int .i64 p_1.xPort), (.int .i64 p_1.xProto)] 40, cellCh b6 [(.slice a3 l4 q5), (.bool s_0.xAccept)] 25, ownCh elGPlace 153 (.slice a89 l90 q91) (xs18.set (t95).toNat (GPlace.mk e96.xChain t107)), snapCh w0 F]) 4 #[true, true, true, true, true, true, true, true, true, true, true, true, false, false, false, false]) [(2, (.pointer (some ⟨b6, 0, none⟩))), (3, (.pointer (some ⟨b8, 0, none⟩))), (5, (.pointer (some ⟨b15, 0, none⟩))), (7, v101), (8, (.int .i64 e96.xNext)), (79, (.pointer (some ⟨b15, 0, none⟩))), (83, (.slice a92 l93 q94)), (90, v120)] [ownCh elGVisit 157 v120 ([(GVisit.mk e96.xChain e96.xNext)]), cellCh b15 [(.slice a89 l90 q91), (.slice a92 l93 q94), (.int .i64 t25)] 130, cellCh b8 [(.int .i64 p_1.xFrom), (.int .i64 p_1.xTo), (.int .i64 p_1.xPort), (.int .i64 p_1.xProto)] 40, cellCh b6 [(.slice a3 l4 q5), (.bool s_0.xAccept)] 25, ownCh elGPlace 153 (.slice a89 l90 q91) (xs18.set (t95).toNat (GPlace.mk e96.xChain t107)), ownCh elGVisit 157 (.slice a92 l93 q94) xs22, snapCh w0 F] (appW xs22 ([(GVisit.mk e96.xChain e96.xNext)]) (fun _ => k119 (xs22 ++ ([(GVisit.mk e96.xChain e96.xNext)])))) := by
                  intro v120
                  refine d_one (i := 12) rfl (by kernel_rfl) (o_app 5 0 rfl rfl (src_flat flelGVisit reads_own) rfl rfl rfl el128 rfl zero157 rfl rfl ?_); intro v121
                  refine d_and (fun w m => m.pick [2, 3, 4, 6] rfl) ?_
                  refine pk [1, 2, 3, 4, 5, 6] rfl ?_
                  refine re (E' := [(2, (.pointer (some ⟨b6, 0, none⟩))), (3, (.pointer (some ⟨b8, 0, none⟩))), (5, (.pointer (some ⟨b15, 0, none⟩))), (7, v101), (8, (.int .i64 e96.xNext)), (79, (.pointer (some ⟨b15, 0, none⟩))), (91, v121)]) ⟨rfl, rfl, rfl, rfl, rfl, rfl, rfl, trivial⟩ ?_
                  exact H573 v120 v121
                have H575 : ∀ (_ : Unit), Nx 102 (gB F [] w0) (feet []) w0 (wpAnyH Tryd.prog .any (opsAt Tryd.f90 [1, 1, 0, 0, 0, 1, 0, 1, 1, 1, 1, 1, 1, 0, 1, 0]) Qd (Mem (gB F [] w0) (feet []) w0 [cellCh b8 [(.int .i64 p_1.xFrom), (.int .i64 p_1.xTo), (.int .i64 p_1.xPort), (.int .i64 p_1.xProto)] 40, cellCh b6 [(.slice a3 l4 q5), (.bool s_0.xAccept)] 25, ownCh elGPlace 153 (.slice a89 l90 q91) (xs18.set (t95).toNat (GPlace.mk e96.xChain t107)), snapCh w0 F]) 5 #[true, true, true, true, true, true, true, true, true, true, true, false, false, false, false, false]) [(2, (.pointer (some ⟨b6, 0, none⟩))), (3, (.pointer (some ⟨b8, 0, none⟩))), (5, (.pointer (some ⟨b15, 0, none⟩))), (7, v101), (8, (.int .i64 e96.xNext)), (79, (.pointer (some ⟨b15, 0, none⟩))), (89, (.agg #[(.int .i64 e96.xChain), (.int .i64 e96.xNext)])), (83, (.slice a92 l93 q94))] [cellCh b15 [(.slice a89 l90 q91), (.slice a92 l93 q94), (.int .i64 t25)] 130, cellCh b8 [(.int .i64 p_1.xFrom), (.int .i64 p_1.xTo), (.int .i64 p_1.xPort), (.int .i64 p_1.xProto)] 40, cellCh b6 [(.slice a3 l4 q5), (.bool s_0.xAccept)] 25, ownCh elGPlace 153 (.slice a89 l90 q91) (xs18.set (t95).toNat (GPlace.mk e96.xChain t107)), ownCh elGVisit 157 (.slice a92 l93 q94) xs22, snapCh w0 F] (appW xs22 ([(GVisit.mk e96.xChain e96.xNext)]) (fun _ => k119 (xs22 ++ ([(GVisit.mk e96.xChain e96.xNext)])))) := by
                  intro _
                  refine d_one (i := 11) rfl (by kernel_rfl) (o_bsl (enc := encGVisit) (qs := [(0, (.agg #[(.int .i64 e96.xChain), (.int .i64 e96.xNext)]))]) (cells := [(.int .i64 e96.xChain), (.int .i64 e96.xNext)]) ([(GVisit.mk e96.xChain e96.xNext)]) flelGVisit (by intro ρ h; simp only [List.map_toArray, List.map_cons, List.map_nil, h (.tmp 89) _ rfl]) rfl el128 zero157 rfl rfl rfl rfl rfl rfl ?_); intro v120
                  refine d_and (fun w m => m.pick [2, 3, 4, 6] rfl) ?_
                  refine pk [0, 1, 2, 3, 4, 5, 6] rfl ?_
                  refine re (E' := [(2, (.pointer (some ⟨b6, 0, none⟩))), (3, (.pointer (some ⟨b8, 0, none⟩))), (5, (.pointer (some ⟨b15, 0, none⟩))), (7, v101), (8, (.int .i64 e96.xNext)), (79, (.pointer (some ⟨b15, 0, none⟩))), (83, (.slice a92 l93 q94)), (90, v120)]) ⟨rfl, rfl, rfl, rfl, rfl, rfl, rfl, rfl, trivial⟩ ?_
                  exact H574 v120
                have H576 : ∀ (v126 : Value), Nx 102 (gB F [] w0) (feet []) w0 (wpAnyH Tryd.prog .any (opsAt Tryd.f90 [1, 1, 0, 0, 0, 1, 0, 1, 1, 1, 1, 1, 1, 0, 1, 0]) Qd (Mem (gB F [] w0) (feet []) w0 [cellCh b8 [(.int .i64 p_1.xFrom), (.int .i64 p_1.xTo), (.int .i64 p_1.xPort), (.int .i64 p_1.xProto)] 40, cellCh b6 [(.slice a3 l4 q5), (.bool s_0.xAccept)] 25, ownCh elGPlace 153 (.slice a89 l90 q91) (xs18.set (t95).toNat (GPlace.mk e96.xChain t107)), snapCh w0 F]) 5 #[true, true, true, true, false, true, true, true, true, true, true, true, false, false, false, false]) [(2, (.pointer (some ⟨b6, 0, none⟩))), (3, (.pointer (some ⟨b8, 0, none⟩))), (5, (.pointer (some ⟨b15, 0, none⟩))), (7, v101), (8, (.int .i64 e96.xNext)), (79, (.pointer (some ⟨b15, 0, none⟩))), (82, (.pointer (some ⟨b15, 1, none⟩))), (90, v126)] [ownCh elGVisit 157 v126 ([(GVisit.mk e96.xChain e96.xNext)]), cellCh b15 [(.slice a89 l90 q91), (.slice a92 l93 q94), (.int .i64 t25)] 130, cellCh b8 [(.int .i64 p_1.xFrom), (.int .i64 p_1.xTo), (.int .i64 p_1.xPort), (.int .i64 p_1.xProto)] 40, cellCh b6 [(.slice a3 l4 q5), (.bool s_0.xAccept)] 25, ownCh elGPlace 153 (.slice a89 l90 q91) (xs18.set (t95).toNat (GPlace.mk e96.xChain t107)), ownCh elGVisit 157 (.slice a92 l93 q94) xs22, snapCh w0 F] (appW xs22 ([(GVisit.mk e96.xChain e96.xNext)]) (fun _ => k119 (xs22 ++ ([(GVisit.mk e96.xChain e96.xNext)])))) := by
                  intro v126
                  refine d_one (i := 4) rfl (by kernel_rfl) (o_ldc m_op (v := (.slice a92 l93 q94)) 1 rfl rfl rfl ty128 rfl ?_)
                  refine d_and (fun w m => m.pick [2, 3, 4, 6] rfl) ?_
                  refine pk [0, 1, 2, 3, 4, 5, 6] rfl ?_
                  refine re (E' := [(2, (.pointer (some ⟨b6, 0, none⟩))), (3, (.pointer (some ⟨b8, 0, none⟩))), (5, (.pointer (some ⟨b15, 0, none⟩))), (7, v101), (8, (.int .i64 e96.xNext)), (79, (.pointer (some ⟨b15, 0, none⟩))), (83, (.slice a92 l93 q94)), (90, v126)]) ⟨rfl, rfl, rfl, rfl, rfl, rfl, rfl, rfl, trivial⟩ ?_
                  exact H574 v126
                refine o_mv (dt 0 (fun w m => m.pick [1, 2, 3, 5] rfl)) rfl rfl ?_
                refine o_mv (dt 1 (fun w m => m.pick [1, 2, 3, 5] rfl)) rfl rfl ?_
                refine o_nilc (dt 2 (fun w m => m.pick [1, 2, 3, 5] rfl)) rfl rfl ?_
                refine o_fad (dt 3 (fun w m => m.pick [1, 2, 3, 5] rfl)) rfl rfl fld130_1 rfl ?_
                refine o_mv (dt 5 (fun w m => m.pick [1, 2, 3, 5] rfl)) rfl rfl ?_
                refine o_nilE (dt 6 (fun w m => m.pick [1, 2, 3, 5] rfl)) 2 rfl reads_own (gset h97) rfl rfl ?_
                refine o_fadS (dt 7 (fun w m => m.pick [1, 2, 3, 5] rfl)) 2 rfl reads_own (gset h97) rfl rfl fld153_0 rfl ?_
                refine o_lds (dt 8 (fun w m => m.pick [1, 2, 3, 5] rfl)) (enc := encGPlace) (u := (.int .i64 e96.xChain)) 2 rfl reads_own flelGPlace rfl (gset h97) rfl rfl ty3 rfl ?_
                refine o_mv (dt 9 (fun w m => m.pick [1, 2, 3, 5] rfl)) rfl rfl ?_
                refine o_bld (dt 10 (fun w m => m.pick [1, 2, 3, 5] rfl)) (qs := [(0, (.int .i64 e96.xChain)), (1, (.int .i64 e96.xNext))]) (cells := [(.int .i64 e96.xChain), (.int .i64 e96.xNext)]) (by intro ρ h; simp only [List.map_toArray, List.map_cons, List.map_nil, h (.tmp 87) _ rfl, h (.tmp 88) _ rfl]) rfl bld157 rfl ?_
                refine d_two (i := 4) (j := 11) rfl rfl (by kernel_rfl) ?_ ?_
                · intro o ho; cases ho
                  refine o_ldc m_op (v := (.slice a92 l93 q94)) 0 rfl rfl rfl ty128 rfl ?_
                  refine d_and (fun w m => m.pick [1, 2, 3, 5] rfl) ?_
                  refine pk [0, 1, 2, 3, 4, 5] rfl ?_
                  refine re (E' := [(2, (.pointer (some ⟨b6, 0, none⟩))), (3, (.pointer (some ⟨b8, 0, none⟩))), (5, (.pointer (some ⟨b15, 0, none⟩))), (7, v101), (8, (.int .i64 e96.xNext)), (79, (.pointer (some ⟨b15, 0, none⟩))), (89, (.agg #[(.int .i64 e96.xChain), (.int .i64 e96.xNext)])), (83, (.slice a92 l93 q94))]) ⟨rfl, rfl, rfl, rfl, rfl, rfl, rfl, rfl, trivial⟩ ?_
                  exact H575 ()
                · intro o ho; cases ho
                  refine o_bsl (enc := encGVisit) (qs := [(0, (.agg #[(.int .i64 e96.xChain), (.int .i64 e96.xNext)]))]) (cells := [(.int .i64 e96.xChain), (.int .i64 e96.xNext)]) ([(GVisit.mk e96.xChain e96.xNext)]) flelGVisit (by intro ρ h; simp only [List.map_toArray, List.map_cons, List.map_nil, h (.tmp 89) _ rfl]) rfl el128 zero157 rfl rfl rfl rfl rfl rfl ?_; intro v126
                  refine d_and (fun w m => m.pick [2, 3, 4, 6] rfl) ?_
                  refine pk [0, 1, 2, 3, 4, 5, 6] rfl ?_
                  refine re (E' := [(2, (.pointer (some ⟨b6, 0, none⟩))), (3, (.pointer (some ⟨b8, 0, none⟩))), (5, (.pointer (some ⟨b15, 0, none⟩))), (7, v101), (8, (.int .i64 e96.xNext)), (79, (.pointer (some ⟨b15, 0, none⟩))), (82, (.pointer (some ⟨b15, 1, none⟩))), (90, v126)]) ⟨rfl, rfl, rfl, rfl, rfl, rfl, rfl, rfl, trivial⟩ ?_
                  exact H576 v126
              · rintro xs116 a w ⟨v117, hE, hm⟩ h
                refine nx_of hE hm h ?_
                clear hE hm h
                exact l_join xs116 (fun a w hE hm => ⟨v117, hE.sub ⟨rfl, rfl, rfl, rfl, rfl, trivial⟩, (hm.pick [0, 1, 2, 3, 4, 5] rfl)⟩)
            · refine c_skip ?_
              exact l_join xs22 (fun a w hE hm => ⟨(.slice a92 l93 q94), hE.sub ⟨rfl, rfl, rfl, rfl, rfl, trivial⟩, (hm.pick [0, 1, 2, 3, 4, 5] rfl)⟩)
          · rintro xs187 a w ⟨v188, hE, hm⟩ h
            refine nx_of hE hm h ?_
            clear hE hm h
            refine c_region ?_
            refine o_mv st rfl rfl ?_
            refine o_mv st rfl rfl ?_
            refine o_idx st 5 rfl (reads_snap sl102) rfl rfl rfl el101 ?_; intro e191 h192
            obtain ⟨_, ⟨v194, rfl, sl195⟩, rw193⟩ := sl_open sl102 h192
            refine o_ldR st (u := (.agg #[v194, (.int .i64 e191.xAction), (.int .i64 e191.xChain)])) 5 rfl rw193 rfl rfl ty104 rfl ?_
            refine stw (o_callP (vs := [(.agg #[v194, (.int .i64 e191.xAction), (.int .i64 e191.xChain)])]) Tryd.call107 rfl rfl (by intro w m h; exact (w_impl_actionOf (F := allB [] w) (r_0 := e191) allB_ok (m.rd0 5 rfl (reads_snap sl195)) h).mono (fun _ _ k => ret_free (fun r u => fr_nil) k)) ?_); rintro r197 _
            refine o_mv st rfl rfl ?_
            rcases r197 with x198 | x199 | x200 | x201
            · dsimp only [IAction.casesW]
              refine pk [0, 3, 4, 1, 2, 5] rfl ?_
              refine stw (o_callX (M0 := [cellCh b15 [(.slice a89 l90 q91), v188, (.int .i64 t25)] 130, ownCh elGPlace 153 (.slice a89 l90 q91) (xs18.set (t95).toNat (GPlace.mk e96.xChain t107)), ownCh elGVisit 157 v188 xs187]) rfl (runs_inv rfl rfl (fun w => meth178_walk _ w) Tryd.call147) rfl (by intro w m h; exact (w_impl_deciding_walk (F := allB [cellCh b15 [(.slice a89 l90 q91), v188, (.int .i64 t25)] 130, ownCh elGPlace 153 (.slice a89 l90 q91) (xs18.set (t95).toNat (GPlace.mk e96.xChain t107)), ownCh elGVisit 157 v188 xs187] w) (d_0 := x198) (w_1_stack := (xs18.set (t95).toNat (GPlace.mk e96.xChain t107))) (w_1_visits := xs187) (w_1_decision := t25) allB_ok m.given h).mono (fun _ _ k => ret_free (fun r u => (fr_cons free_cell (fr_cons (free_own flelGPlace) (fr_cons (free_own flelGVisit) fr_nil)))) k)) ?_); rintro r202 _
              refine c_nil ?_
              refine b_norm ?_
              exact l_join ((xs18.set (t95).toNat (GPlace.mk e96.xChain t107)), xs187, r202) (fun a w hE hm => ⟨(.slice a89 l90 q91), v188, hE.sub ⟨rfl, rfl, rfl, trivial⟩, (hm.pick [0, 3, 4, 5, 1, 2] rfl)⟩)
            · dsimp only [IAction.casesW]
              refine pk [0, 3, 4, 1, 2, 5] rfl ?_
              refine stw (o_callX (M0 := [cellCh b15 [(.slice a89 l90 q91), v188, (.int .i64 t25)] 130, ownCh elGPlace 153 (.slice a89 l90 q91) (xs18.set (t95).toNat (GPlace.mk e96.xChain t107)), ownCh elGVisit 157 v188 xs187]) rfl (runs_inv rfl rfl (fun w => meth180_walk _ w) Tryd.call150) rfl (by intro w m h; exact (w_impl_calling_walk (F := allB [cellCh b15 [(.slice a89 l90 q91), v188, (.int .i64 t25)] 130, ownCh elGPlace 153 (.slice a89 l90 q91) (xs18.set (t95).toNat (GPlace.mk e96.xChain t107)), ownCh elGVisit 157 v188 xs187] w) (c_0 := x199) (w_1_stack := (xs18.set (t95).toNat (GPlace.mk e96.xChain t107))) (w_1_visits := xs187) (w_1_decision := t25) allB_ok m.given h).mono (fun _ _ k => ret_free (fun r u => (fr_cons free_cell (fr_cons (free_own flelGPlace) (fr_cons (free_own flelGVisit) fr_nil)))) k)) ?_); rintro r203 v204
              refine c_nil ?_
              refine b_norm ?_
              exact l_join (r203, xs187, t25) (fun a w hE hm => ⟨v204, v188, hE.sub ⟨rfl, rfl, rfl, trivial⟩, (hm.pick [0, 3, 4, 5, 1, 2] rfl)⟩)
            · dsimp only [IAction.casesW]
              refine pk [0, 3, 4, 1, 2, 5] rfl ?_
              refine stw (o_callX (M0 := [cellCh b15 [(.slice a89 l90 q91), v188, (.int .i64 t25)] 130, ownCh elGPlace 153 (.slice a89 l90 q91) (xs18.set (t95).toNat (GPlace.mk e96.xChain t107)), ownCh elGVisit 157 v188 xs187]) rfl (runs_inv rfl rfl (fun w => meth182_walk _ w) Tryd.call153) rfl (by intro w m h; exact (w_impl_returning_walk (F := allB [cellCh b15 [(.slice a89 l90 q91), v188, (.int .i64 t25)] 130, ownCh elGPlace 153 (.slice a89 l90 q91) (xs18.set (t95).toNat (GPlace.mk e96.xChain t107)), ownCh elGVisit 157 v188 xs187] w) (a_0 := (GReturning.mk )) (w_1_stack := (xs18.set (t95).toNat (GPlace.mk e96.xChain t107))) (w_1_visits := xs187) (w_1_decision := t25) allB_ok m.given h).mono (fun _ _ k => ret_free (fun r u => (fr_cons free_cell (fr_cons (free_own flelGPlace) (fr_cons (free_own flelGVisit) fr_nil)))) k)) ?_); rintro r206 v207
              refine c_nil ?_
              refine b_norm ?_
              exact l_join (r206, xs187, t25) (fun a w hE hm => ⟨v207, v188, hE.sub ⟨rfl, rfl, rfl, trivial⟩, (hm.pick [0, 3, 4, 5, 1, 2] rfl)⟩)
            · dsimp only [IAction.casesW]
              refine pk [0, 3, 4, 1, 2, 5] rfl ?_
              refine stw (o_callX (M0 := [cellCh b15 [(.slice a89 l90 q91), v188, (.int .i64 t25)] 130, ownCh elGPlace 153 (.slice a89 l90 q91) (xs18.set (t95).toNat (GPlace.mk e96.xChain t107)), ownCh elGVisit 157 v188 xs187]) rfl (runs_inv rfl rfl (fun w => meth183_walk _ w) Tryd.call156) rfl (by intro w m h; exact (w_impl_passing_walk (F := allB [cellCh b15 [(.slice a89 l90 q91), v188, (.int .i64 t25)] 130, ownCh elGPlace 153 (.slice a89 l90 q91) (xs18.set (t95).toNat (GPlace.mk e96.xChain t107)), ownCh elGVisit 157 v188 xs187] w) (a_0 := (GPassing.mk )) (a_1_stack := (xs18.set (t95).toNat (GPlace.mk e96.xChain t107))) (a_1_visits := xs187) (a_1_decision := t25) allB_ok m.given h).mono (fun _ _ k => ret_free (fun r u => (fr_cons free_cell (fr_cons (free_own flelGPlace) (fr_cons (free_own flelGVisit) fr_nil)))) k)) ?_); rintro _ _
              refine c_nil ?_
              refine b_norm ?_
              exact l_join ((xs18.set (t95).toNat (GPlace.mk e96.xChain t107)), xs187, t25) (fun a w hE hm => ⟨(.slice a89 l90 q91), v188, hE.sub ⟨rfl, rfl, rfl, trivial⟩, (hm.pick [0, 3, 4, 5, 1, 2] rfl)⟩)
    · refine c_exit ?_
      refine l_exit ?_
      refine l_exit ?_
      refine b_exit ?_
      refine l_then ?_
      refine c_seq ?_
      refine c_region ?_
      refine o_mv st rfl rfl ?_
      refine o_as st rfl rfl ?_
      refine c_nil ?_
      refine l_then ?_
      refine c_ret ?_
      exact l_end1 Tryd.results90 (xs18, xs22, t25) (b15, v17, v21) (rv_t rfl) (fun w m => NewCh.ofB m [0, 3, 4] rfl)

end

end Go.Proofs.YtigdghiknfehhaaDoor
