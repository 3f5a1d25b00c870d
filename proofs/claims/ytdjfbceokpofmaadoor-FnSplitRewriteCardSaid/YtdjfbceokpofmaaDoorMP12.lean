/- Texts of this seat, put together. -/
import Derived.Test.YtdjfbceokpofmaaDoorMP1
set_option linter.unusedSimpArgs false
set_option linter.unusedVariables false
set_option linter.unusedSectionVars false
namespace Go.Proofs.YtdjfbceokpofmaaDoor
section
open Go.RowKit
set_option maxRecDepth 100000 in
set_option maxHeartbeats 8000000 in
theorem w_spec_l20Rewrites {w0 : World} {F : Nat → Prop} {b1 : Nat} {v2 : Value} {r_0_b : (List UInt8)} {r_0_p : Int} {n_1 : Int} {κ : ((List GRewrite) × Int) → Prop} (hF : ∀ b, F b → b < w0.heap.size ∧ ¬ feet [cellCh b1 [v2, (.int .i64 r_0_p)] 99] b) (hg : Given [cellCh b1 [v2, (.int .i64 r_0_p)] 99] F w0) (hv2 : Sl elU8 F w0 v2 r_0_b) (h : L_spec_l20Rewrites r_0_b r_0_p n_1 κ) :
    Calls Tryd.prog 40 #[(.pointer (some ⟨b1, 0, none⟩)), (.int .i64 n_1)] w0 (Ret [cellCh b1 [v2, (.int .i64 r_0_p)] 99] F w0 κ (fun (r : ((List GRewrite) × Int)) (u : Value) => u) (fun (r : ((List GRewrite) × Int)) (u : Value) => [ownCh elGRewrite 38 u r.1, cellCh b1 [v2, (.int .i64 r.2)] 99])) := by
  refine enterS (args := [(.pointer (some ⟨b1, 0, none⟩)), (.int .i64 n_1)]) [cellCh b1 [v2, (.int .i64 r_0_p)] 99] hF hg Tryd.func40 rfl Tryd.ntmps40 rfl h ?_
  clear h hF hg
  refine c_seq ?_
  refine c_region ?_
  refine stw (o_asn elGRewrite 38 rfl rfl ?_)
  refine c_nil ?_
  refine l_then ?_
  refine c_seq ?_
  refine c_region ?_
  refine stw (o_bsl (enc := encGRewrite) (qs := []) (cells := []) ([] : (List GRewrite)) flelGRewrite (by intro ρ h; simp only [List.map_toArray, List.map_cons, List.map_nil]) rfl el28 zero38 rfl rfl rfl rfl rfl rfl ?_); intro v6
  refine o_as st rfl rfl ?_
  refine c_nil ?_
  refine l_then ?_
  refine c_seq ?_
  refine c_seq ?_
  refine c_region ?_
  refine o_mv st rfl rfl ?_
  refine pk [2, 0, 1, 3] rfl ?_
  refine stw (o_call (vs := [(.pointer (some ⟨b1, 0, none⟩)), (.int .i64 5)]) (M0 := [cellCh b1 [v2, (.int .i64 r_0_p)] 99]) Tryd.call62 rfl rfl (by intro w m h; exact (w_spec_l20Rd_pick (F := allB [cellCh b1 [v2, (.int .i64 r_0_p)] 99] w) (r_0_b := r_0_b) (r_0_p := r_0_p) (n_1 := 5) allB_ok m.given (m.rdM 2 rfl (reads_snap hv2)) h).mono (fun _ _ k => ret_free (fun r u => (fr_cons free_cell fr_nil)) k)) ?_); rintro ⟨r8, r9⟩ _
  refine o_as st rfl rfl ?_
  refine c_nil ?_
  refine l_then ?_
  refine c_block ?_
  refine c_loop (σ := (Int × (List GRewrite) × Int)) (fun ((t10, xs12, t15) : (Int × (List GRewrite) × Int)) (a : Act) (w : World) => ∃ (v11 : Value), Has 77 [(0, (.pointer (some ⟨b1, 0, none⟩))), (1, (.int .i64 n_1)), (5, v11), (6, (.int .i64 t15))] a ∧ Mem (gB F [cellCh b1 [v2, (.int .i64 r_0_p)] 99] w0) (feet [cellCh b1 [v2, (.int .i64 r_0_p)] 99]) w0 [cellCh b1 [v2, (.int .i64 t10)] 99, snapCh w0 F, ownCh elGRewrite 38 v11 xs12] w) (fun a w hE hm => ⟨v6, hE.sub ⟨rfl, rfl, rfl, rfl, trivial⟩, (hm.pick [0, 3, 1] rfl)⟩) ?_
  rintro nx16 ⟨t10, xs12, t15⟩ a w ⟨v11, hE, hm⟩ h
  refine nx_of hE hm h ?_
  clear hE hm h
  refine c_seq ?_
  refine c_seq ?_
  refine c_region ?_
  refine o_mv st rfl rfl ?_
  refine o_gtr st rfl rfl rfl ?_
  refine c_nil ?_
  refine l_then ?_
  refine c_cond rfl ?_ ?_
  · refine c_skip ?_
    refine l_then ?_
    refine c_join (σ := ((List GRewrite) × Int)) (fun ((xs122, t125) : ((List GRewrite) × Int)) (a : Act) (w : World) => ∃ (v123 : Value), Has 77 [(0, (.pointer (some ⟨b1, 0, none⟩))), (1, (.int .i64 n_1)), (5, v123), (6, (.int .i64 t15))] a ∧ Mem (gB F [cellCh b1 [v2, (.int .i64 r_0_p)] 99] w0) (feet [cellCh b1 [v2, (.int .i64 r_0_p)] 99]) w0 [cellCh b1 [v2, (.int .i64 t125)] 99, ownCh elGRewrite 38 v123 xs122, snapCh w0 F] w) ?_ ?_
    · intro k126
      refine c_block ?_
      refine c_seq ?_
      refine c_region ?_
      refine o_mv st rfl rfl ?_
      refine stw (o_call (vs := [(.pointer (some ⟨b1, 0, none⟩)), (.int .i64 9)]) (M0 := [cellCh b1 [v2, (.int .i64 t10)] 99]) Tryd.call62 rfl rfl (by intro w m h; exact (w_spec_l20Rd_pick (F := allB [cellCh b1 [v2, (.int .i64 t10)] 99] w) (r_0_b := r_0_b) (r_0_p := t10) (n_1 := 9) allB_ok m.given (m.rdM 0 rfl (reads_snap hv2)) h).mono (fun _ _ k => ret_free (fun r u => (fr_cons free_cell fr_nil)) k)) ?_); rintro ⟨r17, r18⟩ _
      refine o_add st rfl rfl rfl ?_; intro t19
      refine o_as st rfl rfl ?_
      refine c_nil ?_
      refine l_then ?_
      refine c_seq ?_
      refine c_region ?_
      refine o_mv st rfl rfl ?_
      refine o_sub st rfl rfl rfl ?_; intro t20
      refine o_shl st rfl rfl rfl ?_; intro t21
      refine o_as st rfl rfl ?_
      refine c_nil ?_
      refine l_then ?_
      refine c_join (σ := (Int × Int × Int)) (fun ((t23, t24, t25) : (Int × Int × Int)) (a : Act) (w : World) => ∃ (b22 : Nat), Has 77 [(0, (.pointer (some ⟨b1, 0, none⟩))), (1, (.int .i64 n_1)), (5, v11), (6, (.int .i64 t15)), (9, (.pointer (some ⟨b22, 0, none⟩)))] a ∧ Mem (gB F [cellCh b1 [v2, (.int .i64 r_0_p)] 99] w0) (feet [cellCh b1 [v2, (.int .i64 r_0_p)] 99]) w0 [cellCh b22 [(.int .i64 t23), (.int .i64 t19), (.int .i64 t24), (.int .i64 t19)] 38, cellCh b1 [v2, (.int .i64 t25)] 99, ownCh elGRewrite 38 v11 xs12, snapCh w0 F] w) ?_ ?_
      · intro k26
        refine c_drawQ mixed 22 rfl [snapCh w0 F, ownCh elGRewrite 38 v11 xs12] ?_
        intro Qd hP hQ
        have H423 : ∀ (r27 : Int) (r28 : Int) (t29 : Int) (r30 : Int) (r31 : Int) (t32 : Int) (b33 : Nat), Nx 77 (gB F [cellCh b1 [v2, (.int .i64 r_0_p)] 99] w0) (feet [cellCh b1 [v2, (.int .i64 r_0_p)] 99]) w0 (wpAnyH Tryd.prog .any (opsAt Tryd.f40 [1, 1, 0, 1, 0, 0, 1, 0, 0, 1, 1, 0]) Qd (Mem (gB F [cellCh b1 [v2, (.int .i64 r_0_p)] 99] w0) (feet [cellCh b1 [v2, (.int .i64 r_0_p)] 99]) w0 [snapCh w0 F, ownCh elGRewrite 38 v11 xs12]) 0 #[true, true, true, true, true, true, true, true, true, true, true, true, true, true, true, true, true, true, true, true, true, true]) [(0, (.pointer (some ⟨b1, 0, none⟩))), (1, (.int .i64 n_1)), (5, v11), (6, (.int .i64 t15)), (9, (.pointer (some ⟨b33, 0, none⟩)))] [cellCh b33 [(.int .i64 (w64 (t29 * t21))), (.int .i64 t19), (.int .i64 (w64 (t32 * t21))), (.int .i64 t19)] 38, cellCh b1 [v2, (.int .i64 r31)] 99, snapCh w0 F, ownCh elGRewrite 38 v11 xs12] (k26 ((w64 (t29 * t21)), (w64 (t32 * t21)), r31)) := by
          intro r27 r28 t29 r30 r31 t32 b33
          refine d_done (by kernel_rfl) ?_
          exact fun a w hE hm hφ => hQ ((w64 (t29 * t21)), (w64 (t32 * t21)), r31) a w hφ ((fun a w hE hm => ⟨b33, hE.sub ⟨rfl, rfl, rfl, rfl, rfl, trivial⟩, (hm.pick [0, 1, 3, 2] rfl)⟩) a w hE hm)
        have H424 : ∀ (r27 : Int) (r28 : Int) (t29 : Int) (r30 : Int) (r31 : Int) (t32 : Int) (b33 : Nat), Nx 77 (gB F [cellCh b1 [v2, (.int .i64 r_0_p)] 99] w0) (feet [cellCh b1 [v2, (.int .i64 r_0_p)] 99]) w0 (wpAnyH Tryd.prog .any (opsAt Tryd.f40 [1, 1, 0, 1, 0, 0, 1, 0, 0, 1, 1, 0]) Qd (Mem (gB F [cellCh b1 [v2, (.int .i64 r_0_p)] 99] w0) (feet [cellCh b1 [v2, (.int .i64 r_0_p)] 99]) w0 [snapCh w0 F, ownCh elGRewrite 38 v11 xs12]) 1 #[true, true, true, true, true, true, true, true, true, true, true, true, true, true, true, true, true, true, true, true, true, false]) [(0, (.pointer (some ⟨b1, 0, none⟩))), (1, (.int .i64 n_1)), (5, v11), (6, (.int .i64 t15)), (42, (.agg #[(.int .i64 (w64 (t29 * t21))), (.int .i64 t19), (.int .i64 (w64 (t32 * t21))), (.int .i64 t19)])), (9, (.pointer (some ⟨b33, 0, none⟩)))] [cellCh b33 [(.int .i64 0), (.int .i64 0), (.int .i64 0), (.int .i64 0)] 38, cellCh b1 [v2, (.int .i64 r31)] 99, snapCh w0 F, ownCh elGRewrite 38 v11 xs12] (k26 ((w64 (t29 * t21)), (w64 (t32 * t21)), r31)) := by
          intro r27 r28 t29 r30 r31 t32 b33
          refine d_one (i := 21) rfl (by kernel_rfl) (o_stc (cs' := [(.int .i64 (w64 (t29 * t21))), (.int .i64 t19), (.int .i64 (w64 (t32 * t21))), (.int .i64 t19)]) 0 rfl rfl rfl ty38 rfl rfl rfl rfl ?_)
          refine d_and (fun w m => m.pick [2, 3] rfl) ?_
          refine pk [0, 1, 2, 3] rfl ?_
          refine re (E' := [(0, (.pointer (some ⟨b1, 0, none⟩))), (1, (.int .i64 n_1)), (5, v11), (6, (.int .i64 t15)), (9, (.pointer (some ⟨b33, 0, none⟩)))]) ⟨rfl, rfl, rfl, rfl, rfl, trivial⟩ ?_
          exact H423 r27 r28 t29 r30 r31 t32 b33
        have H425 : ∀ (r27 : Int) (r28 : Int) (t29 : Int) (r30 : Int) (r31 : Int), Nx 77 (gB F [cellCh b1 [v2, (.int .i64 r_0_p)] 99] w0) (feet [cellCh b1 [v2, (.int .i64 r_0_p)] 99]) w0 (wpAnyH Tryd.prog .any (opsAt Tryd.f40 [1, 1, 0, 1, 0, 0, 1, 0, 0, 1, 1, 0]) Qd (Mem (gB F [cellCh b1 [v2, (.int .i64 r_0_p)] 99] w0) (feet [cellCh b1 [v2, (.int .i64 r_0_p)] 99]) w0 [snapCh w0 F, ownCh elGRewrite 38 v11 xs12]) 8 #[true, true, true, true, true, true, true, true, true, true, true, false, false, true, false, true, false, true, false, false, false, false]) [(0, (.pointer (some ⟨b1, 0, none⟩))), (1, (.int .i64 n_1)), (5, v11), (6, (.int .i64 t15)), (36, (.int .i64 t21)), (38, (.int .i64 t21)), (40, (.int .i64 t19)), (31, (.agg #[(.int .i64 (w64 (t29 * t21))), (.int .i64 t19)])), (33, (.int .i64 r30))] [cellCh b1 [v2, (.int .i64 r31)] 99, snapCh w0 F, ownCh elGRewrite 38 v11 xs12] (quoW (w64 ((w64 (128 + r30)) * 256)) t21 (fun t32 => k26 ((w64 (t29 * t21)), (w64 (t32 * t21)), r31))) := by
          intro r27 r28 t29 r30 r31
          refine o_addw (dt 11 (fun w m => m.pick [1, 2] rfl)) rfl rfl rfl ?_
          refine o_mulw (dt 12 (fun w m => m.pick [1, 2] rfl)) rfl rfl rfl ?_
          refine o_quo (dt 14 (fun w m => m.pick [1, 2] rfl)) rfl rfl rfl ?_; intro t32
          refine o_mulw (dt 16 (fun w m => m.pick [1, 2] rfl)) rfl rfl rfl ?_
          refine o_bld (dt 18 (fun w m => m.pick [1, 2] rfl)) (qs := [(0, (.int .i64 (w64 (t32 * t21)))), (1, (.int .i64 t19))]) (cells := [(.int .i64 (w64 (t32 * t21))), (.int .i64 t19)]) (by intro ρ h; simp only [List.map_toArray, List.map_cons, List.map_nil, h (.tmp 39) _ rfl, h (.tmp 40) _ rfl]) rfl bld36 rfl ?_
          refine o_bld (dt 19 (fun w m => m.pick [1, 2] rfl)) (qs := [(0, (.agg #[(.int .i64 (w64 (t29 * t21))), (.int .i64 t19)])), (1, (.agg #[(.int .i64 (w64 (t32 * t21))), (.int .i64 t19)]))]) (cells := [(.int .i64 (w64 (t29 * t21))), (.int .i64 t19), (.int .i64 (w64 (t32 * t21))), (.int .i64 t19)]) (by intro ρ h; simp only [List.map_toArray, List.map_cons, List.map_nil, h (.tmp 31) _ rfl, h (.tmp 41) _ rfl]) rfl bld38 rfl ?_
          refine d_one (i := 20) rfl (by kernel_rfl) (o_alloc rfl [(.int .i64 0), (.int .i64 0), (.int .i64 0), (.int .i64 0)] zero38 ?_); intro b33
          refine d_and (fun w m => m.pick [2, 3] rfl) ?_
          refine pk [0, 1, 2, 3] rfl ?_
          refine re (E' := [(0, (.pointer (some ⟨b1, 0, none⟩))), (1, (.int .i64 n_1)), (5, v11), (6, (.int .i64 t15)), (42, (.agg #[(.int .i64 (w64 (t29 * t21))), (.int .i64 t19), (.int .i64 (w64 (t32 * t21))), (.int .i64 t19)])), (9, (.pointer (some ⟨b33, 0, none⟩)))]) ⟨rfl, rfl, rfl, rfl, rfl, rfl, trivial⟩ ?_
          exact H424 r27 r28 t29 r30 r31 t32 b33
        have H426 : ∀ (r27 : Int) (r28 : Int) (t29 : Int) (b34 : Nat) (r35 : Int) (r36 : Int), Nx 77 (gB F [cellCh b1 [v2, (.int .i64 r_0_p)] 99] w0) (feet [cellCh b1 [v2, (.int .i64 r_0_p)] 99]) w0 (wpAnyH Tryd.prog .any (opsAt Tryd.f40 [1, 1, 0, 1, 0, 0, 1, 0, 0, 1, 1, 0]) Qd (Mem (gB F [cellCh b1 [v2, (.int .i64 r_0_p)] 99] w0) (feet [cellCh b1 [v2, (.int .i64 r_0_p)] 99]) w0 [snapCh w0 F, ownCh elGRewrite 38 v11 xs12]) 7 #[true, true, true, true, true, true, true, true, true, true, true, false, false, true, false, true, false, true, false, false, true, false]) [(0, (.pointer (some ⟨b1, 0, none⟩))), (1, (.int .i64 n_1)), (5, v11), (6, (.int .i64 t15)), (36, (.int .i64 t21)), (38, (.int .i64 t21)), (40, (.int .i64 t19)), (31, (.agg #[(.int .i64 (w64 (t29 * t21))), (.int .i64 t19)])), (9, (.pointer (some ⟨b34, 0, none⟩))), (33, (.int .i64 r35))] [cellCh b1 [v2, (.int .i64 r36)] 99, cellCh b34 [(.int .i64 0), (.int .i64 0), (.int .i64 0), (.int .i64 0)] 38, snapCh w0 F, ownCh elGRewrite 38 v11 xs12] (quoW (w64 ((w64 (128 + r35)) * 256)) t21 (fun t37 => k26 ((w64 (t29 * t21)), (w64 (t37 * t21)), r36))) := by
          intro r27 r28 t29 b34 r35 r36
          refine o_addw (dt 11 (fun w m => m.pick [2, 3] rfl)) rfl rfl rfl ?_
          refine o_mulw (dt 12 (fun w m => m.pick [2, 3] rfl)) rfl rfl rfl ?_
          refine o_quo (dt 14 (fun w m => m.pick [2, 3] rfl)) rfl rfl rfl ?_; intro t37
          refine o_mulw (dt 16 (fun w m => m.pick [2, 3] rfl)) rfl rfl rfl ?_
          refine o_bld (dt 18 (fun w m => m.pick [2, 3] rfl)) (qs := [(0, (.int .i64 (w64 (t37 * t21)))), (1, (.int .i64 t19))]) (cells := [(.int .i64 (w64 (t37 * t21))), (.int .i64 t19)]) (by intro ρ h; simp only [List.map_toArray, List.map_cons, List.map_nil, h (.tmp 39) _ rfl, h (.tmp 40) _ rfl]) rfl bld36 rfl ?_
          refine o_bld (dt 19 (fun w m => m.pick [2, 3] rfl)) (qs := [(0, (.agg #[(.int .i64 (w64 (t29 * t21))), (.int .i64 t19)])), (1, (.agg #[(.int .i64 (w64 (t37 * t21))), (.int .i64 t19)]))]) (cells := [(.int .i64 (w64 (t29 * t21))), (.int .i64 t19), (.int .i64 (w64 (t37 * t21))), (.int .i64 t19)]) (by intro ρ h; simp only [List.map_toArray, List.map_cons, List.map_nil, h (.tmp 31) _ rfl, h (.tmp 41) _ rfl]) rfl bld38 rfl ?_
          refine d_one (i := 21) rfl (by kernel_rfl) (o_stc (cs' := [(.int .i64 (w64 (t29 * t21))), (.int .i64 t19), (.int .i64 (w64 (t37 * t21))), (.int .i64 t19)]) 1 rfl rfl rfl ty38 rfl rfl rfl rfl ?_)
          refine d_and (fun w m => m.pick [2, 3] rfl) ?_
          refine pk [1, 0, 2, 3] rfl ?_
          refine re (E' := [(0, (.pointer (some ⟨b1, 0, none⟩))), (1, (.int .i64 n_1)), (5, v11), (6, (.int .i64 t15)), (9, (.pointer (some ⟨b34, 0, none⟩)))]) ⟨rfl, rfl, rfl, rfl, rfl, trivial⟩ ?_
          exact H423 r27 r28 t29 r35 r36 t37 b34
        have H427 : ∀ (r27 : Int) (r28 : Int) (t29 : Int) (b34 : Nat), Nx 77 (gB F [cellCh b1 [v2, (.int .i64 r_0_p)] 99] w0) (feet [cellCh b1 [v2, (.int .i64 r_0_p)] 99]) w0 (wpAnyH Tryd.prog .any (opsAt Tryd.f40 [1, 1, 0, 1, 0, 0, 1, 0, 0, 1, 1, 0]) Qd (Mem (gB F [cellCh b1 [v2, (.int .i64 r_0_p)] 99] w0) (feet [cellCh b1 [v2, (.int .i64 r_0_p)] 99]) w0 [snapCh w0 F, ownCh elGRewrite 38 v11 xs12]) 8 #[true, true, true, true, true, true, true, true, true, true, false, false, false, true, false, true, false, true, false, false, true, false]) [(0, (.pointer (some ⟨b1, 0, none⟩))), (1, (.int .i64 n_1)), (5, v11), (6, (.int .i64 t15)), (32, (.pointer (some ⟨b1, 0, none⟩))), (36, (.int .i64 t21)), (38, (.int .i64 t21)), (40, (.int .i64 t19)), (31, (.agg #[(.int .i64 (w64 (t29 * t21))), (.int .i64 t19)])), (9, (.pointer (some ⟨b34, 0, none⟩)))] [cellCh b34 [(.int .i64 0), (.int .i64 0), (.int .i64 0), (.int .i64 0)] 38, cellCh b1 [v2, (.int .i64 r28)] 99, snapCh w0 F, ownCh elGRewrite 38 v11 xs12] (L_spec_l20Rd_pick r_0_b r28 128 (fun (r35, r36) => quoW (w64 ((w64 (128 + r35)) * 256)) t21 (fun t37 => k26 ((w64 (t29 * t21)), (w64 (t37 * t21)), r36)))) := by
          intro r27 r28 t29 b34
          refine pk [1, 0, 2, 3] rfl ?_
          refine d_one (i := 10) rfl (by kernel_rfl) (o_call (vs := [(.pointer (some ⟨b1, 0, none⟩)), (.int .i64 128)]) (M0 := [cellCh b1 [v2, (.int .i64 r28)] 99]) Tryd.call62 rfl rfl (by intro w m h; exact (w_spec_l20Rd_pick (F := allB [cellCh b1 [v2, (.int .i64 r28)] 99] w) (r_0_b := r_0_b) (r_0_p := r28) (n_1 := 128) allB_ok m.given (m.rdM 1 rfl (reads_snap hv2)) h).mono (fun _ _ k => ret_free (fun r u => (fr_cons free_cell fr_nil)) k)) ?_); rintro ⟨r35, r36⟩ _
          refine d_and (fun w m => m.pick [2, 3] rfl) ?_
          refine pk [0, 1, 2, 3] rfl ?_
          refine re (E' := [(0, (.pointer (some ⟨b1, 0, none⟩))), (1, (.int .i64 n_1)), (5, v11), (6, (.int .i64 t15)), (36, (.int .i64 t21)), (38, (.int .i64 t21)), (40, (.int .i64 t19)), (31, (.agg #[(.int .i64 (w64 (t29 * t21))), (.int .i64 t19)])), (9, (.pointer (some ⟨b34, 0, none⟩))), (33, (.int .i64 r35))]) ⟨rfl, rfl, rfl, rfl, rfl, rfl, rfl, rfl, rfl, rfl, trivial⟩ ?_
          exact H426 r27 r28 t29 b34 r35 r36
        have H428 : ∀ (r27 : Int) (r28 : Int), Nx 77 (gB F [cellCh b1 [v2, (.int .i64 r_0_p)] 99] w0) (feet [cellCh b1 [v2, (.int .i64 r_0_p)] 99]) w0 (wpAnyH Tryd.prog .any (opsAt Tryd.f40 [1, 1, 0, 1, 0, 0, 1, 0, 0, 1, 1, 0]) Qd (Mem (gB F [cellCh b1 [v2, (.int .i64 r_0_p)] 99] w0) (feet [cellCh b1 [v2, (.int .i64 r_0_p)] 99]) w0 [snapCh w0 F, ownCh elGRewrite 38 v11 xs12]) 13 #[true, true, false, true, false, true, false, true, false, true, false, false, false, true, false, true, false, true, false, false, false, false]) [(0, (.pointer (some ⟨b1, 0, none⟩))), (1, (.int .i64 n_1)), (5, v11), (6, (.int .i64 t15)), (26, (.int .i64 t21)), (28, (.int .i64 t21)), (30, (.int .i64 t19)), (32, (.pointer (some ⟨b1, 0, none⟩))), (36, (.int .i64 t21)), (38, (.int .i64 t21)), (40, (.int .i64 t19)), (24, (.int .i64 r27))] [cellCh b1 [v2, (.int .i64 r28)] 99, snapCh w0 F, ownCh elGRewrite 38 v11 xs12] (quoW (w64 (r27 * 256)) t21 (fun t29 => L_spec_l20Rd_pick r_0_b r28 128 (fun (r30, r31) => quoW (w64 ((w64 (128 + r30)) * 256)) t21 (fun t32 => k26 ((w64 (t29 * t21)), (w64 (t32 * t21)), r31))))) := by
          intro r27 r28
          refine o_mulw (dt 2 (fun w m => m.pick [1, 2] rfl)) rfl rfl rfl ?_
          refine o_quo (dt 4 (fun w m => m.pick [1, 2] rfl)) rfl rfl rfl ?_; intro t29
          refine o_mulw (dt 6 (fun w m => m.pick [1, 2] rfl)) rfl rfl rfl ?_
          refine o_bld (dt 8 (fun w m => m.pick [1, 2] rfl)) (qs := [(0, (.int .i64 (w64 (t29 * t21)))), (1, (.int .i64 t19))]) (cells := [(.int .i64 (w64 (t29 * t21))), (.int .i64 t19)]) (by intro ρ h; simp only [List.map_toArray, List.map_cons, List.map_nil, h (.tmp 29) _ rfl, h (.tmp 30) _ rfl]) rfl bld36 rfl ?_
          refine d_two (i := 10) (j := 20) rfl rfl (by kernel_rfl) ?_ ?_
          · intro o ho; cases ho
            refine o_call (vs := [(.pointer (some ⟨b1, 0, none⟩)), (.int .i64 128)]) (M0 := [cellCh b1 [v2, (.int .i64 r28)] 99]) Tryd.call62 rfl rfl (by intro w m h; exact (w_spec_l20Rd_pick (F := allB [cellCh b1 [v2, (.int .i64 r28)] 99] w) (r_0_b := r_0_b) (r_0_p := r28) (n_1 := 128) allB_ok m.given (m.rdM 0 rfl (reads_snap hv2)) h).mono (fun _ _ k => ret_free (fun r u => (fr_cons free_cell fr_nil)) k)) ?_; rintro ⟨r30, r31⟩ _
            refine d_and (fun w m => m.pick [1, 2] rfl) ?_
            refine pk [0, 1, 2] rfl ?_
            refine re (E' := [(0, (.pointer (some ⟨b1, 0, none⟩))), (1, (.int .i64 n_1)), (5, v11), (6, (.int .i64 t15)), (36, (.int .i64 t21)), (38, (.int .i64 t21)), (40, (.int .i64 t19)), (31, (.agg #[(.int .i64 (w64 (t29 * t21))), (.int .i64 t19)])), (33, (.int .i64 r30))]) ⟨rfl, rfl, rfl, rfl, rfl, rfl, rfl, rfl, rfl, trivial⟩ ?_
            exact H425 r27 r28 t29 r30 r31
          · intro o ho; cases ho
            refine o_alloc rfl [(.int .i64 0), (.int .i64 0), (.int .i64 0), (.int .i64 0)] zero38 ?_; intro b34
            refine d_and (fun w m => m.pick [2, 3] rfl) ?_
            refine pk [0, 1, 2, 3] rfl ?_
            refine re (E' := [(0, (.pointer (some ⟨b1, 0, none⟩))), (1, (.int .i64 n_1)), (5, v11), (6, (.int .i64 t15)), (32, (.pointer (some ⟨b1, 0, none⟩))), (36, (.int .i64 t21)), (38, (.int .i64 t21)), (40, (.int .i64 t19)), (31, (.agg #[(.int .i64 (w64 (t29 * t21))), (.int .i64 t19)])), (9, (.pointer (some ⟨b34, 0, none⟩)))]) ⟨rfl, rfl, rfl, rfl, rfl, rfl, rfl, rfl, rfl, rfl, trivial⟩ ?_
            exact H427 r27 r28 t29 b34
        have H429 : ∀ (b38 : Nat) (r39 : Int) (r40 : Int), Nx 77 (gB F [cellCh b1 [v2, (.int .i64 r_0_p)] 99] w0) (feet [cellCh b1 [v2, (.int .i64 r_0_p)] 99]) w0 (wpAnyH Tryd.prog .any (opsAt Tryd.f40 [1, 1, 0, 1, 0, 0, 1, 0, 0, 1, 1, 0]) Qd (Mem (gB F [cellCh b1 [v2, (.int .i64 r_0_p)] 99] w0) (feet [cellCh b1 [v2, (.int .i64 r_0_p)] 99]) w0 [snapCh w0 F, ownCh elGRewrite 38 v11 xs12]) 12 #[true, true, false, true, false, true, false, true, false, true, false, false, false, true, false, true, false, true, false, false, true, false]) [(0, (.pointer (some ⟨b1, 0, none⟩))), (1, (.int .i64 n_1)), (5, v11), (6, (.int .i64 t15)), (26, (.int .i64 t21)), (28, (.int .i64 t21)), (30, (.int .i64 t19)), (32, (.pointer (some ⟨b1, 0, none⟩))), (36, (.int .i64 t21)), (38, (.int .i64 t21)), (40, (.int .i64 t19)), (9, (.pointer (some ⟨b38, 0, none⟩))), (24, (.int .i64 r39))] [cellCh b1 [v2, (.int .i64 r40)] 99, cellCh b38 [(.int .i64 0), (.int .i64 0), (.int .i64 0), (.int .i64 0)] 38, snapCh w0 F, ownCh elGRewrite 38 v11 xs12] (quoW (w64 (r39 * 256)) t21 (fun t41 => L_spec_l20Rd_pick r_0_b r40 128 (fun (r42, r43) => quoW (w64 ((w64 (128 + r42)) * 256)) t21 (fun t37 => k26 ((w64 (t41 * t21)), (w64 (t37 * t21)), r43))))) := by
          intro b38 r39 r40
          refine o_mulw (dt 2 (fun w m => m.pick [2, 3] rfl)) rfl rfl rfl ?_
          refine o_quo (dt 4 (fun w m => m.pick [2, 3] rfl)) rfl rfl rfl ?_; intro t41
          refine o_mulw (dt 6 (fun w m => m.pick [2, 3] rfl)) rfl rfl rfl ?_
          refine o_bld (dt 8 (fun w m => m.pick [2, 3] rfl)) (qs := [(0, (.int .i64 (w64 (t41 * t21)))), (1, (.int .i64 t19))]) (cells := [(.int .i64 (w64 (t41 * t21))), (.int .i64 t19)]) (by intro ρ h; simp only [List.map_toArray, List.map_cons, List.map_nil, h (.tmp 29) _ rfl, h (.tmp 30) _ rfl]) rfl bld36 rfl ?_
          refine d_one (i := 10) rfl (by kernel_rfl) (o_call (vs := [(.pointer (some ⟨b1, 0, none⟩)), (.int .i64 128)]) (M0 := [cellCh b1 [v2, (.int .i64 r40)] 99]) Tryd.call62 rfl rfl (by intro w m h; exact (w_spec_l20Rd_pick (F := allB [cellCh b1 [v2, (.int .i64 r40)] 99] w) (r_0_b := r_0_b) (r_0_p := r40) (n_1 := 128) allB_ok m.given (m.rdM 1 rfl (reads_snap hv2)) h).mono (fun _ _ k => ret_free (fun r u => (fr_cons free_cell fr_nil)) k)) ?_); rintro ⟨r42, r43⟩ _
          refine d_and (fun w m => m.pick [2, 3] rfl) ?_
          refine pk [0, 1, 2, 3] rfl ?_
          refine re (E' := [(0, (.pointer (some ⟨b1, 0, none⟩))), (1, (.int .i64 n_1)), (5, v11), (6, (.int .i64 t15)), (36, (.int .i64 t21)), (38, (.int .i64 t21)), (40, (.int .i64 t19)), (31, (.agg #[(.int .i64 (w64 (t41 * t21))), (.int .i64 t19)])), (9, (.pointer (some ⟨b38, 0, none⟩))), (33, (.int .i64 r42))]) ⟨rfl, rfl, rfl, rfl, rfl, rfl, rfl, rfl, rfl, rfl, trivial⟩ ?_
          exact H426 r39 r40 t41 b38 r42 r43
        have H430 : ∀ (b38 : Nat), Nx 77 (gB F [cellCh b1 [v2, (.int .i64 r_0_p)] 99] w0) (feet [cellCh b1 [v2, (.int .i64 r_0_p)] 99]) w0 (wpAnyH Tryd.prog .any (opsAt Tryd.f40 [1, 1, 0, 1, 0, 0, 1, 0, 0, 1, 1, 0]) Qd (Mem (gB F [cellCh b1 [v2, (.int .i64 r_0_p)] 99] w0) (feet [cellCh b1 [v2, (.int .i64 r_0_p)] 99]) w0 [snapCh w0 F, ownCh elGRewrite 38 v11 xs12]) 13 #[true, false, false, true, false, true, false, true, false, true, false, false, false, true, false, true, false, true, false, false, true, false]) [(0, (.pointer (some ⟨b1, 0, none⟩))), (1, (.int .i64 n_1)), (5, v11), (6, (.int .i64 t15)), (23, (.pointer (some ⟨b1, 0, none⟩))), (26, (.int .i64 t21)), (28, (.int .i64 t21)), (30, (.int .i64 t19)), (32, (.pointer (some ⟨b1, 0, none⟩))), (36, (.int .i64 t21)), (38, (.int .i64 t21)), (40, (.int .i64 t19)), (9, (.pointer (some ⟨b38, 0, none⟩)))] [cellCh b38 [(.int .i64 0), (.int .i64 0), (.int .i64 0), (.int .i64 0)] 38, cellCh b1 [v2, (.int .i64 r18)] 99, snapCh w0 F, ownCh elGRewrite 38 v11 xs12] (L_spec_l20Rd_pick r_0_b r18 128 (fun (r39, r40) => quoW (w64 (r39 * 256)) t21 (fun t41 => L_spec_l20Rd_pick r_0_b r40 128 (fun (r42, r43) => quoW (w64 ((w64 (128 + r42)) * 256)) t21 (fun t37 => k26 ((w64 (t41 * t21)), (w64 (t37 * t21)), r43)))))) := by
          intro b38
          refine pk [1, 0, 2, 3] rfl ?_
          refine d_one (i := 1) rfl (by kernel_rfl) (o_call (vs := [(.pointer (some ⟨b1, 0, none⟩)), (.int .i64 128)]) (M0 := [cellCh b1 [v2, (.int .i64 r18)] 99]) Tryd.call62 rfl rfl (by intro w m h; exact (w_spec_l20Rd_pick (F := allB [cellCh b1 [v2, (.int .i64 r18)] 99] w) (r_0_b := r_0_b) (r_0_p := r18) (n_1 := 128) allB_ok m.given (m.rdM 1 rfl (reads_snap hv2)) h).mono (fun _ _ k => ret_free (fun r u => (fr_cons free_cell fr_nil)) k)) ?_); rintro ⟨r39, r40⟩ _
          refine d_and (fun w m => m.pick [2, 3] rfl) ?_
          refine pk [0, 1, 2, 3] rfl ?_
          refine re (E' := [(0, (.pointer (some ⟨b1, 0, none⟩))), (1, (.int .i64 n_1)), (5, v11), (6, (.int .i64 t15)), (26, (.int .i64 t21)), (28, (.int .i64 t21)), (30, (.int .i64 t19)), (32, (.pointer (some ⟨b1, 0, none⟩))), (36, (.int .i64 t21)), (38, (.int .i64 t21)), (40, (.int .i64 t19)), (9, (.pointer (some ⟨b38, 0, none⟩))), (24, (.int .i64 r39))]) ⟨rfl, rfl, rfl, rfl, rfl, rfl, rfl, rfl, rfl, rfl, rfl, rfl, rfl, trivial⟩ ?_
          exact H429 b38 r39 r40
        refine o_mv (dt 0 (fun w m => m.pick [1, 2] rfl)) rfl rfl ?_
        refine o_mv (dt 3 (fun w m => m.pick [1, 2] rfl)) rfl rfl ?_
        refine o_mv (dt 5 (fun w m => m.pick [1, 2] rfl)) rfl rfl ?_
        refine o_mv (dt 7 (fun w m => m.pick [1, 2] rfl)) rfl rfl ?_
        refine o_mv (dt 9 (fun w m => m.pick [1, 2] rfl)) rfl rfl ?_
        refine o_mv (dt 13 (fun w m => m.pick [1, 2] rfl)) rfl rfl ?_
        refine o_mv (dt 15 (fun w m => m.pick [1, 2] rfl)) rfl rfl ?_
        refine o_mv (dt 17 (fun w m => m.pick [1, 2] rfl)) rfl rfl ?_
        refine d_two (i := 1) (j := 20) rfl rfl (by kernel_rfl) ?_ ?_
        · intro o ho; cases ho
          refine o_call (vs := [(.pointer (some ⟨b1, 0, none⟩)), (.int .i64 128)]) (M0 := [cellCh b1 [v2, (.int .i64 r18)] 99]) Tryd.call62 rfl rfl (by intro w m h; exact (w_spec_l20Rd_pick (F := allB [cellCh b1 [v2, (.int .i64 r18)] 99] w) (r_0_b := r_0_b) (r_0_p := r18) (n_1 := 128) allB_ok m.given (m.rdM 0 rfl (reads_snap hv2)) h).mono (fun _ _ k => ret_free (fun r u => (fr_cons free_cell fr_nil)) k)) ?_; rintro ⟨r27, r28⟩ _
          refine d_and (fun w m => m.pick [1, 2] rfl) ?_
          refine pk [0, 1, 2] rfl ?_
          refine re (E' := [(0, (.pointer (some ⟨b1, 0, none⟩))), (1, (.int .i64 n_1)), (5, v11), (6, (.int .i64 t15)), (26, (.int .i64 t21)), (28, (.int .i64 t21)), (30, (.int .i64 t19)), (32, (.pointer (some ⟨b1, 0, none⟩))), (36, (.int .i64 t21)), (38, (.int .i64 t21)), (40, (.int .i64 t19)), (24, (.int .i64 r27))]) ⟨rfl, rfl, rfl, rfl, rfl, rfl, rfl, rfl, rfl, rfl, rfl, rfl, trivial⟩ ?_
          exact H428 r27 r28
        · intro o ho; cases ho
          refine o_alloc rfl [(.int .i64 0), (.int .i64 0), (.int .i64 0), (.int .i64 0)] zero38 ?_; intro b38
          refine d_and (fun w m => m.pick [2, 3] rfl) ?_
          refine pk [0, 1, 2, 3] rfl ?_
          refine re (E' := [(0, (.pointer (some ⟨b1, 0, none⟩))), (1, (.int .i64 n_1)), (5, v11), (6, (.int .i64 t15)), (23, (.pointer (some ⟨b1, 0, none⟩))), (26, (.int .i64 t21)), (28, (.int .i64 t21)), (30, (.int .i64 t19)), (32, (.pointer (some ⟨b1, 0, none⟩))), (36, (.int .i64 t21)), (38, (.int .i64 t21)), (40, (.int .i64 t19)), (9, (.pointer (some ⟨b38, 0, none⟩)))]) ⟨rfl, rfl, rfl, rfl, rfl, rfl, rfl, rfl, rfl, rfl, rfl, rfl, rfl, trivial⟩ ?_
          exact H430 b38
      · rintro ⟨t23, t24, t25⟩ a w ⟨b22, hE, hm⟩ h
        refine nx_of hE hm h ?_
        clear hE hm h
        refine c_join (σ := Bool) (fun (t44 : Bool) (a : Act) (w : World) => Has 77 [(0, (.pointer (some ⟨b1, 0, none⟩))), (1, (.int .i64 n_1)), (5, v11), (6, (.int .i64 t15)), (9, (.pointer (some ⟨b22, 0, none⟩))), (49, (.bool t44))] a ∧ Mem (gB F [cellCh b1 [v2, (.int .i64 r_0_p)] 99] w0) (feet [cellCh b1 [v2, (.int .i64 r_0_p)] 99]) w0 [cellCh b22 [(.int .i64 t23), (.int .i64 t19), (.int .i64 t24), (.int .i64 t19)] 38, cellCh b1 [v2, (.int .i64 t25)] 99, ownCh elGRewrite 38 v11 xs12, snapCh w0 F] w) ?_ ?_
        · intro k45
          refine c_drawQ mixed 7 rfl [cellCh b22 [(.int .i64 t23), (.int .i64 t19), (.int .i64 t24), (.int .i64 t19)] 38, cellCh b1 [v2, (.int .i64 t25)] 99, ownCh elGRewrite 38 v11 xs12, snapCh w0 F] ?_
          intro Qd hP hQ
          have H432 : ∀ (v46 : Value) (v47 : Value) (v49 : Value) (v50 : Value) (r52 : Bool), Nx 77 (gB F [cellCh b1 [v2, (.int .i64 r_0_p)] 99] w0) (feet [cellCh b1 [v2, (.int .i64 r_0_p)] 99]) w0 (wpAnyH Tryd.prog .any (opsAt Tryd.f40 [1, 1, 0, 1, 0, 0, 1, 0, 0, 1, 1, 1, 0]) Qd (Mem (gB F [cellCh b1 [v2, (.int .i64 r_0_p)] 99] w0) (feet [cellCh b1 [v2, (.int .i64 r_0_p)] 99]) w0 [cellCh b22 [(.int .i64 t23), (.int .i64 t19), (.int .i64 t24), (.int .i64 t19)] 38, cellCh b1 [v2, (.int .i64 t25)] 99, ownCh elGRewrite 38 v11 xs12, snapCh w0 F]) 0 #[true, true, true, true, true, true, true]) [(0, (.pointer (some ⟨b1, 0, none⟩))), (1, (.int .i64 n_1)), (5, v11), (6, (.int .i64 t15)), (9, (.pointer (some ⟨b22, 0, none⟩))), (49, (.bool r52))] [cellCh b22 [(.int .i64 t23), (.int .i64 t19), (.int .i64 t24), (.int .i64 t19)] 38, cellCh b1 [v2, (.int .i64 t25)] 99, ownCh elGRewrite 38 v11 xs12, snapCh w0 F] (k45 r52) := by
            intro v46 v47 v49 v50 r52
            refine d_done (by kernel_rfl) ?_
            exact fun a w hE hm hφ => hQ r52 a w hφ ((fun a w hE hm => ⟨hE.sub ⟨rfl, rfl, rfl, rfl, rfl, rfl, trivial⟩, (hm.pick [0, 1, 2, 3] rfl)⟩) a w hE hm)
          have H433 : ∀ (v46 : Value) (v47 : Value) (v49 : Value) (v50 : Value), Nx 77 (gB F [cellCh b1 [v2, (.int .i64 r_0_p)] 99] w0) (feet [cellCh b1 [v2, (.int .i64 r_0_p)] 99]) w0 (wpAnyH Tryd.prog .any (opsAt Tryd.f40 [1, 1, 0, 1, 0, 0, 1, 0, 0, 1, 1, 1, 0]) Qd (Mem (gB F [cellCh b1 [v2, (.int .i64 r_0_p)] 99] w0) (feet [cellCh b1 [v2, (.int .i64 r_0_p)] 99]) w0 [cellCh b22 [(.int .i64 t23), (.int .i64 t19), (.int .i64 t24), (.int .i64 t19)] 38, cellCh b1 [v2, (.int .i64 t25)] 99, ownCh elGRewrite 38 v11 xs12, snapCh w0 F]) 1 #[true, true, true, true, true, true, false]) [(0, (.pointer (some ⟨b1, 0, none⟩))), (1, (.int .i64 n_1)), (5, v11), (6, (.int .i64 t15)), (9, (.pointer (some ⟨b22, 0, none⟩))), (48, v50)] [ownCh elGRewrite 38 v50 ((([]) ++ xs12) ++ ([(GRewrite.mk (GPrefix.mk t23 t19) (GPrefix.mk t24 t19))])), cellCh b22 [(.int .i64 t23), (.int .i64 t19), (.int .i64 t24), (.int .i64 t19)] 38, cellCh b1 [v2, (.int .i64 t25)] 99, ownCh elGRewrite 38 v11 xs12, snapCh w0 F] (L_spec_RewritesValid ((([]) ++ xs12) ++ ([(GRewrite.mk (GPrefix.mk t23 t19) (GPrefix.mk t24 t19))])) (fun r52 => k45 r52)) := by
            intro v46 v47 v49 v50
            refine d_one (i := 6) rfl (by kernel_rfl) (o_callP (vs := [v50]) Tryd.call24 rfl rfl (by intro w m h; exact (w_spec_RewritesValid (F := allB [] w) (list_0 := ((([]) ++ xs12) ++ ([(GRewrite.mk (GPrefix.mk t23 t19) (GPrefix.mk t24 t19))]))) allB_ok (m.rd0 0 rfl reads_own) h).mono (fun _ _ k => ret_free (fun r u => fr_nil) k)) ?_); rintro r52 _
            refine d_and (fun w m => m.pick [1, 2, 3, 4] rfl) ?_
            refine pk [1, 2, 3, 4] rfl ?_
            refine re (E' := [(0, (.pointer (some ⟨b1, 0, none⟩))), (1, (.int .i64 n_1)), (5, v11), (6, (.int .i64 t15)), (9, (.pointer (some ⟨b22, 0, none⟩))), (49, (.bool r52))]) ⟨rfl, rfl, rfl, rfl, rfl, rfl, trivial⟩ ?_
            exact H432 v46 v47 v49 v50 r52
          have H434 : ∀ (v46 : Value) (v47 : Value) (v49 : Value), Nx 77 (gB F [cellCh b1 [v2, (.int .i64 r_0_p)] 99] w0) (feet [cellCh b1 [v2, (.int .i64 r_0_p)] 99]) w0 (wpAnyH Tryd.prog .any (opsAt Tryd.f40 [1, 1, 0, 1, 0, 0, 1, 0, 0, 1, 1, 1, 0]) Qd (Mem (gB F [cellCh b1 [v2, (.int .i64 r_0_p)] 99] w0) (feet [cellCh b1 [v2, (.int .i64 r_0_p)] 99]) w0 [cellCh b22 [(.int .i64 t23), (.int .i64 t19), (.int .i64 t24), (.int .i64 t19)] 38, cellCh b1 [v2, (.int .i64 t25)] 99, ownCh elGRewrite 38 v11 xs12, snapCh w0 F]) 2 #[true, true, true, true, true, false, false]) [(0, (.pointer (some ⟨b1, 0, none⟩))), (1, (.int .i64 n_1)), (5, v11), (6, (.int .i64 t15)), (9, (.pointer (some ⟨b22, 0, none⟩))), (45, v47), (47, v49)] [ownCh elGRewrite 38 v49 ([(GRewrite.mk (GPrefix.mk t23 t19) (GPrefix.mk t24 t19))]), ownCh elGRewrite 38 v47 (([]) ++ xs12), cellCh b22 [(.int .i64 t23), (.int .i64 t19), (.int .i64 t24), (.int .i64 t19)] 38, cellCh b1 [v2, (.int .i64 t25)] 99, ownCh elGRewrite 38 v11 xs12, snapCh w0 F] (appW (([]) ++ xs12) ([(GRewrite.mk (GPrefix.mk t23 t19) (GPrefix.mk t24 t19))]) (fun _ => L_spec_RewritesValid ((([]) ++ xs12) ++ ([(GRewrite.mk (GPrefix.mk t23 t19) (GPrefix.mk t24 t19))])) (fun r52 => k45 r52))) := by
            intro v46 v47 v49
            refine d_one (i := 5) rfl (by kernel_rfl) (o_app 1 0 rfl rfl (src_flat flelGRewrite reads_own) rfl rfl rfl el28 rfl zero38 rfl rfl ?_); intro v50
            refine d_and (fun w m => m.pick [2, 3, 4, 5] rfl) ?_
            refine pk [1, 2, 3, 4, 5] rfl ?_
            refine re (E' := [(0, (.pointer (some ⟨b1, 0, none⟩))), (1, (.int .i64 n_1)), (5, v11), (6, (.int .i64 t15)), (9, (.pointer (some ⟨b22, 0, none⟩))), (48, v50)]) ⟨rfl, rfl, rfl, rfl, rfl, rfl, trivial⟩ ?_
            exact H433 v46 v47 v49 v50
          have H435 : ∀ (v46 : Value) (v47 : Value), Nx 77 (gB F [cellCh b1 [v2, (.int .i64 r_0_p)] 99] w0) (feet [cellCh b1 [v2, (.int .i64 r_0_p)] 99]) w0 (wpAnyH Tryd.prog .any (opsAt Tryd.f40 [1, 1, 0, 1, 0, 0, 1, 0, 0, 1, 1, 1, 0]) Qd (Mem (gB F [cellCh b1 [v2, (.int .i64 r_0_p)] 99] w0) (feet [cellCh b1 [v2, (.int .i64 r_0_p)] 99]) w0 [cellCh b22 [(.int .i64 t23), (.int .i64 t19), (.int .i64 t24), (.int .i64 t19)] 38, cellCh b1 [v2, (.int .i64 t25)] 99, ownCh elGRewrite 38 v11 xs12, snapCh w0 F]) 3 #[true, true, true, true, false, false, false]) [(0, (.pointer (some ⟨b1, 0, none⟩))), (1, (.int .i64 n_1)), (5, v11), (6, (.int .i64 t15)), (9, (.pointer (some ⟨b22, 0, none⟩))), (46, (.agg #[(.int .i64 t23), (.int .i64 t19), (.int .i64 t24), (.int .i64 t19)])), (45, v47)] [ownCh elGRewrite 38 v47 (([]) ++ xs12), cellCh b22 [(.int .i64 t23), (.int .i64 t19), (.int .i64 t24), (.int .i64 t19)] 38, cellCh b1 [v2, (.int .i64 t25)] 99, ownCh elGRewrite 38 v11 xs12, snapCh w0 F] (appW (([]) ++ xs12) ([(GRewrite.mk (GPrefix.mk t23 t19) (GPrefix.mk t24 t19))]) (fun _ => L_spec_RewritesValid ((([]) ++ xs12) ++ ([(GRewrite.mk (GPrefix.mk t23 t19) (GPrefix.mk t24 t19))])) (fun r52 => k45 r52))) := by
            intro v46 v47
            refine d_one (i := 4) rfl (by kernel_rfl) (o_bsl (enc := encGRewrite) (qs := [(0, (.agg #[(.int .i64 t23), (.int .i64 t19), (.int .i64 t24), (.int .i64 t19)]))]) (cells := [(.int .i64 t23), (.int .i64 t19), (.int .i64 t24), (.int .i64 t19)]) ([(GRewrite.mk (GPrefix.mk t23 t19) (GPrefix.mk t24 t19))]) flelGRewrite (by intro ρ h; simp only [List.map_toArray, List.map_cons, List.map_nil, h (.tmp 46) _ rfl]) rfl el28 zero38 rfl rfl rfl rfl rfl rfl ?_); intro v49
            refine d_and (fun w m => m.pick [2, 3, 4, 5] rfl) ?_
            refine pk [0, 1, 2, 3, 4, 5] rfl ?_
            refine re (E' := [(0, (.pointer (some ⟨b1, 0, none⟩))), (1, (.int .i64 n_1)), (5, v11), (6, (.int .i64 t15)), (9, (.pointer (some ⟨b22, 0, none⟩))), (45, v47), (47, v49)]) ⟨rfl, rfl, rfl, rfl, rfl, rfl, rfl, trivial⟩ ?_
            exact H434 v46 v47 v49
          have H436 : ∀ (v46 : Value) (v53 : Value), Nx 77 (gB F [cellCh b1 [v2, (.int .i64 r_0_p)] 99] w0) (feet [cellCh b1 [v2, (.int .i64 r_0_p)] 99]) w0 (wpAnyH Tryd.prog .any (opsAt Tryd.f40 [1, 1, 0, 1, 0, 0, 1, 0, 0, 1, 1, 1, 0]) Qd (Mem (gB F [cellCh b1 [v2, (.int .i64 r_0_p)] 99] w0) (feet [cellCh b1 [v2, (.int .i64 r_0_p)] 99]) w0 [cellCh b22 [(.int .i64 t23), (.int .i64 t19), (.int .i64 t24), (.int .i64 t19)] 38, cellCh b1 [v2, (.int .i64 t25)] 99, ownCh elGRewrite 38 v11 xs12, snapCh w0 F]) 3 #[true, true, false, true, true, false, false]) [(0, (.pointer (some ⟨b1, 0, none⟩))), (1, (.int .i64 n_1)), (5, v11), (6, (.int .i64 t15)), (9, (.pointer (some ⟨b22, 0, none⟩))), (44, v11), (43, v46), (47, v53)] [ownCh elGRewrite 38 v53 ([(GRewrite.mk (GPrefix.mk t23 t19) (GPrefix.mk t24 t19))]), ownCh elGRewrite 38 v46 ([]), cellCh b22 [(.int .i64 t23), (.int .i64 t19), (.int .i64 t24), (.int .i64 t19)] 38, cellCh b1 [v2, (.int .i64 t25)] 99, ownCh elGRewrite 38 v11 xs12, snapCh w0 F] (appW ([]) xs12 (fun _ => appW (([]) ++ xs12) ([(GRewrite.mk (GPrefix.mk t23 t19) (GPrefix.mk t24 t19))]) (fun _ => L_spec_RewritesValid ((([]) ++ xs12) ++ ([(GRewrite.mk (GPrefix.mk t23 t19) (GPrefix.mk t24 t19))])) (fun r52 => k45 r52)))) := by
            intro v46 v53
            refine d_one (i := 2) rfl (by kernel_rfl) (o_app 1 4 rfl rfl (src_flat flelGRewrite reads_own) rfl rfl rfl el28 rfl zero38 rfl rfl ?_); intro v54
            refine d_and (fun w m => m.pick [2, 3, 4, 5] rfl) ?_
            refine pk [0, 1, 2, 3, 4, 5] rfl ?_
            refine re (E' := [(0, (.pointer (some ⟨b1, 0, none⟩))), (1, (.int .i64 n_1)), (5, v11), (6, (.int .i64 t15)), (9, (.pointer (some ⟨b22, 0, none⟩))), (45, v54), (47, v53)]) ⟨rfl, rfl, rfl, rfl, rfl, rfl, rfl, trivial⟩ ?_
            exact H434 v46 v54 v53
          have H437 : ∀ (v46 : Value), Nx 77 (gB F [cellCh b1 [v2, (.int .i64 r_0_p)] 99] w0) (feet [cellCh b1 [v2, (.int .i64 r_0_p)] 99]) w0 (wpAnyH Tryd.prog .any (opsAt Tryd.f40 [1, 1, 0, 1, 0, 0, 1, 0, 0, 1, 1, 1, 0]) Qd (Mem (gB F [cellCh b1 [v2, (.int .i64 r_0_p)] 99] w0) (feet [cellCh b1 [v2, (.int .i64 r_0_p)] 99]) w0 [cellCh b22 [(.int .i64 t23), (.int .i64 t19), (.int .i64 t24), (.int .i64 t19)] 38, cellCh b1 [v2, (.int .i64 t25)] 99, ownCh elGRewrite 38 v11 xs12, snapCh w0 F]) 4 #[true, true, false, true, false, false, false]) [(0, (.pointer (some ⟨b1, 0, none⟩))), (1, (.int .i64 n_1)), (5, v11), (6, (.int .i64 t15)), (9, (.pointer (some ⟨b22, 0, none⟩))), (44, v11), (46, (.agg #[(.int .i64 t23), (.int .i64 t19), (.int .i64 t24), (.int .i64 t19)])), (43, v46)] [ownCh elGRewrite 38 v46 ([]), cellCh b22 [(.int .i64 t23), (.int .i64 t19), (.int .i64 t24), (.int .i64 t19)] 38, cellCh b1 [v2, (.int .i64 t25)] 99, ownCh elGRewrite 38 v11 xs12, snapCh w0 F] (appW ([]) xs12 (fun _ => appW (([]) ++ xs12) ([(GRewrite.mk (GPrefix.mk t23 t19) (GPrefix.mk t24 t19))]) (fun _ => L_spec_RewritesValid ((([]) ++ xs12) ++ ([(GRewrite.mk (GPrefix.mk t23 t19) (GPrefix.mk t24 t19))])) (fun r52 => k45 r52)))) := by
            intro v46
            refine d_two (i := 2) (j := 4) rfl rfl (by kernel_rfl) ?_ ?_
            · intro o ho; cases ho
              refine o_app 0 3 rfl rfl (src_flat flelGRewrite reads_own) rfl rfl rfl el28 rfl zero38 rfl rfl ?_; intro v47
              refine d_and (fun w m => m.pick [1, 2, 3, 4] rfl) ?_
              refine pk [0, 1, 2, 3, 4] rfl ?_
              refine re (E' := [(0, (.pointer (some ⟨b1, 0, none⟩))), (1, (.int .i64 n_1)), (5, v11), (6, (.int .i64 t15)), (9, (.pointer (some ⟨b22, 0, none⟩))), (46, (.agg #[(.int .i64 t23), (.int .i64 t19), (.int .i64 t24), (.int .i64 t19)])), (45, v47)]) ⟨rfl, rfl, rfl, rfl, rfl, rfl, rfl, trivial⟩ ?_
              exact H435 v46 v47
            · intro o ho; cases ho
              refine o_bsl (enc := encGRewrite) (qs := [(0, (.agg #[(.int .i64 t23), (.int .i64 t19), (.int .i64 t24), (.int .i64 t19)]))]) (cells := [(.int .i64 t23), (.int .i64 t19), (.int .i64 t24), (.int .i64 t19)]) ([(GRewrite.mk (GPrefix.mk t23 t19) (GPrefix.mk t24 t19))]) flelGRewrite (by intro ρ h; simp only [List.map_toArray, List.map_cons, List.map_nil, h (.tmp 46) _ rfl]) rfl el28 zero38 rfl rfl rfl rfl rfl rfl ?_; intro v53
              refine d_and (fun w m => m.pick [2, 3, 4, 5] rfl) ?_
              refine pk [0, 1, 2, 3, 4, 5] rfl ?_
              refine re (E' := [(0, (.pointer (some ⟨b1, 0, none⟩))), (1, (.int .i64 n_1)), (5, v11), (6, (.int .i64 t15)), (9, (.pointer (some ⟨b22, 0, none⟩))), (44, v11), (43, v46), (47, v53)]) ⟨rfl, rfl, rfl, rfl, rfl, rfl, rfl, rfl, trivial⟩ ?_
              exact H436 v46 v53
          have H438 : ∀ (v56 : Value), Nx 77 (gB F [cellCh b1 [v2, (.int .i64 r_0_p)] 99] w0) (feet [cellCh b1 [v2, (.int .i64 r_0_p)] 99]) w0 (wpAnyH Tryd.prog .any (opsAt Tryd.f40 [1, 1, 0, 1, 0, 0, 1, 0, 0, 1, 1, 1, 0]) Qd (Mem (gB F [cellCh b1 [v2, (.int .i64 r_0_p)] 99] w0) (feet [cellCh b1 [v2, (.int .i64 r_0_p)] 99]) w0 [cellCh b22 [(.int .i64 t23), (.int .i64 t19), (.int .i64 t24), (.int .i64 t19)] 38, cellCh b1 [v2, (.int .i64 t25)] 99, ownCh elGRewrite 38 v11 xs12, snapCh w0 F]) 4 #[false, true, false, true, true, false, false]) [(0, (.pointer (some ⟨b1, 0, none⟩))), (1, (.int .i64 n_1)), (5, v11), (6, (.int .i64 t15)), (9, (.pointer (some ⟨b22, 0, none⟩))), (44, v11), (47, v56)] [ownCh elGRewrite 38 v56 ([(GRewrite.mk (GPrefix.mk t23 t19) (GPrefix.mk t24 t19))]), cellCh b22 [(.int .i64 t23), (.int .i64 t19), (.int .i64 t24), (.int .i64 t19)] 38, cellCh b1 [v2, (.int .i64 t25)] 99, ownCh elGRewrite 38 v11 xs12, snapCh w0 F] (appW ([]) xs12 (fun _ => appW (([]) ++ xs12) ([(GRewrite.mk (GPrefix.mk t23 t19) (GPrefix.mk t24 t19))]) (fun _ => L_spec_RewritesValid ((([]) ++ xs12) ++ ([(GRewrite.mk (GPrefix.mk t23 t19) (GPrefix.mk t24 t19))])) (fun r52 => k45 r52)))) := by
            intro v56
            refine d_one (i := 0) rfl (by kernel_rfl) (o_bsl (enc := encGRewrite) (qs := []) (cells := []) ([] : (List GRewrite)) flelGRewrite (by intro ρ h; simp only [List.map_toArray, List.map_cons, List.map_nil]) rfl el28 zero38 rfl rfl rfl rfl rfl rfl ?_); intro v57
            refine d_and (fun w m => m.pick [2, 3, 4, 5] rfl) ?_
            refine pk [1, 0, 2, 3, 4, 5] rfl ?_
            refine re (E' := [(0, (.pointer (some ⟨b1, 0, none⟩))), (1, (.int .i64 n_1)), (5, v11), (6, (.int .i64 t15)), (9, (.pointer (some ⟨b22, 0, none⟩))), (44, v11), (43, v57), (47, v56)]) ⟨rfl, rfl, rfl, rfl, rfl, rfl, rfl, rfl, trivial⟩ ?_
            exact H436 v57 v56
          refine o_mv (dt 1 (fun _ m => m)) rfl rfl ?_
          refine o_ldc (dt 3 (fun _ m => m)) (v := (.agg #[(.int .i64 t23), (.int .i64 t19), (.int .i64 t24), (.int .i64 t19)])) 0 rfl rfl rfl ty38 rfl ?_
          refine d_two (i := 0) (j := 4) rfl rfl (by kernel_rfl) ?_ ?_
          · intro o ho; cases ho
            refine o_bsl (enc := encGRewrite) (qs := []) (cells := []) ([] : (List GRewrite)) flelGRewrite (by intro ρ h; simp only [List.map_toArray, List.map_cons, List.map_nil]) rfl el28 zero38 rfl rfl rfl rfl rfl rfl ?_; intro v46
            refine d_and (fun w m => m.pick [1, 2, 3, 4] rfl) ?_
            refine pk [0, 1, 2, 3, 4] rfl ?_
            refine re (E' := [(0, (.pointer (some ⟨b1, 0, none⟩))), (1, (.int .i64 n_1)), (5, v11), (6, (.int .i64 t15)), (9, (.pointer (some ⟨b22, 0, none⟩))), (44, v11), (46, (.agg #[(.int .i64 t23), (.int .i64 t19), (.int .i64 t24), (.int .i64 t19)])), (43, v46)]) ⟨rfl, rfl, rfl, rfl, rfl, rfl, rfl, rfl, trivial⟩ ?_
            exact H437 v46
          · intro o ho; cases ho
            refine o_bsl (enc := encGRewrite) (qs := [(0, (.agg #[(.int .i64 t23), (.int .i64 t19), (.int .i64 t24), (.int .i64 t19)]))]) (cells := [(.int .i64 t23), (.int .i64 t19), (.int .i64 t24), (.int .i64 t19)]) ([(GRewrite.mk (GPrefix.mk t23 t19) (GPrefix.mk t24 t19))]) flelGRewrite (by intro ρ h; simp only [List.map_toArray, List.map_cons, List.map_nil, h (.tmp 46) _ rfl]) rfl el28 zero38 rfl rfl rfl rfl rfl rfl ?_; intro v56
            refine d_and (fun w m => m.pick [1, 2, 3, 4] rfl) ?_
            refine pk [0, 1, 2, 3, 4] rfl ?_
            refine re (E' := [(0, (.pointer (some ⟨b1, 0, none⟩))), (1, (.int .i64 n_1)), (5, v11), (6, (.int .i64 t15)), (9, (.pointer (some ⟨b22, 0, none⟩))), (44, v11), (47, v56)]) ⟨rfl, rfl, rfl, rfl, rfl, rfl, rfl, trivial⟩ ?_
            exact H438 v56
        · rintro t44 a w ⟨hE, hm⟩ h
          refine nx_of hE hm h ?_
          clear hE hm h
          refine c_cond rfl ?_ ?_
          · refine c_region ?_
            refine o_mv st rfl rfl ?_
            refine o_ldc st (v := (.agg #[(.int .i64 t23), (.int .i64 t19), (.int .i64 t24), (.int .i64 t19)])) 0 rfl rfl rfl ty38 rfl ?_
            refine stw (o_bsl (enc := encGRewrite) (qs := [(0, (.agg #[(.int .i64 t23), (.int .i64 t19), (.int .i64 t24), (.int .i64 t19)]))]) (cells := [(.int .i64 t23), (.int .i64 t19), (.int .i64 t24), (.int .i64 t19)]) ([(GRewrite.mk (GPrefix.mk t23 t19) (GPrefix.mk t24 t19))]) flelGRewrite (by intro ρ h; simp only [List.map_toArray, List.map_cons, List.map_nil, h (.tmp 51) _ rfl]) rfl el28 zero38 rfl rfl rfl rfl rfl rfl ?_); intro v58
            refine stw (o_app 3 0 rfl rfl (src_flat flelGRewrite reads_own) rfl rfl rfl el28 rfl zero38 rfl rfl ?_); intro v60
            refine o_as st rfl rfl ?_
            refine c_nil ?_
            refine b_norm ?_
            exact l_join ((xs12 ++ ([(GRewrite.mk (GPrefix.mk t23 t19) (GPrefix.mk t24 t19))])), t25) (fun a w hE hm => ⟨v60, hE.sub ⟨rfl, rfl, rfl, rfl, trivial⟩, (hm.pick [2, 3, 4] rfl)⟩)
          · refine c_skip ?_
            refine b_norm ?_
            exact l_join (xs12, t25) (fun a w hE hm => ⟨v11, hE.sub ⟨rfl, rfl, rfl, rfl, trivial⟩, (hm.pick [1, 2, 3] rfl)⟩)
    · rintro ⟨xs122, t125⟩ a w ⟨v123, hE, hm⟩ h
      refine nx_of hE hm h ?_
      clear hE hm h
      refine c_region ?_
      refine o_mv st rfl rfl ?_
      refine o_sub st rfl rfl rfl ?_; intro t127
      refine o_as st rfl rfl ?_
      refine c_nil ?_
      exact l_join (t125, xs122, t127) (fun a w hE hm => ⟨v123, hE.sub ⟨rfl, rfl, rfl, rfl, trivial⟩, (hm.pick [0, 2, 1] rfl)⟩)
  · refine c_exit ?_
    refine l_exit ?_
    refine l_exit ?_
    refine b_exit ?_
    refine l_then ?_
    refine c_join (σ := (Int × (List GRewrite))) (fun ((t203, xs205) : (Int × (List GRewrite))) (a : Act) (w : World) => ∃ (v204 : Value), Has 77 [(5, v204)] a ∧ Mem (gB F [cellCh b1 [v2, (.int .i64 r_0_p)] 99] w0) (feet [cellCh b1 [v2, (.int .i64 r_0_p)] 99]) w0 [cellCh b1 [v2, (.int .i64 t203)] 99, snapCh w0 F, ownCh elGRewrite 38 v204 xs205] w) ?_ ?_
    · intro k208
      refine c_seq ?_
      refine c_region ?_
      refine o_mv st rfl rfl ?_
      refine o_mv st rfl rfl ?_
      refine stw (o_call (vs := [(.pointer (some ⟨b1, 0, none⟩)), (.int .i64 n_1)]) (M0 := [cellCh b1 [v2, (.int .i64 t10)] 99]) Tryd.call63 rfl rfl (by intro w m h; exact (w_spec_l20Rd_odd (F := allB [cellCh b1 [v2, (.int .i64 t10)] 99] w) (r_0_b := r_0_b) (r_0_p := t10) (n_1 := n_1) allB_ok m.given (m.rdM 0 rfl (reads_snap hv2)) h).mono (fun _ _ k => ret_free (fun r u => (fr_cons free_cell fr_nil)) k)) ?_); rintro ⟨r128, r129⟩ _
      refine c_nil ?_
      refine l_then ?_
      refine c_cond rfl ?_ ?_
      · refine c_seq ?_
        refine c_region ?_
        refine o_mv st rfl rfl ?_
        refine stw (o_call (vs := [(.pointer (some ⟨b1, 0, none⟩)), (.int .i64 3)]) (M0 := [cellCh b1 [v2, (.int .i64 r129)] 99]) Tryd.call62 rfl rfl (by intro w m h; exact (w_spec_l20Rd_pick (F := allB [cellCh b1 [v2, (.int .i64 r129)] 99] w) (r_0_b := r_0_b) (r_0_p := r129) (n_1 := 3) allB_ok m.given (m.rdM 0 rfl (reads_snap hv2)) h).mono (fun _ _ k => ret_free (fun r u => (fr_cons free_cell fr_nil)) k)) ?_); rintro ⟨r130, r131⟩ _
        refine c_nil ?_
        refine l_then ?_
        refine c_block ?_
        refine c_seq ?_
        refine c_region ?_
        refine o_eql st und3 rfl rfl rfl ?_
        refine o_as st rfl rfl ?_
        refine c_nil ?_
        refine l_then ?_
        refine c_cond rfl ?_ ?_
        · refine c_region ?_
          refine o_mv st rfl rfl ?_
          refine o_bld st (qs := [(1, (.int .i64 8))]) (cells := [(.int .i64 0), (.int .i64 8)]) (by intro ρ h; simp only [List.map_toArray, List.map_cons, List.map_nil, h (.const (.int .i64 8)) _ rfl]) rfl bld36 rfl ?_
          refine o_bld st (qs := [(0, (.int .i64 19712)), (1, (.int .i64 9))]) (cells := [(.int .i64 19712), (.int .i64 9)]) (by intro ρ h; simp only [List.map_toArray, List.map_cons, List.map_nil, h (.const (.int .i64 19712)) _ rfl, h (.const (.int .i64 9)) _ rfl]) rfl bld36 rfl ?_
          refine o_bld st (qs := [(0, (.agg #[(.int .i64 0), (.int .i64 8)])), (1, (.agg #[(.int .i64 19712), (.int .i64 9)]))]) (cells := [(.int .i64 0), (.int .i64 8), (.int .i64 19712), (.int .i64 9)]) (by intro ρ h; simp only [List.map_toArray, List.map_cons, List.map_nil, h (.tmp 63) _ rfl, h (.tmp 64) _ rfl]) rfl bld38 rfl ?_
          refine stw (o_bsl (enc := encGRewrite) (qs := [(0, (.agg #[(.int .i64 0), (.int .i64 8), (.int .i64 19712), (.int .i64 9)]))]) (cells := [(.int .i64 0), (.int .i64 8), (.int .i64 19712), (.int .i64 9)]) ([(GRewrite.mk (GPrefix.mk 0 8) (GPrefix.mk 19712 9))]) flelGRewrite (by intro ρ h; simp only [List.map_toArray, List.map_cons, List.map_nil, h (.tmp 65) _ rfl]) rfl el28 zero38 rfl rfl rfl rfl rfl rfl ?_); intro v132
          refine stw (o_app 3 0 rfl rfl (src_flat flelGRewrite reads_own) rfl rfl rfl el28 rfl zero38 rfl rfl ?_); intro v134
          refine o_as st rfl rfl ?_
          refine c_nil ?_
          refine b_norm ?_
          exact l_join (r131, (xs12 ++ ([(GRewrite.mk (GPrefix.mk 0 8) (GPrefix.mk 19712 9))]))) (fun a w hE hm => ⟨v134, hE.sub ⟨rfl, trivial⟩, (hm.pick [1, 2, 3] rfl)⟩)
        · refine c_seq ?_
          refine c_region ?_
          refine o_eql st und3 rfl rfl rfl ?_
          refine o_as st rfl rfl ?_
          refine c_nil ?_
          refine l_then ?_
          refine c_cond rfl ?_ ?_
          · refine c_region ?_
            refine o_mv st rfl rfl ?_
            refine o_bld st (qs := [(0, (.int .i64 2304)), (1, (.int .i64 8))]) (cells := [(.int .i64 2304), (.int .i64 8)]) (by intro ρ h; simp only [List.map_toArray, List.map_cons, List.map_nil, h (.const (.int .i64 2304)) _ rfl, h (.const (.int .i64 8)) _ rfl]) rfl bld36 rfl ?_
            refine o_bld st (qs := [(0, (.int .i64 2304)), (1, (.int .i64 8))]) (cells := [(.int .i64 2304), (.int .i64 8)]) (by intro ρ h; simp only [List.map_toArray, List.map_cons, List.map_nil, h (.const (.int .i64 2304)) _ rfl, h (.const (.int .i64 8)) _ rfl]) rfl bld36 rfl ?_
            refine o_bld st (qs := [(0, (.agg #[(.int .i64 2304), (.int .i64 8)])), (1, (.agg #[(.int .i64 2304), (.int .i64 8)]))]) (cells := [(.int .i64 2304), (.int .i64 8), (.int .i64 2304), (.int .i64 8)]) (by intro ρ h; simp only [List.map_toArray, List.map_cons, List.map_nil, h (.tmp 71) _ rfl, h (.tmp 72) _ rfl]) rfl bld38 rfl ?_
            refine stw (o_bsl (enc := encGRewrite) (qs := [(0, (.agg #[(.int .i64 2304), (.int .i64 8), (.int .i64 2304), (.int .i64 8)]))]) (cells := [(.int .i64 2304), (.int .i64 8), (.int .i64 2304), (.int .i64 8)]) ([(GRewrite.mk (GPrefix.mk 2304 8) (GPrefix.mk 2304 8))]) flelGRewrite (by intro ρ h; simp only [List.map_toArray, List.map_cons, List.map_nil, h (.tmp 73) _ rfl]) rfl el28 zero38 rfl rfl rfl rfl rfl rfl ?_); intro v136
            refine stw (o_app 3 0 rfl rfl (src_flat flelGRewrite reads_own) rfl rfl rfl el28 rfl zero38 rfl rfl ?_); intro v138
            refine o_as st rfl rfl ?_
            refine c_nil ?_
            refine b_norm ?_
            exact l_join (r131, (xs12 ++ ([(GRewrite.mk (GPrefix.mk 2304 8) (GPrefix.mk 2304 8))]))) (fun a w hE hm => ⟨v138, hE.sub ⟨rfl, trivial⟩, (hm.pick [1, 2, 3] rfl)⟩)
          · refine c_region ?_
            refine stw (o_make (z := (GRewrite.mk (GPrefix.mk 0 0) (GPrefix.mk 0 0))) flelGRewrite rfl rfl rfl el28 rfl zero38 rfl rfl ?_); intro v140 xs141
            refine o_as st rfl rfl ?_
            refine c_nil ?_
            refine b_norm ?_
            exact l_join (r131, xs141) (fun a w hE hm => ⟨v140, hE.sub ⟨rfl, trivial⟩, (hm.pick [1, 2, 0] rfl)⟩)
      · refine c_skip ?_
        exact l_join (r129, xs12) (fun a w hE hm => ⟨v11, hE.sub ⟨rfl, trivial⟩, (hm.pick [0, 1, 2] rfl)⟩)
    · rintro ⟨t203, xs205⟩ a w ⟨v204, hE, hm⟩ h
      refine nx_of hE hm h ?_
      clear hE hm h
      refine c_seq ?_
      refine c_region ?_
      refine o_mv st rfl rfl ?_
      refine o_as st rfl rfl ?_
      refine c_nil ?_
      refine l_then ?_
      refine c_ret ?_
      exact l_end1 Tryd.results40 (xs205, t203) v204 (rv_t rfl) (fun w m => NewCh.ofB m [2, 0] rfl)

set_option maxRecDepth 100000 in
set_option maxHeartbeats 8000000 in
theorem w_spec_DrawSplitRewrite {w0 : World} {F : Nat → Prop} {v1 : Value} {code_0 : (List UInt8)} {κ : GRewrite → Prop} (hF : ∀ b, F b → b < w0.heap.size ∧ ¬ feet [] b) (hv1 : Sl elU8 F w0 v1 code_0) (h : L_spec_DrawSplitRewrite code_0 κ) :
    Calls Tryd.prog 17 #[v1] w0 (Ret [] F w0 κ (fun (r : GRewrite) (u : Unit) => (.agg #[(.int .i64 r.xInside.xBase), (.int .i64 r.xInside.xLength), (.int .i64 r.xOutside.xBase), (.int .i64 r.xOutside.xLength)])) (fun (r : GRewrite) (u : Unit) => [])) := by
  refine enterS (args := [v1]) [] hF (Given.nil _ _) Tryd.func17 rfl Tryd.ntmps17 rfl h ?_
  clear h hF
  refine c_seq ?_
  refine c_region ?_
  refine stw (o_alloc rfl [(.int .i64 0), (.int .i64 0), (.int .i64 0), (.int .i64 0)] zero38 ?_); intro b3
  refine c_nil ?_
  refine l_then ?_
  refine c_seq ?_
  refine c_region ?_
  refine o_mv st rfl rfl ?_
  refine stw (o_callP (vs := [v1]) Tryd.call39 rfl rfl (by intro w m h; exact w_spec_l20Open (code_0 := code_0) fz_ok0 (m.roS 1 rfl hv1) h) ?_); rintro ⟨r7, r10⟩ ⟨b5, v8⟩
  refine o_as st rfl rfl ?_
  refine c_nil ?_
  refine l_then ?_
  refine c_seq ?_
  refine c_region ?_
  refine o_mv st rfl rfl ?_
  refine stw (o_call (vs := [(.pointer (some ⟨b5, 0, none⟩)), (.int .i64 6)]) (M0 := [cellCh b5 [v8, (.int .i64 r10)] 99]) Tryd.call40 rfl rfl (by intro w m h; exact (w_spec_l20Rewrites (F := allB [cellCh b5 [v8, (.int .i64 r10)] 99] w) (r_0_b := r7) (r_0_p := r10) (n_1 := 6) allB_ok m.given (m.rdM 0 rfl reads_ro) h).mono (fun _ _ k => ret_free (fun r u => (fr_cons (free_own flelGRewrite) (fr_cons free_cell fr_nil))) k)) ?_); rintro ⟨r11, r14⟩ v12
  refine o_as st rfl rfl ?_
  refine c_nil ?_
  refine l_then ?_
  refine c_seq ?_
  refine c_seq ?_
  refine c_region ?_
  refine o_mv st rfl rfl ?_
  refine o_len st el28 0 rfl reads_own rfl rfl ?_
  refine o_eql st und3 rfl rfl rfl ?_
  refine c_nil ?_
  refine l_then ?_
  refine c_cond rfl ?_ ?_
  · refine c_seq ?_
    refine c_region ?_
    refine o_bld st (qs := [(0, (.int .i64 5)), (1, (.int .i64 16))]) (cells := [(.int .i64 5), (.int .i64 16)]) (by intro ρ h; simp only [List.map_toArray, List.map_cons, List.map_nil, h (.const (.int .i64 5)) _ rfl, h (.const (.int .i64 16)) _ rfl]) rfl bld36 rfl ?_
    refine o_bld st (qs := [(0, (.int .i64 9)), (1, (.int .i64 16))]) (cells := [(.int .i64 9), (.int .i64 16)]) (by intro ρ h; simp only [List.map_toArray, List.map_cons, List.map_nil, h (.const (.int .i64 9)) _ rfl, h (.const (.int .i64 16)) _ rfl]) rfl bld36 rfl ?_
    refine o_bld st (qs := [(0, (.agg #[(.int .i64 5), (.int .i64 16)])), (1, (.agg #[(.int .i64 9), (.int .i64 16)]))]) (cells := [(.int .i64 5), (.int .i64 16), (.int .i64 9), (.int .i64 16)]) (by intro ρ h; simp only [List.map_toArray, List.map_cons, List.map_nil, h (.tmp 12) _ rfl, h (.tmp 13) _ rfl]) rfl bld38 rfl ?_
    refine stw (o_stc (cs' := [(.int .i64 5), (.int .i64 16), (.int .i64 9), (.int .i64 16)]) 3 rfl rfl rfl ty38 rfl rfl rfl rfl ?_)
    refine c_nil ?_
    refine l_then ?_
    refine c_ret ?_
    refine l_ret ?_
    exact l_end1 Tryd.results17 (GRewrite.mk (GPrefix.mk 5 16) (GPrefix.mk 9 16)) () (rv_c 3 rfl rfl ty38 rfl) (fun _ _ => NewCh.nil _ _ _ _)
  · refine c_skip ?_
    refine l_then ?_
    refine c_seq ?_
    refine c_region ?_
    refine o_mv st rfl rfl ?_
    refine o_mv st rfl rfl ?_
    refine o_len st el28 0 rfl reads_own rfl rfl ?_
    refine o_sub st rfl rfl rfl ?_; intro t15
    refine o_idx st 0 rfl reads_own rfl rfl rfl el28 ?_; intro e16 h17
    refine o_lds st (enc := encGRewrite) (u := (.agg #[(.int .i64 e16.xInside.xBase), (.int .i64 e16.xInside.xLength), (.int .i64 e16.xOutside.xBase), (.int .i64 e16.xOutside.xLength)])) 0 rfl reads_own flelGRewrite rfl h17 rfl rfl ty38 rfl ?_
    refine stw (o_stc (cs' := [(.int .i64 e16.xInside.xBase), (.int .i64 e16.xInside.xLength), (.int .i64 e16.xOutside.xBase), (.int .i64 e16.xOutside.xLength)]) 3 rfl rfl rfl ty38 rfl rfl rfl rfl ?_)
    refine c_nil ?_
    refine l_then ?_
    refine c_ret ?_
    exact l_end1 Tryd.results17 e16 () (rv_c 3 rfl rfl ty38 rfl) (fun _ _ => NewCh.nil _ _ _ _)

set_option maxRecDepth 100000 in
set_option maxHeartbeats 8000000 in
theorem w_impl_halves {w0 : World} {F : Nat → Prop} {p_0 : GPrefix} {κ : (GPrefix × GPrefix) → Prop} (hF : ∀ b, F b → b < w0.heap.size ∧ ¬ feet [] b) (h : L_impl_halves p_0 κ) :
    Calls Tryd.prog 41 #[(.agg #[(.int .i64 p_0.xBase), (.int .i64 p_0.xLength)])] w0 (Ret [] F w0 κ (fun (r : (GPrefix × GPrefix)) (u : Unit) => .tuple #[(.agg #[(.int .i64 r.1.xBase), (.int .i64 r.1.xLength)]), (.agg #[(.int .i64 r.2.xBase), (.int .i64 r.2.xLength)])]) (fun (r : (GPrefix × GPrefix)) (u : Unit) => [])) := by
  refine enter0 (args := [(.agg #[(.int .i64 p_0.xBase), (.int .i64 p_0.xLength)])]) [] hF (Given.nil _ _) Tryd.func41 rfl Tryd.ntmps41 rfl h ?_
  clear h hF
  refine c_seq ?_
  refine c_region ?_
  refine stw (o_box rfl rfl [(.int .i64 p_0.xBase), (.int .i64 p_0.xLength)] rfl ?_); intro b1
  refine stw (o_alloc rfl [(.int .i64 0), (.int .i64 0)] zero36 ?_); intro b3
  refine stw (o_alloc rfl [(.int .i64 0), (.int .i64 0)] zero36 ?_); intro b5
  refine c_nil ?_
  refine l_then ?_
  refine c_seq ?_
  refine c_region ?_
  refine o_fad st rfl rfl fld36_1 rfl ?_
  refine o_ldc st (v := (.int .i64 p_0.xLength)) 2 rfl rfl rfl ty3 rfl ?_
  refine o_add st rfl rfl rfl ?_; intro t7
  refine o_as st rfl rfl ?_
  refine c_nil ?_
  refine l_then ?_
  refine c_seq ?_
  refine c_draw mixed 14 rfl [cellCh b1 [(.int .i64 p_0.xBase), (.int .i64 p_0.xLength)] 36] ?_
  refine o_fad (dt 0 (fun w m => m.pick [2] rfl)) rfl rfl fld36_0 rfl ?_
  refine o_ldc (dt 1 (fun w m => m.pick [2] rfl)) (v := (.int .i64 p_0.xBase)) 0 rfl rfl rfl ty3 rfl ?_
  refine o_mv (dt 2 (fun w m => m.pick [2] rfl)) rfl rfl ?_
  refine o_bld (dt 3 (fun w m => m.pick [2] rfl)) (qs := [(0, (.int .i64 p_0.xBase)), (1, (.int .i64 t7))]) (cells := [(.int .i64 p_0.xBase), (.int .i64 t7)]) (by intro ρ h; simp only [List.map_toArray, List.map_cons, List.map_nil, h (.tmp 9) _ rfl, h (.tmp 10) _ rfl]) rfl bld36 rfl ?_
  refine o_fad (dt 4 (fun w m => m.pick [2] rfl)) rfl rfl fld36_0 rfl ?_
  refine o_ldc (dt 5 (fun w m => m.pick [2] rfl)) (v := (.int .i64 p_0.xBase)) 0 rfl rfl rfl ty3 rfl ?_
  refine o_mv (dt 6 (fun w m => m.pick [2] rfl)) rfl rfl ?_
  refine o_sub (dt 7 (fun w m => m.pick [2] rfl)) rfl rfl rfl ?_; intro t8
  refine o_shl (dt 8 (fun w m => m.pick [2] rfl)) rfl rfl rfl ?_; intro t9
  refine o_or (dt 9 (fun w m => m.pick [2] rfl)) rfl rfl rfl ?_
  refine o_mv (dt 10 (fun w m => m.pick [2] rfl)) rfl rfl ?_
  refine o_bld (dt 11 (fun w m => m.pick [2] rfl)) (qs := [(0, (.int .i64 (bits .or .i64 p_0.xBase t9))), (1, (.int .i64 t7))]) (cells := [(.int .i64 (bits .or .i64 p_0.xBase t9)), (.int .i64 t7)]) (by intro ρ h; simp only [List.map_toArray, List.map_cons, List.map_nil, h (.tmp 17) _ rfl, h (.tmp 18) _ rfl]) rfl bld36 rfl ?_
  refine d_one (i := 12) rfl (by kernel_rfl) (o_stc (cs' := [(.int .i64 p_0.xBase), (.int .i64 t7)]) 1 rfl rfl rfl ty36 rfl rfl rfl rfl ?_)
  refine d_and (fun w m => m.pick [2] rfl) ?_
  refine d_one (i := 13) rfl (by kernel_rfl) (o_stc (cs' := [(.int .i64 (bits .or .i64 p_0.xBase t9)), (.int .i64 t7)]) 0 rfl rfl rfl ty36 rfl rfl rfl rfl ?_)
  refine d_and (fun w m => m.pick [2] rfl) ?_
  refine d_done (by kernel_rfl) ?_
  refine l_then ?_
  refine c_ret ?_
  exact l_end2 Tryd.results41 ((GPrefix.mk p_0.xBase t7), (GPrefix.mk (bits .or .i64 p_0.xBase t9) t7)) () (rv_c 1 rfl rfl ty36 rfl) (rv_c 0 rfl rfl ty36 rfl) rfl (fun _ _ => NewCh.nil _ _ _ _)

set_option maxRecDepth 100000 in
set_option maxHeartbeats 8000000 in
theorem w_impl_SplitRewrite {w0 : World} {F : Nat → Prop} {r_0 : GRewrite} {κ : (GRewrite × GRewrite × Bool) → Prop} (hF : ∀ b, F b → b < w0.heap.size ∧ ¬ feet [] b) (h : L_impl_SplitRewrite r_0 κ) :
    Calls Tryd.prog 18 #[(.agg #[(.int .i64 r_0.xInside.xBase), (.int .i64 r_0.xInside.xLength), (.int .i64 r_0.xOutside.xBase), (.int .i64 r_0.xOutside.xLength)])] w0 (Ret [] F w0 κ (fun (r : (GRewrite × GRewrite × Bool)) (u : Unit) => .tuple #[(.agg #[(.int .i64 r.1.xInside.xBase), (.int .i64 r.1.xInside.xLength), (.int .i64 r.1.xOutside.xBase), (.int .i64 r.1.xOutside.xLength)]), (.agg #[(.int .i64 r.2.1.xInside.xBase), (.int .i64 r.2.1.xInside.xLength), (.int .i64 r.2.1.xOutside.xBase), (.int .i64 r.2.1.xOutside.xLength)]), (.bool r.2.2)]) (fun (r : (GRewrite × GRewrite × Bool)) (u : Unit) => [])) := by
  refine enter0 (args := [(.agg #[(.int .i64 r_0.xInside.xBase), (.int .i64 r_0.xInside.xLength), (.int .i64 r_0.xOutside.xBase), (.int .i64 r_0.xOutside.xLength)])]) [] hF (Given.nil _ _) Tryd.func18 rfl Tryd.ntmps18 rfl h ?_
  clear h hF
  refine c_seq ?_
  refine c_region ?_
  refine stw (o_box rfl rfl [(.int .i64 r_0.xInside.xBase), (.int .i64 r_0.xInside.xLength), (.int .i64 r_0.xOutside.xBase), (.int .i64 r_0.xOutside.xLength)] rfl ?_); intro b1
  refine stw (o_alloc rfl [(.int .i64 0), (.int .i64 0), (.int .i64 0), (.int .i64 0)] zero38 ?_); intro b3
  refine stw (o_alloc rfl [(.int .i64 0), (.int .i64 0), (.int .i64 0), (.int .i64 0)] zero38 ?_); intro b5
  refine o_as st rfl rfl ?_
  refine c_nil ?_
  refine l_then ?_
  refine c_seq ?_
  refine c_join (σ := Bool) (fun (t70 : Bool) (a : Act) (w : World) => Has 39 [(1, (.pointer (some ⟨b1, 0, none⟩))), (2, (.pointer (some ⟨b3, 0, none⟩))), (3, (.pointer (some ⟨b5, 0, none⟩))), (18, (.bool t70))] a ∧ Mem (gB F [] w0) (feet []) w0 [cellCh b5 [(.int .i64 0), (.int .i64 0), (.int .i64 0), (.int .i64 0)] 38, cellCh b3 [(.int .i64 0), (.int .i64 0), (.int .i64 0), (.int .i64 0)] 38, cellCh b1 [(.int .i64 r_0.xInside.xBase), (.int .i64 r_0.xInside.xLength), (.int .i64 r_0.xOutside.xBase), (.int .i64 r_0.xOutside.xLength)] 38] w) ?_ ?_
  · intro k71
    refine c_region ?_
    refine o_ldc st (v := (.agg #[(.int .i64 r_0.xInside.xBase), (.int .i64 r_0.xInside.xLength), (.int .i64 r_0.xOutside.xBase), (.int .i64 r_0.xOutside.xLength)])) 2 rfl rfl rfl ty38 rfl ?_
    refine stw (o_bsl (enc := encGRewrite) (qs := [(0, (.agg #[(.int .i64 r_0.xInside.xBase), (.int .i64 r_0.xInside.xLength), (.int .i64 r_0.xOutside.xBase), (.int .i64 r_0.xOutside.xLength)]))]) (cells := [(.int .i64 r_0.xInside.xBase), (.int .i64 r_0.xInside.xLength), (.int .i64 r_0.xOutside.xBase), (.int .i64 r_0.xOutside.xLength)]) ([r_0]) flelGRewrite (by intro ρ h; simp only [List.map_toArray, List.map_cons, List.map_nil, h (.tmp 9) _ rfl]) rfl el28 zero38 rfl rfl rfl rfl rfl rfl ?_); intro v7
    refine stw (o_callP (vs := [v7]) Tryd.call22 rfl rfl (by intro w m h; exact (w_impl_RewritesValid (F := allB [] w) (list_0 := ([r_0])) allB_ok (m.rd0 0 rfl reads_own) h).mono (fun _ _ k => ret_free (fun r u => fr_nil) k)) ?_); rintro r9 _
    refine o_not st rfl rfl ?_
    refine o_mv st rfl rfl ?_
    refine st_sp (dj := 13) rfl ?_ ?_
    · refine st_s rfl rfl rfl rfl ?_
      refine st_s rfl rfl rfl rfl ?_
      refine st_s rfl rfl rfl rfl ?_
      refine st_s rfl rfl rfl rfl ?_
      refine o_pickT st rfl rfl rfl ?_
      refine c_nil ?_
      exact l_join true (fun a w hE hm => ⟨hE.sub ⟨rfl, rfl, rfl, rfl, trivial⟩, (hm.pick [1, 2, 3] rfl)⟩)
    · refine o_fad (st_g rfl rfl) rfl rfl fld38_0 rfl ?_
      refine o_fad (st_g rfl rfl) rfl rfl fld36_1 rfl ?_
      refine o_ldc (st_g rfl rfl) (v := (.int .i64 r_0.xInside.xLength)) 3 rfl rfl rfl ty3 rfl ?_
      refine o_eql (st_g rfl rfl) und3 rfl rfl rfl ?_
      refine o_pickF st rfl rfl rfl ?_
      refine c_nil ?_
      exact l_join (decide (r_0.xInside.xLength = 16)) (fun a w hE hm => ⟨hE.sub ⟨rfl, rfl, rfl, rfl, trivial⟩, (hm.pick [1, 2, 3] rfl)⟩)
  · rintro t70 a w ⟨hE, hm⟩ h
    refine nx_of hE hm h ?_
    clear hE hm h
    refine c_cond rfl ?_ ?_
    · refine c_seq ?_
      refine c_region ?_
      refine o_bld st (qs := []) (cells := [(.int .i64 0), (.int .i64 0), (.int .i64 0), (.int .i64 0)]) (by intro ρ h; simp only [List.map_toArray, List.map_cons, List.map_nil]) rfl bld38 rfl ?_
      refine o_bld st (qs := []) (cells := [(.int .i64 0), (.int .i64 0), (.int .i64 0), (.int .i64 0)]) (by intro ρ h; simp only [List.map_toArray, List.map_cons, List.map_nil]) rfl bld38 rfl ?_
      refine stw (o_stc (cs' := [(.int .i64 0), (.int .i64 0), (.int .i64 0), (.int .i64 0)]) 1 rfl rfl rfl ty38 rfl rfl rfl rfl ?_)
      refine stw (o_stc (cs' := [(.int .i64 0), (.int .i64 0), (.int .i64 0), (.int .i64 0)]) 0 rfl rfl rfl ty38 rfl rfl rfl rfl ?_)
      refine o_as st rfl rfl ?_
      refine c_nil ?_
      refine l_then ?_
      refine c_ret ?_
      refine l_ret ?_
      exact l_end3 Tryd.results18 ((GRewrite.mk (GPrefix.mk 0 0) (GPrefix.mk 0 0)), (GRewrite.mk (GPrefix.mk 0 0) (GPrefix.mk 0 0)), false) () (rv_c 1 rfl rfl ty38 rfl) (rv_c 0 rfl rfl ty38 rfl) (rv_t rfl) rfl (fun _ _ => NewCh.nil _ _ _ _)
    · refine c_skip ?_
      refine l_then ?_
      refine c_seq ?_
      refine c_region ?_
      refine o_fad st rfl rfl fld38_0 rfl ?_
      refine o_ldc st (v := (.agg #[(.int .i64 r_0.xInside.xBase), (.int .i64 r_0.xInside.xLength)])) 2 rfl rfl rfl ty36 rfl ?_
      refine stw (o_callP (vs := [(.agg #[(.int .i64 r_0.xInside.xBase), (.int .i64 r_0.xInside.xLength)])]) Tryd.call41 rfl rfl (by intro w m h; exact (w_impl_halves (F := allB [] w) (p_0 := r_0.xInside) allB_ok h).mono (fun _ _ k => ret_free (fun r u => fr_nil) k)) ?_); rintro ⟨r72, r73⟩ _
      refine o_mv st rfl rfl ?_
      refine o_ext st (vs := [(.agg #[(.int .i64 r72.xBase), (.int .i64 r72.xLength)]), (.agg #[(.int .i64 r73.xBase), (.int .i64 r73.xLength)])]) rfl rfl rfl ?_
      refine o_ext st (vs := [(.agg #[(.int .i64 r72.xBase), (.int .i64 r72.xLength)]), (.agg #[(.int .i64 r73.xBase), (.int .i64 r73.xLength)])]) rfl rfl rfl ?_
      refine stw (o_alloc rfl [(.int .i64 0), (.int .i64 0)] zero36 ?_); intro b74
      refine stw (o_alloc rfl [(.int .i64 0), (.int .i64 0)] zero36 ?_); intro b76
      refine stw (o_stc (cs' := [(.int .i64 r72.xBase), (.int .i64 r72.xLength)]) 1 rfl rfl rfl ty36 rfl rfl rfl rfl ?_)
      refine stw (o_stc (cs' := [(.int .i64 r73.xBase), (.int .i64 r73.xLength)]) 0 rfl rfl rfl ty36 rfl rfl rfl rfl ?_)
      refine c_nil ?_
      refine l_then ?_
      refine c_seq ?_
      refine c_region ?_
      refine o_fad st rfl rfl fld38_1 rfl ?_
      refine o_ldc st (v := (.agg #[(.int .i64 r_0.xOutside.xBase), (.int .i64 r_0.xOutside.xLength)])) 4 rfl rfl rfl ty36 rfl ?_
      refine stw (o_callP (vs := [(.agg #[(.int .i64 r_0.xOutside.xBase), (.int .i64 r_0.xOutside.xLength)])]) Tryd.call41 rfl rfl (by intro w m h; exact (w_impl_halves (F := allB [] w) (p_0 := r_0.xOutside) allB_ok h).mono (fun _ _ k => ret_free (fun r u => fr_nil) k)) ?_); rintro ⟨r78, r79⟩ _
      refine o_mv st rfl rfl ?_
      refine o_ext st (vs := [(.agg #[(.int .i64 r78.xBase), (.int .i64 r78.xLength)]), (.agg #[(.int .i64 r79.xBase), (.int .i64 r79.xLength)])]) rfl rfl rfl ?_
      refine o_ext st (vs := [(.agg #[(.int .i64 r78.xBase), (.int .i64 r78.xLength)]), (.agg #[(.int .i64 r79.xBase), (.int .i64 r79.xLength)])]) rfl rfl rfl ?_
      refine stw (o_alloc rfl [(.int .i64 0), (.int .i64 0)] zero36 ?_); intro b80
      refine stw (o_alloc rfl [(.int .i64 0), (.int .i64 0)] zero36 ?_); intro b82
      refine stw (o_stc (cs' := [(.int .i64 r78.xBase), (.int .i64 r78.xLength)]) 1 rfl rfl rfl ty36 rfl rfl rfl rfl ?_)
      refine stw (o_stc (cs' := [(.int .i64 r79.xBase), (.int .i64 r79.xLength)]) 0 rfl rfl rfl ty36 rfl rfl rfl rfl ?_)
      refine c_nil ?_
      refine l_then ?_
      refine c_seq ?_
      refine c_draw mixed 9 rfl [cellCh b82 [(.int .i64 r79.xBase), (.int .i64 r79.xLength)] 36, cellCh b80 [(.int .i64 r78.xBase), (.int .i64 r78.xLength)] 36, cellCh b76 [(.int .i64 r73.xBase), (.int .i64 r73.xLength)] 36, cellCh b74 [(.int .i64 r72.xBase), (.int .i64 r72.xLength)] 36, cellCh b1 [(.int .i64 r_0.xInside.xBase), (.int .i64 r_0.xInside.xLength), (.int .i64 r_0.xOutside.xBase), (.int .i64 r_0.xOutside.xLength)] 38] ?_
      refine o_ldc (dt 0 (fun w m => m.pick [0, 1, 2, 3, 6] rfl)) (v := (.agg #[(.int .i64 r72.xBase), (.int .i64 r72.xLength)])) 3 rfl rfl rfl ty36 rfl ?_
      refine o_ldc (dt 1 (fun w m => m.pick [0, 1, 2, 3, 6] rfl)) (v := (.agg #[(.int .i64 r78.xBase), (.int .i64 r78.xLength)])) 1 rfl rfl rfl ty36 rfl ?_
      refine o_bld (dt 2 (fun w m => m.pick [0, 1, 2, 3, 6] rfl)) (qs := [(0, (.agg #[(.int .i64 r72.xBase), (.int .i64 r72.xLength)])), (1, (.agg #[(.int .i64 r78.xBase), (.int .i64 r78.xLength)]))]) (cells := [(.int .i64 r72.xBase), (.int .i64 r72.xLength), (.int .i64 r78.xBase), (.int .i64 r78.xLength)]) (by intro ρ h; simp only [List.map_toArray, List.map_cons, List.map_nil, h (.tmp 33) _ rfl, h (.tmp 34) _ rfl]) rfl bld38 rfl ?_
      refine o_ldc (dt 3 (fun w m => m.pick [0, 1, 2, 3, 6] rfl)) (v := (.agg #[(.int .i64 r73.xBase), (.int .i64 r73.xLength)])) 2 rfl rfl rfl ty36 rfl ?_
      refine o_ldc (dt 4 (fun w m => m.pick [0, 1, 2, 3, 6] rfl)) (v := (.agg #[(.int .i64 r79.xBase), (.int .i64 r79.xLength)])) 0 rfl rfl rfl ty36 rfl ?_
      refine o_bld (dt 5 (fun w m => m.pick [0, 1, 2, 3, 6] rfl)) (qs := [(0, (.agg #[(.int .i64 r73.xBase), (.int .i64 r73.xLength)])), (1, (.agg #[(.int .i64 r79.xBase), (.int .i64 r79.xLength)]))]) (cells := [(.int .i64 r73.xBase), (.int .i64 r73.xLength), (.int .i64 r79.xBase), (.int .i64 r79.xLength)]) (by intro ρ h; simp only [List.map_toArray, List.map_cons, List.map_nil, h (.tmp 36) _ rfl, h (.tmp 37) _ rfl]) rfl bld38 rfl ?_
      refine d_one (i := 6) rfl (by kernel_rfl) (o_stc (cs' := [(.int .i64 r72.xBase), (.int .i64 r72.xLength), (.int .i64 r78.xBase), (.int .i64 r78.xLength)]) 5 rfl rfl rfl ty38 rfl rfl rfl rfl ?_)
      refine d_and (fun w m => m.pick [0, 1, 2, 3, 6] rfl) ?_
      refine d_one (i := 7) rfl (by kernel_rfl) (o_stc (cs' := [(.int .i64 r73.xBase), (.int .i64 r73.xLength), (.int .i64 r79.xBase), (.int .i64 r79.xLength)]) 4 rfl rfl rfl ty38 rfl rfl rfl rfl ?_)
      refine d_and (fun w m => m.pick [0, 1, 2, 3, 6] rfl) ?_
      refine o_as (dt 8 (fun w m => m.pick [0, 1, 2, 3, 6] rfl)) rfl rfl ?_
      refine d_done (by kernel_rfl) ?_
      refine l_then ?_
      refine c_ret ?_
      exact l_end3 Tryd.results18 ((GRewrite.mk r72 r78), (GRewrite.mk r73 r79), true) () (rv_c 5 rfl rfl ty38 rfl) (rv_c 4 rfl rfl ty38 rfl) (rv_t rfl) rfl (fun _ _ => NewCh.nil _ _ _ _)

set_option maxRecDepth 100000 in
set_option maxHeartbeats 8000000 in
theorem w_spec_SplitRewrite {w0 : World} {F : Nat → Prop} {r_0 : GRewrite} {κ : (GRewrite × GRewrite × Bool) → Prop} (hF : ∀ b, F b → b < w0.heap.size ∧ ¬ feet [] b) (h : L_spec_SplitRewrite r_0 κ) :
    Calls Tryd.prog 19 #[(.agg #[(.int .i64 r_0.xInside.xBase), (.int .i64 r_0.xInside.xLength), (.int .i64 r_0.xOutside.xBase), (.int .i64 r_0.xOutside.xLength)])] w0 (Ret [] F w0 κ (fun (r : (GRewrite × GRewrite × Bool)) (u : Unit) => .tuple #[(.agg #[(.int .i64 r.1.xInside.xBase), (.int .i64 r.1.xInside.xLength), (.int .i64 r.1.xOutside.xBase), (.int .i64 r.1.xOutside.xLength)]), (.agg #[(.int .i64 r.2.1.xInside.xBase), (.int .i64 r.2.1.xInside.xLength), (.int .i64 r.2.1.xOutside.xBase), (.int .i64 r.2.1.xOutside.xLength)]), (.bool r.2.2)]) (fun (r : (GRewrite × GRewrite × Bool)) (u : Unit) => [])) := by
  refine enter0 (args := [(.agg #[(.int .i64 r_0.xInside.xBase), (.int .i64 r_0.xInside.xLength), (.int .i64 r_0.xOutside.xBase), (.int .i64 r_0.xOutside.xLength)])]) [] hF (Given.nil _ _) Tryd.func19 rfl Tryd.ntmps19 rfl h ?_
  clear h hF
  refine c_seq ?_
  refine c_region ?_
  refine stw (o_box rfl rfl [(.int .i64 r_0.xInside.xBase), (.int .i64 r_0.xInside.xLength), (.int .i64 r_0.xOutside.xBase), (.int .i64 r_0.xOutside.xLength)] rfl ?_); intro b1
  refine stw (o_alloc rfl [(.int .i64 0), (.int .i64 0), (.int .i64 0), (.int .i64 0)] zero38 ?_); intro b3
  refine stw (o_alloc rfl [(.int .i64 0), (.int .i64 0), (.int .i64 0), (.int .i64 0)] zero38 ?_); intro b5
  refine o_as st rfl rfl ?_
  refine c_nil ?_
  refine l_then ?_
  refine c_seq ?_
  refine c_join (σ := Bool) (fun (t70 : Bool) (a : Act) (w : World) => Has 56 [(1, (.pointer (some ⟨b1, 0, none⟩))), (2, (.pointer (some ⟨b3, 0, none⟩))), (3, (.pointer (some ⟨b5, 0, none⟩))), (18, (.bool t70))] a ∧ Mem (gB F [] w0) (feet []) w0 [cellCh b5 [(.int .i64 0), (.int .i64 0), (.int .i64 0), (.int .i64 0)] 38, cellCh b3 [(.int .i64 0), (.int .i64 0), (.int .i64 0), (.int .i64 0)] 38, cellCh b1 [(.int .i64 r_0.xInside.xBase), (.int .i64 r_0.xInside.xLength), (.int .i64 r_0.xOutside.xBase), (.int .i64 r_0.xOutside.xLength)] 38] w) ?_ ?_
  · intro k71
    refine c_region ?_
    refine o_ldc st (v := (.agg #[(.int .i64 r_0.xInside.xBase), (.int .i64 r_0.xInside.xLength), (.int .i64 r_0.xOutside.xBase), (.int .i64 r_0.xOutside.xLength)])) 2 rfl rfl rfl ty38 rfl ?_
    refine stw (o_bsl (enc := encGRewrite) (qs := [(0, (.agg #[(.int .i64 r_0.xInside.xBase), (.int .i64 r_0.xInside.xLength), (.int .i64 r_0.xOutside.xBase), (.int .i64 r_0.xOutside.xLength)]))]) (cells := [(.int .i64 r_0.xInside.xBase), (.int .i64 r_0.xInside.xLength), (.int .i64 r_0.xOutside.xBase), (.int .i64 r_0.xOutside.xLength)]) ([r_0]) flelGRewrite (by intro ρ h; simp only [List.map_toArray, List.map_cons, List.map_nil, h (.tmp 9) _ rfl]) rfl el28 zero38 rfl rfl rfl rfl rfl rfl ?_); intro v7
    refine stw (o_callP (vs := [v7]) Tryd.call24 rfl rfl (by intro w m h; exact (w_spec_RewritesValid (F := allB [] w) (list_0 := ([r_0])) allB_ok (m.rd0 0 rfl reads_own) h).mono (fun _ _ k => ret_free (fun r u => fr_nil) k)) ?_); rintro r9 _
    refine o_not st rfl rfl ?_
    refine o_mv st rfl rfl ?_
    refine st_sp (dj := 13) rfl ?_ ?_
    · refine st_s rfl rfl rfl rfl ?_
      refine st_s rfl rfl rfl rfl ?_
      refine st_s rfl rfl rfl rfl ?_
      refine st_s rfl rfl rfl rfl ?_
      refine o_pickT st rfl rfl rfl ?_
      refine c_nil ?_
      exact l_join true (fun a w hE hm => ⟨hE.sub ⟨rfl, rfl, rfl, rfl, trivial⟩, (hm.pick [1, 2, 3] rfl)⟩)
    · refine o_fad (st_g rfl rfl) rfl rfl fld38_0 rfl ?_
      refine o_fad (st_g rfl rfl) rfl rfl fld36_1 rfl ?_
      refine o_ldc (st_g rfl rfl) (v := (.int .i64 r_0.xInside.xLength)) 3 rfl rfl rfl ty3 rfl ?_
      refine o_eql (st_g rfl rfl) und3 rfl rfl rfl ?_
      refine o_pickF st rfl rfl rfl ?_
      refine c_nil ?_
      exact l_join (decide (r_0.xInside.xLength = 16)) (fun a w hE hm => ⟨hE.sub ⟨rfl, rfl, rfl, rfl, trivial⟩, (hm.pick [1, 2, 3] rfl)⟩)
  · rintro t70 a w ⟨hE, hm⟩ h
    refine nx_of hE hm h ?_
    clear hE hm h
    refine c_cond rfl ?_ ?_
    · refine c_seq ?_
      refine c_region ?_
      refine o_bld st (qs := []) (cells := [(.int .i64 0), (.int .i64 0), (.int .i64 0), (.int .i64 0)]) (by intro ρ h; simp only [List.map_toArray, List.map_cons, List.map_nil]) rfl bld38 rfl ?_
      refine o_bld st (qs := []) (cells := [(.int .i64 0), (.int .i64 0), (.int .i64 0), (.int .i64 0)]) (by intro ρ h; simp only [List.map_toArray, List.map_cons, List.map_nil]) rfl bld38 rfl ?_
      refine stw (o_stc (cs' := [(.int .i64 0), (.int .i64 0), (.int .i64 0), (.int .i64 0)]) 1 rfl rfl rfl ty38 rfl rfl rfl rfl ?_)
      refine stw (o_stc (cs' := [(.int .i64 0), (.int .i64 0), (.int .i64 0), (.int .i64 0)]) 0 rfl rfl rfl ty38 rfl rfl rfl rfl ?_)
      refine o_as st rfl rfl ?_
      refine c_nil ?_
      refine l_then ?_
      refine c_ret ?_
      refine l_ret ?_
      exact l_end3 Tryd.results19 ((GRewrite.mk (GPrefix.mk 0 0) (GPrefix.mk 0 0)), (GRewrite.mk (GPrefix.mk 0 0) (GPrefix.mk 0 0)), false) () (rv_c 1 rfl rfl ty38 rfl) (rv_c 0 rfl rfl ty38 rfl) (rv_t rfl) rfl (fun _ _ => NewCh.nil _ _ _ _)
    · refine c_skip ?_
      refine l_then ?_
      refine c_seq ?_
      refine c_region ?_
      refine o_fad st rfl rfl fld38_0 rfl ?_
      refine o_fad st rfl rfl fld36_1 rfl ?_
      refine o_ldc st (v := (.int .i64 r_0.xInside.xLength)) 2 rfl rfl rfl ty3 rfl ?_
      refine o_add st rfl rfl rfl ?_; intro t72
      refine o_as st rfl rfl ?_
      refine c_nil ?_
      refine l_then ?_
      refine c_seq ?_
      refine c_region ?_
      refine o_mv st rfl rfl ?_
      refine o_sub st rfl rfl rfl ?_; intro t73
      refine o_shl st rfl rfl rfl ?_; intro t74
      refine o_as st rfl rfl ?_
      refine c_nil ?_
      refine l_then ?_
      refine c_seq ?_
      refine c_region ?_
      refine o_fad st rfl rfl fld38_0 rfl ?_
      refine o_fad st rfl rfl fld36_0 rfl ?_
      refine o_ldc st (v := (.int .i64 r_0.xInside.xBase)) 2 rfl rfl rfl ty3 rfl ?_
      refine o_mv st rfl rfl ?_
      refine o_bld st (qs := [(0, (.int .i64 r_0.xInside.xBase)), (1, (.int .i64 t72))]) (cells := [(.int .i64 r_0.xInside.xBase), (.int .i64 t72)]) (by intro ρ h; simp only [List.map_toArray, List.map_cons, List.map_nil, h (.tmp 30) _ rfl, h (.tmp 31) _ rfl]) rfl bld36 rfl ?_
      refine o_fad st rfl rfl fld38_1 rfl ?_
      refine o_fad st rfl rfl fld36_0 rfl ?_
      refine o_ldc st (v := (.int .i64 r_0.xOutside.xBase)) 2 rfl rfl rfl ty3 rfl ?_
      refine o_mv st rfl rfl ?_
      refine o_bld st (qs := [(0, (.int .i64 r_0.xOutside.xBase)), (1, (.int .i64 t72))]) (cells := [(.int .i64 r_0.xOutside.xBase), (.int .i64 t72)]) (by intro ρ h; simp only [List.map_toArray, List.map_cons, List.map_nil, h (.tmp 35) _ rfl, h (.tmp 36) _ rfl]) rfl bld36 rfl ?_
      refine o_bld st (qs := [(0, (.agg #[(.int .i64 r_0.xInside.xBase), (.int .i64 t72)])), (1, (.agg #[(.int .i64 r_0.xOutside.xBase), (.int .i64 t72)]))]) (cells := [(.int .i64 r_0.xInside.xBase), (.int .i64 t72), (.int .i64 r_0.xOutside.xBase), (.int .i64 t72)]) (by intro ρ h; simp only [List.map_toArray, List.map_cons, List.map_nil, h (.tmp 32) _ rfl, h (.tmp 37) _ rfl]) rfl bld38 rfl ?_
      refine stw (o_alloc rfl [(.int .i64 0), (.int .i64 0), (.int .i64 0), (.int .i64 0)] zero38 ?_); intro b75
      refine stw (o_stc (cs' := [(.int .i64 r_0.xInside.xBase), (.int .i64 t72), (.int .i64 r_0.xOutside.xBase), (.int .i64 t72)]) 0 rfl rfl rfl ty38 rfl rfl rfl rfl ?_)
      refine c_nil ?_
      refine l_then ?_
      refine c_seq ?_
      refine c_region ?_
      refine o_fad st rfl rfl fld38_0 rfl ?_
      refine o_fad st rfl rfl fld36_0 rfl ?_
      refine o_ldc st (v := (.int .i64 r_0.xInside.xBase)) 3 rfl rfl rfl ty3 rfl ?_
      refine o_mv st rfl rfl ?_
      refine o_add st rfl rfl rfl ?_; intro t77
      refine o_mv st rfl rfl ?_
      refine o_bld st (qs := [(0, (.int .i64 t77)), (1, (.int .i64 t72))]) (cells := [(.int .i64 t77), (.int .i64 t72)]) (by intro ρ h; simp only [List.map_toArray, List.map_cons, List.map_nil, h (.tmp 43) _ rfl, h (.tmp 44) _ rfl]) rfl bld36 rfl ?_
      refine o_fad st rfl rfl fld38_1 rfl ?_
      refine o_fad st rfl rfl fld36_0 rfl ?_
      refine o_ldc st (v := (.int .i64 r_0.xOutside.xBase)) 3 rfl rfl rfl ty3 rfl ?_
      refine o_mv st rfl rfl ?_
      refine o_add st rfl rfl rfl ?_; intro t78
      refine o_mv st rfl rfl ?_
      refine o_bld st (qs := [(0, (.int .i64 t78)), (1, (.int .i64 t72))]) (cells := [(.int .i64 t78), (.int .i64 t72)]) (by intro ρ h; simp only [List.map_toArray, List.map_cons, List.map_nil, h (.tmp 50) _ rfl, h (.tmp 51) _ rfl]) rfl bld36 rfl ?_
      refine o_bld st (qs := [(0, (.agg #[(.int .i64 t77), (.int .i64 t72)])), (1, (.agg #[(.int .i64 t78), (.int .i64 t72)]))]) (cells := [(.int .i64 t77), (.int .i64 t72), (.int .i64 t78), (.int .i64 t72)]) (by intro ρ h; simp only [List.map_toArray, List.map_cons, List.map_nil, h (.tmp 45) _ rfl, h (.tmp 52) _ rfl]) rfl bld38 rfl ?_
      refine stw (o_alloc rfl [(.int .i64 0), (.int .i64 0), (.int .i64 0), (.int .i64 0)] zero38 ?_); intro b79
      refine stw (o_stc (cs' := [(.int .i64 t77), (.int .i64 t72), (.int .i64 t78), (.int .i64 t72)]) 0 rfl rfl rfl ty38 rfl rfl rfl rfl ?_)
      refine c_nil ?_
      refine l_then ?_
      refine c_seq ?_
      refine c_draw mixed 5 rfl [cellCh b79 [(.int .i64 t77), (.int .i64 t72), (.int .i64 t78), (.int .i64 t72)] 38, cellCh b75 [(.int .i64 r_0.xInside.xBase), (.int .i64 t72), (.int .i64 r_0.xOutside.xBase), (.int .i64 t72)] 38, cellCh b1 [(.int .i64 r_0.xInside.xBase), (.int .i64 r_0.xInside.xLength), (.int .i64 r_0.xOutside.xBase), (.int .i64 r_0.xOutside.xLength)] 38] ?_
      refine o_ldc (dt 0 (fun w m => m.pick [0, 1, 4] rfl)) (v := (.agg #[(.int .i64 r_0.xInside.xBase), (.int .i64 t72), (.int .i64 r_0.xOutside.xBase), (.int .i64 t72)])) 1 rfl rfl rfl ty38 rfl ?_
      refine o_ldc (dt 1 (fun w m => m.pick [0, 1, 4] rfl)) (v := (.agg #[(.int .i64 t77), (.int .i64 t72), (.int .i64 t78), (.int .i64 t72)])) 0 rfl rfl rfl ty38 rfl ?_
      refine d_one (i := 2) rfl (by kernel_rfl) (o_stc (cs' := [(.int .i64 r_0.xInside.xBase), (.int .i64 t72), (.int .i64 r_0.xOutside.xBase), (.int .i64 t72)]) 3 rfl rfl rfl ty38 rfl rfl rfl rfl ?_)
      refine d_and (fun w m => m.pick [0, 1, 4] rfl) ?_
      refine d_one (i := 3) rfl (by kernel_rfl) (o_stc (cs' := [(.int .i64 t77), (.int .i64 t72), (.int .i64 t78), (.int .i64 t72)]) 2 rfl rfl rfl ty38 rfl rfl rfl rfl ?_)
      refine d_and (fun w m => m.pick [0, 1, 4] rfl) ?_
      refine o_as (dt 4 (fun w m => m.pick [0, 1, 4] rfl)) rfl rfl ?_
      refine d_done (by kernel_rfl) ?_
      refine l_then ?_
      refine c_ret ?_
      exact l_end3 Tryd.results19 ((GRewrite.mk (GPrefix.mk r_0.xInside.xBase t72) (GPrefix.mk r_0.xOutside.xBase t72)), (GRewrite.mk (GPrefix.mk t77 t72) (GPrefix.mk t78 t72)), true) () (rv_c 3 rfl rfl ty38 rfl) (rv_c 2 rfl rfl ty38 rfl) (rv_t rfl) rfl (fun _ _ => NewCh.nil _ _ _ _)

set_option maxRecDepth 100000 in
set_option maxHeartbeats 8000000 in
theorem w_impl_SpansHave {w0 : World} {F : Nat → Prop} {v1 : Value} {list_0 : (List GSpan)} {n_1 : Int} {κ : Bool → Prop} (hF : ∀ b, F b → b < w0.heap.size ∧ ¬ feet [] b) (hv1 : Sl elGSpan F w0 v1 list_0) (h : L_impl_SpansHave list_0 n_1 κ) :
    Calls Tryd.prog 26 #[v1, (.int .i64 n_1)] w0 (Ret [] F w0 κ (fun (r : Bool) (u : Unit) => (.bool r)) (fun (r : Bool) (u : Unit) => [])) := by
  refine enterS (args := [v1, (.int .i64 n_1)]) [] hF (Given.nil _ _) Tryd.func26 rfl Tryd.ntmps26 rfl h ?_
  clear h hF
  refine c_seq ?_
  refine c_region ?_
  refine o_as st rfl rfl ?_
  refine c_nil ?_
  refine l_then ?_
  refine c_seq ?_
  refine c_seq ?_
  refine c_region ?_
  refine o_mv st rfl rfl ?_
  refine o_len st el50 0 rfl (reads_snap hv1) rfl rfl ?_
  refine o_mv st rfl rfl ?_
  refine c_nil ?_
  refine l_then ?_
  refine c_block ?_
  refine c_loop (σ := Int) (fun (t3 : Int) (a : Act) (w : World) => Has 24 [(1, (.int .i64 n_1)), (7, v1), (8, (.int .i64 (list_0.length : Int))), (9, (.int .i64 t3))] a ∧ Mem (gB F [] w0) (feet []) w0 [snapCh w0 F] w) (fun a w hE hm => ⟨hE.sub ⟨rfl, rfl, rfl, rfl, trivial⟩, (hm.pick [0] rfl)⟩) ?_
  rintro nx4 t3 a w ⟨hE, hm⟩ h
  refine nx_of hE hm h ?_
  clear hE hm h
  refine c_seq ?_
  refine c_region ?_
  refine o_lss st rfl rfl rfl ?_
  refine c_nil ?_
  refine l_then ?_
  refine c_seq ?_
  refine c_cond rfl ?_ ?_
  · refine c_skip ?_
    refine l_then ?_
    refine c_seq ?_
    refine c_block ?_
    refine c_seq ?_
    refine c_region ?_
    refine o_idx st 0 rfl (reads_snap hv1) rfl rfl rfl el50 ?_; intro e5 h6
    refine o_lds st (enc := encGSpan) (u := (.agg #[(.int .i64 e5.xLo), (.int .i64 e5.xHi)])) 0 rfl (reads_snap hv1) flelGSpan rfl h6 rfl rfl ty74 rfl ?_
    refine stw (o_alloc rfl [(.int .i64 0), (.int .i64 0)] zero74 ?_); intro b7
    refine stw (o_stc (cs' := [(.int .i64 e5.xLo), (.int .i64 e5.xHi)]) 0 rfl rfl rfl ty74 rfl rfl rfl rfl ?_)
    refine c_nil ?_
    refine l_then ?_
    refine c_join (σ := Bool) (fun (t69 : Bool) (a : Act) (w : World) => Has 24 [(1, (.int .i64 n_1)), (7, v1), (8, (.int .i64 (list_0.length : Int))), (9, (.int .i64 t3)), (22, (.bool t69))] a ∧ Mem (gB F [] w0) (feet []) w0 [snapCh w0 F] w) ?_ ?_
    · intro k70
      refine c_region ?_
      refine o_fad st rfl rfl fld74_0 rfl ?_
      refine o_ldc st (v := (.int .i64 e5.xLo)) 0 rfl rfl rfl ty3 rfl ?_
      refine o_mv st rfl rfl ?_
      refine o_leq st rfl rfl rfl ?_
      refine o_mv st rfl rfl ?_
      refine st_sp (dj := 17) rfl ?_ ?_
      · refine o_mv (st_g rfl rfl) rfl rfl ?_
        refine o_fad (st_g rfl rfl) rfl rfl fld74_1 rfl ?_
        refine o_ldc (st_g rfl rfl) (v := (.int .i64 e5.xHi)) 0 rfl rfl rfl ty3 rfl ?_
        refine o_leq (st_g rfl rfl) rfl rfl rfl ?_
        refine o_pickT st rfl rfl rfl ?_
        refine c_nil ?_
        exact l_join (decide (n_1 ≤ e5.xHi)) (fun a w hE hm => ⟨hE.sub ⟨rfl, rfl, rfl, rfl, rfl, trivial⟩, (hm.pick [1] rfl)⟩)
      · refine st_s rfl rfl rfl rfl ?_
        refine st_s rfl rfl rfl rfl ?_
        refine st_s rfl rfl rfl rfl ?_
        refine st_s rfl rfl rfl rfl ?_
        refine o_pickF st rfl rfl rfl ?_
        refine c_nil ?_
        exact l_join false (fun a w hE hm => ⟨hE.sub ⟨rfl, rfl, rfl, rfl, rfl, trivial⟩, (hm.pick [1] rfl)⟩)
    · rintro t69 a w ⟨hE, hm⟩ h
      refine nx_of hE hm h ?_
      clear hE hm h
      refine c_cond rfl ?_ ?_
      · refine c_seq ?_
        refine c_region ?_
        refine o_as st rfl rfl ?_
        refine c_nil ?_
        refine l_then ?_
        refine c_ret ?_
        refine b_ret ?_
        refine l_ret ?_
        refine l_ret ?_
        refine b_ret ?_
        refine l_ret ?_
        exact l_end1 Tryd.results26 true () (rv_t rfl) (fun _ _ => NewCh.nil _ _ _ _)
      · refine c_skip ?_
        refine b_norm ?_
        refine l_then ?_
        refine c_region ?_
        refine o_add st rfl rfl rfl ?_; intro t71
        refine o_mv st rfl rfl ?_
        refine c_nil ?_
        exact l_join t71 (fun a w hE hm => ⟨hE.sub ⟨rfl, rfl, rfl, rfl, trivial⟩, (hm.pick [0] rfl)⟩)
  · refine c_exit ?_
    refine l_exit ?_
    refine l_exit ?_
    refine b_exit ?_
    refine l_then ?_
    refine c_seq ?_
    refine c_region ?_
    refine o_as st rfl rfl ?_
    refine c_nil ?_
    refine l_then ?_
    refine c_ret ?_
    exact l_end1 Tryd.results26 false () (rv_t rfl) (fun _ _ => NewCh.nil _ _ _ _)

set_option maxRecDepth 100000 in
set_option maxHeartbeats 8000000 in
theorem w_laws_alive {w0 : World} {F : Nat → Prop} {κ : Bool → Prop} (hF : ∀ b, F b → b < w0.heap.size ∧ ¬ feet [] b) (h : L_laws_alive κ) :
    Calls Tryd.prog 20 #[] w0 (Ret [] F w0 κ (fun (r : Bool) (u : Unit) => (.bool r)) (fun (r : Bool) (u : Unit) => [])) := by
  refine enter0 (args := []) [] hF (Given.nil _ _) Tryd.func20 rfl Tryd.ntmps20 rfl h ?_
  clear h hF
  refine c_seq ?_
  refine c_region ?_
  refine o_as st rfl rfl ?_
  refine c_nil ?_
  refine l_then ?_
  refine c_seq ?_
  refine c_region ?_
  refine o_bld st (qs := [(0, (.int .i64 2)), (1, (.int .i64 4))]) (cells := [(.int .i64 2), (.int .i64 4)]) (by intro ρ h; simp only [List.map_toArray, List.map_cons, List.map_nil, h (.const (.int .i64 2)) _ rfl, h (.const (.int .i64 4)) _ rfl]) rfl bld74 rfl ?_
  refine stw (o_bsl (enc := encGSpan) (qs := [(0, (.agg #[(.int .i64 2), (.int .i64 4)]))]) (cells := [(.int .i64 2), (.int .i64 4)]) ([(GSpan.mk 2 4)]) flelGSpan (by intro ρ h; simp only [List.map_toArray, List.map_cons, List.map_nil, h (.tmp 1) _ rfl]) rfl el50 zero74 rfl rfl rfl rfl rfl rfl ?_); intro v1
  refine stw (o_callP (vs := [v1, (.int .i64 3)]) Tryd.call26 rfl rfl (by intro w m h; exact (w_impl_SpansHave (F := allB [] w) (list_0 := ([(GSpan.mk 2 4)])) (n_1 := 3) allB_ok (m.rd0 0 rfl reads_own) h).mono (fun _ _ k => ret_free (fun r u => fr_nil) k)) ?_); rintro r3 _
  refine o_as st rfl rfl ?_
  refine c_nil ?_
  refine l_then ?_
  refine c_ret ?_
  exact l_end1 Tryd.results20 r3 () (rv_t rfl) (fun _ _ => NewCh.nil _ _ _ _)

set_option maxRecDepth 100000 in
set_option maxHeartbeats 8000000 in
theorem w_spec_l20Packet {w0 : World} {F : Nat → Prop} {b1 : Nat} {v2 : Value} {r_0_b : (List UInt8)} {r_0_p : Int} {n_1 : Int} {κ : (GPacket × Int) → Prop} (hF : ∀ b, F b → b < w0.heap.size ∧ ¬ feet [cellCh b1 [v2, (.int .i64 r_0_p)] 99] b) (hg : Given [cellCh b1 [v2, (.int .i64 r_0_p)] 99] F w0) (hv2 : Sl elU8 F w0 v2 r_0_b) (h : L_spec_l20Packet r_0_b r_0_p n_1 κ) :
    Calls Tryd.prog 42 #[(.pointer (some ⟨b1, 0, none⟩)), (.int .i64 n_1)] w0 (Ret [cellCh b1 [v2, (.int .i64 r_0_p)] 99] F w0 κ (fun (r : (GPacket × Int)) (u : Unit) => (.agg #[(.int .i64 r.1.xFrom), (.int .i64 r.1.xTo), (.int .i64 r.1.xPort), (.int .i64 r.1.xProto)])) (fun (r : (GPacket × Int)) (u : Unit) => [cellCh b1 [v2, (.int .i64 r.2)] 99])) := by
  refine enterS (args := [(.pointer (some ⟨b1, 0, none⟩)), (.int .i64 n_1)]) [cellCh b1 [v2, (.int .i64 r_0_p)] 99] hF hg Tryd.func42 rfl Tryd.ntmps42 rfl h ?_
  clear h hF hg
  refine c_seq ?_
  refine c_region ?_
  refine stw (o_alloc rfl [(.int .i64 0), (.int .i64 0), (.int .i64 0), (.int .i64 0)] zero26 ?_); intro b5
  refine c_nil ?_
  refine l_then ?_
  refine c_seq ?_
  refine c_region ?_
  refine o_mv st rfl rfl ?_
  refine pk [1, 0, 2] rfl ?_
  refine stw (o_call (vs := [(.pointer (some ⟨b1, 0, none⟩)), (.int .i64 20)]) (M0 := [cellCh b1 [v2, (.int .i64 r_0_p)] 99]) Tryd.call62 rfl rfl (by intro w m h; exact (w_spec_l20Rd_pick (F := allB [cellCh b1 [v2, (.int .i64 r_0_p)] 99] w) (r_0_b := r_0_b) (r_0_p := r_0_p) (n_1 := 20) allB_ok m.given (m.rdM 1 rfl (reads_snap hv2)) h).mono (fun _ _ k => ret_free (fun r u => (fr_cons free_cell fr_nil)) k)) ?_); rintro ⟨r7, r8⟩ _
  refine o_mv st rfl rfl ?_
  refine stw (o_call (vs := [(.pointer (some ⟨b1, 0, none⟩)), (.int .i64 20)]) (M0 := [cellCh b1 [v2, (.int .i64 r8)] 99]) Tryd.call62 rfl rfl (by intro w m h; exact (w_spec_l20Rd_pick (F := allB [cellCh b1 [v2, (.int .i64 r8)] 99] w) (r_0_b := r_0_b) (r_0_p := r8) (n_1 := 20) allB_ok m.given (m.rdM 1 rfl (reads_snap hv2)) h).mono (fun _ _ k => ret_free (fun r u => (fr_cons free_cell fr_nil)) k)) ?_); rintro ⟨r9, r10⟩ _
  refine o_mv st rfl rfl ?_
  refine stw (o_call (vs := [(.pointer (some ⟨b1, 0, none⟩)), (.int .i64 256)]) (M0 := [cellCh b1 [v2, (.int .i64 r10)] 99]) Tryd.call62 rfl rfl (by intro w m h; exact (w_spec_l20Rd_pick (F := allB [cellCh b1 [v2, (.int .i64 r10)] 99] w) (r_0_b := r_0_b) (r_0_p := r10) (n_1 := 256) allB_ok m.given (m.rdM 1 rfl (reads_snap hv2)) h).mono (fun _ _ k => ret_free (fun r u => (fr_cons free_cell fr_nil)) k)) ?_); rintro ⟨r11, r12⟩ _
  refine o_mv st rfl rfl ?_
  refine stw (o_call (vs := [(.pointer (some ⟨b1, 0, none⟩)), (.int .i64 8)]) (M0 := [cellCh b1 [v2, (.int .i64 r12)] 99]) Tryd.call62 rfl rfl (by intro w m h; exact (w_spec_l20Rd_pick (F := allB [cellCh b1 [v2, (.int .i64 r12)] 99] w) (r_0_b := r_0_b) (r_0_p := r12) (n_1 := 8) allB_ok m.given (m.rdM 1 rfl (reads_snap hv2)) h).mono (fun _ _ k => ret_free (fun r u => (fr_cons free_cell fr_nil)) k)) ?_); rintro ⟨r13, r14⟩ _
  refine o_bld st (qs := [(0, (.int .i64 r7)), (1, (.int .i64 r9)), (2, (.int .i64 r11)), (3, (.int .i64 r13))]) (cells := [(.int .i64 r7), (.int .i64 r9), (.int .i64 r11), (.int .i64 r13)]) (by intro ρ h; simp only [List.map_toArray, List.map_cons, List.map_nil, h (.tmp 7) _ rfl, h (.tmp 9) _ rfl, h (.tmp 11) _ rfl, h (.tmp 13) _ rfl]) rfl bld26 rfl ?_
  refine stw (o_alloc rfl [(.int .i64 0), (.int .i64 0), (.int .i64 0), (.int .i64 0)] zero26 ?_); intro b15
  refine stw (o_stc (cs' := [(.int .i64 r7), (.int .i64 r9), (.int .i64 r11), (.int .i64 r13)]) 0 rfl rfl rfl ty26 rfl rfl rfl rfl ?_)
  refine c_nil ?_
  refine l_then ?_
  refine c_join (σ := (Int × Int × Int × Int)) (fun ((t93, t94, t95, t96) : (Int × Int × Int × Int)) (a : Act) (w : World) => Has 71 [(0, (.pointer (some ⟨b1, 0, none⟩))), (1, (.int .i64 n_1)), (4, (.pointer (some ⟨b5, 0, none⟩))), (5, (.pointer (some ⟨b15, 0, none⟩)))] a ∧ Mem (gB F [cellCh b1 [v2, (.int .i64 r_0_p)] 99] w0) (feet [cellCh b1 [v2, (.int .i64 r_0_p)] 99]) w0 [cellCh b1 [v2, (.int .i64 t93)] 99, cellCh b15 [(.int .i64 t94), (.int .i64 t95), (.int .i64 t96), (.int .i64 r13)] 26, cellCh b5 [(.int .i64 0), (.int .i64 0), (.int .i64 0), (.int .i64 0)] 26, snapCh w0 F] w) ?_ ?_
  · intro k97
    refine c_seq ?_
    refine c_region ?_
    refine o_mv st rfl rfl ?_
    refine pk [1, 0, 2, 3] rfl ?_
    refine stw (o_call (vs := [(.pointer (some ⟨b1, 0, none⟩)), (.int .i64 2)]) (M0 := [cellCh b1 [v2, (.int .i64 r14)] 99]) Tryd.call62 rfl rfl (by intro w m h; exact (w_spec_l20Rd_pick (F := allB [cellCh b1 [v2, (.int .i64 r14)] 99] w) (r_0_b := r_0_b) (r_0_p := r14) (n_1 := 2) allB_ok m.given (m.rdM 2 rfl (reads_snap hv2)) h).mono (fun _ _ k => ret_free (fun r u => (fr_cons free_cell fr_nil)) k)) ?_); rintro ⟨r17, r18⟩ _
    refine o_eql st und3 rfl rfl rfl ?_
    refine c_nil ?_
    refine l_then ?_
    refine c_cond rfl ?_ ?_
    · refine c_seq ?_
      refine c_region ?_
      refine o_mv st rfl rfl ?_
      refine stw (o_call (vs := [(.pointer (some ⟨b1, 0, none⟩)), (.int .i64 256)]) (M0 := [cellCh b1 [v2, (.int .i64 r18)] 99]) Tryd.call62 rfl rfl (by intro w m h; exact (w_spec_l20Rd_pick (F := allB [cellCh b1 [v2, (.int .i64 r18)] 99] w) (r_0_b := r_0_b) (r_0_p := r18) (n_1 := 256) allB_ok m.given (m.rdM 2 rfl (reads_snap hv2)) h).mono (fun _ _ k => ret_free (fun r u => (fr_cons free_cell fr_nil)) k)) ?_); rintro ⟨r19, r20⟩ _
      refine o_mul st rfl rfl rfl ?_; intro t21
      refine o_mv st rfl rfl ?_
      refine stw (o_call (vs := [(.pointer (some ⟨b1, 0, none⟩)), (.int .i64 256)]) (M0 := [cellCh b1 [v2, (.int .i64 r20)] 99]) Tryd.call62 rfl rfl (by intro w m h; exact (w_spec_l20Rd_pick (F := allB [cellCh b1 [v2, (.int .i64 r20)] 99] w) (r_0_b := r_0_b) (r_0_p := r20) (n_1 := 256) allB_ok m.given (m.rdM 2 rfl (reads_snap hv2)) h).mono (fun _ _ k => ret_free (fun r u => (fr_cons free_cell fr_nil)) k)) ?_); rintro ⟨r22, r23⟩ _
      refine o_add st rfl rfl rfl ?_; intro t24
      refine o_fad st rfl rfl fld26_0 rfl ?_
      refine stw (o_stc (cs' := [(.int .i64 t24), (.int .i64 r9), (.int .i64 r11), (.int .i64 r13)]) 1 rfl rfl rfl ty3 rfl rfl rfl rfl ?_)
      refine c_nil ?_
      refine l_then ?_
      refine c_seq ?_
      refine c_region ?_
      refine o_mv st rfl rfl ?_
      refine stw (o_call (vs := [(.pointer (some ⟨b1, 0, none⟩)), (.int .i64 4)]) (M0 := [cellCh b1 [v2, (.int .i64 r23)] 99]) Tryd.call62 rfl rfl (by intro w m h; exact (w_spec_l20Rd_pick (F := allB [cellCh b1 [v2, (.int .i64 r23)] 99] w) (r_0_b := r_0_b) (r_0_p := r23) (n_1 := 4) allB_ok m.given (m.rdM 2 rfl (reads_snap hv2)) h).mono (fun _ _ k => ret_free (fun r u => (fr_cons free_cell fr_nil)) k)) ?_); rintro ⟨r25, r26⟩ _
      refine o_mul st rfl rfl rfl ?_; intro t27
      refine o_mv st rfl rfl ?_
      refine stw (o_call (vs := [(.pointer (some ⟨b1, 0, none⟩)), (.int .i64 256)]) (M0 := [cellCh b1 [v2, (.int .i64 r26)] 99]) Tryd.call62 rfl rfl (by intro w m h; exact (w_spec_l20Rd_pick (F := allB [cellCh b1 [v2, (.int .i64 r26)] 99] w) (r_0_b := r_0_b) (r_0_p := r26) (n_1 := 256) allB_ok m.given (m.rdM 2 rfl (reads_snap hv2)) h).mono (fun _ _ k => ret_free (fun r u => (fr_cons free_cell fr_nil)) k)) ?_); rintro ⟨r28, r29⟩ _
      refine o_add st rfl rfl rfl ?_; intro t30
      refine o_fad st rfl rfl fld26_1 rfl ?_
      refine stw (o_stc (cs' := [(.int .i64 t24), (.int .i64 t30), (.int .i64 r11), (.int .i64 r13)]) 1 rfl rfl rfl ty3 rfl rfl rfl rfl ?_)
      refine c_nil ?_
      refine l_then ?_
      refine c_region ?_
      refine o_mv st rfl rfl ?_
      refine stw (o_call (vs := [(.pointer (some ⟨b1, 0, none⟩)), (.int .i64 12)]) (M0 := [cellCh b1 [v2, (.int .i64 r29)] 99]) Tryd.call62 rfl rfl (by intro w m h; exact (w_spec_l20Rd_pick (F := allB [cellCh b1 [v2, (.int .i64 r29)] 99] w) (r_0_b := r_0_b) (r_0_p := r29) (n_1 := 12) allB_ok m.given (m.rdM 2 rfl (reads_snap hv2)) h).mono (fun _ _ k => ret_free (fun r u => (fr_cons free_cell fr_nil)) k)) ?_); rintro ⟨r31, r32⟩ _
      refine o_fad st rfl rfl fld26_2 rfl ?_
      refine stw (o_stc (cs' := [(.int .i64 t24), (.int .i64 t30), (.int .i64 r31), (.int .i64 r13)]) 1 rfl rfl rfl ty3 rfl rfl rfl rfl ?_)
      refine c_nil ?_
      exact l_join (r32, t24, t30, r31) (fun a w hE hm => ⟨hE.sub ⟨rfl, rfl, rfl, rfl, trivial⟩, (hm.pick [0, 1, 2, 3] rfl)⟩)
    · refine c_skip ?_
      exact l_join (r18, r7, r9, r11) (fun a w hE hm => ⟨hE.sub ⟨rfl, rfl, rfl, rfl, trivial⟩, (hm.pick [0, 1, 2, 3] rfl)⟩)
  · rintro ⟨t93, t94, t95, t96⟩ a w ⟨hE, hm⟩ h
    refine nx_of hE hm h ?_
    clear hE hm h
    refine c_join (σ := (Int × Int × Int × Int × Int)) (fun ((t186, t187, t188, t189, t190) : (Int × Int × Int × Int × Int)) (a : Act) (w : World) => Has 71 [(4, (.pointer (some ⟨b5, 0, none⟩))), (5, (.pointer (some ⟨b15, 0, none⟩)))] a ∧ Mem (gB F [cellCh b1 [v2, (.int .i64 r_0_p)] 99] w0) (feet [cellCh b1 [v2, (.int .i64 r_0_p)] 99]) w0 [cellCh b1 [v2, (.int .i64 t186)] 99, cellCh b15 [(.int .i64 t187), (.int .i64 t188), (.int .i64 t189), (.int .i64 t190)] 26, cellCh b5 [(.int .i64 0), (.int .i64 0), (.int .i64 0), (.int .i64 0)] 26, snapCh w0 F] w) ?_ ?_
    · intro k191
      refine c_seq ?_
      refine c_region ?_
      refine o_mv st rfl rfl ?_
      refine o_mv st rfl rfl ?_
      refine stw (o_call (vs := [(.pointer (some ⟨b1, 0, none⟩)), (.int .i64 n_1)]) (M0 := [cellCh b1 [v2, (.int .i64 t93)] 99]) Tryd.call63 rfl rfl (by intro w m h; exact (w_spec_l20Rd_odd (F := allB [cellCh b1 [v2, (.int .i64 t93)] 99] w) (r_0_b := r_0_b) (r_0_p := t93) (n_1 := n_1) allB_ok m.given (m.rdM 2 rfl (reads_snap hv2)) h).mono (fun _ _ k => ret_free (fun r u => (fr_cons free_cell fr_nil)) k)) ?_); rintro ⟨r98, r99⟩ _
      refine c_nil ?_
      refine l_then ?_
      refine c_cond rfl ?_ ?_
      · refine c_seq ?_
        refine c_region ?_
        refine o_mv st rfl rfl ?_
        refine stw (o_call (vs := [(.pointer (some ⟨b1, 0, none⟩)), (.int .i64 4)]) (M0 := [cellCh b1 [v2, (.int .i64 r99)] 99]) Tryd.call62 rfl rfl (by intro w m h; exact (w_spec_l20Rd_pick (F := allB [cellCh b1 [v2, (.int .i64 r99)] 99] w) (r_0_b := r_0_b) (r_0_p := r99) (n_1 := 4) allB_ok m.given (m.rdM 2 rfl (reads_snap hv2)) h).mono (fun _ _ k => ret_free (fun r u => (fr_cons free_cell fr_nil)) k)) ?_); rintro ⟨r100, r101⟩ _
        refine c_nil ?_
        refine l_then ?_
        refine c_block ?_
        refine c_seq ?_
        refine c_region ?_
        refine o_eql st und3 rfl rfl rfl ?_
        refine o_as st rfl rfl ?_
        refine c_nil ?_
        refine l_then ?_
        refine c_cond rfl ?_ ?_
        · refine c_region ?_
          refine stw (o_bsl (enc := encInt) (qs := [(0, (.int .i64 (-1))), (1, (.int .i64 65536))]) (cells := [(.int .i64 (-1)), (.int .i64 65536)]) ([(-1), 65536]) flelInt (by intro ρ h; simp only [List.map_toArray, List.map_cons, List.map_nil, h (.const (.int .i64 (-1))) _ rfl, h (.const (.int .i64 65536)) _ rfl]) rfl el101 zero3 rfl rfl rfl rfl rfl rfl ?_); intro v102
          refine o_mv st rfl rfl ?_
          refine pk [1, 0, 2, 3, 4] rfl ?_
          refine stw (o_call (vs := [(.pointer (some ⟨b1, 0, none⟩)), (.int .i64 2)]) (M0 := [cellCh b1 [v2, (.int .i64 r101)] 99]) Tryd.call62 rfl rfl (by intro w m h; exact (w_spec_l20Rd_pick (F := allB [cellCh b1 [v2, (.int .i64 r101)] 99] w) (r_0_b := r_0_b) (r_0_p := r101) (n_1 := 2) allB_ok m.given (m.rdM 3 rfl (reads_snap hv2)) h).mono (fun _ _ k => ret_free (fun r u => (fr_cons free_cell fr_nil)) k)) ?_); rintro ⟨r104, r105⟩ _
          refine o_idx st 1 rfl reads_own rfl rfl rfl el101 ?_; intro e106 h107
          refine o_lds st (enc := encInt) (u := (.int .i64 e106)) 1 rfl reads_own flelInt rfl h107 rfl rfl ty3 rfl ?_
          refine o_fad st rfl rfl fld26_0 rfl ?_
          refine stw (o_stc (cs' := [(.int .i64 e106), (.int .i64 t95), (.int .i64 t96), (.int .i64 r13)]) 2 rfl rfl rfl ty3 rfl rfl rfl rfl ?_)
          refine c_nil ?_
          refine b_norm ?_
          exact l_join (r105, e106, t95, t96, r13) (fun a w hE hm => ⟨hE.sub ⟨rfl, rfl, trivial⟩, (hm.pick [0, 2, 3, 4] rfl)⟩)
        · refine c_seq ?_
          refine c_region ?_
          refine o_eql st und3 rfl rfl rfl ?_
          refine o_as st rfl rfl ?_
          refine c_nil ?_
          refine l_then ?_
          refine c_cond rfl ?_ ?_
          · refine c_region ?_
            refine stw (o_bsl (enc := encInt) (qs := [(0, (.int .i64 (-1))), (1, (.int .i64 65536))]) (cells := [(.int .i64 (-1)), (.int .i64 65536)]) ([(-1), 65536]) flelInt (by intro ρ h; simp only [List.map_toArray, List.map_cons, List.map_nil, h (.const (.int .i64 (-1))) _ rfl, h (.const (.int .i64 65536)) _ rfl]) rfl el101 zero3 rfl rfl rfl rfl rfl rfl ?_); intro v108
            refine o_mv st rfl rfl ?_
            refine pk [1, 0, 2, 3, 4] rfl ?_
            refine stw (o_call (vs := [(.pointer (some ⟨b1, 0, none⟩)), (.int .i64 2)]) (M0 := [cellCh b1 [v2, (.int .i64 r101)] 99]) Tryd.call62 rfl rfl (by intro w m h; exact (w_spec_l20Rd_pick (F := allB [cellCh b1 [v2, (.int .i64 r101)] 99] w) (r_0_b := r_0_b) (r_0_p := r101) (n_1 := 2) allB_ok m.given (m.rdM 3 rfl (reads_snap hv2)) h).mono (fun _ _ k => ret_free (fun r u => (fr_cons free_cell fr_nil)) k)) ?_); rintro ⟨r110, r111⟩ _
            refine o_idx st 1 rfl reads_own rfl rfl rfl el101 ?_; intro e112 h113
            refine o_lds st (enc := encInt) (u := (.int .i64 e112)) 1 rfl reads_own flelInt rfl h113 rfl rfl ty3 rfl ?_
            refine o_fad st rfl rfl fld26_1 rfl ?_
            refine stw (o_stc (cs' := [(.int .i64 t94), (.int .i64 e112), (.int .i64 t96), (.int .i64 r13)]) 2 rfl rfl rfl ty3 rfl rfl rfl rfl ?_)
            refine c_nil ?_
            refine b_norm ?_
            exact l_join (r111, t94, e112, t96, r13) (fun a w hE hm => ⟨hE.sub ⟨rfl, rfl, trivial⟩, (hm.pick [0, 2, 3, 4] rfl)⟩)
          · refine c_seq ?_
            refine c_region ?_
            refine o_eql st und3 rfl rfl rfl ?_
            refine o_as st rfl rfl ?_
            refine c_nil ?_
            refine l_then ?_
            refine c_cond rfl ?_ ?_
            · refine c_region ?_
              refine stw (o_bsl (enc := encInt) (qs := [(0, (.int .i64 (-1))), (1, (.int .i64 256))]) (cells := [(.int .i64 (-1)), (.int .i64 256)]) ([(-1), 256]) flelInt (by intro ρ h; simp only [List.map_toArray, List.map_cons, List.map_nil, h (.const (.int .i64 (-1))) _ rfl, h (.const (.int .i64 256)) _ rfl]) rfl el101 zero3 rfl rfl rfl rfl rfl rfl ?_); intro v114
              refine o_mv st rfl rfl ?_
              refine pk [1, 0, 2, 3, 4] rfl ?_
              refine stw (o_call (vs := [(.pointer (some ⟨b1, 0, none⟩)), (.int .i64 2)]) (M0 := [cellCh b1 [v2, (.int .i64 r101)] 99]) Tryd.call62 rfl rfl (by intro w m h; exact (w_spec_l20Rd_pick (F := allB [cellCh b1 [v2, (.int .i64 r101)] 99] w) (r_0_b := r_0_b) (r_0_p := r101) (n_1 := 2) allB_ok m.given (m.rdM 3 rfl (reads_snap hv2)) h).mono (fun _ _ k => ret_free (fun r u => (fr_cons free_cell fr_nil)) k)) ?_); rintro ⟨r116, r117⟩ _
              refine o_idx st 1 rfl reads_own rfl rfl rfl el101 ?_; intro e118 h119
              refine o_lds st (enc := encInt) (u := (.int .i64 e118)) 1 rfl reads_own flelInt rfl h119 rfl rfl ty3 rfl ?_
              refine o_fad st rfl rfl fld26_2 rfl ?_
              refine stw (o_stc (cs' := [(.int .i64 t94), (.int .i64 t95), (.int .i64 e118), (.int .i64 r13)]) 2 rfl rfl rfl ty3 rfl rfl rfl rfl ?_)
              refine c_nil ?_
              refine b_norm ?_
              exact l_join (r117, t94, t95, e118, r13) (fun a w hE hm => ⟨hE.sub ⟨rfl, rfl, trivial⟩, (hm.pick [0, 2, 3, 4] rfl)⟩)
            · refine c_region ?_
              refine stw (o_bsl (enc := encInt) (qs := [(0, (.int .i64 (-1))), (1, (.int .i64 8))]) (cells := [(.int .i64 (-1)), (.int .i64 8)]) ([(-1), 8]) flelInt (by intro ρ h; simp only [List.map_toArray, List.map_cons, List.map_nil, h (.const (.int .i64 (-1))) _ rfl, h (.const (.int .i64 8)) _ rfl]) rfl el101 zero3 rfl rfl rfl rfl rfl rfl ?_); intro v120
              refine o_mv st rfl rfl ?_
              refine pk [1, 0, 2, 3, 4] rfl ?_
              refine stw (o_call (vs := [(.pointer (some ⟨b1, 0, none⟩)), (.int .i64 2)]) (M0 := [cellCh b1 [v2, (.int .i64 r101)] 99]) Tryd.call62 rfl rfl (by intro w m h; exact (w_spec_l20Rd_pick (F := allB [cellCh b1 [v2, (.int .i64 r101)] 99] w) (r_0_b := r_0_b) (r_0_p := r101) (n_1 := 2) allB_ok m.given (m.rdM 3 rfl (reads_snap hv2)) h).mono (fun _ _ k => ret_free (fun r u => (fr_cons free_cell fr_nil)) k)) ?_); rintro ⟨r122, r123⟩ _
              refine o_idx st 1 rfl reads_own rfl rfl rfl el101 ?_; intro e124 h125
              refine o_lds st (enc := encInt) (u := (.int .i64 e124)) 1 rfl reads_own flelInt rfl h125 rfl rfl ty3 rfl ?_
              refine o_fad st rfl rfl fld26_3 rfl ?_
              refine stw (o_stc (cs' := [(.int .i64 t94), (.int .i64 t95), (.int .i64 t96), (.int .i64 e124)]) 2 rfl rfl rfl ty3 rfl rfl rfl rfl ?_)
              refine c_nil ?_
              refine b_norm ?_
              exact l_join (r123, t94, t95, t96, e124) (fun a w hE hm => ⟨hE.sub ⟨rfl, rfl, trivial⟩, (hm.pick [0, 2, 3, 4] rfl)⟩)
      · refine c_skip ?_
        exact l_join (r99, t94, t95, t96, r13) (fun a w hE hm => ⟨hE.sub ⟨rfl, rfl, trivial⟩, (hm.pick [0, 1, 2, 3] rfl)⟩)
    · rintro ⟨t186, t187, t188, t189, t190⟩ a w ⟨hE, hm⟩ h
      refine nx_of hE hm h ?_
      clear hE hm h
      refine c_seq ?_
      refine c_region ?_
      refine o_ldc st (v := (.agg #[(.int .i64 t187), (.int .i64 t188), (.int .i64 t189), (.int .i64 t190)])) 1 rfl rfl rfl ty26 rfl ?_
      refine stw (o_stc (cs' := [(.int .i64 t187), (.int .i64 t188), (.int .i64 t189), (.int .i64 t190)]) 2 rfl rfl rfl ty26 rfl rfl rfl rfl ?_)
      refine c_nil ?_
      refine l_then ?_
      refine c_ret ?_
      exact l_end1 Tryd.results42 ((GPacket.mk t187 t188 t189 t190), t186) () (rv_c 2 rfl rfl ty26 rfl) (fun w m => NewCh.ofB m [0] rfl)

set_option maxRecDepth 100000 in
set_option maxHeartbeats 8000000 in
theorem w_spec_DrawPacketNumber {w0 : World} {F : Nat → Prop} {v1 : Value} {code_0 : (List UInt8)} {κ : GPacket → Prop} (hF : ∀ b, F b → b < w0.heap.size ∧ ¬ feet [] b) (hv1 : Sl elU8 F w0 v1 code_0) (h : L_spec_DrawPacketNumber code_0 κ) :
    Calls Tryd.prog 21 #[v1] w0 (Ret [] F w0 κ (fun (r : GPacket) (u : Unit) => (.agg #[(.int .i64 r.xFrom), (.int .i64 r.xTo), (.int .i64 r.xPort), (.int .i64 r.xProto)])) (fun (r : GPacket) (u : Unit) => [])) := by
  refine enterS (args := [v1]) [] hF (Given.nil _ _) Tryd.func21 rfl Tryd.ntmps21 rfl h ?_
  clear h hF
  refine c_seq ?_
  refine c_region ?_
  refine stw (o_alloc rfl [(.int .i64 0), (.int .i64 0), (.int .i64 0), (.int .i64 0)] zero26 ?_); intro b3
  refine c_nil ?_
  refine l_then ?_
  refine c_seq ?_
  refine c_region ?_
  refine o_mv st rfl rfl ?_
  refine stw (o_callP (vs := [v1]) Tryd.call39 rfl rfl (by intro w m h; exact w_spec_l20Open (code_0 := code_0) fz_ok0 (m.roS 1 rfl hv1) h) ?_); rintro ⟨r7, r10⟩ ⟨b5, v8⟩
  refine stw (o_call (vs := [(.pointer (some ⟨b5, 0, none⟩)), (.int .i64 6)]) (M0 := [cellCh b5 [v8, (.int .i64 r10)] 99]) Tryd.call42 rfl rfl (by intro w m h; exact (w_spec_l20Packet (F := allB [cellCh b5 [v8, (.int .i64 r10)] 99] w) (r_0_b := r7) (r_0_p := r10) (n_1 := 6) allB_ok m.given (m.rdM 0 rfl reads_ro) h).mono (fun _ _ k => ret_free (fun r u => (fr_cons free_cell fr_nil)) k)) ?_); rintro ⟨r11, r12⟩ _
  refine stw (o_stc (cs' := [(.int .i64 r11.xFrom), (.int .i64 r11.xTo), (.int .i64 r11.xPort), (.int .i64 r11.xProto)]) 2 rfl rfl rfl ty26 rfl rfl rfl rfl ?_)
  refine c_nil ?_
  refine l_then ?_
  refine c_ret ?_
  exact l_end1 Tryd.results21 r11 () (rv_c 2 rfl rfl ty26 rfl) (fun _ _ => NewCh.nil _ _ _ _)

set_option maxRecDepth 100000 in
set_option maxHeartbeats 8000000 in
theorem w_laws_FnSplitRewrite {w0 : World} {F : Nat → Prop} {v1 : Value} {v3 : Value} {code_0 : (List UInt8)} {more_1 : (List UInt8)} {κ : Bool → Prop} (hF : ∀ b, F b → b < w0.heap.size ∧ ¬ feet [] b) (hv1 : Sl elU8 F w0 v1 code_0) (hv3 : Sl elU8 F w0 v3 more_1) (hgl0 : Sl elGFieldShape F w0 (.slice (some ⟨0, 0, none⟩) 4 4) gl_impl_fieldShapes) (h : L_laws_FnSplitRewrite code_0 more_1 κ) :
    Calls Tryd.prog 5 #[v1, v3] w0 (Ret [] F w0 κ (fun (r : Bool) (u : Unit) => (.bool r)) (fun (r : Bool) (u : Unit) => [])) := by
  refine enterS (args := [v1, v3]) [] hF (Given.nil _ _) Tryd.func5 rfl Tryd.ntmps5 rfl h ?_
  clear h hF
  refine c_seq ?_
  refine c_region ?_
  refine o_as st rfl rfl ?_
  refine c_nil ?_
  refine l_then ?_
  refine c_seq ?_
  refine c_join (σ := Bool) (fun (t65 : Bool) (a : Act) (w : World) => Has 123 [(0, v1), (1, v3), (24, (.bool t65))] a ∧ Mem (gB F [] w0) (feet []) w0 [snapCh w0 F] w) ?_ ?_
  · intro k66
    refine c_region ?_
    refine o_mv st rfl rfl ?_
    refine o_len st el34 0 rfl (reads_snap hv1) rfl rfl ?_
    refine o_gtr st rfl rfl rfl ?_
    refine o_mv st rfl rfl ?_
    refine st_sp (dj := 20) rfl ?_ ?_
    · refine st_s rfl rfl rfl rfl ?_
      refine st_s rfl rfl rfl rfl ?_
      refine st_s rfl rfl rfl rfl ?_
      refine o_pickT st rfl rfl rfl ?_
      refine c_nil ?_
      exact l_join true (fun a w hE hm => ⟨hE.sub ⟨rfl, rfl, rfl, trivial⟩, (hm.pick [0] rfl)⟩)
    · refine o_mv (st_g rfl rfl) rfl rfl ?_
      refine o_len (st_g rfl rfl) el34 0 rfl (reads_snap hv3) rfl rfl ?_
      refine o_gtr (st_g rfl rfl) rfl rfl rfl ?_
      refine o_pickF st rfl rfl rfl ?_
      refine c_nil ?_
      exact l_join (decide (1048576 < (more_1.length : Int))) (fun a w hE hm => ⟨hE.sub ⟨rfl, rfl, rfl, trivial⟩, (hm.pick [0] rfl)⟩)
  · rintro t65 a w ⟨hE, hm⟩ h
    refine nx_of hE hm h ?_
    clear hE hm h
    refine c_cond rfl ?_ ?_
    · refine c_seq ?_
      refine c_region ?_
      refine o_as st rfl rfl ?_
      refine c_nil ?_
      refine l_then ?_
      refine c_ret ?_
      refine l_ret ?_
      exact l_end1 Tryd.results5 true () (rv_t rfl) (fun _ _ => NewCh.nil _ _ _ _)
    · refine c_skip ?_
      refine l_then ?_
      refine c_seq ?_
      refine c_region ?_
      refine o_mv st rfl rfl ?_
      refine stw (o_callP (vs := [v1]) Tryd.call17 rfl rfl (by intro w m h; exact (w_spec_DrawSplitRewrite (F := allB [] w) (code_0 := code_0) allB_ok (m.rd0 0 rfl (reads_snap hv1)) h).mono (fun _ _ k => ret_free (fun r u => fr_nil) k)) ?_); rintro r67 _
      refine stw (o_alloc rfl [(.int .i64 0), (.int .i64 0), (.int .i64 0), (.int .i64 0)] zero38 ?_); intro b68
      refine stw (o_stc (cs' := [(.int .i64 r67.xInside.xBase), (.int .i64 r67.xInside.xLength), (.int .i64 r67.xOutside.xBase), (.int .i64 r67.xOutside.xLength)]) 0 rfl rfl rfl ty38 rfl rfl rfl rfl ?_)
      refine c_nil ?_
      refine l_then ?_
      refine c_seq ?_
      refine c_region ?_
      refine o_ldc st (v := (.agg #[(.int .i64 r67.xInside.xBase), (.int .i64 r67.xInside.xLength), (.int .i64 r67.xOutside.xBase), (.int .i64 r67.xOutside.xLength)])) 0 rfl rfl rfl ty38 rfl ?_
      refine stw (o_callP (vs := [(.agg #[(.int .i64 r67.xInside.xBase), (.int .i64 r67.xInside.xLength), (.int .i64 r67.xOutside.xBase), (.int .i64 r67.xOutside.xLength)])]) Tryd.call18 rfl rfl (by intro w m h; exact (w_impl_SplitRewrite (F := allB [] w) (r_0 := r67) allB_ok h).mono (fun _ _ k => ret_free (fun r u => fr_nil) k)) ?_); rintro ⟨r70, r71, r72⟩ _
      refine o_mv st rfl rfl ?_
      refine o_ext st (vs := [(.agg #[(.int .i64 r70.xInside.xBase), (.int .i64 r70.xInside.xLength), (.int .i64 r70.xOutside.xBase), (.int .i64 r70.xOutside.xLength)]), (.agg #[(.int .i64 r71.xInside.xBase), (.int .i64 r71.xInside.xLength), (.int .i64 r71.xOutside.xBase), (.int .i64 r71.xOutside.xLength)]), (.bool r72)]) rfl rfl rfl ?_
      refine o_ext st (vs := [(.agg #[(.int .i64 r70.xInside.xBase), (.int .i64 r70.xInside.xLength), (.int .i64 r70.xOutside.xBase), (.int .i64 r70.xOutside.xLength)]), (.agg #[(.int .i64 r71.xInside.xBase), (.int .i64 r71.xInside.xLength), (.int .i64 r71.xOutside.xBase), (.int .i64 r71.xOutside.xLength)]), (.bool r72)]) rfl rfl rfl ?_
      refine o_ext st (vs := [(.agg #[(.int .i64 r70.xInside.xBase), (.int .i64 r70.xInside.xLength), (.int .i64 r70.xOutside.xBase), (.int .i64 r70.xOutside.xLength)]), (.agg #[(.int .i64 r71.xInside.xBase), (.int .i64 r71.xInside.xLength), (.int .i64 r71.xOutside.xBase), (.int .i64 r71.xOutside.xLength)]), (.bool r72)]) rfl rfl rfl ?_
      refine stw (o_alloc rfl [(.int .i64 0), (.int .i64 0), (.int .i64 0), (.int .i64 0)] zero38 ?_); intro b73
      refine stw (o_alloc rfl [(.int .i64 0), (.int .i64 0), (.int .i64 0), (.int .i64 0)] zero38 ?_); intro b75
      refine stw (o_stc (cs' := [(.int .i64 r70.xInside.xBase), (.int .i64 r70.xInside.xLength), (.int .i64 r70.xOutside.xBase), (.int .i64 r70.xOutside.xLength)]) 1 rfl rfl rfl ty38 rfl rfl rfl rfl ?_)
      refine stw (o_stc (cs' := [(.int .i64 r71.xInside.xBase), (.int .i64 r71.xInside.xLength), (.int .i64 r71.xOutside.xBase), (.int .i64 r71.xOutside.xLength)]) 0 rfl rfl rfl ty38 rfl rfl rfl rfl ?_)
      refine o_as st rfl rfl ?_
      refine c_nil ?_
      refine l_then ?_
      refine c_seq ?_
      refine c_region ?_
      refine o_ldc st (v := (.agg #[(.int .i64 r67.xInside.xBase), (.int .i64 r67.xInside.xLength), (.int .i64 r67.xOutside.xBase), (.int .i64 r67.xOutside.xLength)])) 2 rfl rfl rfl ty38 rfl ?_
      refine stw (o_callP (vs := [(.agg #[(.int .i64 r67.xInside.xBase), (.int .i64 r67.xInside.xLength), (.int .i64 r67.xOutside.xBase), (.int .i64 r67.xOutside.xLength)])]) Tryd.call19 rfl rfl (by intro w m h; exact (w_spec_SplitRewrite (F := allB [] w) (r_0 := r67) allB_ok h).mono (fun _ _ k => ret_free (fun r u => fr_nil) k)) ?_); rintro ⟨r77, r78, r79⟩ _
      refine o_mv st rfl rfl ?_
      refine o_ext st (vs := [(.agg #[(.int .i64 r77.xInside.xBase), (.int .i64 r77.xInside.xLength), (.int .i64 r77.xOutside.xBase), (.int .i64 r77.xOutside.xLength)]), (.agg #[(.int .i64 r78.xInside.xBase), (.int .i64 r78.xInside.xLength), (.int .i64 r78.xOutside.xBase), (.int .i64 r78.xOutside.xLength)]), (.bool r79)]) rfl rfl rfl ?_
      refine o_ext st (vs := [(.agg #[(.int .i64 r77.xInside.xBase), (.int .i64 r77.xInside.xLength), (.int .i64 r77.xOutside.xBase), (.int .i64 r77.xOutside.xLength)]), (.agg #[(.int .i64 r78.xInside.xBase), (.int .i64 r78.xInside.xLength), (.int .i64 r78.xOutside.xBase), (.int .i64 r78.xOutside.xLength)]), (.bool r79)]) rfl rfl rfl ?_
      refine o_ext st (vs := [(.agg #[(.int .i64 r77.xInside.xBase), (.int .i64 r77.xInside.xLength), (.int .i64 r77.xOutside.xBase), (.int .i64 r77.xOutside.xLength)]), (.agg #[(.int .i64 r78.xInside.xBase), (.int .i64 r78.xInside.xLength), (.int .i64 r78.xOutside.xBase), (.int .i64 r78.xOutside.xLength)]), (.bool r79)]) rfl rfl rfl ?_
      refine stw (o_alloc rfl [(.int .i64 0), (.int .i64 0), (.int .i64 0), (.int .i64 0)] zero38 ?_); intro b80
      refine stw (o_alloc rfl [(.int .i64 0), (.int .i64 0), (.int .i64 0), (.int .i64 0)] zero38 ?_); intro b82
      refine stw (o_stc (cs' := [(.int .i64 r77.xInside.xBase), (.int .i64 r77.xInside.xLength), (.int .i64 r77.xOutside.xBase), (.int .i64 r77.xOutside.xLength)]) 1 rfl rfl rfl ty38 rfl rfl rfl rfl ?_)
      refine stw (o_stc (cs' := [(.int .i64 r78.xInside.xBase), (.int .i64 r78.xInside.xLength), (.int .i64 r78.xOutside.xBase), (.int .i64 r78.xOutside.xLength)]) 0 rfl rfl rfl ty38 rfl rfl rfl rfl ?_)
      refine o_as st rfl rfl ?_
      refine c_nil ?_
      refine l_then ?_
      refine c_seq ?_
      refine c_join (σ := Bool) (fun (t144 : Bool) (a : Act) (w : World) => Has 123 [(1, v3), (5, (.pointer (some ⟨b68, 0, none⟩))), (6, (.pointer (some ⟨b73, 0, none⟩))), (7, (.pointer (some ⟨b75, 0, none⟩))), (8, (.bool r72)), (51, (.bool t144))] a ∧ Mem (gB F [] w0) (feet []) w0 [cellCh b75 [(.int .i64 r71.xInside.xBase), (.int .i64 r71.xInside.xLength), (.int .i64 r71.xOutside.xBase), (.int .i64 r71.xOutside.xLength)] 38, cellCh b73 [(.int .i64 r70.xInside.xBase), (.int .i64 r70.xInside.xLength), (.int .i64 r70.xOutside.xBase), (.int .i64 r70.xOutside.xLength)] 38, cellCh b68 [(.int .i64 r67.xInside.xBase), (.int .i64 r67.xInside.xLength), (.int .i64 r67.xOutside.xBase), (.int .i64 r67.xOutside.xLength)] 38, snapCh w0 F] w) ?_ ?_
      · intro k145
        refine c_region ?_
        refine o_ldc st (v := (.agg #[(.int .i64 r70.xInside.xBase), (.int .i64 r70.xInside.xLength), (.int .i64 r70.xOutside.xBase), (.int .i64 r70.xOutside.xLength)])) 3 rfl rfl rfl ty38 rfl ?_
        refine o_ldc st (v := (.agg #[(.int .i64 r77.xInside.xBase), (.int .i64 r77.xInside.xLength), (.int .i64 r77.xOutside.xBase), (.int .i64 r77.xOutside.xLength)])) 1 rfl rfl rfl ty38 rfl ?_
        refine o_bin st (.bool (!(decide (r70 = r77)))) rfl rfl rfl (neqs38 _ _ r70.xInside.xBase r70.xInside.xLength r70.xOutside.xBase r70.xOutside.xLength r77.xInside.xBase r77.xInside.xLength r77.xOutside.xBase r77.xOutside.xLength) ?_
        refine o_mv st rfl rfl ?_
        refine st_sp (dj := 42) rfl ?_ ?_
        · refine st_s rfl rfl rfl rfl ?_
          refine st_s rfl rfl rfl rfl ?_
          refine st_s rfl rfl rfl rfl ?_
          refine o_pickT st rfl rfl rfl ?_
          refine o_mv st rfl rfl ?_
          refine st_s rfl rfl rfl rfl ?_
          refine st_s rfl rfl rfl rfl ?_
          refine st_s rfl rfl rfl rfl ?_
          refine o_pickT st rfl rfl rfl ?_
          refine c_nil ?_
          exact l_join true (fun a w hE hm => ⟨hE.sub ⟨rfl, rfl, rfl, rfl, rfl, rfl, trivial⟩, (hm.pick [2, 3, 4, 5] rfl)⟩)
        · refine o_ldc (st_g rfl rfl) (v := (.agg #[(.int .i64 r71.xInside.xBase), (.int .i64 r71.xInside.xLength), (.int .i64 r71.xOutside.xBase), (.int .i64 r71.xOutside.xLength)])) 2 rfl rfl rfl ty38 rfl ?_
          refine o_ldc (st_g rfl rfl) (v := (.agg #[(.int .i64 r78.xInside.xBase), (.int .i64 r78.xInside.xLength), (.int .i64 r78.xOutside.xBase), (.int .i64 r78.xOutside.xLength)])) 0 rfl rfl rfl ty38 rfl ?_
          refine o_bin (st_g rfl rfl) (.bool (!(decide (r71 = r78)))) rfl rfl rfl (neqs38 _ _ r71.xInside.xBase r71.xInside.xLength r71.xOutside.xBase r71.xOutside.xLength r78.xInside.xBase r78.xInside.xLength r78.xOutside.xBase r78.xOutside.xLength) ?_
          refine o_pickF st rfl rfl rfl ?_
          refine o_mv st rfl rfl ?_
          refine st_sp (dj := 47) rfl ?_ ?_
          · refine st_s rfl rfl rfl rfl ?_
            refine st_s rfl rfl rfl rfl ?_
            refine st_s rfl rfl rfl rfl ?_
            refine o_pickT st rfl rfl rfl ?_
            refine c_nil ?_
            exact l_join true (fun a w hE hm => ⟨hE.sub ⟨rfl, rfl, rfl, rfl, rfl, rfl, trivial⟩, (hm.pick [2, 3, 4, 5] rfl)⟩)
          · refine o_mv (st_g rfl rfl) rfl rfl ?_
            refine o_mv (st_g rfl rfl) rfl rfl ?_
            refine o_neqB (st_g rfl rfl) und4 rfl rfl rfl ?_
            refine o_pickF st rfl rfl rfl ?_
            refine c_nil ?_
            exact l_join (!(decide (r72 = r79))) (fun a w hE hm => ⟨hE.sub ⟨rfl, rfl, rfl, rfl, rfl, rfl, trivial⟩, (hm.pick [2, 3, 4, 5] rfl)⟩)
      · rintro t144 a w ⟨hE, hm⟩ h
        refine nx_of hE hm h ?_
        clear hE hm h
        refine c_cond rfl ?_ ?_
        · refine c_seq ?_
          refine c_region ?_
          refine o_as st rfl rfl ?_
          refine c_nil ?_
          refine l_then ?_
          refine c_ret ?_
          refine l_ret ?_
          exact l_end1 Tryd.results5 false () (rv_t rfl) (fun _ _ => NewCh.nil _ _ _ _)
        · refine c_skip ?_
          refine l_then ?_
          refine c_seq ?_
          refine c_seq ?_
          refine c_region ?_
          refine o_mv st rfl rfl ?_
          refine o_not st rfl rfl ?_
          refine c_nil ?_
          refine l_then ?_
          refine c_cond rfl ?_ ?_
          · refine c_join (σ := Bool) (fun (t207 : Bool) (a : Act) (w : World) => Has 123 [(4, (.bool t207))] a ∧ Mem (gB F [] w0) (feet []) w0 [snapCh w0 F] w) ?_ ?_
            · intro k208
              refine c_region ?_
              refine o_ldc st (v := (.agg #[(.int .i64 r70.xInside.xBase), (.int .i64 r70.xInside.xLength), (.int .i64 r70.xOutside.xBase), (.int .i64 r70.xOutside.xLength)])) 1 rfl rfl rfl ty38 rfl ?_
              refine o_bld st (qs := []) (cells := [(.int .i64 0), (.int .i64 0), (.int .i64 0), (.int .i64 0)]) (by intro ρ h; simp only [List.map_toArray, List.map_cons, List.map_nil]) rfl bld38 rfl ?_
              refine o_bin st (.bool (decide (r70 = (GRewrite.mk (GPrefix.mk 0 0) (GPrefix.mk 0 0))))) rfl rfl rfl (eqls38 _ _ r70.xInside.xBase r70.xInside.xLength r70.xOutside.xBase r70.xOutside.xLength 0 0 0 0) ?_
              refine o_mv st rfl rfl ?_
              refine st_sp (dj := 57) rfl ?_ ?_
              · refine o_ldc (st_g rfl rfl) (v := (.agg #[(.int .i64 r71.xInside.xBase), (.int .i64 r71.xInside.xLength), (.int .i64 r71.xOutside.xBase), (.int .i64 r71.xOutside.xLength)])) 0 rfl rfl rfl ty38 rfl ?_
                refine o_bld (st_g rfl rfl) (qs := []) (cells := [(.int .i64 0), (.int .i64 0), (.int .i64 0), (.int .i64 0)]) (by intro ρ h; simp only [List.map_toArray, List.map_cons, List.map_nil]) rfl bld38 rfl ?_
                refine o_bin (st_g rfl rfl) (.bool (decide (r71 = (GRewrite.mk (GPrefix.mk 0 0) (GPrefix.mk 0 0))))) rfl rfl rfl (eqls38 _ _ r71.xInside.xBase r71.xInside.xLength r71.xOutside.xBase r71.xOutside.xLength 0 0 0 0) ?_
                refine o_pickT st rfl rfl rfl ?_
                refine o_mv st rfl rfl ?_
                refine st_sp (dj := 62) rfl ?_ ?_
                · refine st_gw rfl rfl (o_callP (vs := []) Tryd.call20 rfl rfl (by intro w m h; exact (w_laws_alive (F := allB [] w) allB_ok h).mono (fun _ _ k => ret_free (fun r u => fr_nil) k)) ?_); rintro r146 _
                  refine o_pickT st rfl rfl rfl ?_
                  refine o_as st rfl rfl ?_
                  refine c_nil ?_
                  exact l_join r146 (fun a w hE hm => ⟨hE.sub ⟨rfl, trivial⟩, (hm.pick [3] rfl)⟩)
                · refine st_s rfl rfl rfl rfl ?_
                  refine o_pickF st rfl rfl rfl ?_
                  refine o_as st rfl rfl ?_
                  refine c_nil ?_
                  exact l_join false (fun a w hE hm => ⟨hE.sub ⟨rfl, trivial⟩, (hm.pick [3] rfl)⟩)
              · refine st_s rfl rfl rfl rfl ?_
                refine st_s rfl rfl rfl rfl ?_
                refine st_s rfl rfl rfl rfl ?_
                refine o_pickF st rfl rfl rfl ?_
                refine o_mv st rfl rfl ?_
                refine st_s rfl rfl rfl rfl ?_
                refine o_pickF st rfl rfl rfl ?_
                refine o_as st rfl rfl ?_
                refine c_nil ?_
                exact l_join false (fun a w hE hm => ⟨hE.sub ⟨rfl, trivial⟩, (hm.pick [3] rfl)⟩)
            · rintro t207 a w ⟨hE, hm⟩ h
              refine nx_of hE hm h ?_
              clear hE hm h
              refine c_ret ?_
              refine l_ret ?_
              exact l_end1 Tryd.results5 t207 () (rv_t rfl) (fun _ _ => NewCh.nil _ _ _ _)
          · refine c_skip ?_
            refine l_then ?_
            refine c_seq ?_
            refine c_region ?_
            refine o_ldc st (v := (.agg #[(.int .i64 r67.xInside.xBase), (.int .i64 r67.xInside.xLength), (.int .i64 r67.xOutside.xBase), (.int .i64 r67.xOutside.xLength)])) 2 rfl rfl rfl ty38 rfl ?_
            refine stw (o_bsl (enc := encGRewrite) (qs := [(0, (.agg #[(.int .i64 r67.xInside.xBase), (.int .i64 r67.xInside.xLength), (.int .i64 r67.xOutside.xBase), (.int .i64 r67.xOutside.xLength)]))]) (cells := [(.int .i64 r67.xInside.xBase), (.int .i64 r67.xInside.xLength), (.int .i64 r67.xOutside.xBase), (.int .i64 r67.xOutside.xLength)]) ([r67]) flelGRewrite (by intro ρ h; simp only [List.map_toArray, List.map_cons, List.map_nil, h (.tmp 65) _ rfl]) rfl el28 zero38 rfl rfl rfl rfl rfl rfl ?_); intro v209
            refine o_as st rfl rfl ?_
            refine c_nil ?_
            refine l_then ?_
            refine c_seq ?_
            refine c_region ?_
            refine o_ldc st (v := (.agg #[(.int .i64 r70.xInside.xBase), (.int .i64 r70.xInside.xLength), (.int .i64 r70.xOutside.xBase), (.int .i64 r70.xOutside.xLength)])) 2 rfl rfl rfl ty38 rfl ?_
            refine o_ldc st (v := (.agg #[(.int .i64 r71.xInside.xBase), (.int .i64 r71.xInside.xLength), (.int .i64 r71.xOutside.xBase), (.int .i64 r71.xOutside.xLength)])) 1 rfl rfl rfl ty38 rfl ?_
            refine stw (o_bsl (enc := encGRewrite) (qs := [(0, (.agg #[(.int .i64 r70.xInside.xBase), (.int .i64 r70.xInside.xLength), (.int .i64 r70.xOutside.xBase), (.int .i64 r70.xOutside.xLength)])), (1, (.agg #[(.int .i64 r71.xInside.xBase), (.int .i64 r71.xInside.xLength), (.int .i64 r71.xOutside.xBase), (.int .i64 r71.xOutside.xLength)]))]) (cells := [(.int .i64 r70.xInside.xBase), (.int .i64 r70.xInside.xLength), (.int .i64 r70.xOutside.xBase), (.int .i64 r70.xOutside.xLength), (.int .i64 r71.xInside.xBase), (.int .i64 r71.xInside.xLength), (.int .i64 r71.xOutside.xBase), (.int .i64 r71.xOutside.xLength)]) ([r70, r71]) flelGRewrite (by intro ρ h; simp only [List.map_toArray, List.map_cons, List.map_nil, h (.tmp 67) _ rfl, h (.tmp 68) _ rfl]) rfl el28 zero38 rfl rfl rfl rfl rfl rfl ?_); intro v211
            refine o_as st rfl rfl ?_
            refine c_nil ?_
            refine l_then ?_
            refine c_seq ?_
            refine c_region ?_
            refine o_fad st rfl rfl fld38_0 rfl ?_
            refine o_fad st rfl rfl fld36_1 rfl ?_
            refine o_ldc st (v := (.int .i64 r67.xInside.xLength)) 4 rfl rfl rfl ty3 rfl ?_
            refine o_sub st rfl rfl rfl ?_; intro t213
            refine o_shl st rfl rfl rfl ?_; intro t214
            refine o_as st rfl rfl ?_
            refine c_nil ?_
            refine l_then ?_
            refine c_seq ?_
            refine c_draw mixed 19 rfl [ownCh elGRewrite 38 v211 ([r70, r71]), ownCh elGRewrite 38 v209 ([r67]), cellCh b75 [(.int .i64 r71.xInside.xBase), (.int .i64 r71.xInside.xLength), (.int .i64 r71.xOutside.xBase), (.int .i64 r71.xOutside.xLength)] 38, cellCh b73 [(.int .i64 r70.xInside.xBase), (.int .i64 r70.xInside.xLength), (.int .i64 r70.xOutside.xBase), (.int .i64 r70.xOutside.xLength)] 38, cellCh b68 [(.int .i64 r67.xInside.xBase), (.int .i64 r67.xInside.xLength), (.int .i64 r67.xOutside.xBase), (.int .i64 r67.xOutside.xLength)] 38, snapCh w0 F] ?_
            refine o_fad (dt 0 (fun _ m => m)) rfl rfl fld38_0 rfl ?_
            refine o_fad (dt 1 (fun _ m => m)) rfl rfl fld36_0 rfl ?_
            refine o_ldc (dt 2 (fun _ m => m)) (v := (.int .i64 r67.xInside.xBase)) 4 rfl rfl rfl ty3 rfl ?_
            refine o_mv (dt 3 (fun _ m => m)) rfl rfl ?_
            refine o_len (dt 4 (fun _ m => m)) el34 5 rfl (reads_snap hv3) rfl rfl ?_
            refine o_mv (dt 5 (fun _ m => m)) rfl rfl ?_
            refine o_rem (dt 6 (fun _ m => m)) rfl rfl rfl ?_; intro t215
            refine o_add (dt 7 (fun _ m => m)) rfl rfl rfl ?_; intro t216
            refine o_fad (dt 8 (fun _ m => m)) rfl rfl fld38_1 rfl ?_
            refine o_fad (dt 9 (fun _ m => m)) rfl rfl fld36_0 rfl ?_
            refine o_ldc (dt 10 (fun _ m => m)) (v := (.int .i64 r67.xOutside.xBase)) 4 rfl rfl rfl ty3 rfl ?_
            refine o_mv (dt 11 (fun _ m => m)) rfl rfl ?_
            refine o_len (dt 12 (fun _ m => m)) el34 5 rfl (reads_snap hv3) rfl rfl ?_
            refine o_mv (dt 13 (fun _ m => m)) rfl rfl ?_
            refine o_rem (dt 14 (fun _ m => m)) rfl rfl rfl ?_; intro t217
            refine o_add (dt 15 (fun _ m => m)) rfl rfl rfl ?_; intro t218
            refine o_bld (dt 16 (fun _ m => m)) (qs := [(0, (.int .i64 t216)), (1, (.int .i64 t218))]) (cells := [(.int .i64 t216), (.int .i64 t218), (.int .i64 0), (.int .i64 0)]) (by intro ρ h; simp only [List.map_toArray, List.map_cons, List.map_nil, h (.tmp 82) _ rfl, h (.tmp 90) _ rfl]) rfl bld26 rfl ?_
            refine d_one (i := 17) rfl (by kernel_rfl) (o_alloc rfl [(.int .i64 0), (.int .i64 0), (.int .i64 0), (.int .i64 0)] zero26 ?_); intro b219
            refine d_and (fun w m => m.pick [1, 2, 3, 4, 5, 6] rfl) ?_
            refine d_one (i := 18) rfl (by kernel_rfl) (o_stc (cs' := [(.int .i64 t216), (.int .i64 t218), (.int .i64 0), (.int .i64 0)]) 0 rfl rfl rfl ty26 rfl rfl rfl rfl ?_)
            refine d_and (fun w m => m.pick [1, 2, 3, 4, 5, 6] rfl) ?_
            refine d_done (by kernel_rfl) ?_
            refine l_then ?_
            refine c_seq ?_
            refine c_region ?_
            refine o_mv st rfl rfl ?_
            refine stw (o_callP (vs := [v3]) Tryd.call21 rfl rfl (by intro w m h; exact (w_spec_DrawPacketNumber (F := allB [] w) (code_0 := more_1) allB_ok (m.rd0 6 rfl (reads_snap hv3)) h).mono (fun _ _ k => ret_free (fun r u => fr_nil) k)) ?_); rintro r221 _
            refine stw (o_alloc rfl [(.int .i64 0), (.int .i64 0), (.int .i64 0), (.int .i64 0)] zero26 ?_); intro b222
            refine stw (o_stc (cs' := [(.int .i64 r221.xFrom), (.int .i64 r221.xTo), (.int .i64 r221.xPort), (.int .i64 r221.xProto)]) 0 rfl rfl rfl ty26 rfl rfl rfl rfl ?_)
            refine c_nil ?_
            refine l_then ?_
            refine c_join (σ := Bool) (fun (t291 : Bool) (a : Act) (w : World) => Has 123 [(4, (.bool t291))] a ∧ Mem (gB F [] w0) (feet []) w0 [snapCh w0 F] w) ?_ ?_
            · intro k292
              refine c_draw mixed 30 rfl [cellCh b222 [(.int .i64 r221.xFrom), (.int .i64 r221.xTo), (.int .i64 r221.xPort), (.int .i64 r221.xProto)] 26, cellCh b219 [(.int .i64 t216), (.int .i64 t218), (.int .i64 0), (.int .i64 0)] 26, ownCh elGRewrite 38 v211 ([r70, r71]), ownCh elGRewrite 38 v209 ([r67]), cellCh b75 [(.int .i64 r71.xInside.xBase), (.int .i64 r71.xInside.xLength), (.int .i64 r71.xOutside.xBase), (.int .i64 r71.xOutside.xLength)] 38, cellCh b73 [(.int .i64 r70.xInside.xBase), (.int .i64 r70.xInside.xLength), (.int .i64 r70.xOutside.xBase), (.int .i64 r70.xOutside.xLength)] 38, cellCh b68 [(.int .i64 r67.xInside.xBase), (.int .i64 r67.xInside.xLength), (.int .i64 r67.xOutside.xBase), (.int .i64 r67.xOutside.xLength)] 38, snapCh w0 F] ?_
              refine o_mv (dt 0 (fun _ m => m)) rfl rfl ?_
              refine d_one (i := 1) rfl (by kernel_rfl) (o_callP (vs := [v211]) Tryd.call22 rfl rfl (by intro w m h; exact (w_impl_RewritesValid (F := allB [] w) (list_0 := ([r70, r71])) allB_ok (m.rd0 2 rfl reads_own) h).mono (fun _ _ k => ret_free (fun r u => fr_nil) k)) ?_); rintro r224 _
              refine d_and (fun _ m => m) ?_
              refine o_mv (dt 2 (fun _ m => m)) rfl rfl ?_
              refine st_sp (dj := 96) rfl ?_ ?_
              · refine o_mv (dtg 3 (fun _ m => m)) rfl rfl ?_
                refine o_ldc (dtg 4 (fun _ m => m)) (v := (.agg #[(.int .i64 t216), (.int .i64 t218), (.int .i64 0), (.int .i64 0)])) 1 rfl rfl rfl ty26 rfl ?_
                refine o_mv (dtg 6 (fun _ m => m)) rfl rfl ?_
                refine o_ldc (dtg 7 (fun _ m => m)) (v := (.agg #[(.int .i64 t216), (.int .i64 t218), (.int .i64 0), (.int .i64 0)])) 1 rfl rfl rfl ty26 rfl ?_
                refine d_oneg (i := 5) rfl rfl rfl (by kernel_rfl) (o_callP (vs := [v211, (.agg #[(.int .i64 t216), (.int .i64 t218), (.int .i64 0), (.int .i64 0)])]) Tryd.call16 rfl rfl (by intro w m h; exact (w_impl_RewriteOut (F := allB [] w) (list_0 := ([r70, r71])) (p_1 := (GPacket.mk t216 t218 0 0)) allB_ok (m.rd0 2 rfl reads_own) (m.rd0 7 rfl (reads_snap hgl0)) h).mono (fun _ _ k => ret_free (fun r u => fr_nil) k)) ?_); rintro r225 _
                refine d_and (fun _ m => m) ?_
                refine d_oneg (i := 8) rfl rfl rfl (by kernel_rfl) (o_callP (vs := [v209, (.agg #[(.int .i64 t216), (.int .i64 t218), (.int .i64 0), (.int .i64 0)])]) Tryd.call16 rfl rfl (by intro w m h; exact (w_impl_RewriteOut (F := allB [] w) (list_0 := ([r67])) (p_1 := (GPacket.mk t216 t218 0 0)) allB_ok (m.rd0 3 rfl reads_own) (m.rd0 7 rfl (reads_snap hgl0)) h).mono (fun _ _ k => ret_free (fun r u => fr_nil) k)) ?_); rintro r226 _
                refine d_and (fun _ m => m) ?_
                refine o_bin (dtg 9 (fun _ m => m)) (.bool (decide (r225 = r226))) rfl rfl rfl (eqls26 _ _ r225.xFrom r225.xTo r225.xPort r225.xProto r226.xFrom r226.xTo r226.xPort r226.xProto) ?_
                refine o_pickT (dt 10 (fun _ m => m)) rfl rfl rfl ?_
                refine o_mv (dt 11 (fun _ m => m)) rfl rfl ?_
                refine st_sp (dj := 105) rfl ?_ ?_
                · refine o_mv (dtg 12 (fun _ m => m)) rfl rfl ?_
                  refine o_ldc (dtg 13 (fun _ m => m)) (v := (.agg #[(.int .i64 t216), (.int .i64 t218), (.int .i64 0), (.int .i64 0)])) 1 rfl rfl rfl ty26 rfl ?_
                  refine o_mv (dtg 15 (fun _ m => m)) rfl rfl ?_
                  refine o_ldc (dtg 16 (fun _ m => m)) (v := (.agg #[(.int .i64 t216), (.int .i64 t218), (.int .i64 0), (.int .i64 0)])) 1 rfl rfl rfl ty26 rfl ?_
                  refine d_oneg (i := 14) rfl rfl rfl (by kernel_rfl) (o_callP (vs := [v211, (.agg #[(.int .i64 t216), (.int .i64 t218), (.int .i64 0), (.int .i64 0)])]) Tryd.call12 rfl rfl (by intro w m h; exact (w_impl_RewriteIn (F := allB [] w) (list_0 := ([r70, r71])) (p_1 := (GPacket.mk t216 t218 0 0)) allB_ok (m.rd0 2 rfl reads_own) (m.rd0 7 rfl (reads_snap hgl0)) h).mono (fun _ _ k => ret_free (fun r u => fr_nil) k)) ?_); rintro r227 _
                  refine d_and (fun _ m => m) ?_
                  refine d_oneg (i := 17) rfl rfl rfl (by kernel_rfl) (o_callP (vs := [v209, (.agg #[(.int .i64 t216), (.int .i64 t218), (.int .i64 0), (.int .i64 0)])]) Tryd.call12 rfl rfl (by intro w m h; exact (w_impl_RewriteIn (F := allB [] w) (list_0 := ([r67])) (p_1 := (GPacket.mk t216 t218 0 0)) allB_ok (m.rd0 3 rfl reads_own) (m.rd0 7 rfl (reads_snap hgl0)) h).mono (fun _ _ k => ret_free (fun r u => fr_nil) k)) ?_); rintro r228 _
                  refine d_and (fun _ m => m) ?_
                  refine o_bin (dtg 18 (fun _ m => m)) (.bool (decide (r227 = r228))) rfl rfl rfl (eqls26 _ _ r227.xFrom r227.xTo r227.xPort r227.xProto r228.xFrom r228.xTo r228.xPort r228.xProto) ?_
                  refine o_pickT (dt 19 (fun _ m => m)) rfl rfl rfl ?_
                  refine o_mv (dt 20 (fun _ m => m)) rfl rfl ?_
                  refine st_sp (dj := 114) rfl ?_ ?_
                  · refine o_mv (dtg 21 (fun _ m => m)) rfl rfl ?_
                    refine o_ldc (dtg 22 (fun _ m => m)) (v := (.agg #[(.int .i64 r221.xFrom), (.int .i64 r221.xTo), (.int .i64 r221.xPort), (.int .i64 r221.xProto)])) 0 rfl rfl rfl ty26 rfl ?_
                    refine o_mv (dtg 24 (fun _ m => m)) rfl rfl ?_
                    refine o_ldc (dtg 25 (fun _ m => m)) (v := (.agg #[(.int .i64 r221.xFrom), (.int .i64 r221.xTo), (.int .i64 r221.xPort), (.int .i64 r221.xProto)])) 0 rfl rfl rfl ty26 rfl ?_
                    refine d_oneg (i := 23) rfl rfl rfl (by kernel_rfl) (o_callP (vs := [v211, (.agg #[(.int .i64 r221.xFrom), (.int .i64 r221.xTo), (.int .i64 r221.xPort), (.int .i64 r221.xProto)])]) Tryd.call16 rfl rfl (by intro w m h; exact (w_impl_RewriteOut (F := allB [] w) (list_0 := ([r70, r71])) (p_1 := r221) allB_ok (m.rd0 2 rfl reads_own) (m.rd0 7 rfl (reads_snap hgl0)) h).mono (fun _ _ k => ret_free (fun r u => fr_nil) k)) ?_); rintro r229 _
                    refine d_and (fun _ m => m) ?_
                    refine d_oneg (i := 26) rfl rfl rfl (by kernel_rfl) (o_callP (vs := [v209, (.agg #[(.int .i64 r221.xFrom), (.int .i64 r221.xTo), (.int .i64 r221.xPort), (.int .i64 r221.xProto)])]) Tryd.call16 rfl rfl (by intro w m h; exact (w_impl_RewriteOut (F := allB [] w) (list_0 := ([r67])) (p_1 := r221) allB_ok (m.rd0 3 rfl reads_own) (m.rd0 7 rfl (reads_snap hgl0)) h).mono (fun _ _ k => ret_free (fun r u => fr_nil) k)) ?_); rintro r230 _
                    refine d_and (fun _ m => m) ?_
                    refine o_bin (dtg 27 (fun _ m => m)) (.bool (decide (r229 = r230))) rfl rfl rfl (eqls26 _ _ r229.xFrom r229.xTo r229.xPort r229.xProto r230.xFrom r230.xTo r230.xPort r230.xProto) ?_
                    refine o_pickT (dt 28 (fun _ m => m)) rfl rfl rfl ?_
                    refine o_as (dt 29 (fun _ m => m)) rfl rfl ?_
                    refine d_done (by kernel_rfl) ?_
                    exact l_join (decide (r229 = r230)) (fun a w hE hm => ⟨hE.sub ⟨rfl, trivial⟩, (hm.pick [7] rfl)⟩)
                  · refine dsk 21 (fun _ m => m) rfl (by kernel_rfl) rfl rfl rfl rfl ?_
                    refine dsk 22 (fun _ m => m) rfl (by kernel_rfl) rfl rfl rfl rfl ?_
                    refine dsk 23 (fun _ m => m) rfl (by kernel_rfl) rfl rfl rfl rfl ?_
                    refine dsk 24 (fun _ m => m) rfl (by kernel_rfl) rfl rfl rfl rfl ?_
                    refine dsk 25 (fun _ m => m) rfl (by kernel_rfl) rfl rfl rfl rfl ?_
                    refine dsk 26 (fun _ m => m) rfl (by kernel_rfl) rfl rfl rfl rfl ?_
                    refine dsk 27 (fun _ m => m) rfl (by kernel_rfl) rfl rfl rfl rfl ?_
                    refine o_pickF (dt 28 (fun _ m => m)) rfl rfl rfl ?_
                    refine o_as (dt 29 (fun _ m => m)) rfl rfl ?_
                    refine d_done (by kernel_rfl) ?_
                    exact l_join false (fun a w hE hm => ⟨hE.sub ⟨rfl, trivial⟩, (hm.pick [7] rfl)⟩)
                · refine dsk 12 (fun _ m => m) rfl (by kernel_rfl) rfl rfl rfl rfl ?_
                  refine dsk 13 (fun _ m => m) rfl (by kernel_rfl) rfl rfl rfl rfl ?_
                  refine dsk 14 (fun _ m => m) rfl (by kernel_rfl) rfl rfl rfl rfl ?_
                  refine dsk 15 (fun _ m => m) rfl (by kernel_rfl) rfl rfl rfl rfl ?_
                  refine dsk 16 (fun _ m => m) rfl (by kernel_rfl) rfl rfl rfl rfl ?_
                  refine dsk 17 (fun _ m => m) rfl (by kernel_rfl) rfl rfl rfl rfl ?_
                  refine dsk 18 (fun _ m => m) rfl (by kernel_rfl) rfl rfl rfl rfl ?_
                  refine o_pickF (dt 19 (fun _ m => m)) rfl rfl rfl ?_
                  refine o_mv (dt 20 (fun _ m => m)) rfl rfl ?_
                  refine dsk 21 (fun _ m => m) rfl (by kernel_rfl) rfl rfl rfl rfl ?_
                  refine dsk 22 (fun _ m => m) rfl (by kernel_rfl) rfl rfl rfl rfl ?_
                  refine dsk 23 (fun _ m => m) rfl (by kernel_rfl) rfl rfl rfl rfl ?_
                  refine dsk 24 (fun _ m => m) rfl (by kernel_rfl) rfl rfl rfl rfl ?_
                  refine dsk 25 (fun _ m => m) rfl (by kernel_rfl) rfl rfl rfl rfl ?_
                  refine dsk 26 (fun _ m => m) rfl (by kernel_rfl) rfl rfl rfl rfl ?_
                  refine dsk 27 (fun _ m => m) rfl (by kernel_rfl) rfl rfl rfl rfl ?_
                  refine o_pickF (dt 28 (fun _ m => m)) rfl rfl rfl ?_
                  refine o_as (dt 29 (fun _ m => m)) rfl rfl ?_
                  refine d_done (by kernel_rfl) ?_
                  exact l_join false (fun a w hE hm => ⟨hE.sub ⟨rfl, trivial⟩, (hm.pick [7] rfl)⟩)
              · refine dsk 3 (fun _ m => m) rfl (by kernel_rfl) rfl rfl rfl rfl ?_
                refine dsk 4 (fun _ m => m) rfl (by kernel_rfl) rfl rfl rfl rfl ?_
                refine dsk 5 (fun _ m => m) rfl (by kernel_rfl) rfl rfl rfl rfl ?_
                refine dsk 6 (fun _ m => m) rfl (by kernel_rfl) rfl rfl rfl rfl ?_
                refine dsk 7 (fun _ m => m) rfl (by kernel_rfl) rfl rfl rfl rfl ?_
                refine dsk 8 (fun _ m => m) rfl (by kernel_rfl) rfl rfl rfl rfl ?_
                refine dsk 9 (fun _ m => m) rfl (by kernel_rfl) rfl rfl rfl rfl ?_
                refine o_pickF (dt 10 (fun _ m => m)) rfl rfl rfl ?_
                refine o_mv (dt 11 (fun _ m => m)) rfl rfl ?_
                refine dsk 12 (fun _ m => m) rfl (by kernel_rfl) rfl rfl rfl rfl ?_
                refine dsk 13 (fun _ m => m) rfl (by kernel_rfl) rfl rfl rfl rfl ?_
                refine dsk 14 (fun _ m => m) rfl (by kernel_rfl) rfl rfl rfl rfl ?_
                refine dsk 15 (fun _ m => m) rfl (by kernel_rfl) rfl rfl rfl rfl ?_
                refine dsk 16 (fun _ m => m) rfl (by kernel_rfl) rfl rfl rfl rfl ?_
                refine dsk 17 (fun _ m => m) rfl (by kernel_rfl) rfl rfl rfl rfl ?_
                refine dsk 18 (fun _ m => m) rfl (by kernel_rfl) rfl rfl rfl rfl ?_
                refine o_pickF (dt 19 (fun _ m => m)) rfl rfl rfl ?_
                refine o_mv (dt 20 (fun _ m => m)) rfl rfl ?_
                refine dsk 21 (fun _ m => m) rfl (by kernel_rfl) rfl rfl rfl rfl ?_
                refine dsk 22 (fun _ m => m) rfl (by kernel_rfl) rfl rfl rfl rfl ?_
                refine dsk 23 (fun _ m => m) rfl (by kernel_rfl) rfl rfl rfl rfl ?_
                refine dsk 24 (fun _ m => m) rfl (by kernel_rfl) rfl rfl rfl rfl ?_
                refine dsk 25 (fun _ m => m) rfl (by kernel_rfl) rfl rfl rfl rfl ?_
                refine dsk 26 (fun _ m => m) rfl (by kernel_rfl) rfl rfl rfl rfl ?_
                refine dsk 27 (fun _ m => m) rfl (by kernel_rfl) rfl rfl rfl rfl ?_
                refine o_pickF (dt 28 (fun _ m => m)) rfl rfl rfl ?_
                refine o_as (dt 29 (fun _ m => m)) rfl rfl ?_
                refine d_done (by kernel_rfl) ?_
                exact l_join false (fun a w hE hm => ⟨hE.sub ⟨rfl, trivial⟩, (hm.pick [7] rfl)⟩)
            · rintro t291 a w ⟨hE, hm⟩ h
              refine nx_of hE hm h ?_
              clear hE hm h
              refine c_ret ?_
              exact l_end1 Tryd.results5 t291 () (rv_t rfl) (fun _ _ => NewCh.nil _ _ _ _)



end

end Go.Proofs.YtdjfbceokpofmaaDoor
