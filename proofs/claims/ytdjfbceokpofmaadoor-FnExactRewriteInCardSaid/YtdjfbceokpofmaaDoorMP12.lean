/- Texts of this seat, put together. -/
import Derived.Test.YtdjfbceokpofmaaDoorMP1
set_option linter.unusedSimpArgs false
set_option linter.unusedVariables false
set_option linter.unusedSectionVars false
namespace Go.Proofs.YtdjfbceokpofmaaDoor
section
open Go.RowKit
set_option maxRecDepth 100000 in
set_option maxHeartbeats 8000000 in
theorem w_laws_FnExactRewriteIn {w0 : World} {F : Nat → Prop} {v1 : Value} {aList_0 : (List GRewrite)} {aP_1 : GPacket} {κ : Bool → Prop} (hF : ∀ b, F b → b < w0.heap.size ∧ ¬ feet [] b) (hv1 : Sl elGRewrite F w0 v1 aList_0) (hgl0 : Sl elGFieldShape F w0 (.slice (some ⟨0, 0, none⟩) 4 4) gl_impl_fieldShapes) (h : L_laws_FnExactRewriteIn aList_0 aP_1 κ) :
    Calls Tryd.prog 3 #[v1, (.agg #[(.int .i64 aP_1.xFrom), (.int .i64 aP_1.xTo), (.int .i64 aP_1.xPort), (.int .i64 aP_1.xProto)])] w0 (Ret [] F w0 κ (fun (r : Bool) (u : Unit) => (.bool r)) (fun (r : Bool) (u : Unit) => [])) := by
  refine enterS (args := [v1, (.agg #[(.int .i64 aP_1.xFrom), (.int .i64 aP_1.xTo), (.int .i64 aP_1.xPort), (.int .i64 aP_1.xProto)])]) [] hF (Given.nil _ _) Tryd.func3 rfl Tryd.ntmps3 rfl h ?_
  clear h hF
  refine c_seq ?_
  refine c_region ?_
  refine stw (o_box rfl rfl [(.int .i64 aP_1.xFrom), (.int .i64 aP_1.xTo), (.int .i64 aP_1.xPort), (.int .i64 aP_1.xProto)] rfl ?_); intro b3
  refine o_as st rfl rfl ?_
  refine c_nil ?_
  refine l_then ?_
  refine c_seq ?_
  refine c_region ?_
  refine o_as st rfl rfl ?_
  refine c_nil ?_
  refine l_then ?_
  refine c_seq ?_
  refine c_region ?_
  refine o_mv st rfl rfl ?_
  refine o_mv st rfl rfl ?_
  refine stw (o_callP (vs := [v1, (.int .i64 1048576)]) Tryd.call8 rfl rfl (by intro w m h; exact (w_laws_szRewriteS (F := allB [] w) (a_0 := aList_0) (left_1 := 1048576) allB_ok (m.rd0 1 rfl (reads_snap hv1)) h).mono (fun _ _ k => ret_free (fun r u => fr_nil) k)) ?_); rintro r5 _
  refine o_as st rfl rfl ?_
  refine c_nil ?_
  refine l_then ?_
  refine c_seq ?_
  refine c_seq ?_
  refine c_region ?_
  refine o_mv st rfl rfl ?_
  refine o_lss st rfl rfl rfl ?_
  refine c_nil ?_
  refine l_then ?_
  refine c_cond rfl ?_ ?_
  · refine c_seq ?_
    refine c_region ?_
    refine o_as st rfl rfl ?_
    refine c_nil ?_
    refine l_then ?_
    refine c_ret ?_
    refine l_ret ?_
    exact l_end1 Tryd.results3 true () (rv_t rfl) (fun _ _ => NewCh.nil _ _ _ _)
  · refine c_skip ?_
    refine l_then ?_
    refine c_join (σ := (Int × Int × Int × Int)) (fun ((t7, t8, t9, t10) : (Int × Int × Int × Int)) (a : Act) (w : World) => ∃ (b6 : Nat), Has 34 [(0, v1), (3, (.pointer (some ⟨b3, 0, none⟩))), (6, (.pointer (some ⟨b6, 0, none⟩)))] a ∧ Mem (gB F [] w0) (feet []) w0 [cellCh b6 [(.int .i64 t7), (.int .i64 t8), (.int .i64 t9), (.int .i64 t10)] 26, cellCh b3 [(.int .i64 aP_1.xFrom), (.int .i64 aP_1.xTo), (.int .i64 aP_1.xPort), (.int .i64 aP_1.xProto)] 24, snapCh w0 F] w) ?_ ?_
    · intro k11
      refine c_drawQ mixed 7 rfl [cellCh b3 [(.int .i64 aP_1.xFrom), (.int .i64 aP_1.xTo), (.int .i64 aP_1.xPort), (.int .i64 aP_1.xProto)] 24, snapCh w0 F] ?_
      intro Qd hP hQ
      have H8 : ∀ (r12 : (List GRewrite)) (v13 : Value) (r14 : GPacket) (r15 : GPacket) (b16 : Nat), Nx 34 (gB F [] w0) (feet []) w0 (wpAnyH Tryd.prog .any (opsAt Tryd.f3 [1, 1, 1, 1, 0]) Qd (Mem (gB F [] w0) (feet []) w0 [cellCh b3 [(.int .i64 aP_1.xFrom), (.int .i64 aP_1.xTo), (.int .i64 aP_1.xPort), (.int .i64 aP_1.xProto)] 24, snapCh w0 F]) 0 #[true, true, true, true, true, true, true]) [(0, v1), (3, (.pointer (some ⟨b3, 0, none⟩))), (6, (.pointer (some ⟨b16, 0, none⟩)))] [cellCh b16 [(.int .i64 r15.xFrom), (.int .i64 r15.xTo), (.int .i64 r15.xPort), (.int .i64 r15.xProto)] 26, cellCh b3 [(.int .i64 aP_1.xFrom), (.int .i64 aP_1.xTo), (.int .i64 aP_1.xPort), (.int .i64 aP_1.xProto)] 24, snapCh w0 F] (k11 (r15.xFrom, r15.xTo, r15.xPort, r15.xProto)) := by
        intro r12 v13 r14 r15 b16
        refine d_done (by kernel_rfl) ?_
        exact fun a w hE hm hφ => hQ (r15.xFrom, r15.xTo, r15.xPort, r15.xProto) a w hφ ((fun a w hE hm => ⟨b16, hE.sub ⟨rfl, rfl, rfl, trivial⟩, (hm.pick [0, 1, 2] rfl)⟩) a w hE hm)
      have H9 : ∀ (r12 : (List GRewrite)) (v13 : Value) (r14 : GPacket) (r15 : GPacket) (b16 : Nat), Nx 34 (gB F [] w0) (feet []) w0 (wpAnyH Tryd.prog .any (opsAt Tryd.f3 [1, 1, 1, 1, 0]) Qd (Mem (gB F [] w0) (feet []) w0 [cellCh b3 [(.int .i64 aP_1.xFrom), (.int .i64 aP_1.xTo), (.int .i64 aP_1.xPort), (.int .i64 aP_1.xProto)] 24, snapCh w0 F]) 1 #[true, true, true, true, true, true, false]) [(0, v1), (3, (.pointer (some ⟨b3, 0, none⟩))), (18, (.agg #[(.int .i64 r15.xFrom), (.int .i64 r15.xTo), (.int .i64 r15.xPort), (.int .i64 r15.xProto)])), (6, (.pointer (some ⟨b16, 0, none⟩)))] [cellCh b16 [(.int .i64 0), (.int .i64 0), (.int .i64 0), (.int .i64 0)] 26, cellCh b3 [(.int .i64 aP_1.xFrom), (.int .i64 aP_1.xTo), (.int .i64 aP_1.xPort), (.int .i64 aP_1.xProto)] 24, snapCh w0 F] (k11 (r15.xFrom, r15.xTo, r15.xPort, r15.xProto)) := by
        intro r12 v13 r14 r15 b16
        refine d_one (i := 6) rfl (by kernel_rfl) (o_stc (cs' := [(.int .i64 r15.xFrom), (.int .i64 r15.xTo), (.int .i64 r15.xPort), (.int .i64 r15.xProto)]) 0 rfl rfl rfl ty26 rfl rfl rfl rfl ?_)
        refine d_and (fun w m => m.pick [1, 2] rfl) ?_
        refine pk [0, 1, 2] rfl ?_
        refine re (E' := [(0, v1), (3, (.pointer (some ⟨b3, 0, none⟩))), (6, (.pointer (some ⟨b16, 0, none⟩)))]) ⟨rfl, rfl, rfl, trivial⟩ ?_
        exact H8 r12 v13 r14 r15 b16
      have H10 : ∀ (r12 : (List GRewrite)) (v13 : Value) (r14 : GPacket) (r15 : GPacket), Nx 34 (gB F [] w0) (feet []) w0 (wpAnyH Tryd.prog .any (opsAt Tryd.f3 [1, 1, 1, 1, 0]) Qd (Mem (gB F [] w0) (feet []) w0 [cellCh b3 [(.int .i64 aP_1.xFrom), (.int .i64 aP_1.xTo), (.int .i64 aP_1.xPort), (.int .i64 aP_1.xProto)] 24, snapCh w0 F]) 2 #[true, true, true, true, true, false, false]) [(0, v1), (3, (.pointer (some ⟨b3, 0, none⟩))), (18, (.agg #[(.int .i64 r15.xFrom), (.int .i64 r15.xTo), (.int .i64 r15.xPort), (.int .i64 r15.xProto)]))] [cellCh b3 [(.int .i64 aP_1.xFrom), (.int .i64 aP_1.xTo), (.int .i64 aP_1.xPort), (.int .i64 aP_1.xProto)] 24, snapCh w0 F] (k11 (r15.xFrom, r15.xTo, r15.xPort, r15.xProto)) := by
        intro r12 v13 r14 r15
        refine d_one (i := 5) rfl (by kernel_rfl) (o_alloc rfl [(.int .i64 0), (.int .i64 0), (.int .i64 0), (.int .i64 0)] zero26 ?_); intro b16
        refine d_and (fun w m => m.pick [1, 2] rfl) ?_
        refine pk [0, 1, 2] rfl ?_
        refine re (E' := [(0, v1), (3, (.pointer (some ⟨b3, 0, none⟩))), (18, (.agg #[(.int .i64 r15.xFrom), (.int .i64 r15.xTo), (.int .i64 r15.xPort), (.int .i64 r15.xProto)])), (6, (.pointer (some ⟨b16, 0, none⟩)))]) ⟨rfl, rfl, rfl, rfl, trivial⟩ ?_
        exact H9 r12 v13 r14 r15 b16
      have H11 : ∀ (r12 : (List GRewrite)) (v13 : Value) (r14 : GPacket) (b17 : Nat), Nx 34 (gB F [] w0) (feet []) w0 (wpAnyH Tryd.prog .any (opsAt Tryd.f3 [1, 1, 1, 1, 0]) Qd (Mem (gB F [] w0) (feet []) w0 [cellCh b3 [(.int .i64 aP_1.xFrom), (.int .i64 aP_1.xTo), (.int .i64 aP_1.xPort), (.int .i64 aP_1.xProto)] 24, snapCh w0 F]) 2 #[true, true, true, true, false, true, false]) [(0, v1), (3, (.pointer (some ⟨b3, 0, none⟩))), (15, v13), (17, (.agg #[(.int .i64 r14.xFrom), (.int .i64 r14.xTo), (.int .i64 r14.xPort), (.int .i64 r14.xProto)])), (6, (.pointer (some ⟨b17, 0, none⟩)))] [cellCh b17 [(.int .i64 0), (.int .i64 0), (.int .i64 0), (.int .i64 0)] 26, ownCh elGRewrite 38 v13 r12, cellCh b3 [(.int .i64 aP_1.xFrom), (.int .i64 aP_1.xTo), (.int .i64 aP_1.xPort), (.int .i64 aP_1.xProto)] 24, snapCh w0 F] (L_spec_RewriteIn r12 r14 (fun r18 => k11 (r18.xFrom, r18.xTo, r18.xPort, r18.xProto))) := by
        intro r12 v13 r14 b17
        refine d_one (i := 4) rfl (by kernel_rfl) (o_callP (vs := [v13, (.agg #[(.int .i64 r14.xFrom), (.int .i64 r14.xTo), (.int .i64 r14.xPort), (.int .i64 r14.xProto)])]) Tryd.call9 rfl rfl (by intro w m h; exact (w_spec_RewriteIn (F := allB [] w) (list_0 := r12) (p_1 := r14) allB_ok (m.rd0 1 rfl reads_own) h).mono (fun _ _ k => ret_free (fun r u => fr_nil) k)) ?_); rintro r18 _
        refine d_and (fun w m => m.pick [2, 3] rfl) ?_
        refine pk [0, 2, 3] rfl ?_
        refine re (E' := [(0, v1), (3, (.pointer (some ⟨b3, 0, none⟩))), (18, (.agg #[(.int .i64 r18.xFrom), (.int .i64 r18.xTo), (.int .i64 r18.xPort), (.int .i64 r18.xProto)])), (6, (.pointer (some ⟨b17, 0, none⟩)))]) ⟨rfl, rfl, rfl, rfl, trivial⟩ ?_
        exact H9 r12 v13 r14 r18 b17
      have H12 : ∀ (r12 : (List GRewrite)) (v13 : Value) (r14 : GPacket), Nx 34 (gB F [] w0) (feet []) w0 (wpAnyH Tryd.prog .any (opsAt Tryd.f3 [1, 1, 1, 1, 0]) Qd (Mem (gB F [] w0) (feet []) w0 [cellCh b3 [(.int .i64 aP_1.xFrom), (.int .i64 aP_1.xTo), (.int .i64 aP_1.xPort), (.int .i64 aP_1.xProto)] 24, snapCh w0 F]) 3 #[true, true, true, true, false, false, false]) [(0, v1), (3, (.pointer (some ⟨b3, 0, none⟩))), (15, v13), (17, (.agg #[(.int .i64 r14.xFrom), (.int .i64 r14.xTo), (.int .i64 r14.xPort), (.int .i64 r14.xProto)]))] [ownCh elGRewrite 38 v13 r12, cellCh b3 [(.int .i64 aP_1.xFrom), (.int .i64 aP_1.xTo), (.int .i64 aP_1.xPort), (.int .i64 aP_1.xProto)] 24, snapCh w0 F] (L_spec_RewriteIn r12 r14 (fun r15 => k11 (r15.xFrom, r15.xTo, r15.xPort, r15.xProto))) := by
        intro r12 v13 r14
        refine d_two (i := 4) (j := 5) rfl rfl (by kernel_rfl) ?_ ?_
        · intro o ho; cases ho
          refine o_callP (vs := [v13, (.agg #[(.int .i64 r14.xFrom), (.int .i64 r14.xTo), (.int .i64 r14.xPort), (.int .i64 r14.xProto)])]) Tryd.call9 rfl rfl (by intro w m h; exact (w_spec_RewriteIn (F := allB [] w) (list_0 := r12) (p_1 := r14) allB_ok (m.rd0 0 rfl reads_own) h).mono (fun _ _ k => ret_free (fun r u => fr_nil) k)) ?_; rintro r15 _
          refine d_and (fun w m => m.pick [1, 2] rfl) ?_
          refine pk [1, 2] rfl ?_
          refine re (E' := [(0, v1), (3, (.pointer (some ⟨b3, 0, none⟩))), (18, (.agg #[(.int .i64 r15.xFrom), (.int .i64 r15.xTo), (.int .i64 r15.xPort), (.int .i64 r15.xProto)]))]) ⟨rfl, rfl, rfl, trivial⟩ ?_
          exact H10 r12 v13 r14 r15
        · intro o ho; cases ho
          refine o_alloc rfl [(.int .i64 0), (.int .i64 0), (.int .i64 0), (.int .i64 0)] zero26 ?_; intro b17
          refine d_and (fun w m => m.pick [2, 3] rfl) ?_
          refine pk [0, 1, 2, 3] rfl ?_
          refine re (E' := [(0, v1), (3, (.pointer (some ⟨b3, 0, none⟩))), (15, v13), (17, (.agg #[(.int .i64 r14.xFrom), (.int .i64 r14.xTo), (.int .i64 r14.xPort), (.int .i64 r14.xProto)])), (6, (.pointer (some ⟨b17, 0, none⟩)))]) ⟨rfl, rfl, rfl, rfl, rfl, trivial⟩ ?_
          exact H11 r12 v13 r14 b17
      have H13 : ∀ (r12 : (List GRewrite)) (v13 : Value) (b19 : Nat), Nx 34 (gB F [] w0) (feet []) w0 (wpAnyH Tryd.prog .any (opsAt Tryd.f3 [1, 1, 1, 1, 0]) Qd (Mem (gB F [] w0) (feet []) w0 [cellCh b3 [(.int .i64 aP_1.xFrom), (.int .i64 aP_1.xTo), (.int .i64 aP_1.xPort), (.int .i64 aP_1.xProto)] 24, snapCh w0 F]) 3 #[true, true, true, false, false, true, false]) [(0, v1), (3, (.pointer (some ⟨b3, 0, none⟩))), (16, (.agg #[(.int .i64 aP_1.xFrom), (.int .i64 aP_1.xTo), (.int .i64 aP_1.xPort), (.int .i64 aP_1.xProto)])), (15, v13), (6, (.pointer (some ⟨b19, 0, none⟩)))] [cellCh b19 [(.int .i64 0), (.int .i64 0), (.int .i64 0), (.int .i64 0)] 26, ownCh elGRewrite 38 v13 r12, cellCh b3 [(.int .i64 aP_1.xFrom), (.int .i64 aP_1.xTo), (.int .i64 aP_1.xPort), (.int .i64 aP_1.xProto)] 24, snapCh w0 F] (L_laws_toPacket aP_1 (fun r20 => L_spec_RewriteIn r12 r20 (fun r18 => k11 (r18.xFrom, r18.xTo, r18.xPort, r18.xProto)))) := by
        intro r12 v13 b19
        refine d_one (i := 3) rfl (by kernel_rfl) (o_callP (vs := [(.agg #[(.int .i64 aP_1.xFrom), (.int .i64 aP_1.xTo), (.int .i64 aP_1.xPort), (.int .i64 aP_1.xProto)])]) Tryd.call11 rfl rfl (by intro w m h; exact (w_laws_toPacket (F := allB [] w) (a_0 := aP_1) allB_ok h).mono (fun _ _ k => ret_free (fun r u => fr_nil) k)) ?_); rintro r20 _
        refine d_and (fun w m => m.pick [2, 3] rfl) ?_
        refine pk [0, 1, 2, 3] rfl ?_
        refine re (E' := [(0, v1), (3, (.pointer (some ⟨b3, 0, none⟩))), (15, v13), (17, (.agg #[(.int .i64 r20.xFrom), (.int .i64 r20.xTo), (.int .i64 r20.xPort), (.int .i64 r20.xProto)])), (6, (.pointer (some ⟨b19, 0, none⟩)))]) ⟨rfl, rfl, rfl, rfl, rfl, trivial⟩ ?_
        exact H11 r12 v13 r20 b19
      have H14 : ∀ (r12 : (List GRewrite)) (v13 : Value), Nx 34 (gB F [] w0) (feet []) w0 (wpAnyH Tryd.prog .any (opsAt Tryd.f3 [1, 1, 1, 1, 0]) Qd (Mem (gB F [] w0) (feet []) w0 [cellCh b3 [(.int .i64 aP_1.xFrom), (.int .i64 aP_1.xTo), (.int .i64 aP_1.xPort), (.int .i64 aP_1.xProto)] 24, snapCh w0 F]) 4 #[true, true, true, false, false, false, false]) [(0, v1), (3, (.pointer (some ⟨b3, 0, none⟩))), (16, (.agg #[(.int .i64 aP_1.xFrom), (.int .i64 aP_1.xTo), (.int .i64 aP_1.xPort), (.int .i64 aP_1.xProto)])), (15, v13)] [ownCh elGRewrite 38 v13 r12, cellCh b3 [(.int .i64 aP_1.xFrom), (.int .i64 aP_1.xTo), (.int .i64 aP_1.xPort), (.int .i64 aP_1.xProto)] 24, snapCh w0 F] (L_laws_toPacket aP_1 (fun r14 => L_spec_RewriteIn r12 r14 (fun r15 => k11 (r15.xFrom, r15.xTo, r15.xPort, r15.xProto)))) := by
        intro r12 v13
        refine d_two (i := 3) (j := 5) rfl rfl (by kernel_rfl) ?_ ?_
        · intro o ho; cases ho
          refine o_callP (vs := [(.agg #[(.int .i64 aP_1.xFrom), (.int .i64 aP_1.xTo), (.int .i64 aP_1.xPort), (.int .i64 aP_1.xProto)])]) Tryd.call11 rfl rfl (by intro w m h; exact (w_laws_toPacket (F := allB [] w) (a_0 := aP_1) allB_ok h).mono (fun _ _ k => ret_free (fun r u => fr_nil) k)) ?_; rintro r14 _
          refine d_and (fun w m => m.pick [1, 2] rfl) ?_
          refine pk [0, 1, 2] rfl ?_
          refine re (E' := [(0, v1), (3, (.pointer (some ⟨b3, 0, none⟩))), (15, v13), (17, (.agg #[(.int .i64 r14.xFrom), (.int .i64 r14.xTo), (.int .i64 r14.xPort), (.int .i64 r14.xProto)]))]) ⟨rfl, rfl, rfl, rfl, trivial⟩ ?_
          exact H12 r12 v13 r14
        · intro o ho; cases ho
          refine o_alloc rfl [(.int .i64 0), (.int .i64 0), (.int .i64 0), (.int .i64 0)] zero26 ?_; intro b19
          refine d_and (fun w m => m.pick [2, 3] rfl) ?_
          refine pk [0, 1, 2, 3] rfl ?_
          refine re (E' := [(0, v1), (3, (.pointer (some ⟨b3, 0, none⟩))), (16, (.agg #[(.int .i64 aP_1.xFrom), (.int .i64 aP_1.xTo), (.int .i64 aP_1.xPort), (.int .i64 aP_1.xProto)])), (15, v13), (6, (.pointer (some ⟨b19, 0, none⟩)))]) ⟨rfl, rfl, rfl, rfl, rfl, trivial⟩ ?_
          exact H13 r12 v13 b19
      have H15 : ∀ (b21 : Nat), Nx 34 (gB F [] w0) (feet []) w0 (wpAnyH Tryd.prog .any (opsAt Tryd.f3 [1, 1, 1, 1, 0]) Qd (Mem (gB F [] w0) (feet []) w0 [cellCh b3 [(.int .i64 aP_1.xFrom), (.int .i64 aP_1.xTo), (.int .i64 aP_1.xPort), (.int .i64 aP_1.xProto)] 24, snapCh w0 F]) 4 #[true, false, true, false, false, true, false]) [(0, v1), (3, (.pointer (some ⟨b3, 0, none⟩))), (14, v1), (16, (.agg #[(.int .i64 aP_1.xFrom), (.int .i64 aP_1.xTo), (.int .i64 aP_1.xPort), (.int .i64 aP_1.xProto)])), (6, (.pointer (some ⟨b21, 0, none⟩)))] [cellCh b21 [(.int .i64 0), (.int .i64 0), (.int .i64 0), (.int .i64 0)] 26, cellCh b3 [(.int .i64 aP_1.xFrom), (.int .i64 aP_1.xTo), (.int .i64 aP_1.xPort), (.int .i64 aP_1.xProto)] 24, snapCh w0 F] (L_laws_toRewriteS aList_0 (fun r22 => L_laws_toPacket aP_1 (fun r20 => L_spec_RewriteIn r22 r20 (fun r18 => k11 (r18.xFrom, r18.xTo, r18.xPort, r18.xProto))))) := by
        intro b21
        refine d_one (i := 1) rfl (by kernel_rfl) (o_callP (vs := [v1]) Tryd.call10 rfl rfl (by intro w m h; exact (w_laws_toRewriteS (F := allB [] w) (a_0 := aList_0) allB_ok (m.rd0 2 rfl (reads_snap hv1)) h).mono (fun _ _ k => ret_free (fun r u => (fr_cons (free_own flelGRewrite) fr_nil)) k)) ?_); rintro r22 v23
        refine d_and (fun w m => m.pick [2, 3] rfl) ?_
        refine pk [1, 0, 2, 3] rfl ?_
        refine re (E' := [(0, v1), (3, (.pointer (some ⟨b3, 0, none⟩))), (16, (.agg #[(.int .i64 aP_1.xFrom), (.int .i64 aP_1.xTo), (.int .i64 aP_1.xPort), (.int .i64 aP_1.xProto)])), (15, v23), (6, (.pointer (some ⟨b21, 0, none⟩)))]) ⟨rfl, rfl, rfl, rfl, rfl, trivial⟩ ?_
        exact H13 r22 v23 b21
      refine o_mv (dt 0 (fun _ m => m)) rfl rfl ?_
      refine o_ldc (dt 2 (fun _ m => m)) (v := (.agg #[(.int .i64 aP_1.xFrom), (.int .i64 aP_1.xTo), (.int .i64 aP_1.xPort), (.int .i64 aP_1.xProto)])) 0 rfl rfl rfl ty24 rfl ?_
      refine d_two (i := 1) (j := 5) rfl rfl (by kernel_rfl) ?_ ?_
      · intro o ho; cases ho
        refine o_callP (vs := [v1]) Tryd.call10 rfl rfl (by intro w m h; exact (w_laws_toRewriteS (F := allB [] w) (a_0 := aList_0) allB_ok (m.rd0 1 rfl (reads_snap hv1)) h).mono (fun _ _ k => ret_free (fun r u => (fr_cons (free_own flelGRewrite) fr_nil)) k)) ?_; rintro r12 v13
        refine d_and (fun w m => m.pick [1, 2] rfl) ?_
        refine pk [0, 1, 2] rfl ?_
        refine re (E' := [(0, v1), (3, (.pointer (some ⟨b3, 0, none⟩))), (16, (.agg #[(.int .i64 aP_1.xFrom), (.int .i64 aP_1.xTo), (.int .i64 aP_1.xPort), (.int .i64 aP_1.xProto)])), (15, v13)]) ⟨rfl, rfl, rfl, rfl, trivial⟩ ?_
        exact H14 r12 v13
      · intro o ho; cases ho
        refine o_alloc rfl [(.int .i64 0), (.int .i64 0), (.int .i64 0), (.int .i64 0)] zero26 ?_; intro b21
        refine d_and (fun w m => m.pick [1, 2] rfl) ?_
        refine pk [0, 1, 2] rfl ?_
        refine re (E' := [(0, v1), (3, (.pointer (some ⟨b3, 0, none⟩))), (14, v1), (16, (.agg #[(.int .i64 aP_1.xFrom), (.int .i64 aP_1.xTo), (.int .i64 aP_1.xPort), (.int .i64 aP_1.xProto)])), (6, (.pointer (some ⟨b21, 0, none⟩)))]) ⟨rfl, rfl, rfl, rfl, rfl, trivial⟩ ?_
        exact H15 b21
    · rintro ⟨t7, t8, t9, t10⟩ a w ⟨b6, hE, hm⟩ h
      refine nx_of hE hm h ?_
      clear hE hm h
      refine c_seq ?_
      refine c_region ?_
      refine o_mv st rfl rfl ?_
      refine stw (o_callP (vs := [v1]) Tryd.call10 rfl rfl (by intro w m h; exact (w_laws_toRewriteS (F := allB [] w) (a_0 := aList_0) allB_ok (m.rd0 2 rfl (reads_snap hv1)) h).mono (fun _ _ k => ret_free (fun r u => (fr_cons (free_own flelGRewrite) fr_nil)) k)) ?_); rintro r24 v25
      refine o_as st rfl rfl ?_
      refine c_nil ?_
      refine l_then ?_
      refine c_seq ?_
      refine c_region ?_
      refine o_mv st rfl rfl ?_
      refine o_ldc st (v := (.agg #[(.int .i64 aP_1.xFrom), (.int .i64 aP_1.xTo), (.int .i64 aP_1.xPort), (.int .i64 aP_1.xProto)])) 2 rfl rfl rfl ty24 rfl ?_
      refine stw (o_callP (vs := [(.agg #[(.int .i64 aP_1.xFrom), (.int .i64 aP_1.xTo), (.int .i64 aP_1.xPort), (.int .i64 aP_1.xProto)])]) Tryd.call11 rfl rfl (by intro w m h; exact (w_laws_toPacket (F := allB [] w) (a_0 := aP_1) allB_ok h).mono (fun _ _ k => ret_free (fun r u => fr_nil) k)) ?_); rintro r27 _
      refine stw (o_callP (vs := [v25, (.agg #[(.int .i64 r27.xFrom), (.int .i64 r27.xTo), (.int .i64 r27.xPort), (.int .i64 r27.xProto)])]) Tryd.call12 rfl rfl (by intro w m h; exact (w_impl_RewriteIn (F := allB [] w) (list_0 := r24) (p_1 := r27) allB_ok (m.rd0 0 rfl reads_own) (m.rd0 3 rfl (reads_snap hgl0)) h).mono (fun _ _ k => ret_free (fun r u => fr_nil) k)) ?_); rintro r28 _
      refine stw (o_alloc rfl [(.int .i64 0), (.int .i64 0), (.int .i64 0), (.int .i64 0)] zero26 ?_); intro b29
      refine stw (o_stc (cs' := [(.int .i64 r28.xFrom), (.int .i64 r28.xTo), (.int .i64 r28.xPort), (.int .i64 r28.xProto)]) 0 rfl rfl rfl ty26 rfl rfl rfl rfl ?_)
      refine c_nil ?_
      refine l_then ?_
      refine c_seq ?_
      refine c_seq ?_
      refine c_region ?_
      refine o_ldc st (v := (.agg #[(.int .i64 r28.xFrom), (.int .i64 r28.xTo), (.int .i64 r28.xPort), (.int .i64 r28.xProto)])) 0 rfl rfl rfl ty26 rfl ?_
      refine o_ldc st (v := (.agg #[(.int .i64 t7), (.int .i64 t8), (.int .i64 t9), (.int .i64 t10)])) 2 rfl rfl rfl ty26 rfl ?_
      refine stw (o_callP (vs := [(.agg #[(.int .i64 r28.xFrom), (.int .i64 r28.xTo), (.int .i64 r28.xPort), (.int .i64 r28.xProto)]), (.agg #[(.int .i64 t7), (.int .i64 t8), (.int .i64 t9), (.int .i64 t10)])]) Tryd.call13 rfl rfl (by intro w m h; exact (w_laws_eqPacket (F := allB [] w) (a_0 := r28) (b_1 := (GPacket.mk t7 t8 t9 t10)) allB_ok h).mono (fun _ _ k => ret_free (fun r u => fr_nil) k)) ?_); rintro r31 _
      refine o_not st rfl rfl ?_
      refine c_nil ?_
      refine l_then ?_
      refine c_cond rfl ?_ ?_
      · refine c_seq ?_
        refine c_region ?_
        refine o_as st rfl rfl ?_
        refine c_nil ?_
        refine l_then ?_
        refine c_ret ?_
        refine l_ret ?_
        exact l_end1 Tryd.results3 false () (rv_t rfl) (fun _ _ => NewCh.nil _ _ _ _)
      · refine c_skip ?_
        refine l_then ?_
        refine c_seq ?_
        refine c_seq ?_
        refine c_region ?_
        refine o_mv st rfl rfl ?_
        refine o_mv st rfl rfl ?_
        refine stw (o_callP (vs := [v1]) Tryd.call10 rfl rfl (by intro w m h; exact (w_laws_toRewriteS (F := allB [] w) (a_0 := aList_0) allB_ok (m.rd0 4 rfl (reads_snap hv1)) h).mono (fun _ _ k => ret_free (fun r u => (fr_cons (free_own flelGRewrite) fr_nil)) k)) ?_); rintro r32 v33
        refine stw (o_callP (vs := [v25, v33]) Tryd.call14 rfl rfl (by intro w m h; exact (w_laws_eqRewriteS (F := allB [] w) (a_0 := r24) (b_1 := r32) allB_ok (m.rd0 2 rfl reads_own) (m.rd0 0 rfl reads_own) h).mono (fun _ _ k => ret_free (fun r u => fr_nil) k)) ?_); rintro r35 _
        refine o_not st rfl rfl ?_
        refine c_nil ?_
        refine l_then ?_
        refine c_cond rfl ?_ ?_
        · refine c_seq ?_
          refine c_region ?_
          refine o_as st rfl rfl ?_
          refine c_nil ?_
          refine l_then ?_
          refine c_ret ?_
          refine l_ret ?_
          exact l_end1 Tryd.results3 false () (rv_t rfl) (fun _ _ => NewCh.nil _ _ _ _)
        · refine c_skip ?_
          refine l_then ?_
          refine c_seq ?_
          refine c_region ?_
          refine o_as st rfl rfl ?_
          refine c_nil ?_
          refine l_then ?_
          refine c_ret ?_
          exact l_end1 Tryd.results3 true () (rv_t rfl) (fun _ _ => NewCh.nil _ _ _ _)

end

end Go.Proofs.YtdjfbceokpofmaaDoor
