/- Texts of this seat, put together. -/
import Derived.Test.YtigdghiknfehhaaDoorMP1
set_option linter.unusedSimpArgs false
set_option linter.unusedVariables false
namespace Go.Proofs.YtigdghiknfehhaaDoor
section
open Go.RowKit
set_option maxRecDepth 100000 in
set_option maxHeartbeats 8000000 in
theorem w_impl_walk_leave {w0 : World} {F : Nat → Prop} {b1 : Nat} {v2 : Value} {v4 : Value} {w_0_stack : (List GPlace)} {w_0_visits : (List GVisit)} {w_0_decision : Int} {κ : (List GPlace) → Prop} (hF : ∀ b, F b → b < w0.heap.size ∧ ¬ feet [cellCh b1 [v2, v4, (.int .i64 w_0_decision)] 130, ownCh elGPlace 153 v2 w_0_stack, ownCh elGVisit 157 v4 w_0_visits] b) (hg : Given [cellCh b1 [v2, v4, (.int .i64 w_0_decision)] 130, ownCh elGPlace 153 v2 w_0_stack, ownCh elGVisit 157 v4 w_0_visits] F w0) (h : L_impl_walk_leave w_0_stack w_0_visits w_0_decision κ) :
    Calls Tryd.prog 105 #[(.pointer (some ⟨b1, 0, none⟩))] w0 (Ret [cellCh b1 [v2, v4, (.int .i64 w_0_decision)] 130, ownCh elGPlace 153 v2 w_0_stack, ownCh elGVisit 157 v4 w_0_visits] F w0 κ (fun (r : (List GPlace)) (u : Value) => .tuple #[]) (fun (r : (List GPlace)) (u : Value) => [cellCh b1 [u, v4, (.int .i64 w_0_decision)] 130, ownCh elGPlace 153 u r, ownCh elGVisit 157 v4 w_0_visits])) := by
  refine enter0 (args := [(.pointer (some ⟨b1, 0, none⟩))]) [cellCh b1 [v2, v4, (.int .i64 w_0_decision)] 130, ownCh elGPlace 153 v2 w_0_stack, ownCh elGVisit 157 v4 w_0_visits] hF hg Tryd.func105 rfl Tryd.ntmps105 rfl h ?_
  clear h hF hg
  refine c_join1 (σ := (List GPlace)) (fun (xs7 : (List GPlace)) (a : Act) (w : World) => ∃ (v8 : Value), Has 16 [] a ∧ Mem (gB F [cellCh b1 [v2, v4, (.int .i64 w_0_decision)] 130, ownCh elGPlace 153 v2 w_0_stack, ownCh elGVisit 157 v4 w_0_visits] w0) (feet [cellCh b1 [v2, v4, (.int .i64 w_0_decision)] 130, ownCh elGPlace 153 v2 w_0_stack, ownCh elGVisit 157 v4 w_0_visits]) w0 [cellCh b1 [v8, v4, (.int .i64 w_0_decision)] 130, ownCh elGPlace 153 v8 xs7, ownCh elGVisit 157 v4 w_0_visits] w) ?_ ?_
  · intro k10
    refine c_drawQ mixed 15 rfl [ownCh elGVisit 157 v4 w_0_visits] ?_
    intro Qd hP hQ
    have H485 : ∀ (a14 : Option Addr) (l15 : Nat) (q16 : Nat) (xs12 : (List GPlace)), Nx 16 (gB F [cellCh b1 [v2, v4, (.int .i64 w_0_decision)] 130, ownCh elGPlace 153 v2 w_0_stack, ownCh elGVisit 157 v4 w_0_visits] w0) (feet [cellCh b1 [v2, v4, (.int .i64 w_0_decision)] 130, ownCh elGPlace 153 v2 w_0_stack, ownCh elGVisit 157 v4 w_0_visits]) w0 (wpAnyH Tryd.prog .any (opsAt Tryd.f105 []) Qd (Mem (gB F [cellCh b1 [v2, v4, (.int .i64 w_0_decision)] 130, ownCh elGPlace 153 v2 w_0_stack, ownCh elGVisit 157 v4 w_0_visits] w0) (feet [cellCh b1 [v2, v4, (.int .i64 w_0_decision)] 130, ownCh elGPlace 153 v2 w_0_stack, ownCh elGVisit 157 v4 w_0_visits]) w0 [ownCh elGVisit 157 v4 w_0_visits]) 0 #[true, true, true, true, true, true, true, true, true, true, true, true, true, true, true]) [] [cellCh b1 [(.slice a14 l15 q16), v4, (.int .i64 w_0_decision)] 130, ownCh elGPlace 153 (.slice a14 l15 q16) xs12, ownCh elGVisit 157 v4 w_0_visits] (k10 xs12) := by
      intro a14 l15 q16 xs12
      refine d_done (by kernel_rfl) ?_
      exact fun a w hE hm hφ => hQ xs12 a w hφ ((fun a w hE hm => ⟨(.slice a14 l15 q16), hE.sub trivial, (hm.pick [0, 1, 2] rfl)⟩) a w hE hm)
    have H486 : ∀ (v11 : Value) (xs12 : (List GPlace)), Nx 16 (gB F [cellCh b1 [v2, v4, (.int .i64 w_0_decision)] 130, ownCh elGPlace 153 v2 w_0_stack, ownCh elGVisit 157 v4 w_0_visits] w0) (feet [cellCh b1 [v2, v4, (.int .i64 w_0_decision)] 130, ownCh elGPlace 153 v2 w_0_stack, ownCh elGVisit 157 v4 w_0_visits]) w0 (wpAnyH Tryd.prog .any (opsAt Tryd.f105 []) Qd (Mem (gB F [cellCh b1 [v2, v4, (.int .i64 w_0_decision)] 130, ownCh elGPlace 153 v2 w_0_stack, ownCh elGVisit 157 v4 w_0_visits] w0) (feet [cellCh b1 [v2, v4, (.int .i64 w_0_decision)] 130, ownCh elGPlace 153 v2 w_0_stack, ownCh elGVisit 157 v4 w_0_visits]) w0 [ownCh elGVisit 157 v4 w_0_visits]) 3 #[true, true, true, true, true, true, true, true, true, true, true, true, false, false, false]) [(2, (.pointer (some ⟨b1, 0, none⟩))), (13, v11)] [cellCh b1 [v2, v4, (.int .i64 w_0_decision)] 130, ownCh elGPlace 153 v11 xs12, ownCh elGVisit 157 v4 w_0_visits] (k10 xs12) := by
      intro v11 xs12
      refine o_nilc (dt 12 (fun w m => m.pick [2] rfl)) rfl rfl ?_
      refine o_fad (dt 13 (fun w m => m.pick [2] rfl)) rfl rfl fld130_0 rfl ?_
      refine nx_own 1 rfl ?_; rintro a14 l15 q16 rfl
      refine d_one (i := 14) rfl (by kernel_rfl) (o_stc (cs' := [(.slice a14 l15 q16), v4, (.int .i64 w_0_decision)]) 0 rfl rfl rfl ty127 rfl rfl rfl rfl ?_)
      refine d_and (fun w m => m.pick [2] rfl) ?_
      refine pk [0, 1, 2] rfl ?_
      refine re (E' := []) trivial ?_
      exact H485 a14 l15 q16 xs12
    have H487 : ∀ (_ : Unit), Nx 16 (gB F [cellCh b1 [v2, v4, (.int .i64 w_0_decision)] 130, ownCh elGPlace 153 v2 w_0_stack, ownCh elGVisit 157 v4 w_0_visits] w0) (feet [cellCh b1 [v2, v4, (.int .i64 w_0_decision)] 130, ownCh elGPlace 153 v2 w_0_stack, ownCh elGVisit 157 v4 w_0_visits]) w0 (wpAnyH Tryd.prog .any (opsAt Tryd.f105 []) Qd (Mem (gB F [cellCh b1 [v2, v4, (.int .i64 w_0_decision)] 130, ownCh elGPlace 153 v2 w_0_stack, ownCh elGVisit 157 v4 w_0_visits] w0) (feet [cellCh b1 [v2, v4, (.int .i64 w_0_decision)] 130, ownCh elGPlace 153 v2 w_0_stack, ownCh elGVisit 157 v4 w_0_visits]) w0 [ownCh elGVisit 157 v4 w_0_visits]) 5 #[true, true, true, true, true, true, true, true, true, true, false, false, false, false, false]) [(2, (.pointer (some ⟨b1, 0, none⟩))), (6, v2), (11, (.int .i64 (w_0_stack.length : Int)))] [cellCh b1 [v2, v4, (.int .i64 w_0_decision)] 130, ownCh elGPlace 153 v2 w_0_stack, ownCh elGVisit 157 v4 w_0_visits] (sliceW w_0_stack 0 (w64 ((w_0_stack.length : Int) - 1)) (fun xs12 => k10 xs12)) := by
      intro _
      refine o_subw (dt 10 (fun w m => m.pick [2] rfl)) rfl rfl rfl ?_
      refine d_one (i := 11) rfl (by kernel_rfl) (o_slcO (J := (w64 ((w_0_stack.length : Int) - 1))) 1 rfl rfl rfl rfl el127 rfl ?_); intro v11 xs12
      refine d_and (fun w m => m.pick [2] rfl) ?_
      refine pk [0, 1, 2] rfl ?_
      refine re (E' := [(2, (.pointer (some ⟨b1, 0, none⟩))), (13, v11)]) ⟨rfl, rfl, trivial⟩ ?_
      exact H486 v11 xs12
    have H488 : ∀ (_ : Unit), Nx 16 (gB F [cellCh b1 [v2, v4, (.int .i64 w_0_decision)] 130, ownCh elGPlace 153 v2 w_0_stack, ownCh elGVisit 157 v4 w_0_visits] w0) (feet [cellCh b1 [v2, v4, (.int .i64 w_0_decision)] 130, ownCh elGPlace 153 v2 w_0_stack, ownCh elGVisit 157 v4 w_0_visits]) w0 (wpAnyH Tryd.prog .any (opsAt Tryd.f105 []) Qd (Mem (gB F [cellCh b1 [v2, v4, (.int .i64 w_0_decision)] 130, ownCh elGPlace 153 v2 w_0_stack, ownCh elGVisit 157 v4 w_0_visits] w0) (feet [cellCh b1 [v2, v4, (.int .i64 w_0_decision)] 130, ownCh elGPlace 153 v2 w_0_stack, ownCh elGVisit 157 v4 w_0_visits]) w0 [ownCh elGVisit 157 v4 w_0_visits]) 6 #[true, true, true, true, true, true, true, true, true, false, false, false, false, false, false]) [(2, (.pointer (some ⟨b1, 0, none⟩))), (6, v2), (10, v2)] [cellCh b1 [v2, v4, (.int .i64 w_0_decision)] 130, ownCh elGPlace 153 v2 w_0_stack, ownCh elGVisit 157 v4 w_0_visits] (sliceW w_0_stack 0 (w64 ((w_0_stack.length : Int) - 1)) (fun xs12 => k10 xs12)) := by
      intro _
      refine d_one (i := 9) rfl (by kernel_rfl) (o_len m_op el127 1 rfl reads_own rfl rfl ?_)
      refine d_and (fun w m => m.pick [2] rfl) ?_
      refine pk [0, 1, 2] rfl ?_
      refine re (E' := [(2, (.pointer (some ⟨b1, 0, none⟩))), (6, v2), (11, (.int .i64 (w_0_stack.length : Int)))]) ⟨rfl, rfl, rfl, trivial⟩ ?_
      exact H487 ()
    have H489 : ∀ (_ : Unit), Nx 16 (gB F [cellCh b1 [v2, v4, (.int .i64 w_0_decision)] 130, ownCh elGPlace 153 v2 w_0_stack, ownCh elGVisit 157 v4 w_0_visits] w0) (feet [cellCh b1 [v2, v4, (.int .i64 w_0_decision)] 130, ownCh elGPlace 153 v2 w_0_stack, ownCh elGVisit 157 v4 w_0_visits]) w0 (wpAnyH Tryd.prog .any (opsAt Tryd.f105 []) Qd (Mem (gB F [cellCh b1 [v2, v4, (.int .i64 w_0_decision)] 130, ownCh elGPlace 153 v2 w_0_stack, ownCh elGVisit 157 v4 w_0_visits] w0) (feet [cellCh b1 [v2, v4, (.int .i64 w_0_decision)] 130, ownCh elGPlace 153 v2 w_0_stack, ownCh elGVisit 157 v4 w_0_visits]) w0 [ownCh elGVisit 157 v4 w_0_visits]) 7 #[true, true, true, true, true, true, true, true, false, false, false, false, false, false, false]) [(2, (.pointer (some ⟨b1, 0, none⟩))), (9, (.pointer (some ⟨b1, 0, none⟩))), (6, v2)] [cellCh b1 [v2, v4, (.int .i64 w_0_decision)] 130, ownCh elGPlace 153 v2 w_0_stack, ownCh elGVisit 157 v4 w_0_visits] (sliceW w_0_stack 0 (w64 ((w_0_stack.length : Int) - 1)) (fun xs12 => k10 xs12)) := by
      intro _
      refine d_one (i := 8) rfl (by kernel_rfl) (o_ldc m_op (v := v2) 0 rfl rfl rfl ty127 rfl ?_)
      refine d_and (fun w m => m.pick [2] rfl) ?_
      refine pk [0, 1, 2] rfl ?_
      refine re (E' := [(2, (.pointer (some ⟨b1, 0, none⟩))), (6, v2), (10, v2)]) ⟨rfl, rfl, rfl, trivial⟩ ?_
      exact H488 ()
    have H490 : ∀ (_ : Unit), Nx 16 (gB F [cellCh b1 [v2, v4, (.int .i64 w_0_decision)] 130, ownCh elGPlace 153 v2 w_0_stack, ownCh elGVisit 157 v4 w_0_visits] w0) (feet [cellCh b1 [v2, v4, (.int .i64 w_0_decision)] 130, ownCh elGPlace 153 v2 w_0_stack, ownCh elGVisit 157 v4 w_0_visits]) w0 (wpAnyH Tryd.prog .any (opsAt Tryd.f105 []) Qd (Mem (gB F [cellCh b1 [v2, v4, (.int .i64 w_0_decision)] 130, ownCh elGPlace 153 v2 w_0_stack, ownCh elGVisit 157 v4 w_0_visits] w0) (feet [cellCh b1 [v2, v4, (.int .i64 w_0_decision)] 130, ownCh elGPlace 153 v2 w_0_stack, ownCh elGVisit 157 v4 w_0_visits]) w0 [ownCh elGVisit 157 v4 w_0_visits]) 4 #[true, true, true, true, true, true, true, true, true, true, true, false, false, false, false]) [(2, (.pointer (some ⟨b1, 0, none⟩))), (12, (.int .i64 (w64 ((w_0_stack.length : Int) - 1)))), (6, v2)] [cellCh b1 [v2, v4, (.int .i64 w_0_decision)] 130, ownCh elGPlace 153 v2 w_0_stack, ownCh elGVisit 157 v4 w_0_visits] (sliceW w_0_stack 0 (w64 ((w_0_stack.length : Int) - 1)) (fun xs18 => k10 xs18)) := by
      intro _
      refine d_one (i := 11) rfl (by kernel_rfl) (o_slcO (J := (w64 ((w_0_stack.length : Int) - 1))) 1 rfl rfl rfl rfl el127 rfl ?_); intro v17 xs18
      refine d_and (fun w m => m.pick [2] rfl) ?_
      refine pk [0, 1, 2] rfl ?_
      refine re (E' := [(2, (.pointer (some ⟨b1, 0, none⟩))), (13, v17)]) ⟨rfl, rfl, trivial⟩ ?_
      exact H486 v17 xs18
    have H491 : ∀ (_ : Unit), Nx 16 (gB F [cellCh b1 [v2, v4, (.int .i64 w_0_decision)] 130, ownCh elGPlace 153 v2 w_0_stack, ownCh elGVisit 157 v4 w_0_visits] w0) (feet [cellCh b1 [v2, v4, (.int .i64 w_0_decision)] 130, ownCh elGPlace 153 v2 w_0_stack, ownCh elGVisit 157 v4 w_0_visits]) w0 (wpAnyH Tryd.prog .any (opsAt Tryd.f105 []) Qd (Mem (gB F [cellCh b1 [v2, v4, (.int .i64 w_0_decision)] 130, ownCh elGPlace 153 v2 w_0_stack, ownCh elGVisit 157 v4 w_0_visits] w0) (feet [cellCh b1 [v2, v4, (.int .i64 w_0_decision)] 130, ownCh elGPlace 153 v2 w_0_stack, ownCh elGVisit 157 v4 w_0_visits]) w0 [ownCh elGVisit 157 v4 w_0_visits]) 6 #[true, true, true, true, false, true, true, true, true, true, false, false, false, false, false]) [(2, (.pointer (some ⟨b1, 0, none⟩))), (5, (.pointer (some ⟨b1, 0, none⟩))), (11, (.int .i64 (w_0_stack.length : Int)))] [cellCh b1 [v2, v4, (.int .i64 w_0_decision)] 130, ownCh elGPlace 153 v2 w_0_stack, ownCh elGVisit 157 v4 w_0_visits] (sliceW w_0_stack 0 (w64 ((w_0_stack.length : Int) - 1)) (fun xs18 => k10 xs18)) := by
      intro _
      refine o_subw (dt 10 (fun w m => m.pick [2] rfl)) rfl rfl rfl ?_
      refine d_one (i := 4) rfl (by kernel_rfl) (o_ldc m_op (v := v2) 0 rfl rfl rfl ty127 rfl ?_)
      refine d_and (fun w m => m.pick [2] rfl) ?_
      refine pk [0, 1, 2] rfl ?_
      refine re (E' := [(2, (.pointer (some ⟨b1, 0, none⟩))), (12, (.int .i64 (w64 ((w_0_stack.length : Int) - 1)))), (6, v2)]) ⟨rfl, rfl, rfl, trivial⟩ ?_
      exact H490 ()
    have H492 : ∀ (_ : Unit), Nx 16 (gB F [cellCh b1 [v2, v4, (.int .i64 w_0_decision)] 130, ownCh elGPlace 153 v2 w_0_stack, ownCh elGVisit 157 v4 w_0_visits] w0) (feet [cellCh b1 [v2, v4, (.int .i64 w_0_decision)] 130, ownCh elGPlace 153 v2 w_0_stack, ownCh elGVisit 157 v4 w_0_visits]) w0 (wpAnyH Tryd.prog .any (opsAt Tryd.f105 []) Qd (Mem (gB F [cellCh b1 [v2, v4, (.int .i64 w_0_decision)] 130, ownCh elGPlace 153 v2 w_0_stack, ownCh elGVisit 157 v4 w_0_visits] w0) (feet [cellCh b1 [v2, v4, (.int .i64 w_0_decision)] 130, ownCh elGPlace 153 v2 w_0_stack, ownCh elGVisit 157 v4 w_0_visits]) w0 [ownCh elGVisit 157 v4 w_0_visits]) 7 #[true, true, true, true, false, true, true, true, true, false, false, false, false, false, false]) [(2, (.pointer (some ⟨b1, 0, none⟩))), (5, (.pointer (some ⟨b1, 0, none⟩))), (10, v2)] [cellCh b1 [v2, v4, (.int .i64 w_0_decision)] 130, ownCh elGPlace 153 v2 w_0_stack, ownCh elGVisit 157 v4 w_0_visits] (sliceW w_0_stack 0 (w64 ((w_0_stack.length : Int) - 1)) (fun xs12 => k10 xs12)) := by
      intro _
      refine d_two (i := 4) (j := 9) rfl rfl (by kernel_rfl) ?_ ?_
      · intro o ho; cases ho
        refine o_ldc m_op (v := v2) 0 rfl rfl rfl ty127 rfl ?_
        refine d_and (fun w m => m.pick [2] rfl) ?_
        refine pk [0, 1, 2] rfl ?_
        refine re (E' := [(2, (.pointer (some ⟨b1, 0, none⟩))), (6, v2), (10, v2)]) ⟨rfl, rfl, rfl, trivial⟩ ?_
        exact H488 ()
      · intro o ho; cases ho
        refine o_len m_op el127 1 rfl reads_own rfl rfl ?_
        refine d_and (fun w m => m.pick [2] rfl) ?_
        refine pk [0, 1, 2] rfl ?_
        refine re (E' := [(2, (.pointer (some ⟨b1, 0, none⟩))), (5, (.pointer (some ⟨b1, 0, none⟩))), (11, (.int .i64 (w_0_stack.length : Int)))]) ⟨rfl, rfl, rfl, trivial⟩ ?_
        exact H491 ()
    refine o_mv (dt 0 (fun w m => m.pick [2] rfl)) rfl rfl ?_
    refine o_mv (dt 1 (fun w m => m.pick [2] rfl)) rfl rfl ?_
    refine o_nilc (dt 2 (fun w m => m.pick [2] rfl)) rfl rfl ?_
    refine o_fad (dt 3 (fun w m => m.pick [2] rfl)) rfl rfl fld130_0 rfl ?_
    refine o_mv (dt 5 (fun w m => m.pick [2] rfl)) rfl rfl ?_
    refine o_nilc (dt 6 (fun w m => m.pick [2] rfl)) rfl rfl ?_
    refine o_fad (dt 7 (fun w m => m.pick [2] rfl)) rfl rfl fld130_0 rfl ?_
    refine d_two (i := 4) (j := 8) rfl rfl (by kernel_rfl) ?_ ?_
    · intro o ho; cases ho
      refine o_ldc m_op (v := v2) 0 rfl rfl rfl ty127 rfl ?_
      refine d_and (fun w m => m.pick [2] rfl) ?_
      refine pk [0, 1, 2] rfl ?_
      refine re (E' := [(2, (.pointer (some ⟨b1, 0, none⟩))), (9, (.pointer (some ⟨b1, 0, none⟩))), (6, v2)]) ⟨rfl, rfl, rfl, trivial⟩ ?_
      exact H489 ()
    · intro o ho; cases ho
      refine o_ldc m_op (v := v2) 0 rfl rfl rfl ty127 rfl ?_
      refine d_and (fun w m => m.pick [2] rfl) ?_
      refine pk [0, 1, 2] rfl ?_
      refine re (E' := [(2, (.pointer (some ⟨b1, 0, none⟩))), (5, (.pointer (some ⟨b1, 0, none⟩))), (10, v2)]) ⟨rfl, rfl, rfl, trivial⟩ ?_
      exact H492 ()
  · rintro xs7 a w ⟨v8, hE, hm⟩ h
    refine nx_of hE hm h ?_
    clear hE hm h
    exact l_end0m Tryd.results105 xs7 v8 rfl (fun w m => NewCh.ofB m [0, 1, 2] rfl)

set_option maxRecDepth 100000 in
set_option maxHeartbeats 8000000 in
theorem w_impl_Test_holds {w0 : World} {F : Nat → Prop} {t_0 : GTest} {p_1 : GPacket} {κ : Bool → Prop} (hF : ∀ b, F b → b < w0.heap.size ∧ ¬ feet [] b) (h : L_impl_Test_holds t_0 p_1 κ) :
    Calls Tryd.prog 118 #[(.agg #[(.int .i64 t_0.xField), (.int .i64 t_0.xLo), (.int .i64 t_0.xHi), (.bool t_0.xNot)]), (.agg #[(.int .i64 p_1.xFrom), (.int .i64 p_1.xTo), (.int .i64 p_1.xPort), (.int .i64 p_1.xProto)])] w0 (Ret [] F w0 κ (fun (r : Bool) (u : Unit) => (.bool r)) (fun (r : Bool) (u : Unit) => [])) := by
  refine enter0 (args := [(.agg #[(.int .i64 t_0.xField), (.int .i64 t_0.xLo), (.int .i64 t_0.xHi), (.bool t_0.xNot)]), (.agg #[(.int .i64 p_1.xFrom), (.int .i64 p_1.xTo), (.int .i64 p_1.xPort), (.int .i64 p_1.xProto)])]) [] hF (Given.nil _ _) Tryd.func118 rfl Tryd.ntmps118 rfl h ?_
  clear h hF
  refine c_seq ?_
  refine c_region ?_
  refine stw (o_box rfl rfl [(.int .i64 t_0.xField), (.int .i64 t_0.xLo), (.int .i64 t_0.xHi), (.bool t_0.xNot)] rfl ?_); intro b1
  refine stw (o_box rfl rfl [(.int .i64 p_1.xFrom), (.int .i64 p_1.xTo), (.int .i64 p_1.xPort), (.int .i64 p_1.xProto)] rfl ?_); intro b3
  refine o_as st rfl rfl ?_
  refine c_nil ?_
  refine l_then ?_
  refine c_seq ?_
  refine c_draw mixed 6 rfl [cellCh b3 [(.int .i64 p_1.xFrom), (.int .i64 p_1.xTo), (.int .i64 p_1.xPort), (.int .i64 p_1.xProto)] 40, cellCh b1 [(.int .i64 t_0.xField), (.int .i64 t_0.xLo), (.int .i64 t_0.xHi), (.bool t_0.xNot)] 173] ?_
  refine o_ldc (dt 0 (fun _ m => m)) (v := (.agg #[(.int .i64 p_1.xFrom), (.int .i64 p_1.xTo), (.int .i64 p_1.xPort), (.int .i64 p_1.xProto)])) 0 rfl rfl rfl ty40 rfl ?_
  refine o_fad (dt 2 (fun _ m => m)) rfl rfl fld173_0 rfl ?_
  refine o_ldc (dt 3 (fun _ m => m)) (v := (.int .i64 t_0.xField)) 1 rfl rfl rfl ty3 rfl ?_
  refine d_one (i := 1) rfl (by kernel_rfl) (o_callP (vs := [(.agg #[(.int .i64 p_1.xFrom), (.int .i64 p_1.xTo), (.int .i64 p_1.xPort), (.int .i64 p_1.xProto)])]) Tryd.call94 rfl rfl (by intro w m h; exact (w_impl_Packet_fields (F := allB [] w) (p_0 := p_1) allB_ok h).mono (fun _ _ k => ret_free (fun r u => fr_nil) k)) ?_); rintro r5 _
  refine d_and (fun _ m => m) ?_
  refine o_ixv (dt 4 (fun _ m => m)) (enc := encInt) (zs := [r5.x0, r5.x1, r5.x2, r5.x3]) (u := fun (e6 : Int) => (.int .i64 e6)) rfl rfl rfl arr138 rfl rfl (fun _ => rfl) (fun _ => rfl) ?_; intro e6
  refine o_as (dt 5 (fun _ m => m)) rfl rfl ?_
  refine d_done (by kernel_rfl) ?_
  refine l_then ?_
  refine c_join (σ := Bool) (fun (t67 : Bool) (a : Act) (w : World) => Has 26 [(2, (.pointer (some ⟨b1, 0, none⟩))), (6, (.bool t67))] a ∧ Mem (gB F [] w0) (feet []) w0 [cellCh b1 [(.int .i64 t_0.xField), (.int .i64 t_0.xLo), (.int .i64 t_0.xHi), (.bool t_0.xNot)] 173] w) ?_ ?_
  · intro k68
    refine c_region ?_
    refine o_fad st rfl rfl fld173_1 rfl ?_
    refine o_ldc st (v := (.int .i64 t_0.xLo)) 1 rfl rfl rfl ty3 rfl ?_
    refine o_mv st rfl rfl ?_
    refine o_leq st rfl rfl rfl ?_
    refine o_mv st rfl rfl ?_
    refine st_sp (dj := 16) rfl ?_ ?_
    · refine o_mv (st_g rfl rfl) rfl rfl ?_
      refine o_fad (st_g rfl rfl) rfl rfl fld173_2 rfl ?_
      refine o_ldc (st_g rfl rfl) (v := (.int .i64 t_0.xHi)) 1 rfl rfl rfl ty3 rfl ?_
      refine o_leq (st_g rfl rfl) rfl rfl rfl ?_
      refine o_pickT st rfl rfl rfl ?_
      refine o_as st rfl rfl ?_
      refine c_nil ?_
      exact l_join (decide (e6 ≤ t_0.xHi)) (fun a w hE hm => ⟨hE.sub ⟨rfl, rfl, trivial⟩, (hm.pick [1] rfl)⟩)
    · refine st_s rfl rfl rfl rfl ?_
      refine st_s rfl rfl rfl rfl ?_
      refine st_s rfl rfl rfl rfl ?_
      refine st_s rfl rfl rfl rfl ?_
      refine o_pickF st rfl rfl rfl ?_
      refine o_as st rfl rfl ?_
      refine c_nil ?_
      exact l_join false (fun a w hE hm => ⟨hE.sub ⟨rfl, rfl, trivial⟩, (hm.pick [1] rfl)⟩)
  · rintro t67 a w ⟨hE, hm⟩ h
    refine nx_of hE hm h ?_
    clear hE hm h
    refine c_seq ?_
    refine c_region ?_
    refine o_mv st rfl rfl ?_
    refine o_fad st rfl rfl fld173_3 rfl ?_
    refine o_ldc st (v := (.bool t_0.xNot)) 0 rfl rfl rfl ty4 rfl ?_
    refine o_neqB st und4 rfl rfl rfl ?_
    refine o_as st rfl rfl ?_
    refine c_nil ?_
    refine l_then ?_
    refine c_ret ?_
    exact l_end1 Tryd.results118 (!(decide (t67 = t_0.xNot))) () (rv_t rfl) (fun _ _ => NewCh.nil _ _ _ _)

set_option maxRecDepth 100000 in
set_option maxHeartbeats 8000000 in
theorem w_impl_allHold {w0 : World} {F : Nat → Prop} {v1 : Value} {list_0 : (List GTest)} {p_1 : GPacket} {κ : Bool → Prop} (hF : ∀ b, F b → b < w0.heap.size ∧ ¬ feet [] b) (hv1 : Sl elGTest F w0 v1 list_0) (h : L_impl_allHold list_0 p_1 κ) :
    Calls Tryd.prog 106 #[v1, (.agg #[(.int .i64 p_1.xFrom), (.int .i64 p_1.xTo), (.int .i64 p_1.xPort), (.int .i64 p_1.xProto)])] w0 (Ret [] F w0 κ (fun (r : Bool) (u : Unit) => (.bool r)) (fun (r : Bool) (u : Unit) => [])) := by
  refine enterS (args := [v1, (.agg #[(.int .i64 p_1.xFrom), (.int .i64 p_1.xTo), (.int .i64 p_1.xPort), (.int .i64 p_1.xProto)])]) [] hF (Given.nil _ _) Tryd.func106 rfl Tryd.ntmps106 rfl h ?_
  clear h hF
  refine c_seq ?_
  refine c_region ?_
  refine stw (o_box rfl rfl [(.int .i64 p_1.xFrom), (.int .i64 p_1.xTo), (.int .i64 p_1.xPort), (.int .i64 p_1.xProto)] rfl ?_); intro b3
  refine o_as st rfl rfl ?_
  refine c_nil ?_
  refine l_then ?_
  refine c_seq ?_
  refine c_seq ?_
  refine c_region ?_
  refine o_mv st rfl rfl ?_
  refine o_len st el102 1 rfl (reads_snap hv1) rfl rfl ?_
  refine o_mv st rfl rfl ?_
  refine c_nil ?_
  refine l_then ?_
  refine c_block ?_
  refine c_loop (σ := Int) (fun (t5 : Int) (a : Act) (w : World) => Has 18 [(3, (.pointer (some ⟨b3, 0, none⟩))), (7, v1), (8, (.int .i64 (list_0.length : Int))), (9, (.int .i64 t5))] a ∧ Mem (gB F [] w0) (feet []) w0 [cellCh b3 [(.int .i64 p_1.xFrom), (.int .i64 p_1.xTo), (.int .i64 p_1.xPort), (.int .i64 p_1.xProto)] 40, snapCh w0 F] w) (fun a w hE hm => ⟨hE.sub ⟨rfl, rfl, rfl, rfl, trivial⟩, (hm.pick [0, 1] rfl)⟩) ?_
  rintro nx6 t5 a w ⟨hE, hm⟩ h
  refine nx_of hE hm h ?_
  clear hE hm h
  refine c_seq ?_
  refine c_region ?_
  refine o_lss st rfl rfl rfl ?_
  refine c_nil ?_
  refine l_then ?_
  refine c_seq ?_
  refine c_cond rfl ?_ ?_
  · refine c_skip ?_
    refine l_then ?_
    refine c_seq ?_
    refine c_block ?_
    refine c_seq ?_
    refine c_region ?_
    refine o_idx st 1 rfl (reads_snap hv1) rfl rfl rfl el102 ?_; intro e7 h8
    refine o_lds st (enc := encGTest) (u := (.agg #[(.int .i64 e7.xField), (.int .i64 e7.xLo), (.int .i64 e7.xHi), (.bool e7.xNot)])) 1 rfl (reads_snap hv1) flelGTest rfl h8 rfl rfl ty173 rfl ?_
    refine stw (o_alloc rfl [(.int .i64 0), (.int .i64 0), (.int .i64 0), (.bool false)] zero173 ?_); intro b9
    refine stw (o_stc (cs' := [(.int .i64 e7.xField), (.int .i64 e7.xLo), (.int .i64 e7.xHi), (.bool e7.xNot)]) 0 rfl rfl rfl ty173 rfl rfl rfl rfl ?_)
    refine c_nil ?_
    refine l_then ?_
    refine c_seq ?_
    refine c_region ?_
    refine o_ldc st (v := (.agg #[(.int .i64 e7.xField), (.int .i64 e7.xLo), (.int .i64 e7.xHi), (.bool e7.xNot)])) 0 rfl rfl rfl ty173 rfl ?_
    refine o_ldc st (v := (.agg #[(.int .i64 p_1.xFrom), (.int .i64 p_1.xTo), (.int .i64 p_1.xPort), (.int .i64 p_1.xProto)])) 1 rfl rfl rfl ty40 rfl ?_
    refine stw (o_callP (vs := [(.agg #[(.int .i64 e7.xField), (.int .i64 e7.xLo), (.int .i64 e7.xHi), (.bool e7.xNot)]), (.agg #[(.int .i64 p_1.xFrom), (.int .i64 p_1.xTo), (.int .i64 p_1.xPort), (.int .i64 p_1.xProto)])]) Tryd.call118 rfl rfl (by intro w m h; exact (w_impl_Test_holds (F := allB [] w) (t_0 := e7) (p_1 := p_1) allB_ok h).mono (fun _ _ k => ret_free (fun r u => fr_nil) k)) ?_); rintro r11 _
    refine o_not st rfl rfl ?_
    refine c_nil ?_
    refine l_then ?_
    refine c_cond rfl ?_ ?_
    · refine c_seq ?_
      refine c_region ?_
      refine o_as st rfl rfl ?_
      refine c_nil ?_
      refine l_then ?_
      refine c_ret ?_
      refine b_ret ?_
      refine l_ret ?_
      refine l_ret ?_
      refine b_ret ?_
      refine l_ret ?_
      exact l_end1 Tryd.results106 false () (rv_t rfl) (fun _ _ => NewCh.nil _ _ _ _)
    · refine c_skip ?_
      refine b_norm ?_
      refine l_then ?_
      refine c_region ?_
      refine o_add st rfl rfl rfl ?_; intro t12
      refine o_mv st rfl rfl ?_
      refine c_nil ?_
      exact l_join t12 (fun a w hE hm => ⟨hE.sub ⟨rfl, rfl, rfl, rfl, trivial⟩, (hm.pick [1, 2] rfl)⟩)
  · refine c_exit ?_
    refine l_exit ?_
    refine l_exit ?_
    refine b_exit ?_
    refine l_then ?_
    refine c_seq ?_
    refine c_region ?_
    refine o_as st rfl rfl ?_
    refine c_nil ?_
    refine l_then ?_
    refine c_ret ?_
    exact l_end1 Tryd.results106 true () (rv_t rfl) (fun _ _ => NewCh.nil _ _ _ _)

set_option maxRecDepth 100000 in
set_option maxHeartbeats 8000000 in
theorem w_impl_actionOf {w0 : World} {F : Nat → Prop} {v1 : Value} {r_0 : GRule} {κ : IAction → Prop} (hF : ∀ b, F b → b < w0.heap.size ∧ ¬ feet [] b) (hv1 : Sl elGTest F w0 v1 r_0.xTests) (h : L_impl_actionOf r_0 κ) :
    Calls Tryd.prog 107 #[(.agg #[v1, (.int .i64 r_0.xAction), (.int .i64 r_0.xChain)])] w0 (Ret [] F w0 κ (fun (r : IAction) (u : Unit) => (ivIAction r)) (fun (r : IAction) (u : Unit) => [])) := by
  refine enterS (args := [(.agg #[v1, (.int .i64 r_0.xAction), (.int .i64 r_0.xChain)])]) [] hF (Given.nil _ _) Tryd.func107 rfl Tryd.ntmps107 rfl h ?_
  clear h hF
  refine c_seq ?_
  refine c_region ?_
  obtain ⟨a3, l4, q5, hs_⟩ := sl_val hv1; subst hs_
  refine stw (o_box rfl rfl [(.slice a3 l4 q5), (.int .i64 r_0.xAction), (.int .i64 r_0.xChain)] rfl ?_); intro b6
  refine o_as st rfl rfl ?_
  refine c_nil ?_
  refine l_then ?_
  refine c_seq ?_
  refine c_seq ?_
  refine c_region ?_
  refine o_fad st rfl rfl fld104_1 rfl ?_
  refine o_ldc st (v := (.int .i64 r_0.xAction)) 0 rfl rfl rfl ty3 rfl ?_
  refine c_nil ?_
  refine l_then ?_
  refine c_block ?_
  refine c_seq ?_
  refine c_region ?_
  refine o_eql st und3 rfl rfl rfl ?_
  refine o_as st rfl rfl ?_
  refine c_nil ?_
  refine l_then ?_
  refine c_cond rfl ?_ ?_
  · refine c_seq ?_
    refine c_region ?_
    refine o_bld st (qs := [(0, (.bool true))]) (cells := [(.bool true)]) (by intro ρ h; simp only [List.map_toArray, List.map_cons, List.map_nil, h (.const (.bool true)) _ rfl]) rfl bld178 rfl ?_
    refine o_mki st (u := (ivIAction (IAction.kDeciding (GDeciding.mk true)))) mki178 rfl rfl rfl ?_
    refine o_as st rfl rfl ?_
    refine c_nil ?_
    refine l_then ?_
    refine c_ret ?_
    refine b_ret ?_
    refine l_ret ?_
    exact l_end1 Tryd.results107 (IAction.kDeciding (GDeciding.mk true)) () (rv_t rfl) (fun _ _ => NewCh.nil _ _ _ _)
  · refine c_seq ?_
    refine c_region ?_
    refine o_eql st und3 rfl rfl rfl ?_
    refine o_as st rfl rfl ?_
    refine c_nil ?_
    refine l_then ?_
    refine c_cond rfl ?_ ?_
    · refine c_seq ?_
      refine c_region ?_
      refine o_bld st (qs := [(0, (.bool false))]) (cells := [(.bool false)]) (by intro ρ h; simp only [List.map_toArray, List.map_cons, List.map_nil, h (.const (.bool false)) _ rfl]) rfl bld178 rfl ?_
      refine o_mki st (u := (ivIAction (IAction.kDeciding (GDeciding.mk false)))) mki178 rfl rfl rfl ?_
      refine o_as st rfl rfl ?_
      refine c_nil ?_
      refine l_then ?_
      refine c_ret ?_
      refine b_ret ?_
      refine l_ret ?_
      exact l_end1 Tryd.results107 (IAction.kDeciding (GDeciding.mk false)) () (rv_t rfl) (fun _ _ => NewCh.nil _ _ _ _)
    · refine c_seq ?_
      refine c_region ?_
      refine o_eql st und3 rfl rfl rfl ?_
      refine o_as st rfl rfl ?_
      refine c_nil ?_
      refine l_then ?_
      refine c_cond rfl ?_ ?_
      · refine c_seq ?_
        refine c_region ?_
        refine o_fad st rfl rfl fld104_2 rfl ?_
        refine o_ldc st (v := (.int .i64 r_0.xChain)) 0 rfl rfl rfl ty3 rfl ?_
        refine o_bld st (qs := [(0, (.int .i64 r_0.xChain))]) (cells := [(.int .i64 r_0.xChain)]) (by intro ρ h; simp only [List.map_toArray, List.map_cons, List.map_nil, h (.tmp 16) _ rfl]) rfl bld180 rfl ?_
        refine o_mki st (u := (ivIAction (IAction.kCalling (GCalling.mk r_0.xChain)))) mki180 rfl rfl rfl ?_
        refine o_as st rfl rfl ?_
        refine c_nil ?_
        refine l_then ?_
        refine c_ret ?_
        refine b_ret ?_
        refine l_ret ?_
        exact l_end1 Tryd.results107 (IAction.kCalling (GCalling.mk r_0.xChain)) () (rv_t rfl) (fun _ _ => NewCh.nil _ _ _ _)
      · refine c_seq ?_
        refine c_region ?_
        refine o_eql st und3 rfl rfl rfl ?_
        refine o_as st rfl rfl ?_
        refine c_nil ?_
        refine l_then ?_
        refine c_cond rfl ?_ ?_
        · refine c_seq ?_
          refine c_region ?_
          refine o_bld st (qs := []) (cells := []) (by intro ρ h; simp only [List.map_toArray, List.map_cons, List.map_nil]) rfl bld182 rfl ?_
          refine o_mki st (u := (ivIAction (IAction.kReturning (GReturning.mk )))) mki182 rfl rfl rfl ?_
          refine o_as st rfl rfl ?_
          refine c_nil ?_
          refine l_then ?_
          refine c_ret ?_
          refine b_ret ?_
          refine l_ret ?_
          exact l_end1 Tryd.results107 (IAction.kReturning (GReturning.mk )) () (rv_t rfl) (fun _ _ => NewCh.nil _ _ _ _)
        · refine c_skip ?_
          refine b_norm ?_
          refine l_then ?_
          refine c_seq ?_
          refine c_region ?_
          refine o_bld st (qs := []) (cells := []) (by intro ρ h; simp only [List.map_toArray, List.map_cons, List.map_nil]) rfl bld183 rfl ?_
          refine o_mki st (u := (ivIAction (IAction.kPassing (GPassing.mk )))) mki183 rfl rfl rfl ?_
          refine o_as st rfl rfl ?_
          refine c_nil ?_
          refine l_then ?_
          refine c_ret ?_
          exact l_end1 Tryd.results107 (IAction.kPassing (GPassing.mk )) () (rv_t rfl) (fun _ _ => NewCh.nil _ _ _ _)

set_option maxRecDepth 100000 in
set_option maxHeartbeats 8000000 in
theorem w_impl_deciding_walk {w0 : World} {F : Nat → Prop} {b1 : Nat} {v2 : Value} {v4 : Value} {d_0 : GDeciding} {w_1_stack : (List GPlace)} {w_1_visits : (List GVisit)} {w_1_decision : Int} {κ : Int → Prop} (hF : ∀ b, F b → b < w0.heap.size ∧ ¬ feet [cellCh b1 [v2, v4, (.int .i64 w_1_decision)] 130, ownCh elGPlace 153 v2 w_1_stack, ownCh elGVisit 157 v4 w_1_visits] b) (hg : Given [cellCh b1 [v2, v4, (.int .i64 w_1_decision)] 130, ownCh elGPlace 153 v2 w_1_stack, ownCh elGVisit 157 v4 w_1_visits] F w0) (h : L_impl_deciding_walk d_0 w_1_stack w_1_visits w_1_decision κ) :
    Calls Tryd.prog 147 #[(.agg #[(.bool d_0.xAccept)]), (.pointer (some ⟨b1, 0, none⟩))] w0 (Ret [cellCh b1 [v2, v4, (.int .i64 w_1_decision)] 130, ownCh elGPlace 153 v2 w_1_stack, ownCh elGVisit 157 v4 w_1_visits] F w0 κ (fun (r : Int) (u : Unit) => .tuple #[]) (fun (r : Int) (u : Unit) => [cellCh b1 [v2, v4, (.int .i64 r)] 130, ownCh elGPlace 153 v2 w_1_stack, ownCh elGVisit 157 v4 w_1_visits])) := by
  refine enter0 (args := [(.agg #[(.bool d_0.xAccept)]), (.pointer (some ⟨b1, 0, none⟩))]) [cellCh b1 [v2, v4, (.int .i64 w_1_decision)] 130, ownCh elGPlace 153 v2 w_1_stack, ownCh elGVisit 157 v4 w_1_visits] hF hg Tryd.func147 rfl Tryd.ntmps147 rfl h ?_
  clear h hF hg
  refine c_seq ?_
  refine c_region ?_
  refine stw (o_box rfl rfl [(.bool d_0.xAccept)] rfl ?_); intro b7
  refine c_nil ?_
  refine l_then ?_
  refine c_seq ?_
  refine c_region ?_
  refine o_fad st rfl rfl fld178_0 rfl ?_
  refine o_ldc st (v := (.bool d_0.xAccept)) 0 rfl rfl rfl ty4 rfl ?_
  refine c_nil ?_
  refine l_then ?_
  refine c_cond rfl ?_ ?_
  · refine c_region ?_
    refine o_mv st rfl rfl ?_
    refine o_nilc st rfl rfl ?_
    refine o_fad st rfl rfl fld130_2 rfl ?_
    refine stw (o_stc (cs' := [v2, v4, (.int .i64 1)]) 1 rfl rfl rfl ty3 rfl rfl rfl rfl ?_)
    refine c_nil ?_
    exact l_end0m Tryd.results147 1 () rfl (fun w m => NewCh.ofB m [1, 2, 3] rfl)
  · refine c_region ?_
    refine o_mv st rfl rfl ?_
    refine o_nilc st rfl rfl ?_
    refine o_fad st rfl rfl fld130_2 rfl ?_
    refine stw (o_stc (cs' := [v2, v4, (.int .i64 2)]) 1 rfl rfl rfl ty3 rfl rfl rfl rfl ?_)
    refine c_nil ?_
    exact l_end0m Tryd.results147 2 () rfl (fun w m => NewCh.ofB m [1, 2, 3] rfl)

set_option maxRecDepth 100000 in
set_option maxHeartbeats 8000000 in
theorem w_impl_calling_walk {w0 : World} {F : Nat → Prop} {b1 : Nat} {v2 : Value} {v4 : Value} {c_0 : GCalling} {w_1_stack : (List GPlace)} {w_1_visits : (List GVisit)} {w_1_decision : Int} {κ : (List GPlace) → Prop} (hF : ∀ b, F b → b < w0.heap.size ∧ ¬ feet [cellCh b1 [v2, v4, (.int .i64 w_1_decision)] 130, ownCh elGPlace 153 v2 w_1_stack, ownCh elGVisit 157 v4 w_1_visits] b) (hg : Given [cellCh b1 [v2, v4, (.int .i64 w_1_decision)] 130, ownCh elGPlace 153 v2 w_1_stack, ownCh elGVisit 157 v4 w_1_visits] F w0) (h : L_impl_calling_walk c_0 w_1_stack w_1_visits w_1_decision κ) :
    Calls Tryd.prog 150 #[(.agg #[(.int .i64 c_0.xChain)]), (.pointer (some ⟨b1, 0, none⟩))] w0 (Ret [cellCh b1 [v2, v4, (.int .i64 w_1_decision)] 130, ownCh elGPlace 153 v2 w_1_stack, ownCh elGVisit 157 v4 w_1_visits] F w0 κ (fun (r : (List GPlace)) (u : Value) => .tuple #[]) (fun (r : (List GPlace)) (u : Value) => [cellCh b1 [u, v4, (.int .i64 w_1_decision)] 130, ownCh elGPlace 153 u r, ownCh elGVisit 157 v4 w_1_visits])) := by
  refine enter0 (args := [(.agg #[(.int .i64 c_0.xChain)]), (.pointer (some ⟨b1, 0, none⟩))]) [cellCh b1 [v2, v4, (.int .i64 w_1_decision)] 130, ownCh elGPlace 153 v2 w_1_stack, ownCh elGVisit 157 v4 w_1_visits] hF hg Tryd.func150 rfl Tryd.ntmps150 rfl h ?_
  clear h hF hg
  refine c_seq ?_
  refine c_region ?_
  refine stw (o_box rfl rfl [(.int .i64 c_0.xChain)] rfl ?_); intro b7
  refine c_nil ?_
  refine l_then ?_
  refine c_join1 (σ := (List GPlace)) (fun (xs9 : (List GPlace)) (a : Act) (w : World) => ∃ (v10 : Value), Has 16 [] a ∧ Mem (gB F [cellCh b1 [v2, v4, (.int .i64 w_1_decision)] 130, ownCh elGPlace 153 v2 w_1_stack, ownCh elGVisit 157 v4 w_1_visits] w0) (feet [cellCh b1 [v2, v4, (.int .i64 w_1_decision)] 130, ownCh elGPlace 153 v2 w_1_stack, ownCh elGVisit 157 v4 w_1_visits]) w0 [cellCh b1 [v10, v4, (.int .i64 w_1_decision)] 130, ownCh elGPlace 153 v10 xs9, ownCh elGVisit 157 v4 w_1_visits] w) ?_ ?_
  · intro k12
    refine c_drawQ mixed 13 rfl [cellCh b7 [(.int .i64 c_0.xChain)] 180, ownCh elGVisit 157 v4 w_1_visits] ?_
    intro Qd hP hQ
    have H500 : ∀ (v13 : Value) (a16 : Option Addr) (l17 : Nat) (q18 : Nat), Nx 16 (gB F [cellCh b1 [v2, v4, (.int .i64 w_1_decision)] 130, ownCh elGPlace 153 v2 w_1_stack, ownCh elGVisit 157 v4 w_1_visits] w0) (feet [cellCh b1 [v2, v4, (.int .i64 w_1_decision)] 130, ownCh elGPlace 153 v2 w_1_stack, ownCh elGVisit 157 v4 w_1_visits]) w0 (wpAnyH Tryd.prog .any (opsAt Tryd.f150 [1]) Qd (Mem (gB F [cellCh b1 [v2, v4, (.int .i64 w_1_decision)] 130, ownCh elGPlace 153 v2 w_1_stack, ownCh elGVisit 157 v4 w_1_visits] w0) (feet [cellCh b1 [v2, v4, (.int .i64 w_1_decision)] 130, ownCh elGPlace 153 v2 w_1_stack, ownCh elGVisit 157 v4 w_1_visits]) w0 [cellCh b7 [(.int .i64 c_0.xChain)] 180, ownCh elGVisit 157 v4 w_1_visits]) 0 #[true, true, true, true, true, true, true, true, true, true, true, true, true]) [] [cellCh b7 [(.int .i64 c_0.xChain)] 180, cellCh b1 [(.slice a16 l17 q18), v4, (.int .i64 w_1_decision)] 130, ownCh elGPlace 153 (.slice a16 l17 q18) (w_1_stack ++ ([(GPlace.mk c_0.xChain 0)])), ownCh elGVisit 157 v4 w_1_visits] (k12 (w_1_stack ++ ([(GPlace.mk c_0.xChain 0)]))) := by
      intro v13 a16 l17 q18
      refine d_done (by kernel_rfl) ?_
      exact fun a w hE hm hφ => hQ (w_1_stack ++ ([(GPlace.mk c_0.xChain 0)])) a w hφ ((fun a w hE hm => ⟨(.slice a16 l17 q18), hE.sub trivial, (hm.pick [1, 2, 3] rfl)⟩) a w hE hm)
    have H501 : ∀ (v13 : Value) (v14 : Value), Nx 16 (gB F [cellCh b1 [v2, v4, (.int .i64 w_1_decision)] 130, ownCh elGPlace 153 v2 w_1_stack, ownCh elGVisit 157 v4 w_1_visits] w0) (feet [cellCh b1 [v2, v4, (.int .i64 w_1_decision)] 130, ownCh elGPlace 153 v2 w_1_stack, ownCh elGVisit 157 v4 w_1_visits]) w0 (wpAnyH Tryd.prog .any (opsAt Tryd.f150 [1]) Qd (Mem (gB F [cellCh b1 [v2, v4, (.int .i64 w_1_decision)] 130, ownCh elGPlace 153 v2 w_1_stack, ownCh elGVisit 157 v4 w_1_visits] w0) (feet [cellCh b1 [v2, v4, (.int .i64 w_1_decision)] 130, ownCh elGPlace 153 v2 w_1_stack, ownCh elGVisit 157 v4 w_1_visits]) w0 [cellCh b7 [(.int .i64 c_0.xChain)] 180, ownCh elGVisit 157 v4 w_1_visits]) 3 #[true, true, true, true, true, true, true, true, true, true, false, false, false]) [(4, (.pointer (some ⟨b1, 0, none⟩))), (13, v14)] [cellCh b7 [(.int .i64 c_0.xChain)] 180, cellCh b1 [v2, v4, (.int .i64 w_1_decision)] 130, ownCh elGPlace 153 v14 (w_1_stack ++ ([(GPlace.mk c_0.xChain 0)])), ownCh elGVisit 157 v4 w_1_visits] (k12 (w_1_stack ++ ([(GPlace.mk c_0.xChain 0)]))) := by
      intro v13 v14
      refine o_nilc (dt 10 (fun w m => m.pick [0, 3] rfl)) rfl rfl ?_
      refine o_fad (dt 11 (fun w m => m.pick [0, 3] rfl)) rfl rfl fld130_0 rfl ?_
      refine nx_own 2 rfl ?_; rintro a16 l17 q18 rfl
      refine d_one (i := 12) rfl (by kernel_rfl) (o_stc (cs' := [(.slice a16 l17 q18), v4, (.int .i64 w_1_decision)]) 1 rfl rfl rfl ty127 rfl rfl rfl rfl ?_)
      refine d_and (fun w m => m.pick [0, 3] rfl) ?_
      refine pk [0, 1, 2, 3] rfl ?_
      refine re (E' := []) trivial ?_
      exact H500 v13 a16 l17 q18
    have H502 : ∀ (v13 : Value), Nx 16 (gB F [cellCh b1 [v2, v4, (.int .i64 w_1_decision)] 130, ownCh elGPlace 153 v2 w_1_stack, ownCh elGVisit 157 v4 w_1_visits] w0) (feet [cellCh b1 [v2, v4, (.int .i64 w_1_decision)] 130, ownCh elGPlace 153 v2 w_1_stack, ownCh elGVisit 157 v4 w_1_visits]) w0 (wpAnyH Tryd.prog .any (opsAt Tryd.f150 [1]) Qd (Mem (gB F [cellCh b1 [v2, v4, (.int .i64 w_1_decision)] 130, ownCh elGPlace 153 v2 w_1_stack, ownCh elGVisit 157 v4 w_1_visits] w0) (feet [cellCh b1 [v2, v4, (.int .i64 w_1_decision)] 130, ownCh elGPlace 153 v2 w_1_stack, ownCh elGVisit 157 v4 w_1_visits]) w0 [cellCh b7 [(.int .i64 c_0.xChain)] 180, ownCh elGVisit 157 v4 w_1_visits]) 4 #[true, true, true, true, true, true, true, true, true, false, false, false, false]) [(4, (.pointer (some ⟨b1, 0, none⟩))), (8, v2), (12, v13)] [ownCh elGPlace 153 v13 ([(GPlace.mk c_0.xChain 0)]), cellCh b7 [(.int .i64 c_0.xChain)] 180, cellCh b1 [v2, v4, (.int .i64 w_1_decision)] 130, ownCh elGPlace 153 v2 w_1_stack, ownCh elGVisit 157 v4 w_1_visits] (appW w_1_stack ([(GPlace.mk c_0.xChain 0)]) (fun _ => k12 (w_1_stack ++ ([(GPlace.mk c_0.xChain 0)])))) := by
      intro v13
      refine d_one (i := 9) rfl (by kernel_rfl) (o_app 3 0 rfl rfl (src_flat flelGPlace reads_own) rfl rfl rfl el127 rfl zero153 rfl rfl ?_); intro v14
      refine d_and (fun w m => m.pick [1, 4] rfl) ?_
      refine pk [1, 2, 3, 4] rfl ?_
      refine re (E' := [(4, (.pointer (some ⟨b1, 0, none⟩))), (13, v14)]) ⟨rfl, rfl, trivial⟩ ?_
      exact H501 v13 v14
    have H503 : ∀ (_ : Unit), Nx 16 (gB F [cellCh b1 [v2, v4, (.int .i64 w_1_decision)] 130, ownCh elGPlace 153 v2 w_1_stack, ownCh elGVisit 157 v4 w_1_visits] w0) (feet [cellCh b1 [v2, v4, (.int .i64 w_1_decision)] 130, ownCh elGPlace 153 v2 w_1_stack, ownCh elGVisit 157 v4 w_1_visits]) w0 (wpAnyH Tryd.prog .any (opsAt Tryd.f150 [1]) Qd (Mem (gB F [cellCh b1 [v2, v4, (.int .i64 w_1_decision)] 130, ownCh elGPlace 153 v2 w_1_stack, ownCh elGVisit 157 v4 w_1_visits] w0) (feet [cellCh b1 [v2, v4, (.int .i64 w_1_decision)] 130, ownCh elGPlace 153 v2 w_1_stack, ownCh elGVisit 157 v4 w_1_visits]) w0 [cellCh b7 [(.int .i64 c_0.xChain)] 180, ownCh elGVisit 157 v4 w_1_visits]) 5 #[true, true, true, true, true, true, true, true, false, false, false, false, false]) [(4, (.pointer (some ⟨b1, 0, none⟩))), (11, (.agg #[(.int .i64 c_0.xChain), (.int .i64 0)])), (8, v2)] [cellCh b7 [(.int .i64 c_0.xChain)] 180, cellCh b1 [v2, v4, (.int .i64 w_1_decision)] 130, ownCh elGPlace 153 v2 w_1_stack, ownCh elGVisit 157 v4 w_1_visits] (appW w_1_stack ([(GPlace.mk c_0.xChain 0)]) (fun _ => k12 (w_1_stack ++ ([(GPlace.mk c_0.xChain 0)])))) := by
      intro _
      refine d_one (i := 8) rfl (by kernel_rfl) (o_bsl (enc := encGPlace) (qs := [(0, (.agg #[(.int .i64 c_0.xChain), (.int .i64 0)]))]) (cells := [(.int .i64 c_0.xChain), (.int .i64 0)]) ([(GPlace.mk c_0.xChain 0)]) flelGPlace (by intro ρ h; simp only [List.map_toArray, List.map_cons, List.map_nil, h (.tmp 11) _ rfl]) rfl el127 zero153 rfl rfl rfl rfl rfl rfl ?_); intro v13
      refine d_and (fun w m => m.pick [1, 4] rfl) ?_
      refine pk [0, 1, 2, 3, 4] rfl ?_
      refine re (E' := [(4, (.pointer (some ⟨b1, 0, none⟩))), (8, v2), (12, v13)]) ⟨rfl, rfl, rfl, trivial⟩ ?_
      exact H502 v13
    have H504 : ∀ (v19 : Value), Nx 16 (gB F [cellCh b1 [v2, v4, (.int .i64 w_1_decision)] 130, ownCh elGPlace 153 v2 w_1_stack, ownCh elGVisit 157 v4 w_1_visits] w0) (feet [cellCh b1 [v2, v4, (.int .i64 w_1_decision)] 130, ownCh elGPlace 153 v2 w_1_stack, ownCh elGVisit 157 v4 w_1_visits]) w0 (wpAnyH Tryd.prog .any (opsAt Tryd.f150 [1]) Qd (Mem (gB F [cellCh b1 [v2, v4, (.int .i64 w_1_decision)] 130, ownCh elGPlace 153 v2 w_1_stack, ownCh elGVisit 157 v4 w_1_visits] w0) (feet [cellCh b1 [v2, v4, (.int .i64 w_1_decision)] 130, ownCh elGPlace 153 v2 w_1_stack, ownCh elGVisit 157 v4 w_1_visits]) w0 [cellCh b7 [(.int .i64 c_0.xChain)] 180, ownCh elGVisit 157 v4 w_1_visits]) 5 #[true, true, true, true, false, true, true, true, true, false, false, false, false]) [(4, (.pointer (some ⟨b1, 0, none⟩))), (7, (.pointer (some ⟨b1, 0, none⟩))), (12, v19)] [ownCh elGPlace 153 v19 ([(GPlace.mk c_0.xChain 0)]), cellCh b7 [(.int .i64 c_0.xChain)] 180, cellCh b1 [v2, v4, (.int .i64 w_1_decision)] 130, ownCh elGPlace 153 v2 w_1_stack, ownCh elGVisit 157 v4 w_1_visits] (appW w_1_stack ([(GPlace.mk c_0.xChain 0)]) (fun _ => k12 (w_1_stack ++ ([(GPlace.mk c_0.xChain 0)])))) := by
      intro v19
      refine d_one (i := 4) rfl (by kernel_rfl) (o_ldc m_op (v := v2) 2 rfl rfl rfl ty127 rfl ?_)
      refine d_and (fun w m => m.pick [1, 4] rfl) ?_
      refine pk [0, 1, 2, 3, 4] rfl ?_
      refine re (E' := [(4, (.pointer (some ⟨b1, 0, none⟩))), (8, v2), (12, v19)]) ⟨rfl, rfl, rfl, trivial⟩ ?_
      exact H502 v19
    refine o_mv (dt 0 (fun w m => m.pick [0, 3] rfl)) rfl rfl ?_
    refine o_mv (dt 1 (fun w m => m.pick [0, 3] rfl)) rfl rfl ?_
    refine o_nilc (dt 2 (fun w m => m.pick [0, 3] rfl)) rfl rfl ?_
    refine o_fad (dt 3 (fun w m => m.pick [0, 3] rfl)) rfl rfl fld130_0 rfl ?_
    refine o_fad (dt 5 (fun w m => m.pick [0, 3] rfl)) rfl rfl fld180_0 rfl ?_
    refine o_ldc (dt 6 (fun w m => m.pick [0, 3] rfl)) (v := (.int .i64 c_0.xChain)) 0 rfl rfl rfl ty3 rfl ?_
    refine o_bld (dt 7 (fun w m => m.pick [0, 3] rfl)) (qs := [(0, (.int .i64 c_0.xChain)), (1, (.int .i64 0))]) (cells := [(.int .i64 c_0.xChain), (.int .i64 0)]) (by intro ρ h; simp only [List.map_toArray, List.map_cons, List.map_nil, h (.tmp 10) _ rfl, h (.const (.int .i64 0)) _ rfl]) rfl bld153 rfl ?_
    refine d_two (i := 4) (j := 8) rfl rfl (by kernel_rfl) ?_ ?_
    · intro o ho; cases ho
      refine o_ldc m_op (v := v2) 1 rfl rfl rfl ty127 rfl ?_
      refine d_and (fun w m => m.pick [0, 3] rfl) ?_
      refine pk [0, 1, 2, 3] rfl ?_
      refine re (E' := [(4, (.pointer (some ⟨b1, 0, none⟩))), (11, (.agg #[(.int .i64 c_0.xChain), (.int .i64 0)])), (8, v2)]) ⟨rfl, rfl, rfl, trivial⟩ ?_
      exact H503 ()
    · intro o ho; cases ho
      refine o_bsl (enc := encGPlace) (qs := [(0, (.agg #[(.int .i64 c_0.xChain), (.int .i64 0)]))]) (cells := [(.int .i64 c_0.xChain), (.int .i64 0)]) ([(GPlace.mk c_0.xChain 0)]) flelGPlace (by intro ρ h; simp only [List.map_toArray, List.map_cons, List.map_nil, h (.tmp 11) _ rfl]) rfl el127 zero153 rfl rfl rfl rfl rfl rfl ?_; intro v19
      refine d_and (fun w m => m.pick [1, 4] rfl) ?_
      refine pk [0, 1, 2, 3, 4] rfl ?_
      refine re (E' := [(4, (.pointer (some ⟨b1, 0, none⟩))), (7, (.pointer (some ⟨b1, 0, none⟩))), (12, v19)]) ⟨rfl, rfl, rfl, trivial⟩ ?_
      exact H504 v19
  · rintro xs9 a w ⟨v10, hE, hm⟩ h
    refine nx_of hE hm h ?_
    clear hE hm h
    exact l_end0m Tryd.results150 xs9 v10 rfl (fun w m => NewCh.ofB m [0, 1, 2] rfl)

set_option maxRecDepth 100000 in
set_option maxHeartbeats 8000000 in
theorem w_impl_returning_walk {w0 : World} {F : Nat → Prop} {b1 : Nat} {v2 : Value} {v4 : Value} {a_0 : GReturning} {w_1_stack : (List GPlace)} {w_1_visits : (List GVisit)} {w_1_decision : Int} {κ : (List GPlace) → Prop} (hF : ∀ b, F b → b < w0.heap.size ∧ ¬ feet [cellCh b1 [v2, v4, (.int .i64 w_1_decision)] 130, ownCh elGPlace 153 v2 w_1_stack, ownCh elGVisit 157 v4 w_1_visits] b) (hg : Given [cellCh b1 [v2, v4, (.int .i64 w_1_decision)] 130, ownCh elGPlace 153 v2 w_1_stack, ownCh elGVisit 157 v4 w_1_visits] F w0) (h : L_impl_returning_walk a_0 w_1_stack w_1_visits w_1_decision κ) :
    Calls Tryd.prog 153 #[(.agg #[]), (.pointer (some ⟨b1, 0, none⟩))] w0 (Ret [cellCh b1 [v2, v4, (.int .i64 w_1_decision)] 130, ownCh elGPlace 153 v2 w_1_stack, ownCh elGVisit 157 v4 w_1_visits] F w0 κ (fun (r : (List GPlace)) (u : Value) => .tuple #[]) (fun (r : (List GPlace)) (u : Value) => [cellCh b1 [u, v4, (.int .i64 w_1_decision)] 130, ownCh elGPlace 153 u r, ownCh elGVisit 157 v4 w_1_visits])) := by
  refine enter0 (args := [(.agg #[]), (.pointer (some ⟨b1, 0, none⟩))]) [cellCh b1 [v2, v4, (.int .i64 w_1_decision)] 130, ownCh elGPlace 153 v2 w_1_stack, ownCh elGVisit 157 v4 w_1_visits] hF hg Tryd.func153 rfl Tryd.ntmps153 rfl h ?_
  clear h hF hg
  refine c_seq ?_
  refine c_region ?_
  refine stw (o_box rfl rfl [] rfl ?_); intro b7
  refine c_nil ?_
  refine l_then ?_
  refine c_region ?_
  refine o_mv st rfl rfl ?_
  refine pk [1, 2, 3, 0] rfl ?_
  refine stw (o_call (vs := [(.pointer (some ⟨b1, 0, none⟩))]) (M0 := [cellCh b1 [v2, v4, (.int .i64 w_1_decision)] 130, ownCh elGPlace 153 v2 w_1_stack, ownCh elGVisit 157 v4 w_1_visits]) Tryd.call105 rfl rfl (by intro w m h; exact (w_impl_walk_leave (F := allB [cellCh b1 [v2, v4, (.int .i64 w_1_decision)] 130, ownCh elGPlace 153 v2 w_1_stack, ownCh elGVisit 157 v4 w_1_visits] w) (w_0_stack := w_1_stack) (w_0_visits := w_1_visits) (w_0_decision := w_1_decision) allB_ok m.given h).mono (fun _ _ k => ret_free (fun r u => (fr_cons free_cell (fr_cons (free_own flelGPlace) (fr_cons (free_own flelGVisit) fr_nil)))) k)) ?_); rintro r9 v10
  refine c_nil ?_
  exact l_end0m Tryd.results153 r9 v10 rfl (fun w m => NewCh.ofB m [0, 1, 2] rfl)

set_option maxRecDepth 100000 in
set_option maxHeartbeats 8000000 in
theorem w_impl_passing_walk {w0 : World} {F : Nat → Prop} {b1 : Nat} {v2 : Value} {v4 : Value} {a_0 : GPassing} {a_1_stack : (List GPlace)} {a_1_visits : (List GVisit)} {a_1_decision : Int} {κ : Unit → Prop} (hF : ∀ b, F b → b < w0.heap.size ∧ ¬ feet [cellCh b1 [v2, v4, (.int .i64 a_1_decision)] 130, ownCh elGPlace 153 v2 a_1_stack, ownCh elGVisit 157 v4 a_1_visits] b) (hg : Given [cellCh b1 [v2, v4, (.int .i64 a_1_decision)] 130, ownCh elGPlace 153 v2 a_1_stack, ownCh elGVisit 157 v4 a_1_visits] F w0) (h : L_impl_passing_walk a_0 a_1_stack a_1_visits a_1_decision κ) :
    Calls Tryd.prog 156 #[(.agg #[]), (.pointer (some ⟨b1, 0, none⟩))] w0 (Ret [cellCh b1 [v2, v4, (.int .i64 a_1_decision)] 130, ownCh elGPlace 153 v2 a_1_stack, ownCh elGVisit 157 v4 a_1_visits] F w0 κ (fun (r : Unit) (u : Unit) => .tuple #[]) (fun (r : Unit) (u : Unit) => [cellCh b1 [v2, v4, (.int .i64 a_1_decision)] 130, ownCh elGPlace 153 v2 a_1_stack, ownCh elGVisit 157 v4 a_1_visits])) := by
  refine enter0 (args := [(.agg #[]), (.pointer (some ⟨b1, 0, none⟩))]) [cellCh b1 [v2, v4, (.int .i64 a_1_decision)] 130, ownCh elGPlace 153 v2 a_1_stack, ownCh elGVisit 157 v4 a_1_visits] hF hg Tryd.func156 rfl Tryd.ntmps156 rfl h ?_
  clear h hF hg
  refine c_region ?_
  refine stw (o_box rfl rfl [] rfl ?_); intro b7
  refine c_nil ?_
  exact l_end0m Tryd.results156 () () rfl (fun w m => NewCh.ofB m [1, 2, 3] rfl)

set_option maxRecDepth 100000 in
set_option maxHeartbeats 8000000 in
theorem w_impl_walkThrough {w0 : World} {F : Nat → Prop} {v1 : Value} {s_0 : GRuleset} {p_1 : GPacket} {κ : ((List GPlace) × (List GVisit) × Int) → Prop} (hF : ∀ b, F b → b < w0.heap.size ∧ ¬ feet [] b) (hv1 : Sl (elSl elGRule) F w0 v1 s_0.xChains) (h : L_impl_walkThrough s_0 p_1 κ) :
    Calls Tryd.prog 90 #[(.agg #[v1, (.bool s_0.xAccept)]), (.agg #[(.int .i64 p_1.xFrom), (.int .i64 p_1.xTo), (.int .i64 p_1.xPort), (.int .i64 p_1.xProto)])] w0 (Ret [] F w0 κ (fun (r : ((List GPlace) × (List GVisit) × Int)) (u : Nat × Value × Value) => .pointer (some ⟨u.1, 0, none⟩)) (fun (r : ((List GPlace) × (List GVisit) × Int)) (u : Nat × Value × Value) => [cellCh u.1 [u.2.1, u.2.2, (.int .i64 r.2.2)] 130, ownCh elGPlace 153 u.2.1 r.1, ownCh elGVisit 157 u.2.2 r.2.1])) := by
  refine enterS (args := [(.agg #[v1, (.bool s_0.xAccept)]), (.agg #[(.int .i64 p_1.xFrom), (.int .i64 p_1.xTo), (.int .i64 p_1.xPort), (.int .i64 p_1.xProto)])]) [] hF (Given.nil _ _) Tryd.func90 rfl Tryd.ntmps90 rfl h ?_
  clear h hF
  refine c_seq ?_
  refine c_region ?_
  obtain ⟨a3, l4, q5, hs_⟩ := sl_val hv1; subst hs_
  refine stw (o_box rfl rfl [(.slice a3 l4 q5), (.bool s_0.xAccept)] rfl ?_); intro b6
  refine stw (o_box rfl rfl [(.int .i64 p_1.xFrom), (.int .i64 p_1.xTo), (.int .i64 p_1.xPort), (.int .i64 p_1.xProto)] rfl ?_); intro b8
  refine o_as st rfl rfl ?_
  refine c_nil ?_
  refine l_then ?_
  refine c_seq ?_
  refine c_region ?_
  refine o_bld st (qs := [(0, (.int .i64 0)), (1, (.int .i64 0))]) (cells := [(.int .i64 0), (.int .i64 0)]) (by intro ρ h; simp only [List.map_toArray, List.map_cons, List.map_nil, h (.const (.int .i64 0)) _ rfl, h (.const (.int .i64 0)) _ rfl]) rfl bld153 rfl ?_
  refine stw (o_bsl (enc := encGPlace) (qs := [(0, (.agg #[(.int .i64 0), (.int .i64 0)]))]) (cells := [(.int .i64 0), (.int .i64 0)]) ([(GPlace.mk 0 0)]) flelGPlace (by intro ρ h; simp only [List.map_toArray, List.map_cons, List.map_nil, h (.tmp 9) _ rfl]) rfl el127 zero153 rfl rfl rfl rfl rfl rfl ?_); intro v10
  refine nx_own 0 rfl ?_; rintro a12 l13 q14 rfl
  refine o_bld st (qs := [(0, (.slice a12 l13 q14)), (2, (.int .i64 5))]) (cells := [(.slice a12 l13 q14), (.slice none 0 0), (.int .i64 5)]) (by intro ρ h; simp only [List.map_toArray, List.map_cons, List.map_nil, h (.tmp 10) _ rfl, h (.const (.int .i64 5)) _ rfl]) rfl bld130 rfl ?_
  refine stw (o_box rfl rfl [(.slice a12 l13 q14), (.slice none 0 0), (.int .i64 5)] rfl ?_); intro b15
  refine o_as st rfl rfl ?_
  refine c_nil ?_
  refine l_then ?_
  refine c_seq ?_
  refine c_block ?_
  refine c_loop (σ := ((List GPlace) × (List GVisit) × Int)) (fun ((xs18, xs22, t25) : ((List GPlace) × (List GVisit) × Int)) (a : Act) (w : World) => ∃ (v17 : Value) (v21 : Value), Has 102 [(2, (.pointer (some ⟨b6, 0, none⟩))), (3, (.pointer (some ⟨b8, 0, none⟩))), (5, (.pointer (some ⟨b15, 0, none⟩)))] a ∧ Mem (gB F [] w0) (feet []) w0 [cellCh b15 [v17, v21, (.int .i64 t25)] 130, cellCh b8 [(.int .i64 p_1.xFrom), (.int .i64 p_1.xTo), (.int .i64 p_1.xPort), (.int .i64 p_1.xProto)] 40, cellCh b6 [(.slice a3 l4 q5), (.bool s_0.xAccept)] 25, snapCh w0 F, ownCh elGPlace 153 v17 xs18, ownCh elGVisit 157 v21 xs22] w) (fun a w hE hm => ⟨(.slice a12 l13 q14), (.slice none 0 0), hE.sub ⟨rfl, rfl, rfl, trivial⟩, ((mem_nil elGVisit 157 hm).pick [1, 3, 4, 5, 2, 0] rfl)⟩) ?_
  rintro nx26 ⟨xs18, xs22, t25⟩ a w ⟨v17, v21, hE, hm⟩ h
  refine nx_of hE hm h ?_
  clear hE hm h
  refine c_seq ?_
  refine c_join (σ := Bool) (fun (t87 : Bool) (a : Act) (w : World) => Has 102 [(2, (.pointer (some ⟨b6, 0, none⟩))), (3, (.pointer (some ⟨b8, 0, none⟩))), (5, (.pointer (some ⟨b15, 0, none⟩))), (25, (.bool t87))] a ∧ Mem (gB F [] w0) (feet []) w0 [cellCh b15 [v17, v21, (.int .i64 t25)] 130, cellCh b8 [(.int .i64 p_1.xFrom), (.int .i64 p_1.xTo), (.int .i64 p_1.xPort), (.int .i64 p_1.xProto)] 40, cellCh b6 [(.slice a3 l4 q5), (.bool s_0.xAccept)] 25, ownCh elGPlace 153 v17 xs18, ownCh elGVisit 157 v21 xs22, snapCh w0 F] w) ?_ ?_
  · intro k88
    refine c_region ?_
    refine o_mv st rfl rfl ?_
    refine o_nilc st rfl rfl ?_
    refine o_fad st rfl rfl fld130_0 rfl ?_
    refine o_ldc st (v := v17) 0 rfl rfl rfl ty127 rfl ?_
    refine o_len st el127 4 rfl reads_own rfl rfl ?_
    refine o_gtr st rfl rfl rfl ?_
    refine o_mv st rfl rfl ?_
    refine st_sp (dj := 19) rfl ?_ ?_
    · refine o_mv (st_g rfl rfl) rfl rfl ?_
      refine o_nilc (st_g rfl rfl) rfl rfl ?_
      refine o_fad (st_g rfl rfl) rfl rfl fld130_2 rfl ?_
      refine o_ldc (st_g rfl rfl) (v := (.int .i64 t25)) 0 rfl rfl rfl ty3 rfl ?_
      refine o_eql (st_g rfl rfl) und3 rfl rfl rfl ?_
      refine o_pickT st rfl rfl rfl ?_
      refine c_nil ?_
      exact l_join (decide (t25 = 5)) (fun a w hE hm => ⟨hE.sub ⟨rfl, rfl, rfl, rfl, trivial⟩, (hm.pick [0, 1, 2, 4, 5, 3] rfl)⟩)
    · refine st_s rfl rfl rfl rfl ?_
      refine st_s rfl rfl rfl rfl ?_
      refine st_s rfl rfl rfl rfl ?_
      refine st_s rfl rfl rfl rfl ?_
      refine st_s rfl rfl rfl rfl ?_
      refine o_pickF st rfl rfl rfl ?_
      refine c_nil ?_
      exact l_join false (fun a w hE hm => ⟨hE.sub ⟨rfl, rfl, rfl, rfl, trivial⟩, (hm.pick [0, 1, 2, 4, 5, 3] rfl)⟩)
  · rintro t87 a w ⟨hE, hm⟩ h
    refine nx_of hE hm h ?_
    clear hE hm h
    refine c_cond rfl ?_ ?_
    · refine c_skip ?_
      refine l_then ?_
      refine c_block ?_
      refine c_seq ?_
      refine nx_own 3 rfl ?_; rintro a89 l90 q91 rfl
      refine nx_own 4 rfl ?_; rintro a92 l93 q94 rfl
      refine c_draw mixed 12 rfl [cellCh b15 [(.slice a89 l90 q91), (.slice a92 l93 q94), (.int .i64 t25)] 130, cellCh b8 [(.int .i64 p_1.xFrom), (.int .i64 p_1.xTo), (.int .i64 p_1.xPort), (.int .i64 p_1.xProto)] 40, cellCh b6 [(.slice a3 l4 q5), (.bool s_0.xAccept)] 25, ownCh elGPlace 153 (.slice a89 l90 q91) xs18, ownCh elGVisit 157 (.slice a92 l93 q94) xs22, snapCh w0 F] ?_
      refine o_mv (dt 0 (fun _ m => m)) rfl rfl ?_
      refine o_nilc (dt 1 (fun _ m => m)) rfl rfl ?_
      refine o_fad (dt 2 (fun _ m => m)) rfl rfl fld130_0 rfl ?_
      refine o_ldc (dt 3 (fun _ m => m)) (v := (.slice a89 l90 q91)) 0 rfl rfl rfl ty127 rfl ?_
      refine o_mv (dt 4 (fun _ m => m)) rfl rfl ?_
      refine o_nilc (dt 5 (fun _ m => m)) rfl rfl ?_
      refine o_fad (dt 6 (fun _ m => m)) rfl rfl fld130_0 rfl ?_
      refine o_ldc (dt 7 (fun _ m => m)) (v := (.slice a89 l90 q91)) 0 rfl rfl rfl ty127 rfl ?_
      refine o_len (dt 8 (fun _ m => m)) el127 3 rfl reads_own rfl rfl ?_
      refine o_sub (dt 9 (fun _ m => m)) rfl rfl rfl ?_; intro t95
      refine o_idx (dt 10 (fun _ m => m)) 3 rfl reads_own rfl rfl rfl el127 ?_; intro e96 h97
      refine o_as (dt 11 (fun _ m => m)) rfl rfl ?_
      refine d_done (by kernel_rfl) ?_
      refine l_then ?_
      refine c_seq ?_
      refine c_draw mixed 9 rfl [cellCh b15 [(.slice a89 l90 q91), (.slice a92 l93 q94), (.int .i64 t25)] 130, cellCh b8 [(.int .i64 p_1.xFrom), (.int .i64 p_1.xTo), (.int .i64 p_1.xPort), (.int .i64 p_1.xProto)] 40, cellCh b6 [(.slice a3 l4 q5), (.bool s_0.xAccept)] 25, ownCh elGPlace 153 (.slice a89 l90 q91) xs18, ownCh elGVisit 157 (.slice a92 l93 q94) xs22, snapCh w0 F] ?_
      refine o_fad (dt 0 (fun _ m => m)) rfl rfl fld25_0 rfl ?_
      refine o_ldc (dt 1 (fun _ m => m)) (v := (.slice a3 l4 q5)) 2 rfl rfl rfl ty23 rfl ?_
      refine o_mv (dt 2 (fun _ m => m)) rfl rfl ?_
      refine o_nilE (dt 3 (fun _ m => m)) 3 rfl reads_own h97 rfl rfl ?_
      refine o_fadS (dt 4 (fun _ m => m)) 3 rfl reads_own h97 rfl rfl fld153_0 rfl ?_
      refine o_lds (dt 5 (fun _ m => m)) (enc := encGPlace) (u := (.int .i64 e96.xChain)) 3 rfl reads_own flelGPlace rfl h97 rfl rfl ty3 rfl ?_
      refine o_idx (dt 6 (fun _ m => m)) 5 rfl (reads_snap hv1) rfl rfl rfl el23 ?_; intro e98 h99
      obtain ⟨_, ⟨v101, rfl, sl102⟩, rw100⟩ := sl_open hv1 h99
      refine o_ldR (dt 7 (fun _ m => m)) (u := v101) 5 rfl rw100 rfl rfl ty101 rfl ?_
      refine o_as (dt 8 (fun _ m => m)) rfl rfl ?_
      refine d_done (by kernel_rfl) ?_
      refine l_then ?_
      refine c_seq ?_
      refine c_seq ?_
      refine c_region ?_
      refine o_mv st rfl rfl ?_
      refine o_nilE st 3 rfl reads_own h97 rfl rfl ?_
      refine o_fadS st 3 rfl reads_own h97 rfl rfl fld153_1 rfl ?_
      refine o_lds st (enc := encGPlace) (u := (.int .i64 e96.xNext)) 3 rfl reads_own flelGPlace rfl h97 rfl rfl ty3 rfl ?_
      refine o_mv st rfl rfl ?_
      refine o_len st el101 5 rfl (reads_snap sl102) rfl rfl ?_
      refine o_eql st und3 rfl rfl rfl ?_
      refine c_nil ?_
      refine l_then ?_
      refine c_cond rfl ?_ ?_
      · refine c_seq ?_
        refine c_region ?_
        refine o_mv st rfl rfl ?_
        refine pk [0, 3, 4, 1, 2, 5] rfl ?_
        refine stw (o_call (vs := [(.pointer (some ⟨b15, 0, none⟩))]) (M0 := [cellCh b15 [(.slice a89 l90 q91), (.slice a92 l93 q94), (.int .i64 t25)] 130, ownCh elGPlace 153 (.slice a89 l90 q91) xs18, ownCh elGVisit 157 (.slice a92 l93 q94) xs22]) Tryd.call105 rfl rfl (by intro w m h; exact (w_impl_walk_leave (F := allB [cellCh b15 [(.slice a89 l90 q91), (.slice a92 l93 q94), (.int .i64 t25)] 130, ownCh elGPlace 153 (.slice a89 l90 q91) xs18, ownCh elGVisit 157 (.slice a92 l93 q94) xs22] w) (w_0_stack := xs18) (w_0_visits := xs22) (w_0_decision := t25) allB_ok m.given h).mono (fun _ _ k => ret_free (fun r u => (fr_cons free_cell (fr_cons (free_own flelGPlace) (fr_cons (free_own flelGVisit) fr_nil)))) k)) ?_); rintro r104 v105
        refine c_nil ?_
        refine l_then ?_
        refine c_exit ?_
        refine l_exit ?_
        refine b_exit ?_
        exact l_join (r104, xs22, t25) (fun a w hE hm => ⟨v105, (.slice a92 l93 q94), hE.sub ⟨rfl, rfl, rfl, trivial⟩, (hm.pick [0, 3, 4, 5, 1, 2] rfl)⟩)
      · refine c_skip ?_
        refine l_then ?_
        refine c_seq ?_
        refine c_region ?_
        refine o_mv st rfl rfl ?_
        refine o_nilE st 3 rfl reads_own h97 rfl rfl ?_
        refine o_fadS st 3 rfl reads_own h97 rfl rfl fld153_1 rfl ?_
        refine o_lds st (enc := encGPlace) (u := (.int .i64 e96.xNext)) 3 rfl reads_own flelGPlace rfl h97 rfl rfl ty3 rfl ?_
        refine o_as st rfl rfl ?_
        refine c_nil ?_
        refine l_then ?_
        refine c_seq ?_
        refine c_region ?_
        refine o_mv st rfl rfl ?_
        refine o_nilE st 3 rfl reads_own h97 rfl rfl ?_
        refine o_fadS st 3 rfl reads_own h97 rfl rfl fld153_1 rfl ?_
        refine o_lds st (enc := encGPlace) (u := (.int .i64 e96.xNext)) 3 rfl reads_own flelGPlace rfl h97 rfl rfl ty3 rfl ?_
        refine o_add st rfl rfl rfl ?_; intro t107
        refine o_nilE st 3 rfl reads_own h97 rfl rfl ?_
        refine o_fadS st 3 rfl reads_own h97 rfl rfl fld153_1 rfl ?_
        refine stw (o_sts (enc := encGPlace) (y' := (GPlace.mk e96.xChain t107)) 3 rfl flelGPlace rfl h97 ty3 rfl rfl rfl rfl rfl rfl ?_)
        refine c_nil ?_
        refine l_then ?_
        refine c_seq ?_
        refine c_seq ?_
        refine c_draw mixed 8 rfl [cellCh b15 [(.slice a89 l90 q91), (.slice a92 l93 q94), (.int .i64 t25)] 130, cellCh b8 [(.int .i64 p_1.xFrom), (.int .i64 p_1.xTo), (.int .i64 p_1.xPort), (.int .i64 p_1.xProto)] 40, cellCh b6 [(.slice a3 l4 q5), (.bool s_0.xAccept)] 25, ownCh elGPlace 153 (.slice a89 l90 q91) (xs18.set (t95).toNat (GPlace.mk e96.xChain t107)), ownCh elGVisit 157 (.slice a92 l93 q94) xs22, snapCh w0 F] ?_
        refine o_mv (dt 0 (fun _ m => m)) rfl rfl ?_
        refine o_mv (dt 1 (fun _ m => m)) rfl rfl ?_
        refine o_idx (dt 2 (fun _ m => m)) 5 rfl (reads_snap sl102) rfl rfl rfl el101 ?_; intro e109 h110
        refine o_fadS (dt 3 (fun _ m => m)) 5 rfl (reads_snap sl102) h110 rfl rfl fld104_0 rfl ?_
        obtain ⟨_, ⟨v112, rfl, sl113⟩, rw111⟩ := sl_open sl102 h110
        refine o_ldR (dt 4 (fun _ m => m)) (u := v112) 5 rfl rw111 rfl rfl ty102 rfl ?_
        refine o_ldc (dt 5 (fun _ m => m)) (v := (.agg #[(.int .i64 p_1.xFrom), (.int .i64 p_1.xTo), (.int .i64 p_1.xPort), (.int .i64 p_1.xProto)])) 1 rfl rfl rfl ty40 rfl ?_
        refine d_one (i := 6) rfl (by kernel_rfl) (o_callP (vs := [v112, (.agg #[(.int .i64 p_1.xFrom), (.int .i64 p_1.xTo), (.int .i64 p_1.xPort), (.int .i64 p_1.xProto)])]) Tryd.call106 rfl rfl (by intro w m h; exact (w_impl_allHold (F := allB [] w) (list_0 := e109.xTests) (p_1 := p_1) allB_ok (m.rd0 5 rfl (reads_snap sl113)) h).mono (fun _ _ k => ret_free (fun r u => fr_nil) k)) ?_); rintro r115 _
        refine d_and (fun _ m => m) ?_
        refine o_not (dt 7 (fun _ m => m)) rfl rfl ?_
        refine d_done (by kernel_rfl) ?_
        refine l_then ?_
        refine c_cond rfl ?_ ?_
        · refine c_exit ?_
          refine l_exit ?_
          refine b_exit ?_
          exact l_join ((xs18.set (t95).toNat (GPlace.mk e96.xChain t107)), xs22, t25) (fun a w hE hm => ⟨(.slice a89 l90 q91), (.slice a92 l93 q94), hE.sub ⟨rfl, rfl, rfl, trivial⟩, (hm.pick [0, 1, 2, 5, 3, 4] rfl)⟩)
        · refine c_skip ?_
          refine l_then ?_
          refine c_join (σ := (List GVisit)) (fun (xs187 : (List GVisit)) (a : Act) (w : World) => ∃ (v188 : Value), Has 102 [(2, (.pointer (some ⟨b6, 0, none⟩))), (3, (.pointer (some ⟨b8, 0, none⟩))), (5, (.pointer (some ⟨b15, 0, none⟩))), (7, v101), (8, (.int .i64 e96.xNext))] a ∧ Mem (gB F [] w0) (feet []) w0 [cellCh b15 [(.slice a89 l90 q91), v188, (.int .i64 t25)] 130, cellCh b8 [(.int .i64 p_1.xFrom), (.int .i64 p_1.xTo), (.int .i64 p_1.xPort), (.int .i64 p_1.xProto)] 40, cellCh b6 [(.slice a3 l4 q5), (.bool s_0.xAccept)] 25, ownCh elGPlace 153 (.slice a89 l90 q91) (xs18.set (t95).toNat (GPlace.mk e96.xChain t107)), ownCh elGVisit 157 v188 xs187, snapCh w0 F] w) ?_ ?_
          · intro k190
            refine c_seq ?_
            refine c_region ?_
            refine o_mv st rfl rfl ?_
            refine o_nilc st rfl rfl ?_
            refine o_fad st rfl rfl fld130_1 rfl ?_
            refine o_ldc st (v := (.slice a92 l93 q94)) 0 rfl rfl rfl ty128 rfl ?_
            refine o_len st el128 4 rfl reads_own rfl rfl ?_
            refine o_lss st rfl rfl rfl ?_
            refine c_nil ?_
            refine l_then ?_
            refine c_cond rfl ?_ ?_
            · refine c_join1 (σ := (List GVisit)) (fun (xs116 : (List GVisit)) (a : Act) (w : World) => ∃ (v117 : Value), Has 102 [(2, (.pointer (some ⟨b6, 0, none⟩))), (3, (.pointer (some ⟨b8, 0, none⟩))), (5, (.pointer (some ⟨b15, 0, none⟩))), (7, v101), (8, (.int .i64 e96.xNext))] a ∧ Mem (gB F [] w0) (feet []) w0 [cellCh b15 [(.slice a89 l90 q91), v117, (.int .i64 t25)] 130, cellCh b8 [(.int .i64 p_1.xFrom), (.int .i64 p_1.xTo), (.int .i64 p_1.xPort), (.int .i64 p_1.xProto)] 40, cellCh b6 [(.slice a3 l4 q5), (.bool s_0.xAccept)] 25, ownCh elGPlace 153 (.slice a89 l90 q91) (xs18.set (t95).toNat (GPlace.mk e96.xChain t107)), ownCh elGVisit 157 v117 xs116, snapCh w0 F] w) ?_ ?_
              · intro k119
                refine c_drawQ mixed 16 rfl [cellCh b8 [(.int .i64 p_1.xFrom), (.int .i64 p_1.xTo), (.int .i64 p_1.xPort), (.int .i64 p_1.xProto)] 40, cellCh b6 [(.slice a3 l4 q5), (.bool s_0.xAccept)] 25, ownCh elGPlace 153 (.slice a89 l90 q91) (xs18.set (t95).toNat (GPlace.mk e96.xChain t107)), snapCh w0 F] ?_
                intro Qd hP hQ
                have H572 : ∀ (v120 : Value) (a123 : Option Addr) (l124 : Nat) (q125 : Nat), Nx 102 (gB F [] w0) (feet []) w0 (wpAnyH Tryd.prog .any (opsAt Tryd.f90 [1, 1, 0, 0, 0, 1, 0, 1, 1, 1, 1, 1, 1, 0, 1, 0]) Qd (Mem (gB F [] w0) (feet []) w0 [cellCh b8 [(.int .i64 p_1.xFrom), (.int .i64 p_1.xTo), (.int .i64 p_1.xPort), (.int .i64 p_1.xProto)] 40, cellCh b6 [(.slice a3 l4 q5), (.bool s_0.xAccept)] 25, ownCh elGPlace 153 (.slice a89 l90 q91) (xs18.set (t95).toNat (GPlace.mk e96.xChain t107)), snapCh w0 F]) 0 #[true, true, true, true, true, true, true, true, true, true, true, true, true, true, true, true]) [(2, (.pointer (some ⟨b6, 0, none⟩))), (3, (.pointer (some ⟨b8, 0, none⟩))), (5, (.pointer (some ⟨b15, 0, none⟩))), (7, v101), (8, (.int .i64 e96.xNext))] [cellCh b15 [(.slice a89 l90 q91), (.slice a123 l124 q125), (.int .i64 t25)] 130, cellCh b8 [(.int .i64 p_1.xFrom), (.int .i64 p_1.xTo), (.int .i64 p_1.xPort), (.int .i64 p_1.xProto)] 40, cellCh b6 [(.slice a3 l4 q5), (.bool s_0.xAccept)] 25, ownCh elGPlace 153 (.slice a89 l90 q91) (xs18.set (t95).toNat (GPlace.mk e96.xChain t107)), ownCh elGVisit 157 (.slice a123 l124 q125) (xs22 ++ ([(GVisit.mk e96.xChain e96.xNext)])), snapCh w0 F] (k119 (xs22 ++ ([(GVisit.mk e96.xChain e96.xNext)]))) := by
                  intro v120 a123 l124 q125
                  refine d_done (by kernel_rfl) ?_
                  exact fun a w hE hm hφ => hQ (xs22 ++ ([(GVisit.mk e96.xChain e96.xNext)])) a w hφ ((fun a w hE hm => ⟨(.slice a123 l124 q125), hE.sub ⟨rfl, rfl, rfl, rfl, rfl, trivial⟩, (hm.pick [0, 1, 2, 3, 4, 5] rfl)⟩) a w hE hm)
                have H573 : ∀ (v120 : Value) (v121 : Value), Nx 102 (gB F [] w0) (feet []) w0 (wpAnyH Tryd.prog .any (opsAt Tryd.f90 [1, 1, 0, 0, 0, 1, 0, 1, 1, 1, 1, 1, 1, 0, 1, 0]) Qd (Mem (gB F [] w0) (feet []) w0 [cellCh b8 [(.int .i64 p_1.xFrom), (.int .i64 p_1.xTo), (.int .i64 p_1.xPort), (.int .i64 p_1.xProto)] 40, cellCh b6 [(.slice a3 l4 q5), (.bool s_0.xAccept)] 25, ownCh elGPlace 153 (.slice a89 l90 q91) (xs18.set (t95).toNat (GPlace.mk e96.xChain t107)), snapCh w0 F]) 3 #[true, true, true, true, true, true, true, true, true, true, true, true, true, false, false, false]) [(2, (.pointer (some ⟨b6, 0, none⟩))), (3, (.pointer (some ⟨b8, 0, none⟩))), (5, (.pointer (some ⟨b15, 0, none⟩))), (7, v101), (8, (.int .i64 e96.xNext)), (79, (.pointer (some ⟨b15, 0, none⟩))), (91, v121)] [cellCh b15 [(.slice a89 l90 q91), (.slice a92 l93 q94), (.int .i64 t25)] 130, cellCh b8 [(.int .i64 p_1.xFrom), (.int .i64 p_1.xTo), (.int .i64 p_1.xPort), (.int .i64 p_1.xProto)] 40, cellCh b6 [(.slice a3 l4 q5), (.bool s_0.xAccept)] 25, ownCh elGPlace 153 (.slice a89 l90 q91) (xs18.set (t95).toNat (GPlace.mk e96.xChain t107)), ownCh elGVisit 157 v121 (xs22 ++ ([(GVisit.mk e96.xChain e96.xNext)])), snapCh w0 F] (k119 (xs22 ++ ([(GVisit.mk e96.xChain e96.xNext)]))) := by
                  intro v120 v121
                  refine o_nilc (dt 13 (fun w m => m.pick [1, 2, 3, 5] rfl)) rfl rfl ?_
                  refine o_fad (dt 14 (fun w m => m.pick [1, 2, 3, 5] rfl)) rfl rfl fld130_1 rfl ?_
                  refine nx_own 4 rfl ?_; rintro a123 l124 q125 rfl
                  refine d_one (i := 15) rfl (by kernel_rfl) (o_stc (cs' := [(.slice a89 l90 q91), (.slice a123 l124 q125), (.int .i64 t25)]) 0 rfl rfl rfl ty128 rfl rfl rfl rfl ?_)
                  refine d_and (fun w m => m.pick [1, 2, 3, 5] rfl) ?_
                  refine pk [0, 1, 2, 3, 4, 5] rfl ?_
                  refine re (E' := [(2, (.pointer (some ⟨b6, 0, none⟩))), (3, (.pointer (some ⟨b8, 0, none⟩))), (5, (.pointer (some ⟨b15, 0, none⟩))), (7, v101), (8, (.int .i64 e96.xNext))]) ⟨rfl, rfl, rfl, rfl, rfl, trivial⟩ ?_
                  exact H572 v120 a123 l124 q125
                have H574 : ∀ (v120 : Value), Nx 102 (gB F [] w0) (feet []) w0 (wpAnyH Tryd.prog .any (opsAt Tryd.f90 [1, 1, 0, 0, 0, 1, 0, 1, 1, 1, 1, 1, 1, 0, 1, 0]) Qd (Mem (gB F [] w0) (feet []) w0 [cellCh b8 [(.int .i64 p_1.xFrom), (.int .i64 p_1.xTo), (.int .i64 p_1.xPort), (.int .i64 p_1.xProto)] 40, cellCh b6 [(.slice a3 l4 q5), (.bool s_0.xAccept)] 25, ownCh elGPlace 153 (.slice a89 l90 q91) (xs18.set (t95).toNat (GPlace.mk e96.xChain t107)), snapCh w0 F]) 4 #[true, true, true, true, true, true, true, true, true, true, true, true, false, false, false, false]) [(2, (.pointer (some ⟨b6, 0, none⟩))), (3, (.pointer (some ⟨b8, 0, none⟩))), (5, (.pointer (some ⟨b15, 0, none⟩))), (7, v101), (8, (.int .i64 e96.xNext)), (79, (.pointer (some ⟨b15, 0, none⟩))), (83, (.slice a92 l93 q94)), (90, v120)] [ownCh elGVisit 157 v120 ([(GVisit.mk e96.xChain e96.xNext)]), cellCh b15 [(.slice a89 l90 q91), (.slice a92 l93 q94), (.int .i64 t25)] 130, cellCh b8 [(.int .i64 p_1.xFrom), (.int .i64 p_1.xTo), (.int .i64 p_1.xPort), (.int .i64 p_1.xProto)] 40, cellCh b6 [(.slice a3 l4 q5), (.bool s_0.xAccept)] 25, ownCh elGPlace 153 (.slice a89 l90 q91) (xs18.set (t95).toNat (GPlace.mk e96.xChain t107)), ownCh elGVisit 157 (.slice a92 l93 q94) xs22, snapCh w0 F] (appW xs22 ([(GVisit.mk e96.xChain e96.xNext)]) (fun _ => k119 (xs22 ++ ([(GVisit.mk e96.xChain e96.xNext)])))) := by
                  intro v120
                  refine d_one (i := 12) rfl (by kernel_rfl) (o_app 5 0 rfl rfl (src_flat flelGVisit reads_own) rfl rfl rfl el128 rfl zero157 rfl rfl ?_); intro v121
                  refine d_and (fun w m => m.pick [2, 3, 4, 6] rfl) ?_
                  refine pk [1, 2, 3, 4, 5, 6] rfl ?_
                  refine re (E' := [(2, (.pointer (some ⟨b6, 0, none⟩))), (3, (.pointer (some ⟨b8, 0, none⟩))), (5, (.pointer (some ⟨b15, 0, none⟩))), (7, v101), (8, (.int .i64 e96.xNext)), (79, (.pointer (some ⟨b15, 0, none⟩))), (91, v121)]) ⟨rfl, rfl, rfl, rfl, rfl, rfl, rfl, trivial⟩ ?_
                  exact H573 v120 v121
                have H575 : ∀ (_ : Unit), Nx 102 (gB F [] w0) (feet []) w0 (wpAnyH Tryd.prog .any (opsAt Tryd.f90 [1, 1, 0, 0, 0, 1, 0, 1, 1, 1, 1, 1, 1, 0, 1, 0]) Qd (Mem (gB F [] w0) (feet []) w0 [cellCh b8 [(.int .i64 p_1.xFrom), (.int .i64 p_1.xTo), (.int .i64 p_1.xPort), (.int .i64 p_1.xProto)] 40, cellCh b6 [(.slice a3 l4 q5), (.bool s_0.xAccept)] 25, ownCh elGPlace 153 (.slice a89 l90 q91) (xs18.set (t95).toNat (GPlace.mk e96.xChain t107)), snapCh w0 F]) 5 #[true, true, true, true, true, true, true, true, true, true, true, false, false, false, false, false]) [(2, (.pointer (some ⟨b6, 0, none⟩))), (3, (.pointer (some ⟨b8, 0, none⟩))), (5, (.pointer (some ⟨b15, 0, none⟩))), (7, v101), (8, (.int .i64 e96.xNext)), (79, (.pointer (some ⟨b15, 0, none⟩))), (89, (.agg #[(.int .i64 e96.xChain), (.int .i64 e96.xNext)])), (83, (.slice a92 l93 q94))] [cellCh b15 [(.slice a89 l90 q91), (.slice a92 l93 q94), (.int .i64 t25)] 130, cellCh b8 [(.int .i64 p_1.xFrom), (.int .i64 p_1.xTo), (.int .i64 p_1.xPort), (.int .i64 p_1.xProto)] 40, cellCh b6 [(.slice a3 l4 q5), (.bool s_0.xAccept)] 25, ownCh elGPlace 153 (.slice a89 l90 q91) (xs18.set (t95).toNat (GPlace.mk e96.xChain t107)), ownCh elGVisit 157 (.slice a92 l93 q94) xs22, snapCh w0 F] (appW xs22 ([(GVisit.mk e96.xChain e96.xNext)]) (fun _ => k119 (xs22 ++ ([(GVisit.mk e96.xChain e96.xNext)])))) := by
                  intro _
                  refine d_one (i := 11) rfl (by kernel_rfl) (o_bsl (enc := encGVisit) (qs := [(0, (.agg #[(.int .i64 e96.xChain), (.int .i64 e96.xNext)]))]) (cells := [(.int .i64 e96.xChain), (.int .i64 e96.xNext)]) ([(GVisit.mk e96.xChain e96.xNext)]) flelGVisit (by intro ρ h; simp only [List.map_toArray, List.map_cons, List.map_nil, h (.tmp 89) _ rfl]) rfl el128 zero157 rfl rfl rfl rfl rfl rfl ?_); intro v120
                  refine d_and (fun w m => m.pick [2, 3, 4, 6] rfl) ?_
                  refine pk [0, 1, 2, 3, 4, 5, 6] rfl ?_
                  refine re (E' := [(2, (.pointer (some ⟨b6, 0, none⟩))), (3, (.pointer (some ⟨b8, 0, none⟩))), (5, (.pointer (some ⟨b15, 0, none⟩))), (7, v101), (8, (.int .i64 e96.xNext)), (79, (.pointer (some ⟨b15, 0, none⟩))), (83, (.slice a92 l93 q94)), (90, v120)]) ⟨rfl, rfl, rfl, rfl, rfl, rfl, rfl, rfl, trivial⟩ ?_
                  exact H574 v120
                have H576 : ∀ (v126 : Value), Nx 102 (gB F [] w0) (feet []) w0 (wpAnyH Tryd.prog .any (opsAt Tryd.f90 [1, 1, 0, 0, 0, 1, 0, 1, 1, 1, 1, 1, 1, 0, 1, 0]) Qd (Mem (gB F [] w0) (feet []) w0 [cellCh b8 [(.int .i64 p_1.xFrom), (.int .i64 p_1.xTo), (.int .i64 p_1.xPort), (.int .i64 p_1.xProto)] 40, cellCh b6 [(.slice a3 l4 q5), (.bool s_0.xAccept)] 25, ownCh elGPlace 153 (.slice a89 l90 q91) (xs18.set (t95).toNat (GPlace.mk e96.xChain t107)), snapCh w0 F]) 5 #[true, true, true, true, false, true, true, true, true, true, true, true, false, false, false, false]) [(2, (.pointer (some ⟨b6, 0, none⟩))), (3, (.pointer (some ⟨b8, 0, none⟩))), (5, (.pointer (some ⟨b15, 0, none⟩))), (7, v101), (8, (.int .i64 e96.xNext)), (79, (.pointer (some ⟨b15, 0, none⟩))), (82, (.pointer (some ⟨b15, 1, none⟩))), (90, v126)] [ownCh elGVisit 157 v126 ([(GVisit.mk e96.xChain e96.xNext)]), cellCh b15 [(.slice a89 l90 q91), (.slice a92 l93 q94), (.int .i64 t25)] 130, cellCh b8 [(.int .i64 p_1.xFrom), (.int .i64 p_1.xTo), (.int .i64 p_1.xPort), (.int .i64 p_1.xProto)] 40, cellCh b6 [(.slice a3 l4 q5), (.bool s_0.xAccept)] 25, ownCh elGPlace 153 (.slice a89 l90 q91) (xs18.set (t95).toNat (GPlace.mk e96.xChain t107)), ownCh elGVisit 157 (.slice a92 l93 q94) xs22, snapCh w0 F] (appW xs22 ([(GVisit.mk e96.xChain e96.xNext)]) (fun _ => k119 (xs22 ++ ([(GVisit.mk e96.xChain e96.xNext)])))) := by
                  intro v126
                  refine d_one (i := 4) rfl (by kernel_rfl) (o_ldc m_op (v := (.slice a92 l93 q94)) 1 rfl rfl rfl ty128 rfl ?_)
                  refine d_and (fun w m => m.pick [2, 3, 4, 6] rfl) ?_
                  refine pk [0, 1, 2, 3, 4, 5, 6] rfl ?_
                  refine re (E' := [(2, (.pointer (some ⟨b6, 0, none⟩))), (3, (.pointer (some ⟨b8, 0, none⟩))), (5, (.pointer (some ⟨b15, 0, none⟩))), (7, v101), (8, (.int .i64 e96.xNext)), (79, (.pointer (some ⟨b15, 0, none⟩))), (83, (.slice a92 l93 q94)), (90, v126)]) ⟨rfl, rfl, rfl, rfl, rfl, rfl, rfl, rfl, trivial⟩ ?_
                  exact H574 v126
                refine o_mv (dt 0 (fun w m => m.pick [1, 2, 3, 5] rfl)) rfl rfl ?_
                refine o_mv (dt 1 (fun w m => m.pick [1, 2, 3, 5] rfl)) rfl rfl ?_
                refine o_nilc (dt 2 (fun w m => m.pick [1, 2, 3, 5] rfl)) rfl rfl ?_
                refine o_fad (dt 3 (fun w m => m.pick [1, 2, 3, 5] rfl)) rfl rfl fld130_1 rfl ?_
                refine o_mv (dt 5 (fun w m => m.pick [1, 2, 3, 5] rfl)) rfl rfl ?_
                refine o_nilE (dt 6 (fun w m => m.pick [1, 2, 3, 5] rfl)) 2 rfl reads_own (gset h97) rfl rfl ?_
                refine o_fadS (dt 7 (fun w m => m.pick [1, 2, 3, 5] rfl)) 2 rfl reads_own (gset h97) rfl rfl fld153_0 rfl ?_
                refine o_lds (dt 8 (fun w m => m.pick [1, 2, 3, 5] rfl)) (enc := encGPlace) (u := (.int .i64 e96.xChain)) 2 rfl reads_own flelGPlace rfl (gset h97) rfl rfl ty3 rfl ?_
                refine o_mv (dt 9 (fun w m => m.pick [1, 2, 3, 5] rfl)) rfl rfl ?_
                refine o_bld (dt 10 (fun w m => m.pick [1, 2, 3, 5] rfl)) (qs := [(0, (.int .i64 e96.xChain)), (1, (.int .i64 e96.xNext))]) (cells := [(.int .i64 e96.xChain), (.int .i64 e96.xNext)]) (by intro ρ h; simp only [List.map_toArray, List.map_cons, List.map_nil, h (.tmp 87) _ rfl, h (.tmp 88) _ rfl]) rfl bld157 rfl ?_
                refine d_two (i := 4) (j := 11) rfl rfl (by kernel_rfl) ?_ ?_
                · intro o ho; cases ho
                  refine o_ldc m_op (v := (.slice a92 l93 q94)) 0 rfl rfl rfl ty128 rfl ?_
                  refine d_and (fun w m => m.pick [1, 2, 3, 5] rfl) ?_
                  refine pk [0, 1, 2, 3, 4, 5] rfl ?_
                  refine re (E' := [(2, (.pointer (some ⟨b6, 0, none⟩))), (3, (.pointer (some ⟨b8, 0, none⟩))), (5, (.pointer (some ⟨b15, 0, none⟩))), (7, v101), (8, (.int .i64 e96.xNext)), (79, (.pointer (some ⟨b15, 0, none⟩))), (89, (.agg #[(.int .i64 e96.xChain), (.int .i64 e96.xNext)])), (83, (.slice a92 l93 q94))]) ⟨rfl, rfl, rfl, rfl, rfl, rfl, rfl, rfl, trivial⟩ ?_
                  exact H575 ()
                · intro o ho; cases ho
                  refine o_bsl (enc := encGVisit) (qs := [(0, (.agg #[(.int .i64 e96.xChain), (.int .i64 e96.xNext)]))]) (cells := [(.int .i64 e96.xChain), (.int .i64 e96.xNext)]) ([(GVisit.mk e96.xChain e96.xNext)]) flelGVisit (by intro ρ h; simp only [List.map_toArray, List.map_cons, List.map_nil, h (.tmp 89) _ rfl]) rfl el128 zero157 rfl rfl rfl rfl rfl rfl ?_; intro v126
                  refine d_and (fun w m => m.pick [2, 3, 4, 6] rfl) ?_
                  refine pk [0, 1, 2, 3, 4, 5, 6] rfl ?_
                  refine re (E' := [(2, (.pointer (some ⟨b6, 0, none⟩))), (3, (.pointer (some ⟨b8, 0, none⟩))), (5, (.pointer (some ⟨b15, 0, none⟩))), (7, v101), (8, (.int .i64 e96.xNext)), (79, (.pointer (some ⟨b15, 0, none⟩))), (82, (.pointer (some ⟨b15, 1, none⟩))), (90, v126)]) ⟨rfl, rfl, rfl, rfl, rfl, rfl, rfl, rfl, trivial⟩ ?_
                  exact H576 v126
              · rintro xs116 a w ⟨v117, hE, hm⟩ h
                refine nx_of hE hm h ?_
                clear hE hm h
                exact l_join xs116 (fun a w hE hm => ⟨v117, hE.sub ⟨rfl, rfl, rfl, rfl, rfl, trivial⟩, (hm.pick [0, 1, 2, 3, 4, 5] rfl)⟩)
            · refine c_skip ?_
              exact l_join xs22 (fun a w hE hm => ⟨(.slice a92 l93 q94), hE.sub ⟨rfl, rfl, rfl, rfl, rfl, trivial⟩, (hm.pick [0, 1, 2, 3, 4, 5] rfl)⟩)
          · rintro xs187 a w ⟨v188, hE, hm⟩ h
            refine nx_of hE hm h ?_
            clear hE hm h
            refine c_region ?_
            refine o_mv st rfl rfl ?_
            refine o_mv st rfl rfl ?_
            refine o_idx st 5 rfl (reads_snap sl102) rfl rfl rfl el101 ?_; intro e191 h192
            obtain ⟨_, ⟨v194, rfl, sl195⟩, rw193⟩ := sl_open sl102 h192
            refine o_ldR st (u := (.agg #[v194, (.int .i64 e191.xAction), (.int .i64 e191.xChain)])) 5 rfl rw193 rfl rfl ty104 rfl ?_
            refine stw (o_callP (vs := [(.agg #[v194, (.int .i64 e191.xAction), (.int .i64 e191.xChain)])]) Tryd.call107 rfl rfl (by intro w m h; exact (w_impl_actionOf (F := allB [] w) (r_0 := e191) allB_ok (m.rd0 5 rfl (reads_snap sl195)) h).mono (fun _ _ k => ret_free (fun r u => fr_nil) k)) ?_); rintro r197 _
            refine o_mv st rfl rfl ?_
            rcases r197 with x198 | x199 | x200 | x201
            · dsimp only [IAction.casesW]
              refine pk [0, 3, 4, 1, 2, 5] rfl ?_
              refine stw (o_callX (M0 := [cellCh b15 [(.slice a89 l90 q91), v188, (.int .i64 t25)] 130, ownCh elGPlace 153 (.slice a89 l90 q91) (xs18.set (t95).toNat (GPlace.mk e96.xChain t107)), ownCh elGVisit 157 v188 xs187]) rfl (runs_inv rfl rfl (fun w => meth178_walk _ w) Tryd.call147) rfl (by intro w m h; exact (w_impl_deciding_walk (F := allB [cellCh b15 [(.slice a89 l90 q91), v188, (.int .i64 t25)] 130, ownCh elGPlace 153 (.slice a89 l90 q91) (xs18.set (t95).toNat (GPlace.mk e96.xChain t107)), ownCh elGVisit 157 v188 xs187] w) (d_0 := x198) (w_1_stack := (xs18.set (t95).toNat (GPlace.mk e96.xChain t107))) (w_1_visits := xs187) (w_1_decision := t25) allB_ok m.given h).mono (fun _ _ k => ret_free (fun r u => (fr_cons free_cell (fr_cons (free_own flelGPlace) (fr_cons (free_own flelGVisit) fr_nil)))) k)) ?_); rintro r202 _
              refine c_nil ?_
              refine b_norm ?_
              exact l_join ((xs18.set (t95).toNat (GPlace.mk e96.xChain t107)), xs187, r202) (fun a w hE hm => ⟨(.slice a89 l90 q91), v188, hE.sub ⟨rfl, rfl, rfl, trivial⟩, (hm.pick [0, 3, 4, 5, 1, 2] rfl)⟩)
            · dsimp only [IAction.casesW]
              refine pk [0, 3, 4, 1, 2, 5] rfl ?_
              refine stw (o_callX (M0 := [cellCh b15 [(.slice a89 l90 q91), v188, (.int .i64 t25)] 130, ownCh elGPlace 153 (.slice a89 l90 q91) (xs18.set (t95).toNat (GPlace.mk e96.xChain t107)), ownCh elGVisit 157 v188 xs187]) rfl (runs_inv rfl rfl (fun w => meth180_walk _ w) Tryd.call150) rfl (by intro w m h; exact (w_impl_calling_walk (F := allB [cellCh b15 [(.slice a89 l90 q91), v188, (.int .i64 t25)] 130, ownCh elGPlace 153 (.slice a89 l90 q91) (xs18.set (t95).toNat (GPlace.mk e96.xChain t107)), ownCh elGVisit 157 v188 xs187] w) (c_0 := x199) (w_1_stack := (xs18.set (t95).toNat (GPlace.mk e96.xChain t107))) (w_1_visits := xs187) (w_1_decision := t25) allB_ok m.given h).mono (fun _ _ k => ret_free (fun r u => (fr_cons free_cell (fr_cons (free_own flelGPlace) (fr_cons (free_own flelGVisit) fr_nil)))) k)) ?_); rintro r203 v204
              refine c_nil ?_
              refine b_norm ?_
              exact l_join (r203, xs187, t25) (fun a w hE hm => ⟨v204, v188, hE.sub ⟨rfl, rfl, rfl, trivial⟩, (hm.pick [0, 3, 4, 5, 1, 2] rfl)⟩)
            · dsimp only [IAction.casesW]
              refine pk [0, 3, 4, 1, 2, 5] rfl ?_
              refine stw (o_callX (M0 := [cellCh b15 [(.slice a89 l90 q91), v188, (.int .i64 t25)] 130, ownCh elGPlace 153 (.slice a89 l90 q91) (xs18.set (t95).toNat (GPlace.mk e96.xChain t107)), ownCh elGVisit 157 v188 xs187]) rfl (runs_inv rfl rfl (fun w => meth182_walk _ w) Tryd.call153) rfl (by intro w m h; exact (w_impl_returning_walk (F := allB [cellCh b15 [(.slice a89 l90 q91), v188, (.int .i64 t25)] 130, ownCh elGPlace 153 (.slice a89 l90 q91) (xs18.set (t95).toNat (GPlace.mk e96.xChain t107)), ownCh elGVisit 157 v188 xs187] w) (a_0 := (GReturning.mk )) (w_1_stack := (xs18.set (t95).toNat (GPlace.mk e96.xChain t107))) (w_1_visits := xs187) (w_1_decision := t25) allB_ok m.given h).mono (fun _ _ k => ret_free (fun r u => (fr_cons free_cell (fr_cons (free_own flelGPlace) (fr_cons (free_own flelGVisit) fr_nil)))) k)) ?_); rintro r206 v207
              refine c_nil ?_
              refine b_norm ?_
              exact l_join (r206, xs187, t25) (fun a w hE hm => ⟨v207, v188, hE.sub ⟨rfl, rfl, rfl, trivial⟩, (hm.pick [0, 3, 4, 5, 1, 2] rfl)⟩)
            · dsimp only [IAction.casesW]
              refine pk [0, 3, 4, 1, 2, 5] rfl ?_
              refine stw (o_callX (M0 := [cellCh b15 [(.slice a89 l90 q91), v188, (.int .i64 t25)] 130, ownCh elGPlace 153 (.slice a89 l90 q91) (xs18.set (t95).toNat (GPlace.mk e96.xChain t107)), ownCh elGVisit 157 v188 xs187]) rfl (runs_inv rfl rfl (fun w => meth183_walk _ w) Tryd.call156) rfl (by intro w m h; exact (w_impl_passing_walk (F := allB [cellCh b15 [(.slice a89 l90 q91), v188, (.int .i64 t25)] 130, ownCh elGPlace 153 (.slice a89 l90 q91) (xs18.set (t95).toNat (GPlace.mk e96.xChain t107)), ownCh elGVisit 157 v188 xs187] w) (a_0 := (GPassing.mk )) (a_1_stack := (xs18.set (t95).toNat (GPlace.mk e96.xChain t107))) (a_1_visits := xs187) (a_1_decision := t25) allB_ok m.given h).mono (fun _ _ k => ret_free (fun r u => (fr_cons free_cell (fr_cons (free_own flelGPlace) (fr_cons (free_own flelGVisit) fr_nil)))) k)) ?_); rintro _ _
              refine c_nil ?_
              refine b_norm ?_
              exact l_join ((xs18.set (t95).toNat (GPlace.mk e96.xChain t107)), xs187, t25) (fun a w hE hm => ⟨(.slice a89 l90 q91), v188, hE.sub ⟨rfl, rfl, rfl, trivial⟩, (hm.pick [0, 3, 4, 5, 1, 2] rfl)⟩)
    · refine c_exit ?_
      refine l_exit ?_
      refine l_exit ?_
      refine b_exit ?_
      refine l_then ?_
      refine c_seq ?_
      refine c_region ?_
      refine o_mv st rfl rfl ?_
      refine o_as st rfl rfl ?_
      refine c_nil ?_
      refine l_then ?_
      refine c_ret ?_
      exact l_end1 Tryd.results90 (xs18, xs22, t25) (b15, v17, v21) (rv_t rfl) (fun w m => NewCh.ofB m [0, 3, 4] rfl)

set_option maxRecDepth 100000 in
set_option maxHeartbeats 8000000 in
theorem w_impl_judgeValid {w0 : World} {F : Nat → Prop} {v1 : Value} {s_0 : GRuleset} {p_1 : GPacket} {κ : Bool → Prop} (hF : ∀ b, F b → b < w0.heap.size ∧ ¬ feet [] b) (hv1 : Sl (elSl elGRule) F w0 v1 s_0.xChains) (h : L_impl_judgeValid s_0 p_1 κ) :
    Calls Tryd.prog 54 #[(.agg #[v1, (.bool s_0.xAccept)]), (.agg #[(.int .i64 p_1.xFrom), (.int .i64 p_1.xTo), (.int .i64 p_1.xPort), (.int .i64 p_1.xProto)])] w0 (Ret [] F w0 κ (fun (r : Bool) (u : Unit) => (.bool r)) (fun (r : Bool) (u : Unit) => [])) := by
  refine enterS (args := [(.agg #[v1, (.bool s_0.xAccept)]), (.agg #[(.int .i64 p_1.xFrom), (.int .i64 p_1.xTo), (.int .i64 p_1.xPort), (.int .i64 p_1.xProto)])]) [] hF (Given.nil _ _) Tryd.func54 rfl Tryd.ntmps54 rfl h ?_
  clear h hF
  refine c_seq ?_
  refine c_region ?_
  obtain ⟨a3, l4, q5, hs_⟩ := sl_val hv1; subst hs_
  refine stw (o_box rfl rfl [(.slice a3 l4 q5), (.bool s_0.xAccept)] rfl ?_); intro b6
  refine stw (o_box rfl rfl [(.int .i64 p_1.xFrom), (.int .i64 p_1.xTo), (.int .i64 p_1.xPort), (.int .i64 p_1.xProto)] rfl ?_); intro b8
  refine o_as st rfl rfl ?_
  refine c_nil ?_
  refine l_then ?_
  refine c_seq ?_
  refine c_seq ?_
  refine c_region ?_
  refine o_ldc st (v := (.agg #[(.slice a3 l4 q5), (.bool s_0.xAccept)])) 1 rfl rfl rfl ty25 rfl ?_
  refine o_ldc st (v := (.agg #[(.int .i64 p_1.xFrom), (.int .i64 p_1.xTo), (.int .i64 p_1.xPort), (.int .i64 p_1.xProto)])) 0 rfl rfl rfl ty40 rfl ?_
  refine stw (o_callP (vs := [(.agg #[(.slice a3 l4 q5), (.bool s_0.xAccept)]), (.agg #[(.int .i64 p_1.xFrom), (.int .i64 p_1.xTo), (.int .i64 p_1.xPort), (.int .i64 p_1.xProto)])]) Tryd.call90 rfl rfl (by intro w m h; exact (w_impl_walkThrough (F := allB [] w) (s_0 := s_0) (p_1 := p_1) allB_ok (m.rd0 2 rfl (reads_snap hv1)) h).mono (fun _ _ k => ret_free (fun r u => (fr_cons free_cell (fr_cons (free_own flelGPlace) (fr_cons (free_own flelGVisit) fr_nil)))) k)) ?_); rintro ⟨r12, r15, r18⟩ ⟨b10, v13, v16⟩
  refine o_nilc st rfl rfl ?_
  refine o_fad st rfl rfl fld130_2 rfl ?_
  refine o_ldc st (v := (.int .i64 r18)) 0 rfl rfl rfl ty3 rfl ?_
  refine c_nil ?_
  refine l_then ?_
  refine c_block ?_
  refine c_seq ?_
  refine c_region ?_
  refine o_eql st und3 rfl rfl rfl ?_
  refine o_as st rfl rfl ?_
  refine c_nil ?_
  refine l_then ?_
  refine c_cond rfl ?_ ?_
  · refine c_seq ?_
    refine c_region ?_
    refine o_as st rfl rfl ?_
    refine c_nil ?_
    refine l_then ?_
    refine c_ret ?_
    refine b_ret ?_
    refine l_ret ?_
    exact l_end1 Tryd.results54 true () (rv_t rfl) (fun _ _ => NewCh.nil _ _ _ _)
  · refine c_seq ?_
    refine c_region ?_
    refine o_eql st und3 rfl rfl rfl ?_
    refine o_as st rfl rfl ?_
    refine c_nil ?_
    refine l_then ?_
    refine c_cond rfl ?_ ?_
    · refine c_seq ?_
      refine c_region ?_
      refine o_as st rfl rfl ?_
      refine c_nil ?_
      refine l_then ?_
      refine c_ret ?_
      refine b_ret ?_
      refine l_ret ?_
      exact l_end1 Tryd.results54 false () (rv_t rfl) (fun _ _ => NewCh.nil _ _ _ _)
    · refine c_skip ?_
      refine b_norm ?_
      refine l_then ?_
      refine c_seq ?_
      refine c_region ?_
      refine o_fad st rfl rfl fld25_1 rfl ?_
      refine o_ldc st (v := (.bool s_0.xAccept)) 4 rfl rfl rfl ty4 rfl ?_
      refine o_as st rfl rfl ?_
      refine c_nil ?_
      refine l_then ?_
      refine c_ret ?_
      exact l_end1 Tryd.results54 s_0.xAccept () (rv_t rfl) (fun _ _ => NewCh.nil _ _ _ _)

set_option maxRecDepth 100000 in
set_option maxHeartbeats 8000000 in
theorem w_spec_TestValid {w0 : World} {F : Nat → Prop} {t_0 : GTest} {κ : Bool → Prop} (hF : ∀ b, F b → b < w0.heap.size ∧ ¬ feet [] b) (h : L_spec_TestValid t_0 κ) :
    Calls Tryd.prog 112 #[(.agg #[(.int .i64 t_0.xField), (.int .i64 t_0.xLo), (.int .i64 t_0.xHi), (.bool t_0.xNot)])] w0 (Ret [] F w0 κ (fun (r : Bool) (u : Unit) => (.bool r)) (fun (r : Bool) (u : Unit) => [])) := by
  refine enter0 (args := [(.agg #[(.int .i64 t_0.xField), (.int .i64 t_0.xLo), (.int .i64 t_0.xHi), (.bool t_0.xNot)])]) [] hF (Given.nil _ _) Tryd.func112 rfl Tryd.ntmps112 rfl h ?_
  clear h hF
  refine c_seq ?_
  refine c_region ?_
  refine stw (o_box rfl rfl [(.int .i64 t_0.xField), (.int .i64 t_0.xLo), (.int .i64 t_0.xHi), (.bool t_0.xNot)] rfl ?_); intro b1
  refine o_as st rfl rfl ?_
  refine c_nil ?_
  refine l_then ?_
  refine c_join (σ := Bool) (fun (t66 : Bool) (a : Act) (w : World) => Has 21 [(2, (.bool t66))] a ∧ Mem (gB F [] w0) (feet []) w0 [] w) ?_ ?_
  · intro k67
    refine c_draw mixed 19 rfl [cellCh b1 [(.int .i64 t_0.xField), (.int .i64 t_0.xLo), (.int .i64 t_0.xHi), (.bool t_0.xNot)] 173] ?_
    refine o_fad (dt 0 (fun _ m => m)) rfl rfl fld173_0 rfl ?_
    refine o_ldc (dt 1 (fun _ m => m)) (v := (.int .i64 t_0.xField)) 0 rfl rfl rfl ty3 rfl ?_
    refine d_one (i := 2) rfl (by kernel_rfl) (o_callP (vs := [(.int .i64 t_0.xField), (.int .i64 0), (.int .i64 3)]) Tryd.call58 rfl rfl (by intro w m h; exact (w_spec_l1In (F := allB [] w) (n_0 := t_0.xField) (lo_1 := 0) (hi_2 := 3) allB_ok h).mono (fun _ _ k => ret_free (fun r u => fr_nil) k)) ?_); rintro r3 _
    refine d_and (fun _ m => m) ?_
    refine o_mv (dt 3 (fun _ m => m)) rfl rfl ?_
    refine st_sp (dj := 6) rfl ?_ ?_
    · refine o_fad (dtg 4 (fun _ m => m)) rfl rfl fld173_1 rfl ?_
      refine o_ldc (dtg 5 (fun _ m => m)) (v := (.int .i64 t_0.xLo)) 0 rfl rfl rfl ty3 rfl ?_
      refine o_fad (dtg 6 (fun _ m => m)) rfl rfl fld173_2 rfl ?_
      refine o_ldc (dtg 7 (fun _ m => m)) (v := (.int .i64 t_0.xHi)) 0 rfl rfl rfl ty3 rfl ?_
      refine d_oneg (i := 8) rfl rfl rfl (by kernel_rfl) (o_callP (vs := [(.int .i64 t_0.xLo), (.int .i64 0), (.int .i64 t_0.xHi)]) Tryd.call58 rfl rfl (by intro w m h; exact (w_spec_l1In (F := allB [] w) (n_0 := t_0.xLo) (lo_1 := 0) (hi_2 := t_0.xHi) allB_ok h).mono (fun _ _ k => ret_free (fun r u => fr_nil) k)) ?_); rintro r4 _
      refine d_and (fun _ m => m) ?_
      refine o_pickT (dt 9 (fun _ m => m)) rfl rfl rfl ?_
      refine o_mv (dt 10 (fun _ m => m)) rfl rfl ?_
      refine st_sp (dj := 13) rfl ?_ ?_
      · refine o_fad (dtg 11 (fun _ m => m)) rfl rfl fld173_2 rfl ?_
        refine o_ldc (dtg 12 (fun _ m => m)) (v := (.int .i64 t_0.xHi)) 0 rfl rfl rfl ty3 rfl ?_
        refine o_fad (dtg 13 (fun _ m => m)) rfl rfl fld173_0 rfl ?_
        refine o_ldc (dtg 14 (fun _ m => m)) (v := (.int .i64 t_0.xField)) 0 rfl rfl rfl ty3 rfl ?_
        refine d_oneg (i := 15) rfl rfl rfl (by kernel_rfl) (o_callP (vs := [(.int .i64 t_0.xField)]) Tryd.call113 rfl rfl (by intro w m h; exact (w_spec_FieldTop (F := allB [] w) (n_0 := t_0.xField) allB_ok h).mono (fun _ _ k => ret_free (fun r u => fr_nil) k)) ?_); rintro r5 _
        refine d_and (fun _ m => m) ?_
        refine o_leq (dtg 16 (fun _ m => m)) rfl rfl rfl ?_
        refine o_pickT (dt 17 (fun _ m => m)) rfl rfl rfl ?_
        refine o_as (dt 18 (fun _ m => m)) rfl rfl ?_
        refine d_done (by kernel_rfl) ?_
        exact l_join (decide (t_0.xHi ≤ r5)) (fun a w hE hm => ⟨hE.sub ⟨rfl, trivial⟩, (hm.pick [] rfl)⟩)
      · refine dsk 11 (fun _ m => m) rfl (by kernel_rfl) rfl rfl rfl rfl ?_
        refine dsk 12 (fun _ m => m) rfl (by kernel_rfl) rfl rfl rfl rfl ?_
        refine dsk 13 (fun _ m => m) rfl (by kernel_rfl) rfl rfl rfl rfl ?_
        refine dsk 14 (fun _ m => m) rfl (by kernel_rfl) rfl rfl rfl rfl ?_
        refine dsk 15 (fun _ m => m) rfl (by kernel_rfl) rfl rfl rfl rfl ?_
        refine dsk 16 (fun _ m => m) rfl (by kernel_rfl) rfl rfl rfl rfl ?_
        refine o_pickF (dt 17 (fun _ m => m)) rfl rfl rfl ?_
        refine o_as (dt 18 (fun _ m => m)) rfl rfl ?_
        refine d_done (by kernel_rfl) ?_
        exact l_join false (fun a w hE hm => ⟨hE.sub ⟨rfl, trivial⟩, (hm.pick [] rfl)⟩)
    · refine dsk 4 (fun _ m => m) rfl (by kernel_rfl) rfl rfl rfl rfl ?_
      refine dsk 5 (fun _ m => m) rfl (by kernel_rfl) rfl rfl rfl rfl ?_
      refine dsk 6 (fun _ m => m) rfl (by kernel_rfl) rfl rfl rfl rfl ?_
      refine dsk 7 (fun _ m => m) rfl (by kernel_rfl) rfl rfl rfl rfl ?_
      refine dsk 8 (fun _ m => m) rfl (by kernel_rfl) rfl rfl rfl rfl ?_
      refine o_pickF (dt 9 (fun _ m => m)) rfl rfl rfl ?_
      refine o_mv (dt 10 (fun _ m => m)) rfl rfl ?_
      refine dsk 11 (fun _ m => m) rfl (by kernel_rfl) rfl rfl rfl rfl ?_
      refine dsk 12 (fun _ m => m) rfl (by kernel_rfl) rfl rfl rfl rfl ?_
      refine dsk 13 (fun _ m => m) rfl (by kernel_rfl) rfl rfl rfl rfl ?_
      refine dsk 14 (fun _ m => m) rfl (by kernel_rfl) rfl rfl rfl rfl ?_
      refine dsk 15 (fun _ m => m) rfl (by kernel_rfl) rfl rfl rfl rfl ?_
      refine dsk 16 (fun _ m => m) rfl (by kernel_rfl) rfl rfl rfl rfl ?_
      refine o_pickF (dt 17 (fun _ m => m)) rfl rfl rfl ?_
      refine o_as (dt 18 (fun _ m => m)) rfl rfl ?_
      refine d_done (by kernel_rfl) ?_
      exact l_join false (fun a w hE hm => ⟨hE.sub ⟨rfl, trivial⟩, (hm.pick [] rfl)⟩)
  · rintro t66 a w ⟨hE, hm⟩ h
    refine nx_of hE hm h ?_
    clear hE hm h
    refine c_ret ?_
    exact l_end1 Tryd.results112 t66 () (rv_t rfl) (fun _ _ => NewCh.nil _ _ _ _)

set_option maxRecDepth 100000 in
set_option maxHeartbeats 8000000 in
theorem w_spec_TestsValid {w0 : World} {F : Nat → Prop} {v1 : Value} {list_0 : (List GTest)} {κ : Bool → Prop} (hF : ∀ b, F b → b < w0.heap.size ∧ ¬ feet [] b) (hv1 : Sl elGTest F w0 v1 list_0) (h : L_spec_TestsValid list_0 κ) :
    Calls Tryd.prog 114 #[v1] w0 (Ret [] F w0 κ (fun (r : Bool) (u : Unit) => (.bool r)) (fun (r : Bool) (u : Unit) => [])) := by
  refine enterS (args := [v1]) [] hF (Given.nil _ _) Tryd.func114 rfl Tryd.ntmps114 rfl h ?_
  clear h hF
  refine c_seq ?_
  refine c_region ?_
  refine o_as st rfl rfl ?_
  refine c_nil ?_
  refine l_then ?_
  refine c_seq ?_
  refine c_seq ?_
  refine c_region ?_
  refine o_as st rfl rfl ?_
  refine c_nil ?_
  refine l_then ?_
  refine c_block ?_
  refine c_loop (σ := Int) (fun (t3 : Int) (a : Act) (w : World) => Has 19 [(0, v1), (3, (.int .i64 t3))] a ∧ Mem (gB F [] w0) (feet []) w0 [snapCh w0 F] w) (fun a w hE hm => ⟨hE.sub ⟨rfl, rfl, trivial⟩, (hm.pick [0] rfl)⟩) ?_
  rintro nx4 t3 a w ⟨hE, hm⟩ h
  refine nx_of hE hm h ?_
  clear hE hm h
  refine c_seq ?_
  refine c_seq ?_
  refine c_region ?_
  refine o_mv st rfl rfl ?_
  refine o_mv st rfl rfl ?_
  refine o_len st el102 0 rfl (reads_snap hv1) rfl rfl ?_
  refine o_lss st rfl rfl rfl ?_
  refine c_nil ?_
  refine l_then ?_
  refine c_cond rfl ?_ ?_
  · refine c_skip ?_
    refine l_then ?_
    refine c_seq ?_
    refine c_block ?_
    refine c_seq ?_
    refine c_region ?_
    refine o_mv st rfl rfl ?_
    refine o_mv st rfl rfl ?_
    refine o_idx st 0 rfl (reads_snap hv1) rfl rfl rfl el102 ?_; intro e5 h6
    refine o_lds st (enc := encGTest) (u := (.agg #[(.int .i64 e5.xField), (.int .i64 e5.xLo), (.int .i64 e5.xHi), (.bool e5.xNot)])) 0 rfl (reads_snap hv1) flelGTest rfl h6 rfl rfl ty173 rfl ?_
    refine stw (o_callP (vs := [(.agg #[(.int .i64 e5.xField), (.int .i64 e5.xLo), (.int .i64 e5.xHi), (.bool e5.xNot)])]) Tryd.call112 rfl rfl (by intro w m h; exact (w_spec_TestValid (F := allB [] w) (t_0 := e5) allB_ok h).mono (fun _ _ k => ret_free (fun r u => fr_nil) k)) ?_); rintro r7 _
    refine o_not st rfl rfl ?_
    refine c_nil ?_
    refine l_then ?_
    refine c_cond rfl ?_ ?_
    · refine c_seq ?_
      refine c_region ?_
      refine o_as st rfl rfl ?_
      refine c_nil ?_
      refine l_then ?_
      refine c_ret ?_
      refine b_ret ?_
      refine l_ret ?_
      refine l_ret ?_
      refine b_ret ?_
      refine l_ret ?_
      exact l_end1 Tryd.results114 false () (rv_t rfl) (fun _ _ => NewCh.nil _ _ _ _)
    · refine c_skip ?_
      refine b_norm ?_
      refine l_then ?_
      refine c_region ?_
      refine o_mv st rfl rfl ?_
      refine o_add st rfl rfl rfl ?_; intro t8
      refine o_as st rfl rfl ?_
      refine c_nil ?_
      exact l_join t8 (fun a w hE hm => ⟨hE.sub ⟨rfl, rfl, trivial⟩, (hm.pick [0] rfl)⟩)
  · refine c_exit ?_
    refine l_exit ?_
    refine l_exit ?_
    refine b_exit ?_
    refine l_then ?_
    refine c_seq ?_
    refine c_region ?_
    refine o_mv st rfl rfl ?_
    refine o_len st el102 0 rfl (reads_snap hv1) rfl rfl ?_
    refine o_leq st rfl rfl rfl ?_
    refine o_as st rfl rfl ?_
    refine c_nil ?_
    refine l_then ?_
    refine c_ret ?_
    exact l_end1 Tryd.results114 (decide ((list_0.length : Int) ≤ 6)) () (rv_t rfl) (fun _ _ => NewCh.nil _ _ _ _)

set_option maxRecDepth 100000 in
set_option maxHeartbeats 8000000 in
theorem w_spec_RuleValid {w0 : World} {F : Nat → Prop} {v1 : Value} {r_0 : GRule} {κ : Bool → Prop} (hF : ∀ b, F b → b < w0.heap.size ∧ ¬ feet [] b) (hv1 : Sl elGTest F w0 v1 r_0.xTests) (h : L_spec_RuleValid r_0 κ) :
    Calls Tryd.prog 99 #[(.agg #[v1, (.int .i64 r_0.xAction), (.int .i64 r_0.xChain)])] w0 (Ret [] F w0 κ (fun (r : Bool) (u : Unit) => (.bool r)) (fun (r : Bool) (u : Unit) => [])) := by
  refine enterS (args := [(.agg #[v1, (.int .i64 r_0.xAction), (.int .i64 r_0.xChain)])]) [] hF (Given.nil _ _) Tryd.func99 rfl Tryd.ntmps99 rfl h ?_
  clear h hF
  refine c_seq ?_
  refine c_region ?_
  obtain ⟨a3, l4, q5, hs_⟩ := sl_val hv1; subst hs_
  refine stw (o_box rfl rfl [(.slice a3 l4 q5), (.int .i64 r_0.xAction), (.int .i64 r_0.xChain)] rfl ?_); intro b6
  refine o_as st rfl rfl ?_
  refine c_nil ?_
  refine l_then ?_
  refine c_join (σ := Bool) (fun (t71 : Bool) (a : Act) (w : World) => Has 31 [(2, (.bool t71))] a ∧ Mem (gB F [] w0) (feet []) w0 [] w) ?_ ?_
  · intro k72
    refine c_region ?_
    refine o_fad st rfl rfl fld104_0 rfl ?_
    refine o_ldc st (v := (.slice a3 l4 q5)) 0 rfl rfl rfl ty102 rfl ?_
    refine stw (o_callP (vs := [(.slice a3 l4 q5)]) Tryd.call114 rfl rfl (by intro w m h; exact (w_spec_TestsValid (F := allB [] w) (list_0 := r_0.xTests) allB_ok (m.rd0 1 rfl (reads_snap hv1)) h).mono (fun _ _ k => ret_free (fun r u => fr_nil) k)) ?_); rintro r8 _
    refine o_mv st rfl rfl ?_
    refine st_sp (dj := 6) rfl ?_ ?_
    · refine o_fad (st_g rfl rfl) rfl rfl fld104_1 rfl ?_
      refine o_ldc (st_g rfl rfl) (v := (.int .i64 r_0.xAction)) 0 rfl rfl rfl ty3 rfl ?_
      refine st_gw rfl rfl (o_callP (vs := [(.int .i64 r_0.xAction), (.int .i64 1), (.int .i64 5)]) Tryd.call58 rfl rfl (by intro w m h; exact (w_spec_l1In (F := allB [] w) (n_0 := r_0.xAction) (lo_1 := 1) (hi_2 := 5) allB_ok h).mono (fun _ _ k => ret_free (fun r u => fr_nil) k)) ?_); rintro r9 _
      refine o_pickT st rfl rfl rfl ?_
      refine o_mv st rfl rfl ?_
      refine st_sp (dj := 11) rfl ?_ ?_
      · refine o_fad (st_g rfl rfl) rfl rfl fld104_1 rfl ?_
        refine o_ldc (st_g rfl rfl) (v := (.int .i64 r_0.xAction)) 0 rfl rfl rfl ty3 rfl ?_
        refine o_eql (st_g rfl rfl) und3 rfl rfl rfl ?_
        refine o_mv (st_g rfl rfl) rfl rfl ?_
        refine st_sp (dj := 15) rfl ?_ ?_
        · refine o_fad (st_g rfl rfl) rfl rfl fld104_2 rfl ?_
          refine o_ldc (st_g rfl rfl) (v := (.int .i64 r_0.xChain)) 0 rfl rfl rfl ty3 rfl ?_
          refine st_gw rfl rfl (o_callP (vs := [(.int .i64 r_0.xChain), (.int .i64 0), (.int .i64 4)]) Tryd.call58 rfl rfl (by intro w m h; exact (w_spec_l1In (F := allB [] w) (n_0 := r_0.xChain) (lo_1 := 0) (hi_2 := 4) allB_ok h).mono (fun _ _ k => ret_free (fun r u => fr_nil) k)) ?_); rintro r10 _
          refine o_pickT (st_g rfl rfl) rfl rfl rfl ?_
          refine o_mv (st_g rfl rfl) rfl rfl ?_
          refine st_sp (dj := 20) rfl ?_ ?_
          · refine st_s rfl rfl rfl rfl ?_
            refine st_s rfl rfl rfl rfl ?_
            refine st_s rfl rfl rfl rfl ?_
            refine st_s rfl rfl rfl rfl ?_
            refine st_s rfl rfl rfl rfl ?_
            refine st_s rfl rfl rfl rfl ?_
            refine st_s rfl rfl rfl rfl ?_
            refine st_s rfl rfl rfl rfl ?_
            refine o_pickT (st_g rfl rfl) rfl rfl rfl ?_
            refine o_pickT st rfl rfl rfl ?_
            refine o_as st rfl rfl ?_
            refine c_nil ?_
            exact l_join true (fun a w hE hm => ⟨hE.sub ⟨rfl, trivial⟩, (hm.pick [] rfl)⟩)
          · refine o_fad (st_g rfl rfl) rfl rfl fld104_1 rfl ?_
            refine o_ldc (st_g rfl rfl) (v := (.int .i64 r_0.xAction)) 0 rfl rfl rfl ty3 rfl ?_
            refine o_neq (st_g rfl rfl) und3 rfl rfl rfl ?_
            refine o_mv (st_g rfl rfl) rfl rfl ?_
            refine st_sp (dj := 24) rfl ?_ ?_
            · refine o_fad (st_g rfl rfl) rfl rfl fld104_2 rfl ?_
              refine o_ldc (st_g rfl rfl) (v := (.int .i64 r_0.xChain)) 0 rfl rfl rfl ty3 rfl ?_
              refine o_eql (st_g rfl rfl) und3 rfl rfl rfl ?_
              refine o_pickT (st_g rfl rfl) rfl rfl rfl ?_
              refine o_pickF (st_g rfl rfl) rfl rfl rfl ?_
              refine o_pickT st rfl rfl rfl ?_
              refine o_as st rfl rfl ?_
              refine c_nil ?_
              exact l_join (decide (r_0.xChain = 0)) (fun a w hE hm => ⟨hE.sub ⟨rfl, trivial⟩, (hm.pick [] rfl)⟩)
            · refine st_s rfl rfl rfl rfl ?_
              refine st_s rfl rfl rfl rfl ?_
              refine st_s rfl rfl rfl rfl ?_
              refine o_pickF (st_g rfl rfl) rfl rfl rfl ?_
              refine o_pickF (st_g rfl rfl) rfl rfl rfl ?_
              refine o_pickT st rfl rfl rfl ?_
              refine o_as st rfl rfl ?_
              refine c_nil ?_
              exact l_join false (fun a w hE hm => ⟨hE.sub ⟨rfl, trivial⟩, (hm.pick [] rfl)⟩)
        · refine st_s rfl rfl rfl rfl ?_
          refine st_s rfl rfl rfl rfl ?_
          refine st_s rfl rfl rfl rfl ?_
          refine o_pickF (st_g rfl rfl) rfl rfl rfl ?_
          refine o_mv (st_g rfl rfl) rfl rfl ?_
          refine o_fad (st_g rfl rfl) rfl rfl fld104_1 rfl ?_
          refine o_ldc (st_g rfl rfl) (v := (.int .i64 r_0.xAction)) 0 rfl rfl rfl ty3 rfl ?_
          refine o_neq (st_g rfl rfl) und3 rfl rfl rfl ?_
          refine o_mv (st_g rfl rfl) rfl rfl ?_
          refine st_sp (dj := 24) rfl ?_ ?_
          · refine o_fad (st_g rfl rfl) rfl rfl fld104_2 rfl ?_
            refine o_ldc (st_g rfl rfl) (v := (.int .i64 r_0.xChain)) 0 rfl rfl rfl ty3 rfl ?_
            refine o_eql (st_g rfl rfl) und3 rfl rfl rfl ?_
            refine o_pickT (st_g rfl rfl) rfl rfl rfl ?_
            refine o_pickF (st_g rfl rfl) rfl rfl rfl ?_
            refine o_pickT st rfl rfl rfl ?_
            refine o_as st rfl rfl ?_
            refine c_nil ?_
            exact l_join (decide (r_0.xChain = 0)) (fun a w hE hm => ⟨hE.sub ⟨rfl, trivial⟩, (hm.pick [] rfl)⟩)
          · refine st_s rfl rfl rfl rfl ?_
            refine st_s rfl rfl rfl rfl ?_
            refine st_s rfl rfl rfl rfl ?_
            refine o_pickF (st_g rfl rfl) rfl rfl rfl ?_
            refine o_pickF (st_g rfl rfl) rfl rfl rfl ?_
            refine o_pickT st rfl rfl rfl ?_
            refine o_as st rfl rfl ?_
            refine c_nil ?_
            exact l_join false (fun a w hE hm => ⟨hE.sub ⟨rfl, trivial⟩, (hm.pick [] rfl)⟩)
      · refine st_s rfl rfl rfl rfl ?_
        refine st_s rfl rfl rfl rfl ?_
        refine st_s rfl rfl rfl rfl ?_
        refine st_s rfl rfl rfl rfl ?_
        refine st_s rfl rfl rfl rfl ?_
        refine st_s rfl rfl rfl rfl ?_
        refine st_s rfl rfl rfl rfl ?_
        refine st_s rfl rfl rfl rfl ?_
        refine st_s rfl rfl rfl rfl ?_
        refine st_s rfl rfl rfl rfl ?_
        refine st_s rfl rfl rfl rfl ?_
        refine st_s rfl rfl rfl rfl ?_
        refine st_s rfl rfl rfl rfl ?_
        refine st_s rfl rfl rfl rfl ?_
        refine st_s rfl rfl rfl rfl ?_
        refine st_s rfl rfl rfl rfl ?_
        refine st_s rfl rfl rfl rfl ?_
        refine st_s rfl rfl rfl rfl ?_
        refine o_pickF st rfl rfl rfl ?_
        refine o_as st rfl rfl ?_
        refine c_nil ?_
        exact l_join false (fun a w hE hm => ⟨hE.sub ⟨rfl, trivial⟩, (hm.pick [] rfl)⟩)
    · refine st_s rfl rfl rfl rfl ?_
      refine st_s rfl rfl rfl rfl ?_
      refine st_s rfl rfl rfl rfl ?_
      refine o_pickF st rfl rfl rfl ?_
      refine o_mv st rfl rfl ?_
      refine st_s rfl rfl rfl rfl ?_
      refine st_s rfl rfl rfl rfl ?_
      refine st_s rfl rfl rfl rfl ?_
      refine st_s rfl rfl rfl rfl ?_
      refine st_s rfl rfl rfl rfl ?_
      refine st_s rfl rfl rfl rfl ?_
      refine st_s rfl rfl rfl rfl ?_
      refine st_s rfl rfl rfl rfl ?_
      refine st_s rfl rfl rfl rfl ?_
      refine st_s rfl rfl rfl rfl ?_
      refine st_s rfl rfl rfl rfl ?_
      refine st_s rfl rfl rfl rfl ?_
      refine st_s rfl rfl rfl rfl ?_
      refine st_s rfl rfl rfl rfl ?_
      refine st_s rfl rfl rfl rfl ?_
      refine st_s rfl rfl rfl rfl ?_
      refine st_s rfl rfl rfl rfl ?_
      refine st_s rfl rfl rfl rfl ?_
      refine o_pickF st rfl rfl rfl ?_
      refine o_as st rfl rfl ?_
      refine c_nil ?_
      exact l_join false (fun a w hE hm => ⟨hE.sub ⟨rfl, trivial⟩, (hm.pick [] rfl)⟩)
  · rintro t71 a w ⟨hE, hm⟩ h
    refine nx_of hE hm h ?_
    clear hE hm h
    refine c_ret ?_
    exact l_end1 Tryd.results99 t71 () (rv_t rfl) (fun _ _ => NewCh.nil _ _ _ _)

set_option maxRecDepth 100000 in
set_option maxHeartbeats 8000000 in
theorem w_spec_RulesValid {w0 : World} {F : Nat → Prop} {v1 : Value} {list_0 : (List GRule)} {κ : Bool → Prop} (hF : ∀ b, F b → b < w0.heap.size ∧ ¬ feet [] b) (hv1 : Sl elGRule F w0 v1 list_0) (h : L_spec_RulesValid list_0 κ) :
    Calls Tryd.prog 69 #[v1] w0 (Ret [] F w0 κ (fun (r : Bool) (u : Unit) => (.bool r)) (fun (r : Bool) (u : Unit) => [])) := by
  refine enterS (args := [v1]) [] hF (Given.nil _ _) Tryd.func69 rfl Tryd.ntmps69 rfl h ?_
  clear h hF
  refine c_seq ?_
  refine c_region ?_
  refine o_as st rfl rfl ?_
  refine c_nil ?_
  refine l_then ?_
  refine c_seq ?_
  refine c_seq ?_
  refine c_region ?_
  refine o_as st rfl rfl ?_
  refine c_nil ?_
  refine l_then ?_
  refine c_block ?_
  refine c_loop (σ := Int) (fun (t3 : Int) (a : Act) (w : World) => Has 19 [(0, v1), (3, (.int .i64 t3))] a ∧ Mem (gB F [] w0) (feet []) w0 [snapCh w0 F] w) (fun a w hE hm => ⟨hE.sub ⟨rfl, rfl, trivial⟩, (hm.pick [0] rfl)⟩) ?_
  rintro nx4 t3 a w ⟨hE, hm⟩ h
  refine nx_of hE hm h ?_
  clear hE hm h
  refine c_seq ?_
  refine c_seq ?_
  refine c_region ?_
  refine o_mv st rfl rfl ?_
  refine o_mv st rfl rfl ?_
  refine o_len st el101 0 rfl (reads_snap hv1) rfl rfl ?_
  refine o_lss st rfl rfl rfl ?_
  refine c_nil ?_
  refine l_then ?_
  refine c_cond rfl ?_ ?_
  · refine c_skip ?_
    refine l_then ?_
    refine c_seq ?_
    refine c_block ?_
    refine c_seq ?_
    refine c_region ?_
    refine o_mv st rfl rfl ?_
    refine o_mv st rfl rfl ?_
    refine o_idx st 0 rfl (reads_snap hv1) rfl rfl rfl el101 ?_; intro e5 h6
    obtain ⟨_, ⟨v8, rfl, sl9⟩, rw7⟩ := sl_open hv1 h6
    refine o_ldR st (u := (.agg #[v8, (.int .i64 e5.xAction), (.int .i64 e5.xChain)])) 0 rfl rw7 rfl rfl ty104 rfl ?_
    refine stw (o_callP (vs := [(.agg #[v8, (.int .i64 e5.xAction), (.int .i64 e5.xChain)])]) Tryd.call99 rfl rfl (by intro w m h; exact (w_spec_RuleValid (F := allB [] w) (r_0 := e5) allB_ok (m.rd0 0 rfl (reads_snap sl9)) h).mono (fun _ _ k => ret_free (fun r u => fr_nil) k)) ?_); rintro r11 _
    refine o_not st rfl rfl ?_
    refine c_nil ?_
    refine l_then ?_
    refine c_cond rfl ?_ ?_
    · refine c_seq ?_
      refine c_region ?_
      refine o_as st rfl rfl ?_
      refine c_nil ?_
      refine l_then ?_
      refine c_ret ?_
      refine b_ret ?_
      refine l_ret ?_
      refine l_ret ?_
      refine b_ret ?_
      refine l_ret ?_
      exact l_end1 Tryd.results69 false () (rv_t rfl) (fun _ _ => NewCh.nil _ _ _ _)
    · refine c_skip ?_
      refine b_norm ?_
      refine l_then ?_
      refine c_region ?_
      refine o_mv st rfl rfl ?_
      refine o_add st rfl rfl rfl ?_; intro t12
      refine o_as st rfl rfl ?_
      refine c_nil ?_
      exact l_join t12 (fun a w hE hm => ⟨hE.sub ⟨rfl, rfl, trivial⟩, (hm.pick [0] rfl)⟩)
  · refine c_exit ?_
    refine l_exit ?_
    refine l_exit ?_
    refine b_exit ?_
    refine l_then ?_
    refine c_seq ?_
    refine c_region ?_
    refine o_mv st rfl rfl ?_
    refine o_len st el101 0 rfl (reads_snap hv1) rfl rfl ?_
    refine o_leq st rfl rfl rfl ?_
    refine o_as st rfl rfl ?_
    refine c_nil ?_
    refine l_then ?_
    refine c_ret ?_
    exact l_end1 Tryd.results69 (decide ((list_0.length : Int) ≤ 8)) () (rv_t rfl) (fun _ _ => NewCh.nil _ _ _ _)

set_option maxRecDepth 100000 in
set_option maxHeartbeats 8000000 in
theorem w_spec_l8Order {w0 : World} {F : Nat → Prop} {v1 : Value} {s_0 : GRuleset} {κ : (List Int) → Prop} (hF : ∀ b, F b → b < w0.heap.size ∧ ¬ feet [] b) (hv1 : Sl (elSl elGRule) F w0 v1 s_0.xChains) (h : L_spec_l8Order s_0 κ) :
    Calls Tryd.prog 70 #[(.agg #[v1, (.bool s_0.xAccept)])] w0 (Ret [] F w0 κ (fun (r : (List Int)) (u : Value) => u) (fun (r : (List Int)) (u : Value) => [ownCh elInt 3 u r])) := by
  refine enterS (args := [(.agg #[v1, (.bool s_0.xAccept)])]) [] hF (Given.nil _ _) Tryd.func70 rfl Tryd.ntmps70 rfl h ?_
  clear h hF
  refine c_seq ?_
  refine c_region ?_
  obtain ⟨a3, l4, q5, hs_⟩ := sl_val hv1; subst hs_
  refine stw (o_box rfl rfl [(.slice a3 l4 q5), (.bool s_0.xAccept)] rfl ?_); intro b6
  refine stw (o_asn elInt 3 rfl rfl ?_)
  refine c_nil ?_
  refine l_then ?_
  refine c_seq ?_
  refine c_region ?_
  refine o_fad st rfl rfl fld25_0 rfl ?_
  refine o_ldc st (v := (.slice a3 l4 q5)) 1 rfl rfl rfl ty23 rfl ?_
  refine o_len st el23 2 rfl (reads_snap hv1) rfl rfl ?_
  refine stw (o_make (z := false) flelBool rfl rfl rfl el50 rfl zero4 rfl rfl ?_); intro v9 xs10
  refine o_as st rfl rfl ?_
  refine c_nil ?_
  refine l_then ?_
  refine c_seq ?_
  refine c_region ?_
  refine stw (o_bsl (enc := encInt) (qs := []) (cells := []) ([] : (List Int)) flelInt (by intro ρ h; simp only [List.map_toArray, List.map_cons, List.map_nil]) rfl el99 zero3 rfl rfl rfl rfl rfl rfl ?_); intro v12
  refine o_as st rfl rfl ?_
  refine c_nil ?_
  refine l_then ?_
  refine c_seq ?_
  refine c_seq ?_
  refine c_region ?_
  refine o_as st rfl rfl ?_
  refine c_nil ?_
  refine l_then ?_
  refine c_block ?_
  refine c_loop (σ := ((List Bool) × (List Int) × Int)) (fun ((xs14, xs17, t20) : ((List Bool) × (List Int) × Int)) (a : Act) (w : World) => ∃ (v16 : Value), Has 74 [(1, (.pointer (some ⟨b6, 0, none⟩))), (3, v9), (4, v16), (5, (.int .i64 t20))] a ∧ Mem (gB F [] w0) (feet []) w0 [ownCh elBool 4 v9 xs14, cellCh b6 [(.slice a3 l4 q5), (.bool s_0.xAccept)] 25, snapCh w0 F, ownCh elInt 3 v16 xs17] w) (fun a w hE hm => ⟨v12, hE.sub ⟨rfl, rfl, rfl, rfl, trivial⟩, (hm.pick [1, 3, 4, 0] rfl)⟩) ?_
  rintro nx21 ⟨xs14, xs17, t20⟩ a w ⟨v16, hE, hm⟩ h
  refine nx_of hE hm h ?_
  clear hE hm h
  refine c_seq ?_
  refine c_seq ?_
  refine c_region ?_
  refine o_mv st rfl rfl ?_
  refine o_fad st rfl rfl fld25_0 rfl ?_
  refine o_ldc st (v := (.slice a3 l4 q5)) 1 rfl rfl rfl ty23 rfl ?_
  refine o_len st el23 2 rfl (reads_snap hv1) rfl rfl ?_
  refine o_lss st rfl rfl rfl ?_
  refine c_nil ?_
  refine l_then ?_
  refine c_cond rfl ?_ ?_
  · refine c_skip ?_
    refine l_then ?_
    refine c_seq ?_
    refine c_block ?_
    refine c_seq ?_
    refine c_region ?_
    refine o_as st rfl rfl ?_
    refine c_nil ?_
    refine l_then ?_
    refine c_block ?_
    refine c_loop (σ := ((List Bool) × (List Int) × Int)) (fun ((xs22, xs25, t28) : ((List Bool) × (List Int) × Int)) (a : Act) (w : World) => ∃ (v24 : Value), Has 74 [(1, (.pointer (some ⟨b6, 0, none⟩))), (3, v9), (4, v24), (5, (.int .i64 t20)), (6, (.int .i64 t28))] a ∧ Mem (gB F [] w0) (feet []) w0 [ownCh elBool 4 v9 xs22, cellCh b6 [(.slice a3 l4 q5), (.bool s_0.xAccept)] 25, snapCh w0 F, ownCh elInt 3 v24 xs25] w) (fun a w hE hm => ⟨v16, hE.sub ⟨rfl, rfl, rfl, rfl, rfl, trivial⟩, (hm.pick [0, 1, 2, 3] rfl)⟩) ?_
    rintro nx29 ⟨xs22, xs25, t28⟩ a w ⟨v24, hE, hm⟩ h
    refine nx_of hE hm h ?_
    clear hE hm h
    refine c_seq ?_
    refine c_seq ?_
    refine c_region ?_
    refine o_mv st rfl rfl ?_
    refine o_fad st rfl rfl fld25_0 rfl ?_
    refine o_ldc st (v := (.slice a3 l4 q5)) 1 rfl rfl rfl ty23 rfl ?_
    refine o_len st el23 2 rfl (reads_snap hv1) rfl rfl ?_
    refine o_lss st rfl rfl rfl ?_
    refine c_nil ?_
    refine l_then ?_
    refine c_cond rfl ?_ ?_
    · refine c_skip ?_
      refine l_then ?_
      refine c_join (σ := ((List Bool) × (List Int))) (fun ((xs190, xs192) : ((List Bool) × (List Int))) (a : Act) (w : World) => ∃ (v193 : Value), Has 74 [(1, (.pointer (some ⟨b6, 0, none⟩))), (3, v9), (4, v193), (5, (.int .i64 t20)), (6, (.int .i64 t28))] a ∧ Mem (gB F [] w0) (feet []) w0 [ownCh elBool 4 v9 xs190, cellCh b6 [(.slice a3 l4 q5), (.bool s_0.xAccept)] 25, ownCh elInt 3 v193 xs192, snapCh w0 F] w) ?_ ?_
      · intro k195
        refine c_block ?_
        refine c_seq ?_
        refine c_region ?_
        refine o_mv st rfl rfl ?_
        refine o_mv st rfl rfl ?_
        refine o_idx st 0 rfl reads_own rfl rfl rfl el50 ?_; intro e30 h31
        refine o_lds st (enc := encBool) (u := (.bool e30)) 0 rfl reads_own flelBool rfl h31 rfl rfl ty4 rfl ?_
        refine o_not st rfl rfl ?_
        refine o_as st rfl rfl ?_
        refine c_nil ?_
        refine l_then ?_
        refine c_seq ?_
        refine c_seq ?_
        refine c_region ?_
        refine o_as st rfl rfl ?_
        refine c_nil ?_
        refine l_then ?_
        refine c_block ?_
        refine c_loop (σ := (Bool × Int)) (fun ((t32, t33) : (Bool × Int)) (a : Act) (w : World) => Has 74 [(1, (.pointer (some ⟨b6, 0, none⟩))), (3, v9), (4, v24), (5, (.int .i64 t20)), (6, (.int .i64 t28)), (7, (.bool t32)), (8, (.int .i64 t33))] a ∧ Mem (gB F [] w0) (feet []) w0 [ownCh elBool 4 v9 xs22, cellCh b6 [(.slice a3 l4 q5), (.bool s_0.xAccept)] 25, ownCh elInt 3 v24 xs25, snapCh w0 F] w) (fun a w hE hm => ⟨hE.sub ⟨rfl, rfl, rfl, rfl, rfl, rfl, rfl, trivial⟩, (hm.pick [0, 1, 3, 2] rfl)⟩) ?_
        rintro nx34 ⟨t32, t33⟩ a w ⟨hE, hm⟩ h
        refine nx_of hE hm h ?_
        clear hE hm h
        refine c_seq ?_
        refine c_seq ?_
        refine c_region ?_
        refine o_mv st rfl rfl ?_
        refine o_fad st rfl rfl fld25_0 rfl ?_
        refine o_ldc st (v := (.slice a3 l4 q5)) 1 rfl rfl rfl ty23 rfl ?_
        refine o_mv st rfl rfl ?_
        refine o_idx st 3 rfl (reads_snap hv1) rfl rfl rfl el23 ?_; intro e35 h36
        obtain ⟨_, ⟨v38, rfl, sl39⟩, rw37⟩ := sl_open hv1 h36
        refine o_ldR st (u := v38) 3 rfl rw37 rfl rfl ty101 rfl ?_
        refine o_len st el101 3 rfl (reads_snap sl39) rfl rfl ?_
        refine o_lss st rfl rfl rfl ?_
        refine c_nil ?_
        refine l_then ?_
        refine c_cond rfl ?_ ?_
        · refine c_skip ?_
          refine l_then ?_
          refine c_join (σ := Bool) (fun (t120 : Bool) (a : Act) (w : World) => Has 74 [(1, (.pointer (some ⟨b6, 0, none⟩))), (3, v9), (4, v24), (5, (.int .i64 t20)), (6, (.int .i64 t28)), (7, (.bool t120)), (8, (.int .i64 t33))] a ∧ Mem (gB F [] w0) (feet []) w0 [ownCh elBool 4 v9 xs22, cellCh b6 [(.slice a3 l4 q5), (.bool s_0.xAccept)] 25, ownCh elInt 3 v24 xs25, snapCh w0 F] w) ?_ ?_
          · intro k121
            refine c_block ?_
            refine c_seq ?_
            refine c_region ?_
            refine o_fad st rfl rfl fld25_0 rfl ?_
            refine o_ldc st (v := (.slice a3 l4 q5)) 1 rfl rfl rfl ty23 rfl ?_
            refine o_mv st rfl rfl ?_
            refine o_idx st 3 rfl (reads_snap hv1) rfl rfl rfl el23 ?_; intro e41 h42
            obtain ⟨_, ⟨v44, rfl, sl45⟩, rw43⟩ := sl_open hv1 h42
            refine o_ldR st (u := v44) 3 rfl rw43 rfl rfl ty101 rfl ?_
            refine o_mv st rfl rfl ?_
            refine o_idx st 3 rfl (reads_snap sl45) rfl rfl rfl el101 ?_; intro e47 h48
            obtain ⟨_, ⟨v50, rfl, sl51⟩, rw49⟩ := sl_open sl45 h48
            refine o_ldR st (u := (.agg #[v50, (.int .i64 e47.xAction), (.int .i64 e47.xChain)])) 3 rfl rw49 rfl rfl ty104 rfl ?_
            refine stw (o_alloc rfl [(.slice none 0 0), (.int .i64 0), (.int .i64 0)] zero104 ?_); intro b53
            obtain ⟨a55, l56, q57, hs_⟩ := sl_val sl51; subst hs_
            refine stw (o_stc (cs' := [(.slice a55 l56 q57), (.int .i64 e47.xAction), (.int .i64 e47.xChain)]) 0 rfl rfl rfl ty104 rfl rfl rfl rfl ?_)
            refine c_nil ?_
            refine l_then ?_
            refine c_region ?_
            refine o_mv st rfl rfl ?_
            refine o_mv st rfl rfl ?_
            refine st_sp (dj := 53) rfl ?_ ?_
            · refine o_fad (st_g rfl rfl) rfl rfl fld104_1 rfl ?_
              refine o_ldc (st_g rfl rfl) (v := (.int .i64 e47.xAction)) 0 rfl rfl rfl ty3 rfl ?_
              refine o_neq (st_g rfl rfl) und3 rfl rfl rfl ?_
              refine o_mv (st_g rfl rfl) rfl rfl ?_
              refine st_sp (dj := 57) rfl ?_ ?_
              · refine st_s rfl rfl rfl rfl ?_
                refine st_s rfl rfl rfl rfl ?_
                refine st_s rfl rfl rfl rfl ?_
                refine st_s rfl rfl rfl rfl ?_
                refine st_s rfl rfl rfl rfl ?_
                refine o_pickT (st_g rfl rfl) rfl rfl rfl ?_
                refine o_pickT st rfl rfl rfl ?_
                refine o_as st rfl rfl ?_
                refine c_nil ?_
                refine b_norm ?_
                exact l_join true (fun a w hE hm => ⟨hE.sub ⟨rfl, rfl, rfl, rfl, rfl, rfl, rfl, trivial⟩, (hm.pick [1, 2, 3, 4] rfl)⟩)
              · refine o_mv (st_g rfl rfl) rfl rfl ?_
                refine o_fad (st_g rfl rfl) rfl rfl fld104_2 rfl ?_
                refine o_ldc (st_g rfl rfl) (v := (.int .i64 e47.xChain)) 0 rfl rfl rfl ty3 rfl ?_
                refine o_idx (st_g rfl rfl) 1 rfl reads_own rfl rfl rfl el50 ?_; intro e58 h59
                refine o_lds (st_g rfl rfl) (enc := encBool) (u := (.bool e58)) 1 rfl reads_own flelBool rfl h59 rfl rfl ty4 rfl ?_
                refine o_pickF (st_g rfl rfl) rfl rfl rfl ?_
                refine o_pickT st rfl rfl rfl ?_
                refine o_as st rfl rfl ?_
                refine c_nil ?_
                refine b_norm ?_
                exact l_join e58 (fun a w hE hm => ⟨hE.sub ⟨rfl, rfl, rfl, rfl, rfl, rfl, rfl, trivial⟩, (hm.pick [1, 2, 3, 4] rfl)⟩)
            · refine st_s rfl rfl rfl rfl ?_
              refine st_s rfl rfl rfl rfl ?_
              refine st_s rfl rfl rfl rfl ?_
              refine st_s rfl rfl rfl rfl ?_
              refine st_s rfl rfl rfl rfl ?_
              refine st_s rfl rfl rfl rfl ?_
              refine st_s rfl rfl rfl rfl ?_
              refine st_s rfl rfl rfl rfl ?_
              refine st_s rfl rfl rfl rfl ?_
              refine st_s rfl rfl rfl rfl ?_
              refine o_pickF st rfl rfl rfl ?_
              refine o_as st rfl rfl ?_
              refine c_nil ?_
              refine b_norm ?_
              exact l_join false (fun a w hE hm => ⟨hE.sub ⟨rfl, rfl, rfl, rfl, rfl, rfl, rfl, trivial⟩, (hm.pick [1, 2, 3, 4] rfl)⟩)
          · rintro t120 a w ⟨hE, hm⟩ h
            refine nx_of hE hm h ?_
            clear hE hm h
            refine c_region ?_
            refine o_mv st rfl rfl ?_
            refine o_add st rfl rfl rfl ?_; intro t122
            refine o_as st rfl rfl ?_
            refine c_nil ?_
            exact l_join (t120, t122) (fun a w hE hm => ⟨hE.sub ⟨rfl, rfl, rfl, rfl, rfl, rfl, rfl, trivial⟩, (hm.pick [0, 1, 2, 3] rfl)⟩)
        · refine c_exit ?_
          refine l_exit ?_
          refine l_exit ?_
          refine b_exit ?_
          refine l_then ?_
          refine c_seq ?_
          refine c_region ?_
          refine o_mv st rfl rfl ?_
          refine c_nil ?_
          refine l_then ?_
          refine c_cond rfl ?_ ?_
          · refine c_seq ?_
            refine c_region ?_
            refine o_mv st rfl rfl ?_
            refine o_mv st rfl rfl ?_
            refine o_idx st 0 rfl reads_own rfl rfl rfl el50 ?_; intro e123 h124
            refine stw (o_sts (enc := encBool) (y' := true) 0 rfl flelBool rfl h124 ty4 rfl rfl rfl rfl rfl rfl ?_)
            refine c_nil ?_
            refine l_then ?_
            refine c_region ?_
            refine o_mv st rfl rfl ?_
            refine o_mv st rfl rfl ?_
            refine stw (o_bsl (enc := encInt) (qs := [(0, (.int .i64 t28))]) (cells := [(.int .i64 t28)]) ([t28]) flelInt (by intro ρ h; simp only [List.map_toArray, List.map_cons, List.map_nil, h (.tmp 70) _ rfl]) rfl el99 zero3 rfl rfl rfl rfl rfl rfl ?_); intro v126
            refine stw (o_app 3 0 rfl rfl (src_flat flelInt reads_own) rfl rfl rfl el99 rfl zero3 rfl rfl ?_); intro v128
            refine o_as st rfl rfl ?_
            refine c_nil ?_
            refine b_norm ?_
            exact l_join ((xs22.set (t28).toNat true), (xs25 ++ ([t28]))) (fun a w hE hm => ⟨v128, hE.sub ⟨rfl, rfl, rfl, rfl, rfl, trivial⟩, (hm.pick [1, 2, 3, 4] rfl)⟩)
          · refine c_skip ?_
            refine b_norm ?_
            exact l_join (xs22, xs25) (fun a w hE hm => ⟨v24, hE.sub ⟨rfl, rfl, rfl, rfl, rfl, trivial⟩, (hm.pick [0, 1, 2, 3] rfl)⟩)
      · rintro ⟨xs190, xs192⟩ a w ⟨v193, hE, hm⟩ h
        refine nx_of hE hm h ?_
        clear hE hm h
        refine c_region ?_
        refine o_mv st rfl rfl ?_
        refine o_add st rfl rfl rfl ?_; intro t196
        refine o_as st rfl rfl ?_
        refine c_nil ?_
        exact l_join (xs190, xs192, t196) (fun a w hE hm => ⟨v193, hE.sub ⟨rfl, rfl, rfl, rfl, rfl, trivial⟩, (hm.pick [0, 1, 3, 2] rfl)⟩)
    · refine c_exit ?_
      refine l_exit ?_
      refine l_exit ?_
      refine b_exit ?_
      refine b_norm ?_
      refine l_then ?_
      refine c_region ?_
      refine o_mv st rfl rfl ?_
      refine o_add st rfl rfl rfl ?_; intro t197
      refine o_as st rfl rfl ?_
      refine c_nil ?_
      exact l_join (xs22, xs25, t197) (fun a w hE hm => ⟨v24, hE.sub ⟨rfl, rfl, rfl, rfl, trivial⟩, (hm.pick [0, 1, 2, 3] rfl)⟩)
  · refine c_exit ?_
    refine l_exit ?_
    refine l_exit ?_
    refine b_exit ?_
    refine l_then ?_
    refine c_seq ?_
    refine c_region ?_
    refine o_mv st rfl rfl ?_
    refine o_as st rfl rfl ?_
    refine c_nil ?_
    refine l_then ?_
    refine c_ret ?_
    exact l_end1 Tryd.results70 xs17 v16 (rv_t rfl) (fun w m => NewCh.ofB m [3] rfl)

set_option maxRecDepth 100000 in
set_option maxHeartbeats 8000000 in
theorem w_spec_RulesetValid {w0 : World} {F : Nat → Prop} {v1 : Value} {s_0 : GRuleset} {κ : Bool → Prop} (hF : ∀ b, F b → b < w0.heap.size ∧ ¬ feet [] b) (hv1 : Sl (elSl elGRule) F w0 v1 s_0.xChains) (h : L_spec_RulesetValid s_0 κ) :
    Calls Tryd.prog 22 #[(.agg #[v1, (.bool s_0.xAccept)])] w0 (Ret [] F w0 κ (fun (r : Bool) (u : Unit) => (.bool r)) (fun (r : Bool) (u : Unit) => [])) := by
  refine enterS (args := [(.agg #[v1, (.bool s_0.xAccept)])]) [] hF (Given.nil _ _) Tryd.func22 rfl Tryd.ntmps22 rfl h ?_
  clear h hF
  refine c_seq ?_
  refine c_region ?_
  obtain ⟨a3, l4, q5, hs_⟩ := sl_val hv1; subst hs_
  refine stw (o_box rfl rfl [(.slice a3 l4 q5), (.bool s_0.xAccept)] rfl ?_); intro b6
  refine o_as st rfl rfl ?_
  refine c_nil ?_
  refine l_then ?_
  refine c_seq ?_
  refine c_seq ?_
  refine c_region ?_
  refine o_as st rfl rfl ?_
  refine c_nil ?_
  refine l_then ?_
  refine c_block ?_
  refine c_loop (σ := Int) (fun (t8 : Int) (a : Act) (w : World) => Has 55 [(1, (.pointer (some ⟨b6, 0, none⟩))), (3, (.int .i64 t8))] a ∧ Mem (gB F [] w0) (feet []) w0 [cellCh b6 [(.slice a3 l4 q5), (.bool s_0.xAccept)] 25, snapCh w0 F] w) (fun a w hE hm => ⟨hE.sub ⟨rfl, rfl, trivial⟩, (hm.pick [0, 1] rfl)⟩) ?_
  rintro nx9 t8 a w ⟨hE, hm⟩ h
  refine nx_of hE hm h ?_
  clear hE hm h
  refine c_seq ?_
  refine c_seq ?_
  refine c_region ?_
  refine o_mv st rfl rfl ?_
  refine o_fad st rfl rfl fld25_0 rfl ?_
  refine o_ldc st (v := (.slice a3 l4 q5)) 0 rfl rfl rfl ty23 rfl ?_
  refine o_len st el23 1 rfl (reads_snap hv1) rfl rfl ?_
  refine o_lss st rfl rfl rfl ?_
  refine c_nil ?_
  refine l_then ?_
  refine c_cond rfl ?_ ?_
  · refine c_skip ?_
    refine l_then ?_
    refine c_seq ?_
    refine c_block ?_
    refine c_seq ?_
    refine c_seq ?_
    refine c_region ?_
    refine o_fad st rfl rfl fld25_0 rfl ?_
    refine o_ldc st (v := (.slice a3 l4 q5)) 0 rfl rfl rfl ty23 rfl ?_
    refine o_mv st rfl rfl ?_
    refine o_idx st 1 rfl (reads_snap hv1) rfl rfl rfl el23 ?_; intro e10 h11
    obtain ⟨_, ⟨v13, rfl, sl14⟩, rw12⟩ := sl_open hv1 h11
    refine o_ldR st (u := v13) 1 rfl rw12 rfl rfl ty101 rfl ?_
    refine stw (o_callP (vs := [v13]) Tryd.call69 rfl rfl (by intro w m h; exact (w_spec_RulesValid (F := allB [] w) (list_0 := e10) allB_ok (m.rd0 1 rfl (reads_snap sl14)) h).mono (fun _ _ k => ret_free (fun r u => fr_nil) k)) ?_); rintro r16 _
    refine o_not st rfl rfl ?_
    refine c_nil ?_
    refine l_then ?_
    refine c_cond rfl ?_ ?_
    · refine c_seq ?_
      refine c_region ?_
      refine o_as st rfl rfl ?_
      refine c_nil ?_
      refine l_then ?_
      refine c_ret ?_
      refine l_ret ?_
      refine b_ret ?_
      refine l_ret ?_
      refine l_ret ?_
      refine b_ret ?_
      refine l_ret ?_
      exact l_end1 Tryd.results22 false () (rv_t rfl) (fun _ _ => NewCh.nil _ _ _ _)
    · refine c_skip ?_
      refine l_then ?_
      refine c_seq ?_
      refine c_region ?_
      refine o_as st rfl rfl ?_
      refine c_nil ?_
      refine l_then ?_
      refine c_block ?_
      refine c_loop (σ := Int) (fun (t17 : Int) (a : Act) (w : World) => Has 55 [(1, (.pointer (some ⟨b6, 0, none⟩))), (3, (.int .i64 t8)), (4, (.int .i64 t17))] a ∧ Mem (gB F [] w0) (feet []) w0 [cellCh b6 [(.slice a3 l4 q5), (.bool s_0.xAccept)] 25, snapCh w0 F] w) (fun a w hE hm => ⟨hE.sub ⟨rfl, rfl, rfl, trivial⟩, (hm.pick [0, 1] rfl)⟩) ?_
      rintro nx18 t17 a w ⟨hE, hm⟩ h
      refine nx_of hE hm h ?_
      clear hE hm h
      refine c_seq ?_
      refine c_seq ?_
      refine c_region ?_
      refine o_mv st rfl rfl ?_
      refine o_fad st rfl rfl fld25_0 rfl ?_
      refine o_ldc st (v := (.slice a3 l4 q5)) 0 rfl rfl rfl ty23 rfl ?_
      refine o_mv st rfl rfl ?_
      refine o_idx st 1 rfl (reads_snap hv1) rfl rfl rfl el23 ?_; intro e19 h20
      obtain ⟨_, ⟨v22, rfl, sl23⟩, rw21⟩ := sl_open hv1 h20
      refine o_ldR st (u := v22) 1 rfl rw21 rfl rfl ty101 rfl ?_
      refine o_len st el101 1 rfl (reads_snap sl23) rfl rfl ?_
      refine o_lss st rfl rfl rfl ?_
      refine c_nil ?_
      refine l_then ?_
      refine c_cond rfl ?_ ?_
      · refine c_skip ?_
        refine l_then ?_
        refine c_seq ?_
        refine c_block ?_
        refine c_seq ?_
        refine c_draw mixed 13 rfl [cellCh b6 [(.slice a3 l4 q5), (.bool s_0.xAccept)] 25, snapCh w0 F] ?_
        refine o_fad (dt 0 (fun _ m => m)) rfl rfl fld25_0 rfl ?_
        refine o_ldc (dt 1 (fun _ m => m)) (v := (.slice a3 l4 q5)) 0 rfl rfl rfl ty23 rfl ?_
        refine o_mv (dt 2 (fun _ m => m)) rfl rfl ?_
        refine o_idx (dt 3 (fun _ m => m)) 1 rfl (reads_snap hv1) rfl rfl rfl el23 ?_; intro e25 h26
        obtain ⟨_, ⟨v28, rfl, sl29⟩, rw27⟩ := sl_open hv1 h26
        refine o_ldR (dt 4 (fun _ m => m)) (u := v28) 1 rfl rw27 rfl rfl ty101 rfl ?_
        refine o_mv (dt 5 (fun _ m => m)) rfl rfl ?_
        refine o_idx (dt 6 (fun _ m => m)) 1 rfl (reads_snap sl29) rfl rfl rfl el101 ?_; intro e31 h32
        refine o_fadS (dt 7 (fun _ m => m)) 1 rfl (reads_snap sl29) h32 rfl rfl fld104_2 rfl ?_
        refine o_ldP (dt 8 (fun _ m => m)) (u := (.int .i64 e31.xChain)) 1 rfl (reads_snap sl29) h32 rfl rfl rfl ty3 (fun F w cs h => by obtain ⟨u, rfl, _⟩ := h; rfl) ?_
        refine o_fad (dt 9 (fun _ m => m)) rfl rfl fld25_0 rfl ?_
        refine o_ldc (dt 10 (fun _ m => m)) (v := (.slice a3 l4 q5)) 0 rfl rfl rfl ty23 rfl ?_
        refine o_len (dt 11 (fun _ m => m)) el23 1 rfl (reads_snap hv1) rfl rfl ?_
        refine o_geq (dt 12 (fun _ m => m)) rfl rfl rfl ?_
        refine d_done (by kernel_rfl) ?_
        refine l_then ?_
        refine c_cond rfl ?_ ?_
        · refine c_seq ?_
          refine c_region ?_
          refine o_as st rfl rfl ?_
          refine c_nil ?_
          refine l_then ?_
          refine c_ret ?_
          refine b_ret ?_
          refine l_ret ?_
          refine l_ret ?_
          refine b_ret ?_
          refine b_ret ?_
          refine l_ret ?_
          refine l_ret ?_
          refine b_ret ?_
          refine l_ret ?_
          exact l_end1 Tryd.results22 false () (rv_t rfl) (fun _ _ => NewCh.nil _ _ _ _)
        · refine c_skip ?_
          refine b_norm ?_
          refine l_then ?_
          refine c_region ?_
          refine o_mv st rfl rfl ?_
          refine o_add st rfl rfl rfl ?_; intro t33
          refine o_as st rfl rfl ?_
          refine c_nil ?_
          exact l_join t33 (fun a w hE hm => ⟨hE.sub ⟨rfl, rfl, rfl, trivial⟩, (hm.pick [0, 1] rfl)⟩)
      · refine c_exit ?_
        refine l_exit ?_
        refine l_exit ?_
        refine b_exit ?_
        refine b_norm ?_
        refine l_then ?_
        refine c_region ?_
        refine o_mv st rfl rfl ?_
        refine o_add st rfl rfl rfl ?_; intro t34
        refine o_as st rfl rfl ?_
        refine c_nil ?_
        exact l_join t34 (fun a w hE hm => ⟨hE.sub ⟨rfl, rfl, trivial⟩, (hm.pick [0, 1] rfl)⟩)
  · refine c_exit ?_
    refine l_exit ?_
    refine l_exit ?_
    refine b_exit ?_
    refine l_then ?_
    refine c_join (σ := Bool) (fun (t99 : Bool) (a : Act) (w : World) => Has 55 [(2, (.bool t99))] a ∧ Mem (gB F [] w0) (feet []) w0 [] w) ?_ ?_
    · intro k100
      refine c_draw mixed 14 rfl [cellCh b6 [(.slice a3 l4 q5), (.bool s_0.xAccept)] 25, snapCh w0 F] ?_
      refine o_fad (dt 0 (fun _ m => m)) rfl rfl fld25_0 rfl ?_
      refine o_ldc (dt 1 (fun _ m => m)) (v := (.slice a3 l4 q5)) 0 rfl rfl rfl ty23 rfl ?_
      refine o_len (dt 2 (fun _ m => m)) el23 1 rfl (reads_snap hv1) rfl rfl ?_
      refine d_one (i := 3) rfl (by kernel_rfl) (o_callP (vs := [(.int .i64 (s_0.xChains.length : Int)), (.int .i64 1), (.int .i64 5)]) Tryd.call58 rfl rfl (by intro w m h; exact (w_spec_l1In (F := allB [] w) (n_0 := (s_0.xChains.length : Int)) (lo_1 := 1) (hi_2 := 5) allB_ok h).mono (fun _ _ k => ret_free (fun r u => fr_nil) k)) ?_); rintro r35 _
      refine d_and (fun _ m => m) ?_
      refine o_mv (dt 4 (fun _ m => m)) rfl rfl ?_
      refine st_sp (dj := 46) rfl ?_ ?_
      · refine o_ldc (dtg 5 (fun _ m => m)) (v := (.agg #[(.slice a3 l4 q5), (.bool s_0.xAccept)])) 0 rfl rfl rfl ty25 rfl ?_
        refine o_fad (dtg 8 (fun _ m => m)) rfl rfl fld25_0 rfl ?_
        refine o_ldc (dtg 9 (fun _ m => m)) (v := (.slice a3 l4 q5)) 0 rfl rfl rfl ty23 rfl ?_
        refine o_len (dtg 10 (fun _ m => m)) el23 1 rfl (reads_snap hv1) rfl rfl ?_
        refine d_oneg (i := 6) rfl rfl rfl (by kernel_rfl) (o_callP (vs := [(.agg #[(.slice a3 l4 q5), (.bool s_0.xAccept)])]) Tryd.call70 rfl rfl (by intro w m h; exact (w_spec_l8Order (F := allB [] w) (s_0 := s_0) allB_ok (m.rd0 1 rfl (reads_snap hv1)) h).mono (fun _ _ k => ret_free (fun r u => (fr_cons (free_own flelInt) fr_nil)) k)) ?_); rintro r36 v37
        refine d_and (fun w m => m.pick [1, 2] rfl) ?_
        refine d_oneg (i := 7) rfl rfl rfl (by kernel_rfl) (o_len m_op el99 0 rfl reads_own rfl rfl ?_)
        refine d_and (fun w m => m.pick [1, 2] rfl) ?_
        refine o_eql (dtg 11 (fun w m => m.pick [1, 2] rfl)) und3 rfl rfl rfl ?_
        refine o_pickT (dt 12 (fun w m => m.pick [1, 2] rfl)) rfl rfl rfl ?_
        refine o_as (dt 13 (fun w m => m.pick [1, 2] rfl)) rfl rfl ?_
        refine d_done (by kernel_rfl) ?_
        exact l_join (decide ((r36.length : Int) = (s_0.xChains.length : Int))) (fun a w hE hm => ⟨hE.sub ⟨rfl, trivial⟩, (hm.pick [] rfl)⟩)
      · refine dsk 5 (fun _ m => m) rfl (by kernel_rfl) rfl rfl rfl rfl ?_
        refine dsk 6 (fun _ m => m) rfl (by kernel_rfl) rfl rfl rfl rfl ?_
        refine dsk 7 (fun _ m => m) rfl (by kernel_rfl) rfl rfl rfl rfl ?_
        refine dsk 8 (fun _ m => m) rfl (by kernel_rfl) rfl rfl rfl rfl ?_
        refine dsk 9 (fun _ m => m) rfl (by kernel_rfl) rfl rfl rfl rfl ?_
        refine dsk 10 (fun _ m => m) rfl (by kernel_rfl) rfl rfl rfl rfl ?_
        refine dsk 11 (fun _ m => m) rfl (by kernel_rfl) rfl rfl rfl rfl ?_
        refine o_pickF (dt 12 (fun _ m => m)) rfl rfl rfl ?_
        refine o_as (dt 13 (fun _ m => m)) rfl rfl ?_
        refine d_done (by kernel_rfl) ?_
        exact l_join false (fun a w hE hm => ⟨hE.sub ⟨rfl, trivial⟩, (hm.pick [] rfl)⟩)
    · rintro t99 a w ⟨hE, hm⟩ h
      refine nx_of hE hm h ?_
      clear hE hm h
      refine c_ret ?_
      exact l_end1 Tryd.results22 t99 () (rv_t rfl) (fun _ _ => NewCh.nil _ _ _ _)

set_option maxRecDepth 100000 in
set_option maxHeartbeats 8000000 in
theorem w_spec_PacketField {w0 : World} {F : Nat → Prop} {p_0 : GPacket} {n_1 : Int} {κ : Int → Prop} (hF : ∀ b, F b → b < w0.heap.size ∧ ¬ feet [] b) (h : L_spec_PacketField p_0 n_1 κ) :
    Calls Tryd.prog 125 #[(.agg #[(.int .i64 p_0.xFrom), (.int .i64 p_0.xTo), (.int .i64 p_0.xPort), (.int .i64 p_0.xProto)]), (.int .i64 n_1)] w0 (Ret [] F w0 κ (fun (r : Int) (u : Unit) => (.int .i64 r)) (fun (r : Int) (u : Unit) => [])) := by
  refine enter0 (args := [(.agg #[(.int .i64 p_0.xFrom), (.int .i64 p_0.xTo), (.int .i64 p_0.xPort), (.int .i64 p_0.xProto)]), (.int .i64 n_1)]) [] hF (Given.nil _ _) Tryd.func125 rfl Tryd.ntmps125 rfl h ?_
  clear h hF
  refine c_seq ?_
  refine c_region ?_
  refine stw (o_box rfl rfl [(.int .i64 p_0.xFrom), (.int .i64 p_0.xTo), (.int .i64 p_0.xPort), (.int .i64 p_0.xProto)] rfl ?_); intro b1
  refine o_as st rfl rfl ?_
  refine c_nil ?_
  refine l_then ?_
  refine c_seq ?_
  refine c_join (σ := Bool) (fun (t65 : Bool) (a : Act) (w : World) => Has 25 [(1, (.int .i64 n_1)), (2, (.pointer (some ⟨b1, 0, none⟩))), (12, (.bool t65))] a ∧ Mem (gB F [] w0) (feet []) w0 [cellCh b1 [(.int .i64 p_0.xFrom), (.int .i64 p_0.xTo), (.int .i64 p_0.xPort), (.int .i64 p_0.xProto)] 40] w) ?_ ?_
  · intro k66
    refine c_region ?_
    refine o_ldc st (v := (.agg #[(.int .i64 p_0.xFrom), (.int .i64 p_0.xTo), (.int .i64 p_0.xPort), (.int .i64 p_0.xProto)])) 0 rfl rfl rfl ty40 rfl ?_
    refine stw (o_callP (vs := [(.agg #[(.int .i64 p_0.xFrom), (.int .i64 p_0.xTo), (.int .i64 p_0.xPort), (.int .i64 p_0.xProto)])]) Tryd.call23 rfl rfl (by intro w m h; exact (w_spec_PacketValid (F := allB [] w) (p_0 := p_0) allB_ok h).mono (fun _ _ k => ret_free (fun r u => fr_nil) k)) ?_); rintro r3 _
    refine o_not st rfl rfl ?_
    refine o_mv st rfl rfl ?_
    refine st_sp (dj := 8) rfl ?_ ?_
    · refine st_s rfl rfl rfl rfl ?_
      refine st_s rfl rfl rfl rfl ?_
      refine st_s rfl rfl rfl rfl ?_
      refine o_pickT st rfl rfl rfl ?_
      refine c_nil ?_
      exact l_join true (fun a w hE hm => ⟨hE.sub ⟨rfl, rfl, rfl, trivial⟩, (hm.pick [0] rfl)⟩)
    · refine o_mv (st_g rfl rfl) rfl rfl ?_
      refine st_gw rfl rfl (o_callP (vs := [(.int .i64 n_1), (.int .i64 0), (.int .i64 3)]) Tryd.call58 rfl rfl (by intro w m h; exact (w_spec_l1In (F := allB [] w) (n_0 := n_1) (lo_1 := 0) (hi_2 := 3) allB_ok h).mono (fun _ _ k => ret_free (fun r u => fr_nil) k)) ?_); rintro r4 _
      refine o_not (st_g rfl rfl) rfl rfl ?_
      refine o_pickF st rfl rfl rfl ?_
      refine c_nil ?_
      exact l_join (!r4) (fun a w hE hm => ⟨hE.sub ⟨rfl, rfl, rfl, trivial⟩, (hm.pick [0] rfl)⟩)
  · rintro t65 a w ⟨hE, hm⟩ h
    refine nx_of hE hm h ?_
    clear hE hm h
    refine c_cond rfl ?_ ?_
    · refine c_seq ?_
      refine c_region ?_
      refine o_as st rfl rfl ?_
      refine c_nil ?_
      refine l_then ?_
      refine c_ret ?_
      refine l_ret ?_
      exact l_end1 Tryd.results125 (-1) () (rv_t rfl) (fun _ _ => NewCh.nil _ _ _ _)
    · refine c_skip ?_
      refine l_then ?_
      refine c_seq ?_
      refine c_region ?_
      refine o_fad st rfl rfl fld40_0 rfl ?_
      refine o_ldc st (v := (.int .i64 p_0.xFrom)) 0 rfl rfl rfl ty3 rfl ?_
      refine o_fad st rfl rfl fld40_1 rfl ?_
      refine o_ldc st (v := (.int .i64 p_0.xTo)) 0 rfl rfl rfl ty3 rfl ?_
      refine o_fad st rfl rfl fld40_2 rfl ?_
      refine o_ldc st (v := (.int .i64 p_0.xPort)) 0 rfl rfl rfl ty3 rfl ?_
      refine o_fad st rfl rfl fld40_3 rfl ?_
      refine o_ldc st (v := (.int .i64 p_0.xProto)) 0 rfl rfl rfl ty3 rfl ?_
      refine stw (o_bsl (enc := encInt) (qs := [(0, (.int .i64 p_0.xFrom)), (1, (.int .i64 p_0.xTo)), (2, (.int .i64 p_0.xPort)), (3, (.int .i64 p_0.xProto))]) (cells := [(.int .i64 p_0.xFrom), (.int .i64 p_0.xTo), (.int .i64 p_0.xPort), (.int .i64 p_0.xProto)]) ([p_0.xFrom, p_0.xTo, p_0.xPort, p_0.xProto]) flelInt (by intro ρ h; simp only [List.map_toArray, List.map_cons, List.map_nil, h (.tmp 14) _ rfl, h (.tmp 16) _ rfl, h (.tmp 18) _ rfl, h (.tmp 20) _ rfl]) rfl el99 zero3 rfl rfl rfl rfl rfl rfl ?_); intro v67
      refine o_mv st rfl rfl ?_
      refine o_idx st 0 rfl reads_own rfl rfl rfl el99 ?_; intro e69 h70
      refine o_lds st (enc := encInt) (u := (.int .i64 e69)) 0 rfl reads_own flelInt rfl h70 rfl rfl ty3 rfl ?_
      refine o_as st rfl rfl ?_
      refine c_nil ?_
      refine l_then ?_
      refine c_ret ?_
      exact l_end1 Tryd.results125 e69 () (rv_t rfl) (fun _ _ => NewCh.nil _ _ _ _)

set_option maxRecDepth 100000 in
set_option maxHeartbeats 8000000 in
theorem w_spec_TestHolds {w0 : World} {F : Nat → Prop} {t_0 : GTest} {p_1 : GPacket} {κ : Bool → Prop} (hF : ∀ b, F b → b < w0.heap.size ∧ ¬ feet [] b) (h : L_spec_TestHolds t_0 p_1 κ) :
    Calls Tryd.prog 119 #[(.agg #[(.int .i64 t_0.xField), (.int .i64 t_0.xLo), (.int .i64 t_0.xHi), (.bool t_0.xNot)]), (.agg #[(.int .i64 p_1.xFrom), (.int .i64 p_1.xTo), (.int .i64 p_1.xPort), (.int .i64 p_1.xProto)])] w0 (Ret [] F w0 κ (fun (r : Bool) (u : Unit) => (.bool r)) (fun (r : Bool) (u : Unit) => [])) := by
  refine enter0 (args := [(.agg #[(.int .i64 t_0.xField), (.int .i64 t_0.xLo), (.int .i64 t_0.xHi), (.bool t_0.xNot)]), (.agg #[(.int .i64 p_1.xFrom), (.int .i64 p_1.xTo), (.int .i64 p_1.xPort), (.int .i64 p_1.xProto)])]) [] hF (Given.nil _ _) Tryd.func119 rfl Tryd.ntmps119 rfl h ?_
  clear h hF
  refine c_seq ?_
  refine c_region ?_
  refine stw (o_box rfl rfl [(.int .i64 t_0.xField), (.int .i64 t_0.xLo), (.int .i64 t_0.xHi), (.bool t_0.xNot)] rfl ?_); intro b1
  refine stw (o_box rfl rfl [(.int .i64 p_1.xFrom), (.int .i64 p_1.xTo), (.int .i64 p_1.xPort), (.int .i64 p_1.xProto)] rfl ?_); intro b3
  refine o_as st rfl rfl ?_
  refine c_nil ?_
  refine l_then ?_
  refine c_join (σ := Bool) (fun (t69 : Bool) (a : Act) (w : World) => Has 25 [(4, (.bool t69))] a ∧ Mem (gB F [] w0) (feet []) w0 [] w) ?_ ?_
  · intro k70
    refine c_draw mixed 21 rfl [cellCh b3 [(.int .i64 p_1.xFrom), (.int .i64 p_1.xTo), (.int .i64 p_1.xPort), (.int .i64 p_1.xProto)] 40, cellCh b1 [(.int .i64 t_0.xField), (.int .i64 t_0.xLo), (.int .i64 t_0.xHi), (.bool t_0.xNot)] 173] ?_
    refine o_ldc (dt 0 (fun _ m => m)) (v := (.agg #[(.int .i64 t_0.xField), (.int .i64 t_0.xLo), (.int .i64 t_0.xHi), (.bool t_0.xNot)])) 1 rfl rfl rfl ty173 rfl ?_
    refine d_one (i := 1) rfl (by kernel_rfl) (o_callP (vs := [(.agg #[(.int .i64 t_0.xField), (.int .i64 t_0.xLo), (.int .i64 t_0.xHi), (.bool t_0.xNot)])]) Tryd.call112 rfl rfl (by intro w m h; exact (w_spec_TestValid (F := allB [] w) (t_0 := t_0) allB_ok h).mono (fun _ _ k => ret_free (fun r u => fr_nil) k)) ?_); rintro r5 _
    refine d_and (fun _ m => m) ?_
    refine o_mv (dt 2 (fun _ m => m)) rfl rfl ?_
    refine st_sp (dj := 7) rfl ?_ ?_
    · refine o_ldc (dtg 3 (fun _ m => m)) (v := (.agg #[(.int .i64 p_1.xFrom), (.int .i64 p_1.xTo), (.int .i64 p_1.xPort), (.int .i64 p_1.xProto)])) 0 rfl rfl rfl ty40 rfl ?_
      refine d_oneg (i := 4) rfl rfl rfl (by kernel_rfl) (o_callP (vs := [(.agg #[(.int .i64 p_1.xFrom), (.int .i64 p_1.xTo), (.int .i64 p_1.xPort), (.int .i64 p_1.xProto)])]) Tryd.call23 rfl rfl (by intro w m h; exact (w_spec_PacketValid (F := allB [] w) (p_0 := p_1) allB_ok h).mono (fun _ _ k => ret_free (fun r u => fr_nil) k)) ?_); rintro r6 _
      refine d_and (fun _ m => m) ?_
      refine o_pickT (dt 5 (fun _ m => m)) rfl rfl rfl ?_
      refine o_mv (dt 6 (fun _ m => m)) rfl rfl ?_
      refine st_sp (dj := 11) rfl ?_ ?_
      · refine o_ldc (dtg 7 (fun _ m => m)) (v := (.agg #[(.int .i64 p_1.xFrom), (.int .i64 p_1.xTo), (.int .i64 p_1.xPort), (.int .i64 p_1.xProto)])) 0 rfl rfl rfl ty40 rfl ?_
        refine o_fad (dtg 8 (fun _ m => m)) rfl rfl fld173_0 rfl ?_
        refine o_ldc (dtg 9 (fun _ m => m)) (v := (.int .i64 t_0.xField)) 1 rfl rfl rfl ty3 rfl ?_
        refine o_fad (dtg 11 (fun _ m => m)) rfl rfl fld173_1 rfl ?_
        refine o_ldc (dtg 12 (fun _ m => m)) (v := (.int .i64 t_0.xLo)) 1 rfl rfl rfl ty3 rfl ?_
        refine o_fad (dtg 13 (fun _ m => m)) rfl rfl fld173_2 rfl ?_
        refine o_ldc (dtg 14 (fun _ m => m)) (v := (.int .i64 t_0.xHi)) 1 rfl rfl rfl ty3 rfl ?_
        refine o_fad (dtg 16 (fun _ m => m)) rfl rfl fld173_3 rfl ?_
        refine o_ldc (dtg 17 (fun _ m => m)) (v := (.bool t_0.xNot)) 1 rfl rfl rfl ty4 rfl ?_
        refine d_oneg (i := 10) rfl rfl rfl (by kernel_rfl) (o_callP (vs := [(.agg #[(.int .i64 p_1.xFrom), (.int .i64 p_1.xTo), (.int .i64 p_1.xPort), (.int .i64 p_1.xProto)]), (.int .i64 t_0.xField)]) Tryd.call125 rfl rfl (by intro w m h; exact (w_spec_PacketField (F := allB [] w) (p_0 := p_1) (n_1 := t_0.xField) allB_ok h).mono (fun _ _ k => ret_free (fun r u => fr_nil) k)) ?_); rintro r7 _
        refine d_and (fun _ m => m) ?_
        refine d_oneg (i := 15) rfl rfl rfl (by kernel_rfl) (o_callP (vs := [(.int .i64 r7), (.int .i64 t_0.xLo), (.int .i64 t_0.xHi)]) Tryd.call58 rfl rfl (by intro w m h; exact (w_spec_l1In (F := allB [] w) (n_0 := r7) (lo_1 := t_0.xLo) (hi_2 := t_0.xHi) allB_ok h).mono (fun _ _ k => ret_free (fun r u => fr_nil) k)) ?_); rintro r8 _
        refine d_and (fun _ m => m) ?_
        refine o_neqB (dtg 18 (fun _ m => m)) und4 rfl rfl rfl ?_
        refine o_pickT (dt 19 (fun _ m => m)) rfl rfl rfl ?_
        refine o_as (dt 20 (fun _ m => m)) rfl rfl ?_
        refine d_done (by kernel_rfl) ?_
        exact l_join (!(decide (r8 = t_0.xNot))) (fun a w hE hm => ⟨hE.sub ⟨rfl, trivial⟩, (hm.pick [] rfl)⟩)
      · refine dsk 7 (fun _ m => m) rfl (by kernel_rfl) rfl rfl rfl rfl ?_
        refine dsk 8 (fun _ m => m) rfl (by kernel_rfl) rfl rfl rfl rfl ?_
        refine dsk 9 (fun _ m => m) rfl (by kernel_rfl) rfl rfl rfl rfl ?_
        refine dsk 10 (fun _ m => m) rfl (by kernel_rfl) rfl rfl rfl rfl ?_
        refine dsk 11 (fun _ m => m) rfl (by kernel_rfl) rfl rfl rfl rfl ?_
        refine dsk 12 (fun _ m => m) rfl (by kernel_rfl) rfl rfl rfl rfl ?_
        refine dsk 13 (fun _ m => m) rfl (by kernel_rfl) rfl rfl rfl rfl ?_
        refine dsk 14 (fun _ m => m) rfl (by kernel_rfl) rfl rfl rfl rfl ?_
        refine dsk 15 (fun _ m => m) rfl (by kernel_rfl) rfl rfl rfl rfl ?_
        refine dsk 16 (fun _ m => m) rfl (by kernel_rfl) rfl rfl rfl rfl ?_
        refine dsk 17 (fun _ m => m) rfl (by kernel_rfl) rfl rfl rfl rfl ?_
        refine dsk 18 (fun _ m => m) rfl (by kernel_rfl) rfl rfl rfl rfl ?_
        refine o_pickF (dt 19 (fun _ m => m)) rfl rfl rfl ?_
        refine o_as (dt 20 (fun _ m => m)) rfl rfl ?_
        refine d_done (by kernel_rfl) ?_
        exact l_join false (fun a w hE hm => ⟨hE.sub ⟨rfl, trivial⟩, (hm.pick [] rfl)⟩)
    · refine dsk 3 (fun _ m => m) rfl (by kernel_rfl) rfl rfl rfl rfl ?_
      refine dsk 4 (fun _ m => m) rfl (by kernel_rfl) rfl rfl rfl rfl ?_
      refine o_pickF (dt 5 (fun _ m => m)) rfl rfl rfl ?_
      refine o_mv (dt 6 (fun _ m => m)) rfl rfl ?_
      refine dsk 7 (fun _ m => m) rfl (by kernel_rfl) rfl rfl rfl rfl ?_
      refine dsk 8 (fun _ m => m) rfl (by kernel_rfl) rfl rfl rfl rfl ?_
      refine dsk 9 (fun _ m => m) rfl (by kernel_rfl) rfl rfl rfl rfl ?_
      refine dsk 10 (fun _ m => m) rfl (by kernel_rfl) rfl rfl rfl rfl ?_
      refine dsk 11 (fun _ m => m) rfl (by kernel_rfl) rfl rfl rfl rfl ?_
      refine dsk 12 (fun _ m => m) rfl (by kernel_rfl) rfl rfl rfl rfl ?_
      refine dsk 13 (fun _ m => m) rfl (by kernel_rfl) rfl rfl rfl rfl ?_
      refine dsk 14 (fun _ m => m) rfl (by kernel_rfl) rfl rfl rfl rfl ?_
      refine dsk 15 (fun _ m => m) rfl (by kernel_rfl) rfl rfl rfl rfl ?_
      refine dsk 16 (fun _ m => m) rfl (by kernel_rfl) rfl rfl rfl rfl ?_
      refine dsk 17 (fun _ m => m) rfl (by kernel_rfl) rfl rfl rfl rfl ?_
      refine dsk 18 (fun _ m => m) rfl (by kernel_rfl) rfl rfl rfl rfl ?_
      refine o_pickF (dt 19 (fun _ m => m)) rfl rfl rfl ?_
      refine o_as (dt 20 (fun _ m => m)) rfl rfl ?_
      refine d_done (by kernel_rfl) ?_
      exact l_join false (fun a w hE hm => ⟨hE.sub ⟨rfl, trivial⟩, (hm.pick [] rfl)⟩)
  · rintro t69 a w ⟨hE, hm⟩ h
    refine nx_of hE hm h ?_
    clear hE hm h
    refine c_ret ?_
    exact l_end1 Tryd.results119 t69 () (rv_t rfl) (fun _ _ => NewCh.nil _ _ _ _)



end
section
open Go.RowKit
set_option maxRecDepth 100000 in
set_option maxHeartbeats 8000000 in
theorem w_spec_TestsHold {w0 : World} {F : Nat → Prop} {v1 : Value} {list_0 : (List GTest)} {p_1 : GPacket} {κ : Bool → Prop} (hF : ∀ b, F b → b < w0.heap.size ∧ ¬ feet [] b) (hv1 : Sl elGTest F w0 v1 list_0) (h : L_spec_TestsHold list_0 p_1 κ) :
    Calls Tryd.prog 108 #[v1, (.agg #[(.int .i64 p_1.xFrom), (.int .i64 p_1.xTo), (.int .i64 p_1.xPort), (.int .i64 p_1.xProto)])] w0 (Ret [] F w0 κ (fun (r : Bool) (u : Unit) => (.bool r)) (fun (r : Bool) (u : Unit) => [])) := by
  refine enterS (args := [v1, (.agg #[(.int .i64 p_1.xFrom), (.int .i64 p_1.xTo), (.int .i64 p_1.xPort), (.int .i64 p_1.xProto)])]) [] hF (Given.nil _ _) Tryd.func108 rfl Tryd.ntmps108 rfl h ?_
  clear h hF
  refine c_seq ?_
  refine c_region ?_
  refine stw (o_box rfl rfl [(.int .i64 p_1.xFrom), (.int .i64 p_1.xTo), (.int .i64 p_1.xPort), (.int .i64 p_1.xProto)] rfl ?_); intro b3
  refine o_as st rfl rfl ?_
  refine c_nil ?_
  refine l_then ?_
  refine c_seq ?_
  refine c_seq ?_
  refine c_region ?_
  refine o_as st rfl rfl ?_
  refine c_nil ?_
  refine l_then ?_
  refine c_block ?_
  refine c_loop (σ := Int) (fun (t5 : Int) (a : Act) (w : World) => Has 25 [(0, v1), (3, (.pointer (some ⟨b3, 0, none⟩))), (5, (.int .i64 t5))] a ∧ Mem (gB F [] w0) (feet []) w0 [cellCh b3 [(.int .i64 p_1.xFrom), (.int .i64 p_1.xTo), (.int .i64 p_1.xPort), (.int .i64 p_1.xProto)] 40, snapCh w0 F] w) (fun a w hE hm => ⟨hE.sub ⟨rfl, rfl, rfl, trivial⟩, (hm.pick [0, 1] rfl)⟩) ?_
  rintro nx6 t5 a w ⟨hE, hm⟩ h
  refine nx_of hE hm h ?_
  clear hE hm h
  refine c_seq ?_
  refine c_seq ?_
  refine c_region ?_
  refine o_mv st rfl rfl ?_
  refine o_mv st rfl rfl ?_
  refine o_len st el102 1 rfl (reads_snap hv1) rfl rfl ?_
  refine o_lss st rfl rfl rfl ?_
  refine c_nil ?_
  refine l_then ?_
  refine c_cond rfl ?_ ?_
  · refine c_skip ?_
    refine l_then ?_
    refine c_seq ?_
    refine c_block ?_
    refine c_seq ?_
    refine c_draw mixed 7 rfl [cellCh b3 [(.int .i64 p_1.xFrom), (.int .i64 p_1.xTo), (.int .i64 p_1.xPort), (.int .i64 p_1.xProto)] 40, snapCh w0 F] ?_
    refine o_mv (dt 0 (fun _ m => m)) rfl rfl ?_
    refine o_mv (dt 1 (fun _ m => m)) rfl rfl ?_
    refine o_idx (dt 2 (fun _ m => m)) 1 rfl (reads_snap hv1) rfl rfl rfl el102 ?_; intro e7 h8
    refine o_lds (dt 3 (fun _ m => m)) (enc := encGTest) (u := (.agg #[(.int .i64 e7.xField), (.int .i64 e7.xLo), (.int .i64 e7.xHi), (.bool e7.xNot)])) 1 rfl (reads_snap hv1) flelGTest rfl h8 rfl rfl ty173 rfl ?_
    refine o_ldc (dt 4 (fun _ m => m)) (v := (.agg #[(.int .i64 p_1.xFrom), (.int .i64 p_1.xTo), (.int .i64 p_1.xPort), (.int .i64 p_1.xProto)])) 0 rfl rfl rfl ty40 rfl ?_
    refine d_one (i := 5) rfl (by kernel_rfl) (o_callP (vs := [(.agg #[(.int .i64 e7.xField), (.int .i64 e7.xLo), (.int .i64 e7.xHi), (.bool e7.xNot)]), (.agg #[(.int .i64 p_1.xFrom), (.int .i64 p_1.xTo), (.int .i64 p_1.xPort), (.int .i64 p_1.xProto)])]) Tryd.call119 rfl rfl (by intro w m h; exact (w_spec_TestHolds (F := allB [] w) (t_0 := e7) (p_1 := p_1) allB_ok h).mono (fun _ _ k => ret_free (fun r u => fr_nil) k)) ?_); rintro r9 _
    refine d_and (fun _ m => m) ?_
    refine o_not (dt 6 (fun _ m => m)) rfl rfl ?_
    refine d_done (by kernel_rfl) ?_
    refine l_then ?_
    refine c_cond rfl ?_ ?_
    · refine c_seq ?_
      refine c_region ?_
      refine o_as st rfl rfl ?_
      refine c_nil ?_
      refine l_then ?_
      refine c_ret ?_
      refine b_ret ?_
      refine l_ret ?_
      refine l_ret ?_
      refine b_ret ?_
      refine l_ret ?_
      exact l_end1 Tryd.results108 false () (rv_t rfl) (fun _ _ => NewCh.nil _ _ _ _)
    · refine c_skip ?_
      refine b_norm ?_
      refine l_then ?_
      refine c_region ?_
      refine o_mv st rfl rfl ?_
      refine o_add st rfl rfl rfl ?_; intro t10
      refine o_as st rfl rfl ?_
      refine c_nil ?_
      exact l_join t10 (fun a w hE hm => ⟨hE.sub ⟨rfl, rfl, rfl, trivial⟩, (hm.pick [0, 1] rfl)⟩)
  · refine c_exit ?_
    refine l_exit ?_
    refine l_exit ?_
    refine b_exit ?_
    refine l_then ?_
    refine c_join (σ := Bool) (fun (t73 : Bool) (a : Act) (w : World) => Has 25 [(4, (.bool t73))] a ∧ Mem (gB F [] w0) (feet []) w0 [] w) ?_ ?_
    · intro k74
      refine c_region ?_
      refine o_mv st rfl rfl ?_
      refine stw (o_callP (vs := [v1]) Tryd.call114 rfl rfl (by intro w m h; exact (w_spec_TestsValid (F := allB [] w) (list_0 := list_0) allB_ok (m.rd0 1 rfl (reads_snap hv1)) h).mono (fun _ _ k => ret_free (fun r u => fr_nil) k)) ?_); rintro r11 _
      refine o_mv st rfl rfl ?_
      refine st_sp (dj := 21) rfl ?_ ?_
      · refine o_ldc (st_g rfl rfl) (v := (.agg #[(.int .i64 p_1.xFrom), (.int .i64 p_1.xTo), (.int .i64 p_1.xPort), (.int .i64 p_1.xProto)])) 0 rfl rfl rfl ty40 rfl ?_
        refine st_gw rfl rfl (o_callP (vs := [(.agg #[(.int .i64 p_1.xFrom), (.int .i64 p_1.xTo), (.int .i64 p_1.xPort), (.int .i64 p_1.xProto)])]) Tryd.call23 rfl rfl (by intro w m h; exact (w_spec_PacketValid (F := allB [] w) (p_0 := p_1) allB_ok h).mono (fun _ _ k => ret_free (fun r u => fr_nil) k)) ?_); rintro r12 _
        refine o_pickT st rfl rfl rfl ?_
        refine o_as st rfl rfl ?_
        refine c_nil ?_
        exact l_join r12 (fun a w hE hm => ⟨hE.sub ⟨rfl, trivial⟩, (hm.pick [] rfl)⟩)
      · refine st_s rfl rfl rfl rfl ?_
        refine st_s rfl rfl rfl rfl ?_
        refine o_pickF st rfl rfl rfl ?_
        refine o_as st rfl rfl ?_
        refine c_nil ?_
        exact l_join false (fun a w hE hm => ⟨hE.sub ⟨rfl, trivial⟩, (hm.pick [] rfl)⟩)
    · rintro t73 a w ⟨hE, hm⟩ h
      refine nx_of hE hm h ?_
      clear hE hm h
      refine c_ret ?_
      exact l_end1 Tryd.results108 t73 () (rv_t rfl) (fun _ _ => NewCh.nil _ _ _ _)

set_option maxRecDepth 100000 in
set_option maxHeartbeats 8000000 in
theorem wr_spec_l9Walk : ∀ (n : Nat) {w0 : World} {F : Nat → Prop} {b3 : Nat} {v1 : Value} {v4 : Value} {s_0 : GRuleset} {chain_1 : Int} {p_2 : GPacket} {out_3 : (List GVisit)} {κ : (Int × (List GVisit)) → Prop} (hF : ∀ b, F b → b < w0.heap.size ∧ ¬ feet [cellCh b3 [v4] 128, ownCh elGVisit 157 v4 out_3] b) (hg : Given [cellCh b3 [v4] 128, ownCh elGVisit 157 v4 out_3] F w0) (hv1 : Sl (elSl elGRule) F w0 v1 s_0.xChains) (h : R_spec_l9Walk n s_0 chain_1 p_2 out_3 κ),
    Calls Tryd.prog 91 #[(.agg #[v1, (.bool s_0.xAccept)]), (.int .i64 chain_1), (.agg #[(.int .i64 p_2.xFrom), (.int .i64 p_2.xTo), (.int .i64 p_2.xPort), (.int .i64 p_2.xProto)]), (.pointer (some ⟨b3, 0, none⟩))] w0 (Ret [cellCh b3 [v4] 128, ownCh elGVisit 157 v4 out_3] F w0 κ (fun (r : (Int × (List GVisit))) (u : Value) => (.int .i64 r.1)) (fun (r : (Int × (List GVisit))) (u : Value) => [cellCh b3 [u] 128, ownCh elGVisit 157 u r.2])) := by
  intro n
  induction n with
  | zero =>
    intro w0 F b3 v1 v4 s_0 chain_1 p_2 out_3 κ hF hg hv1 h
    exact (h : False).elim
  | succ n ih =>
    intro w0 F b3 v1 v4 s_0 chain_1 p_2 out_3 κ hF hg hv1 h
    replace h : B_spec_l9Walk (R_spec_l9Walk n) s_0 chain_1 p_2 out_3 κ := h
    revert h ih
    generalize R_spec_l9Walk n = rec
    intro ih h
    refine enterS (args := [(.agg #[v1, (.bool s_0.xAccept)]), (.int .i64 chain_1), (.agg #[(.int .i64 p_2.xFrom), (.int .i64 p_2.xTo), (.int .i64 p_2.xPort), (.int .i64 p_2.xProto)]), (.pointer (some ⟨b3, 0, none⟩))]) [cellCh b3 [v4] 128, ownCh elGVisit 157 v4 out_3] hF hg Tryd.func91 rfl Tryd.ntmps91 rfl h ?_
    clear h hF hg
    refine c_seq ?_
    refine c_region ?_
    obtain ⟨a7, l8, q9, hs_⟩ := sl_val hv1; subst hs_
    refine stw (o_box rfl rfl [(.slice a7 l8 q9), (.bool s_0.xAccept)] rfl ?_); intro b10
    refine stw (o_box rfl rfl [(.int .i64 p_2.xFrom), (.int .i64 p_2.xTo), (.int .i64 p_2.xPort), (.int .i64 p_2.xProto)] rfl ?_); intro b12
    refine o_as st rfl rfl ?_
    refine c_nil ?_
    refine l_then ?_
    refine c_seq ?_
    refine c_seq ?_
    refine c_region ?_
    refine o_as st rfl rfl ?_
    refine c_nil ?_
    refine l_then ?_
    refine c_block ?_
    refine c_loop (σ := ((List GVisit) × Int)) (fun ((xs15, t18) : ((List GVisit) × Int)) (a : Act) (w : World) => ∃ (v14 : Value), Has 70 [(1, (.int .i64 chain_1)), (3, (.pointer (some ⟨b3, 0, none⟩))), (4, (.pointer (some ⟨b10, 0, none⟩))), (6, (.pointer (some ⟨b12, 0, none⟩))), (9, (.int .i64 t18))] a ∧ Mem (gB F [cellCh b3 [v4] 128, ownCh elGVisit 157 v4 out_3] w0) (feet [cellCh b3 [v4] 128, ownCh elGVisit 157 v4 out_3]) w0 [cellCh b12 [(.int .i64 p_2.xFrom), (.int .i64 p_2.xTo), (.int .i64 p_2.xPort), (.int .i64 p_2.xProto)] 40, cellCh b10 [(.slice a7 l8 q9), (.bool s_0.xAccept)] 25, cellCh b3 [v14] 128, snapCh w0 F, ownCh elGVisit 157 v14 xs15] w) (fun a w hE hm => ⟨v4, hE.sub ⟨rfl, rfl, rfl, rfl, rfl, trivial⟩, (hm.pick [0, 1, 2, 4, 3] rfl)⟩) ?_
    rintro nx19 ⟨xs15, t18⟩ a w ⟨v14, hE, hm⟩ h
    refine nx_of hE hm h ?_
    clear hE hm h
    refine c_seq ?_
    refine c_seq ?_
    refine c_region ?_
    refine o_mv st rfl rfl ?_
    refine o_fad st rfl rfl fld25_0 rfl ?_
    refine o_ldc st (v := (.slice a7 l8 q9)) 1 rfl rfl rfl ty23 rfl ?_
    refine o_mv st rfl rfl ?_
    refine o_idx st 3 rfl (reads_snap hv1) rfl rfl rfl el23 ?_; intro e20 h21
    obtain ⟨_, ⟨v23, rfl, sl24⟩, rw22⟩ := sl_open hv1 h21
    refine o_ldR st (u := v23) 3 rfl rw22 rfl rfl ty101 rfl ?_
    refine o_len st el101 3 rfl (reads_snap sl24) rfl rfl ?_
    refine o_lss st rfl rfl rfl ?_
    refine c_nil ?_
    refine l_then ?_
    refine c_cond rfl ?_ ?_
    · refine c_skip ?_
      refine l_then ?_
      refine c_join (σ := (List GVisit)) (fun (xs241 : (List GVisit)) (a : Act) (w : World) => ∃ (v242 : Value), Has 70 [(1, (.int .i64 chain_1)), (3, (.pointer (some ⟨b3, 0, none⟩))), (4, (.pointer (some ⟨b10, 0, none⟩))), (6, (.pointer (some ⟨b12, 0, none⟩))), (9, (.int .i64 t18))] a ∧ Mem (gB F [cellCh b3 [v4] 128, ownCh elGVisit 157 v4 out_3] w0) (feet [cellCh b3 [v4] 128, ownCh elGVisit 157 v4 out_3]) w0 [cellCh b12 [(.int .i64 p_2.xFrom), (.int .i64 p_2.xTo), (.int .i64 p_2.xPort), (.int .i64 p_2.xProto)] 40, cellCh b10 [(.slice a7 l8 q9), (.bool s_0.xAccept)] 25, cellCh b3 [v242] 128, ownCh elGVisit 157 v242 xs241, snapCh w0 F] w) ?_ ?_
      · intro k244
        refine c_block ?_
        refine c_seq ?_
        refine c_region ?_
        refine o_fad st rfl rfl fld25_0 rfl ?_
        refine o_ldc st (v := (.slice a7 l8 q9)) 1 rfl rfl rfl ty23 rfl ?_
        refine o_mv st rfl rfl ?_
        refine o_idx st 3 rfl (reads_snap hv1) rfl rfl rfl el23 ?_; intro e26 h27
        obtain ⟨_, ⟨v29, rfl, sl30⟩, rw28⟩ := sl_open hv1 h27
        refine o_ldR st (u := v29) 3 rfl rw28 rfl rfl ty101 rfl ?_
        refine o_mv st rfl rfl ?_
        refine o_idx st 3 rfl (reads_snap sl30) rfl rfl rfl el101 ?_; intro e32 h33
        obtain ⟨_, ⟨v35, rfl, sl36⟩, rw34⟩ := sl_open sl30 h33
        refine o_ldR st (u := (.agg #[v35, (.int .i64 e32.xAction), (.int .i64 e32.xChain)])) 3 rfl rw34 rfl rfl ty104 rfl ?_
        refine stw (o_alloc rfl [(.slice none 0 0), (.int .i64 0), (.int .i64 0)] zero104 ?_); intro b38
        obtain ⟨a40, l41, q42, hs_⟩ := sl_val sl36; subst hs_
        refine stw (o_stc (cs' := [(.slice a40 l41 q42), (.int .i64 e32.xAction), (.int .i64 e32.xChain)]) 0 rfl rfl rfl ty104 rfl rfl rfl rfl ?_)
        refine c_nil ?_
        refine l_then ?_
        refine c_seq ?_
        refine c_seq ?_
        refine c_region ?_
        refine o_fad st rfl rfl fld104_0 rfl ?_
        refine o_ldc st (v := (.slice a40 l41 q42)) 0 rfl rfl rfl ty102 rfl ?_
        refine o_ldc st (v := (.agg #[(.int .i64 p_2.xFrom), (.int .i64 p_2.xTo), (.int .i64 p_2.xPort), (.int .i64 p_2.xProto)])) 1 rfl rfl rfl ty40 rfl ?_
        refine stw (o_callP (vs := [(.slice a40 l41 q42), (.agg #[(.int .i64 p_2.xFrom), (.int .i64 p_2.xTo), (.int .i64 p_2.xPort), (.int .i64 p_2.xProto)])]) Tryd.call108 rfl rfl (by intro w m h; exact (w_spec_TestsHold (F := allB [] w) (list_0 := e32.xTests) (p_1 := p_2) allB_ok (m.rd0 4 rfl (reads_snap sl36)) h).mono (fun _ _ k => ret_free (fun r u => fr_nil) k)) ?_); rintro r43 _
        refine o_not st rfl rfl ?_
        refine c_nil ?_
        refine l_then ?_
        refine c_cond rfl ?_ ?_
        · refine c_exit ?_
          refine l_exit ?_
          refine b_exit ?_
          exact l_join xs15 (fun a w hE hm => ⟨v14, hE.sub ⟨rfl, rfl, rfl, rfl, rfl, trivial⟩, (hm.pick [1, 2, 3, 5, 4] rfl)⟩)
        · refine c_skip ?_
          refine l_then ?_
          refine c_join (σ := (List GVisit)) (fun (xs111 : (List GVisit)) (a : Act) (w : World) => ∃ (v112 : Value), Has 70 [(1, (.int .i64 chain_1)), (3, (.pointer (some ⟨b3, 0, none⟩))), (4, (.pointer (some ⟨b10, 0, none⟩))), (6, (.pointer (some ⟨b12, 0, none⟩))), (9, (.int .i64 t18)), (10, (.pointer (some ⟨b38, 0, none⟩)))] a ∧ Mem (gB F [cellCh b3 [v4] 128, ownCh elGVisit 157 v4 out_3] w0) (feet [cellCh b3 [v4] 128, ownCh elGVisit 157 v4 out_3]) w0 [cellCh b38 [(.slice a40 l41 q42), (.int .i64 e32.xAction), (.int .i64 e32.xChain)] 104, cellCh b12 [(.int .i64 p_2.xFrom), (.int .i64 p_2.xTo), (.int .i64 p_2.xPort), (.int .i64 p_2.xProto)] 40, cellCh b10 [(.slice a7 l8 q9), (.bool s_0.xAccept)] 25, cellCh b3 [v112] 128, ownCh elGVisit 157 v112 xs111, snapCh w0 F] w) ?_ ?_
          · intro k114
            refine c_seq ?_
            refine c_region ?_
            refine o_mv st rfl rfl ?_
            refine o_nilc st rfl rfl ?_
            refine o_ldc st (v := v14) 3 rfl rfl rfl ty128 rfl ?_
            refine o_len st el128 5 rfl reads_own rfl rfl ?_
            refine o_lss st rfl rfl rfl ?_
            refine c_nil ?_
            refine l_then ?_
            refine c_cond rfl ?_ ?_
            · refine c_region ?_
              refine o_mv st rfl rfl ?_
              refine o_mv st rfl rfl ?_
              refine o_nilc st rfl rfl ?_
              refine o_ldc st (v := v14) 3 rfl rfl rfl ty128 rfl ?_
              refine o_mv st rfl rfl ?_
              refine o_mv st rfl rfl ?_
              refine o_bld st (qs := [(0, (.int .i64 chain_1)), (1, (.int .i64 t18))]) (cells := [(.int .i64 chain_1), (.int .i64 t18)]) (by intro ρ h; simp only [List.map_toArray, List.map_cons, List.map_nil, h (.tmp 44) _ rfl, h (.tmp 45) _ rfl]) rfl bld157 rfl ?_
              refine stw (o_bsl (enc := encGVisit) (qs := [(0, (.agg #[(.int .i64 chain_1), (.int .i64 t18)]))]) (cells := [(.int .i64 chain_1), (.int .i64 t18)]) ([(GVisit.mk chain_1 t18)]) flelGVisit (by intro ρ h; simp only [List.map_toArray, List.map_cons, List.map_nil, h (.tmp 46) _ rfl]) rfl el128 zero157 rfl rfl rfl rfl rfl rfl ?_); intro v44
              refine stw (o_app 6 0 rfl rfl (src_flat flelGVisit reads_own) rfl rfl rfl el128 rfl zero157 rfl rfl ?_); intro v46
              refine o_nilc st rfl rfl ?_
              refine nx_own 6 rfl ?_; rintro a48 l49 q50 rfl
              refine stw (o_stc (cs' := [(.slice a48 l49 q50)]) 4 rfl rfl rfl ty128 rfl rfl rfl rfl ?_)
              refine c_nil ?_
              exact l_join (xs15 ++ ([(GVisit.mk chain_1 t18)])) (fun a w hE hm => ⟨(.slice a48 l49 q50), hE.sub ⟨rfl, rfl, rfl, rfl, rfl, rfl, trivial⟩, (hm.pick [1, 2, 3, 4, 6, 5] rfl)⟩)
            · refine c_skip ?_
              exact l_join xs15 (fun a w hE hm => ⟨v14, hE.sub ⟨rfl, rfl, rfl, rfl, rfl, rfl, trivial⟩, (hm.pick [0, 1, 2, 3, 5, 4] rfl)⟩)
          · rintro xs111 a w ⟨v112, hE, hm⟩ h
            refine nx_of hE hm h ?_
            clear hE hm h
            refine c_seq ?_
            refine c_region ?_
            refine o_fad st rfl rfl fld104_1 rfl ?_
            refine o_ldc st (v := (.int .i64 e32.xAction)) 0 rfl rfl rfl ty3 rfl ?_
            refine c_nil ?_
            refine l_then ?_
            refine c_block ?_
            refine c_join (σ := Bool) (fun (t175 : Bool) (a : Act) (w : World) => Has 70 [(1, (.int .i64 chain_1)), (3, (.pointer (some ⟨b3, 0, none⟩))), (4, (.pointer (some ⟨b10, 0, none⟩))), (6, (.pointer (some ⟨b12, 0, none⟩))), (9, (.int .i64 t18)), (10, (.pointer (some ⟨b38, 0, none⟩))), (51, (.int .i64 e32.xAction)), (52, (.bool t175))] a ∧ Mem (gB F [cellCh b3 [v4] 128, ownCh elGVisit 157 v4 out_3] w0) (feet [cellCh b3 [v4] 128, ownCh elGVisit 157 v4 out_3]) w0 [cellCh b38 [(.slice a40 l41 q42), (.int .i64 e32.xAction), (.int .i64 e32.xChain)] 104, cellCh b12 [(.int .i64 p_2.xFrom), (.int .i64 p_2.xTo), (.int .i64 p_2.xPort), (.int .i64 p_2.xProto)] 40, cellCh b10 [(.slice a7 l8 q9), (.bool s_0.xAccept)] 25, cellCh b3 [v112] 128, ownCh elGVisit 157 v112 xs111, snapCh w0 F] w) ?_ ?_
            · intro k176
              refine c_seq ?_
              refine c_region ?_
              refine o_eql st und3 rfl rfl rfl ?_
              refine o_as st rfl rfl ?_
              refine c_nil ?_
              refine l_then ?_
              refine c_cond rfl ?_ ?_
              · refine c_skip ?_
                exact l_join (decide (e32.xAction = 1)) (fun a w hE hm => ⟨hE.sub ⟨rfl, rfl, rfl, rfl, rfl, rfl, rfl, rfl, trivial⟩, (hm.pick [0, 1, 2, 3, 4, 5] rfl)⟩)
              · refine c_region ?_
                refine o_eql st und3 rfl rfl rfl ?_
                refine o_as st rfl rfl ?_
                refine c_nil ?_
                exact l_join (decide (e32.xAction = 2)) (fun a w hE hm => ⟨hE.sub ⟨rfl, rfl, rfl, rfl, rfl, rfl, rfl, rfl, trivial⟩, (hm.pick [0, 1, 2, 3, 4, 5] rfl)⟩)
            · rintro t175 a w ⟨hE, hm⟩ h
              refine nx_of hE hm h ?_
              clear hE hm h
              refine c_cond rfl ?_ ?_
              · refine c_seq ?_
                refine c_region ?_
                refine o_fad st rfl rfl fld104_1 rfl ?_
                refine o_ldc st (v := (.int .i64 e32.xAction)) 0 rfl rfl rfl ty3 rfl ?_
                refine o_as st rfl rfl ?_
                refine c_nil ?_
                refine l_then ?_
                refine c_ret ?_
                refine b_ret ?_
                refine b_ret ?_
                refine l_ret ?_
                refine l_ret ?_
                refine b_ret ?_
                refine l_ret ?_
                exact l_end1 Tryd.results91 (e32.xAction, xs111) v112 (rv_t rfl) (fun w m => NewCh.ofB m [3, 4] rfl)
              · refine c_seq ?_
                refine c_region ?_
                refine o_eql st und3 rfl rfl rfl ?_
                refine o_as st rfl rfl ?_
                refine c_nil ?_
                refine l_then ?_
                refine c_cond rfl ?_ ?_
                · refine c_seq ?_
                  refine c_region ?_
                  refine o_as st rfl rfl ?_
                  refine c_nil ?_
                  refine l_then ?_
                  refine c_ret ?_
                  refine b_ret ?_
                  refine b_ret ?_
                  refine l_ret ?_
                  refine l_ret ?_
                  refine b_ret ?_
                  refine l_ret ?_
                  exact l_end1 Tryd.results91 (5, xs111) v112 (rv_t rfl) (fun w m => NewCh.ofB m [3, 4] rfl)
                · refine c_seq ?_
                  refine c_region ?_
                  refine o_eql st und3 rfl rfl rfl ?_
                  refine o_as st rfl rfl ?_
                  refine c_nil ?_
                  refine l_then ?_
                  refine c_cond rfl ?_ ?_
                  · refine c_seq ?_
                    refine c_region ?_
                    refine o_ldc st (v := (.agg #[(.slice a7 l8 q9), (.bool s_0.xAccept)])) 2 rfl rfl rfl ty25 rfl ?_
                    refine o_fad st rfl rfl fld104_2 rfl ?_
                    refine o_ldc st (v := (.int .i64 e32.xChain)) 0 rfl rfl rfl ty3 rfl ?_
                    refine o_ldc st (v := (.agg #[(.int .i64 p_2.xFrom), (.int .i64 p_2.xTo), (.int .i64 p_2.xPort), (.int .i64 p_2.xProto)])) 1 rfl rfl rfl ty40 rfl ?_
                    refine o_mv st rfl rfl ?_
                    refine pk [3, 4, 0, 1, 2, 5] rfl ?_
                    refine stw (o_call (vs := [(.agg #[(.slice a7 l8 q9), (.bool s_0.xAccept)]), (.int .i64 e32.xChain), (.agg #[(.int .i64 p_2.xFrom), (.int .i64 p_2.xTo), (.int .i64 p_2.xPort), (.int .i64 p_2.xProto)]), (.pointer (some ⟨b3, 0, none⟩))]) (M0 := [cellCh b3 [v112] 128, ownCh elGVisit 157 v112 xs111]) Tryd.call91 rfl rfl (by intro w m h; exact (ih (F := allB [cellCh b3 [v112] 128, ownCh elGVisit 157 v112 xs111] w) (s_0 := s_0) (chain_1 := e32.xChain) (p_2 := p_2) (out_3 := xs111) allB_ok m.given (m.rdM 3 rfl (reads_snap hv1)) h).mono (fun _ _ k => ret_free (fun r u => (fr_cons free_cell (fr_cons (free_own flelGVisit) fr_nil))) k)) ?_); rintro ⟨r177, r178⟩ v179
                    refine o_as st rfl rfl ?_
                    refine c_nil ?_
                    refine l_then ?_
                    refine c_seq ?_
                    refine c_region ?_
                    refine o_mv st rfl rfl ?_
                    refine o_neq st und3 rfl rfl rfl ?_
                    refine c_nil ?_
                    refine l_then ?_
                    refine c_cond rfl ?_ ?_
                    · refine c_seq ?_
                      refine c_region ?_
                      refine o_mv st rfl rfl ?_
                      refine o_as st rfl rfl ?_
                      refine c_nil ?_
                      refine l_then ?_
                      refine c_ret ?_
                      refine b_ret ?_
                      refine b_ret ?_
                      refine l_ret ?_
                      refine l_ret ?_
                      refine b_ret ?_
                      refine l_ret ?_
                      exact l_end1 Tryd.results91 (r177, r178) v179 (rv_t rfl) (fun w m => NewCh.ofB m [0, 1] rfl)
                    · refine c_skip ?_
                      refine b_norm ?_
                      refine b_norm ?_
                      exact l_join r178 (fun a w hE hm => ⟨v179, hE.sub ⟨rfl, rfl, rfl, rfl, rfl, trivial⟩, (hm.pick [3, 4, 0, 1, 5] rfl)⟩)
                  · refine c_skip ?_
                    refine b_norm ?_
                    refine b_norm ?_
                    exact l_join xs111 (fun a w hE hm => ⟨v112, hE.sub ⟨rfl, rfl, rfl, rfl, rfl, trivial⟩, (hm.pick [1, 2, 3, 4, 5] rfl)⟩)
      · rintro xs241 a w ⟨v242, hE, hm⟩ h
        refine nx_of hE hm h ?_
        clear hE hm h
        refine c_region ?_
        refine o_mv st rfl rfl ?_
        refine o_add st rfl rfl rfl ?_; intro t245
        refine o_as st rfl rfl ?_
        refine c_nil ?_
        exact l_join (xs241, t245) (fun a w hE hm => ⟨v242, hE.sub ⟨rfl, rfl, rfl, rfl, rfl, trivial⟩, (hm.pick [0, 1, 2, 4, 3] rfl)⟩)
    · refine c_exit ?_
      refine l_exit ?_
      refine l_exit ?_
      refine b_exit ?_
      refine l_then ?_
      refine c_seq ?_
      refine c_region ?_
      refine o_as st rfl rfl ?_
      refine c_nil ?_
      refine l_then ?_
      refine c_ret ?_
      exact l_end1 Tryd.results91 (5, xs15) v14 (rv_t rfl) (fun w m => NewCh.ofB m [2, 4] rfl)
theorem w_spec_l9Walk {w0 : World} {F : Nat → Prop} {b3 : Nat} {v1 : Value} {v4 : Value} {s_0 : GRuleset} {chain_1 : Int} {p_2 : GPacket} {out_3 : (List GVisit)} {κ : (Int × (List GVisit)) → Prop} (hF : ∀ b, F b → b < w0.heap.size ∧ ¬ feet [cellCh b3 [v4] 128, ownCh elGVisit 157 v4 out_3] b) (hg : Given [cellCh b3 [v4] 128, ownCh elGVisit 157 v4 out_3] F w0) (hv1 : Sl (elSl elGRule) F w0 v1 s_0.xChains) (h : L_spec_l9Walk s_0 chain_1 p_2 out_3 κ) :
    Calls Tryd.prog 91 #[(.agg #[v1, (.bool s_0.xAccept)]), (.int .i64 chain_1), (.agg #[(.int .i64 p_2.xFrom), (.int .i64 p_2.xTo), (.int .i64 p_2.xPort), (.int .i64 p_2.xProto)]), (.pointer (some ⟨b3, 0, none⟩))] w0 (Ret [cellCh b3 [v4] 128, ownCh elGVisit 157 v4 out_3] F w0 κ (fun (r : (Int × (List GVisit))) (u : Value) => (.int .i64 r.1)) (fun (r : (Int × (List GVisit))) (u : Value) => [cellCh b3 [u] 128, ownCh elGVisit 157 u r.2])) := by
  obtain ⟨n, h⟩ := h
  exact wr_spec_l9Walk n hF hg hv1 h

set_option maxRecDepth 100000 in
set_option maxHeartbeats 8000000 in
theorem w_spec_Judge {w0 : World} {F : Nat → Prop} {v1 : Value} {s_0 : GRuleset} {p_1 : GPacket} {κ : Bool → Prop} (hF : ∀ b, F b → b < w0.heap.size ∧ ¬ feet [] b) (hv1 : Sl (elSl elGRule) F w0 v1 s_0.xChains) (h : L_spec_Judge s_0 p_1 κ) :
    Calls Tryd.prog 55 #[(.agg #[v1, (.bool s_0.xAccept)]), (.agg #[(.int .i64 p_1.xFrom), (.int .i64 p_1.xTo), (.int .i64 p_1.xPort), (.int .i64 p_1.xProto)])] w0 (Ret [] F w0 κ (fun (r : Bool) (u : Unit) => (.bool r)) (fun (r : Bool) (u : Unit) => [])) := by
  refine enterS (args := [(.agg #[v1, (.bool s_0.xAccept)]), (.agg #[(.int .i64 p_1.xFrom), (.int .i64 p_1.xTo), (.int .i64 p_1.xPort), (.int .i64 p_1.xProto)])]) [] hF (Given.nil _ _) Tryd.func55 rfl Tryd.ntmps55 rfl h ?_
  clear h hF
  refine c_seq ?_
  refine c_region ?_
  obtain ⟨a3, l4, q5, hs_⟩ := sl_val hv1; subst hs_
  refine stw (o_box rfl rfl [(.slice a3 l4 q5), (.bool s_0.xAccept)] rfl ?_); intro b6
  refine stw (o_box rfl rfl [(.int .i64 p_1.xFrom), (.int .i64 p_1.xTo), (.int .i64 p_1.xPort), (.int .i64 p_1.xProto)] rfl ?_); intro b8
  refine o_as st rfl rfl ?_
  refine c_nil ?_
  refine l_then ?_
  refine c_seq ?_
  refine c_join (σ := Bool) (fun (t72 : Bool) (a : Act) (w : World) => Has 29 [(2, (.pointer (some ⟨b6, 0, none⟩))), (3, (.pointer (some ⟨b8, 0, none⟩))), (14, (.bool t72))] a ∧ Mem (gB F [] w0) (feet []) w0 [cellCh b8 [(.int .i64 p_1.xFrom), (.int .i64 p_1.xTo), (.int .i64 p_1.xPort), (.int .i64 p_1.xProto)] 40, cellCh b6 [(.slice a3 l4 q5), (.bool s_0.xAccept)] 25, snapCh w0 F] w) ?_ ?_
  · intro k73
    refine c_region ?_
    refine o_ldc st (v := (.agg #[(.slice a3 l4 q5), (.bool s_0.xAccept)])) 1 rfl rfl rfl ty25 rfl ?_
    refine stw (o_callP (vs := [(.agg #[(.slice a3 l4 q5), (.bool s_0.xAccept)])]) Tryd.call22 rfl rfl (by intro w m h; exact (w_spec_RulesetValid (F := allB [] w) (s_0 := s_0) allB_ok (m.rd0 2 rfl (reads_snap hv1)) h).mono (fun _ _ k => ret_free (fun r u => fr_nil) k)) ?_); rintro r10 _
    refine o_not st rfl rfl ?_
    refine o_mv st rfl rfl ?_
    refine st_sp (dj := 10) rfl ?_ ?_
    · refine st_s rfl rfl rfl rfl ?_
      refine st_s rfl rfl rfl rfl ?_
      refine st_s rfl rfl rfl rfl ?_
      refine o_pickT st rfl rfl rfl ?_
      refine c_nil ?_
      exact l_join true (fun a w hE hm => ⟨hE.sub ⟨rfl, rfl, rfl, trivial⟩, (hm.pick [0, 1, 2] rfl)⟩)
    · refine o_ldc (st_g rfl rfl) (v := (.agg #[(.int .i64 p_1.xFrom), (.int .i64 p_1.xTo), (.int .i64 p_1.xPort), (.int .i64 p_1.xProto)])) 0 rfl rfl rfl ty40 rfl ?_
      refine st_gw rfl rfl (o_callP (vs := [(.agg #[(.int .i64 p_1.xFrom), (.int .i64 p_1.xTo), (.int .i64 p_1.xPort), (.int .i64 p_1.xProto)])]) Tryd.call23 rfl rfl (by intro w m h; exact (w_spec_PacketValid (F := allB [] w) (p_0 := p_1) allB_ok h).mono (fun _ _ k => ret_free (fun r u => fr_nil) k)) ?_); rintro r11 _
      refine o_not (st_g rfl rfl) rfl rfl ?_
      refine o_pickF st rfl rfl rfl ?_
      refine c_nil ?_
      exact l_join (!r11) (fun a w hE hm => ⟨hE.sub ⟨rfl, rfl, rfl, trivial⟩, (hm.pick [0, 1, 2] rfl)⟩)
  · rintro t72 a w ⟨hE, hm⟩ h
    refine nx_of hE hm h ?_
    clear hE hm h
    refine c_cond rfl ?_ ?_
    · refine c_seq ?_
      refine c_region ?_
      refine o_as st rfl rfl ?_
      refine c_nil ?_
      refine l_then ?_
      refine c_ret ?_
      refine l_ret ?_
      exact l_end1 Tryd.results55 false () (rv_t rfl) (fun _ _ => NewCh.nil _ _ _ _)
    · refine c_skip ?_
      refine l_then ?_
      refine c_seq ?_
      refine c_region ?_
      refine stw (o_bsl (enc := encGVisit) (qs := []) (cells := []) ([] : (List GVisit)) flelGVisit (by intro ρ h; simp only [List.map_toArray, List.map_cons, List.map_nil]) rfl el128 zero157 rfl rfl rfl rfl rfl rfl ?_); intro v74
      refine stw (o_alloc rfl [(.slice none 0 0)] zero128 ?_); intro b76
      refine nx_own 1 rfl ?_; rintro a78 l79 q80 rfl
      refine stw (o_stc (cs' := [(.slice a78 l79 q80)]) 0 rfl rfl rfl ty128 rfl rfl rfl rfl ?_)
      refine c_nil ?_
      refine l_then ?_
      refine c_seq ?_
      refine c_region ?_
      refine o_ldc st (v := (.agg #[(.slice a3 l4 q5), (.bool s_0.xAccept)])) 3 rfl rfl rfl ty25 rfl ?_
      refine o_ldc st (v := (.agg #[(.int .i64 p_1.xFrom), (.int .i64 p_1.xTo), (.int .i64 p_1.xPort), (.int .i64 p_1.xProto)])) 2 rfl rfl rfl ty40 rfl ?_
      refine stw (o_call (vs := [(.agg #[(.slice a3 l4 q5), (.bool s_0.xAccept)]), (.int .i64 0), (.agg #[(.int .i64 p_1.xFrom), (.int .i64 p_1.xTo), (.int .i64 p_1.xPort), (.int .i64 p_1.xProto)]), (.pointer (some ⟨b76, 0, none⟩))]) (M0 := [cellCh b76 [(.slice a78 l79 q80)] 128, ownCh elGVisit 157 (.slice a78 l79 q80) ([])]) Tryd.call91 rfl rfl (by intro w m h; exact (w_spec_l9Walk (F := allB [cellCh b76 [(.slice a78 l79 q80)] 128, ownCh elGVisit 157 (.slice a78 l79 q80) ([])] w) (s_0 := s_0) (chain_1 := 0) (p_2 := p_1) (out_3 := ([])) allB_ok m.given (m.rdM 2 rfl (reads_snap hv1)) h).mono (fun _ _ k => ret_free (fun r u => (fr_cons free_cell (fr_cons (free_own flelGVisit) fr_nil))) k)) ?_); rintro ⟨r81, r82⟩ v83
      refine o_as st rfl rfl ?_
      refine c_nil ?_
      refine l_then ?_
      refine c_join (σ := Bool) (fun (t145 : Bool) (a : Act) (w : World) => Has 29 [(4, (.bool t145))] a ∧ Mem (gB F [] w0) (feet []) w0 [] w) ?_ ?_
      · intro k146
        refine c_region ?_
        refine o_mv st rfl rfl ?_
        refine o_eql st und3 rfl rfl rfl ?_
        refine o_mv st rfl rfl ?_
        refine st_sp (dj := 21) rfl ?_ ?_
        · refine st_s rfl rfl rfl rfl ?_
          refine st_s rfl rfl rfl rfl ?_
          refine st_s rfl rfl rfl rfl ?_
          refine st_s rfl rfl rfl rfl ?_
          refine st_s rfl rfl rfl rfl ?_
          refine st_s rfl rfl rfl rfl ?_
          refine o_pickT st rfl rfl rfl ?_
          refine o_as st rfl rfl ?_
          refine c_nil ?_
          exact l_join true (fun a w hE hm => ⟨hE.sub ⟨rfl, trivial⟩, (hm.pick [] rfl)⟩)
        · refine o_mv (st_g rfl rfl) rfl rfl ?_
          refine o_eql (st_g rfl rfl) und3 rfl rfl rfl ?_
          refine o_mv (st_g rfl rfl) rfl rfl ?_
          refine st_sp (dj := 24) rfl ?_ ?_
          · refine o_fad (st_g rfl rfl) rfl rfl fld25_1 rfl ?_
            refine o_ldc (st_g rfl rfl) (v := (.bool s_0.xAccept)) 3 rfl rfl rfl ty4 rfl ?_
            refine o_pickT (st_g rfl rfl) rfl rfl rfl ?_
            refine o_pickF st rfl rfl rfl ?_
            refine o_as st rfl rfl ?_
            refine c_nil ?_
            exact l_join s_0.xAccept (fun a w hE hm => ⟨hE.sub ⟨rfl, trivial⟩, (hm.pick [] rfl)⟩)
          · refine st_s rfl rfl rfl rfl ?_
            refine st_s rfl rfl rfl rfl ?_
            refine o_pickF (st_g rfl rfl) rfl rfl rfl ?_
            refine o_pickF st rfl rfl rfl ?_
            refine o_as st rfl rfl ?_
            refine c_nil ?_
            exact l_join false (fun a w hE hm => ⟨hE.sub ⟨rfl, trivial⟩, (hm.pick [] rfl)⟩)
      · rintro t145 a w ⟨hE, hm⟩ h
        refine nx_of hE hm h ?_
        clear hE hm h
        refine c_ret ?_
        exact l_end1 Tryd.results55 t145 () (rv_t rfl) (fun _ _ => NewCh.nil _ _ _ _)

set_option maxRecDepth 100000 in
set_option maxHeartbeats 8000000 in
theorem w_laws_szTestS {w0 : World} {F : Nat → Prop} {v1 : Value} {a_0 : (List GTest)} {left_1 : Int} {κ : Int → Prop} (hF : ∀ b, F b → b < w0.heap.size ∧ ¬ feet [] b) (hv1 : Sl elGTest F w0 v1 a_0) (h : L_laws_szTestS a_0 left_1 κ) :
    Calls Tryd.prog 120 #[v1, (.int .i64 left_1)] w0 (Ret [] F w0 κ (fun (r : Int) (u : Unit) => (.int .i64 r)) (fun (r : Int) (u : Unit) => [])) := by
  refine enterS (args := [v1, (.int .i64 left_1)]) [] hF (Given.nil _ _) Tryd.func120 rfl Tryd.ntmps120 rfl h ?_
  clear h hF
  refine c_seq ?_
  refine c_region ?_
  refine o_as st rfl rfl ?_
  refine c_nil ?_
  refine l_then ?_
  refine c_seq ?_
  refine c_region ?_
  refine o_mv st rfl rfl ?_
  refine o_mv st rfl rfl ?_
  refine o_len st el163 0 rfl (reads_snap hv1) rfl rfl ?_
  refine o_sub st rfl rfl rfl ?_; intro t3
  refine o_as st rfl rfl ?_
  refine c_nil ?_
  refine l_then ?_
  refine c_seq ?_
  refine c_seq ?_
  refine c_region ?_
  refine o_mv st rfl rfl ?_
  refine o_lss st rfl rfl rfl ?_
  refine c_nil ?_
  refine l_then ?_
  refine c_cond rfl ?_ ?_
  · refine c_seq ?_
    refine c_region ?_
    refine o_as st rfl rfl ?_
    refine c_nil ?_
    refine l_then ?_
    refine c_ret ?_
    refine l_ret ?_
    exact l_end1 Tryd.results120 (-1) () (rv_t rfl) (fun _ _ => NewCh.nil _ _ _ _)
  · refine c_skip ?_
    refine l_then ?_
    refine c_seq ?_
    refine c_region ?_
    refine o_mv st rfl rfl ?_
    refine o_as st rfl rfl ?_
    refine c_nil ?_
    refine l_then ?_
    refine c_ret ?_
    exact l_end1 Tryd.results120 t3 () (rv_t rfl) (fun _ _ => NewCh.nil _ _ _ _)

set_option maxRecDepth 100000 in
set_option maxHeartbeats 8000000 in
theorem w_laws_szRule {w0 : World} {F : Nat → Prop} {v1 : Value} {a_0 : GRule} {left_1 : Int} {κ : Int → Prop} (hF : ∀ b, F b → b < w0.heap.size ∧ ¬ feet [] b) (hv1 : Sl elGTest F w0 v1 a_0.xTests) (h : L_laws_szRule a_0 left_1 κ) :
    Calls Tryd.prog 109 #[(.agg #[v1, (.int .i64 a_0.xAction), (.int .i64 a_0.xChain)]), (.int .i64 left_1)] w0 (Ret [] F w0 κ (fun (r : Int) (u : Unit) => (.int .i64 r)) (fun (r : Int) (u : Unit) => [])) := by
  refine enterS (args := [(.agg #[v1, (.int .i64 a_0.xAction), (.int .i64 a_0.xChain)]), (.int .i64 left_1)]) [] hF (Given.nil _ _) Tryd.func109 rfl Tryd.ntmps109 rfl h ?_
  clear h hF
  refine c_seq ?_
  refine c_region ?_
  obtain ⟨a3, l4, q5, hs_⟩ := sl_val hv1; subst hs_
  refine stw (o_box rfl rfl [(.slice a3 l4 q5), (.int .i64 a_0.xAction), (.int .i64 a_0.xChain)] rfl ?_); intro b6
  refine o_as st rfl rfl ?_
  refine c_nil ?_
  refine l_then ?_
  refine c_seq ?_
  refine c_region ?_
  refine o_fad st rfl rfl fld165_0 rfl ?_
  refine o_ldc st (v := (.slice a3 l4 q5)) 0 rfl rfl rfl ty163 rfl ?_
  refine o_mv st rfl rfl ?_
  refine stw (o_callP (vs := [(.slice a3 l4 q5), (.int .i64 left_1)]) Tryd.call120 rfl rfl (by intro w m h; exact (w_laws_szTestS (F := allB [] w) (a_0 := a_0.xTests) (left_1 := left_1) allB_ok (m.rd0 1 rfl (reads_snap hv1)) h).mono (fun _ _ k => ret_free (fun r u => fr_nil) k)) ?_); rintro r8 _
  refine o_as st rfl rfl ?_
  refine c_nil ?_
  refine l_then ?_
  refine c_seq ?_
  refine c_seq ?_
  refine c_region ?_
  refine o_mv st rfl rfl ?_
  refine o_lss st rfl rfl rfl ?_
  refine c_nil ?_
  refine l_then ?_
  refine c_cond rfl ?_ ?_
  · refine c_seq ?_
    refine c_region ?_
    refine o_as st rfl rfl ?_
    refine c_nil ?_
    refine l_then ?_
    refine c_ret ?_
    refine l_ret ?_
    exact l_end1 Tryd.results109 (-1) () (rv_t rfl) (fun _ _ => NewCh.nil _ _ _ _)
  · refine c_skip ?_
    refine l_then ?_
    refine c_seq ?_
    refine c_region ?_
    refine o_mv st rfl rfl ?_
    refine o_as st rfl rfl ?_
    refine c_nil ?_
    refine l_then ?_
    refine c_ret ?_
    exact l_end1 Tryd.results109 r8 () (rv_t rfl) (fun _ _ => NewCh.nil _ _ _ _)

set_option maxRecDepth 100000 in
set_option maxHeartbeats 8000000 in
theorem w_laws_szRuleS {w0 : World} {F : Nat → Prop} {v1 : Value} {a_0 : (List GRule)} {left_1 : Int} {κ : Int → Prop} (hF : ∀ b, F b → b < w0.heap.size ∧ ¬ feet [] b) (hv1 : Sl elGRule F w0 v1 a_0) (h : L_laws_szRuleS a_0 left_1 κ) :
    Calls Tryd.prog 92 #[v1, (.int .i64 left_1)] w0 (Ret [] F w0 κ (fun (r : Int) (u : Unit) => (.int .i64 r)) (fun (r : Int) (u : Unit) => [])) := by
  refine enterS (args := [v1, (.int .i64 left_1)]) [] hF (Given.nil _ _) Tryd.func92 rfl Tryd.ntmps92 rfl h ?_
  clear h hF
  refine c_seq ?_
  refine c_region ?_
  refine o_as st rfl rfl ?_
  refine c_nil ?_
  refine l_then ?_
  refine c_seq ?_
  refine c_region ?_
  refine o_mv st rfl rfl ?_
  refine o_mv st rfl rfl ?_
  refine o_len st el136 0 rfl (reads_snap hv1) rfl rfl ?_
  refine o_sub st rfl rfl rfl ?_; intro t3
  refine o_as st rfl rfl ?_
  refine c_nil ?_
  refine l_then ?_
  refine c_seq ?_
  refine c_seq ?_
  refine c_region ?_
  refine o_mv st rfl rfl ?_
  refine o_lss st rfl rfl rfl ?_
  refine c_nil ?_
  refine l_then ?_
  refine c_cond rfl ?_ ?_
  · refine c_seq ?_
    refine c_region ?_
    refine o_as st rfl rfl ?_
    refine c_nil ?_
    refine l_then ?_
    refine c_ret ?_
    refine l_ret ?_
    exact l_end1 Tryd.results92 (-1) () (rv_t rfl) (fun _ _ => NewCh.nil _ _ _ _)
  · refine c_skip ?_
    refine l_then ?_
    refine c_seq ?_
    refine c_seq ?_
    refine c_region ?_
    refine o_as st rfl rfl ?_
    refine c_nil ?_
    refine l_then ?_
    refine c_block ?_
    refine c_loop (σ := (Int × Int)) (fun ((t4, t5) : (Int × Int)) (a : Act) (w : World) => Has 27 [(0, v1), (1, (.int .i64 t4)), (5, (.int .i64 t5))] a ∧ Mem (gB F [] w0) (feet []) w0 [snapCh w0 F] w) (fun a w hE hm => ⟨hE.sub ⟨rfl, rfl, rfl, trivial⟩, (hm.pick [0] rfl)⟩) ?_
    rintro nx6 ⟨t4, t5⟩ a w ⟨hE, hm⟩ h
    refine nx_of hE hm h ?_
    clear hE hm h
    refine c_seq ?_
    refine c_seq ?_
    refine c_region ?_
    refine o_mv st rfl rfl ?_
    refine o_mv st rfl rfl ?_
    refine o_len st el136 0 rfl (reads_snap hv1) rfl rfl ?_
    refine o_lss st rfl rfl rfl ?_
    refine c_nil ?_
    refine l_then ?_
    refine c_cond rfl ?_ ?_
    · refine c_skip ?_
      refine l_then ?_
      refine c_seq ?_
      refine c_block ?_
      refine c_seq ?_
      refine c_region ?_
      refine o_mv st rfl rfl ?_
      refine o_mv st rfl rfl ?_
      refine o_idx st 0 rfl (reads_snap hv1) rfl rfl rfl el136 ?_; intro e7 h8
      obtain ⟨_, ⟨v10, rfl, sl11⟩, rw9⟩ := sl_open hv1 h8
      refine o_ldR st (u := (.agg #[v10, (.int .i64 e7.xAction), (.int .i64 e7.xChain)])) 0 rfl rw9 rfl rfl ty165 rfl ?_
      refine o_mv st rfl rfl ?_
      refine stw (o_callP (vs := [(.agg #[v10, (.int .i64 e7.xAction), (.int .i64 e7.xChain)]), (.int .i64 t4)]) Tryd.call109 rfl rfl (by intro w m h; exact (w_laws_szRule (F := allB [] w) (a_0 := e7) (left_1 := t4) allB_ok (m.rd0 0 rfl (reads_snap sl11)) h).mono (fun _ _ k => ret_free (fun r u => fr_nil) k)) ?_); rintro r13 _
      refine o_as st rfl rfl ?_
      refine c_nil ?_
      refine l_then ?_
      refine c_seq ?_
      refine c_region ?_
      refine o_mv st rfl rfl ?_
      refine o_lss st rfl rfl rfl ?_
      refine c_nil ?_
      refine l_then ?_
      refine c_cond rfl ?_ ?_
      · refine c_seq ?_
        refine c_region ?_
        refine o_as st rfl rfl ?_
        refine c_nil ?_
        refine l_then ?_
        refine c_ret ?_
        refine b_ret ?_
        refine l_ret ?_
        refine l_ret ?_
        refine b_ret ?_
        refine l_ret ?_
        exact l_end1 Tryd.results92 (-1) () (rv_t rfl) (fun _ _ => NewCh.nil _ _ _ _)
      · refine c_skip ?_
        refine b_norm ?_
        refine l_then ?_
        refine c_region ?_
        refine o_mv st rfl rfl ?_
        refine o_add st rfl rfl rfl ?_; intro t14
        refine o_as st rfl rfl ?_
        refine c_nil ?_
        exact l_join (r13, t14) (fun a w hE hm => ⟨hE.sub ⟨rfl, rfl, rfl, trivial⟩, (hm.pick [0] rfl)⟩)
    · refine c_exit ?_
      refine l_exit ?_
      refine l_exit ?_
      refine b_exit ?_
      refine l_then ?_
      refine c_seq ?_
      refine c_region ?_
      refine o_mv st rfl rfl ?_
      refine o_as st rfl rfl ?_
      refine c_nil ?_
      refine l_then ?_
      refine c_ret ?_
      exact l_end1 Tryd.results92 t4 () (rv_t rfl) (fun _ _ => NewCh.nil _ _ _ _)

set_option maxRecDepth 100000 in
set_option maxHeartbeats 8000000 in
theorem w_laws_szRuleSS {w0 : World} {F : Nat → Prop} {v1 : Value} {a_0 : (List (List GRule))} {left_1 : Int} {κ : Int → Prop} (hF : ∀ b, F b → b < w0.heap.size ∧ ¬ feet [] b) (hv1 : Sl (elSl elGRule) F w0 v1 a_0) (h : L_laws_szRuleSS a_0 left_1 κ) :
    Calls Tryd.prog 57 #[v1, (.int .i64 left_1)] w0 (Ret [] F w0 κ (fun (r : Int) (u : Unit) => (.int .i64 r)) (fun (r : Int) (u : Unit) => [])) := by
  refine enterS (args := [v1, (.int .i64 left_1)]) [] hF (Given.nil _ _) Tryd.func57 rfl Tryd.ntmps57 rfl h ?_
  clear h hF
  refine c_seq ?_
  refine c_region ?_
  refine o_as st rfl rfl ?_
  refine c_nil ?_
  refine l_then ?_
  refine c_seq ?_
  refine c_region ?_
  refine o_mv st rfl rfl ?_
  refine o_mv st rfl rfl ?_
  refine o_len st el32 0 rfl (reads_snap hv1) rfl rfl ?_
  refine o_sub st rfl rfl rfl ?_; intro t3
  refine o_as st rfl rfl ?_
  refine c_nil ?_
  refine l_then ?_
  refine c_seq ?_
  refine c_seq ?_
  refine c_region ?_
  refine o_mv st rfl rfl ?_
  refine o_lss st rfl rfl rfl ?_
  refine c_nil ?_
  refine l_then ?_
  refine c_cond rfl ?_ ?_
  · refine c_seq ?_
    refine c_region ?_
    refine o_as st rfl rfl ?_
    refine c_nil ?_
    refine l_then ?_
    refine c_ret ?_
    refine l_ret ?_
    exact l_end1 Tryd.results57 (-1) () (rv_t rfl) (fun _ _ => NewCh.nil _ _ _ _)
  · refine c_skip ?_
    refine l_then ?_
    refine c_seq ?_
    refine c_seq ?_
    refine c_region ?_
    refine o_as st rfl rfl ?_
    refine c_nil ?_
    refine l_then ?_
    refine c_block ?_
    refine c_loop (σ := (Int × Int)) (fun ((t4, t5) : (Int × Int)) (a : Act) (w : World) => Has 27 [(0, v1), (1, (.int .i64 t4)), (5, (.int .i64 t5))] a ∧ Mem (gB F [] w0) (feet []) w0 [snapCh w0 F] w) (fun a w hE hm => ⟨hE.sub ⟨rfl, rfl, rfl, trivial⟩, (hm.pick [0] rfl)⟩) ?_
    rintro nx6 ⟨t4, t5⟩ a w ⟨hE, hm⟩ h
    refine nx_of hE hm h ?_
    clear hE hm h
    refine c_seq ?_
    refine c_seq ?_
    refine c_region ?_
    refine o_mv st rfl rfl ?_
    refine o_mv st rfl rfl ?_
    refine o_len st el32 0 rfl (reads_snap hv1) rfl rfl ?_
    refine o_lss st rfl rfl rfl ?_
    refine c_nil ?_
    refine l_then ?_
    refine c_cond rfl ?_ ?_
    · refine c_skip ?_
      refine l_then ?_
      refine c_seq ?_
      refine c_block ?_
      refine c_seq ?_
      refine c_region ?_
      refine o_mv st rfl rfl ?_
      refine o_mv st rfl rfl ?_
      refine o_idx st 0 rfl (reads_snap hv1) rfl rfl rfl el32 ?_; intro e7 h8
      obtain ⟨_, ⟨v10, rfl, sl11⟩, rw9⟩ := sl_open hv1 h8
      refine o_ldR st (u := v10) 0 rfl rw9 rfl rfl ty136 rfl ?_
      refine o_mv st rfl rfl ?_
      refine stw (o_callP (vs := [v10, (.int .i64 t4)]) Tryd.call92 rfl rfl (by intro w m h; exact (w_laws_szRuleS (F := allB [] w) (a_0 := e7) (left_1 := t4) allB_ok (m.rd0 0 rfl (reads_snap sl11)) h).mono (fun _ _ k => ret_free (fun r u => fr_nil) k)) ?_); rintro r13 _
      refine o_as st rfl rfl ?_
      refine c_nil ?_
      refine l_then ?_
      refine c_seq ?_
      refine c_region ?_
      refine o_mv st rfl rfl ?_
      refine o_lss st rfl rfl rfl ?_
      refine c_nil ?_
      refine l_then ?_
      refine c_cond rfl ?_ ?_
      · refine c_seq ?_
        refine c_region ?_
        refine o_as st rfl rfl ?_
        refine c_nil ?_
        refine l_then ?_
        refine c_ret ?_
        refine b_ret ?_
        refine l_ret ?_
        refine l_ret ?_
        refine b_ret ?_
        refine l_ret ?_
        exact l_end1 Tryd.results57 (-1) () (rv_t rfl) (fun _ _ => NewCh.nil _ _ _ _)
      · refine c_skip ?_
        refine b_norm ?_
        refine l_then ?_
        refine c_region ?_
        refine o_mv st rfl rfl ?_
        refine o_add st rfl rfl rfl ?_; intro t14
        refine o_as st rfl rfl ?_
        refine c_nil ?_
        exact l_join (r13, t14) (fun a w hE hm => ⟨hE.sub ⟨rfl, rfl, rfl, trivial⟩, (hm.pick [0] rfl)⟩)
    · refine c_exit ?_
      refine l_exit ?_
      refine l_exit ?_
      refine b_exit ?_
      refine l_then ?_
      refine c_seq ?_
      refine c_region ?_
      refine o_mv st rfl rfl ?_
      refine o_as st rfl rfl ?_
      refine c_nil ?_
      refine l_then ?_
      refine c_ret ?_
      exact l_end1 Tryd.results57 t4 () (rv_t rfl) (fun _ _ => NewCh.nil _ _ _ _)

set_option maxRecDepth 100000 in
set_option maxHeartbeats 8000000 in
theorem w_laws_szRuleset {w0 : World} {F : Nat → Prop} {v1 : Value} {a_0 : GRuleset} {left_1 : Int} {κ : Int → Prop} (hF : ∀ b, F b → b < w0.heap.size ∧ ¬ feet [] b) (hv1 : Sl (elSl elGRule) F w0 v1 a_0.xChains) (h : L_laws_szRuleset a_0 left_1 κ) :
    Calls Tryd.prog 15 #[(.agg #[v1, (.bool a_0.xAccept)]), (.int .i64 left_1)] w0 (Ret [] F w0 κ (fun (r : Int) (u : Unit) => (.int .i64 r)) (fun (r : Int) (u : Unit) => [])) := by
  refine enterS (args := [(.agg #[v1, (.bool a_0.xAccept)]), (.int .i64 left_1)]) [] hF (Given.nil _ _) Tryd.func15 rfl Tryd.ntmps15 rfl h ?_
  clear h hF
  refine c_seq ?_
  refine c_region ?_
  obtain ⟨a3, l4, q5, hs_⟩ := sl_val hv1; subst hs_
  refine stw (o_box rfl rfl [(.slice a3 l4 q5), (.bool a_0.xAccept)] rfl ?_); intro b6
  refine o_as st rfl rfl ?_
  refine c_nil ?_
  refine l_then ?_
  refine c_seq ?_
  refine c_region ?_
  refine o_fad st rfl rfl fld34_0 rfl ?_
  refine o_ldc st (v := (.slice a3 l4 q5)) 0 rfl rfl rfl ty32 rfl ?_
  refine o_mv st rfl rfl ?_
  refine stw (o_callP (vs := [(.slice a3 l4 q5), (.int .i64 left_1)]) Tryd.call57 rfl rfl (by intro w m h; exact (w_laws_szRuleSS (F := allB [] w) (a_0 := a_0.xChains) (left_1 := left_1) allB_ok (m.rd0 1 rfl (reads_snap hv1)) h).mono (fun _ _ k => ret_free (fun r u => fr_nil) k)) ?_); rintro r8 _
  refine o_as st rfl rfl ?_
  refine c_nil ?_
  refine l_then ?_
  refine c_seq ?_
  refine c_seq ?_
  refine c_region ?_
  refine o_mv st rfl rfl ?_
  refine o_lss st rfl rfl rfl ?_
  refine c_nil ?_
  refine l_then ?_
  refine c_cond rfl ?_ ?_
  · refine c_seq ?_
    refine c_region ?_
    refine o_as st rfl rfl ?_
    refine c_nil ?_
    refine l_then ?_
    refine c_ret ?_
    refine l_ret ?_
    exact l_end1 Tryd.results15 (-1) () (rv_t rfl) (fun _ _ => NewCh.nil _ _ _ _)
  · refine c_skip ?_
    refine l_then ?_
    refine c_seq ?_
    refine c_region ?_
    refine o_mv st rfl rfl ?_
    refine o_as st rfl rfl ?_
    refine c_nil ?_
    refine l_then ?_
    refine c_ret ?_
    exact l_end1 Tryd.results15 r8 () (rv_t rfl) (fun _ _ => NewCh.nil _ _ _ _)

set_option maxRecDepth 100000 in
set_option maxHeartbeats 8000000 in
theorem w_spec_l19Same {w0 : World} {F : Nat → Prop} {a_0 : GPacket} {b_1 : GPacket} {κ : Bool → Prop} (hF : ∀ b, F b → b < w0.heap.size ∧ ¬ feet [] b) (h : L_spec_l19Same a_0 b_1 κ) :
    Calls Tryd.prog 76 #[(.agg #[(.int .i64 a_0.xFrom), (.int .i64 a_0.xTo), (.int .i64 a_0.xPort), (.int .i64 a_0.xProto)]), (.agg #[(.int .i64 b_1.xFrom), (.int .i64 b_1.xTo), (.int .i64 b_1.xPort), (.int .i64 b_1.xProto)])] w0 (Ret [] F w0 κ (fun (r : Bool) (u : Unit) => (.bool r)) (fun (r : Bool) (u : Unit) => [])) := by
  refine enter0 (args := [(.agg #[(.int .i64 a_0.xFrom), (.int .i64 a_0.xTo), (.int .i64 a_0.xPort), (.int .i64 a_0.xProto)]), (.agg #[(.int .i64 b_1.xFrom), (.int .i64 b_1.xTo), (.int .i64 b_1.xPort), (.int .i64 b_1.xProto)])]) [] hF (Given.nil _ _) Tryd.func76 rfl Tryd.ntmps76 rfl h ?_
  clear h hF
  refine c_seq ?_
  refine c_region ?_
  refine stw (o_box rfl rfl [(.int .i64 a_0.xFrom), (.int .i64 a_0.xTo), (.int .i64 a_0.xPort), (.int .i64 a_0.xProto)] rfl ?_); intro b1
  refine stw (o_box rfl rfl [(.int .i64 b_1.xFrom), (.int .i64 b_1.xTo), (.int .i64 b_1.xPort), (.int .i64 b_1.xProto)] rfl ?_); intro b3
  refine o_as st rfl rfl ?_
  refine c_nil ?_
  refine l_then ?_
  refine c_join (σ := Bool) (fun (t66 : Bool) (a : Act) (w : World) => Has 14 [(4, (.bool t66))] a ∧ Mem (gB F [] w0) (feet []) w0 [] w) ?_ ?_
  · intro k67
    refine c_draw mixed 10 rfl [cellCh b3 [(.int .i64 b_1.xFrom), (.int .i64 b_1.xTo), (.int .i64 b_1.xPort), (.int .i64 b_1.xProto)] 40, cellCh b1 [(.int .i64 a_0.xFrom), (.int .i64 a_0.xTo), (.int .i64 a_0.xPort), (.int .i64 a_0.xProto)] 40] ?_
    refine o_ldc (dt 0 (fun _ m => m)) (v := (.agg #[(.int .i64 a_0.xFrom), (.int .i64 a_0.xTo), (.int .i64 a_0.xPort), (.int .i64 a_0.xProto)])) 1 rfl rfl rfl ty40 rfl ?_
    refine o_ldc (dt 1 (fun _ m => m)) (v := (.agg #[(.int .i64 b_1.xFrom), (.int .i64 b_1.xTo), (.int .i64 b_1.xPort), (.int .i64 b_1.xProto)])) 0 rfl rfl rfl ty40 rfl ?_
    refine o_bin (dt 2 (fun _ m => m)) (.bool (decide (a_0 = b_1))) rfl rfl rfl (eqls40 _ _ a_0.xFrom a_0.xTo a_0.xPort a_0.xProto b_1.xFrom b_1.xTo b_1.xPort b_1.xProto) ?_
    refine o_mv (dt 3 (fun _ m => m)) rfl rfl ?_
    refine st_sp (dj := 8) rfl ?_ ?_
    · refine dsk 4 (fun _ m => m) rfl (by kernel_rfl) rfl rfl rfl rfl ?_
      refine dsk 5 (fun _ m => m) rfl (by kernel_rfl) rfl rfl rfl rfl ?_
      refine dsk 6 (fun _ m => m) rfl (by kernel_rfl) rfl rfl rfl rfl ?_
      refine dsk 7 (fun _ m => m) rfl (by kernel_rfl) rfl rfl rfl rfl ?_
      refine o_pickT (dt 8 (fun _ m => m)) rfl rfl rfl ?_
      refine o_as (dt 9 (fun _ m => m)) rfl rfl ?_
      refine d_done (by kernel_rfl) ?_
      exact l_join true (fun a w hE hm => ⟨hE.sub ⟨rfl, trivial⟩, (hm.pick [] rfl)⟩)
    · refine o_ldc (dtg 4 (fun _ m => m)) (v := (.agg #[(.int .i64 a_0.xFrom), (.int .i64 a_0.xTo), (.int .i64 a_0.xPort), (.int .i64 a_0.xProto)])) 1 rfl rfl rfl ty40 rfl ?_
      refine o_ldc (dtg 5 (fun _ m => m)) (v := (.agg #[(.int .i64 b_1.xFrom), (.int .i64 b_1.xTo), (.int .i64 b_1.xPort), (.int .i64 b_1.xProto)])) 0 rfl rfl rfl ty40 rfl ?_
      refine d_oneg (i := 6) rfl rfl rfl (by kernel_rfl) (o_callP (vs := [(.agg #[(.int .i64 b_1.xFrom), (.int .i64 b_1.xTo), (.int .i64 b_1.xPort), (.int .i64 b_1.xProto)])]) Tryd.call59 rfl rfl (by intro w m h; exact (w_spec_ReversePacket (F := allB [] w) (p_0 := b_1) allB_ok h).mono (fun _ _ k => ret_free (fun r u => fr_nil) k)) ?_); rintro r5 _
      refine d_and (fun _ m => m) ?_
      refine o_bin (dtg 7 (fun _ m => m)) (.bool (decide (a_0 = r5))) rfl rfl rfl (eqls40 _ _ a_0.xFrom a_0.xTo a_0.xPort a_0.xProto r5.xFrom r5.xTo r5.xPort r5.xProto) ?_
      refine o_pickF (dt 8 (fun _ m => m)) rfl rfl rfl ?_
      refine o_as (dt 9 (fun _ m => m)) rfl rfl ?_
      refine d_done (by kernel_rfl) ?_
      exact l_join (decide (a_0 = r5)) (fun a w hE hm => ⟨hE.sub ⟨rfl, trivial⟩, (hm.pick [] rfl)⟩)
  · rintro t66 a w ⟨hE, hm⟩ h
    refine nx_of hE hm h ?_
    clear hE hm h
    refine c_ret ?_
    exact l_end1 Tryd.results76 t66 () (rv_t rfl) (fun _ _ => NewCh.nil _ _ _ _)

set_option maxRecDepth 100000 in
set_option maxHeartbeats 8000000 in
theorem w_spec_FlowsValid {w0 : World} {F : Nat → Prop} {v1 : Value} {list_0 : (List GFlow)} {κ : Bool → Prop} (hF : ∀ b, F b → b < w0.heap.size ∧ ¬ feet [] b) (hv1 : Sl elGFlow F w0 v1 list_0) (h : L_spec_FlowsValid list_0 κ) :
    Calls Tryd.prog 32 #[v1] w0 (Ret [] F w0 κ (fun (r : Bool) (u : Unit) => (.bool r)) (fun (r : Bool) (u : Unit) => [])) := by
  refine enterS (args := [v1]) [] hF (Given.nil _ _) Tryd.func32 rfl Tryd.ntmps32 rfl h ?_
  clear h hF
  refine c_seq ?_
  refine c_region ?_
  refine o_as st rfl rfl ?_
  refine c_nil ?_
  refine l_then ?_
  refine c_seq ?_
  refine c_seq ?_
  refine c_region ?_
  refine o_as st rfl rfl ?_
  refine c_nil ?_
  refine l_then ?_
  refine c_block ?_
  refine c_loop (σ := Int) (fun (t3 : Int) (a : Act) (w : World) => Has 46 [(0, v1), (3, (.int .i64 t3))] a ∧ Mem (gB F [] w0) (feet []) w0 [snapCh w0 F] w) (fun a w hE hm => ⟨hE.sub ⟨rfl, rfl, trivial⟩, (hm.pick [0] rfl)⟩) ?_
  rintro nx4 t3 a w ⟨hE, hm⟩ h
  refine nx_of hE hm h ?_
  clear hE hm h
  refine c_seq ?_
  refine c_seq ?_
  refine c_region ?_
  refine o_mv st rfl rfl ?_
  refine o_mv st rfl rfl ?_
  refine o_len st el53 0 rfl (reads_snap hv1) rfl rfl ?_
  refine o_lss st rfl rfl rfl ?_
  refine c_nil ?_
  refine l_then ?_
  refine c_cond rfl ?_ ?_
  · refine c_skip ?_
    refine l_then ?_
    refine c_seq ?_
    refine c_block ?_
    refine c_seq ?_
    refine c_join (σ := Bool) (fun (t71 : Bool) (a : Act) (w : World) => Has 46 [(0, v1), (3, (.int .i64 t3)), (26, (.bool t71))] a ∧ Mem (gB F [] w0) (feet []) w0 [snapCh w0 F] w) ?_ ?_
    · intro k72
      refine c_region ?_
      refine o_mv st rfl rfl ?_
      refine o_mv st rfl rfl ?_
      refine o_idx st 0 rfl (reads_snap hv1) rfl rfl rfl el53 ?_; intro e5 h6
      refine o_fadS st 0 rfl (reads_snap hv1) h6 rfl rfl fld110_0 rfl ?_
      refine o_lds st (enc := encGFlow) (u := (.agg #[(.int .i64 e5.xWho.xFrom), (.int .i64 e5.xWho.xTo), (.int .i64 e5.xWho.xPort), (.int .i64 e5.xWho.xProto)])) 0 rfl (reads_snap hv1) flelGFlow rfl h6 rfl rfl ty40 rfl ?_
      refine stw (o_callP (vs := [(.agg #[(.int .i64 e5.xWho.xFrom), (.int .i64 e5.xWho.xTo), (.int .i64 e5.xWho.xPort), (.int .i64 e5.xWho.xProto)])]) Tryd.call23 rfl rfl (by intro w m h; exact (w_spec_PacketValid (F := allB [] w) (p_0 := e5.xWho) allB_ok h).mono (fun _ _ k => ret_free (fun r u => fr_nil) k)) ?_); rintro r7 _
      refine o_not st rfl rfl ?_
      refine o_mv st rfl rfl ?_
      refine st_sp (dj := 18) rfl ?_ ?_
      · refine st_s rfl rfl rfl rfl ?_
        refine st_s rfl rfl rfl rfl ?_
        refine st_s rfl rfl rfl rfl ?_
        refine st_s rfl rfl rfl rfl ?_
        refine st_s rfl rfl rfl rfl ?_
        refine st_s rfl rfl rfl rfl ?_
        refine st_s rfl rfl rfl rfl ?_
        refine o_pickT st rfl rfl rfl ?_
        refine c_nil ?_
        exact l_join true (fun a w hE hm => ⟨hE.sub ⟨rfl, rfl, rfl, trivial⟩, (hm.pick [0] rfl)⟩)
      · refine o_mv (st_g rfl rfl) rfl rfl ?_
        refine o_mv (st_g rfl rfl) rfl rfl ?_
        refine o_idx (st_g rfl rfl) 0 rfl (reads_snap hv1) rfl rfl rfl el53 ?_; intro e8 h9
        refine o_fadS (st_g rfl rfl) 0 rfl (reads_snap hv1) h9 rfl rfl fld110_1 rfl ?_
        refine o_lds (st_g rfl rfl) (enc := encGFlow) (u := (.int .i64 e8.xUntil)) 0 rfl (reads_snap hv1) flelGFlow rfl h9 rfl rfl ty3 rfl ?_
        refine st_gw rfl rfl (o_callP (vs := [(.int .i64 e8.xUntil), (.int .i64 0), (.int .i64 1000000)]) Tryd.call58 rfl rfl (by intro w m h; exact (w_spec_l1In (F := allB [] w) (n_0 := e8.xUntil) (lo_1 := 0) (hi_2 := 1000000) allB_ok h).mono (fun _ _ k => ret_free (fun r u => fr_nil) k)) ?_); rintro r10 _
        refine o_not (st_g rfl rfl) rfl rfl ?_
        refine o_pickF st rfl rfl rfl ?_
        refine c_nil ?_
        exact l_join (!r10) (fun a w hE hm => ⟨hE.sub ⟨rfl, rfl, rfl, trivial⟩, (hm.pick [0] rfl)⟩)
    · rintro t71 a w ⟨hE, hm⟩ h
      refine nx_of hE hm h ?_
      clear hE hm h
      refine c_cond rfl ?_ ?_
      · refine c_seq ?_
        refine c_region ?_
        refine o_as st rfl rfl ?_
        refine c_nil ?_
        refine l_then ?_
        refine c_ret ?_
        refine l_ret ?_
        refine b_ret ?_
        refine l_ret ?_
        refine l_ret ?_
        refine b_ret ?_
        refine l_ret ?_
        exact l_end1 Tryd.results32 false () (rv_t rfl) (fun _ _ => NewCh.nil _ _ _ _)
      · refine c_skip ?_
        refine l_then ?_
        refine c_seq ?_
        refine c_region ?_
        refine o_as st rfl rfl ?_
        refine c_nil ?_
        refine l_then ?_
        refine c_block ?_
        refine c_loop (σ := Int) (fun (t73 : Int) (a : Act) (w : World) => Has 46 [(0, v1), (3, (.int .i64 t3)), (4, (.int .i64 t73))] a ∧ Mem (gB F [] w0) (feet []) w0 [snapCh w0 F] w) (fun a w hE hm => ⟨hE.sub ⟨rfl, rfl, rfl, trivial⟩, (hm.pick [0] rfl)⟩) ?_
        rintro nx74 t73 a w ⟨hE, hm⟩ h
        refine nx_of hE hm h ?_
        clear hE hm h
        refine c_seq ?_
        refine c_seq ?_
        refine c_region ?_
        refine o_mv st rfl rfl ?_
        refine o_mv st rfl rfl ?_
        refine o_lss st rfl rfl rfl ?_
        refine c_nil ?_
        refine l_then ?_
        refine c_cond rfl ?_ ?_
        · refine c_skip ?_
          refine l_then ?_
          refine c_seq ?_
          refine c_block ?_
          refine c_seq ?_
          refine c_draw mixed 11 rfl [snapCh w0 F] ?_
          refine o_mv (dt 0 (fun _ m => m)) rfl rfl ?_
          refine o_mv (dt 1 (fun _ m => m)) rfl rfl ?_
          refine o_idx (dt 2 (fun _ m => m)) 0 rfl (reads_snap hv1) rfl rfl rfl el53 ?_; intro e75 h76
          refine o_fadS (dt 3 (fun _ m => m)) 0 rfl (reads_snap hv1) h76 rfl rfl fld110_0 rfl ?_
          refine o_lds (dt 4 (fun _ m => m)) (enc := encGFlow) (u := (.agg #[(.int .i64 e75.xWho.xFrom), (.int .i64 e75.xWho.xTo), (.int .i64 e75.xWho.xPort), (.int .i64 e75.xWho.xProto)])) 0 rfl (reads_snap hv1) flelGFlow rfl h76 rfl rfl ty40 rfl ?_
          refine o_mv (dt 5 (fun _ m => m)) rfl rfl ?_
          refine o_mv (dt 6 (fun _ m => m)) rfl rfl ?_
          refine o_idx (dt 7 (fun _ m => m)) 0 rfl (reads_snap hv1) rfl rfl rfl el53 ?_; intro e77 h78
          refine o_fadS (dt 8 (fun _ m => m)) 0 rfl (reads_snap hv1) h78 rfl rfl fld110_0 rfl ?_
          refine o_lds (dt 9 (fun _ m => m)) (enc := encGFlow) (u := (.agg #[(.int .i64 e77.xWho.xFrom), (.int .i64 e77.xWho.xTo), (.int .i64 e77.xWho.xPort), (.int .i64 e77.xWho.xProto)])) 0 rfl (reads_snap hv1) flelGFlow rfl h78 rfl rfl ty40 rfl ?_
          refine d_one (i := 10) rfl (by kernel_rfl) (o_callP (vs := [(.agg #[(.int .i64 e75.xWho.xFrom), (.int .i64 e75.xWho.xTo), (.int .i64 e75.xWho.xPort), (.int .i64 e75.xWho.xProto)]), (.agg #[(.int .i64 e77.xWho.xFrom), (.int .i64 e77.xWho.xTo), (.int .i64 e77.xWho.xPort), (.int .i64 e77.xWho.xProto)])]) Tryd.call76 rfl rfl (by intro w m h; exact (w_spec_l19Same (F := allB [] w) (a_0 := e75.xWho) (b_1 := e77.xWho) allB_ok h).mono (fun _ _ k => ret_free (fun r u => fr_nil) k)) ?_); rintro r79 _
          refine d_and (fun _ m => m) ?_
          refine d_done (by kernel_rfl) ?_
          refine l_then ?_
          refine c_cond rfl ?_ ?_
          · refine c_seq ?_
            refine c_region ?_
            refine o_as st rfl rfl ?_
            refine c_nil ?_
            refine l_then ?_
            refine c_ret ?_
            refine b_ret ?_
            refine l_ret ?_
            refine l_ret ?_
            refine b_ret ?_
            refine b_ret ?_
            refine l_ret ?_
            refine l_ret ?_
            refine b_ret ?_
            refine l_ret ?_
            exact l_end1 Tryd.results32 false () (rv_t rfl) (fun _ _ => NewCh.nil _ _ _ _)
          · refine c_skip ?_
            refine b_norm ?_
            refine l_then ?_
            refine c_region ?_
            refine o_mv st rfl rfl ?_
            refine o_add st rfl rfl rfl ?_; intro t80
            refine o_as st rfl rfl ?_
            refine c_nil ?_
            exact l_join t80 (fun a w hE hm => ⟨hE.sub ⟨rfl, rfl, rfl, trivial⟩, (hm.pick [0] rfl)⟩)
        · refine c_exit ?_
          refine l_exit ?_
          refine l_exit ?_
          refine b_exit ?_
          refine b_norm ?_
          refine l_then ?_
          refine c_region ?_
          refine o_mv st rfl rfl ?_
          refine o_add st rfl rfl rfl ?_; intro t81
          refine o_as st rfl rfl ?_
          refine c_nil ?_
          exact l_join t81 (fun a w hE hm => ⟨hE.sub ⟨rfl, rfl, trivial⟩, (hm.pick [0] rfl)⟩)
  · refine c_exit ?_
    refine l_exit ?_
    refine l_exit ?_
    refine b_exit ?_
    refine l_then ?_
    refine c_seq ?_
    refine c_region ?_
    refine o_mv st rfl rfl ?_
    refine o_len st el53 0 rfl (reads_snap hv1) rfl rfl ?_
    refine o_leq st rfl rfl rfl ?_
    refine o_as st rfl rfl ?_
    refine c_nil ?_
    refine l_then ?_
    refine c_ret ?_
    exact l_end1 Tryd.results32 (decide ((list_0.length : Int) ≤ 20)) () (rv_t rfl) (fun _ _ => NewCh.nil _ _ _ _)

set_option maxRecDepth 100000 in
set_option maxHeartbeats 8000000 in
theorem w_spec_KnownFlow {w0 : World} {F : Nat → Prop} {v1 : Value} {list_0 : (List GFlow)} {p_1 : GPacket} {now_2 : Int} {κ : Int → Prop} (hF : ∀ b, F b → b < w0.heap.size ∧ ¬ feet [] b) (hv1 : Sl elGFlow F w0 v1 list_0) (h : L_spec_KnownFlow list_0 p_1 now_2 κ) :
    Calls Tryd.prog 73 #[v1, (.agg #[(.int .i64 p_1.xFrom), (.int .i64 p_1.xTo), (.int .i64 p_1.xPort), (.int .i64 p_1.xProto)]), (.int .i64 now_2)] w0 (Ret [] F w0 κ (fun (r : Int) (u : Unit) => (.int .i64 r)) (fun (r : Int) (u : Unit) => [])) := by
  refine enterS (args := [v1, (.agg #[(.int .i64 p_1.xFrom), (.int .i64 p_1.xTo), (.int .i64 p_1.xPort), (.int .i64 p_1.xProto)]), (.int .i64 now_2)]) [] hF (Given.nil _ _) Tryd.func73 rfl Tryd.ntmps73 rfl h ?_
  clear h hF
  refine c_seq ?_
  refine c_region ?_
  refine stw (o_box rfl rfl [(.int .i64 p_1.xFrom), (.int .i64 p_1.xTo), (.int .i64 p_1.xPort), (.int .i64 p_1.xProto)] rfl ?_); intro b3
  refine o_as st rfl rfl ?_
  refine c_nil ?_
  refine l_then ?_
  refine c_seq ?_
  refine c_seq ?_
  refine c_region ?_
  refine o_as st rfl rfl ?_
  refine c_nil ?_
  refine l_then ?_
  refine c_block ?_
  refine c_loop (σ := Int) (fun (t5 : Int) (a : Act) (w : World) => Has 43 [(0, v1), (2, (.int .i64 now_2)), (4, (.pointer (some ⟨b3, 0, none⟩))), (7, (.int .i64 t5))] a ∧ Mem (gB F [] w0) (feet []) w0 [cellCh b3 [(.int .i64 p_1.xFrom), (.int .i64 p_1.xTo), (.int .i64 p_1.xPort), (.int .i64 p_1.xProto)] 40, snapCh w0 F] w) (fun a w hE hm => ⟨hE.sub ⟨rfl, rfl, rfl, rfl, trivial⟩, (hm.pick [0, 1] rfl)⟩) ?_
  rintro nx6 t5 a w ⟨hE, hm⟩ h
  refine nx_of hE hm h ?_
  clear hE hm h
  refine c_seq ?_
  refine c_join (σ := Bool) (fun (t70 : Bool) (a : Act) (w : World) => Has 43 [(0, v1), (2, (.int .i64 now_2)), (4, (.pointer (some ⟨b3, 0, none⟩))), (7, (.int .i64 t5)), (23, (.bool t70))] a ∧ Mem (gB F [] w0) (feet []) w0 [cellCh b3 [(.int .i64 p_1.xFrom), (.int .i64 p_1.xTo), (.int .i64 p_1.xPort), (.int .i64 p_1.xProto)] 40, snapCh w0 F] w) ?_ ?_
  · intro k71
    refine c_region ?_
    refine o_mv st rfl rfl ?_
    refine o_mv st rfl rfl ?_
    refine o_len st el53 1 rfl (reads_snap hv1) rfl rfl ?_
    refine o_lss st rfl rfl rfl ?_
    refine o_mv st rfl rfl ?_
    refine st_sp (dj := 12) rfl ?_ ?_
    · refine o_mv (st_g rfl rfl) rfl rfl ?_
      refine st_gw rfl rfl (o_callP (vs := [v1]) Tryd.call32 rfl rfl (by intro w m h; exact (w_spec_FlowsValid (F := allB [] w) (list_0 := list_0) allB_ok (m.rd0 1 rfl (reads_snap hv1)) h).mono (fun _ _ k => ret_free (fun r u => fr_nil) k)) ?_); rintro r7 _
      refine o_pickT st rfl rfl rfl ?_
      refine o_mv st rfl rfl ?_
      refine st_sp (dj := 16) rfl ?_ ?_
      · refine o_ldc (st_g rfl rfl) (v := (.agg #[(.int .i64 p_1.xFrom), (.int .i64 p_1.xTo), (.int .i64 p_1.xPort), (.int .i64 p_1.xProto)])) 0 rfl rfl rfl ty40 rfl ?_
        refine st_gw rfl rfl (o_callP (vs := [(.agg #[(.int .i64 p_1.xFrom), (.int .i64 p_1.xTo), (.int .i64 p_1.xPort), (.int .i64 p_1.xProto)])]) Tryd.call23 rfl rfl (by intro w m h; exact (w_spec_PacketValid (F := allB [] w) (p_0 := p_1) allB_ok h).mono (fun _ _ k => ret_free (fun r u => fr_nil) k)) ?_); rintro r8 _
        refine o_pickT st rfl rfl rfl ?_
        refine o_mv st rfl rfl ?_
        refine st_sp (dj := 20) rfl ?_ ?_
        · refine o_mv (st_g rfl rfl) rfl rfl ?_
          refine st_gw rfl rfl (o_callP (vs := [(.int .i64 now_2), (.int .i64 0), (.int .i64 1000000)]) Tryd.call58 rfl rfl (by intro w m h; exact (w_spec_l1In (F := allB [] w) (n_0 := now_2) (lo_1 := 0) (hi_2 := 1000000) allB_ok h).mono (fun _ _ k => ret_free (fun r u => fr_nil) k)) ?_); rintro r9 _
          refine o_pickT st rfl rfl rfl ?_
          refine c_nil ?_
          exact l_join r9 (fun a w hE hm => ⟨hE.sub ⟨rfl, rfl, rfl, rfl, rfl, trivial⟩, (hm.pick [0, 1] rfl)⟩)
        · refine st_s rfl rfl rfl rfl ?_
          refine st_s rfl rfl rfl rfl ?_
          refine o_pickF st rfl rfl rfl ?_
          refine c_nil ?_
          exact l_join false (fun a w hE hm => ⟨hE.sub ⟨rfl, rfl, rfl, rfl, rfl, trivial⟩, (hm.pick [0, 1] rfl)⟩)
      · refine st_s rfl rfl rfl rfl ?_
        refine st_s rfl rfl rfl rfl ?_
        refine o_pickF st rfl rfl rfl ?_
        refine o_mv st rfl rfl ?_
        refine st_s rfl rfl rfl rfl ?_
        refine st_s rfl rfl rfl rfl ?_
        refine o_pickF st rfl rfl rfl ?_
        refine c_nil ?_
        exact l_join false (fun a w hE hm => ⟨hE.sub ⟨rfl, rfl, rfl, rfl, rfl, trivial⟩, (hm.pick [0, 1] rfl)⟩)
    · refine st_s rfl rfl rfl rfl ?_
      refine st_s rfl rfl rfl rfl ?_
      refine o_pickF st rfl rfl rfl ?_
      refine o_mv st rfl rfl ?_
      refine st_s rfl rfl rfl rfl ?_
      refine st_s rfl rfl rfl rfl ?_
      refine o_pickF st rfl rfl rfl ?_
      refine o_mv st rfl rfl ?_
      refine st_s rfl rfl rfl rfl ?_
      refine st_s rfl rfl rfl rfl ?_
      refine o_pickF st rfl rfl rfl ?_
      refine c_nil ?_
      exact l_join false (fun a w hE hm => ⟨hE.sub ⟨rfl, rfl, rfl, rfl, rfl, trivial⟩, (hm.pick [0, 1] rfl)⟩)
  · rintro t70 a w ⟨hE, hm⟩ h
    refine nx_of hE hm h ?_
    clear hE hm h
    refine c_cond rfl ?_ ?_
    · refine c_skip ?_
      refine l_then ?_
      refine c_seq ?_
      refine c_block ?_
      refine c_join (σ := Bool) (fun (t137 : Bool) (a : Act) (w : World) => Has 43 [(0, v1), (2, (.int .i64 now_2)), (4, (.pointer (some ⟨b3, 0, none⟩))), (7, (.int .i64 t5)), (41, (.bool t137))] a ∧ Mem (gB F [] w0) (feet []) w0 [cellCh b3 [(.int .i64 p_1.xFrom), (.int .i64 p_1.xTo), (.int .i64 p_1.xPort), (.int .i64 p_1.xProto)] 40, snapCh w0 F] w) ?_ ?_
      · intro k138
        refine c_draw mixed 16 rfl [cellCh b3 [(.int .i64 p_1.xFrom), (.int .i64 p_1.xTo), (.int .i64 p_1.xPort), (.int .i64 p_1.xProto)] 40, snapCh w0 F] ?_
        refine o_mv (dt 0 (fun _ m => m)) rfl rfl ?_
        refine o_mv (dt 1 (fun _ m => m)) rfl rfl ?_
        refine o_idx (dt 2 (fun _ m => m)) 1 rfl (reads_snap hv1) rfl rfl rfl el53 ?_; intro e72 h73
        refine o_fadS (dt 3 (fun _ m => m)) 1 rfl (reads_snap hv1) h73 rfl rfl fld110_0 rfl ?_
        refine o_lds (dt 4 (fun _ m => m)) (enc := encGFlow) (u := (.agg #[(.int .i64 e72.xWho.xFrom), (.int .i64 e72.xWho.xTo), (.int .i64 e72.xWho.xPort), (.int .i64 e72.xWho.xProto)])) 1 rfl (reads_snap hv1) flelGFlow rfl h73 rfl rfl ty40 rfl ?_
        refine o_ldc (dt 5 (fun _ m => m)) (v := (.agg #[(.int .i64 p_1.xFrom), (.int .i64 p_1.xTo), (.int .i64 p_1.xPort), (.int .i64 p_1.xProto)])) 0 rfl rfl rfl ty40 rfl ?_
        refine d_one (i := 6) rfl (by kernel_rfl) (o_callP (vs := [(.agg #[(.int .i64 e72.xWho.xFrom), (.int .i64 e72.xWho.xTo), (.int .i64 e72.xWho.xPort), (.int .i64 e72.xWho.xProto)]), (.agg #[(.int .i64 p_1.xFrom), (.int .i64 p_1.xTo), (.int .i64 p_1.xPort), (.int .i64 p_1.xProto)])]) Tryd.call76 rfl rfl (by intro w m h; exact (w_spec_l19Same (F := allB [] w) (a_0 := e72.xWho) (b_1 := p_1) allB_ok h).mono (fun _ _ k => ret_free (fun r u => fr_nil) k)) ?_); rintro r74 _
        refine d_and (fun _ m => m) ?_
        refine o_mv (dt 7 (fun _ m => m)) rfl rfl ?_
        refine st_sp (dj := 33) rfl ?_ ?_
        · refine o_mv (dtg 8 (fun _ m => m)) rfl rfl ?_
          refine o_mv (dtg 9 (fun _ m => m)) rfl rfl ?_
          refine o_idx (dtg 10 (fun _ m => m)) 1 rfl (reads_snap hv1) rfl rfl rfl el53 ?_; intro e75 h76
          refine o_fadS (dtg 11 (fun _ m => m)) 1 rfl (reads_snap hv1) h76 rfl rfl fld110_1 rfl ?_
          refine o_lds (dtg 12 (fun _ m => m)) (enc := encGFlow) (u := (.int .i64 e75.xUntil)) 1 rfl (reads_snap hv1) flelGFlow rfl h76 rfl rfl ty3 rfl ?_
          refine o_mv (dtg 13 (fun _ m => m)) rfl rfl ?_
          refine o_geq (dtg 14 (fun _ m => m)) rfl rfl rfl ?_
          refine o_pickT (dt 15 (fun _ m => m)) rfl rfl rfl ?_
          refine d_done (by kernel_rfl) ?_
          exact l_join (decide (now_2 ≤ e75.xUntil)) (fun a w hE hm => ⟨hE.sub ⟨rfl, rfl, rfl, rfl, rfl, trivial⟩, (hm.pick [0, 1] rfl)⟩)
        · refine dsk 8 (fun _ m => m) rfl (by kernel_rfl) rfl rfl rfl rfl ?_
          refine dsk 9 (fun _ m => m) rfl (by kernel_rfl) rfl rfl rfl rfl ?_
          refine dsk 10 (fun _ m => m) rfl (by kernel_rfl) rfl rfl rfl rfl ?_
          refine dsk 11 (fun _ m => m) rfl (by kernel_rfl) rfl rfl rfl rfl ?_
          refine dsk 12 (fun _ m => m) rfl (by kernel_rfl) rfl rfl rfl rfl ?_
          refine dsk 13 (fun _ m => m) rfl (by kernel_rfl) rfl rfl rfl rfl ?_
          refine dsk 14 (fun _ m => m) rfl (by kernel_rfl) rfl rfl rfl rfl ?_
          refine o_pickF (dt 15 (fun _ m => m)) rfl rfl rfl ?_
          refine d_done (by kernel_rfl) ?_
          exact l_join false (fun a w hE hm => ⟨hE.sub ⟨rfl, rfl, rfl, rfl, rfl, trivial⟩, (hm.pick [0, 1] rfl)⟩)
      · rintro t137 a w ⟨hE, hm⟩ h
        refine nx_of hE hm h ?_
        clear hE hm h
        refine c_cond rfl ?_ ?_
        · refine c_seq ?_
          refine c_region ?_
          refine o_mv st rfl rfl ?_
          refine o_as st rfl rfl ?_
          refine c_nil ?_
          refine l_then ?_
          refine c_ret ?_
          refine b_ret ?_
          refine l_ret ?_
          refine l_ret ?_
          refine b_ret ?_
          refine l_ret ?_
          exact l_end1 Tryd.results73 t5 () (rv_t rfl) (fun _ _ => NewCh.nil _ _ _ _)
        · refine c_skip ?_
          refine b_norm ?_
          refine l_then ?_
          refine c_region ?_
          refine o_mv st rfl rfl ?_
          refine o_add st rfl rfl rfl ?_; intro t139
          refine o_as st rfl rfl ?_
          refine c_nil ?_
          exact l_join t139 (fun a w hE hm => ⟨hE.sub ⟨rfl, rfl, rfl, rfl, trivial⟩, (hm.pick [0, 1] rfl)⟩)
    · refine c_exit ?_
      refine l_exit ?_
      refine l_exit ?_
      refine b_exit ?_
      refine l_then ?_
      refine c_seq ?_
      refine c_region ?_
      refine o_as st rfl rfl ?_
      refine c_nil ?_
      refine l_then ?_
      refine c_ret ?_
      exact l_end1 Tryd.results73 (-1) () (rv_t rfl) (fun _ _ => NewCh.nil _ _ _ _)

set_option maxRecDepth 100000 in
set_option maxHeartbeats 8000000 in
theorem w_spec_ExpireFlows {w0 : World} {F : Nat → Prop} {v1 : Value} {list_0 : (List GFlow)} {now_1 : Int} {κ : (List GFlow) → Prop} (hF : ∀ b, F b → b < w0.heap.size ∧ ¬ feet [] b) (hv1 : Sl elGFlow F w0 v1 list_0) (h : L_spec_ExpireFlows list_0 now_1 κ) :
    Calls Tryd.prog 74 #[v1, (.int .i64 now_1)] w0 (Ret [] F w0 κ (fun (r : (List GFlow)) (u : Value) => u) (fun (r : (List GFlow)) (u : Value) => [ownCh elGFlow 110 u r])) := by
  refine enterS (args := [v1, (.int .i64 now_1)]) [] hF (Given.nil _ _) Tryd.func74 rfl Tryd.ntmps74 rfl h ?_
  clear h hF
  refine c_seq ?_
  refine c_region ?_
  refine stw (o_asn elGFlow 110 rfl rfl ?_)
  refine c_nil ?_
  refine l_then ?_
  refine c_seq ?_
  refine c_region ?_
  refine stw (o_bsl (enc := encGFlow) (qs := []) (cells := []) ([] : (List GFlow)) flelGFlow (by intro ρ h; simp only [List.map_toArray, List.map_cons, List.map_nil]) rfl el53 zero110 rfl rfl rfl rfl rfl rfl ?_); intro v4
  refine o_as st rfl rfl ?_
  refine c_nil ?_
  refine l_then ?_
  refine c_seq ?_
  refine c_seq ?_
  refine c_region ?_
  refine o_as st rfl rfl ?_
  refine c_nil ?_
  refine l_then ?_
  refine c_block ?_
  refine c_loop (σ := ((List GFlow) × Int)) (fun ((xs7, t10) : ((List GFlow) × Int)) (a : Act) (w : World) => ∃ (v6 : Value), Has 37 [(0, v1), (1, (.int .i64 now_1)), (5, v6), (6, (.int .i64 t10))] a ∧ Mem (gB F [] w0) (feet []) w0 [snapCh w0 F, ownCh elGFlow 110 v6 xs7] w) (fun a w hE hm => ⟨v4, hE.sub ⟨rfl, rfl, rfl, rfl, trivial⟩, (hm.pick [2, 0] rfl)⟩) ?_
  rintro nx11 ⟨xs7, t10⟩ a w ⟨v6, hE, hm⟩ h
  refine nx_of hE hm h ?_
  clear hE hm h
  refine c_seq ?_
  refine c_join (σ := Bool) (fun (t74 : Bool) (a : Act) (w : World) => Has 37 [(0, v1), (1, (.int .i64 now_1)), (5, v6), (6, (.int .i64 t10)), (19, (.bool t74))] a ∧ Mem (gB F [] w0) (feet []) w0 [ownCh elGFlow 110 v6 xs7, snapCh w0 F] w) ?_ ?_
  · intro k75
    refine c_region ?_
    refine o_mv st rfl rfl ?_
    refine o_mv st rfl rfl ?_
    refine o_len st el53 0 rfl (reads_snap hv1) rfl rfl ?_
    refine o_lss st rfl rfl rfl ?_
    refine o_mv st rfl rfl ?_
    refine st_sp (dj := 12) rfl ?_ ?_
    · refine o_mv (st_g rfl rfl) rfl rfl ?_
      refine st_gw rfl rfl (o_callP (vs := [v1]) Tryd.call32 rfl rfl (by intro w m h; exact (w_spec_FlowsValid (F := allB [] w) (list_0 := list_0) allB_ok (m.rd0 0 rfl (reads_snap hv1)) h).mono (fun _ _ k => ret_free (fun r u => fr_nil) k)) ?_); rintro r12 _
      refine o_pickT st rfl rfl rfl ?_
      refine o_mv st rfl rfl ?_
      refine st_sp (dj := 16) rfl ?_ ?_
      · refine o_mv (st_g rfl rfl) rfl rfl ?_
        refine st_gw rfl rfl (o_callP (vs := [(.int .i64 now_1), (.int .i64 0), (.int .i64 1000000)]) Tryd.call58 rfl rfl (by intro w m h; exact (w_spec_l1In (F := allB [] w) (n_0 := now_1) (lo_1 := 0) (hi_2 := 1000000) allB_ok h).mono (fun _ _ k => ret_free (fun r u => fr_nil) k)) ?_); rintro r13 _
        refine o_pickT st rfl rfl rfl ?_
        refine c_nil ?_
        exact l_join r13 (fun a w hE hm => ⟨hE.sub ⟨rfl, rfl, rfl, rfl, rfl, trivial⟩, (hm.pick [1, 0] rfl)⟩)
      · refine st_s rfl rfl rfl rfl ?_
        refine st_s rfl rfl rfl rfl ?_
        refine o_pickF st rfl rfl rfl ?_
        refine c_nil ?_
        exact l_join false (fun a w hE hm => ⟨hE.sub ⟨rfl, rfl, rfl, rfl, rfl, trivial⟩, (hm.pick [1, 0] rfl)⟩)
    · refine st_s rfl rfl rfl rfl ?_
      refine st_s rfl rfl rfl rfl ?_
      refine o_pickF st rfl rfl rfl ?_
      refine o_mv st rfl rfl ?_
      refine st_s rfl rfl rfl rfl ?_
      refine st_s rfl rfl rfl rfl ?_
      refine o_pickF st rfl rfl rfl ?_
      refine c_nil ?_
      exact l_join false (fun a w hE hm => ⟨hE.sub ⟨rfl, rfl, rfl, rfl, rfl, trivial⟩, (hm.pick [1, 0] rfl)⟩)
  · rintro t74 a w ⟨hE, hm⟩ h
    refine nx_of hE hm h ?_
    clear hE hm h
    refine c_cond rfl ?_ ?_
    · refine c_skip ?_
      refine l_then ?_
      refine c_join (σ := (List GFlow)) (fun (xs144 : (List GFlow)) (a : Act) (w : World) => ∃ (v145 : Value), Has 37 [(0, v1), (1, (.int .i64 now_1)), (5, v145), (6, (.int .i64 t10))] a ∧ Mem (gB F [] w0) (feet []) w0 [ownCh elGFlow 110 v145 xs144, snapCh w0 F] w) ?_ ?_
      · intro k147
        refine c_block ?_
        refine c_seq ?_
        refine c_region ?_
        refine o_mv st rfl rfl ?_
        refine o_mv st rfl rfl ?_
        refine o_idx st 1 rfl (reads_snap hv1) rfl rfl rfl el53 ?_; intro e76 h77
        refine o_fadS st 1 rfl (reads_snap hv1) h77 rfl rfl fld110_1 rfl ?_
        refine o_lds st (enc := encGFlow) (u := (.int .i64 e76.xUntil)) 1 rfl (reads_snap hv1) flelGFlow rfl h77 rfl rfl ty3 rfl ?_
        refine o_mv st rfl rfl ?_
        refine o_geq st rfl rfl rfl ?_
        refine c_nil ?_
        refine l_then ?_
        refine c_cond rfl ?_ ?_
        · refine c_region ?_
          refine o_mv st rfl rfl ?_
          refine o_mv st rfl rfl ?_
          refine o_mv st rfl rfl ?_
          refine o_idx st 1 rfl (reads_snap hv1) rfl rfl rfl el53 ?_; intro e78 h79
          refine o_lds st (enc := encGFlow) (u := (.agg #[(.int .i64 e78.xWho.xFrom), (.int .i64 e78.xWho.xTo), (.int .i64 e78.xWho.xPort), (.int .i64 e78.xWho.xProto), (.int .i64 e78.xUntil)])) 1 rfl (reads_snap hv1) flelGFlow rfl h79 rfl rfl ty110 rfl ?_
          refine stw (o_bsl (enc := encGFlow) (qs := [(0, (.agg #[(.int .i64 e78.xWho.xFrom), (.int .i64 e78.xWho.xTo), (.int .i64 e78.xWho.xPort), (.int .i64 e78.xWho.xProto), (.int .i64 e78.xUntil)]))]) (cells := [(.int .i64 e78.xWho.xFrom), (.int .i64 e78.xWho.xTo), (.int .i64 e78.xWho.xPort), (.int .i64 e78.xWho.xProto), (.int .i64 e78.xUntil)]) ([e78]) flelGFlow (by intro ρ h; simp only [List.map_toArray, List.map_cons, List.map_nil, h (.tmp 33) _ rfl]) rfl el53 zero110 rfl rfl rfl rfl rfl rfl ?_); intro v80
          refine stw (o_app 1 0 rfl rfl (src_flat flelGFlow reads_own) rfl rfl rfl el53 rfl zero110 rfl rfl ?_); intro v82
          refine o_as st rfl rfl ?_
          refine c_nil ?_
          refine b_norm ?_
          exact l_join (xs7 ++ ([e78])) (fun a w hE hm => ⟨v82, hE.sub ⟨rfl, rfl, rfl, rfl, trivial⟩, (hm.pick [1, 2] rfl)⟩)
        · refine c_skip ?_
          refine b_norm ?_
          exact l_join xs7 (fun a w hE hm => ⟨v6, hE.sub ⟨rfl, rfl, rfl, rfl, trivial⟩, (hm.pick [0, 1] rfl)⟩)
      · rintro xs144 a w ⟨v145, hE, hm⟩ h
        refine nx_of hE hm h ?_
        clear hE hm h
        refine c_region ?_
        refine o_mv st rfl rfl ?_
        refine o_add st rfl rfl rfl ?_; intro t148
        refine o_as st rfl rfl ?_
        refine c_nil ?_
        exact l_join (xs144, t148) (fun a w hE hm => ⟨v145, hE.sub ⟨rfl, rfl, rfl, rfl, trivial⟩, (hm.pick [1, 0] rfl)⟩)
    · refine c_exit ?_
      refine l_exit ?_
      refine l_exit ?_
      refine b_exit ?_
      refine l_then ?_
      refine c_seq ?_
      refine c_region ?_
      refine o_mv st rfl rfl ?_
      refine o_as st rfl rfl ?_
      refine c_nil ?_
      refine l_then ?_
      refine c_ret ?_
      exact l_end1 Tryd.results74 xs7 v6 (rv_t rfl) (fun w m => NewCh.ofB m [0] rfl)

set_option maxRecDepth 100000 in
set_option maxHeartbeats 8000000 in
theorem w_spec_TrackFlow {w0 : World} {F : Nat → Prop} {v1 : Value} {list_0 : (List GFlow)} {p_1 : GPacket} {now_2 : Int} {life_3 : Int} {κ : ((List GFlow) × Bool) → Prop} (hF : ∀ b, F b → b < w0.heap.size ∧ ¬ feet [] b) (hv1 : Sl elGFlow F w0 v1 list_0) (h : L_spec_TrackFlow list_0 p_1 now_2 life_3 κ) :
    Calls Tryd.prog 75 #[v1, (.agg #[(.int .i64 p_1.xFrom), (.int .i64 p_1.xTo), (.int .i64 p_1.xPort), (.int .i64 p_1.xProto)]), (.int .i64 now_2), (.int .i64 life_3)] w0 (Ret [] F w0 κ (fun (r : ((List GFlow) × Bool)) (u : Value) => .tuple #[u, (.bool r.2)]) (fun (r : ((List GFlow) × Bool)) (u : Value) => [ownCh elGFlow 110 u r.1])) := by
  refine enterS (args := [v1, (.agg #[(.int .i64 p_1.xFrom), (.int .i64 p_1.xTo), (.int .i64 p_1.xPort), (.int .i64 p_1.xProto)]), (.int .i64 now_2), (.int .i64 life_3)]) [] hF (Given.nil _ _) Tryd.func75 rfl Tryd.ntmps75 rfl h ?_
  clear h hF
  refine c_seq ?_
  refine c_region ?_
  refine stw (o_box rfl rfl [(.int .i64 p_1.xFrom), (.int .i64 p_1.xTo), (.int .i64 p_1.xPort), (.int .i64 p_1.xProto)] rfl ?_); intro b3
  refine stw (o_asn elGFlow 110 rfl rfl ?_)
  refine o_as st rfl rfl ?_
  refine c_nil ?_
  refine l_then ?_
  refine c_seq ?_
  refine c_join (σ := Bool) (fun (t70 : Bool) (a : Act) (w : World) => Has 61 [(0, v1), (2, (.int .i64 now_2)), (3, (.int .i64 life_3)), (5, (.pointer (some ⟨b3, 0, none⟩))), (30, (.bool t70))] a ∧ Mem (gB F [] w0) (feet []) w0 [cellCh b3 [(.int .i64 p_1.xFrom), (.int .i64 p_1.xTo), (.int .i64 p_1.xPort), (.int .i64 p_1.xProto)] 40, snapCh w0 F] w) ?_ ?_
  · intro k71
    refine c_region ?_
    refine o_mv st rfl rfl ?_
    refine stw (o_callP (vs := [v1]) Tryd.call32 rfl rfl (by intro w m h; exact (w_spec_FlowsValid (F := allB [] w) (list_0 := list_0) allB_ok (m.rd0 2 rfl (reads_snap hv1)) h).mono (fun _ _ k => ret_free (fun r u => fr_nil) k)) ?_); rintro r6 _
    refine o_not st rfl rfl ?_
    refine o_mv st rfl rfl ?_
    refine st_sp (dj := 16) rfl ?_ ?_
    · refine st_s rfl rfl rfl rfl ?_
      refine st_s rfl rfl rfl rfl ?_
      refine st_s rfl rfl rfl rfl ?_
      refine o_pickT st rfl rfl rfl ?_
      refine o_mv st rfl rfl ?_
      refine st_s rfl rfl rfl rfl ?_
      refine st_s rfl rfl rfl rfl ?_
      refine st_s rfl rfl rfl rfl ?_
      refine o_pickT st rfl rfl rfl ?_
      refine o_mv st rfl rfl ?_
      refine st_s rfl rfl rfl rfl ?_
      refine st_s rfl rfl rfl rfl ?_
      refine st_s rfl rfl rfl rfl ?_
      refine o_pickT st rfl rfl rfl ?_
      refine c_nil ?_
      exact l_join true (fun a w hE hm => ⟨hE.sub ⟨rfl, rfl, rfl, rfl, rfl, trivial⟩, (hm.pick [1, 2] rfl)⟩)
    · refine o_ldc (st_g rfl rfl) (v := (.agg #[(.int .i64 p_1.xFrom), (.int .i64 p_1.xTo), (.int .i64 p_1.xPort), (.int .i64 p_1.xProto)])) 1 rfl rfl rfl ty40 rfl ?_
      refine st_gw rfl rfl (o_callP (vs := [(.agg #[(.int .i64 p_1.xFrom), (.int .i64 p_1.xTo), (.int .i64 p_1.xPort), (.int .i64 p_1.xProto)])]) Tryd.call23 rfl rfl (by intro w m h; exact (w_spec_PacketValid (F := allB [] w) (p_0 := p_1) allB_ok h).mono (fun _ _ k => ret_free (fun r u => fr_nil) k)) ?_); rintro r7 _
      refine o_not (st_g rfl rfl) rfl rfl ?_
      refine o_pickF st rfl rfl rfl ?_
      refine o_mv st rfl rfl ?_
      refine st_sp (dj := 21) rfl ?_ ?_
      · refine st_s rfl rfl rfl rfl ?_
        refine st_s rfl rfl rfl rfl ?_
        refine st_s rfl rfl rfl rfl ?_
        refine o_pickT st rfl rfl rfl ?_
        refine o_mv st rfl rfl ?_
        refine st_s rfl rfl rfl rfl ?_
        refine st_s rfl rfl rfl rfl ?_
        refine st_s rfl rfl rfl rfl ?_
        refine o_pickT st rfl rfl rfl ?_
        refine c_nil ?_
        exact l_join true (fun a w hE hm => ⟨hE.sub ⟨rfl, rfl, rfl, rfl, rfl, trivial⟩, (hm.pick [1, 2] rfl)⟩)
      · refine o_mv (st_g rfl rfl) rfl rfl ?_
        refine st_gw rfl rfl (o_callP (vs := [(.int .i64 now_2), (.int .i64 0), (.int .i64 1000000)]) Tryd.call58 rfl rfl (by intro w m h; exact (w_spec_l1In (F := allB [] w) (n_0 := now_2) (lo_1 := 0) (hi_2 := 1000000) allB_ok h).mono (fun _ _ k => ret_free (fun r u => fr_nil) k)) ?_); rintro r8 _
        refine o_not (st_g rfl rfl) rfl rfl ?_
        refine o_pickF st rfl rfl rfl ?_
        refine o_mv st rfl rfl ?_
        refine st_sp (dj := 26) rfl ?_ ?_
        · refine st_s rfl rfl rfl rfl ?_
          refine st_s rfl rfl rfl rfl ?_
          refine st_s rfl rfl rfl rfl ?_
          refine o_pickT st rfl rfl rfl ?_
          refine c_nil ?_
          exact l_join true (fun a w hE hm => ⟨hE.sub ⟨rfl, rfl, rfl, rfl, rfl, trivial⟩, (hm.pick [1, 2] rfl)⟩)
        · refine o_mv (st_g rfl rfl) rfl rfl ?_
          refine st_gw rfl rfl (o_callP (vs := [(.int .i64 life_3), (.int .i64 0), (.int .i64 1000)]) Tryd.call58 rfl rfl (by intro w m h; exact (w_spec_l1In (F := allB [] w) (n_0 := life_3) (lo_1 := 0) (hi_2 := 1000) allB_ok h).mono (fun _ _ k => ret_free (fun r u => fr_nil) k)) ?_); rintro r9 _
          refine o_not (st_g rfl rfl) rfl rfl ?_
          refine o_pickF st rfl rfl rfl ?_
          refine c_nil ?_
          exact l_join (!r9) (fun a w hE hm => ⟨hE.sub ⟨rfl, rfl, rfl, rfl, rfl, trivial⟩, (hm.pick [1, 2] rfl)⟩)
  · rintro t70 a w ⟨hE, hm⟩ h
    refine nx_of hE hm h ?_
    clear hE hm h
    refine c_cond rfl ?_ ?_
    · refine c_seq ?_
      refine c_region ?_
      refine stw (o_bsl (enc := encGFlow) (qs := []) (cells := []) ([] : (List GFlow)) flelGFlow (by intro ρ h; simp only [List.map_toArray, List.map_cons, List.map_nil]) rfl el53 zero110 rfl rfl rfl rfl rfl rfl ?_); intro v72
      refine o_as st rfl rfl ?_
      refine o_as st rfl rfl ?_
      refine c_nil ?_
      refine l_then ?_
      refine c_ret ?_
      refine l_ret ?_
      exact l_end2 Tryd.results75 ([], false) v72 (rv_t rfl) (rv_t rfl) rfl (fun w m => NewCh.ofB m [0] rfl)
    · refine c_skip ?_
      refine l_then ?_
      refine c_seq ?_
      refine c_region ?_
      refine o_mv st rfl rfl ?_
      refine o_mv st rfl rfl ?_
      refine stw (o_callP (vs := [v1, (.int .i64 now_2)]) Tryd.call74 rfl rfl (by intro w m h; exact (w_spec_ExpireFlows (F := allB [] w) (list_0 := list_0) (now_1 := now_2) allB_ok (m.rd0 1 rfl (reads_snap hv1)) h).mono (fun _ _ k => ret_free (fun r u => (fr_cons (free_own flelGFlow) fr_nil)) k)) ?_); rintro r74 v75
      refine o_as st rfl rfl ?_
      refine c_nil ?_
      refine l_then ?_
      refine c_seq ?_
      refine c_region ?_
      refine o_mv st rfl rfl ?_
      refine o_mv st rfl rfl ?_
      refine o_add st rfl rfl rfl ?_; intro t77
      refine o_min st rfl rfl rfl ?_
      refine o_as st rfl rfl ?_
      refine c_nil ?_
      refine l_then ?_
      refine c_seq ?_
      refine c_region ?_
      refine o_mv st rfl rfl ?_
      refine o_ldc st (v := (.agg #[(.int .i64 p_1.xFrom), (.int .i64 p_1.xTo), (.int .i64 p_1.xPort), (.int .i64 p_1.xProto)])) 1 rfl rfl rfl ty40 rfl ?_
      refine o_mv st rfl rfl ?_
      refine stw (o_callP (vs := [v75, (.agg #[(.int .i64 p_1.xFrom), (.int .i64 p_1.xTo), (.int .i64 p_1.xPort), (.int .i64 p_1.xProto)]), (.int .i64 now_2)]) Tryd.call73 rfl rfl (by intro w m h; exact (w_spec_KnownFlow (F := allB [] w) (list_0 := r74) (p_1 := p_1) (now_2 := now_2) allB_ok (m.rd0 0 rfl reads_own) h).mono (fun _ _ k => ret_free (fun r u => fr_nil) k)) ?_); rintro r78 _
      refine o_as st rfl rfl ?_
      refine c_nil ?_
      refine l_then ?_
      refine c_seq ?_
      refine c_seq ?_
      refine c_region ?_
      refine o_mv st rfl rfl ?_
      refine o_geq st rfl rfl rfl ?_
      refine c_nil ?_
      refine l_then ?_
      refine c_cond rfl ?_ ?_
      · refine c_seq ?_
        refine c_region ?_
        refine o_mv st rfl rfl ?_
        refine o_mv st rfl rfl ?_
        refine o_mv st rfl rfl ?_
        refine o_idx st 0 rfl reads_own rfl rfl rfl el53 ?_; intro e79 h80
        refine o_fadS st 0 rfl reads_own h80 rfl rfl fld110_1 rfl ?_
        refine stw (o_sts (enc := encGFlow) (y' := (GFlow.mk e79.xWho (min 1000000 t77))) 0 rfl flelGFlow rfl h80 ty3 rfl rfl rfl rfl rfl rfl ?_)
        refine c_nil ?_
        refine l_then ?_
        refine c_seq ?_
        refine c_region ?_
        refine o_mv st rfl rfl ?_
        refine o_as st rfl rfl ?_
        refine o_as st rfl rfl ?_
        refine c_nil ?_
        refine l_then ?_
        refine c_ret ?_
        refine l_ret ?_
        exact l_end2 Tryd.results75 ((r74.set (r78).toNat (GFlow.mk e79.xWho (min 1000000 t77))), true) v75 (rv_t rfl) (rv_t rfl) rfl (fun w m => NewCh.ofB m [0] rfl)
      · refine c_skip ?_
        refine l_then ?_
        refine c_seq ?_
        refine c_seq ?_
        refine c_region ?_
        refine o_mv st rfl rfl ?_
        refine o_len st el53 0 rfl reads_own rfl rfl ?_
        refine o_eql st und3 rfl rfl rfl ?_
        refine c_nil ?_
        refine l_then ?_
        refine c_cond rfl ?_ ?_
        · refine c_seq ?_
          refine c_region ?_
          refine o_mv st rfl rfl ?_
          refine o_as st rfl rfl ?_
          refine o_as st rfl rfl ?_
          refine c_nil ?_
          refine l_then ?_
          refine c_ret ?_
          refine l_ret ?_
          exact l_end2 Tryd.results75 (r74, false) v75 (rv_t rfl) (rv_t rfl) rfl (fun w m => NewCh.ofB m [0] rfl)
        · refine c_skip ?_
          refine l_then ?_
          refine c_seq ?_
          refine c_region ?_
          refine o_mv st rfl rfl ?_
          refine o_ldc st (v := (.agg #[(.int .i64 p_1.xFrom), (.int .i64 p_1.xTo), (.int .i64 p_1.xPort), (.int .i64 p_1.xProto)])) 1 rfl rfl rfl ty40 rfl ?_
          refine o_mv st rfl rfl ?_
          refine o_bld st (qs := [(0, (.agg #[(.int .i64 p_1.xFrom), (.int .i64 p_1.xTo), (.int .i64 p_1.xPort), (.int .i64 p_1.xProto)])), (1, (.int .i64 (min 1000000 t77)))]) (cells := [(.int .i64 p_1.xFrom), (.int .i64 p_1.xTo), (.int .i64 p_1.xPort), (.int .i64 p_1.xProto), (.int .i64 (min 1000000 t77))]) (by intro ρ h; simp only [List.map_toArray, List.map_cons, List.map_nil, h (.tmp 56) _ rfl, h (.tmp 57) _ rfl]) rfl bld110 rfl ?_
          refine stw (o_bsl (enc := encGFlow) (qs := [(0, (.agg #[(.int .i64 p_1.xFrom), (.int .i64 p_1.xTo), (.int .i64 p_1.xPort), (.int .i64 p_1.xProto), (.int .i64 (min 1000000 t77))]))]) (cells := [(.int .i64 p_1.xFrom), (.int .i64 p_1.xTo), (.int .i64 p_1.xPort), (.int .i64 p_1.xProto), (.int .i64 (min 1000000 t77))]) ([(GFlow.mk p_1 (min 1000000 t77))]) flelGFlow (by intro ρ h; simp only [List.map_toArray, List.map_cons, List.map_nil, h (.tmp 58) _ rfl]) rfl el53 zero110 rfl rfl rfl rfl rfl rfl ?_); intro v82
          refine stw (o_app 1 0 rfl rfl (src_flat flelGFlow reads_own) rfl rfl rfl el53 rfl zero110 rfl rfl ?_); intro v84
          refine o_as st rfl rfl ?_
          refine o_as st rfl rfl ?_
          refine c_nil ?_
          refine l_then ?_
          refine c_ret ?_
          exact l_end2 Tryd.results75 ((r74 ++ ([(GFlow.mk p_1 (min 1000000 t77))])), true) v84 (rv_t rfl) (rv_t rfl) rfl (fun w m => NewCh.ofB m [1] rfl)

set_option maxRecDepth 100000 in
set_option maxHeartbeats 8000000 in
theorem w_spec_PassPacket {w0 : World} {F : Nat → Prop} {v1 : Value} {v3 : Value} {s_0 : GRuleset} {list_1 : (List GFlow)} {p_2 : GPacket} {now_3 : Int} {life_4 : Int} {κ : ((List GFlow) × Bool) → Prop} (hF : ∀ b, F b → b < w0.heap.size ∧ ¬ feet [] b) (hv1 : Sl (elSl elGRule) F w0 v1 s_0.xChains) (hv3 : Sl elGFlow F w0 v3 list_1) (h : L_spec_PassPacket s_0 list_1 p_2 now_3 life_4 κ) :
    Calls Tryd.prog 30 #[(.agg #[v1, (.bool s_0.xAccept)]), v3, (.agg #[(.int .i64 p_2.xFrom), (.int .i64 p_2.xTo), (.int .i64 p_2.xPort), (.int .i64 p_2.xProto)]), (.int .i64 now_3), (.int .i64 life_4)] w0 (Ret [] F w0 κ (fun (r : ((List GFlow) × Bool)) (u : Value) => .tuple #[u, (.bool r.2)]) (fun (r : ((List GFlow) × Bool)) (u : Value) => [ownCh elGFlow 110 u r.1])) := by
  refine enterS (args := [(.agg #[v1, (.bool s_0.xAccept)]), v3, (.agg #[(.int .i64 p_2.xFrom), (.int .i64 p_2.xTo), (.int .i64 p_2.xPort), (.int .i64 p_2.xProto)]), (.int .i64 now_3), (.int .i64 life_4)]) [] hF (Given.nil _ _) Tryd.func30 rfl Tryd.ntmps30 rfl h ?_
  clear h hF
  refine c_seq ?_
  refine c_region ?_
  obtain ⟨a5, l6, q7, hs_⟩ := sl_val hv1; subst hs_
  refine stw (o_box rfl rfl [(.slice a5 l6 q7), (.bool s_0.xAccept)] rfl ?_); intro b8
  refine stw (o_box rfl rfl [(.int .i64 p_2.xFrom), (.int .i64 p_2.xTo), (.int .i64 p_2.xPort), (.int .i64 p_2.xProto)] rfl ?_); intro b10
  refine stw (o_asn elGFlow 110 rfl rfl ?_)
  refine o_as st rfl rfl ?_
  refine c_nil ?_
  refine l_then ?_
  refine c_seq ?_
  refine c_join (σ := Bool) (fun (t78 : Bool) (a : Act) (w : World) => Has 61 [(1, v3), (3, (.int .i64 now_3)), (4, (.int .i64 life_4)), (5, (.pointer (some ⟨b8, 0, none⟩))), (7, (.pointer (some ⟨b10, 0, none⟩))), (36, (.bool t78))] a ∧ Mem (gB F [] w0) (feet []) w0 [cellCh b10 [(.int .i64 p_2.xFrom), (.int .i64 p_2.xTo), (.int .i64 p_2.xPort), (.int .i64 p_2.xProto)] 40, cellCh b8 [(.slice a5 l6 q7), (.bool s_0.xAccept)] 25, snapCh w0 F] w) ?_ ?_
  · intro k79
    refine c_region ?_
    refine o_ldc st (v := (.agg #[(.slice a5 l6 q7), (.bool s_0.xAccept)])) 2 rfl rfl rfl ty25 rfl ?_
    refine stw (o_callP (vs := [(.agg #[(.slice a5 l6 q7), (.bool s_0.xAccept)])]) Tryd.call22 rfl rfl (by intro w m h; exact (w_spec_RulesetValid (F := allB [] w) (s_0 := s_0) allB_ok (m.rd0 3 rfl (reads_snap hv1)) h).mono (fun _ _ k => ret_free (fun r u => fr_nil) k)) ?_); rintro r13 _
    refine o_not st rfl rfl ?_
    refine o_mv st rfl rfl ?_
    refine st_sp (dj := 17) rfl ?_ ?_
    · refine st_s rfl rfl rfl rfl ?_
      refine st_s rfl rfl rfl rfl ?_
      refine st_s rfl rfl rfl rfl ?_
      refine o_pickT st rfl rfl rfl ?_
      refine o_mv st rfl rfl ?_
      refine st_s rfl rfl rfl rfl ?_
      refine st_s rfl rfl rfl rfl ?_
      refine st_s rfl rfl rfl rfl ?_
      refine o_pickT st rfl rfl rfl ?_
      refine o_mv st rfl rfl ?_
      refine st_s rfl rfl rfl rfl ?_
      refine st_s rfl rfl rfl rfl ?_
      refine st_s rfl rfl rfl rfl ?_
      refine o_pickT st rfl rfl rfl ?_
      refine o_mv st rfl rfl ?_
      refine st_s rfl rfl rfl rfl ?_
      refine st_s rfl rfl rfl rfl ?_
      refine st_s rfl rfl rfl rfl ?_
      refine o_pickT st rfl rfl rfl ?_
      refine c_nil ?_
      exact l_join true (fun a w hE hm => ⟨hE.sub ⟨rfl, rfl, rfl, rfl, rfl, rfl, trivial⟩, (hm.pick [1, 2, 3] rfl)⟩)
    · refine o_mv (st_g rfl rfl) rfl rfl ?_
      refine st_gw rfl rfl (o_callP (vs := [v3]) Tryd.call32 rfl rfl (by intro w m h; exact (w_spec_FlowsValid (F := allB [] w) (list_0 := list_1) allB_ok (m.rd0 3 rfl (reads_snap hv3)) h).mono (fun _ _ k => ret_free (fun r u => fr_nil) k)) ?_); rintro r14 _
      refine o_not (st_g rfl rfl) rfl rfl ?_
      refine o_pickF st rfl rfl rfl ?_
      refine o_mv st rfl rfl ?_
      refine st_sp (dj := 22) rfl ?_ ?_
      · refine st_s rfl rfl rfl rfl ?_
        refine st_s rfl rfl rfl rfl ?_
        refine st_s rfl rfl rfl rfl ?_
        refine o_pickT st rfl rfl rfl ?_
        refine o_mv st rfl rfl ?_
        refine st_s rfl rfl rfl rfl ?_
        refine st_s rfl rfl rfl rfl ?_
        refine st_s rfl rfl rfl rfl ?_
        refine o_pickT st rfl rfl rfl ?_
        refine o_mv st rfl rfl ?_
        refine st_s rfl rfl rfl rfl ?_
        refine st_s rfl rfl rfl rfl ?_
        refine st_s rfl rfl rfl rfl ?_
        refine o_pickT st rfl rfl rfl ?_
        refine c_nil ?_
        exact l_join true (fun a w hE hm => ⟨hE.sub ⟨rfl, rfl, rfl, rfl, rfl, rfl, trivial⟩, (hm.pick [1, 2, 3] rfl)⟩)
      · refine o_ldc (st_g rfl rfl) (v := (.agg #[(.int .i64 p_2.xFrom), (.int .i64 p_2.xTo), (.int .i64 p_2.xPort), (.int .i64 p_2.xProto)])) 1 rfl rfl rfl ty40 rfl ?_
        refine st_gw rfl rfl (o_callP (vs := [(.agg #[(.int .i64 p_2.xFrom), (.int .i64 p_2.xTo), (.int .i64 p_2.xPort), (.int .i64 p_2.xProto)])]) Tryd.call23 rfl rfl (by intro w m h; exact (w_spec_PacketValid (F := allB [] w) (p_0 := p_2) allB_ok h).mono (fun _ _ k => ret_free (fun r u => fr_nil) k)) ?_); rintro r15 _
        refine o_not (st_g rfl rfl) rfl rfl ?_
        refine o_pickF st rfl rfl rfl ?_
        refine o_mv st rfl rfl ?_
        refine st_sp (dj := 27) rfl ?_ ?_
        · refine st_s rfl rfl rfl rfl ?_
          refine st_s rfl rfl rfl rfl ?_
          refine st_s rfl rfl rfl rfl ?_
          refine o_pickT st rfl rfl rfl ?_
          refine o_mv st rfl rfl ?_
          refine st_s rfl rfl rfl rfl ?_
          refine st_s rfl rfl rfl rfl ?_
          refine st_s rfl rfl rfl rfl ?_
          refine o_pickT st rfl rfl rfl ?_
          refine c_nil ?_
          exact l_join true (fun a w hE hm => ⟨hE.sub ⟨rfl, rfl, rfl, rfl, rfl, rfl, trivial⟩, (hm.pick [1, 2, 3] rfl)⟩)
        · refine o_mv (st_g rfl rfl) rfl rfl ?_
          refine st_gw rfl rfl (o_callP (vs := [(.int .i64 now_3), (.int .i64 0), (.int .i64 1000000)]) Tryd.call58 rfl rfl (by intro w m h; exact (w_spec_l1In (F := allB [] w) (n_0 := now_3) (lo_1 := 0) (hi_2 := 1000000) allB_ok h).mono (fun _ _ k => ret_free (fun r u => fr_nil) k)) ?_); rintro r16 _
          refine o_not (st_g rfl rfl) rfl rfl ?_
          refine o_pickF st rfl rfl rfl ?_
          refine o_mv st rfl rfl ?_
          refine st_sp (dj := 32) rfl ?_ ?_
          · refine st_s rfl rfl rfl rfl ?_
            refine st_s rfl rfl rfl rfl ?_
            refine st_s rfl rfl rfl rfl ?_
            refine o_pickT st rfl rfl rfl ?_
            refine c_nil ?_
            exact l_join true (fun a w hE hm => ⟨hE.sub ⟨rfl, rfl, rfl, rfl, rfl, rfl, trivial⟩, (hm.pick [1, 2, 3] rfl)⟩)
          · refine o_mv (st_g rfl rfl) rfl rfl ?_
            refine st_gw rfl rfl (o_callP (vs := [(.int .i64 life_4), (.int .i64 0), (.int .i64 1000)]) Tryd.call58 rfl rfl (by intro w m h; exact (w_spec_l1In (F := allB [] w) (n_0 := life_4) (lo_1 := 0) (hi_2 := 1000) allB_ok h).mono (fun _ _ k => ret_free (fun r u => fr_nil) k)) ?_); rintro r17 _
            refine o_not (st_g rfl rfl) rfl rfl ?_
            refine o_pickF st rfl rfl rfl ?_
            refine c_nil ?_
            exact l_join (!r17) (fun a w hE hm => ⟨hE.sub ⟨rfl, rfl, rfl, rfl, rfl, rfl, trivial⟩, (hm.pick [1, 2, 3] rfl)⟩)
  · rintro t78 a w ⟨hE, hm⟩ h
    refine nx_of hE hm h ?_
    clear hE hm h
    refine c_cond rfl ?_ ?_
    · refine c_seq ?_
      refine c_region ?_
      refine stw (o_bsl (enc := encGFlow) (qs := []) (cells := []) ([] : (List GFlow)) flelGFlow (by intro ρ h; simp only [List.map_toArray, List.map_cons, List.map_nil]) rfl el53 zero110 rfl rfl rfl rfl rfl rfl ?_); intro v80
      refine o_as st rfl rfl ?_
      refine o_as st rfl rfl ?_
      refine c_nil ?_
      refine l_then ?_
      refine c_ret ?_
      refine l_ret ?_
      exact l_end2 Tryd.results30 ([], false) v80 (rv_t rfl) (rv_t rfl) rfl (fun w m => NewCh.ofB m [0] rfl)
    · refine c_skip ?_
      refine l_then ?_
      refine c_seq ?_
      refine c_join (σ := Bool) (fun (t144 : Bool) (a : Act) (w : World) => Has 61 [(1, v3), (3, (.int .i64 now_3)), (4, (.int .i64 life_4)), (7, (.pointer (some ⟨b10, 0, none⟩))), (48, (.bool t144))] a ∧ Mem (gB F [] w0) (feet []) w0 [cellCh b10 [(.int .i64 p_2.xFrom), (.int .i64 p_2.xTo), (.int .i64 p_2.xPort), (.int .i64 p_2.xProto)] 40, snapCh w0 F] w) ?_ ?_
      · intro k145
        refine c_region ?_
        refine o_mv st rfl rfl ?_
        refine o_ldc st (v := (.agg #[(.int .i64 p_2.xFrom), (.int .i64 p_2.xTo), (.int .i64 p_2.xPort), (.int .i64 p_2.xProto)])) 0 rfl rfl rfl ty40 rfl ?_
        refine o_mv st rfl rfl ?_
        refine stw (o_callP (vs := [v3, (.agg #[(.int .i64 p_2.xFrom), (.int .i64 p_2.xTo), (.int .i64 p_2.xPort), (.int .i64 p_2.xProto)]), (.int .i64 now_3)]) Tryd.call73 rfl rfl (by intro w m h; exact (w_spec_KnownFlow (F := allB [] w) (list_0 := list_1) (p_1 := p_2) (now_2 := now_3) allB_ok (m.rd0 2 rfl (reads_snap hv3)) h).mono (fun _ _ k => ret_free (fun r u => fr_nil) k)) ?_); rintro r82 _
        refine o_lss st rfl rfl rfl ?_
        refine o_mv st rfl rfl ?_
        refine st_sp (dj := 43) rfl ?_ ?_
        · refine o_ldc (st_g rfl rfl) (v := (.agg #[(.slice a5 l6 q7), (.bool s_0.xAccept)])) 1 rfl rfl rfl ty25 rfl ?_
          refine o_ldc (st_g rfl rfl) (v := (.agg #[(.int .i64 p_2.xFrom), (.int .i64 p_2.xTo), (.int .i64 p_2.xPort), (.int .i64 p_2.xProto)])) 0 rfl rfl rfl ty40 rfl ?_
          refine st_gw rfl rfl (o_callP (vs := [(.agg #[(.slice a5 l6 q7), (.bool s_0.xAccept)]), (.agg #[(.int .i64 p_2.xFrom), (.int .i64 p_2.xTo), (.int .i64 p_2.xPort), (.int .i64 p_2.xProto)])]) Tryd.call55 rfl rfl (by intro w m h; exact (w_spec_Judge (F := allB [] w) (s_0 := s_0) (p_1 := p_2) allB_ok (m.rd0 2 rfl (reads_snap hv1)) h).mono (fun _ _ k => ret_free (fun r u => fr_nil) k)) ?_); rintro r83 _
          refine o_not (st_g rfl rfl) rfl rfl ?_
          refine o_pickT st rfl rfl rfl ?_
          refine c_nil ?_
          exact l_join (!r83) (fun a w hE hm => ⟨hE.sub ⟨rfl, rfl, rfl, rfl, rfl, trivial⟩, (hm.pick [0, 2] rfl)⟩)
        · refine st_s rfl rfl rfl rfl ?_
          refine st_s rfl rfl rfl rfl ?_
          refine st_s rfl rfl rfl rfl ?_
          refine st_s rfl rfl rfl rfl ?_
          refine o_pickF st rfl rfl rfl ?_
          refine c_nil ?_
          exact l_join false (fun a w hE hm => ⟨hE.sub ⟨rfl, rfl, rfl, rfl, rfl, trivial⟩, (hm.pick [0, 2] rfl)⟩)
      · rintro t144 a w ⟨hE, hm⟩ h
        refine nx_of hE hm h ?_
        clear hE hm h
        refine c_cond rfl ?_ ?_
        · refine c_seq ?_
          refine c_region ?_
          refine o_mv st rfl rfl ?_
          refine o_mv st rfl rfl ?_
          refine stw (o_callP (vs := [v3, (.int .i64 now_3)]) Tryd.call74 rfl rfl (by intro w m h; exact (w_spec_ExpireFlows (F := allB [] w) (list_0 := list_1) (now_1 := now_3) allB_ok (m.rd0 1 rfl (reads_snap hv3)) h).mono (fun _ _ k => ret_free (fun r u => (fr_cons (free_own flelGFlow) fr_nil)) k)) ?_); rintro r146 v147
          refine o_as st rfl rfl ?_
          refine o_as st rfl rfl ?_
          refine c_nil ?_
          refine l_then ?_
          refine c_ret ?_
          refine l_ret ?_
          exact l_end2 Tryd.results30 (r146, false) v147 (rv_t rfl) (rv_t rfl) rfl (fun w m => NewCh.ofB m [0] rfl)
        · refine c_skip ?_
          refine l_then ?_
          refine c_seq ?_
          refine c_region ?_
          refine o_mv st rfl rfl ?_
          refine o_ldc st (v := (.agg #[(.int .i64 p_2.xFrom), (.int .i64 p_2.xTo), (.int .i64 p_2.xPort), (.int .i64 p_2.xProto)])) 0 rfl rfl rfl ty40 rfl ?_
          refine o_mv st rfl rfl ?_
          refine o_mv st rfl rfl ?_
          refine stw (o_callP (vs := [v3, (.agg #[(.int .i64 p_2.xFrom), (.int .i64 p_2.xTo), (.int .i64 p_2.xPort), (.int .i64 p_2.xProto)]), (.int .i64 now_3), (.int .i64 life_4)]) Tryd.call75 rfl rfl (by intro w m h; exact (w_spec_TrackFlow (F := allB [] w) (list_0 := list_1) (p_1 := p_2) (now_2 := now_3) (life_3 := life_4) allB_ok (m.rd0 1 rfl (reads_snap hv3)) h).mono (fun _ _ k => ret_free (fun r u => (fr_cons (free_own flelGFlow) fr_nil)) k)) ?_); rintro ⟨r149, r152⟩ v150
          refine o_mv st rfl rfl ?_
          refine o_ext st (vs := [v150, (.bool r152)]) rfl rfl rfl ?_
          refine o_ext st (vs := [v150, (.bool r152)]) rfl rfl rfl ?_
          refine o_as st rfl rfl ?_
          refine o_as st rfl rfl ?_
          refine c_nil ?_
          refine l_then ?_
          refine c_seq ?_
          refine c_region ?_
          refine o_mv st rfl rfl ?_
          refine o_as st rfl rfl ?_
          refine o_as st rfl rfl ?_
          refine c_nil ?_
          refine l_then ?_
          refine c_ret ?_
          exact l_end2 Tryd.results30 (r149, true) v150 (rv_t rfl) (rv_t rfl) rfl (fun w m => NewCh.ofB m [0] rfl)

set_option maxRecDepth 100000 in
set_option maxHeartbeats 8000000 in
theorem w_spec_AnswersPass {w0 : World} {F : Nat → Prop} {v1 : Value} {s_0 : GRuleset} {p_1 : GPacket} {life_2 : Int} {later_3 : Int} {κ : Bool → Prop} (hF : ∀ b, F b → b < w0.heap.size ∧ ¬ feet [] b) (hv1 : Sl (elSl elGRule) F w0 v1 s_0.xChains) (h : L_spec_AnswersPass s_0 p_1 life_2 later_3 κ) :
    Calls Tryd.prog 16 #[(.agg #[v1, (.bool s_0.xAccept)]), (.agg #[(.int .i64 p_1.xFrom), (.int .i64 p_1.xTo), (.int .i64 p_1.xPort), (.int .i64 p_1.xProto)]), (.int .i64 life_2), (.int .i64 later_3)] w0 (Ret [] F w0 κ (fun (r : Bool) (u : Unit) => (.bool r)) (fun (r : Bool) (u : Unit) => [])) := by
  refine enterS (args := [(.agg #[v1, (.bool s_0.xAccept)]), (.agg #[(.int .i64 p_1.xFrom), (.int .i64 p_1.xTo), (.int .i64 p_1.xPort), (.int .i64 p_1.xProto)]), (.int .i64 life_2), (.int .i64 later_3)]) [] hF (Given.nil _ _) Tryd.func16 rfl Tryd.ntmps16 rfl h ?_
  clear h hF
  refine c_seq ?_
  refine c_region ?_
  obtain ⟨a3, l4, q5, hs_⟩ := sl_val hv1; subst hs_
  refine stw (o_box rfl rfl [(.slice a3 l4 q5), (.bool s_0.xAccept)] rfl ?_); intro b6
  refine stw (o_box rfl rfl [(.int .i64 p_1.xFrom), (.int .i64 p_1.xTo), (.int .i64 p_1.xPort), (.int .i64 p_1.xProto)] rfl ?_); intro b8
  refine o_as st rfl rfl ?_
  refine c_nil ?_
  refine l_then ?_
  refine c_seq ?_
  refine c_join (σ := Bool) (fun (t74 : Bool) (a : Act) (w : World) => Has 53 [(2, (.int .i64 life_2)), (3, (.int .i64 later_3)), (4, (.pointer (some ⟨b6, 0, none⟩))), (5, (.pointer (some ⟨b8, 0, none⟩))), (31, (.bool t74))] a ∧ Mem (gB F [] w0) (feet []) w0 [cellCh b8 [(.int .i64 p_1.xFrom), (.int .i64 p_1.xTo), (.int .i64 p_1.xPort), (.int .i64 p_1.xProto)] 40, cellCh b6 [(.slice a3 l4 q5), (.bool s_0.xAccept)] 25, snapCh w0 F] w) ?_ ?_
  · intro k75
    refine c_region ?_
    refine o_ldc st (v := (.agg #[(.slice a3 l4 q5), (.bool s_0.xAccept)])) 1 rfl rfl rfl ty25 rfl ?_
    refine stw (o_callP (vs := [(.agg #[(.slice a3 l4 q5), (.bool s_0.xAccept)])]) Tryd.call22 rfl rfl (by intro w m h; exact (w_spec_RulesetValid (F := allB [] w) (s_0 := s_0) allB_ok (m.rd0 2 rfl (reads_snap hv1)) h).mono (fun _ _ k => ret_free (fun r u => fr_nil) k)) ?_); rintro r10 _
    refine o_not st rfl rfl ?_
    refine o_mv st rfl rfl ?_
    refine st_sp (dj := 16) rfl ?_ ?_
    · refine st_s rfl rfl rfl rfl ?_
      refine st_s rfl rfl rfl rfl ?_
      refine st_s rfl rfl rfl rfl ?_
      refine o_pickT st rfl rfl rfl ?_
      refine o_mv st rfl rfl ?_
      refine st_s rfl rfl rfl rfl ?_
      refine st_s rfl rfl rfl rfl ?_
      refine st_s rfl rfl rfl rfl ?_
      refine o_pickT st rfl rfl rfl ?_
      refine o_mv st rfl rfl ?_
      refine st_s rfl rfl rfl rfl ?_
      refine st_s rfl rfl rfl rfl ?_
      refine st_s rfl rfl rfl rfl ?_
      refine st_s rfl rfl rfl rfl ?_
      refine o_pickT st rfl rfl rfl ?_
      refine c_nil ?_
      exact l_join true (fun a w hE hm => ⟨hE.sub ⟨rfl, rfl, rfl, rfl, rfl, trivial⟩, (hm.pick [0, 1, 2] rfl)⟩)
    · refine o_ldc (st_g rfl rfl) (v := (.agg #[(.int .i64 p_1.xFrom), (.int .i64 p_1.xTo), (.int .i64 p_1.xPort), (.int .i64 p_1.xProto)])) 0 rfl rfl rfl ty40 rfl ?_
      refine st_gw rfl rfl (o_callP (vs := [(.agg #[(.int .i64 p_1.xFrom), (.int .i64 p_1.xTo), (.int .i64 p_1.xPort), (.int .i64 p_1.xProto)])]) Tryd.call23 rfl rfl (by intro w m h; exact (w_spec_PacketValid (F := allB [] w) (p_0 := p_1) allB_ok h).mono (fun _ _ k => ret_free (fun r u => fr_nil) k)) ?_); rintro r11 _
      refine o_not (st_g rfl rfl) rfl rfl ?_
      refine o_pickF st rfl rfl rfl ?_
      refine o_mv st rfl rfl ?_
      refine st_sp (dj := 21) rfl ?_ ?_
      · refine st_s rfl rfl rfl rfl ?_
        refine st_s rfl rfl rfl rfl ?_
        refine st_s rfl rfl rfl rfl ?_
        refine o_pickT st rfl rfl rfl ?_
        refine o_mv st rfl rfl ?_
        refine st_s rfl rfl rfl rfl ?_
        refine st_s rfl rfl rfl rfl ?_
        refine st_s rfl rfl rfl rfl ?_
        refine st_s rfl rfl rfl rfl ?_
        refine o_pickT st rfl rfl rfl ?_
        refine c_nil ?_
        exact l_join true (fun a w hE hm => ⟨hE.sub ⟨rfl, rfl, rfl, rfl, rfl, trivial⟩, (hm.pick [0, 1, 2] rfl)⟩)
      · refine o_mv (st_g rfl rfl) rfl rfl ?_
        refine st_gw rfl rfl (o_callP (vs := [(.int .i64 life_2), (.int .i64 0), (.int .i64 1000)]) Tryd.call58 rfl rfl (by intro w m h; exact (w_spec_l1In (F := allB [] w) (n_0 := life_2) (lo_1 := 0) (hi_2 := 1000) allB_ok h).mono (fun _ _ k => ret_free (fun r u => fr_nil) k)) ?_); rintro r12 _
        refine o_not (st_g rfl rfl) rfl rfl ?_
        refine o_pickF st rfl rfl rfl ?_
        refine o_mv st rfl rfl ?_
        refine st_sp (dj := 26) rfl ?_ ?_
        · refine st_s rfl rfl rfl rfl ?_
          refine st_s rfl rfl rfl rfl ?_
          refine st_s rfl rfl rfl rfl ?_
          refine st_s rfl rfl rfl rfl ?_
          refine o_pickT st rfl rfl rfl ?_
          refine c_nil ?_
          exact l_join true (fun a w hE hm => ⟨hE.sub ⟨rfl, rfl, rfl, rfl, rfl, trivial⟩, (hm.pick [0, 1, 2] rfl)⟩)
        · refine o_mv (st_g rfl rfl) rfl rfl ?_
          refine o_mv (st_g rfl rfl) rfl rfl ?_
          refine st_gw rfl rfl (o_callP (vs := [(.int .i64 later_3), (.int .i64 0), (.int .i64 life_2)]) Tryd.call58 rfl rfl (by intro w m h; exact (w_spec_l1In (F := allB [] w) (n_0 := later_3) (lo_1 := 0) (hi_2 := life_2) allB_ok h).mono (fun _ _ k => ret_free (fun r u => fr_nil) k)) ?_); rintro r13 _
          refine o_not (st_g rfl rfl) rfl rfl ?_
          refine o_pickF st rfl rfl rfl ?_
          refine c_nil ?_
          exact l_join (!r13) (fun a w hE hm => ⟨hE.sub ⟨rfl, rfl, rfl, rfl, rfl, trivial⟩, (hm.pick [0, 1, 2] rfl)⟩)
  · rintro t74 a w ⟨hE, hm⟩ h
    refine nx_of hE hm h ?_
    clear hE hm h
    refine c_cond rfl ?_ ?_
    · refine c_seq ?_
      refine c_region ?_
      refine o_as st rfl rfl ?_
      refine c_nil ?_
      refine l_then ?_
      refine c_ret ?_
      refine l_ret ?_
      exact l_end1 Tryd.results16 false () (rv_t rfl) (fun _ _ => NewCh.nil _ _ _ _)
    · refine c_skip ?_
      refine l_then ?_
      refine c_seq ?_
      refine c_region ?_
      refine o_ldc st (v := (.agg #[(.slice a3 l4 q5), (.bool s_0.xAccept)])) 1 rfl rfl rfl ty25 rfl ?_
      refine stw (o_bsl (enc := encGFlow) (qs := []) (cells := []) ([] : (List GFlow)) flelGFlow (by intro ρ h; simp only [List.map_toArray, List.map_cons, List.map_nil]) rfl el53 zero110 rfl rfl rfl rfl rfl rfl ?_); intro v76
      refine o_ldc st (v := (.agg #[(.int .i64 p_1.xFrom), (.int .i64 p_1.xTo), (.int .i64 p_1.xPort), (.int .i64 p_1.xProto)])) 1 rfl rfl rfl ty40 rfl ?_
      refine o_mv st rfl rfl ?_
      refine stw (o_callP (vs := [(.agg #[(.slice a3 l4 q5), (.bool s_0.xAccept)]), v76, (.agg #[(.int .i64 p_1.xFrom), (.int .i64 p_1.xTo), (.int .i64 p_1.xPort), (.int .i64 p_1.xProto)]), (.int .i64 0), (.int .i64 life_2)]) Tryd.call30 rfl rfl (by intro w m h; exact (w_spec_PassPacket (F := allB [] w) (s_0 := s_0) (list_1 := ([])) (p_2 := p_1) (now_3 := 0) (life_4 := life_2) allB_ok (m.rd0 3 rfl (reads_snap hv1)) (m.rd0 0 rfl reads_own) h).mono (fun _ _ k => ret_free (fun r u => (fr_cons (free_own flelGFlow) fr_nil)) k)) ?_); rintro ⟨r78, r81⟩ v79
      refine o_mv st rfl rfl ?_
      refine o_ext st (vs := [v79, (.bool r81)]) rfl rfl rfl ?_
      refine o_ext st (vs := [v79, (.bool r81)]) rfl rfl rfl ?_
      refine o_as st rfl rfl ?_
      refine o_as st rfl rfl ?_
      refine c_nil ?_
      refine l_then ?_
      refine c_seq ?_
      refine c_seq ?_
      refine c_region ?_
      refine o_mv st rfl rfl ?_
      refine o_not st rfl rfl ?_
      refine c_nil ?_
      refine l_then ?_
      refine c_cond rfl ?_ ?_
      · refine c_seq ?_
        refine c_region ?_
        refine o_as st rfl rfl ?_
        refine c_nil ?_
        refine l_then ?_
        refine c_ret ?_
        refine l_ret ?_
        exact l_end1 Tryd.results16 true () (rv_t rfl) (fun _ _ => NewCh.nil _ _ _ _)
      · refine c_skip ?_
        refine l_then ?_
        refine c_seq ?_
        refine c_draw mixed 12 rfl [ownCh elGFlow 110 v79 r78, ownCh elGFlow 110 v76 ([]), cellCh b8 [(.int .i64 p_1.xFrom), (.int .i64 p_1.xTo), (.int .i64 p_1.xPort), (.int .i64 p_1.xProto)] 40, cellCh b6 [(.slice a3 l4 q5), (.bool s_0.xAccept)] 25, snapCh w0 F] ?_
        refine o_ldc (dt 0 (fun _ m => m)) (v := (.agg #[(.slice a3 l4 q5), (.bool s_0.xAccept)])) 3 rfl rfl rfl ty25 rfl ?_
        refine o_mv (dt 1 (fun _ m => m)) rfl rfl ?_
        refine o_ldc (dt 2 (fun _ m => m)) (v := (.agg #[(.int .i64 p_1.xFrom), (.int .i64 p_1.xTo), (.int .i64 p_1.xPort), (.int .i64 p_1.xProto)])) 2 rfl rfl rfl ty40 rfl ?_
        refine o_mv (dt 4 (fun _ m => m)) rfl rfl ?_
        refine o_mv (dt 5 (fun _ m => m)) rfl rfl ?_
        refine d_one (i := 3) rfl (by kernel_rfl) (o_callP (vs := [(.agg #[(.int .i64 p_1.xFrom), (.int .i64 p_1.xTo), (.int .i64 p_1.xPort), (.int .i64 p_1.xProto)])]) Tryd.call59 rfl rfl (by intro w m h; exact (w_spec_ReversePacket (F := allB [] w) (p_0 := p_1) allB_ok h).mono (fun _ _ k => ret_free (fun r u => fr_nil) k)) ?_); rintro r82 _
        refine d_and (fun _ m => m) ?_
        refine d_one (i := 6) rfl (by kernel_rfl) (o_callP (vs := [(.agg #[(.slice a3 l4 q5), (.bool s_0.xAccept)]), v79, (.agg #[(.int .i64 r82.xFrom), (.int .i64 r82.xTo), (.int .i64 r82.xPort), (.int .i64 r82.xProto)]), (.int .i64 later_3), (.int .i64 life_2)]) Tryd.call30 rfl rfl (by intro w m h; exact (w_spec_PassPacket (F := allB [] w) (s_0 := s_0) (list_1 := r78) (p_2 := r82) (now_3 := later_3) (life_4 := life_2) allB_ok (m.rd0 4 rfl (reads_snap hv1)) (m.rd0 0 rfl reads_own) h).mono (fun _ _ k => ret_free (fun r u => (fr_cons (free_own flelGFlow) fr_nil)) k)) ?_); rintro ⟨r83, r86⟩ v84
        refine d_and (fun w m => m.pick [1, 2, 3, 4, 5] rfl) ?_
        refine o_mv (dt 7 (fun w m => m.pick [1, 2, 3, 4, 5] rfl)) rfl rfl ?_
        refine o_ext (dt 8 (fun w m => m.pick [1, 2, 3, 4, 5] rfl)) (vs := [v84, (.bool r86)]) rfl rfl rfl ?_
        refine o_ext (dt 9 (fun w m => m.pick [1, 2, 3, 4, 5] rfl)) (vs := [v84, (.bool r86)]) rfl rfl rfl ?_
        refine o_as (dt 10 (fun w m => m.pick [1, 2, 3, 4, 5] rfl)) rfl rfl ?_
        refine o_as (dt 11 (fun w m => m.pick [1, 2, 3, 4, 5] rfl)) rfl rfl ?_
        refine d_done (by kernel_rfl) ?_
        refine l_then ?_
        refine c_seq ?_
        refine c_region ?_
        refine o_mv st rfl rfl ?_
        refine o_as st rfl rfl ?_
        refine c_nil ?_
        refine l_then ?_
        refine c_ret ?_
        exact l_end1 Tryd.results16 r86 () (rv_t rfl) (fun _ _ => NewCh.nil _ _ _ _)

set_option maxRecDepth 100000 in
set_option maxHeartbeats 8000000 in
theorem w_laws_toTest {w0 : World} {F : Nat → Prop} {a_0 : GTest} {κ : GTest → Prop} (hF : ∀ b, F b → b < w0.heap.size ∧ ¬ feet [] b) (h : L_laws_toTest a_0 κ) :
    Calls Tryd.prog 126 #[(.agg #[(.int .i64 a_0.xField), (.int .i64 a_0.xLo), (.int .i64 a_0.xHi), (.bool a_0.xNot)])] w0 (Ret [] F w0 κ (fun (r : GTest) (u : Unit) => (.agg #[(.int .i64 r.xField), (.int .i64 r.xLo), (.int .i64 r.xHi), (.bool r.xNot)])) (fun (r : GTest) (u : Unit) => [])) := by
  refine enter0 (args := [(.agg #[(.int .i64 a_0.xField), (.int .i64 a_0.xLo), (.int .i64 a_0.xHi), (.bool a_0.xNot)])]) [] hF (Given.nil _ _) Tryd.func126 rfl Tryd.ntmps126 rfl h ?_
  clear h hF
  refine c_seq ?_
  refine c_region ?_
  refine stw (o_box rfl rfl [(.int .i64 a_0.xField), (.int .i64 a_0.xLo), (.int .i64 a_0.xHi), (.bool a_0.xNot)] rfl ?_); intro b1
  refine stw (o_alloc rfl [(.int .i64 0), (.int .i64 0), (.int .i64 0), (.bool false)] zero173 ?_); intro b3
  refine c_nil ?_
  refine l_then ?_
  refine c_seq ?_
  refine c_region ?_
  refine stw (o_alloc rfl [(.int .i64 0), (.int .i64 0), (.int .i64 0), (.bool false)] zero173 ?_); intro b5
  refine c_nil ?_
  refine l_then ?_
  refine c_seq ?_
  refine c_region ?_
  refine o_fad st rfl rfl fld191_0 rfl ?_
  refine o_ldc st (v := (.int .i64 a_0.xField)) 2 rfl rfl rfl ty3 rfl ?_
  refine o_fad st rfl rfl fld173_0 rfl ?_
  refine stw (o_stc (cs' := [(.int .i64 a_0.xField), (.int .i64 0), (.int .i64 0), (.bool false)]) 0 rfl rfl rfl ty3 rfl rfl rfl rfl ?_)
  refine c_nil ?_
  refine l_then ?_
  refine c_seq ?_
  refine c_region ?_
  refine o_fad st rfl rfl fld191_1 rfl ?_
  refine o_ldc st (v := (.int .i64 a_0.xLo)) 2 rfl rfl rfl ty3 rfl ?_
  refine o_fad st rfl rfl fld173_1 rfl ?_
  refine stw (o_stc (cs' := [(.int .i64 a_0.xField), (.int .i64 a_0.xLo), (.int .i64 0), (.bool false)]) 0 rfl rfl rfl ty3 rfl rfl rfl rfl ?_)
  refine c_nil ?_
  refine l_then ?_
  refine c_seq ?_
  refine c_region ?_
  refine o_fad st rfl rfl fld191_2 rfl ?_
  refine o_ldc st (v := (.int .i64 a_0.xHi)) 2 rfl rfl rfl ty3 rfl ?_
  refine o_fad st rfl rfl fld173_2 rfl ?_
  refine stw (o_stc (cs' := [(.int .i64 a_0.xField), (.int .i64 a_0.xLo), (.int .i64 a_0.xHi), (.bool false)]) 0 rfl rfl rfl ty3 rfl rfl rfl rfl ?_)
  refine c_nil ?_
  refine l_then ?_
  refine c_seq ?_
  refine c_region ?_
  refine o_fad st rfl rfl fld191_3 rfl ?_
  refine o_ldc st (v := (.bool a_0.xNot)) 2 rfl rfl rfl ty4 rfl ?_
  refine o_fad st rfl rfl fld173_3 rfl ?_
  refine stw (o_stc (cs' := [(.int .i64 a_0.xField), (.int .i64 a_0.xLo), (.int .i64 a_0.xHi), (.bool a_0.xNot)]) 0 rfl rfl rfl ty4 rfl rfl rfl rfl ?_)
  refine c_nil ?_
  refine l_then ?_
  refine c_seq ?_
  refine c_region ?_
  refine o_ldc st (v := (.agg #[(.int .i64 a_0.xField), (.int .i64 a_0.xLo), (.int .i64 a_0.xHi), (.bool a_0.xNot)])) 0 rfl rfl rfl ty173 rfl ?_
  refine stw (o_stc (cs' := [(.int .i64 a_0.xField), (.int .i64 a_0.xLo), (.int .i64 a_0.xHi), (.bool a_0.xNot)]) 1 rfl rfl rfl ty173 rfl rfl rfl rfl ?_)
  refine c_nil ?_
  refine l_then ?_
  refine c_ret ?_
  exact l_end1 Tryd.results126 a_0 () (rv_c 1 rfl rfl ty173 rfl) (fun _ _ => NewCh.nil _ _ _ _)

set_option maxRecDepth 100000 in
set_option maxHeartbeats 8000000 in
theorem w_laws_toTestS {w0 : World} {F : Nat → Prop} {v1 : Value} {a_0 : (List GTest)} {κ : (List GTest) → Prop} (hF : ∀ b, F b → b < w0.heap.size ∧ ¬ feet [] b) (hv1 : Sl elGTest F w0 v1 a_0) (h : L_laws_toTestS a_0 κ) :
    Calls Tryd.prog 121 #[v1] w0 (Ret [] F w0 κ (fun (r : (List GTest)) (u : Value) => u) (fun (r : (List GTest)) (u : Value) => [ownCh elGTest 173 u r])) := by
  refine enterS (args := [v1]) [] hF (Given.nil _ _) Tryd.func121 rfl Tryd.ntmps121 rfl h ?_
  clear h hF
  refine c_seq ?_
  refine c_region ?_
  refine stw (o_asn elGTest 173 rfl rfl ?_)
  refine c_nil ?_
  refine l_then ?_
  refine c_seq ?_
  refine c_region ?_
  refine o_mv st rfl rfl ?_
  refine o_len st el163 1 rfl (reads_snap hv1) rfl rfl ?_
  refine stw (o_make (z := (GTest.mk 0 0 0 false)) flelGTest rfl rfl rfl el102 rfl zero173 rfl rfl ?_); intro v4 xs5
  refine o_as st rfl rfl ?_
  refine c_nil ?_
  refine l_then ?_
  refine c_seq ?_
  refine c_seq ?_
  refine c_region ?_
  refine o_as st rfl rfl ?_
  refine c_nil ?_
  refine l_then ?_
  refine c_block ?_
  refine c_loop (σ := ((List GTest) × Int)) (fun ((xs7, t9) : ((List GTest) × Int)) (a : Act) (w : World) => Has 23 [(0, v1), (3, v4), (4, (.int .i64 t9))] a ∧ Mem (gB F [] w0) (feet []) w0 [ownCh elGTest 173 v4 xs7, snapCh w0 F] w) (fun a w hE hm => ⟨hE.sub ⟨rfl, rfl, rfl, trivial⟩, (hm.pick [0, 2] rfl)⟩) ?_
  rintro nx10 ⟨xs7, t9⟩ a w ⟨hE, hm⟩ h
  refine nx_of hE hm h ?_
  clear hE hm h
  refine c_seq ?_
  refine c_seq ?_
  refine c_region ?_
  refine o_mv st rfl rfl ?_
  refine o_mv st rfl rfl ?_
  refine o_len st el163 1 rfl (reads_snap hv1) rfl rfl ?_
  refine o_lss st rfl rfl rfl ?_
  refine c_nil ?_
  refine l_then ?_
  refine c_cond rfl ?_ ?_
  · refine c_skip ?_
    refine l_then ?_
    refine c_seq ?_
    refine c_block ?_
    refine c_region ?_
    refine o_mv st rfl rfl ?_
    refine o_mv st rfl rfl ?_
    refine o_mv st rfl rfl ?_
    refine o_mv st rfl rfl ?_
    refine o_idx st 1 rfl (reads_snap hv1) rfl rfl rfl el163 ?_; intro e11 h12
    refine o_lds st (enc := encGTest) (u := (.agg #[(.int .i64 e11.xField), (.int .i64 e11.xLo), (.int .i64 e11.xHi), (.bool e11.xNot)])) 1 rfl (reads_snap hv1) flelGTest rfl h12 rfl rfl ty191 rfl ?_
    refine stw (o_callP (vs := [(.agg #[(.int .i64 e11.xField), (.int .i64 e11.xLo), (.int .i64 e11.xHi), (.bool e11.xNot)])]) Tryd.call126 rfl rfl (by intro w m h; exact (w_laws_toTest (F := allB [] w) (a_0 := e11) allB_ok h).mono (fun _ _ k => ret_free (fun r u => fr_nil) k)) ?_); rintro r13 _
    refine o_idx st 0 rfl reads_own rfl rfl rfl el102 ?_; intro e14 h15
    refine stw (o_sts (enc := encGTest) (y' := r13) 0 rfl flelGTest rfl h15 ty173 rfl rfl rfl rfl rfl rfl ?_)
    refine c_nil ?_
    refine b_norm ?_
    refine l_then ?_
    refine c_region ?_
    refine o_mv st rfl rfl ?_
    refine o_add st rfl rfl rfl ?_; intro t17
    refine o_as st rfl rfl ?_
    refine c_nil ?_
    exact l_join ((xs7.set (t9).toNat r13), t17) (fun a w hE hm => ⟨hE.sub ⟨rfl, rfl, rfl, trivial⟩, (hm.pick [0, 1] rfl)⟩)
  · refine c_exit ?_
    refine l_exit ?_
    refine l_exit ?_
    refine b_exit ?_
    refine l_then ?_
    refine c_seq ?_
    refine c_region ?_
    refine o_mv st rfl rfl ?_
    refine o_as st rfl rfl ?_
    refine c_nil ?_
    refine l_then ?_
    refine c_ret ?_
    exact l_end1 Tryd.results121 xs7 v4 (rv_t rfl) (fun w m => NewCh.ofB m [0] rfl)

set_option maxRecDepth 100000 in
set_option maxHeartbeats 8000000 in
theorem w_laws_toRule {w0 : World} {F : Nat → Prop} {v1 : Value} {a_0 : GRule} {κ : GRule → Prop} (hF : ∀ b, F b → b < w0.heap.size ∧ ¬ feet [] b) (hv1 : Sl elGTest F w0 v1 a_0.xTests) (h : L_laws_toRule a_0 κ) :
    Calls Tryd.prog 110 #[(.agg #[v1, (.int .i64 a_0.xAction), (.int .i64 a_0.xChain)])] w0 (Ret [] F w0 κ (fun (r : GRule) (u : Value) => (.agg #[u, (.int .i64 r.xAction), (.int .i64 r.xChain)])) (fun (r : GRule) (u : Value) => [ownCh elGTest 173 u r.xTests])) := by
  refine enterS (args := [(.agg #[v1, (.int .i64 a_0.xAction), (.int .i64 a_0.xChain)])]) [] hF (Given.nil _ _) Tryd.func110 rfl Tryd.ntmps110 rfl h ?_
  clear h hF
  refine c_seq ?_
  refine c_region ?_
  obtain ⟨a3, l4, q5, hs_⟩ := sl_val hv1; subst hs_
  refine stw (o_box rfl rfl [(.slice a3 l4 q5), (.int .i64 a_0.xAction), (.int .i64 a_0.xChain)] rfl ?_); intro b6
  refine stw (o_alloc rfl [(.slice none 0 0), (.int .i64 0), (.int .i64 0)] zero104 ?_); intro b8
  refine c_nil ?_
  refine l_then ?_
  refine c_seq ?_
  refine c_region ?_
  refine stw (o_alloc rfl [(.slice none 0 0), (.int .i64 0), (.int .i64 0)] zero104 ?_); intro b10
  refine c_nil ?_
  refine l_then ?_
  refine c_seq ?_
  refine c_region ?_
  refine o_fad st rfl rfl fld165_0 rfl ?_
  refine o_ldc st (v := (.slice a3 l4 q5)) 2 rfl rfl rfl ty163 rfl ?_
  refine stw (o_callP (vs := [(.slice a3 l4 q5)]) Tryd.call121 rfl rfl (by intro w m h; exact (w_laws_toTestS (F := allB [] w) (a_0 := a_0.xTests) allB_ok (m.rd0 3 rfl (reads_snap hv1)) h).mono (fun _ _ k => ret_free (fun r u => (fr_cons (free_own flelGTest) fr_nil)) k)) ?_); rintro r12 v13
  refine o_fad st rfl rfl fld104_0 rfl ?_
  refine nx_own 0 rfl ?_; rintro a15 l16 q17 rfl
  refine stw (o_stc (cs' := [(.slice a15 l16 q17), (.int .i64 0), (.int .i64 0)]) 1 rfl rfl rfl ty102 rfl rfl rfl rfl ?_)
  refine c_nil ?_
  refine l_then ?_
  refine c_seq ?_
  refine c_region ?_
  refine o_fad st rfl rfl fld165_1 rfl ?_
  refine o_ldc st (v := (.int .i64 a_0.xAction)) 3 rfl rfl rfl ty3 rfl ?_
  refine o_fad st rfl rfl fld104_1 rfl ?_
  refine stw (o_stc (cs' := [(.slice a15 l16 q17), (.int .i64 a_0.xAction), (.int .i64 0)]) 1 rfl rfl rfl ty3 rfl rfl rfl rfl ?_)
  refine c_nil ?_
  refine l_then ?_
  refine c_seq ?_
  refine c_region ?_
  refine o_fad st rfl rfl fld165_2 rfl ?_
  refine o_ldc st (v := (.int .i64 a_0.xChain)) 3 rfl rfl rfl ty3 rfl ?_
  refine o_fad st rfl rfl fld104_2 rfl ?_
  refine stw (o_stc (cs' := [(.slice a15 l16 q17), (.int .i64 a_0.xAction), (.int .i64 a_0.xChain)]) 1 rfl rfl rfl ty3 rfl rfl rfl rfl ?_)
  refine c_nil ?_
  refine l_then ?_
  refine c_seq ?_
  refine c_region ?_
  refine o_ldc st (v := (.agg #[(.slice a15 l16 q17), (.int .i64 a_0.xAction), (.int .i64 a_0.xChain)])) 1 rfl rfl rfl ty104 rfl ?_
  refine stw (o_stc (cs' := [(.slice a15 l16 q17), (.int .i64 a_0.xAction), (.int .i64 a_0.xChain)]) 2 rfl rfl rfl ty104 rfl rfl rfl rfl ?_)
  refine c_nil ?_
  refine l_then ?_
  refine c_ret ?_
  exact l_end1 Tryd.results110 (GRule.mk r12 a_0.xAction a_0.xChain) (.slice a15 l16 q17) (rv_c 2 rfl rfl ty104 rfl) (fun w m => NewCh.ofB m [0] rfl)

set_option maxRecDepth 100000 in
set_option maxHeartbeats 8000000 in
theorem w_laws_toRuleS {w0 : World} {F : Nat → Prop} {v1 : Value} {a_0 : (List GRule)} {κ : (List GRule) → Prop} (hF : ∀ b, F b → b < w0.heap.size ∧ ¬ feet [] b) (hv1 : Sl elGRule F w0 v1 a_0) (h : L_laws_toRuleS a_0 κ) :
    Calls Tryd.prog 93 #[v1] w0 (Ret [] F w0 κ (fun (r : (List GRule)) (u : Value × List Nat) => u.1) (fun (r : (List GRule)) (u : Value × List Nat) => [dpCh dGRule 104 u.2 u.1 r])) := by
  refine enterS (args := [v1]) [] hF (Given.nil _ _) Tryd.func93 rfl Tryd.ntmps93 rfl h ?_
  clear h hF
  refine c_seq ?_
  refine c_region ?_
  refine stw (o_asd dGRule 104 rfl rfl ?_)
  refine c_nil ?_
  refine l_then ?_
  refine c_seq ?_
  refine c_region ?_
  refine o_mv st rfl rfl ?_
  refine o_len st el136 1 rfl (reads_snap hv1) rfl rfl ?_
  refine stw (o_makeD (E' := dGRule) (z := (GRule.mk ([]) 0 0)) (fun w => ⟨_, rfl, Dp.nil⟩) rfl rfl rfl el101 rfl zero104 rfl ?_); intro bb6 v4 xs5
  refine o_as st rfl rfl ?_
  refine c_nil ?_
  refine l_then ?_
  refine c_seq ?_
  refine c_seq ?_
  refine c_region ?_
  refine o_as st rfl rfl ?_
  refine c_nil ?_
  refine l_then ?_
  refine c_block ?_
  refine c_loop (σ := ((List GRule) × Int)) (fun ((xs8, t11) : ((List GRule) × Int)) (a : Act) (w : World) => ∃ (bb10 : List Nat), Has 23 [(0, v1), (3, v4), (4, (.int .i64 t11))] a ∧ Mem (gB F [] w0) (feet []) w0 [dpCh dGRule 104 bb10 v4 xs8, snapCh w0 F] w) (fun a w hE hm => ⟨bb6, hE.sub ⟨rfl, rfl, rfl, trivial⟩, (hm.pick [0, 2] rfl)⟩) ?_
  rintro nx12 ⟨xs8, t11⟩ a w ⟨bb10, hE, hm⟩ h
  refine nx_of hE hm h ?_
  clear hE hm h
  refine c_seq ?_
  refine c_seq ?_
  refine c_region ?_
  refine o_mv st rfl rfl ?_
  refine o_mv st rfl rfl ?_
  refine o_len st el136 1 rfl (reads_snap hv1) rfl rfl ?_
  refine o_lss st rfl rfl rfl ?_
  refine c_nil ?_
  refine l_then ?_
  refine c_cond rfl ?_ ?_
  · refine c_skip ?_
    refine l_then ?_
    refine c_seq ?_
    refine c_block ?_
    refine c_region ?_
    refine o_mv st rfl rfl ?_
    refine o_mv st rfl rfl ?_
    refine o_mv st rfl rfl ?_
    refine o_mv st rfl rfl ?_
    refine o_idx st 1 rfl (reads_snap hv1) rfl rfl rfl el136 ?_; intro e13 h14
    obtain ⟨_, ⟨v16, rfl, sl17⟩, rw15⟩ := sl_open hv1 h14
    refine o_ldR st (u := (.agg #[v16, (.int .i64 e13.xAction), (.int .i64 e13.xChain)])) 1 rfl rw15 rfl rfl ty165 rfl ?_
    refine stw (o_callP (vs := [(.agg #[v16, (.int .i64 e13.xAction), (.int .i64 e13.xChain)])]) Tryd.call110 rfl rfl (by intro w m h; exact (w_laws_toRule (F := allB [] w) (a_0 := e13) allB_ok (m.rd0 1 rfl (reads_snap sl17)) h).mono (fun _ _ k => ret_free (fun r u => (fr_cons (free_own flelGTest) fr_nil)) k)) ?_); rintro r19 v20
    refine o_idx st 1 rfl reads_dp rfl rfl rfl el101 ?_; intro e22 h23
    refine nx_own 0 rfl ?_; rintro a24 l25 q26 rfl
    refine pk [1, 0, 2] rfl ?_
    refine stw (o_stD (M := [ownCh elGTest 173 (.slice a24 l25 q26) r19.xTests]) (y' := r19) rfl h23 (fun w B cz h => by obtain ⟨u, rfl, _⟩ := h; exact (absorb_one (gives_own flelGTest) (fun B w h => ⟨_, rfl, h⟩))) ty104 rfl rfl rfl rfl rfl ?_); intro bb27
    refine c_nil ?_
    refine b_norm ?_
    refine l_then ?_
    refine c_region ?_
    refine o_mv st rfl rfl ?_
    refine o_add st rfl rfl rfl ?_; intro t29
    refine o_as st rfl rfl ?_
    refine c_nil ?_
    exact l_join ((xs8.set (t11).toNat r19), t29) (fun a w hE hm => ⟨bb27, hE.sub ⟨rfl, rfl, rfl, trivial⟩, (hm.pick [0, 1] rfl)⟩)
  · refine c_exit ?_
    refine l_exit ?_
    refine l_exit ?_
    refine b_exit ?_
    refine l_then ?_
    refine c_seq ?_
    refine c_region ?_
    refine o_mv st rfl rfl ?_
    refine o_as st rfl rfl ?_
    refine c_nil ?_
    refine l_then ?_
    refine c_ret ?_
    exact l_end1 Tryd.results93 xs8 (v4, bb10) (rv_t rfl) (fun w m => NewCh.ofB m [0] rfl)

set_option maxRecDepth 100000 in
set_option maxHeartbeats 8000000 in
theorem w_laws_toRuleSS {w0 : World} {F : Nat → Prop} {v1 : Value} {a_0 : (List (List GRule))} {κ : (List (List GRule)) → Prop} (hF : ∀ b, F b → b < w0.heap.size ∧ ¬ feet [] b) (hv1 : Sl (elSl elGRule) F w0 v1 a_0) (h : L_laws_toRuleSS a_0 κ) :
    Calls Tryd.prog 60 #[v1] w0 (Ret [] F w0 κ (fun (r : (List (List GRule))) (u : Value × List Nat) => u.1) (fun (r : (List (List GRule))) (u : Value × List Nat) => [dpCh (dSl dGRule 104) 101 u.2 u.1 r])) := by
  refine enterS (args := [v1]) [] hF (Given.nil _ _) Tryd.func60 rfl Tryd.ntmps60 rfl h ?_
  clear h hF
  refine c_seq ?_
  refine c_region ?_
  refine stw (o_asd (dSl dGRule 104) 101 rfl rfl ?_)
  refine c_nil ?_
  refine l_then ?_
  refine c_seq ?_
  refine c_region ?_
  refine o_mv st rfl rfl ?_
  refine o_len st el32 1 rfl (reads_snap hv1) rfl rfl ?_
  refine stw (o_makeD (E' := (dSl dGRule 104)) (z := ([])) (fun w => ⟨_, rfl, Dp.nil⟩) rfl rfl rfl el23 rfl zero101 rfl ?_); intro bb6 v4 xs5
  refine o_as st rfl rfl ?_
  refine c_nil ?_
  refine l_then ?_
  refine c_seq ?_
  refine c_seq ?_
  refine c_region ?_
  refine o_as st rfl rfl ?_
  refine c_nil ?_
  refine l_then ?_
  refine c_block ?_
  refine c_loop (σ := ((List (List GRule)) × Int)) (fun ((xs8, t11) : ((List (List GRule)) × Int)) (a : Act) (w : World) => ∃ (bb10 : List Nat), Has 23 [(0, v1), (3, v4), (4, (.int .i64 t11))] a ∧ Mem (gB F [] w0) (feet []) w0 [dpCh (dSl dGRule 104) 101 bb10 v4 xs8, snapCh w0 F] w) (fun a w hE hm => ⟨bb6, hE.sub ⟨rfl, rfl, rfl, trivial⟩, (hm.pick [0, 2] rfl)⟩) ?_
  rintro nx12 ⟨xs8, t11⟩ a w ⟨bb10, hE, hm⟩ h
  refine nx_of hE hm h ?_
  clear hE hm h
  refine c_seq ?_
  refine c_seq ?_
  refine c_region ?_
  refine o_mv st rfl rfl ?_
  refine o_mv st rfl rfl ?_
  refine o_len st el32 1 rfl (reads_snap hv1) rfl rfl ?_
  refine o_lss st rfl rfl rfl ?_
  refine c_nil ?_
  refine l_then ?_
  refine c_cond rfl ?_ ?_
  · refine c_skip ?_
    refine l_then ?_
    refine c_seq ?_
    refine c_block ?_
    refine c_region ?_
    refine o_mv st rfl rfl ?_
    refine o_mv st rfl rfl ?_
    refine o_mv st rfl rfl ?_
    refine o_mv st rfl rfl ?_
    refine o_idx st 1 rfl (reads_snap hv1) rfl rfl rfl el32 ?_; intro e13 h14
    obtain ⟨_, ⟨v16, rfl, sl17⟩, rw15⟩ := sl_open hv1 h14
    refine o_ldR st (u := v16) 1 rfl rw15 rfl rfl ty136 rfl ?_
    refine stw (o_callP (vs := [v16]) Tryd.call93 rfl rfl (by intro w m h; exact (w_laws_toRuleS (F := allB [] w) (a_0 := e13) allB_ok (m.rd0 1 rfl (reads_snap sl17)) h).mono (fun _ _ k => ret_free (fun r u => (fr_cons free_dp fr_nil)) k)) ?_); rintro r19 ⟨v20, bb21⟩
    refine o_idx st 1 rfl reads_dp rfl rfl rfl el23 ?_; intro e23 h24
    refine nx_dp 0 rfl ?_; rintro a25 l26 q27 rfl
    refine pk [1, 0, 2] rfl ?_
    refine stw (o_stD (M := [dpCh dGRule 104 bb21 (.slice a25 l26 q27) r19]) (y' := r19) rfl h24 (fun w B cz h => by obtain ⟨u, rfl, _⟩ := h; exact (absorb_one gives_dp (fun B w h => ⟨_, rfl, h⟩))) ty101 rfl rfl rfl rfl rfl ?_); intro bb28
    refine c_nil ?_
    refine b_norm ?_
    refine l_then ?_
    refine c_region ?_
    refine o_mv st rfl rfl ?_
    refine o_add st rfl rfl rfl ?_; intro t30
    refine o_as st rfl rfl ?_
    refine c_nil ?_
    exact l_join ((xs8.set (t11).toNat r19), t30) (fun a w hE hm => ⟨bb28, hE.sub ⟨rfl, rfl, rfl, trivial⟩, (hm.pick [0, 1] rfl)⟩)
  · refine c_exit ?_
    refine l_exit ?_
    refine l_exit ?_
    refine b_exit ?_
    refine l_then ?_
    refine c_seq ?_
    refine c_region ?_
    refine o_mv st rfl rfl ?_
    refine o_as st rfl rfl ?_
    refine c_nil ?_
    refine l_then ?_
    refine c_ret ?_
    exact l_end1 Tryd.results60 xs8 (v4, bb10) (rv_t rfl) (fun w m => NewCh.ofB m [0] rfl)

set_option maxRecDepth 100000 in
set_option maxHeartbeats 8000000 in
theorem w_laws_toRuleset {w0 : World} {F : Nat → Prop} {v1 : Value} {a_0 : GRuleset} {κ : GRuleset → Prop} (hF : ∀ b, F b → b < w0.heap.size ∧ ¬ feet [] b) (hv1 : Sl (elSl elGRule) F w0 v1 a_0.xChains) (h : L_laws_toRuleset a_0 κ) :
    Calls Tryd.prog 17 #[(.agg #[v1, (.bool a_0.xAccept)])] w0 (Ret [] F w0 κ (fun (r : GRuleset) (u : Value × List Nat) => (.agg #[u.1, (.bool r.xAccept)])) (fun (r : GRuleset) (u : Value × List Nat) => [dpCh (dSl dGRule 104) 101 u.2 u.1 r.xChains])) := by
  refine enterS (args := [(.agg #[v1, (.bool a_0.xAccept)])]) [] hF (Given.nil _ _) Tryd.func17 rfl Tryd.ntmps17 rfl h ?_
  clear h hF
  refine c_seq ?_
  refine c_region ?_
  obtain ⟨a3, l4, q5, hs_⟩ := sl_val hv1; subst hs_
  refine stw (o_box rfl rfl [(.slice a3 l4 q5), (.bool a_0.xAccept)] rfl ?_); intro b6
  refine stw (o_alloc rfl [(.slice none 0 0), (.bool false)] zero25 ?_); intro b8
  refine c_nil ?_
  refine l_then ?_
  refine c_seq ?_
  refine c_region ?_
  refine stw (o_alloc rfl [(.slice none 0 0), (.bool false)] zero25 ?_); intro b10
  refine c_nil ?_
  refine l_then ?_
  refine c_seq ?_
  refine c_region ?_
  refine o_fad st rfl rfl fld34_0 rfl ?_
  refine o_ldc st (v := (.slice a3 l4 q5)) 2 rfl rfl rfl ty32 rfl ?_
  refine stw (o_callP (vs := [(.slice a3 l4 q5)]) Tryd.call60 rfl rfl (by intro w m h; exact (w_laws_toRuleSS (F := allB [] w) (a_0 := a_0.xChains) allB_ok (m.rd0 3 rfl (reads_snap hv1)) h).mono (fun _ _ k => ret_free (fun r u => (fr_cons free_dp fr_nil)) k)) ?_); rintro r12 ⟨v13, bb14⟩
  refine o_fad st rfl rfl fld25_0 rfl ?_
  refine nx_dp 0 rfl ?_; rintro a16 l17 q18 rfl
  refine stw (o_stc (cs' := [(.slice a16 l17 q18), (.bool false)]) 1 rfl rfl rfl ty23 rfl rfl rfl rfl ?_)
  refine c_nil ?_
  refine l_then ?_
  refine c_seq ?_
  refine c_region ?_
  refine o_fad st rfl rfl fld34_1 rfl ?_
  refine o_ldc st (v := (.bool a_0.xAccept)) 3 rfl rfl rfl ty4 rfl ?_
  refine o_fad st rfl rfl fld25_1 rfl ?_
  refine stw (o_stc (cs' := [(.slice a16 l17 q18), (.bool a_0.xAccept)]) 1 rfl rfl rfl ty4 rfl rfl rfl rfl ?_)
  refine c_nil ?_
  refine l_then ?_
  refine c_seq ?_
  refine c_region ?_
  refine o_ldc st (v := (.agg #[(.slice a16 l17 q18), (.bool a_0.xAccept)])) 1 rfl rfl rfl ty25 rfl ?_
  refine stw (o_stc (cs' := [(.slice a16 l17 q18), (.bool a_0.xAccept)]) 2 rfl rfl rfl ty25 rfl rfl rfl rfl ?_)
  refine c_nil ?_
  refine l_then ?_
  refine c_ret ?_
  exact l_end1 Tryd.results17 (GRuleset.mk r12 a_0.xAccept) ((.slice a16 l17 q18), bb14) (rv_c 2 rfl rfl ty25 rfl) (fun w m => NewCh.ofB m [0] rfl)

set_option maxRecDepth 100000 in
set_option maxHeartbeats 8000000 in
theorem w_laws_toPacket {w0 : World} {F : Nat → Prop} {a_0 : GPacket} {κ : GPacket → Prop} (hF : ∀ b, F b → b < w0.heap.size ∧ ¬ feet [] b) (h : L_laws_toPacket a_0 κ) :
    Calls Tryd.prog 18 #[(.agg #[(.int .i64 a_0.xFrom), (.int .i64 a_0.xTo), (.int .i64 a_0.xPort), (.int .i64 a_0.xProto)])] w0 (Ret [] F w0 κ (fun (r : GPacket) (u : Unit) => (.agg #[(.int .i64 r.xFrom), (.int .i64 r.xTo), (.int .i64 r.xPort), (.int .i64 r.xProto)])) (fun (r : GPacket) (u : Unit) => [])) := by
  refine enter0 (args := [(.agg #[(.int .i64 a_0.xFrom), (.int .i64 a_0.xTo), (.int .i64 a_0.xPort), (.int .i64 a_0.xProto)])]) [] hF (Given.nil _ _) Tryd.func18 rfl Tryd.ntmps18 rfl h ?_
  clear h hF
  refine c_seq ?_
  refine c_region ?_
  refine stw (o_box rfl rfl [(.int .i64 a_0.xFrom), (.int .i64 a_0.xTo), (.int .i64 a_0.xPort), (.int .i64 a_0.xProto)] rfl ?_); intro b1
  refine stw (o_alloc rfl [(.int .i64 0), (.int .i64 0), (.int .i64 0), (.int .i64 0)] zero40 ?_); intro b3
  refine c_nil ?_
  refine l_then ?_
  refine c_seq ?_
  refine c_region ?_
  refine stw (o_alloc rfl [(.int .i64 0), (.int .i64 0), (.int .i64 0), (.int .i64 0)] zero40 ?_); intro b5
  refine c_nil ?_
  refine l_then ?_
  refine c_seq ?_
  refine c_region ?_
  refine o_fad st rfl rfl fld36_0 rfl ?_
  refine o_ldc st (v := (.int .i64 a_0.xFrom)) 2 rfl rfl rfl ty3 rfl ?_
  refine o_fad st rfl rfl fld40_0 rfl ?_
  refine stw (o_stc (cs' := [(.int .i64 a_0.xFrom), (.int .i64 0), (.int .i64 0), (.int .i64 0)]) 0 rfl rfl rfl ty3 rfl rfl rfl rfl ?_)
  refine c_nil ?_
  refine l_then ?_
  refine c_seq ?_
  refine c_region ?_
  refine o_fad st rfl rfl fld36_1 rfl ?_
  refine o_ldc st (v := (.int .i64 a_0.xTo)) 2 rfl rfl rfl ty3 rfl ?_
  refine o_fad st rfl rfl fld40_1 rfl ?_
  refine stw (o_stc (cs' := [(.int .i64 a_0.xFrom), (.int .i64 a_0.xTo), (.int .i64 0), (.int .i64 0)]) 0 rfl rfl rfl ty3 rfl rfl rfl rfl ?_)
  refine c_nil ?_
  refine l_then ?_
  refine c_seq ?_
  refine c_region ?_
  refine o_fad st rfl rfl fld36_2 rfl ?_
  refine o_ldc st (v := (.int .i64 a_0.xPort)) 2 rfl rfl rfl ty3 rfl ?_
  refine o_fad st rfl rfl fld40_2 rfl ?_
  refine stw (o_stc (cs' := [(.int .i64 a_0.xFrom), (.int .i64 a_0.xTo), (.int .i64 a_0.xPort), (.int .i64 0)]) 0 rfl rfl rfl ty3 rfl rfl rfl rfl ?_)
  refine c_nil ?_
  refine l_then ?_
  refine c_seq ?_
  refine c_region ?_
  refine o_fad st rfl rfl fld36_3 rfl ?_
  refine o_ldc st (v := (.int .i64 a_0.xProto)) 2 rfl rfl rfl ty3 rfl ?_
  refine o_fad st rfl rfl fld40_3 rfl ?_
  refine stw (o_stc (cs' := [(.int .i64 a_0.xFrom), (.int .i64 a_0.xTo), (.int .i64 a_0.xPort), (.int .i64 a_0.xProto)]) 0 rfl rfl rfl ty3 rfl rfl rfl rfl ?_)
  refine c_nil ?_
  refine l_then ?_
  refine c_seq ?_
  refine c_region ?_
  refine o_ldc st (v := (.agg #[(.int .i64 a_0.xFrom), (.int .i64 a_0.xTo), (.int .i64 a_0.xPort), (.int .i64 a_0.xProto)])) 0 rfl rfl rfl ty40 rfl ?_
  refine stw (o_stc (cs' := [(.int .i64 a_0.xFrom), (.int .i64 a_0.xTo), (.int .i64 a_0.xPort), (.int .i64 a_0.xProto)]) 1 rfl rfl rfl ty40 rfl rfl rfl rfl ?_)
  refine c_nil ?_
  refine l_then ?_
  refine c_ret ?_
  exact l_end1 Tryd.results18 a_0 () (rv_c 1 rfl rfl ty40 rfl) (fun _ _ => NewCh.nil _ _ _ _)

set_option maxRecDepth 100000 in
set_option maxHeartbeats 8000000 in
theorem w_impl_lifeValid {w0 : World} {F : Nat → Prop} {life_0 : Int} {κ : Bool → Prop} (hF : ∀ b, F b → b < w0.heap.size ∧ ¬ feet [] b) (h : L_impl_lifeValid life_0 κ) :
    Calls Tryd.prog 62 #[(.int .i64 life_0)] w0 (Ret [] F w0 κ (fun (r : Bool) (u : Unit) => (.bool r)) (fun (r : Bool) (u : Unit) => [])) := by
  refine enter0 (args := [(.int .i64 life_0)]) [] hF (Given.nil _ _) Tryd.func62 rfl Tryd.ntmps62 rfl h ?_
  clear h hF
  refine c_seq ?_
  refine c_region ?_
  refine o_as st rfl rfl ?_
  refine c_nil ?_
  refine l_then ?_
  refine c_join (σ := Bool) (fun (t61 : Bool) (a : Act) (w : World) => Has 9 [(2, (.bool t61))] a ∧ Mem (gB F [] w0) (feet []) w0 [] w) ?_ ?_
  · intro k62
    refine c_region ?_
    refine o_mv st rfl rfl ?_
    refine o_geq st rfl rfl rfl ?_
    refine o_mv st rfl rfl ?_
    refine st_sp (dj := 5) rfl ?_ ?_
    · refine o_mv (st_g rfl rfl) rfl rfl ?_
      refine o_leq (st_g rfl rfl) rfl rfl rfl ?_
      refine o_pickT st rfl rfl rfl ?_
      refine o_as st rfl rfl ?_
      refine c_nil ?_
      exact l_join (decide (life_0 ≤ 1000)) (fun a w hE hm => ⟨hE.sub ⟨rfl, trivial⟩, (hm.pick [] rfl)⟩)
    · refine st_s rfl rfl rfl rfl ?_
      refine st_s rfl rfl rfl rfl ?_
      refine o_pickF st rfl rfl rfl ?_
      refine o_as st rfl rfl ?_
      refine c_nil ?_
      exact l_join false (fun a w hE hm => ⟨hE.sub ⟨rfl, trivial⟩, (hm.pick [] rfl)⟩)
  · rintro t61 a w ⟨hE, hm⟩ h
    refine nx_of hE hm h ?_
    clear hE hm h
    refine c_ret ?_
    exact l_end1 Tryd.results62 t61 () (rv_t rfl) (fun _ _ => NewCh.nil _ _ _ _)

set_option maxRecDepth 100000 in
set_option maxHeartbeats 8000000 in
theorem w_impl_timeValid {w0 : World} {F : Nat → Prop} {now_0 : Int} {κ : Bool → Prop} (hF : ∀ b, F b → b < w0.heap.size ∧ ¬ feet [] b) (h : L_impl_timeValid now_0 κ) :
    Calls Tryd.prog 72 #[(.int .i64 now_0)] w0 (Ret [] F w0 κ (fun (r : Bool) (u : Unit) => (.bool r)) (fun (r : Bool) (u : Unit) => [])) := by
  refine enter0 (args := [(.int .i64 now_0)]) [] hF (Given.nil _ _) Tryd.func72 rfl Tryd.ntmps72 rfl h ?_
  clear h hF
  refine c_seq ?_
  refine c_region ?_
  refine o_as st rfl rfl ?_
  refine c_nil ?_
  refine l_then ?_
  refine c_join (σ := Bool) (fun (t61 : Bool) (a : Act) (w : World) => Has 9 [(2, (.bool t61))] a ∧ Mem (gB F [] w0) (feet []) w0 [] w) ?_ ?_
  · intro k62
    refine c_region ?_
    refine o_mv st rfl rfl ?_
    refine o_geq st rfl rfl rfl ?_
    refine o_mv st rfl rfl ?_
    refine st_sp (dj := 5) rfl ?_ ?_
    · refine o_mv (st_g rfl rfl) rfl rfl ?_
      refine o_leq (st_g rfl rfl) rfl rfl rfl ?_
      refine o_pickT st rfl rfl rfl ?_
      refine o_as st rfl rfl ?_
      refine c_nil ?_
      exact l_join (decide (now_0 ≤ 1000000)) (fun a w hE hm => ⟨hE.sub ⟨rfl, trivial⟩, (hm.pick [] rfl)⟩)
    · refine st_s rfl rfl rfl rfl ?_
      refine st_s rfl rfl rfl rfl ?_
      refine o_pickF st rfl rfl rfl ?_
      refine o_as st rfl rfl ?_
      refine c_nil ?_
      exact l_join false (fun a w hE hm => ⟨hE.sub ⟨rfl, trivial⟩, (hm.pick [] rfl)⟩)
  · rintro t61 a w ⟨hE, hm⟩ h
    refine nx_of hE hm h ?_
    clear hE hm h
    refine c_ret ?_
    exact l_end1 Tryd.results72 t61 () (rv_t rfl) (fun _ _ => NewCh.nil _ _ _ _)

set_option maxRecDepth 100000 in
set_option maxHeartbeats 8000000 in
theorem w_impl_Packet_reverse {w0 : World} {F : Nat → Prop} {p_0 : GPacket} {κ : GPacket → Prop} (hF : ∀ b, F b → b < w0.heap.size ∧ ¬ feet [] b) (h : L_impl_Packet_reverse p_0 κ) :
    Calls Tryd.prog 64 #[(.agg #[(.int .i64 p_0.xFrom), (.int .i64 p_0.xTo), (.int .i64 p_0.xPort), (.int .i64 p_0.xProto)])] w0 (Ret [] F w0 κ (fun (r : GPacket) (u : Unit) => (.agg #[(.int .i64 r.xFrom), (.int .i64 r.xTo), (.int .i64 r.xPort), (.int .i64 r.xProto)])) (fun (r : GPacket) (u : Unit) => [])) := by
  refine enter0 (args := [(.agg #[(.int .i64 p_0.xFrom), (.int .i64 p_0.xTo), (.int .i64 p_0.xPort), (.int .i64 p_0.xProto)])]) [] hF (Given.nil _ _) Tryd.func64 rfl Tryd.ntmps64 rfl h ?_
  clear h hF
  refine c_seq ?_
  refine c_region ?_
  refine stw (o_box rfl rfl [(.int .i64 p_0.xFrom), (.int .i64 p_0.xTo), (.int .i64 p_0.xPort), (.int .i64 p_0.xProto)] rfl ?_); intro b1
  refine stw (o_alloc rfl [(.int .i64 0), (.int .i64 0), (.int .i64 0), (.int .i64 0)] zero40 ?_); intro b3
  refine c_nil ?_
  refine l_then ?_
  refine c_seq ?_
  refine c_region ?_
  refine o_fad st rfl rfl fld40_1 rfl ?_
  refine o_ldc st (v := (.int .i64 p_0.xTo)) 1 rfl rfl rfl ty3 rfl ?_
  refine o_fad st rfl rfl fld40_0 rfl ?_
  refine o_ldc st (v := (.int .i64 p_0.xFrom)) 1 rfl rfl rfl ty3 rfl ?_
  refine o_fad st rfl rfl fld40_0 rfl ?_
  refine stw (o_stc (cs' := [(.int .i64 p_0.xTo), (.int .i64 p_0.xTo), (.int .i64 p_0.xPort), (.int .i64 p_0.xProto)]) 1 rfl rfl rfl ty3 rfl rfl rfl rfl ?_)
  refine o_fad st rfl rfl fld40_1 rfl ?_
  refine stw (o_stc (cs' := [(.int .i64 p_0.xTo), (.int .i64 p_0.xFrom), (.int .i64 p_0.xPort), (.int .i64 p_0.xProto)]) 1 rfl rfl rfl ty3 rfl rfl rfl rfl ?_)
  refine c_nil ?_
  refine l_then ?_
  refine c_seq ?_
  refine c_region ?_
  refine o_ldc st (v := (.agg #[(.int .i64 p_0.xTo), (.int .i64 p_0.xFrom), (.int .i64 p_0.xPort), (.int .i64 p_0.xProto)])) 1 rfl rfl rfl ty40 rfl ?_
  refine stw (o_stc (cs' := [(.int .i64 p_0.xTo), (.int .i64 p_0.xFrom), (.int .i64 p_0.xPort), (.int .i64 p_0.xProto)]) 0 rfl rfl rfl ty40 rfl rfl rfl rfl ?_)
  refine c_nil ?_
  refine l_then ?_
  refine c_ret ?_
  exact l_end1 Tryd.results64 (GPacket.mk p_0.xTo p_0.xFrom p_0.xPort p_0.xProto) () (rv_c 0 rfl rfl ty40 rfl) (fun _ _ => NewCh.nil _ _ _ _)

end

end Go.Proofs.YtigdghiknfehhaaDoor
