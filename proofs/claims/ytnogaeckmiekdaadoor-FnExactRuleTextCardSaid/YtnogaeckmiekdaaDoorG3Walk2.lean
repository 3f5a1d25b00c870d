/- The walks of the functions of this seat (printed), on. -/
import Derived.Test.YtnogaeckmiekdaaDoorG3Walk
set_option linter.unusedSimpArgs false
set_option linter.unusedVariables false
namespace Go.Proofs.YtnogaeckmiekdaaDoor
open Go.RowKit
set_option maxRecDepth 100000 in
set_option maxHeartbeats 8000000 in
theorem w_spec_l20Prefix {w0 : World} {F : Nat → Prop} {b1 : Nat} {v2 : Value} {r_0_b : (List UInt8)} {r_0_p : Int} {n_1 : Int} {κ : (GPrefix × Int) → Prop} (hF : ∀ b, F b → b < w0.heap.size ∧ ¬ feet [cellCh b1 [v2, (.int .i64 r_0_p)] 111] b) (hg : Given [cellCh b1 [v2, (.int .i64 r_0_p)] 111] F w0) (hv2 : Sl elU8 F w0 v2 r_0_b) (h : L_spec_l20Prefix r_0_b r_0_p n_1 κ) :
    Calls Tryd.prog 59 #[(.pointer (some ⟨b1, 0, none⟩)), (.int .i64 n_1)] w0 (Ret [cellCh b1 [v2, (.int .i64 r_0_p)] 111] F w0 κ (fun (r : (GPrefix × Int)) (u : Unit) => (.agg #[(.int .i64 r.1.xBase), (.int .i64 r.1.xLength)])) (fun (r : (GPrefix × Int)) (u : Unit) => [cellCh b1 [v2, (.int .i64 r.2)] 111])) := by
  refine enterS (args := [(.pointer (some ⟨b1, 0, none⟩)), (.int .i64 n_1)]) [cellCh b1 [v2, (.int .i64 r_0_p)] 111] hF hg Tryd.func59 rfl Tryd.ntmps59 rfl h ?_
  clear h hF hg
  refine c_seq ?_
  refine c_region ?_
  refine stw (o_alloc rfl [(.int .i64 0), (.int .i64 0)] zero29 ?_); intro b5
  refine c_nil ?_
  refine l_then ?_
  refine c_seq ?_
  refine c_region ?_
  refine o_mv st rfl rfl ?_
  refine pk [1, 0, 2] rfl ?_
  refine stw (o_call (vs := [(.pointer (some ⟨b1, 0, none⟩)), (.int .i64 9)]) (M0 := [cellCh b1 [v2, (.int .i64 r_0_p)] 111]) Tryd.call65 rfl rfl (by intro w m h; exact (w_spec_l20Rd_pick (F := allB [cellCh b1 [v2, (.int .i64 r_0_p)] 111] w) (r_0_b := r_0_b) (r_0_p := r_0_p) (n_1 := 9) allB_ok m.given (m.rdM 1 rfl (reads_snap hv2)) h).mono (fun _ _ k => ret_free (fun r u => (fr_cons free_cell fr_nil)) k)) ?_); rintro ⟨r7, r8⟩ _
  refine o_add st rfl rfl rfl ?_; intro t9
  refine o_mv st rfl rfl ?_
  refine stw (o_call (vs := [(.pointer (some ⟨b1, 0, none⟩)), (.int .i64 17)]) (M0 := [cellCh b1 [v2, (.int .i64 r8)] 111]) Tryd.call65 rfl rfl (by intro w m h; exact (w_spec_l20Rd_pick (F := allB [cellCh b1 [v2, (.int .i64 r8)] 111] w) (r_0_b := r_0_b) (r_0_p := r8) (n_1 := 17) allB_ok m.given (m.rdM 1 rfl (reads_snap hv2)) h).mono (fun _ _ k => ret_free (fun r u => (fr_cons free_cell fr_nil)) k)) ?_); rintro ⟨r10, r11⟩ _
  refine stw (o_bsl (enc := encInt) (qs := [(0, (.int .i64 16)), (1, (.int .i64 t9)), (2, (.int .i64 r10))]) (cells := [(.int .i64 16), (.int .i64 t9), (.int .i64 r10)]) ([16, t9, r10]) flelInt (by intro ρ h; simp only [List.map_toArray, List.map_cons, List.map_nil, h (.const (.int .i64 16)) _ rfl, h (.tmp 8) _ rfl, h (.tmp 10) _ rfl]) rfl el103 zero3 rfl rfl rfl rfl rfl rfl ?_); intro v12
  refine o_mv st rfl rfl ?_
  refine pk [1, 0, 2, 3] rfl ?_
  refine stw (o_call (vs := [(.pointer (some ⟨b1, 0, none⟩)), (.int .i64 3)]) (M0 := [cellCh b1 [v2, (.int .i64 r11)] 111]) Tryd.call65 rfl rfl (by intro w m h; exact (w_spec_l20Rd_pick (F := allB [cellCh b1 [v2, (.int .i64 r11)] 111] w) (r_0_b := r_0_b) (r_0_p := r11) (n_1 := 3) allB_ok m.given (m.rdM 2 rfl (reads_snap hv2)) h).mono (fun _ _ k => ret_free (fun r u => (fr_cons free_cell fr_nil)) k)) ?_); rintro ⟨r14, r15⟩ _
  refine o_idx st 1 rfl reads_own rfl rfl rfl el103 ?_; intro e16 h17
  refine o_lds st (enc := encInt) (u := (.int .i64 e16)) 1 rfl reads_own flelInt rfl h17 rfl rfl ty3 rfl ?_
  refine o_bld st (qs := [(1, (.int .i64 e16))]) (cells := [(.int .i64 0), (.int .i64 e16)]) (by intro ρ h; simp only [List.map_toArray, List.map_cons, List.map_nil, h (.tmp 15) _ rfl]) rfl bld29 rfl ?_
  refine stw (o_alloc rfl [(.int .i64 0), (.int .i64 0)] zero29 ?_); intro b18
  refine stw (o_stc (cs' := [(.int .i64 0), (.int .i64 e16)]) 0 rfl rfl rfl ty29 rfl rfl rfl rfl ?_)
  refine c_nil ?_
  refine l_then ?_
  refine c_seq ?_
  refine c_region ?_
  refine o_mv st rfl rfl ?_
  refine pk [1, 0, 2, 3, 4] rfl ?_
  refine stw (o_call (vs := [(.pointer (some ⟨b1, 0, none⟩)), (.int .i64 4)]) (M0 := [cellCh b1 [v2, (.int .i64 r15)] 111]) Tryd.call65 rfl rfl (by intro w m h; exact (w_spec_l20Rd_pick (F := allB [cellCh b1 [v2, (.int .i64 r15)] 111] w) (r_0_b := r_0_b) (r_0_p := r15) (n_1 := 4) allB_ok m.given (m.rdM 3 rfl (reads_snap hv2)) h).mono (fun _ _ k => ret_free (fun r u => (fr_cons free_cell fr_nil)) k)) ?_); rintro ⟨r20, r21⟩ _
  refine o_mul st rfl rfl rfl ?_; intro t22
  refine o_mv st rfl rfl ?_
  refine stw (o_call (vs := [(.pointer (some ⟨b1, 0, none⟩)), (.int .i64 256)]) (M0 := [cellCh b1 [v2, (.int .i64 r21)] 111]) Tryd.call65 rfl rfl (by intro w m h; exact (w_spec_l20Rd_pick (F := allB [cellCh b1 [v2, (.int .i64 r21)] 111] w) (r_0_b := r_0_b) (r_0_p := r21) (n_1 := 256) allB_ok m.given (m.rdM 3 rfl (reads_snap hv2)) h).mono (fun _ _ k => ret_free (fun r u => (fr_cons free_cell fr_nil)) k)) ?_); rintro ⟨r23, r24⟩ _
  refine stw (o_bsl (enc := encInt) (qs := [(0, (.int .i64 1)), (1, (.int .i64 64))]) (cells := [(.int .i64 1), (.int .i64 64)]) ([1, 64]) flelInt (by intro ρ h; simp only [List.map_toArray, List.map_cons, List.map_nil, h (.const (.int .i64 1)) _ rfl, h (.const (.int .i64 64)) _ rfl]) rfl el103 zero3 rfl rfl rfl rfl rfl rfl ?_); intro v25
  refine o_mv st rfl rfl ?_
  refine pk [1, 0, 2, 3, 4, 5] rfl ?_
  refine stw (o_call (vs := [(.pointer (some ⟨b1, 0, none⟩)), (.int .i64 2)]) (M0 := [cellCh b1 [v2, (.int .i64 r24)] 111]) Tryd.call65 rfl rfl (by intro w m h; exact (w_spec_l20Rd_pick (F := allB [cellCh b1 [v2, (.int .i64 r24)] 111] w) (r_0_b := r_0_b) (r_0_p := r24) (n_1 := 2) allB_ok m.given (m.rdM 4 rfl (reads_snap hv2)) h).mono (fun _ _ k => ret_free (fun r u => (fr_cons free_cell fr_nil)) k)) ?_); rintro ⟨r27, r28⟩ _
  refine o_idx st 1 rfl reads_own rfl rfl rfl el103 ?_; intro e29 h30
  refine o_lds st (enc := encInt) (u := (.int .i64 e29)) 1 rfl reads_own flelInt rfl h30 rfl rfl ty3 rfl ?_
  refine o_mul st rfl rfl rfl ?_; intro t31
  refine o_add st rfl rfl rfl ?_; intro t32
  refine o_rem st rfl rfl rfl ?_; intro t33
  refine o_fad st rfl rfl fld29_0 rfl ?_
  refine stw (o_stc (cs' := [(.int .i64 t33), (.int .i64 e16)]) 2 rfl rfl rfl ty3 rfl rfl rfl rfl ?_)
  refine c_nil ?_
  refine l_then ?_
  refine c_join (σ := Int) (fun (t34 : Int) (a : Act) (w : World) => Has 70 [(0, (.pointer (some ⟨b1, 0, none⟩))), (1, (.int .i64 n_1)), (4, (.pointer (some ⟨b5, 0, none⟩))), (5, (.pointer (some ⟨b18, 0, none⟩)))] a ∧ Mem (gB F [cellCh b1 [v2, (.int .i64 r_0_p)] 111] w0) (feet [cellCh b1 [v2, (.int .i64 r_0_p)] 111]) w0 [cellCh b1 [v2, (.int .i64 r28)] 111, cellCh b18 [(.int .i64 t34), (.int .i64 e16)] 29, cellCh b5 [(.int .i64 0), (.int .i64 0)] 29, snapCh w0 F] w) ?_ ?_
  · intro k35
    refine c_drawQ mixed 12 rfl [cellCh b1 [v2, (.int .i64 r28)] 111, ownCh elInt 3 v25 ([1, 64]), ownCh elInt 3 v12 ([16, t9, r10]), cellCh b5 [(.int .i64 0), (.int .i64 0)] 29, snapCh w0 F] ?_
    intro Qd hP hQ
    have H53 : ∀ (t36 : Int) (t37 : Int), Nx 70 (gB F [cellCh b1 [v2, (.int .i64 r_0_p)] 111] w0) (feet [cellCh b1 [v2, (.int .i64 r_0_p)] 111]) w0 (wpAnyH Tryd.prog .any (opsAt Tryd.f59 [1, 1, 1, 0]) Qd (Mem (gB F [cellCh b1 [v2, (.int .i64 r_0_p)] 111] w0) (feet [cellCh b1 [v2, (.int .i64 r_0_p)] 111]) w0 [cellCh b1 [v2, (.int .i64 r28)] 111, ownCh elInt 3 v25 ([1, 64]), ownCh elInt 3 v12 ([16, t9, r10]), cellCh b5 [(.int .i64 0), (.int .i64 0)] 29, snapCh w0 F]) 0 #[true, true, true, true, true, true, true, true, true, true, true, true]) [(0, (.pointer (some ⟨b1, 0, none⟩))), (1, (.int .i64 n_1)), (4, (.pointer (some ⟨b5, 0, none⟩))), (5, (.pointer (some ⟨b18, 0, none⟩)))] [cellCh b1 [v2, (.int .i64 r28)] 111, ownCh elInt 3 v25 ([1, 64]), cellCh b18 [(.int .i64 t37), (.int .i64 e16)] 29, ownCh elInt 3 v12 ([16, t9, r10]), cellCh b5 [(.int .i64 0), (.int .i64 0)] 29, snapCh w0 F] (k35 t37) := by
      intro t36 t37
      refine d_done (by kernel_rfl) ?_
      exact fun a w hE hm hφ => hQ t37 a w hφ ((fun a w hE hm => ⟨hE.sub ⟨rfl, rfl, rfl, rfl, trivial⟩, (hm.pick [0, 2, 4, 5] rfl)⟩) a w hE hm)
    have H54 : ∀ (t36 : Int), Nx 70 (gB F [cellCh b1 [v2, (.int .i64 r_0_p)] 111] w0) (feet [cellCh b1 [v2, (.int .i64 r_0_p)] 111]) w0 (wpAnyH Tryd.prog .any (opsAt Tryd.f59 [1, 1, 1, 0]) Qd (Mem (gB F [cellCh b1 [v2, (.int .i64 r_0_p)] 111] w0) (feet [cellCh b1 [v2, (.int .i64 r_0_p)] 111]) w0 [cellCh b1 [v2, (.int .i64 r28)] 111, ownCh elInt 3 v25 ([1, 64]), ownCh elInt 3 v12 ([16, t9, r10]), cellCh b5 [(.int .i64 0), (.int .i64 0)] 29, snapCh w0 F]) 4 #[true, true, true, true, true, true, true, true, false, false, false, false]) [(0, (.pointer (some ⟨b1, 0, none⟩))), (1, (.int .i64 n_1)), (4, (.pointer (some ⟨b5, 0, none⟩))), (5, (.pointer (some ⟨b18, 0, none⟩))), (36, (.int .i64 t36)), (38, (.int .i64 e16))] [cellCh b1 [v2, (.int .i64 r28)] 111, ownCh elInt 3 v25 ([1, 64]), cellCh b18 [(.int .i64 t33), (.int .i64 e16)] 29, ownCh elInt 3 v12 ([16, t9, r10]), cellCh b5 [(.int .i64 0), (.int .i64 0)] 29, snapCh w0 F] (shlW t36 (w64 (16 - e16)) (fun t37 => k35 t37)) := by
      intro t36
      refine o_subw (dt 8 (fun w m => m.pick [0, 1, 3, 4, 5] rfl)) rfl rfl rfl ?_
      refine o_shl (dt 9 (fun w m => m.pick [0, 1, 3, 4, 5] rfl)) rfl rfl rfl ?_; intro t37
      refine o_fad (dt 10 (fun w m => m.pick [0, 1, 3, 4, 5] rfl)) rfl rfl fld29_0 rfl ?_
      refine d_one (i := 11) rfl (by kernel_rfl) (o_stc (cs' := [(.int .i64 t37), (.int .i64 e16)]) 2 rfl rfl rfl ty3 rfl rfl rfl rfl ?_)
      refine d_and (fun w m => m.pick [0, 1, 3, 4, 5] rfl) ?_
      refine pk [0, 1, 2, 3, 4, 5] rfl ?_
      refine re (E' := [(0, (.pointer (some ⟨b1, 0, none⟩))), (1, (.int .i64 n_1)), (4, (.pointer (some ⟨b5, 0, none⟩))), (5, (.pointer (some ⟨b18, 0, none⟩)))]) ⟨rfl, rfl, rfl, rfl, trivial⟩ ?_
      exact H53 t36 t37
    have H55 : ∀ (_ : Unit), Nx 70 (gB F [cellCh b1 [v2, (.int .i64 r_0_p)] 111] w0) (feet [cellCh b1 [v2, (.int .i64 r_0_p)] 111]) w0 (wpAnyH Tryd.prog .any (opsAt Tryd.f59 [1, 1, 1, 0]) Qd (Mem (gB F [cellCh b1 [v2, (.int .i64 r_0_p)] 111] w0) (feet [cellCh b1 [v2, (.int .i64 r_0_p)] 111]) w0 [cellCh b1 [v2, (.int .i64 r28)] 111, ownCh elInt 3 v25 ([1, 64]), ownCh elInt 3 v12 ([16, t9, r10]), cellCh b5 [(.int .i64 0), (.int .i64 0)] 29, snapCh w0 F]) 7 #[true, true, true, true, false, false, true, false, false, false, false, false]) [(0, (.pointer (some ⟨b1, 0, none⟩))), (1, (.int .i64 n_1)), (4, (.pointer (some ⟨b5, 0, none⟩))), (5, (.pointer (some ⟨b18, 0, none⟩))), (37, (.pointer (some ⟨b18, 1, none⟩))), (32, (.int .i64 t33)), (34, (.int .i64 e16))] [cellCh b1 [v2, (.int .i64 r28)] 111, ownCh elInt 3 v25 ([1, 64]), cellCh b18 [(.int .i64 t33), (.int .i64 e16)] 29, ownCh elInt 3 v12 ([16, t9, r10]), cellCh b5 [(.int .i64 0), (.int .i64 0)] 29, snapCh w0 F] (shrW t33 (w64 (16 - e16)) (fun t36 => shlW t36 (w64 (16 - e16)) (fun t37 => k35 t37))) := by
      intro _
      refine o_subw (dt 4 (fun w m => m.pick [0, 1, 3, 4, 5] rfl)) rfl rfl rfl ?_
      refine o_shr (dt 5 (fun w m => m.pick [0, 1, 3, 4, 5] rfl)) rfl rfl rfl ?_; intro t36
      refine d_one (i := 7) rfl (by kernel_rfl) (o_ldc m_op (v := (.int .i64 e16)) 2 rfl rfl rfl ty3 rfl ?_)
      refine d_and (fun w m => m.pick [0, 1, 3, 4, 5] rfl) ?_
      refine pk [0, 1, 2, 3, 4, 5] rfl ?_
      refine re (E' := [(0, (.pointer (some ⟨b1, 0, none⟩))), (1, (.int .i64 n_1)), (4, (.pointer (some ⟨b5, 0, none⟩))), (5, (.pointer (some ⟨b18, 0, none⟩))), (36, (.int .i64 t36)), (38, (.int .i64 e16))]) ⟨rfl, rfl, rfl, rfl, rfl, rfl, trivial⟩ ?_
      exact H54 t36
    have H56 : ∀ (_ : Unit), Nx 70 (gB F [cellCh b1 [v2, (.int .i64 r_0_p)] 111] w0) (feet [cellCh b1 [v2, (.int .i64 r_0_p)] 111]) w0 (wpAnyH Tryd.prog .any (opsAt Tryd.f59 [1, 1, 1, 0]) Qd (Mem (gB F [cellCh b1 [v2, (.int .i64 r_0_p)] 111] w0) (feet [cellCh b1 [v2, (.int .i64 r_0_p)] 111]) w0 [cellCh b1 [v2, (.int .i64 r28)] 111, ownCh elInt 3 v25 ([1, 64]), ownCh elInt 3 v12 ([16, t9, r10]), cellCh b5 [(.int .i64 0), (.int .i64 0)] 29, snapCh w0 F]) 5 #[true, true, true, true, false, false, true, true, true, false, false, false]) [(0, (.pointer (some ⟨b1, 0, none⟩))), (1, (.int .i64 n_1)), (4, (.pointer (some ⟨b5, 0, none⟩))), (5, (.pointer (some ⟨b18, 0, none⟩))), (32, (.int .i64 t33)), (39, (.int .i64 (w64 (16 - e16)))), (34, (.int .i64 e16))] [cellCh b1 [v2, (.int .i64 r28)] 111, ownCh elInt 3 v25 ([1, 64]), cellCh b18 [(.int .i64 t33), (.int .i64 e16)] 29, ownCh elInt 3 v12 ([16, t9, r10]), cellCh b5 [(.int .i64 0), (.int .i64 0)] 29, snapCh w0 F] (shrW t33 (w64 (16 - e16)) (fun t38 => shlW t38 (w64 (16 - e16)) (fun t39 => k35 t39))) := by
      intro _
      refine o_subw (dt 4 (fun w m => m.pick [0, 1, 3, 4, 5] rfl)) rfl rfl rfl ?_
      refine o_shr (dt 5 (fun w m => m.pick [0, 1, 3, 4, 5] rfl)) rfl rfl rfl ?_; intro t38
      refine o_shl (dt 9 (fun w m => m.pick [0, 1, 3, 4, 5] rfl)) rfl rfl rfl ?_; intro t39
      refine o_fad (dt 10 (fun w m => m.pick [0, 1, 3, 4, 5] rfl)) rfl rfl fld29_0 rfl ?_
      refine d_one (i := 11) rfl (by kernel_rfl) (o_stc (cs' := [(.int .i64 t39), (.int .i64 e16)]) 2 rfl rfl rfl ty3 rfl rfl rfl rfl ?_)
      refine d_and (fun w m => m.pick [0, 1, 3, 4, 5] rfl) ?_
      refine pk [0, 1, 2, 3, 4, 5] rfl ?_
      refine re (E' := [(0, (.pointer (some ⟨b1, 0, none⟩))), (1, (.int .i64 n_1)), (4, (.pointer (some ⟨b5, 0, none⟩))), (5, (.pointer (some ⟨b18, 0, none⟩)))]) ⟨rfl, rfl, rfl, rfl, trivial⟩ ?_
      exact H53 t38 t39
    have H57 : ∀ (_ : Unit), Nx 70 (gB F [cellCh b1 [v2, (.int .i64 r_0_p)] 111] w0) (feet [cellCh b1 [v2, (.int .i64 r_0_p)] 111]) w0 (wpAnyH Tryd.prog .any (opsAt Tryd.f59 [1, 1, 1, 0]) Qd (Mem (gB F [cellCh b1 [v2, (.int .i64 r_0_p)] 111] w0) (feet [cellCh b1 [v2, (.int .i64 r_0_p)] 111]) w0 [cellCh b1 [v2, (.int .i64 r28)] 111, ownCh elInt 3 v25 ([1, 64]), ownCh elInt 3 v12 ([16, t9, r10]), cellCh b5 [(.int .i64 0), (.int .i64 0)] 29, snapCh w0 F]) 7 #[true, true, true, false, false, false, true, true, false, false, false, false]) [(0, (.pointer (some ⟨b1, 0, none⟩))), (1, (.int .i64 n_1)), (4, (.pointer (some ⟨b5, 0, none⟩))), (5, (.pointer (some ⟨b18, 0, none⟩))), (33, (.pointer (some ⟨b18, 1, none⟩))), (32, (.int .i64 t33)), (38, (.int .i64 e16))] [cellCh b1 [v2, (.int .i64 r28)] 111, ownCh elInt 3 v25 ([1, 64]), cellCh b18 [(.int .i64 t33), (.int .i64 e16)] 29, ownCh elInt 3 v12 ([16, t9, r10]), cellCh b5 [(.int .i64 0), (.int .i64 0)] 29, snapCh w0 F] (shrW t33 (w64 (16 - e16)) (fun t38 => shlW t38 (w64 (16 - e16)) (fun t39 => k35 t39))) := by
      intro _
      refine o_subw (dt 8 (fun w m => m.pick [0, 1, 3, 4, 5] rfl)) rfl rfl rfl ?_
      refine d_one (i := 3) rfl (by kernel_rfl) (o_ldc m_op (v := (.int .i64 e16)) 2 rfl rfl rfl ty3 rfl ?_)
      refine d_and (fun w m => m.pick [0, 1, 3, 4, 5] rfl) ?_
      refine pk [0, 1, 2, 3, 4, 5] rfl ?_
      refine re (E' := [(0, (.pointer (some ⟨b1, 0, none⟩))), (1, (.int .i64 n_1)), (4, (.pointer (some ⟨b5, 0, none⟩))), (5, (.pointer (some ⟨b18, 0, none⟩))), (32, (.int .i64 t33)), (39, (.int .i64 (w64 (16 - e16)))), (34, (.int .i64 e16))]) ⟨rfl, rfl, rfl, rfl, rfl, rfl, rfl, trivial⟩ ?_
      exact H56 ()
    have H58 : ∀ (_ : Unit), Nx 70 (gB F [cellCh b1 [v2, (.int .i64 r_0_p)] 111] w0) (feet [cellCh b1 [v2, (.int .i64 r_0_p)] 111]) w0 (wpAnyH Tryd.prog .any (opsAt Tryd.f59 [1, 1, 1, 0]) Qd (Mem (gB F [cellCh b1 [v2, (.int .i64 r_0_p)] 111] w0) (feet [cellCh b1 [v2, (.int .i64 r_0_p)] 111]) w0 [cellCh b1 [v2, (.int .i64 r28)] 111, ownCh elInt 3 v25 ([1, 64]), ownCh elInt 3 v12 ([16, t9, r10]), cellCh b5 [(.int .i64 0), (.int .i64 0)] 29, snapCh w0 F]) 8 #[true, true, true, false, false, false, true, false, false, false, false, false]) [(0, (.pointer (some ⟨b1, 0, none⟩))), (1, (.int .i64 n_1)), (4, (.pointer (some ⟨b5, 0, none⟩))), (5, (.pointer (some ⟨b18, 0, none⟩))), (33, (.pointer (some ⟨b18, 1, none⟩))), (37, (.pointer (some ⟨b18, 1, none⟩))), (32, (.int .i64 t33))] [cellCh b1 [v2, (.int .i64 r28)] 111, ownCh elInt 3 v25 ([1, 64]), cellCh b18 [(.int .i64 t33), (.int .i64 e16)] 29, ownCh elInt 3 v12 ([16, t9, r10]), cellCh b5 [(.int .i64 0), (.int .i64 0)] 29, snapCh w0 F] (shrW t33 (w64 (16 - e16)) (fun t36 => shlW t36 (w64 (16 - e16)) (fun t37 => k35 t37))) := by
      intro _
      refine d_two (i := 3) (j := 7) rfl rfl (by kernel_rfl) ?_ ?_
      · intro o ho; cases ho
        refine o_ldc m_op (v := (.int .i64 e16)) 2 rfl rfl rfl ty3 rfl ?_
        refine d_and (fun w m => m.pick [0, 1, 3, 4, 5] rfl) ?_
        refine pk [0, 1, 2, 3, 4, 5] rfl ?_
        refine re (E' := [(0, (.pointer (some ⟨b1, 0, none⟩))), (1, (.int .i64 n_1)), (4, (.pointer (some ⟨b5, 0, none⟩))), (5, (.pointer (some ⟨b18, 0, none⟩))), (37, (.pointer (some ⟨b18, 1, none⟩))), (32, (.int .i64 t33)), (34, (.int .i64 e16))]) ⟨rfl, rfl, rfl, rfl, rfl, rfl, rfl, trivial⟩ ?_
        exact H55 ()
      · intro o ho; cases ho
        refine o_ldc m_op (v := (.int .i64 e16)) 2 rfl rfl rfl ty3 rfl ?_
        refine d_and (fun w m => m.pick [0, 1, 3, 4, 5] rfl) ?_
        refine pk [0, 1, 2, 3, 4, 5] rfl ?_
        refine re (E' := [(0, (.pointer (some ⟨b1, 0, none⟩))), (1, (.int .i64 n_1)), (4, (.pointer (some ⟨b5, 0, none⟩))), (5, (.pointer (some ⟨b18, 0, none⟩))), (33, (.pointer (some ⟨b18, 1, none⟩))), (32, (.int .i64 t33)), (38, (.int .i64 e16))]) ⟨rfl, rfl, rfl, rfl, rfl, rfl, rfl, trivial⟩ ?_
        exact H57 ()
    have H59 : ∀ (_ : Unit), Nx 70 (gB F [cellCh b1 [v2, (.int .i64 r_0_p)] 111] w0) (feet [cellCh b1 [v2, (.int .i64 r_0_p)] 111]) w0 (wpAnyH Tryd.prog .any (opsAt Tryd.f59 [1, 1, 1, 0]) Qd (Mem (gB F [cellCh b1 [v2, (.int .i64 r_0_p)] 111] w0) (feet [cellCh b1 [v2, (.int .i64 r_0_p)] 111]) w0 [cellCh b1 [v2, (.int .i64 r28)] 111, ownCh elInt 3 v25 ([1, 64]), ownCh elInt 3 v12 ([16, t9, r10]), cellCh b5 [(.int .i64 0), (.int .i64 0)] 29, snapCh w0 F]) 6 #[true, true, true, true, true, false, true, false, false, false, false, false]) [(0, (.pointer (some ⟨b1, 0, none⟩))), (1, (.int .i64 n_1)), (4, (.pointer (some ⟨b5, 0, none⟩))), (5, (.pointer (some ⟨b18, 0, none⟩))), (37, (.pointer (some ⟨b18, 1, none⟩))), (35, (.int .i64 (w64 (16 - e16)))), (32, (.int .i64 t33))] [cellCh b1 [v2, (.int .i64 r28)] 111, ownCh elInt 3 v25 ([1, 64]), cellCh b18 [(.int .i64 t33), (.int .i64 e16)] 29, ownCh elInt 3 v12 ([16, t9, r10]), cellCh b5 [(.int .i64 0), (.int .i64 0)] 29, snapCh w0 F] (shrW t33 (w64 (16 - e16)) (fun t40 => shlW t40 (w64 (16 - e16)) (fun t37 => k35 t37))) := by
      intro _
      refine o_shr (dt 5 (fun w m => m.pick [0, 1, 3, 4, 5] rfl)) rfl rfl rfl ?_; intro t40
      refine d_one (i := 7) rfl (by kernel_rfl) (o_ldc m_op (v := (.int .i64 e16)) 2 rfl rfl rfl ty3 rfl ?_)
      refine d_and (fun w m => m.pick [0, 1, 3, 4, 5] rfl) ?_
      refine pk [0, 1, 2, 3, 4, 5] rfl ?_
      refine re (E' := [(0, (.pointer (some ⟨b1, 0, none⟩))), (1, (.int .i64 n_1)), (4, (.pointer (some ⟨b5, 0, none⟩))), (5, (.pointer (some ⟨b18, 0, none⟩))), (36, (.int .i64 t40)), (38, (.int .i64 e16))]) ⟨rfl, rfl, rfl, rfl, rfl, rfl, trivial⟩ ?_
      exact H54 t40
    have H60 : ∀ (_ : Unit), Nx 70 (gB F [cellCh b1 [v2, (.int .i64 r_0_p)] 111] w0) (feet [cellCh b1 [v2, (.int .i64 r_0_p)] 111]) w0 (wpAnyH Tryd.prog .any (opsAt Tryd.f59 [1, 1, 1, 0]) Qd (Mem (gB F [cellCh b1 [v2, (.int .i64 r_0_p)] 111] w0) (feet [cellCh b1 [v2, (.int .i64 r_0_p)] 111]) w0 [cellCh b1 [v2, (.int .i64 r28)] 111, ownCh elInt 3 v25 ([1, 64]), ownCh elInt 3 v12 ([16, t9, r10]), cellCh b5 [(.int .i64 0), (.int .i64 0)] 29, snapCh w0 F]) 4 #[true, true, true, true, true, false, true, true, true, false, false, false]) [(0, (.pointer (some ⟨b1, 0, none⟩))), (1, (.int .i64 n_1)), (4, (.pointer (some ⟨b5, 0, none⟩))), (5, (.pointer (some ⟨b18, 0, none⟩))), (35, (.int .i64 (w64 (16 - e16)))), (39, (.int .i64 (w64 (16 - e16)))), (32, (.int .i64 t33))] [cellCh b1 [v2, (.int .i64 r28)] 111, ownCh elInt 3 v25 ([1, 64]), cellCh b18 [(.int .i64 t33), (.int .i64 e16)] 29, ownCh elInt 3 v12 ([16, t9, r10]), cellCh b5 [(.int .i64 0), (.int .i64 0)] 29, snapCh w0 F] (shrW t33 (w64 (16 - e16)) (fun t41 => shlW t41 (w64 (16 - e16)) (fun t42 => k35 t42))) := by
      intro _
      refine o_shr (dt 5 (fun w m => m.pick [0, 1, 3, 4, 5] rfl)) rfl rfl rfl ?_; intro t41
      refine o_shl (dt 9 (fun w m => m.pick [0, 1, 3, 4, 5] rfl)) rfl rfl rfl ?_; intro t42
      refine o_fad (dt 10 (fun w m => m.pick [0, 1, 3, 4, 5] rfl)) rfl rfl fld29_0 rfl ?_
      refine d_one (i := 11) rfl (by kernel_rfl) (o_stc (cs' := [(.int .i64 t42), (.int .i64 e16)]) 2 rfl rfl rfl ty3 rfl rfl rfl rfl ?_)
      refine d_and (fun w m => m.pick [0, 1, 3, 4, 5] rfl) ?_
      refine pk [0, 1, 2, 3, 4, 5] rfl ?_
      refine re (E' := [(0, (.pointer (some ⟨b1, 0, none⟩))), (1, (.int .i64 n_1)), (4, (.pointer (some ⟨b5, 0, none⟩))), (5, (.pointer (some ⟨b18, 0, none⟩)))]) ⟨rfl, rfl, rfl, rfl, trivial⟩ ?_
      exact H53 t41 t42
    have H61 : ∀ (_ : Unit), Nx 70 (gB F [cellCh b1 [v2, (.int .i64 r_0_p)] 111] w0) (feet [cellCh b1 [v2, (.int .i64 r_0_p)] 111]) w0 (wpAnyH Tryd.prog .any (opsAt Tryd.f59 [1, 1, 1, 0]) Qd (Mem (gB F [cellCh b1 [v2, (.int .i64 r_0_p)] 111] w0) (feet [cellCh b1 [v2, (.int .i64 r_0_p)] 111]) w0 [cellCh b1 [v2, (.int .i64 r28)] 111, ownCh elInt 3 v25 ([1, 64]), ownCh elInt 3 v12 ([16, t9, r10]), cellCh b5 [(.int .i64 0), (.int .i64 0)] 29, snapCh w0 F]) 6 #[true, false, true, true, true, false, true, true, false, false, false, false]) [(0, (.pointer (some ⟨b1, 0, none⟩))), (1, (.int .i64 n_1)), (4, (.pointer (some ⟨b5, 0, none⟩))), (5, (.pointer (some ⟨b18, 0, none⟩))), (31, (.pointer (some ⟨b18, 0, none⟩))), (35, (.int .i64 (w64 (16 - e16)))), (38, (.int .i64 e16))] [cellCh b1 [v2, (.int .i64 r28)] 111, ownCh elInt 3 v25 ([1, 64]), cellCh b18 [(.int .i64 t33), (.int .i64 e16)] 29, ownCh elInt 3 v12 ([16, t9, r10]), cellCh b5 [(.int .i64 0), (.int .i64 0)] 29, snapCh w0 F] (shrW t33 (w64 (16 - e16)) (fun t41 => shlW t41 (w64 (16 - e16)) (fun t42 => k35 t42))) := by
      intro _
      refine o_subw (dt 8 (fun w m => m.pick [0, 1, 3, 4, 5] rfl)) rfl rfl rfl ?_
      refine d_one (i := 1) rfl (by kernel_rfl) (o_ldc m_op (v := (.int .i64 t33)) 2 rfl rfl rfl ty3 rfl ?_)
      refine d_and (fun w m => m.pick [0, 1, 3, 4, 5] rfl) ?_
      refine pk [0, 1, 2, 3, 4, 5] rfl ?_
      refine re (E' := [(0, (.pointer (some ⟨b1, 0, none⟩))), (1, (.int .i64 n_1)), (4, (.pointer (some ⟨b5, 0, none⟩))), (5, (.pointer (some ⟨b18, 0, none⟩))), (35, (.int .i64 (w64 (16 - e16)))), (39, (.int .i64 (w64 (16 - e16)))), (32, (.int .i64 t33))]) ⟨rfl, rfl, rfl, rfl, rfl, rfl, rfl, trivial⟩ ?_
      exact H60 ()
    have H62 : ∀ (_ : Unit), Nx 70 (gB F [cellCh b1 [v2, (.int .i64 r_0_p)] 111] w0) (feet [cellCh b1 [v2, (.int .i64 r_0_p)] 111]) w0 (wpAnyH Tryd.prog .any (opsAt Tryd.f59 [1, 1, 1, 0]) Qd (Mem (gB F [cellCh b1 [v2, (.int .i64 r_0_p)] 111] w0) (feet [cellCh b1 [v2, (.int .i64 r_0_p)] 111]) w0 [cellCh b1 [v2, (.int .i64 r28)] 111, ownCh elInt 3 v25 ([1, 64]), ownCh elInt 3 v12 ([16, t9, r10]), cellCh b5 [(.int .i64 0), (.int .i64 0)] 29, snapCh w0 F]) 8 #[true, false, true, true, false, false, true, false, false, false, false, false]) [(0, (.pointer (some ⟨b1, 0, none⟩))), (1, (.int .i64 n_1)), (4, (.pointer (some ⟨b5, 0, none⟩))), (5, (.pointer (some ⟨b18, 0, none⟩))), (31, (.pointer (some ⟨b18, 0, none⟩))), (37, (.pointer (some ⟨b18, 1, none⟩))), (34, (.int .i64 e16))] [cellCh b1 [v2, (.int .i64 r28)] 111, ownCh elInt 3 v25 ([1, 64]), cellCh b18 [(.int .i64 t33), (.int .i64 e16)] 29, ownCh elInt 3 v12 ([16, t9, r10]), cellCh b5 [(.int .i64 0), (.int .i64 0)] 29, snapCh w0 F] (shrW t33 (w64 (16 - e16)) (fun t40 => shlW t40 (w64 (16 - e16)) (fun t37 => k35 t37))) := by
      intro _
      refine o_subw (dt 4 (fun w m => m.pick [0, 1, 3, 4, 5] rfl)) rfl rfl rfl ?_
      refine d_two (i := 1) (j := 7) rfl rfl (by kernel_rfl) ?_ ?_
      · intro o ho; cases ho
        refine o_ldc m_op (v := (.int .i64 t33)) 2 rfl rfl rfl ty3 rfl ?_
        refine d_and (fun w m => m.pick [0, 1, 3, 4, 5] rfl) ?_
        refine pk [0, 1, 2, 3, 4, 5] rfl ?_
        refine re (E' := [(0, (.pointer (some ⟨b1, 0, none⟩))), (1, (.int .i64 n_1)), (4, (.pointer (some ⟨b5, 0, none⟩))), (5, (.pointer (some ⟨b18, 0, none⟩))), (37, (.pointer (some ⟨b18, 1, none⟩))), (35, (.int .i64 (w64 (16 - e16)))), (32, (.int .i64 t33))]) ⟨rfl, rfl, rfl, rfl, rfl, rfl, rfl, trivial⟩ ?_
        exact H59 ()
      · intro o ho; cases ho
        refine o_ldc m_op (v := (.int .i64 e16)) 2 rfl rfl rfl ty3 rfl ?_
        refine d_and (fun w m => m.pick [0, 1, 3, 4, 5] rfl) ?_
        refine pk [0, 1, 2, 3, 4, 5] rfl ?_
        refine re (E' := [(0, (.pointer (some ⟨b1, 0, none⟩))), (1, (.int .i64 n_1)), (4, (.pointer (some ⟨b5, 0, none⟩))), (5, (.pointer (some ⟨b18, 0, none⟩))), (31, (.pointer (some ⟨b18, 0, none⟩))), (35, (.int .i64 (w64 (16 - e16)))), (38, (.int .i64 e16))]) ⟨rfl, rfl, rfl, rfl, rfl, rfl, rfl, trivial⟩ ?_
        exact H61 ()
    have H63 : ∀ (_ : Unit), Nx 70 (gB F [cellCh b1 [v2, (.int .i64 r_0_p)] 111] w0) (feet [cellCh b1 [v2, (.int .i64 r_0_p)] 111]) w0 (wpAnyH Tryd.prog .any (opsAt Tryd.f59 [1, 1, 1, 0]) Qd (Mem (gB F [cellCh b1 [v2, (.int .i64 r_0_p)] 111] w0) (feet [cellCh b1 [v2, (.int .i64 r_0_p)] 111]) w0 [cellCh b1 [v2, (.int .i64 r28)] 111, ownCh elInt 3 v25 ([1, 64]), ownCh elInt 3 v12 ([16, t9, r10]), cellCh b5 [(.int .i64 0), (.int .i64 0)] 29, snapCh w0 F]) 6 #[true, true, true, false, false, false, true, true, true, false, false, false]) [(0, (.pointer (some ⟨b1, 0, none⟩))), (1, (.int .i64 n_1)), (4, (.pointer (some ⟨b5, 0, none⟩))), (5, (.pointer (some ⟨b18, 0, none⟩))), (33, (.pointer (some ⟨b18, 1, none⟩))), (39, (.int .i64 (w64 (16 - e16)))), (32, (.int .i64 t33))] [cellCh b1 [v2, (.int .i64 r28)] 111, ownCh elInt 3 v25 ([1, 64]), cellCh b18 [(.int .i64 t33), (.int .i64 e16)] 29, ownCh elInt 3 v12 ([16, t9, r10]), cellCh b5 [(.int .i64 0), (.int .i64 0)] 29, snapCh w0 F] (shrW t33 (w64 (16 - e16)) (fun t38 => shlW t38 (w64 (16 - e16)) (fun t39 => k35 t39))) := by
      intro _
      refine d_one (i := 3) rfl (by kernel_rfl) (o_ldc m_op (v := (.int .i64 e16)) 2 rfl rfl rfl ty3 rfl ?_)
      refine d_and (fun w m => m.pick [0, 1, 3, 4, 5] rfl) ?_
      refine pk [0, 1, 2, 3, 4, 5] rfl ?_
      refine re (E' := [(0, (.pointer (some ⟨b1, 0, none⟩))), (1, (.int .i64 n_1)), (4, (.pointer (some ⟨b5, 0, none⟩))), (5, (.pointer (some ⟨b18, 0, none⟩))), (32, (.int .i64 t33)), (39, (.int .i64 (w64 (16 - e16)))), (34, (.int .i64 e16))]) ⟨rfl, rfl, rfl, rfl, rfl, rfl, rfl, trivial⟩ ?_
      exact H56 ()
    have H64 : ∀ (_ : Unit), Nx 70 (gB F [cellCh b1 [v2, (.int .i64 r_0_p)] 111] w0) (feet [cellCh b1 [v2, (.int .i64 r_0_p)] 111]) w0 (wpAnyH Tryd.prog .any (opsAt Tryd.f59 [1, 1, 1, 0]) Qd (Mem (gB F [cellCh b1 [v2, (.int .i64 r_0_p)] 111] w0) (feet [cellCh b1 [v2, (.int .i64 r_0_p)] 111]) w0 [cellCh b1 [v2, (.int .i64 r28)] 111, ownCh elInt 3 v25 ([1, 64]), ownCh elInt 3 v12 ([16, t9, r10]), cellCh b5 [(.int .i64 0), (.int .i64 0)] 29, snapCh w0 F]) 6 #[true, false, true, true, false, false, true, true, true, false, false, false]) [(0, (.pointer (some ⟨b1, 0, none⟩))), (1, (.int .i64 n_1)), (4, (.pointer (some ⟨b5, 0, none⟩))), (5, (.pointer (some ⟨b18, 0, none⟩))), (31, (.pointer (some ⟨b18, 0, none⟩))), (39, (.int .i64 (w64 (16 - e16)))), (34, (.int .i64 e16))] [cellCh b1 [v2, (.int .i64 r28)] 111, ownCh elInt 3 v25 ([1, 64]), cellCh b18 [(.int .i64 t33), (.int .i64 e16)] 29, ownCh elInt 3 v12 ([16, t9, r10]), cellCh b5 [(.int .i64 0), (.int .i64 0)] 29, snapCh w0 F] (shrW t33 (w64 (16 - e16)) (fun t41 => shlW t41 (w64 (16 - e16)) (fun t42 => k35 t42))) := by
      intro _
      refine o_subw (dt 4 (fun w m => m.pick [0, 1, 3, 4, 5] rfl)) rfl rfl rfl ?_
      refine d_one (i := 1) rfl (by kernel_rfl) (o_ldc m_op (v := (.int .i64 t33)) 2 rfl rfl rfl ty3 rfl ?_)
      refine d_and (fun w m => m.pick [0, 1, 3, 4, 5] rfl) ?_
      refine pk [0, 1, 2, 3, 4, 5] rfl ?_
      refine re (E' := [(0, (.pointer (some ⟨b1, 0, none⟩))), (1, (.int .i64 n_1)), (4, (.pointer (some ⟨b5, 0, none⟩))), (5, (.pointer (some ⟨b18, 0, none⟩))), (35, (.int .i64 (w64 (16 - e16)))), (39, (.int .i64 (w64 (16 - e16)))), (32, (.int .i64 t33))]) ⟨rfl, rfl, rfl, rfl, rfl, rfl, rfl, trivial⟩ ?_
      exact H60 ()
    have H65 : ∀ (_ : Unit), Nx 70 (gB F [cellCh b1 [v2, (.int .i64 r_0_p)] 111] w0) (feet [cellCh b1 [v2, (.int .i64 r_0_p)] 111]) w0 (wpAnyH Tryd.prog .any (opsAt Tryd.f59 [1, 1, 1, 0]) Qd (Mem (gB F [cellCh b1 [v2, (.int .i64 r_0_p)] 111] w0) (feet [cellCh b1 [v2, (.int .i64 r_0_p)] 111]) w0 [cellCh b1 [v2, (.int .i64 r28)] 111, ownCh elInt 3 v25 ([1, 64]), ownCh elInt 3 v12 ([16, t9, r10]), cellCh b5 [(.int .i64 0), (.int .i64 0)] 29, snapCh w0 F]) 8 #[true, false, true, false, false, false, true, true, false, false, false, false]) [(0, (.pointer (some ⟨b1, 0, none⟩))), (1, (.int .i64 n_1)), (4, (.pointer (some ⟨b5, 0, none⟩))), (5, (.pointer (some ⟨b18, 0, none⟩))), (31, (.pointer (some ⟨b18, 0, none⟩))), (33, (.pointer (some ⟨b18, 1, none⟩))), (38, (.int .i64 e16))] [cellCh b1 [v2, (.int .i64 r28)] 111, ownCh elInt 3 v25 ([1, 64]), cellCh b18 [(.int .i64 t33), (.int .i64 e16)] 29, ownCh elInt 3 v12 ([16, t9, r10]), cellCh b5 [(.int .i64 0), (.int .i64 0)] 29, snapCh w0 F] (shrW t33 (w64 (16 - e16)) (fun t38 => shlW t38 (w64 (16 - e16)) (fun t39 => k35 t39))) := by
      intro _
      refine o_subw (dt 8 (fun w m => m.pick [0, 1, 3, 4, 5] rfl)) rfl rfl rfl ?_
      refine d_two (i := 1) (j := 3) rfl rfl (by kernel_rfl) ?_ ?_
      · intro o ho; cases ho
        refine o_ldc m_op (v := (.int .i64 t33)) 2 rfl rfl rfl ty3 rfl ?_
        refine d_and (fun w m => m.pick [0, 1, 3, 4, 5] rfl) ?_
        refine pk [0, 1, 2, 3, 4, 5] rfl ?_
        refine re (E' := [(0, (.pointer (some ⟨b1, 0, none⟩))), (1, (.int .i64 n_1)), (4, (.pointer (some ⟨b5, 0, none⟩))), (5, (.pointer (some ⟨b18, 0, none⟩))), (33, (.pointer (some ⟨b18, 1, none⟩))), (39, (.int .i64 (w64 (16 - e16)))), (32, (.int .i64 t33))]) ⟨rfl, rfl, rfl, rfl, rfl, rfl, rfl, trivial⟩ ?_
        exact H63 ()
      · intro o ho; cases ho
        refine o_ldc m_op (v := (.int .i64 e16)) 2 rfl rfl rfl ty3 rfl ?_
        refine d_and (fun w m => m.pick [0, 1, 3, 4, 5] rfl) ?_
        refine pk [0, 1, 2, 3, 4, 5] rfl ?_
        refine re (E' := [(0, (.pointer (some ⟨b1, 0, none⟩))), (1, (.int .i64 n_1)), (4, (.pointer (some ⟨b5, 0, none⟩))), (5, (.pointer (some ⟨b18, 0, none⟩))), (31, (.pointer (some ⟨b18, 0, none⟩))), (39, (.int .i64 (w64 (16 - e16)))), (34, (.int .i64 e16))]) ⟨rfl, rfl, rfl, rfl, rfl, rfl, rfl, trivial⟩ ?_
        exact H64 ()
    refine o_fad (dt 0 (fun w m => m.pick [0, 1, 3, 4, 5] rfl)) rfl rfl fld29_0 rfl ?_
    refine o_fad (dt 2 (fun w m => m.pick [0, 1, 3, 4, 5] rfl)) rfl rfl fld29_1 rfl ?_
    refine o_fad (dt 6 (fun w m => m.pick [0, 1, 3, 4, 5] rfl)) rfl rfl fld29_1 rfl ?_
    refine d_three (i := 1) (j := 3) (l := 7) rfl rfl rfl (by kernel_rfl) ?_ ?_ ?_
    · intro o ho; cases ho
      refine o_ldc m_op (v := (.int .i64 t33)) 2 rfl rfl rfl ty3 rfl ?_
      refine d_and (fun w m => m.pick [0, 1, 3, 4, 5] rfl) ?_
      refine pk [0, 1, 2, 3, 4, 5] rfl ?_
      refine re (E' := [(0, (.pointer (some ⟨b1, 0, none⟩))), (1, (.int .i64 n_1)), (4, (.pointer (some ⟨b5, 0, none⟩))), (5, (.pointer (some ⟨b18, 0, none⟩))), (33, (.pointer (some ⟨b18, 1, none⟩))), (37, (.pointer (some ⟨b18, 1, none⟩))), (32, (.int .i64 t33))]) ⟨rfl, rfl, rfl, rfl, rfl, rfl, rfl, trivial⟩ ?_
      exact H58 ()
    · intro o ho; cases ho
      refine o_ldc m_op (v := (.int .i64 e16)) 2 rfl rfl rfl ty3 rfl ?_
      refine d_and (fun w m => m.pick [0, 1, 3, 4, 5] rfl) ?_
      refine pk [0, 1, 2, 3, 4, 5] rfl ?_
      refine re (E' := [(0, (.pointer (some ⟨b1, 0, none⟩))), (1, (.int .i64 n_1)), (4, (.pointer (some ⟨b5, 0, none⟩))), (5, (.pointer (some ⟨b18, 0, none⟩))), (31, (.pointer (some ⟨b18, 0, none⟩))), (37, (.pointer (some ⟨b18, 1, none⟩))), (34, (.int .i64 e16))]) ⟨rfl, rfl, rfl, rfl, rfl, rfl, rfl, trivial⟩ ?_
      exact H62 ()
    · intro o ho; cases ho
      refine o_ldc m_op (v := (.int .i64 e16)) 2 rfl rfl rfl ty3 rfl ?_
      refine d_and (fun w m => m.pick [0, 1, 3, 4, 5] rfl) ?_
      refine pk [0, 1, 2, 3, 4, 5] rfl ?_
      refine re (E' := [(0, (.pointer (some ⟨b1, 0, none⟩))), (1, (.int .i64 n_1)), (4, (.pointer (some ⟨b5, 0, none⟩))), (5, (.pointer (some ⟨b18, 0, none⟩))), (31, (.pointer (some ⟨b18, 0, none⟩))), (33, (.pointer (some ⟨b18, 1, none⟩))), (38, (.int .i64 e16))]) ⟨rfl, rfl, rfl, rfl, rfl, rfl, rfl, trivial⟩ ?_
      exact H65 ()
  · rintro t34 a w ⟨hE, hm⟩ h
    refine nx_of hE hm h ?_
    clear hE hm h
    refine c_join (σ := (Int × Int × Int)) (fun ((t126, t127, t128) : (Int × Int × Int)) (a : Act) (w : World) => Has 70 [(4, (.pointer (some ⟨b5, 0, none⟩))), (5, (.pointer (some ⟨b18, 0, none⟩)))] a ∧ Mem (gB F [cellCh b1 [v2, (.int .i64 r_0_p)] 111] w0) (feet [cellCh b1 [v2, (.int .i64 r_0_p)] 111]) w0 [cellCh b1 [v2, (.int .i64 t126)] 111, cellCh b18 [(.int .i64 t127), (.int .i64 t128)] 29, cellCh b5 [(.int .i64 0), (.int .i64 0)] 29, snapCh w0 F] w) ?_ ?_
    · intro k129
      refine c_seq ?_
      refine c_region ?_
      refine o_mv st rfl rfl ?_
      refine o_mv st rfl rfl ?_
      refine stw (o_call (vs := [(.pointer (some ⟨b1, 0, none⟩)), (.int .i64 n_1)]) (M0 := [cellCh b1 [v2, (.int .i64 r28)] 111]) Tryd.call64 rfl rfl (by intro w m h; exact (w_spec_l20Rd_odd (F := allB [cellCh b1 [v2, (.int .i64 r28)] 111] w) (r_0_b := r_0_b) (r_0_p := r28) (n_1 := n_1) allB_ok m.given (m.rdM 2 rfl (reads_snap hv2)) h).mono (fun _ _ k => ret_free (fun r u => (fr_cons free_cell fr_nil)) k)) ?_); rintro ⟨r43, r44⟩ _
      refine c_nil ?_
      refine l_then ?_
      refine c_cond rfl ?_ ?_
      · refine c_seq ?_
        refine c_region ?_
        refine o_mv st rfl rfl ?_
        refine stw (o_call (vs := [(.pointer (some ⟨b1, 0, none⟩)), (.int .i64 3)]) (M0 := [cellCh b1 [v2, (.int .i64 r44)] 111]) Tryd.call65 rfl rfl (by intro w m h; exact (w_spec_l20Rd_pick (F := allB [cellCh b1 [v2, (.int .i64 r44)] 111] w) (r_0_b := r_0_b) (r_0_p := r44) (n_1 := 3) allB_ok m.given (m.rdM 2 rfl (reads_snap hv2)) h).mono (fun _ _ k => ret_free (fun r u => (fr_cons free_cell fr_nil)) k)) ?_); rintro ⟨r45, r46⟩ _
        refine c_nil ?_
        refine l_then ?_
        refine c_block ?_
        refine c_seq ?_
        refine c_region ?_
        refine o_eql st und3 rfl rfl rfl ?_
        refine o_as st rfl rfl ?_
        refine c_nil ?_
        refine l_then ?_
        refine c_cond rfl ?_ ?_
        · refine c_region ?_
          refine stw (o_bsl (enc := encInt) (qs := [(0, (.int .i64 (-1))), (1, (.int .i64 17))]) (cells := [(.int .i64 (-1)), (.int .i64 17)]) ([(-1), 17]) flelInt (by intro ρ h; simp only [List.map_toArray, List.map_cons, List.map_nil, h (.const (.int .i64 (-1))) _ rfl, h (.const (.int .i64 17)) _ rfl]) rfl el103 zero3 rfl rfl rfl rfl rfl rfl ?_); intro v47
          refine o_mv st rfl rfl ?_
          refine pk [1, 0, 2, 3, 4] rfl ?_
          refine stw (o_call (vs := [(.pointer (some ⟨b1, 0, none⟩)), (.int .i64 2)]) (M0 := [cellCh b1 [v2, (.int .i64 r46)] 111]) Tryd.call65 rfl rfl (by intro w m h; exact (w_spec_l20Rd_pick (F := allB [cellCh b1 [v2, (.int .i64 r46)] 111] w) (r_0_b := r_0_b) (r_0_p := r46) (n_1 := 2) allB_ok m.given (m.rdM 3 rfl (reads_snap hv2)) h).mono (fun _ _ k => ret_free (fun r u => (fr_cons free_cell fr_nil)) k)) ?_); rintro ⟨r49, r50⟩ _
          refine o_idx st 1 rfl reads_own rfl rfl rfl el103 ?_; intro e51 h52
          refine o_lds st (enc := encInt) (u := (.int .i64 e51)) 1 rfl reads_own flelInt rfl h52 rfl rfl ty3 rfl ?_
          refine o_fad st rfl rfl fld29_1 rfl ?_
          refine stw (o_stc (cs' := [(.int .i64 t34), (.int .i64 e51)]) 2 rfl rfl rfl ty3 rfl rfl rfl rfl ?_)
          refine c_nil ?_
          refine b_norm ?_
          exact l_join (r50, t34, e51) (fun a w hE hm => ⟨hE.sub ⟨rfl, rfl, trivial⟩, (hm.pick [0, 2, 3, 4] rfl)⟩)
        · refine c_seq ?_
          refine c_region ?_
          refine o_eql st und3 rfl rfl rfl ?_
          refine o_as st rfl rfl ?_
          refine c_nil ?_
          refine l_then ?_
          refine c_cond rfl ?_ ?_
          · refine c_join1 (σ := (Int × Int)) (fun ((t53, t54) : (Int × Int)) (a : Act) (w : World) => Has 70 [(4, (.pointer (some ⟨b5, 0, none⟩))), (5, (.pointer (some ⟨b18, 0, none⟩)))] a ∧ Mem (gB F [cellCh b1 [v2, (.int .i64 r_0_p)] 111] w0) (feet [cellCh b1 [v2, (.int .i64 r_0_p)] 111]) w0 [cellCh b1 [v2, (.int .i64 t53)] 111, cellCh b18 [(.int .i64 (bits .or .i64 t34 1)), (.int .i64 t54)] 29, cellCh b5 [(.int .i64 0), (.int .i64 0)] 29, snapCh w0 F] w) ?_ ?_
            · intro k55
              refine c_drawQ mixed 7 rfl [cellCh b5 [(.int .i64 0), (.int .i64 0)] 29, snapCh w0 F] ?_
              intro Qd hP hQ
              have H73 : ∀ (r56 : Int) (r57 : Int), Nx 70 (gB F [cellCh b1 [v2, (.int .i64 r_0_p)] 111] w0) (feet [cellCh b1 [v2, (.int .i64 r_0_p)] 111]) w0 (wpAnyH Tryd.prog .any (opsAt Tryd.f59 [1, 1, 1, 1, 0, 1, 0, 1, 0, 1, 1, 1, 0]) Qd (Mem (gB F [cellCh b1 [v2, (.int .i64 r_0_p)] 111] w0) (feet [cellCh b1 [v2, (.int .i64 r_0_p)] 111]) w0 [cellCh b5 [(.int .i64 0), (.int .i64 0)] 29, snapCh w0 F]) 0 #[true, true, true, true, true, true, true]) [(4, (.pointer (some ⟨b5, 0, none⟩))), (5, (.pointer (some ⟨b18, 0, none⟩)))] [cellCh b1 [v2, (.int .i64 r57)] 111, cellCh b18 [(.int .i64 (bits .or .i64 t34 1)), (.int .i64 r56)] 29, cellCh b5 [(.int .i64 0), (.int .i64 0)] 29, snapCh w0 F] (k55 (r57, r56)) := by
                intro r56 r57
                refine d_done (by kernel_rfl) ?_
                exact fun a w hE hm hφ => hQ (r57, r56) a w hφ ((fun a w hE hm => ⟨hE.sub ⟨rfl, rfl, trivial⟩, (hm.pick [0, 1, 2, 3] rfl)⟩) a w hE hm)
              have H74 : ∀ (r56 : Int) (r57 : Int), Nx 70 (gB F [cellCh b1 [v2, (.int .i64 r_0_p)] 111] w0) (feet [cellCh b1 [v2, (.int .i64 r_0_p)] 111]) w0 (wpAnyH Tryd.prog .any (opsAt Tryd.f59 [1, 1, 1, 1, 0, 1, 0, 1, 0, 1, 1, 1, 0]) Qd (Mem (gB F [cellCh b1 [v2, (.int .i64 r_0_p)] 111] w0) (feet [cellCh b1 [v2, (.int .i64 r_0_p)] 111]) w0 [cellCh b5 [(.int .i64 0), (.int .i64 0)] 29, snapCh w0 F]) 2 #[true, true, true, true, true, false, false]) [(4, (.pointer (some ⟨b5, 0, none⟩))), (5, (.pointer (some ⟨b18, 0, none⟩))), (65, (.int .i64 (bits .or .i64 t34 1))), (67, (.int .i64 r56))] [cellCh b1 [v2, (.int .i64 r57)] 111, cellCh b18 [(.int .i64 t34), (.int .i64 e16)] 29, cellCh b5 [(.int .i64 0), (.int .i64 0)] 29, snapCh w0 F] (k55 (r57, r56)) := by
                intro r56 r57
                refine o_bld (dt 5 (fun w m => m.pick [2, 3] rfl)) (qs := [(0, (.int .i64 (bits .or .i64 t34 1))), (1, (.int .i64 r56))]) (cells := [(.int .i64 (bits .or .i64 t34 1)), (.int .i64 r56)]) (by intro ρ h; simp only [List.map_toArray, List.map_cons, List.map_nil, h (.tmp 65) _ rfl, h (.tmp 67) _ rfl]) rfl bld29 rfl ?_
                refine d_one (i := 6) rfl (by kernel_rfl) (o_stc (cs' := [(.int .i64 (bits .or .i64 t34 1)), (.int .i64 r56)]) 1 rfl rfl rfl ty29 rfl rfl rfl rfl ?_)
                refine d_and (fun w m => m.pick [2, 3] rfl) ?_
                refine pk [0, 1, 2, 3] rfl ?_
                refine re (E' := [(4, (.pointer (some ⟨b5, 0, none⟩))), (5, (.pointer (some ⟨b18, 0, none⟩)))]) ⟨rfl, rfl, trivial⟩ ?_
                exact H73 r56 r57
              have H75 : ∀ (_ : Unit), Nx 70 (gB F [cellCh b1 [v2, (.int .i64 r_0_p)] 111] w0) (feet [cellCh b1 [v2, (.int .i64 r_0_p)] 111]) w0 (wpAnyH Tryd.prog .any (opsAt Tryd.f59 [1, 1, 1, 1, 0, 1, 0, 1, 0, 1, 1, 1, 0]) Qd (Mem (gB F [cellCh b1 [v2, (.int .i64 r_0_p)] 111] w0) (feet [cellCh b1 [v2, (.int .i64 r_0_p)] 111]) w0 [cellCh b5 [(.int .i64 0), (.int .i64 0)] 29, snapCh w0 F]) 4 #[true, true, false, true, false, false, false]) [(4, (.pointer (some ⟨b5, 0, none⟩))), (5, (.pointer (some ⟨b18, 0, none⟩))), (66, (.pointer (some ⟨b1, 0, none⟩))), (64, (.int .i64 t34))] [cellCh b1 [v2, (.int .i64 r46)] 111, cellCh b18 [(.int .i64 t34), (.int .i64 e16)] 29, cellCh b5 [(.int .i64 0), (.int .i64 0)] 29, snapCh w0 F] (L_spec_l20Rd_pick r_0_b r46 16 (fun (r56, r57) => k55 (r57, r56))) := by
                intro _
                refine o_or (dt 2 (fun w m => m.pick [2, 3] rfl)) rfl rfl rfl ?_
                refine d_one (i := 4) rfl (by kernel_rfl) (o_call (vs := [(.pointer (some ⟨b1, 0, none⟩)), (.int .i64 16)]) (M0 := [cellCh b1 [v2, (.int .i64 r46)] 111]) Tryd.call65 rfl rfl (by intro w m h; exact (w_spec_l20Rd_pick (F := allB [cellCh b1 [v2, (.int .i64 r46)] 111] w) (r_0_b := r_0_b) (r_0_p := r46) (n_1 := 16) allB_ok m.given (m.rdM 2 rfl (reads_snap hv2)) h).mono (fun _ _ k => ret_free (fun r u => (fr_cons free_cell fr_nil)) k)) ?_); rintro ⟨r56, r57⟩ _
                refine d_and (fun w m => m.pick [2, 3] rfl) ?_
                refine pk [0, 1, 2, 3] rfl ?_
                refine re (E' := [(4, (.pointer (some ⟨b5, 0, none⟩))), (5, (.pointer (some ⟨b18, 0, none⟩))), (65, (.int .i64 (bits .or .i64 t34 1))), (67, (.int .i64 r56))]) ⟨rfl, rfl, rfl, rfl, trivial⟩ ?_
                exact H74 r56 r57
              have H76 : ∀ (r58 : Int) (r59 : Int), Nx 70 (gB F [cellCh b1 [v2, (.int .i64 r_0_p)] 111] w0) (feet [cellCh b1 [v2, (.int .i64 r_0_p)] 111]) w0 (wpAnyH Tryd.prog .any (opsAt Tryd.f59 [1, 1, 1, 1, 0, 1, 0, 1, 0, 1, 1, 1, 0]) Qd (Mem (gB F [cellCh b1 [v2, (.int .i64 r_0_p)] 111] w0) (feet [cellCh b1 [v2, (.int .i64 r_0_p)] 111]) w0 [cellCh b5 [(.int .i64 0), (.int .i64 0)] 29, snapCh w0 F]) 3 #[true, true, false, true, true, false, false]) [(4, (.pointer (some ⟨b5, 0, none⟩))), (5, (.pointer (some ⟨b18, 0, none⟩))), (67, (.int .i64 r58)), (64, (.int .i64 t34))] [cellCh b1 [v2, (.int .i64 r59)] 111, cellCh b18 [(.int .i64 t34), (.int .i64 e16)] 29, cellCh b5 [(.int .i64 0), (.int .i64 0)] 29, snapCh w0 F] (k55 (r59, r58)) := by
                intro r58 r59
                refine o_or (dt 2 (fun w m => m.pick [2, 3] rfl)) rfl rfl rfl ?_
                refine o_bld (dt 5 (fun w m => m.pick [2, 3] rfl)) (qs := [(0, (.int .i64 (bits .or .i64 t34 1))), (1, (.int .i64 r58))]) (cells := [(.int .i64 (bits .or .i64 t34 1)), (.int .i64 r58)]) (by intro ρ h; simp only [List.map_toArray, List.map_cons, List.map_nil, h (.tmp 65) _ rfl, h (.tmp 67) _ rfl]) rfl bld29 rfl ?_
                refine d_one (i := 6) rfl (by kernel_rfl) (o_stc (cs' := [(.int .i64 (bits .or .i64 t34 1)), (.int .i64 r58)]) 1 rfl rfl rfl ty29 rfl rfl rfl rfl ?_)
                refine d_and (fun w m => m.pick [2, 3] rfl) ?_
                refine pk [0, 1, 2, 3] rfl ?_
                refine re (E' := [(4, (.pointer (some ⟨b5, 0, none⟩))), (5, (.pointer (some ⟨b18, 0, none⟩)))]) ⟨rfl, rfl, trivial⟩ ?_
                exact H73 r58 r59
              have H77 : ∀ (r58 : Int) (r59 : Int), Nx 70 (gB F [cellCh b1 [v2, (.int .i64 r_0_p)] 111] w0) (feet [cellCh b1 [v2, (.int .i64 r_0_p)] 111]) w0 (wpAnyH Tryd.prog .any (opsAt Tryd.f59 [1, 1, 1, 1, 0, 1, 0, 1, 0, 1, 1, 1, 0]) Qd (Mem (gB F [cellCh b1 [v2, (.int .i64 r_0_p)] 111] w0) (feet [cellCh b1 [v2, (.int .i64 r_0_p)] 111]) w0 [cellCh b5 [(.int .i64 0), (.int .i64 0)] 29, snapCh w0 F]) 4 #[true, false, false, true, true, false, false]) [(4, (.pointer (some ⟨b5, 0, none⟩))), (5, (.pointer (some ⟨b18, 0, none⟩))), (63, (.pointer (some ⟨b18, 0, none⟩))), (67, (.int .i64 r58))] [cellCh b1 [v2, (.int .i64 r59)] 111, cellCh b18 [(.int .i64 t34), (.int .i64 e16)] 29, cellCh b5 [(.int .i64 0), (.int .i64 0)] 29, snapCh w0 F] (k55 (r59, r58)) := by
                intro r58 r59
                refine d_one (i := 1) rfl (by kernel_rfl) (o_ldc m_op (v := (.int .i64 t34)) 1 rfl rfl rfl ty3 rfl ?_)
                refine d_and (fun w m => m.pick [2, 3] rfl) ?_
                refine pk [0, 1, 2, 3] rfl ?_
                refine re (E' := [(4, (.pointer (some ⟨b5, 0, none⟩))), (5, (.pointer (some ⟨b18, 0, none⟩))), (67, (.int .i64 r58)), (64, (.int .i64 t34))]) ⟨rfl, rfl, rfl, rfl, trivial⟩ ?_
                exact H76 r58 r59
              refine o_fad (dt 0 (fun w m => m.pick [2, 3] rfl)) rfl rfl fld29_0 rfl ?_
              refine o_mv (dt 3 (fun w m => m.pick [2, 3] rfl)) rfl rfl ?_
              refine d_two (i := 1) (j := 4) rfl rfl (by kernel_rfl) ?_ ?_
              · intro o ho; cases ho
                refine o_ldc m_op (v := (.int .i64 t34)) 1 rfl rfl rfl ty3 rfl ?_
                refine d_and (fun w m => m.pick [2, 3] rfl) ?_
                refine pk [0, 1, 2, 3] rfl ?_
                refine re (E' := [(4, (.pointer (some ⟨b5, 0, none⟩))), (5, (.pointer (some ⟨b18, 0, none⟩))), (66, (.pointer (some ⟨b1, 0, none⟩))), (64, (.int .i64 t34))]) ⟨rfl, rfl, rfl, rfl, trivial⟩ ?_
                exact H75 ()
              · intro o ho; cases ho
                refine o_call (vs := [(.pointer (some ⟨b1, 0, none⟩)), (.int .i64 16)]) (M0 := [cellCh b1 [v2, (.int .i64 r46)] 111]) Tryd.call65 rfl rfl (by intro w m h; exact (w_spec_l20Rd_pick (F := allB [cellCh b1 [v2, (.int .i64 r46)] 111] w) (r_0_b := r_0_b) (r_0_p := r46) (n_1 := 16) allB_ok m.given (m.rdM 2 rfl (reads_snap hv2)) h).mono (fun _ _ k => ret_free (fun r u => (fr_cons free_cell fr_nil)) k)) ?_; rintro ⟨r58, r59⟩ _
                refine d_and (fun w m => m.pick [2, 3] rfl) ?_
                refine pk [0, 1, 2, 3] rfl ?_
                refine re (E' := [(4, (.pointer (some ⟨b5, 0, none⟩))), (5, (.pointer (some ⟨b18, 0, none⟩))), (63, (.pointer (some ⟨b18, 0, none⟩))), (67, (.int .i64 r58))]) ⟨rfl, rfl, rfl, rfl, trivial⟩ ?_
                exact H77 r58 r59
            · rintro ⟨t53, t54⟩ a w ⟨hE, hm⟩ h
              refine nx_of hE hm h ?_
              clear hE hm h
              refine b_norm ?_
              exact l_join (t53, (bits .or .i64 t34 1), t54) (fun a w hE hm => ⟨hE.sub ⟨rfl, rfl, trivial⟩, (hm.pick [0, 1, 2, 3] rfl)⟩)
          · refine c_region ?_
            refine stw (o_bsl (enc := encInt) (qs := [(0, (.int .i64 (-1))), (1, (.int .i64 65536))]) (cells := [(.int .i64 (-1)), (.int .i64 65536)]) ([(-1), 65536]) flelInt (by intro ρ h; simp only [List.map_toArray, List.map_cons, List.map_nil, h (.const (.int .i64 (-1))) _ rfl, h (.const (.int .i64 65536)) _ rfl]) rfl el103 zero3 rfl rfl rfl rfl rfl rfl ?_); intro v60
            refine o_mv st rfl rfl ?_
            refine pk [1, 0, 2, 3, 4] rfl ?_
            refine stw (o_call (vs := [(.pointer (some ⟨b1, 0, none⟩)), (.int .i64 2)]) (M0 := [cellCh b1 [v2, (.int .i64 r46)] 111]) Tryd.call65 rfl rfl (by intro w m h; exact (w_spec_l20Rd_pick (F := allB [cellCh b1 [v2, (.int .i64 r46)] 111] w) (r_0_b := r_0_b) (r_0_p := r46) (n_1 := 2) allB_ok m.given (m.rdM 3 rfl (reads_snap hv2)) h).mono (fun _ _ k => ret_free (fun r u => (fr_cons free_cell fr_nil)) k)) ?_); rintro ⟨r62, r63⟩ _
            refine o_idx st 1 rfl reads_own rfl rfl rfl el103 ?_; intro e64 h65
            refine o_lds st (enc := encInt) (u := (.int .i64 e64)) 1 rfl reads_own flelInt rfl h65 rfl rfl ty3 rfl ?_
            refine o_fad st rfl rfl fld29_0 rfl ?_
            refine stw (o_stc (cs' := [(.int .i64 e64), (.int .i64 e16)]) 2 rfl rfl rfl ty3 rfl rfl rfl rfl ?_)
            refine c_nil ?_
            refine b_norm ?_
            exact l_join (r63, e64, e16) (fun a w hE hm => ⟨hE.sub ⟨rfl, rfl, trivial⟩, (hm.pick [0, 2, 3, 4] rfl)⟩)
      · refine c_skip ?_
        exact l_join (r44, t34, e16) (fun a w hE hm => ⟨hE.sub ⟨rfl, rfl, trivial⟩, (hm.pick [0, 1, 2, 3] rfl)⟩)
    · rintro ⟨t126, t127, t128⟩ a w ⟨hE, hm⟩ h
      refine nx_of hE hm h ?_
      clear hE hm h
      refine c_seq ?_
      refine c_region ?_
      refine o_ldc st (v := (.agg #[(.int .i64 t127), (.int .i64 t128)])) 1 rfl rfl rfl ty29 rfl ?_
      refine stw (o_stc (cs' := [(.int .i64 t127), (.int .i64 t128)]) 2 rfl rfl rfl ty29 rfl rfl rfl rfl ?_)
      refine c_nil ?_
      refine l_then ?_
      refine c_ret ?_
      exact l_end1 Tryd.results59 ((GPrefix.mk t127 t128), t126) () (rv_c 2 rfl rfl ty29 rfl) (fun w m => NewCh.ofB m [0] rfl)

set_option maxRecDepth 100000 in
set_option maxHeartbeats 8000000 in
theorem w_spec_l20Open {w0 : World} {F : Nat → Prop} {v1 : Value} {code_0 : (List UInt8)} {κ : ((List UInt8) × Int) → Prop} (hF : ∀ b, F b → b < w0.heap.size ∧ ¬ feet [] b) (hv1 : Sl elU8 F w0 v1 code_0) (h : L_spec_l20Open code_0 κ) :
    Calls Tryd.prog 60 #[v1] w0 (Ret [] F w0 κ (fun (r : ((List UInt8) × Int)) (u : Nat × Value) => .pointer (some ⟨u.1, 0, none⟩)) (fun (r : ((List UInt8) × Int)) (u : Nat × Value) => [cellCh u.1 [u.2, (.int .i64 r.2)] 111, roCh elU8 u.2 r.1])) := by
  refine enterS (args := [v1]) [] hF (Given.nil _ _) Tryd.func60 rfl Tryd.ntmps60 rfl h ?_
  clear h hF
  refine c_seq ?_
  refine c_region ?_
  refine o_as st rfl rfl ?_
  refine c_nil ?_
  refine l_then ?_
  refine c_join (σ := (List UInt8)) (fun (xs68 : (List UInt8)) (a : Act) (w : World) => ∃ (v67 : Value), Has 11 [(0, v67)] a ∧ Mem (gB F [] w0) (feet []) w0 [roCh elU8 v67 xs68] w) ?_ ?_
  · intro k71
    refine c_seq ?_
    refine c_region ?_
    refine o_mv st rfl rfl ?_
    refine o_len st el34 0 rfl (reads_snap hv1) rfl rfl ?_
    refine o_gtr st rfl rfl rfl ?_
    refine c_nil ?_
    refine l_then ?_
    refine c_cond rfl ?_ ?_
    · refine c_region ?_
      refine o_mv st rfl rfl ?_
      refine nx_note 0 rfl hv1 ?_
      refine stw (o_slc (I := 0) (J := 2000) 0 rfl rfl rfl rfl rfl el34 rfl ?_); intro v3 xs4
      refine o_as st rfl rfl ?_
      refine c_nil ?_
      exact l_join xs4 (fun a w hE hm => ⟨v3, hE.sub ⟨rfl, trivial⟩, (hm.pick [0] rfl)⟩)
    · refine c_skip ?_
      exact l_join code_0 (fun a w hE hm => ⟨v1, hE.sub ⟨rfl, trivial⟩, ((hm.snote 0 rfl hv1).pick [0] rfl)⟩)
  · rintro xs68 a w ⟨v67, hE, hm⟩ h
    refine nx_of hE hm h ?_
    clear hE hm h
    refine c_seq ?_
    refine c_region ?_
    refine o_mv st rfl rfl ?_
    refine nx_ro 0 rfl ?_; rintro a72 l73 q74 rfl
    refine o_bld st (qs := [(0, (.slice a72 l73 q74))]) (cells := [(.slice a72 l73 q74), (.int .i64 0)]) (by intro ρ h; simp only [List.map_toArray, List.map_cons, List.map_nil, h (.tmp 8) _ rfl]) rfl bld111 rfl ?_
    refine stw (o_box rfl rfl [(.slice a72 l73 q74), (.int .i64 0)] rfl ?_); intro b75
    refine o_as st rfl rfl ?_
    refine c_nil ?_
    refine l_then ?_
    refine c_ret ?_
    exact l_end1 Tryd.results60 (xs68, 0) (b75, (.slice a72 l73 q74)) (rv_t rfl) (fun w m => NewCh.ofB m [0, 1] rfl)

set_option maxRecDepth 100000 in
set_option maxHeartbeats 8000000 in
theorem w_spec_DrawPrefixText {w0 : World} {F : Nat → Prop} {v1 : Value} {code_0 : (List UInt8)} {κ : GPrefix → Prop} (hF : ∀ b, F b → b < w0.heap.size ∧ ¬ feet [] b) (hv1 : Sl elU8 F w0 v1 code_0) (h : L_spec_DrawPrefixText code_0 κ) :
    Calls Tryd.prog 21 #[v1] w0 (Ret [] F w0 κ (fun (r : GPrefix) (u : Unit) => (.agg #[(.int .i64 r.xBase), (.int .i64 r.xLength)])) (fun (r : GPrefix) (u : Unit) => [])) := by
  refine enterS (args := [v1]) [] hF (Given.nil _ _) Tryd.func21 rfl Tryd.ntmps21 rfl h ?_
  clear h hF
  refine c_seq ?_
  refine c_region ?_
  refine stw (o_alloc rfl [(.int .i64 0), (.int .i64 0)] zero29 ?_); intro b3
  refine c_nil ?_
  refine l_then ?_
  refine c_seq ?_
  refine c_region ?_
  refine o_mv st rfl rfl ?_
  refine stw (o_callP (vs := [v1]) Tryd.call60 rfl rfl (by intro w m h; exact w_spec_l20Open (code_0 := code_0) fz_ok0 (m.roS 1 rfl hv1) h) ?_); rintro ⟨r7, r10⟩ ⟨b5, v8⟩
  refine stw (o_call (vs := [(.pointer (some ⟨b5, 0, none⟩)), (.int .i64 6)]) (M0 := [cellCh b5 [v8, (.int .i64 r10)] 111]) Tryd.call59 rfl rfl (by intro w m h; exact (w_spec_l20Prefix (F := allB [cellCh b5 [v8, (.int .i64 r10)] 111] w) (r_0_b := r7) (r_0_p := r10) (n_1 := 6) allB_ok m.given (m.rdM 0 rfl reads_ro) h).mono (fun _ _ k => ret_free (fun r u => (fr_cons free_cell fr_nil)) k)) ?_); rintro ⟨r11, r12⟩ _
  refine stw (o_stc (cs' := [(.int .i64 r11.xBase), (.int .i64 r11.xLength)]) 2 rfl rfl rfl ty29 rfl rfl rfl rfl ?_)
  refine c_nil ?_
  refine l_then ?_
  refine c_ret ?_
  exact l_end1 Tryd.results21 r11 () (rv_c 2 rfl rfl ty29 rfl) (fun _ _ => NewCh.nil _ _ _ _)

set_option maxRecDepth 100000 in
set_option maxHeartbeats 8000000 in
theorem w_impl_SpansHave {w0 : World} {F : Nat → Prop} {v1 : Value} {list_0 : (List GSpan)} {n_1 : Int} {κ : Bool → Prop} (hF : ∀ b, F b → b < w0.heap.size ∧ ¬ feet [] b) (hv1 : Sl elGSpan F w0 v1 list_0) (h : L_impl_SpansHave list_0 n_1 κ) :
    Calls Tryd.prog 63 #[v1, (.int .i64 n_1)] w0 (Ret [] F w0 κ (fun (r : Bool) (u : Unit) => (.bool r)) (fun (r : Bool) (u : Unit) => [])) := by
  refine enterS (args := [v1, (.int .i64 n_1)]) [] hF (Given.nil _ _) Tryd.func63 rfl Tryd.ntmps63 rfl h ?_
  clear h hF
  refine c_seq ?_
  refine c_region ?_
  refine o_as st rfl rfl ?_
  refine c_nil ?_
  refine l_then ?_
  refine c_seq ?_
  refine c_seq ?_
  refine c_region ?_
  refine o_mv st rfl rfl ?_
  refine o_len st el88 0 rfl (reads_snap hv1) rfl rfl ?_
  refine o_mv st rfl rfl ?_
  refine c_nil ?_
  refine l_then ?_
  refine c_block ?_
  refine c_loop (σ := Int) (fun (t3 : Int) (a : Act) (w : World) => Has 24 [(1, (.int .i64 n_1)), (7, v1), (8, (.int .i64 (list_0.length : Int))), (9, (.int .i64 t3))] a ∧ Mem (gB F [] w0) (feet []) w0 [snapCh w0 F] w) (fun a w hE hm => ⟨hE.sub ⟨rfl, rfl, rfl, rfl, trivial⟩, (hm.pick [0] rfl)⟩) ?_
  rintro nx4 t3 a w ⟨hE, hm⟩ h
  refine nx_of hE hm h ?_
  clear hE hm h
  refine c_seq ?_
  refine c_region ?_
  refine o_lss st rfl rfl rfl ?_
  refine c_nil ?_
  refine l_then ?_
  refine c_seq ?_
  refine c_cond rfl ?_ ?_
  · refine c_skip ?_
    refine l_then ?_
    refine c_seq ?_
    refine c_block ?_
    refine c_seq ?_
    refine c_region ?_
    refine o_idx st 0 rfl (reads_snap hv1) rfl rfl rfl el88 ?_; intro e5 h6
    refine o_lds st (enc := encGSpan) (u := (.agg #[(.int .i64 e5.xLo), (.int .i64 e5.xHi)])) 0 rfl (reads_snap hv1) flelGSpan rfl h6 rfl rfl ty87 rfl ?_
    refine stw (o_alloc rfl [(.int .i64 0), (.int .i64 0)] zero87 ?_); intro b7
    refine stw (o_stc (cs' := [(.int .i64 e5.xLo), (.int .i64 e5.xHi)]) 0 rfl rfl rfl ty87 rfl rfl rfl rfl ?_)
    refine c_nil ?_
    refine l_then ?_
    refine c_join (σ := Bool) (fun (t69 : Bool) (a : Act) (w : World) => Has 24 [(1, (.int .i64 n_1)), (7, v1), (8, (.int .i64 (list_0.length : Int))), (9, (.int .i64 t3)), (22, (.bool t69))] a ∧ Mem (gB F [] w0) (feet []) w0 [snapCh w0 F] w) ?_ ?_
    · intro k70
      refine c_region ?_
      refine o_fad st rfl rfl fld87_0 rfl ?_
      refine o_ldc st (v := (.int .i64 e5.xLo)) 0 rfl rfl rfl ty3 rfl ?_
      refine o_mv st rfl rfl ?_
      refine o_leq st rfl rfl rfl ?_
      refine o_mv st rfl rfl ?_
      refine st_sp (dj := 17) rfl ?_ ?_
      · refine o_mv (st_g rfl rfl) rfl rfl ?_
        refine o_fad (st_g rfl rfl) rfl rfl fld87_1 rfl ?_
        refine o_ldc (st_g rfl rfl) (v := (.int .i64 e5.xHi)) 0 rfl rfl rfl ty3 rfl ?_
        refine o_leq (st_g rfl rfl) rfl rfl rfl ?_
        refine o_pickT st rfl rfl rfl ?_
        refine c_nil ?_
        exact l_join (decide (n_1 ≤ e5.xHi)) (fun a w hE hm => ⟨hE.sub ⟨rfl, rfl, rfl, rfl, rfl, trivial⟩, (hm.pick [1] rfl)⟩)
      · refine st_s rfl rfl rfl rfl ?_
        refine st_s rfl rfl rfl rfl ?_
        refine st_s rfl rfl rfl rfl ?_
        refine st_s rfl rfl rfl rfl ?_
        refine o_pickF st rfl rfl rfl ?_
        refine c_nil ?_
        exact l_join false (fun a w hE hm => ⟨hE.sub ⟨rfl, rfl, rfl, rfl, rfl, trivial⟩, (hm.pick [1] rfl)⟩)
    · rintro t69 a w ⟨hE, hm⟩ h
      refine nx_of hE hm h ?_
      clear hE hm h
      refine c_cond rfl ?_ ?_
      · refine c_seq ?_
        refine c_region ?_
        refine o_as st rfl rfl ?_
        refine c_nil ?_
        refine l_then ?_
        refine c_ret ?_
        refine b_ret ?_
        refine l_ret ?_
        refine l_ret ?_
        refine b_ret ?_
        refine l_ret ?_
        exact l_end1 Tryd.results63 true () (rv_t rfl) (fun _ _ => NewCh.nil _ _ _ _)
      · refine c_skip ?_
        refine b_norm ?_
        refine l_then ?_
        refine c_region ?_
        refine o_add st rfl rfl rfl ?_; intro t71
        refine o_mv st rfl rfl ?_
        refine c_nil ?_
        exact l_join t71 (fun a w hE hm => ⟨hE.sub ⟨rfl, rfl, rfl, rfl, trivial⟩, (hm.pick [0] rfl)⟩)
  · refine c_exit ?_
    refine l_exit ?_
    refine l_exit ?_
    refine b_exit ?_
    refine l_then ?_
    refine c_seq ?_
    refine c_region ?_
    refine o_as st rfl rfl ?_
    refine c_nil ?_
    refine l_then ?_
    refine c_ret ?_
    exact l_end1 Tryd.results63 false () (rv_t rfl) (fun _ _ => NewCh.nil _ _ _ _)

set_option maxRecDepth 100000 in
set_option maxHeartbeats 8000000 in
theorem w_laws_alive {w0 : World} {F : Nat → Prop} {κ : Bool → Prop} (hF : ∀ b, F b → b < w0.heap.size ∧ ¬ feet [] b) (h : L_laws_alive κ) :
    Calls Tryd.prog 25 #[] w0 (Ret [] F w0 κ (fun (r : Bool) (u : Unit) => (.bool r)) (fun (r : Bool) (u : Unit) => [])) := by
  refine enter0 (args := []) [] hF (Given.nil _ _) Tryd.func25 rfl Tryd.ntmps25 rfl h ?_
  clear h hF
  refine c_seq ?_
  refine c_region ?_
  refine o_as st rfl rfl ?_
  refine c_nil ?_
  refine l_then ?_
  refine c_seq ?_
  refine c_region ?_
  refine o_bld st (qs := [(0, (.int .i64 2)), (1, (.int .i64 4))]) (cells := [(.int .i64 2), (.int .i64 4)]) (by intro ρ h; simp only [List.map_toArray, List.map_cons, List.map_nil, h (.const (.int .i64 2)) _ rfl, h (.const (.int .i64 4)) _ rfl]) rfl bld87 rfl ?_
  refine stw (o_bsl (enc := encGSpan) (qs := [(0, (.agg #[(.int .i64 2), (.int .i64 4)]))]) (cells := [(.int .i64 2), (.int .i64 4)]) ([(GSpan.mk 2 4)]) flelGSpan (by intro ρ h; simp only [List.map_toArray, List.map_cons, List.map_nil, h (.tmp 1) _ rfl]) rfl el88 zero87 rfl rfl rfl rfl rfl rfl ?_); intro v1
  refine stw (o_callP (vs := [v1, (.int .i64 3)]) Tryd.call63 rfl rfl (by intro w m h; exact (w_impl_SpansHave (F := allB [] w) (list_0 := ([(GSpan.mk 2 4)])) (n_1 := 3) allB_ok (m.rd0 0 rfl reads_own) h).mono (fun _ _ k => ret_free (fun r u => fr_nil) k)) ?_); rintro r3 _
  refine o_as st rfl rfl ?_
  refine c_nil ?_
  refine l_then ?_
  refine c_ret ?_
  exact l_end1 Tryd.results25 r3 () (rv_t rfl) (fun _ _ => NewCh.nil _ _ _ _)

set_option maxRecDepth 100000 in
set_option maxHeartbeats 8000000 in
theorem w_laws_FnPrefixText {w0 : World} {F : Nat → Prop} {v1 : Value} {code_0 : (List UInt8)} {κ : Bool → Prop} (hF : ∀ b, F b → b < w0.heap.size ∧ ¬ feet [] b) (hv1 : Sl elU8 F w0 v1 code_0) (hgl1 : Tb F w0) (h : L_laws_FnPrefixText code_0 κ) :
    Calls Tryd.prog 5 #[v1] w0 (Ret [] F w0 κ (fun (r : Bool) (u : Unit) => (.bool r)) (fun (r : Bool) (u : Unit) => [])) := by
  refine enterS (args := [v1]) [] hF (Given.nil _ _) Tryd.func5 rfl Tryd.ntmps5 rfl h ?_
  clear h hF
  refine c_seq ?_
  refine c_region ?_
  refine o_as st rfl rfl ?_
  refine c_nil ?_
  refine l_then ?_
  refine c_seq ?_
  refine c_seq ?_
  refine c_region ?_
  refine o_mv st rfl rfl ?_
  refine o_len st el34 0 rfl (reads_snap hv1) rfl rfl ?_
  refine o_gtr st rfl rfl rfl ?_
  refine c_nil ?_
  refine l_then ?_
  refine c_cond rfl ?_ ?_
  · refine c_seq ?_
    refine c_region ?_
    refine o_as st rfl rfl ?_
    refine c_nil ?_
    refine l_then ?_
    refine c_ret ?_
    refine l_ret ?_
    exact l_end1 Tryd.results5 true () (rv_t rfl) (fun _ _ => NewCh.nil _ _ _ _)
  · refine c_skip ?_
    refine l_then ?_
    refine c_seq ?_
    refine c_region ?_
    refine o_mv st rfl rfl ?_
    refine stw (o_callP (vs := [v1]) Tryd.call21 rfl rfl (by intro w m h; exact (w_spec_DrawPrefixText (F := allB [] w) (code_0 := code_0) allB_ok (m.rd0 0 rfl (reads_snap hv1)) h).mono (fun _ _ k => ret_free (fun r u => fr_nil) k)) ?_); rintro r3 _
    refine stw (o_alloc rfl [(.int .i64 0), (.int .i64 0)] zero29 ?_); intro b4
    refine stw (o_stc (cs' := [(.int .i64 r3.xBase), (.int .i64 r3.xLength)]) 0 rfl rfl rfl ty29 rfl rfl rfl rfl ?_)
    refine c_nil ?_
    refine l_then ?_
    refine c_seq ?_
    refine c_region ?_
    refine o_ldc st (v := (.agg #[(.int .i64 r3.xBase), (.int .i64 r3.xLength)])) 0 rfl rfl rfl ty29 rfl ?_
    refine stw (o_callP (vs := [(.agg #[(.int .i64 r3.xBase), (.int .i64 r3.xLength)])]) Tryd.call22 rfl rfl (by intro w m h; exact (w_impl_PrefixText (F := allB [] w) (p_0 := r3) allB_ok ((hgl1.of (m.get (i := 1) rfl)).mono fz_ok0) h).mono (fun _ _ k => ret_free (fun r u => fr_nil) k)) ?_); rintro r6 _
    refine o_as st rfl rfl ?_
    refine c_nil ?_
    refine l_then ?_
    refine c_seq ?_
    refine c_seq ?_
    refine c_region ?_
    refine o_mv st rfl rfl ?_
    refine o_ldc st (v := (.agg #[(.int .i64 r3.xBase), (.int .i64 r3.xLength)])) 0 rfl rfl rfl ty29 rfl ?_
    refine stw (o_callP (vs := [(.agg #[(.int .i64 r3.xBase), (.int .i64 r3.xLength)])]) Tryd.call23 rfl rfl (by intro w m h; exact (w_spec_PrefixText (F := allB [] w) (p_0 := r3) allB_ok h).mono (fun _ _ k => ret_free (fun r u => fr_nil) k)) ?_); rintro r7 _
    refine o_neqS st und9 rfl rfl rfl ?_
    refine c_nil ?_
    refine l_then ?_
    refine c_cond rfl ?_ ?_
    · refine c_seq ?_
      refine c_region ?_
      refine o_as st rfl rfl ?_
      refine c_nil ?_
      refine l_then ?_
      refine c_ret ?_
      refine l_ret ?_
      exact l_end1 Tryd.results5 false () (rv_t rfl) (fun _ _ => NewCh.nil _ _ _ _)
    · refine c_skip ?_
      refine l_then ?_
      refine c_seq ?_
      refine c_seq ?_
      refine c_region ?_
      refine o_ldc st (v := (.agg #[(.int .i64 r3.xBase), (.int .i64 r3.xLength)])) 0 rfl rfl rfl ty29 rfl ?_
      refine stw (o_callP (vs := [(.agg #[(.int .i64 r3.xBase), (.int .i64 r3.xLength)])]) Tryd.call24 rfl rfl (by intro w m h; exact (w_spec_PrefixValid (F := allB [] w) (p_0 := r3) allB_ok h).mono (fun _ _ k => ret_free (fun r u => fr_nil) k)) ?_); rintro r8 _
      refine o_not st rfl rfl ?_
      refine c_nil ?_
      refine l_then ?_
      refine c_cond rfl ?_ ?_
      · refine c_join (σ := Bool) (fun (t70 : Bool) (a : Act) (w : World) => Has 54 [(2, (.bool t70))] a ∧ Mem (gB F [] w0) (feet []) w0 [snapCh w0 F] w) ?_ ?_
        · intro k71
          refine c_region ?_
          refine o_mv st rfl rfl ?_
          refine o_eqlS st und9 rfl rfl rfl ?_
          refine o_mv st rfl rfl ?_
          refine st_sp (dj := 25) rfl ?_ ?_
          · refine st_gw rfl rfl (o_callP (vs := []) Tryd.call25 rfl rfl (by intro w m h; exact (w_laws_alive (F := allB [] w) allB_ok h).mono (fun _ _ k => ret_free (fun r u => fr_nil) k)) ?_); rintro r9 _
            refine o_pickT st rfl rfl rfl ?_
            refine o_as st rfl rfl ?_
            refine c_nil ?_
            exact l_join r9 (fun a w hE hm => ⟨hE.sub ⟨rfl, trivial⟩, (hm.pick [1] rfl)⟩)
          · refine st_s rfl rfl rfl rfl ?_
            refine o_pickF st rfl rfl rfl ?_
            refine o_as st rfl rfl ?_
            refine c_nil ?_
            exact l_join false (fun a w hE hm => ⟨hE.sub ⟨rfl, trivial⟩, (hm.pick [1] rfl)⟩)
        · rintro t70 a w ⟨hE, hm⟩ h
          refine nx_of hE hm h ?_
          clear hE hm h
          refine c_ret ?_
          refine l_ret ?_
          exact l_end1 Tryd.results5 t70 () (rv_t rfl) (fun _ _ => NewCh.nil _ _ _ _)
      · refine c_skip ?_
        refine l_then ?_
        refine c_seq ?_
        refine c_region ?_
        refine o_mv st rfl rfl ?_
        refine stw (o_callP (vs := [(.string r6)]) Tryd.call19 rfl rfl (by intro w m h; exact (w_impl_ReadPrefix (F := allB [] w) (s_0 := r6) allB_ok ((hgl1.of (m.get (i := 1) rfl)).mono fz_ok0) h).mono (fun _ _ k => ret_free (fun r u => fr_nil) k)) ?_); rintro ⟨r72, r73⟩ _
        refine o_mv st rfl rfl ?_
        refine o_ext st (vs := [(.agg #[(.int .i64 r72.xBase), (.int .i64 r72.xLength)]), (.bool r73)]) rfl rfl rfl ?_
        refine o_ext st (vs := [(.agg #[(.int .i64 r72.xBase), (.int .i64 r72.xLength)]), (.bool r73)]) rfl rfl rfl ?_
        refine stw (o_alloc rfl [(.int .i64 0), (.int .i64 0)] zero29 ?_); intro b74
        refine stw (o_stc (cs' := [(.int .i64 r72.xBase), (.int .i64 r72.xLength)]) 0 rfl rfl rfl ty29 rfl rfl rfl rfl ?_)
        refine o_as st rfl rfl ?_
        refine c_nil ?_
        refine l_then ?_
        refine c_seq ?_
        refine c_region ?_
        refine o_mv st rfl rfl ?_
        refine o_cat st rfl rfl rfl ?_; intro s76
        refine stw (o_callP (vs := [(.string s76)]) Tryd.call19 rfl rfl (by intro w m h; exact (w_impl_ReadPrefix (F := allB [] w) (s_0 := s76) allB_ok ((hgl1.of (m.get (i := 2) rfl)).mono fz_ok0) h).mono (fun _ _ k => ret_free (fun r u => fr_nil) k)) ?_); rintro ⟨r77, r78⟩ _
        refine o_mv st rfl rfl ?_
        refine o_ext st (vs := [(.agg #[(.int .i64 r77.xBase), (.int .i64 r77.xLength)]), (.bool r78)]) rfl rfl rfl ?_
        refine o_ext st (vs := [(.agg #[(.int .i64 r77.xBase), (.int .i64 r77.xLength)]), (.bool r78)]) rfl rfl rfl ?_
        refine stw (o_alloc rfl [(.int .i64 0), (.int .i64 0)] zero29 ?_); intro b79
        refine stw (o_stc (cs' := [(.int .i64 r77.xBase), (.int .i64 r77.xLength)]) 0 rfl rfl rfl ty29 rfl rfl rfl rfl ?_)
        refine o_as st rfl rfl ?_
        refine c_nil ?_
        refine l_then ?_
        refine c_join (σ := Bool) (fun (t141 : Bool) (a : Act) (w : World) => Has 54 [(2, (.bool t141))] a ∧ Mem (gB F [] w0) (feet []) w0 [snapCh w0 F] w) ?_ ?_
        · intro k142
          refine c_region ?_
          refine o_mv st rfl rfl ?_
          refine o_mv st rfl rfl ?_
          refine st_sp (dj := 40) rfl ?_ ?_
          · refine o_ldc (st_g rfl rfl) (v := (.agg #[(.int .i64 r72.xBase), (.int .i64 r72.xLength)])) 1 rfl rfl rfl ty29 rfl ?_
            refine o_ldc (st_g rfl rfl) (v := (.agg #[(.int .i64 r3.xBase), (.int .i64 r3.xLength)])) 2 rfl rfl rfl ty29 rfl ?_
            refine o_bin (st_g rfl rfl) (.bool (decide (r72 = r3))) rfl rfl rfl (eqls29 _ _ r72.xBase r72.xLength r3.xBase r3.xLength) ?_
            refine o_pickT st rfl rfl rfl ?_
            refine o_mv st rfl rfl ?_
            refine st_sp (dj := 45) rfl ?_ ?_
            · refine o_mv (st_g rfl rfl) rfl rfl ?_
              refine o_not (st_g rfl rfl) rfl rfl ?_
              refine o_mv (st_g rfl rfl) rfl rfl ?_
              refine st_sp (dj := 48) rfl ?_ ?_
              · refine st_s rfl rfl rfl rfl ?_
                refine st_s rfl rfl rfl rfl ?_
                refine st_s rfl rfl rfl rfl ?_
                refine o_pickT (st_g rfl rfl) rfl rfl rfl ?_
                refine o_pickT st rfl rfl rfl ?_
                refine o_as st rfl rfl ?_
                refine c_nil ?_
                exact l_join true (fun a w hE hm => ⟨hE.sub ⟨rfl, trivial⟩, (hm.pick [3] rfl)⟩)
              · refine o_fad (st_g rfl rfl) rfl rfl fld29_1 rfl ?_
                refine o_ldc (st_g rfl rfl) (v := (.int .i64 r3.xLength)) 2 rfl rfl rfl ty3 rfl ?_
                refine o_eql (st_g rfl rfl) und3 rfl rfl rfl ?_
                refine o_pickF (st_g rfl rfl) rfl rfl rfl ?_
                refine o_pickT st rfl rfl rfl ?_
                refine o_as st rfl rfl ?_
                refine c_nil ?_
                exact l_join (decide (r3.xLength = 1)) (fun a w hE hm => ⟨hE.sub ⟨rfl, trivial⟩, (hm.pick [3] rfl)⟩)
            · refine st_s rfl rfl rfl rfl ?_
              refine st_s rfl rfl rfl rfl ?_
              refine st_s rfl rfl rfl rfl ?_
              refine st_s rfl rfl rfl rfl ?_
              refine st_s rfl rfl rfl rfl ?_
              refine st_s rfl rfl rfl rfl ?_
              refine st_s rfl rfl rfl rfl ?_
              refine o_pickF st rfl rfl rfl ?_
              refine o_as st rfl rfl ?_
              refine c_nil ?_
              exact l_join false (fun a w hE hm => ⟨hE.sub ⟨rfl, trivial⟩, (hm.pick [3] rfl)⟩)
          · refine st_s rfl rfl rfl rfl ?_
            refine st_s rfl rfl rfl rfl ?_
            refine st_s rfl rfl rfl rfl ?_
            refine o_pickF st rfl rfl rfl ?_
            refine o_mv st rfl rfl ?_
            refine st_s rfl rfl rfl rfl ?_
            refine st_s rfl rfl rfl rfl ?_
            refine st_s rfl rfl rfl rfl ?_
            refine st_s rfl rfl rfl rfl ?_
            refine st_s rfl rfl rfl rfl ?_
            refine st_s rfl rfl rfl rfl ?_
            refine st_s rfl rfl rfl rfl ?_
            refine o_pickF st rfl rfl rfl ?_
            refine o_as st rfl rfl ?_
            refine c_nil ?_
            exact l_join false (fun a w hE hm => ⟨hE.sub ⟨rfl, trivial⟩, (hm.pick [3] rfl)⟩)
        · rintro t141 a w ⟨hE, hm⟩ h
          refine nx_of hE hm h ?_
          clear hE hm h
          refine c_ret ?_
          exact l_end1 Tryd.results5 t141 () (rv_t rfl) (fun _ _ => NewCh.nil _ _ _ _)

set_option maxRecDepth 100000 in
set_option maxHeartbeats 8000000 in
theorem w_spec_DrawReadPrefix {w0 : World} {F : Nat → Prop} {v1 : Value} {code_0 : (List UInt8)} {κ : ByteArray → Prop} (hF : ∀ b, F b → b < w0.heap.size ∧ ¬ feet [] b) (hv1 : Sl elU8 F w0 v1 code_0) (h : L_spec_DrawReadPrefix code_0 κ) :
    Calls Tryd.prog 26 #[v1] w0 (Ret [] F w0 κ (fun (r : ByteArray) (u : Unit) => (.string r)) (fun (r : ByteArray) (u : Unit) => [])) := by
  refine enterS (args := [v1]) [] hF (Given.nil _ _) Tryd.func26 rfl Tryd.ntmps26 rfl h ?_
  clear h hF
  refine c_seq ?_
  refine c_region ?_
  refine o_as st rfl rfl ?_
  refine c_nil ?_
  refine l_then ?_
  refine c_seq ?_
  refine c_region ?_
  refine o_mv st rfl rfl ?_
  refine stw (o_callP (vs := [v1]) Tryd.call60 rfl rfl (by intro w m h; exact w_spec_l20Open (code_0 := code_0) fz_ok0 (m.roS 0 rfl hv1) h) ?_); rintro ⟨r5, r8⟩ ⟨b3, v6⟩
  refine o_as st rfl rfl ?_
  refine c_nil ?_
  refine l_then ?_
  refine c_seq ?_
  refine c_region ?_
  refine o_mv st rfl rfl ?_
  refine stw (o_call (vs := [(.pointer (some ⟨b3, 0, none⟩)), (.int .i64 0)]) (M0 := [cellCh b3 [v6, (.int .i64 r8)] 111]) Tryd.call59 rfl rfl (by intro w m h; exact (w_spec_l20Prefix (F := allB [cellCh b3 [v6, (.int .i64 r8)] 111] w) (r_0_b := r5) (r_0_p := r8) (n_1 := 0) allB_ok m.given (m.rdM 0 rfl reads_ro) h).mono (fun _ _ k => ret_free (fun r u => (fr_cons free_cell fr_nil)) k)) ?_); rintro ⟨r9, r10⟩ _
  refine stw (o_callP (vs := [(.agg #[(.int .i64 r9.xBase), (.int .i64 r9.xLength)])]) Tryd.call23 rfl rfl (by intro w m h; exact (w_spec_PrefixText (F := allB [] w) (p_0 := r9) allB_ok h).mono (fun _ _ k => ret_free (fun r u => fr_nil) k)) ?_); rintro r11 _
  refine o_as st rfl rfl ?_
  refine c_nil ?_
  refine l_then ?_
  refine c_join (σ := ByteArray) (fun (t82 : ByteArray) (a : Act) (w : World) => Has 22 [(4, (.string t82))] a ∧ Mem (gB F [] w0) (feet []) w0 [] w) ?_ ?_
  · intro k83
    refine c_seq ?_
    refine c_region ?_
    refine o_mv st rfl rfl ?_
    refine stw (o_call (vs := [(.pointer (some ⟨b3, 0, none⟩)), (.int .i64 3)]) (M0 := [cellCh b3 [v6, (.int .i64 r10)] 111]) Tryd.call64 rfl rfl (by intro w m h; exact (w_spec_l20Rd_odd (F := allB [cellCh b3 [v6, (.int .i64 r10)] 111] w) (r_0_b := r5) (r_0_p := r10) (n_1 := 3) allB_ok m.given (m.rdM 0 rfl reads_ro) h).mono (fun _ _ k => ret_free (fun r u => (fr_cons free_cell fr_nil)) k)) ?_); rintro ⟨r12, r13⟩ _
    refine c_nil ?_
    refine l_then ?_
    refine c_cond rfl ?_ ?_
    · refine c_region ?_
      refine o_mv st rfl rfl ?_
      refine o_cat st rfl rfl rfl ?_; intro s14
      refine o_mv st rfl rfl ?_
      refine o_cat st rfl rfl rfl ?_; intro s15
      refine stw (o_bsl (enc := encStr) (qs := [(0, (.string s14)), (1, (.string s15)), (2, (.string (ByteArray.mk #[]))), (3, (.string (ByteArray.mk #[49, 46, 50]))), (4, (.string (ByteArray.mk #[49, 47, 50]))), (5, (.string (ByteArray.mk #[50, 53, 54, 46, 48, 47, 49, 54]))), (6, (.string (ByteArray.mk #[48, 46, 50, 53, 54, 47, 49, 54]))), (7, (.string (ByteArray.mk #[49, 46, 49, 47, 56]))), (8, (.string (ByteArray.mk #[97, 46, 98, 47, 99]))), (9, (.string (ByteArray.mk #[49, 46, 50, 47, 49, 54, 32])))]) (cells := [(.string s14), (.string s15), (.string (ByteArray.mk #[])), (.string (ByteArray.mk #[49, 46, 50])), (.string (ByteArray.mk #[49, 47, 50])), (.string (ByteArray.mk #[50, 53, 54, 46, 48, 47, 49, 54])), (.string (ByteArray.mk #[48, 46, 50, 53, 54, 47, 49, 54])), (.string (ByteArray.mk #[49, 46, 49, 47, 56])), (.string (ByteArray.mk #[97, 46, 98, 47, 99])), (.string (ByteArray.mk #[49, 46, 50, 47, 49, 54, 32]))]) ([s14, s15, (ByteArray.mk #[]), (ByteArray.mk #[49, 46, 50]), (ByteArray.mk #[49, 47, 50]), (ByteArray.mk #[50, 53, 54, 46, 48, 47, 49, 54]), (ByteArray.mk #[48, 46, 50, 53, 54, 47, 49, 54]), (ByteArray.mk #[49, 46, 49, 47, 56]), (ByteArray.mk #[97, 46, 98, 47, 99]), (ByteArray.mk #[49, 46, 50, 47, 49, 54, 32])]) flelStr (by intro ρ h; simp only [List.map_toArray, List.map_cons, List.map_nil, h (.tmp 13) _ rfl, h (.tmp 15) _ rfl, h (.const (.string (ByteArray.mk #[]))) _ rfl, h (.const (.string (ByteArray.mk #[49, 46, 50]))) _ rfl, h (.const (.string (ByteArray.mk #[49, 47, 50]))) _ rfl, h (.const (.string (ByteArray.mk #[50, 53, 54, 46, 48, 47, 49, 54]))) _ rfl, h (.const (.string (ByteArray.mk #[48, 46, 50, 53, 54, 47, 49, 54]))) _ rfl, h (.const (.string (ByteArray.mk #[49, 46, 49, 47, 56]))) _ rfl, h (.const (.string (ByteArray.mk #[97, 46, 98, 47, 99]))) _ rfl, h (.const (.string (ByteArray.mk #[49, 46, 50, 47, 49, 54, 32]))) _ rfl]) rfl el66 zero9 rfl rfl rfl rfl rfl rfl ?_); intro v16
      refine o_mv st rfl rfl ?_
      refine pk [1, 0, 2, 3] rfl ?_
      refine stw (o_call (vs := [(.pointer (some ⟨b3, 0, none⟩)), (.int .i64 10)]) (M0 := [cellCh b3 [v6, (.int .i64 r13)] 111]) Tryd.call65 rfl rfl (by intro w m h; exact (w_spec_l20Rd_pick (F := allB [cellCh b3 [v6, (.int .i64 r13)] 111] w) (r_0_b := r5) (r_0_p := r13) (n_1 := 10) allB_ok m.given (m.rdM 1 rfl reads_ro) h).mono (fun _ _ k => ret_free (fun r u => (fr_cons free_cell fr_nil)) k)) ?_); rintro ⟨r18, r19⟩ _
      refine o_idx st 1 rfl reads_own rfl rfl rfl el66 ?_; intro e20 h21
      refine o_lds st (enc := encStr) (u := (.string e20)) 1 rfl reads_own flelStr rfl h21 rfl rfl ty9 rfl ?_
      refine o_as st rfl rfl ?_
      refine c_nil ?_
      exact l_join e20 (fun a w hE hm => ⟨hE.sub ⟨rfl, trivial⟩, (hm.pick [] rfl)⟩)
    · refine c_skip ?_
      exact l_join r11 (fun a w hE hm => ⟨hE.sub ⟨rfl, trivial⟩, (hm.pick [] rfl)⟩)
  · rintro t82 a w ⟨hE, hm⟩ h
    refine nx_of hE hm h ?_
    clear hE hm h
    refine c_seq ?_
    refine c_region ?_
    refine o_mv st rfl rfl ?_
    refine o_as st rfl rfl ?_
    refine c_nil ?_
    refine l_then ?_
    refine c_ret ?_
    exact l_end1 Tryd.results26 t82 () (rv_t rfl) (fun _ _ => NewCh.nil _ _ _ _)

set_option maxRecDepth 100000 in
set_option maxHeartbeats 8000000 in
theorem w_laws_FnReadPrefix {w0 : World} {F : Nat → Prop} {v1 : Value} {code_0 : (List UInt8)} {κ : Bool → Prop} (hF : ∀ b, F b → b < w0.heap.size ∧ ¬ feet [] b) (hv1 : Sl elU8 F w0 v1 code_0) (hgl1 : Tb F w0) (h : L_laws_FnReadPrefix code_0 κ) :
    Calls Tryd.prog 6 #[v1] w0 (Ret [] F w0 κ (fun (r : Bool) (u : Unit) => (.bool r)) (fun (r : Bool) (u : Unit) => [])) := by
  refine enterS (args := [v1]) [] hF (Given.nil _ _) Tryd.func6 rfl Tryd.ntmps6 rfl h ?_
  clear h hF
  refine c_seq ?_
  refine c_region ?_
  refine o_as st rfl rfl ?_
  refine c_nil ?_
  refine l_then ?_
  refine c_seq ?_
  refine c_seq ?_
  refine c_region ?_
  refine o_mv st rfl rfl ?_
  refine o_len st el34 0 rfl (reads_snap hv1) rfl rfl ?_
  refine o_gtr st rfl rfl rfl ?_
  refine c_nil ?_
  refine l_then ?_
  refine c_cond rfl ?_ ?_
  · refine c_seq ?_
    refine c_region ?_
    refine o_as st rfl rfl ?_
    refine c_nil ?_
    refine l_then ?_
    refine c_ret ?_
    refine l_ret ?_
    exact l_end1 Tryd.results6 true () (rv_t rfl) (fun _ _ => NewCh.nil _ _ _ _)
  · refine c_skip ?_
    refine l_then ?_
    refine c_seq ?_
    refine c_region ?_
    refine o_mv st rfl rfl ?_
    refine stw (o_callP (vs := [v1]) Tryd.call26 rfl rfl (by intro w m h; exact (w_spec_DrawReadPrefix (F := allB [] w) (code_0 := code_0) allB_ok (m.rd0 0 rfl (reads_snap hv1)) h).mono (fun _ _ k => ret_free (fun r u => fr_nil) k)) ?_); rintro r3 _
    refine o_as st rfl rfl ?_
    refine c_nil ?_
    refine l_then ?_
    refine c_seq ?_
    refine c_region ?_
    refine o_mv st rfl rfl ?_
    refine stw (o_callP (vs := [(.string r3)]) Tryd.call19 rfl rfl (by intro w m h; exact (w_impl_ReadPrefix (F := allB [] w) (s_0 := r3) allB_ok ((hgl1.of (m.get (i := 0) rfl)).mono fz_ok0) h).mono (fun _ _ k => ret_free (fun r u => fr_nil) k)) ?_); rintro ⟨r4, r5⟩ _
    refine o_mv st rfl rfl ?_
    refine o_ext st (vs := [(.agg #[(.int .i64 r4.xBase), (.int .i64 r4.xLength)]), (.bool r5)]) rfl rfl rfl ?_
    refine o_ext st (vs := [(.agg #[(.int .i64 r4.xBase), (.int .i64 r4.xLength)]), (.bool r5)]) rfl rfl rfl ?_
    refine stw (o_alloc rfl [(.int .i64 0), (.int .i64 0)] zero29 ?_); intro b6
    refine stw (o_stc (cs' := [(.int .i64 r4.xBase), (.int .i64 r4.xLength)]) 0 rfl rfl rfl ty29 rfl rfl rfl rfl ?_)
    refine o_as st rfl rfl ?_
    refine c_nil ?_
    refine l_then ?_
    refine c_seq ?_
    refine c_region ?_
    refine o_mv st rfl rfl ?_
    refine stw (o_callP (vs := [(.string r3)]) Tryd.call18 rfl rfl (by intro w m h; exact (w_spec_ReadPrefix (F := allB [] w) (s_0 := r3) allB_ok h).mono (fun _ _ k => ret_free (fun r u => fr_nil) k)) ?_); rintro ⟨r8, r9⟩ _
    refine o_mv st rfl rfl ?_
    refine o_ext st (vs := [(.agg #[(.int .i64 r8.xBase), (.int .i64 r8.xLength)]), (.bool r9)]) rfl rfl rfl ?_
    refine o_ext st (vs := [(.agg #[(.int .i64 r8.xBase), (.int .i64 r8.xLength)]), (.bool r9)]) rfl rfl rfl ?_
    refine stw (o_alloc rfl [(.int .i64 0), (.int .i64 0)] zero29 ?_); intro b10
    refine stw (o_stc (cs' := [(.int .i64 r8.xBase), (.int .i64 r8.xLength)]) 0 rfl rfl rfl ty29 rfl rfl rfl rfl ?_)
    refine o_as st rfl rfl ?_
    refine c_nil ?_
    refine l_then ?_
    refine c_seq ?_
    refine c_join (σ := Bool) (fun (t72 : Bool) (a : Act) (w : World) => Has 50 [(3, (.string r3)), (4, (.pointer (some ⟨b6, 0, none⟩))), (5, (.bool r5)), (30, (.bool t72))] a ∧ Mem (gB F [] w0) (feet []) w0 [cellCh b6 [(.int .i64 r4.xBase), (.int .i64 r4.xLength)] 29, snapCh w0 F] w) ?_ ?_
    · intro k73
      refine c_region ?_
      refine o_ldc st (v := (.agg #[(.int .i64 r4.xBase), (.int .i64 r4.xLength)])) 1 rfl rfl rfl ty29 rfl ?_
      refine o_ldc st (v := (.agg #[(.int .i64 r8.xBase), (.int .i64 r8.xLength)])) 0 rfl rfl rfl ty29 rfl ?_
      refine o_bin st (.bool (!(decide (r4 = r8)))) rfl rfl rfl (neqs29 _ _ r4.xBase r4.xLength r8.xBase r8.xLength) ?_
      refine o_mv st rfl rfl ?_
      refine st_sp (dj := 26) rfl ?_ ?_
      · refine st_s rfl rfl rfl rfl ?_
        refine st_s rfl rfl rfl rfl ?_
        refine st_s rfl rfl rfl rfl ?_
        refine o_pickT st rfl rfl rfl ?_
        refine c_nil ?_
        exact l_join true (fun a w hE hm => ⟨hE.sub ⟨rfl, rfl, rfl, rfl, trivial⟩, (hm.pick [1, 2] rfl)⟩)
      · refine o_mv (st_g rfl rfl) rfl rfl ?_
        refine o_mv (st_g rfl rfl) rfl rfl ?_
        refine o_neqB (st_g rfl rfl) und4 rfl rfl rfl ?_
        refine o_pickF st rfl rfl rfl ?_
        refine c_nil ?_
        exact l_join (!(decide (r5 = r9))) (fun a w hE hm => ⟨hE.sub ⟨rfl, rfl, rfl, rfl, trivial⟩, (hm.pick [1, 2] rfl)⟩)
    · rintro t72 a w ⟨hE, hm⟩ h
      refine nx_of hE hm h ?_
      clear hE hm h
      refine c_cond rfl ?_ ?_
      · refine c_seq ?_
        refine c_region ?_
        refine o_as st rfl rfl ?_
        refine c_nil ?_
        refine l_then ?_
        refine c_ret ?_
        refine l_ret ?_
        exact l_end1 Tryd.results6 false () (rv_t rfl) (fun _ _ => NewCh.nil _ _ _ _)
      · refine c_skip ?_
        refine l_then ?_
        refine c_join (σ := Bool) (fun (t138 : Bool) (a : Act) (w : World) => Has 50 [(2, (.bool t138))] a ∧ Mem (gB F [] w0) (feet []) w0 [snapCh w0 F] w) ?_ ?_
        · intro k139
          refine c_region ?_
          refine o_mv st rfl rfl ?_
          refine o_not st rfl rfl ?_
          refine o_mv st rfl rfl ?_
          refine st_sp (dj := 33) rfl ?_ ?_
          · refine o_ldc (st_g rfl rfl) (v := (.agg #[(.int .i64 r4.xBase), (.int .i64 r4.xLength)])) 0 rfl rfl rfl ty29 rfl ?_
            refine o_bld (st_g rfl rfl) (qs := []) (cells := [(.int .i64 0), (.int .i64 0)]) (by intro ρ h; simp only [List.map_toArray, List.map_cons, List.map_nil]) rfl bld29 rfl ?_
            refine o_bin (st_g rfl rfl) (.bool (decide (r4 = (GPrefix.mk 0 0)))) rfl rfl rfl (eqls29 _ _ r4.xBase r4.xLength 0 0) ?_
            refine o_pickT st rfl rfl rfl ?_
            refine o_mv st rfl rfl ?_
            refine st_sp (dj := 38) rfl ?_ ?_
            · refine st_gw rfl rfl (o_callP (vs := []) Tryd.call25 rfl rfl (by intro w m h; exact (w_laws_alive (F := allB [] w) allB_ok h).mono (fun _ _ k => ret_free (fun r u => fr_nil) k)) ?_); rintro r74 _
              refine o_pickT st rfl rfl rfl ?_
              refine o_mv st rfl rfl ?_
              refine st_sp (dj := 41) rfl ?_ ?_
              · refine st_s rfl rfl rfl rfl ?_
                refine st_s rfl rfl rfl rfl ?_
                refine st_s rfl rfl rfl rfl ?_
                refine st_s rfl rfl rfl rfl ?_
                refine st_s rfl rfl rfl rfl ?_
                refine st_s rfl rfl rfl rfl ?_
                refine st_s rfl rfl rfl rfl ?_
                refine o_pickT st rfl rfl rfl ?_
                refine o_as st rfl rfl ?_
                refine c_nil ?_
                exact l_join true (fun a w hE hm => ⟨hE.sub ⟨rfl, trivial⟩, (hm.pick [1] rfl)⟩)
              · refine o_mv (st_g rfl rfl) rfl rfl ?_
                refine o_mv (st_g rfl rfl) rfl rfl ?_
                refine st_sp (dj := 43) rfl ?_ ?_
                · refine o_ldc (st_g rfl rfl) (v := (.agg #[(.int .i64 r4.xBase), (.int .i64 r4.xLength)])) 0 rfl rfl rfl ty29 rfl ?_
                  refine st_gw rfl rfl (o_callP (vs := [(.agg #[(.int .i64 r4.xBase), (.int .i64 r4.xLength)])]) Tryd.call22 rfl rfl (by intro w m h; exact (w_impl_PrefixText (F := allB [] w) (p_0 := r4) allB_ok ((hgl1.of (m.get (i := 1) rfl)).mono fz_ok0) h).mono (fun _ _ k => ret_free (fun r u => fr_nil) k)) ?_); rintro r75 _
                  refine o_mv (st_g rfl rfl) rfl rfl ?_
                  refine o_eqlS (st_g rfl rfl) und9 rfl rfl rfl ?_
                  refine o_pickT (st_g rfl rfl) rfl rfl rfl ?_
                  refine o_pickF st rfl rfl rfl ?_
                  refine o_as st rfl rfl ?_
                  refine c_nil ?_
                  exact l_join (decide (r75 = r3)) (fun a w hE hm => ⟨hE.sub ⟨rfl, trivial⟩, (hm.pick [1] rfl)⟩)
                · refine st_s rfl rfl rfl rfl ?_
                  refine st_s rfl rfl rfl rfl ?_
                  refine st_s rfl rfl rfl rfl ?_
                  refine st_s rfl rfl rfl rfl ?_
                  refine o_pickF (st_g rfl rfl) rfl rfl rfl ?_
                  refine o_pickF st rfl rfl rfl ?_
                  refine o_as st rfl rfl ?_
                  refine c_nil ?_
                  exact l_join false (fun a w hE hm => ⟨hE.sub ⟨rfl, trivial⟩, (hm.pick [1] rfl)⟩)
            · refine st_s rfl rfl rfl rfl ?_
              refine o_pickF st rfl rfl rfl ?_
              refine o_mv st rfl rfl ?_
              refine o_mv (st_g rfl rfl) rfl rfl ?_
              refine o_mv (st_g rfl rfl) rfl rfl ?_
              refine st_sp (dj := 43) rfl ?_ ?_
              · refine o_ldc (st_g rfl rfl) (v := (.agg #[(.int .i64 r4.xBase), (.int .i64 r4.xLength)])) 0 rfl rfl rfl ty29 rfl ?_
                refine st_gw rfl rfl (o_callP (vs := [(.agg #[(.int .i64 r4.xBase), (.int .i64 r4.xLength)])]) Tryd.call22 rfl rfl (by intro w m h; exact (w_impl_PrefixText (F := allB [] w) (p_0 := r4) allB_ok ((hgl1.of (m.get (i := 1) rfl)).mono fz_ok0) h).mono (fun _ _ k => ret_free (fun r u => fr_nil) k)) ?_); rintro r76 _
                refine o_mv (st_g rfl rfl) rfl rfl ?_
                refine o_eqlS (st_g rfl rfl) und9 rfl rfl rfl ?_
                refine o_pickT (st_g rfl rfl) rfl rfl rfl ?_
                refine o_pickF st rfl rfl rfl ?_
                refine o_as st rfl rfl ?_
                refine c_nil ?_
                exact l_join (decide (r76 = r3)) (fun a w hE hm => ⟨hE.sub ⟨rfl, trivial⟩, (hm.pick [1] rfl)⟩)
              · refine st_s rfl rfl rfl rfl ?_
                refine st_s rfl rfl rfl rfl ?_
                refine st_s rfl rfl rfl rfl ?_
                refine st_s rfl rfl rfl rfl ?_
                refine o_pickF (st_g rfl rfl) rfl rfl rfl ?_
                refine o_pickF st rfl rfl rfl ?_
                refine o_as st rfl rfl ?_
                refine c_nil ?_
                exact l_join false (fun a w hE hm => ⟨hE.sub ⟨rfl, trivial⟩, (hm.pick [1] rfl)⟩)
          · refine st_s rfl rfl rfl rfl ?_
            refine st_s rfl rfl rfl rfl ?_
            refine st_s rfl rfl rfl rfl ?_
            refine o_pickF st rfl rfl rfl ?_
            refine o_mv st rfl rfl ?_
            refine st_s rfl rfl rfl rfl ?_
            refine o_pickF st rfl rfl rfl ?_
            refine o_mv st rfl rfl ?_
            refine o_mv (st_g rfl rfl) rfl rfl ?_
            refine o_mv (st_g rfl rfl) rfl rfl ?_
            refine st_sp (dj := 43) rfl ?_ ?_
            · refine o_ldc (st_g rfl rfl) (v := (.agg #[(.int .i64 r4.xBase), (.int .i64 r4.xLength)])) 0 rfl rfl rfl ty29 rfl ?_
              refine st_gw rfl rfl (o_callP (vs := [(.agg #[(.int .i64 r4.xBase), (.int .i64 r4.xLength)])]) Tryd.call22 rfl rfl (by intro w m h; exact (w_impl_PrefixText (F := allB [] w) (p_0 := r4) allB_ok ((hgl1.of (m.get (i := 1) rfl)).mono fz_ok0) h).mono (fun _ _ k => ret_free (fun r u => fr_nil) k)) ?_); rintro r77 _
              refine o_mv (st_g rfl rfl) rfl rfl ?_
              refine o_eqlS (st_g rfl rfl) und9 rfl rfl rfl ?_
              refine o_pickT (st_g rfl rfl) rfl rfl rfl ?_
              refine o_pickF st rfl rfl rfl ?_
              refine o_as st rfl rfl ?_
              refine c_nil ?_
              exact l_join (decide (r77 = r3)) (fun a w hE hm => ⟨hE.sub ⟨rfl, trivial⟩, (hm.pick [1] rfl)⟩)
            · refine st_s rfl rfl rfl rfl ?_
              refine st_s rfl rfl rfl rfl ?_
              refine st_s rfl rfl rfl rfl ?_
              refine st_s rfl rfl rfl rfl ?_
              refine o_pickF (st_g rfl rfl) rfl rfl rfl ?_
              refine o_pickF st rfl rfl rfl ?_
              refine o_as st rfl rfl ?_
              refine c_nil ?_
              exact l_join false (fun a w hE hm => ⟨hE.sub ⟨rfl, trivial⟩, (hm.pick [1] rfl)⟩)
        · rintro t138 a w ⟨hE, hm⟩ h
          refine nx_of hE hm h ?_
          clear hE hm h
          refine c_ret ?_
          exact l_end1 Tryd.results6 t138 () (rv_t rfl) (fun _ _ => NewCh.nil _ _ _ _)

set_option maxRecDepth 100000 in
set_option maxHeartbeats 8000000 in
theorem w_spec_ReadTest {w0 : World} {F : Nat → Prop} {s_0 : ByteArray} {κ : (GTest × Bool) → Prop} (hF : ∀ b, F b → b < w0.heap.size ∧ ¬ feet [] b) (h : L_spec_ReadTest s_0 κ) :
    Calls Tryd.prog 27 #[(.string s_0)] w0 (Ret [] F w0 κ (fun (r : (GTest × Bool)) (u : Unit) => .tuple #[(.agg #[(.int .i64 r.1.xField), (.int .i64 r.1.xLo), (.int .i64 r.1.xHi), (.bool r.1.xNot)]), (.bool r.2)]) (fun (r : (GTest × Bool)) (u : Unit) => [])) := by
  refine enter0 (args := [(.string s_0)]) [] hF (Given.nil _ _) Tryd.func27 rfl Tryd.ntmps27 rfl h ?_
  clear h hF
  refine c_seq ?_
  refine c_region ?_
  refine stw (o_alloc rfl [(.int .i64 0), (.int .i64 0), (.int .i64 0), (.bool false)] zero25 ?_); intro b1
  refine o_as st rfl rfl ?_
  refine c_nil ?_
  refine l_then ?_
  refine c_seq ?_
  refine c_region ?_
  refine o_bld st (qs := [(0, (.int .i64 (-1)))]) (cells := [(.int .i64 (-1)), (.int .i64 0), (.int .i64 0), (.bool false)]) (by intro ρ h; simp only [List.map_toArray, List.map_cons, List.map_nil, h (.const (.int .i64 (-1))) _ rfl]) rfl bld25 rfl ?_
  refine stw (o_alloc rfl [(.int .i64 0), (.int .i64 0), (.int .i64 0), (.bool false)] zero25 ?_); intro b3
  refine stw (o_stc (cs' := [(.int .i64 (-1)), (.int .i64 0), (.int .i64 0), (.bool false)]) 0 rfl rfl rfl ty25 rfl rfl rfl rfl ?_)
  refine c_nil ?_
  refine l_then ?_
  refine c_seq ?_
  refine c_region ?_
  refine o_mv st rfl rfl ?_
  refine o_as st rfl rfl ?_
  refine c_nil ?_
  refine l_then ?_
  refine c_join (σ := (Bool × ByteArray)) (fun ((t129, t130) : (Bool × ByteArray)) (a : Act) (w : World) => Has 69 [(0, (.string s_0)), (2, (.pointer (some ⟨b1, 0, none⟩))), (4, (.pointer (some ⟨b3, 0, none⟩))), (5, (.string t130))] a ∧ Mem (gB F [] w0) (feet []) w0 [cellCh b3 [(.int .i64 (-1)), (.int .i64 0), (.int .i64 0), (.bool t129)] 25, cellCh b1 [(.int .i64 0), (.int .i64 0), (.int .i64 0), (.bool false)] 25] w) ?_ ?_
  · intro k131
    refine c_join (σ := Bool) (fun (t66 : Bool) (a : Act) (w : World) => Has 69 [(0, (.string s_0)), (2, (.pointer (some ⟨b1, 0, none⟩))), (4, (.pointer (some ⟨b3, 0, none⟩))), (5, (.string s_0)), (21, (.bool t66))] a ∧ Mem (gB F [] w0) (feet []) w0 [cellCh b3 [(.int .i64 (-1)), (.int .i64 0), (.int .i64 0), (.bool false)] 25, cellCh b1 [(.int .i64 0), (.int .i64 0), (.int .i64 0), (.bool false)] 25] w) ?_ ?_
    · intro k67
      refine c_region ?_
      refine o_mv st rfl rfl ?_
      refine o_lenS st und9 rfl rfl ?_
      refine o_gtr st rfl rfl rfl ?_
      refine o_mv st rfl rfl ?_
      refine st_sp (dj := 17) rfl ?_ ?_
      · refine o_mv (st_g rfl rfl) rfl rfl ?_
        refine o_sls (st_g rfl rfl) und9 rfl rfl rfl rfl ?_; intro s5
        refine o_eqlS (st_g rfl rfl) und9 rfl rfl rfl ?_
        refine o_pickT st rfl rfl rfl ?_
        refine c_nil ?_
        exact l_join (decide (s5 = (ByteArray.mk #[110, 111, 116, 32]))) (fun a w hE hm => ⟨hE.sub ⟨rfl, rfl, rfl, rfl, rfl, trivial⟩, (hm.pick [0, 1] rfl)⟩)
      · refine st_s rfl rfl rfl rfl ?_
        refine st_s rfl rfl rfl rfl ?_
        refine st_s rfl rfl rfl rfl ?_
        refine o_pickF st rfl rfl rfl ?_
        refine c_nil ?_
        exact l_join false (fun a w hE hm => ⟨hE.sub ⟨rfl, rfl, rfl, rfl, rfl, trivial⟩, (hm.pick [0, 1] rfl)⟩)
    · rintro t66 a w ⟨hE, hm⟩ h
      refine nx_of hE hm h ?_
      clear hE hm h
      refine c_cond rfl ?_ ?_
      · refine c_seq ?_
        refine c_region ?_
        refine o_fad st rfl rfl fld25_3 rfl ?_
        refine stw (o_stc (cs' := [(.int .i64 (-1)), (.int .i64 0), (.int .i64 0), (.bool true)]) 0 rfl rfl rfl ty4 rfl rfl rfl rfl ?_)
        refine c_nil ?_
        refine l_then ?_
        refine c_region ?_
        refine o_mv st rfl rfl ?_
        refine o_sls st und9 rfl rfl rfl rfl ?_; intro s68
        refine o_as st rfl rfl ?_
        refine c_nil ?_
        exact l_join (true, s68) (fun a w hE hm => ⟨hE.sub ⟨rfl, rfl, rfl, rfl, trivial⟩, (hm.pick [0, 1] rfl)⟩)
      · refine c_skip ?_
        exact l_join (false, s_0) (fun a w hE hm => ⟨hE.sub ⟨rfl, rfl, rfl, rfl, trivial⟩, (hm.pick [0, 1] rfl)⟩)
  · rintro ⟨t129, t130⟩ a w ⟨hE, hm⟩ h
    refine nx_of hE hm h ?_
    clear hE hm h
    refine c_seq ?_
    refine c_region ?_
    refine o_mv st rfl rfl ?_
    refine stw (o_callP (vs := [(.string t130), (.int .u8 32)]) Tryd.call54 rfl rfl (by intro w m h; exact (w_spec_l3Cut (F := allB [] w) (s_0 := t130) (c_1 := (32 : UInt8)) allB_ok h).mono (fun _ _ k => ret_free (fun r u => fr_nil) k)) ?_); rintro ⟨r132, r133⟩ _
    refine o_mv st rfl rfl ?_
    refine o_ext st (vs := [(.string r132), (.string r133)]) rfl rfl rfl ?_
    refine o_ext st (vs := [(.string r132), (.string r133)]) rfl rfl rfl ?_
    refine o_as st rfl rfl ?_
    refine o_as st rfl rfl ?_
    refine c_nil ?_
    refine l_then ?_
    refine c_seq ?_
    refine c_region ?_
    refine o_mv st rfl rfl ?_
    refine stw (o_callP (vs := [(.string r133), (.int .u8 45)]) Tryd.call54 rfl rfl (by intro w m h; exact (w_spec_l3Cut (F := allB [] w) (s_0 := r133) (c_1 := (45 : UInt8)) allB_ok h).mono (fun _ _ k => ret_free (fun r u => fr_nil) k)) ?_); rintro ⟨r134, r135⟩ _
    refine o_mv st rfl rfl ?_
    refine o_ext st (vs := [(.string r134), (.string r135)]) rfl rfl rfl ?_
    refine o_ext st (vs := [(.string r134), (.string r135)]) rfl rfl rfl ?_
    refine o_as st rfl rfl ?_
    refine o_as st rfl rfl ?_
    refine c_nil ?_
    refine l_then ?_
    refine c_join (σ := ByteArray) (fun (t196 : ByteArray) (a : Act) (w : World) => Has 69 [(0, (.string s_0)), (2, (.pointer (some ⟨b1, 0, none⟩))), (4, (.pointer (some ⟨b3, 0, none⟩))), (6, (.string r132)), (8, (.string r134)), (9, (.string t196))] a ∧ Mem (gB F [] w0) (feet []) w0 [cellCh b3 [(.int .i64 (-1)), (.int .i64 0), (.int .i64 0), (.bool t129)] 25, cellCh b1 [(.int .i64 0), (.int .i64 0), (.int .i64 0), (.bool false)] 25] w) ?_ ?_
    · intro k197
      refine c_seq ?_
      refine c_region ?_
      refine o_mv st rfl rfl ?_
      refine o_eqlS st und9 rfl rfl rfl ?_
      refine c_nil ?_
      refine l_then ?_
      refine c_cond rfl ?_ ?_
      · refine c_region ?_
        refine o_mv st rfl rfl ?_
        refine o_as st rfl rfl ?_
        refine c_nil ?_
        exact l_join r134 (fun a w hE hm => ⟨hE.sub ⟨rfl, rfl, rfl, rfl, rfl, rfl, trivial⟩, (hm.pick [0, 1] rfl)⟩)
      · refine c_skip ?_
        exact l_join r135 (fun a w hE hm => ⟨hE.sub ⟨rfl, rfl, rfl, rfl, rfl, rfl, trivial⟩, (hm.pick [0, 1] rfl)⟩)
    · rintro t196 a w ⟨hE, hm⟩ h
      refine nx_of hE hm h ?_
      clear hE hm h
      refine c_seq ?_
      refine c_region ?_
      refine stw (o_bsl (enc := encStr) (qs := [(0, (.string (ByteArray.mk #[102, 114, 111, 109]))), (1, (.string (ByteArray.mk #[116, 111]))), (2, (.string (ByteArray.mk #[112, 111, 114, 116]))), (3, (.string (ByteArray.mk #[112, 114, 111, 116, 111])))]) (cells := [(.string (ByteArray.mk #[102, 114, 111, 109])), (.string (ByteArray.mk #[116, 111])), (.string (ByteArray.mk #[112, 111, 114, 116])), (.string (ByteArray.mk #[112, 114, 111, 116, 111]))]) ([(ByteArray.mk #[102, 114, 111, 109]), (ByteArray.mk #[116, 111]), (ByteArray.mk #[112, 111, 114, 116]), (ByteArray.mk #[112, 114, 111, 116, 111])]) flelStr (by intro ρ h; simp only [List.map_toArray, List.map_cons, List.map_nil, h (.const (.string (ByteArray.mk #[102, 114, 111, 109]))) _ rfl, h (.const (.string (ByteArray.mk #[116, 111]))) _ rfl, h (.const (.string (ByteArray.mk #[112, 111, 114, 116]))) _ rfl, h (.const (.string (ByteArray.mk #[112, 114, 111, 116, 111]))) _ rfl]) rfl el66 zero9 rfl rfl rfl rfl rfl rfl ?_); intro v198
      refine o_as st rfl rfl ?_
      refine c_nil ?_
      refine l_then ?_
      refine c_seq ?_
      refine c_seq ?_
      refine c_region ?_
      refine o_as st rfl rfl ?_
      refine c_nil ?_
      refine l_then ?_
      refine c_block ?_
      refine c_loop (σ := (Int × Int)) (fun ((t200, t201) : (Int × Int)) (a : Act) (w : World) => Has 69 [(0, (.string s_0)), (2, (.pointer (some ⟨b1, 0, none⟩))), (4, (.pointer (some ⟨b3, 0, none⟩))), (6, (.string r132)), (8, (.string r134)), (9, (.string t196)), (10, v198), (11, (.int .i64 t201))] a ∧ Mem (gB F [] w0) (feet []) w0 [ownCh elStr 9 v198 ([(ByteArray.mk #[102, 114, 111, 109]), (ByteArray.mk #[116, 111]), (ByteArray.mk #[112, 111, 114, 116]), (ByteArray.mk #[112, 114, 111, 116, 111])]), cellCh b3 [(.int .i64 t200), (.int .i64 0), (.int .i64 0), (.bool t129)] 25, cellCh b1 [(.int .i64 0), (.int .i64 0), (.int .i64 0), (.bool false)] 25] w) (fun a w hE hm => ⟨hE.sub ⟨rfl, rfl, rfl, rfl, rfl, rfl, rfl, rfl, trivial⟩, (hm.pick [0, 1, 2] rfl)⟩) ?_
      rintro nx202 ⟨t200, t201⟩ a w ⟨hE, hm⟩ h
      refine nx_of hE hm h ?_
      clear hE hm h
      refine c_seq ?_
      refine c_seq ?_
      refine c_region ?_
      refine o_mv st rfl rfl ?_
      refine o_mv st rfl rfl ?_
      refine o_len st el66 0 rfl reads_own rfl rfl ?_
      refine o_lss st rfl rfl rfl ?_
      refine c_nil ?_
      refine l_then ?_
      refine c_cond rfl ?_ ?_
      · refine c_skip ?_
        refine l_then ?_
        refine c_join (σ := Int) (fun (t265 : Int) (a : Act) (w : World) => Has 69 [(0, (.string s_0)), (2, (.pointer (some ⟨b1, 0, none⟩))), (4, (.pointer (some ⟨b3, 0, none⟩))), (6, (.string r132)), (8, (.string r134)), (9, (.string t196)), (10, v198), (11, (.int .i64 t201))] a ∧ Mem (gB F [] w0) (feet []) w0 [ownCh elStr 9 v198 ([(ByteArray.mk #[102, 114, 111, 109]), (ByteArray.mk #[116, 111]), (ByteArray.mk #[112, 111, 114, 116]), (ByteArray.mk #[112, 114, 111, 116, 111])]), cellCh b3 [(.int .i64 t265), (.int .i64 0), (.int .i64 0), (.bool t129)] 25, cellCh b1 [(.int .i64 0), (.int .i64 0), (.int .i64 0), (.bool false)] 25] w) ?_ ?_
        · intro k266
          refine c_block ?_
          refine c_seq ?_
          refine c_region ?_
          refine o_mv st rfl rfl ?_
          refine o_mv st rfl rfl ?_
          refine o_mv st rfl rfl ?_
          refine o_idx st 0 rfl reads_own rfl rfl rfl el66 ?_; intro e203 h204
          refine o_lds st (enc := encStr) (u := (.string e203)) 0 rfl reads_own flelStr rfl h204 rfl rfl ty9 rfl ?_
          refine o_eqlS st und9 rfl rfl rfl ?_
          refine c_nil ?_
          refine l_then ?_
          refine c_cond rfl ?_ ?_
          · refine c_region ?_
            refine o_mv st rfl rfl ?_
            refine o_fad st rfl rfl fld25_0 rfl ?_
            refine stw (o_stc (cs' := [(.int .i64 t201), (.int .i64 0), (.int .i64 0), (.bool t129)]) 1 rfl rfl rfl ty3 rfl rfl rfl rfl ?_)
            refine c_nil ?_
            refine b_norm ?_
            exact l_join t201 (fun a w hE hm => ⟨hE.sub ⟨rfl, rfl, rfl, rfl, rfl, rfl, rfl, rfl, trivial⟩, (hm.pick [0, 1, 2] rfl)⟩)
          · refine c_skip ?_
            refine b_norm ?_
            exact l_join t200 (fun a w hE hm => ⟨hE.sub ⟨rfl, rfl, rfl, rfl, rfl, rfl, rfl, rfl, trivial⟩, (hm.pick [0, 1, 2] rfl)⟩)
        · rintro t265 a w ⟨hE, hm⟩ h
          refine nx_of hE hm h ?_
          clear hE hm h
          refine c_region ?_
          refine o_mv st rfl rfl ?_
          refine o_add st rfl rfl rfl ?_; intro t267
          refine o_as st rfl rfl ?_
          refine c_nil ?_
          exact l_join (t265, t267) (fun a w hE hm => ⟨hE.sub ⟨rfl, rfl, rfl, rfl, rfl, rfl, rfl, rfl, trivial⟩, (hm.pick [0, 1, 2] rfl)⟩)
      · refine c_exit ?_
        refine l_exit ?_
        refine l_exit ?_
        refine b_exit ?_
        refine l_then ?_
        refine c_seq ?_
        refine c_region ?_
        refine o_mv st rfl rfl ?_
        refine stw (o_callP (vs := [(.string r134)]) Tryd.call55 rfl rfl (by intro w m h; exact (w_spec_l3Value (F := allB [] w) (s_0 := r134) allB_ok h).mono (fun _ _ k => ret_free (fun r u => fr_nil) k)) ?_); rintro r268 _
        refine o_fad st rfl rfl fld25_1 rfl ?_
        refine stw (o_stc (cs' := [(.int .i64 t200), (.int .i64 r268), (.int .i64 0), (.bool t129)]) 1 rfl rfl rfl ty3 rfl rfl rfl rfl ?_)
        refine c_nil ?_
        refine l_then ?_
        refine c_seq ?_
        refine c_region ?_
        refine o_mv st rfl rfl ?_
        refine stw (o_callP (vs := [(.string t196)]) Tryd.call55 rfl rfl (by intro w m h; exact (w_spec_l3Value (F := allB [] w) (s_0 := t196) allB_ok h).mono (fun _ _ k => ret_free (fun r u => fr_nil) k)) ?_); rintro r269 _
        refine o_fad st rfl rfl fld25_2 rfl ?_
        refine stw (o_stc (cs' := [(.int .i64 t200), (.int .i64 r268), (.int .i64 r269), (.bool t129)]) 1 rfl rfl rfl ty3 rfl rfl rfl rfl ?_)
        refine c_nil ?_
        refine l_then ?_
        refine c_seq ?_
        refine c_join (σ := Bool) (fun (t331 : Bool) (a : Act) (w : World) => Has 69 [(2, (.pointer (some ⟨b1, 0, none⟩))), (4, (.pointer (some ⟨b3, 0, none⟩))), (66, (.bool t331))] a ∧ Mem (gB F [] w0) (feet []) w0 [cellCh b3 [(.int .i64 t200), (.int .i64 r268), (.int .i64 r269), (.bool t129)] 25, cellCh b1 [(.int .i64 0), (.int .i64 0), (.int .i64 0), (.bool false)] 25] w) ?_ ?_
        · intro k332
          refine c_region ?_
          refine o_ldc st (v := (.agg #[(.int .i64 t200), (.int .i64 r268), (.int .i64 r269), (.bool t129)])) 1 rfl rfl rfl ty25 rfl ?_
          refine stw (o_callP (vs := [(.agg #[(.int .i64 t200), (.int .i64 r268), (.int .i64 r269), (.bool t129)])]) Tryd.call15 rfl rfl (by intro w m h; exact (w_spec_TestText (F := allB [] w) (t_0 := (GTest.mk t200 r268 r269 t129)) allB_ok h).mono (fun _ _ k => ret_free (fun r u => fr_nil) k)) ?_); rintro r270 _
          refine o_mv st rfl rfl ?_
          refine o_neqS st und9 rfl rfl rfl ?_
          refine o_mv st rfl rfl ?_
          refine st_sp (dj := 63) rfl ?_ ?_
          · refine st_s rfl rfl rfl rfl ?_
            refine st_s rfl rfl rfl rfl ?_
            refine o_pickT st rfl rfl rfl ?_
            refine c_nil ?_
            exact l_join true (fun a w hE hm => ⟨hE.sub ⟨rfl, rfl, rfl, trivial⟩, (hm.pick [1, 2] rfl)⟩)
          · refine o_mv (st_g rfl rfl) rfl rfl ?_
            refine o_eqlS (st_g rfl rfl) und9 rfl rfl rfl ?_
            refine o_pickF st rfl rfl rfl ?_
            refine c_nil ?_
            exact l_join (decide (s_0 = (ByteArray.mk #[]))) (fun a w hE hm => ⟨hE.sub ⟨rfl, rfl, rfl, trivial⟩, (hm.pick [1, 2] rfl)⟩)
        · rintro t331 a w ⟨hE, hm⟩ h
          refine nx_of hE hm h ?_
          clear hE hm h
          refine c_cond rfl ?_ ?_
          · refine c_seq ?_
            refine c_region ?_
            refine o_bld st (qs := []) (cells := [(.int .i64 0), (.int .i64 0), (.int .i64 0), (.bool false)]) (by intro ρ h; simp only [List.map_toArray, List.map_cons, List.map_nil]) rfl bld25 rfl ?_
            refine stw (o_stc (cs' := [(.int .i64 0), (.int .i64 0), (.int .i64 0), (.bool false)]) 1 rfl rfl rfl ty25 rfl rfl rfl rfl ?_)
            refine o_as st rfl rfl ?_
            refine c_nil ?_
            refine l_then ?_
            refine c_ret ?_
            refine l_ret ?_
            exact l_end2 Tryd.results27 ((GTest.mk 0 0 0 false), false) () (rv_c 1 rfl rfl ty25 rfl) (rv_t rfl) rfl (fun _ _ => NewCh.nil _ _ _ _)
          · refine c_skip ?_
            refine l_then ?_
            refine c_seq ?_
            refine c_region ?_
            refine o_ldc st (v := (.agg #[(.int .i64 t200), (.int .i64 r268), (.int .i64 r269), (.bool t129)])) 0 rfl rfl rfl ty25 rfl ?_
            refine stw (o_stc (cs' := [(.int .i64 t200), (.int .i64 r268), (.int .i64 r269), (.bool t129)]) 1 rfl rfl rfl ty25 rfl rfl rfl rfl ?_)
            refine o_as st rfl rfl ?_
            refine c_nil ?_
            refine l_then ?_
            refine c_ret ?_
            exact l_end2 Tryd.results27 ((GTest.mk t200 r268 r269 t129), true) () (rv_c 1 rfl rfl ty25 rfl) (rv_t rfl) rfl (fun _ _ => NewCh.nil _ _ _ _)

set_option maxRecDepth 100000 in
set_option maxHeartbeats 8000000 in
theorem w_impl_scanner_field {w0 : World} {F : Nat → Prop} {b1 : Nat} {in_0_text : ByteArray} {in_0_at : Int} {κ : (Int × Bool × Int) → Prop} (hF : ∀ b, F b → b < w0.heap.size ∧ ¬ feet [cellCh b1 [(.string in_0_text), (.int .i64 in_0_at)] 77] b) (hg : Given [cellCh b1 [(.string in_0_text), (.int .i64 in_0_at)] 77] F w0) (hgl0 : Sl elGFieldShape F w0 (.slice (some ⟨0, 0, none⟩) 4 4) gl_impl_fieldShapes) (h : L_impl_scanner_field in_0_text in_0_at κ) :
    Calls Tryd.prog 90 #[(.pointer (some ⟨b1, 0, none⟩))] w0 (Ret [cellCh b1 [(.string in_0_text), (.int .i64 in_0_at)] 77] F w0 κ (fun (r : (Int × Bool × Int)) (u : Unit) => .tuple #[(.int .i64 r.1), (.bool r.2.1)]) (fun (r : (Int × Bool × Int)) (u : Unit) => [cellCh b1 [(.string in_0_text), (.int .i64 r.2.2)] 77])) := by
  refine enterS (args := [(.pointer (some ⟨b1, 0, none⟩))]) [cellCh b1 [(.string in_0_text), (.int .i64 in_0_at)] 77] hF hg Tryd.func90 rfl Tryd.ntmps90 rfl h ?_
  clear h hF hg
  refine c_seq ?_
  refine c_region ?_
  refine o_as st rfl rfl ?_
  refine o_as st rfl rfl ?_
  refine c_nil ?_
  refine l_then ?_
  refine c_seq ?_
  refine c_seq ?_
  refine c_region ?_
  refine o_mv st rfl rfl ?_
  refine c_nil ?_
  refine l_then ?_
  refine c_block ?_
  refine c_loop (σ := (Int × Int)) (fun ((t3, t4) : (Int × Int)) (a : Act) (w : World) => Has 17 [(0, (.pointer (some ⟨b1, 0, none⟩))), (5, (.int .i64 t4))] a ∧ Mem (gB F [cellCh b1 [(.string in_0_text), (.int .i64 in_0_at)] 77] w0) (feet [cellCh b1 [(.string in_0_text), (.int .i64 in_0_at)] 77]) w0 [cellCh b1 [(.string in_0_text), (.int .i64 t3)] 77, snapCh w0 F] w) (fun a w hE hm => ⟨hE.sub ⟨rfl, rfl, trivial⟩, (hm.pick [0, 1] rfl)⟩) ?_
  rintro nx5 ⟨t3, t4⟩ a w ⟨hE, hm⟩ h
  refine nx_of hE hm h ?_
  clear hE hm h
  refine c_seq ?_
  refine c_region ?_
  refine o_lss st rfl rfl rfl ?_
  refine c_nil ?_
  refine l_then ?_
  refine c_seq ?_
  refine c_cond rfl ?_ ?_
  · refine c_skip ?_
    refine l_then ?_
    refine c_seq ?_
    refine c_block ?_
    refine c_seq ?_
    refine c_region ?_
    refine o_mv st rfl rfl ?_
    refine o_as st rfl rfl ?_
    refine c_nil ?_
    refine l_then ?_
    refine c_seq ?_
    refine c_region ?_
    refine o_mv st rfl rfl ?_
    refine o_mv st rfl rfl ?_
    refine o_ixa st 1 rfl (reads_snap hgl0) rfl rfl rfl arr107 ?_; intro e6 h7
    refine o_fadS st 1 rfl (reads_snap hgl0) h7 rfl rfl fld106_0 rfl ?_
    refine o_lds st (enc := encGFieldShape) (u := (.string e6.xName)) 1 rfl (reads_snap hgl0) flelGFieldShape rfl h7 rfl rfl ty9 rfl ?_
    refine o_cat st rfl rfl rfl ?_; intro s8
    refine stw (o_call (vs := [(.pointer (some ⟨b1, 0, none⟩)), (.string s8)]) (M0 := [cellCh b1 [(.string in_0_text), (.int .i64 t3)] 77]) Tryd.call57 rfl rfl (by intro w m h; exact (w_impl_scanner_word (F := allB [cellCh b1 [(.string in_0_text), (.int .i64 t3)] 77] w) (in_0_text := in_0_text) (in_0_at := t3) (w_1 := s8) allB_ok m.given h).mono (fun _ _ k => ret_free (fun r u => (fr_cons free_cell fr_nil)) k)) ?_); rintro ⟨r9, r10⟩ _
    refine c_nil ?_
    refine l_then ?_
    refine c_cond rfl ?_ ?_
    · refine c_seq ?_
      refine c_region ?_
      refine o_mv st rfl rfl ?_
      refine o_as st rfl rfl ?_
      refine o_as st rfl rfl ?_
      refine c_nil ?_
      refine l_then ?_
      refine c_ret ?_
      refine b_ret ?_
      refine l_ret ?_
      refine l_ret ?_
      refine b_ret ?_
      refine l_ret ?_
      exact l_end2 Tryd.results90 (t4, true, r10) () (rv_t rfl) (rv_t rfl) rfl (fun w m => NewCh.ofB m [0] rfl)
    · refine c_skip ?_
      refine b_norm ?_
      refine l_then ?_
      refine c_region ?_
      refine o_add st rfl rfl rfl ?_; intro t11
      refine o_mv st rfl rfl ?_
      refine c_nil ?_
      exact l_join (r10, t11) (fun a w hE hm => ⟨hE.sub ⟨rfl, rfl, trivial⟩, (hm.pick [0, 1] rfl)⟩)
  · refine c_exit ?_
    refine l_exit ?_
    refine l_exit ?_
    refine b_exit ?_
    refine l_then ?_
    refine c_seq ?_
    refine c_region ?_
    refine o_as st rfl rfl ?_
    refine o_as st rfl rfl ?_
    refine c_nil ?_
    refine l_then ?_
    refine c_ret ?_
    exact l_end2 Tryd.results90 (0, false, t3) () (rv_t rfl) (rv_t rfl) rfl (fun w m => NewCh.ofB m [0] rfl)

set_option maxRecDepth 100000 in
set_option maxHeartbeats 8000000 in
theorem w_impl_scanner_test {w0 : World} {F : Nat → Prop} {b1 : Nat} {in_0_text : ByteArray} {in_0_at : Int} {κ : (GTest × Bool × Int) → Prop} (hF : ∀ b, F b → b < w0.heap.size ∧ ¬ feet [cellCh b1 [(.string in_0_text), (.int .i64 in_0_at)] 77] b) (hg : Given [cellCh b1 [(.string in_0_text), (.int .i64 in_0_at)] 77] F w0) (hgl0 : Sl elGFieldShape F w0 (.slice (some ⟨0, 0, none⟩) 4 4) gl_impl_fieldShapes) (h : L_impl_scanner_test in_0_text in_0_at κ) :
    Calls Tryd.prog 66 #[(.pointer (some ⟨b1, 0, none⟩))] w0 (Ret [cellCh b1 [(.string in_0_text), (.int .i64 in_0_at)] 77] F w0 κ (fun (r : (GTest × Bool × Int)) (u : Unit) => .tuple #[(.agg #[(.int .i64 r.1.xField), (.int .i64 r.1.xLo), (.int .i64 r.1.xHi), (.bool r.1.xNot)]), (.bool r.2.1)]) (fun (r : (GTest × Bool × Int)) (u : Unit) => [cellCh b1 [(.string in_0_text), (.int .i64 r.2.2)] 77])) := by
  refine enterS (args := [(.pointer (some ⟨b1, 0, none⟩))]) [cellCh b1 [(.string in_0_text), (.int .i64 in_0_at)] 77] hF hg Tryd.func66 rfl Tryd.ntmps66 rfl h ?_
  clear h hF hg
  refine c_seq ?_
  refine c_region ?_
  refine stw (o_alloc rfl [(.int .i64 0), (.int .i64 0), (.int .i64 0), (.bool false)] zero25 ?_); intro b3
  refine o_as st rfl rfl ?_
  refine c_nil ?_
  refine l_then ?_
  refine c_seq ?_
  refine c_region ?_
  refine stw (o_alloc rfl [(.int .i64 0), (.int .i64 0), (.int .i64 0), (.bool false)] zero25 ?_); intro b5
  refine c_nil ?_
  refine l_then ?_
  refine c_seq ?_
  refine c_region ?_
  refine o_mv st rfl rfl ?_
  refine pk [2, 0, 1, 3] rfl ?_
  refine stw (o_call (vs := [(.pointer (some ⟨b1, 0, none⟩)), (.string (ByteArray.mk #[110, 111, 116, 32]))]) (M0 := [cellCh b1 [(.string in_0_text), (.int .i64 in_0_at)] 77]) Tryd.call57 rfl rfl (by intro w m h; exact (w_impl_scanner_word (F := allB [cellCh b1 [(.string in_0_text), (.int .i64 in_0_at)] 77] w) (in_0_text := in_0_text) (in_0_at := in_0_at) (w_1 := (ByteArray.mk #[110, 111, 116, 32])) allB_ok m.given h).mono (fun _ _ k => ret_free (fun r u => (fr_cons free_cell fr_nil)) k)) ?_); rintro ⟨r7, r8⟩ _
  refine o_fad st rfl rfl fld25_3 rfl ?_
  refine stw (o_stc (cs' := [(.int .i64 0), (.int .i64 0), (.int .i64 0), (.bool r7)]) 1 rfl rfl rfl ty4 rfl rfl rfl rfl ?_)
  refine c_nil ?_
  refine l_then ?_
  refine c_seq ?_
  refine c_region ?_
  refine o_mv st rfl rfl ?_
  refine stw (o_call (vs := [(.pointer (some ⟨b1, 0, none⟩))]) (M0 := [cellCh b1 [(.string in_0_text), (.int .i64 r8)] 77]) Tryd.call90 rfl rfl (by intro w m h; exact (w_impl_scanner_field (F := allB [cellCh b1 [(.string in_0_text), (.int .i64 r8)] 77] w) (in_0_text := in_0_text) (in_0_at := r8) allB_ok m.given (m.rdM 2 rfl (reads_snap hgl0)) h).mono (fun _ _ k => ret_free (fun r u => (fr_cons free_cell fr_nil)) k)) ?_); rintro ⟨r9, r10, r11⟩ _
  refine o_mv st rfl rfl ?_
  refine o_ext st (vs := [(.int .i64 r9), (.bool r10)]) rfl rfl rfl ?_
  refine o_ext st (vs := [(.int .i64 r9), (.bool r10)]) rfl rfl rfl ?_
  refine o_as st rfl rfl ?_
  refine o_as st rfl rfl ?_
  refine c_nil ?_
  refine l_then ?_
  refine c_seq ?_
  refine c_seq ?_
  refine c_region ?_
  refine o_mv st rfl rfl ?_
  refine o_not st rfl rfl ?_
  refine c_nil ?_
  refine l_then ?_
  refine c_cond rfl ?_ ?_
  · refine c_seq ?_
    refine c_region ?_
    refine o_bld st (qs := []) (cells := [(.int .i64 0), (.int .i64 0), (.int .i64 0), (.bool false)]) (by intro ρ h; simp only [List.map_toArray, List.map_cons, List.map_nil]) rfl bld25 rfl ?_
    refine stw (o_stc (cs' := [(.int .i64 0), (.int .i64 0), (.int .i64 0), (.bool false)]) 2 rfl rfl rfl ty25 rfl rfl rfl rfl ?_)
    refine o_as st rfl rfl ?_
    refine c_nil ?_
    refine l_then ?_
    refine c_ret ?_
    refine l_ret ?_
    exact l_end2 Tryd.results66 ((GTest.mk 0 0 0 false), false, r11) () (rv_c 2 rfl rfl ty25 rfl) (rv_t rfl) rfl (fun w m => NewCh.ofB m [0] rfl)
  · refine c_skip ?_
    refine l_then ?_
    refine c_seq ?_
    refine c_region ?_
    refine o_mv st rfl rfl ?_
    refine o_fad st rfl rfl fld25_0 rfl ?_
    refine stw (o_stc (cs' := [(.int .i64 r9), (.int .i64 0), (.int .i64 0), (.bool r7)]) 1 rfl rfl rfl ty3 rfl rfl rfl rfl ?_)
    refine c_nil ?_
    refine l_then ?_
    refine c_seq ?_
    refine c_seq ?_
    refine c_region ?_
    refine o_mv st rfl rfl ?_
    refine stw (o_call (vs := [(.pointer (some ⟨b1, 0, none⟩))]) (M0 := [cellCh b1 [(.string in_0_text), (.int .i64 r11)] 77]) Tryd.call56 rfl rfl (by intro w m h; exact (w_impl_scanner_number (F := allB [cellCh b1 [(.string in_0_text), (.int .i64 r11)] 77] w) (in_0_text := in_0_text) (in_0_at := r11) allB_ok m.given h).mono (fun _ _ k => ret_free (fun r u => (fr_cons free_cell fr_nil)) k)) ?_); rintro ⟨r12, r13, r14⟩ _
    refine o_mv st rfl rfl ?_
    refine o_ext st (vs := [(.int .i64 r12), (.bool r13)]) rfl rfl rfl ?_
    refine o_ext st (vs := [(.int .i64 r12), (.bool r13)]) rfl rfl rfl ?_
    refine o_fad st rfl rfl fld25_1 rfl ?_
    refine stw (o_stc (cs' := [(.int .i64 r9), (.int .i64 r12), (.int .i64 0), (.bool r7)]) 1 rfl rfl rfl ty3 rfl rfl rfl rfl ?_)
    refine o_as st rfl rfl ?_
    refine c_nil ?_
    refine l_then ?_
    refine c_seq ?_
    refine c_region ?_
    refine o_mv st rfl rfl ?_
    refine o_not st rfl rfl ?_
    refine c_nil ?_
    refine l_then ?_
    refine c_cond rfl ?_ ?_
    · refine c_seq ?_
      refine c_region ?_
      refine o_bld st (qs := []) (cells := [(.int .i64 0), (.int .i64 0), (.int .i64 0), (.bool false)]) (by intro ρ h; simp only [List.map_toArray, List.map_cons, List.map_nil]) rfl bld25 rfl ?_
      refine stw (o_stc (cs' := [(.int .i64 0), (.int .i64 0), (.int .i64 0), (.bool false)]) 2 rfl rfl rfl ty25 rfl rfl rfl rfl ?_)
      refine o_as st rfl rfl ?_
      refine c_nil ?_
      refine l_then ?_
      refine c_ret ?_
      refine l_ret ?_
      exact l_end2 Tryd.results66 ((GTest.mk 0 0 0 false), false, r14) () (rv_c 2 rfl rfl ty25 rfl) (rv_t rfl) rfl (fun w m => NewCh.ofB m [0] rfl)
    · refine c_skip ?_
      refine l_then ?_
      refine c_seq ?_
      refine c_region ?_
      refine o_fad st rfl rfl fld25_1 rfl ?_
      refine o_ldc st (v := (.int .i64 r12)) 1 rfl rfl rfl ty3 rfl ?_
      refine o_fad st rfl rfl fld25_2 rfl ?_
      refine stw (o_stc (cs' := [(.int .i64 r9), (.int .i64 r12), (.int .i64 r12), (.bool r7)]) 1 rfl rfl rfl ty3 rfl rfl rfl rfl ?_)
      refine c_nil ?_
      refine l_then ?_
      refine c_join (σ := (Int × Int)) (fun ((t80, t81) : (Int × Int)) (a : Act) (w : World) => Has 44 [(2, (.pointer (some ⟨b3, 0, none⟩))), (4, (.pointer (some ⟨b5, 0, none⟩)))] a ∧ Mem (gB F [cellCh b1 [(.string in_0_text), (.int .i64 in_0_at)] 77] w0) (feet [cellCh b1 [(.string in_0_text), (.int .i64 in_0_at)] 77]) w0 [cellCh b1 [(.string in_0_text), (.int .i64 t80)] 77, cellCh b5 [(.int .i64 r9), (.int .i64 r12), (.int .i64 t81), (.bool r7)] 25, cellCh b3 [(.int .i64 0), (.int .i64 0), (.int .i64 0), (.bool false)] 25, snapCh w0 F] w) ?_ ?_
      · intro k82
        refine c_seq ?_
        refine c_region ?_
        refine o_mv st rfl rfl ?_
        refine stw (o_call (vs := [(.pointer (some ⟨b1, 0, none⟩)), (.string (ByteArray.mk #[45]))]) (M0 := [cellCh b1 [(.string in_0_text), (.int .i64 r14)] 77]) Tryd.call57 rfl rfl (by intro w m h; exact (w_impl_scanner_word (F := allB [cellCh b1 [(.string in_0_text), (.int .i64 r14)] 77] w) (in_0_text := in_0_text) (in_0_at := r14) (w_1 := (ByteArray.mk #[45])) allB_ok m.given h).mono (fun _ _ k => ret_free (fun r u => (fr_cons free_cell fr_nil)) k)) ?_); rintro ⟨r15, r16⟩ _
        refine c_nil ?_
        refine l_then ?_
        refine c_cond rfl ?_ ?_
        · refine c_seq ?_
          refine c_region ?_
          refine o_mv st rfl rfl ?_
          refine stw (o_call (vs := [(.pointer (some ⟨b1, 0, none⟩))]) (M0 := [cellCh b1 [(.string in_0_text), (.int .i64 r16)] 77]) Tryd.call56 rfl rfl (by intro w m h; exact (w_impl_scanner_number (F := allB [cellCh b1 [(.string in_0_text), (.int .i64 r16)] 77] w) (in_0_text := in_0_text) (in_0_at := r16) allB_ok m.given h).mono (fun _ _ k => ret_free (fun r u => (fr_cons free_cell fr_nil)) k)) ?_); rintro ⟨r17, r18, r19⟩ _
          refine o_mv st rfl rfl ?_
          refine o_ext st (vs := [(.int .i64 r17), (.bool r18)]) rfl rfl rfl ?_
          refine o_ext st (vs := [(.int .i64 r17), (.bool r18)]) rfl rfl rfl ?_
          refine o_fad st rfl rfl fld25_2 rfl ?_
          refine stw (o_stc (cs' := [(.int .i64 r9), (.int .i64 r12), (.int .i64 r17), (.bool r7)]) 1 rfl rfl rfl ty3 rfl rfl rfl rfl ?_)
          refine o_as st rfl rfl ?_
          refine c_nil ?_
          refine l_then ?_
          refine c_seq ?_
          refine c_region ?_
          refine o_mv st rfl rfl ?_
          refine o_not st rfl rfl ?_
          refine c_nil ?_
          refine l_then ?_
          refine c_cond rfl ?_ ?_
          · refine c_seq ?_
            refine c_region ?_
            refine o_bld st (qs := []) (cells := [(.int .i64 0), (.int .i64 0), (.int .i64 0), (.bool false)]) (by intro ρ h; simp only [List.map_toArray, List.map_cons, List.map_nil]) rfl bld25 rfl ?_
            refine stw (o_stc (cs' := [(.int .i64 0), (.int .i64 0), (.int .i64 0), (.bool false)]) 2 rfl rfl rfl ty25 rfl rfl rfl rfl ?_)
            refine o_as st rfl rfl ?_
            refine c_nil ?_
            refine l_then ?_
            refine c_ret ?_
            refine l_ret ?_
            exact l_end2 Tryd.results66 ((GTest.mk 0 0 0 false), false, r19) () (rv_c 2 rfl rfl ty25 rfl) (rv_t rfl) rfl (fun w m => NewCh.ofB m [0] rfl)
          · refine c_skip ?_
            exact l_join (r19, r17) (fun a w hE hm => ⟨hE.sub ⟨rfl, rfl, trivial⟩, (hm.pick [0, 1, 2, 3] rfl)⟩)
        · refine c_skip ?_
          exact l_join (r16, r12) (fun a w hE hm => ⟨hE.sub ⟨rfl, rfl, trivial⟩, (hm.pick [0, 1, 2, 3] rfl)⟩)
      · rintro ⟨t80, t81⟩ a w ⟨hE, hm⟩ h
        refine nx_of hE hm h ?_
        clear hE hm h
        refine c_seq ?_
        refine c_region ?_
        refine o_ldc st (v := (.agg #[(.int .i64 r9), (.int .i64 r12), (.int .i64 t81), (.bool r7)])) 1 rfl rfl rfl ty25 rfl ?_
        refine stw (o_stc (cs' := [(.int .i64 r9), (.int .i64 r12), (.int .i64 t81), (.bool r7)]) 2 rfl rfl rfl ty25 rfl rfl rfl rfl ?_)
        refine o_as st rfl rfl ?_
        refine c_nil ?_
        refine l_then ?_
        refine c_ret ?_
        exact l_end2 Tryd.results66 ((GTest.mk r9 r12 t81 r7), true, t80) () (rv_c 2 rfl rfl ty25 rfl) (rv_t rfl) rfl (fun w m => NewCh.ofB m [0] rfl)

set_option maxRecDepth 100000 in
set_option maxHeartbeats 8000000 in
theorem w_impl_ReadTest {w0 : World} {F : Nat → Prop} {s_0 : ByteArray} {κ : (GTest × Bool) → Prop} (hF : ∀ b, F b → b < w0.heap.size ∧ ¬ feet [] b) (hgl0 : Sl elGFieldShape F w0 (.slice (some ⟨0, 0, none⟩) 4 4) gl_impl_fieldShapes) (hgl1 : Tb F w0) (h : L_impl_ReadTest s_0 κ) :
    Calls Tryd.prog 28 #[(.string s_0)] w0 (Ret [] F w0 κ (fun (r : (GTest × Bool)) (u : Unit) => .tuple #[(.agg #[(.int .i64 r.1.xField), (.int .i64 r.1.xLo), (.int .i64 r.1.xHi), (.bool r.1.xNot)]), (.bool r.2)]) (fun (r : (GTest × Bool)) (u : Unit) => [])) := by
  refine enterS (args := [(.string s_0)]) [] hF (Given.nil _ _) Tryd.func28 rfl Tryd.ntmps28 rfl h ?_
  clear h hF
  refine c_seq ?_
  refine c_region ?_
  refine stw (o_alloc rfl [(.int .i64 0), (.int .i64 0), (.int .i64 0), (.bool false)] zero25 ?_); intro b1
  refine o_as st rfl rfl ?_
  refine c_nil ?_
  refine l_then ?_
  refine c_seq ?_
  refine c_region ?_
  refine o_mv st rfl rfl ?_
  refine o_bld st (qs := [(0, (.string s_0))]) (cells := [(.string s_0), (.int .i64 0)]) (by intro ρ h; simp only [List.map_toArray, List.map_cons, List.map_nil, h (.tmp 7) _ rfl]) rfl bld77 rfl ?_
  refine stw (o_alloc rfl [(.string (ByteArray.mk #[])), (.int .i64 0)] zero77 ?_); intro b3
  refine stw (o_stc (cs' := [(.string s_0), (.int .i64 0)]) 0 rfl rfl rfl ty77 rfl rfl rfl rfl ?_)
  refine c_nil ?_
  refine l_then ?_
  refine c_seq ?_
  refine c_region ?_
  refine stw (o_call (vs := [(.pointer (some ⟨b3, 0, none⟩))]) (M0 := [cellCh b3 [(.string s_0), (.int .i64 0)] 77]) Tryd.call66 rfl rfl (by intro w m h; exact (w_impl_scanner_test (F := allB [cellCh b3 [(.string s_0), (.int .i64 0)] 77] w) (in_0_text := s_0) (in_0_at := 0) allB_ok m.given (m.rdM 1 rfl (reads_snap hgl0)) h).mono (fun _ _ k => ret_free (fun r u => (fr_cons free_cell fr_nil)) k)) ?_); rintro ⟨r5, r6, r7⟩ _
  refine o_mv st rfl rfl ?_
  refine o_ext st (vs := [(.agg #[(.int .i64 r5.xField), (.int .i64 r5.xLo), (.int .i64 r5.xHi), (.bool r5.xNot)]), (.bool r6)]) rfl rfl rfl ?_
  refine o_ext st (vs := [(.agg #[(.int .i64 r5.xField), (.int .i64 r5.xLo), (.int .i64 r5.xHi), (.bool r5.xNot)]), (.bool r6)]) rfl rfl rfl ?_
  refine stw (o_alloc rfl [(.int .i64 0), (.int .i64 0), (.int .i64 0), (.bool false)] zero25 ?_); intro b8
  refine stw (o_stc (cs' := [(.int .i64 r5.xField), (.int .i64 r5.xLo), (.int .i64 r5.xHi), (.bool r5.xNot)]) 0 rfl rfl rfl ty25 rfl rfl rfl rfl ?_)
  refine o_as st rfl rfl ?_
  refine c_nil ?_
  refine l_then ?_
  refine c_seq ?_
  refine c_join (σ := Bool) (fun (t73 : Bool) (a : Act) (w : World) => Has 32 [(2, (.pointer (some ⟨b1, 0, none⟩))), (5, (.pointer (some ⟨b8, 0, none⟩))), (29, (.bool t73))] a ∧ Mem (gB F [] w0) (feet []) w0 [cellCh b8 [(.int .i64 r5.xField), (.int .i64 r5.xLo), (.int .i64 r5.xHi), (.bool r5.xNot)] 25, cellCh b1 [(.int .i64 0), (.int .i64 0), (.int .i64 0), (.bool false)] 25, snapCh w0 F] w) ?_ ?_
  · intro k74
    refine c_region ?_
    refine o_mv st rfl rfl ?_
    refine o_not st rfl rfl ?_
    refine o_mv st rfl rfl ?_
    refine st_sp (dj := 15) rfl ?_ ?_
    · refine st_s rfl rfl rfl rfl ?_
      refine st_s rfl rfl rfl rfl ?_
      refine o_pickT st rfl rfl rfl ?_
      refine o_mv st rfl rfl ?_
      refine st_s rfl rfl rfl rfl ?_
      refine st_s rfl rfl rfl rfl ?_
      refine st_s rfl rfl rfl rfl ?_
      refine o_pickT st rfl rfl rfl ?_
      refine o_mv st rfl rfl ?_
      refine st_s rfl rfl rfl rfl ?_
      refine st_s rfl rfl rfl rfl ?_
      refine st_s rfl rfl rfl rfl ?_
      refine st_s rfl rfl rfl rfl ?_
      refine o_pickT st rfl rfl rfl ?_
      refine c_nil ?_
      exact l_join true (fun a w hE hm => ⟨hE.sub ⟨rfl, rfl, rfl, trivial⟩, (hm.pick [0, 2, 3] rfl)⟩)
    · refine pk [1, 0, 2, 3] rfl ?_
      refine st_gw rfl rfl (o_call (vs := [(.pointer (some ⟨b3, 0, none⟩))]) (M0 := [cellCh b3 [(.string s_0), (.int .i64 r7)] 77]) Tryd.call67 rfl rfl (by intro w m h; exact (w_impl_scanner_done (F := allB [cellCh b3 [(.string s_0), (.int .i64 r7)] 77] w) (in_0_text := s_0) (in_0_at := r7) allB_ok m.given h).mono (fun _ _ k => ret_free (fun r u => (fr_cons free_cell fr_nil)) k)) ?_); rintro r10 _
      refine o_not (st_g rfl rfl) rfl rfl ?_
      refine o_pickF st rfl rfl rfl ?_
      refine o_mv st rfl rfl ?_
      refine st_sp (dj := 19) rfl ?_ ?_
      · refine st_s rfl rfl rfl rfl ?_
        refine st_s rfl rfl rfl rfl ?_
        refine st_s rfl rfl rfl rfl ?_
        refine o_pickT st rfl rfl rfl ?_
        refine o_mv st rfl rfl ?_
        refine st_s rfl rfl rfl rfl ?_
        refine st_s rfl rfl rfl rfl ?_
        refine st_s rfl rfl rfl rfl ?_
        refine st_s rfl rfl rfl rfl ?_
        refine o_pickT st rfl rfl rfl ?_
        refine c_nil ?_
        exact l_join true (fun a w hE hm => ⟨hE.sub ⟨rfl, rfl, rfl, trivial⟩, (hm.pick [1, 2, 3] rfl)⟩)
      · refine o_ldc (st_g rfl rfl) (v := (.agg #[(.int .i64 r5.xField), (.int .i64 r5.xLo), (.int .i64 r5.xHi), (.bool r5.xNot)])) 1 rfl rfl rfl ty25 rfl ?_
        refine st_gw rfl rfl (o_callP (vs := [(.agg #[(.int .i64 r5.xField), (.int .i64 r5.xLo), (.int .i64 r5.xHi), (.bool r5.xNot)])]) Tryd.call52 rfl rfl (by intro w m h; exact (w_impl_TestValid (F := allB [] w) (t_0 := r5) allB_ok (m.rd0 3 rfl (reads_snap hgl0)) h).mono (fun _ _ k => ret_free (fun r u => fr_nil) k)) ?_); rintro r11 _
        refine o_not (st_g rfl rfl) rfl rfl ?_
        refine o_pickF st rfl rfl rfl ?_
        refine o_mv st rfl rfl ?_
        refine st_sp (dj := 24) rfl ?_ ?_
        · refine st_s rfl rfl rfl rfl ?_
          refine st_s rfl rfl rfl rfl ?_
          refine st_s rfl rfl rfl rfl ?_
          refine st_s rfl rfl rfl rfl ?_
          refine o_pickT st rfl rfl rfl ?_
          refine c_nil ?_
          exact l_join true (fun a w hE hm => ⟨hE.sub ⟨rfl, rfl, rfl, trivial⟩, (hm.pick [1, 2, 3] rfl)⟩)
        · refine o_ldc (st_g rfl rfl) (v := (.agg #[(.int .i64 r5.xField), (.int .i64 r5.xLo), (.int .i64 r5.xHi), (.bool r5.xNot)])) 1 rfl rfl rfl ty25 rfl ?_
          refine st_gw rfl rfl (o_callP (vs := [(.agg #[(.int .i64 r5.xField), (.int .i64 r5.xLo), (.int .i64 r5.xHi), (.bool r5.xNot)])]) Tryd.call53 rfl rfl (by intro w m h; exact (w_impl_Test_text (F := allB [] w) (t_0 := r5) allB_ok (m.rd0 3 rfl (reads_snap hgl0)) ((hgl1.of (m.get (i := 3) rfl)).mono fz_ok0) h).mono (fun _ _ k => ret_free (fun r u => fr_nil) k)) ?_); rintro r12 _
          refine o_mv (st_g rfl rfl) rfl rfl ?_
          refine o_neqS (st_g rfl rfl) und9 rfl rfl rfl ?_
          refine o_pickF st rfl rfl rfl ?_
          refine c_nil ?_
          exact l_join (!(decide (r12 = s_0))) (fun a w hE hm => ⟨hE.sub ⟨rfl, rfl, rfl, trivial⟩, (hm.pick [1, 2, 3] rfl)⟩)
  · rintro t73 a w ⟨hE, hm⟩ h
    refine nx_of hE hm h ?_
    clear hE hm h
    refine c_cond rfl ?_ ?_
    · refine c_seq ?_
      refine c_region ?_
      refine o_bld st (qs := []) (cells := [(.int .i64 0), (.int .i64 0), (.int .i64 0), (.bool false)]) (by intro ρ h; simp only [List.map_toArray, List.map_cons, List.map_nil]) rfl bld25 rfl ?_
      refine stw (o_stc (cs' := [(.int .i64 0), (.int .i64 0), (.int .i64 0), (.bool false)]) 1 rfl rfl rfl ty25 rfl rfl rfl rfl ?_)
      refine o_as st rfl rfl ?_
      refine c_nil ?_
      refine l_then ?_
      refine c_ret ?_
      refine l_ret ?_
      exact l_end2 Tryd.results28 ((GTest.mk 0 0 0 false), false) () (rv_c 1 rfl rfl ty25 rfl) (rv_t rfl) rfl (fun _ _ => NewCh.nil _ _ _ _)
    · refine c_skip ?_
      refine l_then ?_
      refine c_seq ?_
      refine c_region ?_
      refine o_ldc st (v := (.agg #[(.int .i64 r5.xField), (.int .i64 r5.xLo), (.int .i64 r5.xHi), (.bool r5.xNot)])) 0 rfl rfl rfl ty25 rfl ?_
      refine stw (o_stc (cs' := [(.int .i64 r5.xField), (.int .i64 r5.xLo), (.int .i64 r5.xHi), (.bool r5.xNot)]) 1 rfl rfl rfl ty25 rfl rfl rfl rfl ?_)
      refine o_as st rfl rfl ?_
      refine c_nil ?_
      refine l_then ?_
      refine c_ret ?_
      exact l_end2 Tryd.results28 (r5, true) () (rv_c 1 rfl rfl ty25 rfl) (rv_t rfl) rfl (fun _ _ => NewCh.nil _ _ _ _)

set_option maxRecDepth 100000 in
set_option maxHeartbeats 8000000 in
theorem w_laws_eqTest {w0 : World} {F : Nat → Prop} {a_0 : GTest} {b_1 : GTest} {κ : Bool → Prop} (hF : ∀ b, F b → b < w0.heap.size ∧ ¬ feet [] b) (h : L_laws_eqTest a_0 b_1 κ) :
    Calls Tryd.prog 29 #[(.agg #[(.int .i64 a_0.xField), (.int .i64 a_0.xLo), (.int .i64 a_0.xHi), (.bool a_0.xNot)]), (.agg #[(.int .i64 b_1.xField), (.int .i64 b_1.xLo), (.int .i64 b_1.xHi), (.bool b_1.xNot)])] w0 (Ret [] F w0 κ (fun (r : Bool) (u : Unit) => (.bool r)) (fun (r : Bool) (u : Unit) => [])) := by
  refine enter0 (args := [(.agg #[(.int .i64 a_0.xField), (.int .i64 a_0.xLo), (.int .i64 a_0.xHi), (.bool a_0.xNot)]), (.agg #[(.int .i64 b_1.xField), (.int .i64 b_1.xLo), (.int .i64 b_1.xHi), (.bool b_1.xNot)])]) [] hF (Given.nil _ _) Tryd.func29 rfl Tryd.ntmps29 rfl h ?_
  clear h hF
  refine c_seq ?_
  refine c_region ?_
  refine stw (o_box rfl rfl [(.int .i64 a_0.xField), (.int .i64 a_0.xLo), (.int .i64 a_0.xHi), (.bool a_0.xNot)] rfl ?_); intro b1
  refine stw (o_box rfl rfl [(.int .i64 b_1.xField), (.int .i64 b_1.xLo), (.int .i64 b_1.xHi), (.bool b_1.xNot)] rfl ?_); intro b3
  refine o_as st rfl rfl ?_
  refine c_nil ?_
  refine l_then ?_
  refine c_seq ?_
  refine c_seq ?_
  refine c_region ?_
  refine o_fad st rfl rfl fld25_0 rfl ?_
  refine o_ldc st (v := (.int .i64 a_0.xField)) 1 rfl rfl rfl ty3 rfl ?_
  refine o_fad st rfl rfl fld25_0 rfl ?_
  refine o_ldc st (v := (.int .i64 b_1.xField)) 0 rfl rfl rfl ty3 rfl ?_
  refine o_neq st und3 rfl rfl rfl ?_
  refine c_nil ?_
  refine l_then ?_
  refine c_cond rfl ?_ ?_
  · refine c_seq ?_
    refine c_region ?_
    refine o_as st rfl rfl ?_
    refine c_nil ?_
    refine l_then ?_
    refine c_ret ?_
    refine l_ret ?_
    exact l_end1 Tryd.results29 false () (rv_t rfl) (fun _ _ => NewCh.nil _ _ _ _)
  · refine c_skip ?_
    refine l_then ?_
    refine c_seq ?_
    refine c_seq ?_
    refine c_region ?_
    refine o_fad st rfl rfl fld25_1 rfl ?_
    refine o_ldc st (v := (.int .i64 a_0.xLo)) 1 rfl rfl rfl ty3 rfl ?_
    refine o_fad st rfl rfl fld25_1 rfl ?_
    refine o_ldc st (v := (.int .i64 b_1.xLo)) 0 rfl rfl rfl ty3 rfl ?_
    refine o_neq st und3 rfl rfl rfl ?_
    refine c_nil ?_
    refine l_then ?_
    refine c_cond rfl ?_ ?_
    · refine c_seq ?_
      refine c_region ?_
      refine o_as st rfl rfl ?_
      refine c_nil ?_
      refine l_then ?_
      refine c_ret ?_
      refine l_ret ?_
      exact l_end1 Tryd.results29 false () (rv_t rfl) (fun _ _ => NewCh.nil _ _ _ _)
    · refine c_skip ?_
      refine l_then ?_
      refine c_seq ?_
      refine c_seq ?_
      refine c_region ?_
      refine o_fad st rfl rfl fld25_2 rfl ?_
      refine o_ldc st (v := (.int .i64 a_0.xHi)) 1 rfl rfl rfl ty3 rfl ?_
      refine o_fad st rfl rfl fld25_2 rfl ?_
      refine o_ldc st (v := (.int .i64 b_1.xHi)) 0 rfl rfl rfl ty3 rfl ?_
      refine o_neq st und3 rfl rfl rfl ?_
      refine c_nil ?_
      refine l_then ?_
      refine c_cond rfl ?_ ?_
      · refine c_seq ?_
        refine c_region ?_
        refine o_as st rfl rfl ?_
        refine c_nil ?_
        refine l_then ?_
        refine c_ret ?_
        refine l_ret ?_
        exact l_end1 Tryd.results29 false () (rv_t rfl) (fun _ _ => NewCh.nil _ _ _ _)
      · refine c_skip ?_
        refine l_then ?_
        refine c_seq ?_
        refine c_seq ?_
        refine c_region ?_
        refine o_fad st rfl rfl fld25_3 rfl ?_
        refine o_ldc st (v := (.bool a_0.xNot)) 1 rfl rfl rfl ty4 rfl ?_
        refine o_fad st rfl rfl fld25_3 rfl ?_
        refine o_ldc st (v := (.bool b_1.xNot)) 0 rfl rfl rfl ty4 rfl ?_
        refine o_neqB st und4 rfl rfl rfl ?_
        refine c_nil ?_
        refine l_then ?_
        refine c_cond rfl ?_ ?_
        · refine c_seq ?_
          refine c_region ?_
          refine o_as st rfl rfl ?_
          refine c_nil ?_
          refine l_then ?_
          refine c_ret ?_
          refine l_ret ?_
          exact l_end1 Tryd.results29 false () (rv_t rfl) (fun _ _ => NewCh.nil _ _ _ _)
        · refine c_skip ?_
          refine l_then ?_
          refine c_seq ?_
          refine c_region ?_
          refine o_as st rfl rfl ?_
          refine c_nil ?_
          refine l_then ?_
          refine c_ret ?_
          exact l_end1 Tryd.results29 true () (rv_t rfl) (fun _ _ => NewCh.nil _ _ _ _)

set_option maxRecDepth 100000 in
set_option maxHeartbeats 8000000 in
theorem w_laws_FnExactReadTest {w0 : World} {F : Nat → Prop} {aS_0 : ByteArray} {κ : Bool → Prop} (hF : ∀ b, F b → b < w0.heap.size ∧ ¬ feet [] b) (hgl0 : Sl elGFieldShape F w0 (.slice (some ⟨0, 0, none⟩) 4 4) gl_impl_fieldShapes) (hgl1 : Tb F w0) (h : L_laws_FnExactReadTest aS_0 κ) :
    Calls Tryd.prog 7 #[(.string aS_0)] w0 (Ret [] F w0 κ (fun (r : Bool) (u : Unit) => (.bool r)) (fun (r : Bool) (u : Unit) => [])) := by
  refine enterS (args := [(.string aS_0)]) [] hF (Given.nil _ _) Tryd.func7 rfl Tryd.ntmps7 rfl h ?_
  clear h hF
  refine c_seq ?_
  refine c_region ?_
  refine o_as st rfl rfl ?_
  refine c_nil ?_
  refine l_then ?_
  refine c_seq ?_
  refine c_seq ?_
  refine c_region ?_
  refine o_mv st rfl rfl ?_
  refine o_lenS st und9 rfl rfl ?_
  refine o_gtr st rfl rfl rfl ?_
  refine c_nil ?_
  refine l_then ?_
  refine c_cond rfl ?_ ?_
  · refine c_seq ?_
    refine c_region ?_
    refine o_as st rfl rfl ?_
    refine c_nil ?_
    refine l_then ?_
    refine c_ret ?_
    refine l_ret ?_
    exact l_end1 Tryd.results7 true () (rv_t rfl) (fun _ _ => NewCh.nil _ _ _ _)
  · refine c_skip ?_
    refine l_then ?_
    refine c_seq ?_
    refine c_region ?_
    refine o_mv st rfl rfl ?_
    refine stw (o_callP (vs := [(.string aS_0)]) Tryd.call27 rfl rfl (by intro w m h; exact (w_spec_ReadTest (F := allB [] w) (s_0 := aS_0) allB_ok h).mono (fun _ _ k => ret_free (fun r u => fr_nil) k)) ?_); rintro ⟨r1, r2⟩ _
    refine o_mv st rfl rfl ?_
    refine o_ext st (vs := [(.agg #[(.int .i64 r1.xField), (.int .i64 r1.xLo), (.int .i64 r1.xHi), (.bool r1.xNot)]), (.bool r2)]) rfl rfl rfl ?_
    refine o_ext st (vs := [(.agg #[(.int .i64 r1.xField), (.int .i64 r1.xLo), (.int .i64 r1.xHi), (.bool r1.xNot)]), (.bool r2)]) rfl rfl rfl ?_
    refine stw (o_alloc rfl [(.int .i64 0), (.int .i64 0), (.int .i64 0), (.bool false)] zero25 ?_); intro b3
    refine stw (o_stc (cs' := [(.int .i64 r1.xField), (.int .i64 r1.xLo), (.int .i64 r1.xHi), (.bool r1.xNot)]) 0 rfl rfl rfl ty25 rfl rfl rfl rfl ?_)
    refine o_as st rfl rfl ?_
    refine c_nil ?_
    refine l_then ?_
    refine c_seq ?_
    refine c_region ?_
    refine o_mv st rfl rfl ?_
    refine stw (o_callP (vs := [(.string aS_0)]) Tryd.call28 rfl rfl (by intro w m h; exact (w_impl_ReadTest (F := allB [] w) (s_0 := aS_0) allB_ok (m.rd0 1 rfl (reads_snap hgl0)) ((hgl1.of (m.get (i := 1) rfl)).mono fz_ok0) h).mono (fun _ _ k => ret_free (fun r u => fr_nil) k)) ?_); rintro ⟨r5, r6⟩ _
    refine o_mv st rfl rfl ?_
    refine o_ext st (vs := [(.agg #[(.int .i64 r5.xField), (.int .i64 r5.xLo), (.int .i64 r5.xHi), (.bool r5.xNot)]), (.bool r6)]) rfl rfl rfl ?_
    refine o_ext st (vs := [(.agg #[(.int .i64 r5.xField), (.int .i64 r5.xLo), (.int .i64 r5.xHi), (.bool r5.xNot)]), (.bool r6)]) rfl rfl rfl ?_
    refine stw (o_alloc rfl [(.int .i64 0), (.int .i64 0), (.int .i64 0), (.bool false)] zero25 ?_); intro b7
    refine stw (o_stc (cs' := [(.int .i64 r5.xField), (.int .i64 r5.xLo), (.int .i64 r5.xHi), (.bool r5.xNot)]) 0 rfl rfl rfl ty25 rfl rfl rfl rfl ?_)
    refine o_as st rfl rfl ?_
    refine c_nil ?_
    refine l_then ?_
    refine c_seq ?_
    refine c_join (σ := Bool) (fun (t70 : Bool) (a : Act) (w : World) => Has 29 [(28, (.bool t70))] a ∧ Mem (gB F [] w0) (feet []) w0 [snapCh w0 F] w) ?_ ?_
    · intro k71
      refine c_region ?_
      refine o_ldc st (v := (.agg #[(.int .i64 r5.xField), (.int .i64 r5.xLo), (.int .i64 r5.xHi), (.bool r5.xNot)])) 0 rfl rfl rfl ty25 rfl ?_
      refine o_ldc st (v := (.agg #[(.int .i64 r1.xField), (.int .i64 r1.xLo), (.int .i64 r1.xHi), (.bool r1.xNot)])) 1 rfl rfl rfl ty25 rfl ?_
      refine stw (o_callP (vs := [(.agg #[(.int .i64 r5.xField), (.int .i64 r5.xLo), (.int .i64 r5.xHi), (.bool r5.xNot)]), (.agg #[(.int .i64 r1.xField), (.int .i64 r1.xLo), (.int .i64 r1.xHi), (.bool r1.xNot)])]) Tryd.call29 rfl rfl (by intro w m h; exact (w_laws_eqTest (F := allB [] w) (a_0 := r5) (b_1 := r1) allB_ok h).mono (fun _ _ k => ret_free (fun r u => fr_nil) k)) ?_); rintro r9 _
      refine o_not st rfl rfl ?_
      refine o_mv st rfl rfl ?_
      refine st_sp (dj := 24) rfl ?_ ?_
      · refine st_s rfl rfl rfl rfl ?_
        refine st_s rfl rfl rfl rfl ?_
        refine st_s rfl rfl rfl rfl ?_
        refine o_pickT st rfl rfl rfl ?_
        refine c_nil ?_
        exact l_join true (fun a w hE hm => ⟨hE.sub ⟨rfl, trivial⟩, (hm.pick [2] rfl)⟩)
      · refine o_mv (st_g rfl rfl) rfl rfl ?_
        refine o_mv (st_g rfl rfl) rfl rfl ?_
        refine o_neqB (st_g rfl rfl) und4 rfl rfl rfl ?_
        refine o_pickF st rfl rfl rfl ?_
        refine c_nil ?_
        exact l_join (!(decide (r6 = r2))) (fun a w hE hm => ⟨hE.sub ⟨rfl, trivial⟩, (hm.pick [2] rfl)⟩)
    · rintro t70 a w ⟨hE, hm⟩ h
      refine nx_of hE hm h ?_
      clear hE hm h
      refine c_cond rfl ?_ ?_
      · refine c_seq ?_
        refine c_region ?_
        refine o_as st rfl rfl ?_
        refine c_nil ?_
        refine l_then ?_
        refine c_ret ?_
        refine l_ret ?_
        exact l_end1 Tryd.results7 false () (rv_t rfl) (fun _ _ => NewCh.nil _ _ _ _)
      · refine c_skip ?_
        refine l_then ?_
        refine c_seq ?_
        refine c_region ?_
        refine o_as st rfl rfl ?_
        refine c_nil ?_
        refine l_then ?_
        refine c_ret ?_
        exact l_end1 Tryd.results7 true () (rv_t rfl) (fun _ _ => NewCh.nil _ _ _ _)


end Go.Proofs.YtnogaeckmiekdaaDoor
